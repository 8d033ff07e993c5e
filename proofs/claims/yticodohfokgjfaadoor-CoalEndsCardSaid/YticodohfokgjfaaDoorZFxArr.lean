/- Part of a logic of my own for walks: rules by which a proof steps through code, proved once. -/
import Derived.Test.YticodohfokgjfaaDoorZFxIter
set_option linter.unusedSimpArgs false
set_option linter.unusedVariables false
namespace Go.Fx
open Go
/-! ### arrays of structs, by a list -/
section
variable {α : Type} [Inhabited α] {enc : α → List Value} {s : Nat}
def agetS (l : List α) (j : Int) : α := l.getD j.toNat default
def asetS (l : List α) (n : Nat) (i : Int) (x : α) : List α := (List.range n).map fun k => if k = i.toNat then x else l.getD k default
def sgEF (enc : α → List Value) (l : List α) : Nat → Nat → List Value
  | _, 0 => []
  | k, n + 1 => enc (l.getD k default) ++ sgEF enc l (k + 1) n
/-- the cells of an array of n structs -/
def sgE (enc : α → List Value) (l : List α) (n : Nat) : List Value := sgEF enc l 0 n
theorem sgEF_len (he : ∀ x, (enc x).length = s) (l : List α) : ∀ (n k : Nat), (sgEF enc l k n).length = n * s
  | 0, _ => by simp [sgEF]
  | n + 1, k => by rw [sgEF, List.length_append, he, sgEF_len he l n (k + 1), Nat.succ_mul]; omega
theorem sgEF_app (l : List α) : ∀ (m k n : Nat), sgEF enc l k (m + n) = sgEF enc l k m ++ sgEF enc l (k + m) n
  | 0, k, n => by simp [sgEF]
  | m + 1, k, n => by rw [show m + 1 + n = (m + n) + 1 by omega, sgEF, sgEF, sgEF_app l m (k + 1) n, List.append_assoc, show k + 1 + m = k + (m + 1) by omega]
theorem sgEF_congr {l l' : List α} : ∀ (n k : Nat), (∀ i, k ≤ i → i < k + n → l.getD i default = l'.getD i default) → sgEF enc l k n = sgEF enc l' k n
  | 0, _, _ => rfl
  | n + 1, k, h => by rw [sgEF, sgEF, h k (Nat.le_refl _) (by omega), sgEF_congr n (k + 1) fun i h1 h2 => h i (by omega) (by omega)]
theorem asetS_get {l : List α} {n : Nat} {i : Int} {x : α} {k : Nat} (hk : k < n) : (asetS l n i x).getD k default = if k = i.toNat then x else l.getD k default := by
  simp [asetS, List.getD_eq_getElem?_getD, hk]
theorem asetS_len {l : List α} {n : Nat} {i : Int} {x : α} : (asetS l n i x).length = n := by simp [asetS]
theorem sgE_split (l : List α) {n k : Nat} (hk : k < n) : sgE enc l n = sgEF enc l 0 k ++ enc (l.getD k default) ++ sgEF enc l (k + 1) (n - k - 1) := by
  unfold sgE
  conv => lhs; rw [show n = k + ((n - k - 1) + 1) by omega]
  rw [sgEF_app, sgEF, Nat.zero_add, List.append_assoc]
theorem sgE_set (l : List α) {n : Nat} {j : Int} {x : α} (hk : j.toNat < n) : sgE enc (asetS l n j x) n = sgEF enc l 0 j.toNat ++ enc x ++ sgEF enc l (j.toNat + 1) (n - j.toNat - 1) := by
  rw [sgE_split _ hk, asetS_get hk, if_pos rfl, sgEF_congr (l' := l) j.toNat 0 fun i h1 h2 => by rw [asetS_get (by omega), if_neg (by omega)], sgEF_congr (l' := l) (n - j.toNat - 1) (j.toNat + 1) fun i h1 h2 => by rw [asetS_get (by omega), if_neg (by omega)]]
theorem asetS_eq {l : List α} {n : Nat} {i : Int} {x : α} (hl : l.length = n) : asetS l n i x = l.set i.toNat x := by
  subst hl
  refine List.ext_getElem (by simp [asetS]) fun k h2 h3 => ?_
  simp only [asetS, List.length_map, List.length_range] at h2
  simp only [asetS, List.getElem_map, List.getElem_range, List.getElem_set]
  by_cases hk : k = i.toNat
  · subst hk; simp
  · have hk' : ¬ i.toNat = k := fun h => hk h.symm
    simp [hk, hk', List.getD, h2]
variable {ro : Option Nat} {P : Program} {full : Array Oper} {Q : Exit → Act → World → Prop} {n : Nat} {d : List Deferred} {e : Env} {w w0 : World} {C : Nat → Prop} {X L : List Asr}
variable {rest : List Oper} {ty : TypeId} {ps : String} {af : Array Edge}
theorem p_ldDA {t i b o m : Nat} {x : Operand} {pre post cs : List Value} {l : List α} {j : Int} {ct : TypeId} (hT : aggOf P t = some true) (hs : sizOf P t = some s) (hw : w.heap[b]? = some (.cells cs.toArray ct)) (hc : cs = pre ++ (sgE enc l m ++ post)) (he : ∀ x, (enc x).length = s) (hj : inI j m = true)
    (hx : evn n e x = .pointer (some ⟨b, o + j.toNat * s, none⟩)) (ho : pre.length = o)
    (h : wpA ro P full Q rest (E n (upd e i (AG (enc (agetS l j)))) d) w) : wpA ro P full Q (⟨some i, .load t x, ty, ps, af, none⟩ :: rest) (E n e d) w := by
  obtain ⟨h0, h1⟩ := inI_spec hj
  have hk : j.toNat < m := by omega
  have hA := sgEF_len he l j.toNat 0
  refine o_ldN hx hT hs (he _) (box_cells hw ?_) h
  rw [hc, sgE_split l hk, he]
  have e1 : pre ++ (sgEF enc l 0 j.toNat ++ enc (l.getD j.toNat default) ++ sgEF enc l (j.toNat + 1) (m - j.toNat - 1) ++ post) = (pre ++ sgEF enc l 0 j.toNat) ++ (enc (l.getD j.toNat default) ++ (sgEF enc l (j.toNat + 1) (m - j.toNat - 1) ++ post)) := by simp
  simp only [List.toList_toArray]
  rw [e1, List.drop_left' (by simp; omega), List.take_left' (he _)]
  rfl
theorem p_stDE {t b i o m : Nat} {x y : Operand} {cs pre post vs : List Value} {l : List α} {x' : α} {j : Int} {v : Value} {ct : TypeId} (hs : sizOf P t = some s) (S : St w0 C w X L) (hi : X[i]? = some (bl b cs ct)) (hcs : cs = pre ++ (sgE enc l m ++ post)) (he : ∀ x, (enc x).length = s) (h1 : ∀ x, ∀ u ∈ enc x, u.oneCell' = true) (hj : inI j m = true)
    (hx : evn n e x = .pointer (some ⟨b, o + j.toNat * s, none⟩)) (ho : pre.length = o) (hy : evn n e y = v) (hv : v.cells.toList = enc x')
    (h : ∀ w', St w0 C w' (X.set i (bl b (pre ++ (sgE enc (asetS l m j x') m ++ post)) ct)) L → wpA ro P full Q rest (E n e d) w') : wpA ro P full Q (⟨none, .store t x y, ty, ps, af, none⟩ :: rest) (E n e d) w := by
  obtain ⟨h0, h2⟩ := inI_spec hj
  have hk : j.toNat < m := by omega
  have hA := sgEF_len he l j.toNat 0
  have e1 : cs = (pre ++ sgEF enc l 0 j.toNat) ++ enc (l.getD j.toNat default) ++ (sgEF enc l (j.toNat + 1) (m - j.toNat - 1) ++ post) := by rw [hcs, sgE_split l hk]; simp
  have e2 : pre ++ (sgE enc (asetS l m j x') m ++ post) = (pre ++ sgEF enc l 0 j.toNat) ++ enc x' ++ (sgEF enc l (j.toNat + 1) (m - j.toNat - 1) ++ post) := by rw [sgE_set l hk]; simp
  rw [e2] at h
  refine o_sto (vs := enc x') hx hy hv hs (he _) (by rw [List.all_eq_true]; exact h1 x') S hi ?_ ?_ h
  · rw [e1]; simp only [List.size_toArray, List.length_append, he, hA]; omega
  · rw [e1]
    have := putAt_toArray (enc x') (pre ++ sgEF enc l 0 j.toNat) (enc (l.getD j.toNat default)) (sgEF enc l (j.toNat + 1) (m - j.toNat - 1) ++ post) (by rw [he, he])
    rw [show (pre ++ sgEF enc l 0 j.toNat).length = o + j.toNat * s by rw [List.length_append, hA, ho]] at this
    exact this
end
end Go.Fx
namespace Go.Fx
section
def arrElOf (P : Program) (t : TypeId) : Option (Nat × TypeId) := match P.underlying t with | some (.array n el) => some (n, el) | _ => none
variable {ro : Option Nat} {P : Program} {full : Array Oper} {Q : Exit → Act → World → Prop} {n : Nat} {d : List Deferred} {e : Env} {w w0 : World} {C : Nat → Prop} {X L : List Asr}
variable {rest : List Oper} {ty : TypeId} {ps : String} {af : Array Edge}
theorem arrEl_und {t m el : Nat} (h : arrElOf P t = some (m, el)) : P.underlying t = some (.array m el) := by
  unfold arrElOf at h
  split at h
  · rename_i hu; cases h; exact hu
  · cases h
theorem p_idxI {t i el m : Nat} {x y : Operand} {l : List Int} {k : IntKind} {j : Int} (hT : arrElOf P t = some (m, el)) (hs : sizOf P el = some 1) (hA : aggOf P el = some false) (hj : inI j m = true) (hx : evn n e x = AG (sg l m)) (hy : evn n e y = .int k j)
    (h : wpA ro P full Q rest (E n (upd e i (I (aget l j))) d) w) : wpA ro P full Q (⟨some i, .index t x y, ty, ps, af, none⟩ :: rest) (E n e d) w := by
  obtain ⟨h0, h1⟩ := inI_spec hj
  have hg : (sg l m)[j.toNat]? = some (I (aget l j)) := sg_get l (by omega)
  have hj' : j < (m : Int) := h1
  refine op_val (v := I (aget l j)) rfl (fun _ h => by cases h) ?_ h
  have hx' : evn n e x = .agg (sg l m).toArray := hx
  simp [execOp, Instr.index, hx', hy, asIntOf, run_und (arrEl_und hT), h0, h1, run_sizeOf hs, part, run_isAgg hA, hg]
theorem p_idxS {α : Type} [Inhabited α] {enc : α → List Value} {s t i el m : Nat} {x y : Operand} {l : List α} {k : IntKind} {j : Int} (hT : arrElOf P t = some (m, el)) (hs : sizOf P el = some s) (hA : aggOf P el = some true) (he : ∀ x, (enc x).length = s) (hj : inI j m = true) (hx : evn n e x = AG (sgE enc l m)) (hy : evn n e y = .int k j)
    (h : wpA ro P full Q rest (E n (upd e i (AG (enc (agetS l j)))) d) w) : wpA ro P full Q (⟨some i, .index t x y, ty, ps, af, none⟩ :: rest) (E n e d) w := by
  obtain ⟨h0, h1⟩ := inI_spec hj
  have hA' := sgEF_len he l j.toNat 0
  have hg : List.take s (List.drop (j.toNat * s) (sgE enc l m)) = enc (agetS l j) := by
    rw [sgE_split l (show j.toNat < m by omega), List.append_assoc, List.drop_left' hA', List.take_left' (he _)]
    rfl
  refine op_val (v := AG (enc (agetS l j))) rfl (fun _ h => by cases h) ?_ h
  have hx' : evn n e x = .agg (sgE enc l m).toArray := hx
  simp only [execOp, Instr.index, hx', hy, asIntOf]
  simp [run_und (arrEl_und hT), h0, h1, run_sizeOf hs, part, run_isAgg hA, hg]
end
end Go.Fx
namespace Go.Fx
section
variable {κ ν : Type} {ek : κ → Value} {ev : ν → Value} {w w0 : World} {C : Nat → Prop} {X L : List Asr}
theorem St.mpoN (S : St w0 C w X L) (ek : κ → Value) (ev : ν → Value) : St w0 C w X (mpo ek ev none ([] : List (κ × ν)) :: L) := S.addL' mpo_none fun b hb => by cases hb
end
end Go.Fx
namespace Go.Fx
section
variable {ro : Option Nat} {P : Program} {full : Array Oper} {Q : Exit → Act → World → Prop} {n : Nat} {d : List Deferred} {e : Env} {w w0 : World} {C : Nat → Prop} {X L : List Asr}
variable {rest : List Oper} {ty : TypeId} {ps : String} {af : Array Edge}
/-- an array built of its elements -/
def bldOf (P : Program) (t : TypeId) : Option (Array Value × Nat) := match P.info? t, P.underlying t with
  | some it, some (.array _ el) => match it.zero, P.info? el with
    | some z, some ie => some (z.cells, ie.size)
    | _, _ => none
  | _, _ => none
theorem p_bldA {t i s : Nat} {parts : Array (Nat × Operand)} {vals : List (Nat × Value)} {z cs : List Value} (hT : bldOf P t = some (z.toArray, s)) (hv : parts.toList.map (fun (i, x) => (i, evn n e x)) = vals) (hf : Instr.fill (fun i => some (i * s, s)) z.toArray vals = some cs.toArray)
    (h : wpA ro P full Q rest (E n (upd e i (AG cs)) d) w) : wpA ro P full Q (⟨some i, .build t parts, ty, ps, af, none⟩ :: rest) (E n e d) w := by
  unfold bldOf at hT
  split at hT
  · rename_i it m el h1 h2
    split at hT
    · rename_i z' ie h3 h4
      injection hT with hT
      injection hT with e1 e2
      subst e2
      have hp : List.map (fun x => (x.fst, evn n e x.snd)) parts.toList = vals := hv
      refine op_val (v := AG cs) rfl (fun _ h => by cases h) ?_ h
      simp [execOp, Instr.build, zeroValue, typeInfo, h1, h3, run_und h2, sizeOf, h4, e1, hp, hf]
    · cases hT
  · cases hT
/-- one of an array's values, of whatever kind -/
theorem p_idxV {t i el m : Nat} {x y : Operand} {vs : List Value} {v : Value} {k : IntKind} {j : Int} (hT : arrElOf P t = some (m, el)) (hs : sizOf P el = some 1) (hA : aggOf P el = some false) (hj : inI j m = true) (hx : evn n e x = AG vs) (hy : evn n e y = .int k j) (hv : vs[j.toNat]? = some v)
    (h : wpA ro P full Q rest (E n (upd e i v) d) w) : wpA ro P full Q (⟨some i, .index t x y, ty, ps, af, none⟩ :: rest) (E n e d) w := by
  obtain ⟨h0, h1⟩ := inI_spec hj
  refine op_val (v := v) rfl (fun _ h => by cases h) ?_ h
  have hx' : evn n e x = .agg vs.toArray := hx
  simp [execOp, Instr.index, hx', hy, asIntOf, run_und (arrEl_und hT), h0, h1, run_sizeOf hs, part, run_isAgg hA, hv]
theorem two_second {j : Int} (h : inI j 2 = true) (h0 : (j == 0) = false) : j = 1 := by
  have := inI_spec h
  have : j ≠ 0 := by simpa using h0
  omega
/-- a part of an array of numbers, from its begin -/
theorem p_cutA {t i el m o b : Nat} {x hi : Operand} {l r : List Int} {a : Int} (hT : arrElOf P t = some (m, el)) (hs : sizOf P el = some 1) (hc : cutI (sgl l m) 0 a = some r) (hx : evn n e x = .pointer (some ⟨b, o, none⟩)) (hhi : evn n e hi = I a)
    (h : wpA ro P full Q rest (E n (upd e i (SL (some ⟨b, o, none⟩) r.length m)) d) w) : wpA ro P full Q (⟨some i, .slice t x none (some hi) none, ty, ps, af, none⟩ :: rest) (E n e d) w := by
  obtain ⟨h0, h1, h2, hr⟩ := cutI_some hc
  rw [sgl_len] at h2
  have hlen : r.length = a.toNat := by have := sgl_len l m; rw [hr]; simp only [List.length_drop, List.length_take]; omega
  rw [hlen] at h
  refine op_val (v := SL (some ⟨b, o, none⟩) a.toNat m) rfl (fun _ h => by cases h) ?_ h
  have hhi' : evn n e hi = .int .i64 a := hhi
  simp [execOp, Instr.sliceAt, Instr.sureAddr, run_und (arrEl_und hT), hx, hhi', Instr.sliceBounds, run_bound rfl h1 h2, run_sizeOf hs]
  intro _
  simp [Addr.add]
theorem St.arrRd {b m o : Nat} {pre post cs : List Value} {l r : List Int} {ct : TypeId} {a : Int} (S : St w0 C w X L) {i : Nat} (hi : L[i]? = some (bl b cs ct)) (hcs : cs = pre ++ (sg l m ++ post)) (ho : pre.length = o) (hc : cutI (sgl l m) 0 a = some r) (hm : m ≤ 1000) : St w0 C w X (rd intE 1 (some ⟨b, o, none⟩) m r :: L) := by
  obtain ⟨h0, h1, h2, hr⟩ := cutI_some hc
  rw [sgl_len] at h2
  have hw : w.heap[b]? = some (.cells cs.toArray ct (0, 0)) := S.atP hi
  have hb := (Array.getElem?_eq_some_iff.1 hw).1
  refine S.addL' ⟨.inr ⟨b, o, rfl, hb, fun k x hk j v hj => ?_⟩, by have := sgl_len l m; rw [hr]; simp only [List.length_drop, List.length_take]; omega, by rw [maxLen_eq]; omega⟩ fun b' hb' x hx hxb => S.dp x hx _ (List.mem_of_getElem? hi) b' hxb ?_
  · have hkr : k < r.length := (List.getElem?_eq_some_iff.1 hk).1
    have hkm : k < m := by have := sgl_len l m; rw [hr] at hkr; simp only [List.length_drop, List.length_take] at hkr; omega
    have hj0 : j = 0 := by
      have := (List.getElem?_eq_some_iff.1 hj).1
      rw [intE_len] at this; omega
    subst hj0
    have hv : v = .int .i64 x := by simpa [intE] using hj.symm
    subst hv
    have hx' : x = l.getD k 0 := by
      rw [hr, show (0 : Int).toNat = 0 from rfl, List.drop_zero, List.getElem?_take] at hk
      split at hk
      · unfold sgl at hk
        rw [List.getElem?_map, List.getElem?_range hkm] at hk
        exact (Option.some.inj hk).symm
      · cases hk
    subst hx'
    rw [cell_of hw, hcs]
    simp only [List.getElem?_toArray]
    rw [List.getElem?_append_right (by omega), List.getElem?_append_left (by rw [sg_len]; omega), show o + k * 1 + 0 - pre.length = k by omega]
    exact sg_get l hkm
  · obtain ⟨_, a', ha, rfl⟩ := hb'
    have := Option.some.inj ha
    subst this
    rfl
end
end Go.Fx
namespace Go.Fx
section
variable {ro : Option Nat} {P : Program} {full : Array Oper} {Q : Exit → Act → World → Prop} {n : Nat} {d : List Deferred} {e : Env} {w w0 : World} {C : Nat → Prop} {X L : List Asr}
variable {rest : List Oper} {ty : TypeId} {ps : String} {af : Array Edge}
/-- a field's place and type -/
def fldTOf (P : Program) (t f : Nat) : Option (Nat × TypeId) := match P.underlying t with
  | some (.struct fs) => (fs[f]?).map fun fl => (fl.offset, fl.type)
  | _ => none
/-- a field of a struct that is at hand, one cell -/
theorem p_fieldV {t f i o ft : Nat} {x : Operand} {cs : List Value} {v : Value} (hT : fldTOf P t f = some (o, ft)) (hA : aggOf P ft = some false) (hx : evn n e x = AG cs) (hv : cs[o]? = some v)
    (h : wpA ro P full Q rest (E n (upd e i v) d) w) : wpA ro P full Q (⟨some i, .field t x f, ty, ps, af, none⟩ :: rest) (E n e d) w := by
  unfold fldTOf at hT
  split at hT
  · rename_i fs hu
    obtain ⟨fl, h1, h2⟩ := Option.map_eq_some_iff.1 hT
    injection h2 with e1 e2
    subst e1 e2
    refine op_val (v := v) rfl (fun _ h => by cases h) ?_ h
    have hx' : evn n e x = .agg cs.toArray := hx
    simp [execOp, Instr.field, run_und hu, h1, hx', asAgg, part, run_isAgg hA, hv]
  · cases hT
end
end Go.Fx

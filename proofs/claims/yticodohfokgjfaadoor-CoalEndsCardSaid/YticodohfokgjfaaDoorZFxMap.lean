/- Part of a logic of my own for walks: rules by which a proof steps through code, proved once. -/
import Derived.Test.YticodohfokgjfaaDoorZFxSlice
set_option linter.unusedSimpArgs false
set_option linter.unusedVariables false
namespace Go.Fx
open Go

/-! ### maps: entries told as (stamp, key, value) -/
section
variable {κ ν : Type}
def mkE (ek : κ → Value) (ev : ν → Value) (x : Nat × κ × ν) : MapEntry := { key := ek x.2.1, val := ev x.2.2, born := x.1 }
def mapO (ek : κ → Value) (ev : ν → Value) (l : List (Nat × κ × ν)) (clock : Nat) : Obj := .map (l.map (mkE ek ev)).toArray clock
/-- the stamps are below the clock, no two alike -/
def Stamped (l : List (Nat × κ × ν)) (clock : Nat) : Prop := (l.map (·.1)).Nodup ∧ ∀ x ∈ l, x.1 < clock
/-- a map that reads as l (keys and values, in the order in which they came) -/
def mp (ek : κ → Value) (ev : ν → Value) (m : Nat) (l : List (κ × ν)) : Asr where
  fp b := b = m
  ok w := ∃ es clock, w.heap[m]? = some (mapO ek ev es clock) ∧ es.map (·.2) = l ∧ Stamped es clock
  mono w w' := fun ⟨es, clock, h, r⟩ k => ⟨es, clock, (k m rfl).trans h, r⟩
  inb w b := fun ⟨es, clock, h, _⟩ hb => by subst hb; exact (Array.getElem?_eq_some_iff.1 h).1
/-- how keys are held against each other -/
structure KeyL (P : Program) (kt : TypeId) (ek : κ → Value) [DecidableEq κ] : Prop where
  check : ∀ (b : Bool) (a : κ) (w : World), (Instr.checkKey b 10000 kt (ek a)).run P w = .ok () w
  find : ∀ (a : κ) (l : List MapEntry) (ks : List κ), l.map (·.key) = ks.map ek → ∀ w : World, (Instr.findKey kt (ek a) l).run P w = .ok ((ks.findIdx? (· == a)).map fun i => (i, (l.getD i default).val)) w
  bits : ∀ a : κ, Instr.sameBits 10000 (ek a) (ek a) = true
variable [DecidableEq κ]
def lookL (l : List (κ × ν)) (a : κ) : Option ν := (l.find? (·.1 == a)).map (·.2)
def putL (l : List (κ × ν)) (a : κ) (v : ν) : List (κ × ν) := match (l.map (·.1)).findIdx? (· == a) with | some i => l.set i (a, v) | none => l ++ [(a, v)]
end

section
variable {κ ν : Type} [DecidableEq κ] {ek : κ → Value} {ev : ν → Value}
variable {ro : Option Nat} {P : Program} {full : Array Oper} {Q : Exit → Act → World → Prop} {n : Nat} {d : List Deferred} {e : Env} {w w0 : World} {C : Nat → Prop} {X L : List Asr}
variable {rest : List Oper} {ty : TypeId} {ps : String} {af : Array Edge}
def mptOf (P : Program) (t : TypeId) : Option (TypeId × TypeId) := match P.underlying t with | some (.map k el) => some (k, el) | _ => none
theorem mpt_und {t k el : TypeId} (h : mptOf P t = some (k, el)) : P.underlying t = some (.map k el) := by
  unfold mptOf at h
  split at h
  · cases h; assumption
  · cases h

omit [DecidableEq κ] in
theorem o_mkmap {t i : Nat} (S : St w0 C w X L) (ek : κ → Value) (ev : ν → Value)
    (h : ∀ m w', m = w.heap.size → St w0 C w' (mp ek ev m [] :: X) L → wpA ro P full Q rest (E n (upd e i (.map (some m))) d) w') :
    wpA ro P full Q (⟨some i, .makeMap t none, ty, ps, af, none⟩ :: rest) (E n e d) w := by
  have S1 := S.alloc (.map #[] 0)
  have S2 : St w0 C (w.alloc (.map #[] 0)) (mp ek ev w.heap.size [] :: X) L := by
    have := S1.turn (w' := w.alloc (.map #[] 0)) (i := 0) (x := bx w.heap.size (.map #[] 0)) (y := mp ek ev w.heap.size []) rfl ⟨[], 0, S1.at (i := 0) rfl, rfl, by simp [Stamped]⟩ (fun b hb => .inl hb) rfl rfl rfl (Nat.le_refl _) (fun _ _ _ => rfl)
    simpa using this
  exact op_val (v := .map (some w.heap.size)) (w' := w.alloc (.map #[] 0)) rfl (fun _ h => by cases h) (by simp [execOp, Instr.makeMap]) (h _ _ rfl S2)

theorem find_look {l : List (κ × ν)} {a : κ} : lookL l a = ((l.map (·.1)).findIdx? (· == a)).bind fun i => (l[i]?).map (·.2) := by
  induction l with
  | nil => rfl
  | cons x l ih =>
    by_cases h : x.1 == a
    · simp [lookL, List.findIdx?_cons, h]
    · have h' : (x.1 == a) = false := by simpa using h
      simp only [lookL, List.find?_cons, List.map_cons, List.findIdx?_cons, h'] at ih ⊢
      rw [ih]
      cases (l.map (·.1)).findIdx? (· == a) <;> simp

/-- v, is := m[k] -/
theorem o_look {t kt el i m s bb : Nat} {x y : Operand} {a : κ} {l : List (κ × ν)} {z : Value} (hx : evn n e x = .map (some m)) (hy : evn n e y = ek a) (hT : mptOf P t = some (kt, el)) (K : KeyL P kt ek) (hz : infoOf P el = some (some z, s, bb))
    (hm : (mp ek ev m l).ok w) (h1 : ∀ v, lookL l a = some v → wpA ro P full Q rest (E n (upd e i (.tuple #[ev v, .bool true])) d) w) (h0 : lookL l a = none → wpA ro P full Q rest (E n (upd e i (.tuple #[z, .bool false])) d) w) :
    wpA ro P full Q (⟨some i, .lookup t x y true, ty, ps, af, none⟩ :: rest) (E n e d) w := by
  obtain ⟨es, clock, hh, hl, hst⟩ := hm
  have hkeys : ((es.map (mkE ek ev)).toArray.toList).map (·.key) = (l.map (·.1)).map ek := by
    rw [← hl]; simp [mkE, Function.comp_def]
  have hf := K.find a _ _ hkeys w
  have hzr : (zeroValue el).run P w = .ok z w := by
    unfold infoOf at hz
    cases hu : P.info? el with
    | none => simp [hu] at hz
    | some D =>
      simp only [hu, Option.map_some, Option.some.injEq, Prod.mk.injEq] at hz
      simp [zeroValue, typeInfo, hu, hz.1]
  have hgo : (getObj m).run P w = .ok (mapO ek ev es clock) w := by
    simp only [getObj, Sem.run, hh, mapO]
  cases hfi : (l.map (·.1)).findIdx? (· == a) with
  | none =>
    have hn : lookL l a = none := by rw [find_look, hfi]; rfl
    refine op_val (v := .tuple #[z, .bool false]) rfl (fun _ h => by cases h) ?_ (h0 hn)
    rw [hfi] at hf
    simp only [execOp, hx, hy, Instr.lookup, Sem.run_bind, run_und (mpt_und hT), Result.andThen_ok, hgo, mapO, K.check, Sem.run_pure]
    simp at hf ⊢
    simp [hf, hzr]
  | some j =>
    have hj : j < l.length := by
      have := List.findIdx?_eq_some_iff_findIdx_eq.1 hfi
      simpa using this.1
    have hlk : lookL l a = some l[j].2 := by rw [find_look, hfi]; simp [hj]
    refine op_val (v := .tuple #[ev l[j].2, .bool true]) rfl (fun _ h => by cases h) ?_ (h1 _ hlk)
    rw [hfi] at hf
    have hje : j < es.length := by rw [← hl] at hj; simpa using hj
    have hval : ((es.map (mkE ek ev)).toArray.toList.getD j default).val = ev l[j].2 := by
      subst hl
      simp [hje, mkE]
    simp only [execOp, hx, hy, Instr.lookup, Sem.run_bind, run_und (mpt_und hT), Result.andThen_ok, hgo, mapO, K.check, Sem.run_pure]
    rw [Option.map_some, hval] at hf
    simp at hf ⊢
    simp [hf]

theorem putL_some {l : List (κ × ν)} {a : κ} {v : ν} {j : Nat} (h : (l.map (·.1)).findIdx? (· == a) = some j) : putL l a v = l.set j (a, v) := by simp [putL, h]
theorem putL_none {l : List (κ × ν)} {a : κ} {v : ν} (h : (l.map (·.1)).findIdx? (· == a) = none) : putL l a v = l ++ [(a, v)] := by simp [putL, h]
/-- m[k] = v -/
theorem o_mup {t kt el i m : Nat} {x y z : Operand} {a : κ} {v : ν} {l : List (κ × ν)} (hx : evn n e x = .map (some m)) (hy : evn n e y = ek a) (hz : evn n e z = ev v) (hT : mptOf P t = some (kt, el)) (K : KeyL P kt ek)
    (S : St w0 C w X L) (hi : X[i]? = some (mp ek ev m l))
    (h : ∀ w', St w0 C w' (X.set i (mp ek ev m (putL l a v))) L → wpA ro P full Q rest (E n e d) w') :
    wpA ro P full Q (⟨none, .mapUpdate t x y z, ty, ps, af, none⟩ :: rest) (E n e d) w := by
  obtain ⟨es, clock, hh, hl, hst⟩ := S.atX hi
  have hkeys : ((es.map (mkE ek ev)).toArray.toList).map (·.key) = (l.map (·.1)).map ek := by
    rw [← hl]; simp [mkE, Function.comp_def]
  have hf := K.find a _ _ hkeys w
  have hgo : (getObj m).run P w = .ok (mapO ek ev es clock) w := by
    simp only [getObj, Sem.run, hh, mapO]
  have hlt := (Array.getElem?_eq_some_iff.1 hh).1
  have hset : ∀ o, (setObj m o).run P w = .ok () (setB w m o) := by
    intro o
    simp only [setObj, Sem.run, hh, mapO]
    rfl
  have fin : ∀ (es' : List (Nat × κ × ν)) (c' : Nat), es'.map (·.2) = putL l a v → Stamped es' c' → (execOp (evn n e) ⟨none, .mapUpdate t x y z, ty, ps, af, none⟩).run P w = .ok .skip (setB w m (mapO ek ev es' c')) →
      wpA ro P full Q (⟨none, .mapUpdate t x y z, ty, ps, af, none⟩ :: rest) (E n e d) w := by
    intro es' c' h1 h2 h3
    refine op_skip rfl (fun _ h => by cases h) h3 (h _ (S.turn hi (y := mp ek ev m (putL l a v)) ⟨es', c', ?_, h1, h2⟩ (fun b hb => .inl hb) rfl rfl rfl (by simp [setB]) (fun b hb hne => ?_)))
    · simp [setB, hlt]
    · have hne' : b ≠ m := hne
      show (w.heap.setIfInBounds m _)[b]? = _
      rw [Array.getElem?_setIfInBounds_ne (fun h => hne' h.symm)]
  cases hfi : (l.map (·.1)).findIdx? (· == a) with
  | none =>
    rw [hfi] at hf
    refine fin (es ++ [(clock, a, v)]) (clock + 1) (by rw [putL_none hfi]; simp [hl]) ⟨?_, ?_⟩ ?_
    · rw [List.map_append, List.nodup_append]
      refine ⟨hst.1, by simp, fun x hx y hy => ?_⟩
      simp at hy; subst hy
      obtain ⟨z, hz, rfl⟩ := List.mem_map.1 hx
      have := hst.2 z hz
      omega
    · intro x hx
      rcases List.mem_append.1 hx with h | h
      · have := hst.2 x h; omega
      · simp at h; subst h; simp
    · simp only [execOp, hx, hy, hz, Instr.mapUpdate, Sem.run_bind, run_und (mpt_und hT), Result.andThen_ok, hgo, mapO, K.check]
      simp at hf ⊢
      simp [hf, hset, mkE]
  | some j =>
    have hj : j < l.length := by
      have := List.findIdx?_eq_some_iff_findIdx_eq.1 hfi
      simpa using this.1
    have hje : j < es.length := by rw [← hl] at hj; simpa using hj
    have hkj : l[j].1 = a := by
      have := (List.findIdx?_eq_some_iff_getElem.1 hfi).2.1
      simpa using this
    have hke : es[j].2.1 = a := by subst hl; simpa using hkj
    rw [hfi] at hf
    refine fin (es.set j (es[j].1, a, v)) clock (by rw [putL_some hfi, ← hl]; simp [List.map_set]) ⟨?_, ?_⟩ ?_
    · have : (es.set j (es[j].1, a, v)).map (·.1) = es.map (·.1) := by
        rw [List.map_set]
        exact List.ext_getElem (by simp) fun i h1 h2 => by
          rw [List.getElem_set]; split
          · rename_i hh; subst hh; simp
          · rfl
      rw [this]; exact hst.1
    · intro x hx
      rcases List.mem_or_eq_of_mem_set hx with h | h
      · exact hst.2 x h
      · subst h; exact hst.2 es[j] (List.getElem_mem hje)
    · have hkey : (((es.map (mkE ek ev)).toArray[j]?).map (·.key)).getD (ek a) = ek a := by
        simp [hje, mkE, hke]
      have hmod : ((es.map (mkE ek ev)).toArray.modify j fun x => { x with key := ek a, val := ev v }) = ((es.set j (es[j].1, a, v)).map (mkE ek ev)).toArray := by
        refine Array.ext (by simp) fun i h1 h2 => ?_
        simp only [Array.getElem_modify, List.getElem_toArray, List.getElem_map, List.getElem_set]
        split
        · rename_i hh; subst hh; rfl
        · rfl
      simp only [execOp, hx, hy, hz, Instr.mapUpdate, Sem.run_bind, run_und (mpt_und hT), Result.andThen_ok, hgo, mapO, K.check]
      simp only [Option.map_some] at hf
      rw [hf]
      simp only [Result.andThen_ok, hkey, Instr.keyThatStays, K.bits, if_true, Sem.run_pure, hmod, hset, Sem.run_bind]

/-! a range over a map that stays as it is -/
end
end Go.Fx
namespace Go.Fx
open Go
/-! keys that are structs of two ints -/
section
variable {P : Program}
theorem run_part1 {t : TypeId} {cs : Array Value} {o : Nat} {v : Value} (hT : aggOf P t = some false) (hv : cs[o]? = some v) (w : World) : (part t cs o).run P w = .ok v w := by
  simp [part, run_isAgg hT, hv]
theorem run_checkKey_int {t : TypeId} {b : Bool} {k : Nat} (hi : P.underlying t = some (.int .i64)) (x : Int) (w : World) : (Instr.checkKey b (k + 1) t (.int .i64 x)).run P w = .ok () w := by
  simp [Instr.checkKey, run_und hi]
theorem run_equalIn_int {t : TypeId} {k : Nat} (hi : P.underlying t = some (.int .i64)) (x y : Int) (w : World) : (Op.equalIn (k + 1) t (.int .i64 x) (.int .i64 y)).run P w = .ok (x == y) w := by
  simp [Op.equalIn, run_und hi]
def ekP (p : Int × Int) : Value := .agg #[.int .i64 p.1, .int .i64 p.2]
theorem run_equal_pair {kt ft : TypeId} {f0 f1 : Field} (hu : P.underlying kt = some (.struct #[f0, f1])) (n0 : f0.name ≠ "_") (n1 : f1.name ≠ "_") (t0 : f0.type = ft) (t1 : f1.type = ft) (o0 : f0.offset = 0) (o1 : f1.offset = 1)
    (hi : P.underlying ft = some (.int .i64)) (hs : P.stoodInHeld kt = false) (p q : Int × Int) (w : World) : (Op.equal kt (ekP p) (ekP q)).run P w = .ok (p.1 == q.1 && p.2 == q.2) w := by
  have hag : aggOf P ft = some false := by simp [aggOf, hi]
  simp only [Op.equal, Op.maxDepth, ekP]
  unfold Op.equalIn
  have q1 : ∀ (a b : Int) (w : World), (Op.equalIn 9999 ft (.int .i64 a) (.int .i64 b)).run P w = .ok (a == b) w := run_equalIn_int (k := 9998) hi
  have q2 : ∀ (a b : Int) (w : World), (part ft #[.int .i64 a, .int .i64 b] 0).run P w = .ok (.int .i64 a) w := fun a b w => run_part1 hag rfl w
  have q3 : ∀ (a b : Int) (w : World), (part ft #[.int .i64 a, .int .i64 b] 1).run P w = .ok (.int .i64 b) w := fun a b w => run_part1 hag rfl w
  simp [run_und hu, hs, n0, n1, t0, t1, o0, o1, q1, q2, q3]
  by_cases h1 : p.1 = q.1 <;> by_cases h2 : p.2 = q.2 <;> simp [h1, h2]
theorem run_findAsk {κ : Type} [DecidableEq κ] {kt : TypeId} {ek : κ → Value} (heq : ∀ (a b : κ) (w : World), (Op.equal kt (ek a) (ek b)).run P w = .ok (decide (a = b)) w) (a : κ) : ∀ (l : List MapEntry) (ks : List κ) (i : Nat), l.map (·.key) = ks.map ek → ∀ w : World,
    (Instr.findAsking kt (ek a) l i).run P w = .ok ((ks.findIdx? (· == a)).map fun j => (j + i, (l.getD j default).val)) w
  | [], [], i, _, w => by simp [Instr.findAsking]
  | [], k :: ks, i, h, w => by simp at h
  | x :: l, [], i, h, w => by simp at h
  | x :: l, k :: ks, i, h, w => by
    simp only [List.map_cons, List.cons.injEq] at h
    have ih := run_findAsk heq a l ks (i + 1) h.2 w
    simp only [Instr.findAsking, Sem.run_bind, h.1, heq, Result.andThen_ok]
    by_cases hk : a = k
    · subst hk
      simp [List.findIdx?_cons]
    · have hk' : (k == a) = false := beq_eq_false_iff_ne.2 fun h => hk h.symm
      simp only [hk, decide_false, Bool.false_eq_true, if_false, ih, List.findIdx?_cons, hk']
      cases ks.findIdx? (· == a) <;> simp [Nat.add_assoc, Nat.add_comm 1 i]
theorem keyPair {kt ft : TypeId} {f0 f1 : Field} (hu : P.underlying kt = some (.struct #[f0, f1])) (n0 : f0.name ≠ "_") (n1 : f1.name ≠ "_") (t0 : f0.type = ft) (t1 : f1.type = ft) (o0 : f0.offset = 0) (o1 : f1.offset = 1)
    (hi : P.underlying ft = some (.int .i64)) (hs : P.stoodInHeld kt = false) : KeyL P kt ekP where
  check b a w := by
    have hag : aggOf P ft = some false := by simp [aggOf, hi]
    have q0 : ∀ (a : Int) (w : World), (Instr.checkKey b 9999 ft (.int .i64 a)).run P w = .ok () w := fun a w => run_checkKey_int (k := 9998) hi a w
    have q2 : ∀ (a b : Int) (w : World), (part ft #[.int .i64 a, .int .i64 b] 0).run P w = .ok (.int .i64 a) w := fun a b w => run_part1 hag rfl w
    have q3 : ∀ (a b : Int) (w : World), (part ft #[.int .i64 a, .int .i64 b] 1).run P w = .ok (.int .i64 b) w := fun a b w => run_part1 hag rfl w
    unfold Instr.checkKey
    simp [run_und hu, ekP, n0, n1, t0, t1, o0, o1, q0, q2, q3]
  find a l ks h w := by
    have heq : ∀ (a b : Int × Int) (w : World), (Op.equal kt (ekP a) (ekP b)).run P w = .ok (decide (a = b)) w := fun a b w => by
      rw [run_equal_pair hu n0 n1 t0 t1 o0 o1 hi hs]
      congr 1
      obtain ⟨a1, a2⟩ := a
      obtain ⟨b1, b2⟩ := b
      by_cases h1 : a1 = b1 <;> by_cases h2 : a2 = b2 <;> simp [h1, h2]
    have hf := run_findAsk heq a l ks 0 h w
    unfold Instr.findKey
    simp only [Sem.run_bind, run_und hu, Result.andThen_ok]
    cases l with
    | nil =>
      cases ks with
      | nil => simp [Instr.findNow]
      | cons k ks => simp at h
    | cons x l =>
      have : Instr.findNow (.struct #[f0, f1]) (ekP a) (x :: l) 0 = none := by simp [Instr.findNow, Instr.sameNow]
      rw [this]
      simpa using hf
  bits a := by
    unfold Instr.sameBits ekP
    simp [Instr.sameBits]
end
end Go.Fx

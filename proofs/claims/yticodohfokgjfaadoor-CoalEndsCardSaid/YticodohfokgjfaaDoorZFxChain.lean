/- Part of a logic of my own for walks: rules by which a proof steps through code, proved once. -/
import Derived.Test.YticodohfokgjfaaDoorZFxLoop
set_option linter.unusedSimpArgs false
set_option linter.unusedVariables false
namespace Go.Fx
open Go
/-! ### regions whose order is open, in whose head some operations, one behind the other, make memory -/
section
variable {ro : Option Nat} {P : Program} {n : Nat} {d : List Deferred} {w : World} {Q : Exit → Act → World → Prop}
/-- the operations of a head in the text's order; those of cs are left out, each other one comes to a known value -/
def DSc (ro : Option Nat) (P : Program) (full : Array Oper) (n : Nat) (d : List Deferred) (w : World) (cs : List Nat) : Nat → List Oper → Env → (Env → Prop) → Prop
  | _, [], e, K => K e
  | i, o :: os, e, K => bif cs.contains i then DSc ro P full n d w cs (i + 1) os e K else ∃ v, (∀ w', Keep0 w w' → wpA ro P full (Done n d e w' o.dst (rv v)) [o] (E n e d) w') ∧ DSc ro P full n d w cs (i + 1) os (updo e o.dst v) K
theorem kS {full : Array Oper} {cs : List Nat} {i : Nat} {o : Oper} {os : List Oper} {e : Env} {K : Env → Prop} {v : Value} (hc : cs.contains i = false) (h : ∀ w', Keep0 w w' → wpA ro P full (Done n d e w' o.dst (rv v)) [o] (E n e d) w') (hk : DSc ro P full n d w cs (i + 1) os (updo e o.dst v) K) : DSc ro P full n d w cs i (o :: os) e K := by
  unfold DSc; rw [hc]; exact ⟨v, h, hk⟩
theorem kC {full : Array Oper} {cs : List Nat} {i : Nat} {o : Oper} {os : List Oper} {e : Env} {K : Env → Prop} (hc : cs.contains i = true) (hk : DSc ro P full n d w cs (i + 1) os e K) : DSc ro P full n d w cs i (o :: os) e K := by
  unfold DSc; rw [hc]; exact hk
/-- a word that goes on to hold -/
def cxx (Ψ : Value → World → Prop) : Rx where
  ok _ v _ _ w := ∀ w3, Keep0 w w3 → Ψ v w3
  deps := []
  loc _ _ _ _ _ _ _ h := h
  st _ _ _ _ _ _ h k w3 k3 := h w3 (k.trans k3)
/-- those that make memory, one behind the other -/
def CSeq (ro : Option Nat) (P : Program) (full : Array Oper) (Q : Exit → Act → World → Prop) (n : Nat) (d : List Deferred) (tail : List Oper) : List Oper → Env → World → Prop
  | [], e, w => wpA ro P full Q tail (E n e d) w
  | o :: os, e, w => wpA ro P full (Done n d e w o.dst (cxx fun v w3 => CSeq ro P full Q n d tail os (updo e o.dst v) w3)) [o] (E n e d) w
theorem cN {full : Array Oper} {e : Env} {w2 : World} {i : Nat} {v : Value} {Ψ : Value → World → Prop} (hk : Keep0 w w2) (h : ∀ w3, Keep0 w2 w3 → Ψ v w3) : wpA ro P full (Done n d e w (some i) (cxx Ψ)) [] (E n (upd e i v) d) w2 := wp_nil ⟨v, rfl, hk, h⟩
def msk (cs : List Nat) : Nat → List Oper → List Oper
  | _, [] => []
  | i, o :: os => (bif cs.contains i then { o with dst := none } else o) :: msk cs (i + 1) os
theorem msk_get (cs : List Nat) : ∀ (l : List Oper) (k i : Nat), (msk cs k l)[i]? = (l[i]?).map fun o => bif cs.contains (k + i) then { o with dst := none } else o
  | [], k, i => by simp [msk]
  | o :: os, k, 0 => by simp [msk]
  | o :: os, k, i + 1 => by
    have := msk_get cs os (k + 1) i
    simp only [msk, List.getElem?_cons_succ, this]
    rw [show k + 1 + i = k + (i + 1) by omega]
theorem msk_len (cs : List Nat) : ∀ (l : List Oper) (k : Nat), (msk cs k l).length = l.length
  | [], _ => rfl
  | o :: os, k => by simp [msk, msk_len cs os]
theorem msk_t {cs : List Nat} {k : Nat} {o : Oper} {os : List Oper} (h : cs.contains k = true) : msk cs k (o :: os) = { o with dst := none } :: msk cs (k + 1) os := by
  show (bif cs.contains k then _ else _) :: _ = _
  rw [h]; rfl
theorem msk_f {cs : List Nat} {k : Nat} {o : Oper} {os : List Oper} (h : cs.contains k = false) : msk cs k (o :: os) = o :: msk cs (k + 1) os := by
  show (bif cs.contains k then _ else _) :: _ = _
  rw [h]; rfl
theorem dsc_vals {full : Array Oper} {cs : List Nat} {K : Env → Prop} : ∀ {os : List Oper} {k : Nat} {e : Env}, DSc ro P full n d w cs k os e K → ∃ vs : List Value, vs.length = os.length ∧ (∀ i o v, os[i]? = some o → vs[i]? = some v → cs.contains (k + i) = false → ∀ w', Keep0 w w' → wpA ro P full (Done n d (seqE e (((msk cs k os).zip vs).take i)) w' o.dst (rv v)) [o] (E n (seqE e (((msk cs k os).zip vs).take i)) d) w') ∧ K (seqE e ((msk cs k os).zip vs))
  | [], k, e, h => ⟨[], rfl, fun i o v h1 => by simp at h1, h⟩
  | o :: os, k, e, h => by
    unfold DSc at h
    cases hc : cs.contains k with
    | true =>
      rw [hc] at h
      obtain ⟨vs, hl, hh, hK⟩ := dsc_vals h
      refine ⟨undef :: vs, by simp [hl], fun i o' v' ho hv hci => ?_, by rw [msk_t hc]; exact hK⟩
      cases i with
      | zero => rw [Nat.add_zero, hc] at hci; cases hci
      | succ i =>
        have := hh i o' v' (by simpa using ho) (by simpa using hv) (by rw [show k + 1 + i = k + (i + 1) by omega]; exact hci)
        rw [msk_t hc]; exact this
    | false =>
      rw [hc] at h
      obtain ⟨v, h1, h2⟩ := h
      obtain ⟨vs, hl, hh, hK⟩ := dsc_vals h2
      refine ⟨v :: vs, by simp [hl], fun i o' v' ho hv hci => ?_, by rw [msk_f hc]; exact hK⟩
      cases i with
      | zero =>
        simp at ho hv
        subst ho hv
        exact h1
      | succ i =>
        have := hh i o' v' (by simpa using ho) (by simpa using hv) (by rw [show k + 1 + i = k + (i + 1) by omega]; exact hci)
        rw [msk_f hc]; exact this
def okC (l : List Oper) (m : Nat) (cs : List Nat) : Bool :=
  okDraw l m none && ((List.range m).all fun i => match l[i]? with
    | none => true
    | some o => plainOp o && (reads l.toArray o).all fun s => (List.range m).all fun j => dstAt l j != some s || (((anc l).getD i []).contains j && (cs.contains i || !cs.contains j))) &&
  ((List.range m).all fun i => !cs.contains i || (dstAt l i).isSome && (List.range i).all fun j => !cs.contains j || ((anc l).getD i []).contains j) && cs == (List.range m).filter (cs.contains ·)
/-- the operations of cs from the index k on -/
def cOps (l : List Oper) (m : Nat) (cs : List Nat) (k : Nat) : List Oper := ((List.range m).filter fun i => cs.contains i && Nat.ble k i).filterMap (l[·]?)
theorem okC_spec {l : List Oper} {m : Nat} {cs : List Nat} (h : okC l m cs = true) : okDraw l m none = true ∧ (∀ i o, i < m → l[i]? = some o → plainOp o = true ∧ ∀ s ∈ reads l.toArray o, ∀ j, j < m → dstAt l j = some s → ((anc l).getD i []).contains j = true ∧ (cs.contains i = false → cs.contains j = false)) ∧
    (∀ i, i < m → cs.contains i = true → (dstAt l i).isSome = true ∧ ∀ j, j < i → cs.contains j = true → ((anc l).getD i []).contains j = true) ∧ cs = (List.range m).filter (cs.contains ·) := by
  simp only [okC, Bool.and_eq_true] at h
  obtain ⟨⟨⟨h1, h2⟩, h3⟩, h4⟩ := h
  refine ⟨h1, fun i o hi ho => ?_, fun i hi hci => ?_, by simpa using h4⟩
  · have := List.all_eq_true.1 h2 i (List.mem_range.2 hi)
    rw [ho] at this
    simp only [Bool.and_eq_true] at this
    refine ⟨this.1, fun s hs j hj hd => ?_⟩
    have := List.all_eq_true.1 (List.all_eq_true.1 this.2 s hs) j (List.mem_range.2 hj)
    rw [hd] at this
    simp only [bne_self_eq_false, Bool.false_or, Bool.and_eq_true, Bool.or_eq_true, Bool.not_eq_true'] at this
    exact ⟨this.1, fun hc => this.2.resolve_left (by rw [hc]; simp)⟩
  · have := List.all_eq_true.1 h3 i (List.mem_range.2 hi)
    rw [hci] at this
    simp only [Bool.not_true, Bool.false_or, Bool.and_eq_true] at this
    refine ⟨this.1, fun j hji hcj => ?_⟩
    have := List.all_eq_true.1 this.2 j (List.mem_range.2 hji)
    rw [hcj] at this
    simpa using this
theorem cOps_cons {l : List Oper} {m i : Nat} {cs : List Nat} {o : Oper} (hi : i < m) (ho : l[i]? = some o) (hc : cs.contains i = true) : cOps l m cs i = o :: cOps l m cs (i + 1) := by
  have key : ∀ (q : Nat), q ≤ i → (List.range' q (m - q)).filter (fun j => cs.contains j && Nat.ble i j) = i :: (List.range' q (m - q)).filter (fun j => cs.contains j && Nat.ble (i + 1) j) := by
    intro q hq
    obtain ⟨k, rfl⟩ : ∃ k, i = q + k := ⟨i - q, by omega⟩
    induction k generalizing q with
    | zero =>
      have hmq : m - q = (m - q - 1) + 1 := by omega
      rw [hmq, List.range'_succ, List.filter_cons, List.filter_cons]
      have h1 : Nat.ble (q + 0) q = true := by simp
      have h2 : Nat.ble (q + 0 + 1) q = false := Bool.eq_false_iff.2 (by simp)
      rw [h1, h2]
      have hc' : cs.contains q = true := hc
      simp only [hc', Bool.and_self, if_true, Bool.and_false, Bool.false_eq_true, if_false]
      congr 1
      refine List.filter_congr fun j hj => ?_
      have := (List.mem_range'.1 hj)
      obtain ⟨_, _, rfl⟩ := this
      congr 1
      rw [Bool.eq_iff_iff]
      simp only [Nat.ble_eq]
      omega
    | succ k ih =>
      have hmq : m - q = (m - q - 1) + 1 := by omega
      rw [hmq, List.range'_succ, List.filter_cons, List.filter_cons]
      have h1 : Nat.ble (q + (k + 1)) q = false := Bool.eq_false_iff.2 (by simp)
      have h2 : Nat.ble (q + (k + 1) + 1) q = false := Bool.eq_false_iff.2 (by simp; omega)
      rw [h1, h2]
      simp only [Bool.and_false, Bool.false_eq_true, if_false]
      have := ih (q + 1) (by rw [show q + 1 + k = q + (k + 1) by omega]; exact hi) (by rw [show q + 1 + k = q + (k + 1) by omega]; exact ho) (by rw [show q + 1 + k = q + (k + 1) by omega]; exact hc) (by omega)
      rw [show m - (q + 1) = m - q - 1 by omega, show q + 1 + k = q + (k + 1) by omega] at this
      exact this
  unfold cOps
  have h0 := key 0 (Nat.zero_le _)
  rw [List.range_eq_range', show m = m - 0 by omega, h0]
  simp [ho]
theorem cOps_skip {l : List Oper} {m i : Nat} {cs : List Nat} (hc : cs.contains i = false) : cOps l m cs i = cOps l m cs (i + 1) := by
  unfold cOps
  congr 1
  refine List.filter_congr fun j _ => ?_
  by_cases hj : j = i
  · subst hj; rw [hc]; rfl
  · congr 1
    rw [Bool.eq_iff_iff]
    simp only [Nat.ble_eq]
    omega
theorem cOps_end {l : List Oper} {m : Nat} {cs : List Nat} : cOps l m cs m = [] := by
  unfold cOps
  rw [List.filter_eq_nil_iff.2]
  · rfl
  · intro j hj
    have := List.mem_range.1 hj
    simp
    omega
theorem cOps_to {l : List Oper} {m : Nat} {cs : List Nat} : ∀ (k i : Nat), (∀ j, i ≤ j → j < i + k → cs.contains j = false) → cOps l m cs i = cOps l m cs (i + k)
  | 0, _, _ => rfl
  | k + 1, i, h => by
    rw [cOps_skip (h i (Nat.le_refl _) (by omega)), cOps_to k (i + 1) fun j h1 h2 => h j (by omega) (by omega)]
    congr 1; omega
theorem wp1_mono {full : Array Oper} {o : Oper} {a : Act} {w : World} {Q Q' : Exit → Act → World → Prop} (h : ∀ ex a w, Q ex a w → Q' ex a w) (hh : wpA ro P full Q [o] a w) : wpA ro P full Q' [o] a w := by
  unfold wpA at hh ⊢
  split at hh
  · rename_i hw
    rw [if_pos hw]
    exact Oper.wpIn_both (fun a w h1 => by unfold wpA at h1 ⊢; exact h _ _ _ h1) (fun e a w _ h1 => h _ _ _ h1) hh
  · rename_i hw
    rw [if_neg hw]
    unfold wpA at hh ⊢
    exact h _ _ _ hh
def Rc (ro : Option Nat) (P : Program) (Q : Exit → Act → World → Prop) (n : Nat) (d : List Deferred) (l : List Oper) (m : Nat) (cs : List Nat) (ek : Env) (i : Nat) : Rx where
  ok e' v _ _ w' := ∃ ec : Env, (∀ c s, c < i → cs.contains c = true → dstAt l c = some s → e' s = ec s) ∧ (∀ s, dstAt l i = some s → v = ec s) ∧ (∀ s, (∀ c, c ≤ i → cs.contains c = true → dstAt l c ≠ some s) → ec s = ek s) ∧
    ∀ w3, Keep0 w' w3 → CSeq ro P l.toArray Q n d (l.drop m) (cOps l m cs (i + 1)) ec w3
  deps := ((List.range i).filter (cs.contains ·)).filterMap (dstAt l)
  loc e e' v lo hi w h := fun ⟨ec, h1, h2, h3, h4⟩ => ⟨ec, fun c s hc hcc hd => by
    rw [h s (List.mem_filterMap.2 ⟨c, List.mem_filter.2 ⟨List.mem_range.2 hc, hcc⟩, hd⟩)]; exact h1 c s hc hcc hd, h2, h3, h4⟩
  st _ _ _ _ _ _ := fun ⟨ec, h1, h2, h3, h4⟩ k => ⟨ec, h1, h2, h3, fun w3 k3 => h4 w3 (k.trans k3)⟩
theorem last_c (cs : List Nat) : ∀ i, (∀ j, j < i → cs.contains j = false) ∨ ∃ c, c < i ∧ cs.contains c = true ∧ ∀ j, c < j → j < i → cs.contains j = false
  | 0 => .inl fun j h => by omega
  | i + 1 => by
    cases hc : cs.contains i with
    | true => exact .inr ⟨i, by omega, hc, fun j h1 h2 => by omega⟩
    | false =>
      rcases last_c cs i with h | ⟨c, h1, h2, h3⟩
      · exact .inl fun j hj => by
          rcases Nat.lt_or_ge j i with h' | h'
          · exact h j h'
          · have : j = i := by omega
            rw [this]; exact hc
      · exact .inr ⟨c, by omega, h2, fun j hj1 hj2 => by
          rcases Nat.lt_or_ge j i with h' | h'
          · exact h3 j hj1 h'
          · have : j = i := by omega
            rw [this]; exact hc⟩
/-- **a region whose order is open, in whose head some operations, one behind the other, make memory** -/
theorem reg_c {e : Env} {l : List Oper} {id : Nat} (hm : P.follows .mixedOrders = true) (m : Nat) (cs : List Nat) (hok : okC l m cs = true) (h : DSc ro P l.toArray n d w cs 0 (l.take m) e fun ek => ∀ w', Keep0 w w' → CSeq ro P l.toArray Q n d (l.drop m) (cs.filterMap (l[·]?)) ek w') :
    (Code.region id l.toArray true).wpIn (Fr ro) 0 P Q (E n e d) w := by
  obtain ⟨vs, hl, hh, hK⟩ := dsc_vals h
  obtain ⟨hd, hq, hcc, hcs⟩ := okC_spec hok
  obtain ⟨_, _, hml, hdst, _, _⟩ := okDraw_spec hd
  have hlm : (l.take m).length = m := by simp; omega
  have hlv : vs.length = m := by omega
  rw [show cs.filterMap (l[·]?) = cOps l m cs 0 by unfold cOps; conv => lhs; rw [hcs]
                                                   congr 2
                                                   funext i
                                                   show cs.contains i = (cs.contains i && true)
                                                   rw [Bool.and_true]] at hK
  generalize hek : seqE e ((msk cs 0 (l.take m)).zip vs) = ek at hK
  have hps : ∀ k i p, (((msk cs 0 (l.take m)).zip vs).take k)[i]? = some p → i < k ∧ i < m ∧ vs[i]? = some p.2 ∧ ∃ o, l[i]? = some o ∧ p.1 = (bif cs.contains i then { o with dst := none } else o) := by
    intro k i p hp
    rw [List.getElem?_take] at hp
    split at hp
    · rename_i hik
      rw [List.getElem?_zip_eq_some, msk_get, List.getElem?_take] at hp
      obtain ⟨h1, h2⟩ := hp
      split at h1
      · rename_i him
        obtain ⟨o, ho, h1⟩ := Option.map_eq_some_iff.1 h1
        rw [Nat.zero_add] at h1
        exact ⟨hik, him, h2, o, ho, h1.symm⟩
      · simp at h1
    · cases hp
  have F1 : ∀ k j s v, j < k → j < m → cs.contains j = false → dstAt l j = some s → vs[j]? = some v → seqE e (((msk cs 0 (l.take m)).zip vs).take k) s = v := by
    intro k j s v hjk hjm hjc hds hv
    have hoj : ∃ o, l[j]? = some o := ⟨l[j]'(by omega), List.getElem?_eq_getElem _⟩
    obtain ⟨o, ho⟩ := hoj
    refine seqE_at (j := j) (o := o) (v := v) _ e ?_ (by simpa [dstAt, ho] using hds) fun i p hp hpd => ?_
    · rw [List.getElem?_take, if_pos hjk, List.getElem?_zip_eq_some, msk_get, List.getElem?_take, if_pos hjm, ho, Nat.zero_add, hjc]
      exact ⟨rfl, hv⟩
    · obtain ⟨a1, a2, a3, o', ho', hp1⟩ := hps k i p hp
      cases hci : cs.contains i with
      | true => rw [hci] at hp1; rw [hp1] at hpd; cases hpd
      | false =>
        rw [hci] at hp1
        rw [hp1] at hpd
        exact hdst i j s a2 hjm (by simp [dstAt, ho']; exact hpd) hds
  have F2 : ∀ k s, (∀ j, j < m → cs.contains j = false → dstAt l j ≠ some s) → seqE e (((msk cs 0 (l.take m)).zip vs).take k) s = e s := by
    intro k s hs
    refine seqE_not _ e fun p hp hpd => ?_
    obtain ⟨i, hi, rfl⟩ := List.getElem_of_mem hp
    obtain ⟨a1, a2, a3, o', ho', hp1⟩ := hps k i _ (List.getElem?_eq_getElem hi)
    cases hci : cs.contains i with
    | true => rw [hci] at hp1; rw [hp1] at hpd; cases hpd
    | false =>
      rw [hci] at hp1
      rw [hp1] at hpd
      exact hs i a2 hci (by simp [dstAt, ho']; exact hpd)
  have hall : ((msk cs 0 (l.take m)).zip vs).take m = (msk cs 0 (l.take m)).zip vs := List.take_of_length_le (by simp [msk_len]; omega)
  have F1m : ∀ j s v, j < m → cs.contains j = false → dstAt l j = some s → vs[j]? = some v → ek s = v := fun j s v h1 h2 h3 h4 => by
    rw [← hek, ← hall]; exact F1 m j s v h1 h1 h2 h3 h4
  have F2m : ∀ s, (∀ j, j < m → cs.contains j = false → dstAt l j ≠ some s) → ek s = e s := fun s hs => by
    rw [← hek, ← hall]; exact F2 m s hs
  have hvj : ∀ j, j < m → ∃ v, vs[j]? = some v := fun j hj => ⟨vs[j]'(by omega), List.getElem?_eq_getElem _⟩
  let Rs := (List.range m).map fun i => bif cs.contains i then Rc ro P Q n d l m cs ek i else rv (vs.getD i undef)
  have hRs : ∀ i, i < m → Rs.getD i default = (bif cs.contains i then Rc ro P Q n d l m cs ek i else rv (vs.getD i undef)) := fun i hi => by simp [Rs, List.getD, hi]
  have hnot : ∀ s, (∀ j, j < m → dstAt l j ≠ some s) → notDst l m s = true := fun s hs => List.all_eq_true.2 fun o ho => by
    obtain ⟨j, hj, rfl⟩ := List.getElem_of_mem ho
    have hjm : j < m := by rw [hlm] at hj; exact hj
    have := hs j hjm
    have : ¬ (l.take m)[j].dst = some s := fun hd => this (by simp only [dstAt]; rw [List.getElem?_eq_getElem (by omega)]; rw [List.getElem_take] at hd; exact hd)
    simpa using this
  refine reg_draw hm m none hd Rs _ rfl ?_ _ rfl ?_ ?_ (fun f hf => by cases hf)
  · -- what the words lean on
    unfold depOk
    refine List.all_eq_true.2 fun i hi => List.all_eq_true.2 fun s hs => ?_
    have him := List.mem_range.1 hi
    have hsd : (Rs.map (·.deps)).getD i [] = (Rs.getD i default).deps := by simp [Rs, List.getD, him]
    rw [hsd, hRs i him] at hs
    cases hci : cs.contains i with
    | false => rw [hci] at hs; cases hs
    | true =>
      rw [hci] at hs
      obtain ⟨c, hc, hds⟩ := List.mem_filterMap.1 hs
      obtain ⟨hc1, hc2⟩ := List.mem_filter.1 hc
      have hc1' := List.mem_range.1 hc1
      refine List.any_eq_true.2 ⟨c, List.mem_range.2 (by omega), ?_⟩
      simp only [Bool.and_eq_true]
      exact ⟨by simp [hds], (hcc i him hci).2 c hc1' hc2⟩
  · -- an operation of the head
    intro i o ho him e' w' hk hfr hR
    have hil : i < l.length := (List.getElem?_eq_some_iff.1 ho).1
    obtain ⟨hpl, hrd⟩ := hq i o him ho
    rw [hRs i him]
    have hkv : ∀ j s, j < m → cs.contains j = false → dstAt l j = some s → ((anc l).getD i []).contains j = true → ∀ v, vs[j]? = some v → e' s = v := by
      intro j s hj hjc hds ha v hv
      obtain ⟨lo, hi, _, _, hok2⟩ := hR j s ha hj hds
      rw [hRs j hj, hjc] at hok2
      have : e' s = vs.getD j undef := hok2
      rw [this]; simp [List.getD, hv]
    cases hci : cs.contains i with
    | false =>
      obtain ⟨v, hv⟩ := hvj i him
      have hgv : vs.getD i undef = v := by simp [List.getD, hv]
      rw [hgv]
      refine wp1_congr (R := rv v) (fun _ _ _ _ _ _ h => h) hpl (fun s hs => ?_) (hh i o v (by rw [List.getElem?_take, if_pos him]; exact ho) hv (by rw [Nat.zero_add]; exact hci) w' hk)
      by_cases hx : ∃ j, j < m ∧ dstAt l j = some s
      · obtain ⟨j, hj, hds⟩ := hx
        obtain ⟨ha, hcj⟩ := hrd s hs j hj hds
        obtain ⟨u, hu⟩ := hvj j hj
        rw [hkv j s hj (hcj hci) hds ha u hu, F1 i j s u (anc_lt hd hil ha) hj (hcj hci) hds hu]
      · have hx' : ∀ j, j < m → dstAt l j ≠ some s := fun j hj hds => hx ⟨j, hj, hds⟩
        rw [hfr s (hnot s hx'), F2 i s fun j hj _ => hx' j hj]
    | true =>
      -- the chain so far
      have hec : ∃ ec : Env, (∀ c s, c < i → cs.contains c = true → dstAt l c = some s → e' s = ec s) ∧ (∀ s, (∀ c, c < i → cs.contains c = true → dstAt l c ≠ some s) → ec s = ek s) ∧ CSeq ro P l.toArray Q n d (l.drop m) (cOps l m cs i) ec w' := by
        rcases last_c cs i with hno | ⟨c, hc1, hc2, hc3⟩
        · refine ⟨ek, fun c s hc hcc => ?_, fun _ _ => rfl, ?_⟩
          · rw [hno c hc] at hcc; cases hcc
          · have := hK w' hk
            rw [cOps_to i 0 fun j _ hj => hno j (by omega), Nat.zero_add] at this
            exact this
        · obtain ⟨sc, hsc⟩ := Option.isSome_iff_exists.1 (hcc c (by omega) hc2).1
          obtain ⟨lo, hi, _, _, hok2⟩ := hR c sc ((hcc i him hci).2 c hc1 hc2) (by omega) hsc
          rw [hRs c (by omega), hc2] at hok2
          obtain ⟨ec, q1, q2, q3, q4⟩ := hok2
          refine ⟨ec, fun c' s hc' hcc' hds => ?_, fun s hs => q3 s fun c' hc' => hs c' (by omega), ?_⟩
          · rcases Nat.lt_trichotomy c' c with hlt | heq | hgt
            · exact q1 c' s hlt hcc' hds
            · subst heq
              have : s = sc := by rw [hds] at hsc; exact Option.some.inj hsc
              subst this
              exact q2 s hds
            · rw [hc3 c' hgt hc'] at hcc'; cases hcc'
          · have := q4 w' (Keep.refl _ _)
            rw [cOps_to (i - (c + 1)) (c + 1) fun j h1 h2 => hc3 j (by omega) (by omega), show c + 1 + (i - (c + 1)) = i by omega] at this
            exact this
      obtain ⟨ec, qA, qB, qC⟩ := hec
      rw [cOps_cons him ho hci] at qC
      have hds_ne : ∀ c s, c < m → c ≠ i → dstAt l c = some s → o.dst ≠ some s := fun c s hc hne hds hod => hne (hdst c i s hc him hds (by simp [dstAt, ho, hod]))
      have q1 := wp1_congr (e' := e') (R := cxx _) (fun _ _ _ _ _ _ h => h) hpl (fun s hs => ?_) qC
      · refine wp1_mono (fun ex a w2 hq => ?_) q1
        cases ex with
        | normal =>
          obtain ⟨v, ha, hk2, hΨ⟩ := hq
          refine ⟨v, ha, hk2, updo ec o.dst v, fun c s hc hcc hds => ?_, fun s hs => ?_, fun s hs => ?_, hΨ⟩
          · rw [qA c s hc hcc hds]
            have := hds_ne c s (by omega) (by omega) hds
            cases hod : o.dst with
            | none => rfl
            | some t =>
              have : s ≠ t := fun h => this (by rw [hod, h])
              simp [updo, upd, nbeq this]
          · have hod : o.dst = some s := by simpa [dstAt, ho] using hs
            rw [hod]; simp [updo, upd]
          · have hne : o.dst ≠ some s := fun hod => hs i (Nat.le_refl _) hci (by simp [dstAt, ho, hod])
            have : updo ec o.dst v s = ec s := by
              cases hod : o.dst with
              | none => rfl
              | some t =>
                have : s ≠ t := fun h => hne (by rw [hod, h])
                simp [updo, upd, nbeq this]
            rw [this]
            exact qB s fun c hc => hs c (by omega)
        | _ => exact hq
      · by_cases hx : ∃ j, j < m ∧ dstAt l j = some s
        · obtain ⟨j, hj, hds⟩ := hx
          obtain ⟨ha, _⟩ := hrd s hs j hj hds
          have hji := anc_lt hd hil ha
          cases hcj : cs.contains j with
          | true => exact qA j s hji hcj hds
          | false =>
            obtain ⟨u, hu⟩ := hvj j hj
            rw [hkv j s hj hcj hds ha u hu, qB s fun c hc hcc hds2 => ?_, F1m j s u hj hcj hds hu]
            have := hdst c j s (by omega) hj hds2 hds
            rw [this, hcj] at hcc; cases hcc
        · have hx' : ∀ j, j < m → dstAt l j ≠ some s := fun j hj hds => hx ⟨j, hj, hds⟩
          rw [hfr s (hnot s hx'), qB s fun c hc _ => hx' c (by omega), F2m s fun j hj _ => hx' j hj]
  · -- behind the head
    rintro e' w' hk hfr ⟨lo, hi, h1, _⟩
    have hkv : ∀ j s, j < m → cs.contains j = false → dstAt l j = some s → ∀ v, vs[j]? = some v → e' s = v := by
      intro j s hj hjc hds v hv
      have hok2 := (h1 j s hj hds).2.2.2
      rw [hRs j hj, hjc] at hok2
      have : e' s = vs.getD j undef := hok2
      rw [this]; simp [List.getD, hv]
    have hec : ∃ ec : Env, (∀ c s, c < m → cs.contains c = true → dstAt l c = some s → e' s = ec s) ∧ (∀ s, (∀ c, c < m → cs.contains c = true → dstAt l c ≠ some s) → ec s = ek s) ∧ CSeq ro P l.toArray Q n d (l.drop m) (cOps l m cs m) ec w' := by
      rcases last_c cs m with hno | ⟨c, hc1, hc2, hc3⟩
      · refine ⟨ek, fun c s hc hcc => ?_, fun _ _ => rfl, ?_⟩
        · rw [hno c hc] at hcc; cases hcc
        · have := hK w' hk
          rw [cOps_to m 0 fun j _ hj => hno j (by omega), Nat.zero_add] at this
          exact this
      · obtain ⟨sc, hsc⟩ := Option.isSome_iff_exists.1 (hcc c (by omega) hc2).1
        have hok2 := (h1 c sc hc1 hsc).2.2.2
        rw [hRs c hc1, hc2] at hok2
        obtain ⟨ec, q1, q2, q3, q4⟩ := hok2
        refine ⟨ec, fun c' s hc' hcc' hds => ?_, fun s hs => q3 s fun c' hc' => hs c' (by omega), ?_⟩
        · rcases Nat.lt_trichotomy c' c with hlt | heq | hgt
          · exact q1 c' s hlt hcc' hds
          · subst heq
            have : s = sc := by rw [hds] at hsc; exact Option.some.inj hsc
            subst this
            exact q2 s hds
          · rw [hc3 c' hgt hc'] at hcc'; cases hcc'
        · have := q4 w' (Keep.refl _ _)
          rw [cOps_to (m - (c + 1)) (c + 1) fun j h1 h2 => hc3 j (by omega) (by omega), show c + 1 + (m - (c + 1)) = m by omega] at this
          exact this
    obtain ⟨ec, qA, qB, qC⟩ := hec
    rw [cOps_end] at qC
    have he : e' = ec := by
      funext s
      by_cases hx : ∃ j, j < m ∧ dstAt l j = some s
      · obtain ⟨j, hj, hds⟩ := hx
        cases hcj : cs.contains j with
        | true => exact qA j s hj hcj hds
        | false =>
          obtain ⟨u, hu⟩ := hvj j hj
          rw [hkv j s hj hcj hds u hu, qB s fun c hc hcc hds2 => ?_, F1m j s u hj hcj hds hu]
          have := hdst c j s hc hj hds2 hds
          rw [this, hcj] at hcc; cases hcc
      · have hx' : ∀ j, j < m → dstAt l j ≠ some s := fun j hj hds => hx ⟨j, hj, hds⟩
        rw [hfr s (hnot s hx'), qB s fun c hc _ => hx' c (by omega), F2m s fun j hj _ => hx' j hj]
    rw [he]
    exact qC
end
end Go.Fx

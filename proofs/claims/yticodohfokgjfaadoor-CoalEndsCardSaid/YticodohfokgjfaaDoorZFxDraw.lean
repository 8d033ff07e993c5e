/- Part of a logic of my own for walks: rules by which a proof steps through code, proved once. -/
import Derived.Test.YticodohfokgjfaaDoorZFxOps
import Derived.OrdersIn
set_option linter.unusedSimpArgs false
set_option linter.unusedVariables false
namespace Go.Fx
open Go

theorem Oper.wpIn_both {F : Fence} {k : Nat} {P : Program} {o : Oper} {a : Act} {w : World} {K K' : Act → World → Prop} {Q Q' : Exit → Act → World → Prop} (h : ∀ a w, K a w → K' a w) (hq : ∀ e a w, e ≠ .normal → Q e a w → Q' e a w)
    (hh : o.wpIn F k P a w K Q) : o.wpIn F k P a w K' Q' := by
  refine ⟨hh.1, ?_⟩
  have h2 := hh.2
  revert h2
  generalize (o.semAt F.round a.eval).run P w = r
  intro h2
  have hl : LetsOut Q → LetsOut Q' := fun ⟨a, w, h⟩ => ⟨a, w, hq _ _ _ (by simp) h⟩
  unfold Oper.uponIn at h2 ⊢
  split at h2
  · exact h _ _ h2
  · exact h _ _ h2
  · exact h _ _ h2
  · refine ⟨h2.1, h2.2.mono fun e w' he => ?_⟩
    cases e with
    | returned v => exact h _ _ he
    | panicked c => exact hq _ _ _ (by simp) he
    | outgrown => exact hl he
  · exact ⟨h2.1, h2.2.mono fun v w' he => h _ _ he⟩
  · refine ⟨h2.1, h2.2.mono fun e w' he => ?_⟩
    cases e with
    | returned v => exact h _ _ he
    | panicked c => exact hq _ _ _ (by simp) he
    | outgrown => exact hl he
  · exact hq _ _ _ (by simp) h2
  · exact h2.elim

/-- what an operation of a region has come to: a word that stays -/
structure Rx where
  ok : Env → Value → Nat → Nat → World → Prop
  deps : List Nat
  loc : ∀ e e' v lo hi w, (∀ s ∈ deps, e' s = e s) → ok e v lo hi w → ok e' v lo hi w
  st : ∀ e v lo hi w1 w2, ok e v lo hi w1 → Keep0 w1 w2 → ok e v lo hi w2
instance : Inhabited Rx := ⟨⟨fun _ _ _ _ _ => True, [], fun _ _ _ _ _ _ _ _ => trivial, fun _ _ _ _ _ _ _ _ => trivial⟩⟩
theorem Asr.stays {p : Asr} {w w' : World} (h : p.ok w) (k : Keep0 w w') : p.ok w' := p.mono _ _ h fun b hb => k.block b (p.inb _ _ h hb) (fun x => x)
/-- lo, hi: how many blocks there were before and behind the operation: what it made lies between -/
def rx {α : Type} (val : α → Value) (pr : α → Nat → Nat → Prop) (as : α → List Asr) : Rx where
  ok _ v lo hi w := ∃ x, v = val x ∧ pr x lo hi ∧ ∀ p ∈ as x, p.ok w
  deps := []
  loc _ _ _ _ _ _ _ h := h
  st _ _ _ _ _ _ := fun ⟨x, h1, h2, h3⟩ k => ⟨x, h1, h2, fun p hp => Asr.stays (h3 p hp) k⟩
/-- a value that is known -/
def rv (v0 : Value) : Rx where
  ok _ v _ _ _ := v = v0
  deps := []
  loc _ _ _ _ _ _ _ h := h
  st _ _ _ _ _ _ h _ := h
/-- a value out of another slot's -/
def dv (s : Nat) (g : Value → Option Value) : Rx where
  ok e v _ _ _ := g (e s) = some v
  deps := [s]
  loc _ _ _ _ _ _ h k := by rw [h s (List.mem_cons_self ..)]; exact k
  st _ _ _ _ _ _ h _ := h
def exG (k : Nat) : Value → Option Value
  | .tuple vs => vs[k]?
  | _ => none

def Done (n : Nat) (d : List Deferred) (e : Env) (w : World) (dst : Option Nat) (R : Rx) : Exit → Act → World → Prop
  | .normal, a, w' => ∃ v, a = E n (updo e dst v) d ∧ Keep0 w w' ∧ R.ok e v w.heap.size w'.heap.size w'
  | _, _, _ => False

/-! the check of a region's edges -/
def edges (o : Oper) : List Nat := (o.after.toList.filter (Region.binds .any ·)).map (·.on)
/-- all that an operation waits for, at whatever distance -/
def anc : List Oper → List (List Nat)
  | l => l.foldl (fun acc o => acc ++ [(List.range acc.length).filter fun j => (edges o).any fun k => k == j || (acc.getD k []).contains j]) []
def dstAt (l : List Oper) (i : Nat) : Option Nat := (l[i]?).bind (·.dst)
/-- fl: one operation of the head that may also come behind the tail's first one -/
def okDraw (l : List Oper) (m : Nat) (fl : Option Nat) : Bool :=
  (l.zipIdx.all fun (o, i) => (edges o).all fun j => Nat.blt j i) &&
  (((anc l).zipIdx.drop m).all fun (s, i) => (List.range i).all fun j => s.contains j || (i == m && fl == some j)) &&
  Nat.ble m l.length &&
  ((List.range m).all fun i => (List.range m).all fun j => i == j || (dstAt l i).isNone || dstAt l i != dstAt l j) &&
  (match fl with | some f => Nat.blt f m && Nat.blt m l.length | none => true) &&
  ((anc l).zipIdx.all fun (s, i) => s.all fun j => Nat.blt j i)
def notDst (l : List Oper) (m s : Nat) : Bool := (l.take m).all fun o => !(o.dst == some s)
def waits (l : List Oper) (i j : Nat) : Bool := ((anc l).getD i []).contains j
/-- what a word leans on are slots that its operation waits for -/
def depOk (l : List Oper) (m : Nat) (ds : List (List Nat)) : Bool :=
  (List.range m).all fun i => (ds.getD i []).all fun s => (List.range m).any fun j => dstAt l j == some s && waits l i j

theorem anc_aux : ∀ (l : List Oper) (acc : List (List Nat)), (l.foldl (fun acc o => acc ++ [(List.range acc.length).filter fun j => (edges o).any fun k => k == j || (acc.getD k []).contains j]) acc).length = acc.length + l.length ∧
    ∀ (S : Nat → Prop), (∀ i s, acc[i]? = some s → S i → ∀ j ∈ s, S j) → (∀ i o, l[i]? = some o → S (acc.length + i) → ∀ j ∈ edges o, S j) →
      ∀ i s, (l.foldl (fun acc o => acc ++ [(List.range acc.length).filter fun j => (edges o).any fun k => k == j || (acc.getD k []).contains j]) acc)[i]? = some s → S i → ∀ j ∈ s, S j
  | [], acc => ⟨by simp, fun S h _ => h⟩
  | o :: l, acc => by
    have ih := anc_aux l (acc ++ [(List.range acc.length).filter fun j => (edges o).any fun k => k == j || (acc.getD k []).contains j])
    refine ⟨by rw [List.foldl_cons, ih.1]; simp; omega, fun S h1 h2 => ?_⟩
    rw [List.foldl_cons]
    refine ih.2 S ?_ ?_
    · intro i s hi hS j hj
      rcases Nat.lt_or_ge i acc.length with hlt | hge
      · rw [List.getElem?_append_left hlt] at hi
        exact h1 i s hi hS j hj
      · rw [List.getElem?_append_right hge] at hi
        have h0 : i = acc.length := by
          rcases Nat.eq_or_lt_of_le hge with h | h
          · exact h.symm
          · rw [List.getElem?_eq_none (by simp; omega)] at hi; cases hi
        subst h0
        simp only [Nat.sub_self, List.getElem?_cons_zero, Option.some.injEq] at hi
        subst hi
        obtain ⟨k, hk, hjk⟩ := List.any_eq_true.1 (List.mem_filter.1 hj).2
        have hSk : S k := h2 0 o rfl (by simpa using hS) k hk
        simp only [Bool.or_eq_true, beq_iff_eq, List.contains_iff_mem] at hjk
        rcases hjk with rfl | hjk
        · exact hSk
        · cases hg : acc[k]? with
          | none => simp [hg] at hjk
          | some t =>
            simp [hg] at hjk
            exact h1 k t hg hSk j hjk
    · intro i o' hi hS
      refine h2 (i + 1) o' (by simpa using hi) ?_
      have : acc.length + (i + 1) = (acc ++ [(List.range acc.length).filter fun j => (edges o).any fun k => k == j || (acc.getD k []).contains j]).length + i := by simp; omega
      rw [this]; exact hS

section
variable {ro : Option Nat} {P : Program} {Q : Exit → Act → World → Prop} {n : Nat} {d : List Deferred} {e : Env} {w : World} {l : List Oper} {m : Nat}

theorem okDraw_spec {fl : Option Nat} (h : okDraw l m fl = true) : (∀ (i : Nat) (o : Oper), l[i]? = some o → ∀ x ∈ o.after, Region.binds .any x = true → x.on < i) ∧
    (∀ (S : Nat → Prop), (∀ i o, l[i]? = some o → S i → ∀ j ∈ edges o, S j) → ∀ i, m ≤ i → i < l.length → S i → ∀ j, j < i → (i = m ∧ fl = some j) ∨ S j) ∧ m ≤ l.length ∧
    (∀ i j s, i < m → j < m → dstAt l i = some s → dstAt l j = some s → i = j) ∧ (∀ f, fl = some f → f < m ∧ m < l.length) ∧
    ∀ (S : Nat → Prop), (∀ i o, l[i]? = some o → S i → ∀ j ∈ edges o, S j) → ∀ i j, i < l.length → S i → ((anc l).getD i []).contains j = true → j < i ∧ S j := by
  simp only [okDraw, Bool.and_eq_true] at h
  obtain ⟨⟨⟨⟨⟨h1, h2⟩, h3⟩, h4⟩, h5⟩, h6⟩ := h
  refine ⟨?_, ?_, ?_, ?_, ?_, ?_⟩
  · intro i o hi x hx hb
    rw [List.all_eq_true] at h1
    have := h1 (o, i) (by rw [List.mem_zipIdx_iff_getElem?]; simpa using hi)
    simp only [List.all_eq_true] at this
    have := this x.on (List.mem_map.2 ⟨x, List.mem_filter.2 ⟨Array.mem_def.1 hx, hb⟩, rfl⟩)
    rwa [Nat.blt_eq] at this
  · intro S hS i hm hi hSi j hj
    rw [List.all_eq_true] at h2
    have hlen := (anc_aux l []).1
    have hA := (anc_aux l []).2 S (by simp) (by simpa using hS)
    have hi' : i < (anc l).length := by unfold anc; rw [hlen]; simpa using hi
    have := h2 ((anc l)[i], i) (by
      have : ((anc l).zipIdx.drop m)[i - m]? = some ((anc l)[i], i) := by
        rw [List.getElem?_drop, show m + (i - m) = i by omega, List.getElem?_zipIdx]
        simp [hi']
      exact List.mem_of_getElem? this)
    simp only [List.all_eq_true, List.mem_range] at this
    have hm := this j hj
    simp only [Bool.or_eq_true, Bool.and_eq_true, beq_iff_eq, List.contains_iff_mem] at hm
    rcases hm with hm | hm
    · exact .inr (hA i _ (List.getElem?_eq_getElem hi') hSi j hm)
    · exact .inl hm
  · exact Nat.le_of_ble_eq_true h3
  · intro i j s hi hj hsi hsj
    simp only [List.all_eq_true, List.mem_range] at h4
    have := h4 i hi j hj
    simp [hsi, hsj] at this
    exact this
  · rintro f rfl
    simp only [Bool.and_eq_true, Nat.blt_eq] at h5
    exact h5
  · intro S hS i j hi hSi hj
    have hlen := (anc_aux l []).1
    have hA := (anc_aux l []).2 S (by simp) (by simpa using hS)
    have hi' : i < (anc l).length := by unfold anc; rw [hlen]; simpa using hi
    rw [List.getD_eq_getElem?_getD, List.getElem?_eq_getElem hi', Option.getD_some, List.contains_iff_mem] at hj
    refine ⟨?_, hA i _ (List.getElem?_eq_getElem hi') hSi j hj⟩
    rw [List.all_eq_true] at h6
    have := h6 ((anc l)[i], i) (by rw [List.mem_zipIdx_iff_getElem?]; simp [hi'])
    simp only [List.all_eq_true] at this
    have := this j hj
    rwa [Nat.blt_eq] at this

theorem wpA_one {full : Array Oper} {o : Oper} {a : Act} {w : World} {K : Act → World → Prop} {Q Q' : Exit → Act → World → Prop} {i : Nat} (hi : full[i]? = some o) (hK : ∀ a w, Q .normal a w → K a w) (hQ : ∀ e a w, e ≠ .normal → Q e a w → Q' e a w)
    (h : wpA ro P full Q [o] a w) : wpOpIn (Fr ro) 0 P full Q' i K a w := by
  unfold wpOpIn
  simp only [hi]
  simp only [wpA] at h
  split at h
  · rename_i hw
    rw [if_pos hw]
    exact Oper.wpIn_both (fun a w h => hK a w (by unfold wpA at h; exact h)) hQ h
  · rename_i hw
    rw [if_neg hw]
    exact ⟨fun _ _ => trivial, hK _ _ h⟩

theorem wpA_head {full : Array Oper} {o : Oper} {rest : List Oper} {a : Act} {w : World} {Q : Exit → Act → World → Prop} {K : Act → World → Prop} {i : Nat} (hi : full[i]? = some o) (hK : ∀ a w, wpA ro P full Q rest a w → K a w)
    (h : wpA ro P full Q (o :: rest) a w) : wpOpIn (Fr ro) 0 P full Q i K a w := by
  unfold wpOpIn
  simp only [hi]
  simp only [wpA] at h
  split at h
  · rename_i hw
    rw [if_pos hw]
    exact Oper.wpIn_both hK (fun _ _ _ _ h => h) h
  · rename_i hw
    rw [if_neg hw]
    exact ⟨fun _ _ => trivial, hK _ _ h⟩

/-- how many are still to come -/
def left (listed : Array Bool) : Nat := (listed.toList.filter (! ·)).length
theorem left_set {listed : Array Bool} {i : Nat} (hi : i < listed.size) (h : listed.getD i true = false) : left (listed.setIfInBounds i true) + 1 = left listed := by
  obtain ⟨l⟩ := listed
  simp only [left, List.setIfInBounds_toArray, List.size_toArray] at *
  have h' : l[i]? = some false := by
    rw [List.getElem?_eq_getElem hi]
    simpa [Array.getD, hi] using h
  clear h
  induction l generalizing i with
  | nil => simp at hi
  | cons x l ih =>
    cases i with
    | zero => simp at h'; subst h'; simp
    | succ i =>
      simp only [List.length_cons] at hi
      have := ih (i := i) (by omega) (by simpa using h')
      simp only [List.set_cons_succ, List.filter_cons]
      split <;> simp_all

theorem left_zero {listed : Array Bool} (h : left listed = 0) : ∀ i, i < listed.size → listed.getD i false = true := by
  intro i hi
  unfold left at h
  rw [List.length_eq_zero_iff, List.filter_eq_nil_iff] at h
  have := h listed[i] (by simp)
  simpa [Array.getD, hi] using this
theorem left_pos {listed : Array Bool} (h : left listed ≠ 0) : ∃ i, i < listed.size ∧ listed.getD i false = false := by
  unfold left at h
  obtain ⟨x, hx⟩ := List.exists_mem_of_length_pos (Nat.pos_of_ne_zero h)
  obtain ⟨h1, h2⟩ := List.mem_filter.1 hx
  obtain ⟨i, hi, rfl⟩ := List.getElem_of_mem h1
  have hi' : i < listed.size := by simpa using hi
  exact ⟨i, hi', by simpa [Array.getD, hi'] using h2⟩

/-- **a region whose order is open**: each operation of its head comes to a word that stays; its tail is forced -/
theorem reg_draw {id : Nat} (hm : P.follows .mixedOrders = true) (m : Nat) (fl : Option Nat) (hok : okDraw l m fl = true) (Rs : List Rx) (ds : List (List Nat)) (hds : Rs.map (·.deps) = ds) (hdep : depOk l m ds = true) (A : List (List Nat)) (hA : anc l = A)
    (hop : ∀ i o, l[i]? = some o → i < m → ∀ (e' : Env) (w' : World), Keep0 w w' → (∀ s, notDst l m s = true → e' s = e s) → (∀ j s, (A.getD i []).contains j = true → j < m → dstAt l j = some s → ∃ lo hi, w.heap.size ≤ lo ∧ hi ≤ w'.heap.size ∧ (Rs.getD j default).ok e' (e' s) lo hi w') →
      wpA ro P l.toArray (Done n d e' w' o.dst (Rs.getD i default)) [o] (E n e' d) w')
    (htail : ∀ (e' : Env) (w' : World), Keep0 w w' → (∀ s, notDst l m s = true → e' s = e s) → (∃ lo hi : Nat → Nat, (∀ j s, j < m → dstAt l j = some s → w.heap.size ≤ lo j ∧ lo j ≤ hi j ∧ hi j ≤ w'.heap.size ∧ (Rs.getD j default).ok e' (e' s) (lo j) (hi j) w') ∧ ∀ i j, i < m → j < m → i ≠ j → hi i ≤ lo j ∨ hi j ≤ lo i) → wpA ro P l.toArray Q (l.drop m) (E n e' d) w')
    (hlate : ∀ f, fl = some f → ∀ (e' : Env) (w' : World), Keep0 w w' → (∀ s, notDst l m s = true → e' s = e s) → (∃ lo hi : Nat → Nat, (∀ j s, j < m → j ≠ f → dstAt l j = some s → w.heap.size ≤ lo j ∧ lo j ≤ hi j ∧ hi j ≤ w'.heap.size ∧ (Rs.getD j default).ok e' (e' s) (lo j) (hi j) w') ∧ ∀ i j, i < m → j < m → i ≠ f → j ≠ f → i ≠ j → hi i ≤ lo j ∨ hi j ≤ lo i) →
      wpA ro P l.toArray Q ((l.drop m).take 1 ++ ((l.drop f).take 1 ++ l.drop (m + 1))) (E n e' d) w') :
    (Code.region id l.toArray true).wpIn (Fr ro) 0 P Q (E n e d) w := by
  obtain ⟨hback, hanc, hml, hdst, hfl, hanc2⟩ := okDraw_spec hok
  have hdeps : ∀ i s o, i < m → l[i]? = some o → s ∈ (Rs.getD i default).deps → ∃ j, j < m ∧ dstAt l j = some s ∧ waits l i j = true := by
    intro i s o hi ho hs
    have h1 := List.all_eq_true.1 hdep i (List.mem_range.2 hi)
    have h2 : (ds.getD i []) = (Rs.getD i default).deps := by
      subst hds
      simp only [List.getD, List.getElem?_map]
      cases Rs[i]? <;> rfl
    rw [h2] at h1
    obtain ⟨j, hj, h3⟩ := List.any_eq_true.1 (List.all_eq_true.1 h1 s hs)
    simp only [Bool.and_eq_true, beq_iff_eq] at h3
    exact ⟨j, List.mem_range.1 hj, h3.1, h3.2⟩
  refine wpIn_region_any hm ?_
  -- the tail, one after the other
  have tail : ∀ (k : Nat) (fuel : Nat) (listed : Array Bool) (a : Act) (w' : World), m ≤ k → k ≤ l.length → fuel = left listed → listed.size = l.length → (∀ i, i < l.length → (listed.getD i false = true ↔ i < k)) →
      wpA ro P l.toArray Q (l.drop k) a w' → wpAnyIn (Fr ro) 0 P .any l.toArray Q fuel listed a w' := by
    intro k fuel
    induction fuel generalizing k with
    | zero =>
      intro listed a w' hmk hk hf hsz hl h
      have hkl : k = l.length := by
        rcases Nat.eq_or_lt_of_le hk with h | h
        · exact h
        · have := (hl k h).1 (left_zero hf.symm k (by omega)); omega
      subst hkl
      refine ⟨?_, by simpa [wpA] using h⟩
      refine List.eq_nil_iff_forall_not_mem.2 fun i hi => ?_
      obtain ⟨h1, o, h2, _⟩ := mem_ready.1 hi
      have hi' : i < l.length := by
        obtain ⟨hh, _⟩ := Array.getElem?_eq_some_iff.1 h2
        simpa using hh
      have := (hl i hi').2 hi'
      simp [Array.getD, hsz, hi'] at this h1
      rw [this] at h1; cases h1
    | succ fuel ih =>
      intro listed a w' hmk hk hf hsz hl h
      have hkl : k < l.length := by
        obtain ⟨i, h1, h2⟩ := left_pos (listed := listed) (by omega)
        have := hl i (by omega)
        rcases Nat.lt_or_ge i k with h | h
        · rw [this.2 h] at h2; cases h2
        · omega
      refine ⟨fun hnil => ?_, fun i hi => ?_⟩
      · exfalso
        have : k ∈ Region.ready .any l.toArray listed := by
          refine mem_ready.2 ⟨?_, l[k], by simp [hkl], fun x hx hb => ?_⟩
          · have : ¬ listed.getD k false = true := fun h => by have := (hl k hkl).1 h; omega
            simp [Array.getD, hsz, hkl] at this ⊢
            exact this
          · exact (hl x.on (by have := hback k l[k] (List.getElem?_eq_getElem hkl) x hx hb; omega)).2 (hback k l[k] (List.getElem?_eq_getElem hkl) x hx hb)
        rw [hnil] at this; cases this
      · obtain ⟨h1, o, h2, h3⟩ := mem_ready.1 hi
        have hi' : i < l.length := by
          obtain ⟨hh, _⟩ := Array.getElem?_eq_some_iff.1 h2
          simpa using hh
        have hnk : ¬ i < k := fun hlt => by
          have := (hl i hi').2 hlt
          simp [Array.getD, hsz, hi'] at this h1
          rw [this] at h1; cases h1
        have hik : i = k := by
          rcases Nat.eq_or_lt_of_le (Nat.le_of_not_lt hnk) with h | h
          · exact h.symm
          · exfalso
            -- all that i waits for is listed; k is not
            let S : Nat → Prop := fun j => j = i ∨ listed.getD j false = true
            have hS := hanc S (fun j oj hj hSj x hx => by
              have hxo : ∃ y ∈ oj.after, Region.binds .any y = true ∧ y.on = x := by
                simp only [edges, List.mem_map, List.mem_filter] at hx
                obtain ⟨y, ⟨hy1, hy2⟩, rfl⟩ := hx
                exact ⟨y, Array.mem_def.2 hy1, hy2, rfl⟩
              obtain ⟨y, hy, hb, rfl⟩ := hxo
              rcases hSj with rfl | hSj
              · have : oj = o := by
                  have h2' : l[j]? = some o := by simpa using h2
                  rw [hj] at h2'; exact Option.some.inj h2'
                subst this
                exact .inr (h3 y hy hb)
              · have hjl : j < l.length := (List.getElem?_eq_some_iff.1 hj).1
                have := hback j oj hj y hy hb
                exact .inr ((hl y.on (by omega)).2 (by have := (hl j hjl).1 hSj; omega))) i (by omega) hi' (.inl rfl) k h
            rcases hS.resolve_left (fun h => by omega) with h4 | h4
            · omega
            · have := (hl k hkl).1 h4; omega
        subst hik
        have hd : l.drop i = o :: l.drop (i + 1) := by
          have h2' : l[i]? = some o := by simpa using h2
          rw [List.drop_eq_getElem_cons hi']
          rw [List.getElem?_eq_getElem hi'] at h2'
          rw [Option.some.inj h2']
        rw [hd] at h
        refine wpA_head h2 (fun a w h => ?_) h
        refine ih (i + 1) _ a w (by omega) (by omega) (by have := left_set (by omega) h1; omega) (by simpa using hsz) (fun j hj => ?_) h
        by_cases hji : j = i
        · subst hji
          have : (listed.setIfInBounds j true).getD j false = true := by simp [Array.getD, hsz, hj]
          simp [this]
        · have h6 := hl j hj
          have h5 : (listed.setIfInBounds i true).getD j false = listed.getD j false := getD_set_ne false (fun h => hji h.symm)
          rw [h5, h6]; omega
  -- all of the head but f, and the tail's first one, have been; f is still to come
  have late : ∀ (f : Nat) (o2 : Oper) (fuel : Nat) (listed : Array Bool) (a : Act) (w' : World), fl = some f → l[f]? = some o2 → fuel = left listed → listed.size = l.length → (∀ i, i < l.length → (listed.getD i false = true ↔ (i ≤ m ∧ i ≠ f))) →
      (∀ i o, l[i]? = some o → listed.getD i false = true → ∀ x ∈ o.after, Region.binds .any x = true → listed.getD x.on false = true) →
      wpA ro P l.toArray Q (o2 :: l.drop (m + 1)) a w' → wpAnyIn (Fr ro) 0 P .any l.toArray Q fuel listed a w' := by
    intro f o2 fuel listed a w' hff ho2 hf hsz hl hcl h
    obtain ⟨hfm, hml'⟩ := hfl f hff
    have hf0 : listed.getD f false = false := by
      cases hc : listed.getD f false with
      | false => rfl
      | true => exact absurd rfl ((hl f (by omega)).1 hc).2
    cases fuel with
    | zero =>
      have := left_zero hf.symm f (by omega)
      rw [hf0] at this; cases this
    | succ fuel =>
      refine ⟨fun hnil => ?_, fun i hi => ?_⟩
      · exfalso
        have : f ∈ Region.ready .any l.toArray listed := by
          have hfs : f < listed.size := by omega
          refine mem_ready.2 ⟨?_, o2, by simpa using ho2, fun x hx hb => ?_⟩
          · simp [Array.getD, hfs] at hf0 ⊢
            exact hf0
          · have := hback f o2 ho2 x hx hb
            exact (hl x.on (by omega)).2 ⟨by omega, by omega⟩
        rw [hnil] at this; cases this
      · obtain ⟨h1, o, h2, h3⟩ := mem_ready.1 hi
        have h2' : l[i]? = some o := by simpa using h2
        have hi' : i < l.length := (List.getElem?_eq_some_iff.1 h2').1
        have h1f : ¬ listed.getD i false = true := fun h => by
          simp [Array.getD, hsz, hi'] at h h1
          rw [h] at h1; cases h1
        have hif : i = f := by
          by_cases hle : i ≤ m
          · by_cases hif : i = f
            · exact hif
            · exact absurd ((hl i hi').2 ⟨hle, hif⟩) h1f
          · exfalso
            let S : Nat → Prop := fun j => j = i ∨ listed.getD j false = true
            have hS := hanc S (fun j oj hj hSj x hx => by
              simp only [edges, List.mem_map, List.mem_filter] at hx
              obtain ⟨y, ⟨hy1, hy2⟩, rfl⟩ := hx
              rcases hSj with rfl | hSj
              · have : oj = o := by rw [hj] at h2'; exact Option.some.inj h2'
                subst this
                exact .inr (h3 y (Array.mem_def.2 hy1) hy2)
              · exact .inr (hcl j oj hj hSj y (Array.mem_def.2 hy1) hy2)) i (by omega) hi' (.inl rfl) f (by omega)
            rcases hS.resolve_left (fun h => by omega) with h4 | h4
            · omega
            · rw [hf0] at h4; cases h4
        subst hif
        have : o2 = o := by rw [ho2] at h2'; exact Option.some.inj h2'
        subst this
        refine wpA_head h2 (fun a w h => tail (m + 1) fuel _ a w (by omega) (by omega) (by have := left_set (by omega) h1; omega) (by simpa using hsz) (fun j hj => ?_) h) h
        by_cases hji : j = i
        · subst hji
          have : (listed.setIfInBounds j true).getD j false = true := by simp [Array.getD, hsz, hj]
          simp [this]; omega
        · have h6 := hl j hj
          have h5 : (listed.setIfInBounds i true).getD j false = listed.getD j false := getD_set_ne false (fun h => hji h.symm)
          rw [h5, h6]; omega
  -- the head, in whatever order
  have head : ∀ (fuel : Nat) (listed : Array Bool) (e' : Env) (w' : World), fuel = left listed → listed.size = l.length → (∀ i, i < l.length → listed.getD i false = true → i < m) →
      (∀ i o, l[i]? = some o → listed.getD i false = true → ∀ x ∈ o.after, Region.binds .any x = true → listed.getD x.on false = true) →
      Keep0 w w' → (∀ s, notDst l m s = true → e' s = e s) → (∃ lo hi : Nat → Nat, (∀ j s, listed.getD j false = true → j < m → dstAt l j = some s → (Rs.getD j default).ok e' (e' s) (lo j) (hi j) w') ∧ (∀ j, listed.getD j false = true → w.heap.size ≤ lo j ∧ lo j ≤ hi j ∧ hi j ≤ w'.heap.size) ∧ ∀ i j, listed.getD i false = true → listed.getD j false = true → i ≠ j → hi i ≤ lo j ∨ hi j ≤ lo i) → wpAnyIn (Fr ro) 0 P .any l.toArray Q fuel listed (E n e' d) w' := by
    intro fuel
    induction fuel with
    | zero =>
      intro listed e' w' hf hsz hlm _ hk hfr hR
      have hall := left_zero hf.symm
      have hmm : m = l.length := by
        rcases Nat.eq_or_lt_of_le hml with h | h
        · exact h
        · have := hlm m h (hall m (by omega)); omega
      refine ⟨List.eq_nil_iff_forall_not_mem.2 fun i hi => ?_, ?_⟩
      · obtain ⟨h1, o, h2, _⟩ := mem_ready.1 hi
        have hi' : i < l.length := by
          obtain ⟨hh, _⟩ := Array.getElem?_eq_some_iff.1 h2
          simpa using hh
        have := hall i (by omega)
        simp [Array.getD, hsz, hi'] at this h1
        rw [this] at h1; cases h1
      · obtain ⟨lo, hi, hR, hb, hdj⟩ := hR
        have := htail e' w' hk hfr ⟨lo, hi, fun j s hj hs => ⟨(hb j (hall j (by omega))).1, (hb j (hall j (by omega))).2.1, (hb j (hall j (by omega))).2.2, hR j s (hall j (by omega)) hj hs⟩, fun i j hi hj hne => hdj i j (hall i (by omega)) (hall j (by omega)) hne⟩
        rw [hmm] at this
        simpa [wpA] using this
    | succ fuel ih =>
      intro listed e' w' hf hsz hlm hcl hk hfr hR
      refine ⟨fun hnil => ?_, fun i hi => ?_⟩
      · exfalso
        obtain ⟨i, h1, h2⟩ := left_pos (listed := listed) (by omega)
        -- the least one that is not listed is ready
        induction i using Nat.strongRecOn with
        | _ i ihi =>
          by_cases hh : ∃ j, j < i ∧ listed.getD j false = false
          · obtain ⟨j, hj, hj2⟩ := hh
            exact ihi j hj (by omega) hj2
          · have hil : i < l.length := by omega
            have : i ∈ Region.ready .any l.toArray listed := by
              refine mem_ready.2 ⟨?_, l[i], by simp [hil], fun x hx hb => ?_⟩
              · simp [Array.getD, h1] at h2 ⊢
                exact h2
              · have hxi := hback i l[i] (List.getElem?_eq_getElem hil) x hx hb
                cases hc : listed.getD x.on false with
                | true => rfl
                | false => exact absurd ⟨x.on, hxi, hc⟩ hh
            rw [hnil] at this; cases this
      · have hi'2 := hi
        obtain ⟨h1, o, h2, h3⟩ := mem_ready.1 hi
        have h2' : l[i]? = some o := by simpa using h2
        have hi' : i < l.length := (List.getElem?_eq_some_iff.1 h2').1
        have h1f : ¬ listed.getD i false = true := fun h => by
          simp [Array.getD, hsz, hi'] at h h1
          rw [h] at h1; cases h1
        rcases Nat.lt_or_ge i m with him | hmi
        · refine wpA_one h2 (fun a w2 hd => ?_) (fun ex a w2 hne hd => ?_) (hop i o h2' him e' w' hk hfr fun j s hw hj hs => ?_)
          · obtain ⟨v, rfl, hk2, hRv⟩ := hd
            obtain ⟨lo, hi, hR, hb, hdj⟩ := hR
            refine ih _ _ _ (by have := left_set (by omega) h1; omega) (by simpa using hsz) (fun j hj hjl => ?_) (fun j oj hj hjl x hx hb => ?_) (hk.trans hk2) (fun s hs => ?_) ⟨fun j => if j = i then w'.heap.size else lo j, fun j => if j = i then w2.heap.size else hi j, fun j s hjl hj hs => ?_, fun j hjl => ?_, fun j k hjl hkl hne => ?_⟩
            · by_cases hji : j = i
              · subst hji; exact him
              · rw [getD_set_ne false (fun h => hji h.symm)] at hjl
                exact hlm j hj hjl
            · by_cases hji : j = i
              · subst hji
                have : oj = o := by rw [hj] at h2'; exact Option.some.inj h2'
                subst this
                exact getD_set_true (h3 x hx hb)
              · rw [getD_set_ne false (fun h => hji h.symm)] at hjl
                exact getD_set_true (hcl j oj hj hjl x hx hb)
            · rw [← hfr s hs]
              cases hds : o.dst with
              | none => rfl
              | some t =>
                have hst : s ≠ t := fun h => by
                  subst h
                  have := List.all_eq_true.1 hs o (List.mem_take_iff_getElem.2 ⟨i, by omega, by rw [List.getElem?_eq_getElem hi'] at h2'; exact Option.some.inj h2'⟩)
                  simp [hds] at this
                simp [updo, upd, nbeq hst]
            · have hkeep : ∀ (j : Nat) (oj : Oper), j < m → l[j]? = some oj → (∀ k, waits l j k = true → k ≠ i) → ∀ s' ∈ (Rs.getD j default).deps, updo e' o.dst v s' = e' s' := by
                intro j oj hjm hoj hne s' hs'
                obtain ⟨k, hk1, hk2, hk3⟩ := hdeps j s' oj hjm hoj hs'
                cases hds : o.dst with
                | none => rfl
                | some t =>
                  have hst : s' ≠ t := fun h => by
                    subst h
                    exact hne k hk3 (hdst k i s' hk1 him hk2 (by simp [dstAt, h2', hds]))
                  simp [updo, upd, nbeq hst]
              by_cases hji : j = i
              · subst hji
                have hds : o.dst = some s := by simpa [dstAt, h2'] using hs
                have := (Rs.getD j default).loc _ (updo e' o.dst v) _ _ _ _ (hkeep j o him h2' fun k hw => by
                  have := (hanc2 (fun _ => True) (fun _ _ _ _ _ _ => trivial) j k hi' trivial hw).1
                  omega) hRv
                have hev : updo e' o.dst v s = v := by simp [hds, updo, upd]
                rw [hev]
                simpa using this
              · rw [getD_set_ne false (fun h => hji h.symm)] at hjl
                have hold := (Rs.getD j default).st _ _ _ _ _ _ (hR j s hjl hj hs) hk2
                simp only [if_neg hji]
                have hjlen : j < l.length := by omega
                have hold2 := (Rs.getD j default).loc _ (updo e' o.dst v) _ _ _ _ (hkeep j l[j] hj (List.getElem?_eq_getElem hjlen) fun k hw => by
                  intro hki
                  have h7 := (hanc2 (fun x => listed.getD x false = true) (fun x ox hx hSx y hy => by
                    simp only [edges, List.mem_map, List.mem_filter] at hy
                    obtain ⟨z, ⟨hz1, hz2⟩, rfl⟩ := hy
                    exact hcl x ox hx hSx z (Array.mem_def.2 hz1) hz2) j k hjlen hjl hw).2
                  rw [hki] at h7
                  exact h1f h7) hold
                have hev : updo e' o.dst v s = e' s := by
                  cases hds : o.dst with
                  | none => rfl
                  | some t =>
                    have hst : s ≠ t := fun h => by
                      subst h
                      exact hji (hdst j i s hj him hs (by simp [dstAt, h2', hds]))
                    simp [updo, upd, nbeq hst]
                rw [hev]
                exact hold2
            · by_cases hji : j = i
              · subst hji
                simp only [if_pos]
                exact ⟨hk.size, hk2.size, Nat.le_refl _⟩
              · rw [getD_set_ne false (fun h => hji h.symm)] at hjl
                simp only [if_neg hji]
                have := hb j hjl
                exact ⟨this.1, this.2.1, Nat.le_trans this.2.2 hk2.size⟩
            · by_cases hji : j = i
              · subst hji
                rw [getD_set_ne false (fun h => hne h)] at hkl
                simp only [if_neg (fun h => hne (Eq.symm h) : ¬ k = j), if_pos]
                exact .inr (hb k hkl).2.2
              · rw [getD_set_ne false (fun h => hji h.symm)] at hjl
                by_cases hki : k = i
                · subst hki
                  simp only [if_neg hji, if_pos]
                  exact .inl (hb j hjl).2.2
                · rw [getD_set_ne false (fun h => hki h.symm)] at hkl
                  simp only [if_neg hji, if_neg hki]
                  exact hdj j k hjl hkl hne
          · cases ex with
            | normal => exact absurd rfl hne
            | _ => exact hd.elim
          · obtain ⟨lo, hi, hR, hb, hdj⟩ := hR
            have hjl : listed.getD j false = true := ?_
            exact ⟨lo j, hi j, (hb j hjl).1, (hb j hjl).2.2, hR j s hjl hj hs⟩
            let S : Nat → Prop := fun j => j = i ∨ listed.getD j false = true
            have hS := hanc2 S (fun j oj hj hSj x hx => by
              simp only [edges, List.mem_map, List.mem_filter] at hx
              obtain ⟨y, ⟨hy1, hy2⟩, rfl⟩ := hx
              rcases hSj with rfl | hSj
              · have : oj = o := by rw [hj] at h2'; exact Option.some.inj h2'
                subst this
                exact .inr (h3 y (Array.mem_def.2 hy1) hy2)
              · exact .inr (hcl j oj hj hSj y (Array.mem_def.2 hy1) hy2)) i j hi' (.inl rfl) (by rw [hA]; exact hw)
            rcases hS.2 with h4 | h4
            · exact absurd h4 (by omega)
            · exact h4
        · -- the tail begins
          let S : Nat → Prop := fun j => j = i ∨ listed.getD j false = true
          have hS := hanc S (fun j oj hj hSj x hx => by
            simp only [edges, List.mem_map, List.mem_filter] at hx
            obtain ⟨y, ⟨hy1, hy2⟩, rfl⟩ := hx
            rcases hSj with rfl | hSj
            · have : oj = o := by rw [hj] at h2'; exact Option.some.inj h2'
              subst this
              exact .inr (h3 y (Array.mem_def.2 hy1) hy2)
            · exact .inr (hcl j oj hj hSj y (Array.mem_def.2 hy1) hy2)) i hmi hi' (.inl rfl)
          have hbef' : ∀ j, j < i → (i = m ∧ fl = some j) ∨ listed.getD j false = true := fun j hj => by
            rcases hS j hj with h | h | h
            · exact .inl h
            · omega
            · exact .inr h
          have him : i = m := by
            rcases Nat.eq_or_lt_of_le hmi with h | h
            · exact h.symm
            · rcases hbef' m h with h' | h'
              · exact h'.1
              · have := hlm m (by omega) h'; omega
          subst him
          obtain ⟨lo, hi, hR, hb, hdj⟩ := hR
          rcases Classical.em (∃ f, fl = some f ∧ listed.getD f false = false) with ⟨f, hff, hf0⟩ | hnone
          · obtain ⟨hfm, hml'⟩ := hfl f hff
            have hbefj : ∀ j, j < i → j ≠ f → listed.getD j false = true := fun j hj hne => (hbef' j hj).elim (fun h => absurd (Option.some.inj (h.2.symm.trans hff)) hne) (fun h => h)
            have hfl' : f < l.length := by omega
            have hL := hlate f hff e' w' hk hfr ⟨lo, hi, fun j s hj hne hs => ⟨(hb j (hbefj j hj hne)).1, (hb j (hbefj j hj hne)).2.1, (hb j (hbefj j hj hne)).2.2, hR j s (hbefj j hj hne) hj hs⟩, fun a b ha hb' hna hnb hne => hdj a b (hbefj a ha hna) (hbefj b hb' hnb) hne⟩
            have e1 : (l.drop i).take 1 = [o] := by
              have ho : l[i] = o := by rw [List.getElem?_eq_getElem hi'] at h2'; exact Option.some.inj h2'
              rw [List.drop_eq_getElem_cons hi', List.take_succ_cons, List.take_zero, ho]
            have e2 : (l.drop f).take 1 = [l[f]] := by
              rw [List.drop_eq_getElem_cons hfl', List.take_succ_cons, List.take_zero]
            rw [e1, e2] at hL
            have hL2 : wpA ro P l.toArray Q (o :: l[f] :: l.drop (i + 1)) (E n e' d) w' := by simpa using hL
            refine wpA_head h2 (fun a w h => late f l[f] fuel _ a w hff (List.getElem?_eq_getElem hfl') (by have := left_set (by omega) h1; omega) (by simpa using hsz) (fun j hj => ?_) (fun j oj hj hjl x hx hb => ?_) h) hL2
            · by_cases hji : j = i
              · subst hji
                have : (listed.setIfInBounds j true).getD j false = true := by simp [Array.getD, hsz, hj]
                simp [this]; omega
              · have h5 : (listed.setIfInBounds i true).getD j false = listed.getD j false := getD_set_ne false (fun h => hji h.symm)
                rw [h5]
                constructor
                · intro h9
                  have := hlm j hj h9
                  exact ⟨by omega, fun h' => by rw [h', hf0] at h9; cases h9⟩
                · rintro ⟨h7, h8⟩
                  exact hbefj j (by omega) h8
            · by_cases hji : j = i
              · subst hji
                have : oj = o := by rw [hj] at h2'; exact Option.some.inj h2'
                subst this
                exact getD_set_true (h3 x hx hb)
              · rw [getD_set_ne false (fun h => hji h.symm)] at hjl
                exact getD_set_true (hcl j oj hj hjl x hx hb)
          · have hbef : ∀ j, j < i → listed.getD j false = true := fun j hj => (hbef' j hj).elim (fun h => by
              cases hc : listed.getD j false with
              | true => rfl
              | false => exact absurd ⟨j, h.2, hc⟩ hnone) (fun h => h)
            have hT := tail i (fuel + 1) listed (E n e' d) w' (Nat.le_refl _) hml hf hsz (fun j hj => ⟨fun h => hlm j hj h, fun h => hbef j h⟩)
              (htail e' w' hk hfr ⟨lo, hi, fun j s hj hs => ⟨(hb j (hbef j hj)).1, (hb j (hbef j hj)).2.1, (hb j (hbef j hj)).2.2, hR j s (hbef j hj) hj hs⟩, fun a b ha hb' hne => hdj a b (hbef a ha) (hbef b hb') hne⟩)
            exact hT.2 i hi'2
  refine head _ _ e w.drew ?_ (by simp) (fun i hi h => ?_) (fun i o hi h => ?_) ⟨rfl, rfl, rfl, Nat.le_refl _, fun _ _ _ => rfl⟩ (fun _ _ => rfl) ⟨fun _ => 0, fun _ => 0, fun j s h => ?_, fun j h => ?_, fun i j h => ?_⟩
  · simp [left]
  · simp [Array.getD] at h
  · simp [Array.getD] at h
  · simp [Array.getD] at h
  · simp [Array.getD] at h
  · simp [Array.getD] at h

/-- all its blocks are new ones -/
def New (k : Nat) (p : Asr) : Prop := ∀ b, p.fp b → k ≤ b
theorem New.bx {k b : Nat} {o : Obj} (h : k ≤ b) : New k (bx b o) := fun _ hb => hb ▸ h
theorem New.mono {k k' : Nat} {p : Asr} (h : New k p) (hk : k' ≤ k) : New k' p := fun b hb => Nat.le_trans hk (h b hb)
/-- one more, in the same world, in blocks that no own word has -/
theorem St.addL' {w0 : World} {C : Nat → Prop} {w : World} {X L : List Asr} (S : St w0 C w X L) {p : Asr} (hp : p.ok w) (hd : ∀ b, p.fp b → ∀ x ∈ X, ¬ x.fp b) : St w0 C w X (p :: L) :=
  S.more (N := [p]) (fun q hq => by rw [List.mem_singleton.1 hq]; exact hp) (fun q hq b hb x hx => by rw [List.mem_singleton.1 hq] at hb; exact hd b hb x hx)

section
variable {ro : Option Nat} {P : Program} {n : Nat} {d : List Deferred} {e : Env} {w : World} {l : List Oper} {m : Nat}
def Hop1 (ro : Option Nat) (P : Program) (n : Nat) (d : List Deferred) (e : Env) (w : World) (l : List Oper) (m : Nat) (Rs : List Rx) (A : List (List Nat)) (i : Nat) (o : Oper) (R : Rx) : Prop :=
  ∀ (e' : Env) (w' : World), Keep0 w w' → (∀ s, notDst l m s = true → e' s = e s) → (∀ j s, (A.getD i []).contains j = true → j < m → dstAt l j = some s → ∃ lo hi, w.heap.size ≤ lo ∧ hi ≤ w'.heap.size ∧ (Rs.getD j default).ok e' (e' s) lo hi w') →
      wpA ro P l.toArray (Done n d e' w' o.dst R) [o] (E n e' d) w'
def Hops (ro : Option Nat) (P : Program) (n : Nat) (d : List Deferred) (e : Env) (w : World) (l : List Oper) (m : Nat) (Rs : List Rx) (A : List (List Nat)) : Nat → List Oper → List Rx → Prop
  | k, o :: os, R :: rs => Hop1 ro P n d e w l m Rs A k o R ∧ Hops ro P n d e w l m Rs A (k + 1) os rs
  | k, o :: os, [] => Hop1 ro P n d e w l m Rs A k o default ∧ Hops ro P n d e w l m Rs A (k + 1) os []
  | _, [], _ => True
theorem hops_at {Rs : List Rx} {A : List (List Nat)} : ∀ {k : Nat} {os : List Oper} {rs : List Rx}, Hops ro P n d e w l m Rs A k os rs → ∀ i o, os[i]? = some o → Hop1 ro P n d e w l m Rs A (k + i) o (rs.getD i default)
  | _, [], _, _, i, o, h => by simp at h
  | _, o' :: os, R :: rs, hh, 0, o, h => by simp at h; subst h; exact hh.1
  | k, o' :: os, R :: rs, hh, i + 1, o, h => by
    have := hops_at hh.2 i o (by simpa using h)
    rw [show k + (i + 1) = k + 1 + i by omega]
    simpa using this
  | _, o' :: os, [], hh, 0, o, h => by simp at h; subst h; exact hh.1
  | k, o' :: os, [], hh, i + 1, o, h => by
    have := hops_at hh.2 i o (by simpa using h)
    rw [show k + (i + 1) = k + 1 + i by omega]
    simpa using this
theorem reg_any {Q : Exit → Act → World → Prop} {id : Nat} (hm : P.follows .mixedOrders = true) (m : Nat) (hok : okDraw l m none = true) (Rs : List Rx) (ds : List (List Nat)) (hds : Rs.map (·.deps) = ds) (hdep : depOk l m ds = true) (A : List (List Nat)) (hA : anc l = A) (hop : Hops ro P n d e w l m Rs A 0 (l.take m) Rs)
    (htail : ∀ (e' : Env) (w' : World) (lo hi : Nat → Nat), Keep0 w w' → (∀ s, notDst l m s = true → e' s = e s) → (∀ j s, j < m → dstAt l j = some s → w.heap.size ≤ lo j ∧ lo j ≤ hi j ∧ hi j ≤ w'.heap.size ∧ (Rs.getD j default).ok e' (e' s) (lo j) (hi j) w') →
      (∀ i j, i < m → j < m → i ≠ j → hi i ≤ lo j ∨ hi j ≤ lo i) → wpA ro P l.toArray Q (l.drop m) (E n e' d) w') :
    (Code.region id l.toArray true).wpIn (Fr ro) 0 P Q (E n e d) w :=
  reg_draw hm m none hok Rs ds hds hdep A hA (fun i o hi him => by have := hops_at hop i o (by rw [List.getElem?_take, if_pos him]; exact hi); rwa [Nat.zero_add] at this) (fun e' w' hk hfr ⟨lo, hi, h1, h2⟩ => htail e' w' lo hi hk hfr h1 h2) (fun f hf => by cases hf)
/-- the same, where operation f of the head may also come behind the tail's first one -/
theorem reg_fl {Q : Exit → Act → World → Prop} {id : Nat} (hm : P.follows .mixedOrders = true) (m f : Nat) (hok : okDraw l m (some f) = true) (Rs : List Rx) (ds : List (List Nat)) (hds : Rs.map (·.deps) = ds) (hdep : depOk l m ds = true) (A : List (List Nat)) (hA : anc l = A) (hop : Hops ro P n d e w l m Rs A 0 (l.take m) Rs)
    (htail : ∀ (e' : Env) (w' : World) (lo hi : Nat → Nat), Keep0 w w' → (∀ s, notDst l m s = true → e' s = e s) → (∀ j s, j < m → dstAt l j = some s → w.heap.size ≤ lo j ∧ lo j ≤ hi j ∧ hi j ≤ w'.heap.size ∧ (Rs.getD j default).ok e' (e' s) (lo j) (hi j) w') →
      (∀ i j, i < m → j < m → i ≠ j → hi i ≤ lo j ∨ hi j ≤ lo i) → wpA ro P l.toArray Q (l.drop m) (E n e' d) w')
    (hlate : ∀ (e' : Env) (w' : World) (lo hi : Nat → Nat), Keep0 w w' → (∀ s, notDst l m s = true → e' s = e s) → (∀ j s, j < m → j ≠ f → dstAt l j = some s → w.heap.size ≤ lo j ∧ lo j ≤ hi j ∧ hi j ≤ w'.heap.size ∧ (Rs.getD j default).ok e' (e' s) (lo j) (hi j) w') →
      (∀ i j, i < m → j < m → i ≠ f → j ≠ f → i ≠ j → hi i ≤ lo j ∨ hi j ≤ lo i) → wpA ro P l.toArray Q ((l.drop m).take 1 ++ ((l.drop f).take 1 ++ l.drop (m + 1))) (E n e' d) w') :
    (Code.region id l.toArray true).wpIn (Fr ro) 0 P Q (E n e d) w :=
  reg_draw hm m (some f) hok Rs ds hds hdep A hA (fun i o hi him => by have := hops_at hop i o (by rw [List.getElem?_take, if_pos him]; exact hi); rwa [Nat.zero_add] at this) (fun e' w' hk hfr ⟨lo, hi, h1, h2⟩ => htail e' w' lo hi hk hfr h1 h2)
    (fun f' hf e' w' hk hfr ⟨lo, hi, h1, h2⟩ => by cases hf; exact hlate e' w' lo hi hk hfr h1 h2)
theorem hopE {full : Array Oper} {o : Oper} {e' : Env} {w' : World} {R : Rx} (L : List (Nat × Value)) (hL : Has e' L) (h : wpA ro P full (Done n d (ups e' L) w' o.dst R) [o] (E n (ups e' L) d) w') : wpA ro P full (Done n d e' w' o.dst R) [o] (E n e' d) w' := by
  rwa [ups_has hL] at h
theorem tailE {full : Array Oper} {Q : Exit → Act → World → Prop} {os : List Oper} {e' : Env} {w' : World} (L : List (Nat × Value)) (hL : Has e' L) (h : ∀ g, wpA ro P full Q os (E n (ups g L) d) w') : wpA ro P full Q os (E n e' d) w' := by
  have := h e'
  rwa [ups_has hL] at this
end

/-- all its blocks lie from lo to below hi -/
def Btw (lo hi : Nat) (p : Asr) : Prop := ∀ b, p.fp b → lo ≤ b ∧ b < hi
theorem Btw.of {lo hi : Nat} {p : Asr} {w : World} (h : New lo p) (ok : p.ok w) (e : w.heap.size = hi) : Btw lo hi p := fun b hb => ⟨h b hb, e ▸ p.inb _ _ ok hb⟩
theorem St.addX' {w0 : World} {C : Nat → Prop} {w : World} {X L : List Asr} (S : St w0 C w X L) {x : Asr} (hx : x.ok w) (hf : ∀ b, x.fp b → w0.heap.size ≤ b) (hX : ∀ y ∈ X, ∀ b, x.fp b → ¬ y.fp b) (hL : ∀ y ∈ L, ∀ b, x.fp b → ¬ y.fp b) : St w0 C w (x :: X) L := by
  refine ⟨S.keep, fun y hy => ?_, S.ps, List.Pairwise.cons (fun y hy b h1 h2 => hX y hy b h1 h2) S.dx, fun y hy p hp b h1 h2 => ?_, fun y hy b h1 => ?_⟩
  · rcases List.mem_cons.1 hy with rfl | h
    · exact hx
    · exact S.xs y h
  · rcases List.mem_cons.1 hy with rfl | h
    · exact hL p hp b h1 h2
    · exact S.dp y h p hp b h1 h2
  · rcases List.mem_cons.1 hy with rfl | h
    · exact .inl (hf b h1)
    · exact S.own y h b h1
/-- what is known, all of it to stay for a while -/
theorem St.asP {w0 : World} {C : Nat → Prop} {w w' : World} {X L : List Asr} (S : St w0 C w X L) (k : Keep0 w w') : St w' (fun _ => False) w' [] (X ++ L) :=
  St.start w' _ _ fun p hp => (List.mem_append.1 hp).elim (fun h => Asr.stays (S.xs p h) k) (fun h => Asr.stays (S.ps p h) k)
/-- new own words, each in new blocks of its own -/
theorem St.addX {w0 : World} {C : Nat → Prop} {w w' : World} {X L : List Asr} (S : St w0 C w X L) (k : Keep0 w w') {x : Asr} (hx : x.ok w') (hf : ∀ b, x.fp b → w.heap.size ≤ b) (hX : ∀ y ∈ X, ∀ b, x.fp b → ¬ y.fp b) (hL : ∀ y ∈ L, ∀ b, x.fp b → ¬ y.fp b) : St w0 C w' (x :: X) L := by
  have S' := S.call k
  refine ⟨S'.keep, fun y hy => ?_, S'.ps, List.Pairwise.cons (fun y hy b h1 h2 => hX y hy b h1 h2) S'.dx, fun y hy p hp b h1 h2 => ?_, fun y hy b h1 => ?_⟩
  · rcases List.mem_cons.1 hy with rfl | h
    · exact hx
    · exact S'.xs y h
  · rcases List.mem_cons.1 hy with rfl | h
    · exact hL p hp b h1 h2
    · exact S'.dp y h p hp b h1 h2
  · rcases List.mem_cons.1 hy with rfl | h
    · exact .inl (Nat.le_trans S.keep.size (hf b h1))
    · exact S'.own y h b h1
end
end Go.Fx

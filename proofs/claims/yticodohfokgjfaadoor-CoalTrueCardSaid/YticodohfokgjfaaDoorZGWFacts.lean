/- Part of a logic of my own for walks: rules by which a proof steps through code, proved once. -/
import Derived.Test.YticodohfokgjfaaDoorZGFxRes
import Derived.Laws.MakeOwn
import Derived.Laws.CopyRow
import Derived.Test.YticodohfokgjfaaDoorProg
import Derived.KernelRfl
set_option linter.unusedSimpArgs false
set_option linter.unusedVariables false
namespace Go.Fx
open Go
/-! ### regions whose order is open: what holds of each set of operations that have been -/
section
variable {ro : Option Nat} {P : Program} {n : Nat} {d : List Deferred} {w : World} {Q : Exit → Act → World → Prop}
/-- an operation ends here, and nowhere else -/
def Ends1 (K : Act → World → Prop) : Exit → Act → World → Prop
  | .normal, a, w' => K a w'
  | _, _, _ => False
/-- the tail of a region, one behind the other -/
theorem any_tail {l : List Oper} {m : Nat} {fl : Option Nat} (hok : okDraw l m fl = true) (hnf : fl = none) : ∀ (fuel k : Nat) (listed : Array Bool) (a : Act) (w' : World), m ≤ k → k ≤ l.length → fuel = left listed → listed.size = l.length → (∀ i, i < l.length → (listed.getD i false = true ↔ i < k)) →
    wpA ro P l.toArray Q (l.drop k) a w' → wpAnyIn (Fr ro) 0 P .any l.toArray Q fuel listed a w' := by
  obtain ⟨hback, hanc, hml, hdst, hfl, hanc2⟩ := okDraw_spec hok
  subst hnf
  intro fuel
  induction fuel with
  | zero =>
    intro k listed a w' hmk hk hf hsz hl h
    have hkl : k = l.length := by
      rcases Nat.eq_or_lt_of_le hk with h | h
      · exact h
      · have := (hl k h).1 (left_zero hf.symm k (by omega)); omega
    subst hkl
    refine ⟨?_, by simpa [wpA] using h⟩
    refine List.eq_nil_iff_forall_not_mem.2 fun i hi => ?_
    obtain ⟨h1, o, h2, _⟩ := mem_ready.1 hi
    have hi' : i < l.length := by
      obtain ⟨hh, _⟩ := Array.getElem?_eq_some_iff.1 h2
      simpa using hh
    have := (hl i hi').2 hi'
    simp [Array.getD, hsz, hi'] at this h1
    rw [this] at h1; cases h1
  | succ fuel ih =>
    intro k listed a w' hmk hk hf hsz hl h
    have hkl : k < l.length := by
      obtain ⟨i, h1, h2⟩ := left_pos (listed := listed) (by omega)
      have := hl i (by omega)
      rcases Nat.lt_or_ge i k with h | h
      · rw [this.2 h] at h2; cases h2
      · omega
    refine ⟨fun hnil => ?_, fun i hi => ?_⟩
    · exfalso
      have : k ∈ Region.ready .any l.toArray listed := by
        refine mem_ready.2 ⟨?_, l[k], by simp [hkl], fun x hx hb => ?_⟩
        · have : ¬ listed.getD k false = true := fun h => by have := (hl k hkl).1 h; omega
          simp [Array.getD, hsz, hkl] at this ⊢
          exact this
        · exact (hl x.on (by have := hback k l[k] (List.getElem?_eq_getElem hkl) x hx hb; omega)).2 (hback k l[k] (List.getElem?_eq_getElem hkl) x hx hb)
      rw [hnil] at this; cases this
    · obtain ⟨h1, o, h2, h3⟩ := mem_ready.1 hi
      have hi' : i < l.length := by
        obtain ⟨hh, _⟩ := Array.getElem?_eq_some_iff.1 h2
        simpa using hh
      have hnk : ¬ i < k := fun hlt => by
        have := (hl i hi').2 hlt
        simp [Array.getD, hsz, hi'] at this h1
        rw [this] at h1; cases h1
      have hik : i = k := by
        rcases Nat.eq_or_lt_of_le (Nat.le_of_not_lt hnk) with h | h
        · exact h.symm
        · exfalso
          let S : Nat → Prop := fun j => j = i ∨ listed.getD j false = true
          have hS := hanc S (fun j oj hj hSj x hx => by
            have hxo : ∃ y ∈ oj.after, Region.binds .any y = true ∧ y.on = x := by
              simp only [edges, List.mem_map, List.mem_filter] at hx
              obtain ⟨y, ⟨hy1, hy2⟩, rfl⟩ := hx
              exact ⟨y, Array.mem_def.2 hy1, hy2, rfl⟩
            obtain ⟨y, hy, hb, rfl⟩ := hxo
            rcases hSj with rfl | hSj
            · have : oj = o := by
                have h2' : l[j]? = some o := by simpa using h2
                rw [hj] at h2'; exact Option.some.inj h2'
              subst this
              exact .inr (h3 y hy hb)
            · have hjl : j < l.length := (List.getElem?_eq_some_iff.1 hj).1
              have := hback j oj hj y hy hb
              exact .inr ((hl y.on (by omega)).2 (by have := (hl j hjl).1 hSj; omega))) i (by omega) hi' (.inl rfl) k h
          rcases hS.resolve_left (fun h => by omega) with h4 | h4
          · omega
          · have := (hl k hkl).1 h4; omega
      subst hik
      have hd : l.drop i = o :: l.drop (i + 1) := by
        have h2' : l[i]? = some o := by simpa using h2
        rw [List.drop_eq_getElem_cons hi']
        rw [List.getElem?_eq_getElem hi'] at h2'
        rw [Option.some.inj h2']
      rw [hd] at h
      refine wpA_head h2 (fun a w h => ?_) h
      refine ih (i + 1) _ a w (by omega) (by omega) (by have := left_set (by omega) h1; omega) (by simpa using hsz) (fun j hj => ?_) h
      by_cases hji : j = i
      · subst hji
        have : (listed.setIfInBounds j true).getD j false = true := by simp [Array.getD, hsz, hj]
        simp [this]
      · have h6 := hl j hj
        have h5 : (listed.setIfInBounds i true).getD j false = listed.getD j false := getD_set_ne false (fun h => hji h.symm)
        rw [h5, h6]; omega
/-- **a region whose order is open**, by what holds of each set of operations of its head that have been -/
theorem reg_inv {e : Env} {l : List Oper} {id : Nat} (hm : P.follows .mixedOrders = true) (m : Nat) (hok : okDraw l m none = true) (Inv : (Nat → Bool) → Env → World → Prop)
    (h0 : ∀ w1, Keep0 w w1 → Inv (fun _ => false) e w1)
    (hstep : ∀ (S : Nat → Bool) (i : Nat) (o : Oper) (e' : Env) (w' : World), l[i]? = some o → i < m → S i = false → (∀ j, ((anc l).getD i []).contains j = true → S j = true) → (∀ j, S j = true → j < m) →
      (∀ j k, S j = true → ((anc l).getD j []).contains k = true → S k = true) → Inv S e' w' → wpA ro P l.toArray (Ends1 fun a w2 => ∃ e2, a = E n e2 d ∧ Inv (fun j => S j || j == i) e2 w2) [o] (E n e' d) w')
    (hend : ∀ (S : Nat → Bool) (e' : Env) (w' : World), (∀ j, j < m → S j = true) → Inv S e' w' → wpA ro P l.toArray Q (l.drop m) (E n e' d) w') :
    (Code.region id l.toArray true).wpIn (Fr ro) 0 P Q (E n e d) w := by
  obtain ⟨hback, hanc, hml, hdst, hfl, hanc2⟩ := okDraw_spec hok
  refine wpIn_region_any hm ?_
  have head : ∀ (fuel : Nat) (listed : Array Bool) (e' : Env) (w' : World), fuel = left listed → listed.size = l.length → (∀ i, listed.getD i false = true → i < m) →
      (∀ i o, l[i]? = some o → listed.getD i false = true → ∀ x ∈ o.after, Region.binds .any x = true → listed.getD x.on false = true) → Inv (fun i => listed.getD i false) e' w' →
      wpAnyIn (Fr ro) 0 P .any l.toArray Q fuel listed (E n e' d) w' := by
    intro fuel
    induction fuel with
    | zero =>
      intro listed e' w' hf hsz hlm _ hI
      have hall := left_zero hf.symm
      have hmm : m = l.length := by
        rcases Nat.eq_or_lt_of_le hml with h | h
        · exact h
        · have := hlm m (hall m (by omega)); omega
      refine any_tail hok rfl 0 m listed _ w' (Nat.le_refl _) hml hf hsz (fun i hi => ⟨fun h => hlm i h, fun _ => hall i (by omega)⟩) (hend _ e' w' (fun j hj => hall j (by omega)) hI)
    | succ fuel ih =>
      intro listed e' w' hf hsz hlm hcl hI
      by_cases hfull : ∀ j, j < m → listed.getD j false = true
      · exact any_tail hok rfl (fuel + 1) m listed _ w' (Nat.le_refl _) hml hf hsz (fun i hi => ⟨fun h => hlm i h, fun h => hfull i h⟩) (hend _ e' w' hfull hI)
      refine ⟨fun hnil => ?_, fun i hi => ?_⟩
      · exfalso
        obtain ⟨i, h1, h2⟩ := left_pos (listed := listed) (by omega)
        induction i using Nat.strongRecOn with
        | _ i ihi =>
          by_cases hh : ∃ j, j < i ∧ listed.getD j false = false
          · obtain ⟨j, hj, hj2⟩ := hh
            exact ihi j hj (by omega) hj2
          · have hil : i < l.length := by omega
            have : i ∈ Region.ready .any l.toArray listed := by
              refine mem_ready.2 ⟨?_, l[i], by simp [hil], fun x hx hb => ?_⟩
              · simp [Array.getD, h1] at h2 ⊢
                exact h2
              · have hxi := hback i l[i] (List.getElem?_eq_getElem hil) x hx hb
                cases hc : listed.getD x.on false with
                | true => rfl
                | false => exact absurd ⟨x.on, hxi, hc⟩ hh
            rw [hnil] at this; cases this
      · obtain ⟨h1, o, h2, h3⟩ := mem_ready.1 hi
        have h2' : l[i]? = some o := by simpa using h2
        have hi' : i < l.length := (List.getElem?_eq_some_iff.1 h2').1
        have h1f : listed.getD i false = false := by
          cases hc : listed.getD i false with
          | false => rfl
          | true =>
            simp [Array.getD, hsz, hi'] at hc h1
            rw [hc] at h1; cases h1
        have hedge : ∀ j oj, l[j]? = some oj → listed.getD j false = true → ∀ x ∈ edges oj, listed.getD x false = true := fun j oj hj hjl x hx => by
          simp only [edges, List.mem_map, List.mem_filter] at hx
          obtain ⟨y, ⟨hy1, hy2⟩, rfl⟩ := hx
          exact hcl j oj hj hjl y (Array.mem_def.2 hy1) hy2
        have hclosed : ∀ j k, listed.getD j false = true → ((anc l).getD j []).contains k = true → listed.getD k false = true := fun j k hj hk => by
          have hjl : j < l.length := by have := hlm j hj; omega
          exact (hanc2 (fun x => listed.getD x false = true) (fun x ox hx hSx y hy => hedge x ox hx hSx y hy) j k hjl hj hk).2
        have hwait : ∀ j, ((anc l).getD i []).contains j = true → listed.getD j false = true := fun j hj => by
          have hS := hanc2 (fun x => x = i ∨ listed.getD x false = true) (fun x ox hx hSx y hy => by
            rcases hSx with rfl | hSx
            · have : ox = o := by rw [hx] at h2'; exact Option.some.inj h2'
              subst this
              simp only [edges, List.mem_map, List.mem_filter] at hy
              obtain ⟨z, ⟨hz1, hz2⟩, rfl⟩ := hy
              exact .inr (h3 z (Array.mem_def.2 hz1) hz2)
            · exact .inr (hedge x ox hx hSx y hy)) i j hi' (.inl rfl) hj
          rcases hS.2 with h | h
          · have := hS.1; omega
          · exact h
        have him : i < m := by
          rcases Nat.lt_or_ge i m with h | h
          · exact h
          · exfalso
            refine hfull fun j hj => ?_
            let S : Nat → Prop := fun x => x = i ∨ listed.getD x false = true
            have hS := hanc S (fun x ox hx hSx y hy => by
              rcases hSx with rfl | hSx
              · have : ox = o := by rw [hx] at h2'; exact Option.some.inj h2'
                subst this
                simp only [edges, List.mem_map, List.mem_filter] at hy
                obtain ⟨z, ⟨hz1, hz2⟩, rfl⟩ := hy
                exact .inr (h3 z (Array.mem_def.2 hz1) hz2)
              · exact .inr (hedge x ox hx hSx y hy)) i h hi' (.inl rfl) j (by omega)
            rcases hS.resolve_left (fun h => by cases h.2) with h4 | h4
            · omega
            · exact h4
        refine wpA_one h2 (fun a w2 hd => ?_) (fun ex a w2 hne hd => ?_) (hstep _ i o e' w' h2' him h1f hwait hlm hclosed hI)
        · obtain ⟨e2, rfl, hI2⟩ := hd
          refine ih _ _ _ (by have := left_set (by omega) h1; omega) (by simpa using hsz) (fun j hjl => ?_) (fun j oj hj hjl x hx hb => ?_) ?_
          · by_cases hji : j = i
            · subst hji; exact him
            · rw [getD_set_ne false (fun h => hji h.symm)] at hjl
              exact hlm j hjl
          · by_cases hji : j = i
            · subst hji
              have : oj = o := by rw [hj] at h2'; exact Option.some.inj h2'
              subst this
              exact getD_set_true (h3 x hx hb)
            · rw [getD_set_ne false (fun h => hji h.symm)] at hjl
              exact getD_set_true (hcl j oj hj hjl x hx hb)
          · have : (fun j => (listed.setIfInBounds i true).getD j false) = fun j => listed.getD j false || j == i := by
              funext j
              by_cases hji : j = i
              · subst hji
                have : (listed.setIfInBounds j true).getD j false = true := by simp [Array.getD, hsz, hi']
                rw [this]; simp
              · rw [getD_set_ne false (fun h => hji h.symm), show (j == i) = false by simpa using hji, Bool.or_false]
            rw [this]; exact hI2
        · cases ex with
          | normal => exact absurd rfl hne
          | _ => exact hd.elim
  refine head _ _ _ _ ?_ (by simp) (fun i h => ?_) (fun i o hi h => ?_) ?_
  · simp [left]
  · simp [Array.getD] at h
  · simp [Array.getD] at h
  · have : (fun i => (Array.replicate l.toArray.size false).getD i false) = fun _ => false := by
      funext i
      simp [Array.getD]
    rw [this]
    exact h0 _ ⟨rfl, rfl, rfl, Nat.le_refl _, fun _ _ _ => rfl⟩
def EndV (n : Nat) (d : List Deferred) (e : Env) (dst : Option Nat) (Ψ : Value → World → Prop) : Exit → Act → World → Prop := Ends1 fun a w2 => ∃ v, a = E n (updo e dst v) d ∧ Ψ v w2
theorem endv_put {e e' : Env} {full : Array Oper} {dst : Option Nat} {Ψ : Value → World → Prop} {v' : Value} {w' : World} (h : wpA ro P full (EndV n d e dst Ψ) [] ((E n e d).put dst v') w') : wpA ro P full (EndV n d e' dst Ψ) [] ((E n e' d).put dst v') w' := by
  unfold wpA at h ⊢
  rw [E_put] at h ⊢
  obtain ⟨v, hu, hv⟩ := h
  refine ⟨v, E_ext fun j hj => ?_, hv⟩
  cases dst with
  | none => rfl
  | some i =>
    simp only [updo, upd]
    by_cases hji : j = i
    · subst hji
      have h1 := congrArg (fun a : Act => a.tmps[j]?) hu
      simp [E, hj, updo, upd] at h1
      simp [h1]
    · simp [nbeq hji]
theorem letsOut_endv {e : Env} {dst : Option Nat} {Ψ : Value → World → Prop} (h : LetsOut (EndV n d e dst Ψ)) : False := by
  obtain ⟨a, w, h⟩ := h
  exact h
theorem wp1_congrV {e e' : Env} {full : Array Oper} {o : Oper} {Ψ : Value → World → Prop} (hp : plainOp o = true) (ha : ∀ s ∈ reads full o, e' s = e s) (h : wpA ro P full (EndV n d e o.dst Ψ) [o] (E n e d) w) : wpA ro P full (EndV n d e' o.dst Ψ) [o] (E n e' d) w := by
  have hd : ∀ c, o.op ≠ .defer c := fun c hc => by simp [plainOp, hc] at hp
  have hs : ∀ cs b, o.op ≠ .select cs b := fun cs b hc => by simp [plainOp, hc] at hp
  unfold wpA at h ⊢
  rw [wanted_congr (d := d) (n := n) ha]
  split at h
  · rename_i hw
    rw [if_pos hw]
    obtain ⟨_, h⟩ := h
    refine ⟨fun _ _ => trivial, ?_⟩
    rw [Oper.semAt_eq _ _ _ hd, E_eval] at h ⊢
    rw [execOp_congr o hs (evn_congr ha)]
    have fin : ∀ v' w', wpA ro P full (EndV n d e o.dst Ψ) [] ((E n e d).put o.dst v') w' → wpA ro P full (EndV n d e' o.dst Ψ) [] ((E n e' d).put o.dst v') w' := fun _ _ h => endv_put h
    revert h
    generalize (execOp (evn n e) o).run P w = r
    intro h
    unfold Oper.uponIn at h ⊢
    split at h
    · exact fin _ _ h
    · exact fin _ _ h
    · exfalso
      unfold wpA at h
      obtain ⟨u, hu, _⟩ := h
      have := congrArg Act.defers hu
      cases hdst : o.dst <;> simp [hdst, Act.put, E] at this
    · refine ⟨h.1, h.2.mono fun en w' he => ?_⟩
      cases en with
      | returned v => exact fin _ _ he
      | panicked c => exact he.elim
      | outgrown => exact (letsOut_endv he).elim
    · exact ⟨h.1, h.2.mono fun v w' he => fin _ _ he⟩
    · refine ⟨h.1, h.2.mono fun en w' he => ?_⟩
      cases en with
      | returned v => exact fin _ _ he
      | panicked c => exact he.elim
      | outgrown => exact (letsOut_endv he).elim
    · exact h.elim
    · exact h.elim
  · rename_i hw
    rw [if_neg hw]
    exact endv_put h
/-! ### some operations of the head are a chain that works on memory which the region makes, or on blocks C -/
def DSd (ro : Option Nat) (P : Program) (full : Array Oper) (n : Nat) (d : List Deferred) (C : Nat → Prop) (w : World) (cs : List Nat) : Nat → List Oper → Env → (Env → Prop) → Prop
  | _, [], e, K => K e
  | i, o :: os, e, K => bif cs.contains i then DSd ro P full n d C w cs (i + 1) os e K else ∃ v, (∀ w', Keep C w w' → wpA ro P full (Done n d e w' o.dst (rv v)) [o] (E n e d) w') ∧ DSd ro P full n d C w cs (i + 1) os (updo e o.dst v) K
variable {C : Nat → Prop}
theorem lS {full : Array Oper} {cs : List Nat} {i : Nat} {o : Oper} {os : List Oper} {e : Env} {K : Env → Prop} {v : Value} (hc : cs.contains i = false) (h : ∀ w', Keep C w w' → wpA ro P full (Done n d e w' o.dst (rv v)) [o] (E n e d) w') (hk : DSd ro P full n d C w cs (i + 1) os (updo e o.dst v) K) : DSd ro P full n d C w cs i (o :: os) e K := by
  unfold DSd; rw [hc]; exact ⟨v, h, hk⟩
theorem lC {full : Array Oper} {cs : List Nat} {i : Nat} {o : Oper} {os : List Oper} {e : Env} {K : Env → Prop} (hc : cs.contains i = true) (hk : DSd ro P full n d C w cs (i + 1) os e K) : DSd ro P full n d C w cs i (o :: os) e K := by
  unfold DSd; rw [hc]; exact hk
theorem dsd_vals {full : Array Oper} {cs : List Nat} {K : Env → Prop} : ∀ {os : List Oper} {k : Nat} {e : Env}, DSd ro P full n d C w cs k os e K → ∃ vs : List Value, vs.length = os.length ∧ (∀ i o v, os[i]? = some o → vs[i]? = some v → cs.contains (k + i) = false → ∀ w', Keep C w w' → wpA ro P full (Done n d (seqE e (((msk cs k os).zip vs).take i)) w' o.dst (rv v)) [o] (E n (seqE e (((msk cs k os).zip vs).take i)) d) w') ∧ K (seqE e ((msk cs k os).zip vs))
  | [], k, e, h => ⟨[], rfl, fun i o v h1 => by simp at h1, h⟩
  | o :: os, k, e, h => by
    unfold DSd at h
    cases hc : cs.contains k with
    | true =>
      rw [hc] at h
      obtain ⟨vs, hl, hh, hK⟩ := dsd_vals h
      refine ⟨undef :: vs, by simp [hl], fun i o' v' ho hv hci => ?_, by rw [msk_t hc]; exact hK⟩
      cases i with
      | zero => rw [Nat.add_zero, hc] at hci; cases hci
      | succ i =>
        have := hh i o' v' (by simpa using ho) (by simpa using hv) (by rw [show k + 1 + i = k + (i + 1) by omega]; exact hci)
        rw [msk_t hc]; exact this
    | false =>
      rw [hc] at h
      obtain ⟨v, h1, h2⟩ := h
      obtain ⟨vs, hl, hh, hK⟩ := dsd_vals h2
      refine ⟨v :: vs, by simp [hl], fun i o' v' ho hv hci => ?_, by rw [msk_f hc]; exact hK⟩
      cases i with
      | zero =>
        simp at ho hv
        subst ho hv
        exact h1
      | succ i =>
        have := hh i o' v' (by simpa using ho) (by simpa using hv) (by rw [show k + 1 + i = k + (i + 1) by omega]; exact hci)
        rw [msk_f hc]; exact this
theorem Keep.any {C : Nat → Prop} {w w' : World} (k : Keep0 w w') : Keep C w w' := k.weak fun _ _ h => h.elim
/-- the rest of the chain, and the tail; what the chain changes it has made itself since the region's begin -/
def CK (ro : Option Nat) (P : Program) (full : Array Oper) (Q : Exit → Act → World → Prop) (n : Nat) (d : List Deferred) (C : Nat → Prop) (w : World) (tail : List Oper) : List Oper → Env → World → Prop
  | [], ec, w' => ∀ w3, Keep0 w' w3 → wpA ro P full Q tail (E n ec d) w3
  | o :: os, ec, w' => ∀ w3, Keep0 w' w3 → wpA ro P full (Ends1 fun a w2 => ∃ v, a = E n (updo ec o.dst v) d ∧ Keep C w w2 ∧ CK ro P full Q n d C w tail os (updo ec o.dst v) w2) [o] (E n ec d) w3
theorem CK.stays {full : Array Oper} {tail os : List Oper} {ec : Env} {w' w2 : World} (h : CK ro P full Q n d C w tail os ec w') (k : Keep0 w' w2) : CK ro P full Q n d C w tail os ec w2 := by
  cases os with
  | nil => exact fun w3 k3 => h w3 (k.trans k3)
  | cons o os => exact fun w3 k3 => h w3 (k.trans k3)
/-- those of the chain that have not been -/
def rem (l : List Oper) (m : Nat) (cs : List Nat) (S : Nat → Bool) : List Oper := ((List.range m).filter fun i => cs.contains i && !S i).filterMap (l[·]?)
theorem rem_cons {l : List Oper} {m i : Nat} {cs : List Nat} {S : Nat → Bool} {o : Oper} (hi : i < m) (ho : l[i]? = some o) (hc : cs.contains i = true) (hS : S i = false) (hp : ∀ j, j < i → cs.contains j = true → S j = true) : rem l m cs S = o :: rem l m cs (fun j => S j || j == i) := by
  have hr : List.range m = List.range i ++ i :: (List.range (m - i - 1)).map (· + (i + 1)) := by
    have h1 : m = i + (1 + (m - i - 1)) := by omega
    conv => lhs; rw [h1, List.range_add, List.range_add]
    simp [List.map_map, Function.comp_def, Nat.add_assoc, Nat.add_comm, Nat.add_left_comm]
  unfold rem
  rw [hr, List.filter_append, List.filter_append, List.filter_cons, List.filter_cons]
  have z1 : (List.range i).filter (fun j => cs.contains j && !S j) = [] := List.filter_eq_nil_iff.2 fun j hj => by
    have hj := List.mem_range.1 hj
    cases hcj : cs.contains j with
    | false => simp
    | true => simp [hp j hj hcj]
  have z2 : (List.range i).filter (fun j => cs.contains j && !(S j || j == i)) = [] := List.filter_eq_nil_iff.2 fun j hj => by
    have hj := List.mem_range.1 hj
    cases hcj : cs.contains j with
    | false => simp
    | true => simp [hp j hj hcj]
  have z3 : ((List.range (m - i - 1)).map (· + (i + 1))).filter (fun j => cs.contains j && !(S j || j == i)) = ((List.range (m - i - 1)).map (· + (i + 1))).filter (fun j => cs.contains j && !S j) := List.filter_congr fun j hj => by
    obtain ⟨x, _, rfl⟩ := List.mem_map.1 hj
    rw [show (x + (i + 1) == i) = false by simp; omega, Bool.or_false]
  have g1 : (cs.contains i && !S i) = true := by rw [hc, hS]; rfl
  have g2 : (cs.contains i && !(S i || i == i)) = false := by simp
  rw [z1, z2, z3, if_pos g1, if_neg (by rw [g2]; simp), List.nil_append, List.nil_append, List.filterMap_cons, ho]
theorem rem_same {l : List Oper} {m i : Nat} {cs : List Nat} {S : Nat → Bool} (hc : cs.contains i = false) : rem l m cs (fun j => S j || j == i) = rem l m cs S := by
  unfold rem
  congr 1
  refine List.filter_congr fun j _ => ?_
  by_cases hj : j = i
  · subst hj; rw [hc]; rfl
  · show (cs.contains j && !(S j || j == i)) = (cs.contains j && !S j)
    rw [show (j == i) = false by simpa using hj, Bool.or_false]
end
end Go.Fx

set_option linter.unusedSimpArgs false
set_option linter.unusedVariables false
namespace Go.Fx
open Go
/-! ### slices whose elements bear slices: the plain elements xs, and hl: each with the addresses of what is in it -/
section
variable {α δ : Type}
/-- what the elements bear, only read -/
def ri (inner : α × δ → List Asr) (hl : List (α × δ)) (xs : List α) : Asr where
  fp b := ∃ h ∈ hl, ∃ q ∈ inner h, q.fp b
  ok w := hl.map Prod.fst = xs ∧ ∀ h ∈ hl, ∀ q ∈ inner h, q.ok w
  mono w w' h k := ⟨h.1, fun x hx q hq => q.mono _ _ (h.2 x hx q hq) fun b hb => k b ⟨x, hx, q, hq, hb⟩⟩
  inb w b h hb := by obtain ⟨x, hx, q, hq, hb⟩ := hb; exact q.inb _ _ (h.2 x hx q hq) hb
variable {inner : α × δ → List Asr} {hl hl' : List (α × δ)} {xs xs' : List α} {w0 w w' : World} {C : Nat → Prop} {X L : List Asr}
end

/-! ### rows of numbers that are one's own -/
abbrev RowH := List Int × Option Addr × Nat
def rowI (h : RowH) : List Asr := [rd intE 1 h.2.1 h.2.2 h.1]
def rowG (e : TypeId) (h : RowH) : Asr := gr intE 1 e h.2.1 h.2.2 h.1
/-- all rows, apart from each other -/
def rx' (e : TypeId) (hl : List RowH) (xs : List (List Int)) : Asr where
  fp b := ∃ h ∈ hl, (rowG e h).fp b
  ok w := hl.map Prod.fst = xs ∧ (∀ h ∈ hl, (rowG e h).ok w) ∧ hl.Pairwise fun p q => ∀ b, (rowG e p).fp b → ¬ (rowG e q).fp b
  mono w w' h k := ⟨h.1, fun p hp => (rowG e p).mono _ _ (h.2.1 p hp) fun b hb => k b ⟨p, hp, hb⟩, h.2.2⟩
  inb w b h hb := by obtain ⟨p, hp, hb⟩ := hb; exact (rowG e p).inb _ _ (h.2.1 p hp) hb
section
variable {w0 w w' : World} {C : Nat → Prop} {X L : List Asr} {t : TypeId} {hl : List RowH} {xs : List (List Int)}
theorem rx_fp : ∀ b, (ri rowI hl xs).fp b → (rx' t hl xs).fp b := fun b ⟨x, hx, q, hq, hb⟩ => ⟨x, hx, gr_fp b (by rw [show q = _ from List.mem_singleton.1 hq] at hb; exact hb)⟩
theorem New.rx {k : Nat} (h : New k (rx' t hl xs)) : New k (ri rowI hl xs) := fun b hb => h b (rx_fp b hb)
end
section
variable {ro : Option Nat} {P : Program} {full : Array Oper} {Q : Exit → Act → World → Prop} {n : Nat} {d : List Deferred} {e : Env} {w w0 : World} {C : Nat → Prop} {X L : List Asr}
variable {rest : List Oper} {ty : TypeId} {ps : String} {af : Array Edge}
end
end Go.Fx
namespace Go.Fx
end Go.Fx

set_option linter.unusedSimpArgs false
set_option linter.unusedVariables false
namespace Go.Fx
open Go
/-! ### an element of a row that is one's own is written to; a row is made -/
section
variable {α : Type} {enc : α → List Value} {s : Nat}
variable {ro : Option Nat} {P : Program} {full : Array Oper} {Q : Exit → Act → World → Prop} {n : Nat} {d : List Deferred} {e : Env} {w w0 : World} {C : Nat → Prop} {X L : List Asr}
variable {rest : List Oper} {ty : TypeId} {ps : String} {af : Array Edge}
end
end Go.Fx

set_option linter.unusedSimpArgs false
set_option linter.unusedVariables false
namespace Go.Fx
open Go
/-! ### ranges over functions, by a state that is passed on -/
/-- the caller's word, at a state of his -/
def ga {σ : Type} (G : σ → Asr → Prop) (s : σ) (A : Asr) : Asr where
  fp := A.fp
  ok w := G s A ∧ A.ok w
  mono w w' h k := ⟨h.1, A.mono _ _ h.2 k⟩
  inb w b h hb := A.inb _ _ h.2 hb
/-- what has turned since w0 (but for C) has turned since w (but for C0) -/
structure Link (w : World) (C0 : Nat → Prop) (w0 : World) (C : Nat → Prop) : Prop where
  keep : Keep C0 w w0
  fp : ∀ b, C b → C0 b ∨ w.heap.size ≤ b
theorem Link.refl (w : World) (C : Nat → Prop) : Link w C w C := ⟨Keep.refl _ _, fun _ h => .inl h⟩
theorem Link.trans {w w0 w1 : World} {C0 C C1 : Nat → Prop} (h : Link w C0 w0 C) (k : Link w0 C w1 C1) : Link w C0 w1 C1 := by
  refine ⟨⟨k.keep.os.trans h.keep.os, k.keep.tape.trans h.keep.tape, k.keep.output.trans h.keep.output, Nat.le_trans h.keep.size k.keep.size, fun b hb hn => ?_⟩, fun b hb => ?_⟩
  · refine (k.keep.block b (Nat.lt_of_lt_of_le hb h.keep.size) fun hc => ?_).trans (h.keep.block b hb hn)
    rcases h.fp b hc with h' | h'
    · exact hn h'
    · omega
  · rcases k.fp b hb with h' | h'
    · exact h.fp b h'
    · exact .inr (Nat.le_trans h.keep.size h')
theorem Link.of {w w0 w1 : World} {C0 C : Nat → Prop} (h : Link w C0 w0 C) (k : Keep C w0 w1) : Keep C0 w w1 := (h.trans ⟨k, fun _ h => .inl h⟩ : Link w C0 w1 C).keep
/-- each call of yield comes to what yv says -/
def YH (P : Program) (l : Nat) {ε σ : Type} (enc : ε → List Value) (yv : ε → σ → Option (Bool × σ)) (G : σ → Asr → Prop) (w : World) (C0 : Nat → Prop) : Prop :=
  ∀ x s b s2 A w2, yv x s = some (b, s2) → G s A → A.ok w2 → Keep C0 w w2 → (∀ b, A.fp b → C0 b ∨ w.heap.size ≤ b) →
    YieldsTo P l (enc x).toArray w2 fun r w3 => r = b ∧ Keep A.fp w2 w3 ∧ ∃ A', A'.ok w3 ∧ (∀ b, A'.fp b → A.fp b ∨ w2.heap.size ≤ b) ∧ G s2 A'
/-- a function that is called with yield: it comes to what the plain one says -/
def IterG (P : Program) (f : Nat) (first caps : Array Value) {ε : Type} (enc : ε → List Value) (it : ∀ {σ : Type}, (ε → σ → Option (Bool × σ)) → σ → Option σ) (w : World) (K : List Asr) : Prop :=
  ∀ (σ : Type) (yv : ε → σ → Option (Bool × σ)) (s s' : σ) (l : Nat) (G : σ → Asr → Prop) (A0 : Asr), it yv s = some s' → (ga G s A0).ok w → (∀ p ∈ K, p.ok w) → (∀ p ∈ K, ∀ b, p.fp b → ¬ A0.fp b) → YH P l enc yv G w A0.fp →
    Calls P f (first ++ #[.func (.yield l) #[] #[]] ++ caps) w fun en w' => ∃ v, en = .returned v ∧ Keep A0.fp w w' ∧ ∃ A', (ga G s' A').ok w' ∧ (∀ b, A'.fp b → A0.fp b ∨ w.heap.size ≤ b)
/-- a body of a range, as what yield comes to: the number tells how the range is left (0: not yet) -/
def yvOf {ε α : Type} (bd : ε → α → Option (Bool × Nat × α)) (x : ε) (s : Nat × α) : Option (Bool × Nat × α) := bif s.1 == 0 then bd x s.2 else none
theorem yvOf_some {ε α : Type} {bd : ε → α → Option (Bool × Nat × α)} {x : ε} {s : Nat × α} {r : Bool × Nat × α} (h : yvOf bd x s = some r) : s.1 = 0 ∧ bd x s.2 = some r := by
  unfold yvOf at h
  cases hs : (s.1 == 0)
  · rw [hs] at h; cases h
  · rw [hs] at h; exact ⟨by simpa using hs, h⟩
/-- how a round is left -/
def exOf : Code → Exit
  | .ret => .ret
  | .exit id => .exit id
  | _ => .normal
section
variable {P : Program} {w0 w : World} {C : Nat → Prop} {X L : List Asr}
theorem o_yieldG {ro : Option Nat} {full : Array Oper} {Q : Exit → Act → World → Prop} {n : Nat} {d : List Deferred} {e : Env} {rest : List Oper} {ty : TypeId} {ps : String} {af : Array Edge}
    {ε σ : Type} {enc : ε → List Value} {yv : ε → σ → Option (Bool × σ)} {G : σ → Asr → Prop} {s s2 : σ} {A : Asr} {wb : World} {C0 : Nat → Prop} {x : ε} {b : Bool} {i l j : Nat} {g : Operand} {aa : Array Operand} {ts : Array TypeId}
    (hb : yv x s = some (b, s2)) (hy : YH P l enc yv G wb C0) (hl : Link wb C0 w0 C) (S : St w0 C w X L) (hj : X[j]? = some (ga G s A)) (hg : evn n e g = .func (.yield l) #[] #[]) (ha : aa.toList.map (evn n e) = enc x)
    (h : ∀ A' w', St w0 C w' (X.set j (ga G s2 A')) L → wpA ro P full Q rest (E n (upd e i (.bool b)) d) w') : wpA ro P full Q (⟨some i, .call ⟨.value g, aa, ts⟩, ty, ps, af, none⟩ :: rest) (E n e d) w := by
  have hA : (ga G s A).ok w := S.atX hj
  have hf : ∀ b, A.fp b → C0 b ∨ wb.heap.size ≤ b := fun b hb => by
    rcases S.own _ (List.mem_of_getElem? hj) b hb with h | h
    · exact .inr (Nat.le_trans hl.keep.size h)
    · exact hl.fp b h
  refine o_yield hg ha (hy x s b s2 A w hb hA.1 hA.2 (hl.of S.keep) hf) fun r w' ⟨hr, hk, A', hok, hfp, hG⟩ => ?_
  subst hr
  exact h A' w' (S.turn hj (y := ga G s2 A') ⟨hG, hok⟩ hfp hk.os hk.tape hk.output hk.size fun b hb hne => hk.block b hb hne)
/-- behind a call of a function that calls yield -/
theorem St.itCall {σ : Type} {G : σ → Asr → Prop} {s s2 : σ} {A A' : Asr} {w' : World} (S : St w0 C w X L) {j : Nat} (hj : X[j]? = some (ga G s A)) (hk : Keep A.fp w w') (hok : (ga G s2 A').ok w') (hf : ∀ b, A'.fp b → A.fp b ∨ w.heap.size ≤ b) : St w0 C w' (X.set j (ga G s2 A')) L :=
  S.turn hj hok hf hk.os hk.tape hk.output hk.size fun b hb hne => hk.block b hb hne
/-- the caller's word is the own word of what is called -/
theorem St.link {σ : Type} {G : σ → Asr → Prop} {s : σ} {A : Asr} {wb : World} {C0 : Nat → Prop} (S : St w0 C w X L) {j : Nat} (hj : X[j]? = some (ga G s A)) (hl : Link wb C0 w0 C) : Link wb C0 w A.fp :=
  hl.trans ⟨S.keep, fun b hb => (S.own _ (List.mem_of_getElem? hj) b hb).symm⟩
theorem St.apart {A : Asr} (S : St w0 C w X L) {j : Nat} {p : Asr} (hj : X[j]? = some p) (hp : ∀ b, A.fp b → p.fp b) : ∀ q ∈ L, ∀ b, q.fp b → ¬ A.fp b := fun q hq b h1 h2 => S.dp _ (List.mem_of_getElem? hj) q hq b (hp b h2) h1
end
section
variable {ro : Option Nat} {P : Program} {Q : Exit → Act → World → Prop} {n : Nat} {d : List Deferred} {e : Env} {w w0 : World} {C : Nat → Prop} {L : List Asr}
variable {α β ε : Type}
/-- the loop's record is laid: outside of a round -/
theorem ent_none {X0 : List Asr} {tm : Array Value} {ps : Array Tmp} {assign body : Code} (S : St w0 C w X0 L) : ∀ fn, ∃ l D w1, (Instr.enterLoop fn tm ps assign body none).run P w = .ok (l, mark D) w1 ∧
    St w0 C w1 (bx l (.loop (recL fn tm ps assign body D .ready none)) :: (X0 ++ [bx D (.deferred (some []))])) L := by
  intro fn
  refine ⟨(w.alloc (.deferred (some []))).heap.size, w.heap.size, (w.alloc (.deferred (some []))).alloc (.loop (recL fn tm ps assign body w.heap.size .ready none)), ?_, (((S.alloc (.deferred (some []))).alloc (.loop (recL fn tm ps assign body w.heap.size .ready none))).perm (List.Perm.cons _ (List.perm_append_singleton _ _).symm))⟩
  simp only [Instr.enterLoop, newObj]
  rfl
/-- .. within one of an outer loop -/
theorem ent_some {X0 : List Asr} {l0 : Nat} {o0 : Obj} {tm : Array Value} {ps : Array Tmp} {assign body : Code} (ho : ∃ r, o0 = .loop r) (S : St w0 C w (X0 ++ [bx l0 o0]) L) : ∀ fn, ∃ l D w1, (Instr.enterLoop fn tm ps assign body (some l0)).run P w = .ok (l, []) w1 ∧
    St w0 C w1 (bx l (.loop (recL fn tm ps assign body D .ready none)) :: (X0 ++ [bx l0 o0])) L := by
  intro fn
  obtain ⟨r, rfl⟩ := ho
  have h0 : w.heap[l0]? = some (.loop r) := S.xs _ (List.mem_append_right _ (List.mem_singleton.2 rfl))
  refine ⟨w.heap.size, r.defers, w.alloc (.loop (recL fn tm ps assign body r.defers .ready none)), ?_, S.alloc (.loop (recL fn tm ps assign body r.defers .ready none))⟩
  simp [Instr.enterLoop, run_getLoop h0, newObj]
  rfl
theorem c_rangeG {g : Operand} {ps : Array Tmp} {assign body : Code} {f : Nat} {first caps : Array Value} {K : List Asr} {MK : Nat → List Deferred} {XR : Nat → List Asr} {it : ∀ {σ : Type}, (ε → σ → Option (Bool × σ)) → σ → Option σ} {enc : ε → List Value}
    (bd : ε → α → Option (Bool × Nat × α)) (codes : List Code) (X : α → β → List Asr) (z0 : α) (y0 : β) {r : Nat × α} (H : it (yvOf bd) (0, z0) = some r)
    (hent : ∀ fn, ∃ l D w1, (Instr.enterLoop fn (E n e d).tmps ps assign body ro).run P w = .ok (l, MK D) w1 ∧ St w0 C w1 (bx l (.loop (recL fn (E n e d).tmps ps assign body D .ready none)) :: (X z0 y0 ++ XR D)) L)
    (hg : evn n e g = .func (.func f) first caps) (hF : funOf P f = true) (hit : ∀ w', IterG P f first caps enc it w' K) (hK : ∀ p ∈ K, p ∈ L) (hlen : ∀ x, (enc x).length = ps.size) (hcodes : ∀ c ∈ codes, c = .ret ∨ ∃ id, c = .exit id)
    (round : ∀ (l : Nat) (oR oB : Obj) (Cr : Nat → Prop) (x : ε) (z : α) (y : β) (w2 : World) (b : Bool) (c2 : Nat) (z2 : α) (PP : Exit → Act → World → Prop), bd x z = some (b, c2, z2) → St w2 Cr w2 (bx l oR :: X z y) L → Link w0 C w2 Cr → (∃ r, oB = .loop r) →
      (∀ (w1 : World) (XX : List Asr) (k : Nat) (Kt : World → Prop), St w2 Cr w1 XX L → XX[k]? = some (bx l oR) → (∀ w', St w2 Cr w' (XX.set k (bx l oB)) L → Kt w') → ∃ w', (Instr.beginRound l).run P w1 = .ok () w' ∧ Kt w') →
      (∀ a w3 z' y', St w2 Cr w3 (bx l oB :: X z' y') L → (true, 0, z') = (b, c2, z2) → PP .normal a w3) →
      (∀ (k : Nat) (c : Code) a w3 z' y', codes[k]? = some c → St w2 Cr w3 (bx l oB :: X z' y') L → (false, k + 1, z') = (b, c2, z2) → PP (exOf c) a w3) →
      assign.wpIn (Fr (some l)) 0 P (Exit.then (fun a₁ w₁ => ∃ w₂, (Instr.beginRound l).run P w₁ = .ok () w₂ ∧ body.wpIn (Fr (some l)) 0 P PP a₁ w₂) (fun _ _ _ => False)) (E n (upl e ps.toList (enc x)) []) w2)
    (done : r.1 = 0 → ∀ (l D : Nat) (o : Obj) (y : β) (w' : World), St w0 C w' (bx l o :: (X r.2 y ++ XR D)) L → Q .normal (E n e (MK D ++ d)) w')
    (jump : ∀ (k : Nat) (c : Code), codes[k]? = some c → r.1 = k + 1 → ∀ (l D : Nat) (o : Obj) (y : β) (w' : World), St w0 C w' (bx l o :: (X r.2 y ++ XR D)) L → c.wpIn (Fr ro) 0 P Q (E n e (MK D ++ d)) w') :
    (Code.rangeFunc g ps assign body).wpIn (Fr ro) 0 P Q (E n e d) w := by
  refine wpIn_rangeFunc fun fn _ => ?_
  obtain ⟨l, D, w1, hrun, S1⟩ := hent fn
  let rc := recL fn (E n e d).tmps ps assign body D
  have S2 : St w0 C w1 ((bx l (.loop (rc .ready none)) :: X z0 y0) ++ XR D) L := S1
  let A0 := all (bx l (.loop (rc .ready none)) :: X z0 y0)
  have hA0 : A0.ok w1 := ⟨fun x hx => S2.xs x (List.mem_append_left _ hx), (List.pairwise_append.1 S2.dx).1⟩
  have hdA : ∀ p ∈ L, ∀ b, p.fp b → ¬ A0.fp b := fun p hp b hb ⟨x, hx, hxb⟩ => S2.dp x (List.mem_append_left _ hx) p hp b hxb hb
  have hev : (E n e d).eval g = .func (.func f) first caps := by rw [E_eval]; exact hg
  let G : Nat × α → Asr → Prop := fun s A => (s.1 = 0 ∧ ∃ y, A = all (bx l (.loop (rc .ready none)) :: X s.2 y)) ∨ (∃ k c y, s.1 = k + 1 ∧ codes[k]? = some c ∧ A = all (bx l (.loop (rc .done (some c))) :: X s.2 y))
  have hown0 : ∀ b, A0.fp b → C b ∨ w0.heap.size ≤ b := fun b ⟨x, hx, hb⟩ => (S2.own x (List.mem_append_left _ hx) b hb).symm
  refine ⟨l, MK D, w1, { target := .fn (.func f) caps, args := first ++ #[.func (.yield l) #[] #[]] }, w1, f, first ++ #[.func (.yield l) #[] #[]] ++ caps, w1, hrun, ?_, fun _ _ => trivial, run_invoke hF _, fun h => by simp at h, ?_⟩
  · have hcn : ∀ v, (E n e d).eval (.const v) = v := fun _ => rfl
    simp [resolve, rangeCall, hev, hcn, Deferred.ofValue]
  refine callsIn_of (fun _ => trivial) rfl rfl ?_
  refine (hit w1 _ (yvOf bd) (0, z0) r l G A0 H ⟨.inl ⟨rfl, y0, rfl⟩, hA0⟩ (fun p hp => S2.ps p (hK p hp)) (fun p hp => hdA p (hK p hp)) ?_).mono ?_
  · rintro x ⟨c, z⟩ b ⟨c2, z2⟩ A w2 hyv hG hok hkp hfp
    obtain ⟨hc0, hbd⟩ := yvOf_some hyv
    simp only at hc0 hbd
    subst hc0
    rcases hG with ⟨_, y, rfl⟩ | ⟨k, _, _, hk, _⟩
    case inr => simp at hk
    have SL : St w2 (all (bx l (.loop (rc .ready none)) :: X z y)).fp w2 (bx l (.loop (rc .ready none)) :: X z y) L := by
      refine ⟨Keep.refl _ _, hok.1, fun p hp => p.mono _ _ (S2.ps p hp) fun b hb => hkp.block b (p.inb _ _ (S2.ps p hp) hb) (hdA p hp b hb), hok.2, fun x hx p hp b hxb hpb => ?_, fun x hx b hb => .inr ⟨x, hx, hb⟩⟩
      rcases hfp b ⟨x, hx, hxb⟩ with h | h
      · exact hdA p hp b hpb h
      · have := p.inb _ _ (S2.ps p hp) hpb; omega
    have hlink : Link w0 C w2 (all (bx l (.loop (rc .ready none)) :: X z y)).fp :=
      (⟨S2.keep, hown0⟩ : Link w0 C w1 A0.fp).trans ⟨hkp, fun b hb => hfp b hb⟩
    have hw := round l (.loop (rc .ready none)) (.loop (rc .busy none)) _ x z y w2 b c2 z2
      (roundPost P l (RR l rc (fun _ (p : α × β) => (true, 0, p.1) = (b, c2, z2)) (fun cd (p : α × β) => ∃ k, codes[k]? = some cd ∧ (false, k + 1, p.1) = (b, c2, z2)) (fun p => X p.1 p.2) 0 w2 (all (bx l (.loop (rc .ready none)) :: X z y))))
      hbd SL hlink ⟨_, rfl⟩ (fun w1 XX k Kt S hk hKt => rr_begin S hk hKt)
      (fun a w3 z' y' S hz => rr_next (y' := (z', y')) S hz)
      (fun k c a w3 z' y' hk S hz => by
        rcases hcodes c (List.mem_of_getElem? hk) with rfl | ⟨id, rfl⟩
        · exact rr_ret (y' := (z', y')) S ⟨k, hk, hz⟩
        · exact rr_exit (y' := (z', y')) S ⟨k, hk, hz⟩)
    refine ⟨fn, (E n (upl e ps.toList (enc x)) d).tmps, assign, body, ?_, ?_⟩
    · have h1 : w2.heap[l]? = some (.loop (rc .ready none)) := SL.at (i := 0) rfl
      have hz : (Array.foldl (fun (t : Array Value) (p : Nat × Value) => t.setIfInBounds p.1 p.2) (E n e d).tmps (ps.zip (enc x).toArray)) = (E n (upl e ps.toList (enc x)) d).tmps := by
        rw [← upl_E, ← Array.foldl_toList, Array.toList_zip]
      have hsz : (enc x).toArray.size = ps.size := by simpa using hlen x
      have hrun : (Instr.yield l (enc x).toArray).run P w2 = .ok (.round l fn (Array.foldl (fun (t : Array Value) (p : Nat × Value) => t.setIfInBounds p.1 p.2) (E n e d).tmps (ps.zip (enc x).toArray)) assign body) w2 := by
        have hsz2 : (enc x).length = ps.size := hlen x
        simp [Instr.yield, run_getLoop h1, rc, recL, hsz2]
      rw [hrun, hz]
    · have hri : RoundIn (Fr none) 0 P l fn (E n (upl e ps.toList (enc x)) d).tmps assign body w2 (RR l rc (fun _ (p : α × β) => (true, 0, p.1) = (b, c2, z2)) (fun cd (p : α × β) => ∃ k, codes[k]? = some cd ∧ (false, k + 1, p.1) = (b, c2, z2)) (fun p => X p.1 p.2) 0 w2 (all (bx l (.loop (rc .ready none)) :: X z y))) := roundIn_of_wpIn trivial hw
      refine RoundIn.mono hri ?_
      rintro en w3 ⟨q, he, hk, A', hok', hfp', hG⟩
      rcases hG with ⟨rfl, ⟨z', y'⟩, hI, rfl⟩ | ⟨rfl, ⟨z', y'⟩, cd, ⟨k, hck, hI⟩, rfl⟩
      · injection hI with h1 h2; injection h2 with h2 h3
        subst h1 h2 h3
        exact ⟨true, he, rfl, hk, _, hok', hfp', .inl ⟨rfl, y', rfl⟩⟩
      · injection hI with h1 h2; injection h2 with h2 h3
        subst h1 h2 h3
        exact ⟨false, he, rfl, hk, _, hok', hfp', .inr ⟨k, cd, y', rfl, hck, rfl⟩⟩
  · rintro en w3 ⟨v, rfl, hkp, A', ⟨hG, hok⟩, hfp⟩
    rcases hG with ⟨hr, y, rfl⟩ | ⟨k, c, y, hr, hk, rfl⟩
    · have S3 := S2.frame hkp hok hfp
      refine ⟨none, _, run_endLoop (S3.at (i := 0) rfl) (by simp [rc, recL]), ?_⟩
      exact done hr l D _ y _ (S3.setB (i := 0) rfl)
    · have S3 := S2.frame hkp hok hfp
      refine ⟨some c, _, run_endLoop (S3.at (i := 0) rfl) (by simp [rc, recL]), ?_⟩
      exact jump k c hk hr l D _ y _ (S3.setB (i := 0) rfl)
end
end Go.Fx
namespace Go.Fx
theorem leave_markN {P : Program} {n : Nat} {d : List Deferred} {e : Env} {w w0 : World} {C : Nat → Prop} {L : List Asr} {fn : Func} {R : Ending → World → Prop} {XX : List Asr} {i D : Nat} (S : St w0 C w XX L) (hi : XX[i]? = some (bx D (.deferred (some [])))) (h : ∀ w', St w0 C w' (XX.set i (bx D (.deferred none))) L → bodyPostM (Fr none) 0 P fn R .normal (E n e d) w') :
    bodyPostM (Fr none) 0 P fn R .normal (E n e (mark D ++ d)) w := by
  refine ⟨by simp, .inl ⟨D, setB w D (.deferred none), rfl, ?_, h _ (S.setB hi)⟩⟩
  have h1 := S.at hi
  have h2 : (getObj D).run P w = .ok (.deferred (some [])) w := by simp only [getObj, Sem.run, h1]
  have h3 : (setObj D (.deferred none)).run P w = .ok () (setB w D (.deferred none)) := by simp only [setObj, Sem.run, h1]; rfl
  simp [Instr.takeDeferred, h2, h3]
end Go.Fx

set_option linter.unusedSimpArgs false
set_option linter.unusedVariables false
namespace Go.Fx
open Go
/-! ### arrays of structs, by a list -/
section
variable {α : Type} [Inhabited α] {enc : α → List Value} {s : Nat}
def agetS (l : List α) (j : Int) : α := l.getD j.toNat default
def sgEF (enc : α → List Value) (l : List α) : Nat → Nat → List Value
  | _, 0 => []
  | k, n + 1 => enc (l.getD k default) ++ sgEF enc l (k + 1) n
/-- the cells of an array of n structs -/
def sgE (enc : α → List Value) (l : List α) (n : Nat) : List Value := sgEF enc l 0 n
theorem sgEF_len (he : ∀ x, (enc x).length = s) (l : List α) : ∀ (n k : Nat), (sgEF enc l k n).length = n * s
  | 0, _ => by simp [sgEF]
  | n + 1, k => by rw [sgEF, List.length_append, he, sgEF_len he l n (k + 1), Nat.succ_mul]; omega
theorem sgEF_app (l : List α) : ∀ (m k n : Nat), sgEF enc l k (m + n) = sgEF enc l k m ++ sgEF enc l (k + m) n
  | 0, k, n => by simp [sgEF]
  | m + 1, k, n => by rw [show m + 1 + n = (m + n) + 1 by omega, sgEF, sgEF, sgEF_app l m (k + 1) n, List.append_assoc, show k + 1 + m = k + (m + 1) by omega]
theorem sgE_split (l : List α) {n k : Nat} (hk : k < n) : sgE enc l n = sgEF enc l 0 k ++ enc (l.getD k default) ++ sgEF enc l (k + 1) (n - k - 1) := by
  unfold sgE
  conv => lhs; rw [show n = k + ((n - k - 1) + 1) by omega]
  rw [sgEF_app, sgEF, Nat.zero_add, List.append_assoc]
variable {ro : Option Nat} {P : Program} {full : Array Oper} {Q : Exit → Act → World → Prop} {n : Nat} {d : List Deferred} {e : Env} {w w0 : World} {C : Nat → Prop} {X L : List Asr}
variable {rest : List Oper} {ty : TypeId} {ps : String} {af : Array Edge}
theorem p_ldDA {t i b o m : Nat} {x : Operand} {pre post cs : List Value} {l : List α} {j : Int} {ct : TypeId} (hT : aggOf P t = some true) (hs : sizOf P t = some s) (hw : w.heap[b]? = some (.cells cs.toArray ct)) (hc : cs = pre ++ (sgE enc l m ++ post)) (he : ∀ x, (enc x).length = s) (hj : inI j m = true)
    (hx : evn n e x = .pointer (some ⟨b, o + j.toNat * s, none⟩)) (ho : pre.length = o)
    (h : wpA ro P full Q rest (E n (upd e i (AG (enc (agetS l j)))) d) w) : wpA ro P full Q (⟨some i, .load t x, ty, ps, af, none⟩ :: rest) (E n e d) w := by
  obtain ⟨h0, h1⟩ := inI_spec hj
  have hk : j.toNat < m := by omega
  have hA := sgEF_len he l j.toNat 0
  refine o_ldN hx hT hs (he _) (box_cells hw ?_) h
  rw [hc, sgE_split l hk, he]
  have e1 : pre ++ (sgEF enc l 0 j.toNat ++ enc (l.getD j.toNat default) ++ sgEF enc l (j.toNat + 1) (m - j.toNat - 1) ++ post) = (pre ++ sgEF enc l 0 j.toNat) ++ (enc (l.getD j.toNat default) ++ (sgEF enc l (j.toNat + 1) (m - j.toNat - 1) ++ post)) := by simp
  simp only [List.toList_toArray]
  rw [e1, List.drop_left' (by simp; omega), List.take_left' (he _)]
  rfl
end
end Go.Fx
namespace Go.Fx
section
def arrElOf (P : Program) (t : TypeId) : Option (Nat × TypeId) := match P.underlying t with | some (.array n el) => some (n, el) | _ => none
variable {ro : Option Nat} {P : Program} {full : Array Oper} {Q : Exit → Act → World → Prop} {n : Nat} {d : List Deferred} {e : Env} {w w0 : World} {C : Nat → Prop} {X L : List Asr}
variable {rest : List Oper} {ty : TypeId} {ps : String} {af : Array Edge}
theorem arrEl_und {t m el : Nat} (h : arrElOf P t = some (m, el)) : P.underlying t = some (.array m el) := by
  unfold arrElOf at h
  split at h
  · rename_i hu; cases h; exact hu
  · cases h
theorem p_idxI {t i el m : Nat} {x y : Operand} {l : List Int} {k : IntKind} {j : Int} (hT : arrElOf P t = some (m, el)) (hs : sizOf P el = some 1) (hA : aggOf P el = some false) (hj : inI j m = true) (hx : evn n e x = AG (sg l m)) (hy : evn n e y = .int k j)
    (h : wpA ro P full Q rest (E n (upd e i (I (aget l j))) d) w) : wpA ro P full Q (⟨some i, .index t x y, ty, ps, af, none⟩ :: rest) (E n e d) w := by
  obtain ⟨h0, h1⟩ := inI_spec hj
  have hg : (sg l m)[j.toNat]? = some (I (aget l j)) := sg_get l (by omega)
  have hj' : j < (m : Int) := h1
  refine op_val (v := I (aget l j)) rfl (fun _ h => by cases h) ?_ h
  have hx' : evn n e x = .agg (sg l m).toArray := hx
  simp [execOp, Instr.index, hx', hy, asIntOf, run_und (arrEl_und hT), h0, h1, run_sizeOf hs, part, run_isAgg hA, hg]
theorem p_idxS {α : Type} [Inhabited α] {enc : α → List Value} {s t i el m : Nat} {x y : Operand} {l : List α} {k : IntKind} {j : Int} (hT : arrElOf P t = some (m, el)) (hs : sizOf P el = some s) (hA : aggOf P el = some true) (he : ∀ x, (enc x).length = s) (hj : inI j m = true) (hx : evn n e x = AG (sgE enc l m)) (hy : evn n e y = .int k j)
    (h : wpA ro P full Q rest (E n (upd e i (AG (enc (agetS l j)))) d) w) : wpA ro P full Q (⟨some i, .index t x y, ty, ps, af, none⟩ :: rest) (E n e d) w := by
  obtain ⟨h0, h1⟩ := inI_spec hj
  have hA' := sgEF_len he l j.toNat 0
  have hg : List.take s (List.drop (j.toNat * s) (sgE enc l m)) = enc (agetS l j) := by
    rw [sgE_split l (show j.toNat < m by omega), List.append_assoc, List.drop_left' hA', List.take_left' (he _)]
    rfl
  refine op_val (v := AG (enc (agetS l j))) rfl (fun _ h => by cases h) ?_ h
  have hx' : evn n e x = .agg (sgE enc l m).toArray := hx
  simp only [execOp, Instr.index, hx', hy, asIntOf]
  simp [run_und (arrEl_und hT), h0, h1, run_sizeOf hs, part, run_isAgg hA, hg]
end
end Go.Fx
namespace Go.Fx
section
variable {κ ν : Type} {ek : κ → Value} {ev : ν → Value} {w w0 : World} {C : Nat → Prop} {X L : List Asr}
theorem St.mpoN (S : St w0 C w X L) (ek : κ → Value) (ev : ν → Value) : St w0 C w X (mpo ek ev none ([] : List (κ × ν)) :: L) := S.addL' mpo_none fun b hb => by cases hb
end
end Go.Fx
namespace Go.Fx
section
variable {ro : Option Nat} {P : Program} {full : Array Oper} {Q : Exit → Act → World → Prop} {n : Nat} {d : List Deferred} {e : Env} {w w0 : World} {C : Nat → Prop} {X L : List Asr}
variable {rest : List Oper} {ty : TypeId} {ps : String} {af : Array Edge}
/-- an array built of its elements -/
def bldOf (P : Program) (t : TypeId) : Option (Array Value × Nat) := match P.info? t, P.underlying t with
  | some it, some (.array _ el) => match it.zero, P.info? el with
    | some z, some ie => some (z.cells, ie.size)
    | _, _ => none
  | _, _ => none
theorem p_bldA {t i s : Nat} {parts : Array (Nat × Operand)} {vals : List (Nat × Value)} {z cs : List Value} (hT : bldOf P t = some (z.toArray, s)) (hv : parts.toList.map (fun (i, x) => (i, evn n e x)) = vals) (hf : Instr.fill (fun i => some (i * s, s)) z.toArray vals = some cs.toArray)
    (h : wpA ro P full Q rest (E n (upd e i (AG cs)) d) w) : wpA ro P full Q (⟨some i, .build t parts, ty, ps, af, none⟩ :: rest) (E n e d) w := by
  unfold bldOf at hT
  split at hT
  · rename_i it m el h1 h2
    split at hT
    · rename_i z' ie h3 h4
      injection hT with hT
      injection hT with e1 e2
      subst e2
      have hp : List.map (fun x => (x.fst, evn n e x.snd)) parts.toList = vals := hv
      refine op_val (v := AG cs) rfl (fun _ h => by cases h) ?_ h
      simp [execOp, Instr.build, zeroValue, typeInfo, h1, h3, run_und h2, sizeOf, h4, e1, hp, hf]
    · cases hT
  · cases hT
/-- one of an array's values, of whatever kind -/
theorem p_idxV {t i el m : Nat} {x y : Operand} {vs : List Value} {v : Value} {k : IntKind} {j : Int} (hT : arrElOf P t = some (m, el)) (hs : sizOf P el = some 1) (hA : aggOf P el = some false) (hj : inI j m = true) (hx : evn n e x = AG vs) (hy : evn n e y = .int k j) (hv : vs[j.toNat]? = some v)
    (h : wpA ro P full Q rest (E n (upd e i v) d) w) : wpA ro P full Q (⟨some i, .index t x y, ty, ps, af, none⟩ :: rest) (E n e d) w := by
  obtain ⟨h0, h1⟩ := inI_spec hj
  refine op_val (v := v) rfl (fun _ h => by cases h) ?_ h
  have hx' : evn n e x = .agg vs.toArray := hx
  simp [execOp, Instr.index, hx', hy, asIntOf, run_und (arrEl_und hT), h0, h1, run_sizeOf hs, part, run_isAgg hA, hv]
theorem two_second {j : Int} (h : inI j 2 = true) (h0 : (j == 0) = false) : j = 1 := by
  have := inI_spec h
  have : j ≠ 0 := by simpa using h0
  omega
/-- a part of an array of numbers, from its begin -/
theorem p_cutA {t i el m o b : Nat} {x hi : Operand} {l r : List Int} {a : Int} (hT : arrElOf P t = some (m, el)) (hs : sizOf P el = some 1) (hc : cutI (sgl l m) 0 a = some r) (hx : evn n e x = .pointer (some ⟨b, o, none⟩)) (hhi : evn n e hi = I a)
    (h : wpA ro P full Q rest (E n (upd e i (SL (some ⟨b, o, none⟩) r.length m)) d) w) : wpA ro P full Q (⟨some i, .slice t x none (some hi) none, ty, ps, af, none⟩ :: rest) (E n e d) w := by
  obtain ⟨h0, h1, h2, hr⟩ := cutI_some hc
  rw [sgl_len] at h2
  have hlen : r.length = a.toNat := by have := sgl_len l m; rw [hr]; simp only [List.length_drop, List.length_take]; omega
  rw [hlen] at h
  refine op_val (v := SL (some ⟨b, o, none⟩) a.toNat m) rfl (fun _ h => by cases h) ?_ h
  have hhi' : evn n e hi = .int .i64 a := hhi
  simp [execOp, Instr.sliceAt, Instr.sureAddr, run_und (arrEl_und hT), hx, hhi', Instr.sliceBounds, run_bound rfl h1 h2, run_sizeOf hs]
  intro _
  simp [Addr.add]
theorem St.arrRd {b m o : Nat} {pre post cs : List Value} {l r : List Int} {ct : TypeId} {a : Int} (S : St w0 C w X L) {i : Nat} (hi : L[i]? = some (bl b cs ct)) (hcs : cs = pre ++ (sg l m ++ post)) (ho : pre.length = o) (hc : cutI (sgl l m) 0 a = some r) (hm : m ≤ 1000) : St w0 C w X (rd intE 1 (some ⟨b, o, none⟩) m r :: L) := by
  obtain ⟨h0, h1, h2, hr⟩ := cutI_some hc
  rw [sgl_len] at h2
  have hw : w.heap[b]? = some (.cells cs.toArray ct (0, 0)) := S.atP hi
  have hb := (Array.getElem?_eq_some_iff.1 hw).1
  refine S.addL' ⟨.inr ⟨b, o, rfl, hb, fun k x hk j v hj => ?_⟩, by have := sgl_len l m; rw [hr]; simp only [List.length_drop, List.length_take]; omega, by rw [maxLen_eq]; omega⟩ fun b' hb' x hx hxb => S.dp x hx _ (List.mem_of_getElem? hi) b' hxb ?_
  · have hkr : k < r.length := (List.getElem?_eq_some_iff.1 hk).1
    have hkm : k < m := by have := sgl_len l m; rw [hr] at hkr; simp only [List.length_drop, List.length_take] at hkr; omega
    have hj0 : j = 0 := by
      have := (List.getElem?_eq_some_iff.1 hj).1
      rw [intE_len] at this; omega
    subst hj0
    have hv : v = .int .i64 x := by simpa [intE] using hj.symm
    subst hv
    have hx' : x = l.getD k 0 := by
      rw [hr, show (0 : Int).toNat = 0 from rfl, List.drop_zero, List.getElem?_take] at hk
      split at hk
      · unfold sgl at hk
        rw [List.getElem?_map, List.getElem?_range hkm] at hk
        exact (Option.some.inj hk).symm
      · cases hk
    subst hx'
    rw [cell_of hw, hcs]
    simp only [List.getElem?_toArray]
    rw [List.getElem?_append_right (by omega), List.getElem?_append_left (by rw [sg_len]; omega), show o + k * 1 + 0 - pre.length = k by omega]
    exact sg_get l hkm
  · obtain ⟨_, a', ha, rfl⟩ := hb'
    have := Option.some.inj ha
    subst this
    rfl
end
end Go.Fx
namespace Go.Fx
section
variable {ro : Option Nat} {P : Program} {full : Array Oper} {Q : Exit → Act → World → Prop} {n : Nat} {d : List Deferred} {e : Env} {w w0 : World} {C : Nat → Prop} {X L : List Asr}
variable {rest : List Oper} {ty : TypeId} {ps : String} {af : Array Edge}
/-- a field's place and type -/
def fldTOf (P : Program) (t f : Nat) : Option (Nat × TypeId) := match P.underlying t with
  | some (.struct fs) => (fs[f]?).map fun fl => (fl.offset, fl.type)
  | _ => none
/-- a field of a struct that is at hand, one cell -/
theorem p_fieldV {t f i o ft : Nat} {x : Operand} {cs : List Value} {v : Value} (hT : fldTOf P t f = some (o, ft)) (hA : aggOf P ft = some false) (hx : evn n e x = AG cs) (hv : cs[o]? = some v)
    (h : wpA ro P full Q rest (E n (upd e i v) d) w) : wpA ro P full Q (⟨some i, .field t x f, ty, ps, af, none⟩ :: rest) (E n e d) w := by
  unfold fldTOf at hT
  split at hT
  · rename_i fs hu
    obtain ⟨fl, h1, h2⟩ := Option.map_eq_some_iff.1 hT
    injection h2 with e1 e2
    subst e1 e2
    refine op_val (v := v) rfl (fun _ h => by cases h) ?_ h
    have hx' : evn n e x = .agg cs.toArray := hx
    simp [execOp, Instr.field, run_und hu, h1, hx', asAgg, part, run_isAgg hA, hv]
  · cases hT
end
end Go.Fx

set_option linter.unusedSimpArgs false
set_option linter.unusedVariables false
namespace Go.Fx
open Go
/-! ### copy into a row of numbers that is one's own -/
section
variable {ro : Option Nat} {P : Program} {full : Array Oper} {Q : Exit → Act → World → Prop} {n : Nat} {d : List Deferred} {e : Env} {w w0 : World} {C : Nat → Prop} {X L : List Asr}
variable {rest : List Oper} {ty : TypeId} {ps : String} {af : Array Edge}
end
end Go.Fx

set_option linter.unusedSimpArgs false
set_option linter.unusedVariables false
namespace Go.Fx
open Go
/-! ### regions whose order is open, in whose head two chains work, each on own words of its own -/
section
variable {ro : Option Nat} {P : Program} {n : Nat} {d : List Deferred} {w : World} {Q : Exit → Act → World → Prop} {CC : Nat → Prop} {Base : List Asr}
theorem St.permX {w0 w : World} {C : Nat → Prop} {X X' L : List Asr} (S : St w0 C w X L) (h : X.Perm X') : St w0 C w X' L :=
  ⟨S.keep, fun x hx => S.xs x (h.mem_iff.2 hx), S.ps, (h.pairwise_iff (fun {p q} hpq b h1 h2 => hpq b h2 h1)).1 S.dx, fun x hx => S.dp x (h.mem_iff.2 hx), fun x hx => S.own x (h.mem_iff.2 hx)⟩
/-- the rest of a chain that works on the own words X, whatever else is own -/
def Ch (ro : Option Nat) (P : Program) (full : Array Oper) (n : Nat) (d : List Deferred) (w : World) (CC : Nat → Prop) (Base : List Asr) (Fin : Env → List Asr → Prop) : List Oper → Env → List Asr → Prop
  | [], ec, X => Fin ec X
  | o :: os, ec, X => ∀ w' R, St w CC w' (X ++ R) Base → wpA ro P full (Ends1 fun a w2 => ∃ v X', a = E n (updo ec o.dst v) d ∧ St w CC w2 (X' ++ R) Base ∧ Ch ro P full n d w CC Base Fin os (updo ec o.dst v) X') [o] (E n ec d) w'
def okT (l : List Oper) (m : Nat) (ca cb : List Nat) : Bool :=
  okDraw l m none && ((List.range m).all fun i => match l[i]? with
    | none => true
    | some o => plainOp o && (reads l.toArray o).all fun s => (List.range m).all fun j => dstAt l j != some s || (((anc l).getD i []).contains j && (ca.contains i || !ca.contains j) && (cb.contains i || !cb.contains j))) &&
  ((List.range m).all fun i => (!ca.contains i || (List.range i).all fun j => !ca.contains j || ((anc l).getD i []).contains j) && (!cb.contains i || (List.range i).all fun j => !cb.contains j || ((anc l).getD i []).contains j) && !(ca.contains i && cb.contains i))
theorem okT_spec {l : List Oper} {m : Nat} {ca cb : List Nat} (h : okT l m ca cb = true) : okDraw l m none = true ∧ (∀ i o, i < m → l[i]? = some o → plainOp o = true ∧ ∀ s ∈ reads l.toArray o, ∀ j, j < m → dstAt l j = some s → ((anc l).getD i []).contains j = true ∧ (ca.contains i = false → ca.contains j = false) ∧ (cb.contains i = false → cb.contains j = false)) ∧
    (∀ i, i < m → ca.contains i = true → ∀ j, j < i → ca.contains j = true → ((anc l).getD i []).contains j = true) ∧ (∀ i, i < m → cb.contains i = true → ∀ j, j < i → cb.contains j = true → ((anc l).getD i []).contains j = true) ∧ (∀ i, i < m → ca.contains i = true → cb.contains i = false) := by
  simp only [okT, Bool.and_eq_true] at h
  obtain ⟨⟨h1, h2⟩, h3⟩ := h
  have g : ∀ i, i < m → _ := fun i hi => List.all_eq_true.1 h3 i (List.mem_range.2 hi)
  refine ⟨h1, fun i o hi ho => ?_, fun i hi hci j hji hcj => ?_, fun i hi hci j hji hcj => ?_, fun i hi hci => ?_⟩
  · have := List.all_eq_true.1 h2 i (List.mem_range.2 hi)
    rw [ho] at this
    simp only [Bool.and_eq_true] at this
    refine ⟨this.1, fun s hs j hj hd => ?_⟩
    have := List.all_eq_true.1 (List.all_eq_true.1 this.2 s hs) j (List.mem_range.2 hj)
    rw [hd] at this
    simp only [bne_self_eq_false, Bool.false_or, Bool.and_eq_true, Bool.or_eq_true, Bool.not_eq_true'] at this
    exact ⟨this.1.1, fun hc => this.1.2.resolve_left (by rw [hc]; simp), fun hc => this.2.resolve_left (by rw [hc]; simp)⟩
  · have := g i hi
    simp only [Bool.and_eq_true] at this
    have := this.1.1
    rw [hci] at this
    simp only [Bool.not_true, Bool.false_or] at this
    have := List.all_eq_true.1 this j (List.mem_range.2 hji)
    rw [hcj] at this
    simpa using this
  · have := g i hi
    simp only [Bool.and_eq_true] at this
    have := this.1.2
    rw [hci] at this
    simp only [Bool.not_true, Bool.false_or] at this
    have := List.all_eq_true.1 this j (List.mem_range.2 hji)
    rw [hcj] at this
    simpa using this
  · have := g i hi
    simp only [Bool.and_eq_true] at this
    have := this.2
    rw [hci] at this
    simpa using this
/-- is it the slot of one of these operations? -/
def dIn (l : List Oper) (cs : List Nat) (s : Nat) : Bool := cs.any fun j => dstAt l j == some s
theorem dIn_of {l : List Oper} {cs : List Nat} {s j : Nat} (hj : cs.contains j = true) (h : dstAt l j = some s) : dIn l cs s = true := List.any_eq_true.2 ⟨j, by simpa using hj, by simp [h]⟩
theorem dIn_not {l : List Oper} {cs : List Nat} {s j : Nat} (h : dIn l cs s = false) (hj : cs.contains j = true) : dstAt l j ≠ some s := fun hd => by rw [dIn_of hj hd] at h; cases h
/-- **a region whose order is open, in whose head two chains work on own words** -/
theorem reg_two {e : Env} {l : List Oper} {id : Nat} (hm : P.follows .mixedOrders = true) (m : Nat) (ca cb : List Nat) (XA0 XB0 : List Asr) (FA FB : Env → List Asr → Prop) (hok : okT l m ca cb = true) (hca : ca = (List.range m).filter (ca.contains ·)) (hcb : cb = (List.range m).filter (cb.contains ·)) (S0 : St w CC w (XA0 ++ XB0) Base)
    (h : DSd ro P l.toArray n d CC w (ca ++ cb) 0 (l.take m) e fun ek => Ch ro P l.toArray n d w CC Base FA (ca.filterMap (l[·]?)) ek XA0 ∧ Ch ro P l.toArray n d w CC Base FB (cb.filterMap (l[·]?)) ek XB0 ∧
      ∀ ea XA eb XB, FA ea XA → FB eb XB → ∀ e' w', (∀ s, dIn l ca s = true → e' s = ea s) → (∀ s, dIn l cb s = true → e' s = eb s) → (∀ s, dIn l ca s = false → dIn l cb s = false → e' s = ek s) → St w CC w' (XA ++ XB) Base → wpA ro P l.toArray Q (l.drop m) (E n e' d) w') :
    (Code.region id l.toArray true).wpIn (Fr ro) 0 P Q (E n e d) w := by
  obtain ⟨vs, hl, hh, hKA, hKB, hT⟩ := dsd_vals h
  obtain ⟨hd, hq, hccA, hccB, hAB⟩ := okT_spec hok
  obtain ⟨_, _, hml, hdst, _, _⟩ := okDraw_spec hd
  have hlm : (l.take m).length = m := by simp; omega
  have hlv : vs.length = m := by omega
  generalize hcs : ca ++ cb = cs at hh hKA hKB hT
  have hcc : ∀ j, cs.contains j = (ca.contains j || cb.contains j) := fun j => by rw [← hcs]; simp [List.contains_eq_any_beq]
  generalize hek : seqE e ((msk cs 0 (l.take m)).zip vs) = ek at hKA hKB hT
  have hr0 : ∀ cs : List Nat, cs = (List.range m).filter (cs.contains ·) → cs.filterMap (l[·]?) = rem l m cs (fun _ => false) := fun cs hcs => by
    unfold rem
    conv => lhs; rw [hcs]
    congr 2
    funext i
    simp
  rw [hr0 ca hca] at hKA
  rw [hr0 cb hcb] at hKB
  have hps : ∀ k i p, (((msk cs 0 (l.take m)).zip vs).take k)[i]? = some p → i < k ∧ i < m ∧ vs[i]? = some p.2 ∧ ∃ o, l[i]? = some o ∧ p.1 = (bif cs.contains i then { o with dst := none } else o) := by
    intro k i p hp
    rw [List.getElem?_take] at hp
    split at hp
    · rename_i hik
      rw [List.getElem?_zip_eq_some, msk_get, List.getElem?_take] at hp
      obtain ⟨h1, h2⟩ := hp
      split at h1
      · rename_i him
        obtain ⟨o, ho, h1⟩ := Option.map_eq_some_iff.1 h1
        rw [Nat.zero_add] at h1
        exact ⟨hik, him, h2, o, ho, h1.symm⟩
      · simp at h1
    · cases hp
  have F1 : ∀ k j s v, j < k → j < m → cs.contains j = false → dstAt l j = some s → vs[j]? = some v → seqE e (((msk cs 0 (l.take m)).zip vs).take k) s = v := by
    intro k j s v hjk hjm hjc hds hv
    have hoj : ∃ o, l[j]? = some o := ⟨l[j]'(by omega), List.getElem?_eq_getElem _⟩
    obtain ⟨o, ho⟩ := hoj
    refine seqE_at (j := j) (o := o) (v := v) _ e ?_ (by simpa [dstAt, ho] using hds) fun i p hp hpd => ?_
    · rw [List.getElem?_take, if_pos hjk, List.getElem?_zip_eq_some, msk_get, List.getElem?_take, if_pos hjm, ho, Nat.zero_add, hjc]
      exact ⟨rfl, hv⟩
    · obtain ⟨a1, a2, a3, o', ho', hp1⟩ := hps k i p hp
      cases hci : cs.contains i with
      | true => rw [hci] at hp1; rw [hp1] at hpd; cases hpd
      | false =>
        rw [hci] at hp1
        rw [hp1] at hpd
        exact hdst i j s a2 hjm (by simp [dstAt, ho']; exact hpd) hds
  have F2 : ∀ k s, (∀ j, j < m → cs.contains j = false → dstAt l j ≠ some s) → seqE e (((msk cs 0 (l.take m)).zip vs).take k) s = e s := by
    intro k s hs
    refine seqE_not _ e fun p hp hpd => ?_
    obtain ⟨i, hi, rfl⟩ := List.getElem_of_mem hp
    obtain ⟨a1, a2, a3, o', ho', hp1⟩ := hps k i _ (List.getElem?_eq_getElem hi)
    cases hci : cs.contains i with
    | true => rw [hci] at hp1; rw [hp1] at hpd; cases hpd
    | false =>
      rw [hci] at hp1
      rw [hp1] at hpd
      exact hs i a2 hci (by simp [dstAt, ho']; exact hpd)
  have hall : ((msk cs 0 (l.take m)).zip vs).take m = (msk cs 0 (l.take m)).zip vs := List.take_of_length_le (by simp [msk_len]; omega)
  have F1m : ∀ j s v, j < m → cs.contains j = false → dstAt l j = some s → vs[j]? = some v → ek s = v := fun j s v h1 h2 h3 h4 => by
    rw [← hek, ← hall]; exact F1 m j s v h1 h1 h2 h3 h4
  have F2m : ∀ s, (∀ j, j < m → cs.contains j = false → dstAt l j ≠ some s) → ek s = e s := fun s hs => by
    rw [← hek, ← hall]; exact F2 m s hs
  have hvj : ∀ j, j < m → ∃ v, vs[j]? = some v := fun j hj => ⟨vs[j]'(by omega), List.getElem?_eq_getElem _⟩
  have cm : ∀ {j}, ca.contains j = true → cs.contains j = true := fun {j} h => by rw [hcc, h]; rfl
  have cm' : ∀ {j}, cb.contains j = true → cs.contains j = true := fun {j} h => by rw [hcc, h]; simp
  have cf : ∀ {j}, ca.contains j = false → cb.contains j = false → cs.contains j = false := fun {j} h h' => by rw [hcc, h, h']; rfl
  have cf1 : ∀ {j}, cs.contains j = false → ca.contains j = false := fun {j} h => by rw [hcc] at h; exact (Bool.or_eq_false_iff.1 h).1
  have cf2 : ∀ {j}, cs.contains j = false → cb.contains j = false := fun {j} h => by rw [hcc] at h; exact (Bool.or_eq_false_iff.1 h).2
  -- what is known of a chain's slots
  let At : List Nat → (Nat → Bool) → Env → Env → Prop := fun c S e' ea => (∀ j s, j < m → S j = true → c.contains j = true → dstAt l j = some s → e' s = ea s) ∧ (∀ s, (∀ j, j < m → S j = true → c.contains j = true → dstAt l j ≠ some s) → ea s = ek s)
  have AtStay : ∀ (c : List Nat) (S : Nat → Bool) (e' ea : Env) (i : Nat) (o : Oper) (v : Value), i < m → l[i]? = some o → c.contains i = false → At c S e' ea → At c (fun j => S j || j == i) (updo e' o.dst v) ea := by
    intro c S e' ea i o v him ho hci ⟨qA, qB⟩
    have hup : ∀ (f : Env) v s, o.dst ≠ some s → updo f o.dst v s = f s := fun f v s hne' => by
      cases hod : o.dst with
      | none => rfl
      | some t =>
        have : s ≠ t := fun h => hne' (by rw [hod, h])
        simp [updo, upd, nbeq this]
    refine ⟨fun j s hj hSj hcj hds => ?_, fun s hs => qB s fun j hj hSj => hs j hj (by simp [hSj])⟩
    have hji : j ≠ i := fun h => by rw [h, hci] at hcj; cases hcj
    rw [hup _ _ s (fun hod => hji (hdst j i s hj him hds (by simp [dstAt, ho, hod])))]
    exact qA j s hj (by simpa [hji] using hSj) hcj hds
  have AtStep : ∀ (c : List Nat) (S : Nat → Bool) (e' ea : Env) (i : Nat) (o : Oper) (v : Value), i < m → l[i]? = some o → c.contains i = true → At c S e' ea → At c (fun j => S j || j == i) (updo e' o.dst v) (updo ea o.dst v) := by
    intro c S e' ea i o v him ho hci ⟨qA, qB⟩
    have hup : ∀ (f : Env) v s, o.dst ≠ some s → updo f o.dst v s = f s := fun f v s hne' => by
      cases hod : o.dst with
      | none => rfl
      | some t =>
        have : s ≠ t := fun h => hne' (by rw [hod, h])
        simp [updo, upd, nbeq this]
    refine ⟨fun j s hj hSj hcj hds => ?_, fun s hs => ?_⟩
    · by_cases hji : j = i
      · subst hji
        have hod : o.dst = some s := by simpa [dstAt, ho] using hds
        rw [hod]; simp [updo, upd]
      · have hne : o.dst ≠ some s := fun hod => hji (hdst j i s hj him hds (by simp [dstAt, ho, hod]))
        rw [hup _ _ s hne, hup _ _ s hne]
        exact qA j s hj (by simpa [hji] using hSj) hcj hds
    · rw [hup _ _ s (fun hod => hs i him (by simp) hci (by simp [dstAt, ho, hod]))]
      exact qB s fun j hj hSj => hs j hj (by simp [hSj])
  -- what an operation of a chain reads
  have Rd : ∀ (c : List Nat) (S : Nat → Bool) (i : Nat) (o : Oper) (e' ea : Env), (∀ s, (∀ j, j < m → dstAt l j ≠ some s) → e' s = e s) → (∀ j s v, j < m → S j = true → cs.contains j = false → dstAt l j = some s → vs[j]? = some v → e' s = v) → At c S e' ea → (∀ j, c.contains j = true → cs.contains j = true) →
      (∀ s ∈ reads l.toArray o, ∀ j, j < m → dstAt l j = some s → S j = true ∧ (c.contains j = true ∨ cs.contains j = false)) → ∀ s ∈ reads l.toArray o, e' s = ea s := by
    intro c S i o e' ea hfr hqv ⟨qA, qB⟩ hcm hr s hs
    by_cases hx : ∃ j, j < m ∧ dstAt l j = some s
    · obtain ⟨j, hj, hds⟩ := hx
      obtain ⟨hS, hc⟩ := hr s hs j hj hds
      rcases hc with hc | hc
      · exact qA j s hj hS hc hds
      · obtain ⟨u, hu⟩ := hvj j hj
        rw [hqv j s u hj hS hc hds hu, qB s fun c' hc' hSc hcc3 hds2 => ?_, F1m j s u hj hc hds hu]
        have := hdst c' j s hc' hj hds2 hds
        rw [this] at hcc3
        rw [hcm j hcc3] at hc; cases hc
    · have hx' : ∀ j, j < m → dstAt l j ≠ some s := fun j hj hds => hx ⟨j, hj, hds⟩
      rw [hfr s hx', qB s fun c' hc' _ _ => hx' c' hc', F2m s fun j hj _ => hx' j hj]
  refine reg_inv hm m hd (fun S e' w' => (∀ s, (∀ j, j < m → dstAt l j ≠ some s) → e' s = e s) ∧ (∀ j s v, j < m → S j = true → cs.contains j = false → dstAt l j = some s → vs[j]? = some v → e' s = v) ∧
    ∃ (ea eb : Env) (XA XB : List Asr), At ca S e' ea ∧ At cb S e' eb ∧ Ch ro P l.toArray n d w CC Base FA (rem l m ca S) ea XA ∧ Ch ro P l.toArray n d w CC Base FB (rem l m cb S) eb XB ∧ St w CC w' (XA ++ XB) Base) ?_ ?_ ?_
  · intro w1 k1
    exact ⟨fun _ _ => rfl, fun _ _ _ _ h => by (cases h), ek, ek, XA0, XB0, ⟨fun _ _ _ h => by (cases h), fun _ _ => rfl⟩, ⟨fun _ _ _ h => by (cases h), fun _ _ => rfl⟩, hKA, hKB, S0.call k1⟩
  · rintro S i o e' w' ho him hSi hwait hlt hclosed ⟨hfr, hqv, ea, eb, XA, XB, hA, hB, qA, qB, hS⟩
    obtain ⟨hpl, hrd⟩ := hq i o him ho
    have hne : ∀ j s, j < m → j ≠ i → dstAt l j = some s → o.dst ≠ some s := fun j s hj hji hds hod => hji (hdst j i s hj him hds (by simp [dstAt, ho, hod]))
    have hup : ∀ (f : Env) v s, o.dst ≠ some s → updo f o.dst v s = f s := fun f v s hne' => by
      cases hod : o.dst with
      | none => rfl
      | some t =>
        have : s ≠ t := fun h => hne' (by rw [hod, h])
        simp [updo, upd, nbeq this]
    have frS : ∀ v s, (∀ j, j < m → dstAt l j ≠ some s) → updo e' o.dst v s = e s := fun v s hs => by
      rw [hup _ _ s (fun hod => hs i him (by simp [dstAt, ho, hod]))]; exact hfr s hs
    have qvS : ∀ v, (cs.contains i = false → ∀ x, vs[i]? = some x → v = x) → ∀ j s x, j < m → (S j || j == i) = true → cs.contains j = false → dstAt l j = some s → vs[j]? = some x → updo e' o.dst v s = x := fun v hv j s x hj hSj hcj hds hx => by
      by_cases hji : j = i
      · subst hji
        have hod : o.dst = some s := by simpa [dstAt, ho] using hds
        have := hv hcj x hx
        subst this
        rw [hod]; simp [updo, upd]
      · rw [hup _ _ s (hne j s hj hji hds)]
        exact hqv j s x hj (by simpa [hji] using hSj) hcj hds hx
    cases hci : cs.contains i with
    | false =>
      obtain ⟨v, hv⟩ := hvj i him
      have q1 := wp1_congr (e' := e') (R := rv v) (fun _ _ _ _ _ _ h => h) hpl (fun s hs => ?_) (hh i o v (by rw [List.getElem?_take, if_pos him]; exact ho) hv (by rw [Nat.zero_add]; exact hci) w' hS.keep)
      · refine wp1_mono (fun ex a w2 hq2 => ?_) q1
        cases ex with
        | normal =>
          obtain ⟨u, rfl, hk2, hu⟩ := hq2
          have hu : u = v := hu
          subst hu
          refine ⟨_, rfl, frS u, qvS u (fun _ x hx => by rw [hv] at hx; exact Option.some.inj hx), ea, eb, XA, XB, AtStay ca S e' ea i o u him ho (cf1 hci) hA, AtStay cb S e' eb i o u him ho (cf2 hci) hB, ?_, ?_, hS.call hk2⟩
          · rw [rem_same (cf1 hci)]; exact qA
          · rw [rem_same (cf2 hci)]; exact qB
        | _ => exact hq2.elim
      · by_cases hx : ∃ j, j < m ∧ dstAt l j = some s
        · obtain ⟨j, hj, hds⟩ := hx
          obtain ⟨ha, hc1, hc2⟩ := hrd s hs j hj hds
          have hcj := cf (hc1 (cf1 hci)) (hc2 (cf2 hci))
          obtain ⟨u, hu⟩ := hvj j hj
          have hil : i < l.length := (List.getElem?_eq_some_iff.1 ho).1
          rw [hqv j s u hj (hwait j ha) hcj hds hu, F1 i j s u (anc_lt hd hil ha) hj hcj hds hu]
        · have hx' : ∀ j, j < m → dstAt l j ≠ some s := fun j hj hds => hx ⟨j, hj, hds⟩
          rw [hfr s hx', F2 i s fun j hj _ => hx' j hj]
    | true =>
      cases hia : ca.contains i with
      | true =>
        have hib := hAB i him hia
        rw [rem_cons him ho hia hSi (fun j hj hcj => hwait j (hccA i him hia j hj hcj))] at qA
        have q1 := wp1_congrV (e' := e') (Ψ := fun v w2 => ∃ X', St w CC w2 (X' ++ XB) Base ∧ Ch ro P l.toArray n d w CC Base FA (rem l m ca fun j => S j || j == i) (updo ea o.dst v) X') hpl (Rd ca S i o e' ea hfr hqv hA (fun _ h => cm h) fun s hs j hj hds => ?_) (wp1_mono (fun ex a w2 hq2 => ?_) (qA w' XB hS))
        · refine wp1_mono (fun ex a w2 hq2 => ?_) q1
          cases ex with
          | normal =>
            obtain ⟨v, rfl, X', hS2, hC⟩ := hq2
            refine ⟨_, rfl, frS v, qvS v (fun h => by rw [hci] at h; cases h), updo ea o.dst v, eb, X', XB, AtStep ca S e' ea i o v him ho hia hA, AtStay cb S e' eb i o v him ho hib hB, hC, ?_, hS2⟩
            rw [rem_same hib]; exact qB
          | _ => exact hq2.elim
        · obtain ⟨ha, _, hc2⟩ := hrd s hs j hj hds
          refine ⟨hwait j ha, ?_⟩
          cases hcj : ca.contains j with
          | true => exact .inl rfl
          | false => exact .inr (cf hcj (hc2 hib))
        · cases ex with
          | normal => obtain ⟨v, X', hu, h1, h2⟩ := hq2; exact ⟨v, hu, X', h1, h2⟩
          | _ => exact hq2.elim
      | false =>
        have hib : cb.contains i = true := by rw [hcc, hia] at hci; simpa using hci
        rw [rem_cons him ho hib hSi (fun j hj hcj => hwait j (hccB i him hib j hj hcj))] at qB
        have q1 := wp1_congrV (e' := e') (Ψ := fun v w2 => ∃ X', St w CC w2 (X' ++ XA) Base ∧ Ch ro P l.toArray n d w CC Base FB (rem l m cb fun j => S j || j == i) (updo eb o.dst v) X') hpl (Rd cb S i o e' eb hfr hqv hB (fun _ h => cm' h) fun s hs j hj hds => ?_) (wp1_mono (fun ex a w2 hq2 => ?_) (qB w' XA (hS.permX List.perm_append_comm)))
        · refine wp1_mono (fun ex a w2 hq2 => ?_) q1
          cases ex with
          | normal =>
            obtain ⟨v, rfl, X', hS2, hC⟩ := hq2
            refine ⟨_, rfl, frS v, qvS v (fun h => by rw [hci] at h; cases h), ea, updo eb o.dst v, XA, X', AtStay ca S e' ea i o v him ho hia hA, AtStep cb S e' eb i o v him ho hib hB, ?_, hC, hS2.permX List.perm_append_comm⟩
            rw [rem_same hia]; exact qA
          | _ => exact hq2.elim
        · obtain ⟨ha, hc1, _⟩ := hrd s hs j hj hds
          refine ⟨hwait j ha, ?_⟩
          cases hcj : cb.contains j with
          | true => exact .inl rfl
          | false => exact .inr (cf (hc1 hia) hcj)
        · cases ex with
          | normal => obtain ⟨v, X', hu, h1, h2⟩ := hq2; exact ⟨v, hu, X', h1, h2⟩
          | _ => exact hq2.elim
  · rintro S e' w' hall2 ⟨hfr, hqv, ea, eb, XA, XB, hA, hB, qA, qB, hS⟩
    have hr : ∀ c, rem l m c S = [] := fun c => by
      unfold rem
      rw [List.filter_eq_nil_iff.2]
      · rfl
      · intro j hj
        simp [hall2 j (List.mem_range.1 hj)]
    rw [hr] at qA qB
    have hin : ∀ c : List Nat, c = (List.range m).filter (c.contains ·) → ∀ s, dIn l c s = true → ∃ j, j < m ∧ c.contains j = true ∧ dstAt l j = some s := fun c hc s hs => by
      obtain ⟨j, hj, hd2⟩ := List.any_eq_true.1 hs
      rw [hc] at hj
      obtain ⟨h1, h2⟩ := List.mem_filter.1 hj
      exact ⟨j, List.mem_range.1 h1, h2, by simpa using hd2⟩
    refine hT ea XA eb XB qA qB e' w' (fun s hs => ?_) (fun s hs => ?_) (fun s h1 h2 => ?_) hS
    · obtain ⟨j, hj, hc, hds⟩ := hin ca hca s hs
      exact hA.1 j s hj (hall2 j hj) hc hds
    · obtain ⟨j, hj, hc, hds⟩ := hin cb hcb s hs
      exact hB.1 j s hj (hall2 j hj) hc hds
    · by_cases hx : ∃ j, j < m ∧ dstAt l j = some s
      · obtain ⟨j, hj, hds⟩ := hx
        obtain ⟨u, hu⟩ := hvj j hj
        have hcj : cs.contains j = false := by
          refine cf ?_ ?_
          · cases hc : ca.contains j with
            | false => rfl
            | true => exact absurd hds (dIn_not h1 hc)
          · cases hc : cb.contains j with
            | false => rfl
            | true => exact absurd hds (dIn_not h2 hc)
        rw [hqv j s u hj (hall2 j hj) hcj hds hu, F1m j s u hj hcj hds hu]
      · have hx' : ∀ j, j < m → dstAt l j ≠ some s := fun j hj hds => hx ⟨j, hj, hds⟩
        rw [hfr s hx', F2m s fun j hj _ => hx' j hj]
theorem cH {full : Array Oper} {Fin : Env → List Asr → Prop} {os : List Oper} {e : Env} {w2 : World} {i : Nat} {v : Value} {X R : List Asr} (hS : St w CC w2 (X ++ R) Base) (h : Ch ro P full n d w CC Base Fin os (upd e i v) X) :
    wpA ro P full (Ends1 fun a w2 => ∃ v X', a = E n (updo e (some i) v) d ∧ St w CC w2 (X' ++ R) Base ∧ Ch ro P full n d w CC Base Fin os (updo e (some i) v) X') [] (E n (upd e i v) d) w2 := wp_nil ⟨v, X, rfl, hS, h⟩
theorem chEnd {full : Array Oper} {Fin : Env → List Asr → Prop} {e : Env} {X : List Asr} (h : Fin e X) : Ch ro P full n d w CC Base Fin [] e X := h
theorem St.stR {w0 w w' : World} {C0 : Nat → Prop} {X1 X2 L : List Asr} (S : St w0 C0 w (X1 ++ X2) L) {i : Nat} {p : Asr} (hi : X2[i]? = some p) (k : Keep (fun b => ∃ x ∈ X1, x.fp b) w w') : p.ok w' := by
  have hp := List.mem_of_getElem? hi
  have ho := S.xs p (List.mem_append_right _ hp)
  exact p.mono _ _ ho fun b hb => k.block b (p.inb _ _ ho hb) fun ⟨x, hx, hxb⟩ => (List.pairwise_append.1 S.dx).2.2 x hx p hp b hxb hb
/-- at the begin of such a region: some of the own words are the chains' -/
theorem St.baseX {w0 w : World} {C0 : Nat → Prop} {X1 X2 L : List Asr} (S : St w0 C0 w (X1 ++ X2) L) : St w (fun b => ∃ x ∈ X1, x.fp b) w X1 (X2 ++ L) := by
  obtain ⟨p1, p2, p3⟩ := List.pairwise_append.1 S.dx
  refine ⟨Keep.refl _ _, fun x hx => S.xs x (List.mem_append_left _ hx), fun p hp => ?_, p1, fun x hx p hp b h1 h2 => ?_, fun x hx b hb => .inr ⟨x, hx, hb⟩⟩
  · rcases List.mem_append.1 hp with h | h
    · exact S.xs p (List.mem_append_right _ h)
    · exact S.ps p h
  · rcases List.mem_append.1 hp with h | h
    · exact p3 x hx p h b h1 h2
    · exact S.dp x (List.mem_append_left _ hx) p h b h1 h2
theorem St.fromBaseX {w0 w w' : World} {C0 : Nat → Prop} {X1 X2 L Xn : List Asr} (S : St w0 C0 w (X1 ++ X2) L) (S' : St w (fun b => ∃ x ∈ X1, x.fp b) w' Xn (X2 ++ L)) : St w0 C0 w' (Xn ++ X2) L := by
  obtain ⟨p1, p2, p3⟩ := List.pairwise_append.1 S.dx
  refine ⟨⟨S'.keep.os.trans S.keep.os, S'.keep.tape.trans S.keep.tape, S'.keep.output.trans S.keep.output, Nat.le_trans S.keep.size S'.keep.size, fun b hb hC => ?_⟩, fun x hx => ?_, fun p hp => S'.ps p (List.mem_append_right _ hp), ?_, fun x hx p hp => ?_, fun x hx b hb => ?_⟩
  · rw [S'.keep.block b (Nat.lt_of_lt_of_le hb S.keep.size) fun hf => ?_]
    · exact S.keep.block b hb hC
    · obtain ⟨x, hx, hxb⟩ := hf
      rcases S.own x (List.mem_append_left _ hx) b hxb with h | h
      · omega
      · exact hC h
  · rcases List.mem_append.1 hx with h | h
    · exact S'.xs x h
    · exact S'.ps x (List.mem_append_left _ h)
  · exact List.pairwise_append.2 ⟨S'.dx, p2, fun a ha b hb => S'.dp a ha b (List.mem_append_left _ hb)⟩
  · rcases List.mem_append.1 hx with h | h
    · exact S'.dp x h p (List.mem_append_right _ hp)
    · exact S.dp x (List.mem_append_right _ h) p hp
  · rcases List.mem_append.1 hx with h | h
    · rcases S'.own x h b hb with h' | ⟨y, hy, hyb⟩
      · exact .inl (Nat.le_trans S.keep.size h')
      · exact S.own y (List.mem_append_left _ hy) b hyb
    · exact S.own x (List.mem_append_right _ h) b hb
end
end Go.Fx

set_option linter.unusedSimpArgs false
set_option linter.unusedVariables false
namespace Go.Fx
open Go
/-- no word on memory: a fact that comes along -/
def pur (φ : Prop) : Asr where
  fp _ := False
  ok _ := φ
  mono _ _ h _ := h
  inb _ _ _ h := h.elim
theorem Pur.of {φ : Prop} {w : World} (h : (pur φ).ok w) : φ := h
/-! ### a number of an array within an element -/
section
variable {ro : Option Nat} {P : Program} {full : Array Oper} {Q : Exit → Act → World → Prop} {n : Nat} {d : List Deferred} {e : Env} {w : World}
variable {rest : List Oper} {ty : TypeId} {ps : String} {af : Array Edge}
end
/-! ### a map's value, or zero -/
section
variable {κ ν : Type} [DecidableEq κ] {ek : κ → Value} {ev : ν → Value}
variable {ro : Option Nat} {P : Program} {full : Array Oper} {Q : Exit → Act → World → Prop} {n : Nat} {d : List Deferred} {e : Env} {w : World}
variable {rest : List Oper} {ty : TypeId} {ps : String} {af : Array Edge}
end
/-! ### numbers of other kinds -/
section
variable {ro : Option Nat} {P : Program} {full : Array Oper} {Q : Exit → Act → World → Prop} {n : Nat} {d : List Deferred} {e : Env} {w : World}
variable {rest : List Oper} {ty : TypeId} {ps : String} {af : Array Edge} {x y : Operand} {i xt yt : Nat} {a b : Int} {k : IntKind}
end
/-! ### entries of maps -/
section
variable {κ ν : Type} [DecidableEq κ] {ek : κ → Value} {ev : ν → Value}
variable {ro : Option Nat} {P : Program} {full : Array Oper} {Q : Exit → Act → World → Prop} {n : Nat} {d : List Deferred} {e : Env} {w w0 : World} {C : Nat → Prop} {X L : List Asr}
variable {rest : List Oper} {ty : TypeId} {ps : String} {af : Array Edge}
end
end Go.Fx

set_option linter.unusedVariables false
set_option linter.unusedSimpArgs false
namespace Go.Proofs.YticodohfokgjfaaDoor
open Go Go.Fx Go.Proofs
theorem fl23_1 : fldOf Tryd.prog 23 1 = some 1 := by kernel_rfl
theorem ty3 : aggOf Tryd.prog 3 = some false := by kernel_rfl
theorem fl23_0 : fldOf Tryd.prog 23 0 = some 0 := by kernel_rfl
theorem fl92_0 : fldOf Tryd.prog 92 0 = some 0 := by kernel_rfl
theorem fl29_6 : fldOf Tryd.prog 29 6 = some 13 := by kernel_rfl
theorem ty27 : aggOf Tryd.prog 27 = some false := by kernel_rfl
theorem sc27 : slcOf Tryd.prog 27 = some (67, 3) := by kernel_rfl
theorem ty67 : aggOf Tryd.prog 67 = some true := by kernel_rfl
theorem sz67 : sizOf Tryd.prog 67 = some 3 := by kernel_rfl
theorem in67 : infoOf Tryd.prog 67 = some (some (Value.agg #[I 0, I 0, I 0]), 3, 24) := by kernel_rfl
theorem fl67_0 : fldOf Tryd.prog 67 0 = some 0 := by kernel_rfl
theorem fl67_1 : fldOf Tryd.prog 67 1 = some 1 := by kernel_rfl
theorem fl67_2 : fldOf Tryd.prog 67 2 = some 2 := by kernel_rfl
theorem fu79 : funOf Tryd.prog 79 = true := by kernel_rfl
theorem in105 : infoOf Tryd.prog 105 = some (some (Value.agg #[I 0, I 0]), 2, 16) := by kernel_rfl
theorem ty105 : aggOf Tryd.prog 105 = some true := by kernel_rfl
theorem sz105 : sizOf Tryd.prog 105 = some 2 := by kernel_rfl
theorem sc39 : slcOf Tryd.prog 39 = some (3, 1) := by kernel_rfl
theorem mixed : Tryd.prog.follows .mixedOrders = true := by kernel_rfl
theorem fu110 : funOf Tryd.prog 110 = true := by kernel_rfl
theorem eq105 : eqOk Tryd.prog 105 [.int .i64, .int .i64] := ⟨by kernel_rfl, by kernel_rfl, by kernel_rfl⟩
theorem ae105 : arrElOf Tryd.prog 105 = some (2, 3) := by kernel_rfl
theorem sz3 : sizOf Tryd.prog 3 = some 1 := by kernel_rfl
theorem fl29_3 : fldOf Tryd.prog 29 3 = some 9 := by kernel_rfl
theorem ty26 : aggOf Tryd.prog 26 = some false := by kernel_rfl
theorem sc26 : slcOf Tryd.prog 26 = some (64, 3) := by kernel_rfl
theorem fl64_1 : fldOf Tryd.prog 64 1 = some 1 := by kernel_rfl
theorem fl64_0 : fldOf Tryd.prog 64 0 = some 0 := by kernel_rfl
theorem zr3_1 : zrow (I 0) (1 * 1) = #[I 0] := by kernel_rfl
theorem in3 : infoOf Tryd.prog 3 = some (some (I 0), 1, 8) := by kernel_rfl
theorem fu111 : funOf Tryd.prog 111 = true := by kernel_rfl
theorem ty124 : aggOf Tryd.prog 124 = some false := by kernel_rfl
theorem ty108 : aggOf Tryd.prog 108 = some true := by kernel_rfl
theorem sz108 : sizOf Tryd.prog 108 = some 15 := by kernel_rfl
theorem fl108_1 : fldOf Tryd.prog 108 1 = some 2 := by kernel_rfl
theorem fl29_5 : fldOf Tryd.prog 29 5 = some 12 := by kernel_rfl
theorem ty92 : aggOf Tryd.prog 92 = some true := by kernel_rfl
theorem sz92 : sizOf Tryd.prog 92 = some 15 := by kernel_rfl
theorem fl108_0 : fldOf Tryd.prog 108 0 = some 0 := by kernel_rfl
theorem fu106 : funOf Tryd.prog 106 = true := by kernel_rfl
theorem fl92_1 : fldOf Tryd.prog 92 1 = some 14 := by kernel_rfl
theorem ty90 : aggOf Tryd.prog 90 = some false := by kernel_rfl
theorem st123 : strOf Tryd.prog 123 = some (#[I 0, I 0], #[(0, 1), (1, 1)]) := by kernel_rfl
theorem mt90 : mptOf Tryd.prog 90 = some (123, 3) := by kernel_rfl
theorem ty56 : aggOf Tryd.prog 56 = some false := by kernel_rfl
theorem fu104 : funOf Tryd.prog 104 = true := by kernel_rfl
theorem fl108_2 : fldOf Tryd.prog 108 2 = some 3 := by kernel_rfl
theorem ar106 : arrOf Tryd.prog 106 = some (6, 1) := by kernel_rfl
theorem fl108_3 : fldOf Tryd.prog 108 3 = some 9 := by kernel_rfl
theorem ty130 : aggOf Tryd.prog 130 = some false := by kernel_rfl
theorem fu105 : funOf Tryd.prog 105 = true := by kernel_rfl
theorem in56 : infoOf Tryd.prog 56 = some (some (Value.nilFunc), 1, 8) := by kernel_rfl
theorem sz56 : sizOf Tryd.prog 56 = some 1 := by kernel_rfl
theorem in130 : infoOf Tryd.prog 130 = some (some (Value.nilFunc), 1, 8) := by kernel_rfl
theorem sz130 : sizOf Tryd.prog 130 = some 1 := by kernel_rfl
theorem fl29_0 : fldOf Tryd.prog 29 0 = some 0 := by kernel_rfl
theorem ty23 : aggOf Tryd.prog 23 = some true := by kernel_rfl
theorem sz23 : sizOf Tryd.prog 23 = some 2 := by kernel_rfl
theorem fu96 : funOf Tryd.prog 96 = true := by kernel_rfl
theorem fl29_1 : fldOf Tryd.prog 29 1 = some 2 := by kernel_rfl
theorem ar24 : arrOf Tryd.prog 24 = some (2, 2) := by kernel_rfl
theorem fl29_4 : fldOf Tryd.prog 29 4 = some 10 := by kernel_rfl
theorem ba105 : bldOf Tryd.prog 105 = some (#[I 0, I 0], 1) := by kernel_rfl
theorem st108 : strOf Tryd.prog 108 = some (#[I 0, I 0, I 0, I 0, I 0, I 0, I 0, I 0, I 0, I 0, I 0, I 0, I 0, I 0, I 0], #[(0, 2), (2, 1), (3, 6), (9, 6)]) := by kernel_rfl
theorem fu97 : funOf Tryd.prog 97 = true := by kernel_rfl
theorem in108 : infoOf Tryd.prog 108 = some (some (Value.agg #[I 0, I 0, I 0, I 0, I 0, I 0, I 0, I 0, I 0, I 0, I 0, I 0, I 0, I 0, I 0]), 15, 120) := by kernel_rfl
theorem fu103 : funOf Tryd.prog 103 = true := by kernel_rfl
theorem fu102 : funOf Tryd.prog 102 = true := by kernel_rfl
theorem ae106 : arrElOf Tryd.prog 106 = some (6, 3) := by kernel_rfl
theorem fu99 : funOf Tryd.prog 99 = true := by kernel_rfl
theorem in4 : infoOf Tryd.prog 4 = some (some (B false), 1, 1) := by kernel_rfl
theorem fu78 : funOf Tryd.prog 78 = true := by kernel_rfl
theorem fu82 : funOf Tryd.prog 82 = true := by kernel_rfl
theorem sz4 : sizOf Tryd.prog 4 = some 1 := by kernel_rfl
theorem fu95 : funOf Tryd.prog 95 = true := by kernel_rfl
theorem ty4 : aggOf Tryd.prog 4 = some false := by kernel_rfl
theorem in64 : infoOf Tryd.prog 64 = some (some (Value.agg #[I 0, I 0, I 0]), 3, 24) := by kernel_rfl
theorem in29 : infoOf Tryd.prog 29 = some (some (Value.agg #[I 0, I 0, I 0, I 0, I 0, I 0, I 0, I 0, I 0, Value.slice none 0 0, I 0, I 0, I 0, Value.slice none 0 0]), 14, 144) := by kernel_rfl
theorem sz27 : sizOf Tryd.prog 27 = some 1 := by kernel_rfl
theorem ty29 : aggOf Tryd.prog 29 = some true := by kernel_rfl
theorem sz29 : sizOf Tryd.prog 29 = some 14 := by kernel_rfl
theorem fu81 : funOf Tryd.prog 81 = true := by kernel_rfl
theorem ty24 : aggOf Tryd.prog 24 = some true := by kernel_rfl
theorem sz24 : sizOf Tryd.prog 24 = some 4 := by kernel_rfl
theorem ae24 : arrElOf Tryd.prog 24 = some (2, 23) := by kernel_rfl
theorem in23 : infoOf Tryd.prog 23 = some (some (Value.agg #[I 0, I 0]), 2, 16) := by kernel_rfl
theorem fl29_2 : fldOf Tryd.prog 29 2 = some 6 := by kernel_rfl
theorem ty25 : aggOf Tryd.prog 25 = some true := by kernel_rfl
theorem sz25 : sizOf Tryd.prog 25 = some 3 := by kernel_rfl
theorem ae25 : arrElOf Tryd.prog 25 = some (3, 3) := by kernel_rfl
theorem ty64 : aggOf Tryd.prog 64 = some true := by kernel_rfl
theorem sz64 : sizOf Tryd.prog 64 = some 3 := by kernel_rfl
theorem fl64_2 : fldOf Tryd.prog 64 2 = some 2 := by kernel_rfl
theorem fu75 : funOf Tryd.prog 75 = true := by kernel_rfl
theorem fu101 : funOf Tryd.prog 101 = true := by kernel_rfl
theorem in92 : infoOf Tryd.prog 92 = some (some (Value.agg #[I 0, I 0, I 0, I 0, I 0, I 0, I 0, I 0, I 0, Value.slice none 0 0, I 0, I 0, I 0, Value.slice none 0 0, Value.map none]), 15, 152) := by kernel_rfl
theorem st92 : strOf Tryd.prog 92 = some (#[I 0, I 0, I 0, I 0, I 0, I 0, I 0, I 0, I 0, Value.slice none 0 0, I 0, I 0, I 0, Value.slice none 0 0, Value.map none], #[(0, 14), (14, 1)]) := by kernel_rfl
theorem fu93 : funOf Tryd.prog 93 = true := by kernel_rfl
theorem zr67_1 : zrow (Value.agg #[I 0, I 0, I 0]) (1 * 3) = #[I 0, I 0, I 0] := by kernel_rfl
theorem in123 : infoOf Tryd.prog 123 = some (some (Value.agg #[I 0, I 0]), 2, 16) := by kernel_rfl
theorem sz123 : sizOf Tryd.prog 123 = some 2 := by kernel_rfl
theorem ty123 : aggOf Tryd.prog 123 = some true := by kernel_rfl
theorem eq123 : eqOk Tryd.prog 123 [.int .i64, .int .i64] := ⟨by kernel_rfl, by kernel_rfl, by kernel_rfl⟩
theorem fu41 : funOf Tryd.prog 41 = true := by kernel_rfl
theorem fu71 : funOf Tryd.prog 71 = true := by kernel_rfl
theorem fu72 : funOf Tryd.prog 72 = true := by kernel_rfl
theorem fl101_0 : fldOf Tryd.prog 101 0 = some 0 := by kernel_rfl
theorem ty99 : aggOf Tryd.prog 99 = some false := by kernel_rfl
theorem st23 : strOf Tryd.prog 23 = some (#[I 0, I 0], #[(0, 1), (1, 1)]) := by kernel_rfl
theorem in101 : infoOf Tryd.prog 101 = some (some (Value.agg #[Value.nilFunc]), 1, 8) := by kernel_rfl
theorem st101 : strOf Tryd.prog 101 = some (#[Value.nilFunc], #[(0, 1)]) := by kernel_rfl
theorem sz101 : sizOf Tryd.prog 101 = some 1 := by kernel_rfl
theorem ty101 : aggOf Tryd.prog 101 = some true := by kernel_rfl
theorem fu74 : funOf Tryd.prog 74 = true := by kernel_rfl
theorem fu77 : funOf Tryd.prog 77 = true := by kernel_rfl
theorem fu76 : funOf Tryd.prog 76 = true := by kernel_rfl
theorem ar105 : arrOf Tryd.prog 105 = some (2, 1) := by kernel_rfl
theorem fu80 : funOf Tryd.prog 80 = true := by kernel_rfl
theorem fu34 : funOf Tryd.prog 34 = true := by kernel_rfl
theorem fu68 : funOf Tryd.prog 68 = true := by kernel_rfl
theorem ar25 : arrOf Tryd.prog 25 = some (3, 1) := by kernel_rfl
theorem fu33 : funOf Tryd.prog 33 = true := by kernel_rfl
theorem ar30 : arrOf Tryd.prog 30 = some (2, 1) := by kernel_rfl
theorem ty39 : aggOf Tryd.prog 39 = some false := by kernel_rfl
theorem sz39 : sizOf Tryd.prog 39 = some 1 := by kernel_rfl
theorem ba30 : bldOf Tryd.prog 30 = some (#[I 0, I 0], 1) := by kernel_rfl
theorem fu44 : funOf Tryd.prog 44 = true := by kernel_rfl
theorem fu38 : funOf Tryd.prog 38 = true := by kernel_rfl
theorem fu26 : funOf Tryd.prog 26 = true := by kernel_rfl
theorem fu28 : funOf Tryd.prog 28 = true := by kernel_rfl
theorem eq23 : eqOk Tryd.prog 23 [.int .i64, .int .i64] := ⟨by kernel_rfl, by kernel_rfl, by kernel_rfl⟩
theorem fu35 : funOf Tryd.prog 35 = true := by kernel_rfl
theorem fu29 : funOf Tryd.prog 29 = true := by kernel_rfl
theorem ty94 : aggOf Tryd.prog 94 = some false := by kernel_rfl
theorem fu73 : funOf Tryd.prog 73 = true := by kernel_rfl
theorem in94 : infoOf Tryd.prog 94 = some (some (Value.nilFunc), 1, 8) := by kernel_rfl
theorem sz94 : sizOf Tryd.prog 94 = some 1 := by kernel_rfl
theorem ty110 : aggOf Tryd.prog 110 = some true := by kernel_rfl
theorem sz110 : sizOf Tryd.prog 110 = some 2 := by kernel_rfl
theorem ae110 : arrElOf Tryd.prog 110 = some (2, 109) := by kernel_rfl
theorem sz109 : sizOf Tryd.prog 109 = some 1 := by kernel_rfl
theorem ty109 : aggOf Tryd.prog 109 = some false := by kernel_rfl
theorem fu128 : funOf Tryd.prog 128 = true := by kernel_rfl
theorem fu129 : funOf Tryd.prog 129 = true := by kernel_rfl
theorem ft23_0 : fldTOf Tryd.prog 23 0 = some (0, 3) := by kernel_rfl
theorem ba24 : bldOf Tryd.prog 24 = some (#[I 0, I 0, I 0, I 0], 2) := by kernel_rfl
theorem ba25 : bldOf Tryd.prog 25 = some (#[I 0, I 0, I 0], 1) := by kernel_rfl
theorem st64 : strOf Tryd.prog 64 = some (#[I 0, I 0, I 0], #[(0, 1), (1, 1), (2, 1)]) := by kernel_rfl
theorem zr64_3 : zrow (Value.agg #[I 0, I 0, I 0]) (3 * 3) = #[I 0, I 0, I 0, I 0, I 0, I 0, I 0, I 0, I 0] := by kernel_rfl
theorem st29 : strOf Tryd.prog 29 = some (#[I 0, I 0, I 0, I 0, I 0, I 0, I 0, I 0, I 0, Value.slice none 0 0, I 0, I 0, I 0, Value.slice none 0 0], #[(0, 2), (2, 4), (6, 3), (9, 1), (10, 2), (12, 1), (13, 1)]) := by kernel_rfl
theorem fu51 : funOf Tryd.prog 51 = true := by kernel_rfl
theorem st67 : strOf Tryd.prog 67 = some (#[I 0, I 0, I 0], #[(0, 1), (1, 1), (2, 1)]) := by kernel_rfl
theorem zr67_2 : zrow (Value.agg #[I 0, I 0, I 0]) (2 * 3) = #[I 0, I 0, I 0, I 0, I 0, I 0] := by kernel_rfl
theorem fu50 : funOf Tryd.prog 50 = true := by kernel_rfl
theorem fu53 : funOf Tryd.prog 53 = true := by kernel_rfl
theorem fu30 : funOf Tryd.prog 30 = true := by kernel_rfl
theorem fu37 : funOf Tryd.prog 37 = true := by kernel_rfl
theorem fu31 : funOf Tryd.prog 31 = true := by kernel_rfl
theorem fu45 : funOf Tryd.prog 45 = true := by kernel_rfl
theorem fu52 : funOf Tryd.prog 52 = true := by kernel_rfl
theorem fu27 : funOf Tryd.prog 27 = true := by kernel_rfl
theorem fu43 : funOf Tryd.prog 43 = true := by kernel_rfl
theorem fu19 : funOf Tryd.prog 19 = true := by kernel_rfl
theorem fu47 : funOf Tryd.prog 47 = true := by kernel_rfl
theorem fu25 : funOf Tryd.prog 25 = true := by kernel_rfl
theorem in41 : infoOf Tryd.prog 41 = some (some (Value.agg #[I 0, I 0, Value.slice none 0 0, Value.slice none 0 0]), 4, 64) := by kernel_rfl
theorem fu70 : funOf Tryd.prog 70 = true := by kernel_rfl
theorem fu69 : funOf Tryd.prog 69 = true := by kernel_rfl
theorem st41 : strOf Tryd.prog 41 = some (#[I 0, I 0, Value.slice none 0 0, Value.slice none 0 0], #[(0, 2), (2, 1), (3, 1)]) := by kernel_rfl
theorem sz41 : sizOf Tryd.prog 41 = some 4 := by kernel_rfl
theorem fl41_0 : fldOf Tryd.prog 41 0 = some 0 := by kernel_rfl
theorem fl41_1 : fldOf Tryd.prog 41 1 = some 2 := by kernel_rfl
theorem fl41_2 : fldOf Tryd.prog 41 2 = some 3 := by kernel_rfl
theorem ty41 : aggOf Tryd.prog 41 = some true := by kernel_rfl
theorem fu22 : funOf Tryd.prog 22 = true := by kernel_rfl
theorem fu23 : funOf Tryd.prog 23 = true := by kernel_rfl
theorem fu24 : funOf Tryd.prog 24 = true := by kernel_rfl
theorem fu32 : funOf Tryd.prog 32 = true := by kernel_rfl
theorem fu36 : funOf Tryd.prog 36 = true := by kernel_rfl
end Go.Proofs.YticodohfokgjfaaDoor

/- Part of a logic of my own for walks: rules by which a proof steps through code, proved once. -/
import Derived.Test.YtplpalmabgjibaaDoorFxChain
set_option linter.unusedSimpArgs false
set_option linter.unusedVariables false
namespace Go.Fx
open Go
/-! ### regions whose order is open: what holds of each set of operations that have been -/
section
variable {ro : Option Nat} {P : Program} {n : Nat} {d : List Deferred} {w : World} {Q : Exit → Act → World → Prop}
/-- an operation ends here, and nowhere else -/
def Ends1 (K : Act → World → Prop) : Exit → Act → World → Prop
  | .normal, a, w' => K a w'
  | _, _, _ => False
/-- the tail of a region, one behind the other -/
theorem any_tail {l : List Oper} {m : Nat} {fl : Option Nat} (hok : okDraw l m fl = true) (hnf : fl = none) : ∀ (fuel k : Nat) (listed : Array Bool) (a : Act) (w' : World), m ≤ k → k ≤ l.length → fuel = left listed → listed.size = l.length → (∀ i, i < l.length → (listed.getD i false = true ↔ i < k)) →
    wpA ro P l.toArray Q (l.drop k) a w' → wpAnyIn (Fr ro) 0 P .any l.toArray Q fuel listed a w' := by
  obtain ⟨hback, hanc, hml, hdst, hfl, hanc2⟩ := okDraw_spec hok
  subst hnf
  intro fuel
  induction fuel with
  | zero =>
    intro k listed a w' hmk hk hf hsz hl h
    have hkl : k = l.length := by
      rcases Nat.eq_or_lt_of_le hk with h | h
      · exact h
      · have := (hl k h).1 (left_zero hf.symm k (by omega)); omega
    subst hkl
    refine ⟨?_, by simpa [wpA] using h⟩
    refine List.eq_nil_iff_forall_not_mem.2 fun i hi => ?_
    obtain ⟨h1, o, h2, _⟩ := mem_ready.1 hi
    have hi' : i < l.length := by
      obtain ⟨hh, _⟩ := Array.getElem?_eq_some_iff.1 h2
      simpa using hh
    have := (hl i hi').2 hi'
    simp [Array.getD, hsz, hi'] at this h1
    rw [this] at h1; cases h1
  | succ fuel ih =>
    intro k listed a w' hmk hk hf hsz hl h
    have hkl : k < l.length := by
      obtain ⟨i, h1, h2⟩ := left_pos (listed := listed) (by omega)
      have := hl i (by omega)
      rcases Nat.lt_or_ge i k with h | h
      · rw [this.2 h] at h2; cases h2
      · omega
    refine ⟨fun hnil => ?_, fun i hi => ?_⟩
    · exfalso
      have : k ∈ Region.ready .any l.toArray listed := by
        refine mem_ready.2 ⟨?_, l[k], by simp [hkl], fun x hx hb => ?_⟩
        · have : ¬ listed.getD k false = true := fun h => by have := (hl k hkl).1 h; omega
          simp [Array.getD, hsz, hkl] at this ⊢
          exact this
        · exact (hl x.on (by have := hback k l[k] (List.getElem?_eq_getElem hkl) x hx hb; omega)).2 (hback k l[k] (List.getElem?_eq_getElem hkl) x hx hb)
      rw [hnil] at this; cases this
    · obtain ⟨h1, o, h2, h3⟩ := mem_ready.1 hi
      have hi' : i < l.length := by
        obtain ⟨hh, _⟩ := Array.getElem?_eq_some_iff.1 h2
        simpa using hh
      have hnk : ¬ i < k := fun hlt => by
        have := (hl i hi').2 hlt
        simp [Array.getD, hsz, hi'] at this h1
        rw [this] at h1; cases h1
      have hik : i = k := by
        rcases Nat.eq_or_lt_of_le (Nat.le_of_not_lt hnk) with h | h
        · exact h.symm
        · exfalso
          let S : Nat → Prop := fun j => j = i ∨ listed.getD j false = true
          have hS := hanc S (fun j oj hj hSj x hx => by
            have hxo : ∃ y ∈ oj.after, Region.binds .any y = true ∧ y.on = x := by
              simp only [edges, List.mem_map, List.mem_filter] at hx
              obtain ⟨y, ⟨hy1, hy2⟩, rfl⟩ := hx
              exact ⟨y, Array.mem_def.2 hy1, hy2, rfl⟩
            obtain ⟨y, hy, hb, rfl⟩ := hxo
            rcases hSj with rfl | hSj
            · have : oj = o := by
                have h2' : l[j]? = some o := by simpa using h2
                rw [hj] at h2'; exact Option.some.inj h2'
              subst this
              exact .inr (h3 y hy hb)
            · have hjl : j < l.length := (List.getElem?_eq_some_iff.1 hj).1
              have := hback j oj hj y hy hb
              exact .inr ((hl y.on (by omega)).2 (by have := (hl j hjl).1 hSj; omega))) i (by omega) hi' (.inl rfl) k h
          rcases hS.resolve_left (fun h => by omega) with h4 | h4
          · omega
          · have := (hl k hkl).1 h4; omega
      subst hik
      have hd : l.drop i = o :: l.drop (i + 1) := by
        have h2' : l[i]? = some o := by simpa using h2
        rw [List.drop_eq_getElem_cons hi']
        rw [List.getElem?_eq_getElem hi'] at h2'
        rw [Option.some.inj h2']
      rw [hd] at h
      refine wpA_head h2 (fun a w h => ?_) h
      refine ih (i + 1) _ a w (by omega) (by omega) (by have := left_set (by omega) h1; omega) (by simpa using hsz) (fun j hj => ?_) h
      by_cases hji : j = i
      · subst hji
        have : (listed.setIfInBounds j true).getD j false = true := by simp [Array.getD, hsz, hj]
        simp [this]
      · have h6 := hl j hj
        have h5 : (listed.setIfInBounds i true).getD j false = listed.getD j false := getD_set_ne false (fun h => hji h.symm)
        rw [h5, h6]; omega
/-- **a region whose order is open**, by what holds of each set of operations of its head that have been -/
theorem reg_inv {e : Env} {l : List Oper} {id : Nat} (hm : P.follows .mixedOrders = true) (m : Nat) (hok : okDraw l m none = true) (Inv : (Nat → Bool) → Env → World → Prop)
    (h0 : ∀ w1, Keep0 w w1 → Inv (fun _ => false) e w1)
    (hstep : ∀ (S : Nat → Bool) (i : Nat) (o : Oper) (e' : Env) (w' : World), l[i]? = some o → i < m → S i = false → (∀ j, ((anc l).getD i []).contains j = true → S j = true) → (∀ j, S j = true → j < m) →
      (∀ j k, S j = true → ((anc l).getD j []).contains k = true → S k = true) → Inv S e' w' → wpA ro P l.toArray (Ends1 fun a w2 => ∃ e2, a = E n e2 d ∧ Inv (fun j => S j || j == i) e2 w2) [o] (E n e' d) w')
    (hend : ∀ (S : Nat → Bool) (e' : Env) (w' : World), (∀ j, j < m → S j = true) → Inv S e' w' → wpA ro P l.toArray Q (l.drop m) (E n e' d) w') :
    (Code.region id l.toArray true).wpIn (Fr ro) 0 P Q (E n e d) w := by
  obtain ⟨hback, hanc, hml, hdst, hfl, hanc2⟩ := okDraw_spec hok
  refine wpIn_region_any hm ?_
  have head : ∀ (fuel : Nat) (listed : Array Bool) (e' : Env) (w' : World), fuel = left listed → listed.size = l.length → (∀ i, listed.getD i false = true → i < m) →
      (∀ i o, l[i]? = some o → listed.getD i false = true → ∀ x ∈ o.after, Region.binds .any x = true → listed.getD x.on false = true) → Inv (fun i => listed.getD i false) e' w' →
      wpAnyIn (Fr ro) 0 P .any l.toArray Q fuel listed (E n e' d) w' := by
    intro fuel
    induction fuel with
    | zero =>
      intro listed e' w' hf hsz hlm _ hI
      have hall := left_zero hf.symm
      have hmm : m = l.length := by
        rcases Nat.eq_or_lt_of_le hml with h | h
        · exact h
        · have := hlm m (hall m (by omega)); omega
      refine any_tail hok rfl 0 m listed _ w' (Nat.le_refl _) hml hf hsz (fun i hi => ⟨fun h => hlm i h, fun _ => hall i (by omega)⟩) (hend _ e' w' (fun j hj => hall j (by omega)) hI)
    | succ fuel ih =>
      intro listed e' w' hf hsz hlm hcl hI
      by_cases hfull : ∀ j, j < m → listed.getD j false = true
      · exact any_tail hok rfl (fuel + 1) m listed _ w' (Nat.le_refl _) hml hf hsz (fun i hi => ⟨fun h => hlm i h, fun h => hfull i h⟩) (hend _ e' w' hfull hI)
      refine ⟨fun hnil => ?_, fun i hi => ?_⟩
      · exfalso
        obtain ⟨i, h1, h2⟩ := left_pos (listed := listed) (by omega)
        induction i using Nat.strongRecOn with
        | _ i ihi =>
          by_cases hh : ∃ j, j < i ∧ listed.getD j false = false
          · obtain ⟨j, hj, hj2⟩ := hh
            exact ihi j hj (by omega) hj2
          · have hil : i < l.length := by omega
            have : i ∈ Region.ready .any l.toArray listed := by
              refine mem_ready.2 ⟨?_, l[i], by simp [hil], fun x hx hb => ?_⟩
              · simp [Array.getD, h1] at h2 ⊢
                exact h2
              · have hxi := hback i l[i] (List.getElem?_eq_getElem hil) x hx hb
                cases hc : listed.getD x.on false with
                | true => rfl
                | false => exact absurd ⟨x.on, hxi, hc⟩ hh
            rw [hnil] at this; cases this
      · obtain ⟨h1, o, h2, h3⟩ := mem_ready.1 hi
        have h2' : l[i]? = some o := by simpa using h2
        have hi' : i < l.length := (List.getElem?_eq_some_iff.1 h2').1
        have h1f : listed.getD i false = false := by
          cases hc : listed.getD i false with
          | false => rfl
          | true =>
            simp [Array.getD, hsz, hi'] at hc h1
            rw [hc] at h1; cases h1
        have hedge : ∀ j oj, l[j]? = some oj → listed.getD j false = true → ∀ x ∈ edges oj, listed.getD x false = true := fun j oj hj hjl x hx => by
          simp only [edges, List.mem_map, List.mem_filter] at hx
          obtain ⟨y, ⟨hy1, hy2⟩, rfl⟩ := hx
          exact hcl j oj hj hjl y (Array.mem_def.2 hy1) hy2
        have hclosed : ∀ j k, listed.getD j false = true → ((anc l).getD j []).contains k = true → listed.getD k false = true := fun j k hj hk => by
          have hjl : j < l.length := by have := hlm j hj; omega
          exact (hanc2 (fun x => listed.getD x false = true) (fun x ox hx hSx y hy => hedge x ox hx hSx y hy) j k hjl hj hk).2
        have hwait : ∀ j, ((anc l).getD i []).contains j = true → listed.getD j false = true := fun j hj => by
          have hS := hanc2 (fun x => x = i ∨ listed.getD x false = true) (fun x ox hx hSx y hy => by
            rcases hSx with rfl | hSx
            · have : ox = o := by rw [hx] at h2'; exact Option.some.inj h2'
              subst this
              simp only [edges, List.mem_map, List.mem_filter] at hy
              obtain ⟨z, ⟨hz1, hz2⟩, rfl⟩ := hy
              exact .inr (h3 z (Array.mem_def.2 hz1) hz2)
            · exact .inr (hedge x ox hx hSx y hy)) i j hi' (.inl rfl) hj
          rcases hS.2 with h | h
          · have := hS.1; omega
          · exact h
        have him : i < m := by
          rcases Nat.lt_or_ge i m with h | h
          · exact h
          · exfalso
            refine hfull fun j hj => ?_
            let S : Nat → Prop := fun x => x = i ∨ listed.getD x false = true
            have hS := hanc S (fun x ox hx hSx y hy => by
              rcases hSx with rfl | hSx
              · have : ox = o := by rw [hx] at h2'; exact Option.some.inj h2'
                subst this
                simp only [edges, List.mem_map, List.mem_filter] at hy
                obtain ⟨z, ⟨hz1, hz2⟩, rfl⟩ := hy
                exact .inr (h3 z (Array.mem_def.2 hz1) hz2)
              · exact .inr (hedge x ox hx hSx y hy)) i h hi' (.inl rfl) j (by omega)
            rcases hS.resolve_left (fun h => by cases h.2) with h4 | h4
            · omega
            · exact h4
        refine wpA_one h2 (fun a w2 hd => ?_) (fun ex a w2 hne hd => ?_) (hstep _ i o e' w' h2' him h1f hwait hlm hclosed hI)
        · obtain ⟨e2, rfl, hI2⟩ := hd
          refine ih _ _ _ (by have := left_set (by omega) h1; omega) (by simpa using hsz) (fun j hjl => ?_) (fun j oj hj hjl x hx hb => ?_) ?_
          · by_cases hji : j = i
            · subst hji; exact him
            · rw [getD_set_ne false (fun h => hji h.symm)] at hjl
              exact hlm j hjl
          · by_cases hji : j = i
            · subst hji
              have : oj = o := by rw [hj] at h2'; exact Option.some.inj h2'
              subst this
              exact getD_set_true (h3 x hx hb)
            · rw [getD_set_ne false (fun h => hji h.symm)] at hjl
              exact getD_set_true (hcl j oj hj hjl x hx hb)
          · have : (fun j => (listed.setIfInBounds i true).getD j false) = fun j => listed.getD j false || j == i := by
              funext j
              by_cases hji : j = i
              · subst hji
                have : (listed.setIfInBounds j true).getD j false = true := by simp [Array.getD, hsz, hi']
                rw [this]; simp
              · rw [getD_set_ne false (fun h => hji h.symm), show (j == i) = false by simpa using hji, Bool.or_false]
            rw [this]; exact hI2
        · cases ex with
          | normal => exact absurd rfl hne
          | _ => exact hd.elim
  refine head _ _ _ _ ?_ (by simp) (fun i h => ?_) (fun i o hi h => ?_) ?_
  · simp [left]
  · simp [Array.getD] at h
  · simp [Array.getD] at h
  · have : (fun i => (Array.replicate l.toArray.size false).getD i false) = fun _ => false := by
      funext i
      simp [Array.getD]
    rw [this]
    exact h0 _ ⟨rfl, rfl, rfl, Nat.le_refl _, fun _ _ _ => rfl⟩
def EndV (n : Nat) (d : List Deferred) (e : Env) (dst : Option Nat) (Ψ : Value → World → Prop) : Exit → Act → World → Prop := Ends1 fun a w2 => ∃ v, a = E n (updo e dst v) d ∧ Ψ v w2
theorem endv_put {e e' : Env} {full : Array Oper} {dst : Option Nat} {Ψ : Value → World → Prop} {v' : Value} {w' : World} (h : wpA ro P full (EndV n d e dst Ψ) [] ((E n e d).put dst v') w') : wpA ro P full (EndV n d e' dst Ψ) [] ((E n e' d).put dst v') w' := by
  unfold wpA at h ⊢
  rw [E_put] at h ⊢
  obtain ⟨v, hu, hv⟩ := h
  refine ⟨v, E_ext fun j hj => ?_, hv⟩
  cases dst with
  | none => rfl
  | some i =>
    simp only [updo, upd]
    by_cases hji : j = i
    · subst hji
      have h1 := congrArg (fun a : Act => a.tmps[j]?) hu
      simp [E, hj, updo, upd] at h1
      simp [h1]
    · simp [nbeq hji]
theorem letsOut_endv {e : Env} {dst : Option Nat} {Ψ : Value → World → Prop} (h : LetsOut (EndV n d e dst Ψ)) : False := by
  obtain ⟨a, w, h⟩ := h
  exact h
theorem wp1_congrV {e e' : Env} {full : Array Oper} {o : Oper} {Ψ : Value → World → Prop} (hp : plainOp o = true) (ha : ∀ s ∈ reads full o, e' s = e s) (h : wpA ro P full (EndV n d e o.dst Ψ) [o] (E n e d) w) : wpA ro P full (EndV n d e' o.dst Ψ) [o] (E n e' d) w := by
  have hd : ∀ c, o.op ≠ .defer c := fun c hc => by simp [plainOp, hc] at hp
  have hs : ∀ cs b, o.op ≠ .select cs b := fun cs b hc => by simp [plainOp, hc] at hp
  unfold wpA at h ⊢
  rw [wanted_congr (d := d) (n := n) ha]
  split at h
  · rename_i hw
    rw [if_pos hw]
    obtain ⟨_, h⟩ := h
    refine ⟨fun _ _ => trivial, ?_⟩
    rw [Oper.semAt_eq _ _ _ hd, E_eval] at h ⊢
    rw [execOp_congr o hs (evn_congr ha)]
    have fin : ∀ v' w', wpA ro P full (EndV n d e o.dst Ψ) [] ((E n e d).put o.dst v') w' → wpA ro P full (EndV n d e' o.dst Ψ) [] ((E n e' d).put o.dst v') w' := fun _ _ h => endv_put h
    revert h
    generalize (execOp (evn n e) o).run P w = r
    intro h
    unfold Oper.uponIn at h ⊢
    split at h
    · exact fin _ _ h
    · exact fin _ _ h
    · exfalso
      unfold wpA at h
      obtain ⟨u, hu, _⟩ := h
      have := congrArg Act.defers hu
      cases hdst : o.dst <;> simp [hdst, Act.put, E] at this
    · refine ⟨h.1, h.2.mono fun en w' he => ?_⟩
      cases en with
      | returned v => exact fin _ _ he
      | panicked c => exact he.elim
      | outgrown => exact (letsOut_endv he).elim
    · exact ⟨h.1, h.2.mono fun v w' he => fin _ _ he⟩
    · refine ⟨h.1, h.2.mono fun en w' he => ?_⟩
      cases en with
      | returned v => exact fin _ _ he
      | panicked c => exact he.elim
      | outgrown => exact (letsOut_endv he).elim
    · exact h.elim
    · exact h.elim
  · rename_i hw
    rw [if_neg hw]
    exact endv_put h
/-! ### some operations of the head are a chain that works on memory which the region makes, or on blocks C -/
def DSd (ro : Option Nat) (P : Program) (full : Array Oper) (n : Nat) (d : List Deferred) (C : Nat → Prop) (w : World) (cs : List Nat) : Nat → List Oper → Env → (Env → Prop) → Prop
  | _, [], e, K => K e
  | i, o :: os, e, K => bif cs.contains i then DSd ro P full n d C w cs (i + 1) os e K else ∃ v, (∀ w', Keep C w w' → wpA ro P full (Done n d e w' o.dst (rv v)) [o] (E n e d) w') ∧ DSd ro P full n d C w cs (i + 1) os (updo e o.dst v) K
variable {C : Nat → Prop}
theorem lS {full : Array Oper} {cs : List Nat} {i : Nat} {o : Oper} {os : List Oper} {e : Env} {K : Env → Prop} {v : Value} (hc : cs.contains i = false) (h : ∀ w', Keep C w w' → wpA ro P full (Done n d e w' o.dst (rv v)) [o] (E n e d) w') (hk : DSd ro P full n d C w cs (i + 1) os (updo e o.dst v) K) : DSd ro P full n d C w cs i (o :: os) e K := by
  unfold DSd; rw [hc]; exact ⟨v, h, hk⟩
theorem lC {full : Array Oper} {cs : List Nat} {i : Nat} {o : Oper} {os : List Oper} {e : Env} {K : Env → Prop} (hc : cs.contains i = true) (hk : DSd ro P full n d C w cs (i + 1) os e K) : DSd ro P full n d C w cs i (o :: os) e K := by
  unfold DSd; rw [hc]; exact hk
theorem lB {full : Array Oper} {cs : List Nat} {j : Nat} {os : List Oper} {e : Env} {i : Nat} {r v : Bool} {K : Env → Prop} (h : r = v) (k : DSd ro P full n d C w cs j os (updo e (some i) (B v)) K) : DSd ro P full n d C w cs j os (updo e (some i) (.bool r)) K := by
  subst h; exact k
theorem dsd_vals {full : Array Oper} {cs : List Nat} {K : Env → Prop} : ∀ {os : List Oper} {k : Nat} {e : Env}, DSd ro P full n d C w cs k os e K → ∃ vs : List Value, vs.length = os.length ∧ (∀ i o v, os[i]? = some o → vs[i]? = some v → cs.contains (k + i) = false → ∀ w', Keep C w w' → wpA ro P full (Done n d (seqE e (((msk cs k os).zip vs).take i)) w' o.dst (rv v)) [o] (E n (seqE e (((msk cs k os).zip vs).take i)) d) w') ∧ K (seqE e ((msk cs k os).zip vs))
  | [], k, e, h => ⟨[], rfl, fun i o v h1 => by simp at h1, h⟩
  | o :: os, k, e, h => by
    unfold DSd at h
    cases hc : cs.contains k with
    | true =>
      rw [hc] at h
      obtain ⟨vs, hl, hh, hK⟩ := dsd_vals h
      refine ⟨undef :: vs, by simp [hl], fun i o' v' ho hv hci => ?_, by rw [msk_t hc]; exact hK⟩
      cases i with
      | zero => rw [Nat.add_zero, hc] at hci; cases hci
      | succ i =>
        have := hh i o' v' (by simpa using ho) (by simpa using hv) (by rw [show k + 1 + i = k + (i + 1) by omega]; exact hci)
        rw [msk_t hc]; exact this
    | false =>
      rw [hc] at h
      obtain ⟨v, h1, h2⟩ := h
      obtain ⟨vs, hl, hh, hK⟩ := dsd_vals h2
      refine ⟨v :: vs, by simp [hl], fun i o' v' ho hv hci => ?_, by rw [msk_f hc]; exact hK⟩
      cases i with
      | zero =>
        simp at ho hv
        subst ho hv
        exact h1
      | succ i =>
        have := hh i o' v' (by simpa using ho) (by simpa using hv) (by rw [show k + 1 + i = k + (i + 1) by omega]; exact hci)
        rw [msk_f hc]; exact this
theorem Keep.any {C : Nat → Prop} {w w' : World} (k : Keep0 w w') : Keep C w w' := k.weak fun _ _ h => h.elim
/-- the rest of the chain, and the tail; what the chain changes it has made itself since the region's begin -/
def CK (ro : Option Nat) (P : Program) (full : Array Oper) (Q : Exit → Act → World → Prop) (n : Nat) (d : List Deferred) (C : Nat → Prop) (w : World) (tail : List Oper) : List Oper → Env → World → Prop
  | [], ec, w' => ∀ w3, Keep0 w' w3 → wpA ro P full Q tail (E n ec d) w3
  | o :: os, ec, w' => ∀ w3, Keep0 w' w3 → wpA ro P full (Ends1 fun a w2 => ∃ v, a = E n (updo ec o.dst v) d ∧ Keep C w w2 ∧ CK ro P full Q n d C w tail os (updo ec o.dst v) w2) [o] (E n ec d) w3
theorem CK.stays {full : Array Oper} {tail os : List Oper} {ec : Env} {w' w2 : World} (h : CK ro P full Q n d C w tail os ec w') (k : Keep0 w' w2) : CK ro P full Q n d C w tail os ec w2 := by
  cases os with
  | nil => exact fun w3 k3 => h w3 (k.trans k3)
  | cons o os => exact fun w3 k3 => h w3 (k.trans k3)
def okK (l : List Oper) (m : Nat) (cs : List Nat) : Bool :=
  okDraw l m none && ((List.range m).all fun i => match l[i]? with
    | none => true
    | some o => plainOp o && (reads l.toArray o).all fun s => (List.range m).all fun j => dstAt l j != some s || (((anc l).getD i []).contains j && (cs.contains i || !cs.contains j))) &&
  ((List.range m).all fun i => !cs.contains i || (List.range i).all fun j => !cs.contains j || ((anc l).getD i []).contains j)
theorem okK_spec {l : List Oper} {m : Nat} {cs : List Nat} (h : okK l m cs = true) : okDraw l m none = true ∧ (∀ i o, i < m → l[i]? = some o → plainOp o = true ∧ ∀ s ∈ reads l.toArray o, ∀ j, j < m → dstAt l j = some s → ((anc l).getD i []).contains j = true ∧ (cs.contains i = false → cs.contains j = false)) ∧
    (∀ i, i < m → cs.contains i = true → ∀ j, j < i → cs.contains j = true → ((anc l).getD i []).contains j = true) := by
  simp only [okK, Bool.and_eq_true] at h
  obtain ⟨⟨h1, h2⟩, h3⟩ := h
  refine ⟨h1, fun i o hi ho => ?_, fun i hi hci j hji hcj => ?_⟩
  · have := List.all_eq_true.1 h2 i (List.mem_range.2 hi)
    rw [ho] at this
    simp only [Bool.and_eq_true] at this
    refine ⟨this.1, fun s hs j hj hd => ?_⟩
    have := List.all_eq_true.1 (List.all_eq_true.1 this.2 s hs) j (List.mem_range.2 hj)
    rw [hd] at this
    simp only [bne_self_eq_false, Bool.false_or, Bool.and_eq_true, Bool.or_eq_true, Bool.not_eq_true'] at this
    exact ⟨this.1, fun hc => this.2.resolve_left (by rw [hc]; simp)⟩
  · have := List.all_eq_true.1 h3 i (List.mem_range.2 hi)
    rw [hci] at this
    simp only [Bool.not_true, Bool.false_or] at this
    have := List.all_eq_true.1 this j (List.mem_range.2 hji)
    rw [hcj] at this
    simpa using this
/-- those of the chain that have not been -/
def rem (l : List Oper) (m : Nat) (cs : List Nat) (S : Nat → Bool) : List Oper := ((List.range m).filter fun i => cs.contains i && !S i).filterMap (l[·]?)
theorem rem_cons {l : List Oper} {m i : Nat} {cs : List Nat} {S : Nat → Bool} {o : Oper} (hi : i < m) (ho : l[i]? = some o) (hc : cs.contains i = true) (hS : S i = false) (hp : ∀ j, j < i → cs.contains j = true → S j = true) : rem l m cs S = o :: rem l m cs (fun j => S j || j == i) := by
  have hr : List.range m = List.range i ++ i :: (List.range (m - i - 1)).map (· + (i + 1)) := by
    have h1 : m = i + (1 + (m - i - 1)) := by omega
    conv => lhs; rw [h1, List.range_add, List.range_add]
    simp [List.map_map, Function.comp_def, Nat.add_assoc, Nat.add_comm, Nat.add_left_comm]
  unfold rem
  rw [hr, List.filter_append, List.filter_append, List.filter_cons, List.filter_cons]
  have z1 : (List.range i).filter (fun j => cs.contains j && !S j) = [] := List.filter_eq_nil_iff.2 fun j hj => by
    have hj := List.mem_range.1 hj
    cases hcj : cs.contains j with
    | false => simp
    | true => simp [hp j hj hcj]
  have z2 : (List.range i).filter (fun j => cs.contains j && !(S j || j == i)) = [] := List.filter_eq_nil_iff.2 fun j hj => by
    have hj := List.mem_range.1 hj
    cases hcj : cs.contains j with
    | false => simp
    | true => simp [hp j hj hcj]
  have z3 : ((List.range (m - i - 1)).map (· + (i + 1))).filter (fun j => cs.contains j && !(S j || j == i)) = ((List.range (m - i - 1)).map (· + (i + 1))).filter (fun j => cs.contains j && !S j) := List.filter_congr fun j hj => by
    obtain ⟨x, _, rfl⟩ := List.mem_map.1 hj
    rw [show (x + (i + 1) == i) = false by simp; omega, Bool.or_false]
  have g1 : (cs.contains i && !S i) = true := by rw [hc, hS]; rfl
  have g2 : (cs.contains i && !(S i || i == i)) = false := by simp
  rw [z1, z2, z3, if_pos g1, if_neg (by rw [g2]; simp), List.nil_append, List.nil_append, List.filterMap_cons, ho]
theorem rem_same {l : List Oper} {m i : Nat} {cs : List Nat} {S : Nat → Bool} (hc : cs.contains i = false) : rem l m cs (fun j => S j || j == i) = rem l m cs S := by
  unfold rem
  congr 1
  refine List.filter_congr fun j _ => ?_
  by_cases hj : j = i
  · subst hj; rw [hc]; rfl
  · show (cs.contains j && !(S j || j == i)) = (cs.contains j && !S j)
    rw [show (j == i) = false by simpa using hj, Bool.or_false]
/-- **a region whose order is open, in whose head a chain works on memory that the region makes** -/
theorem reg_k {e : Env} {l : List Oper} {id : Nat} (hm : P.follows .mixedOrders = true) (m : Nat) (cs : List Nat) (hok : okK l m cs = true) (hcs : cs = (List.range m).filter (cs.contains ·)) (h : DSd ro P l.toArray n d C w cs 0 (l.take m) e fun ek => ∀ w', Keep0 w w' → CK ro P l.toArray Q n d C w (l.drop m) (cs.filterMap (l[·]?)) ek w') :
    (Code.region id l.toArray true).wpIn (Fr ro) 0 P Q (E n e d) w := by
  obtain ⟨vs, hl, hh, hK⟩ := dsd_vals h
  obtain ⟨hd, hq, hcc⟩ := okK_spec hok
  obtain ⟨_, _, hml, hdst, _, _⟩ := okDraw_spec hd
  have hlm : (l.take m).length = m := by simp; omega
  have hlv : vs.length = m := by omega
  generalize hek : seqE e ((msk cs 0 (l.take m)).zip vs) = ek at hK
  have hrem0 : cs.filterMap (l[·]?) = rem l m cs (fun _ => false) := by
    unfold rem
    conv => lhs; rw [hcs]
    congr 2
    funext i
    simp
  rw [hrem0] at hK
  have hps : ∀ k i p, (((msk cs 0 (l.take m)).zip vs).take k)[i]? = some p → i < k ∧ i < m ∧ vs[i]? = some p.2 ∧ ∃ o, l[i]? = some o ∧ p.1 = (bif cs.contains i then { o with dst := none } else o) := by
    intro k i p hp
    rw [List.getElem?_take] at hp
    split at hp
    · rename_i hik
      rw [List.getElem?_zip_eq_some, msk_get, List.getElem?_take] at hp
      obtain ⟨h1, h2⟩ := hp
      split at h1
      · rename_i him
        obtain ⟨o, ho, h1⟩ := Option.map_eq_some_iff.1 h1
        rw [Nat.zero_add] at h1
        exact ⟨hik, him, h2, o, ho, h1.symm⟩
      · simp at h1
    · cases hp
  have F1 : ∀ k j s v, j < k → j < m → cs.contains j = false → dstAt l j = some s → vs[j]? = some v → seqE e (((msk cs 0 (l.take m)).zip vs).take k) s = v := by
    intro k j s v hjk hjm hjc hds hv
    have hoj : ∃ o, l[j]? = some o := ⟨l[j]'(by omega), List.getElem?_eq_getElem _⟩
    obtain ⟨o, ho⟩ := hoj
    refine seqE_at (j := j) (o := o) (v := v) _ e ?_ (by simpa [dstAt, ho] using hds) fun i p hp hpd => ?_
    · rw [List.getElem?_take, if_pos hjk, List.getElem?_zip_eq_some, msk_get, List.getElem?_take, if_pos hjm, ho, Nat.zero_add, hjc]
      exact ⟨rfl, hv⟩
    · obtain ⟨a1, a2, a3, o', ho', hp1⟩ := hps k i p hp
      cases hci : cs.contains i with
      | true => rw [hci] at hp1; rw [hp1] at hpd; cases hpd
      | false =>
        rw [hci] at hp1
        rw [hp1] at hpd
        exact hdst i j s a2 hjm (by simp [dstAt, ho']; exact hpd) hds
  have F2 : ∀ k s, (∀ j, j < m → cs.contains j = false → dstAt l j ≠ some s) → seqE e (((msk cs 0 (l.take m)).zip vs).take k) s = e s := by
    intro k s hs
    refine seqE_not _ e fun p hp hpd => ?_
    obtain ⟨i, hi, rfl⟩ := List.getElem_of_mem hp
    obtain ⟨a1, a2, a3, o', ho', hp1⟩ := hps k i _ (List.getElem?_eq_getElem hi)
    cases hci : cs.contains i with
    | true => rw [hci] at hp1; rw [hp1] at hpd; cases hpd
    | false =>
      rw [hci] at hp1
      rw [hp1] at hpd
      exact hs i a2 hci (by simp [dstAt, ho']; exact hpd)
  have hall : ((msk cs 0 (l.take m)).zip vs).take m = (msk cs 0 (l.take m)).zip vs := List.take_of_length_le (by simp [msk_len]; omega)
  have F1m : ∀ j s v, j < m → cs.contains j = false → dstAt l j = some s → vs[j]? = some v → ek s = v := fun j s v h1 h2 h3 h4 => by
    rw [← hek, ← hall]; exact F1 m j s v h1 h1 h2 h3 h4
  have F2m : ∀ s, (∀ j, j < m → cs.contains j = false → dstAt l j ≠ some s) → ek s = e s := fun s hs => by
    rw [← hek, ← hall]; exact F2 m s hs
  have hvj : ∀ j, j < m → ∃ v, vs[j]? = some v := fun j hj => ⟨vs[j]'(by omega), List.getElem?_eq_getElem _⟩
  refine reg_inv hm m hd (fun S e' w' => Keep C w w' ∧ (∀ s, (∀ j, j < m → dstAt l j ≠ some s) → e' s = e s) ∧ (∀ j s v, j < m → S j = true → cs.contains j = false → dstAt l j = some s → vs[j]? = some v → e' s = v) ∧
    ∃ ec : Env, (∀ c s, c < m → S c = true → cs.contains c = true → dstAt l c = some s → e' s = ec s) ∧ (∀ s, (∀ c, c < m → S c = true → cs.contains c = true → dstAt l c ≠ some s) → ec s = ek s) ∧ CK ro P l.toArray Q n d C w (l.drop m) (rem l m cs S) ec w') ?_ ?_ ?_
  · intro w1 k1
    exact ⟨k1.any, fun _ _ => rfl, fun _ _ _ _ h => by (cases h), ek, fun _ _ _ h => by (cases h), fun _ _ => rfl, hK w1 k1⟩
  · rintro S i o e' w' ho him hSi hwait hlt hclosed ⟨hk, hfr, hqv, ec, qA, qB, qC⟩
    obtain ⟨hpl, hrd⟩ := hq i o him ho
    have hne : ∀ j s, j < m → j ≠ i → dstAt l j = some s → o.dst ≠ some s := fun j s hj hji hds hod => hji (hdst j i s hj him hds (by simp [dstAt, ho, hod]))
    have hup : ∀ (f : Env) v s, o.dst ≠ some s → updo f o.dst v s = f s := fun f v s hne' => by
      cases hod : o.dst with
      | none => rfl
      | some t =>
        have : s ≠ t := fun h => hne' (by rw [hod, h])
        simp [updo, upd, nbeq this]
    cases hci : cs.contains i with
    | false =>
      obtain ⟨v, hv⟩ := hvj i him
      have q1 := wp1_congr (e' := e') (R := rv v) (fun _ _ _ _ _ _ h => h) hpl (fun s hs => ?_) (hh i o v (by rw [List.getElem?_take, if_pos him]; exact ho) hv (by rw [Nat.zero_add]; exact hci) w' hk)
      · refine wp1_mono (fun ex a w2 hq2 => ?_) q1
        cases ex with
        | normal =>
          obtain ⟨u, rfl, hk2, hu⟩ := hq2
          have hu : u = v := hu
          subst hu
          refine ⟨_, rfl, hk.trans hk2.any, fun s hs => ?_, fun j s x hj hSj hcj hds hx => ?_, ec, fun c s hc hSc hcc2 hds => ?_, fun s hs => qB s fun c hc hSc => hs c hc (by simp [hSc]), ?_⟩
          · rw [hup _ _ s (fun hod => hs i him (by simp [dstAt, ho, hod]))]; exact hfr s hs
          · by_cases hji : j = i
            · subst hji
              have hod : o.dst = some s := by simpa [dstAt, ho] using hds
              rw [hv] at hx; cases hx
              rw [hod]; simp [updo, upd]
            · rw [hup _ _ s (hne j s hj hji hds)]
              exact hqv j s x hj (by simpa [hji] using hSj) hcj hds hx
          · have hci' : c ≠ i := fun h => by rw [h, hci] at hcc2; cases hcc2
            rw [hup _ _ s (hne c s hc hci' hds)]
            exact qA c s hc (by simpa [hci'] using hSc) hcc2 hds
          · rw [rem_same hci]; exact qC.stays hk2
        | _ => exact hq2.elim
      · by_cases hx : ∃ j, j < m ∧ dstAt l j = some s
        · obtain ⟨j, hj, hds⟩ := hx
          obtain ⟨ha, hcj⟩ := hrd s hs j hj hds
          obtain ⟨u, hu⟩ := hvj j hj
          have hil : i < l.length := (List.getElem?_eq_some_iff.1 ho).1
          rw [hqv j s u hj (hwait j ha) (hcj hci) hds hu, F1 i j s u (anc_lt hd hil ha) hj (hcj hci) hds hu]
        · have hx' : ∀ j, j < m → dstAt l j ≠ some s := fun j hj hds => hx ⟨j, hj, hds⟩
          rw [hfr s hx', F2 i s fun j hj _ => hx' j hj]
    | true =>
      have hprev : ∀ j, j < i → cs.contains j = true → S j = true := fun j hj hcj => hwait j (hcc i him hci j hj hcj)
      have hlater : ∀ j, i < j → j < m → cs.contains j = true → S j = false := fun j hij hjm hcj => by
        cases hS : S j with
        | false => rfl
        | true =>
          have := hclosed j i hS (hcc j hjm hcj i hij hci)
          rw [hSi] at this; cases this
      rw [rem_cons him ho hci hSi hprev] at qC
      have q1 := wp1_congrV (e' := e') (Ψ := fun v w2 => Keep C w w2 ∧ CK ro P l.toArray Q n d C w (l.drop m) (rem l m cs fun j => S j || j == i) (updo ec o.dst v) w2) hpl (fun s hs => ?_) (qC w' (Keep.refl _ _))
      · refine wp1_mono (fun ex a w2 hq2 => ?_) q1
        cases ex with
        | normal =>
          obtain ⟨v, rfl, hk2, hC⟩ := hq2
          refine ⟨_, rfl, hk2, fun s hs => ?_, fun j s x hj hSj hcj hds hx => ?_, updo ec o.dst v, fun c s hc hSc hcc2 hds => ?_, fun s hs => ?_, hC⟩
          · rw [hup _ _ s (fun hod => hs i him (by simp [dstAt, ho, hod]))]; exact hfr s hs
          · have hji : j ≠ i := fun h => by rw [h, hci] at hcj; cases hcj
            rw [hup _ _ s (hne j s hj hji hds)]
            exact hqv j s x hj (by simpa [hji] using hSj) hcj hds hx
          · by_cases hci2 : c = i
            · subst hci2
              have hod : o.dst = some s := by simpa [dstAt, ho] using hds
              rw [hod]; simp [updo, upd]
            · rw [hup _ _ s (hne c s hc hci2 hds), hup _ _ s (hne c s hc hci2 hds)]
              exact qA c s hc (by simpa [hci2] using hSc) hcc2 hds
          · rw [hup _ _ s (fun hod => hs i him (by simp) hci (by simp [dstAt, ho, hod]))]
            exact qB s fun c hc hSc => hs c hc (by simp [hSc])
        | _ => exact hq2.elim
      · by_cases hx : ∃ j, j < m ∧ dstAt l j = some s
        · obtain ⟨j, hj, hds⟩ := hx
          obtain ⟨ha, _⟩ := hrd s hs j hj hds
          cases hcj : cs.contains j with
          | true => exact qA j s hj (hwait j ha) hcj hds
          | false =>
            obtain ⟨u, hu⟩ := hvj j hj
            rw [hqv j s u hj (hwait j ha) hcj hds hu, qB s fun c hc hSc hcc3 hds2 => ?_, F1m j s u hj hcj hds hu]
            have := hdst c j s hc hj hds2 hds
            rw [this, hcj] at hcc3; cases hcc3
        · have hx' : ∀ j, j < m → dstAt l j ≠ some s := fun j hj hds => hx ⟨j, hj, hds⟩
          rw [hfr s hx', qB s fun c hc _ _ => hx' c hc, F2m s fun j hj _ => hx' j hj]
  · rintro S e' w' hall2 ⟨hk, hfr, hqv, ec, qA, qB, qC⟩
    have hr : rem l m cs S = [] := by
      unfold rem
      rw [List.filter_eq_nil_iff.2]
      · rfl
      · intro j hj
        simp [hall2 j (List.mem_range.1 hj)]
    rw [hr] at qC
    have he : e' = ec := by
      funext s
      by_cases hx : ∃ j, j < m ∧ dstAt l j = some s
      · obtain ⟨j, hj, hds⟩ := hx
        cases hcj : cs.contains j with
        | true => exact qA j s hj (hall2 j hj) hcj hds
        | false =>
          obtain ⟨u, hu⟩ := hvj j hj
          rw [hqv j s u hj (hall2 j hj) hcj hds hu, qB s fun c hc hSc hcc3 hds2 => ?_, F1m j s u hj hcj hds hu]
          have := hdst c j s hc hj hds2 hds
          rw [this, hcj] at hcc3; cases hcc3
      · have hx' : ∀ j, j < m → dstAt l j ≠ some s := fun j hj hds => hx ⟨j, hj, hds⟩
        rw [hfr s hx', qB s fun c hc _ _ => hx' c hc, F2m s fun j hj _ => hx' j hj]
    rw [he]
    exact qC w' (Keep.refl _ _)
theorem cK {full : Array Oper} {tail os : List Oper} {e : Env} {w2 : World} {i : Nat} {v : Value} (hk : Keep C w w2) (h : CK ro P full Q n d C w tail os (upd e i v) w2) :
    wpA ro P full (Ends1 fun a w2 => ∃ v, a = E n (updo e (some i) v) d ∧ Keep C w w2 ∧ CK ro P full Q n d C w tail os (updo e (some i) v) w2) [] (E n (upd e i v) d) w2 := wp_nil ⟨v, rfl, hk, h⟩
theorem cK0 {full : Array Oper} {tail os : List Oper} {e : Env} {w2 : World} (hk : Keep C w w2) (h : CK ro P full Q n d C w tail os e w2) :
    wpA ro P full (Ends1 fun a w2 => ∃ v, a = E n (updo e none v) d ∧ Keep C w w2 ∧ CK ro P full Q n d C w tail os (updo e none v) w2) [] (E n e d) w2 := wp_nil ⟨undef, rfl, hk, h⟩
/-- the box that a chain of the region stores into is taken out: all else stays -/
theorem St.stX {w0 w w' : World} {C0 : Nat → Prop} {X L : List Asr} (S : St w0 C0 w X L) {i j : Nat} {p q : Asr} (hi : X[i]? = some p) (hj : X[j]? = some q) (hne : i ≠ j) (k : Keep q.fp w w') : p.ok w' := by
  refine p.mono _ _ (S.xs p (List.mem_of_getElem? hi)) fun b hb => k.block b (p.inb _ _ (S.xs p (List.mem_of_getElem? hi)) hb) fun hq => ?_
  obtain ⟨h1, rfl⟩ := List.getElem?_eq_some_iff.1 hi
  obtain ⟨h2, rfl⟩ := List.getElem?_eq_some_iff.1 hj
  rcases Nat.lt_or_ge i j with h | h
  · exact List.pairwise_iff_getElem.1 S.dx i j h1 h2 h b hb hq
  · exact List.pairwise_iff_getElem.1 S.dx j i h2 h1 (by omega) b hq hb
theorem St.stP {w0 w w' : World} {C0 : Nat → Prop} {X L : List Asr} (S : St w0 C0 w X L) {i j : Nat} {p q : Asr} (hi : L[i]? = some p) (hj : X[j]? = some q) (k : Keep q.fp w w') : p.ok w' :=
  p.mono _ _ (S.ps p (List.mem_of_getElem? hi)) fun b hb => k.block b (p.inb _ _ (S.ps p (List.mem_of_getElem? hi)) hb) fun hq => S.dp q (List.mem_of_getElem? hj) p (List.mem_of_getElem? hi) b hq hb
/-- at the begin of such a region -/
theorem St.baseQ {w0 w : World} {C0 : Nat → Prop} {X L : List Asr} (S : St w0 C0 w X L) {j : Nat} {q : Asr} (hj : X[j]? = some q) : St w q.fp w [q] (X.eraseIdx j ++ L) := by
  have hq := List.mem_of_getElem? hj
  have he : ∀ p ∈ X.eraseIdx j, ∃ i, i ≠ j ∧ X[i]? = some p := fun p hp => by
    obtain ⟨i, hi, rfl⟩ := List.getElem_of_mem hp
    rw [List.getElem_eraseIdx]
    split
    · rename_i h; exact ⟨i, by omega, List.getElem?_eq_getElem _⟩
    · rename_i h; exact ⟨i + 1, by omega, List.getElem?_eq_getElem _⟩
  refine ⟨Keep.refl _ _, fun x hx => by rw [List.mem_singleton.1 hx]; exact S.xs q hq, fun p hp => ?_, List.pairwise_singleton .., fun x hx p hp b h1 h2 => ?_, fun x hx b hb => .inr (by rw [List.mem_singleton.1 hx] at hb; exact hb)⟩
  · rcases List.mem_append.1 hp with h | h
    · exact S.xs p (List.mem_of_mem_eraseIdx h)
    · exact S.ps p h
  · rw [List.mem_singleton.1 hx] at h1
    rcases List.mem_append.1 hp with h | h
    · obtain ⟨i, hij, hi⟩ := he p h
      obtain ⟨g1, rfl⟩ := List.getElem?_eq_some_iff.1 hi
      obtain ⟨g2, rfl⟩ := List.getElem?_eq_some_iff.1 hj
      rcases Nat.lt_or_ge i j with h' | h'
      · exact List.pairwise_iff_getElem.1 S.dx i j g1 g2 h' b h2 h1
      · exact List.pairwise_iff_getElem.1 S.dx j i g2 g1 (by omega) b h1 h2
    · exact S.dp q hq p h b h1 h2
/-- behind it -/
theorem St.fromBaseQ {w0 w w' : World} {C0 : Nat → Prop} {X L Xn : List Asr} (S : St w0 C0 w X L) {j : Nat} {q : Asr} (hj : X[j]? = some q) (S' : St w q.fp w' Xn (X.eraseIdx j ++ L)) : St w0 C0 w' (Xn ++ X.eraseIdx j) L := by
  have hq := List.mem_of_getElem? hj
  have sub : List.Sublist (X.eraseIdx j) X := List.eraseIdx_sublist ..
  have hown : ∀ b, q.fp b → w0.heap.size ≤ b ∨ C0 b := S.own q hq
  refine ⟨⟨S'.keep.os.trans S.keep.os, S'.keep.tape.trans S.keep.tape, S'.keep.output.trans S.keep.output, Nat.le_trans S.keep.size S'.keep.size, fun b hb hC => ?_⟩, fun x hx => ?_, fun p hp => S'.ps p (List.mem_append_right _ hp), ?_, fun x hx p hp => ?_, fun x hx b hb => ?_⟩
  · rw [S'.keep.block b (Nat.lt_of_lt_of_le hb S.keep.size) fun hf => ?_]
    · exact S.keep.block b hb hC
    · rcases hown b hf with h | h
      · omega
      · exact hC h
  · rcases List.mem_append.1 hx with h | h
    · exact S'.xs x h
    · exact S'.ps x (List.mem_append_left _ h)
  · exact List.pairwise_append.2 ⟨S'.dx, S.dx.sublist sub, fun a ha b hb => S'.dp a ha b (List.mem_append_left _ hb)⟩
  · rcases List.mem_append.1 hx with h | h
    · exact S'.dp x h p (List.mem_append_right _ hp)
    · exact S.dp x (sub.subset h) p hp
  · rcases List.mem_append.1 hx with h | h
    · rcases S'.own x h b hb with h' | h'
      · exact .inl (Nat.le_trans S.keep.size h')
      · exact hown b h'
    · exact S.own x (sub.subset h) b hb
theorem St.fromBaseN {w0 w w' : World} {C : Nat → Prop} {X L Xn : List Asr} (S : St w0 C w X L) (S' : St w (fun _ => False) w' Xn (X ++ L)) : St w0 C w' (Xn ++ X) L := by
  refine ⟨S.keep.trans (S'.keep.weak fun _ _ h => h.elim), fun x hx => ?_, fun p hp => S'.ps p (List.mem_append_right _ hp), ?_, fun x hx p hp => ?_, fun x hx b hb => ?_⟩
  · rcases List.mem_append.1 hx with h | h
    · exact S'.xs x h
    · exact S'.ps x (List.mem_append_left _ h)
  · exact List.pairwise_append.2 ⟨S'.dx, S.dx, fun a ha b hb => S'.dp a ha b (List.mem_append_left _ hb)⟩
  · rcases List.mem_append.1 hx with h | h
    · exact S'.dp x h p (List.mem_append_right _ hp)
    · exact S.dp x h p hp
  · rcases List.mem_append.1 hx with h | h
    · rcases S'.own x h b hb with h' | h'
      · exact .inl (Nat.le_trans S.keep.size h')
      · exact h'.elim
    · exact S.own x h b hb
end
end Go.Fx

/- Part of a logic of my own for walks: rules by which a proof steps through code, proved once. -/
import Derived.Test.YticodohfokgjfaaDoorZFxRules
set_option linter.unusedSimpArgs false
set_option linter.unusedVariables false
namespace Go.Fx
open Go
/-! ### regions whose order is open, all of whose head's operations come to known values -/
/-- the slots that an operation looks at -/
def reads (full : Array Oper) (o : Oper) : List Nat := (o.op.operands.toList.filterMap fun | .tmp t => some t | _ => none) ++ (match o.guard with | some (j, _) => ((full[j]?).bind (·.dst)).toList | none => [])
def plainOp (o : Oper) : Bool := match o.op with | .select _ _ => false | .defer _ => false | _ => true
section
variable {ro : Option Nat} {P : Program} {n : Nat} {d : List Deferred} {w : World}
theorem evn_congr {e e' : Env} {full : Array Oper} {o : Oper} (ha : ∀ s ∈ reads full o, e' s = e s) : ∀ x ∈ o.op.operands, evn n e' x = evn n e x := by
  intro x hx
  cases x with
  | tmp t =>
    have : e' t = e t := ha t (List.mem_append_left _ (List.mem_filterMap.2 ⟨.tmp t, by simpa using hx, rfl⟩))
    simp only [evn, this]
  | _ => rfl
theorem wanted_congr {e e' : Env} {full : Array Oper} {o : Oper} (ha : ∀ s ∈ reads full o, e' s = e s) : Region.wanted o (yielded full (E n e' d).tmps) = Region.wanted o (yielded full (E n e d).tmps) := by
  unfold Region.wanted
  cases hg : o.guard with
  | none => rfl
  | some gw =>
    obtain ⟨j, want⟩ := gw
    have hy : yielded full (E n e' d).tmps j = yielded full (E n e d).tmps j := by
      unfold yielded
      cases ht : (full[j]?).bind (·.dst) with
      | none => rfl
      | some t =>
        have : e' t = e t := ha t (List.mem_append_right _ (by simp [hg, ht]))
        simp only [E, Array.getElem?_ofFn]
        by_cases h : t < n <;> simp [h, this]
    simp only [hy]
theorem E_ext {e e' : Env} (h : ∀ j, j < n → e j = e' j) : E n e d = E n e' d := by
  unfold E
  congr 1
  refine Array.ext (by simp) fun j h1 h2 => ?_
  simp only [Array.getElem_ofFn]
  exact h j (by simpa using h1)
theorem done_put {e e' : Env} {full : Array Oper} {dst : Option Nat} {R : Rx} (hR : ∀ e e' v lo hi w, R.ok e v lo hi w → R.ok e' v lo hi w) {v' : Value} {w' : World} (h : wpA ro P full (Done n d e w dst R) [] ((E n e d).put dst v') w') : wpA ro P full (Done n d e' w dst R) [] ((E n e' d).put dst v') w' := by
  unfold wpA at h ⊢
  rw [E_put] at h ⊢
  obtain ⟨v, hu, hk, hv⟩ := h
  refine ⟨v, E_ext fun j hj => ?_, hk, hR _ _ _ _ _ _ hv⟩
  cases dst with
  | none => rfl
  | some i =>
    simp only [updo, upd]
    by_cases hji : j = i
    · subst hji
      have h1 := congrArg (fun a : Act => a.tmps[j]?) hu
      simp [E, hj, updo, upd] at h1
      simp [h1]
    · simp [nbeq hji]
theorem letsOut_done {e : Env} {dst : Option Nat} {R : Rx} (h : LetsOut (Done n d e w dst R)) : False := by
  obtain ⟨a, w, h⟩ := h
  exact h
theorem wp1_congr {e e' : Env} {full : Array Oper} {o : Oper} {R : Rx} (hR : ∀ e e' v lo hi w, R.ok e v lo hi w → R.ok e' v lo hi w) (hp : plainOp o = true) (ha : ∀ s ∈ reads full o, e' s = e s) (h : wpA ro P full (Done n d e w o.dst R) [o] (E n e d) w) : wpA ro P full (Done n d e' w o.dst R) [o] (E n e' d) w := by
  have hd : ∀ c, o.op ≠ .defer c := fun c hc => by simp [plainOp, hc] at hp
  have hs : ∀ cs b, o.op ≠ .select cs b := fun cs b hc => by simp [plainOp, hc] at hp
  unfold wpA at h ⊢
  rw [wanted_congr (d := d) (n := n) ha]
  split at h
  · rename_i hw
    rw [if_pos hw]
    obtain ⟨_, h⟩ := h
    refine ⟨fun _ _ => trivial, ?_⟩
    rw [Oper.semAt_eq _ _ _ hd, E_eval] at h ⊢
    rw [execOp_congr o hs (evn_congr ha)]
    have fin : ∀ v' w', wpA ro P full (Done n d e w o.dst R) [] ((E n e d).put o.dst v') w' → wpA ro P full (Done n d e' w o.dst R) [] ((E n e' d).put o.dst v') w' := fun _ _ h => done_put hR h
    revert h
    generalize (execOp (evn n e) o).run P w = r
    intro h
    unfold Oper.uponIn at h ⊢
    split at h
    · exact fin _ _ h
    · exact fin _ _ h
    · exfalso
      unfold wpA at h
      obtain ⟨u, hu, _⟩ := h
      have := congrArg Act.defers hu
      cases hdst : o.dst <;> simp [hdst, Act.put, E] at this
    · refine ⟨h.1, h.2.mono fun en w' he => ?_⟩
      cases en with
      | returned v => exact fin _ _ he
      | panicked c => exact he.elim
      | outgrown => exact (letsOut_done he).elim
    · exact ⟨h.1, h.2.mono fun v w' he => fin _ _ he⟩
    · refine ⟨h.1, h.2.mono fun en w' he => ?_⟩
      cases en with
      | returned v => exact fin _ _ he
      | panicked c => exact he.elim
      | outgrown => exact (letsOut_done he).elim
    · exact h.elim
    · exact h.elim
  · rename_i hw
    rw [if_neg hw]
    exact done_put hR h

/-- the operations of a head, in the text's order, each of which comes to a known value whatever has been made meanwhile -/
def DSk (ro : Option Nat) (P : Program) (full : Array Oper) (n : Nat) (d : List Deferred) (w : World) : List Oper → Env → (Env → Prop) → Prop
  | [], e, K => K e
  | o :: os, e, K => ∃ v, (∀ w', Keep0 w w' → wpA ro P full (Done n d e w' o.dst (rv v)) [o] (E n e d) w') ∧ DSk ro P full n d w os (updo e o.dst v) K
theorem dS {full : Array Oper} {o : Oper} {os : List Oper} {e : Env} {K : Env → Prop} {v : Value} (h : ∀ w', Keep0 w w' → wpA ro P full (Done n d e w' o.dst (rv v)) [o] (E n e d) w') (hk : DSk ro P full n d w os (updo e o.dst v) K) : DSk ro P full n d w (o :: os) e K := ⟨v, h, hk⟩
theorem dn {full : Array Oper} {e : Env} {i : Nat} {v : Value} : wpA ro P full (Done n d e w (some i) (rv v)) [] (E n (upd e i v) d) w := wp_nil ⟨v, rfl, Keep.refl _ _, rfl⟩
theorem dnU {full : Array Oper} {e : Env} {i : Nat} : wpA ro P full (Done n d e w (some i) (rv undef)) [] (E n (updo e (some i) undef) d) w := wp_nil ⟨undef, rfl, Keep.refl _ _, rfl⟩
def seqE (e : Env) (ps : List (Oper × Value)) : Env := ps.foldl (fun e p => updo e p.1.dst p.2) e
theorem dsk_vals {full : Array Oper} {K : Env → Prop} : ∀ {os : List Oper} {e : Env}, DSk ro P full n d w os e K → ∃ vs : List Value, vs.length = os.length ∧ (∀ i o v, os[i]? = some o → vs[i]? = some v → ∀ w', Keep0 w w' → wpA ro P full (Done n d (seqE e ((os.zip vs).take i)) w' o.dst (rv v)) [o] (E n (seqE e ((os.zip vs).take i)) d) w') ∧ K (seqE e (os.zip vs))
  | [], e, h => ⟨[], rfl, fun i o v h1 => by simp at h1, h⟩
  | o :: os, e, ⟨v, h1, h2⟩ => by
    obtain ⟨vs, hl, hh, hK⟩ := dsk_vals h2
    refine ⟨v :: vs, by simp [hl], fun i o' v' ho hv => ?_, hK⟩
    cases i with
    | zero =>
      simp at ho hv
      subst ho hv
      exact h1
    | succ i =>
      have := hh i o' v' (by simpa using ho) (by simpa using hv)
      simpa [seqE] using this
theorem seqE_not {s : Nat} : ∀ (ps : List (Oper × Value)) (e : Env), (∀ p ∈ ps, p.1.dst ≠ some s) → seqE e ps s = e s
  | [], _, _ => rfl
  | p :: ps, e, h => by
    have ih := seqE_not ps (updo e p.1.dst p.2) fun q hq => h q (List.mem_cons_of_mem _ hq)
    have hp := h p (List.mem_cons_self ..)
    simp only [seqE, List.foldl_cons] at ih ⊢
    rw [ih]
    cases hd : p.1.dst with
    | none => rfl
    | some i =>
      have : s ≠ i := fun hh => hp (by rw [hd, hh])
      simp [updo, upd, nbeq this]
theorem seqE_at {s j : Nat} {o : Oper} {v : Value} : ∀ (ps : List (Oper × Value)) (e : Env), ps[j]? = some (o, v) → o.dst = some s → (∀ i p, ps[i]? = some p → p.1.dst = some s → i = j) → seqE e ps s = v := by
  intro ps
  induction ps generalizing j with
  | nil => intro e h; simp at h
  | cons p ps ih =>
    intro e h ho hu
    cases j with
    | zero =>
      simp at h
      subst h
      have := seqE_not (s := s) ps (updo e o.dst v) fun q hq => by
        obtain ⟨i, hi, rfl⟩ := List.getElem_of_mem hq
        intro hd
        have := hu (i + 1) ps[i] (by simp [hi]) hd
        omega
      simp only [seqE, List.foldl_cons] at this ⊢
      rw [this, ho]
      simp [updo, upd]
    | succ j =>
      have := ih (j := j) (updo e p.1.dst p.2) (by simpa using h) ho fun i q hq hd => by
        have := hu (i + 1) q (by simpa using hq) hd
        omega
      simpa [seqE] using this
/-- what is asked of a head: what an operation looks at is written by such as it waits for, or by none -/
def okQ (l : List Oper) (m : Nat) (fl : Option Nat) : Bool :=
  okDraw l m fl && (List.range m).all fun i => match l[i]? with
    | none => true
    | some o => plainOp o && (reads l.toArray o).all fun s => (List.range m).all fun j => dstAt l j != some s || ((anc l).getD i []).contains j
theorem okQ_spec {l : List Oper} {m : Nat} {fl : Option Nat} (h : okQ l m fl = true) : okDraw l m fl = true ∧ ∀ i o, i < m → l[i]? = some o → plainOp o = true ∧ ∀ s ∈ reads l.toArray o, ∀ j, j < m → dstAt l j = some s → ((anc l).getD i []).contains j = true := by
  simp only [okQ, Bool.and_eq_true] at h
  refine ⟨h.1, fun i o hi ho => ?_⟩
  have := List.all_eq_true.1 h.2 i (List.mem_range.2 hi)
  rw [ho] at this
  simp only [Bool.and_eq_true] at this
  refine ⟨this.1, fun s hs j hj hd => ?_⟩
  have := List.all_eq_true.1 (List.all_eq_true.1 this.2 s hs) j (List.mem_range.2 hj)
  simpa [hd] using this
section
variable {Q : Exit → Act → World → Prop} {e : Env} {l : List Oper} {id : Nat}
theorem q_env {m : Nat} {fl : Option Nat} {vs : List Value} (hok : okDraw l m fl = true) (hl : vs.length = (l.take m).length) {e' : Env} {k : Nat} (hk : k ≤ m) {s : Nat} (hfr : notDst l m s = true → e' s = e s) (hv : ∀ j v, j < m → dstAt l j = some s → vs[j]? = some v → e' s = v ∧ j < k) :
    e' s = seqE e (((l.take m).zip vs).take k) s := by
  obtain ⟨_, _, hml, hdst, _, _⟩ := okDraw_spec hok
  have hlm : (l.take m).length = m := by simp; omega
  have hat : ∀ i p, (((l.take m).zip vs).take k)[i]? = some p → i < k ∧ i < m ∧ l[i]? = some p.1 ∧ vs[i]? = some p.2 := by
    intro i p hp
    rw [List.getElem?_take] at hp
    split at hp
    · rename_i hik
      rw [List.getElem?_zip_eq_some] at hp
      have h1 := hp.1
      rw [List.getElem?_take] at h1
      split at h1
      · exact ⟨hik, by omega, h1, hp.2⟩
      · cases h1
    · cases hp
  by_cases hh : ∃ j o, j < m ∧ l[j]? = some o ∧ o.dst = some s
  · obtain ⟨j, o, hj, ho, hd⟩ := hh
    have hvj : ∃ v, vs[j]? = some v := ⟨vs[j]'(by omega), List.getElem?_eq_getElem _⟩
    obtain ⟨v, hvj⟩ := hvj
    have hds : dstAt l j = some s := by simp [dstAt, ho, hd]
    obtain ⟨h1, h2⟩ := hv j v hj hds hvj
    rw [h1]
    refine (seqE_at (j := j) (o := o) (v := v) _ e ?_ hd fun i p hp hpd => ?_).symm
    · rw [List.getElem?_take, if_pos h2, List.getElem?_zip_eq_some]
      exact ⟨by rw [List.getElem?_take, if_pos hj]; exact ho, hvj⟩
    · obtain ⟨a1, a2, a3, a4⟩ := hat i p hp
      exact hdst i j s a2 hj (by simp [dstAt, a3, hpd]) hds
  · rw [seqE_not _ e fun p hp hpd => ?_]
    · refine hfr (List.all_eq_true.2 fun o ho => ?_)
      obtain ⟨j, hj, rfl⟩ := List.getElem_of_mem ho
      have hjm : j < m := by rw [hlm] at hj; exact hj
      have : ¬ (l.take m)[j].dst = some s := fun hd => hh ⟨j, _, hjm, by rw [List.getElem_take]; exact List.getElem?_eq_getElem _, hd⟩
      simpa using this
    · obtain ⟨i, hi, rfl⟩ := List.getElem_of_mem hp
      obtain ⟨a1, a2, a3, a4⟩ := hat i _ (List.getElem?_eq_getElem hi)
      exact hh ⟨i, _, a2, a3, hpd⟩
theorem anc_lt {m : Nat} {fl : Option Nat} (hok : okDraw l m fl = true) {i j : Nat} (hi : i < l.length) (h : ((anc l).getD i []).contains j = true) : j < i := by
  obtain ⟨_, _, _, _, _, h6⟩ := okDraw_spec hok
  exact (h6 (fun _ => True) (fun _ _ _ _ _ _ => trivial) i j hi trivial h).1
theorem q_hop {m : Nat} {fl : Option Nat} {vs : List Value} (hok : okQ l m fl = true) (hl : vs.length = (l.take m).length)
    (hh : ∀ i o v, (l.take m)[i]? = some o → vs[i]? = some v → ∀ w', Keep0 w w' → wpA ro P l.toArray (Done n d (seqE e (((l.take m).zip vs).take i)) w' o.dst (rv v)) [o] (E n (seqE e (((l.take m).zip vs).take i)) d) w')
    {i : Nat} {o : Oper} (ho : l[i]? = some o) (him : i < m) {e' : Env} {w' : World} (hk : Keep0 w w') (hfr : ∀ s, notDst l m s = true → e' s = e s) (hR : ∀ j s, ((anc l).getD i []).contains j = true → j < m → dstAt l j = some s → ∃ lo hi, w.heap.size ≤ lo ∧ hi ≤ w'.heap.size ∧ ((vs.map rv).getD j default).ok e' (e' s) lo hi w') :
    wpA ro P l.toArray (Done n d e' w' o.dst ((vs.map rv).getD i default)) [o] (E n e' d) w' := by
  obtain ⟨hd, hq⟩ := okQ_spec hok
  obtain ⟨_, _, hml, _, _, _⟩ := okDraw_spec hd
  have hlm : (l.take m).length = m := by simp; omega
  have hvi : vs[i]? = some (vs[i]'(by omega)) := List.getElem?_eq_getElem _
  have hRi : (vs.map rv).getD i default = rv (vs[i]'(by omega)) := by simp [List.getD, hvi]
  rw [hRi]
  refine wp1_congr (R := rv _) (fun _ _ _ _ _ _ h => h) (hq i o him ho).1 (fun s hs => ?_) (hh i o _ (by rw [List.getElem?_take, if_pos him]; exact ho) hvi w' hk)
  refine q_env hd hl (Nat.le_of_lt him) (hfr s) fun j v hj hds hv => ?_
  have hc := (hq i o him ho).2 s hs j hj hds
  obtain ⟨lo, hi, _, _, hok2⟩ := hR j s hc hj hds
  have hRj : (vs.map rv).getD j default = rv v := by simp [List.getD, hv]
  rw [hRj] at hok2
  exact ⟨hok2, anc_lt hd (by have := (List.getElem?_eq_some_iff.1 ho).1; omega) hc⟩
theorem dep_rv {m : Nat} (vs : List Value) : depOk l m ((vs.map rv).map (·.deps)) = true := by
  unfold depOk
  refine List.all_eq_true.2 fun i _ => ?_
  have : ((vs.map rv).map (·.deps)).getD i [] = [] := by
    simp only [List.getD, List.getElem?_map]
    cases vs[i]? <;> rfl
  rw [this]
  rfl
/-- **a region whose order is open, all of whose head's operations come to known values** -/
theorem reg_q (hm : P.follows .mixedOrders = true) (m : Nat) (hok : okQ l m none = true) (h : DSk ro P l.toArray n d w (l.take m) e fun e' => ∀ w', Keep0 w w' → wpA ro P l.toArray Q (l.drop m) (E n e' d) w') :
    (Code.region id l.toArray true).wpIn (Fr ro) 0 P Q (E n e d) w := by
  obtain ⟨vs, hl, hh, hK⟩ := dsk_vals h
  obtain ⟨hd, hq⟩ := okQ_spec hok
  have hlm : (l.take m).length = m := by have := (okDraw_spec hd).2.2.1; simp; omega
  refine reg_draw hm m none hd (vs.map rv) _ rfl (dep_rv vs) _ rfl (fun i o ho him e' w' hk hfr hR => q_hop hok hl hh ho him hk hfr hR) (fun e' w' hk hfr ⟨lo, hi, h1, _⟩ => ?_) (fun f hf => by cases hf)
  have he : e' = seqE e ((l.take m).zip vs) := by
    funext s
    have := q_env (e := e) (e' := e') hd hl (Nat.le_refl m) (hfr s) fun j v hj hds hv => by
      have h2 := (h1 j s hj hds).2.2.2
      have hRj : (vs.map rv).getD j default = rv v := by simp [List.getD, hv]
      rw [hRj] at h2
      exact ⟨h2, hj⟩
    rwa [List.take_of_length_le (by simp; omega)] at this
  rw [he]
  exact hK w' hk
end
end
end Go.Fx

/- Part of a logic of my own for walks: rules by which a proof steps through code, proved once. -/
import Derived.CallsIn
import Derived.RangeFuncIn
import Derived.RangeFuncLeaves
import Derived.RangeFuncOwn
import Derived.Laws.World
import Derived.Laws.Sem
import Derived.Laws.Cells
import Derived.Below
set_option linter.unusedSimpArgs false
set_option linter.unusedVariables false
namespace Go.Fx
open Go

/-- the one kind of fence that is used here: no bar at all; in a round or not -/
abbrev Fr (ro : Option Nat) : Fence := { fn := fun _ => True, depth := none, alive := false, round := ro }

abbrev Env := Nat → Value
def upd (e : Env) (i : Nat) (v : Value) : Env := fun j => bif Nat.beq j i then v else e j
def updo (e : Env) : Option Nat → Value → Env
  | some i, v => upd e i v
  | none, _ => e
/-- a frame's slots out of a function, cut at n -/
def E (n : Nat) (e : Env) (d : List Deferred) : Act := { tmps := Array.ofFn (fun i : Fin n => e i.val), defers := d }
def evn (n : Nat) (e : Env) : Operand → Value
  | .tmp t => bif Nat.ble (t + 1) n then e t else undef
  | .const v => v
  | .global g => .pointer (some ⟨g, 0, none⟩)
  | .func f => .func (.func f) #[] #[]

theorem nbeq {i j : Nat} (h : i ≠ j) : Nat.beq i j = false := Bool.eq_false_iff.2 (by rw [ne_eq, Nat.beq_eq]; exact h)
theorem E_eval (n : Nat) (e : Env) (d : List Deferred) : (E n e d).eval = evn n e := by
  funext x
  cases x with
  | tmp t =>
    simp only [Act.eval, evn, E, Array.getD_eq_getD_getElem?, Array.getElem?_ofFn]
    by_cases h : t < n
    · have hb : Nat.ble (t + 1) n = true := by rw [Nat.ble_eq]; exact h
      simp [h, hb]
    · have hb : Nat.ble (t + 1) n = false := Bool.eq_false_iff.2 (by rw [ne_eq, Nat.ble_eq]; exact h)
      simp [h, hb]
  | _ => rfl

theorem E_put (n : Nat) (e : Env) (d : List Deferred) (o : Option Nat) (v : Value) : (E n e d).put o v = E n (updo e o v) d := by
  cases o with
  | none => rfl
  | some i =>
    simp only [Act.put, E, updo, Act.mk.injEq, and_true]
    refine Array.ext (by simp) fun j h1 h2 => ?_
    simp only [Array.getElem_ofFn, upd]
    by_cases h : i = j
    · subst h; simp
    · have : Nat.beq j i = false := nbeq (fun h' => h h'.symm)
      rw [Array.getElem_setIfInBounds_ne (by simpa using h1) h]
      simp [this]

theorem E_enter (args : Array Value) (n : Nat) (h : args.size ≤ n) :
    ({ tmps := args ++ Array.replicate (n - args.size) undef, defers := [] } : Act) = E n (fun i => args.toList.getD i undef) [] := by
  simp only [E, Act.mk.injEq, and_true]
  refine Array.ext (by simp; omega) fun j h1 h2 => ?_
  simp only [Array.getElem_ofFn, Array.getElem_append, Array.getElem_replicate]
  split
  · rename_i hj
    simp [List.getD, List.getElem?_eq_getElem (l := args.toList) (by simpa using hj)]
  · rename_i hj
    simp [List.getD, List.getElem?_eq_none (l := args.toList) (by simpa using hj)]

section
variable {ro : Option Nat} {P : Program} {full : Array Oper} {Q : Exit → Act → World → Prop} {n : Nat} {d : List Deferred} {e : Env} {w : World}

/-- a list of operations, one after the other -/
def wpA (ro : Option Nat) (P : Program) (full : Array Oper) (Q : Exit → Act → World → Prop) : List Oper → Act → World → Prop
  | [], a, w => Q .normal a w
  | o :: rest, a, w => if Region.wanted o (yielded full a.tmps) then o.wpIn (Fr ro) 0 P a w (wpA ro P full Q rest) Q else wpA ro P full Q rest (a.put o.dst undef) w

theorem wpA_ops (full : Array Oper) : ∀ (l : List Nat) (a : Act) (w : World), wpA ro P full Q (l.filterMap (full[·]?)) a w → wpOpsIn (Fr ro) 0 P full Q l a w
  | [], _, _, h => h
  | i :: l, a, w, h => by
    unfold wpOpsIn
    cases ho : full[i]? with
    | none =>
      simp only [List.filterMap_cons, ho] at h
      exact wpA_ops full l a w h
    | some o =>
      simp only [List.filterMap_cons, ho, wpA] at h
      simp only
      split at h
      · rename_i hw
        rw [if_pos hw]
        refine ⟨fun _ _ => trivial, ?_⟩
        obtain ⟨_, h⟩ := h
        revert h
        generalize (o.semAt (Fr ro).round a.eval).run P w = r
        intro h
        have key : ∀ (a : Act) (w : World), wpA ro P full Q (l.filterMap (full[·]?)) a w → wpOpsIn (Fr ro) 0 P full Q l a w := wpA_ops full l
        unfold Oper.uponIn at h ⊢
        split at h
        · exact key _ _ h
        · exact key _ _ h
        · exact key _ _ h
        · refine ⟨h.1, h.2.mono fun e w' he => ?_⟩
          cases e with
          | returned v => exact key _ _ he
          | panicked c => exact he
          | outgrown => exact he
        · exact ⟨h.1, h.2.mono fun v w' he => key _ _ he⟩
        · refine ⟨h.1, h.2.mono fun e w' he => ?_⟩
          cases e with
          | returned v => exact key _ _ he
          | panicked c => exact he
          | outgrown => exact he
        · exact h
        · exact h.elim
      · rename_i hw
        rw [if_neg hw]
        exact ⟨fun _ _ => trivial, wpA_ops full l _ w h⟩

theorem range_filterMap (full : Array Oper) : (List.range full.size).filterMap (full[·]?) = full.toList := by
  have : ∀ l : List Oper, (List.range l.length).filterMap (l.toArray[·]?) = l := by
    intro l
    induction l with
    | nil => rfl
    | cons x l ih =>
      simp only [List.length_cons, List.range_succ_eq_map, List.filterMap_cons, List.filterMap_map]
      simp only [List.getElem?_toArray] at ih ⊢
      simpa [Function.comp_def] using ih
  simpa using this full.toList

theorem reg {id : Nat} {l : List Oper} (h : wpA ro P l.toArray Q l (E n e d) w) : (Code.region id l.toArray false).wpIn (Fr ro) 0 P Q (E n e d) w := by
  refine wpIn_region (wpA_ops _ _ _ _ ?_)
  rw [range_filterMap]
  exact h

/-! ### one operation -/
theorem op_val {o : Oper} {rest : List Oper} {v : Value} {w' : World} (hg : o.guard = none) (hd : ∀ c, o.op ≠ .defer c) (hr : (execOp (evn n e) o).run P w = .ok (.value v) w')
    (h : wpA ro P full Q rest (E n (updo e o.dst v) d) w') : wpA ro P full Q (o :: rest) (E n e d) w := by
  unfold wpA
  rw [if_pos (by simp [Region.wanted, hg])]
  refine ⟨fun _ _ => trivial, ?_⟩
  rw [Oper.semAt_eq _ _ _ hd, E_eval, hr, Oper.uponIn_value, E_put]
  exact h
theorem op_skip {o : Oper} {rest : List Oper} {w' : World} (hg : o.guard = none) (hd : ∀ c, o.op ≠ .defer c) (hr : (execOp (evn n e) o).run P w = .ok .skip w')
    (h : wpA ro P full Q rest (E n (updo e o.dst undef) d) w') : wpA ro P full Q (o :: rest) (E n e d) w := by
  unfold wpA
  rw [if_pos (by simp [Region.wanted, hg])]
  refine ⟨fun _ _ => trivial, ?_⟩
  rw [Oper.semAt_eq _ _ _ hd, E_eval, hr, Oper.uponIn_skip, E_put]
  exact h
theorem callsIn_of {F : Fence} (hF : ∀ f, F.fn f) (hd : F.depth = none) (ha : F.alive = false) {k : Nat} {f : FuncId} {args : Array Value} {w : World} {R : Ending → World → Prop} (h : Calls P f args w R) : CallsIn F k P f args w R := by
  refine ⟨hF f, fun cs _ => ?_⟩
  obtain ⟨e, w', fr, r, s, x⟩ := h cs
  refine ⟨e, w', fr, r, ?_, x⟩
  have hfen : ∀ m : Machine, Machine.fenced P F m := by
    intro m g _
    refine ⟨fun h => by simp [ha] at h, Or.inl (hF _), fun _ _ => hF _, fun _ h => by simp [hd] at h⟩
  cases e with
  | returned v => exact (StepsIn.of_steps s).mono fun m _ => hfen m
  | panicked c => exact (StepsIn.of_steps s).mono fun m _ => hfen m
  | outgrown => exact s
/-- a call: its contract says how it returns -/
theorem op_enter {o : Oper} {rest : List Oper} {f : FuncId} {args : Array Value} {w' : World} (hg : o.guard = none) (hd : ∀ c, o.op ≠ .defer c) (hr : (execOp (evn n e) o).run P w = .ok (.enter f args) w')
    {R : Value → World → Prop} (hc : Calls P f args w' fun en w2 => ∃ v, en = .returned v ∧ R v w2)
    (h : ∀ v w2, R v w2 → wpA ro P full Q rest (E n (updo e o.dst v) d) w2) : wpA ro P full Q (o :: rest) (E n e d) w := by
  unfold wpA
  rw [if_pos (by simp [Region.wanted, hg])]
  refine ⟨fun _ _ => trivial, ?_⟩
  rw [Oper.semAt_eq _ _ _ hd, E_eval, hr, Oper.uponIn_enter]
  refine ⟨fun h => by simp at h, (callsIn_of (fun _ => trivial) rfl rfl hc).mono ?_⟩
  rintro en w2 ⟨v, rfl, hR⟩
  have := h v w2 hR
  rw [← E_put] at this
  exact this

/-! ### code -/
theorem c_seq {x y : Code} (h : x.wpIn (Fr ro) 0 P (Exit.then (y.wpIn (Fr ro) 0 P Q) Q) (E n e d) w) : (Code.seq x y).wpIn (Fr ro) 0 P Q (E n e d) w := wpIn_seq h
theorem c_skip (h : Q .normal (E n e d) w) : Code.skip.wpIn (Fr ro) 0 P Q (E n e d) w := wpIn_skip h
theorem c_ret (h : Q .ret (E n e d) w) : Code.ret.wpIn (Fr ro) 0 P Q (E n e d) w := wpIn_ret h
theorem c_exit {id : Nat} (h : Q (.exit id) (E n e d) w) : (Code.exit id).wpIn (Fr ro) 0 P Q (E n e d) w := wpIn_exit h
theorem c_label {l : Nat} (h : Q .normal (E n e d) w) : (Code.label l).wpIn (Fr ro) 0 P Q (E n e d) w := wpIn_label h
theorem c_block {id : Nat} {c : Code} (h : c.wpIn (Fr ro) 0 P (Exit.inBlock id Q) (E n e d) w) : (Code.block id c).wpIn (Fr ro) 0 P Q (E n e d) w := wpIn_block h
theorem c_cond {c : Operand} {x y : Code} {t : Bool} (hc : evn n e c = .bool t) (ht : t = true → x.wpIn (Fr ro) 0 P Q (E n e d) w)
    (hf : t = false → y.wpIn (Fr ro) 0 P Q (E n e d) w) : (Code.cond c x y).wpIn (Fr ro) 0 P Q (E n e d) w :=
  wpIn_cond_split (by rw [E_eval]; exact hc) ht hf
theorem c_true {c : Operand} {x y : Code} (hc : evn n e c = .bool true) (ht : x.wpIn (Fr ro) 0 P Q (E n e d) w) : (Code.cond c x y).wpIn (Fr ro) 0 P Q (E n e d) w :=
  wpIn_cond_true (by rw [E_eval]; exact hc) ht
theorem c_false {c : Operand} {x y : Code} (hc : evn n e c = .bool false) (hf : y.wpIn (Fr ro) 0 P Q (E n e d) w) : (Code.cond c x y).wpIn (Fr ro) 0 P Q (E n e d) w :=
  wpIn_cond_false (by rw [E_eval]; exact hc) hf

/-- a scope in which no goto jumps -/
def noGo (Q : Exit → Act → World → Prop) : Exit → Act → World → Prop
  | .goto _, _, _ => False
  | e, a, w => Q e a w
theorem c_scope {c : Code} (h : c.wpIn (Fr ro) 0 P (noGo Q) (E n e d) w) : (Code.scope c).wpIn (Fr ro) 0 P Q (E n e d) w := by
  intro b k cs hro hb hr
  have h0 : (lone (b.atR (E n e d) (.code (.scope c) :: k)) cs w).fenced P (Fr ro) := fenced_calm hb hr rfl
  have s1 : step P (lone (b.atR (E n e d) (.code (.scope c) :: k)) cs w) = .next (lone (b.atR (E n e d) (.code c :: .inScope c :: k)) cs w) := step_lone_go (by simp [stepG, stepG.exec, Frame.atR])
  have s2 : ∀ a w, step P (lone (b.atR a (.inScope c :: k)) cs w) = .next (lone (b.atR a k) cs w) := fun a w => step_lone_go (by simp [stepG, stepG.exec, Frame.atR])
  obtain ⟨e, a₁, w₁, hq, harr⟩ := h b (.inScope c :: k) cs hro hb hr
  cases e with
  | normal => exact ⟨.normal, a₁, w₁, hq, .head h0 s1 (StepsIn.trans harr (.one (fenced_calm hb hr rfl) (s2 _ _)))⟩
  | exit id' =>
    have hx : exitTo id' (.inScope c :: k) = exitTo id' k := by simp [exitTo]
    exact ⟨.exit id', a₁, w₁, hq, fun k' hk => .head h0 s1 (harr.1 k' (by rw [hx]; exact hk)),
      fun hr' hk => let ⟨k₁, h1, h2⟩ := harr.2 hr' (by rw [hx]; exact hk); ⟨k₁, h1, .head h0 s1 h2⟩⟩
  | goto l => exact hq.elim
  | ret => exact ⟨_, a₁, w₁, hq, .of_steps (.one h0 s1) harr⟩
  | panic ch => exact ⟨_, a₁, w₁, hq, .of_steps (.one h0 s1) harr⟩
  | outgrown => exact ⟨_, a₁, w₁, hq, .of_steps (.one h0 s1) harr⟩

/-- what is known of slots: a list of them with their values, over any other ones -/
def ups (g : Env) : List (Nat × Value) → Env
  | [] => g
  | (i, v) :: l => upd (ups g l) i v
/-- the slots of L hold in e what L says -/
def Has (e : Env) : List (Nat × Value) → Prop
  | [] => True
  | (i, v) :: l => e i = v ∧ Has e l
theorem ups_has {e : Env} : ∀ {L : List (Nat × Value)}, Has e L → ups e L = e
  | [], _ => rfl
  | (i, v) :: l, h => by
    have ih := ups_has h.2
    simp only [ups, ih]
    funext j
    simp only [upd]
    by_cases hj : j = i
    · subst hj; simp [h.1]
    · simp [nbeq hj]
/-- a loop: what is known at its head, of which a measure goes down -/
theorem c_loop {c : Code} {α : Type} (L : α → List (Nat × Value)) (I : α → World → Prop) (μ : α → Nat) (x : α) (hL : Has e (L x)) (h0 : I x w)
    (round : ∀ (x : α) (g : Env) (w : World), I x w →
      c.wpIn (Fr ro) 0 P (Exit.then (fun a w' => ∃ (y : α) (e' : Env), a = E n e' d ∧ Has e' (L y) ∧ I y w' ∧ μ y < μ x) Q) (E n (ups g (L x)) d) w) :
    (Code.loop c).wpIn (Fr ro) 0 P Q (E n e d) w := by
  let J : Nat → Act → World → Prop := fun m a w => ∃ (y : α) (e' : Env), a = E n e' d ∧ Has e' (L y) ∧ I y w ∧ μ y = m
  have key : ∀ (m : Nat) (a : Act) (w : World), J m a w → (Code.loop c).wpIn (Fr ro) 0 P Q a w := by
    intro m a w hJ
    classical
    refine wpIn_loop (fun a w => ∃ m, J m a w) (fun a w => if h : ∃ m, J m a w then Classical.epsilon (fun k => J k a w ∧ ∀ k', J k' a w → k ≤ k') else 0) ⟨m, hJ⟩ ?_
    intro a w hex
    -- the least measure that fits
    have hleast : ∃ k, J k a w ∧ ∀ k', J k' a w → k ≤ k' := by
      obtain ⟨m, hm⟩ := hex
      induction m using Nat.strongRecOn with
      | _ m ih =>
        by_cases hh : ∃ k, k < m ∧ J k a w
        · obtain ⟨k, hk, hj⟩ := hh
          exact ih k hk hj
        · exact ⟨m, hm, fun k' hk' => Nat.le_of_not_lt fun hlt => hh ⟨k', hlt, hk'⟩⟩
    have heps := Classical.epsilon_spec hleast
    obtain ⟨⟨y, e', rfl, hh, hI, hy⟩, hmin⟩ := heps
    have hr := round y e' w hI
    rw [ups_has hh] at hr
    refine wpIn_mono hr ?_
    intro ex a' w' hq
    cases ex with
    | normal =>
      obtain ⟨z, e2, rfl, hz, hIz, hlt⟩ := hq
      refine ⟨⟨μ z, z, e2, rfl, hz, hIz, rfl⟩, ?_⟩
      rw [dif_pos hex]
      have hexz : ∃ m, J m (E n e2 d) w' := ⟨μ z, z, e2, rfl, hz, hIz, rfl⟩
      rw [dif_pos hexz]
      have hleastz : ∃ k, J k (E n e2 d) w' ∧ ∀ k', J k' (E n e2 d) w' → k ≤ k' := by
        obtain ⟨m, hm⟩ := hexz
        induction m using Nat.strongRecOn with
        | _ m ih =>
          by_cases hh : ∃ k, k < m ∧ J k (E n e2 d) w'
          · obtain ⟨k, hk, hj⟩ := hh
            exact ih k hk hj
          · exact ⟨m, hm, fun k' hk' => Nat.le_of_not_lt fun hlt => hh ⟨k', hlt, hk'⟩⟩
      have hz2 := (Classical.epsilon_spec hleastz).2 (μ z) ⟨z, e2, rfl, hz, hIz, rfl⟩
      omega
    | exit id => exact hq
    | goto l => exact hq
    | ret => exact hq
    | panic c => exact hq
    | outgrown => exact hq
  exact key (μ x) _ w ⟨x, e, rfl, hL, h0, rfl⟩

end
theorem wp_nil {ro : Option Nat} {P : Program} {full : Array Oper} {Q : Exit → Act → World → Prop} {a : Act} {w : World} (h : Q .normal a w) : wpA ro P full Q [] a w := by
  unfold wpA
  exact h
attribute [irreducible] wpA
end Go.Fx

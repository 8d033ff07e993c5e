/- Part of a logic of my own for walks: rules by which a proof steps through code, proved once. -/
import Derived.Test.YticodohfokgjfaaDoorZFxMap
set_option linter.unusedSimpArgs false
set_option linter.unusedVariables false
namespace Go.Fx
open Go

/-! ### ranges over functions -/
/-- a call of a loop's yield: whether it says 'go on', and what it leaves -/
def YieldsTo (P : Program) (l : Nat) (args : Array Value) (w : World) (R : Bool → World → Prop) : Prop :=
  YieldAt (Fr none) 0 P l args w fun en w' => ∃ r, en = .returned (.bool r) ∧ R r w'
/-- several words at once, their blocks apart -/
def all (X : List Asr) : Asr where
  fp b := ∃ x ∈ X, x.fp b
  ok w := (∀ x ∈ X, x.ok w) ∧ X.Pairwise (fun (p q : Asr) => ∀ b, p.fp b → ¬ q.fp b)
  mono w w' h k := ⟨fun x hx => x.mono _ _ (h.1 x hx) fun b hb => k b ⟨x, hx, hb⟩, h.2⟩
  inb w b h hb := by obtain ⟨x, hx, hb⟩ := hb; exact x.inb _ _ (h.1 x hx) hb
section
variable {w0 w w' : World} {C : Nat → Prop} {X L : List Asr}
theorem St.pick (S : St w0 C w X L) (is : List Nat) (hn : is.Nodup) {X' : List Asr} (hX : is.filterMap (X[·]?) = X') {k : Nat} {L' : List Asr} (hL : L.drop k = L') : St w0 C w X' L' := by
  subst hX hL
  have hmem : ∀ x ∈ is.filterMap (X[·]?), x ∈ X := fun x hx => by
    obtain ⟨i, _, hi⟩ := List.mem_filterMap.1 hx
    exact List.mem_of_getElem? hi
  refine ⟨S.keep, fun x hx => S.xs x (hmem x hx), fun p hp => S.ps p (List.mem_of_mem_drop hp), ?_, fun x hx p hp => S.dp x (hmem x hx) p (List.mem_of_mem_drop hp), fun x hx => S.own x (hmem x hx)⟩
  have hdx := S.dx
  clear hmem
  induction is with
  | nil => exact List.Pairwise.nil
  | cons i is ih =>
    rw [List.nodup_cons] at hn
    rw [List.filterMap_cons]
    cases hi : X[i]? with
    | none => exact ih hn.2
    | some x =>
      refine List.Pairwise.cons (fun y hy b h1 h2 => ?_) (ih hn.2)
      obtain ⟨j, hj, hjy⟩ := List.mem_filterMap.1 hy
      obtain ⟨hil, rfl⟩ := List.getElem?_eq_some_iff.1 hi
      obtain ⟨hjl, rfl⟩ := List.getElem?_eq_some_iff.1 hjy
      rcases Nat.lt_trichotomy i j with h | h | h
      · exact List.pairwise_iff_getElem.1 hdx i j hil hjl h b h1 h2
      · exact hn.1 (h ▸ hj)
      · exact List.pairwise_iff_getElem.1 hdx j i hjl hil h b h2 h1
theorem St.allX (S : St w0 C w X L) : (all X).ok w := ⟨S.xs, S.dx⟩
theorem St.startX (A : Asr) (hA : A.ok w) (hL : ∀ p ∈ L, p.ok w) (hd : ∀ p ∈ L, ∀ b, p.fp b → ¬ A.fp b) : St w A.fp w [A] L :=
  ⟨Keep.refl _ _, fun x hx => by rw [List.mem_singleton.1 hx]; exact hA, hL, List.pairwise_singleton _ _, fun x hx p hp b h1 h2 => by rw [List.mem_singleton.1 hx] at h1; exact hd p hp b h2 h1, fun x hx b hb => by rw [List.mem_singleton.1 hx] at hb; exact .inr hb⟩
theorem St.perm (S : St w0 C w X L) {X' : List Asr} (h : X.Perm X') : St w0 C w X' L :=
  ⟨S.keep, fun x hx => S.xs x (h.mem_iff.2 hx), S.ps, (h.pairwise_iff (fun {x y} hxy b h1 h2 => hxy b h2 h1)).1 S.dx, fun x hx => S.dp x (h.mem_iff.2 hx), fun x hx => S.own x (h.mem_iff.2 hx)⟩
/-- behind something that has turned the first of the own words (and nothing else) -/
theorem St.frame {X1 X2 : List Asr} (S : St w0 C w (X1 ++ X2) L) {X' : List Asr} (hk : Keep (all X1).fp w w') (hok : (all X').ok w') (hf : ∀ b, (all X').fp b → (all X1).fp b ∨ w.heap.size ≤ b) : St w0 C w' (X' ++ X2) L := by
  have hdx := List.pairwise_append.1 S.dx
  have hne : ∀ z ∈ X2, ∀ b, z.fp b → ¬ (all X1).fp b := fun z hz b hb ⟨x, hx, hxb⟩ => hdx.2.2 x hx z hz b hxb hb
  have hnp : ∀ p ∈ L, ∀ b, p.fp b → ¬ (all X1).fp b := fun p hp b hb ⟨x, hx, hxb⟩ => S.dp x (List.mem_append_left _ hx) p hp b hxb hb
  refine ⟨⟨hk.os.trans S.keep.os, hk.tape.trans S.keep.tape, hk.output.trans S.keep.output, Nat.le_trans S.keep.size hk.size, fun b hb hC => ?_⟩, fun x hx => ?_, fun p hp => ?_, List.pairwise_append.2 ⟨hok.2, hdx.2.1, fun x hx z hz b h1 h2 => ?_⟩, fun x hx p hp b hxb hpb => ?_, fun x hx b hxb => ?_⟩
  · refine (hk.block b (Nat.lt_of_lt_of_le hb S.keep.size) fun ⟨x, hx, hxb⟩ => ?_).trans (S.keep.block b hb hC)
    rcases S.own x (List.mem_append_left _ hx) b hxb with h | h
    · omega
    · exact hC h
  · rcases List.mem_append.1 hx with h | h
    · exact hok.1 x h
    · exact x.mono _ _ (S.xs x (List.mem_append_right _ h)) fun b hb => hk.block b (x.inb _ _ (S.xs x (List.mem_append_right _ h)) hb) (hne x h b hb)
  · exact p.mono _ _ (S.ps p hp) fun b hb => hk.block b (p.inb _ _ (S.ps p hp) hb) (hnp p hp b hb)
  · rcases hf b ⟨x, hx, h1⟩ with h | h
    · exact hne z hz b h2 h
    · have := z.inb _ _ (S.xs z (List.mem_append_right _ hz)) h2; omega
  · rcases List.mem_append.1 hx with h | h
    · rcases hf b ⟨x, h, hxb⟩ with h | h
      · exact hnp p hp b hpb h
      · have := p.inb _ _ (S.ps p hp) hpb; omega
    · exact S.dp x (List.mem_append_right _ h) p hp b hxb hpb
  · rcases List.mem_append.1 hx with h | h
    · rcases hf b ⟨x, h, hxb⟩ with ⟨y, hy, hyb⟩ | h
      · exact S.own y (List.mem_append_left _ hy) b hyb
      · exact .inl (Nat.le_trans S.keep.size h)
    · exact S.own x (List.mem_append_right _ h) b hxb
/-- behind something that has turned the own words (and nothing else), as a whole -/
theorem St.whole (S : St w0 C w X L) {X' : List Asr} (hk : Keep (all X).fp w w') (hok : (all X').ok w') (hf : ∀ b, (all X').fp b → (all X).fp b ∨ w.heap.size ≤ b) : St w0 C w' X' L := by
  refine ⟨⟨hk.os.trans S.keep.os, hk.tape.trans S.keep.tape, hk.output.trans S.keep.output, Nat.le_trans S.keep.size hk.size, fun b hb hC => ?_⟩, hok.1, fun p hp => ?_, hok.2, fun x hx p hp b hxb hpb => ?_, fun x hx b hxb => ?_⟩
  · refine (hk.block b (Nat.lt_of_lt_of_le hb S.keep.size) fun ⟨x, hx, hxb⟩ => ?_).trans (S.keep.block b hb hC)
    rcases S.own x hx b hxb with h | h
    · omega
    · exact hC h
  · refine p.mono _ _ (S.ps p hp) fun b hb => hk.block b (p.inb _ _ (S.ps p hp) hb) fun ⟨x, hx, hxb⟩ => S.dp x hx p hp b hxb hb
  · rcases hf b ⟨x, hx, hxb⟩ with ⟨y, hy, hyb⟩ | h
    · exact S.dp y hy p hp b hyb hpb
    · have := p.inb _ _ (S.ps p hp) hpb; omega
  · rcases hf b ⟨x, hx, hxb⟩ with ⟨y, hy, hyb⟩ | h
    · exact S.own y hy b hyb
    · exact .inl (Nat.le_trans S.keep.size h)
end

section
variable {ro : Option Nat} {P : Program} {full : Array Oper} {Q : Exit → Act → World → Prop} {n : Nat} {d : List Deferred} {e : Env} {w w0 : World} {C : Nat → Prop} {X L : List Asr}
variable {rest : List Oper} {ty : TypeId} {ps : String} {af : Array Edge}
theorem roundIn_of {F F' : Fence} (h1 : ∀ f, F'.fn f) (h2 : F'.depth = none) (h3 : F'.alive = false) {k : Nat} {l f : Nat} {tmps : Array Value} {assign body : Code} {w : World} {R : Ending → World → Prop} (hF : F.depth = none) (h : RoundIn F k P l f tmps assign body w R) : RoundIn F' k P l f tmps assign body w R := by
  refine ⟨h1 f, fun c cs _ => ?_⟩
  obtain ⟨e, w', r, s⟩ := h.2 c cs (fun d hd => by rw [hF] at hd; cases hd)
  refine ⟨e, w', r, ?_⟩
  have hfen : ∀ m : Machine, Machine.fenced P F' m := by
    intro m g _
    exact ⟨fun h => by simp [h3] at h, Or.inl (h1 _), fun _ _ => h1 _, fun _ h => by simp [h2] at h⟩
  cases e with
  | returned v => exact StepsIn.mono (fun m _ => hfen m) s
  | panicked c => exact StepsIn.mono (fun m _ => hfen m) s
  | outgrown => exact s
theorem o_yield {i l : Nat} {g : Operand} {as : Array Operand} {ts : Array TypeId} {args : List Value} {R : Bool → World → Prop} (hg : evn n e g = .func (.yield l) #[] #[]) (ha : as.toList.map (evn n e) = args) (hy : YieldsTo P l args.toArray w R)
    (h : ∀ r w', R r w' → wpA ro P full Q rest (E n (upd e i (.bool r)) d) w') : wpA ro P full Q (⟨some i, .call ⟨.value g, as, ts⟩, ty, ps, af, none⟩ :: rest) (E n e d) w := by
  obtain ⟨fn, tmps, assign, body, hrun, hR⟩ := hy
  have ha' : as.map (evn n e) = args.toArray := by rw [← ha]; exact Array.ext' (by simp)
  have hr : (execOp (evn n e) ⟨some i, .call ⟨.value g, as, ts⟩, ty, ps, af, none⟩).run P w = .ok (.round l fn tmps assign body) w := by
    simp [execOp, resolve, hg, ha', Deferred.ofValue, invoke, hrun]
  unfold wpA
  rw [if_pos (by simp [Region.wanted])]
  refine ⟨fun _ _ => trivial, ?_⟩
  rw [Oper.semAt_eq _ _ _ (fun _ h => by cases h), E_eval, hr, Oper.uponIn_round]
  refine ⟨fun h => by simp at h, (roundIn_of (fun _ => trivial) rfl rfl rfl hR).mono ?_⟩
  rintro en w2 ⟨r, rfl, hR⟩
  have := h r w2 hR
  rw [show upd e i (.bool r) = updo e (some i) (.bool r) from rfl, ← E_put] at this
  exact this
end

/-! the statement -/
section
variable {ro : Option Nat} {P : Program} {Q : Exit → Act → World → Prop} {n : Nat} {d : List Deferred} {e : Env} {w w0 : World} {C : Nat → Prop} {L : List Asr}
variable {α : Type}
/-- a loop's record -/
def recL (fn : Nat) (tmps : Array Value) (params : Array Tmp) (assign body : Code) (D : Nat) (s : LoopState) (p : Option Code) : Loop := { state := s, pending := p, fn, tmps, params, assign, body, defers := D }
def upl (e : Env) (ps : List Nat) (xs : List Value) : Env := (ps.zip xs).foldl (fun e p => upd e p.1 p.2) e
theorem upl_E (n : Nat) (d : List Deferred) (ps : List Nat) : ∀ (xs : List Value) (e : Env), ((ps.zip xs).foldl (fun (t : Array Value) (p : Nat × Value) => t.setIfInBounds p.1 p.2) (E n e d).tmps) = (E n (upl e ps xs) d).tmps := by
  induction ps with
  | nil => intro xs e; rfl
  | cons p ps ih =>
    intro xs e
    cases xs with
    | nil => rfl
    | cons x xs =>
      have h := congrArg Act.tmps (E_put n e d (some p) x)
      simp only [Act.put, updo] at h
      simp only [List.zip_cons_cons, List.foldl_cons, upl]
      rw [h]
      exact ih xs (upd e p x)
def Gn (l : Nat) (rc : LoopState → Option Code → Loop) (I : Nat → α → Prop) (X : α → List Asr) (i : Nat) (A : Asr) : Prop := ∃ y, I i y ∧ A = all (bx l (.loop (rc .ready none)) :: X y)
def Gj (l : Nat) (rc : LoopState → Option Code → Loop) (Ix : Code → α → Prop) (X : α → List Asr) (A : Asr) : Prop := ∃ y c, Ix c y ∧ A = all (bx l (.loop (rc .done (some c))) :: X y)
/-- what a round must come to -/
def RR (l : Nat) (rc : LoopState → Option Code → Loop) (I : Nat → α → Prop) (Ix : Code → α → Prop) (X : α → List Asr) (i : Nat) (w2 : World) (A : Asr) : Ending → World → Prop := fun en w3 =>
  ∃ r, en = .returned (.bool r) ∧ Keep A.fp w2 w3 ∧ ∃ A', A'.ok w3 ∧ (∀ b, A'.fp b → A.fp b ∨ w2.heap.size ≤ b) ∧ ((r = true ∧ Gn l rc I X (i + 1) A') ∨ (r = false ∧ Gj l rc Ix X A'))
variable {l : Nat} {rc : LoopState → Option Code → Loop} {I : Nat → α → Prop} {Ix : Code → α → Prop} {X : α → List Asr} {i : Nat} {w2 w3 : World} {A : Asr} {a : Act}
theorem run_getLoop {r : Loop} (h : w.heap[l]? = some (.loop r)) : (Instr.getLoop l).run P w = .ok r w := by
  have : (getObj l).run P w = .ok (.loop r) w := by simp only [getObj, Sem.run, h]
  simp [Instr.getLoop, this]
theorem run_setLoop {r r' : Loop} (h : w.heap[l]? = some (.loop r)) : (setObj l (.loop r')).run P w = .ok () (setB w l (.loop r')) := by
  simp only [setObj, Sem.run, h]; rfl
theorem rr_aux {y' : α} {o : Obj} (S : St w2 A.fp w3 (bx l o :: X y') L) (o' : Obj) : Keep A.fp w2 (setB w3 l o') ∧ (all (bx l o' :: X y')).ok (setB w3 l o') ∧ (∀ b, (all (bx l o' :: X y')).fp b → A.fp b ∨ w2.heap.size ≤ b) := by
  have S' : St w2 A.fp (setB w3 l o') (bx l o' :: X y') L := S.setB (i := 0) rfl
  exact ⟨S'.keep, S'.allX, fun b ⟨x, hx, hb⟩ => (S'.own x hx b hb).symm⟩
/-- a round's end, off its body -/
theorem rr_next {fn D : Nat} {tmps : Array Value} {params : Array Tmp} {assign body : Code} {y' : α} {q : Option Code} (S : St w2 A.fp w3 (bx l (.loop (recL fn tmps params assign body D .busy q)) :: X y') L) (hI : I (i + 1) y') :
    roundPost P l (RR l (recL fn tmps params assign body D) I Ix X i w2 A) .normal a w3 := by
  obtain ⟨h1, h2, h3⟩ := rr_aux S (.loop (recL fn tmps params assign body D .ready none))
  refine ⟨.bool true, setB w3 l (.loop (recL fn tmps params assign body D .ready none)), ?_, true, rfl, h1, _, h2, h3, .inl ⟨rfl, y', hI, rfl⟩⟩
  simp [Instr.endRound, run_getLoop (S.at (i := 0) rfl), run_setLoop (S.at (i := 0) rfl), recL]
theorem rr_ret {fn D : Nat} {tmps : Array Value} {params : Array Tmp} {assign body : Code} {y' : α} {q : Option Code} (S : St w2 A.fp w3 (bx l (.loop (recL fn tmps params assign body D .busy q)) :: X y') L) (hI : Ix .ret y') :
    roundPost P l (RR l (recL fn tmps params assign body D) I Ix X i w2 A) .ret a w3 := by
  obtain ⟨h1, h2, h3⟩ := rr_aux S (.loop (recL fn tmps params assign body D .done (some .ret)))
  refine ⟨.bool false, setB w3 l (.loop (recL fn tmps params assign body D .done (some .ret))), ?_, false, rfl, h1, _, h2, h3, .inr ⟨rfl, y', .ret, hI, rfl⟩⟩
  simp [Instr.endRound, run_getLoop (S.at (i := 0) rfl), run_setLoop (S.at (i := 0) rfl), recL]
theorem rr_exit {fn D id : Nat} {tmps : Array Value} {params : Array Tmp} {assign body : Code} {y' : α} {q : Option Code} (S : St w2 A.fp w3 (bx l (.loop (recL fn tmps params assign body D .busy q)) :: X y') L) (hI : Ix (.exit id) y') :
    roundPost P l (RR l (recL fn tmps params assign body D) I Ix X i w2 A) (.exit id) a w3 := by
  obtain ⟨h1, h2, h3⟩ := rr_aux S (.loop (recL fn tmps params assign body D .done (some (.exit id))))
  refine ⟨.bool false, setB w3 l (.loop (recL fn tmps params assign body D .done (some (.exit id)))), ?_, false, rfl, h1, _, h2, h3, .inr ⟨rfl, y', .exit id, hI, rfl⟩⟩
  simp [Instr.endRound, run_getLoop (S.at (i := 0) rfl), run_setLoop (S.at (i := 0) rfl), recL]
/-- a round's begin, behind the assignment to the loop's variables -/
theorem rr_begin {fn D k : Nat} {tmps : Array Value} {params : Array Tmp} {assign body : Code} {XX : List Asr} {q : Option Code} {K : World → Prop} (S : St w0 C w XX L) (hi : XX[k]? = some (bx l (.loop (recL fn tmps params assign body D .ready q))))
    (h : ∀ w', St w0 C w' (XX.set k (bx l (.loop (recL fn tmps params assign body D .busy q)))) L → K w') : ∃ w', (Instr.beginRound l).run P w = .ok () w' ∧ K w' := by
  refine ⟨setB w l (.loop (recL fn tmps params assign body D .busy q)), ?_, h _ (S.setB hi)⟩
  simp [Instr.beginRound, run_getLoop (S.at hi), run_setLoop (S.at hi), recL]

def mark (D : Nat) : List Deferred := [{ target := .collected D, args := #[] }]
theorem run_endLoop {r : Loop} (h : w.heap[l]? = some (.loop r)) (hb : r.state ≠ .busy) : (Instr.endLoop l).run P w = .ok r.pending (setB w l (.loop { r with state := .exhausted })) := by
  have : (r.state == .busy) = false := by cases hr : r.state <;> simp_all <;> rfl
  simp [Instr.endLoop, run_getLoop h, run_setLoop h]
  exact fun h => absurd h hb
/-- a mark is met on the way out -/
theorem leave_mark {fn : Func} {R : Ending → World → Prop} {XX : List Asr} {i D : Nat} (S : St w0 C w XX L) (hi : XX[i]? = some (bx D (.deferred (some [])))) (h : ∀ w', St w0 C w' (XX.set i (bx D (.deferred none))) L → bodyPostM (Fr none) 0 P fn R .ret (E n e d) w') :
    bodyPostM (Fr none) 0 P fn R .ret (E n e (mark D ++ d)) w := by
  refine ⟨by simp, .inl ⟨D, setB w D (.deferred none), rfl, ?_, h _ (S.setB hi)⟩⟩
  have h1 := S.at hi
  have h2 : (getObj D).run P w = .ok (.deferred (some [])) w := by simp only [getObj, Sem.run, h1]
  have h3 : (setObj D (.deferred none)).run P w = .ok () (setB w D (.deferred none)) := by simp only [setObj, Sem.run, h1]; rfl
  simp [Instr.takeDeferred, h2, h3]
end
end Go.Fx

/- Part of a logic of my own for walks: rules by which a proof steps through code, proved once. -/
import Derived.Test.YticodohfokgjfaaDoorZFxGen
set_option linter.unusedSimpArgs false
set_option linter.unusedVariables false
namespace Go.Fx
open Go
/-! ### ranges over functions, by a state that is passed on -/
/-- the caller's word, at a state of his -/
def ga {σ : Type} (G : σ → Asr → Prop) (s : σ) (A : Asr) : Asr where
  fp := A.fp
  ok w := G s A ∧ A.ok w
  mono w w' h k := ⟨h.1, A.mono _ _ h.2 k⟩
  inb w b h hb := A.inb _ _ h.2 hb
/-- what has turned since w0 (but for C) has turned since w (but for C0) -/
structure Link (w : World) (C0 : Nat → Prop) (w0 : World) (C : Nat → Prop) : Prop where
  keep : Keep C0 w w0
  fp : ∀ b, C b → C0 b ∨ w.heap.size ≤ b
theorem Link.refl (w : World) (C : Nat → Prop) : Link w C w C := ⟨Keep.refl _ _, fun _ h => .inl h⟩
theorem Link.trans {w w0 w1 : World} {C0 C C1 : Nat → Prop} (h : Link w C0 w0 C) (k : Link w0 C w1 C1) : Link w C0 w1 C1 := by
  refine ⟨⟨k.keep.os.trans h.keep.os, k.keep.tape.trans h.keep.tape, k.keep.output.trans h.keep.output, Nat.le_trans h.keep.size k.keep.size, fun b hb hn => ?_⟩, fun b hb => ?_⟩
  · refine (k.keep.block b (Nat.lt_of_lt_of_le hb h.keep.size) fun hc => ?_).trans (h.keep.block b hb hn)
    rcases h.fp b hc with h' | h'
    · exact hn h'
    · omega
  · rcases k.fp b hb with h' | h'
    · exact h.fp b h'
    · exact .inr (Nat.le_trans h.keep.size h')
theorem Link.of {w w0 w1 : World} {C0 C : Nat → Prop} (h : Link w C0 w0 C) (k : Keep C w0 w1) : Keep C0 w w1 := (h.trans ⟨k, fun _ h => .inl h⟩ : Link w C0 w1 C).keep
/-- each call of yield comes to what yv says -/
def YH (P : Program) (l : Nat) {ε σ : Type} (enc : ε → List Value) (yv : ε → σ → Option (Bool × σ)) (G : σ → Asr → Prop) (w : World) (C0 : Nat → Prop) : Prop :=
  ∀ x s b s2 A w2, yv x s = some (b, s2) → G s A → A.ok w2 → Keep C0 w w2 → (∀ b, A.fp b → C0 b ∨ w.heap.size ≤ b) →
    YieldsTo P l (enc x).toArray w2 fun r w3 => r = b ∧ Keep A.fp w2 w3 ∧ ∃ A', A'.ok w3 ∧ (∀ b, A'.fp b → A.fp b ∨ w2.heap.size ≤ b) ∧ G s2 A'
/-- a function that is called with yield: it comes to what the plain one says -/
def IterG (P : Program) (f : Nat) (first caps : Array Value) {ε : Type} (enc : ε → List Value) (it : ∀ {σ : Type}, (ε → σ → Option (Bool × σ)) → σ → Option σ) (w : World) (K : List Asr) : Prop :=
  ∀ (σ : Type) (yv : ε → σ → Option (Bool × σ)) (s s' : σ) (l : Nat) (G : σ → Asr → Prop) (A0 : Asr), it yv s = some s' → (ga G s A0).ok w → (∀ p ∈ K, p.ok w) → (∀ p ∈ K, ∀ b, p.fp b → ¬ A0.fp b) → YH P l enc yv G w A0.fp →
    Calls P f (first ++ #[.func (.yield l) #[] #[]] ++ caps) w fun en w' => ∃ v, en = .returned v ∧ Keep A0.fp w w' ∧ ∃ A', (ga G s' A').ok w' ∧ (∀ b, A'.fp b → A0.fp b ∨ w.heap.size ≤ b)
/-- a body of a range, as what yield comes to: the number tells how the range is left (0: not yet) -/
def yvOf {ε α : Type} (bd : ε → α → Option (Bool × Nat × α)) (x : ε) (s : Nat × α) : Option (Bool × Nat × α) := bif s.1 == 0 then bd x s.2 else none
theorem yvOf_some {ε α : Type} {bd : ε → α → Option (Bool × Nat × α)} {x : ε} {s : Nat × α} {r : Bool × Nat × α} (h : yvOf bd x s = some r) : s.1 = 0 ∧ bd x s.2 = some r := by
  unfold yvOf at h
  cases hs : (s.1 == 0)
  · rw [hs] at h; cases h
  · rw [hs] at h; exact ⟨by simpa using hs, h⟩
/-- how a round is left -/
def exOf : Code → Exit
  | .ret => .ret
  | .exit id => .exit id
  | _ => .normal
section
variable {P : Program} {w0 w : World} {C : Nat → Prop} {X L : List Asr}
theorem o_yieldG {ro : Option Nat} {full : Array Oper} {Q : Exit → Act → World → Prop} {n : Nat} {d : List Deferred} {e : Env} {rest : List Oper} {ty : TypeId} {ps : String} {af : Array Edge}
    {ε σ : Type} {enc : ε → List Value} {yv : ε → σ → Option (Bool × σ)} {G : σ → Asr → Prop} {s s2 : σ} {A : Asr} {wb : World} {C0 : Nat → Prop} {x : ε} {b : Bool} {i l j : Nat} {g : Operand} {as : Array Operand} {ts : Array TypeId}
    (hb : yv x s = some (b, s2)) (hy : YH P l enc yv G wb C0) (hl : Link wb C0 w0 C) (S : St w0 C w X L) (hj : X[j]? = some (ga G s A)) (hg : evn n e g = .func (.yield l) #[] #[]) (ha : as.toList.map (evn n e) = enc x)
    (h : ∀ A' w', St w0 C w' (X.set j (ga G s2 A')) L → wpA ro P full Q rest (E n (upd e i (.bool b)) d) w') : wpA ro P full Q (⟨some i, .call ⟨.value g, as, ts⟩, ty, ps, af, none⟩ :: rest) (E n e d) w := by
  have hA : (ga G s A).ok w := S.atX hj
  have hf : ∀ b, A.fp b → C0 b ∨ wb.heap.size ≤ b := fun b hb => by
    rcases S.own _ (List.mem_of_getElem? hj) b hb with h | h
    · exact .inr (Nat.le_trans hl.keep.size h)
    · exact hl.fp b h
  refine o_yield hg ha (hy x s b s2 A w hb hA.1 hA.2 (hl.of S.keep) hf) fun r w' ⟨hr, hk, A', hok, hfp, hG⟩ => ?_
  subst hr
  exact h A' w' (S.turn hj (y := ga G s2 A') ⟨hG, hok⟩ hfp hk.os hk.tape hk.output hk.size fun b hb hne => hk.block b hb hne)
/-- behind a call of a function that calls yield -/
theorem St.itCall {σ : Type} {G : σ → Asr → Prop} {s s2 : σ} {A A' : Asr} {w' : World} (S : St w0 C w X L) {j : Nat} (hj : X[j]? = some (ga G s A)) (hk : Keep A.fp w w') (hok : (ga G s2 A').ok w') (hf : ∀ b, A'.fp b → A.fp b ∨ w.heap.size ≤ b) : St w0 C w' (X.set j (ga G s2 A')) L :=
  S.turn hj hok hf hk.os hk.tape hk.output hk.size fun b hb hne => hk.block b hb hne
/-- the caller's word is the own word of what is called -/
theorem St.link {σ : Type} {G : σ → Asr → Prop} {s : σ} {A : Asr} {wb : World} {C0 : Nat → Prop} (S : St w0 C w X L) {j : Nat} (hj : X[j]? = some (ga G s A)) (hl : Link wb C0 w0 C) : Link wb C0 w A.fp :=
  hl.trans ⟨S.keep, fun b hb => (S.own _ (List.mem_of_getElem? hj) b hb).symm⟩
theorem St.apart {A : Asr} (S : St w0 C w X L) {j : Nat} {p : Asr} (hj : X[j]? = some p) (hp : ∀ b, A.fp b → p.fp b) : ∀ q ∈ L, ∀ b, q.fp b → ¬ A.fp b := fun q hq b h1 h2 => S.dp _ (List.mem_of_getElem? hj) q hq b (hp b h2) h1
end
section
variable {ro : Option Nat} {P : Program} {Q : Exit → Act → World → Prop} {n : Nat} {d : List Deferred} {e : Env} {w w0 : World} {C : Nat → Prop} {L : List Asr}
variable {α β ε : Type}
/-- the loop's record is laid: outside of a round -/
theorem ent_none {X0 : List Asr} {tm : Array Value} {ps : Array Tmp} {assign body : Code} (S : St w0 C w X0 L) : ∀ fn, ∃ l D w1, (Instr.enterLoop fn tm ps assign body none).run P w = .ok (l, mark D) w1 ∧
    St w0 C w1 (bx l (.loop (recL fn tm ps assign body D .ready none)) :: (X0 ++ [bx D (.deferred (some []))])) L := by
  intro fn
  refine ⟨(w.alloc (.deferred (some []))).heap.size, w.heap.size, (w.alloc (.deferred (some []))).alloc (.loop (recL fn tm ps assign body w.heap.size .ready none)), ?_, (((S.alloc (.deferred (some []))).alloc (.loop (recL fn tm ps assign body w.heap.size .ready none))).perm (List.Perm.cons _ (List.perm_append_singleton _ _).symm))⟩
  simp only [Instr.enterLoop, newObj]
  rfl
/-- .. within one of an outer loop -/
theorem ent_some {X0 : List Asr} {l0 : Nat} {o0 : Obj} {tm : Array Value} {ps : Array Tmp} {assign body : Code} (ho : ∃ r, o0 = .loop r) (S : St w0 C w (X0 ++ [bx l0 o0]) L) : ∀ fn, ∃ l D w1, (Instr.enterLoop fn tm ps assign body (some l0)).run P w = .ok (l, []) w1 ∧
    St w0 C w1 (bx l (.loop (recL fn tm ps assign body D .ready none)) :: (X0 ++ [bx l0 o0])) L := by
  intro fn
  obtain ⟨r, rfl⟩ := ho
  have h0 : w.heap[l0]? = some (.loop r) := S.xs _ (List.mem_append_right _ (List.mem_singleton.2 rfl))
  refine ⟨w.heap.size, r.defers, w.alloc (.loop (recL fn tm ps assign body r.defers .ready none)), ?_, S.alloc (.loop (recL fn tm ps assign body r.defers .ready none))⟩
  simp [Instr.enterLoop, run_getLoop h0, newObj]
  rfl
theorem c_rangeG {g : Operand} {ps : Array Tmp} {assign body : Code} {f : Nat} {first caps : Array Value} {K : List Asr} {MK : Nat → List Deferred} {XR : Nat → List Asr} {it : ∀ {σ : Type}, (ε → σ → Option (Bool × σ)) → σ → Option σ} {enc : ε → List Value}
    (bd : ε → α → Option (Bool × Nat × α)) (codes : List Code) (X : α → β → List Asr) (z0 : α) (y0 : β) {r : Nat × α} (H : it (yvOf bd) (0, z0) = some r)
    (hent : ∀ fn, ∃ l D w1, (Instr.enterLoop fn (E n e d).tmps ps assign body ro).run P w = .ok (l, MK D) w1 ∧ St w0 C w1 (bx l (.loop (recL fn (E n e d).tmps ps assign body D .ready none)) :: (X z0 y0 ++ XR D)) L)
    (hg : evn n e g = .func (.func f) first caps) (hF : funOf P f = true) (hit : ∀ w', IterG P f first caps enc it w' K) (hK : ∀ p ∈ K, p ∈ L) (hlen : ∀ x, (enc x).length = ps.size) (hcodes : ∀ c ∈ codes, c = .ret ∨ ∃ id, c = .exit id)
    (round : ∀ (l : Nat) (oR oB : Obj) (Cr : Nat → Prop) (x : ε) (z : α) (y : β) (w2 : World) (b : Bool) (c2 : Nat) (z2 : α) (PP : Exit → Act → World → Prop), bd x z = some (b, c2, z2) → St w2 Cr w2 (bx l oR :: X z y) L → Link w0 C w2 Cr → (∃ r, oB = .loop r) →
      (∀ (w1 : World) (XX : List Asr) (k : Nat) (Kt : World → Prop), St w2 Cr w1 XX L → XX[k]? = some (bx l oR) → (∀ w', St w2 Cr w' (XX.set k (bx l oB)) L → Kt w') → ∃ w', (Instr.beginRound l).run P w1 = .ok () w' ∧ Kt w') →
      (∀ a w3 z' y', St w2 Cr w3 (bx l oB :: X z' y') L → (true, 0, z') = (b, c2, z2) → PP .normal a w3) →
      (∀ (k : Nat) (c : Code) a w3 z' y', codes[k]? = some c → St w2 Cr w3 (bx l oB :: X z' y') L → (false, k + 1, z') = (b, c2, z2) → PP (exOf c) a w3) →
      assign.wpIn (Fr (some l)) 0 P (Exit.then (fun a₁ w₁ => ∃ w₂, (Instr.beginRound l).run P w₁ = .ok () w₂ ∧ body.wpIn (Fr (some l)) 0 P PP a₁ w₂) (fun _ _ _ => False)) (E n (upl e ps.toList (enc x)) []) w2)
    (done : r.1 = 0 → ∀ (l D : Nat) (o : Obj) (y : β) (w' : World), St w0 C w' (bx l o :: (X r.2 y ++ XR D)) L → Q .normal (E n e (MK D ++ d)) w')
    (jump : ∀ (k : Nat) (c : Code), codes[k]? = some c → r.1 = k + 1 → ∀ (l D : Nat) (o : Obj) (y : β) (w' : World), St w0 C w' (bx l o :: (X r.2 y ++ XR D)) L → c.wpIn (Fr ro) 0 P Q (E n e (MK D ++ d)) w') :
    (Code.rangeFunc g ps assign body).wpIn (Fr ro) 0 P Q (E n e d) w := by
  refine wpIn_rangeFunc fun fn _ => ?_
  obtain ⟨l, D, w1, hrun, S1⟩ := hent fn
  let rc := recL fn (E n e d).tmps ps assign body D
  have S2 : St w0 C w1 ((bx l (.loop (rc .ready none)) :: X z0 y0) ++ XR D) L := S1
  let A0 := all (bx l (.loop (rc .ready none)) :: X z0 y0)
  have hA0 : A0.ok w1 := ⟨fun x hx => S2.xs x (List.mem_append_left _ hx), (List.pairwise_append.1 S2.dx).1⟩
  have hdA : ∀ p ∈ L, ∀ b, p.fp b → ¬ A0.fp b := fun p hp b hb ⟨x, hx, hxb⟩ => S2.dp x (List.mem_append_left _ hx) p hp b hxb hb
  have hev : (E n e d).eval g = .func (.func f) first caps := by rw [E_eval]; exact hg
  let G : Nat × α → Asr → Prop := fun s A => (s.1 = 0 ∧ ∃ y, A = all (bx l (.loop (rc .ready none)) :: X s.2 y)) ∨ (∃ k c y, s.1 = k + 1 ∧ codes[k]? = some c ∧ A = all (bx l (.loop (rc .done (some c))) :: X s.2 y))
  have hown0 : ∀ b, A0.fp b → C b ∨ w0.heap.size ≤ b := fun b ⟨x, hx, hb⟩ => (S2.own x (List.mem_append_left _ hx) b hb).symm
  refine ⟨l, MK D, w1, { target := .fn (.func f) caps, args := first ++ #[.func (.yield l) #[] #[]] }, w1, f, first ++ #[.func (.yield l) #[] #[]] ++ caps, w1, hrun, ?_, fun _ _ => trivial, run_invoke hF _, fun h => by simp at h, ?_⟩
  · have hcn : ∀ v, (E n e d).eval (.const v) = v := fun _ => rfl
    simp [resolve, rangeCall, hev, hcn, Deferred.ofValue]
  refine callsIn_of (fun _ => trivial) rfl rfl ?_
  refine (hit w1 _ (yvOf bd) (0, z0) r l G A0 H ⟨.inl ⟨rfl, y0, rfl⟩, hA0⟩ (fun p hp => S2.ps p (hK p hp)) (fun p hp => hdA p (hK p hp)) ?_).mono ?_
  · rintro x ⟨c, z⟩ b ⟨c2, z2⟩ A w2 hyv hG hok hkp hfp
    obtain ⟨hc0, hbd⟩ := yvOf_some hyv
    simp only at hc0 hbd
    subst hc0
    rcases hG with ⟨_, y, rfl⟩ | ⟨k, _, _, hk, _⟩
    case inr => simp at hk
    have SL : St w2 (all (bx l (.loop (rc .ready none)) :: X z y)).fp w2 (bx l (.loop (rc .ready none)) :: X z y) L := by
      refine ⟨Keep.refl _ _, hok.1, fun p hp => p.mono _ _ (S2.ps p hp) fun b hb => hkp.block b (p.inb _ _ (S2.ps p hp) hb) (hdA p hp b hb), hok.2, fun x hx p hp b hxb hpb => ?_, fun x hx b hb => .inr ⟨x, hx, hb⟩⟩
      rcases hfp b ⟨x, hx, hxb⟩ with h | h
      · exact hdA p hp b hpb h
      · have := p.inb _ _ (S2.ps p hp) hpb; omega
    have hlink : Link w0 C w2 (all (bx l (.loop (rc .ready none)) :: X z y)).fp :=
      (⟨S2.keep, hown0⟩ : Link w0 C w1 A0.fp).trans ⟨hkp, fun b hb => hfp b hb⟩
    have hw := round l (.loop (rc .ready none)) (.loop (rc .busy none)) _ x z y w2 b c2 z2
      (roundPost P l (RR l rc (fun _ (p : α × β) => (true, 0, p.1) = (b, c2, z2)) (fun cd (p : α × β) => ∃ k, codes[k]? = some cd ∧ (false, k + 1, p.1) = (b, c2, z2)) (fun p => X p.1 p.2) 0 w2 (all (bx l (.loop (rc .ready none)) :: X z y))))
      hbd SL hlink ⟨_, rfl⟩ (fun w1 XX k Kt S hk hKt => rr_begin S hk hKt)
      (fun a w3 z' y' S hz => rr_next (y' := (z', y')) S hz)
      (fun k c a w3 z' y' hk S hz => by
        rcases hcodes c (List.mem_of_getElem? hk) with rfl | ⟨id, rfl⟩
        · exact rr_ret (y' := (z', y')) S ⟨k, hk, hz⟩
        · exact rr_exit (y' := (z', y')) S ⟨k, hk, hz⟩)
    refine ⟨fn, (E n (upl e ps.toList (enc x)) d).tmps, assign, body, ?_, ?_⟩
    · have h1 : w2.heap[l]? = some (.loop (rc .ready none)) := SL.at (i := 0) rfl
      have hz : (Array.foldl (fun (t : Array Value) (p : Nat × Value) => t.setIfInBounds p.1 p.2) (E n e d).tmps (ps.zip (enc x).toArray)) = (E n (upl e ps.toList (enc x)) d).tmps := by
        rw [← upl_E, ← Array.foldl_toList, Array.toList_zip]
      have hsz : (enc x).toArray.size = ps.size := by simpa using hlen x
      have hrun : (Instr.yield l (enc x).toArray).run P w2 = .ok (.round l fn (Array.foldl (fun (t : Array Value) (p : Nat × Value) => t.setIfInBounds p.1 p.2) (E n e d).tmps (ps.zip (enc x).toArray)) assign body) w2 := by
        have hsz2 : (enc x).length = ps.size := hlen x
        simp [Instr.yield, run_getLoop h1, rc, recL, hsz2]
      rw [hrun, hz]
    · have hri : RoundIn (Fr none) 0 P l fn (E n (upl e ps.toList (enc x)) d).tmps assign body w2 (RR l rc (fun _ (p : α × β) => (true, 0, p.1) = (b, c2, z2)) (fun cd (p : α × β) => ∃ k, codes[k]? = some cd ∧ (false, k + 1, p.1) = (b, c2, z2)) (fun p => X p.1 p.2) 0 w2 (all (bx l (.loop (rc .ready none)) :: X z y))) := roundIn_of_wpIn trivial hw
      refine RoundIn.mono hri ?_
      rintro en w3 ⟨q, he, hk, A', hok', hfp', hG⟩
      rcases hG with ⟨rfl, ⟨z', y'⟩, hI, rfl⟩ | ⟨rfl, ⟨z', y'⟩, cd, ⟨k, hck, hI⟩, rfl⟩
      · injection hI with h1 h2; injection h2 with h2 h3
        subst h1 h2 h3
        exact ⟨true, he, rfl, hk, _, hok', hfp', .inl ⟨rfl, y', rfl⟩⟩
      · injection hI with h1 h2; injection h2 with h2 h3
        subst h1 h2 h3
        exact ⟨false, he, rfl, hk, _, hok', hfp', .inr ⟨k, cd, y', rfl, hck, rfl⟩⟩
  · rintro en w3 ⟨v, rfl, hkp, A', ⟨hG, hok⟩, hfp⟩
    rcases hG with ⟨hr, y, rfl⟩ | ⟨k, c, y, hr, hk, rfl⟩
    · have S3 := S2.frame hkp hok hfp
      refine ⟨none, _, run_endLoop (S3.at (i := 0) rfl) (by simp [rc, recL]), ?_⟩
      exact done hr l D _ y _ (S3.setB (i := 0) rfl)
    · have S3 := S2.frame hkp hok hfp
      refine ⟨some c, _, run_endLoop (S3.at (i := 0) rfl) (by simp [rc, recL]), ?_⟩
      exact jump k c hk hr l D _ y _ (S3.setB (i := 0) rfl)
end
end Go.Fx
namespace Go.Fx
theorem leave_markN {P : Program} {n : Nat} {d : List Deferred} {e : Env} {w w0 : World} {C : Nat → Prop} {L : List Asr} {fn : Func} {R : Ending → World → Prop} {XX : List Asr} {i D : Nat} (S : St w0 C w XX L) (hi : XX[i]? = some (bx D (.deferred (some [])))) (h : ∀ w', St w0 C w' (XX.set i (bx D (.deferred none))) L → bodyPostM (Fr none) 0 P fn R .normal (E n e d) w') :
    bodyPostM (Fr none) 0 P fn R .normal (E n e (mark D ++ d)) w := by
  refine ⟨by simp, .inl ⟨D, setB w D (.deferred none), rfl, ?_, h _ (S.setB hi)⟩⟩
  have h1 := S.at hi
  have h2 : (getObj D).run P w = .ok (.deferred (some [])) w := by simp only [getObj, Sem.run, h1]
  have h3 : (setObj D (.deferred none)).run P w = .ok () (setB w D (.deferred none)) := by simp only [setObj, Sem.run, h1]; rfl
  simp [Instr.takeDeferred, h2, h3]
end Go.Fx

/- Part of a logic of my own for walks: rules by which a proof steps through code, proved once. -/
import Derived.Test.YticodohfokgjfaaDoorZGFxNest
import Derived.Laws.MakeOwn
import Derived.Laws.CopyRow
import Derived.Test.YticodohfokgjfaaDoorProg
import Derived.KernelRfl
set_option linter.unusedSimpArgs false
set_option linter.unusedVariables false
namespace Go.Fx
open Go
/-! ### an element of a row that is one's own is written to; a row is made -/
section
variable {α : Type} {enc : α → List Value} {s : Nat}
variable {ro : Option Nat} {P : Program} {full : Array Oper} {Q : Exit → Act → World → Prop} {n : Nat} {d : List Deferred} {e : Env} {w w0 : World} {C : Nat → Prop} {X L : List Asr}
variable {rest : List Oper} {ty : TypeId} {ps : String} {af : Array Edge}
theorem gr_block {t c : Nat} {A : Option Addr} {l : List α} (h : (gr enc s t A c l).ok w) (hl : l ≠ []) : ∃ g cur, A = some ⟨g, 0, none⟩ ∧ w.heap[g]? = some (.cells cur t (0, 0)) ∧ l.length ≤ c ∧ c ≤ maxLen ∧ cur.size = c * s ∧ cur.toList.take (l.length * s) = l.flatMap enc := by
  rcases h.2 with ⟨q1, q2⟩ | ⟨g, cap, cur, q1, q2, q3, q4, q5, q6, q7⟩
  · exact absurd (List.eq_nil_of_length_eq_zero q2) hl
  · simp at q1
    obtain ⟨rfl, rfl⟩ := q1
    exact ⟨g, cur, rfl, q3, q4, q5, by simpa using q6, by simpa using q7⟩
theorem p_stE {t el i m c : Nat} {A : Option Addr} {l : List α} {x x' : α} {j : Int} {off : Nat} {a old b vs : List Value} {xo yo : Operand} {v : Value} (hs : sizOf P t = some m) (he : ∀ x, (enc x).length = s) (h1 : ∀ x, ∀ u ∈ enc x, u.oneCell' = true)
    (S : St w0 C w X L) (hi : X[i]? = some (gr enc s el A c l)) (hj : getI l j = some x) (hx : evn n e xo = PE A (j.toNat * s + off)) (hy : evn n e yo = v) (hv : v.cells = vs.toArray) (hm : vs.length = m) (hex : enc x = a ++ old ++ b) (hex' : enc x' = a ++ vs ++ b) (ha : a.length = off) (ho : old.length = vs.length)
    (h : ∀ l' w', l' = l.set j.toNat x' → l'.length = l.length → St w0 C w' (X.set i (gr enc s el A c l')) L → wpA ro P full Q rest (E n e d) w') : wpA ro P full Q (⟨none, .store t xo yo, ty, ps, af, none⟩ :: rest) (E n e d) w := by
  obtain ⟨hj0, hj1⟩ := getI_some hj
  obtain ⟨hjl, hje⟩ := List.getElem?_eq_some_iff.1 hj1
  have hne : l ≠ [] := by intro h; subst h; simp at hjl
  obtain ⟨g, cur, rfl, hg, hlc, hcm, hsz, htk⟩ := gr_block (S.atX hi) hne
  have hgb := (Array.getElem?_eq_some_iff.1 hg).1
  let k := j.toNat
  have hl1 : l = l.take k ++ x :: l.drop (k + 1) := by
    rw [← hje]
    have := List.take_append_drop k l
    rw [List.drop_eq_getElem_cons hjl] at this
    exact this.symm
  have hset : l.set k x' = l.take k ++ x' :: l.drop (k + 1) := List.set_eq_take_append_cons_drop ▸ by rw [if_pos hjl]
  let rst := cur.toList.drop (l.length * s)
  have hcur : cur = (((l.take k).flatMap enc ++ a) ++ old ++ (b ++ (l.drop (k + 1)).flatMap enc ++ rst)).toArray := by
    refine Array.ext' ?_
    have h2 : cur.toList = l.flatMap enc ++ rst := by rw [← htk]; exact (List.take_append_drop _ _).symm
    rw [h2]
    have h3 : l.flatMap enc = (l.take k).flatMap enc ++ (a ++ old ++ b) ++ (l.drop (k + 1)).flatMap enc := by
      conv => lhs; rw [hl1]
      rw [List.flatMap_append, List.flatMap_cons, hex]; simp
    rw [h3]; simp
  have hpl : ((l.take k).flatMap enc ++ a).length = k * s + off := by
    rw [List.length_append, flat_len he, ha, List.length_take, Nat.min_eq_left (Nat.le_of_lt hjl)]
  obtain ⟨nc, hnc⟩ : ∃ nc, nc = (((l.take k).flatMap enc ++ a) ++ vs ++ (b ++ (l.drop (k + 1)).flatMap enc ++ rst)).toArray := ⟨_, rfl⟩
  have hput : putAt cur (k * s + off) vs = nc := by
    conv => lhs; rw [hcur]
    rw [← hpl, hnc]
    exact putAt_toArray vs _ old _ ho
  have hfit : k * s + off + 0 + vs.length ≤ cur.size := by
    have := congrArg Array.size hcur
    simp only [List.size_toArray, List.length_append] at this
    rw [List.length_append] at hpl
    omega
  have hone : vs.all Value.oneCell' = true := by
    rw [List.all_eq_true]
    intro u hu
    exact h1 x' u (by rw [hex']; simp [hu])
  have hst := run_storeCells (P := P) (off := k * s + off) vs 0 w cur hg hone hfit
  rw [Nat.add_zero, hput] at hst
  have hlen : (l.set k x').length = l.length := List.length_set
  have hncs : nc.size = cur.size := by
    rw [hnc, congrArg Array.size hcur]; simp only [List.size_toArray, List.length_append]; omega
  have S' : St w0 C (setB w g (.cells nc el (0, 0))) (X.set i (gr enc s el (some ⟨g, 0, none⟩) c (l.set k x'))) L := by
    refine S.turn hi ⟨flat_len he _, .inr ⟨g, c, nc, by simp [hlen], Nat.zero_le _, by simp [setB, hgb], by rw [hlen]; exact hlc, hcm, by rw [hncs, hsz], ?_⟩⟩
      (fun b' hb' => .inl (by simp only [gr, hlen] at hb' ⊢; exact hb')) rfl rfl rfl (by simp [setB]) (fun b' hb' hn => ?_)
    · have h4 : (l.set k x').flatMap enc = (l.take k).flatMap enc ++ (a ++ vs ++ b) ++ (l.drop (k + 1)).flatMap enc := by
        rw [hset, List.flatMap_append, List.flatMap_cons, hex']; simp
      have h6 : ((l.set k x').flatMap enc).length = (l.set k x').length * s := flat_len he _
      rw [← h6, h4]
      have e1 : nc.toList = ((l.take k).flatMap enc ++ (a ++ vs ++ b) ++ (l.drop (k + 1)).flatMap enc) ++ rst := by rw [hnc]; simp
      show (nc.toList.drop 0).take _ = _
      rw [List.drop_zero, e1, List.take_left']
      rfl
    · show (w.heap.setIfInBounds g _)[b']? = _
      rw [Array.getElem?_setIfInBounds_ne (fun h => hn (by subst h; simp [gr, Value.ownBlock]))]
  refine op_skip (w' := setB w g (.cells nc el (0, 0))) rfl (fun _ h => by cases h) ?_ (h (l.set k x') _ rfl hlen S')
  have hx' : evn n e xo = .pointer (some ⟨g, k * s + off, none⟩) := by rw [hx]; simp [offA, k]
  have hc : v.cells.toList = vs := by rw [hv]
  have hsz' : v.cells.size = m := by rw [hv]; simpa using hm
  simp [execOp, Instr.storeAt, hx', hy, Instr.sureAddr, storeVar, run_sizeOf hs, hsz', hc, hst]
/-- make: a row of zeros -/
theorem p_mkS {t i el bb k : Nat} {z : Value} {x0 : α} {xo yo : Operand} (hT : slcOf P t = some (el, s)) (hz : infoOf P el = some (some z, s, bb)) (he : ∀ x, (enc x).length = s) (hz0 : z.cells.toList = enc x0) (hbig : k * bb ≤ 2 ^ 40) (hk : k ≤ 2 ^ 40) (S : St w0 C w X L)
    (hx : evn n e xo = I (k : Int)) (hy : evn n e yo = I (k : Int))
    (h : ∀ A w', St w0 C w' (gr enc s el A k (List.replicate k x0) :: X) L → wpA ro P full Q rest (E n (upd e i (SL A (List.replicate k x0).length k)) d) w') :
    wpA ro P full Q (⟨some i, .makeSlice t xo yo, ty, ps, af, none⟩ :: rest) (E n e d) w := by
  obtain ⟨hu, hs⟩ := slc_und hT
  obtain ⟨it, h2, h3, h4, h5⟩ := info_of hz
  have hb1 : (it.bytes : Int) * (k : Int) ≤ 281474976710656 := by
    have h7 : bb * k ≤ 281474976710656 := by rw [Nat.mul_comm]; omega
    have h8 : ((bb * k : Nat) : Int) ≤ 281474976710656 := by omega
    rw [h5]
    rwa [Int.natCast_mul] at h8
  have hr := run_make (P := P) w t el it z hu h2 h3 .i64 .i64 (k : Int) (k : Int) (by omega) (Int.le_refl _) hb1 (by omega)
  rw [h4, Int.toNat_natCast] at hr
  have hzs : z.cells.size = s := by
    have := congrArg List.length hz0
    rw [he] at this
    simpa using this
  have hml : (madeCells z.cells (k * s)).toList = (List.replicate k x0).flatMap enc := by
    refine List.ext_getElem? fun q => ?_
    by_cases hq : q < k * s
    · have hs0 : 0 < s := Nat.pos_of_ne_zero fun h => by rw [h] at hq; simp at hq
      have e1 : q = (q / s) * s + q % s := by rw [Nat.mul_comm]; exact (Nat.div_add_mod q s).symm
      have e2 : q / s < k := (Nat.div_lt_iff_lt_mul hs0).2 hq
      have e3 := flat_get he (List.replicate k x0) (q / s) x0 (q % s) (by rw [List.getElem?_replicate, if_pos e2]) (Nat.mod_lt _ hs0)
      rw [← e1] at e3
      rw [e3, ← hz0]
      simp [madeCells, hq, hzs]
      have hm := Nat.mod_lt q hs0
      rw [getElem!_pos z.cells (q % s) (by omega)]
      exact (Array.getElem?_eq_getElem _).symm
    · rw [List.getElem?_eq_none (by simp [madeCells]; omega), List.getElem?_eq_none (by rw [flat_len he]; simp; omega)]
  have S1 := S.alloc (.cells (madeCells z.cells (k * s)) el (0, 0))
  have hb := S1.at (i := 0) rfl
  have S2 := S1.turn (i := 0) rfl (y := gr enc s el (some ⟨w.heap.size, 0, none⟩) k (List.replicate k x0))
    ⟨flat_len he _, .inr ⟨w.heap.size, k, madeCells z.cells (k * s), by simp, Nat.zero_le _, hb, by simp, by rw [maxLen_eq]; omega, by simp [madeCells], by
      show ((madeCells z.cells (k * s)).toList.drop 0).take _ = _
      rw [hml, List.drop_zero, ← flat_len he]; exact List.take_length⟩⟩
    (fun b' hb' => .inl (by simp [gr, Value.ownBlock] at hb'; exact hb'.symm)) rfl rfl rfl (Nat.le_refl _) (fun _ _ _ => rfl)
  refine op_val (v := SL (some ⟨w.heap.size, 0, none⟩) k k) rfl (fun _ h => by cases h) ?_ (by have h9 := h _ _ (by simpa using S2); rw [List.length_replicate] at h9; exact h9)
  have hx' : evn n e xo = .int .i64 (k : Int) := hx
  have hy' : evn n e yo = .int .i64 (k : Int) := hy
  simp [execOp, hx', hy', hr]
end
end Go.Fx

set_option linter.unusedSimpArgs false
set_option linter.unusedVariables false
namespace Go.Fx
open Go
/-! ### ranges over functions, by a state that is passed on -/
/-- the caller's word, at a state of his -/
def ga {σ : Type} (G : σ → Asr → Prop) (s : σ) (A : Asr) : Asr where
  fp := A.fp
  ok w := G s A ∧ A.ok w
  mono w w' h k := ⟨h.1, A.mono _ _ h.2 k⟩
  inb w b h hb := A.inb _ _ h.2 hb
/-- what has turned since w0 (but for C) has turned since w (but for C0) -/
structure Link (w : World) (C0 : Nat → Prop) (w0 : World) (C : Nat → Prop) : Prop where
  keep : Keep C0 w w0
  fp : ∀ b, C b → C0 b ∨ w.heap.size ≤ b
theorem Link.refl (w : World) (C : Nat → Prop) : Link w C w C := ⟨Keep.refl _ _, fun _ h => .inl h⟩
theorem Link.trans {w w0 w1 : World} {C0 C C1 : Nat → Prop} (h : Link w C0 w0 C) (k : Link w0 C w1 C1) : Link w C0 w1 C1 := by
  refine ⟨⟨k.keep.os.trans h.keep.os, k.keep.tape.trans h.keep.tape, k.keep.output.trans h.keep.output, Nat.le_trans h.keep.size k.keep.size, fun b hb hn => ?_⟩, fun b hb => ?_⟩
  · refine (k.keep.block b (Nat.lt_of_lt_of_le hb h.keep.size) fun hc => ?_).trans (h.keep.block b hb hn)
    rcases h.fp b hc with h' | h'
    · exact hn h'
    · omega
  · rcases k.fp b hb with h' | h'
    · exact h.fp b h'
    · exact .inr (Nat.le_trans h.keep.size h')
theorem Link.of {w w0 w1 : World} {C0 C : Nat → Prop} (h : Link w C0 w0 C) (k : Keep C w0 w1) : Keep C0 w w1 := (h.trans ⟨k, fun _ h => .inl h⟩ : Link w C0 w1 C).keep
/-- each call of yield comes to what yv says -/
def YH (P : Program) (l : Nat) {ε σ : Type} (enc : ε → List Value) (yv : ε → σ → Option (Bool × σ)) (G : σ → Asr → Prop) (w : World) (C0 : Nat → Prop) : Prop :=
  ∀ x s b s2 A w2, yv x s = some (b, s2) → G s A → A.ok w2 → Keep C0 w w2 → (∀ b, A.fp b → C0 b ∨ w.heap.size ≤ b) →
    YieldsTo P l (enc x).toArray w2 fun r w3 => r = b ∧ Keep A.fp w2 w3 ∧ ∃ A', A'.ok w3 ∧ (∀ b, A'.fp b → A.fp b ∨ w2.heap.size ≤ b) ∧ G s2 A'
/-- a function that is called with yield: it comes to what the plain one says -/
def IterG (P : Program) (f : Nat) (first caps : Array Value) {ε : Type} (enc : ε → List Value) (it : ∀ {σ : Type}, (ε → σ → Option (Bool × σ)) → σ → Option σ) (w : World) (K : List Asr) : Prop :=
  ∀ (σ : Type) (yv : ε → σ → Option (Bool × σ)) (s s' : σ) (l : Nat) (G : σ → Asr → Prop) (A0 : Asr), it yv s = some s' → (ga G s A0).ok w → (∀ p ∈ K, p.ok w) → (∀ p ∈ K, ∀ b, p.fp b → ¬ A0.fp b) → YH P l enc yv G w A0.fp →
    Calls P f (first ++ #[.func (.yield l) #[] #[]] ++ caps) w fun en w' => ∃ v, en = .returned v ∧ Keep A0.fp w w' ∧ ∃ A', (ga G s' A').ok w' ∧ (∀ b, A'.fp b → A0.fp b ∨ w.heap.size ≤ b)
/-- a body of a range, as what yield comes to: the number tells how the range is left (0: not yet) -/
def yvOf {ε α : Type} (bd : ε → α → Option (Bool × Nat × α)) (x : ε) (s : Nat × α) : Option (Bool × Nat × α) := bif s.1 == 0 then bd x s.2 else none
theorem yvOf_some {ε α : Type} {bd : ε → α → Option (Bool × Nat × α)} {x : ε} {s : Nat × α} {r : Bool × Nat × α} (h : yvOf bd x s = some r) : s.1 = 0 ∧ bd x s.2 = some r := by
  unfold yvOf at h
  cases hs : (s.1 == 0)
  · rw [hs] at h; cases h
  · rw [hs] at h; exact ⟨by simpa using hs, h⟩
/-- how a round is left -/
def exOf : Code → Exit
  | .ret => .ret
  | .exit id => .exit id
  | _ => .normal
section
variable {P : Program} {w0 w : World} {C : Nat → Prop} {X L : List Asr}
theorem o_yieldG {ro : Option Nat} {full : Array Oper} {Q : Exit → Act → World → Prop} {n : Nat} {d : List Deferred} {e : Env} {rest : List Oper} {ty : TypeId} {ps : String} {af : Array Edge}
    {ε σ : Type} {enc : ε → List Value} {yv : ε → σ → Option (Bool × σ)} {G : σ → Asr → Prop} {s s2 : σ} {A : Asr} {wb : World} {C0 : Nat → Prop} {x : ε} {b : Bool} {i l j : Nat} {g : Operand} {aa : Array Operand} {ts : Array TypeId}
    (hb : yv x s = some (b, s2)) (hy : YH P l enc yv G wb C0) (hl : Link wb C0 w0 C) (S : St w0 C w X L) (hj : X[j]? = some (ga G s A)) (hg : evn n e g = .func (.yield l) #[] #[]) (ha : aa.toList.map (evn n e) = enc x)
    (h : ∀ A' w', St w0 C w' (X.set j (ga G s2 A')) L → wpA ro P full Q rest (E n (upd e i (.bool b)) d) w') : wpA ro P full Q (⟨some i, .call ⟨.value g, aa, ts⟩, ty, ps, af, none⟩ :: rest) (E n e d) w := by
  have hA : (ga G s A).ok w := S.atX hj
  have hf : ∀ b, A.fp b → C0 b ∨ wb.heap.size ≤ b := fun b hb => by
    rcases S.own _ (List.mem_of_getElem? hj) b hb with h | h
    · exact .inr (Nat.le_trans hl.keep.size h)
    · exact hl.fp b h
  refine o_yield hg ha (hy x s b s2 A w hb hA.1 hA.2 (hl.of S.keep) hf) fun r w' ⟨hr, hk, A', hok, hfp, hG⟩ => ?_
  subst hr
  exact h A' w' (S.turn hj (y := ga G s2 A') ⟨hG, hok⟩ hfp hk.os hk.tape hk.output hk.size fun b hb hne => hk.block b hb hne)
/-- behind a call of a function that calls yield -/
theorem St.itCall {σ : Type} {G : σ → Asr → Prop} {s s2 : σ} {A A' : Asr} {w' : World} (S : St w0 C w X L) {j : Nat} (hj : X[j]? = some (ga G s A)) (hk : Keep A.fp w w') (hok : (ga G s2 A').ok w') (hf : ∀ b, A'.fp b → A.fp b ∨ w.heap.size ≤ b) : St w0 C w' (X.set j (ga G s2 A')) L :=
  S.turn hj hok hf hk.os hk.tape hk.output hk.size fun b hb hne => hk.block b hb hne
/-- the caller's word is the own word of what is called -/
theorem St.link {σ : Type} {G : σ → Asr → Prop} {s : σ} {A : Asr} {wb : World} {C0 : Nat → Prop} (S : St w0 C w X L) {j : Nat} (hj : X[j]? = some (ga G s A)) (hl : Link wb C0 w0 C) : Link wb C0 w A.fp :=
  hl.trans ⟨S.keep, fun b hb => (S.own _ (List.mem_of_getElem? hj) b hb).symm⟩
theorem St.apart {A : Asr} (S : St w0 C w X L) {j : Nat} {p : Asr} (hj : X[j]? = some p) (hp : ∀ b, A.fp b → p.fp b) : ∀ q ∈ L, ∀ b, q.fp b → ¬ A.fp b := fun q hq b h1 h2 => S.dp _ (List.mem_of_getElem? hj) q hq b (hp b h2) h1
end
section
variable {ro : Option Nat} {P : Program} {Q : Exit → Act → World → Prop} {n : Nat} {d : List Deferred} {e : Env} {w w0 : World} {C : Nat → Prop} {L : List Asr}
variable {α β ε : Type}
/-- the loop's record is laid: outside of a round -/
theorem ent_none {X0 : List Asr} {tm : Array Value} {ps : Array Tmp} {assign body : Code} (S : St w0 C w X0 L) : ∀ fn, ∃ l D w1, (Instr.enterLoop fn tm ps assign body none).run P w = .ok (l, mark D) w1 ∧
    St w0 C w1 (bx l (.loop (recL fn tm ps assign body D .ready none)) :: (X0 ++ [bx D (.deferred (some []))])) L := by
  intro fn
  refine ⟨(w.alloc (.deferred (some []))).heap.size, w.heap.size, (w.alloc (.deferred (some []))).alloc (.loop (recL fn tm ps assign body w.heap.size .ready none)), ?_, (((S.alloc (.deferred (some []))).alloc (.loop (recL fn tm ps assign body w.heap.size .ready none))).perm (List.Perm.cons _ (List.perm_append_singleton _ _).symm))⟩
  simp only [Instr.enterLoop, newObj]
  rfl
/-- .. within one of an outer loop -/
theorem ent_some {X0 : List Asr} {l0 : Nat} {o0 : Obj} {tm : Array Value} {ps : Array Tmp} {assign body : Code} (ho : ∃ r, o0 = .loop r) (S : St w0 C w (X0 ++ [bx l0 o0]) L) : ∀ fn, ∃ l D w1, (Instr.enterLoop fn tm ps assign body (some l0)).run P w = .ok (l, []) w1 ∧
    St w0 C w1 (bx l (.loop (recL fn tm ps assign body D .ready none)) :: (X0 ++ [bx l0 o0])) L := by
  intro fn
  obtain ⟨r, rfl⟩ := ho
  have h0 : w.heap[l0]? = some (.loop r) := S.xs _ (List.mem_append_right _ (List.mem_singleton.2 rfl))
  refine ⟨w.heap.size, r.defers, w.alloc (.loop (recL fn tm ps assign body r.defers .ready none)), ?_, S.alloc (.loop (recL fn tm ps assign body r.defers .ready none))⟩
  simp [Instr.enterLoop, run_getLoop h0, newObj]
  rfl
theorem c_rangeG {g : Operand} {ps : Array Tmp} {assign body : Code} {f : Nat} {first caps : Array Value} {K : List Asr} {MK : Nat → List Deferred} {XR : Nat → List Asr} {it : ∀ {σ : Type}, (ε → σ → Option (Bool × σ)) → σ → Option σ} {enc : ε → List Value}
    (bd : ε → α → Option (Bool × Nat × α)) (codes : List Code) (X : α → β → List Asr) (z0 : α) (y0 : β) {r : Nat × α} (H : it (yvOf bd) (0, z0) = some r)
    (hent : ∀ fn, ∃ l D w1, (Instr.enterLoop fn (E n e d).tmps ps assign body ro).run P w = .ok (l, MK D) w1 ∧ St w0 C w1 (bx l (.loop (recL fn (E n e d).tmps ps assign body D .ready none)) :: (X z0 y0 ++ XR D)) L)
    (hg : evn n e g = .func (.func f) first caps) (hF : funOf P f = true) (hit : ∀ w', IterG P f first caps enc it w' K) (hK : ∀ p ∈ K, p ∈ L) (hlen : ∀ x, (enc x).length = ps.size) (hcodes : ∀ c ∈ codes, c = .ret ∨ ∃ id, c = .exit id)
    (round : ∀ (l : Nat) (oR oB : Obj) (Cr : Nat → Prop) (x : ε) (z : α) (y : β) (w2 : World) (b : Bool) (c2 : Nat) (z2 : α) (PP : Exit → Act → World → Prop), bd x z = some (b, c2, z2) → St w2 Cr w2 (bx l oR :: X z y) L → Link w0 C w2 Cr → (∃ r, oB = .loop r) →
      (∀ (w1 : World) (XX : List Asr) (k : Nat) (Kt : World → Prop), St w2 Cr w1 XX L → XX[k]? = some (bx l oR) → (∀ w', St w2 Cr w' (XX.set k (bx l oB)) L → Kt w') → ∃ w', (Instr.beginRound l).run P w1 = .ok () w' ∧ Kt w') →
      (∀ a w3 z' y', St w2 Cr w3 (bx l oB :: X z' y') L → (true, 0, z') = (b, c2, z2) → PP .normal a w3) →
      (∀ (k : Nat) (c : Code) a w3 z' y', codes[k]? = some c → St w2 Cr w3 (bx l oB :: X z' y') L → (false, k + 1, z') = (b, c2, z2) → PP (exOf c) a w3) →
      assign.wpIn (Fr (some l)) 0 P (Exit.then (fun a₁ w₁ => ∃ w₂, (Instr.beginRound l).run P w₁ = .ok () w₂ ∧ body.wpIn (Fr (some l)) 0 P PP a₁ w₂) (fun _ _ _ => False)) (E n (upl e ps.toList (enc x)) []) w2)
    (done : r.1 = 0 → ∀ (l D : Nat) (o : Obj) (y : β) (w' : World), St w0 C w' (bx l o :: (X r.2 y ++ XR D)) L → Q .normal (E n e (MK D ++ d)) w')
    (jump : ∀ (k : Nat) (c : Code), codes[k]? = some c → r.1 = k + 1 → ∀ (l D : Nat) (o : Obj) (y : β) (w' : World), St w0 C w' (bx l o :: (X r.2 y ++ XR D)) L → c.wpIn (Fr ro) 0 P Q (E n e (MK D ++ d)) w') :
    (Code.rangeFunc g ps assign body).wpIn (Fr ro) 0 P Q (E n e d) w := by
  refine wpIn_rangeFunc fun fn _ => ?_
  obtain ⟨l, D, w1, hrun, S1⟩ := hent fn
  let rc := recL fn (E n e d).tmps ps assign body D
  have S2 : St w0 C w1 ((bx l (.loop (rc .ready none)) :: X z0 y0) ++ XR D) L := S1
  let A0 := all (bx l (.loop (rc .ready none)) :: X z0 y0)
  have hA0 : A0.ok w1 := ⟨fun x hx => S2.xs x (List.mem_append_left _ hx), (List.pairwise_append.1 S2.dx).1⟩
  have hdA : ∀ p ∈ L, ∀ b, p.fp b → ¬ A0.fp b := fun p hp b hb ⟨x, hx, hxb⟩ => S2.dp x (List.mem_append_left _ hx) p hp b hxb hb
  have hev : (E n e d).eval g = .func (.func f) first caps := by rw [E_eval]; exact hg
  let G : Nat × α → Asr → Prop := fun s A => (s.1 = 0 ∧ ∃ y, A = all (bx l (.loop (rc .ready none)) :: X s.2 y)) ∨ (∃ k c y, s.1 = k + 1 ∧ codes[k]? = some c ∧ A = all (bx l (.loop (rc .done (some c))) :: X s.2 y))
  have hown0 : ∀ b, A0.fp b → C b ∨ w0.heap.size ≤ b := fun b ⟨x, hx, hb⟩ => (S2.own x (List.mem_append_left _ hx) b hb).symm
  refine ⟨l, MK D, w1, { target := .fn (.func f) caps, args := first ++ #[.func (.yield l) #[] #[]] }, w1, f, first ++ #[.func (.yield l) #[] #[]] ++ caps, w1, hrun, ?_, fun _ _ => trivial, run_invoke hF _, fun h => by simp at h, ?_⟩
  · have hcn : ∀ v, (E n e d).eval (.const v) = v := fun _ => rfl
    simp [resolve, rangeCall, hev, hcn, Deferred.ofValue]
  refine callsIn_of (fun _ => trivial) rfl rfl ?_
  refine (hit w1 _ (yvOf bd) (0, z0) r l G A0 H ⟨.inl ⟨rfl, y0, rfl⟩, hA0⟩ (fun p hp => S2.ps p (hK p hp)) (fun p hp => hdA p (hK p hp)) ?_).mono ?_
  · rintro x ⟨c, z⟩ b ⟨c2, z2⟩ A w2 hyv hG hok hkp hfp
    obtain ⟨hc0, hbd⟩ := yvOf_some hyv
    simp only at hc0 hbd
    subst hc0
    rcases hG with ⟨_, y, rfl⟩ | ⟨k, _, _, hk, _⟩
    case inr => simp at hk
    have SL : St w2 (all (bx l (.loop (rc .ready none)) :: X z y)).fp w2 (bx l (.loop (rc .ready none)) :: X z y) L := by
      refine ⟨Keep.refl _ _, hok.1, fun p hp => p.mono _ _ (S2.ps p hp) fun b hb => hkp.block b (p.inb _ _ (S2.ps p hp) hb) (hdA p hp b hb), hok.2, fun x hx p hp b hxb hpb => ?_, fun x hx b hb => .inr ⟨x, hx, hb⟩⟩
      rcases hfp b ⟨x, hx, hxb⟩ with h | h
      · exact hdA p hp b hpb h
      · have := p.inb _ _ (S2.ps p hp) hpb; omega
    have hlink : Link w0 C w2 (all (bx l (.loop (rc .ready none)) :: X z y)).fp :=
      (⟨S2.keep, hown0⟩ : Link w0 C w1 A0.fp).trans ⟨hkp, fun b hb => hfp b hb⟩
    have hw := round l (.loop (rc .ready none)) (.loop (rc .busy none)) _ x z y w2 b c2 z2
      (roundPost P l (RR l rc (fun _ (p : α × β) => (true, 0, p.1) = (b, c2, z2)) (fun cd (p : α × β) => ∃ k, codes[k]? = some cd ∧ (false, k + 1, p.1) = (b, c2, z2)) (fun p => X p.1 p.2) 0 w2 (all (bx l (.loop (rc .ready none)) :: X z y))))
      hbd SL hlink ⟨_, rfl⟩ (fun w1 XX k Kt S hk hKt => rr_begin S hk hKt)
      (fun a w3 z' y' S hz => rr_next (y' := (z', y')) S hz)
      (fun k c a w3 z' y' hk S hz => by
        rcases hcodes c (List.mem_of_getElem? hk) with rfl | ⟨id, rfl⟩
        · exact rr_ret (y' := (z', y')) S ⟨k, hk, hz⟩
        · exact rr_exit (y' := (z', y')) S ⟨k, hk, hz⟩)
    refine ⟨fn, (E n (upl e ps.toList (enc x)) d).tmps, assign, body, ?_, ?_⟩
    · have h1 : w2.heap[l]? = some (.loop (rc .ready none)) := SL.at (i := 0) rfl
      have hz : (Array.foldl (fun (t : Array Value) (p : Nat × Value) => t.setIfInBounds p.1 p.2) (E n e d).tmps (ps.zip (enc x).toArray)) = (E n (upl e ps.toList (enc x)) d).tmps := by
        rw [← upl_E, ← Array.foldl_toList, Array.toList_zip]
      have hsz : (enc x).toArray.size = ps.size := by simpa using hlen x
      have hrun : (Instr.yield l (enc x).toArray).run P w2 = .ok (.round l fn (Array.foldl (fun (t : Array Value) (p : Nat × Value) => t.setIfInBounds p.1 p.2) (E n e d).tmps (ps.zip (enc x).toArray)) assign body) w2 := by
        have hsz2 : (enc x).length = ps.size := hlen x
        simp [Instr.yield, run_getLoop h1, rc, recL, hsz2]
      rw [hrun, hz]
    · have hri : RoundIn (Fr none) 0 P l fn (E n (upl e ps.toList (enc x)) d).tmps assign body w2 (RR l rc (fun _ (p : α × β) => (true, 0, p.1) = (b, c2, z2)) (fun cd (p : α × β) => ∃ k, codes[k]? = some cd ∧ (false, k + 1, p.1) = (b, c2, z2)) (fun p => X p.1 p.2) 0 w2 (all (bx l (.loop (rc .ready none)) :: X z y))) := roundIn_of_wpIn trivial hw
      refine RoundIn.mono hri ?_
      rintro en w3 ⟨q, he, hk, A', hok', hfp', hG⟩
      rcases hG with ⟨rfl, ⟨z', y'⟩, hI, rfl⟩ | ⟨rfl, ⟨z', y'⟩, cd, ⟨k, hck, hI⟩, rfl⟩
      · injection hI with h1 h2; injection h2 with h2 h3
        subst h1 h2 h3
        exact ⟨true, he, rfl, hk, _, hok', hfp', .inl ⟨rfl, y', rfl⟩⟩
      · injection hI with h1 h2; injection h2 with h2 h3
        subst h1 h2 h3
        exact ⟨false, he, rfl, hk, _, hok', hfp', .inr ⟨k, cd, y', rfl, hck, rfl⟩⟩
  · rintro en w3 ⟨v, rfl, hkp, A', ⟨hG, hok⟩, hfp⟩
    rcases hG with ⟨hr, y, rfl⟩ | ⟨k, c, y, hr, hk, rfl⟩
    · have S3 := S2.frame hkp hok hfp
      refine ⟨none, _, run_endLoop (S3.at (i := 0) rfl) (by simp [rc, recL]), ?_⟩
      exact done hr l D _ y _ (S3.setB (i := 0) rfl)
    · have S3 := S2.frame hkp hok hfp
      refine ⟨some c, _, run_endLoop (S3.at (i := 0) rfl) (by simp [rc, recL]), ?_⟩
      exact jump k c hk hr l D _ y _ (S3.setB (i := 0) rfl)
end
end Go.Fx
namespace Go.Fx
theorem leave_markN {P : Program} {n : Nat} {d : List Deferred} {e : Env} {w w0 : World} {C : Nat → Prop} {L : List Asr} {fn : Func} {R : Ending → World → Prop} {XX : List Asr} {i D : Nat} (S : St w0 C w XX L) (hi : XX[i]? = some (bx D (.deferred (some [])))) (h : ∀ w', St w0 C w' (XX.set i (bx D (.deferred none))) L → bodyPostM (Fr none) 0 P fn R .normal (E n e d) w') :
    bodyPostM (Fr none) 0 P fn R .normal (E n e (mark D ++ d)) w := by
  refine ⟨by simp, .inl ⟨D, setB w D (.deferred none), rfl, ?_, h _ (S.setB hi)⟩⟩
  have h1 := S.at hi
  have h2 : (getObj D).run P w = .ok (.deferred (some [])) w := by simp only [getObj, Sem.run, h1]
  have h3 : (setObj D (.deferred none)).run P w = .ok () (setB w D (.deferred none)) := by simp only [setObj, Sem.run, h1]; rfl
  simp [Instr.takeDeferred, h2, h3]
end Go.Fx

set_option linter.unusedSimpArgs false
set_option linter.unusedVariables false
namespace Go.Fx
open Go
/-! ### arrays of structs, by a list -/
section
variable {α : Type} [Inhabited α] {enc : α → List Value} {s : Nat}
def agetS (l : List α) (j : Int) : α := l.getD j.toNat default
def sgEF (enc : α → List Value) (l : List α) : Nat → Nat → List Value
  | _, 0 => []
  | k, n + 1 => enc (l.getD k default) ++ sgEF enc l (k + 1) n
/-- the cells of an array of n structs -/
def sgE (enc : α → List Value) (l : List α) (n : Nat) : List Value := sgEF enc l 0 n
theorem sgEF_len (he : ∀ x, (enc x).length = s) (l : List α) : ∀ (n k : Nat), (sgEF enc l k n).length = n * s
  | 0, _ => by simp [sgEF]
  | n + 1, k => by rw [sgEF, List.length_append, he, sgEF_len he l n (k + 1), Nat.succ_mul]; omega
theorem sgEF_app (l : List α) : ∀ (m k n : Nat), sgEF enc l k (m + n) = sgEF enc l k m ++ sgEF enc l (k + m) n
  | 0, k, n => by simp [sgEF]
  | m + 1, k, n => by rw [show m + 1 + n = (m + n) + 1 by omega, sgEF, sgEF, sgEF_app l m (k + 1) n, List.append_assoc, show k + 1 + m = k + (m + 1) by omega]
theorem sgE_split (l : List α) {n k : Nat} (hk : k < n) : sgE enc l n = sgEF enc l 0 k ++ enc (l.getD k default) ++ sgEF enc l (k + 1) (n - k - 1) := by
  unfold sgE
  conv => lhs; rw [show n = k + ((n - k - 1) + 1) by omega]
  rw [sgEF_app, sgEF, Nat.zero_add, List.append_assoc]
variable {ro : Option Nat} {P : Program} {full : Array Oper} {Q : Exit → Act → World → Prop} {n : Nat} {d : List Deferred} {e : Env} {w w0 : World} {C : Nat → Prop} {X L : List Asr}
variable {rest : List Oper} {ty : TypeId} {ps : String} {af : Array Edge}
theorem p_ldDE {t i b o m off : Nat} {x : Operand} {pre post cs : List Value} {l : List α} {j : Int} {ct : TypeId} {v : Value} (hT : aggOf P t = some false) (hw : w.heap[b]? = some (.cells cs.toArray ct)) (hc : cs = pre ++ (sgE enc l m ++ post)) (he : ∀ x, (enc x).length = s) (hj : inI j m = true)
    (hx : evn n e x = .pointer (some ⟨b, o + j.toNat * s + off, none⟩)) (ho : pre.length = o) (hv : (enc (agetS l j))[off]? = some v)
    (h : wpA ro P full Q rest (E n (upd e i v) d) w) : wpA ro P full Q (⟨some i, .load t x, ty, ps, af, none⟩ :: rest) (E n e d) w := by
  obtain ⟨h0, h1⟩ := inI_spec hj
  refine o_ld1 hx hT ?_ h
  have hk : j.toNat < m := by omega
  have hoff : off < s := by have := (List.getElem?_eq_some_iff.1 hv).1; rwa [he] at this
  have hA := sgEF_len he l j.toNat 0
  rw [cell_of hw, hc, sgE_split l hk]
  simp only [List.getElem?_toArray]
  rw [List.getElem?_append_right (by omega), List.append_assoc, List.append_assoc, List.getElem?_append_right (by omega), List.getElem?_append_left (by rw [he]; omega)]
  rw [show o + j.toNat * s + off - pre.length - (sgEF enc l 0 j.toNat).length = off by omega]
  exact hv
theorem p_ldDA {t i b o m : Nat} {x : Operand} {pre post cs : List Value} {l : List α} {j : Int} {ct : TypeId} (hT : aggOf P t = some true) (hs : sizOf P t = some s) (hw : w.heap[b]? = some (.cells cs.toArray ct)) (hc : cs = pre ++ (sgE enc l m ++ post)) (he : ∀ x, (enc x).length = s) (hj : inI j m = true)
    (hx : evn n e x = .pointer (some ⟨b, o + j.toNat * s, none⟩)) (ho : pre.length = o)
    (h : wpA ro P full Q rest (E n (upd e i (AG (enc (agetS l j)))) d) w) : wpA ro P full Q (⟨some i, .load t x, ty, ps, af, none⟩ :: rest) (E n e d) w := by
  obtain ⟨h0, h1⟩ := inI_spec hj
  have hk : j.toNat < m := by omega
  have hA := sgEF_len he l j.toNat 0
  refine o_ldN hx hT hs (he _) (box_cells hw ?_) h
  rw [hc, sgE_split l hk, he]
  have e1 : pre ++ (sgEF enc l 0 j.toNat ++ enc (l.getD j.toNat default) ++ sgEF enc l (j.toNat + 1) (m - j.toNat - 1) ++ post) = (pre ++ sgEF enc l 0 j.toNat) ++ (enc (l.getD j.toNat default) ++ (sgEF enc l (j.toNat + 1) (m - j.toNat - 1) ++ post)) := by simp
  simp only [List.toList_toArray]
  rw [e1, List.drop_left' (by simp; omega), List.take_left' (he _)]
  rfl
end
end Go.Fx
namespace Go.Fx
section
def arrElOf (P : Program) (t : TypeId) : Option (Nat × TypeId) := match P.underlying t with | some (.array n el) => some (n, el) | _ => none
variable {ro : Option Nat} {P : Program} {full : Array Oper} {Q : Exit → Act → World → Prop} {n : Nat} {d : List Deferred} {e : Env} {w w0 : World} {C : Nat → Prop} {X L : List Asr}
variable {rest : List Oper} {ty : TypeId} {ps : String} {af : Array Edge}
theorem arrEl_und {t m el : Nat} (h : arrElOf P t = some (m, el)) : P.underlying t = some (.array m el) := by
  unfold arrElOf at h
  split at h
  · rename_i hu; cases h; exact hu
  · cases h
theorem p_idxI {t i el m : Nat} {x y : Operand} {l : List Int} {k : IntKind} {j : Int} (hT : arrElOf P t = some (m, el)) (hs : sizOf P el = some 1) (hA : aggOf P el = some false) (hj : inI j m = true) (hx : evn n e x = AG (sg l m)) (hy : evn n e y = .int k j)
    (h : wpA ro P full Q rest (E n (upd e i (I (aget l j))) d) w) : wpA ro P full Q (⟨some i, .index t x y, ty, ps, af, none⟩ :: rest) (E n e d) w := by
  obtain ⟨h0, h1⟩ := inI_spec hj
  have hg : (sg l m)[j.toNat]? = some (I (aget l j)) := sg_get l (by omega)
  have hj' : j < (m : Int) := h1
  refine op_val (v := I (aget l j)) rfl (fun _ h => by cases h) ?_ h
  have hx' : evn n e x = .agg (sg l m).toArray := hx
  simp [execOp, Instr.index, hx', hy, asIntOf, run_und (arrEl_und hT), h0, h1, run_sizeOf hs, part, run_isAgg hA, hg]
theorem p_idxS {α : Type} [Inhabited α] {enc : α → List Value} {s t i el m : Nat} {x y : Operand} {l : List α} {k : IntKind} {j : Int} (hT : arrElOf P t = some (m, el)) (hs : sizOf P el = some s) (hA : aggOf P el = some true) (he : ∀ x, (enc x).length = s) (hj : inI j m = true) (hx : evn n e x = AG (sgE enc l m)) (hy : evn n e y = .int k j)
    (h : wpA ro P full Q rest (E n (upd e i (AG (enc (agetS l j)))) d) w) : wpA ro P full Q (⟨some i, .index t x y, ty, ps, af, none⟩ :: rest) (E n e d) w := by
  obtain ⟨h0, h1⟩ := inI_spec hj
  have hA' := sgEF_len he l j.toNat 0
  have hg : List.take s (List.drop (j.toNat * s) (sgE enc l m)) = enc (agetS l j) := by
    rw [sgE_split l (show j.toNat < m by omega), List.append_assoc, List.drop_left' hA', List.take_left' (he _)]
    rfl
  refine op_val (v := AG (enc (agetS l j))) rfl (fun _ h => by cases h) ?_ h
  have hx' : evn n e x = .agg (sgE enc l m).toArray := hx
  simp only [execOp, Instr.index, hx', hy, asIntOf]
  simp [run_und (arrEl_und hT), h0, h1, run_sizeOf hs, part, run_isAgg hA, hg]
end
end Go.Fx
namespace Go.Fx
section
variable {κ ν : Type} {ek : κ → Value} {ev : ν → Value} {w w0 : World} {C : Nat → Prop} {X L : List Asr}
theorem St.mpoN (S : St w0 C w X L) (ek : κ → Value) (ev : ν → Value) : St w0 C w X (mpo ek ev none ([] : List (κ × ν)) :: L) := S.addL' mpo_none fun b hb => by cases hb
end
end Go.Fx
namespace Go.Fx
section
variable {ro : Option Nat} {P : Program} {full : Array Oper} {Q : Exit → Act → World → Prop} {n : Nat} {d : List Deferred} {e : Env} {w w0 : World} {C : Nat → Prop} {X L : List Asr}
variable {rest : List Oper} {ty : TypeId} {ps : String} {af : Array Edge}
/-- an array built of its elements -/
def bldOf (P : Program) (t : TypeId) : Option (Array Value × Nat) := match P.info? t, P.underlying t with
  | some it, some (.array _ el) => match it.zero, P.info? el with
    | some z, some ie => some (z.cells, ie.size)
    | _, _ => none
  | _, _ => none
theorem p_bldA {t i s : Nat} {parts : Array (Nat × Operand)} {vals : List (Nat × Value)} {z cs : List Value} (hT : bldOf P t = some (z.toArray, s)) (hv : parts.toList.map (fun (i, x) => (i, evn n e x)) = vals) (hf : Instr.fill (fun i => some (i * s, s)) z.toArray vals = some cs.toArray)
    (h : wpA ro P full Q rest (E n (upd e i (AG cs)) d) w) : wpA ro P full Q (⟨some i, .build t parts, ty, ps, af, none⟩ :: rest) (E n e d) w := by
  unfold bldOf at hT
  split at hT
  · rename_i it m el h1 h2
    split at hT
    · rename_i z' ie h3 h4
      injection hT with hT
      injection hT with e1 e2
      subst e2
      have hp : List.map (fun x => (x.fst, evn n e x.snd)) parts.toList = vals := hv
      refine op_val (v := AG cs) rfl (fun _ h => by cases h) ?_ h
      simp [execOp, Instr.build, zeroValue, typeInfo, h1, h3, run_und h2, sizeOf, h4, e1, hp, hf]
    · cases hT
  · cases hT
/-- one of an array's values, of whatever kind -/
theorem p_idxV {t i el m : Nat} {x y : Operand} {vs : List Value} {v : Value} {k : IntKind} {j : Int} (hT : arrElOf P t = some (m, el)) (hs : sizOf P el = some 1) (hA : aggOf P el = some false) (hj : inI j m = true) (hx : evn n e x = AG vs) (hy : evn n e y = .int k j) (hv : vs[j.toNat]? = some v)
    (h : wpA ro P full Q rest (E n (upd e i v) d) w) : wpA ro P full Q (⟨some i, .index t x y, ty, ps, af, none⟩ :: rest) (E n e d) w := by
  obtain ⟨h0, h1⟩ := inI_spec hj
  refine op_val (v := v) rfl (fun _ h => by cases h) ?_ h
  have hx' : evn n e x = .agg vs.toArray := hx
  simp [execOp, Instr.index, hx', hy, asIntOf, run_und (arrEl_und hT), h0, h1, run_sizeOf hs, part, run_isAgg hA, hv]
theorem two_second {j : Int} (h : inI j 2 = true) (h0 : (j == 0) = false) : j = 1 := by
  have := inI_spec h
  have : j ≠ 0 := by simpa using h0
  omega
/-- a part of an array of numbers, from its begin -/
theorem p_cutA {t i el m o b : Nat} {x hi : Operand} {l r : List Int} {a : Int} (hT : arrElOf P t = some (m, el)) (hs : sizOf P el = some 1) (hc : cutI (sgl l m) 0 a = some r) (hx : evn n e x = .pointer (some ⟨b, o, none⟩)) (hhi : evn n e hi = I a)
    (h : wpA ro P full Q rest (E n (upd e i (SL (some ⟨b, o, none⟩) r.length m)) d) w) : wpA ro P full Q (⟨some i, .slice t x none (some hi) none, ty, ps, af, none⟩ :: rest) (E n e d) w := by
  obtain ⟨h0, h1, h2, hr⟩ := cutI_some hc
  rw [sgl_len] at h2
  have hlen : r.length = a.toNat := by have := sgl_len l m; rw [hr]; simp only [List.length_drop, List.length_take]; omega
  rw [hlen] at h
  refine op_val (v := SL (some ⟨b, o, none⟩) a.toNat m) rfl (fun _ h => by cases h) ?_ h
  have hhi' : evn n e hi = .int .i64 a := hhi
  simp [execOp, Instr.sliceAt, Instr.sureAddr, run_und (arrEl_und hT), hx, hhi', Instr.sliceBounds, run_bound rfl h1 h2, run_sizeOf hs]
  intro _
  simp [Addr.add]
theorem St.arrRd {b m o : Nat} {pre post cs : List Value} {l r : List Int} {ct : TypeId} {a : Int} (S : St w0 C w X L) {i : Nat} (hi : L[i]? = some (bl b cs ct)) (hcs : cs = pre ++ (sg l m ++ post)) (ho : pre.length = o) (hc : cutI (sgl l m) 0 a = some r) (hm : m ≤ 1000) : St w0 C w X (rd intE 1 (some ⟨b, o, none⟩) m r :: L) := by
  obtain ⟨h0, h1, h2, hr⟩ := cutI_some hc
  rw [sgl_len] at h2
  have hw : w.heap[b]? = some (.cells cs.toArray ct (0, 0)) := S.atP hi
  have hb := (Array.getElem?_eq_some_iff.1 hw).1
  refine S.addL' ⟨.inr ⟨b, o, rfl, hb, fun k x hk j v hj => ?_⟩, by have := sgl_len l m; rw [hr]; simp only [List.length_drop, List.length_take]; omega, by rw [maxLen_eq]; omega⟩ fun b' hb' x hx hxb => S.dp x hx _ (List.mem_of_getElem? hi) b' hxb ?_
  · have hkr : k < r.length := (List.getElem?_eq_some_iff.1 hk).1
    have hkm : k < m := by have := sgl_len l m; rw [hr] at hkr; simp only [List.length_drop, List.length_take] at hkr; omega
    have hj0 : j = 0 := by
      have := (List.getElem?_eq_some_iff.1 hj).1
      rw [intE_len] at this; omega
    subst hj0
    have hv : v = .int .i64 x := by simpa [intE] using hj.symm
    subst hv
    have hx' : x = l.getD k 0 := by
      rw [hr, show (0 : Int).toNat = 0 from rfl, List.drop_zero, List.getElem?_take] at hk
      split at hk
      · unfold sgl at hk
        rw [List.getElem?_map, List.getElem?_range hkm] at hk
        exact (Option.some.inj hk).symm
      · cases hk
    subst hx'
    rw [cell_of hw, hcs]
    simp only [List.getElem?_toArray]
    rw [List.getElem?_append_right (by omega), List.getElem?_append_left (by rw [sg_len]; omega), show o + k * 1 + 0 - pre.length = k by omega]
    exact sg_get l hkm
  · obtain ⟨_, a', ha, rfl⟩ := hb'
    have := Option.some.inj ha
    subst this
    rfl
end
end Go.Fx
namespace Go.Fx
section
variable {ro : Option Nat} {P : Program} {full : Array Oper} {Q : Exit → Act → World → Prop} {n : Nat} {d : List Deferred} {e : Env} {w w0 : World} {C : Nat → Prop} {X L : List Asr}
variable {rest : List Oper} {ty : TypeId} {ps : String} {af : Array Edge}
/-- a field's place and type -/
def fldTOf (P : Program) (t f : Nat) : Option (Nat × TypeId) := match P.underlying t with
  | some (.struct fs) => (fs[f]?).map fun fl => (fl.offset, fl.type)
  | _ => none
/-- a field of a struct that is at hand, one cell -/
theorem p_fieldV {t f i o ft : Nat} {x : Operand} {cs : List Value} {v : Value} (hT : fldTOf P t f = some (o, ft)) (hA : aggOf P ft = some false) (hx : evn n e x = AG cs) (hv : cs[o]? = some v)
    (h : wpA ro P full Q rest (E n (upd e i v) d) w) : wpA ro P full Q (⟨some i, .field t x f, ty, ps, af, none⟩ :: rest) (E n e d) w := by
  unfold fldTOf at hT
  split at hT
  · rename_i fs hu
    obtain ⟨fl, h1, h2⟩ := Option.map_eq_some_iff.1 hT
    injection h2 with e1 e2
    subst e1 e2
    refine op_val (v := v) rfl (fun _ h => by cases h) ?_ h
    have hx' : evn n e x = .agg cs.toArray := hx
    simp [execOp, Instr.field, run_und hu, h1, hx', asAgg, part, run_isAgg hA, hv]
  · cases hT
end
end Go.Fx

set_option linter.unusedSimpArgs false
set_option linter.unusedVariables false
namespace Go.Fx
open Go
/-! ### copy into a row of numbers that is one's own -/
section
variable {ro : Option Nat} {P : Program} {full : Array Oper} {Q : Exit → Act → World → Prop} {n : Nat} {d : List Deferred} {e : Env} {w w0 : World} {C : Nat → Prop} {X L : List Asr}
variable {rest : List Oper} {ty : TypeId} {ps : String} {af : Array Edge}
theorem run_cpy {st : TypeId} {dst : Option Nat} {x y : Operand} {vx vy v : Value} {w' : World} (hx : evn n e x = vx) (hy : evn n e y = vy) (hr : (Builtin.copy_ #[st, st] ty #[vx, vy]).run P w = .ok v w') :
    (execOp (evn n e) ⟨dst, .call ⟨.builtin .copy, #[x, y], #[st, st]⟩, ty, ps, af, none⟩).run P w = .ok (.value v) w' := by
  simp [execOp, resolve, hx, hy, invoke, builtin, hr]
theorem flat_int_I (l : List Int) : l.flatMap intE = l.map I := by
  induction l with
  | nil => rfl
  | cons x l ih => rw [List.flatMap_cons, ih]; rfl
theorem p_cpI {st el c c2 i : Nat} {dst : Option Nat} {A B : Option Addr} {l ys : List Int} {x y : Operand} (hT : slcOf P st = some (el, 1)) (S : St w0 C w X L) (hi : X[i]? = some (gr intE 1 el A c l)) (hys : (sl intE 1 B ys).ok w) (hne : ys ≠ []) (hle : ys.length ≤ l.length)
    (hx : evn n e x = .slice A l.length c) (hy : evn n e y = .slice B ys.length c2)
    (h : ∀ l' w', l' = ys ++ l.drop ys.length → l'.length = l.length → St w0 C w' (X.set i (gr intE 1 el A c l')) L → wpA ro P full Q rest (E n (updo e dst (I ys.length)) d) w') :
    wpA ro P full Q (⟨dst, .call ⟨.builtin .copy, #[x, y], #[st, st]⟩, ty, ps, af, none⟩ :: rest) (E n e d) w := by
  obtain ⟨hu, hs⟩ := slc_und hT
  have hl : l ≠ [] := by
    intro h0; subst h0
    exact hne (List.eq_nil_of_length_eq_zero (by simpa using hle))
  obtain ⟨g, cur, rfl, hg, hlc, hcm, hsz, htk⟩ := gr_block (S.atX hi) hl
  obtain ⟨b, o, rfl, hb⟩ : ∃ b o, B = some ⟨b, o, none⟩ ∧ ∀ i x, ys[i]? = some x → ∀ j v, (intE x)[j]? = some v → w.cell? ⟨b, o + i * 1 + j, none⟩ = some v := by
    rcases hys with h0 | ⟨b, o, h1, _, h2⟩
    · exact absurd h0 hne
    · exact ⟨b, o, h1, h2⟩
  have hgb := (Array.getElem?_eq_some_iff.1 hg).1
  have hr := run_copy_row (P := P) w st st ty el g 0 l.length c ⟨b, o, none⟩ ys.length c2 cur el (ys.map I) hu hs hg (by rw [List.length_map]; exact (Nat.min_eq_left hle).symm) (fun j v hj => by
    rw [List.getElem?_map] at hj
    obtain ⟨y', hy', rfl⟩ := Option.map_eq_some_iff.1 hj
    have := hb j y' hy' 0 (I y') rfl
    have e1 : (Addr.add ⟨b, o, none⟩ j) = ⟨b, o + j, none⟩ := by
      unfold Addr.add
      split
      · rename_i h0; subst h0; rfl
      · rfl
    rw [e1]
    simpa using this) (by rw [List.length_map]; omega) (fun v hv => by
    obtain ⟨z, _, rfl⟩ := List.mem_map.1 hv
    rfl)
  rw [List.length_map] at hr
  obtain ⟨nc, hnc⟩ : ∃ nc, nc = (cur.toList.take 0 ++ ys.map I ++ cur.toList.drop (0 + ys.length)).toArray := ⟨_, rfl⟩
  rw [← hnc] at hr
  have hset : w.setRow g nc = setB w g (.cells nc el (0, 0)) := by
    unfold World.setRow setB
    congr 1
    refine Array.ext_getElem? fun k => ?_
    by_cases hk : g = k
    · subst hk
      have h1 := setRow_heap w g cur nc el (0, 0) hg
      rw [Array.getElem?_setIfInBounds_self_of_lt hgb]
      exact h1
    · rw [Array.getElem?_modify, if_neg hk, Array.getElem?_setIfInBounds_ne hk]
  rw [hset] at hr
  have hncs : nc.size = cur.size := by rw [hnc]; simp; omega
  have hl' : (ys ++ l.drop ys.length).length = l.length := by simp; omega
  have S' : St w0 C (setB w g (.cells nc el (0, 0))) (X.set i (gr intE 1 el (some ⟨g, 0, none⟩) c (ys ++ l.drop ys.length))) L := by
    refine S.turn hi ⟨flat_len intE_len _, .inr ⟨g, c, nc, by rw [hl'], Nat.zero_le _, by simp [setB, hgb], by rw [hl']; exact hlc, hcm, by rw [hncs, hsz], ?_⟩⟩
      (fun b' hb' => .inl (by simp only [gr, hl'] at hb' ⊢; exact hb')) rfl rfl rfl (by simp [setB]) (fun b' hb' hn => ?_)
    · rw [hl']
      show (nc.toList.drop 0).take _ = _
      have hcl : cur.toList = l.map I ++ cur.toList.drop l.length := by
        rw [flat_int_I, Nat.mul_one] at htk
        rw [← htk]; exact (List.take_append_drop _ _).symm
      rw [List.drop_zero, flat_int_I, hnc, List.take_zero, List.nil_append, Nat.zero_add, hcl, List.drop_append_of_le_length (by simpa using hle), ← List.map_drop, ← List.append_assoc, ← List.map_append]
      show List.take (l.length * 1) (List.map I (ys ++ List.drop ys.length l) ++ List.drop l.length cur.toList) = _
      rw [List.take_append_of_le_length (by rw [List.length_map, hl']; omega), List.take_of_length_le (by rw [List.length_map, hl']; omega)]
    · show (w.heap.setIfInBounds g _)[b']? = _
      rw [Array.getElem?_setIfInBounds_ne (fun h => hn (by subst h; simp [gr, Value.ownBlock]))]
  exact op_val rfl (fun _ h => by cases h) (run_cpy hx hy hr) (h _ _ rfl hl' S')
/-- make with a length that is known when it runs -/
theorem p_mkV {α : Type} {enc : α → List Value} {s t i el bb : Nat} {len : Int} {z : Value} {x0 : α} {xo yo : Operand} (hT : slcOf P t = some (el, s)) (hz : infoOf P el = some (some z, s, bb)) (he : ∀ x, (enc x).length = s) (hz0 : z.cells.toList = enc x0) (hbb : bb ≤ 1024) (hn : inI len 1073741824 = true) (S : St w0 C w X L)
    (hx : evn n e xo = I len) (hy : evn n e yo = I len)
    (h : ∀ A w', St w0 C w' (gr enc s el A len.toNat (List.replicate len.toNat x0) :: X) L → wpA ro P full Q rest (E n (upd e i (SL A (List.replicate len.toNat x0).length len.toNat)) d) w') :
    wpA ro P full Q (⟨some i, .makeSlice t xo yo, ty, ps, af, none⟩ :: rest) (E n e d) w := by
  obtain ⟨h0, h1⟩ := inI_spec hn
  have hk : ((len.toNat : Nat) : Int) = len := Int.toNat_of_nonneg h0
  have hb : len.toNat * bb ≤ 1073741824 * 1024 := Nat.mul_le_mul (by omega) hbb
  exact p_mkS (k := len.toNat) hT hz he hz0 (by omega) (by omega) S (by rw [hk]; exact hx) (by rw [hk]; exact hy) h
/-- copy into an own row of numbers that is long enough -/
theorem p_cp {st el c c2 i : Nat} {dst : Option Nat} {A B : Option Addr} {l ys : List Int} {x y : Operand} (hT : slcOf P st = some (el, 1)) (S : St w0 C w X L) (hi : X[i]? = some (gr intE 1 el A c l)) (hys : (sl intE 1 B ys).ok w) (hle : decide (ys.length ≤ l.length) = true)
    (hx : evn n e x = .slice A l.length c) (hy : evn n e y = .slice B ys.length c2)
    (h : ∀ l' w', l' = ys ++ l.drop ys.length → l'.length = l.length → St w0 C w' (X.set i (gr intE 1 el A c l')) L → wpA ro P full Q rest (E n (updo e dst (I ys.length)) d) w') :
    wpA ro P full Q (⟨dst, .call ⟨.builtin .copy, #[x, y], #[st, st]⟩, ty, ps, af, none⟩ :: rest) (E n e d) w := by
  by_cases hne : ys = []
  · subst hne
    obtain ⟨hu, hs⟩ := slc_und hT
    have hr : (Builtin.copy_ #[st, st] ty #[.slice A l.length c, .slice B 0 c2]).run P w = .ok (goInt 0) w := by
      unfold sizOf at hs
      cases hq : P.info? el with
      | none => simp [hq] at hs
      | some i => cases A <;> cases B <;> simp [Builtin.copy_, run_underlying hu, Builtin.lenOf, Builtin.firstCells, sizeOf, typeInfo, hq, storeCells, loadCells, loadCellsFrom]
    refine op_val rfl (fun _ h => by cases h) (run_cpy hx hy hr) (h l w (by simp) rfl ?_)
    obtain ⟨h1, h2⟩ := List.getElem?_eq_some_iff.1 hi
    rw [← h2, List.set_getElem_self]
    exact S
  · exact p_cpI hT S hi hys hne (of_decide_eq_true hle) hx hy h
end
end Go.Fx

set_option linter.unusedSimpArgs false
set_option linter.unusedVariables false
namespace Go.Fx
open Go
/-! ### regions whose order is open, in whose head two chains work, each on own words of its own -/
section
variable {ro : Option Nat} {P : Program} {n : Nat} {d : List Deferred} {w : World} {Q : Exit → Act → World → Prop} {CC : Nat → Prop} {Base : List Asr}
end
end Go.Fx

set_option linter.unusedSimpArgs false
set_option linter.unusedVariables false
namespace Go.Fx
open Go
/-- no word on memory: a fact that comes along -/
def pur (φ : Prop) : Asr where
  fp _ := False
  ok _ := φ
  mono _ _ h _ := h
  inb _ _ _ h := h.elim
theorem St.addPur {w0 w : World} {C : Nat → Prop} {X L : List Asr} (S : St w0 C w X L) {φ : Prop} (h : φ) : St w0 C w X (pur φ :: L) := S.addL' (p := pur φ) h (fun b hb => hb.elim)
theorem Pur.of {φ : Prop} {w : World} (h : (pur φ).ok w) : φ := h
/-! ### a number of an array within an element -/
section
variable {ro : Option Nat} {P : Program} {full : Array Oper} {Q : Exit → Act → World → Prop} {n : Nat} {d : List Deferred} {e : Env} {w : World}
variable {rest : List Oper} {ty : TypeId} {ps : String} {af : Array Edge}
end
/-! ### a map's value, or zero -/
section
variable {κ ν : Type} [DecidableEq κ] {ek : κ → Value} {ev : ν → Value}
variable {ro : Option Nat} {P : Program} {full : Array Oper} {Q : Exit → Act → World → Prop} {n : Nat} {d : List Deferred} {e : Env} {w : World}
variable {rest : List Oper} {ty : TypeId} {ps : String} {af : Array Edge}
end
/-! ### numbers of other kinds -/
section
variable {ro : Option Nat} {P : Program} {full : Array Oper} {Q : Exit → Act → World → Prop} {n : Nat} {d : List Deferred} {e : Env} {w : World}
variable {rest : List Oper} {ty : TypeId} {ps : String} {af : Array Edge} {x y : Operand} {i xt yt : Nat} {a b : Int} {k : IntKind}
end
/-! ### entries of maps -/
section
variable {κ ν : Type} [DecidableEq κ] {ek : κ → Value} {ev : ν → Value}
variable {ro : Option Nat} {P : Program} {full : Array Oper} {Q : Exit → Act → World → Prop} {n : Nat} {d : List Deferred} {e : Env} {w w0 : World} {C : Nat → Prop} {X L : List Asr}
variable {rest : List Oper} {ty : TypeId} {ps : String} {af : Array Edge}
end
end Go.Fx

set_option linter.unusedVariables false
set_option linter.unusedSimpArgs false
namespace Go.Proofs.YticodohfokgjfaaDoor
open Go Go.Fx Go.Proofs
theorem fl23_1 : fldOf Tryd.prog 23 1 = some 1 := by kernel_rfl
theorem ty3 : aggOf Tryd.prog 3 = some false := by kernel_rfl
theorem fl23_0 : fldOf Tryd.prog 23 0 = some 0 := by kernel_rfl
theorem fl92_0 : fldOf Tryd.prog 92 0 = some 0 := by kernel_rfl
theorem fl29_6 : fldOf Tryd.prog 29 6 = some 13 := by kernel_rfl
theorem ty27 : aggOf Tryd.prog 27 = some false := by kernel_rfl
theorem sc27 : slcOf Tryd.prog 27 = some (67, 3) := by kernel_rfl
theorem ty67 : aggOf Tryd.prog 67 = some true := by kernel_rfl
theorem sz67 : sizOf Tryd.prog 67 = some 3 := by kernel_rfl
theorem in67 : infoOf Tryd.prog 67 = some (some (Value.agg #[I 0, I 0, I 0]), 3, 24) := by kernel_rfl
theorem fl67_0 : fldOf Tryd.prog 67 0 = some 0 := by kernel_rfl
theorem fl67_1 : fldOf Tryd.prog 67 1 = some 1 := by kernel_rfl
theorem fl67_2 : fldOf Tryd.prog 67 2 = some 2 := by kernel_rfl
theorem fu79 : funOf Tryd.prog 79 = true := by kernel_rfl
theorem in105 : infoOf Tryd.prog 105 = some (some (Value.agg #[I 0, I 0]), 2, 16) := by kernel_rfl
theorem ty105 : aggOf Tryd.prog 105 = some true := by kernel_rfl
theorem sz105 : sizOf Tryd.prog 105 = some 2 := by kernel_rfl
theorem sc39 : slcOf Tryd.prog 39 = some (3, 1) := by kernel_rfl
theorem mixed : Tryd.prog.follows .mixedOrders = true := by kernel_rfl
theorem fu110 : funOf Tryd.prog 110 = true := by kernel_rfl
theorem eq105 : eqOk Tryd.prog 105 [.int .i64, .int .i64] := ⟨by kernel_rfl, by kernel_rfl, by kernel_rfl⟩
theorem ae105 : arrElOf Tryd.prog 105 = some (2, 3) := by kernel_rfl
theorem sz3 : sizOf Tryd.prog 3 = some 1 := by kernel_rfl
theorem fl29_3 : fldOf Tryd.prog 29 3 = some 9 := by kernel_rfl
theorem ty26 : aggOf Tryd.prog 26 = some false := by kernel_rfl
theorem sc26 : slcOf Tryd.prog 26 = some (64, 3) := by kernel_rfl
theorem fl64_1 : fldOf Tryd.prog 64 1 = some 1 := by kernel_rfl
theorem fl64_0 : fldOf Tryd.prog 64 0 = some 0 := by kernel_rfl
theorem zr3_1 : zrow (I 0) (1 * 1) = #[I 0] := by kernel_rfl
theorem in3 : infoOf Tryd.prog 3 = some (some (I 0), 1, 8) := by kernel_rfl
theorem fu111 : funOf Tryd.prog 111 = true := by kernel_rfl
theorem ty124 : aggOf Tryd.prog 124 = some false := by kernel_rfl
theorem ty108 : aggOf Tryd.prog 108 = some true := by kernel_rfl
theorem sz108 : sizOf Tryd.prog 108 = some 15 := by kernel_rfl
theorem fl108_1 : fldOf Tryd.prog 108 1 = some 2 := by kernel_rfl
theorem fl29_5 : fldOf Tryd.prog 29 5 = some 12 := by kernel_rfl
theorem ty92 : aggOf Tryd.prog 92 = some true := by kernel_rfl
theorem sz92 : sizOf Tryd.prog 92 = some 15 := by kernel_rfl
theorem fl108_0 : fldOf Tryd.prog 108 0 = some 0 := by kernel_rfl
theorem fu106 : funOf Tryd.prog 106 = true := by kernel_rfl
theorem fl92_1 : fldOf Tryd.prog 92 1 = some 14 := by kernel_rfl
theorem ty90 : aggOf Tryd.prog 90 = some false := by kernel_rfl
theorem st123 : strOf Tryd.prog 123 = some (#[I 0, I 0], #[(0, 1), (1, 1)]) := by kernel_rfl
theorem mt90 : mptOf Tryd.prog 90 = some (123, 3) := by kernel_rfl
theorem ty56 : aggOf Tryd.prog 56 = some false := by kernel_rfl
theorem fu104 : funOf Tryd.prog 104 = true := by kernel_rfl
theorem fl108_2 : fldOf Tryd.prog 108 2 = some 3 := by kernel_rfl
theorem ar106 : arrOf Tryd.prog 106 = some (6, 1) := by kernel_rfl
theorem fl108_3 : fldOf Tryd.prog 108 3 = some 9 := by kernel_rfl
theorem ty130 : aggOf Tryd.prog 130 = some false := by kernel_rfl
theorem fu105 : funOf Tryd.prog 105 = true := by kernel_rfl
theorem in56 : infoOf Tryd.prog 56 = some (some (Value.nilFunc), 1, 8) := by kernel_rfl
theorem sz56 : sizOf Tryd.prog 56 = some 1 := by kernel_rfl
theorem in130 : infoOf Tryd.prog 130 = some (some (Value.nilFunc), 1, 8) := by kernel_rfl
theorem sz130 : sizOf Tryd.prog 130 = some 1 := by kernel_rfl
theorem fl29_0 : fldOf Tryd.prog 29 0 = some 0 := by kernel_rfl
theorem ty23 : aggOf Tryd.prog 23 = some true := by kernel_rfl
theorem sz23 : sizOf Tryd.prog 23 = some 2 := by kernel_rfl
theorem fu96 : funOf Tryd.prog 96 = true := by kernel_rfl
theorem fl29_1 : fldOf Tryd.prog 29 1 = some 2 := by kernel_rfl
theorem ar24 : arrOf Tryd.prog 24 = some (2, 2) := by kernel_rfl
theorem fl29_4 : fldOf Tryd.prog 29 4 = some 10 := by kernel_rfl
theorem ba105 : bldOf Tryd.prog 105 = some (#[I 0, I 0], 1) := by kernel_rfl
theorem st108 : strOf Tryd.prog 108 = some (#[I 0, I 0, I 0, I 0, I 0, I 0, I 0, I 0, I 0, I 0, I 0, I 0, I 0, I 0, I 0], #[(0, 2), (2, 1), (3, 6), (9, 6)]) := by kernel_rfl
theorem fu97 : funOf Tryd.prog 97 = true := by kernel_rfl
theorem in108 : infoOf Tryd.prog 108 = some (some (Value.agg #[I 0, I 0, I 0, I 0, I 0, I 0, I 0, I 0, I 0, I 0, I 0, I 0, I 0, I 0, I 0]), 15, 120) := by kernel_rfl
theorem fu103 : funOf Tryd.prog 103 = true := by kernel_rfl
theorem fu102 : funOf Tryd.prog 102 = true := by kernel_rfl
theorem ae106 : arrElOf Tryd.prog 106 = some (6, 3) := by kernel_rfl
theorem fu99 : funOf Tryd.prog 99 = true := by kernel_rfl
theorem in4 : infoOf Tryd.prog 4 = some (some (B false), 1, 1) := by kernel_rfl
theorem fu78 : funOf Tryd.prog 78 = true := by kernel_rfl
theorem fu82 : funOf Tryd.prog 82 = true := by kernel_rfl
theorem sz4 : sizOf Tryd.prog 4 = some 1 := by kernel_rfl
theorem fu95 : funOf Tryd.prog 95 = true := by kernel_rfl
theorem ty4 : aggOf Tryd.prog 4 = some false := by kernel_rfl
theorem in64 : infoOf Tryd.prog 64 = some (some (Value.agg #[I 0, I 0, I 0]), 3, 24) := by kernel_rfl
theorem in29 : infoOf Tryd.prog 29 = some (some (Value.agg #[I 0, I 0, I 0, I 0, I 0, I 0, I 0, I 0, I 0, Value.slice none 0 0, I 0, I 0, I 0, Value.slice none 0 0]), 14, 144) := by kernel_rfl
theorem fu54 : funOf Tryd.prog 54 = true := by kernel_rfl
theorem fu55 : funOf Tryd.prog 55 = true := by kernel_rfl
theorem sz26 : sizOf Tryd.prog 26 = some 1 := by kernel_rfl
theorem sz27 : sizOf Tryd.prog 27 = some 1 := by kernel_rfl
theorem ty29 : aggOf Tryd.prog 29 = some true := by kernel_rfl
theorem sz29 : sizOf Tryd.prog 29 = some 14 := by kernel_rfl
theorem fu81 : funOf Tryd.prog 81 = true := by kernel_rfl
theorem ty24 : aggOf Tryd.prog 24 = some true := by kernel_rfl
theorem sz24 : sizOf Tryd.prog 24 = some 4 := by kernel_rfl
theorem ae24 : arrElOf Tryd.prog 24 = some (2, 23) := by kernel_rfl
theorem in23 : infoOf Tryd.prog 23 = some (some (Value.agg #[I 0, I 0]), 2, 16) := by kernel_rfl
theorem fl29_2 : fldOf Tryd.prog 29 2 = some 6 := by kernel_rfl
theorem ty25 : aggOf Tryd.prog 25 = some true := by kernel_rfl
theorem sz25 : sizOf Tryd.prog 25 = some 3 := by kernel_rfl
theorem ae25 : arrElOf Tryd.prog 25 = some (3, 3) := by kernel_rfl
theorem ty64 : aggOf Tryd.prog 64 = some true := by kernel_rfl
theorem sz64 : sizOf Tryd.prog 64 = some 3 := by kernel_rfl
theorem fl64_2 : fldOf Tryd.prog 64 2 = some 2 := by kernel_rfl
theorem fu75 : funOf Tryd.prog 75 = true := by kernel_rfl
theorem fu101 : funOf Tryd.prog 101 = true := by kernel_rfl
theorem in92 : infoOf Tryd.prog 92 = some (some (Value.agg #[I 0, I 0, I 0, I 0, I 0, I 0, I 0, I 0, I 0, Value.slice none 0 0, I 0, I 0, I 0, Value.slice none 0 0, Value.map none]), 15, 152) := by kernel_rfl
theorem st92 : strOf Tryd.prog 92 = some (#[I 0, I 0, I 0, I 0, I 0, I 0, I 0, I 0, I 0, Value.slice none 0 0, I 0, I 0, I 0, Value.slice none 0 0, Value.map none], #[(0, 14), (14, 1)]) := by kernel_rfl
theorem fu93 : funOf Tryd.prog 93 = true := by kernel_rfl
theorem zr67_1 : zrow (Value.agg #[I 0, I 0, I 0]) (1 * 3) = #[I 0, I 0, I 0] := by kernel_rfl
theorem in123 : infoOf Tryd.prog 123 = some (some (Value.agg #[I 0, I 0]), 2, 16) := by kernel_rfl
theorem sz123 : sizOf Tryd.prog 123 = some 2 := by kernel_rfl
theorem ty123 : aggOf Tryd.prog 123 = some true := by kernel_rfl
theorem eq123 : eqOk Tryd.prog 123 [.int .i64, .int .i64] := ⟨by kernel_rfl, by kernel_rfl, by kernel_rfl⟩
theorem fu41 : funOf Tryd.prog 41 = true := by kernel_rfl
theorem fu71 : funOf Tryd.prog 71 = true := by kernel_rfl
theorem fu72 : funOf Tryd.prog 72 = true := by kernel_rfl
theorem fl101_0 : fldOf Tryd.prog 101 0 = some 0 := by kernel_rfl
theorem ty99 : aggOf Tryd.prog 99 = some false := by kernel_rfl
theorem st23 : strOf Tryd.prog 23 = some (#[I 0, I 0], #[(0, 1), (1, 1)]) := by kernel_rfl
theorem in101 : infoOf Tryd.prog 101 = some (some (Value.agg #[Value.nilFunc]), 1, 8) := by kernel_rfl
theorem st101 : strOf Tryd.prog 101 = some (#[Value.nilFunc], #[(0, 1)]) := by kernel_rfl
theorem sz101 : sizOf Tryd.prog 101 = some 1 := by kernel_rfl
theorem ty101 : aggOf Tryd.prog 101 = some true := by kernel_rfl
theorem fu74 : funOf Tryd.prog 74 = true := by kernel_rfl
theorem fu77 : funOf Tryd.prog 77 = true := by kernel_rfl
theorem fu76 : funOf Tryd.prog 76 = true := by kernel_rfl
theorem ar105 : arrOf Tryd.prog 105 = some (2, 1) := by kernel_rfl
theorem fu80 : funOf Tryd.prog 80 = true := by kernel_rfl
theorem fu34 : funOf Tryd.prog 34 = true := by kernel_rfl
theorem fu89 : funOf Tryd.prog 89 = true := by kernel_rfl
theorem fu68 : funOf Tryd.prog 68 = true := by kernel_rfl
theorem ar25 : arrOf Tryd.prog 25 = some (3, 1) := by kernel_rfl
theorem fu86 : funOf Tryd.prog 86 = true := by kernel_rfl
theorem fu87 : funOf Tryd.prog 87 = true := by kernel_rfl
theorem fu33 : funOf Tryd.prog 33 = true := by kernel_rfl
theorem ar30 : arrOf Tryd.prog 30 = some (2, 1) := by kernel_rfl
theorem fl119_2 : fldOf Tryd.prog 119 2 = some 3 := by kernel_rfl
theorem ty39 : aggOf Tryd.prog 39 = some false := by kernel_rfl
theorem ty119 : aggOf Tryd.prog 119 = some true := by kernel_rfl
theorem sz119 : sizOf Tryd.prog 119 = some 5 := by kernel_rfl
theorem zr119_1 : zrow (Value.agg #[I 0, I 0, I 0, Value.slice none 0 0, Value.slice none 0 0]) (1 * 5) = #[I 0, I 0, I 0, Value.slice none 0 0, Value.slice none 0 0] := by kernel_rfl
theorem sc112 : slcOf Tryd.prog 112 = some (119, 5) := by kernel_rfl
theorem in119 : infoOf Tryd.prog 119 = some (some (Value.agg #[I 0, I 0, I 0, Value.slice none 0 0, Value.slice none 0 0]), 5, 72) := by kernel_rfl
theorem fl119_1 : fldOf Tryd.prog 119 1 = some 2 := by kernel_rfl
theorem fl119_0 : fldOf Tryd.prog 119 0 = some 0 := by kernel_rfl
theorem ty30 : aggOf Tryd.prog 30 = some true := by kernel_rfl
theorem sz30 : sizOf Tryd.prog 30 = some 2 := by kernel_rfl
theorem fu107 : funOf Tryd.prog 107 = true := by kernel_rfl
theorem fu108 : funOf Tryd.prog 108 = true := by kernel_rfl
theorem fl119_3 : fldOf Tryd.prog 119 3 = some 4 := by kernel_rfl
theorem fu109 : funOf Tryd.prog 109 = true := by kernel_rfl
theorem sz39 : sizOf Tryd.prog 39 = some 1 := by kernel_rfl
theorem fu100 : funOf Tryd.prog 100 = true := by kernel_rfl
theorem ba30 : bldOf Tryd.prog 30 = some (#[I 0, I 0], 1) := by kernel_rfl
theorem st119 : strOf Tryd.prog 119 = some (#[I 0, I 0, I 0, Value.slice none 0 0, Value.slice none 0 0], #[(0, 2), (2, 1), (3, 1), (4, 1)]) := by kernel_rfl
theorem fu57 : funOf Tryd.prog 57 = true := by kernel_rfl
theorem fu85 : funOf Tryd.prog 85 = true := by kernel_rfl
theorem fu44 : funOf Tryd.prog 44 = true := by kernel_rfl
theorem fu38 : funOf Tryd.prog 38 = true := by kernel_rfl
theorem fu26 : funOf Tryd.prog 26 = true := by kernel_rfl
theorem fu28 : funOf Tryd.prog 28 = true := by kernel_rfl
theorem eq23 : eqOk Tryd.prog 23 [.int .i64, .int .i64] := ⟨by kernel_rfl, by kernel_rfl, by kernel_rfl⟩
theorem fu35 : funOf Tryd.prog 35 = true := by kernel_rfl
theorem fu29 : funOf Tryd.prog 29 = true := by kernel_rfl
theorem eq64 : eqOk Tryd.prog 64 [.int .i64, .int .i64, .int .i64] := ⟨by kernel_rfl, by kernel_rfl, by kernel_rfl⟩
theorem eq67 : eqOk Tryd.prog 67 [.int .i64, .int .i64, .int .i64] := ⟨by kernel_rfl, by kernel_rfl, by kernel_rfl⟩
theorem eq24 : eqOk Tryd.prog 24 [.int .i64, .int .i64, .int .i64, .int .i64] := ⟨by kernel_rfl, by kernel_rfl, by kernel_rfl⟩
theorem eq25 : eqOk Tryd.prog 25 [.int .i64, .int .i64, .int .i64] := ⟨by kernel_rfl, by kernel_rfl, by kernel_rfl⟩
theorem fu61 : funOf Tryd.prog 61 = true := by kernel_rfl
theorem fu62 : funOf Tryd.prog 62 = true := by kernel_rfl
theorem ty94 : aggOf Tryd.prog 94 = some false := by kernel_rfl
theorem fu73 : funOf Tryd.prog 73 = true := by kernel_rfl
theorem in94 : infoOf Tryd.prog 94 = some (some (Value.nilFunc), 1, 8) := by kernel_rfl
theorem sz94 : sizOf Tryd.prog 94 = some 1 := by kernel_rfl
theorem ty110 : aggOf Tryd.prog 110 = some true := by kernel_rfl
theorem sz110 : sizOf Tryd.prog 110 = some 2 := by kernel_rfl
theorem ae110 : arrElOf Tryd.prog 110 = some (2, 109) := by kernel_rfl
theorem sz109 : sizOf Tryd.prog 109 = some 1 := by kernel_rfl
theorem ty109 : aggOf Tryd.prog 109 = some false := by kernel_rfl
theorem fu128 : funOf Tryd.prog 128 = true := by kernel_rfl
theorem fu129 : funOf Tryd.prog 129 = true := by kernel_rfl
theorem ft23_0 : fldTOf Tryd.prog 23 0 = some (0, 3) := by kernel_rfl
theorem ba24 : bldOf Tryd.prog 24 = some (#[I 0, I 0, I 0, I 0], 2) := by kernel_rfl
theorem ba25 : bldOf Tryd.prog 25 = some (#[I 0, I 0, I 0], 1) := by kernel_rfl
theorem st64 : strOf Tryd.prog 64 = some (#[I 0, I 0, I 0], #[(0, 1), (1, 1), (2, 1)]) := by kernel_rfl
theorem zr64_3 : zrow (Value.agg #[I 0, I 0, I 0]) (3 * 3) = #[I 0, I 0, I 0, I 0, I 0, I 0, I 0, I 0, I 0] := by kernel_rfl
theorem st29 : strOf Tryd.prog 29 = some (#[I 0, I 0, I 0, I 0, I 0, I 0, I 0, I 0, I 0, Value.slice none 0 0, I 0, I 0, I 0, Value.slice none 0 0], #[(0, 2), (2, 4), (6, 3), (9, 1), (10, 2), (12, 1), (13, 1)]) := by kernel_rfl
theorem fu51 : funOf Tryd.prog 51 = true := by kernel_rfl
theorem st67 : strOf Tryd.prog 67 = some (#[I 0, I 0, I 0], #[(0, 1), (1, 1), (2, 1)]) := by kernel_rfl
theorem zr67_2 : zrow (Value.agg #[I 0, I 0, I 0]) (2 * 3) = #[I 0, I 0, I 0, I 0, I 0, I 0] := by kernel_rfl
theorem fu50 : funOf Tryd.prog 50 = true := by kernel_rfl
theorem fu53 : funOf Tryd.prog 53 = true := by kernel_rfl
theorem fu30 : funOf Tryd.prog 30 = true := by kernel_rfl
theorem fu37 : funOf Tryd.prog 37 = true := by kernel_rfl
theorem fu31 : funOf Tryd.prog 31 = true := by kernel_rfl
theorem fu45 : funOf Tryd.prog 45 = true := by kernel_rfl
theorem fu52 : funOf Tryd.prog 52 = true := by kernel_rfl
theorem fu27 : funOf Tryd.prog 27 = true := by kernel_rfl
theorem fu43 : funOf Tryd.prog 43 = true := by kernel_rfl
theorem fu16 : funOf Tryd.prog 16 = true := by kernel_rfl
theorem fu18 : funOf Tryd.prog 18 = true := by kernel_rfl
theorem fu19 : funOf Tryd.prog 19 = true := by kernel_rfl
theorem fu84 : funOf Tryd.prog 84 = true := by kernel_rfl
theorem fu47 : funOf Tryd.prog 47 = true := by kernel_rfl
theorem fu49 : funOf Tryd.prog 49 = true := by kernel_rfl
theorem fu92 : funOf Tryd.prog 92 = true := by kernel_rfl
theorem fu67 : funOf Tryd.prog 67 = true := by kernel_rfl
theorem fu21 : funOf Tryd.prog 21 = true := by kernel_rfl
end Go.Proofs.YticodohfokgjfaaDoor

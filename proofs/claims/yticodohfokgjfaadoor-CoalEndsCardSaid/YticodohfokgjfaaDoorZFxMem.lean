/- Part of a logic of my own for walks: rules by which a proof steps through code, proved once. -/
import Derived.Test.YticodohfokgjfaaDoorZFxCore
set_option linter.unusedSimpArgs false
set_option linter.unusedVariables false
namespace Go.Fx
open Go

/-- what was there before stays, but for the blocks of C -/
structure Keep (C : Nat → Prop) (w w' : World) : Prop where
  os : w'.os = w.os
  tape : w'.tape = w.tape
  output : w'.output = w.output
  size : w.heap.size ≤ w'.heap.size
  block : ∀ b, b < w.heap.size → ¬ C b → w'.heap[b]? = w.heap[b]?
abbrev Keep0 : World → World → Prop := Keep (fun _ => False)
theorem Keep.refl (C : Nat → Prop) (w : World) : Keep C w w := ⟨rfl, rfl, rfl, Nat.le_refl _, fun _ _ _ => rfl⟩
theorem Keep.trans {C : Nat → Prop} {a b c : World} (h : Keep C a b) (k : Keep C b c) : Keep C a c :=
  ⟨k.os.trans h.os, k.tape.trans h.tape, k.output.trans h.output, Nat.le_trans h.size k.size, fun i hi hC => (k.block i (Nat.lt_of_lt_of_le hi h.size) hC).trans (h.block i hi hC)⟩
theorem Keep.weak {C C' : Nat → Prop} {a b : World} (h : Keep C a b) (hC : ∀ i, i < a.heap.size → C i → C' i) : Keep C' a b :=
  ⟨h.os, h.tape, h.output, h.size, fun i hi hn => h.block i hi fun hc => hn (hC i hi hc)⟩
/-- a word on memory: the blocks that it speaks of, and what it says -/
structure Asr where
  fp : Nat → Prop
  ok : World → Prop
  mono : ∀ w w', ok w → (∀ b, fp b → w'.heap[b]? = w.heap[b]?) → ok w'
  inb : ∀ w b, ok w → fp b → b < w.heap.size
/-- block b is o -/
def bx (b : Nat) (o : Obj) : Asr where
  fp i := i = b
  ok w := w.heap[b]? = some o
  mono w w' h k := (k b rfl).trans h
  inb w i h hi := by subst hi; exact (Array.getElem?_eq_some_iff.1 h).1

/-- the state of a call's own memory -/
structure St (w0 : World) (C : Nat → Prop) (w : World) (X P : List Asr) : Prop where
  keep : Keep C w0 w
  xs : ∀ x ∈ X, x.ok w
  ps : ∀ p ∈ P, p.ok w
  dx : X.Pairwise (fun p q => ∀ b, p.fp b → ¬ q.fp b)
  dp : ∀ x ∈ X, ∀ p ∈ P, ∀ b, x.fp b → ¬ p.fp b
  own : ∀ x ∈ X, ∀ b, x.fp b → w0.heap.size ≤ b ∨ C b

section
variable {w0 w w' : World} {C : Nat → Prop} {X P : List Asr}

theorem St.start (w : World) (C : Nat → Prop) (P : List Asr) (h : ∀ p ∈ P, p.ok w) : St w C w [] P :=
  ⟨Keep.refl _ _, (fun _ h => (List.not_mem_nil h).elim), h, List.Pairwise.nil, (fun _ h => (List.not_mem_nil h).elim), (fun _ h => (List.not_mem_nil h).elim)⟩

/-- other blocks have turned, none of these -/
theorem St.same (S : St w0 C w X P) (hk : Keep C w0 w') (h : ∀ b, b < w.heap.size → w'.heap[b]? = w.heap[b]?) : St w0 C w' X P :=
  ⟨hk, fun x hx => x.mono _ _ (S.xs x hx) fun b hb => h b (x.inb _ _ (S.xs x hx) hb), fun x hx => x.mono _ _ (S.ps x hx) fun b hb => h b (x.inb _ _ (S.ps x hx) hb), S.dx, S.dp, S.own⟩
theorem St.call (S : St w0 C w X P) (hk : Keep0 w w') : St w0 C w' X P :=
  S.same (S.keep.trans (hk.weak fun _ _ h => h.elim)) fun b hb => hk.block b hb (fun x => x)
theorem St.drew (S : St w0 C w X P) : St w0 C w.drew X P := S.same ⟨S.keep.os, S.keep.tape, S.keep.output, S.keep.size, S.keep.block⟩ fun _ _ => rfl
/-- more that stays -/
theorem St.more (S : St w0 C w X P) {N : List Asr} (hN : ∀ p ∈ N, p.ok w) (hd : ∀ p ∈ N, ∀ b, p.fp b → ∀ x ∈ X, ¬ x.fp b) : St w0 C w X (N ++ P) :=
  ⟨S.keep, S.xs, fun p hp => (List.mem_append.1 hp).elim (hN p) (S.ps p), S.dx,
   fun x hx p hp b hb => (List.mem_append.1 hp).elim (fun h hq => hd p h b hq x hx hb) (fun h => S.dp x hx p h b hb), S.own⟩
/-- behind a call: what it handed back lies in new blocks, or in such as were known -/
theorem St.callMore (S : St w0 C w X P) (hk : Keep0 w w') {N : List Asr} (hN : ∀ p ∈ N, p.ok w') (hf : ∀ p ∈ N, ∀ b, p.fp b → w.heap.size ≤ b ∨ ∃ q ∈ P, q.fp b) : St w0 C w' X (N ++ P) := by
  refine (S.call hk).more hN fun p hp b hb x hx hxb => ?_
  rcases hf p hp b hb with h | ⟨q, hq, hqb⟩
  · have := x.inb _ _ (S.xs x hx) hxb
    omega
  · exact S.dp x hx q hq b hxb hqb

theorem St.alloc (S : St w0 C w X P) (o : Obj) : St w0 C (w.alloc o) (bx w.heap.size o :: X) P := by
  have hs : ∀ b, b < w.heap.size → (w.alloc o).heap[b]? = w.heap[b]? := fun b hb => RowKit.Below.heap_alloc w o b hb
  have hk : Keep C w0 (w.alloc o) := S.keep.trans ⟨rfl, rfl, rfl, by simp, fun b hb _ => hs b hb⟩
  have S' := S.same hk hs
  refine ⟨hk, fun x hx => ?_, S'.ps, List.Pairwise.cons (fun q hq b hb hqb => ?_) S'.dx, fun x hx p hp b hb hpb => ?_, fun x hx b hb => ?_⟩
  · rcases List.mem_cons.1 hx with rfl | h
    · show (w.heap.push o)[w.heap.size]? = some o
      simp
    · exact S'.xs x h
  · have h1 := q.inb _ _ (S.xs q hq) hqb
    change b = w.heap.size at hb
    omega
  · rcases List.mem_cons.1 hx with rfl | h
    · have h1 := p.inb _ _ (S.ps p hp) hpb
      change b = w.heap.size at hb
      omega
    · exact S'.dp x h p hp b hb hpb
  · rcases List.mem_cons.1 hx with rfl | h
    · change b = w.heap.size at hb
      exact .inl (by have := S.keep.size; omega)
    · exact S'.own x h b hb

/-- one of the own words turns, in its own blocks and new ones -/
theorem St.turn (S : St w0 C w X P) {i : Nat} {x y : Asr} (hi : X[i]? = some x) (hy : y.ok w') (hf : ∀ b, y.fp b → x.fp b ∨ w.heap.size ≤ b)
    (hos : w'.os = w.os) (htape : w'.tape = w.tape) (hout : w'.output = w.output) (hsize : w.heap.size ≤ w'.heap.size) (hb : ∀ b, b < w.heap.size → ¬ x.fp b → w'.heap[b]? = w.heap[b]?) : St w0 C w' (X.set i y) P := by
  obtain ⟨hlt, rfl⟩ := List.getElem?_eq_some_iff.1 hi
  have hxm : X[i] ∈ X := List.getElem_mem hlt
  have hk : Keep C w0 w' := by
    refine ⟨hos.trans S.keep.os, htape.trans S.keep.tape, hout.trans S.keep.output, Nat.le_trans S.keep.size hsize, fun b hbl hC => ?_⟩
    have hne : ¬ X[i].fp b := fun hx => by
      rcases S.own _ hxm b hx with h | h
      · omega
      · exact hC h
    exact (hb b (Nat.lt_of_lt_of_le hbl S.keep.size) hne).trans (S.keep.block b hbl hC)
  have hother : ∀ j (hj : j < X.length), j ≠ i → ∀ b, X[j].fp b → ¬ X[i].fp b := by
    intro j hj hne b h1 h2
    rcases Nat.lt_or_gt_of_ne hne with h | h
    · exact List.pairwise_iff_getElem.1 S.dx j i hj hlt h b h1 h2
    · exact List.pairwise_iff_getElem.1 S.dx i j hlt hj h b h2 h1
  have keepx : ∀ (z : Asr), z.ok w → (∀ b, z.fp b → ¬ X[i].fp b) → z.ok w' := fun z hz hd => z.mono _ _ hz fun b hbz => hb b (z.inb _ _ hz hbz) (hd b hbz)
  refine ⟨hk, fun x hx => ?_, fun p hp => keepx p (S.ps p hp) fun b h1 h2 => S.dp _ hxm p hp b h2 h1, ?_, fun x hx p hp b hxb hpb => ?_, fun x hx b hxb => ?_⟩
  · obtain ⟨j, hj, rfl⟩ := List.getElem_of_mem hx
    rw [List.length_set] at hj
    rw [List.getElem_set]
    split
    · exact hy
    · rename_i hne
      exact keepx _ (S.xs _ (List.getElem_mem hj)) (hother j hj (fun h => hne h.symm))
  · rw [List.pairwise_iff_getElem]
    intro j k hj hk hjk b h1 h2
    rw [List.length_set] at hj hk
    rw [List.getElem_set] at h1 h2
    split at h1
    · rename_i he
      subst he
      rw [if_neg (by omega)] at h2
      rcases hf b h1 with h | h
      · exact hother k hk (by omega) b h2 h
      · have := (X[k]).inb _ _ (S.xs _ (List.getElem_mem hk)) h2
        omega
    · split at h2
      · rename_i he
        subst he
        rcases hf b h2 with h | h
        · exact hother j hj (by omega) b h1 h
        · have := (X[j]).inb _ _ (S.xs _ (List.getElem_mem hj)) h1
          omega
      · exact List.pairwise_iff_getElem.1 S.dx j k hj hk hjk b h1 h2
  · obtain ⟨j, hj, rfl⟩ := List.getElem_of_mem hx
    rw [List.length_set] at hj
    rw [List.getElem_set] at hxb
    split at hxb
    · rcases hf b hxb with h | h
      · exact S.dp _ hxm p hp b h hpb
      · have := p.inb _ _ (S.ps p hp) hpb
        omega
    · exact S.dp _ (List.getElem_mem hj) p hp b hxb hpb
  · obtain ⟨j, hj, rfl⟩ := List.getElem_of_mem hx
    rw [List.length_set] at hj
    rw [List.getElem_set] at hxb
    split at hxb
    · rcases hf b hxb with h | h
      · exact S.own _ hxm b h
      · exact .inl (Nat.le_trans S.keep.size h)
    · exact S.own _ (List.getElem_mem hj) b hxb

/-- a block is replaced -/
def setB (w : World) (b : Nat) (o : Obj) : World := { w with heap := w.heap.setIfInBounds b o }
theorem St.setB (S : St w0 C w X P) {i b : Nat} {o o' : Obj} (hi : X[i]? = some (bx b o)) : St w0 C (setB w b o') (X.set i (bx b o')) P := by
  obtain ⟨hlt, hx⟩ := List.getElem?_eq_some_iff.1 hi
  have hxok : w.heap[b]? = some o := by
    have := S.xs _ (List.getElem_mem hlt)
    rw [hx] at this
    exact this
  have hb := (Array.getElem?_eq_some_iff.1 hxok).1
  refine S.turn hi (y := bx b o') ?_ (fun c hc => .inl hc) rfl rfl rfl (by simp [Fx.setB]) (fun c hc hne => ?_)
  · show (Fx.setB w b o').heap[b]? = some o'
    simp [Fx.setB, hb]
  · have hne' : c ≠ b := hne
    show (w.heap.setIfInBounds b o')[c]? = _
    rw [Array.getElem?_setIfInBounds_ne (fun h => hne' h.symm)]
/-- what an own word says -/
theorem St.at (S : St w0 C w X P) {i b : Nat} {o : Obj} (hi : X[i]? = some (bx b o)) : w.heap[b]? = some o := by
  obtain ⟨hlt, hx⟩ := List.getElem?_eq_some_iff.1 hi
  have := S.xs _ (List.getElem_mem hlt)
  rw [hx] at this
  exact this
theorem St.atX (S : St w0 C w X P) {i : Nat} {p : Asr} (hi : X[i]? = some p) : p.ok w := S.xs _ (List.mem_of_getElem? hi)
theorem St.atP (S : St w0 C w X P) {i : Nat} {p : Asr} (hi : P[i]? = some p) : p.ok w := S.ps _ (List.mem_of_getElem? hi)
/-- an own word may stay for good -/
theorem St.fix (S : St w0 C w X P) {i : Nat} {p : Asr} (hi : X[i]? = some p) : St w0 C w (X.eraseIdx i) (p :: P) := by
  obtain ⟨hlt, rfl⟩ := List.getElem?_eq_some_iff.1 hi
  refine ⟨S.keep, fun x hx => S.xs x (List.mem_of_mem_eraseIdx hx), fun p hp => ?_, S.dx.sublist (List.eraseIdx_sublist _ _), fun x hx p hp b hxb hpb => ?_, fun x hx => S.own x (List.mem_of_mem_eraseIdx hx)⟩
  · rcases List.mem_cons.1 hp with rfl | h
    · exact S.xs _ (List.getElem_mem hlt)
    · exact S.ps p h
  · rcases List.mem_cons.1 hp with rfl | h
    · obtain ⟨j, hji, hj'⟩ := List.mem_eraseIdx_iff_getElem?.1 hx
      obtain ⟨hj, rfl⟩ := List.getElem?_eq_some_iff.1 hj'
      rcases Nat.lt_or_gt_of_ne hji with h | h
      · exact List.pairwise_iff_getElem.1 S.dx j i hj hlt h b hxb hpb
      · exact List.pairwise_iff_getElem.1 S.dx i j hlt hj h b hpb hxb
    · exact S.dp x (List.mem_of_mem_eraseIdx hx) p h b hxb hpb
/-- less may be said -/
theorem St.less (S : St w0 C w X P) {X' P' : List Asr} (hX : X'.Sublist X) (hP : ∀ p ∈ P', p ∈ P) : St w0 C w X' P' :=
  ⟨S.keep, fun x hx => S.xs x (hX.subset hx), fun p hp => S.ps p (hP p hp), S.dx.sublist hX, fun x hx p hp => S.dp x (hX.subset hx) p (hP p hp), fun x hx => S.own x (hX.subset hx)⟩
end
end Go.Fx

/- Part of a logic of my own for walks: rules by which a proof steps through code, proved once. -/
import Derived.Test.YtplpalmabgjibaaDoorFxEq
set_option linter.unusedSimpArgs false
set_option linter.unusedVariables false
namespace Go.Fx
open Go
/-! ### a slice of slices of numbers, all of it one's own -/
structure RowV where
  (A : Option Addr) (n c : Nat)
def rowE (r : RowV) : List Value := [.slice r.A r.n r.c]
theorem rowE_len (r : RowV) : (rowE r).length = 1 := rfl
theorem rowE_one (r : RowV) : ∀ u ∈ rowE r, u.oneCell' = true := by simp [rowE, Value.oneCell']
/-- one row: its slice and what it holds -/
def rowA (e : TypeId) (p : RowV × List Int) : Asr := gr intE 1 e p.1.A p.1.c p.2
/-- the inner rows, apart from each other -/
def fam (e : TypeId) (rs : List (RowV × List Int)) : Asr where
  fp b := ∃ p ∈ rs, (rowA e p).fp b
  ok w := (∀ p ∈ rs, (rowA e p).ok w ∧ p.1.n = p.2.length) ∧ rs.Pairwise fun p q => ∀ b, (rowA e p).fp b → ¬ (rowA e q).fp b
  mono w w' h k := ⟨fun p hp => ⟨(rowA e p).mono _ _ (h.1 p hp).1 fun b hb => k b ⟨p, hp, hb⟩, (h.1 p hp).2⟩, h.2⟩
  inb w b h hb := by obtain ⟨p, hp, hb⟩ := hb; exact (rowA e p).inb _ _ (h.1 p hp).1 hb
theorem fam_nil {e : TypeId} {w : World} : (fam e []).ok w := ⟨fun _ h => (List.not_mem_nil h).elim, List.Pairwise.nil⟩
section
variable {ro : Option Nat} {P : Program} {full : Array Oper} {Q : Exit → Act → World → Prop} {n : Nat} {d : List Deferred} {e : Env} {w w0 : World} {C : Nat → Prop} {X L : List Asr}
variable {rest : List Oper} {ty : TypeId} {ps : String} {af : Array Edge}
/-- a number of the matrix, read -/
theorem fam_cell {t : TypeId} {rs : List (RowV × List Int)} {i k b o : Nat} {r : RowV} {l : List Int} {x : Int} (h : (fam t rs).ok w) (hi : rs[i]? = some (r, l)) (hA : r.A = some ⟨b, o, none⟩) (hk : l[k]? = some x) :
    w.cell? ⟨b, o + k * 1, none⟩ = some (.int .i64 x) := by
  have hg := (h.1 _ (List.mem_of_getElem? hi)).1
  have hs : (sl intE 1 r.A l).ok w := gr_sl intE_len hg
  exact sl_cell hs hA hk 0 _ rfl
/-- what a row's word says of its block -/
theorem row_block {t c : Nat} {A : Option Addr} {l : List Int} (h : (gr intE 1 t A c l).ok w) (hl : l ≠ []) : ∃ g cur, A = some ⟨g, 0, none⟩ ∧ w.heap[g]? = some (.cells cur t (0, 0)) ∧ l.length ≤ c ∧ c ≤ maxLen ∧ cur.size = c ∧ cur.toList.take l.length = l.flatMap intE := by
  rcases h.2 with ⟨q1, q2⟩ | ⟨g, cap, cur, q1, q2, q3, q4, q5, q6, q7⟩
  · exact absurd (List.eq_nil_of_length_eq_zero q2) hl
  · simp at q1
    obtain ⟨rfl, rfl⟩ := q1
    exact ⟨g, cur, rfl, q3, q4, q5, by simpa using q6, by simpa using q7⟩
theorem flat_set (l : List Int) (k : Nat) (x : Int) : (l.set k x).flatMap intE = (l.flatMap intE).set k (.int .i64 x) := by
  have : ∀ l : List Int, l.flatMap intE = l.map (Value.int .i64) := by
    intro l; induction l with
    | nil => rfl
    | cons y l ih => simp [List.flatMap_cons, ih, intE]
  rw [this, this, List.map_set]
/-- a number is written into a row -/
theorem row_store {t c g : Nat} {l : List Int} {k : Nat} {x : Int} (h : (gr intE 1 t (some ⟨g, 0, none⟩) c l).ok w) (hk : k < l.length) :
    ∃ cur, w.heap[g]? = some (.cells cur t (0, 0)) ∧ k < cur.size ∧ (gr intE 1 t (some ⟨g, 0, none⟩) c (l.set k x)).ok (setB w g (.cells (cur.setIfInBounds k (.int .i64 x)) t (0, 0))) := by
  have hl : l ≠ [] := by intro h; subst h; simp at hk
  obtain ⟨g', cur, h1, h2, h3, h4, h5, h6⟩ := row_block h hl
  cases h1
  refine ⟨cur, h2, by omega, ?_⟩
  have hb := (Array.getElem?_eq_some_iff.1 h2).1
  refine ⟨flat_len intE_len _, .inr ⟨g, c, cur.setIfInBounds k (.int .i64 x), by simp, Nat.zero_le _, by simp [setB, hb], by simpa using h3, h4, by simpa using h5, ?_⟩⟩
  rw [flat_set, ← h6]
  simp only [List.length_set, Nat.mul_one, Array.toList_setIfInBounds]
  rw [List.take_set]
theorem fam_store {t : TypeId} {rs : List (RowV × List Int)} {i j k g ty' : Nat} {r : RowV} {l : List Int} {x y : Operand} {v : Int} (hx : evn n e x = .pointer (some ⟨g, k, none⟩)) (hy : evn n e y = .int .i64 v) (hT : sizOf P ty' = some 1)
    (S : St w0 C w X L) (hj : X[j]? = some (fam t rs)) (hi : rs[i]? = some (r, l)) (hA : r.A = some ⟨g, 0, none⟩) (hk : k < l.length)
    (h : ∀ w', St w0 C w' (X.set j (fam t (rs.set i (r, l.set k v)))) L → wpA ro P full Q rest (E n e d) w') : wpA ro P full Q (⟨none, .store ty' x y, ty, ps, af, none⟩ :: rest) (E n e d) w := by
  have hf : (fam t rs).ok w := S.atX hj
  have hm := List.mem_of_getElem? hi
  obtain ⟨hil, hie⟩ := List.getElem?_eq_some_iff.1 hi
  have hrow : (gr intE 1 t (some ⟨g, 0, none⟩) r.c l).ok w := by have := (hf.1 _ hm).1; unfold rowA at this; rw [hA] at this; exact this
  obtain ⟨cur, hc1, hc2, hc3⟩ := row_store (x := v) hrow hk
  have hgb := (Array.getElem?_eq_some_iff.1 hc1).1
  have hst : (storeCells ⟨g, k, none⟩ [Value.int .i64 v] 0).run P w = .ok () (setB w g (.cells (putAt cur (k + 0) [Value.int .i64 v]) t (0, 0))) :=
    run_storeCells (P := P) (off := k) [Value.int .i64 v] 0 w cur hc1 (by simp [Value.oneCell']) (by simp; omega)
  have hother : ∀ b, b < w.heap.size → b ≠ g → (setB w g (.cells (cur.setIfInBounds k (.int .i64 v)) t (0, 0))).heap[b]? = w.heap[b]? := fun b _ hne => by
    show (w.heap.setIfInBounds g _)[b]? = _
    rw [Array.getElem?_setIfInBounds_ne (fun h => hne h.symm)]
  have hfpr : (rowA t (r, l)).fp g := by simp [rowA, gr, hA, Value.ownBlock]
  have hfeq : ∀ b, (rowA t (r, l.set k v)).fp b ↔ (rowA t (r, l)).fp b := fun b => by
    simp only [rowA, gr]
    cases r.A <;> simp [Value.ownBlock]
  refine op_skip (w' := setB w g (.cells (cur.setIfInBounds k (.int .i64 v)) t (0, 0))) rfl (fun _ h => by cases h) ?_ (h _ (S.turn hj (y := fam t (rs.set i (r, l.set k v))) ⟨fun p hp => ?_, ?_⟩ (fun b hb => ?_) rfl rfl rfl (by simp [setB]) (fun b hb hne => hother b hb fun hh => hne (by subst hh; exact ⟨_, hm, hfpr⟩))))
  · simp only [Nat.add_zero, putAt] at hst
    simp [execOp, Instr.storeAt, hx, hy, Instr.sureAddr, storeVar, run_sizeOf hT, Value.cells, hst]
  · obtain ⟨q, hq, rfl⟩ := List.getElem_of_mem hp
    rw [List.length_set] at hq
    rw [List.getElem_set]
    split
    · refine ⟨?_, ?_⟩
      · unfold rowA; rw [hA]; exact hc3
      · have := (hf.1 _ hm).2; simpa using this
    · rename_i hne
      have hqm := List.getElem_mem hq
      refine ⟨(rowA t rs[q]).mono _ _ (hf.1 _ hqm).1 fun b hb => hother b ((rowA t rs[q]).inb _ _ (hf.1 _ hqm).1 hb) fun hh => ?_, (hf.1 _ hqm).2⟩
      subst hh
      have hpw := List.pairwise_iff_getElem.1 hf.2
      rcases Nat.lt_or_gt_of_ne hne with h' | h'
      · exact hpw i q hil hq h' b (by rw [hie]; exact hfpr) hb
      · exact hpw q i hq hil h' b hb (by rw [hie]; exact hfpr)
  · rw [List.pairwise_iff_getElem]
    intro p q hp hq hpq b h1 h2
    rw [List.length_set] at hp hq
    rw [List.getElem_set] at h1 h2
    have hpw := List.pairwise_iff_getElem.1 hf.2 p q hp hq hpq b
    refine hpw ?_ ?_
    · split at h1
      · rename_i hh; subst hh; rw [hie]; exact (hfeq b).1 h1
      · exact h1
    · split at h2
      · rename_i hh; subst hh; rw [hie]; exact (hfeq b).1 h2
      · exact h2
  · obtain ⟨p, hp, hb⟩ := hb
    obtain ⟨q, hq, rfl⟩ := List.getElem_of_mem hp
    rw [List.length_set] at hq
    rw [List.getElem_set] at hb
    split at hb
    · exact .inl ⟨_, hm, (hfeq b).1 hb⟩
    · exact .inl ⟨_, List.getElem_mem hq, hb⟩
/-- a row of one's own joins the family -/
theorem St.join {t : TypeId} {rs : List (RowV × List Int)} {r : RowV} {l : List Int} {A : Option Addr} {c : Nat} (S : St w0 C w (gr intE 1 t A c l :: fam t rs :: X) L) (hr : r = ⟨A, l.length, c⟩) : St w0 C w (fam t (rs ++ [(r, l)]) :: X) L := by
  subst hr
  have h1 : (gr intE 1 t A c l).ok w := S.xs _ (List.mem_cons_self ..)
  have h2 : (fam t rs).ok w := S.xs _ (List.mem_cons_of_mem _ (List.mem_cons_self ..))
  have hd := List.pairwise_cons.1 S.dx
  have hd2 := List.pairwise_cons.1 hd.2
  have hfp : ∀ b, (fam t (rs ++ [(⟨A, l.length, c⟩, l)])).fp b → (gr intE 1 t A c l).fp b ∨ (fam t rs).fp b := by
    rintro b ⟨p, hp, hb⟩
    rcases List.mem_append.1 hp with h | h
    · exact .inr ⟨p, h, hb⟩
    · rw [List.mem_singleton.1 h] at hb; exact .inl hb
  refine ⟨S.keep, fun x hx => ?_, S.ps, List.pairwise_cons.2 ⟨fun y hy b hb => ?_, hd2.2⟩, fun x hx p hp b hb => ?_, fun x hx b hb => ?_⟩
  · rcases List.mem_cons.1 hx with rfl | hx
    · refine ⟨fun p hp => ?_, List.pairwise_append.2 ⟨h2.2, List.pairwise_singleton _ _, fun p hp q hq b hb1 hb2 => ?_⟩⟩
      · rcases List.mem_append.1 hp with h | h
        · exact h2.1 p h
        · rw [List.mem_singleton.1 h]; exact ⟨h1, rfl⟩
      · rw [List.mem_singleton.1 hq] at hb2
        exact hd.1 _ (List.mem_cons_self ..) b hb2 ⟨p, hp, hb1⟩
    · exact S.xs x (List.mem_cons_of_mem _ (List.mem_cons_of_mem _ hx))
  · rcases hfp b hb with h | h
    · exact hd.1 y (List.mem_cons_of_mem _ hy) b h
    · exact hd2.1 y hy b h
  · rcases List.mem_cons.1 hx with rfl | hx
    · rcases hfp b hb with h | h
      · exact S.dp _ (List.mem_cons_self ..) p hp b h
      · exact S.dp _ (List.mem_cons_of_mem _ (List.mem_cons_self ..)) p hp b h
    · exact S.dp x (List.mem_cons_of_mem _ (List.mem_cons_of_mem _ hx)) p hp b hb
  · rcases List.mem_cons.1 hx with rfl | hx
    · rcases hfp b hb with h | h
      · exact S.own _ (List.mem_cons_self ..) b h
      · exact S.own _ (List.mem_cons_of_mem _ (List.mem_cons_self ..)) b h
    · exact S.own x (List.mem_cons_of_mem _ (List.mem_cons_of_mem _ hx)) b hb
theorem St.addFam (S : St w0 C w X L) (t : TypeId) : St w0 C w (fam t [] :: X) L := by
  have hf : ∀ b, ¬ (fam t []).fp b := fun b ⟨p, hp, _⟩ => (List.not_mem_nil hp).elim
  exact S.addX' fam_nil (fun b h => (hf b h).elim) (fun _ _ b h => (hf b h).elim) (fun _ _ b h => (hf b h).elim)
end
end Go.Fx

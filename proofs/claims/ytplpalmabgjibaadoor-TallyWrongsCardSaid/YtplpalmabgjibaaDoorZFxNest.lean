/- Part of a logic of my own for walks: rules by which a proof steps through code, proved once. -/
import Derived.Test.YtplpalmabgjibaaDoorZFxRes
import Derived.Test.YtplpalmabgjibaaDoorZFxInv
set_option linter.unusedSimpArgs false
set_option linter.unusedVariables false
namespace Go.Fx
open Go
/-! ### slices whose elements bear slices: the plain elements xs, and hl: each with the addresses of what is in it -/
section
variable {α δ : Type}
/-- what the elements bear, only read -/
def ri (inner : α × δ → List Asr) (hl : List (α × δ)) (xs : List α) : Asr where
  fp b := ∃ h ∈ hl, ∃ q ∈ inner h, q.fp b
  ok w := hl.map Prod.fst = xs ∧ ∀ h ∈ hl, ∀ q ∈ inner h, q.ok w
  mono w w' h k := ⟨h.1, fun x hx q hq => q.mono _ _ (h.2 x hx q hq) fun b hb => k b ⟨x, hx, q, hq, hb⟩⟩
  inb w b h hb := by obtain ⟨x, hx, q, hq, hb⟩ := hb; exact q.inb _ _ (h.2 x hx q hq) hb
variable {inner : α × δ → List Asr} {hl hl' : List (α × δ)} {xs xs' : List α} {w0 w w' : World} {C : Nat → Prop} {X L : List Asr}
theorem ri_nil : (ri inner [] []).ok w := ⟨rfl, fun _ h => (List.not_mem_nil h).elim⟩
theorem getI_map {β : Type} {l : List α} {f : α → β} {i : Int} {y : β} (h : getI (l.map f) i = some y) : ∃ x, getI l i = some x ∧ f x = y := by
  obtain ⟨h0, h1⟩ := getI_some h
  rw [List.getElem?_map, Option.map_eq_some_iff] at h1
  obtain ⟨x, h1, h2⟩ := h1
  exact ⟨x, getI_of h0 h1, h2⟩
theorem ri_at {i : Int} {x : α} (h : (ri inner hl xs).ok w) (hi : getI xs i = some x) : ∃ d, getI hl i = some (x, d) := by
  rw [← h.1] at hi
  obtain ⟨⟨y, d⟩, h1, rfl⟩ := getI_map hi
  exact ⟨d, h1⟩
theorem ri_get {i : Int} {x : α × δ} {k : Nat} {q : Asr} (h : (ri inner hl xs).ok w) (hi : getI hl i = some x) (hk : (inner x)[k]? = some q) : q.ok w :=
  h.2 x (List.mem_of_getElem? (getI_some hi).2) q (List.mem_of_getElem? hk)
/-- what one element bears may be known by itself -/
theorem St.riIn (S : St w0 C w X L) {j k : Nat} {i : Int} {x : α × δ} {q : Asr} (hj : L[j]? = some (ri inner hl xs)) (hi : getI hl i = some x) (hk : (inner x)[k]? = some q) : St w0 C w X (q :: L) :=
  S.addL' (ri_get (S.atP hj) hi hk) fun b hb y hy hyb => S.dp y hy _ (List.mem_of_getElem? hj) b hyb ⟨x, List.mem_of_getElem? (getI_some hi).2, q, List.mem_of_getElem? hk, hb⟩
theorem St.riNil (S : St w0 C w X L) (inner : α × δ → List Asr) : St w0 C w X (ri inner [] [] :: L) := S.addL' ri_nil fun b ⟨_, h, _⟩ => (List.not_mem_nil h).elim
theorem New.riNil {k : Nat} : New k (ri inner ([] : List (α × δ)) ([] : List α)) := fun b ⟨_, h, _⟩ => (List.not_mem_nil h).elim
theorem Al.riNil {Ls : List Asr} : Al w Ls (ri inner ([] : List (α × δ)) ([] : List α)) := fun b ⟨_, h, _⟩ => (List.not_mem_nil h).elim
theorem Al.riIn {Ls : List Asr} {i : Int} {x : α × δ} {q : Asr} {k : Nat} (h : Al w Ls (ri inner hl xs)) (hi : getI hl i = some x) (hk : (inner x)[k]? = some q) : Al w Ls q := fun b hb => h b ⟨x, List.mem_of_getElem? (getI_some hi).2, q, List.mem_of_getElem? hk, hb⟩
theorem New.riIn {n k : Nat} {i : Int} {x : α × δ} {q : Asr} (h : New n (ri inner hl xs)) (hi : getI hl i = some x) (hk : (inner x)[k]? = some q) : New n q := fun b hb => h b ⟨x, List.mem_of_getElem? (getI_some hi).2, q, List.mem_of_getElem? hk, hb⟩
theorem fits_ri {m : Nat} {b : Nat} {hm : Nat} (h : fitsL m b = true) (e : m = hm) : fitsL hm b = true := e ▸ h
end

/-! ### rows of numbers that are one's own -/
abbrev RowH := List Int × Option Addr × Nat
def rowN (h : RowH) : List Value := [.slice h.2.1 h.1.length h.2.2]
theorem rowN_len (h : RowH) : (rowN h).length = 1 := rfl
theorem rowN_one (h : RowH) : ∀ u ∈ rowN h, u.oneCell' = true := by simp [rowN, Value.oneCell']
def rowI (h : RowH) : List Asr := [rd intE 1 h.2.1 h.2.2 h.1]
def rowG (e : TypeId) (h : RowH) : Asr := gr intE 1 e h.2.1 h.2.2 h.1
/-- all rows, apart from each other -/
def rx' (e : TypeId) (hl : List RowH) (xs : List (List Int)) : Asr where
  fp b := ∃ h ∈ hl, (rowG e h).fp b
  ok w := hl.map Prod.fst = xs ∧ (∀ h ∈ hl, (rowG e h).ok w) ∧ hl.Pairwise fun p q => ∀ b, (rowG e p).fp b → ¬ (rowG e q).fp b
  mono w w' h k := ⟨h.1, fun p hp => (rowG e p).mono _ _ (h.2.1 p hp) fun b hb => k b ⟨p, hp, hb⟩, h.2.2⟩
  inb w b h hb := by obtain ⟨p, hp, hb⟩ := hb; exact (rowG e p).inb _ _ (h.2.1 p hp) hb
section
variable {w0 w w' : World} {C : Nat → Prop} {X L : List Asr} {t : TypeId} {hl : List RowH} {xs : List (List Int)}
theorem rx_at {i : Int} {x : List Int} (h : (rx' t hl xs).ok w) (hi : getI xs i = some x) : ∃ d, getI hl i = some (x, d) := by
  rw [← h.1] at hi
  obtain ⟨⟨y, d⟩, h1, rfl⟩ := getI_map hi
  exact ⟨d, h1⟩
theorem rx_len (h : (rx' t hl xs).ok w) : xs.length = hl.length := by rw [← h.1, List.length_map]
theorem rx_rd {i : Int} {x : List Int} {d : Option Addr × Nat} (h : (rx' t hl xs).ok w) (hi : getI hl i = some (x, d)) : (rd intE 1 d.1 d.2 x).ok w := gr_rd intE_len (h.2.1 _ (List.mem_of_getElem? (getI_some hi).2))
theorem rx_ri (h : (rx' t hl xs).ok w) : (ri rowI hl xs).ok w := ⟨h.1, fun x hx q hq => by rw [show q = _ from List.mem_singleton.1 hq]; exact gr_rd intE_len (h.2.1 x hx)⟩
theorem rx_fp : ∀ b, (ri rowI hl xs).fp b → (rx' t hl xs).fp b := fun b ⟨x, hx, q, hq, hb⟩ => ⟨x, hx, gr_fp b (by rw [show q = _ from List.mem_singleton.1 hq] at hb; exact hb)⟩
theorem St.rxNil (S : St w0 C w X L) (t : TypeId) : St w0 C w (rx' t [] [] :: X) L :=
  S.addX' ⟨rfl, fun _ h => (List.not_mem_nil h).elim, List.Pairwise.nil⟩ (fun b ⟨_, h, _⟩ => (List.not_mem_nil h).elim) (fun _ _ b ⟨_, h, _⟩ => (List.not_mem_nil h).elim) (fun _ _ b ⟨_, h, _⟩ => (List.not_mem_nil h).elim)
/-- two own words become one -/
theorem St.merge {p q r : Asr} (S : St w0 C w X L) {i j : Nat} (hj : X[j]? = some p) (hi : X[i]? = some q) (hij : i ≠ j) (hok : r.ok w) (hfp : ∀ b, r.fp b → p.fp b ∨ q.fp b) : St w0 C w ((X.set j r).eraseIdx i) L := by
  obtain ⟨hil, hie⟩ := List.getElem?_eq_some_iff.1 hi
  obtain ⟨hjl, hje⟩ := List.getElem?_eq_some_iff.1 hj
  have hpw := List.pairwise_iff_getElem.1 S.dx
  have ne : ∀ {p q : Nat} (hp : p < X.length) (hq : q < X.length), p ≠ q → ∀ b, X[p].fp b → ¬ X[q].fp b := fun hp hq hne b a b' => by
    rcases Nat.lt_or_gt_of_ne hne with h | h
    · exact hpw _ _ hp hq h b a b'
    · exact hpw _ _ hq hp h b b' a
  have hmem : ∀ z ∈ (X.set j r).eraseIdx i, z = r ∨ ∃ k, ∃ hk : k < X.length, k ≠ i ∧ k ≠ j ∧ X[k] = z := by
    intro z hz
    obtain ⟨k, hki, hk⟩ := List.mem_eraseIdx_iff_getElem?.1 hz
    rw [List.getElem?_set] at hk
    split at hk
    · rename_i h; exact .inl (Option.some.inj hk).symm
    · rename_i h
      obtain ⟨hk1, hk2⟩ := List.getElem?_eq_some_iff.1 hk
      exact .inr ⟨k, hk1, hki, fun e => h e.symm, hk2⟩
  have hsub : ∀ z ∈ (X.set j r).eraseIdx i, ∀ b, z.fp b → ∃ x ∈ X, x.fp b := by
    intro z hz b hb
    rcases hmem z hz with rfl | ⟨k, hk, _, _, rfl⟩
    · rcases hfp b hb with h | h
      · exact ⟨_, List.mem_of_getElem? hj, h⟩
      · exact ⟨_, List.mem_of_getElem? hi, h⟩
    · exact ⟨_, List.getElem_mem hk, hb⟩
  refine ⟨S.keep, fun z hz => ?_, S.ps, ?_, fun z hz p hp b hb hpb => ?_, fun z hz b hb => ?_⟩
  · rcases hmem z hz with rfl | ⟨k, hk, _, _, rfl⟩
    · exact hok
    · exact S.xs _ (List.getElem_mem hk)
  · have hset : (X.set j r).eraseIdx i = (X.eraseIdx i).set (if j < i then j else j - 1) r := by
      rcases Nat.lt_or_gt_of_ne hij with h | h
      · rw [if_neg (by omega), List.eraseIdx_set_lt h]
      · rw [if_pos h, List.eraseIdx_set_gt h]
    rw [hset, List.pairwise_iff_getElem]
    have hj' : ∀ (h : (if j < i then j else j - 1) < (X.eraseIdx i).length), (X.eraseIdx i)[(if j < i then j else j - 1)] = p := by
      intro h
      rw [List.getElem_eraseIdx]
      by_cases h3 : j < i
      · simp only [h3, if_true, dite_true]; exact hje
      · have h4 : ¬ (j - 1 < i) := by omega
        have h5 : j - 1 + 1 = j := by omega
        simp only [h3, if_false, h4, dite_false, h5]; exact hje
    revert hj'
    generalize (if j < i then j else j - 1) = J
    intro hj'
    have hpe := List.pairwise_iff_getElem.1 (S.dx.sublist (List.eraseIdx_sublist X i))
    have hgr : ∀ k (hk : k < (X.eraseIdx i).length), ∀ b, q.fp b → ¬ ((X.eraseIdx i)[k]).fp b := by
      intro k hk b hb hqb
      rw [List.getElem_eraseIdx] at hqb
      have hl := List.length_eraseIdx_of_lt hil
      split at hqb
      · rename_i h
        exact ne hil (by omega) (show i ≠ k by omega) b (by rw [hie]; exact hb) hqb
      · rename_i h
        exact ne hil (by omega) (show i ≠ k + 1 by omega) b (by rw [hie]; exact hb) hqb
    intro k m hk hm hkm b h1' h2'
    rw [List.length_set] at hk hm
    rw [List.getElem_set] at h1' h2'
    split at h1'
    · rename_i e
      rw [if_neg (by omega)] at h2'
      rcases hfp b h1' with h | h
      · exact hpe k m hk hm hkm b (by subst e; rw [hj' hk]; exact h) h2'
      · exact hgr m hm b h h2'
    · split at h2'
      · rename_i e
        rcases hfp b h2' with h | h
        · exact hpe k m hk hm hkm b h1' (by subst e; rw [hj' hm]; exact h)
        · exact hgr k hk b h h1'
      · exact hpe k m hk hm hkm b h1' h2'
  · obtain ⟨x, hx, hxb⟩ := hsub z hz b hb
    exact S.dp x hx p hp b hxb hpb
  · obtain ⟨x, hx, hxb⟩ := hsub z hz b hb
    exact S.own x hx b hxb
/-- a row of one's own, as all rows -/
theorem St.rxOne {A : Option Addr} {c : Nat} {l : List Int} (S : St w0 C w X L) {i : Nat} (hi : X[i]? = some (gr intE 1 t A c l)) : St w0 C w (X.set i (rx' t [(l, A, c)] [l])) L :=
  S.turn hi ⟨rfl, fun p hp => by rw [List.mem_singleton.1 hp]; exact S.atX hi, List.pairwise_singleton _ _⟩ (fun b ⟨p, hp, hb⟩ => .inl (by rw [List.mem_singleton.1 hp] at hb; exact hb)) rfl rfl rfl (Nat.le_refl _) (fun _ _ _ => rfl)
/-- more rows -/
theorem St.rxApp {hl' : List RowH} {xs' : List (List Int)} (S : St w0 C w X L) {i j : Nat} (hj : X[j]? = some (rx' t hl xs)) (hi : X[i]? = some (rx' t hl' xs')) (hij : i ≠ j) : St w0 C w ((X.set j (rx' t (hl ++ hl') (xs ++ xs'))).eraseIdx i) L := by
  have h1 : (rx' t hl' xs').ok w := S.atX hi
  have h2 : (rx' t hl xs).ok w := S.atX hj
  obtain ⟨hil, hie⟩ := List.getElem?_eq_some_iff.1 hi
  obtain ⟨hjl, hje⟩ := List.getElem?_eq_some_iff.1 hj
  have hd : ∀ b, (rx' t hl xs).fp b → ¬ (rx' t hl' xs').fp b := fun b a b' => by
    rw [← hje] at a; rw [← hie] at b'
    rcases Nat.lt_or_gt_of_ne hij with h | h
    · exact List.pairwise_iff_getElem.1 S.dx i j hil hjl h b b' a
    · exact List.pairwise_iff_getElem.1 S.dx j i hjl hil h b a b'
  refine S.merge hj hi hij ⟨by rw [List.map_append, h2.1, h1.1], fun p hp => (List.mem_append.1 hp).elim (h2.2.1 p) (h1.2.1 p), List.pairwise_append.2 ⟨h2.2.2, h1.2.2, fun p hp q hq b hb1 hb2 => hd b ⟨p, hp, hb1⟩ ⟨q, hq, hb2⟩⟩⟩ fun b ⟨p, hp, hb⟩ => (List.mem_append.1 hp).imp (fun h => ⟨p, h, hb⟩) fun h => ⟨p, h, hb⟩
theorem New.rx {k : Nat} (h : New k (rx' t hl xs)) : New k (ri rowI hl xs) := fun b hb => h b (rx_fp b hb)
end
section
variable {ro : Option Nat} {P : Program} {full : Array Oper} {Q : Exit → Act → World → Prop} {n : Nat} {d : List Deferred} {e : Env} {w w0 : World} {C : Nat → Prop} {X L : List Asr}
variable {rest : List Oper} {ty : TypeId} {ps : String} {af : Array Edge}
theorem rowN_set {hl : List RowH} {i : Nat} {x y : List Int} {d : Option Addr × Nat} (hi : hl[i]? = some (x, d)) (hy : y.length = x.length) : (hl.set i (y, d)).flatMap rowN = hl.flatMap rowN := by
  induction hl generalizing i with
  | nil => simp at hi
  | cons h hl ih =>
    cases i with
    | zero => simp at hi; subst hi; simp [rowN, hy]
    | succ i => simp at hi; simp [List.set_cons_succ, List.flatMap_cons, ih hi]
theorem gr_rows {t : TypeId} {A : Option Addr} {c : Nat} {hl hl' : List RowH} (h : hl'.flatMap rowN = hl.flatMap rowN) (hn : hl'.length = hl.length) (hg : (gr rowN 1 t A c hl).ok w) : (gr rowN 1 t A c hl').ok w := by
  have : w.ownsRow 0 t 1 (.slice A hl.length c) hl.length (hl.flatMap rowN) := hg
  show w.ownsRow 0 t 1 (.slice A hl'.length c) hl'.length (hl'.flatMap rowN)
  rw [h, hn]; exact this
/-- a number is written into a row of the rows -/
theorem p_stR {ty' t to j m c : Nat} {hl : List RowH} {xs : List (List Int)} {x : List Int} {dd : Option Addr × Nat} {A : Option Addr} {xo yo : Operand} {i k y v : Int} (hT : sizOf P ty' = some 1) (S : St w0 C w X L) (hj : X[j]? = some (rx' t hl xs)) (hm : X[m]? = some (gr rowN 1 to A c hl))
    (hi : getI hl i = some (x, dd)) (hxs : getI xs i = some x) (hk : getI x k = some y) (hx : evn n e xo = PE dd.1 (k.toNat * 1 + 0)) (hy : evn n e yo = I v)
    (h : ∀ hl' w', hl'.length = hl.length → St w0 C w' ((X.set j (rx' t hl' (xs.set i.toNat (x.set k.toNat v)))).set m (gr rowN 1 to A c hl')) L → wpA ro P full Q rest (E n e d) w') :
    wpA ro P full Q (⟨none, .store ty' xo yo, ty, ps, af, none⟩ :: rest) (E n e d) w := by
  have hf : (rx' t hl xs).ok w := S.atX hj
  obtain ⟨hi0, hi1⟩ := getI_some hi
  obtain ⟨hk0, hk1⟩ := getI_some hk
  have hmm := List.mem_of_getElem? hi1
  obtain ⟨hil, hie⟩ := List.getElem?_eq_some_iff.1 hi1
  have hrow := hf.2.1 _ hmm
  have hkl : k.toNat < x.length := (List.getElem?_eq_some_iff.1 hk1).1
  have hxne : x ≠ [] := by intro h; subst h; simp at hkl
  obtain ⟨A', c'⟩ := dd
  obtain ⟨g, cur, hg1, -, -, -, -, -⟩ := row_block hrow hxne
  simp only at hg1
  subst hg1
  obtain ⟨cur, hc1, hc2, hc3⟩ := row_store (x := v) hrow hkl
  have hgb := (Array.getElem?_eq_some_iff.1 hc1).1
  have hst : (storeCells ⟨g, k.toNat, none⟩ [Value.int .i64 v] 0).run P w = .ok () (setB w g (.cells (putAt cur (k.toNat + 0) [Value.int .i64 v]) t (0, 0))) :=
    run_storeCells (P := P) (off := k.toNat) [Value.int .i64 v] 0 w cur hc1 (by simp [Value.oneCell']) (by simp; omega)
  have hother : ∀ b, b < w.heap.size → b ≠ g → (setB w g (.cells (cur.setIfInBounds k.toNat (.int .i64 v)) t (0, 0))).heap[b]? = w.heap[b]? := fun b _ hne => by
    show (w.heap.setIfInBounds g _)[b]? = _
    rw [Array.getElem?_setIfInBounds_ne (fun h => hne h.symm)]
  have hfpr : (rowG t (x, some ⟨g, 0, none⟩, c')).fp g := by simp [rowG, gr, Value.ownBlock]
  have hfeq : ∀ b, (rowG t (x.set k.toNat v, some ⟨g, 0, none⟩, c')).fp b ↔ (rowG t (x, some ⟨g, 0, none⟩, c')).fp b := fun b => by simp [rowG, gr, Value.ownBlock]
  let hl' := hl.set i.toNat (x.set k.toNat v, some ⟨g, 0, none⟩, c')
  have hx' : evn n e xo = .pointer (some ⟨g, k.toNat, none⟩) := by rw [hx]; simp [offA]
  have S1 : St w0 C (setB w g (.cells (cur.setIfInBounds k.toNat (.int .i64 v)) t (0, 0))) (X.set j (rx' t hl' (xs.set i.toNat (x.set k.toNat v)))) L := by
    refine S.turn hj ⟨?_, fun p hp => ?_, ?_⟩ (fun b hb => ?_) rfl rfl rfl (by simp [setB]) (fun b hb hne => hother b hb fun hh => hne (by subst hh; exact ⟨_, hmm, hfpr⟩))
    · rw [← hf.1, List.map_set]
    · obtain ⟨q, hq', rfl⟩ := List.getElem_of_mem hp
      have hq : q < hl.length := by simpa [hl'] using hq'
      rw [List.getElem_set]
      split
      · exact hc3
      · rename_i hne
        refine (rowG t hl[q]).mono _ _ (hf.2.1 _ (List.getElem_mem hq)) fun b hb => hother b ((rowG t hl[q]).inb _ _ (hf.2.1 _ (List.getElem_mem hq)) hb) fun hh => ?_
        subst hh
        have hpw := List.pairwise_iff_getElem.1 hf.2.2
        rcases Nat.lt_or_gt_of_ne hne with h' | h'
        · exact hpw i.toNat q hil hq h' b (by rw [hie]; exact hfpr) hb
        · exact hpw q i.toNat hq hil h' b hb (by rw [hie]; exact hfpr)
    · rw [List.pairwise_iff_getElem]
      intro p q hp hq hpq b h1 h2
      rw [List.length_set] at hp hq
      rw [List.getElem_set] at h1 h2
      refine List.pairwise_iff_getElem.1 hf.2.2 p q hp hq hpq b ?_ ?_
      · split at h1
        · rename_i hh; subst hh; rw [hie]; exact (hfeq b).1 h1
        · exact h1
      · split at h2
        · rename_i hh; subst hh; rw [hie]; exact (hfeq b).1 h2
        · exact h2
    · obtain ⟨p, hp, hb⟩ := hb
      obtain ⟨q, hq, rfl⟩ := List.getElem_of_mem hp
      rw [List.length_set] at hq
      rw [List.getElem_set] at hb
      split at hb
      · exact .inl ⟨_, hmm, (hfeq b).1 hb⟩
      · exact .inl ⟨_, List.getElem_mem hq, hb⟩
  have hjm : j ≠ m := by
    intro e
    subst e
    rw [hj] at hm
    have h3 : rx' t hl xs = gr rowN 1 to A c hl := Option.some.inj hm
    have h4 := S.atX hj
    -- the one's blocks hold numbers, the other's slices
    rw [h3] at h4
    have hg' : (gr rowN 1 to A c hl).fp g := by rw [← h3]; exact ⟨_, hmm, hfpr⟩
    rcases h4.2 with ⟨q1, q2⟩ | ⟨g2, cap, cur2, q1, q2, q3, q4, q5, q6, q7⟩
    · rw [List.eq_nil_of_length_eq_zero q2] at hmm; exact (List.not_mem_nil hmm)
    · have hgg : g2 = g := by
        simp only [gr] at hg'; rw [q1] at hg'
        simpa [Value.ownBlock] using hg'
      subst hgg
      rw [hc1] at q3
      injection q3 with q3
      injection q3 with q3
      subst q3
      simp only [Nat.mul_one, Nat.zero_add, Nat.zero_mul, Nat.add_zero] at q7
      obtain ⟨gg, cc, z1, z2, z3, z4, z5, z6⟩ := row_block hrow hxne
      cases z1
      rw [hc1] at z2
      injection z2 with z2
      injection z2 with z2
      subst z2
      have hlne : 0 < hl.length := by omega
      have e1 := congrArg (·[0]?) z6
      have e2 := congrArg (·[0]?) q7
      have hx0 : 0 < x.length := by omega
      simp only [List.getElem?_take, hx0, if_true] at e1
      cases hl with
      | nil => simp at hlne
      | cons p0 hl0 =>
        simp [List.getElem?_take, rowN] at e2
        cases x with
        | nil => simp at hx0
        | cons x0 xr =>
          simp [intE] at e1
          rw [e2] at e1
          cases e1
  have hm1 : (X.set j (rx' t hl' (xs.set i.toNat (x.set k.toNat v))))[m]? = some (gr rowN 1 to A c hl) := by rw [List.getElem?_set_ne hjm]; exact hm
  have S2 := S1.turn hm1 (y := gr rowN 1 to A c hl') (gr_rows (rowN_set hi1 (by simp)) (by simp [hl']) (S1.atX hm1)) (fun b hb => .inl (by simp only [gr, hl', List.length_set] at hb ⊢; exact hb)) rfl rfl rfl (Nat.le_refl _) (fun _ _ _ => rfl)
  refine op_skip (w' := setB w g (.cells (cur.setIfInBounds k.toNat (.int .i64 v)) t (0, 0))) rfl (fun _ h => by cases h) ?_ (h hl' _ (by simp [hl']) S2)
  simp only [Nat.add_zero, putAt] at hst
  simp [execOp, Instr.storeAt, hx', hy, Instr.sureAddr, storeVar, run_sizeOf hT, Value.cells, hst]
end
end Go.Fx
namespace Go.Fx
end Go.Fx

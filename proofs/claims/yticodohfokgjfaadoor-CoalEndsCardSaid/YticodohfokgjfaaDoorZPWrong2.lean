/- Plain facts: without all measures a book can be true; books without some; the first of the fewest is one. -/
import Derived.Test.YticodohfokgjfaaDoorZPWrong
set_option linter.unusedVariables false
set_option linter.unusedSimpArgs false
namespace Go.Proofs.YticodohfokgjfaaDoor
open Go Go.Fx
def Has (m : List (Coal_gust × Int)) (g : Coal_gust) : Prop := ∃ p ∈ m, p.1 = g
theorem has_look {m : List (Coal_gust × Int)} {g : Coal_gust} (h : Has m g) : ∃ v, lookL m g = some v := by
  obtain ⟨p, hp, rfl⟩ := h
  unfold lookL
  cases hf : m.find? (·.1 == p.1) with
  | some x => exact ⟨x.2, rfl⟩
  | none =>
    have := List.find?_eq_none.1 hf p hp
    simp at this
theorem has_put {m : List (Coal_gust × Int)} {g g' : Coal_gust} {v : Int} (h : Has m g') : Has (putL m g v) g' := by
  obtain ⟨p, hp, rfl⟩ := h
  unfold putL
  split
  · rename_i i hi
    obtain ⟨j, hj, rfl⟩ := List.getElem_of_mem hp
    obtain ⟨hi1, hi2, _⟩ := List.findIdx?_eq_some_iff_getElem.1 hi
    by_cases hij : i = j
    · subst hij
      refine ⟨(g, v), List.mem_set (by simpa using hi1) _, ?_⟩
      have := hi2
      simp at this
      exact this.symm
    · refine ⟨m[j], ?_, rfl⟩
      have h2 : j < (m.set i (g, v)).length := by simpa using hj
      have := List.getElem_mem h2
      rwa [List.getElem_set_ne hij] at this
  · exact ⟨p, List.mem_append_left _ hp, rfl⟩
theorem put_has {m : List (Coal_gust × Int)} {g : Coal_gust} {v : Int} : Has (putL m g v) g := by
  unfold putL
  split
  · rename_i i hi
    obtain ⟨hi1, hi2, _⟩ := List.findIdx?_eq_some_iff_getElem.1 hi
    exact ⟨(g, v), List.mem_set (by simpa using hi1) _, rfl⟩
  · exact ⟨(g, v), List.mem_append_right _ (List.mem_singleton.2 rfl), rfl⟩
theorem costW_keep {x : CoalDay} {ex : List Int} {d : Int} {m : List (Coal_gust × Int)} {g : Coal_gust} (h : Has m g) : ∀ k, Has (costW x ex d m k) g
  | 0 => h
  | k + 1 => by
    unfold costW
    cases (andI (shrI x.Winds (k : Int)) 1) == 1 with
    | false => exact costW_keep h k
    | true => exact has_put (costW_keep h k)
theorem costW_has {x : CoalDay} {ex : List Int} {d : Int} {m : List (Coal_gust × Int)} {j : Nat} (hb : ((andI (shrI x.Winds (j : Int)) 1) == 1) = true) : ∀ k, j < k → Has (costW x ex d m k) (Coal_gust.mk d (j : Int))
  | 0, h => by omega
  | k + 1, h => by
    unfold costW
    by_cases hjk : j = k
    · subst hjk; rw [hb]; exact put_has
    · have := costW_has (x := x) (ex := ex) (d := d) (m := m) hb k (by omega)
      cases (andI (shrI x.Winds (k : Int)) 1) == 1 with
      | false => exact this
      | true => exact has_put this
theorem costD_has {ds : List CoalDay} {ex : List Int} {d j : Nat} {x : CoalDay} (hx : ds[d]? = some x) (hj : j < 3) (hb : ((andI (shrI x.Winds (j : Int)) 1) == 1) = true) : ∀ k, d < k → Has (costD ds ex k) (Coal_gust.mk (d : Int) (j : Int))
  | 0, h => by omega
  | k + 1, h => by
    unfold costD
    by_cases hdk : d = k
    · subst hdk; rw [hx]; exact costW_has hb 3 hj
    · have := costD_has (ex := ex) hx hj hb k (by omega)
      cases ds[k]? with
      | none => exact this
      | some y => exact costW_keep this 3
theorem wind_some : ∀ w : Fin 8, 1 ≤ w.val → ∃ j : Fin 3, ((andI (shrI (w.val : Int) (j.val : Int)) 1) == 1) = true := by decide +kernel
theorem blown_ne {b : CoalBook} (V : Val b) {but : List Int} (hk : keepD b.Dips but b.Dips.length = []) : ∀ (r : Nat) (t : Coal_truth) (d : Nat) (c : Int), d + r = b.Days.length → blown (opn b but) r t d c ≠ [] := by
  intro r
  induction r with
  | zero => intro t d c _ h; cases h
  | succ r ih =>
    intro t d c hd
    have hdl : d < b.Days.length := by omega
    obtain ⟨_, _, w1, w2⟩ := dayB_iff (V.da _ (List.getElem_mem hdl))
    obtain ⟨j, hj⟩ := wind_some ⟨b.Days[d].Winds.toNat, by omega⟩ (by simp only; omega)
    simp only [show ((b.Days[d].Winds.toNat : Nat) : Int) = b.Days[d].Winds by omega] at hj
    obtain ⟨v, hv⟩ := has_look (costD_has (ex := b.Extra) (List.getElem?_eq_getElem hdl) j.isLt hj b.Days.length hdl)
    have hr : ∀ x, rightB (opn b but) d x = true := fun x => by
      unfold rightB
      rw [show (opn b but).CoalBook.Dips = [] from hk]; rfl
    rw [blown]
    intro h
    have := List.flatMap_eq_nil_iff.1 h j.val (List.mem_range'_1.2 (by have := j.isLt; omega))
    rw [show (opn b but).costs_ = costD b.Days b.Extra b.Days.length from rfl, hv] at this
    simp only [blown.optL, hr, cond_true] at this
    have e := ih (Coal_truth.mk t.eats_ t.collier_ (aset t.winds_ 6 d (j.val : Int)) (aset t.coal_ 6 d ((bif t.collier_ == (d : Int) then c + (opn b but).CoalBook.Brings else c) - eng (opn b but) d t.eats_ - v))) (d + 1) ((bif t.collier_ == (d : Int) then c + (opn b but).CoalBook.Brings else c) - eng (opn b but) d t.eats_ - v) (by omega)
    rw [show ((d + 1 : Nat) : Int) = (d : Int) + 1 by omega] at e
    exact e this
theorem truths_ne {b : CoalBook} (V : Val b) (A : Arg b) {but : List Int} (hk : keepD b.Dips but b.Dips.length = []) : truths (opn b but) ≠ [] := by
  have Q := opn_op V A but
  have e0 := (Q.ea _ (agetS_mem (i := 0) (by rw [Q.el]; decide))).1
  have e1 := (Q.ea _ (agetS_mem (i := 1) (by rw [Q.el]; decide))).1
  have := blown_ne V hk b.Days.length (init (agetS (opn b but).CoalBook.Eats (0 : Int)).Low (agetS (opn b but).CoalBook.Eats (1 : Int)).Low b.Collier.Low) 0 b.Heap.Low (by omega)
  obtain ⟨t, ht⟩ := List.exists_mem_of_ne_nil _ this
  refine List.ne_nil_of_mem (truth_mem.2 ⟨b.Heap.Low, rng_mem.2 ⟨Int.le_refl _, Q.hp.lh⟩, _, rng_mem.2 ⟨Int.le_refl _, e0.lh⟩, _, rng_mem.2 ⟨Int.le_refl _, e1.lh⟩, b.Collier.Low, rng_mem.2 ⟨Int.le_refl _, Q.co.lh⟩, ht⟩)
theorem keepD_none {l : List CoalDip} {but : List Int} : ∀ k, (∀ j : Nat, j < k → (j : Int) ∈ but) → keepD l but k = []
  | 0, _ => rfl
  | k + 1, h => by
    unfold keepD
    rw [show but.contains (k : Int) = true by simpa using h k (by omega), cond_true]
    exact keepD_none k fun j hj => h j (by omega)
theorem keepD_all {l : List CoalDip} : ∀ k, k ≤ l.length → keepD l [] k = l.take k
  | 0, _ => rfl
  | k + 1, h => by
    unfold keepD
    rw [show ([] : List Int).contains (k : Int) = false from rfl, cond_false, keepD_all k (by omega), ← List.take_append_getElem (show k < l.length by omega), List.getElem?_eq_getElem (show k < l.length by omega)]
    rfl
theorem hall {b : CoalBook} (V : Val b) (A : Arg b) : CanO b (allL b.Dips.length) := by
  refine truths_ne V A (keepD_none _ fun j hj => ?_)
  exact List.mem_map.2 ⟨j, List.mem_range.2 hj, rfl⟩
end Go.Proofs.YticodohfokgjfaaDoor

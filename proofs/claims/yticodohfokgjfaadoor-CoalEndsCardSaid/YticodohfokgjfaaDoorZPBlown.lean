/- What the ranges over all truths come to. -/
import Derived.Test.YticodohfokgjfaaDoorZPTruths
set_option linter.unusedVariables false
set_option linter.unusedSimpArgs false
namespace Go.Proofs.YticodohfokgjfaaDoor
open Go Go.Fx
/-- all truths that begin with some days of one -/
def blown (q : Coal_book) : Nat → Coal_truth → Int → Int → List Coal_truth
  | 0, t, _, _ => [t]
  | r + 1, t, d, c => (List.range' 0 3).flatMap fun (w : Nat) => optL (lookL q.costs_ (Coal_gust.mk d (w : Int))) fun cost =>
      bif rightB q d ((bif t.collier_ == d then c + q.CoalBook.Brings else c) - eng q d t.eats_ - cost) then
        blown q r (Coal_truth.mk t.eats_ t.collier_ (aset t.winds_ 6 d (w : Int)) (aset t.coal_ 6 d ((bif t.collier_ == d then c + q.CoalBook.Brings else c) - eng q d t.eats_ - cost))) (d + 1) ((bif t.collier_ == d then c + q.CoalBook.Brings else c) - eng q d t.eats_ - cost)
      else []
where optL {α β : Type} (o : Option α) (f : α → List β) : List β := match o with | none => [] | some a => f a
theorem aset_aset {l : List Int} {n : Nat} {i x y : Int} : aset (aset l n i x) n i y = aset l n i y := by
  unfold aset
  refine List.map_congr_left fun k hk => ?_
  have hk := List.mem_range.1 hk
  by_cases h : k = i.toNat
  · simp [h]
  · simp [h, List.getD_eq_getElem?_getD, hk]
theorem look_mem {q : Coal_book} {g : Coal_gust} {c : Int} (h : lookL q.costs_ g = some c) : ∃ p ∈ q.costs_, p.2 = c := by
  unfold lookL at h
  obtain ⟨p, hp, rfl⟩ := Option.map_eq_some_iff.1 h
  exact ⟨p, List.mem_of_find?_eq_some hp, rfl⟩
theorem blown_eq (q : Coal_book) (Q : Op q) {σ : Type} (yv : Coal_truth → σ → Option (Bool × σ)) : ∀ (r : Nat) (t : Coal_truth) (d : Nat) (c : Int) (s : σ) (n : Nat), d + r = q.CoalBook.Days.length → r < n → -(1000 * ((d : Int) + 1)) ≤ c → c ≤ 1000 * ((d : Int) + 1) → t.eats_.length = 2 → (∀ x ∈ t.eats_, 0 ≤ x ∧ x ≤ 9) →
    coal_book_blown_1_1 n t d c s q q yv = foldY yv (blown q r t d c) s := by
  have hdn := Q.dn; have hbr := Q.br
  intro r
  induction r with
  | zero =>
    intro t d c s n h1 h2 h3 h4 h5 h6
    obtain ⟨n, rfl⟩ : ∃ m, n = m + 1 := ⟨n - 1, by omega⟩
    show coal_book_blown_1_1_F _ t d c s q q yv = foldY yv [t] s
    rw [foldY_one]
    unfold coal_book_blown_1_1_F
    rw [show ((d : Int) == (q.CoalBook.Days.length : Int)) = true by rw [beq_iff_eq]; omega, cond_true]
    cases yv t s <;> rfl
  | succ r ih =>
    intro t d c s n h1 h2 h3 h4 h5 h6
    obtain ⟨n, rfl⟩ : ∃ m, n = m + 1 := ⟨n - 1, by omega⟩
    show coal_book_blown_1_1_F _ t d c s q q yv = _
    obtain ⟨e1, e2, e3⟩ := engines_eq q Q d (by omega) t.eats_ h5 h6
    have j6 : ∀ z : Int, -(1000 * ((d : Int) + 1)) ≤ z → z ≤ 1000 * ((d : Int) + 1) + 400 → z = (bif t.collier_ == (d : Int) then c + q.CoalBook.Brings else c) → coal_book_blown_1_1_j6 q d t q (fun x0 x1 x2 x3 => coal_book_blown_1_1 n x0 x1 x2 x3 q q yv) s z = foldY yv (blown q (r + 1) t d c) s := by
      intro z z1 z2 hz
      unfold coal_book_blown_1_1_j6
      rw [e1, Option.bind_some, blown, ← hz]
      have key : ∀ (e k m : Nat) (W C : List Int) (s : σ), k + e = 3 → e < m → (∀ x, aset W 6 d x = aset t.winds_ 6 d x) → (∀ x, aset C 6 d x = aset t.coal_ 6 d x) →
          loopF (coal_book_blown_1_1_l5 q d q z (eng q d t.eats_) (fun x0 x1 x2 x3 => coal_book_blown_1_1 n x0 x1 x2 x3 q q yv) t) m ((k : Int), W, C, s) = foldY yv ((List.range' k e).flatMap fun (w : Nat) => blown.optL (lookL q.costs_ (Coal_gust.mk d (w : Int))) fun cost =>
            bif rightB q d (z - eng q d t.eats_ - cost) then blown q r (Coal_truth.mk t.eats_ t.collier_ (aset t.winds_ 6 d (w : Int)) (aset t.coal_ 6 d (z - eng q d t.eats_ - cost))) (d + 1) (z - eng q d t.eats_ - cost) else []) s := by
        intro e
        induction e with
        | zero =>
          intro k m W C s h7 h8 hW hC
          obtain ⟨m, rfl⟩ : ∃ q, m = q + 1 := ⟨m - 1, by omega⟩
          show coal_book_blown_1_1_l5 q d q z _ _ t _ ((k : Int), W, C, s) = _
          unfold coal_book_blown_1_1_l5
          simp only
          rw [decide_eq_false (by omega), cond_false]
          rfl
        | succ e ih2 =>
          intro k m W C s h7 h8 hW hC
          obtain ⟨m, rfl⟩ : ∃ q, m = q + 1 := ⟨m - 1, by omega⟩
          show coal_book_blown_1_1_l5 q d q z _ _ t (loopF _ m) ((k : Int), W, C, s) = _
          have ih3 := fun W C s => ih2 (k + 1) m W C s (by omega) (by omega)
          generalize loopF (coal_book_blown_1_1_l5 q d q z (eng q d t.eats_) (fun x0 x1 x2 x3 => coal_book_blown_1_1 n x0 x1 x2 x3 q q yv) t) m = rec at ih3
          rw [List.range'_succ, List.flatMap_cons, foldY_app]
          have w0 : wr ((k : Int) + 1) = ((k + 1 : Nat) : Int) := by rw [wrI (by omega) (by omega)]; omega
          unfold coal_book_blown_1_1_l5
          simp only
          rw [decide_eq_true (by omega), cond_true]
          cases hl : lookL q.costs_ (Coal_gust.mk d (k : Int)) with
          | none =>
            simp only [optC, blown.optL]
            unfold coal_book_blown_1_1_j4
            simp only [Bool.not_false, cond_true]
            rw [w0, ih3 W C s hW hC]
            rfl
          | some cost =>
            obtain ⟨p, hp, rfl⟩ := look_mem hl
            obtain ⟨p1, p2⟩ := Q.cs p hp
            simp only [optC, blown.optL]
            unfold coal_book_blown_1_1_j4
            simp only [Bool.not_true, cond_false]
            rw [wrI (x := z - eng q d t.eats_) (by omega) (by omega), wrI (x := z - eng q d t.eats_ - p.2) (by omega) (by omega), right_eq q Q d _ (by omega) (by omega), Option.bind_some]
            cases hr : rightB q d (z - eng q d t.eats_ - p.2) with
            | false =>
              simp only [Bool.not_false, cond_true, cond_false]
              rw [w0, ih3 W C s hW hC]
              rfl
            | true =>
              simp only [Bool.not_true, cond_true, cond_false]
              rw [need_of (by simp [inI]; omega), need_of (by simp [inI]; omega), hW, hC, show wr ((d : Int) + 1) = ((d + 1 : Nat) : Int) by rw [wrI (by omega) (by omega)]; omega]
              rw [ih (Coal_truth.mk t.eats_ t.collier_ (aset t.winds_ 6 d (k : Int)) (aset t.coal_ 6 d (z - eng q d t.eats_ - p.2))) (d + 1) (z - eng q d t.eats_ - p.2) s n (by omega) (by omega) (by omega) (by omega) h5 h6, show ((d + 1 : Nat) : Int) = (d : Int) + 1 by omega]
              cases foldY yv (blown q r _ ((d : Int) + 1) _) s with
              | none => rfl
              | some x =>
                obtain ⟨b, s2⟩ := x
                cases b with
                | false => rfl
                | true =>
                  show rec (wr ((k : Int) + 1), _, _, s2) = foldY yv _ s2
                  exact (congrArg (fun x => rec (x, _, _, s2)) w0).trans (ih3 _ _ s2 (fun x => aset_aset) (fun x => aset_aset))
      exact key 3 0 big _ _ s (by omega) (by rw [big_eq]; omega) (fun _ => rfl) (fun _ => rfl)
    unfold coal_book_blown_1_1_F
    rw [show ((d : Int) == (q.CoalBook.Days.length : Int)) = false by rw [beq_eq_false_iff_ne]; omega, cond_false]
    cases hc : (t.collier_ == (d : Int)) with
    | true =>
      rw [cond_true, wrI (by omega) (by omega)]
      exact j6 _ (by omega) (by omega) (by rw [hc]; rfl)
    | false =>
      rw [cond_false]
      exact j6 _ (by omega) (by omega) (by rw [hc]; rfl)
def init (o p c : Int) : Coal_truth := Coal_truth.mk [o, p] c (List.replicate 6 0) (List.replicate 6 0)
/-- all truths -/
def truths (q : Coal_book) : List Coal_truth :=
  (rng q.CoalBook.Heap).flatMap fun h => (rng (agetS q.CoalBook.Eats (0 : Int))).flatMap fun o => (rng (agetS q.CoalBook.Eats (1 : Int))).flatMap fun p => (rng q.CoalBook.Collier).flatMap fun c => blown q q.CoalBook.Days.length (init o p c) 0 h
theorem truth_mem {q : Coal_book} {t : Coal_truth} : t ∈ truths q ↔ ∃ h ∈ rng q.CoalBook.Heap, ∃ o ∈ rng (agetS q.CoalBook.Eats (0 : Int)), ∃ p ∈ rng (agetS q.CoalBook.Eats (1 : Int)), ∃ c ∈ rng q.CoalBook.Collier, t ∈ blown q q.CoalBook.Days.length (init o p c) 0 h := by
  simp only [truths, List.mem_flatMap]
theorem tail_eq {σ : Type} (x : Option (Bool × σ)) : (x.map fun r => ((bif r.1 then 0 else 1 : Nat), r.2)).bind (fun r => bif (r.1 == 0) then some (true, 0, r.2) else some (false, 1, r.2)) = x.map codeOf := by
  cases x with
  | none => rfl
  | some r => obtain ⟨b, s⟩ := r; cases b <;> rfl
theorem agetS_mem {l : List Span} {i : Int} (h : i.toNat < l.length) : agetS l i ∈ l := by
  unfold agetS
  rw [List.getD_eq_getElem?_getD, List.getElem?_eq_getElem h]
  exact List.getElem_mem _
theorem truths_eq (q : Coal_book) (Q : Op q) {σ : Type} (yv : Coal_truth → σ → Option (Bool × σ)) (z : σ) : coal_book_truths_1 z q yv = (foldY yv (truths q) z).map (·.2) := by
  have he0 := Q.ea _ (agetS_mem (i := 0) (by rw [Q.el]; decide))
  have he1 := Q.ea _ (agetS_mem (i := 1) (by rw [Q.el]; decide))
  have q1 : ∀ (o p : Int), 0 ≤ o → o ≤ 9 → 0 ≤ p → p ≤ 9 → ∀ h ∈ rng q.CoalBook.Heap, ∀ c z, coal_book_truths_1_r118 q o p h yv c z = (foldY yv (blown q q.CoalBook.Days.length (init o p c) 0 h) z).map codeOf := by
    intro o p o1 o2 p1 p2 h hh c z
    have hh := rng_mem.1 hh
    have := Q.hp.l0; have := Q.hp.hi
    unfold coal_book_truths_1_r118 coal_book_blown coal_book_blown_1
    rw [Option.bind_some]
    rw [show Coal_truth.mk [o, p] c (List.replicate 6 0) (List.replicate 6 0) = init o p c from rfl]
    have := blown_eq q Q (yvOf (coal_book_truths_1_r117 yv)) q.CoalBook.Days.length (init o p c) 0 h (0, z) big (by omega) (by have := Q.dn; rw [big_eq]; omega) (by omega) (by omega) rfl (fun x hx => by
      simp [init] at hx
      rcases hx with rfl | rfl <;> omega)
    rw [show coal_book_blown_1_1 big (init o p c) 0 h (0, z) q q (yvOf (coal_book_truths_1_r117 yv)) = _ from this]
    rw [foldY_nest yv (fun x => [x]) (coal_book_truths_1_r117 yv) _ (fun x _ z => by
      rw [foldY_one]
      unfold coal_book_truths_1_r117
      cases yv x z with
      | none => rfl
      | some r => obtain ⟨b, s⟩ := r; cases b <;> rfl), show ∀ l : List Coal_truth, (l.flatMap fun x => [x]) = l from fun l => by induction l <;> simp_all]
    show _ = Option.map codeOf (foldY yv (blown q q.CoalBook.Days.length (init o p c) ((0 : Nat) : Int) h) z)
    cases foldY yv (blown q q.CoalBook.Days.length (init o p c) ((0 : Nat) : Int) h) z with
    | none => rfl
    | some r => obtain ⟨b, s⟩ := r; cases b <;> rfl
  have q2 : ∀ (o p : Int), 0 ≤ o → o ≤ 9 → 0 ≤ p → p ≤ 9 → ∀ h ∈ rng q.CoalBook.Heap, ∀ z, coal_book_truths_1_r119 q o h yv p z = (foldY yv ((rng q.CoalBook.Collier).flatMap fun c => blown q q.CoalBook.Days.length (init o p c) 0 h) z).map codeOf := by
    intro o p o1 o2 p1 p2 h hh z
    unfold coal_book_truths_1_r119 coal_all
    rw [Option.bind_some, all_nest _ Q.co yv _ _ (fun x hx z => q1 o p o1 o2 p1 p2 h hh x z), tail_eq]
  have q3 : ∀ (o : Int), 0 ≤ o → o ≤ 9 → ∀ h ∈ rng q.CoalBook.Heap, ∀ z, coal_book_truths_1_r120 q h yv o z = (foldY yv ((rng (agetS q.CoalBook.Eats (1 : Int))).flatMap fun p => (rng q.CoalBook.Collier).flatMap fun c => blown q q.CoalBook.Days.length (init o p c) 0 h) z).map codeOf := by
    intro o o1 o2 h hh z
    unfold coal_book_truths_1_r120 coal_all
    rw [Option.bind_some, all_nest _ he1.1 yv _ _ (fun x hx z => q2 o x o1 o2 (by have := rng_mem.1 hx; have := he1.1.l0; omega) (by have := rng_mem.1 hx; have := he1.2; omega) h hh z), tail_eq]
  have q4 : ∀ h ∈ rng q.CoalBook.Heap, ∀ z, coal_book_truths_1_r121 q yv h z = (foldY yv ((rng (agetS q.CoalBook.Eats (0 : Int))).flatMap fun o => (rng (agetS q.CoalBook.Eats (1 : Int))).flatMap fun p => (rng q.CoalBook.Collier).flatMap fun c => blown q q.CoalBook.Days.length (init o p c) 0 h) z).map codeOf := by
    intro h hh z
    unfold coal_book_truths_1_r121 coal_all
    rw [Option.bind_some, all_nest _ he0.1 yv _ _ (fun x hx z => q3 x (by have := rng_mem.1 hx; have := he0.1.l0; omega) (by have := rng_mem.1 hx; have := he0.2; omega) h hh z), tail_eq]
  unfold coal_book_truths_1 coal_all
  rw [Option.bind_some, all_nest _ Q.hp yv _ _ q4]
  show _ = Option.map _ (foldY yv (truths q) z)
  unfold truths
  cases foldY yv _ z with
  | none => rfl
  | some r => obtain ⟨b, s⟩ := r; cases b <;> rfl
end Go.Proofs.YticodohfokgjfaaDoor

/- What the ranges over all truths come to. -/
import Derived.Test.YticodohfokgjfaaDoorZGPTruths
import Derived.KernelRfl
set_option linter.unusedVariables false
set_option linter.unusedSimpArgs false
namespace Go.Proofs.YticodohfokgjfaaDoor
open Go Go.Fx
/-- all truths that begin with some days of one -/
def blown (q : Coal_book) : Nat → Coal_truth → Int → Int → List Coal_truth
  | 0, t, _, _ => [t]
  | r + 1, t, d, c => (List.range' 0 3).flatMap fun (w : Nat) => optL (lookL q.costs_ (Coal_gust.mk d (w : Int))) fun cost =>
      bif rightB q d ((bif t.collier_ == d then c + q.CoalBook.Brings else c) - eng q d t.eats_ - cost) then
        blown q r (Coal_truth.mk t.eats_ t.collier_ (aset t.winds_ 6 d (w : Int)) (aset t.coal_ 6 d ((bif t.collier_ == d then c + q.CoalBook.Brings else c) - eng q d t.eats_ - cost))) (d + 1) ((bif t.collier_ == d then c + q.CoalBook.Brings else c) - eng q d t.eats_ - cost)
      else []
where optL {α β : Type} (o : Option α) (f : α → List β) : List β := match o with | none => [] | some a => f a
theorem aset_aset {l : List Int} {n : Nat} {i x y : Int} : aset (aset l n i x) n i y = aset l n i y := by
  unfold aset
  refine List.map_congr_left fun k hk => ?_
  have hk := List.mem_range.1 hk
  by_cases h : k = i.toNat
  · simp [h]
  · simp [h, List.getD_eq_getElem?_getD, hk]
theorem look_mem {q : Coal_book} {g : Coal_gust} {c : Int} (h : lookL q.costs_ g = some c) : ∃ p ∈ q.costs_, p.2 = c := by
  unfold lookL at h
  obtain ⟨p, hp, rfl⟩ := Option.map_eq_some_iff.1 h
  exact ⟨p, List.mem_of_find?_eq_some hp, rfl⟩
theorem blown_eq (q : Coal_book) (Q : Op q) {σ : Type} (yv : Coal_truth → σ → Option (Bool × σ)) : ∀ (r : Nat) (t : Coal_truth) (d : Nat) (c : Int) (s : σ) (n : Nat), d + r = q.CoalBook.Days.length → r < n → -(1000 * ((d : Int) + 1)) ≤ c → c ≤ 1000 * ((d : Int) + 1) → t.eats_.length = 2 → (∀ x ∈ t.eats_, 0 ≤ x ∧ x ≤ 9) →
    coal_book_blown_1_1 n t d c s q q yv = foldY yv (blown q r t d c) s := by
  have hdn := Q.dn; have hbr := Q.br
  intro r
  induction r with
  | zero =>
    intro t d c s n h1 h2 h3 h4 h5 h6
    obtain ⟨n, rfl⟩ : ∃ m, n = m + 1 := ⟨n - 1, by omega⟩
    show coal_book_blown_1_1_F _ t d c s q q yv = foldY yv [t] s
    rw [foldY_one]
    unfold coal_book_blown_1_1_F
    rw [show ((d : Int) == (q.CoalBook.Days.length : Int)) = true by rw [beq_iff_eq]; omega, cond_true]
    cases yv t s <;> rfl
  | succ r ih =>
    intro t d c s n h1 h2 h3 h4 h5 h6
    obtain ⟨n, rfl⟩ : ∃ m, n = m + 1 := ⟨n - 1, by omega⟩
    show coal_book_blown_1_1_F _ t d c s q q yv = _
    obtain ⟨e1, e2, e3⟩ := engines_eq q Q d (by omega) t.eats_ h5 h6
    have j6 : ∀ z : Int, -(1000 * ((d : Int) + 1)) ≤ z → z ≤ 1000 * ((d : Int) + 1) + 400 → z = (bif t.collier_ == (d : Int) then c + q.CoalBook.Brings else c) → coal_book_blown_1_1_j6 q d t q (fun x0 x1 x2 x3 => coal_book_blown_1_1 n x0 x1 x2 x3 q q yv) s z = foldY yv (blown q (r + 1) t d c) s := by
      intro z z1 z2 hz
      unfold coal_book_blown_1_1_j6
      rw [e1, Option.bind_some, blown, ← hz]
      have key : ∀ (e k m : Nat) (W C : List Int) (s : σ), k + e = 3 → e < m → (∀ x, aset W 6 d x = aset t.winds_ 6 d x) → (∀ x, aset C 6 d x = aset t.coal_ 6 d x) →
          loopF (coal_book_blown_1_1_l5 q d q z (eng q d t.eats_) (fun x0 x1 x2 x3 => coal_book_blown_1_1 n x0 x1 x2 x3 q q yv) t) m ((k : Int), W, C, s) = foldY yv ((List.range' k e).flatMap fun (w : Nat) => blown.optL (lookL q.costs_ (Coal_gust.mk d (w : Int))) fun cost =>
            bif rightB q d (z - eng q d t.eats_ - cost) then blown q r (Coal_truth.mk t.eats_ t.collier_ (aset t.winds_ 6 d (w : Int)) (aset t.coal_ 6 d (z - eng q d t.eats_ - cost))) (d + 1) (z - eng q d t.eats_ - cost) else []) s := by
        intro e
        induction e with
        | zero =>
          intro k m W C s h7 h8 hW hC
          obtain ⟨m, rfl⟩ : ∃ q, m = q + 1 := ⟨m - 1, by omega⟩
          show coal_book_blown_1_1_l5 q d q z _ _ t _ ((k : Int), W, C, s) = _
          unfold coal_book_blown_1_1_l5
          simp only
          rw [decide_eq_false (by omega), cond_false]
          rfl
        | succ e ih2 =>
          intro k m W C s h7 h8 hW hC
          obtain ⟨m, rfl⟩ : ∃ q, m = q + 1 := ⟨m - 1, by omega⟩
          show coal_book_blown_1_1_l5 q d q z _ _ t (loopF _ m) ((k : Int), W, C, s) = _
          have ih3 := fun W C s => ih2 (k + 1) m W C s (by omega) (by omega)
          generalize loopF (coal_book_blown_1_1_l5 q d q z (eng q d t.eats_) (fun x0 x1 x2 x3 => coal_book_blown_1_1 n x0 x1 x2 x3 q q yv) t) m = rec at ih3
          rw [List.range'_succ, List.flatMap_cons, foldY_app]
          have w0 : wr ((k : Int) + 1) = ((k + 1 : Nat) : Int) := by rw [wrI (by omega) (by omega)]; omega
          unfold coal_book_blown_1_1_l5
          simp only
          rw [decide_eq_true (by omega), cond_true]
          cases hl : lookL q.costs_ (Coal_gust.mk d (k : Int)) with
          | none =>
            simp only [optC, blown.optL]
            unfold coal_book_blown_1_1_j4
            simp only [Bool.not_false, cond_true]
            rw [w0, ih3 W C s hW hC]
            rfl
          | some cost =>
            obtain ⟨p, hp, rfl⟩ := look_mem hl
            obtain ⟨p1, p2⟩ := Q.cs p hp
            simp only [optC, blown.optL]
            unfold coal_book_blown_1_1_j4
            simp only [Bool.not_true, cond_false]
            rw [wrI (x := z - eng q d t.eats_) (by omega) (by omega), wrI (x := z - eng q d t.eats_ - p.2) (by omega) (by omega), right_eq q Q d _ (by omega) (by omega), Option.bind_some]
            cases hr : rightB q d (z - eng q d t.eats_ - p.2) with
            | false =>
              simp only [Bool.not_false, cond_true, cond_false]
              rw [w0, ih3 W C s hW hC]
              rfl
            | true =>
              simp only [Bool.not_true, cond_true, cond_false]
              rw [need_of (by simp [inI]; omega), need_of (by simp [inI]; omega), hW, hC, show wr ((d : Int) + 1) = ((d + 1 : Nat) : Int) by rw [wrI (by omega) (by omega)]; omega]
              rw [ih (Coal_truth.mk t.eats_ t.collier_ (aset t.winds_ 6 d (k : Int)) (aset t.coal_ 6 d (z - eng q d t.eats_ - p.2))) (d + 1) (z - eng q d t.eats_ - p.2) s n (by omega) (by omega) (by omega) (by omega) h5 h6, show ((d + 1 : Nat) : Int) = (d : Int) + 1 by omega]
              cases foldY yv (blown q r _ ((d : Int) + 1) _) s with
              | none => rfl
              | some x =>
                obtain ⟨b, s2⟩ := x
                cases b with
                | false => rfl
                | true =>
                  show rec (wr ((k : Int) + 1), _, _, s2) = foldY yv _ s2
                  exact (congrArg (fun x => rec (x, _, _, s2)) w0).trans (ih3 _ _ s2 (fun x => aset_aset) (fun x => aset_aset))
      exact key 3 0 big _ _ s (by omega) (by rw [big_eq]; omega) (fun _ => rfl) (fun _ => rfl)
    unfold coal_book_blown_1_1_F
    rw [show ((d : Int) == (q.CoalBook.Days.length : Int)) = false by rw [beq_eq_false_iff_ne]; omega, cond_false]
    cases hc : (t.collier_ == (d : Int)) with
    | true =>
      rw [cond_true, wrI (by omega) (by omega)]
      exact j6 _ (by omega) (by omega) (by rw [hc]; rfl)
    | false =>
      rw [cond_false]
      exact j6 _ (by omega) (by omega) (by rw [hc]; rfl)
def init (o p c : Int) : Coal_truth := Coal_truth.mk [o, p] c (List.replicate 6 0) (List.replicate 6 0)
/-- all truths -/
def truths (q : Coal_book) : List Coal_truth :=
  (rng q.CoalBook.Heap).flatMap fun h => (rng (agetS q.CoalBook.Eats (0 : Int))).flatMap fun o => (rng (agetS q.CoalBook.Eats (1 : Int))).flatMap fun p => (rng q.CoalBook.Collier).flatMap fun c => blown q q.CoalBook.Days.length (init o p c) 0 h
theorem truth_mem {q : Coal_book} {t : Coal_truth} : t ∈ truths q ↔ ∃ h ∈ rng q.CoalBook.Heap, ∃ o ∈ rng (agetS q.CoalBook.Eats (0 : Int)), ∃ p ∈ rng (agetS q.CoalBook.Eats (1 : Int)), ∃ c ∈ rng q.CoalBook.Collier, t ∈ blown q q.CoalBook.Days.length (init o p c) 0 h := by
  simp only [truths, List.mem_flatMap]
theorem tail_eq {σ : Type} (x : Option (Bool × σ)) : (x.map fun r => ((bif r.1 then 0 else 1 : Nat), r.2)).bind (fun r => bif (r.1 == 0) then some (true, 0, r.2) else some (false, 1, r.2)) = x.map codeOf := by
  cases x with
  | none => rfl
  | some r => obtain ⟨b, s⟩ := r; cases b <;> rfl
theorem agetS_mem {l : List Span} {i : Int} (h : i.toNat < l.length) : agetS l i ∈ l := by
  unfold agetS
  rw [List.getD_eq_getElem?_getD, List.getElem?_eq_getElem h]
  exact List.getElem_mem _
theorem truths_eq (q : Coal_book) (Q : Op q) {σ : Type} (yv : Coal_truth → σ → Option (Bool × σ)) (z : σ) : coal_book_truths_1 z q yv = (foldY yv (truths q) z).map (·.2) := by
  have he0 := Q.ea _ (agetS_mem (i := 0) (by rw [Q.el]; decide))
  have he1 := Q.ea _ (agetS_mem (i := 1) (by rw [Q.el]; decide))
  have q1 : ∀ (o p : Int), 0 ≤ o → o ≤ 9 → 0 ≤ p → p ≤ 9 → ∀ h ∈ rng q.CoalBook.Heap, ∀ c z, coal_book_truths_1_r118 q o p h yv c z = (foldY yv (blown q q.CoalBook.Days.length (init o p c) 0 h) z).map codeOf := by
    intro o p o1 o2 p1 p2 h hh c z
    have hh := rng_mem.1 hh
    have := Q.hp.l0; have := Q.hp.hi
    unfold coal_book_truths_1_r118 coal_book_blown coal_book_blown_1
    rw [Option.bind_some]
    rw [show Coal_truth.mk [o, p] c (List.replicate 6 0) (List.replicate 6 0) = init o p c from rfl]
    have := blown_eq q Q (yvOf (coal_book_truths_1_r117 yv)) q.CoalBook.Days.length (init o p c) 0 h (0, z) big (by omega) (by have := Q.dn; rw [big_eq]; omega) (by omega) (by omega) rfl (fun x hx => by
      simp [init] at hx
      rcases hx with rfl | rfl <;> omega)
    rw [show coal_book_blown_1_1 big (init o p c) 0 h (0, z) q q (yvOf (coal_book_truths_1_r117 yv)) = _ from this]
    rw [foldY_nest yv (fun x => [x]) (coal_book_truths_1_r117 yv) _ (fun x _ z => by
      rw [foldY_one]
      unfold coal_book_truths_1_r117
      cases yv x z with
      | none => rfl
      | some r => obtain ⟨b, s⟩ := r; cases b <;> rfl), show ∀ l : List Coal_truth, (l.flatMap fun x => [x]) = l from fun l => by induction l <;> simp_all]
    show _ = Option.map codeOf (foldY yv (blown q q.CoalBook.Days.length (init o p c) ((0 : Nat) : Int) h) z)
    cases foldY yv (blown q q.CoalBook.Days.length (init o p c) ((0 : Nat) : Int) h) z with
    | none => rfl
    | some r => obtain ⟨b, s⟩ := r; cases b <;> rfl
  have q2 : ∀ (o p : Int), 0 ≤ o → o ≤ 9 → 0 ≤ p → p ≤ 9 → ∀ h ∈ rng q.CoalBook.Heap, ∀ z, coal_book_truths_1_r119 q o h yv p z = (foldY yv ((rng q.CoalBook.Collier).flatMap fun c => blown q q.CoalBook.Days.length (init o p c) 0 h) z).map codeOf := by
    intro o p o1 o2 p1 p2 h hh z
    unfold coal_book_truths_1_r119 coal_all
    rw [Option.bind_some, all_nest _ Q.co yv _ _ (fun x hx z => q1 o p o1 o2 p1 p2 h hh x z), tail_eq]
  have q3 : ∀ (o : Int), 0 ≤ o → o ≤ 9 → ∀ h ∈ rng q.CoalBook.Heap, ∀ z, coal_book_truths_1_r120 q h yv o z = (foldY yv ((rng (agetS q.CoalBook.Eats (1 : Int))).flatMap fun p => (rng q.CoalBook.Collier).flatMap fun c => blown q q.CoalBook.Days.length (init o p c) 0 h) z).map codeOf := by
    intro o o1 o2 h hh z
    unfold coal_book_truths_1_r120 coal_all
    rw [Option.bind_some, all_nest _ he1.1 yv _ _ (fun x hx z => q2 o x o1 o2 (by have := rng_mem.1 hx; have := he1.1.l0; omega) (by have := rng_mem.1 hx; have := he1.2; omega) h hh z), tail_eq]
  have q4 : ∀ h ∈ rng q.CoalBook.Heap, ∀ z, coal_book_truths_1_r121 q yv h z = (foldY yv ((rng (agetS q.CoalBook.Eats (0 : Int))).flatMap fun o => (rng (agetS q.CoalBook.Eats (1 : Int))).flatMap fun p => (rng q.CoalBook.Collier).flatMap fun c => blown q q.CoalBook.Days.length (init o p c) 0 h) z).map codeOf := by
    intro h hh z
    unfold coal_book_truths_1_r121 coal_all
    rw [Option.bind_some, all_nest _ he0.1 yv _ _ (fun x hx z => q3 x (by have := rng_mem.1 hx; have := he0.1.l0; omega) (by have := rng_mem.1 hx; have := he0.2; omega) h hh z), tail_eq]
  unfold coal_book_truths_1 coal_all
  rw [Option.bind_some, all_nest _ Q.hp yv _ _ q4]
  show _ = Option.map _ (foldY yv (truths q) z)
  unfold truths
  cases foldY yv _ z with
  | none => rfl
  | some r => obtain ⟨b, s⟩ := r; cases b <;> rfl
end Go.Proofs.YticodohfokgjfaaDoor

set_option linter.unusedVariables false
set_option linter.unusedSimpArgs false
namespace Go.Proofs.YticodohfokgjfaaDoor
open Go Go.Fx
def keepD (l : List CoalDip) (but : List Int) : Nat → List CoalDip
  | 0 => []
  | k + 1 => bif but.contains (k : Int) then keepD l but k else keepD l but k ++ (l[k]?).toList
def costW (x : CoalDay) (ex : List Int) (d : Int) (m : List (Coal_gust × Int)) : Nat → List (Coal_gust × Int)
  | 0 => m
  | k + 1 => bif (andI (shrI x.Winds (k : Int)) 1) == 1 then putL (costW x ex d m k) (Coal_gust.mk d (k : Int)) (wr (x.Crosses * aget ex (k : Int))) else costW x ex d m k
def costD (ds : List CoalDay) (ex : List Int) : Nat → List (Coal_gust × Int)
  | 0 => []
  | k + 1 => match ds[k]? with | some x => costW x ex (k : Int) (costD ds ex k) 3 | none => costD ds ex k
def opn (b : CoalBook) (but : List Int) : Coal_book := Coal_book.mk (CoalBook.mk b.Heap b.Eats b.Extra b.Days b.Collier b.Brings (keepD b.Dips but b.Dips.length)) (costD b.Days b.Extra b.Days.length)
theorem keepD_len (l : List CoalDip) (but : List Int) : ∀ k, (keepD l but k).length ≤ k
  | 0 => Nat.le_refl 0
  | k + 1 => by
    have := keepD_len l but k
    unfold keepD
    cases but.contains (k : Int) with
    | true => rw [cond_true]; omega
    | false =>
      rw [cond_false, List.length_append]
      have : (l[k]?).toList.length ≤ 1 := by cases l[k]? <;> simp
      omega
theorem keepD_mem {l : List CoalDip} {but : List Int} {x : CoalDip} : ∀ {k}, x ∈ keepD l but k → x ∈ l
  | 0, h => by cases h
  | k + 1, h => by
    unfold keepD at h
    cases hc : but.contains (k : Int) with
    | true => rw [hc, cond_true] at h; exact keepD_mem h
    | false =>
      rw [hc, cond_false] at h
      rcases List.mem_append.1 h with h | h
      · exact keepD_mem h
      · cases hk : l[k]? with
        | none => rw [hk] at h; cases h
        | some y =>
          rw [hk] at h
          obtain rfl := List.mem_singleton.1 h
          exact List.mem_of_getElem? hk
theorem putL_mem {m : List (Coal_gust × Int)} {g : Coal_gust} {v : Int} {x : Coal_gust × Int} (h : x ∈ putL m g v) : x = (g, v) ∨ x ∈ m := by
  unfold putL at h
  split at h
  · rcases List.mem_or_eq_of_mem_set h with h | h
    · exact .inr h
    · exact .inl h
  · rcases List.mem_append.1 h with h | h
    · exact .inr h
    · exact .inl (List.mem_singleton.1 h)
theorem costW_bd {x : CoalDay} {ex : List Int} {d : Int} {m : List (Coal_gust × Int)} (hx : 0 ≤ x.Crosses ∧ x.Crosses ≤ 9) (he : ∀ y ∈ ex, 0 ≤ y ∧ y ≤ 9) (hm : ∀ p ∈ m, 0 ≤ p.2 ∧ p.2 ≤ 81) : ∀ k, ∀ p ∈ costW x ex d m k, 0 ≤ p.2 ∧ p.2 ≤ 81
  | 0 => hm
  | k + 1 => by
    intro p hp
    unfold costW at hp
    cases hc : (andI (shrI x.Winds (k : Int)) 1) == 1 with
    | false => rw [hc, cond_false] at hp; exact costW_bd hx he hm k p hp
    | true =>
      rw [hc, cond_true] at hp
      rcases putL_mem hp with rfl | hp
      · have h1 : 0 ≤ aget ex (k : Int) ∧ aget ex (k : Int) ≤ 9 := by
          unfold aget
          rw [List.getD_eq_getElem?_getD]
          cases hk : ex[((k : Int)).toNat]? with
          | none => simp
          | some y => exact he y (List.mem_of_getElem? hk)
        have m1 : 0 ≤ x.Crosses * aget ex (k : Int) := Int.mul_nonneg hx.1 h1.1
        have m3 : x.Crosses * aget ex (k : Int) ≤ 9 * 9 := Int.mul_le_mul hx.2 h1.2 h1.1 (by omega)
        simp only
        rw [wrI (by omega) (by omega)]
        omega
      · exact costW_bd hx he hm k p hp
theorem costD_bd {ds : List CoalDay} {ex : List Int} (hd : ∀ x ∈ ds, 0 ≤ x.Crosses ∧ x.Crosses ≤ 9) (he : ∀ y ∈ ex, 0 ≤ y ∧ y ≤ 9) : ∀ k, ∀ p ∈ costD ds ex k, 0 ≤ p.2 ∧ p.2 ≤ 81
  | 0 => fun p h => by cases h
  | k + 1 => by
    unfold costD
    cases hk : ds[k]? with
    | none => exact costD_bd hd he k
    | some x => exact costW_bd (hd x (List.mem_of_getElem? hk)) he (costD_bd hd he k) 3
theorem dayB_iff {x : CoalDay} (h : dayB x = true) : (0 ≤ x.Crosses ∧ x.Crosses ≤ 9) ∧ (1 ≤ x.Engines ∧ x.Engines ≤ 3) ∧ 1 ≤ x.Winds ∧ x.Winds ≤ 7 := by
  unfold dayB at h
  simp only [Bool.and_eq_true, inB_iff] at h
  exact ⟨h.1.1, h.1.2, h.2⟩
theorem dipB_iff {n : Nat} {x : CoalDip} (h : dipB n x = true) : (0 ≤ x.Day ∧ x.Day ≤ (n : Int) - 1) ∧ (0 ≤ x.Read ∧ x.Read ≤ 800) ∧ 0 ≤ x.Error ∧ x.Error ≤ 9 := by
  unfold dipB at h
  simp only [Bool.and_eq_true, inB_iff] at h
  exact ⟨h.1.1, h.1.2, h.2⟩
theorem opn_op {b : CoalBook} (V : Val b) (A : Arg b) (but : List Int) : Op (opn b but) where
  hp := sp_of V.hp (by omega)
  co := sp_of V.co (by have := V.dn; omega)
  el := A.el
  ea s hs := by
    have := V.ea s hs
    refine ⟨sp_of this (by omega), ?_⟩
    unfold spB at this
    simp only [Bool.and_eq_true, decide_eq_true_eq] at this
    exact this.1.2
  dn := V.dn.2
  da x hx := (dayB_iff (V.da x hx)).1
  br := V.br
  pn := by
    have h1 := keepD_len b.Dips but b.Dips.length
    have := V.pn
    show (keepD b.Dips but b.Dips.length).length ≤ 10
    omega
  di x hx := by
    obtain ⟨_, h1, h2⟩ := dipB_iff (V.di x (keepD_mem hx))
    omega
  cs := costD_bd (fun x hx => (dayB_iff (V.da x hx)).1) V.ex _
theorem index_eq (l : List Int) (a : Int) (hl : l.length ≤ 1000) : sl_Contains_int_int l a = some (l.contains a) := by
  have key : ∀ (d k m : Nat), k + d = l.length → d < m → ∃ j, loopF (sl_Index_int_int_l1 l a) m (k : Int) = some j ∧ decide (j ≥ 0) = (l.drop k).contains a := by
    intro d
    induction d with
    | zero =>
      intro k m h1 h2
      obtain ⟨m, rfl⟩ : ∃ q, m = q + 1 := ⟨m - 1, by omega⟩
      refine ⟨-1, ?_, by rw [List.drop_eq_nil_of_le (by omega)]; rfl⟩
      show sl_Index_int_int_l1 l a _ _ = _
      unfold sl_Index_int_int_l1
      rw [decide_eq_false (by omega), cond_false]
    | succ d ih =>
      intro k m h1 h2
      obtain ⟨m, rfl⟩ : ∃ q, m = q + 1 := ⟨m - 1, by omega⟩
      have hk : k < l.length := by omega
      obtain ⟨j, hj, hj2⟩ := ih (k + 1) m (by omega) (by omega)
      show ∃ j, sl_Index_int_int_l1 l a (loopF (sl_Index_int_int_l1 l a) m) _ = some j ∧ _
      generalize loopF (sl_Index_int_int_l1 l a) m = rec at hj
      unfold sl_Index_int_int_l1
      rw [decide_eq_true (by omega), cond_true, getI_ix hk, Option.bind_some, List.drop_eq_getElem_cons hk, List.contains_cons]
      cases hc : (a == l[k]) with
      | true => exact ⟨k, by rw [cond_true], by simp⟩
      | false =>
        refine ⟨j, ?_, by rw [hj2, Bool.false_or]⟩
        rw [cond_false, wrI (by omega) (by omega), show (k : Int) + 1 = ((k + 1 : Nat) : Int) by omega, hj]
  obtain ⟨j, hj, hj2⟩ := key l.length 0 big (by omega) (by rw [big_eq]; omega)
  unfold sl_Contains_int_int sl_Index_int_int
  rw [show loopF (sl_Index_int_int_l1 l a) big 0 = some j from hj, Option.bind_some, hj2]; rfl
theorem opened_eq {b : CoalBook} (V : Val b) (A : Arg b) (but : List Int) (hb : but.length ≤ 1000) : coal_opened b but = some (opn b but) := by
  have hp := V.pn; have hd := V.dn
  unfold coal_opened
  refine loop_fold0 (fun k => ((k : Int), keepD b.Dips but k)) b.Dips.length (fun rec k hk => ?_) (fun rec => ?_) (by rw [big_eq]; omega) rfl
  · unfold coal_opened_l29
    simp only
    rw [decide_eq_true (by omega), cond_true, getI_ix hk, Option.bind_some, index_eq _ _ hb, Option.bind_some, wrN hk (by omega), keepD, List.getElem?_eq_getElem hk]
    cases but.contains (k : Int) with
    | true => rfl
    | false =>
      simp only [Bool.not_false, cond_true, cond_false]
      rw [need_of (by have := keepD_len b.Dips but k; unfold fitsL; simp; omega)]
      rfl
  unfold coal_opened_l29
  simp only
  rw [decide_eq_false (by omega), cond_false]
  refine loop_fold0 (fun k => ((k : Int), costD b.Days b.Extra k)) b.Days.length (fun rec k hk => ?_) (fun rec => ?_) (by rw [big_eq]; omega) rfl
  · unfold coal_opened_l28
    simp only
    rw [decide_eq_true (by omega), cond_true, getI_ix hk, Option.bind_some, costD, List.getElem?_eq_getElem hk]
    refine loop_fold0 (fun j => ((j : Int), costW b.Days[k] b.Extra (k : Int) (costD b.Days b.Extra k) j)) 3 (fun rec' j hj => ?_) (fun rec' => ?_) (by rw [big_eq]; omega) rfl
    · unfold coal_opened_l27 coal_opened_j26
      simp only
      rw [decide_eq_true (by omega), cond_true, need_of (by simp [inI]; omega), show ((k : Int) == (-1)) = false by rw [beq_eq_false_iff_ne]; omega]
      simp only [Bool.false_and, Bool.not_false, cond_true]
      rw [need_of (by simp), wrN hj (by omega), costW]
      cases (andI (shrI b.Days[k].Winds (j : Int)) 1 == 1) <;> rfl
    · unfold coal_opened_l27
      simp only
      rw [decide_eq_false (by omega), cond_false, wrN hk (by omega)]
  · unfold coal_opened_l28
    simp only
    rw [decide_eq_false (by omega), cond_false]
    rfl
/-! questions to all truths -/
theorem isTrue_eq (q : Coal_book) (Q : Op q) : coal_book_isTrue q = some (!(truths q).isEmpty) := by
  unfold coal_book_isTrue coal_book_truths
  rw [Option.bind_some, truths_eq q Q, foldY_find coal_book_isTrue_r1 (fun _ => true) false true _ (fun x _ => rfl)]
  cases truths q <;> rfl
structure SpanOf (f : Coal_truth → Int) (L : List Coal_truth) (s : Span) : Prop where
  nil : L = [] → s = ⟨0, 0⟩
  low : L ≠ [] → ∃ t ∈ L, f t = s.Low
  high : L ≠ [] → ∃ t ∈ L, f t = s.High
  le : ∀ t ∈ L, s.Low ≤ f t
  ge : ∀ t ∈ L, f t ≤ s.High
def spanG (f : Coal_truth → Int) (z : Int × Int × Bool) (t : Coal_truth) : Int × Int × Bool :=
  bif z.2.2 then (f t, f t, false) else ((if f t < z.1 then f t else z.1), (if f t > z.2.1 then f t else z.2.1), false)
theorem spanG_fold (f : Coal_truth → Int) : ∀ (L : List Coal_truth) (lo hi : Int), ∃ lo' hi', L.foldl (spanG f) (lo, hi, false) = (lo', hi', false) ∧ (lo' = lo ∨ ∃ t ∈ L, f t = lo') ∧ (hi' = hi ∨ ∃ t ∈ L, f t = hi') ∧ lo' ≤ lo ∧ hi ≤ hi' ∧ ∀ t ∈ L, lo' ≤ f t ∧ f t ≤ hi'
  | [], lo, hi => ⟨lo, hi, rfl, .inl rfl, .inl rfl, Int.le_refl _, Int.le_refl _, fun t h => by cases h⟩
  | x :: L, lo, hi => by
    obtain ⟨lo', hi', h1, h2, h3, h4, h5, h6⟩ := spanG_fold f L (if f x < lo then f x else lo) (if f x > hi then f x else hi)
    refine ⟨lo', hi', h1, ?_, ?_, ?_, ?_, ?_⟩
    · rcases h2 with h2 | ⟨t, ht, h⟩
      · split at h2
        · exact .inr ⟨x, List.mem_cons_self .., h2.symm⟩
        · exact .inl h2
      · exact .inr ⟨t, List.mem_cons_of_mem _ ht, h⟩
    · rcases h3 with h3 | ⟨t, ht, h⟩
      · split at h3
        · exact .inr ⟨x, List.mem_cons_self .., h3.symm⟩
        · exact .inl h3
      · exact .inr ⟨t, List.mem_cons_of_mem _ ht, h⟩
    · split at h4 <;> omega
    · split at h5 <;> omega
    · intro t ht
      rcases List.mem_cons.1 ht with rfl | ht
      · constructor
        · split at h4 <;> omega
        · split at h5 <;> omega
      · exact h6 t ht
theorem span_ex (q : Coal_book) (Q : Op q) (x : Coal_number) (f : Coal_truth → Int) (hx : ∀ t ∈ truths q, x.of_ t = some (f t)) : ∃ s, coal_book_span q x = some s ∧ SpanOf f (truths q) s := by
  unfold coal_book_span coal_book_truths
  rw [Option.bind_some, truths_eq q Q, foldY_all (coal_book_span_r1 x) (spanG f) _ (fun t ht z => by
    unfold coal_book_span_r1 spanG
    rw [hx t ht, Option.bind_some]
    obtain ⟨a, b, c⟩ := z
    cases c <;> simp)]
  generalize truths q = L
  refine ⟨_, rfl, ?_⟩
  cases L with
  | nil => exact ⟨fun _ => rfl, fun h => (h rfl).elim, fun h => (h rfl).elim, fun t h => (by cases h), fun t h => (by cases h)⟩
  | cons t L =>
    obtain ⟨lo, hi, h1, h2, h3, h4, h5, h6⟩ := spanG_fold f L (f t) (f t)
    have e : (t :: L).foldl (spanG f) (0, 0, true) = (lo, hi, false) := h1
    simp only [e, Option.map_some]
    refine ⟨fun h => (by cases h), fun _ => ?_, fun _ => ?_, ?_, ?_⟩
    · rcases h2 with h2 | ⟨u, hu, h⟩
      · exact ⟨t, List.mem_cons_self .., h2.symm⟩
      · exact ⟨u, List.mem_cons_of_mem _ hu, h⟩
    · rcases h3 with h3 | ⟨u, hu, h⟩
      · exact ⟨t, List.mem_cons_self .., h3.symm⟩
      · exact ⟨u, List.mem_cons_of_mem _ hu, h⟩
    · intro u hu
      rcases List.mem_cons.1 hu with rfl | hu
      · exact h4
      · exact (h6 u hu).1
    · intro u hu
      rcases List.mem_cons.1 hu with rfl | hu
      · exact h5
      · exact (h6 u hu).2
def coalAt (d : Nat) (t : Coal_truth) : Int := t.coal_.getD d 0
def lastB (d : Nat) (t : Coal_truth) : Bool := (List.range (d + 1)).all fun k => decide (0 ≤ coalAt k t)
theorem min_ex (l : List Int) (h : l ≠ []) (hl : l.length ≤ 1000) : ∃ m, sl_Min_int_int l = some m ∧ decide (m ≥ 0) = l.all fun x => decide (0 ≤ x) := by
  match l, h with
  | a :: l, _ =>
    unfold sl_Min_int_int
    rw [decide_eq_false (by simp; omega), cond_false, show getI (a :: l) 0 = some a from rfl, Option.bind_some]
    have key : ∀ (d k m : Nat) (z : Int), k + d = (a :: l).length → d < m → ∃ r, loopF (sl_Min_int_int_l1 (a :: l)) m (z, (k : Int)) = some r ∧ decide (r ≥ 0) = (decide (0 ≤ z) && ((a :: l).drop k).all fun x => decide (0 ≤ x)) := by
      intro d
      induction d with
      | zero =>
        intro k m z h1 h2
        obtain ⟨m, rfl⟩ : ∃ q, m = q + 1 := ⟨m - 1, by omega⟩
        refine ⟨z, ?_, by rw [List.drop_eq_nil_of_le (by omega)]; simp⟩
        show sl_Min_int_int_l1 (a :: l) _ _ = _
        unfold sl_Min_int_int_l1
        rw [decide_eq_false (by simp only; omega), cond_false]
      | succ d ih =>
        intro k m z h1 h2
        obtain ⟨m, rfl⟩ : ∃ q, m = q + 1 := ⟨m - 1, by omega⟩
        have hk : k < (a :: l).length := by omega
        show ∃ r, sl_Min_int_int_l1 (a :: l) (loopF (sl_Min_int_int_l1 (a :: l)) m) _ = some r ∧ _
        obtain ⟨r, hr, hr2⟩ := ih (k + 1) m (if (a :: l)[k] < z then (a :: l)[k] else z) (by omega) (by omega)
        generalize loopF (sl_Min_int_int_l1 (a :: l)) m = rec at hr
        refine ⟨r, ?_, ?_⟩
        · unfold sl_Min_int_int_l1
          rw [decide_eq_true (by simp only; omega), cond_true]
          simp only
          rw [getI_ix hk, Option.bind_some, wrI (by omega) (by omega), show (k : Int) + 1 = ((k + 1 : Nat) : Int) by omega]
          exact hr
        · rw [hr2, List.drop_eq_getElem_cons hk, List.all_cons, ← Bool.and_assoc]
          congr 1
          by_cases h3 : (a :: l)[k] < z
          · rw [if_pos h3]
            by_cases h4 : 0 ≤ (a :: l)[k]
            · rw [decide_eq_true h4, decide_eq_true (by omega)]; rfl
            · rw [decide_eq_false h4, Bool.and_false]
          · rw [if_neg h3]
            by_cases h4 : 0 ≤ z
            · rw [decide_eq_true h4, decide_eq_true (by omega)]; rfl
            · rw [decide_eq_false h4, Bool.false_and]
    obtain ⟨r, hr, hr2⟩ := key l.length 1 big a (by simp; omega) (by rw [big_eq]; simp only [List.length_cons] at hl; omega)
    exact ⟨r, hr, by rw [hr2]; rfl⟩
theorem lasts_eq (t : Coal_truth) (d : Nat) (hd : d < 6) : coal_truth_lasts t d = some (lastB d t) := by
  unfold coal_truth_lasts
  rw [wrI (by omega) (by omega)]
  have hlen : (sgl t.coal_ 6).length = 6 := by simp [sgl]
  have e : cutI (sgl t.coal_ 6) 0 ((d : Int) + 1) = some ((sgl t.coal_ 6).take (d + 1)) := by
    unfold cutI
    rw [decide_eq_true (by omega), decide_eq_true (by omega), decide_eq_true (by rw [hlen]; omega)]
    simp only [Bool.and_self, cond_true]
    rw [show ((d : Int) + 1).toNat = d + 1 by omega]; rfl
  rw [e, Option.bind_some]
  obtain ⟨m, hm, hm2⟩ := min_ex ((sgl t.coal_ 6).take (d + 1)) (fun h => by
    have := congrArg List.length h
    simp [hlen] at this) (by rw [List.length_take]; omega)
  rw [hm, Option.bind_some, hm2]
  congr 1
  unfold lastB coalAt sgl
  rw [← List.map_take, List.take_range, List.all_map, show min (d + 1) 6 = d + 1 by omega]
  rfl
end Go.Proofs.YticodohfokgjfaaDoor

set_option linter.unusedVariables false
set_option linter.unusedSimpArgs false
namespace Go.Proofs.YticodohfokgjfaaDoor
open Go Go.Fx
theorem stoked_eq : law_stoked = some true := by kernel_rfl
/-- a truth as it is built -/
structure Tru (q : Coal_book) (t : Coal_truth) : Prop where
  el : t.eats_.length = 2
  wl : t.winds_.length = 6
  cl : t.coal_.length = 6
  wi : ∀ k, k < q.CoalBook.Days.length → 0 ≤ t.winds_.getD k 0 ∧ t.winds_.getD k 0 ≤ 2
  co : ∀ k, k < q.CoalBook.Days.length → -100000 ≤ coalAt k t ∧ coalAt k t ≤ 100000
theorem getD_aset {l : List Int} {n k : Nat} {i x : Int} (hk : k < n) : (aset l n i x).getD k 0 = if k = i.toNat then x else l.getD k 0 := by
  simp [aset, List.getD_eq_getElem?_getD, hk]
theorem blown_step {q : Coal_book} {r : Nat} {t u : Coal_truth} {d c : Int} (h : u ∈ blown q (r + 1) t d c) : ∃ (w : Nat) (cost : Int), w < 3 ∧ lookL q.costs_ (Coal_gust.mk d (w : Int)) = some cost ∧ rightB q d ((bif t.collier_ == d then c + q.CoalBook.Brings else c) - eng q d t.eats_ - cost) = true ∧
    u ∈ blown q r (Coal_truth.mk t.eats_ t.collier_ (aset t.winds_ 6 d (w : Int)) (aset t.coal_ 6 d ((bif t.collier_ == d then c + q.CoalBook.Brings else c) - eng q d t.eats_ - cost))) (d + 1) ((bif t.collier_ == d then c + q.CoalBook.Brings else c) - eng q d t.eats_ - cost) := by
  rw [blown] at h
  obtain ⟨w, hw, h⟩ := List.mem_flatMap.1 h
  cases hl : lookL q.costs_ (Coal_gust.mk d (w : Int)) with
  | none => rw [hl] at h; cases h
  | some cost =>
    rw [hl] at h
    have h : u ∈ (bif rightB q d ((bif t.collier_ == d then c + q.CoalBook.Brings else c) - eng q d t.eats_ - cost) then _ else []) := h
    refine ⟨w, cost, by have := List.mem_range'_1.1 hw; omega, hl, ?_, ?_⟩
    · cases hr : rightB q d ((bif t.collier_ == d then c + q.CoalBook.Brings else c) - eng q d t.eats_ - cost) with
      | true => rfl
      | false => rw [hr] at h; cases h
    · cases hr : rightB q d ((bif t.collier_ == d then c + q.CoalBook.Brings else c) - eng q d t.eats_ - cost) with
      | true => rw [hr] at h; exact h
      | false => rw [hr] at h; cases h
theorem blown_tru (q : Coal_book) (Q : Op q) : ∀ (r : Nat) (t : Coal_truth) (d : Nat) (c : Int) (u : Coal_truth), d + r = q.CoalBook.Days.length → -(1000 * ((d : Int) + 1)) ≤ c → c ≤ 1000 * ((d : Int) + 1) → t.eats_.length = 2 → (∀ x ∈ t.eats_, 0 ≤ x ∧ x ≤ 9) → t.winds_.length = 6 → t.coal_.length = 6 →
    (∀ k, k < d → 0 ≤ t.winds_.getD k 0 ∧ t.winds_.getD k 0 ≤ 2) → (∀ k, k < d → -100000 ≤ coalAt k t ∧ coalAt k t ≤ 100000) → u ∈ blown q r t d c → Tru q u ∧ u.eats_ = t.eats_ ∧ u.collier_ = t.collier_ := by
  have hdn := Q.dn; have hbr := Q.br
  intro r
  induction r with
  | zero =>
    intro t d c u h1 h2 h3 h4 h5 h6 h7 h8 h9 hu
    obtain rfl := List.mem_singleton.1 hu
    exact ⟨⟨h4, h6, h7, fun k hk => h8 k (by omega), fun k hk => h9 k (by omega)⟩, rfl, rfl⟩
  | succ r ih =>
    intro t d c u h1 h2 h3 h4 h5 h6 h7 h8 h9 hu
    obtain ⟨w, cost, hw, hl, hr, hu⟩ := blown_step hu
    obtain ⟨_, e2, e3⟩ := engines_eq q Q d (by omega) t.eats_ h4 h5
    obtain ⟨p, hp, rfl⟩ := look_mem hl
    obtain ⟨p1, p2⟩ := Q.cs p hp
    have hz : -(1000 * ((d : Int) + 1)) ≤ (bif t.collier_ == (d : Int) then c + q.CoalBook.Brings else c) ∧ (bif t.collier_ == (d : Int) then c + q.CoalBook.Brings else c) ≤ 1000 * ((d : Int) + 1) + 400 := by
      cases (t.collier_ == (d : Int)) <;> simp only [cond_true, cond_false] <;> omega
    generalize (bif t.collier_ == (d : Int) then c + q.CoalBook.Brings else c) = z at hz hu hr
    have := ih (Coal_truth.mk t.eats_ t.collier_ (aset t.winds_ 6 d (w : Int)) (aset t.coal_ 6 d (z - eng q d t.eats_ - p.2))) (d + 1) (z - eng q d t.eats_ - p.2) u (by omega) (by omega) (by omega) h4 h5 (by simp [aset_len]) (by simp [aset_len])
      (fun k hk => by
        simp only
        rw [getD_aset (by omega)]
        split
        · omega
        · exact h8 k (by simp at *; omega))
      (fun k hk => by
        unfold coalAt
        simp only
        rw [getD_aset (by omega)]
        split
        · omega
        · exact h9 k (by simp at *; omega)) hu
    exact this
theorem truths_tru {q : Coal_book} (Q : Op q) {t : Coal_truth} (h : t ∈ truths q) : Tru q t ∧ (∀ x ∈ t.eats_, 0 ≤ x ∧ x ≤ 9) ∧ t.collier_ ∈ rng q.CoalBook.Collier := by
  obtain ⟨hp, h1, o, h2, p, h3, c, h4, h⟩ := truth_mem.1 h
  have g1 := rng_mem.1 h1; have g2 := rng_mem.1 h2; have g3 := rng_mem.1 h3
  have := Q.hp.l0; have := Q.hp.hi
  have he0 := Q.ea _ (agetS_mem (i := 0) (by rw [Q.el]; decide))
  have he1 := Q.ea _ (agetS_mem (i := 1) (by rw [Q.el]; decide))
  have m0 := he0.1.l0; have m1 := he0.2; have m2 := he1.1.l0; have m3 := he1.2
  have hb : ∀ x ∈ (init o p c).eats_, 0 ≤ x ∧ x ≤ 9 := fun x hx => by
    simp [init] at hx
    rcases hx with rfl | rfl <;> omega
  obtain ⟨T, e1, e2⟩ := blown_tru q Q q.CoalBook.Days.length (init o p c) 0 hp t (by omega) (by simp only [Int.natCast_zero]; omega) (by simp only [Int.natCast_zero]; omega) rfl hb rfl rfl (fun k hk => by omega) (fun k hk => by omega) h
  refine ⟨T, by rw [e1]; exact hb, by rw [e2]; exact h4⟩
abbrev TT (b : CoalBook) : List Coal_truth := truths (opn b [])
theorem asked_eq {b : CoalBook} (V : Val b) (A : Arg b) : coal_asked b true = some (opn b [], bif (TT b).isEmpty then 62 else 0) := by
  unfold coal_asked
  rw [check_eq b A, val_iff.2 V, Option.bind_some, opened_eq V A [] (by simp), Option.bind_some]
  rw [show (Coal_book.mk (CoalBook.mk (opn b []).CoalBook.Heap (opn b []).CoalBook.Eats (opn b []).CoalBook.Extra b.Days (opn b []).CoalBook.Collier (opn b []).CoalBook.Brings (opn b []).CoalBook.Dips) (opn b []).costs_) = opn b [] from rfl]
  rw [isTrue_eq _ (opn_op V A []), Option.bind_some]
  cases (TT b).isEmpty <;> rfl
theorem right_law {b : CoalBook} (V : Val b) (A : Arg b) : coal_Right b = some (!(TT b).isEmpty, 0) := by
  unfold coal_Right
  rw [check_eq b A, val_iff.2 V, Option.bind_some, opened_eq V A [] (by simp), Option.bind_some]
  rw [show (Coal_book.mk (CoalBook.mk (opn b []).CoalBook.Heap (opn b []).CoalBook.Eats (opn b []).CoalBook.Extra b.Days (opn b []).CoalBook.Collier (opn b []).CoalBook.Brings (opn b []).CoalBook.Dips) (opn b []).costs_) = opn b [] from rfl]
  rw [isTrue_eq _ (opn_op V A []), Option.bind_some]
  rfl
theorem dayIn {b : CoalBook} {d : Nat} (hd : d < b.Days.length) : inB (d : Int) 0 ((b.Days.length : Int) - 1) = true := inB_iff.2 (by omega)
theorem coal_of {q : Coal_book} (Q : Op q) {d : Nat} (hd : d < q.CoalBook.Days.length) : ∃ s, coal_book_span q (Coal_number.mk fun y => coal_coal_1 y (d : Int)) = some s ∧ SpanOf (coalAt d) (truths q) s :=
  span_ex q Q _ (coalAt d) fun t ht => by
    have := Q.dn
    show coal_coal_1 t (d : Int) = _
    unfold coal_coal_1
    rw [need_of (by simp [inI]; omega)]
    rfl
theorem heap_law {b : CoalBook} (V : Val b) (A : Arg b) {d : Nat} (hd : d < b.Days.length) : ∃ s, coal_Heap b d = some (s, bif (TT b).isEmpty then 62 else 0) ∧ SpanOf (coalAt d) (TT b) s := by
  obtain ⟨s, hs, S⟩ := coal_of (opn_op V A []) (d := d) hd
  refine ⟨s, ?_, S⟩
  unfold coal_Heap coal_coal
  rw [isDay_eq b A, Option.bind_some, dayIn hd, asked_eq V A, Option.bind_some]
  cases h : (TT b).isEmpty with
  | true =>
    have := S.nil (List.isEmpty_iff.1 h)
    subst this
    rfl
  | false =>
    simp only [cond_false, bne_self_eq_false, Option.bind_some, hs]
def kind (L : List Coal_truth) (d : Nat) : Int := (bif L.any (lastB d) then 1 else 0) + (bif L.all (lastB d) then 1 else 0)
theorem some_eq {q : Coal_book} (Q : Op q) {d : Nat} (hd : d < 6) : coal_book_some q d = some ((truths q).any (lastB d)) := by
  unfold coal_book_some coal_book_truths
  rw [Option.bind_some, truths_eq q Q, foldY_find (coal_book_some_r1 (d : Int)) (lastB d) false true _ (fun t ht => by
    unfold coal_book_some_r1
    rw [lasts_eq t d hd, Option.bind_some]
    cases lastB d t <;> rfl)]
  cases (truths q).any (lastB d) <;> rfl
theorem each_eq {q : Coal_book} (Q : Op q) {d : Nat} (hd : d < 6) : coal_book_each q d = some ((truths q).all (lastB d)) := by
  unfold coal_book_each coal_book_truths
  rw [Option.bind_some, truths_eq q Q, foldY_find (coal_book_each_r1 (d : Int)) (fun t => !lastB d t) () () _ (fun t ht => by
    unfold coal_book_each_r1
    rw [lasts_eq t d hd, Option.bind_some]
    cases lastB d t <;> rfl), List.all_eq_not_any_not]
  cases (truths q).any fun t => !lastB d t <;> rfl
theorem lasts_law {b : CoalBook} (V : Val b) (A : Arg b) {d : Nat} (hd : d < b.Days.length) : coal_Lasts b d = some (bif (TT b).isEmpty then (0, 62) else (kind (TT b) d, 0)) := by
  unfold coal_Lasts
  have hdn := V.dn
  rw [isDay_eq b A, Option.bind_some, dayIn hd, asked_eq V A, Option.bind_some]
  cases h : (TT b).isEmpty with
  | true => rfl
  | false =>
    simp only [cond_false, bne_self_eq_false]
    refine loop_fold0 (fun k => ((bif decide (1 ≤ k) && (TT b).any (lastB d) then 1 else 0) + (bif decide (2 ≤ k) && (TT b).all (lastB d) then 1 else 0), (k : Int))) 2 (fun rec k hk => ?_) (fun rec => ?_) (by rw [big_eq]; omega) rfl
    · unfold coal_Lasts_l1
      match k, hk with
      | 0, _ =>
        simp only [show decide (((0 : Nat) : Int) < 2) = true by decide, cond_true, show inI ((0 : Nat) : Int) 2 = true by decide, need_true, show (((0 : Nat) : Int) == 0) = true by decide, some_eq (opn_op V A []) (show d < 6 by omega), Option.bind_some]
        cases (TT b).any (lastB d) <;> rfl
      | 1, _ =>
        simp only [show decide (((1 : Nat) : Int) < 2) = true by decide, cond_true, show inI ((1 : Nat) : Int) 2 = true by decide, need_true, show (((1 : Nat) : Int) == 0) = false by decide, cond_false, each_eq (opn_op V A []) (show d < 6 by omega), Option.bind_some]
        cases (TT b).any (lastB d) <;> cases (TT b).all (lastB d) <;> rfl
    · unfold coal_Lasts_l1
      simp only [show decide (((2 : Nat) : Int) < 2) = false by decide, cond_false, show decide (1 ≤ 2) = true by decide, show decide (2 ≤ 2) = true by decide, Bool.true_and]
      rfl
theorem day_law {b : CoalBook} (V : Val b) (A : Arg b) : ∃ r, coal_Day b = some r ∧ (TT b = [] → r = (0, 62)) ∧ (TT b ≠ [] → (∃ d : Nat, d < b.Days.length ∧ r = ((d : Int), 0) ∧ (∃ t ∈ TT b, coalAt d t < 0) ∧ ∀ k, k < d → ∀ t ∈ TT b, 0 ≤ coalAt k t) ∨ (r = (0, 4) ∧ ∀ k, k < b.Days.length → ∀ t ∈ TT b, 0 ≤ coalAt k t)) := by
  unfold coal_Day
  have hdn := V.dn
  rw [asked_eq V A, Option.bind_some]
  cases h : (TT b).isEmpty with
  | true => exact ⟨_, rfl, fun _ => rfl, fun h2 => (h2 (List.isEmpty_iff.1 h)).elim⟩
  | false =>
    have hne : TT b ≠ [] := fun h2 => by rw [h2] at h; cases h
    simp only [cond_false, bne_self_eq_false]
    have key : ∀ (e k m : Nat), k + e = b.Days.length → e < m → (∀ j, j < k → ∀ t ∈ TT b, 0 ≤ coalAt j t) → ∃ r, loopF (coal_Day_l1 b (opn b [], 0)) m (k : Int) = some r ∧ ((∃ d : Nat, d < b.Days.length ∧ r = ((d : Int), 0) ∧ (∃ t ∈ TT b, coalAt d t < 0) ∧ ∀ k, k < d → ∀ t ∈ TT b, 0 ≤ coalAt k t) ∨ (r = (0, 4) ∧ ∀ k, k < b.Days.length → ∀ t ∈ TT b, 0 ≤ coalAt k t)) := by
      intro e
      induction e with
      | zero =>
        intro k m h1 h2 h3
        obtain ⟨m, rfl⟩ : ∃ q, m = q + 1 := ⟨m - 1, by omega⟩
        refine ⟨(0, 4), ?_, .inr ⟨rfl, fun j hj => h3 j (by omega)⟩⟩
        show coal_Day_l1 b (opn b [], 0) _ (k : Int) = _
        unfold coal_Day_l1
        rw [decide_eq_false (by omega), cond_false]
      | succ e ih =>
        intro k m h1 h2 h3
        obtain ⟨m, rfl⟩ : ∃ q, m = q + 1 := ⟨m - 1, by omega⟩
        have ih2 := ih (k + 1) m (by omega) (by omega)
        show ∃ r, coal_Day_l1 b (opn b [], 0) (loopF (coal_Day_l1 b (opn b [], 0)) m) (k : Int) = some r ∧ _
        generalize loopF (coal_Day_l1 b (opn b [], 0)) m = rec at ih2
        obtain ⟨s, hs, S⟩ := coal_of (opn_op V A []) (d := k) (show k < b.Days.length by omega)
        unfold coal_Day_l1 coal_coal
        rw [decide_eq_true (by omega), cond_true]
        simp only [Option.bind_some, hs]
        by_cases hl : s.Low < 0
        · refine ⟨((k : Int), 0), by rw [decide_eq_true hl, cond_true], .inl ⟨k, by omega, rfl, ?_, h3⟩⟩
          obtain ⟨t, ht, e⟩ := S.low hne
          exact ⟨t, ht, by omega⟩
        · rw [decide_eq_false hl, cond_false, wrI (by omega) (by omega), show (k : Int) + 1 = ((k + 1 : Nat) : Int) by omega]
          refine ih2 fun j hj t ht => ?_
          by_cases hj2 : j = k
          · subst hj2; have := S.le t ht; omega
          · exact h3 j (by omega) t ht
    obtain ⟨r, hr, hr2⟩ := key b.Days.length 0 big (by omega) (by rw [big_eq]; omega) (fun j hj => by omega)
    exact ⟨r, hr, fun h2 => (hne h2).elim, fun _ => hr2⟩
theorem modN (a : Int) {n : Nat} (h : 0 < n) (h2 : n ≤ 1000) : ∃ r : Nat, B_Mod a n = some (r : Int) ∧ r < n := by
  obtain ⟨r, h1, h3, h4⟩ := mod_ok a n (by omega) (by omega)
  exact ⟨r.toNat, by rw [h1, Int.toNat_of_nonneg h3], by omega⟩
end Go.Proofs.YticodohfokgjfaaDoor

set_option linter.unusedVariables false
set_option linter.unusedSimpArgs false
namespace Go.Proofs.YticodohfokgjfaaDoor
open Go Go.Fx
theorem contains_eq (s : Span) (n : Int) : B_Contains s n = some (inB n s.Low s.High) := by
  unfold B_Contains
  rw [inside_eq]; rfl
theorem order_nil {b : CoalBook} (V : Val b) (A : Arg b) (h : TT b = []) : coal_Order b = some (0, 62) := by
  unfold coal_Order
  rw [asked_eq V A, Option.bind_some, h]
  rfl
end Go.Proofs.YticodohfokgjfaaDoor

set_option linter.unusedVariables false
set_option linter.unusedSimpArgs false
namespace Go.Proofs.YticodohfokgjfaaDoor
open Go Go.Fx
structure OrderOf (len : Nat) (L : List Coal_truth) (n : Int) : Prop where
  n0 : 0 ≤ n
  hi : n ≤ 100000
  ge : ∀ k, k < len → ∀ t ∈ L, -coalAt k t ≤ n
  is : n = 0 ∨ ∃ k, k < len ∧ ∃ t ∈ L, n = -coalAt k t
theorem order_law {b : CoalBook} (V : Val b) (A : Arg b) : ∃ n, coal_Order b = some (bif (TT b).isEmpty then (0, 62) else (n, 0)) ∧ (TT b ≠ [] → OrderOf b.Days.length (TT b) n) := by
  cases h : (TT b).isEmpty with
  | true => exact ⟨0, order_nil V A (List.isEmpty_iff.1 h), fun h2 => (h2 (List.isEmpty_iff.1 h)).elim⟩
  | false =>
    have hne : TT b ≠ [] := fun h2 => by rw [h2] at h; cases h
    have hdn := V.dn
    have Q := opn_op V A []
    unfold coal_Order
    rw [asked_eq V A, Option.bind_some, h]
    simp only [cond_false, bne_self_eq_false]
    have key : ∀ (e k m : Nat) (z : Int), k + e = b.Days.length → e < m → OrderOf k (TT b) z → ∃ n, loopF (coal_Order_l1 b (opn b [], 0)) m (z, (k : Int)) = some (n, 0) ∧ OrderOf b.Days.length (TT b) n := by
      intro e
      induction e with
      | zero =>
        intro k m z h1 h2 h3
        obtain ⟨m, rfl⟩ : ∃ q, m = q + 1 := ⟨m - 1, by omega⟩
        refine ⟨z, ?_, by rw [← h1, Nat.add_zero]; exact h3⟩
        show coal_Order_l1 b (opn b [], 0) _ _ = _
        unfold coal_Order_l1
        simp only
        rw [decide_eq_false (by omega), cond_false]
      | succ e ih =>
        intro k m z h1 h2 h3
        obtain ⟨m, rfl⟩ : ∃ q, m = q + 1 := ⟨m - 1, by omega⟩
        show ∃ n, coal_Order_l1 b (opn b [], 0) (loopF (coal_Order_l1 b (opn b [], 0)) m) _ = some (n, 0) ∧ _
        obtain ⟨s, hs, S⟩ := coal_of Q (d := k) (show k < b.Days.length by omega)
        obtain ⟨u, hu, eu⟩ := S.low hne
        have bu := (truths_tru Q hu).1.co k (show k < b.Days.length by omega)
        obtain ⟨n, hn, hn2⟩ := ih (k + 1) m (if -s.Low > z then -s.Low else z) (by omega) (by omega) ⟨by split <;> have := h3.n0 <;> omega, by split <;> have := h3.hi <;> omega, fun j hj t ht => by
          by_cases hjk : j = k
          · subst hjk; have := S.le t ht; split <;> omega
          · have := h3.ge j (by omega) t ht; split <;> omega, by
          split
          · exact .inr ⟨k, by omega, u, hu, by omega⟩
          · rcases h3.is with h | ⟨j, hj, t, ht, h⟩
            · exact .inl h
            · exact .inr ⟨j, by omega, t, ht, h⟩⟩
        refine ⟨n, ?_, hn2⟩
        generalize loopF (coal_Order_l1 b (opn b [], 0)) m = rec at hn
        unfold coal_Order_l1 coal_coal
        simp only
        rw [decide_eq_true (by omega), cond_true, Option.bind_some, hs, Option.bind_some, wrI (x := -s.Low) (by omega) (by omega), wrI (by omega) (by omega), show (k : Int) + 1 = ((k + 1 : Nat) : Int) by omega]
        exact hn
    obtain ⟨n, hn, hn2⟩ := key b.Days.length 0 big 0 (by omega) (by rw [big_eq]; omega) ⟨Int.le_refl _, by omega, fun k hk => by omega, .inl rfl⟩
    exact ⟨n, hn, fun _ => hn2⟩
def eatAt (e : Nat) (t : Coal_truth) : Int := t.eats_.getD e 0
theorem eats_law {b : CoalBook} (V : Val b) (A : Arg b) {e : Nat} (he : e < 2) : ∃ s, coal_Eats b e = some (s, bif (TT b).isEmpty then 62 else 0) ∧ SpanOf (eatAt e) (TT b) s := by
  obtain ⟨s, hs, S⟩ := span_ex _ (opn_op V A []) (Coal_number.mk fun y => coal_eaten_1 y (e : Int)) (eatAt e) (fun t ht => by
    show coal_eaten_1 t (e : Int) = _
    unfold coal_eaten_1
    rw [need_of (by simp [inI]; omega)]
    rfl)
  refine ⟨s, ?_, S⟩
  unfold coal_Eats coal_eaten
  rw [within_eq, Option.bind_some, inB_iff.2 (show 0 ≤ (e : Int) ∧ (e : Int) ≤ 1 by omega), asked_eq V A, Option.bind_some]
  cases h : (TT b).isEmpty with
  | true =>
    have := S.nil (List.isEmpty_iff.1 h)
    subst this
    rfl
  | false =>
    simp only [cond_false, bne_self_eq_false, Option.bind_some, hs]
def windAt (d : Nat) (t : Coal_truth) : Nat := (t.winds_.getD d 0).toNat
def windSet (d : Nat) (L : List Coal_truth) : Nat := L.foldl (fun s t => s ||| 2 ^ windAt d t) 0
theorem or_small : ∀ (s : Fin 8) (w : Fin 3), orI (s.val : Int) (shlI 1 (w.val : Int)) = ((s.val ||| 2 ^ w.val : Nat) : Int) ∧ (s.val ||| 2 ^ w.val) < 8 := by decide +kernel
theorem windSet_lt {q : Coal_book} {d : Nat} : ∀ (L : List Coal_truth) (s : Nat), s < 8 → (∀ t ∈ L, windAt d t < 3) → L.foldl (fun s t => s ||| 2 ^ windAt d t) s < 8
  | [], s, hs, _ => hs
  | t :: L, s, hs, h => windSet_lt (q := q) L _ (or_small ⟨s, hs⟩ ⟨windAt d t, h t (List.mem_cons_self ..)⟩).2 fun t ht => h t (List.mem_cons_of_mem _ ht)
theorem foldY_wind (d : Nat) (hd : d < 6) : ∀ (L : List Coal_truth) (s : Nat), s < 8 → (∀ t ∈ L, 0 ≤ t.winds_.getD d 0 ∧ t.winds_.getD d 0 ≤ 2) → foldY (yvOf (coal_Wind_r1 (d : Int))) L (0, (s : Int)) = some (true, 0, ((L.foldl (fun s t => s ||| 2 ^ windAt d t) s : Nat) : Int))
  | [], s, hs, _ => rfl
  | t :: L, s, hs, h => by
    have ht := h t (List.mem_cons_self ..)
    have hw : ((windAt d t : Nat) : Int) = t.winds_.getD d 0 := by unfold windAt; omega
    have := or_small ⟨s, hs⟩ ⟨windAt d t, by omega⟩
    show (coal_Wind_r1 (d : Int) t (s : Int)).bind (fun r => bif r.1 then foldY (yvOf (coal_Wind_r1 (d : Int))) L r.2 else some (false, r.2)) = _
    have e : coal_Wind_r1 (d : Int) t (s : Int) = some (true, 0, ((s ||| 2 ^ windAt d t : Nat) : Int)) := by
      unfold coal_Wind_r1
      have e2 : aget t.winds_ (d : Int) = ((windAt d t : Nat) : Int) := by rw [hw]; rfl
      rw [need_of (by simp [inI]; omega), e2, need_of (by simp), this.1]
    rw [e, Option.bind_some]
    exact foldY_wind d hd L _ this.2 fun t ht => h t (List.mem_cons_of_mem _ ht)
theorem wind_law {b : CoalBook} (V : Val b) (A : Arg b) {d : Nat} (hd : d < b.Days.length) : coal_Wind b d = some (bif (TT b).isEmpty then (0, 62) else ((windSet d (TT b) : Int), 0)) := by
  have hdn := V.dn
  unfold coal_Wind coal_book_truths
  rw [isDay_eq b A, Option.bind_some, dayIn hd, asked_eq V A, Option.bind_some]
  cases h : (TT b).isEmpty with
  | true => rfl
  | false =>
    simp only [cond_false, bne_self_eq_false, Option.bind_some]
    rw [truths_eq _ (opn_op V A []), show ((0 : Nat), (0 : Int)) = ((0 : Nat), ((0 : Nat) : Int)) from rfl, foldY_wind d (by omega) _ 0 (by omega) (fun t ht => (truths_tru (opn_op V A []) ht).1.wi d hd)]
    rfl
theorem windSet_bit {d : Nat} : ∀ (L : List Coal_truth) (s k : Nat), (L.foldl (fun s t => s ||| 2 ^ windAt d t) s).testBit k = true ↔ s.testBit k = true ∨ ∃ t ∈ L, windAt d t = k
  | [], s, k => by simp
  | t :: L, s, k => by
    rw [List.foldl_cons, windSet_bit L, Nat.testBit_or, Nat.testBit_two_pow, Bool.or_eq_true, decide_eq_true_eq]
    simp only [List.mem_cons, exists_eq_or_imp, or_assoc]
/-! a heap that is higher -/
def shT (n : Int) (m : Nat) (t : Coal_truth) : Coal_truth := Coal_truth.mk t.eats_ t.collier_ t.winds_ ((List.range 6).map fun k => if k < m then t.coal_.getD k 0 + n else t.coal_.getD k 0)
end Go.Proofs.YticodohfokgjfaaDoor

set_option linter.unusedVariables false
set_option linter.unusedSimpArgs false
namespace Go.Proofs.YticodohfokgjfaaDoor
open Go Go.Fx
def Clm (l : List Int) (n : Int) : Prop := ∀ (k : Nat) (x : Int), l[k]? = some x → 0 ≤ x ∧ x < n ∧ ∀ y, 0 < k → l[k - 1]? = some y → y < x
theorem Clm.nil {n : Int} : Clm [] n := fun k x h => by simp at h
theorem Clm.snoc {l : List Int} {n v : Int} (h : Clm l n) (h0 : 0 ≤ v) (h1 : v < n) (h2 : ∀ y, l.getLast? = some y → y < v) : Clm (l ++ [v]) n := by
  intro k x hx
  by_cases hk : k < l.length
  · rw [List.getElem?_append_left hk] at hx
    obtain ⟨a1, a2, a3⟩ := h k x hx
    refine ⟨a1, a2, fun y h0 hy => a3 y h0 ?_⟩
    rwa [List.getElem?_append_left (by omega)] at hy
  · rw [List.getElem?_append_right (by omega), List.getElem?_singleton] at hx
    split at hx
    · cases hx
      refine ⟨h0, h1, fun y hk0 hy => h2 y ?_⟩
      rw [List.getElem?_append_left (by omega)] at hy
      rw [List.getLast?_eq_getElem?, ← hy]
      congr 1; omega
    · cases hx
theorem Clm.lt {l : List Int} {n : Int} (h : Clm l n) : ∀ (d i : Nat) (x y : Int), l[i]? = some x → l[i + d + 1]? = some y → x < y := by
  intro d
  induction d with
  | zero => intro i x y hx hy; exact (h (i + 1) y hy).2.2 x (by omega) (by simpa using hx)
  | succ d ih =>
    intro i x y hx hy
    have hlt : i + d + 1 < l.length := by have := (List.getElem?_eq_some_iff.1 hy).1; omega
    have h1 := ih i x _ hx (List.getElem?_eq_getElem hlt)
    have h2 := (h (i + (d + 1) + 1) y hy).2.2 _ (by omega) (by rw [show i + (d + 1) + 1 - 1 = i + d + 1 by omega]; exact List.getElem?_eq_getElem hlt)
    omega
theorem Clm.len {l : List Int} {n : Int} (h : Clm l n) (h0 : 0 ≤ n) : (l.length : Int) ≤ n := by
  have : ∀ (k : Nat) (x : Int), l[k]? = some x → (k : Int) ≤ x := by
    intro k
    induction k with
    | zero => intro x hx; have := (h 0 x hx).1; omega
    | succ k ih =>
      intro x hx
      have hlt : k < l.length := by have := (List.getElem?_eq_some_iff.1 hx).1; omega
      have h1 := ih _ (List.getElem?_eq_getElem hlt)
      have h2 := h.lt 0 k _ x (List.getElem?_eq_getElem hlt) hx
      omega
  by_cases hl : l.length = 0
  · omega
  · have hlt : l.length - 1 < l.length := by omega
    have h1 := this _ _ (List.getElem?_eq_getElem hlt)
    have h2 := (h _ _ (List.getElem?_eq_getElem hlt)).2.1
    omega
/-- a book without some measures can be true -/
def CanO (b : CoalBook) (l : List Int) : Prop := truths (opn b l) ≠ []
theorem can_o {b : CoalBook} (V : Val b) (A : Arg b) {l : List Int} (hl : l.length ≤ 1000) : ∃ r, (coal_opened b l).bind (fun r16 => (coal_book_isTrue (Coal_book.mk (CoalBook.mk r16.CoalBook.Heap r16.CoalBook.Eats r16.CoalBook.Extra b.Days r16.CoalBook.Collier r16.CoalBook.Brings r16.CoalBook.Dips) r16.costs_)).bind fun r28 => some (l, r28)) = some (l, r) ∧ (r = true ↔ CanO b l) := by
  refine ⟨!(truths (opn b l)).isEmpty, ?_, ?_⟩
  · rw [opened_eq V A l hl, Option.bind_some]
    rw [show (Coal_book.mk (CoalBook.mk (opn b l).CoalBook.Heap (opn b l).CoalBook.Eats (opn b l).CoalBook.Extra b.Days (opn b l).CoalBook.Collier (opn b l).CoalBook.Brings (opn b l).CoalBook.Dips) (opn b l).costs_) = opn b l from rfl]
    rw [isTrue_eq _ (opn_op V A l), Option.bind_some]
  · unfold CanO
    cases truths (opn b l) <;> simp
/-- a list of places below n that climbs, so long, and begins so -/
structure Ext (n : Nat) (l : List Int) (many : Nat) (o : List Int) : Prop where
  len : o.length = many
  clm : Clm o n
  pre : ∀ (i : Nat) (x : Int), l[i]? = some x → o[i]? = some x
def LexLt (o w : List Int) : Prop := ∃ (i : Nat) (x y : Int), o[i]? = some x ∧ w[i]? = some y ∧ x < y ∧ ∀ j, j < i → o[j]? = w[j]?
def TryOk (b : CoalBook) (l : List Int) (many : Nat) (r : List Int × Bool) : Prop :=
  (r.2 = true ∧ Ext b.Dips.length l many r.1 ∧ CanO b r.1 ∧ ∀ o, Ext b.Dips.length l many o → CanO b o → ¬ LexLt o r.1) ∨
  (r.2 = false ∧ ∀ o, Ext b.Dips.length l many o → ¬ CanO b o)
theorem Ext.more {n many : Nat} {l o : List Int} {x : Int} (h : Ext n l many o) (hx : o[l.length]? = some x) : Ext n (l ++ [x]) many o := by
  refine ⟨h.len, h.clm, fun i y hy => ?_⟩
  by_cases hi : i < l.length
  · rw [List.getElem?_append_left hi] at hy; exact h.pre i y hy
  · rw [List.getElem?_append_right (by omega), List.getElem?_singleton] at hy
    split at hy
    · cases hy; rw [show i = l.length by omega]; exact hx
    · cases hy
theorem Ext.less {n many : Nat} {l o : List Int} {x : Int} (h : Ext n (l ++ [x]) many o) : Ext n l many o ∧ o[l.length]? = some x := by
  refine ⟨⟨h.len, h.clm, fun i y hy => h.pre i y ?_⟩, h.pre _ _ (by simp)⟩
  rw [List.getElem?_append_left (List.getElem?_eq_some_iff.1 hy).1]; exact hy
theorem try_loop {b : CoalBook} (V : Val b) {l : List Int} {many : Nat} (hm : many ≤ b.Dips.length) (hl : l.length < many) (hc : Clm l b.Dips.length) {rec_ : List Int → Int → Option (List Int × Bool)}
    (hrec : ∀ v : Int, Clm (l ++ [v]) b.Dips.length → ∃ r, rec_ (l ++ [v]) many = some r ∧ TryOk b (l ++ [v]) many r) {s : Int} (s0 : 0 ≤ s) (sn : s ≤ b.Dips.length) (s1 : ∀ y, l.getLast? = some y → y < s)
    (s2 : ∀ o, Ext b.Dips.length l many o → ∀ x, o[l.length]? = some x → s ≤ x) : ∃ r, coal_Wrong_1_j4 b l rec_ many s = some r ∧ TryOk b l many r := by
  have l8 := V.pn
  unfold coal_Wrong_1_j4
  have at_ : ∀ o, Ext b.Dips.length l many o → ∃ x, o[l.length]? = some x := fun o ho => ⟨_, List.getElem?_eq_getElem (by rw [ho.len]; exact hl)⟩
  refine loopF_inv (body := coal_Wrong_1_l3 b l rec_ many) (fun z : Int => s ≤ z ∧ z ≤ b.Dips.length ∧ ∀ o, Ext b.Dips.length l many o → CanO b o → ∀ x, o[l.length]? = some x → z ≤ x) (fun z => b.Dips.length - z.toNat) (fun r => TryOk b l many r) ?_ big s ⟨Int.le_refl _, sn, fun o ho _ => s2 o ho⟩ (by unfold big; simp; omega)
  rintro rec z ⟨h1, h2, h3⟩ ih
  unfold coal_Wrong_1_l3
  by_cases hz : z < b.Dips.length
  case neg =>
    rw [decide_eq_false hz, cond_false]
    refine ⟨_, rfl, .inr ⟨rfl, fun o ho hco => ?_⟩⟩
    obtain ⟨x, hx⟩ := at_ o ho
    have := h3 o ho hco x hx
    have := (ho.clm _ x hx).2.1
    omega
  rw [decide_eq_true hz, cond_true, need_of (by simp [fitsL]; omega)]
  have hC : Clm (l ++ [z]) b.Dips.length := hc.snoc (by omega) hz (fun y hy => by have := s1 y hy; omega)
  obtain ⟨⟨out, c⟩, hr, hT⟩ := hrec z hC
  rw [hr, Option.bind_some]
  simp only
  rcases hT with ⟨e, hE, hO, hmin⟩ | ⟨e, hno⟩
  · simp only at e; subst e
    rw [cond_true]
    refine ⟨_, rfl, .inl ⟨rfl, hE.less.1, hO, fun o ho hco => ?_⟩⟩
    obtain ⟨x, hx⟩ := at_ o ho
    have hzx := h3 o ho hco x hx
    by_cases hxz : x = z
    · subst hxz; exact hmin o (ho.more hx) hco
    · rintro ⟨i, x', y', g1, g2, g3, g4⟩
      simp only at g2 g4
      have hoz := hE.less.2
      simp only at hoz
      by_cases hi : i < l.length
      · have hli := List.getElem?_eq_getElem hi
        have a1 := ho.pre i _ hli
        have a2 := hE.less.1.pre i _ hli
        simp only at a2
        rw [g1] at a1; rw [g2] at a2
        have := Option.some.inj a1; have := Option.some.inj a2
        omega
      · by_cases hil : i = l.length
        · subst hil
          rw [hx] at g1; rw [hoz] at g2
          have := Option.some.inj g1; have := Option.some.inj g2
          omega
        · have := g4 l.length (by omega)
          rw [hx, hoz] at this
          exact hxz (Option.some.inj this)
  · simp only at e; subst e
    rw [cond_false, wrI (by omega) (by omega)]
    refine ih _ ⟨by omega, by omega, fun o ho hco x hx => ?_⟩ (by (try simp only); omega)
    have := h3 o ho hco x hx
    by_cases hxz : x = z
    · subst hxz; exact absurd hco (hno o (ho.more hx))
    · omega
theorem try_eq {b : CoalBook} (V : Val b) (A : Arg b) {many : Nat} (hm : many ≤ b.Dips.length) : ∀ (d fuel : Nat) (l : List Int), Clm l b.Dips.length → l.length + d = many → d < fuel → ∃ r, coal_Wrong_1 fuel l many b = some r ∧ TryOk b l many r := by
  have l8 := V.pn
  intro d
  induction d with
  | zero =>
    intro fuel l hc hl hf
    obtain ⟨f, rfl⟩ : ∃ f, fuel = f + 1 := ⟨fuel - 1, by omega⟩
    unfold coal_Wrong_1 coal_Wrong_1_F
    rw [show ((l.length : Int) == (many : Int)) = true by simp; omega, cond_true]
    obtain ⟨r, hr, hi⟩ := can_o V A (l := l) (by omega)
    rw [hr]
    have eq : ∀ o, Ext b.Dips.length l many o → o = l := fun o ho => by
      refine (List.ext_getElem? fun i => ?_).symm
      by_cases hi : i < l.length
      · rw [List.getElem?_eq_getElem hi, ho.pre i _ (List.getElem?_eq_getElem hi)]
      · rw [List.getElem?_eq_none (by omega), List.getElem?_eq_none (by rw [ho.len]; omega)]
    refine ⟨_, rfl, ?_⟩
    cases r with
    | true =>
      refine .inl ⟨rfl, ⟨by simp only; omega, hc, fun i x h => h⟩, hi.1 rfl, fun o ho _ => ?_⟩
      rw [eq o ho]
      rintro ⟨i, x, y, h1, h2, h3, _⟩
      simp only at h2
      rw [h1] at h2
      have := Option.some.inj h2
      omega
    | false =>
      refine .inr ⟨rfl, fun o ho => ?_⟩
      rw [eq o ho]
      exact fun h => by simpa using hi.2 h
  | succ d ih =>
    intro fuel l hc hl hf
    obtain ⟨f, rfl⟩ : ∃ f, fuel = f + 1 := ⟨fuel - 1, by omega⟩
    unfold coal_Wrong_1 coal_Wrong_1_F
    rw [show ((l.length : Int) == (many : Int)) = false by simp; omega, cond_false]
    have hrec : ∀ v : Int, Clm (l ++ [v]) b.Dips.length → ∃ r, coal_Wrong_1 f (l ++ [v]) many b = some r ∧ TryOk b (l ++ [v]) many r := fun v hv => ih f (l ++ [v]) hv (by (try simp); omega) (by omega)
    by_cases h0 : 0 < l.length
    · rw [decide_eq_true (show (l.length : Int) > 0 by omega), cond_true, wrI (x := (l.length : Int) - 1) (by omega) (by omega), show (l.length : Int) - 1 = ((l.length - 1 : Nat) : Int) by omega, getI_nat]
      have hlt : l.length - 1 < l.length := by omega
      have hx := List.getElem?_eq_getElem hlt
      generalize l[l.length - 1] = v at hx
      obtain ⟨v0, v1, _⟩ := hc _ _ hx
      rw [hx, Option.bind_some, wrI (x := v + 1) (by omega) (by omega)]
      refine try_loop V hm (by omega) hc hrec (by omega) (by omega) (fun y hy => ?_) (fun o ho x hox => ?_)
      · rw [List.getLast?_eq_getElem?, hx] at hy
        have := Option.some.inj hy; omega
      · have := (ho.clm _ x hox).2.2 v h0 (ho.pre _ _ hx)
        omega
    · rw [decide_eq_false (show ¬ (l.length : Int) > 0 by omega), cond_false]
      have hn : l = [] := List.eq_nil_of_length_eq_zero (by omega)
      refine try_loop V hm (by omega) hc hrec (Int.le_refl _) (by omega) (fun y hy => ?_) (fun o ho x hox => (ho.clm _ x hox).1)
      rw [hn] at hy; cases hy
def allL (n : Nat) : List Int := (List.range n).map Int.ofNat
theorem allL_clm (n : Nat) : Clm (allL n) n := by
  have get : ∀ (k : Nat) (x : Int), (allL n)[k]? = some x → x = k ∧ k < n := by
    intro k x h
    unfold allL at h
    rw [List.getElem?_map] at h
    obtain ⟨y, hy, rfl⟩ := Option.map_eq_some_iff.1 h
    have hk : k < n := by simpa using (List.getElem?_eq_some_iff.1 hy).1
    rw [List.getElem?_range hk] at hy
    cases hy
    exact ⟨rfl, hk⟩
  intro k x h
  obtain ⟨rfl, hk⟩ := get k x h
  refine ⟨by omega, by omega, fun y h0 hy => ?_⟩
  obtain ⟨rfl, _⟩ := get _ y hy
  omega
/-- the fewest that must be left out, the first of those -/
structure Few (b : CoalBook) (w : List Int) : Prop where
  clm : Clm w b.Dips.length
  can : CanO b w
  len : ∀ o, Clm o b.Dips.length → CanO b o → w.length ≤ o.length
  lex : ∀ o, Clm o b.Dips.length → CanO b o → o.length = w.length → ¬ LexLt o w
theorem wrong_eq {b : CoalBook} (V : Val b) (A : Arg b) (hall : CanO b (allL b.Dips.length)) : ∃ w, coal_Wrong b = some (w, 0) ∧ Few b w := by
  have l8 := V.pn
  unfold coal_Wrong
  rw [check_eq b A, val_iff.2 V, Option.bind_some]
  simp only [cond_true, bne_self_eq_false, cond_false]
  refine Exists.elim (loopF_inv (body := coal_Wrong_l2 b) (fun z : Int => ∃ k : Nat, z = k ∧ k ≤ b.Dips.length + 1 ∧ ∀ o, Clm o b.Dips.length → CanO b o → k ≤ o.length) (fun z => b.Dips.length + 1 - z.toNat) (fun r => ∃ w, r = (w, 0) ∧ Few b w) ?_ big 0 ⟨0, rfl, by omega, fun _ _ _ => Nat.zero_le _⟩ (by unfold big; simp; omega)) fun r ⟨h1, w, h2, h3⟩ => ⟨w, by rw [h1, h2], h3⟩
  rintro rec z ⟨k, rfl, hk, hmin⟩ ih
  unfold coal_Wrong_l2
  rw [wrI (x := (b.Dips.length : Int) + 1) (by omega) (by omega)]
  by_cases hlt : k < b.Dips.length + 1
  · rw [decide_eq_true (by omega), cond_true]
    obtain ⟨⟨out, c⟩, hr, hT⟩ := try_eq V A (many := k) (by omega) k big [] Clm.nil (by simp) (by unfold big; omega)
    rw [hr, Option.bind_some]
    simp only
    have ext : ∀ o, Clm o b.Dips.length → o.length = k → Ext b.Dips.length [] k o := fun o ho hl => ⟨hl, ho, fun i x h => by simp at h⟩
    rcases hT with ⟨e, hE, hO, hm⟩ | ⟨e, hno⟩
    · simp only at e; subst e
      rw [cond_true]
      refine ⟨_, rfl, out, rfl, hE.clm, hO, fun o h1 h2 => by rw [hE.len]; exact hmin o h1 h2, fun o h1 h2 h3 => hm o (ext o h1 (h3.trans hE.len)) h2⟩
    · simp only at e; subst e
      rw [cond_false, wrI (by omega) (by omega)]
      refine ih _ ⟨k + 1, by simp, by omega, fun o h1 h2 => ?_⟩ (by (try simp only); omega)
      have := hmin o h1 h2
      by_cases hok : o.length = k
      · exact absurd h2 (hno o (ext o h1 hok))
      · omega
  · have := hmin _ (allL_clm _) hall
    unfold allL at this
    simp at this
    omega
end Go.Proofs.YticodohfokgjfaaDoor

set_option linter.unusedVariables false
set_option linter.unusedSimpArgs false
namespace Go.Proofs.YticodohfokgjfaaDoor
open Go Go.Fx
def Has (m : List (Coal_gust × Int)) (g : Coal_gust) : Prop := ∃ p ∈ m, p.1 = g
theorem has_look {m : List (Coal_gust × Int)} {g : Coal_gust} (h : Has m g) : ∃ v, lookL m g = some v := by
  obtain ⟨p, hp, rfl⟩ := h
  unfold lookL
  cases hf : m.find? (·.1 == p.1) with
  | some x => exact ⟨x.2, rfl⟩
  | none =>
    have := List.find?_eq_none.1 hf p hp
    simp at this
theorem has_put {m : List (Coal_gust × Int)} {g g' : Coal_gust} {v : Int} (h : Has m g') : Has (putL m g v) g' := by
  obtain ⟨p, hp, rfl⟩ := h
  unfold putL
  split
  · rename_i i hi
    obtain ⟨j, hj, rfl⟩ := List.getElem_of_mem hp
    obtain ⟨hi1, hi2, _⟩ := List.findIdx?_eq_some_iff_getElem.1 hi
    by_cases hij : i = j
    · subst hij
      refine ⟨(g, v), List.mem_set (by simpa using hi1) _, ?_⟩
      have := hi2
      simp at this
      exact this.symm
    · refine ⟨m[j], ?_, rfl⟩
      have h2 : j < (m.set i (g, v)).length := by simpa using hj
      have := List.getElem_mem h2
      rwa [List.getElem_set_ne hij] at this
  · exact ⟨p, List.mem_append_left _ hp, rfl⟩
theorem put_has {m : List (Coal_gust × Int)} {g : Coal_gust} {v : Int} : Has (putL m g v) g := by
  unfold putL
  split
  · rename_i i hi
    obtain ⟨hi1, hi2, _⟩ := List.findIdx?_eq_some_iff_getElem.1 hi
    exact ⟨(g, v), List.mem_set (by simpa using hi1) _, rfl⟩
  · exact ⟨(g, v), List.mem_append_right _ (List.mem_singleton.2 rfl), rfl⟩
theorem costW_keep {x : CoalDay} {ex : List Int} {d : Int} {m : List (Coal_gust × Int)} {g : Coal_gust} (h : Has m g) : ∀ k, Has (costW x ex d m k) g
  | 0 => h
  | k + 1 => by
    unfold costW
    cases (andI (shrI x.Winds (k : Int)) 1) == 1 with
    | false => exact costW_keep h k
    | true => exact has_put (costW_keep h k)
theorem costW_has {x : CoalDay} {ex : List Int} {d : Int} {m : List (Coal_gust × Int)} {j : Nat} (hb : ((andI (shrI x.Winds (j : Int)) 1) == 1) = true) : ∀ k, j < k → Has (costW x ex d m k) (Coal_gust.mk d (j : Int))
  | 0, h => by omega
  | k + 1, h => by
    unfold costW
    by_cases hjk : j = k
    · subst hjk; rw [hb]; exact put_has
    · have := costW_has (x := x) (ex := ex) (d := d) (m := m) hb k (by omega)
      cases (andI (shrI x.Winds (k : Int)) 1) == 1 with
      | false => exact this
      | true => exact has_put this
theorem costD_has {ds : List CoalDay} {ex : List Int} {d j : Nat} {x : CoalDay} (hx : ds[d]? = some x) (hj : j < 3) (hb : ((andI (shrI x.Winds (j : Int)) 1) == 1) = true) : ∀ k, d < k → Has (costD ds ex k) (Coal_gust.mk (d : Int) (j : Int))
  | 0, h => by omega
  | k + 1, h => by
    unfold costD
    by_cases hdk : d = k
    · subst hdk; rw [hx]; exact costW_has hb 3 hj
    · have := costD_has (ex := ex) hx hj hb k (by omega)
      cases ds[k]? with
      | none => exact this
      | some y => exact costW_keep this 3
theorem wind_some : ∀ w : Fin 8, 1 ≤ w.val → ∃ j : Fin 3, ((andI (shrI (w.val : Int) (j.val : Int)) 1) == 1) = true := by decide +kernel
theorem blown_ne {b : CoalBook} (V : Val b) {but : List Int} (hk : keepD b.Dips but b.Dips.length = []) : ∀ (r : Nat) (t : Coal_truth) (d : Nat) (c : Int), d + r = b.Days.length → blown (opn b but) r t d c ≠ [] := by
  intro r
  induction r with
  | zero => intro t d c _ h; cases h
  | succ r ih =>
    intro t d c hd
    have hdl : d < b.Days.length := by omega
    obtain ⟨_, _, w1, w2⟩ := dayB_iff (V.da _ (List.getElem_mem hdl))
    obtain ⟨j, hj⟩ := wind_some ⟨b.Days[d].Winds.toNat, by omega⟩ (by simp only; omega)
    simp only [show ((b.Days[d].Winds.toNat : Nat) : Int) = b.Days[d].Winds by omega] at hj
    obtain ⟨v, hv⟩ := has_look (costD_has (ex := b.Extra) (List.getElem?_eq_getElem hdl) j.isLt hj b.Days.length hdl)
    have hr : ∀ x, rightB (opn b but) d x = true := fun x => by
      unfold rightB
      rw [show (opn b but).CoalBook.Dips = [] from hk]; rfl
    rw [blown]
    intro h
    have := List.flatMap_eq_nil_iff.1 h j.val (List.mem_range'_1.2 (by have := j.isLt; omega))
    rw [show (opn b but).costs_ = costD b.Days b.Extra b.Days.length from rfl, hv] at this
    simp only [blown.optL, hr, cond_true] at this
    have e := ih (Coal_truth.mk t.eats_ t.collier_ (aset t.winds_ 6 d (j.val : Int)) (aset t.coal_ 6 d ((bif t.collier_ == (d : Int) then c + (opn b but).CoalBook.Brings else c) - eng (opn b but) d t.eats_ - v))) (d + 1) ((bif t.collier_ == (d : Int) then c + (opn b but).CoalBook.Brings else c) - eng (opn b but) d t.eats_ - v) (by omega)
    rw [show ((d + 1 : Nat) : Int) = (d : Int) + 1 by omega] at e
    exact e this
theorem truths_ne {b : CoalBook} (V : Val b) (A : Arg b) {but : List Int} (hk : keepD b.Dips but b.Dips.length = []) : truths (opn b but) ≠ [] := by
  have Q := opn_op V A but
  have e0 := (Q.ea _ (agetS_mem (i := 0) (by rw [Q.el]; decide))).1
  have e1 := (Q.ea _ (agetS_mem (i := 1) (by rw [Q.el]; decide))).1
  have := blown_ne V hk b.Days.length (init (agetS (opn b but).CoalBook.Eats (0 : Int)).Low (agetS (opn b but).CoalBook.Eats (1 : Int)).Low b.Collier.Low) 0 b.Heap.Low (by omega)
  obtain ⟨t, ht⟩ := List.exists_mem_of_ne_nil _ this
  refine List.ne_nil_of_mem (truth_mem.2 ⟨b.Heap.Low, rng_mem.2 ⟨Int.le_refl _, Q.hp.lh⟩, _, rng_mem.2 ⟨Int.le_refl _, e0.lh⟩, _, rng_mem.2 ⟨Int.le_refl _, e1.lh⟩, b.Collier.Low, rng_mem.2 ⟨Int.le_refl _, Q.co.lh⟩, ht⟩)
theorem keepD_none {l : List CoalDip} {but : List Int} : ∀ k, (∀ j : Nat, j < k → (j : Int) ∈ but) → keepD l but k = []
  | 0, _ => rfl
  | k + 1, h => by
    unfold keepD
    rw [show but.contains (k : Int) = true by simpa using h k (by omega), cond_true]
    exact keepD_none k fun j hj => h j (by omega)
theorem keepD_all {l : List CoalDip} : ∀ k, k ≤ l.length → keepD l [] k = l.take k
  | 0, _ => rfl
  | k + 1, h => by
    unfold keepD
    rw [show ([] : List Int).contains (k : Int) = false from rfl, cond_false, keepD_all k (by omega), ← List.take_append_getElem (show k < l.length by omega), List.getElem?_eq_getElem (show k < l.length by omega)]
    rfl
theorem hall {b : CoalBook} (V : Val b) (A : Arg b) : CanO b (allL b.Dips.length) := by
  refine truths_ne V A (keepD_none _ fun j hj => ?_)
  exact List.mem_map.2 ⟨j, List.mem_range.2 hj, rfl⟩
theorem wrong_law {b : CoalBook} (V : Val b) (A : Arg b) : ∃ w, coal_Wrong b = some (w, 0) ∧ Few b w := wrong_eq V A (hall V A)
end Go.Proofs.YticodohfokgjfaaDoor

set_option linter.unusedVariables false
set_option linter.unusedSimpArgs false
namespace Go.Proofs.YticodohfokgjfaaDoor
open Go Go.Fx
def bitB (x : CoalDay) (j : Nat) : Bool := (andI (shrI x.Winds (j : Int)) 1) == 1
def Ent (ds : List CoalDay) (ex : List Int) (p : Coal_gust × Int) : Prop := ∃ (k j : Nat) (x : CoalDay), p.1 = Coal_gust.mk (k : Int) (j : Int) ∧ ds[k]? = some x ∧ bitB x j = true ∧ j < 3 ∧ p.2 = wr (x.Crosses * aget ex (j : Int))
theorem costW_ent {ds : List CoalDay} {ex : List Int} {d : Nat} {x : CoalDay} {m : List (Coal_gust × Int)} (hx : ds[d]? = some x) (hm : ∀ p ∈ m, Ent ds ex p) : ∀ k, k ≤ 3 → ∀ p ∈ costW x ex (d : Int) m k, Ent ds ex p
  | 0, _ => hm
  | k + 1, hk => by
    intro p hp
    unfold costW at hp
    cases hc : (andI (shrI x.Winds (k : Int)) 1) == 1 with
    | false => rw [hc, cond_false] at hp; exact costW_ent hx hm k (by omega) p hp
    | true =>
      rw [hc, cond_true] at hp
      rcases putL_mem hp with rfl | hp
      · exact ⟨d, k, x, rfl, hx, hc, by omega, rfl⟩
      · exact costW_ent hx hm k (by omega) p hp
theorem costD_ent {ds : List CoalDay} {ex : List Int} : ∀ k, ∀ p ∈ costD ds ex k, Ent ds ex p
  | 0 => fun p h => by cases h
  | k + 1 => by
    unfold costD
    cases hk : ds[k]? with
    | none => exact costD_ent k
    | some x => exact costW_ent hk (costD_ent k) 3 (by omega)
theorem look_val {ds : List CoalDay} {ex : List Int} {n d j : Nat} {c : Int} (h : lookL (costD ds ex n) (Coal_gust.mk (d : Int) (j : Int)) = some c) : ∃ x, ds[d]? = some x ∧ bitB x j = true ∧ j < 3 ∧ c = wr (x.Crosses * aget ex (j : Int)) := by
  unfold lookL at h
  obtain ⟨p, hp, rfl⟩ := Option.map_eq_some_iff.1 h
  have hk := List.find?_some hp
  have hk : p.1 = Coal_gust.mk (d : Int) (j : Int) := by simpa using hk
  obtain ⟨k, i, x, h1, h2, h3, h4, h5⟩ := costD_ent n p (List.mem_of_find?_eq_some hp)
  rw [h1] at hk
  have h6 := congrArg Coal_gust.day_ hk
  have h7 := congrArg Coal_gust.wind_ hk
  simp only at h6 h7
  obtain rfl : k = d := by omega
  obtain rfl : i = j := by omega
  exact ⟨x, h2, h3, h4, h5⟩
theorem val_look {ds : List CoalDay} {ex : List Int} {n d j : Nat} {x : CoalDay} (hx : ds[d]? = some x) (hb : bitB x j = true) (hj : j < 3) (hd : d < n) : lookL (costD ds ex n) (Coal_gust.mk (d : Int) (j : Int)) = some (wr (x.Crosses * aget ex (j : Int))) := by
  obtain ⟨v, hv⟩ := has_look (costD_has (ex := ex) hx hj hb n hd)
  obtain ⟨y, h1, _, _, h4⟩ := look_val hv
  rw [hx] at h1
  obtain rfl := Option.some.inj h1
  rw [hv, h4]
def E2 (e : List Int) : Prop := e.length = 2 ∧ ∀ x ∈ e, 0 ≤ x ∧ x ≤ 9
theorem blown_mk0 {q : Coal_book} {r w : Nat} {t u : Coal_truth} {d c cost : Int} (hw : w < 3) (hl : lookL q.costs_ (Coal_gust.mk d (w : Int)) = some cost) (hr : rightB q d ((bif t.collier_ == d then c + q.CoalBook.Brings else c) - eng q d t.eats_ - cost) = true)
    (hu : u ∈ blown q r (Coal_truth.mk t.eats_ t.collier_ (aset t.winds_ 6 d (w : Int)) (aset t.coal_ 6 d ((bif t.collier_ == d then c + q.CoalBook.Brings else c) - eng q d t.eats_ - cost))) (d + 1) ((bif t.collier_ == d then c + q.CoalBook.Brings else c) - eng q d t.eats_ - cost)) : u ∈ blown q (r + 1) t d c := by
  rw [blown]
  refine List.mem_flatMap.2 ⟨w, List.mem_range'_1.2 (by omega), ?_⟩
  rw [hl]
  simp only [blown.optL]
  rw [hr, cond_true]
  exact hu
theorem blown_rel {q q' : Coal_book} {n : Nat} (R : Int → Int → Prop) (hR : ∀ z z' c, R z z' → R (z + c) (z' + c)) (hB : q.CoalBook.Brings = q'.CoalBook.Brings) (d2 : q'.CoalBook.Dips = [])
    (step : ∀ d : Nat, d < n → ∀ (w : Nat) (cost : Int), lookL q.costs_ (Coal_gust.mk (d : Int) (w : Int)) = some cost → ∃ (w' : Nat) (cost' : Int), w' < 3 ∧ lookL q'.costs_ (Coal_gust.mk (d : Int) (w' : Int)) = some cost' ∧ ∀ e, E2 e → ∀ z z', R z z' → R (z - eng q d e - cost) (z' - eng q' d e - cost')) :
    ∀ (r : Nat) (t t' : Coal_truth) (d : Nat) (c c' : Int) (u : Coal_truth), d + r = n → n ≤ 6 → t.collier_ = t'.collier_ → t.eats_ = t'.eats_ → E2 t.eats_ → R c c' → (∀ k, k < d → R (coalAt k t) (coalAt k t')) → u ∈ blown q r t d c → ∃ u' ∈ blown q' r t' d c', ∀ k, k < n → R (coalAt k u) (coalAt k u') := by
  have hr : ∀ d x : Int, rightB q' d x = true := fun d x => by unfold rightB; rw [d2]; rfl
  intro r
  induction r with
  | zero =>
    intro t t' d c c' u h1 h2 h3 h4 h5 h6 h7 hu
    obtain rfl := List.mem_singleton.1 hu
    exact ⟨t', List.mem_singleton.2 rfl, fun k hk => h7 k (by omega)⟩
  | succ r ih =>
    intro t t' d c c' u h1 h2 h3 h4 h5 h6 h7 hu
    obtain ⟨w, cost, hw, hl, _, hu⟩ := blown_step hu
    obtain ⟨w', cost', hw', hl', hs⟩ := step d (by omega) w cost hl
    have hz : R (bif t.collier_ == (d : Int) then c + q.CoalBook.Brings else c) (bif t'.collier_ == (d : Int) then c' + q'.CoalBook.Brings else c') := by
      rw [h3, hB]
      cases (t'.collier_ == (d : Int)) with
      | true => exact hR _ _ _ h6
      | false => exact h6
    have hn := hs t.eats_ h5 _ _ hz
    generalize (bif t.collier_ == (d : Int) then c + q.CoalBook.Brings else c) - eng q d t.eats_ - cost = x at hn hu
    obtain ⟨u', hu', hk⟩ := ih (Coal_truth.mk t.eats_ t.collier_ (aset t.winds_ 6 d (w : Int)) (aset t.coal_ 6 d x)) (Coal_truth.mk t'.eats_ t'.collier_ (aset t'.winds_ 6 d (w' : Int)) (aset t'.coal_ 6 d ((bif t'.collier_ == (d : Int) then c' + q'.CoalBook.Brings else c') - eng q' d t'.eats_ - cost'))) (d + 1) x ((bif t'.collier_ == (d : Int) then c' + q'.CoalBook.Brings else c') - eng q' d t'.eats_ - cost') u (by omega) h2 h3 h4 h5 (by rw [← h4]; exact hn) (fun k hk => by
      unfold coalAt
      simp only
      rw [getD_aset (by omega), getD_aset (by omega)]
      by_cases hkd : k = d
      · rw [if_pos (by omega), if_pos (by omega), ← h4]; exact hn
      · rw [if_neg (by omega), if_neg (by omega)]; exact h7 k (by omega)) (by rw [show ((d + 1 : Nat) : Int) = (d : Int) + 1 by omega]; exact hu)
    refine ⟨u', ?_, hk⟩
    rw [show ((d + 1 : Nat) : Int) = (d : Int) + 1 by omega] at hu'
    exact blown_mk0 hw' hl' (hr _ _) hu'
theorem truths_rel {q q' : Coal_book} (Q : Op q) (R : Int → Int → Prop) (hR : ∀ z z' c, R z z' → R (z + c) (z' + c)) (h0 : ∀ z, R z z) (hH : q.CoalBook.Heap = q'.CoalBook.Heap) (hE : q.CoalBook.Eats = q'.CoalBook.Eats) (hC : q.CoalBook.Collier = q'.CoalBook.Collier) (hD : q.CoalBook.Days.length = q'.CoalBook.Days.length) (hB : q.CoalBook.Brings = q'.CoalBook.Brings) (d2 : q'.CoalBook.Dips = [])
    (step : ∀ d : Nat, d < q.CoalBook.Days.length → ∀ (w : Nat) (cost : Int), lookL q.costs_ (Coal_gust.mk (d : Int) (w : Int)) = some cost → ∃ (w' : Nat) (cost' : Int), w' < 3 ∧ lookL q'.costs_ (Coal_gust.mk (d : Int) (w' : Int)) = some cost' ∧ ∀ e, E2 e → ∀ z z', R z z' → R (z - eng q d e - cost) (z' - eng q' d e - cost'))
    {u : Coal_truth} (h : u ∈ truths q) : ∃ u' ∈ truths q', ∀ k, k < q.CoalBook.Days.length → R (coalAt k u) (coalAt k u') := by
  obtain ⟨hp, h1, o, h2, p, h3, c, h4, h⟩ := truth_mem.1 h
  have g2 := rng_mem.1 h2; have g3 := rng_mem.1 h3
  have he0 := Q.ea _ (agetS_mem (i := 0) (by rw [Q.el]; decide))
  have he1 := Q.ea _ (agetS_mem (i := 1) (by rw [Q.el]; decide))
  have m0 := he0.1.l0; have m1 := he0.2; have m2 := he1.1.l0; have m3 := he1.2
  obtain ⟨u', hu', hk⟩ := blown_rel R hR hB d2 step q.CoalBook.Days.length (init o p c) (init o p c) 0 hp hp u (by omega) Q.dn rfl rfl ⟨rfl, fun x hx => by
    simp [init] at hx
    rcases hx with rfl | rfl <;> omega⟩ (h0 _) (fun k hk => by omega) h
  refine ⟨u', truth_mem.2 ⟨hp, hH ▸ h1, o, hE ▸ h2, p, hE ▸ h3, c, hC ▸ h4, hD ▸ hu'⟩, hk⟩
def dayEng (x : CoalDay) (e : List Int) : Int := (bif (andI (shrI x.Engines 0) 1) == 1 then e.getD 0 0 * x.Crosses else 0) + (bif (andI (shrI x.Engines 1) 1) == 1 then e.getD 1 0 * x.Crosses else 0)
theorem eng_day {q : Coal_book} {d : Nat} {x : CoalDay} (h : q.CoalBook.Days[d]? = some x) (e : List Int) : eng q (d : Int) e = dayEng x e := by
  unfold eng
  rw [show ((d : Int)).toNat = d from rfl, h]; rfl
/-- a day that is as another one, or with fewer crossings, or calm -/
structure Easy (x y : CoalDay) : Prop where
  c0 : 0 ≤ y.Crosses
  cx : y.Crosses ≤ x.Crosses
  c9 : x.Crosses ≤ 9
  en : y.Engines = x.Engines
  wi : y.Winds = x.Winds ∨ y.Winds = 1
  wx : 1 ≤ x.Winds ∧ x.Winds ≤ 7
theorem eng_easy {x y : CoalDay} (h : Easy x y) {e : List Int} (he : E2 e) : dayEng y e ≤ dayEng x e := by
  obtain ⟨hl, hb⟩ := he
  match e, hl with
  | [a, b], _ =>
    have ha := hb a (by simp); have hb' := hb b (by simp)
    have m1 : a * y.Crosses ≤ a * x.Crosses := Int.mul_le_mul_of_nonneg_left h.cx ha.1
    have m2 : b * y.Crosses ≤ b * x.Crosses := Int.mul_le_mul_of_nonneg_left h.cx hb'.1
    unfold dayEng
    rw [h.en]
    simp only [show [a, b].getD 0 0 = a from rfl, show [a, b].getD 1 0 = b from rfl]
    cases (andI (shrI x.Engines 0) 1 == 1) <;> cases (andI (shrI x.Engines 1) 1 == 1) <;> simp only [cond_true, cond_false] <;> omega
theorem cost_easy {ex : List Int} (hex : ∀ j : Nat, j < 3 → 0 ≤ aget ex (j : Int) ∧ aget ex (j : Int) ≤ 9) {x y : CoalDay} (h : Easy x y) {j i : Nat} (hj : j < 3) (hi : i < 3) (hle : aget ex (j : Int) ≤ aget ex (i : Int)) : wr (y.Crosses * aget ex (j : Int)) ≤ wr (x.Crosses * aget ex (i : Int)) := by
  have h1 := hex j hj; have h2 := hex i hi
  have c0 := h.c0; have cx := h.cx; have c9 := h.c9
  have m1 : 0 ≤ y.Crosses * aget ex (j : Int) := Int.mul_nonneg c0 h1.1
  have m2 : y.Crosses * aget ex (j : Int) ≤ x.Crosses * aget ex (i : Int) := Int.mul_le_mul cx hle h1.1 (by omega)
  have m3 : x.Crosses * aget ex (i : Int) ≤ 9 * 9 := Int.mul_le_mul c9 h2.2 h2.1 (by omega)
  rw [wrI (by omega) (by omega), wrI (by omega) (by omega)]
  exact m2
theorem bit_zero {y : CoalDay} (h : y.Winds = 1) : bitB y 0 = true := by
  unfold bitB; rw [h]; decide
structure EasyB (b b' : CoalBook) : Prop where
  hH : b.Heap = b'.Heap
  hE : b.Eats = b'.Eats
  hC : b.Collier = b'.Collier
  hB : b.Brings = b'.Brings
  hX : b.Extra = b'.Extra
  d1 : b.Dips = []
  d2 : b'.Dips = []
  hD : b.Days.length = b'.Days.length
  ex : ∀ j : Nat, j < 3 → 0 ≤ aget b.Extra (j : Int) ∧ aget b.Extra (j : Int) ≤ 9
  e0 : ∀ j : Nat, j < 3 → aget b.Extra ((0 : Nat) : Int) ≤ aget b.Extra (j : Int)
  da : ∀ (d : Nat) (x : CoalDay), b.Days[d]? = some x → ∃ y, b'.Days[d]? = some y ∧ Easy x y
theorem EasyB.up {b b' : CoalBook} (h : EasyB b b') (V : Val b) (A : Arg b) {u : Coal_truth} (hu : u ∈ TT b) : ∃ u' ∈ TT b', ∀ k, k < b.Days.length → coalAt k u ≤ coalAt k u' := by
  refine truths_rel (q := opn b []) (q' := opn b' []) (opn_op V A []) (fun z z' => z ≤ z') (fun z z' c hz => by show z + c ≤ z' + c; have : z ≤ z' := hz; omega) (fun z => Int.le_refl z) h.hH h.hE h.hC h.hD h.hB (by show keepD b'.Dips [] b'.Dips.length = []; rw [h.d2]; rfl) (fun d hd w cost hl => ?_) hu
  obtain ⟨x, hx, hb, hw, rfl⟩ := look_val hl
  obtain ⟨y, hy, E⟩ := h.da d x hx
  have hlen : d < b'.Days.length := by have : d < b.Days.length := hd; have := h.hD; omega
  have fin : ∀ j : Nat, j < 3 → bitB y j = true → aget b.Extra (j : Int) ≤ aget b.Extra (w : Int) → ∃ (w' : Nat) (cost' : Int), w' < 3 ∧ lookL (opn b' []).costs_ (Coal_gust.mk (d : Int) (w' : Int)) = some cost' ∧ ∀ e, E2 e → ∀ z z', z ≤ z' → z - eng (opn b []) d e - wr (x.Crosses * aget b.Extra (w : Int)) ≤ z' - eng (opn b' []) d e - cost' := by
    intro j hj hbj hle
    refine ⟨j, _, hj, val_look (ex := b'.Extra) (n := b'.Days.length) hy hbj hj hlen, fun e he z z' hz => ?_⟩
    rw [eng_day (q := opn b []) hx e, eng_day (q := opn b' []) hy e, ← h.hX]
    have h1 := eng_easy E he
    have h2 := cost_easy h.ex E hj hw hle
    omega
  rcases E.wi with hw' | hw'
  · exact fin w hw (by unfold bitB at *; rw [hw']; exact hb) (Int.le_refl _)
  · exact fin 0 (by omega) (bit_zero hw') (h.e0 w hw)
end Go.Proofs.YticodohfokgjfaaDoor

set_option linter.unusedVariables false
set_option linter.unusedSimpArgs false
namespace Go.Proofs.YticodohfokgjfaaDoor
open Go Go.Fx
theorem blown_mk {q : Coal_book} {r w : Nat} {t u : Coal_truth} {d c cost : Int} (hw : w < 3) (hl : lookL q.costs_ (Coal_gust.mk d (w : Int)) = some cost) (hr : rightB q d ((bif t.collier_ == d then c + q.CoalBook.Brings else c) - eng q d t.eats_ - cost) = true)
    (hu : u ∈ blown q r (Coal_truth.mk t.eats_ t.collier_ (aset t.winds_ 6 d (w : Int)) (aset t.coal_ 6 d ((bif t.collier_ == d then c + q.CoalBook.Brings else c) - eng q d t.eats_ - cost))) (d + 1) ((bif t.collier_ == d then c + q.CoalBook.Brings else c) - eng q d t.eats_ - cost)) : u ∈ blown q (r + 1) t d c := by
  rw [blown]
  refine List.mem_flatMap.2 ⟨w, List.mem_range'_1.2 (by omega), ?_⟩
  rw [hl]
  simp only [blown.optL]
  rw [hr, cond_true]
  exact hu
structure Less (L' L : List Coal_truth) : Prop where
  ne : L' ≠ []
  sub : ∀ t ∈ L', t ∈ L
theorem Less.kind {L' L : List Coal_truth} (h : Less L' L) (d : Nat) : kind L d = 1 ∨ kind L' d = kind L d := by
  unfold Proofs.YticodohfokgjfaaDoor.kind
  obtain ⟨x, hx⟩ := List.exists_mem_of_ne_nil _ h.ne
  cases ha : L.any (lastB d) with
  | false =>
    have n1 : ∀ t ∈ L, lastB d t = false := fun t ht => by
      have := List.any_eq_false.1 ha t ht
      simpa using this
    have e1 : L'.any (lastB d) = false := List.any_eq_false.2 fun t ht => by simp [n1 t (h.sub t ht)]
    have e2 : L'.all (lastB d) = false := by
      cases hb : L'.all (lastB d) with
      | false => rfl
      | true => have := List.all_eq_true.1 hb x hx; rw [n1 x (h.sub x hx)] at this; cases this
    have e3 : L.all (lastB d) = false := by
      cases hb : L.all (lastB d) with
      | false => rfl
      | true => have := List.all_eq_true.1 hb x (h.sub x hx); rw [n1 x (h.sub x hx)] at this; cases this
    rw [e1, e2, e3]; exact .inr rfl
  | true =>
    cases hb : L.all (lastB d) with
    | false => exact .inl rfl
    | true =>
      have e2 : L'.all (lastB d) = true := List.all_eq_true.2 fun t ht => List.all_eq_true.1 hb t (h.sub t ht)
      have e1 : L'.any (lastB d) = true := List.any_eq_true.2 ⟨x, hx, List.all_eq_true.1 e2 x hx⟩
      rw [e1, e2]; exact .inr rfl
theorem Less.order {L' L : List Coal_truth} (h : Less L' L) {len : Nat} {o p : Int} (O : OrderOf len L o) (P : OrderOf len L' p) : p ≤ o := by
  have := O.n0
  rcases P.is with e | ⟨k, hk, t, ht, e⟩
  · omega
  · have := O.ge k hk t (h.sub t ht); omega
theorem not_small : ∀ a b : Fin 8, (∀ i : Fin 3, a.val.testBit i.val = true → b.val.testBit i.val = true) → andNotI (a.val : Int) (b.val : Int) = 0 := by decide +kernel
theorem Less.wind {L' L : List Coal_truth} (h : Less L' L) {d : Nat} (hw : ∀ t ∈ L, windAt d t < 3) : andNotI (windSet d L' : Int) (windSet d L : Int) = 0 ∧ ((windSet d L' : Nat) : Int) ≠ 0 := by
  have w1 := windSet_lt (q := default) L 0 (by omega) hw
  have w2 := windSet_lt (q := default) L' 0 (by omega) fun t ht => hw t (h.sub t ht)
  constructor
  · refine not_small ⟨windSet d L', w2⟩ ⟨windSet d L, w1⟩ fun i hi => ?_
    rcases (windSet_bit L' 0 i.val).1 hi with h0 | ⟨t, ht, e⟩
    · simp at h0
    · exact (windSet_bit L 0 i.val).2 (.inr ⟨t, h.sub t ht, e⟩)
  · obtain ⟨x, hx⟩ := List.exists_mem_of_ne_nil _ h.ne
    have := (windSet_bit L' 0 (windAt d x)).2 (.inr ⟨x, hx, rfl⟩)
    intro h0
    have h0 : windSet d L' = 0 := by omega
    unfold windSet at h0
    rw [h0] at this
    simp at this
end Go.Proofs.YticodohfokgjfaaDoor

set_option linter.unusedVariables false
set_option linter.unusedSimpArgs false
namespace Go.Proofs.YticodohfokgjfaaDoor
open Go Go.Fx
theorem blown_low {q : Coal_book} : ∀ (r : Nat) (t u : Coal_truth) (d : Nat) (c : Int), d + r ≤ 6 → u ∈ blown q r t d c → ∀ k, k < d → coalAt k u = coalAt k t ∧ windAt k u = windAt k t := by
  intro r
  induction r with
  | zero =>
    intro t u d c _ h k _
    obtain rfl := List.mem_singleton.1 h
    exact ⟨rfl, rfl⟩
  | succ r ih =>
    intro t u d c hd h k hk
    obtain ⟨w, cost, hw, hl, hr, hu⟩ := blown_step h
    rw [show (d : Int) + 1 = ((d + 1 : Nat) : Int) by omega] at hu
    obtain ⟨h1, h2⟩ := ih _ u (d + 1) _ (by omega) hu k (by omega)
    rw [h1, h2]
    unfold coalAt windAt
    simp only
    rw [getD_aset (by omega), getD_aset (by omega), if_neg (by omega), if_neg (by omega)]
    exact ⟨rfl, rfl⟩
theorem blown_at {q : Coal_book} {r w : Nat} {t u : Coal_truth} {d : Nat} {c x : Int} (hd : d + r + 1 ≤ 6) (h : u ∈ blown q r (Coal_truth.mk t.eats_ t.collier_ (aset t.winds_ 6 d (w : Int)) (aset t.coal_ 6 d x)) ((d : Int) + 1) c) : coalAt d u = x ∧ windAt d u = w := by
  rw [show (d : Int) + 1 = ((d + 1 : Nat) : Int) by omega] at h
  obtain ⟨h1, h2⟩ := blown_low r _ u (d + 1) c (by omega) h d (by omega)
  rw [h1, h2]
  unfold coalAt windAt
  simp only
  rw [getD_aset (by omega), getD_aset (by omega), if_pos (by omega), if_pos (by omega)]
  exact ⟨rfl, by omega⟩
theorem blown_cut {q q' : Coal_book} {n : Nat} (P : Nat → Nat → Int → Prop) (hB : q.CoalBook.Brings = q'.CoalBook.Brings) (he : eng q' = eng q) (h6 : n ≤ 6)
    (hs : ∀ k : Nat, k < n → ∀ w : Nat, w < 3 → ∀ c x : Int, (lookL q'.costs_ (Coal_gust.mk (k : Int) (w : Int)) = some c ∧ rightB q' k x = true) ↔ (lookL q.costs_ (Coal_gust.mk (k : Int) (w : Int)) = some c ∧ rightB q k x = true ∧ P k w x)) :
    ∀ (r : Nat) (t u : Coal_truth) (d : Nat) (c : Int), d + r = n → (u ∈ blown q' r t d c ↔ u ∈ blown q r t d c ∧ ∀ k, d ≤ k → k < n → P k (windAt k u) (coalAt k u)) := by
  intro r
  induction r with
  | zero =>
    intro t u d c hd
    exact ⟨fun h => ⟨h, fun k h1 h2 => by omega⟩, fun h => h.1⟩
  | succ r ih =>
    intro t u d c hd
    have ih2 := fun t c => ih t u (d + 1) c (by omega)
    simp only [show ((d + 1 : Nat) : Int) = (d : Int) + 1 by omega] at ih2
    constructor
    · intro h
      obtain ⟨w, cost, hw, hl, hr, hu⟩ := blown_step h
      rw [he, ← hB] at hr hu
      obtain ⟨e1, e2⟩ := blown_at (by omega) hu
      obtain ⟨g1, g2, g3⟩ := (hs d (by omega) w hw cost _).1 ⟨hl, hr⟩
      obtain ⟨g4, g5⟩ := (ih2 _ _).1 hu
      refine ⟨blown_mk hw g1 g2 g4, fun k h1 h2 => ?_⟩
      by_cases hk : k = d
      · subst hk; rw [e1, e2]; exact g3
      · exact g5 k (by omega) h2
    · rintro ⟨h, hP⟩
      obtain ⟨w, cost, hw, hl, hr, hu⟩ := blown_step h
      obtain ⟨e1, e2⟩ := blown_at (by omega) hu
      have hp := hP d (Nat.le_refl d) (by omega)
      rw [e1, e2] at hp
      obtain ⟨g1, g2⟩ := (hs d (by omega) w hw cost _).2 ⟨hl, hr, hp⟩
      have g4 := (ih2 _ _).2 ⟨hu, fun k h1 h2 => hP k (by omega) h2⟩
      rw [← he, hB] at g2 g4
      exact blown_mk hw g1 g2 g4
theorem truths_cut {q q' : Coal_book} (P : Nat → Nat → Int → Prop) (hH : q.CoalBook.Heap = q'.CoalBook.Heap) (hE : q.CoalBook.Eats = q'.CoalBook.Eats) (hC : q.CoalBook.Collier = q'.CoalBook.Collier) (hD : q.CoalBook.Days.length = q'.CoalBook.Days.length) (hB : q.CoalBook.Brings = q'.CoalBook.Brings) (he : eng q' = eng q) (h6 : q.CoalBook.Days.length ≤ 6)
    (hs : ∀ k : Nat, k < q.CoalBook.Days.length → ∀ w : Nat, w < 3 → ∀ c x : Int, (lookL q'.costs_ (Coal_gust.mk (k : Int) (w : Int)) = some c ∧ rightB q' k x = true) ↔ (lookL q.costs_ (Coal_gust.mk (k : Int) (w : Int)) = some c ∧ rightB q k x = true ∧ P k w x)) (u : Coal_truth) :
    u ∈ truths q' ↔ u ∈ truths q ∧ ∀ k, k < q.CoalBook.Days.length → P k (windAt k u) (coalAt k u) := by
  rw [truth_mem, truth_mem, ← hH, ← hE, ← hC, ← hD]
  have key := fun h o p c => blown_cut P hB he h6 hs q.CoalBook.Days.length (init o p c) u 0 h (by omega)
  simp only [Int.natCast_zero] at key
  constructor
  · rintro ⟨h, h1, o, h2, p, h3, c, h4, hu⟩
    obtain ⟨k1, k2⟩ := (key h o p c).1 hu
    exact ⟨⟨h, h1, o, h2, p, h3, c, h4, k1⟩, fun k hk => k2 k (Nat.zero_le _) hk⟩
  · rintro ⟨⟨h, h1, o, h2, p, h3, c, h4, hu⟩, hP⟩
    exact ⟨h, h1, o, h2, p, h3, c, h4, (key h o p c).2 ⟨hu, fun k _ hk => hP k hk⟩⟩
theorem keep_self (l : List CoalDip) : keepD l [] l.length = l := by rw [keepD_all _ (Nat.le_refl _), List.take_length]
theorem bit_test : ∀ (w : Fin 8) (i : Fin 3), ((andI (shrI (w.val : Int) (i.val : Int)) 1) == 1) = w.val.testBit i.val := by decide +kernel
end Go.Proofs.YticodohfokgjfaaDoor

set_option linter.unusedVariables false
set_option linter.unusedSimpArgs false
namespace Go.Proofs.YticodohfokgjfaaDoor
open Go Go.Fx
theorem fits_of {m bb : Nat} (h : m ≤ 1000000000) (hb : bb ≤ 100000) : fitsL m bb = true := by
  unfold fitsL
  refine decide_eq_true ?_
  have : m * bb ≤ 1000000000 * 100000 := Nat.mul_le_mul h hb
  omega
/-- a truth of the first n days, as the reference has it -/
def phi (n : Nat) (t : Coal_truth) : Ref06_truth := ⟨t.eats_, t.collier_, t.winds_.take n, t.coal_.take n⟩
theorem member_eq (a : Int) (k : Nat) : B_Member a (k : Int) = some ((andI (shrI a (k : Int)) 1) == 1) := by
  unfold B_Member
  rw [need_of (by simp)]
end Go.Proofs.YticodohfokgjfaaDoor

set_option linter.unusedVariables false
set_option linter.unusedSimpArgs false
namespace Go.Proofs.YticodohfokgjfaaDoor
open Go Go.Fx
end Go.Proofs.YticodohfokgjfaaDoor

set_option linter.unusedVariables false
set_option linter.unusedSimpArgs false
namespace Go.Proofs.YticodohfokgjfaaDoor
open Go Go.Fx
abbrev PP (b : CoalBook) : List Ref06_truth := (TT b).map (phi b.Days.length)
end Go.Proofs.YticodohfokgjfaaDoor

set_option linter.unusedVariables false
set_option linter.unusedSimpArgs false
namespace Go.Proofs.YticodohfokgjfaaDoor
open Go Go.Fx
/-- how long its lists can be -/
structure ArgW (b : CoalBook) : Prop where
  dw : b.Days.length * 24 ≤ 140737488355328
  pw : b.Dips.length * 24 ≤ 140737488355328
  el : b.Eats.length = 2
  xl : b.Extra.length = 3
theorem ArgW.arg {b : CoalBook} (W : ArgW b) : Arg b := ⟨by have := W.dw; omega, by have := W.pw; omega, W.el, W.xl⟩
end Go.Proofs.YticodohfokgjfaaDoor

set_option linter.unusedVariables false
set_option linter.unusedSimpArgs false
namespace Go.Proofs.YticodohfokgjfaaDoor
open Go Go.Fx
theorem fits_small {m bb : Nat} (h : m ≤ 1000000) (hb : bb ≤ 1000) : fitsL m bb = true := fits_of (by omega) (by omega)
theorem shr_nat (s k : Nat) (hk : k < 64) : shrI (s : Int) (k : Int) = ((s / 2 ^ k : Nat) : Int) := by
  unfold shrI
  rw [show min ((k : Int).toNat) 64 = k by simp; omega, Int.fdiv_eq_ediv_of_nonneg _ (by exact_mod_cast Int.natCast_nonneg (2 ^ k))]
  simp
theorem and1_nat (m : Nat) : andI (m : Int) 1 = ((m % 2 : Nat) : Int) := by
  unfold andI
  have h1 : BitVec.ofInt 64 (m : Int) = BitVec.ofNat 64 m := BitVec.ofInt_natCast 64 m
  have h2 : BitVec.ofInt 64 1 = BitVec.ofNat 64 1 := rfl
  rw [h1, h2, BitVec.toNat_and]
  simp only [BitVec.toNat_ofNat]
  have : m % 2 ^ 64 &&& 1 % 2 ^ 64 = m % 2 := by
    rw [show 1 % 2 ^ 64 = 1 by decide, Nat.and_one_is_mod]; omega
  rw [this, wrI (by omega) (by omega)]
theorem member_nat (s k : Nat) (hk : k < 64) : B_Member (s : Int) (k : Int) = some (s.testBit k) := by
  unfold B_Member
  rw [need_of (by simp), shr_nat s k hk, and1_nat, Nat.testBit_eq_decide_div_mod_eq]
  congr 1
  rw [Bool.eq_iff_iff]
  simp only [beq_iff_eq, decide_eq_true_eq]
  omega
/-- the members of a set, below n -/
def memL (s n : Nat) : List Int := ((List.range n).filter fun k => s.testBit k).map Int.ofNat
theorem memL_succ (s n : Nat) : memL s (n + 1) = memL s n ++ (if s.testBit n = true then [(n : Int)] else []) := by
  unfold memL
  rw [List.range_succ, List.filter_append, List.map_append]
  congr 1
  by_cases h : s.testBit n = true <;> simp [h]
theorem mem_memL {s n : Nat} {x : Int} : x ∈ memL s n ↔ ∃ k : Nat, x = k ∧ k < n ∧ s.testBit k = true := by
  unfold memL
  rw [List.mem_map]
  constructor
  · rintro ⟨k, hk, rfl⟩
    obtain ⟨h1, h2⟩ := List.mem_filter.1 hk
    exact ⟨k, rfl, List.mem_range.1 h1, h2⟩
  · rintro ⟨k, rfl, h1, h2⟩
    exact ⟨k, List.mem_filter.2 ⟨List.mem_range.2 h1, h2⟩, rfl⟩
theorem memL_len (s n : Nat) : (memL s n).length ≤ n := by
  unfold memL
  rw [List.length_map]
  have := List.length_filter_le (fun k => s.testBit k) (List.range n)
  simpa using this
theorem members_nat (s : Nat) {n : Nat} (hn : n ≤ 32) : B_Members (s : Int) (n : Int) = some (memL s n) := by
  unfold B_Members
  refine Exists.elim (loopF_inv (body := B_Members_l2 n s) (fun z : List Int × Int => ∃ k : Nat, k ≤ n ∧ z = (memL s k, (k : Int))) (fun z => n - z.2.toNat) (fun l => l = memL s n) ?_ big ([], 0) ⟨0, Nat.zero_le _, rfl⟩ (by unfold big; simp; omega)) fun r ⟨h1, h2⟩ => by rw [h1, h2]
  rintro rec z ⟨k, hk, rfl⟩ ih
  unfold B_Members_l2
  simp only
  by_cases hlt : k < n
  · rw [decide_eq_true (by omega), cond_true, member_nat s k (by omega), Option.bind_some, wrI (by omega) (by omega)]
    have hl := memL_len s k
    cases hb : s.testBit k
    · rw [cond_false]
      exact ih _ ⟨k + 1, by omega, by rw [memL_succ, hb]; simp⟩ (by (try simp); omega)
    · rw [cond_true, need_of (fits_small (by simp; omega) (by omega))]
      exact ih _ ⟨k + 1, by omega, by rw [memL_succ, hb]; simp⟩ (by (try simp); omega)
  · rw [decide_eq_false (by omega), cond_false]
    have : k = n := by omega
    subst this
    exact ⟨_, rfl, rfl⟩
/-! which list comes first -/
def Btr (o w : List Int) : Prop := o.length < w.length ∨ (o.length = w.length ∧ LexLt o w)
theorem LexLt.trans {a b c : List Int} (h : LexLt a b) (k : LexLt b c) : LexLt a c := by
  obtain ⟨i, x, y, h1, h2, h3, h4⟩ := h
  obtain ⟨j, u, v, k1, k2, k3, k4⟩ := k
  rcases Nat.lt_trichotomy i j with e | e | e
  · exact ⟨i, x, y, h1, by rw [← k4 i e]; exact h2, h3, fun m hm => by rw [h4 m hm, k4 m (by omega)]⟩
  · subst e
    rw [h2] at k1; have := Option.some.inj k1
    exact ⟨i, x, v, h1, k2, by omega, fun m hm => by rw [h4 m hm, k4 m hm]⟩
  · exact ⟨j, u, v, by rw [h4 j e]; exact k1, k2, k3, fun m hm => by rw [h4 m (by omega), k4 m hm]⟩
theorem Btr.trans {a b c : List Int} (h : Btr a b) (k : Btr b c) : Btr a c := by
  rcases h with h | ⟨h, h'⟩ <;> rcases k with k | ⟨k, k'⟩
  · exact .inl (by omega)
  · exact .inl (by omega)
  · exact .inl (by omega)
  · exact .inr ⟨by omega, h'.trans k'⟩
end Go.Proofs.YticodohfokgjfaaDoor

/- All truths of a book, as a list, and what a range over them comes to. -/
import Derived.Test.YticodohfokgjfaaDoorZPBase
set_option linter.unusedVariables false
set_option linter.unusedSimpArgs false
namespace Go.Proofs.YticodohfokgjfaaDoor
open Go Go.Fx
/-- what yield comes to, one after the other -/
def foldY {ε σ : Type} (yv : ε → σ → Option (Bool × σ)) : List ε → σ → Option (Bool × σ)
  | [], s => some (true, s)
  | x :: l, s => (yv x s).bind fun r => bif r.1 then foldY yv l r.2 else some (false, r.2)
theorem foldY_app {ε σ : Type} (yv : ε → σ → Option (Bool × σ)) : ∀ (l m : List ε) (s : σ), foldY yv (l ++ m) s = (foldY yv l s).bind fun r => bif r.1 then foldY yv m r.2 else some (false, r.2)
  | [], m, s => rfl
  | x :: l, m, s => by
    show (yv x s).bind (fun r => bif r.1 then foldY yv (l ++ m) r.2 else some (false, r.2)) = Option.bind ((yv x s).bind fun r => bif r.1 then foldY yv l r.2 else some (false, r.2)) _
    cases yv x s with
    | none => rfl
    | some r =>
      obtain ⟨b, s2⟩ := r
      cases b with
      | true => exact foldY_app yv l m s2
      | false => rfl
/-- a range within a range -/
def codeOf {σ : Type} (r : Bool × σ) : Bool × Nat × σ := (r.1, bif r.1 then 0 else 1, r.2)
theorem foldY_nest {ε δ σ : Type} (yv : δ → σ → Option (Bool × σ)) (f : ε → List δ) (bd : ε → σ → Option (Bool × Nat × σ)) (L : List ε) (hb : ∀ x ∈ L, ∀ z, bd x z = (foldY yv (f x) z).map codeOf) : ∀ z, foldY (yvOf bd) L (0, z) = (foldY yv (L.flatMap f) z).map codeOf := by
  induction L with
  | nil => intro z; rfl
  | cons x L ih =>
    intro z
    rw [List.flatMap_cons, foldY_app]
    show (yvOf bd x (0, z)).bind (fun r => bif r.1 then foldY (yvOf bd) L r.2 else some (false, r.2)) = _
    rw [show yvOf bd x (0, z) = bd x z from rfl, hb x (List.mem_cons_self ..) z]
    cases foldY yv (f x) z with
    | none => rfl
    | some r =>
      obtain ⟨b, s2⟩ := r
      cases b with
      | true => exact ih (fun x hx => hb x (List.mem_cons_of_mem _ hx)) s2
      | false => rfl
theorem foldY_one {ε σ : Type} (yv : ε → σ → Option (Bool × σ)) (x : ε) (s : σ) : foldY yv [x] s = yv x s := by
  show (yv x s).bind (fun r => bif r.1 then some (true, r.2) else some (false, r.2)) = _
  cases yv x s with
  | none => rfl
  | some r => obtain ⟨b, s2⟩ := r; cases b <;> rfl
/-- no early end -/
theorem foldY_all {ε σ : Type} (bd : ε → σ → Option (Bool × Nat × σ)) (g : σ → ε → σ) : ∀ (L : List ε), (∀ x ∈ L, ∀ z, bd x z = some (true, 0, g z x)) → ∀ z, foldY (yvOf bd) L (0, z) = some (true, 0, L.foldl g z)
  | [], _, z => rfl
  | x :: L, h, z => by
    show (bd x z).bind (fun r => bif r.1 then foldY (yvOf bd) L r.2 else some (false, r.2)) = _
    rw [h x (List.mem_cons_self ..) z]
    exact foldY_all bd g L (fun x hx => h x (List.mem_cons_of_mem _ hx)) _
/-- an end at the first that is meant -/
theorem foldY_find {ε σ : Type} (bd : ε → σ → Option (Bool × Nat × σ)) (p : ε → Bool) (s0 s1 : σ) : ∀ (L : List ε), (∀ x ∈ L, bd x s0 = some (bif p x then (false, 1, s1) else (true, 0, s0))) → foldY (yvOf bd) L (0, s0) = some (bif L.any p then (false, 1, s1) else (true, 0, s0))
  | [], _ => rfl
  | x :: L, h => by
    show (bd x s0).bind (fun r => bif r.1 then foldY (yvOf bd) L r.2 else some (false, r.2)) = _
    rw [h x (List.mem_cons_self ..), List.any_cons]
    cases hp : p x with
    | true => rfl
    | false => exact foldY_find bd p s0 s1 L fun x hx => h x (List.mem_cons_of_mem _ hx)
/-- the numbers of a span -/
def rng (s : Span) : List Int := (List.range' 0 (s.High - s.Low + 1).toNat).map fun (k : Nat) => s.Low + k
theorem rng_mem {s : Span} {n : Int} : n ∈ rng s ↔ s.Low ≤ n ∧ n ≤ s.High := by
  unfold rng
  simp only [List.mem_map, List.mem_range'_1]
  constructor
  · rintro ⟨k, hk, rfl⟩; omega
  · rintro ⟨h1, h2⟩; exact ⟨(n - s.Low).toNat, by omega, by omega⟩
structure Sp (s : Span) : Prop where
  l0 : 0 ≤ s.Low
  lh : s.Low ≤ s.High
  hi : s.High ≤ 1000
theorem sp_of {s : Span} {hi wide : Int} (h : spB s hi wide = true) (hh : hi ≤ 1000) : Sp s := by
  unfold spB at h
  simp only [Bool.and_eq_true, decide_eq_true_eq] at h
  exact ⟨h.1.1.1, h.1.1.2, by omega⟩
theorem all_eq {σ : Type} (s : Span) (S : Sp s) (yv : Int → σ → Option (Bool × σ)) (z : σ) : coal_all_1 z s yv = (foldY yv (rng s) z).map (·.2) := by
  have h1 := S.l0; have h2 := S.lh; have h3 := S.hi
  have key : ∀ (d k m : Nat) (z : σ), k + d = (s.High - s.Low + 1).toNat → d < m → loopF (coal_all_1_l1 s yv) m ((k : Int), z) = (foldY yv ((List.range' k d).map fun (k : Nat) => s.Low + k) z).map (·.2) := by
    intro d
    induction d with
    | zero =>
      intro k m z h4 h5
      obtain ⟨m, rfl⟩ : ∃ q, m = q + 1 := ⟨m - 1, by omega⟩
      show coal_all_1_l1 s yv (loopF (coal_all_1_l1 s yv) m) ((k : Int), z) = _
      unfold coal_all_1_l1
      simp only
      rw [wrI (x := s.High - s.Low) (by omega) (by omega), wrI (x := s.High - s.Low + 1) (by omega) (by omega), decide_eq_false (by omega), cond_false]
      rfl
    | succ d ih =>
      intro k m z h4 h5
      obtain ⟨m, rfl⟩ : ∃ q, m = q + 1 := ⟨m - 1, by omega⟩
      suffices H : ∀ rec : (Int × σ) → Option σ, (∀ z2, rec (((k + 1 : Nat) : Int), z2) = (foldY yv ((List.range' (k + 1) d).map fun (k : Nat) => s.Low + k) z2).map (·.2)) → coal_all_1_l1 s yv rec ((k : Int), z) = (foldY yv ((List.range' k (d + 1)).map fun (k : Nat) => s.Low + k) z).map (·.2) from H _ fun z2 => ih (k + 1) m z2 (by omega) (by omega)
      intro rec hrec
      rw [List.range'_succ, List.map_cons]
      show _ = Option.map _ ((yv (s.Low + (k : Int)) z).bind fun r => bif r.1 then foldY yv _ r.2 else some (false, r.2))
      unfold coal_all_1_l1
      simp only
      rw [wrI (x := s.High - s.Low) (by omega) (by omega), wrI (x := s.High - s.Low + 1) (by omega) (by omega), decide_eq_true (by omega), cond_true, wrI (x := s.Low + k) (by omega) (by omega)]
      cases yv (s.Low + (k : Int)) z with
      | none => rfl
      | some r =>
        obtain ⟨b, z2⟩ := r
        cases b with
        | false => rfl
        | true =>
          show rec (Fx.wr ((k : Int) + 1), z2) = Option.map _ (foldY yv _ z2)
          rw [wrI (by omega) (by omega), show (k : Int) + 1 = ((k + 1 : Nat) : Int) by omega]
          exact hrec z2
  exact key (s.High - s.Low + 1).toNat 0 big z (by omega) (by rw [big_eq]; omega)
/-- a range over the numbers of a span whose body is a range -/
theorem all_nest {δ σ : Type} (s : Span) (S : Sp s) (yv : δ → σ → Option (Bool × σ)) (f : Int → List δ) (bd : Int → σ → Option (Bool × Nat × σ)) (hb : ∀ x ∈ rng s, ∀ z, bd x z = (foldY yv (f x) z).map codeOf) (z : σ) :
    coal_all_1 (0, z) s (yvOf bd) = (foldY yv ((rng s).flatMap f) z).map fun r => (bif r.1 then 0 else 1, r.2) := by
  rw [all_eq s S, foldY_nest yv f bd _ hb, Option.map_map]; rfl
/-! the measures of a day -/
def rightB (q : Coal_book) (day n : Int) : Bool := q.CoalBook.Dips.all fun x => !(x.Day == day) || inB (n - x.Read) (-x.Error) x.Error
/-- what a book in the calculation is like -/
structure Op (q : Coal_book) : Prop where
  hp : Sp q.CoalBook.Heap
  co : Sp q.CoalBook.Collier
  el : q.CoalBook.Eats.length = 2
  ea : ∀ s ∈ q.CoalBook.Eats, Sp s ∧ s.High ≤ 9
  dn : q.CoalBook.Days.length ≤ 6
  da : ∀ x ∈ q.CoalBook.Days, 0 ≤ x.Crosses ∧ x.Crosses ≤ 9
  br : 0 ≤ q.CoalBook.Brings ∧ q.CoalBook.Brings ≤ 400
  pn : q.CoalBook.Dips.length ≤ 10
  di : ∀ x ∈ q.CoalBook.Dips, 0 ≤ x.Read ∧ x.Read ≤ 2000 ∧ 0 ≤ x.Error ∧ x.Error ≤ 9
  cs : ∀ p ∈ q.costs_, 0 ≤ p.2 ∧ p.2 ≤ 81
theorem right_eq (q : Coal_book) (Q : Op q) (day n : Int) (h1 : -100000 ≤ n) (h2 : n ≤ 100000) : coal_book_right q day n = some (rightB q day n) := by
  have hn := Q.pn
  have key : ∀ (d k m : Nat), k + d = q.CoalBook.Dips.length → d < m → loopF (coal_book_right_l1 q day n) m (k : Int) = some ((q.CoalBook.Dips.drop k).all fun x => !(x.Day == day) || inB (n - x.Read) (-x.Error) x.Error) := by
    intro d
    induction d with
    | zero =>
      intro k m h4 h5
      obtain ⟨m, rfl⟩ : ∃ q, m = q + 1 := ⟨m - 1, by omega⟩
      show coal_book_right_l1 q day n (loopF (coal_book_right_l1 q day n) m) (k : Int) = _
      unfold coal_book_right_l1
      rw [decide_eq_false (by omega), cond_false, List.drop_eq_nil_of_le (by omega)]
      rfl
    | succ d ih =>
      intro k m h4 h5
      obtain ⟨m, rfl⟩ : ∃ q, m = q + 1 := ⟨m - 1, by omega⟩
      suffices H : ∀ rec : Int → Option Bool, rec ((k + 1 : Nat) : Int) = some ((q.CoalBook.Dips.drop (k + 1)).all fun x => !(x.Day == day) || inB (n - x.Read) (-x.Error) x.Error) → coal_book_right_l1 q day n rec (k : Int) = some ((q.CoalBook.Dips.drop k).all fun x => !(x.Day == day) || inB (n - x.Read) (-x.Error) x.Error) from H _ (ih (k + 1) m (by omega) (by omega))
      intro rec hrec
      have hk : k < q.CoalBook.Dips.length := by omega
      obtain ⟨g1, g2, g3, g4⟩ := Q.di _ (List.getElem_mem hk)
      unfold coal_book_right_l1
      rw [decide_eq_true (by omega), cond_true, getI_ix hk, Option.bind_some, List.drop_eq_getElem_cons hk, List.all_cons, wrI (x := n - _) (by omega) (by omega), wrI (x := -_) (by omega) (by omega), within_eq, Option.bind_some, wrI (x := (k : Int) + 1) (by omega) (by omega), show (k : Int) + 1 = ((k + 1 : Nat) : Int) by omega, hrec]
      cases (q.CoalBook.Dips[k].Day == day) <;> cases inB (n - q.CoalBook.Dips[k].Read) (-q.CoalBook.Dips[k].Error) q.CoalBook.Dips[k].Error <;> rfl
  have := key q.CoalBook.Dips.length 0 big (by omega) (by rw [big_eq]; omega)
  exact this
/-! what engines eat -/
def eng (q : Coal_book) (day : Int) (e : List Int) : Int :=
  match q.CoalBook.Days[day.toNat]? with
  | none => 0
  | some x => (bif (andI (shrI x.Engines 0) 1) == 1 then e.getD 0 0 * x.Crosses else 0) + (bif (andI (shrI x.Engines 1) 1) == 1 then e.getD 1 0 * x.Crosses else 0)
theorem sum_bd : ∀ (l : List Int), (∀ x ∈ l, 0 ≤ x ∧ x ≤ 81) → 0 ≤ l.sum ∧ l.sum ≤ 81 * (l.length : Int)
  | [], _ => by simp
  | a :: l, h => by
    have h1 := h a (List.mem_cons_self ..)
    have h2 := sum_bd l fun x hx => h x (List.mem_cons_of_mem _ hx)
    simp only [List.sum_cons, List.length_cons]
    omega
theorem sum_eq (l : List Int) (hl : l.length ≤ 2) (hb : ∀ x ∈ l, 0 ≤ x ∧ x ≤ 81) : coal_sum_int l = some l.sum := by
  unfold coal_sum_int
  refine loop_fold0 (fun k => ((l.take k).sum, (k : Int))) l.length (fun rec k hk => ?_) (fun rec => ?_) (by rw [big_eq]; omega) rfl
  · unfold coal_sum_int_l1
    simp only
    have h1 := sum_bd (l.take k) fun x hx => hb x (List.mem_of_mem_take hx)
    have h2 := hb _ (List.getElem_mem hk)
    have h3 : (l.take k).length ≤ 2 := by rw [List.length_take]; omega
    rw [decide_eq_true (by omega), cond_true, getI_ix hk, Option.bind_some, wrI (by omega) (by omega), wrI (by omega) (by omega), ← List.take_append_getElem hk, List.sum_append]
    simp
  · unfold coal_sum_int_l1
    simp only
    rw [decide_eq_false (by omega), cond_false, List.take_length]
theorem engines_eq (q : Coal_book) (Q : Op q) (d : Nat) (hd : d < q.CoalBook.Days.length) (e : List Int) (he : e.length = 2) (hb : ∀ x ∈ e, 0 ≤ x ∧ x ≤ 9) : coal_book_engines q d e = some (eng q d e) ∧ 0 ≤ eng q d e ∧ eng q d e ≤ 162 := by
  have hx := Q.da _ (List.getElem_mem hd)
  match e, he with
  | [a, b], _ =>
    have ha := hb a (by simp); have hb' := hb b (by simp)
    have eE : eng q d [a, b] = (bif (andI (shrI q.CoalBook.Days[d].Engines 0) 1) == 1 then a * q.CoalBook.Days[d].Crosses else 0) + (bif (andI (shrI q.CoalBook.Days[d].Engines 1) 1) == 1 then b * q.CoalBook.Days[d].Crosses else 0) := by
      unfold eng
      rw [show ((d : Int)).toNat = d from rfl, List.getElem?_eq_getElem hd]; rfl
    generalize hX : q.CoalBook.Days[d] = X at *
    have m1 : 0 ≤ a * X.Crosses := Int.mul_nonneg ha.1 hx.1
    have m2 : 0 ≤ b * X.Crosses := Int.mul_nonneg hb'.1 hx.1
    have m3 : a * X.Crosses ≤ 9 * 9 := Int.mul_le_mul ha.2 hx.2 hx.1 (by omega)
    have m4 : b * X.Crosses ≤ 9 * 9 := Int.mul_le_mul hb'.2 hx.2 hx.1 (by omega)
    have hg : getI q.CoalBook.Days (d : Int) = some X := by rw [getI_ix hd, hX]
    refine ⟨?_, ?_⟩
    · rw [eE]
      unfold coal_book_engines coal_nothing
      rw [Option.bind_some]
      by_cases hz : sgl [a, b] 2 = sgl (List.replicate 2 0) 2
      · rw [decide_eq_true hz, cond_true]
        have : a = 0 ∧ b = 0 := by simpa [sgl, List.range_succ] using hz
        obtain ⟨rfl, rfl⟩ := this
        simp
      · rw [decide_eq_false hz, cond_false]
        generalize hp0 : (andI (shrI X.Engines 0) 1 == 1) = c0
        generalize hp1 : (andI (shrI X.Engines 1) 1 == 1) = c1
        have w1 : wr (a * X.Crosses) = a * X.Crosses := wrI (by omega) (by omega)
        have w2 : wr (b * X.Crosses) = b * X.Crosses := wrI (by omega) (by omega)
        refine loop_fold0 (fun k => ((bif decide (1 ≤ k) && c0 then [a * X.Crosses] else []) ++ (bif decide (2 ≤ k) && c1 then [b * X.Crosses] else []), (k : Int))) 2 (fun rec k hk => ?_) (fun rec => ?_) (by rw [big_eq]; omega) rfl
        · unfold coal_book_engines_l1
          match k, hk with
          | 0, _ =>
            simp only [show decide (((0 : Nat) : Int) < 2) = true by decide, cond_true, hg, Option.bind_some, show inI ((0 : Nat) : Int) 2 = true by decide, need_true, show decide ((0 : Int) ≤ ((0 : Nat) : Int)) = true by decide, show aget [a, b] ((0 : Nat) : Int) = a from rfl, w1]
            rw [show ((0 : Nat) : Int) = 0 from rfl, hp0]
            cases c0 with
            | true => rw [cond_true, need_of (by simp [fitsL])]; rfl
            | false => rfl
          | 1, _ =>
            simp only [show decide (((1 : Nat) : Int) < 2) = true by decide, cond_true, hg, Option.bind_some, show inI ((1 : Nat) : Int) 2 = true by decide, need_true, show decide ((0 : Int) ≤ ((1 : Nat) : Int)) = true by decide, show aget [a, b] ((1 : Nat) : Int) = b from rfl, w2]
            rw [show ((1 : Nat) : Int) = 1 from rfl, hp1]
            cases c1 with
            | true => cases c0 <;> (rw [cond_true, need_of (by simp [fitsL])]; rfl)
            | false => cases c0 <;> rfl
        · unfold coal_book_engines_l1
          simp only [show decide (((2 : Nat) : Int) < 2) = false by decide, cond_false, show decide (1 ≤ 2) = true by decide, show decide (2 ≤ 2) = true by decide, Bool.true_and]
          rw [sum_eq _ (by cases c0 <;> cases c1 <;> simp) (fun x hx => by cases c0 <;> cases c1 <;> simp at hx <;> omega)]
          cases c0 <;> cases c1 <;> simp
    · rw [eE]
      cases (andI (shrI X.Engines 0) 1 == 1) <;> cases (andI (shrI X.Engines 1) 1 == 1) <;> simp only [cond_true, cond_false] <;> omega
end Go.Proofs.YticodohfokgjfaaDoor

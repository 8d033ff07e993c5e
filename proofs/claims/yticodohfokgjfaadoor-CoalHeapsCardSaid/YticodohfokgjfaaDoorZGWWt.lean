/- What the reference tells of a book: heaps, eating and winds. -/
import Derived.Test.YticodohfokgjfaaDoorZGPRef2
import Derived.KernelRfl
set_option linter.unusedVariables false
set_option linter.unusedSimpArgs false
namespace Go.Proofs.YticodohfokgjfaaDoor
open Go Go.Fx
theorem okloop {α R : Type} (l : List α) (p : α → Bool) {body : ((Bool × Int) → Option R) → (Bool × Int) → Option R} (K : Bool → Option R) (h0 : ∀ rec i, body rec (false, i) = K false) (h1 : ∀ rec k (hk : k < l.length), body rec (true, (k : Int)) = rec (p l[k], ((k + 1 : Nat) : Int)))
    (h2 : ∀ rec, body rec (true, (l.length : Int)) = K true) (hn : l.length < big - 1) (ok : Bool) : loopF body big (ok, 0) = K (ok && l.all p) := by
  have key : ∀ (e k m : Nat) (ok : Bool), k + e = l.length → e < m → loopF body m (ok, (k : Int)) = K (ok && (l.drop k).all p) := by
    intro e
    induction e with
    | zero =>
      intro k m ok g1 g2
      obtain ⟨m, rfl⟩ : ∃ q, m = q + 1 := ⟨m - 1, by omega⟩
      show body (loopF body m) (ok, (k : Int)) = _
      cases ok with
      | false => exact h0 _ _
      | true =>
        rw [show k = l.length by omega, h2]; simp
    | succ e ih =>
      intro k m ok g1 g2
      obtain ⟨m, rfl⟩ : ∃ q, m = q + 1 := ⟨m - 1, by omega⟩
      show body (loopF body m) (ok, (k : Int)) = _
      cases ok with
      | false => exact h0 _ _
      | true =>
        have hk : k < l.length := by omega
        rw [h1 _ k hk, ih (k + 1) m _ (by omega) (by omega), List.drop_eq_getElem_cons hk, List.all_cons, Bool.true_and]
  have := key l.length 0 big ok (by omega) (by omega)
  exact this
def vB (s : Span) (hi : Int) : Bool := decide (0 ≤ s.Low) && decide (s.Low ≤ s.High) && decide (s.High ≤ hi)
theorem valid_eq (s : Span) (hi : Int) : B_Valid s 0 hi = some (vB s hi) := by
  unfold B_Valid vB
  by_cases h1 : 0 ≤ s.Low <;> by_cases h2 : s.Low ≤ s.High <;> by_cases h3 : s.High ≤ hi <;> simp [h1, h2, h3] <;> omega
theorem spB_vB (s : Span) (hi w : Int) : spB s hi w = (vB s hi && decide (s.High - s.Low ≤ w)) := rfl
theorem vB_iff {s : Span} {hi : Int} (h : vB s hi = true) : 0 ≤ s.Low ∧ s.Low ≤ s.High ∧ s.High ≤ hi := by
  unfold vB at h
  simp only [Bool.and_eq_true, decide_eq_true_eq] at h
  exact ⟨h.1.1, h.1.2, h.2⟩
theorem refDay_eq (x : CoalDay) : ref_day x = some (dayB x) := by
  unfold ref_day dayB
  simp only [inside_eq, Option.bind_some]
  cases inB x.Crosses 0 9 <;> cases inB x.Engines 1 3 <;> cases inB x.Winds 1 7 <;> rfl
theorem refIsDay_eq (b : CoalBook) (A : Arg b) (n : Int) : ref_isDay b n = some (inB n 0 ((b.Days.length : Int) - 1)) := by
  have := A.dl
  unfold ref_isDay
  rw [wrI (by omega) (by omega), inside_eq, Option.bind_some]
theorem refDip_eq (b : CoalBook) (A : Arg b) (x : CoalDip) : ref_dip b x = some (dipB b.Days.length x) := by
  unfold ref_dip dipB
  simp only [refIsDay_eq b A, inside_eq, Option.bind_some]
  cases inB x.Day 0 ((b.Days.length : Int) - 1) <;> cases inB x.Read 0 800 <;> cases inB x.Error 0 9 <;> rfl
theorem big_lt {n : Nat} (h : n ≤ 9223372036854775807) : n < big - 1 := by rw [big_eq]; omega
theorem refTail_eq (b : CoalBook) (A : Arg b) (ok : Bool) : ref_Check_j17 b ok = some (bif ok && b.Eats.all (spB · 9 2) && b.Extra.all (inB · 0 9) && b.Days.all dayB && b.Dips.all (dipB b.Days.length) then 0 else 60) := by
  have h1 := A.dl; have h2 := A.pl; have h3 := A.el; have h4 := A.xl
  have e9 : ∀ ok, ref_Check_j9 ok = some (bif ok then 0 else 60) := fun ok => by cases ok <;> rfl
  have e11 : ∀ ok, ref_Check_j11 b ok = some (bif ok && b.Dips.all (dipB b.Days.length) then 0 else 60) := fun ok => by
    unfold ref_Check_j11
    rw [okloop b.Dips (dipB b.Days.length) ref_Check_j9 (fun rec i => rfl) (fun rec k hk => ?_) (fun rec => ?_) (big_lt h2), e9]
    · unfold ref_Check_l10
      simp only [cond_true]
      rw [decide_eq_true (by omega), cond_true, getI_ix hk, Option.bind_some, refDip_eq b A, Option.bind_some, wrN hk h2]
    · unfold ref_Check_l10
      simp only [cond_true]
      rw [decide_eq_false (by omega), cond_false]
  have e13 : ∀ ok, ref_Check_j13 b ok = some (bif ok && b.Days.all dayB && b.Dips.all (dipB b.Days.length) then 0 else 60) := fun ok => by
    unfold ref_Check_j13
    rw [okloop b.Days dayB (ref_Check_j11 b) (fun rec i => rfl) (fun rec k hk => ?_) (fun rec => ?_) (big_lt h1), e11]
    · unfold ref_Check_l12
      simp only [cond_true]
      rw [decide_eq_true (by omega), cond_true, getI_ix hk, Option.bind_some, refDay_eq, Option.bind_some, wrN hk h1]
    · unfold ref_Check_l12
      simp only [cond_true]
      rw [decide_eq_false (by omega), cond_false]
  have e15 : ∀ ok, ref_Check_j15 b ok = some (bif ok && b.Extra.all (inB · 0 9) && b.Days.all dayB && b.Dips.all (dipB b.Days.length) then 0 else 60) := fun ok => by
    unfold ref_Check_j15
    rw [okloop b.Extra (inB · 0 9) (ref_Check_j13 b) (fun rec i => rfl) (fun rec k hk => ?_) (fun rec => ?_) (big_lt (by omega)), e13]
    · unfold ref_Check_l14
      simp only [cond_true]
      rw [decide_eq_true (by omega), cond_true, need_of (by simp [inI]; omega), inside_eq, Option.bind_some, wrN hk (by omega), show aget b.Extra (k : Int) = b.Extra[k] by simp [aget, List.getD_eq_getElem?_getD, hk]]
    · unfold ref_Check_l14
      simp only [cond_true]
      rw [decide_eq_false (by omega), cond_false]
  unfold ref_Check_j17
  rw [okloop b.Eats (spB · 9 2) (ref_Check_j15 b) (fun rec i => rfl) (fun rec k hk => ?_) (fun rec => ?_) (big_lt (by omega)), e15]
  · unfold ref_Check_l16
    simp only [cond_true]
    rw [decide_eq_true (by omega), cond_true, need_of (by simp [inI]; omega), valid_eq, Option.bind_some, wrN hk (by omega), show agetS b.Eats (k : Int) = b.Eats[k] by simp [agetS, List.getD_eq_getElem?_getD, hk], spB_vB]
    cases hv : vB b.Eats[k] 9 with
    | false => rfl
    | true =>
      obtain ⟨v1, v2, v3⟩ := vB_iff hv
      rw [cond_true, need_of (by simp [inI]; omega), need_of (by simp [inI]; omega), wrI (by omega) (by omega), Bool.true_and]
  · unfold ref_Check_l16
    simp only [cond_true]
    rw [decide_eq_false (by omega), cond_false]
theorem refCheck_eq (b : CoalBook) (A : Arg b) : ref_Check b = some (bif valB b then 0 else 60) := by
  have h1 := A.dl; have h2 := A.pl
  unfold ref_Check valB
  rw [valid_eq, Option.bind_some, spB_vB, spB_vB]
  cases hv : vB b.Heap 400 with
  | false => simp [refTail_eq b A]
  | true =>
    obtain ⟨v1, v2, v3⟩ := vB_iff hv
    rw [cond_true, wrI (by omega) (by omega), Bool.true_and]
    cases hw : decide (b.Heap.High - b.Heap.Low ≤ 4) with
    | false => simp [refTail_eq b A]
    | true =>
      rw [cond_true, inside_eq, Option.bind_some, Bool.true_and]
      cases hd : inB (b.Days.length : Int) 1 6 with
      | false => simp [refTail_eq b A]
      | true =>
        rw [cond_true, valid_eq, Option.bind_some, Bool.true_and]
        cases hc : vB b.Collier (b.Days.length : Int) with
        | false => simp [refTail_eq b A]
        | true =>
          obtain ⟨c1, c2, c3⟩ := vB_iff hc
          rw [cond_true, wrI (by omega) (by omega), Bool.true_and]
          cases hw2 : decide (b.Collier.High - b.Collier.Low ≤ 3) with
          | false => simp [refTail_eq b A]
          | true =>
            rw [cond_true, inside_eq, Option.bind_some, Bool.true_and]
            cases hb : inB b.Brings 0 400 with
            | false => simp [refTail_eq b A]
            | true => simp [refTail_eq b A]
abbrev PP (b : CoalBook) : List Ref06_truth := (TT b).map (phi b.Days.length)
theorem TT_len {b : CoalBook} (V : Val b) (A : Arg b) : (TT b).length ≤ 1000000 := by
  have hdn := V.dn
  have sp : ∀ {s : Span} {hi wide : Int}, spB s hi wide = true → s.High - s.Low ≤ wide := fun {s hi wide} h => by
    unfold spB at h
    simp only [Bool.and_eq_true, decide_eq_true_eq] at h
    exact h.2
  have hE0 := sp (V.ea _ (agetS_mem (l := b.Eats) (i := 0) (by rw [A.el]; decide)))
  have hE1 := sp (V.ea _ (agetS_mem (l := b.Eats) (i := 1) (by rw [A.el]; decide)))
  have hH := sp V.hp; have hC := sp V.co
  have rl : ∀ (s : Span) (k : Nat), s.High - s.Low + 1 ≤ k → (rng s).length ≤ k := fun s k h => by unfold rng; simp; omega
  have bl : ∀ (t : Coal_truth) (h : Int), (blown (opn b []) (opn b []).CoalBook.Days.length t 0 h).length ≤ 729 := fun t h => Nat.le_trans (blown_len _ _ _ _ _) (Nat.le_trans (Nat.pow_le_pow_right (by omega) (show (opn b []).CoalBook.Days.length ≤ 6 from hdn.2)) (by decide))
  unfold TT truths
  refine Nat.le_trans (flatMap_len _ 26244 _ fun h _ => ?_) (Nat.le_trans (Nat.mul_le_mul_right 26244 (rl _ 5 (by show b.Heap.High - b.Heap.Low + 1 ≤ _; omega))) (by decide))
  refine Nat.le_trans (flatMap_len _ 8748 _ fun o _ => ?_) (Nat.le_trans (Nat.mul_le_mul_right 8748 (rl _ 3 (by show (agetS b.Eats (0 : Int)).High - (agetS b.Eats (0 : Int)).Low + 1 ≤ _; omega))) (by decide))
  refine Nat.le_trans (flatMap_len _ 2916 _ fun p _ => ?_) (Nat.le_trans (Nat.mul_le_mul_right 2916 (rl _ 3 (by show (agetS b.Eats (1 : Int)).High - (agetS b.Eats (1 : Int)).Low + 1 ≤ _; omega))) (by decide))
  exact Nat.le_trans (flatMap_len _ 729 _ fun c _ => bl _ _) (Nat.le_trans (Nat.mul_le_mul_right 729 (rl _ 4 (by show b.Collier.High - b.Collier.Low + 1 ≤ _; omega))) (by decide))
theorem refAsked_eq {b : CoalBook} (V : Val b) (A : Arg b) : ref_asked b true = some (bif (TT b).isEmpty then ([], 62) else (PP b, 0)) := by
  unfold ref_asked
  rw [refCheck_eq b A, val_iff.2 V, Option.bind_some, refTruths_eq V A]
  simp only [cond_true, bne_self_eq_false, cond_false, Bool.not_true, Option.bind_some]
  rw [show PP b = (TT b).map (phi b.Days.length) from rfl]
  cases h : TT b with
  | nil => rfl
  | cons t L =>
    rw [show ((((t :: L).map (phi b.Days.length)).length : Int) == 0) = false by rw [beq_eq_false_iff_ne]; simp; omega]
    rfl
theorem refBad {b : CoalBook} (A : Arg b) (h : valB b = false) (ok : Bool) : ref_asked b ok = some ([], 60) := by
  unfold ref_asked
  rw [refCheck_eq b A, h]; rfl
theorem refAsk0 {b : CoalBook} (V : Val b) (A : Arg b) : ref_asked b false = some ([], 61) := by
  unfold ref_asked
  rw [refCheck_eq b A, val_iff.2 V]; rfl
theorem coalBad {b : CoalBook} (A : Arg b) (h : valB b = false) (ok : Bool) : ∃ q, coal_asked b ok = some (q, 60) := by
  unfold coal_asked
  rw [check_eq b A, h]; exact ⟨_, rfl⟩
theorem coalAsk0 {b : CoalBook} (V : Val b) (A : Arg b) : ∃ q, coal_asked b false = some (q, 61) := by
  unfold coal_asked
  rw [check_eq b A, val_iff.2 V]; exact ⟨_, rfl⟩
theorem refRight_law {b : CoalBook} (V : Val b) (A : Arg b) : ref_Right b = some (!(TT b).isEmpty, 0) := by
  unfold ref_Right
  rw [refCheck_eq b A, val_iff.2 V, Option.bind_some, refTruths_eq V A]
  simp only [cond_true, bne_self_eq_false, cond_false, Option.bind_some]
  cases h : TT b with
  | nil => rfl
  | cons t L => rw [show decide ((((t :: L).map (phi b.Days.length)).length : Int) > 0) = true by simp]; rfl
theorem point_eq (n : Int) : B_Point n = some ⟨n, n⟩ := rfl
theorem hull_eq (s t : Span) : B_Hull s t = some ⟨if t.Low < s.Low then t.Low else s.Low, if t.High > s.High then t.High else s.High⟩ := rfl
theorem SpanOf.uniq {f : Coal_truth → Int} {L : List Coal_truth} {s t : Span} (S : SpanOf f L s) (T : SpanOf f L t) : s = t := by
  by_cases h : L = []
  · rw [S.nil h, T.nil h]
  · obtain ⟨a, ha, e1⟩ := S.low h; obtain ⟨b, hb, e2⟩ := T.low h; obtain ⟨c, hc, e3⟩ := S.high h; obtain ⟨d, hd, e4⟩ := T.high h
    have := S.le b hb; have := T.le a ha; have := S.ge d hd; have := T.ge c hc
    cases s; cases t; simp only at *
    congr 1 <;> omega
/-- the least and the most of a list, as the reference gathers them -/
theorem hull_loop {f : Coal_truth → Int} {R : Type} {L : List Coal_truth} {body : ((Int × Int × Int) → Option R) → (Int × Int × Int) → Option R} (K : Int → Int → Option R) (hn : L.length ≤ 1000000)
    (hs : ∀ rec k lo hi (h : k < L.length), body rec ((k : Int), lo, hi) = rec (((k + 1 : Nat) : Int), (if f L[k] < lo then f L[k] else lo), (if f L[k] > hi then f L[k] else hi))) (he : ∀ rec lo hi, body rec ((L.length : Int), lo, hi) = K lo hi) (lo hi : Int) :
    ∃ lo' hi', L.foldl (spanG f) (lo, hi, false) = (lo', hi', false) ∧ loopF body big (0, lo, hi) = K lo' hi' := by
  have key : ∀ (e k m : Nat) (lo hi : Int), k + e = L.length → e < m → ∃ lo' hi', (L.drop k).foldl (spanG f) (lo, hi, false) = (lo', hi', false) ∧ loopF body m ((k : Int), lo, hi) = K lo' hi' := by
    intro e
    induction e with
    | zero =>
      intro k m lo hi g1 g2
      obtain ⟨m, rfl⟩ : ∃ q, m = q + 1 := ⟨m - 1, by omega⟩
      refine ⟨lo, hi, by rw [List.drop_eq_nil_of_le (by omega)]; rfl, ?_⟩
      show body (loopF body m) ((k : Int), lo, hi) = _
      rw [show k = L.length by omega, he]
    | succ e ih =>
      intro k m lo hi g1 g2
      obtain ⟨m, rfl⟩ : ∃ q, m = q + 1 := ⟨m - 1, by omega⟩
      have hk : k < L.length := by omega
      obtain ⟨lo', hi', i1, i2⟩ := ih (k + 1) m (if f L[k] < lo then f L[k] else lo) (if f L[k] > hi then f L[k] else hi) (by omega) (by omega)
      refine ⟨lo', hi', by rw [List.drop_eq_getElem_cons hk, List.foldl_cons]; exact i1, ?_⟩
      show body (loopF body m) ((k : Int), lo, hi) = _
      rw [hs _ k _ _ hk, i2]
  exact key L.length 0 big lo hi (by omega) (by rw [big_eq]; omega)
theorem hull_span {f : Coal_truth → Int} {t : Coal_truth} {L : List Coal_truth} {lo hi : Int} (h : (t :: L).foldl (spanG f) (f t, f t, false) = (lo, hi, false)) : SpanOf f (t :: L) ⟨lo, hi⟩ := by
  obtain ⟨lo', hi', h1, h2, h3, h4, h5, h6⟩ := spanG_fold f (t :: L) (f t) (f t)
  rw [h] at h1
  cases h1
  exact ⟨fun h => (by cases h), fun _ => h2.elim (fun e => ⟨t, List.mem_cons_self .., e.symm⟩) id, fun _ => h3.elim (fun e => ⟨t, List.mem_cons_self .., e.symm⟩) id, fun u hu => (h6 u hu).1, fun u hu => (h6 u hu).2⟩
theorem hull_span0 {f : Coal_truth → Int} {lo hi : Int} : ∀ {L : List Coal_truth} (h0 : 0 < L.length), L.foldl (spanG f) (f L[0], f L[0], false) = (lo, hi, false) → SpanOf f L ⟨lo, hi⟩
  | t :: L, _, h => hull_span h
theorem phi_coal {q : Coal_book} {t : Coal_truth} (T : Tru q t) {n d : Nat} (hn : n ≤ 6) (hd : d < n) : getI (phi n t).coal_ (d : Int) = some (coalAt d t) := by
  have hl := T.cl
  unfold phi coalAt
  rw [getI_ix (by simp; omega), List.getElem_take, List.getD_eq_getElem?_getD, List.getElem?_eq_getElem (by omega)]
  rfl
theorem phi_wind {q : Coal_book} {t : Coal_truth} (T : Tru q t) {n d : Nat} (hn : n ≤ 6) (hd : d < n) : getI (phi n t).winds_ (d : Int) = some (t.winds_.getD d 0) := by
  have hl := T.wl
  unfold phi
  rw [getI_ix (by simp; omega), List.getElem_take, List.getD_eq_getElem?_getD, List.getElem?_eq_getElem (by omega)]
  rfl
theorem PP_get {b : CoalBook} {k : Nat} (h : k < (TT b).length) : getI (PP b) (k : Int) = some (phi b.Days.length (TT b)[k]) := by
  rw [getI_ix (by simpa using h), List.getElem_map]
theorem refHeap_law {b : CoalBook} (V : Val b) (A : Arg b) {d : Nat} (hd : d < b.Days.length) : ∃ s, ref_Heap b d = some (s, bif (TT b).isEmpty then 62 else 0) ∧ SpanOf (coalAt d) (TT b) s := by
  have hdn := V.dn
  have hn := TT_len V A
  unfold ref_Heap
  rw [refIsDay_eq b A, Option.bind_some, dayIn hd, refAsked_eq V A, Option.bind_some]
  cases hL : (TT b).isEmpty with
  | true =>
    have h := List.isEmpty_iff.1 hL
    exact ⟨⟨0, 0⟩, rfl, ⟨fun _ => rfl, fun h2 => (h2 h).elim, fun h2 => (h2 h).elim, fun t ht => by rw [h] at ht; (cases ht), fun t ht => by rw [h] at ht; (cases ht)⟩⟩
  | false =>
    have hT : ∀ k (h : k < (TT b).length), Tru (opn b []) (TT b)[k] := fun k h => (truths_tru (opn_op V A []) (List.getElem_mem h)).1
    have h0 : 0 < (TT b).length := by
      cases h : TT b with
      | nil => rw [h] at hL; cases hL
      | cons t L => simp
    simp only [cond_false, bne_self_eq_false]
    have g0 := PP_get h0
    rw [show ((0 : Nat) : Int) = 0 from rfl] at g0
    rw [g0, Option.bind_some, phi_coal (hT 0 h0) hdn.2 hd, Option.bind_some, point_eq, Option.bind_some]
    obtain ⟨lo', hi', e1, e2⟩ := hull_loop (f := coalAt d) (L := TT b) (body := ref_Heap_l1 (PP b, 0) (d : Int)) (fun lo hi => some (⟨lo, hi⟩, 0)) hn (fun rec k lo hi hk => by
      unfold ref_Heap_l1
      simp only
      rw [decide_eq_true (by simp; omega), cond_true, PP_get hk, Option.bind_some, phi_coal (hT k hk) hdn.2 hd, Option.bind_some, point_eq, Option.bind_some, hull_eq, Option.bind_some, wrI (by omega) (by omega)]
      rfl) (fun rec lo hi => by
      unfold ref_Heap_l1
      simp only
      rw [decide_eq_false (by simp), cond_false]) (coalAt d (TT b)[0]) (coalAt d (TT b)[0])
    refine ⟨⟨lo', hi'⟩, e2, ?_⟩
    exact hull_span0 h0 e1
end Go.Proofs.YticodohfokgjfaaDoor

set_option linter.unusedVariables false
set_option linter.unusedSimpArgs false
namespace Go.Proofs.YticodohfokgjfaaDoor
open Go Go.Fx
theorem TT_tru {b : CoalBook} (V : Val b) (A : Arg b) {k : Nat} (h : k < (TT b).length) : Tru (opn b []) (TT b)[k] := (truths_tru (opn_op V A []) (List.getElem_mem h)).1
theorem TT_pos {b : CoalBook} (h : (TT b).isEmpty = false) : 0 < (TT b).length := by
  cases h2 : TT b with
  | nil => rw [h2] at h; cases h
  | cons t L => simp
theorem span_nil {f : Coal_truth → Int} {L : List Coal_truth} (h : L.isEmpty = true) : SpanOf f L ⟨0, 0⟩ := by
  have h := List.isEmpty_iff.1 h
  subst h
  exact ⟨fun _ => rfl, fun h2 => (h2 rfl).elim, fun h2 => (h2 rfl).elim, fun t ht => (by cases ht), fun t ht => (by cases ht)⟩
theorem refEats_law {b : CoalBook} (V : Val b) (A : Arg b) {e : Nat} (he : e < 2) : ∃ s, ref_Eats b e = some (s, bif (TT b).isEmpty then 62 else 0) ∧ SpanOf (eatAt e) (TT b) s := by
  have hn := TT_len V A
  unfold ref_Eats
  rw [inside_eq, Option.bind_some, inB_iff.2 (by omega), refAsked_eq V A, Option.bind_some]
  cases hL : (TT b).isEmpty with
  | true => exact ⟨⟨0, 0⟩, rfl, span_nil hL⟩
  | false =>
    have h0 := TT_pos hL
    simp only [cond_false, bne_self_eq_false]
    have g0 := PP_get h0
    rw [show ((0 : Nat) : Int) = 0 from rfl] at g0
    rw [g0, Option.bind_some, need_of (by simp [inI]; omega), point_eq, Option.bind_some]
    obtain ⟨lo', hi', e1, e2⟩ := hull_loop (f := eatAt e) (L := TT b) (body := ref_Eats_l1 (PP b, 0) (e : Int)) (fun lo hi => some (⟨lo, hi⟩, 0)) hn (fun rec k lo hi hk => by
      unfold ref_Eats_l1
      simp only
      rw [decide_eq_true (by simp; omega), cond_true, PP_get hk, Option.bind_some, need_of (by simp [inI]; omega), point_eq, Option.bind_some, hull_eq, Option.bind_some, wrI (by omega) (by omega)]
      rfl) (fun rec lo hi => by
      unfold ref_Eats_l1
      simp only
      rw [decide_eq_false (by simp), cond_false]) (eatAt e (TT b)[0]) (eatAt e (TT b)[0])
    exact ⟨⟨lo', hi'⟩, e2, hull_span0 h0 e1⟩
theorem refWind_law {b : CoalBook} (V : Val b) (A : Arg b) {d : Nat} (hd : d < b.Days.length) : ref_Wind b d = some (bif (TT b).isEmpty then (0, 62) else ((windSet d (TT b) : Int), 0)) := by
  have hn := TT_len V A
  have hdn := V.dn
  unfold ref_Wind
  rw [refIsDay_eq b A, Option.bind_some, dayIn hd, refAsked_eq V A, Option.bind_some]
  cases hL : (TT b).isEmpty with
  | true => rfl
  | false =>
    simp only [cond_false, bne_self_eq_false]
    have key : ∀ (e k m : Nat) (s : Nat), s < 8 → k + e = (TT b).length → e < m → loopF (ref_Wind_l1 (PP b, 0) (d : Int)) m ((s : Int), (k : Int)) = some (((((TT b).drop k).foldl (fun s t => s ||| 2 ^ windAt d t) s : Nat) : Int), 0) := by
      intro e
      induction e with
      | zero =>
        intro k m s g0 g1 g2
        obtain ⟨m, rfl⟩ : ∃ q, m = q + 1 := ⟨m - 1, by omega⟩
        show ref_Wind_l1 (PP b, 0) (d : Int) _ ((s : Int), (k : Int)) = _
        unfold ref_Wind_l1
        simp only
        rw [decide_eq_false (by simp; omega), cond_false, List.drop_eq_nil_of_le (by omega)]
        rfl
      | succ e ih =>
        intro k m s g0 g1 g2
        obtain ⟨m, rfl⟩ : ∃ q, m = q + 1 := ⟨m - 1, by omega⟩
        have hk : k < (TT b).length := by omega
        have T := TT_tru V A hk
        have hw := T.wi d hd
        have hwn : ((TT b)[k]).winds_.getD d 0 = ((windAt d (TT b)[k] : Nat) : Int) := by unfold windAt; omega
        have hw3 : windAt d (TT b)[k] < 3 := by unfold windAt; omega
        obtain ⟨o1, o2⟩ := or_small ⟨s, g0⟩ ⟨_, hw3⟩
        show ref_Wind_l1 (PP b, 0) (d : Int) (loopF (ref_Wind_l1 (PP b, 0) (d : Int)) m) ((s : Int), (k : Int)) = _
        have ih2 := ih (k + 1) m (s ||| 2 ^ windAt d (TT b)[k]) o2 (by omega) (by omega)
        generalize loopF (ref_Wind_l1 (PP b, 0) (d : Int)) m = rec at ih2
        unfold ref_Wind_l1
        simp only
        rw [decide_eq_true (by simp; omega), cond_true, PP_get hk, Option.bind_some, phi_wind T hdn.2 hd, Option.bind_some, hwn, need_of (by simp), wrN hk (by omega), o1, ih2, List.drop_eq_getElem_cons hk, List.foldl_cons]
    have := key (TT b).length 0 big 0 (by omega) (by omega) (by rw [big_eq]; omega)
    exact this
theorem check_same (b : CoalBook) (A : Arg b) : ∃ r, coal_Check b = some r ∧ ref_Check b = some r := ⟨_, check_eq b A, refCheck_eq b A⟩
theorem right_same (b : CoalBook) (A : Arg b) : ∃ r, coal_Right b = some r ∧ ref_Right b = some r := by
  cases h : valB b with
  | true => exact ⟨_, right_law (val_iff.1 h) A, refRight_law (val_iff.1 h) A⟩
  | false =>
    refine ⟨(false, 60), ?_, ?_⟩
    · unfold coal_Right; rw [check_eq b A, h]; rfl
    · unfold ref_Right; rw [refCheck_eq b A, h]; rfl
theorem nat_of {n : Int} {k : Nat} (h : inB n 0 ((k : Int) - 1) = true) : ∃ d : Nat, n = d ∧ d < k := by
  have := inB_iff.1 h
  exact ⟨n.toNat, by omega, by omega⟩
theorem heap_same (b : CoalBook) (A : Arg b) (n : Int) : ∃ r, coal_Heap b n = some r ∧ ref_Heap b n = some r := by
  cases h : valB b with
  | false =>
    refine ⟨_, heap_bad A h n, ?_⟩
    unfold ref_Heap
    rw [refIsDay_eq b A, Option.bind_some, refBad A h]; rfl
  | true =>
    have V := val_iff.1 h
    cases hi : inB n 0 ((b.Days.length : Int) - 1) with
    | true =>
      obtain ⟨d, rfl, hd⟩ := nat_of hi
      obtain ⟨s, h1, S⟩ := heap_law V A hd
      obtain ⟨t, h2, T⟩ := refHeap_law V A hd
      rw [S.uniq T] at h1
      exact ⟨_, h1, h2⟩
    | false =>
      obtain ⟨q, hq⟩ := coalAsk0 V A
      refine ⟨(⟨0, 0⟩, 61), ?_, ?_⟩
      · unfold coal_Heap; rw [isDay_eq b A, Option.bind_some, hi, hq]; rfl
      · unfold ref_Heap; rw [refIsDay_eq b A, Option.bind_some, hi, refAsk0 V A]; rfl
theorem eats_same (b : CoalBook) (A : Arg b) (n : Int) : ∃ r, coal_Eats b n = some r ∧ ref_Eats b n = some r := by
  cases h : valB b with
  | false =>
    obtain ⟨q, hq⟩ := coalBad A h (inB n 0 1)
    refine ⟨(⟨0, 0⟩, 60), ?_, ?_⟩
    · unfold coal_Eats; rw [within_eq, Option.bind_some, hq]; rfl
    · unfold ref_Eats; rw [inside_eq, Option.bind_some, refBad A h]; rfl
  | true =>
    have V := val_iff.1 h
    cases hi : inB n 0 1 with
    | true =>
      obtain ⟨d, rfl, hd⟩ := nat_of (k := 2) (n := n) (by simpa using hi)
      obtain ⟨s, h1, S⟩ := eats_law V A hd
      obtain ⟨t, h2, T⟩ := refEats_law V A hd
      rw [S.uniq T] at h1
      exact ⟨_, h1, h2⟩
    | false =>
      obtain ⟨q, hq⟩ := coalAsk0 V A
      refine ⟨(⟨0, 0⟩, 61), ?_, ?_⟩
      · unfold coal_Eats; rw [within_eq, Option.bind_some, hi, hq]; rfl
      · unfold ref_Eats; rw [inside_eq, Option.bind_some, hi, refAsk0 V A]; rfl
theorem wind_same (b : CoalBook) (A : Arg b) (n : Int) : ∃ r, coal_Wind b n = some r ∧ ref_Wind b n = some r := by
  cases h : valB b with
  | false =>
    obtain ⟨q, hq⟩ := coalBad A h (inB n 0 ((b.Days.length : Int) - 1))
    refine ⟨(0, 60), ?_, ?_⟩
    · unfold coal_Wind; rw [isDay_eq b A, Option.bind_some, hq]; rfl
    · unfold ref_Wind; rw [refIsDay_eq b A, Option.bind_some, refBad A h]; rfl
  | true =>
    have V := val_iff.1 h
    cases hi : inB n 0 ((b.Days.length : Int) - 1) with
    | true =>
      obtain ⟨d, rfl, hd⟩ := nat_of hi
      exact ⟨_, wind_law V A hd, refWind_law V A hd⟩
    | false =>
      obtain ⟨q, hq⟩ := coalAsk0 V A
      refine ⟨(0, 61), ?_, ?_⟩
      · unfold coal_Wind; rw [isDay_eq b A, Option.bind_some, hi, hq]; rfl
      · unfold ref_Wind; rw [refIsDay_eq b A, Option.bind_some, hi, refAsk0 V A]; rfl
theorem kept_days (l : List CoalDay) (h : l.length ≤ 9223372036854775807) : B_KeptDays l l = some true := by
  unfold B_KeptDays
  rw [show ((l.length : Int) == (l.length : Int)) = true by simp]
  refine loop_fold0 (fun k => (true, (k : Int))) l.length (fun rec k hk => ?_) (fun rec => ?_) (by rw [big_eq]; omega) rfl
  · unfold B_KeptDays_l1
    simp only [cond_true]
    rw [decide_eq_true (by omega), cond_true, getI_ix hk, Option.bind_some, Option.bind_some, wrN hk h]
    simp
  · unfold B_KeptDays_l1
    simp only [cond_true]
    rw [decide_eq_false (by omega), cond_false]
theorem kept_dips (l : List CoalDip) (h : l.length ≤ 9223372036854775807) : B_KeptDips l l = some true := by
  unfold B_KeptDips
  rw [show ((l.length : Int) == (l.length : Int)) = true by simp]
  refine loop_fold0 (fun k => (true, (k : Int))) l.length (fun rec k hk => ?_) (fun rec => ?_) (by rw [big_eq]; omega) rfl
  · unfold B_KeptDips_l1
    simp only [cond_true]
    rw [decide_eq_true (by omega), cond_true, getI_ix hk, Option.bind_some, Option.bind_some, wrN hk h]
    simp
  · unfold B_KeptDips_l1
    simp only [cond_true]
    rw [decide_eq_false (by omega), cond_false]
theorem kept_eq (b : CoalBook) (A : Arg b) : B_KeptCoal b b = some true := by
  unfold B_KeptCoal
  simp [kept_days b.Days A.dl, kept_dips b.Dips A.pl]
/-- how long its lists can be -/
structure ArgW (b : CoalBook) : Prop where
  dw : b.Days.length * 24 ≤ 140737488355328
  pw : b.Dips.length * 24 ≤ 140737488355328
  el : b.Eats.length = 2
  xl : b.Extra.length = 3
theorem ArgW.arg {b : CoalBook} (W : ArgW b) : Arg b := ⟨by have := W.dw; omega, by have := W.pw; omega, W.el, W.xl⟩
theorem own_eq (b : CoalBook) (W : ArgW b) : B_OwnCoal b = some b := by
  unfold B_OwnCoal B_OwnDays B_OwnDips
  rw [need_of (by unfold fitsL; exact decide_eq_true W.dw), Option.bind_some, need_of (by unfold fitsL; exact decide_eq_true W.pw), Option.bind_some]
theorem heaps_eq (b : CoalBook) (A : Arg b) (n : List Int) : law_coalHeaps b b n = some true := by
  obtain ⟨r1, a1, c1⟩ := right_same b A
  obtain ⟨r2, a2, c2⟩ := check_same b A
  obtain ⟨r3, a3, c3⟩ := heap_same b A (aget n 0)
  obtain ⟨r4, a4, c4⟩ := eats_same b A (aget n 1)
  obtain ⟨r5, a5, c5⟩ := wind_same b A (aget n 0)
  unfold law_coalHeaps
  simp only [a1, c1, a2, c2, a3, c3, a4, c4, a5, c5, Option.bind_some, bne_self_eq_false, cond_false, beq_self_eq_true, Bool.and_self, Bool.not_true, cond_true]
end Go.Proofs.YticodohfokgjfaaDoor

set_option linter.unusedVariables false
set_option linter.unusedSimpArgs false
namespace Go.Proofs.YticodohfokgjfaaDoor
open Go Go.Fx Go.Proofs
def law_CoalHeaps (a0 : CoalBook) (a1 : List Int) : Option Bool :=
  (B_OwnCoal a0).bind fun r15 =>
  (law_coalHeaps r15 a0 a1).bind fun r33 =>
  bif r33 then ((B_KeptCoal r15 a0).bind fun r38 =>
  bif r38 then ((law_stoked).bind fun r43 =>
  some r43)
  else (some false))
  else (some false)

set_option maxRecDepth 100000 in
theorem law_CoalHeaps_ok {a0 : CoalBook} {a1 : List Int} {A1 : Option Addr} {c2 : Nat} {A4 : Option Addr} {c5 : Nat} {w : World} {r : Bool} (H : law_CoalHeaps a0 a1 = some r) (h3 : (rd eCoalDay 3 A1 c2 a0.Days).ok w) (h6 : (rd eCoalDip 3 A4 c5 a0.Dips).ok w) (hg7 : (bl 0 [Value.func (.func 128) #[] #[], Value.func (.func 129) #[] #[]] 110).ok w) (hg8 : (bl 1 [I (-1), I (-1)] 123).ok w) : Calls Tryd.prog 3 #[AG ([I a0.Heap.Low, I a0.Heap.High] ++ (sgE eSpan a0.Eats 2 ++ (sg a0.Extra 3 ++ [SL A1 a0.Days.length c2, I a0.Collier.Low, I a0.Collier.High, I a0.Brings, SL A4 a0.Dips.length c5]))), AG (sg a1 2)] w (RetV w (B r)) := by
  unfold law_CoalHeaps at H
  refine fn_of (n := 20) Tryd.func3 rfl rfl (Nat.le_of_ble_eq_true rfl) ?_
  have S : St w (fun _ => False) w [] [rd eCoalDay 3 A1 c2 a0.Days, rd eCoalDip 3 A4 c5 a0.Dips, bl 0 [Value.func (.func 128) #[] #[], Value.func (.func 129) #[] #[]] 110, bl 1 [I (-1), I (-1)] 123] := St.start w _ _ (List.forall_mem_cons.2 ⟨h3, (List.forall_mem_cons.2 ⟨h6, (List.forall_mem_cons.2 ⟨hg7, (List.forall_mem_cons.2 ⟨hg8, (fun _ h_ => (List.not_mem_nil h_).elim)⟩)⟩)⟩)⟩)
  refine c_seq ?_
  refine reg ?_
  refine p_boxA rfl S fun b9 w10 S11 => ?_
  refine p_boxA rfl S11 fun b12 w13 S14 => ?_
  refine p_aB rfl ?_
  refine wp_nil ?_
  refine c_seq ?_
  refine reg ?_
  refine p_ldA ty29 sz29 (S14.atX (i := 1) rfl) rfl rfl ?_
  obtain ⟨r15, h16, H⟩ := bindS H
  refine p_cal (B_OwnCoal_ok h16 (S14.atP (i := 0) rfl) (S14.atP (i := 1) rfl)) fu16 rfl ?_
  rintro _ w17 ⟨A19, c20, A21, c22, rfl, k18, ⟨o23, n24⟩, ⟨o25, n26⟩, _⟩
  have S27 := S14.callN k18 [rd eCoalDay 3 A19 c20 r15.Days, rd eCoalDip 3 A21 c22 r15.Dips] (List.forall_mem_cons.2 ⟨⟨o23, New.inL n24⟩, (List.forall_mem_cons.2 ⟨⟨o25, New.inL n26⟩, (fun _ h_ => (List.not_mem_nil h_).elim)⟩)⟩)
  refine p_allA in29 S27 fun b28 w29 S30 => ?_
  refine p_stP (pre := []) (old := [I 0, I 0, I 0, I 0, I 0, I 0] ++ (sg (List.replicate 3 0) 3 ++ [SL none 0 0, I 0, I 0, I 0, SL none 0 0])) (post := []) (vs := [I r15.Heap.Low, I r15.Heap.High] ++ (sgE eSpan r15.Eats 2 ++ (sg r15.Extra 3 ++ [SL A19 r15.Days.length c20, I r15.Collier.Low, I r15.Collier.High, I r15.Brings, SL A21 r15.Dips.length c22]))) sz29 S30 (i := 0) rfl rfl rfl rfl (rfl : _ = AG ([I r15.Heap.Low, I r15.Heap.High] ++ (sgE eSpan r15.Eats 2 ++ (sg r15.Extra 3 ++ [SL A19 r15.Days.length c20, I r15.Collier.Low, I r15.Collier.High, I r15.Brings, SL A21 r15.Dips.length c22])))) rfl rfl rfl rfl fun w31 S32 => ?_
  refine wp_nil ?_
  refine c_seq ?_
  refine reg ?_
  refine p_ldA ty29 sz29 (S32.atX (i := 0) rfl) rfl rfl ?_
  refine p_ldA ty29 sz29 (S32.atX (i := 2) rfl) rfl rfl ?_
  refine p_ldA ty30 sz30 (S32.atX (i := 1) rfl) rfl rfl ?_
  obtain ⟨r33, h34, H⟩ := bindS H
  refine p_cv (law_coalHeaps_ok h34 (S32.atP (i := 0) rfl) (S32.atP (i := 1) rfl) (S32.atP (i := 2) rfl) (S32.atP (i := 3) rfl) (S32.atP (i := 5) rfl)) fu17 rfl S32 fun w35 S36 => ?_
  refine p_mB rfl ?_
  rcases Bool.eq_false_or_eq_true (r33) with c37 | c37
  · replace H := condT c37 H
    refine eB c37 ?_
    refine gT rfl rfl (p_ldA ty29 sz29 (S36.atX (i := 0) rfl) rfl rfl ?_)
    refine gT rfl rfl (p_ldA ty29 sz29 (S36.atX (i := 2) rfl) rfl rfl ?_)
    obtain ⟨r38, h39, H⟩ := bindS H
    refine gT rfl rfl (p_cv (B_KeptCoal_ok h39 (S36.atP (i := 0) rfl) (S36.atP (i := 1) rfl) (S36.atP (i := 2) rfl) (S36.atP (i := 3) rfl)) fu18 rfl S36 fun w40 S41 => ?_)
    refine p_pkT rfl (rfl : _ = B r38) ?_
    refine p_mB rfl ?_
    rcases Bool.eq_false_or_eq_true (r38) with c42 | c42
    · replace H := condT c42 H
      refine eB c42 ?_
      obtain ⟨r43, h44, H⟩ := bindS H
      refine gT rfl rfl (p_cv (law_stoked_ok h44 (S41.atP (i := 4) rfl) (S41.atP (i := 5) rfl)) fu19 rfl S41 fun w45 S46 => ?_)
      refine p_pkT rfl (rfl : _ = B r43) ?_
      refine p_aB rfl ?_
      refine wp_nil ?_
      obtain rfl := Option.some.inj H
      refine c_ret ?_; show bodyPostM (Fr none) 0 Tryd.prog Tryd.f3 _ .ret _ _
      refine ret_of (res1 rfl (rvT (rfl : _ = B r43))) ?_
      exact ⟨_, rfl, rfl, S46.keep⟩
    · replace H := condF c42 H
      refine eB c42 ?_
      refine gF rfl rfl ?_
      refine p_pkF rfl (rfl : _ = B false) ?_
      refine p_aB rfl ?_
      refine wp_nil ?_
      obtain rfl := Option.some.inj H
      refine c_ret ?_; show bodyPostM (Fr none) 0 Tryd.prog Tryd.f3 _ .ret _ _
      refine ret_of (res1 rfl (rvT (rfl : _ = B false))) ?_
      exact ⟨_, rfl, rfl, S41.keep⟩
  · replace H := condF c37 H
    refine eB c37 ?_
    refine gF rfl rfl ?_
    refine gF rfl rfl ?_
    refine gF rfl rfl ?_
    refine p_pkF rfl (rfl : _ = B false) ?_
    refine p_mB rfl ?_
    refine gF rfl rfl ?_
    refine p_pkF rfl (rfl : _ = B false) ?_
    refine p_aB rfl ?_
    refine wp_nil ?_
    obtain rfl := Option.some.inj H
    refine c_ret ?_; show bodyPostM (Fr none) 0 Tryd.prog Tryd.f3 _ .ret _ _
    refine ret_of (res1 rfl (rvT (rfl : _ = B false))) ?_
    exact ⟨_, rfl, rfl, S36.keep⟩

end Go.Proofs.YticodohfokgjfaaDoor

set_option linter.unusedVariables false
set_option linter.unusedSimpArgs false
namespace Go.Proofs.YticodohfokgjfaaDoor
open Go Go.Fx
theorem law_coalHeaps_t (b : CoalBook) (W : ArgW b) (n : List Int) : law_CoalHeaps b n = some true := by
  unfold law_CoalHeaps
  rw [own_eq b W, Option.bind_some, heaps_eq b W.arg, Option.bind_some, cond_true, kept_eq b W.arg, Option.bind_some, cond_true, stoked_eq]
  rfl
end Go.Proofs.YticodohfokgjfaaDoor

set_option linter.unusedVariables false
set_option maxRecDepth 100000
namespace Go.Proofs.YticodohfokgjfaaDoor
open Go Go.Fx Go.Proofs Go.ChangeShapes Go.WideShapes Go.ChangeAt Go.RowKit
variable {H : Type} {enc : TypeId × Value → H} {w : World} {spare : Nat → Bool} {held : Bool} {r : Reach} {b0 : Nat} {v : Value} {d : DataW H} {ps : List MemPlace} {P : Program}
theorem wt_cons {t : TypeId} {ts : List TypeId} {d : DataW H} {r : List (DataW H)} (h : (DataW.weightsEach P (t :: ts) (d :: r)).all (· ≤ reachBytes) = true) : (d.weights P t).all (· ≤ reachBytes) = true ∧ (DataW.weightsEach P ts r).all (· ≤ reachBytes) = true := by
  rw [DataW.weightsEach, List.all_append, Bool.and_eq_true] at h
  exact h
theorem wt_at : ∀ {ts : List TypeId} {ds : List (DataW H)} {i : Nat} {t : TypeId} {d : DataW H}, (DataW.weightsEach P ts ds).all (· ≤ reachBytes) = true → ts[i]? = some t → ds[i]? = some d → (d.weights P t).all (· ≤ reachBytes) = true
  | [], _, _, _, _, _, h1, _ => by simp at h1
  | _ :: _, [], _, _, _, _, _, h2 => by simp at h2
  | t :: ts, d :: ds, 0, _, _, h, h1, h2 => by
    simp at h1 h2; subst h1 h2; exact (wt_cons h).1
  | t :: ts, d :: ds, i + 1, _, _, h, h1, h2 => by
    simp at h1 h2; exact wt_at (wt_cons h).2 h1 h2
theorem slice_wt {t e : TypeId} {fuel n c : Nat} {cs : List Value} {A : Option Addr} {x : DataW H × List MemPlace} (ht : P.underlying t = some (.slice e)) (h : DataW.trod enc P w 0 spare held fuel t cs = some x) (hw : (x.1.weights P t).all (· ≤ reachBytes) = true)
    (hc : cs = [SL A n c]) : n * P.bytesOf e ≤ reachBytes := by
  rcases DataW.trod_slice ht h with ⟨rfl, _⟩ | ⟨a, len, cap, elems, rest, m, _, rfl, rfl, _, _, _, hel, _⟩
  · injection hc with hc; injection hc with _ hc _; subst hc; simp
  · injection hc with hc; injection hc with _ hc _; subst hc
    simp only [DataW.weights, ht, List.all_cons, Bool.and_eq_true, decide_eq_true_eq, List.length_map] at hw
    have h1 := hw.1
    have h2 : len * P.bytesOf e ≤ (elems.length + rest.length) * P.bytesOf e := Nat.mul_le_mul_right _ (by omega)
    omega
theorem wt_book {b : CoalBook} {A1 A2 : Option Addr} {c1 c2 : Nat} (hd : DataW.Trod enc Tryd.prog w 0 spare held 29 (AG ([I b.Heap.Low, I b.Heap.High] ++ (sgE eSpan b.Eats 2 ++ (sg b.Extra 3 ++ [SL A1 b.Days.length c1, I b.Collier.Low, I b.Collier.High, I b.Brings, SL A2 b.Dips.length c2])))) d ps) (hw : (d.weights Tryd.prog 29).all (· ≤ reachBytes) = true) :
    b.Days.length * 24 ≤ 140737488355328 ∧ b.Dips.length * 24 ≤ 140737488355328 := by
  obtain ⟨fuel, hf⟩ := hd
  obtain ⟨xs, m, _, hx, hl, hxs, hel⟩ := DataW.trod_struct u29 hf
  have hx1 : d = .agg (xs.map (·.1)) := congrArg Prod.fst hx
  subst hx1
  rw [f29s] at hxs
  have fb := f29b
  simp only [List.all_cons, List.all_nil, Bool.and_eq_true, beq_iff_eq, and_true] at fb
  obtain ⟨⟨o0, t0⟩, ⟨o1, t1⟩, ⟨o2, t2⟩, ⟨o3, t3⟩, ⟨o4, t4⟩, ⟨o5, t5⟩, ⟨o6, t6⟩⟩ := fb
  have e3 := hel 3 _ (get_bang (by rw [f29s]; decide))
  have e6 := hel 6 _ (get_bang (by rw [f29s]; decide))
  rw [o3, t3, c26, List.getElem?_eq_getElem (by omega)] at e3
  rw [o6, t6, c27, List.getElem?_eq_getElem (by omega)] at e6
  have hwf : ∀ (k : Nat) (t : TypeId) (hk : k < xs.length), ((Tryd.prog.fieldsOf 29)[k]?).map (·.type) = some t → ((xs[k]'hk).1.weights Tryd.prog t).all (· ≤ reachBytes) = true := fun k t hk ht => by
    simp only [DataW.weights, u29] at hw
    refine wt_at hw (i := k) ?_ (by rw [List.getElem?_map, List.getElem?_eq_getElem hk]; rfl)
    rw [List.getElem?_map, Array.getElem?_toList]
    exact ht
  have h3 := hwf 3 26 (by omega) (by rw [get_bang (by rw [f29s]; decide), Option.map_some, t3])
  have h6 := hwf 6 27 (by omega) (by rw [get_bang (by rw [f29s]; decide), Option.map_some, t6])
  have w3 := slice_wt u26 e3 h3 (A := A1) (n := b.Days.length) (c := c1) rfl
  have w6 := slice_wt u27 e6 h6 (A := A2) (n := b.Dips.length) (c := c2) rfl
  rw [show Tryd.prog.bytesOf 64 = 24 by kernel_rfl] at w3
  rw [show Tryd.prog.bytesOf 67 = 24 by kernel_rfl] at w6
  have h2 : reachBytes ≤ 140737488355328 := by decide
  omega
end Go.Proofs.YticodohfokgjfaaDoor

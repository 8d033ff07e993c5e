/- The law of a heap that is so much higher. -/
import Derived.Test.YticodohfokgjfaaDoorZPWrong2
import Derived.Test.YticodohfokgjfaaDoorZWCoalHigher
set_option linter.unusedVariables false
set_option linter.unusedSimpArgs false
namespace Go.Proofs.YticodohfokgjfaaDoor
open Go Go.Fx
theorem hiH_arg {b : CoalBook} (A : Arg b) (n : Int) : Arg (hiB b n) := ⟨A.dl, by show (b.Dips.map (dipUp n)).length ≤ _; rw [List.length_map]; exact A.pl, A.el, A.xl⟩
theorem hiH_TT {b : CoalBook} (V : Val b) (n : Int) : TT (hiB b n) = (TT b).map (shT n b.Days.length) := truths_shift V.dn.2 n []
theorem span_map {f f' : Coal_truth → Int} {g : Coal_truth → Coal_truth} {L : List Coal_truth} {s t : Span} {c : Int} (hne : L ≠ []) (S : SpanOf f' L s) (T : SpanOf f (L.map g) t) (h : ∀ x ∈ L, f (g x) = f' x + c) : t.Low = s.Low + c ∧ t.High = s.High + c := by
  have hne2 : L.map g ≠ [] := by simpa using hne
  obtain ⟨x, hx, e1⟩ := S.low hne
  obtain ⟨y, hy, e2⟩ := S.high hne
  obtain ⟨u, hu, e3⟩ := T.low hne2
  obtain ⟨v, hv, e4⟩ := T.high hne2
  obtain ⟨u1, hu1, rfl⟩ := List.mem_map.1 hu
  obtain ⟨v1, hv1, rfl⟩ := List.mem_map.1 hv
  have a1 := T.le _ (List.mem_map.2 ⟨x, hx, rfl⟩); have a2 := T.ge _ (List.mem_map.2 ⟨y, hy, rfl⟩)
  have a3 := S.le u1 hu1; have a4 := S.ge v1 hv1
  have b1 := h x hx; have b2 := h y hy; have b3 := h u1 hu1; have b4 := h v1 hv1
  omega
theorem alike_self (l : List Int) (hl : l.length ≤ 1000) : B_Alike l l = some true := by
  unfold B_Alike
  rw [bne_self_eq_false, cond_false]
  refine loop_fold0 (fun k => (k : Int)) l.length (fun rec k hk => ?_) (fun rec => ?_) (by rw [big_eq]; omega) rfl
  · unfold B_Alike_l1
    rw [decide_eq_true (by omega), cond_true, getI_ix hk, Option.bind_some, Option.bind_some, bne_self_eq_false, cond_false, wrN hk (by omega)]
  · unfold B_Alike_l1
    rw [decide_eq_false (by omega), cond_false]
theorem wrong_hi {b : CoalBook} (V : Val b) (A : Arg b) {n : Int} (V' : Val (hiB b n)) : ∃ w, coal_Wrong b = some (w, 0) ∧ coal_Wrong (hiB b n) = some (w, 0) ∧ w.length ≤ 4 := by
  obtain ⟨w, h1, F⟩ := wrong_law V A
  obtain ⟨v, h2, G⟩ := wrong_law V' (hiH_arg A n)
  have hl : (hiB b n).Dips.length = b.Dips.length := by show (b.Dips.map (dipUp n)).length = _; rw [List.length_map]
  have can : ∀ o, CanO (hiB b n) o ↔ CanO b o := fun o => by
    unfold CanO
    rw [truths_shift V.dn.2 n o]
    simp
  have c1 := F.clm
  have c2 := G.clm
  rw [hl] at c2
  have l1 := F.len v c2 ((can v).1 G.can)
  have l2 := G.len w (by rw [hl]; exact c1) ((can w).2 F.can)
  have x1 := F.lex v c2 ((can v).1 G.can) (by omega)
  have x2 := G.lex w (by rw [hl]; exact c1) ((can w).2 F.can) (by omega)
  obtain rfl := lex_same (by omega) x2 x1
  exact ⟨w, h1, h2, by have := c1.len (by omega); have := V.pn; omega⟩
theorem order_hi {len : Nat} {L : List Coal_truth} {o p c : Int} (h6 : len ≤ 6) (hc : 0 ≤ c) (O : OrderOf len L o) (P : OrderOf len (L.map (shT c len)) p) : p = if o - c > 0 then o - c else 0 := by
  have p0 := P.n0; have o0 := O.n0
  have h1 : o - c ≤ p := by
    rcases O.is with h | ⟨k, hk, t, ht, h⟩
    · omega
    · have := P.ge k hk _ (List.mem_map.2 ⟨t, ht, rfl⟩)
      rw [coal_shift hk h6] at this
      omega
  rcases P.is with h | ⟨k, hk, t, ht, h⟩
  · split <;> omega
  · obtain ⟨u, hu, rfl⟩ := List.mem_map.1 ht
    have := O.ge k hk u hu
    rw [coal_shift hk h6] at h
    split <;> omega
theorem windSet_map (d : Nat) (g : Coal_truth → Coal_truth) (h : ∀ t, (g t).winds_ = t.winds_) (L : List Coal_truth) : windSet d (L.map g) = windSet d L := by
  unfold windSet
  rw [List.foldl_map]
  congr 1
  funext s t
  unfold windAt
  rw [h t]
theorem law_coalHigher (b : CoalBook) (A : Arg b) (a : List Int) : law_CoalHigher b a = some true := by
  unfold law_CoalHigher
  rw [sound_eq b A, Option.bind_some]
  cases hv : valB b with
  | false => simp only [Bool.not_false, cond_true, stoked_eq, Option.bind_some]
  | true =>
    have V := val_iff.1 hv
    have hdn := V.dn
    obtain ⟨n, hn, n0, n1⟩ := mod_ok (aget a 0) 30 (by omega) (by omega)
    obtain ⟨d, hd, hd2⟩ := modN (aget a 1) (n := b.Days.length) (by omega) (by omega)
    obtain ⟨e, he, he2⟩ := modN (aget a 2) (n := 2) (by omega) (by omega)
    have he' : B_Mod (aget a 2) 2 = some (e : Int) := he
    rw [Bool.not_true, cond_false, hn, Option.bind_some, hd, Option.bind_some, he', Option.bind_some, higher_eq V n (by omega) (by omega), Option.bind_some]
    rw [show (CoalBook.mk (hiB b n).Heap (hiB b n).Eats (hiB b n).Extra b.Days (hiB b n).Collier (hiB b n).Brings (hiB b n).Dips) = hiB b n from rfl, check_eq _ (hiH_arg A n), Option.bind_some]
    cases hv2 : valB (hiB b n) with
    | false => simp only [cond_false, show ((60 : Int) != 0) = true by decide, cond_true, beq_self_eq_true, stoked_eq, Option.bind_some]
    | true =>
      have V' := val_iff.1 hv2
      have A' := hiH_arg A n
      obtain ⟨w, w1, w2, w3⟩ := wrong_hi V A V'
      obtain ⟨s, s1, S⟩ := heap_law V A hd2
      obtain ⟨t, t1, T⟩ := heap_law V' A' (d := d) hd2
      rw [cond_true, bne_self_eq_false, cond_false, w1, Option.bind_some, w2, Option.bind_some, s1, Option.bind_some, t1, Option.bind_some]
      have hE : (TT (hiB b n)).isEmpty = (TT b).isEmpty := by rw [hiH_TT V]; simp
      rw [hE]
      rw [hiH_TT V] at T
      simp only [bne_self_eq_false, cond_false, alike_self w (by omega), Option.bind_some, Bool.not_true]
      cases hT : (TT b).isEmpty with
      | true =>
        have hnil := List.isEmpty_iff.1 hT
        have e1 := S.nil hnil
        have e2 := T.nil (by rw [hnil]; rfl)
        subst e1 e2
        simp only [cond_true, show ((62 : Int) != 0) = true by decide, beq_self_eq_true, Bool.and_self, stoked_eq, Option.bind_some]
      | false =>
        have hne : TT b ≠ [] := fun h2 => by rw [h2] at hT; cases hT
        obtain ⟨u, u1, U⟩ := eats_law V A he2
        obtain ⟨y, y1, Y⟩ := eats_law V' A' (e := e) he2
        obtain ⟨o, o1, O⟩ := order_law V A
        obtain ⟨p, p1, P⟩ := order_law V' A'
        have wb := wind_law V A hd2
        have wx := wind_law V' A' (d := d) hd2
        rw [hE] at y1 wx p1
        rw [hiH_TT V] at Y P wx
        rw [hT] at u1 y1 o1 p1 wb wx
        have q1 := span_map hne S T (c := n) fun x hx => coal_shift hd2 hdn.2
        have q2 := span_map hne U Y (c := 0) fun x hx => by unfold eatAt shT; simp
        have q3 := order_hi hdn.2 n0 (O hne) (P (by simpa using hne))
        have O0 := (O hne).n0; have O1 := (O hne).hi
        have bu := S.low hne
        obtain ⟨x1, hx1, ex1⟩ := S.low hne
        obtain ⟨x2, hx2, ex2⟩ := S.high hne
        have b1 := (truths_tru (opn_op V A []) hx1).1.co d hd2
        have b2 := (truths_tru (opn_op V A []) hx2).1.co d hd2
        rw [windSet_map d (shT n b.Days.length) (fun _ => rfl)] at wx
        simp only [cond_false, bne_self_eq_false, u1, y1, wb, wx, o1, p1, Option.bind_some, beq_self_eq_true, cond_true]
        unfold B_Range
        rw [wrI (x := s.Low + n) (by omega) (by omega), wrI (x := s.High + n) (by omega) (by omega), wrI (x := o - n) (by omega) (by omega), Option.bind_some, q1.1, q1.2, q2.1, q2.2, q3]
        simp only [Int.add_zero, beq_self_eq_true, Bool.and_self, cond_true, stoked_eq, Option.bind_some]
end Go.Proofs.YticodohfokgjfaaDoor

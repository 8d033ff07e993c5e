/- The law of both ends. -/
import Derived.Test.YticodohfokgjfaaDoorZPEnds
import Derived.Test.YticodohfokgjfaaDoorZWCoalEnds
set_option linter.unusedVariables false
set_option linter.unusedSimpArgs false
namespace Go.Proofs.YticodohfokgjfaaDoor
open Go Go.Fx
theorem covers_iff {s t : Span} (h : s.Low ≤ t.Low ∧ t.High ≤ s.High) : B_Covers s t = some true := by
  unfold B_Covers
  rw [decide_eq_true (show t.Low ≥ s.Low from h.1), cond_true, decide_eq_true h.2]
theorem holds_eq (s : Span) (n : Int) : B_Contains s n = some (inB n s.Low s.High) := by
  unfold B_Contains
  rw [inside_eq, Option.bind_some]
theorem with_val {b : CoalBook} (V : Val b) (hp : b.Dips.length ≤ 3) {d : Nat} (hd : d < b.Days.length) {R : Int} (h0 : 0 ≤ R) (h1 : R ≤ 800) : Val (withB b (CoalDip.mk (d : Int) R 0)) :=
  ⟨V.hp, V.dn, V.co, V.br, by show (b.Dips ++ [CoalDip.mk (d : Int) R 0]).length ≤ 4; simp; omega, V.ea, V.ex, V.da, fun x hx => by
    rcases List.mem_append.1 hx with hx | hx
    · exact V.di x hx
    · obtain rfl := List.mem_singleton.1 hx
      show dipB b.Days.length _ = true
      unfold dipB
      simp only [Bool.and_eq_true, inB_iff]
      omega⟩
theorem set_val {b : CoalBook} (V : Val b) {d w : Nat} {X : CoalDay} (hX : b.Days[d]? = some X) (hw : w < 3) : Val (windB b d X w) := by
  have hl : (b.Days.set d (CoalDay.mk X.Crosses X.Engines (shlI 1 (w : Int)))).length = b.Days.length := List.length_set ..
  refine ⟨V.hp, by show 1 ≤ (b.Days.set d _).length ∧ (b.Days.set d _).length ≤ 6; rw [List.length_set]; exact V.dn, by show spB b.Collier ((b.Days.set d (CoalDay.mk X.Crosses X.Engines (shlI 1 (w : Int)))).length : Int) 3 = true; rw [hl]; exact V.co, V.br, V.pn, V.ea, V.ex, fun x hx => ?_, fun x hx => by show dipB (b.Days.set d (CoalDay.mk X.Crosses X.Engines (shlI 1 (w : Int)))).length x = true; rw [hl]; exact V.di x hx⟩
  rcases List.mem_or_eq_of_mem_set hx with hx | rfl
  · exact V.da x hx
  · obtain ⟨x1, x2, x3⟩ := dayB_iff (V.da X (List.mem_of_getElem? hX))
    unfold dayB
    simp only [Bool.and_eq_true, inB_iff]
    refine ⟨⟨x1, x2⟩, ?_⟩
    match w, hw with
    | 0, _ => decide
    | 1, _ => decide
    | 2, _ => decide
theorem eat_val {b : CoalBook} (V : Val b) (hl : b.Eats.length = 2) {e : Nat} (he : e < 2) {v : Int} (h0 : 0 ≤ v) (h9 : v ≤ 9) : Val (eatB b e v) := by
  refine ⟨V.hp, V.dn, V.co, V.br, V.pn, fun s hs => ?_, V.ex, V.da, V.di⟩
  have hs : s ∈ asetS b.Eats 2 (e : Int) ⟨v, v⟩ := hs
  rw [asetS_eq hl] at hs
  rcases List.mem_or_eq_of_mem_set hs with hs | rfl
  · exact V.ea s hs
  · unfold spB
    simp only [Bool.and_eq_true, decide_eq_true_eq]
    omega
theorem last_ends {b : CoalBook} (V : Val b) (A : Arg b) {d w e : Nat} (hd : d < b.Days.length) (hw : w < 3) (t : Span × Int) (rec : Int → Option Bool) : law_CoalEnds_l3 t (e : Int) b (w : Int) (d : Int) ((windSet d (TT b) : Int), 0) rec 2 = some true := by
  have hdn := V.dn
  have hX := List.getElem?_eq_getElem hd
  generalize hXe : b.Days[d] = X at hX
  have hne : b.Days.isEmpty = false := by
    cases h : b.Days with
    | nil => rw [h] at hdn; simp at hdn
    | cons _ _ => rfl
  have V' := set_val V hX hw
  have A' : Arg (windB b d X w) := V'.arg A.el A.xl
  obtain ⟨x1, x2, x3⟩ := dayB_iff (V.da X (List.mem_of_getElem? hX))
  unfold law_CoalEnds_l3
  rw [show decide ((2 : Int) < 2) = false by decide, cond_false, hne, cond_false, need_of (by unfold fitsL; simp; omega), need_of (by simp), getI_ix hd, hXe, Option.bind_some, Int.toNat_natCast]
  rw [show CoalBook.mk b.Heap b.Eats b.Extra (b.Days.set d (CoalDay.mk X.Crosses X.Engines (shlI 1 (w : Int)))) b.Collier b.Brings b.Dips = windB b d X w from rfl, right_law V' A', Option.bind_some, beq_self_eq_true, cond_true, Option.bind_some]
  unfold B_Member
  rw [need_of (by simp), need_of (by simp), Option.bind_some, Option.bind_some]
  rw [show (andI (shrI X.Winds (w : Int)) 1 == 1) = bitB X w from rfl]
  cases hb : bitB X w with
  | false => simp only [Bool.not_false, cond_true, stoked_eq, Option.bind_some]
  | true =>
    have wl : windSet d (TT b) < 8 := windSet_lt (q := opn b []) (TT b) 0 (by omega) fun t ht => (truth_bit hdn.2 ht hX).1
    have hbt := bit_test ⟨windSet d (TT b), wl⟩ ⟨w, hw⟩
    simp only at hbt
    rw [hbt]
    have hiff : (!(TT (windB b d X w)).isEmpty) = (windSet d (TT b)).testBit w := by
      rw [Bool.eq_iff_iff, show windSet d (TT b) = (TT b).foldl (fun s t => s ||| 2 ^ windAt d t) 0 from rfl, windSet_bit]
      constructor
      · intro h
        cases hT : TT (windB b d X w) with
        | nil => rw [hT] at h; cases h
        | cons u l =>
          have hu : u ∈ TT (windB b d X w) := by rw [hT]; exact List.mem_cons_self ..
          obtain ⟨h1, h2⟩ := (wind_cut hdn.2 hX hw hb u).1 hu
          exact .inr ⟨u, h1, h2⟩
      · rintro (h | ⟨u, h1, h2⟩)
        · simp at h
        · have := (wind_cut hdn.2 hX hw hb u).2 ⟨h1, h2⟩
          cases hT : TT (windB b d X w) with
          | nil => rw [hT] at this; cases this
          | cons _ _ => rfl
    rw [hiff]
    simp only [Bool.not_true, cond_false, beq_self_eq_true, cond_true, stoked_eq, Option.bind_some]
theorem l3_ends {b : CoalBook} (V : Val b) (A : Arg b) {d w e : Nat} (hd : d < b.Days.length) (hw : w < 3) (he : e < 2) {t : Span} (T : SpanOf (eatAt e) (TT b) t) (hne : TT b ≠ []) : loopF (law_CoalEnds_l3 (t, 0) (e : Int) b (w : Int) (d : Int) ((windSet d (TT b) : Int), 0)) big 0 = some true := by
  have hdn := V.dn
  refine loop_fold0 (fun k => (k : Int)) 2 (fun rec k hk => ?_) (fun rec => last_ends V A hd hw _ rec) (by rw [big_eq]; omega) rfl
  have step : ∀ v : Int, getI [t.Low, t.High] (k : Int) = some v → (∃ u ∈ TT b, eatAt e u = v) → law_CoalEnds_l3 (t, 0) (e : Int) b (w : Int) (d : Int) ((windSet d (TT b) : Int), 0) rec (k : Int) = rec ((k + 1 : Nat) : Int) := by
    intro v hv hu
    obtain ⟨u, hu, rfl⟩ := hu
    have hb9 : 0 ≤ eatAt e u ∧ eatAt e u ≤ 9 := by
      have := truths_tru (opn_op V A []) hu
      have hl := this.1.el
      unfold eatAt
      rw [List.getD_eq_getElem?_getD, List.getElem?_eq_getElem (by omega)]
      exact this.2.1 _ (List.getElem_mem _)
    have V' := eat_val V A.el he hb9.1 hb9.2
    have A' : Arg (eatB b e (eatAt e u)) := ⟨A.dl, A.pl, by show (asetS b.Eats 2 _ _).length = 2; exact asetS_len, A.xl⟩
    have hm := eat_mem A.el he hu
    unfold law_CoalEnds_l3
    rw [decide_eq_true (by omega), cond_true, hv, Option.bind_some, show B_Point (eatAt e u) = some ⟨eatAt e u, eatAt e u⟩ from rfl, Option.bind_some, need_of (by simp [inI]; omega)]
    rw [show CoalBook.mk b.Heap (asetS b.Eats 2 (e : Int) ⟨eatAt e u, eatAt e u⟩) b.Extra b.Days b.Collier b.Brings b.Dips = eatB b e (eatAt e u) from rfl, right_law V' A', Option.bind_some, bne_self_eq_false, cond_false]
    have : (TT (eatB b e (eatAt e u))).isEmpty = false := by
      cases hT : TT (eatB b e (eatAt e u)) with
      | nil => rw [hT] at hm; cases hm
      | cons _ _ => rfl
    rw [this, Bool.not_false, Bool.not_true, cond_false, wrN hk (by omega)]
  match k, hk with
  | 0, _ => exact step t.Low rfl (T.low hne)
  | 1, _ => exact step t.High rfl (T.high hne)
theorem l4_step {b : CoalBook} (V : Val b) (A : Arg b) (hp : b.Dips.length ≤ 3) {d k : Nat} (hd : d < b.Days.length) {s : Span} (S : SpanOf (coalAt d) (TT b) s) {m v : Int} (hk : k < 5) (t : Span × Int) (x31 x33 : Int) (x56 : Int × Int) (rec : Int → Option Bool)
    (hv : getI [s.Low, s.High, wr (s.Low - 1), wr (s.High + 1), m] (k : Int) = some v) (h2 : k < 2 → ∃ u ∈ TT b, coalAt d u = v) : law_CoalEnds_l4 (s, 0) m b (d : Int) t x31 x33 x56 rec (k : Int) = rec ((k + 1 : Nat) : Int) := by
  have hdn := V.dn
  unfold law_CoalEnds_l4
  rw [decide_eq_true (show (k : Int) < ([(s, (0 : Int)).1.Low, (s, (0 : Int)).1.High, wr ((s, (0 : Int)).1.Low - 1), wr ((s, (0 : Int)).1.High + 1), m].length : Int) by simp; omega), cond_true, hv, Option.bind_some, inside_eq, Option.bind_some, wrN hk (by omega)]
  cases hi : inB v 0 800 with
  | false => rw [Bool.not_false, cond_true]
  | true =>
    obtain ⟨v0, v1⟩ := inB_iff.1 hi
    have V' := with_val V hp hd v0 v1
    have A' : Arg (withB b (CoalDip.mk (d : Int) v 0)) := V'.arg A.el A.xl
    rw [Bool.not_true, cond_false, Option.bind_some, with_eq V, Option.bind_some]
    rw [show CoalBook.mk (withB b (CoalDip.mk (d : Int) v 0)).Heap (withB b (CoalDip.mk (d : Int) v 0)).Eats (withB b (CoalDip.mk (d : Int) v 0)).Extra b.Days (withB b (CoalDip.mk (d : Int) v 0)).Collier (withB b (CoalDip.mk (d : Int) v 0)).Brings (withB b (CoalDip.mk (d : Int) v 0)).Dips = withB b (CoalDip.mk (d : Int) v 0) from rfl, right_law V' A', Option.bind_some, bne_self_eq_false, cond_false]
    cases hE : (TT (withB b (CoalDip.mk (d : Int) v 0))).isEmpty with
    | true =>
      by_cases hk2 : k < 2
      · obtain ⟨u, hu, e⟩ := h2 hk2
        have := (with_cut hdn.2 u hd).2 ⟨hu, e⟩
        rw [List.isEmpty_iff.1 hE] at this; cases this
      · rw [decide_eq_false (by omega), cond_false, Bool.not_true, cond_false]
    | false =>
      have hin : inB v s.Low s.High = true := by
        cases hT : TT (withB b (CoalDip.mk (d : Int) v 0)) with
        | nil => rw [hT] at hE; cases hE
        | cons u l =>
          have hu : u ∈ TT (withB b (CoalDip.mk (d : Int) v 0)) := by rw [hT]; exact List.mem_cons_self ..
          obtain ⟨g1, g2⟩ := (with_cut hdn.2 u hd).1 hu
          have := S.le u g1; have := S.ge u g1
          exact inB_iff.2 (by omega)
      rw [Bool.not_false, Bool.not_true, cond_false, cond_true, Option.bind_some, show B_Contains (s, (0 : Int)).1 v = some (inB v s.Low s.High) from holds_eq s v, Option.bind_some, hin, Bool.not_true, cond_false]
      by_cases hk2 : k < 2
      · rw [decide_eq_true (by omega), cond_true]
      · rw [decide_eq_false (by omega), cond_false]
theorem law_coalEnds (b : CoalBook) (A : Arg b) (a : List Int) : law_CoalEnds b a = some true := by
  unfold law_CoalEnds
  rw [sound_eq b A, Option.bind_some]
  cases hv : valB b with
  | false => simp only [Bool.not_false, cond_true, stoked_eq, Option.bind_some]
  | true =>
    have V := val_iff.1 hv
    have hdn := V.dn
    rw [Bool.not_true, cond_false]
    cases h4 : ((b.Dips.length : Int) == 4) with
    | true => simp only [cond_true, stoked_eq, Option.bind_some]
    | false =>
      have hp : b.Dips.length ≤ 3 := by
        have := V.pn
        have := beq_eq_false_iff_ne.1 h4
        omega
      obtain ⟨d, hd, hd2⟩ := modN (aget a 0) (n := b.Days.length) (by omega) (by omega)
      obtain ⟨e, he, he2⟩ := modN (aget a 1) (n := 2) (by omega) (by omega)
      obtain ⟨w, hw, hw2⟩ := modN (aget a 2) (n := 3) (by omega) (by omega)
      obtain ⟨m, hm, _, _⟩ := mod_ok (aget a 3) 801 (by omega) (by omega)
      have he' : B_Mod (aget a 1) 2 = some (e : Int) := he
      have hw' : B_Mod (aget a 2) 3 = some (w : Int) := hw
      obtain ⟨s, s1, S⟩ := heap_law V A hd2
      obtain ⟨t, t1, T⟩ := eats_law V A he2
      have wb := wind_law V A hd2
      rw [cond_false, hd, Option.bind_some, he', Option.bind_some, hw', Option.bind_some, s1, Option.bind_some, t1, Option.bind_some, wb, Option.bind_some]
      cases hT : (TT b).isEmpty with
      | true =>
        have hnil := List.isEmpty_iff.1 hT
        have e1 := S.nil hnil
        have e2 := T.nil hnil
        subst e1 e2
        rw [show B_Point 0 = some ⟨0, 0⟩ from rfl]
        simp only [cond_true, show ((62 : Int) != 0) = true by decide, beq_self_eq_true, Bool.and_self, stoked_eq, Option.bind_some]
      | false =>
        have hne : TT b ≠ [] := fun h2 => by rw [h2] at hT; cases hT
        obtain ⟨u, hu⟩ := List.exists_mem_of_ne_nil _ hne
        have hX := List.getElem?_eq_getElem hd2
        have g1 := S.le u hu; have g2 := S.ge u hu
        have g3 := T.le u hu; have g4 := T.ge u hu
        have hcov : (agetS b.Eats (e : Int)).Low ≤ t.Low ∧ t.High ≤ (agetS b.Eats (e : Int)).High := by
          obtain ⟨p, hp1, p2⟩ := T.low hne
          obtain ⟨r, hr1, r2⟩ := T.high hne
          have q1 := truth_eats hp1; have q2 := truth_eats hr1
          have q1a := rng_mem.1 q1.1; have q1b := rng_mem.1 q1.2
          have q2a := rng_mem.1 q2.1; have q2b := rng_mem.1 q2.2
          match e, he2 with
          | 0, _ =>
            show (agetS b.Eats (0 : Int)).Low ≤ t.Low ∧ t.High ≤ (agetS b.Eats (0 : Int)).High
            have q1a : (agetS b.Eats (0 : Int)).Low ≤ eatAt 0 p ∧ eatAt 0 p ≤ (agetS b.Eats (0 : Int)).High := q1a
            have q2a : (agetS b.Eats (0 : Int)).Low ≤ eatAt 0 r ∧ eatAt 0 r ≤ (agetS b.Eats (0 : Int)).High := q2a
            omega
          | 1, _ =>
            show (agetS b.Eats (1 : Int)).Low ≤ t.Low ∧ t.High ≤ (agetS b.Eats (1 : Int)).High
            have q1b : (agetS b.Eats (1 : Int)).Low ≤ eatAt 1 p ∧ eatAt 1 p ≤ (agetS b.Eats (1 : Int)).High := q1b
            have q2b : (agetS b.Eats (1 : Int)).Low ≤ eatAt 1 r ∧ eatAt 1 r ≤ (agetS b.Eats (1 : Int)).High := q2b
            omega
        have wl : windSet d (TT b) < 8 := windSet_lt (q := opn b []) (TT b) 0 (by omega) fun t ht => (truth_bit hdn.2 ht hX).1
        have hnot : andNotI (windSet d (TT b) : Int) b.Days[d].Winds = 0 := by
          obtain ⟨_, _, x3⟩ := dayB_iff (V.da _ (List.getElem_mem hd2))
          have := not_small ⟨windSet d (TT b), wl⟩ ⟨b.Days[d].Winds.toNat, by omega⟩ fun i hi => by
            rcases (windSet_bit (TT b) 0 i.val).1 hi with h0 | ⟨t, ht, e⟩
            · simp at h0
            · have hb := (truth_bit hdn.2 ht hX).2
              rw [e] at hb
              have := bit_test ⟨b.Days[d].Winds.toNat, by omega⟩ i
              simp only at this ⊢
              rw [← this, show ((b.Days[d].Winds.toNat : Nat) : Int) = b.Days[d].Winds by omega]
              exact hb
          simp only at this
          rw [show ((b.Days[d].Winds.toNat : Nat) : Int) = b.Days[d].Winds by omega] at this
          exact this
        simp only [cond_false, bne_self_eq_false]
        rw [decide_eq_false (show ¬ s.Low > s.High by omega), cond_false, need_of (by simp [inI]; omega), covers_iff hcov, Option.bind_some, decide_eq_false (show ¬ t.Low > t.High by omega), getI_ix hd2, Option.bind_some, hnot, hm]
        simp only [Bool.not_true, cond_false, bne_self_eq_false, Option.bind_some]
        refine loop_fold0 (fun k => (k : Int)) 5 (fun rec k hk => ?_) (fun rec => ?_) (by rw [big_eq]; omega) rfl
        · match k, hk with
          | 0, hk => exact l4_step V A hp hd2 S hk _ _ _ _ rec (show getI _ _ = some s.Low from rfl) fun _ => S.low hne
          | 1, hk => exact l4_step V A hp hd2 S hk _ _ _ _ rec (show getI _ _ = some s.High from rfl) fun _ => S.high hne
          | 2, hk => exact l4_step V A hp hd2 S hk _ _ _ _ rec (show getI _ _ = some (wr (s.Low - 1)) from rfl) fun h => by omega
          | 3, hk => exact l4_step V A hp hd2 S hk _ _ _ _ rec (show getI _ _ = some (wr (s.High + 1)) from rfl) fun h => by omega
          | 4, hk => exact l4_step V A hp hd2 S hk _ _ _ _ rec (show getI _ _ = some m from rfl) fun h => by omega
        · unfold law_CoalEnds_l4
          rw [decide_eq_false (show ¬ (((5 : Nat) : Int) < ([(s, (0 : Int)).1.Low, (s, (0 : Int)).1.High, wr ((s, (0 : Int)).1.Low - 1), wr ((s, (0 : Int)).1.High + 1), m].length : Int)) by simp), cond_false]
          exact l3_ends V A hd2 hw2 he2 T hne
end Go.Proofs.YticodohfokgjfaaDoor

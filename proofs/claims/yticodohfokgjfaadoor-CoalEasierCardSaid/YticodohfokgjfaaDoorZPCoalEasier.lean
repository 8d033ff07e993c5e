/- The law of what is easier. -/
import Derived.Test.YticodohfokgjfaaDoorZPEasier
import Derived.Test.YticodohfokgjfaaDoorZWCoalEasier
set_option linter.unusedVariables false
set_option linter.unusedSimpArgs false
namespace Go.Proofs.YticodohfokgjfaaDoor
open Go Go.Fx
def lowX (l : List Int) : Int := if (if aget l 2 < aget l 1 then aget l 2 else aget l 1) < aget l 0 then (if aget l 2 < aget l 1 then aget l 2 else aget l 1) else aget l 0
def calmX (l : List Int) : List Int := [lowX l, aget l 1, aget l 2]
def bareB (b : CoalBook) (ds : List CoalDay) : CoalBook := CoalBook.mk b.Heap b.Eats (calmX b.Extra) ds b.Collier b.Brings []
theorem lowX_le (l : List Int) : lowX l ≤ aget l 0 ∧ lowX l ≤ aget l 1 ∧ lowX l ≤ aget l 2 ∧ (lowX l = aget l 0 ∨ lowX l = aget l 1 ∨ lowX l = aget l 2) := by
  unfold lowX
  split <;> split <;> omega
theorem aget_bd {b : CoalBook} (V : Val b) (j : Int) : 0 ≤ aget b.Extra j ∧ aget b.Extra j ≤ 9 := by
  unfold aget
  rw [List.getD_eq_getElem?_getD]
  cases hk : b.Extra[j.toNat]? with
  | none => simp
  | some y => exact V.ex y (List.mem_of_getElem? hk)
theorem calm_bd {b : CoalBook} (V : Val b) : ∀ x ∈ calmX b.Extra, 0 ≤ x ∧ x ≤ 9 := by
  have h0 := aget_bd V 0; have h1 := aget_bd V 1; have h2 := aget_bd V 2
  have := lowX_le b.Extra
  intro x hx
  simp only [calmX, List.mem_cons, List.not_mem_nil, or_false] at hx
  rcases hx with rfl | rfl | rfl <;> omega
theorem bare_val {b : CoalBook} (V : Val b) {ds : List CoalDay} (hl : ds.length = b.Days.length) (hd : ∀ x ∈ ds, dayB x = true) : Val (bareB b ds) :=
  ⟨V.hp, by show 1 ≤ ds.length ∧ ds.length ≤ 6; rw [hl]; exact V.dn, by show spB b.Collier (ds.length : Int) 3 = true; rw [hl]; exact V.co, V.br, by show ([] : List CoalDip).length ≤ 4; simp, V.ea, calm_bd V, hd, fun x hx => by cases hx⟩
theorem bare_arg {b : CoalBook} (V : Val b) (A : Arg b) {ds : List CoalDay} (hl : ds.length = b.Days.length) : Arg (bareB b ds) :=
  ⟨by show ds.length ≤ _; rw [hl]; exact A.dl, by show ([] : List CoalDip).length ≤ _; simp, A.el, rfl⟩
theorem bare_easy {b : CoalBook} (V : Val b) {ds : List CoalDay} (hl : ds.length = b.Days.length) (he : ∀ (d : Nat) (x : CoalDay), b.Days[d]? = some x → ∃ y, ds[d]? = some y ∧ Easy x y) : EasyB (bareB b b.Days) (bareB b ds) where
  hH := rfl
  hE := rfl
  hC := rfl
  hB := rfl
  hX := rfl
  d1 := rfl
  d2 := rfl
  hD := hl.symm
  ex j hj := by
    show 0 ≤ aget (calmX b.Extra) (j : Int) ∧ aget (calmX b.Extra) (j : Int) ≤ 9
    match j, hj with
    | 0, _ => exact calm_bd V _ (by simp [calmX, aget])
    | 1, _ => exact calm_bd V _ (by simp [calmX, aget])
    | 2, _ => exact calm_bd V _ (by simp [calmX, aget])
  e0 j hj := by
    have := lowX_le b.Extra
    show lowX b.Extra ≤ aget (calmX b.Extra) (j : Int)
    match j, hj with
    | 0, _ => exact Int.le_refl _
    | 1, _ => exact this.2.1
    | 2, _ => exact this.2.2.1
  da := he
theorem kind_le {n : Nat} {L L' : List Coal_truth} (hu : ∀ u ∈ L, ∃ u' ∈ L', ∀ k, k < n → coalAt k u ≤ coalAt k u') (hd : ∀ u ∈ L', ∃ u' ∈ L, ∀ k, k < n → coalAt k u' ≤ coalAt k u) {d : Nat} (hdn : d < n) : kind L d ≤ kind L' d := by
  have up : L.any (lastB d) = true → L'.any (lastB d) = true := fun h => by
    obtain ⟨u, h1, h2⟩ := List.any_eq_true.1 h
    obtain ⟨u', h3, h4⟩ := hu u h1
    refine List.any_eq_true.2 ⟨u', h3, lastB_iff.2 fun k hk => ?_⟩
    have := lastB_iff.1 h2 k hk; have := h4 k (by omega); omega
  have dn : L.all (lastB d) = true → L'.all (lastB d) = true := fun h => List.all_eq_true.2 fun u h1 => by
    obtain ⟨u', h3, h4⟩ := hd u h1
    refine lastB_iff.2 fun k hk => ?_
    have := lastB_iff.1 (List.all_eq_true.1 h u' h3) k hk; have := h4 k (by omega); omega
  unfold kind
  cases h1 : L.any (lastB d) with
  | false =>
    cases h2 : L.all (lastB d) with
    | false => cases L'.any (lastB d) <;> cases L'.all (lastB d) <;> decide
    | true => rw [dn h2]; cases L'.any (lastB d) <;> decide
  | true =>
    rw [up h1]
    cases h2 : L.all (lastB d) with
    | false => cases L'.all (lastB d) <;> decide
    | true => rw [dn h2]; decide
theorem j6_true {b : CoalBook} (V : Val b) (A : Arg b) (a : List Int) {ds : List CoalDay} (hl : ds.length = b.Days.length) (hd : ∀ x ∈ ds, dayB x = true) (he : ∀ (d : Nat) (x : CoalDay), b.Days[d]? = some x → ∃ y, ds[d]? = some y ∧ Easy x y) : law_CoalEasier_j6 a b ds = some true := by
  have hdn := V.dn
  obtain ⟨d, hm, hd2⟩ := modN (aget a 2) (n := b.Days.length) (by omega) (by omega)
  have Vx := bare_val V (ds := b.Days) rfl V.da
  have Ax := bare_arg V A (ds := b.Days) rfl
  have Vy := bare_val V hl hd
  have Ay := bare_arg V A hl
  have EB := bare_easy V hl he
  have nx : TT (bareB b b.Days) ≠ [] := truths_ne Vx Ax rfl
  have ny : TT (bareB b ds) ≠ [] := truths_ne Vy Ay rfl
  have ex : (TT (bareB b b.Days)).isEmpty = false := by
    cases h : (TT (bareB b b.Days)).isEmpty with
    | false => rfl
    | true => exact (nx (List.isEmpty_iff.1 h)).elim
  have ey : (TT (bareB b ds)).isEmpty = false := by
    cases h : (TT (bareB b ds)).isEmpty with
    | false => rfl
    | true => exact (ny (List.isEmpty_iff.1 h)).elim
  have up : ∀ u ∈ TT (bareB b b.Days), ∃ u' ∈ TT (bareB b ds), ∀ k, k < b.Days.length → coalAt k u ≤ coalAt k u' := fun u hu => EB.up Vx Ax hu
  have dn : ∀ u ∈ TT (bareB b ds), ∃ u' ∈ TT (bareB b b.Days), ∀ k, k < b.Days.length → coalAt k u' ≤ coalAt k u := fun u hu => EB.down Vx Vy Ay hu
  have kx := lasts_law Vx Ax (d := d) hd2
  have ky := lasts_law Vy Ay (d := d) (show d < ds.length by omega)
  obtain ⟨s, s1, S⟩ := heap_law Vx Ax (d := d) hd2
  obtain ⟨t, t1, T⟩ := heap_law Vy Ay (d := d) (show d < ds.length by omega)
  obtain ⟨o, o1, O⟩ := order_law Vx Ax
  obtain ⟨p, p1, P⟩ := order_law Vy Ay
  rw [ex] at kx s1 o1
  rw [ey] at ky t1 p1
  have O := O nx
  have P := P ny
  have hk := kind_le up dn hd2
  have q1 : t.Low ≥ s.Low := by
    obtain ⟨u, hu, e1⟩ := T.low ny
    obtain ⟨u', hu', e2⟩ := dn u hu
    have := S.le u' hu'; have := e2 d hd2; omega
  have q2 : t.High ≥ s.High := by
    obtain ⟨u, hu, e1⟩ := S.high nx
    obtain ⟨u', hu', e2⟩ := up u hu
    have := T.ge u' hu'; have := e2 d hd2; omega
  have q3 : p ≤ o := by
    have := O.n0
    rcases P.is with h | ⟨k, hk, u, hu, h⟩
    · omega
    · obtain ⟨u', hu', e2⟩ := dn u hu
      have hk : k < b.Days.length := by have : k < ds.length := hk; omega
      have := O.ge k hk u' hu'; have := e2 k hk; omega
  unfold law_CoalEasier_j6
  rw [hm, Option.bind_some]
  have c1 : CoalBook.mk b.Heap b.Eats [(if (if (aget b.Extra 2) < (aget b.Extra 1) then (aget b.Extra 2) else (aget b.Extra 1)) < (aget b.Extra 0) then (if (aget b.Extra 2) < (aget b.Extra 1) then (aget b.Extra 2) else (aget b.Extra 1)) else (aget b.Extra 0)), aget b.Extra 1, aget b.Extra 2] b.Days b.Collier b.Brings ([] : List _) = bareB b b.Days := rfl
  have c2 : CoalBook.mk b.Heap b.Eats [(if (if (aget b.Extra 2) < (aget b.Extra 1) then (aget b.Extra 2) else (aget b.Extra 1)) < (aget b.Extra 0) then (if (aget b.Extra 2) < (aget b.Extra 1) then (aget b.Extra 2) else (aget b.Extra 1)) else (aget b.Extra 0)), aget b.Extra 1, aget b.Extra 2] ds b.Collier b.Brings ([] : List _) = bareB b ds := rfl
  rw [c1, c2, kx, ky, s1, t1, o1, p1]
  simp only [Option.bind_some, cond_false, beq_self_eq_true, cond_true]
  rw [decide_eq_true (show kind (TT (bareB b ds)) d ≥ kind (TT (bareB b b.Days)) d from hk), decide_eq_true q1, decide_eq_true q2, decide_eq_true q3, stoked_eq]
  simp only [Option.bind_some, cond_true]
def calmD (x : CoalDay) : CoalDay := CoalDay.mk x.Crosses x.Engines 1
def calmTo (l : List CoalDay) (k : Nat) : List CoalDay := l.mapIdx fun i x => if i < k then calmD x else x
theorem calmTo_len (l : List CoalDay) (k : Nat) : (calmTo l k).length = l.length := by simp [calmTo]
theorem calmTo_set (l : List CoalDay) (k : Nat) (h : k < l.length) : (calmTo l k).set k (calmD l[k]) = calmTo l (k + 1) := by
  refine List.ext_getElem (by simp [calmTo]) fun i h1 h2 => ?_
  have hi : i < l.length := by simpa [calmTo] using h2
  rw [List.getElem_set]
  simp only [calmTo, List.getElem_mapIdx]
  by_cases hki : k = i
  · subst hki; simp
  · rw [if_neg hki]
    by_cases hlt : i < k
    · rw [if_pos hlt, if_pos (by omega)]
    · rw [if_neg hlt, if_neg (by omega)]
theorem law_coalEasier (b : CoalBook) (A : Arg b) (a : List Int) : law_CoalEasier b a = some true := by
  unfold law_CoalEasier
  rw [sound_eq b A, Option.bind_some]
  cases hv : valB b with
  | false => simp only [Bool.not_false, cond_true, stoked_eq, Option.bind_some]
  | true =>
    have V := val_iff.1 hv
    have hdn := V.dn
    obtain ⟨d, hd, hd2⟩ := modN (aget a 1) (n := b.Days.length) (by omega) (by omega)
    obtain ⟨e, he, e0, e1⟩ := mod_ok (aget a 0) 2 (by omega) (by omega)
    have hne : b.Days.isEmpty = false := by
      cases h : b.Days with
      | nil => rw [h] at hdn; simp at hdn
      | cons _ _ => rfl
    rw [Bool.not_true, cond_false, hd, Option.bind_some, hne, cond_false, need_of (by unfold fitsL; simp; omega), he, Option.bind_some]
    have day : ∀ (i : Nat) (x : CoalDay), b.Days[i]? = some x → dayB x = true := fun i x hx => V.da x (List.mem_of_getElem? hx)
    cases hz : (e == 0) with
    | true =>
      rw [cond_true, getI_ix hd2, Option.bind_some, Option.bind_some]
      have hX := day d _ (List.getElem?_eq_getElem hd2)
      have hg := List.getElem?_eq_getElem hd2
      generalize b.Days[d] = X at hX hg
      obtain ⟨x1, x2, x3⟩ := dayB_iff hX
      rw [wrI (by omega) (by omega), Int.toNat_natCast]
      have hY : dayB (CoalDay.mk (if X.Crosses - 1 > 0 then X.Crosses - 1 else 0) X.Engines X.Winds) = true := by
        unfold dayB
        simp only [Bool.and_eq_true, inB_iff]
        refine ⟨⟨?_, x2⟩, x3⟩
        split <;> omega
      refine j6_true V A a (by rw [List.length_set]) (fun x hx => ?_) (fun i x hx => ?_)
      · rcases List.mem_or_eq_of_mem_set hx with hx | rfl
        · exact V.da x hx
        · exact hY
      · by_cases hi : d = i
        · subst hi
          rw [hg] at hx
          obtain rfl := Option.some.inj hx
          refine ⟨CoalDay.mk (if X.Crosses - 1 > 0 then X.Crosses - 1 else 0) X.Engines X.Winds, by rw [List.getElem?_set_self hd2], ?_, ?_, x1.2, rfl, .inl rfl, x3⟩
          · simp only; split <;> omega
          · simp only; split <;> omega
        · obtain ⟨x1, x2, x3⟩ := dayB_iff (day i x hx)
          exact ⟨x, by rw [List.getElem?_set_ne hi]; exact hx, x1.1, Int.le_refl _, x1.2, rfl, .inl rfl, x3⟩
    | false =>
      rw [cond_false]
      refine loop_fold0 (fun k => ((k : Int), calmTo b.Days k)) b.Days.length (fun rec k hk => ?_) (fun rec => ?_) (by rw [big_eq]; omega) ?_
      · unfold law_CoalEasier_l7
        simp only
        have hg : (calmTo b.Days k)[k]'(by rw [calmTo_len]; exact hk) = b.Days[k] := by simp [calmTo]
        rw [calmTo_len, decide_eq_true (by omega), cond_true, getI_ix (by rw [calmTo_len]; exact hk), Option.bind_some, hg, wrN hk (by omega), Int.toNat_natCast]
        have := calmTo_set b.Days k hk
        unfold calmD at this
        rw [this]
      · unfold law_CoalEasier_l7
        simp only
        rw [calmTo_len, decide_eq_false (by omega), cond_false]
        have gt : ∀ (i : Nat) (x : CoalDay), b.Days[i]? = some x → (calmTo b.Days b.Days.length)[i]? = some (calmD x) := fun i x hx => by
          have hi := (List.getElem?_eq_some_iff.1 hx).1
          unfold calmTo
          rw [List.getElem?_mapIdx, hx, Option.map_some, if_pos hi]
        refine j6_true V A a (calmTo_len _ _) (fun y hy => ?_) (fun i x hx => ?_)
        · obtain ⟨i, hi, rfl⟩ := List.getElem_of_mem hy
          have hi2 : i < b.Days.length := by rw [calmTo_len] at hi; exact hi
          have h1 := gt i _ (List.getElem?_eq_getElem hi2)
          rw [List.getElem?_eq_getElem hi] at h1
          rw [Option.some.inj h1]
          obtain ⟨x1, x2, x3⟩ := dayB_iff (V.da _ (List.getElem_mem hi2))
          unfold dayB calmD
          simp only [Bool.and_eq_true, inB_iff]
          exact ⟨⟨x1, x2⟩, by omega, by omega⟩
        · obtain ⟨x1, x2, x3⟩ := dayB_iff (day i x hx)
          exact ⟨_, gt i x hx, x1.1, Int.le_refl _, x1.2, rfl, .inr rfl, x3⟩
      · show (((0 : Nat) : Int), calmTo b.Days 0) = (0, b.Days)
        have : calmTo b.Days 0 = b.Days := by
          unfold calmTo
          refine List.ext_getElem (by simp) fun i h1 h2 => ?_
          simp
        rw [this]; rfl
end Go.Proofs.YticodohfokgjfaaDoor

/- Books that are easier: truth by truth there is more coal. -/
import Derived.Test.YticodohfokgjfaaDoorZPWrong2
set_option linter.unusedVariables false
set_option linter.unusedSimpArgs false
namespace Go.Proofs.YticodohfokgjfaaDoor
open Go Go.Fx
def bitB (x : CoalDay) (j : Nat) : Bool := (andI (shrI x.Winds (j : Int)) 1) == 1
def Ent (ds : List CoalDay) (ex : List Int) (p : Coal_gust × Int) : Prop := ∃ (k j : Nat) (x : CoalDay), p.1 = Coal_gust.mk (k : Int) (j : Int) ∧ ds[k]? = some x ∧ bitB x j = true ∧ j < 3 ∧ p.2 = wr (x.Crosses * aget ex (j : Int))
theorem costW_ent {ds : List CoalDay} {ex : List Int} {d : Nat} {x : CoalDay} {m : List (Coal_gust × Int)} (hx : ds[d]? = some x) (hm : ∀ p ∈ m, Ent ds ex p) : ∀ k, k ≤ 3 → ∀ p ∈ costW x ex (d : Int) m k, Ent ds ex p
  | 0, _ => hm
  | k + 1, hk => by
    intro p hp
    unfold costW at hp
    cases hc : (andI (shrI x.Winds (k : Int)) 1) == 1 with
    | false => rw [hc, cond_false] at hp; exact costW_ent hx hm k (by omega) p hp
    | true =>
      rw [hc, cond_true] at hp
      rcases putL_mem hp with rfl | hp
      · exact ⟨d, k, x, rfl, hx, hc, by omega, rfl⟩
      · exact costW_ent hx hm k (by omega) p hp
theorem costD_ent {ds : List CoalDay} {ex : List Int} : ∀ k, ∀ p ∈ costD ds ex k, Ent ds ex p
  | 0 => fun p h => by cases h
  | k + 1 => by
    unfold costD
    cases hk : ds[k]? with
    | none => exact costD_ent k
    | some x => exact costW_ent hk (costD_ent k) 3 (by omega)
theorem look_val {ds : List CoalDay} {ex : List Int} {n d j : Nat} {c : Int} (h : lookL (costD ds ex n) (Coal_gust.mk (d : Int) (j : Int)) = some c) : ∃ x, ds[d]? = some x ∧ bitB x j = true ∧ j < 3 ∧ c = wr (x.Crosses * aget ex (j : Int)) := by
  unfold lookL at h
  obtain ⟨p, hp, rfl⟩ := Option.map_eq_some_iff.1 h
  have hk := List.find?_some hp
  have hk : p.1 = Coal_gust.mk (d : Int) (j : Int) := by simpa using hk
  obtain ⟨k, i, x, h1, h2, h3, h4, h5⟩ := costD_ent n p (List.mem_of_find?_eq_some hp)
  rw [h1] at hk
  have h6 := congrArg Coal_gust.day_ hk
  have h7 := congrArg Coal_gust.wind_ hk
  simp only at h6 h7
  obtain rfl : k = d := by omega
  obtain rfl : i = j := by omega
  exact ⟨x, h2, h3, h4, h5⟩
theorem val_look {ds : List CoalDay} {ex : List Int} {n d j : Nat} {x : CoalDay} (hx : ds[d]? = some x) (hb : bitB x j = true) (hj : j < 3) (hd : d < n) : lookL (costD ds ex n) (Coal_gust.mk (d : Int) (j : Int)) = some (wr (x.Crosses * aget ex (j : Int))) := by
  obtain ⟨v, hv⟩ := has_look (costD_has (ex := ex) hx hj hb n hd)
  obtain ⟨y, h1, _, _, h4⟩ := look_val hv
  rw [hx] at h1
  obtain rfl := Option.some.inj h1
  rw [hv, h4]
def E2 (e : List Int) : Prop := e.length = 2 ∧ ∀ x ∈ e, 0 ≤ x ∧ x ≤ 9
theorem blown_mk0 {q : Coal_book} {r w : Nat} {t u : Coal_truth} {d c cost : Int} (hw : w < 3) (hl : lookL q.costs_ (Coal_gust.mk d (w : Int)) = some cost) (hr : rightB q d ((bif t.collier_ == d then c + q.CoalBook.Brings else c) - eng q d t.eats_ - cost) = true)
    (hu : u ∈ blown q r (Coal_truth.mk t.eats_ t.collier_ (aset t.winds_ 6 d (w : Int)) (aset t.coal_ 6 d ((bif t.collier_ == d then c + q.CoalBook.Brings else c) - eng q d t.eats_ - cost))) (d + 1) ((bif t.collier_ == d then c + q.CoalBook.Brings else c) - eng q d t.eats_ - cost)) : u ∈ blown q (r + 1) t d c := by
  rw [blown]
  refine List.mem_flatMap.2 ⟨w, List.mem_range'_1.2 (by omega), ?_⟩
  rw [hl]
  simp only [blown.optL]
  rw [hr, cond_true]
  exact hu
theorem blown_rel {q q' : Coal_book} {n : Nat} (R : Int → Int → Prop) (hR : ∀ z z' c, R z z' → R (z + c) (z' + c)) (hB : q.CoalBook.Brings = q'.CoalBook.Brings) (d2 : q'.CoalBook.Dips = [])
    (step : ∀ d : Nat, d < n → ∀ (w : Nat) (cost : Int), lookL q.costs_ (Coal_gust.mk (d : Int) (w : Int)) = some cost → ∃ (w' : Nat) (cost' : Int), w' < 3 ∧ lookL q'.costs_ (Coal_gust.mk (d : Int) (w' : Int)) = some cost' ∧ ∀ e, E2 e → ∀ z z', R z z' → R (z - eng q d e - cost) (z' - eng q' d e - cost')) :
    ∀ (r : Nat) (t t' : Coal_truth) (d : Nat) (c c' : Int) (u : Coal_truth), d + r = n → n ≤ 6 → t.collier_ = t'.collier_ → t.eats_ = t'.eats_ → E2 t.eats_ → R c c' → (∀ k, k < d → R (coalAt k t) (coalAt k t')) → u ∈ blown q r t d c → ∃ u' ∈ blown q' r t' d c', ∀ k, k < n → R (coalAt k u) (coalAt k u') := by
  have hr : ∀ d x : Int, rightB q' d x = true := fun d x => by unfold rightB; rw [d2]; rfl
  intro r
  induction r with
  | zero =>
    intro t t' d c c' u h1 h2 h3 h4 h5 h6 h7 hu
    obtain rfl := List.mem_singleton.1 hu
    exact ⟨t', List.mem_singleton.2 rfl, fun k hk => h7 k (by omega)⟩
  | succ r ih =>
    intro t t' d c c' u h1 h2 h3 h4 h5 h6 h7 hu
    obtain ⟨w, cost, hw, hl, _, hu⟩ := blown_step hu
    obtain ⟨w', cost', hw', hl', hs⟩ := step d (by omega) w cost hl
    have hz : R (bif t.collier_ == (d : Int) then c + q.CoalBook.Brings else c) (bif t'.collier_ == (d : Int) then c' + q'.CoalBook.Brings else c') := by
      rw [h3, hB]
      cases (t'.collier_ == (d : Int)) with
      | true => exact hR _ _ _ h6
      | false => exact h6
    have hn := hs t.eats_ h5 _ _ hz
    generalize (bif t.collier_ == (d : Int) then c + q.CoalBook.Brings else c) - eng q d t.eats_ - cost = x at hn hu
    obtain ⟨u', hu', hk⟩ := ih (Coal_truth.mk t.eats_ t.collier_ (aset t.winds_ 6 d (w : Int)) (aset t.coal_ 6 d x)) (Coal_truth.mk t'.eats_ t'.collier_ (aset t'.winds_ 6 d (w' : Int)) (aset t'.coal_ 6 d ((bif t'.collier_ == (d : Int) then c' + q'.CoalBook.Brings else c') - eng q' d t'.eats_ - cost'))) (d + 1) x ((bif t'.collier_ == (d : Int) then c' + q'.CoalBook.Brings else c') - eng q' d t'.eats_ - cost') u (by omega) h2 h3 h4 h5 (by rw [← h4]; exact hn) (fun k hk => by
      unfold coalAt
      simp only
      rw [getD_aset (by omega), getD_aset (by omega)]
      by_cases hkd : k = d
      · rw [if_pos (by omega), if_pos (by omega), ← h4]; exact hn
      · rw [if_neg (by omega), if_neg (by omega)]; exact h7 k (by omega)) (by rw [show ((d + 1 : Nat) : Int) = (d : Int) + 1 by omega]; exact hu)
    refine ⟨u', ?_, hk⟩
    rw [show ((d + 1 : Nat) : Int) = (d : Int) + 1 by omega] at hu'
    exact blown_mk0 hw' hl' (hr _ _) hu'
theorem truths_rel {q q' : Coal_book} (Q : Op q) (R : Int → Int → Prop) (hR : ∀ z z' c, R z z' → R (z + c) (z' + c)) (h0 : ∀ z, R z z) (hH : q.CoalBook.Heap = q'.CoalBook.Heap) (hE : q.CoalBook.Eats = q'.CoalBook.Eats) (hC : q.CoalBook.Collier = q'.CoalBook.Collier) (hD : q.CoalBook.Days.length = q'.CoalBook.Days.length) (hB : q.CoalBook.Brings = q'.CoalBook.Brings) (d2 : q'.CoalBook.Dips = [])
    (step : ∀ d : Nat, d < q.CoalBook.Days.length → ∀ (w : Nat) (cost : Int), lookL q.costs_ (Coal_gust.mk (d : Int) (w : Int)) = some cost → ∃ (w' : Nat) (cost' : Int), w' < 3 ∧ lookL q'.costs_ (Coal_gust.mk (d : Int) (w' : Int)) = some cost' ∧ ∀ e, E2 e → ∀ z z', R z z' → R (z - eng q d e - cost) (z' - eng q' d e - cost'))
    {u : Coal_truth} (h : u ∈ truths q) : ∃ u' ∈ truths q', ∀ k, k < q.CoalBook.Days.length → R (coalAt k u) (coalAt k u') := by
  obtain ⟨hp, h1, o, h2, p, h3, c, h4, h⟩ := truth_mem.1 h
  have g2 := rng_mem.1 h2; have g3 := rng_mem.1 h3
  have he0 := Q.ea _ (agetS_mem (i := 0) (by rw [Q.el]; decide))
  have he1 := Q.ea _ (agetS_mem (i := 1) (by rw [Q.el]; decide))
  have m0 := he0.1.l0; have m1 := he0.2; have m2 := he1.1.l0; have m3 := he1.2
  obtain ⟨u', hu', hk⟩ := blown_rel R hR hB d2 step q.CoalBook.Days.length (init o p c) (init o p c) 0 hp hp u (by omega) Q.dn rfl rfl ⟨rfl, fun x hx => by
    simp [init] at hx
    rcases hx with rfl | rfl <;> omega⟩ (h0 _) (fun k hk => by omega) h
  refine ⟨u', truth_mem.2 ⟨hp, hH ▸ h1, o, hE ▸ h2, p, hE ▸ h3, c, hC ▸ h4, hD ▸ hu'⟩, hk⟩
def dayEng (x : CoalDay) (e : List Int) : Int := (bif (andI (shrI x.Engines 0) 1) == 1 then e.getD 0 0 * x.Crosses else 0) + (bif (andI (shrI x.Engines 1) 1) == 1 then e.getD 1 0 * x.Crosses else 0)
theorem eng_day {q : Coal_book} {d : Nat} {x : CoalDay} (h : q.CoalBook.Days[d]? = some x) (e : List Int) : eng q (d : Int) e = dayEng x e := by
  unfold eng
  rw [show ((d : Int)).toNat = d from rfl, h]; rfl
/-- a day that is as another one, or with fewer crossings, or calm -/
structure Easy (x y : CoalDay) : Prop where
  c0 : 0 ≤ y.Crosses
  cx : y.Crosses ≤ x.Crosses
  c9 : x.Crosses ≤ 9
  en : y.Engines = x.Engines
  wi : y.Winds = x.Winds ∨ y.Winds = 1
  wx : 1 ≤ x.Winds ∧ x.Winds ≤ 7
theorem eng_easy {x y : CoalDay} (h : Easy x y) {e : List Int} (he : E2 e) : dayEng y e ≤ dayEng x e := by
  obtain ⟨hl, hb⟩ := he
  match e, hl with
  | [a, b], _ =>
    have ha := hb a (by simp); have hb' := hb b (by simp)
    have m1 : a * y.Crosses ≤ a * x.Crosses := Int.mul_le_mul_of_nonneg_left h.cx ha.1
    have m2 : b * y.Crosses ≤ b * x.Crosses := Int.mul_le_mul_of_nonneg_left h.cx hb'.1
    unfold dayEng
    rw [h.en]
    simp only [show [a, b].getD 0 0 = a from rfl, show [a, b].getD 1 0 = b from rfl]
    cases (andI (shrI x.Engines 0) 1 == 1) <;> cases (andI (shrI x.Engines 1) 1 == 1) <;> simp only [cond_true, cond_false] <;> omega
theorem cost_easy {ex : List Int} (hex : ∀ j : Nat, j < 3 → 0 ≤ aget ex (j : Int) ∧ aget ex (j : Int) ≤ 9) {x y : CoalDay} (h : Easy x y) {j i : Nat} (hj : j < 3) (hi : i < 3) (hle : aget ex (j : Int) ≤ aget ex (i : Int)) : wr (y.Crosses * aget ex (j : Int)) ≤ wr (x.Crosses * aget ex (i : Int)) := by
  have h1 := hex j hj; have h2 := hex i hi
  have c0 := h.c0; have cx := h.cx; have c9 := h.c9
  have m1 : 0 ≤ y.Crosses * aget ex (j : Int) := Int.mul_nonneg c0 h1.1
  have m2 : y.Crosses * aget ex (j : Int) ≤ x.Crosses * aget ex (i : Int) := Int.mul_le_mul cx hle h1.1 (by omega)
  have m3 : x.Crosses * aget ex (i : Int) ≤ 9 * 9 := Int.mul_le_mul c9 h2.2 h2.1 (by omega)
  rw [wrI (by omega) (by omega), wrI (by omega) (by omega)]
  exact m2
theorem bit_zero {y : CoalDay} (h : y.Winds = 1) : bitB y 0 = true := by
  unfold bitB; rw [h]; decide
structure EasyB (b b' : CoalBook) : Prop where
  hH : b.Heap = b'.Heap
  hE : b.Eats = b'.Eats
  hC : b.Collier = b'.Collier
  hB : b.Brings = b'.Brings
  hX : b.Extra = b'.Extra
  d1 : b.Dips = []
  d2 : b'.Dips = []
  hD : b.Days.length = b'.Days.length
  ex : ∀ j : Nat, j < 3 → 0 ≤ aget b.Extra (j : Int) ∧ aget b.Extra (j : Int) ≤ 9
  e0 : ∀ j : Nat, j < 3 → aget b.Extra ((0 : Nat) : Int) ≤ aget b.Extra (j : Int)
  da : ∀ (d : Nat) (x : CoalDay), b.Days[d]? = some x → ∃ y, b'.Days[d]? = some y ∧ Easy x y
theorem EasyB.up {b b' : CoalBook} (h : EasyB b b') (V : Val b) (A : Arg b) {u : Coal_truth} (hu : u ∈ TT b) : ∃ u' ∈ TT b', ∀ k, k < b.Days.length → coalAt k u ≤ coalAt k u' := by
  refine truths_rel (q := opn b []) (q' := opn b' []) (opn_op V A []) (fun z z' => z ≤ z') (fun z z' c hz => by show z + c ≤ z' + c; have : z ≤ z' := hz; omega) (fun z => Int.le_refl z) h.hH h.hE h.hC h.hD h.hB (by show keepD b'.Dips [] b'.Dips.length = []; rw [h.d2]; rfl) (fun d hd w cost hl => ?_) hu
  obtain ⟨x, hx, hb, hw, rfl⟩ := look_val hl
  obtain ⟨y, hy, E⟩ := h.da d x hx
  have hlen : d < b'.Days.length := by have : d < b.Days.length := hd; have := h.hD; omega
  have fin : ∀ j : Nat, j < 3 → bitB y j = true → aget b.Extra (j : Int) ≤ aget b.Extra (w : Int) → ∃ (w' : Nat) (cost' : Int), w' < 3 ∧ lookL (opn b' []).costs_ (Coal_gust.mk (d : Int) (w' : Int)) = some cost' ∧ ∀ e, E2 e → ∀ z z', z ≤ z' → z - eng (opn b []) d e - wr (x.Crosses * aget b.Extra (w : Int)) ≤ z' - eng (opn b' []) d e - cost' := by
    intro j hj hbj hle
    refine ⟨j, _, hj, val_look (ex := b'.Extra) (n := b'.Days.length) hy hbj hj hlen, fun e he z z' hz => ?_⟩
    rw [eng_day (q := opn b []) hx e, eng_day (q := opn b' []) hy e, ← h.hX]
    have h1 := eng_easy E he
    have h2 := cost_easy h.ex E hj hw hle
    omega
  rcases E.wi with hw' | hw'
  · exact fin w hw (by unfold bitB at *; rw [hw']; exact hb) (Int.le_refl _)
  · exact fin 0 (by omega) (bit_zero hw') (h.e0 w hw)
end Go.Proofs.YticodohfokgjfaaDoor

/- Books whose truths are some of another one's. -/
import Derived.Test.YticodohfokgjfaaDoorZPEasier
import Derived.Test.YticodohfokgjfaaDoorZPMore
set_option linter.unusedVariables false
set_option linter.unusedSimpArgs false
namespace Go.Proofs.YticodohfokgjfaaDoor
open Go Go.Fx
theorem blown_low {q : Coal_book} : ∀ (r : Nat) (t u : Coal_truth) (d : Nat) (c : Int), d + r ≤ 6 → u ∈ blown q r t d c → ∀ k, k < d → coalAt k u = coalAt k t ∧ windAt k u = windAt k t := by
  intro r
  induction r with
  | zero =>
    intro t u d c _ h k _
    obtain rfl := List.mem_singleton.1 h
    exact ⟨rfl, rfl⟩
  | succ r ih =>
    intro t u d c hd h k hk
    obtain ⟨w, cost, hw, hl, hr, hu⟩ := blown_step h
    rw [show (d : Int) + 1 = ((d + 1 : Nat) : Int) by omega] at hu
    obtain ⟨h1, h2⟩ := ih _ u (d + 1) _ (by omega) hu k (by omega)
    rw [h1, h2]
    unfold coalAt windAt
    simp only
    rw [getD_aset (by omega), getD_aset (by omega), if_neg (by omega), if_neg (by omega)]
    exact ⟨rfl, rfl⟩
theorem blown_at {q : Coal_book} {r w : Nat} {t u : Coal_truth} {d : Nat} {c x : Int} (hd : d + r + 1 ≤ 6) (h : u ∈ blown q r (Coal_truth.mk t.eats_ t.collier_ (aset t.winds_ 6 d (w : Int)) (aset t.coal_ 6 d x)) ((d : Int) + 1) c) : coalAt d u = x ∧ windAt d u = w := by
  rw [show (d : Int) + 1 = ((d + 1 : Nat) : Int) by omega] at h
  obtain ⟨h1, h2⟩ := blown_low r _ u (d + 1) c (by omega) h d (by omega)
  rw [h1, h2]
  unfold coalAt windAt
  simp only
  rw [getD_aset (by omega), getD_aset (by omega), if_pos (by omega), if_pos (by omega)]
  exact ⟨rfl, by omega⟩
theorem blown_cut {q q' : Coal_book} {n : Nat} (P : Nat → Nat → Int → Prop) (hB : q.CoalBook.Brings = q'.CoalBook.Brings) (he : eng q' = eng q) (h6 : n ≤ 6)
    (hs : ∀ k : Nat, k < n → ∀ w : Nat, w < 3 → ∀ c x : Int, (lookL q'.costs_ (Coal_gust.mk (k : Int) (w : Int)) = some c ∧ rightB q' k x = true) ↔ (lookL q.costs_ (Coal_gust.mk (k : Int) (w : Int)) = some c ∧ rightB q k x = true ∧ P k w x)) :
    ∀ (r : Nat) (t u : Coal_truth) (d : Nat) (c : Int), d + r = n → (u ∈ blown q' r t d c ↔ u ∈ blown q r t d c ∧ ∀ k, d ≤ k → k < n → P k (windAt k u) (coalAt k u)) := by
  intro r
  induction r with
  | zero =>
    intro t u d c hd
    exact ⟨fun h => ⟨h, fun k h1 h2 => by omega⟩, fun h => h.1⟩
  | succ r ih =>
    intro t u d c hd
    have ih2 := fun t c => ih t u (d + 1) c (by omega)
    simp only [show ((d + 1 : Nat) : Int) = (d : Int) + 1 by omega] at ih2
    constructor
    · intro h
      obtain ⟨w, cost, hw, hl, hr, hu⟩ := blown_step h
      rw [he, ← hB] at hr hu
      obtain ⟨e1, e2⟩ := blown_at (by omega) hu
      obtain ⟨g1, g2, g3⟩ := (hs d (by omega) w hw cost _).1 ⟨hl, hr⟩
      obtain ⟨g4, g5⟩ := (ih2 _ _).1 hu
      refine ⟨blown_mk hw g1 g2 g4, fun k h1 h2 => ?_⟩
      by_cases hk : k = d
      · subst hk; rw [e1, e2]; exact g3
      · exact g5 k (by omega) h2
    · rintro ⟨h, hP⟩
      obtain ⟨w, cost, hw, hl, hr, hu⟩ := blown_step h
      obtain ⟨e1, e2⟩ := blown_at (by omega) hu
      have hp := hP d (Nat.le_refl d) (by omega)
      rw [e1, e2] at hp
      obtain ⟨g1, g2⟩ := (hs d (by omega) w hw cost _).2 ⟨hl, hr, hp⟩
      have g4 := (ih2 _ _).2 ⟨hu, fun k h1 h2 => hP k (by omega) h2⟩
      rw [← he, hB] at g2 g4
      exact blown_mk hw g1 g2 g4
theorem truths_cut {q q' : Coal_book} (P : Nat → Nat → Int → Prop) (hH : q.CoalBook.Heap = q'.CoalBook.Heap) (hE : q.CoalBook.Eats = q'.CoalBook.Eats) (hC : q.CoalBook.Collier = q'.CoalBook.Collier) (hD : q.CoalBook.Days.length = q'.CoalBook.Days.length) (hB : q.CoalBook.Brings = q'.CoalBook.Brings) (he : eng q' = eng q) (h6 : q.CoalBook.Days.length ≤ 6)
    (hs : ∀ k : Nat, k < q.CoalBook.Days.length → ∀ w : Nat, w < 3 → ∀ c x : Int, (lookL q'.costs_ (Coal_gust.mk (k : Int) (w : Int)) = some c ∧ rightB q' k x = true) ↔ (lookL q.costs_ (Coal_gust.mk (k : Int) (w : Int)) = some c ∧ rightB q k x = true ∧ P k w x)) (u : Coal_truth) :
    u ∈ truths q' ↔ u ∈ truths q ∧ ∀ k, k < q.CoalBook.Days.length → P k (windAt k u) (coalAt k u) := by
  rw [truth_mem, truth_mem, ← hH, ← hE, ← hC, ← hD]
  have key := fun h o p c => blown_cut P hB he h6 hs q.CoalBook.Days.length (init o p c) u 0 h (by omega)
  simp only [Int.natCast_zero] at key
  constructor
  · rintro ⟨h, h1, o, h2, p, h3, c, h4, hu⟩
    obtain ⟨k1, k2⟩ := (key h o p c).1 hu
    exact ⟨⟨h, h1, o, h2, p, h3, c, h4, k1⟩, fun k hk => k2 k (Nat.zero_le _) hk⟩
  · rintro ⟨⟨h, h1, o, h2, p, h3, c, h4, hu⟩, hP⟩
    exact ⟨h, h1, o, h2, p, h3, c, h4, (key h o p c).2 ⟨hu, fun k _ hk => hP k hk⟩⟩
theorem keep_self (l : List CoalDip) : keepD l [] l.length = l := by rw [keepD_all _ (Nat.le_refl _), List.take_length]
/-- a measure more that is right just at one number -/
theorem with_cut {b : CoalBook} (h6 : b.Days.length ≤ 6) {d : Nat} {R : Int} (u : Coal_truth) (hd : d < b.Days.length) : u ∈ TT (withB b (CoalDip.mk (d : Int) R 0)) ↔ u ∈ TT b ∧ coalAt d u = R := by
  have hr : ∀ (k : Nat) (x : Int), rightB (opn (withB b (CoalDip.mk (d : Int) R 0)) []) k x = (rightB (opn b []) k x && (!((d : Int) == (k : Int)) || inB (x - R) (-0) 0)) := by
    intro k x
    unfold rightB
    show (keepD (b.Dips ++ [CoalDip.mk (d : Int) R 0]) [] (b.Dips ++ [CoalDip.mk (d : Int) R 0]).length).all _ = ((keepD b.Dips [] b.Dips.length).all _ && _)
    rw [keep_self, keep_self, List.all_append]
    simp
  have := truths_cut (q := opn b []) (q' := opn (withB b (CoalDip.mk (d : Int) R 0)) []) (fun k w x => (!((d : Int) == (k : Int)) || inB (x - R) (-0) 0) = true) rfl rfl rfl rfl rfl rfl h6 (fun k hk w hw c x => by
    rw [hr, Bool.and_eq_true]
    exact Iff.rfl) u
  rw [this]
  constructor
  · rintro ⟨h1, h2⟩
    refine ⟨h1, ?_⟩
    have := h2 d hd
    rw [beq_self_eq_true, Bool.not_true, Bool.false_or, inB_iff] at this
    omega
  · rintro ⟨h1, h2⟩
    refine ⟨h1, fun k hk => ?_⟩
    by_cases hkd : d = k
    · subst hkd
      rw [beq_self_eq_true, Bool.not_true, Bool.false_or, inB_iff]
      omega
    · rw [show ((d : Int) == (k : Int)) = false by rw [beq_eq_false_iff_ne]; omega]
      rfl
def windB (b : CoalBook) (d : Nat) (X : CoalDay) (w : Nat) : CoalBook := CoalBook.mk b.Heap b.Eats b.Extra (b.Days.set d (CoalDay.mk X.Crosses X.Engines (shlI 1 (w : Int)))) b.Collier b.Brings b.Dips
theorem bit_shl : ∀ w j : Fin 3, ((andI (shrI (shlI 1 (w.val : Int)) (j.val : Int)) 1) == 1) = decide (j = w) := by decide +kernel
theorem wind_cut {b : CoalBook} (h6 : b.Days.length ≤ 6) {d w : Nat} {X : CoalDay} (hX : b.Days[d]? = some X) (hw : w < 3) (hb : bitB X w = true) (u : Coal_truth) : u ∈ TT (windB b d X w) ↔ u ∈ TT b ∧ windAt d u = w := by
  have hd := (List.getElem?_eq_some_iff.1 hX).1
  have he : eng (opn (windB b d X w) []) = eng (opn b []) := by
    funext k e
    unfold eng
    rw [show (opn (windB b d X w) []).CoalBook.Days = b.Days.set d (CoalDay.mk X.Crosses X.Engines (shlI 1 (w : Int))) from rfl, show (opn b []).CoalBook.Days = b.Days from rfl]
    by_cases hk : d = k.toNat
    · rw [← hk, List.getElem?_set_self hd, hX]
    · rw [List.getElem?_set_ne hk]
  have hr : ∀ (k : Nat) (x : Int), rightB (opn (windB b d X w) []) k x = rightB (opn b []) k x := fun k x => rfl
  have this := truths_cut (q := opn b []) (q' := opn (windB b d X w) []) (fun k j x => k = d → j = w) rfl rfl rfl (by show b.Days.length = (b.Days.set d _).length; rw [List.length_set]) rfl he h6 (fun k hk j hj c x => by
    rw [hr]
    have hk' : k < (b.Days.set d (CoalDay.mk X.Crosses X.Engines (shlI 1 (w : Int)))).length := by rw [List.length_set]; exact hk
    constructor
    · rintro ⟨h1, h2⟩
      obtain ⟨y, g1, g2, g3, rfl⟩ := look_val (ds := b.Days.set d (CoalDay.mk X.Crosses X.Engines (shlI 1 (w : Int)))) (ex := b.Extra) h1
      by_cases hkd : d = k
      · subst hkd
        rw [List.getElem?_set_self hd] at g1
        obtain rfl := Option.some.inj g1
        have hjw : j = w := by
          have := bit_shl ⟨w, hw⟩ ⟨j, hj⟩
          unfold bitB at g2
          simp only at this g2
          rw [this] at g2
          have := of_decide_eq_true g2
          exact congrArg Fin.val this
        subst hjw
        have v := val_look (ex := b.Extra) (n := b.Days.length) hX hb hj hk
        exact ⟨v, h2, fun _ => rfl⟩
      · rw [List.getElem?_set_ne hkd] at g1
        have v := val_look (ex := b.Extra) (n := b.Days.length) g1 g2 hj hk
        exact ⟨v, h2, fun h => absurd h.symm hkd⟩
    · rintro ⟨h1, h2, h3⟩
      obtain ⟨y, g1, g2, g3, rfl⟩ := look_val (ds := b.Days) (ex := b.Extra) h1
      by_cases hkd : d = k
      · subst hkd
        obtain rfl := h3 rfl
        rw [hX] at g1
        obtain rfl := Option.some.inj g1
        have hbj : bitB (CoalDay.mk X.Crosses X.Engines (shlI 1 (j : Int))) j = true := by
          have := bit_shl ⟨j, hj⟩ ⟨j, hj⟩
          unfold bitB
          simp only at this ⊢
          rw [this]; simp
        have v := val_look (ds := b.Days.set d (CoalDay.mk X.Crosses X.Engines (shlI 1 (j : Int)))) (x := CoalDay.mk X.Crosses X.Engines (shlI 1 (j : Int))) (ex := b.Extra) (n := (b.Days.set d (CoalDay.mk X.Crosses X.Engines (shlI 1 (j : Int)))).length) (by rw [List.getElem?_set_self hd]) hbj hj hk'
        exact ⟨v, h2⟩
      · have v := val_look (ds := b.Days.set d (CoalDay.mk X.Crosses X.Engines (shlI 1 (w : Int)))) (x := y) (ex := b.Extra) (n := (b.Days.set d (CoalDay.mk X.Crosses X.Engines (shlI 1 (w : Int)))).length) (by rw [List.getElem?_set_ne hkd]; exact g1) g2 hj hk'
        exact ⟨v, h2⟩) u
  rw [this]
  constructor
  · rintro ⟨h1, h2⟩; exact ⟨h1, h2 d hd rfl⟩
  · rintro ⟨h1, h2⟩; exact ⟨h1, fun k _ hk => by rw [hk]; exact h2⟩
def eatB (b : CoalBook) (e : Nat) (v : Int) : CoalBook := CoalBook.mk b.Heap (asetS b.Eats 2 (e : Int) ⟨v, v⟩) b.Extra b.Days b.Collier b.Brings b.Dips
theorem truth_eats {q : Coal_book} {u : Coal_truth} (h : u ∈ truths q) : eatAt 0 u ∈ rng (agetS q.CoalBook.Eats (0 : Int)) ∧ eatAt 1 u ∈ rng (agetS q.CoalBook.Eats (1 : Int)) := by
  obtain ⟨hp, h1, o, h2, p, h3, c, h4, h⟩ := truth_mem.1 h
  have e := (blown_keep h).2
  unfold eatAt
  rw [e]
  exact ⟨h2, h3⟩
theorem eat_mem {b : CoalBook} (hl : b.Eats.length = 2) {e : Nat} (he : e < 2) {u : Coal_truth} (h : u ∈ TT b) : u ∈ TT (eatB b e (eatAt e u)) := by
  obtain ⟨hp, h1, o, h2, p, h3, c, h4, h⟩ := truth_mem.1 h
  have e2 := (blown_keep h).2
  have hb := blown_congr (q := opn b []) (q' := opn (eatB b e (eatAt e u)) []) rfl rfl rfl rfl b.Days.length (init o p c) 0 hp
  have h' : u ∈ blown (opn b []) b.Days.length (init o p c) 0 hp := h
  rw [hb] at h'
  have e3 : eatAt e u = [o, p].getD e 0 := by unfold eatAt; rw [e2]; rfl
  rw [e3] at h' ⊢
  match hbe : b.Eats, hl with
  | [a1, a2], _ =>
    have h2 : o ∈ rng (agetS b.Eats (0 : Int)) := h2
    have h3 : p ∈ rng (agetS b.Eats (1 : Int)) := h3
    rw [hbe] at h2 h3
    match e, he with
    | 0, _ =>
      refine truth_mem.2 ⟨hp, h1, o, ?_, p, ?_, c, h4, h'⟩
      · show o ∈ rng (agetS (asetS b.Eats 2 ((0 : Nat) : Int) ⟨o, o⟩) (0 : Int))
        rw [hbe]; exact rng_mem.2 ⟨Int.le_refl _, Int.le_refl _⟩
      · show p ∈ rng (agetS (asetS b.Eats 2 ((0 : Nat) : Int) ⟨o, o⟩) (1 : Int))
        rw [hbe]; exact h3
    | 1, _ =>
      refine truth_mem.2 ⟨hp, h1, o, ?_, p, ?_, c, h4, h'⟩
      · show o ∈ rng (agetS (asetS b.Eats 2 ((1 : Nat) : Int) ⟨p, p⟩) (0 : Int))
        rw [hbe]; exact h2
      · show p ∈ rng (agetS (asetS b.Eats 2 ((1 : Nat) : Int) ⟨p, p⟩) (1 : Int))
        rw [hbe]; exact rng_mem.2 ⟨Int.le_refl _, Int.le_refl _⟩
theorem blown_bit {q : Coal_book} {n : Nat} (h6 : n ≤ 6) : ∀ (r : Nat) (t u : Coal_truth) (d : Nat) (c : Int), d + r = n → u ∈ blown q r t d c → ∀ k, d ≤ k → k < n → windAt k u < 3 ∧ ∃ cost, lookL q.costs_ (Coal_gust.mk (k : Int) ((windAt k u : Nat) : Int)) = some cost := by
  intro r
  induction r with
  | zero => intro t u d c hd h k h1 h2; omega
  | succ r ih =>
    intro t u d c hd h k h1 h2
    obtain ⟨w, cost, hw, hl, hr, hu⟩ := blown_step h
    obtain ⟨_, e2⟩ := blown_at (by omega) hu
    by_cases hk : k = d
    · subst hk; rw [e2]; exact ⟨hw, cost, hl⟩
    · rw [show (d : Int) + 1 = ((d + 1 : Nat) : Int) by omega] at hu
      exact ih _ u (d + 1) _ (by omega) hu k (by omega) h2
theorem truth_bit {b : CoalBook} (h6 : b.Days.length ≤ 6) {u : Coal_truth} (h : u ∈ TT b) {d : Nat} {X : CoalDay} (hX : b.Days[d]? = some X) : windAt d u < 3 ∧ bitB X (windAt d u) = true := by
  have hd := (List.getElem?_eq_some_iff.1 hX).1
  obtain ⟨hp, h1, o, h2, p, h3, c, h4, h⟩ := truth_mem.1 h
  obtain ⟨g1, cost, g2⟩ := blown_bit h6 b.Days.length (init o p c) u 0 hp (by omega) h d (Nat.zero_le _) hd
  obtain ⟨x, g3, g4, _, _⟩ := look_val (ds := b.Days) (ex := b.Extra) g2
  rw [hX] at g3
  obtain rfl := Option.some.inj g3
  exact ⟨g1, g4⟩
theorem bit_test : ∀ (w : Fin 8) (i : Fin 3), ((andI (shrI (w.val : Int) (i.val : Int)) 1) == 1) = w.val.testBit i.val := by decide +kernel
end Go.Proofs.YticodohfokgjfaaDoor

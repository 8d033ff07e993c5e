/- Plain facts: what the specification's table of differences comes to. -/
import Derived.Test.YtplpalmabgjibaaDoorZPAgain
set_option linter.unusedVariables false
set_option linter.unusedSimpArgs false
namespace Go.Proofs.YtplpalmabgjibaaDoor
open Go Go.Fx Go.Tally
theorem loopF_cps {σ ρ τ : Type} {body : (σ → Option ρ) → σ → Option ρ} (Inv : σ → Prop) (μ : σ → Nat) (K : τ → Option ρ) (R : τ → Prop)
    (step : ∀ (rec : σ → Option ρ) (s : σ), Inv s → (∀ s', Inv s' → μ s' < μ s → ∃ t, rec s' = K t ∧ R t) → ∃ t, body rec s = K t ∧ R t) :
    ∀ (n : Nat) (s : σ), Inv s → μ s < n → ∃ t, loopF body n s = K t ∧ R t := by
  intro n
  induction n with
  | zero => intro s _ h; omega
  | succ n ih => intro s hs hn; exact step _ s hs fun s' h1 h2 => ih s' h1 (by omega)
abbrev Mt := List (List Int)
structure Sq (n : Nat) (M : Mt) : Prop where
  len : M.length = n + 1
  rows : ∀ r ∈ M, r.length = n + 1
def mg (M : Mt) (i k : Nat) : Int := (M.getD i []).getD k 0
theorem Sq.row {n : Nat} {M : Mt} (h : Sq n M) {i : Nat} (hi : i ≤ n) : getI M (i : Int) = some (M.getD i []) ∧ (M.getD i []).length = n + 1 ∧ M[i]? = some (M.getD i []) := by
  have hl : i < M.length := by rw [h.len]; omega
  have e : M[i]? = some (M.getD i []) := by rw [List.getD_eq_getElem?_getD, List.getElem?_eq_getElem hl]; rfl
  exact ⟨by rw [getI_nat]; exact e, h.rows _ (List.mem_of_getElem? e), e⟩
theorem Sq.cell {n : Nat} {M : Mt} (h : Sq n M) {i k : Nat} (hi : i ≤ n) (hk : k ≤ n) : getI (M.getD i []) (k : Int) = some (mg M i k) := by
  have hl := (h.row hi).2.1
  have hkl : k < (M.getD i []).length := by omega
  rw [getI_nat, mg, List.getD_eq_getElem?_getD (l := M.getD i []), List.getElem?_eq_getElem hkl]; rfl
def upd2 (M : Mt) (i k : Nat) (v : Int) : Mt := M.set i ((M.getD i []).set k v)
theorem Sq.upd {n : Nat} {M : Mt} (h : Sq n M) {i k : Nat} (hi : i ≤ n) {v : Int} : Sq n (upd2 M i k v) := by
  refine ⟨by simp [upd2, h.len], fun r hr => ?_⟩
  have hl : i < M.length := by rw [h.len]; omega
  rcases (mem_set_iff hl).1 hr with rfl | ⟨j, _, hj⟩
  · rw [List.length_set]; exact (h.row hi).2.1
  · exact h.rows _ (List.mem_of_getElem? hj)
theorem mg_upd {n : Nat} {M : Mt} (h : Sq n M) {i k i' k' : Nat} (hi : i ≤ n) (hk : k ≤ n) {v : Int} : mg (upd2 M i k v) i' k' = if i' = i ∧ k' = k then v else mg M i' k' := by
  have hl : i < M.length := by rw [h.len]; omega
  have hr := (h.row hi).2.1
  have hkl : k < (M.getD i []).length := by omega
  unfold mg upd2
  rw [List.getD_eq_getElem?_getD (l := M.set i _), List.getElem?_set]
  by_cases e : i = i'
  · subst e
    simp only [hl, if_true, Option.getD_some, true_and]
    rw [List.getD_eq_getElem?_getD (l := (M.getD i []).set k v), List.getElem?_set]
    by_cases e2 : k = k'
    · subst e2; simp only [hkl, if_true, Option.getD_some]
    · have e3 : ¬ k' = k := fun h => e2 h.symm
      simp only [e2, e3, if_false]
      rw [← List.getD_eq_getElem?_getD]
  · have e3 : ¬ i' = i := fun h => e h.symm
    simp only [e, e3, if_false, false_and]
    rw [← List.getD_eq_getElem?_getD]
def mn (a b : Int) : Int := if b < a then b else a
theorem mn_le {a b : Int} : mn a b ≤ a ∧ mn a b ≤ b ∧ (mn a b = a ∨ mn a b = b) := by unfold mn; split <;> omega
/-- one row, by way of a place -/
structure RowStep (n via i : Nat) (M M' : Mt) : Prop where
  sq : Sq n M'
  other : ∀ i' k', i' ≠ i → mg M' i' k' = mg M i' k'
  le : ∀ k, mg M' i k ≤ mg M i k
  exact : (∀ i' k', i' ≤ n → k' ≤ n → -1000000000 ≤ mg M i' k' ∧ mg M i' k' ≤ 1000000000) → 0 ≤ mg M via via → ∀ k, k ≤ n → mg M' i k = mn (mg M i k) (mg M i via + mg M via k)
theorem row_loop {b : TallyBook} {n via i : Nat} {M : Mt} {z5 z6 : Mt × Int} {rec6 : Mt × Int → Option (Mt × Bool)} (hT : b.Trips = n) (hn : n ≤ 8) (hM : Sq n M) (hv : via ≤ n) (hi : i ≤ n) (h5 : z5.2 = via) (h6 : z6.2 = i) :
    ∃ M', loopF (ref_most_l82 b z6 z5 rec6) big (M, 0) = rec6 (M', ((i + 1 : Nat) : Int)) ∧ RowStep n via i M M' := by
  refine loopF_cps (body := ref_most_l82 b z6 z5 rec6) (fun s : Mt × Int => ∃ k : Nat, s.2 = k ∧ k ≤ n + 1 ∧ Sq n s.1 ∧ (∀ i' k', i' ≠ i → mg s.1 i' k' = mg M i' k') ∧ (∀ k', mg s.1 i k' ≤ mg M i k') ∧
    ((∀ i' k', i' ≤ n → k' ≤ n → -1000000000 ≤ mg M i' k' ∧ mg M i' k' ≤ 1000000000) → 0 ≤ mg M via via → ∀ k', k' ≤ n → mg s.1 i k' = if k' < k then mn (mg M i k') (mg M i via + mg M via k') else mg M i k'))
    (fun s => n + 1 - s.2.toNat) (fun M' : Mt => rec6 (M', ((i + 1 : Nat) : Int))) (RowStep n via i M) ?_ big (M, 0) ⟨0, rfl, by omega, hM, fun _ _ _ => rfl, fun _ => Int.le_refl _, fun _ _ k' _ => by simp⟩ (by unfold big; simp; omega)
  rintro rec ⟨N, z⟩ ⟨k, rfl, hk, hN, ho, hle, hex⟩ ih
  simp only at hN ho hle hex
  unfold ref_most_l82
  simp only [hT, h5, h6]
  by_cases hlt : k ≤ n
  case neg =>
    rw [decide_eq_false (by omega), cond_false, wrI (x := (i : Int) + 1) (by omega) (by omega)]
    refine ⟨N, rfl, hN, ho, hle, fun hB h0 k' hk' => ?_⟩
    rw [hex hB h0 k' hk', if_pos (by omega)]
  rw [decide_eq_true (by omega), cond_true]
  simp only [(hN.row hi).1, (hN.row hv).1, hN.cell hi hlt, hN.cell hi hv, hN.cell hv hlt, Option.bind_some, Int.toNat_natCast]
  rw [wrI (x := (k : Int) + 1) (by omega) (by omega)]
  generalize hV : (if Fx.wr (mg N i via + mg N via k) < mg N i k then Fx.wr (mg N i via + mg N via k) else mg N i k) = V
  have hVle : V ≤ mg N i k := by rw [← hV]; split <;> omega
  refine ih (upd2 N i k V, (k : Int) + 1) ⟨k + 1, by simp, by omega, hN.upd hi, fun i' k' hne => ?_, fun k' => ?_, fun hB h0 k' hk' => ?_⟩ (by (try simp only); omega)
  · simp only
    rw [mg_upd hN hi hlt, if_neg (by intro h; exact hne h.1)]; exact ho i' k' hne
  · simp only
    rw [mg_upd hN hi hlt]
    split
    · rename_i h; rw [h.2]; exact Int.le_trans hVle (hle k)
    · exact hle k'
  · simp only
    rw [mg_upd hN hi hlt]
    have hex' := hex hB h0
    by_cases e : k' = k
    · subst e
      rw [if_pos ⟨rfl, rfl⟩, if_pos (by omega)]
      have e1 : mg N i k' = mg M i k' := by rw [hex' k' hk', if_neg (by omega)]
      have b1 := hB i via hi hv; have b2 := hB via k' hv hk'; have b3 := hB i k' hi hk'; have b4 := hB via via hv hv
      have e2 : mg N i via = mg M i via := by
        rw [hex' via hv]
        split
        · have := @mn_le (mg M i via) (mg M i via + mg M via via); unfold mn; split <;> omega
        · rfl
      have e3 : mg N via k' = mg M via k' := by
        by_cases hvi : via = i
        · subst hvi; exact e1
        · exact ho via k' hvi
      rw [← hV, e1, e2, e3, wrI (by omega) (by omega)]
      rfl
    · rw [if_neg (by intro h; exact e h.2), hex' k' hk']
      by_cases h1 : k' < k
      · rw [if_pos h1, if_pos (by omega)]
      · rw [if_neg h1, if_neg (by omega)]
/-- all rows, by way of a place -/
structure Stage (n via : Nat) (M M' : Mt) : Prop where
  sq : Sq n M'
  le : ∀ i k, i ≤ n → mg M' i k ≤ mg M i k
  exact : (∀ i' k', i' ≤ n → k' ≤ n → -1000000 ≤ mg M i' k' ∧ mg M i' k' ≤ 1000000) → 0 ≤ mg M via via → ∀ i k, i ≤ n → k ≤ n → mg M' i k = mn (mg M i k) (mg M i via + mg M via k)
theorem via_loop {b : TallyBook} {n via : Nat} {M : Mt} {z5 : Mt × Int} {rec5 : Mt × Int → Option (Mt × Bool)} (hT : b.Trips = n) (hn : n ≤ 8) (hM : Sq n M) (hv : via ≤ n) (h5 : z5.2 = via) :
    ∃ M', loopF (ref_most_l83 b z5 rec5) big (M, 0) = rec5 (M', ((via + 1 : Nat) : Int)) ∧ Stage n via M M' := by
  refine loopF_cps (body := ref_most_l83 b z5 rec5) (fun s : Mt × Int => ∃ i : Nat, s.2 = i ∧ i ≤ n + 1 ∧ Sq n s.1 ∧ (∀ i' k', i' ≤ n → mg s.1 i' k' ≤ mg M i' k') ∧
    ((∀ i' k', i' ≤ n → k' ≤ n → -1000000 ≤ mg M i' k' ∧ mg M i' k' ≤ 1000000) → 0 ≤ mg M via via → ∀ i' k', i' ≤ n → k' ≤ n → mg s.1 i' k' = if i' < i then mn (mg M i' k') (mg M i' via + mg M via k') else mg M i' k'))
    (fun s => n + 1 - s.2.toNat) (fun M' : Mt => rec5 (M', ((via + 1 : Nat) : Int))) (Stage n via M) ?_ big (M, 0) ⟨0, rfl, by omega, hM, fun _ _ _ => Int.le_refl _, fun _ _ i' k' _ _ => by simp⟩ (by unfold big; simp; omega)
  rintro rec ⟨N, z⟩ ⟨i, rfl, hi, hN, hle, hex⟩ ih
  simp only at hN hle hex
  unfold ref_most_l83
  simp only [hT, h5]
  by_cases hlt : i ≤ n
  case neg =>
    rw [decide_eq_false (by omega), cond_false, wrI (x := (via : Int) + 1) (by omega) (by omega)]
    refine ⟨N, rfl, hN, fun i k hi => hle i k hi, fun hB h0 i' k' hi' hk' => ?_⟩
    rw [hex hB h0 i' k' hi' hk', if_pos (by omega)]
  rw [decide_eq_true (by omega), cond_true]
  obtain ⟨M', he, R⟩ := row_loop (z5 := z5) (z6 := (N, (i : Int))) (rec6 := rec) hT hn hN hv hlt h5 rfl
  rw [he]
  refine ih (M', ((i + 1 : Nat) : Int)) ⟨i + 1, rfl, by omega, R.sq, fun i' k' hi' => ?_, fun hB h0 i' k' hi' hk' => ?_⟩ (by (try simp only); omega)
  · simp only
    by_cases e : i' = i
    · subst e; exact Int.le_trans (R.le k') (hle i' k' hi')
    · rw [R.other i' k' e]; exact hle i' k' hi'
  · simp only
    have hex' := hex hB h0
    -- the way's own row stays
    have hvr : ∀ k, k ≤ n → mg N via k = mg M via k := fun k hk => by
      rw [hex' via k hv hk]
      split
      · unfold mn; split <;> omega
      · rfl
    by_cases e : i' = i
    · subst e
      rw [if_pos (by omega), R.exact (fun p q hp hq => ?_) (by rw [hvr via hv]; exact h0) k' hk', hvr k' hk', hex' i' k' hi' hk', if_neg (by omega), hex' i' via hi' hv, if_neg (by omega)]
      rw [hex' p q hp hq]
      have b1 := hB p q hp hq; have b2 := hB p via hp hv; have b3 := hB via q hv hq
      unfold mn
      split
      · split <;> omega
      · omega
    · rw [R.other i' k' e, hex' i' k' hi' hk']
      by_cases h1 : i' < i
      · rw [if_pos h1, if_pos (by omega)]
      · rw [if_neg h1, if_neg (by omega)]
/-- the look at the diagonal -/
theorem diag_loop {b : TallyBook} {n : Nat} {M : Mt} {z5 : Mt × Int} (hT : b.Trips = n) (hn : n ≤ 8) (hM : Sq n M) (h5 : z5.1 = M) :
    ∃ r, loopF (ref_most_l84 b z5) big 0 = some (M, r) ∧ (r = true ↔ ∀ i, i ≤ n → 0 ≤ mg M i i) := by
  refine Exists.elim (loopF_inv (body := ref_most_l84 b z5) (fun s : Int => ∃ i : Nat, s = i ∧ i ≤ n + 1 ∧ ∀ j, j < i → 0 ≤ mg M j j) (fun s => n + 1 - s.toNat) (fun r : Mt × Bool => r.1 = M ∧ (r.2 = true ↔ ∀ i, i ≤ n → 0 ≤ mg M i i)) ?_ big 0 ⟨0, rfl, by omega, fun j hj => absurd hj (Nat.not_lt_zero j)⟩ (by unfold big; simp; omega)) fun r ⟨h1, h2, h3⟩ => ⟨r.2, by rw [h1, ← h2], h3⟩
  rintro rec z ⟨i, rfl, hi, hd⟩ ih
  unfold ref_most_l84
  simp only [hT, h5]
  by_cases hlt : i ≤ n
  case neg =>
    rw [decide_eq_false (by omega), cond_false]
    exact ⟨_, rfl, rfl, by simp only [true_iff]; exact fun j hj => hd j (by omega)⟩
  rw [decide_eq_true (by omega), cond_true]
  simp only [(hM.row hlt).1, hM.cell hlt hlt, Option.bind_some]
  by_cases h0 : mg M i i < 0
  · rw [decide_eq_true h0, cond_true]
    refine ⟨_, rfl, rfl, ?_⟩
    simp only [Bool.false_eq_true, false_iff]
    intro h; have := h i hlt; omega
  · rw [decide_eq_false h0, cond_false, wrI (x := (i : Int) + 1) (by omega) (by omega)]
    refine ih _ ⟨i + 1, by simp, by omega, fun j hj => ?_⟩ (by omega)
    by_cases e : j = i
    · subst e; omega
    · exact hd j (by omega)
/-- potentials that keep all of a table -/
def PM (n : Nat) (M : Mt) (p : Nat → Int) : Prop := ∀ i k, i ≤ n → k ≤ n → p k - p i ≤ mg M i k
structure Clo (n : Nat) (M M' : Mt) (r : Bool) : Prop where
  sq : Sq n M'
  le : ∀ i k, i ≤ n → mg M' i k ≤ mg M i k
  pot : ∀ p, PM n M p → r = true ∧ PM n M' p
  tri : r = true → (∀ i, i ≤ n → 0 ≤ mg M' i i) ∧ ∀ i j k, i ≤ n → j ≤ n → k ≤ n → mg M' i k ≤ mg M' i j + mg M' j k
theorem vias {b : TallyBook} {n : Nat} (hT : b.Trips = n) (hn : n ≤ 8) {M0 : Mt} (hM0 : Sq n M0) (hup : ∀ i k, i ≤ n → k ≤ n → -3000 ≤ mg M0 i k ∧ mg M0 i k ≤ 3000) :
    ∃ M' r, loopF (ref_most_l85 b) big (M0, 0) = some (M', r) ∧ Clo n M0 M' r := by
  refine Exists.elim (loopF_inv (body := ref_most_l85 b) (fun s : Mt × Int => ∃ v : Nat, s.2 = v ∧ v ≤ n + 1 ∧ Sq n s.1 ∧ (∀ i k, i ≤ n → mg s.1 i k ≤ mg M0 i k) ∧ (∀ p, PM n M0 p → PM n s.1 p) ∧
      ((∀ i, i ≤ n → 0 ≤ mg s.1 i i) → (∀ i k, i ≤ n → k ≤ n → -(3000 * 2 ^ v) ≤ mg s.1 i k) ∧ ∀ j, j < v → ∀ i k, i ≤ n → k ≤ n → mg s.1 i k ≤ mg s.1 i j + mg s.1 j k))
    (fun s => n + 1 - s.2.toNat) (fun r : Mt × Bool => Clo n M0 r.1 r.2) ?_ big (M0, 0) ⟨0, rfl, by omega, hM0, fun _ _ _ => Int.le_refl _, fun _ h => h, fun _ => ⟨fun i k hi hk => by have := hup i k hi hk; simp; omega, fun j hj => absurd hj (Nat.not_lt_zero j)⟩⟩ (by unfold big; simp; omega)) fun r ⟨h1, h2⟩ => ⟨r.1, r.2, h1, h2⟩
  rintro rec ⟨M, z⟩ ⟨v, rfl, hv, hM, hle, hpot, htri⟩ ih
  simp only at hM hle hpot htri
  unfold ref_most_l85
  simp only [hT]
  by_cases hlt : v ≤ n
  case neg =>
    rw [decide_eq_false (by omega), cond_false]
    obtain ⟨r, hr, hd⟩ := diag_loop (z5 := (M, (v : Int))) hT hn hM rfl
    refine ⟨_, hr, hM, hle, fun p hp => ?_, fun h => ?_⟩
    · have h1 := hpot p hp
      exact ⟨hd.2 fun i hi => by have := h1 i i hi hi; omega, h1⟩
    · have h1 := hd.1 h
      exact ⟨h1, fun i j k hi hj hk => (htri h1).2 j (by omega) i k hi hk⟩
  rw [decide_eq_true (by omega), cond_true]
  obtain ⟨M', he, S⟩ := via_loop (z5 := (M, (v : Int))) (rec5 := rec) hT hn hM hlt rfl
  rw [he]
  have p2 : (2 : Int) ^ v ≤ 256 ∧ 1 ≤ (2 : Int) ^ v := by
    have : v = 0 ∨ v = 1 ∨ v = 2 ∨ v = 3 ∨ v = 4 ∨ v = 5 ∨ v = 6 ∨ v = 7 ∨ v = 8 := by omega
    rcases this with rfl | rfl | rfl | rfl | rfl | rfl | rfl | rfl | rfl <;> decide
  refine ih (M', ((v + 1 : Nat) : Int)) ⟨v + 1, rfl, by omega, S.sq, fun i k hi => Int.le_trans (S.le i k hi) (hle i k hi), fun p hp => ?_, fun hd => ?_⟩ (by (try simp only); omega)
  · -- a potential bounds all
    have h1 := hpot p hp
    have h0 := hp
    have hb : ∀ i' k', i' ≤ n → k' ≤ n → -1000000 ≤ mg M i' k' ∧ mg M i' k' ≤ 1000000 := fun i k hi hk => by
      have a1 := h1 i k hi hk; have a2 := hle i k hi; have a3 := hup i k hi hk; have a4 := h0 k i hk hi; have a5 := hup k i hk hi
      omega
    have hvv : 0 ≤ mg M v v := by have := h1 v v hlt hlt; omega
    intro i k hi hk
    simp only
    rw [S.exact hb hvv i k hi hk]
    have a1 := h1 i k hi hk; have a2 := h1 i v hi hlt; have a3 := h1 v k hlt hk
    unfold mn; split <;> omega
  · simp only at hd ⊢
    have hd0 : ∀ i, i ≤ n → 0 ≤ mg M i i := fun i hi => Int.le_trans (hd i hi) (S.le i i hi)
    obtain ⟨hlo, ht⟩ := htri hd0
    have hb : ∀ i' k', i' ≤ n → k' ≤ n → -1000000 ≤ mg M i' k' ∧ mg M i' k' ≤ 1000000 := fun i k hi hk => by
      have a1 := hlo i k hi hk; have a2 := hle i k hi; have a3 := hup i k hi hk
      omega
    have ex := S.exact hb (hd0 v hlt)
    refine ⟨fun i k hi hk => ?_, fun j hj i k hi hk => ?_⟩
    · rw [ex i k hi hk, Int.pow_succ]
      have a1 := hlo i k hi hk; have a2 := hlo i v hi hlt; have a3 := hlo v k hlt hk
      unfold mn; split <;> omega
    · have hjn : j ≤ n := by omega
      rw [ex i k hi hk, ex i j hi hjn, ex j k hjn hk]
      have v0 := hd0 v hlt
      by_cases e : j = v
      · subst e
        unfold mn
        (repeat' split) <;> omega
      · have hjv : j < v := by omega
        have t1 := ht j hjv i k hi hk; have t2 := ht j hjv i v hi hlt; have t3 := ht j hjv v k hlt hk; have t4 := ht j hjv v v hlt hlt
        unfold mn
        (repeat' split) <;> omega
end Go.Proofs.YtplpalmabgjibaaDoor

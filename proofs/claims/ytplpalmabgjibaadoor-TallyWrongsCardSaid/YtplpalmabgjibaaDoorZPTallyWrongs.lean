/- The plain law of Wrong, Whose and Again: the program answers as the specification. -/
import Derived.Test.YtplpalmabgjibaaDoorZWTallyWrongs
import Derived.Test.YtplpalmabgjibaaDoorZPBits
set_option linter.unusedVariables false
set_option linter.unusedSimpArgs false
namespace Go.Proofs.YtplpalmabgjibaaDoor
open Go Go.Fx Go.Tally
theorem alike_same (l : List Int) (hl : l.length ≤ 9223372036854775806) : B_Alike l l = some true := by
  unfold B_Alike
  rw [bne_self_eq_false, cond_false]
  refine loopF_spec (fun i : Int => 0 ≤ i ∧ i ≤ l.length) (fun i => l.length - i.toNat) (fun _ => true) ?_ big 0 ⟨by omega, by omega⟩ (by unfold big; simp; omega)
  rintro rec i ⟨h0, h1⟩ ih
  unfold B_Alike_l1
  by_cases hi : i < l.length
  · rw [decide_eq_true hi, cond_true]
    obtain ⟨x, hx, _⟩ := getI_lt h0 hi
    rw [hx, Option.bind_some, Option.bind_some, bne_self_eq_false, cond_false, wrI (x := i + 1) (by omega) (by omega)]
    exact ih _ ⟨by omega, by omega⟩ (by omega)
  · rw [decide_eq_false hi, cond_false]
/-- without a set -/
theorem rwithout_eq {b : TallyBook} (V : Val b) (s : Nat) : ∃ x, ref_Without b s = some x ∧ Val x ∧ x.Trips = b.Trips ∧ ∀ q, Fit x no q ↔ Fit b (fun _ i => s.testBit i) q := by
  have l8 := V.l8
  unfold ref_Without
  refine Exists.elim (loopF_inv (body := ref_Without_l2 b s) (fun z : Int × List TallyCount => ∃ i : Nat, z.1 = i ∧ i ≤ b.Counts.length ∧ z.2.length ≤ i ∧ ∀ x, x ∈ z.2 ↔ ∃ j : Nat, j < i ∧ b.Counts[j]? = some x ∧ s.testBit j = false) (fun z => b.Counts.length - z.1.toNat)
    (fun x => ∃ m, x = ⟨b.Trips, b.Room, m⟩ ∧ m.length ≤ b.Counts.length ∧ ∀ x, x ∈ m ↔ ∃ j : Nat, b.Counts[j]? = some x ∧ s.testBit j = false) ?_ big (0, []) ⟨0, rfl, Nat.zero_le _, by simp, by simp⟩ (by unfold big; simp; omega)) fun x ⟨hx, m, hm, h1, h2⟩ => ⟨x, hx, ?_, by rw [hm], fun q => ?_⟩
  · rintro rec ⟨i', m⟩ ⟨i, rfl, hi, hml, hm⟩ ih
    simp only at hml hm ih ⊢
    unfold ref_Without_l2
    simp only
    by_cases hlt : i < b.Counts.length
    · rw [decide_eq_true (by omega), cond_true, member_nat s i (by omega), Option.bind_some, wrI (by omega) (by omega)]
      have hx : b.Counts[i]? = some b.Counts[i] := List.getElem?_eq_getElem hlt
      cases hin : s.testBit i
      · rw [Bool.not_false, cond_true, getI_nat, hx, Option.bind_some, need_of (fits_small (by simp; omega) (by omega))]
        refine ih _ ⟨i + 1, by simp, by omega, by simp; omega, fun x => ?_⟩ (by (try simp); omega)
        rw [List.mem_append, hm, List.mem_singleton]
        constructor
        · rintro (⟨j, h1, h2⟩ | rfl)
          · exact ⟨j, by omega, h2⟩
          · exact ⟨i, by omega, hx, hin⟩
        · rintro ⟨j, h1, h2, h3⟩
          by_cases hji : j = i
          · subst hji; rw [hx] at h2; exact .inr (Option.some.inj h2).symm
          · exact .inl ⟨j, by omega, h2, h3⟩
      · rw [Bool.not_true, cond_false]
        refine ih _ ⟨i + 1, by simp, by omega, by simp only; omega, fun x => ?_⟩ (by (try simp); omega)
        rw [hm]
        constructor
        · rintro ⟨j, h1, h2⟩; exact ⟨j, by omega, h2⟩
        · rintro ⟨j, h1, h2, h3⟩
          by_cases hji : j = i
          · subst hji; rw [hin] at h3; cases h3
          · exact ⟨j, by omega, h2, h3⟩
    · rw [decide_eq_false (by omega), cond_false]
      refine ⟨_, rfl, m, rfl, by omega, fun x => ?_⟩
      rw [hm]
      constructor
      · rintro ⟨j, _, h⟩; exact ⟨j, h⟩
      · rintro ⟨j, h2, h3⟩; exact ⟨j, by have := (List.getElem?_eq_some_iff.1 h2).1; omega, h2, h3⟩
  · subst hm
    refine ⟨V.t1, V.t8, V.r0, V.r60, by simp only; omega, fun x hx => ?_⟩
    obtain ⟨j, hj, _⟩ := (h2 x).1 hx
    exact V.cs x (List.mem_of_getElem? hj)
  · subst hm
    unfold Fit
    rw [cntsQ_no]
    refine and_congr_right fun _ => ?_
    unfold CntsQ
    simp only
    constructor
    · intro h i x hx ho
      exact h x ((h2 x).2 ⟨i, hx, ho⟩)
    · intro h x hx
      obtain ⟨j, hj, hn⟩ := (h2 x).1 hx
      exact h j x hj hn
theorem most_can {b x : TallyBook} (V : Val x) : ∃ M r, ref_most x = some (M, r) ∧ (r = true ↔ CanBe x) := by
  obtain ⟨n, hn, _⟩ := trips_nat V.bk
  obtain ⟨M, r, h, T⟩ := most_tab V.bk hn
  exact ⟨M, r, h, T.can⟩
theorem wrong_same (b : TallyBook) (hl : b.Counts.length ≤ 9223372036854775807) : ∃ l e, tally_Wrong b = some (l, e) ∧ ref_Wrong b = some (l, e) ∧ l.length ≤ 1000 := by
  cases hv : valB b
  · refine ⟨[], 50, wrong_bad hl hv, ?_, by simp⟩
    unfold ref_Wrong; rw [rcheck_bad hl hv]; rfl
  have V := val_iff.1 hv
  have l8 := V.l8
  obtain ⟨w, h1, F⟩ := wrong_eq V
  obtain ⟨n, hn⟩ : ∃ n, b.Counts.length = n := ⟨_, rfl⟩
  have hn8 : n ≤ 8 := by omega
  have p8 : 2 ^ n ≤ 256 := Nat.pow_le_pow_right (n := 2) (by omega) hn8
  have p0 : 0 < 2 ^ n := Nat.two_pow_pos n
  refine ⟨w, 0, h1, ?_, by have := F.clm.len (by omega); omega⟩
  have canO : ∀ s : Nat, CanO b (memL s n) ↔ ∃ q, Fit b (fun _ i => s.testBit i) q := fun s => by
    refine exists_congr fun q => Fit.congr fun i x hx => ?_
    have hi := (List.getElem?_eq_some_iff.1 hx).1
    show decide ((i : Int) ∈ memL s n) = s.testBit i
    rw [Bool.eq_iff_iff, decide_eq_true_eq, mem_memL]
    constructor
    · rintro ⟨k, e, _, hk⟩; rw [show i = k by omega]; exact hk
    · intro hk; exact ⟨i, rfl, by omega, hk⟩
  unfold ref_Wrong
  rw [rcheck_ok V, Option.bind_some]
  simp only [bne_self_eq_false, cond_false]
  rw [hn, need_of (by simp), shl1_nat n (by omega)]
  have e1 : Fx.wr (((2 ^ n : Nat) : Int) - 1) = ((2 ^ n - 1 : Nat) : Int) := by
    generalize 2 ^ n = m at p8 p0
    rw [wrI (by omega) (by omega)]; omega
  rw [e1, members_nat _ (by omega), Option.bind_some]
  have all_ : memL (2 ^ n - 1) n = allL n := by
    unfold memL allL
    congr 1
    rw [List.filter_eq_self]
    intro k hk
    rw [Nat.testBit_two_pow_sub_one]
    simpa using hk
  obtain ⟨r, hr, hw⟩ : ∃ r, loopF (ref_Wrong_l2 b) big (memL (2 ^ n - 1) n, 0) = some r ∧ (r.2 = 0 ∧ Few b r.1) := by
    refine loopF_inv (body := ref_Wrong_l2 b) (fun z : List Int × Int => ∃ s : Nat, z.2 = s ∧ s ≤ 2 ^ n ∧ Clm z.1 n ∧ CanO b z.1 ∧ ∀ s' : Nat, s' < s → CanO b (memL s' n) → ¬ Btr (memL s' n) z.1) (fun z => 2 ^ n - z.2.toNat) (fun r => r.2 = 0 ∧ Few b r.1) ?_ big _
      ⟨0, rfl, Nat.zero_le _, by rw [all_]; exact allL_clm n, by rw [all_, ← hn]; exact allL_can V.bk, fun s' h => absurd h (Nat.not_lt_zero _)⟩ (by unfold big; simp only [Int.toNat_zero]; generalize 2 ^ n = m at p8 p0; omega)
    rintro rec ⟨best, z⟩ ⟨s, rfl, hs, hc, hcan, hmin⟩ ih
    simp only at hc hcan hmin
    unfold ref_Wrong_l2
    simp only
    rw [hn, need_of (by simp), shl1_nat n (by omega)]
    have hlen := hc.len (by omega)
    by_cases hlt : s < 2 ^ n
    · have hs32 : s < 256 := by omega
      have hw : Fx.wr ((s : Int) + 1) = ((s + 1 : Nat) : Int) := by rw [wrI (by omega) (by omega)]; omega
      have mu : 2 ^ n - (((s + 1 : Nat) : Int)).toNat < 2 ^ n - ((s : Int)).toNat := by
        simp only [Int.toNat_natCast]
        generalize 2 ^ n = m at hlt
        omega
      rw [decide_eq_true (by exact_mod_cast hlt), cond_true, members_nat s (by omega), Option.bind_some]
      have hml := memL_len s n
      obtain ⟨r, hr, hb⟩ := better_iff (memL s n) best (by omega)
      rw [hr, Option.bind_some, hw]
      have stay : (CanO b (memL s n) → ¬ Btr (memL s n) best) → ∃ r, rec (best, ((s + 1 : Nat) : Int)) = some r ∧ (r.2 = 0 ∧ Few b r.1) := fun hno => by
        refine ih _ ⟨s + 1, rfl, by omega, hc, hcan, fun s' h1 h2 => ?_⟩ mu
        by_cases e : s' = s
        · subst e; exact hno h2
        · exact hmin s' (by omega) h2
      cases r
      · rw [Bool.not_false, cond_true]
        exact stay fun _ h => by have := hb.2 h; cases this
      · rw [Bool.not_true, cond_false]
        obtain ⟨x, hx, Vx, _, hfit⟩ := rwithout_eq V s
        obtain ⟨M, r', hm, hr'⟩ := most_can (b := b) Vx
        rw [hx, Option.bind_some, hm, Option.bind_some]
        simp only
        have hcx : CanBe x ↔ CanO b (memL s n) := by rw [canO s]; exact exists_congr fun q => hfit q
        cases r'
        · rw [cond_false]
          exact stay fun h => by have := hr'.2 (hcx.2 h); cases this
        · rw [cond_true]
          have hbt := hb.1 rfl
          refine ih _ ⟨s + 1, rfl, by omega, memL_clm s n, hcx.1 (hr'.1 rfl), fun s' h1 h2 h3 => ?_⟩ mu
          by_cases e : s' = s
          · subst e
            have h4 : Btr (memL s' n) (memL s' n) := h3
            rcases h4 with h3 | ⟨_, h3⟩
            · omega
            · exact h3.irr
          · exact hmin s' (by omega) h2 (h3.trans hbt)
    · rw [decide_eq_false (by exact_mod_cast hlt), cond_false]
      have key : ∀ o, Clm o b.Counts.length → CanO b o → ¬ Btr o best := fun o ho hco => by
        rw [hn] at ho
        obtain ⟨s', h1, h2⟩ := clm_set ho
        rw [← h2] at hco ⊢
        exact hmin s' (by omega) hco
      refine ⟨_, rfl, rfl, ⟨by rw [hn]; exact hc, hcan, fun o ho hco => ?_, fun o ho hco he hlex => key o ho hco (.inr ⟨he, hlex⟩)⟩⟩
      have := key o ho hco
      exact Nat.le_of_not_lt fun h => this (.inl h)
  rw [hr]
  obtain ⟨r1, r2⟩ := r
  simp only at hw
  rw [hw.1, hw.2.uniq F]
theorem whose_same (b : TallyBook) (hl : b.Counts.length ≤ 9223372036854775807) : ∃ l e, tally_Whose b = some (l, e) ∧ ref_Whose b = some (l, e) ∧ l.length ≤ 1000 := by
  cases hv : valB b
  · refine ⟨[], 50, whose_bad hl hv, ?_, by simp⟩
    unfold ref_Whose; rw [rcheck_bad hl hv]; rfl
  have V := val_iff.1 hv
  have l8 := V.l8
  obtain ⟨l, h1, W⟩ := whose_eq V
  refine ⟨l, 0, h1, ?_, by have := W.clm.len (by omega); omega⟩
  unfold ref_Whose
  rw [rcheck_ok V, Option.bind_some]
  simp only [bne_self_eq_false, cond_false]
  obtain ⟨r, hr, hr2, hrc, hrm⟩ : ∃ r, loopF (ref_Whose_l9 b) big (([] : List Int), 0) = some r ∧ (r.2 = 0 ∧ Clm r.1 3 ∧ ∀ w : Nat, w < 3 → ((w : Int) ∈ r.1 ↔ CanW b w)) := by
    refine loopF_inv (body := ref_Whose_l9 b) (fun z : List Int × Int => ∃ k : Nat, z.2 = k ∧ k ≤ 3 ∧ Clm z.1 k ∧ ∀ w : Nat, w < k → ((w : Int) ∈ z.1 ↔ CanW b w)) (fun z => 3 - z.2.toNat) (fun r => r.2 = 0 ∧ Clm r.1 3 ∧ ∀ w : Nat, w < 3 → ((w : Int) ∈ r.1 ↔ CanW b w)) ?_ big _ ⟨0, rfl, by omega, Clm.nil, fun w h => absurd h (Nat.not_lt_zero _)⟩ (by unfold big; simp)
    rintro rec ⟨m, z⟩ ⟨k, rfl, hk, hc, hm⟩ ih
    simp only at hc hm
    unfold ref_Whose_l9
    simp only
    by_cases hlt : k < 3
    case neg =>
      have e : k = 3 := by omega
      subst e
      rw [decide_eq_false (by omega), cond_false]
      exact ⟨_, rfl, rfl, hc, hm⟩
    rw [decide_eq_true (by omega), cond_true]
    -- all of somebody's, as a set
    obtain ⟨s, hs, hbit⟩ : ∃ s : Nat, loopF (ref_Whose_l8 b (m, (k : Int)) rec) big (0, 0) = ((ref_Without b s).bind fun r31 => (ref_most r31).bind fun r41 => bif r41.2 then (need (fitsL (m.length + ([(k : Int)] : List Int).length) 8) <| rec (m ++ ([(k : Int)] : List Int), Fx.wr ((k : Int) + 1))) else (rec (m, Fx.wr ((k : Int) + 1)))) ∧
        ∀ (i : Nat) x, b.Counts[i]? = some x → s.testBit i = (x.Who == (k : Int)) := by
      refine loopF_cps (body := ref_Whose_l8 b (m, (k : Int)) rec) (fun z : Int × Int => ∃ (i s : Nat), z = ((s : Int), (i : Int)) ∧ i ≤ b.Counts.length ∧ s < 2 ^ i ∧ ∀ (j : Nat) x, j < i → b.Counts[j]? = some x → s.testBit j = (x.Who == (k : Int))) (fun z => b.Counts.length - z.2.toNat)
        (fun s : Nat => ((ref_Without b s).bind fun r31 => (ref_most r31).bind fun r41 => bif r41.2 then (need (fitsL (m.length + ([(k : Int)] : List Int).length) 8) <| rec (m ++ ([(k : Int)] : List Int), Fx.wr ((k : Int) + 1))) else (rec (m, Fx.wr ((k : Int) + 1))))) (fun s => ∀ (i : Nat) x, b.Counts[i]? = some x → s.testBit i = (x.Who == (k : Int))) ?_ big (0, 0) ⟨0, 0, rfl, Nat.zero_le _, by simp, fun j x h => absurd h (Nat.not_lt_zero _)⟩ (by unfold big; simp; omega)
      rintro rec2 z ⟨i, s, rfl, hi, hsl, hb⟩ ih2
      unfold ref_Whose_l8
      simp only
      by_cases hli : i < b.Counts.length
      · rw [decide_eq_true (by omega), cond_true, getI_nat, List.getElem?_eq_getElem hli, Option.bind_some]
        have hx := List.getElem?_eq_getElem hli
        generalize b.Counts[i] = x at hx
        have pi : 2 ^ i ≤ 256 := Nat.pow_le_pow_right (n := 2) (by omega) (show i ≤ 8 by omega)
        have hw : Fx.wr ((i : Int) + 1) = ((i + 1 : Nat) : Int) := by rw [wrI (by omega) (by omega)]; omega
        have hsi : s.testBit i = false := Nat.testBit_lt_two_pow hsl
        rw [hw]
        cases hwho : (x.Who == (k : Int))
        · rw [cond_false]
          refine ih2 _ ⟨i + 1, s, rfl, by omega, Nat.lt_of_lt_of_le hsl (Nat.pow_le_pow_right (by omega) (by omega)), fun j y hj hy => ?_⟩ (by (try simp only); omega)
          by_cases e : j = i
          · subst e; rw [hx] at hy; cases hy; rw [hsi, hwho]
          · exact hb j y (by omega) hy
        · rw [cond_true, need_of (by simp), shl1_nat i (by omega), or_nat s (2 ^ i) (by generalize 2 ^ i = u at *; omega) (by generalize 2 ^ i = u at *; omega)]
          refine ih2 _ ⟨i + 1, s ||| 2 ^ i, rfl, by omega, Nat.or_lt_two_pow (Nat.lt_of_lt_of_le hsl (Nat.pow_le_pow_right (by omega) (by omega))) (Nat.pow_lt_pow_right (by omega) (by omega)), fun j y hj hy => ?_⟩ (by (try simp only); omega)
          rw [Nat.testBit_or, Nat.testBit_two_pow]
          by_cases e : j = i
          · subst e; rw [hx] at hy; cases hy; rw [hwho]; simp
          · rw [hb j y (by omega) hy, decide_eq_false (fun h => e h.symm), Bool.or_false]
      · rw [decide_eq_false (by omega), cond_false]
        exact ⟨s, rfl, fun j y hy => hb j y (by have := (List.getElem?_eq_some_iff.1 hy).1; omega) hy⟩
    rw [hs]
    obtain ⟨x, hx, Vx, _, hfit⟩ := rwithout_eq V s
    obtain ⟨M, r', hmm, hr'⟩ := most_can (b := b) Vx
    rw [hx, Option.bind_some, hmm, Option.bind_some]
    simp only
    have hcx : CanBe x ↔ CanW b k := exists_congr fun q => (hfit q).trans (Fit.congr fun i x hx => hbit i x hx)
    have hlen := hc.len (by omega)
    have hw : Fx.wr ((k : Int) + 1) = ((k + 1 : Nat) : Int) := by rw [wrI (by omega) (by omega)]; omega
    rw [hw]
    cases r'
    · rw [cond_false]
      refine ih _ ⟨k + 1, rfl, by omega, hc.up (by omega), fun w hw => ?_⟩ (by (try simp only); omega)
      by_cases e : w = k
      · subst e
        constructor
        · intro hin
          obtain ⟨i, hi, he⟩ := List.getElem_of_mem hin
          have := (hc i _ (List.getElem?_eq_getElem hi)).2.1
          omega
        · intro h; have := hr'.2 (hcx.2 h); cases this
      · exact hm w (by omega)
    · rw [cond_true, need_of (fits_small (by simp; omega) (by omega))]
      refine ih _ ⟨k + 1, rfl, by omega, (hc.up (m := ((k + 1 : Nat) : Int)) (by omega)).snoc (by omega) (by omega) (fun y hy => hc.last hy), fun w hw => ?_⟩ (by (try simp only); omega)
      simp only [List.mem_append, List.mem_singleton]
      by_cases e : w = k
      · subst e; simp [hcx.1 (hr'.1 rfl)]
      · rw [← hm w (by omega)]
        constructor
        · rintro (h | h)
          · exact h
          · omega
        · exact .inl
  rw [hr]
  obtain ⟨r1, r2⟩ := r
  simp only at hr2 hrc hrm
  subst hr2
  have e : r1 = l := by
    refine pair_ext hrc.pair W.clm.pair fun x => ?_
    have sm : ∀ {m : List Int}, Clm m 3 → x ∈ m → ∃ w : Nat, x = w ∧ w < 3 := fun h hx => by
      obtain ⟨i, hi, rfl⟩ := List.getElem_of_mem hx
      have := h i _ (List.getElem?_eq_getElem hi)
      exact ⟨(_ : Int).toNat, (Int.toNat_of_nonneg this.1).symm, by omega⟩
    constructor
    · intro hx
      obtain ⟨w, rfl, hw⟩ := sm hrc hx
      exact (W.mem w hw).2 ((hrm w hw).1 hx)
    · intro hx
      obtain ⟨w, rfl, hw⟩ := sm W.clm hx
      exact (hrm w hw).2 ((W.mem w hw).1 hx)
  rw [e]
/-- the trip that is told, by what it is -/
def Agn (b : TallyBook) (t : Int) : Prop := ∃ w, 0 ≤ t ∧ t < b.Trips ∧ Apart b t w ∧ ∀ t' w' : Int, 0 ≤ t' → t' < b.Trips → Apart b t' w' → w ≤ w' ∧ (t' < t → w < w')
theorem Agn.uniq {b : TallyBook} {t t' : Int} (h : Agn b t) (k : Agn b t') : t = t' := by
  obtain ⟨w, a0, a1, a2, a3⟩ := h
  obtain ⟨w', b0, b1, b2, b3⟩ := k
  have h1 := a3 t' w' b0 b1 b2
  have h2 := b3 t w a0 a1 a2
  rcases Int.lt_trichotomy t t' with e | e | e
  · have := h2.2 e; omega
  · exact e
  · have := h1.2 e; omega
theorem rexact (t v : Int) : ref_Exact t v = some (exact_ t v) := rfl
theorem rwith_eq' {b : TallyBook} (h : b.Counts.length ≤ 1000000) (x : TallyCount) : ref_With b x = some (plus b x) := by
  unfold ref_With plus
  cases hb : b.Counts with
  | nil => rw [List.isEmpty_nil, cond_true, need_of (fits_small (by simp) (by omega))]; rfl
  | cons y l =>
    rw [List.isEmpty_cons, cond_false, need_of, need_of]
    · unfold fitsL; rw [decide_eq_true_eq]; rw [hb] at h; simp at h ⊢; omega
    · unfold fitsL; rw [decide_eq_true_eq]; rw [hb] at h; simp at h ⊢; omega
theorem again_same (b : TallyBook) (hl : b.Counts.length ≤ 9223372036854775807) : ∃ t e, tally_Again b = some (t, e) ∧ ref_Again b = some (t, e) := by
  cases hv : valB b
  · refine ⟨0, 50, ?_, ?_⟩
    · obtain ⟨x, hx⟩ := asked_bad hl hv true
      unfold tally_Again; rw [hx]; rfl
    · unfold ref_Again; rw [rasked_bad hl hv]; rfl
  have V := val_iff.1 hv
  have l8 := V.l8; have t1 := V.t1; have t8 := V.t8
  obtain ⟨n, hn, n1, n8⟩ := trips_nat V.bk
  obtain ⟨M, e', h2, hc'⟩ := rasked_eq V hn
  rcases hc' with ⟨rfl, C, T⟩ | ⟨rfl, rfl, C⟩
  case inr =>
    obtain ⟨m, e, ha, O, he⟩ := asked_eq V
    refine ⟨0, 52, ?_, ?_⟩
    · rcases he with ⟨_, C'⟩ | ⟨rfl, _⟩
      · exact absurd C' C
      · unfold tally_Again; rw [ha]; rfl
    · unfold ref_Again; rw [h2]; rfl
  have S := T.spn rfl 0 b.Trips.toNat (by omega) (by omega)
  have tn : b.Trips.toNat = n := by omega
  have ans := again_eq V C S
  obtain ⟨r1, g1, g2⟩ := T.cell (i := 0) (k := b.Trips) (by omega) (by omega) (by omega) (by omega)
  obtain ⟨r2, g3, g4⟩ := T.cell (i := b.Trips) (k := 0) (by omega) (by omega) (by omega) (by omega)
  simp only [Int.toNat_zero] at g2 g4
  have b1 := T.bnd V.bk hn (a := b.Trips.toNat) (c := 0) (by omega) (by omega)
  have head : ref_Again b = (bif (mg M 0 b.Trips.toNat == -mg M b.Trips.toNat 0) then some (0, 4) else loopF (ref_Again_l8 b (M, 0)) big ((-1), 0, 0)) := by
    unfold ref_Again
    rw [h2, Option.bind_some]
    simp only [bne_self_eq_false, cond_false]
    rw [g1, Option.bind_some, g2, Option.bind_some, g3, Option.bind_some, g4, Option.bind_some, wrI (by omega) (by omega)]
  rw [head]
  rcases ans with ⟨e, h1⟩ | ⟨hne, t, w, h1, t0, tT, hA, hmin⟩
  · exact ⟨0, 4, h1, by rw [← e]; simp⟩
  refine ⟨t, 0, h1, ?_⟩
  rw [show (mg M 0 b.Trips.toNat == -mg M b.Trips.toNat 0) = false by simpa using fun h => hne h.symm, cond_false]
  suffices h : ∃ r, loopF (ref_Again_l8 b (M, 0)) big ((-1), 0, 0) = some r ∧ (r.2 = 0 ∧ Agn b r.1) by
    obtain ⟨⟨r1, r2⟩, hr, hr2, hr1⟩ := h
    simp only at hr2 hr1
    rw [hr, hr2, hr1.uniq ⟨w, t0, tT, hA, hmin⟩]
  refine loopF_inv (body := ref_Again_l8 b (M, 0)) (fun s : Int × Int × Int => ∃ i : Nat, s.2.2 = i ∧ (i : Int) ≤ b.Trips ∧ ((i = 0 ∧ s.1 = -1) ∨ (0 ≤ s.1 ∧ s.1 < i ∧ Apart b s.1 s.2.1 ∧ ∀ t' w' : Int, 0 ≤ t' → t' < i → Apart b t' w' → s.2.1 ≤ w' ∧ (t' < s.1 → s.2.1 < w'))))
    (fun s => b.Trips.toNat - s.2.2.toNat) (fun r => r.2 = 0 ∧ Agn b r.1) ?_ big (-1, 0, 0) ⟨0, rfl, by omega, .inl ⟨rfl, rfl⟩⟩ (by unfold big; simp; omega)
  rintro rec ⟨best, ap, i'⟩ ⟨i, rfl, hi_, hinv⟩ ih
  simp only at hi_ hinv ih ⊢
  unfold ref_Again_l8
  simp only
  by_cases hlt : (i : Int) < b.Trips
  · have hw : Fx.wr ((i : Int) + 1) = (i : Int) + 1 := wrI (by omega) (by omega)
    have SS := T.spn rfl i (i + 1) (by omega) (by omega)
    obtain ⟨q1, c1, c2⟩ := T.cell (i := (i : Int) + 1) (k := i) (by omega) (by omega) (by omega) (by omega)
    obtain ⟨q2, c3, c4⟩ := T.cell (i := (i : Int)) (k := (i : Int) + 1) (by omega) (by omega) (by omega) (by omega)
    rw [show ((i : Int) + 1).toNat = i + 1 by omega, Int.toNat_natCast] at c2 c4
    have hroom := trip_room V.bk (t := i) (by omega) hlt (by rw [show ((i : Int) + 1).toNat = i + 1 by omega, Int.toNat_natCast]; exact SS)
    generalize hsl : -mg M (i + 1) i = sl at SS hroom
    generalize hsh : mg M i (i + 1) = sh at SS hroom c4
    rw [decide_eq_true hlt, cond_true, hw, c1, Option.bind_some, c2, Option.bind_some, wrI (x := -mg M (i + 1) i) (by omega) (by omega), hsl]
    refine Exists.elim (loopF_inv (body := ref_Again_l7 (M, 0) (best, ap, (i : Int)) b rec) (fun s : Int × Int => ∃ n : Nat, s.2 = sl + n ∧ (n : Int) ≤ sh - sl + 1 ∧ Wst b i sl n s.1) (fun s => (sh - sl + 1).toNat - (s.2 - sl).toNat) _ ?_ big (0, sl) ⟨0, by simp, by omega, Wst.zero⟩ (by unfold big; simp; omega)) fun r h => ⟨r, h⟩
    rintro rec2 ⟨wst, n'⟩ ⟨k, rfl, hk, hW⟩ ih2
    simp only at hk hW ih2 ⊢
    unfold ref_Again_l7
    simp only
    rw [hw, c3, Option.bind_some, c4, Option.bind_some]
    by_cases hnl : (k : Int) < sh - sl + 1
    · rw [decide_eq_true (by omega), cond_true, rexact, Option.bind_some, rwith_eq' (by omega), Option.bind_some]
      have hcn : Cnt b.Trips (exact_ i (sl + k)) := exact_cnt (by omega) hlt (by omega) (by omega)
      have SS' : Spn (Fit b no) (i : Int).toNat ((i : Int) + 1).toNat sl sh := by rw [show ((i : Int) + 1).toNat = i + 1 by omega, Int.toNat_natCast]; exact SS
      have hcan := plus_can V.bk SS' (v := sl + k) (by omega) (by omega)
      obtain ⟨M2, rr, hm2, T2⟩ := most_tab (V.plus hcn) (n := n) hn
      have hrr : rr = true := T2.can.2 hcan
      subst hrr
      have S2 := T2.spn rfl 0 b.Trips.toNat (by omega) (by omega)
      have hb2 := S2.bnd (V.plus hcn) (Nat.zero_le _) (by show (b.Trips.toNat : Int) ≤ b.Trips; omega)
      obtain ⟨z1, d1, d2⟩ := T2.cell (i := 0) (k := b.Trips) (by omega) (by omega) (by omega) (by omega)
      obtain ⟨z2, d3, d4⟩ := T2.cell (i := b.Trips) (k := 0) (by omega) (by omega) (by omega) (by omega)
      simp only [Int.toNat_zero] at d2 d4
      rw [hm2, Option.bind_some, d1, Option.bind_some, d2, Option.bind_some, d3, Option.bind_some, d4, Option.bind_some, wrI (x := mg M2 0 b.Trips.toNat + mg M2 b.Trips.toNat 0) (by omega) (by omega), wrI (x := sl + (k : Int) + 1) (by omega) (by omega)]
      exact ih2 _ ⟨k + 1, by simp only; omega, by omega, hW.step ⟨_, _, S2, by omega⟩ (by omega) (by omega)⟩ (by simp only; omega)
    · rw [decide_eq_false (by omega), cond_false]
      have hne : k = (sh - sl + 1).toNat := by omega
      have SS' : Spn (Fit b no) (i : Int).toNat ((i : Int) + 1).toNat sl sh := by rw [show ((i : Int) + 1).toNat = i + 1 by omega, Int.toNat_natCast]; exact SS
      have hA : Apart b i wst := ⟨sl, sh, SS', hne ▸ hW⟩
      have yes : (best < 0 ∨ wst < ap) → ∃ r, rec ((i : Int), wst, Fx.wr ((i : Int) + 1)) = some r ∧ (r.2 = 0 ∧ Agn b r.1) := by
        intro hy
        rw [hw]
        refine ih _ ⟨i + 1, by simp, by omega, .inr ⟨by simp only; omega, by simp only; omega, hA, fun t' w' h0 ht hA' => ?_⟩⟩ (by simp only; omega)
        simp only
        by_cases hti : t' = i
        · subst hti
          have := hA.uniq hA'
          exact ⟨by omega, fun h => by omega⟩
        · rcases hinv with ⟨rfl, _⟩ | ⟨g0, g1, g2, g3⟩
          · omega
          · have := g3 t' w' h0 (by omega) hA'
            exact ⟨by omega, fun _ => by omega⟩
      unfold ref_Again_j6
      simp only
      by_cases hb0 : best < 0
      · rw [decide_eq_true hb0, cond_true, cond_true]
        exact yes (.inl hb0)
      · rw [decide_eq_false hb0, cond_false]
        by_cases hwa : wst < ap
        · rw [decide_eq_true hwa, cond_true]; exact yes (.inr hwa)
        · rw [decide_eq_false hwa, cond_false, hw]
          rcases hinv with ⟨_, g⟩ | ⟨g0, g1, g2, g3⟩
          · omega
          · refine ih _ ⟨i + 1, by simp, by omega, .inr ⟨g0, by simp only; omega, g2, fun t' w' h0 ht hA' => ?_⟩⟩ (by simp only; omega)
            by_cases hti : t' = i
            · subst hti
              have := hA.uniq hA'
              exact ⟨by simp only; omega, fun h => by simp only at h; omega⟩
            · exact g3 t' w' h0 (by omega) hA'
  · rw [decide_eq_false hlt, cond_false]
    have he : (i : Int) = b.Trips := by omega
    rcases hinv with ⟨rfl, _⟩ | ⟨g0, g1, g2, g3⟩
    · omega
    · exact ⟨_, rfl, rfl, ap, g0, by omega, g2, fun t' w' h0 ht => g3 t' w' h0 (by omega)⟩
theorem law_tallyWrongs_t (b : TallyBook) (h : b.Counts.length * 56 ≤ 140737488355328) : law_TallyWrongs b = some true := by
  have hl : b.Counts.length ≤ 9223372036854775807 := by omega
  have main : law_tallyWrongs b b = some true := by
    obtain ⟨r1, e1, h1, g1, k1⟩ := wrong_same b hl
    obtain ⟨r2, e2, h2, g2, k2⟩ := whose_same b hl
    obtain ⟨r3, e3, h3, g3⟩ := again_same b hl
    unfold law_tallyWrongs
    simp only [h1, g1, h2, g2, h3, g3, Option.bind_some, alike_same r1 (by omega), alike_same r2 (by omega), Bool.not_true, bne_self_eq_false, cond_false, beq_self_eq_true, cond_true]
  unfold law_TallyWrongs
  rw [own_eq h, Option.bind_some, main, Option.bind_some, kept_eq b (by omega), counted_t]
  rfl
end Go.Proofs.YtplpalmabgjibaaDoor

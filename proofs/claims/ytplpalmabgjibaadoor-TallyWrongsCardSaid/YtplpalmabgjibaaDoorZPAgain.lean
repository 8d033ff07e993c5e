/- Plain facts: each number between both ends is taken, and what the function of the trip to count again answers. -/
import Derived.Test.YtplpalmabgjibaaDoorZPAsk
set_option linter.unusedVariables false
set_option linter.unusedSimpArgs false
namespace Go.Proofs.YtplpalmabgjibaaDoor
open Go Go.Fx Go.Tally
theorem Fit.max {b : TallyBook} {out : TallyCount → Nat → Bool} {p q : Nat → Int} (hp : Fit b out p) (hq : Fit b out q) : Fit b out (fun v => if p v ≤ q v then q v else p v) := by
  refine ⟨fun k hk => ?_, fun i x hx ho => ?_⟩
  · have h1 := hp.1 k hk; have h2 := hq.1 k hk
    show (if p (k + 1) ≤ q (k + 1) then q (k + 1) else p (k + 1)) ≤ (if p k ≤ q k then q k else p k) + b.Room ∧ (if p k ≤ q k then q k else p k) ≤ (if p (k + 1) ≤ q (k + 1) then q (k + 1) else p (k + 1))
    split <;> split <;> omega
  · have h1 := hp.2 i x hx ho; have h2 := hq.2 i x hx ho
    unfold CntQ at *
    show leastV x ≤ (if p (x.To + 1).toNat ≤ q (x.To + 1).toNat then q (x.To + 1).toNat else p (x.To + 1).toNat) - (if p x.From.toNat ≤ q x.From.toNat then q x.From.toNat else p x.From.toNat) ∧ (if p (x.To + 1).toNat ≤ q (x.To + 1).toNat then q (x.To + 1).toNat else p (x.To + 1).toNat) - (if p x.From.toNat ≤ q x.From.toNat then q x.From.toNat else p x.From.toNat) ≤ mostV x
    split <;> split <;> omega
theorem Spn.mid {b : TallyBook} {out : TallyCount → Nat → Bool} {a c : Nat} {lo hi : Int} (S : Spn (Fit b out) a c lo hi) {v : Int} (h1 : lo ≤ v) (h2 : v ≤ hi) : ∃ q, Fit b out q ∧ q c - q a = v := by
  obtain ⟨p, hp, ep⟩ := S.loE
  obtain ⟨q, hq, eq⟩ := S.hiE
  have P := hp.shift (p a)
  have Q := hq.shift (q a + (hi - v))
  refine ⟨_, P.max Q, ?_⟩
  show (if p c - p a ≤ q c - (q a + (hi - v)) then q c - (q a + (hi - v)) else p c - p a) - (if p a - p a ≤ q a - (q a + (hi - v)) then q a - (q a + (hi - v)) else p a - p a) = v
  split <;> split <;> omega
theorem Spn.uniq {F : (Nat → Int) → Prop} {a c : Nat} {lo hi lo' hi' : Int} (S : Spn F a c lo hi) (S' : Spn F a c lo' hi') : lo = lo' ∧ hi = hi' := by
  obtain ⟨p, hp, ep⟩ := S.loE
  obtain ⟨q, hq, eq⟩ := S.hiE
  obtain ⟨p', hp', ep'⟩ := S'.loE
  obtain ⟨q', hq', eq'⟩ := S'.hiE
  have a1 := S.all p' hp'; have a2 := S.all q' hq'
  have a3 := S'.all p hp; have a4 := S'.all q hq
  omega
def exact_ (t v : Int) : TallyCount := ⟨2, t, t, v, 1, 0, 0⟩
theorem exact_q {t v : Int} {q : Nat → Int} : CntQ (exact_ t v) q ↔ q (t + 1).toNat - q t.toNat = v := by
  unfold CntQ leastV mostV exact_
  simp only
  omega
theorem exact_cnt {T t v : Int} (h0 : 0 ≤ t) (h1 : t < T) (h2 : 0 ≤ v) (h3 : v ≤ 60) : Cnt T (exact_ t v) := by
  refine ⟨?_, ?_, h0, ?_, h1, h2, ?_, ?_, ?_, ?_, ?_, ?_, ?_, ?_⟩ <;> simp only [exact_] <;> omega
/-- how far both ends of all are apart, once v is counted on trip t -/
def Dist (b : TallyBook) (t v d : Int) : Prop := ∃ lo hi, Spn (Fit (plus b (exact_ t v)) no) 0 b.Trips.toNat lo hi ∧ d = hi - lo
theorem Dist.uniq {b : TallyBook} {t v d d' : Int} (h : Dist b t v d) (h' : Dist b t v d') : d = d' := by
  obtain ⟨lo, hi, S, rfl⟩ := h
  obtain ⟨lo', hi', S', rfl⟩ := h'
  obtain ⟨rfl, rfl⟩ := S.uniq S'
  rfl
/-- the worst of them among the first n numbers from lo on -/
def Wst (b : TallyBook) (t lo : Int) (n : Nat) (w : Int) : Prop := 0 ≤ w ∧ w ≤ 480 ∧ (∀ i : Nat, i < n → ∃ d, Dist b t (lo + i) d ∧ d ≤ w) ∧ (w = 0 ∨ ∃ i : Nat, i < n ∧ Dist b t (lo + i) w)
theorem Wst.zero {b : TallyBook} {t lo : Int} : Wst b t lo 0 0 := ⟨by omega, by omega, fun i h => absurd h (Nat.not_lt_zero i), .inl rfl⟩
theorem Wst.step {b : TallyBook} {t lo w d : Int} {n : Nat} (h : Wst b t lo n w) (hd : Dist b t (lo + n) d) (h0 : 0 ≤ d) (h1 : d ≤ 480) : Wst b t lo (n + 1) (if d > w then d else w) := by
  obtain ⟨a1, a2, a3, a4⟩ := h
  refine ⟨by split <;> omega, by split <;> omega, fun i hi => ?_, ?_⟩
  · by_cases hin : i = n
    · subst hin; exact ⟨d, hd, by split <;> omega⟩
    · obtain ⟨d', h1, h2⟩ := a3 i (by omega)
      exact ⟨d', h1, by split <;> omega⟩
  · by_cases hdw : d > w
    · rw [if_pos hdw]; exact .inr ⟨n, by omega, hd⟩
    · rw [if_neg hdw]
      rcases a4 with h | ⟨i, hi, h⟩
      · exact .inl h
      · exact .inr ⟨i, by omega, h⟩
theorem Wst.uniq {b : TallyBook} {t lo w w' : Int} {n : Nat} (h : Wst b t lo n w) (h' : Wst b t lo n w') : w = w' := by
  have le : ∀ {w w' : Int}, Wst b t lo n w → Wst b t lo n w' → w ≤ w' := by
    intro w w' h h'
    rcases h.2.2.2 with rfl | ⟨i, hi, hd⟩
    · exact h'.1
    · obtain ⟨d, h1, h2⟩ := h'.2.2.1 i hi
      rw [hd.uniq h1]; exact h2
  exact Int.le_antisymm (le h h') (le h' h)
/-- how far apart at the worst, if trip t is counted again -/
def Apart (b : TallyBook) (t w : Int) : Prop := ∃ lo hi, Spn (Fit b no) t.toNat (t + 1).toNat lo hi ∧ Wst b t lo (hi - lo + 1).toNat w
theorem Apart.uniq {b : TallyBook} {t w w' : Int} (h : Apart b t w) (h' : Apart b t w') : w = w' := by
  obtain ⟨lo, hi, S, h⟩ := h
  obtain ⟨lo', hi', S', h'⟩ := h'
  obtain ⟨rfl, rfl⟩ := S.uniq S'
  exact h.uniq h'
/-- a number that can be counted on a trip leaves a book that can be true -/
theorem plus_can {b : TallyBook} (V : Bk b) {t v lo hi : Int} (S : Spn (Fit b no) t.toNat (t + 1).toNat lo hi) (h1 : lo ≤ v) (h2 : v ≤ hi) : CanBe (plus b (exact_ t v)) := by
  obtain ⟨q, hq, e⟩ := S.mid h1 h2
  exact ⟨q, fit_plus.2 ⟨hq, exact_q.2 e⟩⟩
theorem trip_room {b : TallyBook} (V : Bk b) {t lo hi : Int} (h0 : 0 ≤ t) (h1 : t < b.Trips) (S : Spn (Fit b no) t.toNat (t + 1).toNat lo hi) : 0 ≤ lo ∧ lo ≤ hi ∧ hi ≤ 60 := by
  have := S.bnd V (by omega) (by omega)
  have e : (((t + 1).toNat : Int) - t.toNat) = 1 := by omega
  rw [e] at this
  have := V.r60
  omega
theorem again_eq {b : TallyBook} (V : Val b) (hc : CanBe b) {lo hi : Int} (S : Spn (Fit b no) 0 b.Trips.toNat lo hi) :
    (lo = hi ∧ tally_Again b = some (0, 4)) ∨ (lo ≠ hi ∧ ∃ t w, tally_Again b = some (t, 0) ∧ 0 ≤ t ∧ t < b.Trips ∧ Apart b t w ∧ ∀ t' w' : Int, 0 ≤ t' → t' < b.Trips → Apart b t' w' → w ≤ w' ∧ (t' < t → w < w')) := by
  have t1 := V.t1; have t8 := V.t8; have l8 := V.l8
  obtain ⟨m, e, ha, O, he⟩ := asked_eq V
  have he0 : e = 0 := by
    rcases he with ⟨h, _⟩ | ⟨_, h⟩
    · exact h
    · exact absurd hc h
  subst he0
  obtain ⟨lo', hi', hm, S'⟩ := many_eq O hc (a := 0) (c := b.Trips) (by omega) (by omega) (by omega) (by omega) b.Counts
  obtain ⟨rfl, rfl⟩ := S.uniq S'
  unfold tally_Again
  rw [ha, Option.bind_some]
  simp only [bne_self_eq_false, cond_false]
  rw [hm, Option.bind_some]
  by_cases hl : lo = hi
  · left
    refine ⟨hl, ?_⟩
    simp [hl]
  right
  refine ⟨hl, ?_⟩
  rw [show ((lo == hi) = false) by simpa using hl, cond_false]
  -- the outer loop
  refine Exists.elim (loopF_inv (body := tally_Again_l8 b (⟨b, m⟩, 0)) (fun s : Int × Int × Int => ∃ i : Nat, s.2.2 = i ∧ (i : Int) ≤ b.Trips ∧ ((i = 0 ∧ s.1 = -1) ∨ (0 ≤ s.1 ∧ s.1 < i ∧ Apart b s.1 s.2.1 ∧ ∀ t' w' : Int, 0 ≤ t' → t' < i → Apart b t' w' → s.2.1 ≤ w' ∧ (t' < s.1 → s.2.1 < w'))))
    (fun s => b.Trips.toNat - s.2.2.toNat) (fun r => ∃ t w, r = (t, 0) ∧ 0 ≤ t ∧ t < b.Trips ∧ Apart b t w ∧ ∀ t' w' : Int, 0 ≤ t' → t' < b.Trips → Apart b t' w' → w ≤ w' ∧ (t' < t → w < w')) ?_ big (-1, 0, 0) ⟨0, rfl, by omega, .inl ⟨rfl, rfl⟩⟩ (by unfold big; simp; omega))
    fun r ⟨hr, t, w, hre, h⟩ => ⟨t, w, by rw [hr, hre], h⟩
  rintro rec ⟨best, ap, i'⟩ ⟨i, rfl, hi_, hinv⟩ ih
  simp only at hi_ hinv ih ⊢
  unfold tally_Again_l8
  simp only
  by_cases hlt : (i : Int) < b.Trips
  · have hw : Fx.wr ((i : Int) + 1) = (i : Int) + 1 := wrI (by omega) (by omega)
    obtain ⟨sl, sh, hs, SS⟩ := many_eq O hc (a := i) (c := (i : Int) + 1) (by omega) (by omega) (by omega) (by omega) b.Counts
    have hroom := trip_room V.bk (t := i) (by omega) hlt SS
    rw [decide_eq_true hlt, cond_true, hw, hs, Option.bind_some]
    refine Exists.elim (loopF_inv (body := tally_Again_l7 ⟨sl, sh⟩ b (best, ap, (i : Int)) rec) (fun s : Int × Int => ∃ n : Nat, s.2 = n ∧ (n : Int) ≤ sh - sl + 1 ∧ Wst b i sl n s.1) (fun s => (sh - sl + 1).toNat - s.2.toNat) _ ?_ big (0, 0) ⟨0, rfl, by omega, Wst.zero⟩ (by unfold big; simp; omega)) fun r h => ⟨r, h⟩
    rintro rec2 ⟨wst, n'⟩ ⟨n, rfl, hn, hW⟩ ih2
    simp only at hn hW ih2 ⊢
    unfold tally_Again_l7
    simp only
    rw [wrI (x := sh - sl) (by omega) (by omega), wrI (x := sh - sl + 1) (by omega) (by omega)]
    by_cases hnl : (n : Int) < sh - sl + 1
    · have hw2 : Fx.wr (sl + (n : Int)) = sl + (n : Int) := wrI (by omega) (by omega)
      rw [decide_eq_true hnl, cond_true, hw2, with_eq (by omega), Option.bind_some]
      unfold tally_nobody
      rw [Option.bind_some]
      have hcn : Cnt b.Trips (exact_ i (sl + n)) := exact_cnt (by omega) hlt (by omega) (by omega)
      obtain ⟨m2, hm2, O2⟩ := nobody_eq (V.plus hcn)
      rw [show (⟨2, (i : Int), (i : Int), sl + (n : Int), 1, 0, 0⟩ : TallyCount) = exact_ i (sl + n) from rfl, hm2, Option.bind_some]
      obtain ⟨l2, h2, hmm, S2⟩ := many_eq O2 (plus_can V.bk SS (by omega) (by omega)) (a := 0) (c := b.Trips) (by omega) (by show (0 : Int) ≤ b.Trips; omega) (by omega) (by show b.Trips ≤ b.Trips; omega) (plus b (exact_ i (sl + n))).Counts
      have hb2 := S2.bnd (V.plus hcn) (Nat.zero_le _) (by show (b.Trips.toNat : Int) ≤ b.Trips; omega)
      simp only
      rw [hmm, Option.bind_some]
      simp only
      rw [wrI (x := h2 - l2) (by omega) (by omega), wrI (x := (n : Int) + 1) (by omega) (by omega)]
      exact ih2 _ ⟨n + 1, by simp, by omega, hW.step ⟨l2, h2, S2, rfl⟩ (by omega) (by omega)⟩ (by simp; omega)
    · rw [decide_eq_false hnl, cond_false]
      have hne : n = (sh - sl + 1).toNat := by omega
      have hA : Apart b i wst := ⟨sl, sh, SS, hne ▸ hW⟩
      have yes : (best < 0 ∨ wst < ap) → ∃ r, rec ((i : Int), wst, Fx.wr ((i : Int) + 1)) = some r ∧ ∃ t w, r = (t, 0) ∧ 0 ≤ t ∧ t < b.Trips ∧ Apart b t w ∧ ∀ t' w' : Int, 0 ≤ t' → t' < b.Trips → Apart b t' w' → w ≤ w' ∧ (t' < t → w < w') := by
        intro hy
        rw [hw]
        refine ih _ ⟨i + 1, by simp, by omega, .inr ⟨by simp only; omega, by simp only; omega, hA, fun t' w' h0 ht hA' => ?_⟩⟩ (by simp; omega)
        simp only
        by_cases hti : t' = i
        · subst hti
          have := hA.uniq hA'
          exact ⟨by omega, fun h => by omega⟩
        · rcases hinv with ⟨rfl, _⟩ | ⟨g0, g1, g2, g3⟩
          · omega
          · have := g3 t' w' h0 (by omega) hA'
            exact ⟨by omega, fun _ => by omega⟩
      by_cases hb0 : best < 0
      · rw [decide_eq_true hb0, cond_true]
        exact yes (.inl hb0)
      · rw [decide_eq_false hb0, cond_false]
        by_cases hwa : wst < ap
        · rw [decide_eq_true hwa]; exact yes (.inr hwa)
        · rw [decide_eq_false hwa]
          unfold tally_Again_j6
          simp only [cond_false]
          rw [hw]
          rcases hinv with ⟨_, g⟩ | ⟨g0, g1, g2, g3⟩
          · omega
          · refine ih _ ⟨i + 1, by simp, by omega, .inr ⟨g0, by simp only; omega, g2, fun t' w' h0 ht hA' => ?_⟩⟩ (by simp; omega)
            by_cases hti : t' = i
            · subst hti
              have := hA.uniq hA'
              exact ⟨by simp only; omega, fun h => by simp only at h; omega⟩
            · exact g3 t' w' h0 (by omega) hA'
  · rw [decide_eq_false hlt, cond_false]
    have he : (i : Int) = b.Trips := by omega
    rcases hinv with ⟨rfl, _⟩ | ⟨g0, g1, g2, g3⟩
    · omega
    · exact ⟨_, rfl, best, ap, rfl, g0, by omega, g2, fun t' w' h0 ht => g3 t' w' h0 (by omega)⟩
end Go.Proofs.YtplpalmabgjibaaDoor

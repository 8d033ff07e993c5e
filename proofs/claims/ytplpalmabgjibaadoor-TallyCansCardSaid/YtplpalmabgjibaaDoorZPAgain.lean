/- Plain facts: each number between both ends is taken, and what the function of the trip to count again answers. -/
import Derived.Test.YtplpalmabgjibaaDoorZPAsk
set_option linter.unusedVariables false
set_option linter.unusedSimpArgs false
namespace Go.Proofs.YtplpalmabgjibaaDoor
open Go Go.Fx Go.Tally
theorem Fit.max {b : TallyBook} {out : TallyCount → Nat → Bool} {p q : Nat → Int} (hp : Fit b out p) (hq : Fit b out q) : Fit b out (fun v => if p v ≤ q v then q v else p v) := by
  refine ⟨fun k hk => ?_, fun i x hx ho => ?_⟩
  · have h1 := hp.1 k hk; have h2 := hq.1 k hk
    show (if p (k + 1) ≤ q (k + 1) then q (k + 1) else p (k + 1)) ≤ (if p k ≤ q k then q k else p k) + b.Room ∧ (if p k ≤ q k then q k else p k) ≤ (if p (k + 1) ≤ q (k + 1) then q (k + 1) else p (k + 1))
    split <;> split <;> omega
  · have h1 := hp.2 i x hx ho; have h2 := hq.2 i x hx ho
    unfold CntQ at *
    show leastV x ≤ (if p (x.To + 1).toNat ≤ q (x.To + 1).toNat then q (x.To + 1).toNat else p (x.To + 1).toNat) - (if p x.From.toNat ≤ q x.From.toNat then q x.From.toNat else p x.From.toNat) ∧ (if p (x.To + 1).toNat ≤ q (x.To + 1).toNat then q (x.To + 1).toNat else p (x.To + 1).toNat) - (if p x.From.toNat ≤ q x.From.toNat then q x.From.toNat else p x.From.toNat) ≤ mostV x
    split <;> split <;> omega
theorem Spn.uniq {F : (Nat → Int) → Prop} {a c : Nat} {lo hi lo' hi' : Int} (S : Spn F a c lo hi) (S' : Spn F a c lo' hi') : lo = lo' ∧ hi = hi' := by
  obtain ⟨p, hp, ep⟩ := S.loE
  obtain ⟨q, hq, eq⟩ := S.hiE
  obtain ⟨p', hp', ep'⟩ := S'.loE
  obtain ⟨q', hq', eq'⟩ := S'.hiE
  have a1 := S.all p' hp'; have a2 := S.all q' hq'
  have a3 := S'.all p hp; have a4 := S'.all q hq
  omega
def exact_ (t v : Int) : TallyCount := ⟨2, t, t, v, 1, 0, 0⟩
/-- how far both ends of all are apart, once v is counted on trip t -/
def Dist (b : TallyBook) (t v d : Int) : Prop := ∃ lo hi, Spn (Fit (plus b (exact_ t v)) no) 0 b.Trips.toNat lo hi ∧ d = hi - lo
theorem Dist.uniq {b : TallyBook} {t v d d' : Int} (h : Dist b t v d) (h' : Dist b t v d') : d = d' := by
  obtain ⟨lo, hi, S, rfl⟩ := h
  obtain ⟨lo', hi', S', rfl⟩ := h'
  obtain ⟨rfl, rfl⟩ := S.uniq S'
  rfl
/-- the worst of them among the first n numbers from lo on -/
def Wst (b : TallyBook) (t lo : Int) (n : Nat) (w : Int) : Prop := 0 ≤ w ∧ w ≤ 480 ∧ (∀ i : Nat, i < n → ∃ d, Dist b t (lo + i) d ∧ d ≤ w) ∧ (w = 0 ∨ ∃ i : Nat, i < n ∧ Dist b t (lo + i) w)
theorem Wst.zero {b : TallyBook} {t lo : Int} : Wst b t lo 0 0 := ⟨by omega, by omega, fun i h => absurd h (Nat.not_lt_zero i), .inl rfl⟩
theorem Wst.step {b : TallyBook} {t lo w d : Int} {n : Nat} (h : Wst b t lo n w) (hd : Dist b t (lo + n) d) (h0 : 0 ≤ d) (h1 : d ≤ 480) : Wst b t lo (n + 1) (if d > w then d else w) := by
  obtain ⟨a1, a2, a3, a4⟩ := h
  refine ⟨by split <;> omega, by split <;> omega, fun i hi => ?_, ?_⟩
  · by_cases hin : i = n
    · subst hin; exact ⟨d, hd, by split <;> omega⟩
    · obtain ⟨d', h1, h2⟩ := a3 i (by omega)
      exact ⟨d', h1, by split <;> omega⟩
  · by_cases hdw : d > w
    · rw [if_pos hdw]; exact .inr ⟨n, by omega, hd⟩
    · rw [if_neg hdw]
      rcases a4 with h | ⟨i, hi, h⟩
      · exact .inl h
      · exact .inr ⟨i, by omega, h⟩
theorem Wst.uniq {b : TallyBook} {t lo w w' : Int} {n : Nat} (h : Wst b t lo n w) (h' : Wst b t lo n w') : w = w' := by
  have le : ∀ {w w' : Int}, Wst b t lo n w → Wst b t lo n w' → w ≤ w' := by
    intro w w' h h'
    rcases h.2.2.2 with rfl | ⟨i, hi, hd⟩
    · exact h'.1
    · obtain ⟨d, h1, h2⟩ := h'.2.2.1 i hi
      rw [hd.uniq h1]; exact h2
  exact Int.le_antisymm (le h h') (le h' h)
/-- how far apart at the worst, if trip t is counted again -/
def Apart (b : TallyBook) (t w : Int) : Prop := ∃ lo hi, Spn (Fit b no) t.toNat (t + 1).toNat lo hi ∧ Wst b t lo (hi - lo + 1).toNat w
theorem Apart.uniq {b : TallyBook} {t w w' : Int} (h : Apart b t w) (h' : Apart b t w') : w = w' := by
  obtain ⟨lo, hi, S, h⟩ := h
  obtain ⟨lo', hi', S', h'⟩ := h'
  obtain ⟨rfl, rfl⟩ := S.uniq S'
  exact h.uniq h'
end Go.Proofs.YtplpalmabgjibaaDoor

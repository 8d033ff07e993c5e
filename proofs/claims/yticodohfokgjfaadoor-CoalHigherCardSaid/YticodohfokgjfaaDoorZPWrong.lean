/- Plain facts: the fewest measures that must be wrong, the first of those. -/
import Derived.Test.YticodohfokgjfaaDoorZPShift
set_option linter.unusedVariables false
set_option linter.unusedSimpArgs false
namespace Go.Proofs.YticodohfokgjfaaDoor
open Go Go.Fx
def Clm (l : List Int) (n : Int) : Prop := ∀ (k : Nat) (x : Int), l[k]? = some x → 0 ≤ x ∧ x < n ∧ ∀ y, 0 < k → l[k - 1]? = some y → y < x
theorem Clm.nil {n : Int} : Clm [] n := fun k x h => by simp at h
theorem Clm.snoc {l : List Int} {n v : Int} (h : Clm l n) (h0 : 0 ≤ v) (h1 : v < n) (h2 : ∀ y, l.getLast? = some y → y < v) : Clm (l ++ [v]) n := by
  intro k x hx
  by_cases hk : k < l.length
  · rw [List.getElem?_append_left hk] at hx
    obtain ⟨a1, a2, a3⟩ := h k x hx
    refine ⟨a1, a2, fun y h0 hy => a3 y h0 ?_⟩
    rwa [List.getElem?_append_left (by omega)] at hy
  · rw [List.getElem?_append_right (by omega), List.getElem?_singleton] at hx
    split at hx
    · cases hx
      refine ⟨h0, h1, fun y hk0 hy => h2 y ?_⟩
      rw [List.getElem?_append_left (by omega)] at hy
      rw [List.getLast?_eq_getElem?, ← hy]
      congr 1; omega
    · cases hx
theorem Clm.lt {l : List Int} {n : Int} (h : Clm l n) : ∀ (d i : Nat) (x y : Int), l[i]? = some x → l[i + d + 1]? = some y → x < y := by
  intro d
  induction d with
  | zero => intro i x y hx hy; exact (h (i + 1) y hy).2.2 x (by omega) (by simpa using hx)
  | succ d ih =>
    intro i x y hx hy
    have hlt : i + d + 1 < l.length := by have := (List.getElem?_eq_some_iff.1 hy).1; omega
    have h1 := ih i x _ hx (List.getElem?_eq_getElem hlt)
    have h2 := (h (i + (d + 1) + 1) y hy).2.2 _ (by omega) (by rw [show i + (d + 1) + 1 - 1 = i + d + 1 by omega]; exact List.getElem?_eq_getElem hlt)
    omega
theorem Clm.len {l : List Int} {n : Int} (h : Clm l n) (h0 : 0 ≤ n) : (l.length : Int) ≤ n := by
  have : ∀ (k : Nat) (x : Int), l[k]? = some x → (k : Int) ≤ x := by
    intro k
    induction k with
    | zero => intro x hx; have := (h 0 x hx).1; omega
    | succ k ih =>
      intro x hx
      have hlt : k < l.length := by have := (List.getElem?_eq_some_iff.1 hx).1; omega
      have h1 := ih _ (List.getElem?_eq_getElem hlt)
      have h2 := h.lt 0 k _ x (List.getElem?_eq_getElem hlt) hx
      omega
  by_cases hl : l.length = 0
  · omega
  · have hlt : l.length - 1 < l.length := by omega
    have h1 := this _ _ (List.getElem?_eq_getElem hlt)
    have h2 := (h _ _ (List.getElem?_eq_getElem hlt)).2.1
    omega
/-- a book without some measures can be true -/
def CanO (b : CoalBook) (l : List Int) : Prop := truths (opn b l) ≠ []
theorem can_o {b : CoalBook} (V : Val b) (A : Arg b) {l : List Int} (hl : l.length ≤ 1000) : ∃ r, (coal_opened b l).bind (fun r16 => (coal_book_isTrue (Coal_book.mk (CoalBook.mk r16.CoalBook.Heap r16.CoalBook.Eats r16.CoalBook.Extra b.Days r16.CoalBook.Collier r16.CoalBook.Brings r16.CoalBook.Dips) r16.costs_)).bind fun r28 => some (l, r28)) = some (l, r) ∧ (r = true ↔ CanO b l) := by
  refine ⟨!(truths (opn b l)).isEmpty, ?_, ?_⟩
  · rw [opened_eq V A l hl, Option.bind_some]
    rw [show (Coal_book.mk (CoalBook.mk (opn b l).CoalBook.Heap (opn b l).CoalBook.Eats (opn b l).CoalBook.Extra b.Days (opn b l).CoalBook.Collier (opn b l).CoalBook.Brings (opn b l).CoalBook.Dips) (opn b l).costs_) = opn b l from rfl]
    rw [isTrue_eq _ (opn_op V A l), Option.bind_some]
  · unfold CanO
    cases truths (opn b l) <;> simp
/-- a list of places below n that climbs, so long, and begins so -/
structure Ext (n : Nat) (l : List Int) (many : Nat) (o : List Int) : Prop where
  len : o.length = many
  clm : Clm o n
  pre : ∀ (i : Nat) (x : Int), l[i]? = some x → o[i]? = some x
def LexLt (o w : List Int) : Prop := ∃ (i : Nat) (x y : Int), o[i]? = some x ∧ w[i]? = some y ∧ x < y ∧ ∀ j, j < i → o[j]? = w[j]?
def TryOk (b : CoalBook) (l : List Int) (many : Nat) (r : List Int × Bool) : Prop :=
  (r.2 = true ∧ Ext b.Dips.length l many r.1 ∧ CanO b r.1 ∧ ∀ o, Ext b.Dips.length l many o → CanO b o → ¬ LexLt o r.1) ∨
  (r.2 = false ∧ ∀ o, Ext b.Dips.length l many o → ¬ CanO b o)
theorem Ext.more {n many : Nat} {l o : List Int} {x : Int} (h : Ext n l many o) (hx : o[l.length]? = some x) : Ext n (l ++ [x]) many o := by
  refine ⟨h.len, h.clm, fun i y hy => ?_⟩
  by_cases hi : i < l.length
  · rw [List.getElem?_append_left hi] at hy; exact h.pre i y hy
  · rw [List.getElem?_append_right (by omega), List.getElem?_singleton] at hy
    split at hy
    · cases hy; rw [show i = l.length by omega]; exact hx
    · cases hy
theorem Ext.less {n many : Nat} {l o : List Int} {x : Int} (h : Ext n (l ++ [x]) many o) : Ext n l many o ∧ o[l.length]? = some x := by
  refine ⟨⟨h.len, h.clm, fun i y hy => h.pre i y ?_⟩, h.pre _ _ (by simp)⟩
  rw [List.getElem?_append_left (List.getElem?_eq_some_iff.1 hy).1]; exact hy
theorem try_loop {b : CoalBook} (V : Val b) {l : List Int} {many : Nat} (hm : many ≤ b.Dips.length) (hl : l.length < many) (hc : Clm l b.Dips.length) {rec_ : List Int → Int → Option (List Int × Bool)}
    (hrec : ∀ v : Int, Clm (l ++ [v]) b.Dips.length → ∃ r, rec_ (l ++ [v]) many = some r ∧ TryOk b (l ++ [v]) many r) {s : Int} (s0 : 0 ≤ s) (sn : s ≤ b.Dips.length) (s1 : ∀ y, l.getLast? = some y → y < s)
    (s2 : ∀ o, Ext b.Dips.length l many o → ∀ x, o[l.length]? = some x → s ≤ x) : ∃ r, coal_Wrong_1_j4 b l rec_ many s = some r ∧ TryOk b l many r := by
  have l8 := V.pn
  unfold coal_Wrong_1_j4
  have at_ : ∀ o, Ext b.Dips.length l many o → ∃ x, o[l.length]? = some x := fun o ho => ⟨_, List.getElem?_eq_getElem (by rw [ho.len]; exact hl)⟩
  refine loopF_inv (body := coal_Wrong_1_l3 b l rec_ many) (fun z : Int => s ≤ z ∧ z ≤ b.Dips.length ∧ ∀ o, Ext b.Dips.length l many o → CanO b o → ∀ x, o[l.length]? = some x → z ≤ x) (fun z => b.Dips.length - z.toNat) (fun r => TryOk b l many r) ?_ big s ⟨Int.le_refl _, sn, fun o ho _ => s2 o ho⟩ (by unfold big; simp; omega)
  rintro rec z ⟨h1, h2, h3⟩ ih
  unfold coal_Wrong_1_l3
  by_cases hz : z < b.Dips.length
  case neg =>
    rw [decide_eq_false hz, cond_false]
    refine ⟨_, rfl, .inr ⟨rfl, fun o ho hco => ?_⟩⟩
    obtain ⟨x, hx⟩ := at_ o ho
    have := h3 o ho hco x hx
    have := (ho.clm _ x hx).2.1
    omega
  rw [decide_eq_true hz, cond_true, need_of (by simp [fitsL]; omega)]
  have hC : Clm (l ++ [z]) b.Dips.length := hc.snoc (by omega) hz (fun y hy => by have := s1 y hy; omega)
  obtain ⟨⟨out, c⟩, hr, hT⟩ := hrec z hC
  rw [hr, Option.bind_some]
  simp only
  rcases hT with ⟨e, hE, hO, hmin⟩ | ⟨e, hno⟩
  · simp only at e; subst e
    rw [cond_true]
    refine ⟨_, rfl, .inl ⟨rfl, hE.less.1, hO, fun o ho hco => ?_⟩⟩
    obtain ⟨x, hx⟩ := at_ o ho
    have hzx := h3 o ho hco x hx
    by_cases hxz : x = z
    · subst hxz; exact hmin o (ho.more hx) hco
    · rintro ⟨i, x', y', g1, g2, g3, g4⟩
      simp only at g2 g4
      have hoz := hE.less.2
      simp only at hoz
      by_cases hi : i < l.length
      · have hli := List.getElem?_eq_getElem hi
        have a1 := ho.pre i _ hli
        have a2 := hE.less.1.pre i _ hli
        simp only at a2
        rw [g1] at a1; rw [g2] at a2
        have := Option.some.inj a1; have := Option.some.inj a2
        omega
      · by_cases hil : i = l.length
        · subst hil
          rw [hx] at g1; rw [hoz] at g2
          have := Option.some.inj g1; have := Option.some.inj g2
          omega
        · have := g4 l.length (by omega)
          rw [hx, hoz] at this
          exact hxz (Option.some.inj this)
  · simp only at e; subst e
    rw [cond_false, wrI (by omega) (by omega)]
    refine ih _ ⟨by omega, by omega, fun o ho hco x hx => ?_⟩ (by (try simp only); omega)
    have := h3 o ho hco x hx
    by_cases hxz : x = z
    · subst hxz; exact absurd hco (hno o (ho.more hx))
    · omega
theorem try_eq {b : CoalBook} (V : Val b) (A : Arg b) {many : Nat} (hm : many ≤ b.Dips.length) : ∀ (d fuel : Nat) (l : List Int), Clm l b.Dips.length → l.length + d = many → d < fuel → ∃ r, coal_Wrong_1 fuel l many b = some r ∧ TryOk b l many r := by
  have l8 := V.pn
  intro d
  induction d with
  | zero =>
    intro fuel l hc hl hf
    obtain ⟨f, rfl⟩ : ∃ f, fuel = f + 1 := ⟨fuel - 1, by omega⟩
    unfold coal_Wrong_1 coal_Wrong_1_F
    rw [show ((l.length : Int) == (many : Int)) = true by simp; omega, cond_true]
    obtain ⟨r, hr, hi⟩ := can_o V A (l := l) (by omega)
    rw [hr]
    have eq : ∀ o, Ext b.Dips.length l many o → o = l := fun o ho => by
      refine (List.ext_getElem? fun i => ?_).symm
      by_cases hi : i < l.length
      · rw [List.getElem?_eq_getElem hi, ho.pre i _ (List.getElem?_eq_getElem hi)]
      · rw [List.getElem?_eq_none (by omega), List.getElem?_eq_none (by rw [ho.len]; omega)]
    refine ⟨_, rfl, ?_⟩
    cases r with
    | true =>
      refine .inl ⟨rfl, ⟨by simp only; omega, hc, fun i x h => h⟩, hi.1 rfl, fun o ho _ => ?_⟩
      rw [eq o ho]
      rintro ⟨i, x, y, h1, h2, h3, _⟩
      simp only at h2
      rw [h1] at h2
      have := Option.some.inj h2
      omega
    | false =>
      refine .inr ⟨rfl, fun o ho => ?_⟩
      rw [eq o ho]
      exact fun h => by simpa using hi.2 h
  | succ d ih =>
    intro fuel l hc hl hf
    obtain ⟨f, rfl⟩ : ∃ f, fuel = f + 1 := ⟨fuel - 1, by omega⟩
    unfold coal_Wrong_1 coal_Wrong_1_F
    rw [show ((l.length : Int) == (many : Int)) = false by simp; omega, cond_false]
    have hrec : ∀ v : Int, Clm (l ++ [v]) b.Dips.length → ∃ r, coal_Wrong_1 f (l ++ [v]) many b = some r ∧ TryOk b (l ++ [v]) many r := fun v hv => ih f (l ++ [v]) hv (by (try simp); omega) (by omega)
    by_cases h0 : 0 < l.length
    · rw [decide_eq_true (show (l.length : Int) > 0 by omega), cond_true, wrI (x := (l.length : Int) - 1) (by omega) (by omega), show (l.length : Int) - 1 = ((l.length - 1 : Nat) : Int) by omega, getI_nat]
      have hlt : l.length - 1 < l.length := by omega
      have hx := List.getElem?_eq_getElem hlt
      generalize l[l.length - 1] = v at hx
      obtain ⟨v0, v1, _⟩ := hc _ _ hx
      rw [hx, Option.bind_some, wrI (x := v + 1) (by omega) (by omega)]
      refine try_loop V hm (by omega) hc hrec (by omega) (by omega) (fun y hy => ?_) (fun o ho x hox => ?_)
      · rw [List.getLast?_eq_getElem?, hx] at hy
        have := Option.some.inj hy; omega
      · have := (ho.clm _ x hox).2.2 v h0 (ho.pre _ _ hx)
        omega
    · rw [decide_eq_false (show ¬ (l.length : Int) > 0 by omega), cond_false]
      have hn : l = [] := List.eq_nil_of_length_eq_zero (by omega)
      refine try_loop V hm (by omega) hc hrec (Int.le_refl _) (by omega) (fun y hy => ?_) (fun o ho x hox => (ho.clm _ x hox).1)
      rw [hn] at hy; cases hy
def allL (n : Nat) : List Int := (List.range n).map Int.ofNat
theorem allL_clm (n : Nat) : Clm (allL n) n := by
  have get : ∀ (k : Nat) (x : Int), (allL n)[k]? = some x → x = k ∧ k < n := by
    intro k x h
    unfold allL at h
    rw [List.getElem?_map] at h
    obtain ⟨y, hy, rfl⟩ := Option.map_eq_some_iff.1 h
    have hk : k < n := by simpa using (List.getElem?_eq_some_iff.1 hy).1
    rw [List.getElem?_range hk] at hy
    cases hy
    exact ⟨rfl, hk⟩
  intro k x h
  obtain ⟨rfl, hk⟩ := get k x h
  refine ⟨by omega, by omega, fun y h0 hy => ?_⟩
  obtain ⟨rfl, _⟩ := get _ y hy
  omega
/-- the fewest that must be left out, the first of those -/
structure Few (b : CoalBook) (w : List Int) : Prop where
  clm : Clm w b.Dips.length
  can : CanO b w
  len : ∀ o, Clm o b.Dips.length → CanO b o → w.length ≤ o.length
  lex : ∀ o, Clm o b.Dips.length → CanO b o → o.length = w.length → ¬ LexLt o w
theorem wrong_eq {b : CoalBook} (V : Val b) (A : Arg b) (hall : CanO b (allL b.Dips.length)) : ∃ w, coal_Wrong b = some (w, 0) ∧ Few b w := by
  have l8 := V.pn
  unfold coal_Wrong
  rw [check_eq b A, val_iff.2 V, Option.bind_some]
  simp only [cond_true, bne_self_eq_false, cond_false]
  refine Exists.elim (loopF_inv (body := coal_Wrong_l2 b) (fun z : Int => ∃ k : Nat, z = k ∧ k ≤ b.Dips.length + 1 ∧ ∀ o, Clm o b.Dips.length → CanO b o → k ≤ o.length) (fun z => b.Dips.length + 1 - z.toNat) (fun r => ∃ w, r = (w, 0) ∧ Few b w) ?_ big 0 ⟨0, rfl, by omega, fun _ _ _ => Nat.zero_le _⟩ (by unfold big; simp; omega)) fun r ⟨h1, w, h2, h3⟩ => ⟨w, by rw [h1, h2], h3⟩
  rintro rec z ⟨k, rfl, hk, hmin⟩ ih
  unfold coal_Wrong_l2
  rw [wrI (x := (b.Dips.length : Int) + 1) (by omega) (by omega)]
  by_cases hlt : k < b.Dips.length + 1
  · rw [decide_eq_true (by omega), cond_true]
    obtain ⟨⟨out, c⟩, hr, hT⟩ := try_eq V A (many := k) (by omega) k big [] Clm.nil (by simp) (by unfold big; omega)
    rw [hr, Option.bind_some]
    simp only
    have ext : ∀ o, Clm o b.Dips.length → o.length = k → Ext b.Dips.length [] k o := fun o ho hl => ⟨hl, ho, fun i x h => by simp at h⟩
    rcases hT with ⟨e, hE, hO, hm⟩ | ⟨e, hno⟩
    · simp only at e; subst e
      rw [cond_true]
      refine ⟨_, rfl, out, rfl, hE.clm, hO, fun o h1 h2 => by rw [hE.len]; exact hmin o h1 h2, fun o h1 h2 h3 => hm o (ext o h1 (h3.trans hE.len)) h2⟩
    · simp only at e; subst e
      rw [cond_false, wrI (by omega) (by omega)]
      refine ih _ ⟨k + 1, by simp, by omega, fun o h1 h2 => ?_⟩ (by (try simp only); omega)
      have := hmin o h1 h2
      by_cases hok : o.length = k
      · exact absurd h2 (hno o (ext o h1 hok))
      · omega
  · have := hmin _ (allL_clm _) hall
    unfold allL at this
    simp at this
    omega
end Go.Proofs.YticodohfokgjfaaDoor

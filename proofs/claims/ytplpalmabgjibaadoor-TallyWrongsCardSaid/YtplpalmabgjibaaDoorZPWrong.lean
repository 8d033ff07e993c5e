/- Plain facts: the fewest counts that must be false, the first of those. -/
import Derived.Test.YtplpalmabgjibaaDoorZPWithout
set_option linter.unusedVariables false
set_option linter.unusedSimpArgs false
namespace Go.Proofs.YtplpalmabgjibaaDoor
open Go Go.Fx Go.Tally
theorem index_loop (l : List Int) (v : Int) (hl : l.length ≤ 9223372036854775807) : ∃ r, sl_Index_int_int l v = some r ∧ (0 ≤ r ↔ v ∈ l) := by
  unfold sl_Index_int_int
  refine loopF_inv (body := sl_Index_int_int_l1 l v) (fun i : Int => ∃ k : Nat, i = k ∧ k ≤ l.length ∧ v ∉ l.take k) (fun i => l.length - i.toNat) (fun r => 0 ≤ r ↔ v ∈ l) ?_ big 0 ⟨0, rfl, Nat.zero_le _, by simp⟩ (by unfold big; simp; omega)
  rintro rec i ⟨k, rfl, hk, hn⟩ ih
  unfold sl_Index_int_int_l1
  by_cases hlt : k < l.length
  · rw [decide_eq_true (by omega), cond_true, getI_nat, List.getElem?_eq_getElem hlt, Option.bind_some]
    by_cases he : v = l[k]
    · rw [show (v == l[k]) = true by simpa using he, cond_true]
      have hm : v ∈ l := he ▸ List.getElem_mem hlt
      exact ⟨_, rfl, by simp [hm]⟩
    · rw [show (v == l[k]) = false by simpa using he, cond_false, wrI (by omega) (by omega)]
      refine ih _ ⟨k + 1, by simp, hlt, ?_⟩ (by (try simp only); omega)
      rw [List.take_succ_eq_append_getElem hlt]
      simp only [List.mem_append, List.mem_singleton, not_or]
      exact ⟨hn, he⟩
  · rw [decide_eq_false (by omega), cond_false]
    have hm : v ∉ l := by rwa [List.take_of_length_le (by omega)] at hn
    exact ⟨-1, rfl, by simp [hm]⟩
theorem some_eq {b : TallyBook} (V : Bk b) {l : List Int} (hl : l.length ≤ 9223372036854775807) : ∃ m, tally_opened b (Tally_leave.mk fun y28 y29 => tally_some_1 y28 y29 l) = some ⟨b, m⟩ ∧ Opn b (outL l) m := by
  obtain ⟨m, h1, h2, h3, h4⟩ := opened_eq V (lv := Tally_leave.mk fun y28 y29 => tally_some_1 y28 y29 l) (out := outL l) (fun i x _ => by
    show tally_some_1 x (i : Int) l = _
    unfold tally_some_1 sl_Contains_int_int outL
    obtain ⟨r, hr, hi⟩ := index_loop l i hl
    rw [hr]
    simp only [Option.bind_some]
    congr 1
    rw [Bool.eq_iff_iff]
    simp [hi])
  exact ⟨m, h1, V, h2, h3, h4⟩
/-- a list of places below n that climbs, so long, and begins so -/
structure Ext (n : Nat) (l : List Int) (many : Nat) (o : List Int) : Prop where
  len : o.length = many
  clm : Clm o n
  pre : ∀ (i : Nat) (x : Int), l[i]? = some x → o[i]? = some x
def LexLt (o w : List Int) : Prop := ∃ (i : Nat) (x y : Int), o[i]? = some x ∧ w[i]? = some y ∧ x < y ∧ ∀ j, j < i → o[j]? = w[j]?
def TryOk (b : TallyBook) (l : List Int) (many : Nat) (r : List Int × Bool) : Prop :=
  (r.2 = true ∧ Ext b.Counts.length l many r.1 ∧ CanO b r.1 ∧ ∀ o, Ext b.Counts.length l many o → CanO b o → ¬ LexLt o r.1) ∨
  (r.2 = false ∧ ∀ o, Ext b.Counts.length l many o → ¬ CanO b o)
theorem Ext.more {n many : Nat} {l o : List Int} {x : Int} (h : Ext n l many o) (hx : o[l.length]? = some x) : Ext n (l ++ [x]) many o := by
  refine ⟨h.len, h.clm, fun i y hy => ?_⟩
  by_cases hi : i < l.length
  · rw [List.getElem?_append_left hi] at hy; exact h.pre i y hy
  · rw [List.getElem?_append_right (by omega), List.getElem?_singleton] at hy
    split at hy
    · cases hy; rw [show i = l.length by omega]; exact hx
    · cases hy
theorem Ext.less {n many : Nat} {l o : List Int} {x : Int} (h : Ext n (l ++ [x]) many o) : Ext n l many o ∧ o[l.length]? = some x := by
  refine ⟨⟨h.len, h.clm, fun i y hy => h.pre i y ?_⟩, h.pre _ _ (by simp)⟩
  rw [List.getElem?_append_left (List.getElem?_eq_some_iff.1 hy).1]; exact hy
theorem try_loop {b : TallyBook} (V : Val b) {l : List Int} {many : Nat} (hm : many ≤ b.Counts.length) (hl : l.length < many) (hc : Clm l b.Counts.length) {rec_ : List Int → Int → Option (List Int × Bool)}
    (hrec : ∀ v : Int, Clm (l ++ [v]) b.Counts.length → ∃ r, rec_ (l ++ [v]) many = some r ∧ TryOk b (l ++ [v]) many r) {s : Int} (s0 : 0 ≤ s) (sn : s ≤ b.Counts.length) (s1 : ∀ y, l.getLast? = some y → y < s)
    (s2 : ∀ o, Ext b.Counts.length l many o → ∀ x, o[l.length]? = some x → s ≤ x) : ∃ r, tally_Wrong_1_j4 b l rec_ many s = some r ∧ TryOk b l many r := by
  have l8 := V.l8
  unfold tally_Wrong_1_j4
  have at_ : ∀ o, Ext b.Counts.length l many o → ∃ x, o[l.length]? = some x := fun o ho => ⟨_, List.getElem?_eq_getElem (by rw [ho.len]; exact hl)⟩
  refine loopF_inv (body := tally_Wrong_1_l3 b l rec_ many) (fun z : Int => s ≤ z ∧ z ≤ b.Counts.length ∧ ∀ o, Ext b.Counts.length l many o → CanO b o → ∀ x, o[l.length]? = some x → z ≤ x) (fun z => b.Counts.length - z.toNat) (fun r => TryOk b l many r) ?_ big s ⟨Int.le_refl _, sn, fun o ho _ => s2 o ho⟩ (by unfold big; simp; omega)
  rintro rec z ⟨h1, h2, h3⟩ ih
  unfold tally_Wrong_1_l3
  by_cases hz : z < b.Counts.length
  case neg =>
    rw [decide_eq_false hz, cond_false]
    refine ⟨_, rfl, .inr ⟨rfl, fun o ho hco => ?_⟩⟩
    obtain ⟨x, hx⟩ := at_ o ho
    have := h3 o ho hco x hx
    have := (ho.clm _ x hx).2.1
    omega
  rw [decide_eq_true hz, cond_true, need_of (by simp [fitsL]; omega)]
  have hC : Clm (l ++ [z]) b.Counts.length := hc.snoc (by omega) hz (fun y hy => by have := s1 y hy; omega)
  obtain ⟨⟨out, c⟩, hr, hT⟩ := hrec z hC
  rw [hr, Option.bind_some]
  simp only
  rcases hT with ⟨e, hE, hO, hmin⟩ | ⟨e, hno⟩
  · simp only at e; subst e
    rw [cond_true]
    refine ⟨_, rfl, .inl ⟨rfl, hE.less.1, hO, fun o ho hco => ?_⟩⟩
    obtain ⟨x, hx⟩ := at_ o ho
    have hzx := h3 o ho hco x hx
    by_cases hxz : x = z
    · subst hxz; exact hmin o (ho.more hx) hco
    · rintro ⟨i, x', y', g1, g2, g3, g4⟩
      simp only at g2 g4
      have hoz := hE.less.2
      simp only at hoz
      by_cases hi : i < l.length
      · have hli := List.getElem?_eq_getElem hi
        have a1 := ho.pre i _ hli
        have a2 := hE.less.1.pre i _ hli
        simp only at a2
        rw [g1] at a1; rw [g2] at a2
        have := Option.some.inj a1; have := Option.some.inj a2
        omega
      · by_cases hil : i = l.length
        · subst hil
          rw [hx] at g1; rw [hoz] at g2
          have := Option.some.inj g1; have := Option.some.inj g2
          omega
        · have := g4 l.length (by omega)
          rw [hx, hoz] at this
          exact hxz (Option.some.inj this)
  · simp only at e; subst e
    rw [cond_false, wrI (by omega) (by omega)]
    refine ih _ ⟨by omega, by omega, fun o ho hco x hx => ?_⟩ (by (try simp only); omega)
    have := h3 o ho hco x hx
    by_cases hxz : x = z
    · subst hxz; exact absurd hco (hno o (ho.more hx))
    · omega
theorem try_eq {b : TallyBook} (V : Val b) {many : Nat} (hm : many ≤ b.Counts.length) : ∀ (d fuel : Nat) (l : List Int), Clm l b.Counts.length → l.length + d = many → d < fuel → ∃ r, tally_Wrong_1 fuel l many b = some r ∧ TryOk b l many r := by
  have l8 := V.l8
  intro d
  induction d with
  | zero =>
    intro fuel l hc hl hf
    obtain ⟨f, rfl⟩ : ∃ f, fuel = f + 1 := ⟨fuel - 1, by omega⟩
    unfold tally_Wrong_1 tally_Wrong_1_F
    rw [show ((l.length : Int) == (many : Int)) = true by simp; omega, cond_true]
    unfold tally_some
    rw [Option.bind_some]
    obtain ⟨m, hmm, O⟩ := some_eq V.bk (l := l) (by omega)
    obtain ⟨r, hr, hi⟩ := can_eq O b.Counts
    rw [hmm, Option.bind_some]
    simp only
    rw [hr]
    have eq : ∀ o, Ext b.Counts.length l many o → o = l := fun o ho => by
      refine (List.ext_getElem? fun i => ?_).symm
      by_cases hi : i < l.length
      · rw [List.getElem?_eq_getElem hi, ho.pre i _ (List.getElem?_eq_getElem hi)]
      · rw [List.getElem?_eq_none (by omega), List.getElem?_eq_none (by rw [ho.len]; omega)]
    refine ⟨_, rfl, ?_⟩
    cases r with
    | true =>
      refine .inl ⟨rfl, ⟨by simp only; omega, hc, fun i x h => h⟩, hi.1 rfl, fun o ho _ => ?_⟩
      rw [eq o ho]
      rintro ⟨i, x, y, h1, h2, h3, _⟩
      simp only at h2
      rw [h1] at h2
      have := Option.some.inj h2
      omega
    | false =>
      refine .inr ⟨rfl, fun o ho => ?_⟩
      rw [eq o ho]
      exact fun h => by simpa using hi.2 h
  | succ d ih =>
    intro fuel l hc hl hf
    obtain ⟨f, rfl⟩ : ∃ f, fuel = f + 1 := ⟨fuel - 1, by omega⟩
    unfold tally_Wrong_1 tally_Wrong_1_F
    rw [show ((l.length : Int) == (many : Int)) = false by simp; omega, cond_false]
    have hrec : ∀ v : Int, Clm (l ++ [v]) b.Counts.length → ∃ r, tally_Wrong_1 f (l ++ [v]) many b = some r ∧ TryOk b (l ++ [v]) many r := fun v hv => ih f (l ++ [v]) hv (by (try simp); omega) (by omega)
    by_cases h0 : 0 < l.length
    · rw [decide_eq_true (show (l.length : Int) > 0 by omega), cond_true, wrI (x := (l.length : Int) - 1) (by omega) (by omega), show (l.length : Int) - 1 = ((l.length - 1 : Nat) : Int) by omega, getI_nat]
      have hlt : l.length - 1 < l.length := by omega
      have hx := List.getElem?_eq_getElem hlt
      generalize l[l.length - 1] = v at hx
      obtain ⟨v0, v1, _⟩ := hc _ _ hx
      rw [hx, Option.bind_some, wrI (x := v + 1) (by omega) (by omega)]
      refine try_loop V hm (by omega) hc hrec (by omega) (by omega) (fun y hy => ?_) (fun o ho x hox => ?_)
      · rw [List.getLast?_eq_getElem?, hx] at hy
        have := Option.some.inj hy; omega
      · have := (ho.clm _ x hox).2.2 v h0 (ho.pre _ _ hx)
        omega
    · rw [decide_eq_false (show ¬ (l.length : Int) > 0 by omega), cond_false]
      have hn : l = [] := List.eq_nil_of_length_eq_zero (by omega)
      refine try_loop V hm (by omega) hc hrec (Int.le_refl _) (by omega) (fun y hy => ?_) (fun o ho x hox => (ho.clm _ x hox).1)
      rw [hn] at hy; cases hy
def allL (n : Nat) : List Int := (List.range n).map Int.ofNat
theorem allL_clm (n : Nat) : Clm (allL n) n := by
  have get : ∀ (k : Nat) (x : Int), (allL n)[k]? = some x → x = k ∧ k < n := by
    intro k x h
    unfold allL at h
    rw [List.getElem?_map] at h
    obtain ⟨y, hy, rfl⟩ := Option.map_eq_some_iff.1 h
    have hk : k < n := by simpa using (List.getElem?_eq_some_iff.1 hy).1
    rw [List.getElem?_range hk] at hy
    cases hy
    exact ⟨rfl, hk⟩
  intro k x h
  obtain ⟨rfl, hk⟩ := get k x h
  refine ⟨by omega, by omega, fun y h0 hy => ?_⟩
  obtain ⟨rfl, _⟩ := get _ y hy
  omega
theorem allL_can {b : TallyBook} (V : Bk b) : CanO b (allL b.Counts.length) := by
  refine ⟨fun _ => 0, fun k _ => ?_, fun i x hx ho => ?_⟩
  · have := V.r0; show (0 : Int) ≤ 0 + b.Room ∧ (0 : Int) ≤ 0; omega
  · have hi := (List.getElem?_eq_some_iff.1 hx).1
    have : (i : Int) ∈ allL b.Counts.length := List.mem_map.2 ⟨i, List.mem_range.2 hi, rfl⟩
    unfold outL at ho
    simp [this] at ho
/-- the fewest that must be left out, the first of those -/
structure Few (b : TallyBook) (w : List Int) : Prop where
  clm : Clm w b.Counts.length
  can : CanO b w
  len : ∀ o, Clm o b.Counts.length → CanO b o → w.length ≤ o.length
  lex : ∀ o, Clm o b.Counts.length → CanO b o → o.length = w.length → ¬ LexLt o w
theorem wrong_eq {b : TallyBook} (V : Val b) : ∃ w, tally_Wrong b = some (w, 0) ∧ Few b w := by
  have l8 := V.l8
  unfold tally_Wrong
  rw [check_ok V, Option.bind_some]
  simp only [bne_self_eq_false, cond_false]
  refine Exists.elim (loopF_inv (body := tally_Wrong_l2 b) (fun z : Int => ∃ k : Nat, z = k ∧ k ≤ b.Counts.length + 1 ∧ ∀ o, Clm o b.Counts.length → CanO b o → k ≤ o.length) (fun z => b.Counts.length + 1 - z.toNat) (fun r => ∃ w, r = (w, 0) ∧ Few b w) ?_ big 0 ⟨0, rfl, by omega, fun _ _ _ => Nat.zero_le _⟩ (by unfold big; simp; omega)) fun r ⟨h1, w, h2, h3⟩ => ⟨w, by rw [h1, h2], h3⟩
  rintro rec z ⟨k, rfl, hk, hmin⟩ ih
  unfold tally_Wrong_l2
  rw [wrI (x := (b.Counts.length : Int) + 1) (by omega) (by omega)]
  by_cases hlt : k < b.Counts.length + 1
  · rw [decide_eq_true (by omega), cond_true]
    obtain ⟨⟨out, c⟩, hr, hT⟩ := try_eq V (many := k) (by omega) k big [] Clm.nil (by simp) (by unfold big; omega)
    rw [hr, Option.bind_some]
    simp only
    have ext : ∀ o, Clm o b.Counts.length → o.length = k → Ext b.Counts.length [] k o := fun o ho hl => ⟨hl, ho, fun i x h => by simp at h⟩
    rcases hT with ⟨e, hE, hO, hm⟩ | ⟨e, hno⟩
    · simp only at e; subst e
      rw [cond_true]
      refine ⟨_, rfl, out, rfl, hE.clm, hO, fun o h1 h2 => by rw [hE.len]; exact hmin o h1 h2, fun o h1 h2 h3 => hm o (ext o h1 (h3.trans hE.len)) h2⟩
    · simp only at e; subst e
      rw [cond_false, wrI (by omega) (by omega)]
      refine ih _ ⟨k + 1, by simp, by omega, fun o h1 h2 => ?_⟩ (by (try simp only); omega)
      have := hmin o h1 h2
      by_cases hok : o.length = k
      · exact absurd h2 (hno o (ext o h1 hok))
      · omega
  · have := hmin _ (allL_clm _) (allL_can V.bk)
    unfold allL at this
    simp at this
    omega
end Go.Proofs.YtplpalmabgjibaaDoor

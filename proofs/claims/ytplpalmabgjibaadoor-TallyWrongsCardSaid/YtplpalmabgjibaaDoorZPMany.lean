/- Plain facts: the book in the calculation, and what the rounds find of it. -/
import Derived.Test.YtplpalmabgjibaaDoorZPBase
set_option linter.unusedVariables false
set_option linter.unusedSimpArgs false
namespace Go.Proofs.YtplpalmabgjibaaDoor
open Go Go.Fx Go.Tally
theorem loopF_succ {σ ρ : Type} {body : (σ → Option ρ) → σ → Option ρ} {n : Nat} {s : σ} : loopF body (n + 1) s = body (loopF body n) s := rfl
theorem least1_eq (a x : Int) : tally_least_int a [x] = some (if x < a then x else a) := by
  have hb : big = 18446744073709551614 + 1 + 1 := by decide
  unfold tally_least_int
  rw [hb, loopF_succ, tally_least_int_l1]
  simp only [List.length_singleton]
  rw [show getI [x] 0 = some x from rfl, Option.bind_some, loopF_succ, tally_least_int_l1]
  have w : Fx.wr 1 = 1 := wrI (by omega) (by omega)
  simp [w]
abbrev LP := List (Tally_pair × Int)
def noteP (m : LP) (p : Tally_pair) (n : Int) : LP := putL m p (match lookL m p with | some o => if o < n then o else n | none => n)
theorem note_eq (b : Tally_book) (p : Tally_pair) (n : Int) : tally_book_note b p n = some (noteP b.more_ p n) := by
  unfold tally_book_note noteP optC
  cases lookL b.more_ p with
  | none => rfl
  | some o =>
    simp only [tally_book_note_j7, cond_true, least1_eq, Option.bind_some]
    rfl
/-- what a list of entries says of potentials -/
def PotP (m : LP) (q : Nat → Int) : Prop := Pot (m.map entOf) q
theorem potP_iff {m : LP} {q : Nat → Int} : PotP m q ↔ ∀ e ∈ m, q e.1.to_.toNat ≤ q e.1.from_.toNat + e.2 := by
  unfold PotP Pot
  constructor
  · intro h e he; exact h (entOf e) (List.mem_map_of_mem he)
  · intro h e he
    obtain ⟨x, hx, rfl⟩ := List.mem_map.1 he
    exact h x hx
/-- there is an entry that says at least so much -/
def Has (m : LP) (p : Tally_pair) (n : Int) : Prop := ∃ v, v ≤ n ∧ (p, v) ∈ m
theorem put_cases (m : LP) (p : Tally_pair) (v : Int) : (∃ (i : Nat) (o : Int), m[i]? = some (p, o) ∧ lookL m p = some o ∧ putL m p v = m.set i (p, v)) ∨ (lookL m p = none ∧ putL m p v = m ++ [(p, v)]) := by
  unfold putL
  rw [find_look]
  cases h : (m.map (·.1)).findIdx? (· == p) with
  | none => exact .inr ⟨rfl, rfl⟩
  | some i =>
    obtain ⟨hi, hp⟩ := List.findIdx?_eq_some_iff_getElem.1 h
    have hi' : i < m.length := by simpa using hi
    have hp' : m[i].1 = p := by simpa using hp.1
    refine .inl ⟨i, m[i].2, ?_, ?_, rfl⟩
    · rw [List.getElem?_eq_getElem hi', ← hp']
    · simp [List.getElem?_eq_getElem hi']
theorem mem_set_iff {α : Type} {l : List α} {i : Nat} {a x : α} (hi : i < l.length) : x ∈ l.set i a ↔ x = a ∨ ∃ j, j ≠ i ∧ l[j]? = some x := by
  constructor
  · intro h
    obtain ⟨j, hj, rfl⟩ := List.getElem_of_mem h
    by_cases hji : j = i
    · subst hji; left; simp
    · right; refine ⟨j, hji, ?_⟩
      rw [List.getElem_set_ne (fun e => hji e.symm)]
      exact List.getElem?_eq_getElem _
  · rintro (rfl | ⟨j, hj, h⟩)
    · exact List.mem_set hi ..
    · refine List.mem_of_getElem? (i := j) ?_
      rw [List.getElem?_set_ne (fun e => hj e.symm)]
      exact h
structure NoteR (m m' : LP) (p : Tally_pair) (n : Int) : Prop where
  pot : ∀ q, PotP m' q ↔ PotP m q ∧ q p.to_.toNat ≤ q p.from_.toNat + n
  has : ∀ p' n', Has m p' n' → Has m' p' n'
  own : Has m' p n
  len : m'.length ≤ m.length + 1
  keys : ∀ e ∈ m', e.1 = p ∨ ∃ e' ∈ m, e.1 = e'.1
  vals : ∀ lo hi, lo ≤ n → n ≤ hi → (∀ e ∈ m, lo ≤ e.2 ∧ e.2 ≤ hi) → ∀ e ∈ m', lo ≤ e.2 ∧ e.2 ≤ hi
theorem note_R (m : LP) (p : Tally_pair) (n : Int) : NoteR m (noteP m p n) p n := by
  unfold noteP
  generalize hv : (match lookL m p with | some o => if o < n then o else n | none => n) = v
  rcases put_cases m p v with ⟨i, o, h1, h2, h3⟩ | ⟨h1, h2⟩
  · rw [h2] at hv
    simp only at hv
    have hi : i < m.length := (List.getElem?_eq_some_iff.1 h1).1
    have hvo : v ≤ o ∧ v ≤ n ∧ (v = o ∨ v = n) := by rw [← hv]; split <;> omega
    have hom := List.mem_of_getElem? h1
    rw [h3]
    refine ⟨fun q => ?_, fun p' n' h => ?_, ⟨v, hvo.2.1, (mem_set_iff hi).2 (.inl rfl)⟩, by simp, fun e he => ?_, fun lo hi' hlo hhi h e he => ?_⟩
    · rw [potP_iff, potP_iff]
      constructor
      · intro h
        have hp := h (p, v) ((mem_set_iff hi).2 (.inl rfl))
        simp only at hp
        refine ⟨fun e he => ?_, by omega⟩
        obtain ⟨j, hj, rfl⟩ := List.getElem_of_mem he
        by_cases hji : j = i
        · subst hji
          rw [List.getElem?_eq_getElem hj] at h1
          rw [Option.some.inj h1]
          simp only
          omega
        · exact h _ ((mem_set_iff hi).2 (.inr ⟨j, hji, List.getElem?_eq_getElem hj⟩))
      · rintro ⟨h, hn⟩ e he
        rcases (mem_set_iff hi).1 he with rfl | ⟨j, _, hj⟩
        · have := h (p, o) hom
          simp only at this ⊢
          rcases hvo.2.2 with e | e <;> rw [e] <;> assumption
        · exact h e (List.mem_of_getElem? hj)
    · obtain ⟨v', hv', hm⟩ := h
      obtain ⟨j, hj, hje⟩ := List.getElem_of_mem hm
      by_cases hji : j = i
      · subst hji
        rw [List.getElem?_eq_getElem hj, hje] at h1
        cases h1
        exact ⟨v, by omega, (mem_set_iff hi).2 (.inl rfl)⟩
      · exact ⟨v', hv', (mem_set_iff hi).2 (.inr ⟨j, hji, by rw [List.getElem?_eq_getElem hj, hje]⟩)⟩
    · rcases (mem_set_iff hi).1 he with rfl | ⟨j, _, hj⟩
      · exact .inl rfl
      · exact .inr ⟨e, List.mem_of_getElem? hj, rfl⟩
    · rcases (mem_set_iff hi).1 he with rfl | ⟨j, _, hj⟩
      · have := h (p, o) hom
        simp only at this ⊢
        omega
      · exact h e (List.mem_of_getElem? hj)
  · rw [h1] at hv
    simp only at hv
    subst hv
    rw [h2]
    refine ⟨fun q => ?_, fun p' n' ⟨v', hv', hm⟩ => ⟨v', hv', List.mem_append_left _ hm⟩, ⟨n, Int.le_refl _, List.mem_append_right _ (List.mem_singleton.2 rfl)⟩, by simp, fun e he => ?_, fun lo hi' hlo hhi h e he => ?_⟩
    · rw [potP_iff, potP_iff]
      constructor
      · intro h
        exact ⟨fun e he => h e (List.mem_append_left _ he), h _ (List.mem_append_right _ (List.mem_singleton.2 rfl))⟩
      · rintro ⟨h, hn⟩ e he
        rcases List.mem_append.1 he with he | he
        · exact h e he
        · rw [List.mem_singleton.1 he]; exact hn
    · rcases List.mem_append.1 he with he | he
      · exact .inr ⟨e, he, rfl⟩
      · exact .inl (by rw [List.mem_singleton.1 he])
    · rcases List.mem_append.1 he with he | he
      · exact h e he
      · rw [List.mem_singleton.1 he]; exact ⟨hlo, hhi⟩
/-- what is known of a list of entries over places 0 to t -/
structure Ok (t : Int) (m : LP) (n : Nat) : Prop where
  keys : ∀ e ∈ m, 0 ≤ e.1.from_ ∧ e.1.from_ ≤ t ∧ 0 ≤ e.1.to_ ∧ e.1.to_ ≤ t
  vals : ∀ e ∈ m, -10000 ≤ e.2 ∧ e.2 ≤ 10000
  len : m.length ≤ n
theorem Ok.note {t : Int} {m m' : LP} {k : Nat} {p : Tally_pair} {n : Int} (h : Ok t m k) (R : NoteR m m' p n) (hp : 0 ≤ p.from_ ∧ p.from_ ≤ t ∧ 0 ≤ p.to_ ∧ p.to_ ≤ t) (hn : -10000 ≤ n ∧ n ≤ 10000) : Ok t m' (k + 1) :=
  ⟨fun e he => by
    rcases R.keys e he with h1 | ⟨e', he', h1⟩
    · rw [h1]; exact hp
    · rw [h1]; exact h.keys e' he', R.vals _ _ hn.1 hn.2 h.vals, by have := R.len; have := h.len; omega⟩
/-- what every truth of a book keeps: it climbs, and by no more than the room -/
def Steps (t r : Int) (q : Nat → Int) : Prop := ∀ k : Nat, (k : Int) < t → q (k + 1) ≤ q k + r ∧ q k ≤ q (k + 1)
def CntQ (x : TallyCount) (q : Nat → Int) : Prop := leastV x ≤ q (x.To + 1).toNat - q x.From.toNat ∧ q (x.To + 1).toNat - q x.From.toNat ≤ mostV x
def CntsQ (l : List TallyCount) (out : TallyCount → Nat → Bool) (q : Nat → Int) : Prop := ∀ i x, l[i]? = some x → out x i = false → CntQ x q
def Fit (b : TallyBook) (out : TallyCount → Nat → Bool) (q : Nat → Int) : Prop := Steps b.Trips b.Room q ∧ CntsQ b.Counts out q
theorem opened_counts {b : TallyBook} (V : Bk b) {lv : Tally_leave} {out : TallyCount → Nat → Bool} (hlv : ∀ (i : Nat) x, b.Counts[i]? = some x → lv.out_ x (i : Int) = some (out x i)) {m0 : LP} {k0 : Nat} (h0 : Ok b.Trips m0 k0) :
    ∃ m, loopF (tally_opened_l4 b lv) big (0, m0) = some ⟨b, m⟩ ∧ Ok b.Trips m (k0 + 2 * b.Counts.length) ∧ (∀ p n, Has m0 p n → Has m p n) ∧ ∀ q, PotP m q ↔ PotP m0 q ∧ CntsQ b.Counts out q := by
  have hl := V.l9
  refine Exists.elim (loopF_inv (body := tally_opened_l4 b lv) (fun s : Int × LP => ∃ i : Nat, s.1 = i ∧ i ≤ b.Counts.length ∧ Ok b.Trips s.2 (k0 + 2 * i) ∧ (∀ p n, Has m0 p n → Has s.2 p n) ∧ ∀ q, PotP s.2 q ↔ PotP m0 q ∧ ∀ j x, j < i → b.Counts[j]? = some x → out x j = false → CntQ x q)
    (fun s => b.Counts.length - s.1.toNat) (fun r => ∃ m, r = ⟨b, m⟩ ∧ Ok b.Trips m (k0 + 2 * b.Counts.length) ∧ (∀ p n, Has m0 p n → Has m p n) ∧ ∀ q, PotP m q ↔ PotP m0 q ∧ CntsQ b.Counts out q) ?_ big (0, m0) ⟨0, rfl, Nat.zero_le _, by simpa using h0, fun _ _ h => h, fun q => by simp⟩ (by unfold big; simp; omega)) fun r ⟨hr, m, hre, hm⟩ => ⟨m, by rw [hr, hre], hm⟩
  · rintro rec ⟨i', m⟩ ⟨i, rfl, hi, hok, hhas, hpot⟩ ih
    simp only at hok hhas hpot ih ⊢
    unfold tally_opened_l4
    simp only
    by_cases hlt : i < b.Counts.length
    · rw [decide_eq_true (by omega), cond_true, getI_nat, List.getElem?_eq_getElem hlt, Option.bind_some]
      have hx : b.Counts[i]? = some b.Counts[i] := List.getElem?_eq_getElem hlt
      generalize b.Counts[i] = x at hx
      have hc := cnt_iff.1 (V.cs x (List.mem_of_getElem? hx))
      have hb := hc.bnds
      rw [hlv i x hx, Option.bind_some]
      have hw : Fx.wr ((i : Int) + 1) = ((i + 1 : Nat) : Int) := by rw [wrI (by omega) (by omega)]; omega
      have split_ : ∀ {Q : Nat → TallyCount → Prop}, (∀ j y, j < i + 1 → b.Counts[j]? = some y → Q j y) ↔ (∀ j y, j < i → b.Counts[j]? = some y → Q j y) ∧ Q i x := by
        intro Q
        constructor
        · intro h; exact ⟨fun j y hj => h j y (by omega), h i x (by omega) hx⟩
        · rintro ⟨h1, h2⟩ j y hj hy
          by_cases hji : j = i
          · subst hji; rw [hx] at hy; cases hy; exact h2
          · exact h1 j y (by omega) hy
      cases ho : out x i with
      | true =>
        rw [cond_true, hw]
        refine ih _ ⟨i + 1, rfl, by omega, ⟨hok.keys, hok.vals, by have := hok.len; simp only; omega⟩, hhas, fun q => ?_⟩ (by simp; omega)
        rw [hpot, split_ (Q := fun j y => out y j = false → CntQ y q)]
        simp [ho]
      | false =>
        have ht := hc.tT; have hf := hc.f0; have hft := hc.ft
        have hw1 : Fx.wr (x.To + 1) = x.To + 1 := by have := V.t8; exact wrI (by omega) (by omega)
        rw [cond_false, most_eq hc, Option.bind_some, note_eq, Option.bind_some, least_eq hc, Option.bind_some, note_eq, Option.bind_some, hw, hw1, wrI (x := -leastV x) (by omega) (by omega)]
        simp only
        have R1 := note_R m ⟨x.From, x.To + 1⟩ (mostV x)
        have R2 := note_R (noteP m ⟨x.From, x.To + 1⟩ (mostV x)) ⟨x.To + 1, x.From⟩ (-leastV x)
        refine ih _ ⟨i + 1, rfl, by omega, ?_, fun p n h => R2.has p n (R1.has p n (hhas p n h)), fun q => ?_⟩ (by simp; omega)
        · have := (hok.note R1 (by simp only; omega) (by omega)).note R2 (by simp only; omega) (by omega)
          exact ⟨this.keys, this.vals, by have := this.len; simp only; omega⟩
        · rw [R2.pot, R1.pot, hpot, split_ (Q := fun j y => out y j = false → CntQ y q)]
          simp only [ho, CntQ, forall_const]
          constructor
          · rintro ⟨⟨⟨h1, h2⟩, h3⟩, h4⟩; exact ⟨h1, h2, by omega, by omega⟩
          · rintro ⟨h1, h2, h3, h4⟩; exact ⟨⟨⟨h1, h2⟩, by omega⟩, by omega⟩
    · rw [decide_eq_false (by omega), cond_false]
      have he : i = b.Counts.length := by omega
      subst he
      refine ⟨_, rfl, m, rfl, hok, hhas, fun q => ?_⟩
      rw [hpot]
      refine and_congr_right fun _ => ?_
      constructor
      · intro h j x hx; exact h j x (List.getElem?_eq_some_iff.1 hx).1 hx
      · intro h j x _ hx; exact h j x hx
theorem opened_eq {b : TallyBook} (V : Bk b) {lv : Tally_leave} {out : TallyCount → Nat → Bool} (hlv : ∀ (i : Nat) x, b.Counts[i]? = some x → lv.out_ x (i : Int) = some (out x i)) :
    ∃ m, tally_opened b lv = some ⟨b, m⟩ ∧ Ok b.Trips m 34 ∧ (∀ k : Nat, (k : Int) < b.Trips → Has m ⟨k, k + 1⟩ b.Room ∧ Has m ⟨k + 1, k⟩ 0) ∧ ∀ q, PotP m q ↔ Fit b out q := by
  have t8 := V.t8; have t1 := V.t1; have r0 := V.r0; have r60 := V.r60; have l8 := V.l9
  unfold tally_opened
  refine Exists.elim (loopF_inv (body := tally_opened_l5 b lv) (fun s : Int × LP => ∃ i : Nat, s.1 = i ∧ (i : Int) ≤ b.Trips ∧ Ok b.Trips s.2 (2 * i) ∧ (∀ k : Nat, k < i → Has s.2 ⟨k, k + 1⟩ b.Room ∧ Has s.2 ⟨k + 1, k⟩ 0) ∧ ∀ q, PotP s.2 q ↔ ∀ k : Nat, k < i → q (k + 1) ≤ q k + b.Room ∧ q k ≤ q (k + 1))
    (fun s => b.Trips.toNat - s.1.toNat) (fun r => ∃ m, r = ⟨b, m⟩ ∧ Ok b.Trips m 34 ∧ (∀ k : Nat, (k : Int) < b.Trips → Has m ⟨k, k + 1⟩ b.Room ∧ Has m ⟨k + 1, k⟩ 0) ∧ ∀ q, PotP m q ↔ Fit b out q) ?_ big (0, ([] : LP))
      ⟨0, rfl, by omega, ⟨fun e he => (List.not_mem_nil he).elim, fun e he => (List.not_mem_nil he).elim, Nat.zero_le _⟩, fun k hk => absurd hk (Nat.not_lt_zero k), fun q => by simp [potP_iff]⟩ (by unfold big; simp; omega)) fun r ⟨hr, m, hre, hm⟩ => ⟨m, by rw [hr, hre], hm⟩
  rintro rec ⟨i', m⟩ ⟨i, rfl, hi, hok, hhas, hpot⟩ ih
  simp only at hi hok hhas hpot ih ⊢
  unfold tally_opened_l5
  simp only
  by_cases hlt : (i : Int) < b.Trips
  · have hw : Fx.wr ((i : Int) + 1) = (i : Int) + 1 := wrI (by omega) (by omega)
    rw [decide_eq_true hlt, cond_true, note_eq, Option.bind_some, note_eq, Option.bind_some, hw]
    simp only
    have R1 := note_R m ⟨(i : Int), (i : Int) + 1⟩ b.Room
    have R2 := note_R (noteP m ⟨(i : Int), (i : Int) + 1⟩ b.Room) ⟨(i : Int) + 1, (i : Int)⟩ 0
    refine ih _ ⟨i + 1, by simp, by omega, ?_, fun k hk => ?_, fun q => ?_⟩ (by simp; omega)
    · have := (hok.note R1 (by simp only; omega) (by omega)).note R2 (by simp only; omega) (by omega)
      exact ⟨this.keys, this.vals, by have := this.len; simp only; omega⟩
    · by_cases hki : k = i
      · subst hki; exact ⟨R2.has _ _ R1.own, R2.own⟩
      · have := hhas k (by omega)
        exact ⟨R2.has _ _ (R1.has _ _ this.1), R2.has _ _ (R1.has _ _ this.2)⟩
    · rw [R2.pot, R1.pot, hpot]
      simp only [show ((i : Int) + 1).toNat = i + 1 by omega, Int.toNat_natCast]
      constructor
      · rintro ⟨⟨h1, h2⟩, h3⟩ k hk
        by_cases hki : k = i
        · subst hki; exact ⟨h2, by omega⟩
        · exact h1 k (by omega)
      · intro h
        have := h i (by omega)
        exact ⟨⟨fun k hk => h k (by omega), this.1⟩, by omega⟩
  · have he : (i : Int) = b.Trips := by omega
    rw [decide_eq_false hlt, cond_false]
    obtain ⟨m', h1, h2, h3, h4⟩ := opened_counts V hlv hok
    refine ⟨_, h1, m', rfl, ⟨h2.keys, h2.vals, by have := h2.len; omega⟩, fun k hk => ?_, fun q => ?_⟩
    · have := hhas k (by omega)
      exact ⟨h3 _ _ this.1, h3 _ _ this.2⟩
    · rw [h4, hpot]
      unfold Fit Steps
      refine and_congr_left fun _ => ?_
      constructor
      · intro h k hk; exact h k (by omega)
      · intro h k hk; exact h k (by omega)
/-- a list of entries that says just what a book says -/
structure Opn (b : TallyBook) (out : TallyCount → Nat → Bool) (m : LP) : Prop where
  val : Bk b
  ok : Ok b.Trips m 34
  has : ∀ k : Nat, (k : Int) < b.Trips → Has m ⟨k, k + 1⟩ b.Room ∧ Has m ⟨k + 1, k⟩ 0
  pot : ∀ q, PotP m q ↔ Fit b out q
theorem Opn.vd {b : TallyBook} {out : TallyCount → Nat → Bool} {m : LP} (h : Opn b out m) {s : Int} (h0 : 0 ≤ s) (h1 : s ≤ b.Trips) : Vd b.Trips s (m.map entOf) := by
  have := h.val.t1; have := h.val.t8; have := h.val.r60
  refine ⟨by omega, by omega, h0, h1, fun e he => ?_, fun e he => ?_, by have := h.ok.len; simp; omega, fun k hk => ?_, fun k hk => ?_⟩
  · obtain ⟨x, hx, rfl⟩ := List.mem_map.1 he; exact h.ok.keys x hx
  · obtain ⟨x, hx, rfl⟩ := List.mem_map.1 he; exact h.ok.vals x hx
  · obtain ⟨v, hv, hm⟩ := (h.has k hk).1
    exact ⟨v, by omega, List.mem_map.2 ⟨_, hm, rfl⟩⟩
  · obtain ⟨v, hv, hm⟩ := (h.has k hk).2
    exact ⟨v, hv, List.mem_map.2 ⟨_, hm, rfl⟩⟩
/-- what the rounds find from a place on -/
theorem from_eq {b : TallyBook} {out : TallyCount → Nat → Bool} {m : LP} (h : Opn b out m) {s : Int} (h0 : 0 ≤ s) (h1 : s ≤ b.Trips) (l : List TallyCount) :
    ∃ o r, tally_from ⟨⟨b.Trips, b.Room, l⟩, m⟩ s = some (o, r) ∧ ((r = false ∧ o = zeros ∧ ¬ ∃ q, Fit b out q) ∨ (r = true ∧ Mx b.Trips s (m.map entOf) o)) := by
  have V := h.vd h0 h1
  have t1 := h.val.t1
  refine ⟨(fromD b.Trips s (m.map entOf)).1, (fromD b.Trips s (m.map entOf)).2, ?_, ?_⟩
  · unfold tally_from
    rw [vdB_iff.2 V, decide_eq_true t1]
    rfl
  · rcases from_pot V (fromD_R b.Trips s (m.map entOf)) with ⟨e1, e2, e3⟩ | ⟨e1, e2⟩
    · exact .inl ⟨e1, e2, fun ⟨q, hq⟩ => e3 ⟨q, (h.pot q).2 hq⟩⟩
    · exact .inr ⟨e1, e2⟩
theorem can_eq {b : TallyBook} {out : TallyCount → Nat → Bool} {m : LP} (h : Opn b out m) (l : List TallyCount) : ∃ r, tally_book_can ⟨⟨b.Trips, b.Room, l⟩, m⟩ = some r ∧ (r = true ↔ ∃ q, Fit b out q) := by
  have := h.val.t1
  obtain ⟨o, r, e, hr⟩ := from_eq h (s := 0) (by omega) (by omega) l
  refine ⟨r, by unfold tally_book_can; rw [e]; rfl, ?_⟩
  rcases hr with ⟨rfl, _, hn⟩ | ⟨rfl, hm⟩
  · simp [hn]
  · simp only [true_iff]; exact ⟨_, (h.pot _).1 hm.pot⟩
/-- both ends of a difference over all truths, both taken -/
structure Spn (F : (Nat → Int) → Prop) (a c : Nat) (lo hi : Int) : Prop where
  loE : ∃ q, F q ∧ q c - q a = lo
  hiE : ∃ q, F q ∧ q c - q a = hi
  all : ∀ q, F q → lo ≤ q c - q a ∧ q c - q a ≤ hi
theorem mx_bnd {t s : Int} {ml : List Ent} {o : List Int} (V : Vd t s ml) (M : Mx t s ml o) (v : Nat) : -480 ≤ o.getD v 0 ∧ o.getD v 0 ≤ 480 := by
  have := V.t0; have := V.t8; have := V.s0; have := V.st
  by_cases hv : (v : Int) ≤ t
  · have h1 := pot_bnd V M.pot hv
    have hz := M.zero
    have h2 := pot_up V M.pot
    by_cases hs : v ≤ s.toNat
    · have := h2 (s.toNat - v) v (by omega)
      rw [show v + (s.toNat - v) = s.toNat by omega] at this
      omega
    · have := h2 (v - s.toNat) s.toNat (by omega)
      rw [show s.toNat + (v - s.toNat) = v by omega] at this
      omega
  · rw [M.out v (by omega)]; omega
theorem Fit.shift {b : TallyBook} {out : TallyCount → Nat → Bool} {q : Nat → Int} (h : Fit b out q) (c : Int) : Fit b out (fun v => q v - c) := by
  refine ⟨fun k hk => ?_, fun i x hx ho => ?_⟩
  · have := h.1 k hk; show q _ - c ≤ q _ - c + _ ∧ q _ - c ≤ q _ - c; omega
  · have := h.2 i x hx ho; unfold CntQ at *; show _ ≤ q _ - c - (q _ - c) ∧ q _ - c - (q _ - c) ≤ _; omega
theorem many_eq {b : TallyBook} {out : TallyCount → Nat → Bool} {m : LP} (h : Opn b out m) (ht : ∃ q, Fit b out q) {a c : Int} (a0 : 0 ≤ a) (at_ : a ≤ b.Trips) (c0 : 0 ≤ c) (ct : c ≤ b.Trips) (l : List TallyCount) :
    ∃ lo hi, tally_book_many ⟨⟨b.Trips, b.Room, l⟩, m⟩ a c = some ⟨lo, hi⟩ ∧ Spn (Fit b out) a.toNat c.toNat lo hi := by
  have t1 := h.val.t1; have t8 := h.val.t8
  obtain ⟨up, r1, e1, h1⟩ := from_eq h a0 at_ l
  obtain ⟨dn, r2, e2, h2⟩ := from_eq h c0 ct l
  rcases h1 with ⟨_, _, hn⟩ | ⟨_, M1⟩
  · exact absurd ht hn
  rcases h2 with ⟨_, _, hn⟩ | ⟨_, M2⟩
  · exact absurd ht hn
  have V1 := h.vd a0 at_
  have V2 := h.vd c0 ct
  have b1 := mx_bnd V1 M1 c.toNat
  have b2 := mx_bnd V2 M2 a.toNat
  have S : Spn (Fit b out) a.toNat c.toNat (-(dn.getD a.toNat 0)) (up.getD c.toNat 0) := by
    refine ⟨⟨_, (h.pot _).1 M2.pot, ?_⟩, ⟨_, (h.pot _).1 M1.pot, ?_⟩, fun q hq => ?_⟩
    · have := M2.zero; show dn.getD c.toNat 0 - dn.getD a.toNat 0 = _; omega
    · have := M1.zero; show up.getD c.toNat 0 - up.getD a.toNat 0 = _; omega
    · have h1 := M1.max q ((h.pot q).2 hq) c.toNat (by omega)
      have h2 := M2.max q ((h.pot q).2 hq) a.toNat (by omega)
      omega
  have fin : tally_book_many_j1 a c (dn, r2) (up, r1) () = some ⟨-(dn.getD a.toNat 0), up.getD c.toNat 0⟩ := by
    unfold tally_book_many_j1 aget
    rw [need_of (by simp [inI]; omega), need_of (by simp [inI]; omega), wrI (by simp only; omega) (by simp only; omega)]
  refine ⟨_, _, ?_, S⟩
  unfold tally_book_many
  rw [e1, Option.bind_some, e2, Option.bind_some]
  unfold tally_none
  simp only [Option.bind_some]
  cases hd : decide (sgl dn 9 = sgl (List.replicate 9 0) 9)
  · rw [cond_false]; exact fin
  · rw [cond_true]
    cases hu : decide (sgl up 9 = sgl (List.replicate 9 0) 9)
    · rw [cond_false]; exact fin
    · rw [cond_true]
      have hd := of_decide_eq_true hd
      have hu := of_decide_eq_true hu
      rw [sgl_eq M2.len, sgl_eq (by simp)] at hd
      rw [sgl_eq M1.len, sgl_eq (by simp)] at hu
      have z : ∀ v, (List.replicate 9 (0 : Int)).getD v 0 = 0 := fun v => by
        rw [List.getD_eq_getElem?_getD, List.getElem?_replicate]; split <;> rfl
      rw [hd, hu, z, z]; rfl
end Go.Proofs.YtplpalmabgjibaaDoor

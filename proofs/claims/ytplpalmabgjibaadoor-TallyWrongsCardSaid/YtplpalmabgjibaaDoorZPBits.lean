/- Plain facts: sets as numbers, lists that climb, and which list comes before another one. -/
import Derived.Test.YtplpalmabgjibaaDoorZPSame
import Derived.Test.YtplpalmabgjibaaDoorZPTallyWhose
import Derived.Test.YtplpalmabgjibaaDoorZPTallyWrong
set_option linter.unusedVariables false
set_option linter.unusedSimpArgs false
namespace Go.Proofs.YtplpalmabgjibaaDoor
open Go Go.Fx Go.Tally
theorem shr_nat (s k : Nat) (hk : k < 64) : shrI (s : Int) (k : Int) = ((s / 2 ^ k : Nat) : Int) := by
  unfold shrI
  rw [show min ((k : Int).toNat) 64 = k by simp; omega, Int.fdiv_eq_ediv_of_nonneg _ (by exact_mod_cast Int.natCast_nonneg (2 ^ k))]
  simp
theorem and1_nat (m : Nat) : andI (m : Int) 1 = ((m % 2 : Nat) : Int) := by
  unfold andI
  have h1 : BitVec.ofInt 64 (m : Int) = BitVec.ofNat 64 m := BitVec.ofInt_natCast 64 m
  have h2 : BitVec.ofInt 64 1 = BitVec.ofNat 64 1 := rfl
  rw [h1, h2, BitVec.toNat_and]
  simp only [BitVec.toNat_ofNat]
  have : m % 2 ^ 64 &&& 1 % 2 ^ 64 = m % 2 := by
    rw [show 1 % 2 ^ 64 = 1 by decide, Nat.and_one_is_mod]; omega
  rw [this, wrI (by omega) (by omega)]
theorem member_nat (s k : Nat) (hk : k < 64) : B_Member (s : Int) (k : Int) = some (s.testBit k) := by
  unfold B_Member
  rw [need_of (by simp), shr_nat s k hk, and1_nat, Nat.testBit_eq_decide_div_mod_eq]
  congr 1
  rw [Bool.eq_iff_iff]
  simp only [beq_iff_eq, decide_eq_true_eq]
  omega
theorem shl1_nat (k : Nat) (hk : k < 32) : shlI 1 (k : Int) = ((2 ^ k : Nat) : Int) := by
  unfold shlI
  rw [show min ((k : Int).toNat) 64 = k by simp; omega]
  have h1 : 2 ^ k ≤ 2 ^ 32 := Nat.pow_le_pow_right (by omega) (by omega)
  have h2 : (1 : Int) * 2 ^ k = ((2 ^ k : Nat) : Int) := by simp
  rw [h2]
  generalize 2 ^ k = m at h1
  exact wrI (by omega) (by omega)
theorem or_nat (s t : Nat) (hs : s < 2 ^ 32) (ht : t < 2 ^ 32) : orI (s : Int) (t : Int) = ((s ||| t : Nat) : Int) := by
  unfold orI
  have h1 : BitVec.ofInt 64 (s : Int) = BitVec.ofNat 64 s := BitVec.ofInt_natCast 64 s
  have h2 : BitVec.ofInt 64 (t : Int) = BitVec.ofNat 64 t := BitVec.ofInt_natCast 64 t
  have h3 : s ||| t < 2 ^ 32 := Nat.or_lt_two_pow hs ht
  rw [h1, h2, BitVec.toNat_or, BitVec.toNat_ofNat, BitVec.toNat_ofNat, Nat.mod_eq_of_lt (by omega), Nat.mod_eq_of_lt (by omega), wrI (by omega) (by omega)]
/-- the members of a set, below n -/
def memL (s n : Nat) : List Int := ((List.range n).filter fun k => s.testBit k).map Int.ofNat
theorem memL_succ (s n : Nat) : memL s (n + 1) = memL s n ++ (if s.testBit n = true then [(n : Int)] else []) := by
  unfold memL
  rw [List.range_succ, List.filter_append, List.map_append]
  congr 1
  by_cases h : s.testBit n = true <;> simp [h]
theorem mem_memL {s n : Nat} {x : Int} : x ∈ memL s n ↔ ∃ k : Nat, x = k ∧ k < n ∧ s.testBit k = true := by
  unfold memL
  rw [List.mem_map]
  constructor
  · rintro ⟨k, hk, rfl⟩
    obtain ⟨h1, h2⟩ := List.mem_filter.1 hk
    exact ⟨k, rfl, List.mem_range.1 h1, h2⟩
  · rintro ⟨k, rfl, h1, h2⟩
    exact ⟨k, List.mem_filter.2 ⟨List.mem_range.2 h1, h2⟩, rfl⟩
theorem memL_len (s n : Nat) : (memL s n).length ≤ n := by
  unfold memL
  rw [List.length_map]
  have := List.length_filter_le (fun k => s.testBit k) (List.range n)
  simpa using this
theorem members_nat (s : Nat) {n : Nat} (hn : n ≤ 32) : B_Members (s : Int) (n : Int) = some (memL s n) := by
  unfold B_Members
  refine Exists.elim (loopF_inv (body := B_Members_l2 n s) (fun z : List Int × Int => ∃ k : Nat, k ≤ n ∧ z = (memL s k, (k : Int))) (fun z => n - z.2.toNat) (fun l => l = memL s n) ?_ big ([], 0) ⟨0, Nat.zero_le _, rfl⟩ (by unfold big; simp; omega)) fun r ⟨h1, h2⟩ => by rw [h1, h2]
  rintro rec z ⟨k, hk, rfl⟩ ih
  unfold B_Members_l2
  simp only
  by_cases hlt : k < n
  · rw [decide_eq_true (by omega), cond_true, member_nat s k (by omega), Option.bind_some, wrI (by omega) (by omega)]
    have hl := memL_len s k
    cases hb : s.testBit k
    · rw [cond_false]
      exact ih _ ⟨k + 1, by omega, by rw [memL_succ, hb]; simp⟩ (by (try simp); omega)
    · rw [cond_true, need_of (fits_small (by simp; omega) (by omega))]
      exact ih _ ⟨k + 1, by omega, by rw [memL_succ, hb]; simp⟩ (by (try simp); omega)
  · rw [decide_eq_false (by omega), cond_false]
    have : k = n := by omega
    subst this
    exact ⟨_, rfl, rfl⟩
theorem Clm.pair {l : List Int} {n : Int} (h : Clm l n) : l.Pairwise (· < ·) := by
  rw [List.pairwise_iff_getElem]
  intro i j hi hj hij
  refine h.lt (j - i - 1) i _ _ (List.getElem?_eq_getElem hi) ?_
  rw [show i + (j - i - 1) + 1 = j by omega]
  exact List.getElem?_eq_getElem hj
theorem pair_clm {l : List Int} {n : Int} (h : l.Pairwise (· < ·)) (hb : ∀ x ∈ l, 0 ≤ x ∧ x < n) : Clm l n := by
  intro k x hx
  have := hb x (List.mem_of_getElem? hx)
  refine ⟨this.1, this.2, fun y h0 hy => ?_⟩
  obtain ⟨h1, rfl⟩ := List.getElem?_eq_some_iff.1 hx
  obtain ⟨h2, rfl⟩ := List.getElem?_eq_some_iff.1 hy
  exact List.pairwise_iff_getElem.1 h (k - 1) k h2 h1 (by omega)
theorem pair_ext : ∀ {a b : List Int}, a.Pairwise (· < ·) → b.Pairwise (· < ·) → (∀ x, x ∈ a ↔ x ∈ b) → a = b
  | [], [], _, _, _ => rfl
  | [], y :: b, _, _, h => absurd ((h y).2 (List.mem_cons_self ..)) (List.not_mem_nil)
  | x :: a, [], _, _, h => absurd ((h x).1 (List.mem_cons_self ..)) (List.not_mem_nil)
  | x :: a, y :: b, ha, hb, h => by
    rw [List.pairwise_cons] at ha hb
    have e : x = y := by
      rcases List.mem_cons.1 ((h x).1 (List.mem_cons_self ..)) with h1 | h1
      · exact h1
      · rcases List.mem_cons.1 ((h y).2 (List.mem_cons_self ..)) with h2 | h2
        · exact h2.symm
        · have := ha.1 y h2; have := hb.1 x h1; omega
    subst e
    congr 1
    refine pair_ext ha.2 hb.2 fun z => ?_
    constructor
    · intro hz
      rcases List.mem_cons.1 ((h z).1 (List.mem_cons_of_mem _ hz)) with h1 | h1
      · have := ha.1 z hz; omega
      · exact h1
    · intro hz
      rcases List.mem_cons.1 ((h z).2 (List.mem_cons_of_mem _ hz)) with h1 | h1
      · have := hb.1 z hz; omega
      · exact h1
theorem range_pair (n : Nat) : (List.range n).Pairwise (· < ·) := List.pairwise_lt_range
theorem memL_clm (s n : Nat) : Clm (memL s n) n := by
  refine pair_clm ?_ fun x hx => ?_
  · unfold memL
    rw [List.pairwise_map]
    exact ((range_pair n).sublist List.filter_sublist).imp fun {a b} h => by show (a : Int) < (b : Int); omega
  · obtain ⟨k, rfl, h, _⟩ := mem_memL.1 hx
    omega
/-- the set of a list -/
def setL : List Int → Nat
  | [] => 0
  | x :: l => 2 ^ x.toNat ||| setL l
theorem setL_bit : ∀ {l : List Int} {k : Nat}, (∀ x ∈ l, 0 ≤ x) → ((setL l).testBit k = true ↔ (k : Int) ∈ l)
  | [], k, _ => by simp [setL]
  | x :: l, k, h => by
    have h0 := h x (List.mem_cons_self ..)
    rw [setL, Nat.testBit_or, Bool.or_eq_true, setL_bit fun y hy => h y (List.mem_cons_of_mem _ hy), List.mem_cons, Nat.testBit_two_pow]
    simp only [decide_eq_true_eq]
    constructor
    · rintro (h1 | h1)
      · left; omega
      · exact .inr h1
    · rintro (h1 | h1)
      · left; omega
      · exact .inr h1
theorem setL_lt : ∀ {l : List Int} {n : Nat}, (∀ x ∈ l, 0 ≤ x ∧ x < n) → setL l < 2 ^ n
  | [], n, _ => by rw [setL]; exact Nat.two_pow_pos n
  | x :: l, n, h => by
    have h0 := h x (List.mem_cons_self ..)
    exact Nat.or_lt_two_pow (Nat.pow_lt_pow_right (by omega) (by omega)) (setL_lt fun y hy => h y (List.mem_cons_of_mem _ hy))
theorem clm_set {o : List Int} {n : Nat} (h : Clm o n) : ∃ s, s < 2 ^ n ∧ memL s n = o := by
  have hb : ∀ x ∈ o, 0 ≤ x ∧ x < (n : Int) := fun x hx => by
    obtain ⟨k, hk, rfl⟩ := List.getElem_of_mem hx
    have := h k _ (List.getElem?_eq_getElem hk)
    exact ⟨this.1, this.2.1⟩
  refine ⟨setL o, setL_lt hb, pair_ext (memL_clm _ _).pair h.pair fun x => ?_⟩
  rw [mem_memL]
  constructor
  · rintro ⟨k, rfl, _, hk⟩; exact (setL_bit fun y hy => (hb y hy).1).1 hk
  · intro hx
    have := hb x hx
    refine ⟨x.toNat, by omega, by omega, (setL_bit fun y hy => (hb y hy).1).2 ?_⟩
    rwa [show ((x.toNat : Nat) : Int) = x by omega]
/-! which list comes first -/
def Btr (o w : List Int) : Prop := o.length < w.length ∨ (o.length = w.length ∧ LexLt o w)
theorem LexLt.trans {a b c : List Int} (h : LexLt a b) (k : LexLt b c) : LexLt a c := by
  obtain ⟨i, x, y, h1, h2, h3, h4⟩ := h
  obtain ⟨j, u, v, k1, k2, k3, k4⟩ := k
  rcases Nat.lt_trichotomy i j with e | e | e
  · exact ⟨i, x, y, h1, by rw [← k4 i e]; exact h2, h3, fun m hm => by rw [h4 m hm, k4 m (by omega)]⟩
  · subst e
    rw [h2] at k1; have := Option.some.inj k1
    exact ⟨i, x, v, h1, k2, by omega, fun m hm => by rw [h4 m hm, k4 m hm]⟩
  · exact ⟨j, u, v, by rw [h4 j e]; exact k1, k2, k3, fun m hm => by rw [h4 m (by omega), k4 m hm]⟩
theorem LexLt.irr {a : List Int} (h : LexLt a a) : False := by
  obtain ⟨i, x, y, h1, h2, h3, _⟩ := h
  rw [h1] at h2; have := Option.some.inj h2; omega
theorem Btr.trans {a b c : List Int} (h : Btr a b) (k : Btr b c) : Btr a c := by
  rcases h with h | ⟨h, h'⟩ <;> rcases k with k | ⟨k, k'⟩
  · exact .inl (by omega)
  · exact .inl (by omega)
  · exact .inl (by omega)
  · exact .inr ⟨by omega, h'.trans k'⟩
theorem lex_total : ∀ {o w : List Int}, o.length = w.length → o = w ∨ LexLt o w ∨ LexLt w o
  | [], [], _ => .inl rfl
  | [], _ :: _, h => by simp at h
  | _ :: _, [], h => by simp at h
  | x :: o, y :: w, h => by
    rcases Int.lt_trichotomy x y with e | e | e
    · exact .inr (.inl ⟨0, x, y, rfl, rfl, e, fun j hj => absurd hj (Nat.not_lt_zero j)⟩)
    · subst e
      have up : ∀ {a b : List Int}, LexLt a b → LexLt (x :: a) (x :: b) := fun ⟨i, u, v, h1, h2, h3, h4⟩ => ⟨i + 1, u, v, by simpa using h1, by simpa using h2, h3, fun j hj => by
        cases j with
        | zero => rfl
        | succ j => simpa using h4 j (by omega)⟩
      rcases lex_total (o := o) (w := w) (by simpa using h) with h1 | h1 | h1
      · exact .inl (by rw [h1])
      · exact .inr (.inl (up h1))
      · exact .inr (.inr (up h1))
    · exact .inr (.inr ⟨0, y, x, rfl, rfl, e, fun j hj => absurd hj (Nat.not_lt_zero j)⟩)
theorem before_iff (o w : List Int) (h : o.length = w.length) (hl : o.length ≤ 1000) : ∃ r, B_Before o w = some r ∧ (r = true ↔ LexLt o w) := by
  unfold B_Before
  refine loopF_inv (body := B_Before_l2 w o) (fun z : Int => ∃ k : Nat, z = k ∧ k ≤ o.length ∧ ∀ j, j < k → o[j]? = w[j]?) (fun z => o.length - z.toNat) (fun r => r = true ↔ LexLt o w) ?_ big 0 ⟨0, rfl, Nat.zero_le _, fun j hj => absurd hj (Nat.not_lt_zero j)⟩ (by unfold big; simp; omega)
  rintro rec z ⟨k, rfl, hk, hj⟩ ih
  unfold B_Before_l2
  rw [show (if (w.length : Int) < (o.length : Int) then (w.length : Int) else (o.length : Int)) = (o.length : Int) by split <;> omega]
  by_cases hlt : k < o.length
  · rw [decide_eq_true (by omega), cond_true, getI_nat, getI_nat]
    have h1 := List.getElem?_eq_getElem hlt
    have h2 := List.getElem?_eq_getElem (show k < w.length by omega)
    generalize o[k] = x at h1
    generalize w[k]'(by omega) = y at h2
    rw [h1, h2]
    simp only [Option.bind_some]
    by_cases hxy : x = y
    · subst hxy
      rw [bne_self_eq_false, cond_false, wrI (by omega) (by omega)]
      refine ih _ ⟨k + 1, by simp, by omega, fun j hjk => ?_⟩ (by (try simp only); omega)
      by_cases hjk' : j = k
      · subst hjk'; rw [h1, h2]
      · exact hj j (by omega)
    · rw [show (x != y) = true by simpa using hxy, cond_true]
      refine ⟨_, rfl, ?_⟩
      rw [decide_eq_true_eq]
      constructor
      · intro hr; exact ⟨k, x, y, h1, h2, hr, hj⟩
      · rintro ⟨i, u, v, g1, g2, g3, g4⟩
        rcases Nat.lt_trichotomy i k with e | e | e
        · have := hj i e; rw [g1, g2] at this; have := Option.some.inj this; omega
        · subst e; rw [h1] at g1; rw [h2] at g2; have := Option.some.inj g1; have := Option.some.inj g2; omega
        · have := g4 k e; rw [h1, h2] at this; exact absurd (Option.some.inj this) hxy
  · rw [decide_eq_false (by omega), cond_false]
    refine ⟨_, rfl, ?_⟩
    rw [decide_eq_true_eq]
    constructor
    · intro hr; omega
    · rintro ⟨i, u, v, g1, g2, g3, _⟩
      have hi := (List.getElem?_eq_some_iff.1 g1).1
      have := hj i (by omega); rw [g1, g2] at this; have := Option.some.inj this; omega
theorem better_iff (o w : List Int) (h1 : o.length ≤ 1000) : ∃ r, B_Better o w = some r ∧ (r = true ↔ Btr o w) := by
  unfold B_Better Btr
  by_cases h : o.length < w.length
  · rw [decide_eq_true (by omega), cond_true]
    exact ⟨true, rfl, by simp [h]⟩
  · rw [decide_eq_false (by omega), cond_false]
    by_cases he : o.length = w.length
    · rw [show ((o.length : Int) == (w.length : Int)) = true by simp [he], cond_true]
      obtain ⟨r, hr, hi⟩ := before_iff o w he h1
      rw [hr, Option.bind_some]
      exact ⟨r, rfl, by rw [hi]; simp [h, he]⟩
    · rw [show ((o.length : Int) == (w.length : Int)) = false by simp; omega, cond_false]
      exact ⟨false, rfl, by simp [h, he]⟩
theorem Few.uniq {b : TallyBook} {w w' : List Int} (h : Few b w) (k : Few b w') : w = w' := by
  have e : w.length = w'.length := Nat.le_antisymm (h.len w' k.clm k.can) (k.len w h.clm h.can)
  rcases lex_total e with g | g | g
  · exact g
  · exact absurd g (k.lex w h.clm h.can e)
  · exact absurd g (h.lex w' k.clm k.can e.symm)
theorem Fit.congr {b : TallyBook} {o o' : TallyCount → Nat → Bool} (h : ∀ i x, b.Counts[i]? = some x → o x i = o' x i) {q : Nat → Int} : Fit b o q ↔ Fit b o' q :=
  ⟨fun k => k.weak fun i x hx ho => by rw [← h i x hx]; exact ho, fun k => k.weak fun i x hx ho => by rw [h i x hx]; exact ho⟩
end Go.Proofs.YtplpalmabgjibaaDoor

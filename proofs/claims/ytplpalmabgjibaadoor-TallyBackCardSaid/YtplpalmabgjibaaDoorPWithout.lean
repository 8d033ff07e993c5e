/- Plain facts: books without some of their counts, and lists that climb. -/
import Derived.Test.YtplpalmabgjibaaDoorPAgain
set_option linter.unusedVariables false
set_option linter.unusedSimpArgs false
namespace Go.Proofs.YtplpalmabgjibaaDoor
open Go Go.Fx Go.Tally
theorem mod_some (a m : Int) (h2 : m ≤ 9223372036854775807) : ∃ r, B_Mod a m = some r := by
  by_cases h : 0 < m
  · obtain ⟨r, hr, _⟩ := mod_ok a m h h2
    exact ⟨r, hr⟩
  · refine ⟨0, ?_⟩
    unfold B_Mod
    rw [decide_eq_true (by omega), cond_true]
/-- without the counts at the places that are listed -/
def outL (l : List Int) : TallyCount → Nat → Bool := fun _ i => decide ((i : Int) ∈ l)
def CanO (b : TallyBook) (l : List Int) : Prop := ∃ q, Fit b (outL l) q
theorem at_loop (l : List Int) (v : Int) (hl : l.length ≤ 9223372036854775807) : ∃ r, B_At l v = some r ∧ (0 ≤ r ↔ v ∈ l) ∧ (r < 0 ↔ v ∉ l) := by
  unfold B_At
  refine loopF_inv (body := B_At_l1 l v) (fun i : Int => ∃ k : Nat, i = k ∧ k ≤ l.length ∧ v ∉ l.take k) (fun i => l.length - i.toNat) (fun r => (0 ≤ r ↔ v ∈ l) ∧ (r < 0 ↔ v ∉ l)) ?_ big 0 ⟨0, rfl, Nat.zero_le _, by simp⟩ (by unfold big; simp; omega)
  rintro rec i ⟨k, rfl, hk, hn⟩ ih
  unfold B_At_l1
  by_cases hlt : k < l.length
  · rw [decide_eq_true (by omega), cond_true, getI_nat, List.getElem?_eq_getElem hlt, Option.bind_some]
    by_cases he : l[k] = v
    · rw [show (l[k] == v) = true by simpa using he, cond_true]
      have hm : v ∈ l := he ▸ List.getElem_mem hlt
      exact ⟨_, rfl, by simp [hm], by simp [hm]⟩
    · rw [show (l[k] == v) = false by simpa using he, cond_false, wrI (by omega) (by omega)]
      refine ih _ ⟨k + 1, by simp, hlt, ?_⟩ (by (try simp only); omega)
      rw [List.take_succ_eq_append_getElem hlt]
      simp only [List.mem_append, List.mem_singleton, not_or]
      exact ⟨hn, fun h => he h.symm⟩
  · rw [decide_eq_false (by omega), cond_false]
    have hm : v ∉ l := by rwa [List.take_of_length_le (by omega)] at hn
    exact ⟨-1, rfl, by simp [hm], by simp [hm]⟩
theorem cntsQ_no {l : List TallyCount} {q : Nat → Int} : CntsQ l no q ↔ ∀ x ∈ l, CntQ x q := by
  unfold CntsQ no
  constructor
  · intro h x hx
    obtain ⟨i, hi, rfl⟩ := List.getElem_of_mem hx
    exact h i _ (List.getElem?_eq_getElem hi) rfl
  · intro h i x hx _; exact h x (List.mem_of_getElem? hx)
theorem without_eq {b : TallyBook} (V : Val b) {l : List Int} (hl : l.length ≤ 9223372036854775807) : ∃ x, law_without b l = some x ∧ Val x ∧ ∀ q, Fit x no q ↔ Fit b (outL l) q := by
  have l8 := V.l8
  unfold law_without
  refine Exists.elim (loopF_inv (body := law_without_l2 b l) (fun z : Int × List TallyCount => ∃ i : Nat, z.1 = i ∧ i ≤ b.Counts.length ∧ z.2.length ≤ i ∧ ∀ x, x ∈ z.2 ↔ ∃ j : Nat, j < i ∧ b.Counts[j]? = some x ∧ (j : Int) ∉ l) (fun z => b.Counts.length - z.1.toNat)
    (fun x => ∃ m, x = ⟨b.Trips, b.Room, m⟩ ∧ m.length ≤ b.Counts.length ∧ ∀ x, x ∈ m ↔ ∃ j : Nat, b.Counts[j]? = some x ∧ (j : Int) ∉ l) ?_ big (0, []) ⟨0, rfl, Nat.zero_le _, by simp, by simp⟩ (by unfold big; simp; omega)) fun x ⟨hx, m, hm, h1, h2⟩ => ⟨x, hx, ?_, fun q => ?_⟩
  · rintro rec ⟨i', m⟩ ⟨i, rfl, hi, hml, hm⟩ ih
    simp only at hml hm ih ⊢
    unfold law_without_l2
    simp only
    by_cases hlt : i < b.Counts.length
    · rw [decide_eq_true (by omega), cond_true]
      obtain ⟨r, hr, hr0, hr1⟩ := at_loop l i hl
      rw [hr, Option.bind_some, wrI (by omega) (by omega)]
      have hx : b.Counts[i]? = some b.Counts[i] := List.getElem?_eq_getElem hlt
      by_cases hin : (i : Int) ∈ l
      · rw [decide_eq_false (show ¬ r < 0 from fun h => hr1.1 h hin), cond_false]
        refine ih _ ⟨i + 1, by simp, by omega, by simp only; omega, fun x => ?_⟩ (by (try simp); omega)
        rw [hm]
        constructor
        · rintro ⟨j, h1, h2⟩; exact ⟨j, by omega, h2⟩
        · rintro ⟨j, h1, h2, h3⟩
          by_cases hji : j = i
          · subst hji; exact absurd hin h3
          · exact ⟨j, by omega, h2, h3⟩
      · rw [decide_eq_true (hr1.2 hin), cond_true, getI_nat, hx, Option.bind_some, need_of (by simp [fitsL]; omega)]
        refine ih _ ⟨i + 1, by simp, by omega, by simp; omega, fun x => ?_⟩ (by (try simp); omega)
        rw [List.mem_append, hm, List.mem_singleton]
        constructor
        · rintro (⟨j, h1, h2⟩ | rfl)
          · exact ⟨j, by omega, h2⟩
          · exact ⟨i, by omega, hx, hin⟩
        · rintro ⟨j, h1, h2, h3⟩
          by_cases hji : j = i
          · subst hji; rw [hx] at h2; exact .inr (Option.some.inj h2).symm
          · exact .inl ⟨j, by omega, h2, h3⟩
    · rw [decide_eq_false (by omega), cond_false]
      refine ⟨_, rfl, m, rfl, by omega, fun x => ?_⟩
      rw [hm]
      constructor
      · rintro ⟨j, _, h⟩; exact ⟨j, h⟩
      · rintro ⟨j, h2, h3⟩; exact ⟨j, by have := (List.getElem?_eq_some_iff.1 h2).1; omega, h2, h3⟩
  · subst hm
    refine ⟨V.t1, V.t8, V.r0, V.r60, by simp only; omega, fun x hx => ?_⟩
    obtain ⟨j, hj, _⟩ := (h2 x).1 hx
    exact V.cs x (List.mem_of_getElem? hj)
  · subst hm
    unfold Fit
    rw [cntsQ_no]
    refine and_congr_right fun _ => ?_
    unfold CntsQ outL
    simp only
    constructor
    · intro h i x hx ho
      exact h x ((h2 x).2 ⟨i, hx, by simpa using ho⟩)
    · intro h x hx
      obtain ⟨j, hj, hn⟩ := (h2 x).1 hx
      exact h j x hj (by simpa using hn)
/-- a list that climbs, below n -/
def Clm (l : List Int) (n : Int) : Prop := ∀ (k : Nat) (x : Int), l[k]? = some x → 0 ≤ x ∧ x < n ∧ ∀ y, 0 < k → l[k - 1]? = some y → y < x
theorem climbs_eq {l : List Int} {n : Int} (h : Clm l n) (hl : l.length ≤ 9223372036854775807) (h0 : 0 ≤ n) (hn : n ≤ 1000000) : B_Climbs l n = some true := by
  unfold B_Climbs
  refine loopF_spec (body := B_Climbs_l1 l n) (fun i : Int => ∃ k : Nat, i = k ∧ k ≤ l.length) (fun i => l.length - i.toNat) (fun _ => true) ?_ big 0 ⟨0, rfl, Nat.zero_le _⟩ (by unfold big; simp; omega)
  rintro rec i ⟨k, rfl, hk⟩ ih
  unfold B_Climbs_l1
  by_cases hlt : k < l.length
  · rw [decide_eq_true (by omega), cond_true, getI_nat, List.getElem?_eq_getElem hlt]
    simp only [Option.bind_some]
    obtain ⟨a1, a2, a3⟩ := h k _ (List.getElem?_eq_getElem hlt)
    rw [inside_eq, Option.bind_some, wrI (x := n - 1) (by omega) (by omega), inB_iff.2 (by omega), Bool.not_true, cond_false, wrI (x := (k : Int) + 1) (by omega) (by omega)]
    have next : rec ((k : Int) + 1) = some true := ih _ ⟨k + 1, by simp, by omega⟩ (by (try simp only); omega)
    by_cases hk0 : 0 < k
    · rw [decide_eq_true (show (k : Int) > 0 by omega), cond_true, wrI (x := (k : Int) - 1) (by omega) (by omega), show (k : Int) - 1 = ((k - 1 : Nat) : Int) by omega, getI_nat, List.getElem?_eq_getElem (by omega), Option.bind_some]
      have := a3 _ hk0 (List.getElem?_eq_getElem (by omega))
      rw [decide_eq_false (by omega), cond_false, next]
    · rw [decide_eq_false (show ¬ (k : Int) > 0 by omega), cond_false, next]
  · rw [decide_eq_false (by omega), cond_false]
theorem Clm.nil {n : Int} : Clm [] n := fun k x h => by simp at h
theorem Clm.snoc {l : List Int} {n v : Int} (h : Clm l n) (h0 : 0 ≤ v) (h1 : v < n) (h2 : ∀ y, l.getLast? = some y → y < v) : Clm (l ++ [v]) n := by
  intro k x hx
  by_cases hk : k < l.length
  · rw [List.getElem?_append_left hk] at hx
    obtain ⟨a1, a2, a3⟩ := h k x hx
    refine ⟨a1, a2, fun y h0 hy => a3 y h0 ?_⟩
    rwa [List.getElem?_append_left (by omega)] at hy
  · rw [List.getElem?_append_right (by omega), List.getElem?_singleton] at hx
    split at hx
    · cases hx
      refine ⟨h0, h1, fun y hk0 hy => h2 y ?_⟩
      rw [List.getElem?_append_left (by omega)] at hy
      rw [List.getLast?_eq_getElem?, ← hy]
      congr 1; omega
    · cases hx
theorem Clm.lt {l : List Int} {n : Int} (h : Clm l n) : ∀ (d i : Nat) (x y : Int), l[i]? = some x → l[i + d + 1]? = some y → x < y := by
  intro d
  induction d with
  | zero => intro i x y hx hy; exact (h (i + 1) y hy).2.2 x (by omega) (by simpa using hx)
  | succ d ih =>
    intro i x y hx hy
    have hlt : i + d + 1 < l.length := by have := (List.getElem?_eq_some_iff.1 hy).1; omega
    have h1 := ih i x _ hx (List.getElem?_eq_getElem hlt)
    have h2 := (h (i + (d + 1) + 1) y hy).2.2 _ (by omega) (by rw [show i + (d + 1) + 1 - 1 = i + d + 1 by omega]; exact List.getElem?_eq_getElem hlt)
    omega
theorem Clm.len {l : List Int} {n : Int} (h : Clm l n) (h0 : 0 ≤ n) : (l.length : Int) ≤ n := by
  have : ∀ (k : Nat) (x : Int), l[k]? = some x → (k : Int) ≤ x := by
    intro k
    induction k with
    | zero => intro x hx; have := (h 0 x hx).1; omega
    | succ k ih =>
      intro x hx
      have hlt : k < l.length := by have := (List.getElem?_eq_some_iff.1 hx).1; omega
      have h1 := ih _ (List.getElem?_eq_getElem hlt)
      have h2 := h.lt 0 k _ x (List.getElem?_eq_getElem hlt) hx
      omega
  by_cases hl : l.length = 0
  · omega
  · have hlt : l.length - 1 < l.length := by omega
    have h1 := this _ _ (List.getElem?_eq_getElem hlt)
    have h2 := (h _ _ (List.getElem?_eq_getElem hlt)).2.1
    omega
end Go.Proofs.YtplpalmabgjibaaDoor

/- Plain facts: what truly crossed on each trip, and whether a book's counts are right of it. -/
import Derived.Test.YtplpalmabgjibaaDoorZPWithout
set_option linter.unusedVariables false
set_option linter.unusedSimpArgs false
namespace Go.Proofs.YtplpalmabgjibaaDoor
open Go Go.Fx Go.Tally
/-- how many crossed before the k-th place -/
def pre (u : List Int) (k : Nat) : Int := (u.take k).sum
theorem pre_succ {u : List Int} {k : Nat} {x : Int} (h : u[k]? = some x) : pre u (k + 1) = pre u k + x := by
  unfold pre
  obtain ⟨h1, rfl⟩ := List.getElem?_eq_some_iff.1 h
  rw [List.take_succ_eq_append_getElem h1, List.sum_append]
  simp
theorem pre_cut {u : List Int} {a c : Nat} (h : a ≤ c) : ((u.take c).drop a).sum = pre u c - pre u a := by
  unfold pre
  have := List.take_append_drop a (u.take c)
  have h2 := congrArg List.sum this
  rw [List.sum_append, List.take_take, Nat.min_eq_left h] at h2
  omega
theorem sum_bnd {l : List Int} (h : ∀ n ∈ l, 0 ≤ n ∧ n ≤ 60) : 0 ≤ l.sum ∧ l.sum ≤ 60 * l.length := by
  induction l with
  | nil => simp
  | cons x l ih =>
    have h1 := h x (List.mem_cons_self ..)
    have h2 := ih fun n hn => h n (List.mem_cons_of_mem _ hn)
    simp only [List.sum_cons, List.length_cons]
    omega
theorem sum_eq {l : List Int} (hl : l.length ≤ 8) (h : ∀ n ∈ l, 0 ≤ n ∧ n ≤ 60) : tally_sum l = some l.sum := by
  unfold tally_sum
  refine loopF_spec (body := tally_sum_l1 l) (fun z : Int × Int => ∃ k : Nat, z.2 = k ∧ k ≤ l.length ∧ z.1 = pre l k) (fun z => l.length - z.2.toNat) (fun _ => l.sum) ?_ big (0, 0) ⟨0, rfl, Nat.zero_le _, by simp [pre]⟩ (by unfold big; simp; omega)
  rintro rec ⟨s, i⟩ ⟨k, rfl, hk, rfl⟩ ih
  simp only at ih ⊢
  unfold tally_sum_l1
  simp only
  by_cases hlt : k < l.length
  · rw [decide_eq_true (by omega), cond_true, getI_nat, List.getElem?_eq_getElem hlt, Option.bind_some]
    have hx := List.getElem?_eq_getElem hlt
    generalize l[k] = x at hx
    have h1 := h x (List.mem_of_getElem? hx)
    have h2 := sum_bnd (l := l.take k) fun n hn => h n (List.mem_of_mem_take hn)
    have h3 : (l.take k).length ≤ 8 := by simp; omega
    rw [show (l.take k).sum = pre l k from rfl] at h2
    rw [wrI (x := pre l k + x) (by omega) (by omega), wrI (by omega) (by omega)]
    exact ih _ ⟨k + 1, by simp, by omega, (pre_succ hx).symm⟩ (by (try simp only); omega)
  · rw [decide_eq_false (by omega), cond_false]
    unfold pre
    rw [List.take_of_length_le (by omega)]
theorem sumOf_eq {l : List Int} (hl : l.length ≤ 8) (h : ∀ n ∈ l, 0 ≤ n ∧ n ≤ 60) : B_SumOf l = some l.sum := sum_eq hl h
theorem cutI_eq {α : Type} {l : List α} {a c : Int} (h0 : 0 ≤ a) (h1 : a ≤ c) (h2 : c ≤ l.length) : cutI l a c = some ((l.take c.toNat).drop a.toNat) := by
  unfold cutI
  simp [h0, h1, h2]
theorem mem_cut {α : Type} {l : List α} {a c : Nat} {x : α} (h : x ∈ (l.take c).drop a) : x ∈ l := List.mem_of_mem_take (List.mem_of_mem_drop h)
/-- is each number of a truth between none and all -/
structure Tru (b : TallyBook) (u : List Int) : Prop where
  len : (u.length : Int) = b.Trips
  bnd : ∀ n ∈ u, 0 ≤ n ∧ n ≤ b.Room
theorem Tru.steps {b : TallyBook} {u : List Int} (h : Tru b u) : Steps b.Trips b.Room (pre u) := by
  intro k hk
  have hlt : k < u.length := by have := h.len; omega
  have hx := List.getElem?_eq_getElem hlt
  have := h.bnd _ (List.mem_of_getElem? hx)
  rw [pre_succ hx]
  omega
theorem count_right {b : TallyBook} (V : Bk b) {u : List Int} (hu : Tru b u) {x : TallyCount} (hx : Cnt b.Trips x) : ∃ r, tally_count_right x u = some r ∧ (r = true ↔ CntQ x (pre u)) := by
  have := hu.len; have := V.t8; have := V.r60; have f0 := hx.f0; have ft := hx.ft; have tT := hx.tT
  unfold tally_count_right
  rw [wrI (x := x.To + 1) (by omega) (by omega), cutI_eq (by omega) (by omega) (by omega), Option.bind_some]
  rw [sum_eq (by simp; omega) (fun n hn => by have := hu.bnd n (mem_cut hn); omega), Option.bind_some, least_eq hx, Option.bind_some, most_eq hx, Option.bind_some, within_eq]
  refine ⟨_, rfl, ?_⟩
  rw [inB_iff, pre_cut (by omega)]
  rfl
theorem can_law {b : TallyBook} (V : Val b) {u : List Int} (hu : Tru b u) : ∃ r, tally_Can b u = some (r, 0) ∧ (r = true ↔ Fit b no (pre u)) := by
  have hlen := hu.len; have t8 := V.t8; have l8 := V.l8
  have second : ∃ p, loopF (tally_Can_l2 b u) big 0 = some p ∧ p.2 = 0 ∧ (p.1 = true ↔ Fit b no (pre u)) := by
    refine loopF_inv (body := tally_Can_l2 b u) (fun z : Int => ∃ k : Nat, z = k ∧ k ≤ b.Counts.length ∧ ∀ j x, j < k → b.Counts[j]? = some x → CntQ x (pre u)) (fun z => b.Counts.length - z.toNat) (fun p => p.2 = 0 ∧ (p.1 = true ↔ Fit b no (pre u))) ?_ big 0 ⟨0, rfl, Nat.zero_le _, fun j x h => absurd h (Nat.not_lt_zero j)⟩ (by unfold big; simp; omega)
    rintro rec z ⟨k, rfl, hk, hq⟩ ih
    unfold tally_Can_l2
    by_cases hlt : k < b.Counts.length
    · rw [decide_eq_true (by omega), cond_true, getI_nat, List.getElem?_eq_getElem hlt, Option.bind_some]
      have hx := List.getElem?_eq_getElem hlt
      generalize b.Counts[k] = x at hx
      obtain ⟨r, hr, hi⟩ := count_right V.bk hu (cnt_iff.1 (V.cs x (List.mem_of_getElem? hx)))
      rw [hr, Option.bind_some]
      cases r with
      | false =>
        refine ⟨_, rfl, rfl, ?_⟩
        simp only [Bool.false_eq_true, false_iff]
        intro h
        have := hi.2 (h.2 k x hx rfl)
        cases this
      | true =>
        rw [Bool.not_true, cond_false, wrI (by omega) (by omega)]
        refine ih _ ⟨k + 1, by simp, by omega, fun j y hj hy => ?_⟩ (by (try simp only); omega)
        by_cases hjk : j = k
        · subst hjk; rw [hx] at hy; cases hy; exact hi.1 rfl
        · exact hq j y (by omega) hy
    · rw [decide_eq_false (by omega), cond_false]
      refine ⟨_, rfl, rfl, ?_⟩
      simp only [true_iff]
      exact ⟨hu.steps, fun j x hx _ => hq j x (by have := (List.getElem?_eq_some_iff.1 hx).1; omega) hx⟩
  obtain ⟨⟨p1, p2⟩, hp, hp0, hpi⟩ := second
  simp only at hp0 hpi
  subst hp0
  refine ⟨p1, ?_, hpi⟩
  unfold tally_Can
  rw [check_ok V, Option.bind_some]
  simp only [bne_self_eq_false, cond_false]
  rw [show ((u.length : Int) != b.Trips) = false by simp [hlen], cond_false]
  refine loopF_spec (body := tally_Can_l3 u b) (fun z : Int => ∃ k : Nat, z = k ∧ k ≤ u.length) (fun z => u.length - z.toNat) (fun _ => (p1, 0)) ?_ big 0 ⟨0, rfl, Nat.zero_le _⟩ (by unfold big; simp; omega)
  rintro rec z ⟨k, rfl, hk⟩ ih
  unfold tally_Can_l3
  by_cases hlt : k < u.length
  · rw [decide_eq_true (by omega), cond_true, getI_nat, List.getElem?_eq_getElem hlt, Option.bind_some]
    have hx := List.getElem?_eq_getElem hlt
    rw [within_eq, Option.bind_some, inB_iff.2 (hu.bnd _ (List.mem_of_getElem? hx)), Bool.not_true, cond_false, wrI (by omega) (by omega)]
    exact ih _ ⟨k + 1, by simp, by omega⟩ (by (try simp only); omega)
  · rw [decide_eq_false (by omega), cond_false, hp]
end Go.Proofs.YtplpalmabgjibaaDoor

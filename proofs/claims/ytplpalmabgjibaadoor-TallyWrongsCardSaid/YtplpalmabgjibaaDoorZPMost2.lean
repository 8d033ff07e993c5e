/- Plain facts: what the specification says of a book: its table of differences is that of all truths. -/
import Derived.Test.YtplpalmabgjibaaDoorZPMost
set_option linter.unusedVariables false
set_option linter.unusedSimpArgs false
namespace Go.Proofs.YtplpalmabgjibaaDoor
open Go Go.Fx Go.Tally
def e0 (r : Int) (i k : Nat) : Int := if k = i then 0 else if k = i + 1 then r else if k + 1 = i then 0 else 481
def row0 (r : Int) (n i : Nat) : List Int := (List.range n).map (e0 r i)
theorem row0_succ (r : Int) (n i : Nat) : row0 r (n + 1) i = row0 r n i ++ [e0 r i n] := by simp [row0, List.range_succ]
theorem fits_small {m bb : Nat} (hm : m ≤ 1000) (hb : bb ≤ 1000) : fitsL m bb = true := by
  unfold fitsL
  rw [decide_eq_true_eq]
  have : m * bb ≤ 1000 * 1000 := Nat.mul_le_mul hm hb
  omega
theorem row_eq {b : TallyBook} {n i : Nat} {M : Mt} {z1 : Mt × Int} {rec1 : Mt × Int → Option (Mt × Bool)} (hT : b.Trips = n) (hn : n ≤ 8) (hi : i ≤ n) (h1 : z1 = (M, (i : Int))) (hM : M.length ≤ 100) :
    loopF (ref_most_l71 b z1 rec1) big (([] : List Int), 0) = rec1 (M ++ [row0 b.Room (n + 1) i], ((i + 1 : Nat) : Int)) := by
  subst h1
  have := loopF_cps (body := ref_most_l71 b (M, (i : Int)) rec1) (fun s : List Int × Int => ∃ k : Nat, k ≤ n + 1 ∧ s = (row0 b.Room k i, (k : Int))) (fun s => n + 1 - s.2.toNat) (fun _ : Unit => rec1 (M ++ [row0 b.Room (n + 1) i], ((i + 1 : Nat) : Int))) (fun _ => True) ?_ big ([], 0) ⟨0, by omega, rfl⟩ (by unfold big; simp; omega)
  · obtain ⟨_, h, _⟩ := this; exact h
  rintro rec z ⟨k, hk, rfl⟩ ih
  unfold ref_most_l71
  simp only [hT]
  by_cases hlt : k ≤ n
  case neg =>
    have hk' : k = n + 1 := by omega
    subst hk'
    rw [decide_eq_false (by omega), cond_false, need_of (fits_small (by simp; omega) (by omega)), wrI (x := (i : Int) + 1) (by omega) (by omega)]
    exact ⟨(), rfl, trivial⟩
  rw [decide_eq_true (by omega), cond_true]
  have go : ∀ v, v = e0 b.Room i k → ∃ t : Unit, ref_most_j70 (row0 b.Room k i, (k : Int)) rec v = rec1 (M ++ [row0 b.Room (n + 1) i], ((i + 1 : Nat) : Int)) ∧ True := by
    rintro v rfl
    unfold ref_most_j70
    rw [need_of (fits_small (by simp [row0]; omega) (by omega))]
    simp only
    rw [wrI (x := (k : Int) + 1) (by omega) (by omega), ← row0_succ]
    exact ih _ ⟨k + 1, by omega, by simp⟩ (by (try simp only); omega)
  rw [wrI (x := (i : Int) + 1) (by omega) (by omega), wrI (x := (i : Int) - 1) (by omega) (by omega)]
  by_cases c1 : k = i
  · rw [show ((k : Int) == (i : Int)) = true by simp; omega, cond_true]
    exact go 0 (by unfold e0; rw [if_pos c1])
  rw [show ((k : Int) == (i : Int)) = false by simp; omega, cond_false]
  by_cases c2 : k = i + 1
  · rw [show ((k : Int) == (i : Int) + 1) = true by simp; omega, cond_true]
    exact go b.Room (by unfold e0; rw [if_neg c1, if_pos c2])
  rw [show ((k : Int) == (i : Int) + 1) = false by simp; omega, cond_false]
  by_cases c3 : k + 1 = i
  · rw [show ((k : Int) == (i : Int) - 1) = true by simp; omega, cond_true]
    exact go 0 (by unfold e0; rw [if_neg c1, if_neg c2, if_pos c3])
  rw [show ((k : Int) == (i : Int) - 1) = false by simp; omega, cond_false]
  exact go 481 (by unfold e0; rw [if_neg c1, if_neg c2, if_neg c3])
def M0 (r : Int) (n m : Nat) : Mt := (List.range m).map (row0 r n)
theorem M0_succ (r : Int) (n m : Nat) : M0 r n (m + 1) = M0 r n m ++ [row0 r n m] := by simp [M0, List.range_succ]
theorem M0_sq (r : Int) (n : Nat) : Sq n (M0 r (n + 1) (n + 1)) := by
  refine ⟨by simp [M0], fun x hx => ?_⟩
  obtain ⟨i, _, rfl⟩ := List.mem_map.1 hx
  simp [row0]
theorem M0_get (r : Int) {n i k : Nat} (hi : i ≤ n) (hk : k ≤ n) : mg (M0 r (n + 1) (n + 1)) i k = e0 r i k := by
  have h1 : i < n + 1 := by omega
  have h2 : k < n + 1 := by omega
  simp [mg, M0, row0, List.getD, h1, h2]
theorem span_eq {T : Int} {x : TallyCount} (h : Cnt T x) : ref_span x = some ⟨leastV x, mostV x⟩ := by
  have := h.prod; have := h.v0; have := h.v30; have := h.d0; have := h.d30
  unfold ref_span B_Range leastV mostV
  rw [wrI (x := x.Told * x.Unit) (by omega) (by omega), wrI (by omega) (by omega), wrI (by omega) (by omega)]
  rfl
theorem steps_all {b : TallyBook} (V : Bk b) {p : Nat → Int} (h : Steps b.Trips b.Room p) {i k : Nat} (hi : (i : Int) ≤ b.Trips) (hk : (k : Int) ≤ b.Trips) : p k - p i ≤ e0 b.Room i k := by
  have t8 := V.t8
  unfold e0
  split
  · rename_i e; subst e; omega
  · split
    · rename_i e; subst e
      have := (h i (by omega)).1
      omega
    · split
      · rename_i e; subst e
        have := (h k (by omega)).2
        omega
      · rcases Nat.le_total i k with hik | hki
        · have := steps_bnd V.t8 V.r0 V.r60 h (k - i) i (by omega)
          rw [show i + (k - i) = k by omega] at this
          have r2 := room_mul V (n := ((k - i : Nat) : Int)) (by omega) (by omega)
          omega
        · have := steps_bnd V.t8 V.r0 V.r60 h (i - k) k (by omega)
          rw [show k + (i - k) = i by omega] at this
          omega
theorem pm0 {b : TallyBook} (V : Bk b) {n : Nat} (hT : b.Trips = n) {p : Nat → Int} : PM n (M0 b.Room (n + 1) (n + 1)) p ↔ Steps b.Trips b.Room p := by
  constructor
  · intro h k hk
    have h1 := h k (k + 1) (by omega) (by omega)
    have h2 := h (k + 1) k (by omega) (by omega)
    rw [M0_get _ (by omega) (by omega)] at h1 h2
    unfold e0 at h1 h2
    rw [if_neg (by omega), if_pos rfl] at h1
    rw [if_neg (by omega), if_neg (by omega), if_pos rfl] at h2
    exact ⟨by omega, by omega⟩
  · intro h i k hi hk
    rw [M0_get _ hi hk]
    exact steps_all V h (by omega) (by omega)
theorem pm_upd {n : Nat} {M : Mt} (h : Sq n M) {i k : Nat} (hi : i ≤ n) (hk : k ≤ n) {v : Int} {p : Nat → Int} : PM n (upd2 M i k (mn (mg M i k) v)) p ↔ PM n M p ∧ p k - p i ≤ v := by
  have hm := @mn_le (mg M i k) v
  constructor
  · intro hp
    refine ⟨fun i' k' hi' hk' => ?_, ?_⟩
    · have := hp i' k' hi' hk'
      rw [mg_upd h hi hk] at this
      split at this
      · rename_i e; rw [e.1, e.2] at *; omega
      · exact this
    · have := hp i k hi hk
      rw [mg_upd h hi hk, if_pos ⟨rfl, rfl⟩] at this
      omega
  · rintro ⟨hp, hv⟩ i' k' hi' hk'
    rw [mg_upd h hi hk]
    split
    · rename_i e; rw [e.1, e.2]
      have := hp i k hi hk
      rcases hm.2.2 with e | e <;> omega
    · exact hp i' k' hi' hk'
theorem bnd_upd {n : Nat} {M : Mt} (h : Sq n M) {i k : Nat} (hi : i ≤ n) (hk : k ≤ n) {v : Int} (hv : -3000 ≤ v) (hb : ∀ i k, i ≤ n → k ≤ n → -3000 ≤ mg M i k ∧ mg M i k ≤ 3000) : ∀ i' k', i' ≤ n → k' ≤ n → -3000 ≤ mg (upd2 M i k (mn (mg M i k) v)) i' k' ∧ mg (upd2 M i k (mn (mg M i k) v)) i' k' ≤ 3000 := by
  intro i' k' hi' hk'
  rw [mg_upd h hi hk]
  have hm := @mn_le (mg M i k) v
  have := hb i k hi hk
  split
  · rcases hm.2.2 with e | e <;> omega
  · exact hb i' k' hi' hk'
theorem counts_loop {b : TallyBook} (V : Bk b) {n : Nat} (hT : b.Trips = n) :
    ∃ M, loopF (ref_most_l86 b) big (M0 b.Room (n + 1) (n + 1), 0) = loopF (ref_most_l85 b) big (M, 0) ∧ Sq n M ∧ (∀ i k, i ≤ n → k ≤ n → -3000 ≤ mg M i k ∧ mg M i k ≤ 3000) ∧ (∀ i, i ≤ n → mg M i i ≤ 0) ∧ ∀ p, PM n M p ↔ Fit b no p := by
  have t8 := V.t8; have l9 := V.l9; have r0 := V.r0; have r60 := V.r60
  refine loopF_cps (body := ref_most_l86 b) (fun s : Mt × Int => ∃ c : Nat, s.2 = c ∧ c ≤ b.Counts.length ∧ Sq n s.1 ∧ (∀ i k, i ≤ n → k ≤ n → -3000 ≤ mg s.1 i k ∧ mg s.1 i k ≤ 3000) ∧ (∀ i, i ≤ n → mg s.1 i i ≤ 0) ∧ ∀ p, PM n s.1 p ↔ Steps b.Trips b.Room p ∧ ∀ j x, j < c → b.Counts[j]? = some x → CntQ x p)
    (fun s => b.Counts.length - s.2.toNat) (fun M : Mt => loopF (ref_most_l85 b) big (M, 0)) (fun M => Sq n M ∧ (∀ i k, i ≤ n → k ≤ n → -3000 ≤ mg M i k ∧ mg M i k ≤ 3000) ∧ (∀ i, i ≤ n → mg M i i ≤ 0) ∧ ∀ p, PM n M p ↔ Fit b no p) ?_ big _
    ⟨0, rfl, by omega, M0_sq _ _, fun i k hi hk => by simp only; rw [M0_get _ hi hk]; unfold e0; (repeat' split) <;> omega, fun i hi => by simp only; rw [M0_get _ hi hi]; unfold e0; rw [if_pos rfl]; omega, fun p => by simp only; rw [pm0 V hT]; simp⟩ (by unfold big; simp; omega)
  rintro rec ⟨M, z⟩ ⟨c, rfl, hc, hM, hb, hd, hp⟩ ih
  simp only at hM hb hd hp
  unfold ref_most_l86
  simp only
  by_cases hlt : c < b.Counts.length
  case neg =>
    have he : c = b.Counts.length := by omega
    subst he
    rw [decide_eq_false (by omega), cond_false]
    refine ⟨M, rfl, hM, hb, hd, fun p => ?_⟩
    rw [hp]
    refine and_congr_right fun _ => ?_
    constructor
    · intro h j x hx _; exact h j x (List.getElem?_eq_some_iff.1 hx).1 hx
    · intro h j x _ hx; exact h j x hx rfl
  rw [decide_eq_true (by omega), cond_true, getI_nat, List.getElem?_eq_getElem hlt, Option.bind_some]
  have hx : b.Counts[c]? = some b.Counts[c] := List.getElem?_eq_getElem hlt
  generalize b.Counts[c] = x at hx
  have C := cnt_iff.1 (V.cs x (List.mem_of_getElem? hx))
  have hbn := C.bnds
  have f0 := C.f0; have ft := C.ft; have tT := C.tT
  obtain ⟨f, hf⟩ : ∃ f : Nat, x.From = f := ⟨x.From.toNat, by omega⟩
  obtain ⟨t, ht⟩ : ∃ t : Nat, x.To + 1 = t := ⟨(x.To + 1).toNat, by omega⟩
  rw [span_eq C, Option.bind_some, wrI (x := x.To + 1) (by omega) (by omega), wrI (x := -leastV x) (by omega) (by omega), ht, hf]
  have hfn : f ≤ n := by omega
  have htn : t ≤ n := by omega
  simp only [(hM.row hfn).1, hM.cell hfn htn, Option.bind_some, Int.toNat_natCast]
  have e1 : M.set f ((M.getD f []).set t (if mostV x < mg M f t then mostV x else mg M f t)) = upd2 M f t (mn (mg M f t) (mostV x)) := rfl
  rw [e1]
  have hM1 := hM.upd (i := f) (k := t) hfn (v := mn (mg M f t) (mostV x))
  have hb1 := bnd_upd hM hfn htn (v := mostV x) (by omega) hb
  have hp1 : ∀ p, PM n (upd2 M f t (mn (mg M f t) (mostV x))) p ↔ _ := fun p => pm_upd hM hfn htn
  have hd1 : ∀ i, i ≤ n → mg (upd2 M f t (mn (mg M f t) (mostV x))) i i ≤ 0 := fun i hi => by
    rw [mg_upd hM hfn htn, if_neg (by omega)]; exact hd i hi
  generalize upd2 M f t (mn (mg M f t) (mostV x)) = M1 at hM1 hb1 hp1 hd1
  simp only [(hM1.row htn).1, hM1.cell htn hfn, Option.bind_some]
  have e2 : M1.set t ((M1.getD t []).set f (if -leastV x < mg M1 t f then -leastV x else mg M1 t f)) = upd2 M1 t f (mn (mg M1 t f) (-leastV x)) := rfl
  rw [e2, wrI (x := (c : Int) + 1) (by omega) (by omega)]
  refine ih (_, (c : Int) + 1) ⟨c + 1, by simp, by omega, hM1.upd htn, bnd_upd hM1 htn hfn (by omega) hb1, fun i hi => ?_, fun p => ?_⟩ (by (try simp only); omega)
  · simp only
    rw [mg_upd hM1 htn hfn, if_neg (by omega)]; exact hd1 i hi
  · simp only
    rw [pm_upd hM1 htn hfn, hp1, hp]
    have hq : CntQ x p ↔ p t - p f ≤ mostV x ∧ p f - p t ≤ -leastV x := by
      unfold CntQ
      rw [ht, hf, Int.toNat_natCast, Int.toNat_natCast]
      constructor
      · rintro ⟨a, b⟩; exact ⟨by omega, by omega⟩
      · rintro ⟨a, b⟩; exact ⟨by omega, by omega⟩
    constructor
    · rintro ⟨⟨⟨h1, h2⟩, h3⟩, h4⟩
      refine ⟨h1, fun j y hj hy => ?_⟩
      by_cases e : j = c
      · subst e; rw [hx] at hy; cases hy; exact hq.2 ⟨h3, h4⟩
      · exact h2 j y (by omega) hy
    · rintro ⟨h1, h2⟩
      have := hq.1 (h2 c x (by omega) hx)
      exact ⟨⟨⟨h1, fun j y hj hy => h2 j y (by omega) hy⟩, this.1⟩, this.2⟩
/-- the table of a book: whether it can be true, and then both ends of each difference -/
structure Tab (b : TallyBook) (n : Nat) (M : Mt) (r : Bool) : Prop where
  sq : Sq n M
  can : r = true ↔ CanBe b
  spn : r = true → ∀ a c, a ≤ n → c ≤ n → Spn (Fit b no) a c (-(mg M c a)) (mg M a c)
theorem most_tab {b : TallyBook} (V : Bk b) {n : Nat} (hT : b.Trips = n) : ∃ M r, ref_most b = some (M, r) ∧ Tab b n M r := by
  have t8 := V.t8; have t1 := V.t1
  obtain ⟨M1, e1, q1, q2, q3, q4⟩ := counts_loop V hT
  obtain ⟨M', r, e2, C⟩ := vias hT (by omega) q1 q2
  have hmost : ref_most b = some (M', r) := by
    unfold ref_most
    have := loopF_cps (body := ref_most_l87 b) (fun s : Mt × Int => ∃ k : Nat, k ≤ n + 1 ∧ s = (M0 b.Room (n + 1) k, (k : Int))) (fun s => n + 1 - s.2.toNat) (fun _ : Unit => some (M', r)) (fun _ => True) ?_ big ([], 0) ⟨0, by omega, rfl⟩ (by unfold big; simp; omega)
    · obtain ⟨_, h, _⟩ := this; exact h
    rintro rec z ⟨k, hk, rfl⟩ ih
    unfold ref_most_l87
    simp only [hT]
    by_cases hlt : k ≤ n
    case neg =>
      have hk' : k = n + 1 := by omega
      subst hk'
      rw [decide_eq_false (by omega), cond_false, e1, e2]
      exact ⟨(), rfl, trivial⟩
    rw [decide_eq_true (by omega), cond_true, row_eq hT (by omega) hlt rfl (by simp [M0]; omega), ← M0_succ]
    exact ih _ ⟨k + 1, by omega, rfl⟩ (by (try simp only); omega)
  -- whoever is closed is kept by a row of his own
  have own : r = true → ∀ a, a ≤ n → PM n M1 (fun k => mg M' a k) := fun hr a ha i k hi hk => by
    have := (C.tri hr).2 a i k ha hi hk
    have := C.le i k hi
    show mg M' a k - mg M' a i ≤ _
    omega
  have zero : r = true → ∀ a, a ≤ n → mg M' a a = 0 := fun hr a ha => by
    have h1 := (C.tri hr).1 a ha
    have h2 := C.le a a ha
    have h3 := q3 a ha
    omega
  refine ⟨M', r, hmost, C.sq, ⟨fun hr => ⟨_, (q4 _).1 (own hr 0 (by omega))⟩, fun ⟨p, hp⟩ => (C.pot p ((q4 p).2 hp)).1⟩, fun hr a c ha hc => ⟨⟨_, (q4 _).1 (own hr c hc), ?_⟩, ⟨_, (q4 _).1 (own hr a ha), ?_⟩, fun p hp => ?_⟩⟩
  · have := zero hr c hc; show mg M' c c - mg M' c a = _; omega
  · have := zero hr a ha; show mg M' a c - mg M' a a = _; omega
  · have h1 := (C.pot p ((q4 p).2 hp)).2
    have h2 := h1 a c ha hc; have h3 := h1 c a hc ha
    omega
/-! the specification's own look at a book -/
theorem rtrip_eq (b : TallyBook) (hb : -9223372036854775807 ≤ b.Trips ∧ b.Trips ≤ 9223372036854775807) (x : Int) : ref_isTrip b x = some (inB x 0 (b.Trips - 1)) := by
  unfold ref_isTrip
  rw [wrI (by omega) (by omega), inside_eq]; rfl
theorem rcount_eq (b : TallyBook) (hb : -9223372036854775807 ≤ b.Trips ∧ b.Trips ≤ 9223372036854775807) (x : TallyCount) : ref_isCount b x = some (cntB b.Trips x) := by
  have e : cntB b.Trips x = (inB x.Who 0 2 && (inB x.From 0 (b.Trips - 1) && (inB x.To 0 (b.Trips - 1) && (decide (x.From ≤ x.To) && (inB x.Told 0 99 && (inB x.Unit 1 20 && (inB x.Under 0 30 && (inB x.Over 0 30 && ((x.Who != 1) || (x.Over == 0)))))))))) := by
    rw [Bool.eq_iff_iff]
    unfold cntB tripsB
    simp only [Bool.and_eq_true, inB_iff, decide_eq_true_eq]
    constructor
    · rintro ⟨⟨⟨⟨⟨⟨h1, h2, h3⟩, h4⟩, h5⟩, h6⟩, h7⟩, h8⟩
      exact ⟨h1, ⟨by omega, by omega⟩, ⟨by omega, by omega⟩, h2.2, h4, h5, h6, h7, h8⟩
    · rintro ⟨h1, h2, h3, h4, h5, h6, h7, h8, h9⟩
      exact ⟨⟨⟨⟨⟨⟨h1, ⟨by omega, by omega⟩, by omega⟩, h5⟩, h6⟩, h7⟩, h8⟩, h9⟩
  unfold ref_isCount
  rw [e]
  simp only [inside_eq, rtrip_eq b hb, Option.bind_some]
  cases inB x.Who 0 2 <;> cases inB x.From 0 (b.Trips - 1) <;> cases inB x.To 0 (b.Trips - 1) <;> cases decide (x.From ≤ x.To) <;> cases inB x.Told 0 99 <;> cases inB x.Unit 1 20 <;> cases inB x.Under 0 30 <;> cases inB x.Over 0 30 <;> cases (x.Who != 1) <;> rfl
theorem rcheck_eq (b : TallyBook) (hl : b.Counts.length ≤ 9223372036854775807) : ref_Check b = some (bif valB b then 0 else 50) := by
  have loop : ∀ ok : Bool, (ok = true → -9223372036854775807 ≤ b.Trips ∧ b.Trips ≤ 9223372036854775807) → loopF (ref_Check_l4 b) big (ok, 0) = some (bif ok && cntsB b.Trips b.Counts then 0 else 50) := by
    intro ok hok
    refine loopF_spec (fun s : Bool × Int => 0 ≤ s.2 ∧ s.2 ≤ b.Counts.length ∧ (s.1 = true → -9223372036854775807 ≤ b.Trips ∧ b.Trips ≤ 9223372036854775807)) (fun s => b.Counts.length - s.2.toNat) (fun s => bif s.1 && cntsB b.Trips (b.Counts.drop s.2.toNat) then 0 else 50) ?_ big (ok, 0) ⟨by simp, by simp, hok⟩ (by unfold big; simp; omega)
    rintro rec ⟨ok', i⟩ ⟨h0, h1, h2⟩ ih
    simp only at h0 h1 h2 ih ⊢
    unfold ref_Check_l4 ref_Check_j3
    simp only
    cases ok' with
    | false => rfl
    | true =>
      rw [cond_true]
      by_cases hi : i < b.Counts.length
      · rw [decide_eq_true hi, cond_true]
        obtain ⟨x, hx, hx'⟩ := getI_lt h0 hi
        have hd := drop_get hx'
        have e : (i + 1).toNat = i.toNat + 1 := by omega
        rw [hx, Option.bind_some, rcount_eq b (h2 rfl), Option.bind_some, hd, wrI (x := i + 1) (by omega) (by omega), ih _ ⟨by simp; omega, by simp; omega, fun _ => h2 rfl⟩ (by simp; omega)]
        simp only [e, cntsB, List.all_cons, Bool.true_and]
      · rw [decide_eq_false hi, cond_false, show b.Counts.drop i.toNat = [] from List.drop_eq_nil_of_le (by omega)]
        rfl
  unfold ref_Check ref_Check_j5 valB
  simp only [inside_eq, Option.bind_some]
  have e1 : decide ((b.Counts.length : Int) ≤ 8) = decide (b.Counts.length ≤ 8) := by
    rw [decide_eq_decide]; omega
  cases h1 : inB b.Trips 1 8
  · rw [cond_false, loop false (fun h => by cases h)]; simp
  · have := inB_iff.1 h1
    rw [cond_true]
    cases h2 : inB b.Room 0 60
    · rw [cond_false, loop false (fun h => by cases h)]; simp
    · rw [cond_true, loop _ (fun _ => by omega)]; simp
end Go.Proofs.YtplpalmabgjibaaDoor

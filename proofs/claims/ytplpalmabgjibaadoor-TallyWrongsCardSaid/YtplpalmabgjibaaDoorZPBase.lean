/- Plain facts: what the small functions of the layer come to. -/
import Derived.Test.YtplpalmabgjibaaDoorZWAll
set_option linter.unusedVariables false
set_option linter.unusedSimpArgs false
namespace Go.Proofs.YtplpalmabgjibaaDoor
open Go Go.Fx Go.Tally
theorem wrI {x : Int} (h0 : -9223372036854775808 ≤ x) (h1 : x ≤ 9223372036854775807) : Fx.wr x = x := wr_eq h0 h1
def inB (a lo hi : Int) : Bool := decide (lo ≤ a) && decide (a ≤ hi)
theorem inB_iff {a lo hi : Int} : inB a lo hi = true ↔ lo ≤ a ∧ a ≤ hi := by simp [inB]
theorem within_eq (a b c : Int) : tally_within a b c = some (inB a b c) := by
  unfold tally_within inB
  cases decide (b ≤ a) <;> rfl
theorem inside_eq (a b c : Int) : B_Inside a b c = some (inB a b c) := by
  unfold B_Inside inB
  rw [show decide (a ≥ b) = decide (b ≤ a) from rfl]
  cases decide (b ≤ a) <;> rfl
def tripsB (T f t : Int) : Bool := inB f 0 t && decide (t < T)
theorem isTrips_eq (b : TallyBook) (f t : Int) : tally_isTrips b f t = some (tripsB b.Trips f t) := by
  unfold tally_isTrips tripsB
  rw [within_eq]
  simp only [Option.bind_some]
  cases inB f 0 t <;> rfl
def cntB (T : Int) (x : TallyCount) : Bool := inB x.Who 0 2 && tripsB T x.From x.To && inB x.Told 0 99 && inB x.Unit 1 20 && inB x.Under 0 30 && inB x.Over 0 30 && ((x.Who != 1) || (x.Over == 0))
theorem isCount_eq (b : TallyBook) (x : TallyCount) : tally_isCount b x = some (cntB b.Trips x) := by
  unfold tally_isCount tally_isCount_j1 cntB
  simp only [within_eq, isTrips_eq, Option.bind_some]
  cases inB x.Who 0 2 <;> cases tripsB b.Trips x.From x.To <;> cases inB x.Told 0 99 <;> cases inB x.Unit 1 20 <;> cases inB x.Under 0 30 <;> cases inB x.Over 0 30 <;> cases (x.Who != 1) <;> rfl
def cntsB (T : Int) (l : List TallyCount) : Bool := l.all (cntB T)
def valB (b : TallyBook) : Bool := inB b.Trips 1 8 && inB b.Room 0 60 && decide ((b.Counts.length : Int) ≤ 8) && cntsB b.Trips b.Counts
theorem getI_lt {α : Type} {l : List α} {i : Int} (h0 : 0 ≤ i) (h : i < l.length) : ∃ x, getI l i = some x ∧ l[i.toNat]? = some x := by
  have hi : i.toNat < l.length := by omega
  exact ⟨l[i.toNat], getI_of h0 (List.getElem?_eq_getElem hi), List.getElem?_eq_getElem hi⟩
theorem drop_get {α : Type} {l : List α} {k : Nat} {x : α} (h : l[k]? = some x) : l.drop k = x :: l.drop (k + 1) := by
  obtain ⟨h1, rfl⟩ := List.getElem?_eq_some_iff.1 h
  exact List.drop_eq_getElem_cons h1
theorem check_loop (b : TallyBook) (hl : b.Counts.length ≤ 9223372036854775807) (ok : Bool) : loopF (tally_Check_l2 b) big (ok, 0) = some (bif ok && cntsB b.Trips b.Counts then 0 else 50) := by
  refine loopF_spec (fun s : Bool × Int => 0 ≤ s.2 ∧ s.2 ≤ b.Counts.length) (fun s => b.Counts.length - s.2.toNat) (fun s => bif s.1 && cntsB b.Trips (b.Counts.drop s.2.toNat) then 0 else 50) ?_ big (ok, 0) ⟨by simp, by simp⟩ (by unfold big; simp; omega)
  rintro rec ⟨ok, i⟩ ⟨h0, h1⟩ ih
  simp only at h0 h1 ih ⊢
  unfold tally_Check_l2
  simp only
  by_cases hi : i < b.Counts.length
  · rw [decide_eq_true hi, cond_true]
    obtain ⟨x, hx, hx'⟩ := getI_lt h0 hi
    rw [hx, Option.bind_some]
    have hd := drop_get hx'
    have hw : Fx.wr (i + 1) = i + 1 := wrI (by omega) (by omega)
    have e : (i + 1).toNat = i.toNat + 1 := by omega
    rw [hd, hw]
    cases ok with
    | true =>
      rw [cond_true, isCount_eq, Option.bind_some, ih _ ⟨by simp; omega, by simp; omega⟩ (by simp; omega)]
      simp only [e, cntsB, List.all_cons, Bool.true_and]
    | false =>
      rw [cond_false, ih _ ⟨by simp; omega, by simp; omega⟩ (by simp; omega)]
      simp
  · rw [decide_eq_false hi, cond_false, show b.Counts.drop i.toNat = [] from List.drop_eq_nil_of_le (by omega)]
    cases ok <;> simp [cntsB]
theorem check_eq (b : TallyBook) (hl : b.Counts.length ≤ 9223372036854775807) : tally_Check b = some (bif valB b then 0 else 50) := by
  unfold tally_Check tally_Check_j3 valB
  simp only [within_eq, Option.bind_some, check_loop b hl]
  cases inB b.Trips 1 8 <;> cases inB b.Room 0 60 <;> simp
structure Val (b : TallyBook) : Prop where
  t1 : 1 ≤ b.Trips
  t8 : b.Trips ≤ 8
  r0 : 0 ≤ b.Room
  r60 : b.Room ≤ 60
  l8 : b.Counts.length ≤ 8
  cs : ∀ x ∈ b.Counts, cntB b.Trips x = true
/-- the same with a count more -/
structure Bk (b : TallyBook) : Prop where
  t1 : 1 ≤ b.Trips
  t8 : b.Trips ≤ 8
  r0 : 0 ≤ b.Room
  r60 : b.Room ≤ 60
  l9 : b.Counts.length ≤ 9
  cs : ∀ x ∈ b.Counts, cntB b.Trips x = true
theorem Val.bk {b : TallyBook} (h : Val b) : Bk b := ⟨h.t1, h.t8, h.r0, h.r60, by have := h.l8; omega, h.cs⟩
theorem val_iff {b : TallyBook} : valB b = true ↔ Val b := by
  unfold valB cntsB
  simp only [Bool.and_eq_true, inB_iff, decide_eq_true_eq, List.all_eq_true]
  constructor
  · rintro ⟨⟨⟨⟨a, b⟩, c, d⟩, e⟩, f⟩; exact ⟨a, b, c, d, by omega, f⟩
  · rintro ⟨a, b, c, d, e, f⟩; exact ⟨⟨⟨⟨a, b⟩, c, d⟩, by omega⟩, f⟩
theorem check_ok {b : TallyBook} (h : Val b) : tally_Check b = some 0 := by
  rw [check_eq b (by have := h.l8; omega), val_iff.2 h]; rfl
structure Cnt (T : Int) (x : TallyCount) : Prop where
  w0 : 0 ≤ x.Who
  w2 : x.Who ≤ 2
  f0 : 0 ≤ x.From
  ft : x.From ≤ x.To
  tT : x.To < T
  o0 : 0 ≤ x.Told
  o99 : x.Told ≤ 99
  u1 : 1 ≤ x.Unit
  u20 : x.Unit ≤ 20
  d0 : 0 ≤ x.Under
  d30 : x.Under ≤ 30
  v0 : 0 ≤ x.Over
  v30 : x.Over ≤ 30
  st : x.Who = 1 → x.Over = 0
theorem cnt_iff {T : Int} {x : TallyCount} : cntB T x = true ↔ Cnt T x := by
  unfold cntB tripsB
  simp only [Bool.and_eq_true, inB_iff, decide_eq_true_eq, Bool.or_eq_true, bne_iff_ne, beq_iff_eq]
  constructor
  · intro h; obtain ⟨⟨⟨⟨⟨⟨⟨a, b⟩, ⟨c, d⟩, e⟩, f, g⟩, h, i⟩, j, k⟩, l, m⟩, n⟩ := h
    exact ⟨a, b, c, d, e, f, g, h, i, j, k, l, m, fun h => by omega⟩
  · rintro ⟨a, b, c, d, e, f, g, h, i, j, k, l, m, n⟩
    exact ⟨⟨⟨⟨⟨⟨⟨a, b⟩, ⟨c, d⟩, e⟩, f, g⟩, h, i⟩, j, k⟩, l, m⟩, by omega⟩
theorem Cnt.prod {T : Int} {x : TallyCount} (h : Cnt T x) : 0 ≤ x.Told * x.Unit ∧ x.Told * x.Unit ≤ 1980 := by
  have h1 := h.o0; have h2 := h.o99; have h3 := h.u1; have h4 := h.u20
  constructor
  · exact Int.mul_nonneg h1 (by omega)
  · have : x.Told * x.Unit ≤ 99 * 20 := Int.mul_le_mul h2 h4 (by omega) (by omega)
    omega
def mostV (x : TallyCount) : Int := x.Told * x.Unit + x.Under
def leastV (x : TallyCount) : Int := x.Told * x.Unit - x.Over
theorem most_eq {T : Int} {x : TallyCount} (h : Cnt T x) : tally_count_most x = some (mostV x) := by
  have := h.prod; have := h.d0; have := h.d30
  unfold tally_count_most mostV
  rw [wrI (x := x.Told * x.Unit) (by omega) (by omega), wrI (by omega) (by omega)]
theorem least_eq {T : Int} {x : TallyCount} (h : Cnt T x) : tally_count_least x = some (leastV x) := by
  have := h.prod; have := h.v0; have := h.v30
  unfold tally_count_least leastV
  rw [wrI (x := x.Told * x.Unit) (by omega) (by omega), wrI (by omega) (by omega)]
theorem Cnt.bnds {T : Int} {x : TallyCount} (h : Cnt T x) : 0 ≤ mostV x ∧ mostV x ≤ 2010 ∧ -30 ≤ leastV x ∧ leastV x ≤ 1980 ∧ leastV x ≤ mostV x := by
  have := h.prod; have := h.v0; have := h.v30; have := h.d0; have := h.d30
  unfold mostV leastV
  omega
end Go.Proofs.YtplpalmabgjibaaDoor

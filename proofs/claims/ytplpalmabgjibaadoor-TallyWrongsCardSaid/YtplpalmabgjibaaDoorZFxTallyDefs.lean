/- Part of a logic of my own for walks: rules by which a proof steps through code, proved once. -/
import Derived.Test.YtplpalmabgjibaaDoorZFxMat
namespace Go.Tally
open Go Go.Fx
/-! what the layer of counts computes, in plain Lean -/
structure TC where
  (who fro to told unit under over : Int)
  deriving DecidableEq, Inhabited
def iE (x : Int) : Value := .int .i64 x
abbrev wr (x : Int) : Int := IntKind.i64.wrap x
def leastI (x : TC) : Int := wr (wr (x.told * x.unit) - x.over)
def mostI (x : TC) : Int := wr (wr (x.told * x.unit) + x.under)
def inR (a lo hi : Int) : Bool := decide (lo ≤ a) && decide (a ≤ hi)
def isTrips (t fr to : Int) : Bool := inR fr 0 to && decide (to < t)
def isCountB (t : Int) (x : TC) : Bool := (inR x.who 0 2 && isTrips t x.fro x.to && inR x.told 0 99 && inR x.unit 1 20) && inR x.under 0 30 && inR x.over 0 30 && ((x.who != 1) || (x.over == 0))
def checkB (t r : Int) (l : List TC) : Bool := (inR t 1 8 && inR r 0 60 && decide ((l.length : Int) ≤ 8)) && l.all (isCountB t)
def checkI (t r : Int) (l : List TC) : Int := if checkB t r l then 0 else 50
def minI (a b : Int) : Int := if b < a then b else a
def noteL (m : List ((Int × Int) × Int)) (p : Int × Int) (n : Int) : List ((Int × Int) × Int) := putL m p (match lookL m p with | some o => minI n o | none => n)
def tripsL (r : Int) : Nat → List ((Int × Int) × Int)
  | 0 => []
  | k + 1 => noteL (noteL (tripsL r k) ((k : Int), (k : Int) + 1) r) ((k : Int) + 1, (k : Int)) 0
def countsL (out : TC → Nat → Bool) (l : List TC) (m : List ((Int × Int) × Int)) : Nat → List ((Int × Int) × Int)
  | 0 => m
  | k + 1 => match l[k]? with
    | some x => if out x k then countsL out l m k else noteL (noteL (countsL out l m k) (x.fro, x.to + 1) (mostI x)) (x.to + 1, x.fro) (wr (-(leastI x)))
    | none => countsL out l m k
def openedL (out : TC → Nat → Bool) (t r : Int) (l : List TC) : List ((Int × Int) × Int) := countsL out l (tripsL r t.toNat) l.length
def zeros : List Int := List.replicate 9 0
def initO (start : Int) (k : Nat) : List Int := (List.range 9).map fun j => if j < k ∧ (j : Int) ≠ start then 481 else 0
theorem initO_len (start : Int) (k : Nat) : (initO start k).length = 9 := by simp [initO]
theorem initO_zero (start : Int) : initO start 0 = zeros := by simp [initO, zeros]; rfl
theorem initO_skip {start : Int} {k : Nat} (h : (k : Int) = start) : initO start (k + 1) = initO start k := by
  unfold initO
  refine List.map_congr_left fun j _ => ?_
  by_cases hj : j = k
  · subst hj; simp [h]
  · have : (j < k + 1) ↔ (j < k) := by omega
    simp [this]
theorem initO_set {start : Int} {k : Nat} (h : (k : Int) ≠ start) : (initO start k).set k 481 = initO start (k + 1) := by
  unfold initO
  refine List.ext_getElem (by simp) fun i h1 h2 => ?_
  simp only [List.getElem_set, List.getElem_map, List.getElem_range]
  by_cases hi : k = i
  · subst hi; simp [h]
  · have : (i < k + 1) ↔ (i < k) := by omega
    simp [hi, this]
abbrev Ent := (Int × Int) × Int
def ents (l : List (Nat × Ent)) : List Ent := l.map (·.2)
def viol (o : List Int) (e : Ent) : Bool := decide (wr (o.getD e.1.1.toNat 0 + e.2) < o.getD e.1.2.toNat 0)
def relax (s : List Int × Bool) (e : Ent) : List Int × Bool :=
  if (e.1 != (-1, -1)) && viol s.1 e then (s.1.set e.1.2.toNat (wr (s.1.getD e.1.1.toNat 0 + e.2)), true) else s
def relaxL (o : List Int) (l : List Ent) : List Int × Bool := l.foldl relax (o, false)
theorem relax_len (s : List Int × Bool) (e : Ent) : (relax s e).1.length = s.1.length := by
  unfold relax; split <;> simp
theorem relaxL_len (o : List Int) (l : List Ent) : (relaxL o l).1.length = o.length := by
  unfold relaxL
  suffices ∀ s : List Int × Bool, (l.foldl relax s).1.length = s.1.length from this _
  induction l with
  | nil => intro s; rfl
  | cons e l ih => intro s; rw [List.foldl_cons, ih, relax_len]
theorem relaxL_snoc (o : List Int) (l : List Ent) (e : Ent) : relaxL o (l ++ [e]) = relax (relaxL o l) e := by simp [relaxL]
theorem relax_cond (s : List Int × Bool) (e : Ent) : ((e.1 != (-1, -1)) && viol s.1 e) = (!((e.1.1 == (-1)) && (e.1.2 == (-1))) && decide (wr (s.1.getD e.1.1.toNat 0 + e.2) < s.1.getD e.1.2.toNat 0)) := rfl
theorem relax_yes {s : List Int × Bool} {e : Ent} (h : (!((e.1.1 == (-1)) && (e.1.2 == (-1))) && decide (wr (s.1.getD e.1.1.toNat 0 + e.2) < s.1.getD e.1.2.toNat 0)) = true) : relax s e = (s.1.set e.1.2.toNat (wr (s.1.getD e.1.1.toNat 0 + e.2)), true) := by
  unfold relax; rw [relax_cond, if_pos h]
theorem relax_no {s : List Int × Bool} {e : Ent} (h : (!((e.1.1 == (-1)) && (e.1.2 == (-1))) && decide (wr (s.1.getD e.1.1.toNat 0 + e.2) < s.1.getD e.1.2.toNat 0)) = false) : relax s e = s := by
  unfold relax; rw [relax_cond, if_neg (by rw [h]; decide)]
theorem relaxL_map (o : List Int) (dn : List (Nat × Ent)) (y : Nat × Ent) : relaxL o (ents (dn ++ [y])) = relax (relaxL o (ents dn)) y.2 := by
  unfold ents; rw [List.map_append]; exact relaxL_snoc _ _ _
theorem len_le : ∀ (l1 l2 : List Nat), l1.Nodup → (∀ x ∈ l1, x ∈ l2) → l1.length ≤ l2.length
  | [], _, _, _ => Nat.zero_le _
  | x :: l1, l2, h, hs => by
    have hx := hs x (List.mem_cons_self ..)
    have ih := len_le l1 (l2.erase x) (List.nodup_cons.1 h).2 fun y hy => by
      have hne : y ≠ x := fun e => (List.nodup_cons.1 h).1 (e ▸ hy)
      exact (List.mem_erase_of_ne hne).2 (hs y (List.mem_cons_of_mem _ hy))
    have hl := List.length_erase_of_mem hx
    have hp := List.length_pos_of_mem hx
    simp only [List.length_cons]
    omega
theorem dn_snoc {κ ν : Type} {es dn : List (Nat × κ × ν)} {y : Nat × κ × ν} (h2 : (dn.map (·.1)).Nodup) (hn : y.1 ∉ dn.map (·.1)) : ((dn ++ [y]).map (·.1)).Nodup := by
  rw [List.map_append, List.nodup_append]
  refine ⟨h2, by simp, fun a ha b hb => ?_⟩
  simp at hb; subst hb
  exact fun h => hn (h ▸ ha)
theorem dn_lt {κ ν : Type} {es dn : List (Nat × κ × ν)} {y : Nat × κ × ν} (h1 : ∀ y ∈ dn, y ∈ es) (h2 : (dn.map (·.1)).Nodup) (hy : y ∈ es) (hn : y.1 ∉ dn.map (·.1)) : es.length - (dn ++ [y]).length < es.length - dn.length := by
  have := len_le ((dn ++ [y]).map (·.1)) (es.map (·.1)) (dn_snoc (es := es) h2 hn) fun x hx => by
    obtain ⟨z, hz, rfl⟩ := List.mem_map.1 hx
    refine List.mem_map.2 ⟨z, ?_, rfl⟩
    rcases List.mem_append.1 hz with h | h
    · exact h1 z h
    · rw [List.mem_singleton.1 h]; exact hy
  simp at this ⊢
  omega
theorem dn_mem {κ ν : Type} {es dn : List (Nat × κ × ν)} {y : Nat × κ × ν} (h1 : ∀ y ∈ dn, y ∈ es) (hy : y ∈ es) : ∀ z ∈ dn ++ [y], z ∈ es := fun z hz => by
  rcases List.mem_append.1 hz with h | h
  · exact h1 z h
  · rw [List.mem_singleton.1 h]; exact hy
/-- one round, in whatever order -/
def RoundR (l : List Ent) (o o' : List Int) (ch : Bool) : Prop := ∃ p : List Ent, p.Perm l ∧ relaxL o p = (o', ch)
inductive RoundsR (start : Nat) (l : List Ent) : Nat → List Int → Option (List Int) → Prop
  | stop {o} : RoundsR start l 0 o (some o)
  | calm {k o o'} : RoundR l o o' false → RoundsR start l (k + 1) o (some o')
  | neg {k o o'} : RoundR l o o' true → o'.getD start 0 < 0 → RoundsR start l (k + 1) o none
  | go {k o o' r} : RoundR l o o' true → ¬ o'.getD start 0 < 0 → RoundsR start l k o' r → RoundsR start l (k + 1) o r
def FromR (t start : Int) (l : List Ent) (out : List Int) (r : Bool) : Prop :=
  (RoundsR start.toNat l (t + 2).toNat (initO start (t + 1).toNat) none ∧ r = false ∧ out = zeros) ∨
  ∃ o, RoundsR start.toNat l (t + 2).toNat (initO start (t + 1).toNat) (some o) ∧ ((l.any (viol o) = true ∧ r = false ∧ out = zeros) ∨ (l.any (viol o) = false ∧ r = true ∧ out = o))
theorem ents_any (f : Ent → Bool) (dn : List (Nat × Ent)) (y : Nat × Ent) : (ents (dn ++ [y])).any f = ((ents dn).any f || f y.2) := by simp [ents]
theorem RoundsR_len {start : Nat} {l : List Ent} {k : Nat} {o : List Int} {r : Option (List Int)} (h : RoundsR start l k o r) : ∀ o', r = some o' → o'.length = o.length := by
  induction h with
  | stop => rintro _ ⟨⟩; rfl
  | calm hr =>
    rintro _ ⟨⟩
    obtain ⟨p, _, hp⟩ := hr
    have := (relaxL_len _ p).symm.trans (congrArg (fun x : List Int × Bool => x.1.length) hp)
    exact this.symm
  | neg _ _ => rintro _ ⟨⟩
  | go hr _ _ ih =>
    intro o' ho
    obtain ⟨p, _, hp⟩ := hr
    have := (relaxL_len _ p).symm.trans (congrArg (fun x : List Int × Bool => x.1.length) hp)
    exact (ih o' ho).trans this.symm
theorem FromR_len {t start : Int} {l : List Ent} {out : List Int} {r : Bool} (h : FromR t start l out r) : out.length = 9 := by
  rcases h with ⟨_, _, rfl⟩ | ⟨o, ho, h⟩
  · rfl
  · have := (RoundsR_len ho o rfl).trans (initO_len _ _)
    rcases h with ⟨_, _, rfl⟩ | ⟨_, _, rfl⟩
    · rfl
    · exact this
def mlOf (t r : Int) (l : List TC) : List Ent := openedL (fun _ _ => false) t r l
def ManyR (t a b : Int) (ml : List Ent) (lo hi : Int) : Prop :=
  ∃ up ur dn dr, FromR t a ml up ur ∧ FromR t b ml dn dr ∧ ((dn = zeros ∧ up = zeros ∧ lo = 0 ∧ hi = 0) ∨ (¬ (dn = zeros ∧ up = zeros) ∧ lo = wr (-(dn.getD a.toNat 0)) ∧ hi = up.getD b.toNat 0))
def WhoF (t r : Int) (l : List TC) (k : Nat) (f : Nat → Bool) : Prop := ∀ w, w < k → ∃ o, FromR t 0 (openedL (fun x _ => x.who == (w : Int)) t r l) o (f w)
theorem WhoF.step {t r : Int} {l : List TC} {k : Nat} {f : Nat → Bool} {b : Bool} {o : List Int} (h : WhoF t r l k f) (hb : FromR t 0 (openedL (fun x _ => x.who == (k : Int)) t r l) o b) : WhoF t r l (k + 1) (fun w => if w = k then b else f w) := by
  intro w hw
  by_cases hk : w = k
  · subst hk; exact ⟨o, by simpa using hb⟩
  · simp only [if_neg hk]; exact h w (by omega)
def exactC (k : Int) (n : Int) : TC := ⟨2, k, k, n, 1, 0, 0⟩
/-- the most that both ends can be apart, once n of the numbers from lo on have been tried on trip k -/
inductive WorstR (t r : Int) (l : List TC) (k lo : Int) : Nat → Int → Prop
  | zero : WorstR t r l k lo 0 0
  | succ {n w lo2 hi2} : WorstR t r l k lo n w → ManyR t 0 t (mlOf t r (l ++ [exactC k (wr (lo + (n : Int)))])) lo2 hi2 → WorstR t r l k lo (n + 1) (if wr (hi2 - lo2) > w then wr (hi2 - lo2) else w)
inductive OuterR (t r : Int) (l : List TC) : Nat → Int → Int → Prop
  | zero : OuterR t r l 0 (-1) 0
  | yes {k b a lo hi w} : OuterR t r l k b a → ManyR t (k : Int) ((k : Int) + 1) (mlOf t r l) lo hi → WorstR t r l k lo (wr (wr (hi - lo) + 1)).toNat w → (decide (b < 0) || decide (w < a)) = true → OuterR t r l (k + 1) k w
  | no {k b a lo hi w} : OuterR t r l k b a → ManyR t (k : Int) ((k : Int) + 1) (mlOf t r l) lo hi → WorstR t r l k lo (wr (wr (hi - lo) + 1)).toNat w → (decide (b < 0) || decide (w < a)) = false → OuterR t r l (k + 1) b a
theorem check_ok {t r : Int} {l : List TC} (h : checkI t r l = 0) : checkB t r l = true := by
  unfold checkI at h
  split at h
  · assumption
  · omega
theorem putL_keys {κ ν : Type} [DecidableEq κ] {m : List (κ × ν)} {p : κ} {v : ν} {x : κ × ν} (h : x ∈ putL m p v) : x.1 = p ∨ x ∈ m := by
  unfold putL at h
  split at h
  · rcases List.mem_or_eq_of_mem_set h with h | h
    · exact .inr h
    · subst h; exact .inl rfl
  · rcases List.mem_append.1 h with h | h
    · exact .inr h
    · rw [List.mem_singleton.1 h]; exact .inl rfl
def KeysIn (t : Int) (m : List Ent) : Prop := ∀ x ∈ m, 0 ≤ x.1.1 ∧ x.1.1 ≤ t ∧ 0 ≤ x.1.2 ∧ x.1.2 ≤ t
theorem KeysIn.note {t : Int} {m : List Ent} {a b v : Int} (h : KeysIn t m) (ha : 0 ≤ a ∧ a ≤ t) (hb : 0 ≤ b ∧ b ≤ t) : KeysIn t (noteL m (a, b) v) := by
  intro x hx
  rcases putL_keys hx with hx | hx
  · rw [hx]; exact ⟨ha.1, ha.2, hb.1, hb.2⟩
  · exact h x hx
/-- all entries are met, each once -/
theorem done_perm0 {κ ν : Type} {es done : List (Nat × κ × ν)} {clock : Nat} (hs : Stamped es clock) (h1 : ∀ y ∈ done, y ∈ es) (h2 : (done.map (·.1)).Nodup) (h3 : ∀ y ∈ es, y.1 ∈ done.map (·.1)) : (done.map (·.2)).Perm (es.map (·.2)) := by
  refine List.Perm.map _ ?_
  have inj : ∀ {l : List (Nat × κ × ν)}, (l.map (·.1)).Nodup → l.Nodup := fun h => List.Pairwise.of_map _ (fun _ _ h h' => h (by rw [h'])) h
  have uniq : ∀ {a b : Nat × κ × ν}, a ∈ es → b ∈ es → a.1 = b.1 → a = b := by
    intro a b ha hb hab
    obtain ⟨i, hi, rfl⟩ := List.getElem_of_mem ha
    obtain ⟨j, hj, rfl⟩ := List.getElem_of_mem hb
    have hp := List.pairwise_iff_getElem.1 hs.1
    rcases Nat.lt_trichotomy i j with h | h | h
    · exact absurd (by rw [List.getElem_map, List.getElem_map]; exact hab) (hp i j (by simpa using hi) (by simpa using hj) h)
    · subst h; rfl
    · exact absurd (by rw [List.getElem_map, List.getElem_map]; exact hab.symm) (hp j i (by simpa using hj) (by simpa using hi) h)
  have : ∀ y ∈ es, y ∈ done := fun y hy => by
    obtain ⟨z, hz, hzy⟩ := List.mem_map.1 (h3 y hy)
    rwa [← uniq (h1 z hz) hy hzy]
  classical
  exact (List.perm_ext_iff_of_nodup (inj h2) (inj hs.1)).2 fun a => ⟨h1 a, this a⟩
theorem done_perm {es done : List (Nat × Ent)} {clock : Nat} (hs : Stamped es clock) (h1 : ∀ y ∈ done, y ∈ es) (h2 : (done.map (·.1)).Nodup) (h3 : ∀ y ∈ es, y.1 ∈ done.map (·.1)) : (ents done).Perm (ents es) := done_perm0 hs h1 h2 h3
end Go.Tally

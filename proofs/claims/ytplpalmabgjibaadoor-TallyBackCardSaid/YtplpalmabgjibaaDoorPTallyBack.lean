/- The plain law of trips that are told backwards. -/
import Derived.Test.YtplpalmabgjibaaDoorWTallyBack
import Derived.Test.YtplpalmabgjibaaDoorPTallyWhose
set_option linter.unusedVariables false
set_option linter.unusedSimpArgs false
namespace Go.Proofs.YtplpalmabgjibaaDoor
open Go Go.Fx Go.Tally
def mirC (T : Int) (x : TallyCount) : TallyCount := ⟨x.Who, T - 1 - x.To, T - 1 - x.From, x.Told, x.Unit, x.Under, x.Over⟩
def mirB (b : TallyBook) : TallyBook := ⟨b.Trips, b.Room, b.Counts.map (mirC b.Trips)⟩
def mirQ (T : Int) (q : Nat → Int) (k : Nat) : Int := -q (T.toNat - k)
theorem mirC_mirC (T : Int) (x : TallyCount) : mirC T (mirC T x) = x := by
  unfold mirC
  cases x
  simp only [TallyCount.mk.injEq, true_and, and_true]
  omega
theorem mirB_mirB (b : TallyBook) : mirB (mirB b) = b := by
  unfold mirB
  cases b with
  | mk t r l =>
    simp only [TallyBook.mk.injEq, true_and, List.map_map]
    have : (mirC t ∘ mirC t) = id := by funext x; exact mirC_mirC t x
    rw [this, List.map_id]
theorem mir_cnt {T : Int} {x : TallyCount} (h : Cnt T x) : Cnt T (mirC T x) := by
  obtain ⟨a, b, c, d, e, f, g, h, i, j, k, l, m, n⟩ := h
  exact ⟨a, b, by show 0 ≤ T - 1 - x.To; omega, by show T - 1 - x.To ≤ T - 1 - x.From; omega, by show T - 1 - x.From < T; omega, f, g, h, i, j, k, l, m, n⟩
theorem mir_val {b : TallyBook} (V : Val b) : Val (mirB b) := by
  refine ⟨V.t1, V.t8, V.r0, V.r60, by simp [mirB]; exact V.l8, fun y hy => ?_⟩
  obtain ⟨x, hx, rfl⟩ := List.mem_map.1 hy
  exact cnt_iff.2 (mir_cnt (cnt_iff.1 (V.cs x hx)))
theorem mir_fit {b : TallyBook} (V : Val b) {out : TallyCount → Nat → Bool} (ho : ∀ x i, out (mirC b.Trips x) i = out x i) {q : Nat → Int} (h : Fit b out q) : Fit (mirB b) out (mirQ b.Trips q) := by
  have t1 := V.t1
  refine ⟨fun k hk => ?_, fun i y hy hoy => ?_⟩
  · have hk : (k : Int) < b.Trips := hk
    have h1 := h.1 (b.Trips.toNat - (k + 1)) (by omega)
    rw [show b.Trips.toNat - (k + 1) + 1 = b.Trips.toNat - k by omega] at h1
    show -q (b.Trips.toNat - (k + 1)) ≤ -q (b.Trips.toNat - k) + b.Room ∧ -q (b.Trips.toNat - k) ≤ -q (b.Trips.toNat - (k + 1))
    omega
  · have hy : (b.Counts.map (mirC b.Trips))[i]? = some y := hy
    rw [List.getElem?_map] at hy
    obtain ⟨x, hx, rfl⟩ := Option.map_eq_some_iff.1 hy
    rw [ho] at hoy
    have h2 := h.2 i x hx hoy
    have hc := cnt_iff.1 (V.cs x (List.mem_of_getElem? hx))
    have f0 := hc.f0; have ft := hc.ft; have tT := hc.tT
    unfold CntQ at h2 ⊢
    show leastV x ≤ -q (b.Trips.toNat - (b.Trips - 1 - x.From + 1).toNat) - -q (b.Trips.toNat - (b.Trips - 1 - x.To).toNat) ∧ -q (b.Trips.toNat - (b.Trips - 1 - x.From + 1).toNat) - -q (b.Trips.toNat - (b.Trips - 1 - x.To).toNat) ≤ mostV x
    rw [show b.Trips.toNat - (b.Trips - 1 - x.From + 1).toNat = x.From.toNat by omega, show b.Trips.toNat - (b.Trips - 1 - x.To).toNat = (x.To + 1).toNat by omega]
    omega
theorem mir_ex {b : TallyBook} (V : Val b) {out : TallyCount → Nat → Bool} (ho : ∀ x i, out (mirC b.Trips x) i = out x i) : (∃ q, Fit (mirB b) out q) ↔ ∃ q, Fit b out q := by
  constructor
  · rintro ⟨q, hq⟩
    have := mir_fit (mir_val V) (out := out) ho hq
    rw [mirB_mirB] at this
    exact ⟨_, this⟩
  · rintro ⟨q, hq⟩; exact ⟨_, mir_fit V ho hq⟩
theorem mir_spn {b : TallyBook} (V : Val b) {f t : Int} (h0 : 0 ≤ f) (h1 : f ≤ t) (h2 : t < b.Trips) {lo hi : Int} (S : Spn (Fit b no) f.toNat (t + 1).toNat lo hi) : Spn (Fit (mirB b) no) (b.Trips - 1 - t).toNat (b.Trips - 1 - f + 1).toNat lo hi := by
  have e : ∀ q : Nat → Int, mirQ b.Trips q (b.Trips - 1 - f + 1).toNat - mirQ b.Trips q (b.Trips - 1 - t).toNat = q (t + 1).toNat - q f.toNat := by
    intro q
    unfold mirQ
    rw [show b.Trips.toNat - (b.Trips - 1 - f + 1).toNat = f.toNat by omega, show b.Trips.toNat - (b.Trips - 1 - t).toNat = (t + 1).toNat by omega]
    omega
  have hn : ∀ x i, no (mirC b.Trips x) i = no x i := fun _ _ => rfl
  obtain ⟨p, hp, ep⟩ := S.loE
  obtain ⟨q, hq, eq⟩ := S.hiE
  refine ⟨⟨_, mir_fit V hn hp, by rw [e, ep]⟩, ⟨_, mir_fit V hn hq, by rw [e, eq]⟩, fun r hr => ?_⟩
  have hr2 := mir_fit (mir_val V) (out := no) (fun _ _ => rfl) hr
  rw [mirB_mirB] at hr2
  have a := S.all _ hr2
  have e2 : mirQ (mirB b).Trips r (t + 1).toNat - mirQ (mirB b).Trips r f.toNat = r (b.Trips - 1 - f + 1).toNat - r (b.Trips - 1 - t).toNat := by
    show -r (b.Trips.toNat - (t + 1).toNat) - -r (b.Trips.toNat - f.toNat) = _
    rw [show b.Trips.toNat - (t + 1).toNat = (b.Trips - 1 - t).toNat by omega, show b.Trips.toNat - f.toNat = (b.Trips - 1 - f + 1).toNat by omega]
    omega
  rw [e2] at a
  exact a
theorem Few.uniq {b : TallyBook} {v w : List Int} (F : Few b v) (G : Few b w) : v = w := by
  have hl : v.length = w.length := Nat.le_antisymm (F.len w G.clm G.can) (G.len v F.clm F.can)
  have n1 := F.lex w G.clm G.can hl.symm
  have n2 := G.lex v F.clm F.can hl
  have : ∀ i : Nat, v[i]? = w[i]? := by
    intro i
    induction i using Nat.strongRecOn with
    | _ i ih =>
      by_cases hi : i < v.length
      · have h1 := List.getElem?_eq_getElem hi
        have h2 := List.getElem?_eq_getElem (show i < w.length by omega)
        generalize v[i] = x at h1
        generalize w[i]'(by omega) = y at h2
        rcases Int.lt_trichotomy x y with h | h | h
        · exact absurd ⟨i, x, y, h1, h2, h, fun j hj => ih j hj⟩ n2
        · rw [h1, h2, h]
        · exact absurd ⟨i, y, x, h2, h1, h, fun j hj => (ih j hj).symm⟩ n1
      · rw [List.getElem?_eq_none (by omega), List.getElem?_eq_none (by omega)]
  exact List.ext_getElem? this
theorem Clm.uniq {l l' : List Int} {n : Int} (h : Clm l n) (h' : Clm l' n) (hm : ∀ x, x ∈ l ↔ x ∈ l') : l = l' := by
  -- in a list that climbs a number stands at one place
  have one : ∀ {l : List Int}, Clm l n → ∀ (i k : Nat) (x y : Int), l[i]? = some x → l[k]? = some y → i < k → x < y := fun hc i k x y hx hy hik => by
    have := hc.lt (k - i - 1) i x y hx (by rw [show i + (k - i - 1) + 1 = k by omega]; exact hy)
    exact this
  have at_ : ∀ {l : List Int} {x : Int}, x ∈ l → ∃ k : Nat, l[k]? = some x := fun hx => by
    obtain ⟨k, hk, he⟩ := List.getElem_of_mem hx
    exact ⟨k, by rw [List.getElem?_eq_getElem hk, he]⟩
  refine List.ext_getElem? fun i => ?_
  induction i using Nat.strongRecOn with
  | _ i ih =>
    -- what stands at i in the one stands not before i in the other
    have key : ∀ {l l' : List Int}, Clm l n → Clm l' n → (∀ x, x ∈ l ↔ x ∈ l') → (∀ j, j < i → l[j]? = l'[j]?) → ∀ x, l[i]? = some x → ∃ y, l'[i]? = some y ∧ y ≤ x := by
      intro l l' hc hc' hmm hj x hx
      obtain ⟨k, hk⟩ := at_ ((hmm x).1 (List.mem_of_getElem? hx))
      have hki : ¬ k < i := fun h => by
        have h2 : l[k]? = some x := (hj k h).trans hk
        have := one hc k i x x h2 hx h
        omega
      have hil : i < l'.length := by have := (List.getElem?_eq_some_iff.1 hk).1; omega
      refine ⟨_, List.getElem?_eq_getElem hil, ?_⟩
      by_cases hik : i = k
      · subst hik
        rw [List.getElem?_eq_getElem hil] at hk
        have := Option.some.inj hk
        omega
      · have := one hc' i k _ x (List.getElem?_eq_getElem hil) hk (by omega)
        omega
    cases hx : l[i]? with
    | some x =>
      obtain ⟨y, hy, hyx⟩ := key h h' hm ih x hx
      obtain ⟨z, hz, hzy⟩ := key h' h (fun x => (hm x).symm) (fun j hj => (ih j hj).symm) y hy
      rw [hx] at hz
      have := Option.some.inj hz
      rw [hy]; congr 1; omega
    | none =>
      cases hy : l'[i]? with
      | none => rfl
      | some y =>
        obtain ⟨z, hz, _⟩ := key h' h (fun x => (hm x).symm) (fun j hj => (ih j hj).symm) y hy
        rw [hx] at hz; cases hz
theorem alike_self (l : List Int) (hl : l.length ≤ 9223372036854775807) : B_Alike l l = some true := by
  unfold B_Alike
  rw [bne_self_eq_false, cond_false]
  refine loopF_spec (body := B_Alike_l1 l l) (fun i : Int => ∃ k : Nat, i = k ∧ k ≤ l.length) (fun i => l.length - i.toNat) (fun _ => true) ?_ big 0 ⟨0, rfl, Nat.zero_le _⟩ (by unfold big; simp; omega)
  rintro rec i ⟨k, rfl, hk⟩ ih
  unfold B_Alike_l1
  by_cases hlt : k < l.length
  · rw [decide_eq_true (by omega), cond_true, getI_nat, List.getElem?_eq_getElem hlt]
    simp only [Option.bind_some, bne_self_eq_false, cond_false]
    rw [wrI (by omega) (by omega)]
    exact ih _ ⟨k + 1, by simp, by omega⟩ (by (try simp only); omega)
  · rw [decide_eq_false (by omega), cond_false]
theorem law_tallyBack (b : TallyBook) (hl : b.Counts.length ≤ 9223372036854775807) (a : List Int) : law_TallyBack b a = some true := by
  unfold law_TallyBack
  rw [sound_eq b hl, Option.bind_some]
  cases hv : valB b
  case false => simp only [Bool.not_false, cond_true]; rw [counted_t]; rfl
  simp only [Bool.not_true, cond_false]
  have V := val_iff.1 hv
  have VM := mir_val V
  have t1 := V.t1; have t8 := V.t8; have l8 := V.l8
  refine loopF_spec (body := law_TallyBack_l2 b a) (fun z : Int × List TallyCount => ∃ k : Nat, z.1 = k ∧ k ≤ b.Counts.length ∧ z.2 = (b.Counts.take k).map (mirC b.Trips)) (fun z => b.Counts.length - z.1.toNat) (fun _ => true) ?_ big (0, []) ⟨0, rfl, Nat.zero_le _, by simp⟩ (by unfold big; simp; omega)
  rintro rec ⟨i, l⟩ ⟨k, rfl, hk, rfl⟩ ih
  simp only at ih ⊢
  unfold law_TallyBack_l2
  simp only
  rw [wrI (x := b.Trips - 1) (by omega) (by omega)]
  by_cases hlt : k < b.Counts.length
  · rw [decide_eq_true (by omega), cond_true, getI_nat, List.getElem?_eq_getElem hlt]
    have hx := List.getElem?_eq_getElem hlt
    have htk := List.take_succ_eq_append_getElem hlt
    generalize b.Counts[k] = x at hx htk
    have hc := cnt_iff.1 (V.cs x (List.mem_of_getElem? hx))
    have f0 := hc.f0; have ft := hc.ft; have tT := hc.tT
    simp only [Option.bind_some]
    rw [wrI (x := b.Trips - 1 - x.To) (by omega) (by omega), wrI (x := b.Trips - 1 - x.From) (by omega) (by omega), need_of (by simp [fitsL]; omega), wrI (by omega) (by omega)]
    exact ih _ ⟨k + 1, by simp, by omega, by (try simp only); rw [htk, List.map_append]; rfl⟩ (by (try simp); omega)
  rw [decide_eq_false (by omega), cond_false, List.take_of_length_le (show b.Counts.length ≤ k by omega), show (⟨b.Trips, b.Room, b.Counts.map (mirC b.Trips)⟩ : TallyBook) = mirB b from rfl]
  obtain ⟨f, ef, hf⟩ := mod_ok (aget a 0) b.Trips (by omega) (by omega)
  rw [ef, Option.bind_some, wrI (x := b.Trips - f) (by omega) (by omega)]
  obtain ⟨n, en, hn⟩ := mod_ok (aget a 1) (b.Trips - f) (by omega) (by omega)
  rw [en, Option.bind_some, wrI (x := f + n) (by omega) (by omega), wrI (x := b.Trips - 1 - (f + n)) (by omega) (by omega), wrI (x := b.Trips - 1 - f) (by omega) (by omega)]
  obtain ⟨s, e, hs, hsc⟩ := many_law V (f := f) (t := f + n) ⟨by omega, by omega, by omega⟩
  obtain ⟨s2, e2, hs2, hsc2⟩ := many_law VM (f := b.Trips - 1 - (f + n)) (t := b.Trips - 1 - f) ⟨by omega, by omega, by show b.Trips - 1 - f < b.Trips; omega⟩
  obtain ⟨p, e3, hp, hpc⟩ := pays_law V (r := 7) ⟨by omega, by omega⟩
  obtain ⟨p2, e4, hp2, hpc2⟩ := pays_law VM (r := 7) ⟨by omega, by omega⟩
  have hcc : CanBe (mirB b) ↔ CanBe b := mir_ex V (out := no) (fun _ _ => rfl)
  have m1 : s = s2 ∧ e = e2 := by
    rcases hsc with ⟨rfl, C, S⟩ | ⟨rfl, rfl, C⟩
    · rcases hsc2 with ⟨rfl, _, S2⟩ | ⟨_, _, C'⟩
      · obtain ⟨z1, z2⟩ := S2.uniq (mir_spn V (by omega) (by omega) (by omega) S)
        refine ⟨?_, rfl⟩
        cases s; cases s2
        simp only at z1 z2
        rw [z1, z2]
      · exact absurd (hcc.2 C) C'
    · rcases hsc2 with ⟨_, C', _⟩ | ⟨rfl, rfl, _⟩
      · exact absurd (hcc.1 C') C
      · exact ⟨rfl, rfl⟩
  have m2 : p = p2 ∧ e3 = e4 := by
    rcases hpc with ⟨rfl, C, lo, hi, rfl, S⟩ | ⟨rfl, rfl, C⟩
    · rcases hpc2 with ⟨rfl, _, lo2, hi2, rfl, S2⟩ | ⟨_, _, C'⟩
      · have S' := mir_spn V (f := 0) (t := b.Trips - 1) (by omega) (by omega) (by omega) (by rw [show (b.Trips - 1 + 1).toNat = b.Trips.toNat by omega]; exact S)
        rw [show (b.Trips - 1 - (b.Trips - 1)).toNat = 0 by omega, show (b.Trips - 1 - 0 + 1).toNat = b.Trips.toNat by omega] at S'
        obtain ⟨z1, z2⟩ := S2.uniq S'
        rw [z1, z2]
        exact ⟨rfl, rfl⟩
      · exact absurd (hcc.2 C) C'
    · rcases hpc2 with ⟨_, C', _⟩ | ⟨rfl, rfl, _⟩
      · exact absurd (hcc.1 C') C
      · exact ⟨rfl, rfl⟩
  obtain ⟨v, hv1, F⟩ := wrong_eq V
  obtain ⟨w, hw1, G⟩ := wrong_eq VM
  obtain ⟨l1, hl1, W1⟩ := whose_eq V
  obtain ⟨l2, hl2, W2⟩ := whose_eq VM
  have hlen : (mirB b).Counts.length = b.Counts.length := by simp [mirB]
  have hco : ∀ o, CanO (mirB b) o ↔ CanO b o := fun o => mir_ex V (out := outL o) (fun _ _ => rfl)
  have m3 : v = w := F.uniq ⟨by have := G.clm; rwa [hlen] at this, (hco w).1 G.can, fun o h1 h2 => G.len o (by rw [hlen]; exact h1) ((hco o).2 h2), fun o h1 h2 => G.lex o (by rw [hlen]; exact h1) ((hco o).2 h2)⟩
  have hcw : ∀ x, CanW (mirB b) x ↔ CanW b x := fun x => mir_ex V (out := outW x) (fun _ _ => rfl)
  have m4 : l1 = l2 := W1.clm.uniq W2.clm fun x => by
    constructor
    · intro hx
      obtain ⟨k, hk, he⟩ := List.getElem_of_mem hx
      obtain ⟨x0, x3, _⟩ := W1.clm k x (by rw [List.getElem?_eq_getElem hk, he])
      have a1 := W1.mem x.toNat (by omega)
      have a2 := W2.mem x.toNat (by omega)
      rw [show ((x.toNat : Nat) : Int) = x by omega] at a1 a2
      exact a2.2 ((hcw x).2 (a1.1 hx))
    · intro hx
      obtain ⟨k, hk, he⟩ := List.getElem_of_mem hx
      obtain ⟨x0, x3, _⟩ := W2.clm k x (by rw [List.getElem?_eq_getElem hk, he])
      have a1 := W1.mem x.toNat (by omega)
      have a2 := W2.mem x.toNat (by omega)
      rw [show ((x.toNat : Nat) : Int) = x by omega] at a1 a2
      exact a1.2 ((hcw x).1 (a2.1 hx))
  obtain ⟨rfl, rfl⟩ := m1
  obtain ⟨rfl, rfl⟩ := m2
  subst m3 m4
  have vl := F.clm.len (by omega)
  have ll := W1.clm.len (by omega)
  rw [hs, Option.bind_some, hs2, Option.bind_some]
  simp only [beq_self_eq_true, Bool.and_self, Bool.not_true, cond_false, bne_self_eq_false]
  rw [hp, Option.bind_some, hp2, Option.bind_some, hv1, Option.bind_some, hw1, Option.bind_some, hl1, Option.bind_some, hl2, Option.bind_some]
  simp only [beq_self_eq_true, Bool.and_self, cond_true]
  rw [alike_self v (by omega), Option.bind_some, cond_true, alike_self l1 (by omega), Option.bind_some, cond_true, counted_t]
  rfl
end Go.Proofs.YtplpalmabgjibaaDoor

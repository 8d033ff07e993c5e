/- The plain law of one count more. -/
import Derived.Test.YtplpalmabgjibaaDoorWTallyMore
import Derived.Test.YtplpalmabgjibaaDoorPWrong
import Derived.Test.YtplpalmabgjibaaDoorPTruth
import Derived.Test.YtplpalmabgjibaaDoorPCounted
set_option linter.unusedVariables false
set_option linter.unusedSimpArgs false
namespace Go.Proofs.YtplpalmabgjibaaDoor
open Go Go.Fx Go.Tally
theorem val_plus {b : TallyBook} (V : Val b) (h7 : b.Counts.length ≤ 7) (x : TallyCount) : valB (plus b x) = cntB b.Trips x := by
  have h := val_iff.2 V
  unfold valB cntsB at h
  simp only [Bool.and_eq_true] at h
  unfold valB cntsB plus
  simp only [h.1.1.1, h.1.1.2, Bool.true_and, List.all_append, h.2, List.all_cons, List.all_nil, Bool.and_true]
  rw [decide_eq_true (by simp; omega)]
  simp
theorem fits_bad {b : TallyBook} (V : Val b) {x : TallyCount} (hx : cntB b.Trips x = false) : tally_Fits b x = some (false, 51) := by
  obtain ⟨y, hy⟩ := asked_no V
  unfold tally_Fits
  rw [isCount_eq, Option.bind_some, hx, hy, Option.bind_some]
  rfl
theorem right_bad {b : TallyBook} (hl : b.Counts.length ≤ 9223372036854775807) (h : valB b = false) : tally_Right b = some (false, 50) := by
  unfold tally_Right
  rw [check_eq b hl, h]
  rfl
/-- counts that must be false are no fewer with a count more -/
theorem few_le {b : TallyBook} {x : TallyCount} {v w : List Int} (F : Few b v) (G : Few (plus b x) w) : v.length ≤ w.length := by
  have hw : Clm w (b.Counts.length + 1) := by
    have := G.clm
    rw [show ((plus b x).Counts.length : Int) = (b.Counts.length : Int) + 1 by simp [plus]] at this
    exact this
  -- those of them that were there before
  obtain ⟨v', h1, h2, h3⟩ : ∃ v' : List Int, Clm v' b.Counts.length ∧ v'.length ≤ w.length ∧ ∀ i : Nat, i < b.Counts.length → (i : Int) ∈ w → (i : Int) ∈ v' := by
    by_cases hl : w.getLast? = some (b.Counts.length : Int)
    · rw [List.getLast?_eq_getElem?] at hl
      have hlt := (List.getElem?_eq_some_iff.1 hl).1
      have get : ∀ (k : Nat) (y : Int), w.dropLast[k]? = some y → k < w.length - 1 ∧ w[k]? = some y := by
        intro k y hy
        rw [List.dropLast_eq_take, List.getElem?_take] at hy
        split at hy
        · exact ⟨by assumption, hy⟩
        · cases hy
      refine ⟨w.dropLast, fun k y hy => ?_, by simp, fun i hi hm => ?_⟩
      · obtain ⟨hk, hy'⟩ := get k y hy
        obtain ⟨a1, a2, a3⟩ := hw k y hy'
        have := hw.lt (w.length - 1 - k - 1) k y _ hy' (by rw [show k + (w.length - 1 - k - 1) + 1 = w.length - 1 by omega]; exact hl)
        exact ⟨a1, this, fun z h0 hz => a3 z h0 (get _ z hz).2⟩
      · obtain ⟨k, hk, he⟩ := List.getElem_of_mem hm
        have hk' : k < w.length - 1 := by
          by_cases hkl : k = w.length - 1
          · subst hkl
            rw [List.getElem?_eq_getElem hk, he] at hl
            have := Option.some.inj hl
            omega
          · omega
        refine List.mem_of_getElem? (i := k) ?_
        rw [List.dropLast_eq_take, List.getElem?_take, if_pos hk', List.getElem?_eq_getElem hk, he]
    · refine ⟨w, fun k y hy => ?_, Nat.le_refl _, fun i _ h => h⟩
      obtain ⟨a1, a2, a3⟩ := hw k y hy
      refine ⟨a1, ?_, a3⟩
      have hk := (List.getElem?_eq_some_iff.1 hy).1
      by_cases hkl : k = w.length - 1
      · subst hkl
        rw [List.getLast?_eq_getElem?, hy] at hl
        have : y ≠ (b.Counts.length : Int) := fun h => hl (by rw [h])
        omega
      · have hlast := List.getElem?_eq_getElem (show w.length - 1 < w.length by omega)
        have := hw.lt (w.length - 1 - k - 1) k y _ hy (by rw [show k + (w.length - 1 - k - 1) + 1 = w.length - 1 by omega]; exact hlast)
        have := (hw _ _ hlast).2.1
        omega
  have hc : CanO b v' := by
    obtain ⟨q, hq⟩ := G.can
    refine ⟨q, hq.1, fun i y hy ho => hq.2 i y ?_ ?_⟩
    · show (b.Counts ++ [x])[i]? = some y
      rw [List.getElem?_append_left (List.getElem?_eq_some_iff.1 hy).1]; exact hy
    · unfold outL at ho ⊢
      simp only [decide_eq_false_iff_not] at ho ⊢
      exact fun h => ho (h3 i (List.getElem?_eq_some_iff.1 hy).1 h)
  exact Nat.le_trans (F.len v' h1 hc) h2
theorem more_j3 {b : TallyBook} (V : Val b) {x : TallyCount} (VX : Val (plus b x)) (bits : List Int) (hl : bits.length ≤ 9223372036854775807) {is : Bool} (hi : is = true ↔ CanBe (plus b x)) : law_TallyMore_j3 (is, 0) bits b x () = some true := by
  have t1 := V.t1; have t8 := V.t8
  unfold law_TallyMore_j3
  cases is with
  | false => simp only [Bool.not_false, cond_true]; rw [counted_t]; rfl
  | true =>
    simp only [Bool.not_true, cond_false]
    obtain ⟨q0, hq0⟩ := hi.1 rfl
    obtain ⟨c1, h1⟩ := choose_ok bits hl 1
    obtain ⟨c2, h2⟩ := choose_ok bits hl 2
    obtain ⟨f, ef, hf⟩ := mod_ok c1 b.Trips (by omega) (by omega)
    rw [h1, Option.bind_some, ef, Option.bind_some, h2, Option.bind_some, wrI (x := b.Trips - f) (by omega) (by omega)]
    obtain ⟨n, en, hn⟩ := mod_ok c2 (b.Trips - f) (by omega) (by omega)
    rw [en, Option.bind_some, wrI (x := f + n) (by omega) (by omega)]
    obtain ⟨s, e, hs, hc⟩ := many_law V (f := f) (t := f + n) ⟨by omega, by omega, by omega⟩
    obtain ⟨s2, e2, hs2, hc2⟩ := many_law VX (f := f) (t := f + n) ⟨by omega, by omega, by show f + n < b.Trips; omega⟩
    rcases hc with ⟨rfl, _, S⟩ | ⟨_, _, C'⟩
    case inr => exact absurd ⟨q0, (fit_plus.1 hq0).1⟩ C'
    rcases hc2 with ⟨rfl, _, S2⟩ | ⟨_, _, C'⟩
    case inr => exact absurd ⟨q0, hq0⟩ C'
    rw [hs, Option.bind_some, show (⟨b.Trips, b.Room, b.Counts ++ [x]⟩ : TallyBook) = plus b x from rfl, hs2, Option.bind_some]
    simp only [beq_self_eq_true, cond_true]
    obtain ⟨p1, g1, e1⟩ := S2.loE
    obtain ⟨p2, g2, e2⟩ := S2.hiE
    have a1 := S.all p1 (fit_plus.1 g1).1
    have a2 := S.all p2 (fit_plus.1 g2).1
    have a3 := S2.all p1 g1
    unfold B_Covers
    rw [decide_eq_true (show s2.Low ≥ s.Low by omega), cond_true, Option.bind_some, decide_eq_true (show s2.High ≤ s.High by omega), decide_eq_true (show s2.Low ≤ s2.High by omega), counted_t]
    rfl
theorem more_j4 {b : TallyBook} (V : Val b) {x : TallyCount} (VX : Val (plus b x)) (bits : List Int) (hl : bits.length ≤ 9223372036854775807) {is fits : Bool} {e : Int} (hi : is = true ↔ CanBe (plus b x)) (he : e = 0 ∨ (e = 52 ∧ ¬ CanBe b)) : law_TallyMore_j4 b bits x (is, 0) (fits, e) () = some true := by
  have J := more_j3 V VX bits hl hi
  unfold law_TallyMore_j4
  obtain ⟨u, hu, T⟩ := truly_eq V hl
  obtain ⟨was, hw, hwi⟩ := can_law V T
  have TX : Tru (plus b x) u := ⟨T.len, T.bnd⟩
  obtain ⟨now, hn, hni⟩ := can_law VX TX
  rw [hu, Option.bind_some, hw, Option.bind_some, show (⟨b.Trips, b.Room, b.Counts ++ [x]⟩ : TallyBook) = plus b x from rfl, hn, Option.bind_some]
  simp only [bne_self_eq_false, cond_false]
  have w1 : now = true → was = true := fun h => hwi.2 (fit_plus.1 (hni.1 h)).1
  have w2 : now = true → is = true := fun h => hi.2 ⟨_, hni.1 h⟩
  have w3 : was = true → (e != 0) = false := fun h => by
    rcases he with h' | ⟨_, h'⟩
    · simp [h']
    · exact absurd ⟨_, hwi.1 h⟩ h'
  cases now
  · cases was
    · simp only [cond_false]; exact J
    · simp only [cond_false, cond_true, w3 rfl]; exact J
  · simp only [w1 rfl, w2 rfl, w3 (w1 rfl), cond_true, cond_false, Bool.not_true]
    rw [w2 rfl] at J
    exact J
theorem j1_j3 {b : TallyBook} (h : b.Counts = []) (x : TallyCount) (bits : List Int) (r : Bool × Int) : law_TallyMore_j1 r bits b x () = law_TallyMore_j3 r bits b x () := by
  unfold law_TallyMore_j1 law_TallyMore_j3
  rw [h]; rfl
theorem j2_j4 {b : TallyBook} (h : b.Counts = []) (x : TallyCount) (bits : List Int) (r r' : Bool × Int) : law_TallyMore_j2 b bits x r r' () = law_TallyMore_j4 b bits x r r' () := by
  unfold law_TallyMore_j2 law_TallyMore_j4
  simp only [j1_j3 h]
  rw [h]; rfl
theorem law_tallyMore (b : TallyBook) (hl : b.Counts.length ≤ 9223372036854775807) (x : TallyCount) (bits : List Int) (hb : bits.length ≤ 9223372036854775807) : law_TallyMore b x bits = some true := by
  unfold law_TallyMore
  rw [sound_eq b hl, Option.bind_some]
  cases hv : valB b
  case false => simp only [Bool.not_false, cond_true]; rw [counted_t]; rfl
  simp only [Bool.not_true, cond_false]
  have V := val_iff.1 hv
  have l8 := V.l8
  by_cases h8 : (b.Counts.length : Int) = 8
  · rw [show ((b.Counts.length : Int) == 8) = true by simpa using h8, cond_true, counted_t]; rfl
  rw [show ((b.Counts.length : Int) == 8) = false by simpa using h8, cond_false]
  have h7 : b.Counts.length ≤ 7 := by omega
  have hfit : ∀ n : Nat, n ≤ 9 → fitsL n 56 = true := fun n hn => by simp [fitsL]; omega
  cases hcx : cntB b.Trips x
  case false =>
    have hbad : tally_Right (plus b x) = some (false, 50) := right_bad (by simp [plus]; omega) (by rw [val_plus V h7, hcx])
    cases he : b.Counts.isEmpty
    · rw [cond_false, need_of (hfit _ (by simp; omega)), need_of (hfit _ (by simp; omega)), fits_bad V hcx, Option.bind_some, show (⟨b.Trips, b.Room, b.Counts ++ [x]⟩ : TallyBook) = plus b x from rfl, hbad, counted_t]; rfl
    · have hnil := List.isEmpty_iff.1 he
      rw [cond_true, need_of (hfit _ (by simp)), fits_bad V hcx, Option.bind_some, show (⟨b.Trips, b.Room, [x]⟩ : TallyBook) = plus b x by unfold plus; rw [hnil]; rfl, hbad, counted_t]; rfl
  have hc := cnt_iff.1 hcx
  have VX : Val (plus b x) := val_iff.1 (by rw [val_plus V h7, hcx])
  obtain ⟨fits, e, hfi, hfc⟩ := fits_law V hc
  obtain ⟨is, hr, hri⟩ := right_eq VX
  obtain ⟨v, hvv, F⟩ := wrong_eq V
  obtain ⟨w, hww, G⟩ := wrong_eq VX
  have hle := few_le F G
  have tail : law_TallyMore_j4 b bits x (is, 0) (fits, e) () = some true := more_j4 V VX bits hb hri (by
    rcases hfc with ⟨h, _⟩ | ⟨h, _, h'⟩
    · exact .inl h
    · exact .inr ⟨h, h'⟩)
  have e1 : e = 0 → (is != fits) = false := fun h => by
    rcases hfc with ⟨_, _, hf⟩ | ⟨h', _⟩
    · have : is = fits := by rw [Bool.eq_iff_iff, hri, hf]
      simp [this]
    · omega
  have e2 : e = 52 → (is != false) = false := fun h => by
    rcases hfc with ⟨h', _⟩ | ⟨_, _, hn⟩
    · omega
    · cases is with
      | false => rfl
      | true =>
        obtain ⟨q, hq⟩ := hri.1 rfl
        exact absurd ⟨q, (fit_plus.1 hq).1⟩ hn
  have e3 : e = 0 ∨ e = 52 := by
    rcases hfc with ⟨h, _⟩ | ⟨h, _⟩
    · exact .inl h
    · exact .inr h
  cases he : b.Counts.isEmpty
  · rw [cond_false, need_of (hfit _ (by simp; omega)), need_of (hfit _ (by simp; omega)), hfi, Option.bind_some, show (⟨b.Trips, b.Room, b.Counts ++ [x]⟩ : TallyBook) = plus b x from rfl, hr, Option.bind_some]
    simp only [bne_self_eq_false, cond_false]
    rw [hvv, Option.bind_some, hww, Option.bind_some]
    simp only [bne_self_eq_false, cond_false]
    rw [decide_eq_false (by omega)]
    rcases e3 with rfl | rfl
    · rw [e1 rfl]; exact tail
    · rw [e2 rfl]; exact tail
  · have hnil := List.isEmpty_iff.1 he
    rw [cond_true, need_of (hfit _ (by simp)), hfi, Option.bind_some, show (⟨b.Trips, b.Room, [x]⟩ : TallyBook) = plus b x by unfold plus; rw [hnil]; rfl, hr, Option.bind_some]
    simp only [bne_self_eq_false, cond_false]
    rw [hvv, Option.bind_some, hww, Option.bind_some]
    simp only [bne_self_eq_false, cond_false, j2_j4 hnil]
    rw [decide_eq_false (by omega)]
    rcases e3 with rfl | rfl
    · rw [e1 rfl]; exact tail
    · rw [e2 rfl]; exact tail
end Go.Proofs.YtplpalmabgjibaaDoor

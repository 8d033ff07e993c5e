/- What the reference's list of all truths is: the program's, day by day. -/
import Derived.Test.YticodohfokgjfaaDoorZGPEnds
import Derived.KernelRfl
set_option linter.unusedVariables false
set_option linter.unusedSimpArgs false
namespace Go.Proofs.YticodohfokgjfaaDoor
open Go Go.Fx
theorem fits_of {m bb : Nat} (h : m ≤ 1000000000) (hb : bb ≤ 100000) : fitsL m bb = true := by
  unfold fitsL
  refine decide_eq_true ?_
  have : m * bb ≤ 1000000000 * 100000 := Nat.mul_le_mul h hb
  omega
theorem grown_eq (l : List Int) (x : Int) (hl : l.length ≤ 1000) : B_Grown l x = some (l ++ [x]) := by
  unfold B_Grown
  have hw : (wr ((l.length : Int) + 1)).toNat = l.length + 1 := by rw [wrI (by omega) (by omega)]; omega
  have hd : l ++ List.drop l.length (List.replicate (l.length + 1) (0 : Int)) = l ++ [0] := by
    rw [List.drop_replicate, show l.length + 1 - l.length = 1 by omega]; rfl
  rw [need_of (by rw [wrI (by omega) (by omega)]; simp [inI]; omega), hw, need_of (by simp), hd, getI_ix (by simp), Option.bind_some]
  congr 1
  rw [show ((l.length : Int)).toNat = l.length from rfl]
  have : ∀ (l : List Int), (l ++ [0]).set l.length x = l ++ [x] := fun l => by
    induction l with
    | nil => rfl
    | cons y l ih => simp [ih]
  exact this l
/-- numbers from c on -/
def seg (c : Int) : Nat → List Int
  | 0 => []
  | e + 1 => c :: seg (c + 1) e
theorem seg_map (c : Int) (e : Nat) : ∀ k : Nat, (List.range' k e).map (fun (j : Nat) => c + j) = seg (c + k) e := by
  induction e with
  | zero => intro k; rfl
  | succ e ih =>
    intro k
    rw [List.range'_succ, List.map_cons, ih (k + 1), seg]
    congr 2
    omega
theorem rng_seg (s : Span) : rng s = seg s.Low (s.High - s.Low + 1).toNat := by
  have := seg_map s.Low (s.High - s.Low + 1).toNat 0
  unfold rng
  rw [this]; simp
/-- a loop that gathers -/
theorem rloop {α R : Type} {body : ((List α × Int) → Option R) → (List α × Int) → Option R} (lo hi : Int) (f : Int → List α) (K : List α → Option R) (T b : Nat)
    (hstep : ∀ rec out c, lo ≤ c → c ≤ hi → out.length + b ≤ T → body rec (out, c) = rec (out ++ f c, c + 1)) (hlen : ∀ c, lo ≤ c → c ≤ hi → (f c).length ≤ b) (hend : ∀ rec out c, hi < c → c ≤ hi + 1 → body rec (out, c) = K out) :
    ∀ (e m : Nat) (out : List α) (c : Int), lo ≤ c → c + e = hi + 1 → e < m → out.length + e * b ≤ T → loopF body m (out, c) = K (out ++ (seg c e).flatMap f) := by
  intro e
  induction e with
  | zero =>
    intro m out c h0 h1 h2 h3
    obtain ⟨m, rfl⟩ : ∃ q, m = q + 1 := ⟨m - 1, by omega⟩
    show body (loopF body m) (out, c) = _
    rw [hend _ _ _ (by omega) (by omega)]
    simp [seg]
  | succ e ih =>
    intro m out c h0 h1 h2 h3
    obtain ⟨m, rfl⟩ : ∃ q, m = q + 1 := ⟨m - 1, by omega⟩
    show body (loopF body m) (out, c) = _
    have hb : (e + 1) * b = e * b + b := Nat.succ_mul e b
    have hf := hlen c h0 (by omega)
    rw [hstep _ _ _ h0 (by omega) (by omega), ih m (out ++ f c) (c + 1) (by omega) (by omega) (by omega) (by rw [List.length_append]; omega), seg, List.flatMap_cons, List.append_assoc]
/-- a truth of the first n days, as the reference has it -/
def phi (n : Nat) (t : Coal_truth) : Ref06_truth := ⟨t.eats_, t.collier_, t.winds_.take n, t.coal_.take n⟩
theorem take_aset {l : List Int} {d : Nat} {x : Int} (hl : l.length = 6) (hd : d < 6) : (aset l 6 (d : Int) x).take (d + 1) = l.take d ++ [x] := by
  refine List.ext_getElem (by simp [aset, hl]; omega) fun i h1 h2 => ?_
  have hi : i < d + 1 := by simp [aset] at h1; omega
  rw [List.getElem_take]
  simp only [aset, List.getElem_map, List.getElem_range]
  by_cases h : i = d
  · subst h
    rw [List.getElem_append_right (by simp; omega)]
    simp
  · rw [if_neg (by simp; omega), List.getElem_append_left (by simp; omega), List.getElem_take, List.getD_eq_getElem?_getD, List.getElem?_eq_getElem (by omega)]
    rfl
theorem member_eq (a : Int) (k : Nat) : B_Member a (k : Int) = some ((andI (shrI a (k : Int)) 1) == 1) := by
  unfold B_Member
  rw [need_of (by simp)]
theorem eaten_eq {b : CoalBook} (V : Val b) (A : Arg b) {e : List Int} (he : E2 e) {d w : Nat} {x : CoalDay} (hx : b.Days[d]? = some x) (hw : w < 3) :
    ref_eaten b e d w = some (dayEng x e + wr (x.Crosses * aget b.Extra (w : Int))) ∧ 0 ≤ dayEng x e + wr (x.Crosses * aget b.Extra (w : Int)) ∧ dayEng x e + wr (x.Crosses * aget b.Extra (w : Int)) ≤ 1000 := by
  have hxm := List.mem_of_getElem? hx
  obtain ⟨⟨c0, c1⟩, _, _⟩ := dayB_iff (V.da x hxm)
  obtain ⟨hl, hb⟩ := he
  have hxl := A.xl
  have hX : 0 ≤ aget b.Extra (w : Int) ∧ aget b.Extra (w : Int) ≤ 9 := by
    have hw' : w < b.Extra.length := by omega
    have : aget b.Extra (w : Int) = b.Extra[w] := by simp [aget, List.getD_eq_getElem?_getD, hw']
    rw [this]; exact V.ex _ (List.getElem_mem hw')
  match e, hl with
  | [p, q], _ =>
    have hp := hb p (by simp); have hq := hb q (by simp)
    generalize hXe : aget b.Extra (w : Int) = X at hX
    generalize hC : x.Crosses = c at c0 c1
    have m1 : 0 ≤ c * X := Int.mul_nonneg c0 hX.1
    have m2 : c * X ≤ 9 * 9 := Int.mul_le_mul c1 hX.2 hX.1 (by omega)
    have m3 : 0 ≤ c * p := Int.mul_nonneg c0 hp.1
    have m4 : c * p ≤ 9 * 9 := Int.mul_le_mul c1 hp.2 hp.1 (by omega)
    have m5 : 0 ≤ c * q := Int.mul_nonneg c0 hq.1
    have m6 : c * q ≤ 9 * 9 := Int.mul_le_mul c1 hq.2 hq.1 (by omega)
    have eE : dayEng x [p, q] = (bif (andI (shrI x.Engines 0) 1) == 1 then c * p else 0) + (bif (andI (shrI x.Engines 1) 1) == 1 then c * q else 0) := by
      unfold dayEng
      rw [hC, Int.mul_comm c p, Int.mul_comm c q]; rfl
    generalize hg0 : (andI (shrI x.Engines 0) 1 == 1) = g0 at eE
    generalize hg1 : (andI (shrI x.Engines 1) 1 == 1) = g1 at eE
    have hd : d < b.Days.length := (List.getElem?_eq_some_iff.1 hx).1
    have hg : getI b.Days (d : Int) = some x := by rw [getI_ix hd]; congr 1; exact (List.getElem?_eq_some_iff.1 hx).2
    rw [eE, wrI (by omega) (by omega)]
    refine ⟨?_, ?_, ?_⟩
    · unfold ref_eaten
      rw [hg, Option.bind_some, need_of (by simp [inI]; omega), hXe]
      refine loop_fold0 (fun k => (X + (bif decide (1 ≤ k) && g0 then p else 0) + (bif decide (2 ≤ k) && g1 then q else 0), (k : Int))) 2 (fun rec k hk => ?_) (fun rec => ?_) (by rw [big_eq]; omega) (by simp)
      · unfold ref_eaten_l2
        match k, hk with
        | 0, _ =>
          simp only [show decide (((0 : Nat) : Int) < 2) = true by decide, cond_true, show (((0 : Nat) : Int)) = 0 from rfl]
          have := member_eq x.Engines 0
          simp only [show (((0 : Nat) : Int)) = 0 from rfl, hg0] at this
          rw [this, Option.bind_some]
          cases g0 with
          | true => rw [cond_true, need_of (by decide), wrI (by simp [aget]; omega) (by simp [aget]; omega)]; simp [aget]; rfl
          | false => simp; rfl
        | 1, _ =>
          simp only [show decide (((1 : Nat) : Int) < 2) = true by decide, cond_true, show (((1 : Nat) : Int)) = 1 from rfl]
          have := member_eq x.Engines 1
          simp only [show (((1 : Nat) : Int)) = 1 from rfl, hg1] at this
          rw [this, Option.bind_some]
          cases g1 with
          | true => cases g0 <;> (rw [cond_true, need_of (by decide), wrI (by simp [aget]; omega) (by simp [aget]; omega)]; simp [aget]; rfl)
          | false => cases g0 <;> (simp; rfl)
      · unfold ref_eaten_l2
        simp only [show decide (((2 : Nat) : Int) < 2) = false by decide, cond_false, show decide (1 ≤ 2) = true by decide, show decide (2 ≤ 2) = true by decide, Bool.true_and, hC]
        cases g0 <;> cases g1 <;> simp only [cond_true, cond_false, Int.add_zero, Int.zero_add, Int.mul_add] <;> (rw [wrI (by omega) (by omega)]; try (first | rfl | (congr 1; omega)))
    · cases g0 <;> cases g1 <;> simp only [cond_true, cond_false] <;> omega
    · cases g0 <;> cases g1 <;> simp only [cond_true, cond_false] <;> omega
theorem refRight_eq {b : CoalBook} (V : Val b) (A : Arg b) {q : Coal_book} (hq : q.CoalBook.Dips = b.Dips) (d n : Int) (h1 : -100000 ≤ n) (h2 : n ≤ 100000) : ref_right b d n = some (rightB q d n) := by
  have hp := V.pn
  unfold ref_right rightB
  rw [hq]
  have key : ∀ (e k m : Nat), k + e = b.Dips.length → e < m → loopF (ref_right_l1 b d n) m (k : Int) = some ((b.Dips.drop k).all fun x => !(x.Day == d) || inB (n - x.Read) (-x.Error) x.Error) := by
    intro e
    induction e with
    | zero =>
      intro k m h4 h5
      obtain ⟨m, rfl⟩ : ∃ q, m = q + 1 := ⟨m - 1, by omega⟩
      show ref_right_l1 b d n _ (k : Int) = _
      unfold ref_right_l1
      rw [decide_eq_false (by omega), cond_false, List.drop_eq_nil_of_le (by omega)]
      rfl
    | succ e ih =>
      intro k m h4 h5
      obtain ⟨m, rfl⟩ : ∃ q, m = q + 1 := ⟨m - 1, by omega⟩
      have ih2 := ih (k + 1) m (by omega) (by omega)
      show ref_right_l1 b d n (loopF (ref_right_l1 b d n) m) (k : Int) = _
      generalize loopF (ref_right_l1 b d n) m = rec at ih2
      have hk : k < b.Dips.length := by omega
      obtain ⟨_, g1, g2, g3⟩ := dipB_iff (V.di _ (List.getElem_mem hk))
      unfold ref_right_l1
      rw [decide_eq_true (by omega), cond_true, getI_ix hk, Option.bind_some, List.drop_eq_getElem_cons hk, List.all_cons, wrI (x := _ - n) (by omega) (by omega), wrI (x := -_) (by omega) (by omega), inside_eq, Option.bind_some, wrN (show k < b.Dips.length + 1 by omega) (by omega), ih2]
      have : inB (b.Dips[k].Read - n) (-b.Dips[k].Error) b.Dips[k].Error = inB (n - b.Dips[k].Read) (-b.Dips[k].Error) b.Dips[k].Error := by
        rw [Bool.eq_iff_iff, inB_iff, inB_iff]; omega
      rw [this]
      cases (b.Dips[k].Day == d) <;> cases inB (n - b.Dips[k].Read) (-b.Dips[k].Error) b.Dips[k].Error <;> rfl
  exact key b.Dips.length 0 big (by omega) (by rw [big_eq]; omega)
theorem blown_len (q : Coal_book) : ∀ (r : Nat) (t : Coal_truth) (d c : Int), (blown q r t d c).length ≤ 3 ^ r
  | 0, _, _, _ => by simp [blown]
  | r + 1, t, d, c => by
    rw [blown, show (List.range' 0 3) = [0, 1, 2] from rfl]
    have h : ∀ w : Nat, (blown.optL (lookL q.costs_ (Coal_gust.mk d (w : Int))) fun cost =>
      bif rightB q d ((bif t.collier_ == d then c + q.CoalBook.Brings else c) - eng q d t.eats_ - cost) then
        blown q r (Coal_truth.mk t.eats_ t.collier_ (aset t.winds_ 6 d (w : Int)) (aset t.coal_ 6 d ((bif t.collier_ == d then c + q.CoalBook.Brings else c) - eng q d t.eats_ - cost))) (d + 1) ((bif t.collier_ == d then c + q.CoalBook.Brings else c) - eng q d t.eats_ - cost)
      else []).length ≤ 3 ^ r := fun w => by
      cases lookL q.costs_ (Coal_gust.mk d (w : Int)) with
      | none => simp [blown.optL]
      | some cost =>
        simp only [blown.optL]
        cases rightB q d ((bif t.collier_ == d then c + q.CoalBook.Brings else c) - eng q d t.eats_ - cost) with
        | false => simp
        | true => exact blown_len q r _ _ _
    simp only [List.flatMap_cons, List.flatMap_nil, List.length_append, List.length_nil, Nat.pow_succ]
    have := h 0; have := h 1; have := h 2
    omega
end Go.Proofs.YticodohfokgjfaaDoor

set_option linter.unusedVariables false
set_option linter.unusedSimpArgs false
namespace Go.Proofs.YticodohfokgjfaaDoor
open Go Go.Fx
theorem gone_eq {b : CoalBook} (V : Val b) (A : Arg b) : ∀ (r : Nat) (t : Coal_truth) (d : Nat) (c : Int) (k : Nat), d + r = b.Days.length → r < k → -(1000 * ((d : Int) + 1)) ≤ c → c ≤ 1000 * ((d : Int) + 1) → E2 t.eats_ → t.winds_.length = 6 → t.coal_.length = 6 →
    ref_gone k b (phi d t) c = some ((blown (opn b []) r t d c).map (phi b.Days.length)) := by
  have hdn := V.dn; have hbr := V.br
  intro r
  induction r with
  | zero =>
    intro t d c k h1 h2 h3 h4 h5 h6 h7
    obtain ⟨k, rfl⟩ : ∃ q, k = q + 1 := ⟨k - 1, by omega⟩
    show ref_gone_F _ b (phi d t) c = some ([t].map (phi b.Days.length))
    unfold ref_gone_F
    rw [show (((phi d t).winds_.length : Int) == (b.Days.length : Int)) = true by simp [phi]; omega, cond_true, show d = b.Days.length by omega]
    rfl
  | succ r ih =>
    intro t d c k h1 h2 h3 h4 h5 h6 h7
    obtain ⟨k, rfl⟩ : ∃ q, k = q + 1 := ⟨k - 1, by omega⟩
    have hwl : (phi d t).winds_.length = d := by simp [phi]; omega
    have hcl : (phi d t).coal_.length = d := by simp [phi]; omega
    have hd : d < b.Days.length := by omega
    obtain ⟨x, hx⟩ : ∃ x, b.Days[d]? = some x := ⟨_, List.getElem?_eq_getElem hd⟩
    have hg : getI b.Days (d : Int) = some x := by rw [getI_ix hd]; congr 1; exact (List.getElem?_eq_some_iff.1 hx).2
    have hr6 : r ≤ 5 := by omega
    have h31 : 1 ≤ 3 ^ r := Nat.pos_of_ne_zero (by simp)
    have h36 : 3 ^ r ≤ 243 := Nat.le_trans (Nat.pow_le_pow_right (by omega) hr6) (by decide)
    have hE : eng (opn b []) (d : Int) t.eats_ = dayEng x t.eats_ := eng_day (q := opn b []) hx t.eats_
    have hD : (opn b []).CoalBook.Dips = b.Dips := keep_self b.Dips
    have main : ∀ z : Int, -(1000 * ((d : Int) + 1)) ≤ z → z ≤ 1000 * ((d : Int) + 1) + 400 → z = (bif t.collier_ == (d : Int) then c + (opn b []).CoalBook.Brings else c) →
        ref_gone_j4 b (phi d t) (fun x0_ x1_ x2_ => ref_gone k x0_ x1_ x2_) z = some ((blown (opn b []) (r + 1) t d c).map (phi b.Days.length)) := by
      intro z z1 z2 hz
      unfold ref_gone_j4
      rw [blown, ← hz, hE]
      have key : ∀ (e w m : Nat) (out : List Ref06_truth), w + e = 3 → e < m → out.length + e * 3 ^ r ≤ 1000 →
          loopF (ref_gone_l3 b (phi d t) z (fun x0_ x1_ x2_ => ref_gone k x0_ x1_ x2_)) m (out, (w : Int)) = some (out ++ ((List.range' w e).flatMap fun (w : Nat) => blown.optL (lookL (opn b []).costs_ (Coal_gust.mk (d : Int) (w : Int))) fun cost =>
            bif rightB (opn b []) d (z - dayEng x t.eats_ - cost) then blown (opn b []) r (Coal_truth.mk t.eats_ t.collier_ (aset t.winds_ 6 d (w : Int)) (aset t.coal_ 6 d (z - dayEng x t.eats_ - cost))) ((d : Int) + 1) (z - dayEng x t.eats_ - cost) else []).map (phi b.Days.length)) := by
        intro e
        induction e with
        | zero =>
          intro w m out g1 g2 g3
          obtain ⟨m, rfl⟩ : ∃ q, m = q + 1 := ⟨m - 1, by omega⟩
          show ref_gone_l3 b (phi d t) z _ _ (out, (w : Int)) = _
          unfold ref_gone_l3
          simp only
          rw [decide_eq_false (by omega), cond_false]
          simp
        | succ e ih2 =>
          intro w m out g1 g2 g3
          obtain ⟨m, rfl⟩ : ∃ q, m = q + 1 := ⟨m - 1, by omega⟩
          have hb3 : (e + 1) * 3 ^ r = e * 3 ^ r + 3 ^ r := Nat.succ_mul e _
          have ih3 := fun out => ih2 (w + 1) m out (by omega) (by omega)
          show ref_gone_l3 b (phi d t) z _ (loopF _ m) (out, (w : Int)) = _
          generalize loopF (ref_gone_l3 b (phi d t) z (fun x0_ x1_ x2_ => ref_gone k x0_ x1_ x2_)) m = rec at ih3
          have w0 : wr ((w : Int) + 1) = ((w + 1 : Nat) : Int) := by rw [wrI (by omega) (by omega)]; omega
          rw [List.range'_succ, List.flatMap_cons, List.map_append]
          unfold ref_gone_l3
          simp only [hwl]
          rw [decide_eq_true (by omega), cond_true, hg, Option.bind_some, member_eq, Option.bind_some, w0]
          cases hbit : (andI (shrI x.Winds (w : Int)) 1 == 1) with
          | false =>
            have hl : lookL (opn b []).costs_ (Coal_gust.mk (d : Int) (w : Int)) = none := by
              cases hl : lookL (opn b []).costs_ (Coal_gust.mk (d : Int) (w : Int)) with
              | none => rfl
              | some v =>
                obtain ⟨x', hx', hb', _⟩ := look_val hl
                rw [hx] at hx'; cases hx'
                unfold bitB at hb'
                rw [hbit] at hb'; cases hb'
            rw [hl]
            simp only [Bool.not_false, cond_true]
            rw [ih3 out (by omega)]
            rfl
          | true =>
            have hl : lookL (opn b []).costs_ (Coal_gust.mk (d : Int) (w : Int)) = some (wr (x.Crosses * aget b.Extra (w : Int))) := val_look hx hbit (by omega) (by omega)
            obtain ⟨e1, e2, e3⟩ := eaten_eq V A h5 hx (show w < 3 by omega)
            rw [hl]
            simp only [Bool.not_true, cond_false]
            have heats : (phi d t).eats_ = t.eats_ := rfl
            rw [heats, e1, Option.bind_some, wrI (x := z - _) (by omega) (by omega), show z - (dayEng x t.eats_ + wr (x.Crosses * aget b.Extra (w : Int))) = z - dayEng x t.eats_ - wr (x.Crosses * aget b.Extra (w : Int)) by omega]
            generalize hn : z - dayEng x t.eats_ - wr (x.Crosses * aget b.Extra (w : Int)) = n
            rw [refRight_eq V A hD (d : Int) n (by omega) (by omega), Option.bind_some]
            simp only [blown.optL, hn]
            cases hrt : rightB (opn b []) (d : Int) n with
            | false =>
              simp only [cond_false]
              rw [ih3 out (by omega)]
              rfl
            | true =>
              simp only [cond_true]
              rw [grown_eq _ _ (by omega), Option.bind_some, grown_eq _ _ (by omega), Option.bind_some]
              have hphi : Ref06_truth.mk t.eats_ (phi d t).collier_ ((phi d t).winds_ ++ [(w : Int)]) ((phi d t).coal_ ++ [n]) = phi (d + 1) (Coal_truth.mk t.eats_ t.collier_ (aset t.winds_ 6 (d : Int) (w : Int)) (aset t.coal_ 6 (d : Int) n)) := by
                unfold phi
                simp only
                rw [take_aset h6 (by omega), take_aset h7 (by omega)]
              have hih := ih (Coal_truth.mk t.eats_ t.collier_ (aset t.winds_ 6 (d : Int) (w : Int)) (aset t.coal_ 6 (d : Int) n)) (d + 1) n k (by omega) (by omega) (by omega) (by omega) h5 (by simp [aset]) (by simp [aset])
              rw [hphi, hih, Option.bind_some]
              have hbl := blown_len (opn b []) r (Coal_truth.mk t.eats_ t.collier_ (aset t.winds_ 6 (d : Int) (w : Int)) (aset t.coal_ 6 (d : Int) n)) ((d + 1 : Nat) : Int) n
              rw [show (((d + 1 : Nat) : Int)) = (d : Int) + 1 by omega] at hbl ⊢
              generalize blown (opn b []) r (Coal_truth.mk t.eats_ t.collier_ (aset t.winds_ 6 (d : Int) (w : Int)) (aset t.coal_ 6 (d : Int) n)) ((d : Int) + 1) n = L at hbl
              cases L with
              | nil =>
                simp only [List.map_nil, List.isEmpty_nil, cond_true]
                rw [ih3 out (by omega)]; rfl
              | cons u L =>
                rw [show (List.map (phi b.Days.length) (u :: L)).isEmpty = false from rfl, cond_false, need_of (fits_of (by rw [List.length_map]; omega) (by omega)), ih3 _ (by rw [List.length_append, List.length_map]; omega), List.append_assoc]
                rfl
      have := key 3 0 big [] (by omega) (by rw [big_eq]; omega) (by simp; omega)
      rw [List.nil_append] at this
      exact this
    show ref_gone_F _ b (phi d t) c = _
    unfold ref_gone_F
    rw [show (((phi d t).winds_.length : Int) == (b.Days.length : Int)) = false by rw [hwl, beq_eq_false_iff_ne]; omega, cond_false, hwl]
    have hB : (opn b []).CoalBook.Brings = b.Brings := rfl
    cases hc : (t.collier_ == (d : Int)) with
    | true =>
      rw [show ((phi d t).collier_ == (d : Int)) = true from hc, cond_true, wrI (by omega) (by omega)]
      exact main _ (by omega) (by omega) (by rw [hc, hB]; rfl)
    | false =>
      rw [show ((phi d t).collier_ == (d : Int)) = false from hc, cond_false]
      exact main _ (by omega) (by omega) (by rw [hc]; rfl)
theorem flatMap_len {α β : Type} (f : α → List β) (b : Nat) : ∀ (l : List α), (∀ x ∈ l, (f x).length ≤ b) → (l.flatMap f).length ≤ l.length * b
  | [], _ => by simp
  | x :: l, h => by
    have h1 := h x (List.mem_cons_self ..)
    have h2 := flatMap_len f b l fun y hy => h y (List.mem_cons_of_mem _ hy)
    rw [List.flatMap_cons, List.length_append, List.length_cons, Nat.succ_mul]
    omega
theorem fm_map {α β γ : Type} (P : β → γ) {f : α → List γ} {g : α → List β} {l l' : List α} (hl : l = l') (h : ∀ x, f x = (g x).map P) : l.flatMap f = (l'.flatMap g).map P := by
  subst hl
  rw [List.map_flatMap, show f = fun x => (g x).map P from funext h]
theorem seg_len (c : Int) : ∀ e, (seg c e).length = e
  | 0 => rfl
  | e + 1 => by rw [seg, List.length_cons, seg_len]
theorem refTruths_eq {b : CoalBook} (V : Val b) (A : Arg b) : ref_truths b = some ((TT b).map (phi b.Days.length)) := by
  have hdn := V.dn
  have Q := opn_op V A []
  have hH := sp_of V.hp (by omega); have hH2 := V.hp
  have hC := sp_of V.co (by omega); have hC2 := V.co
  have he0 := Q.ea _ (agetS_mem (i := 0) (by rw [Q.el]; decide))
  have he1 := Q.ea _ (agetS_mem (i := 1) (by rw [Q.el]; decide))
  have hE0 := V.ea _ (agetS_mem (l := b.Eats) (i := 0) (by rw [A.el]; decide))
  have hE1 := V.ea _ (agetS_mem (l := b.Eats) (i := 1) (by rw [A.el]; decide))
  have sp : ∀ {s : Span} {hi wide : Int}, spB s hi wide = true → 0 ≤ s.Low ∧ s.Low ≤ s.High ∧ s.High ≤ hi ∧ s.High - s.Low ≤ wide := fun {s hi wide} h => by
    unfold spB at h
    simp only [Bool.and_eq_true, decide_eq_true_eq] at h
    exact ⟨h.1.1.1, h.1.1.2, h.1.2, h.2⟩
  obtain ⟨p1, p2, p3, p4⟩ := sp hH2
  obtain ⟨c1, c2, c3, c4⟩ := sp hC2
  obtain ⟨o1, o2, o3, o4⟩ := sp hE0
  obtain ⟨r1, r2, r3, r4⟩ := sp hE1
  have g1 : ∀ h o p c : Int, 0 ≤ h → h ≤ 400 → 0 ≤ o → o ≤ 9 → 0 ≤ p → p ≤ 9 → ref_gone big b (Ref06_truth.mk [o, p] c ([] : List Int) ([] : List Int)) h = some ((blown (opn b []) b.Days.length (init o p c) 0 h).map (phi b.Days.length)) := fun h o p c h1 h2 h3 h4 h5 h6 => by
    have := gone_eq V A b.Days.length (init o p c) 0 h big (by omega) (by rw [big_eq]; omega) (by omega) (by omega) ⟨rfl, fun x hx => by
      simp [init] at hx
      rcases hx with rfl | rfl <;> omega⟩ rfl rfl
    exact this
  have bl : ∀ (t : Coal_truth) (d h : Int), (blown (opn b []) b.Days.length t d h).length ≤ 729 := fun t d h => Nat.le_trans (blown_len _ _ _ _ _) (Nat.le_trans (Nat.pow_le_pow_right (by omega) hdn.2) (by decide))
  let P := phi b.Days.length
  let f4 : Int → Int → Int → Int → List Ref06_truth := fun h o p c => (blown (opn b []) b.Days.length (init o p c) 0 h).map P
  let f3 : Int → Int → Int → List Ref06_truth := fun h o p => (seg b.Collier.Low (b.Collier.High - b.Collier.Low + 1).toNat).flatMap (f4 h o p)
  let f2 : Int → Int → List Ref06_truth := fun h o => (seg (agetS b.Eats (1 : Int)).Low ((agetS b.Eats (1 : Int)).High - (agetS b.Eats (1 : Int)).Low + 1).toNat).flatMap (f3 h o)
  let f1 : Int → List Ref06_truth := fun h => (seg (agetS b.Eats (0 : Int)).Low ((agetS b.Eats (0 : Int)).High - (agetS b.Eats (0 : Int)).Low + 1).toNat).flatMap (f2 h)
  have l4 : ∀ h o p c, (f4 h o p c).length ≤ 729 := fun h o p c => by simp only [f4, List.length_map]; exact bl _ _ _
  have l3 : ∀ h o p, (f3 h o p).length ≤ 2916 := fun h o p => by
    have := flatMap_len (f4 h o p) 729 (seg b.Collier.Low (b.Collier.High - b.Collier.Low + 1).toNat) fun x _ => l4 h o p x
    rw [seg_len] at this
    exact Nat.le_trans this (Nat.le_trans (Nat.mul_le_mul_right 729 (show (b.Collier.High - b.Collier.Low + 1).toNat ≤ 4 by omega)) (by decide))
  have l2 : ∀ h o, (f2 h o).length ≤ 8748 := fun h o => by
    have := flatMap_len (f3 h o) 2916 (seg (agetS b.Eats (1 : Int)).Low ((agetS b.Eats (1 : Int)).High - (agetS b.Eats (1 : Int)).Low + 1).toNat) fun x _ => l3 h o x
    rw [seg_len] at this
    exact Nat.le_trans this (Nat.le_trans (Nat.mul_le_mul_right 2916 (show ((agetS b.Eats (1 : Int)).High - (agetS b.Eats (1 : Int)).Low + 1).toNat ≤ 3 by omega)) (by decide))
  have l1 : ∀ h, (f1 h).length ≤ 26244 := fun h => by
    have := flatMap_len (f2 h) 8748 (seg (agetS b.Eats (0 : Int)).Low ((agetS b.Eats (0 : Int)).High - (agetS b.Eats (0 : Int)).Low + 1).toNat) fun x _ => l2 h x
    rw [seg_len] at this
    exact Nat.le_trans this (Nat.le_trans (Nat.mul_le_mul_right 8748 (show ((agetS b.Eats (0 : Int)).High - (agetS b.Eats (0 : Int)).Low + 1).toNat ≤ 3 by omega)) (by decide))
  have s4 : ∀ (h o p : Int) (z3 z2 z1 : List Ref06_truth) (rec3 : (List Ref06_truth × Int) → Option (List Ref06_truth)) (out : List Ref06_truth), 0 ≤ h → h ≤ 400 → 0 ≤ o → o ≤ 9 → 0 ≤ p → p ≤ 9 → out.length + 2916 ≤ 1000000 →
      loopF (ref_truths_l77 b (z2, o) (z3, p) (z1, h) rec3) big (out, b.Collier.Low) = rec3 (out ++ f3 h o p, p + 1) := by
    intro h o p z3 z2 z1 rec3 out h1 h2 h3 h4 h5 h6 hl
    refine rloop b.Collier.Low b.Collier.High (f4 h o p) (fun out => rec3 (out, p + 1)) 1000000 729 (fun rec out c hc0 hc hlen => ?_) (fun c _ _ => l4 h o p c) (fun rec out c hc _ => ?_) (b.Collier.High - b.Collier.Low + 1).toNat big out b.Collier.Low (Int.le_refl _) (by omega) (by rw [big_eq]; omega) (by omega)
    · unfold ref_truths_l77
      simp only
      rw [decide_eq_true (by omega), cond_true, g1 h o p c h1 h2 h3 h4 h5 h6, Option.bind_some, wrI (x := c + 1) (by omega) (by omega)]
      show (bif (f4 h o p c).isEmpty then rec (out, c + 1) else need (fitsL (out.length + (f4 h o p c).length) 72) (rec (out ++ f4 h o p c, c + 1))) = _
      have := l4 h o p c
      generalize f4 h o p c = L at this
      cases L with
      | nil => simp
      | cons u L => rw [show (u :: L).isEmpty = false from rfl, cond_false, need_of (fits_of (by omega) (by omega))]
    · unfold ref_truths_l77
      simp only
      rw [decide_eq_false (by omega), cond_false, wrI (by omega) (by omega)]
  have s3 : ∀ (h o : Int) (z2 z1 : List Ref06_truth) (rec2 : (List Ref06_truth × Int) → Option (List Ref06_truth)) (out : List Ref06_truth), 0 ≤ h → h ≤ 400 → 0 ≤ o → o ≤ 9 → out.length + 8748 ≤ 1000000 →
      loopF (ref_truths_l78 b (z2, o) (z1, h) rec2) big (out, (agetS b.Eats (1 : Int)).Low) = rec2 (out ++ f2 h o, o + 1) := by
    intro h o z2 z1 rec2 out h1 h2 h3 h4 hl
    refine rloop (agetS b.Eats (1 : Int)).Low (agetS b.Eats (1 : Int)).High (f3 h o) (fun out => rec2 (out, o + 1)) 1000000 2916 (fun rec out c hc0 hc hlen => ?_) (fun c _ _ => l3 h o c) (fun rec out c hc _ => ?_) _ big out _ (Int.le_refl _) (show _ + (((agetS b.Eats (1 : Int)).High - (agetS b.Eats (1 : Int)).Low + 1).toNat : Int) = _ by omega) (by rw [big_eq]; omega) (by omega)
    · unfold ref_truths_l78
      simp only
      rw [decide_eq_true (by omega), cond_true, s4 h o c out z2 z1 rec out h1 h2 h3 h4 (by omega) (by omega) (by omega)]
    · unfold ref_truths_l78
      simp only
      rw [decide_eq_false (by omega), cond_false, wrI (by omega) (by omega)]
  have s2 : ∀ (h : Int) (z1 : List Ref06_truth) (rec1 : (List Ref06_truth × Int) → Option (List Ref06_truth)) (out : List Ref06_truth), 0 ≤ h → h ≤ 400 → out.length + 26244 ≤ 1000000 →
      loopF (ref_truths_l79 b (z1, h) rec1) big (out, (agetS b.Eats (0 : Int)).Low) = rec1 (out ++ f1 h, h + 1) := by
    intro h z1 rec1 out h1 h2 hl
    refine rloop (agetS b.Eats (0 : Int)).Low (agetS b.Eats (0 : Int)).High (f2 h) (fun out => rec1 (out, h + 1)) 1000000 8748 (fun rec out c hc0 hc hlen => ?_) (fun c _ _ => l2 h c) (fun rec out c hc _ => ?_) _ big out _ (Int.le_refl _) (show _ + (((agetS b.Eats (0 : Int)).High - (agetS b.Eats (0 : Int)).Low + 1).toNat : Int) = _ by omega) (by rw [big_eq]; omega) (by omega)
    · unfold ref_truths_l79
      simp only
      rw [decide_eq_true (by omega), cond_true, s3 h c out z1 rec out h1 h2 (by omega) (by omega) (by omega)]
    · unfold ref_truths_l79
      simp only
      rw [decide_eq_false (by omega), cond_false, wrI (by omega) (by omega)]
  have s1 : ref_truths b = some ([] ++ (seg b.Heap.Low (b.Heap.High - b.Heap.Low + 1).toNat).flatMap f1) := by
    unfold ref_truths
    refine rloop b.Heap.Low b.Heap.High f1 (fun out => some out) 1000000 26244 (fun rec out c hc0 hc hlen => ?_) (fun c _ _ => l1 c) (fun rec out c hc _ => ?_) _ big [] _ (Int.le_refl _) (show _ + ((b.Heap.High - b.Heap.Low + 1).toNat : Int) = _ by omega) (by rw [big_eq]; omega) (by simp; omega)
    · unfold ref_truths_l80
      simp only
      rw [decide_eq_true (by omega), cond_true, s2 c out rec out (by omega) (by omega) (by omega)]
    · unfold ref_truths_l80
      simp only
      rw [decide_eq_false (by omega), cond_false]
  rw [s1, List.nil_append]
  congr 1
  exact fm_map P (rng_seg b.Heap).symm fun h => fm_map P (rng_seg (agetS b.Eats (0 : Int))).symm fun o => fm_map P (rng_seg (agetS b.Eats (1 : Int))).symm fun p => fm_map P (rng_seg b.Collier).symm fun c => rfl
end Go.Proofs.YticodohfokgjfaaDoor

set_option linter.unusedVariables false
set_option linter.unusedSimpArgs false
namespace Go.Proofs.YticodohfokgjfaaDoor
open Go Go.Fx
theorem okloop {α R : Type} (l : List α) (p : α → Bool) {body : ((Bool × Int) → Option R) → (Bool × Int) → Option R} (K : Bool → Option R) (h0 : ∀ rec i, body rec (false, i) = K false) (h1 : ∀ rec k (hk : k < l.length), body rec (true, (k : Int)) = rec (p l[k], ((k + 1 : Nat) : Int)))
    (h2 : ∀ rec, body rec (true, (l.length : Int)) = K true) (hn : l.length < big - 1) (ok : Bool) : loopF body big (ok, 0) = K (ok && l.all p) := by
  have key : ∀ (e k m : Nat) (ok : Bool), k + e = l.length → e < m → loopF body m (ok, (k : Int)) = K (ok && (l.drop k).all p) := by
    intro e
    induction e with
    | zero =>
      intro k m ok g1 g2
      obtain ⟨m, rfl⟩ : ∃ q, m = q + 1 := ⟨m - 1, by omega⟩
      show body (loopF body m) (ok, (k : Int)) = _
      cases ok with
      | false => exact h0 _ _
      | true =>
        rw [show k = l.length by omega, h2]; simp
    | succ e ih =>
      intro k m ok g1 g2
      obtain ⟨m, rfl⟩ : ∃ q, m = q + 1 := ⟨m - 1, by omega⟩
      show body (loopF body m) (ok, (k : Int)) = _
      cases ok with
      | false => exact h0 _ _
      | true =>
        have hk : k < l.length := by omega
        rw [h1 _ k hk, ih (k + 1) m _ (by omega) (by omega), List.drop_eq_getElem_cons hk, List.all_cons, Bool.true_and]
  have := key l.length 0 big ok (by omega) (by omega)
  exact this
def vB (s : Span) (hi : Int) : Bool := decide (0 ≤ s.Low) && decide (s.Low ≤ s.High) && decide (s.High ≤ hi)
theorem valid_eq (s : Span) (hi : Int) : B_Valid s 0 hi = some (vB s hi) := by
  unfold B_Valid vB
  by_cases h1 : 0 ≤ s.Low <;> by_cases h2 : s.Low ≤ s.High <;> by_cases h3 : s.High ≤ hi <;> simp [h1, h2, h3] <;> omega
theorem spB_vB (s : Span) (hi w : Int) : spB s hi w = (vB s hi && decide (s.High - s.Low ≤ w)) := rfl
theorem vB_iff {s : Span} {hi : Int} (h : vB s hi = true) : 0 ≤ s.Low ∧ s.Low ≤ s.High ∧ s.High ≤ hi := by
  unfold vB at h
  simp only [Bool.and_eq_true, decide_eq_true_eq] at h
  exact ⟨h.1.1, h.1.2, h.2⟩
theorem refDay_eq (x : CoalDay) : ref_day x = some (dayB x) := by
  unfold ref_day dayB
  simp only [inside_eq, Option.bind_some]
  cases inB x.Crosses 0 9 <;> cases inB x.Engines 1 3 <;> cases inB x.Winds 1 7 <;> rfl
theorem refIsDay_eq (b : CoalBook) (A : Arg b) (n : Int) : ref_isDay b n = some (inB n 0 ((b.Days.length : Int) - 1)) := by
  have := A.dl
  unfold ref_isDay
  rw [wrI (by omega) (by omega), inside_eq, Option.bind_some]
theorem refDip_eq (b : CoalBook) (A : Arg b) (x : CoalDip) : ref_dip b x = some (dipB b.Days.length x) := by
  unfold ref_dip dipB
  simp only [refIsDay_eq b A, inside_eq, Option.bind_some]
  cases inB x.Day 0 ((b.Days.length : Int) - 1) <;> cases inB x.Read 0 800 <;> cases inB x.Error 0 9 <;> rfl
theorem big_lt {n : Nat} (h : n ≤ 9223372036854775807) : n < big - 1 := by rw [big_eq]; omega
theorem refTail_eq (b : CoalBook) (A : Arg b) (ok : Bool) : ref_Check_j17 b ok = some (bif ok && b.Eats.all (spB · 9 2) && b.Extra.all (inB · 0 9) && b.Days.all dayB && b.Dips.all (dipB b.Days.length) then 0 else 60) := by
  have h1 := A.dl; have h2 := A.pl; have h3 := A.el; have h4 := A.xl
  have e9 : ∀ ok, ref_Check_j9 ok = some (bif ok then 0 else 60) := fun ok => by cases ok <;> rfl
  have e11 : ∀ ok, ref_Check_j11 b ok = some (bif ok && b.Dips.all (dipB b.Days.length) then 0 else 60) := fun ok => by
    unfold ref_Check_j11
    rw [okloop b.Dips (dipB b.Days.length) ref_Check_j9 (fun rec i => rfl) (fun rec k hk => ?_) (fun rec => ?_) (big_lt h2), e9]
    · unfold ref_Check_l10
      simp only [cond_true]
      rw [decide_eq_true (by omega), cond_true, getI_ix hk, Option.bind_some, refDip_eq b A, Option.bind_some, wrN hk h2]
    · unfold ref_Check_l10
      simp only [cond_true]
      rw [decide_eq_false (by omega), cond_false]
  have e13 : ∀ ok, ref_Check_j13 b ok = some (bif ok && b.Days.all dayB && b.Dips.all (dipB b.Days.length) then 0 else 60) := fun ok => by
    unfold ref_Check_j13
    rw [okloop b.Days dayB (ref_Check_j11 b) (fun rec i => rfl) (fun rec k hk => ?_) (fun rec => ?_) (big_lt h1), e11]
    · unfold ref_Check_l12
      simp only [cond_true]
      rw [decide_eq_true (by omega), cond_true, getI_ix hk, Option.bind_some, refDay_eq, Option.bind_some, wrN hk h1]
    · unfold ref_Check_l12
      simp only [cond_true]
      rw [decide_eq_false (by omega), cond_false]
  have e15 : ∀ ok, ref_Check_j15 b ok = some (bif ok && b.Extra.all (inB · 0 9) && b.Days.all dayB && b.Dips.all (dipB b.Days.length) then 0 else 60) := fun ok => by
    unfold ref_Check_j15
    rw [okloop b.Extra (inB · 0 9) (ref_Check_j13 b) (fun rec i => rfl) (fun rec k hk => ?_) (fun rec => ?_) (big_lt (by omega)), e13]
    · unfold ref_Check_l14
      simp only [cond_true]
      rw [decide_eq_true (by omega), cond_true, need_of (by simp [inI]; omega), inside_eq, Option.bind_some, wrN hk (by omega), show aget b.Extra (k : Int) = b.Extra[k] by simp [aget, List.getD_eq_getElem?_getD, hk]]
    · unfold ref_Check_l14
      simp only [cond_true]
      rw [decide_eq_false (by omega), cond_false]
  unfold ref_Check_j17
  rw [okloop b.Eats (spB · 9 2) (ref_Check_j15 b) (fun rec i => rfl) (fun rec k hk => ?_) (fun rec => ?_) (big_lt (by omega)), e15]
  · unfold ref_Check_l16
    simp only [cond_true]
    rw [decide_eq_true (by omega), cond_true, need_of (by simp [inI]; omega), valid_eq, Option.bind_some, wrN hk (by omega), show agetS b.Eats (k : Int) = b.Eats[k] by simp [agetS, List.getD_eq_getElem?_getD, hk], spB_vB]
    cases hv : vB b.Eats[k] 9 with
    | false => rfl
    | true =>
      obtain ⟨v1, v2, v3⟩ := vB_iff hv
      rw [cond_true, need_of (by simp [inI]; omega), need_of (by simp [inI]; omega), wrI (by omega) (by omega), Bool.true_and]
  · unfold ref_Check_l16
    simp only [cond_true]
    rw [decide_eq_false (by omega), cond_false]
theorem refCheck_eq (b : CoalBook) (A : Arg b) : ref_Check b = some (bif valB b then 0 else 60) := by
  have h1 := A.dl; have h2 := A.pl
  unfold ref_Check valB
  rw [valid_eq, Option.bind_some, spB_vB, spB_vB]
  cases hv : vB b.Heap 400 with
  | false => simp [refTail_eq b A]
  | true =>
    obtain ⟨v1, v2, v3⟩ := vB_iff hv
    rw [cond_true, wrI (by omega) (by omega), Bool.true_and]
    cases hw : decide (b.Heap.High - b.Heap.Low ≤ 4) with
    | false => simp [refTail_eq b A]
    | true =>
      rw [cond_true, inside_eq, Option.bind_some, Bool.true_and]
      cases hd : inB (b.Days.length : Int) 1 6 with
      | false => simp [refTail_eq b A]
      | true =>
        rw [cond_true, valid_eq, Option.bind_some, Bool.true_and]
        cases hc : vB b.Collier (b.Days.length : Int) with
        | false => simp [refTail_eq b A]
        | true =>
          obtain ⟨c1, c2, c3⟩ := vB_iff hc
          rw [cond_true, wrI (by omega) (by omega), Bool.true_and]
          cases hw2 : decide (b.Collier.High - b.Collier.Low ≤ 3) with
          | false => simp [refTail_eq b A]
          | true =>
            rw [cond_true, inside_eq, Option.bind_some, Bool.true_and]
            cases hb : inB b.Brings 0 400 with
            | false => simp [refTail_eq b A]
            | true => simp [refTail_eq b A]
abbrev PP (b : CoalBook) : List Ref06_truth := (TT b).map (phi b.Days.length)
theorem SpanOf.uniq {f : Coal_truth → Int} {L : List Coal_truth} {s t : Span} (S : SpanOf f L s) (T : SpanOf f L t) : s = t := by
  by_cases h : L = []
  · rw [S.nil h, T.nil h]
  · obtain ⟨a, ha, e1⟩ := S.low h; obtain ⟨b, hb, e2⟩ := T.low h; obtain ⟨c, hc, e3⟩ := S.high h; obtain ⟨d, hd, e4⟩ := T.high h
    have := S.le b hb; have := T.le a ha; have := S.ge d hd; have := T.ge c hc
    cases s; cases t; simp only at *
    congr 1 <;> omega
end Go.Proofs.YticodohfokgjfaaDoor

set_option linter.unusedVariables false
set_option linter.unusedSimpArgs false
namespace Go.Proofs.YticodohfokgjfaaDoor
open Go Go.Fx
theorem kept_days (l : List CoalDay) (h : l.length ≤ 9223372036854775807) : B_KeptDays l l = some true := by
  unfold B_KeptDays
  rw [show ((l.length : Int) == (l.length : Int)) = true by simp]
  refine loop_fold0 (fun k => (true, (k : Int))) l.length (fun rec k hk => ?_) (fun rec => ?_) (by rw [big_eq]; omega) rfl
  · unfold B_KeptDays_l1
    simp only [cond_true]
    rw [decide_eq_true (by omega), cond_true, getI_ix hk, Option.bind_some, Option.bind_some, wrN hk h]
    simp
  · unfold B_KeptDays_l1
    simp only [cond_true]
    rw [decide_eq_false (by omega), cond_false]
theorem kept_dips (l : List CoalDip) (h : l.length ≤ 9223372036854775807) : B_KeptDips l l = some true := by
  unfold B_KeptDips
  rw [show ((l.length : Int) == (l.length : Int)) = true by simp]
  refine loop_fold0 (fun k => (true, (k : Int))) l.length (fun rec k hk => ?_) (fun rec => ?_) (by rw [big_eq]; omega) rfl
  · unfold B_KeptDips_l1
    simp only [cond_true]
    rw [decide_eq_true (by omega), cond_true, getI_ix hk, Option.bind_some, Option.bind_some, wrN hk h]
    simp
  · unfold B_KeptDips_l1
    simp only [cond_true]
    rw [decide_eq_false (by omega), cond_false]
theorem kept_eq (b : CoalBook) (A : Arg b) : B_KeptCoal b b = some true := by
  unfold B_KeptCoal
  simp [kept_days b.Days A.dl, kept_dips b.Dips A.pl]
/-- how long its lists can be -/
structure ArgW (b : CoalBook) : Prop where
  dw : b.Days.length * 24 ≤ 140737488355328
  pw : b.Dips.length * 24 ≤ 140737488355328
  el : b.Eats.length = 2
  xl : b.Extra.length = 3
theorem ArgW.arg {b : CoalBook} (W : ArgW b) : Arg b := ⟨by have := W.dw; omega, by have := W.pw; omega, W.el, W.xl⟩
theorem own_eq (b : CoalBook) (W : ArgW b) : B_OwnCoal b = some b := by
  unfold B_OwnCoal B_OwnDays B_OwnDips
  rw [need_of (by unfold fitsL; exact decide_eq_true W.dw), Option.bind_some, need_of (by unfold fitsL; exact decide_eq_true W.pw), Option.bind_some]
end Go.Proofs.YticodohfokgjfaaDoor

set_option linter.unusedVariables false
set_option linter.unusedSimpArgs false
namespace Go.Proofs.YticodohfokgjfaaDoor
open Go Go.Fx
theorem fits_small {m bb : Nat} (h : m ≤ 1000000) (hb : bb ≤ 1000) : fitsL m bb = true := fits_of (by omega) (by omega)
theorem shr_nat (s k : Nat) (hk : k < 64) : shrI (s : Int) (k : Int) = ((s / 2 ^ k : Nat) : Int) := by
  unfold shrI
  rw [show min ((k : Int).toNat) 64 = k by simp; omega, Int.fdiv_eq_ediv_of_nonneg _ (by exact_mod_cast Int.natCast_nonneg (2 ^ k))]
  simp
theorem and1_nat (m : Nat) : andI (m : Int) 1 = ((m % 2 : Nat) : Int) := by
  unfold andI
  have h1 : BitVec.ofInt 64 (m : Int) = BitVec.ofNat 64 m := BitVec.ofInt_natCast 64 m
  have h2 : BitVec.ofInt 64 1 = BitVec.ofNat 64 1 := rfl
  rw [h1, h2, BitVec.toNat_and]
  simp only [BitVec.toNat_ofNat]
  have : m % 2 ^ 64 &&& 1 % 2 ^ 64 = m % 2 := by
    rw [show 1 % 2 ^ 64 = 1 by decide, Nat.and_one_is_mod]; omega
  rw [this, wrI (by omega) (by omega)]
theorem member_nat (s k : Nat) (hk : k < 64) : B_Member (s : Int) (k : Int) = some (s.testBit k) := by
  unfold B_Member
  rw [need_of (by simp), shr_nat s k hk, and1_nat, Nat.testBit_eq_decide_div_mod_eq]
  congr 1
  rw [Bool.eq_iff_iff]
  simp only [beq_iff_eq, decide_eq_true_eq]
  omega
theorem shl1_nat (k : Nat) (hk : k < 32) : shlI 1 (k : Int) = ((2 ^ k : Nat) : Int) := by
  unfold shlI
  rw [show min ((k : Int).toNat) 64 = k by simp; omega]
  have h1 : 2 ^ k ≤ 2 ^ 32 := Nat.pow_le_pow_right (by omega) (by omega)
  have h2 : (1 : Int) * 2 ^ k = ((2 ^ k : Nat) : Int) := by simp
  rw [h2]
  generalize 2 ^ k = m at h1
  exact wrI (by omega) (by omega)
/-- the members of a set, below n -/
def memL (s n : Nat) : List Int := ((List.range n).filter fun k => s.testBit k).map Int.ofNat
theorem memL_succ (s n : Nat) : memL s (n + 1) = memL s n ++ (if s.testBit n = true then [(n : Int)] else []) := by
  unfold memL
  rw [List.range_succ, List.filter_append, List.map_append]
  congr 1
  by_cases h : s.testBit n = true <;> simp [h]
theorem mem_memL {s n : Nat} {x : Int} : x ∈ memL s n ↔ ∃ k : Nat, x = k ∧ k < n ∧ s.testBit k = true := by
  unfold memL
  rw [List.mem_map]
  constructor
  · rintro ⟨k, hk, rfl⟩
    obtain ⟨h1, h2⟩ := List.mem_filter.1 hk
    exact ⟨k, rfl, List.mem_range.1 h1, h2⟩
  · rintro ⟨k, rfl, h1, h2⟩
    exact ⟨k, List.mem_filter.2 ⟨List.mem_range.2 h1, h2⟩, rfl⟩
theorem memL_len (s n : Nat) : (memL s n).length ≤ n := by
  unfold memL
  rw [List.length_map]
  have := List.length_filter_le (fun k => s.testBit k) (List.range n)
  simpa using this
theorem members_nat (s : Nat) {n : Nat} (hn : n ≤ 32) : B_Members (s : Int) (n : Int) = some (memL s n) := by
  unfold B_Members
  refine Exists.elim (loopF_inv (body := B_Members_l2 n s) (fun z : List Int × Int => ∃ k : Nat, k ≤ n ∧ z = (memL s k, (k : Int))) (fun z => n - z.2.toNat) (fun l => l = memL s n) ?_ big ([], 0) ⟨0, Nat.zero_le _, rfl⟩ (by unfold big; simp; omega)) fun r ⟨h1, h2⟩ => by rw [h1, h2]
  rintro rec z ⟨k, hk, rfl⟩ ih
  unfold B_Members_l2
  simp only
  by_cases hlt : k < n
  · rw [decide_eq_true (by omega), cond_true, member_nat s k (by omega), Option.bind_some, wrI (by omega) (by omega)]
    have hl := memL_len s k
    cases hb : s.testBit k
    · rw [cond_false]
      exact ih _ ⟨k + 1, by omega, by rw [memL_succ, hb]; simp⟩ (by (try simp); omega)
    · rw [cond_true, need_of (fits_small (by simp; omega) (by omega))]
      exact ih _ ⟨k + 1, by omega, by rw [memL_succ, hb]; simp⟩ (by (try simp); omega)
  · rw [decide_eq_false (by omega), cond_false]
    have : k = n := by omega
    subst this
    exact ⟨_, rfl, rfl⟩
theorem Clm.pair {l : List Int} {n : Int} (h : Clm l n) : l.Pairwise (· < ·) := by
  rw [List.pairwise_iff_getElem]
  intro i j hi hj hij
  refine h.lt (j - i - 1) i _ _ (List.getElem?_eq_getElem hi) ?_
  rw [show i + (j - i - 1) + 1 = j by omega]
  exact List.getElem?_eq_getElem hj
theorem pair_clm {l : List Int} {n : Int} (h : l.Pairwise (· < ·)) (hb : ∀ x ∈ l, 0 ≤ x ∧ x < n) : Clm l n := by
  intro k x hx
  have := hb x (List.mem_of_getElem? hx)
  refine ⟨this.1, this.2, fun y h0 hy => ?_⟩
  obtain ⟨h1, rfl⟩ := List.getElem?_eq_some_iff.1 hx
  obtain ⟨h2, rfl⟩ := List.getElem?_eq_some_iff.1 hy
  exact List.pairwise_iff_getElem.1 h (k - 1) k h2 h1 (by omega)
theorem pair_ext : ∀ {a b : List Int}, a.Pairwise (· < ·) → b.Pairwise (· < ·) → (∀ x, x ∈ a ↔ x ∈ b) → a = b
  | [], [], _, _, _ => rfl
  | [], y :: b, _, _, h => absurd ((h y).2 (List.mem_cons_self ..)) (List.not_mem_nil)
  | x :: a, [], _, _, h => absurd ((h x).1 (List.mem_cons_self ..)) (List.not_mem_nil)
  | x :: a, y :: b, ha, hb, h => by
    rw [List.pairwise_cons] at ha hb
    have e : x = y := by
      rcases List.mem_cons.1 ((h x).1 (List.mem_cons_self ..)) with h1 | h1
      · exact h1
      · rcases List.mem_cons.1 ((h y).2 (List.mem_cons_self ..)) with h2 | h2
        · exact h2.symm
        · have := ha.1 y h2; have := hb.1 x h1; omega
    subst e
    congr 1
    refine pair_ext ha.2 hb.2 fun z => ?_
    constructor
    · intro hz
      rcases List.mem_cons.1 ((h z).1 (List.mem_cons_of_mem _ hz)) with h1 | h1
      · have := ha.1 z hz; omega
      · exact h1
    · intro hz
      rcases List.mem_cons.1 ((h z).2 (List.mem_cons_of_mem _ hz)) with h1 | h1
      · have := hb.1 z hz; omega
      · exact h1
theorem range_pair (n : Nat) : (List.range n).Pairwise (· < ·) := List.pairwise_lt_range
theorem memL_clm (s n : Nat) : Clm (memL s n) n := by
  refine pair_clm ?_ fun x hx => ?_
  · unfold memL
    rw [List.pairwise_map]
    exact ((range_pair n).sublist List.filter_sublist).imp fun {a b} h => by show (a : Int) < (b : Int); omega
  · obtain ⟨k, rfl, h, _⟩ := mem_memL.1 hx
    omega
/-- the set of a list -/
def setL : List Int → Nat
  | [] => 0
  | x :: l => 2 ^ x.toNat ||| setL l
theorem setL_bit : ∀ {l : List Int} {k : Nat}, (∀ x ∈ l, 0 ≤ x) → ((setL l).testBit k = true ↔ (k : Int) ∈ l)
  | [], k, _ => by simp [setL]
  | x :: l, k, h => by
    have h0 := h x (List.mem_cons_self ..)
    rw [setL, Nat.testBit_or, Bool.or_eq_true, setL_bit fun y hy => h y (List.mem_cons_of_mem _ hy), List.mem_cons, Nat.testBit_two_pow]
    simp only [decide_eq_true_eq]
    constructor
    · rintro (h1 | h1)
      · left; omega
      · exact .inr h1
    · rintro (h1 | h1)
      · left; omega
      · exact .inr h1
theorem setL_lt : ∀ {l : List Int} {n : Nat}, (∀ x ∈ l, 0 ≤ x ∧ x < n) → setL l < 2 ^ n
  | [], n, _ => by rw [setL]; exact Nat.two_pow_pos n
  | x :: l, n, h => by
    have h0 := h x (List.mem_cons_self ..)
    exact Nat.or_lt_two_pow (Nat.pow_lt_pow_right (by omega) (by omega)) (setL_lt fun y hy => h y (List.mem_cons_of_mem _ hy))
theorem clm_set {o : List Int} {n : Nat} (h : Clm o n) : ∃ s, s < 2 ^ n ∧ memL s n = o := by
  have hb : ∀ x ∈ o, 0 ≤ x ∧ x < (n : Int) := fun x hx => by
    obtain ⟨k, hk, rfl⟩ := List.getElem_of_mem hx
    have := h k _ (List.getElem?_eq_getElem hk)
    exact ⟨this.1, this.2.1⟩
  refine ⟨setL o, setL_lt hb, pair_ext (memL_clm _ _).pair h.pair fun x => ?_⟩
  rw [mem_memL]
  constructor
  · rintro ⟨k, rfl, _, hk⟩; exact (setL_bit fun y hy => (hb y hy).1).1 hk
  · intro hx
    have := hb x hx
    refine ⟨x.toNat, by omega, by omega, (setL_bit fun y hy => (hb y hy).1).2 ?_⟩
    rwa [show ((x.toNat : Nat) : Int) = x by omega]
/-! which list comes first -/
def Btr (o w : List Int) : Prop := o.length < w.length ∨ (o.length = w.length ∧ LexLt o w)
theorem LexLt.trans {a b c : List Int} (h : LexLt a b) (k : LexLt b c) : LexLt a c := by
  obtain ⟨i, x, y, h1, h2, h3, h4⟩ := h
  obtain ⟨j, u, v, k1, k2, k3, k4⟩ := k
  rcases Nat.lt_trichotomy i j with e | e | e
  · exact ⟨i, x, y, h1, by rw [← k4 i e]; exact h2, h3, fun m hm => by rw [h4 m hm, k4 m (by omega)]⟩
  · subst e
    rw [h2] at k1; have := Option.some.inj k1
    exact ⟨i, x, v, h1, k2, by omega, fun m hm => by rw [h4 m hm, k4 m hm]⟩
  · exact ⟨j, u, v, by rw [h4 j e]; exact k1, k2, k3, fun m hm => by rw [h4 m (by omega), k4 m hm]⟩
theorem LexLt.irr {a : List Int} (h : LexLt a a) : False := by
  obtain ⟨i, x, y, h1, h2, h3, _⟩ := h
  rw [h1] at h2; have := Option.some.inj h2; omega
theorem Btr.trans {a b c : List Int} (h : Btr a b) (k : Btr b c) : Btr a c := by
  rcases h with h | ⟨h, h'⟩ <;> rcases k with k | ⟨k, k'⟩
  · exact .inl (by omega)
  · exact .inl (by omega)
  · exact .inl (by omega)
  · exact .inr ⟨by omega, h'.trans k'⟩
theorem lex_total : ∀ {o w : List Int}, o.length = w.length → o = w ∨ LexLt o w ∨ LexLt w o
  | [], [], _ => .inl rfl
  | [], _ :: _, h => by simp at h
  | _ :: _, [], h => by simp at h
  | x :: o, y :: w, h => by
    rcases Int.lt_trichotomy x y with e | e | e
    · exact .inr (.inl ⟨0, x, y, rfl, rfl, e, fun j hj => absurd hj (Nat.not_lt_zero j)⟩)
    · subst e
      have up : ∀ {a b : List Int}, LexLt a b → LexLt (x :: a) (x :: b) := fun ⟨i, u, v, h1, h2, h3, h4⟩ => ⟨i + 1, u, v, by simpa using h1, by simpa using h2, h3, fun j hj => by
        cases j with
        | zero => rfl
        | succ j => simpa using h4 j (by omega)⟩
      rcases lex_total (o := o) (w := w) (by simpa using h) with h1 | h1 | h1
      · exact .inl (by rw [h1])
      · exact .inr (.inl (up h1))
      · exact .inr (.inr (up h1))
    · exact .inr (.inr ⟨0, y, x, rfl, rfl, e, fun j hj => absurd hj (Nat.not_lt_zero j)⟩)
theorem before_iff (o w : List Int) (h : o.length = w.length) (hl : o.length ≤ 1000) : ∃ r, B_Before o w = some r ∧ (r = true ↔ LexLt o w) := by
  unfold B_Before
  refine loopF_inv (body := B_Before_l2 w o) (fun z : Int => ∃ k : Nat, z = k ∧ k ≤ o.length ∧ ∀ j, j < k → o[j]? = w[j]?) (fun z => o.length - z.toNat) (fun r => r = true ↔ LexLt o w) ?_ big 0 ⟨0, rfl, Nat.zero_le _, fun j hj => absurd hj (Nat.not_lt_zero j)⟩ (by unfold big; simp; omega)
  rintro rec z ⟨k, rfl, hk, hj⟩ ih
  unfold B_Before_l2
  rw [show (if (w.length : Int) < (o.length : Int) then (w.length : Int) else (o.length : Int)) = (o.length : Int) by split <;> omega]
  by_cases hlt : k < o.length
  · rw [decide_eq_true (by omega), cond_true, getI_nat, getI_nat]
    have h1 := List.getElem?_eq_getElem hlt
    have h2 := List.getElem?_eq_getElem (show k < w.length by omega)
    generalize o[k] = x at h1
    generalize w[k]'(by omega) = y at h2
    rw [h1, h2]
    simp only [Option.bind_some]
    by_cases hxy : x = y
    · subst hxy
      rw [bne_self_eq_false, cond_false, wrI (by omega) (by omega)]
      refine ih _ ⟨k + 1, by simp, by omega, fun j hjk => ?_⟩ (by (try simp only); omega)
      by_cases hjk' : j = k
      · subst hjk'; rw [h1, h2]
      · exact hj j (by omega)
    · rw [show (x != y) = true by simpa using hxy, cond_true]
      refine ⟨_, rfl, ?_⟩
      rw [decide_eq_true_eq]
      constructor
      · intro hr; exact ⟨k, x, y, h1, h2, hr, hj⟩
      · rintro ⟨i, u, v, g1, g2, g3, g4⟩
        rcases Nat.lt_trichotomy i k with e | e | e
        · have := hj i e; rw [g1, g2] at this; have := Option.some.inj this; omega
        · subst e; rw [h1] at g1; rw [h2] at g2; have := Option.some.inj g1; have := Option.some.inj g2; omega
        · have := g4 k e; rw [h1, h2] at this; exact absurd (Option.some.inj this) hxy
  · rw [decide_eq_false (by omega), cond_false]
    refine ⟨_, rfl, ?_⟩
    rw [decide_eq_true_eq]
    constructor
    · intro hr; omega
    · rintro ⟨i, u, v, g1, g2, g3, _⟩
      have hi := (List.getElem?_eq_some_iff.1 g1).1
      have := hj i (by omega); rw [g1, g2] at this; have := Option.some.inj this; omega
theorem better_iff (o w : List Int) (h1 : o.length ≤ 1000) : ∃ r, B_Better o w = some r ∧ (r = true ↔ Btr o w) := by
  unfold B_Better Btr
  by_cases h : o.length < w.length
  · rw [decide_eq_true (by omega), cond_true]
    exact ⟨true, rfl, by simp [h]⟩
  · rw [decide_eq_false (by omega), cond_false]
    by_cases he : o.length = w.length
    · rw [show ((o.length : Int) == (w.length : Int)) = true by simp [he], cond_true]
      obtain ⟨r, hr, hi⟩ := before_iff o w he h1
      rw [hr, Option.bind_some]
      exact ⟨r, rfl, by rw [hi]; simp [h, he]⟩
    · rw [show ((o.length : Int) == (w.length : Int)) = false by simp; omega, cond_false]
      exact ⟨false, rfl, by simp [h, he]⟩
theorem Few.uniq {b : CoalBook} {w w' : List Int} (h : Few b w) (k : Few b w') : w = w' := by
  have e : w.length = w'.length := Nat.le_antisymm (h.len w' k.clm k.can) (k.len w h.clm h.can)
  rcases lex_total e with g | g | g
  · exact g
  · exact absurd g (k.lex w h.clm h.can e)
  · exact absurd g (h.lex w' k.clm k.can e.symm)
end Go.Proofs.YticodohfokgjfaaDoor

set_option linter.unusedVariables false
set_option linter.unusedSimpArgs false
namespace Go.Proofs.YticodohfokgjfaaDoor
open Go Go.Fx
theorem alike_same (l : List Int) (hl : l.length ≤ 9223372036854775806) : B_Alike l l = some true := by
  unfold B_Alike
  rw [bne_self_eq_false, cond_false]
  refine loopF_spec (fun i : Int => 0 ≤ i ∧ i ≤ l.length) (fun i => l.length - i.toNat) (fun _ => true) ?_ big 0 ⟨by omega, by omega⟩ (by unfold big; simp; omega)
  rintro rec i ⟨h0, h1⟩ ih
  unfold B_Alike_l1
  by_cases hi : i < l.length
  · rw [decide_eq_true hi, cond_true]
    obtain ⟨x, hx, _⟩ := getI_lt h0 hi
    rw [hx, Option.bind_some, Option.bind_some, bne_self_eq_false, cond_false, wrI (x := i + 1) (by omega) (by omega)]
    exact ih _ ⟨by omega, by omega⟩ (by omega)
  · rw [decide_eq_false hi, cond_false]
theorem rwithout_eq {b : CoalBook} (V : Val b) {s n : Nat} (hn : b.Dips.length = n) (hn8 : n ≤ 8) : ref_Without b s = some (outB b (memL s n)) := by
  unfold ref_Without
  refine loop_fold0 (fun k => ((k : Int), keepD b.Dips (memL s n) k)) n (fun rec k hk => ?_) (fun rec => ?_) (by rw [big_eq]; omega) rfl
  · unfold ref_Without_l2
    simp only
    have hc : (memL s n).contains (k : Int) = s.testBit k := by
      rw [Bool.eq_iff_iff, List.contains_iff_mem, mem_memL]
      constructor
      · rintro ⟨j, e, _, h⟩; rw [show k = j by omega]; exact h
      · intro h; exact ⟨k, rfl, hk, h⟩
    have hx : b.Dips[k]? = some (b.Dips[k]'(by omega)) := List.getElem?_eq_getElem (by omega)
    have hl := keepD_len b.Dips (memL s n) k
    rw [decide_eq_true (by omega), cond_true, member_nat s k (by omega), Option.bind_some, wrN hk (by omega), keepD, hc]
    cases hb : s.testBit k with
    | true => rfl
    | false =>
      rw [Bool.not_false, cond_true, getI_nat, hx, Option.bind_some, need_of (fits_small (by simp; omega) (by omega)), cond_false]
      rfl
  · unfold ref_Without_l2
    simp only
    rw [decide_eq_false (by omega), cond_false, outB, hn]
theorem wrong_same (b : CoalBook) (A : Arg b) : ∃ l e, coal_Wrong b = some (l, e) ∧ ref_Wrong b = some (l, e) ∧ l.length ≤ 1000 := by
  cases hv : valB b with
  | false =>
    refine ⟨[], 60, ?_, ?_, by simp⟩
    · unfold coal_Wrong; rw [check_eq b A, hv]; rfl
    · unfold ref_Wrong; rw [refCheck_eq b A, hv]; rfl
  | true =>
  have V := val_iff.1 hv
  have l8 := V.pn
  obtain ⟨w, h1, F⟩ := wrong_law V A
  obtain ⟨n, hn⟩ : ∃ n, b.Dips.length = n := ⟨_, rfl⟩
  have hn8 : n ≤ 4 := by omega
  have p8 : 2 ^ n ≤ 256 := Nat.le_trans (Nat.pow_le_pow_right (n := 2) (by omega) hn8) (by decide)
  have p0 : 0 < 2 ^ n := Nat.two_pow_pos n
  refine ⟨w, 0, h1, ?_, by have := F.clm.len (by omega); omega⟩
  unfold ref_Wrong
  rw [refCheck_eq b A, hv, Option.bind_some]
  simp only [cond_true, bne_self_eq_false, cond_false]
  rw [hn, need_of (by simp), shl1_nat n (by omega)]
  have e1 : Fx.wr (((2 ^ n : Nat) : Int) - 1) = ((2 ^ n - 1 : Nat) : Int) := by
    generalize 2 ^ n = m at p8 p0
    rw [wrI (by omega) (by omega)]; omega
  rw [e1, members_nat _ (by omega), Option.bind_some]
  have all_ : memL (2 ^ n - 1) n = allL n := by
    unfold memL allL
    congr 1
    rw [List.filter_eq_self]
    intro k hk
    rw [Nat.testBit_two_pow_sub_one]
    simpa using hk
  obtain ⟨r, hr, hw⟩ : ∃ r, loopF (ref_Wrong_l2 b) big (memL (2 ^ n - 1) n, 0) = some r ∧ (r.2 = 0 ∧ Few b r.1) := by
    refine loopF_inv (body := ref_Wrong_l2 b) (fun z : List Int × Int => ∃ s : Nat, z.2 = s ∧ s ≤ 2 ^ n ∧ Clm z.1 n ∧ CanO b z.1 ∧ ∀ s' : Nat, s' < s → CanO b (memL s' n) → ¬ Btr (memL s' n) z.1) (fun z => 2 ^ n - z.2.toNat) (fun r => r.2 = 0 ∧ Few b r.1) ?_ big _
      ⟨0, rfl, Nat.zero_le _, by rw [all_]; exact allL_clm n, by rw [all_, ← hn]; exact hall V A, fun s' h => absurd h (Nat.not_lt_zero _)⟩ (by unfold big; simp only [Int.toNat_zero]; generalize 2 ^ n = m at p8 p0; omega)
    rintro rec ⟨best, z⟩ ⟨s, rfl, hs, hc, hcan, hmin⟩ ih
    simp only at hc hcan hmin
    unfold ref_Wrong_l2
    simp only
    rw [hn, need_of (by simp), shl1_nat n (by omega)]
    have hlen := hc.len (by omega)
    by_cases hlt : s < 2 ^ n
    · have hs32 : s < 256 := by omega
      have hw : Fx.wr ((s : Int) + 1) = ((s + 1 : Nat) : Int) := by rw [wrI (by omega) (by omega)]; omega
      have mu : 2 ^ n - (((s + 1 : Nat) : Int)).toNat < 2 ^ n - ((s : Int)).toNat := by
        simp only [Int.toNat_natCast]
        generalize 2 ^ n = m at hlt
        omega
      rw [decide_eq_true (by exact_mod_cast hlt), cond_true, members_nat s (by omega), Option.bind_some]
      have hml := memL_len s n
      obtain ⟨r, hr, hb⟩ := better_iff (memL s n) best (by omega)
      rw [hr, Option.bind_some, hw]
      have stay : (CanO b (memL s n) → ¬ Btr (memL s n) best) → ∃ r, rec (best, ((s + 1 : Nat) : Int)) = some r ∧ (r.2 = 0 ∧ Few b r.1) := fun hno => by
        refine ih _ ⟨s + 1, rfl, by omega, hc, hcan, fun s' h1 h2 => ?_⟩ mu
        by_cases e : s' = s
        · subst e; exact hno h2
        · exact hmin s' (by omega) h2
      cases r
      · rw [cond_false]
        exact stay fun _ h => by have := hb.2 h; cases this
      · rw [cond_true]
        have hT := refTruths_eq (out_val V (memL s n)) (out_arg V A (memL s n))
        rw [rwithout_eq V hn (by omega), Option.bind_some]
        have hT2 : ref_truths (CoalBook.mk (outB b (memL s n)).Heap (outB b (memL s n)).Eats (outB b (memL s n)).Extra b.Days (outB b (memL s n)).Collier (outB b (memL s n)).Brings (outB b (memL s n)).Dips) = _ := hT
        rw [hT2, Option.bind_some, out_TT, List.length_map]
        have hcx : decide (((truths (opn b (memL s n))).length : Int) > 0) = true ↔ CanO b (memL s n) := by
          unfold CanO
          cases truths (opn b (memL s n)) <;> simp
        generalize decide (((truths (opn b (memL s n))).length : Int) > 0) = r' at hcx
        cases r'
        · rw [cond_false]
          exact stay fun h => by have := hcx.2 h; cases this
        · rw [cond_true]
          have hbt := hb.1 rfl
          refine ih _ ⟨s + 1, rfl, by omega, memL_clm s n, hcx.1 rfl, fun s' h1 h2 h3 => ?_⟩ mu
          by_cases e : s' = s
          · subst e
            have h4 : Btr (memL s' n) (memL s' n) := h3
            rcases h4 with h3 | ⟨_, h3⟩
            · omega
            · exact h3.irr
          · exact hmin s' (by omega) h2 (h3.trans hbt)
    · rw [decide_eq_false (by exact_mod_cast hlt), cond_false]
      have key : ∀ o, Clm o b.Dips.length → CanO b o → ¬ Btr o best := fun o ho hco => by
        rw [hn] at ho
        obtain ⟨s', h1, h2⟩ := clm_set ho
        rw [← h2] at hco ⊢
        exact hmin s' (by omega) hco
      refine ⟨_, rfl, rfl, ⟨by rw [hn]; exact hc, hcan, fun o ho hco => ?_, fun o ho hco he hlex => key o ho hco (.inr ⟨he, hlex⟩)⟩⟩
      have := key o ho hco
      exact Nat.le_of_not_lt fun h => this (.inl h)
  rw [hr]
  obtain ⟨r1, r2⟩ := r
  simp only at hw
  rw [hw.1, hw.2.uniq F]
end Go.Proofs.YticodohfokgjfaaDoor

set_option linter.unusedVariables false
set_option linter.unusedSimpArgs false
namespace Go.Proofs.YticodohfokgjfaaDoor
open Go Go.Fx Go.Proofs
def law_CoalWrongs (a0 : CoalBook) : Option Bool :=
  (B_OwnCoal a0).bind fun r12 =>
  (law_coalWrongs r12 a0).bind fun r30 =>
  bif r30 then ((B_KeptCoal r12 a0).bind fun r35 =>
  bif r35 then ((law_stoked).bind fun r40 =>
  some r40)
  else (some false))
  else (some false)

set_option maxRecDepth 100000 in
theorem law_CoalWrongs_ok {a0 : CoalBook} {A1 : Option Addr} {c2 : Nat} {A4 : Option Addr} {c5 : Nat} {w : World} {r : Bool} (H : law_CoalWrongs a0 = some r) (h3 : (rd eCoalDay 3 A1 c2 a0.Days).ok w) (h6 : (rd eCoalDip 3 A4 c5 a0.Dips).ok w) (hg7 : (bl 0 [Value.func (.func 128) #[] #[], Value.func (.func 129) #[] #[]] 110).ok w) (hg8 : (bl 1 [I (-1), I (-1)] 123).ok w) : Calls Tryd.prog 5 #[AG ([I a0.Heap.Low, I a0.Heap.High] ++ (sgE eSpan a0.Eats 2 ++ (sg a0.Extra 3 ++ [SL A1 a0.Days.length c2, I a0.Collier.Low, I a0.Collier.High, I a0.Brings, SL A4 a0.Dips.length c5])))] w (RetV w (B r)) := by
  unfold law_CoalWrongs at H
  refine fn_of (n := 17) Tryd.func5 rfl rfl (Nat.le_of_ble_eq_true rfl) ?_
  have S : St w (fun _ => False) w [] [rd eCoalDay 3 A1 c2 a0.Days, rd eCoalDip 3 A4 c5 a0.Dips, bl 0 [Value.func (.func 128) #[] #[], Value.func (.func 129) #[] #[]] 110, bl 1 [I (-1), I (-1)] 123] := St.start w _ _ (List.forall_mem_cons.2 ⟨h3, (List.forall_mem_cons.2 ⟨h6, (List.forall_mem_cons.2 ⟨hg7, (List.forall_mem_cons.2 ⟨hg8, (fun _ h_ => (List.not_mem_nil h_).elim)⟩)⟩)⟩)⟩)
  refine c_seq ?_
  refine reg ?_
  refine p_boxA rfl S fun b9 w10 S11 => ?_
  refine p_aB rfl ?_
  refine wp_nil ?_
  refine c_seq ?_
  refine reg ?_
  refine p_ldA ty29 sz29 (S11.atX (i := 0) rfl) rfl rfl ?_
  obtain ⟨r12, h13, H⟩ := bindS H
  refine p_cal (B_OwnCoal_ok h13 (S11.atP (i := 0) rfl) (S11.atP (i := 1) rfl)) fu16 rfl ?_
  rintro _ w14 ⟨A16, c17, A18, c19, rfl, k15, ⟨o20, n21⟩, ⟨o22, n23⟩, _⟩
  have S24 := S11.callN k15 [rd eCoalDay 3 A16 c17 r12.Days, rd eCoalDip 3 A18 c19 r12.Dips] (List.forall_mem_cons.2 ⟨⟨o20, New.inL n21⟩, (List.forall_mem_cons.2 ⟨⟨o22, New.inL n23⟩, (fun _ h_ => (List.not_mem_nil h_).elim)⟩)⟩)
  refine p_allA in29 S24 fun b25 w26 S27 => ?_
  refine p_stP (pre := []) (old := [I 0, I 0, I 0, I 0, I 0, I 0] ++ (sg (List.replicate 3 0) 3 ++ [SL none 0 0, I 0, I 0, I 0, SL none 0 0])) (post := []) (vs := [I r12.Heap.Low, I r12.Heap.High] ++ (sgE eSpan r12.Eats 2 ++ (sg r12.Extra 3 ++ [SL A16 r12.Days.length c17, I r12.Collier.Low, I r12.Collier.High, I r12.Brings, SL A18 r12.Dips.length c19]))) sz29 S27 (i := 0) rfl rfl rfl rfl (rfl : _ = AG ([I r12.Heap.Low, I r12.Heap.High] ++ (sgE eSpan r12.Eats 2 ++ (sg r12.Extra 3 ++ [SL A16 r12.Days.length c17, I r12.Collier.Low, I r12.Collier.High, I r12.Brings, SL A18 r12.Dips.length c19])))) rfl rfl rfl rfl fun w28 S29 => ?_
  refine wp_nil ?_
  refine c_seq ?_
  refine reg ?_
  refine p_ldA ty29 sz29 (S29.atX (i := 0) rfl) rfl rfl ?_
  refine p_ldA ty29 sz29 (S29.atX (i := 1) rfl) rfl rfl ?_
  obtain ⟨r30, h31, H⟩ := bindS H
  refine p_cv (law_coalWrongs_ok h31 (S29.atP (i := 0) rfl) (S29.atP (i := 1) rfl) (S29.atP (i := 2) rfl) (S29.atP (i := 3) rfl) (S29.atP (i := 5) rfl)) fu21 rfl S29 fun w32 S33 => ?_
  refine p_mB rfl ?_
  rcases Bool.eq_false_or_eq_true (r30) with c34 | c34
  · replace H := condT c34 H
    refine eB c34 ?_
    refine gT rfl rfl (p_ldA ty29 sz29 (S33.atX (i := 0) rfl) rfl rfl ?_)
    refine gT rfl rfl (p_ldA ty29 sz29 (S33.atX (i := 1) rfl) rfl rfl ?_)
    obtain ⟨r35, h36, H⟩ := bindS H
    refine gT rfl rfl (p_cv (B_KeptCoal_ok h36 (S33.atP (i := 0) rfl) (S33.atP (i := 1) rfl) (S33.atP (i := 2) rfl) (S33.atP (i := 3) rfl)) fu18 rfl S33 fun w37 S38 => ?_)
    refine p_pkT rfl (rfl : _ = B r35) ?_
    refine p_mB rfl ?_
    rcases Bool.eq_false_or_eq_true (r35) with c39 | c39
    · replace H := condT c39 H
      refine eB c39 ?_
      obtain ⟨r40, h41, H⟩ := bindS H
      refine gT rfl rfl (p_cv (law_stoked_ok h41 (S38.atP (i := 4) rfl) (S38.atP (i := 5) rfl)) fu19 rfl S38 fun w42 S43 => ?_)
      refine p_pkT rfl (rfl : _ = B r40) ?_
      refine p_aB rfl ?_
      refine wp_nil ?_
      obtain rfl := Option.some.inj H
      refine c_ret ?_; show bodyPostM (Fr none) 0 Tryd.prog Tryd.f5 _ .ret _ _
      refine ret_of (res1 rfl (rvT (rfl : _ = B r40))) ?_
      exact ⟨_, rfl, rfl, S43.keep⟩
    · replace H := condF c39 H
      refine eB c39 ?_
      refine gF rfl rfl ?_
      refine p_pkF rfl (rfl : _ = B false) ?_
      refine p_aB rfl ?_
      refine wp_nil ?_
      obtain rfl := Option.some.inj H
      refine c_ret ?_; show bodyPostM (Fr none) 0 Tryd.prog Tryd.f5 _ .ret _ _
      refine ret_of (res1 rfl (rvT (rfl : _ = B false))) ?_
      exact ⟨_, rfl, rfl, S38.keep⟩
  · replace H := condF c34 H
    refine eB c34 ?_
    refine gF rfl rfl ?_
    refine gF rfl rfl ?_
    refine gF rfl rfl ?_
    refine p_pkF rfl (rfl : _ = B false) ?_
    refine p_mB rfl ?_
    refine gF rfl rfl ?_
    refine p_pkF rfl (rfl : _ = B false) ?_
    refine p_aB rfl ?_
    refine wp_nil ?_
    obtain rfl := Option.some.inj H
    refine c_ret ?_; show bodyPostM (Fr none) 0 Tryd.prog Tryd.f5 _ .ret _ _
    refine ret_of (res1 rfl (rvT (rfl : _ = B false))) ?_
    exact ⟨_, rfl, rfl, S33.keep⟩

end Go.Proofs.YticodohfokgjfaaDoor

set_option linter.unusedVariables false
set_option linter.unusedSimpArgs false
namespace Go.Proofs.YticodohfokgjfaaDoor
open Go Go.Fx
theorem law_coalWrongs_t (b : CoalBook) (W : ArgW b) : law_CoalWrongs b = some true := by
  obtain ⟨l, e, h1, h2, h3⟩ := wrong_same b W.arg
  have main : law_coalWrongs b b = some true := by
    unfold law_coalWrongs
    simp only [h1, h2, Option.bind_some, alike_same l (by omega), cond_true, beq_self_eq_true]
  unfold law_CoalWrongs
  rw [own_eq b W, Option.bind_some, main, Option.bind_some, cond_true, kept_eq b W.arg, Option.bind_some, cond_true, stoked_eq]
  rfl
end Go.Proofs.YticodohfokgjfaaDoor

set_option linter.unusedVariables false
set_option maxRecDepth 100000
namespace Go.Proofs.YticodohfokgjfaaDoor
open Go Go.Fx Go.Proofs Go.ChangeShapes Go.WideShapes Go.ChangeAt Go.RowKit
variable {H : Type} {enc : TypeId × Value → H} {w : World} {spare : Nat → Bool} {held : Bool} {r : Reach} {b0 : Nat} {v : Value} {d : DataW H} {ps : List MemPlace} {P : Program}
theorem wt_cons {t : TypeId} {ts : List TypeId} {d : DataW H} {r : List (DataW H)} (h : (DataW.weightsEach P (t :: ts) (d :: r)).all (· ≤ reachBytes) = true) : (d.weights P t).all (· ≤ reachBytes) = true ∧ (DataW.weightsEach P ts r).all (· ≤ reachBytes) = true := by
  rw [DataW.weightsEach, List.all_append, Bool.and_eq_true] at h
  exact h
theorem wt_at : ∀ {ts : List TypeId} {ds : List (DataW H)} {i : Nat} {t : TypeId} {d : DataW H}, (DataW.weightsEach P ts ds).all (· ≤ reachBytes) = true → ts[i]? = some t → ds[i]? = some d → (d.weights P t).all (· ≤ reachBytes) = true
  | [], _, _, _, _, _, h1, _ => by simp at h1
  | _ :: _, [], _, _, _, _, _, h2 => by simp at h2
  | t :: ts, d :: ds, 0, _, _, h, h1, h2 => by
    simp at h1 h2; subst h1 h2; exact (wt_cons h).1
  | t :: ts, d :: ds, i + 1, _, _, h, h1, h2 => by
    simp at h1 h2; exact wt_at (wt_cons h).2 h1 h2
theorem slice_wt {t e : TypeId} {fuel n c : Nat} {cs : List Value} {A : Option Addr} {x : DataW H × List MemPlace} (ht : P.underlying t = some (.slice e)) (h : DataW.trod enc P w 0 spare held fuel t cs = some x) (hw : (x.1.weights P t).all (· ≤ reachBytes) = true)
    (hc : cs = [SL A n c]) : n * P.bytesOf e ≤ reachBytes := by
  rcases DataW.trod_slice ht h with ⟨rfl, _⟩ | ⟨a, len, cap, elems, rest, m, _, rfl, rfl, _, _, _, hel, _⟩
  · injection hc with hc; injection hc with _ hc _; subst hc; simp
  · injection hc with hc; injection hc with _ hc _; subst hc
    simp only [DataW.weights, ht, List.all_cons, Bool.and_eq_true, decide_eq_true_eq, List.length_map] at hw
    have h1 := hw.1
    have h2 : len * P.bytesOf e ≤ (elems.length + rest.length) * P.bytesOf e := Nat.mul_le_mul_right _ (by omega)
    omega
theorem wt_book {b : CoalBook} {A1 A2 : Option Addr} {c1 c2 : Nat} (hd : DataW.Trod enc Tryd.prog w 0 spare held 29 (AG ([I b.Heap.Low, I b.Heap.High] ++ (sgE eSpan b.Eats 2 ++ (sg b.Extra 3 ++ [SL A1 b.Days.length c1, I b.Collier.Low, I b.Collier.High, I b.Brings, SL A2 b.Dips.length c2])))) d ps) (hw : (d.weights Tryd.prog 29).all (· ≤ reachBytes) = true) :
    b.Days.length * 24 ≤ 140737488355328 ∧ b.Dips.length * 24 ≤ 140737488355328 := by
  obtain ⟨fuel, hf⟩ := hd
  obtain ⟨xs, m, _, hx, hl, hxs, hel⟩ := DataW.trod_struct u29 hf
  have hx1 : d = .agg (xs.map (·.1)) := congrArg Prod.fst hx
  subst hx1
  rw [f29s] at hxs
  have fb := f29b
  simp only [List.all_cons, List.all_nil, Bool.and_eq_true, beq_iff_eq, and_true] at fb
  obtain ⟨⟨o0, t0⟩, ⟨o1, t1⟩, ⟨o2, t2⟩, ⟨o3, t3⟩, ⟨o4, t4⟩, ⟨o5, t5⟩, ⟨o6, t6⟩⟩ := fb
  have e3 := hel 3 _ (get_bang (by rw [f29s]; decide))
  have e6 := hel 6 _ (get_bang (by rw [f29s]; decide))
  rw [o3, t3, c26, List.getElem?_eq_getElem (by omega)] at e3
  rw [o6, t6, c27, List.getElem?_eq_getElem (by omega)] at e6
  have hwf : ∀ (k : Nat) (t : TypeId) (hk : k < xs.length), ((Tryd.prog.fieldsOf 29)[k]?).map (·.type) = some t → ((xs[k]'hk).1.weights Tryd.prog t).all (· ≤ reachBytes) = true := fun k t hk ht => by
    simp only [DataW.weights, u29] at hw
    refine wt_at hw (i := k) ?_ (by rw [List.getElem?_map, List.getElem?_eq_getElem hk]; rfl)
    rw [List.getElem?_map, Array.getElem?_toList]
    exact ht
  have h3 := hwf 3 26 (by omega) (by rw [get_bang (by rw [f29s]; decide), Option.map_some, t3])
  have h6 := hwf 6 27 (by omega) (by rw [get_bang (by rw [f29s]; decide), Option.map_some, t6])
  have w3 := slice_wt u26 e3 h3 (A := A1) (n := b.Days.length) (c := c1) rfl
  have w6 := slice_wt u27 e6 h6 (A := A2) (n := b.Dips.length) (c := c2) rfl
  rw [show Tryd.prog.bytesOf 64 = 24 by kernel_rfl] at w3
  rw [show Tryd.prog.bytesOf 67 = 24 by kernel_rfl] at w6
  have h2 : reachBytes ≤ 140737488355328 := by decide
  omega
end Go.Proofs.YticodohfokgjfaaDoor

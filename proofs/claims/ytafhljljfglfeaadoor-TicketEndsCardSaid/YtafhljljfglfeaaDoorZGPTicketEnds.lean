/- What the functions of the layer of tickets answer. -/
import Derived.Test.YtafhljljfglfeaaDoorZGPTr
import Derived.KernelRfl
set_option linter.unusedVariables false
set_option linter.unusedSimpArgs false
namespace Go.Proofs.YtafhljljfglfeaaDoor
open Go Go.Fx
/-- a book with these shows and boxes can be true -/
def CanT (b : TicketBook) (sh : List TicketShow) (bx : List TicketBox) : Prop := ∃ t, Tr b sh bx t
theorem isTrueT_eq {b : TicketBook} (V : VT b) {sh : List TicketShow} {bx : List TicketBox} (P : Pc b sh bx) : ∃ r, ticket_book_isTrue (qOf b sh bx) = some r ∧ (r = true ↔ CanT b sh bx) := by
  obtain ⟨cl, hc, hi⟩ := clear_eq V P
  unfold ticket_book_isTrue ticket_book_truths
  rw [Option.bind_some, truths_eq _ (qOf_op V P) hc, foldY_find ticket_book_isTrue_r1 (fun _ => true) false true (truths (qOf b sh bx) cl) (fun _ _ => rfl)]
  have hm := fun t => mem_truths V P hi (t := t)
  unfold CanT
  cases hL : truths (qOf b sh bx) cl with
  | nil =>
    refine ⟨false, rfl, ?_⟩
    simp only [Bool.false_eq_true, false_iff]
    rintro ⟨t, ht⟩
    have := (hm t).2 ht
    rw [hL] at this; cases this
  | cons x l =>
    refine ⟨true, rfl, ?_⟩
    simp only [true_iff]
    exact ⟨x, (hm x).1 (by rw [hL]; exact List.mem_cons_self ..)⟩
theorem outS_no (b : TicketBook) : outS b (fun _ => false) = b.Shows := kept_all _
theorem outX_no (b : TicketBook) : outX b (fun _ => false) = b.Boxes := kept_all _
theorem nobodyT {b : TicketBook} (V : VT b) : ticket_opened b (Ticket_choice.mk (fun y28 => ticket_nothing_1 y28)) = some (qOf b b.Shows b.Boxes) := by
  have := openedT_eq V (Ticket_choice.mk (fun y28 => ticket_nothing_1 y28)) (fun _ => false) (fun k _ => rfl)
  rw [outS_no, outX_no] at this
  exact this
/-- it can be true -/
def Can (b : TicketBook) : Prop := CanT b b.Shows b.Boxes
theorem askedT {b : TicketBook} (V : VT b) : ∃ e, ticket_asked b true = some (qOf b b.Shows b.Boxes, e) ∧ ((e = 0 ∧ Can b) ∨ (e = 102 ∧ ¬ Can b)) := by
  obtain ⟨r, hr, hi⟩ := isTrueT_eq V V.pc
  refine ⟨if r = true then 0 else 102, ?_, ?_⟩
  · unfold ticket_asked
    rw [checkT_ok V, Option.bind_some]
    simp only [bne_self_eq_false, cond_false, Bool.not_true]
    unfold ticket_nothing
    rw [Option.bind_some, nobodyT V, Option.bind_some]
    show (ticket_book_isTrue (qOf b b.Shows b.Boxes)).bind _ = _
    rw [hr, Option.bind_some]
    cases r <;> rfl
  · cases r
    · right; exact ⟨rfl, fun h => by simpa using hi.2 h⟩
    · left; exact ⟨rfl, hi.1 rfl⟩
/-! both ends of a number over all truths -/
theorem len_flat {α β : Type} {l : List α} {f : α → List β} {k : Nat} (h : ∀ x ∈ l, (f x).length ≤ k) : (l.flatMap f).length ≤ l.length * k := by
  induction l with
  | nil => simp
  | cons x l ih =>
    rw [List.flatMap_cons, List.length_append, List.length_cons, Nat.add_mul, Nat.one_mul]
    have h1 := h x (List.mem_cons_self ..)
    have h2 := ih fun y hy => h y (List.mem_cons_of_mem _ hy)
    omega
theorem uses_len (q : Ticket_book) : ∀ (r : Nat) (c u : List Int) (d : Nat), (usesL q r c u d).length ≤ 8 ^ r
  | 0, _, _, _ => Nat.le_refl _
  | r + 1, c, u, d => by
    unfold usesL
    refine Nat.le_trans (len_flat (k := 8 ^ r) fun s _ => ?_) ?_
    · cases okN q c (u.set d (s : Int)) s d with
      | false => exact Nat.zero_le _
      | true => exact uses_len q r _ _ _
    · rw [List.length_range', Nat.pow_succ, Nat.mul_comm]; exact Nat.le_refl _
theorem cross_len (q : Ticket_book) (t3 : q.TicketBook.Tally.Trips ≤ 3) (r5 : q.TicketBook.Tally.Room ≤ 5) : ∀ (r : Nat) (c : List Int) (d : Nat), (crossL q r c d).length ≤ 6 ^ r * 512
  | 0, c, d => by
    unfold crossL
    cases canB q.TicketBook.Tally c with
    | false => exact Nat.zero_le _
    | true =>
      refine Nat.le_trans (uses_len q _ _ _ _) ?_
      have : (8 : Nat) ^ q.TicketBook.Tally.Trips.toNat ≤ 8 ^ 3 := Nat.pow_le_pow_right (by omega) (by omega)
      omega
  | r + 1, c, d => by
    unfold crossL
    refine Nat.le_trans (len_flat (k := 6 ^ r * 512) fun s _ => cross_len q t3 r5 r _ _) ?_
    rw [List.length_range', Nat.pow_succ, Nat.mul_comm (6 ^ r) 6, Nat.mul_assoc]
    exact Nat.mul_le_mul_right _ (by omega)
theorem truths_len (q : Ticket_book) (t3 : q.TicketBook.Tally.Trips ≤ 3) (r5 : q.TicketBook.Tally.Room ≤ 5) (cl : Bool) : (truths q cl).length ≤ 110592 := by
  unfold truths
  cases cl with
  | false => exact Nat.zero_le _
  | true =>
    refine Nat.le_trans (cross_len q t3 r5 _ _ _) ?_
    have : (6 : Nat) ^ q.TicketBook.Tally.Trips.toNat ≤ 6 ^ 3 := Nat.pow_le_pow_right (by omega) (by omega)
    omega
theorem foldY_span {a : Ticket_truth → Option Int} (g : Ticket_truth → Int) : ∀ (L : List Ticket_truth) (z : List Int), (∀ x ∈ L, a x = some (g x)) → z.length + L.length ≤ 200000 → ∃ z', foldY (yvOf (ticket_book_span_r2 a)) L (0, z) = some (true, 0, z') ∧ z'.length ≤ 200000 ∧ ∀ v, v ∈ z' ↔ v ∈ z ∨ ∃ x ∈ L, g x = v
  | [], z, _, h => ⟨z, rfl, by simpa using h, fun v => by simp⟩
  | x :: L, z, h, hl => by
    rw [List.length_cons] at hl
    have step : ∃ z1 : List Int, ticket_book_span_r2 a x z = some (true, 0, z1) ∧ z1.length ≤ z.length + 1 ∧ ∀ v, v ∈ z1 ↔ v ∈ z ∨ g x = v := by
      unfold ticket_book_span_r2
      rw [h x (List.mem_cons_self ..), Option.bind_some, has_int _ _ (by omega), Option.bind_some]
      by_cases hm : g x ∈ z
      · rw [decide_eq_true hm]
        exact ⟨z, rfl, by omega, fun v => ⟨.inl, fun h => h.elim id fun h => h ▸ hm⟩⟩
      · rw [decide_eq_false hm, Bool.not_false, cond_true, need_of (fits_of (by simp; omega) (by omega))]
        exact ⟨_, rfl, by simp, fun v => by simp [eq_comm]⟩
    obtain ⟨z1, e1, e2, e3⟩ := step
    obtain ⟨z', e4, e6, e5⟩ := foldY_span g L z1 (fun y hy => h y (List.mem_cons_of_mem _ hy)) (by omega)
    refine ⟨z', ?_, e6, fun v => ?_⟩
    · show (ticket_book_span_r2 a x z).bind (fun r => bif r.1 then foldY (yvOf (ticket_book_span_r2 a)) L r.2 else some (false, r.2)) = _
      rw [e1]; exact e4
    · rw [e5, e3, or_assoc]; simp
theorem min_eq {l : List Int} (hn : l ≠ []) (hl : l.length ≤ 1000000) : ∃ m, sl_Min_int_int l = some m ∧ m ∈ l ∧ ∀ x ∈ l, m ≤ x := by
  have h0 : 0 < l.length := List.length_pos_iff.2 hn
  unfold sl_Min_int_int
  rw [decide_eq_false (by omega), cond_false, show (0 : Int) = ((0 : Nat) : Int) from rfl, getI_ix h0, Option.bind_some]
  refine loopF_inv (body := sl_Min_int_int_l1 l) (fun z : Int × Int => ∃ k : Nat, z.2 = k ∧ 1 ≤ k ∧ k ≤ l.length ∧ z.1 ∈ l ∧ ∀ x ∈ l.take k, z.1 ≤ x) (fun z => l.length - z.2.toNat) (fun m => m ∈ l ∧ ∀ x ∈ l, m ≤ x) ?_ big (l[0], 1) ⟨1, rfl, by omega, by omega, List.getElem_mem _, fun x hx => ?_⟩ (by unfold big; simp only; omega)
  · rintro rec ⟨m, i⟩ ⟨k, h1, h2, h3, h4, h5⟩ ih
    simp only at h1 h4 h5 ih ⊢
    subst h1
    unfold sl_Min_int_int_l1
    simp only
    by_cases hlt : k < l.length
    · rw [decide_eq_true (by omega), cond_true, getI_ix hlt, Option.bind_some, wrI (by omega) (by omega)]
      refine ih _ ⟨k + 1, by simp, by omega, by omega, ?_, fun x hx => ?_⟩ (by simp only; omega)
      · simp only; split
        · exact List.getElem_mem _
        · exact h4
      · rw [List.take_succ_eq_append_getElem hlt, List.mem_append, List.mem_singleton] at hx
        simp only
        rcases hx with hx | rfl
        · have := h5 x hx; split <;> omega
        · split <;> omega
    · rw [decide_eq_false (by omega), cond_false]
      rw [List.take_of_length_le (by omega)] at h5
      exact ⟨m, rfl, h4, h5⟩
  · match l, h0 with
    | y :: l, _ => simp at hx ⊢; omega
theorem max_eq {l : List Int} (hn : l ≠ []) (hl : l.length ≤ 1000000) : ∃ m, sl_Max_int_int l = some m ∧ m ∈ l ∧ ∀ x ∈ l, x ≤ m := by
  have h0 : 0 < l.length := List.length_pos_iff.2 hn
  unfold sl_Max_int_int
  rw [decide_eq_false (by omega), cond_false, show (0 : Int) = ((0 : Nat) : Int) from rfl, getI_ix h0, Option.bind_some]
  refine loopF_inv (body := sl_Max_int_int_l1 l) (fun z : Int × Int => ∃ k : Nat, z.2 = k ∧ 1 ≤ k ∧ k ≤ l.length ∧ z.1 ∈ l ∧ ∀ x ∈ l.take k, x ≤ z.1) (fun z => l.length - z.2.toNat) (fun m => m ∈ l ∧ ∀ x ∈ l, x ≤ m) ?_ big (l[0], 1) ⟨1, rfl, by omega, by omega, List.getElem_mem _, fun x hx => ?_⟩ (by unfold big; simp only; omega)
  · rintro rec ⟨m, i⟩ ⟨k, h1, h2, h3, h4, h5⟩ ih
    simp only at h1 h4 h5 ih ⊢
    subst h1
    unfold sl_Max_int_int_l1
    simp only
    by_cases hlt : k < l.length
    · rw [decide_eq_true (by omega), cond_true, getI_ix hlt, Option.bind_some, wrI (by omega) (by omega)]
      refine ih _ ⟨k + 1, by simp, by omega, by omega, ?_, fun x hx => ?_⟩ (by simp only; omega)
      · simp only; split
        · exact List.getElem_mem _
        · exact h4
      · rw [List.take_succ_eq_append_getElem hlt, List.mem_append, List.mem_singleton] at hx
        simp only
        rcases hx with hx | rfl
        · have := h5 x hx; split <;> omega
        · split <;> omega
    · rw [decide_eq_false (by omega), cond_false]
      rw [List.take_of_length_le (by omega)] at h5
      exact ⟨m, rfl, h4, h5⟩
  · match l, h0 with
    | y :: l, _ => simp at hx ⊢; omega
/-- both ends of a number over all truths, both taken -/
structure SpT (b : TicketBook) (sh : List TicketShow) (bx : List TicketBox) (g : Ticket_truth → Int) (s : Span) : Prop where
  loE : ∃ t, Tr b sh bx t ∧ g t = s.Low
  hiE : ∃ t, Tr b sh bx t ∧ g t = s.High
  all : ∀ t, Tr b sh bx t → s.Low ≤ g t ∧ g t ≤ s.High
theorem span_law {b : TicketBook} (V : VT b) {sh : List TicketShow} {bx : List TicketBox} (P : Pc b sh bx) (C : CanT b sh bx) {a : Ticket_truth → Option Int} {g : Ticket_truth → Int} (h : ∀ t, Tr b sh bx t → a t = some (g t)) : ∃ s, ticket_book_span (qOf b sh bx) a = some s ∧ SpT b sh bx g s := by
  obtain ⟨cl, hc, hi⟩ := clear_eq V P
  have hm := fun t => mem_truths V P hi (t := t)
  have hlen := truths_len (qOf b sh bx) V.t3 V.r5 cl
  obtain ⟨z, e1, e3, e2⟩ := foldY_span (a := a) g (truths (qOf b sh bx) cl) [] (fun x hx => h x ((hm x).1 hx)) (by simp; omega)
  have mem : ∀ v, v ∈ z ↔ ∃ t, Tr b sh bx t ∧ g t = v := fun v => by
    rw [e2]
    constructor
    · rintro (h | ⟨x, hx, h⟩)
      · cases h
      · exact ⟨x, (hm x).1 hx, h⟩
    · rintro ⟨x, hx, h⟩
      exact .inr ⟨x, (hm x).2 hx, h⟩
  have hz : z ≠ [] := by
    obtain ⟨t, ht⟩ := C
    exact List.ne_nil_of_mem ((mem _).2 ⟨t, ht, rfl⟩)
  obtain ⟨lo, a1, a2, a3⟩ := min_eq hz (by omega)
  obtain ⟨hi', b1, b2, b3⟩ := max_eq hz (by omega)
  refine ⟨⟨lo, hi'⟩, ?_, (mem _).1 a2, (mem _).1 b2, fun t ht => ⟨a3 _ ((mem _).2 ⟨t, ht, rfl⟩), b3 _ ((mem _).2 ⟨t, ht, rfl⟩)⟩⟩
  unfold ticket_book_span ticket_book_truths
  rw [Option.bind_some, truths_eq _ (qOf_op V P) hc, e1]
  show (sl_Min_int_int z).bind (fun r102 => (sl_Max_int_int z).bind fun r104 => some (Span.mk r102 r104)) = _
  rw [a1, Option.bind_some, b1, Option.bind_some]
theorem trip_iff {T n : Int} : inB n 0 (T - 1) = true ↔ 0 ≤ n ∧ n < T := by rw [inB_iff]; omega
/-- how many paid from a trip to another one -/
def paidT (f t : Int) (x : Ticket_truth) : Int := paidN x.crossed_ x.used_ f.toNat (t + 1 - f).toNat
theorem paid_law {b : TicketBook} (V : VT b) {f t : Int} (h : 0 ≤ f ∧ f ≤ t ∧ t < b.Tally.Trips) : ∃ s e, ticket_Paid b f t = some (s, e) ∧ ((e = 0 ∧ Can b ∧ SpT b b.Shows b.Boxes (paidT f t) s) ∨ (e = 102 ∧ s = ⟨0, 0⟩ ∧ ¬ Can b)) := by
  have t3 := V.t3
  obtain ⟨e, he, hc⟩ := askedT V
  unfold ticket_Paid
  rw [isTrip_eq b V.ta.t1 V.ta.t8, Option.bind_some, trip_iff.2 (by omega), cond_true, isTrip_eq b V.ta.t1 V.ta.t8, Option.bind_some, trip_iff.2 (by omega), cond_true, decide_eq_true h.2.1, he, Option.bind_some]
  rcases hc with ⟨rfl, C⟩ | ⟨rfl, C⟩
  · obtain ⟨s, hs, S⟩ := span_law V V.pc C (a := fun y33 => ticket_Paid_1 y33 f t) (g := paidT f t) (fun x hx => by
      unfold ticket_Paid_1
      obtain ⟨xc, xu⟩ := x
      rw [paid_eq (hx.small V) h.1 h.2.1 (by omega)]; rfl)
    refine ⟨s, 0, ?_, .inl ⟨rfl, C, S⟩⟩
    unfold ticket_Paid_j1
    show (ticket_book_span (qOf b b.Shows b.Boxes) _).bind _ = _
    rw [hs]; rfl
  · exact ⟨⟨0, 0⟩, 102, rfl, .inr ⟨rfl, rfl, C⟩⟩
/-! tickets that were used -/
/-- a list of tickets: just those of which something holds -/
structure Lst (n : Nat) (p : Nat → Prop) (l : List Int) : Prop where
  clm : Clm l n
  mem : ∀ k : Nat, (k : Int) ∈ l ↔ k < n ∧ p k
theorem fits_law {b : TicketBook} (V : VT b) {x : TicketBox} (h : Box b.Tally.Trips x) : ∃ r e, ticket_Fits b x = some (r, e) ∧ ((e = 0 ∧ Can b ∧ (r = true ↔ ∃ t, Tr b b.Shows b.Boxes t ∧ fitsN b.Fare t.crossed_ t.used_ x = true)) ∨ (e = 102 ∧ r = false ∧ ¬ Can b)) := by
  obtain ⟨e, he, hc⟩ := askedT V
  unfold ticket_Fits
  rw [isBox_eq b V.ta.t1 V.ta.t8, Option.bind_some, box_iff.2 h, he, Option.bind_some]
  rcases hc with ⟨rfl, C⟩ | ⟨rfl, C⟩
  · obtain ⟨cl, hc, hi⟩ := clear_eq V V.pc
    have hm := fun t => mem_truths V V.pc hi (t := t)
    have F := foldY_find (ticket_Fits_r1 (qOf b b.Shows b.Boxes, 0) x) (fun t => fitsN b.Fare t.crossed_ t.used_ x) false true (truths (qOf b b.Shows b.Boxes) cl) (fun t ht => by
      unfold ticket_Fits_r1
      have := fits_eq (qOf b b.Shows b.Boxes) V.f1 V.f20 (((hm t).1 ht).small V) V.t3 h
      rw [show ticket_book_fits (qOf b b.Shows b.Boxes, (0 : Int)).1 t x = _ from this, Option.bind_some]
      show (bif fitsN b.Fare t.crossed_ t.used_ x then _ else _) = _
      cases fitsN b.Fare t.crossed_ t.used_ x <;> rfl)
    refine ⟨(truths (qOf b b.Shows b.Boxes) cl).any fun t => fitsN b.Fare t.crossed_ t.used_ x, 0, ?_, .inl ⟨rfl, C, ?_⟩⟩
    · simp only [bne_self_eq_false, cond_false]
      unfold ticket_book_truths
      rw [Option.bind_some, truths_eq _ (qOf_op V V.pc) hc, F]
      cases (truths (qOf b b.Shows b.Boxes) cl).any fun t => fitsN b.Fare t.crossed_ t.used_ x <;> rfl
    · rw [List.any_eq_true]
      exact exists_congr fun x => and_congr_left fun _ => hm x
  · exact ⟨false, 102, rfl, .inr ⟨rfl, rfl, C⟩⟩
end Go.Proofs.YtafhljljfglfeaaDoor

namespace Go.Proofs.YtafhljljfglfeaaDoor
open Go Go.Fx
set_option maxRecDepth 100000 in
theorem punched_t : law_punched = some true := by kernel_rfl
end Go.Proofs.YtafhljljfglfeaaDoor

set_option linter.unusedVariables false
set_option linter.unusedSimpArgs false
namespace Go.Proofs.YtafhljljfglfeaaDoor
open Go Go.Fx Go.Proofs
def law_TicketEnds_l1 (r42 : Span × Int) (a0 : TicketBook) (r31 : Int) (r37 : Int) (rec_z_1 : Int → Option Bool) (z_1 : Int) : Option Bool :=
 bif decide (z_1 < ([r42.1.Low, r42.1.High, wr (r42.1.Low - 1), wr (r42.1.High + 1)].length : Int)) then ((getI [r42.1.Low, r42.1.High, wr (r42.1.Low - 1), wr (r42.1.High + 1)] z_1).bind fun r68 =>
 (B_Inside (wr (a0.Fare * r68)) 0 400).bind fun r73 =>
 bif !r73 then (rec_z_1 (wr (z_1 + 1)))
 else ((ticket_Fits a0 (TicketBox.mk r31 r37 (wr (a0.Fare * r68)) 0)).bind fun r78 =>
 bif (r78.2 != 0) then (some false)
 else (bif (r78.1 != (decide (z_1 < 2))) then (some false)
 else (rec_z_1 (wr (z_1 + 1))))))
 else ((law_punched).bind fun r84 =>
 some r84)

def law_TicketEnds (a0 : TicketBook) (a1 : List Int) : Option Bool :=
 (law_sound a0).bind fun r22 =>
 bif !r22 then ((law_punched).bind fun r27 =>
 some r27)
 else ((B_Mod (aget a1 0) a0.Tally.Trips).bind fun r31 =>
 (B_Range r31 (wr (a0.Tally.Trips - 1))).bind fun r35 =>
 (B_Within r35 (aget a1 1)).bind fun r37 =>
 (ticket_Paid a0 r31 r37).bind fun r42 =>
 bif (r42.2 != 0) then (bif (r42.2 == 102) then ((law_punched).bind fun r53 =>
 some r53)
 else (some false))
 else (loopF (law_TicketEnds_l1 r42 a0 r31 r37) big 0))

set_option maxRecDepth 100000 in
theorem law_TicketEnds_ok {a0 : TicketBook} {a1 : List Int} {A1 : Option Addr} {c2 : Nat} {A4 : Option Addr} {c5 : Nat} {A7 : Option Addr} {c8 : Nat} {A10 : Option Addr} {c11 : Nat} {w : World} {r : Bool} (H : law_TicketEnds a0 a1 = some r) (h3 : (rd eTallyCount 7 A1 c2 a0.Tally.Counts).ok w) (h6 : (rd eTicketSeason 2 A4 c5 a0.Tickets).ok w) (h9 : (rd eTicketShow 3 A7 c8 a0.Shows).ok w) (h12 : (rd eTicketBox 4 A10 c11 a0.Boxes).ok w) (hg13 : (gW0).ok w) (hg14 : (gW1).ok w) (hg15 : (gW2).ok w) : Calls Tryd.prog 7 #[AG [I a0.Tally.Trips, I a0.Tally.Room, SL A1 a0.Tally.Counts.length c2, I a0.Fare, SL A4 a0.Tickets.length c5, SL A7 a0.Shows.length c8, SL A10 a0.Boxes.length c11], AG (sg a1 2)] w (RetV w (B r)) := by
 unfold law_TicketEnds at H
 refine fn_of (n := 92) Tryd.func7 rfl rfl (lE rfl) ?_
 have S : St w (fun _ => False) w [] [rd eTallyCount 7 A1 c2 a0.Tally.Counts, rd eTicketSeason 2 A4 c5 a0.Tickets, rd eTicketShow 3 A7 c8 a0.Shows, rd eTicketBox 4 A10 c11 a0.Boxes, gW0, gW1, gW2] := St.start w _ _ (fA ⟨h3, (fA ⟨h6, (fA ⟨h9, (fA ⟨h12, (fA ⟨hg13, (fA ⟨hg14, (fA ⟨hg15, nM⟩)⟩)⟩)⟩)⟩)⟩)⟩)
 refine c_seq <| reg <| p_boxA rfl S fun b16 w17 S18 => p_boxA rfl S18 fun b19 w20 S21 => p_aB rfl <| wp_nil <| c_seq <| c_seq <| reg <| p_ldA ty29 sz29 (S21.atX (i := 1) rfl) rfl rfl ?_
 obtain ⟨r22, h23, H⟩ := bindS H
 refine p_cv (law_sound_ok h23 (S21.atP (i := 0) rfl) (S21.atP (i := 1) rfl) (S21.atP (i := 2) rfl) (S21.atP (i := 3) rfl)) fu12 rfl S21 fun w24 S25 => p_not rfl <| wp_nil ?_
 refine c_cond rfl (fun c26 => ?_) (fun c26 => ?_)
 ·replace H := condT c26 H
  refine c_seq <| reg ?_
  obtain ⟨r27, h28, H⟩ := bindS H
  refine p_cv (law_punched_ok h28 (S25.atP (i := 4) rfl) (S25.atP (i := 5) rfl) (S25.atP (i := 6) rfl)) fu13 rfl S25 fun w29 S30 => p_aB rfl <| wp_nil ?_
  obtain rfl := Option.some.inj H
  refine c_ret ?_; show bodyPostM (Fr none) 0 Tryd.prog Tryd.f7 _ .ret _ _
  refine ret_of (res1 rfl (rvT (rfl : _ = B r27))) ?_
  exact ⟨_, rfl, rfl, S30.keep⟩
 ·replace H := condF c26 H
  refine c_skip <| c_seq <| reg <| p_ixc ar60 rfl rfl (by decide) (by decide) <| p_ld ty3 (S25.atX (i := 0) rfl) rfl rfl <| p_fld fl29_0 rfl <| p_fld fl24_0 rfl <| p_ld ty3 (S25.atX (i := 1) rfl) rfl rfl ?_
  obtain ⟨r31, h32, H⟩ := bindS H
  refine p_cv (B_Mod_ok h32) fu19 rfl S25 fun w33 S34 => p_aI rfl <| wp_nil <| c_seq ?_
  obtain ⟨r35, h36, H⟩ := bindS H
  obtain ⟨r37, h38, H⟩ := bindS H
  refine reg_q mixed 10 (by kernel_rfl) ?_
  refine dS (fun _ k_ => p_mI rfl dn) <| dS (fun _ k_ => p_fld fl29_0 rfl dn) <| dS (fun _ k_ => p_fld fl24_0 rfl dn) <| dS (fun _ k_ => p_ld ty3 (Asr.stays (S34.atX (i := 1) rfl) k_) rfl rfl dn) <| dS (fun _ k_ => p_sub rfl rfl dn) <| dS (fun _ k_ => p_cvD (B_Range_ok h36) fu21 rfl) <| dS (fun _ k_ => p_ixc ar60 rfl rfl (by decide) (by decide) dn) <| dS (fun _ k_ => p_ld ty3 (Asr.stays (S34.atX (i := 0) rfl) k_) rfl rfl dn) ?_
  refine dS (fun _ k_ => p_cvD (B_Within_ok h38) fu20 rfl) <| dS (fun _ k_ => p_aI rfl dn) ?_
  intro w39 k40; have S41 := S34.call k40
  refine wp_nil <| c_seq <| reg <| p_ldA ty29 sz29 (S41.atX (i := 1) rfl) rfl rfl <| p_mI rfl <| p_mI rfl ?_
  obtain ⟨r42, h43, H⟩ := bindS H
  refine p_cv (ticket_Paid_ok h43 (S41.atP (i := 0) rfl) (S41.atP (i := 1) rfl) (S41.atP (i := 2) rfl) (S41.atP (i := 3) rfl) (S41.atP (i := 4) rfl) (S41.atP (i := 6) rfl)) fu22 rfl S41 fun w44 S45 => p_mT rfl <| p_ext rfl rfl <| p_ext rfl rfl <| p_allA in49 S45 fun b46 w47 S48 => ?_
  refine p_stP (pre := []) (old := [I 0, I 0]) (post := []) (vs := [I r42.1.Low, I r42.1.High]) sz49 S48 (i := 0) rfl rfl rfl rfl (rfl : _ = AG [I r42.1.Low, I r42.1.High]) rfl rfl rfl rfl fun w49 S50 => p_aI rfl <| wp_nil <| c_seq <| c_seq <| reg <| p_mI rfl <| p_cmp rfl rfl rfl <| wp_nil ?_
  refine c_cond rfl (fun c51 => ?_) (fun c51 => ?_)
  ·replace H := condT c51 H
   refine c_seq <| reg <| p_mI rfl <| p_cmp rfl rfl rfl <| p_mB rfl ?_
   rcases Bool.eq_false_or_eq_true ((r42.2 == 102)) with c52 | c52
   ·replace H := condT c52 H
    refine eB c52 ?_
    obtain ⟨r53, h54, H⟩ := bindS H
    refine gT rfl rfl (p_cv (law_punched_ok h54 (S50.atP (i := 4) rfl) (S50.atP (i := 5) rfl) (S50.atP (i := 6) rfl)) fu13 rfl S50 fun w55 S56 => ?_)
    refine p_pkT rfl (rfl : _ = B r53) <| p_aB rfl <| wp_nil ?_
    obtain rfl := Option.some.inj H
    refine c_ret ?_; show bodyPostM (Fr none) 0 Tryd.prog Tryd.f7 _ .ret _ _
    refine ret_of (res1 rfl (rvT (rfl : _ = B r53))) ?_
    exact ⟨_, rfl, rfl, S56.keep⟩
   ·replace H := condF c52 H
    refine eB c52 <| gF rfl rfl <| p_pkF rfl (rfl : _ = B false) <| p_aB rfl <| wp_nil ?_
    obtain rfl := Option.some.inj H
    refine c_ret ?_; show bodyPostM (Fr none) 0 Tryd.prog Tryd.f7 _ .ret _ _
    refine ret_of (res1 rfl (rvT (rfl : _ = B false))) ?_
    exact ⟨_, rfl, rfl, S50.keep⟩
  ·replace H := condF c51 H
   refine c_skip <| c_seq <| reg <| p_fld fl49_0 rfl <| p_ld ty3 (S50.atX (i := 0) rfl) rfl rfl <| p_fld fl49_1 rfl <| p_ld ty3 (S50.atX (i := 0) rfl) rfl rfl <| p_fld fl49_0 rfl <| p_ld ty3 (S50.atX (i := 0) rfl) rfl rfl <| p_sub rfl rfl <| p_fld fl49_1 rfl <| p_ld ty3 (S50.atX (i := 0) rfl) rfl rfl <| p_add rfl rfl ?_
   refine p_bsl (enc := intE) (l := [r42.1.Low, r42.1.High, wr (r42.1.Low - 1), wr (r42.1.High + 1)]) I (fun _ => rfl) sc30 in3 intE_len rfl (by decide) (by decide) zr3_4 S50 rfl fun A57 c58 w59 S60 => p_aS rfl <| wp_nil <| c_seq <| c_seq <| reg <| p_aI rfl <| wp_nil <| c_block ?_
   have S62 := S60.pk [0, 3] (by decide) [0, 1, 2, 3, 4, 5, 6] rfl rfl
   refine c_lop (α := Int) (β := Unit) (law_TicketEnds_l1 r42 a0 r31 r37) (fun z_1 y_1 => [(2, P b16 0), (5, I r31), (6, I r37), (9, SL A57 [r42.1.Low, r42.1.High, wr (r42.1.Low - 1), wr (r42.1.High + 1)].length c58), (10, I z_1)]) (fun z_1 y_1 w_ => St w (fun _ => False) w_ [gr intE 1 3 A57 c58 [r42.1.Low, r42.1.High, wr (r42.1.Low - 1), wr (r42.1.High + 1)], bl b16 [I a0.Tally.Trips, I a0.Tally.Room, SL A1 a0.Tally.Counts.length c2, I a0.Fare, SL A4 a0.Tickets.length c5, SL A7 a0.Shows.length c8, SL A10 a0.Boxes.length c11] 29] [rd eTallyCount 7 A1 c2 a0.Tally.Counts, rd eTicketSeason 2 A4 c5 a0.Tickets, rd eTicketShow 3 A7 c8 a0.Shows, rd eTicketBox 4 A10 c11 a0.Boxes, gW0, gW1, gW2]) 0 () H ⟨rfl, rfl, rfl, rfl, rfl, trivial⟩ S62 ?_
   intro m63 z_1 y_1 e64 w65 H S66
   unfold law_TicketEnds_l1 at H
   refine c_seq <| c_seq <| reg <| p_mI rfl <| p_mS rfl <| p_len rfl sc30 <| p_cmp rfl rfl rfl <| wp_nil ?_
   refine c_cond rfl (fun c67 => ?_) (fun c67 => ?_)
   ·replace H := condT c67 H
    refine c_skip <| c_seq <| c_block <| c_seq ?_
    obtain ⟨r68, h69, H⟩ := bindS H
    refine reg_q mixed 8 (by kernel_rfl) ?_
    refine dS (fun _ k_ => p_fld fl29_1 rfl dn) <| dS (fun _ k_ => p_ld ty3 (Asr.stays (S66.atX (i := 1) rfl) k_) rfl rfl dn) <| dS (fun _ k_ => p_mS rfl dn) <| dS (fun _ k_ => p_mI rfl dn) <| dS (fun _ k_ => p_ixE sc30 h69 (gr_sl intE_len (Asr.stays (S66.atX (i := 0) rfl) k_)) rfl rfl rfl dn) <| dS (fun _ k_ => p_ldE ty3 h69 (gr_sl intE_len (Asr.stays (S66.atX (i := 0) rfl) k_)) rfl rfl dn) <| dS (fun _ k_ => p_mul rfl rfl dn) ?_
    refine dS (fun _ k_ => p_aI rfl dn) ?_
    intro w70 k71; have S72 := S66.call k71
    refine wp_nil <| c_seq <| c_seq <| reg <| p_mI rfl ?_
    obtain ⟨r73, h74, H⟩ := bindS H
    refine p_cv (B_Inside_ok h74) fu32 rfl S72 fun w75 S76 => p_not rfl <| wp_nil ?_
    refine c_cond rfl (fun c77 => ?_) (fun c77 => ?_)
    ·replace H := condT c77 H
     refine c_exit <| reg <| p_mI rfl <| p_add rfl rfl <| p_aI rfl <| wp_nil ?_
     exact ⟨wr (z_1 + 1), (), _, rfl, ⟨rfl, rfl, rfl, rfl, rfl, trivial⟩, H, S76⟩
    ·replace H := condF c77 H
     refine c_skip <| c_seq <| reg <| p_ldA ty29 sz29 (S76.atX (i := 1) rfl) rfl rfl <| p_mI rfl <| p_mI rfl <| p_mI rfl <| p_bld (cs := [I r31, I r37, I (wr (a0.Fare * r68)), I 0]) st72 (rfl : _ = [(0, I r31), (1, I r37), (2, I (wr (a0.Fare * r68)))]) (by kernel_rfl) ?_
     obtain ⟨r78, h79, H⟩ := bindS H
     refine p_cv (ticket_Fits_ok h79 (S76.atP (i := 0) rfl) (S76.atP (i := 1) rfl) (S76.atP (i := 2) rfl) (S76.atP (i := 3) rfl) (S76.atP (i := 4) rfl) (S76.atP (i := 6) rfl)) fu35 rfl S76 fun w80 S81 => p_mT rfl <| p_ext rfl rfl <| p_ext rfl rfl <| p_aB rfl <| p_aI rfl <| wp_nil <| c_seq <| reg <| p_mI rfl <| p_cmp rfl rfl rfl <| p_mB rfl ?_
     rcases Bool.eq_false_or_eq_true ((r78.2 != 0)) with c82 | c82
     ·replace H := condT c82 H
      refine eB c82 <| gF rfl rfl <| gF rfl rfl <| gF rfl rfl <| gF rfl rfl <| p_pkT rfl (rfl : _ = B true) <| wp_nil <| c_true rfl <| c_seq <| reg <| p_aB rfl <| wp_nil ?_
      obtain rfl := Option.some.inj H
      refine c_ret ?_; show bodyPostM (Fr none) 0 Tryd.prog Tryd.f7 _ .ret _ _
      refine ret_of (res1 rfl (rvT (rfl : _ = B false))) ?_
      exact ⟨_, rfl, rfl, S81.keep⟩
     ·replace H := condF c82 H
      refine eB c82 ?_
      refine gT rfl rfl (p_mB rfl ?_)
      refine gT rfl rfl (p_mI rfl ?_)
      refine gT rfl rfl (p_cmp rfl rfl rfl ?_)
      refine gT rfl rfl (o_neB rfl rfl ub4 ?_)
      refine p_pkF rfl (rfl : _ = B (r78.1 != (decide (z_1 < 2)))) <| wp_nil ?_
      refine c_cond rfl (fun c83 => ?_) (fun c83 => ?_)
      ·replace H := condT c83 H
       refine c_seq <| reg <| p_aB rfl <| wp_nil ?_
       obtain rfl := Option.some.inj H
       refine c_ret ?_; show bodyPostM (Fr none) 0 Tryd.prog Tryd.f7 _ .ret _ _
       refine ret_of (res1 rfl (rvT (rfl : _ = B false))) ?_
       exact ⟨_, rfl, rfl, S81.keep⟩
      ·replace H := condF c83 H
       refine c_skip <| reg <| p_mI rfl <| p_add rfl rfl <| p_aI rfl <| wp_nil ?_
       exact ⟨wr (z_1 + 1), (), _, rfl, ⟨rfl, rfl, rfl, rfl, rfl, trivial⟩, H, S81⟩
   ·replace H := condF c67 H
    refine c_exit <| c_seq <| reg ?_
    obtain ⟨r84, h85, H⟩ := bindS H
    refine p_cv (law_punched_ok h85 (S66.atP (i := 4) rfl) (S66.atP (i := 5) rfl) (S66.atP (i := 6) rfl)) fu13 rfl S66 fun w86 S87 => p_aB rfl <| wp_nil ?_
    obtain rfl := Option.some.inj H
    refine c_ret ?_; show bodyPostM (Fr none) 0 Tryd.prog Tryd.f7 _ .ret _ _
    refine ret_of (res1 rfl (rvT (rfl : _ = B r84))) ?_
    exact ⟨_, rfl, rfl, S87.keep⟩

end Go.Proofs.YtafhljljfglfeaaDoor

set_option linter.unusedVariables false
set_option linter.unusedSimpArgs false
namespace Go.Proofs.YtafhljljfglfeaaDoor
open Go Go.Fx
theorem trips_in {b : TicketBook} (V : VT b) (x y : Int) : ∃ f t, B_Mod x b.Tally.Trips = some f ∧ B_Range f (wr (b.Tally.Trips - 1)) = some ⟨f, b.Tally.Trips - 1⟩ ∧ B_Within ⟨f, b.Tally.Trips - 1⟩ y = some t ∧ 0 ≤ f ∧ f ≤ t ∧ t < b.Tally.Trips := by
  have t1 := V.ta.t1; have t3 := V.t3
  obtain ⟨f, hf, f0, f1⟩ := mod_ok x b.Tally.Trips (by omega) (by omega)
  obtain ⟨r, hr, r0, r1⟩ := mod_ok y (b.Tally.Trips - 1 - f + 1) (by omega) (by omega)
  refine ⟨f, f + r, hf, ?_, ?_, f0, by omega, by omega⟩
  · unfold B_Range; rw [wrI (by omega) (by omega)]
  · unfold B_Within
    simp only
    rw [wrI (x := b.Tally.Trips - 1 - f) (by omega) (by omega), wrI (x := b.Tally.Trips - 1 - f + 1) (by omega) (by omega), hr, Option.bind_some, wrI (by omega) (by omega)]
theorem paidT_bd {b : TicketBook} (V : VT b) {sh : List TicketShow} {bx : List TicketBox} {x : Ticket_truth} (h : Tr b sh bx x) {f t : Int} (hf : 0 ≤ f ∧ f ≤ t ∧ t < b.Tally.Trips) : 0 ≤ paidT f t x ∧ paidT f t x ≤ 15 := by
  have t3 := V.t3; have r5 := V.r5
  have pos : ∀ n : Nat, ((f.toNat + n : Nat) : Int) ≤ b.Tally.Trips → 0 ≤ paidN x.crossed_ x.used_ f.toNat n ∧ paidN x.crossed_ x.used_ f.toNat n ≤ 5 * (n : Int) := by
    intro n
    induction n with
    | zero => intro _; simp [paidN]
    | succ n ih =>
      intro hn
      rw [paidN_succ]
      have h1 := h.pc (f.toNat + n) (by omega)
      have h2 := h.cr (f.toNat + n) (by omega)
      have h3 := pop_bd (x.used_.getD (f.toNat + n) 0).toNat
      have := ih (by omega)
      unfold pv
      omega
  have := pos (t + 1 - f).toNat (by omega)
  unfold paidT
  omega
/-- a box with so many pence from so many who paid, and none lost -/
theorem fitsN_even {fare f t n p : Int} (h1 : 1 ≤ fare) {x : Ticket_truth} (hp : p = fare * n) : fitsN fare x.crossed_ x.used_ ⟨f, t, p, 0⟩ = true ↔ paidT f t x = n := by
  unfold fitsN
  rw [inB_iff]
  show fare * n |> fun _ => (p ≤ paidT f t x * fare ∧ paidT f t x * fare ≤ p + 0) ↔ _
  rw [hp, Int.mul_comm fare n]
  constructor
  · rintro ⟨a, b⟩
    have h : n * fare = paidT f t x * fare := by omega
    exact ((Int.mul_eq_mul_right_iff (by omega)).1 h).symm
  · rintro rfl
    omega
theorem law_ticketEnds (b : TicketBook) (A : ArgT b) (n : List Int) : law_TicketEnds b n = some true := by
  unfold law_TicketEnds
  rw [soundT_eq b A, Option.bind_some]
  cases hv : valT b with
  | false => rw [Bool.not_false, cond_true, punched_t]; rfl
  | true =>
    have V := valT_iff.1 hv
    rw [Bool.not_true, cond_false]
    obtain ⟨f, t, e1, e2, e3, h⟩ := trips_in V (aget n 0) (aget n 1)
    obtain ⟨s, e, he, hs⟩ := paid_law V h
    rw [e1, Option.bind_some, e2, Option.bind_some, e3, Option.bind_some, he, Option.bind_some]
    rcases hs with ⟨rfl, C, S⟩ | ⟨rfl, rfl, C⟩
    · simp only [bne_self_eq_false, cond_false]
      have f1 := V.f1; have f20 := V.f20
      have lo : 0 ≤ s.Low ∧ s.Low ≤ 15 := by
        obtain ⟨x, hx, hg⟩ := S.loE
        have := paidT_bd V hx h; omega
      have hi : 0 ≤ s.High ∧ s.High ≤ 15 := by
        obtain ⟨x, hx, hg⟩ := S.hiE
        have := paidT_bd V hx h; omega
      have w1 : wr (s.Low - 1) = s.Low - 1 := wrI (by omega) (by omega)
      have w2 : wr (s.High + 1) = s.High + 1 := wrI (by omega) (by omega)
      have key : ∀ (m : Int) (k : Bool) (rec : Int → Option Bool) (z : Int), -1 ≤ m → m ≤ 16 → (k = true ↔ ∃ x, Tr b b.Shows b.Boxes x ∧ paidT f t x = m) → ((B_Inside (wr (b.Fare * m)) 0 400).bind fun r73 => bif !r73 then rec z else ((ticket_Fits b (TicketBox.mk f t (wr (b.Fare * m)) 0)).bind fun r78 => bif (r78.2 != 0) then some false else (bif (r78.1 != k) then some false else rec z))) = rec z := by
        intro m k rec z m0 m1 hk
        rw [inside_eq, Option.bind_some]
        have hm2 : b.Fare * m = m * b.Fare := Int.mul_comm _ _
        have hlt : m * b.Fare ≤ 16 * b.Fare := Int.mul_le_mul_of_nonneg_right m1 (by omega)
        have hgt : -1 * b.Fare ≤ m * b.Fare := Int.mul_le_mul_of_nonneg_right m0 (by omega)
        rw [wrI (x := b.Fare * m) (by omega) (by omega)]
        cases hin : inB (b.Fare * m) 0 400 with
        | false => rfl
        | true =>
          have hin := inB_iff.1 hin
          rw [Bool.not_true, cond_false]
          have B : Box b.Tally.Trips (TicketBox.mk f t (b.Fare * m) 0) := ⟨h.1, h.2.1, h.2.2, hin.1, hin.2, Int.le_refl _, by show (0 : Int) ≤ 40; decide⟩
          obtain ⟨r, e, hr, hc⟩ := fits_law V B
          rw [hr, Option.bind_some]
          rcases hc with ⟨rfl, _, hi⟩ | ⟨_, _, hc⟩
          · simp only [bne_self_eq_false, cond_false]
            have : r = k := by
              rw [Bool.eq_iff_iff, hi, hk]
              exact exists_congr fun x => and_congr_right fun _ => fitsN_even f1 rfl
            rw [this, bne_self_eq_false, cond_false]
          · exact absurd C hc
      have k0 := fun rec z => key s.Low true rec z (by omega) (by omega) (by simp only [true_iff]; exact S.loE)
      have k1 := fun rec z => key s.High true rec z (by omega) (by omega) (by simp only [true_iff]; exact S.hiE)
      have k2 := fun rec z => key (s.Low - 1) false rec z (by omega) (by omega) (by
        simp only [Bool.false_eq_true, false_iff]; rintro ⟨x, hx, hg⟩; have := S.all x hx; omega)
      have k3 := fun rec z => key (s.High + 1) false rec z (by omega) (by omega) (by
        simp only [Bool.false_eq_true, false_iff]; rintro ⟨x, hx, hg⟩; have := S.all x hx; omega)
      refine loop_fold0 (fun k => (k : Int)) 4 (fun rec k hk => ?_) (fun rec => ?_) (by rw [big_eq]; omega) rfl
      · unfold law_TicketEnds_l1
        simp only [w1, w2]
        rw [wrI (x := (k : Int) + 1) (by omega) (by omega), show (k : Int) + 1 = ((k + 1 : Nat) : Int) by omega]
        match k, hk with
        | 0, _ => exact k0 rec _
        | 1, _ => exact k1 rec _
        | 2, _ => exact k2 rec _
        | 3, _ => exact k3 rec _
      · unfold law_TicketEnds_l1
        simp only [w1, w2]
        rw [decide_eq_false (by simp), cond_false, punched_t]; rfl
    · simp only
      rw [show ((102 : Int) != 0) = true from rfl, cond_true, show ((102 : Int) == 102) = true from rfl, cond_true, punched_t]; rfl
end Go.Proofs.YtafhljljfglfeaaDoor

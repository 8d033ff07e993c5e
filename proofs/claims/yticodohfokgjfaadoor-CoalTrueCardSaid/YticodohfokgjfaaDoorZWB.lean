/- What the functions of the program compute, and that they do, printed by a program of mine. -/
import Derived.Test.YticodohfokgjfaaDoorZWA
import Derived.KernelRfl
set_option linter.unusedVariables false
set_option linter.unusedSimpArgs false
namespace Go.Proofs.YticodohfokgjfaaDoor
open Go Go.Fx Go.Proofs
def coal_book_isTrue_r1 (x_1 : Coal_truth) (z_1 : Bool) : Option (Bool × Nat × Bool) :=
  some (false, 1, true)

def coal_book_isTrue (a0 : Coal_book) : Option Bool :=
  (coal_book_truths a0).bind fun r15 =>
  (coal_book_truths_1 (0, false) a0 (yvOf (coal_book_isTrue_r1))).bind fun r24 =>
  bif (r24.1 == 0) then (some false)
  else (some r24.2)

set_option maxRecDepth 100000 in
theorem coal_book_isTrue_ok {a0 : Coal_book} {A1 : Option Addr} {c2 : Nat} {A4 : Option Addr} {c5 : Nat} {m7 : Option Nat} {w : World} {r : Bool} (H : coal_book_isTrue a0 = some r) (h3 : (rd eCoalDay 3 A1 c2 a0.CoalBook.Days).ok w) (h6 : (rd eCoalDip 3 A4 c5 a0.CoalBook.Dips).ok w) (h8 : (mpo ekG iE m7 a0.costs_).ok w) : Calls Tryd.prog 72 #[AG ([I a0.CoalBook.Heap.Low, I a0.CoalBook.Heap.High] ++ (sgE eSpan a0.CoalBook.Eats 2 ++ (sg a0.CoalBook.Extra 3 ++ [SL A1 a0.CoalBook.Days.length c2, I a0.CoalBook.Collier.Low, I a0.CoalBook.Collier.High, I a0.CoalBook.Brings, SL A4 a0.CoalBook.Dips.length c5, Value.map m7])))] w (RetV w (B r)) := by
  unfold coal_book_isTrue at H
  refine fn_of (n := 6) Tryd.func72 rfl rfl (Nat.le_of_ble_eq_true rfl) ?_
  have S : St w (fun _ => False) w [] [rd eCoalDay 3 A1 c2 a0.CoalBook.Days, rd eCoalDip 3 A4 c5 a0.CoalBook.Dips, mpo ekG iE m7 a0.costs_] := St.start w _ _ (List.forall_mem_cons.2 ⟨h3, (List.forall_mem_cons.2 ⟨h6, (List.forall_mem_cons.2 ⟨h8, (fun _ h_ => (List.not_mem_nil h_).elim)⟩)⟩)⟩)
  refine c_seq ?_
  refine reg ?_
  refine p_boxA rfl S fun b9 w10 S11 => ?_
  refine p_all in4 rfl S11 fun b12 w13 S14 => ?_
  refine wp_nil ?_
  refine c_seq ?_
  refine c_seq ?_
  refine reg ?_
  refine p_ldA ty92 sz92 (S14.atX (i := 1) rfl) rfl rfl ?_
  obtain ⟨r15, h16, H⟩ := bindS H
  refine p_cal (coal_book_truths_ok h16 (S14.atP (i := 0) rfl) (S14.atP (i := 1) rfl) (S14.atP (i := 2) rfl)) fu78 rfl ?_
  rintro _ w17 ⟨b19, rfl, k18, ⟨o20, n21⟩, _⟩
  have S22 := S14.addNew k18 o20 n21
  refine wp_nil ?_
  refine c_block ?_
  have S23 := S22.fix (i := 0) rfl
  obtain ⟨r24, h25, H⟩ := bindS H

  have S26 := S23
  refine c_rangeG (α := Bool) (β := Unit) (ε := Coal_truth) (K := [bl b19 ([I a0.CoalBook.Heap.Low, I a0.CoalBook.Heap.High] ++ (sgE eSpan a0.CoalBook.Eats 2 ++ (sg a0.CoalBook.Extra 3 ++ [SL A1 a0.CoalBook.Days.length c2, I a0.CoalBook.Collier.Low, I a0.CoalBook.Collier.High, I a0.CoalBook.Brings, SL A4 a0.CoalBook.Dips.length c5, Value.map m7]))) 92, rd eCoalDay 3 A1 c2 a0.CoalBook.Days, rd eCoalDip 3 A4 c5 a0.CoalBook.Dips, mpo ekG iE m7 a0.costs_]) (MK := Go.Fx.mark) (XR := fun D27 => [] ++ [bx D27 (.deferred (some []))]) (it := fun {σ} yv s_ => coal_book_truths_1 s_ a0 yv) (enc := yE1) (coal_book_isTrue_r1) [.ret] (fun z_1 y_1 => [bl b12 [B z_1] 4, bl b9 ([I a0.CoalBook.Heap.Low, I a0.CoalBook.Heap.High] ++ (sgE eSpan a0.CoalBook.Eats 2 ++ (sg a0.CoalBook.Extra 3 ++ [SL A1 a0.CoalBook.Days.length c2, I a0.CoalBook.Collier.Low, I a0.CoalBook.Collier.High, I a0.CoalBook.Brings, SL A4 a0.CoalBook.Dips.length c5, Value.map m7]))) 92]) false () h25 (ent_none (X0 := (fun z_1 y_1 => [bl b12 [B z_1] 4, bl b9 ([I a0.CoalBook.Heap.Low, I a0.CoalBook.Heap.High] ++ (sgE eSpan a0.CoalBook.Eats 2 ++ (sg a0.CoalBook.Extra 3 ++ [SL A1 a0.CoalBook.Days.length c2, I a0.CoalBook.Collier.Low, I a0.CoalBook.Collier.High, I a0.CoalBook.Brings, SL A4 a0.CoalBook.Dips.length c5, Value.map m7]))) 92]) false () ++ []) S26) rfl fu95 (fun w_ σ yv_ s_ s'_ l_ G_ A_ hH_ hG_ hk_ hd_ hy_ => (coal_book_truths_1_ok hH_ hG_ (hk_ _ (List.mem_of_getElem? (i := 0) rfl)) (hk_ _ (List.mem_of_getElem? (i := 1) rfl)) (hk_ _ (List.mem_of_getElem? (i := 2) rfl)) (hk_ _ (List.mem_of_getElem? (i := 3) rfl)) hd_ hy_ (Link.refl _ _)).mono fun en_ w3_ ⟨u_, he_, A'_, hu_, hk2_, ho_, hf_⟩ => ⟨u_, he_, hk2_, A'_, ho_, hf_⟩) (List.forall_mem_cons.2 ⟨List.mem_of_getElem? (i := 0) rfl, (List.forall_mem_cons.2 ⟨List.mem_of_getElem? (i := 1) rfl, (List.forall_mem_cons.2 ⟨List.mem_of_getElem? (i := 2) rfl, (List.forall_mem_cons.2 ⟨List.mem_of_getElem? (i := 3) rfl, (fun _ h_ => (List.not_mem_nil h_).elim)⟩)⟩)⟩)⟩) (fun _ => rfl) (List.forall_mem_cons.2 ⟨.inl rfl, (fun _ h_ => (List.not_mem_nil h_).elim)⟩) ?_ ?_ ?_
  · intro l28 oR29 oB30 Cr31 x_1 z_1 y_1 w32 b33 c34 z35 PP36 H S37 hlk38 ho39 hB40 hN41 hX42
    unfold coal_book_isTrue_r1 at H
    replace S37 : St w32 Cr31 w32 [bx l28 oR29, bl b12 [B z_1] 4, bl b9 ([I a0.CoalBook.Heap.Low, I a0.CoalBook.Heap.High] ++ (sgE eSpan a0.CoalBook.Eats 2 ++ (sg a0.CoalBook.Extra 3 ++ [SL A1 a0.CoalBook.Days.length c2, I a0.CoalBook.Collier.Low, I a0.CoalBook.Collier.High, I a0.CoalBook.Brings, SL A4 a0.CoalBook.Dips.length c5, Value.map m7]))) 92] [bl b19 ([I a0.CoalBook.Heap.Low, I a0.CoalBook.Heap.High] ++ (sgE eSpan a0.CoalBook.Eats 2 ++ (sg a0.CoalBook.Extra 3 ++ [SL A1 a0.CoalBook.Days.length c2, I a0.CoalBook.Collier.Low, I a0.CoalBook.Collier.High, I a0.CoalBook.Brings, SL A4 a0.CoalBook.Dips.length c5, Value.map m7]))) 92, rd eCoalDay 3 A1 c2 a0.CoalBook.Days, rd eCoalDip 3 A4 c5 a0.CoalBook.Dips, mpo ekG iE m7 a0.costs_] := S37
    refine c_skip ?_
    refine hB40 _ _ 0 _ S37 rfl fun w43 S44 => ?_
    replace S44 : St w32 Cr31 w43 [bx l28 oB30, bl b12 [B z_1] 4, bl b9 ([I a0.CoalBook.Heap.Low, I a0.CoalBook.Heap.High] ++ (sgE eSpan a0.CoalBook.Eats 2 ++ (sg a0.CoalBook.Extra 3 ++ [SL A1 a0.CoalBook.Days.length c2, I a0.CoalBook.Collier.Low, I a0.CoalBook.Collier.High, I a0.CoalBook.Brings, SL A4 a0.CoalBook.Dips.length c5, Value.map m7]))) 92] [bl b19 ([I a0.CoalBook.Heap.Low, I a0.CoalBook.Heap.High] ++ (sgE eSpan a0.CoalBook.Eats 2 ++ (sg a0.CoalBook.Extra 3 ++ [SL A1 a0.CoalBook.Days.length c2, I a0.CoalBook.Collier.Low, I a0.CoalBook.Collier.High, I a0.CoalBook.Brings, SL A4 a0.CoalBook.Dips.length c5, Value.map m7]))) 92, rd eCoalDay 3 A1 c2 a0.CoalBook.Days, rd eCoalDip 3 A4 c5 a0.CoalBook.Dips, mpo ekG iE m7 a0.costs_] := S44
    refine c_block ?_
    refine c_seq ?_
    refine reg ?_
    refine p_st sz4 S44 (i := 1) rfl rfl (rfl : _ = B true) rfl rfl fun w45 S46 => ?_
    refine wp_nil ?_
    refine c_ret ?_
    exact hX42 0 .ret _ _ true () rfl S46 (Option.some.inj H)
  · intro hc53
    intro l47 D48 o49 y50 w51 S52
    have S54 : St w (fun _ => False) w51 [bl b12 [B r24.2] 4, bl b9 ([I a0.CoalBook.Heap.Low, I a0.CoalBook.Heap.High] ++ (sgE eSpan a0.CoalBook.Eats 2 ++ (sg a0.CoalBook.Extra 3 ++ [SL A1 a0.CoalBook.Days.length c2, I a0.CoalBook.Collier.Low, I a0.CoalBook.Collier.High, I a0.CoalBook.Brings, SL A4 a0.CoalBook.Dips.length c5, Value.map m7]))) 92, bx D48 (.deferred (some []))] [bl b19 ([I a0.CoalBook.Heap.Low, I a0.CoalBook.Heap.High] ++ (sgE eSpan a0.CoalBook.Eats 2 ++ (sg a0.CoalBook.Extra 3 ++ [SL A1 a0.CoalBook.Days.length c2, I a0.CoalBook.Collier.Low, I a0.CoalBook.Collier.High, I a0.CoalBook.Brings, SL A4 a0.CoalBook.Dips.length c5, Value.map m7]))) 92, rd eCoalDay 3 A1 c2 a0.CoalBook.Days, rd eCoalDip 3 A4 c5 a0.CoalBook.Dips, mpo ekG iE m7 a0.costs_] := St.tail1 S52
    replace H := condT (by rw [hc53]; rfl) H
    refine c_seq ?_
    refine reg ?_
    refine p_st sz4 S54 (i := 0) rfl rfl (rfl : _ = B false) rfl rfl fun w55 S56 => ?_
    refine wp_nil ?_
    refine c_ret ?_
    refine leave_mark S56 (i := 2) rfl fun w57 S58 => ?_
    obtain rfl := Option.some.inj H
    show bodyPostM (Fr none) 0 Tryd.prog Tryd.f72 _ .ret _ _
    refine ret_of (res1 rfl (rvC rfl ty4 (S58.atX (i := 0) rfl))) ?_
    exact ⟨_, rfl, rfl, S58.keep⟩
  · intro k59 c60 hk61 hc62
    rcases k59 with _ | k59
    · obtain rfl := Option.some.inj hk61
      intro l63 D64 o65 y66 w67 S68
      have S70 : St w (fun _ => False) w67 [bl b12 [B r24.2] 4, bl b9 ([I a0.CoalBook.Heap.Low, I a0.CoalBook.Heap.High] ++ (sgE eSpan a0.CoalBook.Eats 2 ++ (sg a0.CoalBook.Extra 3 ++ [SL A1 a0.CoalBook.Days.length c2, I a0.CoalBook.Collier.Low, I a0.CoalBook.Collier.High, I a0.CoalBook.Brings, SL A4 a0.CoalBook.Dips.length c5, Value.map m7]))) 92, bx D64 (.deferred (some []))] [bl b19 ([I a0.CoalBook.Heap.Low, I a0.CoalBook.Heap.High] ++ (sgE eSpan a0.CoalBook.Eats 2 ++ (sg a0.CoalBook.Extra 3 ++ [SL A1 a0.CoalBook.Days.length c2, I a0.CoalBook.Collier.Low, I a0.CoalBook.Collier.High, I a0.CoalBook.Brings, SL A4 a0.CoalBook.Dips.length c5, Value.map m7]))) 92, rd eCoalDay 3 A1 c2 a0.CoalBook.Days, rd eCoalDip 3 A4 c5 a0.CoalBook.Dips, mpo ekG iE m7 a0.costs_] := St.tail1 S68
      replace H := condF (by rw [hc62]; rfl) H
      refine c_ret ?_
      refine leave_mark S70 (i := 2) rfl fun w71 S72 => ?_
      obtain rfl := Option.some.inj H
      show bodyPostM (Fr none) 0 Tryd.prog Tryd.f72 _ .ret _ _
      refine ret_of (res1 rfl (rvC rfl ty4 (S72.atX (i := 0) rfl))) ?_
      exact ⟨_, rfl, rfl, S72.keep⟩
    · cases hk61

def coal_Right (a0 : CoalBook) : Option (Bool × Int) :=
  (coal_Check a0).bind fun r11 =>
  bif (r11 != 0) then (some (false, r11))
  else ((coal_opened a0 ([] : List _)).bind fun r16 =>
  (coal_book_isTrue (Coal_book.mk (CoalBook.mk r16.CoalBook.Heap r16.CoalBook.Eats r16.CoalBook.Extra a0.Days r16.CoalBook.Collier r16.CoalBook.Brings r16.CoalBook.Dips) r16.costs_)).bind fun r28 =>
  some (r28, 0))

set_option maxRecDepth 100000 in
theorem coal_Right_ok {a0 : CoalBook} {A1 : Option Addr} {c2 : Nat} {A4 : Option Addr} {c5 : Nat} {w : World} {r : Bool × Int} (H : coal_Right a0 = some r) (h3 : (rd eCoalDay 3 A1 c2 a0.Days).ok w) (h6 : (rd eCoalDip 3 A4 c5 a0.Dips).ok w) (hg7 : (bl 1 [I (-1), I (-1)] 123).ok w) : Calls Tryd.prog 26 #[AG ([I a0.Heap.Low, I a0.Heap.High] ++ (sgE eSpan a0.Eats 2 ++ (sg a0.Extra 3 ++ [SL A1 a0.Days.length c2, I a0.Collier.Low, I a0.Collier.High, I a0.Brings, SL A4 a0.Dips.length c5])))] w (RetV w (TU [B r.1, I r.2])) := by
  unfold coal_Right at H
  refine fn_of (n := 13) Tryd.func26 rfl rfl (Nat.le_of_ble_eq_true rfl) ?_
  have S : St w (fun _ => False) w [] [rd eCoalDay 3 A1 c2 a0.Days, rd eCoalDip 3 A4 c5 a0.Dips, bl 1 [I (-1), I (-1)] 123] := St.start w _ _ (List.forall_mem_cons.2 ⟨h3, (List.forall_mem_cons.2 ⟨h6, (List.forall_mem_cons.2 ⟨hg7, (fun _ h_ => (List.not_mem_nil h_).elim)⟩)⟩)⟩)
  refine c_seq ?_
  refine reg ?_
  refine p_boxA rfl S fun b8 w9 S10 => ?_
  refine p_aB rfl ?_
  refine p_aI rfl ?_
  refine wp_nil ?_
  refine c_seq ?_
  refine c_seq ?_
  refine reg ?_
  refine p_ldA ty29 sz29 (S10.atX (i := 0) rfl) rfl rfl ?_
  obtain ⟨r11, h12, H⟩ := bindS H
  refine p_cv (coal_Check_ok h12 (S10.atP (i := 0) rfl) (S10.atP (i := 1) rfl)) fu41 rfl S10 fun w13 S14 => ?_
  refine p_aI rfl ?_
  refine wp_nil ?_
  refine c_seq ?_
  refine reg ?_
  refine p_mI rfl ?_
  refine p_cmp rfl rfl rfl ?_
  refine wp_nil ?_
  refine c_cond rfl (fun c15 => ?_) (fun c15 => ?_)
  · replace H := condT c15 H
    refine c_seq ?_
    refine reg ?_
    refine p_mI rfl ?_
    refine p_aB rfl ?_
    refine p_aI rfl ?_
    refine wp_nil ?_
    obtain rfl := Option.some.inj H
    refine c_ret ?_; show bodyPostM (Fr none) 0 Tryd.prog Tryd.f26 _ .ret _ _
    refine ret_of (res2 rfl (rvT (rfl : _ = B false)) (rvT (rfl : _ = I r11))) ?_
    exact ⟨_, rfl, rfl, S14.keep⟩
  · replace H := condF c15 H
    refine c_skip ?_
    refine c_seq ?_
    refine reg ?_
    refine p_ldA ty29 sz29 (S14.atX (i := 0) rfl) rfl rfl ?_
    obtain ⟨r16, h17, H⟩ := bindS H
    refine p_cal (coal_opened_ok h17 (S14.atP (i := 0) rfl) (S14.atP (i := 1) rfl) (rd_nil (Nat.zero_le _)) (S14.atP (i := 2) rfl)) fu71 rfl ?_
    rintro _ w18 ⟨A20, c21, m22, rfl, k19, ⟨o23, n24⟩, ⟨o25, n26⟩, _⟩
    have S27 := S14.callN k19 [rd eCoalDip 3 A20 c21 r16.CoalBook.Dips, mp ekG iE m22 r16.costs_] (List.forall_mem_cons.2 ⟨⟨o23, New.inL n24⟩, (List.forall_mem_cons.2 ⟨⟨o25, New.inL n26⟩, (fun _ h_ => (List.not_mem_nil h_).elim)⟩)⟩)
    obtain ⟨r28, h29, H⟩ := bindS H
    refine p_cv (coal_book_isTrue_ok h29 (S27.atP (i := 2) rfl) (S27.atP (i := 0) rfl) (mpo_some (S27.atP (i := 1) rfl))) fu72 rfl S27 fun w30 S31 => ?_
    refine p_aB rfl ?_
    refine p_aI rfl ?_
    refine wp_nil ?_
    obtain rfl := Option.some.inj H
    refine c_ret ?_; show bodyPostM (Fr none) 0 Tryd.prog Tryd.f26 _ .ret _ _
    refine ret_of (res2 rfl (rvT (rfl : _ = B r28)) (rvT (rfl : _ = I 0))) ?_
    exact ⟨_, rfl, rfl, S31.keep⟩

def coal_asked (a0 : CoalBook) (a1 : Bool) : Option (Coal_book × Int) :=
  (coal_Check a0).bind fun r14 =>
  bif (r14 != 0) then (some ((Coal_book.mk (CoalBook.mk (Span.mk 0 0) [(Span.mk 0 0), (Span.mk 0 0)] (List.replicate 3 0) ([] : List CoalDay) (Span.mk 0 0) 0 ([] : List CoalDip)) ([] : List (Coal_gust × Int))), r14))
  else (bif !a1 then (some ((Coal_book.mk (CoalBook.mk (Span.mk 0 0) [(Span.mk 0 0), (Span.mk 0 0)] (List.replicate 3 0) ([] : List CoalDay) (Span.mk 0 0) 0 ([] : List CoalDip)) ([] : List (Coal_gust × Int))), 61))
  else ((coal_opened a0 ([] : List _)).bind fun r24 =>
  (coal_book_isTrue (Coal_book.mk (CoalBook.mk r24.CoalBook.Heap r24.CoalBook.Eats r24.CoalBook.Extra a0.Days r24.CoalBook.Collier r24.CoalBook.Brings r24.CoalBook.Dips) r24.costs_)).bind fun r41 =>
  bif !r41 then (some ((Coal_book.mk (CoalBook.mk r24.CoalBook.Heap r24.CoalBook.Eats r24.CoalBook.Extra a0.Days r24.CoalBook.Collier r24.CoalBook.Brings r24.CoalBook.Dips) r24.costs_), 62))
  else (some ((Coal_book.mk (CoalBook.mk r24.CoalBook.Heap r24.CoalBook.Eats r24.CoalBook.Extra a0.Days r24.CoalBook.Collier r24.CoalBook.Brings r24.CoalBook.Dips) r24.costs_), 0))))

set_option maxRecDepth 100000 in
theorem coal_asked_ok {a0 : CoalBook} {a1 : Bool} {A1 : Option Addr} {c2 : Nat} {A4 : Option Addr} {c5 : Nat} {w : World} {r : Coal_book × Int} (H : coal_asked a0 a1 = some r) (h3 : (rd eCoalDay 3 A1 c2 a0.Days).ok w) (h6 : (rd eCoalDip 3 A4 c5 a0.Dips).ok w) (hg7 : (bl 1 [I (-1), I (-1)] 123).ok w) : Calls Tryd.prog 74 #[AG ([I a0.Heap.Low, I a0.Heap.High] ++ (sgE eSpan a0.Eats 2 ++ (sg a0.Extra 3 ++ [SL A1 a0.Days.length c2, I a0.Collier.Low, I a0.Collier.High, I a0.Brings, SL A4 a0.Dips.length c5]))), B a1] w fun en w_ => ∃ u_, en = .returned u_ ∧ ∃ A_1 : Option Addr, ∃ c_2 : Nat, ∃ A_3 : Option Addr, ∃ c_4 : Nat, ∃ m_5 : Option Nat, u_ = TU [AG ([I r.1.CoalBook.Heap.Low, I r.1.CoalBook.Heap.High] ++ (sgE eSpan r.1.CoalBook.Eats 2 ++ (sg r.1.CoalBook.Extra 3 ++ [SL A_1 r.1.CoalBook.Days.length c_2, I r.1.CoalBook.Collier.Low, I r.1.CoalBook.Collier.High, I r.1.CoalBook.Brings, SL A_3 r.1.CoalBook.Dips.length c_4, Value.map m_5]))), I r.2] ∧ Keep0 w w_ ∧ ((rd eCoalDay 3 A_1 c_2 r.1.CoalBook.Days).ok w_ ∧ Al w [rd eCoalDay 3 A1 c2 a0.Days, rd eCoalDip 3 A4 c5 a0.Dips] (rd eCoalDay 3 A_1 c_2 r.1.CoalBook.Days)) ∧ ((rd eCoalDip 3 A_3 c_4 r.1.CoalBook.Dips).ok w_ ∧ New w.heap.size (rd eCoalDip 3 A_3 c_4 r.1.CoalBook.Dips)) ∧ ((mpo ekG iE m_5 r.1.costs_).ok w_ ∧ New w.heap.size (mpo ekG iE m_5 r.1.costs_)) ∧ True := by
  unfold coal_asked at H
  refine fn_of (n := 24) Tryd.func74 rfl rfl (Nat.le_of_ble_eq_true rfl) ?_
  have S : St w (fun _ => False) w [] [rd eCoalDay 3 A1 c2 a0.Days, rd eCoalDip 3 A4 c5 a0.Dips, bl 1 [I (-1), I (-1)] 123] := St.start w _ _ (List.forall_mem_cons.2 ⟨h3, (List.forall_mem_cons.2 ⟨h6, (List.forall_mem_cons.2 ⟨hg7, (fun _ h_ => (List.not_mem_nil h_).elim)⟩)⟩)⟩)
  refine c_seq ?_
  refine reg ?_
  refine p_boxA rfl S fun b8 w9 S10 => ?_
  refine p_allA in92 S10 fun b11 w12 S13 => ?_
  refine p_aI rfl ?_
  refine wp_nil ?_
  refine c_seq ?_
  refine c_seq ?_
  refine reg ?_
  refine p_ldA ty29 sz29 (S13.atX (i := 1) rfl) rfl rfl ?_
  obtain ⟨r14, h15, H⟩ := bindS H
  refine p_cv (coal_Check_ok h15 (S13.atP (i := 0) rfl) (S13.atP (i := 1) rfl)) fu41 rfl S13 fun w16 S17 => ?_
  refine p_aI rfl ?_
  refine wp_nil ?_
  refine c_seq ?_
  refine reg ?_
  refine p_mI rfl ?_
  refine p_cmp rfl rfl rfl ?_
  refine wp_nil ?_
  refine c_cond rfl (fun c18 => ?_) (fun c18 => ?_)
  · replace H := condT c18 H
    refine c_seq ?_
    refine reg ?_
    refine p_bld (cs := [I 0, I 0, I 0, I 0, I 0, I 0] ++ (sg (List.replicate 3 0) 3 ++ [SL none 0 0, I 0, I 0, I 0, SL none 0 0, Value.map none])) st92 (rfl : _ = []) (by kernel_rfl) ?_
    refine p_mI rfl ?_
    refine p_stP (pre := []) (old := [I 0, I 0, I 0, I 0, I 0, I 0] ++ (sg (List.replicate 3 0) 3 ++ [SL none 0 0, I 0, I 0, I 0, SL none 0 0, Value.map none])) (post := []) (vs := [I 0, I 0, I 0, I 0, I 0, I 0] ++ (sg (List.replicate 3 0) 3 ++ [SL none 0 0, I 0, I 0, I 0, SL none 0 0, Value.map none])) sz92 S17 (i := 0) rfl rfl rfl rfl (rfl : _ = AG ([I 0, I 0, I 0, I 0, I 0, I 0] ++ (sg (List.replicate 3 0) 3 ++ [SL none 0 0, I 0, I 0, I 0, SL none 0 0, Value.map none]))) rfl rfl rfl rfl fun w19 S20 => ?_
    refine p_aI rfl ?_
    refine wp_nil ?_
    obtain rfl := Option.some.inj H
    refine c_ret ?_; show bodyPostM (Fr none) 0 Tryd.prog Tryd.f74 _ .ret _ _
    refine ret_of (res2 rfl (rvA rfl ty92 sz92 (S20.atX (i := 0) rfl) rfl) (rvT (rfl : _ = I r14))) ?_
    exact ⟨_, rfl, none, 0, none, 0, none, rfl, S20.keep, ⟨rd_nil (Nat.zero_le _), Al.nil⟩, ⟨rd_nil (Nat.zero_le _), New.nil⟩, ⟨mpo_none, New.mpoN⟩, trivial⟩
  · replace H := condF c18 H
    refine c_skip ?_
    refine c_seq ?_
    refine c_seq ?_
    refine reg ?_
    refine p_mB rfl ?_
    refine p_not rfl ?_
    refine wp_nil ?_
    refine c_cond rfl (fun c21 => ?_) (fun c21 => ?_)
    · replace H := condT c21 H
      refine c_seq ?_
      refine reg ?_
      refine p_bld (cs := [I 0, I 0, I 0, I 0, I 0, I 0] ++ (sg (List.replicate 3 0) 3 ++ [SL none 0 0, I 0, I 0, I 0, SL none 0 0, Value.map none])) st92 (rfl : _ = []) (by kernel_rfl) ?_
      refine p_stP (pre := []) (old := [I 0, I 0, I 0, I 0, I 0, I 0] ++ (sg (List.replicate 3 0) 3 ++ [SL none 0 0, I 0, I 0, I 0, SL none 0 0, Value.map none])) (post := []) (vs := [I 0, I 0, I 0, I 0, I 0, I 0] ++ (sg (List.replicate 3 0) 3 ++ [SL none 0 0, I 0, I 0, I 0, SL none 0 0, Value.map none])) sz92 S17 (i := 0) rfl rfl rfl rfl (rfl : _ = AG ([I 0, I 0, I 0, I 0, I 0, I 0] ++ (sg (List.replicate 3 0) 3 ++ [SL none 0 0, I 0, I 0, I 0, SL none 0 0, Value.map none]))) rfl rfl rfl rfl fun w22 S23 => ?_
      refine p_aI rfl ?_
      refine wp_nil ?_
      obtain rfl := Option.some.inj H
      refine c_ret ?_; show bodyPostM (Fr none) 0 Tryd.prog Tryd.f74 _ .ret _ _
      refine ret_of (res2 rfl (rvA rfl ty92 sz92 (S23.atX (i := 0) rfl) rfl) (rvT (rfl : _ = I 61))) ?_
      exact ⟨_, rfl, none, 0, none, 0, none, rfl, S23.keep, ⟨rd_nil (Nat.zero_le _), Al.nil⟩, ⟨rd_nil (Nat.zero_le _), New.nil⟩, ⟨mpo_none, New.mpoN⟩, trivial⟩
    · replace H := condF c21 H
      refine c_skip ?_
      refine c_seq ?_
      refine reg ?_
      refine p_ldA ty29 sz29 (S17.atX (i := 1) rfl) rfl rfl ?_
      obtain ⟨r24, h25, H⟩ := bindS H
      refine p_cal (coal_opened_ok h25 (S17.atP (i := 0) rfl) (S17.atP (i := 1) rfl) (rd_nil (Nat.zero_le _)) (S17.atP (i := 2) rfl)) fu71 rfl ?_
      rintro _ w26 ⟨A28, c29, m30, rfl, k27, ⟨o31, n32⟩, ⟨o33, n34⟩, _⟩
      have S35 := S17.callN k27 [rd eCoalDip 3 A28 c29 r24.CoalBook.Dips, mp ekG iE m30 r24.costs_] (List.forall_mem_cons.2 ⟨⟨o31, New.inL n32⟩, (List.forall_mem_cons.2 ⟨⟨o33, New.inL n34⟩, (fun _ h_ => (List.not_mem_nil h_).elim)⟩)⟩)
      refine p_allA in92 S35 fun b36 w37 S38 => ?_
      refine p_stP (pre := []) (old := [I 0, I 0, I 0, I 0, I 0, I 0] ++ (sg (List.replicate 3 0) 3 ++ [SL none 0 0, I 0, I 0, I 0, SL none 0 0, Value.map none])) (post := []) (vs := [I r24.CoalBook.Heap.Low, I r24.CoalBook.Heap.High] ++ (sgE eSpan r24.CoalBook.Eats 2 ++ (sg r24.CoalBook.Extra 3 ++ [SL A1 a0.Days.length c2, I r24.CoalBook.Collier.Low, I r24.CoalBook.Collier.High, I r24.CoalBook.Brings, SL A28 r24.CoalBook.Dips.length c29, Value.map (some m30)]))) sz92 S38 (i := 0) rfl rfl rfl rfl (rfl : _ = AG ([I r24.CoalBook.Heap.Low, I r24.CoalBook.Heap.High] ++ (sgE eSpan r24.CoalBook.Eats 2 ++ (sg r24.CoalBook.Extra 3 ++ [SL A1 a0.Days.length c2, I r24.CoalBook.Collier.Low, I r24.CoalBook.Collier.High, I r24.CoalBook.Brings, SL A28 r24.CoalBook.Dips.length c29, Value.map (some m30)])))) rfl rfl rfl rfl fun w39 S40 => ?_
      refine wp_nil ?_
      refine c_seq ?_
      refine c_seq ?_
      refine reg ?_
      refine p_ldA ty92 sz92 (S40.atX (i := 0) rfl) rfl rfl ?_
      obtain ⟨r41, h42, H⟩ := bindS H
      refine p_cv (coal_book_isTrue_ok h42 (S40.atP (i := 2) rfl) (S40.atP (i := 0) rfl) (mpo_some (S40.atP (i := 1) rfl))) fu72 rfl S40 fun w43 S44 => ?_
      refine p_not rfl ?_
      refine wp_nil ?_
      refine c_cond rfl (fun c45 => ?_) (fun c45 => ?_)
      · replace H := condT c45 H
        refine c_seq ?_
        refine reg ?_
        refine p_ldA ty92 sz92 (S44.atX (i := 0) rfl) rfl rfl ?_
        refine p_stP (pre := []) (old := [I 0, I 0, I 0, I 0, I 0, I 0] ++ (sg (List.replicate 3 0) 3 ++ [SL none 0 0, I 0, I 0, I 0, SL none 0 0, Value.map none])) (post := []) (vs := [I r24.CoalBook.Heap.Low, I r24.CoalBook.Heap.High] ++ (sgE eSpan r24.CoalBook.Eats 2 ++ (sg r24.CoalBook.Extra 3 ++ [SL A1 a0.Days.length c2, I r24.CoalBook.Collier.Low, I r24.CoalBook.Collier.High, I r24.CoalBook.Brings, SL A28 r24.CoalBook.Dips.length c29, Value.map (some m30)]))) sz92 S44 (i := 1) rfl rfl rfl rfl (rfl : _ = AG ([I r24.CoalBook.Heap.Low, I r24.CoalBook.Heap.High] ++ (sgE eSpan r24.CoalBook.Eats 2 ++ (sg r24.CoalBook.Extra 3 ++ [SL A1 a0.Days.length c2, I r24.CoalBook.Collier.Low, I r24.CoalBook.Collier.High, I r24.CoalBook.Brings, SL A28 r24.CoalBook.Dips.length c29, Value.map (some m30)])))) rfl rfl rfl rfl fun w46 S47 => ?_
        refine p_aI rfl ?_
        refine wp_nil ?_
        obtain rfl := Option.some.inj H
        refine c_ret ?_; show bodyPostM (Fr none) 0 Tryd.prog Tryd.f74 _ .ret _ _
        refine ret_of (res2 rfl (rvA rfl ty92 sz92 (S47.atX (i := 1) rfl) rfl) (rvT (rfl : _ = I 62))) ?_
        exact ⟨_, rfl, A1, c2, A28, c29, (some m30), rfl, S47.keep, ⟨(S47.atP (i := 2) rfl), Al.self (i := 0) rfl⟩, ⟨(S47.atP (i := 0) rfl), (New.mono n32 S17.keep.size)⟩, ⟨mpo_some (S47.atP (i := 1) rfl), New.mpoS (New.mono n34 S17.keep.size)⟩, trivial⟩
      · replace H := condF c45 H
        refine c_skip ?_
        refine c_seq ?_
        refine reg ?_
        refine p_ldA ty92 sz92 (S44.atX (i := 0) rfl) rfl rfl ?_
        refine p_stP (pre := []) (old := [I 0, I 0, I 0, I 0, I 0, I 0] ++ (sg (List.replicate 3 0) 3 ++ [SL none 0 0, I 0, I 0, I 0, SL none 0 0, Value.map none])) (post := []) (vs := [I r24.CoalBook.Heap.Low, I r24.CoalBook.Heap.High] ++ (sgE eSpan r24.CoalBook.Eats 2 ++ (sg r24.CoalBook.Extra 3 ++ [SL A1 a0.Days.length c2, I r24.CoalBook.Collier.Low, I r24.CoalBook.Collier.High, I r24.CoalBook.Brings, SL A28 r24.CoalBook.Dips.length c29, Value.map (some m30)]))) sz92 S44 (i := 1) rfl rfl rfl rfl (rfl : _ = AG ([I r24.CoalBook.Heap.Low, I r24.CoalBook.Heap.High] ++ (sgE eSpan r24.CoalBook.Eats 2 ++ (sg r24.CoalBook.Extra 3 ++ [SL A1 a0.Days.length c2, I r24.CoalBook.Collier.Low, I r24.CoalBook.Collier.High, I r24.CoalBook.Brings, SL A28 r24.CoalBook.Dips.length c29, Value.map (some m30)])))) rfl rfl rfl rfl fun w48 S49 => ?_
        refine p_aI rfl ?_
        refine wp_nil ?_
        obtain rfl := Option.some.inj H
        refine c_ret ?_; show bodyPostM (Fr none) 0 Tryd.prog Tryd.f74 _ .ret _ _
        refine ret_of (res2 rfl (rvA rfl ty92 sz92 (S49.atX (i := 1) rfl) rfl) (rvT (rfl : _ = I 0))) ?_
        exact ⟨_, rfl, A1, c2, A28, c29, (some m30), rfl, S49.keep, ⟨(S49.atP (i := 2) rfl), Al.self (i := 0) rfl⟩, ⟨(S49.atP (i := 0) rfl), (New.mono n32 S17.keep.size)⟩, ⟨mpo_some (S49.atP (i := 1) rfl), New.mpoS (New.mono n34 S17.keep.size)⟩, trivial⟩

structure Coal_number where
  of_ : Coal_truth → Option Int

def coal_book_span_r1 (a1 : Coal_number) (x_1 : Coal_truth) (z_1 : Int × Int × Bool) : Option (Bool × Nat × (Int × Int × Bool)) :=
  (a1.of_ x_1).bind fun r68 =>
  bif z_1.2.2 then (some (true, 0, ((if r68 < r68 then r68 else r68), (if r68 > r68 then r68 else r68), false)))
  else (some (true, 0, ((if r68 < z_1.1 then r68 else z_1.1), (if r68 > z_1.2.1 then r68 else z_1.2.1), z_1.2.2)))

def coal_book_span (a0 : Coal_book) (a1 : Coal_number) : Option Span :=
  (coal_book_truths a0).bind fun r33 =>
  (coal_book_truths_1 (0, (0, 0, true)) a0 (yvOf (coal_book_span_r1 a1))).bind fun r42 =>
  some (Span.mk r42.2.1 r42.2.2.1)

set_option maxRecDepth 100000 in
theorem coal_book_span_ok {a0 : Coal_book} {a1 : Coal_number} {A1 : Option Addr} {c2 : Nat} {A4 : Option Addr} {c5 : Nat} {m7 : Option Nat} {f9 : Nat} {cp10 : List Value} {w : World} {r : Span} (H : coal_book_span a0 a1 = some r) (h3 : (rd eCoalDay 3 A1 c2 a0.CoalBook.Days).ok w) (h6 : (rd eCoalDip 3 A4 c5 a0.CoalBook.Dips).ok w) (h8 : (mpo ekG iE m7 a0.costs_).ok w) (hF11 : funOf Tryd.prog f9 = true) (hw12 : ∀ (y13 : Coal_truth) (w15 : World) (y14 : Int), Keep0 w w15 → a1.of_ y13 = some y14 → Calls Tryd.prog f9 (List.toArray ([AG (sg y13.eats_ 2 ++ ([I y13.collier_] ++ (sg y13.winds_ 6 ++ sg y13.coal_ 6)))] ++ cp10)) w15 (RetV w15 (I y14))) : Calls Tryd.prog 76 #[AG ([I a0.CoalBook.Heap.Low, I a0.CoalBook.Heap.High] ++ (sgE eSpan a0.CoalBook.Eats 2 ++ (sg a0.CoalBook.Extra 3 ++ [SL A1 a0.CoalBook.Days.length c2, I a0.CoalBook.Collier.Low, I a0.CoalBook.Collier.High, I a0.CoalBook.Brings, SL A4 a0.CoalBook.Dips.length c5, Value.map m7]))), AG [Value.func (.func f9) #[] cp10.toArray]] w (RetV w (AG [I r.Low, I r.High])) := by
  unfold coal_book_span at H
  refine fn_of (n := 30) Tryd.func76 rfl rfl (Nat.le_of_ble_eq_true rfl) ?_
  have S : St w (fun _ => False) w [] [rd eCoalDay 3 A1 c2 a0.CoalBook.Days, rd eCoalDip 3 A4 c5 a0.CoalBook.Dips, mpo ekG iE m7 a0.costs_] := St.start w _ _ (List.forall_mem_cons.2 ⟨h3, (List.forall_mem_cons.2 ⟨h6, (List.forall_mem_cons.2 ⟨h8, (fun _ h_ => (List.not_mem_nil h_).elim)⟩)⟩)⟩)
  refine c_seq ?_
  refine reg ?_
  refine p_boxA rfl S fun b16 w17 S18 => ?_
  refine p_boxA rfl S18 fun b19 w20 S21 => ?_
  refine p_allA in23 S21 fun b22 w23 S24 => ?_
  refine wp_nil ?_
  refine c_seq ?_
  refine reg ?_
  refine p_all in4 rfl S24 fun b25 w26 S27 => ?_
  refine p_st sz4 S27 (i := 0) rfl rfl (rfl : _ = B true) rfl rfl fun w28 S29 => ?_
  refine wp_nil ?_
  refine c_seq ?_
  refine reg ?_
  refine p_allA in23 S29 fun b30 w31 S32 => ?_
  refine wp_nil ?_
  refine c_seq ?_
  refine c_seq ?_
  refine reg ?_
  refine p_ldA ty92 sz92 (S32.atX (i := 4) rfl) rfl rfl ?_
  obtain ⟨r33, h34, H⟩ := bindS H
  refine p_cal (coal_book_truths_ok h34 (S32.atP (i := 0) rfl) (S32.atP (i := 1) rfl) (S32.atP (i := 2) rfl)) fu78 rfl ?_
  rintro _ w35 ⟨b37, rfl, k36, ⟨o38, n39⟩, _⟩
  have S40 := S32.addNew k36 o38 n39
  refine wp_nil ?_
  refine c_block ?_
  have S41 := S40.fix (i := 0) rfl
  obtain ⟨r42, h43, H⟩ := bindS H

  have S44 := S41
  refine c_rangeG (α := Int × Int × Bool) (β := Unit) (ε := Coal_truth) (K := [bl b37 ([I a0.CoalBook.Heap.Low, I a0.CoalBook.Heap.High] ++ (sgE eSpan a0.CoalBook.Eats 2 ++ (sg a0.CoalBook.Extra 3 ++ [SL A1 a0.CoalBook.Days.length c2, I a0.CoalBook.Collier.Low, I a0.CoalBook.Collier.High, I a0.CoalBook.Brings, SL A4 a0.CoalBook.Dips.length c5, Value.map m7]))) 92, rd eCoalDay 3 A1 c2 a0.CoalBook.Days, rd eCoalDip 3 A4 c5 a0.CoalBook.Dips, mpo ekG iE m7 a0.costs_]) (MK := Go.Fx.mark) (XR := fun D45 => [] ++ [bx D45 (.deferred (some []))]) (it := fun {σ} yv s_ => coal_book_truths_1 s_ a0 yv) (enc := yE1) (coal_book_span_r1 a1) [] (fun z_1 y_1 => [bl b30 [I z_1.1, I z_1.2.1] 23, bl b25 [B z_1.2.2] 4, bl b22 [I 0, I 0] 23, bl b19 [Value.func (.func f9) #[] cp10.toArray] 101, bl b16 ([I a0.CoalBook.Heap.Low, I a0.CoalBook.Heap.High] ++ (sgE eSpan a0.CoalBook.Eats 2 ++ (sg a0.CoalBook.Extra 3 ++ [SL A1 a0.CoalBook.Days.length c2, I a0.CoalBook.Collier.Low, I a0.CoalBook.Collier.High, I a0.CoalBook.Brings, SL A4 a0.CoalBook.Dips.length c5, Value.map m7]))) 92]) (0, 0, true) () h43 (ent_none (X0 := (fun z_1 y_1 => [bl b30 [I z_1.1, I z_1.2.1] 23, bl b25 [B z_1.2.2] 4, bl b22 [I 0, I 0] 23, bl b19 [Value.func (.func f9) #[] cp10.toArray] 101, bl b16 ([I a0.CoalBook.Heap.Low, I a0.CoalBook.Heap.High] ++ (sgE eSpan a0.CoalBook.Eats 2 ++ (sg a0.CoalBook.Extra 3 ++ [SL A1 a0.CoalBook.Days.length c2, I a0.CoalBook.Collier.Low, I a0.CoalBook.Collier.High, I a0.CoalBook.Brings, SL A4 a0.CoalBook.Dips.length c5, Value.map m7]))) 92]) (0, 0, true) () ++ []) S44) rfl fu95 (fun w_ σ yv_ s_ s'_ l_ G_ A_ hH_ hG_ hk_ hd_ hy_ => (coal_book_truths_1_ok hH_ hG_ (hk_ _ (List.mem_of_getElem? (i := 0) rfl)) (hk_ _ (List.mem_of_getElem? (i := 1) rfl)) (hk_ _ (List.mem_of_getElem? (i := 2) rfl)) (hk_ _ (List.mem_of_getElem? (i := 3) rfl)) hd_ hy_ (Link.refl _ _)).mono fun en_ w3_ ⟨u_, he_, A'_, hu_, hk2_, ho_, hf_⟩ => ⟨u_, he_, hk2_, A'_, ho_, hf_⟩) (List.forall_mem_cons.2 ⟨List.mem_of_getElem? (i := 0) rfl, (List.forall_mem_cons.2 ⟨List.mem_of_getElem? (i := 1) rfl, (List.forall_mem_cons.2 ⟨List.mem_of_getElem? (i := 2) rfl, (List.forall_mem_cons.2 ⟨List.mem_of_getElem? (i := 3) rfl, (fun _ h_ => (List.not_mem_nil h_).elim)⟩)⟩)⟩)⟩) (fun _ => rfl) (fun _ h_ => (List.not_mem_nil h_).elim) ?_ ?_ ?_
  · intro l46 oR47 oB48 Cr49 x_1 z_1 y_1 w50 b51 c52 z53 PP54 H S55 hlk56 ho57 hB58 hN59 hX60
    unfold coal_book_span_r1 at H
    replace S55 : St w50 Cr49 w50 [bx l46 oR47, bl b30 [I z_1.1, I z_1.2.1] 23, bl b25 [B z_1.2.2] 4, bl b22 [I 0, I 0] 23, bl b19 [Value.func (.func f9) #[] cp10.toArray] 101, bl b16 ([I a0.CoalBook.Heap.Low, I a0.CoalBook.Heap.High] ++ (sgE eSpan a0.CoalBook.Eats 2 ++ (sg a0.CoalBook.Extra 3 ++ [SL A1 a0.CoalBook.Days.length c2, I a0.CoalBook.Collier.Low, I a0.CoalBook.Collier.High, I a0.CoalBook.Brings, SL A4 a0.CoalBook.Dips.length c5, Value.map m7]))) 92] [bl b37 ([I a0.CoalBook.Heap.Low, I a0.CoalBook.Heap.High] ++ (sgE eSpan a0.CoalBook.Eats 2 ++ (sg a0.CoalBook.Extra 3 ++ [SL A1 a0.CoalBook.Days.length c2, I a0.CoalBook.Collier.Low, I a0.CoalBook.Collier.High, I a0.CoalBook.Brings, SL A4 a0.CoalBook.Dips.length c5, Value.map m7]))) 92, rd eCoalDay 3 A1 c2 a0.CoalBook.Days, rd eCoalDip 3 A4 c5 a0.CoalBook.Dips, mpo ekG iE m7 a0.costs_] := S55
    refine reg ?_
    refine p_allA in108 S55 fun b61 w62 S63 => ?_
    refine p_stP (pre := []) (old := sg (List.replicate 2 0) 2 ++ ([I 0] ++ (sg (List.replicate 6 0) 6 ++ sg (List.replicate 6 0) 6))) (post := []) (vs := sg x_1.eats_ 2 ++ ([I x_1.collier_] ++ (sg x_1.winds_ 6 ++ sg x_1.coal_ 6))) sz108 S63 (i := 0) rfl rfl rfl rfl (rfl : _ = AG (sg x_1.eats_ 2 ++ ([I x_1.collier_] ++ (sg x_1.winds_ 6 ++ sg x_1.coal_ 6)))) rfl rfl rfl rfl fun w64 S65 => ?_
    refine wp_nil ?_
    refine hB58 _ _ 1 _ S65 rfl fun w66 S67 => ?_
    replace S67 : St w50 Cr49 w66 [bl b61 (sg x_1.eats_ 2 ++ ([I x_1.collier_] ++ (sg x_1.winds_ 6 ++ sg x_1.coal_ 6))) 108, bx l46 oB48, bl b30 [I z_1.1, I z_1.2.1] 23, bl b25 [B z_1.2.2] 4, bl b22 [I 0, I 0] 23, bl b19 [Value.func (.func f9) #[] cp10.toArray] 101, bl b16 ([I a0.CoalBook.Heap.Low, I a0.CoalBook.Heap.High] ++ (sgE eSpan a0.CoalBook.Eats 2 ++ (sg a0.CoalBook.Extra 3 ++ [SL A1 a0.CoalBook.Days.length c2, I a0.CoalBook.Collier.Low, I a0.CoalBook.Collier.High, I a0.CoalBook.Brings, SL A4 a0.CoalBook.Dips.length c5, Value.map m7]))) 92] [bl b37 ([I a0.CoalBook.Heap.Low, I a0.CoalBook.Heap.High] ++ (sgE eSpan a0.CoalBook.Eats 2 ++ (sg a0.CoalBook.Extra 3 ++ [SL A1 a0.CoalBook.Days.length c2, I a0.CoalBook.Collier.Low, I a0.CoalBook.Collier.High, I a0.CoalBook.Brings, SL A4 a0.CoalBook.Dips.length c5, Value.map m7]))) 92, rd eCoalDay 3 A1 c2 a0.CoalBook.Days, rd eCoalDip 3 A4 c5 a0.CoalBook.Dips, mpo ekG iE m7 a0.costs_] := S67
    refine c_block ?_
    refine c_seq ?_
    refine reg ?_
    refine p_fld fl101_0 rfl ?_
    refine p_ld ty99 (S67.atX (i := 5) rfl) rfl rfl ?_
    refine p_ldA ty108 sz108 (S67.atX (i := 0) rfl) rfl rfl ?_
    obtain ⟨r68, h69, H⟩ := bindS H
    refine p_cv (hw12 _ _ _ (Link.of (Link.trans (Link.refl _ _) hlk56) S67.keep) h69) hF11 rfl S67 ?_
    intro w70 S71
    refine p_aI rfl ?_
    refine wp_nil ?_
    refine c_seq ?_
    refine c_seq ?_
    refine reg ?_
    refine p_ld ty4 (S71.atX (i := 3) rfl) rfl rfl ?_
    refine wp_nil ?_
    refine c_cond rfl (fun c72 => ?_) (fun c72 => ?_)
    · replace H := condT c72 H
      refine reg ?_
      refine p_mI rfl ?_
      refine p_mI rfl ?_
      refine p_bld (cs := [I r68, I r68]) st23 (rfl : _ = [(0, I r68), (1, I r68)]) (by kernel_rfl) ?_
      refine p_stP (pre := []) (old := [I z_1.1, I z_1.2.1]) (post := []) (vs := [I r68, I r68]) sz23 S71 (i := 2) rfl rfl rfl rfl (rfl : _ = AG [I r68, I r68]) rfl rfl rfl rfl fun w73 S74 => ?_
      refine p_st sz4 S74 (i := 3) rfl rfl (rfl : _ = B false) rfl rfl fun w75 S76 => ?_
      refine wp_nil ?_
      refine reg ?_
      refine p_fld fl23_0 rfl ?_
      refine p_ld ty3 (S76.atX (i := 2) rfl) rfl rfl ?_
      refine p_mI rfl ?_
      refine p_min rfl rfl ?_
      refine p_fld fl23_1 rfl ?_
      refine p_ld ty3 (S76.atX (i := 2) rfl) rfl rfl ?_
      refine p_mI rfl ?_
      refine p_max rfl rfl ?_
      refine p_bld (cs := [I (if r68 < r68 then r68 else r68), I (if r68 > r68 then r68 else r68)]) st23 (rfl : _ = [(0, I (if r68 < r68 then r68 else r68)), (1, I (if r68 > r68 then r68 else r68))]) (by kernel_rfl) ?_
      refine p_stP (pre := []) (old := [I r68, I r68]) (post := []) (vs := [I (if r68 < r68 then r68 else r68), I (if r68 > r68 then r68 else r68)]) sz23 S76 (i := 2) rfl rfl rfl rfl (rfl : _ = AG [I (if r68 < r68 then r68 else r68), I (if r68 > r68 then r68 else r68)]) rfl rfl rfl rfl fun w77 S78 => ?_
      refine wp_nil ?_
      have S79 := S78.pk [1, 2, 3, 4, 5, 6] (by decide) [0, 1, 2, 3] rfl rfl
      exact hN59 _ _ ((if r68 < r68 then r68 else r68), (if r68 > r68 then r68 else r68), false) () S79 (Option.some.inj H)
    · replace H := condF c72 H
      refine c_skip ?_
      refine reg ?_
      refine p_fld fl23_0 rfl ?_
      refine p_ld ty3 (S71.atX (i := 2) rfl) rfl rfl ?_
      refine p_mI rfl ?_
      refine p_min rfl rfl ?_
      refine p_fld fl23_1 rfl ?_
      refine p_ld ty3 (S71.atX (i := 2) rfl) rfl rfl ?_
      refine p_mI rfl ?_
      refine p_max rfl rfl ?_
      refine p_bld (cs := [I (if r68 < z_1.1 then r68 else z_1.1), I (if r68 > z_1.2.1 then r68 else z_1.2.1)]) st23 (rfl : _ = [(0, I (if r68 < z_1.1 then r68 else z_1.1)), (1, I (if r68 > z_1.2.1 then r68 else z_1.2.1))]) (by kernel_rfl) ?_
      refine p_stP (pre := []) (old := [I z_1.1, I z_1.2.1]) (post := []) (vs := [I (if r68 < z_1.1 then r68 else z_1.1), I (if r68 > z_1.2.1 then r68 else z_1.2.1)]) sz23 S71 (i := 2) rfl rfl rfl rfl (rfl : _ = AG [I (if r68 < z_1.1 then r68 else z_1.1), I (if r68 > z_1.2.1 then r68 else z_1.2.1)]) rfl rfl rfl rfl fun w79 S80 => ?_
      refine wp_nil ?_
      have S81 := S80.pk [1, 2, 3, 4, 5, 6] (by decide) [0, 1, 2, 3] rfl rfl
      exact hN59 _ _ ((if r68 < z_1.1 then r68 else z_1.1), (if r68 > z_1.2.1 then r68 else z_1.2.1), z_1.2.2) () S81 (Option.some.inj H)
  · intro hc87
    intro l81 D82 o83 y84 w85 S86
    have S88 : St w (fun _ => False) w85 [bl b30 [I r42.2.1, I r42.2.2.1] 23, bl b25 [B r42.2.2.2] 4, bl b22 [I 0, I 0] 23, bl b19 [Value.func (.func f9) #[] cp10.toArray] 101, bl b16 ([I a0.CoalBook.Heap.Low, I a0.CoalBook.Heap.High] ++ (sgE eSpan a0.CoalBook.Eats 2 ++ (sg a0.CoalBook.Extra 3 ++ [SL A1 a0.CoalBook.Days.length c2, I a0.CoalBook.Collier.Low, I a0.CoalBook.Collier.High, I a0.CoalBook.Brings, SL A4 a0.CoalBook.Dips.length c5, Value.map m7]))) 92, bx D82 (.deferred (some []))] [bl b37 ([I a0.CoalBook.Heap.Low, I a0.CoalBook.Heap.High] ++ (sgE eSpan a0.CoalBook.Eats 2 ++ (sg a0.CoalBook.Extra 3 ++ [SL A1 a0.CoalBook.Days.length c2, I a0.CoalBook.Collier.Low, I a0.CoalBook.Collier.High, I a0.CoalBook.Brings, SL A4 a0.CoalBook.Dips.length c5, Value.map m7]))) 92, rd eCoalDay 3 A1 c2 a0.CoalBook.Days, rd eCoalDip 3 A4 c5 a0.CoalBook.Dips, mpo ekG iE m7 a0.costs_] := St.tail1 S86
    refine c_seq ?_
    refine reg ?_
    refine p_ldA ty23 sz23 (S88.atX (i := 0) rfl) rfl rfl ?_
    refine p_stP (pre := []) (old := [I 0, I 0]) (post := []) (vs := [I r42.2.1, I r42.2.2.1]) sz23 S88 (i := 2) rfl rfl rfl rfl (rfl : _ = AG [I r42.2.1, I r42.2.2.1]) rfl rfl rfl rfl fun w89 S90 => ?_
    refine wp_nil ?_
    refine c_ret ?_
    refine leave_mark S90 (i := 5) rfl fun w91 S92 => ?_
    obtain rfl := Option.some.inj H
    show bodyPostM (Fr none) 0 Tryd.prog Tryd.f76 _ .ret _ _
    refine ret_of (res1 rfl (rvA rfl ty23 sz23 (S92.atX (i := 2) rfl) rfl)) ?_
    exact ⟨_, rfl, rfl, S92.keep⟩
  · intro k93 c94 hk95 hc96
    cases hk95

def coal_coal_1 (a0 : Coal_truth) (q0 : Int) : Option Int :=
  need (inI q0 6) <|
  some (aget a0.coal_ q0)

set_option maxRecDepth 100000 in
theorem coal_coal_1_ok {a0 : Coal_truth} {q0 : Int} {b1 : Nat} {w : World} {r : Int} (H : coal_coal_1 a0 q0 = some r) (h2 : (bl b1 [I q0] 3).ok w) : Calls Tryd.prog 94 #[AG (sg a0.eats_ 2 ++ ([I a0.collier_] ++ (sg a0.winds_ 6 ++ sg a0.coal_ 6))), P b1 0] w (RetV w (I r)) := by
  unfold coal_coal_1 at H
  refine fn_of (n := 8) Tryd.func94 rfl rfl (Nat.le_of_ble_eq_true rfl) ?_
  have S : St w (fun _ => False) w [] [bl b1 [I q0] 3] := St.start w _ _ (List.forall_mem_cons.2 ⟨h2, (fun _ h_ => (List.not_mem_nil h_).elim)⟩)
  refine c_seq ?_
  refine reg ?_
  refine p_boxA rfl S fun b3 w4 S5 => ?_
  refine p_aI rfl ?_
  refine wp_nil ?_
  refine c_seq ?_
  refine reg ?_
  refine p_ld ty3 (S5.atP (i := 0) rfl) rfl rfl ?_
  refine p_fld fl108_3 rfl ?_
  obtain ⟨h6, H⟩ := needS H
  refine p_ixD ar106 h6 rfl rfl ?_
  refine p_ldD (pre := sg a0.eats_ 2 ++ ([I a0.collier_] ++ sg a0.winds_ 6)) (post := []) ty3 (S5.atX (i := 0) rfl) rfl h6 rfl rfl ?_
  refine p_aI rfl ?_
  refine wp_nil ?_
  obtain rfl := Option.some.inj H
  refine c_ret ?_; show bodyPostM (Fr none) 0 Tryd.prog Tryd.f94 _ .ret _ _
  refine ret_of (res1 rfl (rvT (rfl : _ = I (aget a0.coal_ q0)))) ?_
  exact ⟨_, rfl, rfl, S5.keep⟩

def coal_coal (a0 : Int) : Option Unit :=
  some ()

set_option maxRecDepth 100000 in
theorem coal_coal_ok {a0 : Int} {w : World} {r : Unit} (H : coal_coal a0 = some r) : Calls Tryd.prog 77 #[I a0] w fun en w_ => ∃ u_, en = .returned u_ ∧ ∃ b_1 : Nat, u_ = AG [Value.func (.func 94) #[] #[P b_1 0]] ∧ Keep0 w w_ ∧ ((bl b_1 [I a0] 3).ok w_ ∧ New w.heap.size (bl b_1 [I a0] 3)) ∧ True := by
  unfold coal_coal at H
  refine fn_of (n := 5) Tryd.func77 rfl rfl (Nat.le_of_ble_eq_true rfl) ?_
  have S : St w (fun _ => False) w [] [] := St.start w _ _ (fun _ h_ => (List.not_mem_nil h_).elim)
  refine c_seq ?_
  refine reg ?_
  refine p_box (rfl : _ = I a0) rfl S fun b1 w2 S3 => ?_
  refine p_allA in101 S3 fun b4 w5 S6 => ?_
  refine wp_nil ?_
  refine c_seq ?_
  refine reg ?_
  refine o_fun (rfl : _ = []) (rfl : _ = [P b1 0]) ?_
  refine p_bld (cs := [Value.func (.func 94) #[] #[P b1 0]]) st101 (rfl : _ = [(0, Value.func (.func 94) #[] #[P b1 0])]) (by kernel_rfl) ?_
  refine p_stP (pre := []) (old := [Value.nilFunc]) (post := []) (vs := [Value.func (.func 94) #[] #[P b1 0]]) sz101 S6 (i := 0) rfl rfl rfl rfl (rfl : _ = AG [Value.func (.func 94) #[] #[P b1 0]]) rfl rfl rfl rfl fun w7 S8 => ?_
  refine wp_nil ?_
  obtain rfl := Option.some.inj H
  refine c_ret ?_; show bodyPostM (Fr none) 0 Tryd.prog Tryd.f77 _ .ret _ _
  refine ret_of (res1 rfl (rvA rfl ty101 sz101 (S8.atX (i := 0) rfl) rfl)) ?_
  exact ⟨_, rfl, b1, rfl, S8.keep, ⟨S8.atX (i := 1) rfl, S8.newX (i := 1) rfl⟩, trivial⟩

def coal_Heap (a0 : CoalBook) (a1 : Int) : Option (Span × Int) :=
  (coal_isDay a0 a1).bind fun r16 =>
  (coal_asked a0 r16).bind fun r22 =>
  bif (r22.2 != 0) then (some ((Span.mk 0 0), r22.2))
  else ((coal_coal a1).bind fun r98 =>
  (coal_book_span r22.1 (Coal_number.mk (fun y109 => coal_coal_1 y109 a1))).bind fun r110 =>
  some (r110, 0))

set_option maxRecDepth 100000 in
theorem coal_Heap_ok {a0 : CoalBook} {a1 : Int} {A1 : Option Addr} {c2 : Nat} {A4 : Option Addr} {c5 : Nat} {w : World} {r : Span × Int} (H : coal_Heap a0 a1 = some r) (h3 : (rd eCoalDay 3 A1 c2 a0.Days).ok w) (h6 : (rd eCoalDip 3 A4 c5 a0.Dips).ok w) (hg7 : (bl 1 [I (-1), I (-1)] 123).ok w) : Calls Tryd.prog 28 #[AG ([I a0.Heap.Low, I a0.Heap.High] ++ (sgE eSpan a0.Eats 2 ++ (sg a0.Extra 3 ++ [SL A1 a0.Days.length c2, I a0.Collier.Low, I a0.Collier.High, I a0.Brings, SL A4 a0.Dips.length c5]))), I a1] w (RetV w (TU [AG [I r.1.Low, I r.1.High], I r.2])) := by
  unfold coal_Heap at H
  refine fn_of (n := 24) Tryd.func28 rfl rfl (Nat.le_of_ble_eq_true rfl) ?_
  have S : St w (fun _ => False) w [] [rd eCoalDay 3 A1 c2 a0.Days, rd eCoalDip 3 A4 c5 a0.Dips, bl 1 [I (-1), I (-1)] 123] := St.start w _ _ (List.forall_mem_cons.2 ⟨h3, (List.forall_mem_cons.2 ⟨h6, (List.forall_mem_cons.2 ⟨hg7, (fun _ h_ => (List.not_mem_nil h_).elim)⟩)⟩)⟩)
  refine c_seq ?_
  refine reg ?_
  refine p_boxA rfl S fun b8 w9 S10 => ?_
  refine p_allA in23 S10 fun b11 w12 S13 => ?_
  refine p_aI rfl ?_
  refine wp_nil ?_
  refine c_seq ?_
  obtain ⟨r16, h17, H⟩ := bindS H
  obtain ⟨r22, h23, H⟩ := bindS H
  refine reg_fl mixed 9 7 (by kernel_rfl) [rv (AG ([I a0.Heap.Low, I a0.Heap.High] ++ (sgE eSpan a0.Eats 2 ++ (sg a0.Extra 3 ++ [SL A1 a0.Days.length c2, I a0.Collier.Low, I a0.Collier.High, I a0.Brings, SL A4 a0.Dips.length c5])))), rv (AG ([I a0.Heap.Low, I a0.Heap.High] ++ (sgE eSpan a0.Eats 2 ++ (sg a0.Extra 3 ++ [SL A1 a0.Days.length c2, I a0.Collier.Low, I a0.Collier.High, I a0.Brings, SL A4 a0.Dips.length c5])))), rv (I a1), rv (B r16), rx (α := (Option Addr) × Nat × (Option Addr) × Nat × (Option Nat)) (fun ⟨A26, c27, A28, c29, m30⟩ => TU [AG ([I r22.1.CoalBook.Heap.Low, I r22.1.CoalBook.Heap.High] ++ (sgE eSpan r22.1.CoalBook.Eats 2 ++ (sg r22.1.CoalBook.Extra 3 ++ [SL A26 r22.1.CoalBook.Days.length c27, I r22.1.CoalBook.Collier.Low, I r22.1.CoalBook.Collier.High, I r22.1.CoalBook.Brings, SL A28 r22.1.CoalBook.Dips.length c29, Value.map m30]))), I r22.2]) (fun ⟨A26, c27, A28, c29, m30⟩ lo hi => BtwL lo hi [rd eCoalDay 3 A1 c2 a0.Days, rd eCoalDip 3 A4 c5 a0.Dips] (rd eCoalDay 3 A26 c27 r22.1.CoalBook.Days) ∧ BtwL lo hi [] (rd eCoalDip 3 A28 c29 r22.1.CoalBook.Dips) ∧ BtwL lo hi [] (mpo ekG iE m30 r22.1.costs_) ∧ True) (fun ⟨A26, c27, A28, c29, m30⟩ => [rd eCoalDay 3 A26 c27 r22.1.CoalBook.Days, rd eCoalDip 3 A28 c29 r22.1.CoalBook.Dips, mpo ekG iE m30 r22.1.costs_]), dv 13 some, dv 8 (exG 0), dv 8 (exG 1), rx (α := Nat) (fun b49 => P b49 0) (fun b49 lo hi => BtwL lo hi [] (bl b49 ([I 0, I 0, I 0, I 0, I 0, I 0] ++ (sg (List.replicate 3 0) 3 ++ [SL none 0 0, I 0, I 0, I 0, SL none 0 0, Value.map none])) 92) ∧ True) (fun b49 => [bl b49 ([I 0, I 0, I 0, I 0, I 0, I 0] ++ (sg (List.replicate 3 0) 3 ++ [SL none 0 0, I 0, I 0, I 0, SL none 0 0, Value.map none])) 92])] [[], [], [], [], [], [13], [8], [8], []] rfl (by kernel_rfl) [[], [], [], [1, 2], [0, 1, 2, 3], [0, 1, 2, 3, 4], [0, 1, 2, 3, 4, 5], [0, 1, 2, 3, 4, 5], [], [0, 1, 2, 3, 4, 5, 6, 8], [0, 1, 2, 3, 4, 5, 6, 7, 8, 9]] (by kernel_rfl) ⟨?_, ?_, ?_, ?_, ?_, ?_, ?_, ?_, ?_, trivial⟩ ?_ ?_
  · intro e_ w_ k_ hf_ hR_
    have S_ : St w_ (fun _ => False) w_ [] [bl b11 [I 0, I 0] 23, bl b8 ([I a0.Heap.Low, I a0.Heap.High] ++ (sgE eSpan a0.Eats 2 ++ (sg a0.Extra 3 ++ [SL A1 a0.Days.length c2, I a0.Collier.Low, I a0.Collier.High, I a0.Brings, SL A4 a0.Dips.length c5]))) 29, rd eCoalDay 3 A1 c2 a0.Days, rd eCoalDip 3 A4 c5 a0.Dips, bl 1 [I (-1), I (-1)] 123] := S13.asP k_
    refine hopE [(2, P b8 0)] ⟨((hf_ 2 rfl).trans (rfl : _ = P b8 0)), trivial⟩ ?_
    refine p_ldA ty29 sz29 (S_.atP (i := 1) rfl) rfl rfl ?_
    refine wp_nil ?_
    exact ⟨_, rfl, S_.keep, rfl⟩
  · intro e_ w_ k_ hf_ hR_
    have S_ : St w_ (fun _ => False) w_ [] [bl b11 [I 0, I 0] 23, bl b8 ([I a0.Heap.Low, I a0.Heap.High] ++ (sgE eSpan a0.Eats 2 ++ (sg a0.Extra 3 ++ [SL A1 a0.Days.length c2, I a0.Collier.Low, I a0.Collier.High, I a0.Brings, SL A4 a0.Dips.length c5]))) 29, rd eCoalDay 3 A1 c2 a0.Days, rd eCoalDip 3 A4 c5 a0.Dips, bl 1 [I (-1), I (-1)] 123] := S13.asP k_
    refine hopE [(2, P b8 0)] ⟨((hf_ 2 rfl).trans (rfl : _ = P b8 0)), trivial⟩ ?_
    refine p_ldA ty29 sz29 (S_.atP (i := 1) rfl) rfl rfl ?_
    refine wp_nil ?_
    exact ⟨_, rfl, S_.keep, rfl⟩
  · intro e_ w_ k_ hf_ hR_
    have S_ : St w_ (fun _ => False) w_ [] [bl b11 [I 0, I 0] 23, bl b8 ([I a0.Heap.Low, I a0.Heap.High] ++ (sgE eSpan a0.Eats 2 ++ (sg a0.Extra 3 ++ [SL A1 a0.Days.length c2, I a0.Collier.Low, I a0.Collier.High, I a0.Brings, SL A4 a0.Dips.length c5]))) 29, rd eCoalDay 3 A1 c2 a0.Days, rd eCoalDip 3 A4 c5 a0.Dips, bl 1 [I (-1), I (-1)] 123] := S13.asP k_
    refine hopE [(1, I a1)] ⟨((hf_ 1 rfl).trans (rfl : _ = I a1)), trivial⟩ ?_
    refine p_mI rfl ?_
    refine wp_nil ?_
    exact ⟨_, rfl, S_.keep, rfl⟩
  · intro e_ w_ k_ hf_ hR_
    have S_ : St w_ (fun _ => False) w_ [] [bl b11 [I 0, I 0] 23, bl b8 ([I a0.Heap.Low, I a0.Heap.High] ++ (sgE eSpan a0.Eats 2 ++ (sg a0.Extra 3 ++ [SL A1 a0.Days.length c2, I a0.Collier.Low, I a0.Collier.High, I a0.Brings, SL A4 a0.Dips.length c5]))) 29, rd eCoalDay 3 A1 c2 a0.Days, rd eCoalDip 3 A4 c5 a0.Dips, bl 1 [I (-1), I (-1)] 123] := S13.asP k_
    obtain ⟨_, _, _, _, q14⟩ := hR_ 1 10 rfl (Nat.le_of_ble_eq_true rfl) rfl
    obtain ⟨_, _, _, _, q15⟩ := hR_ 2 11 rfl (Nat.le_of_ble_eq_true rfl) rfl
    refine hopE [(10, AG ([I a0.Heap.Low, I a0.Heap.High] ++ (sgE eSpan a0.Eats 2 ++ (sg a0.Extra 3 ++ [SL A1 a0.Days.length c2, I a0.Collier.Low, I a0.Collier.High, I a0.Brings, SL A4 a0.Dips.length c5])))), (11, I a1)] ⟨q14, q15, trivial⟩ ?_
    refine p_cv (coal_isDay_ok h17 (S_.atP (i := 2) rfl) (S_.atP (i := 3) rfl)) fu75 rfl S_ fun w18 S19 => ?_
    refine wp_nil ?_
    exact ⟨_, rfl, S19.keep, rfl⟩
  · intro e_ w_ k_ hf_ hR_
    have S_ : St w_ (fun _ => False) w_ [] [bl b11 [I 0, I 0] 23, bl b8 ([I a0.Heap.Low, I a0.Heap.High] ++ (sgE eSpan a0.Eats 2 ++ (sg a0.Extra 3 ++ [SL A1 a0.Days.length c2, I a0.Collier.Low, I a0.Collier.High, I a0.Brings, SL A4 a0.Dips.length c5]))) 29, rd eCoalDay 3 A1 c2 a0.Days, rd eCoalDip 3 A4 c5 a0.Dips, bl 1 [I (-1), I (-1)] 123] := S13.asP k_
    obtain ⟨_, _, _, _, q20⟩ := hR_ 0 9 rfl (Nat.le_of_ble_eq_true rfl) rfl
    obtain ⟨_, _, _, _, q21⟩ := hR_ 3 12 rfl (Nat.le_of_ble_eq_true rfl) rfl
    refine hopE [(9, AG ([I a0.Heap.Low, I a0.Heap.High] ++ (sgE eSpan a0.Eats 2 ++ (sg a0.Extra 3 ++ [SL A1 a0.Days.length c2, I a0.Collier.Low, I a0.Collier.High, I a0.Brings, SL A4 a0.Dips.length c5])))), (12, B r16)] ⟨q20, q21, trivial⟩ ?_
    refine p_cal (coal_asked_ok h23 (S_.atP (i := 2) rfl) (S_.atP (i := 3) rfl) (S_.atP (i := 4) rfl)) fu74 rfl ?_
    rintro _ w24 ⟨A26, c27, A28, c29, m30, rfl, k25, ⟨o31, n32⟩, ⟨o33, n34⟩, ⟨o35, n36⟩, _⟩
    have S37 := S_.callN k25 [rd eCoalDay 3 A26 c27 r22.1.CoalBook.Days, rd eCoalDip 3 A28 c29 r22.1.CoalBook.Dips, mpo ekG iE m30 r22.1.costs_] (List.forall_mem_cons.2 ⟨⟨o31, Al.inL n32 ((List.forall_mem_cons.2 ⟨(fp_mem (i := 2) rfl), (List.forall_mem_cons.2 ⟨(fp_mem (i := 3) rfl), (fun _ h_ => (List.not_mem_nil h_).elim)⟩)⟩))⟩, (List.forall_mem_cons.2 ⟨⟨o33, New.inL n34⟩, (List.forall_mem_cons.2 ⟨⟨o35, New.inL n36⟩, (fun _ h_ => (List.not_mem_nil h_).elim)⟩)⟩)⟩)
    refine wp_nil ?_
    exact ⟨_, rfl, S37.keep, ⟨(A26, c27, A28, c29, m30), rfl, ⟨BtwL.of n32 rfl (S37.atP (i := 0) rfl) rfl, BtwL.of (New.al (New.mono n34 S_.keep.size)) rfl (S37.atP (i := 1) rfl) rfl, BtwL.of (New.al (New.mono n36 S_.keep.size)) rfl (S37.atP (i := 2) rfl) rfl, trivial⟩, (List.forall_mem_cons.2 ⟨(S37.atP (i := 0) rfl), (List.forall_mem_cons.2 ⟨(S37.atP (i := 1) rfl), (List.forall_mem_cons.2 ⟨(S37.atP (i := 2) rfl), (fun _ h_ => (List.not_mem_nil h_).elim)⟩)⟩)⟩)⟩⟩
  · intro e_ w_ k_ hf_ hR_
    have S_ : St w_ (fun _ => False) w_ [] [bl b11 [I 0, I 0] 23, bl b8 ([I a0.Heap.Low, I a0.Heap.High] ++ (sgE eSpan a0.Eats 2 ++ (sg a0.Extra 3 ++ [SL A1 a0.Days.length c2, I a0.Collier.Low, I a0.Collier.High, I a0.Brings, SL A4 a0.Dips.length c5]))) 29, rd eCoalDay 3 A1 c2 a0.Days, rd eCoalDip 3 A4 c5 a0.Dips, bl 1 [I (-1), I (-1)] 123] := S13.asP k_
    obtain ⟨_, _, _, _, ⟨A26, c27, A28, c29, m30⟩, q38, p39, a40⟩ := hR_ 4 13 rfl (Nat.le_of_ble_eq_true rfl) rfl
    replace q38 : e_ 13 = TU [AG ([I r22.1.CoalBook.Heap.Low, I r22.1.CoalBook.Heap.High] ++ (sgE eSpan r22.1.CoalBook.Eats 2 ++ (sg r22.1.CoalBook.Extra 3 ++ [SL A26 r22.1.CoalBook.Days.length c27, I r22.1.CoalBook.Collier.Low, I r22.1.CoalBook.Collier.High, I r22.1.CoalBook.Brings, SL A28 r22.1.CoalBook.Dips.length c29, Value.map m30]))), I r22.2] := q38
    have S_ := St.addL' S_ (a40 _ (.head _)) (fun _ _ _ h_ => (List.not_mem_nil h_).elim)
    have S_ := St.addL' S_ (a40 _ (.tail _ (.head _))) (fun _ _ _ h_ => (List.not_mem_nil h_).elim)
    have S_ := St.addL' S_ (a40 _ (.tail _ (.tail _ (.head _)))) (fun _ _ _ h_ => (List.not_mem_nil h_).elim)
    refine hopE [(13, TU [AG ([I r22.1.CoalBook.Heap.Low, I r22.1.CoalBook.Heap.High] ++ (sgE eSpan r22.1.CoalBook.Eats 2 ++ (sg r22.1.CoalBook.Extra 3 ++ [SL A26 r22.1.CoalBook.Days.length c27, I r22.1.CoalBook.Collier.Low, I r22.1.CoalBook.Collier.High, I r22.1.CoalBook.Brings, SL A28 r22.1.CoalBook.Dips.length c29, Value.map m30]))), I r22.2])] ⟨q38, trivial⟩ ?_
    refine p_mT rfl ?_
    refine wp_nil ?_
    exact ⟨_, rfl, S_.keep, rfl⟩
  · intro e_ w_ k_ hf_ hR_
    have S_ : St w_ (fun _ => False) w_ [] [bl b11 [I 0, I 0] 23, bl b8 ([I a0.Heap.Low, I a0.Heap.High] ++ (sgE eSpan a0.Eats 2 ++ (sg a0.Extra 3 ++ [SL A1 a0.Days.length c2, I a0.Collier.Low, I a0.Collier.High, I a0.Brings, SL A4 a0.Dips.length c5]))) 29, rd eCoalDay 3 A1 c2 a0.Days, rd eCoalDip 3 A4 c5 a0.Dips, bl 1 [I (-1), I (-1)] 123] := S13.asP k_
    obtain ⟨_, _, _, _, ⟨A26, c27, A28, c29, m30⟩, q42, p43, a44⟩ := hR_ 4 13 rfl (Nat.le_of_ble_eq_true rfl) rfl
    replace q42 : e_ 13 = TU [AG ([I r22.1.CoalBook.Heap.Low, I r22.1.CoalBook.Heap.High] ++ (sgE eSpan r22.1.CoalBook.Eats 2 ++ (sg r22.1.CoalBook.Extra 3 ++ [SL A26 r22.1.CoalBook.Days.length c27, I r22.1.CoalBook.Collier.Low, I r22.1.CoalBook.Collier.High, I r22.1.CoalBook.Brings, SL A28 r22.1.CoalBook.Dips.length c29, Value.map m30]))), I r22.2] := q42
    have S_ := St.addL' S_ (a44 _ (.head _)) (fun _ _ _ h_ => (List.not_mem_nil h_).elim)
    have S_ := St.addL' S_ (a44 _ (.tail _ (.head _))) (fun _ _ _ h_ => (List.not_mem_nil h_).elim)
    have S_ := St.addL' S_ (a44 _ (.tail _ (.tail _ (.head _)))) (fun _ _ _ h_ => (List.not_mem_nil h_).elim)
    obtain ⟨_, _, _, _, q41⟩ := hR_ 5 8 rfl (Nat.le_of_ble_eq_true rfl) rfl
    replace q41 : e_ 8 = TU [AG ([I r22.1.CoalBook.Heap.Low, I r22.1.CoalBook.Heap.High] ++ (sgE eSpan r22.1.CoalBook.Eats 2 ++ (sg r22.1.CoalBook.Extra 3 ++ [SL A26 r22.1.CoalBook.Days.length c27, I r22.1.CoalBook.Collier.Low, I r22.1.CoalBook.Collier.High, I r22.1.CoalBook.Brings, SL A28 r22.1.CoalBook.Dips.length c29, Value.map m30]))), I r22.2] := (Option.some.inj ((congrArg some q42).symm.trans q41)).symm
    refine hopE [(8, TU [AG ([I r22.1.CoalBook.Heap.Low, I r22.1.CoalBook.Heap.High] ++ (sgE eSpan r22.1.CoalBook.Eats 2 ++ (sg r22.1.CoalBook.Extra 3 ++ [SL A26 r22.1.CoalBook.Days.length c27, I r22.1.CoalBook.Collier.Low, I r22.1.CoalBook.Collier.High, I r22.1.CoalBook.Brings, SL A28 r22.1.CoalBook.Dips.length c29, Value.map m30]))), I r22.2])] ⟨q41, trivial⟩ ?_
    refine p_ext rfl rfl ?_
    refine wp_nil ?_
    exact ⟨_, rfl, S_.keep, rfl⟩
  · intro e_ w_ k_ hf_ hR_
    have S_ : St w_ (fun _ => False) w_ [] [bl b11 [I 0, I 0] 23, bl b8 ([I a0.Heap.Low, I a0.Heap.High] ++ (sgE eSpan a0.Eats 2 ++ (sg a0.Extra 3 ++ [SL A1 a0.Days.length c2, I a0.Collier.Low, I a0.Collier.High, I a0.Brings, SL A4 a0.Dips.length c5]))) 29, rd eCoalDay 3 A1 c2 a0.Days, rd eCoalDip 3 A4 c5 a0.Dips, bl 1 [I (-1), I (-1)] 123] := S13.asP k_
    obtain ⟨_, _, _, _, ⟨A26, c27, A28, c29, m30⟩, q46, p47, a48⟩ := hR_ 4 13 rfl (Nat.le_of_ble_eq_true rfl) rfl
    replace q46 : e_ 13 = TU [AG ([I r22.1.CoalBook.Heap.Low, I r22.1.CoalBook.Heap.High] ++ (sgE eSpan r22.1.CoalBook.Eats 2 ++ (sg r22.1.CoalBook.Extra 3 ++ [SL A26 r22.1.CoalBook.Days.length c27, I r22.1.CoalBook.Collier.Low, I r22.1.CoalBook.Collier.High, I r22.1.CoalBook.Brings, SL A28 r22.1.CoalBook.Dips.length c29, Value.map m30]))), I r22.2] := q46
    have S_ := St.addL' S_ (a48 _ (.head _)) (fun _ _ _ h_ => (List.not_mem_nil h_).elim)
    have S_ := St.addL' S_ (a48 _ (.tail _ (.head _))) (fun _ _ _ h_ => (List.not_mem_nil h_).elim)
    have S_ := St.addL' S_ (a48 _ (.tail _ (.tail _ (.head _)))) (fun _ _ _ h_ => (List.not_mem_nil h_).elim)
    obtain ⟨_, _, _, _, q45⟩ := hR_ 5 8 rfl (Nat.le_of_ble_eq_true rfl) rfl
    replace q45 : e_ 8 = TU [AG ([I r22.1.CoalBook.Heap.Low, I r22.1.CoalBook.Heap.High] ++ (sgE eSpan r22.1.CoalBook.Eats 2 ++ (sg r22.1.CoalBook.Extra 3 ++ [SL A26 r22.1.CoalBook.Days.length c27, I r22.1.CoalBook.Collier.Low, I r22.1.CoalBook.Collier.High, I r22.1.CoalBook.Brings, SL A28 r22.1.CoalBook.Dips.length c29, Value.map m30]))), I r22.2] := (Option.some.inj ((congrArg some q46).symm.trans q45)).symm
    refine hopE [(8, TU [AG ([I r22.1.CoalBook.Heap.Low, I r22.1.CoalBook.Heap.High] ++ (sgE eSpan r22.1.CoalBook.Eats 2 ++ (sg r22.1.CoalBook.Extra 3 ++ [SL A26 r22.1.CoalBook.Days.length c27, I r22.1.CoalBook.Collier.Low, I r22.1.CoalBook.Collier.High, I r22.1.CoalBook.Brings, SL A28 r22.1.CoalBook.Dips.length c29, Value.map m30]))), I r22.2])] ⟨q45, trivial⟩ ?_
    refine p_ext rfl rfl ?_
    refine wp_nil ?_
    exact ⟨_, rfl, S_.keep, rfl⟩
  · intro e_ w_ k_ hf_ hR_
    have S_ : St w_ (fun _ => False) w_ [] [bl b11 [I 0, I 0] 23, bl b8 ([I a0.Heap.Low, I a0.Heap.High] ++ (sgE eSpan a0.Eats 2 ++ (sg a0.Extra 3 ++ [SL A1 a0.Days.length c2, I a0.Collier.Low, I a0.Collier.High, I a0.Brings, SL A4 a0.Dips.length c5]))) 29, rd eCoalDay 3 A1 c2 a0.Days, rd eCoalDip 3 A4 c5 a0.Dips, bl 1 [I (-1), I (-1)] 123] := S13.asP k_
    refine hopE [] trivial ?_
    refine p_allA in92 S_ fun b49 w50 S51 => ?_
    refine wp_nil ?_
    exact ⟨_, rfl, S51.keep, ⟨b49, rfl, ⟨BtwL.of (New.al (S51.newX (i := 0) rfl)) rfl (S51.atX (i := 0) rfl) rfl, trivial⟩, (List.forall_mem_cons.2 ⟨(S51.atX (i := 0) rfl), (fun _ h_ => (List.not_mem_nil h_).elim)⟩)⟩⟩
  · intro e52 w53 lo54 hi55 k56 hf57 hR58 hd59
    have S60 := S13.call k56
    have q61 : e52 9 = AG ([I a0.Heap.Low, I a0.Heap.High] ++ (sgE eSpan a0.Eats 2 ++ (sg a0.Extra 3 ++ [SL A1 a0.Days.length c2, I a0.Collier.Low, I a0.Collier.High, I a0.Brings, SL A4 a0.Dips.length c5]))) := (hR58 0 9 (Nat.le_of_ble_eq_true rfl) rfl).2.2.2
    have q62 : e52 10 = AG ([I a0.Heap.Low, I a0.Heap.High] ++ (sgE eSpan a0.Eats 2 ++ (sg a0.Extra 3 ++ [SL A1 a0.Days.length c2, I a0.Collier.Low, I a0.Collier.High, I a0.Brings, SL A4 a0.Dips.length c5]))) := (hR58 1 10 (Nat.le_of_ble_eq_true rfl) rfl).2.2.2
    have q63 : e52 11 = I a1 := (hR58 2 11 (Nat.le_of_ble_eq_true rfl) rfl).2.2.2
    have q64 : e52 12 = B r16 := (hR58 3 12 (Nat.le_of_ble_eq_true rfl) rfl).2.2.2
    obtain ⟨h66, h67, h68, ⟨A26, c27, A28, c29, m30⟩, q65, h69, h70⟩ := hR58 4 13 (Nat.le_of_ble_eq_true rfl) rfl
    replace q65 : e52 13 = TU [AG ([I r22.1.CoalBook.Heap.Low, I r22.1.CoalBook.Heap.High] ++ (sgE eSpan r22.1.CoalBook.Eats 2 ++ (sg r22.1.CoalBook.Extra 3 ++ [SL A26 r22.1.CoalBook.Days.length c27, I r22.1.CoalBook.Collier.Low, I r22.1.CoalBook.Collier.High, I r22.1.CoalBook.Brings, SL A28 r22.1.CoalBook.Dips.length c29, Value.map m30]))), I r22.2] := q65
    obtain ⟨p71, p72, p73, _⟩ := h69
    have S74 := St.addR S60 (h70 _ (.head _)) (fun b_ h_ x_ hx_ hb_ => (p71 b_ h_).elim (fun q_ => by have := x_.inb _ _ (S13.xs x_ hx_) hb_; omega) (fun ⟨q_, hq_, hqb_⟩ => S13.dp x_ hx_ q_ ((List.forall_mem_cons.2 ⟨List.mem_of_getElem? (i := 0) rfl, (List.forall_mem_cons.2 ⟨List.mem_of_getElem? (i := 1) rfl, (fun _ h_ => (List.not_mem_nil h_).elim)⟩)⟩) q_ hq_) b_ hb_ hqb_))
    have S75 := St.addR S74 (h70 _ (.tail _ (.head _))) (fun b_ h_ x_ hx_ hb_ => (p72 b_ h_).elim (fun q_ => by have := x_.inb _ _ (S13.xs x_ hx_) hb_; omega) (fun ⟨q_, hq_, hqb_⟩ => S13.dp x_ hx_ q_ (((fun _ h_ => (List.not_mem_nil h_).elim)) q_ hq_) b_ hb_ hqb_))
    have S76 := St.addR S75 (h70 _ (.tail _ (.tail _ (.head _)))) (fun b_ h_ x_ hx_ hb_ => (p73 b_ h_).elim (fun q_ => by have := x_.inb _ _ (S13.xs x_ hx_) hb_; omega) (fun ⟨q_, hq_, hqb_⟩ => S13.dp x_ hx_ q_ (((fun _ h_ => (List.not_mem_nil h_).elim)) q_ hq_) b_ hb_ hqb_))
    have q77 : e52 8 = TU [AG ([I r22.1.CoalBook.Heap.Low, I r22.1.CoalBook.Heap.High] ++ (sgE eSpan r22.1.CoalBook.Eats 2 ++ (sg r22.1.CoalBook.Extra 3 ++ [SL A26 r22.1.CoalBook.Days.length c27, I r22.1.CoalBook.Collier.Low, I r22.1.CoalBook.Collier.High, I r22.1.CoalBook.Brings, SL A28 r22.1.CoalBook.Dips.length c29, Value.map m30]))), I r22.2] := (Option.some.inj ((congrArg some q65).symm.trans (hR58 5 8 (Nat.le_of_ble_eq_true rfl) rfl).2.2.2)).symm
    have q78 : e52 14 = AG ([I r22.1.CoalBook.Heap.Low, I r22.1.CoalBook.Heap.High] ++ (sgE eSpan r22.1.CoalBook.Eats 2 ++ (sg r22.1.CoalBook.Extra 3 ++ [SL A26 r22.1.CoalBook.Days.length c27, I r22.1.CoalBook.Collier.Low, I r22.1.CoalBook.Collier.High, I r22.1.CoalBook.Brings, SL A28 r22.1.CoalBook.Dips.length c29, Value.map m30]))) := (Option.some.inj ((congrArg (exG 0) q77).symm.trans (hR58 6 14 (Nat.le_of_ble_eq_true rfl) rfl).2.2.2)).symm
    have q79 : e52 15 = I r22.2 := (Option.some.inj ((congrArg (exG 1) q77).symm.trans (hR58 7 15 (Nat.le_of_ble_eq_true rfl) rfl).2.2.2)).symm
    obtain ⟨h81, h82, h83, b49, q80, h84, h85⟩ := hR58 8 6 (Nat.le_of_ble_eq_true rfl) rfl
    replace q80 : e52 6 = P b49 0 := q80
    obtain ⟨p86, _⟩ := h84
    have S88 := St.addO S76 (h85 _ (.head _)) (fun b_ h_ => (p86 b_ h_).elim (fun q_ => Nat.le_trans S13.keep.size (Nat.le_trans h81 q_.1)) (fun ⟨_, hq_, _⟩ => (List.not_mem_nil hq_).elim)) (List.forall_mem_cons.2 ⟨(fun b_ h1_ h2_ => (p86 b_ h1_).elim (fun q2_ => by have q1_ := Asr.inb _ _ _ (S13.atX (i := 0) rfl) h2_; omega) (fun ⟨_, hq_, _⟩ => (List.not_mem_nil hq_).elim)), (List.forall_mem_cons.2 ⟨(fun b_ h1_ h2_ => (p86 b_ h1_).elim (fun q2_ => by have q1_ := Asr.inb _ _ _ (S13.atX (i := 1) rfl) h2_; omega) (fun ⟨_, hq_, _⟩ => (List.not_mem_nil hq_).elim)), (fun _ h_ => (List.not_mem_nil h_).elim)⟩)⟩) (List.forall_mem_cons.2 ⟨(fun b_ h1_ h2_ => (p86 b_ h1_).elim (fun q1_ => (p73 b_ h2_).elim (fun q2_ => by have q3_ := hd59 8 4 (Nat.le_of_ble_eq_true rfl) (Nat.le_of_ble_eq_true rfl) (by decide); omega) (fun ⟨q_, hq_, hqb_⟩ => by have q5_ := h81; have q4_ := Asr.inb _ _ _ (S13.ps q_ (((fun _ h_ => (List.not_mem_nil h_).elim)) q_ hq_)) hqb_; omega)) (fun ⟨_, hq_, _⟩ => (List.not_mem_nil hq_).elim)), (List.forall_mem_cons.2 ⟨(fun b_ h1_ h2_ => (p86 b_ h1_).elim (fun q1_ => (p72 b_ h2_).elim (fun q2_ => by have q3_ := hd59 8 4 (Nat.le_of_ble_eq_true rfl) (Nat.le_of_ble_eq_true rfl) (by decide); omega) (fun ⟨q_, hq_, hqb_⟩ => by have q5_ := h81; have q4_ := Asr.inb _ _ _ (S13.ps q_ (((fun _ h_ => (List.not_mem_nil h_).elim)) q_ hq_)) hqb_; omega)) (fun ⟨_, hq_, _⟩ => (List.not_mem_nil hq_).elim)), (List.forall_mem_cons.2 ⟨(fun b_ h1_ h2_ => (p86 b_ h1_).elim (fun q1_ => (p71 b_ h2_).elim (fun q2_ => by have q3_ := hd59 8 4 (Nat.le_of_ble_eq_true rfl) (Nat.le_of_ble_eq_true rfl) (by decide); omega) (fun ⟨q_, hq_, hqb_⟩ => by have q5_ := h81; have q4_ := Asr.inb _ _ _ (S13.ps q_ ((List.forall_mem_cons.2 ⟨List.mem_of_getElem? (i := 0) rfl, (List.forall_mem_cons.2 ⟨List.mem_of_getElem? (i := 1) rfl, (fun _ h_ => (List.not_mem_nil h_).elim)⟩)⟩) q_ hq_)) hqb_; omega)) (fun ⟨_, hq_, _⟩ => (List.not_mem_nil hq_).elim)), (List.forall_mem_cons.2 ⟨(fun b_ h1_ h2_ => (p86 b_ h1_).elim (fun q2_ => by have q1_ := Asr.inb _ _ _ (S13.atP (i := 0) rfl) h2_; omega) (fun ⟨_, hq_, _⟩ => (List.not_mem_nil hq_).elim)), (List.forall_mem_cons.2 ⟨(fun b_ h1_ h2_ => (p86 b_ h1_).elim (fun q2_ => by have q1_ := Asr.inb _ _ _ (S13.atP (i := 1) rfl) h2_; omega) (fun ⟨_, hq_, _⟩ => (List.not_mem_nil hq_).elim)), (List.forall_mem_cons.2 ⟨(fun b_ h1_ h2_ => (p86 b_ h1_).elim (fun q2_ => by have q1_ := Asr.inb _ _ _ (S13.atP (i := 2) rfl) h2_; omega) (fun ⟨_, hq_, _⟩ => (List.not_mem_nil hq_).elim)), (fun _ h_ => (List.not_mem_nil h_).elim)⟩)⟩)⟩)⟩)⟩)⟩)
    refine tailE [(1, I a1), (4, P b11 0), (6, P b49 0), (14, AG ([I r22.1.CoalBook.Heap.Low, I r22.1.CoalBook.Heap.High] ++ (sgE eSpan r22.1.CoalBook.Eats 2 ++ (sg r22.1.CoalBook.Extra 3 ++ [SL A26 r22.1.CoalBook.Days.length c27, I r22.1.CoalBook.Collier.Low, I r22.1.CoalBook.Collier.High, I r22.1.CoalBook.Brings, SL A28 r22.1.CoalBook.Dips.length c29, Value.map m30])))), (15, I r22.2)] ⟨((hf57 1 rfl).trans (rfl : _ = I a1)), ((hf57 4 rfl).trans (rfl : _ = P b11 0)), q80, q78, q79, trivial⟩ ?_
    intro g89
    refine p_stP (pre := []) (old := [I 0, I 0, I 0, I 0, I 0, I 0] ++ (sg (List.replicate 3 0) 3 ++ [SL none 0 0, I 0, I 0, I 0, SL none 0 0, Value.map none])) (post := []) (vs := [I r22.1.CoalBook.Heap.Low, I r22.1.CoalBook.Heap.High] ++ (sgE eSpan r22.1.CoalBook.Eats 2 ++ (sg r22.1.CoalBook.Extra 3 ++ [SL A26 r22.1.CoalBook.Days.length c27, I r22.1.CoalBook.Collier.Low, I r22.1.CoalBook.Collier.High, I r22.1.CoalBook.Brings, SL A28 r22.1.CoalBook.Dips.length c29, Value.map m30]))) sz92 S88 (i := 0) rfl rfl rfl rfl (rfl : _ = AG ([I r22.1.CoalBook.Heap.Low, I r22.1.CoalBook.Heap.High] ++ (sgE eSpan r22.1.CoalBook.Eats 2 ++ (sg r22.1.CoalBook.Extra 3 ++ [SL A26 r22.1.CoalBook.Days.length c27, I r22.1.CoalBook.Collier.Low, I r22.1.CoalBook.Collier.High, I r22.1.CoalBook.Brings, SL A28 r22.1.CoalBook.Dips.length c29, Value.map m30])))) rfl rfl rfl rfl fun w90 S91 => ?_
    refine p_aI rfl ?_
    refine wp_nil ?_
    refine c_seq ?_
    refine c_seq ?_
    refine reg ?_
    refine p_mI rfl ?_
    refine p_cmp rfl rfl rfl ?_
    refine wp_nil ?_
    refine c_cond rfl (fun c92 => ?_) (fun c92 => ?_)
    · replace H := condT c92 H
      refine c_seq ?_
      refine reg ?_
      refine p_bld (cs := [I 0, I 0]) st23 (rfl : _ = []) (by kernel_rfl) ?_
      refine p_mI rfl ?_
      refine p_stP (pre := []) (old := [I 0, I 0]) (post := []) (vs := [I 0, I 0]) sz23 S91 (i := 1) rfl rfl rfl rfl (rfl : _ = AG [I 0, I 0]) rfl rfl rfl rfl fun w93 S94 => ?_
      refine p_aI rfl ?_
      refine wp_nil ?_
      obtain rfl := Option.some.inj H
      refine c_ret ?_; show bodyPostM (Fr none) 0 Tryd.prog Tryd.f28 _ .ret _ _
      refine ret_of (res2 rfl (rvA rfl ty23 sz23 (S94.atX (i := 1) rfl) rfl) (rvT (rfl : _ = I r22.2))) ?_
      exact ⟨_, rfl, rfl, S94.keep⟩
    · replace H := condF c92 H
      refine c_skip ?_
      refine c_seq ?_
      refine reg_c mixed 4 [2, 3] (by kernel_rfl) ?_
      refine kS rfl (fun _ k_ => p_ldA ty92 sz92 (Asr.stays (S91.atX (i := 0) rfl) k_) rfl rfl dn) ?_
      refine kS rfl (fun _ k_ => p_mI rfl dn) ?_
      refine kC rfl ?_
      refine kC rfl ?_
      intro w95 k96; have S97 := S91.call k96
      obtain ⟨r98, h99, H⟩ := bindS H
      refine p_cal (coal_coal_ok h99) fu77 rfl ?_
      rintro _ w100 ⟨b102, rfl, k101, ⟨o103, n104⟩, _⟩
      have S105 := S97.addNew k101 o103 n104
      refine cN k101 fun w106 k107 => ?_
      have S108 := S105.call k107
      obtain ⟨r110, h111, H⟩ := bindS H
      refine p_cal (coal_book_span_ok h111 (S108.atP (i := 2) rfl) (S108.atP (i := 1) rfl) (S108.atP (i := 0) rfl) (by kernel_rfl) (fun _ _ _ k_ hr_ => coal_coal_1_ok hr_ (Asr.stays (S108.atX (i := 0) rfl) k_))) fu76 rfl ?_
      rintro _ w112 ⟨rfl, k113⟩; refine cN k113 fun w114 k115 => ?_
      have S116 := (S108.call k113).call k115
      refine p_stP (pre := []) (old := [I 0, I 0]) (post := []) (vs := [I r110.Low, I r110.High]) sz23 S116 (i := 2) rfl rfl rfl rfl (rfl : _ = AG [I r110.Low, I r110.High]) rfl rfl rfl rfl fun w117 S118 => ?_
      refine p_aI rfl ?_
      refine wp_nil ?_
      obtain rfl := Option.some.inj H
      refine c_ret ?_; show bodyPostM (Fr none) 0 Tryd.prog Tryd.f28 _ .ret _ _
      refine ret_of (res2 rfl (rvA rfl ty23 sz23 (S118.atX (i := 2) rfl) rfl) (rvT (rfl : _ = I 0))) ?_
      exact ⟨_, rfl, rfl, S118.keep⟩
  · intro e119 w120 lo121 hi122 k123 hf124 hR125 hd126
    have S127 := S13.call k123
    have q128 : e119 9 = AG ([I a0.Heap.Low, I a0.Heap.High] ++ (sgE eSpan a0.Eats 2 ++ (sg a0.Extra 3 ++ [SL A1 a0.Days.length c2, I a0.Collier.Low, I a0.Collier.High, I a0.Brings, SL A4 a0.Dips.length c5]))) := (hR125 0 9 (Nat.le_of_ble_eq_true rfl) (by decide) rfl).2.2.2
    have q129 : e119 10 = AG ([I a0.Heap.Low, I a0.Heap.High] ++ (sgE eSpan a0.Eats 2 ++ (sg a0.Extra 3 ++ [SL A1 a0.Days.length c2, I a0.Collier.Low, I a0.Collier.High, I a0.Brings, SL A4 a0.Dips.length c5]))) := (hR125 1 10 (Nat.le_of_ble_eq_true rfl) (by decide) rfl).2.2.2
    have q130 : e119 11 = I a1 := (hR125 2 11 (Nat.le_of_ble_eq_true rfl) (by decide) rfl).2.2.2
    have q131 : e119 12 = B r16 := (hR125 3 12 (Nat.le_of_ble_eq_true rfl) (by decide) rfl).2.2.2
    obtain ⟨h133, h134, h135, ⟨A26, c27, A28, c29, m30⟩, q132, h136, h137⟩ := hR125 4 13 (Nat.le_of_ble_eq_true rfl) (by decide) rfl
    replace q132 : e119 13 = TU [AG ([I r22.1.CoalBook.Heap.Low, I r22.1.CoalBook.Heap.High] ++ (sgE eSpan r22.1.CoalBook.Eats 2 ++ (sg r22.1.CoalBook.Extra 3 ++ [SL A26 r22.1.CoalBook.Days.length c27, I r22.1.CoalBook.Collier.Low, I r22.1.CoalBook.Collier.High, I r22.1.CoalBook.Brings, SL A28 r22.1.CoalBook.Dips.length c29, Value.map m30]))), I r22.2] := q132
    obtain ⟨p138, p139, p140, _⟩ := h136
    have S141 := St.addR S127 (h137 _ (.head _)) (fun b_ h_ x_ hx_ hb_ => (p138 b_ h_).elim (fun q_ => by have := x_.inb _ _ (S13.xs x_ hx_) hb_; omega) (fun ⟨q_, hq_, hqb_⟩ => S13.dp x_ hx_ q_ ((List.forall_mem_cons.2 ⟨List.mem_of_getElem? (i := 0) rfl, (List.forall_mem_cons.2 ⟨List.mem_of_getElem? (i := 1) rfl, (fun _ h_ => (List.not_mem_nil h_).elim)⟩)⟩) q_ hq_) b_ hb_ hqb_))
    have S142 := St.addR S141 (h137 _ (.tail _ (.head _))) (fun b_ h_ x_ hx_ hb_ => (p139 b_ h_).elim (fun q_ => by have := x_.inb _ _ (S13.xs x_ hx_) hb_; omega) (fun ⟨q_, hq_, hqb_⟩ => S13.dp x_ hx_ q_ (((fun _ h_ => (List.not_mem_nil h_).elim)) q_ hq_) b_ hb_ hqb_))
    have S143 := St.addR S142 (h137 _ (.tail _ (.tail _ (.head _)))) (fun b_ h_ x_ hx_ hb_ => (p140 b_ h_).elim (fun q_ => by have := x_.inb _ _ (S13.xs x_ hx_) hb_; omega) (fun ⟨q_, hq_, hqb_⟩ => S13.dp x_ hx_ q_ (((fun _ h_ => (List.not_mem_nil h_).elim)) q_ hq_) b_ hb_ hqb_))
    have q144 : e119 8 = TU [AG ([I r22.1.CoalBook.Heap.Low, I r22.1.CoalBook.Heap.High] ++ (sgE eSpan r22.1.CoalBook.Eats 2 ++ (sg r22.1.CoalBook.Extra 3 ++ [SL A26 r22.1.CoalBook.Days.length c27, I r22.1.CoalBook.Collier.Low, I r22.1.CoalBook.Collier.High, I r22.1.CoalBook.Brings, SL A28 r22.1.CoalBook.Dips.length c29, Value.map m30]))), I r22.2] := (Option.some.inj ((congrArg some q132).symm.trans (hR125 5 8 (Nat.le_of_ble_eq_true rfl) (by decide) rfl).2.2.2)).symm
    have q145 : e119 14 = AG ([I r22.1.CoalBook.Heap.Low, I r22.1.CoalBook.Heap.High] ++ (sgE eSpan r22.1.CoalBook.Eats 2 ++ (sg r22.1.CoalBook.Extra 3 ++ [SL A26 r22.1.CoalBook.Days.length c27, I r22.1.CoalBook.Collier.Low, I r22.1.CoalBook.Collier.High, I r22.1.CoalBook.Brings, SL A28 r22.1.CoalBook.Dips.length c29, Value.map m30]))) := (Option.some.inj ((congrArg (exG 0) q144).symm.trans (hR125 6 14 (Nat.le_of_ble_eq_true rfl) (by decide) rfl).2.2.2)).symm
    obtain ⟨h147, h148, h149, b49, q146, h150, h151⟩ := hR125 8 6 (Nat.le_of_ble_eq_true rfl) (by decide) rfl
    replace q146 : e119 6 = P b49 0 := q146
    obtain ⟨p152, _⟩ := h150
    have S154 := St.addO S143 (h151 _ (.head _)) (fun b_ h_ => (p152 b_ h_).elim (fun q_ => Nat.le_trans S13.keep.size (Nat.le_trans h147 q_.1)) (fun ⟨_, hq_, _⟩ => (List.not_mem_nil hq_).elim)) (List.forall_mem_cons.2 ⟨(fun b_ h1_ h2_ => (p152 b_ h1_).elim (fun q2_ => by have q1_ := Asr.inb _ _ _ (S13.atX (i := 0) rfl) h2_; omega) (fun ⟨_, hq_, _⟩ => (List.not_mem_nil hq_).elim)), (List.forall_mem_cons.2 ⟨(fun b_ h1_ h2_ => (p152 b_ h1_).elim (fun q2_ => by have q1_ := Asr.inb _ _ _ (S13.atX (i := 1) rfl) h2_; omega) (fun ⟨_, hq_, _⟩ => (List.not_mem_nil hq_).elim)), (fun _ h_ => (List.not_mem_nil h_).elim)⟩)⟩) (List.forall_mem_cons.2 ⟨(fun b_ h1_ h2_ => (p152 b_ h1_).elim (fun q1_ => (p140 b_ h2_).elim (fun q2_ => by have q3_ := hd126 8 4 (Nat.le_of_ble_eq_true rfl) (Nat.le_of_ble_eq_true rfl) (by decide) (by decide) (by decide); omega) (fun ⟨q_, hq_, hqb_⟩ => by have q5_ := h147; have q4_ := Asr.inb _ _ _ (S13.ps q_ (((fun _ h_ => (List.not_mem_nil h_).elim)) q_ hq_)) hqb_; omega)) (fun ⟨_, hq_, _⟩ => (List.not_mem_nil hq_).elim)), (List.forall_mem_cons.2 ⟨(fun b_ h1_ h2_ => (p152 b_ h1_).elim (fun q1_ => (p139 b_ h2_).elim (fun q2_ => by have q3_ := hd126 8 4 (Nat.le_of_ble_eq_true rfl) (Nat.le_of_ble_eq_true rfl) (by decide) (by decide) (by decide); omega) (fun ⟨q_, hq_, hqb_⟩ => by have q5_ := h147; have q4_ := Asr.inb _ _ _ (S13.ps q_ (((fun _ h_ => (List.not_mem_nil h_).elim)) q_ hq_)) hqb_; omega)) (fun ⟨_, hq_, _⟩ => (List.not_mem_nil hq_).elim)), (List.forall_mem_cons.2 ⟨(fun b_ h1_ h2_ => (p152 b_ h1_).elim (fun q1_ => (p138 b_ h2_).elim (fun q2_ => by have q3_ := hd126 8 4 (Nat.le_of_ble_eq_true rfl) (Nat.le_of_ble_eq_true rfl) (by decide) (by decide) (by decide); omega) (fun ⟨q_, hq_, hqb_⟩ => by have q5_ := h147; have q4_ := Asr.inb _ _ _ (S13.ps q_ ((List.forall_mem_cons.2 ⟨List.mem_of_getElem? (i := 0) rfl, (List.forall_mem_cons.2 ⟨List.mem_of_getElem? (i := 1) rfl, (fun _ h_ => (List.not_mem_nil h_).elim)⟩)⟩) q_ hq_)) hqb_; omega)) (fun ⟨_, hq_, _⟩ => (List.not_mem_nil hq_).elim)), (List.forall_mem_cons.2 ⟨(fun b_ h1_ h2_ => (p152 b_ h1_).elim (fun q2_ => by have q1_ := Asr.inb _ _ _ (S13.atP (i := 0) rfl) h2_; omega) (fun ⟨_, hq_, _⟩ => (List.not_mem_nil hq_).elim)), (List.forall_mem_cons.2 ⟨(fun b_ h1_ h2_ => (p152 b_ h1_).elim (fun q2_ => by have q1_ := Asr.inb _ _ _ (S13.atP (i := 1) rfl) h2_; omega) (fun ⟨_, hq_, _⟩ => (List.not_mem_nil hq_).elim)), (List.forall_mem_cons.2 ⟨(fun b_ h1_ h2_ => (p152 b_ h1_).elim (fun q2_ => by have q1_ := Asr.inb _ _ _ (S13.atP (i := 2) rfl) h2_; omega) (fun ⟨_, hq_, _⟩ => (List.not_mem_nil hq_).elim)), (fun _ h_ => (List.not_mem_nil h_).elim)⟩)⟩)⟩)⟩)⟩)⟩)
    refine tailE [(1, I a1), (4, P b11 0), (6, P b49 0), (8, TU [AG ([I r22.1.CoalBook.Heap.Low, I r22.1.CoalBook.Heap.High] ++ (sgE eSpan r22.1.CoalBook.Eats 2 ++ (sg r22.1.CoalBook.Extra 3 ++ [SL A26 r22.1.CoalBook.Days.length c27, I r22.1.CoalBook.Collier.Low, I r22.1.CoalBook.Collier.High, I r22.1.CoalBook.Brings, SL A28 r22.1.CoalBook.Dips.length c29, Value.map m30]))), I r22.2]), (14, AG ([I r22.1.CoalBook.Heap.Low, I r22.1.CoalBook.Heap.High] ++ (sgE eSpan r22.1.CoalBook.Eats 2 ++ (sg r22.1.CoalBook.Extra 3 ++ [SL A26 r22.1.CoalBook.Days.length c27, I r22.1.CoalBook.Collier.Low, I r22.1.CoalBook.Collier.High, I r22.1.CoalBook.Brings, SL A28 r22.1.CoalBook.Dips.length c29, Value.map m30]))))] ⟨((hf124 1 rfl).trans (rfl : _ = I a1)), ((hf124 4 rfl).trans (rfl : _ = P b11 0)), q146, q144, q145, trivial⟩ ?_
    intro g155
    refine p_stP (pre := []) (old := [I 0, I 0, I 0, I 0, I 0, I 0] ++ (sg (List.replicate 3 0) 3 ++ [SL none 0 0, I 0, I 0, I 0, SL none 0 0, Value.map none])) (post := []) (vs := [I r22.1.CoalBook.Heap.Low, I r22.1.CoalBook.Heap.High] ++ (sgE eSpan r22.1.CoalBook.Eats 2 ++ (sg r22.1.CoalBook.Extra 3 ++ [SL A26 r22.1.CoalBook.Days.length c27, I r22.1.CoalBook.Collier.Low, I r22.1.CoalBook.Collier.High, I r22.1.CoalBook.Brings, SL A28 r22.1.CoalBook.Dips.length c29, Value.map m30]))) sz92 S154 (i := 0) rfl rfl rfl rfl (rfl : _ = AG ([I r22.1.CoalBook.Heap.Low, I r22.1.CoalBook.Heap.High] ++ (sgE eSpan r22.1.CoalBook.Eats 2 ++ (sg r22.1.CoalBook.Extra 3 ++ [SL A26 r22.1.CoalBook.Days.length c27, I r22.1.CoalBook.Collier.Low, I r22.1.CoalBook.Collier.High, I r22.1.CoalBook.Brings, SL A28 r22.1.CoalBook.Dips.length c29, Value.map m30])))) rfl rfl rfl rfl fun w156 S157 => ?_
    refine p_ext rfl rfl ?_
    refine p_aI rfl ?_
    refine wp_nil ?_
    refine c_seq ?_
    refine c_seq ?_
    refine reg ?_
    refine p_mI rfl ?_
    refine p_cmp rfl rfl rfl ?_
    refine wp_nil ?_
    refine c_cond rfl (fun c158 => ?_) (fun c158 => ?_)
    · replace H := condT c158 H
      refine c_seq ?_
      refine reg ?_
      refine p_bld (cs := [I 0, I 0]) st23 (rfl : _ = []) (by kernel_rfl) ?_
      refine p_mI rfl ?_
      refine p_stP (pre := []) (old := [I 0, I 0]) (post := []) (vs := [I 0, I 0]) sz23 S157 (i := 1) rfl rfl rfl rfl (rfl : _ = AG [I 0, I 0]) rfl rfl rfl rfl fun w159 S160 => ?_
      refine p_aI rfl ?_
      refine wp_nil ?_
      obtain rfl := Option.some.inj H
      refine c_ret ?_; show bodyPostM (Fr none) 0 Tryd.prog Tryd.f28 _ .ret _ _
      refine ret_of (res2 rfl (rvA rfl ty23 sz23 (S160.atX (i := 1) rfl) rfl) (rvT (rfl : _ = I r22.2))) ?_
      exact ⟨_, rfl, rfl, S160.keep⟩
    · replace H := condF c158 H
      refine c_skip ?_
      refine c_seq ?_
      refine reg_c mixed 4 [2, 3] (by kernel_rfl) ?_
      refine kS rfl (fun _ k_ => p_ldA ty92 sz92 (Asr.stays (S157.atX (i := 0) rfl) k_) rfl rfl dn) ?_
      refine kS rfl (fun _ k_ => p_mI rfl dn) ?_
      refine kC rfl ?_
      refine kC rfl ?_
      intro w161 k162; have S163 := S157.call k162
      obtain ⟨r164, h165, H⟩ := bindS H
      refine p_cal (coal_coal_ok h165) fu77 rfl ?_
      rintro _ w166 ⟨b168, rfl, k167, ⟨o169, n170⟩, _⟩
      have S171 := S163.addNew k167 o169 n170
      refine cN k167 fun w172 k173 => ?_
      have S174 := S171.call k173
      obtain ⟨r176, h177, H⟩ := bindS H
      refine p_cal (coal_book_span_ok h177 (S174.atP (i := 2) rfl) (S174.atP (i := 1) rfl) (S174.atP (i := 0) rfl) (by kernel_rfl) (fun _ _ _ k_ hr_ => coal_coal_1_ok hr_ (Asr.stays (S174.atX (i := 0) rfl) k_))) fu76 rfl ?_
      rintro _ w178 ⟨rfl, k179⟩; refine cN k179 fun w180 k181 => ?_
      have S182 := (S174.call k179).call k181
      refine p_stP (pre := []) (old := [I 0, I 0]) (post := []) (vs := [I r176.Low, I r176.High]) sz23 S182 (i := 2) rfl rfl rfl rfl (rfl : _ = AG [I r176.Low, I r176.High]) rfl rfl rfl rfl fun w183 S184 => ?_
      refine p_aI rfl ?_
      refine wp_nil ?_
      obtain rfl := Option.some.inj H
      refine c_ret ?_; show bodyPostM (Fr none) 0 Tryd.prog Tryd.f28 _ .ret _ _
      refine ret_of (res2 rfl (rvA rfl ty23 sz23 (S184.atX (i := 2) rfl) rfl) (rvT (rfl : _ = I 0))) ?_
      exact ⟨_, rfl, rfl, S184.keep⟩

def coal_Wind_r1 (a1 : Int) (x_1 : Coal_truth) (z_1 : Int) : Option (Bool × Nat × Int) :=
  need (inI a1 6) <|
  need (decide (0 ≤ (aget x_1.winds_ a1))) <|
  some (true, 0, orI z_1 (shlI 1 (aget x_1.winds_ a1)))

def coal_Wind_r2 (a1 : Int) (x_1 : Coal_truth) (z_1 : Int) : Option (Bool × Nat × Int) :=
  need (inI a1 6) <|
  need (decide (0 ≤ (aget x_1.winds_ a1))) <|
  some (true, 0, orI z_1 (shlI 1 (aget x_1.winds_ a1)))

def coal_Wind (a0 : CoalBook) (a1 : Int) : Option (Int × Int) :=
  (coal_isDay a0 a1).bind fun r16 =>
  (coal_asked a0 r16).bind fun r22 =>
  bif (r22.2 != 0) then (some (0, r22.2))
  else ((coal_book_truths r22.1).bind fun r98 =>
  (coal_book_truths_1 (0, 0) r22.1 (yvOf (coal_Wind_r1 a1))).bind fun r107 =>
  some (r107.2, 0))

set_option maxRecDepth 100000 in
theorem coal_Wind_ok {a0 : CoalBook} {a1 : Int} {A1 : Option Addr} {c2 : Nat} {A4 : Option Addr} {c5 : Nat} {w : World} {r : Int × Int} (H : coal_Wind a0 a1 = some r) (h3 : (rd eCoalDay 3 A1 c2 a0.Days).ok w) (h6 : (rd eCoalDip 3 A4 c5 a0.Dips).ok w) (hg7 : (bl 1 [I (-1), I (-1)] 123).ok w) : Calls Tryd.prog 29 #[AG ([I a0.Heap.Low, I a0.Heap.High] ++ (sgE eSpan a0.Eats 2 ++ (sg a0.Extra 3 ++ [SL A1 a0.Days.length c2, I a0.Collier.Low, I a0.Collier.High, I a0.Brings, SL A4 a0.Dips.length c5]))), I a1] w (RetV w (TU [I r.1, I r.2])) := by
  unfold coal_Wind at H
  refine fn_of (n := 32) Tryd.func29 rfl rfl (Nat.le_of_ble_eq_true rfl) ?_
  have S : St w (fun _ => False) w [] [rd eCoalDay 3 A1 c2 a0.Days, rd eCoalDip 3 A4 c5 a0.Dips, bl 1 [I (-1), I (-1)] 123] := St.start w _ _ (List.forall_mem_cons.2 ⟨h3, (List.forall_mem_cons.2 ⟨h6, (List.forall_mem_cons.2 ⟨hg7, (fun _ h_ => (List.not_mem_nil h_).elim)⟩)⟩)⟩)
  refine c_seq ?_
  refine reg ?_
  refine p_boxA rfl S fun b8 w9 S10 => ?_
  refine p_box (rfl : _ = I a1) rfl S10 fun b11 w12 S13 => ?_
  refine p_aI rfl ?_
  refine p_aI rfl ?_
  refine wp_nil ?_
  refine c_seq ?_
  obtain ⟨r16, h17, H⟩ := bindS H
  obtain ⟨r22, h23, H⟩ := bindS H
  refine reg_fl mixed 9 7 (by kernel_rfl) [rv (AG ([I a0.Heap.Low, I a0.Heap.High] ++ (sgE eSpan a0.Eats 2 ++ (sg a0.Extra 3 ++ [SL A1 a0.Days.length c2, I a0.Collier.Low, I a0.Collier.High, I a0.Brings, SL A4 a0.Dips.length c5])))), rv (AG ([I a0.Heap.Low, I a0.Heap.High] ++ (sgE eSpan a0.Eats 2 ++ (sg a0.Extra 3 ++ [SL A1 a0.Days.length c2, I a0.Collier.Low, I a0.Collier.High, I a0.Brings, SL A4 a0.Dips.length c5])))), rv (I a1), rv (B r16), rx (α := (Option Addr) × Nat × (Option Addr) × Nat × (Option Nat)) (fun ⟨A26, c27, A28, c29, m30⟩ => TU [AG ([I r22.1.CoalBook.Heap.Low, I r22.1.CoalBook.Heap.High] ++ (sgE eSpan r22.1.CoalBook.Eats 2 ++ (sg r22.1.CoalBook.Extra 3 ++ [SL A26 r22.1.CoalBook.Days.length c27, I r22.1.CoalBook.Collier.Low, I r22.1.CoalBook.Collier.High, I r22.1.CoalBook.Brings, SL A28 r22.1.CoalBook.Dips.length c29, Value.map m30]))), I r22.2]) (fun ⟨A26, c27, A28, c29, m30⟩ lo hi => BtwL lo hi [rd eCoalDay 3 A1 c2 a0.Days, rd eCoalDip 3 A4 c5 a0.Dips] (rd eCoalDay 3 A26 c27 r22.1.CoalBook.Days) ∧ BtwL lo hi [] (rd eCoalDip 3 A28 c29 r22.1.CoalBook.Dips) ∧ BtwL lo hi [] (mpo ekG iE m30 r22.1.costs_) ∧ True) (fun ⟨A26, c27, A28, c29, m30⟩ => [rd eCoalDay 3 A26 c27 r22.1.CoalBook.Days, rd eCoalDip 3 A28 c29 r22.1.CoalBook.Dips, mpo ekG iE m30 r22.1.costs_]), dv 15 some, dv 10 (exG 0), dv 10 (exG 1), rx (α := Nat) (fun b49 => P b49 0) (fun b49 lo hi => BtwL lo hi [] (bl b49 ([I 0, I 0, I 0, I 0, I 0, I 0] ++ (sg (List.replicate 3 0) 3 ++ [SL none 0 0, I 0, I 0, I 0, SL none 0 0, Value.map none])) 92) ∧ True) (fun b49 => [bl b49 ([I 0, I 0, I 0, I 0, I 0, I 0] ++ (sg (List.replicate 3 0) 3 ++ [SL none 0 0, I 0, I 0, I 0, SL none 0 0, Value.map none])) 92])] [[], [], [], [], [], [15], [10], [10], []] rfl (by kernel_rfl) [[], [], [], [1, 2], [0, 1, 2, 3], [0, 1, 2, 3, 4], [0, 1, 2, 3, 4, 5], [0, 1, 2, 3, 4, 5], [], [0, 1, 2, 3, 4, 5, 6, 8], [0, 1, 2, 3, 4, 5, 6, 7, 8, 9]] (by kernel_rfl) ⟨?_, ?_, ?_, ?_, ?_, ?_, ?_, ?_, ?_, trivial⟩ ?_ ?_
  · intro e_ w_ k_ hf_ hR_
    have S_ : St w_ (fun _ => False) w_ [] [bl b11 [I a1] 3, bl b8 ([I a0.Heap.Low, I a0.Heap.High] ++ (sgE eSpan a0.Eats 2 ++ (sg a0.Extra 3 ++ [SL A1 a0.Days.length c2, I a0.Collier.Low, I a0.Collier.High, I a0.Brings, SL A4 a0.Dips.length c5]))) 29, rd eCoalDay 3 A1 c2 a0.Days, rd eCoalDip 3 A4 c5 a0.Dips, bl 1 [I (-1), I (-1)] 123] := S13.asP k_
    refine hopE [(2, P b8 0)] ⟨((hf_ 2 rfl).trans (rfl : _ = P b8 0)), trivial⟩ ?_
    refine p_ldA ty29 sz29 (S_.atP (i := 1) rfl) rfl rfl ?_
    refine wp_nil ?_
    exact ⟨_, rfl, S_.keep, rfl⟩
  · intro e_ w_ k_ hf_ hR_
    have S_ : St w_ (fun _ => False) w_ [] [bl b11 [I a1] 3, bl b8 ([I a0.Heap.Low, I a0.Heap.High] ++ (sgE eSpan a0.Eats 2 ++ (sg a0.Extra 3 ++ [SL A1 a0.Days.length c2, I a0.Collier.Low, I a0.Collier.High, I a0.Brings, SL A4 a0.Dips.length c5]))) 29, rd eCoalDay 3 A1 c2 a0.Days, rd eCoalDip 3 A4 c5 a0.Dips, bl 1 [I (-1), I (-1)] 123] := S13.asP k_
    refine hopE [(2, P b8 0)] ⟨((hf_ 2 rfl).trans (rfl : _ = P b8 0)), trivial⟩ ?_
    refine p_ldA ty29 sz29 (S_.atP (i := 1) rfl) rfl rfl ?_
    refine wp_nil ?_
    exact ⟨_, rfl, S_.keep, rfl⟩
  · intro e_ w_ k_ hf_ hR_
    have S_ : St w_ (fun _ => False) w_ [] [bl b11 [I a1] 3, bl b8 ([I a0.Heap.Low, I a0.Heap.High] ++ (sgE eSpan a0.Eats 2 ++ (sg a0.Extra 3 ++ [SL A1 a0.Days.length c2, I a0.Collier.Low, I a0.Collier.High, I a0.Brings, SL A4 a0.Dips.length c5]))) 29, rd eCoalDay 3 A1 c2 a0.Days, rd eCoalDip 3 A4 c5 a0.Dips, bl 1 [I (-1), I (-1)] 123] := S13.asP k_
    refine hopE [(3, P b11 0)] ⟨((hf_ 3 rfl).trans (rfl : _ = P b11 0)), trivial⟩ ?_
    refine p_ld ty3 (S_.atP (i := 0) rfl) rfl rfl ?_
    refine wp_nil ?_
    exact ⟨_, rfl, S_.keep, rfl⟩
  · intro e_ w_ k_ hf_ hR_
    have S_ : St w_ (fun _ => False) w_ [] [bl b11 [I a1] 3, bl b8 ([I a0.Heap.Low, I a0.Heap.High] ++ (sgE eSpan a0.Eats 2 ++ (sg a0.Extra 3 ++ [SL A1 a0.Days.length c2, I a0.Collier.Low, I a0.Collier.High, I a0.Brings, SL A4 a0.Dips.length c5]))) 29, rd eCoalDay 3 A1 c2 a0.Days, rd eCoalDip 3 A4 c5 a0.Dips, bl 1 [I (-1), I (-1)] 123] := S13.asP k_
    obtain ⟨_, _, _, _, q14⟩ := hR_ 1 12 rfl (Nat.le_of_ble_eq_true rfl) rfl
    obtain ⟨_, _, _, _, q15⟩ := hR_ 2 13 rfl (Nat.le_of_ble_eq_true rfl) rfl
    refine hopE [(12, AG ([I a0.Heap.Low, I a0.Heap.High] ++ (sgE eSpan a0.Eats 2 ++ (sg a0.Extra 3 ++ [SL A1 a0.Days.length c2, I a0.Collier.Low, I a0.Collier.High, I a0.Brings, SL A4 a0.Dips.length c5])))), (13, I a1)] ⟨q14, q15, trivial⟩ ?_
    refine p_cv (coal_isDay_ok h17 (S_.atP (i := 2) rfl) (S_.atP (i := 3) rfl)) fu75 rfl S_ fun w18 S19 => ?_
    refine wp_nil ?_
    exact ⟨_, rfl, S19.keep, rfl⟩
  · intro e_ w_ k_ hf_ hR_
    have S_ : St w_ (fun _ => False) w_ [] [bl b11 [I a1] 3, bl b8 ([I a0.Heap.Low, I a0.Heap.High] ++ (sgE eSpan a0.Eats 2 ++ (sg a0.Extra 3 ++ [SL A1 a0.Days.length c2, I a0.Collier.Low, I a0.Collier.High, I a0.Brings, SL A4 a0.Dips.length c5]))) 29, rd eCoalDay 3 A1 c2 a0.Days, rd eCoalDip 3 A4 c5 a0.Dips, bl 1 [I (-1), I (-1)] 123] := S13.asP k_
    obtain ⟨_, _, _, _, q20⟩ := hR_ 0 11 rfl (Nat.le_of_ble_eq_true rfl) rfl
    obtain ⟨_, _, _, _, q21⟩ := hR_ 3 14 rfl (Nat.le_of_ble_eq_true rfl) rfl
    refine hopE [(11, AG ([I a0.Heap.Low, I a0.Heap.High] ++ (sgE eSpan a0.Eats 2 ++ (sg a0.Extra 3 ++ [SL A1 a0.Days.length c2, I a0.Collier.Low, I a0.Collier.High, I a0.Brings, SL A4 a0.Dips.length c5])))), (14, B r16)] ⟨q20, q21, trivial⟩ ?_
    refine p_cal (coal_asked_ok h23 (S_.atP (i := 2) rfl) (S_.atP (i := 3) rfl) (S_.atP (i := 4) rfl)) fu74 rfl ?_
    rintro _ w24 ⟨A26, c27, A28, c29, m30, rfl, k25, ⟨o31, n32⟩, ⟨o33, n34⟩, ⟨o35, n36⟩, _⟩
    have S37 := S_.callN k25 [rd eCoalDay 3 A26 c27 r22.1.CoalBook.Days, rd eCoalDip 3 A28 c29 r22.1.CoalBook.Dips, mpo ekG iE m30 r22.1.costs_] (List.forall_mem_cons.2 ⟨⟨o31, Al.inL n32 ((List.forall_mem_cons.2 ⟨(fp_mem (i := 2) rfl), (List.forall_mem_cons.2 ⟨(fp_mem (i := 3) rfl), (fun _ h_ => (List.not_mem_nil h_).elim)⟩)⟩))⟩, (List.forall_mem_cons.2 ⟨⟨o33, New.inL n34⟩, (List.forall_mem_cons.2 ⟨⟨o35, New.inL n36⟩, (fun _ h_ => (List.not_mem_nil h_).elim)⟩)⟩)⟩)
    refine wp_nil ?_
    exact ⟨_, rfl, S37.keep, ⟨(A26, c27, A28, c29, m30), rfl, ⟨BtwL.of n32 rfl (S37.atP (i := 0) rfl) rfl, BtwL.of (New.al (New.mono n34 S_.keep.size)) rfl (S37.atP (i := 1) rfl) rfl, BtwL.of (New.al (New.mono n36 S_.keep.size)) rfl (S37.atP (i := 2) rfl) rfl, trivial⟩, (List.forall_mem_cons.2 ⟨(S37.atP (i := 0) rfl), (List.forall_mem_cons.2 ⟨(S37.atP (i := 1) rfl), (List.forall_mem_cons.2 ⟨(S37.atP (i := 2) rfl), (fun _ h_ => (List.not_mem_nil h_).elim)⟩)⟩)⟩)⟩⟩
  · intro e_ w_ k_ hf_ hR_
    have S_ : St w_ (fun _ => False) w_ [] [bl b11 [I a1] 3, bl b8 ([I a0.Heap.Low, I a0.Heap.High] ++ (sgE eSpan a0.Eats 2 ++ (sg a0.Extra 3 ++ [SL A1 a0.Days.length c2, I a0.Collier.Low, I a0.Collier.High, I a0.Brings, SL A4 a0.Dips.length c5]))) 29, rd eCoalDay 3 A1 c2 a0.Days, rd eCoalDip 3 A4 c5 a0.Dips, bl 1 [I (-1), I (-1)] 123] := S13.asP k_
    obtain ⟨_, _, _, _, ⟨A26, c27, A28, c29, m30⟩, q38, p39, a40⟩ := hR_ 4 15 rfl (Nat.le_of_ble_eq_true rfl) rfl
    replace q38 : e_ 15 = TU [AG ([I r22.1.CoalBook.Heap.Low, I r22.1.CoalBook.Heap.High] ++ (sgE eSpan r22.1.CoalBook.Eats 2 ++ (sg r22.1.CoalBook.Extra 3 ++ [SL A26 r22.1.CoalBook.Days.length c27, I r22.1.CoalBook.Collier.Low, I r22.1.CoalBook.Collier.High, I r22.1.CoalBook.Brings, SL A28 r22.1.CoalBook.Dips.length c29, Value.map m30]))), I r22.2] := q38
    have S_ := St.addL' S_ (a40 _ (.head _)) (fun _ _ _ h_ => (List.not_mem_nil h_).elim)
    have S_ := St.addL' S_ (a40 _ (.tail _ (.head _))) (fun _ _ _ h_ => (List.not_mem_nil h_).elim)
    have S_ := St.addL' S_ (a40 _ (.tail _ (.tail _ (.head _)))) (fun _ _ _ h_ => (List.not_mem_nil h_).elim)
    refine hopE [(15, TU [AG ([I r22.1.CoalBook.Heap.Low, I r22.1.CoalBook.Heap.High] ++ (sgE eSpan r22.1.CoalBook.Eats 2 ++ (sg r22.1.CoalBook.Extra 3 ++ [SL A26 r22.1.CoalBook.Days.length c27, I r22.1.CoalBook.Collier.Low, I r22.1.CoalBook.Collier.High, I r22.1.CoalBook.Brings, SL A28 r22.1.CoalBook.Dips.length c29, Value.map m30]))), I r22.2])] ⟨q38, trivial⟩ ?_
    refine p_mT rfl ?_
    refine wp_nil ?_
    exact ⟨_, rfl, S_.keep, rfl⟩
  · intro e_ w_ k_ hf_ hR_
    have S_ : St w_ (fun _ => False) w_ [] [bl b11 [I a1] 3, bl b8 ([I a0.Heap.Low, I a0.Heap.High] ++ (sgE eSpan a0.Eats 2 ++ (sg a0.Extra 3 ++ [SL A1 a0.Days.length c2, I a0.Collier.Low, I a0.Collier.High, I a0.Brings, SL A4 a0.Dips.length c5]))) 29, rd eCoalDay 3 A1 c2 a0.Days, rd eCoalDip 3 A4 c5 a0.Dips, bl 1 [I (-1), I (-1)] 123] := S13.asP k_
    obtain ⟨_, _, _, _, ⟨A26, c27, A28, c29, m30⟩, q42, p43, a44⟩ := hR_ 4 15 rfl (Nat.le_of_ble_eq_true rfl) rfl
    replace q42 : e_ 15 = TU [AG ([I r22.1.CoalBook.Heap.Low, I r22.1.CoalBook.Heap.High] ++ (sgE eSpan r22.1.CoalBook.Eats 2 ++ (sg r22.1.CoalBook.Extra 3 ++ [SL A26 r22.1.CoalBook.Days.length c27, I r22.1.CoalBook.Collier.Low, I r22.1.CoalBook.Collier.High, I r22.1.CoalBook.Brings, SL A28 r22.1.CoalBook.Dips.length c29, Value.map m30]))), I r22.2] := q42
    have S_ := St.addL' S_ (a44 _ (.head _)) (fun _ _ _ h_ => (List.not_mem_nil h_).elim)
    have S_ := St.addL' S_ (a44 _ (.tail _ (.head _))) (fun _ _ _ h_ => (List.not_mem_nil h_).elim)
    have S_ := St.addL' S_ (a44 _ (.tail _ (.tail _ (.head _)))) (fun _ _ _ h_ => (List.not_mem_nil h_).elim)
    obtain ⟨_, _, _, _, q41⟩ := hR_ 5 10 rfl (Nat.le_of_ble_eq_true rfl) rfl
    replace q41 : e_ 10 = TU [AG ([I r22.1.CoalBook.Heap.Low, I r22.1.CoalBook.Heap.High] ++ (sgE eSpan r22.1.CoalBook.Eats 2 ++ (sg r22.1.CoalBook.Extra 3 ++ [SL A26 r22.1.CoalBook.Days.length c27, I r22.1.CoalBook.Collier.Low, I r22.1.CoalBook.Collier.High, I r22.1.CoalBook.Brings, SL A28 r22.1.CoalBook.Dips.length c29, Value.map m30]))), I r22.2] := (Option.some.inj ((congrArg some q42).symm.trans q41)).symm
    refine hopE [(10, TU [AG ([I r22.1.CoalBook.Heap.Low, I r22.1.CoalBook.Heap.High] ++ (sgE eSpan r22.1.CoalBook.Eats 2 ++ (sg r22.1.CoalBook.Extra 3 ++ [SL A26 r22.1.CoalBook.Days.length c27, I r22.1.CoalBook.Collier.Low, I r22.1.CoalBook.Collier.High, I r22.1.CoalBook.Brings, SL A28 r22.1.CoalBook.Dips.length c29, Value.map m30]))), I r22.2])] ⟨q41, trivial⟩ ?_
    refine p_ext rfl rfl ?_
    refine wp_nil ?_
    exact ⟨_, rfl, S_.keep, rfl⟩
  · intro e_ w_ k_ hf_ hR_
    have S_ : St w_ (fun _ => False) w_ [] [bl b11 [I a1] 3, bl b8 ([I a0.Heap.Low, I a0.Heap.High] ++ (sgE eSpan a0.Eats 2 ++ (sg a0.Extra 3 ++ [SL A1 a0.Days.length c2, I a0.Collier.Low, I a0.Collier.High, I a0.Brings, SL A4 a0.Dips.length c5]))) 29, rd eCoalDay 3 A1 c2 a0.Days, rd eCoalDip 3 A4 c5 a0.Dips, bl 1 [I (-1), I (-1)] 123] := S13.asP k_
    obtain ⟨_, _, _, _, ⟨A26, c27, A28, c29, m30⟩, q46, p47, a48⟩ := hR_ 4 15 rfl (Nat.le_of_ble_eq_true rfl) rfl
    replace q46 : e_ 15 = TU [AG ([I r22.1.CoalBook.Heap.Low, I r22.1.CoalBook.Heap.High] ++ (sgE eSpan r22.1.CoalBook.Eats 2 ++ (sg r22.1.CoalBook.Extra 3 ++ [SL A26 r22.1.CoalBook.Days.length c27, I r22.1.CoalBook.Collier.Low, I r22.1.CoalBook.Collier.High, I r22.1.CoalBook.Brings, SL A28 r22.1.CoalBook.Dips.length c29, Value.map m30]))), I r22.2] := q46
    have S_ := St.addL' S_ (a48 _ (.head _)) (fun _ _ _ h_ => (List.not_mem_nil h_).elim)
    have S_ := St.addL' S_ (a48 _ (.tail _ (.head _))) (fun _ _ _ h_ => (List.not_mem_nil h_).elim)
    have S_ := St.addL' S_ (a48 _ (.tail _ (.tail _ (.head _)))) (fun _ _ _ h_ => (List.not_mem_nil h_).elim)
    obtain ⟨_, _, _, _, q45⟩ := hR_ 5 10 rfl (Nat.le_of_ble_eq_true rfl) rfl
    replace q45 : e_ 10 = TU [AG ([I r22.1.CoalBook.Heap.Low, I r22.1.CoalBook.Heap.High] ++ (sgE eSpan r22.1.CoalBook.Eats 2 ++ (sg r22.1.CoalBook.Extra 3 ++ [SL A26 r22.1.CoalBook.Days.length c27, I r22.1.CoalBook.Collier.Low, I r22.1.CoalBook.Collier.High, I r22.1.CoalBook.Brings, SL A28 r22.1.CoalBook.Dips.length c29, Value.map m30]))), I r22.2] := (Option.some.inj ((congrArg some q46).symm.trans q45)).symm
    refine hopE [(10, TU [AG ([I r22.1.CoalBook.Heap.Low, I r22.1.CoalBook.Heap.High] ++ (sgE eSpan r22.1.CoalBook.Eats 2 ++ (sg r22.1.CoalBook.Extra 3 ++ [SL A26 r22.1.CoalBook.Days.length c27, I r22.1.CoalBook.Collier.Low, I r22.1.CoalBook.Collier.High, I r22.1.CoalBook.Brings, SL A28 r22.1.CoalBook.Dips.length c29, Value.map m30]))), I r22.2])] ⟨q45, trivial⟩ ?_
    refine p_ext rfl rfl ?_
    refine wp_nil ?_
    exact ⟨_, rfl, S_.keep, rfl⟩
  · intro e_ w_ k_ hf_ hR_
    have S_ : St w_ (fun _ => False) w_ [] [bl b11 [I a1] 3, bl b8 ([I a0.Heap.Low, I a0.Heap.High] ++ (sgE eSpan a0.Eats 2 ++ (sg a0.Extra 3 ++ [SL A1 a0.Days.length c2, I a0.Collier.Low, I a0.Collier.High, I a0.Brings, SL A4 a0.Dips.length c5]))) 29, rd eCoalDay 3 A1 c2 a0.Days, rd eCoalDip 3 A4 c5 a0.Dips, bl 1 [I (-1), I (-1)] 123] := S13.asP k_
    refine hopE [] trivial ?_
    refine p_allA in92 S_ fun b49 w50 S51 => ?_
    refine wp_nil ?_
    exact ⟨_, rfl, S51.keep, ⟨b49, rfl, ⟨BtwL.of (New.al (S51.newX (i := 0) rfl)) rfl (S51.atX (i := 0) rfl) rfl, trivial⟩, (List.forall_mem_cons.2 ⟨(S51.atX (i := 0) rfl), (fun _ h_ => (List.not_mem_nil h_).elim)⟩)⟩⟩
  · intro e52 w53 lo54 hi55 k56 hf57 hR58 hd59
    have S60 := S13.call k56
    have q61 : e52 11 = AG ([I a0.Heap.Low, I a0.Heap.High] ++ (sgE eSpan a0.Eats 2 ++ (sg a0.Extra 3 ++ [SL A1 a0.Days.length c2, I a0.Collier.Low, I a0.Collier.High, I a0.Brings, SL A4 a0.Dips.length c5]))) := (hR58 0 11 (Nat.le_of_ble_eq_true rfl) rfl).2.2.2
    have q62 : e52 12 = AG ([I a0.Heap.Low, I a0.Heap.High] ++ (sgE eSpan a0.Eats 2 ++ (sg a0.Extra 3 ++ [SL A1 a0.Days.length c2, I a0.Collier.Low, I a0.Collier.High, I a0.Brings, SL A4 a0.Dips.length c5]))) := (hR58 1 12 (Nat.le_of_ble_eq_true rfl) rfl).2.2.2
    have q63 : e52 13 = I a1 := (hR58 2 13 (Nat.le_of_ble_eq_true rfl) rfl).2.2.2
    have q64 : e52 14 = B r16 := (hR58 3 14 (Nat.le_of_ble_eq_true rfl) rfl).2.2.2
    obtain ⟨h66, h67, h68, ⟨A26, c27, A28, c29, m30⟩, q65, h69, h70⟩ := hR58 4 15 (Nat.le_of_ble_eq_true rfl) rfl
    replace q65 : e52 15 = TU [AG ([I r22.1.CoalBook.Heap.Low, I r22.1.CoalBook.Heap.High] ++ (sgE eSpan r22.1.CoalBook.Eats 2 ++ (sg r22.1.CoalBook.Extra 3 ++ [SL A26 r22.1.CoalBook.Days.length c27, I r22.1.CoalBook.Collier.Low, I r22.1.CoalBook.Collier.High, I r22.1.CoalBook.Brings, SL A28 r22.1.CoalBook.Dips.length c29, Value.map m30]))), I r22.2] := q65
    obtain ⟨p71, p72, p73, _⟩ := h69
    have S74 := St.addR S60 (h70 _ (.head _)) (fun b_ h_ x_ hx_ hb_ => (p71 b_ h_).elim (fun q_ => by have := x_.inb _ _ (S13.xs x_ hx_) hb_; omega) (fun ⟨q_, hq_, hqb_⟩ => S13.dp x_ hx_ q_ ((List.forall_mem_cons.2 ⟨List.mem_of_getElem? (i := 0) rfl, (List.forall_mem_cons.2 ⟨List.mem_of_getElem? (i := 1) rfl, (fun _ h_ => (List.not_mem_nil h_).elim)⟩)⟩) q_ hq_) b_ hb_ hqb_))
    have S75 := St.addR S74 (h70 _ (.tail _ (.head _))) (fun b_ h_ x_ hx_ hb_ => (p72 b_ h_).elim (fun q_ => by have := x_.inb _ _ (S13.xs x_ hx_) hb_; omega) (fun ⟨q_, hq_, hqb_⟩ => S13.dp x_ hx_ q_ (((fun _ h_ => (List.not_mem_nil h_).elim)) q_ hq_) b_ hb_ hqb_))
    have S76 := St.addR S75 (h70 _ (.tail _ (.tail _ (.head _)))) (fun b_ h_ x_ hx_ hb_ => (p73 b_ h_).elim (fun q_ => by have := x_.inb _ _ (S13.xs x_ hx_) hb_; omega) (fun ⟨q_, hq_, hqb_⟩ => S13.dp x_ hx_ q_ (((fun _ h_ => (List.not_mem_nil h_).elim)) q_ hq_) b_ hb_ hqb_))
    have q77 : e52 10 = TU [AG ([I r22.1.CoalBook.Heap.Low, I r22.1.CoalBook.Heap.High] ++ (sgE eSpan r22.1.CoalBook.Eats 2 ++ (sg r22.1.CoalBook.Extra 3 ++ [SL A26 r22.1.CoalBook.Days.length c27, I r22.1.CoalBook.Collier.Low, I r22.1.CoalBook.Collier.High, I r22.1.CoalBook.Brings, SL A28 r22.1.CoalBook.Dips.length c29, Value.map m30]))), I r22.2] := (Option.some.inj ((congrArg some q65).symm.trans (hR58 5 10 (Nat.le_of_ble_eq_true rfl) rfl).2.2.2)).symm
    have q78 : e52 16 = AG ([I r22.1.CoalBook.Heap.Low, I r22.1.CoalBook.Heap.High] ++ (sgE eSpan r22.1.CoalBook.Eats 2 ++ (sg r22.1.CoalBook.Extra 3 ++ [SL A26 r22.1.CoalBook.Days.length c27, I r22.1.CoalBook.Collier.Low, I r22.1.CoalBook.Collier.High, I r22.1.CoalBook.Brings, SL A28 r22.1.CoalBook.Dips.length c29, Value.map m30]))) := (Option.some.inj ((congrArg (exG 0) q77).symm.trans (hR58 6 16 (Nat.le_of_ble_eq_true rfl) rfl).2.2.2)).symm
    have q79 : e52 17 = I r22.2 := (Option.some.inj ((congrArg (exG 1) q77).symm.trans (hR58 7 17 (Nat.le_of_ble_eq_true rfl) rfl).2.2.2)).symm
    obtain ⟨h81, h82, h83, b49, q80, h84, h85⟩ := hR58 8 6 (Nat.le_of_ble_eq_true rfl) rfl
    replace q80 : e52 6 = P b49 0 := q80
    obtain ⟨p86, _⟩ := h84
    have S88 := St.addO S76 (h85 _ (.head _)) (fun b_ h_ => (p86 b_ h_).elim (fun q_ => Nat.le_trans S13.keep.size (Nat.le_trans h81 q_.1)) (fun ⟨_, hq_, _⟩ => (List.not_mem_nil hq_).elim)) (List.forall_mem_cons.2 ⟨(fun b_ h1_ h2_ => (p86 b_ h1_).elim (fun q2_ => by have q1_ := Asr.inb _ _ _ (S13.atX (i := 0) rfl) h2_; omega) (fun ⟨_, hq_, _⟩ => (List.not_mem_nil hq_).elim)), (List.forall_mem_cons.2 ⟨(fun b_ h1_ h2_ => (p86 b_ h1_).elim (fun q2_ => by have q1_ := Asr.inb _ _ _ (S13.atX (i := 1) rfl) h2_; omega) (fun ⟨_, hq_, _⟩ => (List.not_mem_nil hq_).elim)), (fun _ h_ => (List.not_mem_nil h_).elim)⟩)⟩) (List.forall_mem_cons.2 ⟨(fun b_ h1_ h2_ => (p86 b_ h1_).elim (fun q1_ => (p73 b_ h2_).elim (fun q2_ => by have q3_ := hd59 8 4 (Nat.le_of_ble_eq_true rfl) (Nat.le_of_ble_eq_true rfl) (by decide); omega) (fun ⟨q_, hq_, hqb_⟩ => by have q5_ := h81; have q4_ := Asr.inb _ _ _ (S13.ps q_ (((fun _ h_ => (List.not_mem_nil h_).elim)) q_ hq_)) hqb_; omega)) (fun ⟨_, hq_, _⟩ => (List.not_mem_nil hq_).elim)), (List.forall_mem_cons.2 ⟨(fun b_ h1_ h2_ => (p86 b_ h1_).elim (fun q1_ => (p72 b_ h2_).elim (fun q2_ => by have q3_ := hd59 8 4 (Nat.le_of_ble_eq_true rfl) (Nat.le_of_ble_eq_true rfl) (by decide); omega) (fun ⟨q_, hq_, hqb_⟩ => by have q5_ := h81; have q4_ := Asr.inb _ _ _ (S13.ps q_ (((fun _ h_ => (List.not_mem_nil h_).elim)) q_ hq_)) hqb_; omega)) (fun ⟨_, hq_, _⟩ => (List.not_mem_nil hq_).elim)), (List.forall_mem_cons.2 ⟨(fun b_ h1_ h2_ => (p86 b_ h1_).elim (fun q1_ => (p71 b_ h2_).elim (fun q2_ => by have q3_ := hd59 8 4 (Nat.le_of_ble_eq_true rfl) (Nat.le_of_ble_eq_true rfl) (by decide); omega) (fun ⟨q_, hq_, hqb_⟩ => by have q5_ := h81; have q4_ := Asr.inb _ _ _ (S13.ps q_ ((List.forall_mem_cons.2 ⟨List.mem_of_getElem? (i := 0) rfl, (List.forall_mem_cons.2 ⟨List.mem_of_getElem? (i := 1) rfl, (fun _ h_ => (List.not_mem_nil h_).elim)⟩)⟩) q_ hq_)) hqb_; omega)) (fun ⟨_, hq_, _⟩ => (List.not_mem_nil hq_).elim)), (List.forall_mem_cons.2 ⟨(fun b_ h1_ h2_ => (p86 b_ h1_).elim (fun q2_ => by have q1_ := Asr.inb _ _ _ (S13.atP (i := 0) rfl) h2_; omega) (fun ⟨_, hq_, _⟩ => (List.not_mem_nil hq_).elim)), (List.forall_mem_cons.2 ⟨(fun b_ h1_ h2_ => (p86 b_ h1_).elim (fun q2_ => by have q1_ := Asr.inb _ _ _ (S13.atP (i := 1) rfl) h2_; omega) (fun ⟨_, hq_, _⟩ => (List.not_mem_nil hq_).elim)), (List.forall_mem_cons.2 ⟨(fun b_ h1_ h2_ => (p86 b_ h1_).elim (fun q2_ => by have q1_ := Asr.inb _ _ _ (S13.atP (i := 2) rfl) h2_; omega) (fun ⟨_, hq_, _⟩ => (List.not_mem_nil hq_).elim)), (fun _ h_ => (List.not_mem_nil h_).elim)⟩)⟩)⟩)⟩)⟩)⟩)
    refine tailE [(3, P b11 0), (6, P b49 0), (16, AG ([I r22.1.CoalBook.Heap.Low, I r22.1.CoalBook.Heap.High] ++ (sgE eSpan r22.1.CoalBook.Eats 2 ++ (sg r22.1.CoalBook.Extra 3 ++ [SL A26 r22.1.CoalBook.Days.length c27, I r22.1.CoalBook.Collier.Low, I r22.1.CoalBook.Collier.High, I r22.1.CoalBook.Brings, SL A28 r22.1.CoalBook.Dips.length c29, Value.map m30])))), (17, I r22.2)] ⟨((hf57 3 rfl).trans (rfl : _ = P b11 0)), q80, q78, q79, trivial⟩ ?_
    intro g89
    refine p_stP (pre := []) (old := [I 0, I 0, I 0, I 0, I 0, I 0] ++ (sg (List.replicate 3 0) 3 ++ [SL none 0 0, I 0, I 0, I 0, SL none 0 0, Value.map none])) (post := []) (vs := [I r22.1.CoalBook.Heap.Low, I r22.1.CoalBook.Heap.High] ++ (sgE eSpan r22.1.CoalBook.Eats 2 ++ (sg r22.1.CoalBook.Extra 3 ++ [SL A26 r22.1.CoalBook.Days.length c27, I r22.1.CoalBook.Collier.Low, I r22.1.CoalBook.Collier.High, I r22.1.CoalBook.Brings, SL A28 r22.1.CoalBook.Dips.length c29, Value.map m30]))) sz92 S88 (i := 0) rfl rfl rfl rfl (rfl : _ = AG ([I r22.1.CoalBook.Heap.Low, I r22.1.CoalBook.Heap.High] ++ (sgE eSpan r22.1.CoalBook.Eats 2 ++ (sg r22.1.CoalBook.Extra 3 ++ [SL A26 r22.1.CoalBook.Days.length c27, I r22.1.CoalBook.Collier.Low, I r22.1.CoalBook.Collier.High, I r22.1.CoalBook.Brings, SL A28 r22.1.CoalBook.Dips.length c29, Value.map m30])))) rfl rfl rfl rfl fun w90 S91 => ?_
    refine p_aI rfl ?_
    refine wp_nil ?_
    refine c_seq ?_
    refine c_seq ?_
    refine reg ?_
    refine p_mI rfl ?_
    refine p_cmp rfl rfl rfl ?_
    refine wp_nil ?_
    refine c_cond rfl (fun c92 => ?_) (fun c92 => ?_)
    · replace H := condT c92 H
      refine c_seq ?_
      refine reg ?_
      refine p_mI rfl ?_
      refine p_aI rfl ?_
      refine p_aI rfl ?_
      refine wp_nil ?_
      obtain rfl := Option.some.inj H
      refine c_ret ?_; show bodyPostM (Fr none) 0 Tryd.prog Tryd.f29 _ .ret _ _
      refine ret_of (res2 rfl (rvT (rfl : _ = I 0)) (rvT (rfl : _ = I r22.2))) ?_
      exact ⟨_, rfl, rfl, S91.keep⟩
    · replace H := condF c92 H
      refine c_skip ?_
      refine c_seq ?_
      refine reg ?_
      refine p_all in3 rfl S91 fun b93 w94 S95 => ?_
      refine p_st sz3 S95 (i := 0) rfl rfl (rfl : _ = I 0) rfl rfl fun w96 S97 => ?_
      refine wp_nil ?_
      refine c_seq ?_
      refine c_seq ?_
      refine reg ?_
      refine p_ldA ty92 sz92 (S97.atX (i := 1) rfl) rfl rfl ?_
      obtain ⟨r98, h99, H⟩ := bindS H
      refine p_cal (coal_book_truths_ok h99 (S97.atP (i := 2) rfl) (S97.atP (i := 1) rfl) (S97.atP (i := 0) rfl)) fu78 rfl ?_
      rintro _ w100 ⟨b102, rfl, k101, ⟨o103, n104⟩, _⟩
      have S105 := S97.addNew k101 o103 n104
      refine wp_nil ?_
      refine c_block ?_
      have S106 := S105.fix (i := 0) rfl
      obtain ⟨r107, h108, H⟩ := bindS H

      have S109 := S106
      refine c_rangeG (α := Int) (β := Unit) (ε := Coal_truth) (K := [bl b102 ([I r22.1.CoalBook.Heap.Low, I r22.1.CoalBook.Heap.High] ++ (sgE eSpan r22.1.CoalBook.Eats 2 ++ (sg r22.1.CoalBook.Extra 3 ++ [SL A26 r22.1.CoalBook.Days.length c27, I r22.1.CoalBook.Collier.Low, I r22.1.CoalBook.Collier.High, I r22.1.CoalBook.Brings, SL A28 r22.1.CoalBook.Dips.length c29, Value.map m30]))) 92, rd eCoalDay 3 A26 c27 r22.1.CoalBook.Days, rd eCoalDip 3 A28 c29 r22.1.CoalBook.Dips, mpo ekG iE m30 r22.1.costs_]) (MK := Go.Fx.mark) (XR := fun D110 => [] ++ [bx D110 (.deferred (some []))]) (it := fun {σ} yv s_ => coal_book_truths_1 s_ r22.1 yv) (enc := yE1) (coal_Wind_r1 a1) [] (fun z_1 y_1 => [bl b93 [I z_1] 3, bl b49 ([I r22.1.CoalBook.Heap.Low, I r22.1.CoalBook.Heap.High] ++ (sgE eSpan r22.1.CoalBook.Eats 2 ++ (sg r22.1.CoalBook.Extra 3 ++ [SL A26 r22.1.CoalBook.Days.length c27, I r22.1.CoalBook.Collier.Low, I r22.1.CoalBook.Collier.High, I r22.1.CoalBook.Brings, SL A28 r22.1.CoalBook.Dips.length c29, Value.map m30]))) 92, bl b11 [I a1] 3, bl b8 ([I a0.Heap.Low, I a0.Heap.High] ++ (sgE eSpan a0.Eats 2 ++ (sg a0.Extra 3 ++ [SL A1 a0.Days.length c2, I a0.Collier.Low, I a0.Collier.High, I a0.Brings, SL A4 a0.Dips.length c5]))) 29]) 0 () h108 (ent_none (X0 := (fun z_1 y_1 => [bl b93 [I z_1] 3, bl b49 ([I r22.1.CoalBook.Heap.Low, I r22.1.CoalBook.Heap.High] ++ (sgE eSpan r22.1.CoalBook.Eats 2 ++ (sg r22.1.CoalBook.Extra 3 ++ [SL A26 r22.1.CoalBook.Days.length c27, I r22.1.CoalBook.Collier.Low, I r22.1.CoalBook.Collier.High, I r22.1.CoalBook.Brings, SL A28 r22.1.CoalBook.Dips.length c29, Value.map m30]))) 92, bl b11 [I a1] 3, bl b8 ([I a0.Heap.Low, I a0.Heap.High] ++ (sgE eSpan a0.Eats 2 ++ (sg a0.Extra 3 ++ [SL A1 a0.Days.length c2, I a0.Collier.Low, I a0.Collier.High, I a0.Brings, SL A4 a0.Dips.length c5]))) 29]) 0 () ++ []) S109) rfl fu95 (fun w_ σ yv_ s_ s'_ l_ G_ A_ hH_ hG_ hk_ hd_ hy_ => (coal_book_truths_1_ok hH_ hG_ (hk_ _ (List.mem_of_getElem? (i := 0) rfl)) (hk_ _ (List.mem_of_getElem? (i := 1) rfl)) (hk_ _ (List.mem_of_getElem? (i := 2) rfl)) (hk_ _ (List.mem_of_getElem? (i := 3) rfl)) hd_ hy_ (Link.refl _ _)).mono fun en_ w3_ ⟨u_, he_, A'_, hu_, hk2_, ho_, hf_⟩ => ⟨u_, he_, hk2_, A'_, ho_, hf_⟩) (List.forall_mem_cons.2 ⟨List.mem_of_getElem? (i := 0) rfl, (List.forall_mem_cons.2 ⟨List.mem_of_getElem? (i := 3) rfl, (List.forall_mem_cons.2 ⟨List.mem_of_getElem? (i := 2) rfl, (List.forall_mem_cons.2 ⟨List.mem_of_getElem? (i := 1) rfl, (fun _ h_ => (List.not_mem_nil h_).elim)⟩)⟩)⟩)⟩) (fun _ => rfl) (fun _ h_ => (List.not_mem_nil h_).elim) ?_ ?_ ?_
      · intro l111 oR112 oB113 Cr114 x_1 z_1 y_1 w115 b116 c117 z118 PP119 H S120 hlk121 ho122 hB123 hN124 hX125
        unfold coal_Wind_r1 at H
        replace S120 : St w115 Cr114 w115 [bx l111 oR112, bl b93 [I z_1] 3, bl b49 ([I r22.1.CoalBook.Heap.Low, I r22.1.CoalBook.Heap.High] ++ (sgE eSpan r22.1.CoalBook.Eats 2 ++ (sg r22.1.CoalBook.Extra 3 ++ [SL A26 r22.1.CoalBook.Days.length c27, I r22.1.CoalBook.Collier.Low, I r22.1.CoalBook.Collier.High, I r22.1.CoalBook.Brings, SL A28 r22.1.CoalBook.Dips.length c29, Value.map m30]))) 92, bl b11 [I a1] 3, bl b8 ([I a0.Heap.Low, I a0.Heap.High] ++ (sgE eSpan a0.Eats 2 ++ (sg a0.Extra 3 ++ [SL A1 a0.Days.length c2, I a0.Collier.Low, I a0.Collier.High, I a0.Brings, SL A4 a0.Dips.length c5]))) 29] [bl b102 ([I r22.1.CoalBook.Heap.Low, I r22.1.CoalBook.Heap.High] ++ (sgE eSpan r22.1.CoalBook.Eats 2 ++ (sg r22.1.CoalBook.Extra 3 ++ [SL A26 r22.1.CoalBook.Days.length c27, I r22.1.CoalBook.Collier.Low, I r22.1.CoalBook.Collier.High, I r22.1.CoalBook.Brings, SL A28 r22.1.CoalBook.Dips.length c29, Value.map m30]))) 92, mpo ekG iE m30 r22.1.costs_, rd eCoalDip 3 A28 c29 r22.1.CoalBook.Dips, rd eCoalDay 3 A26 c27 r22.1.CoalBook.Days, rd eCoalDay 3 A1 c2 a0.Days, rd eCoalDip 3 A4 c5 a0.Dips, bl 1 [I (-1), I (-1)] 123] := S120
        refine reg ?_
        refine p_allA in108 S120 fun b126 w127 S128 => ?_
        refine p_stP (pre := []) (old := sg (List.replicate 2 0) 2 ++ ([I 0] ++ (sg (List.replicate 6 0) 6 ++ sg (List.replicate 6 0) 6))) (post := []) (vs := sg x_1.eats_ 2 ++ ([I x_1.collier_] ++ (sg x_1.winds_ 6 ++ sg x_1.coal_ 6))) sz108 S128 (i := 0) rfl rfl rfl rfl (rfl : _ = AG (sg x_1.eats_ 2 ++ ([I x_1.collier_] ++ (sg x_1.winds_ 6 ++ sg x_1.coal_ 6)))) rfl rfl rfl rfl fun w129 S130 => ?_
        refine wp_nil ?_
        refine hB123 _ _ 1 _ S130 rfl fun w131 S132 => ?_
        replace S132 : St w115 Cr114 w131 [bl b126 (sg x_1.eats_ 2 ++ ([I x_1.collier_] ++ (sg x_1.winds_ 6 ++ sg x_1.coal_ 6))) 108, bx l111 oB113, bl b93 [I z_1] 3, bl b49 ([I r22.1.CoalBook.Heap.Low, I r22.1.CoalBook.Heap.High] ++ (sgE eSpan r22.1.CoalBook.Eats 2 ++ (sg r22.1.CoalBook.Extra 3 ++ [SL A26 r22.1.CoalBook.Days.length c27, I r22.1.CoalBook.Collier.Low, I r22.1.CoalBook.Collier.High, I r22.1.CoalBook.Brings, SL A28 r22.1.CoalBook.Dips.length c29, Value.map m30]))) 92, bl b11 [I a1] 3, bl b8 ([I a0.Heap.Low, I a0.Heap.High] ++ (sgE eSpan a0.Eats 2 ++ (sg a0.Extra 3 ++ [SL A1 a0.Days.length c2, I a0.Collier.Low, I a0.Collier.High, I a0.Brings, SL A4 a0.Dips.length c5]))) 29] [bl b102 ([I r22.1.CoalBook.Heap.Low, I r22.1.CoalBook.Heap.High] ++ (sgE eSpan r22.1.CoalBook.Eats 2 ++ (sg r22.1.CoalBook.Extra 3 ++ [SL A26 r22.1.CoalBook.Days.length c27, I r22.1.CoalBook.Collier.Low, I r22.1.CoalBook.Collier.High, I r22.1.CoalBook.Brings, SL A28 r22.1.CoalBook.Dips.length c29, Value.map m30]))) 92, mpo ekG iE m30 r22.1.costs_, rd eCoalDip 3 A28 c29 r22.1.CoalBook.Dips, rd eCoalDay 3 A26 c27 r22.1.CoalBook.Days, rd eCoalDay 3 A1 c2 a0.Days, rd eCoalDip 3 A4 c5 a0.Dips, bl 1 [I (-1), I (-1)] 123] := S132
        refine c_block ?_
        obtain ⟨h133, H⟩ := needS H
        obtain ⟨h134, H⟩ := needS H
        refine reg_q mixed 7 (by kernel_rfl) ?_
        refine dS (fun _ k_ => p_ld ty3 (Asr.stays (S132.atX (i := 2) rfl) k_) rfl rfl dn) ?_
        refine dS (fun _ k_ => p_ld ty3 (Asr.stays (S132.atX (i := 4) rfl) k_) rfl rfl dn) ?_
        refine dS (fun _ k_ => p_fld fl108_2 rfl dn) ?_
        refine dS (fun _ k_ => p_ixD ar106 h133 rfl rfl dn) ?_
        refine dS (fun _ k_ => p_ldD (pre := sg x_1.eats_ 2 ++ [I x_1.collier_]) (post := sg x_1.coal_ 6) ty3 (Asr.stays (S132.atX (i := 0) rfl) k_) rfl h133 rfl rfl dn) ?_
        refine dS (fun _ k_ => p_shl h134 rfl rfl dn) ?_
        refine dS (fun _ k_ => p_orI rfl rfl dn) ?_
        intro w135 k136; have S137 := S132.call k136
        refine p_st sz3 S137 (i := 2) rfl rfl (rfl : _ = I (orI z_1 (shlI 1 (aget x_1.winds_ a1)))) rfl rfl fun w138 S139 => ?_
        refine wp_nil ?_
        have S140 := S139.pk [1, 2, 3, 4, 5] (by decide) [0, 1, 2, 3, 4, 5, 6] rfl rfl
        exact hN124 _ _ (orI z_1 (shlI 1 (aget x_1.winds_ a1))) () S140 (Option.some.inj H)
      · intro hc146
        intro l140 D141 o142 y143 w144 S145
        have S147 : St w (fun _ => False) w144 [bl b93 [I r107.2] 3, bl b49 ([I r22.1.CoalBook.Heap.Low, I r22.1.CoalBook.Heap.High] ++ (sgE eSpan r22.1.CoalBook.Eats 2 ++ (sg r22.1.CoalBook.Extra 3 ++ [SL A26 r22.1.CoalBook.Days.length c27, I r22.1.CoalBook.Collier.Low, I r22.1.CoalBook.Collier.High, I r22.1.CoalBook.Brings, SL A28 r22.1.CoalBook.Dips.length c29, Value.map m30]))) 92, bl b11 [I a1] 3, bl b8 ([I a0.Heap.Low, I a0.Heap.High] ++ (sgE eSpan a0.Eats 2 ++ (sg a0.Extra 3 ++ [SL A1 a0.Days.length c2, I a0.Collier.Low, I a0.Collier.High, I a0.Brings, SL A4 a0.Dips.length c5]))) 29, bx D141 (.deferred (some []))] [bl b102 ([I r22.1.CoalBook.Heap.Low, I r22.1.CoalBook.Heap.High] ++ (sgE eSpan r22.1.CoalBook.Eats 2 ++ (sg r22.1.CoalBook.Extra 3 ++ [SL A26 r22.1.CoalBook.Days.length c27, I r22.1.CoalBook.Collier.Low, I r22.1.CoalBook.Collier.High, I r22.1.CoalBook.Brings, SL A28 r22.1.CoalBook.Dips.length c29, Value.map m30]))) 92, mpo ekG iE m30 r22.1.costs_, rd eCoalDip 3 A28 c29 r22.1.CoalBook.Dips, rd eCoalDay 3 A26 c27 r22.1.CoalBook.Days, rd eCoalDay 3 A1 c2 a0.Days, rd eCoalDip 3 A4 c5 a0.Dips, bl 1 [I (-1), I (-1)] 123] := St.tail1 S145
        refine c_seq ?_
        refine reg ?_
        refine p_ld ty3 (S147.atX (i := 0) rfl) rfl rfl ?_
        refine p_aI rfl ?_
        refine p_aI rfl ?_
        refine wp_nil ?_
        refine c_ret ?_
        refine leave_mark S147 (i := 4) rfl fun w148 S149 => ?_
        obtain rfl := Option.some.inj H
        show bodyPostM (Fr none) 0 Tryd.prog Tryd.f29 _ .ret _ _
        refine ret_of (res2 rfl (rvT (rfl : _ = I r107.2)) (rvT (rfl : _ = I 0))) ?_
        exact ⟨_, rfl, rfl, S149.keep⟩
      · intro k150 c151 hk152 hc153
        cases hk152
  · intro e154 w155 lo156 hi157 k158 hf159 hR160 hd161
    have S162 := S13.call k158
    have q163 : e154 11 = AG ([I a0.Heap.Low, I a0.Heap.High] ++ (sgE eSpan a0.Eats 2 ++ (sg a0.Extra 3 ++ [SL A1 a0.Days.length c2, I a0.Collier.Low, I a0.Collier.High, I a0.Brings, SL A4 a0.Dips.length c5]))) := (hR160 0 11 (Nat.le_of_ble_eq_true rfl) (by decide) rfl).2.2.2
    have q164 : e154 12 = AG ([I a0.Heap.Low, I a0.Heap.High] ++ (sgE eSpan a0.Eats 2 ++ (sg a0.Extra 3 ++ [SL A1 a0.Days.length c2, I a0.Collier.Low, I a0.Collier.High, I a0.Brings, SL A4 a0.Dips.length c5]))) := (hR160 1 12 (Nat.le_of_ble_eq_true rfl) (by decide) rfl).2.2.2
    have q165 : e154 13 = I a1 := (hR160 2 13 (Nat.le_of_ble_eq_true rfl) (by decide) rfl).2.2.2
    have q166 : e154 14 = B r16 := (hR160 3 14 (Nat.le_of_ble_eq_true rfl) (by decide) rfl).2.2.2
    obtain ⟨h168, h169, h170, ⟨A26, c27, A28, c29, m30⟩, q167, h171, h172⟩ := hR160 4 15 (Nat.le_of_ble_eq_true rfl) (by decide) rfl
    replace q167 : e154 15 = TU [AG ([I r22.1.CoalBook.Heap.Low, I r22.1.CoalBook.Heap.High] ++ (sgE eSpan r22.1.CoalBook.Eats 2 ++ (sg r22.1.CoalBook.Extra 3 ++ [SL A26 r22.1.CoalBook.Days.length c27, I r22.1.CoalBook.Collier.Low, I r22.1.CoalBook.Collier.High, I r22.1.CoalBook.Brings, SL A28 r22.1.CoalBook.Dips.length c29, Value.map m30]))), I r22.2] := q167
    obtain ⟨p173, p174, p175, _⟩ := h171
    have S176 := St.addR S162 (h172 _ (.head _)) (fun b_ h_ x_ hx_ hb_ => (p173 b_ h_).elim (fun q_ => by have := x_.inb _ _ (S13.xs x_ hx_) hb_; omega) (fun ⟨q_, hq_, hqb_⟩ => S13.dp x_ hx_ q_ ((List.forall_mem_cons.2 ⟨List.mem_of_getElem? (i := 0) rfl, (List.forall_mem_cons.2 ⟨List.mem_of_getElem? (i := 1) rfl, (fun _ h_ => (List.not_mem_nil h_).elim)⟩)⟩) q_ hq_) b_ hb_ hqb_))
    have S177 := St.addR S176 (h172 _ (.tail _ (.head _))) (fun b_ h_ x_ hx_ hb_ => (p174 b_ h_).elim (fun q_ => by have := x_.inb _ _ (S13.xs x_ hx_) hb_; omega) (fun ⟨q_, hq_, hqb_⟩ => S13.dp x_ hx_ q_ (((fun _ h_ => (List.not_mem_nil h_).elim)) q_ hq_) b_ hb_ hqb_))
    have S178 := St.addR S177 (h172 _ (.tail _ (.tail _ (.head _)))) (fun b_ h_ x_ hx_ hb_ => (p175 b_ h_).elim (fun q_ => by have := x_.inb _ _ (S13.xs x_ hx_) hb_; omega) (fun ⟨q_, hq_, hqb_⟩ => S13.dp x_ hx_ q_ (((fun _ h_ => (List.not_mem_nil h_).elim)) q_ hq_) b_ hb_ hqb_))
    have q179 : e154 10 = TU [AG ([I r22.1.CoalBook.Heap.Low, I r22.1.CoalBook.Heap.High] ++ (sgE eSpan r22.1.CoalBook.Eats 2 ++ (sg r22.1.CoalBook.Extra 3 ++ [SL A26 r22.1.CoalBook.Days.length c27, I r22.1.CoalBook.Collier.Low, I r22.1.CoalBook.Collier.High, I r22.1.CoalBook.Brings, SL A28 r22.1.CoalBook.Dips.length c29, Value.map m30]))), I r22.2] := (Option.some.inj ((congrArg some q167).symm.trans (hR160 5 10 (Nat.le_of_ble_eq_true rfl) (by decide) rfl).2.2.2)).symm
    have q180 : e154 16 = AG ([I r22.1.CoalBook.Heap.Low, I r22.1.CoalBook.Heap.High] ++ (sgE eSpan r22.1.CoalBook.Eats 2 ++ (sg r22.1.CoalBook.Extra 3 ++ [SL A26 r22.1.CoalBook.Days.length c27, I r22.1.CoalBook.Collier.Low, I r22.1.CoalBook.Collier.High, I r22.1.CoalBook.Brings, SL A28 r22.1.CoalBook.Dips.length c29, Value.map m30]))) := (Option.some.inj ((congrArg (exG 0) q179).symm.trans (hR160 6 16 (Nat.le_of_ble_eq_true rfl) (by decide) rfl).2.2.2)).symm
    obtain ⟨h182, h183, h184, b49, q181, h185, h186⟩ := hR160 8 6 (Nat.le_of_ble_eq_true rfl) (by decide) rfl
    replace q181 : e154 6 = P b49 0 := q181
    obtain ⟨p187, _⟩ := h185
    have S189 := St.addO S178 (h186 _ (.head _)) (fun b_ h_ => (p187 b_ h_).elim (fun q_ => Nat.le_trans S13.keep.size (Nat.le_trans h182 q_.1)) (fun ⟨_, hq_, _⟩ => (List.not_mem_nil hq_).elim)) (List.forall_mem_cons.2 ⟨(fun b_ h1_ h2_ => (p187 b_ h1_).elim (fun q2_ => by have q1_ := Asr.inb _ _ _ (S13.atX (i := 0) rfl) h2_; omega) (fun ⟨_, hq_, _⟩ => (List.not_mem_nil hq_).elim)), (List.forall_mem_cons.2 ⟨(fun b_ h1_ h2_ => (p187 b_ h1_).elim (fun q2_ => by have q1_ := Asr.inb _ _ _ (S13.atX (i := 1) rfl) h2_; omega) (fun ⟨_, hq_, _⟩ => (List.not_mem_nil hq_).elim)), (fun _ h_ => (List.not_mem_nil h_).elim)⟩)⟩) (List.forall_mem_cons.2 ⟨(fun b_ h1_ h2_ => (p187 b_ h1_).elim (fun q1_ => (p175 b_ h2_).elim (fun q2_ => by have q3_ := hd161 8 4 (Nat.le_of_ble_eq_true rfl) (Nat.le_of_ble_eq_true rfl) (by decide) (by decide) (by decide); omega) (fun ⟨q_, hq_, hqb_⟩ => by have q5_ := h182; have q4_ := Asr.inb _ _ _ (S13.ps q_ (((fun _ h_ => (List.not_mem_nil h_).elim)) q_ hq_)) hqb_; omega)) (fun ⟨_, hq_, _⟩ => (List.not_mem_nil hq_).elim)), (List.forall_mem_cons.2 ⟨(fun b_ h1_ h2_ => (p187 b_ h1_).elim (fun q1_ => (p174 b_ h2_).elim (fun q2_ => by have q3_ := hd161 8 4 (Nat.le_of_ble_eq_true rfl) (Nat.le_of_ble_eq_true rfl) (by decide) (by decide) (by decide); omega) (fun ⟨q_, hq_, hqb_⟩ => by have q5_ := h182; have q4_ := Asr.inb _ _ _ (S13.ps q_ (((fun _ h_ => (List.not_mem_nil h_).elim)) q_ hq_)) hqb_; omega)) (fun ⟨_, hq_, _⟩ => (List.not_mem_nil hq_).elim)), (List.forall_mem_cons.2 ⟨(fun b_ h1_ h2_ => (p187 b_ h1_).elim (fun q1_ => (p173 b_ h2_).elim (fun q2_ => by have q3_ := hd161 8 4 (Nat.le_of_ble_eq_true rfl) (Nat.le_of_ble_eq_true rfl) (by decide) (by decide) (by decide); omega) (fun ⟨q_, hq_, hqb_⟩ => by have q5_ := h182; have q4_ := Asr.inb _ _ _ (S13.ps q_ ((List.forall_mem_cons.2 ⟨List.mem_of_getElem? (i := 0) rfl, (List.forall_mem_cons.2 ⟨List.mem_of_getElem? (i := 1) rfl, (fun _ h_ => (List.not_mem_nil h_).elim)⟩)⟩) q_ hq_)) hqb_; omega)) (fun ⟨_, hq_, _⟩ => (List.not_mem_nil hq_).elim)), (List.forall_mem_cons.2 ⟨(fun b_ h1_ h2_ => (p187 b_ h1_).elim (fun q2_ => by have q1_ := Asr.inb _ _ _ (S13.atP (i := 0) rfl) h2_; omega) (fun ⟨_, hq_, _⟩ => (List.not_mem_nil hq_).elim)), (List.forall_mem_cons.2 ⟨(fun b_ h1_ h2_ => (p187 b_ h1_).elim (fun q2_ => by have q1_ := Asr.inb _ _ _ (S13.atP (i := 1) rfl) h2_; omega) (fun ⟨_, hq_, _⟩ => (List.not_mem_nil hq_).elim)), (List.forall_mem_cons.2 ⟨(fun b_ h1_ h2_ => (p187 b_ h1_).elim (fun q2_ => by have q1_ := Asr.inb _ _ _ (S13.atP (i := 2) rfl) h2_; omega) (fun ⟨_, hq_, _⟩ => (List.not_mem_nil hq_).elim)), (fun _ h_ => (List.not_mem_nil h_).elim)⟩)⟩)⟩)⟩)⟩)⟩)
    refine tailE [(3, P b11 0), (6, P b49 0), (10, TU [AG ([I r22.1.CoalBook.Heap.Low, I r22.1.CoalBook.Heap.High] ++ (sgE eSpan r22.1.CoalBook.Eats 2 ++ (sg r22.1.CoalBook.Extra 3 ++ [SL A26 r22.1.CoalBook.Days.length c27, I r22.1.CoalBook.Collier.Low, I r22.1.CoalBook.Collier.High, I r22.1.CoalBook.Brings, SL A28 r22.1.CoalBook.Dips.length c29, Value.map m30]))), I r22.2]), (16, AG ([I r22.1.CoalBook.Heap.Low, I r22.1.CoalBook.Heap.High] ++ (sgE eSpan r22.1.CoalBook.Eats 2 ++ (sg r22.1.CoalBook.Extra 3 ++ [SL A26 r22.1.CoalBook.Days.length c27, I r22.1.CoalBook.Collier.Low, I r22.1.CoalBook.Collier.High, I r22.1.CoalBook.Brings, SL A28 r22.1.CoalBook.Dips.length c29, Value.map m30]))))] ⟨((hf159 3 rfl).trans (rfl : _ = P b11 0)), q181, q179, q180, trivial⟩ ?_
    intro g190
    refine p_stP (pre := []) (old := [I 0, I 0, I 0, I 0, I 0, I 0] ++ (sg (List.replicate 3 0) 3 ++ [SL none 0 0, I 0, I 0, I 0, SL none 0 0, Value.map none])) (post := []) (vs := [I r22.1.CoalBook.Heap.Low, I r22.1.CoalBook.Heap.High] ++ (sgE eSpan r22.1.CoalBook.Eats 2 ++ (sg r22.1.CoalBook.Extra 3 ++ [SL A26 r22.1.CoalBook.Days.length c27, I r22.1.CoalBook.Collier.Low, I r22.1.CoalBook.Collier.High, I r22.1.CoalBook.Brings, SL A28 r22.1.CoalBook.Dips.length c29, Value.map m30]))) sz92 S189 (i := 0) rfl rfl rfl rfl (rfl : _ = AG ([I r22.1.CoalBook.Heap.Low, I r22.1.CoalBook.Heap.High] ++ (sgE eSpan r22.1.CoalBook.Eats 2 ++ (sg r22.1.CoalBook.Extra 3 ++ [SL A26 r22.1.CoalBook.Days.length c27, I r22.1.CoalBook.Collier.Low, I r22.1.CoalBook.Collier.High, I r22.1.CoalBook.Brings, SL A28 r22.1.CoalBook.Dips.length c29, Value.map m30])))) rfl rfl rfl rfl fun w191 S192 => ?_
    refine p_ext rfl rfl ?_
    refine p_aI rfl ?_
    refine wp_nil ?_
    refine c_seq ?_
    refine c_seq ?_
    refine reg ?_
    refine p_mI rfl ?_
    refine p_cmp rfl rfl rfl ?_
    refine wp_nil ?_
    refine c_cond rfl (fun c193 => ?_) (fun c193 => ?_)
    · replace H := condT c193 H
      refine c_seq ?_
      refine reg ?_
      refine p_mI rfl ?_
      refine p_aI rfl ?_
      refine p_aI rfl ?_
      refine wp_nil ?_
      obtain rfl := Option.some.inj H
      refine c_ret ?_; show bodyPostM (Fr none) 0 Tryd.prog Tryd.f29 _ .ret _ _
      refine ret_of (res2 rfl (rvT (rfl : _ = I 0)) (rvT (rfl : _ = I r22.2))) ?_
      exact ⟨_, rfl, rfl, S192.keep⟩
    · replace H := condF c193 H
      refine c_skip ?_
      refine c_seq ?_
      refine reg ?_
      refine p_all in3 rfl S192 fun b194 w195 S196 => ?_
      refine p_st sz3 S196 (i := 0) rfl rfl (rfl : _ = I 0) rfl rfl fun w197 S198 => ?_
      refine wp_nil ?_
      refine c_seq ?_
      refine c_seq ?_
      refine reg ?_
      refine p_ldA ty92 sz92 (S198.atX (i := 1) rfl) rfl rfl ?_
      obtain ⟨r199, h200, H⟩ := bindS H
      refine p_cal (coal_book_truths_ok h200 (S198.atP (i := 2) rfl) (S198.atP (i := 1) rfl) (S198.atP (i := 0) rfl)) fu78 rfl ?_
      rintro _ w201 ⟨b203, rfl, k202, ⟨o204, n205⟩, _⟩
      have S206 := S198.addNew k202 o204 n205
      refine wp_nil ?_
      refine c_block ?_
      have S207 := S206.fix (i := 0) rfl
      obtain ⟨r208, h209, H⟩ := bindS H

      have S210 := S207
      refine c_rangeG (α := Int) (β := Unit) (ε := Coal_truth) (K := [bl b203 ([I r22.1.CoalBook.Heap.Low, I r22.1.CoalBook.Heap.High] ++ (sgE eSpan r22.1.CoalBook.Eats 2 ++ (sg r22.1.CoalBook.Extra 3 ++ [SL A26 r22.1.CoalBook.Days.length c27, I r22.1.CoalBook.Collier.Low, I r22.1.CoalBook.Collier.High, I r22.1.CoalBook.Brings, SL A28 r22.1.CoalBook.Dips.length c29, Value.map m30]))) 92, rd eCoalDay 3 A26 c27 r22.1.CoalBook.Days, rd eCoalDip 3 A28 c29 r22.1.CoalBook.Dips, mpo ekG iE m30 r22.1.costs_]) (MK := Go.Fx.mark) (XR := fun D211 => [] ++ [bx D211 (.deferred (some []))]) (it := fun {σ} yv s_ => coal_book_truths_1 s_ r22.1 yv) (enc := yE1) (coal_Wind_r2 a1) [] (fun z_1 y_1 => [bl b194 [I z_1] 3, bl b49 ([I r22.1.CoalBook.Heap.Low, I r22.1.CoalBook.Heap.High] ++ (sgE eSpan r22.1.CoalBook.Eats 2 ++ (sg r22.1.CoalBook.Extra 3 ++ [SL A26 r22.1.CoalBook.Days.length c27, I r22.1.CoalBook.Collier.Low, I r22.1.CoalBook.Collier.High, I r22.1.CoalBook.Brings, SL A28 r22.1.CoalBook.Dips.length c29, Value.map m30]))) 92, bl b11 [I a1] 3, bl b8 ([I a0.Heap.Low, I a0.Heap.High] ++ (sgE eSpan a0.Eats 2 ++ (sg a0.Extra 3 ++ [SL A1 a0.Days.length c2, I a0.Collier.Low, I a0.Collier.High, I a0.Brings, SL A4 a0.Dips.length c5]))) 29]) 0 () h209 (ent_none (X0 := (fun z_1 y_1 => [bl b194 [I z_1] 3, bl b49 ([I r22.1.CoalBook.Heap.Low, I r22.1.CoalBook.Heap.High] ++ (sgE eSpan r22.1.CoalBook.Eats 2 ++ (sg r22.1.CoalBook.Extra 3 ++ [SL A26 r22.1.CoalBook.Days.length c27, I r22.1.CoalBook.Collier.Low, I r22.1.CoalBook.Collier.High, I r22.1.CoalBook.Brings, SL A28 r22.1.CoalBook.Dips.length c29, Value.map m30]))) 92, bl b11 [I a1] 3, bl b8 ([I a0.Heap.Low, I a0.Heap.High] ++ (sgE eSpan a0.Eats 2 ++ (sg a0.Extra 3 ++ [SL A1 a0.Days.length c2, I a0.Collier.Low, I a0.Collier.High, I a0.Brings, SL A4 a0.Dips.length c5]))) 29]) 0 () ++ []) S210) rfl fu95 (fun w_ σ yv_ s_ s'_ l_ G_ A_ hH_ hG_ hk_ hd_ hy_ => (coal_book_truths_1_ok hH_ hG_ (hk_ _ (List.mem_of_getElem? (i := 0) rfl)) (hk_ _ (List.mem_of_getElem? (i := 1) rfl)) (hk_ _ (List.mem_of_getElem? (i := 2) rfl)) (hk_ _ (List.mem_of_getElem? (i := 3) rfl)) hd_ hy_ (Link.refl _ _)).mono fun en_ w3_ ⟨u_, he_, A'_, hu_, hk2_, ho_, hf_⟩ => ⟨u_, he_, hk2_, A'_, ho_, hf_⟩) (List.forall_mem_cons.2 ⟨List.mem_of_getElem? (i := 0) rfl, (List.forall_mem_cons.2 ⟨List.mem_of_getElem? (i := 3) rfl, (List.forall_mem_cons.2 ⟨List.mem_of_getElem? (i := 2) rfl, (List.forall_mem_cons.2 ⟨List.mem_of_getElem? (i := 1) rfl, (fun _ h_ => (List.not_mem_nil h_).elim)⟩)⟩)⟩)⟩) (fun _ => rfl) (fun _ h_ => (List.not_mem_nil h_).elim) ?_ ?_ ?_
      · intro l212 oR213 oB214 Cr215 x_1 z_1 y_1 w216 b217 c218 z219 PP220 H S221 hlk222 ho223 hB224 hN225 hX226
        unfold coal_Wind_r2 at H
        replace S221 : St w216 Cr215 w216 [bx l212 oR213, bl b194 [I z_1] 3, bl b49 ([I r22.1.CoalBook.Heap.Low, I r22.1.CoalBook.Heap.High] ++ (sgE eSpan r22.1.CoalBook.Eats 2 ++ (sg r22.1.CoalBook.Extra 3 ++ [SL A26 r22.1.CoalBook.Days.length c27, I r22.1.CoalBook.Collier.Low, I r22.1.CoalBook.Collier.High, I r22.1.CoalBook.Brings, SL A28 r22.1.CoalBook.Dips.length c29, Value.map m30]))) 92, bl b11 [I a1] 3, bl b8 ([I a0.Heap.Low, I a0.Heap.High] ++ (sgE eSpan a0.Eats 2 ++ (sg a0.Extra 3 ++ [SL A1 a0.Days.length c2, I a0.Collier.Low, I a0.Collier.High, I a0.Brings, SL A4 a0.Dips.length c5]))) 29] [bl b203 ([I r22.1.CoalBook.Heap.Low, I r22.1.CoalBook.Heap.High] ++ (sgE eSpan r22.1.CoalBook.Eats 2 ++ (sg r22.1.CoalBook.Extra 3 ++ [SL A26 r22.1.CoalBook.Days.length c27, I r22.1.CoalBook.Collier.Low, I r22.1.CoalBook.Collier.High, I r22.1.CoalBook.Brings, SL A28 r22.1.CoalBook.Dips.length c29, Value.map m30]))) 92, mpo ekG iE m30 r22.1.costs_, rd eCoalDip 3 A28 c29 r22.1.CoalBook.Dips, rd eCoalDay 3 A26 c27 r22.1.CoalBook.Days, rd eCoalDay 3 A1 c2 a0.Days, rd eCoalDip 3 A4 c5 a0.Dips, bl 1 [I (-1), I (-1)] 123] := S221
        refine reg ?_
        refine p_allA in108 S221 fun b227 w228 S229 => ?_
        refine p_stP (pre := []) (old := sg (List.replicate 2 0) 2 ++ ([I 0] ++ (sg (List.replicate 6 0) 6 ++ sg (List.replicate 6 0) 6))) (post := []) (vs := sg x_1.eats_ 2 ++ ([I x_1.collier_] ++ (sg x_1.winds_ 6 ++ sg x_1.coal_ 6))) sz108 S229 (i := 0) rfl rfl rfl rfl (rfl : _ = AG (sg x_1.eats_ 2 ++ ([I x_1.collier_] ++ (sg x_1.winds_ 6 ++ sg x_1.coal_ 6)))) rfl rfl rfl rfl fun w230 S231 => ?_
        refine wp_nil ?_
        refine hB224 _ _ 1 _ S231 rfl fun w232 S233 => ?_
        replace S233 : St w216 Cr215 w232 [bl b227 (sg x_1.eats_ 2 ++ ([I x_1.collier_] ++ (sg x_1.winds_ 6 ++ sg x_1.coal_ 6))) 108, bx l212 oB214, bl b194 [I z_1] 3, bl b49 ([I r22.1.CoalBook.Heap.Low, I r22.1.CoalBook.Heap.High] ++ (sgE eSpan r22.1.CoalBook.Eats 2 ++ (sg r22.1.CoalBook.Extra 3 ++ [SL A26 r22.1.CoalBook.Days.length c27, I r22.1.CoalBook.Collier.Low, I r22.1.CoalBook.Collier.High, I r22.1.CoalBook.Brings, SL A28 r22.1.CoalBook.Dips.length c29, Value.map m30]))) 92, bl b11 [I a1] 3, bl b8 ([I a0.Heap.Low, I a0.Heap.High] ++ (sgE eSpan a0.Eats 2 ++ (sg a0.Extra 3 ++ [SL A1 a0.Days.length c2, I a0.Collier.Low, I a0.Collier.High, I a0.Brings, SL A4 a0.Dips.length c5]))) 29] [bl b203 ([I r22.1.CoalBook.Heap.Low, I r22.1.CoalBook.Heap.High] ++ (sgE eSpan r22.1.CoalBook.Eats 2 ++ (sg r22.1.CoalBook.Extra 3 ++ [SL A26 r22.1.CoalBook.Days.length c27, I r22.1.CoalBook.Collier.Low, I r22.1.CoalBook.Collier.High, I r22.1.CoalBook.Brings, SL A28 r22.1.CoalBook.Dips.length c29, Value.map m30]))) 92, mpo ekG iE m30 r22.1.costs_, rd eCoalDip 3 A28 c29 r22.1.CoalBook.Dips, rd eCoalDay 3 A26 c27 r22.1.CoalBook.Days, rd eCoalDay 3 A1 c2 a0.Days, rd eCoalDip 3 A4 c5 a0.Dips, bl 1 [I (-1), I (-1)] 123] := S233
        refine c_block ?_
        obtain ⟨h234, H⟩ := needS H
        obtain ⟨h235, H⟩ := needS H
        refine reg_q mixed 7 (by kernel_rfl) ?_
        refine dS (fun _ k_ => p_ld ty3 (Asr.stays (S233.atX (i := 2) rfl) k_) rfl rfl dn) ?_
        refine dS (fun _ k_ => p_ld ty3 (Asr.stays (S233.atX (i := 4) rfl) k_) rfl rfl dn) ?_
        refine dS (fun _ k_ => p_fld fl108_2 rfl dn) ?_
        refine dS (fun _ k_ => p_ixD ar106 h234 rfl rfl dn) ?_
        refine dS (fun _ k_ => p_ldD (pre := sg x_1.eats_ 2 ++ [I x_1.collier_]) (post := sg x_1.coal_ 6) ty3 (Asr.stays (S233.atX (i := 0) rfl) k_) rfl h234 rfl rfl dn) ?_
        refine dS (fun _ k_ => p_shl h235 rfl rfl dn) ?_
        refine dS (fun _ k_ => p_orI rfl rfl dn) ?_
        intro w236 k237; have S238 := S233.call k237
        refine p_st sz3 S238 (i := 2) rfl rfl (rfl : _ = I (orI z_1 (shlI 1 (aget x_1.winds_ a1)))) rfl rfl fun w239 S240 => ?_
        refine wp_nil ?_
        have S241 := S240.pk [1, 2, 3, 4, 5] (by decide) [0, 1, 2, 3, 4, 5, 6] rfl rfl
        exact hN225 _ _ (orI z_1 (shlI 1 (aget x_1.winds_ a1))) () S241 (Option.some.inj H)
      · intro hc247
        intro l241 D242 o243 y244 w245 S246
        have S248 : St w (fun _ => False) w245 [bl b194 [I r208.2] 3, bl b49 ([I r22.1.CoalBook.Heap.Low, I r22.1.CoalBook.Heap.High] ++ (sgE eSpan r22.1.CoalBook.Eats 2 ++ (sg r22.1.CoalBook.Extra 3 ++ [SL A26 r22.1.CoalBook.Days.length c27, I r22.1.CoalBook.Collier.Low, I r22.1.CoalBook.Collier.High, I r22.1.CoalBook.Brings, SL A28 r22.1.CoalBook.Dips.length c29, Value.map m30]))) 92, bl b11 [I a1] 3, bl b8 ([I a0.Heap.Low, I a0.Heap.High] ++ (sgE eSpan a0.Eats 2 ++ (sg a0.Extra 3 ++ [SL A1 a0.Days.length c2, I a0.Collier.Low, I a0.Collier.High, I a0.Brings, SL A4 a0.Dips.length c5]))) 29, bx D242 (.deferred (some []))] [bl b203 ([I r22.1.CoalBook.Heap.Low, I r22.1.CoalBook.Heap.High] ++ (sgE eSpan r22.1.CoalBook.Eats 2 ++ (sg r22.1.CoalBook.Extra 3 ++ [SL A26 r22.1.CoalBook.Days.length c27, I r22.1.CoalBook.Collier.Low, I r22.1.CoalBook.Collier.High, I r22.1.CoalBook.Brings, SL A28 r22.1.CoalBook.Dips.length c29, Value.map m30]))) 92, mpo ekG iE m30 r22.1.costs_, rd eCoalDip 3 A28 c29 r22.1.CoalBook.Dips, rd eCoalDay 3 A26 c27 r22.1.CoalBook.Days, rd eCoalDay 3 A1 c2 a0.Days, rd eCoalDip 3 A4 c5 a0.Dips, bl 1 [I (-1), I (-1)] 123] := St.tail1 S246
        refine c_seq ?_
        refine reg ?_
        refine p_ld ty3 (S248.atX (i := 0) rfl) rfl rfl ?_
        refine p_aI rfl ?_
        refine p_aI rfl ?_
        refine wp_nil ?_
        refine c_ret ?_
        refine leave_mark S248 (i := 4) rfl fun w249 S250 => ?_
        obtain rfl := Option.some.inj H
        show bodyPostM (Fr none) 0 Tryd.prog Tryd.f29 _ .ret _ _
        refine ret_of (res2 rfl (rvT (rfl : _ = I r208.2)) (rvT (rfl : _ = I 0))) ?_
        exact ⟨_, rfl, rfl, S250.keep⟩
      · intro k251 c252 hk253 hc254
        cases hk253

def coal_eaten_1 (a0 : Coal_truth) (q0 : Int) : Option Int :=
  need (inI q0 2) <|
  some (aget a0.eats_ q0)

set_option maxRecDepth 100000 in
theorem coal_eaten_1_ok {a0 : Coal_truth} {q0 : Int} {b1 : Nat} {w : World} {r : Int} (H : coal_eaten_1 a0 q0 = some r) (h2 : (bl b1 [I q0] 3).ok w) : Calls Tryd.prog 98 #[AG (sg a0.eats_ 2 ++ ([I a0.collier_] ++ (sg a0.winds_ 6 ++ sg a0.coal_ 6))), P b1 0] w (RetV w (I r)) := by
  unfold coal_eaten_1 at H
  refine fn_of (n := 8) Tryd.func98 rfl rfl (Nat.le_of_ble_eq_true rfl) ?_
  have S : St w (fun _ => False) w [] [bl b1 [I q0] 3] := St.start w _ _ (List.forall_mem_cons.2 ⟨h2, (fun _ h_ => (List.not_mem_nil h_).elim)⟩)
  refine c_seq ?_
  refine reg ?_
  refine p_boxA rfl S fun b3 w4 S5 => ?_
  refine p_aI rfl ?_
  refine wp_nil ?_
  refine c_seq ?_
  refine reg ?_
  refine p_ld ty3 (S5.atP (i := 0) rfl) rfl rfl ?_
  refine p_fld fl108_0 rfl ?_
  obtain ⟨h6, H⟩ := needS H
  refine p_ixD ar105 h6 rfl rfl ?_
  refine p_ldD (pre := []) (post := [I a0.collier_] ++ (sg a0.winds_ 6 ++ sg a0.coal_ 6)) ty3 (S5.atX (i := 0) rfl) rfl h6 rfl rfl ?_
  refine p_aI rfl ?_
  refine wp_nil ?_
  obtain rfl := Option.some.inj H
  refine c_ret ?_; show bodyPostM (Fr none) 0 Tryd.prog Tryd.f98 _ .ret _ _
  refine ret_of (res1 rfl (rvT (rfl : _ = I (aget a0.eats_ q0)))) ?_
  exact ⟨_, rfl, rfl, S5.keep⟩

def coal_eaten (a0 : Int) : Option Unit :=
  some ()

set_option maxRecDepth 100000 in
theorem coal_eaten_ok {a0 : Int} {w : World} {r : Unit} (H : coal_eaten a0 = some r) : Calls Tryd.prog 80 #[I a0] w fun en w_ => ∃ u_, en = .returned u_ ∧ ∃ b_1 : Nat, u_ = AG [Value.func (.func 98) #[] #[P b_1 0]] ∧ Keep0 w w_ ∧ ((bl b_1 [I a0] 3).ok w_ ∧ New w.heap.size (bl b_1 [I a0] 3)) ∧ True := by
  unfold coal_eaten at H
  refine fn_of (n := 5) Tryd.func80 rfl rfl (Nat.le_of_ble_eq_true rfl) ?_
  have S : St w (fun _ => False) w [] [] := St.start w _ _ (fun _ h_ => (List.not_mem_nil h_).elim)
  refine c_seq ?_
  refine reg ?_
  refine p_box (rfl : _ = I a0) rfl S fun b1 w2 S3 => ?_
  refine p_allA in101 S3 fun b4 w5 S6 => ?_
  refine wp_nil ?_
  refine c_seq ?_
  refine reg ?_
  refine o_fun (rfl : _ = []) (rfl : _ = [P b1 0]) ?_
  refine p_bld (cs := [Value.func (.func 98) #[] #[P b1 0]]) st101 (rfl : _ = [(0, Value.func (.func 98) #[] #[P b1 0])]) (by kernel_rfl) ?_
  refine p_stP (pre := []) (old := [Value.nilFunc]) (post := []) (vs := [Value.func (.func 98) #[] #[P b1 0]]) sz101 S6 (i := 0) rfl rfl rfl rfl (rfl : _ = AG [Value.func (.func 98) #[] #[P b1 0]]) rfl rfl rfl rfl fun w7 S8 => ?_
  refine wp_nil ?_
  obtain rfl := Option.some.inj H
  refine c_ret ?_; show bodyPostM (Fr none) 0 Tryd.prog Tryd.f80 _ .ret _ _
  refine ret_of (res1 rfl (rvA rfl ty101 sz101 (S8.atX (i := 0) rfl) rfl)) ?_
  exact ⟨_, rfl, b1, rfl, S8.keep, ⟨S8.atX (i := 1) rfl, S8.newX (i := 1) rfl⟩, trivial⟩

def coal_Eats (a0 : CoalBook) (a1 : Int) : Option (Span × Int) :=
  (coal_within a1 0 1).bind fun r15 =>
  (coal_asked a0 r15).bind fun r21 =>
  bif (r21.2 != 0) then (some ((Span.mk 0 0), r21.2))
  else ((coal_eaten a1).bind fun r96 =>
  (coal_book_span r21.1 (Coal_number.mk (fun y107 => coal_eaten_1 y107 a1))).bind fun r108 =>
  some (r108, 0))

set_option maxRecDepth 100000 in
theorem coal_Eats_ok {a0 : CoalBook} {a1 : Int} {A1 : Option Addr} {c2 : Nat} {A4 : Option Addr} {c5 : Nat} {w : World} {r : Span × Int} (H : coal_Eats a0 a1 = some r) (h3 : (rd eCoalDay 3 A1 c2 a0.Days).ok w) (h6 : (rd eCoalDip 3 A4 c5 a0.Dips).ok w) (hg7 : (bl 1 [I (-1), I (-1)] 123).ok w) : Calls Tryd.prog 35 #[AG ([I a0.Heap.Low, I a0.Heap.High] ++ (sgE eSpan a0.Eats 2 ++ (sg a0.Extra 3 ++ [SL A1 a0.Days.length c2, I a0.Collier.Low, I a0.Collier.High, I a0.Brings, SL A4 a0.Dips.length c5]))), I a1] w (RetV w (TU [AG [I r.1.Low, I r.1.High], I r.2])) := by
  unfold coal_Eats at H
  refine fn_of (n := 23) Tryd.func35 rfl rfl (Nat.le_of_ble_eq_true rfl) ?_
  have S : St w (fun _ => False) w [] [rd eCoalDay 3 A1 c2 a0.Days, rd eCoalDip 3 A4 c5 a0.Dips, bl 1 [I (-1), I (-1)] 123] := St.start w _ _ (List.forall_mem_cons.2 ⟨h3, (List.forall_mem_cons.2 ⟨h6, (List.forall_mem_cons.2 ⟨hg7, (fun _ h_ => (List.not_mem_nil h_).elim)⟩)⟩)⟩)
  refine c_seq ?_
  refine reg ?_
  refine p_boxA rfl S fun b8 w9 S10 => ?_
  refine p_allA in23 S10 fun b11 w12 S13 => ?_
  refine p_aI rfl ?_
  refine wp_nil ?_
  refine c_seq ?_
  obtain ⟨r15, h16, H⟩ := bindS H
  obtain ⟨r21, h22, H⟩ := bindS H
  refine reg_fl mixed 8 6 (by kernel_rfl) [rv (AG ([I a0.Heap.Low, I a0.Heap.High] ++ (sgE eSpan a0.Eats 2 ++ (sg a0.Extra 3 ++ [SL A1 a0.Days.length c2, I a0.Collier.Low, I a0.Collier.High, I a0.Brings, SL A4 a0.Dips.length c5])))), rv (I a1), rv (B r15), rx (α := (Option Addr) × Nat × (Option Addr) × Nat × (Option Nat)) (fun ⟨A25, c26, A27, c28, m29⟩ => TU [AG ([I r21.1.CoalBook.Heap.Low, I r21.1.CoalBook.Heap.High] ++ (sgE eSpan r21.1.CoalBook.Eats 2 ++ (sg r21.1.CoalBook.Extra 3 ++ [SL A25 r21.1.CoalBook.Days.length c26, I r21.1.CoalBook.Collier.Low, I r21.1.CoalBook.Collier.High, I r21.1.CoalBook.Brings, SL A27 r21.1.CoalBook.Dips.length c28, Value.map m29]))), I r21.2]) (fun ⟨A25, c26, A27, c28, m29⟩ lo hi => BtwL lo hi [rd eCoalDay 3 A1 c2 a0.Days, rd eCoalDip 3 A4 c5 a0.Dips] (rd eCoalDay 3 A25 c26 r21.1.CoalBook.Days) ∧ BtwL lo hi [] (rd eCoalDip 3 A27 c28 r21.1.CoalBook.Dips) ∧ BtwL lo hi [] (mpo ekG iE m29 r21.1.costs_) ∧ True) (fun ⟨A25, c26, A27, c28, m29⟩ => [rd eCoalDay 3 A25 c26 r21.1.CoalBook.Days, rd eCoalDip 3 A27 c28 r21.1.CoalBook.Dips, mpo ekG iE m29 r21.1.costs_]), dv 12 some, dv 8 (exG 0), dv 8 (exG 1), rx (α := Nat) (fun b48 => P b48 0) (fun b48 lo hi => BtwL lo hi [] (bl b48 ([I 0, I 0, I 0, I 0, I 0, I 0] ++ (sg (List.replicate 3 0) 3 ++ [SL none 0 0, I 0, I 0, I 0, SL none 0 0, Value.map none])) 92) ∧ True) (fun b48 => [bl b48 ([I 0, I 0, I 0, I 0, I 0, I 0] ++ (sg (List.replicate 3 0) 3 ++ [SL none 0 0, I 0, I 0, I 0, SL none 0 0, Value.map none])) 92])] [[], [], [], [], [12], [8], [8], []] rfl (by kernel_rfl) [[], [], [1], [0, 1, 2], [0, 1, 2, 3], [0, 1, 2, 3, 4], [0, 1, 2, 3, 4], [], [0, 1, 2, 3, 4, 5, 7], [0, 1, 2, 3, 4, 5, 6, 7, 8]] (by kernel_rfl) ⟨?_, ?_, ?_, ?_, ?_, ?_, ?_, ?_, trivial⟩ ?_ ?_
  · intro e_ w_ k_ hf_ hR_
    have S_ : St w_ (fun _ => False) w_ [] [bl b11 [I 0, I 0] 23, bl b8 ([I a0.Heap.Low, I a0.Heap.High] ++ (sgE eSpan a0.Eats 2 ++ (sg a0.Extra 3 ++ [SL A1 a0.Days.length c2, I a0.Collier.Low, I a0.Collier.High, I a0.Brings, SL A4 a0.Dips.length c5]))) 29, rd eCoalDay 3 A1 c2 a0.Days, rd eCoalDip 3 A4 c5 a0.Dips, bl 1 [I (-1), I (-1)] 123] := S13.asP k_
    refine hopE [(2, P b8 0)] ⟨((hf_ 2 rfl).trans (rfl : _ = P b8 0)), trivial⟩ ?_
    refine p_ldA ty29 sz29 (S_.atP (i := 1) rfl) rfl rfl ?_
    refine wp_nil ?_
    exact ⟨_, rfl, S_.keep, rfl⟩
  · intro e_ w_ k_ hf_ hR_
    have S_ : St w_ (fun _ => False) w_ [] [bl b11 [I 0, I 0] 23, bl b8 ([I a0.Heap.Low, I a0.Heap.High] ++ (sgE eSpan a0.Eats 2 ++ (sg a0.Extra 3 ++ [SL A1 a0.Days.length c2, I a0.Collier.Low, I a0.Collier.High, I a0.Brings, SL A4 a0.Dips.length c5]))) 29, rd eCoalDay 3 A1 c2 a0.Days, rd eCoalDip 3 A4 c5 a0.Dips, bl 1 [I (-1), I (-1)] 123] := S13.asP k_
    refine hopE [(1, I a1)] ⟨((hf_ 1 rfl).trans (rfl : _ = I a1)), trivial⟩ ?_
    refine p_mI rfl ?_
    refine wp_nil ?_
    exact ⟨_, rfl, S_.keep, rfl⟩
  · intro e_ w_ k_ hf_ hR_
    have S_ : St w_ (fun _ => False) w_ [] [bl b11 [I 0, I 0] 23, bl b8 ([I a0.Heap.Low, I a0.Heap.High] ++ (sgE eSpan a0.Eats 2 ++ (sg a0.Extra 3 ++ [SL A1 a0.Days.length c2, I a0.Collier.Low, I a0.Collier.High, I a0.Brings, SL A4 a0.Dips.length c5]))) 29, rd eCoalDay 3 A1 c2 a0.Days, rd eCoalDip 3 A4 c5 a0.Dips, bl 1 [I (-1), I (-1)] 123] := S13.asP k_
    obtain ⟨_, _, _, _, q14⟩ := hR_ 1 10 rfl (Nat.le_of_ble_eq_true rfl) rfl
    refine hopE [(10, I a1)] ⟨q14, trivial⟩ ?_
    refine p_cv (coal_within_ok h16) fu79 rfl S_ fun w17 S18 => ?_
    refine wp_nil ?_
    exact ⟨_, rfl, S18.keep, rfl⟩
  · intro e_ w_ k_ hf_ hR_
    have S_ : St w_ (fun _ => False) w_ [] [bl b11 [I 0, I 0] 23, bl b8 ([I a0.Heap.Low, I a0.Heap.High] ++ (sgE eSpan a0.Eats 2 ++ (sg a0.Extra 3 ++ [SL A1 a0.Days.length c2, I a0.Collier.Low, I a0.Collier.High, I a0.Brings, SL A4 a0.Dips.length c5]))) 29, rd eCoalDay 3 A1 c2 a0.Days, rd eCoalDip 3 A4 c5 a0.Dips, bl 1 [I (-1), I (-1)] 123] := S13.asP k_
    obtain ⟨_, _, _, _, q19⟩ := hR_ 0 9 rfl (Nat.le_of_ble_eq_true rfl) rfl
    obtain ⟨_, _, _, _, q20⟩ := hR_ 2 11 rfl (Nat.le_of_ble_eq_true rfl) rfl
    refine hopE [(9, AG ([I a0.Heap.Low, I a0.Heap.High] ++ (sgE eSpan a0.Eats 2 ++ (sg a0.Extra 3 ++ [SL A1 a0.Days.length c2, I a0.Collier.Low, I a0.Collier.High, I a0.Brings, SL A4 a0.Dips.length c5])))), (11, B r15)] ⟨q19, q20, trivial⟩ ?_
    refine p_cal (coal_asked_ok h22 (S_.atP (i := 2) rfl) (S_.atP (i := 3) rfl) (S_.atP (i := 4) rfl)) fu74 rfl ?_
    rintro _ w23 ⟨A25, c26, A27, c28, m29, rfl, k24, ⟨o30, n31⟩, ⟨o32, n33⟩, ⟨o34, n35⟩, _⟩
    have S36 := S_.callN k24 [rd eCoalDay 3 A25 c26 r21.1.CoalBook.Days, rd eCoalDip 3 A27 c28 r21.1.CoalBook.Dips, mpo ekG iE m29 r21.1.costs_] (List.forall_mem_cons.2 ⟨⟨o30, Al.inL n31 ((List.forall_mem_cons.2 ⟨(fp_mem (i := 2) rfl), (List.forall_mem_cons.2 ⟨(fp_mem (i := 3) rfl), (fun _ h_ => (List.not_mem_nil h_).elim)⟩)⟩))⟩, (List.forall_mem_cons.2 ⟨⟨o32, New.inL n33⟩, (List.forall_mem_cons.2 ⟨⟨o34, New.inL n35⟩, (fun _ h_ => (List.not_mem_nil h_).elim)⟩)⟩)⟩)
    refine wp_nil ?_
    exact ⟨_, rfl, S36.keep, ⟨(A25, c26, A27, c28, m29), rfl, ⟨BtwL.of n31 rfl (S36.atP (i := 0) rfl) rfl, BtwL.of (New.al (New.mono n33 S_.keep.size)) rfl (S36.atP (i := 1) rfl) rfl, BtwL.of (New.al (New.mono n35 S_.keep.size)) rfl (S36.atP (i := 2) rfl) rfl, trivial⟩, (List.forall_mem_cons.2 ⟨(S36.atP (i := 0) rfl), (List.forall_mem_cons.2 ⟨(S36.atP (i := 1) rfl), (List.forall_mem_cons.2 ⟨(S36.atP (i := 2) rfl), (fun _ h_ => (List.not_mem_nil h_).elim)⟩)⟩)⟩)⟩⟩
  · intro e_ w_ k_ hf_ hR_
    have S_ : St w_ (fun _ => False) w_ [] [bl b11 [I 0, I 0] 23, bl b8 ([I a0.Heap.Low, I a0.Heap.High] ++ (sgE eSpan a0.Eats 2 ++ (sg a0.Extra 3 ++ [SL A1 a0.Days.length c2, I a0.Collier.Low, I a0.Collier.High, I a0.Brings, SL A4 a0.Dips.length c5]))) 29, rd eCoalDay 3 A1 c2 a0.Days, rd eCoalDip 3 A4 c5 a0.Dips, bl 1 [I (-1), I (-1)] 123] := S13.asP k_
    obtain ⟨_, _, _, _, ⟨A25, c26, A27, c28, m29⟩, q37, p38, a39⟩ := hR_ 3 12 rfl (Nat.le_of_ble_eq_true rfl) rfl
    replace q37 : e_ 12 = TU [AG ([I r21.1.CoalBook.Heap.Low, I r21.1.CoalBook.Heap.High] ++ (sgE eSpan r21.1.CoalBook.Eats 2 ++ (sg r21.1.CoalBook.Extra 3 ++ [SL A25 r21.1.CoalBook.Days.length c26, I r21.1.CoalBook.Collier.Low, I r21.1.CoalBook.Collier.High, I r21.1.CoalBook.Brings, SL A27 r21.1.CoalBook.Dips.length c28, Value.map m29]))), I r21.2] := q37
    have S_ := St.addL' S_ (a39 _ (.head _)) (fun _ _ _ h_ => (List.not_mem_nil h_).elim)
    have S_ := St.addL' S_ (a39 _ (.tail _ (.head _))) (fun _ _ _ h_ => (List.not_mem_nil h_).elim)
    have S_ := St.addL' S_ (a39 _ (.tail _ (.tail _ (.head _)))) (fun _ _ _ h_ => (List.not_mem_nil h_).elim)
    refine hopE [(12, TU [AG ([I r21.1.CoalBook.Heap.Low, I r21.1.CoalBook.Heap.High] ++ (sgE eSpan r21.1.CoalBook.Eats 2 ++ (sg r21.1.CoalBook.Extra 3 ++ [SL A25 r21.1.CoalBook.Days.length c26, I r21.1.CoalBook.Collier.Low, I r21.1.CoalBook.Collier.High, I r21.1.CoalBook.Brings, SL A27 r21.1.CoalBook.Dips.length c28, Value.map m29]))), I r21.2])] ⟨q37, trivial⟩ ?_
    refine p_mT rfl ?_
    refine wp_nil ?_
    exact ⟨_, rfl, S_.keep, rfl⟩
  · intro e_ w_ k_ hf_ hR_
    have S_ : St w_ (fun _ => False) w_ [] [bl b11 [I 0, I 0] 23, bl b8 ([I a0.Heap.Low, I a0.Heap.High] ++ (sgE eSpan a0.Eats 2 ++ (sg a0.Extra 3 ++ [SL A1 a0.Days.length c2, I a0.Collier.Low, I a0.Collier.High, I a0.Brings, SL A4 a0.Dips.length c5]))) 29, rd eCoalDay 3 A1 c2 a0.Days, rd eCoalDip 3 A4 c5 a0.Dips, bl 1 [I (-1), I (-1)] 123] := S13.asP k_
    obtain ⟨_, _, _, _, ⟨A25, c26, A27, c28, m29⟩, q41, p42, a43⟩ := hR_ 3 12 rfl (Nat.le_of_ble_eq_true rfl) rfl
    replace q41 : e_ 12 = TU [AG ([I r21.1.CoalBook.Heap.Low, I r21.1.CoalBook.Heap.High] ++ (sgE eSpan r21.1.CoalBook.Eats 2 ++ (sg r21.1.CoalBook.Extra 3 ++ [SL A25 r21.1.CoalBook.Days.length c26, I r21.1.CoalBook.Collier.Low, I r21.1.CoalBook.Collier.High, I r21.1.CoalBook.Brings, SL A27 r21.1.CoalBook.Dips.length c28, Value.map m29]))), I r21.2] := q41
    have S_ := St.addL' S_ (a43 _ (.head _)) (fun _ _ _ h_ => (List.not_mem_nil h_).elim)
    have S_ := St.addL' S_ (a43 _ (.tail _ (.head _))) (fun _ _ _ h_ => (List.not_mem_nil h_).elim)
    have S_ := St.addL' S_ (a43 _ (.tail _ (.tail _ (.head _)))) (fun _ _ _ h_ => (List.not_mem_nil h_).elim)
    obtain ⟨_, _, _, _, q40⟩ := hR_ 4 8 rfl (Nat.le_of_ble_eq_true rfl) rfl
    replace q40 : e_ 8 = TU [AG ([I r21.1.CoalBook.Heap.Low, I r21.1.CoalBook.Heap.High] ++ (sgE eSpan r21.1.CoalBook.Eats 2 ++ (sg r21.1.CoalBook.Extra 3 ++ [SL A25 r21.1.CoalBook.Days.length c26, I r21.1.CoalBook.Collier.Low, I r21.1.CoalBook.Collier.High, I r21.1.CoalBook.Brings, SL A27 r21.1.CoalBook.Dips.length c28, Value.map m29]))), I r21.2] := (Option.some.inj ((congrArg some q41).symm.trans q40)).symm
    refine hopE [(8, TU [AG ([I r21.1.CoalBook.Heap.Low, I r21.1.CoalBook.Heap.High] ++ (sgE eSpan r21.1.CoalBook.Eats 2 ++ (sg r21.1.CoalBook.Extra 3 ++ [SL A25 r21.1.CoalBook.Days.length c26, I r21.1.CoalBook.Collier.Low, I r21.1.CoalBook.Collier.High, I r21.1.CoalBook.Brings, SL A27 r21.1.CoalBook.Dips.length c28, Value.map m29]))), I r21.2])] ⟨q40, trivial⟩ ?_
    refine p_ext rfl rfl ?_
    refine wp_nil ?_
    exact ⟨_, rfl, S_.keep, rfl⟩
  · intro e_ w_ k_ hf_ hR_
    have S_ : St w_ (fun _ => False) w_ [] [bl b11 [I 0, I 0] 23, bl b8 ([I a0.Heap.Low, I a0.Heap.High] ++ (sgE eSpan a0.Eats 2 ++ (sg a0.Extra 3 ++ [SL A1 a0.Days.length c2, I a0.Collier.Low, I a0.Collier.High, I a0.Brings, SL A4 a0.Dips.length c5]))) 29, rd eCoalDay 3 A1 c2 a0.Days, rd eCoalDip 3 A4 c5 a0.Dips, bl 1 [I (-1), I (-1)] 123] := S13.asP k_
    obtain ⟨_, _, _, _, ⟨A25, c26, A27, c28, m29⟩, q45, p46, a47⟩ := hR_ 3 12 rfl (Nat.le_of_ble_eq_true rfl) rfl
    replace q45 : e_ 12 = TU [AG ([I r21.1.CoalBook.Heap.Low, I r21.1.CoalBook.Heap.High] ++ (sgE eSpan r21.1.CoalBook.Eats 2 ++ (sg r21.1.CoalBook.Extra 3 ++ [SL A25 r21.1.CoalBook.Days.length c26, I r21.1.CoalBook.Collier.Low, I r21.1.CoalBook.Collier.High, I r21.1.CoalBook.Brings, SL A27 r21.1.CoalBook.Dips.length c28, Value.map m29]))), I r21.2] := q45
    have S_ := St.addL' S_ (a47 _ (.head _)) (fun _ _ _ h_ => (List.not_mem_nil h_).elim)
    have S_ := St.addL' S_ (a47 _ (.tail _ (.head _))) (fun _ _ _ h_ => (List.not_mem_nil h_).elim)
    have S_ := St.addL' S_ (a47 _ (.tail _ (.tail _ (.head _)))) (fun _ _ _ h_ => (List.not_mem_nil h_).elim)
    obtain ⟨_, _, _, _, q44⟩ := hR_ 4 8 rfl (Nat.le_of_ble_eq_true rfl) rfl
    replace q44 : e_ 8 = TU [AG ([I r21.1.CoalBook.Heap.Low, I r21.1.CoalBook.Heap.High] ++ (sgE eSpan r21.1.CoalBook.Eats 2 ++ (sg r21.1.CoalBook.Extra 3 ++ [SL A25 r21.1.CoalBook.Days.length c26, I r21.1.CoalBook.Collier.Low, I r21.1.CoalBook.Collier.High, I r21.1.CoalBook.Brings, SL A27 r21.1.CoalBook.Dips.length c28, Value.map m29]))), I r21.2] := (Option.some.inj ((congrArg some q45).symm.trans q44)).symm
    refine hopE [(8, TU [AG ([I r21.1.CoalBook.Heap.Low, I r21.1.CoalBook.Heap.High] ++ (sgE eSpan r21.1.CoalBook.Eats 2 ++ (sg r21.1.CoalBook.Extra 3 ++ [SL A25 r21.1.CoalBook.Days.length c26, I r21.1.CoalBook.Collier.Low, I r21.1.CoalBook.Collier.High, I r21.1.CoalBook.Brings, SL A27 r21.1.CoalBook.Dips.length c28, Value.map m29]))), I r21.2])] ⟨q44, trivial⟩ ?_
    refine p_ext rfl rfl ?_
    refine wp_nil ?_
    exact ⟨_, rfl, S_.keep, rfl⟩
  · intro e_ w_ k_ hf_ hR_
    have S_ : St w_ (fun _ => False) w_ [] [bl b11 [I 0, I 0] 23, bl b8 ([I a0.Heap.Low, I a0.Heap.High] ++ (sgE eSpan a0.Eats 2 ++ (sg a0.Extra 3 ++ [SL A1 a0.Days.length c2, I a0.Collier.Low, I a0.Collier.High, I a0.Brings, SL A4 a0.Dips.length c5]))) 29, rd eCoalDay 3 A1 c2 a0.Days, rd eCoalDip 3 A4 c5 a0.Dips, bl 1 [I (-1), I (-1)] 123] := S13.asP k_
    refine hopE [] trivial ?_
    refine p_allA in92 S_ fun b48 w49 S50 => ?_
    refine wp_nil ?_
    exact ⟨_, rfl, S50.keep, ⟨b48, rfl, ⟨BtwL.of (New.al (S50.newX (i := 0) rfl)) rfl (S50.atX (i := 0) rfl) rfl, trivial⟩, (List.forall_mem_cons.2 ⟨(S50.atX (i := 0) rfl), (fun _ h_ => (List.not_mem_nil h_).elim)⟩)⟩⟩
  · intro e51 w52 lo53 hi54 k55 hf56 hR57 hd58
    have S59 := S13.call k55
    have q60 : e51 9 = AG ([I a0.Heap.Low, I a0.Heap.High] ++ (sgE eSpan a0.Eats 2 ++ (sg a0.Extra 3 ++ [SL A1 a0.Days.length c2, I a0.Collier.Low, I a0.Collier.High, I a0.Brings, SL A4 a0.Dips.length c5]))) := (hR57 0 9 (Nat.le_of_ble_eq_true rfl) rfl).2.2.2
    have q61 : e51 10 = I a1 := (hR57 1 10 (Nat.le_of_ble_eq_true rfl) rfl).2.2.2
    have q62 : e51 11 = B r15 := (hR57 2 11 (Nat.le_of_ble_eq_true rfl) rfl).2.2.2
    obtain ⟨h64, h65, h66, ⟨A25, c26, A27, c28, m29⟩, q63, h67, h68⟩ := hR57 3 12 (Nat.le_of_ble_eq_true rfl) rfl
    replace q63 : e51 12 = TU [AG ([I r21.1.CoalBook.Heap.Low, I r21.1.CoalBook.Heap.High] ++ (sgE eSpan r21.1.CoalBook.Eats 2 ++ (sg r21.1.CoalBook.Extra 3 ++ [SL A25 r21.1.CoalBook.Days.length c26, I r21.1.CoalBook.Collier.Low, I r21.1.CoalBook.Collier.High, I r21.1.CoalBook.Brings, SL A27 r21.1.CoalBook.Dips.length c28, Value.map m29]))), I r21.2] := q63
    obtain ⟨p69, p70, p71, _⟩ := h67
    have S72 := St.addR S59 (h68 _ (.head _)) (fun b_ h_ x_ hx_ hb_ => (p69 b_ h_).elim (fun q_ => by have := x_.inb _ _ (S13.xs x_ hx_) hb_; omega) (fun ⟨q_, hq_, hqb_⟩ => S13.dp x_ hx_ q_ ((List.forall_mem_cons.2 ⟨List.mem_of_getElem? (i := 0) rfl, (List.forall_mem_cons.2 ⟨List.mem_of_getElem? (i := 1) rfl, (fun _ h_ => (List.not_mem_nil h_).elim)⟩)⟩) q_ hq_) b_ hb_ hqb_))
    have S73 := St.addR S72 (h68 _ (.tail _ (.head _))) (fun b_ h_ x_ hx_ hb_ => (p70 b_ h_).elim (fun q_ => by have := x_.inb _ _ (S13.xs x_ hx_) hb_; omega) (fun ⟨q_, hq_, hqb_⟩ => S13.dp x_ hx_ q_ (((fun _ h_ => (List.not_mem_nil h_).elim)) q_ hq_) b_ hb_ hqb_))
    have S74 := St.addR S73 (h68 _ (.tail _ (.tail _ (.head _)))) (fun b_ h_ x_ hx_ hb_ => (p71 b_ h_).elim (fun q_ => by have := x_.inb _ _ (S13.xs x_ hx_) hb_; omega) (fun ⟨q_, hq_, hqb_⟩ => S13.dp x_ hx_ q_ (((fun _ h_ => (List.not_mem_nil h_).elim)) q_ hq_) b_ hb_ hqb_))
    have q75 : e51 8 = TU [AG ([I r21.1.CoalBook.Heap.Low, I r21.1.CoalBook.Heap.High] ++ (sgE eSpan r21.1.CoalBook.Eats 2 ++ (sg r21.1.CoalBook.Extra 3 ++ [SL A25 r21.1.CoalBook.Days.length c26, I r21.1.CoalBook.Collier.Low, I r21.1.CoalBook.Collier.High, I r21.1.CoalBook.Brings, SL A27 r21.1.CoalBook.Dips.length c28, Value.map m29]))), I r21.2] := (Option.some.inj ((congrArg some q63).symm.trans (hR57 4 8 (Nat.le_of_ble_eq_true rfl) rfl).2.2.2)).symm
    have q76 : e51 13 = AG ([I r21.1.CoalBook.Heap.Low, I r21.1.CoalBook.Heap.High] ++ (sgE eSpan r21.1.CoalBook.Eats 2 ++ (sg r21.1.CoalBook.Extra 3 ++ [SL A25 r21.1.CoalBook.Days.length c26, I r21.1.CoalBook.Collier.Low, I r21.1.CoalBook.Collier.High, I r21.1.CoalBook.Brings, SL A27 r21.1.CoalBook.Dips.length c28, Value.map m29]))) := (Option.some.inj ((congrArg (exG 0) q75).symm.trans (hR57 5 13 (Nat.le_of_ble_eq_true rfl) rfl).2.2.2)).symm
    have q77 : e51 14 = I r21.2 := (Option.some.inj ((congrArg (exG 1) q75).symm.trans (hR57 6 14 (Nat.le_of_ble_eq_true rfl) rfl).2.2.2)).symm
    obtain ⟨h79, h80, h81, b48, q78, h82, h83⟩ := hR57 7 6 (Nat.le_of_ble_eq_true rfl) rfl
    replace q78 : e51 6 = P b48 0 := q78
    obtain ⟨p84, _⟩ := h82
    have S86 := St.addO S74 (h83 _ (.head _)) (fun b_ h_ => (p84 b_ h_).elim (fun q_ => Nat.le_trans S13.keep.size (Nat.le_trans h79 q_.1)) (fun ⟨_, hq_, _⟩ => (List.not_mem_nil hq_).elim)) (List.forall_mem_cons.2 ⟨(fun b_ h1_ h2_ => (p84 b_ h1_).elim (fun q2_ => by have q1_ := Asr.inb _ _ _ (S13.atX (i := 0) rfl) h2_; omega) (fun ⟨_, hq_, _⟩ => (List.not_mem_nil hq_).elim)), (List.forall_mem_cons.2 ⟨(fun b_ h1_ h2_ => (p84 b_ h1_).elim (fun q2_ => by have q1_ := Asr.inb _ _ _ (S13.atX (i := 1) rfl) h2_; omega) (fun ⟨_, hq_, _⟩ => (List.not_mem_nil hq_).elim)), (fun _ h_ => (List.not_mem_nil h_).elim)⟩)⟩) (List.forall_mem_cons.2 ⟨(fun b_ h1_ h2_ => (p84 b_ h1_).elim (fun q1_ => (p71 b_ h2_).elim (fun q2_ => by have q3_ := hd58 7 3 (Nat.le_of_ble_eq_true rfl) (Nat.le_of_ble_eq_true rfl) (by decide); omega) (fun ⟨q_, hq_, hqb_⟩ => by have q5_ := h79; have q4_ := Asr.inb _ _ _ (S13.ps q_ (((fun _ h_ => (List.not_mem_nil h_).elim)) q_ hq_)) hqb_; omega)) (fun ⟨_, hq_, _⟩ => (List.not_mem_nil hq_).elim)), (List.forall_mem_cons.2 ⟨(fun b_ h1_ h2_ => (p84 b_ h1_).elim (fun q1_ => (p70 b_ h2_).elim (fun q2_ => by have q3_ := hd58 7 3 (Nat.le_of_ble_eq_true rfl) (Nat.le_of_ble_eq_true rfl) (by decide); omega) (fun ⟨q_, hq_, hqb_⟩ => by have q5_ := h79; have q4_ := Asr.inb _ _ _ (S13.ps q_ (((fun _ h_ => (List.not_mem_nil h_).elim)) q_ hq_)) hqb_; omega)) (fun ⟨_, hq_, _⟩ => (List.not_mem_nil hq_).elim)), (List.forall_mem_cons.2 ⟨(fun b_ h1_ h2_ => (p84 b_ h1_).elim (fun q1_ => (p69 b_ h2_).elim (fun q2_ => by have q3_ := hd58 7 3 (Nat.le_of_ble_eq_true rfl) (Nat.le_of_ble_eq_true rfl) (by decide); omega) (fun ⟨q_, hq_, hqb_⟩ => by have q5_ := h79; have q4_ := Asr.inb _ _ _ (S13.ps q_ ((List.forall_mem_cons.2 ⟨List.mem_of_getElem? (i := 0) rfl, (List.forall_mem_cons.2 ⟨List.mem_of_getElem? (i := 1) rfl, (fun _ h_ => (List.not_mem_nil h_).elim)⟩)⟩) q_ hq_)) hqb_; omega)) (fun ⟨_, hq_, _⟩ => (List.not_mem_nil hq_).elim)), (List.forall_mem_cons.2 ⟨(fun b_ h1_ h2_ => (p84 b_ h1_).elim (fun q2_ => by have q1_ := Asr.inb _ _ _ (S13.atP (i := 0) rfl) h2_; omega) (fun ⟨_, hq_, _⟩ => (List.not_mem_nil hq_).elim)), (List.forall_mem_cons.2 ⟨(fun b_ h1_ h2_ => (p84 b_ h1_).elim (fun q2_ => by have q1_ := Asr.inb _ _ _ (S13.atP (i := 1) rfl) h2_; omega) (fun ⟨_, hq_, _⟩ => (List.not_mem_nil hq_).elim)), (List.forall_mem_cons.2 ⟨(fun b_ h1_ h2_ => (p84 b_ h1_).elim (fun q2_ => by have q1_ := Asr.inb _ _ _ (S13.atP (i := 2) rfl) h2_; omega) (fun ⟨_, hq_, _⟩ => (List.not_mem_nil hq_).elim)), (fun _ h_ => (List.not_mem_nil h_).elim)⟩)⟩)⟩)⟩)⟩)⟩)
    refine tailE [(1, I a1), (4, P b11 0), (6, P b48 0), (13, AG ([I r21.1.CoalBook.Heap.Low, I r21.1.CoalBook.Heap.High] ++ (sgE eSpan r21.1.CoalBook.Eats 2 ++ (sg r21.1.CoalBook.Extra 3 ++ [SL A25 r21.1.CoalBook.Days.length c26, I r21.1.CoalBook.Collier.Low, I r21.1.CoalBook.Collier.High, I r21.1.CoalBook.Brings, SL A27 r21.1.CoalBook.Dips.length c28, Value.map m29])))), (14, I r21.2)] ⟨((hf56 1 rfl).trans (rfl : _ = I a1)), ((hf56 4 rfl).trans (rfl : _ = P b11 0)), q78, q76, q77, trivial⟩ ?_
    intro g87
    refine p_stP (pre := []) (old := [I 0, I 0, I 0, I 0, I 0, I 0] ++ (sg (List.replicate 3 0) 3 ++ [SL none 0 0, I 0, I 0, I 0, SL none 0 0, Value.map none])) (post := []) (vs := [I r21.1.CoalBook.Heap.Low, I r21.1.CoalBook.Heap.High] ++ (sgE eSpan r21.1.CoalBook.Eats 2 ++ (sg r21.1.CoalBook.Extra 3 ++ [SL A25 r21.1.CoalBook.Days.length c26, I r21.1.CoalBook.Collier.Low, I r21.1.CoalBook.Collier.High, I r21.1.CoalBook.Brings, SL A27 r21.1.CoalBook.Dips.length c28, Value.map m29]))) sz92 S86 (i := 0) rfl rfl rfl rfl (rfl : _ = AG ([I r21.1.CoalBook.Heap.Low, I r21.1.CoalBook.Heap.High] ++ (sgE eSpan r21.1.CoalBook.Eats 2 ++ (sg r21.1.CoalBook.Extra 3 ++ [SL A25 r21.1.CoalBook.Days.length c26, I r21.1.CoalBook.Collier.Low, I r21.1.CoalBook.Collier.High, I r21.1.CoalBook.Brings, SL A27 r21.1.CoalBook.Dips.length c28, Value.map m29])))) rfl rfl rfl rfl fun w88 S89 => ?_
    refine p_aI rfl ?_
    refine wp_nil ?_
    refine c_seq ?_
    refine c_seq ?_
    refine reg ?_
    refine p_mI rfl ?_
    refine p_cmp rfl rfl rfl ?_
    refine wp_nil ?_
    refine c_cond rfl (fun c90 => ?_) (fun c90 => ?_)
    · replace H := condT c90 H
      refine c_seq ?_
      refine reg ?_
      refine p_bld (cs := [I 0, I 0]) st23 (rfl : _ = []) (by kernel_rfl) ?_
      refine p_mI rfl ?_
      refine p_stP (pre := []) (old := [I 0, I 0]) (post := []) (vs := [I 0, I 0]) sz23 S89 (i := 1) rfl rfl rfl rfl (rfl : _ = AG [I 0, I 0]) rfl rfl rfl rfl fun w91 S92 => ?_
      refine p_aI rfl ?_
      refine wp_nil ?_
      obtain rfl := Option.some.inj H
      refine c_ret ?_; show bodyPostM (Fr none) 0 Tryd.prog Tryd.f35 _ .ret _ _
      refine ret_of (res2 rfl (rvA rfl ty23 sz23 (S92.atX (i := 1) rfl) rfl) (rvT (rfl : _ = I r21.2))) ?_
      exact ⟨_, rfl, rfl, S92.keep⟩
    · replace H := condF c90 H
      refine c_skip ?_
      refine c_seq ?_
      refine reg_c mixed 4 [2, 3] (by kernel_rfl) ?_
      refine kS rfl (fun _ k_ => p_ldA ty92 sz92 (Asr.stays (S89.atX (i := 0) rfl) k_) rfl rfl dn) ?_
      refine kS rfl (fun _ k_ => p_mI rfl dn) ?_
      refine kC rfl ?_
      refine kC rfl ?_
      intro w93 k94; have S95 := S89.call k94
      obtain ⟨r96, h97, H⟩ := bindS H
      refine p_cal (coal_eaten_ok h97) fu80 rfl ?_
      rintro _ w98 ⟨b100, rfl, k99, ⟨o101, n102⟩, _⟩
      have S103 := S95.addNew k99 o101 n102
      refine cN k99 fun w104 k105 => ?_
      have S106 := S103.call k105
      obtain ⟨r108, h109, H⟩ := bindS H
      refine p_cal (coal_book_span_ok h109 (S106.atP (i := 2) rfl) (S106.atP (i := 1) rfl) (S106.atP (i := 0) rfl) (by kernel_rfl) (fun _ _ _ k_ hr_ => coal_eaten_1_ok hr_ (Asr.stays (S106.atX (i := 0) rfl) k_))) fu76 rfl ?_
      rintro _ w110 ⟨rfl, k111⟩; refine cN k111 fun w112 k113 => ?_
      have S114 := (S106.call k111).call k113
      refine p_stP (pre := []) (old := [I 0, I 0]) (post := []) (vs := [I r108.Low, I r108.High]) sz23 S114 (i := 2) rfl rfl rfl rfl (rfl : _ = AG [I r108.Low, I r108.High]) rfl rfl rfl rfl fun w115 S116 => ?_
      refine p_aI rfl ?_
      refine wp_nil ?_
      obtain rfl := Option.some.inj H
      refine c_ret ?_; show bodyPostM (Fr none) 0 Tryd.prog Tryd.f35 _ .ret _ _
      refine ret_of (res2 rfl (rvA rfl ty23 sz23 (S116.atX (i := 2) rfl) rfl) (rvT (rfl : _ = I 0))) ?_
      exact ⟨_, rfl, rfl, S116.keep⟩
  · intro e117 w118 lo119 hi120 k121 hf122 hR123 hd124
    have S125 := S13.call k121
    have q126 : e117 9 = AG ([I a0.Heap.Low, I a0.Heap.High] ++ (sgE eSpan a0.Eats 2 ++ (sg a0.Extra 3 ++ [SL A1 a0.Days.length c2, I a0.Collier.Low, I a0.Collier.High, I a0.Brings, SL A4 a0.Dips.length c5]))) := (hR123 0 9 (Nat.le_of_ble_eq_true rfl) (by decide) rfl).2.2.2
    have q127 : e117 10 = I a1 := (hR123 1 10 (Nat.le_of_ble_eq_true rfl) (by decide) rfl).2.2.2
    have q128 : e117 11 = B r15 := (hR123 2 11 (Nat.le_of_ble_eq_true rfl) (by decide) rfl).2.2.2
    obtain ⟨h130, h131, h132, ⟨A25, c26, A27, c28, m29⟩, q129, h133, h134⟩ := hR123 3 12 (Nat.le_of_ble_eq_true rfl) (by decide) rfl
    replace q129 : e117 12 = TU [AG ([I r21.1.CoalBook.Heap.Low, I r21.1.CoalBook.Heap.High] ++ (sgE eSpan r21.1.CoalBook.Eats 2 ++ (sg r21.1.CoalBook.Extra 3 ++ [SL A25 r21.1.CoalBook.Days.length c26, I r21.1.CoalBook.Collier.Low, I r21.1.CoalBook.Collier.High, I r21.1.CoalBook.Brings, SL A27 r21.1.CoalBook.Dips.length c28, Value.map m29]))), I r21.2] := q129
    obtain ⟨p135, p136, p137, _⟩ := h133
    have S138 := St.addR S125 (h134 _ (.head _)) (fun b_ h_ x_ hx_ hb_ => (p135 b_ h_).elim (fun q_ => by have := x_.inb _ _ (S13.xs x_ hx_) hb_; omega) (fun ⟨q_, hq_, hqb_⟩ => S13.dp x_ hx_ q_ ((List.forall_mem_cons.2 ⟨List.mem_of_getElem? (i := 0) rfl, (List.forall_mem_cons.2 ⟨List.mem_of_getElem? (i := 1) rfl, (fun _ h_ => (List.not_mem_nil h_).elim)⟩)⟩) q_ hq_) b_ hb_ hqb_))
    have S139 := St.addR S138 (h134 _ (.tail _ (.head _))) (fun b_ h_ x_ hx_ hb_ => (p136 b_ h_).elim (fun q_ => by have := x_.inb _ _ (S13.xs x_ hx_) hb_; omega) (fun ⟨q_, hq_, hqb_⟩ => S13.dp x_ hx_ q_ (((fun _ h_ => (List.not_mem_nil h_).elim)) q_ hq_) b_ hb_ hqb_))
    have S140 := St.addR S139 (h134 _ (.tail _ (.tail _ (.head _)))) (fun b_ h_ x_ hx_ hb_ => (p137 b_ h_).elim (fun q_ => by have := x_.inb _ _ (S13.xs x_ hx_) hb_; omega) (fun ⟨q_, hq_, hqb_⟩ => S13.dp x_ hx_ q_ (((fun _ h_ => (List.not_mem_nil h_).elim)) q_ hq_) b_ hb_ hqb_))
    have q141 : e117 8 = TU [AG ([I r21.1.CoalBook.Heap.Low, I r21.1.CoalBook.Heap.High] ++ (sgE eSpan r21.1.CoalBook.Eats 2 ++ (sg r21.1.CoalBook.Extra 3 ++ [SL A25 r21.1.CoalBook.Days.length c26, I r21.1.CoalBook.Collier.Low, I r21.1.CoalBook.Collier.High, I r21.1.CoalBook.Brings, SL A27 r21.1.CoalBook.Dips.length c28, Value.map m29]))), I r21.2] := (Option.some.inj ((congrArg some q129).symm.trans (hR123 4 8 (Nat.le_of_ble_eq_true rfl) (by decide) rfl).2.2.2)).symm
    have q142 : e117 13 = AG ([I r21.1.CoalBook.Heap.Low, I r21.1.CoalBook.Heap.High] ++ (sgE eSpan r21.1.CoalBook.Eats 2 ++ (sg r21.1.CoalBook.Extra 3 ++ [SL A25 r21.1.CoalBook.Days.length c26, I r21.1.CoalBook.Collier.Low, I r21.1.CoalBook.Collier.High, I r21.1.CoalBook.Brings, SL A27 r21.1.CoalBook.Dips.length c28, Value.map m29]))) := (Option.some.inj ((congrArg (exG 0) q141).symm.trans (hR123 5 13 (Nat.le_of_ble_eq_true rfl) (by decide) rfl).2.2.2)).symm
    obtain ⟨h144, h145, h146, b48, q143, h147, h148⟩ := hR123 7 6 (Nat.le_of_ble_eq_true rfl) (by decide) rfl
    replace q143 : e117 6 = P b48 0 := q143
    obtain ⟨p149, _⟩ := h147
    have S151 := St.addO S140 (h148 _ (.head _)) (fun b_ h_ => (p149 b_ h_).elim (fun q_ => Nat.le_trans S13.keep.size (Nat.le_trans h144 q_.1)) (fun ⟨_, hq_, _⟩ => (List.not_mem_nil hq_).elim)) (List.forall_mem_cons.2 ⟨(fun b_ h1_ h2_ => (p149 b_ h1_).elim (fun q2_ => by have q1_ := Asr.inb _ _ _ (S13.atX (i := 0) rfl) h2_; omega) (fun ⟨_, hq_, _⟩ => (List.not_mem_nil hq_).elim)), (List.forall_mem_cons.2 ⟨(fun b_ h1_ h2_ => (p149 b_ h1_).elim (fun q2_ => by have q1_ := Asr.inb _ _ _ (S13.atX (i := 1) rfl) h2_; omega) (fun ⟨_, hq_, _⟩ => (List.not_mem_nil hq_).elim)), (fun _ h_ => (List.not_mem_nil h_).elim)⟩)⟩) (List.forall_mem_cons.2 ⟨(fun b_ h1_ h2_ => (p149 b_ h1_).elim (fun q1_ => (p137 b_ h2_).elim (fun q2_ => by have q3_ := hd124 7 3 (Nat.le_of_ble_eq_true rfl) (Nat.le_of_ble_eq_true rfl) (by decide) (by decide) (by decide); omega) (fun ⟨q_, hq_, hqb_⟩ => by have q5_ := h144; have q4_ := Asr.inb _ _ _ (S13.ps q_ (((fun _ h_ => (List.not_mem_nil h_).elim)) q_ hq_)) hqb_; omega)) (fun ⟨_, hq_, _⟩ => (List.not_mem_nil hq_).elim)), (List.forall_mem_cons.2 ⟨(fun b_ h1_ h2_ => (p149 b_ h1_).elim (fun q1_ => (p136 b_ h2_).elim (fun q2_ => by have q3_ := hd124 7 3 (Nat.le_of_ble_eq_true rfl) (Nat.le_of_ble_eq_true rfl) (by decide) (by decide) (by decide); omega) (fun ⟨q_, hq_, hqb_⟩ => by have q5_ := h144; have q4_ := Asr.inb _ _ _ (S13.ps q_ (((fun _ h_ => (List.not_mem_nil h_).elim)) q_ hq_)) hqb_; omega)) (fun ⟨_, hq_, _⟩ => (List.not_mem_nil hq_).elim)), (List.forall_mem_cons.2 ⟨(fun b_ h1_ h2_ => (p149 b_ h1_).elim (fun q1_ => (p135 b_ h2_).elim (fun q2_ => by have q3_ := hd124 7 3 (Nat.le_of_ble_eq_true rfl) (Nat.le_of_ble_eq_true rfl) (by decide) (by decide) (by decide); omega) (fun ⟨q_, hq_, hqb_⟩ => by have q5_ := h144; have q4_ := Asr.inb _ _ _ (S13.ps q_ ((List.forall_mem_cons.2 ⟨List.mem_of_getElem? (i := 0) rfl, (List.forall_mem_cons.2 ⟨List.mem_of_getElem? (i := 1) rfl, (fun _ h_ => (List.not_mem_nil h_).elim)⟩)⟩) q_ hq_)) hqb_; omega)) (fun ⟨_, hq_, _⟩ => (List.not_mem_nil hq_).elim)), (List.forall_mem_cons.2 ⟨(fun b_ h1_ h2_ => (p149 b_ h1_).elim (fun q2_ => by have q1_ := Asr.inb _ _ _ (S13.atP (i := 0) rfl) h2_; omega) (fun ⟨_, hq_, _⟩ => (List.not_mem_nil hq_).elim)), (List.forall_mem_cons.2 ⟨(fun b_ h1_ h2_ => (p149 b_ h1_).elim (fun q2_ => by have q1_ := Asr.inb _ _ _ (S13.atP (i := 1) rfl) h2_; omega) (fun ⟨_, hq_, _⟩ => (List.not_mem_nil hq_).elim)), (List.forall_mem_cons.2 ⟨(fun b_ h1_ h2_ => (p149 b_ h1_).elim (fun q2_ => by have q1_ := Asr.inb _ _ _ (S13.atP (i := 2) rfl) h2_; omega) (fun ⟨_, hq_, _⟩ => (List.not_mem_nil hq_).elim)), (fun _ h_ => (List.not_mem_nil h_).elim)⟩)⟩)⟩)⟩)⟩)⟩)
    refine tailE [(1, I a1), (4, P b11 0), (6, P b48 0), (8, TU [AG ([I r21.1.CoalBook.Heap.Low, I r21.1.CoalBook.Heap.High] ++ (sgE eSpan r21.1.CoalBook.Eats 2 ++ (sg r21.1.CoalBook.Extra 3 ++ [SL A25 r21.1.CoalBook.Days.length c26, I r21.1.CoalBook.Collier.Low, I r21.1.CoalBook.Collier.High, I r21.1.CoalBook.Brings, SL A27 r21.1.CoalBook.Dips.length c28, Value.map m29]))), I r21.2]), (13, AG ([I r21.1.CoalBook.Heap.Low, I r21.1.CoalBook.Heap.High] ++ (sgE eSpan r21.1.CoalBook.Eats 2 ++ (sg r21.1.CoalBook.Extra 3 ++ [SL A25 r21.1.CoalBook.Days.length c26, I r21.1.CoalBook.Collier.Low, I r21.1.CoalBook.Collier.High, I r21.1.CoalBook.Brings, SL A27 r21.1.CoalBook.Dips.length c28, Value.map m29]))))] ⟨((hf122 1 rfl).trans (rfl : _ = I a1)), ((hf122 4 rfl).trans (rfl : _ = P b11 0)), q143, q141, q142, trivial⟩ ?_
    intro g152
    refine p_stP (pre := []) (old := [I 0, I 0, I 0, I 0, I 0, I 0] ++ (sg (List.replicate 3 0) 3 ++ [SL none 0 0, I 0, I 0, I 0, SL none 0 0, Value.map none])) (post := []) (vs := [I r21.1.CoalBook.Heap.Low, I r21.1.CoalBook.Heap.High] ++ (sgE eSpan r21.1.CoalBook.Eats 2 ++ (sg r21.1.CoalBook.Extra 3 ++ [SL A25 r21.1.CoalBook.Days.length c26, I r21.1.CoalBook.Collier.Low, I r21.1.CoalBook.Collier.High, I r21.1.CoalBook.Brings, SL A27 r21.1.CoalBook.Dips.length c28, Value.map m29]))) sz92 S151 (i := 0) rfl rfl rfl rfl (rfl : _ = AG ([I r21.1.CoalBook.Heap.Low, I r21.1.CoalBook.Heap.High] ++ (sgE eSpan r21.1.CoalBook.Eats 2 ++ (sg r21.1.CoalBook.Extra 3 ++ [SL A25 r21.1.CoalBook.Days.length c26, I r21.1.CoalBook.Collier.Low, I r21.1.CoalBook.Collier.High, I r21.1.CoalBook.Brings, SL A27 r21.1.CoalBook.Dips.length c28, Value.map m29])))) rfl rfl rfl rfl fun w153 S154 => ?_
    refine p_ext rfl rfl ?_
    refine p_aI rfl ?_
    refine wp_nil ?_
    refine c_seq ?_
    refine c_seq ?_
    refine reg ?_
    refine p_mI rfl ?_
    refine p_cmp rfl rfl rfl ?_
    refine wp_nil ?_
    refine c_cond rfl (fun c155 => ?_) (fun c155 => ?_)
    · replace H := condT c155 H
      refine c_seq ?_
      refine reg ?_
      refine p_bld (cs := [I 0, I 0]) st23 (rfl : _ = []) (by kernel_rfl) ?_
      refine p_mI rfl ?_
      refine p_stP (pre := []) (old := [I 0, I 0]) (post := []) (vs := [I 0, I 0]) sz23 S154 (i := 1) rfl rfl rfl rfl (rfl : _ = AG [I 0, I 0]) rfl rfl rfl rfl fun w156 S157 => ?_
      refine p_aI rfl ?_
      refine wp_nil ?_
      obtain rfl := Option.some.inj H
      refine c_ret ?_; show bodyPostM (Fr none) 0 Tryd.prog Tryd.f35 _ .ret _ _
      refine ret_of (res2 rfl (rvA rfl ty23 sz23 (S157.atX (i := 1) rfl) rfl) (rvT (rfl : _ = I r21.2))) ?_
      exact ⟨_, rfl, rfl, S157.keep⟩
    · replace H := condF c155 H
      refine c_skip ?_
      refine c_seq ?_
      refine reg_c mixed 4 [2, 3] (by kernel_rfl) ?_
      refine kS rfl (fun _ k_ => p_ldA ty92 sz92 (Asr.stays (S154.atX (i := 0) rfl) k_) rfl rfl dn) ?_
      refine kS rfl (fun _ k_ => p_mI rfl dn) ?_
      refine kC rfl ?_
      refine kC rfl ?_
      intro w158 k159; have S160 := S154.call k159
      obtain ⟨r161, h162, H⟩ := bindS H
      refine p_cal (coal_eaten_ok h162) fu80 rfl ?_
      rintro _ w163 ⟨b165, rfl, k164, ⟨o166, n167⟩, _⟩
      have S168 := S160.addNew k164 o166 n167
      refine cN k164 fun w169 k170 => ?_
      have S171 := S168.call k170
      obtain ⟨r173, h174, H⟩ := bindS H
      refine p_cal (coal_book_span_ok h174 (S171.atP (i := 2) rfl) (S171.atP (i := 1) rfl) (S171.atP (i := 0) rfl) (by kernel_rfl) (fun _ _ _ k_ hr_ => coal_eaten_1_ok hr_ (Asr.stays (S171.atX (i := 0) rfl) k_))) fu76 rfl ?_
      rintro _ w175 ⟨rfl, k176⟩; refine cN k176 fun w177 k178 => ?_
      have S179 := (S171.call k176).call k178
      refine p_stP (pre := []) (old := [I 0, I 0]) (post := []) (vs := [I r173.Low, I r173.High]) sz23 S179 (i := 2) rfl rfl rfl rfl (rfl : _ = AG [I r173.Low, I r173.High]) rfl rfl rfl rfl fun w180 S181 => ?_
      refine p_aI rfl ?_
      refine wp_nil ?_
      obtain rfl := Option.some.inj H
      refine c_ret ?_; show bodyPostM (Fr none) 0 Tryd.prog Tryd.f35 _ .ret _ _
      refine ret_of (res2 rfl (rvA rfl ty23 sz23 (S181.atX (i := 2) rfl) rfl) (rvT (rfl : _ = I 0))) ?_
      exact ⟨_, rfl, rfl, S181.keep⟩

def B_Inside (a0 : Int) (a1 : Int) (a2 : Int) : Option Bool :=
  bif decide (a0 ≥ a1) then (some (decide (a0 ≤ a2)))
  else (some false)

set_option maxRecDepth 100000 in
theorem B_Inside_ok {a0 : Int} {a1 : Int} {a2 : Int} {w : World} {r : Bool} (H : B_Inside a0 a1 a2 = some r) : Calls Tryd.prog 34 #[I a0, I a1, I a2] w (RetV w (B r)) := by
  unfold B_Inside at H
  refine fn_of (n := 15) Tryd.func34 rfl rfl (Nat.le_of_ble_eq_true rfl) ?_
  have S : St w (fun _ => False) w [] [] := St.start w _ _ (fun _ h_ => (List.not_mem_nil h_).elim)
  refine c_seq ?_
  refine reg ?_
  refine p_aB rfl ?_
  refine wp_nil ?_
  refine c_seq ?_
  refine reg ?_
  refine p_mI rfl ?_
  refine p_mI rfl ?_
  refine p_cmp rfl rfl rfl ?_
  refine p_mB rfl ?_
  rcases Bool.eq_false_or_eq_true (decide (a0 ≥ a1)) with c1 | c1
  · replace H := condT c1 H
    refine eB c1 ?_
    refine gT rfl rfl (p_mI rfl ?_)
    refine gT rfl rfl (p_mI rfl ?_)
    refine gT rfl rfl (p_cmp rfl rfl rfl ?_)
    refine p_pkT rfl (rfl : _ = B (decide (a0 ≤ a2))) ?_
    refine p_aB rfl ?_
    refine wp_nil ?_
    obtain rfl := Option.some.inj H
    refine c_ret ?_; show bodyPostM (Fr none) 0 Tryd.prog Tryd.f34 _ .ret _ _
    refine ret_of (res1 rfl (rvT (rfl : _ = B (decide (a0 ≤ a2))))) ?_
    exact ⟨_, rfl, rfl, S.keep⟩
  · replace H := condF c1 H
    refine eB c1 ?_
    refine gF rfl rfl ?_
    refine gF rfl rfl ?_
    refine gF rfl rfl ?_
    refine p_pkF rfl (rfl : _ = B false) ?_
    refine p_aB rfl ?_
    refine wp_nil ?_
    obtain rfl := Option.some.inj H
    refine c_ret ?_; show bodyPostM (Fr none) 0 Tryd.prog Tryd.f34 _ .ret _ _
    refine ret_of (res1 rfl (rvT (rfl : _ = B false))) ?_
    exact ⟨_, rfl, rfl, S.keep⟩

def B_Valid (a0 : Span) (a1 : Int) (a2 : Int) : Option Bool :=
  bif decide (a0.Low ≥ a1) then (bif decide (a0.Low ≤ a0.High) then (some (decide (a0.High ≤ a2)))
  else (some false))
  else (some false)

set_option maxRecDepth 100000 in
theorem B_Valid_ok {a0 : Span} {a1 : Int} {a2 : Int} {w : World} {r : Bool} (H : B_Valid a0 a1 a2 = some r) : Calls Tryd.prog 68 #[AG [I a0.Low, I a0.High], I a1, I a2] w (RetV w (B r)) := by
  unfold B_Valid at H
  refine fn_of (n := 24) Tryd.func68 rfl rfl (Nat.le_of_ble_eq_true rfl) ?_
  have S : St w (fun _ => False) w [] [] := St.start w _ _ (fun _ h_ => (List.not_mem_nil h_).elim)
  refine c_seq ?_
  refine reg ?_
  refine p_boxA rfl S fun b1 w2 S3 => ?_
  refine p_aB rfl ?_
  refine wp_nil ?_
  refine c_seq ?_
  refine reg ?_
  refine p_fld fl23_0 rfl ?_
  refine p_ld ty3 (S3.atX (i := 0) rfl) rfl rfl ?_
  refine p_mI rfl ?_
  refine p_cmp rfl rfl rfl ?_
  refine p_mB rfl ?_
  rcases Bool.eq_false_or_eq_true (decide (a0.Low ≥ a1)) with c4 | c4
  · replace H := condT c4 H
    refine eB c4 ?_
    refine gT rfl rfl (p_fld fl23_0 rfl ?_)
    refine gT rfl rfl (p_ld ty3 (S3.atX (i := 0) rfl) rfl rfl ?_)
    refine gT rfl rfl (p_fld fl23_1 rfl ?_)
    refine gT rfl rfl (p_ld ty3 (S3.atX (i := 0) rfl) rfl rfl ?_)
    refine gT rfl rfl (p_cmp rfl rfl rfl ?_)
    refine p_pkT rfl (rfl : _ = B (decide (a0.Low ≤ a0.High))) ?_
    refine p_mB rfl ?_
    rcases Bool.eq_false_or_eq_true (decide (a0.Low ≤ a0.High)) with c5 | c5
    · replace H := condT c5 H
      refine eB c5 ?_
      refine gT rfl rfl (p_fld fl23_1 rfl ?_)
      refine gT rfl rfl (p_ld ty3 (S3.atX (i := 0) rfl) rfl rfl ?_)
      refine gT rfl rfl (p_mI rfl ?_)
      refine gT rfl rfl (p_cmp rfl rfl rfl ?_)
      refine p_pkT rfl (rfl : _ = B (decide (a0.High ≤ a2))) ?_
      refine p_aB rfl ?_
      refine wp_nil ?_
      obtain rfl := Option.some.inj H
      refine c_ret ?_; show bodyPostM (Fr none) 0 Tryd.prog Tryd.f68 _ .ret _ _
      refine ret_of (res1 rfl (rvT (rfl : _ = B (decide (a0.High ≤ a2))))) ?_
      exact ⟨_, rfl, rfl, S3.keep⟩
    · replace H := condF c5 H
      refine eB c5 ?_
      refine gF rfl rfl ?_
      refine gF rfl rfl ?_
      refine gF rfl rfl ?_
      refine gF rfl rfl ?_
      refine p_pkF rfl (rfl : _ = B false) ?_
      refine p_aB rfl ?_
      refine wp_nil ?_
      obtain rfl := Option.some.inj H
      refine c_ret ?_; show bodyPostM (Fr none) 0 Tryd.prog Tryd.f68 _ .ret _ _
      refine ret_of (res1 rfl (rvT (rfl : _ = B false))) ?_
      exact ⟨_, rfl, rfl, S3.keep⟩
  · replace H := condF c4 H
    refine eB c4 ?_
    refine gF rfl rfl ?_
    refine gF rfl rfl ?_
    refine gF rfl rfl ?_
    refine gF rfl rfl ?_
    refine gF rfl rfl ?_
    refine p_pkF rfl (rfl : _ = B false) ?_
    refine p_mB rfl ?_
    refine gF rfl rfl ?_
    refine gF rfl rfl ?_
    refine gF rfl rfl ?_
    refine gF rfl rfl ?_
    refine p_pkF rfl (rfl : _ = B false) ?_
    refine p_aB rfl ?_
    refine wp_nil ?_
    obtain rfl := Option.some.inj H
    refine c_ret ?_; show bodyPostM (Fr none) 0 Tryd.prog Tryd.f68 _ .ret _ _
    refine ret_of (res1 rfl (rvT (rfl : _ = B false))) ?_
    exact ⟨_, rfl, rfl, S3.keep⟩

end Go.Proofs.YticodohfokgjfaaDoor

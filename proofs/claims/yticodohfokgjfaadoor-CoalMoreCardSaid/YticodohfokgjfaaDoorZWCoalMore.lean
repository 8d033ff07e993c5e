/- What the law's function computes, and that it does, printed by a program of mine. -/
import Derived.Test.YticodohfokgjfaaDoorZWAll
import Derived.KernelRfl
set_option linter.unusedVariables false
set_option linter.unusedSimpArgs false
namespace Go.Proofs.YticodohfokgjfaaDoor
open Go Go.Fx Go.Proofs
def law_CoalMore (a0 : CoalBook) (a1 : CoalDip) (a2 : List Int) : Option Bool :=
  (law_sound a0).bind fun r18 =>
  bif !r18 then ((law_stoked).bind fun r23 =>
  some r23)
  else (bif ((a0.Dips.length : Int) == 4) then ((law_stoked).bind fun r28 =>
  some r28)
  else ((law_with a0 a1).bind fun r34 =>
  (B_Mod (aget a2 0) (a0.Days.length : Int)).bind fun r49 =>
  (B_Mod (aget a2 1) 2).bind fun r55 =>
  (coal_Heap a0 r49).bind fun r103 =>
  (coal_Heap (CoalBook.mk r34.Heap r34.Eats r34.Extra a0.Days r34.Collier r34.Brings r34.Dips) r49).bind fun r112 =>
  bif (r112.2 != 0) then ((coal_Check (CoalBook.mk r34.Heap r34.Eats r34.Extra a0.Days r34.Collier r34.Brings r34.Dips)).bind fun r122 =>
  bif ((r112.2 == 60) == (r122 == r112.2)) then (bif (r112.2 == 60) then ((law_stoked).bind fun r128 =>
  some r128)
  else (bif (r112.2 == 62) then ((law_stoked).bind fun r133 =>
  some r133)
  else (some false)))
  else (some false))
  else ((coal_Eats a0 r55).bind fun r137 =>
  (coal_Eats (CoalBook.mk r34.Heap r34.Eats r34.Extra a0.Days r34.Collier r34.Brings r34.Dips) r55).bind fun r146 =>
  bif (r103.2 != 0) then (some false)
  else (bif (r137.2 != 0) then (some false)
  else (bif (r146.2 != 0) then (some false)
  else ((B_Covers r103.1 r112.1).bind fun r158 =>
  bif !r158 then (some false)
  else ((B_Covers r137.1 r146.1).bind fun r163 =>
  bif !r163 then (some false)
  else ((coal_Wind a0 r49).bind fun r168 =>
  (coal_Wind (CoalBook.mk r34.Heap r34.Eats r34.Extra a0.Days r34.Collier r34.Brings r34.Dips) r49).bind fun r172 =>
  (coal_Lasts a0 r49).bind fun r176 =>
  (coal_Lasts (CoalBook.mk r34.Heap r34.Eats r34.Extra a0.Days r34.Collier r34.Brings r34.Dips) r49).bind fun r180 =>
  (coal_Order a0).bind fun r184 =>
  (coal_Order (CoalBook.mk r34.Heap r34.Eats r34.Extra a0.Days r34.Collier r34.Brings r34.Dips)).bind fun r188 =>
  bif (r168.2 == 0) then (bif (r172.2 == 0) then (bif (r176.2 == 0) then (bif (r180.2 == 0) then (bif (r184.2 == 0) then (bif (r188.2 == 0) then (bif ((andNotI r172.1 r168.1) == 0) then (bif (r172.1 != 0) then (bif (r176.1 == 1) then (bif decide (r188.1 ≤ r184.1) then ((law_stoked).bind fun r202 =>
  some r202)
  else (some false))
  else (bif (r180.1 == r176.1) then (bif decide (r188.1 ≤ r184.1) then ((law_stoked).bind fun r208 =>
  some r208)
  else (some false))
  else (some false)))
  else (some false))
  else (some false))
  else (some false))
  else (some false))
  else (some false))
  else (some false))
  else (some false))
  else (some false)))))))))

set_option maxRecDepth 100000 in
theorem law_CoalMore_ok {a0 : CoalBook} {a1 : CoalDip} {a2 : List Int} {A1 : Option Addr} {c2 : Nat} {A4 : Option Addr} {c5 : Nat} {w : World} {r : Bool} (H : law_CoalMore a0 a1 a2 = some r) (h3 : (rd eCoalDay 3 A1 c2 a0.Days).ok w) (h6 : (rd eCoalDip 3 A4 c5 a0.Dips).ok w) (hg7 : (bl 0 [Value.func (.func 128) #[] #[], Value.func (.func 129) #[] #[]] 110).ok w) (hg8 : (bl 1 [I (-1), I (-1)] 123).ok w) : Calls Tryd.prog 8 #[AG ([I a0.Heap.Low, I a0.Heap.High] ++ (sgE eSpan a0.Eats 2 ++ (sg a0.Extra 3 ++ [SL A1 a0.Days.length c2, I a0.Collier.Low, I a0.Collier.High, I a0.Brings, SL A4 a0.Dips.length c5]))), AG [I a1.Day, I a1.Read, I a1.Error], AG (sg a2 2)] w (RetV w (B r)) := by
  unfold law_CoalMore at H
  refine fn_of (n := 197) Tryd.func8 rfl rfl (Nat.le_of_ble_eq_true rfl) ?_
  have S : St w (fun _ => False) w [] [rd eCoalDay 3 A1 c2 a0.Days, rd eCoalDip 3 A4 c5 a0.Dips, bl 0 [Value.func (.func 128) #[] #[], Value.func (.func 129) #[] #[]] 110, bl 1 [I (-1), I (-1)] 123] := St.start w _ _ (List.forall_mem_cons.2 ⟨h3, (List.forall_mem_cons.2 ⟨h6, (List.forall_mem_cons.2 ⟨hg7, (List.forall_mem_cons.2 ⟨hg8, (fun _ h_ => (List.not_mem_nil h_).elim)⟩)⟩)⟩)⟩)
  refine c_seq ?_
  refine reg ?_
  refine p_boxA rfl S fun b9 w10 S11 => ?_
  refine p_boxA rfl S11 fun b12 w13 S14 => ?_
  refine p_boxA rfl S14 fun b15 w16 S17 => ?_
  refine p_aB rfl ?_
  refine wp_nil ?_
  refine c_seq ?_
  refine c_seq ?_
  refine reg ?_
  refine p_ldA ty29 sz29 (S17.atX (i := 2) rfl) rfl rfl ?_
  obtain ⟨r18, h19, H⟩ := bindS H
  refine p_cv (law_sound_ok h19 (S17.atP (i := 0) rfl) (S17.atP (i := 1) rfl)) fu22 rfl S17 fun w20 S21 => ?_
  refine p_not rfl ?_
  refine p_mB rfl ?_
  rcases Bool.eq_false_or_eq_true (!r18) with c22 | c22
  · replace H := condT c22 H
    refine eB c22 ?_
    refine gF rfl rfl ?_
    refine gF rfl rfl ?_
    refine gF rfl rfl ?_
    refine gF rfl rfl ?_
    refine p_pkT rfl (rfl : _ = B true) ?_
    refine wp_nil ?_
    refine c_true rfl ?_
    refine c_seq ?_
    refine reg ?_
    obtain ⟨r23, h24, H⟩ := bindS H
    refine p_cv (law_stoked_ok h24 (S21.atP (i := 2) rfl) (S21.atP (i := 3) rfl)) fu19 rfl S21 fun w25 S26 => ?_
    refine p_aB rfl ?_
    refine wp_nil ?_
    obtain rfl := Option.some.inj H
    refine c_ret ?_; show bodyPostM (Fr none) 0 Tryd.prog Tryd.f8 _ .ret _ _
    refine ret_of (res1 rfl (rvT (rfl : _ = B r23))) ?_
    exact ⟨_, rfl, rfl, S26.keep⟩
  · replace H := condF c22 H
    refine eB c22 ?_
    refine gT rfl rfl (p_fld fl29_6 rfl ?_)
    refine gT rfl rfl (p_ld ty27 (S21.atX (i := 2) rfl) rfl rfl ?_)
    refine gT rfl rfl (p_len rfl sc27 ?_)
    refine gT rfl rfl (p_cmp rfl rfl rfl ?_)
    refine p_pkF rfl (rfl : _ = B ((a0.Dips.length : Int) == 4)) ?_
    refine wp_nil ?_
    refine c_cond rfl (fun c27 => ?_) (fun c27 => ?_)
    · replace H := condT c27 H
      refine c_seq ?_
      refine reg ?_
      obtain ⟨r28, h29, H⟩ := bindS H
      refine p_cv (law_stoked_ok h29 (S21.atP (i := 2) rfl) (S21.atP (i := 3) rfl)) fu19 rfl S21 fun w30 S31 => ?_
      refine p_aB rfl ?_
      refine wp_nil ?_
      obtain rfl := Option.some.inj H
      refine c_ret ?_; show bodyPostM (Fr none) 0 Tryd.prog Tryd.f8 _ .ret _ _
      refine ret_of (res1 rfl (rvT (rfl : _ = B r28))) ?_
      exact ⟨_, rfl, rfl, S31.keep⟩
    · replace H := condF c27 H
      refine c_skip ?_
      refine c_seq ?_
      obtain ⟨r34, h35, H⟩ := bindS H
      obtain ⟨r49, h50, H⟩ := bindS H
      obtain ⟨r55, h56, H⟩ := bindS H
      refine reg_any mixed 13 (by kernel_rfl) [rv (AG ([I a0.Heap.Low, I a0.Heap.High] ++ (sgE eSpan a0.Eats 2 ++ (sg a0.Extra 3 ++ [SL A1 a0.Days.length c2, I a0.Collier.Low, I a0.Collier.High, I a0.Brings, SL A4 a0.Dips.length c5])))), rv (AG [I a1.Day, I a1.Read, I a1.Error]), rx (α := (Option Addr) × Nat) (fun ⟨A38, c39⟩ => AG ([I r34.Heap.Low, I r34.Heap.High] ++ (sgE eSpan r34.Eats 2 ++ (sg r34.Extra 3 ++ [SL A1 a0.Days.length c2, I r34.Collier.Low, I r34.Collier.High, I r34.Brings, SL A38 r34.Dips.length c39])))) (fun ⟨A38, c39⟩ lo hi => BtwL lo hi [] (gr eCoalDip 3 67 A38 c39 r34.Dips) ∧ True) (fun ⟨A38, c39⟩ => [gr eCoalDip 3 67 A38 c39 r34.Dips]), rv (P b15 0), rv (I (aget a2 0)), rv (P b9 9), rv (SL A1 a0.Days.length c2), rv (I (a0.Days.length : Int)), rv (I r49), rv (P b15 1), rv (I (aget a2 1)), rv (I r55), rx (α := Nat) (fun b59 => P b59 0) (fun b59 lo hi => BtwL lo hi [] (bl b59 ([I 0, I 0, I 0, I 0, I 0, I 0] ++ (sg (List.replicate 3 0) 3 ++ [SL none 0 0, I 0, I 0, I 0, SL none 0 0])) 29) ∧ True) (fun b59 => [bl b59 ([I 0, I 0, I 0, I 0, I 0, I 0] ++ (sg (List.replicate 3 0) 3 ++ [SL none 0 0, I 0, I 0, I 0, SL none 0 0])) 29])] [[], [], [], [], [], [], [], [], [], [], [], [], []] rfl (by kernel_rfl) [[], [], [0, 1], [], [3], [], [5], [5, 6], [0, 1, 2, 3, 4, 5, 6, 7], [], [9], [0, 1, 2, 3, 4, 5, 6, 7, 8, 9, 10], [], [0, 1, 2, 3, 4, 5, 6, 7, 8, 9, 10, 11, 12], [0, 1, 2, 3, 4, 5, 6, 7, 8, 9, 10, 11, 12, 13], [0, 1, 2, 3, 4, 5, 6, 7, 8, 9, 10, 11, 12, 13, 14]] (by kernel_rfl) ⟨?_, ?_, ?_, ?_, ?_, ?_, ?_, ?_, ?_, ?_, ?_, ?_, ?_, trivial⟩ ?_
      · intro e_ w_ k_ hf_ hR_
        have S_ : St w_ (fun _ => False) w_ [] [bl b15 (sg a2 2) 30, bl b12 [I a1.Day, I a1.Read, I a1.Error] 67, bl b9 ([I a0.Heap.Low, I a0.Heap.High] ++ (sgE eSpan a0.Eats 2 ++ (sg a0.Extra 3 ++ [SL A1 a0.Days.length c2, I a0.Collier.Low, I a0.Collier.High, I a0.Brings, SL A4 a0.Dips.length c5]))) 29, rd eCoalDay 3 A1 c2 a0.Days, rd eCoalDip 3 A4 c5 a0.Dips, bl 0 [Value.func (.func 128) #[] #[], Value.func (.func 129) #[] #[]] 110, bl 1 [I (-1), I (-1)] 123] := S21.asP k_
        refine hopE [(3, P b9 0)] ⟨((hf_ 3 rfl).trans (rfl : _ = P b9 0)), trivial⟩ ?_
        refine p_ldA ty29 sz29 (S_.atP (i := 2) rfl) rfl rfl ?_
        refine wp_nil ?_
        exact ⟨_, rfl, S_.keep, rfl⟩
      · intro e_ w_ k_ hf_ hR_
        have S_ : St w_ (fun _ => False) w_ [] [bl b15 (sg a2 2) 30, bl b12 [I a1.Day, I a1.Read, I a1.Error] 67, bl b9 ([I a0.Heap.Low, I a0.Heap.High] ++ (sgE eSpan a0.Eats 2 ++ (sg a0.Extra 3 ++ [SL A1 a0.Days.length c2, I a0.Collier.Low, I a0.Collier.High, I a0.Brings, SL A4 a0.Dips.length c5]))) 29, rd eCoalDay 3 A1 c2 a0.Days, rd eCoalDip 3 A4 c5 a0.Dips, bl 0 [Value.func (.func 128) #[] #[], Value.func (.func 129) #[] #[]] 110, bl 1 [I (-1), I (-1)] 123] := S21.asP k_
        refine hopE [(4, P b12 0)] ⟨((hf_ 4 rfl).trans (rfl : _ = P b12 0)), trivial⟩ ?_
        refine p_ldA ty67 sz67 (S_.atP (i := 1) rfl) rfl rfl ?_
        refine wp_nil ?_
        exact ⟨_, rfl, S_.keep, rfl⟩
      · intro e_ w_ k_ hf_ hR_
        have S_ : St w_ (fun _ => False) w_ [] [bl b15 (sg a2 2) 30, bl b12 [I a1.Day, I a1.Read, I a1.Error] 67, bl b9 ([I a0.Heap.Low, I a0.Heap.High] ++ (sgE eSpan a0.Eats 2 ++ (sg a0.Extra 3 ++ [SL A1 a0.Days.length c2, I a0.Collier.Low, I a0.Collier.High, I a0.Brings, SL A4 a0.Dips.length c5]))) 29, rd eCoalDay 3 A1 c2 a0.Days, rd eCoalDip 3 A4 c5 a0.Dips, bl 0 [Value.func (.func 128) #[] #[], Value.func (.func 129) #[] #[]] 110, bl 1 [I (-1), I (-1)] 123] := S21.asP k_
        obtain ⟨_, _, _, _, q32⟩ := hR_ 0 36 rfl (Nat.le_of_ble_eq_true rfl) rfl
        obtain ⟨_, _, _, _, q33⟩ := hR_ 1 37 rfl (Nat.le_of_ble_eq_true rfl) rfl
        refine hopE [(36, AG ([I a0.Heap.Low, I a0.Heap.High] ++ (sgE eSpan a0.Eats 2 ++ (sg a0.Extra 3 ++ [SL A1 a0.Days.length c2, I a0.Collier.Low, I a0.Collier.High, I a0.Brings, SL A4 a0.Dips.length c5])))), (37, AG [I a1.Day, I a1.Read, I a1.Error])] ⟨q32, q33, trivial⟩ ?_
        refine p_cal (law_with_ok h35 (S_.atP (i := 3) rfl) (S_.atP (i := 4) rfl)) fu40 rfl ?_
        rintro _ w36 ⟨A38, c39, rfl, k37, ⟨o40, n41⟩, _⟩
        have S43 := S_.addNew k37 o40 n41
        refine wp_nil ?_
        exact ⟨_, rfl, S43.keep, ⟨(A38, c39), rfl, ⟨BtwL.of (New.al (S43.newX (i := 0) rfl)) rfl (S43.atX (i := 0) rfl) rfl, trivial⟩, (List.forall_mem_cons.2 ⟨(S43.atX (i := 0) rfl), (fun _ h_ => (List.not_mem_nil h_).elim)⟩)⟩⟩
      · intro e_ w_ k_ hf_ hR_
        have S_ : St w_ (fun _ => False) w_ [] [bl b15 (sg a2 2) 30, bl b12 [I a1.Day, I a1.Read, I a1.Error] 67, bl b9 ([I a0.Heap.Low, I a0.Heap.High] ++ (sgE eSpan a0.Eats 2 ++ (sg a0.Extra 3 ++ [SL A1 a0.Days.length c2, I a0.Collier.Low, I a0.Collier.High, I a0.Brings, SL A4 a0.Dips.length c5]))) 29, rd eCoalDay 3 A1 c2 a0.Days, rd eCoalDip 3 A4 c5 a0.Dips, bl 0 [Value.func (.func 128) #[] #[], Value.func (.func 129) #[] #[]] 110, bl 1 [I (-1), I (-1)] 123] := S21.asP k_
        refine hopE [(5, P b15 0)] ⟨((hf_ 5 rfl).trans (rfl : _ = P b15 0)), trivial⟩ ?_
        refine p_ixc ar30 rfl rfl (by decide) (by decide) ?_
        refine wp_nil ?_
        exact ⟨_, rfl, S_.keep, rfl⟩
      · intro e_ w_ k_ hf_ hR_
        have S_ : St w_ (fun _ => False) w_ [] [bl b15 (sg a2 2) 30, bl b12 [I a1.Day, I a1.Read, I a1.Error] 67, bl b9 ([I a0.Heap.Low, I a0.Heap.High] ++ (sgE eSpan a0.Eats 2 ++ (sg a0.Extra 3 ++ [SL A1 a0.Days.length c2, I a0.Collier.Low, I a0.Collier.High, I a0.Brings, SL A4 a0.Dips.length c5]))) 29, rd eCoalDay 3 A1 c2 a0.Days, rd eCoalDip 3 A4 c5 a0.Dips, bl 0 [Value.func (.func 128) #[] #[], Value.func (.func 129) #[] #[]] 110, bl 1 [I (-1), I (-1)] 123] := S21.asP k_
        obtain ⟨_, _, _, _, q44⟩ := hR_ 3 39 rfl (Nat.le_of_ble_eq_true rfl) rfl
        refine hopE [(39, P b15 0)] ⟨q44, trivial⟩ ?_
        refine p_ld ty3 (S_.atP (i := 0) rfl) rfl rfl ?_
        refine wp_nil ?_
        exact ⟨_, rfl, S_.keep, rfl⟩
      · intro e_ w_ k_ hf_ hR_
        have S_ : St w_ (fun _ => False) w_ [] [bl b15 (sg a2 2) 30, bl b12 [I a1.Day, I a1.Read, I a1.Error] 67, bl b9 ([I a0.Heap.Low, I a0.Heap.High] ++ (sgE eSpan a0.Eats 2 ++ (sg a0.Extra 3 ++ [SL A1 a0.Days.length c2, I a0.Collier.Low, I a0.Collier.High, I a0.Brings, SL A4 a0.Dips.length c5]))) 29, rd eCoalDay 3 A1 c2 a0.Days, rd eCoalDip 3 A4 c5 a0.Dips, bl 0 [Value.func (.func 128) #[] #[], Value.func (.func 129) #[] #[]] 110, bl 1 [I (-1), I (-1)] 123] := S21.asP k_
        refine hopE [(3, P b9 0)] ⟨((hf_ 3 rfl).trans (rfl : _ = P b9 0)), trivial⟩ ?_
        refine p_fld fl29_3 rfl ?_
        refine wp_nil ?_
        exact ⟨_, rfl, S_.keep, rfl⟩
      · intro e_ w_ k_ hf_ hR_
        have S_ : St w_ (fun _ => False) w_ [] [bl b15 (sg a2 2) 30, bl b12 [I a1.Day, I a1.Read, I a1.Error] 67, bl b9 ([I a0.Heap.Low, I a0.Heap.High] ++ (sgE eSpan a0.Eats 2 ++ (sg a0.Extra 3 ++ [SL A1 a0.Days.length c2, I a0.Collier.Low, I a0.Collier.High, I a0.Brings, SL A4 a0.Dips.length c5]))) 29, rd eCoalDay 3 A1 c2 a0.Days, rd eCoalDip 3 A4 c5 a0.Dips, bl 0 [Value.func (.func 128) #[] #[], Value.func (.func 129) #[] #[]] 110, bl 1 [I (-1), I (-1)] 123] := S21.asP k_
        obtain ⟨_, _, _, _, q45⟩ := hR_ 5 41 rfl (Nat.le_of_ble_eq_true rfl) rfl
        refine hopE [(41, P b9 9)] ⟨q45, trivial⟩ ?_
        refine p_ld ty26 (S_.atP (i := 2) rfl) rfl rfl ?_
        refine wp_nil ?_
        exact ⟨_, rfl, S_.keep, rfl⟩
      · intro e_ w_ k_ hf_ hR_
        have S_ : St w_ (fun _ => False) w_ [] [bl b15 (sg a2 2) 30, bl b12 [I a1.Day, I a1.Read, I a1.Error] 67, bl b9 ([I a0.Heap.Low, I a0.Heap.High] ++ (sgE eSpan a0.Eats 2 ++ (sg a0.Extra 3 ++ [SL A1 a0.Days.length c2, I a0.Collier.Low, I a0.Collier.High, I a0.Brings, SL A4 a0.Dips.length c5]))) 29, rd eCoalDay 3 A1 c2 a0.Days, rd eCoalDip 3 A4 c5 a0.Dips, bl 0 [Value.func (.func 128) #[] #[], Value.func (.func 129) #[] #[]] 110, bl 1 [I (-1), I (-1)] 123] := S21.asP k_
        obtain ⟨_, _, _, _, q46⟩ := hR_ 6 42 rfl (Nat.le_of_ble_eq_true rfl) rfl
        refine hopE [(42, SL A1 a0.Days.length c2)] ⟨q46, trivial⟩ ?_
        refine p_len rfl sc26 ?_
        refine wp_nil ?_
        exact ⟨_, rfl, S_.keep, rfl⟩
      · intro e_ w_ k_ hf_ hR_
        have S_ : St w_ (fun _ => False) w_ [] [bl b15 (sg a2 2) 30, bl b12 [I a1.Day, I a1.Read, I a1.Error] 67, bl b9 ([I a0.Heap.Low, I a0.Heap.High] ++ (sgE eSpan a0.Eats 2 ++ (sg a0.Extra 3 ++ [SL A1 a0.Days.length c2, I a0.Collier.Low, I a0.Collier.High, I a0.Brings, SL A4 a0.Dips.length c5]))) 29, rd eCoalDay 3 A1 c2 a0.Days, rd eCoalDip 3 A4 c5 a0.Dips, bl 0 [Value.func (.func 128) #[] #[], Value.func (.func 129) #[] #[]] 110, bl 1 [I (-1), I (-1)] 123] := S21.asP k_
        obtain ⟨_, _, _, _, q47⟩ := hR_ 4 40 rfl (Nat.le_of_ble_eq_true rfl) rfl
        obtain ⟨_, _, _, _, q48⟩ := hR_ 7 43 rfl (Nat.le_of_ble_eq_true rfl) rfl
        refine hopE [(40, I (aget a2 0)), (43, I (a0.Days.length : Int))] ⟨q47, q48, trivial⟩ ?_
        refine p_cv (B_Mod_ok h50) fu25 rfl S_ fun w51 S52 => ?_
        refine wp_nil ?_
        exact ⟨_, rfl, S52.keep, rfl⟩
      · intro e_ w_ k_ hf_ hR_
        have S_ : St w_ (fun _ => False) w_ [] [bl b15 (sg a2 2) 30, bl b12 [I a1.Day, I a1.Read, I a1.Error] 67, bl b9 ([I a0.Heap.Low, I a0.Heap.High] ++ (sgE eSpan a0.Eats 2 ++ (sg a0.Extra 3 ++ [SL A1 a0.Days.length c2, I a0.Collier.Low, I a0.Collier.High, I a0.Brings, SL A4 a0.Dips.length c5]))) 29, rd eCoalDay 3 A1 c2 a0.Days, rd eCoalDip 3 A4 c5 a0.Dips, bl 0 [Value.func (.func 128) #[] #[], Value.func (.func 129) #[] #[]] 110, bl 1 [I (-1), I (-1)] 123] := S21.asP k_
        refine hopE [(5, P b15 0)] ⟨((hf_ 5 rfl).trans (rfl : _ = P b15 0)), trivial⟩ ?_
        refine p_ixc ar30 rfl rfl (by decide) (by decide) ?_
        refine wp_nil ?_
        exact ⟨_, rfl, S_.keep, rfl⟩
      · intro e_ w_ k_ hf_ hR_
        have S_ : St w_ (fun _ => False) w_ [] [bl b15 (sg a2 2) 30, bl b12 [I a1.Day, I a1.Read, I a1.Error] 67, bl b9 ([I a0.Heap.Low, I a0.Heap.High] ++ (sgE eSpan a0.Eats 2 ++ (sg a0.Extra 3 ++ [SL A1 a0.Days.length c2, I a0.Collier.Low, I a0.Collier.High, I a0.Brings, SL A4 a0.Dips.length c5]))) 29, rd eCoalDay 3 A1 c2 a0.Days, rd eCoalDip 3 A4 c5 a0.Dips, bl 0 [Value.func (.func 128) #[] #[], Value.func (.func 129) #[] #[]] 110, bl 1 [I (-1), I (-1)] 123] := S21.asP k_
        obtain ⟨_, _, _, _, q53⟩ := hR_ 9 45 rfl (Nat.le_of_ble_eq_true rfl) rfl
        refine hopE [(45, P b15 1)] ⟨q53, trivial⟩ ?_
        refine p_ld ty3 (S_.atP (i := 0) rfl) rfl rfl ?_
        refine wp_nil ?_
        exact ⟨_, rfl, S_.keep, rfl⟩
      · intro e_ w_ k_ hf_ hR_
        have S_ : St w_ (fun _ => False) w_ [] [bl b15 (sg a2 2) 30, bl b12 [I a1.Day, I a1.Read, I a1.Error] 67, bl b9 ([I a0.Heap.Low, I a0.Heap.High] ++ (sgE eSpan a0.Eats 2 ++ (sg a0.Extra 3 ++ [SL A1 a0.Days.length c2, I a0.Collier.Low, I a0.Collier.High, I a0.Brings, SL A4 a0.Dips.length c5]))) 29, rd eCoalDay 3 A1 c2 a0.Days, rd eCoalDip 3 A4 c5 a0.Dips, bl 0 [Value.func (.func 128) #[] #[], Value.func (.func 129) #[] #[]] 110, bl 1 [I (-1), I (-1)] 123] := S21.asP k_
        obtain ⟨_, _, _, _, q54⟩ := hR_ 10 46 rfl (Nat.le_of_ble_eq_true rfl) rfl
        refine hopE [(46, I (aget a2 1))] ⟨q54, trivial⟩ ?_
        refine p_cv (B_Mod_ok h56) fu25 rfl S_ fun w57 S58 => ?_
        refine wp_nil ?_
        exact ⟨_, rfl, S58.keep, rfl⟩
      · intro e_ w_ k_ hf_ hR_
        have S_ : St w_ (fun _ => False) w_ [] [bl b15 (sg a2 2) 30, bl b12 [I a1.Day, I a1.Read, I a1.Error] 67, bl b9 ([I a0.Heap.Low, I a0.Heap.High] ++ (sgE eSpan a0.Eats 2 ++ (sg a0.Extra 3 ++ [SL A1 a0.Days.length c2, I a0.Collier.Low, I a0.Collier.High, I a0.Brings, SL A4 a0.Dips.length c5]))) 29, rd eCoalDay 3 A1 c2 a0.Days, rd eCoalDip 3 A4 c5 a0.Dips, bl 0 [Value.func (.func 128) #[] #[], Value.func (.func 129) #[] #[]] 110, bl 1 [I (-1), I (-1)] 123] := S21.asP k_
        refine hopE [] trivial ?_
        refine p_allA in29 S_ fun b59 w60 S61 => ?_
        refine wp_nil ?_
        exact ⟨_, rfl, S61.keep, ⟨b59, rfl, ⟨BtwL.of (New.al (S61.newX (i := 0) rfl)) rfl (S61.atX (i := 0) rfl) rfl, trivial⟩, (List.forall_mem_cons.2 ⟨(S61.atX (i := 0) rfl), (fun _ h_ => (List.not_mem_nil h_).elim)⟩)⟩⟩
      intro e62 w63 lo64 hi65 k66 hf67 hR68 hd69
      have S70 := S21.call k66
      have q71 : e62 36 = AG ([I a0.Heap.Low, I a0.Heap.High] ++ (sgE eSpan a0.Eats 2 ++ (sg a0.Extra 3 ++ [SL A1 a0.Days.length c2, I a0.Collier.Low, I a0.Collier.High, I a0.Brings, SL A4 a0.Dips.length c5]))) := (hR68 0 36 (Nat.le_of_ble_eq_true rfl) rfl).2.2.2
      have q72 : e62 37 = AG [I a1.Day, I a1.Read, I a1.Error] := (hR68 1 37 (Nat.le_of_ble_eq_true rfl) rfl).2.2.2
      obtain ⟨h74, h75, h76, ⟨A38, c39⟩, q73, h77, h78⟩ := hR68 2 38 (Nat.le_of_ble_eq_true rfl) rfl
      replace q73 : e62 38 = AG ([I r34.Heap.Low, I r34.Heap.High] ++ (sgE eSpan r34.Eats 2 ++ (sg r34.Extra 3 ++ [SL A1 a0.Days.length c2, I r34.Collier.Low, I r34.Collier.High, I r34.Brings, SL A38 r34.Dips.length c39]))) := q73
      obtain ⟨p79, _⟩ := h77
      have q81 : e62 39 = P b15 0 := (hR68 3 39 (Nat.le_of_ble_eq_true rfl) rfl).2.2.2
      have q82 : e62 40 = I (aget a2 0) := (hR68 4 40 (Nat.le_of_ble_eq_true rfl) rfl).2.2.2
      have q83 : e62 41 = P b9 9 := (hR68 5 41 (Nat.le_of_ble_eq_true rfl) rfl).2.2.2
      have q84 : e62 42 = SL A1 a0.Days.length c2 := (hR68 6 42 (Nat.le_of_ble_eq_true rfl) rfl).2.2.2
      have q85 : e62 43 = I (a0.Days.length : Int) := (hR68 7 43 (Nat.le_of_ble_eq_true rfl) rfl).2.2.2
      have q86 : e62 44 = I r49 := (hR68 8 44 (Nat.le_of_ble_eq_true rfl) rfl).2.2.2
      have q87 : e62 45 = P b15 1 := (hR68 9 45 (Nat.le_of_ble_eq_true rfl) rfl).2.2.2
      have q88 : e62 46 = I (aget a2 1) := (hR68 10 46 (Nat.le_of_ble_eq_true rfl) rfl).2.2.2
      have q89 : e62 47 = I r55 := (hR68 11 47 (Nat.le_of_ble_eq_true rfl) rfl).2.2.2
      obtain ⟨h91, h92, h93, b59, q90, h94, h95⟩ := hR68 12 7 (Nat.le_of_ble_eq_true rfl) rfl
      replace q90 : e62 7 = P b59 0 := q90
      obtain ⟨p96, _⟩ := h94
      have S98 := St.addO S70 (h78 _ (.head _)) (fun b_ h_ => (p79 b_ h_).elim (fun q_ => Nat.le_trans S21.keep.size (Nat.le_trans h74 q_.1)) (fun ⟨_, hq_, _⟩ => (List.not_mem_nil hq_).elim)) (List.forall_mem_cons.2 ⟨(fun b_ h1_ h2_ => (p79 b_ h1_).elim (fun q2_ => by have q1_ := Asr.inb _ _ _ (S21.atX (i := 0) rfl) h2_; omega) (fun ⟨_, hq_, _⟩ => (List.not_mem_nil hq_).elim)), (List.forall_mem_cons.2 ⟨(fun b_ h1_ h2_ => (p79 b_ h1_).elim (fun q2_ => by have q1_ := Asr.inb _ _ _ (S21.atX (i := 1) rfl) h2_; omega) (fun ⟨_, hq_, _⟩ => (List.not_mem_nil hq_).elim)), (List.forall_mem_cons.2 ⟨(fun b_ h1_ h2_ => (p79 b_ h1_).elim (fun q2_ => by have q1_ := Asr.inb _ _ _ (S21.atX (i := 2) rfl) h2_; omega) (fun ⟨_, hq_, _⟩ => (List.not_mem_nil hq_).elim)), (fun _ h_ => (List.not_mem_nil h_).elim)⟩)⟩)⟩) (List.forall_mem_cons.2 ⟨(fun b_ h1_ h2_ => (p79 b_ h1_).elim (fun q2_ => by have q1_ := Asr.inb _ _ _ (S21.atP (i := 0) rfl) h2_; omega) (fun ⟨_, hq_, _⟩ => (List.not_mem_nil hq_).elim)), (List.forall_mem_cons.2 ⟨(fun b_ h1_ h2_ => (p79 b_ h1_).elim (fun q2_ => by have q1_ := Asr.inb _ _ _ (S21.atP (i := 1) rfl) h2_; omega) (fun ⟨_, hq_, _⟩ => (List.not_mem_nil hq_).elim)), (List.forall_mem_cons.2 ⟨(fun b_ h1_ h2_ => (p79 b_ h1_).elim (fun q2_ => by have q1_ := Asr.inb _ _ _ (S21.atP (i := 2) rfl) h2_; omega) (fun ⟨_, hq_, _⟩ => (List.not_mem_nil hq_).elim)), (List.forall_mem_cons.2 ⟨(fun b_ h1_ h2_ => (p79 b_ h1_).elim (fun q2_ => by have q1_ := Asr.inb _ _ _ (S21.atP (i := 3) rfl) h2_; omega) (fun ⟨_, hq_, _⟩ => (List.not_mem_nil hq_).elim)), (fun _ h_ => (List.not_mem_nil h_).elim)⟩)⟩)⟩)⟩)
      have S99 := St.addO S98 (h95 _ (.head _)) (fun b_ h_ => (p96 b_ h_).elim (fun q_ => Nat.le_trans S21.keep.size (Nat.le_trans h91 q_.1)) (fun ⟨_, hq_, _⟩ => (List.not_mem_nil hq_).elim)) (List.forall_mem_cons.2 ⟨(fun b_ h1_ h2_ => (p96 b_ h1_).elim (fun q1_ => (p79 b_ h2_).elim (fun q2_ => by have q3_ := hd69 12 2 (Nat.le_of_ble_eq_true rfl) (Nat.le_of_ble_eq_true rfl) (by decide); omega) (fun ⟨q_, hq_, hqb_⟩ => by have q5_ := h91; have q4_ := Asr.inb _ _ _ (S21.ps q_ (((fun _ h_ => (List.not_mem_nil h_).elim)) q_ hq_)) hqb_; omega)) (fun ⟨_, hq_, _⟩ => (List.not_mem_nil hq_).elim)), (List.forall_mem_cons.2 ⟨(fun b_ h1_ h2_ => (p96 b_ h1_).elim (fun q2_ => by have q1_ := Asr.inb _ _ _ (S21.atX (i := 0) rfl) h2_; omega) (fun ⟨_, hq_, _⟩ => (List.not_mem_nil hq_).elim)), (List.forall_mem_cons.2 ⟨(fun b_ h1_ h2_ => (p96 b_ h1_).elim (fun q2_ => by have q1_ := Asr.inb _ _ _ (S21.atX (i := 1) rfl) h2_; omega) (fun ⟨_, hq_, _⟩ => (List.not_mem_nil hq_).elim)), (List.forall_mem_cons.2 ⟨(fun b_ h1_ h2_ => (p96 b_ h1_).elim (fun q2_ => by have q1_ := Asr.inb _ _ _ (S21.atX (i := 2) rfl) h2_; omega) (fun ⟨_, hq_, _⟩ => (List.not_mem_nil hq_).elim)), (fun _ h_ => (List.not_mem_nil h_).elim)⟩)⟩)⟩)⟩) (List.forall_mem_cons.2 ⟨(fun b_ h1_ h2_ => (p96 b_ h1_).elim (fun q2_ => by have q1_ := Asr.inb _ _ _ (S21.atP (i := 0) rfl) h2_; omega) (fun ⟨_, hq_, _⟩ => (List.not_mem_nil hq_).elim)), (List.forall_mem_cons.2 ⟨(fun b_ h1_ h2_ => (p96 b_ h1_).elim (fun q2_ => by have q1_ := Asr.inb _ _ _ (S21.atP (i := 1) rfl) h2_; omega) (fun ⟨_, hq_, _⟩ => (List.not_mem_nil hq_).elim)), (List.forall_mem_cons.2 ⟨(fun b_ h1_ h2_ => (p96 b_ h1_).elim (fun q2_ => by have q1_ := Asr.inb _ _ _ (S21.atP (i := 2) rfl) h2_; omega) (fun ⟨_, hq_, _⟩ => (List.not_mem_nil hq_).elim)), (List.forall_mem_cons.2 ⟨(fun b_ h1_ h2_ => (p96 b_ h1_).elim (fun q2_ => by have q1_ := Asr.inb _ _ _ (S21.atP (i := 3) rfl) h2_; omega) (fun ⟨_, hq_, _⟩ => (List.not_mem_nil hq_).elim)), (fun _ h_ => (List.not_mem_nil h_).elim)⟩)⟩)⟩)⟩)
      refine tailE [(3, P b9 0), (7, P b59 0), (38, AG ([I r34.Heap.Low, I r34.Heap.High] ++ (sgE eSpan r34.Eats 2 ++ (sg r34.Extra 3 ++ [SL A1 a0.Days.length c2, I r34.Collier.Low, I r34.Collier.High, I r34.Brings, SL A38 r34.Dips.length c39])))), (44, I r49), (47, I r55)] ⟨((hf67 3 rfl).trans (rfl : _ = P b9 0)), q90, q73, q86, q89, trivial⟩ ?_
      intro g100
      refine p_stP (pre := []) (old := [I 0, I 0, I 0, I 0, I 0, I 0] ++ (sg (List.replicate 3 0) 3 ++ [SL none 0 0, I 0, I 0, I 0, SL none 0 0])) (post := []) (vs := [I r34.Heap.Low, I r34.Heap.High] ++ (sgE eSpan r34.Eats 2 ++ (sg r34.Extra 3 ++ [SL A1 a0.Days.length c2, I r34.Collier.Low, I r34.Collier.High, I r34.Brings, SL A38 r34.Dips.length c39]))) sz29 S99 (i := 0) rfl rfl rfl rfl (rfl : _ = AG ([I r34.Heap.Low, I r34.Heap.High] ++ (sgE eSpan r34.Eats 2 ++ (sg r34.Extra 3 ++ [SL A1 a0.Days.length c2, I r34.Collier.Low, I r34.Collier.High, I r34.Brings, SL A38 r34.Dips.length c39])))) rfl rfl rfl rfl fun w101 S102 => ?_
      refine p_aI rfl ?_
      refine p_aI rfl ?_
      refine wp_nil ?_
      refine c_seq ?_
      refine reg ?_
      refine p_ldA ty29 sz29 (S102.atX (i := 4) rfl) rfl rfl ?_
      refine p_mI rfl ?_
      obtain ⟨r103, h104, H⟩ := bindS H
      refine p_cv (coal_Heap_ok h104 (S102.atP (i := 0) rfl) (S102.atP (i := 1) rfl) (S102.atP (i := 3) rfl)) fu28 rfl S102 fun w105 S106 => ?_
      refine p_mT rfl ?_
      refine p_ext rfl rfl ?_
      refine p_ext rfl rfl ?_
      refine p_allA in23 S106 fun b107 w108 S109 => ?_
      refine p_stP (pre := []) (old := [I 0, I 0]) (post := []) (vs := [I r103.1.Low, I r103.1.High]) sz23 S109 (i := 0) rfl rfl rfl rfl (rfl : _ = AG [I r103.1.Low, I r103.1.High]) rfl rfl rfl rfl fun w110 S111 => ?_
      refine p_aI rfl ?_
      refine wp_nil ?_
      refine c_seq ?_
      refine reg ?_
      refine p_ldA ty29 sz29 (S111.atX (i := 1) rfl) rfl rfl ?_
      refine p_mI rfl ?_
      obtain ⟨r112, h113, H⟩ := bindS H
      refine p_cv (coal_Heap_ok h113 (S111.atP (i := 0) rfl) (gr_rd eCoalDip_len (S111.atX (i := 2) rfl)) (S111.atP (i := 3) rfl)) fu28 rfl S111 fun w114 S115 => ?_
      refine p_mT rfl ?_
      refine p_ext rfl rfl ?_
      refine p_ext rfl rfl ?_
      refine p_allA in23 S115 fun b116 w117 S118 => ?_
      refine p_stP (pre := []) (old := [I 0, I 0]) (post := []) (vs := [I r112.1.Low, I r112.1.High]) sz23 S118 (i := 0) rfl rfl rfl rfl (rfl : _ = AG [I r112.1.Low, I r112.1.High]) rfl rfl rfl rfl fun w119 S120 => ?_
      refine p_aI rfl ?_
      refine wp_nil ?_
      refine c_seq ?_
      refine c_seq ?_
      refine reg ?_
      refine p_mI rfl ?_
      refine p_cmp rfl rfl rfl ?_
      refine wp_nil ?_
      refine c_cond rfl (fun c121 => ?_) (fun c121 => ?_)
      · replace H := condT c121 H
        refine c_seq ?_
        refine reg ?_
        refine p_mI rfl ?_
        refine p_cmp rfl rfl rfl ?_
        refine p_ldA ty29 sz29 (S120.atX (i := 2) rfl) rfl rfl ?_
        obtain ⟨r122, h123, H⟩ := bindS H
        refine p_cv (coal_Check_ok h123 (S120.atP (i := 0) rfl) (gr_rd eCoalDip_len (S120.atX (i := 3) rfl))) fu41 rfl S120 fun w124 S125 => ?_
        refine p_mI rfl ?_
        refine p_cmp rfl rfl rfl ?_
        refine o_eqB rfl rfl ub4 ?_
        refine p_mB rfl ?_
        rcases Bool.eq_false_or_eq_true (((r112.2 == 60) == (r122 == r112.2))) with c126 | c126
        · replace H := condT c126 H
          refine eB c126 ?_
          refine gT rfl rfl (p_mI rfl ?_)
          refine gT rfl rfl (p_cmp rfl rfl rfl ?_)
          refine gT rfl rfl (p_mB rfl ?_)
          rcases Bool.eq_false_or_eq_true ((r112.2 == 60)) with c127 | c127
          · replace H := condT c127 H
            refine eB c127 ?_
            refine gF rfl rfl ?_
            refine gF rfl rfl ?_
            refine gT rfl rfl (p_pkT rfl (rfl : _ = B true) ?_)
            refine p_pkT rfl (rfl : _ = B true) ?_
            refine p_mB rfl ?_
            obtain ⟨r128, h129, H⟩ := bindS H
            refine gT rfl rfl (p_cv (law_stoked_ok h129 (S125.atP (i := 2) rfl) (S125.atP (i := 3) rfl)) fu19 rfl S125 fun w130 S131 => ?_)
            refine p_pkT rfl (rfl : _ = B r128) ?_
            refine p_aB rfl ?_
            refine wp_nil ?_
            obtain rfl := Option.some.inj H
            refine c_ret ?_; show bodyPostM (Fr none) 0 Tryd.prog Tryd.f8 _ .ret _ _
            refine ret_of (res1 rfl (rvT (rfl : _ = B r128))) ?_
            exact ⟨_, rfl, rfl, S131.keep⟩
          · replace H := condF c127 H
            refine eB c127 ?_
            refine gT rfl rfl (p_mI rfl ?_)
            refine gT rfl rfl (p_cmp rfl rfl rfl ?_)
            refine gT rfl rfl (p_pkF rfl (rfl : _ = B (r112.2 == 62)) ?_)
            refine p_pkT rfl (rfl : _ = B (r112.2 == 62)) ?_
            refine p_mB rfl ?_
            rcases Bool.eq_false_or_eq_true ((r112.2 == 62)) with c132 | c132
            · replace H := condT c132 H
              refine eB c132 ?_
              obtain ⟨r133, h134, H⟩ := bindS H
              refine gT rfl rfl (p_cv (law_stoked_ok h134 (S125.atP (i := 2) rfl) (S125.atP (i := 3) rfl)) fu19 rfl S125 fun w135 S136 => ?_)
              refine p_pkT rfl (rfl : _ = B r133) ?_
              refine p_aB rfl ?_
              refine wp_nil ?_
              obtain rfl := Option.some.inj H
              refine c_ret ?_; show bodyPostM (Fr none) 0 Tryd.prog Tryd.f8 _ .ret _ _
              refine ret_of (res1 rfl (rvT (rfl : _ = B r133))) ?_
              exact ⟨_, rfl, rfl, S136.keep⟩
            · replace H := condF c132 H
              refine eB c132 ?_
              refine gF rfl rfl ?_
              refine p_pkF rfl (rfl : _ = B false) ?_
              refine p_aB rfl ?_
              refine wp_nil ?_
              obtain rfl := Option.some.inj H
              refine c_ret ?_; show bodyPostM (Fr none) 0 Tryd.prog Tryd.f8 _ .ret _ _
              refine ret_of (res1 rfl (rvT (rfl : _ = B false))) ?_
              exact ⟨_, rfl, rfl, S125.keep⟩
        · replace H := condF c126 H
          refine eB c126 ?_
          refine gF rfl rfl ?_
          refine gF rfl rfl ?_
          refine gF rfl rfl ?_
          refine o_guardU rfl rfl ?_
          refine o_guardU rfl rfl ?_
          refine gF rfl rfl ?_
          refine p_pkF rfl (rfl : _ = B false) ?_
          refine p_mB rfl ?_
          refine gF rfl rfl ?_
          refine p_pkF rfl (rfl : _ = B false) ?_
          refine p_aB rfl ?_
          refine wp_nil ?_
          obtain rfl := Option.some.inj H
          refine c_ret ?_; show bodyPostM (Fr none) 0 Tryd.prog Tryd.f8 _ .ret _ _
          refine ret_of (res1 rfl (rvT (rfl : _ = B false))) ?_
          exact ⟨_, rfl, rfl, S125.keep⟩
      · replace H := condF c121 H
        refine c_skip ?_
        refine c_seq ?_
        refine reg ?_
        refine p_ldA ty29 sz29 (S120.atX (i := 6) rfl) rfl rfl ?_
        refine p_mI rfl ?_
        obtain ⟨r137, h138, H⟩ := bindS H
        refine p_cv (coal_Eats_ok h138 (S120.atP (i := 0) rfl) (S120.atP (i := 1) rfl) (S120.atP (i := 3) rfl)) fu35 rfl S120 fun w139 S140 => ?_
        refine p_mT rfl ?_
        refine p_ext rfl rfl ?_
        refine p_ext rfl rfl ?_
        refine p_allA in23 S140 fun b141 w142 S143 => ?_
        refine p_stP (pre := []) (old := [I 0, I 0]) (post := []) (vs := [I r137.1.Low, I r137.1.High]) sz23 S143 (i := 0) rfl rfl rfl rfl (rfl : _ = AG [I r137.1.Low, I r137.1.High]) rfl rfl rfl rfl fun w144 S145 => ?_
        refine p_aI rfl ?_
        refine wp_nil ?_
        refine c_seq ?_
        refine reg ?_
        refine p_ldA ty29 sz29 (S145.atX (i := 3) rfl) rfl rfl ?_
        refine p_mI rfl ?_
        obtain ⟨r146, h147, H⟩ := bindS H
        refine p_cv (coal_Eats_ok h147 (S145.atP (i := 0) rfl) (gr_rd eCoalDip_len (S145.atX (i := 4) rfl)) (S145.atP (i := 3) rfl)) fu35 rfl S145 fun w148 S149 => ?_
        refine p_mT rfl ?_
        refine p_ext rfl rfl ?_
        refine p_ext rfl rfl ?_
        refine p_allA in23 S149 fun b150 w151 S152 => ?_
        refine p_stP (pre := []) (old := [I 0, I 0]) (post := []) (vs := [I r146.1.Low, I r146.1.High]) sz23 S152 (i := 0) rfl rfl rfl rfl (rfl : _ = AG [I r146.1.Low, I r146.1.High]) rfl rfl rfl rfl fun w153 S154 => ?_
        refine p_aI rfl ?_
        refine wp_nil ?_
        refine c_seq ?_
        refine c_seq ?_
        refine reg ?_
        refine p_mI rfl ?_
        refine p_cmp rfl rfl rfl ?_
        refine p_mB rfl ?_
        rcases Bool.eq_false_or_eq_true ((r103.2 != 0)) with c155 | c155
        · replace H := condT c155 H
          refine eB c155 ?_
          refine gF rfl rfl ?_
          refine gF rfl rfl ?_
          refine p_pkT rfl (rfl : _ = B true) ?_
          refine p_mB rfl ?_
          refine gF rfl rfl ?_
          refine gF rfl rfl ?_
          refine p_pkT rfl (rfl : _ = B true) ?_
          refine p_mB rfl ?_
          refine gF rfl rfl ?_
          refine gF rfl rfl ?_
          refine gF rfl rfl ?_
          refine gF rfl rfl ?_
          refine p_pkT rfl (rfl : _ = B true) ?_
          refine p_mB rfl ?_
          refine gF rfl rfl ?_
          refine gF rfl rfl ?_
          refine gF rfl rfl ?_
          refine gF rfl rfl ?_
          refine p_pkT rfl (rfl : _ = B true) ?_
          refine wp_nil ?_
          refine c_true rfl ?_
          refine c_seq ?_
          refine reg ?_
          refine p_aB rfl ?_
          refine wp_nil ?_
          obtain rfl := Option.some.inj H
          refine c_ret ?_; show bodyPostM (Fr none) 0 Tryd.prog Tryd.f8 _ .ret _ _
          refine ret_of (res1 rfl (rvT (rfl : _ = B false))) ?_
          exact ⟨_, rfl, rfl, S154.keep⟩
        · replace H := condF c155 H
          refine eB c155 ?_
          refine gT rfl rfl (p_mI rfl ?_)
          refine gT rfl rfl (p_cmp rfl rfl rfl ?_)
          refine p_pkF rfl (rfl : _ = B (r137.2 != 0)) ?_
          refine p_mB rfl ?_
          rcases Bool.eq_false_or_eq_true ((r137.2 != 0)) with c156 | c156
          · replace H := condT c156 H
            refine eB c156 ?_
            refine gF rfl rfl ?_
            refine gF rfl rfl ?_
            refine p_pkT rfl (rfl : _ = B true) ?_
            refine p_mB rfl ?_
            refine gF rfl rfl ?_
            refine gF rfl rfl ?_
            refine gF rfl rfl ?_
            refine gF rfl rfl ?_
            refine p_pkT rfl (rfl : _ = B true) ?_
            refine p_mB rfl ?_
            refine gF rfl rfl ?_
            refine gF rfl rfl ?_
            refine gF rfl rfl ?_
            refine gF rfl rfl ?_
            refine p_pkT rfl (rfl : _ = B true) ?_
            refine wp_nil ?_
            refine c_true rfl ?_
            refine c_seq ?_
            refine reg ?_
            refine p_aB rfl ?_
            refine wp_nil ?_
            obtain rfl := Option.some.inj H
            refine c_ret ?_; show bodyPostM (Fr none) 0 Tryd.prog Tryd.f8 _ .ret _ _
            refine ret_of (res1 rfl (rvT (rfl : _ = B false))) ?_
            exact ⟨_, rfl, rfl, S154.keep⟩
          · replace H := condF c156 H
            refine eB c156 ?_
            refine gT rfl rfl (p_mI rfl ?_)
            refine gT rfl rfl (p_cmp rfl rfl rfl ?_)
            refine p_pkF rfl (rfl : _ = B (r146.2 != 0)) ?_
            refine p_mB rfl ?_
            rcases Bool.eq_false_or_eq_true ((r146.2 != 0)) with c157 | c157
            · replace H := condT c157 H
              refine eB c157 ?_
              refine gF rfl rfl ?_
              refine gF rfl rfl ?_
              refine gF rfl rfl ?_
              refine gF rfl rfl ?_
              refine p_pkT rfl (rfl : _ = B true) ?_
              refine p_mB rfl ?_
              refine gF rfl rfl ?_
              refine gF rfl rfl ?_
              refine gF rfl rfl ?_
              refine gF rfl rfl ?_
              refine p_pkT rfl (rfl : _ = B true) ?_
              refine wp_nil ?_
              refine c_true rfl ?_
              refine c_seq ?_
              refine reg ?_
              refine p_aB rfl ?_
              refine wp_nil ?_
              obtain rfl := Option.some.inj H
              refine c_ret ?_; show bodyPostM (Fr none) 0 Tryd.prog Tryd.f8 _ .ret _ _
              refine ret_of (res1 rfl (rvT (rfl : _ = B false))) ?_
              exact ⟨_, rfl, rfl, S154.keep⟩
            · replace H := condF c157 H
              refine eB c157 ?_
              refine gT rfl rfl (p_ldA ty23 sz23 (S154.atX (i := 3) rfl) rfl rfl ?_)
              refine gT rfl rfl (p_ldA ty23 sz23 (S154.atX (i := 2) rfl) rfl rfl ?_)
              obtain ⟨r158, h159, H⟩ := bindS H
              refine gT rfl rfl (p_cv (B_Covers_ok h159) fu39 rfl S154 fun w160 S161 => ?_)
              refine gT rfl rfl (p_not rfl ?_)
              refine p_pkF rfl (rfl : _ = B (!r158)) ?_
              refine p_mB rfl ?_
              rcases Bool.eq_false_or_eq_true (!r158) with c162 | c162
              · replace H := condT c162 H
                refine eB c162 ?_
                refine gF rfl rfl ?_
                refine gF rfl rfl ?_
                refine gF rfl rfl ?_
                refine gF rfl rfl ?_
                refine p_pkT rfl (rfl : _ = B true) ?_
                refine wp_nil ?_
                refine c_true rfl ?_
                refine c_seq ?_
                refine reg ?_
                refine p_aB rfl ?_
                refine wp_nil ?_
                obtain rfl := Option.some.inj H
                refine c_ret ?_; show bodyPostM (Fr none) 0 Tryd.prog Tryd.f8 _ .ret _ _
                refine ret_of (res1 rfl (rvT (rfl : _ = B false))) ?_
                exact ⟨_, rfl, rfl, S161.keep⟩
              · replace H := condF c162 H
                refine eB c162 ?_
                refine gT rfl rfl (p_ldA ty23 sz23 (S161.atX (i := 1) rfl) rfl rfl ?_)
                refine gT rfl rfl (p_ldA ty23 sz23 (S161.atX (i := 0) rfl) rfl rfl ?_)
                obtain ⟨r163, h164, H⟩ := bindS H
                refine gT rfl rfl (p_cv (B_Covers_ok h164) fu39 rfl S161 fun w165 S166 => ?_)
                refine gT rfl rfl (p_not rfl ?_)
                refine p_pkF rfl (rfl : _ = B (!r163)) ?_
                refine wp_nil ?_
                refine c_cond rfl (fun c167 => ?_) (fun c167 => ?_)
                · replace H := condT c167 H
                  refine c_seq ?_
                  refine reg ?_
                  refine p_aB rfl ?_
                  refine wp_nil ?_
                  obtain rfl := Option.some.inj H
                  refine c_ret ?_; show bodyPostM (Fr none) 0 Tryd.prog Tryd.f8 _ .ret _ _
                  refine ret_of (res1 rfl (rvT (rfl : _ = B false))) ?_
                  exact ⟨_, rfl, rfl, S166.keep⟩
                · replace H := condF c167 H
                  refine c_skip ?_
                  refine c_seq ?_
                  refine reg ?_
                  refine p_ldA ty29 sz29 (S166.atX (i := 8) rfl) rfl rfl ?_
                  refine p_mI rfl ?_
                  obtain ⟨r168, h169, H⟩ := bindS H
                  refine p_cv (coal_Wind_ok h169 (S166.atP (i := 0) rfl) (S166.atP (i := 1) rfl) (S166.atP (i := 3) rfl)) fu29 rfl S166 fun w170 S171 => ?_
                  refine p_mT rfl ?_
                  refine p_ext rfl rfl ?_
                  refine p_ext rfl rfl ?_
                  refine p_aI rfl ?_
                  refine p_aI rfl ?_
                  refine wp_nil ?_
                  refine c_seq ?_
                  refine reg ?_
                  refine p_ldA ty29 sz29 (S171.atX (i := 4) rfl) rfl rfl ?_
                  refine p_mI rfl ?_
                  obtain ⟨r172, h173, H⟩ := bindS H
                  refine p_cv (coal_Wind_ok h173 (S171.atP (i := 0) rfl) (gr_rd eCoalDip_len (S171.atX (i := 5) rfl)) (S171.atP (i := 3) rfl)) fu29 rfl S171 fun w174 S175 => ?_
                  refine p_mT rfl ?_
                  refine p_ext rfl rfl ?_
                  refine p_ext rfl rfl ?_
                  refine p_aI rfl ?_
                  refine p_aI rfl ?_
                  refine wp_nil ?_
                  refine c_seq ?_
                  refine reg ?_
                  refine p_ldA ty29 sz29 (S175.atX (i := 8) rfl) rfl rfl ?_
                  refine p_mI rfl ?_
                  obtain ⟨r176, h177, H⟩ := bindS H
                  refine p_cv (coal_Lasts_ok h177 (S175.atP (i := 0) rfl) (S175.atP (i := 1) rfl) (S175.atP (i := 2) rfl) (S175.atP (i := 3) rfl)) fu30 rfl S175 fun w178 S179 => ?_
                  refine p_mT rfl ?_
                  refine p_ext rfl rfl ?_
                  refine p_ext rfl rfl ?_
                  refine p_aI rfl ?_
                  refine p_aI rfl ?_
                  refine wp_nil ?_
                  refine c_seq ?_
                  refine reg ?_
                  refine p_ldA ty29 sz29 (S179.atX (i := 4) rfl) rfl rfl ?_
                  refine p_mI rfl ?_
                  obtain ⟨r180, h181, H⟩ := bindS H
                  refine p_cv (coal_Lasts_ok h181 (S179.atP (i := 0) rfl) (gr_rd eCoalDip_len (S179.atX (i := 5) rfl)) (S179.atP (i := 2) rfl) (S179.atP (i := 3) rfl)) fu30 rfl S179 fun w182 S183 => ?_
                  refine p_mT rfl ?_
                  refine p_ext rfl rfl ?_
                  refine p_ext rfl rfl ?_
                  refine p_aI rfl ?_
                  refine p_aI rfl ?_
                  refine wp_nil ?_
                  refine c_seq ?_
                  refine reg ?_
                  refine p_ldA ty29 sz29 (S183.atX (i := 8) rfl) rfl rfl ?_
                  obtain ⟨r184, h185, H⟩ := bindS H
                  refine p_cv (coal_Order_ok h185 (S183.atP (i := 0) rfl) (S183.atP (i := 1) rfl) (S183.atP (i := 3) rfl)) fu31 rfl S183 fun w186 S187 => ?_
                  refine p_mT rfl ?_
                  refine p_ext rfl rfl ?_
                  refine p_ext rfl rfl ?_
                  refine p_aI rfl ?_
                  refine p_aI rfl ?_
                  refine wp_nil ?_
                  refine c_seq ?_
                  refine reg ?_
                  refine p_ldA ty29 sz29 (S187.atX (i := 4) rfl) rfl rfl ?_
                  obtain ⟨r188, h189, H⟩ := bindS H
                  refine p_cv (coal_Order_ok h189 (S187.atP (i := 0) rfl) (gr_rd eCoalDip_len (S187.atX (i := 5) rfl)) (S187.atP (i := 3) rfl)) fu31 rfl S187 fun w190 S191 => ?_
                  refine p_mT rfl ?_
                  refine p_ext rfl rfl ?_
                  refine p_ext rfl rfl ?_
                  refine p_aI rfl ?_
                  refine p_aI rfl ?_
                  refine wp_nil ?_
                  refine c_seq ?_
                  refine reg ?_
                  refine p_mI rfl ?_
                  refine p_cmp rfl rfl rfl ?_
                  refine p_mB rfl ?_
                  rcases Bool.eq_false_or_eq_true ((r168.2 == 0)) with c192 | c192
                  · replace H := condT c192 H
                    refine eB c192 ?_
                    refine gT rfl rfl (p_mI rfl ?_)
                    refine gT rfl rfl (p_cmp rfl rfl rfl ?_)
                    refine p_pkT rfl (rfl : _ = B (r172.2 == 0)) ?_
                    refine p_mB rfl ?_
                    rcases Bool.eq_false_or_eq_true ((r172.2 == 0)) with c193 | c193
                    · replace H := condT c193 H
                      refine eB c193 ?_
                      refine gT rfl rfl (p_mI rfl ?_)
                      refine gT rfl rfl (p_cmp rfl rfl rfl ?_)
                      refine p_pkT rfl (rfl : _ = B (r176.2 == 0)) ?_
                      refine p_mB rfl ?_
                      rcases Bool.eq_false_or_eq_true ((r176.2 == 0)) with c194 | c194
                      · replace H := condT c194 H
                        refine eB c194 ?_
                        refine gT rfl rfl (p_mI rfl ?_)
                        refine gT rfl rfl (p_cmp rfl rfl rfl ?_)
                        refine p_pkT rfl (rfl : _ = B (r180.2 == 0)) ?_
                        refine p_mB rfl ?_
                        rcases Bool.eq_false_or_eq_true ((r180.2 == 0)) with c195 | c195
                        · replace H := condT c195 H
                          refine eB c195 ?_
                          refine gT rfl rfl (p_mI rfl ?_)
                          refine gT rfl rfl (p_cmp rfl rfl rfl ?_)
                          refine p_pkT rfl (rfl : _ = B (r184.2 == 0)) ?_
                          refine p_mB rfl ?_
                          rcases Bool.eq_false_or_eq_true ((r184.2 == 0)) with c196 | c196
                          · replace H := condT c196 H
                            refine eB c196 ?_
                            refine gT rfl rfl (p_mI rfl ?_)
                            refine gT rfl rfl (p_cmp rfl rfl rfl ?_)
                            refine p_pkT rfl (rfl : _ = B (r188.2 == 0)) ?_
                            refine p_mB rfl ?_
                            rcases Bool.eq_false_or_eq_true ((r188.2 == 0)) with c197 | c197
                            · replace H := condT c197 H
                              refine eB c197 ?_
                              refine gT rfl rfl (p_mI rfl ?_)
                              refine gT rfl rfl (p_mI rfl ?_)
                              refine gT rfl rfl (p_andNotI rfl rfl ?_)
                              refine gT rfl rfl (p_cmp rfl rfl rfl ?_)
                              refine p_pkT rfl (rfl : _ = B ((andNotI r172.1 r168.1) == 0)) ?_
                              refine p_mB rfl ?_
                              rcases Bool.eq_false_or_eq_true (((andNotI r172.1 r168.1) == 0)) with c198 | c198
                              · replace H := condT c198 H
                                refine eB c198 ?_
                                refine gT rfl rfl (p_mI rfl ?_)
                                refine gT rfl rfl (p_cmp rfl rfl rfl ?_)
                                refine p_pkT rfl (rfl : _ = B (r172.1 != 0)) ?_
                                refine p_mB rfl ?_
                                rcases Bool.eq_false_or_eq_true ((r172.1 != 0)) with c199 | c199
                                · replace H := condT c199 H
                                  refine eB c199 ?_
                                  refine gT rfl rfl (p_mI rfl ?_)
                                  refine gT rfl rfl (p_cmp rfl rfl rfl ?_)
                                  refine gT rfl rfl (p_mB rfl ?_)
                                  rcases Bool.eq_false_or_eq_true ((r176.1 == 1)) with c200 | c200
                                  · replace H := condT c200 H
                                    refine eB c200 ?_
                                    refine gF rfl rfl ?_
                                    refine gF rfl rfl ?_
                                    refine gF rfl rfl ?_
                                    refine gT rfl rfl (p_pkT rfl (rfl : _ = B true) ?_)
                                    refine p_pkT rfl (rfl : _ = B true) ?_
                                    refine p_mB rfl ?_
                                    refine gT rfl rfl (p_mI rfl ?_)
                                    refine gT rfl rfl (p_mI rfl ?_)
                                    refine gT rfl rfl (p_cmp rfl rfl rfl ?_)
                                    refine p_pkT rfl (rfl : _ = B (decide (r188.1 ≤ r184.1))) ?_
                                    refine p_mB rfl ?_
                                    rcases Bool.eq_false_or_eq_true (decide (r188.1 ≤ r184.1)) with c201 | c201
                                    · replace H := condT c201 H
                                      refine eB c201 ?_
                                      obtain ⟨r202, h203, H⟩ := bindS H
                                      refine gT rfl rfl (p_cv (law_stoked_ok h203 (S191.atP (i := 2) rfl) (S191.atP (i := 3) rfl)) fu19 rfl S191 fun w204 S205 => ?_)
                                      refine p_pkT rfl (rfl : _ = B r202) ?_
                                      refine p_aB rfl ?_
                                      refine wp_nil ?_
                                      obtain rfl := Option.some.inj H
                                      refine c_ret ?_; show bodyPostM (Fr none) 0 Tryd.prog Tryd.f8 _ .ret _ _
                                      refine ret_of (res1 rfl (rvT (rfl : _ = B r202))) ?_
                                      exact ⟨_, rfl, rfl, S205.keep⟩
                                    · replace H := condF c201 H
                                      refine eB c201 ?_
                                      refine gF rfl rfl ?_
                                      refine p_pkF rfl (rfl : _ = B false) ?_
                                      refine p_aB rfl ?_
                                      refine wp_nil ?_
                                      obtain rfl := Option.some.inj H
                                      refine c_ret ?_; show bodyPostM (Fr none) 0 Tryd.prog Tryd.f8 _ .ret _ _
                                      refine ret_of (res1 rfl (rvT (rfl : _ = B false))) ?_
                                      exact ⟨_, rfl, rfl, S191.keep⟩
                                  · replace H := condF c200 H
                                    refine eB c200 ?_
                                    refine gT rfl rfl (p_mI rfl ?_)
                                    refine gT rfl rfl (p_mI rfl ?_)
                                    refine gT rfl rfl (p_cmp rfl rfl rfl ?_)
                                    refine gT rfl rfl (p_pkF rfl (rfl : _ = B (r180.1 == r176.1)) ?_)
                                    refine p_pkT rfl (rfl : _ = B (r180.1 == r176.1)) ?_
                                    refine p_mB rfl ?_
                                    rcases Bool.eq_false_or_eq_true ((r180.1 == r176.1)) with c206 | c206
                                    · replace H := condT c206 H
                                      refine eB c206 ?_
                                      refine gT rfl rfl (p_mI rfl ?_)
                                      refine gT rfl rfl (p_mI rfl ?_)
                                      refine gT rfl rfl (p_cmp rfl rfl rfl ?_)
                                      refine p_pkT rfl (rfl : _ = B (decide (r188.1 ≤ r184.1))) ?_
                                      refine p_mB rfl ?_
                                      rcases Bool.eq_false_or_eq_true (decide (r188.1 ≤ r184.1)) with c207 | c207
                                      · replace H := condT c207 H
                                        refine eB c207 ?_
                                        obtain ⟨r208, h209, H⟩ := bindS H
                                        refine gT rfl rfl (p_cv (law_stoked_ok h209 (S191.atP (i := 2) rfl) (S191.atP (i := 3) rfl)) fu19 rfl S191 fun w210 S211 => ?_)
                                        refine p_pkT rfl (rfl : _ = B r208) ?_
                                        refine p_aB rfl ?_
                                        refine wp_nil ?_
                                        obtain rfl := Option.some.inj H
                                        refine c_ret ?_; show bodyPostM (Fr none) 0 Tryd.prog Tryd.f8 _ .ret _ _
                                        refine ret_of (res1 rfl (rvT (rfl : _ = B r208))) ?_
                                        exact ⟨_, rfl, rfl, S211.keep⟩
                                      · replace H := condF c207 H
                                        refine eB c207 ?_
                                        refine gF rfl rfl ?_
                                        refine p_pkF rfl (rfl : _ = B false) ?_
                                        refine p_aB rfl ?_
                                        refine wp_nil ?_
                                        obtain rfl := Option.some.inj H
                                        refine c_ret ?_; show bodyPostM (Fr none) 0 Tryd.prog Tryd.f8 _ .ret _ _
                                        refine ret_of (res1 rfl (rvT (rfl : _ = B false))) ?_
                                        exact ⟨_, rfl, rfl, S191.keep⟩
                                    · replace H := condF c206 H
                                      refine eB c206 ?_
                                      refine gF rfl rfl ?_
                                      refine gF rfl rfl ?_
                                      refine gF rfl rfl ?_
                                      refine p_pkF rfl (rfl : _ = B false) ?_
                                      refine p_mB rfl ?_
                                      refine gF rfl rfl ?_
                                      refine p_pkF rfl (rfl : _ = B false) ?_
                                      refine p_aB rfl ?_
                                      refine wp_nil ?_
                                      obtain rfl := Option.some.inj H
                                      refine c_ret ?_; show bodyPostM (Fr none) 0 Tryd.prog Tryd.f8 _ .ret _ _
                                      refine ret_of (res1 rfl (rvT (rfl : _ = B false))) ?_
                                      exact ⟨_, rfl, rfl, S191.keep⟩
                                · replace H := condF c199 H
                                  refine eB c199 ?_
                                  refine gF rfl rfl ?_
                                  refine gF rfl rfl ?_
                                  refine gF rfl rfl ?_
                                  refine o_guardU rfl rfl ?_
                                  refine o_guardU rfl rfl ?_
                                  refine o_guardU rfl rfl ?_
                                  refine gF rfl rfl ?_
                                  refine p_pkF rfl (rfl : _ = B false) ?_
                                  refine p_mB rfl ?_
                                  refine gF rfl rfl ?_
                                  refine gF rfl rfl ?_
                                  refine gF rfl rfl ?_
                                  refine p_pkF rfl (rfl : _ = B false) ?_
                                  refine p_mB rfl ?_
                                  refine gF rfl rfl ?_
                                  refine p_pkF rfl (rfl : _ = B false) ?_
                                  refine p_aB rfl ?_
                                  refine wp_nil ?_
                                  obtain rfl := Option.some.inj H
                                  refine c_ret ?_; show bodyPostM (Fr none) 0 Tryd.prog Tryd.f8 _ .ret _ _
                                  refine ret_of (res1 rfl (rvT (rfl : _ = B false))) ?_
                                  exact ⟨_, rfl, rfl, S191.keep⟩
                              · replace H := condF c198 H
                                refine eB c198 ?_
                                refine gF rfl rfl ?_
                                refine gF rfl rfl ?_
                                refine p_pkF rfl (rfl : _ = B false) ?_
                                refine p_mB rfl ?_
                                refine gF rfl rfl ?_
                                refine gF rfl rfl ?_
                                refine gF rfl rfl ?_
                                refine o_guardU rfl rfl ?_
                                refine o_guardU rfl rfl ?_
                                refine o_guardU rfl rfl ?_
                                refine gF rfl rfl ?_
                                refine p_pkF rfl (rfl : _ = B false) ?_
                                refine p_mB rfl ?_
                                refine gF rfl rfl ?_
                                refine gF rfl rfl ?_
                                refine gF rfl rfl ?_
                                refine p_pkF rfl (rfl : _ = B false) ?_
                                refine p_mB rfl ?_
                                refine gF rfl rfl ?_
                                refine p_pkF rfl (rfl : _ = B false) ?_
                                refine p_aB rfl ?_
                                refine wp_nil ?_
                                obtain rfl := Option.some.inj H
                                refine c_ret ?_; show bodyPostM (Fr none) 0 Tryd.prog Tryd.f8 _ .ret _ _
                                refine ret_of (res1 rfl (rvT (rfl : _ = B false))) ?_
                                exact ⟨_, rfl, rfl, S191.keep⟩
                            · replace H := condF c197 H
                              refine eB c197 ?_
                              refine gF rfl rfl ?_
                              refine gF rfl rfl ?_
                              refine gF rfl rfl ?_
                              refine gF rfl rfl ?_
                              refine p_pkF rfl (rfl : _ = B false) ?_
                              refine p_mB rfl ?_
                              refine gF rfl rfl ?_
                              refine gF rfl rfl ?_
                              refine p_pkF rfl (rfl : _ = B false) ?_
                              refine p_mB rfl ?_
                              refine gF rfl rfl ?_
                              refine gF rfl rfl ?_
                              refine gF rfl rfl ?_
                              refine o_guardU rfl rfl ?_
                              refine o_guardU rfl rfl ?_
                              refine o_guardU rfl rfl ?_
                              refine gF rfl rfl ?_
                              refine p_pkF rfl (rfl : _ = B false) ?_
                              refine p_mB rfl ?_
                              refine gF rfl rfl ?_
                              refine gF rfl rfl ?_
                              refine gF rfl rfl ?_
                              refine p_pkF rfl (rfl : _ = B false) ?_
                              refine p_mB rfl ?_
                              refine gF rfl rfl ?_
                              refine p_pkF rfl (rfl : _ = B false) ?_
                              refine p_aB rfl ?_
                              refine wp_nil ?_
                              obtain rfl := Option.some.inj H
                              refine c_ret ?_; show bodyPostM (Fr none) 0 Tryd.prog Tryd.f8 _ .ret _ _
                              refine ret_of (res1 rfl (rvT (rfl : _ = B false))) ?_
                              exact ⟨_, rfl, rfl, S191.keep⟩
                          · replace H := condF c196 H
                            refine eB c196 ?_
                            refine gF rfl rfl ?_
                            refine gF rfl rfl ?_
                            refine p_pkF rfl (rfl : _ = B false) ?_
                            refine p_mB rfl ?_
                            refine gF rfl rfl ?_
                            refine gF rfl rfl ?_
                            refine gF rfl rfl ?_
                            refine gF rfl rfl ?_
                            refine p_pkF rfl (rfl : _ = B false) ?_
                            refine p_mB rfl ?_
                            refine gF rfl rfl ?_
                            refine gF rfl rfl ?_
                            refine p_pkF rfl (rfl : _ = B false) ?_
                            refine p_mB rfl ?_
                            refine gF rfl rfl ?_
                            refine gF rfl rfl ?_
                            refine gF rfl rfl ?_
                            refine o_guardU rfl rfl ?_
                            refine o_guardU rfl rfl ?_
                            refine o_guardU rfl rfl ?_
                            refine gF rfl rfl ?_
                            refine p_pkF rfl (rfl : _ = B false) ?_
                            refine p_mB rfl ?_
                            refine gF rfl rfl ?_
                            refine gF rfl rfl ?_
                            refine gF rfl rfl ?_
                            refine p_pkF rfl (rfl : _ = B false) ?_
                            refine p_mB rfl ?_
                            refine gF rfl rfl ?_
                            refine p_pkF rfl (rfl : _ = B false) ?_
                            refine p_aB rfl ?_
                            refine wp_nil ?_
                            obtain rfl := Option.some.inj H
                            refine c_ret ?_; show bodyPostM (Fr none) 0 Tryd.prog Tryd.f8 _ .ret _ _
                            refine ret_of (res1 rfl (rvT (rfl : _ = B false))) ?_
                            exact ⟨_, rfl, rfl, S191.keep⟩
                        · replace H := condF c195 H
                          refine eB c195 ?_
                          refine gF rfl rfl ?_
                          refine gF rfl rfl ?_
                          refine p_pkF rfl (rfl : _ = B false) ?_
                          refine p_mB rfl ?_
                          refine gF rfl rfl ?_
                          refine gF rfl rfl ?_
                          refine p_pkF rfl (rfl : _ = B false) ?_
                          refine p_mB rfl ?_
                          refine gF rfl rfl ?_
                          refine gF rfl rfl ?_
                          refine gF rfl rfl ?_
                          refine gF rfl rfl ?_
                          refine p_pkF rfl (rfl : _ = B false) ?_
                          refine p_mB rfl ?_
                          refine gF rfl rfl ?_
                          refine gF rfl rfl ?_
                          refine p_pkF rfl (rfl : _ = B false) ?_
                          refine p_mB rfl ?_
                          refine gF rfl rfl ?_
                          refine gF rfl rfl ?_
                          refine gF rfl rfl ?_
                          refine o_guardU rfl rfl ?_
                          refine o_guardU rfl rfl ?_
                          refine o_guardU rfl rfl ?_
                          refine gF rfl rfl ?_
                          refine p_pkF rfl (rfl : _ = B false) ?_
                          refine p_mB rfl ?_
                          refine gF rfl rfl ?_
                          refine gF rfl rfl ?_
                          refine gF rfl rfl ?_
                          refine p_pkF rfl (rfl : _ = B false) ?_
                          refine p_mB rfl ?_
                          refine gF rfl rfl ?_
                          refine p_pkF rfl (rfl : _ = B false) ?_
                          refine p_aB rfl ?_
                          refine wp_nil ?_
                          obtain rfl := Option.some.inj H
                          refine c_ret ?_; show bodyPostM (Fr none) 0 Tryd.prog Tryd.f8 _ .ret _ _
                          refine ret_of (res1 rfl (rvT (rfl : _ = B false))) ?_
                          exact ⟨_, rfl, rfl, S191.keep⟩
                      · replace H := condF c194 H
                        refine eB c194 ?_
                        refine gF rfl rfl ?_
                        refine gF rfl rfl ?_
                        refine p_pkF rfl (rfl : _ = B false) ?_
                        refine p_mB rfl ?_
                        refine gF rfl rfl ?_
                        refine gF rfl rfl ?_
                        refine p_pkF rfl (rfl : _ = B false) ?_
                        refine p_mB rfl ?_
                        refine gF rfl rfl ?_
                        refine gF rfl rfl ?_
                        refine p_pkF rfl (rfl : _ = B false) ?_
                        refine p_mB rfl ?_
                        refine gF rfl rfl ?_
                        refine gF rfl rfl ?_
                        refine gF rfl rfl ?_
                        refine gF rfl rfl ?_
                        refine p_pkF rfl (rfl : _ = B false) ?_
                        refine p_mB rfl ?_
                        refine gF rfl rfl ?_
                        refine gF rfl rfl ?_
                        refine p_pkF rfl (rfl : _ = B false) ?_
                        refine p_mB rfl ?_
                        refine gF rfl rfl ?_
                        refine gF rfl rfl ?_
                        refine gF rfl rfl ?_
                        refine o_guardU rfl rfl ?_
                        refine o_guardU rfl rfl ?_
                        refine o_guardU rfl rfl ?_
                        refine gF rfl rfl ?_
                        refine p_pkF rfl (rfl : _ = B false) ?_
                        refine p_mB rfl ?_
                        refine gF rfl rfl ?_
                        refine gF rfl rfl ?_
                        refine gF rfl rfl ?_
                        refine p_pkF rfl (rfl : _ = B false) ?_
                        refine p_mB rfl ?_
                        refine gF rfl rfl ?_
                        refine p_pkF rfl (rfl : _ = B false) ?_
                        refine p_aB rfl ?_
                        refine wp_nil ?_
                        obtain rfl := Option.some.inj H
                        refine c_ret ?_; show bodyPostM (Fr none) 0 Tryd.prog Tryd.f8 _ .ret _ _
                        refine ret_of (res1 rfl (rvT (rfl : _ = B false))) ?_
                        exact ⟨_, rfl, rfl, S191.keep⟩
                    · replace H := condF c193 H
                      refine eB c193 ?_
                      refine gF rfl rfl ?_
                      refine gF rfl rfl ?_
                      refine p_pkF rfl (rfl : _ = B false) ?_
                      refine p_mB rfl ?_
                      refine gF rfl rfl ?_
                      refine gF rfl rfl ?_
                      refine p_pkF rfl (rfl : _ = B false) ?_
                      refine p_mB rfl ?_
                      refine gF rfl rfl ?_
                      refine gF rfl rfl ?_
                      refine p_pkF rfl (rfl : _ = B false) ?_
                      refine p_mB rfl ?_
                      refine gF rfl rfl ?_
                      refine gF rfl rfl ?_
                      refine p_pkF rfl (rfl : _ = B false) ?_
                      refine p_mB rfl ?_
                      refine gF rfl rfl ?_
                      refine gF rfl rfl ?_
                      refine gF rfl rfl ?_
                      refine gF rfl rfl ?_
                      refine p_pkF rfl (rfl : _ = B false) ?_
                      refine p_mB rfl ?_
                      refine gF rfl rfl ?_
                      refine gF rfl rfl ?_
                      refine p_pkF rfl (rfl : _ = B false) ?_
                      refine p_mB rfl ?_
                      refine gF rfl rfl ?_
                      refine gF rfl rfl ?_
                      refine gF rfl rfl ?_
                      refine o_guardU rfl rfl ?_
                      refine o_guardU rfl rfl ?_
                      refine o_guardU rfl rfl ?_
                      refine gF rfl rfl ?_
                      refine p_pkF rfl (rfl : _ = B false) ?_
                      refine p_mB rfl ?_
                      refine gF rfl rfl ?_
                      refine gF rfl rfl ?_
                      refine gF rfl rfl ?_
                      refine p_pkF rfl (rfl : _ = B false) ?_
                      refine p_mB rfl ?_
                      refine gF rfl rfl ?_
                      refine p_pkF rfl (rfl : _ = B false) ?_
                      refine p_aB rfl ?_
                      refine wp_nil ?_
                      obtain rfl := Option.some.inj H
                      refine c_ret ?_; show bodyPostM (Fr none) 0 Tryd.prog Tryd.f8 _ .ret _ _
                      refine ret_of (res1 rfl (rvT (rfl : _ = B false))) ?_
                      exact ⟨_, rfl, rfl, S191.keep⟩
                  · replace H := condF c192 H
                    refine eB c192 ?_
                    refine gF rfl rfl ?_
                    refine gF rfl rfl ?_
                    refine p_pkF rfl (rfl : _ = B false) ?_
                    refine p_mB rfl ?_
                    refine gF rfl rfl ?_
                    refine gF rfl rfl ?_
                    refine p_pkF rfl (rfl : _ = B false) ?_
                    refine p_mB rfl ?_
                    refine gF rfl rfl ?_
                    refine gF rfl rfl ?_
                    refine p_pkF rfl (rfl : _ = B false) ?_
                    refine p_mB rfl ?_
                    refine gF rfl rfl ?_
                    refine gF rfl rfl ?_
                    refine p_pkF rfl (rfl : _ = B false) ?_
                    refine p_mB rfl ?_
                    refine gF rfl rfl ?_
                    refine gF rfl rfl ?_
                    refine p_pkF rfl (rfl : _ = B false) ?_
                    refine p_mB rfl ?_
                    refine gF rfl rfl ?_
                    refine gF rfl rfl ?_
                    refine gF rfl rfl ?_
                    refine gF rfl rfl ?_
                    refine p_pkF rfl (rfl : _ = B false) ?_
                    refine p_mB rfl ?_
                    refine gF rfl rfl ?_
                    refine gF rfl rfl ?_
                    refine p_pkF rfl (rfl : _ = B false) ?_
                    refine p_mB rfl ?_
                    refine gF rfl rfl ?_
                    refine gF rfl rfl ?_
                    refine gF rfl rfl ?_
                    refine o_guardU rfl rfl ?_
                    refine o_guardU rfl rfl ?_
                    refine o_guardU rfl rfl ?_
                    refine gF rfl rfl ?_
                    refine p_pkF rfl (rfl : _ = B false) ?_
                    refine p_mB rfl ?_
                    refine gF rfl rfl ?_
                    refine gF rfl rfl ?_
                    refine gF rfl rfl ?_
                    refine p_pkF rfl (rfl : _ = B false) ?_
                    refine p_mB rfl ?_
                    refine gF rfl rfl ?_
                    refine p_pkF rfl (rfl : _ = B false) ?_
                    refine p_aB rfl ?_
                    refine wp_nil ?_
                    obtain rfl := Option.some.inj H
                    refine c_ret ?_; show bodyPostM (Fr none) 0 Tryd.prog Tryd.f8 _ .ret _ _
                    refine ret_of (res1 rfl (rvT (rfl : _ = B false))) ?_
                    exact ⟨_, rfl, rfl, S191.keep⟩

end Go.Proofs.YticodohfokgjfaaDoor

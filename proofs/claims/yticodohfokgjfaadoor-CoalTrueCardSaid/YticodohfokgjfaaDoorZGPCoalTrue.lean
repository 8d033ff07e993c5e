/- What the law's function computes, and that it does, printed by a program of mine. -/
import Derived.Test.YticodohfokgjfaaDoorZGPTruths
import Derived.KernelRfl
import Derived.Test.YticodohfokgjfaaDoorZGPBits
set_option linter.unusedVariables false
set_option linter.unusedSimpArgs false
namespace Go.Proofs.YticodohfokgjfaaDoor
open Go Go.Fx Go.Proofs
def law_CoalTrue_l3 (a0 : CoalBook) (r24 : Law06_known) (r135 : Int × Int) (r223 : Int × Int) (rec_z_3 : Int → Option Bool) (z_3 : Int) : Option Bool :=
  bif decide (z_3 < (a0.Days.length : Int)) then ((getI r24.coal_ z_3).bind fun r233 =>
  bif decide ((wr (r233 + r135.1)) < 0) then (some false)
  else ((getI r24.coal_ z_3).bind fun r236 =>
  bif decide (r236 < 0) then (bif (r223.2 != 0) then (some false)
  else (bif decide (z_3 < r223.1) then (some false)
  else (rec_z_3 (wr (z_3 + 1)))))
  else (rec_z_3 (wr (z_3 + 1)))))
  else (bif (r223.2 == 4) then ((law_stoked).bind fun r242 =>
  some r242)
  else (bif (r223.2 == 0) then ((B_Inside r223.1 0 (wr ((a0.Days.length : Int) - 1))).bind fun r247 =>
  bif r247 then ((law_stoked).bind fun r252 =>
  some r252)
  else (some false))
  else (some false)))

def law_CoalTrue_j4 (r45 : CoalBook) (a0 : CoalBook) (r24 : Law06_known) (r135 : Int × Int) (z_2 : Unit) : Option Bool :=
  (coal_Day (CoalBook.mk r45.Heap r45.Eats r45.Extra a0.Days r45.Collier r45.Brings r45.Dips)).bind fun r223 =>
  loopF (law_CoalTrue_l3 a0 r24 r135 r223) big 0

def law_CoalTrue_l5 (r45 : CoalBook) (a0 : CoalBook) (r24 : Law06_known) (r131 : Int × Int) (r59 : Int) (r135 : Int × Int) (rec_z_1 : Int → Option Bool) (z_1 : Int) : Option Bool :=
  bif decide (z_1 < 2) then ((coal_Eats (CoalBook.mk r45.Heap r45.Eats r45.Extra a0.Days r45.Collier r45.Brings r45.Dips) z_1).bind fun r199 =>
  bif (r199.2 != 0) then (some false)
  else (need (inI z_1 2) <|
  (B_Contains r199.1 (aget r24.eats_ z_1)).bind fun r213 =>
  bif !r213 then (some false)
  else (rec_z_1 (wr (z_1 + 1)))))
  else (bif (r131.1 == 2) then ((law_lasted r24 r59).bind fun r221 =>
  bif !r221 then (some false)
  else (bif (r131.1 == 0) then ((law_lasted r24 r59).bind fun r227 =>
  bif r227 then (some false)
  else (law_CoalTrue_j4 r45 a0 r24 r135 ()))
  else (law_CoalTrue_j4 r45 a0 r24 r135 ())))
  else (bif (r131.1 == 0) then ((law_lasted r24 r59).bind fun r233 =>
  bif r233 then (some false)
  else (law_CoalTrue_j4 r45 a0 r24 r135 ()))
  else (law_CoalTrue_j4 r45 a0 r24 r135 ())))

def law_CoalTrue (a0 : CoalBook) (a1 : List Int) (a2 : Int) : Option Bool :=
  (law_sound a0).bind fun r15 =>
  bif !r15 then ((law_stoked).bind fun r20 =>
  some r20)
  else ((law_truly a0 a1).bind fun r24 =>
  (law_rightly a0 r24 a1).bind fun r45 =>
  (B_Mod a2 (a0.Days.length : Int)).bind fun r59 =>
  (coal_Right (CoalBook.mk r45.Heap r45.Eats r45.Extra a0.Days r45.Collier r45.Brings r45.Dips)).bind fun r104 =>
  (coal_Wrong (CoalBook.mk r45.Heap r45.Eats r45.Extra a0.Days r45.Collier r45.Brings r45.Dips)).bind fun r109 =>
  (coal_Heap (CoalBook.mk r45.Heap r45.Eats r45.Extra a0.Days r45.Collier r45.Brings r45.Dips) r59).bind fun r118 =>
  (coal_Wind (CoalBook.mk r45.Heap r45.Eats r45.Extra a0.Days r45.Collier r45.Brings r45.Dips) r59).bind fun r127 =>
  (coal_Lasts (CoalBook.mk r45.Heap r45.Eats r45.Extra a0.Days r45.Collier r45.Brings r45.Dips) r59).bind fun r131 =>
  (coal_Order (CoalBook.mk r45.Heap r45.Eats r45.Extra a0.Days r45.Collier r45.Brings r45.Dips)).bind fun r135 =>
  bif (r104.2 != 0) then (some false)
  else (bif (r109.2 != 0) then (some false)
  else (bif (r118.2 != 0) then (some false)
  else (bif (r127.2 != 0) then (some false)
  else (bif (r131.2 != 0) then (some false)
  else (bif (r135.2 != 0) then (some false)
  else (bif !r104.1 then (some false)
  else (bif ((r109.1.length : Int) != 0) then (some false)
  else ((getI r24.coal_ r59).bind fun r171 =>
  (B_Contains r118.1 r171).bind fun r173 =>
  bif !r173 then (some false)
  else ((getI r24.winds_ r59).bind fun r179 =>
  (B_Member r127.1 r179).bind fun r181 =>
  bif !r181 then (some false)
  else ((B_Inside r131.1 0 2).bind fun r187 =>
  bif !r187 then (some false)
  else (loopF (law_CoalTrue_l5 r45 a0 r24 r131 r59 r135) big 0))))))))))))

set_option maxRecDepth 100000 in
theorem law_CoalTrue_ok {a0 : CoalBook} {a1 : List Int} {a2 : Int} {A1 : Option Addr} {c2 : Nat} {A4 : Option Addr} {c5 : Nat} {A7 : Option Addr} {c8 : Nat} {w : World} {r : Bool} (H : law_CoalTrue a0 a1 a2 = some r) (h3 : (rd eCoalDay 3 A1 c2 a0.Days).ok w) (h6 : (rd eCoalDip 3 A4 c5 a0.Dips).ok w) (h9 : (rd intE 1 A7 c8 a1).ok w) (hg10 : (bl 0 [Value.func (.func 128) #[] #[], Value.func (.func 129) #[] #[]] 110).ok w) (hg11 : (bl 1 [I (-1), I (-1)] 123).ok w) : Calls Tryd.prog 6 #[AG ([I a0.Heap.Low, I a0.Heap.High] ++ (sgE eSpan a0.Eats 2 ++ (sg a0.Extra 3 ++ [SL A1 a0.Days.length c2, I a0.Collier.Low, I a0.Collier.High, I a0.Brings, SL A4 a0.Dips.length c5]))), SL A7 a1.length c8, I a2] w (RetV w (B r)) := by
  unfold law_CoalTrue at H
  refine fn_of (n := 225) Tryd.func6 rfl rfl (Nat.le_of_ble_eq_true rfl) ?_
  have S : St w (fun _ => False) w [] [rd eCoalDay 3 A1 c2 a0.Days, rd eCoalDip 3 A4 c5 a0.Dips, rd intE 1 A7 c8 a1, bl 0 [Value.func (.func 128) #[] #[], Value.func (.func 129) #[] #[]] 110, bl 1 [I (-1), I (-1)] 123] := St.start w _ _ (List.forall_mem_cons.2 ⟨h3, (List.forall_mem_cons.2 ⟨h6, (List.forall_mem_cons.2 ⟨h9, (List.forall_mem_cons.2 ⟨hg10, (List.forall_mem_cons.2 ⟨hg11, (fun _ h_ => (List.not_mem_nil h_).elim)⟩)⟩)⟩)⟩)⟩)
  refine c_seq ?_
  refine reg ?_
  refine p_boxA rfl S fun b12 w13 S14 => ?_
  refine p_aB rfl ?_
  refine wp_nil ?_
  refine c_seq ?_
  refine c_seq ?_
  refine reg ?_
  refine p_ldA ty29 sz29 (S14.atX (i := 0) rfl) rfl rfl ?_
  obtain ⟨r15, h16, H⟩ := bindS H
  refine p_cv (law_sound_ok h16 (S14.atP (i := 0) rfl) (S14.atP (i := 1) rfl)) fu22 rfl S14 fun w17 S18 => ?_
  refine p_not rfl ?_
  refine wp_nil ?_
  refine c_cond rfl (fun c19 => ?_) (fun c19 => ?_)
  · replace H := condT c19 H
    refine c_seq ?_
    refine reg ?_
    obtain ⟨r20, h21, H⟩ := bindS H
    refine p_cv (law_stoked_ok h21 (S18.atP (i := 3) rfl) (S18.atP (i := 4) rfl)) fu19 rfl S18 fun w22 S23 => ?_
    refine p_aB rfl ?_
    refine wp_nil ?_
    obtain rfl := Option.some.inj H
    refine c_ret ?_; show bodyPostM (Fr none) 0 Tryd.prog Tryd.f6 _ .ret _ _
    refine ret_of (res1 rfl (rvT (rfl : _ = B r20))) ?_
    exact ⟨_, rfl, rfl, S23.keep⟩
  · replace H := condF c19 H
    refine c_skip ?_
    refine c_seq ?_
    refine reg ?_
    refine p_ldA ty29 sz29 (S18.atX (i := 0) rfl) rfl rfl ?_
    refine p_mS rfl ?_
    obtain ⟨r24, h25, H⟩ := bindS H
    refine p_cal (law_truly_ok h25 (S18.atP (i := 0) rfl) (S18.atP (i := 1) rfl) (S18.atP (i := 2) rfl)) fu23 rfl ?_
    rintro _ w26 ⟨A28, c29, A30, c31, rfl, k27, ⟨o32, n33⟩, ⟨o34, n35⟩, _⟩
    have S36 := S18.callN k27 [rd intE 1 A28 c29 r24.winds_, rd intE 1 A30 c31 r24.coal_] (List.forall_mem_cons.2 ⟨⟨o32, New.inL n33⟩, (List.forall_mem_cons.2 ⟨⟨o34, New.inL n35⟩, (fun _ h_ => (List.not_mem_nil h_).elim)⟩)⟩)
    refine p_allA in41 S36 fun b37 w38 S39 => ?_
    refine p_stP (pre := []) (old := sg (List.replicate 2 0) 2 ++ [SL none 0 0, SL none 0 0]) (post := []) (vs := sg r24.eats_ 2 ++ [SL A28 r24.winds_.length c29, SL A30 r24.coal_.length c31]) sz41 S39 (i := 0) rfl rfl rfl rfl (rfl : _ = AG (sg r24.eats_ 2 ++ [SL A28 r24.winds_.length c29, SL A30 r24.coal_.length c31])) rfl rfl rfl rfl fun w40 S41 => ?_
    refine wp_nil ?_
    refine c_seq ?_
    obtain ⟨r45, h46, H⟩ := bindS H
    obtain ⟨r59, h60, H⟩ := bindS H
    refine reg_any mixed 10 (by kernel_rfl) [rv (AG ([I a0.Heap.Low, I a0.Heap.High] ++ (sgE eSpan a0.Eats 2 ++ (sg a0.Extra 3 ++ [SL A1 a0.Days.length c2, I a0.Collier.Low, I a0.Collier.High, I a0.Brings, SL A4 a0.Dips.length c5])))), rv (AG (sg r24.eats_ 2 ++ [SL A28 r24.winds_.length c29, SL A30 r24.coal_.length c31])), rv (SL A7 a1.length c8), rx (α := (Option Addr) × Nat) (fun ⟨A49, c50⟩ => AG ([I r45.Heap.Low, I r45.Heap.High] ++ (sgE eSpan r45.Eats 2 ++ (sg r45.Extra 3 ++ [SL A1 a0.Days.length c2, I r45.Collier.Low, I r45.Collier.High, I r45.Brings, SL A49 r45.Dips.length c50])))) (fun ⟨A49, c50⟩ lo hi => BtwL lo hi [] (gr eCoalDip 3 67 A49 c50 r45.Dips) ∧ True) (fun ⟨A49, c50⟩ => [gr eCoalDip 3 67 A49 c50 r45.Dips]), rv (I a2), rv (P b12 9), rv (SL A1 a0.Days.length c2), rv (I (a0.Days.length : Int)), rv (I r59), rx (α := Nat) (fun b63 => P b63 0) (fun b63 lo hi => BtwL lo hi [] (bl b63 ([I 0, I 0, I 0, I 0, I 0, I 0] ++ (sg (List.replicate 3 0) 3 ++ [SL none 0 0, I 0, I 0, I 0, SL none 0 0])) 29) ∧ True) (fun b63 => [bl b63 ([I 0, I 0, I 0, I 0, I 0, I 0] ++ (sg (List.replicate 3 0) 3 ++ [SL none 0 0, I 0, I 0, I 0, SL none 0 0])) 29])] [[], [], [], [], [], [], [], [], [], []] rfl (by kernel_rfl) [[], [], [], [0, 1, 2], [], [], [5], [5, 6], [0, 1, 2, 3, 4, 5, 6, 7], [], [0, 1, 2, 3, 4, 5, 6, 7, 8, 9], [0, 1, 2, 3, 4, 5, 6, 7, 8, 9, 10]] (by kernel_rfl) ⟨?_, ?_, ?_, ?_, ?_, ?_, ?_, ?_, ?_, ?_, trivial⟩ ?_
    · intro e_ w_ k_ hf_ hR_
      have S_ : St w_ (fun _ => False) w_ [] [bl b37 (sg r24.eats_ 2 ++ [SL A28 r24.winds_.length c29, SL A30 r24.coal_.length c31]) 41, bl b12 ([I a0.Heap.Low, I a0.Heap.High] ++ (sgE eSpan a0.Eats 2 ++ (sg a0.Extra 3 ++ [SL A1 a0.Days.length c2, I a0.Collier.Low, I a0.Collier.High, I a0.Brings, SL A4 a0.Dips.length c5]))) 29, rd intE 1 A28 c29 r24.winds_, rd intE 1 A30 c31 r24.coal_, rd eCoalDay 3 A1 c2 a0.Days, rd eCoalDip 3 A4 c5 a0.Dips, rd intE 1 A7 c8 a1, bl 0 [Value.func (.func 128) #[] #[], Value.func (.func 129) #[] #[]] 110, bl 1 [I (-1), I (-1)] 123] := S41.asP k_
      refine hopE [(3, P b12 0)] ⟨((hf_ 3 rfl).trans (rfl : _ = P b12 0)), trivial⟩ ?_
      refine p_ldA ty29 sz29 (S_.atP (i := 1) rfl) rfl rfl ?_
      refine wp_nil ?_
      exact ⟨_, rfl, S_.keep, rfl⟩
    · intro e_ w_ k_ hf_ hR_
      have S_ : St w_ (fun _ => False) w_ [] [bl b37 (sg r24.eats_ 2 ++ [SL A28 r24.winds_.length c29, SL A30 r24.coal_.length c31]) 41, bl b12 ([I a0.Heap.Low, I a0.Heap.High] ++ (sgE eSpan a0.Eats 2 ++ (sg a0.Extra 3 ++ [SL A1 a0.Days.length c2, I a0.Collier.Low, I a0.Collier.High, I a0.Brings, SL A4 a0.Dips.length c5]))) 29, rd intE 1 A28 c29 r24.winds_, rd intE 1 A30 c31 r24.coal_, rd eCoalDay 3 A1 c2 a0.Days, rd eCoalDip 3 A4 c5 a0.Dips, rd intE 1 A7 c8 a1, bl 0 [Value.func (.func 128) #[] #[], Value.func (.func 129) #[] #[]] 110, bl 1 [I (-1), I (-1)] 123] := S41.asP k_
      refine hopE [(7, P b37 0)] ⟨((hf_ 7 rfl).trans (rfl : _ = P b37 0)), trivial⟩ ?_
      refine p_ldA ty41 sz41 (S_.atP (i := 0) rfl) rfl rfl ?_
      refine wp_nil ?_
      exact ⟨_, rfl, S_.keep, rfl⟩
    · intro e_ w_ k_ hf_ hR_
      have S_ : St w_ (fun _ => False) w_ [] [bl b37 (sg r24.eats_ 2 ++ [SL A28 r24.winds_.length c29, SL A30 r24.coal_.length c31]) 41, bl b12 ([I a0.Heap.Low, I a0.Heap.High] ++ (sgE eSpan a0.Eats 2 ++ (sg a0.Extra 3 ++ [SL A1 a0.Days.length c2, I a0.Collier.Low, I a0.Collier.High, I a0.Brings, SL A4 a0.Dips.length c5]))) 29, rd intE 1 A28 c29 r24.winds_, rd intE 1 A30 c31 r24.coal_, rd eCoalDay 3 A1 c2 a0.Days, rd eCoalDip 3 A4 c5 a0.Dips, rd intE 1 A7 c8 a1, bl 0 [Value.func (.func 128) #[] #[], Value.func (.func 129) #[] #[]] 110, bl 1 [I (-1), I (-1)] 123] := S41.asP k_
      refine hopE [(1, SL A7 a1.length c8)] ⟨((hf_ 1 rfl).trans (rfl : _ = SL A7 a1.length c8)), trivial⟩ ?_
      refine p_mS rfl ?_
      refine wp_nil ?_
      exact ⟨_, rfl, S_.keep, rfl⟩
    · intro e_ w_ k_ hf_ hR_
      have S_ : St w_ (fun _ => False) w_ [] [bl b37 (sg r24.eats_ 2 ++ [SL A28 r24.winds_.length c29, SL A30 r24.coal_.length c31]) 41, bl b12 ([I a0.Heap.Low, I a0.Heap.High] ++ (sgE eSpan a0.Eats 2 ++ (sg a0.Extra 3 ++ [SL A1 a0.Days.length c2, I a0.Collier.Low, I a0.Collier.High, I a0.Brings, SL A4 a0.Dips.length c5]))) 29, rd intE 1 A28 c29 r24.winds_, rd intE 1 A30 c31 r24.coal_, rd eCoalDay 3 A1 c2 a0.Days, rd eCoalDip 3 A4 c5 a0.Dips, rd intE 1 A7 c8 a1, bl 0 [Value.func (.func 128) #[] #[], Value.func (.func 129) #[] #[]] 110, bl 1 [I (-1), I (-1)] 123] := S41.asP k_
      obtain ⟨_, _, _, _, q42⟩ := hR_ 0 35 rfl (Nat.le_of_ble_eq_true rfl) rfl
      obtain ⟨_, _, _, _, q43⟩ := hR_ 1 36 rfl (Nat.le_of_ble_eq_true rfl) rfl
      obtain ⟨_, _, _, _, q44⟩ := hR_ 2 37 rfl (Nat.le_of_ble_eq_true rfl) rfl
      refine hopE [(35, AG ([I a0.Heap.Low, I a0.Heap.High] ++ (sgE eSpan a0.Eats 2 ++ (sg a0.Extra 3 ++ [SL A1 a0.Days.length c2, I a0.Collier.Low, I a0.Collier.High, I a0.Brings, SL A4 a0.Dips.length c5])))), (36, AG (sg r24.eats_ 2 ++ [SL A28 r24.winds_.length c29, SL A30 r24.coal_.length c31])), (37, SL A7 a1.length c8)] ⟨q42, q43, q44, trivial⟩ ?_
      refine p_cal (law_rightly_ok h46 (S_.atP (i := 4) rfl) (S_.atP (i := 5) rfl) (S_.atP (i := 2) rfl) (S_.atP (i := 3) rfl) (S_.atP (i := 6) rfl)) fu24 rfl ?_
      rintro _ w47 ⟨A49, c50, rfl, k48, ⟨o51, n52⟩, _⟩
      have S54 := S_.addNew k48 o51 n52
      refine wp_nil ?_
      exact ⟨_, rfl, S54.keep, ⟨(A49, c50), rfl, ⟨BtwL.of (New.al (S54.newX (i := 0) rfl)) rfl (S54.atX (i := 0) rfl) rfl, trivial⟩, (List.forall_mem_cons.2 ⟨(S54.atX (i := 0) rfl), (fun _ h_ => (List.not_mem_nil h_).elim)⟩)⟩⟩
    · intro e_ w_ k_ hf_ hR_
      have S_ : St w_ (fun _ => False) w_ [] [bl b37 (sg r24.eats_ 2 ++ [SL A28 r24.winds_.length c29, SL A30 r24.coal_.length c31]) 41, bl b12 ([I a0.Heap.Low, I a0.Heap.High] ++ (sgE eSpan a0.Eats 2 ++ (sg a0.Extra 3 ++ [SL A1 a0.Days.length c2, I a0.Collier.Low, I a0.Collier.High, I a0.Brings, SL A4 a0.Dips.length c5]))) 29, rd intE 1 A28 c29 r24.winds_, rd intE 1 A30 c31 r24.coal_, rd eCoalDay 3 A1 c2 a0.Days, rd eCoalDip 3 A4 c5 a0.Dips, rd intE 1 A7 c8 a1, bl 0 [Value.func (.func 128) #[] #[], Value.func (.func 129) #[] #[]] 110, bl 1 [I (-1), I (-1)] 123] := S41.asP k_
      refine hopE [(2, I a2)] ⟨((hf_ 2 rfl).trans (rfl : _ = I a2)), trivial⟩ ?_
      refine p_mI rfl ?_
      refine wp_nil ?_
      exact ⟨_, rfl, S_.keep, rfl⟩
    · intro e_ w_ k_ hf_ hR_
      have S_ : St w_ (fun _ => False) w_ [] [bl b37 (sg r24.eats_ 2 ++ [SL A28 r24.winds_.length c29, SL A30 r24.coal_.length c31]) 41, bl b12 ([I a0.Heap.Low, I a0.Heap.High] ++ (sgE eSpan a0.Eats 2 ++ (sg a0.Extra 3 ++ [SL A1 a0.Days.length c2, I a0.Collier.Low, I a0.Collier.High, I a0.Brings, SL A4 a0.Dips.length c5]))) 29, rd intE 1 A28 c29 r24.winds_, rd intE 1 A30 c31 r24.coal_, rd eCoalDay 3 A1 c2 a0.Days, rd eCoalDip 3 A4 c5 a0.Dips, rd intE 1 A7 c8 a1, bl 0 [Value.func (.func 128) #[] #[], Value.func (.func 129) #[] #[]] 110, bl 1 [I (-1), I (-1)] 123] := S41.asP k_
      refine hopE [(3, P b12 0)] ⟨((hf_ 3 rfl).trans (rfl : _ = P b12 0)), trivial⟩ ?_
      refine p_fld fl29_3 rfl ?_
      refine wp_nil ?_
      exact ⟨_, rfl, S_.keep, rfl⟩
    · intro e_ w_ k_ hf_ hR_
      have S_ : St w_ (fun _ => False) w_ [] [bl b37 (sg r24.eats_ 2 ++ [SL A28 r24.winds_.length c29, SL A30 r24.coal_.length c31]) 41, bl b12 ([I a0.Heap.Low, I a0.Heap.High] ++ (sgE eSpan a0.Eats 2 ++ (sg a0.Extra 3 ++ [SL A1 a0.Days.length c2, I a0.Collier.Low, I a0.Collier.High, I a0.Brings, SL A4 a0.Dips.length c5]))) 29, rd intE 1 A28 c29 r24.winds_, rd intE 1 A30 c31 r24.coal_, rd eCoalDay 3 A1 c2 a0.Days, rd eCoalDip 3 A4 c5 a0.Dips, rd intE 1 A7 c8 a1, bl 0 [Value.func (.func 128) #[] #[], Value.func (.func 129) #[] #[]] 110, bl 1 [I (-1), I (-1)] 123] := S41.asP k_
      obtain ⟨_, _, _, _, q55⟩ := hR_ 5 40 rfl (Nat.le_of_ble_eq_true rfl) rfl
      refine hopE [(40, P b12 9)] ⟨q55, trivial⟩ ?_
      refine p_ld ty26 (S_.atP (i := 1) rfl) rfl rfl ?_
      refine wp_nil ?_
      exact ⟨_, rfl, S_.keep, rfl⟩
    · intro e_ w_ k_ hf_ hR_
      have S_ : St w_ (fun _ => False) w_ [] [bl b37 (sg r24.eats_ 2 ++ [SL A28 r24.winds_.length c29, SL A30 r24.coal_.length c31]) 41, bl b12 ([I a0.Heap.Low, I a0.Heap.High] ++ (sgE eSpan a0.Eats 2 ++ (sg a0.Extra 3 ++ [SL A1 a0.Days.length c2, I a0.Collier.Low, I a0.Collier.High, I a0.Brings, SL A4 a0.Dips.length c5]))) 29, rd intE 1 A28 c29 r24.winds_, rd intE 1 A30 c31 r24.coal_, rd eCoalDay 3 A1 c2 a0.Days, rd eCoalDip 3 A4 c5 a0.Dips, rd intE 1 A7 c8 a1, bl 0 [Value.func (.func 128) #[] #[], Value.func (.func 129) #[] #[]] 110, bl 1 [I (-1), I (-1)] 123] := S41.asP k_
      obtain ⟨_, _, _, _, q56⟩ := hR_ 6 41 rfl (Nat.le_of_ble_eq_true rfl) rfl
      refine hopE [(41, SL A1 a0.Days.length c2)] ⟨q56, trivial⟩ ?_
      refine p_len rfl sc26 ?_
      refine wp_nil ?_
      exact ⟨_, rfl, S_.keep, rfl⟩
    · intro e_ w_ k_ hf_ hR_
      have S_ : St w_ (fun _ => False) w_ [] [bl b37 (sg r24.eats_ 2 ++ [SL A28 r24.winds_.length c29, SL A30 r24.coal_.length c31]) 41, bl b12 ([I a0.Heap.Low, I a0.Heap.High] ++ (sgE eSpan a0.Eats 2 ++ (sg a0.Extra 3 ++ [SL A1 a0.Days.length c2, I a0.Collier.Low, I a0.Collier.High, I a0.Brings, SL A4 a0.Dips.length c5]))) 29, rd intE 1 A28 c29 r24.winds_, rd intE 1 A30 c31 r24.coal_, rd eCoalDay 3 A1 c2 a0.Days, rd eCoalDip 3 A4 c5 a0.Dips, rd intE 1 A7 c8 a1, bl 0 [Value.func (.func 128) #[] #[], Value.func (.func 129) #[] #[]] 110, bl 1 [I (-1), I (-1)] 123] := S41.asP k_
      obtain ⟨_, _, _, _, q57⟩ := hR_ 4 39 rfl (Nat.le_of_ble_eq_true rfl) rfl
      obtain ⟨_, _, _, _, q58⟩ := hR_ 7 42 rfl (Nat.le_of_ble_eq_true rfl) rfl
      refine hopE [(39, I a2), (42, I (a0.Days.length : Int))] ⟨q57, q58, trivial⟩ ?_
      refine p_cv (B_Mod_ok h60) fu25 rfl S_ fun w61 S62 => ?_
      refine wp_nil ?_
      exact ⟨_, rfl, S62.keep, rfl⟩
    · intro e_ w_ k_ hf_ hR_
      have S_ : St w_ (fun _ => False) w_ [] [bl b37 (sg r24.eats_ 2 ++ [SL A28 r24.winds_.length c29, SL A30 r24.coal_.length c31]) 41, bl b12 ([I a0.Heap.Low, I a0.Heap.High] ++ (sgE eSpan a0.Eats 2 ++ (sg a0.Extra 3 ++ [SL A1 a0.Days.length c2, I a0.Collier.Low, I a0.Collier.High, I a0.Brings, SL A4 a0.Dips.length c5]))) 29, rd intE 1 A28 c29 r24.winds_, rd intE 1 A30 c31 r24.coal_, rd eCoalDay 3 A1 c2 a0.Days, rd eCoalDip 3 A4 c5 a0.Dips, rd intE 1 A7 c8 a1, bl 0 [Value.func (.func 128) #[] #[], Value.func (.func 129) #[] #[]] 110, bl 1 [I (-1), I (-1)] 123] := S41.asP k_
      refine hopE [] trivial ?_
      refine p_allA in29 S_ fun b63 w64 S65 => ?_
      refine wp_nil ?_
      exact ⟨_, rfl, S65.keep, ⟨b63, rfl, ⟨BtwL.of (New.al (S65.newX (i := 0) rfl)) rfl (S65.atX (i := 0) rfl) rfl, trivial⟩, (List.forall_mem_cons.2 ⟨(S65.atX (i := 0) rfl), (fun _ h_ => (List.not_mem_nil h_).elim)⟩)⟩⟩
    intro e66 w67 lo68 hi69 k70 hf71 hR72 hd73
    have S74 := S41.call k70
    have q75 : e66 35 = AG ([I a0.Heap.Low, I a0.Heap.High] ++ (sgE eSpan a0.Eats 2 ++ (sg a0.Extra 3 ++ [SL A1 a0.Days.length c2, I a0.Collier.Low, I a0.Collier.High, I a0.Brings, SL A4 a0.Dips.length c5]))) := (hR72 0 35 (Nat.le_of_ble_eq_true rfl) rfl).2.2.2
    have q76 : e66 36 = AG (sg r24.eats_ 2 ++ [SL A28 r24.winds_.length c29, SL A30 r24.coal_.length c31]) := (hR72 1 36 (Nat.le_of_ble_eq_true rfl) rfl).2.2.2
    have q77 : e66 37 = SL A7 a1.length c8 := (hR72 2 37 (Nat.le_of_ble_eq_true rfl) rfl).2.2.2
    obtain ⟨h79, h80, h81, ⟨A49, c50⟩, q78, h82, h83⟩ := hR72 3 38 (Nat.le_of_ble_eq_true rfl) rfl
    replace q78 : e66 38 = AG ([I r45.Heap.Low, I r45.Heap.High] ++ (sgE eSpan r45.Eats 2 ++ (sg r45.Extra 3 ++ [SL A1 a0.Days.length c2, I r45.Collier.Low, I r45.Collier.High, I r45.Brings, SL A49 r45.Dips.length c50]))) := q78
    obtain ⟨p84, _⟩ := h82
    have q86 : e66 39 = I a2 := (hR72 4 39 (Nat.le_of_ble_eq_true rfl) rfl).2.2.2
    have q87 : e66 40 = P b12 9 := (hR72 5 40 (Nat.le_of_ble_eq_true rfl) rfl).2.2.2
    have q88 : e66 41 = SL A1 a0.Days.length c2 := (hR72 6 41 (Nat.le_of_ble_eq_true rfl) rfl).2.2.2
    have q89 : e66 42 = I (a0.Days.length : Int) := (hR72 7 42 (Nat.le_of_ble_eq_true rfl) rfl).2.2.2
    have q90 : e66 43 = I r59 := (hR72 8 43 (Nat.le_of_ble_eq_true rfl) rfl).2.2.2
    obtain ⟨h92, h93, h94, b63, q91, h95, h96⟩ := hR72 9 8 (Nat.le_of_ble_eq_true rfl) rfl
    replace q91 : e66 8 = P b63 0 := q91
    obtain ⟨p97, _⟩ := h95
    have S99 := St.addO S74 (h83 _ (.head _)) (fun b_ h_ => (p84 b_ h_).elim (fun q_ => Nat.le_trans S41.keep.size (Nat.le_trans h79 q_.1)) (fun ⟨_, hq_, _⟩ => (List.not_mem_nil hq_).elim)) (List.forall_mem_cons.2 ⟨(fun b_ h1_ h2_ => (p84 b_ h1_).elim (fun q2_ => by have q1_ := Asr.inb _ _ _ (S41.atX (i := 0) rfl) h2_; omega) (fun ⟨_, hq_, _⟩ => (List.not_mem_nil hq_).elim)), (List.forall_mem_cons.2 ⟨(fun b_ h1_ h2_ => (p84 b_ h1_).elim (fun q2_ => by have q1_ := Asr.inb _ _ _ (S41.atX (i := 1) rfl) h2_; omega) (fun ⟨_, hq_, _⟩ => (List.not_mem_nil hq_).elim)), (fun _ h_ => (List.not_mem_nil h_).elim)⟩)⟩) (List.forall_mem_cons.2 ⟨(fun b_ h1_ h2_ => (p84 b_ h1_).elim (fun q2_ => by have q1_ := Asr.inb _ _ _ (S41.atP (i := 0) rfl) h2_; omega) (fun ⟨_, hq_, _⟩ => (List.not_mem_nil hq_).elim)), (List.forall_mem_cons.2 ⟨(fun b_ h1_ h2_ => (p84 b_ h1_).elim (fun q2_ => by have q1_ := Asr.inb _ _ _ (S41.atP (i := 1) rfl) h2_; omega) (fun ⟨_, hq_, _⟩ => (List.not_mem_nil hq_).elim)), (List.forall_mem_cons.2 ⟨(fun b_ h1_ h2_ => (p84 b_ h1_).elim (fun q2_ => by have q1_ := Asr.inb _ _ _ (S41.atP (i := 2) rfl) h2_; omega) (fun ⟨_, hq_, _⟩ => (List.not_mem_nil hq_).elim)), (List.forall_mem_cons.2 ⟨(fun b_ h1_ h2_ => (p84 b_ h1_).elim (fun q2_ => by have q1_ := Asr.inb _ _ _ (S41.atP (i := 3) rfl) h2_; omega) (fun ⟨_, hq_, _⟩ => (List.not_mem_nil hq_).elim)), (List.forall_mem_cons.2 ⟨(fun b_ h1_ h2_ => (p84 b_ h1_).elim (fun q2_ => by have q1_ := Asr.inb _ _ _ (S41.atP (i := 4) rfl) h2_; omega) (fun ⟨_, hq_, _⟩ => (List.not_mem_nil hq_).elim)), (List.forall_mem_cons.2 ⟨(fun b_ h1_ h2_ => (p84 b_ h1_).elim (fun q2_ => by have q1_ := Asr.inb _ _ _ (S41.atP (i := 5) rfl) h2_; omega) (fun ⟨_, hq_, _⟩ => (List.not_mem_nil hq_).elim)), (List.forall_mem_cons.2 ⟨(fun b_ h1_ h2_ => (p84 b_ h1_).elim (fun q2_ => by have q1_ := Asr.inb _ _ _ (S41.atP (i := 6) rfl) h2_; omega) (fun ⟨_, hq_, _⟩ => (List.not_mem_nil hq_).elim)), (fun _ h_ => (List.not_mem_nil h_).elim)⟩)⟩)⟩)⟩)⟩)⟩)⟩)
    have S100 := St.addO S99 (h96 _ (.head _)) (fun b_ h_ => (p97 b_ h_).elim (fun q_ => Nat.le_trans S41.keep.size (Nat.le_trans h92 q_.1)) (fun ⟨_, hq_, _⟩ => (List.not_mem_nil hq_).elim)) (List.forall_mem_cons.2 ⟨(fun b_ h1_ h2_ => (p97 b_ h1_).elim (fun q1_ => (p84 b_ h2_).elim (fun q2_ => by have q3_ := hd73 9 3 (Nat.le_of_ble_eq_true rfl) (Nat.le_of_ble_eq_true rfl) (by decide); omega) (fun ⟨q_, hq_, hqb_⟩ => by have q5_ := h92; have q4_ := Asr.inb _ _ _ (S41.ps q_ (((fun _ h_ => (List.not_mem_nil h_).elim)) q_ hq_)) hqb_; omega)) (fun ⟨_, hq_, _⟩ => (List.not_mem_nil hq_).elim)), (List.forall_mem_cons.2 ⟨(fun b_ h1_ h2_ => (p97 b_ h1_).elim (fun q2_ => by have q1_ := Asr.inb _ _ _ (S41.atX (i := 0) rfl) h2_; omega) (fun ⟨_, hq_, _⟩ => (List.not_mem_nil hq_).elim)), (List.forall_mem_cons.2 ⟨(fun b_ h1_ h2_ => (p97 b_ h1_).elim (fun q2_ => by have q1_ := Asr.inb _ _ _ (S41.atX (i := 1) rfl) h2_; omega) (fun ⟨_, hq_, _⟩ => (List.not_mem_nil hq_).elim)), (fun _ h_ => (List.not_mem_nil h_).elim)⟩)⟩)⟩) (List.forall_mem_cons.2 ⟨(fun b_ h1_ h2_ => (p97 b_ h1_).elim (fun q2_ => by have q1_ := Asr.inb _ _ _ (S41.atP (i := 0) rfl) h2_; omega) (fun ⟨_, hq_, _⟩ => (List.not_mem_nil hq_).elim)), (List.forall_mem_cons.2 ⟨(fun b_ h1_ h2_ => (p97 b_ h1_).elim (fun q2_ => by have q1_ := Asr.inb _ _ _ (S41.atP (i := 1) rfl) h2_; omega) (fun ⟨_, hq_, _⟩ => (List.not_mem_nil hq_).elim)), (List.forall_mem_cons.2 ⟨(fun b_ h1_ h2_ => (p97 b_ h1_).elim (fun q2_ => by have q1_ := Asr.inb _ _ _ (S41.atP (i := 2) rfl) h2_; omega) (fun ⟨_, hq_, _⟩ => (List.not_mem_nil hq_).elim)), (List.forall_mem_cons.2 ⟨(fun b_ h1_ h2_ => (p97 b_ h1_).elim (fun q2_ => by have q1_ := Asr.inb _ _ _ (S41.atP (i := 3) rfl) h2_; omega) (fun ⟨_, hq_, _⟩ => (List.not_mem_nil hq_).elim)), (List.forall_mem_cons.2 ⟨(fun b_ h1_ h2_ => (p97 b_ h1_).elim (fun q2_ => by have q1_ := Asr.inb _ _ _ (S41.atP (i := 4) rfl) h2_; omega) (fun ⟨_, hq_, _⟩ => (List.not_mem_nil hq_).elim)), (List.forall_mem_cons.2 ⟨(fun b_ h1_ h2_ => (p97 b_ h1_).elim (fun q2_ => by have q1_ := Asr.inb _ _ _ (S41.atP (i := 5) rfl) h2_; omega) (fun ⟨_, hq_, _⟩ => (List.not_mem_nil hq_).elim)), (List.forall_mem_cons.2 ⟨(fun b_ h1_ h2_ => (p97 b_ h1_).elim (fun q2_ => by have q1_ := Asr.inb _ _ _ (S41.atP (i := 6) rfl) h2_; omega) (fun ⟨_, hq_, _⟩ => (List.not_mem_nil hq_).elim)), (fun _ h_ => (List.not_mem_nil h_).elim)⟩)⟩)⟩)⟩)⟩)⟩)⟩)
    refine tailE [(3, P b12 0), (7, P b37 0), (8, P b63 0), (38, AG ([I r45.Heap.Low, I r45.Heap.High] ++ (sgE eSpan r45.Eats 2 ++ (sg r45.Extra 3 ++ [SL A1 a0.Days.length c2, I r45.Collier.Low, I r45.Collier.High, I r45.Brings, SL A49 r45.Dips.length c50])))), (43, I r59)] ⟨((hf71 3 rfl).trans (rfl : _ = P b12 0)), ((hf71 7 rfl).trans (rfl : _ = P b37 0)), q91, q78, q90, trivial⟩ ?_
    intro g101
    refine p_stP (pre := []) (old := [I 0, I 0, I 0, I 0, I 0, I 0] ++ (sg (List.replicate 3 0) 3 ++ [SL none 0 0, I 0, I 0, I 0, SL none 0 0])) (post := []) (vs := [I r45.Heap.Low, I r45.Heap.High] ++ (sgE eSpan r45.Eats 2 ++ (sg r45.Extra 3 ++ [SL A1 a0.Days.length c2, I r45.Collier.Low, I r45.Collier.High, I r45.Brings, SL A49 r45.Dips.length c50]))) sz29 S100 (i := 0) rfl rfl rfl rfl (rfl : _ = AG ([I r45.Heap.Low, I r45.Heap.High] ++ (sgE eSpan r45.Eats 2 ++ (sg r45.Extra 3 ++ [SL A1 a0.Days.length c2, I r45.Collier.Low, I r45.Collier.High, I r45.Brings, SL A49 r45.Dips.length c50])))) rfl rfl rfl rfl fun w102 S103 => ?_
    refine p_aI rfl ?_
    refine wp_nil ?_
    refine c_seq ?_
    refine reg ?_
    refine p_ldA ty29 sz29 (S103.atX (i := 0) rfl) rfl rfl ?_
    obtain ⟨r104, h105, H⟩ := bindS H
    refine p_cv (coal_Right_ok h105 (S103.atP (i := 2) rfl) (gr_rd eCoalDip_len (S103.atX (i := 1) rfl)) (S103.atP (i := 6) rfl)) fu26 rfl S103 fun w106 S107 => ?_
    refine p_mT rfl ?_
    refine p_ext rfl rfl ?_
    refine p_ext rfl rfl ?_
    refine p_aB rfl ?_
    refine p_aI rfl ?_
    refine wp_nil ?_
    refine c_seq ?_
    refine reg ?_
    refine p_ldA ty29 sz29 (S107.atX (i := 0) rfl) rfl rfl ?_
    have S108 := S107.fixRd eCoalDip_len (i := 1) rfl
    obtain ⟨r109, h110, H⟩ := bindS H
    refine p_cal (coal_Wrong_ok h110 (S108.atP (i := 3) rfl) (S108.atP (i := 0) rfl) (S108.atP (i := 7) rfl)) fu27 rfl ?_
    rintro _ w111 ⟨A113, c114, rfl, k112, ⟨o115, n116⟩, _⟩
    have S117 := S108.callN k112 [rd intE 1 A113 c114 r109.1] (List.forall_mem_cons.2 ⟨⟨o115, Al.inL n116 ((List.forall_mem_cons.2 ⟨(fp_mem (i := 3) rfl), (List.forall_mem_cons.2 ⟨(fp_mem (i := 0) rfl), (fun _ h_ => (List.not_mem_nil h_).elim)⟩)⟩))⟩, (fun _ h_ => (List.not_mem_nil h_).elim)⟩)
    refine p_mT rfl ?_
    refine p_ext rfl rfl ?_
    refine p_ext rfl rfl ?_
    refine p_aS rfl ?_
    refine p_aI rfl ?_
    refine wp_nil ?_
    refine c_seq ?_
    refine reg ?_
    refine p_ldA ty29 sz29 (S117.atX (i := 0) rfl) rfl rfl ?_
    refine p_mI rfl ?_
    obtain ⟨r118, h119, H⟩ := bindS H
    refine p_cv (coal_Heap_ok h119 (S117.atP (i := 4) rfl) (S117.atP (i := 1) rfl) (S117.atP (i := 8) rfl)) fu28 rfl S117 fun w120 S121 => ?_
    refine p_mT rfl ?_
    refine p_ext rfl rfl ?_
    refine p_ext rfl rfl ?_
    refine p_allA in23 S121 fun b122 w123 S124 => ?_
    refine p_stP (pre := []) (old := [I 0, I 0]) (post := []) (vs := [I r118.1.Low, I r118.1.High]) sz23 S124 (i := 0) rfl rfl rfl rfl (rfl : _ = AG [I r118.1.Low, I r118.1.High]) rfl rfl rfl rfl fun w125 S126 => ?_
    refine p_aI rfl ?_
    refine wp_nil ?_
    refine c_seq ?_
    refine reg ?_
    refine p_ldA ty29 sz29 (S126.atX (i := 1) rfl) rfl rfl ?_
    refine p_mI rfl ?_
    obtain ⟨r127, h128, H⟩ := bindS H
    refine p_cv (coal_Wind_ok h128 (S126.atP (i := 4) rfl) (S126.atP (i := 1) rfl) (S126.atP (i := 8) rfl)) fu29 rfl S126 fun w129 S130 => ?_
    refine p_mT rfl ?_
    refine p_ext rfl rfl ?_
    refine p_ext rfl rfl ?_
    refine p_aI rfl ?_
    refine p_aI rfl ?_
    refine wp_nil ?_
    refine c_seq ?_
    refine reg ?_
    refine p_ldA ty29 sz29 (S130.atX (i := 1) rfl) rfl rfl ?_
    refine p_mI rfl ?_
    obtain ⟨r131, h132, H⟩ := bindS H
    refine p_cv (coal_Lasts_ok h132 (S130.atP (i := 4) rfl) (S130.atP (i := 1) rfl) (S130.atP (i := 7) rfl) (S130.atP (i := 8) rfl)) fu30 rfl S130 fun w133 S134 => ?_
    refine p_mT rfl ?_
    refine p_ext rfl rfl ?_
    refine p_ext rfl rfl ?_
    refine p_aI rfl ?_
    refine p_aI rfl ?_
    refine wp_nil ?_
    refine c_seq ?_
    refine reg ?_
    refine p_ldA ty29 sz29 (S134.atX (i := 1) rfl) rfl rfl ?_
    obtain ⟨r135, h136, H⟩ := bindS H
    refine p_cv (coal_Order_ok h136 (S134.atP (i := 4) rfl) (S134.atP (i := 1) rfl) (S134.atP (i := 8) rfl)) fu31 rfl S134 fun w137 S138 => ?_
    refine p_mT rfl ?_
    refine p_ext rfl rfl ?_
    refine p_ext rfl rfl ?_
    refine p_aI rfl ?_
    refine p_aI rfl ?_
    refine wp_nil ?_
    refine c_seq ?_
    refine c_seq ?_
    rcases Bool.eq_false_or_eq_true ((r104.2 != 0)) with c139 | c139
    · replace H := condT c139 H
      refine reg_q mixed 56 (by kernel_rfl) ?_
      refine dS (fun _ k_ => p_mI rfl dn) ?_
      refine dS (fun _ k_ => p_cmp rfl rfl rfl dn) ?_
      refine dS (fun _ k_ => p_mB rfl dn) ?_
      refine dB c139 ?_
      refine dS (fun _ k_ => gF rfl rfl dnU) ?_
      refine dS (fun _ k_ => gF rfl rfl dnU) ?_
      refine dS (fun _ k_ => p_pkT rfl (rfl : _ = B true) dn) ?_
      refine dS (fun _ k_ => p_mB rfl dn) ?_
      refine dS (fun _ k_ => gF rfl rfl dnU) ?_
      refine dS (fun _ k_ => gF rfl rfl dnU) ?_
      refine dS (fun _ k_ => p_pkT rfl (rfl : _ = B true) dn) ?_
      refine dS (fun _ k_ => p_mB rfl dn) ?_
      refine dS (fun _ k_ => gF rfl rfl dnU) ?_
      refine dS (fun _ k_ => gF rfl rfl dnU) ?_
      refine dS (fun _ k_ => p_pkT rfl (rfl : _ = B true) dn) ?_
      refine dS (fun _ k_ => p_mB rfl dn) ?_
      refine dS (fun _ k_ => gF rfl rfl dnU) ?_
      refine dS (fun _ k_ => gF rfl rfl dnU) ?_
      refine dS (fun _ k_ => p_pkT rfl (rfl : _ = B true) dn) ?_
      refine dS (fun _ k_ => p_mB rfl dn) ?_
      refine dS (fun _ k_ => gF rfl rfl dnU) ?_
      refine dS (fun _ k_ => gF rfl rfl dnU) ?_
      refine dS (fun _ k_ => p_pkT rfl (rfl : _ = B true) dn) ?_
      refine dS (fun _ k_ => p_mB rfl dn) ?_
      refine dS (fun _ k_ => gF rfl rfl dnU) ?_
      refine dS (fun _ k_ => gF rfl rfl dnU) ?_
      refine dS (fun _ k_ => p_pkT rfl (rfl : _ = B true) dn) ?_
      refine dS (fun _ k_ => p_mB rfl dn) ?_
      refine dS (fun _ k_ => gF rfl rfl dnU) ?_
      refine dS (fun _ k_ => gF rfl rfl dnU) ?_
      refine dS (fun _ k_ => gF rfl rfl dnU) ?_
      refine dS (fun _ k_ => p_pkT rfl (rfl : _ = B true) dn) ?_
      refine dS (fun _ k_ => p_mB rfl dn) ?_
      refine dS (fun _ k_ => gF rfl rfl dnU) ?_
      refine dS (fun _ k_ => gF rfl rfl dnU) ?_
      refine dS (fun _ k_ => gF rfl rfl dnU) ?_
      refine dS (fun _ k_ => gF rfl rfl dnU) ?_
      refine dS (fun _ k_ => gF rfl rfl dnU) ?_
      refine dS (fun _ k_ => gF rfl rfl dnU) ?_
      refine dS (fun _ k_ => gF rfl rfl dnU) ?_
      refine dS (fun _ k_ => gF rfl rfl dnU) ?_
      refine dS (fun _ k_ => p_pkT rfl (rfl : _ = B true) dn) ?_
      refine dS (fun _ k_ => p_mB rfl dn) ?_
      refine dS (fun _ k_ => gF rfl rfl dnU) ?_
      refine dS (fun _ k_ => gF rfl rfl dnU) ?_
      refine dS (fun _ k_ => gF rfl rfl dnU) ?_
      refine dS (fun _ k_ => gF rfl rfl dnU) ?_
      refine dS (fun _ k_ => gF rfl rfl dnU) ?_
      refine dS (fun _ k_ => gF rfl rfl dnU) ?_
      refine dS (fun _ k_ => gF rfl rfl dnU) ?_
      refine dS (fun _ k_ => gF rfl rfl dnU) ?_
      refine dS (fun _ k_ => p_pkT rfl (rfl : _ = B true) dn) ?_
      refine dS (fun _ k_ => p_mB rfl dn) ?_
      refine dS (fun _ k_ => gF rfl rfl dnU) ?_
      refine dS (fun _ k_ => gF rfl rfl dnU) ?_
      refine dS (fun _ k_ => gF rfl rfl dnU) ?_
      refine dS (fun _ k_ => p_pkT rfl (rfl : _ = B true) dn) ?_
      intro w140 k141; have S142 := S138.call k141
      refine wp_nil ?_
      refine c_true rfl ?_
      refine c_seq ?_
      refine reg ?_
      refine p_aB rfl ?_
      refine wp_nil ?_
      obtain rfl := Option.some.inj H
      refine c_ret ?_; show bodyPostM (Fr none) 0 Tryd.prog Tryd.f6 _ .ret _ _
      refine ret_of (res1 rfl (rvT (rfl : _ = B false))) ?_
      exact ⟨_, rfl, rfl, S142.keep⟩
    · replace H := condF c139 H
      rcases Bool.eq_false_or_eq_true ((r109.2 != 0)) with c143 | c143
      · replace H := condT c143 H
        refine reg_q mixed 56 (by kernel_rfl) ?_
        refine dS (fun _ k_ => p_mI rfl dn) ?_
        refine dS (fun _ k_ => p_cmp rfl rfl rfl dn) ?_
        refine dS (fun _ k_ => p_mB rfl dn) ?_
        refine dB c139 ?_
        refine dS (fun _ k_ => gT rfl rfl (p_mI rfl dn)) ?_
        refine dS (fun _ k_ => gT rfl rfl (p_cmp rfl rfl rfl dn)) ?_
        refine dS (fun _ k_ => p_pkF rfl (rfl : _ = B (r109.2 != 0)) dn) ?_
        refine dS (fun _ k_ => p_mB rfl dn) ?_
        refine dB c143 ?_
        refine dS (fun _ k_ => gF rfl rfl dnU) ?_
        refine dS (fun _ k_ => gF rfl rfl dnU) ?_
        refine dS (fun _ k_ => p_pkT rfl (rfl : _ = B true) dn) ?_
        refine dS (fun _ k_ => p_mB rfl dn) ?_
        refine dS (fun _ k_ => gF rfl rfl dnU) ?_
        refine dS (fun _ k_ => gF rfl rfl dnU) ?_
        refine dS (fun _ k_ => p_pkT rfl (rfl : _ = B true) dn) ?_
        refine dS (fun _ k_ => p_mB rfl dn) ?_
        refine dS (fun _ k_ => gF rfl rfl dnU) ?_
        refine dS (fun _ k_ => gF rfl rfl dnU) ?_
        refine dS (fun _ k_ => p_pkT rfl (rfl : _ = B true) dn) ?_
        refine dS (fun _ k_ => p_mB rfl dn) ?_
        refine dS (fun _ k_ => gF rfl rfl dnU) ?_
        refine dS (fun _ k_ => gF rfl rfl dnU) ?_
        refine dS (fun _ k_ => p_pkT rfl (rfl : _ = B true) dn) ?_
        refine dS (fun _ k_ => p_mB rfl dn) ?_
        refine dS (fun _ k_ => gF rfl rfl dnU) ?_
        refine dS (fun _ k_ => gF rfl rfl dnU) ?_
        refine dS (fun _ k_ => p_pkT rfl (rfl : _ = B true) dn) ?_
        refine dS (fun _ k_ => p_mB rfl dn) ?_
        refine dS (fun _ k_ => gF rfl rfl dnU) ?_
        refine dS (fun _ k_ => gF rfl rfl dnU) ?_
        refine dS (fun _ k_ => gF rfl rfl dnU) ?_
        refine dS (fun _ k_ => p_pkT rfl (rfl : _ = B true) dn) ?_
        refine dS (fun _ k_ => p_mB rfl dn) ?_
        refine dS (fun _ k_ => gF rfl rfl dnU) ?_
        refine dS (fun _ k_ => gF rfl rfl dnU) ?_
        refine dS (fun _ k_ => gF rfl rfl dnU) ?_
        refine dS (fun _ k_ => gF rfl rfl dnU) ?_
        refine dS (fun _ k_ => gF rfl rfl dnU) ?_
        refine dS (fun _ k_ => gF rfl rfl dnU) ?_
        refine dS (fun _ k_ => gF rfl rfl dnU) ?_
        refine dS (fun _ k_ => gF rfl rfl dnU) ?_
        refine dS (fun _ k_ => p_pkT rfl (rfl : _ = B true) dn) ?_
        refine dS (fun _ k_ => p_mB rfl dn) ?_
        refine dS (fun _ k_ => gF rfl rfl dnU) ?_
        refine dS (fun _ k_ => gF rfl rfl dnU) ?_
        refine dS (fun _ k_ => gF rfl rfl dnU) ?_
        refine dS (fun _ k_ => gF rfl rfl dnU) ?_
        refine dS (fun _ k_ => gF rfl rfl dnU) ?_
        refine dS (fun _ k_ => gF rfl rfl dnU) ?_
        refine dS (fun _ k_ => gF rfl rfl dnU) ?_
        refine dS (fun _ k_ => gF rfl rfl dnU) ?_
        refine dS (fun _ k_ => p_pkT rfl (rfl : _ = B true) dn) ?_
        refine dS (fun _ k_ => p_mB rfl dn) ?_
        refine dS (fun _ k_ => gF rfl rfl dnU) ?_
        refine dS (fun _ k_ => gF rfl rfl dnU) ?_
        refine dS (fun _ k_ => gF rfl rfl dnU) ?_
        refine dS (fun _ k_ => p_pkT rfl (rfl : _ = B true) dn) ?_
        intro w144 k145; have S146 := S138.call k145
        refine wp_nil ?_
        refine c_true rfl ?_
        refine c_seq ?_
        refine reg ?_
        refine p_aB rfl ?_
        refine wp_nil ?_
        obtain rfl := Option.some.inj H
        refine c_ret ?_; show bodyPostM (Fr none) 0 Tryd.prog Tryd.f6 _ .ret _ _
        refine ret_of (res1 rfl (rvT (rfl : _ = B false))) ?_
        exact ⟨_, rfl, rfl, S146.keep⟩
      · replace H := condF c143 H
        rcases Bool.eq_false_or_eq_true ((r118.2 != 0)) with c147 | c147
        · replace H := condT c147 H
          refine reg_q mixed 56 (by kernel_rfl) ?_
          refine dS (fun _ k_ => p_mI rfl dn) ?_
          refine dS (fun _ k_ => p_cmp rfl rfl rfl dn) ?_
          refine dS (fun _ k_ => p_mB rfl dn) ?_
          refine dB c139 ?_
          refine dS (fun _ k_ => gT rfl rfl (p_mI rfl dn)) ?_
          refine dS (fun _ k_ => gT rfl rfl (p_cmp rfl rfl rfl dn)) ?_
          refine dS (fun _ k_ => p_pkF rfl (rfl : _ = B (r109.2 != 0)) dn) ?_
          refine dS (fun _ k_ => p_mB rfl dn) ?_
          refine dB c143 ?_
          refine dS (fun _ k_ => gT rfl rfl (p_mI rfl dn)) ?_
          refine dS (fun _ k_ => gT rfl rfl (p_cmp rfl rfl rfl dn)) ?_
          refine dS (fun _ k_ => p_pkF rfl (rfl : _ = B (r118.2 != 0)) dn) ?_
          refine dS (fun _ k_ => p_mB rfl dn) ?_
          refine dB c147 ?_
          refine dS (fun _ k_ => gF rfl rfl dnU) ?_
          refine dS (fun _ k_ => gF rfl rfl dnU) ?_
          refine dS (fun _ k_ => p_pkT rfl (rfl : _ = B true) dn) ?_
          refine dS (fun _ k_ => p_mB rfl dn) ?_
          refine dS (fun _ k_ => gF rfl rfl dnU) ?_
          refine dS (fun _ k_ => gF rfl rfl dnU) ?_
          refine dS (fun _ k_ => p_pkT rfl (rfl : _ = B true) dn) ?_
          refine dS (fun _ k_ => p_mB rfl dn) ?_
          refine dS (fun _ k_ => gF rfl rfl dnU) ?_
          refine dS (fun _ k_ => gF rfl rfl dnU) ?_
          refine dS (fun _ k_ => p_pkT rfl (rfl : _ = B true) dn) ?_
          refine dS (fun _ k_ => p_mB rfl dn) ?_
          refine dS (fun _ k_ => gF rfl rfl dnU) ?_
          refine dS (fun _ k_ => gF rfl rfl dnU) ?_
          refine dS (fun _ k_ => p_pkT rfl (rfl : _ = B true) dn) ?_
          refine dS (fun _ k_ => p_mB rfl dn) ?_
          refine dS (fun _ k_ => gF rfl rfl dnU) ?_
          refine dS (fun _ k_ => gF rfl rfl dnU) ?_
          refine dS (fun _ k_ => gF rfl rfl dnU) ?_
          refine dS (fun _ k_ => p_pkT rfl (rfl : _ = B true) dn) ?_
          refine dS (fun _ k_ => p_mB rfl dn) ?_
          refine dS (fun _ k_ => gF rfl rfl dnU) ?_
          refine dS (fun _ k_ => gF rfl rfl dnU) ?_
          refine dS (fun _ k_ => gF rfl rfl dnU) ?_
          refine dS (fun _ k_ => gF rfl rfl dnU) ?_
          refine dS (fun _ k_ => gF rfl rfl dnU) ?_
          refine dS (fun _ k_ => gF rfl rfl dnU) ?_
          refine dS (fun _ k_ => gF rfl rfl dnU) ?_
          refine dS (fun _ k_ => gF rfl rfl dnU) ?_
          refine dS (fun _ k_ => p_pkT rfl (rfl : _ = B true) dn) ?_
          refine dS (fun _ k_ => p_mB rfl dn) ?_
          refine dS (fun _ k_ => gF rfl rfl dnU) ?_
          refine dS (fun _ k_ => gF rfl rfl dnU) ?_
          refine dS (fun _ k_ => gF rfl rfl dnU) ?_
          refine dS (fun _ k_ => gF rfl rfl dnU) ?_
          refine dS (fun _ k_ => gF rfl rfl dnU) ?_
          refine dS (fun _ k_ => gF rfl rfl dnU) ?_
          refine dS (fun _ k_ => gF rfl rfl dnU) ?_
          refine dS (fun _ k_ => gF rfl rfl dnU) ?_
          refine dS (fun _ k_ => p_pkT rfl (rfl : _ = B true) dn) ?_
          refine dS (fun _ k_ => p_mB rfl dn) ?_
          refine dS (fun _ k_ => gF rfl rfl dnU) ?_
          refine dS (fun _ k_ => gF rfl rfl dnU) ?_
          refine dS (fun _ k_ => gF rfl rfl dnU) ?_
          refine dS (fun _ k_ => p_pkT rfl (rfl : _ = B true) dn) ?_
          intro w148 k149; have S150 := S138.call k149
          refine wp_nil ?_
          refine c_true rfl ?_
          refine c_seq ?_
          refine reg ?_
          refine p_aB rfl ?_
          refine wp_nil ?_
          obtain rfl := Option.some.inj H
          refine c_ret ?_; show bodyPostM (Fr none) 0 Tryd.prog Tryd.f6 _ .ret _ _
          refine ret_of (res1 rfl (rvT (rfl : _ = B false))) ?_
          exact ⟨_, rfl, rfl, S150.keep⟩
        · replace H := condF c147 H
          rcases Bool.eq_false_or_eq_true ((r127.2 != 0)) with c151 | c151
          · replace H := condT c151 H
            refine reg_q mixed 56 (by kernel_rfl) ?_
            refine dS (fun _ k_ => p_mI rfl dn) ?_
            refine dS (fun _ k_ => p_cmp rfl rfl rfl dn) ?_
            refine dS (fun _ k_ => p_mB rfl dn) ?_
            refine dB c139 ?_
            refine dS (fun _ k_ => gT rfl rfl (p_mI rfl dn)) ?_
            refine dS (fun _ k_ => gT rfl rfl (p_cmp rfl rfl rfl dn)) ?_
            refine dS (fun _ k_ => p_pkF rfl (rfl : _ = B (r109.2 != 0)) dn) ?_
            refine dS (fun _ k_ => p_mB rfl dn) ?_
            refine dB c143 ?_
            refine dS (fun _ k_ => gT rfl rfl (p_mI rfl dn)) ?_
            refine dS (fun _ k_ => gT rfl rfl (p_cmp rfl rfl rfl dn)) ?_
            refine dS (fun _ k_ => p_pkF rfl (rfl : _ = B (r118.2 != 0)) dn) ?_
            refine dS (fun _ k_ => p_mB rfl dn) ?_
            refine dB c147 ?_
            refine dS (fun _ k_ => gT rfl rfl (p_mI rfl dn)) ?_
            refine dS (fun _ k_ => gT rfl rfl (p_cmp rfl rfl rfl dn)) ?_
            refine dS (fun _ k_ => p_pkF rfl (rfl : _ = B (r127.2 != 0)) dn) ?_
            refine dS (fun _ k_ => p_mB rfl dn) ?_
            refine dB c151 ?_
            refine dS (fun _ k_ => gF rfl rfl dnU) ?_
            refine dS (fun _ k_ => gF rfl rfl dnU) ?_
            refine dS (fun _ k_ => p_pkT rfl (rfl : _ = B true) dn) ?_
            refine dS (fun _ k_ => p_mB rfl dn) ?_
            refine dS (fun _ k_ => gF rfl rfl dnU) ?_
            refine dS (fun _ k_ => gF rfl rfl dnU) ?_
            refine dS (fun _ k_ => p_pkT rfl (rfl : _ = B true) dn) ?_
            refine dS (fun _ k_ => p_mB rfl dn) ?_
            refine dS (fun _ k_ => gF rfl rfl dnU) ?_
            refine dS (fun _ k_ => gF rfl rfl dnU) ?_
            refine dS (fun _ k_ => p_pkT rfl (rfl : _ = B true) dn) ?_
            refine dS (fun _ k_ => p_mB rfl dn) ?_
            refine dS (fun _ k_ => gF rfl rfl dnU) ?_
            refine dS (fun _ k_ => gF rfl rfl dnU) ?_
            refine dS (fun _ k_ => gF rfl rfl dnU) ?_
            refine dS (fun _ k_ => p_pkT rfl (rfl : _ = B true) dn) ?_
            refine dS (fun _ k_ => p_mB rfl dn) ?_
            refine dS (fun _ k_ => gF rfl rfl dnU) ?_
            refine dS (fun _ k_ => gF rfl rfl dnU) ?_
            refine dS (fun _ k_ => gF rfl rfl dnU) ?_
            refine dS (fun _ k_ => gF rfl rfl dnU) ?_
            refine dS (fun _ k_ => gF rfl rfl dnU) ?_
            refine dS (fun _ k_ => gF rfl rfl dnU) ?_
            refine dS (fun _ k_ => gF rfl rfl dnU) ?_
            refine dS (fun _ k_ => gF rfl rfl dnU) ?_
            refine dS (fun _ k_ => p_pkT rfl (rfl : _ = B true) dn) ?_
            refine dS (fun _ k_ => p_mB rfl dn) ?_
            refine dS (fun _ k_ => gF rfl rfl dnU) ?_
            refine dS (fun _ k_ => gF rfl rfl dnU) ?_
            refine dS (fun _ k_ => gF rfl rfl dnU) ?_
            refine dS (fun _ k_ => gF rfl rfl dnU) ?_
            refine dS (fun _ k_ => gF rfl rfl dnU) ?_
            refine dS (fun _ k_ => gF rfl rfl dnU) ?_
            refine dS (fun _ k_ => gF rfl rfl dnU) ?_
            refine dS (fun _ k_ => gF rfl rfl dnU) ?_
            refine dS (fun _ k_ => p_pkT rfl (rfl : _ = B true) dn) ?_
            refine dS (fun _ k_ => p_mB rfl dn) ?_
            refine dS (fun _ k_ => gF rfl rfl dnU) ?_
            refine dS (fun _ k_ => gF rfl rfl dnU) ?_
            refine dS (fun _ k_ => gF rfl rfl dnU) ?_
            refine dS (fun _ k_ => p_pkT rfl (rfl : _ = B true) dn) ?_
            intro w152 k153; have S154 := S138.call k153
            refine wp_nil ?_
            refine c_true rfl ?_
            refine c_seq ?_
            refine reg ?_
            refine p_aB rfl ?_
            refine wp_nil ?_
            obtain rfl := Option.some.inj H
            refine c_ret ?_; show bodyPostM (Fr none) 0 Tryd.prog Tryd.f6 _ .ret _ _
            refine ret_of (res1 rfl (rvT (rfl : _ = B false))) ?_
            exact ⟨_, rfl, rfl, S154.keep⟩
          · replace H := condF c151 H
            rcases Bool.eq_false_or_eq_true ((r131.2 != 0)) with c155 | c155
            · replace H := condT c155 H
              refine reg_q mixed 56 (by kernel_rfl) ?_
              refine dS (fun _ k_ => p_mI rfl dn) ?_
              refine dS (fun _ k_ => p_cmp rfl rfl rfl dn) ?_
              refine dS (fun _ k_ => p_mB rfl dn) ?_
              refine dB c139 ?_
              refine dS (fun _ k_ => gT rfl rfl (p_mI rfl dn)) ?_
              refine dS (fun _ k_ => gT rfl rfl (p_cmp rfl rfl rfl dn)) ?_
              refine dS (fun _ k_ => p_pkF rfl (rfl : _ = B (r109.2 != 0)) dn) ?_
              refine dS (fun _ k_ => p_mB rfl dn) ?_
              refine dB c143 ?_
              refine dS (fun _ k_ => gT rfl rfl (p_mI rfl dn)) ?_
              refine dS (fun _ k_ => gT rfl rfl (p_cmp rfl rfl rfl dn)) ?_
              refine dS (fun _ k_ => p_pkF rfl (rfl : _ = B (r118.2 != 0)) dn) ?_
              refine dS (fun _ k_ => p_mB rfl dn) ?_
              refine dB c147 ?_
              refine dS (fun _ k_ => gT rfl rfl (p_mI rfl dn)) ?_
              refine dS (fun _ k_ => gT rfl rfl (p_cmp rfl rfl rfl dn)) ?_
              refine dS (fun _ k_ => p_pkF rfl (rfl : _ = B (r127.2 != 0)) dn) ?_
              refine dS (fun _ k_ => p_mB rfl dn) ?_
              refine dB c151 ?_
              refine dS (fun _ k_ => gT rfl rfl (p_mI rfl dn)) ?_
              refine dS (fun _ k_ => gT rfl rfl (p_cmp rfl rfl rfl dn)) ?_
              refine dS (fun _ k_ => p_pkF rfl (rfl : _ = B (r131.2 != 0)) dn) ?_
              refine dS (fun _ k_ => p_mB rfl dn) ?_
              refine dB c155 ?_
              refine dS (fun _ k_ => gF rfl rfl dnU) ?_
              refine dS (fun _ k_ => gF rfl rfl dnU) ?_
              refine dS (fun _ k_ => p_pkT rfl (rfl : _ = B true) dn) ?_
              refine dS (fun _ k_ => p_mB rfl dn) ?_
              refine dS (fun _ k_ => gF rfl rfl dnU) ?_
              refine dS (fun _ k_ => gF rfl rfl dnU) ?_
              refine dS (fun _ k_ => p_pkT rfl (rfl : _ = B true) dn) ?_
              refine dS (fun _ k_ => p_mB rfl dn) ?_
              refine dS (fun _ k_ => gF rfl rfl dnU) ?_
              refine dS (fun _ k_ => gF rfl rfl dnU) ?_
              refine dS (fun _ k_ => gF rfl rfl dnU) ?_
              refine dS (fun _ k_ => p_pkT rfl (rfl : _ = B true) dn) ?_
              refine dS (fun _ k_ => p_mB rfl dn) ?_
              refine dS (fun _ k_ => gF rfl rfl dnU) ?_
              refine dS (fun _ k_ => gF rfl rfl dnU) ?_
              refine dS (fun _ k_ => gF rfl rfl dnU) ?_
              refine dS (fun _ k_ => gF rfl rfl dnU) ?_
              refine dS (fun _ k_ => gF rfl rfl dnU) ?_
              refine dS (fun _ k_ => gF rfl rfl dnU) ?_
              refine dS (fun _ k_ => gF rfl rfl dnU) ?_
              refine dS (fun _ k_ => gF rfl rfl dnU) ?_
              refine dS (fun _ k_ => p_pkT rfl (rfl : _ = B true) dn) ?_
              refine dS (fun _ k_ => p_mB rfl dn) ?_
              refine dS (fun _ k_ => gF rfl rfl dnU) ?_
              refine dS (fun _ k_ => gF rfl rfl dnU) ?_
              refine dS (fun _ k_ => gF rfl rfl dnU) ?_
              refine dS (fun _ k_ => gF rfl rfl dnU) ?_
              refine dS (fun _ k_ => gF rfl rfl dnU) ?_
              refine dS (fun _ k_ => gF rfl rfl dnU) ?_
              refine dS (fun _ k_ => gF rfl rfl dnU) ?_
              refine dS (fun _ k_ => gF rfl rfl dnU) ?_
              refine dS (fun _ k_ => p_pkT rfl (rfl : _ = B true) dn) ?_
              refine dS (fun _ k_ => p_mB rfl dn) ?_
              refine dS (fun _ k_ => gF rfl rfl dnU) ?_
              refine dS (fun _ k_ => gF rfl rfl dnU) ?_
              refine dS (fun _ k_ => gF rfl rfl dnU) ?_
              refine dS (fun _ k_ => p_pkT rfl (rfl : _ = B true) dn) ?_
              intro w156 k157; have S158 := S138.call k157
              refine wp_nil ?_
              refine c_true rfl ?_
              refine c_seq ?_
              refine reg ?_
              refine p_aB rfl ?_
              refine wp_nil ?_
              obtain rfl := Option.some.inj H
              refine c_ret ?_; show bodyPostM (Fr none) 0 Tryd.prog Tryd.f6 _ .ret _ _
              refine ret_of (res1 rfl (rvT (rfl : _ = B false))) ?_
              exact ⟨_, rfl, rfl, S158.keep⟩
            · replace H := condF c155 H
              rcases Bool.eq_false_or_eq_true ((r135.2 != 0)) with c159 | c159
              · replace H := condT c159 H
                refine reg_q mixed 56 (by kernel_rfl) ?_
                refine dS (fun _ k_ => p_mI rfl dn) ?_
                refine dS (fun _ k_ => p_cmp rfl rfl rfl dn) ?_
                refine dS (fun _ k_ => p_mB rfl dn) ?_
                refine dB c139 ?_
                refine dS (fun _ k_ => gT rfl rfl (p_mI rfl dn)) ?_
                refine dS (fun _ k_ => gT rfl rfl (p_cmp rfl rfl rfl dn)) ?_
                refine dS (fun _ k_ => p_pkF rfl (rfl : _ = B (r109.2 != 0)) dn) ?_
                refine dS (fun _ k_ => p_mB rfl dn) ?_
                refine dB c143 ?_
                refine dS (fun _ k_ => gT rfl rfl (p_mI rfl dn)) ?_
                refine dS (fun _ k_ => gT rfl rfl (p_cmp rfl rfl rfl dn)) ?_
                refine dS (fun _ k_ => p_pkF rfl (rfl : _ = B (r118.2 != 0)) dn) ?_
                refine dS (fun _ k_ => p_mB rfl dn) ?_
                refine dB c147 ?_
                refine dS (fun _ k_ => gT rfl rfl (p_mI rfl dn)) ?_
                refine dS (fun _ k_ => gT rfl rfl (p_cmp rfl rfl rfl dn)) ?_
                refine dS (fun _ k_ => p_pkF rfl (rfl : _ = B (r127.2 != 0)) dn) ?_
                refine dS (fun _ k_ => p_mB rfl dn) ?_
                refine dB c151 ?_
                refine dS (fun _ k_ => gT rfl rfl (p_mI rfl dn)) ?_
                refine dS (fun _ k_ => gT rfl rfl (p_cmp rfl rfl rfl dn)) ?_
                refine dS (fun _ k_ => p_pkF rfl (rfl : _ = B (r131.2 != 0)) dn) ?_
                refine dS (fun _ k_ => p_mB rfl dn) ?_
                refine dB c155 ?_
                refine dS (fun _ k_ => gT rfl rfl (p_mI rfl dn)) ?_
                refine dS (fun _ k_ => gT rfl rfl (p_cmp rfl rfl rfl dn)) ?_
                refine dS (fun _ k_ => p_pkF rfl (rfl : _ = B (r135.2 != 0)) dn) ?_
                refine dS (fun _ k_ => p_mB rfl dn) ?_
                refine dB c159 ?_
                refine dS (fun _ k_ => gF rfl rfl dnU) ?_
                refine dS (fun _ k_ => gF rfl rfl dnU) ?_
                refine dS (fun _ k_ => p_pkT rfl (rfl : _ = B true) dn) ?_
                refine dS (fun _ k_ => p_mB rfl dn) ?_
                refine dS (fun _ k_ => gF rfl rfl dnU) ?_
                refine dS (fun _ k_ => gF rfl rfl dnU) ?_
                refine dS (fun _ k_ => gF rfl rfl dnU) ?_
                refine dS (fun _ k_ => p_pkT rfl (rfl : _ = B true) dn) ?_
                refine dS (fun _ k_ => p_mB rfl dn) ?_
                refine dS (fun _ k_ => gF rfl rfl dnU) ?_
                refine dS (fun _ k_ => gF rfl rfl dnU) ?_
                refine dS (fun _ k_ => gF rfl rfl dnU) ?_
                refine dS (fun _ k_ => gF rfl rfl dnU) ?_
                refine dS (fun _ k_ => gF rfl rfl dnU) ?_
                refine dS (fun _ k_ => gF rfl rfl dnU) ?_
                refine dS (fun _ k_ => gF rfl rfl dnU) ?_
                refine dS (fun _ k_ => gF rfl rfl dnU) ?_
                refine dS (fun _ k_ => p_pkT rfl (rfl : _ = B true) dn) ?_
                refine dS (fun _ k_ => p_mB rfl dn) ?_
                refine dS (fun _ k_ => gF rfl rfl dnU) ?_
                refine dS (fun _ k_ => gF rfl rfl dnU) ?_
                refine dS (fun _ k_ => gF rfl rfl dnU) ?_
                refine dS (fun _ k_ => gF rfl rfl dnU) ?_
                refine dS (fun _ k_ => gF rfl rfl dnU) ?_
                refine dS (fun _ k_ => gF rfl rfl dnU) ?_
                refine dS (fun _ k_ => gF rfl rfl dnU) ?_
                refine dS (fun _ k_ => gF rfl rfl dnU) ?_
                refine dS (fun _ k_ => p_pkT rfl (rfl : _ = B true) dn) ?_
                refine dS (fun _ k_ => p_mB rfl dn) ?_
                refine dS (fun _ k_ => gF rfl rfl dnU) ?_
                refine dS (fun _ k_ => gF rfl rfl dnU) ?_
                refine dS (fun _ k_ => gF rfl rfl dnU) ?_
                refine dS (fun _ k_ => p_pkT rfl (rfl : _ = B true) dn) ?_
                intro w160 k161; have S162 := S138.call k161
                refine wp_nil ?_
                refine c_true rfl ?_
                refine c_seq ?_
                refine reg ?_
                refine p_aB rfl ?_
                refine wp_nil ?_
                obtain rfl := Option.some.inj H
                refine c_ret ?_; show bodyPostM (Fr none) 0 Tryd.prog Tryd.f6 _ .ret _ _
                refine ret_of (res1 rfl (rvT (rfl : _ = B false))) ?_
                exact ⟨_, rfl, rfl, S162.keep⟩
              · replace H := condF c159 H
                rcases Bool.eq_false_or_eq_true (!r104.1) with c163 | c163
                · replace H := condT c163 H
                  refine reg_q mixed 56 (by kernel_rfl) ?_
                  refine dS (fun _ k_ => p_mI rfl dn) ?_
                  refine dS (fun _ k_ => p_cmp rfl rfl rfl dn) ?_
                  refine dS (fun _ k_ => p_mB rfl dn) ?_
                  refine dB c139 ?_
                  refine dS (fun _ k_ => gT rfl rfl (p_mI rfl dn)) ?_
                  refine dS (fun _ k_ => gT rfl rfl (p_cmp rfl rfl rfl dn)) ?_
                  refine dS (fun _ k_ => p_pkF rfl (rfl : _ = B (r109.2 != 0)) dn) ?_
                  refine dS (fun _ k_ => p_mB rfl dn) ?_
                  refine dB c143 ?_
                  refine dS (fun _ k_ => gT rfl rfl (p_mI rfl dn)) ?_
                  refine dS (fun _ k_ => gT rfl rfl (p_cmp rfl rfl rfl dn)) ?_
                  refine dS (fun _ k_ => p_pkF rfl (rfl : _ = B (r118.2 != 0)) dn) ?_
                  refine dS (fun _ k_ => p_mB rfl dn) ?_
                  refine dB c147 ?_
                  refine dS (fun _ k_ => gT rfl rfl (p_mI rfl dn)) ?_
                  refine dS (fun _ k_ => gT rfl rfl (p_cmp rfl rfl rfl dn)) ?_
                  refine dS (fun _ k_ => p_pkF rfl (rfl : _ = B (r127.2 != 0)) dn) ?_
                  refine dS (fun _ k_ => p_mB rfl dn) ?_
                  refine dB c151 ?_
                  refine dS (fun _ k_ => gT rfl rfl (p_mI rfl dn)) ?_
                  refine dS (fun _ k_ => gT rfl rfl (p_cmp rfl rfl rfl dn)) ?_
                  refine dS (fun _ k_ => p_pkF rfl (rfl : _ = B (r131.2 != 0)) dn) ?_
                  refine dS (fun _ k_ => p_mB rfl dn) ?_
                  refine dB c155 ?_
                  refine dS (fun _ k_ => gT rfl rfl (p_mI rfl dn)) ?_
                  refine dS (fun _ k_ => gT rfl rfl (p_cmp rfl rfl rfl dn)) ?_
                  refine dS (fun _ k_ => p_pkF rfl (rfl : _ = B (r135.2 != 0)) dn) ?_
                  refine dS (fun _ k_ => p_mB rfl dn) ?_
                  refine dB c159 ?_
                  refine dS (fun _ k_ => gT rfl rfl (p_mB rfl dn)) ?_
                  refine dS (fun _ k_ => gT rfl rfl (p_not rfl dn)) ?_
                  refine dS (fun _ k_ => p_pkF rfl (rfl : _ = B (!r104.1)) dn) ?_
                  refine dS (fun _ k_ => p_mB rfl dn) ?_
                  refine dB c163 ?_
                  refine dS (fun _ k_ => gF rfl rfl dnU) ?_
                  refine dS (fun _ k_ => gF rfl rfl dnU) ?_
                  refine dS (fun _ k_ => gF rfl rfl dnU) ?_
                  refine dS (fun _ k_ => p_pkT rfl (rfl : _ = B true) dn) ?_
                  refine dS (fun _ k_ => p_mB rfl dn) ?_
                  refine dS (fun _ k_ => gF rfl rfl dnU) ?_
                  refine dS (fun _ k_ => gF rfl rfl dnU) ?_
                  refine dS (fun _ k_ => gF rfl rfl dnU) ?_
                  refine dS (fun _ k_ => gF rfl rfl dnU) ?_
                  refine dS (fun _ k_ => gF rfl rfl dnU) ?_
                  refine dS (fun _ k_ => gF rfl rfl dnU) ?_
                  refine dS (fun _ k_ => gF rfl rfl dnU) ?_
                  refine dS (fun _ k_ => gF rfl rfl dnU) ?_
                  refine dS (fun _ k_ => p_pkT rfl (rfl : _ = B true) dn) ?_
                  refine dS (fun _ k_ => p_mB rfl dn) ?_
                  refine dS (fun _ k_ => gF rfl rfl dnU) ?_
                  refine dS (fun _ k_ => gF rfl rfl dnU) ?_
                  refine dS (fun _ k_ => gF rfl rfl dnU) ?_
                  refine dS (fun _ k_ => gF rfl rfl dnU) ?_
                  refine dS (fun _ k_ => gF rfl rfl dnU) ?_
                  refine dS (fun _ k_ => gF rfl rfl dnU) ?_
                  refine dS (fun _ k_ => gF rfl rfl dnU) ?_
                  refine dS (fun _ k_ => gF rfl rfl dnU) ?_
                  refine dS (fun _ k_ => p_pkT rfl (rfl : _ = B true) dn) ?_
                  refine dS (fun _ k_ => p_mB rfl dn) ?_
                  refine dS (fun _ k_ => gF rfl rfl dnU) ?_
                  refine dS (fun _ k_ => gF rfl rfl dnU) ?_
                  refine dS (fun _ k_ => gF rfl rfl dnU) ?_
                  refine dS (fun _ k_ => p_pkT rfl (rfl : _ = B true) dn) ?_
                  intro w164 k165; have S166 := S138.call k165
                  refine wp_nil ?_
                  refine c_true rfl ?_
                  refine c_seq ?_
                  refine reg ?_
                  refine p_aB rfl ?_
                  refine wp_nil ?_
                  obtain rfl := Option.some.inj H
                  refine c_ret ?_; show bodyPostM (Fr none) 0 Tryd.prog Tryd.f6 _ .ret _ _
                  refine ret_of (res1 rfl (rvT (rfl : _ = B false))) ?_
                  exact ⟨_, rfl, rfl, S166.keep⟩
                · replace H := condF c163 H
                  rcases Bool.eq_false_or_eq_true (((r109.1.length : Int) != 0)) with c167 | c167
                  · replace H := condT c167 H
                    refine reg_q mixed 56 (by kernel_rfl) ?_
                    refine dS (fun _ k_ => p_mI rfl dn) ?_
                    refine dS (fun _ k_ => p_cmp rfl rfl rfl dn) ?_
                    refine dS (fun _ k_ => p_mB rfl dn) ?_
                    refine dB c139 ?_
                    refine dS (fun _ k_ => gT rfl rfl (p_mI rfl dn)) ?_
                    refine dS (fun _ k_ => gT rfl rfl (p_cmp rfl rfl rfl dn)) ?_
                    refine dS (fun _ k_ => p_pkF rfl (rfl : _ = B (r109.2 != 0)) dn) ?_
                    refine dS (fun _ k_ => p_mB rfl dn) ?_
                    refine dB c143 ?_
                    refine dS (fun _ k_ => gT rfl rfl (p_mI rfl dn)) ?_
                    refine dS (fun _ k_ => gT rfl rfl (p_cmp rfl rfl rfl dn)) ?_
                    refine dS (fun _ k_ => p_pkF rfl (rfl : _ = B (r118.2 != 0)) dn) ?_
                    refine dS (fun _ k_ => p_mB rfl dn) ?_
                    refine dB c147 ?_
                    refine dS (fun _ k_ => gT rfl rfl (p_mI rfl dn)) ?_
                    refine dS (fun _ k_ => gT rfl rfl (p_cmp rfl rfl rfl dn)) ?_
                    refine dS (fun _ k_ => p_pkF rfl (rfl : _ = B (r127.2 != 0)) dn) ?_
                    refine dS (fun _ k_ => p_mB rfl dn) ?_
                    refine dB c151 ?_
                    refine dS (fun _ k_ => gT rfl rfl (p_mI rfl dn)) ?_
                    refine dS (fun _ k_ => gT rfl rfl (p_cmp rfl rfl rfl dn)) ?_
                    refine dS (fun _ k_ => p_pkF rfl (rfl : _ = B (r131.2 != 0)) dn) ?_
                    refine dS (fun _ k_ => p_mB rfl dn) ?_
                    refine dB c155 ?_
                    refine dS (fun _ k_ => gT rfl rfl (p_mI rfl dn)) ?_
                    refine dS (fun _ k_ => gT rfl rfl (p_cmp rfl rfl rfl dn)) ?_
                    refine dS (fun _ k_ => p_pkF rfl (rfl : _ = B (r135.2 != 0)) dn) ?_
                    refine dS (fun _ k_ => p_mB rfl dn) ?_
                    refine dB c159 ?_
                    refine dS (fun _ k_ => gT rfl rfl (p_mB rfl dn)) ?_
                    refine dS (fun _ k_ => gT rfl rfl (p_not rfl dn)) ?_
                    refine dS (fun _ k_ => p_pkF rfl (rfl : _ = B (!r104.1)) dn) ?_
                    refine dS (fun _ k_ => p_mB rfl dn) ?_
                    refine dB c163 ?_
                    refine dS (fun _ k_ => gT rfl rfl (p_mS rfl dn)) ?_
                    refine dS (fun _ k_ => gT rfl rfl (p_len rfl sc39 dn)) ?_
                    refine dS (fun _ k_ => gT rfl rfl (p_cmp rfl rfl rfl dn)) ?_
                    refine dS (fun _ k_ => p_pkF rfl (rfl : _ = B ((r109.1.length : Int) != 0)) dn) ?_
                    refine dS (fun _ k_ => p_mB rfl dn) ?_
                    refine dB c167 ?_
                    refine dS (fun _ k_ => gF rfl rfl dnU) ?_
                    refine dS (fun _ k_ => gF rfl rfl dnU) ?_
                    refine dS (fun _ k_ => gF rfl rfl dnU) ?_
                    refine dS (fun _ k_ => gF rfl rfl dnU) ?_
                    refine dS (fun _ k_ => gF rfl rfl dnU) ?_
                    refine dS (fun _ k_ => gF rfl rfl dnU) ?_
                    refine dS (fun _ k_ => gF rfl rfl dnU) ?_
                    refine dS (fun _ k_ => gF rfl rfl dnU) ?_
                    refine dS (fun _ k_ => p_pkT rfl (rfl : _ = B true) dn) ?_
                    refine dS (fun _ k_ => p_mB rfl dn) ?_
                    refine dS (fun _ k_ => gF rfl rfl dnU) ?_
                    refine dS (fun _ k_ => gF rfl rfl dnU) ?_
                    refine dS (fun _ k_ => gF rfl rfl dnU) ?_
                    refine dS (fun _ k_ => gF rfl rfl dnU) ?_
                    refine dS (fun _ k_ => gF rfl rfl dnU) ?_
                    refine dS (fun _ k_ => gF rfl rfl dnU) ?_
                    refine dS (fun _ k_ => gF rfl rfl dnU) ?_
                    refine dS (fun _ k_ => gF rfl rfl dnU) ?_
                    refine dS (fun _ k_ => p_pkT rfl (rfl : _ = B true) dn) ?_
                    refine dS (fun _ k_ => p_mB rfl dn) ?_
                    refine dS (fun _ k_ => gF rfl rfl dnU) ?_
                    refine dS (fun _ k_ => gF rfl rfl dnU) ?_
                    refine dS (fun _ k_ => gF rfl rfl dnU) ?_
                    refine dS (fun _ k_ => p_pkT rfl (rfl : _ = B true) dn) ?_
                    intro w168 k169; have S170 := S138.call k169
                    refine wp_nil ?_
                    refine c_true rfl ?_
                    refine c_seq ?_
                    refine reg ?_
                    refine p_aB rfl ?_
                    refine wp_nil ?_
                    obtain rfl := Option.some.inj H
                    refine c_ret ?_; show bodyPostM (Fr none) 0 Tryd.prog Tryd.f6 _ .ret _ _
                    refine ret_of (res1 rfl (rvT (rfl : _ = B false))) ?_
                    exact ⟨_, rfl, rfl, S170.keep⟩
                  · replace H := condF c167 H
                    obtain ⟨r171, h172, H⟩ := bindS H
                    obtain ⟨r173, h174, H⟩ := bindS H
                    rcases Bool.eq_false_or_eq_true (!r173) with c175 | c175
                    · replace H := condT c175 H
                      refine reg_q mixed 56 (by kernel_rfl) ?_
                      refine dS (fun _ k_ => p_mI rfl dn) ?_
                      refine dS (fun _ k_ => p_cmp rfl rfl rfl dn) ?_
                      refine dS (fun _ k_ => p_mB rfl dn) ?_
                      refine dB c139 ?_
                      refine dS (fun _ k_ => gT rfl rfl (p_mI rfl dn)) ?_
                      refine dS (fun _ k_ => gT rfl rfl (p_cmp rfl rfl rfl dn)) ?_
                      refine dS (fun _ k_ => p_pkF rfl (rfl : _ = B (r109.2 != 0)) dn) ?_
                      refine dS (fun _ k_ => p_mB rfl dn) ?_
                      refine dB c143 ?_
                      refine dS (fun _ k_ => gT rfl rfl (p_mI rfl dn)) ?_
                      refine dS (fun _ k_ => gT rfl rfl (p_cmp rfl rfl rfl dn)) ?_
                      refine dS (fun _ k_ => p_pkF rfl (rfl : _ = B (r118.2 != 0)) dn) ?_
                      refine dS (fun _ k_ => p_mB rfl dn) ?_
                      refine dB c147 ?_
                      refine dS (fun _ k_ => gT rfl rfl (p_mI rfl dn)) ?_
                      refine dS (fun _ k_ => gT rfl rfl (p_cmp rfl rfl rfl dn)) ?_
                      refine dS (fun _ k_ => p_pkF rfl (rfl : _ = B (r127.2 != 0)) dn) ?_
                      refine dS (fun _ k_ => p_mB rfl dn) ?_
                      refine dB c151 ?_
                      refine dS (fun _ k_ => gT rfl rfl (p_mI rfl dn)) ?_
                      refine dS (fun _ k_ => gT rfl rfl (p_cmp rfl rfl rfl dn)) ?_
                      refine dS (fun _ k_ => p_pkF rfl (rfl : _ = B (r131.2 != 0)) dn) ?_
                      refine dS (fun _ k_ => p_mB rfl dn) ?_
                      refine dB c155 ?_
                      refine dS (fun _ k_ => gT rfl rfl (p_mI rfl dn)) ?_
                      refine dS (fun _ k_ => gT rfl rfl (p_cmp rfl rfl rfl dn)) ?_
                      refine dS (fun _ k_ => p_pkF rfl (rfl : _ = B (r135.2 != 0)) dn) ?_
                      refine dS (fun _ k_ => p_mB rfl dn) ?_
                      refine dB c159 ?_
                      refine dS (fun _ k_ => gT rfl rfl (p_mB rfl dn)) ?_
                      refine dS (fun _ k_ => gT rfl rfl (p_not rfl dn)) ?_
                      refine dS (fun _ k_ => p_pkF rfl (rfl : _ = B (!r104.1)) dn) ?_
                      refine dS (fun _ k_ => p_mB rfl dn) ?_
                      refine dB c163 ?_
                      refine dS (fun _ k_ => gT rfl rfl (p_mS rfl dn)) ?_
                      refine dS (fun _ k_ => gT rfl rfl (p_len rfl sc39 dn)) ?_
                      refine dS (fun _ k_ => gT rfl rfl (p_cmp rfl rfl rfl dn)) ?_
                      refine dS (fun _ k_ => p_pkF rfl (rfl : _ = B ((r109.1.length : Int) != 0)) dn) ?_
                      refine dS (fun _ k_ => p_mB rfl dn) ?_
                      refine dB c167 ?_
                      refine dS (fun _ k_ => gT rfl rfl (p_ldA ty23 sz23 (Asr.stays (S138.atX (i := 0) rfl) k_) rfl rfl dn)) ?_
                      refine dS (fun _ k_ => gT rfl rfl (p_fld fl41_2 rfl dn)) ?_
                      refine dS (fun _ k_ => gT rfl rfl (p_ld ty39 (Asr.stays (S138.atX (i := 2) rfl) k_) rfl rfl dn)) ?_
                      refine dS (fun _ k_ => gT rfl rfl (p_mI rfl dn)) ?_
                      refine dS (fun _ k_ => gT rfl rfl (p_ixE sc39 h172 (Asr.stays (S138.atP (i := 3) rfl) k_).1 rfl rfl rfl dn)) ?_
                      refine dS (fun _ k_ => gT rfl rfl (p_ldE ty3 h172 (Asr.stays (S138.atP (i := 3) rfl) k_).1 rfl rfl dn)) ?_
                      refine dS (fun _ k_ => gT rfl rfl (p_cvD (B_Contains_ok h174) fu32 rfl)) ?_
                      refine dS (fun _ k_ => gT rfl rfl (p_not rfl dn)) ?_
                      refine dS (fun _ k_ => p_pkF rfl (rfl : _ = B (!r173)) dn) ?_
                      refine dS (fun _ k_ => p_mB rfl dn) ?_
                      refine dB c175 ?_
                      refine dS (fun _ k_ => gF rfl rfl dnU) ?_
                      refine dS (fun _ k_ => gF rfl rfl dnU) ?_
                      refine dS (fun _ k_ => gF rfl rfl dnU) ?_
                      refine dS (fun _ k_ => gF rfl rfl dnU) ?_
                      refine dS (fun _ k_ => gF rfl rfl dnU) ?_
                      refine dS (fun _ k_ => gF rfl rfl dnU) ?_
                      refine dS (fun _ k_ => gF rfl rfl dnU) ?_
                      refine dS (fun _ k_ => gF rfl rfl dnU) ?_
                      refine dS (fun _ k_ => p_pkT rfl (rfl : _ = B true) dn) ?_
                      refine dS (fun _ k_ => p_mB rfl dn) ?_
                      refine dS (fun _ k_ => gF rfl rfl dnU) ?_
                      refine dS (fun _ k_ => gF rfl rfl dnU) ?_
                      refine dS (fun _ k_ => gF rfl rfl dnU) ?_
                      refine dS (fun _ k_ => p_pkT rfl (rfl : _ = B true) dn) ?_
                      intro w176 k177; have S178 := S138.call k177
                      refine wp_nil ?_
                      refine c_true rfl ?_
                      refine c_seq ?_
                      refine reg ?_
                      refine p_aB rfl ?_
                      refine wp_nil ?_
                      obtain rfl := Option.some.inj H
                      refine c_ret ?_; show bodyPostM (Fr none) 0 Tryd.prog Tryd.f6 _ .ret _ _
                      refine ret_of (res1 rfl (rvT (rfl : _ = B false))) ?_
                      exact ⟨_, rfl, rfl, S178.keep⟩
                    · replace H := condF c175 H
                      obtain ⟨r179, h180, H⟩ := bindS H
                      obtain ⟨r181, h182, H⟩ := bindS H
                      rcases Bool.eq_false_or_eq_true (!r181) with c183 | c183
                      · replace H := condT c183 H
                        refine reg_q mixed 56 (by kernel_rfl) ?_
                        refine dS (fun _ k_ => p_mI rfl dn) ?_
                        refine dS (fun _ k_ => p_cmp rfl rfl rfl dn) ?_
                        refine dS (fun _ k_ => p_mB rfl dn) ?_
                        refine dB c139 ?_
                        refine dS (fun _ k_ => gT rfl rfl (p_mI rfl dn)) ?_
                        refine dS (fun _ k_ => gT rfl rfl (p_cmp rfl rfl rfl dn)) ?_
                        refine dS (fun _ k_ => p_pkF rfl (rfl : _ = B (r109.2 != 0)) dn) ?_
                        refine dS (fun _ k_ => p_mB rfl dn) ?_
                        refine dB c143 ?_
                        refine dS (fun _ k_ => gT rfl rfl (p_mI rfl dn)) ?_
                        refine dS (fun _ k_ => gT rfl rfl (p_cmp rfl rfl rfl dn)) ?_
                        refine dS (fun _ k_ => p_pkF rfl (rfl : _ = B (r118.2 != 0)) dn) ?_
                        refine dS (fun _ k_ => p_mB rfl dn) ?_
                        refine dB c147 ?_
                        refine dS (fun _ k_ => gT rfl rfl (p_mI rfl dn)) ?_
                        refine dS (fun _ k_ => gT rfl rfl (p_cmp rfl rfl rfl dn)) ?_
                        refine dS (fun _ k_ => p_pkF rfl (rfl : _ = B (r127.2 != 0)) dn) ?_
                        refine dS (fun _ k_ => p_mB rfl dn) ?_
                        refine dB c151 ?_
                        refine dS (fun _ k_ => gT rfl rfl (p_mI rfl dn)) ?_
                        refine dS (fun _ k_ => gT rfl rfl (p_cmp rfl rfl rfl dn)) ?_
                        refine dS (fun _ k_ => p_pkF rfl (rfl : _ = B (r131.2 != 0)) dn) ?_
                        refine dS (fun _ k_ => p_mB rfl dn) ?_
                        refine dB c155 ?_
                        refine dS (fun _ k_ => gT rfl rfl (p_mI rfl dn)) ?_
                        refine dS (fun _ k_ => gT rfl rfl (p_cmp rfl rfl rfl dn)) ?_
                        refine dS (fun _ k_ => p_pkF rfl (rfl : _ = B (r135.2 != 0)) dn) ?_
                        refine dS (fun _ k_ => p_mB rfl dn) ?_
                        refine dB c159 ?_
                        refine dS (fun _ k_ => gT rfl rfl (p_mB rfl dn)) ?_
                        refine dS (fun _ k_ => gT rfl rfl (p_not rfl dn)) ?_
                        refine dS (fun _ k_ => p_pkF rfl (rfl : _ = B (!r104.1)) dn) ?_
                        refine dS (fun _ k_ => p_mB rfl dn) ?_
                        refine dB c163 ?_
                        refine dS (fun _ k_ => gT rfl rfl (p_mS rfl dn)) ?_
                        refine dS (fun _ k_ => gT rfl rfl (p_len rfl sc39 dn)) ?_
                        refine dS (fun _ k_ => gT rfl rfl (p_cmp rfl rfl rfl dn)) ?_
                        refine dS (fun _ k_ => p_pkF rfl (rfl : _ = B ((r109.1.length : Int) != 0)) dn) ?_
                        refine dS (fun _ k_ => p_mB rfl dn) ?_
                        refine dB c167 ?_
                        refine dS (fun _ k_ => gT rfl rfl (p_ldA ty23 sz23 (Asr.stays (S138.atX (i := 0) rfl) k_) rfl rfl dn)) ?_
                        refine dS (fun _ k_ => gT rfl rfl (p_fld fl41_2 rfl dn)) ?_
                        refine dS (fun _ k_ => gT rfl rfl (p_ld ty39 (Asr.stays (S138.atX (i := 2) rfl) k_) rfl rfl dn)) ?_
                        refine dS (fun _ k_ => gT rfl rfl (p_mI rfl dn)) ?_
                        refine dS (fun _ k_ => gT rfl rfl (p_ixE sc39 h172 (Asr.stays (S138.atP (i := 3) rfl) k_).1 rfl rfl rfl dn)) ?_
                        refine dS (fun _ k_ => gT rfl rfl (p_ldE ty3 h172 (Asr.stays (S138.atP (i := 3) rfl) k_).1 rfl rfl dn)) ?_
                        refine dS (fun _ k_ => gT rfl rfl (p_cvD (B_Contains_ok h174) fu32 rfl)) ?_
                        refine dS (fun _ k_ => gT rfl rfl (p_not rfl dn)) ?_
                        refine dS (fun _ k_ => p_pkF rfl (rfl : _ = B (!r173)) dn) ?_
                        refine dS (fun _ k_ => p_mB rfl dn) ?_
                        refine dB c175 ?_
                        refine dS (fun _ k_ => gT rfl rfl (p_mI rfl dn)) ?_
                        refine dS (fun _ k_ => gT rfl rfl (p_fld fl41_1 rfl dn)) ?_
                        refine dS (fun _ k_ => gT rfl rfl (p_ld ty39 (Asr.stays (S138.atX (i := 2) rfl) k_) rfl rfl dn)) ?_
                        refine dS (fun _ k_ => gT rfl rfl (p_mI rfl dn)) ?_
                        refine dS (fun _ k_ => gT rfl rfl (p_ixE sc39 h180 (Asr.stays (S138.atP (i := 2) rfl) k_).1 rfl rfl rfl dn)) ?_
                        refine dS (fun _ k_ => gT rfl rfl (p_ldE ty3 h180 (Asr.stays (S138.atP (i := 2) rfl) k_).1 rfl rfl dn)) ?_
                        refine dS (fun _ k_ => gT rfl rfl (p_cvD (B_Member_ok h182) fu33 rfl)) ?_
                        refine dS (fun _ k_ => gT rfl rfl (p_not rfl dn)) ?_
                        refine dS (fun _ k_ => p_pkF rfl (rfl : _ = B (!r181)) dn) ?_
                        refine dS (fun _ k_ => p_mB rfl dn) ?_
                        refine dB c183 ?_
                        refine dS (fun _ k_ => gF rfl rfl dnU) ?_
                        refine dS (fun _ k_ => gF rfl rfl dnU) ?_
                        refine dS (fun _ k_ => gF rfl rfl dnU) ?_
                        refine dS (fun _ k_ => p_pkT rfl (rfl : _ = B true) dn) ?_
                        intro w184 k185; have S186 := S138.call k185
                        refine wp_nil ?_
                        refine c_true rfl ?_
                        refine c_seq ?_
                        refine reg ?_
                        refine p_aB rfl ?_
                        refine wp_nil ?_
                        obtain rfl := Option.some.inj H
                        refine c_ret ?_; show bodyPostM (Fr none) 0 Tryd.prog Tryd.f6 _ .ret _ _
                        refine ret_of (res1 rfl (rvT (rfl : _ = B false))) ?_
                        exact ⟨_, rfl, rfl, S186.keep⟩
                      · replace H := condF c183 H
                        obtain ⟨r187, h188, H⟩ := bindS H
                        refine reg_q mixed 56 (by kernel_rfl) ?_
                        refine dS (fun _ k_ => p_mI rfl dn) ?_
                        refine dS (fun _ k_ => p_cmp rfl rfl rfl dn) ?_
                        refine dS (fun _ k_ => p_mB rfl dn) ?_
                        refine dB c139 ?_
                        refine dS (fun _ k_ => gT rfl rfl (p_mI rfl dn)) ?_
                        refine dS (fun _ k_ => gT rfl rfl (p_cmp rfl rfl rfl dn)) ?_
                        refine dS (fun _ k_ => p_pkF rfl (rfl : _ = B (r109.2 != 0)) dn) ?_
                        refine dS (fun _ k_ => p_mB rfl dn) ?_
                        refine dB c143 ?_
                        refine dS (fun _ k_ => gT rfl rfl (p_mI rfl dn)) ?_
                        refine dS (fun _ k_ => gT rfl rfl (p_cmp rfl rfl rfl dn)) ?_
                        refine dS (fun _ k_ => p_pkF rfl (rfl : _ = B (r118.2 != 0)) dn) ?_
                        refine dS (fun _ k_ => p_mB rfl dn) ?_
                        refine dB c147 ?_
                        refine dS (fun _ k_ => gT rfl rfl (p_mI rfl dn)) ?_
                        refine dS (fun _ k_ => gT rfl rfl (p_cmp rfl rfl rfl dn)) ?_
                        refine dS (fun _ k_ => p_pkF rfl (rfl : _ = B (r127.2 != 0)) dn) ?_
                        refine dS (fun _ k_ => p_mB rfl dn) ?_
                        refine dB c151 ?_
                        refine dS (fun _ k_ => gT rfl rfl (p_mI rfl dn)) ?_
                        refine dS (fun _ k_ => gT rfl rfl (p_cmp rfl rfl rfl dn)) ?_
                        refine dS (fun _ k_ => p_pkF rfl (rfl : _ = B (r131.2 != 0)) dn) ?_
                        refine dS (fun _ k_ => p_mB rfl dn) ?_
                        refine dB c155 ?_
                        refine dS (fun _ k_ => gT rfl rfl (p_mI rfl dn)) ?_
                        refine dS (fun _ k_ => gT rfl rfl (p_cmp rfl rfl rfl dn)) ?_
                        refine dS (fun _ k_ => p_pkF rfl (rfl : _ = B (r135.2 != 0)) dn) ?_
                        refine dS (fun _ k_ => p_mB rfl dn) ?_
                        refine dB c159 ?_
                        refine dS (fun _ k_ => gT rfl rfl (p_mB rfl dn)) ?_
                        refine dS (fun _ k_ => gT rfl rfl (p_not rfl dn)) ?_
                        refine dS (fun _ k_ => p_pkF rfl (rfl : _ = B (!r104.1)) dn) ?_
                        refine dS (fun _ k_ => p_mB rfl dn) ?_
                        refine dB c163 ?_
                        refine dS (fun _ k_ => gT rfl rfl (p_mS rfl dn)) ?_
                        refine dS (fun _ k_ => gT rfl rfl (p_len rfl sc39 dn)) ?_
                        refine dS (fun _ k_ => gT rfl rfl (p_cmp rfl rfl rfl dn)) ?_
                        refine dS (fun _ k_ => p_pkF rfl (rfl : _ = B ((r109.1.length : Int) != 0)) dn) ?_
                        refine dS (fun _ k_ => p_mB rfl dn) ?_
                        refine dB c167 ?_
                        refine dS (fun _ k_ => gT rfl rfl (p_ldA ty23 sz23 (Asr.stays (S138.atX (i := 0) rfl) k_) rfl rfl dn)) ?_
                        refine dS (fun _ k_ => gT rfl rfl (p_fld fl41_2 rfl dn)) ?_
                        refine dS (fun _ k_ => gT rfl rfl (p_ld ty39 (Asr.stays (S138.atX (i := 2) rfl) k_) rfl rfl dn)) ?_
                        refine dS (fun _ k_ => gT rfl rfl (p_mI rfl dn)) ?_
                        refine dS (fun _ k_ => gT rfl rfl (p_ixE sc39 h172 (Asr.stays (S138.atP (i := 3) rfl) k_).1 rfl rfl rfl dn)) ?_
                        refine dS (fun _ k_ => gT rfl rfl (p_ldE ty3 h172 (Asr.stays (S138.atP (i := 3) rfl) k_).1 rfl rfl dn)) ?_
                        refine dS (fun _ k_ => gT rfl rfl (p_cvD (B_Contains_ok h174) fu32 rfl)) ?_
                        refine dS (fun _ k_ => gT rfl rfl (p_not rfl dn)) ?_
                        refine dS (fun _ k_ => p_pkF rfl (rfl : _ = B (!r173)) dn) ?_
                        refine dS (fun _ k_ => p_mB rfl dn) ?_
                        refine dB c175 ?_
                        refine dS (fun _ k_ => gT rfl rfl (p_mI rfl dn)) ?_
                        refine dS (fun _ k_ => gT rfl rfl (p_fld fl41_1 rfl dn)) ?_
                        refine dS (fun _ k_ => gT rfl rfl (p_ld ty39 (Asr.stays (S138.atX (i := 2) rfl) k_) rfl rfl dn)) ?_
                        refine dS (fun _ k_ => gT rfl rfl (p_mI rfl dn)) ?_
                        refine dS (fun _ k_ => gT rfl rfl (p_ixE sc39 h180 (Asr.stays (S138.atP (i := 2) rfl) k_).1 rfl rfl rfl dn)) ?_
                        refine dS (fun _ k_ => gT rfl rfl (p_ldE ty3 h180 (Asr.stays (S138.atP (i := 2) rfl) k_).1 rfl rfl dn)) ?_
                        refine dS (fun _ k_ => gT rfl rfl (p_cvD (B_Member_ok h182) fu33 rfl)) ?_
                        refine dS (fun _ k_ => gT rfl rfl (p_not rfl dn)) ?_
                        refine dS (fun _ k_ => p_pkF rfl (rfl : _ = B (!r181)) dn) ?_
                        refine dS (fun _ k_ => p_mB rfl dn) ?_
                        refine dB c183 ?_
                        refine dS (fun _ k_ => gT rfl rfl (p_mI rfl dn)) ?_
                        refine dS (fun _ k_ => gT rfl rfl (p_cvD (B_Inside_ok h188) fu34 rfl)) ?_
                        refine dS (fun _ k_ => gT rfl rfl (p_not rfl dn)) ?_
                        refine dS (fun _ k_ => p_pkF rfl (rfl : _ = B (!r187)) dn) ?_
                        intro w189 k190; have S191 := S138.call k190
                        refine wp_nil ?_
                        refine c_cond rfl (fun c192 => ?_) (fun c192 => ?_)
                        · replace H := condT c192 H
                          refine c_seq ?_
                          refine reg ?_
                          refine p_aB rfl ?_
                          refine wp_nil ?_
                          obtain rfl := Option.some.inj H
                          refine c_ret ?_; show bodyPostM (Fr none) 0 Tryd.prog Tryd.f6 _ .ret _ _
                          refine ret_of (res1 rfl (rvT (rfl : _ = B false))) ?_
                          exact ⟨_, rfl, rfl, S191.keep⟩
                        · replace H := condF c192 H
                          refine c_skip ?_
                          refine c_seq ?_
                          refine c_seq ?_
                          refine reg ?_
                          refine p_aI rfl ?_
                          refine wp_nil ?_
                          refine c_block ?_
                          have S193 := S191.pk [1, 2, 3] (by decide) [1, 0, 2, 3, 4, 5, 6, 7, 8] rfl rfl
                          refine c_lop (α := Int) (β := Unit) (law_CoalTrue_l5 r45 a0 r24 r131 r59 r135) (fun z_1 y_1 => [(3, P b12 0), (7, P b37 0), (8, P b63 0), (9, I r59), (18, I r131.1), (20, I r135.1), (22, I z_1)]) (fun z_1 y_1 w_ => St w (fun _ => False) w_ [bl b63 ([I r45.Heap.Low, I r45.Heap.High] ++ (sgE eSpan r45.Eats 2 ++ (sg r45.Extra 3 ++ [SL A1 a0.Days.length c2, I r45.Collier.Low, I r45.Collier.High, I r45.Brings, SL A49 r45.Dips.length c50]))) 29, bl b37 (sg r24.eats_ 2 ++ [SL A28 r24.winds_.length c29, SL A30 r24.coal_.length c31]) 41, bl b12 ([I a0.Heap.Low, I a0.Heap.High] ++ (sgE eSpan a0.Eats 2 ++ (sg a0.Extra 3 ++ [SL A1 a0.Days.length c2, I a0.Collier.Low, I a0.Collier.High, I a0.Brings, SL A4 a0.Dips.length c5]))) 29] [rd eCoalDip 3 A49 c50 r45.Dips, rd intE 1 A113 c114 r109.1, rd intE 1 A28 c29 r24.winds_, rd intE 1 A30 c31 r24.coal_, rd eCoalDay 3 A1 c2 a0.Days, rd eCoalDip 3 A4 c5 a0.Dips, rd intE 1 A7 c8 a1, bl 0 [Value.func (.func 128) #[] #[], Value.func (.func 129) #[] #[]] 110, bl 1 [I (-1), I (-1)] 123]) 0 () H ⟨rfl, rfl, rfl, rfl, rfl, rfl, rfl, trivial⟩ S193 ?_
                          intro m194 z_1 y_1 e195 w196 H S197
                          unfold law_CoalTrue_l5 at H
                          refine c_seq ?_
                          refine c_seq ?_
                          refine reg ?_
                          refine p_mI rfl ?_
                          refine p_cmp rfl rfl rfl ?_
                          refine wp_nil ?_
                          refine c_cond rfl (fun c198 => ?_) (fun c198 => ?_)
                          · replace H := condT c198 H
                            refine c_skip ?_
                            refine c_seq ?_
                            refine c_block ?_
                            refine c_seq ?_
                            refine reg ?_
                            refine p_ldA ty29 sz29 (S197.atX (i := 0) rfl) rfl rfl ?_
                            refine p_mI rfl ?_
                            obtain ⟨r199, h200, H⟩ := bindS H
                            refine p_cv (coal_Eats_ok h200 (S197.atP (i := 4) rfl) (S197.atP (i := 0) rfl) (S197.atP (i := 8) rfl)) fu35 rfl S197 fun w201 S202 => ?_
                            refine p_mT rfl ?_
                            refine p_ext rfl rfl ?_
                            refine p_ext rfl rfl ?_
                            refine p_allA in23 S202 fun b203 w204 S205 => ?_
                            refine p_stP (pre := []) (old := [I 0, I 0]) (post := []) (vs := [I r199.1.Low, I r199.1.High]) sz23 S205 (i := 0) rfl rfl rfl rfl (rfl : _ = AG [I r199.1.Low, I r199.1.High]) rfl rfl rfl rfl fun w206 S207 => ?_
                            refine p_aI rfl ?_
                            refine wp_nil ?_
                            refine c_seq ?_
                            rcases Bool.eq_false_or_eq_true ((r199.2 != 0)) with c208 | c208
                            · replace H := condT c208 H
                              refine reg_q mixed 11 (by kernel_rfl) ?_
                              refine dS (fun _ k_ => p_mI rfl dn) ?_
                              refine dS (fun _ k_ => p_cmp rfl rfl rfl dn) ?_
                              refine dS (fun _ k_ => p_mB rfl dn) ?_
                              refine dB c208 ?_
                              refine dS (fun _ k_ => gF rfl rfl dnU) ?_
                              refine dS (fun _ k_ => gF rfl rfl dnU) ?_
                              refine dS (fun _ k_ => gF rfl rfl dnU) ?_
                              refine dS (fun _ k_ => gF rfl rfl dnU) ?_
                              refine dS (fun _ k_ => gF rfl rfl dnU) ?_
                              refine dS (fun _ k_ => gF rfl rfl dnU) ?_
                              refine dS (fun _ k_ => gF rfl rfl dnU) ?_
                              refine dS (fun _ k_ => p_pkT rfl (rfl : _ = B true) dn) ?_
                              intro w209 k210; have S211 := S207.call k210
                              refine wp_nil ?_
                              refine c_true rfl ?_
                              refine c_seq ?_
                              refine reg ?_
                              refine p_aB rfl ?_
                              refine wp_nil ?_
                              obtain rfl := Option.some.inj H
                              refine c_ret ?_; show bodyPostM (Fr none) 0 Tryd.prog Tryd.f6 _ .ret _ _
                              refine ret_of (res1 rfl (rvT (rfl : _ = B false))) ?_
                              exact ⟨_, rfl, rfl, S211.keep⟩
                            · replace H := condF c208 H
                              obtain ⟨h212, H⟩ := needS H
                              obtain ⟨r213, h214, H⟩ := bindS H
                              refine reg_q mixed 11 (by kernel_rfl) ?_
                              refine dS (fun _ k_ => p_mI rfl dn) ?_
                              refine dS (fun _ k_ => p_cmp rfl rfl rfl dn) ?_
                              refine dS (fun _ k_ => p_mB rfl dn) ?_
                              refine dB c208 ?_
                              refine dS (fun _ k_ => gT rfl rfl (p_ldA ty23 sz23 (Asr.stays (S207.atX (i := 0) rfl) k_) rfl rfl dn)) ?_
                              refine dS (fun _ k_ => gT rfl rfl (p_mI rfl dn)) ?_
                              refine dS (fun _ k_ => gT rfl rfl (p_fld fl41_0 rfl dn)) ?_
                              refine dS (fun _ k_ => gT rfl rfl (p_ixD ar30 h212 rfl rfl dn)) ?_
                              refine dS (fun _ k_ => gT rfl rfl (p_ldD (pre := []) (post := [SL A28 r24.winds_.length c29, SL A30 r24.coal_.length c31]) ty3 (Asr.stays (S207.atX (i := 2) rfl) k_) rfl h212 rfl rfl dn)) ?_
                              refine dS (fun _ k_ => gT rfl rfl (p_cvD (B_Contains_ok h214) fu32 rfl)) ?_
                              refine dS (fun _ k_ => gT rfl rfl (p_not rfl dn)) ?_
                              refine dS (fun _ k_ => p_pkF rfl (rfl : _ = B (!r213)) dn) ?_
                              intro w215 k216; have S217 := S207.call k216
                              refine wp_nil ?_
                              refine c_cond rfl (fun c218 => ?_) (fun c218 => ?_)
                              · replace H := condT c218 H
                                refine c_seq ?_
                                refine reg ?_
                                refine p_aB rfl ?_
                                refine wp_nil ?_
                                obtain rfl := Option.some.inj H
                                refine c_ret ?_; show bodyPostM (Fr none) 0 Tryd.prog Tryd.f6 _ .ret _ _
                                refine ret_of (res1 rfl (rvT (rfl : _ = B false))) ?_
                                exact ⟨_, rfl, rfl, S217.keep⟩
                              · replace H := condF c218 H
                                refine c_skip ?_
                                refine reg ?_
                                refine p_mI rfl ?_
                                refine p_add rfl rfl ?_
                                refine p_aI rfl ?_
                                refine wp_nil ?_
                                have S219 := S217.pk [1, 2, 3] (by decide) [0, 1, 2, 3, 4, 5, 6, 7, 8] rfl rfl
                                exact ⟨wr (z_1 + 1), (), _, rfl, ⟨rfl, rfl, rfl, rfl, rfl, rfl, rfl, trivial⟩, H, S219⟩
                          · replace H := condF c198 H
                            refine c_exit ?_
                            refine c_join (α := Unit) (β := Unit) (fun z_2 y_2 => [(3, P b12 0), (7, P b37 0), (8, P b63 0), (20, I r135.1)]) (fun z_2 y_2 w_ => law_CoalTrue_j4 r45 a0 r24 r135 z_2 = some r ∧ St w (fun _ => False) w_ [bl b63 ([I r45.Heap.Low, I r45.Heap.High] ++ (sgE eSpan r45.Eats 2 ++ (sg r45.Extra 3 ++ [SL A1 a0.Days.length c2, I r45.Collier.Low, I r45.Collier.High, I r45.Brings, SL A49 r45.Dips.length c50]))) 29, bl b37 (sg r24.eats_ 2 ++ [SL A28 r24.winds_.length c29, SL A30 r24.coal_.length c31]) 41, bl b12 ([I a0.Heap.Low, I a0.Heap.High] ++ (sgE eSpan a0.Eats 2 ++ (sg a0.Extra 3 ++ [SL A1 a0.Days.length c2, I a0.Collier.Low, I a0.Collier.High, I a0.Brings, SL A4 a0.Dips.length c5]))) 29] [rd eCoalDip 3 A49 c50 r45.Dips, rd intE 1 A113 c114 r109.1, rd intE 1 A28 c29 r24.winds_, rd intE 1 A30 c31 r24.coal_, rd eCoalDay 3 A1 c2 a0.Days, rd eCoalDip 3 A4 c5 a0.Dips, rd intE 1 A7 c8 a1, bl 0 [Value.func (.func 128) #[] #[], Value.func (.func 129) #[] #[]] 110, bl 1 [I (-1), I (-1)] 123]) ?_ ?_
                            · refine c_seq ?_
                              refine reg ?_
                              refine p_mI rfl ?_
                              refine p_cmp rfl rfl rfl ?_
                              refine p_mB rfl ?_
                              rcases Bool.eq_false_or_eq_true ((r131.1 == 2)) with c220 | c220
                              · replace H := condT c220 H
                                refine eB c220 ?_
                                refine gT rfl rfl (p_ldA ty41 sz41 (S197.atX (i := 1) rfl) rfl rfl ?_)
                                refine gT rfl rfl (p_mI rfl ?_)
                                obtain ⟨r221, h222, H⟩ := bindS H
                                refine gT rfl rfl (p_cv (law_lasted_ok h222 (S197.atP (i := 2) rfl) (S197.atP (i := 3) rfl)) fu36 rfl S197 fun w223 S224 => ?_)
                                refine gT rfl rfl (p_not rfl ?_)
                                refine p_pkT rfl (rfl : _ = B (!r221)) ?_
                                refine p_mB rfl ?_
                                rcases Bool.eq_false_or_eq_true (!r221) with c225 | c225
                                · replace H := condT c225 H
                                  refine eB c225 ?_
                                  refine gF rfl rfl ?_
                                  refine gF rfl rfl ?_
                                  refine gF rfl rfl ?_
                                  refine o_guardU rfl rfl ?_
                                  refine o_guardU rfl rfl ?_
                                  refine o_guardU rfl rfl ?_
                                  refine gF rfl rfl ?_
                                  refine p_pkT rfl (rfl : _ = B true) ?_
                                  refine wp_nil ?_
                                  refine c_true rfl ?_
                                  refine c_seq ?_
                                  refine reg ?_
                                  refine p_aB rfl ?_
                                  refine wp_nil ?_
                                  obtain rfl := Option.some.inj H
                                  refine c_ret ?_; show bodyPostM (Fr none) 0 Tryd.prog Tryd.f6 _ .ret _ _
                                  refine ret_of (res1 rfl (rvT (rfl : _ = B false))) ?_
                                  exact ⟨_, rfl, rfl, S224.keep⟩
                                · replace H := condF c225 H
                                  refine eB c225 ?_
                                  refine gT rfl rfl (p_mI rfl ?_)
                                  refine gT rfl rfl (p_cmp rfl rfl rfl ?_)
                                  refine gT rfl rfl (p_mB rfl ?_)
                                  rcases Bool.eq_false_or_eq_true ((r131.1 == 0)) with c226 | c226
                                  · replace H := condT c226 H
                                    refine eB c226 ?_
                                    refine gT rfl rfl (p_ldA ty41 sz41 (S224.atX (i := 1) rfl) rfl rfl ?_)
                                    refine gT rfl rfl (p_mI rfl ?_)
                                    obtain ⟨r227, h228, H⟩ := bindS H
                                    refine gT rfl rfl (p_cv (law_lasted_ok h228 (S224.atP (i := 2) rfl) (S224.atP (i := 3) rfl)) fu36 rfl S224 fun w229 S230 => ?_)
                                    refine gT rfl rfl (p_pkT rfl (rfl : _ = B r227) ?_)
                                    refine p_pkF rfl (rfl : _ = B r227) ?_
                                    refine wp_nil ?_
                                    refine c_cond rfl (fun c231 => ?_) (fun c231 => ?_)
                                    · replace H := condT c231 H
                                      refine c_seq ?_
                                      refine reg ?_
                                      refine p_aB rfl ?_
                                      refine wp_nil ?_
                                      obtain rfl := Option.some.inj H
                                      refine c_ret ?_; show bodyPostM (Fr none) 0 Tryd.prog Tryd.f6 _ .ret _ _
                                      refine ret_of (res1 rfl (rvT (rfl : _ = B false))) ?_
                                      exact ⟨_, rfl, rfl, S230.keep⟩
                                    · replace H := condF c231 H
                                      refine c_skip ?_
                                      exact ⟨(), (), _, rfl, ⟨rfl, rfl, rfl, rfl, trivial⟩, H, S230⟩
                                  · replace H := condF c226 H
                                    refine eB c226 ?_
                                    refine gF rfl rfl ?_
                                    refine gF rfl rfl ?_
                                    refine gF rfl rfl ?_
                                    refine gT rfl rfl (p_pkF rfl (rfl : _ = B false) ?_)
                                    refine p_pkF rfl (rfl : _ = B false) ?_
                                    refine wp_nil ?_
                                    refine c_false rfl ?_
                                    refine c_skip ?_
                                    exact ⟨(), (), _, rfl, ⟨rfl, rfl, rfl, rfl, trivial⟩, H, S224⟩
                              · replace H := condF c220 H
                                refine eB c220 ?_
                                refine gF rfl rfl ?_
                                refine gF rfl rfl ?_
                                refine gF rfl rfl ?_
                                refine gF rfl rfl ?_
                                refine p_pkF rfl (rfl : _ = B false) ?_
                                refine p_mB rfl ?_
                                refine gT rfl rfl (p_mI rfl ?_)
                                refine gT rfl rfl (p_cmp rfl rfl rfl ?_)
                                refine gT rfl rfl (p_mB rfl ?_)
                                rcases Bool.eq_false_or_eq_true ((r131.1 == 0)) with c232 | c232
                                · replace H := condT c232 H
                                  refine eB c232 ?_
                                  refine gT rfl rfl (p_ldA ty41 sz41 (S197.atX (i := 1) rfl) rfl rfl ?_)
                                  refine gT rfl rfl (p_mI rfl ?_)
                                  obtain ⟨r233, h234, H⟩ := bindS H
                                  refine gT rfl rfl (p_cv (law_lasted_ok h234 (S197.atP (i := 2) rfl) (S197.atP (i := 3) rfl)) fu36 rfl S197 fun w235 S236 => ?_)
                                  refine gT rfl rfl (p_pkT rfl (rfl : _ = B r233) ?_)
                                  refine p_pkF rfl (rfl : _ = B r233) ?_
                                  refine wp_nil ?_
                                  refine c_cond rfl (fun c237 => ?_) (fun c237 => ?_)
                                  · replace H := condT c237 H
                                    refine c_seq ?_
                                    refine reg ?_
                                    refine p_aB rfl ?_
                                    refine wp_nil ?_
                                    obtain rfl := Option.some.inj H
                                    refine c_ret ?_; show bodyPostM (Fr none) 0 Tryd.prog Tryd.f6 _ .ret _ _
                                    refine ret_of (res1 rfl (rvT (rfl : _ = B false))) ?_
                                    exact ⟨_, rfl, rfl, S236.keep⟩
                                  · replace H := condF c237 H
                                    refine c_skip ?_
                                    exact ⟨(), (), _, rfl, ⟨rfl, rfl, rfl, rfl, trivial⟩, H, S236⟩
                                · replace H := condF c232 H
                                  refine eB c232 ?_
                                  refine gF rfl rfl ?_
                                  refine gF rfl rfl ?_
                                  refine gF rfl rfl ?_
                                  refine gT rfl rfl (p_pkF rfl (rfl : _ = B false) ?_)
                                  refine p_pkF rfl (rfl : _ = B false) ?_
                                  refine wp_nil ?_
                                  refine c_false rfl ?_
                                  refine c_skip ?_
                                  exact ⟨(), (), _, rfl, ⟨rfl, rfl, rfl, rfl, trivial⟩, H, S197⟩
                            · intro z_2 y_2 e220 w221 S222; obtain ⟨H, S222⟩ := S222
                              unfold law_CoalTrue_j4 at H
                              refine c_seq ?_
                              refine reg ?_
                              refine p_ldA ty29 sz29 (S222.atX (i := 0) rfl) rfl rfl ?_
                              obtain ⟨r223, h224, H⟩ := bindS H
                              refine p_cv (coal_Day_ok h224 (S222.atP (i := 4) rfl) (S222.atP (i := 0) rfl) (S222.atP (i := 8) rfl)) fu37 rfl S222 fun w225 S226 => ?_
                              refine p_mT rfl ?_
                              refine p_ext rfl rfl ?_
                              refine p_ext rfl rfl ?_
                              refine p_aI rfl ?_
                              refine p_aI rfl ?_
                              refine wp_nil ?_
                              refine c_seq ?_
                              refine c_seq ?_
                              refine reg ?_
                              refine p_aI rfl ?_
                              refine wp_nil ?_
                              refine c_block ?_
                              have S227 := S226.pk [1, 2] (by decide) [0, 1, 2, 3, 4, 5, 6, 7, 8] rfl rfl
                              refine c_lop (α := Int) (β := Unit) (law_CoalTrue_l3 a0 r24 r135 r223) (fun z_3 y_3 => [(3, P b12 0), (7, P b37 0), (20, I r135.1), (25, I r223.1), (26, I r223.2), (27, I z_3)]) (fun z_3 y_3 w_ => St w (fun _ => False) w_ [bl b37 (sg r24.eats_ 2 ++ [SL A28 r24.winds_.length c29, SL A30 r24.coal_.length c31]) 41, bl b12 ([I a0.Heap.Low, I a0.Heap.High] ++ (sgE eSpan a0.Eats 2 ++ (sg a0.Extra 3 ++ [SL A1 a0.Days.length c2, I a0.Collier.Low, I a0.Collier.High, I a0.Brings, SL A4 a0.Dips.length c5]))) 29] [rd eCoalDip 3 A49 c50 r45.Dips, rd intE 1 A113 c114 r109.1, rd intE 1 A28 c29 r24.winds_, rd intE 1 A30 c31 r24.coal_, rd eCoalDay 3 A1 c2 a0.Days, rd eCoalDip 3 A4 c5 a0.Dips, rd intE 1 A7 c8 a1, bl 0 [Value.func (.func 128) #[] #[], Value.func (.func 129) #[] #[]] 110, bl 1 [I (-1), I (-1)] 123]) 0 () H ⟨rfl, rfl, rfl, rfl, rfl, rfl, trivial⟩ S227 ?_
                              intro m228 z_3 y_3 e229 w230 H S231
                              unfold law_CoalTrue_l3 at H
                              refine c_seq ?_
                              refine c_seq ?_
                              refine reg ?_
                              refine p_mI rfl ?_
                              refine p_fld fl29_3 rfl ?_
                              refine p_ld ty26 (S231.atX (i := 1) rfl) rfl rfl ?_
                              refine p_len rfl sc26 ?_
                              refine p_cmp rfl rfl rfl ?_
                              refine wp_nil ?_
                              refine c_cond rfl (fun c232 => ?_) (fun c232 => ?_)
                              · replace H := condT c232 H
                                refine c_skip ?_
                                refine c_seq ?_
                                refine c_block ?_
                                refine c_seq ?_
                                refine reg ?_
                                refine p_fld fl41_2 rfl ?_
                                refine p_ld ty39 (S231.atX (i := 0) rfl) rfl rfl ?_
                                refine p_mI rfl ?_
                                obtain ⟨r233, h234, H⟩ := bindS H
                                refine p_ixE sc39 h234 (S231.atP (i := 3) rfl).1 rfl rfl rfl ?_
                                refine p_ldE ty3 h234 (S231.atP (i := 3) rfl).1 rfl rfl ?_
                                refine p_mI rfl ?_
                                refine p_add rfl rfl ?_
                                refine p_cmp rfl rfl rfl ?_
                                refine p_mB rfl ?_
                                rcases Bool.eq_false_or_eq_true (decide ((wr (r233 + r135.1)) < 0)) with c235 | c235
                                · replace H := condT c235 H
                                  refine eB c235 ?_
                                  refine gF rfl rfl ?_
                                  refine gF rfl rfl ?_
                                  refine gF rfl rfl ?_
                                  refine gF rfl rfl ?_
                                  refine gF rfl rfl ?_
                                  refine gF rfl rfl ?_
                                  refine gF rfl rfl ?_
                                  refine o_guardU rfl rfl ?_
                                  refine o_guardU rfl rfl ?_
                                  refine o_guardU rfl rfl ?_
                                  refine o_guardU rfl rfl ?_
                                  refine o_guardU rfl rfl ?_
                                  refine o_guardU rfl rfl ?_
                                  refine o_guardU rfl rfl ?_
                                  refine gF rfl rfl ?_
                                  refine p_pkT rfl (rfl : _ = B true) ?_
                                  refine wp_nil ?_
                                  refine c_true rfl ?_
                                  refine c_seq ?_
                                  refine reg ?_
                                  refine p_aB rfl ?_
                                  refine wp_nil ?_
                                  obtain rfl := Option.some.inj H
                                  refine c_ret ?_; show bodyPostM (Fr none) 0 Tryd.prog Tryd.f6 _ .ret _ _
                                  refine ret_of (res1 rfl (rvT (rfl : _ = B false))) ?_
                                  exact ⟨_, rfl, rfl, S231.keep⟩
                                · replace H := condF c235 H
                                  refine eB c235 ?_
                                  refine gT rfl rfl (p_fld fl41_2 rfl ?_)
                                  refine gT rfl rfl (p_ld ty39 (S231.atX (i := 0) rfl) rfl rfl ?_)
                                  refine gT rfl rfl (p_mI rfl ?_)
                                  obtain ⟨r236, h237, H⟩ := bindS H
                                  refine gT rfl rfl (p_ixE sc39 h237 (S231.atP (i := 3) rfl).1 rfl rfl rfl ?_)
                                  refine gT rfl rfl (p_ldE ty3 h237 (S231.atP (i := 3) rfl).1 rfl rfl ?_)
                                  refine gT rfl rfl (p_cmp rfl rfl rfl ?_)
                                  refine gT rfl rfl (p_mB rfl ?_)
                                  rcases Bool.eq_false_or_eq_true (decide (r236 < 0)) with c238 | c238
                                  · replace H := condT c238 H
                                    refine eB c238 ?_
                                    refine gT rfl rfl (p_mI rfl ?_)
                                    refine gT rfl rfl (p_cmp rfl rfl rfl ?_)
                                    refine gT rfl rfl (p_mB rfl ?_)
                                    rcases Bool.eq_false_or_eq_true ((r223.2 != 0)) with c239 | c239
                                    · replace H := condT c239 H
                                      refine eB c239 ?_
                                      refine gF rfl rfl ?_
                                      refine gF rfl rfl ?_
                                      refine gF rfl rfl ?_
                                      refine gT rfl rfl (p_pkT rfl (rfl : _ = B true) ?_)
                                      refine gT rfl rfl (p_pkT rfl (rfl : _ = B true) ?_)
                                      refine p_pkF rfl (rfl : _ = B true) ?_
                                      refine wp_nil ?_
                                      refine c_true rfl ?_
                                      refine c_seq ?_
                                      refine reg ?_
                                      refine p_aB rfl ?_
                                      refine wp_nil ?_
                                      obtain rfl := Option.some.inj H
                                      refine c_ret ?_; show bodyPostM (Fr none) 0 Tryd.prog Tryd.f6 _ .ret _ _
                                      refine ret_of (res1 rfl (rvT (rfl : _ = B false))) ?_
                                      exact ⟨_, rfl, rfl, S231.keep⟩
                                    · replace H := condF c239 H
                                      refine eB c239 ?_
                                      refine gT rfl rfl (p_mI rfl ?_)
                                      refine gT rfl rfl (p_mI rfl ?_)
                                      refine gT rfl rfl (p_cmp rfl rfl rfl ?_)
                                      refine gT rfl rfl (p_pkF rfl (rfl : _ = B (decide (z_3 < r223.1))) ?_)
                                      refine gT rfl rfl (p_pkT rfl (rfl : _ = B (decide (z_3 < r223.1))) ?_)
                                      refine p_pkF rfl (rfl : _ = B (decide (z_3 < r223.1))) ?_
                                      refine wp_nil ?_
                                      refine c_cond rfl (fun c240 => ?_) (fun c240 => ?_)
                                      · replace H := condT c240 H
                                        refine c_seq ?_
                                        refine reg ?_
                                        refine p_aB rfl ?_
                                        refine wp_nil ?_
                                        obtain rfl := Option.some.inj H
                                        refine c_ret ?_; show bodyPostM (Fr none) 0 Tryd.prog Tryd.f6 _ .ret _ _
                                        refine ret_of (res1 rfl (rvT (rfl : _ = B false))) ?_
                                        exact ⟨_, rfl, rfl, S231.keep⟩
                                      · replace H := condF c240 H
                                        refine c_skip ?_
                                        refine reg ?_
                                        refine p_mI rfl ?_
                                        refine p_add rfl rfl ?_
                                        refine p_aI rfl ?_
                                        refine wp_nil ?_
                                        exact ⟨wr (z_3 + 1), (), _, rfl, ⟨rfl, rfl, rfl, rfl, rfl, rfl, trivial⟩, H, S231⟩
                                  · replace H := condF c238 H
                                    refine eB c238 ?_
                                    refine gF rfl rfl ?_
                                    refine gF rfl rfl ?_
                                    refine gF rfl rfl ?_
                                    refine o_guardU rfl rfl ?_
                                    refine o_guardU rfl rfl ?_
                                    refine o_guardU rfl rfl ?_
                                    refine gF rfl rfl ?_
                                    refine gT rfl rfl (p_pkF rfl (rfl : _ = B false) ?_)
                                    refine p_pkF rfl (rfl : _ = B false) ?_
                                    refine wp_nil ?_
                                    refine c_false rfl ?_
                                    refine c_skip ?_
                                    refine reg ?_
                                    refine p_mI rfl ?_
                                    refine p_add rfl rfl ?_
                                    refine p_aI rfl ?_
                                    refine wp_nil ?_
                                    exact ⟨wr (z_3 + 1), (), _, rfl, ⟨rfl, rfl, rfl, rfl, rfl, rfl, trivial⟩, H, S231⟩
                              · replace H := condF c232 H
                                refine c_exit ?_
                                refine c_seq ?_
                                refine reg ?_
                                refine p_mI rfl ?_
                                refine p_cmp rfl rfl rfl ?_
                                refine p_mB rfl ?_
                                rcases Bool.eq_false_or_eq_true ((r223.2 == 4)) with c241 | c241
                                · replace H := condT c241 H
                                  refine eB c241 ?_
                                  refine gF rfl rfl ?_
                                  refine gF rfl rfl ?_
                                  refine gF rfl rfl ?_
                                  refine o_guardU rfl rfl ?_
                                  refine o_guardU rfl rfl ?_
                                  refine o_guardU rfl rfl ?_
                                  refine o_guardU rfl rfl ?_
                                  refine o_guardU rfl rfl ?_
                                  refine o_guardU rfl rfl ?_
                                  refine gF rfl rfl ?_
                                  refine p_pkT rfl (rfl : _ = B true) ?_
                                  refine p_mB rfl ?_
                                  obtain ⟨r242, h243, H⟩ := bindS H
                                  refine gT rfl rfl (p_cv (law_stoked_ok h243 (S231.atP (i := 7) rfl) (S231.atP (i := 8) rfl)) fu19 rfl S231 fun w244 S245 => ?_)
                                  refine p_pkT rfl (rfl : _ = B r242) ?_
                                  refine p_aB rfl ?_
                                  refine wp_nil ?_
                                  obtain rfl := Option.some.inj H
                                  refine c_ret ?_; show bodyPostM (Fr none) 0 Tryd.prog Tryd.f6 _ .ret _ _
                                  refine ret_of (res1 rfl (rvT (rfl : _ = B r242))) ?_
                                  exact ⟨_, rfl, rfl, S245.keep⟩
                                · replace H := condF c241 H
                                  refine eB c241 ?_
                                  refine gT rfl rfl (p_mI rfl ?_)
                                  refine gT rfl rfl (p_cmp rfl rfl rfl ?_)
                                  refine gT rfl rfl (p_mB rfl ?_)
                                  rcases Bool.eq_false_or_eq_true ((r223.2 == 0)) with c246 | c246
                                  · replace H := condT c246 H
                                    refine eB c246 ?_
                                    refine gT rfl rfl (p_mI rfl ?_)
                                    refine gT rfl rfl (p_fld fl29_3 rfl ?_)
                                    refine gT rfl rfl (p_ld ty26 (S231.atX (i := 1) rfl) rfl rfl ?_)
                                    refine gT rfl rfl (p_len rfl sc26 ?_)
                                    refine gT rfl rfl (p_sub rfl rfl ?_)
                                    obtain ⟨r247, h248, H⟩ := bindS H
                                    refine gT rfl rfl (p_cv (B_Inside_ok h248) fu34 rfl S231 fun w249 S250 => ?_)
                                    refine gT rfl rfl (p_pkT rfl (rfl : _ = B r247) ?_)
                                    refine p_pkF rfl (rfl : _ = B r247) ?_
                                    refine p_mB rfl ?_
                                    rcases Bool.eq_false_or_eq_true (r247) with c251 | c251
                                    · replace H := condT c251 H
                                      refine eB c251 ?_
                                      obtain ⟨r252, h253, H⟩ := bindS H
                                      refine gT rfl rfl (p_cv (law_stoked_ok h253 (S250.atP (i := 7) rfl) (S250.atP (i := 8) rfl)) fu19 rfl S250 fun w254 S255 => ?_)
                                      refine p_pkT rfl (rfl : _ = B r252) ?_
                                      refine p_aB rfl ?_
                                      refine wp_nil ?_
                                      obtain rfl := Option.some.inj H
                                      refine c_ret ?_; show bodyPostM (Fr none) 0 Tryd.prog Tryd.f6 _ .ret _ _
                                      refine ret_of (res1 rfl (rvT (rfl : _ = B r252))) ?_
                                      exact ⟨_, rfl, rfl, S255.keep⟩
                                    · replace H := condF c251 H
                                      refine eB c251 ?_
                                      refine gF rfl rfl ?_
                                      refine p_pkF rfl (rfl : _ = B false) ?_
                                      refine p_aB rfl ?_
                                      refine wp_nil ?_
                                      obtain rfl := Option.some.inj H
                                      refine c_ret ?_; show bodyPostM (Fr none) 0 Tryd.prog Tryd.f6 _ .ret _ _
                                      refine ret_of (res1 rfl (rvT (rfl : _ = B false))) ?_
                                      exact ⟨_, rfl, rfl, S250.keep⟩
                                  · replace H := condF c246 H
                                    refine eB c246 ?_
                                    refine gF rfl rfl ?_
                                    refine gF rfl rfl ?_
                                    refine gF rfl rfl ?_
                                    refine gF rfl rfl ?_
                                    refine gF rfl rfl ?_
                                    refine gF rfl rfl ?_
                                    refine gT rfl rfl (p_pkF rfl (rfl : _ = B false) ?_)
                                    refine p_pkF rfl (rfl : _ = B false) ?_
                                    refine p_mB rfl ?_
                                    refine gF rfl rfl ?_
                                    refine p_pkF rfl (rfl : _ = B false) ?_
                                    refine p_aB rfl ?_
                                    refine wp_nil ?_
                                    obtain rfl := Option.some.inj H
                                    refine c_ret ?_; show bodyPostM (Fr none) 0 Tryd.prog Tryd.f6 _ .ret _ _
                                    refine ret_of (res1 rfl (rvT (rfl : _ = B false))) ?_
                                    exact ⟨_, rfl, rfl, S231.keep⟩

end Go.Proofs.YticodohfokgjfaaDoor

set_option linter.unusedVariables false
set_option linter.unusedSimpArgs false
namespace Go.Proofs.YticodohfokgjfaaDoor
open Go Go.Fx
theorem choose_ex (l : List Int) (hl : l.length ≤ 9223372036854775807) (n : Int) : ∃ c, B_Choose l n = some c ∧ (l ≠ [] → c ∈ l) := by
  unfold B_Choose
  cases l with
  | nil => exact ⟨0, rfl, fun h => (h rfl).elim⟩
  | cons x l =>
    rw [show (((x :: l).length : Int) == 0) = false by rw [beq_eq_false_iff_ne]; simp; omega, cond_false]
    obtain ⟨r, h1, h2, h3⟩ := mod_ok n ((x :: l).length : Int) (by simp) (by omega)
    obtain ⟨y, hy, hy2⟩ := getI_lt h2 h3
    exact ⟨y, by rw [h1, Option.bind_some, hy]; rfl, fun _ => List.mem_of_getElem? hy2⟩
theorem within_ex {s : Span} (h0 : -100000 ≤ s.Low) (h1 : s.Low ≤ s.High) (h2 : s.High ≤ 100000) (n : Int) : ∃ v, B_Within s n = some v ∧ s.Low ≤ v ∧ v ≤ s.High := by
  unfold B_Within
  rw [wrI (x := s.High - s.Low) (by omega) (by omega), wrI (x := s.High - s.Low + 1) (by omega) (by omega)]
  obtain ⟨r, g1, g2, g3⟩ := mod_ok n (s.High - s.Low + 1) (by omega) (by omega)
  exact ⟨s.Low + r, by rw [g1, Option.bind_some, wrI (by omega) (by omega)], by omega, by omega⟩
theorem winds_bit : ∀ (w : Fin 8) (j : Fin 3), ((andI (shrI (w.val : Int) (j.val : Int)) 1) == 1) = w.val.testBit j.val := bit_test
theorem winds_ne : ∀ w : Fin 8, 1 ≤ w.val → memL w.val 3 ≠ [] := by decide +kernel
/-- a wind that a day has -/
theorem wind_pick {x : CoalDay} (h1 : 1 ≤ x.Winds) (h7 : x.Winds ≤ 7) (n : Int) : ∃ (l : List Int) (j : Nat), B_Members x.Winds 3 = some l ∧ B_Choose l n = some (j : Int) ∧ j < 3 ∧ bitB x j = true := by
  obtain ⟨w, hw⟩ : ∃ w : Nat, x.Winds = w := ⟨x.Winds.toNat, by omega⟩
  have hw8 : w < 8 := by omega
  have hm := members_nat w (n := 3) (by omega)
  obtain ⟨c, hc, hc2⟩ := choose_ex (memL w 3) (by have := memL_len w 3; omega) n
  obtain ⟨j, rfl, hj, hb⟩ := mem_memL.1 (hc2 (winds_ne ⟨w, hw8⟩ (by simp only; omega)))
  refine ⟨memL w 3, j, by rw [hw]; exact hm, hc, hj, ?_⟩
  unfold bitB
  rw [hw, winds_bit ⟨w, hw8⟩ ⟨j, hj⟩]
  exact hb
def bareB (b : CoalBook) : CoalBook := CoalBook.mk b.Heap b.Eats b.Extra b.Days b.Collier b.Brings []
/-- what is told of the days is a truth of the book without its measures -/
structure Know (b : CoalBook) (k : Law06_known) (u : Coal_truth) : Prop where
  el : k.eats_ = u.eats_
  wl : k.winds_.length = b.Days.length
  cl : k.coal_.length = b.Days.length
  wi : ∀ j, j < b.Days.length → k.winds_.getD j 0 = u.winds_.getD j 0
  co : ∀ j, j < b.Days.length → k.coal_.getD j 0 = coalAt j u
theorem getD_snoc {l : List Int} {x : Int} {j : Nat} : (l ++ [x]).getD j 0 = if j = l.length then x else l.getD j 0 := by
  simp only [List.getD_eq_getElem?_getD]
  by_cases h : j = l.length
  · subst h; simp
  · rw [if_neg h]
    by_cases h2 : j < l.length
    · rw [List.getElem?_append_left h2]
    · rw [List.getElem?_eq_none (by simp; omega), List.getElem?_eq_none (by omega)]
theorem truly_loop {b : CoalBook} (V : Val b) (A : Arg b) {bits : List Int} (hb : bits.length ≤ 9223372036854775807) {o p cl : Int} (ho : 0 ≤ o ∧ o ≤ 9) (hp : 0 ≤ p ∧ p ≤ 9) :
    ∀ (r d m : Nat) (c : Int) (W C : List Int) (t : Coal_truth), d + r = b.Days.length → r < m → -(1000 * ((d : Int) + 1)) ≤ c → c ≤ 1000 * ((d : Int) + 1) → t.eats_ = [o, p] → t.collier_ = cl → t.winds_.length = 6 → t.coal_.length = 6 → W.length = d → C.length = d →
      (∀ j, j < d → W.getD j 0 = t.winds_.getD j 0 ∧ C.getD j 0 = coalAt j t) →
      ∃ k u, loopF (law_truly_l20 b bits cl p o) m (c, (d : Int), W, C) = some k ∧ u ∈ blown (opn (bareB b) []) r t d c ∧ Know b k u := by
  have hdn := V.dn; have hbr := V.br
  intro r
  induction r with
  | zero =>
    intro d m c W C t h1 h2 h3 h4 h5 h6 h7 h8 h9 h10 h11
    obtain ⟨m, rfl⟩ : ∃ q, m = q + 1 := ⟨m - 1, by omega⟩
    refine ⟨⟨[o, p], W, C⟩, t, ?_, List.mem_singleton.2 rfl, ⟨h5.symm, by simp only; omega, by simp only; omega, fun j hj => (h11 j (by omega)).1, fun j hj => (h11 j (by omega)).2⟩⟩
    show law_truly_l20 b bits cl p o _ (c, (d : Int), W, C) = _
    unfold law_truly_l20
    simp only
    rw [decide_eq_false (by omega), cond_false]
  | succ r ih =>
    intro d m c W C t h1 h2 h3 h4 h5 h6 h7 h8 h9 h10 h11
    obtain ⟨m, rfl⟩ : ∃ q, m = q + 1 := ⟨m - 1, by omega⟩
    have hd : d < b.Days.length := by omega
    obtain ⟨x, hx⟩ : ∃ x, b.Days[d]? = some x := ⟨_, List.getElem?_eq_getElem hd⟩
    have hg : getI b.Days (d : Int) = some x := by rw [getI_nat, hx]
    obtain ⟨⟨x0, x1⟩, _, w1, w7⟩ := dayB_iff (V.da x (List.mem_of_getElem? hx))
    obtain ⟨cb, hcb, _⟩ := choose_ex bits hb (d : Int)
    obtain ⟨l, j, hl, hj, hj3, hbit⟩ := wind_pick w1 w7 (wr (cb + (d : Int)))
    have hxl := A.xl
    have hX : 0 ≤ aget b.Extra (j : Int) ∧ aget b.Extra (j : Int) ≤ 9 := by
      have hw' : j < b.Extra.length := by omega
      have : aget b.Extra (j : Int) = b.Extra[j] := by simp [aget, List.getD_eq_getElem?_getD, hw']
      rw [this]; exact V.ex _ (List.getElem_mem hw')
    generalize hXe : aget b.Extra (j : Int) = X at hX
    have m1 : 0 ≤ x.Crosses * X := Int.mul_nonneg x0 hX.1
    have m2 : x.Crosses * X ≤ 9 * 9 := Int.mul_le_mul x1 hX.2 hX.1 (by omega)
    have m3 : 0 ≤ x.Crosses * o := Int.mul_nonneg x0 ho.1
    have m4 : x.Crosses * o ≤ 9 * 9 := Int.mul_le_mul x1 ho.2 ho.1 (by omega)
    have m5 : 0 ≤ x.Crosses * p := Int.mul_nonneg x0 hp.1
    have m6 : x.Crosses * p ≤ 9 * 9 := Int.mul_le_mul x1 hp.2 hp.1 (by omega)
    have hlook : lookL (opn (bareB b) []).costs_ (Coal_gust.mk (d : Int) (j : Int)) = some (wr (x.Crosses * X)) := by
      rw [← hXe]
      exact val_look (n := b.Days.length) hx hbit hj3 hd
    have hE : eng (opn (bareB b) []) (d : Int) t.eats_ = dayEng x t.eats_ := eng_day (q := opn (bareB b) []) hx t.eats_
    have hR : ∀ n, rightB (opn (bareB b) []) (d : Int) n = true := fun n => rfl
    have eE : dayEng x t.eats_ = (bif (andI (shrI x.Engines 0) 1) == 1 then x.Crosses * o else 0) + (bif (andI (shrI x.Engines 1) 1) == 1 then x.Crosses * p else 0) := by
      unfold dayEng
      rw [h5, Int.mul_comm x.Crosses o, Int.mul_comm x.Crosses p]; rfl
    have k0 := member_eq x.Engines 0; have k1 := member_eq x.Engines 1
    rw [show ((0 : Nat) : Int) = 0 from rfl] at k0
    rw [show ((1 : Nat) : Int) = 1 from rfl] at k1
    generalize hg0 : (andI (shrI x.Engines 0) 1 == 1) = g0 at eE k0
    generalize hg1 : (andI (shrI x.Engines 1) 1 == 1) = g1 at eE k1
    obtain ⟨E, hEd⟩ : ∃ E : Int, E = X + (bif g0 then o else 0) + (bif g1 then p else 0) := ⟨_, rfl⟩
    have hEb : 0 ≤ E ∧ E ≤ 27 := by rw [hEd]; cases g0 <;> cases g1 <;> simp only [cond_true, cond_false] <;> omega
    have hEC : E * x.Crosses = dayEng x t.eats_ + x.Crosses * X := by
      rw [hEd, eE, Int.mul_comm]
      cases g0 <;> cases g1 <;> simp only [cond_true, cond_false, Int.mul_add, Int.mul_zero, Int.add_zero, Int.zero_add] <;> omega
    have hDb : 0 ≤ dayEng x t.eats_ ∧ dayEng x t.eats_ ≤ 162 := by rw [eE]; cases g0 <;> cases g1 <;> simp only [cond_true, cond_false] <;> omega
    -- what the wind and the engines cost
    have tail : ∀ z : Int, -(1000 * ((d : Int) + 1)) ≤ z → z ≤ 1000 * ((d : Int) + 1) + 400 → z = (bif t.collier_ == (d : Int) then c + (opn (bareB b) []).CoalBook.Brings else c) →
        ∃ k u, law_truly_j17 (c, (d : Int), W, C) (j : Int) E x (loopF (law_truly_l20 b bits cl p o) m) z = some k ∧ u ∈ blown (opn (bareB b) []) (r + 1) t d c ∧ Know b k u := by
      intro z z1 z2 hz
      have hw : wr (x.Crosses * X) = x.Crosses * X := wrI (by omega) (by omega)
      obtain ⟨k, u, a1, a2, a3⟩ := ih (d + 1) m (z - dayEng x t.eats_ - x.Crosses * X) (W ++ [(j : Int)]) (C ++ [z - dayEng x t.eats_ - x.Crosses * X]) (Coal_truth.mk t.eats_ t.collier_ (aset t.winds_ 6 (d : Int) (j : Int)) (aset t.coal_ 6 (d : Int) (z - dayEng x t.eats_ - x.Crosses * X)))
        (by omega) (by omega) (by omega) (by omega) h5 h6 (by simp [aset]) (by simp [aset]) (by simp; omega) (by simp; omega) (fun i hi => by
          rw [getD_snoc, getD_snoc]
          unfold coalAt
          simp only
          rw [getD_aset (by omega), getD_aset (by omega), h9, h10]
          by_cases hid : i = d
          · subst hid; simp
          · rw [if_neg hid, if_neg hid, if_neg (by simp; omega), if_neg (by simp; omega)]
            exact h11 i (by omega))
      refine ⟨k, u, ?_, ?_, a3⟩
      · generalize loopF (law_truly_l20 b bits cl p o) m = rec at a1
        unfold law_truly_j17
        simp only
        rw [need_of (fits_small (by simp; omega) (by omega)), need_of (fits_small (by simp; omega) (by omega)), wrI (x := E * x.Crosses) (by omega) (by omega), hEC, wrI (x := z - _) (by omega) (by omega), wrN hd (by omega), show z - (dayEng x t.eats_ + x.Crosses * X) = z - dayEng x t.eats_ - x.Crosses * X by omega]
        exact a1
      · refine blown_mk0 hj3 hlook (hR _) ?_
        rw [hw, ← hz, hE]
        exact a2
    show ∃ k u, law_truly_l20 b bits cl p o (loopF (law_truly_l20 b bits cl p o) m) (c, (d : Int), W, C) = some k ∧ _
    generalize loopF (law_truly_l20 b bits cl p o) m = rec at tail
    have fin : ∃ k u, law_truly_j18 cl (c, (d : Int), W, C) (j : Int) x rec b E = some k ∧ u ∈ blown (opn (bareB b) []) (r + 1) t d c ∧ Know b k u := by
      unfold law_truly_j18
      simp only
      rw [← h6]
      cases hc : (t.collier_ == (d : Int)) with
      | true => rw [cond_true, wrI (by omega) (by omega)]; exact tail _ (by omega) (by omega) (by rw [hc]; rfl)
      | false => rw [cond_false]; exact tail _ (by omega) (by omega) (by rw [hc]; rfl)
    obtain ⟨k, u, f1, f2, f3⟩ := fin
    refine ⟨k, u, ?_, f2, f3⟩
    unfold law_truly_l20
    simp only
    rw [decide_eq_true (by omega), cond_true, hg, Option.bind_some, hl, Option.bind_some, hcb, Option.bind_some, hj, Option.bind_some, need_of (by simp [inI]; omega), k0, Option.bind_some, hXe]
    unfold law_truly_j19
    rw [k1]
    simp only [Option.bind_some]
    cases g0 <;> cases g1 <;> simp only [cond_true, cond_false, Int.add_zero] at hEd ⊢ <;> (try rw [wrI (x := X + o) (by omega) (by omega)]) <;> (try rw [wrI (by omega) (by omega)]) <;> (rw [← hEd]; exact f1)
theorem truly_eq {b : CoalBook} (V : Val b) (A : Arg b) {bits : List Int} (hb : bits.length ≤ 9223372036854775807) : ∃ k u, law_truly b bits = some k ∧ u ∈ TT (bareB b) ∧ Know b k u := by
  have sp : ∀ {s : Span} {hi wide : Int}, spB s hi wide = true → 0 ≤ s.Low ∧ s.Low ≤ s.High ∧ s.High ≤ hi ∧ s.High - s.Low ≤ wide := fun {s hi wide} h => by
    unfold spB at h
    simp only [Bool.and_eq_true, decide_eq_true_eq] at h
    exact ⟨h.1.1.1, h.1.1.2, h.1.2, h.2⟩
  have hdn := V.dn
  obtain ⟨p1, p2, p3, p4⟩ := sp V.hp
  obtain ⟨c1, c2, c3, c4⟩ := sp V.co
  obtain ⟨o1, o2, o3, o4⟩ := sp (V.ea _ (agetS_mem (l := b.Eats) (i := 0) (by rw [A.el]; decide)))
  obtain ⟨r1, r2, r3, r4⟩ := sp (V.ea _ (agetS_mem (l := b.Eats) (i := 1) (by rw [A.el]; decide)))
  obtain ⟨n0, hn0, _⟩ := choose_ex bits hb 0
  obtain ⟨n1, hn1, _⟩ := choose_ex bits hb 1
  obtain ⟨n2, hn2, _⟩ := choose_ex bits hb 2
  obtain ⟨n3, hn3, _⟩ := choose_ex bits hb 3
  obtain ⟨o, ho, oa, ob⟩ := within_ex (s := agetS b.Eats (0 : Int)) (by omega) (by omega) (by omega) n0
  obtain ⟨p, hp, pa, pb⟩ := within_ex (s := agetS b.Eats (1 : Int)) (by omega) (by omega) (by omega) n1
  obtain ⟨h, hh, ha, hb2⟩ := within_ex (s := b.Heap) (by omega) (by omega) (by omega) n2
  obtain ⟨c, hc, ca, cb⟩ := within_ex (s := b.Collier) (by omega) (by omega) (by omega) n3
  obtain ⟨k, u, f1, f2, f3⟩ := truly_loop V A hb (o := o) (p := p) (cl := c) (by omega) (by omega) b.Days.length 0 big h [] [] (init o p c) (by omega) (by rw [big_eq]; omega) (by omega) (by omega) rfl rfl rfl rfl rfl rfl (fun j hj => by omega)
  refine ⟨k, u, ?_, truth_mem.2 ⟨h, rng_mem.2 ⟨ha, hb2⟩, o, rng_mem.2 ⟨oa, ob⟩, p, rng_mem.2 ⟨pa, pb⟩, c, rng_mem.2 ⟨ca, cb⟩, f2⟩, f3⟩
  unfold law_truly
  simp only [hn0, hn1, hn2, hn3, ho, hp, hh, hc, Option.bind_some]
  exact f1
/-- a book with other measures -/
def dipsB (b : CoalBook) (l : List CoalDip) : CoalBook := CoalBook.mk b.Heap b.Eats b.Extra b.Days b.Collier b.Brings l
theorem rightly_eq {b : CoalBook} (V : Val b) {k : Law06_known} (hk : k.coal_.length = b.Days.length) (hc : ∀ j, j < b.Days.length → -100000 ≤ k.coal_.getD j 0 ∧ k.coal_.getD j 0 ≤ 100000) {bits : List Int} (hb : bits.length ≤ 9223372036854775807) :
    ∃ l, law_rightly b k bits = some (dipsB b l) ∧ l.length ≤ b.Dips.length ∧ ∀ y ∈ l, dipB b.Days.length y = true ∧ inB (k.coal_.getD y.Day.toNat 0 - y.Read) (-y.Error) y.Error = true := by
  have hp := V.pn
  unfold law_rightly
  have key : ∀ (e i m : Nat) (l : List CoalDip), i + e = b.Dips.length → e < m → l.length ≤ i → (∀ y ∈ l, dipB b.Days.length y = true ∧ inB (k.coal_.getD y.Day.toNat 0 - y.Read) (-y.Error) y.Error = true) →
      ∃ l', loopF (law_rightly_l2 b k bits) m ((i : Int), l) = some (dipsB b l') ∧ l'.length ≤ b.Dips.length ∧ ∀ y ∈ l', dipB b.Days.length y = true ∧ inB (k.coal_.getD y.Day.toNat 0 - y.Read) (-y.Error) y.Error = true := by
    intro e
    induction e with
    | zero =>
      intro i m l g1 g2 g3 g4
      obtain ⟨m, rfl⟩ : ∃ q, m = q + 1 := ⟨m - 1, by omega⟩
      refine ⟨l, ?_, by omega, g4⟩
      show law_rightly_l2 b k bits _ ((i : Int), l) = _
      unfold law_rightly_l2
      simp only
      rw [decide_eq_false (by omega), cond_false]
      rfl
    | succ e ih =>
      intro i m l g1 g2 g3 g4
      obtain ⟨m, rfl⟩ : ∃ q, m = q + 1 := ⟨m - 1, by omega⟩
      have hi : i < b.Dips.length := by omega
      have ih2 := ih (i + 1) m
      show ∃ l', law_rightly_l2 b k bits (loopF (law_rightly_l2 b k bits) m) ((i : Int), l) = some (dipsB b l') ∧ _
      generalize loopF (law_rightly_l2 b k bits) m = rec at ih2
      obtain ⟨⟨d0, d1⟩, _, e0, e9⟩ := dipB_iff (V.di _ (List.getElem_mem hi))
      obtain ⟨n, hn, _⟩ := choose_ex bits hb (i : Int)
      obtain ⟨v, hv, v0, v1⟩ := within_ex (s := ⟨-b.Dips[i].Error, b.Dips[i].Error⟩) (by simp only; omega) (by simp only; omega) (by simp only; omega) n
      simp only at v0 v1
      obtain ⟨D, hD⟩ : ∃ D : Nat, b.Dips[i].Day = D := ⟨b.Dips[i].Day.toNat, by omega⟩
      have hDn : D < b.Days.length := by omega
      have hco := hc D hDn
      have hgc : getI k.coal_ b.Dips[i].Day = some (k.coal_.getD D 0) := by
        rw [hD, getI_ix (by omega), List.getD_eq_getElem?_getD, List.getElem?_eq_getElem (by omega)]; rfl
      unfold law_rightly_l2
      simp only
      rw [decide_eq_true (by omega), cond_true, getI_ix hi, Option.bind_some, hgc, Option.bind_some, wrI (x := -_) (by omega) (by omega)]
      simp only [B_Range, hn, hv, Option.bind_some, inside_eq]
      rw [wrI (x := k.coal_.getD D 0 + v) (by omega) (by omega), wrN hi (by omega)]
      cases hin : inB (k.coal_.getD D 0 + v) 0 800 with
      | false => rw [cond_false]; exact ih2 l (by omega) (by omega) (by omega) g4
      | true =>
        have hin := inB_iff.1 hin
        rw [cond_true, need_of (fits_small (by simp; omega) (by omega))]
        refine ih2 _ (by omega) (by omega) (by simp; omega) fun y hy => ?_
        rcases List.mem_append.1 hy with hy | hy
        · exact g4 y hy
        · obtain rfl := List.mem_singleton.1 hy
          simp only [dipB, Bool.and_eq_true, inB_iff, hD]
          rw [show ((D : Int)).toNat = D from rfl]
          omega
  obtain ⟨l, h1, h2, h3⟩ := key b.Dips.length 0 big [] (by omega) (by rw [big_eq]; omega) (by simp) (fun y hy => by cases hy)
  exact ⟨l, h1, h2, h3⟩
theorem dips_val {b : CoalBook} (V : Val b) {l : List CoalDip} (hl : l.length ≤ b.Dips.length) (hd : ∀ y ∈ l, dipB b.Days.length y = true) : Val (dipsB b l) :=
  ⟨V.hp, V.dn, V.co, V.br, by have := V.pn; show l.length ≤ 4; omega, V.ea, V.ex, V.da, hd⟩
/-- what is so is a truth of the book whose measures are right of it -/
theorem true_in {b : CoalBook} (V : Val b) {l : List CoalDip} {u : Coal_truth} (hu : u ∈ TT (bareB b)) (hd : ∀ y ∈ l, dipB b.Days.length y = true ∧ inB (coalAt y.Day.toNat u - y.Read) (-y.Error) y.Error = true) : u ∈ TT (dipsB b l) := by
  have hk : (opn (dipsB b l) []).CoalBook.Dips = l := keep_self l
  refine (truths_cut (q := opn (bareB b) []) (q' := opn (dipsB b l) []) (fun k w x => rightB (opn (dipsB b l) []) k x = true) rfl rfl rfl rfl rfl rfl V.dn.2 (fun k _ w _ c x => ⟨fun ⟨h1, h2⟩ => ⟨h1, rfl, h2⟩, fun ⟨h1, _, h2⟩ => ⟨h1, h2⟩⟩) u).2 ⟨hu, fun k hk2 => ?_⟩
  unfold rightB
  rw [hk, List.all_eq_true]
  intro y hy
  obtain ⟨h1, h2⟩ := hd y hy
  obtain ⟨⟨d0, _⟩, _⟩ := dipB_iff h1
  by_cases hday : y.Day = (k : Int)
  · rw [hday, show ((k : Int)).toNat = k from rfl] at h2
    rw [h2, Bool.or_true]
  · rw [show (y.Day == (k : Int)) = false by rw [beq_eq_false_iff_ne]; exact hday]; rfl
theorem lasted_eq {b : CoalBook} {k : Law06_known} {u : Coal_truth} (K : Know b k u) {d : Nat} (hd : d < b.Days.length) (hn : b.Days.length ≤ 6) : law_lasted k d = some (lastB d u) := by
  unfold law_lasted
  have hg : ∀ j, j < b.Days.length → getI k.coal_ (j : Int) = some (coalAt j u) := fun j hj => by
    have hl := K.cl
    rw [getI_ix (by omega), ← K.co j hj, List.getD_eq_getElem?_getD, List.getElem?_eq_getElem (by omega)]; rfl
  have key : ∀ (e i m : Nat), i + e = d + 1 → e < m → loopF (law_lasted_l1 (d : Int) k) m (i : Int) = some ((List.range' i e).all fun j => decide (0 ≤ coalAt j u)) := by
    intro e
    induction e with
    | zero =>
      intro i m g1 g2
      obtain ⟨m, rfl⟩ : ∃ q, m = q + 1 := ⟨m - 1, by omega⟩
      show law_lasted_l1 (d : Int) k _ (i : Int) = _
      unfold law_lasted_l1
      rw [decide_eq_false (by omega), cond_false]; rfl
    | succ e ih =>
      intro i m g1 g2
      obtain ⟨m, rfl⟩ : ∃ q, m = q + 1 := ⟨m - 1, by omega⟩
      have ih2 := ih (i + 1) m (by omega) (by omega)
      show law_lasted_l1 (d : Int) k (loopF (law_lasted_l1 (d : Int) k) m) (i : Int) = _
      generalize loopF (law_lasted_l1 (d : Int) k) m = rec at ih2
      unfold law_lasted_l1
      rw [decide_eq_true (by omega), cond_true, hg i (by omega), Option.bind_some, List.range'_succ, List.all_cons]
      by_cases h : coalAt i u < 0
      · rw [decide_eq_true h, cond_true, decide_eq_false (by omega), Bool.false_and]
      · rw [decide_eq_false h, cond_false, decide_eq_true (by omega), Bool.true_and, wrN (show i < d + 1 by omega) (by omega), ih2]
  have := key (d + 1) 0 big (by omega) (by rw [big_eq]; omega)
  rw [show ((0 : Nat) : Int) = 0 from rfl] at this
  rw [this, lastB, List.range_eq_range']
theorem kind_all {L : List Coal_truth} {d : Nat} {u : Coal_truth} (hu : u ∈ L) : 0 ≤ kind L d ∧ kind L d ≤ 2 ∧ (kind L d = 2 → lastB d u = true) ∧ (kind L d = 0 → lastB d u = false) := by
  unfold kind
  cases ha : L.any (lastB d) with
  | false =>
    have h1 : lastB d u = false := by simpa using List.any_eq_false.1 ha u hu
    cases hb : L.all (lastB d) with
    | false => simp [h1]
    | true => have := List.all_eq_true.1 hb u hu; rw [h1] at this; cases this
  | true =>
    cases hb : L.all (lastB d) with
    | false => simp
    | true => have := List.all_eq_true.1 hb u hu; simp [this]
theorem law_coalTrue (b : CoalBook) (A : Arg b) (bits : List Int) (hb : bits.length ≤ 9223372036854775807) (n : Int) : law_CoalTrue b bits n = some true := by
  unfold law_CoalTrue
  rw [sound_eq b A, Option.bind_some]
  cases hv : valB b with
  | false => simp only [Bool.not_false, cond_true, stoked_eq, Option.bind_some]
  | true =>
    have V := val_iff.1 hv
    have hdn := V.dn
    obtain ⟨k, u, hk, hu, K⟩ := truly_eq V A hb
    have Vb : Val (bareB b) := dips_val V (l := []) (by simp) (fun y hy => by cases hy)
    have T0 := (truths_tru (opn_op Vb (Vb.arg A.el A.xl) []) hu).1
    have hco : ∀ j, j < b.Days.length → -100000 ≤ k.coal_.getD j 0 ∧ k.coal_.getD j 0 ≤ 100000 := fun j hj => by rw [K.co j hj]; exact T0.co j hj
    obtain ⟨l, hl, hl2, hl3⟩ := rightly_eq V K.cl hco hb
    have Vx : Val (dipsB b l) := dips_val V hl2 fun y hy => (hl3 y hy).1
    have Ax : Arg (dipsB b l) := Vx.arg A.el A.xl
    have hux : u ∈ TT (dipsB b l) := true_in V hu fun y hy => by
      obtain ⟨h1, h2⟩ := hl3 y hy
      obtain ⟨⟨d0, d1⟩, _⟩ := dipB_iff h1
      exact ⟨h1, by rw [← K.co _ (by omega)]; exact h2⟩
    have hne : TT (dipsB b l) ≠ [] := fun h => by rw [h] at hux; cases hux
    have hem : (TT (dipsB b l)).isEmpty = false := by
      cases h : TT (dipsB b l) with
      | nil => exact (hne h).elim
      | cons => rfl
    obtain ⟨d, hd, hd2⟩ := modN n (n := b.Days.length) (by omega) (by omega)
    have e0 : CoalBook.mk (dipsB b l).Heap (dipsB b l).Eats (dipsB b l).Extra b.Days (dipsB b l).Collier (dipsB b l).Brings (dipsB b l).Dips = dipsB b l := rfl
    have hr := right_law Vx Ax
    obtain ⟨w, hw, F⟩ := wrong_law Vx Ax
    have hw0 : w = [] := by
      have := F.len [] Clm.nil hne
      exact List.eq_nil_of_length_eq_zero (by simpa using this)
    subst hw0
    obtain ⟨s, hs, S⟩ := heap_law Vx Ax (d := d) hd2
    have hwd := wind_law Vx Ax (d := d) hd2
    have hla := lasts_law Vx Ax (d := d) hd2
    obtain ⟨o, hor, O⟩ := order_law Vx Ax
    rw [hem] at hr hs hwd hla hor
    have O := O hne
    simp only [cond_false] at hr hs hwd hla hor
    simp only [Bool.not_true, cond_false, hk, hl, hd, Option.bind_some, e0, hr, hw, hs, hwd, hla, hor, bne_self_eq_false, Bool.not_false, List.length_nil]
    have hgc : ∀ j, j < b.Days.length → getI k.coal_ (j : Int) = some (coalAt j u) := fun j hj => by
      have hl := K.cl
      rw [getI_ix (by omega), ← K.co j hj, List.getD_eq_getElem?_getD, List.getElem?_eq_getElem (by omega)]; rfl
    have hgw : getI k.winds_ (d : Int) = some ((windAt d u : Nat) : Int) := by
      have hl := K.wl
      have hwi := T0.wi d hd2
      rw [getI_ix (by omega)]
      congr 1
      have := K.wi d hd2
      rw [List.getD_eq_getElem?_getD, List.getElem?_eq_getElem (by omega)] at this
      simp only [Option.getD_some] at this
      rw [this]; unfold windAt; omega
    have hw3 : windAt d u < 3 := by have := T0.wi d hd2; unfold windAt; omega
    rw [show (((0 : Nat) : Int) != 0) = false from rfl, cond_false, hgc d hd2, Option.bind_some, contains_eq, Option.bind_some, inB_iff.2 ⟨S.le u hux, S.ge u hux⟩]
    simp only [Bool.not_true, cond_false]
    have hbit : (windSet d (TT (dipsB b l))).testBit (windAt d u) = true := by
      unfold windSet
      exact (windSet_bit (d := d) (TT (dipsB b l)) 0 (windAt d u)).2 (.inr ⟨u, hux, rfl⟩)
    obtain ⟨k0, k2, kk2, kk0⟩ := kind_all (d := d) hux
    rw [hgw, Option.bind_some, member_nat _ _ (by omega), Option.bind_some, hbit]
    simp only [Bool.not_true, cond_false]
    rw [inside_eq, Option.bind_some, inB_iff.2 ⟨k0, k2⟩]
    simp only [Bool.not_true, cond_false]
    -- the end
    have hj4 : law_CoalTrue_j4 (dipsB b l) b k (o, 0) () = some true := by
      unfold law_CoalTrue_j4
      obtain ⟨f, hf, _, f1⟩ := day_law Vx Ax
      rw [e0, hf, Option.bind_some]
      have hcu : ∀ j, j < b.Days.length → -100000 ≤ coalAt j u ∧ coalAt j u ≤ 100000 := fun j hj => T0.co j hj
      have hOn := O.n0; have hOh := O.hi
      refine loop_fold0 (fun i => (i : Int)) b.Days.length (fun rec i hi => ?_) (fun rec => ?_) (by rw [big_eq]; omega) rfl
      · have hi2 := hcu i hi
        have hge := O.ge i hi u hux
        unfold law_CoalTrue_l3
        rw [decide_eq_true (by omega), cond_true, hgc i hi, Option.bind_some, wrI (by omega) (by omega), decide_eq_false (by omega), cond_false, Option.bind_some, wrN hi (by omega)]
        by_cases hlt : coalAt i u < 0
        · rw [decide_eq_true hlt, cond_true]
          rcases f1 hne with ⟨g, hg, rfl, _, hb2⟩ | ⟨rfl, hb2⟩
          · have : ¬ i < g := fun h => by have := hb2 i h u hux; omega
            rw [show ((0 : Int) != 0) = false from rfl, cond_false, decide_eq_false (by simp only; omega), cond_false]
          · have := hb2 i hi u hux; omega
        · rw [decide_eq_false hlt, cond_false]
      · unfold law_CoalTrue_l3
        rw [decide_eq_false (by omega), cond_false]
        rcases f1 hne with ⟨g, hg, rfl, _, _⟩ | ⟨rfl, _⟩
        · have hg : g < b.Days.length := hg
          simp only [show ((0 : Int) == 4) = false from rfl, cond_false, beq_self_eq_true, cond_true]
          rw [wrI (by omega) (by omega), inside_eq, Option.bind_some, dayIn hg, cond_true, stoked_eq]; rfl
        · simp only [beq_self_eq_true, cond_true, stoked_eq, Option.bind_some]
    have hlst := lasted_eq K hd2 hdn.2
    -- both engines
    have he : ∀ e : Nat, e < 2 → aget k.eats_ (e : Int) = eatAt e u := fun e _ => by unfold aget eatAt; rw [K.el]; rfl
    refine loop_fold0 (fun i => (i : Int)) 2 (fun rec i hi => ?_) (fun rec => ?_) (by rw [big_eq]; omega) rfl
    · obtain ⟨t, ht, T⟩ := eats_law Vx Ax (e := i) hi
      rw [hem] at ht
      simp only [cond_false] at ht
      unfold law_CoalTrue_l5
      rw [decide_eq_true (by omega), cond_true, e0, ht, Option.bind_some]
      simp only [bne_self_eq_false, cond_false]
      rw [need_of (by simp [inI]; omega), he i hi, contains_eq, Option.bind_some, inB_iff.2 ⟨T.le u hux, T.ge u hux⟩]
      simp only [Bool.not_true, cond_false]
      rw [wrN hi (by omega)]
    · unfold law_CoalTrue_l5
      rw [decide_eq_false (by omega), cond_false, hlst]
      simp only [Option.bind_some, hj4]
      by_cases h2 : kind (TT (dipsB b l)) d = 2
      · rw [kk2 h2, show (kind (TT (dipsB b l)) d == 2) = true by rw [beq_iff_eq]; exact h2, show (kind (TT (dipsB b l)) d == 0) = false by rw [beq_eq_false_iff_ne]; omega]
        rfl
      · rw [show (kind (TT (dipsB b l)) d == 2) = false by rw [beq_eq_false_iff_ne]; exact h2, cond_false]
        by_cases h0 : kind (TT (dipsB b l)) d = 0
        · rw [kk0 h0, show (kind (TT (dipsB b l)) d == 0) = true by rw [beq_iff_eq]; exact h0]; rfl
        · rw [show (kind (TT (dipsB b l)) d == 0) = false by rw [beq_eq_false_iff_ne]; exact h0]; rfl
end Go.Proofs.YticodohfokgjfaaDoor

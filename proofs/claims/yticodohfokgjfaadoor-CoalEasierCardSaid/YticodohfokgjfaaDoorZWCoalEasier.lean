/- What the law's function computes, and that it does, printed by a program of mine. -/
import Derived.Test.YticodohfokgjfaaDoorZWAll
import Derived.KernelRfl
set_option linter.unusedVariables false
set_option linter.unusedSimpArgs false
namespace Go.Proofs.YticodohfokgjfaaDoor
open Go Go.Fx Go.Proofs
def law_CoalEasier_j3 (a1 : List Int) (a0 : CoalBook) (z_2 : (List CoalDay)) : Option Bool :=
  (B_Mod (aget a1 2) (a0.Days.length : Int)).bind fun r62 =>
  (coal_Lasts (CoalBook.mk a0.Heap a0.Eats [(if (if (aget a0.Extra 2) < (aget a0.Extra 1) then (aget a0.Extra 2) else (aget a0.Extra 1)) < (aget a0.Extra 0) then (if (aget a0.Extra 2) < (aget a0.Extra 1) then (aget a0.Extra 2) else (aget a0.Extra 1)) else (aget a0.Extra 0)), aget a0.Extra 1, aget a0.Extra 2] a0.Days a0.Collier a0.Brings ([] : List _)) r62).bind fun r66 =>
  (coal_Lasts (CoalBook.mk a0.Heap a0.Eats [(if (if (aget a0.Extra 2) < (aget a0.Extra 1) then (aget a0.Extra 2) else (aget a0.Extra 1)) < (aget a0.Extra 0) then (if (aget a0.Extra 2) < (aget a0.Extra 1) then (aget a0.Extra 2) else (aget a0.Extra 1)) else (aget a0.Extra 0)), aget a0.Extra 1, aget a0.Extra 2] z_2 a0.Collier a0.Brings ([] : List _)) r62).bind fun r70 =>
  (coal_Heap (CoalBook.mk a0.Heap a0.Eats [(if (if (aget a0.Extra 2) < (aget a0.Extra 1) then (aget a0.Extra 2) else (aget a0.Extra 1)) < (aget a0.Extra 0) then (if (aget a0.Extra 2) < (aget a0.Extra 1) then (aget a0.Extra 2) else (aget a0.Extra 1)) else (aget a0.Extra 0)), aget a0.Extra 1, aget a0.Extra 2] a0.Days a0.Collier a0.Brings ([] : List _)) r62).bind fun r74 =>
  (coal_Heap (CoalBook.mk a0.Heap a0.Eats [(if (if (aget a0.Extra 2) < (aget a0.Extra 1) then (aget a0.Extra 2) else (aget a0.Extra 1)) < (aget a0.Extra 0) then (if (aget a0.Extra 2) < (aget a0.Extra 1) then (aget a0.Extra 2) else (aget a0.Extra 1)) else (aget a0.Extra 0)), aget a0.Extra 1, aget a0.Extra 2] z_2 a0.Collier a0.Brings ([] : List _)) r62).bind fun r83 =>
  (coal_Order (CoalBook.mk a0.Heap a0.Eats [(if (if (aget a0.Extra 2) < (aget a0.Extra 1) then (aget a0.Extra 2) else (aget a0.Extra 1)) < (aget a0.Extra 0) then (if (aget a0.Extra 2) < (aget a0.Extra 1) then (aget a0.Extra 2) else (aget a0.Extra 1)) else (aget a0.Extra 0)), aget a0.Extra 1, aget a0.Extra 2] a0.Days a0.Collier a0.Brings ([] : List _))).bind fun r92 =>
  (coal_Order (CoalBook.mk a0.Heap a0.Eats [(if (if (aget a0.Extra 2) < (aget a0.Extra 1) then (aget a0.Extra 2) else (aget a0.Extra 1)) < (aget a0.Extra 0) then (if (aget a0.Extra 2) < (aget a0.Extra 1) then (aget a0.Extra 2) else (aget a0.Extra 1)) else (aget a0.Extra 0)), aget a0.Extra 1, aget a0.Extra 2] z_2 a0.Collier a0.Brings ([] : List _))).bind fun r96 =>
  bif (r66.2 == 0) then (bif (r70.2 == r66.2) then (bif (r74.2 == r66.2) then (bif (r83.2 == r66.2) then (bif (r92.2 == r66.2) then (bif (r96.2 == r66.2) then (bif decide (r70.1 ≥ r66.1) then (bif decide (r83.1.Low ≥ r74.1.Low) then (bif decide (r83.1.High ≥ r74.1.High) then (bif decide (r96.1 ≤ r92.1) then ((law_stoked).bind fun r110 =>
  some r110)
  else (some false))
  else (some false))
  else (some false))
  else (some false))
  else (some false))
  else (some false))
  else (some false))
  else (some false))
  else (some false))
  else (some false)

def law_CoalEasier_l4 (a1 : List Int) (a0 : CoalBook) (rec_z_1 : (Int × (List CoalDay)) → Option Bool) (z_1 : Int × (List CoalDay)) : Option Bool :=
  bif decide (z_1.1 < (z_1.2.length : Int)) then ((getI z_1.2 z_1.1).bind fun r81 =>
  rec_z_1 (wr (z_1.1 + 1), (z_1.2.set z_1.1.toNat (CoalDay.mk r81.Crosses r81.Engines 1))))
  else (law_CoalEasier_j3 a1 a0 z_1.2)

def law_CoalEasier_j6 (a1 : List Int) (a0 : CoalBook) (z_2 : (List CoalDay)) : Option Bool :=
  (B_Mod (aget a1 2) (a0.Days.length : Int)).bind fun r98 =>
  (coal_Lasts (CoalBook.mk a0.Heap a0.Eats [(if (if (aget a0.Extra 2) < (aget a0.Extra 1) then (aget a0.Extra 2) else (aget a0.Extra 1)) < (aget a0.Extra 0) then (if (aget a0.Extra 2) < (aget a0.Extra 1) then (aget a0.Extra 2) else (aget a0.Extra 1)) else (aget a0.Extra 0)), aget a0.Extra 1, aget a0.Extra 2] a0.Days a0.Collier a0.Brings ([] : List _)) r98).bind fun r102 =>
  (coal_Lasts (CoalBook.mk a0.Heap a0.Eats [(if (if (aget a0.Extra 2) < (aget a0.Extra 1) then (aget a0.Extra 2) else (aget a0.Extra 1)) < (aget a0.Extra 0) then (if (aget a0.Extra 2) < (aget a0.Extra 1) then (aget a0.Extra 2) else (aget a0.Extra 1)) else (aget a0.Extra 0)), aget a0.Extra 1, aget a0.Extra 2] z_2 a0.Collier a0.Brings ([] : List _)) r98).bind fun r106 =>
  (coal_Heap (CoalBook.mk a0.Heap a0.Eats [(if (if (aget a0.Extra 2) < (aget a0.Extra 1) then (aget a0.Extra 2) else (aget a0.Extra 1)) < (aget a0.Extra 0) then (if (aget a0.Extra 2) < (aget a0.Extra 1) then (aget a0.Extra 2) else (aget a0.Extra 1)) else (aget a0.Extra 0)), aget a0.Extra 1, aget a0.Extra 2] a0.Days a0.Collier a0.Brings ([] : List _)) r98).bind fun r110 =>
  (coal_Heap (CoalBook.mk a0.Heap a0.Eats [(if (if (aget a0.Extra 2) < (aget a0.Extra 1) then (aget a0.Extra 2) else (aget a0.Extra 1)) < (aget a0.Extra 0) then (if (aget a0.Extra 2) < (aget a0.Extra 1) then (aget a0.Extra 2) else (aget a0.Extra 1)) else (aget a0.Extra 0)), aget a0.Extra 1, aget a0.Extra 2] z_2 a0.Collier a0.Brings ([] : List _)) r98).bind fun r119 =>
  (coal_Order (CoalBook.mk a0.Heap a0.Eats [(if (if (aget a0.Extra 2) < (aget a0.Extra 1) then (aget a0.Extra 2) else (aget a0.Extra 1)) < (aget a0.Extra 0) then (if (aget a0.Extra 2) < (aget a0.Extra 1) then (aget a0.Extra 2) else (aget a0.Extra 1)) else (aget a0.Extra 0)), aget a0.Extra 1, aget a0.Extra 2] a0.Days a0.Collier a0.Brings ([] : List _))).bind fun r128 =>
  (coal_Order (CoalBook.mk a0.Heap a0.Eats [(if (if (aget a0.Extra 2) < (aget a0.Extra 1) then (aget a0.Extra 2) else (aget a0.Extra 1)) < (aget a0.Extra 0) then (if (aget a0.Extra 2) < (aget a0.Extra 1) then (aget a0.Extra 2) else (aget a0.Extra 1)) else (aget a0.Extra 0)), aget a0.Extra 1, aget a0.Extra 2] z_2 a0.Collier a0.Brings ([] : List _))).bind fun r132 =>
  bif (r102.2 == 0) then (bif (r106.2 == r102.2) then (bif (r110.2 == r102.2) then (bif (r119.2 == r102.2) then (bif (r128.2 == r102.2) then (bif (r132.2 == r102.2) then (bif decide (r106.1 ≥ r102.1) then (bif decide (r119.1.Low ≥ r110.1.Low) then (bif decide (r119.1.High ≥ r110.1.High) then (bif decide (r132.1 ≤ r128.1) then ((law_stoked).bind fun r146 =>
  some r146)
  else (some false))
  else (some false))
  else (some false))
  else (some false))
  else (some false))
  else (some false))
  else (some false))
  else (some false))
  else (some false))
  else (some false)

def law_CoalEasier_l7 (a1 : List Int) (a0 : CoalBook) (rec_z_1 : (Int × (List CoalDay)) → Option Bool) (z_1 : Int × (List CoalDay)) : Option Bool :=
  bif decide (z_1.1 < (z_1.2.length : Int)) then ((getI z_1.2 z_1.1).bind fun r118 =>
  rec_z_1 (wr (z_1.1 + 1), (z_1.2.set z_1.1.toNat (CoalDay.mk r118.Crosses r118.Engines 1))))
  else (law_CoalEasier_j6 a1 a0 z_1.2)

def law_CoalEasier (a0 : CoalBook) (a1 : List Int) : Option Bool :=
  (law_sound a0).bind fun r15 =>
  bif !r15 then ((law_stoked).bind fun r20 =>
  some r20)
  else ((B_Mod (aget a1 1) (a0.Days.length : Int)).bind fun r24 =>
  bif a0.Days.isEmpty then ((B_Mod (aget a1 0) 2).bind fun r59 =>
  bif (r59 == 0) then ((getI a0.Days r24).bind fun r64 =>
  (getI ([] : List CoalDay) r24).bind fun r66 =>
  law_CoalEasier_j3 a1 a0 (([] : List CoalDay).set r24.toNat (CoalDay.mk (if (wr (r64.Crosses - 1)) > 0 then (wr (r64.Crosses - 1)) else 0) r66.Engines r66.Winds)))
  else (loopF (law_CoalEasier_l4 a1 a0) big (0, ([] : List CoalDay))))
  else (need (fitsL (([] : List CoalDay).length + a0.Days.length) 24) <|
  (B_Mod (aget a1 0) 2).bind fun r95 =>
  bif (r95 == 0) then ((getI a0.Days r24).bind fun r100 =>
  (getI a0.Days r24).bind fun r102 =>
  law_CoalEasier_j6 a1 a0 (a0.Days.set r24.toNat (CoalDay.mk (if (wr (r100.Crosses - 1)) > 0 then (wr (r100.Crosses - 1)) else 0) r102.Engines r102.Winds)))
  else (loopF (law_CoalEasier_l7 a1 a0) big (0, a0.Days))))

set_option maxRecDepth 100000 in
theorem law_CoalEasier_ok {a0 : CoalBook} {a1 : List Int} {A1 : Option Addr} {c2 : Nat} {A4 : Option Addr} {c5 : Nat} {w : World} {r : Bool} (H : law_CoalEasier a0 a1 = some r) (h3 : (rd eCoalDay 3 A1 c2 a0.Days).ok w) (h6 : (rd eCoalDip 3 A4 c5 a0.Dips).ok w) (hg7 : (bl 0 [Value.func (.func 128) #[] #[], Value.func (.func 129) #[] #[]] 110).ok w) (hg8 : (bl 1 [I (-1), I (-1)] 123).ok w) : Calls Tryd.prog 13 #[AG ([I a0.Heap.Low, I a0.Heap.High] ++ (sgE eSpan a0.Eats 2 ++ (sg a0.Extra 3 ++ [SL A1 a0.Days.length c2, I a0.Collier.Low, I a0.Collier.High, I a0.Brings, SL A4 a0.Dips.length c5]))), AG (sg a1 3)] w (RetV w (B r)) := by
  unfold law_CoalEasier at H
  refine fn_of (n := 176) Tryd.func13 rfl rfl (Nat.le_of_ble_eq_true rfl) ?_
  have S : St w (fun _ => False) w [] [rd eCoalDay 3 A1 c2 a0.Days, rd eCoalDip 3 A4 c5 a0.Dips, bl 0 [Value.func (.func 128) #[] #[], Value.func (.func 129) #[] #[]] 110, bl 1 [I (-1), I (-1)] 123] := St.start w _ _ (List.forall_mem_cons.2 ⟨h3, (List.forall_mem_cons.2 ⟨h6, (List.forall_mem_cons.2 ⟨hg7, (List.forall_mem_cons.2 ⟨hg8, (fun _ h_ => (List.not_mem_nil h_).elim)⟩)⟩)⟩)⟩)
  refine c_seq ?_
  refine reg ?_
  refine p_boxA rfl S fun b9 w10 S11 => ?_
  refine p_boxA rfl S11 fun b12 w13 S14 => ?_
  refine p_aB rfl ?_
  refine wp_nil ?_
  refine c_seq ?_
  refine c_seq ?_
  refine reg ?_
  refine p_ldA ty29 sz29 (S14.atX (i := 1) rfl) rfl rfl ?_
  obtain ⟨r15, h16, H⟩ := bindS H
  refine p_cv (law_sound_ok h16 (S14.atP (i := 0) rfl) (S14.atP (i := 1) rfl)) fu22 rfl S14 fun w17 S18 => ?_
  refine p_not rfl ?_
  refine wp_nil ?_
  refine c_cond rfl (fun c19 => ?_) (fun c19 => ?_)
  · replace H := condT c19 H
    refine c_seq ?_
    refine reg ?_
    obtain ⟨r20, h21, H⟩ := bindS H
    refine p_cv (law_stoked_ok h21 (S18.atP (i := 2) rfl) (S18.atP (i := 3) rfl)) fu19 rfl S18 fun w22 S23 => ?_
    refine p_aB rfl ?_
    refine wp_nil ?_
    obtain rfl := Option.some.inj H
    refine c_ret ?_; show bodyPostM (Fr none) 0 Tryd.prog Tryd.f13 _ .ret _ _
    refine ret_of (res1 rfl (rvT (rfl : _ = B r20))) ?_
    exact ⟨_, rfl, rfl, S23.keep⟩
  · replace H := condF c19 H
    refine c_skip ?_
    refine c_seq ?_
    obtain ⟨r24, h25, H⟩ := bindS H
    refine reg_c mixed 8 [7] (by kernel_rfl) ?_
    refine kS rfl (fun _ k_ => p_ldA ty29 sz29 (Asr.stays (S18.atX (i := 1) rfl) k_) rfl rfl dn) ?_
    refine kS rfl (fun _ k_ => p_ixc ar25 rfl rfl (by decide) (by decide) dn) ?_
    refine kS rfl (fun _ k_ => p_ld ty3 (Asr.stays (S18.atX (i := 0) rfl) k_) rfl rfl dn) ?_
    refine kS rfl (fun _ k_ => p_fld fl29_3 rfl dn) ?_
    refine kS rfl (fun _ k_ => p_ld ty26 (Asr.stays (S18.atX (i := 1) rfl) k_) rfl rfl dn) ?_
    refine kS rfl (fun _ k_ => p_len rfl sc26 dn) ?_
    refine kS rfl (fun _ k_ => p_cvD (B_Mod_ok h25) fu25 rfl) ?_
    refine kC rfl ?_
    intro w26 k27; have S28 := S18.call k27
    have S32 := S28.base
    refine p_allA in29 S32 fun b29 w30 S31 => ?_
    refine cN S31.keep fun w33 k34 => ?_
    have S35 := (S28.fromBase S31).call k34
    refine p_stP (pre := []) (old := [I 0, I 0, I 0, I 0, I 0, I 0] ++ (sg (List.replicate 3 0) 3 ++ [SL none 0 0, I 0, I 0, I 0, SL none 0 0])) (post := []) (vs := [I a0.Heap.Low, I a0.Heap.High] ++ (sgE eSpan a0.Eats 2 ++ (sg a0.Extra 3 ++ [SL A1 a0.Days.length c2, I a0.Collier.Low, I a0.Collier.High, I a0.Brings, SL A4 a0.Dips.length c5]))) sz29 S35 (i := 0) rfl rfl rfl rfl (rfl : _ = AG ([I a0.Heap.Low, I a0.Heap.High] ++ (sgE eSpan a0.Eats 2 ++ (sg a0.Extra 3 ++ [SL A1 a0.Days.length c2, I a0.Collier.Low, I a0.Collier.High, I a0.Brings, SL A4 a0.Dips.length c5])))) rfl rfl rfl rfl fun w36 S37 => ?_
    refine p_aI rfl ?_
    refine wp_nil ?_
    refine c_seq ?_
    refine reg ?_
    refine p_fld fl29_6 rfl ?_
    refine p_stP (pre := [I a0.Heap.Low, I a0.Heap.High] ++ (sgE eSpan a0.Eats 2 ++ (sg a0.Extra 3 ++ [SL A1 a0.Days.length c2, I a0.Collier.Low, I a0.Collier.High, I a0.Brings]))) (old := [SL A4 a0.Dips.length c5]) (post := []) (vs := [SL none 0 0]) sz27 S37 (i := 0) rfl rfl rfl rfl (rfl : _ = SL none 0 0) rfl rfl rfl rfl fun w38 S39 => ?_
    refine wp_nil ?_
    refine c_seq ?_
    refine reg ?_
    refine p_fld fl29_2 rfl ?_
    refine p_ixc ar25 rfl rfl (by decide) (by decide) ?_
    refine p_ld ty3 (S39.atX (i := 2) rfl) rfl rfl ?_
    refine p_fld fl29_2 rfl ?_
    refine p_ixc ar25 rfl rfl (by decide) (by decide) ?_
    refine p_ld ty3 (S39.atX (i := 2) rfl) rfl rfl ?_
    refine p_fld fl29_2 rfl ?_
    refine p_ixc ar25 rfl rfl (by decide) (by decide) ?_
    refine p_ld ty3 (S39.atX (i := 2) rfl) rfl rfl ?_
    refine p_min rfl rfl ?_
    refine p_min rfl rfl ?_
    refine p_fld fl29_2 rfl ?_
    refine p_ixc ar25 rfl rfl (by decide) (by decide) ?_
    refine p_stP (pre := [I a0.Heap.Low, I a0.Heap.High] ++ sgE eSpan a0.Eats 2) (old := [I (aget a0.Extra 0)]) (post := [I (aget a0.Extra 1), I (aget a0.Extra 2), SL A1 a0.Days.length c2, I a0.Collier.Low, I a0.Collier.High, I a0.Brings, SL none 0 0]) (vs := [I (if (if (aget a0.Extra 2) < (aget a0.Extra 1) then (aget a0.Extra 2) else (aget a0.Extra 1)) < (aget a0.Extra 0) then (if (aget a0.Extra 2) < (aget a0.Extra 1) then (aget a0.Extra 2) else (aget a0.Extra 1)) else (aget a0.Extra 0))]) sz3 S39 (i := 0) rfl rfl rfl rfl (rfl : _ = I (if (if (aget a0.Extra 2) < (aget a0.Extra 1) then (aget a0.Extra 2) else (aget a0.Extra 1)) < (aget a0.Extra 0) then (if (aget a0.Extra 2) < (aget a0.Extra 1) then (aget a0.Extra 2) else (aget a0.Extra 1)) else (aget a0.Extra 0))) rfl rfl rfl rfl fun w40 S41 => ?_
    refine wp_nil ?_
    refine c_seq ?_
    refine reg ?_
    refine p_ldA ty29 sz29 (S41.atX (i := 0) rfl) rfl rfl ?_
    refine p_allA in29 S41 fun b42 w43 S44 => ?_
    refine p_stP (pre := []) (old := [I 0, I 0, I 0, I 0, I 0, I 0] ++ (sg (List.replicate 3 0) 3 ++ [SL none 0 0, I 0, I 0, I 0, SL none 0 0])) (post := []) (vs := [I a0.Heap.Low, I a0.Heap.High] ++ (sgE eSpan a0.Eats 2 ++ [I (if (if (aget a0.Extra 2) < (aget a0.Extra 1) then (aget a0.Extra 2) else (aget a0.Extra 1)) < (aget a0.Extra 0) then (if (aget a0.Extra 2) < (aget a0.Extra 1) then (aget a0.Extra 2) else (aget a0.Extra 1)) else (aget a0.Extra 0)), I (aget a0.Extra 1), I (aget a0.Extra 2), SL A1 a0.Days.length c2, I a0.Collier.Low, I a0.Collier.High, I a0.Brings, SL none 0 0])) sz29 S44 (i := 0) rfl rfl rfl rfl (rfl : _ = AG ([I a0.Heap.Low, I a0.Heap.High] ++ (sgE eSpan a0.Eats 2 ++ [I (if (if (aget a0.Extra 2) < (aget a0.Extra 1) then (aget a0.Extra 2) else (aget a0.Extra 1)) < (aget a0.Extra 0) then (if (aget a0.Extra 2) < (aget a0.Extra 1) then (aget a0.Extra 2) else (aget a0.Extra 1)) else (aget a0.Extra 0)), I (aget a0.Extra 1), I (aget a0.Extra 2), SL A1 a0.Days.length c2, I a0.Collier.Low, I a0.Collier.High, I a0.Brings, SL none 0 0]))) rfl rfl rfl rfl fun w45 S46 => ?_
    refine wp_nil ?_
    refine c_seq ?_
    refine reg ?_
    refine p_bsl0 eCoalDay sc26 S46 fun A47 w49 S50 => ?_
    refine p_fld fl29_3 rfl ?_
    refine p_ld ty26 (S50.atX (i := 4) rfl) rfl rfl ?_
    rcases Bool.eq_false_or_eq_true (a0.Days.isEmpty) with c52 | c52
    · replace H := condT c52 H
      refine p_app0 sc26 in64 (Nat.le_refl _) c52 rfl rfl ?_
      refine p_fld fl29_3 rfl ?_
      refine p_stP (pre := [I a0.Heap.Low, I a0.Heap.High] ++ (sgE eSpan a0.Eats 2 ++ [I (if (if (aget a0.Extra 2) < (aget a0.Extra 1) then (aget a0.Extra 2) else (aget a0.Extra 1)) < (aget a0.Extra 0) then (if (aget a0.Extra 2) < (aget a0.Extra 1) then (aget a0.Extra 2) else (aget a0.Extra 1)) else (aget a0.Extra 0)), I (aget a0.Extra 1), I (aget a0.Extra 2)])) (old := [SL A1 a0.Days.length c2]) (post := [I a0.Collier.Low, I a0.Collier.High, I a0.Brings, SL none 0 0]) (vs := [SL A47 0 0]) sz26 S50 (i := 1) rfl rfl rfl rfl (rfl : _ = SL A47 0 0) rfl rfl rfl rfl fun w57 S58 => ?_
      refine wp_nil ?_
      refine c_join (α := (List CoalDay)) (β := (Option Addr) × Nat) (fun z_2 y_2 => [(2, P b9 0), (3, P b12 0), (5, P b29 0), (7, P b42 0)]) (fun z_2 y_2 w_ => law_CoalEasier_j3 a1 a0 z_2 = some r ∧ St w (fun _ => False) w_ [gr eCoalDay 3 64 y_2.1 y_2.2 z_2, bl b42 ([I a0.Heap.Low, I a0.Heap.High] ++ (sgE eSpan a0.Eats 2 ++ [I (if (if (aget a0.Extra 2) < (aget a0.Extra 1) then (aget a0.Extra 2) else (aget a0.Extra 1)) < (aget a0.Extra 0) then (if (aget a0.Extra 2) < (aget a0.Extra 1) then (aget a0.Extra 2) else (aget a0.Extra 1)) else (aget a0.Extra 0)), I (aget a0.Extra 1), I (aget a0.Extra 2), SL y_2.1 z_2.length y_2.2, I a0.Collier.Low, I a0.Collier.High, I a0.Brings, SL none 0 0])) 29, bl b29 ([I a0.Heap.Low, I a0.Heap.High] ++ (sgE eSpan a0.Eats 2 ++ [I (if (if (aget a0.Extra 2) < (aget a0.Extra 1) then (aget a0.Extra 2) else (aget a0.Extra 1)) < (aget a0.Extra 0) then (if (aget a0.Extra 2) < (aget a0.Extra 1) then (aget a0.Extra 2) else (aget a0.Extra 1)) else (aget a0.Extra 0)), I (aget a0.Extra 1), I (aget a0.Extra 2), SL A1 a0.Days.length c2, I a0.Collier.Low, I a0.Collier.High, I a0.Brings, SL none 0 0])) 29, bl b12 (sg a1 3) 25, bl b9 ([I a0.Heap.Low, I a0.Heap.High] ++ (sgE eSpan a0.Eats 2 ++ (sg a0.Extra 3 ++ [SL A1 a0.Days.length c2, I a0.Collier.Low, I a0.Collier.High, I a0.Brings, SL A4 a0.Dips.length c5]))) 29] [rd eCoalDay 3 A1 c2 a0.Days, rd eCoalDip 3 A4 c5 a0.Dips, bl 0 [Value.func (.func 128) #[] #[], Value.func (.func 129) #[] #[]] 110, bl 1 [I (-1), I (-1)] 123]) ?_ ?_
      · refine c_seq ?_
        refine reg ?_
        refine p_ixc ar25 rfl rfl (by decide) (by decide) ?_
        refine p_ld ty3 (S58.atX (i := 3) rfl) rfl rfl ?_
        obtain ⟨r59, h60, H⟩ := bindS H
        refine p_cv (B_Mod_ok h60) fu25 rfl S58 fun w61 S62 => ?_
        refine p_cmp rfl rfl rfl ?_
        refine wp_nil ?_
        refine c_cond rfl (fun c63 => ?_) (fun c63 => ?_)
        · replace H := condT c63 H
          obtain ⟨r64, h65, H⟩ := bindS H
          obtain ⟨r66, h67, H⟩ := bindS H
          refine reg_q mixed 13 (by kernel_rfl) ?_
          refine dS (fun _ k_ => p_fld fl29_3 rfl dn) ?_
          refine dS (fun _ k_ => p_ld ty26 (Asr.stays (S62.atX (i := 1) rfl) k_) rfl rfl dn) ?_
          refine dS (fun _ k_ => p_mI rfl dn) ?_
          refine dS (fun _ k_ => p_fld fl29_3 rfl dn) ?_
          refine dS (fun _ k_ => p_ld ty26 (Asr.stays (S62.atX (i := 4) rfl) k_) rfl rfl dn) ?_
          refine dS (fun _ k_ => p_mI rfl dn) ?_
          refine dS (fun _ k_ => p_ixE sc26 h65 (Asr.stays (S62.atP (i := 0) rfl) k_).1 rfl rfl rfl dn) ?_
          refine dS (fun _ k_ => p_fldE fl64_0 (sl_here (Asr.stays (S62.atP (i := 0) rfl) k_).1 h65) rfl dn) ?_
          refine dS (fun _ k_ => p_ldE ty3 h65 (Asr.stays (S62.atP (i := 0) rfl) k_).1 rfl rfl dn) ?_
          refine dS (fun _ k_ => p_sub rfl rfl dn) ?_
          refine dS (fun _ k_ => p_max rfl rfl dn) ?_
          refine dS (fun _ k_ => p_ixE sc26 h67 (gr_sl eCoalDay_len (Asr.stays (S62.atX (i := 0) rfl) k_)) rfl rfl rfl dn) ?_
          refine dS (fun _ k_ => p_fldE fl64_0 (sl_here (gr_sl eCoalDay_len (Asr.stays (S62.atX (i := 0) rfl) k_)) h67) rfl dn) ?_
          intro w68 k69; have S70 := S62.call k69
          refine p_stE (x' := (CoalDay.mk (if (wr (r64.Crosses - 1)) > 0 then (wr (r64.Crosses - 1)) else 0) r66.Engines r66.Winds)) (a := []) (old := [I r66.Crosses]) (b := [I r66.Engines, I r66.Winds]) (vs := [I (if (wr (r64.Crosses - 1)) > 0 then (wr (r64.Crosses - 1)) else 0)]) sz3 eCoalDay_len eCoalDay_one S70 (i := 0) rfl h67 rfl (rfl : _ = I (if (wr (r64.Crosses - 1)) > 0 then (wr (r64.Crosses - 1)) else 0)) rfl rfl rfl rfl rfl rfl fun l73 w74 h71 h72 S75 => ?_
          obtain rfl : l73 = (([] : List CoalDay).set r24.toNat (CoalDay.mk (if (wr (r64.Crosses - 1)) > 0 then (wr (r64.Crosses - 1)) else 0) r66.Engines r66.Winds)) := h71
          try rw [← h72]
          try rw [← h72] at S75
          refine wp_nil ?_
          exact ⟨(([] : List CoalDay).set r24.toNat (CoalDay.mk (if (wr (r64.Crosses - 1)) > 0 then (wr (r64.Crosses - 1)) else 0) r66.Engines r66.Winds)), (A47, 0), _, rfl, ⟨rfl, rfl, rfl, rfl, trivial⟩, H, S75⟩
        · replace H := condF c63 H
          refine c_seq ?_
          refine reg ?_
          refine p_aI rfl ?_
          refine wp_nil ?_
          refine c_block ?_
          refine c_lop (α := Int × (List CoalDay)) (β := (Option Addr) × Nat) (law_CoalEasier_l4 a1 a0) (fun z_1 y_1 => [(2, P b9 0), (3, P b12 0), (5, P b29 0), (7, P b42 0), (8, I z_1.1)]) (fun z_1 y_1 w_ => St w (fun _ => False) w_ [gr eCoalDay 3 64 y_1.1 y_1.2 z_1.2, bl b42 ([I a0.Heap.Low, I a0.Heap.High] ++ (sgE eSpan a0.Eats 2 ++ [I (if (if (aget a0.Extra 2) < (aget a0.Extra 1) then (aget a0.Extra 2) else (aget a0.Extra 1)) < (aget a0.Extra 0) then (if (aget a0.Extra 2) < (aget a0.Extra 1) then (aget a0.Extra 2) else (aget a0.Extra 1)) else (aget a0.Extra 0)), I (aget a0.Extra 1), I (aget a0.Extra 2), SL y_1.1 z_1.2.length y_1.2, I a0.Collier.Low, I a0.Collier.High, I a0.Brings, SL none 0 0])) 29, bl b29 ([I a0.Heap.Low, I a0.Heap.High] ++ (sgE eSpan a0.Eats 2 ++ [I (if (if (aget a0.Extra 2) < (aget a0.Extra 1) then (aget a0.Extra 2) else (aget a0.Extra 1)) < (aget a0.Extra 0) then (if (aget a0.Extra 2) < (aget a0.Extra 1) then (aget a0.Extra 2) else (aget a0.Extra 1)) else (aget a0.Extra 0)), I (aget a0.Extra 1), I (aget a0.Extra 2), SL A1 a0.Days.length c2, I a0.Collier.Low, I a0.Collier.High, I a0.Brings, SL none 0 0])) 29, bl b12 (sg a1 3) 25, bl b9 ([I a0.Heap.Low, I a0.Heap.High] ++ (sgE eSpan a0.Eats 2 ++ (sg a0.Extra 3 ++ [SL A1 a0.Days.length c2, I a0.Collier.Low, I a0.Collier.High, I a0.Brings, SL A4 a0.Dips.length c5]))) 29] [rd eCoalDay 3 A1 c2 a0.Days, rd eCoalDip 3 A4 c5 a0.Dips, bl 0 [Value.func (.func 128) #[] #[], Value.func (.func 129) #[] #[]] 110, bl 1 [I (-1), I (-1)] 123]) (0, ([] : List CoalDay)) (A47, 0) H ⟨rfl, rfl, rfl, rfl, rfl, trivial⟩ S62 ?_
          intro m76 z_1 y_1 e77 w78 H S79
          unfold law_CoalEasier_l4 at H
          refine c_seq ?_
          refine c_seq ?_
          refine reg ?_
          refine p_mI rfl ?_
          refine p_fld fl29_3 rfl ?_
          refine p_ld ty26 (S79.atX (i := 1) rfl) rfl rfl ?_
          refine p_len rfl sc26 ?_
          refine p_cmp rfl rfl rfl ?_
          refine wp_nil ?_
          refine c_cond rfl (fun c80 => ?_) (fun c80 => ?_)
          · replace H := condT c80 H
            refine c_skip ?_
            refine c_seq ?_
            refine c_block ?_
            refine reg ?_
            refine p_fld fl29_3 rfl ?_
            refine p_ld ty26 (S79.atX (i := 1) rfl) rfl rfl ?_
            refine p_mI rfl ?_
            obtain ⟨r81, h82, H⟩ := bindS H
            refine p_ixE sc26 h82 (gr_sl eCoalDay_len (S79.atX (i := 0) rfl)) rfl rfl rfl ?_
            refine p_fldE fl64_2 (sl_here (gr_sl eCoalDay_len (S79.atX (i := 0) rfl)) h82) rfl ?_
            refine p_stE (x' := (CoalDay.mk r81.Crosses r81.Engines 1)) (a := [I r81.Crosses, I r81.Engines]) (old := [I r81.Winds]) (b := []) (vs := [I 1]) sz3 eCoalDay_len eCoalDay_one S79 (i := 0) rfl h82 rfl (rfl : _ = I 1) rfl rfl rfl rfl rfl rfl fun l85 w86 h83 h84 S87 => ?_
            obtain rfl : l85 = (z_1.2.set z_1.1.toNat (CoalDay.mk r81.Crosses r81.Engines 1)) := h83
            try rw [← h84]
            try rw [← h84] at S87
            refine wp_nil ?_
            refine reg ?_
            refine p_mI rfl ?_
            refine p_add rfl rfl ?_
            refine p_aI rfl ?_
            refine wp_nil ?_
            exact ⟨(wr (z_1.1 + 1), (z_1.2.set z_1.1.toNat (CoalDay.mk r81.Crosses r81.Engines 1))), (y_1.1, y_1.2), _, rfl, ⟨rfl, rfl, rfl, rfl, rfl, trivial⟩, H, S87⟩
          · replace H := condF c80 H
            refine c_exit ?_
            exact ⟨z_1.2, (y_1.1, y_1.2), _, rfl, ⟨rfl, rfl, rfl, rfl, trivial⟩, H, S79⟩
      · intro z_2 y_2 e59 w60 S61; obtain ⟨H, S61⟩ := S61
        unfold law_CoalEasier_j3 at H
        refine c_seq ?_
        refine reg ?_
        refine p_ixc ar25 rfl rfl (by decide) (by decide) ?_
        refine p_ld ty3 (S61.atX (i := 3) rfl) rfl rfl ?_
        refine p_fld fl29_3 rfl ?_
        refine p_ld ty26 (S61.atX (i := 4) rfl) rfl rfl ?_
        refine p_len rfl sc26 ?_
        obtain ⟨r62, h63, H⟩ := bindS H
        refine p_cv (B_Mod_ok h63) fu25 rfl S61 fun w64 S65 => ?_
        refine p_aI rfl ?_
        refine wp_nil ?_
        refine c_seq ?_
        refine reg ?_
        refine p_ldA ty29 sz29 (S65.atX (i := 2) rfl) rfl rfl ?_
        refine p_mI rfl ?_
        obtain ⟨r66, h67, H⟩ := bindS H
        refine p_cv (coal_Lasts_ok h67 (S65.atP (i := 0) rfl) (rd_nil (Nat.zero_le _)) (S65.atP (i := 2) rfl) (S65.atP (i := 3) rfl)) fu30 rfl S65 fun w68 S69 => ?_
        refine p_mT rfl ?_
        refine p_ext rfl rfl ?_
        refine p_ext rfl rfl ?_
        refine p_aI rfl ?_
        refine p_aI rfl ?_
        refine wp_nil ?_
        refine c_seq ?_
        refine reg ?_
        refine p_ldA ty29 sz29 (S69.atX (i := 1) rfl) rfl rfl ?_
        refine p_mI rfl ?_
        obtain ⟨r70, h71, H⟩ := bindS H
        refine p_cv (coal_Lasts_ok h71 (gr_rd eCoalDay_len (S69.atX (i := 0) rfl)) (rd_nil (Nat.zero_le _)) (S69.atP (i := 2) rfl) (S69.atP (i := 3) rfl)) fu30 rfl S69 fun w72 S73 => ?_
        refine p_mT rfl ?_
        refine p_ext rfl rfl ?_
        refine p_ext rfl rfl ?_
        refine p_aI rfl ?_
        refine p_aI rfl ?_
        refine wp_nil ?_
        refine c_seq ?_
        refine reg ?_
        refine p_ldA ty29 sz29 (S73.atX (i := 2) rfl) rfl rfl ?_
        refine p_mI rfl ?_
        obtain ⟨r74, h75, H⟩ := bindS H
        refine p_cv (coal_Heap_ok h75 (S73.atP (i := 0) rfl) (rd_nil (Nat.zero_le _)) (S73.atP (i := 3) rfl)) fu28 rfl S73 fun w76 S77 => ?_
        refine p_mT rfl ?_
        refine p_ext rfl rfl ?_
        refine p_ext rfl rfl ?_
        refine p_allA in23 S77 fun b78 w79 S80 => ?_
        refine p_stP (pre := []) (old := [I 0, I 0]) (post := []) (vs := [I r74.1.Low, I r74.1.High]) sz23 S80 (i := 0) rfl rfl rfl rfl (rfl : _ = AG [I r74.1.Low, I r74.1.High]) rfl rfl rfl rfl fun w81 S82 => ?_
        refine p_aI rfl ?_
        refine wp_nil ?_
        refine c_seq ?_
        refine reg ?_
        refine p_ldA ty29 sz29 (S82.atX (i := 2) rfl) rfl rfl ?_
        refine p_mI rfl ?_
        obtain ⟨r83, h84, H⟩ := bindS H
        refine p_cv (coal_Heap_ok h84 (gr_rd eCoalDay_len (S82.atX (i := 1) rfl)) (rd_nil (Nat.zero_le _)) (S82.atP (i := 3) rfl)) fu28 rfl S82 fun w85 S86 => ?_
        refine p_mT rfl ?_
        refine p_ext rfl rfl ?_
        refine p_ext rfl rfl ?_
        refine p_allA in23 S86 fun b87 w88 S89 => ?_
        refine p_stP (pre := []) (old := [I 0, I 0]) (post := []) (vs := [I r83.1.Low, I r83.1.High]) sz23 S89 (i := 0) rfl rfl rfl rfl (rfl : _ = AG [I r83.1.Low, I r83.1.High]) rfl rfl rfl rfl fun w90 S91 => ?_
        refine p_aI rfl ?_
        refine wp_nil ?_
        refine c_seq ?_
        refine reg ?_
        refine p_ldA ty29 sz29 (S91.atX (i := 4) rfl) rfl rfl ?_
        obtain ⟨r92, h93, H⟩ := bindS H
        refine p_cv (coal_Order_ok h93 (S91.atP (i := 0) rfl) (rd_nil (Nat.zero_le _)) (S91.atP (i := 3) rfl)) fu31 rfl S91 fun w94 S95 => ?_
        refine p_mT rfl ?_
        refine p_ext rfl rfl ?_
        refine p_ext rfl rfl ?_
        refine p_aI rfl ?_
        refine p_aI rfl ?_
        refine wp_nil ?_
        refine c_seq ?_
        refine reg ?_
        refine p_ldA ty29 sz29 (S95.atX (i := 3) rfl) rfl rfl ?_
        obtain ⟨r96, h97, H⟩ := bindS H
        refine p_cv (coal_Order_ok h97 (gr_rd eCoalDay_len (S95.atX (i := 2) rfl)) (rd_nil (Nat.zero_le _)) (S95.atP (i := 3) rfl)) fu31 rfl S95 fun w98 S99 => ?_
        refine p_mT rfl ?_
        refine p_ext rfl rfl ?_
        refine p_ext rfl rfl ?_
        refine p_aI rfl ?_
        refine p_aI rfl ?_
        refine wp_nil ?_
        refine c_seq ?_
        refine reg ?_
        refine p_mI rfl ?_
        refine p_cmp rfl rfl rfl ?_
        refine p_mB rfl ?_
        rcases Bool.eq_false_or_eq_true ((r66.2 == 0)) with c100 | c100
        · replace H := condT c100 H
          refine eB c100 ?_
          refine gT rfl rfl (p_mI rfl ?_)
          refine gT rfl rfl (p_mI rfl ?_)
          refine gT rfl rfl (p_cmp rfl rfl rfl ?_)
          refine p_pkT rfl (rfl : _ = B (r70.2 == r66.2)) ?_
          refine p_mB rfl ?_
          rcases Bool.eq_false_or_eq_true ((r70.2 == r66.2)) with c101 | c101
          · replace H := condT c101 H
            refine eB c101 ?_
            refine gT rfl rfl (p_mI rfl ?_)
            refine gT rfl rfl (p_mI rfl ?_)
            refine gT rfl rfl (p_cmp rfl rfl rfl ?_)
            refine p_pkT rfl (rfl : _ = B (r74.2 == r66.2)) ?_
            refine p_mB rfl ?_
            rcases Bool.eq_false_or_eq_true ((r74.2 == r66.2)) with c102 | c102
            · replace H := condT c102 H
              refine eB c102 ?_
              refine gT rfl rfl (p_mI rfl ?_)
              refine gT rfl rfl (p_mI rfl ?_)
              refine gT rfl rfl (p_cmp rfl rfl rfl ?_)
              refine p_pkT rfl (rfl : _ = B (r83.2 == r66.2)) ?_
              refine p_mB rfl ?_
              rcases Bool.eq_false_or_eq_true ((r83.2 == r66.2)) with c103 | c103
              · replace H := condT c103 H
                refine eB c103 ?_
                refine gT rfl rfl (p_mI rfl ?_)
                refine gT rfl rfl (p_mI rfl ?_)
                refine gT rfl rfl (p_cmp rfl rfl rfl ?_)
                refine p_pkT rfl (rfl : _ = B (r92.2 == r66.2)) ?_
                refine p_mB rfl ?_
                rcases Bool.eq_false_or_eq_true ((r92.2 == r66.2)) with c104 | c104
                · replace H := condT c104 H
                  refine eB c104 ?_
                  refine gT rfl rfl (p_mI rfl ?_)
                  refine gT rfl rfl (p_mI rfl ?_)
                  refine gT rfl rfl (p_cmp rfl rfl rfl ?_)
                  refine p_pkT rfl (rfl : _ = B (r96.2 == r66.2)) ?_
                  refine p_mB rfl ?_
                  rcases Bool.eq_false_or_eq_true ((r96.2 == r66.2)) with c105 | c105
                  · replace H := condT c105 H
                    refine eB c105 ?_
                    refine gT rfl rfl (p_mI rfl ?_)
                    refine gT rfl rfl (p_mI rfl ?_)
                    refine gT rfl rfl (p_cmp rfl rfl rfl ?_)
                    refine p_pkT rfl (rfl : _ = B (decide (r70.1 ≥ r66.1))) ?_
                    refine p_mB rfl ?_
                    rcases Bool.eq_false_or_eq_true (decide (r70.1 ≥ r66.1)) with c106 | c106
                    · replace H := condT c106 H
                      refine eB c106 ?_
                      refine gT rfl rfl (p_fld fl23_0 rfl ?_)
                      refine gT rfl rfl (p_ld ty3 (S99.atX (i := 0) rfl) rfl rfl ?_)
                      refine gT rfl rfl (p_fld fl23_0 rfl ?_)
                      refine gT rfl rfl (p_ld ty3 (S99.atX (i := 1) rfl) rfl rfl ?_)
                      refine gT rfl rfl (p_cmp rfl rfl rfl ?_)
                      refine p_pkT rfl (rfl : _ = B (decide (r83.1.Low ≥ r74.1.Low))) ?_
                      refine p_mB rfl ?_
                      rcases Bool.eq_false_or_eq_true (decide (r83.1.Low ≥ r74.1.Low)) with c107 | c107
                      · replace H := condT c107 H
                        refine eB c107 ?_
                        refine gT rfl rfl (p_fld fl23_1 rfl ?_)
                        refine gT rfl rfl (p_ld ty3 (S99.atX (i := 0) rfl) rfl rfl ?_)
                        refine gT rfl rfl (p_fld fl23_1 rfl ?_)
                        refine gT rfl rfl (p_ld ty3 (S99.atX (i := 1) rfl) rfl rfl ?_)
                        refine gT rfl rfl (p_cmp rfl rfl rfl ?_)
                        refine p_pkT rfl (rfl : _ = B (decide (r83.1.High ≥ r74.1.High))) ?_
                        refine p_mB rfl ?_
                        rcases Bool.eq_false_or_eq_true (decide (r83.1.High ≥ r74.1.High)) with c108 | c108
                        · replace H := condT c108 H
                          refine eB c108 ?_
                          refine gT rfl rfl (p_mI rfl ?_)
                          refine gT rfl rfl (p_mI rfl ?_)
                          refine gT rfl rfl (p_cmp rfl rfl rfl ?_)
                          refine p_pkT rfl (rfl : _ = B (decide (r96.1 ≤ r92.1))) ?_
                          refine p_mB rfl ?_
                          rcases Bool.eq_false_or_eq_true (decide (r96.1 ≤ r92.1)) with c109 | c109
                          · replace H := condT c109 H
                            refine eB c109 ?_
                            obtain ⟨r110, h111, H⟩ := bindS H
                            refine gT rfl rfl (p_cv (law_stoked_ok h111 (S99.atP (i := 2) rfl) (S99.atP (i := 3) rfl)) fu19 rfl S99 fun w112 S113 => ?_)
                            refine p_pkT rfl (rfl : _ = B r110) ?_
                            refine p_aB rfl ?_
                            refine wp_nil ?_
                            obtain rfl := Option.some.inj H
                            refine c_ret ?_; show bodyPostM (Fr none) 0 Tryd.prog Tryd.f13 _ .ret _ _
                            refine ret_of (res1 rfl (rvT (rfl : _ = B r110))) ?_
                            exact ⟨_, rfl, rfl, S113.keep⟩
                          · replace H := condF c109 H
                            refine eB c109 ?_
                            refine gF rfl rfl ?_
                            refine p_pkF rfl (rfl : _ = B false) ?_
                            refine p_aB rfl ?_
                            refine wp_nil ?_
                            obtain rfl := Option.some.inj H
                            refine c_ret ?_; show bodyPostM (Fr none) 0 Tryd.prog Tryd.f13 _ .ret _ _
                            refine ret_of (res1 rfl (rvT (rfl : _ = B false))) ?_
                            exact ⟨_, rfl, rfl, S99.keep⟩
                        · replace H := condF c108 H
                          refine eB c108 ?_
                          refine gF rfl rfl ?_
                          refine gF rfl rfl ?_
                          refine gF rfl rfl ?_
                          refine p_pkF rfl (rfl : _ = B false) ?_
                          refine p_mB rfl ?_
                          refine gF rfl rfl ?_
                          refine p_pkF rfl (rfl : _ = B false) ?_
                          refine p_aB rfl ?_
                          refine wp_nil ?_
                          obtain rfl := Option.some.inj H
                          refine c_ret ?_; show bodyPostM (Fr none) 0 Tryd.prog Tryd.f13 _ .ret _ _
                          refine ret_of (res1 rfl (rvT (rfl : _ = B false))) ?_
                          exact ⟨_, rfl, rfl, S99.keep⟩
                      · replace H := condF c107 H
                        refine eB c107 ?_
                        refine gF rfl rfl ?_
                        refine gF rfl rfl ?_
                        refine gF rfl rfl ?_
                        refine gF rfl rfl ?_
                        refine gF rfl rfl ?_
                        refine p_pkF rfl (rfl : _ = B false) ?_
                        refine p_mB rfl ?_
                        refine gF rfl rfl ?_
                        refine gF rfl rfl ?_
                        refine gF rfl rfl ?_
                        refine p_pkF rfl (rfl : _ = B false) ?_
                        refine p_mB rfl ?_
                        refine gF rfl rfl ?_
                        refine p_pkF rfl (rfl : _ = B false) ?_
                        refine p_aB rfl ?_
                        refine wp_nil ?_
                        obtain rfl := Option.some.inj H
                        refine c_ret ?_; show bodyPostM (Fr none) 0 Tryd.prog Tryd.f13 _ .ret _ _
                        refine ret_of (res1 rfl (rvT (rfl : _ = B false))) ?_
                        exact ⟨_, rfl, rfl, S99.keep⟩
                    · replace H := condF c106 H
                      refine eB c106 ?_
                      refine gF rfl rfl ?_
                      refine gF rfl rfl ?_
                      refine gF rfl rfl ?_
                      refine gF rfl rfl ?_
                      refine gF rfl rfl ?_
                      refine p_pkF rfl (rfl : _ = B false) ?_
                      refine p_mB rfl ?_
                      refine gF rfl rfl ?_
                      refine gF rfl rfl ?_
                      refine gF rfl rfl ?_
                      refine gF rfl rfl ?_
                      refine gF rfl rfl ?_
                      refine p_pkF rfl (rfl : _ = B false) ?_
                      refine p_mB rfl ?_
                      refine gF rfl rfl ?_
                      refine gF rfl rfl ?_
                      refine gF rfl rfl ?_
                      refine p_pkF rfl (rfl : _ = B false) ?_
                      refine p_mB rfl ?_
                      refine gF rfl rfl ?_
                      refine p_pkF rfl (rfl : _ = B false) ?_
                      refine p_aB rfl ?_
                      refine wp_nil ?_
                      obtain rfl := Option.some.inj H
                      refine c_ret ?_; show bodyPostM (Fr none) 0 Tryd.prog Tryd.f13 _ .ret _ _
                      refine ret_of (res1 rfl (rvT (rfl : _ = B false))) ?_
                      exact ⟨_, rfl, rfl, S99.keep⟩
                  · replace H := condF c105 H
                    refine eB c105 ?_
                    refine gF rfl rfl ?_
                    refine gF rfl rfl ?_
                    refine gF rfl rfl ?_
                    refine p_pkF rfl (rfl : _ = B false) ?_
                    refine p_mB rfl ?_
                    refine gF rfl rfl ?_
                    refine gF rfl rfl ?_
                    refine gF rfl rfl ?_
                    refine gF rfl rfl ?_
                    refine gF rfl rfl ?_
                    refine p_pkF rfl (rfl : _ = B false) ?_
                    refine p_mB rfl ?_
                    refine gF rfl rfl ?_
                    refine gF rfl rfl ?_
                    refine gF rfl rfl ?_
                    refine gF rfl rfl ?_
                    refine gF rfl rfl ?_
                    refine p_pkF rfl (rfl : _ = B false) ?_
                    refine p_mB rfl ?_
                    refine gF rfl rfl ?_
                    refine gF rfl rfl ?_
                    refine gF rfl rfl ?_
                    refine p_pkF rfl (rfl : _ = B false) ?_
                    refine p_mB rfl ?_
                    refine gF rfl rfl ?_
                    refine p_pkF rfl (rfl : _ = B false) ?_
                    refine p_aB rfl ?_
                    refine wp_nil ?_
                    obtain rfl := Option.some.inj H
                    refine c_ret ?_; show bodyPostM (Fr none) 0 Tryd.prog Tryd.f13 _ .ret _ _
                    refine ret_of (res1 rfl (rvT (rfl : _ = B false))) ?_
                    exact ⟨_, rfl, rfl, S99.keep⟩
                · replace H := condF c104 H
                  refine eB c104 ?_
                  refine gF rfl rfl ?_
                  refine gF rfl rfl ?_
                  refine gF rfl rfl ?_
                  refine p_pkF rfl (rfl : _ = B false) ?_
                  refine p_mB rfl ?_
                  refine gF rfl rfl ?_
                  refine gF rfl rfl ?_
                  refine gF rfl rfl ?_
                  refine p_pkF rfl (rfl : _ = B false) ?_
                  refine p_mB rfl ?_
                  refine gF rfl rfl ?_
                  refine gF rfl rfl ?_
                  refine gF rfl rfl ?_
                  refine gF rfl rfl ?_
                  refine gF rfl rfl ?_
                  refine p_pkF rfl (rfl : _ = B false) ?_
                  refine p_mB rfl ?_
                  refine gF rfl rfl ?_
                  refine gF rfl rfl ?_
                  refine gF rfl rfl ?_
                  refine gF rfl rfl ?_
                  refine gF rfl rfl ?_
                  refine p_pkF rfl (rfl : _ = B false) ?_
                  refine p_mB rfl ?_
                  refine gF rfl rfl ?_
                  refine gF rfl rfl ?_
                  refine gF rfl rfl ?_
                  refine p_pkF rfl (rfl : _ = B false) ?_
                  refine p_mB rfl ?_
                  refine gF rfl rfl ?_
                  refine p_pkF rfl (rfl : _ = B false) ?_
                  refine p_aB rfl ?_
                  refine wp_nil ?_
                  obtain rfl := Option.some.inj H
                  refine c_ret ?_; show bodyPostM (Fr none) 0 Tryd.prog Tryd.f13 _ .ret _ _
                  refine ret_of (res1 rfl (rvT (rfl : _ = B false))) ?_
                  exact ⟨_, rfl, rfl, S99.keep⟩
              · replace H := condF c103 H
                refine eB c103 ?_
                refine gF rfl rfl ?_
                refine gF rfl rfl ?_
                refine gF rfl rfl ?_
                refine p_pkF rfl (rfl : _ = B false) ?_
                refine p_mB rfl ?_
                refine gF rfl rfl ?_
                refine gF rfl rfl ?_
                refine gF rfl rfl ?_
                refine p_pkF rfl (rfl : _ = B false) ?_
                refine p_mB rfl ?_
                refine gF rfl rfl ?_
                refine gF rfl rfl ?_
                refine gF rfl rfl ?_
                refine p_pkF rfl (rfl : _ = B false) ?_
                refine p_mB rfl ?_
                refine gF rfl rfl ?_
                refine gF rfl rfl ?_
                refine gF rfl rfl ?_
                refine gF rfl rfl ?_
                refine gF rfl rfl ?_
                refine p_pkF rfl (rfl : _ = B false) ?_
                refine p_mB rfl ?_
                refine gF rfl rfl ?_
                refine gF rfl rfl ?_
                refine gF rfl rfl ?_
                refine gF rfl rfl ?_
                refine gF rfl rfl ?_
                refine p_pkF rfl (rfl : _ = B false) ?_
                refine p_mB rfl ?_
                refine gF rfl rfl ?_
                refine gF rfl rfl ?_
                refine gF rfl rfl ?_
                refine p_pkF rfl (rfl : _ = B false) ?_
                refine p_mB rfl ?_
                refine gF rfl rfl ?_
                refine p_pkF rfl (rfl : _ = B false) ?_
                refine p_aB rfl ?_
                refine wp_nil ?_
                obtain rfl := Option.some.inj H
                refine c_ret ?_; show bodyPostM (Fr none) 0 Tryd.prog Tryd.f13 _ .ret _ _
                refine ret_of (res1 rfl (rvT (rfl : _ = B false))) ?_
                exact ⟨_, rfl, rfl, S99.keep⟩
            · replace H := condF c102 H
              refine eB c102 ?_
              refine gF rfl rfl ?_
              refine gF rfl rfl ?_
              refine gF rfl rfl ?_
              refine p_pkF rfl (rfl : _ = B false) ?_
              refine p_mB rfl ?_
              refine gF rfl rfl ?_
              refine gF rfl rfl ?_
              refine gF rfl rfl ?_
              refine p_pkF rfl (rfl : _ = B false) ?_
              refine p_mB rfl ?_
              refine gF rfl rfl ?_
              refine gF rfl rfl ?_
              refine gF rfl rfl ?_
              refine p_pkF rfl (rfl : _ = B false) ?_
              refine p_mB rfl ?_
              refine gF rfl rfl ?_
              refine gF rfl rfl ?_
              refine gF rfl rfl ?_
              refine p_pkF rfl (rfl : _ = B false) ?_
              refine p_mB rfl ?_
              refine gF rfl rfl ?_
              refine gF rfl rfl ?_
              refine gF rfl rfl ?_
              refine gF rfl rfl ?_
              refine gF rfl rfl ?_
              refine p_pkF rfl (rfl : _ = B false) ?_
              refine p_mB rfl ?_
              refine gF rfl rfl ?_
              refine gF rfl rfl ?_
              refine gF rfl rfl ?_
              refine gF rfl rfl ?_
              refine gF rfl rfl ?_
              refine p_pkF rfl (rfl : _ = B false) ?_
              refine p_mB rfl ?_
              refine gF rfl rfl ?_
              refine gF rfl rfl ?_
              refine gF rfl rfl ?_
              refine p_pkF rfl (rfl : _ = B false) ?_
              refine p_mB rfl ?_
              refine gF rfl rfl ?_
              refine p_pkF rfl (rfl : _ = B false) ?_
              refine p_aB rfl ?_
              refine wp_nil ?_
              obtain rfl := Option.some.inj H
              refine c_ret ?_; show bodyPostM (Fr none) 0 Tryd.prog Tryd.f13 _ .ret _ _
              refine ret_of (res1 rfl (rvT (rfl : _ = B false))) ?_
              exact ⟨_, rfl, rfl, S99.keep⟩
          · replace H := condF c101 H
            refine eB c101 ?_
            refine gF rfl rfl ?_
            refine gF rfl rfl ?_
            refine gF rfl rfl ?_
            refine p_pkF rfl (rfl : _ = B false) ?_
            refine p_mB rfl ?_
            refine gF rfl rfl ?_
            refine gF rfl rfl ?_
            refine gF rfl rfl ?_
            refine p_pkF rfl (rfl : _ = B false) ?_
            refine p_mB rfl ?_
            refine gF rfl rfl ?_
            refine gF rfl rfl ?_
            refine gF rfl rfl ?_
            refine p_pkF rfl (rfl : _ = B false) ?_
            refine p_mB rfl ?_
            refine gF rfl rfl ?_
            refine gF rfl rfl ?_
            refine gF rfl rfl ?_
            refine p_pkF rfl (rfl : _ = B false) ?_
            refine p_mB rfl ?_
            refine gF rfl rfl ?_
            refine gF rfl rfl ?_
            refine gF rfl rfl ?_
            refine p_pkF rfl (rfl : _ = B false) ?_
            refine p_mB rfl ?_
            refine gF rfl rfl ?_
            refine gF rfl rfl ?_
            refine gF rfl rfl ?_
            refine gF rfl rfl ?_
            refine gF rfl rfl ?_
            refine p_pkF rfl (rfl : _ = B false) ?_
            refine p_mB rfl ?_
            refine gF rfl rfl ?_
            refine gF rfl rfl ?_
            refine gF rfl rfl ?_
            refine gF rfl rfl ?_
            refine gF rfl rfl ?_
            refine p_pkF rfl (rfl : _ = B false) ?_
            refine p_mB rfl ?_
            refine gF rfl rfl ?_
            refine gF rfl rfl ?_
            refine gF rfl rfl ?_
            refine p_pkF rfl (rfl : _ = B false) ?_
            refine p_mB rfl ?_
            refine gF rfl rfl ?_
            refine p_pkF rfl (rfl : _ = B false) ?_
            refine p_aB rfl ?_
            refine wp_nil ?_
            obtain rfl := Option.some.inj H
            refine c_ret ?_; show bodyPostM (Fr none) 0 Tryd.prog Tryd.f13 _ .ret _ _
            refine ret_of (res1 rfl (rvT (rfl : _ = B false))) ?_
            exact ⟨_, rfl, rfl, S99.keep⟩
        · replace H := condF c100 H
          refine eB c100 ?_
          refine gF rfl rfl ?_
          refine gF rfl rfl ?_
          refine gF rfl rfl ?_
          refine p_pkF rfl (rfl : _ = B false) ?_
          refine p_mB rfl ?_
          refine gF rfl rfl ?_
          refine gF rfl rfl ?_
          refine gF rfl rfl ?_
          refine p_pkF rfl (rfl : _ = B false) ?_
          refine p_mB rfl ?_
          refine gF rfl rfl ?_
          refine gF rfl rfl ?_
          refine gF rfl rfl ?_
          refine p_pkF rfl (rfl : _ = B false) ?_
          refine p_mB rfl ?_
          refine gF rfl rfl ?_
          refine gF rfl rfl ?_
          refine gF rfl rfl ?_
          refine p_pkF rfl (rfl : _ = B false) ?_
          refine p_mB rfl ?_
          refine gF rfl rfl ?_
          refine gF rfl rfl ?_
          refine gF rfl rfl ?_
          refine p_pkF rfl (rfl : _ = B false) ?_
          refine p_mB rfl ?_
          refine gF rfl rfl ?_
          refine gF rfl rfl ?_
          refine gF rfl rfl ?_
          refine p_pkF rfl (rfl : _ = B false) ?_
          refine p_mB rfl ?_
          refine gF rfl rfl ?_
          refine gF rfl rfl ?_
          refine gF rfl rfl ?_
          refine gF rfl rfl ?_
          refine gF rfl rfl ?_
          refine p_pkF rfl (rfl : _ = B false) ?_
          refine p_mB rfl ?_
          refine gF rfl rfl ?_
          refine gF rfl rfl ?_
          refine gF rfl rfl ?_
          refine gF rfl rfl ?_
          refine gF rfl rfl ?_
          refine p_pkF rfl (rfl : _ = B false) ?_
          refine p_mB rfl ?_
          refine gF rfl rfl ?_
          refine gF rfl rfl ?_
          refine gF rfl rfl ?_
          refine p_pkF rfl (rfl : _ = B false) ?_
          refine p_mB rfl ?_
          refine gF rfl rfl ?_
          refine p_pkF rfl (rfl : _ = B false) ?_
          refine p_aB rfl ?_
          refine wp_nil ?_
          obtain rfl := Option.some.inj H
          refine c_ret ?_; show bodyPostM (Fr none) 0 Tryd.prog Tryd.f13 _ .ret _ _
          refine ret_of (res1 rfl (rvT (rfl : _ = B false))) ?_
          exact ⟨_, rfl, rfl, S99.keep⟩
    · replace H := condF c52 H
      obtain ⟨h92, H⟩ := needS H
      refine p_app (enc := eCoalDay) sc26 in64 rfl eCoalDay_len eCoalDay_one (by decide) S50 (k := 0) rfl (S50.atP (i := 0) rfl).1 h92 (ne_of_some c52) rfl rfl fun A90 c91 w88 S89 => ?_
      refine p_fld fl29_3 rfl ?_
      refine p_stP (pre := [I a0.Heap.Low, I a0.Heap.High] ++ (sgE eSpan a0.Eats 2 ++ [I (if (if (aget a0.Extra 2) < (aget a0.Extra 1) then (aget a0.Extra 2) else (aget a0.Extra 1)) < (aget a0.Extra 0) then (if (aget a0.Extra 2) < (aget a0.Extra 1) then (aget a0.Extra 2) else (aget a0.Extra 1)) else (aget a0.Extra 0)), I (aget a0.Extra 1), I (aget a0.Extra 2)])) (old := [SL A1 a0.Days.length c2]) (post := [I a0.Collier.Low, I a0.Collier.High, I a0.Brings, SL none 0 0]) (vs := [SL A90 a0.Days.length c91]) sz26 S89 (i := 1) rfl rfl rfl rfl (rfl : _ = SL A90 a0.Days.length c91) rfl rfl rfl rfl fun w93 S94 => ?_
      refine wp_nil ?_
      refine c_join (α := (List CoalDay)) (β := (Option Addr) × Nat) (fun z_2 y_2 => [(2, P b9 0), (3, P b12 0), (5, P b29 0), (7, P b42 0)]) (fun z_2 y_2 w_ => law_CoalEasier_j6 a1 a0 z_2 = some r ∧ St w (fun _ => False) w_ [gr eCoalDay 3 64 y_2.1 y_2.2 z_2, bl b42 ([I a0.Heap.Low, I a0.Heap.High] ++ (sgE eSpan a0.Eats 2 ++ [I (if (if (aget a0.Extra 2) < (aget a0.Extra 1) then (aget a0.Extra 2) else (aget a0.Extra 1)) < (aget a0.Extra 0) then (if (aget a0.Extra 2) < (aget a0.Extra 1) then (aget a0.Extra 2) else (aget a0.Extra 1)) else (aget a0.Extra 0)), I (aget a0.Extra 1), I (aget a0.Extra 2), SL y_2.1 z_2.length y_2.2, I a0.Collier.Low, I a0.Collier.High, I a0.Brings, SL none 0 0])) 29, bl b29 ([I a0.Heap.Low, I a0.Heap.High] ++ (sgE eSpan a0.Eats 2 ++ [I (if (if (aget a0.Extra 2) < (aget a0.Extra 1) then (aget a0.Extra 2) else (aget a0.Extra 1)) < (aget a0.Extra 0) then (if (aget a0.Extra 2) < (aget a0.Extra 1) then (aget a0.Extra 2) else (aget a0.Extra 1)) else (aget a0.Extra 0)), I (aget a0.Extra 1), I (aget a0.Extra 2), SL A1 a0.Days.length c2, I a0.Collier.Low, I a0.Collier.High, I a0.Brings, SL none 0 0])) 29, bl b12 (sg a1 3) 25, bl b9 ([I a0.Heap.Low, I a0.Heap.High] ++ (sgE eSpan a0.Eats 2 ++ (sg a0.Extra 3 ++ [SL A1 a0.Days.length c2, I a0.Collier.Low, I a0.Collier.High, I a0.Brings, SL A4 a0.Dips.length c5]))) 29] [rd eCoalDay 3 A1 c2 a0.Days, rd eCoalDip 3 A4 c5 a0.Dips, bl 0 [Value.func (.func 128) #[] #[], Value.func (.func 129) #[] #[]] 110, bl 1 [I (-1), I (-1)] 123]) ?_ ?_
      · refine c_seq ?_
        refine reg ?_
        refine p_ixc ar25 rfl rfl (by decide) (by decide) ?_
        refine p_ld ty3 (S94.atX (i := 3) rfl) rfl rfl ?_
        obtain ⟨r95, h96, H⟩ := bindS H
        refine p_cv (B_Mod_ok h96) fu25 rfl S94 fun w97 S98 => ?_
        refine p_cmp rfl rfl rfl ?_
        refine wp_nil ?_
        refine c_cond rfl (fun c99 => ?_) (fun c99 => ?_)
        · replace H := condT c99 H
          obtain ⟨r100, h101, H⟩ := bindS H
          obtain ⟨r102, h103, H⟩ := bindS H
          refine reg_q mixed 13 (by kernel_rfl) ?_
          refine dS (fun _ k_ => p_fld fl29_3 rfl dn) ?_
          refine dS (fun _ k_ => p_ld ty26 (Asr.stays (S98.atX (i := 1) rfl) k_) rfl rfl dn) ?_
          refine dS (fun _ k_ => p_mI rfl dn) ?_
          refine dS (fun _ k_ => p_fld fl29_3 rfl dn) ?_
          refine dS (fun _ k_ => p_ld ty26 (Asr.stays (S98.atX (i := 4) rfl) k_) rfl rfl dn) ?_
          refine dS (fun _ k_ => p_mI rfl dn) ?_
          refine dS (fun _ k_ => p_ixE sc26 h101 (Asr.stays (S98.atP (i := 0) rfl) k_).1 rfl rfl rfl dn) ?_
          refine dS (fun _ k_ => p_fldE fl64_0 (sl_here (Asr.stays (S98.atP (i := 0) rfl) k_).1 h101) rfl dn) ?_
          refine dS (fun _ k_ => p_ldE ty3 h101 (Asr.stays (S98.atP (i := 0) rfl) k_).1 rfl rfl dn) ?_
          refine dS (fun _ k_ => p_sub rfl rfl dn) ?_
          refine dS (fun _ k_ => p_max rfl rfl dn) ?_
          refine dS (fun _ k_ => p_ixE sc26 h103 (gr_sl eCoalDay_len (Asr.stays (S98.atX (i := 0) rfl) k_)) rfl rfl rfl dn) ?_
          refine dS (fun _ k_ => p_fldE fl64_0 (sl_here (gr_sl eCoalDay_len (Asr.stays (S98.atX (i := 0) rfl) k_)) h103) rfl dn) ?_
          intro w104 k105; have S106 := S98.call k105
          refine p_stE (x' := (CoalDay.mk (if (wr (r100.Crosses - 1)) > 0 then (wr (r100.Crosses - 1)) else 0) r102.Engines r102.Winds)) (a := []) (old := [I r102.Crosses]) (b := [I r102.Engines, I r102.Winds]) (vs := [I (if (wr (r100.Crosses - 1)) > 0 then (wr (r100.Crosses - 1)) else 0)]) sz3 eCoalDay_len eCoalDay_one S106 (i := 0) rfl h103 rfl (rfl : _ = I (if (wr (r100.Crosses - 1)) > 0 then (wr (r100.Crosses - 1)) else 0)) rfl rfl rfl rfl rfl rfl fun l109 w110 h107 h108 S111 => ?_
          obtain rfl : l109 = (a0.Days.set r24.toNat (CoalDay.mk (if (wr (r100.Crosses - 1)) > 0 then (wr (r100.Crosses - 1)) else 0) r102.Engines r102.Winds)) := h107
          have h112 : SL A90 a0.Days.length c91 = SL A90 (a0.Days.set r24.toNat (CoalDay.mk (if (wr (r100.Crosses - 1)) > 0 then (wr (r100.Crosses - 1)) else 0) r102.Engines r102.Winds)).length c91 := congrArg (fun n_ => SL A90 n_ c91) h108.symm
          try rw [h112]
          try rw [h112] at S111
          refine wp_nil ?_
          exact ⟨(a0.Days.set r24.toNat (CoalDay.mk (if (wr (r100.Crosses - 1)) > 0 then (wr (r100.Crosses - 1)) else 0) r102.Engines r102.Winds)), (A90, c91), _, rfl, ⟨rfl, rfl, rfl, rfl, trivial⟩, H, S111⟩
        · replace H := condF c99 H
          refine c_seq ?_
          refine reg ?_
          refine p_aI rfl ?_
          refine wp_nil ?_
          refine c_block ?_
          refine c_lop (α := Int × (List CoalDay)) (β := (Option Addr) × Nat) (law_CoalEasier_l7 a1 a0) (fun z_1 y_1 => [(2, P b9 0), (3, P b12 0), (5, P b29 0), (7, P b42 0), (8, I z_1.1)]) (fun z_1 y_1 w_ => St w (fun _ => False) w_ [gr eCoalDay 3 64 y_1.1 y_1.2 z_1.2, bl b42 ([I a0.Heap.Low, I a0.Heap.High] ++ (sgE eSpan a0.Eats 2 ++ [I (if (if (aget a0.Extra 2) < (aget a0.Extra 1) then (aget a0.Extra 2) else (aget a0.Extra 1)) < (aget a0.Extra 0) then (if (aget a0.Extra 2) < (aget a0.Extra 1) then (aget a0.Extra 2) else (aget a0.Extra 1)) else (aget a0.Extra 0)), I (aget a0.Extra 1), I (aget a0.Extra 2), SL y_1.1 z_1.2.length y_1.2, I a0.Collier.Low, I a0.Collier.High, I a0.Brings, SL none 0 0])) 29, bl b29 ([I a0.Heap.Low, I a0.Heap.High] ++ (sgE eSpan a0.Eats 2 ++ [I (if (if (aget a0.Extra 2) < (aget a0.Extra 1) then (aget a0.Extra 2) else (aget a0.Extra 1)) < (aget a0.Extra 0) then (if (aget a0.Extra 2) < (aget a0.Extra 1) then (aget a0.Extra 2) else (aget a0.Extra 1)) else (aget a0.Extra 0)), I (aget a0.Extra 1), I (aget a0.Extra 2), SL A1 a0.Days.length c2, I a0.Collier.Low, I a0.Collier.High, I a0.Brings, SL none 0 0])) 29, bl b12 (sg a1 3) 25, bl b9 ([I a0.Heap.Low, I a0.Heap.High] ++ (sgE eSpan a0.Eats 2 ++ (sg a0.Extra 3 ++ [SL A1 a0.Days.length c2, I a0.Collier.Low, I a0.Collier.High, I a0.Brings, SL A4 a0.Dips.length c5]))) 29] [rd eCoalDay 3 A1 c2 a0.Days, rd eCoalDip 3 A4 c5 a0.Dips, bl 0 [Value.func (.func 128) #[] #[], Value.func (.func 129) #[] #[]] 110, bl 1 [I (-1), I (-1)] 123]) (0, a0.Days) (A90, c91) H ⟨rfl, rfl, rfl, rfl, rfl, trivial⟩ S98 ?_
          intro m113 z_1 y_1 e114 w115 H S116
          unfold law_CoalEasier_l7 at H
          refine c_seq ?_
          refine c_seq ?_
          refine reg ?_
          refine p_mI rfl ?_
          refine p_fld fl29_3 rfl ?_
          refine p_ld ty26 (S116.atX (i := 1) rfl) rfl rfl ?_
          refine p_len rfl sc26 ?_
          refine p_cmp rfl rfl rfl ?_
          refine wp_nil ?_
          refine c_cond rfl (fun c117 => ?_) (fun c117 => ?_)
          · replace H := condT c117 H
            refine c_skip ?_
            refine c_seq ?_
            refine c_block ?_
            refine reg ?_
            refine p_fld fl29_3 rfl ?_
            refine p_ld ty26 (S116.atX (i := 1) rfl) rfl rfl ?_
            refine p_mI rfl ?_
            obtain ⟨r118, h119, H⟩ := bindS H
            refine p_ixE sc26 h119 (gr_sl eCoalDay_len (S116.atX (i := 0) rfl)) rfl rfl rfl ?_
            refine p_fldE fl64_2 (sl_here (gr_sl eCoalDay_len (S116.atX (i := 0) rfl)) h119) rfl ?_
            refine p_stE (x' := (CoalDay.mk r118.Crosses r118.Engines 1)) (a := [I r118.Crosses, I r118.Engines]) (old := [I r118.Winds]) (b := []) (vs := [I 1]) sz3 eCoalDay_len eCoalDay_one S116 (i := 0) rfl h119 rfl (rfl : _ = I 1) rfl rfl rfl rfl rfl rfl fun l122 w123 h120 h121 S124 => ?_
            obtain rfl : l122 = (z_1.2.set z_1.1.toNat (CoalDay.mk r118.Crosses r118.Engines 1)) := h120
            try rw [← h121]
            try rw [← h121] at S124
            refine wp_nil ?_
            refine reg ?_
            refine p_mI rfl ?_
            refine p_add rfl rfl ?_
            refine p_aI rfl ?_
            refine wp_nil ?_
            exact ⟨(wr (z_1.1 + 1), (z_1.2.set z_1.1.toNat (CoalDay.mk r118.Crosses r118.Engines 1))), (y_1.1, y_1.2), _, rfl, ⟨rfl, rfl, rfl, rfl, rfl, trivial⟩, H, S124⟩
          · replace H := condF c117 H
            refine c_exit ?_
            exact ⟨z_1.2, (y_1.1, y_1.2), _, rfl, ⟨rfl, rfl, rfl, rfl, trivial⟩, H, S116⟩
      · intro z_2 y_2 e95 w96 S97; obtain ⟨H, S97⟩ := S97
        unfold law_CoalEasier_j6 at H
        refine c_seq ?_
        refine reg ?_
        refine p_ixc ar25 rfl rfl (by decide) (by decide) ?_
        refine p_ld ty3 (S97.atX (i := 3) rfl) rfl rfl ?_
        refine p_fld fl29_3 rfl ?_
        refine p_ld ty26 (S97.atX (i := 4) rfl) rfl rfl ?_
        refine p_len rfl sc26 ?_
        obtain ⟨r98, h99, H⟩ := bindS H
        refine p_cv (B_Mod_ok h99) fu25 rfl S97 fun w100 S101 => ?_
        refine p_aI rfl ?_
        refine wp_nil ?_
        refine c_seq ?_
        refine reg ?_
        refine p_ldA ty29 sz29 (S101.atX (i := 2) rfl) rfl rfl ?_
        refine p_mI rfl ?_
        obtain ⟨r102, h103, H⟩ := bindS H
        refine p_cv (coal_Lasts_ok h103 (S101.atP (i := 0) rfl) (rd_nil (Nat.zero_le _)) (S101.atP (i := 2) rfl) (S101.atP (i := 3) rfl)) fu30 rfl S101 fun w104 S105 => ?_
        refine p_mT rfl ?_
        refine p_ext rfl rfl ?_
        refine p_ext rfl rfl ?_
        refine p_aI rfl ?_
        refine p_aI rfl ?_
        refine wp_nil ?_
        refine c_seq ?_
        refine reg ?_
        refine p_ldA ty29 sz29 (S105.atX (i := 1) rfl) rfl rfl ?_
        refine p_mI rfl ?_
        obtain ⟨r106, h107, H⟩ := bindS H
        refine p_cv (coal_Lasts_ok h107 (gr_rd eCoalDay_len (S105.atX (i := 0) rfl)) (rd_nil (Nat.zero_le _)) (S105.atP (i := 2) rfl) (S105.atP (i := 3) rfl)) fu30 rfl S105 fun w108 S109 => ?_
        refine p_mT rfl ?_
        refine p_ext rfl rfl ?_
        refine p_ext rfl rfl ?_
        refine p_aI rfl ?_
        refine p_aI rfl ?_
        refine wp_nil ?_
        refine c_seq ?_
        refine reg ?_
        refine p_ldA ty29 sz29 (S109.atX (i := 2) rfl) rfl rfl ?_
        refine p_mI rfl ?_
        obtain ⟨r110, h111, H⟩ := bindS H
        refine p_cv (coal_Heap_ok h111 (S109.atP (i := 0) rfl) (rd_nil (Nat.zero_le _)) (S109.atP (i := 3) rfl)) fu28 rfl S109 fun w112 S113 => ?_
        refine p_mT rfl ?_
        refine p_ext rfl rfl ?_
        refine p_ext rfl rfl ?_
        refine p_allA in23 S113 fun b114 w115 S116 => ?_
        refine p_stP (pre := []) (old := [I 0, I 0]) (post := []) (vs := [I r110.1.Low, I r110.1.High]) sz23 S116 (i := 0) rfl rfl rfl rfl (rfl : _ = AG [I r110.1.Low, I r110.1.High]) rfl rfl rfl rfl fun w117 S118 => ?_
        refine p_aI rfl ?_
        refine wp_nil ?_
        refine c_seq ?_
        refine reg ?_
        refine p_ldA ty29 sz29 (S118.atX (i := 2) rfl) rfl rfl ?_
        refine p_mI rfl ?_
        obtain ⟨r119, h120, H⟩ := bindS H
        refine p_cv (coal_Heap_ok h120 (gr_rd eCoalDay_len (S118.atX (i := 1) rfl)) (rd_nil (Nat.zero_le _)) (S118.atP (i := 3) rfl)) fu28 rfl S118 fun w121 S122 => ?_
        refine p_mT rfl ?_
        refine p_ext rfl rfl ?_
        refine p_ext rfl rfl ?_
        refine p_allA in23 S122 fun b123 w124 S125 => ?_
        refine p_stP (pre := []) (old := [I 0, I 0]) (post := []) (vs := [I r119.1.Low, I r119.1.High]) sz23 S125 (i := 0) rfl rfl rfl rfl (rfl : _ = AG [I r119.1.Low, I r119.1.High]) rfl rfl rfl rfl fun w126 S127 => ?_
        refine p_aI rfl ?_
        refine wp_nil ?_
        refine c_seq ?_
        refine reg ?_
        refine p_ldA ty29 sz29 (S127.atX (i := 4) rfl) rfl rfl ?_
        obtain ⟨r128, h129, H⟩ := bindS H
        refine p_cv (coal_Order_ok h129 (S127.atP (i := 0) rfl) (rd_nil (Nat.zero_le _)) (S127.atP (i := 3) rfl)) fu31 rfl S127 fun w130 S131 => ?_
        refine p_mT rfl ?_
        refine p_ext rfl rfl ?_
        refine p_ext rfl rfl ?_
        refine p_aI rfl ?_
        refine p_aI rfl ?_
        refine wp_nil ?_
        refine c_seq ?_
        refine reg ?_
        refine p_ldA ty29 sz29 (S131.atX (i := 3) rfl) rfl rfl ?_
        obtain ⟨r132, h133, H⟩ := bindS H
        refine p_cv (coal_Order_ok h133 (gr_rd eCoalDay_len (S131.atX (i := 2) rfl)) (rd_nil (Nat.zero_le _)) (S131.atP (i := 3) rfl)) fu31 rfl S131 fun w134 S135 => ?_
        refine p_mT rfl ?_
        refine p_ext rfl rfl ?_
        refine p_ext rfl rfl ?_
        refine p_aI rfl ?_
        refine p_aI rfl ?_
        refine wp_nil ?_
        refine c_seq ?_
        refine reg ?_
        refine p_mI rfl ?_
        refine p_cmp rfl rfl rfl ?_
        refine p_mB rfl ?_
        rcases Bool.eq_false_or_eq_true ((r102.2 == 0)) with c136 | c136
        · replace H := condT c136 H
          refine eB c136 ?_
          refine gT rfl rfl (p_mI rfl ?_)
          refine gT rfl rfl (p_mI rfl ?_)
          refine gT rfl rfl (p_cmp rfl rfl rfl ?_)
          refine p_pkT rfl (rfl : _ = B (r106.2 == r102.2)) ?_
          refine p_mB rfl ?_
          rcases Bool.eq_false_or_eq_true ((r106.2 == r102.2)) with c137 | c137
          · replace H := condT c137 H
            refine eB c137 ?_
            refine gT rfl rfl (p_mI rfl ?_)
            refine gT rfl rfl (p_mI rfl ?_)
            refine gT rfl rfl (p_cmp rfl rfl rfl ?_)
            refine p_pkT rfl (rfl : _ = B (r110.2 == r102.2)) ?_
            refine p_mB rfl ?_
            rcases Bool.eq_false_or_eq_true ((r110.2 == r102.2)) with c138 | c138
            · replace H := condT c138 H
              refine eB c138 ?_
              refine gT rfl rfl (p_mI rfl ?_)
              refine gT rfl rfl (p_mI rfl ?_)
              refine gT rfl rfl (p_cmp rfl rfl rfl ?_)
              refine p_pkT rfl (rfl : _ = B (r119.2 == r102.2)) ?_
              refine p_mB rfl ?_
              rcases Bool.eq_false_or_eq_true ((r119.2 == r102.2)) with c139 | c139
              · replace H := condT c139 H
                refine eB c139 ?_
                refine gT rfl rfl (p_mI rfl ?_)
                refine gT rfl rfl (p_mI rfl ?_)
                refine gT rfl rfl (p_cmp rfl rfl rfl ?_)
                refine p_pkT rfl (rfl : _ = B (r128.2 == r102.2)) ?_
                refine p_mB rfl ?_
                rcases Bool.eq_false_or_eq_true ((r128.2 == r102.2)) with c140 | c140
                · replace H := condT c140 H
                  refine eB c140 ?_
                  refine gT rfl rfl (p_mI rfl ?_)
                  refine gT rfl rfl (p_mI rfl ?_)
                  refine gT rfl rfl (p_cmp rfl rfl rfl ?_)
                  refine p_pkT rfl (rfl : _ = B (r132.2 == r102.2)) ?_
                  refine p_mB rfl ?_
                  rcases Bool.eq_false_or_eq_true ((r132.2 == r102.2)) with c141 | c141
                  · replace H := condT c141 H
                    refine eB c141 ?_
                    refine gT rfl rfl (p_mI rfl ?_)
                    refine gT rfl rfl (p_mI rfl ?_)
                    refine gT rfl rfl (p_cmp rfl rfl rfl ?_)
                    refine p_pkT rfl (rfl : _ = B (decide (r106.1 ≥ r102.1))) ?_
                    refine p_mB rfl ?_
                    rcases Bool.eq_false_or_eq_true (decide (r106.1 ≥ r102.1)) with c142 | c142
                    · replace H := condT c142 H
                      refine eB c142 ?_
                      refine gT rfl rfl (p_fld fl23_0 rfl ?_)
                      refine gT rfl rfl (p_ld ty3 (S135.atX (i := 0) rfl) rfl rfl ?_)
                      refine gT rfl rfl (p_fld fl23_0 rfl ?_)
                      refine gT rfl rfl (p_ld ty3 (S135.atX (i := 1) rfl) rfl rfl ?_)
                      refine gT rfl rfl (p_cmp rfl rfl rfl ?_)
                      refine p_pkT rfl (rfl : _ = B (decide (r119.1.Low ≥ r110.1.Low))) ?_
                      refine p_mB rfl ?_
                      rcases Bool.eq_false_or_eq_true (decide (r119.1.Low ≥ r110.1.Low)) with c143 | c143
                      · replace H := condT c143 H
                        refine eB c143 ?_
                        refine gT rfl rfl (p_fld fl23_1 rfl ?_)
                        refine gT rfl rfl (p_ld ty3 (S135.atX (i := 0) rfl) rfl rfl ?_)
                        refine gT rfl rfl (p_fld fl23_1 rfl ?_)
                        refine gT rfl rfl (p_ld ty3 (S135.atX (i := 1) rfl) rfl rfl ?_)
                        refine gT rfl rfl (p_cmp rfl rfl rfl ?_)
                        refine p_pkT rfl (rfl : _ = B (decide (r119.1.High ≥ r110.1.High))) ?_
                        refine p_mB rfl ?_
                        rcases Bool.eq_false_or_eq_true (decide (r119.1.High ≥ r110.1.High)) with c144 | c144
                        · replace H := condT c144 H
                          refine eB c144 ?_
                          refine gT rfl rfl (p_mI rfl ?_)
                          refine gT rfl rfl (p_mI rfl ?_)
                          refine gT rfl rfl (p_cmp rfl rfl rfl ?_)
                          refine p_pkT rfl (rfl : _ = B (decide (r132.1 ≤ r128.1))) ?_
                          refine p_mB rfl ?_
                          rcases Bool.eq_false_or_eq_true (decide (r132.1 ≤ r128.1)) with c145 | c145
                          · replace H := condT c145 H
                            refine eB c145 ?_
                            obtain ⟨r146, h147, H⟩ := bindS H
                            refine gT rfl rfl (p_cv (law_stoked_ok h147 (S135.atP (i := 2) rfl) (S135.atP (i := 3) rfl)) fu19 rfl S135 fun w148 S149 => ?_)
                            refine p_pkT rfl (rfl : _ = B r146) ?_
                            refine p_aB rfl ?_
                            refine wp_nil ?_
                            obtain rfl := Option.some.inj H
                            refine c_ret ?_; show bodyPostM (Fr none) 0 Tryd.prog Tryd.f13 _ .ret _ _
                            refine ret_of (res1 rfl (rvT (rfl : _ = B r146))) ?_
                            exact ⟨_, rfl, rfl, S149.keep⟩
                          · replace H := condF c145 H
                            refine eB c145 ?_
                            refine gF rfl rfl ?_
                            refine p_pkF rfl (rfl : _ = B false) ?_
                            refine p_aB rfl ?_
                            refine wp_nil ?_
                            obtain rfl := Option.some.inj H
                            refine c_ret ?_; show bodyPostM (Fr none) 0 Tryd.prog Tryd.f13 _ .ret _ _
                            refine ret_of (res1 rfl (rvT (rfl : _ = B false))) ?_
                            exact ⟨_, rfl, rfl, S135.keep⟩
                        · replace H := condF c144 H
                          refine eB c144 ?_
                          refine gF rfl rfl ?_
                          refine gF rfl rfl ?_
                          refine gF rfl rfl ?_
                          refine p_pkF rfl (rfl : _ = B false) ?_
                          refine p_mB rfl ?_
                          refine gF rfl rfl ?_
                          refine p_pkF rfl (rfl : _ = B false) ?_
                          refine p_aB rfl ?_
                          refine wp_nil ?_
                          obtain rfl := Option.some.inj H
                          refine c_ret ?_; show bodyPostM (Fr none) 0 Tryd.prog Tryd.f13 _ .ret _ _
                          refine ret_of (res1 rfl (rvT (rfl : _ = B false))) ?_
                          exact ⟨_, rfl, rfl, S135.keep⟩
                      · replace H := condF c143 H
                        refine eB c143 ?_
                        refine gF rfl rfl ?_
                        refine gF rfl rfl ?_
                        refine gF rfl rfl ?_
                        refine gF rfl rfl ?_
                        refine gF rfl rfl ?_
                        refine p_pkF rfl (rfl : _ = B false) ?_
                        refine p_mB rfl ?_
                        refine gF rfl rfl ?_
                        refine gF rfl rfl ?_
                        refine gF rfl rfl ?_
                        refine p_pkF rfl (rfl : _ = B false) ?_
                        refine p_mB rfl ?_
                        refine gF rfl rfl ?_
                        refine p_pkF rfl (rfl : _ = B false) ?_
                        refine p_aB rfl ?_
                        refine wp_nil ?_
                        obtain rfl := Option.some.inj H
                        refine c_ret ?_; show bodyPostM (Fr none) 0 Tryd.prog Tryd.f13 _ .ret _ _
                        refine ret_of (res1 rfl (rvT (rfl : _ = B false))) ?_
                        exact ⟨_, rfl, rfl, S135.keep⟩
                    · replace H := condF c142 H
                      refine eB c142 ?_
                      refine gF rfl rfl ?_
                      refine gF rfl rfl ?_
                      refine gF rfl rfl ?_
                      refine gF rfl rfl ?_
                      refine gF rfl rfl ?_
                      refine p_pkF rfl (rfl : _ = B false) ?_
                      refine p_mB rfl ?_
                      refine gF rfl rfl ?_
                      refine gF rfl rfl ?_
                      refine gF rfl rfl ?_
                      refine gF rfl rfl ?_
                      refine gF rfl rfl ?_
                      refine p_pkF rfl (rfl : _ = B false) ?_
                      refine p_mB rfl ?_
                      refine gF rfl rfl ?_
                      refine gF rfl rfl ?_
                      refine gF rfl rfl ?_
                      refine p_pkF rfl (rfl : _ = B false) ?_
                      refine p_mB rfl ?_
                      refine gF rfl rfl ?_
                      refine p_pkF rfl (rfl : _ = B false) ?_
                      refine p_aB rfl ?_
                      refine wp_nil ?_
                      obtain rfl := Option.some.inj H
                      refine c_ret ?_; show bodyPostM (Fr none) 0 Tryd.prog Tryd.f13 _ .ret _ _
                      refine ret_of (res1 rfl (rvT (rfl : _ = B false))) ?_
                      exact ⟨_, rfl, rfl, S135.keep⟩
                  · replace H := condF c141 H
                    refine eB c141 ?_
                    refine gF rfl rfl ?_
                    refine gF rfl rfl ?_
                    refine gF rfl rfl ?_
                    refine p_pkF rfl (rfl : _ = B false) ?_
                    refine p_mB rfl ?_
                    refine gF rfl rfl ?_
                    refine gF rfl rfl ?_
                    refine gF rfl rfl ?_
                    refine gF rfl rfl ?_
                    refine gF rfl rfl ?_
                    refine p_pkF rfl (rfl : _ = B false) ?_
                    refine p_mB rfl ?_
                    refine gF rfl rfl ?_
                    refine gF rfl rfl ?_
                    refine gF rfl rfl ?_
                    refine gF rfl rfl ?_
                    refine gF rfl rfl ?_
                    refine p_pkF rfl (rfl : _ = B false) ?_
                    refine p_mB rfl ?_
                    refine gF rfl rfl ?_
                    refine gF rfl rfl ?_
                    refine gF rfl rfl ?_
                    refine p_pkF rfl (rfl : _ = B false) ?_
                    refine p_mB rfl ?_
                    refine gF rfl rfl ?_
                    refine p_pkF rfl (rfl : _ = B false) ?_
                    refine p_aB rfl ?_
                    refine wp_nil ?_
                    obtain rfl := Option.some.inj H
                    refine c_ret ?_; show bodyPostM (Fr none) 0 Tryd.prog Tryd.f13 _ .ret _ _
                    refine ret_of (res1 rfl (rvT (rfl : _ = B false))) ?_
                    exact ⟨_, rfl, rfl, S135.keep⟩
                · replace H := condF c140 H
                  refine eB c140 ?_
                  refine gF rfl rfl ?_
                  refine gF rfl rfl ?_
                  refine gF rfl rfl ?_
                  refine p_pkF rfl (rfl : _ = B false) ?_
                  refine p_mB rfl ?_
                  refine gF rfl rfl ?_
                  refine gF rfl rfl ?_
                  refine gF rfl rfl ?_
                  refine p_pkF rfl (rfl : _ = B false) ?_
                  refine p_mB rfl ?_
                  refine gF rfl rfl ?_
                  refine gF rfl rfl ?_
                  refine gF rfl rfl ?_
                  refine gF rfl rfl ?_
                  refine gF rfl rfl ?_
                  refine p_pkF rfl (rfl : _ = B false) ?_
                  refine p_mB rfl ?_
                  refine gF rfl rfl ?_
                  refine gF rfl rfl ?_
                  refine gF rfl rfl ?_
                  refine gF rfl rfl ?_
                  refine gF rfl rfl ?_
                  refine p_pkF rfl (rfl : _ = B false) ?_
                  refine p_mB rfl ?_
                  refine gF rfl rfl ?_
                  refine gF rfl rfl ?_
                  refine gF rfl rfl ?_
                  refine p_pkF rfl (rfl : _ = B false) ?_
                  refine p_mB rfl ?_
                  refine gF rfl rfl ?_
                  refine p_pkF rfl (rfl : _ = B false) ?_
                  refine p_aB rfl ?_
                  refine wp_nil ?_
                  obtain rfl := Option.some.inj H
                  refine c_ret ?_; show bodyPostM (Fr none) 0 Tryd.prog Tryd.f13 _ .ret _ _
                  refine ret_of (res1 rfl (rvT (rfl : _ = B false))) ?_
                  exact ⟨_, rfl, rfl, S135.keep⟩
              · replace H := condF c139 H
                refine eB c139 ?_
                refine gF rfl rfl ?_
                refine gF rfl rfl ?_
                refine gF rfl rfl ?_
                refine p_pkF rfl (rfl : _ = B false) ?_
                refine p_mB rfl ?_
                refine gF rfl rfl ?_
                refine gF rfl rfl ?_
                refine gF rfl rfl ?_
                refine p_pkF rfl (rfl : _ = B false) ?_
                refine p_mB rfl ?_
                refine gF rfl rfl ?_
                refine gF rfl rfl ?_
                refine gF rfl rfl ?_
                refine p_pkF rfl (rfl : _ = B false) ?_
                refine p_mB rfl ?_
                refine gF rfl rfl ?_
                refine gF rfl rfl ?_
                refine gF rfl rfl ?_
                refine gF rfl rfl ?_
                refine gF rfl rfl ?_
                refine p_pkF rfl (rfl : _ = B false) ?_
                refine p_mB rfl ?_
                refine gF rfl rfl ?_
                refine gF rfl rfl ?_
                refine gF rfl rfl ?_
                refine gF rfl rfl ?_
                refine gF rfl rfl ?_
                refine p_pkF rfl (rfl : _ = B false) ?_
                refine p_mB rfl ?_
                refine gF rfl rfl ?_
                refine gF rfl rfl ?_
                refine gF rfl rfl ?_
                refine p_pkF rfl (rfl : _ = B false) ?_
                refine p_mB rfl ?_
                refine gF rfl rfl ?_
                refine p_pkF rfl (rfl : _ = B false) ?_
                refine p_aB rfl ?_
                refine wp_nil ?_
                obtain rfl := Option.some.inj H
                refine c_ret ?_; show bodyPostM (Fr none) 0 Tryd.prog Tryd.f13 _ .ret _ _
                refine ret_of (res1 rfl (rvT (rfl : _ = B false))) ?_
                exact ⟨_, rfl, rfl, S135.keep⟩
            · replace H := condF c138 H
              refine eB c138 ?_
              refine gF rfl rfl ?_
              refine gF rfl rfl ?_
              refine gF rfl rfl ?_
              refine p_pkF rfl (rfl : _ = B false) ?_
              refine p_mB rfl ?_
              refine gF rfl rfl ?_
              refine gF rfl rfl ?_
              refine gF rfl rfl ?_
              refine p_pkF rfl (rfl : _ = B false) ?_
              refine p_mB rfl ?_
              refine gF rfl rfl ?_
              refine gF rfl rfl ?_
              refine gF rfl rfl ?_
              refine p_pkF rfl (rfl : _ = B false) ?_
              refine p_mB rfl ?_
              refine gF rfl rfl ?_
              refine gF rfl rfl ?_
              refine gF rfl rfl ?_
              refine p_pkF rfl (rfl : _ = B false) ?_
              refine p_mB rfl ?_
              refine gF rfl rfl ?_
              refine gF rfl rfl ?_
              refine gF rfl rfl ?_
              refine gF rfl rfl ?_
              refine gF rfl rfl ?_
              refine p_pkF rfl (rfl : _ = B false) ?_
              refine p_mB rfl ?_
              refine gF rfl rfl ?_
              refine gF rfl rfl ?_
              refine gF rfl rfl ?_
              refine gF rfl rfl ?_
              refine gF rfl rfl ?_
              refine p_pkF rfl (rfl : _ = B false) ?_
              refine p_mB rfl ?_
              refine gF rfl rfl ?_
              refine gF rfl rfl ?_
              refine gF rfl rfl ?_
              refine p_pkF rfl (rfl : _ = B false) ?_
              refine p_mB rfl ?_
              refine gF rfl rfl ?_
              refine p_pkF rfl (rfl : _ = B false) ?_
              refine p_aB rfl ?_
              refine wp_nil ?_
              obtain rfl := Option.some.inj H
              refine c_ret ?_; show bodyPostM (Fr none) 0 Tryd.prog Tryd.f13 _ .ret _ _
              refine ret_of (res1 rfl (rvT (rfl : _ = B false))) ?_
              exact ⟨_, rfl, rfl, S135.keep⟩
          · replace H := condF c137 H
            refine eB c137 ?_
            refine gF rfl rfl ?_
            refine gF rfl rfl ?_
            refine gF rfl rfl ?_
            refine p_pkF rfl (rfl : _ = B false) ?_
            refine p_mB rfl ?_
            refine gF rfl rfl ?_
            refine gF rfl rfl ?_
            refine gF rfl rfl ?_
            refine p_pkF rfl (rfl : _ = B false) ?_
            refine p_mB rfl ?_
            refine gF rfl rfl ?_
            refine gF rfl rfl ?_
            refine gF rfl rfl ?_
            refine p_pkF rfl (rfl : _ = B false) ?_
            refine p_mB rfl ?_
            refine gF rfl rfl ?_
            refine gF rfl rfl ?_
            refine gF rfl rfl ?_
            refine p_pkF rfl (rfl : _ = B false) ?_
            refine p_mB rfl ?_
            refine gF rfl rfl ?_
            refine gF rfl rfl ?_
            refine gF rfl rfl ?_
            refine p_pkF rfl (rfl : _ = B false) ?_
            refine p_mB rfl ?_
            refine gF rfl rfl ?_
            refine gF rfl rfl ?_
            refine gF rfl rfl ?_
            refine gF rfl rfl ?_
            refine gF rfl rfl ?_
            refine p_pkF rfl (rfl : _ = B false) ?_
            refine p_mB rfl ?_
            refine gF rfl rfl ?_
            refine gF rfl rfl ?_
            refine gF rfl rfl ?_
            refine gF rfl rfl ?_
            refine gF rfl rfl ?_
            refine p_pkF rfl (rfl : _ = B false) ?_
            refine p_mB rfl ?_
            refine gF rfl rfl ?_
            refine gF rfl rfl ?_
            refine gF rfl rfl ?_
            refine p_pkF rfl (rfl : _ = B false) ?_
            refine p_mB rfl ?_
            refine gF rfl rfl ?_
            refine p_pkF rfl (rfl : _ = B false) ?_
            refine p_aB rfl ?_
            refine wp_nil ?_
            obtain rfl := Option.some.inj H
            refine c_ret ?_; show bodyPostM (Fr none) 0 Tryd.prog Tryd.f13 _ .ret _ _
            refine ret_of (res1 rfl (rvT (rfl : _ = B false))) ?_
            exact ⟨_, rfl, rfl, S135.keep⟩
        · replace H := condF c136 H
          refine eB c136 ?_
          refine gF rfl rfl ?_
          refine gF rfl rfl ?_
          refine gF rfl rfl ?_
          refine p_pkF rfl (rfl : _ = B false) ?_
          refine p_mB rfl ?_
          refine gF rfl rfl ?_
          refine gF rfl rfl ?_
          refine gF rfl rfl ?_
          refine p_pkF rfl (rfl : _ = B false) ?_
          refine p_mB rfl ?_
          refine gF rfl rfl ?_
          refine gF rfl rfl ?_
          refine gF rfl rfl ?_
          refine p_pkF rfl (rfl : _ = B false) ?_
          refine p_mB rfl ?_
          refine gF rfl rfl ?_
          refine gF rfl rfl ?_
          refine gF rfl rfl ?_
          refine p_pkF rfl (rfl : _ = B false) ?_
          refine p_mB rfl ?_
          refine gF rfl rfl ?_
          refine gF rfl rfl ?_
          refine gF rfl rfl ?_
          refine p_pkF rfl (rfl : _ = B false) ?_
          refine p_mB rfl ?_
          refine gF rfl rfl ?_
          refine gF rfl rfl ?_
          refine gF rfl rfl ?_
          refine p_pkF rfl (rfl : _ = B false) ?_
          refine p_mB rfl ?_
          refine gF rfl rfl ?_
          refine gF rfl rfl ?_
          refine gF rfl rfl ?_
          refine gF rfl rfl ?_
          refine gF rfl rfl ?_
          refine p_pkF rfl (rfl : _ = B false) ?_
          refine p_mB rfl ?_
          refine gF rfl rfl ?_
          refine gF rfl rfl ?_
          refine gF rfl rfl ?_
          refine gF rfl rfl ?_
          refine gF rfl rfl ?_
          refine p_pkF rfl (rfl : _ = B false) ?_
          refine p_mB rfl ?_
          refine gF rfl rfl ?_
          refine gF rfl rfl ?_
          refine gF rfl rfl ?_
          refine p_pkF rfl (rfl : _ = B false) ?_
          refine p_mB rfl ?_
          refine gF rfl rfl ?_
          refine p_pkF rfl (rfl : _ = B false) ?_
          refine p_aB rfl ?_
          refine wp_nil ?_
          obtain rfl := Option.some.inj H
          refine c_ret ?_; show bodyPostM (Fr none) 0 Tryd.prog Tryd.f13 _ .ret _ _
          refine ret_of (res1 rfl (rvT (rfl : _ = B false))) ?_
          exact ⟨_, rfl, rfl, S135.keep⟩

end Go.Proofs.YticodohfokgjfaaDoor

/- What the functions of the program compute, and that they do, printed by a program of mine. -/
import Derived.Test.YticodohfokgjfaaDoorZWC
import Derived.KernelRfl
set_option linter.unusedVariables false
set_option linter.unusedSimpArgs false
namespace Go.Proofs.YticodohfokgjfaaDoor
open Go Go.Fx Go.Proofs
set_option maxRecDepth 100000 in
theorem law_dipped_ok {w : World} {r : CoalBook} (H : law_dipped = some r) : Calls Tryd.prog 53 #[] w fun en w_ => ∃ u_, en = .returned u_ ∧ ∃ A_1 : Option Addr, ∃ c_2 : Nat, ∃ A_3 : Option Addr, ∃ c_4 : Nat, u_ = AG ([I r.Heap.Low, I r.Heap.High] ++ (sgE eSpan r.Eats 2 ++ (sg r.Extra 3 ++ [SL A_1 r.Days.length c_2, I r.Collier.Low, I r.Collier.High, I r.Brings, SL A_3 r.Dips.length c_4]))) ∧ Keep0 w w_ ∧ ((rd eCoalDay 3 A_1 c_2 r.Days).ok w_ ∧ New w.heap.size (rd eCoalDay 3 A_1 c_2 r.Days)) ∧ ((rd eCoalDip 3 A_3 c_4 r.Dips).ok w_ ∧ New w.heap.size (rd eCoalDip 3 A_3 c_4 r.Dips)) ∧ True := by
  unfold law_dipped at H
  refine fn_of (n := 4) Tryd.func53 rfl rfl (Nat.le_of_ble_eq_true rfl) ?_
  have S : St w (fun _ => False) w [] [] := St.start w _ _ (fun _ h_ => (List.not_mem_nil h_).elim)
  refine c_seq ?_
  refine reg ?_
  refine p_allA in29 S fun b1 w2 S3 => ?_
  refine wp_nil ?_
  refine c_seq ?_
  refine reg ?_
  refine p_bld (cs := [I 0, I 16, I 0]) st67 (rfl : _ = [(1, I 16)]) (by kernel_rfl) ?_
  refine p_bsl (enc := eCoalDip) (l := ([(CoalDip.mk 0 16 0)] : List CoalDip)) (fun x => AG (eCoalDip x)) (fun _ => rfl) sc27 in67 eCoalDip_len rfl (by decide) (by decide) zr67_1 S3 rfl fun A4 c5 w6 S7 => ?_
  obtain ⟨r9, h10, H⟩ := bindS H
  refine p_cal (law_book_ok h10 (gr_rd eCoalDip_len (S7.atX (i := 0) rfl))) fu51 rfl ?_
  rintro _ w11 ⟨A13, c14, rfl, k12, ⟨o15, n16⟩, _⟩
  have S18 := S7.addNew k12 o15 n16
  refine p_stP (pre := []) (old := [I 0, I 0, I 0, I 0, I 0, I 0] ++ (sg (List.replicate 3 0) 3 ++ [SL none 0 0, I 0, I 0, I 0, SL none 0 0])) (post := []) (vs := [I r9.Heap.Low, I r9.Heap.High] ++ (sgE eSpan r9.Eats 2 ++ (sg r9.Extra 3 ++ [SL A13 r9.Days.length c14, I r9.Collier.Low, I r9.Collier.High, I r9.Brings, SL A4 ([(CoalDip.mk 0 16 0)] : List CoalDip).length c5]))) sz29 S18 (i := 2) rfl rfl rfl rfl (rfl : _ = AG ([I r9.Heap.Low, I r9.Heap.High] ++ (sgE eSpan r9.Eats 2 ++ (sg r9.Extra 3 ++ [SL A13 r9.Days.length c14, I r9.Collier.Low, I r9.Collier.High, I r9.Brings, SL A4 ([(CoalDip.mk 0 16 0)] : List CoalDip).length c5])))) rfl rfl rfl rfl fun w19 S20 => ?_
  refine wp_nil ?_
  obtain rfl := Option.some.inj H
  refine c_ret ?_; show bodyPostM (Fr none) 0 Tryd.prog Tryd.f53 _ .ret _ _
  refine ret_of (res1 rfl (rvA rfl ty29 sz29 (S20.atX (i := 2) rfl) rfl)) ?_
  exact ⟨_, rfl, A13, c14, A4, c5, rfl, S20.keep, ⟨(gr_rd eCoalDay_len (S20.atX (i := 0) rfl)), (New.rd (S20.newX (i := 0) rfl))⟩, ⟨(gr_rd eCoalDip_len (S20.atX (i := 1) rfl)), (New.rd (S20.newX (i := 1) rfl))⟩, trivial⟩

def law_stoked : Option Bool :=
  (law_own).bind fun r3 =>
  (coal_Heap r3 2).bind fun r16 =>
  (law_dipped).bind fun r25 =>
  (coal_Eats r25 0).bind fun r38 =>
  (law_own).bind fun r47 =>
  (coal_Wind r47 0).bind fun r60 =>
  (law_own).bind fun r64 =>
  (coal_Lasts r64 1).bind fun r77 =>
  (law_own).bind fun r81 =>
  (coal_Day r81).bind fun r94 =>
  bif (r16.2 != 0) then (some false)
  else (bif (r38.2 != 0) then (some false)
  else (bif (r60.2 != 0) then (some false)
  else (bif (r77.2 != 0) then (some false)
  else (bif (r94.2 != 0) then (some false)
  else ((B_Range (-8) 7).bind fun r118 =>
  bif !((r16.1.Low == r118.Low) && (r16.1.High == r118.High)) then (some false)
  else ((B_Point 1).bind fun r124 =>
  bif !((r38.1.Low == r124.Low) && (r38.1.High == r124.High)) then (some false)
  else (bif (r60.1 != 3) then (some false)
  else (bif (r77.1 != 2) then (some false)
  else (bif (r94.1 != 2) then (some false)
  else ((law_own).bind fun r142 =>
  (coal_Order r142).bind fun r155 =>
  (law_dipped).bind fun r159 =>
  (coal_Late r159).bind fun r172 =>
  (law_torn).bind fun r176 =>
  (coal_Wrong r176).bind fun r189 =>
  (law_own).bind fun r198 =>
  (coal_Right r198).bind fun r211 =>
  bif (r155.2 == 0) then (bif (r172.2 == 0) then (bif (r189.2 == 0) then (bif (r211.2 == 0) then (bif (r155.1 == 8) then (bif (r172.1 == 2) then ((B_Alike r189.1 ([0] : List Int)).bind fun r226 =>
  bif r226 then (some r211.1)
  else (some false))
  else (some false))
  else (some false))
  else (some false))
  else (some false))
  else (some false))
  else (some false)))))))))))

set_option maxRecDepth 100000 in
theorem law_stoked_ok {w : World} {r : Bool} (H : law_stoked = some r) (hg1 : (bl 0 [Value.func (.func 128) #[] #[], Value.func (.func 129) #[] #[]] 110).ok w) (hg2 : (bl 1 [I (-1), I (-1)] 123).ok w) : Calls Tryd.prog 19 #[] w (RetV w (B r)) := by
  unfold law_stoked at H
  refine fn_of (n := 130) Tryd.func19 rfl rfl (Nat.le_of_ble_eq_true rfl) ?_
  have S : St w (fun _ => False) w [] [bl 0 [Value.func (.func 128) #[] #[], Value.func (.func 129) #[] #[]] 110, bl 1 [I (-1), I (-1)] 123] := St.start w _ _ (List.forall_mem_cons.2 ⟨hg1, (List.forall_mem_cons.2 ⟨hg2, (fun _ h_ => (List.not_mem_nil h_).elim)⟩)⟩)
  refine c_seq ?_
  refine reg ?_
  refine p_aB rfl ?_
  refine wp_nil ?_
  refine c_seq ?_
  refine reg ?_
  obtain ⟨r3, h4, H⟩ := bindS H
  refine p_cal (law_own_ok h4) fu50 rfl ?_
  rintro _ w5 ⟨A7, c8, A9, c10, rfl, k6, ⟨o11, n12⟩, ⟨o13, n14⟩, _⟩
  have S15 := S.callN k6 [rd eCoalDay 3 A7 c8 r3.Days, rd eCoalDip 3 A9 c10 r3.Dips] (List.forall_mem_cons.2 ⟨⟨o11, New.inL n12⟩, (List.forall_mem_cons.2 ⟨⟨o13, New.inL n14⟩, (fun _ h_ => (List.not_mem_nil h_).elim)⟩)⟩)
  obtain ⟨r16, h17, H⟩ := bindS H
  refine p_cv (coal_Heap_ok h17 (S15.atP (i := 0) rfl) (S15.atP (i := 1) rfl) (S15.atP (i := 3) rfl)) fu28 rfl S15 fun w18 S19 => ?_
  refine p_mT rfl ?_
  refine p_ext rfl rfl ?_
  refine p_ext rfl rfl ?_
  refine p_allA in23 S19 fun b20 w21 S22 => ?_
  refine p_stP (pre := []) (old := [I 0, I 0]) (post := []) (vs := [I r16.1.Low, I r16.1.High]) sz23 S22 (i := 0) rfl rfl rfl rfl (rfl : _ = AG [I r16.1.Low, I r16.1.High]) rfl rfl rfl rfl fun w23 S24 => ?_
  refine p_aI rfl ?_
  refine wp_nil ?_
  refine c_seq ?_
  refine reg ?_
  obtain ⟨r25, h26, H⟩ := bindS H
  refine p_cal (law_dipped_ok h26) fu53 rfl ?_
  rintro _ w27 ⟨A29, c30, A31, c32, rfl, k28, ⟨o33, n34⟩, ⟨o35, n36⟩, _⟩
  have S37 := S24.callN k28 [rd eCoalDay 3 A29 c30 r25.Days, rd eCoalDip 3 A31 c32 r25.Dips] (List.forall_mem_cons.2 ⟨⟨o33, New.inL n34⟩, (List.forall_mem_cons.2 ⟨⟨o35, New.inL n36⟩, (fun _ h_ => (List.not_mem_nil h_).elim)⟩)⟩)
  obtain ⟨r38, h39, H⟩ := bindS H
  refine p_cv (coal_Eats_ok h39 (S37.atP (i := 0) rfl) (S37.atP (i := 1) rfl) (S37.atP (i := 5) rfl)) fu35 rfl S37 fun w40 S41 => ?_
  refine p_mT rfl ?_
  refine p_ext rfl rfl ?_
  refine p_ext rfl rfl ?_
  refine p_allA in23 S41 fun b42 w43 S44 => ?_
  refine p_stP (pre := []) (old := [I 0, I 0]) (post := []) (vs := [I r38.1.Low, I r38.1.High]) sz23 S44 (i := 0) rfl rfl rfl rfl (rfl : _ = AG [I r38.1.Low, I r38.1.High]) rfl rfl rfl rfl fun w45 S46 => ?_
  refine p_aI rfl ?_
  refine wp_nil ?_
  refine c_seq ?_
  refine reg ?_
  obtain ⟨r47, h48, H⟩ := bindS H
  refine p_cal (law_own_ok h48) fu50 rfl ?_
  rintro _ w49 ⟨A51, c52, A53, c54, rfl, k50, ⟨o55, n56⟩, ⟨o57, n58⟩, _⟩
  have S59 := S46.callN k50 [rd eCoalDay 3 A51 c52 r47.Days, rd eCoalDip 3 A53 c54 r47.Dips] (List.forall_mem_cons.2 ⟨⟨o55, New.inL n56⟩, (List.forall_mem_cons.2 ⟨⟨o57, New.inL n58⟩, (fun _ h_ => (List.not_mem_nil h_).elim)⟩)⟩)
  obtain ⟨r60, h61, H⟩ := bindS H
  refine p_cv (coal_Wind_ok h61 (S59.atP (i := 0) rfl) (S59.atP (i := 1) rfl) (S59.atP (i := 7) rfl)) fu29 rfl S59 fun w62 S63 => ?_
  refine p_mT rfl ?_
  refine p_ext rfl rfl ?_
  refine p_ext rfl rfl ?_
  refine p_aI rfl ?_
  refine p_aI rfl ?_
  refine wp_nil ?_
  refine c_seq ?_
  refine reg ?_
  obtain ⟨r64, h65, H⟩ := bindS H
  refine p_cal (law_own_ok h65) fu50 rfl ?_
  rintro _ w66 ⟨A68, c69, A70, c71, rfl, k67, ⟨o72, n73⟩, ⟨o74, n75⟩, _⟩
  have S76 := S63.callN k67 [rd eCoalDay 3 A68 c69 r64.Days, rd eCoalDip 3 A70 c71 r64.Dips] (List.forall_mem_cons.2 ⟨⟨o72, New.inL n73⟩, (List.forall_mem_cons.2 ⟨⟨o74, New.inL n75⟩, (fun _ h_ => (List.not_mem_nil h_).elim)⟩)⟩)
  obtain ⟨r77, h78, H⟩ := bindS H
  refine p_cv (coal_Lasts_ok h78 (S76.atP (i := 0) rfl) (S76.atP (i := 1) rfl) (S76.atP (i := 8) rfl) (S76.atP (i := 9) rfl)) fu30 rfl S76 fun w79 S80 => ?_
  refine p_mT rfl ?_
  refine p_ext rfl rfl ?_
  refine p_ext rfl rfl ?_
  refine p_aI rfl ?_
  refine p_aI rfl ?_
  refine wp_nil ?_
  refine c_seq ?_
  refine reg ?_
  obtain ⟨r81, h82, H⟩ := bindS H
  refine p_cal (law_own_ok h82) fu50 rfl ?_
  rintro _ w83 ⟨A85, c86, A87, c88, rfl, k84, ⟨o89, n90⟩, ⟨o91, n92⟩, _⟩
  have S93 := S80.callN k84 [rd eCoalDay 3 A85 c86 r81.Days, rd eCoalDip 3 A87 c88 r81.Dips] (List.forall_mem_cons.2 ⟨⟨o89, New.inL n90⟩, (List.forall_mem_cons.2 ⟨⟨o91, New.inL n92⟩, (fun _ h_ => (List.not_mem_nil h_).elim)⟩)⟩)
  obtain ⟨r94, h95, H⟩ := bindS H
  refine p_cv (coal_Day_ok h95 (S93.atP (i := 0) rfl) (S93.atP (i := 1) rfl) (S93.atP (i := 11) rfl)) fu37 rfl S93 fun w96 S97 => ?_
  refine p_mT rfl ?_
  refine p_ext rfl rfl ?_
  refine p_ext rfl rfl ?_
  refine p_aI rfl ?_
  refine p_aI rfl ?_
  refine wp_nil ?_
  refine c_seq ?_
  refine c_seq ?_
  rcases Bool.eq_false_or_eq_true ((r16.2 != 0)) with c98 | c98
  · replace H := condT c98 H
    refine reg_q mixed 40 (by kernel_rfl) ?_
    refine dS (fun _ k_ => p_mI rfl dn) ?_
    refine dS (fun _ k_ => p_cmp rfl rfl rfl dn) ?_
    refine dS (fun _ k_ => p_mB rfl dn) ?_
    refine dB c98 ?_
    refine dS (fun _ k_ => gF rfl rfl dnU) ?_
    refine dS (fun _ k_ => gF rfl rfl dnU) ?_
    refine dS (fun _ k_ => p_pkT rfl (rfl : _ = B true) dn) ?_
    refine dS (fun _ k_ => p_mB rfl dn) ?_
    refine dS (fun _ k_ => gF rfl rfl dnU) ?_
    refine dS (fun _ k_ => gF rfl rfl dnU) ?_
    refine dS (fun _ k_ => p_pkT rfl (rfl : _ = B true) dn) ?_
    refine dS (fun _ k_ => p_mB rfl dn) ?_
    refine dS (fun _ k_ => gF rfl rfl dnU) ?_
    refine dS (fun _ k_ => gF rfl rfl dnU) ?_
    refine dS (fun _ k_ => p_pkT rfl (rfl : _ = B true) dn) ?_
    refine dS (fun _ k_ => p_mB rfl dn) ?_
    refine dS (fun _ k_ => gF rfl rfl dnU) ?_
    refine dS (fun _ k_ => gF rfl rfl dnU) ?_
    refine dS (fun _ k_ => p_pkT rfl (rfl : _ = B true) dn) ?_
    refine dS (fun _ k_ => p_mB rfl dn) ?_
    refine dS (fun _ k_ => gF rfl rfl dnU) ?_
    refine dS (fun _ k_ => gF rfl rfl dnU) ?_
    refine dS (fun _ k_ => gF rfl rfl dnU) ?_
    refine dS (fun _ k_ => p_pkT rfl (rfl : _ = B true) dn) ?_
    refine dS (fun _ k_ => p_mB rfl dn) ?_
    refine dS (fun _ k_ => gF rfl rfl dnU) ?_
    refine dS (fun _ k_ => gF rfl rfl dnU) ?_
    refine dS (fun _ k_ => gF rfl rfl dnU) ?_
    refine dS (fun _ k_ => p_pkT rfl (rfl : _ = B true) dn) ?_
    refine dS (fun _ k_ => p_mB rfl dn) ?_
    refine dS (fun _ k_ => gF rfl rfl dnU) ?_
    refine dS (fun _ k_ => gF rfl rfl dnU) ?_
    refine dS (fun _ k_ => p_pkT rfl (rfl : _ = B true) dn) ?_
    refine dS (fun _ k_ => p_mB rfl dn) ?_
    refine dS (fun _ k_ => gF rfl rfl dnU) ?_
    refine dS (fun _ k_ => gF rfl rfl dnU) ?_
    refine dS (fun _ k_ => p_pkT rfl (rfl : _ = B true) dn) ?_
    refine dS (fun _ k_ => p_mB rfl dn) ?_
    refine dS (fun _ k_ => gF rfl rfl dnU) ?_
    refine dS (fun _ k_ => gF rfl rfl dnU) ?_
    refine dS (fun _ k_ => p_pkT rfl (rfl : _ = B true) dn) ?_
    intro w99 k100; have S101 := S97.call k100
    refine wp_nil ?_
    refine c_true rfl ?_
    refine c_seq ?_
    refine reg ?_
    refine p_aB rfl ?_
    refine wp_nil ?_
    obtain rfl := Option.some.inj H
    refine c_ret ?_; show bodyPostM (Fr none) 0 Tryd.prog Tryd.f19 _ .ret _ _
    refine ret_of (res1 rfl (rvT (rfl : _ = B false))) ?_
    exact ⟨_, rfl, rfl, S101.keep⟩
  · replace H := condF c98 H
    rcases Bool.eq_false_or_eq_true ((r38.2 != 0)) with c102 | c102
    · replace H := condT c102 H
      refine reg_q mixed 40 (by kernel_rfl) ?_
      refine dS (fun _ k_ => p_mI rfl dn) ?_
      refine dS (fun _ k_ => p_cmp rfl rfl rfl dn) ?_
      refine dS (fun _ k_ => p_mB rfl dn) ?_
      refine dB c98 ?_
      refine dS (fun _ k_ => gT rfl rfl (p_mI rfl dn)) ?_
      refine dS (fun _ k_ => gT rfl rfl (p_cmp rfl rfl rfl dn)) ?_
      refine dS (fun _ k_ => p_pkF rfl (rfl : _ = B (r38.2 != 0)) dn) ?_
      refine dS (fun _ k_ => p_mB rfl dn) ?_
      refine dB c102 ?_
      refine dS (fun _ k_ => gF rfl rfl dnU) ?_
      refine dS (fun _ k_ => gF rfl rfl dnU) ?_
      refine dS (fun _ k_ => p_pkT rfl (rfl : _ = B true) dn) ?_
      refine dS (fun _ k_ => p_mB rfl dn) ?_
      refine dS (fun _ k_ => gF rfl rfl dnU) ?_
      refine dS (fun _ k_ => gF rfl rfl dnU) ?_
      refine dS (fun _ k_ => p_pkT rfl (rfl : _ = B true) dn) ?_
      refine dS (fun _ k_ => p_mB rfl dn) ?_
      refine dS (fun _ k_ => gF rfl rfl dnU) ?_
      refine dS (fun _ k_ => gF rfl rfl dnU) ?_
      refine dS (fun _ k_ => p_pkT rfl (rfl : _ = B true) dn) ?_
      refine dS (fun _ k_ => p_mB rfl dn) ?_
      refine dS (fun _ k_ => gF rfl rfl dnU) ?_
      refine dS (fun _ k_ => gF rfl rfl dnU) ?_
      refine dS (fun _ k_ => gF rfl rfl dnU) ?_
      refine dS (fun _ k_ => p_pkT rfl (rfl : _ = B true) dn) ?_
      refine dS (fun _ k_ => p_mB rfl dn) ?_
      refine dS (fun _ k_ => gF rfl rfl dnU) ?_
      refine dS (fun _ k_ => gF rfl rfl dnU) ?_
      refine dS (fun _ k_ => gF rfl rfl dnU) ?_
      refine dS (fun _ k_ => p_pkT rfl (rfl : _ = B true) dn) ?_
      refine dS (fun _ k_ => p_mB rfl dn) ?_
      refine dS (fun _ k_ => gF rfl rfl dnU) ?_
      refine dS (fun _ k_ => gF rfl rfl dnU) ?_
      refine dS (fun _ k_ => p_pkT rfl (rfl : _ = B true) dn) ?_
      refine dS (fun _ k_ => p_mB rfl dn) ?_
      refine dS (fun _ k_ => gF rfl rfl dnU) ?_
      refine dS (fun _ k_ => gF rfl rfl dnU) ?_
      refine dS (fun _ k_ => p_pkT rfl (rfl : _ = B true) dn) ?_
      refine dS (fun _ k_ => p_mB rfl dn) ?_
      refine dS (fun _ k_ => gF rfl rfl dnU) ?_
      refine dS (fun _ k_ => gF rfl rfl dnU) ?_
      refine dS (fun _ k_ => p_pkT rfl (rfl : _ = B true) dn) ?_
      intro w103 k104; have S105 := S97.call k104
      refine wp_nil ?_
      refine c_true rfl ?_
      refine c_seq ?_
      refine reg ?_
      refine p_aB rfl ?_
      refine wp_nil ?_
      obtain rfl := Option.some.inj H
      refine c_ret ?_; show bodyPostM (Fr none) 0 Tryd.prog Tryd.f19 _ .ret _ _
      refine ret_of (res1 rfl (rvT (rfl : _ = B false))) ?_
      exact ⟨_, rfl, rfl, S105.keep⟩
    · replace H := condF c102 H
      rcases Bool.eq_false_or_eq_true ((r60.2 != 0)) with c106 | c106
      · replace H := condT c106 H
        refine reg_q mixed 40 (by kernel_rfl) ?_
        refine dS (fun _ k_ => p_mI rfl dn) ?_
        refine dS (fun _ k_ => p_cmp rfl rfl rfl dn) ?_
        refine dS (fun _ k_ => p_mB rfl dn) ?_
        refine dB c98 ?_
        refine dS (fun _ k_ => gT rfl rfl (p_mI rfl dn)) ?_
        refine dS (fun _ k_ => gT rfl rfl (p_cmp rfl rfl rfl dn)) ?_
        refine dS (fun _ k_ => p_pkF rfl (rfl : _ = B (r38.2 != 0)) dn) ?_
        refine dS (fun _ k_ => p_mB rfl dn) ?_
        refine dB c102 ?_
        refine dS (fun _ k_ => gT rfl rfl (p_mI rfl dn)) ?_
        refine dS (fun _ k_ => gT rfl rfl (p_cmp rfl rfl rfl dn)) ?_
        refine dS (fun _ k_ => p_pkF rfl (rfl : _ = B (r60.2 != 0)) dn) ?_
        refine dS (fun _ k_ => p_mB rfl dn) ?_
        refine dB c106 ?_
        refine dS (fun _ k_ => gF rfl rfl dnU) ?_
        refine dS (fun _ k_ => gF rfl rfl dnU) ?_
        refine dS (fun _ k_ => p_pkT rfl (rfl : _ = B true) dn) ?_
        refine dS (fun _ k_ => p_mB rfl dn) ?_
        refine dS (fun _ k_ => gF rfl rfl dnU) ?_
        refine dS (fun _ k_ => gF rfl rfl dnU) ?_
        refine dS (fun _ k_ => p_pkT rfl (rfl : _ = B true) dn) ?_
        refine dS (fun _ k_ => p_mB rfl dn) ?_
        refine dS (fun _ k_ => gF rfl rfl dnU) ?_
        refine dS (fun _ k_ => gF rfl rfl dnU) ?_
        refine dS (fun _ k_ => gF rfl rfl dnU) ?_
        refine dS (fun _ k_ => p_pkT rfl (rfl : _ = B true) dn) ?_
        refine dS (fun _ k_ => p_mB rfl dn) ?_
        refine dS (fun _ k_ => gF rfl rfl dnU) ?_
        refine dS (fun _ k_ => gF rfl rfl dnU) ?_
        refine dS (fun _ k_ => gF rfl rfl dnU) ?_
        refine dS (fun _ k_ => p_pkT rfl (rfl : _ = B true) dn) ?_
        refine dS (fun _ k_ => p_mB rfl dn) ?_
        refine dS (fun _ k_ => gF rfl rfl dnU) ?_
        refine dS (fun _ k_ => gF rfl rfl dnU) ?_
        refine dS (fun _ k_ => p_pkT rfl (rfl : _ = B true) dn) ?_
        refine dS (fun _ k_ => p_mB rfl dn) ?_
        refine dS (fun _ k_ => gF rfl rfl dnU) ?_
        refine dS (fun _ k_ => gF rfl rfl dnU) ?_
        refine dS (fun _ k_ => p_pkT rfl (rfl : _ = B true) dn) ?_
        refine dS (fun _ k_ => p_mB rfl dn) ?_
        refine dS (fun _ k_ => gF rfl rfl dnU) ?_
        refine dS (fun _ k_ => gF rfl rfl dnU) ?_
        refine dS (fun _ k_ => p_pkT rfl (rfl : _ = B true) dn) ?_
        intro w107 k108; have S109 := S97.call k108
        refine wp_nil ?_
        refine c_true rfl ?_
        refine c_seq ?_
        refine reg ?_
        refine p_aB rfl ?_
        refine wp_nil ?_
        obtain rfl := Option.some.inj H
        refine c_ret ?_; show bodyPostM (Fr none) 0 Tryd.prog Tryd.f19 _ .ret _ _
        refine ret_of (res1 rfl (rvT (rfl : _ = B false))) ?_
        exact ⟨_, rfl, rfl, S109.keep⟩
      · replace H := condF c106 H
        rcases Bool.eq_false_or_eq_true ((r77.2 != 0)) with c110 | c110
        · replace H := condT c110 H
          refine reg_q mixed 40 (by kernel_rfl) ?_
          refine dS (fun _ k_ => p_mI rfl dn) ?_
          refine dS (fun _ k_ => p_cmp rfl rfl rfl dn) ?_
          refine dS (fun _ k_ => p_mB rfl dn) ?_
          refine dB c98 ?_
          refine dS (fun _ k_ => gT rfl rfl (p_mI rfl dn)) ?_
          refine dS (fun _ k_ => gT rfl rfl (p_cmp rfl rfl rfl dn)) ?_
          refine dS (fun _ k_ => p_pkF rfl (rfl : _ = B (r38.2 != 0)) dn) ?_
          refine dS (fun _ k_ => p_mB rfl dn) ?_
          refine dB c102 ?_
          refine dS (fun _ k_ => gT rfl rfl (p_mI rfl dn)) ?_
          refine dS (fun _ k_ => gT rfl rfl (p_cmp rfl rfl rfl dn)) ?_
          refine dS (fun _ k_ => p_pkF rfl (rfl : _ = B (r60.2 != 0)) dn) ?_
          refine dS (fun _ k_ => p_mB rfl dn) ?_
          refine dB c106 ?_
          refine dS (fun _ k_ => gT rfl rfl (p_mI rfl dn)) ?_
          refine dS (fun _ k_ => gT rfl rfl (p_cmp rfl rfl rfl dn)) ?_
          refine dS (fun _ k_ => p_pkF rfl (rfl : _ = B (r77.2 != 0)) dn) ?_
          refine dS (fun _ k_ => p_mB rfl dn) ?_
          refine dB c110 ?_
          refine dS (fun _ k_ => gF rfl rfl dnU) ?_
          refine dS (fun _ k_ => gF rfl rfl dnU) ?_
          refine dS (fun _ k_ => p_pkT rfl (rfl : _ = B true) dn) ?_
          refine dS (fun _ k_ => p_mB rfl dn) ?_
          refine dS (fun _ k_ => gF rfl rfl dnU) ?_
          refine dS (fun _ k_ => gF rfl rfl dnU) ?_
          refine dS (fun _ k_ => gF rfl rfl dnU) ?_
          refine dS (fun _ k_ => p_pkT rfl (rfl : _ = B true) dn) ?_
          refine dS (fun _ k_ => p_mB rfl dn) ?_
          refine dS (fun _ k_ => gF rfl rfl dnU) ?_
          refine dS (fun _ k_ => gF rfl rfl dnU) ?_
          refine dS (fun _ k_ => gF rfl rfl dnU) ?_
          refine dS (fun _ k_ => p_pkT rfl (rfl : _ = B true) dn) ?_
          refine dS (fun _ k_ => p_mB rfl dn) ?_
          refine dS (fun _ k_ => gF rfl rfl dnU) ?_
          refine dS (fun _ k_ => gF rfl rfl dnU) ?_
          refine dS (fun _ k_ => p_pkT rfl (rfl : _ = B true) dn) ?_
          refine dS (fun _ k_ => p_mB rfl dn) ?_
          refine dS (fun _ k_ => gF rfl rfl dnU) ?_
          refine dS (fun _ k_ => gF rfl rfl dnU) ?_
          refine dS (fun _ k_ => p_pkT rfl (rfl : _ = B true) dn) ?_
          refine dS (fun _ k_ => p_mB rfl dn) ?_
          refine dS (fun _ k_ => gF rfl rfl dnU) ?_
          refine dS (fun _ k_ => gF rfl rfl dnU) ?_
          refine dS (fun _ k_ => p_pkT rfl (rfl : _ = B true) dn) ?_
          intro w111 k112; have S113 := S97.call k112
          refine wp_nil ?_
          refine c_true rfl ?_
          refine c_seq ?_
          refine reg ?_
          refine p_aB rfl ?_
          refine wp_nil ?_
          obtain rfl := Option.some.inj H
          refine c_ret ?_; show bodyPostM (Fr none) 0 Tryd.prog Tryd.f19 _ .ret _ _
          refine ret_of (res1 rfl (rvT (rfl : _ = B false))) ?_
          exact ⟨_, rfl, rfl, S113.keep⟩
        · replace H := condF c110 H
          rcases Bool.eq_false_or_eq_true ((r94.2 != 0)) with c114 | c114
          · replace H := condT c114 H
            refine reg_q mixed 40 (by kernel_rfl) ?_
            refine dS (fun _ k_ => p_mI rfl dn) ?_
            refine dS (fun _ k_ => p_cmp rfl rfl rfl dn) ?_
            refine dS (fun _ k_ => p_mB rfl dn) ?_
            refine dB c98 ?_
            refine dS (fun _ k_ => gT rfl rfl (p_mI rfl dn)) ?_
            refine dS (fun _ k_ => gT rfl rfl (p_cmp rfl rfl rfl dn)) ?_
            refine dS (fun _ k_ => p_pkF rfl (rfl : _ = B (r38.2 != 0)) dn) ?_
            refine dS (fun _ k_ => p_mB rfl dn) ?_
            refine dB c102 ?_
            refine dS (fun _ k_ => gT rfl rfl (p_mI rfl dn)) ?_
            refine dS (fun _ k_ => gT rfl rfl (p_cmp rfl rfl rfl dn)) ?_
            refine dS (fun _ k_ => p_pkF rfl (rfl : _ = B (r60.2 != 0)) dn) ?_
            refine dS (fun _ k_ => p_mB rfl dn) ?_
            refine dB c106 ?_
            refine dS (fun _ k_ => gT rfl rfl (p_mI rfl dn)) ?_
            refine dS (fun _ k_ => gT rfl rfl (p_cmp rfl rfl rfl dn)) ?_
            refine dS (fun _ k_ => p_pkF rfl (rfl : _ = B (r77.2 != 0)) dn) ?_
            refine dS (fun _ k_ => p_mB rfl dn) ?_
            refine dB c110 ?_
            refine dS (fun _ k_ => gT rfl rfl (p_mI rfl dn)) ?_
            refine dS (fun _ k_ => gT rfl rfl (p_cmp rfl rfl rfl dn)) ?_
            refine dS (fun _ k_ => p_pkF rfl (rfl : _ = B (r94.2 != 0)) dn) ?_
            refine dS (fun _ k_ => p_mB rfl dn) ?_
            refine dB c114 ?_
            refine dS (fun _ k_ => gF rfl rfl dnU) ?_
            refine dS (fun _ k_ => gF rfl rfl dnU) ?_
            refine dS (fun _ k_ => gF rfl rfl dnU) ?_
            refine dS (fun _ k_ => p_pkT rfl (rfl : _ = B true) dn) ?_
            refine dS (fun _ k_ => p_mB rfl dn) ?_
            refine dS (fun _ k_ => gF rfl rfl dnU) ?_
            refine dS (fun _ k_ => gF rfl rfl dnU) ?_
            refine dS (fun _ k_ => gF rfl rfl dnU) ?_
            refine dS (fun _ k_ => p_pkT rfl (rfl : _ = B true) dn) ?_
            refine dS (fun _ k_ => p_mB rfl dn) ?_
            refine dS (fun _ k_ => gF rfl rfl dnU) ?_
            refine dS (fun _ k_ => gF rfl rfl dnU) ?_
            refine dS (fun _ k_ => p_pkT rfl (rfl : _ = B true) dn) ?_
            refine dS (fun _ k_ => p_mB rfl dn) ?_
            refine dS (fun _ k_ => gF rfl rfl dnU) ?_
            refine dS (fun _ k_ => gF rfl rfl dnU) ?_
            refine dS (fun _ k_ => p_pkT rfl (rfl : _ = B true) dn) ?_
            refine dS (fun _ k_ => p_mB rfl dn) ?_
            refine dS (fun _ k_ => gF rfl rfl dnU) ?_
            refine dS (fun _ k_ => gF rfl rfl dnU) ?_
            refine dS (fun _ k_ => p_pkT rfl (rfl : _ = B true) dn) ?_
            intro w115 k116; have S117 := S97.call k116
            refine wp_nil ?_
            refine c_true rfl ?_
            refine c_seq ?_
            refine reg ?_
            refine p_aB rfl ?_
            refine wp_nil ?_
            obtain rfl := Option.some.inj H
            refine c_ret ?_; show bodyPostM (Fr none) 0 Tryd.prog Tryd.f19 _ .ret _ _
            refine ret_of (res1 rfl (rvT (rfl : _ = B false))) ?_
            exact ⟨_, rfl, rfl, S117.keep⟩
          · replace H := condF c114 H
            obtain ⟨r118, h119, H⟩ := bindS H
            rcases Bool.eq_false_or_eq_true (!((r16.1.Low == r118.Low) && (r16.1.High == r118.High))) with c120 | c120
            · replace H := condT c120 H
              refine reg_q mixed 40 (by kernel_rfl) ?_
              refine dS (fun _ k_ => p_mI rfl dn) ?_
              refine dS (fun _ k_ => p_cmp rfl rfl rfl dn) ?_
              refine dS (fun _ k_ => p_mB rfl dn) ?_
              refine dB c98 ?_
              refine dS (fun _ k_ => gT rfl rfl (p_mI rfl dn)) ?_
              refine dS (fun _ k_ => gT rfl rfl (p_cmp rfl rfl rfl dn)) ?_
              refine dS (fun _ k_ => p_pkF rfl (rfl : _ = B (r38.2 != 0)) dn) ?_
              refine dS (fun _ k_ => p_mB rfl dn) ?_
              refine dB c102 ?_
              refine dS (fun _ k_ => gT rfl rfl (p_mI rfl dn)) ?_
              refine dS (fun _ k_ => gT rfl rfl (p_cmp rfl rfl rfl dn)) ?_
              refine dS (fun _ k_ => p_pkF rfl (rfl : _ = B (r60.2 != 0)) dn) ?_
              refine dS (fun _ k_ => p_mB rfl dn) ?_
              refine dB c106 ?_
              refine dS (fun _ k_ => gT rfl rfl (p_mI rfl dn)) ?_
              refine dS (fun _ k_ => gT rfl rfl (p_cmp rfl rfl rfl dn)) ?_
              refine dS (fun _ k_ => p_pkF rfl (rfl : _ = B (r77.2 != 0)) dn) ?_
              refine dS (fun _ k_ => p_mB rfl dn) ?_
              refine dB c110 ?_
              refine dS (fun _ k_ => gT rfl rfl (p_mI rfl dn)) ?_
              refine dS (fun _ k_ => gT rfl rfl (p_cmp rfl rfl rfl dn)) ?_
              refine dS (fun _ k_ => p_pkF rfl (rfl : _ = B (r94.2 != 0)) dn) ?_
              refine dS (fun _ k_ => p_mB rfl dn) ?_
              refine dB c114 ?_
              refine dS (fun _ k_ => gT rfl rfl (p_ldA ty23 sz23 (Asr.stays (S97.atX (i := 1) rfl) k_) rfl rfl dn)) ?_
              refine dS (fun _ k_ => gT rfl rfl (p_cvD (B_Range_ok h119) fu44 rfl)) ?_
              refine dS (fun _ k_ => gT rfl rfl (o_neA (xs := [I r16.1.Low, I r16.1.High]) (ys := [I r118.Low, I r118.High]) (T := ((r16.1.Low == r118.Low) && (r16.1.High == r118.High))) rfl rfl eq23 ⟨⟨_, rfl⟩, ⟨⟨_, rfl⟩, trivial⟩⟩ ⟨⟨_, rfl⟩, ⟨⟨_, rfl⟩, trivial⟩⟩ (by simp [Bool.and_eq_true, and_assoc]) dn)) ?_
              refine dS (fun _ k_ => p_pkF rfl (rfl : _ = B (!((r16.1.Low == r118.Low) && (r16.1.High == r118.High)))) dn) ?_
              refine dS (fun _ k_ => p_mB rfl dn) ?_
              refine dB c120 ?_
              refine dS (fun _ k_ => gF rfl rfl dnU) ?_
              refine dS (fun _ k_ => gF rfl rfl dnU) ?_
              refine dS (fun _ k_ => gF rfl rfl dnU) ?_
              refine dS (fun _ k_ => p_pkT rfl (rfl : _ = B true) dn) ?_
              refine dS (fun _ k_ => p_mB rfl dn) ?_
              refine dS (fun _ k_ => gF rfl rfl dnU) ?_
              refine dS (fun _ k_ => gF rfl rfl dnU) ?_
              refine dS (fun _ k_ => p_pkT rfl (rfl : _ = B true) dn) ?_
              refine dS (fun _ k_ => p_mB rfl dn) ?_
              refine dS (fun _ k_ => gF rfl rfl dnU) ?_
              refine dS (fun _ k_ => gF rfl rfl dnU) ?_
              refine dS (fun _ k_ => p_pkT rfl (rfl : _ = B true) dn) ?_
              refine dS (fun _ k_ => p_mB rfl dn) ?_
              refine dS (fun _ k_ => gF rfl rfl dnU) ?_
              refine dS (fun _ k_ => gF rfl rfl dnU) ?_
              refine dS (fun _ k_ => p_pkT rfl (rfl : _ = B true) dn) ?_
              intro w121 k122; have S123 := S97.call k122
              refine wp_nil ?_
              refine c_true rfl ?_
              refine c_seq ?_
              refine reg ?_
              refine p_aB rfl ?_
              refine wp_nil ?_
              obtain rfl := Option.some.inj H
              refine c_ret ?_; show bodyPostM (Fr none) 0 Tryd.prog Tryd.f19 _ .ret _ _
              refine ret_of (res1 rfl (rvT (rfl : _ = B false))) ?_
              exact ⟨_, rfl, rfl, S123.keep⟩
            · replace H := condF c120 H
              obtain ⟨r124, h125, H⟩ := bindS H
              rcases Bool.eq_false_or_eq_true (!((r38.1.Low == r124.Low) && (r38.1.High == r124.High))) with c126 | c126
              · replace H := condT c126 H
                refine reg_q mixed 40 (by kernel_rfl) ?_
                refine dS (fun _ k_ => p_mI rfl dn) ?_
                refine dS (fun _ k_ => p_cmp rfl rfl rfl dn) ?_
                refine dS (fun _ k_ => p_mB rfl dn) ?_
                refine dB c98 ?_
                refine dS (fun _ k_ => gT rfl rfl (p_mI rfl dn)) ?_
                refine dS (fun _ k_ => gT rfl rfl (p_cmp rfl rfl rfl dn)) ?_
                refine dS (fun _ k_ => p_pkF rfl (rfl : _ = B (r38.2 != 0)) dn) ?_
                refine dS (fun _ k_ => p_mB rfl dn) ?_
                refine dB c102 ?_
                refine dS (fun _ k_ => gT rfl rfl (p_mI rfl dn)) ?_
                refine dS (fun _ k_ => gT rfl rfl (p_cmp rfl rfl rfl dn)) ?_
                refine dS (fun _ k_ => p_pkF rfl (rfl : _ = B (r60.2 != 0)) dn) ?_
                refine dS (fun _ k_ => p_mB rfl dn) ?_
                refine dB c106 ?_
                refine dS (fun _ k_ => gT rfl rfl (p_mI rfl dn)) ?_
                refine dS (fun _ k_ => gT rfl rfl (p_cmp rfl rfl rfl dn)) ?_
                refine dS (fun _ k_ => p_pkF rfl (rfl : _ = B (r77.2 != 0)) dn) ?_
                refine dS (fun _ k_ => p_mB rfl dn) ?_
                refine dB c110 ?_
                refine dS (fun _ k_ => gT rfl rfl (p_mI rfl dn)) ?_
                refine dS (fun _ k_ => gT rfl rfl (p_cmp rfl rfl rfl dn)) ?_
                refine dS (fun _ k_ => p_pkF rfl (rfl : _ = B (r94.2 != 0)) dn) ?_
                refine dS (fun _ k_ => p_mB rfl dn) ?_
                refine dB c114 ?_
                refine dS (fun _ k_ => gT rfl rfl (p_ldA ty23 sz23 (Asr.stays (S97.atX (i := 1) rfl) k_) rfl rfl dn)) ?_
                refine dS (fun _ k_ => gT rfl rfl (p_cvD (B_Range_ok h119) fu44 rfl)) ?_
                refine dS (fun _ k_ => gT rfl rfl (o_neA (xs := [I r16.1.Low, I r16.1.High]) (ys := [I r118.Low, I r118.High]) (T := ((r16.1.Low == r118.Low) && (r16.1.High == r118.High))) rfl rfl eq23 ⟨⟨_, rfl⟩, ⟨⟨_, rfl⟩, trivial⟩⟩ ⟨⟨_, rfl⟩, ⟨⟨_, rfl⟩, trivial⟩⟩ (by simp [Bool.and_eq_true, and_assoc]) dn)) ?_
                refine dS (fun _ k_ => p_pkF rfl (rfl : _ = B (!((r16.1.Low == r118.Low) && (r16.1.High == r118.High)))) dn) ?_
                refine dS (fun _ k_ => p_mB rfl dn) ?_
                refine dB c120 ?_
                refine dS (fun _ k_ => gT rfl rfl (p_ldA ty23 sz23 (Asr.stays (S97.atX (i := 0) rfl) k_) rfl rfl dn)) ?_
                refine dS (fun _ k_ => gT rfl rfl (p_cvD (B_Point_ok h125) fu38 rfl)) ?_
                refine dS (fun _ k_ => gT rfl rfl (o_neA (xs := [I r38.1.Low, I r38.1.High]) (ys := [I r124.Low, I r124.High]) (T := ((r38.1.Low == r124.Low) && (r38.1.High == r124.High))) rfl rfl eq23 ⟨⟨_, rfl⟩, ⟨⟨_, rfl⟩, trivial⟩⟩ ⟨⟨_, rfl⟩, ⟨⟨_, rfl⟩, trivial⟩⟩ (by simp [Bool.and_eq_true, and_assoc]) dn)) ?_
                refine dS (fun _ k_ => p_pkF rfl (rfl : _ = B (!((r38.1.Low == r124.Low) && (r38.1.High == r124.High)))) dn) ?_
                refine dS (fun _ k_ => p_mB rfl dn) ?_
                refine dB c126 ?_
                refine dS (fun _ k_ => gF rfl rfl dnU) ?_
                refine dS (fun _ k_ => gF rfl rfl dnU) ?_
                refine dS (fun _ k_ => p_pkT rfl (rfl : _ = B true) dn) ?_
                refine dS (fun _ k_ => p_mB rfl dn) ?_
                refine dS (fun _ k_ => gF rfl rfl dnU) ?_
                refine dS (fun _ k_ => gF rfl rfl dnU) ?_
                refine dS (fun _ k_ => p_pkT rfl (rfl : _ = B true) dn) ?_
                refine dS (fun _ k_ => p_mB rfl dn) ?_
                refine dS (fun _ k_ => gF rfl rfl dnU) ?_
                refine dS (fun _ k_ => gF rfl rfl dnU) ?_
                refine dS (fun _ k_ => p_pkT rfl (rfl : _ = B true) dn) ?_
                intro w127 k128; have S129 := S97.call k128
                refine wp_nil ?_
                refine c_true rfl ?_
                refine c_seq ?_
                refine reg ?_
                refine p_aB rfl ?_
                refine wp_nil ?_
                obtain rfl := Option.some.inj H
                refine c_ret ?_; show bodyPostM (Fr none) 0 Tryd.prog Tryd.f19 _ .ret _ _
                refine ret_of (res1 rfl (rvT (rfl : _ = B false))) ?_
                exact ⟨_, rfl, rfl, S129.keep⟩
              · replace H := condF c126 H
                rcases Bool.eq_false_or_eq_true ((r60.1 != 3)) with c130 | c130
                · replace H := condT c130 H
                  refine reg_q mixed 40 (by kernel_rfl) ?_
                  refine dS (fun _ k_ => p_mI rfl dn) ?_
                  refine dS (fun _ k_ => p_cmp rfl rfl rfl dn) ?_
                  refine dS (fun _ k_ => p_mB rfl dn) ?_
                  refine dB c98 ?_
                  refine dS (fun _ k_ => gT rfl rfl (p_mI rfl dn)) ?_
                  refine dS (fun _ k_ => gT rfl rfl (p_cmp rfl rfl rfl dn)) ?_
                  refine dS (fun _ k_ => p_pkF rfl (rfl : _ = B (r38.2 != 0)) dn) ?_
                  refine dS (fun _ k_ => p_mB rfl dn) ?_
                  refine dB c102 ?_
                  refine dS (fun _ k_ => gT rfl rfl (p_mI rfl dn)) ?_
                  refine dS (fun _ k_ => gT rfl rfl (p_cmp rfl rfl rfl dn)) ?_
                  refine dS (fun _ k_ => p_pkF rfl (rfl : _ = B (r60.2 != 0)) dn) ?_
                  refine dS (fun _ k_ => p_mB rfl dn) ?_
                  refine dB c106 ?_
                  refine dS (fun _ k_ => gT rfl rfl (p_mI rfl dn)) ?_
                  refine dS (fun _ k_ => gT rfl rfl (p_cmp rfl rfl rfl dn)) ?_
                  refine dS (fun _ k_ => p_pkF rfl (rfl : _ = B (r77.2 != 0)) dn) ?_
                  refine dS (fun _ k_ => p_mB rfl dn) ?_
                  refine dB c110 ?_
                  refine dS (fun _ k_ => gT rfl rfl (p_mI rfl dn)) ?_
                  refine dS (fun _ k_ => gT rfl rfl (p_cmp rfl rfl rfl dn)) ?_
                  refine dS (fun _ k_ => p_pkF rfl (rfl : _ = B (r94.2 != 0)) dn) ?_
                  refine dS (fun _ k_ => p_mB rfl dn) ?_
                  refine dB c114 ?_
                  refine dS (fun _ k_ => gT rfl rfl (p_ldA ty23 sz23 (Asr.stays (S97.atX (i := 1) rfl) k_) rfl rfl dn)) ?_
                  refine dS (fun _ k_ => gT rfl rfl (p_cvD (B_Range_ok h119) fu44 rfl)) ?_
                  refine dS (fun _ k_ => gT rfl rfl (o_neA (xs := [I r16.1.Low, I r16.1.High]) (ys := [I r118.Low, I r118.High]) (T := ((r16.1.Low == r118.Low) && (r16.1.High == r118.High))) rfl rfl eq23 ⟨⟨_, rfl⟩, ⟨⟨_, rfl⟩, trivial⟩⟩ ⟨⟨_, rfl⟩, ⟨⟨_, rfl⟩, trivial⟩⟩ (by simp [Bool.and_eq_true, and_assoc]) dn)) ?_
                  refine dS (fun _ k_ => p_pkF rfl (rfl : _ = B (!((r16.1.Low == r118.Low) && (r16.1.High == r118.High)))) dn) ?_
                  refine dS (fun _ k_ => p_mB rfl dn) ?_
                  refine dB c120 ?_
                  refine dS (fun _ k_ => gT rfl rfl (p_ldA ty23 sz23 (Asr.stays (S97.atX (i := 0) rfl) k_) rfl rfl dn)) ?_
                  refine dS (fun _ k_ => gT rfl rfl (p_cvD (B_Point_ok h125) fu38 rfl)) ?_
                  refine dS (fun _ k_ => gT rfl rfl (o_neA (xs := [I r38.1.Low, I r38.1.High]) (ys := [I r124.Low, I r124.High]) (T := ((r38.1.Low == r124.Low) && (r38.1.High == r124.High))) rfl rfl eq23 ⟨⟨_, rfl⟩, ⟨⟨_, rfl⟩, trivial⟩⟩ ⟨⟨_, rfl⟩, ⟨⟨_, rfl⟩, trivial⟩⟩ (by simp [Bool.and_eq_true, and_assoc]) dn)) ?_
                  refine dS (fun _ k_ => p_pkF rfl (rfl : _ = B (!((r38.1.Low == r124.Low) && (r38.1.High == r124.High)))) dn) ?_
                  refine dS (fun _ k_ => p_mB rfl dn) ?_
                  refine dB c126 ?_
                  refine dS (fun _ k_ => gT rfl rfl (p_mI rfl dn)) ?_
                  refine dS (fun _ k_ => gT rfl rfl (p_cmp rfl rfl rfl dn)) ?_
                  refine dS (fun _ k_ => p_pkF rfl (rfl : _ = B (r60.1 != 3)) dn) ?_
                  refine dS (fun _ k_ => p_mB rfl dn) ?_
                  refine dB c130 ?_
                  refine dS (fun _ k_ => gF rfl rfl dnU) ?_
                  refine dS (fun _ k_ => gF rfl rfl dnU) ?_
                  refine dS (fun _ k_ => p_pkT rfl (rfl : _ = B true) dn) ?_
                  refine dS (fun _ k_ => p_mB rfl dn) ?_
                  refine dS (fun _ k_ => gF rfl rfl dnU) ?_
                  refine dS (fun _ k_ => gF rfl rfl dnU) ?_
                  refine dS (fun _ k_ => p_pkT rfl (rfl : _ = B true) dn) ?_
                  intro w131 k132; have S133 := S97.call k132
                  refine wp_nil ?_
                  refine c_true rfl ?_
                  refine c_seq ?_
                  refine reg ?_
                  refine p_aB rfl ?_
                  refine wp_nil ?_
                  obtain rfl := Option.some.inj H
                  refine c_ret ?_; show bodyPostM (Fr none) 0 Tryd.prog Tryd.f19 _ .ret _ _
                  refine ret_of (res1 rfl (rvT (rfl : _ = B false))) ?_
                  exact ⟨_, rfl, rfl, S133.keep⟩
                · replace H := condF c130 H
                  rcases Bool.eq_false_or_eq_true ((r77.1 != 2)) with c134 | c134
                  · replace H := condT c134 H
                    refine reg_q mixed 40 (by kernel_rfl) ?_
                    refine dS (fun _ k_ => p_mI rfl dn) ?_
                    refine dS (fun _ k_ => p_cmp rfl rfl rfl dn) ?_
                    refine dS (fun _ k_ => p_mB rfl dn) ?_
                    refine dB c98 ?_
                    refine dS (fun _ k_ => gT rfl rfl (p_mI rfl dn)) ?_
                    refine dS (fun _ k_ => gT rfl rfl (p_cmp rfl rfl rfl dn)) ?_
                    refine dS (fun _ k_ => p_pkF rfl (rfl : _ = B (r38.2 != 0)) dn) ?_
                    refine dS (fun _ k_ => p_mB rfl dn) ?_
                    refine dB c102 ?_
                    refine dS (fun _ k_ => gT rfl rfl (p_mI rfl dn)) ?_
                    refine dS (fun _ k_ => gT rfl rfl (p_cmp rfl rfl rfl dn)) ?_
                    refine dS (fun _ k_ => p_pkF rfl (rfl : _ = B (r60.2 != 0)) dn) ?_
                    refine dS (fun _ k_ => p_mB rfl dn) ?_
                    refine dB c106 ?_
                    refine dS (fun _ k_ => gT rfl rfl (p_mI rfl dn)) ?_
                    refine dS (fun _ k_ => gT rfl rfl (p_cmp rfl rfl rfl dn)) ?_
                    refine dS (fun _ k_ => p_pkF rfl (rfl : _ = B (r77.2 != 0)) dn) ?_
                    refine dS (fun _ k_ => p_mB rfl dn) ?_
                    refine dB c110 ?_
                    refine dS (fun _ k_ => gT rfl rfl (p_mI rfl dn)) ?_
                    refine dS (fun _ k_ => gT rfl rfl (p_cmp rfl rfl rfl dn)) ?_
                    refine dS (fun _ k_ => p_pkF rfl (rfl : _ = B (r94.2 != 0)) dn) ?_
                    refine dS (fun _ k_ => p_mB rfl dn) ?_
                    refine dB c114 ?_
                    refine dS (fun _ k_ => gT rfl rfl (p_ldA ty23 sz23 (Asr.stays (S97.atX (i := 1) rfl) k_) rfl rfl dn)) ?_
                    refine dS (fun _ k_ => gT rfl rfl (p_cvD (B_Range_ok h119) fu44 rfl)) ?_
                    refine dS (fun _ k_ => gT rfl rfl (o_neA (xs := [I r16.1.Low, I r16.1.High]) (ys := [I r118.Low, I r118.High]) (T := ((r16.1.Low == r118.Low) && (r16.1.High == r118.High))) rfl rfl eq23 ⟨⟨_, rfl⟩, ⟨⟨_, rfl⟩, trivial⟩⟩ ⟨⟨_, rfl⟩, ⟨⟨_, rfl⟩, trivial⟩⟩ (by simp [Bool.and_eq_true, and_assoc]) dn)) ?_
                    refine dS (fun _ k_ => p_pkF rfl (rfl : _ = B (!((r16.1.Low == r118.Low) && (r16.1.High == r118.High)))) dn) ?_
                    refine dS (fun _ k_ => p_mB rfl dn) ?_
                    refine dB c120 ?_
                    refine dS (fun _ k_ => gT rfl rfl (p_ldA ty23 sz23 (Asr.stays (S97.atX (i := 0) rfl) k_) rfl rfl dn)) ?_
                    refine dS (fun _ k_ => gT rfl rfl (p_cvD (B_Point_ok h125) fu38 rfl)) ?_
                    refine dS (fun _ k_ => gT rfl rfl (o_neA (xs := [I r38.1.Low, I r38.1.High]) (ys := [I r124.Low, I r124.High]) (T := ((r38.1.Low == r124.Low) && (r38.1.High == r124.High))) rfl rfl eq23 ⟨⟨_, rfl⟩, ⟨⟨_, rfl⟩, trivial⟩⟩ ⟨⟨_, rfl⟩, ⟨⟨_, rfl⟩, trivial⟩⟩ (by simp [Bool.and_eq_true, and_assoc]) dn)) ?_
                    refine dS (fun _ k_ => p_pkF rfl (rfl : _ = B (!((r38.1.Low == r124.Low) && (r38.1.High == r124.High)))) dn) ?_
                    refine dS (fun _ k_ => p_mB rfl dn) ?_
                    refine dB c126 ?_
                    refine dS (fun _ k_ => gT rfl rfl (p_mI rfl dn)) ?_
                    refine dS (fun _ k_ => gT rfl rfl (p_cmp rfl rfl rfl dn)) ?_
                    refine dS (fun _ k_ => p_pkF rfl (rfl : _ = B (r60.1 != 3)) dn) ?_
                    refine dS (fun _ k_ => p_mB rfl dn) ?_
                    refine dB c130 ?_
                    refine dS (fun _ k_ => gT rfl rfl (p_mI rfl dn)) ?_
                    refine dS (fun _ k_ => gT rfl rfl (p_cmp rfl rfl rfl dn)) ?_
                    refine dS (fun _ k_ => p_pkF rfl (rfl : _ = B (r77.1 != 2)) dn) ?_
                    refine dS (fun _ k_ => p_mB rfl dn) ?_
                    refine dB c134 ?_
                    refine dS (fun _ k_ => gF rfl rfl dnU) ?_
                    refine dS (fun _ k_ => gF rfl rfl dnU) ?_
                    refine dS (fun _ k_ => p_pkT rfl (rfl : _ = B true) dn) ?_
                    intro w135 k136; have S137 := S97.call k136
                    refine wp_nil ?_
                    refine c_true rfl ?_
                    refine c_seq ?_
                    refine reg ?_
                    refine p_aB rfl ?_
                    refine wp_nil ?_
                    obtain rfl := Option.some.inj H
                    refine c_ret ?_; show bodyPostM (Fr none) 0 Tryd.prog Tryd.f19 _ .ret _ _
                    refine ret_of (res1 rfl (rvT (rfl : _ = B false))) ?_
                    exact ⟨_, rfl, rfl, S137.keep⟩
                  · replace H := condF c134 H
                    refine reg_q mixed 40 (by kernel_rfl) ?_
                    refine dS (fun _ k_ => p_mI rfl dn) ?_
                    refine dS (fun _ k_ => p_cmp rfl rfl rfl dn) ?_
                    refine dS (fun _ k_ => p_mB rfl dn) ?_
                    refine dB c98 ?_
                    refine dS (fun _ k_ => gT rfl rfl (p_mI rfl dn)) ?_
                    refine dS (fun _ k_ => gT rfl rfl (p_cmp rfl rfl rfl dn)) ?_
                    refine dS (fun _ k_ => p_pkF rfl (rfl : _ = B (r38.2 != 0)) dn) ?_
                    refine dS (fun _ k_ => p_mB rfl dn) ?_
                    refine dB c102 ?_
                    refine dS (fun _ k_ => gT rfl rfl (p_mI rfl dn)) ?_
                    refine dS (fun _ k_ => gT rfl rfl (p_cmp rfl rfl rfl dn)) ?_
                    refine dS (fun _ k_ => p_pkF rfl (rfl : _ = B (r60.2 != 0)) dn) ?_
                    refine dS (fun _ k_ => p_mB rfl dn) ?_
                    refine dB c106 ?_
                    refine dS (fun _ k_ => gT rfl rfl (p_mI rfl dn)) ?_
                    refine dS (fun _ k_ => gT rfl rfl (p_cmp rfl rfl rfl dn)) ?_
                    refine dS (fun _ k_ => p_pkF rfl (rfl : _ = B (r77.2 != 0)) dn) ?_
                    refine dS (fun _ k_ => p_mB rfl dn) ?_
                    refine dB c110 ?_
                    refine dS (fun _ k_ => gT rfl rfl (p_mI rfl dn)) ?_
                    refine dS (fun _ k_ => gT rfl rfl (p_cmp rfl rfl rfl dn)) ?_
                    refine dS (fun _ k_ => p_pkF rfl (rfl : _ = B (r94.2 != 0)) dn) ?_
                    refine dS (fun _ k_ => p_mB rfl dn) ?_
                    refine dB c114 ?_
                    refine dS (fun _ k_ => gT rfl rfl (p_ldA ty23 sz23 (Asr.stays (S97.atX (i := 1) rfl) k_) rfl rfl dn)) ?_
                    refine dS (fun _ k_ => gT rfl rfl (p_cvD (B_Range_ok h119) fu44 rfl)) ?_
                    refine dS (fun _ k_ => gT rfl rfl (o_neA (xs := [I r16.1.Low, I r16.1.High]) (ys := [I r118.Low, I r118.High]) (T := ((r16.1.Low == r118.Low) && (r16.1.High == r118.High))) rfl rfl eq23 ⟨⟨_, rfl⟩, ⟨⟨_, rfl⟩, trivial⟩⟩ ⟨⟨_, rfl⟩, ⟨⟨_, rfl⟩, trivial⟩⟩ (by simp [Bool.and_eq_true, and_assoc]) dn)) ?_
                    refine dS (fun _ k_ => p_pkF rfl (rfl : _ = B (!((r16.1.Low == r118.Low) && (r16.1.High == r118.High)))) dn) ?_
                    refine dS (fun _ k_ => p_mB rfl dn) ?_
                    refine dB c120 ?_
                    refine dS (fun _ k_ => gT rfl rfl (p_ldA ty23 sz23 (Asr.stays (S97.atX (i := 0) rfl) k_) rfl rfl dn)) ?_
                    refine dS (fun _ k_ => gT rfl rfl (p_cvD (B_Point_ok h125) fu38 rfl)) ?_
                    refine dS (fun _ k_ => gT rfl rfl (o_neA (xs := [I r38.1.Low, I r38.1.High]) (ys := [I r124.Low, I r124.High]) (T := ((r38.1.Low == r124.Low) && (r38.1.High == r124.High))) rfl rfl eq23 ⟨⟨_, rfl⟩, ⟨⟨_, rfl⟩, trivial⟩⟩ ⟨⟨_, rfl⟩, ⟨⟨_, rfl⟩, trivial⟩⟩ (by simp [Bool.and_eq_true, and_assoc]) dn)) ?_
                    refine dS (fun _ k_ => p_pkF rfl (rfl : _ = B (!((r38.1.Low == r124.Low) && (r38.1.High == r124.High)))) dn) ?_
                    refine dS (fun _ k_ => p_mB rfl dn) ?_
                    refine dB c126 ?_
                    refine dS (fun _ k_ => gT rfl rfl (p_mI rfl dn)) ?_
                    refine dS (fun _ k_ => gT rfl rfl (p_cmp rfl rfl rfl dn)) ?_
                    refine dS (fun _ k_ => p_pkF rfl (rfl : _ = B (r60.1 != 3)) dn) ?_
                    refine dS (fun _ k_ => p_mB rfl dn) ?_
                    refine dB c130 ?_
                    refine dS (fun _ k_ => gT rfl rfl (p_mI rfl dn)) ?_
                    refine dS (fun _ k_ => gT rfl rfl (p_cmp rfl rfl rfl dn)) ?_
                    refine dS (fun _ k_ => p_pkF rfl (rfl : _ = B (r77.1 != 2)) dn) ?_
                    refine dS (fun _ k_ => p_mB rfl dn) ?_
                    refine dB c134 ?_
                    refine dS (fun _ k_ => gT rfl rfl (p_mI rfl dn)) ?_
                    refine dS (fun _ k_ => gT rfl rfl (p_cmp rfl rfl rfl dn)) ?_
                    refine dS (fun _ k_ => p_pkF rfl (rfl : _ = B (r94.1 != 2)) dn) ?_
                    intro w138 k139; have S140 := S97.call k139
                    refine wp_nil ?_
                    refine c_cond rfl (fun c141 => ?_) (fun c141 => ?_)
                    · replace H := condT c141 H
                      refine c_seq ?_
                      refine reg ?_
                      refine p_aB rfl ?_
                      refine wp_nil ?_
                      obtain rfl := Option.some.inj H
                      refine c_ret ?_; show bodyPostM (Fr none) 0 Tryd.prog Tryd.f19 _ .ret _ _
                      refine ret_of (res1 rfl (rvT (rfl : _ = B false))) ?_
                      exact ⟨_, rfl, rfl, S140.keep⟩
                    · replace H := condF c141 H
                      refine c_skip ?_
                      refine c_seq ?_
                      refine reg ?_
                      obtain ⟨r142, h143, H⟩ := bindS H
                      refine p_cal (law_own_ok h143) fu50 rfl ?_
                      rintro _ w144 ⟨A146, c147, A148, c149, rfl, k145, ⟨o150, n151⟩, ⟨o152, n153⟩, _⟩
                      have S154 := S140.callN k145 [rd eCoalDay 3 A146 c147 r142.Days, rd eCoalDip 3 A148 c149 r142.Dips] (List.forall_mem_cons.2 ⟨⟨o150, New.inL n151⟩, (List.forall_mem_cons.2 ⟨⟨o152, New.inL n153⟩, (fun _ h_ => (List.not_mem_nil h_).elim)⟩)⟩)
                      obtain ⟨r155, h156, H⟩ := bindS H
                      refine p_cv (coal_Order_ok h156 (S154.atP (i := 0) rfl) (S154.atP (i := 1) rfl) (S154.atP (i := 13) rfl)) fu31 rfl S154 fun w157 S158 => ?_
                      refine p_mT rfl ?_
                      refine p_ext rfl rfl ?_
                      refine p_ext rfl rfl ?_
                      refine p_aI rfl ?_
                      refine p_aI rfl ?_
                      refine wp_nil ?_
                      refine c_seq ?_
                      refine reg ?_
                      obtain ⟨r159, h160, H⟩ := bindS H
                      refine p_cal (law_dipped_ok h160) fu53 rfl ?_
                      rintro _ w161 ⟨A163, c164, A165, c166, rfl, k162, ⟨o167, n168⟩, ⟨o169, n170⟩, _⟩
                      have S171 := S158.callN k162 [rd eCoalDay 3 A163 c164 r159.Days, rd eCoalDip 3 A165 c166 r159.Dips] (List.forall_mem_cons.2 ⟨⟨o167, New.inL n168⟩, (List.forall_mem_cons.2 ⟨⟨o169, New.inL n170⟩, (fun _ h_ => (List.not_mem_nil h_).elim)⟩)⟩)
                      obtain ⟨r172, h173, H⟩ := bindS H
                      refine p_cv (coal_Late_ok h173 (S171.atP (i := 0) rfl) (S171.atP (i := 1) rfl) (S171.atP (i := 15) rfl)) fu45 rfl S171 fun w174 S175 => ?_
                      refine p_mT rfl ?_
                      refine p_ext rfl rfl ?_
                      refine p_ext rfl rfl ?_
                      refine p_aI rfl ?_
                      refine p_aI rfl ?_
                      refine wp_nil ?_
                      refine c_seq ?_
                      refine reg ?_
                      obtain ⟨r176, h177, H⟩ := bindS H
                      refine p_cal (law_torn_ok h177) fu52 rfl ?_
                      rintro _ w178 ⟨A180, c181, A182, c183, rfl, k179, ⟨o184, n185⟩, ⟨o186, n187⟩, _⟩
                      have S188 := S175.callN k179 [rd eCoalDay 3 A180 c181 r176.Days, rd eCoalDip 3 A182 c183 r176.Dips] (List.forall_mem_cons.2 ⟨⟨o184, New.inL n185⟩, (List.forall_mem_cons.2 ⟨⟨o186, New.inL n187⟩, (fun _ h_ => (List.not_mem_nil h_).elim)⟩)⟩)
                      obtain ⟨r189, h190, H⟩ := bindS H
                      refine p_cal (coal_Wrong_ok h190 (S188.atP (i := 0) rfl) (S188.atP (i := 1) rfl) (S188.atP (i := 17) rfl)) fu27 rfl ?_
                      rintro _ w191 ⟨A193, c194, rfl, k192, ⟨o195, n196⟩, _⟩
                      have S197 := S188.callN k192 [rd intE 1 A193 c194 r189.1] (List.forall_mem_cons.2 ⟨⟨o195, Al.inL n196 ((List.forall_mem_cons.2 ⟨(fp_mem (i := 0) rfl), (List.forall_mem_cons.2 ⟨(fp_mem (i := 1) rfl), (fun _ h_ => (List.not_mem_nil h_).elim)⟩)⟩))⟩, (fun _ h_ => (List.not_mem_nil h_).elim)⟩)
                      refine p_mT rfl ?_
                      refine p_ext rfl rfl ?_
                      refine p_ext rfl rfl ?_
                      refine p_aS rfl ?_
                      refine p_aI rfl ?_
                      refine wp_nil ?_
                      refine c_seq ?_
                      refine reg ?_
                      obtain ⟨r198, h199, H⟩ := bindS H
                      refine p_cal (law_own_ok h199) fu50 rfl ?_
                      rintro _ w200 ⟨A202, c203, A204, c205, rfl, k201, ⟨o206, n207⟩, ⟨o208, n209⟩, _⟩
                      have S210 := S197.callN k201 [rd eCoalDay 3 A202 c203 r198.Days, rd eCoalDip 3 A204 c205 r198.Dips] (List.forall_mem_cons.2 ⟨⟨o206, New.inL n207⟩, (List.forall_mem_cons.2 ⟨⟨o208, New.inL n209⟩, (fun _ h_ => (List.not_mem_nil h_).elim)⟩)⟩)
                      obtain ⟨r211, h212, H⟩ := bindS H
                      refine p_cv (coal_Right_ok h212 (S210.atP (i := 0) rfl) (S210.atP (i := 1) rfl) (S210.atP (i := 20) rfl)) fu26 rfl S210 fun w213 S214 => ?_
                      refine p_mT rfl ?_
                      refine p_ext rfl rfl ?_
                      refine p_ext rfl rfl ?_
                      refine p_aB rfl ?_
                      refine p_aI rfl ?_
                      refine wp_nil ?_
                      refine c_seq ?_
                      refine reg ?_
                      refine p_mI rfl ?_
                      refine p_cmp rfl rfl rfl ?_
                      refine p_mB rfl ?_
                      rcases Bool.eq_false_or_eq_true ((r155.2 == 0)) with c215 | c215
                      · replace H := condT c215 H
                        refine eB c215 ?_
                        refine gT rfl rfl (p_mI rfl ?_)
                        refine gT rfl rfl (p_cmp rfl rfl rfl ?_)
                        refine p_pkT rfl (rfl : _ = B (r172.2 == 0)) ?_
                        refine p_mB rfl ?_
                        rcases Bool.eq_false_or_eq_true ((r172.2 == 0)) with c216 | c216
                        · replace H := condT c216 H
                          refine eB c216 ?_
                          refine gT rfl rfl (p_mI rfl ?_)
                          refine gT rfl rfl (p_cmp rfl rfl rfl ?_)
                          refine p_pkT rfl (rfl : _ = B (r189.2 == 0)) ?_
                          refine p_mB rfl ?_
                          rcases Bool.eq_false_or_eq_true ((r189.2 == 0)) with c217 | c217
                          · replace H := condT c217 H
                            refine eB c217 ?_
                            refine gT rfl rfl (p_mI rfl ?_)
                            refine gT rfl rfl (p_cmp rfl rfl rfl ?_)
                            refine p_pkT rfl (rfl : _ = B (r211.2 == 0)) ?_
                            refine p_mB rfl ?_
                            rcases Bool.eq_false_or_eq_true ((r211.2 == 0)) with c218 | c218
                            · replace H := condT c218 H
                              refine eB c218 ?_
                              refine gT rfl rfl (p_mI rfl ?_)
                              refine gT rfl rfl (p_cmp rfl rfl rfl ?_)
                              refine p_pkT rfl (rfl : _ = B (r155.1 == 8)) ?_
                              refine p_mB rfl ?_
                              rcases Bool.eq_false_or_eq_true ((r155.1 == 8)) with c219 | c219
                              · replace H := condT c219 H
                                refine eB c219 ?_
                                refine gT rfl rfl (p_mI rfl ?_)
                                refine gT rfl rfl (p_cmp rfl rfl rfl ?_)
                                refine p_pkT rfl (rfl : _ = B (r172.1 == 2)) ?_
                                refine p_mB rfl ?_
                                rcases Bool.eq_false_or_eq_true ((r172.1 == 2)) with c220 | c220
                                · replace H := condT c220 H
                                  refine eB c220 ?_
                                  refine gT rfl rfl (p_mS rfl ?_)
                                  refine gT rfl rfl ?_
                                  refine p_bsl (enc := intE) (l := ([0] : List Int)) I (fun _ => rfl) sc39 in3 intE_len rfl (by decide) (by decide) zr3_1 S214 rfl fun A221 c222 w223 S224 => ?_
                                  obtain ⟨r226, h227, H⟩ := bindS H
                                  refine gT rfl rfl (p_cv (B_Alike_ok h227 (S224.atP (i := 2) rfl) (gr_rd intE_len (S224.atX (i := 0) rfl))) fu43 rfl S224 fun w228 S229 => ?_)
                                  refine p_pkT rfl (rfl : _ = B r226) ?_
                                  refine p_mB rfl ?_
                                  rcases Bool.eq_false_or_eq_true (r226) with c230 | c230
                                  · replace H := condT c230 H
                                    refine eB c230 ?_
                                    refine gT rfl rfl (p_mB rfl ?_)
                                    refine p_pkT rfl (rfl : _ = B r211.1) ?_
                                    refine p_aB rfl ?_
                                    refine wp_nil ?_
                                    obtain rfl := Option.some.inj H
                                    refine c_ret ?_; show bodyPostM (Fr none) 0 Tryd.prog Tryd.f19 _ .ret _ _
                                    refine ret_of (res1 rfl (rvT (rfl : _ = B r211.1))) ?_
                                    exact ⟨_, rfl, rfl, S229.keep⟩
                                  · replace H := condF c230 H
                                    refine eB c230 ?_
                                    refine gF rfl rfl ?_
                                    refine p_pkF rfl (rfl : _ = B false) ?_
                                    refine p_aB rfl ?_
                                    refine wp_nil ?_
                                    obtain rfl := Option.some.inj H
                                    refine c_ret ?_; show bodyPostM (Fr none) 0 Tryd.prog Tryd.f19 _ .ret _ _
                                    refine ret_of (res1 rfl (rvT (rfl : _ = B false))) ?_
                                    exact ⟨_, rfl, rfl, S229.keep⟩
                                · replace H := condF c220 H
                                  refine eB c220 ?_
                                  refine gF rfl rfl ?_
                                  refine gF rfl rfl ?_
                                  refine gF rfl rfl ?_
                                  refine p_pkF rfl (rfl : _ = B false) ?_
                                  refine p_mB rfl ?_
                                  refine gF rfl rfl ?_
                                  refine p_pkF rfl (rfl : _ = B false) ?_
                                  refine p_aB rfl ?_
                                  refine wp_nil ?_
                                  obtain rfl := Option.some.inj H
                                  refine c_ret ?_; show bodyPostM (Fr none) 0 Tryd.prog Tryd.f19 _ .ret _ _
                                  refine ret_of (res1 rfl (rvT (rfl : _ = B false))) ?_
                                  exact ⟨_, rfl, rfl, S214.keep⟩
                              · replace H := condF c219 H
                                refine eB c219 ?_
                                refine gF rfl rfl ?_
                                refine gF rfl rfl ?_
                                refine p_pkF rfl (rfl : _ = B false) ?_
                                refine p_mB rfl ?_
                                refine gF rfl rfl ?_
                                refine gF rfl rfl ?_
                                refine gF rfl rfl ?_
                                refine p_pkF rfl (rfl : _ = B false) ?_
                                refine p_mB rfl ?_
                                refine gF rfl rfl ?_
                                refine p_pkF rfl (rfl : _ = B false) ?_
                                refine p_aB rfl ?_
                                refine wp_nil ?_
                                obtain rfl := Option.some.inj H
                                refine c_ret ?_; show bodyPostM (Fr none) 0 Tryd.prog Tryd.f19 _ .ret _ _
                                refine ret_of (res1 rfl (rvT (rfl : _ = B false))) ?_
                                exact ⟨_, rfl, rfl, S214.keep⟩
                            · replace H := condF c218 H
                              refine eB c218 ?_
                              refine gF rfl rfl ?_
                              refine gF rfl rfl ?_
                              refine p_pkF rfl (rfl : _ = B false) ?_
                              refine p_mB rfl ?_
                              refine gF rfl rfl ?_
                              refine gF rfl rfl ?_
                              refine p_pkF rfl (rfl : _ = B false) ?_
                              refine p_mB rfl ?_
                              refine gF rfl rfl ?_
                              refine gF rfl rfl ?_
                              refine gF rfl rfl ?_
                              refine p_pkF rfl (rfl : _ = B false) ?_
                              refine p_mB rfl ?_
                              refine gF rfl rfl ?_
                              refine p_pkF rfl (rfl : _ = B false) ?_
                              refine p_aB rfl ?_
                              refine wp_nil ?_
                              obtain rfl := Option.some.inj H
                              refine c_ret ?_; show bodyPostM (Fr none) 0 Tryd.prog Tryd.f19 _ .ret _ _
                              refine ret_of (res1 rfl (rvT (rfl : _ = B false))) ?_
                              exact ⟨_, rfl, rfl, S214.keep⟩
                          · replace H := condF c217 H
                            refine eB c217 ?_
                            refine gF rfl rfl ?_
                            refine gF rfl rfl ?_
                            refine p_pkF rfl (rfl : _ = B false) ?_
                            refine p_mB rfl ?_
                            refine gF rfl rfl ?_
                            refine gF rfl rfl ?_
                            refine p_pkF rfl (rfl : _ = B false) ?_
                            refine p_mB rfl ?_
                            refine gF rfl rfl ?_
                            refine gF rfl rfl ?_
                            refine p_pkF rfl (rfl : _ = B false) ?_
                            refine p_mB rfl ?_
                            refine gF rfl rfl ?_
                            refine gF rfl rfl ?_
                            refine gF rfl rfl ?_
                            refine p_pkF rfl (rfl : _ = B false) ?_
                            refine p_mB rfl ?_
                            refine gF rfl rfl ?_
                            refine p_pkF rfl (rfl : _ = B false) ?_
                            refine p_aB rfl ?_
                            refine wp_nil ?_
                            obtain rfl := Option.some.inj H
                            refine c_ret ?_; show bodyPostM (Fr none) 0 Tryd.prog Tryd.f19 _ .ret _ _
                            refine ret_of (res1 rfl (rvT (rfl : _ = B false))) ?_
                            exact ⟨_, rfl, rfl, S214.keep⟩
                        · replace H := condF c216 H
                          refine eB c216 ?_
                          refine gF rfl rfl ?_
                          refine gF rfl rfl ?_
                          refine p_pkF rfl (rfl : _ = B false) ?_
                          refine p_mB rfl ?_
                          refine gF rfl rfl ?_
                          refine gF rfl rfl ?_
                          refine p_pkF rfl (rfl : _ = B false) ?_
                          refine p_mB rfl ?_
                          refine gF rfl rfl ?_
                          refine gF rfl rfl ?_
                          refine p_pkF rfl (rfl : _ = B false) ?_
                          refine p_mB rfl ?_
                          refine gF rfl rfl ?_
                          refine gF rfl rfl ?_
                          refine p_pkF rfl (rfl : _ = B false) ?_
                          refine p_mB rfl ?_
                          refine gF rfl rfl ?_
                          refine gF rfl rfl ?_
                          refine gF rfl rfl ?_
                          refine p_pkF rfl (rfl : _ = B false) ?_
                          refine p_mB rfl ?_
                          refine gF rfl rfl ?_
                          refine p_pkF rfl (rfl : _ = B false) ?_
                          refine p_aB rfl ?_
                          refine wp_nil ?_
                          obtain rfl := Option.some.inj H
                          refine c_ret ?_; show bodyPostM (Fr none) 0 Tryd.prog Tryd.f19 _ .ret _ _
                          refine ret_of (res1 rfl (rvT (rfl : _ = B false))) ?_
                          exact ⟨_, rfl, rfl, S214.keep⟩
                      · replace H := condF c215 H
                        refine eB c215 ?_
                        refine gF rfl rfl ?_
                        refine gF rfl rfl ?_
                        refine p_pkF rfl (rfl : _ = B false) ?_
                        refine p_mB rfl ?_
                        refine gF rfl rfl ?_
                        refine gF rfl rfl ?_
                        refine p_pkF rfl (rfl : _ = B false) ?_
                        refine p_mB rfl ?_
                        refine gF rfl rfl ?_
                        refine gF rfl rfl ?_
                        refine p_pkF rfl (rfl : _ = B false) ?_
                        refine p_mB rfl ?_
                        refine gF rfl rfl ?_
                        refine gF rfl rfl ?_
                        refine p_pkF rfl (rfl : _ = B false) ?_
                        refine p_mB rfl ?_
                        refine gF rfl rfl ?_
                        refine gF rfl rfl ?_
                        refine p_pkF rfl (rfl : _ = B false) ?_
                        refine p_mB rfl ?_
                        refine gF rfl rfl ?_
                        refine gF rfl rfl ?_
                        refine gF rfl rfl ?_
                        refine p_pkF rfl (rfl : _ = B false) ?_
                        refine p_mB rfl ?_
                        refine gF rfl rfl ?_
                        refine p_pkF rfl (rfl : _ = B false) ?_
                        refine p_aB rfl ?_
                        refine wp_nil ?_
                        obtain rfl := Option.some.inj H
                        refine c_ret ?_; show bodyPostM (Fr none) 0 Tryd.prog Tryd.f19 _ .ret _ _
                        refine ret_of (res1 rfl (rvT (rfl : _ = B false))) ?_
                        exact ⟨_, rfl, rfl, S214.keep⟩

def law_sound_l7 (a0 : CoalBook) (rec_z_8 : (Bool × Int) → Option Bool) (z_8 : Bool × Int) : Option Bool :=
  bif z_8.1 then (bif decide (z_8.2 < (a0.Dips.length : Int)) then ((getI a0.Dips z_8.2).bind fun r28 =>
  (B_Inside r28.Day 0 (wr ((a0.Days.length : Int) - 1))).bind fun r30 =>
  bif r30 then ((getI a0.Dips z_8.2).bind fun r33 =>
  (B_Inside r33.Error 0 9).bind fun r35 =>
  rec_z_8 (r35, wr (z_8.2 + 1)))
  else (rec_z_8 (false, wr (z_8.2 + 1))))
  else (some z_8.1))
  else (some z_8.1)

def law_sound_j8 (a0 : CoalBook) (z_7 : Bool) : Option Bool :=
  loopF (law_sound_l7 a0) big (z_7, 0)

def law_sound_l9 (a0 : CoalBook) (rec_z_6 : (Bool × Int) → Option Bool) (z_6 : Bool × Int) : Option Bool :=
  bif z_6.1 then (bif decide (z_6.2 < (a0.Days.length : Int)) then ((getI a0.Days z_6.2).bind fun r25 =>
  (B_Inside r25.Crosses 0 9).bind fun r32 =>
  bif r32 then ((B_Inside r25.Engines 1 3).bind fun r37 =>
  bif r37 then ((B_Inside r25.Winds 1 7).bind fun r42 =>
  rec_z_6 (r42, wr (z_6.2 + 1)))
  else (rec_z_6 (false, wr (z_6.2 + 1))))
  else (rec_z_6 (false, wr (z_6.2 + 1))))
  else (law_sound_j8 a0 z_6.1))
  else (law_sound_j8 a0 z_6.1)

def law_sound_j10 (a0 : CoalBook) (z_5 : Bool) : Option Bool :=
  loopF (law_sound_l9 a0) big (z_5, 0)

def law_sound_l11 (a0 : CoalBook) (rec_z_4 : (Bool × Int) → Option Bool) (z_4 : Bool × Int) : Option Bool :=
  bif z_4.1 then (bif decide (z_4.2 < 3) then (need (inI z_4.2 3) <|
  (B_Inside (aget a0.Extra z_4.2) 0 9).bind fun r23 =>
  rec_z_4 (r23, wr (z_4.2 + 1)))
  else (law_sound_j10 a0 z_4.1))
  else (law_sound_j10 a0 z_4.1)

def law_sound_j12 (a0 : CoalBook) (z_3 : Bool) : Option Bool :=
  loopF (law_sound_l11 a0) big (z_3, 0)

def law_sound_l13 (a0 : CoalBook) (rec_z_2 : (Bool × Int) → Option Bool) (z_2 : Bool × Int) : Option Bool :=
  bif z_2.1 then (bif decide (z_2.2 < 2) then (need (inI z_2.2 2) <|
  (B_Valid (agetS a0.Eats z_2.2) 0 9).bind fun r20 =>
  rec_z_2 (r20, wr (z_2.2 + 1)))
  else (law_sound_j12 a0 z_2.1))
  else (law_sound_j12 a0 z_2.1)

def law_sound_j14 (a0 : CoalBook) (z_1 : Bool) : Option Bool :=
  loopF (law_sound_l13 a0) big (z_1, 0)

def law_sound (a0 : CoalBook) : Option Bool :=
  (coal_Check a0).bind fun r10 =>
  bif (r10 == 0) then ((B_Valid a0.Heap 0 400).bind fun r15 =>
  bif r15 then ((B_Inside (a0.Days.length : Int) 1 6).bind fun r20 =>
  bif r20 then ((B_Valid a0.Collier 0 (a0.Days.length : Int)).bind fun r25 =>
  bif r25 then ((B_Inside a0.Brings 0 400).bind fun r30 =>
  bif r30 then (law_sound_j14 a0 (decide ((a0.Dips.length : Int) ≤ 4)))
  else (law_sound_j14 a0 false))
  else (law_sound_j14 a0 false))
  else (law_sound_j14 a0 false))
  else (law_sound_j14 a0 false))
  else (law_sound_j14 a0 false)

set_option maxRecDepth 100000 in
theorem law_sound_ok {a0 : CoalBook} {A1 : Option Addr} {c2 : Nat} {A4 : Option Addr} {c5 : Nat} {w : World} {r : Bool} (H : law_sound a0 = some r) (h3 : (rd eCoalDay 3 A1 c2 a0.Days).ok w) (h6 : (rd eCoalDip 3 A4 c5 a0.Dips).ok w) : Calls Tryd.prog 22 #[AG ([I a0.Heap.Low, I a0.Heap.High] ++ (sgE eSpan a0.Eats 2 ++ (sg a0.Extra 3 ++ [SL A1 a0.Days.length c2, I a0.Collier.Low, I a0.Collier.High, I a0.Brings, SL A4 a0.Dips.length c5])))] w (RetV w (B r)) := by
  unfold law_sound at H
  refine fn_of (n := 125) Tryd.func22 rfl rfl (Nat.le_of_ble_eq_true rfl) ?_
  have S : St w (fun _ => False) w [] [rd eCoalDay 3 A1 c2 a0.Days, rd eCoalDip 3 A4 c5 a0.Dips] := St.start w _ _ (List.forall_mem_cons.2 ⟨h3, (List.forall_mem_cons.2 ⟨h6, (fun _ h_ => (List.not_mem_nil h_).elim)⟩)⟩)
  refine c_seq ?_
  refine reg ?_
  refine p_boxA rfl S fun b7 w8 S9 => ?_
  refine p_aB rfl ?_
  refine wp_nil ?_
  refine c_join (α := Bool) (β := Unit) (fun z_1 y_1 => [(1, P b7 0), (3, B z_1)]) (fun z_1 y_1 w_ => law_sound_j14 a0 z_1 = some r ∧ St w (fun _ => False) w_ [bl b7 ([I a0.Heap.Low, I a0.Heap.High] ++ (sgE eSpan a0.Eats 2 ++ (sg a0.Extra 3 ++ [SL A1 a0.Days.length c2, I a0.Collier.Low, I a0.Collier.High, I a0.Brings, SL A4 a0.Dips.length c5]))) 29] [rd eCoalDay 3 A1 c2 a0.Days, rd eCoalDip 3 A4 c5 a0.Dips]) ?_ ?_
  · refine reg ?_
    refine p_ldA ty29 sz29 (S9.atX (i := 0) rfl) rfl rfl ?_
    obtain ⟨r10, h11, H⟩ := bindS H
    refine p_cv (coal_Check_ok h11 (S9.atP (i := 0) rfl) (S9.atP (i := 1) rfl)) fu41 rfl S9 fun w12 S13 => ?_
    refine p_cmp rfl rfl rfl ?_
    refine p_mB rfl ?_
    rcases Bool.eq_false_or_eq_true ((r10 == 0)) with c14 | c14
    · replace H := condT c14 H
      refine eB c14 ?_
      refine gT rfl rfl (p_fld fl29_0 rfl ?_)
      refine gT rfl rfl (p_ldP (vs := [I a0.Heap.Low, I a0.Heap.High]) ty23 sz23 (S13.atX (i := 0) rfl) rfl rfl rfl ?_)
      obtain ⟨r15, h16, H⟩ := bindS H
      refine gT rfl rfl (p_cv (B_Valid_ok h16) fu68 rfl S13 fun w17 S18 => ?_)
      refine p_pkT rfl (rfl : _ = B r15) ?_
      refine p_mB rfl ?_
      rcases Bool.eq_false_or_eq_true (r15) with c19 | c19
      · replace H := condT c19 H
        refine eB c19 ?_
        refine gT rfl rfl (p_fld fl29_3 rfl ?_)
        refine gT rfl rfl (p_ld ty26 (S18.atX (i := 0) rfl) rfl rfl ?_)
        refine gT rfl rfl (p_len rfl sc26 ?_)
        obtain ⟨r20, h21, H⟩ := bindS H
        refine gT rfl rfl (p_cv (B_Inside_ok h21) fu34 rfl S18 fun w22 S23 => ?_)
        refine p_pkT rfl (rfl : _ = B r20) ?_
        refine p_mB rfl ?_
        rcases Bool.eq_false_or_eq_true (r20) with c24 | c24
        · replace H := condT c24 H
          refine eB c24 ?_
          refine gT rfl rfl (p_fld fl29_4 rfl ?_)
          refine gT rfl rfl (p_ldP (vs := [I a0.Collier.Low, I a0.Collier.High]) ty23 sz23 (S23.atX (i := 0) rfl) rfl rfl rfl ?_)
          refine gT rfl rfl (p_fld fl29_3 rfl ?_)
          refine gT rfl rfl (p_ld ty26 (S23.atX (i := 0) rfl) rfl rfl ?_)
          refine gT rfl rfl (p_len rfl sc26 ?_)
          obtain ⟨r25, h26, H⟩ := bindS H
          refine gT rfl rfl (p_cv (B_Valid_ok h26) fu68 rfl S23 fun w27 S28 => ?_)
          refine p_pkT rfl (rfl : _ = B r25) ?_
          refine p_mB rfl ?_
          rcases Bool.eq_false_or_eq_true (r25) with c29 | c29
          · replace H := condT c29 H
            refine eB c29 ?_
            refine gT rfl rfl (p_fld fl29_5 rfl ?_)
            refine gT rfl rfl (p_ld ty3 (S28.atX (i := 0) rfl) rfl rfl ?_)
            obtain ⟨r30, h31, H⟩ := bindS H
            refine gT rfl rfl (p_cv (B_Inside_ok h31) fu34 rfl S28 fun w32 S33 => ?_)
            refine p_pkT rfl (rfl : _ = B r30) ?_
            refine p_mB rfl ?_
            rcases Bool.eq_false_or_eq_true (r30) with c34 | c34
            · replace H := condT c34 H
              refine eB c34 ?_
              refine gT rfl rfl (p_fld fl29_6 rfl ?_)
              refine gT rfl rfl (p_ld ty27 (S33.atX (i := 0) rfl) rfl rfl ?_)
              refine gT rfl rfl (p_len rfl sc27 ?_)
              refine gT rfl rfl (p_cmp rfl rfl rfl ?_)
              refine p_pkT rfl (rfl : _ = B (decide ((a0.Dips.length : Int) ≤ 4))) ?_
              refine p_aB rfl ?_
              refine wp_nil ?_
              exact ⟨decide ((a0.Dips.length : Int) ≤ 4), (), _, rfl, ⟨rfl, rfl, trivial⟩, H, S33⟩
            · replace H := condF c34 H
              refine eB c34 ?_
              refine gF rfl rfl ?_
              refine gF rfl rfl ?_
              refine gF rfl rfl ?_
              refine gF rfl rfl ?_
              refine p_pkF rfl (rfl : _ = B false) ?_
              refine p_aB rfl ?_
              refine wp_nil ?_
              exact ⟨false, (), _, rfl, ⟨rfl, rfl, trivial⟩, H, S33⟩
          · replace H := condF c29 H
            refine eB c29 ?_
            refine gF rfl rfl ?_
            refine gF rfl rfl ?_
            refine gF rfl rfl ?_
            refine p_pkF rfl (rfl : _ = B false) ?_
            refine p_mB rfl ?_
            refine gF rfl rfl ?_
            refine gF rfl rfl ?_
            refine gF rfl rfl ?_
            refine gF rfl rfl ?_
            refine p_pkF rfl (rfl : _ = B false) ?_
            refine p_aB rfl ?_
            refine wp_nil ?_
            exact ⟨false, (), _, rfl, ⟨rfl, rfl, trivial⟩, H, S28⟩
        · replace H := condF c24 H
          refine eB c24 ?_
          refine gF rfl rfl ?_
          refine gF rfl rfl ?_
          refine gF rfl rfl ?_
          refine gF rfl rfl ?_
          refine gF rfl rfl ?_
          refine gF rfl rfl ?_
          refine p_pkF rfl (rfl : _ = B false) ?_
          refine p_mB rfl ?_
          refine gF rfl rfl ?_
          refine gF rfl rfl ?_
          refine gF rfl rfl ?_
          refine p_pkF rfl (rfl : _ = B false) ?_
          refine p_mB rfl ?_
          refine gF rfl rfl ?_
          refine gF rfl rfl ?_
          refine gF rfl rfl ?_
          refine gF rfl rfl ?_
          refine p_pkF rfl (rfl : _ = B false) ?_
          refine p_aB rfl ?_
          refine wp_nil ?_
          exact ⟨false, (), _, rfl, ⟨rfl, rfl, trivial⟩, H, S23⟩
      · replace H := condF c19 H
        refine eB c19 ?_
        refine gF rfl rfl ?_
        refine gF rfl rfl ?_
        refine gF rfl rfl ?_
        refine gF rfl rfl ?_
        refine p_pkF rfl (rfl : _ = B false) ?_
        refine p_mB rfl ?_
        refine gF rfl rfl ?_
        refine gF rfl rfl ?_
        refine gF rfl rfl ?_
        refine gF rfl rfl ?_
        refine gF rfl rfl ?_
        refine gF rfl rfl ?_
        refine p_pkF rfl (rfl : _ = B false) ?_
        refine p_mB rfl ?_
        refine gF rfl rfl ?_
        refine gF rfl rfl ?_
        refine gF rfl rfl ?_
        refine p_pkF rfl (rfl : _ = B false) ?_
        refine p_mB rfl ?_
        refine gF rfl rfl ?_
        refine gF rfl rfl ?_
        refine gF rfl rfl ?_
        refine gF rfl rfl ?_
        refine p_pkF rfl (rfl : _ = B false) ?_
        refine p_aB rfl ?_
        refine wp_nil ?_
        exact ⟨false, (), _, rfl, ⟨rfl, rfl, trivial⟩, H, S18⟩
    · replace H := condF c14 H
      refine eB c14 ?_
      refine gF rfl rfl ?_
      refine gF rfl rfl ?_
      refine gF rfl rfl ?_
      refine p_pkF rfl (rfl : _ = B false) ?_
      refine p_mB rfl ?_
      refine gF rfl rfl ?_
      refine gF rfl rfl ?_
      refine gF rfl rfl ?_
      refine gF rfl rfl ?_
      refine p_pkF rfl (rfl : _ = B false) ?_
      refine p_mB rfl ?_
      refine gF rfl rfl ?_
      refine gF rfl rfl ?_
      refine gF rfl rfl ?_
      refine gF rfl rfl ?_
      refine gF rfl rfl ?_
      refine gF rfl rfl ?_
      refine p_pkF rfl (rfl : _ = B false) ?_
      refine p_mB rfl ?_
      refine gF rfl rfl ?_
      refine gF rfl rfl ?_
      refine gF rfl rfl ?_
      refine p_pkF rfl (rfl : _ = B false) ?_
      refine p_mB rfl ?_
      refine gF rfl rfl ?_
      refine gF rfl rfl ?_
      refine gF rfl rfl ?_
      refine gF rfl rfl ?_
      refine p_pkF rfl (rfl : _ = B false) ?_
      refine p_aB rfl ?_
      refine wp_nil ?_
      exact ⟨false, (), _, rfl, ⟨rfl, rfl, trivial⟩, H, S13⟩
  · intro z_1 y_1 e10 w11 S12; obtain ⟨H, S12⟩ := S12
    unfold law_sound_j14 at H
    refine c_join (α := Bool) (β := Unit) (fun z_3 y_3 => [(1, P b7 0), (3, B z_3)]) (fun z_3 y_3 w_ => law_sound_j12 a0 z_3 = some r ∧ St w (fun _ => False) w_ [bl b7 ([I a0.Heap.Low, I a0.Heap.High] ++ (sgE eSpan a0.Eats 2 ++ (sg a0.Extra 3 ++ [SL A1 a0.Days.length c2, I a0.Collier.Low, I a0.Collier.High, I a0.Brings, SL A4 a0.Dips.length c5]))) 29] [rd eCoalDay 3 A1 c2 a0.Days, rd eCoalDip 3 A4 c5 a0.Dips]) ?_ ?_
    · refine c_seq ?_
      refine reg ?_
      refine p_aI rfl ?_
      refine wp_nil ?_
      refine c_block ?_
      refine c_lop (α := Bool × Int) (β := Unit) (law_sound_l13 a0) (fun z_2 y_2 => [(1, P b7 0), (3, B z_2.1), (4, I z_2.2)]) (fun z_2 y_2 w_ => St w (fun _ => False) w_ [bl b7 ([I a0.Heap.Low, I a0.Heap.High] ++ (sgE eSpan a0.Eats 2 ++ (sg a0.Extra 3 ++ [SL A1 a0.Days.length c2, I a0.Collier.Low, I a0.Collier.High, I a0.Brings, SL A4 a0.Dips.length c5]))) 29] [rd eCoalDay 3 A1 c2 a0.Days, rd eCoalDip 3 A4 c5 a0.Dips]) (z_1, 0) () H ⟨rfl, rfl, rfl, trivial⟩ S12 ?_
      intro m13 z_2 y_2 e14 w15 H S16
      unfold law_sound_l13 at H
      refine c_seq ?_
      refine c_seq ?_
      refine reg ?_
      refine p_mB rfl ?_
      refine p_mB rfl ?_
      rcases Bool.eq_false_or_eq_true (z_2.1) with c17 | c17
      · replace H := condT c17 H
        refine eB c17 ?_
        refine gT rfl rfl (p_mI rfl ?_)
        refine gT rfl rfl (p_cmp rfl rfl rfl ?_)
        refine p_pkT rfl (rfl : _ = B (decide (z_2.2 < 2))) ?_
        refine wp_nil ?_
        refine c_cond rfl (fun c18 => ?_) (fun c18 => ?_)
        · replace H := condT c18 H
          refine c_skip ?_
          refine c_seq ?_
          refine c_block ?_
          refine reg ?_
          refine p_mI rfl ?_
          refine p_fld fl29_1 rfl ?_
          obtain ⟨h19, H⟩ := needS H
          refine p_ixD ar24 h19 rfl rfl ?_
          refine p_ldDA (pre := [I a0.Heap.Low, I a0.Heap.High]) (post := sg a0.Extra 3 ++ [SL A1 a0.Days.length c2, I a0.Collier.Low, I a0.Collier.High, I a0.Brings, SL A4 a0.Dips.length c5]) ty23 sz23 (S16.atX (i := 0) rfl) rfl eSpan_len h19 rfl rfl ?_
          obtain ⟨r20, h21, H⟩ := bindS H
          refine p_cv (B_Valid_ok h21) fu68 rfl S16 fun w22 S23 => ?_
          refine p_aB rfl ?_
          refine wp_nil ?_
          refine reg ?_
          refine p_mI rfl ?_
          refine p_add rfl rfl ?_
          refine p_aI rfl ?_
          refine wp_nil ?_
          exact ⟨(r20, wr (z_2.2 + 1)), (), _, rfl, ⟨rfl, rfl, rfl, trivial⟩, H, S23⟩
        · replace H := condF c18 H
          refine c_exit ?_
          exact ⟨z_2.1, (), _, rfl, ⟨rfl, rfl, trivial⟩, H, S16⟩
      · replace H := condF c17 H
        refine eB c17 ?_
        refine gF rfl rfl ?_
        refine gF rfl rfl ?_
        refine p_pkF rfl (rfl : _ = B false) ?_
        refine wp_nil ?_
        refine c_false rfl ?_
        refine c_exit ?_
        exact ⟨z_2.1, (), _, rfl, ⟨rfl, rfl, trivial⟩, H, S16⟩
    · intro z_3 y_3 e13 w14 S15; obtain ⟨H, S15⟩ := S15
      unfold law_sound_j12 at H
      refine c_join (α := Bool) (β := Unit) (fun z_5 y_5 => [(1, P b7 0), (3, B z_5)]) (fun z_5 y_5 w_ => law_sound_j10 a0 z_5 = some r ∧ St w (fun _ => False) w_ [bl b7 ([I a0.Heap.Low, I a0.Heap.High] ++ (sgE eSpan a0.Eats 2 ++ (sg a0.Extra 3 ++ [SL A1 a0.Days.length c2, I a0.Collier.Low, I a0.Collier.High, I a0.Brings, SL A4 a0.Dips.length c5]))) 29] [rd eCoalDay 3 A1 c2 a0.Days, rd eCoalDip 3 A4 c5 a0.Dips]) ?_ ?_
      · refine c_seq ?_
        refine reg ?_
        refine p_aI rfl ?_
        refine wp_nil ?_
        refine c_block ?_
        refine c_lop (α := Bool × Int) (β := Unit) (law_sound_l11 a0) (fun z_4 y_4 => [(1, P b7 0), (3, B z_4.1), (5, I z_4.2)]) (fun z_4 y_4 w_ => St w (fun _ => False) w_ [bl b7 ([I a0.Heap.Low, I a0.Heap.High] ++ (sgE eSpan a0.Eats 2 ++ (sg a0.Extra 3 ++ [SL A1 a0.Days.length c2, I a0.Collier.Low, I a0.Collier.High, I a0.Brings, SL A4 a0.Dips.length c5]))) 29] [rd eCoalDay 3 A1 c2 a0.Days, rd eCoalDip 3 A4 c5 a0.Dips]) (z_3, 0) () H ⟨rfl, rfl, rfl, trivial⟩ S15 ?_
        intro m16 z_4 y_4 e17 w18 H S19
        unfold law_sound_l11 at H
        refine c_seq ?_
        refine c_seq ?_
        refine reg ?_
        refine p_mB rfl ?_
        refine p_mB rfl ?_
        rcases Bool.eq_false_or_eq_true (z_4.1) with c20 | c20
        · replace H := condT c20 H
          refine eB c20 ?_
          refine gT rfl rfl (p_mI rfl ?_)
          refine gT rfl rfl (p_cmp rfl rfl rfl ?_)
          refine p_pkT rfl (rfl : _ = B (decide (z_4.2 < 3))) ?_
          refine wp_nil ?_
          refine c_cond rfl (fun c21 => ?_) (fun c21 => ?_)
          · replace H := condT c21 H
            refine c_skip ?_
            refine c_seq ?_
            refine c_block ?_
            refine reg ?_
            refine p_mI rfl ?_
            refine p_fld fl29_2 rfl ?_
            obtain ⟨h22, H⟩ := needS H
            refine p_ixD ar25 h22 rfl rfl ?_
            refine p_ldD (pre := [I a0.Heap.Low, I a0.Heap.High] ++ sgE eSpan a0.Eats 2) (post := [SL A1 a0.Days.length c2, I a0.Collier.Low, I a0.Collier.High, I a0.Brings, SL A4 a0.Dips.length c5]) ty3 (S19.atX (i := 0) rfl) rfl h22 rfl rfl ?_
            obtain ⟨r23, h24, H⟩ := bindS H
            refine p_cv (B_Inside_ok h24) fu34 rfl S19 fun w25 S26 => ?_
            refine p_aB rfl ?_
            refine wp_nil ?_
            refine reg ?_
            refine p_mI rfl ?_
            refine p_add rfl rfl ?_
            refine p_aI rfl ?_
            refine wp_nil ?_
            exact ⟨(r23, wr (z_4.2 + 1)), (), _, rfl, ⟨rfl, rfl, rfl, trivial⟩, H, S26⟩
          · replace H := condF c21 H
            refine c_exit ?_
            exact ⟨z_4.1, (), _, rfl, ⟨rfl, rfl, trivial⟩, H, S19⟩
        · replace H := condF c20 H
          refine eB c20 ?_
          refine gF rfl rfl ?_
          refine gF rfl rfl ?_
          refine p_pkF rfl (rfl : _ = B false) ?_
          refine wp_nil ?_
          refine c_false rfl ?_
          refine c_exit ?_
          exact ⟨z_4.1, (), _, rfl, ⟨rfl, rfl, trivial⟩, H, S19⟩
      · intro z_5 y_5 e16 w17 S18; obtain ⟨H, S18⟩ := S18
        unfold law_sound_j10 at H
        refine c_join (α := Bool) (β := Unit) (fun z_7 y_7 => [(1, P b7 0), (3, B z_7)]) (fun z_7 y_7 w_ => law_sound_j8 a0 z_7 = some r ∧ St w (fun _ => False) w_ [bl b7 ([I a0.Heap.Low, I a0.Heap.High] ++ (sgE eSpan a0.Eats 2 ++ (sg a0.Extra 3 ++ [SL A1 a0.Days.length c2, I a0.Collier.Low, I a0.Collier.High, I a0.Brings, SL A4 a0.Dips.length c5]))) 29] [rd eCoalDay 3 A1 c2 a0.Days, rd eCoalDip 3 A4 c5 a0.Dips]) ?_ ?_
        · refine c_seq ?_
          refine reg ?_
          refine p_aI rfl ?_
          refine wp_nil ?_
          refine c_block ?_
          refine c_lop (α := Bool × Int) (β := Unit) (law_sound_l9 a0) (fun z_6 y_6 => [(1, P b7 0), (3, B z_6.1), (6, I z_6.2)]) (fun z_6 y_6 w_ => St w (fun _ => False) w_ [bl b7 ([I a0.Heap.Low, I a0.Heap.High] ++ (sgE eSpan a0.Eats 2 ++ (sg a0.Extra 3 ++ [SL A1 a0.Days.length c2, I a0.Collier.Low, I a0.Collier.High, I a0.Brings, SL A4 a0.Dips.length c5]))) 29] [rd eCoalDay 3 A1 c2 a0.Days, rd eCoalDip 3 A4 c5 a0.Dips]) (z_5, 0) () H ⟨rfl, rfl, rfl, trivial⟩ S18 ?_
          intro m19 z_6 y_6 e20 w21 H S22
          unfold law_sound_l9 at H
          refine c_seq ?_
          refine c_seq ?_
          refine reg ?_
          refine p_mB rfl ?_
          refine p_mB rfl ?_
          rcases Bool.eq_false_or_eq_true (z_6.1) with c23 | c23
          · replace H := condT c23 H
            refine eB c23 ?_
            refine gT rfl rfl (p_mI rfl ?_)
            refine gT rfl rfl (p_fld fl29_3 rfl ?_)
            refine gT rfl rfl (p_ld ty26 (S22.atX (i := 0) rfl) rfl rfl ?_)
            refine gT rfl rfl (p_len rfl sc26 ?_)
            refine gT rfl rfl (p_cmp rfl rfl rfl ?_)
            refine p_pkT rfl (rfl : _ = B (decide (z_6.2 < (a0.Days.length : Int)))) ?_
            refine wp_nil ?_
            refine c_cond rfl (fun c24 => ?_) (fun c24 => ?_)
            · replace H := condT c24 H
              refine c_skip ?_
              refine c_seq ?_
              refine c_block ?_
              refine c_seq ?_
              refine reg ?_
              refine p_fld fl29_3 rfl ?_
              refine p_ld ty26 (S22.atX (i := 0) rfl) rfl rfl ?_
              refine p_mI rfl ?_
              obtain ⟨r25, h26, H⟩ := bindS H
              refine p_ixE sc26 h26 (S22.atP (i := 0) rfl).1 rfl rfl rfl ?_
              refine p_ldEA ty64 sz64 rfl h26 (S22.atP (i := 0) rfl).1 rfl ?_
              refine p_allA in64 S22 fun b27 w28 S29 => ?_
              refine p_stP (pre := []) (old := [I 0, I 0, I 0]) (post := []) (vs := [I r25.Crosses, I r25.Engines, I r25.Winds]) sz64 S29 (i := 0) rfl rfl rfl rfl (rfl : _ = AG [I r25.Crosses, I r25.Engines, I r25.Winds]) rfl rfl rfl rfl fun w30 S31 => ?_
              refine wp_nil ?_
              refine reg ?_
              refine p_fld fl64_0 rfl ?_
              refine p_ld ty3 (S31.atX (i := 0) rfl) rfl rfl ?_
              obtain ⟨r32, h33, H⟩ := bindS H
              refine p_cv (B_Inside_ok h33) fu34 rfl S31 fun w34 S35 => ?_
              refine p_mB rfl ?_
              rcases Bool.eq_false_or_eq_true (r32) with c36 | c36
              · replace H := condT c36 H
                refine eB c36 ?_
                refine gT rfl rfl (p_fld fl64_1 rfl ?_)
                refine gT rfl rfl (p_ld ty3 (S35.atX (i := 0) rfl) rfl rfl ?_)
                obtain ⟨r37, h38, H⟩ := bindS H
                refine gT rfl rfl (p_cv (B_Inside_ok h38) fu34 rfl S35 fun w39 S40 => ?_)
                refine p_pkT rfl (rfl : _ = B r37) ?_
                refine p_mB rfl ?_
                rcases Bool.eq_false_or_eq_true (r37) with c41 | c41
                · replace H := condT c41 H
                  refine eB c41 ?_
                  refine gT rfl rfl (p_fld fl64_2 rfl ?_)
                  refine gT rfl rfl (p_ld ty3 (S40.atX (i := 0) rfl) rfl rfl ?_)
                  obtain ⟨r42, h43, H⟩ := bindS H
                  refine gT rfl rfl (p_cv (B_Inside_ok h43) fu34 rfl S40 fun w44 S45 => ?_)
                  refine p_pkT rfl (rfl : _ = B r42) ?_
                  refine p_aB rfl ?_
                  refine wp_nil ?_
                  refine reg ?_
                  refine p_mI rfl ?_
                  refine p_add rfl rfl ?_
                  refine p_aI rfl ?_
                  refine wp_nil ?_
                  have S46 := S45.pk [1] (by decide) [0, 1] rfl rfl
                  exact ⟨(r42, wr (z_6.2 + 1)), (), _, rfl, ⟨rfl, rfl, rfl, trivial⟩, H, S46⟩
                · replace H := condF c41 H
                  refine eB c41 ?_
                  refine gF rfl rfl ?_
                  refine gF rfl rfl ?_
                  refine gF rfl rfl ?_
                  refine p_pkF rfl (rfl : _ = B false) ?_
                  refine p_aB rfl ?_
                  refine wp_nil ?_
                  refine reg ?_
                  refine p_mI rfl ?_
                  refine p_add rfl rfl ?_
                  refine p_aI rfl ?_
                  refine wp_nil ?_
                  have S47 := S40.pk [1] (by decide) [0, 1] rfl rfl
                  exact ⟨(false, wr (z_6.2 + 1)), (), _, rfl, ⟨rfl, rfl, rfl, trivial⟩, H, S47⟩
              · replace H := condF c36 H
                refine eB c36 ?_
                refine gF rfl rfl ?_
                refine gF rfl rfl ?_
                refine gF rfl rfl ?_
                refine p_pkF rfl (rfl : _ = B false) ?_
                refine p_mB rfl ?_
                refine gF rfl rfl ?_
                refine gF rfl rfl ?_
                refine gF rfl rfl ?_
                refine p_pkF rfl (rfl : _ = B false) ?_
                refine p_aB rfl ?_
                refine wp_nil ?_
                refine reg ?_
                refine p_mI rfl ?_
                refine p_add rfl rfl ?_
                refine p_aI rfl ?_
                refine wp_nil ?_
                have S48 := S35.pk [1] (by decide) [0, 1] rfl rfl
                exact ⟨(false, wr (z_6.2 + 1)), (), _, rfl, ⟨rfl, rfl, rfl, trivial⟩, H, S48⟩
            · replace H := condF c24 H
              refine c_exit ?_
              exact ⟨z_6.1, (), _, rfl, ⟨rfl, rfl, trivial⟩, H, S22⟩
          · replace H := condF c23 H
            refine eB c23 ?_
            refine gF rfl rfl ?_
            refine gF rfl rfl ?_
            refine gF rfl rfl ?_
            refine gF rfl rfl ?_
            refine gF rfl rfl ?_
            refine p_pkF rfl (rfl : _ = B false) ?_
            refine wp_nil ?_
            refine c_false rfl ?_
            refine c_exit ?_
            exact ⟨z_6.1, (), _, rfl, ⟨rfl, rfl, trivial⟩, H, S22⟩
        · intro z_7 y_7 e19 w20 S21; obtain ⟨H, S21⟩ := S21
          unfold law_sound_j8 at H
          refine c_seq ?_
          refine c_seq ?_
          refine reg ?_
          refine p_aI rfl ?_
          refine wp_nil ?_
          refine c_block ?_
          refine c_lop (α := Bool × Int) (β := Unit) (law_sound_l7 a0) (fun z_8 y_8 => [(1, P b7 0), (3, B z_8.1), (8, I z_8.2)]) (fun z_8 y_8 w_ => St w (fun _ => False) w_ [bl b7 ([I a0.Heap.Low, I a0.Heap.High] ++ (sgE eSpan a0.Eats 2 ++ (sg a0.Extra 3 ++ [SL A1 a0.Days.length c2, I a0.Collier.Low, I a0.Collier.High, I a0.Brings, SL A4 a0.Dips.length c5]))) 29] [rd eCoalDay 3 A1 c2 a0.Days, rd eCoalDip 3 A4 c5 a0.Dips]) (z_7, 0) () H ⟨rfl, rfl, rfl, trivial⟩ S21 ?_
          intro m22 z_8 y_8 e23 w24 H S25
          unfold law_sound_l7 at H
          refine c_seq ?_
          refine c_seq ?_
          refine reg ?_
          refine p_mB rfl ?_
          refine p_mB rfl ?_
          rcases Bool.eq_false_or_eq_true (z_8.1) with c26 | c26
          · replace H := condT c26 H
            refine eB c26 ?_
            refine gT rfl rfl (p_mI rfl ?_)
            refine gT rfl rfl (p_fld fl29_6 rfl ?_)
            refine gT rfl rfl (p_ld ty27 (S25.atX (i := 0) rfl) rfl rfl ?_)
            refine gT rfl rfl (p_len rfl sc27 ?_)
            refine gT rfl rfl (p_cmp rfl rfl rfl ?_)
            refine p_pkT rfl (rfl : _ = B (decide (z_8.2 < (a0.Dips.length : Int)))) ?_
            refine wp_nil ?_
            refine c_cond rfl (fun c27 => ?_) (fun c27 => ?_)
            · replace H := condT c27 H
              refine c_skip ?_
              refine c_seq ?_
              refine c_block ?_
              obtain ⟨r28, h29, H⟩ := bindS H
              obtain ⟨r30, h31, H⟩ := bindS H
              rcases Bool.eq_false_or_eq_true (r30) with c32 | c32
              · replace H := condT c32 H
                obtain ⟨r33, h34, H⟩ := bindS H
                obtain ⟨r35, h36, H⟩ := bindS H
                refine reg_q mixed 21 (by kernel_rfl) ?_
                refine dS (fun _ k_ => p_fld fl29_6 rfl dn) ?_
                refine dS (fun _ k_ => p_ld ty27 (Asr.stays (S25.atX (i := 0) rfl) k_) rfl rfl dn) ?_
                refine dS (fun _ k_ => p_mI rfl dn) ?_
                refine dS (fun _ k_ => p_ixE sc27 h29 (Asr.stays (S25.atP (i := 1) rfl) k_).1 rfl rfl rfl dn) ?_
                refine dS (fun _ k_ => p_fldE fl67_0 (sl_here (Asr.stays (S25.atP (i := 1) rfl) k_).1 h29) rfl dn) ?_
                refine dS (fun _ k_ => p_ldE ty3 h29 (Asr.stays (S25.atP (i := 1) rfl) k_).1 rfl rfl dn) ?_
                refine dS (fun _ k_ => p_fld fl29_3 rfl dn) ?_
                refine dS (fun _ k_ => p_ld ty26 (Asr.stays (S25.atX (i := 0) rfl) k_) rfl rfl dn) ?_
                refine dS (fun _ k_ => p_len rfl sc26 dn) ?_
                refine dS (fun _ k_ => p_sub rfl rfl dn) ?_
                refine dS (fun _ k_ => p_cvD (B_Inside_ok h31) fu34 rfl) ?_
                refine dS (fun _ k_ => p_mB rfl dn) ?_
                refine dB c32 ?_
                refine dS (fun _ k_ => gT rfl rfl (p_fld fl29_6 rfl dn)) ?_
                refine dS (fun _ k_ => gT rfl rfl (p_ld ty27 (Asr.stays (S25.atX (i := 0) rfl) k_) rfl rfl dn)) ?_
                refine dS (fun _ k_ => gT rfl rfl (p_mI rfl dn)) ?_
                refine dS (fun _ k_ => gT rfl rfl (p_ixE sc27 h34 (Asr.stays (S25.atP (i := 1) rfl) k_).1 rfl rfl rfl dn)) ?_
                refine dS (fun _ k_ => gT rfl rfl (p_fldE fl67_2 (sl_here (Asr.stays (S25.atP (i := 1) rfl) k_).1 h34) rfl dn)) ?_
                refine dS (fun _ k_ => gT rfl rfl (p_ldE ty3 h34 (Asr.stays (S25.atP (i := 1) rfl) k_).1 rfl rfl dn)) ?_
                refine dS (fun _ k_ => gT rfl rfl (p_cvD (B_Inside_ok h36) fu34 rfl)) ?_
                refine dS (fun _ k_ => p_pkT rfl (rfl : _ = B r35) dn) ?_
                refine dS (fun _ k_ => p_aB rfl dn) ?_
                intro w37 k38; have S39 := S25.call k38
                refine wp_nil ?_
                refine reg ?_
                refine p_mI rfl ?_
                refine p_add rfl rfl ?_
                refine p_aI rfl ?_
                refine wp_nil ?_
                exact ⟨(r35, wr (z_8.2 + 1)), (), _, rfl, ⟨rfl, rfl, rfl, trivial⟩, H, S39⟩
              · replace H := condF c32 H
                refine reg_q mixed 21 (by kernel_rfl) ?_
                refine dS (fun _ k_ => p_fld fl29_6 rfl dn) ?_
                refine dS (fun _ k_ => p_ld ty27 (Asr.stays (S25.atX (i := 0) rfl) k_) rfl rfl dn) ?_
                refine dS (fun _ k_ => p_mI rfl dn) ?_
                refine dS (fun _ k_ => p_ixE sc27 h29 (Asr.stays (S25.atP (i := 1) rfl) k_).1 rfl rfl rfl dn) ?_
                refine dS (fun _ k_ => p_fldE fl67_0 (sl_here (Asr.stays (S25.atP (i := 1) rfl) k_).1 h29) rfl dn) ?_
                refine dS (fun _ k_ => p_ldE ty3 h29 (Asr.stays (S25.atP (i := 1) rfl) k_).1 rfl rfl dn) ?_
                refine dS (fun _ k_ => p_fld fl29_3 rfl dn) ?_
                refine dS (fun _ k_ => p_ld ty26 (Asr.stays (S25.atX (i := 0) rfl) k_) rfl rfl dn) ?_
                refine dS (fun _ k_ => p_len rfl sc26 dn) ?_
                refine dS (fun _ k_ => p_sub rfl rfl dn) ?_
                refine dS (fun _ k_ => p_cvD (B_Inside_ok h31) fu34 rfl) ?_
                refine dS (fun _ k_ => p_mB rfl dn) ?_
                refine dB c32 ?_
                refine dS (fun _ k_ => gF rfl rfl dnU) ?_
                refine dS (fun _ k_ => gF rfl rfl dnU) ?_
                refine dS (fun _ k_ => gF rfl rfl dnU) ?_
                refine dS (fun _ k_ => gF rfl rfl dnU) ?_
                refine dS (fun _ k_ => gF rfl rfl dnU) ?_
                refine dS (fun _ k_ => gF rfl rfl dnU) ?_
                refine dS (fun _ k_ => gF rfl rfl dnU) ?_
                refine dS (fun _ k_ => p_pkF rfl (rfl : _ = B false) dn) ?_
                refine dS (fun _ k_ => p_aB rfl dn) ?_
                intro w40 k41; have S42 := S25.call k41
                refine wp_nil ?_
                refine reg ?_
                refine p_mI rfl ?_
                refine p_add rfl rfl ?_
                refine p_aI rfl ?_
                refine wp_nil ?_
                exact ⟨(false, wr (z_8.2 + 1)), (), _, rfl, ⟨rfl, rfl, rfl, trivial⟩, H, S42⟩
            · replace H := condF c27 H
              refine c_exit ?_
              refine c_seq ?_
              refine reg ?_
              refine p_mB rfl ?_
              refine p_aB rfl ?_
              refine wp_nil ?_
              obtain rfl := Option.some.inj H
              refine c_ret ?_; show bodyPostM (Fr none) 0 Tryd.prog Tryd.f22 _ .ret _ _
              refine ret_of (res1 rfl (rvT (rfl : _ = B z_8.1))) ?_
              exact ⟨_, rfl, rfl, S25.keep⟩
          · replace H := condF c26 H
            refine eB c26 ?_
            refine gF rfl rfl ?_
            refine gF rfl rfl ?_
            refine gF rfl rfl ?_
            refine gF rfl rfl ?_
            refine gF rfl rfl ?_
            refine p_pkF rfl (rfl : _ = B false) ?_
            refine wp_nil ?_
            refine c_false rfl ?_
            refine c_exit ?_
            refine c_seq ?_
            refine reg ?_
            refine p_mB rfl ?_
            refine p_aB rfl ?_
            refine wp_nil ?_
            obtain rfl := Option.some.inj H
            refine c_ret ?_; show bodyPostM (Fr none) 0 Tryd.prog Tryd.f22 _ .ret _ _
            refine ret_of (res1 rfl (rvT (rfl : _ = B z_8.1))) ?_
            exact ⟨_, rfl, rfl, S25.keep⟩

def B_Mod (a0 : Int) (a1 : Int) : Option Int :=
  bif decide (a1 ≤ 0) then (some 0)
  else (need (a1 != 0) <|
  bif decide ((modI a0 a1) < 0) then (some (wr ((modI a0 a1) + a1)))
  else (some (modI a0 a1)))

set_option maxRecDepth 100000 in
theorem B_Mod_ok {a0 : Int} {a1 : Int} {w : World} {r : Int} (H : B_Mod a0 a1 = some r) : Calls Tryd.prog 25 #[I a0, I a1] w (RetV w (I r)) := by
  unfold B_Mod at H
  refine fn_of (n := 17) Tryd.func25 rfl rfl (Nat.le_of_ble_eq_true rfl) ?_
  have S : St w (fun _ => False) w [] [] := St.start w _ _ (fun _ h_ => (List.not_mem_nil h_).elim)
  refine c_seq ?_
  refine reg ?_
  refine p_aI rfl ?_
  refine wp_nil ?_
  refine c_seq ?_
  refine c_seq ?_
  refine reg ?_
  refine p_mI rfl ?_
  refine p_cmp rfl rfl rfl ?_
  refine wp_nil ?_
  refine c_cond rfl (fun c1 => ?_) (fun c1 => ?_)
  · replace H := condT c1 H
    refine c_seq ?_
    refine reg ?_
    refine p_aI rfl ?_
    refine wp_nil ?_
    obtain rfl := Option.some.inj H
    refine c_ret ?_; show bodyPostM (Fr none) 0 Tryd.prog Tryd.f25 _ .ret _ _
    refine ret_of (res1 rfl (rvT (rfl : _ = I 0))) ?_
    exact ⟨_, rfl, rfl, S.keep⟩
  · replace H := condF c1 H
    refine c_skip ?_
    refine c_seq ?_
    refine reg ?_
    refine p_mI rfl ?_
    refine p_mI rfl ?_
    obtain ⟨h2, H⟩ := needS H
    refine p_rem h2 rfl rfl ?_
    refine p_aI rfl ?_
    refine wp_nil ?_
    refine c_seq ?_
    refine c_seq ?_
    refine reg ?_
    refine p_mI rfl ?_
    refine p_cmp rfl rfl rfl ?_
    refine wp_nil ?_
    refine c_cond rfl (fun c3 => ?_) (fun c3 => ?_)
    · replace H := condT c3 H
      refine c_seq ?_
      refine reg ?_
      refine p_mI rfl ?_
      refine p_mI rfl ?_
      refine p_add rfl rfl ?_
      refine p_aI rfl ?_
      refine wp_nil ?_
      obtain rfl := Option.some.inj H
      refine c_ret ?_; show bodyPostM (Fr none) 0 Tryd.prog Tryd.f25 _ .ret _ _
      refine ret_of (res1 rfl (rvT (rfl : _ = I (wr ((modI a0 a1) + a1))))) ?_
      exact ⟨_, rfl, rfl, S.keep⟩
    · replace H := condF c3 H
      refine c_skip ?_
      refine c_seq ?_
      refine reg ?_
      refine p_mI rfl ?_
      refine p_aI rfl ?_
      refine wp_nil ?_
      obtain rfl := Option.some.inj H
      refine c_ret ?_; show bodyPostM (Fr none) 0 Tryd.prog Tryd.f25 _ .ret _ _
      refine ret_of (res1 rfl (rvT (rfl : _ = I (modI a0 a1)))) ?_
      exact ⟨_, rfl, rfl, S.keep⟩

structure Law06_known where
  eats_ : List Int
  winds_ : List Int
  coal_ : List Int
  deriving DecidableEq, Inhabited

def B_Contains (a0 : Span) (a1 : Int) : Option Bool :=
  (B_Inside a1 a0.Low a0.High).bind fun r4 =>
  some r4

set_option maxRecDepth 100000 in
theorem B_Contains_ok {a0 : Span} {a1 : Int} {w : World} {r : Bool} (H : B_Contains a0 a1 = some r) : Calls Tryd.prog 32 #[AG [I a0.Low, I a0.High], I a1] w (RetV w (B r)) := by
  unfold B_Contains at H
  refine fn_of (n := 11) Tryd.func32 rfl rfl (Nat.le_of_ble_eq_true rfl) ?_
  have S : St w (fun _ => False) w [] [] := St.start w _ _ (fun _ h_ => (List.not_mem_nil h_).elim)
  refine c_seq ?_
  refine reg ?_
  refine p_boxA rfl S fun b1 w2 S3 => ?_
  refine p_aB rfl ?_
  refine wp_nil ?_
  refine c_seq ?_
  refine reg ?_
  refine p_mI rfl ?_
  refine p_fld fl23_0 rfl ?_
  refine p_ld ty3 (S3.atX (i := 0) rfl) rfl rfl ?_
  refine p_fld fl23_1 rfl ?_
  refine p_ld ty3 (S3.atX (i := 0) rfl) rfl rfl ?_
  obtain ⟨r4, h5, H⟩ := bindS H
  refine p_cv (B_Inside_ok h5) fu34 rfl S3 fun w6 S7 => ?_
  refine p_aB rfl ?_
  refine wp_nil ?_
  obtain rfl := Option.some.inj H
  refine c_ret ?_; show bodyPostM (Fr none) 0 Tryd.prog Tryd.f32 _ .ret _ _
  refine ret_of (res1 rfl (rvT (rfl : _ = B r4))) ?_
  exact ⟨_, rfl, rfl, S7.keep⟩

def B_Covers (a0 : Span) (a1 : Span) : Option Bool :=
  bif decide (a1.Low ≥ a0.Low) then (some (decide (a1.High ≤ a0.High)))
  else (some false)

set_option maxRecDepth 100000 in
theorem B_Covers_ok {a0 : Span} {a1 : Span} {w : World} {r : Bool} (H : B_Covers a0 a1 = some r) : Calls Tryd.prog 39 #[AG [I a0.Low, I a0.High], AG [I a1.Low, I a1.High]] w (RetV w (B r)) := by
  unfold B_Covers at H
  refine fn_of (n := 17) Tryd.func39 rfl rfl (Nat.le_of_ble_eq_true rfl) ?_
  have S : St w (fun _ => False) w [] [] := St.start w _ _ (fun _ h_ => (List.not_mem_nil h_).elim)
  refine c_seq ?_
  refine reg ?_
  refine p_boxA rfl S fun b1 w2 S3 => ?_
  refine p_boxA rfl S3 fun b4 w5 S6 => ?_
  refine p_aB rfl ?_
  refine wp_nil ?_
  refine c_seq ?_
  refine reg ?_
  refine p_fld fl23_0 rfl ?_
  refine p_ld ty3 (S6.atX (i := 0) rfl) rfl rfl ?_
  refine p_fld fl23_0 rfl ?_
  refine p_ld ty3 (S6.atX (i := 1) rfl) rfl rfl ?_
  refine p_cmp rfl rfl rfl ?_
  refine p_mB rfl ?_
  rcases Bool.eq_false_or_eq_true (decide (a1.Low ≥ a0.Low)) with c7 | c7
  · replace H := condT c7 H
    refine eB c7 ?_
    refine gT rfl rfl (p_fld fl23_1 rfl ?_)
    refine gT rfl rfl (p_ld ty3 (S6.atX (i := 0) rfl) rfl rfl ?_)
    refine gT rfl rfl (p_fld fl23_1 rfl ?_)
    refine gT rfl rfl (p_ld ty3 (S6.atX (i := 1) rfl) rfl rfl ?_)
    refine gT rfl rfl (p_cmp rfl rfl rfl ?_)
    refine p_pkT rfl (rfl : _ = B (decide (a1.High ≤ a0.High))) ?_
    refine p_aB rfl ?_
    refine wp_nil ?_
    obtain rfl := Option.some.inj H
    refine c_ret ?_; show bodyPostM (Fr none) 0 Tryd.prog Tryd.f39 _ .ret _ _
    refine ret_of (res1 rfl (rvT (rfl : _ = B (decide (a1.High ≤ a0.High))))) ?_
    exact ⟨_, rfl, rfl, S6.keep⟩
  · replace H := condF c7 H
    refine eB c7 ?_
    refine gF rfl rfl ?_
    refine gF rfl rfl ?_
    refine gF rfl rfl ?_
    refine gF rfl rfl ?_
    refine gF rfl rfl ?_
    refine p_pkF rfl (rfl : _ = B false) ?_
    refine p_aB rfl ?_
    refine wp_nil ?_
    obtain rfl := Option.some.inj H
    refine c_ret ?_; show bodyPostM (Fr none) 0 Tryd.prog Tryd.f39 _ .ret _ _
    refine ret_of (res1 rfl (rvT (rfl : _ = B false))) ?_
    exact ⟨_, rfl, rfl, S6.keep⟩

def law_with (a0 : CoalBook) (a1 : CoalDip) : Option CoalBook :=
  bif a0.Dips.isEmpty then (need (fitsL (([] : List CoalDip).length + ([a1] : List CoalDip).length) 24) <|
  some (CoalBook.mk a0.Heap a0.Eats a0.Extra a0.Days a0.Collier a0.Brings ([a1] : List CoalDip)))
  else (need (fitsL (([] : List CoalDip).length + a0.Dips.length) 24) <|
  need (fitsL (a0.Dips.length + ([a1] : List CoalDip).length) 24) <|
  some (CoalBook.mk a0.Heap a0.Eats a0.Extra a0.Days a0.Collier a0.Brings (a0.Dips ++ ([a1] : List CoalDip))))

set_option maxRecDepth 100000 in
theorem law_with_ok {a0 : CoalBook} {a1 : CoalDip} {A1 : Option Addr} {c2 : Nat} {A4 : Option Addr} {c5 : Nat} {w : World} {r : CoalBook} (H : law_with a0 a1 = some r) (h3 : (rd eCoalDay 3 A1 c2 a0.Days).ok w) (h6 : (rd eCoalDip 3 A4 c5 a0.Dips).ok w) : Calls Tryd.prog 40 #[AG ([I a0.Heap.Low, I a0.Heap.High] ++ (sgE eSpan a0.Eats 2 ++ (sg a0.Extra 3 ++ [SL A1 a0.Days.length c2, I a0.Collier.Low, I a0.Collier.High, I a0.Brings, SL A4 a0.Dips.length c5]))), AG [I a1.Day, I a1.Read, I a1.Error]] w fun en w_ => ∃ u_, en = .returned u_ ∧ ∃ A_1 : Option Addr, ∃ c_2 : Nat, u_ = AG ([I r.Heap.Low, I r.Heap.High] ++ (sgE eSpan r.Eats 2 ++ (sg r.Extra 3 ++ [SL A1 a0.Days.length c2, I r.Collier.Low, I r.Collier.High, I r.Brings, SL A_1 r.Dips.length c_2]))) ∧ Keep0 w w_ ∧ ((gr eCoalDip 3 67 A_1 c_2 r.Dips).ok w_ ∧ New w.heap.size (gr eCoalDip 3 67 A_1 c_2 r.Dips)) ∧ True := by
  unfold law_with at H
  refine fn_of (n := 16) Tryd.func40 rfl rfl (Nat.le_of_ble_eq_true rfl) ?_
  have S : St w (fun _ => False) w [] [rd eCoalDay 3 A1 c2 a0.Days, rd eCoalDip 3 A4 c5 a0.Dips] := St.start w _ _ (List.forall_mem_cons.2 ⟨h3, (List.forall_mem_cons.2 ⟨h6, (fun _ h_ => (List.not_mem_nil h_).elim)⟩)⟩)
  refine c_seq ?_
  refine reg ?_
  refine p_boxA rfl S fun b7 w8 S9 => ?_
  refine p_boxA rfl S9 fun b10 w11 S12 => ?_
  refine p_allA in29 S12 fun b13 w14 S15 => ?_
  refine wp_nil ?_
  refine c_seq ?_
  refine reg ?_
  refine p_ldA ty29 sz29 (S15.atX (i := 2) rfl) rfl rfl ?_
  refine p_allA in29 S15 fun b16 w17 S18 => ?_
  refine p_stP (pre := []) (old := [I 0, I 0, I 0, I 0, I 0, I 0] ++ (sg (List.replicate 3 0) 3 ++ [SL none 0 0, I 0, I 0, I 0, SL none 0 0])) (post := []) (vs := [I a0.Heap.Low, I a0.Heap.High] ++ (sgE eSpan a0.Eats 2 ++ (sg a0.Extra 3 ++ [SL A1 a0.Days.length c2, I a0.Collier.Low, I a0.Collier.High, I a0.Brings, SL A4 a0.Dips.length c5]))) sz29 S18 (i := 0) rfl rfl rfl rfl (rfl : _ = AG ([I a0.Heap.Low, I a0.Heap.High] ++ (sgE eSpan a0.Eats 2 ++ (sg a0.Extra 3 ++ [SL A1 a0.Days.length c2, I a0.Collier.Low, I a0.Collier.High, I a0.Brings, SL A4 a0.Dips.length c5])))) rfl rfl rfl rfl fun w19 S20 => ?_
  refine wp_nil ?_
  refine c_seq ?_
  rcases Bool.eq_false_or_eq_true (a0.Dips.isEmpty) with c27 | c27
  · replace H := condT c27 H
    refine reg_any mixed 6 (by kernel_rfl) [rx (α := (Option Addr)) (fun A21 => SL A21 0 0) (fun A21 lo hi => BtwL lo hi [] (gr eCoalDip 3 67 A21 0 ([] : List CoalDip)) ∧ True) (fun A21 => [gr eCoalDip 3 67 A21 0 ([] : List CoalDip)]), rv (P b7 13), rv (SL A4 a0.Dips.length c5), dv 7 some, rv (AG [I a1.Day, I a1.Read, I a1.Error]), rx (α := (Option Addr) × Nat) (fun ⟨A37, c38⟩ => SL A37 ([a1] : List CoalDip).length c38) (fun ⟨A37, c38⟩ lo hi => BtwL lo hi [] (gr eCoalDip 3 67 A37 c38 ([a1] : List CoalDip)) ∧ True) (fun ⟨A37, c38⟩ => [gr eCoalDip 3 67 A37 c38 ([a1] : List CoalDip)])] [[], [], [], [7], [], []] rfl (by kernel_rfl) [[], [], [1], [0, 1, 2], [], [4], [0, 1, 2, 3, 4, 5], [0, 1, 2, 3, 4, 5, 6], [0, 1, 2, 3, 4, 5, 6, 7]] (by kernel_rfl) ⟨?_, ?_, ?_, ?_, ?_, ?_, trivial⟩ ?_
    · intro e_ w_ k_ hf_ hR_
      have S_ : St w_ (fun _ => False) w_ [] [bl b16 ([I a0.Heap.Low, I a0.Heap.High] ++ (sgE eSpan a0.Eats 2 ++ (sg a0.Extra 3 ++ [SL A1 a0.Days.length c2, I a0.Collier.Low, I a0.Collier.High, I a0.Brings, SL A4 a0.Dips.length c5]))) 29, bl b13 ([I 0, I 0, I 0, I 0, I 0, I 0] ++ (sg (List.replicate 3 0) 3 ++ [SL none 0 0, I 0, I 0, I 0, SL none 0 0])) 29, bl b10 [I a1.Day, I a1.Read, I a1.Error] 67, bl b7 ([I a0.Heap.Low, I a0.Heap.High] ++ (sgE eSpan a0.Eats 2 ++ (sg a0.Extra 3 ++ [SL A1 a0.Days.length c2, I a0.Collier.Low, I a0.Collier.High, I a0.Brings, SL A4 a0.Dips.length c5]))) 29, rd eCoalDay 3 A1 c2 a0.Days, rd eCoalDip 3 A4 c5 a0.Dips] := S20.asP k_
      refine hopE [] trivial ?_
      refine p_bsl0 eCoalDip sc27 S_ fun A21 w23 S24 => ?_
      refine wp_nil ?_
      exact ⟨_, rfl, S24.keep, ⟨A21, rfl, ⟨BtwL.of (New.al (S24.newX (i := 0) rfl)) rfl (S24.atX (i := 0) rfl) rfl, trivial⟩, (List.forall_mem_cons.2 ⟨(S24.atX (i := 0) rfl), (fun _ h_ => (List.not_mem_nil h_).elim)⟩)⟩⟩
    · intro e_ w_ k_ hf_ hR_
      have S_ : St w_ (fun _ => False) w_ [] [bl b16 ([I a0.Heap.Low, I a0.Heap.High] ++ (sgE eSpan a0.Eats 2 ++ (sg a0.Extra 3 ++ [SL A1 a0.Days.length c2, I a0.Collier.Low, I a0.Collier.High, I a0.Brings, SL A4 a0.Dips.length c5]))) 29, bl b13 ([I 0, I 0, I 0, I 0, I 0, I 0] ++ (sg (List.replicate 3 0) 3 ++ [SL none 0 0, I 0, I 0, I 0, SL none 0 0])) 29, bl b10 [I a1.Day, I a1.Read, I a1.Error] 67, bl b7 ([I a0.Heap.Low, I a0.Heap.High] ++ (sgE eSpan a0.Eats 2 ++ (sg a0.Extra 3 ++ [SL A1 a0.Days.length c2, I a0.Collier.Low, I a0.Collier.High, I a0.Brings, SL A4 a0.Dips.length c5]))) 29, rd eCoalDay 3 A1 c2 a0.Days, rd eCoalDip 3 A4 c5 a0.Dips] := S20.asP k_
      refine hopE [(2, P b7 0)] ⟨((hf_ 2 rfl).trans (rfl : _ = P b7 0)), trivial⟩ ?_
      refine p_fld fl29_6 rfl ?_
      refine wp_nil ?_
      exact ⟨_, rfl, S_.keep, rfl⟩
    · intro e_ w_ k_ hf_ hR_
      have S_ : St w_ (fun _ => False) w_ [] [bl b16 ([I a0.Heap.Low, I a0.Heap.High] ++ (sgE eSpan a0.Eats 2 ++ (sg a0.Extra 3 ++ [SL A1 a0.Days.length c2, I a0.Collier.Low, I a0.Collier.High, I a0.Brings, SL A4 a0.Dips.length c5]))) 29, bl b13 ([I 0, I 0, I 0, I 0, I 0, I 0] ++ (sg (List.replicate 3 0) 3 ++ [SL none 0 0, I 0, I 0, I 0, SL none 0 0])) 29, bl b10 [I a1.Day, I a1.Read, I a1.Error] 67, bl b7 ([I a0.Heap.Low, I a0.Heap.High] ++ (sgE eSpan a0.Eats 2 ++ (sg a0.Extra 3 ++ [SL A1 a0.Days.length c2, I a0.Collier.Low, I a0.Collier.High, I a0.Brings, SL A4 a0.Dips.length c5]))) 29, rd eCoalDay 3 A1 c2 a0.Days, rd eCoalDip 3 A4 c5 a0.Dips] := S20.asP k_
      obtain ⟨_, _, _, _, q26⟩ := hR_ 1 8 rfl (Nat.le_of_ble_eq_true rfl) rfl
      refine hopE [(8, P b7 13)] ⟨q26, trivial⟩ ?_
      refine p_ld ty27 (S_.atP (i := 3) rfl) rfl rfl ?_
      refine wp_nil ?_
      exact ⟨_, rfl, S_.keep, rfl⟩
    · intro e_ w_ k_ hf_ hR_
      have S_ : St w_ (fun _ => False) w_ [] [bl b16 ([I a0.Heap.Low, I a0.Heap.High] ++ (sgE eSpan a0.Eats 2 ++ (sg a0.Extra 3 ++ [SL A1 a0.Days.length c2, I a0.Collier.Low, I a0.Collier.High, I a0.Brings, SL A4 a0.Dips.length c5]))) 29, bl b13 ([I 0, I 0, I 0, I 0, I 0, I 0] ++ (sg (List.replicate 3 0) 3 ++ [SL none 0 0, I 0, I 0, I 0, SL none 0 0])) 29, bl b10 [I a1.Day, I a1.Read, I a1.Error] 67, bl b7 ([I a0.Heap.Low, I a0.Heap.High] ++ (sgE eSpan a0.Eats 2 ++ (sg a0.Extra 3 ++ [SL A1 a0.Days.length c2, I a0.Collier.Low, I a0.Collier.High, I a0.Brings, SL A4 a0.Dips.length c5]))) 29, rd eCoalDay 3 A1 c2 a0.Days, rd eCoalDip 3 A4 c5 a0.Dips] := S20.asP k_
      obtain ⟨_, _, _, _, A21, q28, p29, a30⟩ := hR_ 0 7 rfl (Nat.le_of_ble_eq_true rfl) rfl
      replace q28 : e_ 7 = SL A21 0 0 := q28
      have S_ := St.addL' S_ (a30 _ (.head _)) (fun _ _ _ h_ => (List.not_mem_nil h_).elim)
      obtain ⟨_, _, _, _, q31⟩ := hR_ 2 9 rfl (Nat.le_of_ble_eq_true rfl) rfl
      refine hopE [(7, SL A21 0 0), (9, SL A4 a0.Dips.length c5)] ⟨q28, q31, trivial⟩ ?_
      refine p_app0 sc27 in67 (Nat.le_refl _) c27 rfl rfl ?_
      refine wp_nil ?_
      exact ⟨_, rfl, S_.keep, rfl⟩
    · intro e_ w_ k_ hf_ hR_
      have S_ : St w_ (fun _ => False) w_ [] [bl b16 ([I a0.Heap.Low, I a0.Heap.High] ++ (sgE eSpan a0.Eats 2 ++ (sg a0.Extra 3 ++ [SL A1 a0.Days.length c2, I a0.Collier.Low, I a0.Collier.High, I a0.Brings, SL A4 a0.Dips.length c5]))) 29, bl b13 ([I 0, I 0, I 0, I 0, I 0, I 0] ++ (sg (List.replicate 3 0) 3 ++ [SL none 0 0, I 0, I 0, I 0, SL none 0 0])) 29, bl b10 [I a1.Day, I a1.Read, I a1.Error] 67, bl b7 ([I a0.Heap.Low, I a0.Heap.High] ++ (sgE eSpan a0.Eats 2 ++ (sg a0.Extra 3 ++ [SL A1 a0.Days.length c2, I a0.Collier.Low, I a0.Collier.High, I a0.Brings, SL A4 a0.Dips.length c5]))) 29, rd eCoalDay 3 A1 c2 a0.Days, rd eCoalDip 3 A4 c5 a0.Dips] := S20.asP k_
      refine hopE [(3, P b10 0)] ⟨((hf_ 3 rfl).trans (rfl : _ = P b10 0)), trivial⟩ ?_
      refine p_ldA ty67 sz67 (S_.atP (i := 2) rfl) rfl rfl ?_
      refine wp_nil ?_
      exact ⟨_, rfl, S_.keep, rfl⟩
    · intro e_ w_ k_ hf_ hR_
      have S_ : St w_ (fun _ => False) w_ [] [bl b16 ([I a0.Heap.Low, I a0.Heap.High] ++ (sgE eSpan a0.Eats 2 ++ (sg a0.Extra 3 ++ [SL A1 a0.Days.length c2, I a0.Collier.Low, I a0.Collier.High, I a0.Brings, SL A4 a0.Dips.length c5]))) 29, bl b13 ([I 0, I 0, I 0, I 0, I 0, I 0] ++ (sg (List.replicate 3 0) 3 ++ [SL none 0 0, I 0, I 0, I 0, SL none 0 0])) 29, bl b10 [I a1.Day, I a1.Read, I a1.Error] 67, bl b7 ([I a0.Heap.Low, I a0.Heap.High] ++ (sgE eSpan a0.Eats 2 ++ (sg a0.Extra 3 ++ [SL A1 a0.Days.length c2, I a0.Collier.Low, I a0.Collier.High, I a0.Brings, SL A4 a0.Dips.length c5]))) 29, rd eCoalDay 3 A1 c2 a0.Days, rd eCoalDip 3 A4 c5 a0.Dips] := S20.asP k_
      obtain ⟨_, _, _, _, q36⟩ := hR_ 4 11 rfl (Nat.le_of_ble_eq_true rfl) rfl
      refine hopE [(11, AG [I a1.Day, I a1.Read, I a1.Error])] ⟨q36, trivial⟩ ?_
      refine p_bsl (enc := eCoalDip) (l := ([a1] : List CoalDip)) (fun x => AG (eCoalDip x)) (fun _ => rfl) sc27 in67 eCoalDip_len rfl (by decide) (by decide) zr67_1 S_ rfl fun A37 c38 w39 S40 => ?_
      refine wp_nil ?_
      exact ⟨_, rfl, S40.keep, ⟨(A37, c38), rfl, ⟨BtwL.of (New.al (S40.newX (i := 0) rfl)) rfl (S40.atX (i := 0) rfl) rfl, trivial⟩, (List.forall_mem_cons.2 ⟨(S40.atX (i := 0) rfl), (fun _ h_ => (List.not_mem_nil h_).elim)⟩)⟩⟩
    intro e42 w43 lo44 hi45 k46 hf47 hR48 hd49
    have S50 := S20.call k46
    obtain ⟨h52, h53, h54, A21, q51, h55, h56⟩ := hR48 0 7 (Nat.le_of_ble_eq_true rfl) rfl
    replace q51 : e42 7 = SL A21 0 0 := q51
    obtain ⟨p57, _⟩ := h55
    have q59 : e42 8 = P b7 13 := (hR48 1 8 (Nat.le_of_ble_eq_true rfl) rfl).2.2.2
    have q60 : e42 9 = SL A4 a0.Dips.length c5 := (hR48 2 9 (Nat.le_of_ble_eq_true rfl) rfl).2.2.2
    have q61 : e42 10 = SL A21 0 0 := (Option.some.inj ((congrArg some q51).symm.trans (hR48 3 10 (Nat.le_of_ble_eq_true rfl) rfl).2.2.2)).symm
    have q62 : e42 11 = AG [I a1.Day, I a1.Read, I a1.Error] := (hR48 4 11 (Nat.le_of_ble_eq_true rfl) rfl).2.2.2
    obtain ⟨h64, h65, h66, ⟨A37, c38⟩, q63, h67, h68⟩ := hR48 5 12 (Nat.le_of_ble_eq_true rfl) rfl
    replace q63 : e42 12 = SL A37 ([a1] : List CoalDip).length c38 := q63
    obtain ⟨p69, _⟩ := h67
    have S71 := St.addO S50 (h56 _ (.head _)) (fun b_ h_ => (p57 b_ h_).elim (fun q_ => Nat.le_trans S20.keep.size (Nat.le_trans h52 q_.1)) (fun ⟨_, hq_, _⟩ => (List.not_mem_nil hq_).elim)) (List.forall_mem_cons.2 ⟨(fun b_ h1_ h2_ => (p57 b_ h1_).elim (fun q2_ => by have q1_ := Asr.inb _ _ _ (S20.atX (i := 0) rfl) h2_; omega) (fun ⟨_, hq_, _⟩ => (List.not_mem_nil hq_).elim)), (List.forall_mem_cons.2 ⟨(fun b_ h1_ h2_ => (p57 b_ h1_).elim (fun q2_ => by have q1_ := Asr.inb _ _ _ (S20.atX (i := 1) rfl) h2_; omega) (fun ⟨_, hq_, _⟩ => (List.not_mem_nil hq_).elim)), (List.forall_mem_cons.2 ⟨(fun b_ h1_ h2_ => (p57 b_ h1_).elim (fun q2_ => by have q1_ := Asr.inb _ _ _ (S20.atX (i := 2) rfl) h2_; omega) (fun ⟨_, hq_, _⟩ => (List.not_mem_nil hq_).elim)), (List.forall_mem_cons.2 ⟨(fun b_ h1_ h2_ => (p57 b_ h1_).elim (fun q2_ => by have q1_ := Asr.inb _ _ _ (S20.atX (i := 3) rfl) h2_; omega) (fun ⟨_, hq_, _⟩ => (List.not_mem_nil hq_).elim)), (fun _ h_ => (List.not_mem_nil h_).elim)⟩)⟩)⟩)⟩) (List.forall_mem_cons.2 ⟨(fun b_ h1_ h2_ => (p57 b_ h1_).elim (fun q2_ => by have q1_ := Asr.inb _ _ _ (S20.atP (i := 0) rfl) h2_; omega) (fun ⟨_, hq_, _⟩ => (List.not_mem_nil hq_).elim)), (List.forall_mem_cons.2 ⟨(fun b_ h1_ h2_ => (p57 b_ h1_).elim (fun q2_ => by have q1_ := Asr.inb _ _ _ (S20.atP (i := 1) rfl) h2_; omega) (fun ⟨_, hq_, _⟩ => (List.not_mem_nil hq_).elim)), (fun _ h_ => (List.not_mem_nil h_).elim)⟩)⟩)
    have S72 := St.addO S71 (h68 _ (.head _)) (fun b_ h_ => (p69 b_ h_).elim (fun q_ => Nat.le_trans S20.keep.size (Nat.le_trans h64 q_.1)) (fun ⟨_, hq_, _⟩ => (List.not_mem_nil hq_).elim)) (List.forall_mem_cons.2 ⟨(fun b_ h1_ h2_ => (p69 b_ h1_).elim (fun q1_ => (p57 b_ h2_).elim (fun q2_ => by have q3_ := hd49 5 0 (Nat.le_of_ble_eq_true rfl) (Nat.le_of_ble_eq_true rfl) (by decide); omega) (fun ⟨q_, hq_, hqb_⟩ => by have q5_ := h64; have q4_ := Asr.inb _ _ _ (S20.ps q_ (((fun _ h_ => (List.not_mem_nil h_).elim)) q_ hq_)) hqb_; omega)) (fun ⟨_, hq_, _⟩ => (List.not_mem_nil hq_).elim)), (List.forall_mem_cons.2 ⟨(fun b_ h1_ h2_ => (p69 b_ h1_).elim (fun q2_ => by have q1_ := Asr.inb _ _ _ (S20.atX (i := 0) rfl) h2_; omega) (fun ⟨_, hq_, _⟩ => (List.not_mem_nil hq_).elim)), (List.forall_mem_cons.2 ⟨(fun b_ h1_ h2_ => (p69 b_ h1_).elim (fun q2_ => by have q1_ := Asr.inb _ _ _ (S20.atX (i := 1) rfl) h2_; omega) (fun ⟨_, hq_, _⟩ => (List.not_mem_nil hq_).elim)), (List.forall_mem_cons.2 ⟨(fun b_ h1_ h2_ => (p69 b_ h1_).elim (fun q2_ => by have q1_ := Asr.inb _ _ _ (S20.atX (i := 2) rfl) h2_; omega) (fun ⟨_, hq_, _⟩ => (List.not_mem_nil hq_).elim)), (List.forall_mem_cons.2 ⟨(fun b_ h1_ h2_ => (p69 b_ h1_).elim (fun q2_ => by have q1_ := Asr.inb _ _ _ (S20.atX (i := 3) rfl) h2_; omega) (fun ⟨_, hq_, _⟩ => (List.not_mem_nil hq_).elim)), (fun _ h_ => (List.not_mem_nil h_).elim)⟩)⟩)⟩)⟩)⟩) (List.forall_mem_cons.2 ⟨(fun b_ h1_ h2_ => (p69 b_ h1_).elim (fun q2_ => by have q1_ := Asr.inb _ _ _ (S20.atP (i := 0) rfl) h2_; omega) (fun ⟨_, hq_, _⟩ => (List.not_mem_nil hq_).elim)), (List.forall_mem_cons.2 ⟨(fun b_ h1_ h2_ => (p69 b_ h1_).elim (fun q2_ => by have q1_ := Asr.inb _ _ _ (S20.atP (i := 1) rfl) h2_; omega) (fun ⟨_, hq_, _⟩ => (List.not_mem_nil hq_).elim)), (fun _ h_ => (List.not_mem_nil h_).elim)⟩)⟩)
    refine tailE [(4, P b13 0), (5, P b16 0), (10, SL A21 0 0), (12, SL A37 ([a1] : List CoalDip).length c38)] ⟨((hf47 4 rfl).trans (rfl : _ = P b13 0)), ((hf47 5 rfl).trans (rfl : _ = P b16 0)), q61, q63, trivial⟩ ?_
    intro g73
    obtain ⟨h78, H⟩ := needS H
    refine p_app (enc := eCoalDip) sc27 in67 rfl eCoalDip_len eCoalDip_one (by decide) S72 (k := 1) rfl (gr_sl eCoalDip_len (S72.atX (i := 0) rfl)) h78 (by simp) rfl rfl fun A76 c77 w74 S75 => ?_
    refine p_fld fl29_6 rfl ?_
    refine p_stP (pre := [I a0.Heap.Low, I a0.Heap.High] ++ (sgE eSpan a0.Eats 2 ++ (sg a0.Extra 3 ++ [SL A1 a0.Days.length c2, I a0.Collier.Low, I a0.Collier.High, I a0.Brings]))) (old := [SL A4 a0.Dips.length c5]) (post := []) (vs := [SL A76 ([a1] : List CoalDip).length c77]) sz27 S75 (i := 2) rfl rfl rfl rfl (rfl : _ = SL A76 ([a1] : List CoalDip).length c77) rfl rfl rfl rfl fun w79 S80 => ?_
    refine wp_nil ?_
    refine c_seq ?_
    refine reg ?_
    refine p_ldA ty29 sz29 (S80.atX (i := 2) rfl) rfl rfl ?_
    refine p_stP (pre := []) (old := [I 0, I 0, I 0, I 0, I 0, I 0] ++ (sg (List.replicate 3 0) 3 ++ [SL none 0 0, I 0, I 0, I 0, SL none 0 0])) (post := []) (vs := [I a0.Heap.Low, I a0.Heap.High] ++ (sgE eSpan a0.Eats 2 ++ (sg a0.Extra 3 ++ [SL A1 a0.Days.length c2, I a0.Collier.Low, I a0.Collier.High, I a0.Brings, SL A76 ([a1] : List CoalDip).length c77]))) sz29 S80 (i := 3) rfl rfl rfl rfl (rfl : _ = AG ([I a0.Heap.Low, I a0.Heap.High] ++ (sgE eSpan a0.Eats 2 ++ (sg a0.Extra 3 ++ [SL A1 a0.Days.length c2, I a0.Collier.Low, I a0.Collier.High, I a0.Brings, SL A76 ([a1] : List CoalDip).length c77])))) rfl rfl rfl rfl fun w81 S82 => ?_
    refine wp_nil ?_
    obtain rfl := Option.some.inj H
    refine c_ret ?_; show bodyPostM (Fr none) 0 Tryd.prog Tryd.f40 _ .ret _ _
    refine ret_of (res1 rfl (rvA rfl ty29 sz29 (S82.atX (i := 3) rfl) rfl)) ?_
    exact ⟨_, rfl, A76, c77, rfl, S82.keep, ⟨S82.atX (i := 1) rfl, S82.newX (i := 1) rfl⟩, trivial⟩
  · replace H := condF c27 H
    obtain ⟨h91, H⟩ := needS H
    refine reg_any mixed 6 (by kernel_rfl) [rx (α := (Option Addr)) (fun A21 => SL A21 0 0) (fun A21 lo hi => BtwL lo hi [] (gr eCoalDip 3 67 A21 0 ([] : List CoalDip)) ∧ True) (fun A21 => [gr eCoalDip 3 67 A21 0 ([] : List CoalDip)]), rv (P b7 13), rv (SL A4 a0.Dips.length c5), rx (α := (Option Addr) × Nat) (fun ⟨A89, c90⟩ => SL A89 a0.Dips.length c90) (fun ⟨A89, c90⟩ lo hi => BtwL lo hi [] (gr eCoalDip 3 67 A89 c90 a0.Dips) ∧ True) (fun ⟨A89, c90⟩ => [gr eCoalDip 3 67 A89 c90 a0.Dips]), rv (AG [I a1.Day, I a1.Read, I a1.Error]), rx (α := (Option Addr) × Nat) (fun ⟨A94, c95⟩ => SL A94 ([a1] : List CoalDip).length c95) (fun ⟨A94, c95⟩ lo hi => BtwL lo hi [] (gr eCoalDip 3 67 A94 c95 ([a1] : List CoalDip)) ∧ True) (fun ⟨A94, c95⟩ => [gr eCoalDip 3 67 A94 c95 ([a1] : List CoalDip)])] [[], [], [], [], [], []] rfl (by kernel_rfl) [[], [], [1], [0, 1, 2], [], [4], [0, 1, 2, 3, 4, 5], [0, 1, 2, 3, 4, 5, 6], [0, 1, 2, 3, 4, 5, 6, 7]] (by kernel_rfl) ⟨?_, ?_, ?_, ?_, ?_, ?_, trivial⟩ ?_
    · intro e_ w_ k_ hf_ hR_
      have S_ : St w_ (fun _ => False) w_ [] [bl b16 ([I a0.Heap.Low, I a0.Heap.High] ++ (sgE eSpan a0.Eats 2 ++ (sg a0.Extra 3 ++ [SL A1 a0.Days.length c2, I a0.Collier.Low, I a0.Collier.High, I a0.Brings, SL A4 a0.Dips.length c5]))) 29, bl b13 ([I 0, I 0, I 0, I 0, I 0, I 0] ++ (sg (List.replicate 3 0) 3 ++ [SL none 0 0, I 0, I 0, I 0, SL none 0 0])) 29, bl b10 [I a1.Day, I a1.Read, I a1.Error] 67, bl b7 ([I a0.Heap.Low, I a0.Heap.High] ++ (sgE eSpan a0.Eats 2 ++ (sg a0.Extra 3 ++ [SL A1 a0.Days.length c2, I a0.Collier.Low, I a0.Collier.High, I a0.Brings, SL A4 a0.Dips.length c5]))) 29, rd eCoalDay 3 A1 c2 a0.Days, rd eCoalDip 3 A4 c5 a0.Dips] := S20.asP k_
      refine hopE [] trivial ?_
      refine p_bsl0 eCoalDip sc27 S_ fun A21 w23 S24 => ?_
      refine wp_nil ?_
      exact ⟨_, rfl, S24.keep, ⟨A21, rfl, ⟨BtwL.of (New.al (S24.newX (i := 0) rfl)) rfl (S24.atX (i := 0) rfl) rfl, trivial⟩, (List.forall_mem_cons.2 ⟨(S24.atX (i := 0) rfl), (fun _ h_ => (List.not_mem_nil h_).elim)⟩)⟩⟩
    · intro e_ w_ k_ hf_ hR_
      have S_ : St w_ (fun _ => False) w_ [] [bl b16 ([I a0.Heap.Low, I a0.Heap.High] ++ (sgE eSpan a0.Eats 2 ++ (sg a0.Extra 3 ++ [SL A1 a0.Days.length c2, I a0.Collier.Low, I a0.Collier.High, I a0.Brings, SL A4 a0.Dips.length c5]))) 29, bl b13 ([I 0, I 0, I 0, I 0, I 0, I 0] ++ (sg (List.replicate 3 0) 3 ++ [SL none 0 0, I 0, I 0, I 0, SL none 0 0])) 29, bl b10 [I a1.Day, I a1.Read, I a1.Error] 67, bl b7 ([I a0.Heap.Low, I a0.Heap.High] ++ (sgE eSpan a0.Eats 2 ++ (sg a0.Extra 3 ++ [SL A1 a0.Days.length c2, I a0.Collier.Low, I a0.Collier.High, I a0.Brings, SL A4 a0.Dips.length c5]))) 29, rd eCoalDay 3 A1 c2 a0.Days, rd eCoalDip 3 A4 c5 a0.Dips] := S20.asP k_
      refine hopE [(2, P b7 0)] ⟨((hf_ 2 rfl).trans (rfl : _ = P b7 0)), trivial⟩ ?_
      refine p_fld fl29_6 rfl ?_
      refine wp_nil ?_
      exact ⟨_, rfl, S_.keep, rfl⟩
    · intro e_ w_ k_ hf_ hR_
      have S_ : St w_ (fun _ => False) w_ [] [bl b16 ([I a0.Heap.Low, I a0.Heap.High] ++ (sgE eSpan a0.Eats 2 ++ (sg a0.Extra 3 ++ [SL A1 a0.Days.length c2, I a0.Collier.Low, I a0.Collier.High, I a0.Brings, SL A4 a0.Dips.length c5]))) 29, bl b13 ([I 0, I 0, I 0, I 0, I 0, I 0] ++ (sg (List.replicate 3 0) 3 ++ [SL none 0 0, I 0, I 0, I 0, SL none 0 0])) 29, bl b10 [I a1.Day, I a1.Read, I a1.Error] 67, bl b7 ([I a0.Heap.Low, I a0.Heap.High] ++ (sgE eSpan a0.Eats 2 ++ (sg a0.Extra 3 ++ [SL A1 a0.Days.length c2, I a0.Collier.Low, I a0.Collier.High, I a0.Brings, SL A4 a0.Dips.length c5]))) 29, rd eCoalDay 3 A1 c2 a0.Days, rd eCoalDip 3 A4 c5 a0.Dips] := S20.asP k_
      obtain ⟨_, _, _, _, q26⟩ := hR_ 1 8 rfl (Nat.le_of_ble_eq_true rfl) rfl
      refine hopE [(8, P b7 13)] ⟨q26, trivial⟩ ?_
      refine p_ld ty27 (S_.atP (i := 3) rfl) rfl rfl ?_
      refine wp_nil ?_
      exact ⟨_, rfl, S_.keep, rfl⟩
    · intro e_ w_ k_ hf_ hR_
      have S_ : St w_ (fun _ => False) w_ [] [bl b16 ([I a0.Heap.Low, I a0.Heap.High] ++ (sgE eSpan a0.Eats 2 ++ (sg a0.Extra 3 ++ [SL A1 a0.Days.length c2, I a0.Collier.Low, I a0.Collier.High, I a0.Brings, SL A4 a0.Dips.length c5]))) 29, bl b13 ([I 0, I 0, I 0, I 0, I 0, I 0] ++ (sg (List.replicate 3 0) 3 ++ [SL none 0 0, I 0, I 0, I 0, SL none 0 0])) 29, bl b10 [I a1.Day, I a1.Read, I a1.Error] 67, bl b7 ([I a0.Heap.Low, I a0.Heap.High] ++ (sgE eSpan a0.Eats 2 ++ (sg a0.Extra 3 ++ [SL A1 a0.Days.length c2, I a0.Collier.Low, I a0.Collier.High, I a0.Brings, SL A4 a0.Dips.length c5]))) 29, rd eCoalDay 3 A1 c2 a0.Days, rd eCoalDip 3 A4 c5 a0.Dips] := S20.asP k_
      obtain ⟨_, _, _, _, A21, q83, p84, a85⟩ := hR_ 0 7 rfl (Nat.le_of_ble_eq_true rfl) rfl
      replace q83 : e_ 7 = SL A21 0 0 := q83
      have S_ := St.addL' S_ (a85 _ (.head _)) (fun _ _ _ h_ => (List.not_mem_nil h_).elim)
      obtain ⟨_, _, _, _, q86⟩ := hR_ 2 9 rfl (Nat.le_of_ble_eq_true rfl) rfl
      refine hopE [(7, SL A21 0 0), (9, SL A4 a0.Dips.length c5)] ⟨q83, q86, trivial⟩ ?_
      refine p_appN (enc := eCoalDip) sc27 in67 rfl eCoalDip_len (by decide) S_ (gr_sl eCoalDip_len (S_.atP (i := 0) rfl)) rfl (S_.atP (i := 6) rfl).1 h91 (ne_of_some c27) rfl rfl fun A89 c90 w87 S88 => ?_
      refine wp_nil ?_
      exact ⟨_, rfl, S88.keep, ⟨(A89, c90), rfl, ⟨BtwL.of (New.al (S88.newX (i := 0) rfl)) rfl (S88.atX (i := 0) rfl) rfl, trivial⟩, (List.forall_mem_cons.2 ⟨(S88.atX (i := 0) rfl), (fun _ h_ => (List.not_mem_nil h_).elim)⟩)⟩⟩
    · intro e_ w_ k_ hf_ hR_
      have S_ : St w_ (fun _ => False) w_ [] [bl b16 ([I a0.Heap.Low, I a0.Heap.High] ++ (sgE eSpan a0.Eats 2 ++ (sg a0.Extra 3 ++ [SL A1 a0.Days.length c2, I a0.Collier.Low, I a0.Collier.High, I a0.Brings, SL A4 a0.Dips.length c5]))) 29, bl b13 ([I 0, I 0, I 0, I 0, I 0, I 0] ++ (sg (List.replicate 3 0) 3 ++ [SL none 0 0, I 0, I 0, I 0, SL none 0 0])) 29, bl b10 [I a1.Day, I a1.Read, I a1.Error] 67, bl b7 ([I a0.Heap.Low, I a0.Heap.High] ++ (sgE eSpan a0.Eats 2 ++ (sg a0.Extra 3 ++ [SL A1 a0.Days.length c2, I a0.Collier.Low, I a0.Collier.High, I a0.Brings, SL A4 a0.Dips.length c5]))) 29, rd eCoalDay 3 A1 c2 a0.Days, rd eCoalDip 3 A4 c5 a0.Dips] := S20.asP k_
      refine hopE [(3, P b10 0)] ⟨((hf_ 3 rfl).trans (rfl : _ = P b10 0)), trivial⟩ ?_
      refine p_ldA ty67 sz67 (S_.atP (i := 2) rfl) rfl rfl ?_
      refine wp_nil ?_
      exact ⟨_, rfl, S_.keep, rfl⟩
    · intro e_ w_ k_ hf_ hR_
      have S_ : St w_ (fun _ => False) w_ [] [bl b16 ([I a0.Heap.Low, I a0.Heap.High] ++ (sgE eSpan a0.Eats 2 ++ (sg a0.Extra 3 ++ [SL A1 a0.Days.length c2, I a0.Collier.Low, I a0.Collier.High, I a0.Brings, SL A4 a0.Dips.length c5]))) 29, bl b13 ([I 0, I 0, I 0, I 0, I 0, I 0] ++ (sg (List.replicate 3 0) 3 ++ [SL none 0 0, I 0, I 0, I 0, SL none 0 0])) 29, bl b10 [I a1.Day, I a1.Read, I a1.Error] 67, bl b7 ([I a0.Heap.Low, I a0.Heap.High] ++ (sgE eSpan a0.Eats 2 ++ (sg a0.Extra 3 ++ [SL A1 a0.Days.length c2, I a0.Collier.Low, I a0.Collier.High, I a0.Brings, SL A4 a0.Dips.length c5]))) 29, rd eCoalDay 3 A1 c2 a0.Days, rd eCoalDip 3 A4 c5 a0.Dips] := S20.asP k_
      obtain ⟨_, _, _, _, q93⟩ := hR_ 4 11 rfl (Nat.le_of_ble_eq_true rfl) rfl
      refine hopE [(11, AG [I a1.Day, I a1.Read, I a1.Error])] ⟨q93, trivial⟩ ?_
      refine p_bsl (enc := eCoalDip) (l := ([a1] : List CoalDip)) (fun x => AG (eCoalDip x)) (fun _ => rfl) sc27 in67 eCoalDip_len rfl (by decide) (by decide) zr67_1 S_ rfl fun A94 c95 w96 S97 => ?_
      refine wp_nil ?_
      exact ⟨_, rfl, S97.keep, ⟨(A94, c95), rfl, ⟨BtwL.of (New.al (S97.newX (i := 0) rfl)) rfl (S97.atX (i := 0) rfl) rfl, trivial⟩, (List.forall_mem_cons.2 ⟨(S97.atX (i := 0) rfl), (fun _ h_ => (List.not_mem_nil h_).elim)⟩)⟩⟩
    intro e99 w100 lo101 hi102 k103 hf104 hR105 hd106
    have S107 := S20.call k103
    obtain ⟨h109, h110, h111, A21, q108, h112, h113⟩ := hR105 0 7 (Nat.le_of_ble_eq_true rfl) rfl
    replace q108 : e99 7 = SL A21 0 0 := q108
    obtain ⟨p114, _⟩ := h112
    have q116 : e99 8 = P b7 13 := (hR105 1 8 (Nat.le_of_ble_eq_true rfl) rfl).2.2.2
    have q117 : e99 9 = SL A4 a0.Dips.length c5 := (hR105 2 9 (Nat.le_of_ble_eq_true rfl) rfl).2.2.2
    obtain ⟨h119, h120, h121, ⟨A89, c90⟩, q118, h122, h123⟩ := hR105 3 10 (Nat.le_of_ble_eq_true rfl) rfl
    replace q118 : e99 10 = SL A89 a0.Dips.length c90 := q118
    obtain ⟨p124, _⟩ := h122
    have q126 : e99 11 = AG [I a1.Day, I a1.Read, I a1.Error] := (hR105 4 11 (Nat.le_of_ble_eq_true rfl) rfl).2.2.2
    obtain ⟨h128, h129, h130, ⟨A94, c95⟩, q127, h131, h132⟩ := hR105 5 12 (Nat.le_of_ble_eq_true rfl) rfl
    replace q127 : e99 12 = SL A94 ([a1] : List CoalDip).length c95 := q127
    obtain ⟨p133, _⟩ := h131
    have S135 := St.addO S107 (h123 _ (.head _)) (fun b_ h_ => (p124 b_ h_).elim (fun q_ => Nat.le_trans S20.keep.size (Nat.le_trans h119 q_.1)) (fun ⟨_, hq_, _⟩ => (List.not_mem_nil hq_).elim)) (List.forall_mem_cons.2 ⟨(fun b_ h1_ h2_ => (p124 b_ h1_).elim (fun q2_ => by have q1_ := Asr.inb _ _ _ (S20.atX (i := 0) rfl) h2_; omega) (fun ⟨_, hq_, _⟩ => (List.not_mem_nil hq_).elim)), (List.forall_mem_cons.2 ⟨(fun b_ h1_ h2_ => (p124 b_ h1_).elim (fun q2_ => by have q1_ := Asr.inb _ _ _ (S20.atX (i := 1) rfl) h2_; omega) (fun ⟨_, hq_, _⟩ => (List.not_mem_nil hq_).elim)), (List.forall_mem_cons.2 ⟨(fun b_ h1_ h2_ => (p124 b_ h1_).elim (fun q2_ => by have q1_ := Asr.inb _ _ _ (S20.atX (i := 2) rfl) h2_; omega) (fun ⟨_, hq_, _⟩ => (List.not_mem_nil hq_).elim)), (List.forall_mem_cons.2 ⟨(fun b_ h1_ h2_ => (p124 b_ h1_).elim (fun q2_ => by have q1_ := Asr.inb _ _ _ (S20.atX (i := 3) rfl) h2_; omega) (fun ⟨_, hq_, _⟩ => (List.not_mem_nil hq_).elim)), (fun _ h_ => (List.not_mem_nil h_).elim)⟩)⟩)⟩)⟩) (List.forall_mem_cons.2 ⟨(fun b_ h1_ h2_ => (p124 b_ h1_).elim (fun q2_ => by have q1_ := Asr.inb _ _ _ (S20.atP (i := 0) rfl) h2_; omega) (fun ⟨_, hq_, _⟩ => (List.not_mem_nil hq_).elim)), (List.forall_mem_cons.2 ⟨(fun b_ h1_ h2_ => (p124 b_ h1_).elim (fun q2_ => by have q1_ := Asr.inb _ _ _ (S20.atP (i := 1) rfl) h2_; omega) (fun ⟨_, hq_, _⟩ => (List.not_mem_nil hq_).elim)), (fun _ h_ => (List.not_mem_nil h_).elim)⟩)⟩)
    have S136 := St.addO S135 (h132 _ (.head _)) (fun b_ h_ => (p133 b_ h_).elim (fun q_ => Nat.le_trans S20.keep.size (Nat.le_trans h128 q_.1)) (fun ⟨_, hq_, _⟩ => (List.not_mem_nil hq_).elim)) (List.forall_mem_cons.2 ⟨(fun b_ h1_ h2_ => (p133 b_ h1_).elim (fun q1_ => (p124 b_ h2_).elim (fun q2_ => by have q3_ := hd106 5 3 (Nat.le_of_ble_eq_true rfl) (Nat.le_of_ble_eq_true rfl) (by decide); omega) (fun ⟨q_, hq_, hqb_⟩ => by have q5_ := h128; have q4_ := Asr.inb _ _ _ (S20.ps q_ (((fun _ h_ => (List.not_mem_nil h_).elim)) q_ hq_)) hqb_; omega)) (fun ⟨_, hq_, _⟩ => (List.not_mem_nil hq_).elim)), (List.forall_mem_cons.2 ⟨(fun b_ h1_ h2_ => (p133 b_ h1_).elim (fun q2_ => by have q1_ := Asr.inb _ _ _ (S20.atX (i := 0) rfl) h2_; omega) (fun ⟨_, hq_, _⟩ => (List.not_mem_nil hq_).elim)), (List.forall_mem_cons.2 ⟨(fun b_ h1_ h2_ => (p133 b_ h1_).elim (fun q2_ => by have q1_ := Asr.inb _ _ _ (S20.atX (i := 1) rfl) h2_; omega) (fun ⟨_, hq_, _⟩ => (List.not_mem_nil hq_).elim)), (List.forall_mem_cons.2 ⟨(fun b_ h1_ h2_ => (p133 b_ h1_).elim (fun q2_ => by have q1_ := Asr.inb _ _ _ (S20.atX (i := 2) rfl) h2_; omega) (fun ⟨_, hq_, _⟩ => (List.not_mem_nil hq_).elim)), (List.forall_mem_cons.2 ⟨(fun b_ h1_ h2_ => (p133 b_ h1_).elim (fun q2_ => by have q1_ := Asr.inb _ _ _ (S20.atX (i := 3) rfl) h2_; omega) (fun ⟨_, hq_, _⟩ => (List.not_mem_nil hq_).elim)), (fun _ h_ => (List.not_mem_nil h_).elim)⟩)⟩)⟩)⟩)⟩) (List.forall_mem_cons.2 ⟨(fun b_ h1_ h2_ => (p133 b_ h1_).elim (fun q2_ => by have q1_ := Asr.inb _ _ _ (S20.atP (i := 0) rfl) h2_; omega) (fun ⟨_, hq_, _⟩ => (List.not_mem_nil hq_).elim)), (List.forall_mem_cons.2 ⟨(fun b_ h1_ h2_ => (p133 b_ h1_).elim (fun q2_ => by have q1_ := Asr.inb _ _ _ (S20.atP (i := 1) rfl) h2_; omega) (fun ⟨_, hq_, _⟩ => (List.not_mem_nil hq_).elim)), (fun _ h_ => (List.not_mem_nil h_).elim)⟩)⟩)
    refine tailE [(4, P b13 0), (5, P b16 0), (10, SL A89 a0.Dips.length c90), (12, SL A94 ([a1] : List CoalDip).length c95)] ⟨((hf104 4 rfl).trans (rfl : _ = P b13 0)), ((hf104 5 rfl).trans (rfl : _ = P b16 0)), q118, q127, trivial⟩ ?_
    intro g137
    obtain ⟨h142, H⟩ := needS H
    refine p_app (enc := eCoalDip) sc27 in67 rfl eCoalDip_len eCoalDip_one (by decide) S136 (k := 1) rfl (gr_sl eCoalDip_len (S136.atX (i := 0) rfl)) h142 (by simp) rfl rfl fun A140 c141 w138 S139 => ?_
    refine p_fld fl29_6 rfl ?_
    refine p_stP (pre := [I a0.Heap.Low, I a0.Heap.High] ++ (sgE eSpan a0.Eats 2 ++ (sg a0.Extra 3 ++ [SL A1 a0.Days.length c2, I a0.Collier.Low, I a0.Collier.High, I a0.Brings]))) (old := [SL A4 a0.Dips.length c5]) (post := []) (vs := [SL A140 (a0.Dips ++ ([a1] : List CoalDip)).length c141]) sz27 S139 (i := 2) rfl rfl rfl rfl (rfl : _ = SL A140 (a0.Dips ++ ([a1] : List CoalDip)).length c141) rfl rfl rfl rfl fun w143 S144 => ?_
    refine wp_nil ?_
    refine c_seq ?_
    refine reg ?_
    refine p_ldA ty29 sz29 (S144.atX (i := 2) rfl) rfl rfl ?_
    refine p_stP (pre := []) (old := [I 0, I 0, I 0, I 0, I 0, I 0] ++ (sg (List.replicate 3 0) 3 ++ [SL none 0 0, I 0, I 0, I 0, SL none 0 0])) (post := []) (vs := [I a0.Heap.Low, I a0.Heap.High] ++ (sgE eSpan a0.Eats 2 ++ (sg a0.Extra 3 ++ [SL A1 a0.Days.length c2, I a0.Collier.Low, I a0.Collier.High, I a0.Brings, SL A140 (a0.Dips ++ ([a1] : List CoalDip)).length c141]))) sz29 S144 (i := 3) rfl rfl rfl rfl (rfl : _ = AG ([I a0.Heap.Low, I a0.Heap.High] ++ (sgE eSpan a0.Eats 2 ++ (sg a0.Extra 3 ++ [SL A1 a0.Days.length c2, I a0.Collier.Low, I a0.Collier.High, I a0.Brings, SL A140 (a0.Dips ++ ([a1] : List CoalDip)).length c141])))) rfl rfl rfl rfl fun w145 S146 => ?_
    refine wp_nil ?_
    obtain rfl := Option.some.inj H
    refine c_ret ?_; show bodyPostM (Fr none) 0 Tryd.prog Tryd.f40 _ .ret _ _
    refine ret_of (res1 rfl (rvA rfl ty29 sz29 (S146.atX (i := 3) rfl) rfl)) ?_
    exact ⟨_, rfl, A140, c141, rfl, S146.keep, ⟨S146.atX (i := 1) rfl, S146.newX (i := 1) rfl⟩, trivial⟩

end Go.Proofs.YticodohfokgjfaaDoor

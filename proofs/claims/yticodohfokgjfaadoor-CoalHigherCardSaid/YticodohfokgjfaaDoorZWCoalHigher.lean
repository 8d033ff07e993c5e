/- What the law's function computes, and that it does, printed by a program of mine. -/
import Derived.Test.YticodohfokgjfaaDoorZWAll
import Derived.KernelRfl
set_option linter.unusedVariables false
set_option linter.unusedSimpArgs false
namespace Go.Proofs.YticodohfokgjfaaDoor
open Go Go.Fx Go.Proofs
def law_CoalHigher (a0 : CoalBook) (a1 : List Int) : Option Bool :=
  (law_sound a0).bind fun r15 =>
  bif !r15 then ((law_stoked).bind fun r20 =>
  some r20)
  else ((B_Mod (aget a1 0) 30).bind fun r24 =>
  (B_Mod (aget a1 1) (a0.Days.length : Int)).bind fun r26 =>
  (B_Mod (aget a1 2) 2).bind fun r28 =>
  (law_higher a0 r24).bind fun r33 =>
  (coal_Check (CoalBook.mk r33.Heap r33.Eats r33.Extra a0.Days r33.Collier r33.Brings r33.Dips)).bind fun r48 =>
  bif (r48 != 0) then (bif (r48 == 60) then ((law_stoked).bind fun r54 =>
  some r54)
  else (some false))
  else ((coal_Wrong a0).bind fun r58 =>
  (coal_Wrong (CoalBook.mk r33.Heap r33.Eats r33.Extra a0.Days r33.Collier r33.Brings r33.Dips)).bind fun r68 =>
  (coal_Heap a0 r26).bind fun r77 =>
  (coal_Heap (CoalBook.mk r33.Heap r33.Eats r33.Extra a0.Days r33.Collier r33.Brings r33.Dips) r26).bind fun r86 =>
  bif (r58.2 != 0) then (some false)
  else (bif (r68.2 != 0) then (some false)
  else ((B_Alike r58.1 r68.1).bind fun r97 =>
  bif !r97 then (some false)
  else (bif (r77.2 != r86.2) then (some false)
  else (bif (r77.2 != 0) then (bif (r77.2 == 62) then (bif ((r77.1.Low == r86.1.Low) && (r77.1.High == r86.1.High)) then ((law_stoked).bind fun r106 =>
  some r106)
  else (some false))
  else (some false))
  else ((coal_Eats a0 r28).bind fun r110 =>
  (coal_Eats (CoalBook.mk r33.Heap r33.Eats r33.Extra a0.Days r33.Collier r33.Brings r33.Dips) r28).bind fun r119 =>
  (coal_Wind a0 r26).bind fun r128 =>
  (coal_Wind (CoalBook.mk r33.Heap r33.Eats r33.Extra a0.Days r33.Collier r33.Brings r33.Dips) r26).bind fun r132 =>
  (coal_Order a0).bind fun r136 =>
  (coal_Order (CoalBook.mk r33.Heap r33.Eats r33.Extra a0.Days r33.Collier r33.Brings r33.Dips)).bind fun r140 =>
  bif (r110.2 == 0) then (bif (r119.2 == r110.2) then (bif (r128.2 == r110.2) then (bif (r132.2 == r110.2) then (bif (r136.2 == r110.2) then (bif (r140.2 == r110.2) then ((B_Range (wr (r77.1.Low + r24)) (wr (r77.1.High + r24))).bind fun r150 =>
  bif ((r86.1.Low == r150.Low) && (r86.1.High == r150.High)) then (bif ((r110.1.Low == r119.1.Low) && (r110.1.High == r119.1.High)) then (bif (r128.1 == r132.1) then (bif (r140.1 == (if (wr (r136.1 - r24)) > 0 then (wr (r136.1 - r24)) else 0)) then ((law_stoked).bind fun r156 =>
  some r156)
  else (some false))
  else (some false))
  else (some false))
  else (some false))
  else (some false))
  else (some false))
  else (some false))
  else (some false))
  else (some false))
  else (some false))))))))

set_option maxRecDepth 100000 in
theorem law_CoalHigher_ok {a0 : CoalBook} {a1 : List Int} {A1 : Option Addr} {c2 : Nat} {A4 : Option Addr} {c5 : Nat} {w : World} {r : Bool} (H : law_CoalHigher a0 a1 = some r) (h3 : (rd eCoalDay 3 A1 c2 a0.Days).ok w) (h6 : (rd eCoalDip 3 A4 c5 a0.Dips).ok w) (hg7 : (bl 0 [Value.func (.func 128) #[] #[], Value.func (.func 129) #[] #[]] 110).ok w) (hg8 : (bl 1 [I (-1), I (-1)] 123).ok w) : Calls Tryd.prog 10 #[AG ([I a0.Heap.Low, I a0.Heap.High] ++ (sgE eSpan a0.Eats 2 ++ (sg a0.Extra 3 ++ [SL A1 a0.Days.length c2, I a0.Collier.Low, I a0.Collier.High, I a0.Brings, SL A4 a0.Dips.length c5]))), AG (sg a1 3)] w (RetV w (B r)) := by
  unfold law_CoalHigher at H
  refine fn_of (n := 200) Tryd.func10 rfl rfl (Nat.le_of_ble_eq_true rfl) ?_
  have S : St w (fun _ => False) w [] [rd eCoalDay 3 A1 c2 a0.Days, rd eCoalDip 3 A4 c5 a0.Dips, bl 0 [Value.func (.func 128) #[] #[], Value.func (.func 129) #[] #[]] 110, bl 1 [I (-1), I (-1)] 123] := St.start w _ _ (List.forall_mem_cons.2 ⟨h3, (List.forall_mem_cons.2 ⟨h6, (List.forall_mem_cons.2 ⟨hg7, (List.forall_mem_cons.2 ⟨hg8, (fun _ h_ => (List.not_mem_nil h_).elim)⟩)⟩)⟩)⟩)
  refine c_seq ?_
  refine reg ?_
  refine p_boxA rfl S fun b9 w10 S11 => ?_
  refine p_boxA rfl S11 fun b12 w13 S14 => ?_
  refine p_aB rfl ?_
  refine wp_nil ?_
  refine c_seq ?_
  refine c_seq ?_
  refine reg ?_
  refine p_ldA ty29 sz29 (S14.atX (i := 1) rfl) rfl rfl ?_
  obtain ⟨r15, h16, H⟩ := bindS H
  refine p_cv (law_sound_ok h16 (S14.atP (i := 0) rfl) (S14.atP (i := 1) rfl)) fu22 rfl S14 fun w17 S18 => ?_
  refine p_not rfl ?_
  refine wp_nil ?_
  refine c_cond rfl (fun c19 => ?_) (fun c19 => ?_)
  · replace H := condT c19 H
    refine c_seq ?_
    refine reg ?_
    obtain ⟨r20, h21, H⟩ := bindS H
    refine p_cv (law_stoked_ok h21 (S18.atP (i := 2) rfl) (S18.atP (i := 3) rfl)) fu19 rfl S18 fun w22 S23 => ?_
    refine p_aB rfl ?_
    refine wp_nil ?_
    obtain rfl := Option.some.inj H
    refine c_ret ?_; show bodyPostM (Fr none) 0 Tryd.prog Tryd.f10 _ .ret _ _
    refine ret_of (res1 rfl (rvT (rfl : _ = B r20))) ?_
    exact ⟨_, rfl, rfl, S23.keep⟩
  · replace H := condF c19 H
    refine c_skip ?_
    refine c_seq ?_
    obtain ⟨r24, h25, H⟩ := bindS H
    obtain ⟨r26, h27, H⟩ := bindS H
    obtain ⟨r28, h29, H⟩ := bindS H
    refine reg_q mixed 15 (by kernel_rfl) ?_
    refine dS (fun _ k_ => p_ixc ar25 rfl rfl (by decide) (by decide) dn) ?_
    refine dS (fun _ k_ => p_ld ty3 (Asr.stays (S18.atX (i := 0) rfl) k_) rfl rfl dn) ?_
    refine dS (fun _ k_ => p_cvD (B_Mod_ok h25) fu25 rfl) ?_
    refine dS (fun _ k_ => p_ixc ar25 rfl rfl (by decide) (by decide) dn) ?_
    refine dS (fun _ k_ => p_ld ty3 (Asr.stays (S18.atX (i := 0) rfl) k_) rfl rfl dn) ?_
    refine dS (fun _ k_ => p_fld fl29_3 rfl dn) ?_
    refine dS (fun _ k_ => p_ld ty26 (Asr.stays (S18.atX (i := 1) rfl) k_) rfl rfl dn) ?_
    refine dS (fun _ k_ => p_len rfl sc26 dn) ?_
    refine dS (fun _ k_ => p_cvD (B_Mod_ok h27) fu25 rfl) ?_
    refine dS (fun _ k_ => p_ixc ar25 rfl rfl (by decide) (by decide) dn) ?_
    refine dS (fun _ k_ => p_ld ty3 (Asr.stays (S18.atX (i := 0) rfl) k_) rfl rfl dn) ?_
    refine dS (fun _ k_ => p_cvD (B_Mod_ok h29) fu25 rfl) ?_
    refine dS (fun _ k_ => p_aI rfl dn) ?_
    refine dS (fun _ k_ => p_aI rfl dn) ?_
    refine dS (fun _ k_ => p_aI rfl dn) ?_
    intro w30 k31; have S32 := S18.call k31
    refine wp_nil ?_
    refine c_seq ?_
    refine reg ?_
    refine p_ldA ty29 sz29 (S32.atX (i := 1) rfl) rfl rfl ?_
    refine p_mI rfl ?_
    obtain ⟨r33, h34, H⟩ := bindS H
    refine p_cal (law_higher_ok h34 (S32.atP (i := 0) rfl) (S32.atP (i := 1) rfl)) fu42 rfl ?_
    rintro _ w35 ⟨A37, c38, rfl, k36, ⟨o39, n40⟩, _⟩
    have S42 := S32.addNew k36 o39 n40
    refine p_allA in29 S42 fun b43 w44 S45 => ?_
    refine p_stP (pre := []) (old := [I 0, I 0, I 0, I 0, I 0, I 0] ++ (sg (List.replicate 3 0) 3 ++ [SL none 0 0, I 0, I 0, I 0, SL none 0 0])) (post := []) (vs := [I r33.Heap.Low, I r33.Heap.High] ++ (sgE eSpan r33.Eats 2 ++ (sg r33.Extra 3 ++ [SL A1 a0.Days.length c2, I r33.Collier.Low, I r33.Collier.High, I r33.Brings, SL A37 r33.Dips.length c38]))) sz29 S45 (i := 0) rfl rfl rfl rfl (rfl : _ = AG ([I r33.Heap.Low, I r33.Heap.High] ++ (sgE eSpan r33.Eats 2 ++ (sg r33.Extra 3 ++ [SL A1 a0.Days.length c2, I r33.Collier.Low, I r33.Collier.High, I r33.Brings, SL A37 r33.Dips.length c38])))) rfl rfl rfl rfl fun w46 S47 => ?_
    refine wp_nil ?_
    refine c_seq ?_
    refine c_seq ?_
    refine reg ?_
    refine p_ldA ty29 sz29 (S47.atX (i := 0) rfl) rfl rfl ?_
    obtain ⟨r48, h49, H⟩ := bindS H
    refine p_cv (coal_Check_ok h49 (S47.atP (i := 0) rfl) (gr_rd eCoalDip_len (S47.atX (i := 1) rfl))) fu41 rfl S47 fun w50 S51 => ?_
    refine p_aI rfl ?_
    refine wp_nil ?_
    refine c_seq ?_
    refine reg ?_
    refine p_mI rfl ?_
    refine p_cmp rfl rfl rfl ?_
    refine wp_nil ?_
    refine c_cond rfl (fun c52 => ?_) (fun c52 => ?_)
    · replace H := condT c52 H
      refine c_seq ?_
      refine reg ?_
      refine p_mI rfl ?_
      refine p_cmp rfl rfl rfl ?_
      refine p_mB rfl ?_
      rcases Bool.eq_false_or_eq_true ((r48 == 60)) with c53 | c53
      · replace H := condT c53 H
        refine eB c53 ?_
        obtain ⟨r54, h55, H⟩ := bindS H
        refine gT rfl rfl (p_cv (law_stoked_ok h55 (S51.atP (i := 2) rfl) (S51.atP (i := 3) rfl)) fu19 rfl S51 fun w56 S57 => ?_)
        refine p_pkT rfl (rfl : _ = B r54) ?_
        refine p_aB rfl ?_
        refine wp_nil ?_
        obtain rfl := Option.some.inj H
        refine c_ret ?_; show bodyPostM (Fr none) 0 Tryd.prog Tryd.f10 _ .ret _ _
        refine ret_of (res1 rfl (rvT (rfl : _ = B r54))) ?_
        exact ⟨_, rfl, rfl, S57.keep⟩
      · replace H := condF c53 H
        refine eB c53 ?_
        refine gF rfl rfl ?_
        refine p_pkF rfl (rfl : _ = B false) ?_
        refine p_aB rfl ?_
        refine wp_nil ?_
        obtain rfl := Option.some.inj H
        refine c_ret ?_; show bodyPostM (Fr none) 0 Tryd.prog Tryd.f10 _ .ret _ _
        refine ret_of (res1 rfl (rvT (rfl : _ = B false))) ?_
        exact ⟨_, rfl, rfl, S51.keep⟩
    · replace H := condF c52 H
      refine c_skip ?_
      refine c_seq ?_
      refine reg ?_
      refine p_ldA ty29 sz29 (S51.atX (i := 3) rfl) rfl rfl ?_
      obtain ⟨r58, h59, H⟩ := bindS H
      refine p_cal (coal_Wrong_ok h59 (S51.atP (i := 0) rfl) (S51.atP (i := 1) rfl) (S51.atP (i := 3) rfl)) fu27 rfl ?_
      rintro _ w60 ⟨A62, c63, rfl, k61, ⟨o64, n65⟩, _⟩
      have S66 := S51.callN k61 [rd intE 1 A62 c63 r58.1] (List.forall_mem_cons.2 ⟨⟨o64, Al.inL n65 ((List.forall_mem_cons.2 ⟨(fp_mem (i := 0) rfl), (List.forall_mem_cons.2 ⟨(fp_mem (i := 1) rfl), (fun _ h_ => (List.not_mem_nil h_).elim)⟩)⟩))⟩, (fun _ h_ => (List.not_mem_nil h_).elim)⟩)
      refine p_mT rfl ?_
      refine p_ext rfl rfl ?_
      refine p_ext rfl rfl ?_
      refine p_aS rfl ?_
      refine p_aI rfl ?_
      refine wp_nil ?_
      refine c_seq ?_
      refine reg ?_
      refine p_ldA ty29 sz29 (S66.atX (i := 0) rfl) rfl rfl ?_
      have S67 := S66.fixRd eCoalDip_len (i := 1) rfl
      obtain ⟨r68, h69, H⟩ := bindS H
      refine p_cal (coal_Wrong_ok h69 (S67.atP (i := 2) rfl) (S67.atP (i := 0) rfl) (S67.atP (i := 5) rfl)) fu27 rfl ?_
      rintro _ w70 ⟨A72, c73, rfl, k71, ⟨o74, n75⟩, _⟩
      have S76 := S67.callN k71 [rd intE 1 A72 c73 r68.1] (List.forall_mem_cons.2 ⟨⟨o74, Al.inL n75 ((List.forall_mem_cons.2 ⟨(fp_mem (i := 2) rfl), (List.forall_mem_cons.2 ⟨(fp_mem (i := 0) rfl), (fun _ h_ => (List.not_mem_nil h_).elim)⟩)⟩))⟩, (fun _ h_ => (List.not_mem_nil h_).elim)⟩)
      refine p_mT rfl ?_
      refine p_ext rfl rfl ?_
      refine p_ext rfl rfl ?_
      refine p_aS rfl ?_
      refine p_aI rfl ?_
      refine wp_nil ?_
      refine c_seq ?_
      refine reg ?_
      refine p_ldA ty29 sz29 (S76.atX (i := 2) rfl) rfl rfl ?_
      refine p_mI rfl ?_
      obtain ⟨r77, h78, H⟩ := bindS H
      refine p_cv (coal_Heap_ok h78 (S76.atP (i := 3) rfl) (S76.atP (i := 4) rfl) (S76.atP (i := 6) rfl)) fu28 rfl S76 fun w79 S80 => ?_
      refine p_mT rfl ?_
      refine p_ext rfl rfl ?_
      refine p_ext rfl rfl ?_
      refine p_allA in23 S80 fun b81 w82 S83 => ?_
      refine p_stP (pre := []) (old := [I 0, I 0]) (post := []) (vs := [I r77.1.Low, I r77.1.High]) sz23 S83 (i := 0) rfl rfl rfl rfl (rfl : _ = AG [I r77.1.Low, I r77.1.High]) rfl rfl rfl rfl fun w84 S85 => ?_
      refine p_aI rfl ?_
      refine wp_nil ?_
      refine c_seq ?_
      refine reg ?_
      refine p_ldA ty29 sz29 (S85.atX (i := 1) rfl) rfl rfl ?_
      refine p_mI rfl ?_
      obtain ⟨r86, h87, H⟩ := bindS H
      refine p_cv (coal_Heap_ok h87 (S85.atP (i := 3) rfl) (S85.atP (i := 1) rfl) (S85.atP (i := 6) rfl)) fu28 rfl S85 fun w88 S89 => ?_
      refine p_mT rfl ?_
      refine p_ext rfl rfl ?_
      refine p_ext rfl rfl ?_
      refine p_allA in23 S89 fun b90 w91 S92 => ?_
      refine p_stP (pre := []) (old := [I 0, I 0]) (post := []) (vs := [I r86.1.Low, I r86.1.High]) sz23 S92 (i := 0) rfl rfl rfl rfl (rfl : _ = AG [I r86.1.Low, I r86.1.High]) rfl rfl rfl rfl fun w93 S94 => ?_
      refine p_aI rfl ?_
      refine wp_nil ?_
      refine c_seq ?_
      refine c_seq ?_
      refine reg ?_
      refine p_mI rfl ?_
      refine p_cmp rfl rfl rfl ?_
      refine p_mB rfl ?_
      rcases Bool.eq_false_or_eq_true ((r58.2 != 0)) with c95 | c95
      · replace H := condT c95 H
        refine eB c95 ?_
        refine gF rfl rfl ?_
        refine gF rfl rfl ?_
        refine p_pkT rfl (rfl : _ = B true) ?_
        refine p_mB rfl ?_
        refine gF rfl rfl ?_
        refine gF rfl rfl ?_
        refine gF rfl rfl ?_
        refine gF rfl rfl ?_
        refine p_pkT rfl (rfl : _ = B true) ?_
        refine p_mB rfl ?_
        refine gF rfl rfl ?_
        refine gF rfl rfl ?_
        refine gF rfl rfl ?_
        refine p_pkT rfl (rfl : _ = B true) ?_
        refine wp_nil ?_
        refine c_true rfl ?_
        refine c_seq ?_
        refine reg ?_
        refine p_aB rfl ?_
        refine wp_nil ?_
        obtain rfl := Option.some.inj H
        refine c_ret ?_; show bodyPostM (Fr none) 0 Tryd.prog Tryd.f10 _ .ret _ _
        refine ret_of (res1 rfl (rvT (rfl : _ = B false))) ?_
        exact ⟨_, rfl, rfl, S94.keep⟩
      · replace H := condF c95 H
        refine eB c95 ?_
        refine gT rfl rfl (p_mI rfl ?_)
        refine gT rfl rfl (p_cmp rfl rfl rfl ?_)
        refine p_pkF rfl (rfl : _ = B (r68.2 != 0)) ?_
        refine p_mB rfl ?_
        rcases Bool.eq_false_or_eq_true ((r68.2 != 0)) with c96 | c96
        · replace H := condT c96 H
          refine eB c96 ?_
          refine gF rfl rfl ?_
          refine gF rfl rfl ?_
          refine gF rfl rfl ?_
          refine gF rfl rfl ?_
          refine p_pkT rfl (rfl : _ = B true) ?_
          refine p_mB rfl ?_
          refine gF rfl rfl ?_
          refine gF rfl rfl ?_
          refine gF rfl rfl ?_
          refine p_pkT rfl (rfl : _ = B true) ?_
          refine wp_nil ?_
          refine c_true rfl ?_
          refine c_seq ?_
          refine reg ?_
          refine p_aB rfl ?_
          refine wp_nil ?_
          obtain rfl := Option.some.inj H
          refine c_ret ?_; show bodyPostM (Fr none) 0 Tryd.prog Tryd.f10 _ .ret _ _
          refine ret_of (res1 rfl (rvT (rfl : _ = B false))) ?_
          exact ⟨_, rfl, rfl, S94.keep⟩
        · replace H := condF c96 H
          refine eB c96 ?_
          refine gT rfl rfl (p_mS rfl ?_)
          refine gT rfl rfl (p_mS rfl ?_)
          obtain ⟨r97, h98, H⟩ := bindS H
          refine gT rfl rfl (p_cv (B_Alike_ok h98 (S94.atP (i := 2) rfl) (S94.atP (i := 0) rfl)) fu43 rfl S94 fun w99 S100 => ?_)
          refine gT rfl rfl (p_not rfl ?_)
          refine p_pkF rfl (rfl : _ = B (!r97)) ?_
          refine p_mB rfl ?_
          rcases Bool.eq_false_or_eq_true (!r97) with c101 | c101
          · replace H := condT c101 H
            refine eB c101 ?_
            refine gF rfl rfl ?_
            refine gF rfl rfl ?_
            refine gF rfl rfl ?_
            refine p_pkT rfl (rfl : _ = B true) ?_
            refine wp_nil ?_
            refine c_true rfl ?_
            refine c_seq ?_
            refine reg ?_
            refine p_aB rfl ?_
            refine wp_nil ?_
            obtain rfl := Option.some.inj H
            refine c_ret ?_; show bodyPostM (Fr none) 0 Tryd.prog Tryd.f10 _ .ret _ _
            refine ret_of (res1 rfl (rvT (rfl : _ = B false))) ?_
            exact ⟨_, rfl, rfl, S100.keep⟩
          · replace H := condF c101 H
            refine eB c101 ?_
            refine gT rfl rfl (p_mI rfl ?_)
            refine gT rfl rfl (p_mI rfl ?_)
            refine gT rfl rfl (p_cmp rfl rfl rfl ?_)
            refine p_pkF rfl (rfl : _ = B (r77.2 != r86.2)) ?_
            refine wp_nil ?_
            refine c_cond rfl (fun c102 => ?_) (fun c102 => ?_)
            · replace H := condT c102 H
              refine c_seq ?_
              refine reg ?_
              refine p_aB rfl ?_
              refine wp_nil ?_
              obtain rfl := Option.some.inj H
              refine c_ret ?_; show bodyPostM (Fr none) 0 Tryd.prog Tryd.f10 _ .ret _ _
              refine ret_of (res1 rfl (rvT (rfl : _ = B false))) ?_
              exact ⟨_, rfl, rfl, S100.keep⟩
            · replace H := condF c102 H
              refine c_skip ?_
              refine c_seq ?_
              refine c_seq ?_
              refine reg ?_
              refine p_mI rfl ?_
              refine p_cmp rfl rfl rfl ?_
              refine wp_nil ?_
              refine c_cond rfl (fun c103 => ?_) (fun c103 => ?_)
              · replace H := condT c103 H
                refine c_seq ?_
                refine reg ?_
                refine p_mI rfl ?_
                refine p_cmp rfl rfl rfl ?_
                refine p_mB rfl ?_
                rcases Bool.eq_false_or_eq_true ((r77.2 == 62)) with c104 | c104
                · replace H := condT c104 H
                  refine eB c104 ?_
                  refine gT rfl rfl (p_ldA ty23 sz23 (S100.atX (i := 1) rfl) rfl rfl ?_)
                  refine gT rfl rfl (p_ldA ty23 sz23 (S100.atX (i := 0) rfl) rfl rfl ?_)
                  refine gT rfl rfl (o_eqA (xs := [I r77.1.Low, I r77.1.High]) (ys := [I r86.1.Low, I r86.1.High]) (T := ((r77.1.Low == r86.1.Low) && (r77.1.High == r86.1.High))) rfl rfl eq23 ⟨⟨_, rfl⟩, ⟨⟨_, rfl⟩, trivial⟩⟩ ⟨⟨_, rfl⟩, ⟨⟨_, rfl⟩, trivial⟩⟩ (by simp [Bool.and_eq_true, and_assoc]) ?_)
                  refine p_pkT rfl (rfl : _ = B ((r77.1.Low == r86.1.Low) && (r77.1.High == r86.1.High))) ?_
                  refine p_mB rfl ?_
                  rcases Bool.eq_false_or_eq_true (((r77.1.Low == r86.1.Low) && (r77.1.High == r86.1.High))) with c105 | c105
                  · replace H := condT c105 H
                    refine eB c105 ?_
                    obtain ⟨r106, h107, H⟩ := bindS H
                    refine gT rfl rfl (p_cv (law_stoked_ok h107 (S100.atP (i := 5) rfl) (S100.atP (i := 6) rfl)) fu19 rfl S100 fun w108 S109 => ?_)
                    refine p_pkT rfl (rfl : _ = B r106) ?_
                    refine p_aB rfl ?_
                    refine wp_nil ?_
                    obtain rfl := Option.some.inj H
                    refine c_ret ?_; show bodyPostM (Fr none) 0 Tryd.prog Tryd.f10 _ .ret _ _
                    refine ret_of (res1 rfl (rvT (rfl : _ = B r106))) ?_
                    exact ⟨_, rfl, rfl, S109.keep⟩
                  · replace H := condF c105 H
                    refine eB c105 ?_
                    refine gF rfl rfl ?_
                    refine p_pkF rfl (rfl : _ = B false) ?_
                    refine p_aB rfl ?_
                    refine wp_nil ?_
                    obtain rfl := Option.some.inj H
                    refine c_ret ?_; show bodyPostM (Fr none) 0 Tryd.prog Tryd.f10 _ .ret _ _
                    refine ret_of (res1 rfl (rvT (rfl : _ = B false))) ?_
                    exact ⟨_, rfl, rfl, S100.keep⟩
                · replace H := condF c104 H
                  refine eB c104 ?_
                  refine gF rfl rfl ?_
                  refine gF rfl rfl ?_
                  refine gF rfl rfl ?_
                  refine p_pkF rfl (rfl : _ = B false) ?_
                  refine p_mB rfl ?_
                  refine gF rfl rfl ?_
                  refine p_pkF rfl (rfl : _ = B false) ?_
                  refine p_aB rfl ?_
                  refine wp_nil ?_
                  obtain rfl := Option.some.inj H
                  refine c_ret ?_; show bodyPostM (Fr none) 0 Tryd.prog Tryd.f10 _ .ret _ _
                  refine ret_of (res1 rfl (rvT (rfl : _ = B false))) ?_
                  exact ⟨_, rfl, rfl, S100.keep⟩
              · replace H := condF c103 H
                refine c_skip ?_
                refine c_seq ?_
                refine reg ?_
                refine p_ldA ty29 sz29 (S100.atX (i := 4) rfl) rfl rfl ?_
                refine p_mI rfl ?_
                obtain ⟨r110, h111, H⟩ := bindS H
                refine p_cv (coal_Eats_ok h111 (S100.atP (i := 3) rfl) (S100.atP (i := 4) rfl) (S100.atP (i := 6) rfl)) fu35 rfl S100 fun w112 S113 => ?_
                refine p_mT rfl ?_
                refine p_ext rfl rfl ?_
                refine p_ext rfl rfl ?_
                refine p_allA in23 S113 fun b114 w115 S116 => ?_
                refine p_stP (pre := []) (old := [I 0, I 0]) (post := []) (vs := [I r110.1.Low, I r110.1.High]) sz23 S116 (i := 0) rfl rfl rfl rfl (rfl : _ = AG [I r110.1.Low, I r110.1.High]) rfl rfl rfl rfl fun w117 S118 => ?_
                refine p_aI rfl ?_
                refine wp_nil ?_
                refine c_seq ?_
                refine reg ?_
                refine p_ldA ty29 sz29 (S118.atX (i := 3) rfl) rfl rfl ?_
                refine p_mI rfl ?_
                obtain ⟨r119, h120, H⟩ := bindS H
                refine p_cv (coal_Eats_ok h120 (S118.atP (i := 3) rfl) (S118.atP (i := 1) rfl) (S118.atP (i := 6) rfl)) fu35 rfl S118 fun w121 S122 => ?_
                refine p_mT rfl ?_
                refine p_ext rfl rfl ?_
                refine p_ext rfl rfl ?_
                refine p_allA in23 S122 fun b123 w124 S125 => ?_
                refine p_stP (pre := []) (old := [I 0, I 0]) (post := []) (vs := [I r119.1.Low, I r119.1.High]) sz23 S125 (i := 0) rfl rfl rfl rfl (rfl : _ = AG [I r119.1.Low, I r119.1.High]) rfl rfl rfl rfl fun w126 S127 => ?_
                refine p_aI rfl ?_
                refine wp_nil ?_
                refine c_seq ?_
                refine reg ?_
                refine p_ldA ty29 sz29 (S127.atX (i := 6) rfl) rfl rfl ?_
                refine p_mI rfl ?_
                obtain ⟨r128, h129, H⟩ := bindS H
                refine p_cv (coal_Wind_ok h129 (S127.atP (i := 3) rfl) (S127.atP (i := 4) rfl) (S127.atP (i := 6) rfl)) fu29 rfl S127 fun w130 S131 => ?_
                refine p_mT rfl ?_
                refine p_ext rfl rfl ?_
                refine p_ext rfl rfl ?_
                refine p_aI rfl ?_
                refine p_aI rfl ?_
                refine wp_nil ?_
                refine c_seq ?_
                refine reg ?_
                refine p_ldA ty29 sz29 (S131.atX (i := 4) rfl) rfl rfl ?_
                refine p_mI rfl ?_
                obtain ⟨r132, h133, H⟩ := bindS H
                refine p_cv (coal_Wind_ok h133 (S131.atP (i := 3) rfl) (S131.atP (i := 1) rfl) (S131.atP (i := 6) rfl)) fu29 rfl S131 fun w134 S135 => ?_
                refine p_mT rfl ?_
                refine p_ext rfl rfl ?_
                refine p_ext rfl rfl ?_
                refine p_aI rfl ?_
                refine p_aI rfl ?_
                refine wp_nil ?_
                refine c_seq ?_
                refine reg ?_
                refine p_ldA ty29 sz29 (S135.atX (i := 6) rfl) rfl rfl ?_
                obtain ⟨r136, h137, H⟩ := bindS H
                refine p_cv (coal_Order_ok h137 (S135.atP (i := 3) rfl) (S135.atP (i := 4) rfl) (S135.atP (i := 6) rfl)) fu31 rfl S135 fun w138 S139 => ?_
                refine p_mT rfl ?_
                refine p_ext rfl rfl ?_
                refine p_ext rfl rfl ?_
                refine p_aI rfl ?_
                refine p_aI rfl ?_
                refine wp_nil ?_
                refine c_seq ?_
                refine reg ?_
                refine p_ldA ty29 sz29 (S139.atX (i := 4) rfl) rfl rfl ?_
                obtain ⟨r140, h141, H⟩ := bindS H
                refine p_cv (coal_Order_ok h141 (S139.atP (i := 3) rfl) (S139.atP (i := 1) rfl) (S139.atP (i := 6) rfl)) fu31 rfl S139 fun w142 S143 => ?_
                refine p_mT rfl ?_
                refine p_ext rfl rfl ?_
                refine p_ext rfl rfl ?_
                refine p_aI rfl ?_
                refine p_aI rfl ?_
                refine wp_nil ?_
                refine c_seq ?_
                rcases Bool.eq_false_or_eq_true ((r110.2 == 0)) with c144 | c144
                · replace H := condT c144 H
                  rcases Bool.eq_false_or_eq_true ((r119.2 == r110.2)) with c145 | c145
                  · replace H := condT c145 H
                    rcases Bool.eq_false_or_eq_true ((r128.2 == r110.2)) with c146 | c146
                    · replace H := condT c146 H
                      rcases Bool.eq_false_or_eq_true ((r132.2 == r110.2)) with c147 | c147
                      · replace H := condT c147 H
                        rcases Bool.eq_false_or_eq_true ((r136.2 == r110.2)) with c148 | c148
                        · replace H := condT c148 H
                          rcases Bool.eq_false_or_eq_true ((r140.2 == r110.2)) with c149 | c149
                          · replace H := condT c149 H
                            obtain ⟨r150, h151, H⟩ := bindS H
                            rcases Bool.eq_false_or_eq_true (((r86.1.Low == r150.Low) && (r86.1.High == r150.High))) with c152 | c152
                            · replace H := condT c152 H
                              rcases Bool.eq_false_or_eq_true (((r110.1.Low == r119.1.Low) && (r110.1.High == r119.1.High))) with c153 | c153
                              · replace H := condT c153 H
                                rcases Bool.eq_false_or_eq_true ((r128.1 == r132.1)) with c154 | c154
                                · replace H := condT c154 H
                                  rcases Bool.eq_false_or_eq_true ((r140.1 == (if (wr (r136.1 - r24)) > 0 then (wr (r136.1 - r24)) else 0))) with c155 | c155
                                  · replace H := condT c155 H
                                    obtain ⟨r156, h157, H⟩ := bindS H
                                    refine reg_q mixed 62 (by kernel_rfl) ?_
                                    refine dS (fun _ k_ => p_mI rfl dn) ?_
                                    refine dS (fun _ k_ => p_cmp rfl rfl rfl dn) ?_
                                    refine dS (fun _ k_ => p_mB rfl dn) ?_
                                    refine dB c144 ?_
                                    refine dS (fun _ k_ => gT rfl rfl (p_mI rfl dn)) ?_
                                    refine dS (fun _ k_ => gT rfl rfl (p_mI rfl dn)) ?_
                                    refine dS (fun _ k_ => gT rfl rfl (p_cmp rfl rfl rfl dn)) ?_
                                    refine dS (fun _ k_ => p_pkT rfl (rfl : _ = B (r119.2 == r110.2)) dn) ?_
                                    refine dS (fun _ k_ => p_mB rfl dn) ?_
                                    refine dB c145 ?_
                                    refine dS (fun _ k_ => gT rfl rfl (p_mI rfl dn)) ?_
                                    refine dS (fun _ k_ => gT rfl rfl (p_mI rfl dn)) ?_
                                    refine dS (fun _ k_ => gT rfl rfl (p_cmp rfl rfl rfl dn)) ?_
                                    refine dS (fun _ k_ => p_pkT rfl (rfl : _ = B (r128.2 == r110.2)) dn) ?_
                                    refine dS (fun _ k_ => p_mB rfl dn) ?_
                                    refine dB c146 ?_
                                    refine dS (fun _ k_ => gT rfl rfl (p_mI rfl dn)) ?_
                                    refine dS (fun _ k_ => gT rfl rfl (p_mI rfl dn)) ?_
                                    refine dS (fun _ k_ => gT rfl rfl (p_cmp rfl rfl rfl dn)) ?_
                                    refine dS (fun _ k_ => p_pkT rfl (rfl : _ = B (r132.2 == r110.2)) dn) ?_
                                    refine dS (fun _ k_ => p_mB rfl dn) ?_
                                    refine dB c147 ?_
                                    refine dS (fun _ k_ => gT rfl rfl (p_mI rfl dn)) ?_
                                    refine dS (fun _ k_ => gT rfl rfl (p_mI rfl dn)) ?_
                                    refine dS (fun _ k_ => gT rfl rfl (p_cmp rfl rfl rfl dn)) ?_
                                    refine dS (fun _ k_ => p_pkT rfl (rfl : _ = B (r136.2 == r110.2)) dn) ?_
                                    refine dS (fun _ k_ => p_mB rfl dn) ?_
                                    refine dB c148 ?_
                                    refine dS (fun _ k_ => gT rfl rfl (p_mI rfl dn)) ?_
                                    refine dS (fun _ k_ => gT rfl rfl (p_mI rfl dn)) ?_
                                    refine dS (fun _ k_ => gT rfl rfl (p_cmp rfl rfl rfl dn)) ?_
                                    refine dS (fun _ k_ => p_pkT rfl (rfl : _ = B (r140.2 == r110.2)) dn) ?_
                                    refine dS (fun _ k_ => p_mB rfl dn) ?_
                                    refine dB c149 ?_
                                    refine dS (fun _ k_ => gT rfl rfl (p_ldA ty23 sz23 (Asr.stays (S143.atX (i := 2) rfl) k_) rfl rfl dn)) ?_
                                    refine dS (fun _ k_ => gT rfl rfl (p_fld fl23_0 rfl dn)) ?_
                                    refine dS (fun _ k_ => gT rfl rfl (p_ld ty3 (Asr.stays (S143.atX (i := 3) rfl) k_) rfl rfl dn)) ?_
                                    refine dS (fun _ k_ => gT rfl rfl (p_mI rfl dn)) ?_
                                    refine dS (fun _ k_ => gT rfl rfl (p_add rfl rfl dn)) ?_
                                    refine dS (fun _ k_ => gT rfl rfl (p_fld fl23_1 rfl dn)) ?_
                                    refine dS (fun _ k_ => gT rfl rfl (p_ld ty3 (Asr.stays (S143.atX (i := 3) rfl) k_) rfl rfl dn)) ?_
                                    refine dS (fun _ k_ => gT rfl rfl (p_mI rfl dn)) ?_
                                    refine dS (fun _ k_ => gT rfl rfl (p_add rfl rfl dn)) ?_
                                    refine dS (fun _ k_ => gT rfl rfl (p_cvD (B_Range_ok h151) fu44 rfl)) ?_
                                    refine dS (fun _ k_ => gT rfl rfl (o_eqA (xs := [I r86.1.Low, I r86.1.High]) (ys := [I r150.Low, I r150.High]) (T := ((r86.1.Low == r150.Low) && (r86.1.High == r150.High))) rfl rfl eq23 ⟨⟨_, rfl⟩, ⟨⟨_, rfl⟩, trivial⟩⟩ ⟨⟨_, rfl⟩, ⟨⟨_, rfl⟩, trivial⟩⟩ (by simp [Bool.and_eq_true, and_assoc]) dn)) ?_
                                    refine dS (fun _ k_ => p_pkT rfl (rfl : _ = B ((r86.1.Low == r150.Low) && (r86.1.High == r150.High))) dn) ?_
                                    refine dS (fun _ k_ => p_mB rfl dn) ?_
                                    refine dB c152 ?_
                                    refine dS (fun _ k_ => gT rfl rfl (p_ldA ty23 sz23 (Asr.stays (S143.atX (i := 1) rfl) k_) rfl rfl dn)) ?_
                                    refine dS (fun _ k_ => gT rfl rfl (p_ldA ty23 sz23 (Asr.stays (S143.atX (i := 0) rfl) k_) rfl rfl dn)) ?_
                                    refine dS (fun _ k_ => gT rfl rfl (o_eqA (xs := [I r110.1.Low, I r110.1.High]) (ys := [I r119.1.Low, I r119.1.High]) (T := ((r110.1.Low == r119.1.Low) && (r110.1.High == r119.1.High))) rfl rfl eq23 ⟨⟨_, rfl⟩, ⟨⟨_, rfl⟩, trivial⟩⟩ ⟨⟨_, rfl⟩, ⟨⟨_, rfl⟩, trivial⟩⟩ (by simp [Bool.and_eq_true, and_assoc]) dn)) ?_
                                    refine dS (fun _ k_ => p_pkT rfl (rfl : _ = B ((r110.1.Low == r119.1.Low) && (r110.1.High == r119.1.High))) dn) ?_
                                    refine dS (fun _ k_ => p_mB rfl dn) ?_
                                    refine dB c153 ?_
                                    refine dS (fun _ k_ => gT rfl rfl (p_mI rfl dn)) ?_
                                    refine dS (fun _ k_ => gT rfl rfl (p_mI rfl dn)) ?_
                                    refine dS (fun _ k_ => gT rfl rfl (p_cmp rfl rfl rfl dn)) ?_
                                    refine dS (fun _ k_ => p_pkT rfl (rfl : _ = B (r128.1 == r132.1)) dn) ?_
                                    refine dS (fun _ k_ => p_mB rfl dn) ?_
                                    refine dB c154 ?_
                                    refine dS (fun _ k_ => gT rfl rfl (p_mI rfl dn)) ?_
                                    refine dS (fun _ k_ => gT rfl rfl (p_mI rfl dn)) ?_
                                    refine dS (fun _ k_ => gT rfl rfl (p_mI rfl dn)) ?_
                                    refine dS (fun _ k_ => gT rfl rfl (p_sub rfl rfl dn)) ?_
                                    refine dS (fun _ k_ => gT rfl rfl (p_max rfl rfl dn)) ?_
                                    refine dS (fun _ k_ => gT rfl rfl (p_cmp rfl rfl rfl dn)) ?_
                                    refine dS (fun _ k_ => p_pkT rfl (rfl : _ = B (r140.1 == (if (wr (r136.1 - r24)) > 0 then (wr (r136.1 - r24)) else 0))) dn) ?_
                                    refine dS (fun _ k_ => p_mB rfl dn) ?_
                                    refine dB c155 ?_
                                    refine dS (fun _ k_ => gT rfl rfl (p_cvD (law_stoked_ok h157 (Asr.stays (S143.atP (i := 5) rfl) k_) (Asr.stays (S143.atP (i := 6) rfl) k_)) fu19 rfl)) ?_
                                    refine dS (fun _ k_ => p_pkT rfl (rfl : _ = B r156) dn) ?_
                                    refine dS (fun _ k_ => p_aB rfl dn) ?_
                                    intro w158 k159; have S160 := S143.call k159
                                    refine wp_nil ?_
                                    obtain rfl := Option.some.inj H
                                    refine c_ret ?_; show bodyPostM (Fr none) 0 Tryd.prog Tryd.f10 _ .ret _ _
                                    refine ret_of (res1 rfl (rvT (rfl : _ = B r156))) ?_
                                    exact ⟨_, rfl, rfl, S160.keep⟩
                                  · replace H := condF c155 H
                                    refine reg_q mixed 62 (by kernel_rfl) ?_
                                    refine dS (fun _ k_ => p_mI rfl dn) ?_
                                    refine dS (fun _ k_ => p_cmp rfl rfl rfl dn) ?_
                                    refine dS (fun _ k_ => p_mB rfl dn) ?_
                                    refine dB c144 ?_
                                    refine dS (fun _ k_ => gT rfl rfl (p_mI rfl dn)) ?_
                                    refine dS (fun _ k_ => gT rfl rfl (p_mI rfl dn)) ?_
                                    refine dS (fun _ k_ => gT rfl rfl (p_cmp rfl rfl rfl dn)) ?_
                                    refine dS (fun _ k_ => p_pkT rfl (rfl : _ = B (r119.2 == r110.2)) dn) ?_
                                    refine dS (fun _ k_ => p_mB rfl dn) ?_
                                    refine dB c145 ?_
                                    refine dS (fun _ k_ => gT rfl rfl (p_mI rfl dn)) ?_
                                    refine dS (fun _ k_ => gT rfl rfl (p_mI rfl dn)) ?_
                                    refine dS (fun _ k_ => gT rfl rfl (p_cmp rfl rfl rfl dn)) ?_
                                    refine dS (fun _ k_ => p_pkT rfl (rfl : _ = B (r128.2 == r110.2)) dn) ?_
                                    refine dS (fun _ k_ => p_mB rfl dn) ?_
                                    refine dB c146 ?_
                                    refine dS (fun _ k_ => gT rfl rfl (p_mI rfl dn)) ?_
                                    refine dS (fun _ k_ => gT rfl rfl (p_mI rfl dn)) ?_
                                    refine dS (fun _ k_ => gT rfl rfl (p_cmp rfl rfl rfl dn)) ?_
                                    refine dS (fun _ k_ => p_pkT rfl (rfl : _ = B (r132.2 == r110.2)) dn) ?_
                                    refine dS (fun _ k_ => p_mB rfl dn) ?_
                                    refine dB c147 ?_
                                    refine dS (fun _ k_ => gT rfl rfl (p_mI rfl dn)) ?_
                                    refine dS (fun _ k_ => gT rfl rfl (p_mI rfl dn)) ?_
                                    refine dS (fun _ k_ => gT rfl rfl (p_cmp rfl rfl rfl dn)) ?_
                                    refine dS (fun _ k_ => p_pkT rfl (rfl : _ = B (r136.2 == r110.2)) dn) ?_
                                    refine dS (fun _ k_ => p_mB rfl dn) ?_
                                    refine dB c148 ?_
                                    refine dS (fun _ k_ => gT rfl rfl (p_mI rfl dn)) ?_
                                    refine dS (fun _ k_ => gT rfl rfl (p_mI rfl dn)) ?_
                                    refine dS (fun _ k_ => gT rfl rfl (p_cmp rfl rfl rfl dn)) ?_
                                    refine dS (fun _ k_ => p_pkT rfl (rfl : _ = B (r140.2 == r110.2)) dn) ?_
                                    refine dS (fun _ k_ => p_mB rfl dn) ?_
                                    refine dB c149 ?_
                                    refine dS (fun _ k_ => gT rfl rfl (p_ldA ty23 sz23 (Asr.stays (S143.atX (i := 2) rfl) k_) rfl rfl dn)) ?_
                                    refine dS (fun _ k_ => gT rfl rfl (p_fld fl23_0 rfl dn)) ?_
                                    refine dS (fun _ k_ => gT rfl rfl (p_ld ty3 (Asr.stays (S143.atX (i := 3) rfl) k_) rfl rfl dn)) ?_
                                    refine dS (fun _ k_ => gT rfl rfl (p_mI rfl dn)) ?_
                                    refine dS (fun _ k_ => gT rfl rfl (p_add rfl rfl dn)) ?_
                                    refine dS (fun _ k_ => gT rfl rfl (p_fld fl23_1 rfl dn)) ?_
                                    refine dS (fun _ k_ => gT rfl rfl (p_ld ty3 (Asr.stays (S143.atX (i := 3) rfl) k_) rfl rfl dn)) ?_
                                    refine dS (fun _ k_ => gT rfl rfl (p_mI rfl dn)) ?_
                                    refine dS (fun _ k_ => gT rfl rfl (p_add rfl rfl dn)) ?_
                                    refine dS (fun _ k_ => gT rfl rfl (p_cvD (B_Range_ok h151) fu44 rfl)) ?_
                                    refine dS (fun _ k_ => gT rfl rfl (o_eqA (xs := [I r86.1.Low, I r86.1.High]) (ys := [I r150.Low, I r150.High]) (T := ((r86.1.Low == r150.Low) && (r86.1.High == r150.High))) rfl rfl eq23 ⟨⟨_, rfl⟩, ⟨⟨_, rfl⟩, trivial⟩⟩ ⟨⟨_, rfl⟩, ⟨⟨_, rfl⟩, trivial⟩⟩ (by simp [Bool.and_eq_true, and_assoc]) dn)) ?_
                                    refine dS (fun _ k_ => p_pkT rfl (rfl : _ = B ((r86.1.Low == r150.Low) && (r86.1.High == r150.High))) dn) ?_
                                    refine dS (fun _ k_ => p_mB rfl dn) ?_
                                    refine dB c152 ?_
                                    refine dS (fun _ k_ => gT rfl rfl (p_ldA ty23 sz23 (Asr.stays (S143.atX (i := 1) rfl) k_) rfl rfl dn)) ?_
                                    refine dS (fun _ k_ => gT rfl rfl (p_ldA ty23 sz23 (Asr.stays (S143.atX (i := 0) rfl) k_) rfl rfl dn)) ?_
                                    refine dS (fun _ k_ => gT rfl rfl (o_eqA (xs := [I r110.1.Low, I r110.1.High]) (ys := [I r119.1.Low, I r119.1.High]) (T := ((r110.1.Low == r119.1.Low) && (r110.1.High == r119.1.High))) rfl rfl eq23 ⟨⟨_, rfl⟩, ⟨⟨_, rfl⟩, trivial⟩⟩ ⟨⟨_, rfl⟩, ⟨⟨_, rfl⟩, trivial⟩⟩ (by simp [Bool.and_eq_true, and_assoc]) dn)) ?_
                                    refine dS (fun _ k_ => p_pkT rfl (rfl : _ = B ((r110.1.Low == r119.1.Low) && (r110.1.High == r119.1.High))) dn) ?_
                                    refine dS (fun _ k_ => p_mB rfl dn) ?_
                                    refine dB c153 ?_
                                    refine dS (fun _ k_ => gT rfl rfl (p_mI rfl dn)) ?_
                                    refine dS (fun _ k_ => gT rfl rfl (p_mI rfl dn)) ?_
                                    refine dS (fun _ k_ => gT rfl rfl (p_cmp rfl rfl rfl dn)) ?_
                                    refine dS (fun _ k_ => p_pkT rfl (rfl : _ = B (r128.1 == r132.1)) dn) ?_
                                    refine dS (fun _ k_ => p_mB rfl dn) ?_
                                    refine dB c154 ?_
                                    refine dS (fun _ k_ => gT rfl rfl (p_mI rfl dn)) ?_
                                    refine dS (fun _ k_ => gT rfl rfl (p_mI rfl dn)) ?_
                                    refine dS (fun _ k_ => gT rfl rfl (p_mI rfl dn)) ?_
                                    refine dS (fun _ k_ => gT rfl rfl (p_sub rfl rfl dn)) ?_
                                    refine dS (fun _ k_ => gT rfl rfl (p_max rfl rfl dn)) ?_
                                    refine dS (fun _ k_ => gT rfl rfl (p_cmp rfl rfl rfl dn)) ?_
                                    refine dS (fun _ k_ => p_pkT rfl (rfl : _ = B (r140.1 == (if (wr (r136.1 - r24)) > 0 then (wr (r136.1 - r24)) else 0))) dn) ?_
                                    refine dS (fun _ k_ => p_mB rfl dn) ?_
                                    refine dB c155 ?_
                                    refine dS (fun _ k_ => gF rfl rfl dnU) ?_
                                    refine dS (fun _ k_ => p_pkF rfl (rfl : _ = B false) dn) ?_
                                    refine dS (fun _ k_ => p_aB rfl dn) ?_
                                    intro w161 k162; have S163 := S143.call k162
                                    refine wp_nil ?_
                                    obtain rfl := Option.some.inj H
                                    refine c_ret ?_; show bodyPostM (Fr none) 0 Tryd.prog Tryd.f10 _ .ret _ _
                                    refine ret_of (res1 rfl (rvT (rfl : _ = B false))) ?_
                                    exact ⟨_, rfl, rfl, S163.keep⟩
                                · replace H := condF c154 H
                                  refine reg_q mixed 62 (by kernel_rfl) ?_
                                  refine dS (fun _ k_ => p_mI rfl dn) ?_
                                  refine dS (fun _ k_ => p_cmp rfl rfl rfl dn) ?_
                                  refine dS (fun _ k_ => p_mB rfl dn) ?_
                                  refine dB c144 ?_
                                  refine dS (fun _ k_ => gT rfl rfl (p_mI rfl dn)) ?_
                                  refine dS (fun _ k_ => gT rfl rfl (p_mI rfl dn)) ?_
                                  refine dS (fun _ k_ => gT rfl rfl (p_cmp rfl rfl rfl dn)) ?_
                                  refine dS (fun _ k_ => p_pkT rfl (rfl : _ = B (r119.2 == r110.2)) dn) ?_
                                  refine dS (fun _ k_ => p_mB rfl dn) ?_
                                  refine dB c145 ?_
                                  refine dS (fun _ k_ => gT rfl rfl (p_mI rfl dn)) ?_
                                  refine dS (fun _ k_ => gT rfl rfl (p_mI rfl dn)) ?_
                                  refine dS (fun _ k_ => gT rfl rfl (p_cmp rfl rfl rfl dn)) ?_
                                  refine dS (fun _ k_ => p_pkT rfl (rfl : _ = B (r128.2 == r110.2)) dn) ?_
                                  refine dS (fun _ k_ => p_mB rfl dn) ?_
                                  refine dB c146 ?_
                                  refine dS (fun _ k_ => gT rfl rfl (p_mI rfl dn)) ?_
                                  refine dS (fun _ k_ => gT rfl rfl (p_mI rfl dn)) ?_
                                  refine dS (fun _ k_ => gT rfl rfl (p_cmp rfl rfl rfl dn)) ?_
                                  refine dS (fun _ k_ => p_pkT rfl (rfl : _ = B (r132.2 == r110.2)) dn) ?_
                                  refine dS (fun _ k_ => p_mB rfl dn) ?_
                                  refine dB c147 ?_
                                  refine dS (fun _ k_ => gT rfl rfl (p_mI rfl dn)) ?_
                                  refine dS (fun _ k_ => gT rfl rfl (p_mI rfl dn)) ?_
                                  refine dS (fun _ k_ => gT rfl rfl (p_cmp rfl rfl rfl dn)) ?_
                                  refine dS (fun _ k_ => p_pkT rfl (rfl : _ = B (r136.2 == r110.2)) dn) ?_
                                  refine dS (fun _ k_ => p_mB rfl dn) ?_
                                  refine dB c148 ?_
                                  refine dS (fun _ k_ => gT rfl rfl (p_mI rfl dn)) ?_
                                  refine dS (fun _ k_ => gT rfl rfl (p_mI rfl dn)) ?_
                                  refine dS (fun _ k_ => gT rfl rfl (p_cmp rfl rfl rfl dn)) ?_
                                  refine dS (fun _ k_ => p_pkT rfl (rfl : _ = B (r140.2 == r110.2)) dn) ?_
                                  refine dS (fun _ k_ => p_mB rfl dn) ?_
                                  refine dB c149 ?_
                                  refine dS (fun _ k_ => gT rfl rfl (p_ldA ty23 sz23 (Asr.stays (S143.atX (i := 2) rfl) k_) rfl rfl dn)) ?_
                                  refine dS (fun _ k_ => gT rfl rfl (p_fld fl23_0 rfl dn)) ?_
                                  refine dS (fun _ k_ => gT rfl rfl (p_ld ty3 (Asr.stays (S143.atX (i := 3) rfl) k_) rfl rfl dn)) ?_
                                  refine dS (fun _ k_ => gT rfl rfl (p_mI rfl dn)) ?_
                                  refine dS (fun _ k_ => gT rfl rfl (p_add rfl rfl dn)) ?_
                                  refine dS (fun _ k_ => gT rfl rfl (p_fld fl23_1 rfl dn)) ?_
                                  refine dS (fun _ k_ => gT rfl rfl (p_ld ty3 (Asr.stays (S143.atX (i := 3) rfl) k_) rfl rfl dn)) ?_
                                  refine dS (fun _ k_ => gT rfl rfl (p_mI rfl dn)) ?_
                                  refine dS (fun _ k_ => gT rfl rfl (p_add rfl rfl dn)) ?_
                                  refine dS (fun _ k_ => gT rfl rfl (p_cvD (B_Range_ok h151) fu44 rfl)) ?_
                                  refine dS (fun _ k_ => gT rfl rfl (o_eqA (xs := [I r86.1.Low, I r86.1.High]) (ys := [I r150.Low, I r150.High]) (T := ((r86.1.Low == r150.Low) && (r86.1.High == r150.High))) rfl rfl eq23 ⟨⟨_, rfl⟩, ⟨⟨_, rfl⟩, trivial⟩⟩ ⟨⟨_, rfl⟩, ⟨⟨_, rfl⟩, trivial⟩⟩ (by simp [Bool.and_eq_true, and_assoc]) dn)) ?_
                                  refine dS (fun _ k_ => p_pkT rfl (rfl : _ = B ((r86.1.Low == r150.Low) && (r86.1.High == r150.High))) dn) ?_
                                  refine dS (fun _ k_ => p_mB rfl dn) ?_
                                  refine dB c152 ?_
                                  refine dS (fun _ k_ => gT rfl rfl (p_ldA ty23 sz23 (Asr.stays (S143.atX (i := 1) rfl) k_) rfl rfl dn)) ?_
                                  refine dS (fun _ k_ => gT rfl rfl (p_ldA ty23 sz23 (Asr.stays (S143.atX (i := 0) rfl) k_) rfl rfl dn)) ?_
                                  refine dS (fun _ k_ => gT rfl rfl (o_eqA (xs := [I r110.1.Low, I r110.1.High]) (ys := [I r119.1.Low, I r119.1.High]) (T := ((r110.1.Low == r119.1.Low) && (r110.1.High == r119.1.High))) rfl rfl eq23 ⟨⟨_, rfl⟩, ⟨⟨_, rfl⟩, trivial⟩⟩ ⟨⟨_, rfl⟩, ⟨⟨_, rfl⟩, trivial⟩⟩ (by simp [Bool.and_eq_true, and_assoc]) dn)) ?_
                                  refine dS (fun _ k_ => p_pkT rfl (rfl : _ = B ((r110.1.Low == r119.1.Low) && (r110.1.High == r119.1.High))) dn) ?_
                                  refine dS (fun _ k_ => p_mB rfl dn) ?_
                                  refine dB c153 ?_
                                  refine dS (fun _ k_ => gT rfl rfl (p_mI rfl dn)) ?_
                                  refine dS (fun _ k_ => gT rfl rfl (p_mI rfl dn)) ?_
                                  refine dS (fun _ k_ => gT rfl rfl (p_cmp rfl rfl rfl dn)) ?_
                                  refine dS (fun _ k_ => p_pkT rfl (rfl : _ = B (r128.1 == r132.1)) dn) ?_
                                  refine dS (fun _ k_ => p_mB rfl dn) ?_
                                  refine dB c154 ?_
                                  refine dS (fun _ k_ => gF rfl rfl dnU) ?_
                                  refine dS (fun _ k_ => gF rfl rfl dnU) ?_
                                  refine dS (fun _ k_ => gF rfl rfl dnU) ?_
                                  refine dS (fun _ k_ => gF rfl rfl dnU) ?_
                                  refine dS (fun _ k_ => gF rfl rfl dnU) ?_
                                  refine dS (fun _ k_ => gF rfl rfl dnU) ?_
                                  refine dS (fun _ k_ => p_pkF rfl (rfl : _ = B false) dn) ?_
                                  refine dS (fun _ k_ => p_mB rfl dn) ?_
                                  refine dS (fun _ k_ => gF rfl rfl dnU) ?_
                                  refine dS (fun _ k_ => p_pkF rfl (rfl : _ = B false) dn) ?_
                                  refine dS (fun _ k_ => p_aB rfl dn) ?_
                                  intro w164 k165; have S166 := S143.call k165
                                  refine wp_nil ?_
                                  obtain rfl := Option.some.inj H
                                  refine c_ret ?_; show bodyPostM (Fr none) 0 Tryd.prog Tryd.f10 _ .ret _ _
                                  refine ret_of (res1 rfl (rvT (rfl : _ = B false))) ?_
                                  exact ⟨_, rfl, rfl, S166.keep⟩
                              · replace H := condF c153 H
                                refine reg_q mixed 62 (by kernel_rfl) ?_
                                refine dS (fun _ k_ => p_mI rfl dn) ?_
                                refine dS (fun _ k_ => p_cmp rfl rfl rfl dn) ?_
                                refine dS (fun _ k_ => p_mB rfl dn) ?_
                                refine dB c144 ?_
                                refine dS (fun _ k_ => gT rfl rfl (p_mI rfl dn)) ?_
                                refine dS (fun _ k_ => gT rfl rfl (p_mI rfl dn)) ?_
                                refine dS (fun _ k_ => gT rfl rfl (p_cmp rfl rfl rfl dn)) ?_
                                refine dS (fun _ k_ => p_pkT rfl (rfl : _ = B (r119.2 == r110.2)) dn) ?_
                                refine dS (fun _ k_ => p_mB rfl dn) ?_
                                refine dB c145 ?_
                                refine dS (fun _ k_ => gT rfl rfl (p_mI rfl dn)) ?_
                                refine dS (fun _ k_ => gT rfl rfl (p_mI rfl dn)) ?_
                                refine dS (fun _ k_ => gT rfl rfl (p_cmp rfl rfl rfl dn)) ?_
                                refine dS (fun _ k_ => p_pkT rfl (rfl : _ = B (r128.2 == r110.2)) dn) ?_
                                refine dS (fun _ k_ => p_mB rfl dn) ?_
                                refine dB c146 ?_
                                refine dS (fun _ k_ => gT rfl rfl (p_mI rfl dn)) ?_
                                refine dS (fun _ k_ => gT rfl rfl (p_mI rfl dn)) ?_
                                refine dS (fun _ k_ => gT rfl rfl (p_cmp rfl rfl rfl dn)) ?_
                                refine dS (fun _ k_ => p_pkT rfl (rfl : _ = B (r132.2 == r110.2)) dn) ?_
                                refine dS (fun _ k_ => p_mB rfl dn) ?_
                                refine dB c147 ?_
                                refine dS (fun _ k_ => gT rfl rfl (p_mI rfl dn)) ?_
                                refine dS (fun _ k_ => gT rfl rfl (p_mI rfl dn)) ?_
                                refine dS (fun _ k_ => gT rfl rfl (p_cmp rfl rfl rfl dn)) ?_
                                refine dS (fun _ k_ => p_pkT rfl (rfl : _ = B (r136.2 == r110.2)) dn) ?_
                                refine dS (fun _ k_ => p_mB rfl dn) ?_
                                refine dB c148 ?_
                                refine dS (fun _ k_ => gT rfl rfl (p_mI rfl dn)) ?_
                                refine dS (fun _ k_ => gT rfl rfl (p_mI rfl dn)) ?_
                                refine dS (fun _ k_ => gT rfl rfl (p_cmp rfl rfl rfl dn)) ?_
                                refine dS (fun _ k_ => p_pkT rfl (rfl : _ = B (r140.2 == r110.2)) dn) ?_
                                refine dS (fun _ k_ => p_mB rfl dn) ?_
                                refine dB c149 ?_
                                refine dS (fun _ k_ => gT rfl rfl (p_ldA ty23 sz23 (Asr.stays (S143.atX (i := 2) rfl) k_) rfl rfl dn)) ?_
                                refine dS (fun _ k_ => gT rfl rfl (p_fld fl23_0 rfl dn)) ?_
                                refine dS (fun _ k_ => gT rfl rfl (p_ld ty3 (Asr.stays (S143.atX (i := 3) rfl) k_) rfl rfl dn)) ?_
                                refine dS (fun _ k_ => gT rfl rfl (p_mI rfl dn)) ?_
                                refine dS (fun _ k_ => gT rfl rfl (p_add rfl rfl dn)) ?_
                                refine dS (fun _ k_ => gT rfl rfl (p_fld fl23_1 rfl dn)) ?_
                                refine dS (fun _ k_ => gT rfl rfl (p_ld ty3 (Asr.stays (S143.atX (i := 3) rfl) k_) rfl rfl dn)) ?_
                                refine dS (fun _ k_ => gT rfl rfl (p_mI rfl dn)) ?_
                                refine dS (fun _ k_ => gT rfl rfl (p_add rfl rfl dn)) ?_
                                refine dS (fun _ k_ => gT rfl rfl (p_cvD (B_Range_ok h151) fu44 rfl)) ?_
                                refine dS (fun _ k_ => gT rfl rfl (o_eqA (xs := [I r86.1.Low, I r86.1.High]) (ys := [I r150.Low, I r150.High]) (T := ((r86.1.Low == r150.Low) && (r86.1.High == r150.High))) rfl rfl eq23 ⟨⟨_, rfl⟩, ⟨⟨_, rfl⟩, trivial⟩⟩ ⟨⟨_, rfl⟩, ⟨⟨_, rfl⟩, trivial⟩⟩ (by simp [Bool.and_eq_true, and_assoc]) dn)) ?_
                                refine dS (fun _ k_ => p_pkT rfl (rfl : _ = B ((r86.1.Low == r150.Low) && (r86.1.High == r150.High))) dn) ?_
                                refine dS (fun _ k_ => p_mB rfl dn) ?_
                                refine dB c152 ?_
                                refine dS (fun _ k_ => gT rfl rfl (p_ldA ty23 sz23 (Asr.stays (S143.atX (i := 1) rfl) k_) rfl rfl dn)) ?_
                                refine dS (fun _ k_ => gT rfl rfl (p_ldA ty23 sz23 (Asr.stays (S143.atX (i := 0) rfl) k_) rfl rfl dn)) ?_
                                refine dS (fun _ k_ => gT rfl rfl (o_eqA (xs := [I r110.1.Low, I r110.1.High]) (ys := [I r119.1.Low, I r119.1.High]) (T := ((r110.1.Low == r119.1.Low) && (r110.1.High == r119.1.High))) rfl rfl eq23 ⟨⟨_, rfl⟩, ⟨⟨_, rfl⟩, trivial⟩⟩ ⟨⟨_, rfl⟩, ⟨⟨_, rfl⟩, trivial⟩⟩ (by simp [Bool.and_eq_true, and_assoc]) dn)) ?_
                                refine dS (fun _ k_ => p_pkT rfl (rfl : _ = B ((r110.1.Low == r119.1.Low) && (r110.1.High == r119.1.High))) dn) ?_
                                refine dS (fun _ k_ => p_mB rfl dn) ?_
                                refine dB c153 ?_
                                refine dS (fun _ k_ => gF rfl rfl dnU) ?_
                                refine dS (fun _ k_ => gF rfl rfl dnU) ?_
                                refine dS (fun _ k_ => gF rfl rfl dnU) ?_
                                refine dS (fun _ k_ => p_pkF rfl (rfl : _ = B false) dn) ?_
                                refine dS (fun _ k_ => p_mB rfl dn) ?_
                                refine dS (fun _ k_ => gF rfl rfl dnU) ?_
                                refine dS (fun _ k_ => gF rfl rfl dnU) ?_
                                refine dS (fun _ k_ => gF rfl rfl dnU) ?_
                                refine dS (fun _ k_ => gF rfl rfl dnU) ?_
                                refine dS (fun _ k_ => gF rfl rfl dnU) ?_
                                refine dS (fun _ k_ => gF rfl rfl dnU) ?_
                                refine dS (fun _ k_ => p_pkF rfl (rfl : _ = B false) dn) ?_
                                refine dS (fun _ k_ => p_mB rfl dn) ?_
                                refine dS (fun _ k_ => gF rfl rfl dnU) ?_
                                refine dS (fun _ k_ => p_pkF rfl (rfl : _ = B false) dn) ?_
                                refine dS (fun _ k_ => p_aB rfl dn) ?_
                                intro w167 k168; have S169 := S143.call k168
                                refine wp_nil ?_
                                obtain rfl := Option.some.inj H
                                refine c_ret ?_; show bodyPostM (Fr none) 0 Tryd.prog Tryd.f10 _ .ret _ _
                                refine ret_of (res1 rfl (rvT (rfl : _ = B false))) ?_
                                exact ⟨_, rfl, rfl, S169.keep⟩
                            · replace H := condF c152 H
                              refine reg_q mixed 62 (by kernel_rfl) ?_
                              refine dS (fun _ k_ => p_mI rfl dn) ?_
                              refine dS (fun _ k_ => p_cmp rfl rfl rfl dn) ?_
                              refine dS (fun _ k_ => p_mB rfl dn) ?_
                              refine dB c144 ?_
                              refine dS (fun _ k_ => gT rfl rfl (p_mI rfl dn)) ?_
                              refine dS (fun _ k_ => gT rfl rfl (p_mI rfl dn)) ?_
                              refine dS (fun _ k_ => gT rfl rfl (p_cmp rfl rfl rfl dn)) ?_
                              refine dS (fun _ k_ => p_pkT rfl (rfl : _ = B (r119.2 == r110.2)) dn) ?_
                              refine dS (fun _ k_ => p_mB rfl dn) ?_
                              refine dB c145 ?_
                              refine dS (fun _ k_ => gT rfl rfl (p_mI rfl dn)) ?_
                              refine dS (fun _ k_ => gT rfl rfl (p_mI rfl dn)) ?_
                              refine dS (fun _ k_ => gT rfl rfl (p_cmp rfl rfl rfl dn)) ?_
                              refine dS (fun _ k_ => p_pkT rfl (rfl : _ = B (r128.2 == r110.2)) dn) ?_
                              refine dS (fun _ k_ => p_mB rfl dn) ?_
                              refine dB c146 ?_
                              refine dS (fun _ k_ => gT rfl rfl (p_mI rfl dn)) ?_
                              refine dS (fun _ k_ => gT rfl rfl (p_mI rfl dn)) ?_
                              refine dS (fun _ k_ => gT rfl rfl (p_cmp rfl rfl rfl dn)) ?_
                              refine dS (fun _ k_ => p_pkT rfl (rfl : _ = B (r132.2 == r110.2)) dn) ?_
                              refine dS (fun _ k_ => p_mB rfl dn) ?_
                              refine dB c147 ?_
                              refine dS (fun _ k_ => gT rfl rfl (p_mI rfl dn)) ?_
                              refine dS (fun _ k_ => gT rfl rfl (p_mI rfl dn)) ?_
                              refine dS (fun _ k_ => gT rfl rfl (p_cmp rfl rfl rfl dn)) ?_
                              refine dS (fun _ k_ => p_pkT rfl (rfl : _ = B (r136.2 == r110.2)) dn) ?_
                              refine dS (fun _ k_ => p_mB rfl dn) ?_
                              refine dB c148 ?_
                              refine dS (fun _ k_ => gT rfl rfl (p_mI rfl dn)) ?_
                              refine dS (fun _ k_ => gT rfl rfl (p_mI rfl dn)) ?_
                              refine dS (fun _ k_ => gT rfl rfl (p_cmp rfl rfl rfl dn)) ?_
                              refine dS (fun _ k_ => p_pkT rfl (rfl : _ = B (r140.2 == r110.2)) dn) ?_
                              refine dS (fun _ k_ => p_mB rfl dn) ?_
                              refine dB c149 ?_
                              refine dS (fun _ k_ => gT rfl rfl (p_ldA ty23 sz23 (Asr.stays (S143.atX (i := 2) rfl) k_) rfl rfl dn)) ?_
                              refine dS (fun _ k_ => gT rfl rfl (p_fld fl23_0 rfl dn)) ?_
                              refine dS (fun _ k_ => gT rfl rfl (p_ld ty3 (Asr.stays (S143.atX (i := 3) rfl) k_) rfl rfl dn)) ?_
                              refine dS (fun _ k_ => gT rfl rfl (p_mI rfl dn)) ?_
                              refine dS (fun _ k_ => gT rfl rfl (p_add rfl rfl dn)) ?_
                              refine dS (fun _ k_ => gT rfl rfl (p_fld fl23_1 rfl dn)) ?_
                              refine dS (fun _ k_ => gT rfl rfl (p_ld ty3 (Asr.stays (S143.atX (i := 3) rfl) k_) rfl rfl dn)) ?_
                              refine dS (fun _ k_ => gT rfl rfl (p_mI rfl dn)) ?_
                              refine dS (fun _ k_ => gT rfl rfl (p_add rfl rfl dn)) ?_
                              refine dS (fun _ k_ => gT rfl rfl (p_cvD (B_Range_ok h151) fu44 rfl)) ?_
                              refine dS (fun _ k_ => gT rfl rfl (o_eqA (xs := [I r86.1.Low, I r86.1.High]) (ys := [I r150.Low, I r150.High]) (T := ((r86.1.Low == r150.Low) && (r86.1.High == r150.High))) rfl rfl eq23 ⟨⟨_, rfl⟩, ⟨⟨_, rfl⟩, trivial⟩⟩ ⟨⟨_, rfl⟩, ⟨⟨_, rfl⟩, trivial⟩⟩ (by simp [Bool.and_eq_true, and_assoc]) dn)) ?_
                              refine dS (fun _ k_ => p_pkT rfl (rfl : _ = B ((r86.1.Low == r150.Low) && (r86.1.High == r150.High))) dn) ?_
                              refine dS (fun _ k_ => p_mB rfl dn) ?_
                              refine dB c152 ?_
                              refine dS (fun _ k_ => gF rfl rfl dnU) ?_
                              refine dS (fun _ k_ => gF rfl rfl dnU) ?_
                              refine dS (fun _ k_ => gF rfl rfl dnU) ?_
                              refine dS (fun _ k_ => p_pkF rfl (rfl : _ = B false) dn) ?_
                              refine dS (fun _ k_ => p_mB rfl dn) ?_
                              refine dS (fun _ k_ => gF rfl rfl dnU) ?_
                              refine dS (fun _ k_ => gF rfl rfl dnU) ?_
                              refine dS (fun _ k_ => gF rfl rfl dnU) ?_
                              refine dS (fun _ k_ => p_pkF rfl (rfl : _ = B false) dn) ?_
                              refine dS (fun _ k_ => p_mB rfl dn) ?_
                              refine dS (fun _ k_ => gF rfl rfl dnU) ?_
                              refine dS (fun _ k_ => gF rfl rfl dnU) ?_
                              refine dS (fun _ k_ => gF rfl rfl dnU) ?_
                              refine dS (fun _ k_ => gF rfl rfl dnU) ?_
                              refine dS (fun _ k_ => gF rfl rfl dnU) ?_
                              refine dS (fun _ k_ => gF rfl rfl dnU) ?_
                              refine dS (fun _ k_ => p_pkF rfl (rfl : _ = B false) dn) ?_
                              refine dS (fun _ k_ => p_mB rfl dn) ?_
                              refine dS (fun _ k_ => gF rfl rfl dnU) ?_
                              refine dS (fun _ k_ => p_pkF rfl (rfl : _ = B false) dn) ?_
                              refine dS (fun _ k_ => p_aB rfl dn) ?_
                              intro w170 k171; have S172 := S143.call k171
                              refine wp_nil ?_
                              obtain rfl := Option.some.inj H
                              refine c_ret ?_; show bodyPostM (Fr none) 0 Tryd.prog Tryd.f10 _ .ret _ _
                              refine ret_of (res1 rfl (rvT (rfl : _ = B false))) ?_
                              exact ⟨_, rfl, rfl, S172.keep⟩
                          · replace H := condF c149 H
                            refine reg_q mixed 62 (by kernel_rfl) ?_
                            refine dS (fun _ k_ => p_mI rfl dn) ?_
                            refine dS (fun _ k_ => p_cmp rfl rfl rfl dn) ?_
                            refine dS (fun _ k_ => p_mB rfl dn) ?_
                            refine dB c144 ?_
                            refine dS (fun _ k_ => gT rfl rfl (p_mI rfl dn)) ?_
                            refine dS (fun _ k_ => gT rfl rfl (p_mI rfl dn)) ?_
                            refine dS (fun _ k_ => gT rfl rfl (p_cmp rfl rfl rfl dn)) ?_
                            refine dS (fun _ k_ => p_pkT rfl (rfl : _ = B (r119.2 == r110.2)) dn) ?_
                            refine dS (fun _ k_ => p_mB rfl dn) ?_
                            refine dB c145 ?_
                            refine dS (fun _ k_ => gT rfl rfl (p_mI rfl dn)) ?_
                            refine dS (fun _ k_ => gT rfl rfl (p_mI rfl dn)) ?_
                            refine dS (fun _ k_ => gT rfl rfl (p_cmp rfl rfl rfl dn)) ?_
                            refine dS (fun _ k_ => p_pkT rfl (rfl : _ = B (r128.2 == r110.2)) dn) ?_
                            refine dS (fun _ k_ => p_mB rfl dn) ?_
                            refine dB c146 ?_
                            refine dS (fun _ k_ => gT rfl rfl (p_mI rfl dn)) ?_
                            refine dS (fun _ k_ => gT rfl rfl (p_mI rfl dn)) ?_
                            refine dS (fun _ k_ => gT rfl rfl (p_cmp rfl rfl rfl dn)) ?_
                            refine dS (fun _ k_ => p_pkT rfl (rfl : _ = B (r132.2 == r110.2)) dn) ?_
                            refine dS (fun _ k_ => p_mB rfl dn) ?_
                            refine dB c147 ?_
                            refine dS (fun _ k_ => gT rfl rfl (p_mI rfl dn)) ?_
                            refine dS (fun _ k_ => gT rfl rfl (p_mI rfl dn)) ?_
                            refine dS (fun _ k_ => gT rfl rfl (p_cmp rfl rfl rfl dn)) ?_
                            refine dS (fun _ k_ => p_pkT rfl (rfl : _ = B (r136.2 == r110.2)) dn) ?_
                            refine dS (fun _ k_ => p_mB rfl dn) ?_
                            refine dB c148 ?_
                            refine dS (fun _ k_ => gT rfl rfl (p_mI rfl dn)) ?_
                            refine dS (fun _ k_ => gT rfl rfl (p_mI rfl dn)) ?_
                            refine dS (fun _ k_ => gT rfl rfl (p_cmp rfl rfl rfl dn)) ?_
                            refine dS (fun _ k_ => p_pkT rfl (rfl : _ = B (r140.2 == r110.2)) dn) ?_
                            refine dS (fun _ k_ => p_mB rfl dn) ?_
                            refine dB c149 ?_
                            refine dS (fun _ k_ => gF rfl rfl dnU) ?_
                            refine dS (fun _ k_ => gF rfl rfl dnU) ?_
                            refine dS (fun _ k_ => gF rfl rfl dnU) ?_
                            refine dS (fun _ k_ => gF rfl rfl dnU) ?_
                            refine dS (fun _ k_ => gF rfl rfl dnU) ?_
                            refine dS (fun _ k_ => gF rfl rfl dnU) ?_
                            refine dS (fun _ k_ => gF rfl rfl dnU) ?_
                            refine dS (fun _ k_ => gF rfl rfl dnU) ?_
                            refine dS (fun _ k_ => gF rfl rfl dnU) ?_
                            refine dS (fun _ k_ => gF rfl rfl dnU) ?_
                            refine dS (fun _ k_ => gF rfl rfl dnU) ?_
                            refine dS (fun _ k_ => p_pkF rfl (rfl : _ = B false) dn) ?_
                            refine dS (fun _ k_ => p_mB rfl dn) ?_
                            refine dS (fun _ k_ => gF rfl rfl dnU) ?_
                            refine dS (fun _ k_ => gF rfl rfl dnU) ?_
                            refine dS (fun _ k_ => gF rfl rfl dnU) ?_
                            refine dS (fun _ k_ => p_pkF rfl (rfl : _ = B false) dn) ?_
                            refine dS (fun _ k_ => p_mB rfl dn) ?_
                            refine dS (fun _ k_ => gF rfl rfl dnU) ?_
                            refine dS (fun _ k_ => gF rfl rfl dnU) ?_
                            refine dS (fun _ k_ => gF rfl rfl dnU) ?_
                            refine dS (fun _ k_ => p_pkF rfl (rfl : _ = B false) dn) ?_
                            refine dS (fun _ k_ => p_mB rfl dn) ?_
                            refine dS (fun _ k_ => gF rfl rfl dnU) ?_
                            refine dS (fun _ k_ => gF rfl rfl dnU) ?_
                            refine dS (fun _ k_ => gF rfl rfl dnU) ?_
                            refine dS (fun _ k_ => gF rfl rfl dnU) ?_
                            refine dS (fun _ k_ => gF rfl rfl dnU) ?_
                            refine dS (fun _ k_ => gF rfl rfl dnU) ?_
                            refine dS (fun _ k_ => p_pkF rfl (rfl : _ = B false) dn) ?_
                            refine dS (fun _ k_ => p_mB rfl dn) ?_
                            refine dS (fun _ k_ => gF rfl rfl dnU) ?_
                            refine dS (fun _ k_ => p_pkF rfl (rfl : _ = B false) dn) ?_
                            refine dS (fun _ k_ => p_aB rfl dn) ?_
                            intro w173 k174; have S175 := S143.call k174
                            refine wp_nil ?_
                            obtain rfl := Option.some.inj H
                            refine c_ret ?_; show bodyPostM (Fr none) 0 Tryd.prog Tryd.f10 _ .ret _ _
                            refine ret_of (res1 rfl (rvT (rfl : _ = B false))) ?_
                            exact ⟨_, rfl, rfl, S175.keep⟩
                        · replace H := condF c148 H
                          refine reg_q mixed 62 (by kernel_rfl) ?_
                          refine dS (fun _ k_ => p_mI rfl dn) ?_
                          refine dS (fun _ k_ => p_cmp rfl rfl rfl dn) ?_
                          refine dS (fun _ k_ => p_mB rfl dn) ?_
                          refine dB c144 ?_
                          refine dS (fun _ k_ => gT rfl rfl (p_mI rfl dn)) ?_
                          refine dS (fun _ k_ => gT rfl rfl (p_mI rfl dn)) ?_
                          refine dS (fun _ k_ => gT rfl rfl (p_cmp rfl rfl rfl dn)) ?_
                          refine dS (fun _ k_ => p_pkT rfl (rfl : _ = B (r119.2 == r110.2)) dn) ?_
                          refine dS (fun _ k_ => p_mB rfl dn) ?_
                          refine dB c145 ?_
                          refine dS (fun _ k_ => gT rfl rfl (p_mI rfl dn)) ?_
                          refine dS (fun _ k_ => gT rfl rfl (p_mI rfl dn)) ?_
                          refine dS (fun _ k_ => gT rfl rfl (p_cmp rfl rfl rfl dn)) ?_
                          refine dS (fun _ k_ => p_pkT rfl (rfl : _ = B (r128.2 == r110.2)) dn) ?_
                          refine dS (fun _ k_ => p_mB rfl dn) ?_
                          refine dB c146 ?_
                          refine dS (fun _ k_ => gT rfl rfl (p_mI rfl dn)) ?_
                          refine dS (fun _ k_ => gT rfl rfl (p_mI rfl dn)) ?_
                          refine dS (fun _ k_ => gT rfl rfl (p_cmp rfl rfl rfl dn)) ?_
                          refine dS (fun _ k_ => p_pkT rfl (rfl : _ = B (r132.2 == r110.2)) dn) ?_
                          refine dS (fun _ k_ => p_mB rfl dn) ?_
                          refine dB c147 ?_
                          refine dS (fun _ k_ => gT rfl rfl (p_mI rfl dn)) ?_
                          refine dS (fun _ k_ => gT rfl rfl (p_mI rfl dn)) ?_
                          refine dS (fun _ k_ => gT rfl rfl (p_cmp rfl rfl rfl dn)) ?_
                          refine dS (fun _ k_ => p_pkT rfl (rfl : _ = B (r136.2 == r110.2)) dn) ?_
                          refine dS (fun _ k_ => p_mB rfl dn) ?_
                          refine dB c148 ?_
                          refine dS (fun _ k_ => gF rfl rfl dnU) ?_
                          refine dS (fun _ k_ => gF rfl rfl dnU) ?_
                          refine dS (fun _ k_ => gF rfl rfl dnU) ?_
                          refine dS (fun _ k_ => p_pkF rfl (rfl : _ = B false) dn) ?_
                          refine dS (fun _ k_ => p_mB rfl dn) ?_
                          refine dS (fun _ k_ => gF rfl rfl dnU) ?_
                          refine dS (fun _ k_ => gF rfl rfl dnU) ?_
                          refine dS (fun _ k_ => gF rfl rfl dnU) ?_
                          refine dS (fun _ k_ => gF rfl rfl dnU) ?_
                          refine dS (fun _ k_ => gF rfl rfl dnU) ?_
                          refine dS (fun _ k_ => gF rfl rfl dnU) ?_
                          refine dS (fun _ k_ => gF rfl rfl dnU) ?_
                          refine dS (fun _ k_ => gF rfl rfl dnU) ?_
                          refine dS (fun _ k_ => gF rfl rfl dnU) ?_
                          refine dS (fun _ k_ => gF rfl rfl dnU) ?_
                          refine dS (fun _ k_ => gF rfl rfl dnU) ?_
                          refine dS (fun _ k_ => p_pkF rfl (rfl : _ = B false) dn) ?_
                          refine dS (fun _ k_ => p_mB rfl dn) ?_
                          refine dS (fun _ k_ => gF rfl rfl dnU) ?_
                          refine dS (fun _ k_ => gF rfl rfl dnU) ?_
                          refine dS (fun _ k_ => gF rfl rfl dnU) ?_
                          refine dS (fun _ k_ => p_pkF rfl (rfl : _ = B false) dn) ?_
                          refine dS (fun _ k_ => p_mB rfl dn) ?_
                          refine dS (fun _ k_ => gF rfl rfl dnU) ?_
                          refine dS (fun _ k_ => gF rfl rfl dnU) ?_
                          refine dS (fun _ k_ => gF rfl rfl dnU) ?_
                          refine dS (fun _ k_ => p_pkF rfl (rfl : _ = B false) dn) ?_
                          refine dS (fun _ k_ => p_mB rfl dn) ?_
                          refine dS (fun _ k_ => gF rfl rfl dnU) ?_
                          refine dS (fun _ k_ => gF rfl rfl dnU) ?_
                          refine dS (fun _ k_ => gF rfl rfl dnU) ?_
                          refine dS (fun _ k_ => gF rfl rfl dnU) ?_
                          refine dS (fun _ k_ => gF rfl rfl dnU) ?_
                          refine dS (fun _ k_ => gF rfl rfl dnU) ?_
                          refine dS (fun _ k_ => p_pkF rfl (rfl : _ = B false) dn) ?_
                          refine dS (fun _ k_ => p_mB rfl dn) ?_
                          refine dS (fun _ k_ => gF rfl rfl dnU) ?_
                          refine dS (fun _ k_ => p_pkF rfl (rfl : _ = B false) dn) ?_
                          refine dS (fun _ k_ => p_aB rfl dn) ?_
                          intro w176 k177; have S178 := S143.call k177
                          refine wp_nil ?_
                          obtain rfl := Option.some.inj H
                          refine c_ret ?_; show bodyPostM (Fr none) 0 Tryd.prog Tryd.f10 _ .ret _ _
                          refine ret_of (res1 rfl (rvT (rfl : _ = B false))) ?_
                          exact ⟨_, rfl, rfl, S178.keep⟩
                      · replace H := condF c147 H
                        refine reg_q mixed 62 (by kernel_rfl) ?_
                        refine dS (fun _ k_ => p_mI rfl dn) ?_
                        refine dS (fun _ k_ => p_cmp rfl rfl rfl dn) ?_
                        refine dS (fun _ k_ => p_mB rfl dn) ?_
                        refine dB c144 ?_
                        refine dS (fun _ k_ => gT rfl rfl (p_mI rfl dn)) ?_
                        refine dS (fun _ k_ => gT rfl rfl (p_mI rfl dn)) ?_
                        refine dS (fun _ k_ => gT rfl rfl (p_cmp rfl rfl rfl dn)) ?_
                        refine dS (fun _ k_ => p_pkT rfl (rfl : _ = B (r119.2 == r110.2)) dn) ?_
                        refine dS (fun _ k_ => p_mB rfl dn) ?_
                        refine dB c145 ?_
                        refine dS (fun _ k_ => gT rfl rfl (p_mI rfl dn)) ?_
                        refine dS (fun _ k_ => gT rfl rfl (p_mI rfl dn)) ?_
                        refine dS (fun _ k_ => gT rfl rfl (p_cmp rfl rfl rfl dn)) ?_
                        refine dS (fun _ k_ => p_pkT rfl (rfl : _ = B (r128.2 == r110.2)) dn) ?_
                        refine dS (fun _ k_ => p_mB rfl dn) ?_
                        refine dB c146 ?_
                        refine dS (fun _ k_ => gT rfl rfl (p_mI rfl dn)) ?_
                        refine dS (fun _ k_ => gT rfl rfl (p_mI rfl dn)) ?_
                        refine dS (fun _ k_ => gT rfl rfl (p_cmp rfl rfl rfl dn)) ?_
                        refine dS (fun _ k_ => p_pkT rfl (rfl : _ = B (r132.2 == r110.2)) dn) ?_
                        refine dS (fun _ k_ => p_mB rfl dn) ?_
                        refine dB c147 ?_
                        refine dS (fun _ k_ => gF rfl rfl dnU) ?_
                        refine dS (fun _ k_ => gF rfl rfl dnU) ?_
                        refine dS (fun _ k_ => gF rfl rfl dnU) ?_
                        refine dS (fun _ k_ => p_pkF rfl (rfl : _ = B false) dn) ?_
                        refine dS (fun _ k_ => p_mB rfl dn) ?_
                        refine dS (fun _ k_ => gF rfl rfl dnU) ?_
                        refine dS (fun _ k_ => gF rfl rfl dnU) ?_
                        refine dS (fun _ k_ => gF rfl rfl dnU) ?_
                        refine dS (fun _ k_ => p_pkF rfl (rfl : _ = B false) dn) ?_
                        refine dS (fun _ k_ => p_mB rfl dn) ?_
                        refine dS (fun _ k_ => gF rfl rfl dnU) ?_
                        refine dS (fun _ k_ => gF rfl rfl dnU) ?_
                        refine dS (fun _ k_ => gF rfl rfl dnU) ?_
                        refine dS (fun _ k_ => gF rfl rfl dnU) ?_
                        refine dS (fun _ k_ => gF rfl rfl dnU) ?_
                        refine dS (fun _ k_ => gF rfl rfl dnU) ?_
                        refine dS (fun _ k_ => gF rfl rfl dnU) ?_
                        refine dS (fun _ k_ => gF rfl rfl dnU) ?_
                        refine dS (fun _ k_ => gF rfl rfl dnU) ?_
                        refine dS (fun _ k_ => gF rfl rfl dnU) ?_
                        refine dS (fun _ k_ => gF rfl rfl dnU) ?_
                        refine dS (fun _ k_ => p_pkF rfl (rfl : _ = B false) dn) ?_
                        refine dS (fun _ k_ => p_mB rfl dn) ?_
                        refine dS (fun _ k_ => gF rfl rfl dnU) ?_
                        refine dS (fun _ k_ => gF rfl rfl dnU) ?_
                        refine dS (fun _ k_ => gF rfl rfl dnU) ?_
                        refine dS (fun _ k_ => p_pkF rfl (rfl : _ = B false) dn) ?_
                        refine dS (fun _ k_ => p_mB rfl dn) ?_
                        refine dS (fun _ k_ => gF rfl rfl dnU) ?_
                        refine dS (fun _ k_ => gF rfl rfl dnU) ?_
                        refine dS (fun _ k_ => gF rfl rfl dnU) ?_
                        refine dS (fun _ k_ => p_pkF rfl (rfl : _ = B false) dn) ?_
                        refine dS (fun _ k_ => p_mB rfl dn) ?_
                        refine dS (fun _ k_ => gF rfl rfl dnU) ?_
                        refine dS (fun _ k_ => gF rfl rfl dnU) ?_
                        refine dS (fun _ k_ => gF rfl rfl dnU) ?_
                        refine dS (fun _ k_ => gF rfl rfl dnU) ?_
                        refine dS (fun _ k_ => gF rfl rfl dnU) ?_
                        refine dS (fun _ k_ => gF rfl rfl dnU) ?_
                        refine dS (fun _ k_ => p_pkF rfl (rfl : _ = B false) dn) ?_
                        refine dS (fun _ k_ => p_mB rfl dn) ?_
                        refine dS (fun _ k_ => gF rfl rfl dnU) ?_
                        refine dS (fun _ k_ => p_pkF rfl (rfl : _ = B false) dn) ?_
                        refine dS (fun _ k_ => p_aB rfl dn) ?_
                        intro w179 k180; have S181 := S143.call k180
                        refine wp_nil ?_
                        obtain rfl := Option.some.inj H
                        refine c_ret ?_; show bodyPostM (Fr none) 0 Tryd.prog Tryd.f10 _ .ret _ _
                        refine ret_of (res1 rfl (rvT (rfl : _ = B false))) ?_
                        exact ⟨_, rfl, rfl, S181.keep⟩
                    · replace H := condF c146 H
                      refine reg_q mixed 62 (by kernel_rfl) ?_
                      refine dS (fun _ k_ => p_mI rfl dn) ?_
                      refine dS (fun _ k_ => p_cmp rfl rfl rfl dn) ?_
                      refine dS (fun _ k_ => p_mB rfl dn) ?_
                      refine dB c144 ?_
                      refine dS (fun _ k_ => gT rfl rfl (p_mI rfl dn)) ?_
                      refine dS (fun _ k_ => gT rfl rfl (p_mI rfl dn)) ?_
                      refine dS (fun _ k_ => gT rfl rfl (p_cmp rfl rfl rfl dn)) ?_
                      refine dS (fun _ k_ => p_pkT rfl (rfl : _ = B (r119.2 == r110.2)) dn) ?_
                      refine dS (fun _ k_ => p_mB rfl dn) ?_
                      refine dB c145 ?_
                      refine dS (fun _ k_ => gT rfl rfl (p_mI rfl dn)) ?_
                      refine dS (fun _ k_ => gT rfl rfl (p_mI rfl dn)) ?_
                      refine dS (fun _ k_ => gT rfl rfl (p_cmp rfl rfl rfl dn)) ?_
                      refine dS (fun _ k_ => p_pkT rfl (rfl : _ = B (r128.2 == r110.2)) dn) ?_
                      refine dS (fun _ k_ => p_mB rfl dn) ?_
                      refine dB c146 ?_
                      refine dS (fun _ k_ => gF rfl rfl dnU) ?_
                      refine dS (fun _ k_ => gF rfl rfl dnU) ?_
                      refine dS (fun _ k_ => gF rfl rfl dnU) ?_
                      refine dS (fun _ k_ => p_pkF rfl (rfl : _ = B false) dn) ?_
                      refine dS (fun _ k_ => p_mB rfl dn) ?_
                      refine dS (fun _ k_ => gF rfl rfl dnU) ?_
                      refine dS (fun _ k_ => gF rfl rfl dnU) ?_
                      refine dS (fun _ k_ => gF rfl rfl dnU) ?_
                      refine dS (fun _ k_ => p_pkF rfl (rfl : _ = B false) dn) ?_
                      refine dS (fun _ k_ => p_mB rfl dn) ?_
                      refine dS (fun _ k_ => gF rfl rfl dnU) ?_
                      refine dS (fun _ k_ => gF rfl rfl dnU) ?_
                      refine dS (fun _ k_ => gF rfl rfl dnU) ?_
                      refine dS (fun _ k_ => p_pkF rfl (rfl : _ = B false) dn) ?_
                      refine dS (fun _ k_ => p_mB rfl dn) ?_
                      refine dS (fun _ k_ => gF rfl rfl dnU) ?_
                      refine dS (fun _ k_ => gF rfl rfl dnU) ?_
                      refine dS (fun _ k_ => gF rfl rfl dnU) ?_
                      refine dS (fun _ k_ => gF rfl rfl dnU) ?_
                      refine dS (fun _ k_ => gF rfl rfl dnU) ?_
                      refine dS (fun _ k_ => gF rfl rfl dnU) ?_
                      refine dS (fun _ k_ => gF rfl rfl dnU) ?_
                      refine dS (fun _ k_ => gF rfl rfl dnU) ?_
                      refine dS (fun _ k_ => gF rfl rfl dnU) ?_
                      refine dS (fun _ k_ => gF rfl rfl dnU) ?_
                      refine dS (fun _ k_ => gF rfl rfl dnU) ?_
                      refine dS (fun _ k_ => p_pkF rfl (rfl : _ = B false) dn) ?_
                      refine dS (fun _ k_ => p_mB rfl dn) ?_
                      refine dS (fun _ k_ => gF rfl rfl dnU) ?_
                      refine dS (fun _ k_ => gF rfl rfl dnU) ?_
                      refine dS (fun _ k_ => gF rfl rfl dnU) ?_
                      refine dS (fun _ k_ => p_pkF rfl (rfl : _ = B false) dn) ?_
                      refine dS (fun _ k_ => p_mB rfl dn) ?_
                      refine dS (fun _ k_ => gF rfl rfl dnU) ?_
                      refine dS (fun _ k_ => gF rfl rfl dnU) ?_
                      refine dS (fun _ k_ => gF rfl rfl dnU) ?_
                      refine dS (fun _ k_ => p_pkF rfl (rfl : _ = B false) dn) ?_
                      refine dS (fun _ k_ => p_mB rfl dn) ?_
                      refine dS (fun _ k_ => gF rfl rfl dnU) ?_
                      refine dS (fun _ k_ => gF rfl rfl dnU) ?_
                      refine dS (fun _ k_ => gF rfl rfl dnU) ?_
                      refine dS (fun _ k_ => gF rfl rfl dnU) ?_
                      refine dS (fun _ k_ => gF rfl rfl dnU) ?_
                      refine dS (fun _ k_ => gF rfl rfl dnU) ?_
                      refine dS (fun _ k_ => p_pkF rfl (rfl : _ = B false) dn) ?_
                      refine dS (fun _ k_ => p_mB rfl dn) ?_
                      refine dS (fun _ k_ => gF rfl rfl dnU) ?_
                      refine dS (fun _ k_ => p_pkF rfl (rfl : _ = B false) dn) ?_
                      refine dS (fun _ k_ => p_aB rfl dn) ?_
                      intro w182 k183; have S184 := S143.call k183
                      refine wp_nil ?_
                      obtain rfl := Option.some.inj H
                      refine c_ret ?_; show bodyPostM (Fr none) 0 Tryd.prog Tryd.f10 _ .ret _ _
                      refine ret_of (res1 rfl (rvT (rfl : _ = B false))) ?_
                      exact ⟨_, rfl, rfl, S184.keep⟩
                  · replace H := condF c145 H
                    refine reg_q mixed 62 (by kernel_rfl) ?_
                    refine dS (fun _ k_ => p_mI rfl dn) ?_
                    refine dS (fun _ k_ => p_cmp rfl rfl rfl dn) ?_
                    refine dS (fun _ k_ => p_mB rfl dn) ?_
                    refine dB c144 ?_
                    refine dS (fun _ k_ => gT rfl rfl (p_mI rfl dn)) ?_
                    refine dS (fun _ k_ => gT rfl rfl (p_mI rfl dn)) ?_
                    refine dS (fun _ k_ => gT rfl rfl (p_cmp rfl rfl rfl dn)) ?_
                    refine dS (fun _ k_ => p_pkT rfl (rfl : _ = B (r119.2 == r110.2)) dn) ?_
                    refine dS (fun _ k_ => p_mB rfl dn) ?_
                    refine dB c145 ?_
                    refine dS (fun _ k_ => gF rfl rfl dnU) ?_
                    refine dS (fun _ k_ => gF rfl rfl dnU) ?_
                    refine dS (fun _ k_ => gF rfl rfl dnU) ?_
                    refine dS (fun _ k_ => p_pkF rfl (rfl : _ = B false) dn) ?_
                    refine dS (fun _ k_ => p_mB rfl dn) ?_
                    refine dS (fun _ k_ => gF rfl rfl dnU) ?_
                    refine dS (fun _ k_ => gF rfl rfl dnU) ?_
                    refine dS (fun _ k_ => gF rfl rfl dnU) ?_
                    refine dS (fun _ k_ => p_pkF rfl (rfl : _ = B false) dn) ?_
                    refine dS (fun _ k_ => p_mB rfl dn) ?_
                    refine dS (fun _ k_ => gF rfl rfl dnU) ?_
                    refine dS (fun _ k_ => gF rfl rfl dnU) ?_
                    refine dS (fun _ k_ => gF rfl rfl dnU) ?_
                    refine dS (fun _ k_ => p_pkF rfl (rfl : _ = B false) dn) ?_
                    refine dS (fun _ k_ => p_mB rfl dn) ?_
                    refine dS (fun _ k_ => gF rfl rfl dnU) ?_
                    refine dS (fun _ k_ => gF rfl rfl dnU) ?_
                    refine dS (fun _ k_ => gF rfl rfl dnU) ?_
                    refine dS (fun _ k_ => p_pkF rfl (rfl : _ = B false) dn) ?_
                    refine dS (fun _ k_ => p_mB rfl dn) ?_
                    refine dS (fun _ k_ => gF rfl rfl dnU) ?_
                    refine dS (fun _ k_ => gF rfl rfl dnU) ?_
                    refine dS (fun _ k_ => gF rfl rfl dnU) ?_
                    refine dS (fun _ k_ => gF rfl rfl dnU) ?_
                    refine dS (fun _ k_ => gF rfl rfl dnU) ?_
                    refine dS (fun _ k_ => gF rfl rfl dnU) ?_
                    refine dS (fun _ k_ => gF rfl rfl dnU) ?_
                    refine dS (fun _ k_ => gF rfl rfl dnU) ?_
                    refine dS (fun _ k_ => gF rfl rfl dnU) ?_
                    refine dS (fun _ k_ => gF rfl rfl dnU) ?_
                    refine dS (fun _ k_ => gF rfl rfl dnU) ?_
                    refine dS (fun _ k_ => p_pkF rfl (rfl : _ = B false) dn) ?_
                    refine dS (fun _ k_ => p_mB rfl dn) ?_
                    refine dS (fun _ k_ => gF rfl rfl dnU) ?_
                    refine dS (fun _ k_ => gF rfl rfl dnU) ?_
                    refine dS (fun _ k_ => gF rfl rfl dnU) ?_
                    refine dS (fun _ k_ => p_pkF rfl (rfl : _ = B false) dn) ?_
                    refine dS (fun _ k_ => p_mB rfl dn) ?_
                    refine dS (fun _ k_ => gF rfl rfl dnU) ?_
                    refine dS (fun _ k_ => gF rfl rfl dnU) ?_
                    refine dS (fun _ k_ => gF rfl rfl dnU) ?_
                    refine dS (fun _ k_ => p_pkF rfl (rfl : _ = B false) dn) ?_
                    refine dS (fun _ k_ => p_mB rfl dn) ?_
                    refine dS (fun _ k_ => gF rfl rfl dnU) ?_
                    refine dS (fun _ k_ => gF rfl rfl dnU) ?_
                    refine dS (fun _ k_ => gF rfl rfl dnU) ?_
                    refine dS (fun _ k_ => gF rfl rfl dnU) ?_
                    refine dS (fun _ k_ => gF rfl rfl dnU) ?_
                    refine dS (fun _ k_ => gF rfl rfl dnU) ?_
                    refine dS (fun _ k_ => p_pkF rfl (rfl : _ = B false) dn) ?_
                    refine dS (fun _ k_ => p_mB rfl dn) ?_
                    refine dS (fun _ k_ => gF rfl rfl dnU) ?_
                    refine dS (fun _ k_ => p_pkF rfl (rfl : _ = B false) dn) ?_
                    refine dS (fun _ k_ => p_aB rfl dn) ?_
                    intro w185 k186; have S187 := S143.call k186
                    refine wp_nil ?_
                    obtain rfl := Option.some.inj H
                    refine c_ret ?_; show bodyPostM (Fr none) 0 Tryd.prog Tryd.f10 _ .ret _ _
                    refine ret_of (res1 rfl (rvT (rfl : _ = B false))) ?_
                    exact ⟨_, rfl, rfl, S187.keep⟩
                · replace H := condF c144 H
                  refine reg_q mixed 62 (by kernel_rfl) ?_
                  refine dS (fun _ k_ => p_mI rfl dn) ?_
                  refine dS (fun _ k_ => p_cmp rfl rfl rfl dn) ?_
                  refine dS (fun _ k_ => p_mB rfl dn) ?_
                  refine dB c144 ?_
                  refine dS (fun _ k_ => gF rfl rfl dnU) ?_
                  refine dS (fun _ k_ => gF rfl rfl dnU) ?_
                  refine dS (fun _ k_ => gF rfl rfl dnU) ?_
                  refine dS (fun _ k_ => p_pkF rfl (rfl : _ = B false) dn) ?_
                  refine dS (fun _ k_ => p_mB rfl dn) ?_
                  refine dS (fun _ k_ => gF rfl rfl dnU) ?_
                  refine dS (fun _ k_ => gF rfl rfl dnU) ?_
                  refine dS (fun _ k_ => gF rfl rfl dnU) ?_
                  refine dS (fun _ k_ => p_pkF rfl (rfl : _ = B false) dn) ?_
                  refine dS (fun _ k_ => p_mB rfl dn) ?_
                  refine dS (fun _ k_ => gF rfl rfl dnU) ?_
                  refine dS (fun _ k_ => gF rfl rfl dnU) ?_
                  refine dS (fun _ k_ => gF rfl rfl dnU) ?_
                  refine dS (fun _ k_ => p_pkF rfl (rfl : _ = B false) dn) ?_
                  refine dS (fun _ k_ => p_mB rfl dn) ?_
                  refine dS (fun _ k_ => gF rfl rfl dnU) ?_
                  refine dS (fun _ k_ => gF rfl rfl dnU) ?_
                  refine dS (fun _ k_ => gF rfl rfl dnU) ?_
                  refine dS (fun _ k_ => p_pkF rfl (rfl : _ = B false) dn) ?_
                  refine dS (fun _ k_ => p_mB rfl dn) ?_
                  refine dS (fun _ k_ => gF rfl rfl dnU) ?_
                  refine dS (fun _ k_ => gF rfl rfl dnU) ?_
                  refine dS (fun _ k_ => gF rfl rfl dnU) ?_
                  refine dS (fun _ k_ => p_pkF rfl (rfl : _ = B false) dn) ?_
                  refine dS (fun _ k_ => p_mB rfl dn) ?_
                  refine dS (fun _ k_ => gF rfl rfl dnU) ?_
                  refine dS (fun _ k_ => gF rfl rfl dnU) ?_
                  refine dS (fun _ k_ => gF rfl rfl dnU) ?_
                  refine dS (fun _ k_ => gF rfl rfl dnU) ?_
                  refine dS (fun _ k_ => gF rfl rfl dnU) ?_
                  refine dS (fun _ k_ => gF rfl rfl dnU) ?_
                  refine dS (fun _ k_ => gF rfl rfl dnU) ?_
                  refine dS (fun _ k_ => gF rfl rfl dnU) ?_
                  refine dS (fun _ k_ => gF rfl rfl dnU) ?_
                  refine dS (fun _ k_ => gF rfl rfl dnU) ?_
                  refine dS (fun _ k_ => gF rfl rfl dnU) ?_
                  refine dS (fun _ k_ => p_pkF rfl (rfl : _ = B false) dn) ?_
                  refine dS (fun _ k_ => p_mB rfl dn) ?_
                  refine dS (fun _ k_ => gF rfl rfl dnU) ?_
                  refine dS (fun _ k_ => gF rfl rfl dnU) ?_
                  refine dS (fun _ k_ => gF rfl rfl dnU) ?_
                  refine dS (fun _ k_ => p_pkF rfl (rfl : _ = B false) dn) ?_
                  refine dS (fun _ k_ => p_mB rfl dn) ?_
                  refine dS (fun _ k_ => gF rfl rfl dnU) ?_
                  refine dS (fun _ k_ => gF rfl rfl dnU) ?_
                  refine dS (fun _ k_ => gF rfl rfl dnU) ?_
                  refine dS (fun _ k_ => p_pkF rfl (rfl : _ = B false) dn) ?_
                  refine dS (fun _ k_ => p_mB rfl dn) ?_
                  refine dS (fun _ k_ => gF rfl rfl dnU) ?_
                  refine dS (fun _ k_ => gF rfl rfl dnU) ?_
                  refine dS (fun _ k_ => gF rfl rfl dnU) ?_
                  refine dS (fun _ k_ => gF rfl rfl dnU) ?_
                  refine dS (fun _ k_ => gF rfl rfl dnU) ?_
                  refine dS (fun _ k_ => gF rfl rfl dnU) ?_
                  refine dS (fun _ k_ => p_pkF rfl (rfl : _ = B false) dn) ?_
                  refine dS (fun _ k_ => p_mB rfl dn) ?_
                  refine dS (fun _ k_ => gF rfl rfl dnU) ?_
                  refine dS (fun _ k_ => p_pkF rfl (rfl : _ = B false) dn) ?_
                  refine dS (fun _ k_ => p_aB rfl dn) ?_
                  intro w188 k189; have S190 := S143.call k189
                  refine wp_nil ?_
                  obtain rfl := Option.some.inj H
                  refine c_ret ?_; show bodyPostM (Fr none) 0 Tryd.prog Tryd.f10 _ .ret _ _
                  refine ret_of (res1 rfl (rvT (rfl : _ = B false))) ?_
                  exact ⟨_, rfl, rfl, S190.keep⟩

end Go.Proofs.YticodohfokgjfaaDoor

/- What the law's function computes, and that it does, printed by a program of mine. -/
import Derived.Test.YticodohfokgjfaaDoorZWAll
import Derived.KernelRfl
set_option linter.unusedVariables false
set_option linter.unusedSimpArgs false
namespace Go.Proofs.YticodohfokgjfaaDoor
open Go Go.Fx Go.Proofs
def law_CoalWrong (a0 : CoalBook) (a1 : Int) : Option Bool :=
  (coal_Wrong a0).bind fun r12 =>
  (law_sound a0).bind fun r21 =>
  bif !r21 then (bif (r12.2 == 60) then (bif ((r12.1.length : Int) == 0) then ((law_stoked).bind fun r28 =>
  some r28)
  else (some false))
  else (some false))
  else ((coal_Right a0).bind fun r32 =>
  bif (r12.2 != 0) then (some false)
  else (bif (r32.2 != 0) then (some false)
  else ((B_Climbs r12.1 (a0.Dips.length : Int)).bind fun r38 =>
  bif !r38 then (some false)
  else (bif (((r12.1.length : Int) == 0) != r32.1) then (some false)
  else (need (decide (0 ≤ (a0.Dips.length : Int))) <|
  (B_Mod a1 (shlI 1 (a0.Dips.length : Int))).bind fun r45 =>
  (B_Members r45 (a0.Dips.length : Int)).bind fun r50 =>
  (law_without a0 r12.1).bind fun r60 =>
  (coal_Right (CoalBook.mk r60.Heap r60.Eats r60.Extra a0.Days r60.Collier r60.Brings r60.Dips)).bind fun r70 =>
  (law_without a0 r50).bind fun r74 =>
  (coal_Right (CoalBook.mk r74.Heap r74.Eats r74.Extra a0.Days r74.Collier r74.Brings r74.Dips)).bind fun r84 =>
  bif (r70.2 == 0) then (bif (r84.2 == 0) then (bif r70.1 then ((B_Better r50 r12.1).bind fun r91 =>
  bif !r91 then ((law_stoked).bind fun r96 =>
  some r96)
  else (bif !r84.1 then ((law_stoked).bind fun r101 =>
  some r101)
  else (some false)))
  else (some false))
  else (some false))
  else (some false))))))

set_option maxRecDepth 100000 in
theorem law_CoalWrong_ok {a0 : CoalBook} {a1 : Int} {A1 : Option Addr} {c2 : Nat} {A4 : Option Addr} {c5 : Nat} {w : World} {r : Bool} (H : law_CoalWrong a0 a1 = some r) (h3 : (rd eCoalDay 3 A1 c2 a0.Days).ok w) (h6 : (rd eCoalDip 3 A4 c5 a0.Dips).ok w) (hg7 : (bl 0 [Value.func (.func 128) #[] #[], Value.func (.func 129) #[] #[]] 110).ok w) (hg8 : (bl 1 [I (-1), I (-1)] 123).ok w) : Calls Tryd.prog 14 #[AG ([I a0.Heap.Low, I a0.Heap.High] ++ (sgE eSpan a0.Eats 2 ++ (sg a0.Extra 3 ++ [SL A1 a0.Days.length c2, I a0.Collier.Low, I a0.Collier.High, I a0.Brings, SL A4 a0.Dips.length c5]))), I a1] w (RetV w (B r)) := by
  unfold law_CoalWrong at H
  refine fn_of (n := 104) Tryd.func14 rfl rfl (Nat.le_of_ble_eq_true rfl) ?_
  have S : St w (fun _ => False) w [] [rd eCoalDay 3 A1 c2 a0.Days, rd eCoalDip 3 A4 c5 a0.Dips, bl 0 [Value.func (.func 128) #[] #[], Value.func (.func 129) #[] #[]] 110, bl 1 [I (-1), I (-1)] 123] := St.start w _ _ (List.forall_mem_cons.2 ⟨h3, (List.forall_mem_cons.2 ⟨h6, (List.forall_mem_cons.2 ⟨hg7, (List.forall_mem_cons.2 ⟨hg8, (fun _ h_ => (List.not_mem_nil h_).elim)⟩)⟩)⟩)⟩)
  refine c_seq ?_
  refine reg ?_
  refine p_boxA rfl S fun b9 w10 S11 => ?_
  refine p_aB rfl ?_
  refine wp_nil ?_
  refine c_seq ?_
  refine reg ?_
  refine p_ldA ty29 sz29 (S11.atX (i := 0) rfl) rfl rfl ?_
  obtain ⟨r12, h13, H⟩ := bindS H
  refine p_cal (coal_Wrong_ok h13 (S11.atP (i := 0) rfl) (S11.atP (i := 1) rfl) (S11.atP (i := 3) rfl)) fu27 rfl ?_
  rintro _ w14 ⟨A16, c17, rfl, k15, ⟨o18, n19⟩, _⟩
  have S20 := S11.callN k15 [rd intE 1 A16 c17 r12.1] (List.forall_mem_cons.2 ⟨⟨o18, Al.inL n19 ((List.forall_mem_cons.2 ⟨(fp_mem (i := 0) rfl), (List.forall_mem_cons.2 ⟨(fp_mem (i := 1) rfl), (fun _ h_ => (List.not_mem_nil h_).elim)⟩)⟩))⟩, (fun _ h_ => (List.not_mem_nil h_).elim)⟩)
  refine p_mT rfl ?_
  refine p_ext rfl rfl ?_
  refine p_ext rfl rfl ?_
  refine p_aS rfl ?_
  refine p_aI rfl ?_
  refine wp_nil ?_
  refine c_seq ?_
  refine c_seq ?_
  refine reg ?_
  refine p_ldA ty29 sz29 (S20.atX (i := 0) rfl) rfl rfl ?_
  obtain ⟨r21, h22, H⟩ := bindS H
  refine p_cv (law_sound_ok h22 (S20.atP (i := 1) rfl) (S20.atP (i := 2) rfl)) fu22 rfl S20 fun w23 S24 => ?_
  refine p_not rfl ?_
  refine wp_nil ?_
  refine c_cond rfl (fun c25 => ?_) (fun c25 => ?_)
  · replace H := condT c25 H
    refine c_seq ?_
    refine reg ?_
    refine p_mI rfl ?_
    refine p_cmp rfl rfl rfl ?_
    refine p_mB rfl ?_
    rcases Bool.eq_false_or_eq_true ((r12.2 == 60)) with c26 | c26
    · replace H := condT c26 H
      refine eB c26 ?_
      refine gT rfl rfl (p_mS rfl ?_)
      refine gT rfl rfl (p_len rfl sc39 ?_)
      refine gT rfl rfl (p_cmp rfl rfl rfl ?_)
      refine p_pkT rfl (rfl : _ = B ((r12.1.length : Int) == 0)) ?_
      refine p_mB rfl ?_
      rcases Bool.eq_false_or_eq_true (((r12.1.length : Int) == 0)) with c27 | c27
      · replace H := condT c27 H
        refine eB c27 ?_
        obtain ⟨r28, h29, H⟩ := bindS H
        refine gT rfl rfl (p_cv (law_stoked_ok h29 (S24.atP (i := 3) rfl) (S24.atP (i := 4) rfl)) fu19 rfl S24 fun w30 S31 => ?_)
        refine p_pkT rfl (rfl : _ = B r28) ?_
        refine p_aB rfl ?_
        refine wp_nil ?_
        obtain rfl := Option.some.inj H
        refine c_ret ?_; show bodyPostM (Fr none) 0 Tryd.prog Tryd.f14 _ .ret _ _
        refine ret_of (res1 rfl (rvT (rfl : _ = B r28))) ?_
        exact ⟨_, rfl, rfl, S31.keep⟩
      · replace H := condF c27 H
        refine eB c27 ?_
        refine gF rfl rfl ?_
        refine p_pkF rfl (rfl : _ = B false) ?_
        refine p_aB rfl ?_
        refine wp_nil ?_
        obtain rfl := Option.some.inj H
        refine c_ret ?_; show bodyPostM (Fr none) 0 Tryd.prog Tryd.f14 _ .ret _ _
        refine ret_of (res1 rfl (rvT (rfl : _ = B false))) ?_
        exact ⟨_, rfl, rfl, S24.keep⟩
    · replace H := condF c26 H
      refine eB c26 ?_
      refine gF rfl rfl ?_
      refine gF rfl rfl ?_
      refine gF rfl rfl ?_
      refine p_pkF rfl (rfl : _ = B false) ?_
      refine p_mB rfl ?_
      refine gF rfl rfl ?_
      refine p_pkF rfl (rfl : _ = B false) ?_
      refine p_aB rfl ?_
      refine wp_nil ?_
      obtain rfl := Option.some.inj H
      refine c_ret ?_; show bodyPostM (Fr none) 0 Tryd.prog Tryd.f14 _ .ret _ _
      refine ret_of (res1 rfl (rvT (rfl : _ = B false))) ?_
      exact ⟨_, rfl, rfl, S24.keep⟩
  · replace H := condF c25 H
    refine c_skip ?_
    refine c_seq ?_
    refine reg ?_
    refine p_ldA ty29 sz29 (S24.atX (i := 0) rfl) rfl rfl ?_
    obtain ⟨r32, h33, H⟩ := bindS H
    refine p_cv (coal_Right_ok h33 (S24.atP (i := 1) rfl) (S24.atP (i := 2) rfl) (S24.atP (i := 4) rfl)) fu26 rfl S24 fun w34 S35 => ?_
    refine p_mT rfl ?_
    refine p_ext rfl rfl ?_
    refine p_ext rfl rfl ?_
    refine p_aB rfl ?_
    refine p_aI rfl ?_
    refine wp_nil ?_
    refine c_seq ?_
    refine c_seq ?_
    refine reg ?_
    refine p_mI rfl ?_
    refine p_cmp rfl rfl rfl ?_
    refine p_mB rfl ?_
    rcases Bool.eq_false_or_eq_true ((r12.2 != 0)) with c36 | c36
    · replace H := condT c36 H
      refine eB c36 ?_
      refine gF rfl rfl ?_
      refine gF rfl rfl ?_
      refine p_pkT rfl (rfl : _ = B true) ?_
      refine p_mB rfl ?_
      refine gF rfl rfl ?_
      refine gF rfl rfl ?_
      refine gF rfl rfl ?_
      refine gF rfl rfl ?_
      refine gF rfl rfl ?_
      refine gF rfl rfl ?_
      refine p_pkT rfl (rfl : _ = B true) ?_
      refine p_mB rfl ?_
      refine gF rfl rfl ?_
      refine gF rfl rfl ?_
      refine gF rfl rfl ?_
      refine gF rfl rfl ?_
      refine gF rfl rfl ?_
      refine p_pkT rfl (rfl : _ = B true) ?_
      refine wp_nil ?_
      refine c_true rfl ?_
      refine c_seq ?_
      refine reg ?_
      refine p_aB rfl ?_
      refine wp_nil ?_
      obtain rfl := Option.some.inj H
      refine c_ret ?_; show bodyPostM (Fr none) 0 Tryd.prog Tryd.f14 _ .ret _ _
      refine ret_of (res1 rfl (rvT (rfl : _ = B false))) ?_
      exact ⟨_, rfl, rfl, S35.keep⟩
    · replace H := condF c36 H
      refine eB c36 ?_
      refine gT rfl rfl (p_mI rfl ?_)
      refine gT rfl rfl (p_cmp rfl rfl rfl ?_)
      refine p_pkF rfl (rfl : _ = B (r32.2 != 0)) ?_
      refine p_mB rfl ?_
      rcases Bool.eq_false_or_eq_true ((r32.2 != 0)) with c37 | c37
      · replace H := condT c37 H
        refine eB c37 ?_
        refine gF rfl rfl ?_
        refine gF rfl rfl ?_
        refine gF rfl rfl ?_
        refine gF rfl rfl ?_
        refine gF rfl rfl ?_
        refine gF rfl rfl ?_
        refine p_pkT rfl (rfl : _ = B true) ?_
        refine p_mB rfl ?_
        refine gF rfl rfl ?_
        refine gF rfl rfl ?_
        refine gF rfl rfl ?_
        refine gF rfl rfl ?_
        refine gF rfl rfl ?_
        refine p_pkT rfl (rfl : _ = B true) ?_
        refine wp_nil ?_
        refine c_true rfl ?_
        refine c_seq ?_
        refine reg ?_
        refine p_aB rfl ?_
        refine wp_nil ?_
        obtain rfl := Option.some.inj H
        refine c_ret ?_; show bodyPostM (Fr none) 0 Tryd.prog Tryd.f14 _ .ret _ _
        refine ret_of (res1 rfl (rvT (rfl : _ = B false))) ?_
        exact ⟨_, rfl, rfl, S35.keep⟩
      · replace H := condF c37 H
        refine eB c37 ?_
        refine gT rfl rfl (p_mS rfl ?_)
        refine gT rfl rfl (p_fld fl29_6 rfl ?_)
        refine gT rfl rfl (p_ld ty27 (S35.atX (i := 0) rfl) rfl rfl ?_)
        refine gT rfl rfl (p_len rfl sc27 ?_)
        obtain ⟨r38, h39, H⟩ := bindS H
        refine gT rfl rfl (p_cv (B_Climbs_ok h39 (S35.atP (i := 0) rfl)) fu46 rfl S35 fun w40 S41 => ?_)
        refine gT rfl rfl (p_not rfl ?_)
        refine p_pkF rfl (rfl : _ = B (!r38)) ?_
        refine p_mB rfl ?_
        rcases Bool.eq_false_or_eq_true (!r38) with c42 | c42
        · replace H := condT c42 H
          refine eB c42 ?_
          refine gF rfl rfl ?_
          refine gF rfl rfl ?_
          refine gF rfl rfl ?_
          refine gF rfl rfl ?_
          refine gF rfl rfl ?_
          refine p_pkT rfl (rfl : _ = B true) ?_
          refine wp_nil ?_
          refine c_true rfl ?_
          refine c_seq ?_
          refine reg ?_
          refine p_aB rfl ?_
          refine wp_nil ?_
          obtain rfl := Option.some.inj H
          refine c_ret ?_; show bodyPostM (Fr none) 0 Tryd.prog Tryd.f14 _ .ret _ _
          refine ret_of (res1 rfl (rvT (rfl : _ = B false))) ?_
          exact ⟨_, rfl, rfl, S41.keep⟩
        · replace H := condF c42 H
          refine eB c42 ?_
          refine gT rfl rfl (p_mS rfl ?_)
          refine gT rfl rfl (p_len rfl sc39 ?_)
          refine gT rfl rfl (p_cmp rfl rfl rfl ?_)
          refine gT rfl rfl (p_mB rfl ?_)
          refine gT rfl rfl (o_neB rfl rfl ub4 ?_)
          refine p_pkF rfl (rfl : _ = B (((r12.1.length : Int) == 0) != r32.1)) ?_
          refine wp_nil ?_
          refine c_cond rfl (fun c43 => ?_) (fun c43 => ?_)
          · replace H := condT c43 H
            refine c_seq ?_
            refine reg ?_
            refine p_aB rfl ?_
            refine wp_nil ?_
            obtain rfl := Option.some.inj H
            refine c_ret ?_; show bodyPostM (Fr none) 0 Tryd.prog Tryd.f14 _ .ret _ _
            refine ret_of (res1 rfl (rvT (rfl : _ = B false))) ?_
            exact ⟨_, rfl, rfl, S41.keep⟩
          · replace H := condF c43 H
            refine c_skip ?_
            refine c_seq ?_
            obtain ⟨h44, H⟩ := needS H
            obtain ⟨r45, h46, H⟩ := bindS H
            refine reg_q mixed 9 (by kernel_rfl) ?_
            refine dS (fun _ k_ => p_mI rfl dn) ?_
            refine dS (fun _ k_ => p_fld fl29_6 rfl dn) ?_
            refine dS (fun _ k_ => p_ld ty27 (Asr.stays (S41.atX (i := 0) rfl) k_) rfl rfl dn) ?_
            refine dS (fun _ k_ => p_len rfl sc27 dn) ?_
            refine dS (fun _ k_ => p_shl h44 rfl rfl dn) ?_
            refine dS (fun _ k_ => p_cvD (B_Mod_ok h46) fu25 rfl) ?_
            refine dS (fun _ k_ => p_fld fl29_6 rfl dn) ?_
            refine dS (fun _ k_ => p_ld ty27 (Asr.stays (S41.atX (i := 0) rfl) k_) rfl rfl dn) ?_
            refine dS (fun _ k_ => p_len rfl sc27 dn) ?_
            intro w47 k48; have S49 := S41.call k48
            obtain ⟨r50, h51, H⟩ := bindS H
            refine p_cal (B_Members_ok h51) fu47 rfl ?_
            rintro _ w52 ⟨A54, c55, rfl, k53, ⟨o56, n57⟩, _⟩
            have S59 := S49.addNew k53 o56 n57
            refine p_aS rfl ?_
            refine wp_nil ?_
            refine c_seq ?_
            refine reg ?_
            refine p_ldA ty29 sz29 (S59.atX (i := 1) rfl) rfl rfl ?_
            refine p_mS rfl ?_
            obtain ⟨r60, h61, H⟩ := bindS H
            refine p_cal (law_without_ok h61 (S59.atP (i := 1) rfl) (S59.atP (i := 2) rfl) (S59.atP (i := 0) rfl)) fu48 rfl ?_
            rintro _ w62 ⟨A64, c65, rfl, k63, ⟨o66, n67⟩, _⟩
            have S69 := S59.addNew k63 o66 n67
            obtain ⟨r70, h71, H⟩ := bindS H
            refine p_cv (coal_Right_ok h71 (S69.atP (i := 1) rfl) (gr_rd eCoalDip_len (S69.atX (i := 0) rfl)) (S69.atP (i := 4) rfl)) fu26 rfl S69 fun w72 S73 => ?_
            refine p_mT rfl ?_
            refine p_ext rfl rfl ?_
            refine p_ext rfl rfl ?_
            refine p_aB rfl ?_
            refine p_aI rfl ?_
            refine wp_nil ?_
            refine c_seq ?_
            refine reg ?_
            refine p_ldA ty29 sz29 (S73.atX (i := 2) rfl) rfl rfl ?_
            refine p_mS rfl ?_
            obtain ⟨r74, h75, H⟩ := bindS H
            refine p_cal (law_without_ok h75 (S73.atP (i := 1) rfl) (S73.atP (i := 2) rfl) (gr_rd intE_len (S73.atX (i := 1) rfl))) fu48 rfl ?_
            rintro _ w76 ⟨A78, c79, rfl, k77, ⟨o80, n81⟩, _⟩
            have S83 := S73.addNew k77 o80 n81
            obtain ⟨r84, h85, H⟩ := bindS H
            refine p_cv (coal_Right_ok h85 (S83.atP (i := 1) rfl) (gr_rd eCoalDip_len (S83.atX (i := 0) rfl)) (S83.atP (i := 4) rfl)) fu26 rfl S83 fun w86 S87 => ?_
            refine p_mT rfl ?_
            refine p_ext rfl rfl ?_
            refine p_ext rfl rfl ?_
            refine p_aB rfl ?_
            refine p_aI rfl ?_
            refine wp_nil ?_
            refine c_seq ?_
            refine reg ?_
            refine p_mI rfl ?_
            refine p_cmp rfl rfl rfl ?_
            refine p_mB rfl ?_
            rcases Bool.eq_false_or_eq_true ((r70.2 == 0)) with c88 | c88
            · replace H := condT c88 H
              refine eB c88 ?_
              refine gT rfl rfl (p_mI rfl ?_)
              refine gT rfl rfl (p_cmp rfl rfl rfl ?_)
              refine p_pkT rfl (rfl : _ = B (r84.2 == 0)) ?_
              refine p_mB rfl ?_
              rcases Bool.eq_false_or_eq_true ((r84.2 == 0)) with c89 | c89
              · replace H := condT c89 H
                refine eB c89 ?_
                refine gT rfl rfl (p_mB rfl ?_)
                refine p_pkT rfl (rfl : _ = B r70.1) ?_
                refine p_mB rfl ?_
                rcases Bool.eq_false_or_eq_true (r70.1) with c90 | c90
                · replace H := condT c90 H
                  refine eB c90 ?_
                  refine gT rfl rfl (p_mS rfl ?_)
                  refine gT rfl rfl (p_mS rfl ?_)
                  obtain ⟨r91, h92, H⟩ := bindS H
                  refine gT rfl rfl (p_cv (B_Better_ok h92 (gr_rd intE_len (S87.atX (i := 2) rfl)) (S87.atP (i := 0) rfl)) fu49 rfl S87 fun w93 S94 => ?_)
                  refine gT rfl rfl (p_not rfl ?_)
                  refine gT rfl rfl (p_mB rfl ?_)
                  rcases Bool.eq_false_or_eq_true (!r91) with c95 | c95
                  · replace H := condT c95 H
                    refine eB c95 ?_
                    refine gF rfl rfl ?_
                    refine gF rfl rfl ?_
                    refine gT rfl rfl (p_pkT rfl (rfl : _ = B true) ?_)
                    refine p_pkT rfl (rfl : _ = B true) ?_
                    refine p_mB rfl ?_
                    obtain ⟨r96, h97, H⟩ := bindS H
                    refine gT rfl rfl (p_cv (law_stoked_ok h97 (S94.atP (i := 3) rfl) (S94.atP (i := 4) rfl)) fu19 rfl S94 fun w98 S99 => ?_)
                    refine p_pkT rfl (rfl : _ = B r96) ?_
                    refine p_aB rfl ?_
                    refine wp_nil ?_
                    obtain rfl := Option.some.inj H
                    refine c_ret ?_; show bodyPostM (Fr none) 0 Tryd.prog Tryd.f14 _ .ret _ _
                    refine ret_of (res1 rfl (rvT (rfl : _ = B r96))) ?_
                    exact ⟨_, rfl, rfl, S99.keep⟩
                  · replace H := condF c95 H
                    refine eB c95 ?_
                    refine gT rfl rfl (p_mB rfl ?_)
                    refine gT rfl rfl (p_not rfl ?_)
                    refine gT rfl rfl (p_pkF rfl (rfl : _ = B (!r84.1)) ?_)
                    refine p_pkT rfl (rfl : _ = B (!r84.1)) ?_
                    refine p_mB rfl ?_
                    rcases Bool.eq_false_or_eq_true (!r84.1) with c100 | c100
                    · replace H := condT c100 H
                      refine eB c100 ?_
                      obtain ⟨r101, h102, H⟩ := bindS H
                      refine gT rfl rfl (p_cv (law_stoked_ok h102 (S94.atP (i := 3) rfl) (S94.atP (i := 4) rfl)) fu19 rfl S94 fun w103 S104 => ?_)
                      refine p_pkT rfl (rfl : _ = B r101) ?_
                      refine p_aB rfl ?_
                      refine wp_nil ?_
                      obtain rfl := Option.some.inj H
                      refine c_ret ?_; show bodyPostM (Fr none) 0 Tryd.prog Tryd.f14 _ .ret _ _
                      refine ret_of (res1 rfl (rvT (rfl : _ = B r101))) ?_
                      exact ⟨_, rfl, rfl, S104.keep⟩
                    · replace H := condF c100 H
                      refine eB c100 ?_
                      refine gF rfl rfl ?_
                      refine p_pkF rfl (rfl : _ = B false) ?_
                      refine p_aB rfl ?_
                      refine wp_nil ?_
                      obtain rfl := Option.some.inj H
                      refine c_ret ?_; show bodyPostM (Fr none) 0 Tryd.prog Tryd.f14 _ .ret _ _
                      refine ret_of (res1 rfl (rvT (rfl : _ = B false))) ?_
                      exact ⟨_, rfl, rfl, S94.keep⟩
                · replace H := condF c90 H
                  refine eB c90 ?_
                  refine gF rfl rfl ?_
                  refine gF rfl rfl ?_
                  refine gF rfl rfl ?_
                  refine gF rfl rfl ?_
                  refine gF rfl rfl ?_
                  refine o_guardU rfl rfl ?_
                  refine o_guardU rfl rfl ?_
                  refine gF rfl rfl ?_
                  refine p_pkF rfl (rfl : _ = B false) ?_
                  refine p_mB rfl ?_
                  refine gF rfl rfl ?_
                  refine p_pkF rfl (rfl : _ = B false) ?_
                  refine p_aB rfl ?_
                  refine wp_nil ?_
                  obtain rfl := Option.some.inj H
                  refine c_ret ?_; show bodyPostM (Fr none) 0 Tryd.prog Tryd.f14 _ .ret _ _
                  refine ret_of (res1 rfl (rvT (rfl : _ = B false))) ?_
                  exact ⟨_, rfl, rfl, S87.keep⟩
              · replace H := condF c89 H
                refine eB c89 ?_
                refine gF rfl rfl ?_
                refine p_pkF rfl (rfl : _ = B false) ?_
                refine p_mB rfl ?_
                refine gF rfl rfl ?_
                refine gF rfl rfl ?_
                refine gF rfl rfl ?_
                refine gF rfl rfl ?_
                refine gF rfl rfl ?_
                refine o_guardU rfl rfl ?_
                refine o_guardU rfl rfl ?_
                refine gF rfl rfl ?_
                refine p_pkF rfl (rfl : _ = B false) ?_
                refine p_mB rfl ?_
                refine gF rfl rfl ?_
                refine p_pkF rfl (rfl : _ = B false) ?_
                refine p_aB rfl ?_
                refine wp_nil ?_
                obtain rfl := Option.some.inj H
                refine c_ret ?_; show bodyPostM (Fr none) 0 Tryd.prog Tryd.f14 _ .ret _ _
                refine ret_of (res1 rfl (rvT (rfl : _ = B false))) ?_
                exact ⟨_, rfl, rfl, S87.keep⟩
            · replace H := condF c88 H
              refine eB c88 ?_
              refine gF rfl rfl ?_
              refine gF rfl rfl ?_
              refine p_pkF rfl (rfl : _ = B false) ?_
              refine p_mB rfl ?_
              refine gF rfl rfl ?_
              refine p_pkF rfl (rfl : _ = B false) ?_
              refine p_mB rfl ?_
              refine gF rfl rfl ?_
              refine gF rfl rfl ?_
              refine gF rfl rfl ?_
              refine gF rfl rfl ?_
              refine gF rfl rfl ?_
              refine o_guardU rfl rfl ?_
              refine o_guardU rfl rfl ?_
              refine gF rfl rfl ?_
              refine p_pkF rfl (rfl : _ = B false) ?_
              refine p_mB rfl ?_
              refine gF rfl rfl ?_
              refine p_pkF rfl (rfl : _ = B false) ?_
              refine p_aB rfl ?_
              refine wp_nil ?_
              obtain rfl := Option.some.inj H
              refine c_ret ?_; show bodyPostM (Fr none) 0 Tryd.prog Tryd.f14 _ .ret _ _
              refine ret_of (res1 rfl (rvT (rfl : _ = B false))) ?_
              exact ⟨_, rfl, rfl, S87.keep⟩

end Go.Proofs.YticodohfokgjfaaDoor

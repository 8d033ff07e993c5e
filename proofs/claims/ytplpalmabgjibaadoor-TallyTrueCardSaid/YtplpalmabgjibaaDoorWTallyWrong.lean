/- What the law's function computes, and that it does, printed by a program of mine. -/
import Derived.Test.YtplpalmabgjibaaDoorWC
set_option linter.unusedVariables false
set_option linter.unusedSimpArgs false
namespace Go.Proofs.YtplpalmabgjibaaDoor
open Go Go.Fx Go.Proofs
def law_TallyWrong (a0 : TallyBook) (a1 : Int) : Option Bool :=
  (tally_Wrong a0).bind fun r9 =>
  (law_sound a0).bind fun r18 =>
  bif !r18 then (bif (r9.2 == 50) then (bif ((r9.1.length : Int) == 0) then ((law_counted).bind fun r25 =>
  some r25)
  else (some false))
  else (some false))
  else ((tally_Right a0).bind fun r29 =>
  bif (r9.2 != 0) then (some false)
  else (bif (r29.2 != 0) then (some false)
  else ((B_Climbs r9.1 (a0.Counts.length : Int)).bind fun r35 =>
  bif !r35 then (some false)
  else (bif (((r9.1.length : Int) == 0) != r29.1) then (some false)
  else (need (decide (0 ≤ (a0.Counts.length : Int))) <|
  (B_Mod a1 (shlI 1 (a0.Counts.length : Int))).bind fun r42 =>
  (B_Members r42 (a0.Counts.length : Int)).bind fun r47 =>
  (law_without a0 r9.1).bind fun r57 =>
  (tally_Right r57).bind fun r67 =>
  (law_without a0 r47).bind fun r71 =>
  (tally_Right r71).bind fun r81 =>
  bif (r67.2 == 0) then (bif (r81.2 == 0) then (bif r67.1 then ((B_Better r47 r9.1).bind fun r88 =>
  bif !r88 then ((law_counted).bind fun r93 =>
  some r93)
  else (bif !r81.1 then ((law_counted).bind fun r98 =>
  some r98)
  else (some false)))
  else (some false))
  else (some false))
  else (some false))))))

set_option maxRecDepth 100000 in
theorem law_TallyWrong_ok {a0 : TallyBook} {a1 : Int} {A1 : Option Addr} {c2 : Nat} {w : World} {r : Bool} (H : law_TallyWrong a0 a1 = some r) (h3 : (rd eTallyCount 7 A1 c2 a0.Counts).ok w) (hg4 : (bl 0 [Value.func (.func 117) #[] #[], Value.func (.func 119) #[] #[]] 117).ok w) (hg5 : (bl 1 [I (-1), I (-1)] 115).ok w) : Calls Tryd.prog 11 #[AG [I a0.Trips, I a0.Room, SL A1 a0.Counts.length c2], I a1] w (RetV w (B r)) := by
  unfold law_TallyWrong at H
  refine fn_of (n := 104) Tryd.func11 rfl rfl (Nat.le_of_ble_eq_true rfl) ?_
  have S : St w (fun _ => False) w [] [rd eTallyCount 7 A1 c2 a0.Counts, bl 0 [Value.func (.func 117) #[] #[], Value.func (.func 119) #[] #[]] 117, bl 1 [I (-1), I (-1)] 115] := St.start w _ _ (List.forall_mem_cons.2 ⟨h3, (List.forall_mem_cons.2 ⟨hg4, (List.forall_mem_cons.2 ⟨hg5, (fun _ h_ => (List.not_mem_nil h_).elim)⟩)⟩)⟩)
  refine c_seq ?_
  refine reg ?_
  refine p_boxA rfl S fun b6 w7 S8 => ?_
  refine p_aB rfl ?_
  refine wp_nil ?_
  refine c_seq ?_
  refine reg ?_
  refine p_ldA ty24 sz24 (S8.atX (i := 0) rfl) rfl rfl ?_
  obtain ⟨r9, h10, H⟩ := bindS H
  refine p_cal (tally_Wrong_ok h10 (S8.atP (i := 0) rfl) (S8.atP (i := 1) rfl) (S8.atP (i := 2) rfl)) fu30 rfl ?_
  rintro _ w11 ⟨A13, c14, rfl, k12, ⟨o15, n16⟩, _⟩
  have S17 := S8.callN k12 [rd intE 1 A13 c14 r9.1] (List.forall_mem_cons.2 ⟨⟨o15, Al.inL n16 ((List.forall_mem_cons.2 ⟨(fp_mem (i := 0) rfl), (fun _ h_ => (List.not_mem_nil h_).elim)⟩))⟩, (fun _ h_ => (List.not_mem_nil h_).elim)⟩)
  refine p_mT rfl ?_
  refine p_ext rfl rfl ?_
  refine p_ext rfl rfl ?_
  refine p_aS rfl ?_
  refine p_aI rfl ?_
  refine wp_nil ?_
  refine c_seq ?_
  refine c_seq ?_
  refine reg ?_
  refine p_ldA ty24 sz24 (S17.atX (i := 0) rfl) rfl rfl ?_
  obtain ⟨r18, h19, H⟩ := bindS H
  refine p_cv (law_sound_ok h19 (S17.atP (i := 1) rfl)) fu24 rfl S17 fun w20 S21 => ?_
  refine p_not rfl ?_
  refine wp_nil ?_
  refine c_cond rfl (fun c22 => ?_) (fun c22 => ?_)
  · replace H := condT c22 H
    refine c_seq ?_
    refine reg ?_
    refine p_mI rfl ?_
    refine p_cmp rfl rfl rfl ?_
    refine p_mB rfl ?_
    rcases Bool.eq_false_or_eq_true ((r9.2 == 50)) with c23 | c23
    · replace H := condT c23 H
      refine eB c23 ?_
      refine gT rfl rfl (p_mS rfl ?_)
      refine gT rfl rfl (p_len rfl sc31 ?_)
      refine gT rfl rfl (p_cmp rfl rfl rfl ?_)
      refine p_pkT rfl (rfl : _ = B ((r9.1.length : Int) == 0)) ?_
      refine p_mB rfl ?_
      rcases Bool.eq_false_or_eq_true (((r9.1.length : Int) == 0)) with c24 | c24
      · replace H := condT c24 H
        refine eB c24 ?_
        obtain ⟨r25, h26, H⟩ := bindS H
        refine gT rfl rfl (p_cv (law_counted_ok h26 (S21.atP (i := 2) rfl) (S21.atP (i := 3) rfl)) fu19 rfl S21 fun w27 S28 => ?_)
        refine p_pkT rfl (rfl : _ = B r25) ?_
        refine p_aB rfl ?_
        refine wp_nil ?_
        obtain rfl := Option.some.inj H
        refine c_ret ?_; show bodyPostM (Fr none) 0 Tryd.prog Tryd.f11 _ .ret _ _
        refine ret_of (res1 rfl (rvT (rfl : _ = B r25))) ?_
        exact ⟨_, rfl, rfl, S28.keep⟩
      · replace H := condF c24 H
        refine eB c24 ?_
        refine gF rfl rfl ?_
        refine p_pkF rfl (rfl : _ = B false) ?_
        refine p_aB rfl ?_
        refine wp_nil ?_
        obtain rfl := Option.some.inj H
        refine c_ret ?_; show bodyPostM (Fr none) 0 Tryd.prog Tryd.f11 _ .ret _ _
        refine ret_of (res1 rfl (rvT (rfl : _ = B false))) ?_
        exact ⟨_, rfl, rfl, S21.keep⟩
    · replace H := condF c23 H
      refine eB c23 ?_
      refine gF rfl rfl ?_
      refine gF rfl rfl ?_
      refine gF rfl rfl ?_
      refine p_pkF rfl (rfl : _ = B false) ?_
      refine p_mB rfl ?_
      refine gF rfl rfl ?_
      refine p_pkF rfl (rfl : _ = B false) ?_
      refine p_aB rfl ?_
      refine wp_nil ?_
      obtain rfl := Option.some.inj H
      refine c_ret ?_; show bodyPostM (Fr none) 0 Tryd.prog Tryd.f11 _ .ret _ _
      refine ret_of (res1 rfl (rvT (rfl : _ = B false))) ?_
      exact ⟨_, rfl, rfl, S21.keep⟩
  · replace H := condF c22 H
    refine c_skip ?_
    refine c_seq ?_
    refine reg ?_
    refine p_ldA ty24 sz24 (S21.atX (i := 0) rfl) rfl rfl ?_
    obtain ⟨r29, h30, H⟩ := bindS H
    refine p_cv (tally_Right_ok h30 (S21.atP (i := 1) rfl) (S21.atP (i := 2) rfl) (S21.atP (i := 3) rfl)) fu28 rfl S21 fun w31 S32 => ?_
    refine p_mT rfl ?_
    refine p_ext rfl rfl ?_
    refine p_ext rfl rfl ?_
    refine p_aB rfl ?_
    refine p_aI rfl ?_
    refine wp_nil ?_
    refine c_seq ?_
    refine c_seq ?_
    refine reg ?_
    refine p_mI rfl ?_
    refine p_cmp rfl rfl rfl ?_
    refine p_mB rfl ?_
    rcases Bool.eq_false_or_eq_true ((r9.2 != 0)) with c33 | c33
    · replace H := condT c33 H
      refine eB c33 ?_
      refine gF rfl rfl ?_
      refine gF rfl rfl ?_
      refine p_pkT rfl (rfl : _ = B true) ?_
      refine p_mB rfl ?_
      refine gF rfl rfl ?_
      refine gF rfl rfl ?_
      refine gF rfl rfl ?_
      refine gF rfl rfl ?_
      refine gF rfl rfl ?_
      refine gF rfl rfl ?_
      refine p_pkT rfl (rfl : _ = B true) ?_
      refine p_mB rfl ?_
      refine gF rfl rfl ?_
      refine gF rfl rfl ?_
      refine gF rfl rfl ?_
      refine gF rfl rfl ?_
      refine gF rfl rfl ?_
      refine p_pkT rfl (rfl : _ = B true) ?_
      refine wp_nil ?_
      refine c_true rfl ?_
      refine c_seq ?_
      refine reg ?_
      refine p_aB rfl ?_
      refine wp_nil ?_
      obtain rfl := Option.some.inj H
      refine c_ret ?_; show bodyPostM (Fr none) 0 Tryd.prog Tryd.f11 _ .ret _ _
      refine ret_of (res1 rfl (rvT (rfl : _ = B false))) ?_
      exact ⟨_, rfl, rfl, S32.keep⟩
    · replace H := condF c33 H
      refine eB c33 ?_
      refine gT rfl rfl (p_mI rfl ?_)
      refine gT rfl rfl (p_cmp rfl rfl rfl ?_)
      refine p_pkF rfl (rfl : _ = B (r29.2 != 0)) ?_
      refine p_mB rfl ?_
      rcases Bool.eq_false_or_eq_true ((r29.2 != 0)) with c34 | c34
      · replace H := condT c34 H
        refine eB c34 ?_
        refine gF rfl rfl ?_
        refine gF rfl rfl ?_
        refine gF rfl rfl ?_
        refine gF rfl rfl ?_
        refine gF rfl rfl ?_
        refine gF rfl rfl ?_
        refine p_pkT rfl (rfl : _ = B true) ?_
        refine p_mB rfl ?_
        refine gF rfl rfl ?_
        refine gF rfl rfl ?_
        refine gF rfl rfl ?_
        refine gF rfl rfl ?_
        refine gF rfl rfl ?_
        refine p_pkT rfl (rfl : _ = B true) ?_
        refine wp_nil ?_
        refine c_true rfl ?_
        refine c_seq ?_
        refine reg ?_
        refine p_aB rfl ?_
        refine wp_nil ?_
        obtain rfl := Option.some.inj H
        refine c_ret ?_; show bodyPostM (Fr none) 0 Tryd.prog Tryd.f11 _ .ret _ _
        refine ret_of (res1 rfl (rvT (rfl : _ = B false))) ?_
        exact ⟨_, rfl, rfl, S32.keep⟩
      · replace H := condF c34 H
        refine eB c34 ?_
        refine gT rfl rfl (p_mS rfl ?_)
        refine gT rfl rfl (p_fld fl24_2 rfl ?_)
        refine gT rfl rfl (p_ld ty22 (S32.atX (i := 0) rfl) rfl rfl ?_)
        refine gT rfl rfl (p_len rfl sc22 ?_)
        obtain ⟨r35, h36, H⟩ := bindS H
        refine gT rfl rfl (p_cv (B_Climbs_ok h36 (S32.atP (i := 0) rfl)) fu45 rfl S32 fun w37 S38 => ?_)
        refine gT rfl rfl (p_not rfl ?_)
        refine p_pkF rfl (rfl : _ = B (!r35)) ?_
        refine p_mB rfl ?_
        rcases Bool.eq_false_or_eq_true (!r35) with c39 | c39
        · replace H := condT c39 H
          refine eB c39 ?_
          refine gF rfl rfl ?_
          refine gF rfl rfl ?_
          refine gF rfl rfl ?_
          refine gF rfl rfl ?_
          refine gF rfl rfl ?_
          refine p_pkT rfl (rfl : _ = B true) ?_
          refine wp_nil ?_
          refine c_true rfl ?_
          refine c_seq ?_
          refine reg ?_
          refine p_aB rfl ?_
          refine wp_nil ?_
          obtain rfl := Option.some.inj H
          refine c_ret ?_; show bodyPostM (Fr none) 0 Tryd.prog Tryd.f11 _ .ret _ _
          refine ret_of (res1 rfl (rvT (rfl : _ = B false))) ?_
          exact ⟨_, rfl, rfl, S38.keep⟩
        · replace H := condF c39 H
          refine eB c39 ?_
          refine gT rfl rfl (p_mS rfl ?_)
          refine gT rfl rfl (p_len rfl sc31 ?_)
          refine gT rfl rfl (p_cmp rfl rfl rfl ?_)
          refine gT rfl rfl (p_mB rfl ?_)
          refine gT rfl rfl (o_neB rfl rfl ub4 ?_)
          refine p_pkF rfl (rfl : _ = B (((r9.1.length : Int) == 0) != r29.1)) ?_
          refine wp_nil ?_
          refine c_cond rfl (fun c40 => ?_) (fun c40 => ?_)
          · replace H := condT c40 H
            refine c_seq ?_
            refine reg ?_
            refine p_aB rfl ?_
            refine wp_nil ?_
            obtain rfl := Option.some.inj H
            refine c_ret ?_; show bodyPostM (Fr none) 0 Tryd.prog Tryd.f11 _ .ret _ _
            refine ret_of (res1 rfl (rvT (rfl : _ = B false))) ?_
            exact ⟨_, rfl, rfl, S38.keep⟩
          · replace H := condF c40 H
            refine c_skip ?_
            refine c_seq ?_
            obtain ⟨h41, H⟩ := needS H
            obtain ⟨r42, h43, H⟩ := bindS H
            refine reg_q mixed 9 (by kernel_rfl) ?_
            refine dS (fun _ k_ => p_mI rfl dn) ?_
            refine dS (fun _ k_ => p_fld fl24_2 rfl dn) ?_
            refine dS (fun _ k_ => p_ld ty22 (Asr.stays (S38.atX (i := 0) rfl) k_) rfl rfl dn) ?_
            refine dS (fun _ k_ => p_len rfl sc22 dn) ?_
            refine dS (fun _ k_ => p_shl h41 rfl rfl dn) ?_
            refine dS (fun _ k_ => p_cvD (B_Mod_ok h43) fu27 rfl) ?_
            refine dS (fun _ k_ => p_fld fl24_2 rfl dn) ?_
            refine dS (fun _ k_ => p_ld ty22 (Asr.stays (S38.atX (i := 0) rfl) k_) rfl rfl dn) ?_
            refine dS (fun _ k_ => p_len rfl sc22 dn) ?_
            intro w44 k45; have S46 := S38.call k45
            obtain ⟨r47, h48, H⟩ := bindS H
            refine p_cal (B_Members_ok h48) fu46 rfl ?_
            rintro _ w49 ⟨A51, c52, rfl, k50, ⟨o53, n54⟩, _⟩
            have S56 := S46.addNew k50 o53 n54
            refine p_aS rfl ?_
            refine wp_nil ?_
            refine c_seq ?_
            refine reg ?_
            refine p_ldA ty24 sz24 (S56.atX (i := 1) rfl) rfl rfl ?_
            refine p_mS rfl ?_
            obtain ⟨r57, h58, H⟩ := bindS H
            refine p_cal (law_without_ok h58 (S56.atP (i := 1) rfl) (S56.atP (i := 0) rfl)) fu47 rfl ?_
            rintro _ w59 ⟨A61, c62, rfl, k60, ⟨o63, n64⟩, _⟩
            have S66 := S56.addNew k60 o63 n64
            obtain ⟨r67, h68, H⟩ := bindS H
            refine p_cv (tally_Right_ok h68 (gr_rd eTallyCount_len (S66.atX (i := 0) rfl)) (S66.atP (i := 2) rfl) (S66.atP (i := 3) rfl)) fu28 rfl S66 fun w69 S70 => ?_
            refine p_mT rfl ?_
            refine p_ext rfl rfl ?_
            refine p_ext rfl rfl ?_
            refine p_aB rfl ?_
            refine p_aI rfl ?_
            refine wp_nil ?_
            refine c_seq ?_
            refine reg ?_
            refine p_ldA ty24 sz24 (S70.atX (i := 2) rfl) rfl rfl ?_
            refine p_mS rfl ?_
            obtain ⟨r71, h72, H⟩ := bindS H
            refine p_cal (law_without_ok h72 (S70.atP (i := 1) rfl) (gr_rd intE_len (S70.atX (i := 1) rfl))) fu47 rfl ?_
            rintro _ w73 ⟨A75, c76, rfl, k74, ⟨o77, n78⟩, _⟩
            have S80 := S70.addNew k74 o77 n78
            obtain ⟨r81, h82, H⟩ := bindS H
            refine p_cv (tally_Right_ok h82 (gr_rd eTallyCount_len (S80.atX (i := 0) rfl)) (S80.atP (i := 2) rfl) (S80.atP (i := 3) rfl)) fu28 rfl S80 fun w83 S84 => ?_
            refine p_mT rfl ?_
            refine p_ext rfl rfl ?_
            refine p_ext rfl rfl ?_
            refine p_aB rfl ?_
            refine p_aI rfl ?_
            refine wp_nil ?_
            refine c_seq ?_
            refine reg ?_
            refine p_mI rfl ?_
            refine p_cmp rfl rfl rfl ?_
            refine p_mB rfl ?_
            rcases Bool.eq_false_or_eq_true ((r67.2 == 0)) with c85 | c85
            · replace H := condT c85 H
              refine eB c85 ?_
              refine gT rfl rfl (p_mI rfl ?_)
              refine gT rfl rfl (p_cmp rfl rfl rfl ?_)
              refine p_pkT rfl (rfl : _ = B (r81.2 == 0)) ?_
              refine p_mB rfl ?_
              rcases Bool.eq_false_or_eq_true ((r81.2 == 0)) with c86 | c86
              · replace H := condT c86 H
                refine eB c86 ?_
                refine gT rfl rfl (p_mB rfl ?_)
                refine p_pkT rfl (rfl : _ = B r67.1) ?_
                refine p_mB rfl ?_
                rcases Bool.eq_false_or_eq_true (r67.1) with c87 | c87
                · replace H := condT c87 H
                  refine eB c87 ?_
                  refine gT rfl rfl (p_mS rfl ?_)
                  refine gT rfl rfl (p_mS rfl ?_)
                  obtain ⟨r88, h89, H⟩ := bindS H
                  refine gT rfl rfl (p_cv (B_Better_ok h89 (gr_rd intE_len (S84.atX (i := 2) rfl)) (S84.atP (i := 0) rfl)) fu48 rfl S84 fun w90 S91 => ?_)
                  refine gT rfl rfl (p_not rfl ?_)
                  refine gT rfl rfl (p_mB rfl ?_)
                  rcases Bool.eq_false_or_eq_true (!r88) with c92 | c92
                  · replace H := condT c92 H
                    refine eB c92 ?_
                    refine gF rfl rfl ?_
                    refine gF rfl rfl ?_
                    refine gT rfl rfl (p_pkT rfl (rfl : _ = B true) ?_)
                    refine p_pkT rfl (rfl : _ = B true) ?_
                    refine p_mB rfl ?_
                    obtain ⟨r93, h94, H⟩ := bindS H
                    refine gT rfl rfl (p_cv (law_counted_ok h94 (S91.atP (i := 2) rfl) (S91.atP (i := 3) rfl)) fu19 rfl S91 fun w95 S96 => ?_)
                    refine p_pkT rfl (rfl : _ = B r93) ?_
                    refine p_aB rfl ?_
                    refine wp_nil ?_
                    obtain rfl := Option.some.inj H
                    refine c_ret ?_; show bodyPostM (Fr none) 0 Tryd.prog Tryd.f11 _ .ret _ _
                    refine ret_of (res1 rfl (rvT (rfl : _ = B r93))) ?_
                    exact ⟨_, rfl, rfl, S96.keep⟩
                  · replace H := condF c92 H
                    refine eB c92 ?_
                    refine gT rfl rfl (p_mB rfl ?_)
                    refine gT rfl rfl (p_not rfl ?_)
                    refine gT rfl rfl (p_pkF rfl (rfl : _ = B (!r81.1)) ?_)
                    refine p_pkT rfl (rfl : _ = B (!r81.1)) ?_
                    refine p_mB rfl ?_
                    rcases Bool.eq_false_or_eq_true (!r81.1) with c97 | c97
                    · replace H := condT c97 H
                      refine eB c97 ?_
                      obtain ⟨r98, h99, H⟩ := bindS H
                      refine gT rfl rfl (p_cv (law_counted_ok h99 (S91.atP (i := 2) rfl) (S91.atP (i := 3) rfl)) fu19 rfl S91 fun w100 S101 => ?_)
                      refine p_pkT rfl (rfl : _ = B r98) ?_
                      refine p_aB rfl ?_
                      refine wp_nil ?_
                      obtain rfl := Option.some.inj H
                      refine c_ret ?_; show bodyPostM (Fr none) 0 Tryd.prog Tryd.f11 _ .ret _ _
                      refine ret_of (res1 rfl (rvT (rfl : _ = B r98))) ?_
                      exact ⟨_, rfl, rfl, S101.keep⟩
                    · replace H := condF c97 H
                      refine eB c97 ?_
                      refine gF rfl rfl ?_
                      refine p_pkF rfl (rfl : _ = B false) ?_
                      refine p_aB rfl ?_
                      refine wp_nil ?_
                      obtain rfl := Option.some.inj H
                      refine c_ret ?_; show bodyPostM (Fr none) 0 Tryd.prog Tryd.f11 _ .ret _ _
                      refine ret_of (res1 rfl (rvT (rfl : _ = B false))) ?_
                      exact ⟨_, rfl, rfl, S91.keep⟩
                · replace H := condF c87 H
                  refine eB c87 ?_
                  refine gF rfl rfl ?_
                  refine gF rfl rfl ?_
                  refine gF rfl rfl ?_
                  refine gF rfl rfl ?_
                  refine gF rfl rfl ?_
                  refine o_guardU rfl rfl ?_
                  refine o_guardU rfl rfl ?_
                  refine gF rfl rfl ?_
                  refine p_pkF rfl (rfl : _ = B false) ?_
                  refine p_mB rfl ?_
                  refine gF rfl rfl ?_
                  refine p_pkF rfl (rfl : _ = B false) ?_
                  refine p_aB rfl ?_
                  refine wp_nil ?_
                  obtain rfl := Option.some.inj H
                  refine c_ret ?_; show bodyPostM (Fr none) 0 Tryd.prog Tryd.f11 _ .ret _ _
                  refine ret_of (res1 rfl (rvT (rfl : _ = B false))) ?_
                  exact ⟨_, rfl, rfl, S84.keep⟩
              · replace H := condF c86 H
                refine eB c86 ?_
                refine gF rfl rfl ?_
                refine p_pkF rfl (rfl : _ = B false) ?_
                refine p_mB rfl ?_
                refine gF rfl rfl ?_
                refine gF rfl rfl ?_
                refine gF rfl rfl ?_
                refine gF rfl rfl ?_
                refine gF rfl rfl ?_
                refine o_guardU rfl rfl ?_
                refine o_guardU rfl rfl ?_
                refine gF rfl rfl ?_
                refine p_pkF rfl (rfl : _ = B false) ?_
                refine p_mB rfl ?_
                refine gF rfl rfl ?_
                refine p_pkF rfl (rfl : _ = B false) ?_
                refine p_aB rfl ?_
                refine wp_nil ?_
                obtain rfl := Option.some.inj H
                refine c_ret ?_; show bodyPostM (Fr none) 0 Tryd.prog Tryd.f11 _ .ret _ _
                refine ret_of (res1 rfl (rvT (rfl : _ = B false))) ?_
                exact ⟨_, rfl, rfl, S84.keep⟩
            · replace H := condF c85 H
              refine eB c85 ?_
              refine gF rfl rfl ?_
              refine gF rfl rfl ?_
              refine p_pkF rfl (rfl : _ = B false) ?_
              refine p_mB rfl ?_
              refine gF rfl rfl ?_
              refine p_pkF rfl (rfl : _ = B false) ?_
              refine p_mB rfl ?_
              refine gF rfl rfl ?_
              refine gF rfl rfl ?_
              refine gF rfl rfl ?_
              refine gF rfl rfl ?_
              refine gF rfl rfl ?_
              refine o_guardU rfl rfl ?_
              refine o_guardU rfl rfl ?_
              refine gF rfl rfl ?_
              refine p_pkF rfl (rfl : _ = B false) ?_
              refine p_mB rfl ?_
              refine gF rfl rfl ?_
              refine p_pkF rfl (rfl : _ = B false) ?_
              refine p_aB rfl ?_
              refine wp_nil ?_
              obtain rfl := Option.some.inj H
              refine c_ret ?_; show bodyPostM (Fr none) 0 Tryd.prog Tryd.f11 _ .ret _ _
              refine ret_of (res1 rfl (rvT (rfl : _ = B false))) ?_
              exact ⟨_, rfl, rfl, S84.keep⟩

end Go.Proofs.YtplpalmabgjibaaDoor

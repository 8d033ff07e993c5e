/- What the law's function computes, and that it does, printed by a program of mine. -/
import Derived.Test.YtplpalmabgjibaaDoorWC
set_option linter.unusedVariables false
set_option linter.unusedSimpArgs false
namespace Go.Proofs.YtplpalmabgjibaaDoor
open Go Go.Fx Go.Proofs
def law_TallyTrue (a0 : TallyBook) (a1 : List Int) (a2 : List Int) : Option Bool :=
  (law_sound a0).bind fun r15 =>
  bif !r15 then ((law_counted).bind fun r20 =>
  some r20)
  else ((law_truly a0 a1).bind fun r24 =>
  (law_rightly a0 r24 (aget a2 0)).bind fun r34 =>
  (B_Mod (aget a2 1) a0.Trips).bind fun r49 =>
  (B_Mod (aget a2 2) (wr (a0.Trips - r49))).bind fun r53 =>
  (tally_Right r34).bind fun r57 =>
  (tally_Can r34 r24).bind fun r61 =>
  (tally_Wrong r34).bind fun r66 =>
  (tally_Whose r34).bind fun r75 =>
  (tally_Many r34 r49 (wr (r49 + r53))).bind fun r84 =>
  (tally_Pays r34 3).bind fun r93 =>
  bif (r57.2 == 0) then (bif (r61.2 == 0) then (bif (r66.2 == 0) then (bif (r75.2 == 0) then (bif (r84.2 == 0) then (bif (r93.2 == 0) then (bif r57.1 then (bif r61.1 then (bif ((r66.1.length : Int) == 0) then (bif ((r75.1.length : Int) == 3) then ((cutI r24 r49 (wr ((wr (r49 + r53)) + 1))).bind fun r112 =>
  (B_SumOf r112).bind fun r114 =>
  (B_Contains r84.1 r114).bind fun r116 =>
  bif r116 then ((B_SumOf r24).bind fun r119 =>
  (B_Contains r93.1 (wr (3 * r119))).bind fun r121 =>
  bif r121 then ((law_counted).bind fun r124 =>
  some r124)
  else (some false))
  else (some false))
  else (some false))
  else (some false))
  else (some false))
  else (some false))
  else (some false))
  else (some false))
  else (some false))
  else (some false))
  else (some false))
  else (some false))

set_option maxRecDepth 100000 in
theorem law_TallyTrue_ok {a0 : TallyBook} {a1 : List Int} {a2 : List Int} {A1 : Option Addr} {c2 : Nat} {A4 : Option Addr} {c5 : Nat} {w : World} {r : Bool} (H : law_TallyTrue a0 a1 a2 = some r) (h3 : (rd eTallyCount 7 A1 c2 a0.Counts).ok w) (h6 : (rd intE 1 A4 c5 a1).ok w) (hg7 : (bl 0 [Value.func (.func 117) #[] #[], Value.func (.func 119) #[] #[]] 117).ok w) (hg8 : (bl 1 [I (-1), I (-1)] 115).ok w) : Calls Tryd.prog 6 #[AG [I a0.Trips, I a0.Room, SL A1 a0.Counts.length c2], SL A4 a1.length c5, AG (sg a2 3)] w (RetV w (B r)) := by
  unfold law_TallyTrue at H
  refine fn_of (n := 140) Tryd.func6 rfl rfl (Nat.le_of_ble_eq_true rfl) ?_
  have S : St w (fun _ => False) w [] [rd eTallyCount 7 A1 c2 a0.Counts, rd intE 1 A4 c5 a1, bl 0 [Value.func (.func 117) #[] #[], Value.func (.func 119) #[] #[]] 117, bl 1 [I (-1), I (-1)] 115] := St.start w _ _ (List.forall_mem_cons.2 ⟨h3, (List.forall_mem_cons.2 ⟨h6, (List.forall_mem_cons.2 ⟨hg7, (List.forall_mem_cons.2 ⟨hg8, (fun _ h_ => (List.not_mem_nil h_).elim)⟩)⟩)⟩)⟩)
  refine c_seq ?_
  refine reg ?_
  refine p_boxA rfl S fun b9 w10 S11 => ?_
  refine p_boxA rfl S11 fun b12 w13 S14 => ?_
  refine p_aB rfl ?_
  refine wp_nil ?_
  refine c_seq ?_
  refine c_seq ?_
  refine reg ?_
  refine p_ldA ty24 sz24 (S14.atX (i := 1) rfl) rfl rfl ?_
  obtain ⟨r15, h16, H⟩ := bindS H
  refine p_cv (law_sound_ok h16 (S14.atP (i := 0) rfl)) fu24 rfl S14 fun w17 S18 => ?_
  refine p_not rfl ?_
  refine wp_nil ?_
  refine c_cond rfl (fun c19 => ?_) (fun c19 => ?_)
  · replace H := condT c19 H
    refine c_seq ?_
    refine reg ?_
    obtain ⟨r20, h21, H⟩ := bindS H
    refine p_cv (law_counted_ok h21 (S18.atP (i := 2) rfl) (S18.atP (i := 3) rfl)) fu19 rfl S18 fun w22 S23 => ?_
    refine p_aB rfl ?_
    refine wp_nil ?_
    obtain rfl := Option.some.inj H
    refine c_ret ?_; show bodyPostM (Fr none) 0 Tryd.prog Tryd.f6 _ .ret _ _
    refine ret_of (res1 rfl (rvT (rfl : _ = B r20))) ?_
    exact ⟨_, rfl, rfl, S23.keep⟩
  · replace H := condF c19 H
    refine c_skip ?_
    refine c_seq ?_
    refine reg ?_
    refine p_ldA ty24 sz24 (S18.atX (i := 1) rfl) rfl rfl ?_
    refine p_mS rfl ?_
    obtain ⟨r24, h25, H⟩ := bindS H
    refine p_cal (law_truly_ok h25 (S18.atP (i := 0) rfl) (S18.atP (i := 1) rfl)) fu25 rfl ?_
    rintro _ w26 ⟨A28, c29, rfl, k27, ⟨o30, n31⟩, _⟩
    have S33 := S18.addNew k27 o30 n31
    refine p_aS rfl ?_
    refine wp_nil ?_
    refine c_seq ?_
    refine reg ?_
    refine p_ldA ty24 sz24 (S33.atX (i := 2) rfl) rfl rfl ?_
    refine p_mS rfl ?_
    refine p_ixc ar25 rfl rfl (by decide) (by decide) ?_
    refine p_ld ty3 (S33.atX (i := 1) rfl) rfl rfl ?_
    obtain ⟨r34, h35, H⟩ := bindS H
    refine p_cal (law_rightly_ok h35 (S33.atP (i := 0) rfl) (gr_rd intE_len (S33.atX (i := 0) rfl))) fu26 rfl ?_
    rintro _ w36 ⟨A38, c39, rfl, k37, ⟨o40, n41⟩, _⟩
    have S43 := S33.addNew k37 o40 n41
    refine p_allA in24 S43 fun b44 w45 S46 => ?_
    refine p_stP (pre := []) (old := [I 0, I 0, SL none 0 0]) (post := []) (vs := [I r34.Trips, I r34.Room, SL A38 r34.Counts.length c39]) sz24 S46 (i := 0) rfl rfl rfl rfl (rfl : _ = AG [I r34.Trips, I r34.Room, SL A38 r34.Counts.length c39]) rfl rfl rfl rfl fun w47 S48 => ?_
    refine wp_nil ?_
    refine c_seq ?_
    refine reg ?_
    refine p_ixc ar25 rfl rfl (by decide) (by decide) ?_
    refine p_ld ty3 (S48.atX (i := 3) rfl) rfl rfl ?_
    refine p_fld fl24_0 rfl ?_
    refine p_ld ty3 (S48.atX (i := 4) rfl) rfl rfl ?_
    obtain ⟨r49, h50, H⟩ := bindS H
    refine p_cv (B_Mod_ok h50) fu27 rfl S48 fun w51 S52 => ?_
    refine p_aI rfl ?_
    refine wp_nil ?_
    refine c_seq ?_
    refine reg ?_
    refine p_mI rfl ?_
    refine p_ixc ar25 rfl rfl (by decide) (by decide) ?_
    refine p_ld ty3 (S52.atX (i := 3) rfl) rfl rfl ?_
    refine p_fld fl24_0 rfl ?_
    refine p_ld ty3 (S52.atX (i := 4) rfl) rfl rfl ?_
    refine p_mI rfl ?_
    refine p_sub rfl rfl ?_
    obtain ⟨r53, h54, H⟩ := bindS H
    refine p_cv (B_Mod_ok h54) fu27 rfl S52 fun w55 S56 => ?_
    refine p_add rfl rfl ?_
    refine p_aI rfl ?_
    refine wp_nil ?_
    refine c_seq ?_
    refine reg ?_
    refine p_ldA ty24 sz24 (S56.atX (i := 0) rfl) rfl rfl ?_
    obtain ⟨r57, h58, H⟩ := bindS H
    refine p_cv (tally_Right_ok h58 (gr_rd eTallyCount_len (S56.atX (i := 1) rfl)) (S56.atP (i := 2) rfl) (S56.atP (i := 3) rfl)) fu28 rfl S56 fun w59 S60 => ?_
    refine p_mT rfl ?_
    refine p_ext rfl rfl ?_
    refine p_ext rfl rfl ?_
    refine p_aB rfl ?_
    refine p_aI rfl ?_
    refine wp_nil ?_
    refine c_seq ?_
    refine reg ?_
    refine p_ldA ty24 sz24 (S60.atX (i := 0) rfl) rfl rfl ?_
    refine p_mS rfl ?_
    obtain ⟨r61, h62, H⟩ := bindS H
    refine p_cv (tally_Can_ok h62 (gr_rd eTallyCount_len (S60.atX (i := 1) rfl)) (gr_rd intE_len (S60.atX (i := 2) rfl)) (S60.atP (i := 2) rfl)) fu29 rfl S60 fun w63 S64 => ?_
    refine p_mT rfl ?_
    refine p_ext rfl rfl ?_
    refine p_ext rfl rfl ?_
    refine p_aB rfl ?_
    refine p_aI rfl ?_
    refine wp_nil ?_
    refine c_seq ?_
    refine reg ?_
    refine p_ldA ty24 sz24 (S64.atX (i := 0) rfl) rfl rfl ?_
    have S65 := S64.fixRd eTallyCount_len (i := 1) rfl
    obtain ⟨r66, h67, H⟩ := bindS H
    refine p_cal (tally_Wrong_ok h67 (S65.atP (i := 0) rfl) (S65.atP (i := 3) rfl) (S65.atP (i := 4) rfl)) fu30 rfl ?_
    rintro _ w68 ⟨A70, c71, rfl, k69, ⟨o72, n73⟩, _⟩
    have S74 := S65.callN k69 [rd intE 1 A70 c71 r66.1] (List.forall_mem_cons.2 ⟨⟨o72, Al.inL n73 ((List.forall_mem_cons.2 ⟨(fp_mem (i := 0) rfl), (fun _ h_ => (List.not_mem_nil h_).elim)⟩))⟩, (fun _ h_ => (List.not_mem_nil h_).elim)⟩)
    refine p_mT rfl ?_
    refine p_ext rfl rfl ?_
    refine p_ext rfl rfl ?_
    refine p_aS rfl ?_
    refine p_aI rfl ?_
    refine wp_nil ?_
    refine c_seq ?_
    refine reg ?_
    refine p_ldA ty24 sz24 (S74.atX (i := 0) rfl) rfl rfl ?_
    obtain ⟨r75, h76, H⟩ := bindS H
    refine p_cal (tally_Whose_ok h76 (S74.atP (i := 1) rfl) (S74.atP (i := 4) rfl) (S74.atP (i := 5) rfl)) fu31 rfl ?_
    rintro _ w77 ⟨A79, c80, rfl, k78, ⟨o81, n82⟩, _⟩
    have S83 := S74.callN k78 [rd intE 1 A79 c80 r75.1] (List.forall_mem_cons.2 ⟨⟨o81, New.inL n82⟩, (fun _ h_ => (List.not_mem_nil h_).elim)⟩)
    refine p_mT rfl ?_
    refine p_ext rfl rfl ?_
    refine p_ext rfl rfl ?_
    refine p_aS rfl ?_
    refine p_aI rfl ?_
    refine wp_nil ?_
    refine c_seq ?_
    refine reg ?_
    refine p_ldA ty24 sz24 (S83.atX (i := 0) rfl) rfl rfl ?_
    refine p_mI rfl ?_
    refine p_mI rfl ?_
    obtain ⟨r84, h85, H⟩ := bindS H
    refine p_cv (tally_Many_ok h85 (S83.atP (i := 2) rfl) (S83.atP (i := 5) rfl) (S83.atP (i := 6) rfl)) fu32 rfl S83 fun w86 S87 => ?_
    refine p_mT rfl ?_
    refine p_ext rfl rfl ?_
    refine p_ext rfl rfl ?_
    refine p_allA in49 S87 fun b88 w89 S90 => ?_
    refine p_stP (pre := []) (old := [I 0, I 0]) (post := []) (vs := [I r84.1.Low, I r84.1.High]) sz49 S90 (i := 0) rfl rfl rfl rfl (rfl : _ = AG [I r84.1.Low, I r84.1.High]) rfl rfl rfl rfl fun w91 S92 => ?_
    refine p_aI rfl ?_
    refine wp_nil ?_
    refine c_seq ?_
    refine reg ?_
    refine p_ldA ty24 sz24 (S92.atX (i := 1) rfl) rfl rfl ?_
    obtain ⟨r93, h94, H⟩ := bindS H
    refine p_cv (tally_Pays_ok h94 (S92.atP (i := 2) rfl) (S92.atP (i := 5) rfl) (S92.atP (i := 6) rfl)) fu33 rfl S92 fun w95 S96 => ?_
    refine p_mT rfl ?_
    refine p_ext rfl rfl ?_
    refine p_ext rfl rfl ?_
    refine p_allA in49 S96 fun b97 w98 S99 => ?_
    refine p_stP (pre := []) (old := [I 0, I 0]) (post := []) (vs := [I r93.1.Low, I r93.1.High]) sz49 S99 (i := 0) rfl rfl rfl rfl (rfl : _ = AG [I r93.1.Low, I r93.1.High]) rfl rfl rfl rfl fun w100 S101 => ?_
    refine p_aI rfl ?_
    refine wp_nil ?_
    refine c_seq ?_
    rcases Bool.eq_false_or_eq_true ((r57.2 == 0)) with c102 | c102
    · replace H := condT c102 H
      rcases Bool.eq_false_or_eq_true ((r61.2 == 0)) with c103 | c103
      · replace H := condT c103 H
        rcases Bool.eq_false_or_eq_true ((r66.2 == 0)) with c104 | c104
        · replace H := condT c104 H
          rcases Bool.eq_false_or_eq_true ((r75.2 == 0)) with c105 | c105
          · replace H := condT c105 H
            rcases Bool.eq_false_or_eq_true ((r84.2 == 0)) with c106 | c106
            · replace H := condT c106 H
              rcases Bool.eq_false_or_eq_true ((r93.2 == 0)) with c107 | c107
              · replace H := condT c107 H
                rcases Bool.eq_false_or_eq_true (r57.1) with c108 | c108
                · replace H := condT c108 H
                  rcases Bool.eq_false_or_eq_true (r61.1) with c109 | c109
                  · replace H := condT c109 H
                    rcases Bool.eq_false_or_eq_true (((r66.1.length : Int) == 0)) with c110 | c110
                    · replace H := condT c110 H
                      rcases Bool.eq_false_or_eq_true (((r75.1.length : Int) == 3)) with c111 | c111
                      · replace H := condT c111 H
                        obtain ⟨r112, h113, H⟩ := bindS H
                        obtain ⟨r114, h115, H⟩ := bindS H
                        obtain ⟨r116, h117, H⟩ := bindS H
                        rcases Bool.eq_false_or_eq_true (r116) with c118 | c118
                        · replace H := condT c118 H
                          obtain ⟨r119, h120, H⟩ := bindS H
                          obtain ⟨r121, h122, H⟩ := bindS H
                          rcases Bool.eq_false_or_eq_true (r121) with c123 | c123
                          · replace H := condT c123 H
                            obtain ⟨r124, h125, H⟩ := bindS H
                            refine reg_q mixed 59 (by kernel_rfl) ?_
                            refine dS (fun _ k_ => p_mI rfl dn) ?_
                            refine dS (fun _ k_ => p_cmp rfl rfl rfl dn) ?_
                            refine dS (fun _ k_ => p_mB rfl dn) ?_
                            refine dB c102 ?_
                            refine dS (fun _ k_ => gT rfl rfl (p_mI rfl dn)) ?_
                            refine dS (fun _ k_ => gT rfl rfl (p_cmp rfl rfl rfl dn)) ?_
                            refine dS (fun _ k_ => p_pkT rfl (rfl : _ = B (r61.2 == 0)) dn) ?_
                            refine dS (fun _ k_ => p_mB rfl dn) ?_
                            refine dB c103 ?_
                            refine dS (fun _ k_ => gT rfl rfl (p_mI rfl dn)) ?_
                            refine dS (fun _ k_ => gT rfl rfl (p_cmp rfl rfl rfl dn)) ?_
                            refine dS (fun _ k_ => p_pkT rfl (rfl : _ = B (r66.2 == 0)) dn) ?_
                            refine dS (fun _ k_ => p_mB rfl dn) ?_
                            refine dB c104 ?_
                            refine dS (fun _ k_ => gT rfl rfl (p_mI rfl dn)) ?_
                            refine dS (fun _ k_ => gT rfl rfl (p_cmp rfl rfl rfl dn)) ?_
                            refine dS (fun _ k_ => p_pkT rfl (rfl : _ = B (r75.2 == 0)) dn) ?_
                            refine dS (fun _ k_ => p_mB rfl dn) ?_
                            refine dB c105 ?_
                            refine dS (fun _ k_ => gT rfl rfl (p_mI rfl dn)) ?_
                            refine dS (fun _ k_ => gT rfl rfl (p_cmp rfl rfl rfl dn)) ?_
                            refine dS (fun _ k_ => p_pkT rfl (rfl : _ = B (r84.2 == 0)) dn) ?_
                            refine dS (fun _ k_ => p_mB rfl dn) ?_
                            refine dB c106 ?_
                            refine dS (fun _ k_ => gT rfl rfl (p_mI rfl dn)) ?_
                            refine dS (fun _ k_ => gT rfl rfl (p_cmp rfl rfl rfl dn)) ?_
                            refine dS (fun _ k_ => p_pkT rfl (rfl : _ = B (r93.2 == 0)) dn) ?_
                            refine dS (fun _ k_ => p_mB rfl dn) ?_
                            refine dB c107 ?_
                            refine dS (fun _ k_ => gT rfl rfl (p_mB rfl dn)) ?_
                            refine dS (fun _ k_ => p_pkT rfl (rfl : _ = B r57.1) dn) ?_
                            refine dS (fun _ k_ => p_mB rfl dn) ?_
                            refine dB c108 ?_
                            refine dS (fun _ k_ => gT rfl rfl (p_mB rfl dn)) ?_
                            refine dS (fun _ k_ => p_pkT rfl (rfl : _ = B r61.1) dn) ?_
                            refine dS (fun _ k_ => p_mB rfl dn) ?_
                            refine dB c109 ?_
                            refine dS (fun _ k_ => gT rfl rfl (p_mS rfl dn)) ?_
                            refine dS (fun _ k_ => gT rfl rfl (p_len rfl sc31 dn)) ?_
                            refine dS (fun _ k_ => gT rfl rfl (p_cmp rfl rfl rfl dn)) ?_
                            refine dS (fun _ k_ => p_pkT rfl (rfl : _ = B ((r66.1.length : Int) == 0)) dn) ?_
                            refine dS (fun _ k_ => p_mB rfl dn) ?_
                            refine dB c110 ?_
                            refine dS (fun _ k_ => gT rfl rfl (p_mS rfl dn)) ?_
                            refine dS (fun _ k_ => gT rfl rfl (p_len rfl sc31 dn)) ?_
                            refine dS (fun _ k_ => gT rfl rfl (p_cmp rfl rfl rfl dn)) ?_
                            refine dS (fun _ k_ => p_pkT rfl (rfl : _ = B ((r75.1.length : Int) == 3)) dn) ?_
                            refine dS (fun _ k_ => p_mB rfl dn) ?_
                            refine dB c111 ?_
                            refine dS (fun _ k_ => gT rfl rfl (p_ldA ty49 sz49 (Asr.stays (S101.atX (i := 1) rfl) k_) rfl rfl dn)) ?_
                            refine dS (fun _ k_ => gT rfl rfl (p_mS rfl dn)) ?_
                            refine dS (fun _ k_ => gT rfl rfl (p_mI rfl dn)) ?_
                            refine dS (fun _ k_ => gT rfl rfl (p_mI rfl dn)) ?_
                            refine dS (fun _ k_ => gT rfl rfl (p_add rfl rfl dn)) ?_
                            refine dS (fun _ k_ => gT rfl rfl (p_cut sc31 h113 (gr_rd intE_len (Asr.stays (S101.atX (i := 3) rfl) k_)) rfl rfl rfl dn)) ?_
                            refine dS (fun _ k_ => gT rfl rfl (p_cvD (B_SumOf_ok h115 (rd_cut h113 (gr_rd intE_len (Asr.stays (S101.atX (i := 3) rfl) k_)))) fu35 rfl)) ?_
                            refine dS (fun _ k_ => gT rfl rfl (p_cvD (B_Contains_ok h117) fu34 rfl)) ?_
                            refine dS (fun _ k_ => p_pkT rfl (rfl : _ = B r116) dn) ?_
                            refine dS (fun _ k_ => p_mB rfl dn) ?_
                            refine dB c118 ?_
                            refine dS (fun _ k_ => gT rfl rfl (p_ldA ty49 sz49 (Asr.stays (S101.atX (i := 0) rfl) k_) rfl rfl dn)) ?_
                            refine dS (fun _ k_ => gT rfl rfl (p_mS rfl dn)) ?_
                            refine dS (fun _ k_ => gT rfl rfl (p_cvD (B_SumOf_ok h120 (gr_rd intE_len (Asr.stays (S101.atX (i := 3) rfl) k_))) fu35 rfl)) ?_
                            refine dS (fun _ k_ => gT rfl rfl (p_mul rfl rfl dn)) ?_
                            refine dS (fun _ k_ => gT rfl rfl (p_cvD (B_Contains_ok h122) fu34 rfl)) ?_
                            refine dS (fun _ k_ => p_pkT rfl (rfl : _ = B r121) dn) ?_
                            refine dS (fun _ k_ => p_mB rfl dn) ?_
                            refine dB c123 ?_
                            refine dS (fun _ k_ => gT rfl rfl (p_cvD (law_counted_ok h125 (Asr.stays (S101.atP (i := 5) rfl) k_) (Asr.stays (S101.atP (i := 6) rfl) k_)) fu19 rfl)) ?_
                            refine dS (fun _ k_ => p_pkT rfl (rfl : _ = B r124) dn) ?_
                            refine dS (fun _ k_ => p_aB rfl dn) ?_
                            intro w126 k127; have S128 := S101.call k127
                            refine wp_nil ?_
                            obtain rfl := Option.some.inj H
                            refine c_ret ?_; show bodyPostM (Fr none) 0 Tryd.prog Tryd.f6 _ .ret _ _
                            refine ret_of (res1 rfl (rvT (rfl : _ = B r124))) ?_
                            exact ⟨_, rfl, rfl, S128.keep⟩
                          · replace H := condF c123 H
                            refine reg_q mixed 59 (by kernel_rfl) ?_
                            refine dS (fun _ k_ => p_mI rfl dn) ?_
                            refine dS (fun _ k_ => p_cmp rfl rfl rfl dn) ?_
                            refine dS (fun _ k_ => p_mB rfl dn) ?_
                            refine dB c102 ?_
                            refine dS (fun _ k_ => gT rfl rfl (p_mI rfl dn)) ?_
                            refine dS (fun _ k_ => gT rfl rfl (p_cmp rfl rfl rfl dn)) ?_
                            refine dS (fun _ k_ => p_pkT rfl (rfl : _ = B (r61.2 == 0)) dn) ?_
                            refine dS (fun _ k_ => p_mB rfl dn) ?_
                            refine dB c103 ?_
                            refine dS (fun _ k_ => gT rfl rfl (p_mI rfl dn)) ?_
                            refine dS (fun _ k_ => gT rfl rfl (p_cmp rfl rfl rfl dn)) ?_
                            refine dS (fun _ k_ => p_pkT rfl (rfl : _ = B (r66.2 == 0)) dn) ?_
                            refine dS (fun _ k_ => p_mB rfl dn) ?_
                            refine dB c104 ?_
                            refine dS (fun _ k_ => gT rfl rfl (p_mI rfl dn)) ?_
                            refine dS (fun _ k_ => gT rfl rfl (p_cmp rfl rfl rfl dn)) ?_
                            refine dS (fun _ k_ => p_pkT rfl (rfl : _ = B (r75.2 == 0)) dn) ?_
                            refine dS (fun _ k_ => p_mB rfl dn) ?_
                            refine dB c105 ?_
                            refine dS (fun _ k_ => gT rfl rfl (p_mI rfl dn)) ?_
                            refine dS (fun _ k_ => gT rfl rfl (p_cmp rfl rfl rfl dn)) ?_
                            refine dS (fun _ k_ => p_pkT rfl (rfl : _ = B (r84.2 == 0)) dn) ?_
                            refine dS (fun _ k_ => p_mB rfl dn) ?_
                            refine dB c106 ?_
                            refine dS (fun _ k_ => gT rfl rfl (p_mI rfl dn)) ?_
                            refine dS (fun _ k_ => gT rfl rfl (p_cmp rfl rfl rfl dn)) ?_
                            refine dS (fun _ k_ => p_pkT rfl (rfl : _ = B (r93.2 == 0)) dn) ?_
                            refine dS (fun _ k_ => p_mB rfl dn) ?_
                            refine dB c107 ?_
                            refine dS (fun _ k_ => gT rfl rfl (p_mB rfl dn)) ?_
                            refine dS (fun _ k_ => p_pkT rfl (rfl : _ = B r57.1) dn) ?_
                            refine dS (fun _ k_ => p_mB rfl dn) ?_
                            refine dB c108 ?_
                            refine dS (fun _ k_ => gT rfl rfl (p_mB rfl dn)) ?_
                            refine dS (fun _ k_ => p_pkT rfl (rfl : _ = B r61.1) dn) ?_
                            refine dS (fun _ k_ => p_mB rfl dn) ?_
                            refine dB c109 ?_
                            refine dS (fun _ k_ => gT rfl rfl (p_mS rfl dn)) ?_
                            refine dS (fun _ k_ => gT rfl rfl (p_len rfl sc31 dn)) ?_
                            refine dS (fun _ k_ => gT rfl rfl (p_cmp rfl rfl rfl dn)) ?_
                            refine dS (fun _ k_ => p_pkT rfl (rfl : _ = B ((r66.1.length : Int) == 0)) dn) ?_
                            refine dS (fun _ k_ => p_mB rfl dn) ?_
                            refine dB c110 ?_
                            refine dS (fun _ k_ => gT rfl rfl (p_mS rfl dn)) ?_
                            refine dS (fun _ k_ => gT rfl rfl (p_len rfl sc31 dn)) ?_
                            refine dS (fun _ k_ => gT rfl rfl (p_cmp rfl rfl rfl dn)) ?_
                            refine dS (fun _ k_ => p_pkT rfl (rfl : _ = B ((r75.1.length : Int) == 3)) dn) ?_
                            refine dS (fun _ k_ => p_mB rfl dn) ?_
                            refine dB c111 ?_
                            refine dS (fun _ k_ => gT rfl rfl (p_ldA ty49 sz49 (Asr.stays (S101.atX (i := 1) rfl) k_) rfl rfl dn)) ?_
                            refine dS (fun _ k_ => gT rfl rfl (p_mS rfl dn)) ?_
                            refine dS (fun _ k_ => gT rfl rfl (p_mI rfl dn)) ?_
                            refine dS (fun _ k_ => gT rfl rfl (p_mI rfl dn)) ?_
                            refine dS (fun _ k_ => gT rfl rfl (p_add rfl rfl dn)) ?_
                            refine dS (fun _ k_ => gT rfl rfl (p_cut sc31 h113 (gr_rd intE_len (Asr.stays (S101.atX (i := 3) rfl) k_)) rfl rfl rfl dn)) ?_
                            refine dS (fun _ k_ => gT rfl rfl (p_cvD (B_SumOf_ok h115 (rd_cut h113 (gr_rd intE_len (Asr.stays (S101.atX (i := 3) rfl) k_)))) fu35 rfl)) ?_
                            refine dS (fun _ k_ => gT rfl rfl (p_cvD (B_Contains_ok h117) fu34 rfl)) ?_
                            refine dS (fun _ k_ => p_pkT rfl (rfl : _ = B r116) dn) ?_
                            refine dS (fun _ k_ => p_mB rfl dn) ?_
                            refine dB c118 ?_
                            refine dS (fun _ k_ => gT rfl rfl (p_ldA ty49 sz49 (Asr.stays (S101.atX (i := 0) rfl) k_) rfl rfl dn)) ?_
                            refine dS (fun _ k_ => gT rfl rfl (p_mS rfl dn)) ?_
                            refine dS (fun _ k_ => gT rfl rfl (p_cvD (B_SumOf_ok h120 (gr_rd intE_len (Asr.stays (S101.atX (i := 3) rfl) k_))) fu35 rfl)) ?_
                            refine dS (fun _ k_ => gT rfl rfl (p_mul rfl rfl dn)) ?_
                            refine dS (fun _ k_ => gT rfl rfl (p_cvD (B_Contains_ok h122) fu34 rfl)) ?_
                            refine dS (fun _ k_ => p_pkT rfl (rfl : _ = B r121) dn) ?_
                            refine dS (fun _ k_ => p_mB rfl dn) ?_
                            refine dB c123 ?_
                            refine dS (fun _ k_ => gF rfl rfl dnU) ?_
                            refine dS (fun _ k_ => p_pkF rfl (rfl : _ = B false) dn) ?_
                            refine dS (fun _ k_ => p_aB rfl dn) ?_
                            intro w129 k130; have S131 := S101.call k130
                            refine wp_nil ?_
                            obtain rfl := Option.some.inj H
                            refine c_ret ?_; show bodyPostM (Fr none) 0 Tryd.prog Tryd.f6 _ .ret _ _
                            refine ret_of (res1 rfl (rvT (rfl : _ = B false))) ?_
                            exact ⟨_, rfl, rfl, S131.keep⟩
                        · replace H := condF c118 H
                          refine reg_q mixed 59 (by kernel_rfl) ?_
                          refine dS (fun _ k_ => p_mI rfl dn) ?_
                          refine dS (fun _ k_ => p_cmp rfl rfl rfl dn) ?_
                          refine dS (fun _ k_ => p_mB rfl dn) ?_
                          refine dB c102 ?_
                          refine dS (fun _ k_ => gT rfl rfl (p_mI rfl dn)) ?_
                          refine dS (fun _ k_ => gT rfl rfl (p_cmp rfl rfl rfl dn)) ?_
                          refine dS (fun _ k_ => p_pkT rfl (rfl : _ = B (r61.2 == 0)) dn) ?_
                          refine dS (fun _ k_ => p_mB rfl dn) ?_
                          refine dB c103 ?_
                          refine dS (fun _ k_ => gT rfl rfl (p_mI rfl dn)) ?_
                          refine dS (fun _ k_ => gT rfl rfl (p_cmp rfl rfl rfl dn)) ?_
                          refine dS (fun _ k_ => p_pkT rfl (rfl : _ = B (r66.2 == 0)) dn) ?_
                          refine dS (fun _ k_ => p_mB rfl dn) ?_
                          refine dB c104 ?_
                          refine dS (fun _ k_ => gT rfl rfl (p_mI rfl dn)) ?_
                          refine dS (fun _ k_ => gT rfl rfl (p_cmp rfl rfl rfl dn)) ?_
                          refine dS (fun _ k_ => p_pkT rfl (rfl : _ = B (r75.2 == 0)) dn) ?_
                          refine dS (fun _ k_ => p_mB rfl dn) ?_
                          refine dB c105 ?_
                          refine dS (fun _ k_ => gT rfl rfl (p_mI rfl dn)) ?_
                          refine dS (fun _ k_ => gT rfl rfl (p_cmp rfl rfl rfl dn)) ?_
                          refine dS (fun _ k_ => p_pkT rfl (rfl : _ = B (r84.2 == 0)) dn) ?_
                          refine dS (fun _ k_ => p_mB rfl dn) ?_
                          refine dB c106 ?_
                          refine dS (fun _ k_ => gT rfl rfl (p_mI rfl dn)) ?_
                          refine dS (fun _ k_ => gT rfl rfl (p_cmp rfl rfl rfl dn)) ?_
                          refine dS (fun _ k_ => p_pkT rfl (rfl : _ = B (r93.2 == 0)) dn) ?_
                          refine dS (fun _ k_ => p_mB rfl dn) ?_
                          refine dB c107 ?_
                          refine dS (fun _ k_ => gT rfl rfl (p_mB rfl dn)) ?_
                          refine dS (fun _ k_ => p_pkT rfl (rfl : _ = B r57.1) dn) ?_
                          refine dS (fun _ k_ => p_mB rfl dn) ?_
                          refine dB c108 ?_
                          refine dS (fun _ k_ => gT rfl rfl (p_mB rfl dn)) ?_
                          refine dS (fun _ k_ => p_pkT rfl (rfl : _ = B r61.1) dn) ?_
                          refine dS (fun _ k_ => p_mB rfl dn) ?_
                          refine dB c109 ?_
                          refine dS (fun _ k_ => gT rfl rfl (p_mS rfl dn)) ?_
                          refine dS (fun _ k_ => gT rfl rfl (p_len rfl sc31 dn)) ?_
                          refine dS (fun _ k_ => gT rfl rfl (p_cmp rfl rfl rfl dn)) ?_
                          refine dS (fun _ k_ => p_pkT rfl (rfl : _ = B ((r66.1.length : Int) == 0)) dn) ?_
                          refine dS (fun _ k_ => p_mB rfl dn) ?_
                          refine dB c110 ?_
                          refine dS (fun _ k_ => gT rfl rfl (p_mS rfl dn)) ?_
                          refine dS (fun _ k_ => gT rfl rfl (p_len rfl sc31 dn)) ?_
                          refine dS (fun _ k_ => gT rfl rfl (p_cmp rfl rfl rfl dn)) ?_
                          refine dS (fun _ k_ => p_pkT rfl (rfl : _ = B ((r75.1.length : Int) == 3)) dn) ?_
                          refine dS (fun _ k_ => p_mB rfl dn) ?_
                          refine dB c111 ?_
                          refine dS (fun _ k_ => gT rfl rfl (p_ldA ty49 sz49 (Asr.stays (S101.atX (i := 1) rfl) k_) rfl rfl dn)) ?_
                          refine dS (fun _ k_ => gT rfl rfl (p_mS rfl dn)) ?_
                          refine dS (fun _ k_ => gT rfl rfl (p_mI rfl dn)) ?_
                          refine dS (fun _ k_ => gT rfl rfl (p_mI rfl dn)) ?_
                          refine dS (fun _ k_ => gT rfl rfl (p_add rfl rfl dn)) ?_
                          refine dS (fun _ k_ => gT rfl rfl (p_cut sc31 h113 (gr_rd intE_len (Asr.stays (S101.atX (i := 3) rfl) k_)) rfl rfl rfl dn)) ?_
                          refine dS (fun _ k_ => gT rfl rfl (p_cvD (B_SumOf_ok h115 (rd_cut h113 (gr_rd intE_len (Asr.stays (S101.atX (i := 3) rfl) k_)))) fu35 rfl)) ?_
                          refine dS (fun _ k_ => gT rfl rfl (p_cvD (B_Contains_ok h117) fu34 rfl)) ?_
                          refine dS (fun _ k_ => p_pkT rfl (rfl : _ = B r116) dn) ?_
                          refine dS (fun _ k_ => p_mB rfl dn) ?_
                          refine dB c118 ?_
                          refine dS (fun _ k_ => gF rfl rfl dnU) ?_
                          refine dS (fun _ k_ => gF rfl rfl dnU) ?_
                          refine dS (fun _ k_ => gF rfl rfl dnU) ?_
                          refine dS (fun _ k_ => gF rfl rfl dnU) ?_
                          refine dS (fun _ k_ => gF rfl rfl dnU) ?_
                          refine dS (fun _ k_ => p_pkF rfl (rfl : _ = B false) dn) ?_
                          refine dS (fun _ k_ => p_mB rfl dn) ?_
                          refine dS (fun _ k_ => gF rfl rfl dnU) ?_
                          refine dS (fun _ k_ => p_pkF rfl (rfl : _ = B false) dn) ?_
                          refine dS (fun _ k_ => p_aB rfl dn) ?_
                          intro w132 k133; have S134 := S101.call k133
                          refine wp_nil ?_
                          obtain rfl := Option.some.inj H
                          refine c_ret ?_; show bodyPostM (Fr none) 0 Tryd.prog Tryd.f6 _ .ret _ _
                          refine ret_of (res1 rfl (rvT (rfl : _ = B false))) ?_
                          exact ⟨_, rfl, rfl, S134.keep⟩
                      · replace H := condF c111 H
                        refine reg_q mixed 59 (by kernel_rfl) ?_
                        refine dS (fun _ k_ => p_mI rfl dn) ?_
                        refine dS (fun _ k_ => p_cmp rfl rfl rfl dn) ?_
                        refine dS (fun _ k_ => p_mB rfl dn) ?_
                        refine dB c102 ?_
                        refine dS (fun _ k_ => gT rfl rfl (p_mI rfl dn)) ?_
                        refine dS (fun _ k_ => gT rfl rfl (p_cmp rfl rfl rfl dn)) ?_
                        refine dS (fun _ k_ => p_pkT rfl (rfl : _ = B (r61.2 == 0)) dn) ?_
                        refine dS (fun _ k_ => p_mB rfl dn) ?_
                        refine dB c103 ?_
                        refine dS (fun _ k_ => gT rfl rfl (p_mI rfl dn)) ?_
                        refine dS (fun _ k_ => gT rfl rfl (p_cmp rfl rfl rfl dn)) ?_
                        refine dS (fun _ k_ => p_pkT rfl (rfl : _ = B (r66.2 == 0)) dn) ?_
                        refine dS (fun _ k_ => p_mB rfl dn) ?_
                        refine dB c104 ?_
                        refine dS (fun _ k_ => gT rfl rfl (p_mI rfl dn)) ?_
                        refine dS (fun _ k_ => gT rfl rfl (p_cmp rfl rfl rfl dn)) ?_
                        refine dS (fun _ k_ => p_pkT rfl (rfl : _ = B (r75.2 == 0)) dn) ?_
                        refine dS (fun _ k_ => p_mB rfl dn) ?_
                        refine dB c105 ?_
                        refine dS (fun _ k_ => gT rfl rfl (p_mI rfl dn)) ?_
                        refine dS (fun _ k_ => gT rfl rfl (p_cmp rfl rfl rfl dn)) ?_
                        refine dS (fun _ k_ => p_pkT rfl (rfl : _ = B (r84.2 == 0)) dn) ?_
                        refine dS (fun _ k_ => p_mB rfl dn) ?_
                        refine dB c106 ?_
                        refine dS (fun _ k_ => gT rfl rfl (p_mI rfl dn)) ?_
                        refine dS (fun _ k_ => gT rfl rfl (p_cmp rfl rfl rfl dn)) ?_
                        refine dS (fun _ k_ => p_pkT rfl (rfl : _ = B (r93.2 == 0)) dn) ?_
                        refine dS (fun _ k_ => p_mB rfl dn) ?_
                        refine dB c107 ?_
                        refine dS (fun _ k_ => gT rfl rfl (p_mB rfl dn)) ?_
                        refine dS (fun _ k_ => p_pkT rfl (rfl : _ = B r57.1) dn) ?_
                        refine dS (fun _ k_ => p_mB rfl dn) ?_
                        refine dB c108 ?_
                        refine dS (fun _ k_ => gT rfl rfl (p_mB rfl dn)) ?_
                        refine dS (fun _ k_ => p_pkT rfl (rfl : _ = B r61.1) dn) ?_
                        refine dS (fun _ k_ => p_mB rfl dn) ?_
                        refine dB c109 ?_
                        refine dS (fun _ k_ => gT rfl rfl (p_mS rfl dn)) ?_
                        refine dS (fun _ k_ => gT rfl rfl (p_len rfl sc31 dn)) ?_
                        refine dS (fun _ k_ => gT rfl rfl (p_cmp rfl rfl rfl dn)) ?_
                        refine dS (fun _ k_ => p_pkT rfl (rfl : _ = B ((r66.1.length : Int) == 0)) dn) ?_
                        refine dS (fun _ k_ => p_mB rfl dn) ?_
                        refine dB c110 ?_
                        refine dS (fun _ k_ => gT rfl rfl (p_mS rfl dn)) ?_
                        refine dS (fun _ k_ => gT rfl rfl (p_len rfl sc31 dn)) ?_
                        refine dS (fun _ k_ => gT rfl rfl (p_cmp rfl rfl rfl dn)) ?_
                        refine dS (fun _ k_ => p_pkT rfl (rfl : _ = B ((r75.1.length : Int) == 3)) dn) ?_
                        refine dS (fun _ k_ => p_mB rfl dn) ?_
                        refine dB c111 ?_
                        refine dS (fun _ k_ => gF rfl rfl dnU) ?_
                        refine dS (fun _ k_ => gF rfl rfl dnU) ?_
                        refine dS (fun _ k_ => gF rfl rfl dnU) ?_
                        refine dS (fun _ k_ => gF rfl rfl dnU) ?_
                        refine dS (fun _ k_ => gF rfl rfl dnU) ?_
                        refine dS (fun _ k_ => gF rfl rfl dnU) ?_
                        refine dS (fun _ k_ => gF rfl rfl dnU) ?_
                        refine dS (fun _ k_ => gF rfl rfl dnU) ?_
                        refine dS (fun _ k_ => p_pkF rfl (rfl : _ = B false) dn) ?_
                        refine dS (fun _ k_ => p_mB rfl dn) ?_
                        refine dS (fun _ k_ => gF rfl rfl dnU) ?_
                        refine dS (fun _ k_ => gF rfl rfl dnU) ?_
                        refine dS (fun _ k_ => gF rfl rfl dnU) ?_
                        refine dS (fun _ k_ => gF rfl rfl dnU) ?_
                        refine dS (fun _ k_ => gF rfl rfl dnU) ?_
                        refine dS (fun _ k_ => p_pkF rfl (rfl : _ = B false) dn) ?_
                        refine dS (fun _ k_ => p_mB rfl dn) ?_
                        refine dS (fun _ k_ => gF rfl rfl dnU) ?_
                        refine dS (fun _ k_ => p_pkF rfl (rfl : _ = B false) dn) ?_
                        refine dS (fun _ k_ => p_aB rfl dn) ?_
                        intro w135 k136; have S137 := S101.call k136
                        refine wp_nil ?_
                        obtain rfl := Option.some.inj H
                        refine c_ret ?_; show bodyPostM (Fr none) 0 Tryd.prog Tryd.f6 _ .ret _ _
                        refine ret_of (res1 rfl (rvT (rfl : _ = B false))) ?_
                        exact ⟨_, rfl, rfl, S137.keep⟩
                    · replace H := condF c110 H
                      refine reg_q mixed 59 (by kernel_rfl) ?_
                      refine dS (fun _ k_ => p_mI rfl dn) ?_
                      refine dS (fun _ k_ => p_cmp rfl rfl rfl dn) ?_
                      refine dS (fun _ k_ => p_mB rfl dn) ?_
                      refine dB c102 ?_
                      refine dS (fun _ k_ => gT rfl rfl (p_mI rfl dn)) ?_
                      refine dS (fun _ k_ => gT rfl rfl (p_cmp rfl rfl rfl dn)) ?_
                      refine dS (fun _ k_ => p_pkT rfl (rfl : _ = B (r61.2 == 0)) dn) ?_
                      refine dS (fun _ k_ => p_mB rfl dn) ?_
                      refine dB c103 ?_
                      refine dS (fun _ k_ => gT rfl rfl (p_mI rfl dn)) ?_
                      refine dS (fun _ k_ => gT rfl rfl (p_cmp rfl rfl rfl dn)) ?_
                      refine dS (fun _ k_ => p_pkT rfl (rfl : _ = B (r66.2 == 0)) dn) ?_
                      refine dS (fun _ k_ => p_mB rfl dn) ?_
                      refine dB c104 ?_
                      refine dS (fun _ k_ => gT rfl rfl (p_mI rfl dn)) ?_
                      refine dS (fun _ k_ => gT rfl rfl (p_cmp rfl rfl rfl dn)) ?_
                      refine dS (fun _ k_ => p_pkT rfl (rfl : _ = B (r75.2 == 0)) dn) ?_
                      refine dS (fun _ k_ => p_mB rfl dn) ?_
                      refine dB c105 ?_
                      refine dS (fun _ k_ => gT rfl rfl (p_mI rfl dn)) ?_
                      refine dS (fun _ k_ => gT rfl rfl (p_cmp rfl rfl rfl dn)) ?_
                      refine dS (fun _ k_ => p_pkT rfl (rfl : _ = B (r84.2 == 0)) dn) ?_
                      refine dS (fun _ k_ => p_mB rfl dn) ?_
                      refine dB c106 ?_
                      refine dS (fun _ k_ => gT rfl rfl (p_mI rfl dn)) ?_
                      refine dS (fun _ k_ => gT rfl rfl (p_cmp rfl rfl rfl dn)) ?_
                      refine dS (fun _ k_ => p_pkT rfl (rfl : _ = B (r93.2 == 0)) dn) ?_
                      refine dS (fun _ k_ => p_mB rfl dn) ?_
                      refine dB c107 ?_
                      refine dS (fun _ k_ => gT rfl rfl (p_mB rfl dn)) ?_
                      refine dS (fun _ k_ => p_pkT rfl (rfl : _ = B r57.1) dn) ?_
                      refine dS (fun _ k_ => p_mB rfl dn) ?_
                      refine dB c108 ?_
                      refine dS (fun _ k_ => gT rfl rfl (p_mB rfl dn)) ?_
                      refine dS (fun _ k_ => p_pkT rfl (rfl : _ = B r61.1) dn) ?_
                      refine dS (fun _ k_ => p_mB rfl dn) ?_
                      refine dB c109 ?_
                      refine dS (fun _ k_ => gT rfl rfl (p_mS rfl dn)) ?_
                      refine dS (fun _ k_ => gT rfl rfl (p_len rfl sc31 dn)) ?_
                      refine dS (fun _ k_ => gT rfl rfl (p_cmp rfl rfl rfl dn)) ?_
                      refine dS (fun _ k_ => p_pkT rfl (rfl : _ = B ((r66.1.length : Int) == 0)) dn) ?_
                      refine dS (fun _ k_ => p_mB rfl dn) ?_
                      refine dB c110 ?_
                      refine dS (fun _ k_ => gF rfl rfl dnU) ?_
                      refine dS (fun _ k_ => gF rfl rfl dnU) ?_
                      refine dS (fun _ k_ => gF rfl rfl dnU) ?_
                      refine dS (fun _ k_ => p_pkF rfl (rfl : _ = B false) dn) ?_
                      refine dS (fun _ k_ => p_mB rfl dn) ?_
                      refine dS (fun _ k_ => gF rfl rfl dnU) ?_
                      refine dS (fun _ k_ => gF rfl rfl dnU) ?_
                      refine dS (fun _ k_ => gF rfl rfl dnU) ?_
                      refine dS (fun _ k_ => gF rfl rfl dnU) ?_
                      refine dS (fun _ k_ => gF rfl rfl dnU) ?_
                      refine dS (fun _ k_ => gF rfl rfl dnU) ?_
                      refine dS (fun _ k_ => gF rfl rfl dnU) ?_
                      refine dS (fun _ k_ => gF rfl rfl dnU) ?_
                      refine dS (fun _ k_ => p_pkF rfl (rfl : _ = B false) dn) ?_
                      refine dS (fun _ k_ => p_mB rfl dn) ?_
                      refine dS (fun _ k_ => gF rfl rfl dnU) ?_
                      refine dS (fun _ k_ => gF rfl rfl dnU) ?_
                      refine dS (fun _ k_ => gF rfl rfl dnU) ?_
                      refine dS (fun _ k_ => gF rfl rfl dnU) ?_
                      refine dS (fun _ k_ => gF rfl rfl dnU) ?_
                      refine dS (fun _ k_ => p_pkF rfl (rfl : _ = B false) dn) ?_
                      refine dS (fun _ k_ => p_mB rfl dn) ?_
                      refine dS (fun _ k_ => gF rfl rfl dnU) ?_
                      refine dS (fun _ k_ => p_pkF rfl (rfl : _ = B false) dn) ?_
                      refine dS (fun _ k_ => p_aB rfl dn) ?_
                      intro w138 k139; have S140 := S101.call k139
                      refine wp_nil ?_
                      obtain rfl := Option.some.inj H
                      refine c_ret ?_; show bodyPostM (Fr none) 0 Tryd.prog Tryd.f6 _ .ret _ _
                      refine ret_of (res1 rfl (rvT (rfl : _ = B false))) ?_
                      exact ⟨_, rfl, rfl, S140.keep⟩
                  · replace H := condF c109 H
                    refine reg_q mixed 59 (by kernel_rfl) ?_
                    refine dS (fun _ k_ => p_mI rfl dn) ?_
                    refine dS (fun _ k_ => p_cmp rfl rfl rfl dn) ?_
                    refine dS (fun _ k_ => p_mB rfl dn) ?_
                    refine dB c102 ?_
                    refine dS (fun _ k_ => gT rfl rfl (p_mI rfl dn)) ?_
                    refine dS (fun _ k_ => gT rfl rfl (p_cmp rfl rfl rfl dn)) ?_
                    refine dS (fun _ k_ => p_pkT rfl (rfl : _ = B (r61.2 == 0)) dn) ?_
                    refine dS (fun _ k_ => p_mB rfl dn) ?_
                    refine dB c103 ?_
                    refine dS (fun _ k_ => gT rfl rfl (p_mI rfl dn)) ?_
                    refine dS (fun _ k_ => gT rfl rfl (p_cmp rfl rfl rfl dn)) ?_
                    refine dS (fun _ k_ => p_pkT rfl (rfl : _ = B (r66.2 == 0)) dn) ?_
                    refine dS (fun _ k_ => p_mB rfl dn) ?_
                    refine dB c104 ?_
                    refine dS (fun _ k_ => gT rfl rfl (p_mI rfl dn)) ?_
                    refine dS (fun _ k_ => gT rfl rfl (p_cmp rfl rfl rfl dn)) ?_
                    refine dS (fun _ k_ => p_pkT rfl (rfl : _ = B (r75.2 == 0)) dn) ?_
                    refine dS (fun _ k_ => p_mB rfl dn) ?_
                    refine dB c105 ?_
                    refine dS (fun _ k_ => gT rfl rfl (p_mI rfl dn)) ?_
                    refine dS (fun _ k_ => gT rfl rfl (p_cmp rfl rfl rfl dn)) ?_
                    refine dS (fun _ k_ => p_pkT rfl (rfl : _ = B (r84.2 == 0)) dn) ?_
                    refine dS (fun _ k_ => p_mB rfl dn) ?_
                    refine dB c106 ?_
                    refine dS (fun _ k_ => gT rfl rfl (p_mI rfl dn)) ?_
                    refine dS (fun _ k_ => gT rfl rfl (p_cmp rfl rfl rfl dn)) ?_
                    refine dS (fun _ k_ => p_pkT rfl (rfl : _ = B (r93.2 == 0)) dn) ?_
                    refine dS (fun _ k_ => p_mB rfl dn) ?_
                    refine dB c107 ?_
                    refine dS (fun _ k_ => gT rfl rfl (p_mB rfl dn)) ?_
                    refine dS (fun _ k_ => p_pkT rfl (rfl : _ = B r57.1) dn) ?_
                    refine dS (fun _ k_ => p_mB rfl dn) ?_
                    refine dB c108 ?_
                    refine dS (fun _ k_ => gT rfl rfl (p_mB rfl dn)) ?_
                    refine dS (fun _ k_ => p_pkT rfl (rfl : _ = B r61.1) dn) ?_
                    refine dS (fun _ k_ => p_mB rfl dn) ?_
                    refine dB c109 ?_
                    refine dS (fun _ k_ => gF rfl rfl dnU) ?_
                    refine dS (fun _ k_ => gF rfl rfl dnU) ?_
                    refine dS (fun _ k_ => gF rfl rfl dnU) ?_
                    refine dS (fun _ k_ => p_pkF rfl (rfl : _ = B false) dn) ?_
                    refine dS (fun _ k_ => p_mB rfl dn) ?_
                    refine dS (fun _ k_ => gF rfl rfl dnU) ?_
                    refine dS (fun _ k_ => gF rfl rfl dnU) ?_
                    refine dS (fun _ k_ => gF rfl rfl dnU) ?_
                    refine dS (fun _ k_ => p_pkF rfl (rfl : _ = B false) dn) ?_
                    refine dS (fun _ k_ => p_mB rfl dn) ?_
                    refine dS (fun _ k_ => gF rfl rfl dnU) ?_
                    refine dS (fun _ k_ => gF rfl rfl dnU) ?_
                    refine dS (fun _ k_ => gF rfl rfl dnU) ?_
                    refine dS (fun _ k_ => gF rfl rfl dnU) ?_
                    refine dS (fun _ k_ => gF rfl rfl dnU) ?_
                    refine dS (fun _ k_ => gF rfl rfl dnU) ?_
                    refine dS (fun _ k_ => gF rfl rfl dnU) ?_
                    refine dS (fun _ k_ => gF rfl rfl dnU) ?_
                    refine dS (fun _ k_ => p_pkF rfl (rfl : _ = B false) dn) ?_
                    refine dS (fun _ k_ => p_mB rfl dn) ?_
                    refine dS (fun _ k_ => gF rfl rfl dnU) ?_
                    refine dS (fun _ k_ => gF rfl rfl dnU) ?_
                    refine dS (fun _ k_ => gF rfl rfl dnU) ?_
                    refine dS (fun _ k_ => gF rfl rfl dnU) ?_
                    refine dS (fun _ k_ => gF rfl rfl dnU) ?_
                    refine dS (fun _ k_ => p_pkF rfl (rfl : _ = B false) dn) ?_
                    refine dS (fun _ k_ => p_mB rfl dn) ?_
                    refine dS (fun _ k_ => gF rfl rfl dnU) ?_
                    refine dS (fun _ k_ => p_pkF rfl (rfl : _ = B false) dn) ?_
                    refine dS (fun _ k_ => p_aB rfl dn) ?_
                    intro w141 k142; have S143 := S101.call k142
                    refine wp_nil ?_
                    obtain rfl := Option.some.inj H
                    refine c_ret ?_; show bodyPostM (Fr none) 0 Tryd.prog Tryd.f6 _ .ret _ _
                    refine ret_of (res1 rfl (rvT (rfl : _ = B false))) ?_
                    exact ⟨_, rfl, rfl, S143.keep⟩
                · replace H := condF c108 H
                  refine reg_q mixed 59 (by kernel_rfl) ?_
                  refine dS (fun _ k_ => p_mI rfl dn) ?_
                  refine dS (fun _ k_ => p_cmp rfl rfl rfl dn) ?_
                  refine dS (fun _ k_ => p_mB rfl dn) ?_
                  refine dB c102 ?_
                  refine dS (fun _ k_ => gT rfl rfl (p_mI rfl dn)) ?_
                  refine dS (fun _ k_ => gT rfl rfl (p_cmp rfl rfl rfl dn)) ?_
                  refine dS (fun _ k_ => p_pkT rfl (rfl : _ = B (r61.2 == 0)) dn) ?_
                  refine dS (fun _ k_ => p_mB rfl dn) ?_
                  refine dB c103 ?_
                  refine dS (fun _ k_ => gT rfl rfl (p_mI rfl dn)) ?_
                  refine dS (fun _ k_ => gT rfl rfl (p_cmp rfl rfl rfl dn)) ?_
                  refine dS (fun _ k_ => p_pkT rfl (rfl : _ = B (r66.2 == 0)) dn) ?_
                  refine dS (fun _ k_ => p_mB rfl dn) ?_
                  refine dB c104 ?_
                  refine dS (fun _ k_ => gT rfl rfl (p_mI rfl dn)) ?_
                  refine dS (fun _ k_ => gT rfl rfl (p_cmp rfl rfl rfl dn)) ?_
                  refine dS (fun _ k_ => p_pkT rfl (rfl : _ = B (r75.2 == 0)) dn) ?_
                  refine dS (fun _ k_ => p_mB rfl dn) ?_
                  refine dB c105 ?_
                  refine dS (fun _ k_ => gT rfl rfl (p_mI rfl dn)) ?_
                  refine dS (fun _ k_ => gT rfl rfl (p_cmp rfl rfl rfl dn)) ?_
                  refine dS (fun _ k_ => p_pkT rfl (rfl : _ = B (r84.2 == 0)) dn) ?_
                  refine dS (fun _ k_ => p_mB rfl dn) ?_
                  refine dB c106 ?_
                  refine dS (fun _ k_ => gT rfl rfl (p_mI rfl dn)) ?_
                  refine dS (fun _ k_ => gT rfl rfl (p_cmp rfl rfl rfl dn)) ?_
                  refine dS (fun _ k_ => p_pkT rfl (rfl : _ = B (r93.2 == 0)) dn) ?_
                  refine dS (fun _ k_ => p_mB rfl dn) ?_
                  refine dB c107 ?_
                  refine dS (fun _ k_ => gT rfl rfl (p_mB rfl dn)) ?_
                  refine dS (fun _ k_ => p_pkT rfl (rfl : _ = B r57.1) dn) ?_
                  refine dS (fun _ k_ => p_mB rfl dn) ?_
                  refine dB c108 ?_
                  refine dS (fun _ k_ => gF rfl rfl dnU) ?_
                  refine dS (fun _ k_ => p_pkF rfl (rfl : _ = B false) dn) ?_
                  refine dS (fun _ k_ => p_mB rfl dn) ?_
                  refine dS (fun _ k_ => gF rfl rfl dnU) ?_
                  refine dS (fun _ k_ => gF rfl rfl dnU) ?_
                  refine dS (fun _ k_ => gF rfl rfl dnU) ?_
                  refine dS (fun _ k_ => p_pkF rfl (rfl : _ = B false) dn) ?_
                  refine dS (fun _ k_ => p_mB rfl dn) ?_
                  refine dS (fun _ k_ => gF rfl rfl dnU) ?_
                  refine dS (fun _ k_ => gF rfl rfl dnU) ?_
                  refine dS (fun _ k_ => gF rfl rfl dnU) ?_
                  refine dS (fun _ k_ => p_pkF rfl (rfl : _ = B false) dn) ?_
                  refine dS (fun _ k_ => p_mB rfl dn) ?_
                  refine dS (fun _ k_ => gF rfl rfl dnU) ?_
                  refine dS (fun _ k_ => gF rfl rfl dnU) ?_
                  refine dS (fun _ k_ => gF rfl rfl dnU) ?_
                  refine dS (fun _ k_ => gF rfl rfl dnU) ?_
                  refine dS (fun _ k_ => gF rfl rfl dnU) ?_
                  refine dS (fun _ k_ => gF rfl rfl dnU) ?_
                  refine dS (fun _ k_ => gF rfl rfl dnU) ?_
                  refine dS (fun _ k_ => gF rfl rfl dnU) ?_
                  refine dS (fun _ k_ => p_pkF rfl (rfl : _ = B false) dn) ?_
                  refine dS (fun _ k_ => p_mB rfl dn) ?_
                  refine dS (fun _ k_ => gF rfl rfl dnU) ?_
                  refine dS (fun _ k_ => gF rfl rfl dnU) ?_
                  refine dS (fun _ k_ => gF rfl rfl dnU) ?_
                  refine dS (fun _ k_ => gF rfl rfl dnU) ?_
                  refine dS (fun _ k_ => gF rfl rfl dnU) ?_
                  refine dS (fun _ k_ => p_pkF rfl (rfl : _ = B false) dn) ?_
                  refine dS (fun _ k_ => p_mB rfl dn) ?_
                  refine dS (fun _ k_ => gF rfl rfl dnU) ?_
                  refine dS (fun _ k_ => p_pkF rfl (rfl : _ = B false) dn) ?_
                  refine dS (fun _ k_ => p_aB rfl dn) ?_
                  intro w144 k145; have S146 := S101.call k145
                  refine wp_nil ?_
                  obtain rfl := Option.some.inj H
                  refine c_ret ?_; show bodyPostM (Fr none) 0 Tryd.prog Tryd.f6 _ .ret _ _
                  refine ret_of (res1 rfl (rvT (rfl : _ = B false))) ?_
                  exact ⟨_, rfl, rfl, S146.keep⟩
              · replace H := condF c107 H
                refine reg_q mixed 59 (by kernel_rfl) ?_
                refine dS (fun _ k_ => p_mI rfl dn) ?_
                refine dS (fun _ k_ => p_cmp rfl rfl rfl dn) ?_
                refine dS (fun _ k_ => p_mB rfl dn) ?_
                refine dB c102 ?_
                refine dS (fun _ k_ => gT rfl rfl (p_mI rfl dn)) ?_
                refine dS (fun _ k_ => gT rfl rfl (p_cmp rfl rfl rfl dn)) ?_
                refine dS (fun _ k_ => p_pkT rfl (rfl : _ = B (r61.2 == 0)) dn) ?_
                refine dS (fun _ k_ => p_mB rfl dn) ?_
                refine dB c103 ?_
                refine dS (fun _ k_ => gT rfl rfl (p_mI rfl dn)) ?_
                refine dS (fun _ k_ => gT rfl rfl (p_cmp rfl rfl rfl dn)) ?_
                refine dS (fun _ k_ => p_pkT rfl (rfl : _ = B (r66.2 == 0)) dn) ?_
                refine dS (fun _ k_ => p_mB rfl dn) ?_
                refine dB c104 ?_
                refine dS (fun _ k_ => gT rfl rfl (p_mI rfl dn)) ?_
                refine dS (fun _ k_ => gT rfl rfl (p_cmp rfl rfl rfl dn)) ?_
                refine dS (fun _ k_ => p_pkT rfl (rfl : _ = B (r75.2 == 0)) dn) ?_
                refine dS (fun _ k_ => p_mB rfl dn) ?_
                refine dB c105 ?_
                refine dS (fun _ k_ => gT rfl rfl (p_mI rfl dn)) ?_
                refine dS (fun _ k_ => gT rfl rfl (p_cmp rfl rfl rfl dn)) ?_
                refine dS (fun _ k_ => p_pkT rfl (rfl : _ = B (r84.2 == 0)) dn) ?_
                refine dS (fun _ k_ => p_mB rfl dn) ?_
                refine dB c106 ?_
                refine dS (fun _ k_ => gT rfl rfl (p_mI rfl dn)) ?_
                refine dS (fun _ k_ => gT rfl rfl (p_cmp rfl rfl rfl dn)) ?_
                refine dS (fun _ k_ => p_pkT rfl (rfl : _ = B (r93.2 == 0)) dn) ?_
                refine dS (fun _ k_ => p_mB rfl dn) ?_
                refine dB c107 ?_
                refine dS (fun _ k_ => gF rfl rfl dnU) ?_
                refine dS (fun _ k_ => p_pkF rfl (rfl : _ = B false) dn) ?_
                refine dS (fun _ k_ => p_mB rfl dn) ?_
                refine dS (fun _ k_ => gF rfl rfl dnU) ?_
                refine dS (fun _ k_ => p_pkF rfl (rfl : _ = B false) dn) ?_
                refine dS (fun _ k_ => p_mB rfl dn) ?_
                refine dS (fun _ k_ => gF rfl rfl dnU) ?_
                refine dS (fun _ k_ => gF rfl rfl dnU) ?_
                refine dS (fun _ k_ => gF rfl rfl dnU) ?_
                refine dS (fun _ k_ => p_pkF rfl (rfl : _ = B false) dn) ?_
                refine dS (fun _ k_ => p_mB rfl dn) ?_
                refine dS (fun _ k_ => gF rfl rfl dnU) ?_
                refine dS (fun _ k_ => gF rfl rfl dnU) ?_
                refine dS (fun _ k_ => gF rfl rfl dnU) ?_
                refine dS (fun _ k_ => p_pkF rfl (rfl : _ = B false) dn) ?_
                refine dS (fun _ k_ => p_mB rfl dn) ?_
                refine dS (fun _ k_ => gF rfl rfl dnU) ?_
                refine dS (fun _ k_ => gF rfl rfl dnU) ?_
                refine dS (fun _ k_ => gF rfl rfl dnU) ?_
                refine dS (fun _ k_ => gF rfl rfl dnU) ?_
                refine dS (fun _ k_ => gF rfl rfl dnU) ?_
                refine dS (fun _ k_ => gF rfl rfl dnU) ?_
                refine dS (fun _ k_ => gF rfl rfl dnU) ?_
                refine dS (fun _ k_ => gF rfl rfl dnU) ?_
                refine dS (fun _ k_ => p_pkF rfl (rfl : _ = B false) dn) ?_
                refine dS (fun _ k_ => p_mB rfl dn) ?_
                refine dS (fun _ k_ => gF rfl rfl dnU) ?_
                refine dS (fun _ k_ => gF rfl rfl dnU) ?_
                refine dS (fun _ k_ => gF rfl rfl dnU) ?_
                refine dS (fun _ k_ => gF rfl rfl dnU) ?_
                refine dS (fun _ k_ => gF rfl rfl dnU) ?_
                refine dS (fun _ k_ => p_pkF rfl (rfl : _ = B false) dn) ?_
                refine dS (fun _ k_ => p_mB rfl dn) ?_
                refine dS (fun _ k_ => gF rfl rfl dnU) ?_
                refine dS (fun _ k_ => p_pkF rfl (rfl : _ = B false) dn) ?_
                refine dS (fun _ k_ => p_aB rfl dn) ?_
                intro w147 k148; have S149 := S101.call k148
                refine wp_nil ?_
                obtain rfl := Option.some.inj H
                refine c_ret ?_; show bodyPostM (Fr none) 0 Tryd.prog Tryd.f6 _ .ret _ _
                refine ret_of (res1 rfl (rvT (rfl : _ = B false))) ?_
                exact ⟨_, rfl, rfl, S149.keep⟩
            · replace H := condF c106 H
              refine reg_q mixed 59 (by kernel_rfl) ?_
              refine dS (fun _ k_ => p_mI rfl dn) ?_
              refine dS (fun _ k_ => p_cmp rfl rfl rfl dn) ?_
              refine dS (fun _ k_ => p_mB rfl dn) ?_
              refine dB c102 ?_
              refine dS (fun _ k_ => gT rfl rfl (p_mI rfl dn)) ?_
              refine dS (fun _ k_ => gT rfl rfl (p_cmp rfl rfl rfl dn)) ?_
              refine dS (fun _ k_ => p_pkT rfl (rfl : _ = B (r61.2 == 0)) dn) ?_
              refine dS (fun _ k_ => p_mB rfl dn) ?_
              refine dB c103 ?_
              refine dS (fun _ k_ => gT rfl rfl (p_mI rfl dn)) ?_
              refine dS (fun _ k_ => gT rfl rfl (p_cmp rfl rfl rfl dn)) ?_
              refine dS (fun _ k_ => p_pkT rfl (rfl : _ = B (r66.2 == 0)) dn) ?_
              refine dS (fun _ k_ => p_mB rfl dn) ?_
              refine dB c104 ?_
              refine dS (fun _ k_ => gT rfl rfl (p_mI rfl dn)) ?_
              refine dS (fun _ k_ => gT rfl rfl (p_cmp rfl rfl rfl dn)) ?_
              refine dS (fun _ k_ => p_pkT rfl (rfl : _ = B (r75.2 == 0)) dn) ?_
              refine dS (fun _ k_ => p_mB rfl dn) ?_
              refine dB c105 ?_
              refine dS (fun _ k_ => gT rfl rfl (p_mI rfl dn)) ?_
              refine dS (fun _ k_ => gT rfl rfl (p_cmp rfl rfl rfl dn)) ?_
              refine dS (fun _ k_ => p_pkT rfl (rfl : _ = B (r84.2 == 0)) dn) ?_
              refine dS (fun _ k_ => p_mB rfl dn) ?_
              refine dB c106 ?_
              refine dS (fun _ k_ => gF rfl rfl dnU) ?_
              refine dS (fun _ k_ => gF rfl rfl dnU) ?_
              refine dS (fun _ k_ => p_pkF rfl (rfl : _ = B false) dn) ?_
              refine dS (fun _ k_ => p_mB rfl dn) ?_
              refine dS (fun _ k_ => gF rfl rfl dnU) ?_
              refine dS (fun _ k_ => p_pkF rfl (rfl : _ = B false) dn) ?_
              refine dS (fun _ k_ => p_mB rfl dn) ?_
              refine dS (fun _ k_ => gF rfl rfl dnU) ?_
              refine dS (fun _ k_ => p_pkF rfl (rfl : _ = B false) dn) ?_
              refine dS (fun _ k_ => p_mB rfl dn) ?_
              refine dS (fun _ k_ => gF rfl rfl dnU) ?_
              refine dS (fun _ k_ => gF rfl rfl dnU) ?_
              refine dS (fun _ k_ => gF rfl rfl dnU) ?_
              refine dS (fun _ k_ => p_pkF rfl (rfl : _ = B false) dn) ?_
              refine dS (fun _ k_ => p_mB rfl dn) ?_
              refine dS (fun _ k_ => gF rfl rfl dnU) ?_
              refine dS (fun _ k_ => gF rfl rfl dnU) ?_
              refine dS (fun _ k_ => gF rfl rfl dnU) ?_
              refine dS (fun _ k_ => p_pkF rfl (rfl : _ = B false) dn) ?_
              refine dS (fun _ k_ => p_mB rfl dn) ?_
              refine dS (fun _ k_ => gF rfl rfl dnU) ?_
              refine dS (fun _ k_ => gF rfl rfl dnU) ?_
              refine dS (fun _ k_ => gF rfl rfl dnU) ?_
              refine dS (fun _ k_ => gF rfl rfl dnU) ?_
              refine dS (fun _ k_ => gF rfl rfl dnU) ?_
              refine dS (fun _ k_ => gF rfl rfl dnU) ?_
              refine dS (fun _ k_ => gF rfl rfl dnU) ?_
              refine dS (fun _ k_ => gF rfl rfl dnU) ?_
              refine dS (fun _ k_ => p_pkF rfl (rfl : _ = B false) dn) ?_
              refine dS (fun _ k_ => p_mB rfl dn) ?_
              refine dS (fun _ k_ => gF rfl rfl dnU) ?_
              refine dS (fun _ k_ => gF rfl rfl dnU) ?_
              refine dS (fun _ k_ => gF rfl rfl dnU) ?_
              refine dS (fun _ k_ => gF rfl rfl dnU) ?_
              refine dS (fun _ k_ => gF rfl rfl dnU) ?_
              refine dS (fun _ k_ => p_pkF rfl (rfl : _ = B false) dn) ?_
              refine dS (fun _ k_ => p_mB rfl dn) ?_
              refine dS (fun _ k_ => gF rfl rfl dnU) ?_
              refine dS (fun _ k_ => p_pkF rfl (rfl : _ = B false) dn) ?_
              refine dS (fun _ k_ => p_aB rfl dn) ?_
              intro w150 k151; have S152 := S101.call k151
              refine wp_nil ?_
              obtain rfl := Option.some.inj H
              refine c_ret ?_; show bodyPostM (Fr none) 0 Tryd.prog Tryd.f6 _ .ret _ _
              refine ret_of (res1 rfl (rvT (rfl : _ = B false))) ?_
              exact ⟨_, rfl, rfl, S152.keep⟩
          · replace H := condF c105 H
            refine reg_q mixed 59 (by kernel_rfl) ?_
            refine dS (fun _ k_ => p_mI rfl dn) ?_
            refine dS (fun _ k_ => p_cmp rfl rfl rfl dn) ?_
            refine dS (fun _ k_ => p_mB rfl dn) ?_
            refine dB c102 ?_
            refine dS (fun _ k_ => gT rfl rfl (p_mI rfl dn)) ?_
            refine dS (fun _ k_ => gT rfl rfl (p_cmp rfl rfl rfl dn)) ?_
            refine dS (fun _ k_ => p_pkT rfl (rfl : _ = B (r61.2 == 0)) dn) ?_
            refine dS (fun _ k_ => p_mB rfl dn) ?_
            refine dB c103 ?_
            refine dS (fun _ k_ => gT rfl rfl (p_mI rfl dn)) ?_
            refine dS (fun _ k_ => gT rfl rfl (p_cmp rfl rfl rfl dn)) ?_
            refine dS (fun _ k_ => p_pkT rfl (rfl : _ = B (r66.2 == 0)) dn) ?_
            refine dS (fun _ k_ => p_mB rfl dn) ?_
            refine dB c104 ?_
            refine dS (fun _ k_ => gT rfl rfl (p_mI rfl dn)) ?_
            refine dS (fun _ k_ => gT rfl rfl (p_cmp rfl rfl rfl dn)) ?_
            refine dS (fun _ k_ => p_pkT rfl (rfl : _ = B (r75.2 == 0)) dn) ?_
            refine dS (fun _ k_ => p_mB rfl dn) ?_
            refine dB c105 ?_
            refine dS (fun _ k_ => gF rfl rfl dnU) ?_
            refine dS (fun _ k_ => gF rfl rfl dnU) ?_
            refine dS (fun _ k_ => p_pkF rfl (rfl : _ = B false) dn) ?_
            refine dS (fun _ k_ => p_mB rfl dn) ?_
            refine dS (fun _ k_ => gF rfl rfl dnU) ?_
            refine dS (fun _ k_ => gF rfl rfl dnU) ?_
            refine dS (fun _ k_ => p_pkF rfl (rfl : _ = B false) dn) ?_
            refine dS (fun _ k_ => p_mB rfl dn) ?_
            refine dS (fun _ k_ => gF rfl rfl dnU) ?_
            refine dS (fun _ k_ => p_pkF rfl (rfl : _ = B false) dn) ?_
            refine dS (fun _ k_ => p_mB rfl dn) ?_
            refine dS (fun _ k_ => gF rfl rfl dnU) ?_
            refine dS (fun _ k_ => p_pkF rfl (rfl : _ = B false) dn) ?_
            refine dS (fun _ k_ => p_mB rfl dn) ?_
            refine dS (fun _ k_ => gF rfl rfl dnU) ?_
            refine dS (fun _ k_ => gF rfl rfl dnU) ?_
            refine dS (fun _ k_ => gF rfl rfl dnU) ?_
            refine dS (fun _ k_ => p_pkF rfl (rfl : _ = B false) dn) ?_
            refine dS (fun _ k_ => p_mB rfl dn) ?_
            refine dS (fun _ k_ => gF rfl rfl dnU) ?_
            refine dS (fun _ k_ => gF rfl rfl dnU) ?_
            refine dS (fun _ k_ => gF rfl rfl dnU) ?_
            refine dS (fun _ k_ => p_pkF rfl (rfl : _ = B false) dn) ?_
            refine dS (fun _ k_ => p_mB rfl dn) ?_
            refine dS (fun _ k_ => gF rfl rfl dnU) ?_
            refine dS (fun _ k_ => gF rfl rfl dnU) ?_
            refine dS (fun _ k_ => gF rfl rfl dnU) ?_
            refine dS (fun _ k_ => gF rfl rfl dnU) ?_
            refine dS (fun _ k_ => gF rfl rfl dnU) ?_
            refine dS (fun _ k_ => gF rfl rfl dnU) ?_
            refine dS (fun _ k_ => gF rfl rfl dnU) ?_
            refine dS (fun _ k_ => gF rfl rfl dnU) ?_
            refine dS (fun _ k_ => p_pkF rfl (rfl : _ = B false) dn) ?_
            refine dS (fun _ k_ => p_mB rfl dn) ?_
            refine dS (fun _ k_ => gF rfl rfl dnU) ?_
            refine dS (fun _ k_ => gF rfl rfl dnU) ?_
            refine dS (fun _ k_ => gF rfl rfl dnU) ?_
            refine dS (fun _ k_ => gF rfl rfl dnU) ?_
            refine dS (fun _ k_ => gF rfl rfl dnU) ?_
            refine dS (fun _ k_ => p_pkF rfl (rfl : _ = B false) dn) ?_
            refine dS (fun _ k_ => p_mB rfl dn) ?_
            refine dS (fun _ k_ => gF rfl rfl dnU) ?_
            refine dS (fun _ k_ => p_pkF rfl (rfl : _ = B false) dn) ?_
            refine dS (fun _ k_ => p_aB rfl dn) ?_
            intro w153 k154; have S155 := S101.call k154
            refine wp_nil ?_
            obtain rfl := Option.some.inj H
            refine c_ret ?_; show bodyPostM (Fr none) 0 Tryd.prog Tryd.f6 _ .ret _ _
            refine ret_of (res1 rfl (rvT (rfl : _ = B false))) ?_
            exact ⟨_, rfl, rfl, S155.keep⟩
        · replace H := condF c104 H
          refine reg_q mixed 59 (by kernel_rfl) ?_
          refine dS (fun _ k_ => p_mI rfl dn) ?_
          refine dS (fun _ k_ => p_cmp rfl rfl rfl dn) ?_
          refine dS (fun _ k_ => p_mB rfl dn) ?_
          refine dB c102 ?_
          refine dS (fun _ k_ => gT rfl rfl (p_mI rfl dn)) ?_
          refine dS (fun _ k_ => gT rfl rfl (p_cmp rfl rfl rfl dn)) ?_
          refine dS (fun _ k_ => p_pkT rfl (rfl : _ = B (r61.2 == 0)) dn) ?_
          refine dS (fun _ k_ => p_mB rfl dn) ?_
          refine dB c103 ?_
          refine dS (fun _ k_ => gT rfl rfl (p_mI rfl dn)) ?_
          refine dS (fun _ k_ => gT rfl rfl (p_cmp rfl rfl rfl dn)) ?_
          refine dS (fun _ k_ => p_pkT rfl (rfl : _ = B (r66.2 == 0)) dn) ?_
          refine dS (fun _ k_ => p_mB rfl dn) ?_
          refine dB c104 ?_
          refine dS (fun _ k_ => gF rfl rfl dnU) ?_
          refine dS (fun _ k_ => gF rfl rfl dnU) ?_
          refine dS (fun _ k_ => p_pkF rfl (rfl : _ = B false) dn) ?_
          refine dS (fun _ k_ => p_mB rfl dn) ?_
          refine dS (fun _ k_ => gF rfl rfl dnU) ?_
          refine dS (fun _ k_ => gF rfl rfl dnU) ?_
          refine dS (fun _ k_ => p_pkF rfl (rfl : _ = B false) dn) ?_
          refine dS (fun _ k_ => p_mB rfl dn) ?_
          refine dS (fun _ k_ => gF rfl rfl dnU) ?_
          refine dS (fun _ k_ => gF rfl rfl dnU) ?_
          refine dS (fun _ k_ => p_pkF rfl (rfl : _ = B false) dn) ?_
          refine dS (fun _ k_ => p_mB rfl dn) ?_
          refine dS (fun _ k_ => gF rfl rfl dnU) ?_
          refine dS (fun _ k_ => p_pkF rfl (rfl : _ = B false) dn) ?_
          refine dS (fun _ k_ => p_mB rfl dn) ?_
          refine dS (fun _ k_ => gF rfl rfl dnU) ?_
          refine dS (fun _ k_ => p_pkF rfl (rfl : _ = B false) dn) ?_
          refine dS (fun _ k_ => p_mB rfl dn) ?_
          refine dS (fun _ k_ => gF rfl rfl dnU) ?_
          refine dS (fun _ k_ => gF rfl rfl dnU) ?_
          refine dS (fun _ k_ => gF rfl rfl dnU) ?_
          refine dS (fun _ k_ => p_pkF rfl (rfl : _ = B false) dn) ?_
          refine dS (fun _ k_ => p_mB rfl dn) ?_
          refine dS (fun _ k_ => gF rfl rfl dnU) ?_
          refine dS (fun _ k_ => gF rfl rfl dnU) ?_
          refine dS (fun _ k_ => gF rfl rfl dnU) ?_
          refine dS (fun _ k_ => p_pkF rfl (rfl : _ = B false) dn) ?_
          refine dS (fun _ k_ => p_mB rfl dn) ?_
          refine dS (fun _ k_ => gF rfl rfl dnU) ?_
          refine dS (fun _ k_ => gF rfl rfl dnU) ?_
          refine dS (fun _ k_ => gF rfl rfl dnU) ?_
          refine dS (fun _ k_ => gF rfl rfl dnU) ?_
          refine dS (fun _ k_ => gF rfl rfl dnU) ?_
          refine dS (fun _ k_ => gF rfl rfl dnU) ?_
          refine dS (fun _ k_ => gF rfl rfl dnU) ?_
          refine dS (fun _ k_ => gF rfl rfl dnU) ?_
          refine dS (fun _ k_ => p_pkF rfl (rfl : _ = B false) dn) ?_
          refine dS (fun _ k_ => p_mB rfl dn) ?_
          refine dS (fun _ k_ => gF rfl rfl dnU) ?_
          refine dS (fun _ k_ => gF rfl rfl dnU) ?_
          refine dS (fun _ k_ => gF rfl rfl dnU) ?_
          refine dS (fun _ k_ => gF rfl rfl dnU) ?_
          refine dS (fun _ k_ => gF rfl rfl dnU) ?_
          refine dS (fun _ k_ => p_pkF rfl (rfl : _ = B false) dn) ?_
          refine dS (fun _ k_ => p_mB rfl dn) ?_
          refine dS (fun _ k_ => gF rfl rfl dnU) ?_
          refine dS (fun _ k_ => p_pkF rfl (rfl : _ = B false) dn) ?_
          refine dS (fun _ k_ => p_aB rfl dn) ?_
          intro w156 k157; have S158 := S101.call k157
          refine wp_nil ?_
          obtain rfl := Option.some.inj H
          refine c_ret ?_; show bodyPostM (Fr none) 0 Tryd.prog Tryd.f6 _ .ret _ _
          refine ret_of (res1 rfl (rvT (rfl : _ = B false))) ?_
          exact ⟨_, rfl, rfl, S158.keep⟩
      · replace H := condF c103 H
        refine reg_q mixed 59 (by kernel_rfl) ?_
        refine dS (fun _ k_ => p_mI rfl dn) ?_
        refine dS (fun _ k_ => p_cmp rfl rfl rfl dn) ?_
        refine dS (fun _ k_ => p_mB rfl dn) ?_
        refine dB c102 ?_
        refine dS (fun _ k_ => gT rfl rfl (p_mI rfl dn)) ?_
        refine dS (fun _ k_ => gT rfl rfl (p_cmp rfl rfl rfl dn)) ?_
        refine dS (fun _ k_ => p_pkT rfl (rfl : _ = B (r61.2 == 0)) dn) ?_
        refine dS (fun _ k_ => p_mB rfl dn) ?_
        refine dB c103 ?_
        refine dS (fun _ k_ => gF rfl rfl dnU) ?_
        refine dS (fun _ k_ => gF rfl rfl dnU) ?_
        refine dS (fun _ k_ => p_pkF rfl (rfl : _ = B false) dn) ?_
        refine dS (fun _ k_ => p_mB rfl dn) ?_
        refine dS (fun _ k_ => gF rfl rfl dnU) ?_
        refine dS (fun _ k_ => gF rfl rfl dnU) ?_
        refine dS (fun _ k_ => p_pkF rfl (rfl : _ = B false) dn) ?_
        refine dS (fun _ k_ => p_mB rfl dn) ?_
        refine dS (fun _ k_ => gF rfl rfl dnU) ?_
        refine dS (fun _ k_ => gF rfl rfl dnU) ?_
        refine dS (fun _ k_ => p_pkF rfl (rfl : _ = B false) dn) ?_
        refine dS (fun _ k_ => p_mB rfl dn) ?_
        refine dS (fun _ k_ => gF rfl rfl dnU) ?_
        refine dS (fun _ k_ => gF rfl rfl dnU) ?_
        refine dS (fun _ k_ => p_pkF rfl (rfl : _ = B false) dn) ?_
        refine dS (fun _ k_ => p_mB rfl dn) ?_
        refine dS (fun _ k_ => gF rfl rfl dnU) ?_
        refine dS (fun _ k_ => p_pkF rfl (rfl : _ = B false) dn) ?_
        refine dS (fun _ k_ => p_mB rfl dn) ?_
        refine dS (fun _ k_ => gF rfl rfl dnU) ?_
        refine dS (fun _ k_ => p_pkF rfl (rfl : _ = B false) dn) ?_
        refine dS (fun _ k_ => p_mB rfl dn) ?_
        refine dS (fun _ k_ => gF rfl rfl dnU) ?_
        refine dS (fun _ k_ => gF rfl rfl dnU) ?_
        refine dS (fun _ k_ => gF rfl rfl dnU) ?_
        refine dS (fun _ k_ => p_pkF rfl (rfl : _ = B false) dn) ?_
        refine dS (fun _ k_ => p_mB rfl dn) ?_
        refine dS (fun _ k_ => gF rfl rfl dnU) ?_
        refine dS (fun _ k_ => gF rfl rfl dnU) ?_
        refine dS (fun _ k_ => gF rfl rfl dnU) ?_
        refine dS (fun _ k_ => p_pkF rfl (rfl : _ = B false) dn) ?_
        refine dS (fun _ k_ => p_mB rfl dn) ?_
        refine dS (fun _ k_ => gF rfl rfl dnU) ?_
        refine dS (fun _ k_ => gF rfl rfl dnU) ?_
        refine dS (fun _ k_ => gF rfl rfl dnU) ?_
        refine dS (fun _ k_ => gF rfl rfl dnU) ?_
        refine dS (fun _ k_ => gF rfl rfl dnU) ?_
        refine dS (fun _ k_ => gF rfl rfl dnU) ?_
        refine dS (fun _ k_ => gF rfl rfl dnU) ?_
        refine dS (fun _ k_ => gF rfl rfl dnU) ?_
        refine dS (fun _ k_ => p_pkF rfl (rfl : _ = B false) dn) ?_
        refine dS (fun _ k_ => p_mB rfl dn) ?_
        refine dS (fun _ k_ => gF rfl rfl dnU) ?_
        refine dS (fun _ k_ => gF rfl rfl dnU) ?_
        refine dS (fun _ k_ => gF rfl rfl dnU) ?_
        refine dS (fun _ k_ => gF rfl rfl dnU) ?_
        refine dS (fun _ k_ => gF rfl rfl dnU) ?_
        refine dS (fun _ k_ => p_pkF rfl (rfl : _ = B false) dn) ?_
        refine dS (fun _ k_ => p_mB rfl dn) ?_
        refine dS (fun _ k_ => gF rfl rfl dnU) ?_
        refine dS (fun _ k_ => p_pkF rfl (rfl : _ = B false) dn) ?_
        refine dS (fun _ k_ => p_aB rfl dn) ?_
        intro w159 k160; have S161 := S101.call k160
        refine wp_nil ?_
        obtain rfl := Option.some.inj H
        refine c_ret ?_; show bodyPostM (Fr none) 0 Tryd.prog Tryd.f6 _ .ret _ _
        refine ret_of (res1 rfl (rvT (rfl : _ = B false))) ?_
        exact ⟨_, rfl, rfl, S161.keep⟩
    · replace H := condF c102 H
      refine reg_q mixed 59 (by kernel_rfl) ?_
      refine dS (fun _ k_ => p_mI rfl dn) ?_
      refine dS (fun _ k_ => p_cmp rfl rfl rfl dn) ?_
      refine dS (fun _ k_ => p_mB rfl dn) ?_
      refine dB c102 ?_
      refine dS (fun _ k_ => gF rfl rfl dnU) ?_
      refine dS (fun _ k_ => gF rfl rfl dnU) ?_
      refine dS (fun _ k_ => p_pkF rfl (rfl : _ = B false) dn) ?_
      refine dS (fun _ k_ => p_mB rfl dn) ?_
      refine dS (fun _ k_ => gF rfl rfl dnU) ?_
      refine dS (fun _ k_ => gF rfl rfl dnU) ?_
      refine dS (fun _ k_ => p_pkF rfl (rfl : _ = B false) dn) ?_
      refine dS (fun _ k_ => p_mB rfl dn) ?_
      refine dS (fun _ k_ => gF rfl rfl dnU) ?_
      refine dS (fun _ k_ => gF rfl rfl dnU) ?_
      refine dS (fun _ k_ => p_pkF rfl (rfl : _ = B false) dn) ?_
      refine dS (fun _ k_ => p_mB rfl dn) ?_
      refine dS (fun _ k_ => gF rfl rfl dnU) ?_
      refine dS (fun _ k_ => gF rfl rfl dnU) ?_
      refine dS (fun _ k_ => p_pkF rfl (rfl : _ = B false) dn) ?_
      refine dS (fun _ k_ => p_mB rfl dn) ?_
      refine dS (fun _ k_ => gF rfl rfl dnU) ?_
      refine dS (fun _ k_ => gF rfl rfl dnU) ?_
      refine dS (fun _ k_ => p_pkF rfl (rfl : _ = B false) dn) ?_
      refine dS (fun _ k_ => p_mB rfl dn) ?_
      refine dS (fun _ k_ => gF rfl rfl dnU) ?_
      refine dS (fun _ k_ => p_pkF rfl (rfl : _ = B false) dn) ?_
      refine dS (fun _ k_ => p_mB rfl dn) ?_
      refine dS (fun _ k_ => gF rfl rfl dnU) ?_
      refine dS (fun _ k_ => p_pkF rfl (rfl : _ = B false) dn) ?_
      refine dS (fun _ k_ => p_mB rfl dn) ?_
      refine dS (fun _ k_ => gF rfl rfl dnU) ?_
      refine dS (fun _ k_ => gF rfl rfl dnU) ?_
      refine dS (fun _ k_ => gF rfl rfl dnU) ?_
      refine dS (fun _ k_ => p_pkF rfl (rfl : _ = B false) dn) ?_
      refine dS (fun _ k_ => p_mB rfl dn) ?_
      refine dS (fun _ k_ => gF rfl rfl dnU) ?_
      refine dS (fun _ k_ => gF rfl rfl dnU) ?_
      refine dS (fun _ k_ => gF rfl rfl dnU) ?_
      refine dS (fun _ k_ => p_pkF rfl (rfl : _ = B false) dn) ?_
      refine dS (fun _ k_ => p_mB rfl dn) ?_
      refine dS (fun _ k_ => gF rfl rfl dnU) ?_
      refine dS (fun _ k_ => gF rfl rfl dnU) ?_
      refine dS (fun _ k_ => gF rfl rfl dnU) ?_
      refine dS (fun _ k_ => gF rfl rfl dnU) ?_
      refine dS (fun _ k_ => gF rfl rfl dnU) ?_
      refine dS (fun _ k_ => gF rfl rfl dnU) ?_
      refine dS (fun _ k_ => gF rfl rfl dnU) ?_
      refine dS (fun _ k_ => gF rfl rfl dnU) ?_
      refine dS (fun _ k_ => p_pkF rfl (rfl : _ = B false) dn) ?_
      refine dS (fun _ k_ => p_mB rfl dn) ?_
      refine dS (fun _ k_ => gF rfl rfl dnU) ?_
      refine dS (fun _ k_ => gF rfl rfl dnU) ?_
      refine dS (fun _ k_ => gF rfl rfl dnU) ?_
      refine dS (fun _ k_ => gF rfl rfl dnU) ?_
      refine dS (fun _ k_ => gF rfl rfl dnU) ?_
      refine dS (fun _ k_ => p_pkF rfl (rfl : _ = B false) dn) ?_
      refine dS (fun _ k_ => p_mB rfl dn) ?_
      refine dS (fun _ k_ => gF rfl rfl dnU) ?_
      refine dS (fun _ k_ => p_pkF rfl (rfl : _ = B false) dn) ?_
      refine dS (fun _ k_ => p_aB rfl dn) ?_
      intro w162 k163; have S164 := S101.call k163
      refine wp_nil ?_
      obtain rfl := Option.some.inj H
      refine c_ret ?_; show bodyPostM (Fr none) 0 Tryd.prog Tryd.f6 _ .ret _ _
      refine ret_of (res1 rfl (rvT (rfl : _ = B false))) ?_
      exact ⟨_, rfl, rfl, S164.keep⟩

end Go.Proofs.YtplpalmabgjibaaDoor

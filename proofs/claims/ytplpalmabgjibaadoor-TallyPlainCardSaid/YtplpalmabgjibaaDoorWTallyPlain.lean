/- What the law's function computes, and that it does, printed by a program of mine. -/
import Derived.Test.YtplpalmabgjibaaDoorWC
set_option linter.unusedVariables false
set_option linter.unusedSimpArgs false
namespace Go.Proofs.YtplpalmabgjibaaDoor
open Go Go.Fx Go.Proofs
def law_TallyPlain (a0 : List Int) : Option Bool :=
  (B_Mod (aget a0 0) 8).bind fun r6 =>
  (B_Mod (aget a0 1) 61).bind fun r8 =>
  (B_Mod (aget a0 2) (wr (1 + r6))).bind fun r22 =>
  (B_Mod (aget a0 3) (wr ((wr (1 + r6)) - r22))).bind fun r26 =>
  (B_Mod (aget a0 4) 100).bind fun r30 =>
  (tally_Many (TallyBook.mk (wr (1 + r6)) r8 ([] : List TallyCount)) r22 (wr (r22 + r26))).bind fun r34 =>
  (tally_Again (TallyBook.mk (wr (1 + r6)) r8 ([] : List TallyCount))).bind fun r43 =>
  bif (r34.2 != 0) then (some false)
  else ((B_Range 0 (wr (r8 * (wr ((wr ((wr (r22 + r26)) - r22)) + 1))))).bind fun r51 =>
  bif !((r34.1.Low == r51.Low) && (r34.1.High == r51.High)) then (some false)
  else (bif ((r43.2 == 0) != (decide (r8 > 0))) then (some false)
  else ((B_Mod (aget a0 5) 5).bind fun r66 =>
  (B_Mod (aget a0 5) 3).bind fun r68 =>
  (law_count 0 r22 (wr (r22 + r26)) r30 1 r66 r68).bind fun r70 =>
  (B_Mod (aget a0 5) 3).bind fun r82 =>
  (B_Mod (aget a0 5) 5).bind fun r84 =>
  (B_Range (if (wr (r30 - r82)) > 0 then (wr (r30 - r82)) else 0) (if (wr (r30 + r84)) < (wr (r8 * (wr ((wr ((wr (r22 + r26)) - r22)) + 1)))) then (wr (r30 + r84)) else (wr (r8 * (wr ((wr ((wr (r22 + r26)) - r22)) + 1)))))).bind fun r86 =>
  (tally_Right (TallyBook.mk (wr (1 + r6)) r8 ([r70] : List TallyCount))).bind fun r100 =>
  bif (r100.2 != 0) then (some false)
  else (bif (r100.1 != (decide (r86.Low ≤ r86.High))) then (some false)
  else (bif !r100.1 then ((law_counted).bind fun r107 =>
  some r107)
  else ((tally_Many (TallyBook.mk (wr (1 + r6)) r8 ([r70] : List TallyCount)) r22 (wr (r22 + r26))).bind fun r111 =>
  (B_Mod (aget a0 5) (wr (1 + r6))).bind fun r120 =>
  (tally_Many (TallyBook.mk (wr (1 + r6)) r8 ([r70] : List TallyCount)) r120 r120).bind fun r124 =>
  bif (r111.2 == 0) then (bif ((r111.1.Low == r86.Low) && (r111.1.High == r86.High)) then (bif (r124.2 == 0) then ((B_Inside r120 r22 (wr (r22 + r26))).bind fun r136 =>
  bif r136 then ((law_counted).bind fun r139 =>
  some r139)
  else ((B_Range 0 r8).bind fun r144 =>
  bif ((r124.1.Low == r144.Low) && (r124.1.High == r144.High)) then ((law_counted).bind fun r147 =>
  some r147)
  else (some false)))
  else (some false))
  else (some false))
  else (some false)))))))

set_option maxRecDepth 100000 in
theorem law_TallyPlain_ok {a0 : List Int} {w : World} {r : Bool} (H : law_TallyPlain a0 = some r) (hg1 : (bl 0 [Value.func (.func 117) #[] #[], Value.func (.func 119) #[] #[]] 117).ok w) (hg2 : (bl 1 [I (-1), I (-1)] 115).ok w) : Calls Tryd.prog 14 #[AG (sg a0 6)] w (RetV w (B r)) := by
  unfold law_TallyPlain at H
  refine fn_of (n := 173) Tryd.func14 rfl rfl (Nat.le_of_ble_eq_true rfl) ?_
  have S : St w (fun _ => False) w [] [bl 0 [Value.func (.func 117) #[] #[], Value.func (.func 119) #[] #[]] 117, bl 1 [I (-1), I (-1)] 115] := St.start w _ _ (List.forall_mem_cons.2 ⟨hg1, (List.forall_mem_cons.2 ⟨hg2, (fun _ h_ => (List.not_mem_nil h_).elim)⟩)⟩)
  refine c_seq ?_
  refine reg ?_
  refine p_boxA rfl S fun b3 w4 S5 => ?_
  refine p_aB rfl ?_
  refine wp_nil ?_
  refine c_seq ?_
  obtain ⟨r6, h7, H⟩ := bindS H
  obtain ⟨r8, h9, H⟩ := bindS H
  refine reg_c mixed 9 [8] (by kernel_rfl) ?_
  refine kS rfl (fun _ k_ => p_ixc ar77 rfl rfl (by decide) (by decide) dn) ?_
  refine kS rfl (fun _ k_ => p_ld ty3 (Asr.stays (S5.atX (i := 0) rfl) k_) rfl rfl dn) ?_
  refine kS rfl (fun _ k_ => p_cvD (B_Mod_ok h7) fu27 rfl) ?_
  refine kS rfl (fun _ k_ => p_add rfl rfl dn) ?_
  refine kS rfl (fun _ k_ => p_ixc ar77 rfl rfl (by decide) (by decide) dn) ?_
  refine kS rfl (fun _ k_ => p_ld ty3 (Asr.stays (S5.atX (i := 0) rfl) k_) rfl rfl dn) ?_
  refine kS rfl (fun _ k_ => p_cvD (B_Mod_ok h9) fu27 rfl) ?_
  refine kS rfl (fun _ k_ => p_bld (cs := [I (wr (1 + r6)), I r8, SL none 0 0]) st24 (rfl : _ = [(0, I (wr (1 + r6))), (1, I r8)]) (by kernel_rfl) dn) ?_
  refine kC rfl ?_
  intro w10 k11; have S12 := S5.call k11
  have S16 := S12.base
  refine p_allA in24 S16 fun b13 w14 S15 => ?_
  refine cN S15.keep fun w17 k18 => ?_
  have S19 := (S12.fromBase S15).call k18
  refine p_stP (pre := []) (old := [I 0, I 0, SL none 0 0]) (post := []) (vs := [I (wr (1 + r6)), I r8, SL none 0 0]) sz24 S19 (i := 0) rfl rfl rfl rfl (rfl : _ = AG [I (wr (1 + r6)), I r8, SL none 0 0]) rfl rfl rfl rfl fun w20 S21 => ?_
  refine wp_nil ?_
  refine c_seq ?_
  refine reg ?_
  refine p_ixc ar77 rfl rfl (by decide) (by decide) ?_
  refine p_ld ty3 (S21.atX (i := 1) rfl) rfl rfl ?_
  refine p_fld fl24_0 rfl ?_
  refine p_ld ty3 (S21.atX (i := 0) rfl) rfl rfl ?_
  obtain ⟨r22, h23, H⟩ := bindS H
  refine p_cv (B_Mod_ok h23) fu27 rfl S21 fun w24 S25 => ?_
  refine p_aI rfl ?_
  refine wp_nil ?_
  refine c_seq ?_
  refine reg ?_
  refine p_mI rfl ?_
  refine p_ixc ar77 rfl rfl (by decide) (by decide) ?_
  refine p_ld ty3 (S25.atX (i := 1) rfl) rfl rfl ?_
  refine p_fld fl24_0 rfl ?_
  refine p_ld ty3 (S25.atX (i := 0) rfl) rfl rfl ?_
  refine p_mI rfl ?_
  refine p_sub rfl rfl ?_
  obtain ⟨r26, h27, H⟩ := bindS H
  refine p_cv (B_Mod_ok h27) fu27 rfl S25 fun w28 S29 => ?_
  refine p_add rfl rfl ?_
  refine p_aI rfl ?_
  refine wp_nil ?_
  refine c_seq ?_
  refine reg ?_
  refine p_ixc ar77 rfl rfl (by decide) (by decide) ?_
  refine p_ld ty3 (S29.atX (i := 1) rfl) rfl rfl ?_
  obtain ⟨r30, h31, H⟩ := bindS H
  refine p_cv (B_Mod_ok h31) fu27 rfl S29 fun w32 S33 => ?_
  refine p_aI rfl ?_
  refine wp_nil ?_
  refine c_seq ?_
  refine reg ?_
  refine p_fld fl24_1 rfl ?_
  refine p_ld ty3 (S33.atX (i := 0) rfl) rfl rfl ?_
  refine p_mI rfl ?_
  refine p_mI rfl ?_
  refine p_sub rfl rfl ?_
  refine p_add rfl rfl ?_
  refine p_mul rfl rfl ?_
  refine p_aI rfl ?_
  refine wp_nil ?_
  refine c_seq ?_
  refine reg ?_
  refine p_ldA ty24 sz24 (S33.atX (i := 0) rfl) rfl rfl ?_
  refine p_mI rfl ?_
  refine p_mI rfl ?_
  obtain ⟨r34, h35, H⟩ := bindS H
  refine p_cv (tally_Many_ok h35 (rd_nil (Nat.zero_le _)) (S33.atP (i := 0) rfl) (S33.atP (i := 1) rfl)) fu32 rfl S33 fun w36 S37 => ?_
  refine p_mT rfl ?_
  refine p_ext rfl rfl ?_
  refine p_ext rfl rfl ?_
  refine p_allA in49 S37 fun b38 w39 S40 => ?_
  refine p_stP (pre := []) (old := [I 0, I 0]) (post := []) (vs := [I r34.1.Low, I r34.1.High]) sz49 S40 (i := 0) rfl rfl rfl rfl (rfl : _ = AG [I r34.1.Low, I r34.1.High]) rfl rfl rfl rfl fun w41 S42 => ?_
  refine p_aI rfl ?_
  refine wp_nil ?_
  refine c_seq ?_
  refine reg ?_
  refine p_ldA ty24 sz24 (S42.atX (i := 1) rfl) rfl rfl ?_
  obtain ⟨r43, h44, H⟩ := bindS H
  refine p_cv (tally_Again_ok h44 (rd_nil (Nat.zero_le _)) (S42.atP (i := 0) rfl) (S42.atP (i := 1) rfl)) fu50 rfl S42 fun w45 S46 => ?_
  refine p_mT rfl ?_
  refine p_ext rfl rfl ?_
  refine p_ext rfl rfl ?_
  refine p_aI rfl ?_
  refine p_aI rfl ?_
  refine wp_nil ?_
  refine c_seq ?_
  refine c_seq ?_
  rcases Bool.eq_false_or_eq_true ((r34.2 != 0)) with c47 | c47
  · replace H := condT c47 H
    refine reg_q mixed 16 (by kernel_rfl) ?_
    refine dS (fun _ k_ => p_mI rfl dn) ?_
    refine dS (fun _ k_ => p_cmp rfl rfl rfl dn) ?_
    refine dS (fun _ k_ => p_mB rfl dn) ?_
    refine dB c47 ?_
    refine dS (fun _ k_ => gF rfl rfl dnU) ?_
    refine dS (fun _ k_ => gF rfl rfl dnU) ?_
    refine dS (fun _ k_ => gF rfl rfl dnU) ?_
    refine dS (fun _ k_ => gF rfl rfl dnU) ?_
    refine dS (fun _ k_ => p_pkT rfl (rfl : _ = B true) dn) ?_
    refine dS (fun _ k_ => p_mB rfl dn) ?_
    refine dS (fun _ k_ => gF rfl rfl dnU) ?_
    refine dS (fun _ k_ => gF rfl rfl dnU) ?_
    refine dS (fun _ k_ => gF rfl rfl dnU) ?_
    refine dS (fun _ k_ => gF rfl rfl dnU) ?_
    refine dS (fun _ k_ => gF rfl rfl dnU) ?_
    refine dS (fun _ k_ => gF rfl rfl dnU) ?_
    refine dS (fun _ k_ => p_pkT rfl (rfl : _ = B true) dn) ?_
    intro w48 k49; have S50 := S46.call k49
    refine wp_nil ?_
    refine c_true rfl ?_
    refine c_seq ?_
    refine reg ?_
    refine p_aB rfl ?_
    refine wp_nil ?_
    obtain rfl := Option.some.inj H
    refine c_ret ?_; show bodyPostM (Fr none) 0 Tryd.prog Tryd.f14 _ .ret _ _
    refine ret_of (res1 rfl (rvT (rfl : _ = B false))) ?_
    exact ⟨_, rfl, rfl, S50.keep⟩
  · replace H := condF c47 H
    obtain ⟨r51, h52, H⟩ := bindS H
    rcases Bool.eq_false_or_eq_true (!((r34.1.Low == r51.Low) && (r34.1.High == r51.High))) with c53 | c53
    · replace H := condT c53 H
      refine reg_q mixed 16 (by kernel_rfl) ?_
      refine dS (fun _ k_ => p_mI rfl dn) ?_
      refine dS (fun _ k_ => p_cmp rfl rfl rfl dn) ?_
      refine dS (fun _ k_ => p_mB rfl dn) ?_
      refine dB c47 ?_
      refine dS (fun _ k_ => gT rfl rfl (p_ldA ty49 sz49 (Asr.stays (S46.atX (i := 0) rfl) k_) rfl rfl dn)) ?_
      refine dS (fun _ k_ => gT rfl rfl (p_mI rfl dn)) ?_
      refine dS (fun _ k_ => gT rfl rfl (p_cvD (B_Range_ok h52) fu41 rfl)) ?_
      refine dS (fun _ k_ => gT rfl rfl (o_neA (xs := [I r34.1.Low, I r34.1.High]) (ys := [I r51.Low, I r51.High]) (T := ((r34.1.Low == r51.Low) && (r34.1.High == r51.High))) rfl rfl eq49 ⟨⟨_, rfl⟩, ⟨⟨_, rfl⟩, trivial⟩⟩ ⟨⟨_, rfl⟩, ⟨⟨_, rfl⟩, trivial⟩⟩ (by simp [Bool.and_eq_true, and_assoc]) dn)) ?_
      refine dS (fun _ k_ => p_pkF rfl (rfl : _ = B (!((r34.1.Low == r51.Low) && (r34.1.High == r51.High)))) dn) ?_
      refine dS (fun _ k_ => p_mB rfl dn) ?_
      refine dB c53 ?_
      refine dS (fun _ k_ => gF rfl rfl dnU) ?_
      refine dS (fun _ k_ => gF rfl rfl dnU) ?_
      refine dS (fun _ k_ => gF rfl rfl dnU) ?_
      refine dS (fun _ k_ => gF rfl rfl dnU) ?_
      refine dS (fun _ k_ => gF rfl rfl dnU) ?_
      refine dS (fun _ k_ => gF rfl rfl dnU) ?_
      refine dS (fun _ k_ => p_pkT rfl (rfl : _ = B true) dn) ?_
      intro w54 k55; have S56 := S46.call k55
      refine wp_nil ?_
      refine c_true rfl ?_
      refine c_seq ?_
      refine reg ?_
      refine p_aB rfl ?_
      refine wp_nil ?_
      obtain rfl := Option.some.inj H
      refine c_ret ?_; show bodyPostM (Fr none) 0 Tryd.prog Tryd.f14 _ .ret _ _
      refine ret_of (res1 rfl (rvT (rfl : _ = B false))) ?_
      exact ⟨_, rfl, rfl, S56.keep⟩
    · replace H := condF c53 H
      refine reg_q mixed 16 (by kernel_rfl) ?_
      refine dS (fun _ k_ => p_mI rfl dn) ?_
      refine dS (fun _ k_ => p_cmp rfl rfl rfl dn) ?_
      refine dS (fun _ k_ => p_mB rfl dn) ?_
      refine dB c47 ?_
      refine dS (fun _ k_ => gT rfl rfl (p_ldA ty49 sz49 (Asr.stays (S46.atX (i := 0) rfl) k_) rfl rfl dn)) ?_
      refine dS (fun _ k_ => gT rfl rfl (p_mI rfl dn)) ?_
      refine dS (fun _ k_ => gT rfl rfl (p_cvD (B_Range_ok h52) fu41 rfl)) ?_
      refine dS (fun _ k_ => gT rfl rfl (o_neA (xs := [I r34.1.Low, I r34.1.High]) (ys := [I r51.Low, I r51.High]) (T := ((r34.1.Low == r51.Low) && (r34.1.High == r51.High))) rfl rfl eq49 ⟨⟨_, rfl⟩, ⟨⟨_, rfl⟩, trivial⟩⟩ ⟨⟨_, rfl⟩, ⟨⟨_, rfl⟩, trivial⟩⟩ (by simp [Bool.and_eq_true, and_assoc]) dn)) ?_
      refine dS (fun _ k_ => p_pkF rfl (rfl : _ = B (!((r34.1.Low == r51.Low) && (r34.1.High == r51.High)))) dn) ?_
      refine dS (fun _ k_ => p_mB rfl dn) ?_
      refine dB c53 ?_
      refine dS (fun _ k_ => gT rfl rfl (p_mI rfl dn)) ?_
      refine dS (fun _ k_ => gT rfl rfl (p_cmp rfl rfl rfl dn)) ?_
      refine dS (fun _ k_ => gT rfl rfl (p_fld fl24_1 rfl dn)) ?_
      refine dS (fun _ k_ => gT rfl rfl (p_ld ty3 (Asr.stays (S46.atX (i := 1) rfl) k_) rfl rfl dn)) ?_
      refine dS (fun _ k_ => gT rfl rfl (p_cmp rfl rfl rfl dn)) ?_
      refine dS (fun _ k_ => gT rfl rfl (o_neB rfl rfl ub4 dn)) ?_
      refine dS (fun _ k_ => p_pkF rfl (rfl : _ = B ((r43.2 == 0) != (decide (r8 > 0)))) dn) ?_
      intro w57 k58; have S59 := S46.call k58
      refine wp_nil ?_
      refine c_cond rfl (fun c60 => ?_) (fun c60 => ?_)
      · replace H := condT c60 H
        refine c_seq ?_
        refine reg ?_
        refine p_aB rfl ?_
        refine wp_nil ?_
        obtain rfl := Option.some.inj H
        refine c_ret ?_; show bodyPostM (Fr none) 0 Tryd.prog Tryd.f14 _ .ret _ _
        refine ret_of (res1 rfl (rvT (rfl : _ = B false))) ?_
        exact ⟨_, rfl, rfl, S59.keep⟩
      · replace H := condF c60 H
        refine c_skip ?_
        refine c_seq ?_
        refine reg ?_
        refine p_ldA ty24 sz24 (S59.atX (i := 1) rfl) rfl rfl ?_
        refine p_allA in24 S59 fun b61 w62 S63 => ?_
        refine p_stP (pre := []) (old := [I 0, I 0, SL none 0 0]) (post := []) (vs := [I (wr (1 + r6)), I r8, SL none 0 0]) sz24 S63 (i := 0) rfl rfl rfl rfl (rfl : _ = AG [I (wr (1 + r6)), I r8, SL none 0 0]) rfl rfl rfl rfl fun w64 S65 => ?_
        refine wp_nil ?_
        refine c_seq ?_
        obtain ⟨r66, h67, H⟩ := bindS H
        obtain ⟨r68, h69, H⟩ := bindS H
        obtain ⟨r70, h71, H⟩ := bindS H
        refine reg_q mixed 10 (by kernel_rfl) ?_
        refine dS (fun _ k_ => p_mI rfl dn) ?_
        refine dS (fun _ k_ => p_mI rfl dn) ?_
        refine dS (fun _ k_ => p_mI rfl dn) ?_
        refine dS (fun _ k_ => p_ixc ar77 rfl rfl (by decide) (by decide) dn) ?_
        refine dS (fun _ k_ => p_ld ty3 (Asr.stays (S65.atX (i := 3) rfl) k_) rfl rfl dn) ?_
        refine dS (fun _ k_ => p_cvD (B_Mod_ok h67) fu27 rfl) ?_
        refine dS (fun _ k_ => p_ixc ar77 rfl rfl (by decide) (by decide) dn) ?_
        refine dS (fun _ k_ => p_ld ty3 (Asr.stays (S65.atX (i := 3) rfl) k_) rfl rfl dn) ?_
        refine dS (fun _ k_ => p_cvD (B_Mod_ok h69) fu27 rfl) ?_
        refine dS (fun _ k_ => p_cvD (law_count_ok h71) fu37 rfl) ?_
        intro w72 k73; have S74 := S65.call k73
        refine p_bsl (enc := eTallyCount) (l := ([r70] : List TallyCount)) (fun x => AG (eTallyCount x)) (fun _ => rfl) sc22 in33 eTallyCount_len rfl (by decide) (by decide) zr33_1 S74 rfl fun A75 c76 w77 S78 => ?_
        refine p_fld fl24_2 rfl ?_
        refine p_stP (pre := [I (wr (1 + r6)), I r8]) (old := [SL none 0 0]) (post := []) (vs := [SL A75 ([r70] : List TallyCount).length c76]) sz22 S78 (i := 1) rfl rfl rfl rfl (rfl : _ = SL A75 ([r70] : List TallyCount).length c76) rfl rfl rfl rfl fun w80 S81 => ?_
        refine wp_nil ?_
        refine c_seq ?_
        obtain ⟨r82, h83, H⟩ := bindS H
        obtain ⟨r84, h85, H⟩ := bindS H
        obtain ⟨r86, h87, H⟩ := bindS H
        refine reg_c mixed 15 [14] (by kernel_rfl) ?_
        refine kS rfl (fun _ k_ => p_mI rfl dn) ?_
        refine kS rfl (fun _ k_ => p_ixc ar77 rfl rfl (by decide) (by decide) dn) ?_
        refine kS rfl (fun _ k_ => p_ld ty3 (Asr.stays (S81.atX (i := 4) rfl) k_) rfl rfl dn) ?_
        refine kS rfl (fun _ k_ => p_cvD (B_Mod_ok h83) fu27 rfl) ?_
        refine kS rfl (fun _ k_ => p_sub rfl rfl dn) ?_
        refine kS rfl (fun _ k_ => p_max rfl rfl dn) ?_
        refine kS rfl (fun _ k_ => p_mI rfl dn) ?_
        refine kS rfl (fun _ k_ => p_mI rfl dn) ?_
        refine kS rfl (fun _ k_ => p_ixc ar77 rfl rfl (by decide) (by decide) dn) ?_
        refine kS rfl (fun _ k_ => p_ld ty3 (Asr.stays (S81.atX (i := 4) rfl) k_) rfl rfl dn) ?_
        refine kS rfl (fun _ k_ => p_cvD (B_Mod_ok h85) fu27 rfl) ?_
        refine kS rfl (fun _ k_ => p_add rfl rfl dn) ?_
        refine kS rfl (fun _ k_ => p_min rfl rfl dn) ?_
        refine kS rfl (fun _ k_ => p_cvD (B_Range_ok h87) fu41 rfl) ?_
        refine kC rfl ?_
        intro w88 k89; have S90 := S81.call k89
        have S94 := S90.base
        refine p_allA in49 S94 fun b91 w92 S93 => ?_
        refine cN S93.keep fun w95 k96 => ?_
        have S97 := (S90.fromBase S93).call k96
        refine p_stP (pre := []) (old := [I 0, I 0]) (post := []) (vs := [I r86.Low, I r86.High]) sz49 S97 (i := 0) rfl rfl rfl rfl (rfl : _ = AG [I r86.Low, I r86.High]) rfl rfl rfl rfl fun w98 S99 => ?_
        refine wp_nil ?_
        refine c_seq ?_
        refine reg ?_
        refine p_ldA ty24 sz24 (S99.atX (i := 2) rfl) rfl rfl ?_
        obtain ⟨r100, h101, H⟩ := bindS H
        refine p_cv (tally_Right_ok h101 (gr_rd eTallyCount_len (S99.atX (i := 1) rfl)) (S99.atP (i := 0) rfl) (S99.atP (i := 1) rfl)) fu28 rfl S99 fun w102 S103 => ?_
        refine p_mT rfl ?_
        refine p_ext rfl rfl ?_
        refine p_ext rfl rfl ?_
        refine p_aB rfl ?_
        refine p_aI rfl ?_
        refine wp_nil ?_
        refine c_seq ?_
        refine c_seq ?_
        refine reg ?_
        refine p_mI rfl ?_
        refine p_cmp rfl rfl rfl ?_
        refine p_mB rfl ?_
        rcases Bool.eq_false_or_eq_true ((r100.2 != 0)) with c104 | c104
        · replace H := condT c104 H
          refine eB c104 ?_
          refine gF rfl rfl ?_
          refine gF rfl rfl ?_
          refine gF rfl rfl ?_
          refine gF rfl rfl ?_
          refine gF rfl rfl ?_
          refine gF rfl rfl ?_
          refine gF rfl rfl ?_
          refine p_pkT rfl (rfl : _ = B true) ?_
          refine wp_nil ?_
          refine c_true rfl ?_
          refine c_seq ?_
          refine reg ?_
          refine p_aB rfl ?_
          refine wp_nil ?_
          obtain rfl := Option.some.inj H
          refine c_ret ?_; show bodyPostM (Fr none) 0 Tryd.prog Tryd.f14 _ .ret _ _
          refine ret_of (res1 rfl (rvT (rfl : _ = B false))) ?_
          exact ⟨_, rfl, rfl, S103.keep⟩
        · replace H := condF c104 H
          refine eB c104 ?_
          refine gT rfl rfl (p_mB rfl ?_)
          refine gT rfl rfl (p_fld fl49_0 rfl ?_)
          refine gT rfl rfl (p_ld ty3 (S103.atX (i := 0) rfl) rfl rfl ?_)
          refine gT rfl rfl (p_fld fl49_1 rfl ?_)
          refine gT rfl rfl (p_ld ty3 (S103.atX (i := 0) rfl) rfl rfl ?_)
          refine gT rfl rfl (p_cmp rfl rfl rfl ?_)
          refine gT rfl rfl (o_neB rfl rfl ub4 ?_)
          refine p_pkF rfl (rfl : _ = B (r100.1 != (decide (r86.Low ≤ r86.High)))) ?_
          refine wp_nil ?_
          refine c_cond rfl (fun c105 => ?_) (fun c105 => ?_)
          · replace H := condT c105 H
            refine c_seq ?_
            refine reg ?_
            refine p_aB rfl ?_
            refine wp_nil ?_
            obtain rfl := Option.some.inj H
            refine c_ret ?_; show bodyPostM (Fr none) 0 Tryd.prog Tryd.f14 _ .ret _ _
            refine ret_of (res1 rfl (rvT (rfl : _ = B false))) ?_
            exact ⟨_, rfl, rfl, S103.keep⟩
          · replace H := condF c105 H
            refine c_skip ?_
            refine c_seq ?_
            refine c_seq ?_
            refine reg ?_
            refine p_mB rfl ?_
            refine p_not rfl ?_
            refine wp_nil ?_
            refine c_cond rfl (fun c106 => ?_) (fun c106 => ?_)
            · replace H := condT c106 H
              refine c_seq ?_
              refine reg ?_
              obtain ⟨r107, h108, H⟩ := bindS H
              refine p_cv (law_counted_ok h108 (S103.atP (i := 0) rfl) (S103.atP (i := 1) rfl)) fu19 rfl S103 fun w109 S110 => ?_
              refine p_aB rfl ?_
              refine wp_nil ?_
              obtain rfl := Option.some.inj H
              refine c_ret ?_; show bodyPostM (Fr none) 0 Tryd.prog Tryd.f14 _ .ret _ _
              refine ret_of (res1 rfl (rvT (rfl : _ = B r107))) ?_
              exact ⟨_, rfl, rfl, S110.keep⟩
            · replace H := condF c106 H
              refine c_skip ?_
              refine c_seq ?_
              refine reg ?_
              refine p_ldA ty24 sz24 (S103.atX (i := 2) rfl) rfl rfl ?_
              refine p_mI rfl ?_
              refine p_mI rfl ?_
              obtain ⟨r111, h112, H⟩ := bindS H
              refine p_cv (tally_Many_ok h112 (gr_rd eTallyCount_len (S103.atX (i := 1) rfl)) (S103.atP (i := 0) rfl) (S103.atP (i := 1) rfl)) fu32 rfl S103 fun w113 S114 => ?_
              refine p_mT rfl ?_
              refine p_ext rfl rfl ?_
              refine p_ext rfl rfl ?_
              refine p_allA in49 S114 fun b115 w116 S117 => ?_
              refine p_stP (pre := []) (old := [I 0, I 0]) (post := []) (vs := [I r111.1.Low, I r111.1.High]) sz49 S117 (i := 0) rfl rfl rfl rfl (rfl : _ = AG [I r111.1.Low, I r111.1.High]) rfl rfl rfl rfl fun w118 S119 => ?_
              refine p_aI rfl ?_
              refine wp_nil ?_
              refine c_seq ?_
              refine reg ?_
              refine p_ixc ar77 rfl rfl (by decide) (by decide) ?_
              refine p_ld ty3 (S119.atX (i := 6) rfl) rfl rfl ?_
              refine p_fld fl24_0 rfl ?_
              refine p_ld ty3 (S119.atX (i := 5) rfl) rfl rfl ?_
              obtain ⟨r120, h121, H⟩ := bindS H
              refine p_cv (B_Mod_ok h121) fu27 rfl S119 fun w122 S123 => ?_
              refine p_aI rfl ?_
              refine wp_nil ?_
              refine c_seq ?_
              refine reg ?_
              refine p_ldA ty24 sz24 (S123.atX (i := 3) rfl) rfl rfl ?_
              refine p_mI rfl ?_
              refine p_mI rfl ?_
              obtain ⟨r124, h125, H⟩ := bindS H
              refine p_cv (tally_Many_ok h125 (gr_rd eTallyCount_len (S123.atX (i := 2) rfl)) (S123.atP (i := 0) rfl) (S123.atP (i := 1) rfl)) fu32 rfl S123 fun w126 S127 => ?_
              refine p_mT rfl ?_
              refine p_ext rfl rfl ?_
              refine p_ext rfl rfl ?_
              refine p_allA in49 S127 fun b128 w129 S130 => ?_
              refine p_stP (pre := []) (old := [I 0, I 0]) (post := []) (vs := [I r124.1.Low, I r124.1.High]) sz49 S130 (i := 0) rfl rfl rfl rfl (rfl : _ = AG [I r124.1.Low, I r124.1.High]) rfl rfl rfl rfl fun w131 S132 => ?_
              refine p_aI rfl ?_
              refine wp_nil ?_
              refine c_seq ?_
              rcases Bool.eq_false_or_eq_true ((r111.2 == 0)) with c133 | c133
              · replace H := condT c133 H
                rcases Bool.eq_false_or_eq_true (((r111.1.Low == r86.Low) && (r111.1.High == r86.High))) with c134 | c134
                · replace H := condT c134 H
                  rcases Bool.eq_false_or_eq_true ((r124.2 == 0)) with c135 | c135
                  · replace H := condT c135 H
                    obtain ⟨r136, h137, H⟩ := bindS H
                    rcases Bool.eq_false_or_eq_true (r136) with c138 | c138
                    · replace H := condT c138 H
                      obtain ⟨r139, h140, H⟩ := bindS H
                      refine reg_q mixed 28 (by kernel_rfl) ?_
                      refine dS (fun _ k_ => p_mI rfl dn) ?_
                      refine dS (fun _ k_ => p_cmp rfl rfl rfl dn) ?_
                      refine dS (fun _ k_ => p_mB rfl dn) ?_
                      refine dB c133 ?_
                      refine dS (fun _ k_ => gT rfl rfl (p_ldA ty49 sz49 (Asr.stays (S132.atX (i := 1) rfl) k_) rfl rfl dn)) ?_
                      refine dS (fun _ k_ => gT rfl rfl (p_ldA ty49 sz49 (Asr.stays (S132.atX (i := 2) rfl) k_) rfl rfl dn)) ?_
                      refine dS (fun _ k_ => gT rfl rfl (o_eqA (xs := [I r111.1.Low, I r111.1.High]) (ys := [I r86.Low, I r86.High]) (T := ((r111.1.Low == r86.Low) && (r111.1.High == r86.High))) rfl rfl eq49 ⟨⟨_, rfl⟩, ⟨⟨_, rfl⟩, trivial⟩⟩ ⟨⟨_, rfl⟩, ⟨⟨_, rfl⟩, trivial⟩⟩ (by simp [Bool.and_eq_true, and_assoc]) dn)) ?_
                      refine dS (fun _ k_ => p_pkT rfl (rfl : _ = B ((r111.1.Low == r86.Low) && (r111.1.High == r86.High))) dn) ?_
                      refine dS (fun _ k_ => p_mB rfl dn) ?_
                      refine dB c134 ?_
                      refine dS (fun _ k_ => gT rfl rfl (p_mI rfl dn)) ?_
                      refine dS (fun _ k_ => gT rfl rfl (p_cmp rfl rfl rfl dn)) ?_
                      refine dS (fun _ k_ => p_pkT rfl (rfl : _ = B (r124.2 == 0)) dn) ?_
                      refine dS (fun _ k_ => p_mB rfl dn) ?_
                      refine dB c135 ?_
                      refine dS (fun _ k_ => gT rfl rfl (p_mI rfl dn)) ?_
                      refine dS (fun _ k_ => gT rfl rfl (p_mI rfl dn)) ?_
                      refine dS (fun _ k_ => gT rfl rfl (p_mI rfl dn)) ?_
                      refine dS (fun _ k_ => gT rfl rfl (p_cvD (B_Inside_ok h137) fu40 rfl)) ?_
                      refine dS (fun _ k_ => gT rfl rfl (p_mB rfl dn)) ?_
                      refine dB c138 ?_
                      refine dS (fun _ k_ => gF rfl rfl dnU) ?_
                      refine dS (fun _ k_ => gF rfl rfl dnU) ?_
                      refine dS (fun _ k_ => gF rfl rfl dnU) ?_
                      refine dS (fun _ k_ => gF rfl rfl dnU) ?_
                      refine dS (fun _ k_ => gF rfl rfl dnU) ?_
                      refine dS (fun _ k_ => gT rfl rfl (p_pkT rfl (rfl : _ = B true) dn)) ?_
                      refine dS (fun _ k_ => p_pkT rfl (rfl : _ = B true) dn) ?_
                      refine dS (fun _ k_ => p_mB rfl dn) ?_
                      refine dS (fun _ k_ => gT rfl rfl (p_cvD (law_counted_ok h140 (Asr.stays (S132.atP (i := 0) rfl) k_) (Asr.stays (S132.atP (i := 1) rfl) k_)) fu19 rfl)) ?_
                      refine dS (fun _ k_ => p_pkT rfl (rfl : _ = B r139) dn) ?_
                      refine dS (fun _ k_ => p_aB rfl dn) ?_
                      intro w141 k142; have S143 := S132.call k142
                      refine wp_nil ?_
                      obtain rfl := Option.some.inj H
                      refine c_ret ?_; show bodyPostM (Fr none) 0 Tryd.prog Tryd.f14 _ .ret _ _
                      refine ret_of (res1 rfl (rvT (rfl : _ = B r139))) ?_
                      exact ⟨_, rfl, rfl, S143.keep⟩
                    · replace H := condF c138 H
                      obtain ⟨r144, h145, H⟩ := bindS H
                      rcases Bool.eq_false_or_eq_true (((r124.1.Low == r144.Low) && (r124.1.High == r144.High))) with c146 | c146
                      · replace H := condT c146 H
                        obtain ⟨r147, h148, H⟩ := bindS H
                        refine reg_q mixed 28 (by kernel_rfl) ?_
                        refine dS (fun _ k_ => p_mI rfl dn) ?_
                        refine dS (fun _ k_ => p_cmp rfl rfl rfl dn) ?_
                        refine dS (fun _ k_ => p_mB rfl dn) ?_
                        refine dB c133 ?_
                        refine dS (fun _ k_ => gT rfl rfl (p_ldA ty49 sz49 (Asr.stays (S132.atX (i := 1) rfl) k_) rfl rfl dn)) ?_
                        refine dS (fun _ k_ => gT rfl rfl (p_ldA ty49 sz49 (Asr.stays (S132.atX (i := 2) rfl) k_) rfl rfl dn)) ?_
                        refine dS (fun _ k_ => gT rfl rfl (o_eqA (xs := [I r111.1.Low, I r111.1.High]) (ys := [I r86.Low, I r86.High]) (T := ((r111.1.Low == r86.Low) && (r111.1.High == r86.High))) rfl rfl eq49 ⟨⟨_, rfl⟩, ⟨⟨_, rfl⟩, trivial⟩⟩ ⟨⟨_, rfl⟩, ⟨⟨_, rfl⟩, trivial⟩⟩ (by simp [Bool.and_eq_true, and_assoc]) dn)) ?_
                        refine dS (fun _ k_ => p_pkT rfl (rfl : _ = B ((r111.1.Low == r86.Low) && (r111.1.High == r86.High))) dn) ?_
                        refine dS (fun _ k_ => p_mB rfl dn) ?_
                        refine dB c134 ?_
                        refine dS (fun _ k_ => gT rfl rfl (p_mI rfl dn)) ?_
                        refine dS (fun _ k_ => gT rfl rfl (p_cmp rfl rfl rfl dn)) ?_
                        refine dS (fun _ k_ => p_pkT rfl (rfl : _ = B (r124.2 == 0)) dn) ?_
                        refine dS (fun _ k_ => p_mB rfl dn) ?_
                        refine dB c135 ?_
                        refine dS (fun _ k_ => gT rfl rfl (p_mI rfl dn)) ?_
                        refine dS (fun _ k_ => gT rfl rfl (p_mI rfl dn)) ?_
                        refine dS (fun _ k_ => gT rfl rfl (p_mI rfl dn)) ?_
                        refine dS (fun _ k_ => gT rfl rfl (p_cvD (B_Inside_ok h137) fu40 rfl)) ?_
                        refine dS (fun _ k_ => gT rfl rfl (p_mB rfl dn)) ?_
                        refine dB c138 ?_
                        refine dS (fun _ k_ => gT rfl rfl (p_ldA ty49 sz49 (Asr.stays (S132.atX (i := 0) rfl) k_) rfl rfl dn)) ?_
                        refine dS (fun _ k_ => gT rfl rfl (p_fld fl24_1 rfl dn)) ?_
                        refine dS (fun _ k_ => gT rfl rfl (p_ld ty3 (Asr.stays (S132.atX (i := 6) rfl) k_) rfl rfl dn)) ?_
                        refine dS (fun _ k_ => gT rfl rfl (p_cvD (B_Range_ok h145) fu41 rfl)) ?_
                        refine dS (fun _ k_ => gT rfl rfl (o_eqA (xs := [I r124.1.Low, I r124.1.High]) (ys := [I r144.Low, I r144.High]) (T := ((r124.1.Low == r144.Low) && (r124.1.High == r144.High))) rfl rfl eq49 ⟨⟨_, rfl⟩, ⟨⟨_, rfl⟩, trivial⟩⟩ ⟨⟨_, rfl⟩, ⟨⟨_, rfl⟩, trivial⟩⟩ (by simp [Bool.and_eq_true, and_assoc]) dn)) ?_
                        refine dS (fun _ k_ => gT rfl rfl (p_pkF rfl (rfl : _ = B ((r124.1.Low == r144.Low) && (r124.1.High == r144.High))) dn)) ?_
                        refine dS (fun _ k_ => p_pkT rfl (rfl : _ = B ((r124.1.Low == r144.Low) && (r124.1.High == r144.High))) dn) ?_
                        refine dS (fun _ k_ => p_mB rfl dn) ?_
                        refine dB c146 ?_
                        refine dS (fun _ k_ => gT rfl rfl (p_cvD (law_counted_ok h148 (Asr.stays (S132.atP (i := 0) rfl) k_) (Asr.stays (S132.atP (i := 1) rfl) k_)) fu19 rfl)) ?_
                        refine dS (fun _ k_ => p_pkT rfl (rfl : _ = B r147) dn) ?_
                        refine dS (fun _ k_ => p_aB rfl dn) ?_
                        intro w149 k150; have S151 := S132.call k150
                        refine wp_nil ?_
                        obtain rfl := Option.some.inj H
                        refine c_ret ?_; show bodyPostM (Fr none) 0 Tryd.prog Tryd.f14 _ .ret _ _
                        refine ret_of (res1 rfl (rvT (rfl : _ = B r147))) ?_
                        exact ⟨_, rfl, rfl, S151.keep⟩
                      · replace H := condF c146 H
                        refine reg_q mixed 28 (by kernel_rfl) ?_
                        refine dS (fun _ k_ => p_mI rfl dn) ?_
                        refine dS (fun _ k_ => p_cmp rfl rfl rfl dn) ?_
                        refine dS (fun _ k_ => p_mB rfl dn) ?_
                        refine dB c133 ?_
                        refine dS (fun _ k_ => gT rfl rfl (p_ldA ty49 sz49 (Asr.stays (S132.atX (i := 1) rfl) k_) rfl rfl dn)) ?_
                        refine dS (fun _ k_ => gT rfl rfl (p_ldA ty49 sz49 (Asr.stays (S132.atX (i := 2) rfl) k_) rfl rfl dn)) ?_
                        refine dS (fun _ k_ => gT rfl rfl (o_eqA (xs := [I r111.1.Low, I r111.1.High]) (ys := [I r86.Low, I r86.High]) (T := ((r111.1.Low == r86.Low) && (r111.1.High == r86.High))) rfl rfl eq49 ⟨⟨_, rfl⟩, ⟨⟨_, rfl⟩, trivial⟩⟩ ⟨⟨_, rfl⟩, ⟨⟨_, rfl⟩, trivial⟩⟩ (by simp [Bool.and_eq_true, and_assoc]) dn)) ?_
                        refine dS (fun _ k_ => p_pkT rfl (rfl : _ = B ((r111.1.Low == r86.Low) && (r111.1.High == r86.High))) dn) ?_
                        refine dS (fun _ k_ => p_mB rfl dn) ?_
                        refine dB c134 ?_
                        refine dS (fun _ k_ => gT rfl rfl (p_mI rfl dn)) ?_
                        refine dS (fun _ k_ => gT rfl rfl (p_cmp rfl rfl rfl dn)) ?_
                        refine dS (fun _ k_ => p_pkT rfl (rfl : _ = B (r124.2 == 0)) dn) ?_
                        refine dS (fun _ k_ => p_mB rfl dn) ?_
                        refine dB c135 ?_
                        refine dS (fun _ k_ => gT rfl rfl (p_mI rfl dn)) ?_
                        refine dS (fun _ k_ => gT rfl rfl (p_mI rfl dn)) ?_
                        refine dS (fun _ k_ => gT rfl rfl (p_mI rfl dn)) ?_
                        refine dS (fun _ k_ => gT rfl rfl (p_cvD (B_Inside_ok h137) fu40 rfl)) ?_
                        refine dS (fun _ k_ => gT rfl rfl (p_mB rfl dn)) ?_
                        refine dB c138 ?_
                        refine dS (fun _ k_ => gT rfl rfl (p_ldA ty49 sz49 (Asr.stays (S132.atX (i := 0) rfl) k_) rfl rfl dn)) ?_
                        refine dS (fun _ k_ => gT rfl rfl (p_fld fl24_1 rfl dn)) ?_
                        refine dS (fun _ k_ => gT rfl rfl (p_ld ty3 (Asr.stays (S132.atX (i := 6) rfl) k_) rfl rfl dn)) ?_
                        refine dS (fun _ k_ => gT rfl rfl (p_cvD (B_Range_ok h145) fu41 rfl)) ?_
                        refine dS (fun _ k_ => gT rfl rfl (o_eqA (xs := [I r124.1.Low, I r124.1.High]) (ys := [I r144.Low, I r144.High]) (T := ((r124.1.Low == r144.Low) && (r124.1.High == r144.High))) rfl rfl eq49 ⟨⟨_, rfl⟩, ⟨⟨_, rfl⟩, trivial⟩⟩ ⟨⟨_, rfl⟩, ⟨⟨_, rfl⟩, trivial⟩⟩ (by simp [Bool.and_eq_true, and_assoc]) dn)) ?_
                        refine dS (fun _ k_ => gT rfl rfl (p_pkF rfl (rfl : _ = B ((r124.1.Low == r144.Low) && (r124.1.High == r144.High))) dn)) ?_
                        refine dS (fun _ k_ => p_pkT rfl (rfl : _ = B ((r124.1.Low == r144.Low) && (r124.1.High == r144.High))) dn) ?_
                        refine dS (fun _ k_ => p_mB rfl dn) ?_
                        refine dB c146 ?_
                        refine dS (fun _ k_ => gF rfl rfl dnU) ?_
                        refine dS (fun _ k_ => p_pkF rfl (rfl : _ = B false) dn) ?_
                        refine dS (fun _ k_ => p_aB rfl dn) ?_
                        intro w152 k153; have S154 := S132.call k153
                        refine wp_nil ?_
                        obtain rfl := Option.some.inj H
                        refine c_ret ?_; show bodyPostM (Fr none) 0 Tryd.prog Tryd.f14 _ .ret _ _
                        refine ret_of (res1 rfl (rvT (rfl : _ = B false))) ?_
                        exact ⟨_, rfl, rfl, S154.keep⟩
                  · replace H := condF c135 H
                    refine reg_q mixed 28 (by kernel_rfl) ?_
                    refine dS (fun _ k_ => p_mI rfl dn) ?_
                    refine dS (fun _ k_ => p_cmp rfl rfl rfl dn) ?_
                    refine dS (fun _ k_ => p_mB rfl dn) ?_
                    refine dB c133 ?_
                    refine dS (fun _ k_ => gT rfl rfl (p_ldA ty49 sz49 (Asr.stays (S132.atX (i := 1) rfl) k_) rfl rfl dn)) ?_
                    refine dS (fun _ k_ => gT rfl rfl (p_ldA ty49 sz49 (Asr.stays (S132.atX (i := 2) rfl) k_) rfl rfl dn)) ?_
                    refine dS (fun _ k_ => gT rfl rfl (o_eqA (xs := [I r111.1.Low, I r111.1.High]) (ys := [I r86.Low, I r86.High]) (T := ((r111.1.Low == r86.Low) && (r111.1.High == r86.High))) rfl rfl eq49 ⟨⟨_, rfl⟩, ⟨⟨_, rfl⟩, trivial⟩⟩ ⟨⟨_, rfl⟩, ⟨⟨_, rfl⟩, trivial⟩⟩ (by simp [Bool.and_eq_true, and_assoc]) dn)) ?_
                    refine dS (fun _ k_ => p_pkT rfl (rfl : _ = B ((r111.1.Low == r86.Low) && (r111.1.High == r86.High))) dn) ?_
                    refine dS (fun _ k_ => p_mB rfl dn) ?_
                    refine dB c134 ?_
                    refine dS (fun _ k_ => gT rfl rfl (p_mI rfl dn)) ?_
                    refine dS (fun _ k_ => gT rfl rfl (p_cmp rfl rfl rfl dn)) ?_
                    refine dS (fun _ k_ => p_pkT rfl (rfl : _ = B (r124.2 == 0)) dn) ?_
                    refine dS (fun _ k_ => p_mB rfl dn) ?_
                    refine dB c135 ?_
                    refine dS (fun _ k_ => gF rfl rfl dnU) ?_
                    refine dS (fun _ k_ => gF rfl rfl dnU) ?_
                    refine dS (fun _ k_ => gF rfl rfl dnU) ?_
                    refine dS (fun _ k_ => gF rfl rfl dnU) ?_
                    refine dS (fun _ k_ => gF rfl rfl dnU) ?_
                    refine dS (fun _ k_ => o_guardU rfl rfl dnU) ?_
                    refine dS (fun _ k_ => o_guardU rfl rfl dnU) ?_
                    refine dS (fun _ k_ => o_guardU rfl rfl dnU) ?_
                    refine dS (fun _ k_ => o_guardU rfl rfl dnU) ?_
                    refine dS (fun _ k_ => o_guardU rfl rfl dnU) ?_
                    refine dS (fun _ k_ => gF rfl rfl dnU) ?_
                    refine dS (fun _ k_ => p_pkF rfl (rfl : _ = B false) dn) ?_
                    refine dS (fun _ k_ => p_mB rfl dn) ?_
                    refine dS (fun _ k_ => gF rfl rfl dnU) ?_
                    refine dS (fun _ k_ => p_pkF rfl (rfl : _ = B false) dn) ?_
                    refine dS (fun _ k_ => p_aB rfl dn) ?_
                    intro w155 k156; have S157 := S132.call k156
                    refine wp_nil ?_
                    obtain rfl := Option.some.inj H
                    refine c_ret ?_; show bodyPostM (Fr none) 0 Tryd.prog Tryd.f14 _ .ret _ _
                    refine ret_of (res1 rfl (rvT (rfl : _ = B false))) ?_
                    exact ⟨_, rfl, rfl, S157.keep⟩
                · replace H := condF c134 H
                  refine reg_q mixed 28 (by kernel_rfl) ?_
                  refine dS (fun _ k_ => p_mI rfl dn) ?_
                  refine dS (fun _ k_ => p_cmp rfl rfl rfl dn) ?_
                  refine dS (fun _ k_ => p_mB rfl dn) ?_
                  refine dB c133 ?_
                  refine dS (fun _ k_ => gT rfl rfl (p_ldA ty49 sz49 (Asr.stays (S132.atX (i := 1) rfl) k_) rfl rfl dn)) ?_
                  refine dS (fun _ k_ => gT rfl rfl (p_ldA ty49 sz49 (Asr.stays (S132.atX (i := 2) rfl) k_) rfl rfl dn)) ?_
                  refine dS (fun _ k_ => gT rfl rfl (o_eqA (xs := [I r111.1.Low, I r111.1.High]) (ys := [I r86.Low, I r86.High]) (T := ((r111.1.Low == r86.Low) && (r111.1.High == r86.High))) rfl rfl eq49 ⟨⟨_, rfl⟩, ⟨⟨_, rfl⟩, trivial⟩⟩ ⟨⟨_, rfl⟩, ⟨⟨_, rfl⟩, trivial⟩⟩ (by simp [Bool.and_eq_true, and_assoc]) dn)) ?_
                  refine dS (fun _ k_ => p_pkT rfl (rfl : _ = B ((r111.1.Low == r86.Low) && (r111.1.High == r86.High))) dn) ?_
                  refine dS (fun _ k_ => p_mB rfl dn) ?_
                  refine dB c134 ?_
                  refine dS (fun _ k_ => gF rfl rfl dnU) ?_
                  refine dS (fun _ k_ => gF rfl rfl dnU) ?_
                  refine dS (fun _ k_ => p_pkF rfl (rfl : _ = B false) dn) ?_
                  refine dS (fun _ k_ => p_mB rfl dn) ?_
                  refine dS (fun _ k_ => gF rfl rfl dnU) ?_
                  refine dS (fun _ k_ => gF rfl rfl dnU) ?_
                  refine dS (fun _ k_ => gF rfl rfl dnU) ?_
                  refine dS (fun _ k_ => gF rfl rfl dnU) ?_
                  refine dS (fun _ k_ => gF rfl rfl dnU) ?_
                  refine dS (fun _ k_ => o_guardU rfl rfl dnU) ?_
                  refine dS (fun _ k_ => o_guardU rfl rfl dnU) ?_
                  refine dS (fun _ k_ => o_guardU rfl rfl dnU) ?_
                  refine dS (fun _ k_ => o_guardU rfl rfl dnU) ?_
                  refine dS (fun _ k_ => o_guardU rfl rfl dnU) ?_
                  refine dS (fun _ k_ => gF rfl rfl dnU) ?_
                  refine dS (fun _ k_ => p_pkF rfl (rfl : _ = B false) dn) ?_
                  refine dS (fun _ k_ => p_mB rfl dn) ?_
                  refine dS (fun _ k_ => gF rfl rfl dnU) ?_
                  refine dS (fun _ k_ => p_pkF rfl (rfl : _ = B false) dn) ?_
                  refine dS (fun _ k_ => p_aB rfl dn) ?_
                  intro w158 k159; have S160 := S132.call k159
                  refine wp_nil ?_
                  obtain rfl := Option.some.inj H
                  refine c_ret ?_; show bodyPostM (Fr none) 0 Tryd.prog Tryd.f14 _ .ret _ _
                  refine ret_of (res1 rfl (rvT (rfl : _ = B false))) ?_
                  exact ⟨_, rfl, rfl, S160.keep⟩
              · replace H := condF c133 H
                refine reg_q mixed 28 (by kernel_rfl) ?_
                refine dS (fun _ k_ => p_mI rfl dn) ?_
                refine dS (fun _ k_ => p_cmp rfl rfl rfl dn) ?_
                refine dS (fun _ k_ => p_mB rfl dn) ?_
                refine dB c133 ?_
                refine dS (fun _ k_ => gF rfl rfl dnU) ?_
                refine dS (fun _ k_ => gF rfl rfl dnU) ?_
                refine dS (fun _ k_ => gF rfl rfl dnU) ?_
                refine dS (fun _ k_ => p_pkF rfl (rfl : _ = B false) dn) ?_
                refine dS (fun _ k_ => p_mB rfl dn) ?_
                refine dS (fun _ k_ => gF rfl rfl dnU) ?_
                refine dS (fun _ k_ => gF rfl rfl dnU) ?_
                refine dS (fun _ k_ => p_pkF rfl (rfl : _ = B false) dn) ?_
                refine dS (fun _ k_ => p_mB rfl dn) ?_
                refine dS (fun _ k_ => gF rfl rfl dnU) ?_
                refine dS (fun _ k_ => gF rfl rfl dnU) ?_
                refine dS (fun _ k_ => gF rfl rfl dnU) ?_
                refine dS (fun _ k_ => gF rfl rfl dnU) ?_
                refine dS (fun _ k_ => gF rfl rfl dnU) ?_
                refine dS (fun _ k_ => o_guardU rfl rfl dnU) ?_
                refine dS (fun _ k_ => o_guardU rfl rfl dnU) ?_
                refine dS (fun _ k_ => o_guardU rfl rfl dnU) ?_
                refine dS (fun _ k_ => o_guardU rfl rfl dnU) ?_
                refine dS (fun _ k_ => o_guardU rfl rfl dnU) ?_
                refine dS (fun _ k_ => gF rfl rfl dnU) ?_
                refine dS (fun _ k_ => p_pkF rfl (rfl : _ = B false) dn) ?_
                refine dS (fun _ k_ => p_mB rfl dn) ?_
                refine dS (fun _ k_ => gF rfl rfl dnU) ?_
                refine dS (fun _ k_ => p_pkF rfl (rfl : _ = B false) dn) ?_
                refine dS (fun _ k_ => p_aB rfl dn) ?_
                intro w161 k162; have S163 := S132.call k162
                refine wp_nil ?_
                obtain rfl := Option.some.inj H
                refine c_ret ?_; show bodyPostM (Fr none) 0 Tryd.prog Tryd.f14 _ .ret _ _
                refine ret_of (res1 rfl (rvT (rfl : _ = B false))) ?_
                exact ⟨_, rfl, rfl, S163.keep⟩

end Go.Proofs.YtplpalmabgjibaaDoor

/- What the law's function computes, and that it does, printed by a program of mine. -/
import Derived.Test.YtplpalmabgjibaaDoorWC
set_option linter.unusedVariables false
set_option linter.unusedSimpArgs false
namespace Go.Proofs.YtplpalmabgjibaaDoor
open Go Go.Fx Go.Proofs
def law_TallyEach_l1 (r29 : Span × Int) (r68 : Int) (r21 : Int) (r25 : Int) (a0 : TallyBook) (rec_z_1 : Int → Option Bool) (z_1 : Int) : Option Bool :=
  bif decide (z_1 < ([r29.1.Low, r29.1.High, r68, wr (r29.1.Low - 1), wr (r29.1.High + 1)].length : Int)) then ((getI [r29.1.Low, r29.1.High, r68, wr (r29.1.Low - 1), wr (r29.1.High + 1)] z_1).bind fun r83 =>
  (B_Inside r83 0 99).bind fun r85 =>
  bif !r85 then (rec_z_1 (wr (z_1 + 1)))
  else ((getI [r29.1.Low, r29.1.High, r68, wr (r29.1.Low - 1), wr (r29.1.High + 1)] z_1).bind fun r90 =>
  (law_count 2 r21 (wr (r21 + r25)) r90 1 0 0).bind fun r92 =>
  (tally_Fits a0 r92).bind fun r94 =>
  bif (r94.2 != 0) then (some false)
  else (bif (r94.1 != (decide (z_1 < 3))) then (some false)
  else (rec_z_1 (wr (z_1 + 1))))))
  else ((law_counted).bind fun r101 =>
  some r101)

def law_TallyEach (a0 : TallyBook) (a1 : List Int) : Option Bool :=
  (law_sound a0).bind fun r12 =>
  bif !r12 then ((law_counted).bind fun r17 =>
  some r17)
  else ((B_Mod (aget a1 0) a0.Trips).bind fun r21 =>
  (B_Mod (aget a1 1) (wr (a0.Trips - r21))).bind fun r25 =>
  (tally_Many a0 r21 (wr (r21 + r25))).bind fun r29 =>
  bif (r29.2 != 0) then ((law_count 2 r21 (wr (r21 + r25)) 0 1 0 0).bind fun r39 =>
  (tally_Fits a0 r39).bind fun r41 =>
  bif (r29.2 == 52) then (bif (r41.2 == r29.2) then ((B_Point 0).bind fun r48 =>
  bif ((r29.1.Low == r48.Low) && (r29.1.High == r48.High)) then ((law_counted).bind fun r51 =>
  some r51)
  else (some false))
  else (some false))
  else (some false))
  else (bif decide (r29.1.Low > r29.1.High) then (some false)
  else (bif decide (r29.1.Low < 0) then (some false)
  else (bif decide (r29.1.High > (wr (a0.Room * (wr ((wr ((wr (r21 + r25)) - r21)) + 1))))) then (some false)
  else ((B_Within r29.1 (aget a1 2)).bind fun r68 =>
  loopF (law_TallyEach_l1 r29 r68 r21 r25 a0) big 0)))))

set_option maxRecDepth 100000 in
theorem law_TallyEach_ok {a0 : TallyBook} {a1 : List Int} {A1 : Option Addr} {c2 : Nat} {w : World} {r : Bool} (H : law_TallyEach a0 a1 = some r) (h3 : (rd eTallyCount 7 A1 c2 a0.Counts).ok w) (hg4 : (bl 0 [Value.func (.func 117) #[] #[], Value.func (.func 119) #[] #[]] 117).ok w) (hg5 : (bl 1 [I (-1), I (-1)] 115).ok w) : Calls Tryd.prog 7 #[AG [I a0.Trips, I a0.Room, SL A1 a0.Counts.length c2], AG (sg a1 3)] w (RetV w (B r)) := by
  unfold law_TallyEach at H
  refine fn_of (n := 135) Tryd.func7 rfl rfl (Nat.le_of_ble_eq_true rfl) ?_
  have S : St w (fun _ => False) w [] [rd eTallyCount 7 A1 c2 a0.Counts, bl 0 [Value.func (.func 117) #[] #[], Value.func (.func 119) #[] #[]] 117, bl 1 [I (-1), I (-1)] 115] := St.start w _ _ (List.forall_mem_cons.2 ⟨h3, (List.forall_mem_cons.2 ⟨hg4, (List.forall_mem_cons.2 ⟨hg5, (fun _ h_ => (List.not_mem_nil h_).elim)⟩)⟩)⟩)
  refine c_seq ?_
  refine reg ?_
  refine p_boxA rfl S fun b6 w7 S8 => ?_
  refine p_boxA rfl S8 fun b9 w10 S11 => ?_
  refine p_aB rfl ?_
  refine wp_nil ?_
  refine c_seq ?_
  refine c_seq ?_
  refine reg ?_
  refine p_ldA ty24 sz24 (S11.atX (i := 1) rfl) rfl rfl ?_
  obtain ⟨r12, h13, H⟩ := bindS H
  refine p_cv (law_sound_ok h13 (S11.atP (i := 0) rfl)) fu24 rfl S11 fun w14 S15 => ?_
  refine p_not rfl ?_
  refine wp_nil ?_
  refine c_cond rfl (fun c16 => ?_) (fun c16 => ?_)
  · replace H := condT c16 H
    refine c_seq ?_
    refine reg ?_
    obtain ⟨r17, h18, H⟩ := bindS H
    refine p_cv (law_counted_ok h18 (S15.atP (i := 1) rfl) (S15.atP (i := 2) rfl)) fu19 rfl S15 fun w19 S20 => ?_
    refine p_aB rfl ?_
    refine wp_nil ?_
    obtain rfl := Option.some.inj H
    refine c_ret ?_; show bodyPostM (Fr none) 0 Tryd.prog Tryd.f7 _ .ret _ _
    refine ret_of (res1 rfl (rvT (rfl : _ = B r17))) ?_
    exact ⟨_, rfl, rfl, S20.keep⟩
  · replace H := condF c16 H
    refine c_skip ?_
    refine c_seq ?_
    refine reg ?_
    refine p_ixc ar25 rfl rfl (by decide) (by decide) ?_
    refine p_ld ty3 (S15.atX (i := 0) rfl) rfl rfl ?_
    refine p_fld fl24_0 rfl ?_
    refine p_ld ty3 (S15.atX (i := 1) rfl) rfl rfl ?_
    obtain ⟨r21, h22, H⟩ := bindS H
    refine p_cv (B_Mod_ok h22) fu27 rfl S15 fun w23 S24 => ?_
    refine p_aI rfl ?_
    refine wp_nil ?_
    refine c_seq ?_
    refine reg ?_
    refine p_mI rfl ?_
    refine p_ixc ar25 rfl rfl (by decide) (by decide) ?_
    refine p_ld ty3 (S24.atX (i := 0) rfl) rfl rfl ?_
    refine p_fld fl24_0 rfl ?_
    refine p_ld ty3 (S24.atX (i := 1) rfl) rfl rfl ?_
    refine p_mI rfl ?_
    refine p_sub rfl rfl ?_
    obtain ⟨r25, h26, H⟩ := bindS H
    refine p_cv (B_Mod_ok h26) fu27 rfl S24 fun w27 S28 => ?_
    refine p_add rfl rfl ?_
    refine p_aI rfl ?_
    refine wp_nil ?_
    refine c_seq ?_
    refine reg ?_
    refine p_ldA ty24 sz24 (S28.atX (i := 1) rfl) rfl rfl ?_
    refine p_mI rfl ?_
    refine p_mI rfl ?_
    obtain ⟨r29, h30, H⟩ := bindS H
    refine p_cv (tally_Many_ok h30 (S28.atP (i := 0) rfl) (S28.atP (i := 1) rfl) (S28.atP (i := 2) rfl)) fu32 rfl S28 fun w31 S32 => ?_
    refine p_mT rfl ?_
    refine p_ext rfl rfl ?_
    refine p_ext rfl rfl ?_
    refine p_allA in49 S32 fun b33 w34 S35 => ?_
    refine p_stP (pre := []) (old := [I 0, I 0]) (post := []) (vs := [I r29.1.Low, I r29.1.High]) sz49 S35 (i := 0) rfl rfl rfl rfl (rfl : _ = AG [I r29.1.Low, I r29.1.High]) rfl rfl rfl rfl fun w36 S37 => ?_
    refine p_aI rfl ?_
    refine wp_nil ?_
    refine c_seq ?_
    refine c_seq ?_
    refine reg ?_
    refine p_mI rfl ?_
    refine p_cmp rfl rfl rfl ?_
    refine wp_nil ?_
    refine c_cond rfl (fun c38 => ?_) (fun c38 => ?_)
    · replace H := condT c38 H
      refine c_seq ?_
      obtain ⟨r39, h40, H⟩ := bindS H
      obtain ⟨r41, h42, H⟩ := bindS H
      refine reg_q mixed 10 (by kernel_rfl) ?_
      refine dS (fun _ k_ => p_ldA ty24 sz24 (Asr.stays (S37.atX (i := 2) rfl) k_) rfl rfl dn) ?_
      refine dS (fun _ k_ => p_mI rfl dn) ?_
      refine dS (fun _ k_ => p_mI rfl dn) ?_
      refine dS (fun _ k_ => p_cvD (law_count_ok h40) fu37 rfl) ?_
      refine dS (fun _ k_ => p_cvD (tally_Fits_ok h42 (Asr.stays (S37.atP (i := 0) rfl) k_) (Asr.stays (S37.atP (i := 1) rfl) k_) (Asr.stays (S37.atP (i := 2) rfl) k_)) fu36 rfl) ?_
      refine dS (fun _ k_ => p_mT rfl dn) ?_
      refine dS (fun _ k_ => p_ext rfl rfl dn) ?_
      refine dS (fun _ k_ => p_ext rfl rfl dn) ?_
      refine dS (fun _ k_ => p_aB rfl dn) ?_
      refine dS (fun _ k_ => p_aI rfl dn) ?_
      intro w43 k44; have S45 := S37.call k44
      refine wp_nil ?_
      refine c_seq ?_
      rcases Bool.eq_false_or_eq_true ((r29.2 == 52)) with c46 | c46
      · replace H := condT c46 H
        rcases Bool.eq_false_or_eq_true ((r41.2 == r29.2)) with c47 | c47
        · replace H := condT c47 H
          obtain ⟨r48, h49, H⟩ := bindS H
          rcases Bool.eq_false_or_eq_true (((r29.1.Low == r48.Low) && (r29.1.High == r48.High))) with c50 | c50
          · replace H := condT c50 H
            obtain ⟨r51, h52, H⟩ := bindS H
            refine reg_q mixed 16 (by kernel_rfl) ?_
            refine dS (fun _ k_ => p_mI rfl dn) ?_
            refine dS (fun _ k_ => p_cmp rfl rfl rfl dn) ?_
            refine dS (fun _ k_ => p_mB rfl dn) ?_
            refine dB c46 ?_
            refine dS (fun _ k_ => gT rfl rfl (p_mI rfl dn)) ?_
            refine dS (fun _ k_ => gT rfl rfl (p_mI rfl dn)) ?_
            refine dS (fun _ k_ => gT rfl rfl (p_cmp rfl rfl rfl dn)) ?_
            refine dS (fun _ k_ => p_pkT rfl (rfl : _ = B (r41.2 == r29.2)) dn) ?_
            refine dS (fun _ k_ => p_mB rfl dn) ?_
            refine dB c47 ?_
            refine dS (fun _ k_ => gT rfl rfl (p_ldA ty49 sz49 (Asr.stays (S45.atX (i := 0) rfl) k_) rfl rfl dn)) ?_
            refine dS (fun _ k_ => gT rfl rfl (p_cvD (B_Point_ok h49) fu38 rfl)) ?_
            refine dS (fun _ k_ => gT rfl rfl (o_eqA (xs := [I r29.1.Low, I r29.1.High]) (ys := [I r48.Low, I r48.High]) (T := ((r29.1.Low == r48.Low) && (r29.1.High == r48.High))) rfl rfl eq49 ⟨⟨_, rfl⟩, ⟨⟨_, rfl⟩, trivial⟩⟩ ⟨⟨_, rfl⟩, ⟨⟨_, rfl⟩, trivial⟩⟩ (by simp [Bool.and_eq_true, and_assoc]) dn)) ?_
            refine dS (fun _ k_ => p_pkT rfl (rfl : _ = B ((r29.1.Low == r48.Low) && (r29.1.High == r48.High))) dn) ?_
            refine dS (fun _ k_ => p_mB rfl dn) ?_
            refine dB c50 ?_
            refine dS (fun _ k_ => gT rfl rfl (p_cvD (law_counted_ok h52 (Asr.stays (S45.atP (i := 1) rfl) k_) (Asr.stays (S45.atP (i := 2) rfl) k_)) fu19 rfl)) ?_
            refine dS (fun _ k_ => p_pkT rfl (rfl : _ = B r51) dn) ?_
            refine dS (fun _ k_ => p_aB rfl dn) ?_
            intro w53 k54; have S55 := S45.call k54
            refine wp_nil ?_
            obtain rfl := Option.some.inj H
            refine c_ret ?_; show bodyPostM (Fr none) 0 Tryd.prog Tryd.f7 _ .ret _ _
            refine ret_of (res1 rfl (rvT (rfl : _ = B r51))) ?_
            exact ⟨_, rfl, rfl, S55.keep⟩
          · replace H := condF c50 H
            refine reg_q mixed 16 (by kernel_rfl) ?_
            refine dS (fun _ k_ => p_mI rfl dn) ?_
            refine dS (fun _ k_ => p_cmp rfl rfl rfl dn) ?_
            refine dS (fun _ k_ => p_mB rfl dn) ?_
            refine dB c46 ?_
            refine dS (fun _ k_ => gT rfl rfl (p_mI rfl dn)) ?_
            refine dS (fun _ k_ => gT rfl rfl (p_mI rfl dn)) ?_
            refine dS (fun _ k_ => gT rfl rfl (p_cmp rfl rfl rfl dn)) ?_
            refine dS (fun _ k_ => p_pkT rfl (rfl : _ = B (r41.2 == r29.2)) dn) ?_
            refine dS (fun _ k_ => p_mB rfl dn) ?_
            refine dB c47 ?_
            refine dS (fun _ k_ => gT rfl rfl (p_ldA ty49 sz49 (Asr.stays (S45.atX (i := 0) rfl) k_) rfl rfl dn)) ?_
            refine dS (fun _ k_ => gT rfl rfl (p_cvD (B_Point_ok h49) fu38 rfl)) ?_
            refine dS (fun _ k_ => gT rfl rfl (o_eqA (xs := [I r29.1.Low, I r29.1.High]) (ys := [I r48.Low, I r48.High]) (T := ((r29.1.Low == r48.Low) && (r29.1.High == r48.High))) rfl rfl eq49 ⟨⟨_, rfl⟩, ⟨⟨_, rfl⟩, trivial⟩⟩ ⟨⟨_, rfl⟩, ⟨⟨_, rfl⟩, trivial⟩⟩ (by simp [Bool.and_eq_true, and_assoc]) dn)) ?_
            refine dS (fun _ k_ => p_pkT rfl (rfl : _ = B ((r29.1.Low == r48.Low) && (r29.1.High == r48.High))) dn) ?_
            refine dS (fun _ k_ => p_mB rfl dn) ?_
            refine dB c50 ?_
            refine dS (fun _ k_ => gF rfl rfl dnU) ?_
            refine dS (fun _ k_ => p_pkF rfl (rfl : _ = B false) dn) ?_
            refine dS (fun _ k_ => p_aB rfl dn) ?_
            intro w56 k57; have S58 := S45.call k57
            refine wp_nil ?_
            obtain rfl := Option.some.inj H
            refine c_ret ?_; show bodyPostM (Fr none) 0 Tryd.prog Tryd.f7 _ .ret _ _
            refine ret_of (res1 rfl (rvT (rfl : _ = B false))) ?_
            exact ⟨_, rfl, rfl, S58.keep⟩
        · replace H := condF c47 H
          refine reg_q mixed 16 (by kernel_rfl) ?_
          refine dS (fun _ k_ => p_mI rfl dn) ?_
          refine dS (fun _ k_ => p_cmp rfl rfl rfl dn) ?_
          refine dS (fun _ k_ => p_mB rfl dn) ?_
          refine dB c46 ?_
          refine dS (fun _ k_ => gT rfl rfl (p_mI rfl dn)) ?_
          refine dS (fun _ k_ => gT rfl rfl (p_mI rfl dn)) ?_
          refine dS (fun _ k_ => gT rfl rfl (p_cmp rfl rfl rfl dn)) ?_
          refine dS (fun _ k_ => p_pkT rfl (rfl : _ = B (r41.2 == r29.2)) dn) ?_
          refine dS (fun _ k_ => p_mB rfl dn) ?_
          refine dB c47 ?_
          refine dS (fun _ k_ => gF rfl rfl dnU) ?_
          refine dS (fun _ k_ => gF rfl rfl dnU) ?_
          refine dS (fun _ k_ => gF rfl rfl dnU) ?_
          refine dS (fun _ k_ => p_pkF rfl (rfl : _ = B false) dn) ?_
          refine dS (fun _ k_ => p_mB rfl dn) ?_
          refine dS (fun _ k_ => gF rfl rfl dnU) ?_
          refine dS (fun _ k_ => p_pkF rfl (rfl : _ = B false) dn) ?_
          refine dS (fun _ k_ => p_aB rfl dn) ?_
          intro w59 k60; have S61 := S45.call k60
          refine wp_nil ?_
          obtain rfl := Option.some.inj H
          refine c_ret ?_; show bodyPostM (Fr none) 0 Tryd.prog Tryd.f7 _ .ret _ _
          refine ret_of (res1 rfl (rvT (rfl : _ = B false))) ?_
          exact ⟨_, rfl, rfl, S61.keep⟩
      · replace H := condF c46 H
        refine reg_q mixed 16 (by kernel_rfl) ?_
        refine dS (fun _ k_ => p_mI rfl dn) ?_
        refine dS (fun _ k_ => p_cmp rfl rfl rfl dn) ?_
        refine dS (fun _ k_ => p_mB rfl dn) ?_
        refine dB c46 ?_
        refine dS (fun _ k_ => gF rfl rfl dnU) ?_
        refine dS (fun _ k_ => gF rfl rfl dnU) ?_
        refine dS (fun _ k_ => gF rfl rfl dnU) ?_
        refine dS (fun _ k_ => p_pkF rfl (rfl : _ = B false) dn) ?_
        refine dS (fun _ k_ => p_mB rfl dn) ?_
        refine dS (fun _ k_ => gF rfl rfl dnU) ?_
        refine dS (fun _ k_ => gF rfl rfl dnU) ?_
        refine dS (fun _ k_ => gF rfl rfl dnU) ?_
        refine dS (fun _ k_ => p_pkF rfl (rfl : _ = B false) dn) ?_
        refine dS (fun _ k_ => p_mB rfl dn) ?_
        refine dS (fun _ k_ => gF rfl rfl dnU) ?_
        refine dS (fun _ k_ => p_pkF rfl (rfl : _ = B false) dn) ?_
        refine dS (fun _ k_ => p_aB rfl dn) ?_
        intro w62 k63; have S64 := S45.call k63
        refine wp_nil ?_
        obtain rfl := Option.some.inj H
        refine c_ret ?_; show bodyPostM (Fr none) 0 Tryd.prog Tryd.f7 _ .ret _ _
        refine ret_of (res1 rfl (rvT (rfl : _ = B false))) ?_
        exact ⟨_, rfl, rfl, S64.keep⟩
    · replace H := condF c38 H
      refine c_skip ?_
      refine c_seq ?_
      refine c_seq ?_
      refine reg ?_
      refine p_fld fl49_0 rfl ?_
      refine p_ld ty3 (S37.atX (i := 0) rfl) rfl rfl ?_
      refine p_fld fl49_1 rfl ?_
      refine p_ld ty3 (S37.atX (i := 0) rfl) rfl rfl ?_
      refine p_cmp rfl rfl rfl ?_
      refine p_mB rfl ?_
      rcases Bool.eq_false_or_eq_true (decide (r29.1.Low > r29.1.High)) with c65 | c65
      · replace H := condT c65 H
        refine eB c65 ?_
        refine gF rfl rfl ?_
        refine gF rfl rfl ?_
        refine gF rfl rfl ?_
        refine p_pkT rfl (rfl : _ = B true) ?_
        refine p_mB rfl ?_
        refine gF rfl rfl ?_
        refine gF rfl rfl ?_
        refine gF rfl rfl ?_
        refine gF rfl rfl ?_
        refine gF rfl rfl ?_
        refine gF rfl rfl ?_
        refine gF rfl rfl ?_
        refine gF rfl rfl ?_
        refine gF rfl rfl ?_
        refine gF rfl rfl ?_
        refine p_pkT rfl (rfl : _ = B true) ?_
        refine wp_nil ?_
        refine c_true rfl ?_
        refine c_seq ?_
        refine reg ?_
        refine p_aB rfl ?_
        refine wp_nil ?_
        obtain rfl := Option.some.inj H
        refine c_ret ?_; show bodyPostM (Fr none) 0 Tryd.prog Tryd.f7 _ .ret _ _
        refine ret_of (res1 rfl (rvT (rfl : _ = B false))) ?_
        exact ⟨_, rfl, rfl, S37.keep⟩
      · replace H := condF c65 H
        refine eB c65 ?_
        refine gT rfl rfl (p_fld fl49_0 rfl ?_)
        refine gT rfl rfl (p_ld ty3 (S37.atX (i := 0) rfl) rfl rfl ?_)
        refine gT rfl rfl (p_cmp rfl rfl rfl ?_)
        refine p_pkF rfl (rfl : _ = B (decide (r29.1.Low < 0))) ?_
        refine p_mB rfl ?_
        rcases Bool.eq_false_or_eq_true (decide (r29.1.Low < 0)) with c66 | c66
        · replace H := condT c66 H
          refine eB c66 ?_
          refine gF rfl rfl ?_
          refine gF rfl rfl ?_
          refine gF rfl rfl ?_
          refine gF rfl rfl ?_
          refine gF rfl rfl ?_
          refine gF rfl rfl ?_
          refine gF rfl rfl ?_
          refine gF rfl rfl ?_
          refine gF rfl rfl ?_
          refine gF rfl rfl ?_
          refine p_pkT rfl (rfl : _ = B true) ?_
          refine wp_nil ?_
          refine c_true rfl ?_
          refine c_seq ?_
          refine reg ?_
          refine p_aB rfl ?_
          refine wp_nil ?_
          obtain rfl := Option.some.inj H
          refine c_ret ?_; show bodyPostM (Fr none) 0 Tryd.prog Tryd.f7 _ .ret _ _
          refine ret_of (res1 rfl (rvT (rfl : _ = B false))) ?_
          exact ⟨_, rfl, rfl, S37.keep⟩
        · replace H := condF c66 H
          refine eB c66 ?_
          refine gT rfl rfl (p_fld fl49_1 rfl ?_)
          refine gT rfl rfl (p_ld ty3 (S37.atX (i := 0) rfl) rfl rfl ?_)
          refine gT rfl rfl (p_fld fl24_1 rfl ?_)
          refine gT rfl rfl (p_ld ty3 (S37.atX (i := 2) rfl) rfl rfl ?_)
          refine gT rfl rfl (p_mI rfl ?_)
          refine gT rfl rfl (p_mI rfl ?_)
          refine gT rfl rfl (p_sub rfl rfl ?_)
          refine gT rfl rfl (p_add rfl rfl ?_)
          refine gT rfl rfl (p_mul rfl rfl ?_)
          refine gT rfl rfl (p_cmp rfl rfl rfl ?_)
          refine p_pkF rfl (rfl : _ = B (decide (r29.1.High > (wr (a0.Room * (wr ((wr ((wr (r21 + r25)) - r21)) + 1))))))) ?_
          refine wp_nil ?_
          refine c_cond rfl (fun c67 => ?_) (fun c67 => ?_)
          · replace H := condT c67 H
            refine c_seq ?_
            refine reg ?_
            refine p_aB rfl ?_
            refine wp_nil ?_
            obtain rfl := Option.some.inj H
            refine c_ret ?_; show bodyPostM (Fr none) 0 Tryd.prog Tryd.f7 _ .ret _ _
            refine ret_of (res1 rfl (rvT (rfl : _ = B false))) ?_
            exact ⟨_, rfl, rfl, S37.keep⟩
          · replace H := condF c67 H
            refine c_skip ?_
            refine c_seq ?_
            obtain ⟨r68, h69, H⟩ := bindS H
            refine reg_q mixed 14 (by kernel_rfl) ?_
            refine dS (fun _ k_ => p_fld fl49_0 rfl dn) ?_
            refine dS (fun _ k_ => p_ld ty3 (Asr.stays (S37.atX (i := 0) rfl) k_) rfl rfl dn) ?_
            refine dS (fun _ k_ => p_fld fl49_1 rfl dn) ?_
            refine dS (fun _ k_ => p_ld ty3 (Asr.stays (S37.atX (i := 0) rfl) k_) rfl rfl dn) ?_
            refine dS (fun _ k_ => p_ldA ty49 sz49 (Asr.stays (S37.atX (i := 0) rfl) k_) rfl rfl dn) ?_
            refine dS (fun _ k_ => p_ixc ar25 rfl rfl (by decide) (by decide) dn) ?_
            refine dS (fun _ k_ => p_ld ty3 (Asr.stays (S37.atX (i := 1) rfl) k_) rfl rfl dn) ?_
            refine dS (fun _ k_ => p_cvD (B_Within_ok h69) fu39 rfl) ?_
            refine dS (fun _ k_ => p_fld fl49_0 rfl dn) ?_
            refine dS (fun _ k_ => p_ld ty3 (Asr.stays (S37.atX (i := 0) rfl) k_) rfl rfl dn) ?_
            refine dS (fun _ k_ => p_sub rfl rfl dn) ?_
            refine dS (fun _ k_ => p_fld fl49_1 rfl dn) ?_
            refine dS (fun _ k_ => p_ld ty3 (Asr.stays (S37.atX (i := 0) rfl) k_) rfl rfl dn) ?_
            refine dS (fun _ k_ => p_add rfl rfl dn) ?_
            intro w70 k71; have S72 := S37.call k71
            refine p_bsl (enc := intE) (l := [r29.1.Low, r29.1.High, r68, wr (r29.1.Low - 1), wr (r29.1.High + 1)]) I (fun _ => rfl) sc31 in3 intE_len rfl (by decide) (by decide) zr3_5 S72 rfl fun A73 c74 w75 S76 => ?_
            refine p_aS rfl ?_
            refine wp_nil ?_
            refine c_seq ?_
            refine c_seq ?_
            refine reg ?_
            refine p_aI rfl ?_
            refine wp_nil ?_
            refine c_block ?_
            refine c_lop (α := Int) (β := Unit) (law_TallyEach_l1 r29 r68 r21 r25 a0) (fun z_1 y_1 => [(2, P b6 0), (5, I r21), (6, I (wr (r21 + r25))), (11, SL A73 [r29.1.Low, r29.1.High, r68, wr (r29.1.Low - 1), wr (r29.1.High + 1)].length c74), (12, I z_1)]) (fun z_1 y_1 w_ => St w (fun _ => False) w_ [gr intE 1 3 A73 c74 [r29.1.Low, r29.1.High, r68, wr (r29.1.Low - 1), wr (r29.1.High + 1)], bl b33 [I r29.1.Low, I r29.1.High] 49, bl b9 (sg a1 3) 25, bl b6 [I a0.Trips, I a0.Room, SL A1 a0.Counts.length c2] 24] [rd eTallyCount 7 A1 c2 a0.Counts, bl 0 [Value.func (.func 117) #[] #[], Value.func (.func 119) #[] #[]] 117, bl 1 [I (-1), I (-1)] 115]) 0 () H ⟨rfl, rfl, rfl, rfl, rfl, trivial⟩ S76 ?_
            intro m78 z_1 y_1 e79 w80 H S81
            unfold law_TallyEach_l1 at H
            refine c_seq ?_
            refine c_seq ?_
            refine reg ?_
            refine p_mI rfl ?_
            refine p_mS rfl ?_
            refine p_len rfl sc31 ?_
            refine p_cmp rfl rfl rfl ?_
            refine wp_nil ?_
            refine c_cond rfl (fun c82 => ?_) (fun c82 => ?_)
            · replace H := condT c82 H
              refine c_skip ?_
              refine c_seq ?_
              refine c_block ?_
              refine c_seq ?_
              refine c_seq ?_
              refine reg ?_
              refine p_mS rfl ?_
              refine p_mI rfl ?_
              obtain ⟨r83, h84, H⟩ := bindS H
              refine p_ixE sc31 h84 (gr_sl intE_len (S81.atX (i := 0) rfl)) rfl rfl rfl ?_
              refine p_ldE ty3 h84 (gr_sl intE_len (S81.atX (i := 0) rfl)) rfl rfl ?_
              obtain ⟨r85, h86, H⟩ := bindS H
              refine p_cv (B_Inside_ok h86) fu40 rfl S81 fun w87 S88 => ?_
              refine p_not rfl ?_
              refine wp_nil ?_
              refine c_cond rfl (fun c89 => ?_) (fun c89 => ?_)
              · replace H := condT c89 H
                refine c_exit ?_
                refine reg ?_
                refine p_mI rfl ?_
                refine p_add rfl rfl ?_
                refine p_aI rfl ?_
                refine wp_nil ?_
                exact ⟨wr (z_1 + 1), (), _, rfl, ⟨rfl, rfl, rfl, rfl, rfl, trivial⟩, H, S88⟩
              · replace H := condF c89 H
                refine c_skip ?_
                refine c_seq ?_
                obtain ⟨r90, h91, H⟩ := bindS H
                obtain ⟨r92, h93, H⟩ := bindS H
                obtain ⟨r94, h95, H⟩ := bindS H
                refine reg_q mixed 14 (by kernel_rfl) ?_
                refine dS (fun _ k_ => p_ldA ty24 sz24 (Asr.stays (S88.atX (i := 3) rfl) k_) rfl rfl dn) ?_
                refine dS (fun _ k_ => p_mI rfl dn) ?_
                refine dS (fun _ k_ => p_mI rfl dn) ?_
                refine dS (fun _ k_ => p_mS rfl dn) ?_
                refine dS (fun _ k_ => p_mI rfl dn) ?_
                refine dS (fun _ k_ => p_ixE sc31 h91 (gr_sl intE_len (Asr.stays (S88.atX (i := 0) rfl) k_)) rfl rfl rfl dn) ?_
                refine dS (fun _ k_ => p_ldE ty3 h91 (gr_sl intE_len (Asr.stays (S88.atX (i := 0) rfl) k_)) rfl rfl dn) ?_
                refine dS (fun _ k_ => p_cvD (law_count_ok h93) fu37 rfl) ?_
                refine dS (fun _ k_ => p_cvD (tally_Fits_ok h95 (Asr.stays (S88.atP (i := 0) rfl) k_) (Asr.stays (S88.atP (i := 1) rfl) k_) (Asr.stays (S88.atP (i := 2) rfl) k_)) fu36 rfl) ?_
                refine dS (fun _ k_ => p_mT rfl dn) ?_
                refine dS (fun _ k_ => p_ext rfl rfl dn) ?_
                refine dS (fun _ k_ => p_ext rfl rfl dn) ?_
                refine dS (fun _ k_ => p_aB rfl dn) ?_
                refine dS (fun _ k_ => p_aI rfl dn) ?_
                intro w96 k97; have S98 := S88.call k97
                refine wp_nil ?_
                refine c_seq ?_
                refine reg ?_
                refine p_mI rfl ?_
                refine p_cmp rfl rfl rfl ?_
                refine p_mB rfl ?_
                rcases Bool.eq_false_or_eq_true ((r94.2 != 0)) with c99 | c99
                · replace H := condT c99 H
                  refine eB c99 ?_
                  refine gF rfl rfl ?_
                  refine gF rfl rfl ?_
                  refine gF rfl rfl ?_
                  refine gF rfl rfl ?_
                  refine p_pkT rfl (rfl : _ = B true) ?_
                  refine wp_nil ?_
                  refine c_true rfl ?_
                  refine c_seq ?_
                  refine reg ?_
                  refine p_aB rfl ?_
                  refine wp_nil ?_
                  obtain rfl := Option.some.inj H
                  refine c_ret ?_; show bodyPostM (Fr none) 0 Tryd.prog Tryd.f7 _ .ret _ _
                  refine ret_of (res1 rfl (rvT (rfl : _ = B false))) ?_
                  exact ⟨_, rfl, rfl, S98.keep⟩
                · replace H := condF c99 H
                  refine eB c99 ?_
                  refine gT rfl rfl (p_mB rfl ?_)
                  refine gT rfl rfl (p_mI rfl ?_)
                  refine gT rfl rfl (p_cmp rfl rfl rfl ?_)
                  refine gT rfl rfl (o_neB rfl rfl ub4 ?_)
                  refine p_pkF rfl (rfl : _ = B (r94.1 != (decide (z_1 < 3)))) ?_
                  refine wp_nil ?_
                  refine c_cond rfl (fun c100 => ?_) (fun c100 => ?_)
                  · replace H := condT c100 H
                    refine c_seq ?_
                    refine reg ?_
                    refine p_aB rfl ?_
                    refine wp_nil ?_
                    obtain rfl := Option.some.inj H
                    refine c_ret ?_; show bodyPostM (Fr none) 0 Tryd.prog Tryd.f7 _ .ret _ _
                    refine ret_of (res1 rfl (rvT (rfl : _ = B false))) ?_
                    exact ⟨_, rfl, rfl, S98.keep⟩
                  · replace H := condF c100 H
                    refine c_skip ?_
                    refine reg ?_
                    refine p_mI rfl ?_
                    refine p_add rfl rfl ?_
                    refine p_aI rfl ?_
                    refine wp_nil ?_
                    exact ⟨wr (z_1 + 1), (), _, rfl, ⟨rfl, rfl, rfl, rfl, rfl, trivial⟩, H, S98⟩
            · replace H := condF c82 H
              refine c_exit ?_
              refine c_seq ?_
              refine reg ?_
              obtain ⟨r101, h102, H⟩ := bindS H
              refine p_cv (law_counted_ok h102 (S81.atP (i := 1) rfl) (S81.atP (i := 2) rfl)) fu19 rfl S81 fun w103 S104 => ?_
              refine p_aB rfl ?_
              refine wp_nil ?_
              obtain rfl := Option.some.inj H
              refine c_ret ?_; show bodyPostM (Fr none) 0 Tryd.prog Tryd.f7 _ .ret _ _
              refine ret_of (res1 rfl (rvT (rfl : _ = B r101))) ?_
              exact ⟨_, rfl, rfl, S104.keep⟩

end Go.Proofs.YtplpalmabgjibaaDoor

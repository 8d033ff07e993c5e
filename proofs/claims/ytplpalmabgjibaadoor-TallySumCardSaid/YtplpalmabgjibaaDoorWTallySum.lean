/- What the law's function computes, and that it does, printed by a program of mine. -/
import Derived.Test.YtplpalmabgjibaaDoorWC
set_option linter.unusedVariables false
set_option linter.unusedSimpArgs false
namespace Go.Proofs.YtplpalmabgjibaaDoor
open Go Go.Fx Go.Proofs
def law_TallySum (a0 : TallyBook) (a1 : List Int) : Option Bool :=
  (law_sound a0).bind fun r12 =>
  bif !r12 then ((law_counted).bind fun r17 =>
  some r17)
  else ((B_Mod (aget a1 0) a0.Trips).bind fun r21 =>
  (B_Mod (aget a1 1) (wr (a0.Trips - r21))).bind fun r25 =>
  (B_Mod (aget a1 3) 100).bind fun r29 =>
  (tally_Many a0 r21 (wr (r21 + r25))).bind fun r33 =>
  (tally_Many a0 0 (wr (a0.Trips - 1))).bind fun r42 =>
  (tally_Pays a0 r29).bind fun r51 =>
  bif (r33.2 != 0) then (bif (r33.2 == 52) then (bif (r42.2 == r33.2) then (bif (r51.2 == r33.2) then ((law_counted).bind fun r64 =>
  some r64)
  else (some false))
  else (some false))
  else (some false))
  else (bif (r42.2 != 0) then (some false)
  else (bif (r51.2 != 0) then (some false)
  else ((B_Range (wr (r29 * r42.1.Low)) (wr (r29 * r42.1.High))).bind fun r76 =>
  bif !((r51.1.Low == r76.Low) && (r51.1.High == r76.High)) then (some false)
  else (bif decide (r33.1.Low > r42.1.Low) then (some false)
  else (bif decide (r33.1.High > r42.1.High) then (some false)
  else (bif (r21 == (wr (r21 + r25))) then ((law_counted).bind fun r91 =>
  some r91)
  else ((B_Mod (aget a1 2) (wr ((wr (r21 + r25)) - r21))).bind fun r95 =>
  (tally_Many a0 r21 (wr (r21 + r95))).bind fun r99 =>
  (tally_Many a0 (wr ((wr (r21 + r95)) + 1)) (wr (r21 + r25))).bind fun r108 =>
  (B_Added r99.1 r108.1).bind fun r117 =>
  bif (r99.2 == 0) then (bif (r108.2 == 0) then (bif decide (r33.1.Low ≥ r117.Low) then (bif decide (r33.1.High ≤ r117.High) then ((law_counted).bind fun r130 =>
  some r130)
  else (some false))
  else (some false))
  else (some false))
  else (some false)))))))))

set_option maxRecDepth 100000 in
theorem law_TallySum_ok {a0 : TallyBook} {a1 : List Int} {A1 : Option Addr} {c2 : Nat} {w : World} {r : Bool} (H : law_TallySum a0 a1 = some r) (h3 : (rd eTallyCount 7 A1 c2 a0.Counts).ok w) (hg4 : (bl 0 [Value.func (.func 117) #[] #[], Value.func (.func 119) #[] #[]] 117).ok w) (hg5 : (bl 1 [I (-1), I (-1)] 115).ok w) : Calls Tryd.prog 8 #[AG [I a0.Trips, I a0.Room, SL A1 a0.Counts.length c2], AG (sg a1 4)] w (RetV w (B r)) := by
  unfold law_TallySum at H
  refine fn_of (n := 165) Tryd.func8 rfl rfl (Nat.le_of_ble_eq_true rfl) ?_
  have S : St w (fun _ => False) w [] [rd eTallyCount 7 A1 c2 a0.Counts, bl 0 [Value.func (.func 117) #[] #[], Value.func (.func 119) #[] #[]] 117, bl 1 [I (-1), I (-1)] 115] := St.start w _ _ (List.forall_mem_cons.2 ⟨h3, (List.forall_mem_cons.2 ⟨hg4, (List.forall_mem_cons.2 ⟨hg5, (fun _ h_ => (List.not_mem_nil h_).elim)⟩)⟩)⟩)
  refine c_seq ?_
  refine reg ?_
  refine p_boxA rfl S fun b6 w7 S8 => ?_
  refine p_boxA rfl S8 fun b9 w10 S11 => ?_
  refine p_aB rfl ?_
  refine wp_nil ?_
  refine c_seq ?_
  refine c_seq ?_
  refine reg ?_
  refine p_ldA ty24 sz24 (S11.atX (i := 1) rfl) rfl rfl ?_
  obtain ⟨r12, h13, H⟩ := bindS H
  refine p_cv (law_sound_ok h13 (S11.atP (i := 0) rfl)) fu24 rfl S11 fun w14 S15 => ?_
  refine p_not rfl ?_
  refine wp_nil ?_
  refine c_cond rfl (fun c16 => ?_) (fun c16 => ?_)
  · replace H := condT c16 H
    refine c_seq ?_
    refine reg ?_
    obtain ⟨r17, h18, H⟩ := bindS H
    refine p_cv (law_counted_ok h18 (S15.atP (i := 1) rfl) (S15.atP (i := 2) rfl)) fu19 rfl S15 fun w19 S20 => ?_
    refine p_aB rfl ?_
    refine wp_nil ?_
    obtain rfl := Option.some.inj H
    refine c_ret ?_; show bodyPostM (Fr none) 0 Tryd.prog Tryd.f8 _ .ret _ _
    refine ret_of (res1 rfl (rvT (rfl : _ = B r17))) ?_
    exact ⟨_, rfl, rfl, S20.keep⟩
  · replace H := condF c16 H
    refine c_skip ?_
    refine c_seq ?_
    refine reg ?_
    refine p_ixc ar61 rfl rfl (by decide) (by decide) ?_
    refine p_ld ty3 (S15.atX (i := 0) rfl) rfl rfl ?_
    refine p_fld fl24_0 rfl ?_
    refine p_ld ty3 (S15.atX (i := 1) rfl) rfl rfl ?_
    obtain ⟨r21, h22, H⟩ := bindS H
    refine p_cv (B_Mod_ok h22) fu27 rfl S15 fun w23 S24 => ?_
    refine p_aI rfl ?_
    refine wp_nil ?_
    refine c_seq ?_
    refine reg ?_
    refine p_mI rfl ?_
    refine p_ixc ar61 rfl rfl (by decide) (by decide) ?_
    refine p_ld ty3 (S24.atX (i := 0) rfl) rfl rfl ?_
    refine p_fld fl24_0 rfl ?_
    refine p_ld ty3 (S24.atX (i := 1) rfl) rfl rfl ?_
    refine p_mI rfl ?_
    refine p_sub rfl rfl ?_
    obtain ⟨r25, h26, H⟩ := bindS H
    refine p_cv (B_Mod_ok h26) fu27 rfl S24 fun w27 S28 => ?_
    refine p_add rfl rfl ?_
    refine p_aI rfl ?_
    refine wp_nil ?_
    refine c_seq ?_
    refine reg ?_
    refine p_ixc ar61 rfl rfl (by decide) (by decide) ?_
    refine p_ld ty3 (S28.atX (i := 0) rfl) rfl rfl ?_
    obtain ⟨r29, h30, H⟩ := bindS H
    refine p_cv (B_Mod_ok h30) fu27 rfl S28 fun w31 S32 => ?_
    refine p_aI rfl ?_
    refine wp_nil ?_
    refine c_seq ?_
    refine reg ?_
    refine p_ldA ty24 sz24 (S32.atX (i := 1) rfl) rfl rfl ?_
    refine p_mI rfl ?_
    refine p_mI rfl ?_
    obtain ⟨r33, h34, H⟩ := bindS H
    refine p_cv (tally_Many_ok h34 (S32.atP (i := 0) rfl) (S32.atP (i := 1) rfl) (S32.atP (i := 2) rfl)) fu32 rfl S32 fun w35 S36 => ?_
    refine p_mT rfl ?_
    refine p_ext rfl rfl ?_
    refine p_ext rfl rfl ?_
    refine p_allA in49 S36 fun b37 w38 S39 => ?_
    refine p_stP (pre := []) (old := [I 0, I 0]) (post := []) (vs := [I r33.1.Low, I r33.1.High]) sz49 S39 (i := 0) rfl rfl rfl rfl (rfl : _ = AG [I r33.1.Low, I r33.1.High]) rfl rfl rfl rfl fun w40 S41 => ?_
    refine p_aI rfl ?_
    refine wp_nil ?_
    refine c_seq ?_
    refine reg ?_
    refine p_ldA ty24 sz24 (S41.atX (i := 2) rfl) rfl rfl ?_
    refine p_fld fl24_0 rfl ?_
    refine p_ld ty3 (S41.atX (i := 2) rfl) rfl rfl ?_
    refine p_sub rfl rfl ?_
    obtain ⟨r42, h43, H⟩ := bindS H
    refine p_cv (tally_Many_ok h43 (S41.atP (i := 0) rfl) (S41.atP (i := 1) rfl) (S41.atP (i := 2) rfl)) fu32 rfl S41 fun w44 S45 => ?_
    refine p_mT rfl ?_
    refine p_ext rfl rfl ?_
    refine p_ext rfl rfl ?_
    refine p_allA in49 S45 fun b46 w47 S48 => ?_
    refine p_stP (pre := []) (old := [I 0, I 0]) (post := []) (vs := [I r42.1.Low, I r42.1.High]) sz49 S48 (i := 0) rfl rfl rfl rfl (rfl : _ = AG [I r42.1.Low, I r42.1.High]) rfl rfl rfl rfl fun w49 S50 => ?_
    refine p_aI rfl ?_
    refine wp_nil ?_
    refine c_seq ?_
    refine reg ?_
    refine p_ldA ty24 sz24 (S50.atX (i := 3) rfl) rfl rfl ?_
    refine p_mI rfl ?_
    obtain ⟨r51, h52, H⟩ := bindS H
    refine p_cv (tally_Pays_ok h52 (S50.atP (i := 0) rfl) (S50.atP (i := 1) rfl) (S50.atP (i := 2) rfl)) fu33 rfl S50 fun w53 S54 => ?_
    refine p_mT rfl ?_
    refine p_ext rfl rfl ?_
    refine p_ext rfl rfl ?_
    refine p_allA in49 S54 fun b55 w56 S57 => ?_
    refine p_stP (pre := []) (old := [I 0, I 0]) (post := []) (vs := [I r51.1.Low, I r51.1.High]) sz49 S57 (i := 0) rfl rfl rfl rfl (rfl : _ = AG [I r51.1.Low, I r51.1.High]) rfl rfl rfl rfl fun w58 S59 => ?_
    refine p_aI rfl ?_
    refine wp_nil ?_
    refine c_seq ?_
    refine c_seq ?_
    refine reg ?_
    refine p_mI rfl ?_
    refine p_cmp rfl rfl rfl ?_
    refine wp_nil ?_
    refine c_cond rfl (fun c60 => ?_) (fun c60 => ?_)
    · replace H := condT c60 H
      refine c_seq ?_
      refine reg ?_
      refine p_mI rfl ?_
      refine p_cmp rfl rfl rfl ?_
      refine p_mB rfl ?_
      rcases Bool.eq_false_or_eq_true ((r33.2 == 52)) with c61 | c61
      · replace H := condT c61 H
        refine eB c61 ?_
        refine gT rfl rfl (p_mI rfl ?_)
        refine gT rfl rfl (p_mI rfl ?_)
        refine gT rfl rfl (p_cmp rfl rfl rfl ?_)
        refine p_pkT rfl (rfl : _ = B (r42.2 == r33.2)) ?_
        refine p_mB rfl ?_
        rcases Bool.eq_false_or_eq_true ((r42.2 == r33.2)) with c62 | c62
        · replace H := condT c62 H
          refine eB c62 ?_
          refine gT rfl rfl (p_mI rfl ?_)
          refine gT rfl rfl (p_mI rfl ?_)
          refine gT rfl rfl (p_cmp rfl rfl rfl ?_)
          refine p_pkT rfl (rfl : _ = B (r51.2 == r33.2)) ?_
          refine p_mB rfl ?_
          rcases Bool.eq_false_or_eq_true ((r51.2 == r33.2)) with c63 | c63
          · replace H := condT c63 H
            refine eB c63 ?_
            obtain ⟨r64, h65, H⟩ := bindS H
            refine gT rfl rfl (p_cv (law_counted_ok h65 (S59.atP (i := 1) rfl) (S59.atP (i := 2) rfl)) fu19 rfl S59 fun w66 S67 => ?_)
            refine p_pkT rfl (rfl : _ = B r64) ?_
            refine p_aB rfl ?_
            refine wp_nil ?_
            obtain rfl := Option.some.inj H
            refine c_ret ?_; show bodyPostM (Fr none) 0 Tryd.prog Tryd.f8 _ .ret _ _
            refine ret_of (res1 rfl (rvT (rfl : _ = B r64))) ?_
            exact ⟨_, rfl, rfl, S67.keep⟩
          · replace H := condF c63 H
            refine eB c63 ?_
            refine gF rfl rfl ?_
            refine p_pkF rfl (rfl : _ = B false) ?_
            refine p_aB rfl ?_
            refine wp_nil ?_
            obtain rfl := Option.some.inj H
            refine c_ret ?_; show bodyPostM (Fr none) 0 Tryd.prog Tryd.f8 _ .ret _ _
            refine ret_of (res1 rfl (rvT (rfl : _ = B false))) ?_
            exact ⟨_, rfl, rfl, S59.keep⟩
        · replace H := condF c62 H
          refine eB c62 ?_
          refine gF rfl rfl ?_
          refine gF rfl rfl ?_
          refine gF rfl rfl ?_
          refine p_pkF rfl (rfl : _ = B false) ?_
          refine p_mB rfl ?_
          refine gF rfl rfl ?_
          refine p_pkF rfl (rfl : _ = B false) ?_
          refine p_aB rfl ?_
          refine wp_nil ?_
          obtain rfl := Option.some.inj H
          refine c_ret ?_; show bodyPostM (Fr none) 0 Tryd.prog Tryd.f8 _ .ret _ _
          refine ret_of (res1 rfl (rvT (rfl : _ = B false))) ?_
          exact ⟨_, rfl, rfl, S59.keep⟩
      · replace H := condF c61 H
        refine eB c61 ?_
        refine gF rfl rfl ?_
        refine gF rfl rfl ?_
        refine gF rfl rfl ?_
        refine p_pkF rfl (rfl : _ = B false) ?_
        refine p_mB rfl ?_
        refine gF rfl rfl ?_
        refine gF rfl rfl ?_
        refine gF rfl rfl ?_
        refine p_pkF rfl (rfl : _ = B false) ?_
        refine p_mB rfl ?_
        refine gF rfl rfl ?_
        refine p_pkF rfl (rfl : _ = B false) ?_
        refine p_aB rfl ?_
        refine wp_nil ?_
        obtain rfl := Option.some.inj H
        refine c_ret ?_; show bodyPostM (Fr none) 0 Tryd.prog Tryd.f8 _ .ret _ _
        refine ret_of (res1 rfl (rvT (rfl : _ = B false))) ?_
        exact ⟨_, rfl, rfl, S59.keep⟩
    · replace H := condF c60 H
      refine c_skip ?_
      refine c_seq ?_
      refine c_seq ?_
      rcases Bool.eq_false_or_eq_true ((r42.2 != 0)) with c68 | c68
      · replace H := condT c68 H
        refine reg_q mixed 33 (by kernel_rfl) ?_
        refine dS (fun _ k_ => p_mI rfl dn) ?_
        refine dS (fun _ k_ => p_cmp rfl rfl rfl dn) ?_
        refine dS (fun _ k_ => p_mB rfl dn) ?_
        refine dB c68 ?_
        refine dS (fun _ k_ => gF rfl rfl dnU) ?_
        refine dS (fun _ k_ => gF rfl rfl dnU) ?_
        refine dS (fun _ k_ => p_pkT rfl (rfl : _ = B true) dn) ?_
        refine dS (fun _ k_ => p_mB rfl dn) ?_
        refine dS (fun _ k_ => gF rfl rfl dnU) ?_
        refine dS (fun _ k_ => gF rfl rfl dnU) ?_
        refine dS (fun _ k_ => gF rfl rfl dnU) ?_
        refine dS (fun _ k_ => gF rfl rfl dnU) ?_
        refine dS (fun _ k_ => gF rfl rfl dnU) ?_
        refine dS (fun _ k_ => gF rfl rfl dnU) ?_
        refine dS (fun _ k_ => gF rfl rfl dnU) ?_
        refine dS (fun _ k_ => gF rfl rfl dnU) ?_
        refine dS (fun _ k_ => gF rfl rfl dnU) ?_
        refine dS (fun _ k_ => gF rfl rfl dnU) ?_
        refine dS (fun _ k_ => gF rfl rfl dnU) ?_
        refine dS (fun _ k_ => p_pkT rfl (rfl : _ = B true) dn) ?_
        refine dS (fun _ k_ => p_mB rfl dn) ?_
        refine dS (fun _ k_ => gF rfl rfl dnU) ?_
        refine dS (fun _ k_ => gF rfl rfl dnU) ?_
        refine dS (fun _ k_ => gF rfl rfl dnU) ?_
        refine dS (fun _ k_ => gF rfl rfl dnU) ?_
        refine dS (fun _ k_ => gF rfl rfl dnU) ?_
        refine dS (fun _ k_ => p_pkT rfl (rfl : _ = B true) dn) ?_
        refine dS (fun _ k_ => p_mB rfl dn) ?_
        refine dS (fun _ k_ => gF rfl rfl dnU) ?_
        refine dS (fun _ k_ => gF rfl rfl dnU) ?_
        refine dS (fun _ k_ => gF rfl rfl dnU) ?_
        refine dS (fun _ k_ => gF rfl rfl dnU) ?_
        refine dS (fun _ k_ => gF rfl rfl dnU) ?_
        refine dS (fun _ k_ => p_pkT rfl (rfl : _ = B true) dn) ?_
        intro w69 k70; have S71 := S59.call k70
        refine wp_nil ?_
        refine c_true rfl ?_
        refine c_seq ?_
        refine reg ?_
        refine p_aB rfl ?_
        refine wp_nil ?_
        obtain rfl := Option.some.inj H
        refine c_ret ?_; show bodyPostM (Fr none) 0 Tryd.prog Tryd.f8 _ .ret _ _
        refine ret_of (res1 rfl (rvT (rfl : _ = B false))) ?_
        exact ⟨_, rfl, rfl, S71.keep⟩
      · replace H := condF c68 H
        rcases Bool.eq_false_or_eq_true ((r51.2 != 0)) with c72 | c72
        · replace H := condT c72 H
          refine reg_q mixed 33 (by kernel_rfl) ?_
          refine dS (fun _ k_ => p_mI rfl dn) ?_
          refine dS (fun _ k_ => p_cmp rfl rfl rfl dn) ?_
          refine dS (fun _ k_ => p_mB rfl dn) ?_
          refine dB c68 ?_
          refine dS (fun _ k_ => gT rfl rfl (p_mI rfl dn)) ?_
          refine dS (fun _ k_ => gT rfl rfl (p_cmp rfl rfl rfl dn)) ?_
          refine dS (fun _ k_ => p_pkF rfl (rfl : _ = B (r51.2 != 0)) dn) ?_
          refine dS (fun _ k_ => p_mB rfl dn) ?_
          refine dB c72 ?_
          refine dS (fun _ k_ => gF rfl rfl dnU) ?_
          refine dS (fun _ k_ => gF rfl rfl dnU) ?_
          refine dS (fun _ k_ => gF rfl rfl dnU) ?_
          refine dS (fun _ k_ => gF rfl rfl dnU) ?_
          refine dS (fun _ k_ => gF rfl rfl dnU) ?_
          refine dS (fun _ k_ => gF rfl rfl dnU) ?_
          refine dS (fun _ k_ => gF rfl rfl dnU) ?_
          refine dS (fun _ k_ => gF rfl rfl dnU) ?_
          refine dS (fun _ k_ => gF rfl rfl dnU) ?_
          refine dS (fun _ k_ => gF rfl rfl dnU) ?_
          refine dS (fun _ k_ => gF rfl rfl dnU) ?_
          refine dS (fun _ k_ => p_pkT rfl (rfl : _ = B true) dn) ?_
          refine dS (fun _ k_ => p_mB rfl dn) ?_
          refine dS (fun _ k_ => gF rfl rfl dnU) ?_
          refine dS (fun _ k_ => gF rfl rfl dnU) ?_
          refine dS (fun _ k_ => gF rfl rfl dnU) ?_
          refine dS (fun _ k_ => gF rfl rfl dnU) ?_
          refine dS (fun _ k_ => gF rfl rfl dnU) ?_
          refine dS (fun _ k_ => p_pkT rfl (rfl : _ = B true) dn) ?_
          refine dS (fun _ k_ => p_mB rfl dn) ?_
          refine dS (fun _ k_ => gF rfl rfl dnU) ?_
          refine dS (fun _ k_ => gF rfl rfl dnU) ?_
          refine dS (fun _ k_ => gF rfl rfl dnU) ?_
          refine dS (fun _ k_ => gF rfl rfl dnU) ?_
          refine dS (fun _ k_ => gF rfl rfl dnU) ?_
          refine dS (fun _ k_ => p_pkT rfl (rfl : _ = B true) dn) ?_
          intro w73 k74; have S75 := S59.call k74
          refine wp_nil ?_
          refine c_true rfl ?_
          refine c_seq ?_
          refine reg ?_
          refine p_aB rfl ?_
          refine wp_nil ?_
          obtain rfl := Option.some.inj H
          refine c_ret ?_; show bodyPostM (Fr none) 0 Tryd.prog Tryd.f8 _ .ret _ _
          refine ret_of (res1 rfl (rvT (rfl : _ = B false))) ?_
          exact ⟨_, rfl, rfl, S75.keep⟩
        · replace H := condF c72 H
          obtain ⟨r76, h77, H⟩ := bindS H
          rcases Bool.eq_false_or_eq_true (!((r51.1.Low == r76.Low) && (r51.1.High == r76.High))) with c78 | c78
          · replace H := condT c78 H
            refine reg_q mixed 33 (by kernel_rfl) ?_
            refine dS (fun _ k_ => p_mI rfl dn) ?_
            refine dS (fun _ k_ => p_cmp rfl rfl rfl dn) ?_
            refine dS (fun _ k_ => p_mB rfl dn) ?_
            refine dB c68 ?_
            refine dS (fun _ k_ => gT rfl rfl (p_mI rfl dn)) ?_
            refine dS (fun _ k_ => gT rfl rfl (p_cmp rfl rfl rfl dn)) ?_
            refine dS (fun _ k_ => p_pkF rfl (rfl : _ = B (r51.2 != 0)) dn) ?_
            refine dS (fun _ k_ => p_mB rfl dn) ?_
            refine dB c72 ?_
            refine dS (fun _ k_ => gT rfl rfl (p_ldA ty49 sz49 (Asr.stays (S59.atX (i := 0) rfl) k_) rfl rfl dn)) ?_
            refine dS (fun _ k_ => gT rfl rfl (p_mI rfl dn)) ?_
            refine dS (fun _ k_ => gT rfl rfl (p_fld fl49_0 rfl dn)) ?_
            refine dS (fun _ k_ => gT rfl rfl (p_ld ty3 (Asr.stays (S59.atX (i := 1) rfl) k_) rfl rfl dn)) ?_
            refine dS (fun _ k_ => gT rfl rfl (p_mul rfl rfl dn)) ?_
            refine dS (fun _ k_ => gT rfl rfl (p_mI rfl dn)) ?_
            refine dS (fun _ k_ => gT rfl rfl (p_fld fl49_1 rfl dn)) ?_
            refine dS (fun _ k_ => gT rfl rfl (p_ld ty3 (Asr.stays (S59.atX (i := 1) rfl) k_) rfl rfl dn)) ?_
            refine dS (fun _ k_ => gT rfl rfl (p_mul rfl rfl dn)) ?_
            refine dS (fun _ k_ => gT rfl rfl (p_cvD (B_Range_ok h77) fu41 rfl)) ?_
            refine dS (fun _ k_ => gT rfl rfl (o_neA (xs := [I r51.1.Low, I r51.1.High]) (ys := [I r76.Low, I r76.High]) (T := ((r51.1.Low == r76.Low) && (r51.1.High == r76.High))) rfl rfl eq49 ⟨⟨_, rfl⟩, ⟨⟨_, rfl⟩, trivial⟩⟩ ⟨⟨_, rfl⟩, ⟨⟨_, rfl⟩, trivial⟩⟩ (by simp [Bool.and_eq_true, and_assoc]) dn)) ?_
            refine dS (fun _ k_ => p_pkF rfl (rfl : _ = B (!((r51.1.Low == r76.Low) && (r51.1.High == r76.High)))) dn) ?_
            refine dS (fun _ k_ => p_mB rfl dn) ?_
            refine dB c78 ?_
            refine dS (fun _ k_ => gF rfl rfl dnU) ?_
            refine dS (fun _ k_ => gF rfl rfl dnU) ?_
            refine dS (fun _ k_ => gF rfl rfl dnU) ?_
            refine dS (fun _ k_ => gF rfl rfl dnU) ?_
            refine dS (fun _ k_ => gF rfl rfl dnU) ?_
            refine dS (fun _ k_ => p_pkT rfl (rfl : _ = B true) dn) ?_
            refine dS (fun _ k_ => p_mB rfl dn) ?_
            refine dS (fun _ k_ => gF rfl rfl dnU) ?_
            refine dS (fun _ k_ => gF rfl rfl dnU) ?_
            refine dS (fun _ k_ => gF rfl rfl dnU) ?_
            refine dS (fun _ k_ => gF rfl rfl dnU) ?_
            refine dS (fun _ k_ => gF rfl rfl dnU) ?_
            refine dS (fun _ k_ => p_pkT rfl (rfl : _ = B true) dn) ?_
            intro w79 k80; have S81 := S59.call k80
            refine wp_nil ?_
            refine c_true rfl ?_
            refine c_seq ?_
            refine reg ?_
            refine p_aB rfl ?_
            refine wp_nil ?_
            obtain rfl := Option.some.inj H
            refine c_ret ?_; show bodyPostM (Fr none) 0 Tryd.prog Tryd.f8 _ .ret _ _
            refine ret_of (res1 rfl (rvT (rfl : _ = B false))) ?_
            exact ⟨_, rfl, rfl, S81.keep⟩
          · replace H := condF c78 H
            rcases Bool.eq_false_or_eq_true (decide (r33.1.Low > r42.1.Low)) with c82 | c82
            · replace H := condT c82 H
              refine reg_q mixed 33 (by kernel_rfl) ?_
              refine dS (fun _ k_ => p_mI rfl dn) ?_
              refine dS (fun _ k_ => p_cmp rfl rfl rfl dn) ?_
              refine dS (fun _ k_ => p_mB rfl dn) ?_
              refine dB c68 ?_
              refine dS (fun _ k_ => gT rfl rfl (p_mI rfl dn)) ?_
              refine dS (fun _ k_ => gT rfl rfl (p_cmp rfl rfl rfl dn)) ?_
              refine dS (fun _ k_ => p_pkF rfl (rfl : _ = B (r51.2 != 0)) dn) ?_
              refine dS (fun _ k_ => p_mB rfl dn) ?_
              refine dB c72 ?_
              refine dS (fun _ k_ => gT rfl rfl (p_ldA ty49 sz49 (Asr.stays (S59.atX (i := 0) rfl) k_) rfl rfl dn)) ?_
              refine dS (fun _ k_ => gT rfl rfl (p_mI rfl dn)) ?_
              refine dS (fun _ k_ => gT rfl rfl (p_fld fl49_0 rfl dn)) ?_
              refine dS (fun _ k_ => gT rfl rfl (p_ld ty3 (Asr.stays (S59.atX (i := 1) rfl) k_) rfl rfl dn)) ?_
              refine dS (fun _ k_ => gT rfl rfl (p_mul rfl rfl dn)) ?_
              refine dS (fun _ k_ => gT rfl rfl (p_mI rfl dn)) ?_
              refine dS (fun _ k_ => gT rfl rfl (p_fld fl49_1 rfl dn)) ?_
              refine dS (fun _ k_ => gT rfl rfl (p_ld ty3 (Asr.stays (S59.atX (i := 1) rfl) k_) rfl rfl dn)) ?_
              refine dS (fun _ k_ => gT rfl rfl (p_mul rfl rfl dn)) ?_
              refine dS (fun _ k_ => gT rfl rfl (p_cvD (B_Range_ok h77) fu41 rfl)) ?_
              refine dS (fun _ k_ => gT rfl rfl (o_neA (xs := [I r51.1.Low, I r51.1.High]) (ys := [I r76.Low, I r76.High]) (T := ((r51.1.Low == r76.Low) && (r51.1.High == r76.High))) rfl rfl eq49 ⟨⟨_, rfl⟩, ⟨⟨_, rfl⟩, trivial⟩⟩ ⟨⟨_, rfl⟩, ⟨⟨_, rfl⟩, trivial⟩⟩ (by simp [Bool.and_eq_true, and_assoc]) dn)) ?_
              refine dS (fun _ k_ => p_pkF rfl (rfl : _ = B (!((r51.1.Low == r76.Low) && (r51.1.High == r76.High)))) dn) ?_
              refine dS (fun _ k_ => p_mB rfl dn) ?_
              refine dB c78 ?_
              refine dS (fun _ k_ => gT rfl rfl (p_fld fl49_0 rfl dn)) ?_
              refine dS (fun _ k_ => gT rfl rfl (p_ld ty3 (Asr.stays (S59.atX (i := 2) rfl) k_) rfl rfl dn)) ?_
              refine dS (fun _ k_ => gT rfl rfl (p_fld fl49_0 rfl dn)) ?_
              refine dS (fun _ k_ => gT rfl rfl (p_ld ty3 (Asr.stays (S59.atX (i := 1) rfl) k_) rfl rfl dn)) ?_
              refine dS (fun _ k_ => gT rfl rfl (p_cmp rfl rfl rfl dn)) ?_
              refine dS (fun _ k_ => p_pkF rfl (rfl : _ = B (decide (r33.1.Low > r42.1.Low))) dn) ?_
              refine dS (fun _ k_ => p_mB rfl dn) ?_
              refine dB c82 ?_
              refine dS (fun _ k_ => gF rfl rfl dnU) ?_
              refine dS (fun _ k_ => gF rfl rfl dnU) ?_
              refine dS (fun _ k_ => gF rfl rfl dnU) ?_
              refine dS (fun _ k_ => gF rfl rfl dnU) ?_
              refine dS (fun _ k_ => gF rfl rfl dnU) ?_
              refine dS (fun _ k_ => p_pkT rfl (rfl : _ = B true) dn) ?_
              intro w83 k84; have S85 := S59.call k84
              refine wp_nil ?_
              refine c_true rfl ?_
              refine c_seq ?_
              refine reg ?_
              refine p_aB rfl ?_
              refine wp_nil ?_
              obtain rfl := Option.some.inj H
              refine c_ret ?_; show bodyPostM (Fr none) 0 Tryd.prog Tryd.f8 _ .ret _ _
              refine ret_of (res1 rfl (rvT (rfl : _ = B false))) ?_
              exact ⟨_, rfl, rfl, S85.keep⟩
            · replace H := condF c82 H
              refine reg_q mixed 33 (by kernel_rfl) ?_
              refine dS (fun _ k_ => p_mI rfl dn) ?_
              refine dS (fun _ k_ => p_cmp rfl rfl rfl dn) ?_
              refine dS (fun _ k_ => p_mB rfl dn) ?_
              refine dB c68 ?_
              refine dS (fun _ k_ => gT rfl rfl (p_mI rfl dn)) ?_
              refine dS (fun _ k_ => gT rfl rfl (p_cmp rfl rfl rfl dn)) ?_
              refine dS (fun _ k_ => p_pkF rfl (rfl : _ = B (r51.2 != 0)) dn) ?_
              refine dS (fun _ k_ => p_mB rfl dn) ?_
              refine dB c72 ?_
              refine dS (fun _ k_ => gT rfl rfl (p_ldA ty49 sz49 (Asr.stays (S59.atX (i := 0) rfl) k_) rfl rfl dn)) ?_
              refine dS (fun _ k_ => gT rfl rfl (p_mI rfl dn)) ?_
              refine dS (fun _ k_ => gT rfl rfl (p_fld fl49_0 rfl dn)) ?_
              refine dS (fun _ k_ => gT rfl rfl (p_ld ty3 (Asr.stays (S59.atX (i := 1) rfl) k_) rfl rfl dn)) ?_
              refine dS (fun _ k_ => gT rfl rfl (p_mul rfl rfl dn)) ?_
              refine dS (fun _ k_ => gT rfl rfl (p_mI rfl dn)) ?_
              refine dS (fun _ k_ => gT rfl rfl (p_fld fl49_1 rfl dn)) ?_
              refine dS (fun _ k_ => gT rfl rfl (p_ld ty3 (Asr.stays (S59.atX (i := 1) rfl) k_) rfl rfl dn)) ?_
              refine dS (fun _ k_ => gT rfl rfl (p_mul rfl rfl dn)) ?_
              refine dS (fun _ k_ => gT rfl rfl (p_cvD (B_Range_ok h77) fu41 rfl)) ?_
              refine dS (fun _ k_ => gT rfl rfl (o_neA (xs := [I r51.1.Low, I r51.1.High]) (ys := [I r76.Low, I r76.High]) (T := ((r51.1.Low == r76.Low) && (r51.1.High == r76.High))) rfl rfl eq49 ⟨⟨_, rfl⟩, ⟨⟨_, rfl⟩, trivial⟩⟩ ⟨⟨_, rfl⟩, ⟨⟨_, rfl⟩, trivial⟩⟩ (by simp [Bool.and_eq_true, and_assoc]) dn)) ?_
              refine dS (fun _ k_ => p_pkF rfl (rfl : _ = B (!((r51.1.Low == r76.Low) && (r51.1.High == r76.High)))) dn) ?_
              refine dS (fun _ k_ => p_mB rfl dn) ?_
              refine dB c78 ?_
              refine dS (fun _ k_ => gT rfl rfl (p_fld fl49_0 rfl dn)) ?_
              refine dS (fun _ k_ => gT rfl rfl (p_ld ty3 (Asr.stays (S59.atX (i := 2) rfl) k_) rfl rfl dn)) ?_
              refine dS (fun _ k_ => gT rfl rfl (p_fld fl49_0 rfl dn)) ?_
              refine dS (fun _ k_ => gT rfl rfl (p_ld ty3 (Asr.stays (S59.atX (i := 1) rfl) k_) rfl rfl dn)) ?_
              refine dS (fun _ k_ => gT rfl rfl (p_cmp rfl rfl rfl dn)) ?_
              refine dS (fun _ k_ => p_pkF rfl (rfl : _ = B (decide (r33.1.Low > r42.1.Low))) dn) ?_
              refine dS (fun _ k_ => p_mB rfl dn) ?_
              refine dB c82 ?_
              refine dS (fun _ k_ => gT rfl rfl (p_fld fl49_1 rfl dn)) ?_
              refine dS (fun _ k_ => gT rfl rfl (p_ld ty3 (Asr.stays (S59.atX (i := 2) rfl) k_) rfl rfl dn)) ?_
              refine dS (fun _ k_ => gT rfl rfl (p_fld fl49_1 rfl dn)) ?_
              refine dS (fun _ k_ => gT rfl rfl (p_ld ty3 (Asr.stays (S59.atX (i := 1) rfl) k_) rfl rfl dn)) ?_
              refine dS (fun _ k_ => gT rfl rfl (p_cmp rfl rfl rfl dn)) ?_
              refine dS (fun _ k_ => p_pkF rfl (rfl : _ = B (decide (r33.1.High > r42.1.High))) dn) ?_
              intro w86 k87; have S88 := S59.call k87
              refine wp_nil ?_
              refine c_cond rfl (fun c89 => ?_) (fun c89 => ?_)
              · replace H := condT c89 H
                refine c_seq ?_
                refine reg ?_
                refine p_aB rfl ?_
                refine wp_nil ?_
                obtain rfl := Option.some.inj H
                refine c_ret ?_; show bodyPostM (Fr none) 0 Tryd.prog Tryd.f8 _ .ret _ _
                refine ret_of (res1 rfl (rvT (rfl : _ = B false))) ?_
                exact ⟨_, rfl, rfl, S88.keep⟩
              · replace H := condF c89 H
                refine c_skip ?_
                refine c_seq ?_
                refine c_seq ?_
                refine reg ?_
                refine p_mI rfl ?_
                refine p_mI rfl ?_
                refine p_cmp rfl rfl rfl ?_
                refine wp_nil ?_
                refine c_cond rfl (fun c90 => ?_) (fun c90 => ?_)
                · replace H := condT c90 H
                  refine c_seq ?_
                  refine reg ?_
                  obtain ⟨r91, h92, H⟩ := bindS H
                  refine p_cv (law_counted_ok h92 (S88.atP (i := 1) rfl) (S88.atP (i := 2) rfl)) fu19 rfl S88 fun w93 S94 => ?_
                  refine p_aB rfl ?_
                  refine wp_nil ?_
                  obtain rfl := Option.some.inj H
                  refine c_ret ?_; show bodyPostM (Fr none) 0 Tryd.prog Tryd.f8 _ .ret _ _
                  refine ret_of (res1 rfl (rvT (rfl : _ = B r91))) ?_
                  exact ⟨_, rfl, rfl, S94.keep⟩
                · replace H := condF c90 H
                  refine c_skip ?_
                  refine c_seq ?_
                  refine reg ?_
                  refine p_mI rfl ?_
                  refine p_ixc ar61 rfl rfl (by decide) (by decide) ?_
                  refine p_ld ty3 (S88.atX (i := 3) rfl) rfl rfl ?_
                  refine p_mI rfl ?_
                  refine p_mI rfl ?_
                  refine p_sub rfl rfl ?_
                  obtain ⟨r95, h96, H⟩ := bindS H
                  refine p_cv (B_Mod_ok h96) fu27 rfl S88 fun w97 S98 => ?_
                  refine p_add rfl rfl ?_
                  refine p_aI rfl ?_
                  refine wp_nil ?_
                  refine c_seq ?_
                  refine reg ?_
                  refine p_ldA ty24 sz24 (S98.atX (i := 4) rfl) rfl rfl ?_
                  refine p_mI rfl ?_
                  refine p_mI rfl ?_
                  obtain ⟨r99, h100, H⟩ := bindS H
                  refine p_cv (tally_Many_ok h100 (S98.atP (i := 0) rfl) (S98.atP (i := 1) rfl) (S98.atP (i := 2) rfl)) fu32 rfl S98 fun w101 S102 => ?_
                  refine p_mT rfl ?_
                  refine p_ext rfl rfl ?_
                  refine p_ext rfl rfl ?_
                  refine p_allA in49 S102 fun b103 w104 S105 => ?_
                  refine p_stP (pre := []) (old := [I 0, I 0]) (post := []) (vs := [I r99.1.Low, I r99.1.High]) sz49 S105 (i := 0) rfl rfl rfl rfl (rfl : _ = AG [I r99.1.Low, I r99.1.High]) rfl rfl rfl rfl fun w106 S107 => ?_
                  refine p_aI rfl ?_
                  refine wp_nil ?_
                  refine c_seq ?_
                  refine reg ?_
                  refine p_ldA ty24 sz24 (S107.atX (i := 5) rfl) rfl rfl ?_
                  refine p_mI rfl ?_
                  refine p_add rfl rfl ?_
                  refine p_mI rfl ?_
                  obtain ⟨r108, h109, H⟩ := bindS H
                  refine p_cv (tally_Many_ok h109 (S107.atP (i := 0) rfl) (S107.atP (i := 1) rfl) (S107.atP (i := 2) rfl)) fu32 rfl S107 fun w110 S111 => ?_
                  refine p_mT rfl ?_
                  refine p_ext rfl rfl ?_
                  refine p_ext rfl rfl ?_
                  refine p_allA in49 S111 fun b112 w113 S114 => ?_
                  refine p_stP (pre := []) (old := [I 0, I 0]) (post := []) (vs := [I r108.1.Low, I r108.1.High]) sz49 S114 (i := 0) rfl rfl rfl rfl (rfl : _ = AG [I r108.1.Low, I r108.1.High]) rfl rfl rfl rfl fun w115 S116 => ?_
                  refine p_aI rfl ?_
                  refine wp_nil ?_
                  refine c_seq ?_
                  refine reg ?_
                  refine p_ldA ty49 sz49 (S116.atX (i := 1) rfl) rfl rfl ?_
                  refine p_ldA ty49 sz49 (S116.atX (i := 0) rfl) rfl rfl ?_
                  obtain ⟨r117, h118, H⟩ := bindS H
                  refine p_cv (B_Added_ok h118) fu42 rfl S116 fun w119 S120 => ?_
                  refine p_allA in49 S120 fun b121 w122 S123 => ?_
                  refine p_stP (pre := []) (old := [I 0, I 0]) (post := []) (vs := [I r117.Low, I r117.High]) sz49 S123 (i := 0) rfl rfl rfl rfl (rfl : _ = AG [I r117.Low, I r117.High]) rfl rfl rfl rfl fun w124 S125 => ?_
                  refine wp_nil ?_
                  refine c_seq ?_
                  refine reg ?_
                  refine p_mI rfl ?_
                  refine p_cmp rfl rfl rfl ?_
                  refine p_mB rfl ?_
                  rcases Bool.eq_false_or_eq_true ((r99.2 == 0)) with c126 | c126
                  · replace H := condT c126 H
                    refine eB c126 ?_
                    refine gT rfl rfl (p_mI rfl ?_)
                    refine gT rfl rfl (p_cmp rfl rfl rfl ?_)
                    refine p_pkT rfl (rfl : _ = B (r108.2 == 0)) ?_
                    refine p_mB rfl ?_
                    rcases Bool.eq_false_or_eq_true ((r108.2 == 0)) with c127 | c127
                    · replace H := condT c127 H
                      refine eB c127 ?_
                      refine gT rfl rfl (p_fld fl49_0 rfl ?_)
                      refine gT rfl rfl (p_ld ty3 (S125.atX (i := 5) rfl) rfl rfl ?_)
                      refine gT rfl rfl (p_fld fl49_0 rfl ?_)
                      refine gT rfl rfl (p_ld ty3 (S125.atX (i := 0) rfl) rfl rfl ?_)
                      refine gT rfl rfl (p_cmp rfl rfl rfl ?_)
                      refine p_pkT rfl (rfl : _ = B (decide (r33.1.Low ≥ r117.Low))) ?_
                      refine p_mB rfl ?_
                      rcases Bool.eq_false_or_eq_true (decide (r33.1.Low ≥ r117.Low)) with c128 | c128
                      · replace H := condT c128 H
                        refine eB c128 ?_
                        refine gT rfl rfl (p_fld fl49_1 rfl ?_)
                        refine gT rfl rfl (p_ld ty3 (S125.atX (i := 5) rfl) rfl rfl ?_)
                        refine gT rfl rfl (p_fld fl49_1 rfl ?_)
                        refine gT rfl rfl (p_ld ty3 (S125.atX (i := 0) rfl) rfl rfl ?_)
                        refine gT rfl rfl (p_cmp rfl rfl rfl ?_)
                        refine p_pkT rfl (rfl : _ = B (decide (r33.1.High ≤ r117.High))) ?_
                        refine p_mB rfl ?_
                        rcases Bool.eq_false_or_eq_true (decide (r33.1.High ≤ r117.High)) with c129 | c129
                        · replace H := condT c129 H
                          refine eB c129 ?_
                          obtain ⟨r130, h131, H⟩ := bindS H
                          refine gT rfl rfl (p_cv (law_counted_ok h131 (S125.atP (i := 1) rfl) (S125.atP (i := 2) rfl)) fu19 rfl S125 fun w132 S133 => ?_)
                          refine p_pkT rfl (rfl : _ = B r130) ?_
                          refine p_aB rfl ?_
                          refine wp_nil ?_
                          obtain rfl := Option.some.inj H
                          refine c_ret ?_; show bodyPostM (Fr none) 0 Tryd.prog Tryd.f8 _ .ret _ _
                          refine ret_of (res1 rfl (rvT (rfl : _ = B r130))) ?_
                          exact ⟨_, rfl, rfl, S133.keep⟩
                        · replace H := condF c129 H
                          refine eB c129 ?_
                          refine gF rfl rfl ?_
                          refine p_pkF rfl (rfl : _ = B false) ?_
                          refine p_aB rfl ?_
                          refine wp_nil ?_
                          obtain rfl := Option.some.inj H
                          refine c_ret ?_; show bodyPostM (Fr none) 0 Tryd.prog Tryd.f8 _ .ret _ _
                          refine ret_of (res1 rfl (rvT (rfl : _ = B false))) ?_
                          exact ⟨_, rfl, rfl, S125.keep⟩
                      · replace H := condF c128 H
                        refine eB c128 ?_
                        refine gF rfl rfl ?_
                        refine gF rfl rfl ?_
                        refine gF rfl rfl ?_
                        refine gF rfl rfl ?_
                        refine gF rfl rfl ?_
                        refine p_pkF rfl (rfl : _ = B false) ?_
                        refine p_mB rfl ?_
                        refine gF rfl rfl ?_
                        refine p_pkF rfl (rfl : _ = B false) ?_
                        refine p_aB rfl ?_
                        refine wp_nil ?_
                        obtain rfl := Option.some.inj H
                        refine c_ret ?_; show bodyPostM (Fr none) 0 Tryd.prog Tryd.f8 _ .ret _ _
                        refine ret_of (res1 rfl (rvT (rfl : _ = B false))) ?_
                        exact ⟨_, rfl, rfl, S125.keep⟩
                    · replace H := condF c127 H
                      refine eB c127 ?_
                      refine gF rfl rfl ?_
                      refine gF rfl rfl ?_
                      refine gF rfl rfl ?_
                      refine gF rfl rfl ?_
                      refine gF rfl rfl ?_
                      refine p_pkF rfl (rfl : _ = B false) ?_
                      refine p_mB rfl ?_
                      refine gF rfl rfl ?_
                      refine gF rfl rfl ?_
                      refine gF rfl rfl ?_
                      refine gF rfl rfl ?_
                      refine gF rfl rfl ?_
                      refine p_pkF rfl (rfl : _ = B false) ?_
                      refine p_mB rfl ?_
                      refine gF rfl rfl ?_
                      refine p_pkF rfl (rfl : _ = B false) ?_
                      refine p_aB rfl ?_
                      refine wp_nil ?_
                      obtain rfl := Option.some.inj H
                      refine c_ret ?_; show bodyPostM (Fr none) 0 Tryd.prog Tryd.f8 _ .ret _ _
                      refine ret_of (res1 rfl (rvT (rfl : _ = B false))) ?_
                      exact ⟨_, rfl, rfl, S125.keep⟩
                  · replace H := condF c126 H
                    refine eB c126 ?_
                    refine gF rfl rfl ?_
                    refine gF rfl rfl ?_
                    refine p_pkF rfl (rfl : _ = B false) ?_
                    refine p_mB rfl ?_
                    refine gF rfl rfl ?_
                    refine gF rfl rfl ?_
                    refine gF rfl rfl ?_
                    refine gF rfl rfl ?_
                    refine gF rfl rfl ?_
                    refine p_pkF rfl (rfl : _ = B false) ?_
                    refine p_mB rfl ?_
                    refine gF rfl rfl ?_
                    refine gF rfl rfl ?_
                    refine gF rfl rfl ?_
                    refine gF rfl rfl ?_
                    refine gF rfl rfl ?_
                    refine p_pkF rfl (rfl : _ = B false) ?_
                    refine p_mB rfl ?_
                    refine gF rfl rfl ?_
                    refine p_pkF rfl (rfl : _ = B false) ?_
                    refine p_aB rfl ?_
                    refine wp_nil ?_
                    obtain rfl := Option.some.inj H
                    refine c_ret ?_; show bodyPostM (Fr none) 0 Tryd.prog Tryd.f8 _ .ret _ _
                    refine ret_of (res1 rfl (rvT (rfl : _ = B false))) ?_
                    exact ⟨_, rfl, rfl, S125.keep⟩

end Go.Proofs.YtplpalmabgjibaaDoor

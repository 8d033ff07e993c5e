/- What the law's function computes, and that it does, printed by a program of mine. -/
import Derived.Test.YtplpalmabgjibaaDoorWC
set_option linter.unusedVariables false
set_option linter.unusedSimpArgs false
namespace Go.Proofs.YtplpalmabgjibaaDoor
open Go Go.Fx Go.Proofs
def law_TallyWhose_j2 (r9 : (List Int) × Int) (r29 : Int) (r71 : Bool × Int) (r75 : (List Int) × Int) (a0 : TallyBook) (z_2 : Unit) : Option Bool :=
  (B_At r9.1 r29).bind fun r87 =>
  bif ((decide (r87 ≥ 0)) == r71.1) then (bif ((r75.1.length : Int) != 1) then ((law_counted).bind fun r91 =>
  some r91)
  else ((getI r75.1 0).bind fun r96 =>
  (getI a0.Counts r96).bind fun r98 =>
  (B_At r9.1 r98.Who).bind fun r100 =>
  bif decide (r100 ≥ 0) then ((law_counted).bind fun r103 =>
  some r103)
  else (some false)))
  else (some false)

def law_TallyWhose_l3 (a0 : TallyBook) (r29 : Int) (r9 : (List Int) × Int) (rec_z_1 : ((List Int) × Int) → Option Bool) (z_1 : (List Int) × Int) : Option Bool :=
  bif decide (z_1.2 < (a0.Counts.length : Int)) then ((getI a0.Counts z_1.2).bind fun r43 =>
  bif (r43.Who == r29) then (need (fitsL (z_1.1.length + ([z_1.2] : List Int).length) 8) <|
  rec_z_1 (z_1.1 ++ ([z_1.2] : List Int), wr (z_1.2 + 1)))
  else (rec_z_1 (z_1.1, wr (z_1.2 + 1))))
  else ((tally_Right a0).bind fun r57 =>
  (law_without a0 z_1.1).bind fun r61 =>
  (tally_Right r61).bind fun r71 =>
  (tally_Wrong a0).bind fun r75 =>
  bif (r9.2 != 0) then (some false)
  else (bif (r57.2 != 0) then (some false)
  else (bif (r71.2 != 0) then (some false)
  else (bif (r75.2 != 0) then (some false)
  else ((B_Climbs r9.1 3).bind fun r88 =>
  bif !r88 then (some false)
  else ((B_Climbs r75.1 (a0.Counts.length : Int)).bind fun r93 =>
  bif !r93 then (some false)
  else (bif r57.1 then (bif ((r9.1.length : Int) != 3) then (some false)
  else (law_TallyWhose_j2 r9 r29 r71 r75 a0 ()))
  else (law_TallyWhose_j2 r9 r29 r71 r75 a0 ()))))))))

def law_TallyWhose (a0 : TallyBook) (a1 : Int) : Option Bool :=
  (tally_Whose a0).bind fun r9 =>
  (law_sound a0).bind fun r18 =>
  bif !r18 then (bif (r9.2 == 50) then (bif ((r9.1.length : Int) == 0) then ((law_counted).bind fun r25 =>
  some r25)
  else (some false))
  else (some false))
  else ((B_Mod a1 3).bind fun r29 =>
  loopF (law_TallyWhose_l3 a0 r29 r9) big (([] : List Int), 0))

set_option maxRecDepth 100000 in
theorem law_TallyWhose_ok {a0 : TallyBook} {a1 : Int} {A1 : Option Addr} {c2 : Nat} {w : World} {r : Bool} (H : law_TallyWhose a0 a1 = some r) (h3 : (rd eTallyCount 7 A1 c2 a0.Counts).ok w) (hg4 : (bl 0 [Value.func (.func 117) #[] #[], Value.func (.func 119) #[] #[]] 117).ok w) (hg5 : (bl 1 [I (-1), I (-1)] 115).ok w) : Calls Tryd.prog 12 #[AG [I a0.Trips, I a0.Room, SL A1 a0.Counts.length c2], I a1] w (RetV w (B r)) := by
  unfold law_TallyWhose at H
  refine fn_of (n := 135) Tryd.func12 rfl rfl (Nat.le_of_ble_eq_true rfl) ?_
  have S : St w (fun _ => False) w [] [rd eTallyCount 7 A1 c2 a0.Counts, bl 0 [Value.func (.func 117) #[] #[], Value.func (.func 119) #[] #[]] 117, bl 1 [I (-1), I (-1)] 115] := St.start w _ _ (List.forall_mem_cons.2 ⟨h3, (List.forall_mem_cons.2 ⟨hg4, (List.forall_mem_cons.2 ⟨hg5, (fun _ h_ => (List.not_mem_nil h_).elim)⟩)⟩)⟩)
  refine c_seq ?_
  refine reg ?_
  refine p_boxA rfl S fun b6 w7 S8 => ?_
  refine p_aB rfl ?_
  refine wp_nil ?_
  refine c_seq ?_
  refine reg ?_
  refine p_ldA ty24 sz24 (S8.atX (i := 0) rfl) rfl rfl ?_
  obtain ⟨r9, h10, H⟩ := bindS H
  refine p_cal (tally_Whose_ok h10 (S8.atP (i := 0) rfl) (S8.atP (i := 1) rfl) (S8.atP (i := 2) rfl)) fu31 rfl ?_
  rintro _ w11 ⟨A13, c14, rfl, k12, ⟨o15, n16⟩, _⟩
  have S17 := S8.callN k12 [rd intE 1 A13 c14 r9.1] (List.forall_mem_cons.2 ⟨⟨o15, New.inL n16⟩, (fun _ h_ => (List.not_mem_nil h_).elim)⟩)
  refine p_mT rfl ?_
  refine p_ext rfl rfl ?_
  refine p_ext rfl rfl ?_
  refine p_aS rfl ?_
  refine p_aI rfl ?_
  refine wp_nil ?_
  refine c_seq ?_
  refine c_seq ?_
  refine reg ?_
  refine p_ldA ty24 sz24 (S17.atX (i := 0) rfl) rfl rfl ?_
  obtain ⟨r18, h19, H⟩ := bindS H
  refine p_cv (law_sound_ok h19 (S17.atP (i := 1) rfl)) fu24 rfl S17 fun w20 S21 => ?_
  refine p_not rfl ?_
  refine wp_nil ?_
  refine c_cond rfl (fun c22 => ?_) (fun c22 => ?_)
  · replace H := condT c22 H
    refine c_seq ?_
    refine reg ?_
    refine p_mI rfl ?_
    refine p_cmp rfl rfl rfl ?_
    refine p_mB rfl ?_
    rcases Bool.eq_false_or_eq_true ((r9.2 == 50)) with c23 | c23
    · replace H := condT c23 H
      refine eB c23 ?_
      refine gT rfl rfl (p_mS rfl ?_)
      refine gT rfl rfl (p_len rfl sc31 ?_)
      refine gT rfl rfl (p_cmp rfl rfl rfl ?_)
      refine p_pkT rfl (rfl : _ = B ((r9.1.length : Int) == 0)) ?_
      refine p_mB rfl ?_
      rcases Bool.eq_false_or_eq_true (((r9.1.length : Int) == 0)) with c24 | c24
      · replace H := condT c24 H
        refine eB c24 ?_
        obtain ⟨r25, h26, H⟩ := bindS H
        refine gT rfl rfl (p_cv (law_counted_ok h26 (S21.atP (i := 2) rfl) (S21.atP (i := 3) rfl)) fu19 rfl S21 fun w27 S28 => ?_)
        refine p_pkT rfl (rfl : _ = B r25) ?_
        refine p_aB rfl ?_
        refine wp_nil ?_
        obtain rfl := Option.some.inj H
        refine c_ret ?_; show bodyPostM (Fr none) 0 Tryd.prog Tryd.f12 _ .ret _ _
        refine ret_of (res1 rfl (rvT (rfl : _ = B r25))) ?_
        exact ⟨_, rfl, rfl, S28.keep⟩
      · replace H := condF c24 H
        refine eB c24 ?_
        refine gF rfl rfl ?_
        refine p_pkF rfl (rfl : _ = B false) ?_
        refine p_aB rfl ?_
        refine wp_nil ?_
        obtain rfl := Option.some.inj H
        refine c_ret ?_; show bodyPostM (Fr none) 0 Tryd.prog Tryd.f12 _ .ret _ _
        refine ret_of (res1 rfl (rvT (rfl : _ = B false))) ?_
        exact ⟨_, rfl, rfl, S21.keep⟩
    · replace H := condF c23 H
      refine eB c23 ?_
      refine gF rfl rfl ?_
      refine gF rfl rfl ?_
      refine gF rfl rfl ?_
      refine p_pkF rfl (rfl : _ = B false) ?_
      refine p_mB rfl ?_
      refine gF rfl rfl ?_
      refine p_pkF rfl (rfl : _ = B false) ?_
      refine p_aB rfl ?_
      refine wp_nil ?_
      obtain rfl := Option.some.inj H
      refine c_ret ?_; show bodyPostM (Fr none) 0 Tryd.prog Tryd.f12 _ .ret _ _
      refine ret_of (res1 rfl (rvT (rfl : _ = B false))) ?_
      exact ⟨_, rfl, rfl, S21.keep⟩
  · replace H := condF c22 H
    refine c_skip ?_
    refine c_seq ?_
    refine reg ?_
    refine p_mI rfl ?_
    obtain ⟨r29, h30, H⟩ := bindS H
    refine p_cv (B_Mod_ok h30) fu27 rfl S21 fun w31 S32 => ?_
    refine p_bsl0 intE sc31 S32 fun A33 w35 S36 => ?_
    refine p_aI rfl ?_
    refine p_aS rfl ?_
    refine wp_nil ?_
    refine c_seq ?_
    refine c_seq ?_
    refine reg ?_
    refine p_aI rfl ?_
    refine wp_nil ?_
    refine c_block ?_
    refine c_lop (α := (List Int) × Int) (β := (Option Addr) × Nat) (law_TallyWhose_l3 a0 r29 r9) (fun z_1 y_1 => [(2, P b6 0), (5, SL A13 r9.1.length c14), (6, I r9.2), (7, I r29), (8, SL y_1.1 z_1.1.length y_1.2), (9, I z_1.2)]) (fun z_1 y_1 w_ => St w (fun _ => False) w_ [gr intE 1 3 y_1.1 y_1.2 z_1.1, bl b6 [I a0.Trips, I a0.Room, SL A1 a0.Counts.length c2] 24] [rd intE 1 A13 c14 r9.1, rd eTallyCount 7 A1 c2 a0.Counts, bl 0 [Value.func (.func 117) #[] #[], Value.func (.func 119) #[] #[]] 117, bl 1 [I (-1), I (-1)] 115]) (([] : List Int), 0) (A33, 0) H ⟨rfl, rfl, rfl, rfl, rfl, rfl, trivial⟩ S36 ?_
    intro m38 z_1 y_1 e39 w40 H S41
    unfold law_TallyWhose_l3 at H
    refine c_seq ?_
    refine c_seq ?_
    refine reg ?_
    refine p_mI rfl ?_
    refine p_fld fl24_2 rfl ?_
    refine p_ld ty22 (S41.atX (i := 1) rfl) rfl rfl ?_
    refine p_len rfl sc22 ?_
    refine p_cmp rfl rfl rfl ?_
    refine wp_nil ?_
    refine c_cond rfl (fun c42 => ?_) (fun c42 => ?_)
    · replace H := condT c42 H
      refine c_skip ?_
      refine c_seq ?_
      refine c_block ?_
      refine c_seq ?_
      refine reg ?_
      refine p_fld fl24_2 rfl ?_
      refine p_ld ty22 (S41.atX (i := 1) rfl) rfl rfl ?_
      refine p_mI rfl ?_
      obtain ⟨r43, h44, H⟩ := bindS H
      refine p_ixE sc22 h44 (S41.atP (i := 1) rfl).1 rfl rfl rfl ?_
      refine p_fldE fl33_0 (sl_here (S41.atP (i := 1) rfl).1 h44) rfl ?_
      refine p_ldE ty3 h44 (S41.atP (i := 1) rfl).1 rfl rfl ?_
      refine p_mI rfl ?_
      refine p_cmp rfl rfl rfl ?_
      refine wp_nil ?_
      refine c_cond rfl (fun c45 => ?_) (fun c45 => ?_)
      · replace H := condT c45 H
        refine reg ?_
        refine p_mS rfl ?_
        refine p_mI rfl ?_
        refine p_bsl (enc := intE) (l := ([z_1.2] : List Int)) I (fun _ => rfl) sc31 in3 intE_len rfl (by decide) (by decide) zr3_1 S41 rfl fun A46 c47 w48 S49 => ?_
        obtain ⟨h55, H⟩ := needS H
        refine p_app (enc := intE) sc31 in3 rfl intE_len intE_one (by decide) S49 (k := 1) rfl (gr_sl intE_len (S49.atX (i := 0) rfl)) h55 (by simp) rfl rfl fun A53 c54 w51 S52 => ?_
        refine p_aS rfl ?_
        refine wp_nil ?_
        refine reg ?_
        refine p_mI rfl ?_
        refine p_add rfl rfl ?_
        refine p_aI rfl ?_
        refine wp_nil ?_
        have S56 := S52.pk [1, 2] (by decide) [0, 1, 2, 3] rfl rfl
        exact ⟨(z_1.1 ++ ([z_1.2] : List Int), wr (z_1.2 + 1)), (A53, c54), _, rfl, ⟨rfl, rfl, rfl, rfl, rfl, rfl, trivial⟩, H, S56⟩
      · replace H := condF c45 H
        refine c_skip ?_
        refine reg ?_
        refine p_mI rfl ?_
        refine p_add rfl rfl ?_
        refine p_aI rfl ?_
        refine wp_nil ?_
        exact ⟨(z_1.1, wr (z_1.2 + 1)), (y_1.1, y_1.2), _, rfl, ⟨rfl, rfl, rfl, rfl, rfl, rfl, trivial⟩, H, S41⟩
    · replace H := condF c42 H
      refine c_exit ?_
      refine c_seq ?_
      refine reg ?_
      refine p_ldA ty24 sz24 (S41.atX (i := 1) rfl) rfl rfl ?_
      obtain ⟨r57, h58, H⟩ := bindS H
      refine p_cv (tally_Right_ok h58 (S41.atP (i := 1) rfl) (S41.atP (i := 2) rfl) (S41.atP (i := 3) rfl)) fu28 rfl S41 fun w59 S60 => ?_
      refine p_mT rfl ?_
      refine p_ext rfl rfl ?_
      refine p_ext rfl rfl ?_
      refine p_aB rfl ?_
      refine p_aI rfl ?_
      refine wp_nil ?_
      refine c_seq ?_
      refine reg ?_
      refine p_ldA ty24 sz24 (S60.atX (i := 1) rfl) rfl rfl ?_
      refine p_mS rfl ?_
      obtain ⟨r61, h62, H⟩ := bindS H
      refine p_cal (law_without_ok h62 (S60.atP (i := 1) rfl) (gr_rd intE_len (S60.atX (i := 0) rfl))) fu47 rfl ?_
      rintro _ w63 ⟨A65, c66, rfl, k64, ⟨o67, n68⟩, _⟩
      have S70 := S60.addNew k64 o67 n68
      obtain ⟨r71, h72, H⟩ := bindS H
      refine p_cv (tally_Right_ok h72 (gr_rd eTallyCount_len (S70.atX (i := 0) rfl)) (S70.atP (i := 2) rfl) (S70.atP (i := 3) rfl)) fu28 rfl S70 fun w73 S74 => ?_
      refine p_mT rfl ?_
      refine p_ext rfl rfl ?_
      refine p_ext rfl rfl ?_
      refine p_aB rfl ?_
      refine p_aI rfl ?_
      refine wp_nil ?_
      refine c_seq ?_
      refine reg ?_
      refine p_ldA ty24 sz24 (S74.atX (i := 2) rfl) rfl rfl ?_
      obtain ⟨r75, h76, H⟩ := bindS H
      refine p_cal (tally_Wrong_ok h76 (S74.atP (i := 1) rfl) (S74.atP (i := 2) rfl) (S74.atP (i := 3) rfl)) fu30 rfl ?_
      rintro _ w77 ⟨A79, c80, rfl, k78, ⟨o81, n82⟩, _⟩
      have S83 := S74.callN k78 [rd intE 1 A79 c80 r75.1] (List.forall_mem_cons.2 ⟨⟨o81, Al.inL n82 ((List.forall_mem_cons.2 ⟨(fp_mem (i := 1) rfl), (fun _ h_ => (List.not_mem_nil h_).elim)⟩))⟩, (fun _ h_ => (List.not_mem_nil h_).elim)⟩)
      refine p_mT rfl ?_
      refine p_ext rfl rfl ?_
      refine p_ext rfl rfl ?_
      refine p_aS rfl ?_
      refine p_aI rfl ?_
      refine wp_nil ?_
      refine c_join (α := Unit) (β := Unit) (fun z_2 y_2 => [(2, P b6 0), (5, SL A13 r9.1.length c14), (7, I r29), (12, B r71.1), (14, SL A79 r75.1.length c80)]) (fun z_2 y_2 w_ => law_TallyWhose_j2 r9 r29 r71 r75 a0 z_2 = some r ∧ St w (fun _ => False) w_ [gr eTallyCount 7 33 A65 c66 r61.Counts, gr intE 1 3 y_1.1 y_1.2 z_1.1, bl b6 [I a0.Trips, I a0.Room, SL A1 a0.Counts.length c2] 24] [rd intE 1 A79 c80 r75.1, rd intE 1 A13 c14 r9.1, rd eTallyCount 7 A1 c2 a0.Counts, bl 0 [Value.func (.func 117) #[] #[], Value.func (.func 119) #[] #[]] 117, bl 1 [I (-1), I (-1)] 115]) ?_ ?_
      · refine c_seq ?_
        refine reg ?_
        refine p_mI rfl ?_
        refine p_cmp rfl rfl rfl ?_
        refine p_mB rfl ?_
        rcases Bool.eq_false_or_eq_true ((r9.2 != 0)) with c84 | c84
        · replace H := condT c84 H
          refine eB c84 ?_
          refine gF rfl rfl ?_
          refine gF rfl rfl ?_
          refine p_pkT rfl (rfl : _ = B true) ?_
          refine p_mB rfl ?_
          refine gF rfl rfl ?_
          refine gF rfl rfl ?_
          refine p_pkT rfl (rfl : _ = B true) ?_
          refine p_mB rfl ?_
          refine gF rfl rfl ?_
          refine gF rfl rfl ?_
          refine p_pkT rfl (rfl : _ = B true) ?_
          refine p_mB rfl ?_
          refine gF rfl rfl ?_
          refine gF rfl rfl ?_
          refine gF rfl rfl ?_
          refine p_pkT rfl (rfl : _ = B true) ?_
          refine p_mB rfl ?_
          refine gF rfl rfl ?_
          refine gF rfl rfl ?_
          refine gF rfl rfl ?_
          refine gF rfl rfl ?_
          refine gF rfl rfl ?_
          refine gF rfl rfl ?_
          refine p_pkT rfl (rfl : _ = B true) ?_
          refine p_mB rfl ?_
          refine gF rfl rfl ?_
          refine gF rfl rfl ?_
          refine o_guardU rfl rfl ?_
          refine o_guardU rfl rfl ?_
          refine o_guardU rfl rfl ?_
          refine gF rfl rfl ?_
          refine p_pkT rfl (rfl : _ = B true) ?_
          refine wp_nil ?_
          refine c_true rfl ?_
          refine c_seq ?_
          refine reg ?_
          refine p_aB rfl ?_
          refine wp_nil ?_
          obtain rfl := Option.some.inj H
          refine c_ret ?_; show bodyPostM (Fr none) 0 Tryd.prog Tryd.f12 _ .ret _ _
          refine ret_of (res1 rfl (rvT (rfl : _ = B false))) ?_
          exact ⟨_, rfl, rfl, S83.keep⟩
        · replace H := condF c84 H
          refine eB c84 ?_
          refine gT rfl rfl (p_mI rfl ?_)
          refine gT rfl rfl (p_cmp rfl rfl rfl ?_)
          refine p_pkF rfl (rfl : _ = B (r57.2 != 0)) ?_
          refine p_mB rfl ?_
          rcases Bool.eq_false_or_eq_true ((r57.2 != 0)) with c85 | c85
          · replace H := condT c85 H
            refine eB c85 ?_
            refine gF rfl rfl ?_
            refine gF rfl rfl ?_
            refine p_pkT rfl (rfl : _ = B true) ?_
            refine p_mB rfl ?_
            refine gF rfl rfl ?_
            refine gF rfl rfl ?_
            refine p_pkT rfl (rfl : _ = B true) ?_
            refine p_mB rfl ?_
            refine gF rfl rfl ?_
            refine gF rfl rfl ?_
            refine gF rfl rfl ?_
            refine p_pkT rfl (rfl : _ = B true) ?_
            refine p_mB rfl ?_
            refine gF rfl rfl ?_
            refine gF rfl rfl ?_
            refine gF rfl rfl ?_
            refine gF rfl rfl ?_
            refine gF rfl rfl ?_
            refine gF rfl rfl ?_
            refine p_pkT rfl (rfl : _ = B true) ?_
            refine p_mB rfl ?_
            refine gF rfl rfl ?_
            refine gF rfl rfl ?_
            refine o_guardU rfl rfl ?_
            refine o_guardU rfl rfl ?_
            refine o_guardU rfl rfl ?_
            refine gF rfl rfl ?_
            refine p_pkT rfl (rfl : _ = B true) ?_
            refine wp_nil ?_
            refine c_true rfl ?_
            refine c_seq ?_
            refine reg ?_
            refine p_aB rfl ?_
            refine wp_nil ?_
            obtain rfl := Option.some.inj H
            refine c_ret ?_; show bodyPostM (Fr none) 0 Tryd.prog Tryd.f12 _ .ret _ _
            refine ret_of (res1 rfl (rvT (rfl : _ = B false))) ?_
            exact ⟨_, rfl, rfl, S83.keep⟩
          · replace H := condF c85 H
            refine eB c85 ?_
            refine gT rfl rfl (p_mI rfl ?_)
            refine gT rfl rfl (p_cmp rfl rfl rfl ?_)
            refine p_pkF rfl (rfl : _ = B (r71.2 != 0)) ?_
            refine p_mB rfl ?_
            rcases Bool.eq_false_or_eq_true ((r71.2 != 0)) with c86 | c86
            · replace H := condT c86 H
              refine eB c86 ?_
              refine gF rfl rfl ?_
              refine gF rfl rfl ?_
              refine p_pkT rfl (rfl : _ = B true) ?_
              refine p_mB rfl ?_
              refine gF rfl rfl ?_
              refine gF rfl rfl ?_
              refine gF rfl rfl ?_
              refine p_pkT rfl (rfl : _ = B true) ?_
              refine p_mB rfl ?_
              refine gF rfl rfl ?_
              refine gF rfl rfl ?_
              refine gF rfl rfl ?_
              refine gF rfl rfl ?_
              refine gF rfl rfl ?_
              refine gF rfl rfl ?_
              refine p_pkT rfl (rfl : _ = B true) ?_
              refine p_mB rfl ?_
              refine gF rfl rfl ?_
              refine gF rfl rfl ?_
              refine o_guardU rfl rfl ?_
              refine o_guardU rfl rfl ?_
              refine o_guardU rfl rfl ?_
              refine gF rfl rfl ?_
              refine p_pkT rfl (rfl : _ = B true) ?_
              refine wp_nil ?_
              refine c_true rfl ?_
              refine c_seq ?_
              refine reg ?_
              refine p_aB rfl ?_
              refine wp_nil ?_
              obtain rfl := Option.some.inj H
              refine c_ret ?_; show bodyPostM (Fr none) 0 Tryd.prog Tryd.f12 _ .ret _ _
              refine ret_of (res1 rfl (rvT (rfl : _ = B false))) ?_
              exact ⟨_, rfl, rfl, S83.keep⟩
            · replace H := condF c86 H
              refine eB c86 ?_
              refine gT rfl rfl (p_mI rfl ?_)
              refine gT rfl rfl (p_cmp rfl rfl rfl ?_)
              refine p_pkF rfl (rfl : _ = B (r75.2 != 0)) ?_
              refine p_mB rfl ?_
              rcases Bool.eq_false_or_eq_true ((r75.2 != 0)) with c87 | c87
              · replace H := condT c87 H
                refine eB c87 ?_
                refine gF rfl rfl ?_
                refine gF rfl rfl ?_
                refine gF rfl rfl ?_
                refine p_pkT rfl (rfl : _ = B true) ?_
                refine p_mB rfl ?_
                refine gF rfl rfl ?_
                refine gF rfl rfl ?_
                refine gF rfl rfl ?_
                refine gF rfl rfl ?_
                refine gF rfl rfl ?_
                refine gF rfl rfl ?_
                refine p_pkT rfl (rfl : _ = B true) ?_
                refine p_mB rfl ?_
                refine gF rfl rfl ?_
                refine gF rfl rfl ?_
                refine o_guardU rfl rfl ?_
                refine o_guardU rfl rfl ?_
                refine o_guardU rfl rfl ?_
                refine gF rfl rfl ?_
                refine p_pkT rfl (rfl : _ = B true) ?_
                refine wp_nil ?_
                refine c_true rfl ?_
                refine c_seq ?_
                refine reg ?_
                refine p_aB rfl ?_
                refine wp_nil ?_
                obtain rfl := Option.some.inj H
                refine c_ret ?_; show bodyPostM (Fr none) 0 Tryd.prog Tryd.f12 _ .ret _ _
                refine ret_of (res1 rfl (rvT (rfl : _ = B false))) ?_
                exact ⟨_, rfl, rfl, S83.keep⟩
              · replace H := condF c87 H
                refine eB c87 ?_
                refine gT rfl rfl (p_mS rfl ?_)
                obtain ⟨r88, h89, H⟩ := bindS H
                refine gT rfl rfl (p_cv (B_Climbs_ok h89 (S83.atP (i := 1) rfl)) fu45 rfl S83 fun w90 S91 => ?_)
                refine gT rfl rfl (p_not rfl ?_)
                refine p_pkF rfl (rfl : _ = B (!r88)) ?_
                refine p_mB rfl ?_
                rcases Bool.eq_false_or_eq_true (!r88) with c92 | c92
                · replace H := condT c92 H
                  refine eB c92 ?_
                  refine gF rfl rfl ?_
                  refine gF rfl rfl ?_
                  refine gF rfl rfl ?_
                  refine gF rfl rfl ?_
                  refine gF rfl rfl ?_
                  refine gF rfl rfl ?_
                  refine p_pkT rfl (rfl : _ = B true) ?_
                  refine p_mB rfl ?_
                  refine gF rfl rfl ?_
                  refine gF rfl rfl ?_
                  refine o_guardU rfl rfl ?_
                  refine o_guardU rfl rfl ?_
                  refine o_guardU rfl rfl ?_
                  refine gF rfl rfl ?_
                  refine p_pkT rfl (rfl : _ = B true) ?_
                  refine wp_nil ?_
                  refine c_true rfl ?_
                  refine c_seq ?_
                  refine reg ?_
                  refine p_aB rfl ?_
                  refine wp_nil ?_
                  obtain rfl := Option.some.inj H
                  refine c_ret ?_; show bodyPostM (Fr none) 0 Tryd.prog Tryd.f12 _ .ret _ _
                  refine ret_of (res1 rfl (rvT (rfl : _ = B false))) ?_
                  exact ⟨_, rfl, rfl, S91.keep⟩
                · replace H := condF c92 H
                  refine eB c92 ?_
                  refine gT rfl rfl (p_mS rfl ?_)
                  refine gT rfl rfl (p_fld fl24_2 rfl ?_)
                  refine gT rfl rfl (p_ld ty22 (S91.atX (i := 2) rfl) rfl rfl ?_)
                  refine gT rfl rfl (p_len rfl sc22 ?_)
                  obtain ⟨r93, h94, H⟩ := bindS H
                  refine gT rfl rfl (p_cv (B_Climbs_ok h94 (S91.atP (i := 0) rfl)) fu45 rfl S91 fun w95 S96 => ?_)
                  refine gT rfl rfl (p_not rfl ?_)
                  refine p_pkF rfl (rfl : _ = B (!r93)) ?_
                  refine p_mB rfl ?_
                  rcases Bool.eq_false_or_eq_true (!r93) with c97 | c97
                  · replace H := condT c97 H
                    refine eB c97 ?_
                    refine gF rfl rfl ?_
                    refine gF rfl rfl ?_
                    refine o_guardU rfl rfl ?_
                    refine o_guardU rfl rfl ?_
                    refine o_guardU rfl rfl ?_
                    refine gF rfl rfl ?_
                    refine p_pkT rfl (rfl : _ = B true) ?_
                    refine wp_nil ?_
                    refine c_true rfl ?_
                    refine c_seq ?_
                    refine reg ?_
                    refine p_aB rfl ?_
                    refine wp_nil ?_
                    obtain rfl := Option.some.inj H
                    refine c_ret ?_; show bodyPostM (Fr none) 0 Tryd.prog Tryd.f12 _ .ret _ _
                    refine ret_of (res1 rfl (rvT (rfl : _ = B false))) ?_
                    exact ⟨_, rfl, rfl, S96.keep⟩
                  · replace H := condF c97 H
                    refine eB c97 ?_
                    refine gT rfl rfl (p_mB rfl ?_)
                    refine gT rfl rfl (p_mB rfl ?_)
                    rcases Bool.eq_false_or_eq_true (r57.1) with c98 | c98
                    · replace H := condT c98 H
                      refine eB c98 ?_
                      refine gT rfl rfl (p_mS rfl ?_)
                      refine gT rfl rfl (p_len rfl sc31 ?_)
                      refine gT rfl rfl (p_cmp rfl rfl rfl ?_)
                      refine gT rfl rfl (p_pkT rfl (rfl : _ = B ((r9.1.length : Int) != 3)) ?_)
                      refine p_pkF rfl (rfl : _ = B ((r9.1.length : Int) != 3)) ?_
                      refine wp_nil ?_
                      refine c_cond rfl (fun c99 => ?_) (fun c99 => ?_)
                      · replace H := condT c99 H
                        refine c_seq ?_
                        refine reg ?_
                        refine p_aB rfl ?_
                        refine wp_nil ?_
                        obtain rfl := Option.some.inj H
                        refine c_ret ?_; show bodyPostM (Fr none) 0 Tryd.prog Tryd.f12 _ .ret _ _
                        refine ret_of (res1 rfl (rvT (rfl : _ = B false))) ?_
                        exact ⟨_, rfl, rfl, S96.keep⟩
                      · replace H := condF c99 H
                        refine c_skip ?_
                        exact ⟨(), (), _, rfl, ⟨rfl, rfl, rfl, rfl, rfl, trivial⟩, H, S96⟩
                    · replace H := condF c98 H
                      refine eB c98 ?_
                      refine gF rfl rfl ?_
                      refine gF rfl rfl ?_
                      refine gF rfl rfl ?_
                      refine gT rfl rfl (p_pkF rfl (rfl : _ = B false) ?_)
                      refine p_pkF rfl (rfl : _ = B false) ?_
                      refine wp_nil ?_
                      refine c_false rfl ?_
                      refine c_skip ?_
                      exact ⟨(), (), _, rfl, ⟨rfl, rfl, rfl, rfl, rfl, trivial⟩, H, S96⟩
      · intro z_2 y_2 e84 w85 S86; obtain ⟨H, S86⟩ := S86
        unfold law_TallyWhose_j2 at H
        refine c_seq ?_
        obtain ⟨r87, h88, H⟩ := bindS H
        rcases Bool.eq_false_or_eq_true (((decide (r87 ≥ 0)) == r71.1)) with c89 | c89
        · replace H := condT c89 H
          rcases Bool.eq_false_or_eq_true (((r75.1.length : Int) != 1)) with c90 | c90
          · replace H := condT c90 H
            obtain ⟨r91, h92, H⟩ := bindS H
            refine reg_q mixed 28 (by kernel_rfl) ?_
            refine dS (fun _ k_ => p_mS rfl dn) ?_
            refine dS (fun _ k_ => p_mI rfl dn) ?_
            refine dS (fun _ k_ => p_cvD (B_At_ok h88 (Asr.stays (S86.atP (i := 1) rfl) k_)) fu49 rfl) ?_
            refine dS (fun _ k_ => p_cmp rfl rfl rfl dn) ?_
            refine dS (fun _ k_ => p_mB rfl dn) ?_
            refine dS (fun _ k_ => o_eqB rfl rfl ub4 dn) ?_
            refine dS (fun _ k_ => p_mB rfl dn) ?_
            refine dB c89 ?_
            refine dS (fun _ k_ => gT rfl rfl (p_mS rfl dn)) ?_
            refine dS (fun _ k_ => gT rfl rfl (p_len rfl sc31 dn)) ?_
            refine dS (fun _ k_ => gT rfl rfl (p_cmp rfl rfl rfl dn)) ?_
            refine dS (fun _ k_ => gT rfl rfl (p_mB rfl dn)) ?_
            refine dB c90 ?_
            refine dS (fun _ k_ => gF rfl rfl dnU) ?_
            refine dS (fun _ k_ => gF rfl rfl dnU) ?_
            refine dS (fun _ k_ => gF rfl rfl dnU) ?_
            refine dS (fun _ k_ => gF rfl rfl dnU) ?_
            refine dS (fun _ k_ => gF rfl rfl dnU) ?_
            refine dS (fun _ k_ => gF rfl rfl dnU) ?_
            refine dS (fun _ k_ => gF rfl rfl dnU) ?_
            refine dS (fun _ k_ => gF rfl rfl dnU) ?_
            refine dS (fun _ k_ => gF rfl rfl dnU) ?_
            refine dS (fun _ k_ => gF rfl rfl dnU) ?_
            refine dS (fun _ k_ => gF rfl rfl dnU) ?_
            refine dS (fun _ k_ => gT rfl rfl (p_pkT rfl (rfl : _ = B true) dn)) ?_
            refine dS (fun _ k_ => p_pkT rfl (rfl : _ = B true) dn) ?_
            refine dS (fun _ k_ => p_mB rfl dn) ?_
            refine dS (fun _ k_ => gT rfl rfl (p_cvD (law_counted_ok h92 (Asr.stays (S86.atP (i := 3) rfl) k_) (Asr.stays (S86.atP (i := 4) rfl) k_)) fu19 rfl)) ?_
            refine dS (fun _ k_ => p_pkT rfl (rfl : _ = B r91) dn) ?_
            refine dS (fun _ k_ => p_aB rfl dn) ?_
            intro w93 k94; have S95 := S86.call k94
            refine wp_nil ?_
            obtain rfl := Option.some.inj H
            refine c_ret ?_; show bodyPostM (Fr none) 0 Tryd.prog Tryd.f12 _ .ret _ _
            refine ret_of (res1 rfl (rvT (rfl : _ = B r91))) ?_
            exact ⟨_, rfl, rfl, S95.keep⟩
          · replace H := condF c90 H
            obtain ⟨r96, h97, H⟩ := bindS H
            obtain ⟨r98, h99, H⟩ := bindS H
            obtain ⟨r100, h101, H⟩ := bindS H
            rcases Bool.eq_false_or_eq_true (decide (r100 ≥ 0)) with c102 | c102
            · replace H := condT c102 H
              obtain ⟨r103, h104, H⟩ := bindS H
              refine reg_q mixed 28 (by kernel_rfl) ?_
              refine dS (fun _ k_ => p_mS rfl dn) ?_
              refine dS (fun _ k_ => p_mI rfl dn) ?_
              refine dS (fun _ k_ => p_cvD (B_At_ok h88 (Asr.stays (S86.atP (i := 1) rfl) k_)) fu49 rfl) ?_
              refine dS (fun _ k_ => p_cmp rfl rfl rfl dn) ?_
              refine dS (fun _ k_ => p_mB rfl dn) ?_
              refine dS (fun _ k_ => o_eqB rfl rfl ub4 dn) ?_
              refine dS (fun _ k_ => p_mB rfl dn) ?_
              refine dB c89 ?_
              refine dS (fun _ k_ => gT rfl rfl (p_mS rfl dn)) ?_
              refine dS (fun _ k_ => gT rfl rfl (p_len rfl sc31 dn)) ?_
              refine dS (fun _ k_ => gT rfl rfl (p_cmp rfl rfl rfl dn)) ?_
              refine dS (fun _ k_ => gT rfl rfl (p_mB rfl dn)) ?_
              refine dB c90 ?_
              refine dS (fun _ k_ => gT rfl rfl (p_mS rfl dn)) ?_
              refine dS (fun _ k_ => gT rfl rfl (p_fld fl24_2 rfl dn)) ?_
              refine dS (fun _ k_ => gT rfl rfl (p_ld ty22 (Asr.stays (S86.atX (i := 2) rfl) k_) rfl rfl dn)) ?_
              refine dS (fun _ k_ => gT rfl rfl (p_mS rfl dn)) ?_
              refine dS (fun _ k_ => gT rfl rfl (p_ixE sc31 h97 (Asr.stays (S86.atP (i := 0) rfl) k_).1 rfl rfl rfl dn)) ?_
              refine dS (fun _ k_ => gT rfl rfl (p_ldE ty3 h97 (Asr.stays (S86.atP (i := 0) rfl) k_).1 rfl rfl dn)) ?_
              refine dS (fun _ k_ => gT rfl rfl (p_ixE sc22 h99 (Asr.stays (S86.atP (i := 2) rfl) k_).1 rfl rfl rfl dn)) ?_
              refine dS (fun _ k_ => gT rfl rfl (p_fldE fl33_0 (sl_here (Asr.stays (S86.atP (i := 2) rfl) k_).1 h99) rfl dn)) ?_
              refine dS (fun _ k_ => gT rfl rfl (p_ldE ty3 h99 (Asr.stays (S86.atP (i := 2) rfl) k_).1 rfl rfl dn)) ?_
              refine dS (fun _ k_ => gT rfl rfl (p_cvD (B_At_ok h101 (Asr.stays (S86.atP (i := 1) rfl) k_)) fu49 rfl)) ?_
              refine dS (fun _ k_ => gT rfl rfl (p_cmp rfl rfl rfl dn)) ?_
              refine dS (fun _ k_ => gT rfl rfl (p_pkF rfl (rfl : _ = B (decide (r100 ≥ 0))) dn)) ?_
              refine dS (fun _ k_ => p_pkT rfl (rfl : _ = B (decide (r100 ≥ 0))) dn) ?_
              refine dS (fun _ k_ => p_mB rfl dn) ?_
              refine dB c102 ?_
              refine dS (fun _ k_ => gT rfl rfl (p_cvD (law_counted_ok h104 (Asr.stays (S86.atP (i := 3) rfl) k_) (Asr.stays (S86.atP (i := 4) rfl) k_)) fu19 rfl)) ?_
              refine dS (fun _ k_ => p_pkT rfl (rfl : _ = B r103) dn) ?_
              refine dS (fun _ k_ => p_aB rfl dn) ?_
              intro w105 k106; have S107 := S86.call k106
              refine wp_nil ?_
              obtain rfl := Option.some.inj H
              refine c_ret ?_; show bodyPostM (Fr none) 0 Tryd.prog Tryd.f12 _ .ret _ _
              refine ret_of (res1 rfl (rvT (rfl : _ = B r103))) ?_
              exact ⟨_, rfl, rfl, S107.keep⟩
            · replace H := condF c102 H
              refine reg_q mixed 28 (by kernel_rfl) ?_
              refine dS (fun _ k_ => p_mS rfl dn) ?_
              refine dS (fun _ k_ => p_mI rfl dn) ?_
              refine dS (fun _ k_ => p_cvD (B_At_ok h88 (Asr.stays (S86.atP (i := 1) rfl) k_)) fu49 rfl) ?_
              refine dS (fun _ k_ => p_cmp rfl rfl rfl dn) ?_
              refine dS (fun _ k_ => p_mB rfl dn) ?_
              refine dS (fun _ k_ => o_eqB rfl rfl ub4 dn) ?_
              refine dS (fun _ k_ => p_mB rfl dn) ?_
              refine dB c89 ?_
              refine dS (fun _ k_ => gT rfl rfl (p_mS rfl dn)) ?_
              refine dS (fun _ k_ => gT rfl rfl (p_len rfl sc31 dn)) ?_
              refine dS (fun _ k_ => gT rfl rfl (p_cmp rfl rfl rfl dn)) ?_
              refine dS (fun _ k_ => gT rfl rfl (p_mB rfl dn)) ?_
              refine dB c90 ?_
              refine dS (fun _ k_ => gT rfl rfl (p_mS rfl dn)) ?_
              refine dS (fun _ k_ => gT rfl rfl (p_fld fl24_2 rfl dn)) ?_
              refine dS (fun _ k_ => gT rfl rfl (p_ld ty22 (Asr.stays (S86.atX (i := 2) rfl) k_) rfl rfl dn)) ?_
              refine dS (fun _ k_ => gT rfl rfl (p_mS rfl dn)) ?_
              refine dS (fun _ k_ => gT rfl rfl (p_ixE sc31 h97 (Asr.stays (S86.atP (i := 0) rfl) k_).1 rfl rfl rfl dn)) ?_
              refine dS (fun _ k_ => gT rfl rfl (p_ldE ty3 h97 (Asr.stays (S86.atP (i := 0) rfl) k_).1 rfl rfl dn)) ?_
              refine dS (fun _ k_ => gT rfl rfl (p_ixE sc22 h99 (Asr.stays (S86.atP (i := 2) rfl) k_).1 rfl rfl rfl dn)) ?_
              refine dS (fun _ k_ => gT rfl rfl (p_fldE fl33_0 (sl_here (Asr.stays (S86.atP (i := 2) rfl) k_).1 h99) rfl dn)) ?_
              refine dS (fun _ k_ => gT rfl rfl (p_ldE ty3 h99 (Asr.stays (S86.atP (i := 2) rfl) k_).1 rfl rfl dn)) ?_
              refine dS (fun _ k_ => gT rfl rfl (p_cvD (B_At_ok h101 (Asr.stays (S86.atP (i := 1) rfl) k_)) fu49 rfl)) ?_
              refine dS (fun _ k_ => gT rfl rfl (p_cmp rfl rfl rfl dn)) ?_
              refine dS (fun _ k_ => gT rfl rfl (p_pkF rfl (rfl : _ = B (decide (r100 ≥ 0))) dn)) ?_
              refine dS (fun _ k_ => p_pkT rfl (rfl : _ = B (decide (r100 ≥ 0))) dn) ?_
              refine dS (fun _ k_ => p_mB rfl dn) ?_
              refine dB c102 ?_
              refine dS (fun _ k_ => gF rfl rfl dnU) ?_
              refine dS (fun _ k_ => p_pkF rfl (rfl : _ = B false) dn) ?_
              refine dS (fun _ k_ => p_aB rfl dn) ?_
              intro w108 k109; have S110 := S86.call k109
              refine wp_nil ?_
              obtain rfl := Option.some.inj H
              refine c_ret ?_; show bodyPostM (Fr none) 0 Tryd.prog Tryd.f12 _ .ret _ _
              refine ret_of (res1 rfl (rvT (rfl : _ = B false))) ?_
              exact ⟨_, rfl, rfl, S110.keep⟩
        · replace H := condF c89 H
          refine reg_q mixed 28 (by kernel_rfl) ?_
          refine dS (fun _ k_ => p_mS rfl dn) ?_
          refine dS (fun _ k_ => p_mI rfl dn) ?_
          refine dS (fun _ k_ => p_cvD (B_At_ok h88 (Asr.stays (S86.atP (i := 1) rfl) k_)) fu49 rfl) ?_
          refine dS (fun _ k_ => p_cmp rfl rfl rfl dn) ?_
          refine dS (fun _ k_ => p_mB rfl dn) ?_
          refine dS (fun _ k_ => o_eqB rfl rfl ub4 dn) ?_
          refine dS (fun _ k_ => p_mB rfl dn) ?_
          refine dB c89 ?_
          refine dS (fun _ k_ => gF rfl rfl dnU) ?_
          refine dS (fun _ k_ => gF rfl rfl dnU) ?_
          refine dS (fun _ k_ => gF rfl rfl dnU) ?_
          refine dS (fun _ k_ => gF rfl rfl dnU) ?_
          refine dS (fun _ k_ => o_guardU rfl rfl dnU) ?_
          refine dS (fun _ k_ => o_guardU rfl rfl dnU) ?_
          refine dS (fun _ k_ => o_guardU rfl rfl dnU) ?_
          refine dS (fun _ k_ => o_guardU rfl rfl dnU) ?_
          refine dS (fun _ k_ => o_guardU rfl rfl dnU) ?_
          refine dS (fun _ k_ => o_guardU rfl rfl dnU) ?_
          refine dS (fun _ k_ => o_guardU rfl rfl dnU) ?_
          refine dS (fun _ k_ => o_guardU rfl rfl dnU) ?_
          refine dS (fun _ k_ => o_guardU rfl rfl dnU) ?_
          refine dS (fun _ k_ => o_guardU rfl rfl dnU) ?_
          refine dS (fun _ k_ => o_guardU rfl rfl dnU) ?_
          refine dS (fun _ k_ => gF rfl rfl dnU) ?_
          refine dS (fun _ k_ => p_pkF rfl (rfl : _ = B false) dn) ?_
          refine dS (fun _ k_ => p_mB rfl dn) ?_
          refine dS (fun _ k_ => gF rfl rfl dnU) ?_
          refine dS (fun _ k_ => p_pkF rfl (rfl : _ = B false) dn) ?_
          refine dS (fun _ k_ => p_aB rfl dn) ?_
          intro w111 k112; have S113 := S86.call k112
          refine wp_nil ?_
          obtain rfl := Option.some.inj H
          refine c_ret ?_; show bodyPostM (Fr none) 0 Tryd.prog Tryd.f12 _ .ret _ _
          refine ret_of (res1 rfl (rvT (rfl : _ = B false))) ?_
          exact ⟨_, rfl, rfl, S113.keep⟩

end Go.Proofs.YtplpalmabgjibaaDoor

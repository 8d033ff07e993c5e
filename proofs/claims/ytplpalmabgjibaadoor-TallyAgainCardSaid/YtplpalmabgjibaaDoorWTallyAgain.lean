/- What the law's function computes, and that it does, printed by a program of mine. -/
import Derived.Test.YtplpalmabgjibaaDoorWC
set_option linter.unusedVariables false
set_option linter.unusedSimpArgs false
namespace Go.Proofs.YtplpalmabgjibaaDoor
open Go Go.Fx Go.Proofs
def law_TallyAgain_j1 (r23 : Int × Int) (a1 : Int) (a0 : TallyBook) (z_1 : Unit) : Option Bool :=
  bif (r23.2 != 0) then ((law_counted).bind fun r48 =>
  some r48)
  else ((B_Mod a1 a0.Trips).bind fun r52 =>
  (law_apart a0 r23.1).bind fun r56 =>
  (law_apart a0 r52).bind fun r58 =>
  bif decide (r56 ≥ 0) then (bif decide (r58 ≥ 0) then (bif decide (r56 < r58) then ((law_counted).bind fun r66 =>
  some r66)
  else (bif (r56 == r58) then (bif decide (r23.1 ≤ r52) then ((law_counted).bind fun r72 =>
  some r72)
  else (some false))
  else (some false)))
  else (some false))
  else (some false))

def law_TallyAgain (a0 : TallyBook) (a1 : Int) : Option Bool :=
  (law_sound a0).bind fun r9 =>
  bif !r9 then ((law_counted).bind fun r14 =>
  some r14)
  else (bif ((a0.Counts.length : Int) == 8) then ((law_counted).bind fun r19 =>
  some r19)
  else ((tally_Again a0).bind fun r23 =>
  (tally_Many a0 0 (wr (a0.Trips - 1))).bind fun r27 =>
  bif (r27.2 != 0) then (bif (r27.2 == 52) then (bif (r23.2 == r27.2) then (bif (r23.1 == 0) then ((law_counted).bind fun r40 =>
  some r40)
  else (some false))
  else (some false))
  else (some false))
  else (bif ((r23.2 == 4) != (r27.1.Low == r27.1.High)) then (some false)
  else (bif (r23.2 != 0) then (bif (r23.2 != 4) then (some false)
  else (bif (r23.1 != 0) then (some false)
  else ((B_Inside r23.1 0 (wr (a0.Trips - 1))).bind fun r48 =>
  bif !r48 then (some false)
  else (law_TallyAgain_j1 r23 a1 a0 ()))))
  else ((B_Inside r23.1 0 (wr (a0.Trips - 1))).bind fun r53 =>
  bif !r53 then (some false)
  else (law_TallyAgain_j1 r23 a1 a0 ()))))))

set_option maxRecDepth 100000 in
theorem law_TallyAgain_ok {a0 : TallyBook} {a1 : Int} {A1 : Option Addr} {c2 : Nat} {w : World} {r : Bool} (H : law_TallyAgain a0 a1 = some r) (h3 : (rd eTallyCount 7 A1 c2 a0.Counts).ok w) (hg4 : (bl 0 [Value.func (.func 117) #[] #[], Value.func (.func 119) #[] #[]] 117).ok w) (hg5 : (bl 1 [I (-1), I (-1)] 115).ok w) : Calls Tryd.prog 13 #[AG [I a0.Trips, I a0.Room, SL A1 a0.Counts.length c2], I a1] w (RetV w (B r)) := by
  unfold law_TallyAgain at H
  refine fn_of (n := 116) Tryd.func13 rfl rfl (Nat.le_of_ble_eq_true rfl) ?_
  have S : St w (fun _ => False) w [] [rd eTallyCount 7 A1 c2 a0.Counts, bl 0 [Value.func (.func 117) #[] #[], Value.func (.func 119) #[] #[]] 117, bl 1 [I (-1), I (-1)] 115] := St.start w _ _ (List.forall_mem_cons.2 ⟨h3, (List.forall_mem_cons.2 ⟨hg4, (List.forall_mem_cons.2 ⟨hg5, (fun _ h_ => (List.not_mem_nil h_).elim)⟩)⟩)⟩)
  refine c_seq ?_
  refine reg ?_
  refine p_boxA rfl S fun b6 w7 S8 => ?_
  refine p_aB rfl ?_
  refine wp_nil ?_
  refine c_seq ?_
  refine c_seq ?_
  refine reg ?_
  refine p_ldA ty24 sz24 (S8.atX (i := 0) rfl) rfl rfl ?_
  obtain ⟨r9, h10, H⟩ := bindS H
  refine p_cv (law_sound_ok h10 (S8.atP (i := 0) rfl)) fu24 rfl S8 fun w11 S12 => ?_
  refine p_not rfl ?_
  refine p_mB rfl ?_
  rcases Bool.eq_false_or_eq_true (!r9) with c13 | c13
  · replace H := condT c13 H
    refine eB c13 ?_
    refine gF rfl rfl ?_
    refine gF rfl rfl ?_
    refine gF rfl rfl ?_
    refine gF rfl rfl ?_
    refine p_pkT rfl (rfl : _ = B true) ?_
    refine wp_nil ?_
    refine c_true rfl ?_
    refine c_seq ?_
    refine reg ?_
    obtain ⟨r14, h15, H⟩ := bindS H
    refine p_cv (law_counted_ok h15 (S12.atP (i := 1) rfl) (S12.atP (i := 2) rfl)) fu19 rfl S12 fun w16 S17 => ?_
    refine p_aB rfl ?_
    refine wp_nil ?_
    obtain rfl := Option.some.inj H
    refine c_ret ?_; show bodyPostM (Fr none) 0 Tryd.prog Tryd.f13 _ .ret _ _
    refine ret_of (res1 rfl (rvT (rfl : _ = B r14))) ?_
    exact ⟨_, rfl, rfl, S17.keep⟩
  · replace H := condF c13 H
    refine eB c13 ?_
    refine gT rfl rfl (p_fld fl24_2 rfl ?_)
    refine gT rfl rfl (p_ld ty22 (S12.atX (i := 0) rfl) rfl rfl ?_)
    refine gT rfl rfl (p_len rfl sc22 ?_)
    refine gT rfl rfl (p_cmp rfl rfl rfl ?_)
    refine p_pkF rfl (rfl : _ = B ((a0.Counts.length : Int) == 8)) ?_
    refine wp_nil ?_
    refine c_cond rfl (fun c18 => ?_) (fun c18 => ?_)
    · replace H := condT c18 H
      refine c_seq ?_
      refine reg ?_
      obtain ⟨r19, h20, H⟩ := bindS H
      refine p_cv (law_counted_ok h20 (S12.atP (i := 1) rfl) (S12.atP (i := 2) rfl)) fu19 rfl S12 fun w21 S22 => ?_
      refine p_aB rfl ?_
      refine wp_nil ?_
      obtain rfl := Option.some.inj H
      refine c_ret ?_; show bodyPostM (Fr none) 0 Tryd.prog Tryd.f13 _ .ret _ _
      refine ret_of (res1 rfl (rvT (rfl : _ = B r19))) ?_
      exact ⟨_, rfl, rfl, S22.keep⟩
    · replace H := condF c18 H
      refine c_skip ?_
      refine c_seq ?_
      refine reg ?_
      refine p_ldA ty24 sz24 (S12.atX (i := 0) rfl) rfl rfl ?_
      obtain ⟨r23, h24, H⟩ := bindS H
      refine p_cv (tally_Again_ok h24 (S12.atP (i := 0) rfl) (S12.atP (i := 1) rfl) (S12.atP (i := 2) rfl)) fu50 rfl S12 fun w25 S26 => ?_
      refine p_mT rfl ?_
      refine p_ext rfl rfl ?_
      refine p_ext rfl rfl ?_
      refine p_aI rfl ?_
      refine p_aI rfl ?_
      refine wp_nil ?_
      refine c_seq ?_
      refine reg ?_
      refine p_ldA ty24 sz24 (S26.atX (i := 0) rfl) rfl rfl ?_
      refine p_fld fl24_0 rfl ?_
      refine p_ld ty3 (S26.atX (i := 0) rfl) rfl rfl ?_
      refine p_sub rfl rfl ?_
      obtain ⟨r27, h28, H⟩ := bindS H
      refine p_cv (tally_Many_ok h28 (S26.atP (i := 0) rfl) (S26.atP (i := 1) rfl) (S26.atP (i := 2) rfl)) fu32 rfl S26 fun w29 S30 => ?_
      refine p_mT rfl ?_
      refine p_ext rfl rfl ?_
      refine p_ext rfl rfl ?_
      refine p_allA in49 S30 fun b31 w32 S33 => ?_
      refine p_stP (pre := []) (old := [I 0, I 0]) (post := []) (vs := [I r27.1.Low, I r27.1.High]) sz49 S33 (i := 0) rfl rfl rfl rfl (rfl : _ = AG [I r27.1.Low, I r27.1.High]) rfl rfl rfl rfl fun w34 S35 => ?_
      refine p_aI rfl ?_
      refine wp_nil ?_
      refine c_seq ?_
      refine c_seq ?_
      refine reg ?_
      refine p_mI rfl ?_
      refine p_cmp rfl rfl rfl ?_
      refine wp_nil ?_
      refine c_cond rfl (fun c36 => ?_) (fun c36 => ?_)
      · replace H := condT c36 H
        refine c_seq ?_
        refine reg ?_
        refine p_mI rfl ?_
        refine p_cmp rfl rfl rfl ?_
        refine p_mB rfl ?_
        rcases Bool.eq_false_or_eq_true ((r27.2 == 52)) with c37 | c37
        · replace H := condT c37 H
          refine eB c37 ?_
          refine gT rfl rfl (p_mI rfl ?_)
          refine gT rfl rfl (p_mI rfl ?_)
          refine gT rfl rfl (p_cmp rfl rfl rfl ?_)
          refine p_pkT rfl (rfl : _ = B (r23.2 == r27.2)) ?_
          refine p_mB rfl ?_
          rcases Bool.eq_false_or_eq_true ((r23.2 == r27.2)) with c38 | c38
          · replace H := condT c38 H
            refine eB c38 ?_
            refine gT rfl rfl (p_mI rfl ?_)
            refine gT rfl rfl (p_cmp rfl rfl rfl ?_)
            refine p_pkT rfl (rfl : _ = B (r23.1 == 0)) ?_
            refine p_mB rfl ?_
            rcases Bool.eq_false_or_eq_true ((r23.1 == 0)) with c39 | c39
            · replace H := condT c39 H
              refine eB c39 ?_
              obtain ⟨r40, h41, H⟩ := bindS H
              refine gT rfl rfl (p_cv (law_counted_ok h41 (S35.atP (i := 1) rfl) (S35.atP (i := 2) rfl)) fu19 rfl S35 fun w42 S43 => ?_)
              refine p_pkT rfl (rfl : _ = B r40) ?_
              refine p_aB rfl ?_
              refine wp_nil ?_
              obtain rfl := Option.some.inj H
              refine c_ret ?_; show bodyPostM (Fr none) 0 Tryd.prog Tryd.f13 _ .ret _ _
              refine ret_of (res1 rfl (rvT (rfl : _ = B r40))) ?_
              exact ⟨_, rfl, rfl, S43.keep⟩
            · replace H := condF c39 H
              refine eB c39 ?_
              refine gF rfl rfl ?_
              refine p_pkF rfl (rfl : _ = B false) ?_
              refine p_aB rfl ?_
              refine wp_nil ?_
              obtain rfl := Option.some.inj H
              refine c_ret ?_; show bodyPostM (Fr none) 0 Tryd.prog Tryd.f13 _ .ret _ _
              refine ret_of (res1 rfl (rvT (rfl : _ = B false))) ?_
              exact ⟨_, rfl, rfl, S35.keep⟩
          · replace H := condF c38 H
            refine eB c38 ?_
            refine gF rfl rfl ?_
            refine gF rfl rfl ?_
            refine p_pkF rfl (rfl : _ = B false) ?_
            refine p_mB rfl ?_
            refine gF rfl rfl ?_
            refine p_pkF rfl (rfl : _ = B false) ?_
            refine p_aB rfl ?_
            refine wp_nil ?_
            obtain rfl := Option.some.inj H
            refine c_ret ?_; show bodyPostM (Fr none) 0 Tryd.prog Tryd.f13 _ .ret _ _
            refine ret_of (res1 rfl (rvT (rfl : _ = B false))) ?_
            exact ⟨_, rfl, rfl, S35.keep⟩
        · replace H := condF c37 H
          refine eB c37 ?_
          refine gF rfl rfl ?_
          refine gF rfl rfl ?_
          refine gF rfl rfl ?_
          refine p_pkF rfl (rfl : _ = B false) ?_
          refine p_mB rfl ?_
          refine gF rfl rfl ?_
          refine gF rfl rfl ?_
          refine p_pkF rfl (rfl : _ = B false) ?_
          refine p_mB rfl ?_
          refine gF rfl rfl ?_
          refine p_pkF rfl (rfl : _ = B false) ?_
          refine p_aB rfl ?_
          refine wp_nil ?_
          obtain rfl := Option.some.inj H
          refine c_ret ?_; show bodyPostM (Fr none) 0 Tryd.prog Tryd.f13 _ .ret _ _
          refine ret_of (res1 rfl (rvT (rfl : _ = B false))) ?_
          exact ⟨_, rfl, rfl, S35.keep⟩
      · replace H := condF c36 H
        refine c_skip ?_
        refine c_join (α := Unit) (β := Unit) (fun z_1 y_1 => [(1, I a1), (2, P b6 0), (5, I r23.1), (6, I r23.2)]) (fun z_1 y_1 w_ => law_TallyAgain_j1 r23 a1 a0 z_1 = some r ∧ St w (fun _ => False) w_ [bl b31 [I r27.1.Low, I r27.1.High] 49, bl b6 [I a0.Trips, I a0.Room, SL A1 a0.Counts.length c2] 24] [rd eTallyCount 7 A1 c2 a0.Counts, bl 0 [Value.func (.func 117) #[] #[], Value.func (.func 119) #[] #[]] 117, bl 1 [I (-1), I (-1)] 115]) ?_ ?_
        · refine c_seq ?_
          refine reg ?_
          refine p_mI rfl ?_
          refine p_cmp rfl rfl rfl ?_
          refine p_fld fl49_0 rfl ?_
          refine p_ld ty3 (S35.atX (i := 0) rfl) rfl rfl ?_
          refine p_fld fl49_1 rfl ?_
          refine p_ld ty3 (S35.atX (i := 0) rfl) rfl rfl ?_
          refine p_cmp rfl rfl rfl ?_
          refine o_neB rfl rfl ub4 ?_
          refine p_mB rfl ?_
          rcases Bool.eq_false_or_eq_true (((r23.2 == 4) != (r27.1.Low == r27.1.High))) with c44 | c44
          · replace H := condT c44 H
            refine eB c44 ?_
            refine gF rfl rfl ?_
            refine gF rfl rfl ?_
            refine gF rfl rfl ?_
            refine o_guardU rfl rfl ?_
            refine o_guardU rfl rfl ?_
            refine o_guardU rfl rfl ?_
            refine o_guardU rfl rfl ?_
            refine o_guardU rfl rfl ?_
            refine o_guardU rfl rfl ?_
            refine gF rfl rfl ?_
            refine p_pkT rfl (rfl : _ = B true) ?_
            refine p_mB rfl ?_
            refine gF rfl rfl ?_
            refine gF rfl rfl ?_
            refine gF rfl rfl ?_
            refine gF rfl rfl ?_
            refine gF rfl rfl ?_
            refine gF rfl rfl ?_
            refine p_pkT rfl (rfl : _ = B true) ?_
            refine wp_nil ?_
            refine c_true rfl ?_
            refine c_seq ?_
            refine reg ?_
            refine p_aB rfl ?_
            refine wp_nil ?_
            obtain rfl := Option.some.inj H
            refine c_ret ?_; show bodyPostM (Fr none) 0 Tryd.prog Tryd.f13 _ .ret _ _
            refine ret_of (res1 rfl (rvT (rfl : _ = B false))) ?_
            exact ⟨_, rfl, rfl, S35.keep⟩
          · replace H := condF c44 H
            refine eB c44 ?_
            refine gT rfl rfl (p_mI rfl ?_)
            refine gT rfl rfl (p_cmp rfl rfl rfl ?_)
            refine gT rfl rfl (p_mB rfl ?_)
            rcases Bool.eq_false_or_eq_true ((r23.2 != 0)) with c45 | c45
            · replace H := condT c45 H
              refine eB c45 ?_
              refine gT rfl rfl (p_mI rfl ?_)
              refine gT rfl rfl (p_cmp rfl rfl rfl ?_)
              refine gT rfl rfl (p_mB rfl ?_)
              rcases Bool.eq_false_or_eq_true ((r23.2 != 4)) with c46 | c46
              · replace H := condT c46 H
                refine eB c46 ?_
                refine gF rfl rfl ?_
                refine gF rfl rfl ?_
                refine gT rfl rfl (p_pkT rfl (rfl : _ = B true) ?_)
                refine gT rfl rfl (p_pkT rfl (rfl : _ = B true) ?_)
                refine p_pkF rfl (rfl : _ = B true) ?_
                refine p_mB rfl ?_
                refine gF rfl rfl ?_
                refine gF rfl rfl ?_
                refine gF rfl rfl ?_
                refine gF rfl rfl ?_
                refine gF rfl rfl ?_
                refine gF rfl rfl ?_
                refine p_pkT rfl (rfl : _ = B true) ?_
                refine wp_nil ?_
                refine c_true rfl ?_
                refine c_seq ?_
                refine reg ?_
                refine p_aB rfl ?_
                refine wp_nil ?_
                obtain rfl := Option.some.inj H
                refine c_ret ?_; show bodyPostM (Fr none) 0 Tryd.prog Tryd.f13 _ .ret _ _
                refine ret_of (res1 rfl (rvT (rfl : _ = B false))) ?_
                exact ⟨_, rfl, rfl, S35.keep⟩
              · replace H := condF c46 H
                refine eB c46 ?_
                refine gT rfl rfl (p_mI rfl ?_)
                refine gT rfl rfl (p_cmp rfl rfl rfl ?_)
                refine gT rfl rfl (p_pkF rfl (rfl : _ = B (r23.1 != 0)) ?_)
                refine gT rfl rfl (p_pkT rfl (rfl : _ = B (r23.1 != 0)) ?_)
                refine p_pkF rfl (rfl : _ = B (r23.1 != 0)) ?_
                refine p_mB rfl ?_
                rcases Bool.eq_false_or_eq_true ((r23.1 != 0)) with c47 | c47
                · replace H := condT c47 H
                  refine eB c47 ?_
                  refine gF rfl rfl ?_
                  refine gF rfl rfl ?_
                  refine gF rfl rfl ?_
                  refine gF rfl rfl ?_
                  refine gF rfl rfl ?_
                  refine gF rfl rfl ?_
                  refine p_pkT rfl (rfl : _ = B true) ?_
                  refine wp_nil ?_
                  refine c_true rfl ?_
                  refine c_seq ?_
                  refine reg ?_
                  refine p_aB rfl ?_
                  refine wp_nil ?_
                  obtain rfl := Option.some.inj H
                  refine c_ret ?_; show bodyPostM (Fr none) 0 Tryd.prog Tryd.f13 _ .ret _ _
                  refine ret_of (res1 rfl (rvT (rfl : _ = B false))) ?_
                  exact ⟨_, rfl, rfl, S35.keep⟩
                · replace H := condF c47 H
                  refine eB c47 ?_
                  refine gT rfl rfl (p_mI rfl ?_)
                  refine gT rfl rfl (p_fld fl24_0 rfl ?_)
                  refine gT rfl rfl (p_ld ty3 (S35.atX (i := 1) rfl) rfl rfl ?_)
                  refine gT rfl rfl (p_sub rfl rfl ?_)
                  obtain ⟨r48, h49, H⟩ := bindS H
                  refine gT rfl rfl (p_cv (B_Inside_ok h49) fu40 rfl S35 fun w50 S51 => ?_)
                  refine gT rfl rfl (p_not rfl ?_)
                  refine p_pkF rfl (rfl : _ = B (!r48)) ?_
                  refine wp_nil ?_
                  refine c_cond rfl (fun c52 => ?_) (fun c52 => ?_)
                  · replace H := condT c52 H
                    refine c_seq ?_
                    refine reg ?_
                    refine p_aB rfl ?_
                    refine wp_nil ?_
                    obtain rfl := Option.some.inj H
                    refine c_ret ?_; show bodyPostM (Fr none) 0 Tryd.prog Tryd.f13 _ .ret _ _
                    refine ret_of (res1 rfl (rvT (rfl : _ = B false))) ?_
                    exact ⟨_, rfl, rfl, S51.keep⟩
                  · replace H := condF c52 H
                    refine c_skip ?_
                    exact ⟨(), (), _, rfl, ⟨rfl, rfl, rfl, rfl, trivial⟩, H, S51⟩
            · replace H := condF c45 H
              refine eB c45 ?_
              refine gF rfl rfl ?_
              refine gF rfl rfl ?_
              refine gF rfl rfl ?_
              refine o_guardU rfl rfl ?_
              refine o_guardU rfl rfl ?_
              refine gF rfl rfl ?_
              refine gT rfl rfl (p_pkF rfl (rfl : _ = B false) ?_)
              refine p_pkF rfl (rfl : _ = B false) ?_
              refine p_mB rfl ?_
              refine gT rfl rfl (p_mI rfl ?_)
              refine gT rfl rfl (p_fld fl24_0 rfl ?_)
              refine gT rfl rfl (p_ld ty3 (S35.atX (i := 1) rfl) rfl rfl ?_)
              refine gT rfl rfl (p_sub rfl rfl ?_)
              obtain ⟨r53, h54, H⟩ := bindS H
              refine gT rfl rfl (p_cv (B_Inside_ok h54) fu40 rfl S35 fun w55 S56 => ?_)
              refine gT rfl rfl (p_not rfl ?_)
              refine p_pkF rfl (rfl : _ = B (!r53)) ?_
              refine wp_nil ?_
              refine c_cond rfl (fun c57 => ?_) (fun c57 => ?_)
              · replace H := condT c57 H
                refine c_seq ?_
                refine reg ?_
                refine p_aB rfl ?_
                refine wp_nil ?_
                obtain rfl := Option.some.inj H
                refine c_ret ?_; show bodyPostM (Fr none) 0 Tryd.prog Tryd.f13 _ .ret _ _
                refine ret_of (res1 rfl (rvT (rfl : _ = B false))) ?_
                exact ⟨_, rfl, rfl, S56.keep⟩
              · replace H := condF c57 H
                refine c_skip ?_
                exact ⟨(), (), _, rfl, ⟨rfl, rfl, rfl, rfl, trivial⟩, H, S56⟩
        · intro z_1 y_1 e44 w45 S46; obtain ⟨H, S46⟩ := S46
          unfold law_TallyAgain_j1 at H
          refine c_seq ?_
          refine c_seq ?_
          refine reg ?_
          refine p_mI rfl ?_
          refine p_cmp rfl rfl rfl ?_
          refine wp_nil ?_
          refine c_cond rfl (fun c47 => ?_) (fun c47 => ?_)
          · replace H := condT c47 H
            refine c_seq ?_
            refine reg ?_
            obtain ⟨r48, h49, H⟩ := bindS H
            refine p_cv (law_counted_ok h49 (S46.atP (i := 1) rfl) (S46.atP (i := 2) rfl)) fu19 rfl S46 fun w50 S51 => ?_
            refine p_aB rfl ?_
            refine wp_nil ?_
            obtain rfl := Option.some.inj H
            refine c_ret ?_; show bodyPostM (Fr none) 0 Tryd.prog Tryd.f13 _ .ret _ _
            refine ret_of (res1 rfl (rvT (rfl : _ = B r48))) ?_
            exact ⟨_, rfl, rfl, S51.keep⟩
          · replace H := condF c47 H
            refine c_skip ?_
            refine c_seq ?_
            refine reg ?_
            refine p_mI rfl ?_
            refine p_fld fl24_0 rfl ?_
            refine p_ld ty3 (S46.atX (i := 1) rfl) rfl rfl ?_
            obtain ⟨r52, h53, H⟩ := bindS H
            refine p_cv (B_Mod_ok h53) fu27 rfl S46 fun w54 S55 => ?_
            refine p_aI rfl ?_
            refine wp_nil ?_
            refine c_seq ?_
            obtain ⟨r56, h57, H⟩ := bindS H
            obtain ⟨r58, h59, H⟩ := bindS H
            refine reg_q mixed 8 (by kernel_rfl) ?_
            refine dS (fun _ k_ => p_ldA ty24 sz24 (Asr.stays (S55.atX (i := 1) rfl) k_) rfl rfl dn) ?_
            refine dS (fun _ k_ => p_mI rfl dn) ?_
            refine dS (fun _ k_ => p_cvD (law_apart_ok h57 (Asr.stays (S55.atP (i := 0) rfl) k_) (Asr.stays (S55.atP (i := 1) rfl) k_) (Asr.stays (S55.atP (i := 2) rfl) k_)) fu51 rfl) ?_
            refine dS (fun _ k_ => p_ldA ty24 sz24 (Asr.stays (S55.atX (i := 1) rfl) k_) rfl rfl dn) ?_
            refine dS (fun _ k_ => p_mI rfl dn) ?_
            refine dS (fun _ k_ => p_cvD (law_apart_ok h59 (Asr.stays (S55.atP (i := 0) rfl) k_) (Asr.stays (S55.atP (i := 1) rfl) k_) (Asr.stays (S55.atP (i := 2) rfl) k_)) fu51 rfl) ?_
            refine dS (fun _ k_ => p_aI rfl dn) ?_
            refine dS (fun _ k_ => p_aI rfl dn) ?_
            intro w60 k61; have S62 := S55.call k61
            refine wp_nil ?_
            refine c_seq ?_
            refine reg ?_
            refine p_mI rfl ?_
            refine p_cmp rfl rfl rfl ?_
            refine p_mB rfl ?_
            rcases Bool.eq_false_or_eq_true (decide (r56 ≥ 0)) with c63 | c63
            · replace H := condT c63 H
              refine eB c63 ?_
              refine gT rfl rfl (p_mI rfl ?_)
              refine gT rfl rfl (p_cmp rfl rfl rfl ?_)
              refine p_pkT rfl (rfl : _ = B (decide (r58 ≥ 0))) ?_
              refine p_mB rfl ?_
              rcases Bool.eq_false_or_eq_true (decide (r58 ≥ 0)) with c64 | c64
              · replace H := condT c64 H
                refine eB c64 ?_
                refine gT rfl rfl (p_mI rfl ?_)
                refine gT rfl rfl (p_mI rfl ?_)
                refine gT rfl rfl (p_cmp rfl rfl rfl ?_)
                refine gT rfl rfl (p_mB rfl ?_)
                rcases Bool.eq_false_or_eq_true (decide (r56 < r58)) with c65 | c65
                · replace H := condT c65 H
                  refine eB c65 ?_
                  refine gF rfl rfl ?_
                  refine gF rfl rfl ?_
                  refine gF rfl rfl ?_
                  refine gF rfl rfl ?_
                  refine o_guardU rfl rfl ?_
                  refine o_guardU rfl rfl ?_
                  refine o_guardU rfl rfl ?_
                  refine gF rfl rfl ?_
                  refine gT rfl rfl (p_pkT rfl (rfl : _ = B true) ?_)
                  refine p_pkT rfl (rfl : _ = B true) ?_
                  refine p_mB rfl ?_
                  obtain ⟨r66, h67, H⟩ := bindS H
                  refine gT rfl rfl (p_cv (law_counted_ok h67 (S62.atP (i := 1) rfl) (S62.atP (i := 2) rfl)) fu19 rfl S62 fun w68 S69 => ?_)
                  refine p_pkT rfl (rfl : _ = B r66) ?_
                  refine p_aB rfl ?_
                  refine wp_nil ?_
                  obtain rfl := Option.some.inj H
                  refine c_ret ?_; show bodyPostM (Fr none) 0 Tryd.prog Tryd.f13 _ .ret _ _
                  refine ret_of (res1 rfl (rvT (rfl : _ = B r66))) ?_
                  exact ⟨_, rfl, rfl, S69.keep⟩
                · replace H := condF c65 H
                  refine eB c65 ?_
                  refine gT rfl rfl (p_mI rfl ?_)
                  refine gT rfl rfl (p_mI rfl ?_)
                  refine gT rfl rfl (p_cmp rfl rfl rfl ?_)
                  refine gT rfl rfl (p_mB rfl ?_)
                  rcases Bool.eq_false_or_eq_true ((r56 == r58)) with c70 | c70
                  · replace H := condT c70 H
                    refine eB c70 ?_
                    refine gT rfl rfl (p_mI rfl ?_)
                    refine gT rfl rfl (p_mI rfl ?_)
                    refine gT rfl rfl (p_cmp rfl rfl rfl ?_)
                    refine gT rfl rfl (p_pkT rfl (rfl : _ = B (decide (r23.1 ≤ r52))) ?_)
                    refine gT rfl rfl (p_pkF rfl (rfl : _ = B (decide (r23.1 ≤ r52))) ?_)
                    refine p_pkT rfl (rfl : _ = B (decide (r23.1 ≤ r52))) ?_
                    refine p_mB rfl ?_
                    rcases Bool.eq_false_or_eq_true (decide (r23.1 ≤ r52)) with c71 | c71
                    · replace H := condT c71 H
                      refine eB c71 ?_
                      obtain ⟨r72, h73, H⟩ := bindS H
                      refine gT rfl rfl (p_cv (law_counted_ok h73 (S62.atP (i := 1) rfl) (S62.atP (i := 2) rfl)) fu19 rfl S62 fun w74 S75 => ?_)
                      refine p_pkT rfl (rfl : _ = B r72) ?_
                      refine p_aB rfl ?_
                      refine wp_nil ?_
                      obtain rfl := Option.some.inj H
                      refine c_ret ?_; show bodyPostM (Fr none) 0 Tryd.prog Tryd.f13 _ .ret _ _
                      refine ret_of (res1 rfl (rvT (rfl : _ = B r72))) ?_
                      exact ⟨_, rfl, rfl, S75.keep⟩
                    · replace H := condF c71 H
                      refine eB c71 ?_
                      refine gF rfl rfl ?_
                      refine p_pkF rfl (rfl : _ = B false) ?_
                      refine p_aB rfl ?_
                      refine wp_nil ?_
                      obtain rfl := Option.some.inj H
                      refine c_ret ?_; show bodyPostM (Fr none) 0 Tryd.prog Tryd.f13 _ .ret _ _
                      refine ret_of (res1 rfl (rvT (rfl : _ = B false))) ?_
                      exact ⟨_, rfl, rfl, S62.keep⟩
                  · replace H := condF c70 H
                    refine eB c70 ?_
                    refine gF rfl rfl ?_
                    refine gF rfl rfl ?_
                    refine gF rfl rfl ?_
                    refine gT rfl rfl (p_pkF rfl (rfl : _ = B false) ?_)
                    refine gT rfl rfl (p_pkF rfl (rfl : _ = B false) ?_)
                    refine p_pkT rfl (rfl : _ = B false) ?_
                    refine p_mB rfl ?_
                    refine gF rfl rfl ?_
                    refine p_pkF rfl (rfl : _ = B false) ?_
                    refine p_aB rfl ?_
                    refine wp_nil ?_
                    obtain rfl := Option.some.inj H
                    refine c_ret ?_; show bodyPostM (Fr none) 0 Tryd.prog Tryd.f13 _ .ret _ _
                    refine ret_of (res1 rfl (rvT (rfl : _ = B false))) ?_
                    exact ⟨_, rfl, rfl, S62.keep⟩
              · replace H := condF c64 H
                refine eB c64 ?_
                refine gF rfl rfl ?_
                refine gF rfl rfl ?_
                refine gF rfl rfl ?_
                refine gF rfl rfl ?_
                refine o_guardU rfl rfl ?_
                refine o_guardU rfl rfl ?_
                refine o_guardU rfl rfl ?_
                refine o_guardU rfl rfl ?_
                refine o_guardU rfl rfl ?_
                refine o_guardU rfl rfl ?_
                refine o_guardU rfl rfl ?_
                refine o_guardU rfl rfl ?_
                refine gF rfl rfl ?_
                refine p_pkF rfl (rfl : _ = B false) ?_
                refine p_mB rfl ?_
                refine gF rfl rfl ?_
                refine p_pkF rfl (rfl : _ = B false) ?_
                refine p_aB rfl ?_
                refine wp_nil ?_
                obtain rfl := Option.some.inj H
                refine c_ret ?_; show bodyPostM (Fr none) 0 Tryd.prog Tryd.f13 _ .ret _ _
                refine ret_of (res1 rfl (rvT (rfl : _ = B false))) ?_
                exact ⟨_, rfl, rfl, S62.keep⟩
            · replace H := condF c63 H
              refine eB c63 ?_
              refine gF rfl rfl ?_
              refine gF rfl rfl ?_
              refine p_pkF rfl (rfl : _ = B false) ?_
              refine p_mB rfl ?_
              refine gF rfl rfl ?_
              refine gF rfl rfl ?_
              refine gF rfl rfl ?_
              refine gF rfl rfl ?_
              refine o_guardU rfl rfl ?_
              refine o_guardU rfl rfl ?_
              refine o_guardU rfl rfl ?_
              refine o_guardU rfl rfl ?_
              refine o_guardU rfl rfl ?_
              refine o_guardU rfl rfl ?_
              refine o_guardU rfl rfl ?_
              refine o_guardU rfl rfl ?_
              refine gF rfl rfl ?_
              refine p_pkF rfl (rfl : _ = B false) ?_
              refine p_mB rfl ?_
              refine gF rfl rfl ?_
              refine p_pkF rfl (rfl : _ = B false) ?_
              refine p_aB rfl ?_
              refine wp_nil ?_
              obtain rfl := Option.some.inj H
              refine c_ret ?_; show bodyPostM (Fr none) 0 Tryd.prog Tryd.f13 _ .ret _ _
              refine ret_of (res1 rfl (rvT (rfl : _ = B false))) ?_
              exact ⟨_, rfl, rfl, S62.keep⟩

end Go.Proofs.YtplpalmabgjibaaDoor

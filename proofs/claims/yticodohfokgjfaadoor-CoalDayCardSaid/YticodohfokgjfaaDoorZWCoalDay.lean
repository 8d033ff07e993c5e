/- What the law's function computes, and that it does, printed by a program of mine. -/
import Derived.Test.YticodohfokgjfaaDoorZWAll
import Derived.KernelRfl
set_option linter.unusedVariables false
set_option linter.unusedSimpArgs false
namespace Go.Proofs.YticodohfokgjfaaDoor
open Go Go.Fx Go.Proofs
def law_CoalDay_j1 (a0 : CoalBook) (r25 : Int × Int) (z_1 : Unit) : Option Bool :=
  (coal_Heap a0 r25.1).bind fun r64 =>
  bif (r64.2 == 0) then (bif decide (r64.1.Low < 0) then ((law_stoked).bind fun r75 =>
  some r75)
  else (some false))
  else (some false)

def law_CoalDay (a0 : CoalBook) (a1 : Int) : Option Bool :=
  (law_sound a0).bind fun r12 =>
  bif !r12 then ((law_stoked).bind fun r17 =>
  some r17)
  else ((B_Mod a1 (a0.Days.length : Int)).bind fun r21 =>
  (coal_Day a0).bind fun r25 =>
  (coal_Lasts a0 r21).bind fun r29 =>
  (coal_Heap a0 r21).bind fun r33 =>
  bif (r29.2 != 0) then (bif (r29.2 == 62) then (bif (r25.2 == r29.2) then (bif (r33.2 == r29.2) then (bif (r25.1 == 0) then ((law_stoked).bind fun r47 =>
  some r47)
  else (some false))
  else (some false))
  else (some false))
  else (some false))
  else (bif (r25.2 != 0) then (bif (r25.2 == 4) then (bif (r25.1 == 0) then (bif (r29.1 == 2) then (bif (r33.2 == 0) then (bif decide (r33.1.Low ≥ 0) then ((law_stoked).bind fun r57 =>
  some r57)
  else (some false))
  else (some false))
  else (some false))
  else (some false))
  else (some false))
  else ((B_Inside r25.1 0 (wr ((a0.Days.length : Int) - 1))).bind fun r61 =>
  bif !r61 then (some false)
  else (bif (r33.2 != 0) then (some false)
  else (bif ((r29.1 == 2) != (decide (r21 < r25.1))) then (some false)
  else (bif decide (r21 < r25.1) then (bif decide (r33.1.Low < 0) then (some false)
  else (law_CoalDay_j1 a0 r25 ()))
  else (law_CoalDay_j1 a0 r25 ())))))))

set_option maxRecDepth 100000 in
theorem law_CoalDay_ok {a0 : CoalBook} {a1 : Int} {A1 : Option Addr} {c2 : Nat} {A4 : Option Addr} {c5 : Nat} {w : World} {r : Bool} (H : law_CoalDay a0 a1 = some r) (h3 : (rd eCoalDay 3 A1 c2 a0.Days).ok w) (h6 : (rd eCoalDip 3 A4 c5 a0.Dips).ok w) (hg7 : (bl 0 [Value.func (.func 128) #[] #[], Value.func (.func 129) #[] #[]] 110).ok w) (hg8 : (bl 1 [I (-1), I (-1)] 123).ok w) : Calls Tryd.prog 11 #[AG ([I a0.Heap.Low, I a0.Heap.High] ++ (sgE eSpan a0.Eats 2 ++ (sg a0.Extra 3 ++ [SL A1 a0.Days.length c2, I a0.Collier.Low, I a0.Collier.High, I a0.Brings, SL A4 a0.Dips.length c5]))), I a1] w (RetV w (B r)) := by
  unfold law_CoalDay at H
  refine fn_of (n := 130) Tryd.func11 rfl rfl (Nat.le_of_ble_eq_true rfl) ?_
  have S : St w (fun _ => False) w [] [rd eCoalDay 3 A1 c2 a0.Days, rd eCoalDip 3 A4 c5 a0.Dips, bl 0 [Value.func (.func 128) #[] #[], Value.func (.func 129) #[] #[]] 110, bl 1 [I (-1), I (-1)] 123] := St.start w _ _ (List.forall_mem_cons.2 ⟨h3, (List.forall_mem_cons.2 ⟨h6, (List.forall_mem_cons.2 ⟨hg7, (List.forall_mem_cons.2 ⟨hg8, (fun _ h_ => (List.not_mem_nil h_).elim)⟩)⟩)⟩)⟩)
  refine c_seq ?_
  refine reg ?_
  refine p_boxA rfl S fun b9 w10 S11 => ?_
  refine p_aB rfl ?_
  refine wp_nil ?_
  refine c_seq ?_
  refine c_seq ?_
  refine reg ?_
  refine p_ldA ty29 sz29 (S11.atX (i := 0) rfl) rfl rfl ?_
  obtain ⟨r12, h13, H⟩ := bindS H
  refine p_cv (law_sound_ok h13 (S11.atP (i := 0) rfl) (S11.atP (i := 1) rfl)) fu22 rfl S11 fun w14 S15 => ?_
  refine p_not rfl ?_
  refine wp_nil ?_
  refine c_cond rfl (fun c16 => ?_) (fun c16 => ?_)
  · replace H := condT c16 H
    refine c_seq ?_
    refine reg ?_
    obtain ⟨r17, h18, H⟩ := bindS H
    refine p_cv (law_stoked_ok h18 (S15.atP (i := 2) rfl) (S15.atP (i := 3) rfl)) fu19 rfl S15 fun w19 S20 => ?_
    refine p_aB rfl ?_
    refine wp_nil ?_
    obtain rfl := Option.some.inj H
    refine c_ret ?_; show bodyPostM (Fr none) 0 Tryd.prog Tryd.f11 _ .ret _ _
    refine ret_of (res1 rfl (rvT (rfl : _ = B r17))) ?_
    exact ⟨_, rfl, rfl, S20.keep⟩
  · replace H := condF c16 H
    refine c_skip ?_
    refine c_seq ?_
    refine reg ?_
    refine p_mI rfl ?_
    refine p_fld fl29_3 rfl ?_
    refine p_ld ty26 (S15.atX (i := 0) rfl) rfl rfl ?_
    refine p_len rfl sc26 ?_
    obtain ⟨r21, h22, H⟩ := bindS H
    refine p_cv (B_Mod_ok h22) fu25 rfl S15 fun w23 S24 => ?_
    refine p_aI rfl ?_
    refine wp_nil ?_
    refine c_seq ?_
    refine reg ?_
    refine p_ldA ty29 sz29 (S24.atX (i := 0) rfl) rfl rfl ?_
    obtain ⟨r25, h26, H⟩ := bindS H
    refine p_cv (coal_Day_ok h26 (S24.atP (i := 0) rfl) (S24.atP (i := 1) rfl) (S24.atP (i := 3) rfl)) fu37 rfl S24 fun w27 S28 => ?_
    refine p_mT rfl ?_
    refine p_ext rfl rfl ?_
    refine p_ext rfl rfl ?_
    refine p_aI rfl ?_
    refine p_aI rfl ?_
    refine wp_nil ?_
    refine c_seq ?_
    refine reg ?_
    refine p_ldA ty29 sz29 (S28.atX (i := 0) rfl) rfl rfl ?_
    refine p_mI rfl ?_
    obtain ⟨r29, h30, H⟩ := bindS H
    refine p_cv (coal_Lasts_ok h30 (S28.atP (i := 0) rfl) (S28.atP (i := 1) rfl) (S28.atP (i := 2) rfl) (S28.atP (i := 3) rfl)) fu30 rfl S28 fun w31 S32 => ?_
    refine p_mT rfl ?_
    refine p_ext rfl rfl ?_
    refine p_ext rfl rfl ?_
    refine p_aI rfl ?_
    refine p_aI rfl ?_
    refine wp_nil ?_
    refine c_seq ?_
    refine reg ?_
    refine p_ldA ty29 sz29 (S32.atX (i := 0) rfl) rfl rfl ?_
    refine p_mI rfl ?_
    obtain ⟨r33, h34, H⟩ := bindS H
    refine p_cv (coal_Heap_ok h34 (S32.atP (i := 0) rfl) (S32.atP (i := 1) rfl) (S32.atP (i := 3) rfl)) fu28 rfl S32 fun w35 S36 => ?_
    refine p_mT rfl ?_
    refine p_ext rfl rfl ?_
    refine p_ext rfl rfl ?_
    refine p_allA in23 S36 fun b37 w38 S39 => ?_
    refine p_stP (pre := []) (old := [I 0, I 0]) (post := []) (vs := [I r33.1.Low, I r33.1.High]) sz23 S39 (i := 0) rfl rfl rfl rfl (rfl : _ = AG [I r33.1.Low, I r33.1.High]) rfl rfl rfl rfl fun w40 S41 => ?_
    refine p_aI rfl ?_
    refine wp_nil ?_
    refine c_seq ?_
    refine c_seq ?_
    refine reg ?_
    refine p_mI rfl ?_
    refine p_cmp rfl rfl rfl ?_
    refine wp_nil ?_
    refine c_cond rfl (fun c42 => ?_) (fun c42 => ?_)
    · replace H := condT c42 H
      refine c_seq ?_
      refine reg ?_
      refine p_mI rfl ?_
      refine p_cmp rfl rfl rfl ?_
      refine p_mB rfl ?_
      rcases Bool.eq_false_or_eq_true ((r29.2 == 62)) with c43 | c43
      · replace H := condT c43 H
        refine eB c43 ?_
        refine gT rfl rfl (p_mI rfl ?_)
        refine gT rfl rfl (p_mI rfl ?_)
        refine gT rfl rfl (p_cmp rfl rfl rfl ?_)
        refine p_pkT rfl (rfl : _ = B (r25.2 == r29.2)) ?_
        refine p_mB rfl ?_
        rcases Bool.eq_false_or_eq_true ((r25.2 == r29.2)) with c44 | c44
        · replace H := condT c44 H
          refine eB c44 ?_
          refine gT rfl rfl (p_mI rfl ?_)
          refine gT rfl rfl (p_mI rfl ?_)
          refine gT rfl rfl (p_cmp rfl rfl rfl ?_)
          refine p_pkT rfl (rfl : _ = B (r33.2 == r29.2)) ?_
          refine p_mB rfl ?_
          rcases Bool.eq_false_or_eq_true ((r33.2 == r29.2)) with c45 | c45
          · replace H := condT c45 H
            refine eB c45 ?_
            refine gT rfl rfl (p_mI rfl ?_)
            refine gT rfl rfl (p_cmp rfl rfl rfl ?_)
            refine p_pkT rfl (rfl : _ = B (r25.1 == 0)) ?_
            refine p_mB rfl ?_
            rcases Bool.eq_false_or_eq_true ((r25.1 == 0)) with c46 | c46
            · replace H := condT c46 H
              refine eB c46 ?_
              obtain ⟨r47, h48, H⟩ := bindS H
              refine gT rfl rfl (p_cv (law_stoked_ok h48 (S41.atP (i := 2) rfl) (S41.atP (i := 3) rfl)) fu19 rfl S41 fun w49 S50 => ?_)
              refine p_pkT rfl (rfl : _ = B r47) ?_
              refine p_aB rfl ?_
              refine wp_nil ?_
              obtain rfl := Option.some.inj H
              refine c_ret ?_; show bodyPostM (Fr none) 0 Tryd.prog Tryd.f11 _ .ret _ _
              refine ret_of (res1 rfl (rvT (rfl : _ = B r47))) ?_
              exact ⟨_, rfl, rfl, S50.keep⟩
            · replace H := condF c46 H
              refine eB c46 ?_
              refine gF rfl rfl ?_
              refine p_pkF rfl (rfl : _ = B false) ?_
              refine p_aB rfl ?_
              refine wp_nil ?_
              obtain rfl := Option.some.inj H
              refine c_ret ?_; show bodyPostM (Fr none) 0 Tryd.prog Tryd.f11 _ .ret _ _
              refine ret_of (res1 rfl (rvT (rfl : _ = B false))) ?_
              exact ⟨_, rfl, rfl, S41.keep⟩
          · replace H := condF c45 H
            refine eB c45 ?_
            refine gF rfl rfl ?_
            refine gF rfl rfl ?_
            refine p_pkF rfl (rfl : _ = B false) ?_
            refine p_mB rfl ?_
            refine gF rfl rfl ?_
            refine p_pkF rfl (rfl : _ = B false) ?_
            refine p_aB rfl ?_
            refine wp_nil ?_
            obtain rfl := Option.some.inj H
            refine c_ret ?_; show bodyPostM (Fr none) 0 Tryd.prog Tryd.f11 _ .ret _ _
            refine ret_of (res1 rfl (rvT (rfl : _ = B false))) ?_
            exact ⟨_, rfl, rfl, S41.keep⟩
        · replace H := condF c44 H
          refine eB c44 ?_
          refine gF rfl rfl ?_
          refine gF rfl rfl ?_
          refine gF rfl rfl ?_
          refine p_pkF rfl (rfl : _ = B false) ?_
          refine p_mB rfl ?_
          refine gF rfl rfl ?_
          refine gF rfl rfl ?_
          refine p_pkF rfl (rfl : _ = B false) ?_
          refine p_mB rfl ?_
          refine gF rfl rfl ?_
          refine p_pkF rfl (rfl : _ = B false) ?_
          refine p_aB rfl ?_
          refine wp_nil ?_
          obtain rfl := Option.some.inj H
          refine c_ret ?_; show bodyPostM (Fr none) 0 Tryd.prog Tryd.f11 _ .ret _ _
          refine ret_of (res1 rfl (rvT (rfl : _ = B false))) ?_
          exact ⟨_, rfl, rfl, S41.keep⟩
      · replace H := condF c43 H
        refine eB c43 ?_
        refine gF rfl rfl ?_
        refine gF rfl rfl ?_
        refine gF rfl rfl ?_
        refine p_pkF rfl (rfl : _ = B false) ?_
        refine p_mB rfl ?_
        refine gF rfl rfl ?_
        refine gF rfl rfl ?_
        refine gF rfl rfl ?_
        refine p_pkF rfl (rfl : _ = B false) ?_
        refine p_mB rfl ?_
        refine gF rfl rfl ?_
        refine gF rfl rfl ?_
        refine p_pkF rfl (rfl : _ = B false) ?_
        refine p_mB rfl ?_
        refine gF rfl rfl ?_
        refine p_pkF rfl (rfl : _ = B false) ?_
        refine p_aB rfl ?_
        refine wp_nil ?_
        obtain rfl := Option.some.inj H
        refine c_ret ?_; show bodyPostM (Fr none) 0 Tryd.prog Tryd.f11 _ .ret _ _
        refine ret_of (res1 rfl (rvT (rfl : _ = B false))) ?_
        exact ⟨_, rfl, rfl, S41.keep⟩
    · replace H := condF c42 H
      refine c_skip ?_
      refine c_seq ?_
      refine c_seq ?_
      refine reg ?_
      refine p_mI rfl ?_
      refine p_cmp rfl rfl rfl ?_
      refine wp_nil ?_
      refine c_cond rfl (fun c51 => ?_) (fun c51 => ?_)
      · replace H := condT c51 H
        refine c_seq ?_
        refine reg ?_
        refine p_mI rfl ?_
        refine p_cmp rfl rfl rfl ?_
        refine p_mB rfl ?_
        rcases Bool.eq_false_or_eq_true ((r25.2 == 4)) with c52 | c52
        · replace H := condT c52 H
          refine eB c52 ?_
          refine gT rfl rfl (p_mI rfl ?_)
          refine gT rfl rfl (p_cmp rfl rfl rfl ?_)
          refine p_pkT rfl (rfl : _ = B (r25.1 == 0)) ?_
          refine p_mB rfl ?_
          rcases Bool.eq_false_or_eq_true ((r25.1 == 0)) with c53 | c53
          · replace H := condT c53 H
            refine eB c53 ?_
            refine gT rfl rfl (p_mI rfl ?_)
            refine gT rfl rfl (p_cmp rfl rfl rfl ?_)
            refine p_pkT rfl (rfl : _ = B (r29.1 == 2)) ?_
            refine p_mB rfl ?_
            rcases Bool.eq_false_or_eq_true ((r29.1 == 2)) with c54 | c54
            · replace H := condT c54 H
              refine eB c54 ?_
              refine gT rfl rfl (p_mI rfl ?_)
              refine gT rfl rfl (p_cmp rfl rfl rfl ?_)
              refine p_pkT rfl (rfl : _ = B (r33.2 == 0)) ?_
              refine p_mB rfl ?_
              rcases Bool.eq_false_or_eq_true ((r33.2 == 0)) with c55 | c55
              · replace H := condT c55 H
                refine eB c55 ?_
                refine gT rfl rfl (p_fld fl23_0 rfl ?_)
                refine gT rfl rfl (p_ld ty3 (S41.atX (i := 0) rfl) rfl rfl ?_)
                refine gT rfl rfl (p_cmp rfl rfl rfl ?_)
                refine p_pkT rfl (rfl : _ = B (decide (r33.1.Low ≥ 0))) ?_
                refine p_mB rfl ?_
                rcases Bool.eq_false_or_eq_true (decide (r33.1.Low ≥ 0)) with c56 | c56
                · replace H := condT c56 H
                  refine eB c56 ?_
                  obtain ⟨r57, h58, H⟩ := bindS H
                  refine gT rfl rfl (p_cv (law_stoked_ok h58 (S41.atP (i := 2) rfl) (S41.atP (i := 3) rfl)) fu19 rfl S41 fun w59 S60 => ?_)
                  refine p_pkT rfl (rfl : _ = B r57) ?_
                  refine p_aB rfl ?_
                  refine wp_nil ?_
                  obtain rfl := Option.some.inj H
                  refine c_ret ?_; show bodyPostM (Fr none) 0 Tryd.prog Tryd.f11 _ .ret _ _
                  refine ret_of (res1 rfl (rvT (rfl : _ = B r57))) ?_
                  exact ⟨_, rfl, rfl, S60.keep⟩
                · replace H := condF c56 H
                  refine eB c56 ?_
                  refine gF rfl rfl ?_
                  refine p_pkF rfl (rfl : _ = B false) ?_
                  refine p_aB rfl ?_
                  refine wp_nil ?_
                  obtain rfl := Option.some.inj H
                  refine c_ret ?_; show bodyPostM (Fr none) 0 Tryd.prog Tryd.f11 _ .ret _ _
                  refine ret_of (res1 rfl (rvT (rfl : _ = B false))) ?_
                  exact ⟨_, rfl, rfl, S41.keep⟩
              · replace H := condF c55 H
                refine eB c55 ?_
                refine gF rfl rfl ?_
                refine gF rfl rfl ?_
                refine gF rfl rfl ?_
                refine p_pkF rfl (rfl : _ = B false) ?_
                refine p_mB rfl ?_
                refine gF rfl rfl ?_
                refine p_pkF rfl (rfl : _ = B false) ?_
                refine p_aB rfl ?_
                refine wp_nil ?_
                obtain rfl := Option.some.inj H
                refine c_ret ?_; show bodyPostM (Fr none) 0 Tryd.prog Tryd.f11 _ .ret _ _
                refine ret_of (res1 rfl (rvT (rfl : _ = B false))) ?_
                exact ⟨_, rfl, rfl, S41.keep⟩
            · replace H := condF c54 H
              refine eB c54 ?_
              refine gF rfl rfl ?_
              refine gF rfl rfl ?_
              refine p_pkF rfl (rfl : _ = B false) ?_
              refine p_mB rfl ?_
              refine gF rfl rfl ?_
              refine gF rfl rfl ?_
              refine gF rfl rfl ?_
              refine p_pkF rfl (rfl : _ = B false) ?_
              refine p_mB rfl ?_
              refine gF rfl rfl ?_
              refine p_pkF rfl (rfl : _ = B false) ?_
              refine p_aB rfl ?_
              refine wp_nil ?_
              obtain rfl := Option.some.inj H
              refine c_ret ?_; show bodyPostM (Fr none) 0 Tryd.prog Tryd.f11 _ .ret _ _
              refine ret_of (res1 rfl (rvT (rfl : _ = B false))) ?_
              exact ⟨_, rfl, rfl, S41.keep⟩
          · replace H := condF c53 H
            refine eB c53 ?_
            refine gF rfl rfl ?_
            refine gF rfl rfl ?_
            refine p_pkF rfl (rfl : _ = B false) ?_
            refine p_mB rfl ?_
            refine gF rfl rfl ?_
            refine gF rfl rfl ?_
            refine p_pkF rfl (rfl : _ = B false) ?_
            refine p_mB rfl ?_
            refine gF rfl rfl ?_
            refine gF rfl rfl ?_
            refine gF rfl rfl ?_
            refine p_pkF rfl (rfl : _ = B false) ?_
            refine p_mB rfl ?_
            refine gF rfl rfl ?_
            refine p_pkF rfl (rfl : _ = B false) ?_
            refine p_aB rfl ?_
            refine wp_nil ?_
            obtain rfl := Option.some.inj H
            refine c_ret ?_; show bodyPostM (Fr none) 0 Tryd.prog Tryd.f11 _ .ret _ _
            refine ret_of (res1 rfl (rvT (rfl : _ = B false))) ?_
            exact ⟨_, rfl, rfl, S41.keep⟩
        · replace H := condF c52 H
          refine eB c52 ?_
          refine gF rfl rfl ?_
          refine gF rfl rfl ?_
          refine p_pkF rfl (rfl : _ = B false) ?_
          refine p_mB rfl ?_
          refine gF rfl rfl ?_
          refine gF rfl rfl ?_
          refine p_pkF rfl (rfl : _ = B false) ?_
          refine p_mB rfl ?_
          refine gF rfl rfl ?_
          refine gF rfl rfl ?_
          refine p_pkF rfl (rfl : _ = B false) ?_
          refine p_mB rfl ?_
          refine gF rfl rfl ?_
          refine gF rfl rfl ?_
          refine gF rfl rfl ?_
          refine p_pkF rfl (rfl : _ = B false) ?_
          refine p_mB rfl ?_
          refine gF rfl rfl ?_
          refine p_pkF rfl (rfl : _ = B false) ?_
          refine p_aB rfl ?_
          refine wp_nil ?_
          obtain rfl := Option.some.inj H
          refine c_ret ?_; show bodyPostM (Fr none) 0 Tryd.prog Tryd.f11 _ .ret _ _
          refine ret_of (res1 rfl (rvT (rfl : _ = B false))) ?_
          exact ⟨_, rfl, rfl, S41.keep⟩
      · replace H := condF c51 H
        refine c_skip ?_
        refine c_join (α := Unit) (β := Unit) (fun z_1 y_1 => [(2, P b9 0), (6, I r25.1)]) (fun z_1 y_1 w_ => law_CoalDay_j1 a0 r25 z_1 = some r ∧ St w (fun _ => False) w_ [bl b9 ([I a0.Heap.Low, I a0.Heap.High] ++ (sgE eSpan a0.Eats 2 ++ (sg a0.Extra 3 ++ [SL A1 a0.Days.length c2, I a0.Collier.Low, I a0.Collier.High, I a0.Brings, SL A4 a0.Dips.length c5]))) 29] [rd eCoalDay 3 A1 c2 a0.Days, rd eCoalDip 3 A4 c5 a0.Dips, bl 0 [Value.func (.func 128) #[] #[], Value.func (.func 129) #[] #[]] 110, bl 1 [I (-1), I (-1)] 123]) ?_ ?_
        · refine c_seq ?_
          refine reg ?_
          refine p_mI rfl ?_
          refine p_fld fl29_3 rfl ?_
          refine p_ld ty26 (S41.atX (i := 1) rfl) rfl rfl ?_
          refine p_len rfl sc26 ?_
          refine p_sub rfl rfl ?_
          obtain ⟨r61, h62, H⟩ := bindS H
          refine p_cv (B_Inside_ok h62) fu34 rfl S41 fun w63 S64 => ?_
          refine p_not rfl ?_
          refine p_mB rfl ?_
          rcases Bool.eq_false_or_eq_true (!r61) with c65 | c65
          · replace H := condT c65 H
            refine eB c65 ?_
            refine gF rfl rfl ?_
            refine gF rfl rfl ?_
            refine p_pkT rfl (rfl : _ = B true) ?_
            refine p_mB rfl ?_
            refine gF rfl rfl ?_
            refine gF rfl rfl ?_
            refine gF rfl rfl ?_
            refine gF rfl rfl ?_
            refine gF rfl rfl ?_
            refine gF rfl rfl ?_
            refine p_pkT rfl (rfl : _ = B true) ?_
            refine p_mB rfl ?_
            refine gF rfl rfl ?_
            refine gF rfl rfl ?_
            refine gF rfl rfl ?_
            refine gF rfl rfl ?_
            refine o_guardU rfl rfl ?_
            refine o_guardU rfl rfl ?_
            refine o_guardU rfl rfl ?_
            refine gF rfl rfl ?_
            refine p_pkT rfl (rfl : _ = B true) ?_
            refine wp_nil ?_
            refine c_true rfl ?_
            refine c_seq ?_
            refine reg ?_
            refine p_aB rfl ?_
            refine wp_nil ?_
            obtain rfl := Option.some.inj H
            refine c_ret ?_; show bodyPostM (Fr none) 0 Tryd.prog Tryd.f11 _ .ret _ _
            refine ret_of (res1 rfl (rvT (rfl : _ = B false))) ?_
            exact ⟨_, rfl, rfl, S64.keep⟩
          · replace H := condF c65 H
            refine eB c65 ?_
            refine gT rfl rfl (p_mI rfl ?_)
            refine gT rfl rfl (p_cmp rfl rfl rfl ?_)
            refine p_pkF rfl (rfl : _ = B (r33.2 != 0)) ?_
            refine p_mB rfl ?_
            rcases Bool.eq_false_or_eq_true ((r33.2 != 0)) with c66 | c66
            · replace H := condT c66 H
              refine eB c66 ?_
              refine gF rfl rfl ?_
              refine gF rfl rfl ?_
              refine gF rfl rfl ?_
              refine gF rfl rfl ?_
              refine gF rfl rfl ?_
              refine gF rfl rfl ?_
              refine p_pkT rfl (rfl : _ = B true) ?_
              refine p_mB rfl ?_
              refine gF rfl rfl ?_
              refine gF rfl rfl ?_
              refine gF rfl rfl ?_
              refine gF rfl rfl ?_
              refine o_guardU rfl rfl ?_
              refine o_guardU rfl rfl ?_
              refine o_guardU rfl rfl ?_
              refine gF rfl rfl ?_
              refine p_pkT rfl (rfl : _ = B true) ?_
              refine wp_nil ?_
              refine c_true rfl ?_
              refine c_seq ?_
              refine reg ?_
              refine p_aB rfl ?_
              refine wp_nil ?_
              obtain rfl := Option.some.inj H
              refine c_ret ?_; show bodyPostM (Fr none) 0 Tryd.prog Tryd.f11 _ .ret _ _
              refine ret_of (res1 rfl (rvT (rfl : _ = B false))) ?_
              exact ⟨_, rfl, rfl, S64.keep⟩
            · replace H := condF c66 H
              refine eB c66 ?_
              refine gT rfl rfl (p_mI rfl ?_)
              refine gT rfl rfl (p_cmp rfl rfl rfl ?_)
              refine gT rfl rfl (p_mI rfl ?_)
              refine gT rfl rfl (p_mI rfl ?_)
              refine gT rfl rfl (p_cmp rfl rfl rfl ?_)
              refine gT rfl rfl (o_neB rfl rfl ub4 ?_)
              refine p_pkF rfl (rfl : _ = B ((r29.1 == 2) != (decide (r21 < r25.1)))) ?_
              refine p_mB rfl ?_
              rcases Bool.eq_false_or_eq_true (((r29.1 == 2) != (decide (r21 < r25.1)))) with c67 | c67
              · replace H := condT c67 H
                refine eB c67 ?_
                refine gF rfl rfl ?_
                refine gF rfl rfl ?_
                refine gF rfl rfl ?_
                refine gF rfl rfl ?_
                refine o_guardU rfl rfl ?_
                refine o_guardU rfl rfl ?_
                refine o_guardU rfl rfl ?_
                refine gF rfl rfl ?_
                refine p_pkT rfl (rfl : _ = B true) ?_
                refine wp_nil ?_
                refine c_true rfl ?_
                refine c_seq ?_
                refine reg ?_
                refine p_aB rfl ?_
                refine wp_nil ?_
                obtain rfl := Option.some.inj H
                refine c_ret ?_; show bodyPostM (Fr none) 0 Tryd.prog Tryd.f11 _ .ret _ _
                refine ret_of (res1 rfl (rvT (rfl : _ = B false))) ?_
                exact ⟨_, rfl, rfl, S64.keep⟩
              · replace H := condF c67 H
                refine eB c67 ?_
                refine gT rfl rfl (p_mI rfl ?_)
                refine gT rfl rfl (p_mI rfl ?_)
                refine gT rfl rfl (p_cmp rfl rfl rfl ?_)
                refine gT rfl rfl (p_mB rfl ?_)
                rcases Bool.eq_false_or_eq_true (decide (r21 < r25.1)) with c68 | c68
                · replace H := condT c68 H
                  refine eB c68 ?_
                  refine gT rfl rfl (p_fld fl23_0 rfl ?_)
                  refine gT rfl rfl (p_ld ty3 (S64.atX (i := 0) rfl) rfl rfl ?_)
                  refine gT rfl rfl (p_cmp rfl rfl rfl ?_)
                  refine gT rfl rfl (p_pkT rfl (rfl : _ = B (decide (r33.1.Low < 0))) ?_)
                  refine p_pkF rfl (rfl : _ = B (decide (r33.1.Low < 0))) ?_
                  refine wp_nil ?_
                  refine c_cond rfl (fun c69 => ?_) (fun c69 => ?_)
                  · replace H := condT c69 H
                    refine c_seq ?_
                    refine reg ?_
                    refine p_aB rfl ?_
                    refine wp_nil ?_
                    obtain rfl := Option.some.inj H
                    refine c_ret ?_; show bodyPostM (Fr none) 0 Tryd.prog Tryd.f11 _ .ret _ _
                    refine ret_of (res1 rfl (rvT (rfl : _ = B false))) ?_
                    exact ⟨_, rfl, rfl, S64.keep⟩
                  · replace H := condF c69 H
                    refine c_skip ?_
                    have S70 := S64.pk [1] (by decide) [0, 1, 2, 3] rfl rfl
                    exact ⟨(), (), _, rfl, ⟨rfl, rfl, trivial⟩, H, S70⟩
                · replace H := condF c68 H
                  refine eB c68 ?_
                  refine gF rfl rfl ?_
                  refine gF rfl rfl ?_
                  refine gF rfl rfl ?_
                  refine gT rfl rfl (p_pkF rfl (rfl : _ = B false) ?_)
                  refine p_pkF rfl (rfl : _ = B false) ?_
                  refine wp_nil ?_
                  refine c_false rfl ?_
                  refine c_skip ?_
                  have S70 := S64.pk [1] (by decide) [0, 1, 2, 3] rfl rfl
                  exact ⟨(), (), _, rfl, ⟨rfl, rfl, trivial⟩, H, S70⟩
        · intro z_1 y_1 e61 w62 S63; obtain ⟨H, S63⟩ := S63
          unfold law_CoalDay_j1 at H
          refine c_seq ?_
          refine reg ?_
          refine p_ldA ty29 sz29 (S63.atX (i := 0) rfl) rfl rfl ?_
          refine p_mI rfl ?_
          obtain ⟨r64, h65, H⟩ := bindS H
          refine p_cv (coal_Heap_ok h65 (S63.atP (i := 0) rfl) (S63.atP (i := 1) rfl) (S63.atP (i := 3) rfl)) fu28 rfl S63 fun w66 S67 => ?_
          refine p_mT rfl ?_
          refine p_ext rfl rfl ?_
          refine p_ext rfl rfl ?_
          refine p_allA in23 S67 fun b68 w69 S70 => ?_
          refine p_stP (pre := []) (old := [I 0, I 0]) (post := []) (vs := [I r64.1.Low, I r64.1.High]) sz23 S70 (i := 0) rfl rfl rfl rfl (rfl : _ = AG [I r64.1.Low, I r64.1.High]) rfl rfl rfl rfl fun w71 S72 => ?_
          refine p_aI rfl ?_
          refine wp_nil ?_
          refine c_seq ?_
          refine reg ?_
          refine p_mI rfl ?_
          refine p_cmp rfl rfl rfl ?_
          refine p_mB rfl ?_
          rcases Bool.eq_false_or_eq_true ((r64.2 == 0)) with c73 | c73
          · replace H := condT c73 H
            refine eB c73 ?_
            refine gT rfl rfl (p_fld fl23_0 rfl ?_)
            refine gT rfl rfl (p_ld ty3 (S72.atX (i := 0) rfl) rfl rfl ?_)
            refine gT rfl rfl (p_cmp rfl rfl rfl ?_)
            refine p_pkT rfl (rfl : _ = B (decide (r64.1.Low < 0))) ?_
            refine p_mB rfl ?_
            rcases Bool.eq_false_or_eq_true (decide (r64.1.Low < 0)) with c74 | c74
            · replace H := condT c74 H
              refine eB c74 ?_
              obtain ⟨r75, h76, H⟩ := bindS H
              refine gT rfl rfl (p_cv (law_stoked_ok h76 (S72.atP (i := 2) rfl) (S72.atP (i := 3) rfl)) fu19 rfl S72 fun w77 S78 => ?_)
              refine p_pkT rfl (rfl : _ = B r75) ?_
              refine p_aB rfl ?_
              refine wp_nil ?_
              obtain rfl := Option.some.inj H
              refine c_ret ?_; show bodyPostM (Fr none) 0 Tryd.prog Tryd.f11 _ .ret _ _
              refine ret_of (res1 rfl (rvT (rfl : _ = B r75))) ?_
              exact ⟨_, rfl, rfl, S78.keep⟩
            · replace H := condF c74 H
              refine eB c74 ?_
              refine gF rfl rfl ?_
              refine p_pkF rfl (rfl : _ = B false) ?_
              refine p_aB rfl ?_
              refine wp_nil ?_
              obtain rfl := Option.some.inj H
              refine c_ret ?_; show bodyPostM (Fr none) 0 Tryd.prog Tryd.f11 _ .ret _ _
              refine ret_of (res1 rfl (rvT (rfl : _ = B false))) ?_
              exact ⟨_, rfl, rfl, S72.keep⟩
          · replace H := condF c73 H
            refine eB c73 ?_
            refine gF rfl rfl ?_
            refine gF rfl rfl ?_
            refine gF rfl rfl ?_
            refine p_pkF rfl (rfl : _ = B false) ?_
            refine p_mB rfl ?_
            refine gF rfl rfl ?_
            refine p_pkF rfl (rfl : _ = B false) ?_
            refine p_aB rfl ?_
            refine wp_nil ?_
            obtain rfl := Option.some.inj H
            refine c_ret ?_; show bodyPostM (Fr none) 0 Tryd.prog Tryd.f11 _ .ret _ _
            refine ret_of (res1 rfl (rvT (rfl : _ = B false))) ?_
            exact ⟨_, rfl, rfl, S72.keep⟩

end Go.Proofs.YticodohfokgjfaaDoor

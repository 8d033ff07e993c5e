/- What the law's function computes, and that it does, printed by a program of mine. -/
import Derived.Test.YticodohfokgjfaaDoorZWAll
import Derived.KernelRfl
set_option linter.unusedVariables false
set_option linter.unusedSimpArgs false
namespace Go.Proofs.YticodohfokgjfaaDoor
open Go Go.Fx Go.Proofs
def law_CoalOrder_l1 (a0 : CoalBook) (r21 : Int × Int) (rec_z_1 : Int → Option Bool) (z_1 : Int) : Option Bool :=
  bif decide (z_1 < 2) then ((law_higher a0 (wr (r21.1 - z_1))).bind fun r45 =>
  bif decide (r21.1 < 1) then (rec_z_1 (wr (z_1 + 1)))
  else ((coal_Check (CoalBook.mk r45.Heap r45.Eats r45.Extra a0.Days r45.Collier r45.Brings r45.Dips)).bind fun r62 =>
  bif (r62 != 0) then (rec_z_1 (wr (z_1 + 1)))
  else ((coal_Lasts (CoalBook.mk r45.Heap r45.Eats r45.Extra a0.Days r45.Collier r45.Brings r45.Dips) (wr ((a0.Days.length : Int) - 1))).bind fun r68 =>
  bif (r68.2 != 0) then (some false)
  else (bif ((r68.1 == 2) != (z_1 == 0)) then (some false)
  else (rec_z_1 (wr (z_1 + 1)))))))
  else ((law_stoked).bind fun r75 =>
  some r75)

def law_CoalOrder (a0 : CoalBook) : Option Bool :=
  (law_sound a0).bind fun r12 =>
  bif !r12 then ((law_stoked).bind fun r17 =>
  some r17)
  else ((coal_Order a0).bind fun r21 =>
  (coal_Lasts a0 (wr ((a0.Days.length : Int) - 1))).bind fun r25 =>
  bif (r21.2 != 0) then (bif (r21.2 == 62) then (bif (r25.2 == r21.2) then (bif (r21.1 == 0) then ((law_stoked).bind fun r33 =>
  some r33)
  else (some false))
  else (some false))
  else (some false))
  else (bif (r25.2 != 0) then (some false)
  else (bif decide (r21.1 < 0) then (some false)
  else (bif ((r21.1 == 0) != (r25.1 == 2)) then (some false)
  else (loopF (law_CoalOrder_l1 a0 r21) big 0)))))

set_option maxRecDepth 100000 in
theorem law_CoalOrder_ok {a0 : CoalBook} {A1 : Option Addr} {c2 : Nat} {A4 : Option Addr} {c5 : Nat} {w : World} {r : Bool} (H : law_CoalOrder a0 = some r) (h3 : (rd eCoalDay 3 A1 c2 a0.Days).ok w) (h6 : (rd eCoalDip 3 A4 c5 a0.Dips).ok w) (hg7 : (bl 0 [Value.func (.func 128) #[] #[], Value.func (.func 129) #[] #[]] 110).ok w) (hg8 : (bl 1 [I (-1), I (-1)] 123).ok w) : Calls Tryd.prog 9 #[AG ([I a0.Heap.Low, I a0.Heap.High] ++ (sgE eSpan a0.Eats 2 ++ (sg a0.Extra 3 ++ [SL A1 a0.Days.length c2, I a0.Collier.Low, I a0.Collier.High, I a0.Brings, SL A4 a0.Dips.length c5])))] w (RetV w (B r)) := by
  unfold law_CoalOrder at H
  refine fn_of (n := 93) Tryd.func9 rfl rfl (Nat.le_of_ble_eq_true rfl) ?_
  have S : St w (fun _ => False) w [] [rd eCoalDay 3 A1 c2 a0.Days, rd eCoalDip 3 A4 c5 a0.Dips, bl 0 [Value.func (.func 128) #[] #[], Value.func (.func 129) #[] #[]] 110, bl 1 [I (-1), I (-1)] 123] := St.start w _ _ (List.forall_mem_cons.2 ⟨h3, (List.forall_mem_cons.2 ⟨h6, (List.forall_mem_cons.2 ⟨hg7, (List.forall_mem_cons.2 ⟨hg8, (fun _ h_ => (List.not_mem_nil h_).elim)⟩)⟩)⟩)⟩)
  refine c_seq ?_
  refine reg ?_
  refine p_boxA rfl S fun b9 w10 S11 => ?_
  refine p_aB rfl ?_
  refine wp_nil ?_
  refine c_seq ?_
  refine c_seq ?_
  refine reg ?_
  refine p_ldA ty29 sz29 (S11.atX (i := 0) rfl) rfl rfl ?_
  obtain ⟨r12, h13, H⟩ := bindS H
  refine p_cv (law_sound_ok h13 (S11.atP (i := 0) rfl) (S11.atP (i := 1) rfl)) fu22 rfl S11 fun w14 S15 => ?_
  refine p_not rfl ?_
  refine wp_nil ?_
  refine c_cond rfl (fun c16 => ?_) (fun c16 => ?_)
  · replace H := condT c16 H
    refine c_seq ?_
    refine reg ?_
    obtain ⟨r17, h18, H⟩ := bindS H
    refine p_cv (law_stoked_ok h18 (S15.atP (i := 2) rfl) (S15.atP (i := 3) rfl)) fu19 rfl S15 fun w19 S20 => ?_
    refine p_aB rfl ?_
    refine wp_nil ?_
    obtain rfl := Option.some.inj H
    refine c_ret ?_; show bodyPostM (Fr none) 0 Tryd.prog Tryd.f9 _ .ret _ _
    refine ret_of (res1 rfl (rvT (rfl : _ = B r17))) ?_
    exact ⟨_, rfl, rfl, S20.keep⟩
  · replace H := condF c16 H
    refine c_skip ?_
    refine c_seq ?_
    refine reg ?_
    refine p_ldA ty29 sz29 (S15.atX (i := 0) rfl) rfl rfl ?_
    obtain ⟨r21, h22, H⟩ := bindS H
    refine p_cv (coal_Order_ok h22 (S15.atP (i := 0) rfl) (S15.atP (i := 1) rfl) (S15.atP (i := 3) rfl)) fu31 rfl S15 fun w23 S24 => ?_
    refine p_mT rfl ?_
    refine p_ext rfl rfl ?_
    refine p_ext rfl rfl ?_
    refine p_aI rfl ?_
    refine p_aI rfl ?_
    refine wp_nil ?_
    refine c_seq ?_
    refine reg ?_
    refine p_ldA ty29 sz29 (S24.atX (i := 0) rfl) rfl rfl ?_
    refine p_fld fl29_3 rfl ?_
    refine p_ld ty26 (S24.atX (i := 0) rfl) rfl rfl ?_
    refine p_len rfl sc26 ?_
    refine p_sub rfl rfl ?_
    obtain ⟨r25, h26, H⟩ := bindS H
    refine p_cv (coal_Lasts_ok h26 (S24.atP (i := 0) rfl) (S24.atP (i := 1) rfl) (S24.atP (i := 2) rfl) (S24.atP (i := 3) rfl)) fu30 rfl S24 fun w27 S28 => ?_
    refine p_mT rfl ?_
    refine p_ext rfl rfl ?_
    refine p_ext rfl rfl ?_
    refine p_aI rfl ?_
    refine p_aI rfl ?_
    refine wp_nil ?_
    refine c_seq ?_
    refine c_seq ?_
    refine reg ?_
    refine p_mI rfl ?_
    refine p_cmp rfl rfl rfl ?_
    refine wp_nil ?_
    refine c_cond rfl (fun c29 => ?_) (fun c29 => ?_)
    · replace H := condT c29 H
      refine c_seq ?_
      refine reg ?_
      refine p_mI rfl ?_
      refine p_cmp rfl rfl rfl ?_
      refine p_mB rfl ?_
      rcases Bool.eq_false_or_eq_true ((r21.2 == 62)) with c30 | c30
      · replace H := condT c30 H
        refine eB c30 ?_
        refine gT rfl rfl (p_mI rfl ?_)
        refine gT rfl rfl (p_mI rfl ?_)
        refine gT rfl rfl (p_cmp rfl rfl rfl ?_)
        refine p_pkT rfl (rfl : _ = B (r25.2 == r21.2)) ?_
        refine p_mB rfl ?_
        rcases Bool.eq_false_or_eq_true ((r25.2 == r21.2)) with c31 | c31
        · replace H := condT c31 H
          refine eB c31 ?_
          refine gT rfl rfl (p_mI rfl ?_)
          refine gT rfl rfl (p_cmp rfl rfl rfl ?_)
          refine p_pkT rfl (rfl : _ = B (r21.1 == 0)) ?_
          refine p_mB rfl ?_
          rcases Bool.eq_false_or_eq_true ((r21.1 == 0)) with c32 | c32
          · replace H := condT c32 H
            refine eB c32 ?_
            obtain ⟨r33, h34, H⟩ := bindS H
            refine gT rfl rfl (p_cv (law_stoked_ok h34 (S28.atP (i := 2) rfl) (S28.atP (i := 3) rfl)) fu19 rfl S28 fun w35 S36 => ?_)
            refine p_pkT rfl (rfl : _ = B r33) ?_
            refine p_aB rfl ?_
            refine wp_nil ?_
            obtain rfl := Option.some.inj H
            refine c_ret ?_; show bodyPostM (Fr none) 0 Tryd.prog Tryd.f9 _ .ret _ _
            refine ret_of (res1 rfl (rvT (rfl : _ = B r33))) ?_
            exact ⟨_, rfl, rfl, S36.keep⟩
          · replace H := condF c32 H
            refine eB c32 ?_
            refine gF rfl rfl ?_
            refine p_pkF rfl (rfl : _ = B false) ?_
            refine p_aB rfl ?_
            refine wp_nil ?_
            obtain rfl := Option.some.inj H
            refine c_ret ?_; show bodyPostM (Fr none) 0 Tryd.prog Tryd.f9 _ .ret _ _
            refine ret_of (res1 rfl (rvT (rfl : _ = B false))) ?_
            exact ⟨_, rfl, rfl, S28.keep⟩
        · replace H := condF c31 H
          refine eB c31 ?_
          refine gF rfl rfl ?_
          refine gF rfl rfl ?_
          refine p_pkF rfl (rfl : _ = B false) ?_
          refine p_mB rfl ?_
          refine gF rfl rfl ?_
          refine p_pkF rfl (rfl : _ = B false) ?_
          refine p_aB rfl ?_
          refine wp_nil ?_
          obtain rfl := Option.some.inj H
          refine c_ret ?_; show bodyPostM (Fr none) 0 Tryd.prog Tryd.f9 _ .ret _ _
          refine ret_of (res1 rfl (rvT (rfl : _ = B false))) ?_
          exact ⟨_, rfl, rfl, S28.keep⟩
      · replace H := condF c30 H
        refine eB c30 ?_
        refine gF rfl rfl ?_
        refine gF rfl rfl ?_
        refine gF rfl rfl ?_
        refine p_pkF rfl (rfl : _ = B false) ?_
        refine p_mB rfl ?_
        refine gF rfl rfl ?_
        refine gF rfl rfl ?_
        refine p_pkF rfl (rfl : _ = B false) ?_
        refine p_mB rfl ?_
        refine gF rfl rfl ?_
        refine p_pkF rfl (rfl : _ = B false) ?_
        refine p_aB rfl ?_
        refine wp_nil ?_
        obtain rfl := Option.some.inj H
        refine c_ret ?_; show bodyPostM (Fr none) 0 Tryd.prog Tryd.f9 _ .ret _ _
        refine ret_of (res1 rfl (rvT (rfl : _ = B false))) ?_
        exact ⟨_, rfl, rfl, S28.keep⟩
    · replace H := condF c29 H
      refine c_skip ?_
      refine c_seq ?_
      refine c_seq ?_
      refine reg ?_
      refine p_mI rfl ?_
      refine p_cmp rfl rfl rfl ?_
      refine p_mB rfl ?_
      rcases Bool.eq_false_or_eq_true ((r25.2 != 0)) with c37 | c37
      · replace H := condT c37 H
        refine eB c37 ?_
        refine gF rfl rfl ?_
        refine gF rfl rfl ?_
        refine p_pkT rfl (rfl : _ = B true) ?_
        refine p_mB rfl ?_
        refine gF rfl rfl ?_
        refine gF rfl rfl ?_
        refine gF rfl rfl ?_
        refine gF rfl rfl ?_
        refine gF rfl rfl ?_
        refine p_pkT rfl (rfl : _ = B true) ?_
        refine wp_nil ?_
        refine c_true rfl ?_
        refine c_seq ?_
        refine reg ?_
        refine p_aB rfl ?_
        refine wp_nil ?_
        obtain rfl := Option.some.inj H
        refine c_ret ?_; show bodyPostM (Fr none) 0 Tryd.prog Tryd.f9 _ .ret _ _
        refine ret_of (res1 rfl (rvT (rfl : _ = B false))) ?_
        exact ⟨_, rfl, rfl, S28.keep⟩
      · replace H := condF c37 H
        refine eB c37 ?_
        refine gT rfl rfl (p_mI rfl ?_)
        refine gT rfl rfl (p_cmp rfl rfl rfl ?_)
        refine p_pkF rfl (rfl : _ = B (decide (r21.1 < 0))) ?_
        refine p_mB rfl ?_
        rcases Bool.eq_false_or_eq_true (decide (r21.1 < 0)) with c38 | c38
        · replace H := condT c38 H
          refine eB c38 ?_
          refine gF rfl rfl ?_
          refine gF rfl rfl ?_
          refine gF rfl rfl ?_
          refine gF rfl rfl ?_
          refine gF rfl rfl ?_
          refine p_pkT rfl (rfl : _ = B true) ?_
          refine wp_nil ?_
          refine c_true rfl ?_
          refine c_seq ?_
          refine reg ?_
          refine p_aB rfl ?_
          refine wp_nil ?_
          obtain rfl := Option.some.inj H
          refine c_ret ?_; show bodyPostM (Fr none) 0 Tryd.prog Tryd.f9 _ .ret _ _
          refine ret_of (res1 rfl (rvT (rfl : _ = B false))) ?_
          exact ⟨_, rfl, rfl, S28.keep⟩
        · replace H := condF c38 H
          refine eB c38 ?_
          refine gT rfl rfl (p_mI rfl ?_)
          refine gT rfl rfl (p_cmp rfl rfl rfl ?_)
          refine gT rfl rfl (p_mI rfl ?_)
          refine gT rfl rfl (p_cmp rfl rfl rfl ?_)
          refine gT rfl rfl (o_neB rfl rfl ub4 ?_)
          refine p_pkF rfl (rfl : _ = B ((r21.1 == 0) != (r25.1 == 2))) ?_
          refine wp_nil ?_
          refine c_cond rfl (fun c39 => ?_) (fun c39 => ?_)
          · replace H := condT c39 H
            refine c_seq ?_
            refine reg ?_
            refine p_aB rfl ?_
            refine wp_nil ?_
            obtain rfl := Option.some.inj H
            refine c_ret ?_; show bodyPostM (Fr none) 0 Tryd.prog Tryd.f9 _ .ret _ _
            refine ret_of (res1 rfl (rvT (rfl : _ = B false))) ?_
            exact ⟨_, rfl, rfl, S28.keep⟩
          · replace H := condF c39 H
            refine c_skip ?_
            refine c_seq ?_
            refine c_seq ?_
            refine reg ?_
            refine p_aI rfl ?_
            refine wp_nil ?_
            refine c_block ?_
            refine c_lop (α := Int) (β := Unit) (law_CoalOrder_l1 a0 r21) (fun z_1 y_1 => [(1, P b9 0), (3, I r21.1), (7, I z_1)]) (fun z_1 y_1 w_ => St w (fun _ => False) w_ [bl b9 ([I a0.Heap.Low, I a0.Heap.High] ++ (sgE eSpan a0.Eats 2 ++ (sg a0.Extra 3 ++ [SL A1 a0.Days.length c2, I a0.Collier.Low, I a0.Collier.High, I a0.Brings, SL A4 a0.Dips.length c5]))) 29] [rd eCoalDay 3 A1 c2 a0.Days, rd eCoalDip 3 A4 c5 a0.Dips, bl 0 [Value.func (.func 128) #[] #[], Value.func (.func 129) #[] #[]] 110, bl 1 [I (-1), I (-1)] 123]) 0 () H ⟨rfl, rfl, rfl, trivial⟩ S28 ?_
            intro m40 z_1 y_1 e41 w42 H S43
            unfold law_CoalOrder_l1 at H
            refine c_seq ?_
            refine c_seq ?_
            refine reg ?_
            refine p_mI rfl ?_
            refine p_cmp rfl rfl rfl ?_
            refine wp_nil ?_
            refine c_cond rfl (fun c44 => ?_) (fun c44 => ?_)
            · replace H := condT c44 H
              refine c_skip ?_
              refine c_seq ?_
              refine c_block ?_
              refine c_seq ?_
              refine reg ?_
              refine p_ldA ty29 sz29 (S43.atX (i := 0) rfl) rfl rfl ?_
              refine p_mI rfl ?_
              refine p_mI rfl ?_
              refine p_sub rfl rfl ?_
              obtain ⟨r45, h46, H⟩ := bindS H
              refine p_cal (law_higher_ok h46 (S43.atP (i := 0) rfl) (S43.atP (i := 1) rfl)) fu42 rfl ?_
              rintro _ w47 ⟨A49, c50, rfl, k48, ⟨o51, n52⟩, _⟩
              have S54 := S43.addNew k48 o51 n52
              refine p_allA in29 S54 fun b55 w56 S57 => ?_
              refine p_stP (pre := []) (old := [I 0, I 0, I 0, I 0, I 0, I 0] ++ (sg (List.replicate 3 0) 3 ++ [SL none 0 0, I 0, I 0, I 0, SL none 0 0])) (post := []) (vs := [I r45.Heap.Low, I r45.Heap.High] ++ (sgE eSpan r45.Eats 2 ++ (sg r45.Extra 3 ++ [SL A1 a0.Days.length c2, I r45.Collier.Low, I r45.Collier.High, I r45.Brings, SL A49 r45.Dips.length c50]))) sz29 S57 (i := 0) rfl rfl rfl rfl (rfl : _ = AG ([I r45.Heap.Low, I r45.Heap.High] ++ (sgE eSpan r45.Eats 2 ++ (sg r45.Extra 3 ++ [SL A1 a0.Days.length c2, I r45.Collier.Low, I r45.Collier.High, I r45.Brings, SL A49 r45.Dips.length c50])))) rfl rfl rfl rfl fun w58 S59 => ?_
              refine wp_nil ?_
              refine c_seq ?_
              refine c_seq ?_
              refine reg ?_
              refine p_mI rfl ?_
              refine p_cmp rfl rfl rfl ?_
              refine p_mB rfl ?_
              rcases Bool.eq_false_or_eq_true (decide (r21.1 < 1)) with c60 | c60
              · replace H := condT c60 H
                refine eB c60 ?_
                refine gF rfl rfl ?_
                refine gF rfl rfl ?_
                refine gF rfl rfl ?_
                refine p_pkT rfl (rfl : _ = B true) ?_
                refine wp_nil ?_
                refine c_true rfl ?_
                refine c_exit ?_
                refine reg ?_
                refine p_mI rfl ?_
                refine p_add rfl rfl ?_
                refine p_aI rfl ?_
                refine wp_nil ?_
                have S61 := S59.pk [2] (by decide) [0, 1, 2, 3] rfl rfl
                exact ⟨wr (z_1 + 1), (), _, rfl, ⟨rfl, rfl, rfl, trivial⟩, H, S61⟩
              · replace H := condF c60 H
                refine eB c60 ?_
                refine gT rfl rfl (p_ldA ty29 sz29 (S59.atX (i := 0) rfl) rfl rfl ?_)
                obtain ⟨r62, h63, H⟩ := bindS H
                refine gT rfl rfl (p_cv (coal_Check_ok h63 (S59.atP (i := 0) rfl) (gr_rd eCoalDip_len (S59.atX (i := 1) rfl))) fu41 rfl S59 fun w64 S65 => ?_)
                refine gT rfl rfl (p_cmp rfl rfl rfl ?_)
                refine p_pkF rfl (rfl : _ = B (r62 != 0)) ?_
                refine wp_nil ?_
                refine c_cond rfl (fun c66 => ?_) (fun c66 => ?_)
                · replace H := condT c66 H
                  refine c_exit ?_
                  refine reg ?_
                  refine p_mI rfl ?_
                  refine p_add rfl rfl ?_
                  refine p_aI rfl ?_
                  refine wp_nil ?_
                  have S67 := S65.pk [2] (by decide) [0, 1, 2, 3] rfl rfl
                  exact ⟨wr (z_1 + 1), (), _, rfl, ⟨rfl, rfl, rfl, trivial⟩, H, S67⟩
                · replace H := condF c66 H
                  refine c_skip ?_
                  refine c_seq ?_
                  refine reg ?_
                  refine p_ldA ty29 sz29 (S65.atX (i := 0) rfl) rfl rfl ?_
                  refine p_fld fl29_3 rfl ?_
                  refine p_ld ty26 (S65.atX (i := 2) rfl) rfl rfl ?_
                  refine p_len rfl sc26 ?_
                  refine p_sub rfl rfl ?_
                  obtain ⟨r68, h69, H⟩ := bindS H
                  refine p_cv (coal_Lasts_ok h69 (S65.atP (i := 0) rfl) (gr_rd eCoalDip_len (S65.atX (i := 1) rfl)) (S65.atP (i := 2) rfl) (S65.atP (i := 3) rfl)) fu30 rfl S65 fun w70 S71 => ?_
                  refine p_mT rfl ?_
                  refine p_ext rfl rfl ?_
                  refine p_ext rfl rfl ?_
                  refine p_aI rfl ?_
                  refine p_aI rfl ?_
                  refine wp_nil ?_
                  refine c_seq ?_
                  refine reg ?_
                  refine p_mI rfl ?_
                  refine p_cmp rfl rfl rfl ?_
                  refine p_mB rfl ?_
                  rcases Bool.eq_false_or_eq_true ((r68.2 != 0)) with c72 | c72
                  · replace H := condT c72 H
                    refine eB c72 ?_
                    refine gF rfl rfl ?_
                    refine gF rfl rfl ?_
                    refine gF rfl rfl ?_
                    refine gF rfl rfl ?_
                    refine gF rfl rfl ?_
                    refine p_pkT rfl (rfl : _ = B true) ?_
                    refine wp_nil ?_
                    refine c_true rfl ?_
                    refine c_seq ?_
                    refine reg ?_
                    refine p_aB rfl ?_
                    refine wp_nil ?_
                    obtain rfl := Option.some.inj H
                    refine c_ret ?_; show bodyPostM (Fr none) 0 Tryd.prog Tryd.f9 _ .ret _ _
                    refine ret_of (res1 rfl (rvT (rfl : _ = B false))) ?_
                    exact ⟨_, rfl, rfl, S71.keep⟩
                  · replace H := condF c72 H
                    refine eB c72 ?_
                    refine gT rfl rfl (p_mI rfl ?_)
                    refine gT rfl rfl (p_cmp rfl rfl rfl ?_)
                    refine gT rfl rfl (p_mI rfl ?_)
                    refine gT rfl rfl (p_cmp rfl rfl rfl ?_)
                    refine gT rfl rfl (o_neB rfl rfl ub4 ?_)
                    refine p_pkF rfl (rfl : _ = B ((r68.1 == 2) != (z_1 == 0))) ?_
                    refine wp_nil ?_
                    refine c_cond rfl (fun c73 => ?_) (fun c73 => ?_)
                    · replace H := condT c73 H
                      refine c_seq ?_
                      refine reg ?_
                      refine p_aB rfl ?_
                      refine wp_nil ?_
                      obtain rfl := Option.some.inj H
                      refine c_ret ?_; show bodyPostM (Fr none) 0 Tryd.prog Tryd.f9 _ .ret _ _
                      refine ret_of (res1 rfl (rvT (rfl : _ = B false))) ?_
                      exact ⟨_, rfl, rfl, S71.keep⟩
                    · replace H := condF c73 H
                      refine c_skip ?_
                      refine reg ?_
                      refine p_mI rfl ?_
                      refine p_add rfl rfl ?_
                      refine p_aI rfl ?_
                      refine wp_nil ?_
                      have S74 := S71.pk [2] (by decide) [0, 1, 2, 3] rfl rfl
                      exact ⟨wr (z_1 + 1), (), _, rfl, ⟨rfl, rfl, rfl, trivial⟩, H, S74⟩
            · replace H := condF c44 H
              refine c_exit ?_
              refine c_seq ?_
              refine reg ?_
              obtain ⟨r75, h76, H⟩ := bindS H
              refine p_cv (law_stoked_ok h76 (S43.atP (i := 2) rfl) (S43.atP (i := 3) rfl)) fu19 rfl S43 fun w77 S78 => ?_
              refine p_aB rfl ?_
              refine wp_nil ?_
              obtain rfl := Option.some.inj H
              refine c_ret ?_; show bodyPostM (Fr none) 0 Tryd.prog Tryd.f9 _ .ret _ _
              refine ret_of (res1 rfl (rvT (rfl : _ = B r75))) ?_
              exact ⟨_, rfl, rfl, S78.keep⟩

end Go.Proofs.YticodohfokgjfaaDoor

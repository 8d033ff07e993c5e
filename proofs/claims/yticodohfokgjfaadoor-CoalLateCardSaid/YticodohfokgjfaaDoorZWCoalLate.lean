/- What the law's function computes, and that it does, printed by a program of mine. -/
import Derived.Test.YticodohfokgjfaaDoorZWAll
import Derived.KernelRfl
set_option linter.unusedVariables false
set_option linter.unusedSimpArgs false
namespace Go.Proofs.YticodohfokgjfaaDoor
open Go Go.Fx Go.Proofs
def law_CoalLate_j2 (a0 : CoalBook) (z_4 : Int) : Option Bool :=
  bif decide (z_4 > a0.Collier.High) then ((law_stoked).bind fun r90 =>
  some r90)
  else ((B_Point z_4).bind fun r94 =>
  (coal_Lasts (CoalBook.mk a0.Heap a0.Eats a0.Extra a0.Days r94 a0.Brings a0.Dips) (wr ((a0.Days.length : Int) - 1))).bind fun r100 =>
  bif (r100.2 == 0) then (bif decide (r100.1 < 2) then ((law_stoked).bind fun r106 =>
  some r106)
  else (some false))
  else (some false))

def law_CoalLate_j3 (r21 : Int × Int) (a0 : CoalBook) (z_3 : Unit) : Option Bool :=
  bif (r21.2 != 0) then (law_CoalLate_j2 a0 a0.Collier.Low)
  else (law_CoalLate_j2 a0 (wr (r21.1 + 1)))

def law_CoalLate_j4 (a0 : CoalBook) (z_4 : Int) : Option Bool :=
  bif decide (z_4 > a0.Collier.High) then ((law_stoked).bind fun r137 =>
  some r137)
  else ((B_Point z_4).bind fun r141 =>
  (coal_Lasts (CoalBook.mk a0.Heap a0.Eats a0.Extra a0.Days r141 a0.Brings a0.Dips) (wr ((a0.Days.length : Int) - 1))).bind fun r147 =>
  bif (r147.2 == 0) then (bif decide (r147.1 < 2) then ((law_stoked).bind fun r153 =>
  some r153)
  else (some false))
  else (some false))

def law_CoalLate_j5 (r21 : Int × Int) (a0 : CoalBook) (z_3 : Unit) : Option Bool :=
  bif (r21.2 != 0) then (law_CoalLate_j4 a0 a0.Collier.Low)
  else (law_CoalLate_j4 a0 (wr (r21.1 + 1)))

def law_CoalLate_j6 (r21 : Int × Int) (a0 : CoalBook) (z_2 : Unit) : Option Bool :=
  bif (r21.2 == 0) then ((B_Range a0.Collier.Low r21.1).bind fun r84 =>
  (coal_Lasts (CoalBook.mk a0.Heap a0.Eats a0.Extra a0.Days r84 a0.Brings a0.Dips) (wr ((a0.Days.length : Int) - 1))).bind fun r90 =>
  bif (r90.2 != 62) then (bif (r90.2 != 0) then (some false)
  else (bif (r90.1 != 2) then (some false)
  else (law_CoalLate_j3 r21 a0 ())))
  else (law_CoalLate_j3 r21 a0 ()))
  else (law_CoalLate_j3 r21 a0 ())

def law_CoalLate_j7 (a0 : CoalBook) (r21 : Int × Int) (z_1 : Bool) : Option Bool :=
  bif z_1 then ((coal_Order a0).bind fun r29 =>
  bif (r21.2 == 62) then (bif (r29.2 == r21.2) then (bif (r21.1 == 0) then ((law_stoked).bind fun r36 =>
  some r36)
  else (some false))
  else (some false))
  else (some false))
  else (bif (r21.2 == 0) then ((B_Contains a0.Collier r21.1).bind fun r41 =>
  bif !r41 then (some false)
  else (bif (r21.2 == 4) then (bif (r21.1 != 0) then (some false)
  else (law_CoalLate_j6 r21 a0 ()))
  else (law_CoalLate_j6 r21 a0 ())))
  else (bif (r21.2 == 4) then (bif (r21.1 != 0) then (some false)
  else (law_CoalLate_j6 r21 a0 ()))
  else (law_CoalLate_j6 r21 a0 ())))

def law_CoalLate (a0 : CoalBook) : Option Bool :=
  (law_sound a0).bind fun r12 =>
  bif !r12 then ((law_stoked).bind fun r17 =>
  some r17)
  else ((coal_Late a0).bind fun r21 =>
  bif (r21.2 != 0) then (law_CoalLate_j7 a0 r21 (r21.2 != 4))
  else (law_CoalLate_j7 a0 r21 false))

set_option maxRecDepth 100000 in
theorem law_CoalLate_ok {a0 : CoalBook} {A1 : Option Addr} {c2 : Nat} {A4 : Option Addr} {c5 : Nat} {w : World} {r : Bool} (H : law_CoalLate a0 = some r) (h3 : (rd eCoalDay 3 A1 c2 a0.Days).ok w) (h6 : (rd eCoalDip 3 A4 c5 a0.Dips).ok w) (hg7 : (bl 0 [Value.func (.func 128) #[] #[], Value.func (.func 129) #[] #[]] 110).ok w) (hg8 : (bl 1 [I (-1), I (-1)] 123).ok w) : Calls Tryd.prog 12 #[AG ([I a0.Heap.Low, I a0.Heap.High] ++ (sgE eSpan a0.Eats 2 ++ (sg a0.Extra 3 ++ [SL A1 a0.Days.length c2, I a0.Collier.Low, I a0.Collier.High, I a0.Brings, SL A4 a0.Dips.length c5])))] w (RetV w (B r)) := by
  unfold law_CoalLate at H
  refine fn_of (n := 127) Tryd.func12 rfl rfl (Nat.le_of_ble_eq_true rfl) ?_
  have S : St w (fun _ => False) w [] [rd eCoalDay 3 A1 c2 a0.Days, rd eCoalDip 3 A4 c5 a0.Dips, bl 0 [Value.func (.func 128) #[] #[], Value.func (.func 129) #[] #[]] 110, bl 1 [I (-1), I (-1)] 123] := St.start w _ _ (List.forall_mem_cons.2 ⟨h3, (List.forall_mem_cons.2 ⟨h6, (List.forall_mem_cons.2 ⟨hg7, (List.forall_mem_cons.2 ⟨hg8, (fun _ h_ => (List.not_mem_nil h_).elim)⟩)⟩)⟩)⟩)
  refine c_seq ?_
  refine reg ?_
  refine p_boxA rfl S fun b9 w10 S11 => ?_
  refine p_aB rfl ?_
  refine wp_nil ?_
  refine c_seq ?_
  refine c_seq ?_
  refine reg ?_
  refine p_ldA ty29 sz29 (S11.atX (i := 0) rfl) rfl rfl ?_
  obtain ⟨r12, h13, H⟩ := bindS H
  refine p_cv (law_sound_ok h13 (S11.atP (i := 0) rfl) (S11.atP (i := 1) rfl)) fu22 rfl S11 fun w14 S15 => ?_
  refine p_not rfl ?_
  refine wp_nil ?_
  refine c_cond rfl (fun c16 => ?_) (fun c16 => ?_)
  · replace H := condT c16 H
    refine c_seq ?_
    refine reg ?_
    obtain ⟨r17, h18, H⟩ := bindS H
    refine p_cv (law_stoked_ok h18 (S15.atP (i := 2) rfl) (S15.atP (i := 3) rfl)) fu19 rfl S15 fun w19 S20 => ?_
    refine p_aB rfl ?_
    refine wp_nil ?_
    obtain rfl := Option.some.inj H
    refine c_ret ?_; show bodyPostM (Fr none) 0 Tryd.prog Tryd.f12 _ .ret _ _
    refine ret_of (res1 rfl (rvT (rfl : _ = B r17))) ?_
    exact ⟨_, rfl, rfl, S20.keep⟩
  · replace H := condF c16 H
    refine c_skip ?_
    refine c_seq ?_
    refine reg ?_
    refine p_ldA ty29 sz29 (S15.atX (i := 0) rfl) rfl rfl ?_
    obtain ⟨r21, h22, H⟩ := bindS H
    refine p_cv (coal_Late_ok h22 (S15.atP (i := 0) rfl) (S15.atP (i := 1) rfl) (S15.atP (i := 3) rfl)) fu45 rfl S15 fun w23 S24 => ?_
    refine p_mT rfl ?_
    refine p_ext rfl rfl ?_
    refine p_ext rfl rfl ?_
    refine p_aI rfl ?_
    refine p_aI rfl ?_
    refine wp_nil ?_
    refine c_seq ?_
    refine reg ?_
    refine p_fld fl29_3 rfl ?_
    refine p_ld ty26 (S24.atX (i := 0) rfl) rfl rfl ?_
    refine p_len rfl sc26 ?_
    refine p_sub rfl rfl ?_
    refine p_aI rfl ?_
    refine wp_nil ?_
    refine c_seq ?_
    refine c_join (α := Bool) (β := Unit) (fun z_1 y_1 => [(1, P b9 0), (3, I r21.1), (4, I r21.2), (5, I (wr ((a0.Days.length : Int) - 1))), (33, B z_1)]) (fun z_1 y_1 w_ => law_CoalLate_j7 a0 r21 z_1 = some r ∧ St w (fun _ => False) w_ [bl b9 ([I a0.Heap.Low, I a0.Heap.High] ++ (sgE eSpan a0.Eats 2 ++ (sg a0.Extra 3 ++ [SL A1 a0.Days.length c2, I a0.Collier.Low, I a0.Collier.High, I a0.Brings, SL A4 a0.Dips.length c5]))) 29] [rd eCoalDay 3 A1 c2 a0.Days, rd eCoalDip 3 A4 c5 a0.Dips, bl 0 [Value.func (.func 128) #[] #[], Value.func (.func 129) #[] #[]] 110, bl 1 [I (-1), I (-1)] 123]) ?_ ?_
    · refine reg ?_
      refine p_mI rfl ?_
      refine p_cmp rfl rfl rfl ?_
      refine p_mB rfl ?_
      rcases Bool.eq_false_or_eq_true ((r21.2 != 0)) with c25 | c25
      · replace H := condT c25 H
        refine eB c25 ?_
        refine gT rfl rfl (p_mI rfl ?_)
        refine gT rfl rfl (p_cmp rfl rfl rfl ?_)
        refine p_pkT rfl (rfl : _ = B (r21.2 != 4)) ?_
        refine wp_nil ?_
        exact ⟨(r21.2 != 4), (), _, rfl, ⟨rfl, rfl, rfl, rfl, rfl, trivial⟩, H, S24⟩
      · replace H := condF c25 H
        refine eB c25 ?_
        refine gF rfl rfl ?_
        refine gF rfl rfl ?_
        refine p_pkF rfl (rfl : _ = B false) ?_
        refine wp_nil ?_
        exact ⟨false, (), _, rfl, ⟨rfl, rfl, rfl, rfl, rfl, trivial⟩, H, S24⟩
    · intro z_1 y_1 e25 w26 S27; obtain ⟨H, S27⟩ := S27
      unfold law_CoalLate_j7 at H
      refine c_cond rfl (fun c28 => ?_) (fun c28 => ?_)
      · replace H := condT c28 H
        refine c_seq ?_
        refine reg ?_
        refine p_ldA ty29 sz29 (S27.atX (i := 0) rfl) rfl rfl ?_
        obtain ⟨r29, h30, H⟩ := bindS H
        refine p_cv (coal_Order_ok h30 (S27.atP (i := 0) rfl) (S27.atP (i := 1) rfl) (S27.atP (i := 3) rfl)) fu31 rfl S27 fun w31 S32 => ?_
        refine p_mT rfl ?_
        refine p_ext rfl rfl ?_
        refine p_ext rfl rfl ?_
        refine p_aI rfl ?_
        refine p_aI rfl ?_
        refine wp_nil ?_
        refine c_seq ?_
        refine reg ?_
        refine p_mI rfl ?_
        refine p_cmp rfl rfl rfl ?_
        refine p_mB rfl ?_
        rcases Bool.eq_false_or_eq_true ((r21.2 == 62)) with c33 | c33
        · replace H := condT c33 H
          refine eB c33 ?_
          refine gT rfl rfl (p_mI rfl ?_)
          refine gT rfl rfl (p_mI rfl ?_)
          refine gT rfl rfl (p_cmp rfl rfl rfl ?_)
          refine p_pkT rfl (rfl : _ = B (r29.2 == r21.2)) ?_
          refine p_mB rfl ?_
          rcases Bool.eq_false_or_eq_true ((r29.2 == r21.2)) with c34 | c34
          · replace H := condT c34 H
            refine eB c34 ?_
            refine gT rfl rfl (p_mI rfl ?_)
            refine gT rfl rfl (p_cmp rfl rfl rfl ?_)
            refine p_pkT rfl (rfl : _ = B (r21.1 == 0)) ?_
            refine p_mB rfl ?_
            rcases Bool.eq_false_or_eq_true ((r21.1 == 0)) with c35 | c35
            · replace H := condT c35 H
              refine eB c35 ?_
              obtain ⟨r36, h37, H⟩ := bindS H
              refine gT rfl rfl (p_cv (law_stoked_ok h37 (S32.atP (i := 2) rfl) (S32.atP (i := 3) rfl)) fu19 rfl S32 fun w38 S39 => ?_)
              refine p_pkT rfl (rfl : _ = B r36) ?_
              refine p_aB rfl ?_
              refine wp_nil ?_
              obtain rfl := Option.some.inj H
              refine c_ret ?_; show bodyPostM (Fr none) 0 Tryd.prog Tryd.f12 _ .ret _ _
              refine ret_of (res1 rfl (rvT (rfl : _ = B r36))) ?_
              exact ⟨_, rfl, rfl, S39.keep⟩
            · replace H := condF c35 H
              refine eB c35 ?_
              refine gF rfl rfl ?_
              refine p_pkF rfl (rfl : _ = B false) ?_
              refine p_aB rfl ?_
              refine wp_nil ?_
              obtain rfl := Option.some.inj H
              refine c_ret ?_; show bodyPostM (Fr none) 0 Tryd.prog Tryd.f12 _ .ret _ _
              refine ret_of (res1 rfl (rvT (rfl : _ = B false))) ?_
              exact ⟨_, rfl, rfl, S32.keep⟩
          · replace H := condF c34 H
            refine eB c34 ?_
            refine gF rfl rfl ?_
            refine gF rfl rfl ?_
            refine p_pkF rfl (rfl : _ = B false) ?_
            refine p_mB rfl ?_
            refine gF rfl rfl ?_
            refine p_pkF rfl (rfl : _ = B false) ?_
            refine p_aB rfl ?_
            refine wp_nil ?_
            obtain rfl := Option.some.inj H
            refine c_ret ?_; show bodyPostM (Fr none) 0 Tryd.prog Tryd.f12 _ .ret _ _
            refine ret_of (res1 rfl (rvT (rfl : _ = B false))) ?_
            exact ⟨_, rfl, rfl, S32.keep⟩
        · replace H := condF c33 H
          refine eB c33 ?_
          refine gF rfl rfl ?_
          refine gF rfl rfl ?_
          refine gF rfl rfl ?_
          refine p_pkF rfl (rfl : _ = B false) ?_
          refine p_mB rfl ?_
          refine gF rfl rfl ?_
          refine gF rfl rfl ?_
          refine p_pkF rfl (rfl : _ = B false) ?_
          refine p_mB rfl ?_
          refine gF rfl rfl ?_
          refine p_pkF rfl (rfl : _ = B false) ?_
          refine p_aB rfl ?_
          refine wp_nil ?_
          obtain rfl := Option.some.inj H
          refine c_ret ?_; show bodyPostM (Fr none) 0 Tryd.prog Tryd.f12 _ .ret _ _
          refine ret_of (res1 rfl (rvT (rfl : _ = B false))) ?_
          exact ⟨_, rfl, rfl, S32.keep⟩
      · replace H := condF c28 H
        refine c_skip ?_
        refine c_join (α := Unit) (β := Unit) (fun z_2 y_2 => [(1, P b9 0), (3, I r21.1), (4, I r21.2), (5, I (wr ((a0.Days.length : Int) - 1)))]) (fun z_2 y_2 w_ => law_CoalLate_j6 r21 a0 z_2 = some r ∧ St w (fun _ => False) w_ [bl b9 ([I a0.Heap.Low, I a0.Heap.High] ++ (sgE eSpan a0.Eats 2 ++ (sg a0.Extra 3 ++ [SL A1 a0.Days.length c2, I a0.Collier.Low, I a0.Collier.High, I a0.Brings, SL A4 a0.Dips.length c5]))) 29] [rd eCoalDay 3 A1 c2 a0.Days, rd eCoalDip 3 A4 c5 a0.Dips, bl 0 [Value.func (.func 128) #[] #[], Value.func (.func 129) #[] #[]] 110, bl 1 [I (-1), I (-1)] 123]) ?_ ?_
        · refine c_seq ?_
          refine reg ?_
          refine p_mI rfl ?_
          refine p_cmp rfl rfl rfl ?_
          refine p_mB rfl ?_
          rcases Bool.eq_false_or_eq_true ((r21.2 == 0)) with c40 | c40
          · replace H := condT c40 H
            refine eB c40 ?_
            refine gT rfl rfl (p_fld fl29_4 rfl ?_)
            refine gT rfl rfl (p_ldP (vs := [I a0.Collier.Low, I a0.Collier.High]) ty23 sz23 (S27.atX (i := 0) rfl) rfl rfl rfl ?_)
            refine gT rfl rfl (p_mI rfl ?_)
            obtain ⟨r41, h42, H⟩ := bindS H
            refine gT rfl rfl (p_cv (B_Contains_ok h42) fu32 rfl S27 fun w43 S44 => ?_)
            refine gT rfl rfl (p_not rfl ?_)
            refine p_pkT rfl (rfl : _ = B (!r41)) ?_
            refine p_mB rfl ?_
            rcases Bool.eq_false_or_eq_true (!r41) with c45 | c45
            · replace H := condT c45 H
              refine eB c45 ?_
              refine gF rfl rfl ?_
              refine gF rfl rfl ?_
              refine gF rfl rfl ?_
              refine o_guardU rfl rfl ?_
              refine o_guardU rfl rfl ?_
              refine gF rfl rfl ?_
              refine p_pkT rfl (rfl : _ = B true) ?_
              refine wp_nil ?_
              refine c_true rfl ?_
              refine c_seq ?_
              refine reg ?_
              refine p_aB rfl ?_
              refine wp_nil ?_
              obtain rfl := Option.some.inj H
              refine c_ret ?_; show bodyPostM (Fr none) 0 Tryd.prog Tryd.f12 _ .ret _ _
              refine ret_of (res1 rfl (rvT (rfl : _ = B false))) ?_
              exact ⟨_, rfl, rfl, S44.keep⟩
            · replace H := condF c45 H
              refine eB c45 ?_
              refine gT rfl rfl (p_mI rfl ?_)
              refine gT rfl rfl (p_cmp rfl rfl rfl ?_)
              refine gT rfl rfl (p_mB rfl ?_)
              rcases Bool.eq_false_or_eq_true ((r21.2 == 4)) with c46 | c46
              · replace H := condT c46 H
                refine eB c46 ?_
                refine gT rfl rfl (p_mI rfl ?_)
                refine gT rfl rfl (p_cmp rfl rfl rfl ?_)
                refine gT rfl rfl (p_pkT rfl (rfl : _ = B (r21.1 != 0)) ?_)
                refine p_pkF rfl (rfl : _ = B (r21.1 != 0)) ?_
                refine wp_nil ?_
                refine c_cond rfl (fun c47 => ?_) (fun c47 => ?_)
                · replace H := condT c47 H
                  refine c_seq ?_
                  refine reg ?_
                  refine p_aB rfl ?_
                  refine wp_nil ?_
                  obtain rfl := Option.some.inj H
                  refine c_ret ?_; show bodyPostM (Fr none) 0 Tryd.prog Tryd.f12 _ .ret _ _
                  refine ret_of (res1 rfl (rvT (rfl : _ = B false))) ?_
                  exact ⟨_, rfl, rfl, S44.keep⟩
                · replace H := condF c47 H
                  refine c_skip ?_
                  exact ⟨(), (), _, rfl, ⟨rfl, rfl, rfl, rfl, trivial⟩, H, S44⟩
              · replace H := condF c46 H
                refine eB c46 ?_
                refine gF rfl rfl ?_
                refine gF rfl rfl ?_
                refine gT rfl rfl (p_pkF rfl (rfl : _ = B false) ?_)
                refine p_pkF rfl (rfl : _ = B false) ?_
                refine wp_nil ?_
                refine c_false rfl ?_
                refine c_skip ?_
                exact ⟨(), (), _, rfl, ⟨rfl, rfl, rfl, rfl, trivial⟩, H, S44⟩
          · replace H := condF c40 H
            refine eB c40 ?_
            refine gF rfl rfl ?_
            refine gF rfl rfl ?_
            refine gF rfl rfl ?_
            refine gF rfl rfl ?_
            refine gF rfl rfl ?_
            refine p_pkF rfl (rfl : _ = B false) ?_
            refine p_mB rfl ?_
            refine gT rfl rfl (p_mI rfl ?_)
            refine gT rfl rfl (p_cmp rfl rfl rfl ?_)
            refine gT rfl rfl (p_mB rfl ?_)
            rcases Bool.eq_false_or_eq_true ((r21.2 == 4)) with c48 | c48
            · replace H := condT c48 H
              refine eB c48 ?_
              refine gT rfl rfl (p_mI rfl ?_)
              refine gT rfl rfl (p_cmp rfl rfl rfl ?_)
              refine gT rfl rfl (p_pkT rfl (rfl : _ = B (r21.1 != 0)) ?_)
              refine p_pkF rfl (rfl : _ = B (r21.1 != 0)) ?_
              refine wp_nil ?_
              refine c_cond rfl (fun c49 => ?_) (fun c49 => ?_)
              · replace H := condT c49 H
                refine c_seq ?_
                refine reg ?_
                refine p_aB rfl ?_
                refine wp_nil ?_
                obtain rfl := Option.some.inj H
                refine c_ret ?_; show bodyPostM (Fr none) 0 Tryd.prog Tryd.f12 _ .ret _ _
                refine ret_of (res1 rfl (rvT (rfl : _ = B false))) ?_
                exact ⟨_, rfl, rfl, S27.keep⟩
              · replace H := condF c49 H
                refine c_skip ?_
                exact ⟨(), (), _, rfl, ⟨rfl, rfl, rfl, rfl, trivial⟩, H, S27⟩
            · replace H := condF c48 H
              refine eB c48 ?_
              refine gF rfl rfl ?_
              refine gF rfl rfl ?_
              refine gT rfl rfl (p_pkF rfl (rfl : _ = B false) ?_)
              refine p_pkF rfl (rfl : _ = B false) ?_
              refine wp_nil ?_
              refine c_false rfl ?_
              refine c_skip ?_
              exact ⟨(), (), _, rfl, ⟨rfl, rfl, rfl, rfl, trivial⟩, H, S27⟩
        · intro z_2 y_2 e40 w41 S42; obtain ⟨H, S42⟩ := S42
          unfold law_CoalLate_j6 at H
          refine c_seq ?_
          refine reg_fl mixed 4 1 (by kernel_rfl) [rv (AG ([I a0.Heap.Low, I a0.Heap.High] ++ (sgE eSpan a0.Eats 2 ++ (sg a0.Extra 3 ++ [SL A1 a0.Days.length c2, I a0.Collier.Low, I a0.Collier.High, I a0.Brings, SL A4 a0.Dips.length c5])))), rv (AG ([I a0.Heap.Low, I a0.Heap.High] ++ (sgE eSpan a0.Eats 2 ++ (sg a0.Extra 3 ++ [SL A1 a0.Days.length c2, I a0.Collier.Low, I a0.Collier.High, I a0.Brings, SL A4 a0.Dips.length c5])))), rx (α := Nat) (fun b43 => P b43 0) (fun b43 lo hi => BtwL lo hi [] (bl b43 ([I 0, I 0, I 0, I 0, I 0, I 0] ++ (sg (List.replicate 3 0) 3 ++ [SL none 0 0, I 0, I 0, I 0, SL none 0 0])) 29) ∧ True) (fun b43 => [bl b43 ([I 0, I 0, I 0, I 0, I 0, I 0] ++ (sg (List.replicate 3 0) 3 ++ [SL none 0 0, I 0, I 0, I 0, SL none 0 0])) 29]), rx (α := Nat) (fun b46 => P b46 0) (fun b46 lo hi => BtwL lo hi [] (bl b46 ([I 0, I 0, I 0, I 0, I 0, I 0] ++ (sg (List.replicate 3 0) 3 ++ [SL none 0 0, I 0, I 0, I 0, SL none 0 0])) 29) ∧ True) (fun b46 => [bl b46 ([I 0, I 0, I 0, I 0, I 0, I 0] ++ (sg (List.replicate 3 0) 3 ++ [SL none 0 0, I 0, I 0, I 0, SL none 0 0])) 29])] [[], [], [], []] rfl (by kernel_rfl) [[], [], [], [], [0, 2, 3], [0, 1, 2, 3, 4]] (by kernel_rfl) ⟨?_, ?_, ?_, ?_, trivial⟩ ?_ ?_
          · intro e_ w_ k_ hf_ hR_
            have S_ : St w_ (fun _ => False) w_ [] [bl b9 ([I a0.Heap.Low, I a0.Heap.High] ++ (sgE eSpan a0.Eats 2 ++ (sg a0.Extra 3 ++ [SL A1 a0.Days.length c2, I a0.Collier.Low, I a0.Collier.High, I a0.Brings, SL A4 a0.Dips.length c5]))) 29, rd eCoalDay 3 A1 c2 a0.Days, rd eCoalDip 3 A4 c5 a0.Dips, bl 0 [Value.func (.func 128) #[] #[], Value.func (.func 129) #[] #[]] 110, bl 1 [I (-1), I (-1)] 123] := S42.asP k_
            refine hopE [(1, P b9 0)] ⟨((hf_ 1 rfl).trans (rfl : _ = P b9 0)), trivial⟩ ?_
            refine p_ldA ty29 sz29 (S_.atP (i := 0) rfl) rfl rfl ?_
            refine wp_nil ?_
            exact ⟨_, rfl, S_.keep, rfl⟩
          · intro e_ w_ k_ hf_ hR_
            have S_ : St w_ (fun _ => False) w_ [] [bl b9 ([I a0.Heap.Low, I a0.Heap.High] ++ (sgE eSpan a0.Eats 2 ++ (sg a0.Extra 3 ++ [SL A1 a0.Days.length c2, I a0.Collier.Low, I a0.Collier.High, I a0.Brings, SL A4 a0.Dips.length c5]))) 29, rd eCoalDay 3 A1 c2 a0.Days, rd eCoalDip 3 A4 c5 a0.Dips, bl 0 [Value.func (.func 128) #[] #[], Value.func (.func 129) #[] #[]] 110, bl 1 [I (-1), I (-1)] 123] := S42.asP k_
            refine hopE [(1, P b9 0)] ⟨((hf_ 1 rfl).trans (rfl : _ = P b9 0)), trivial⟩ ?_
            refine p_ldA ty29 sz29 (S_.atP (i := 0) rfl) rfl rfl ?_
            refine wp_nil ?_
            exact ⟨_, rfl, S_.keep, rfl⟩
          · intro e_ w_ k_ hf_ hR_
            have S_ : St w_ (fun _ => False) w_ [] [bl b9 ([I a0.Heap.Low, I a0.Heap.High] ++ (sgE eSpan a0.Eats 2 ++ (sg a0.Extra 3 ++ [SL A1 a0.Days.length c2, I a0.Collier.Low, I a0.Collier.High, I a0.Brings, SL A4 a0.Dips.length c5]))) 29, rd eCoalDay 3 A1 c2 a0.Days, rd eCoalDip 3 A4 c5 a0.Dips, bl 0 [Value.func (.func 128) #[] #[], Value.func (.func 129) #[] #[]] 110, bl 1 [I (-1), I (-1)] 123] := S42.asP k_
            refine hopE [] trivial ?_
            refine p_allA in29 S_ fun b43 w44 S45 => ?_
            refine wp_nil ?_
            exact ⟨_, rfl, S45.keep, ⟨b43, rfl, ⟨BtwL.of (New.al (S45.newX (i := 0) rfl)) rfl (S45.atX (i := 0) rfl) rfl, trivial⟩, (List.forall_mem_cons.2 ⟨(S45.atX (i := 0) rfl), (fun _ h_ => (List.not_mem_nil h_).elim)⟩)⟩⟩
          · intro e_ w_ k_ hf_ hR_
            have S_ : St w_ (fun _ => False) w_ [] [bl b9 ([I a0.Heap.Low, I a0.Heap.High] ++ (sgE eSpan a0.Eats 2 ++ (sg a0.Extra 3 ++ [SL A1 a0.Days.length c2, I a0.Collier.Low, I a0.Collier.High, I a0.Brings, SL A4 a0.Dips.length c5]))) 29, rd eCoalDay 3 A1 c2 a0.Days, rd eCoalDip 3 A4 c5 a0.Dips, bl 0 [Value.func (.func 128) #[] #[], Value.func (.func 129) #[] #[]] 110, bl 1 [I (-1), I (-1)] 123] := S42.asP k_
            refine hopE [] trivial ?_
            refine p_allA in29 S_ fun b46 w47 S48 => ?_
            refine wp_nil ?_
            exact ⟨_, rfl, S48.keep, ⟨b46, rfl, ⟨BtwL.of (New.al (S48.newX (i := 0) rfl)) rfl (S48.atX (i := 0) rfl) rfl, trivial⟩, (List.forall_mem_cons.2 ⟨(S48.atX (i := 0) rfl), (fun _ h_ => (List.not_mem_nil h_).elim)⟩)⟩⟩
          · intro e49 w50 lo51 hi52 k53 hf54 hR55 hd56
            have S57 := S42.call k53
            have q58 : e49 70 = AG ([I a0.Heap.Low, I a0.Heap.High] ++ (sgE eSpan a0.Eats 2 ++ (sg a0.Extra 3 ++ [SL A1 a0.Days.length c2, I a0.Collier.Low, I a0.Collier.High, I a0.Brings, SL A4 a0.Dips.length c5]))) := (hR55 0 70 (Nat.le_of_ble_eq_true rfl) rfl).2.2.2
            have q59 : e49 71 = AG ([I a0.Heap.Low, I a0.Heap.High] ++ (sgE eSpan a0.Eats 2 ++ (sg a0.Extra 3 ++ [SL A1 a0.Days.length c2, I a0.Collier.Low, I a0.Collier.High, I a0.Brings, SL A4 a0.Dips.length c5]))) := (hR55 1 71 (Nat.le_of_ble_eq_true rfl) rfl).2.2.2
            obtain ⟨h61, h62, h63, b43, q60, h64, h65⟩ := hR55 2 8 (Nat.le_of_ble_eq_true rfl) rfl
            replace q60 : e49 8 = P b43 0 := q60
            obtain ⟨p66, _⟩ := h64
            obtain ⟨h69, h70, h71, b46, q68, h72, h73⟩ := hR55 3 9 (Nat.le_of_ble_eq_true rfl) rfl
            replace q68 : e49 9 = P b46 0 := q68
            obtain ⟨p74, _⟩ := h72
            have S76 := St.addO S57 (h65 _ (.head _)) (fun b_ h_ => (p66 b_ h_).elim (fun q_ => Nat.le_trans S42.keep.size (Nat.le_trans h61 q_.1)) (fun ⟨_, hq_, _⟩ => (List.not_mem_nil hq_).elim)) (List.forall_mem_cons.2 ⟨(fun b_ h1_ h2_ => (p66 b_ h1_).elim (fun q2_ => by have q1_ := Asr.inb _ _ _ (S42.atX (i := 0) rfl) h2_; omega) (fun ⟨_, hq_, _⟩ => (List.not_mem_nil hq_).elim)), (fun _ h_ => (List.not_mem_nil h_).elim)⟩) (List.forall_mem_cons.2 ⟨(fun b_ h1_ h2_ => (p66 b_ h1_).elim (fun q2_ => by have q1_ := Asr.inb _ _ _ (S42.atP (i := 0) rfl) h2_; omega) (fun ⟨_, hq_, _⟩ => (List.not_mem_nil hq_).elim)), (List.forall_mem_cons.2 ⟨(fun b_ h1_ h2_ => (p66 b_ h1_).elim (fun q2_ => by have q1_ := Asr.inb _ _ _ (S42.atP (i := 1) rfl) h2_; omega) (fun ⟨_, hq_, _⟩ => (List.not_mem_nil hq_).elim)), (List.forall_mem_cons.2 ⟨(fun b_ h1_ h2_ => (p66 b_ h1_).elim (fun q2_ => by have q1_ := Asr.inb _ _ _ (S42.atP (i := 2) rfl) h2_; omega) (fun ⟨_, hq_, _⟩ => (List.not_mem_nil hq_).elim)), (List.forall_mem_cons.2 ⟨(fun b_ h1_ h2_ => (p66 b_ h1_).elim (fun q2_ => by have q1_ := Asr.inb _ _ _ (S42.atP (i := 3) rfl) h2_; omega) (fun ⟨_, hq_, _⟩ => (List.not_mem_nil hq_).elim)), (fun _ h_ => (List.not_mem_nil h_).elim)⟩)⟩)⟩)⟩)
            have S77 := St.addO S76 (h73 _ (.head _)) (fun b_ h_ => (p74 b_ h_).elim (fun q_ => Nat.le_trans S42.keep.size (Nat.le_trans h69 q_.1)) (fun ⟨_, hq_, _⟩ => (List.not_mem_nil hq_).elim)) (List.forall_mem_cons.2 ⟨(fun b_ h1_ h2_ => (p74 b_ h1_).elim (fun q1_ => (p66 b_ h2_).elim (fun q2_ => by have q3_ := hd56 3 2 (Nat.le_of_ble_eq_true rfl) (Nat.le_of_ble_eq_true rfl) (by decide); omega) (fun ⟨q_, hq_, hqb_⟩ => by have q5_ := h69; have q4_ := Asr.inb _ _ _ (S42.ps q_ (((fun _ h_ => (List.not_mem_nil h_).elim)) q_ hq_)) hqb_; omega)) (fun ⟨_, hq_, _⟩ => (List.not_mem_nil hq_).elim)), (List.forall_mem_cons.2 ⟨(fun b_ h1_ h2_ => (p74 b_ h1_).elim (fun q2_ => by have q1_ := Asr.inb _ _ _ (S42.atX (i := 0) rfl) h2_; omega) (fun ⟨_, hq_, _⟩ => (List.not_mem_nil hq_).elim)), (fun _ h_ => (List.not_mem_nil h_).elim)⟩)⟩) (List.forall_mem_cons.2 ⟨(fun b_ h1_ h2_ => (p74 b_ h1_).elim (fun q2_ => by have q1_ := Asr.inb _ _ _ (S42.atP (i := 0) rfl) h2_; omega) (fun ⟨_, hq_, _⟩ => (List.not_mem_nil hq_).elim)), (List.forall_mem_cons.2 ⟨(fun b_ h1_ h2_ => (p74 b_ h1_).elim (fun q2_ => by have q1_ := Asr.inb _ _ _ (S42.atP (i := 1) rfl) h2_; omega) (fun ⟨_, hq_, _⟩ => (List.not_mem_nil hq_).elim)), (List.forall_mem_cons.2 ⟨(fun b_ h1_ h2_ => (p74 b_ h1_).elim (fun q2_ => by have q1_ := Asr.inb _ _ _ (S42.atP (i := 2) rfl) h2_; omega) (fun ⟨_, hq_, _⟩ => (List.not_mem_nil hq_).elim)), (List.forall_mem_cons.2 ⟨(fun b_ h1_ h2_ => (p74 b_ h1_).elim (fun q2_ => by have q1_ := Asr.inb _ _ _ (S42.atP (i := 3) rfl) h2_; omega) (fun ⟨_, hq_, _⟩ => (List.not_mem_nil hq_).elim)), (fun _ h_ => (List.not_mem_nil h_).elim)⟩)⟩)⟩)⟩)
            refine tailE [(1, P b9 0), (3, I r21.1), (4, I r21.2), (5, I (wr ((a0.Days.length : Int) - 1))), (8, P b43 0), (9, P b46 0), (70, AG ([I a0.Heap.Low, I a0.Heap.High] ++ (sgE eSpan a0.Eats 2 ++ (sg a0.Extra 3 ++ [SL A1 a0.Days.length c2, I a0.Collier.Low, I a0.Collier.High, I a0.Brings, SL A4 a0.Dips.length c5])))), (71, AG ([I a0.Heap.Low, I a0.Heap.High] ++ (sgE eSpan a0.Eats 2 ++ (sg a0.Extra 3 ++ [SL A1 a0.Days.length c2, I a0.Collier.Low, I a0.Collier.High, I a0.Brings, SL A4 a0.Dips.length c5]))))] ⟨((hf54 1 rfl).trans (rfl : _ = P b9 0)), ((hf54 3 rfl).trans (rfl : _ = I r21.1)), ((hf54 4 rfl).trans (rfl : _ = I r21.2)), ((hf54 5 rfl).trans (rfl : _ = I (wr ((a0.Days.length : Int) - 1)))), q60, q68, q58, q59, trivial⟩ ?_
            intro g78
            refine p_stP (pre := []) (old := [I 0, I 0, I 0, I 0, I 0, I 0] ++ (sg (List.replicate 3 0) 3 ++ [SL none 0 0, I 0, I 0, I 0, SL none 0 0])) (post := []) (vs := [I a0.Heap.Low, I a0.Heap.High] ++ (sgE eSpan a0.Eats 2 ++ (sg a0.Extra 3 ++ [SL A1 a0.Days.length c2, I a0.Collier.Low, I a0.Collier.High, I a0.Brings, SL A4 a0.Dips.length c5]))) sz29 S77 (i := 1) rfl rfl rfl rfl (rfl : _ = AG ([I a0.Heap.Low, I a0.Heap.High] ++ (sgE eSpan a0.Eats 2 ++ (sg a0.Extra 3 ++ [SL A1 a0.Days.length c2, I a0.Collier.Low, I a0.Collier.High, I a0.Brings, SL A4 a0.Dips.length c5])))) rfl rfl rfl rfl fun w79 S80 => ?_
            refine p_stP (pre := []) (old := [I 0, I 0, I 0, I 0, I 0, I 0] ++ (sg (List.replicate 3 0) 3 ++ [SL none 0 0, I 0, I 0, I 0, SL none 0 0])) (post := []) (vs := [I a0.Heap.Low, I a0.Heap.High] ++ (sgE eSpan a0.Eats 2 ++ (sg a0.Extra 3 ++ [SL A1 a0.Days.length c2, I a0.Collier.Low, I a0.Collier.High, I a0.Brings, SL A4 a0.Dips.length c5]))) sz29 S80 (i := 0) rfl rfl rfl rfl (rfl : _ = AG ([I a0.Heap.Low, I a0.Heap.High] ++ (sgE eSpan a0.Eats 2 ++ (sg a0.Extra 3 ++ [SL A1 a0.Days.length c2, I a0.Collier.Low, I a0.Collier.High, I a0.Brings, SL A4 a0.Dips.length c5])))) rfl rfl rfl rfl fun w81 S82 => ?_
            refine wp_nil ?_
            refine c_join (α := Unit) (β := Unit) (fun z_3 y_3 => [(1, P b9 0), (3, I r21.1), (4, I r21.2), (5, I (wr ((a0.Days.length : Int) - 1))), (9, P b46 0)]) (fun z_3 y_3 w_ => law_CoalLate_j3 r21 a0 z_3 = some r ∧ St w (fun _ => False) w_ [bl b46 ([I a0.Heap.Low, I a0.Heap.High] ++ (sgE eSpan a0.Eats 2 ++ (sg a0.Extra 3 ++ [SL A1 a0.Days.length c2, I a0.Collier.Low, I a0.Collier.High, I a0.Brings, SL A4 a0.Dips.length c5]))) 29, bl b9 ([I a0.Heap.Low, I a0.Heap.High] ++ (sgE eSpan a0.Eats 2 ++ (sg a0.Extra 3 ++ [SL A1 a0.Days.length c2, I a0.Collier.Low, I a0.Collier.High, I a0.Brings, SL A4 a0.Dips.length c5]))) 29] [rd eCoalDay 3 A1 c2 a0.Days, rd eCoalDip 3 A4 c5 a0.Dips, bl 0 [Value.func (.func 128) #[] #[], Value.func (.func 129) #[] #[]] 110, bl 1 [I (-1), I (-1)] 123]) ?_ ?_
            · refine c_seq ?_
              refine reg ?_
              refine p_mI rfl ?_
              refine p_cmp rfl rfl rfl ?_
              refine wp_nil ?_
              refine c_cond rfl (fun c83 => ?_) (fun c83 => ?_)
              · replace H := condT c83 H
                refine c_seq ?_
                refine reg ?_
                refine p_fld fl29_4 rfl ?_
                refine p_fld fl23_0 rfl ?_
                refine p_ld ty3 (S82.atX (i := 2) rfl) rfl rfl ?_
                refine p_mI rfl ?_
                obtain ⟨r84, h85, H⟩ := bindS H
                refine p_cv (B_Range_ok h85) fu44 rfl S82 fun w86 S87 => ?_
                refine p_fld fl29_4 rfl ?_
                refine p_stP (pre := [I a0.Heap.Low, I a0.Heap.High] ++ (sgE eSpan a0.Eats 2 ++ (sg a0.Extra 3 ++ [SL A1 a0.Days.length c2]))) (old := [I a0.Collier.Low, I a0.Collier.High]) (post := [I a0.Brings, SL A4 a0.Dips.length c5]) (vs := [I r84.Low, I r84.High]) sz23 S87 (i := 1) rfl rfl rfl rfl (rfl : _ = AG [I r84.Low, I r84.High]) rfl rfl rfl rfl fun w88 S89 => ?_
                refine wp_nil ?_
                refine c_seq ?_
                refine reg ?_
                refine p_ldA ty29 sz29 (S89.atX (i := 1) rfl) rfl rfl ?_
                refine p_mI rfl ?_
                obtain ⟨r90, h91, H⟩ := bindS H
                refine p_cv (coal_Lasts_ok h91 (S89.atP (i := 0) rfl) (S89.atP (i := 1) rfl) (S89.atP (i := 2) rfl) (S89.atP (i := 3) rfl)) fu30 rfl S89 fun w92 S93 => ?_
                refine p_mT rfl ?_
                refine p_ext rfl rfl ?_
                refine p_ext rfl rfl ?_
                refine p_aI rfl ?_
                refine p_aI rfl ?_
                refine wp_nil ?_
                refine c_seq ?_
                refine reg ?_
                refine p_mI rfl ?_
                refine p_cmp rfl rfl rfl ?_
                refine p_mB rfl ?_
                rcases Bool.eq_false_or_eq_true ((r90.2 != 62)) with c94 | c94
                · replace H := condT c94 H
                  refine eB c94 ?_
                  refine gT rfl rfl (p_mI rfl ?_)
                  refine gT rfl rfl (p_cmp rfl rfl rfl ?_)
                  refine gT rfl rfl (p_mB rfl ?_)
                  rcases Bool.eq_false_or_eq_true ((r90.2 != 0)) with c95 | c95
                  · replace H := condT c95 H
                    refine eB c95 ?_
                    refine gF rfl rfl ?_
                    refine gF rfl rfl ?_
                    refine gT rfl rfl (p_pkT rfl (rfl : _ = B true) ?_)
                    refine p_pkT rfl (rfl : _ = B true) ?_
                    refine wp_nil ?_
                    refine c_true rfl ?_
                    refine c_seq ?_
                    refine reg ?_
                    refine p_aB rfl ?_
                    refine wp_nil ?_
                    obtain rfl := Option.some.inj H
                    refine c_ret ?_; show bodyPostM (Fr none) 0 Tryd.prog Tryd.f12 _ .ret _ _
                    refine ret_of (res1 rfl (rvT (rfl : _ = B false))) ?_
                    exact ⟨_, rfl, rfl, S93.keep⟩
                  · replace H := condF c95 H
                    refine eB c95 ?_
                    refine gT rfl rfl (p_mI rfl ?_)
                    refine gT rfl rfl (p_cmp rfl rfl rfl ?_)
                    refine gT rfl rfl (p_pkF rfl (rfl : _ = B (r90.1 != 2)) ?_)
                    refine p_pkT rfl (rfl : _ = B (r90.1 != 2)) ?_
                    refine wp_nil ?_
                    refine c_cond rfl (fun c96 => ?_) (fun c96 => ?_)
                    · replace H := condT c96 H
                      refine c_seq ?_
                      refine reg ?_
                      refine p_aB rfl ?_
                      refine wp_nil ?_
                      obtain rfl := Option.some.inj H
                      refine c_ret ?_; show bodyPostM (Fr none) 0 Tryd.prog Tryd.f12 _ .ret _ _
                      refine ret_of (res1 rfl (rvT (rfl : _ = B false))) ?_
                      exact ⟨_, rfl, rfl, S93.keep⟩
                    · replace H := condF c96 H
                      refine c_skip ?_
                      have S97 := S93.pk [0, 2] (by decide) [0, 1, 2, 3] rfl rfl
                      exact ⟨(), (), _, rfl, ⟨rfl, rfl, rfl, rfl, rfl, trivial⟩, H, S97⟩
                · replace H := condF c94 H
                  refine eB c94 ?_
                  refine gF rfl rfl ?_
                  refine gF rfl rfl ?_
                  refine gF rfl rfl ?_
                  refine o_guardU rfl rfl ?_
                  refine o_guardU rfl rfl ?_
                  refine gF rfl rfl ?_
                  refine p_pkF rfl (rfl : _ = B false) ?_
                  refine wp_nil ?_
                  refine c_false rfl ?_
                  refine c_skip ?_
                  have S97 := S93.pk [0, 2] (by decide) [0, 1, 2, 3] rfl rfl
                  exact ⟨(), (), _, rfl, ⟨rfl, rfl, rfl, rfl, rfl, trivial⟩, H, S97⟩
              · replace H := condF c83 H
                refine c_skip ?_
                have S97 := S82.pk [0, 2] (by decide) [0, 1, 2, 3] rfl rfl
                exact ⟨(), (), _, rfl, ⟨rfl, rfl, rfl, rfl, rfl, trivial⟩, H, S97⟩
            · intro z_3 y_3 e83 w84 S85; obtain ⟨H, S85⟩ := S85
              unfold law_CoalLate_j3 at H
              refine c_seq ?_
              refine reg ?_
              refine p_mI rfl ?_
              refine p_add rfl rfl ?_
              refine p_aI rfl ?_
              refine wp_nil ?_
              refine c_join (α := Int) (β := Unit) (fun z_4 y_4 => [(1, P b9 0), (5, I (wr ((a0.Days.length : Int) - 1))), (9, P b46 0), (12, I z_4)]) (fun z_4 y_4 w_ => law_CoalLate_j2 a0 z_4 = some r ∧ St w (fun _ => False) w_ [bl b46 ([I a0.Heap.Low, I a0.Heap.High] ++ (sgE eSpan a0.Eats 2 ++ (sg a0.Extra 3 ++ [SL A1 a0.Days.length c2, I a0.Collier.Low, I a0.Collier.High, I a0.Brings, SL A4 a0.Dips.length c5]))) 29, bl b9 ([I a0.Heap.Low, I a0.Heap.High] ++ (sgE eSpan a0.Eats 2 ++ (sg a0.Extra 3 ++ [SL A1 a0.Days.length c2, I a0.Collier.Low, I a0.Collier.High, I a0.Brings, SL A4 a0.Dips.length c5]))) 29] [rd eCoalDay 3 A1 c2 a0.Days, rd eCoalDip 3 A4 c5 a0.Dips, bl 0 [Value.func (.func 128) #[] #[], Value.func (.func 129) #[] #[]] 110, bl 1 [I (-1), I (-1)] 123]) ?_ ?_
              · refine c_seq ?_
                refine reg ?_
                refine p_mI rfl ?_
                refine p_cmp rfl rfl rfl ?_
                refine wp_nil ?_
                refine c_cond rfl (fun c86 => ?_) (fun c86 => ?_)
                · replace H := condT c86 H
                  refine reg ?_
                  refine p_fld fl29_4 rfl ?_
                  refine p_fld fl23_0 rfl ?_
                  refine p_ld ty3 (S85.atX (i := 1) rfl) rfl rfl ?_
                  refine p_aI rfl ?_
                  refine wp_nil ?_
                  exact ⟨a0.Collier.Low, (), _, rfl, ⟨rfl, rfl, rfl, rfl, trivial⟩, H, S85⟩
                · replace H := condF c86 H
                  refine c_skip ?_
                  exact ⟨wr (r21.1 + 1), (), _, rfl, ⟨rfl, rfl, rfl, rfl, trivial⟩, H, S85⟩
              · intro z_4 y_4 e86 w87 S88; obtain ⟨H, S88⟩ := S88
                unfold law_CoalLate_j2 at H
                refine c_seq ?_
                refine c_seq ?_
                refine reg ?_
                refine p_mI rfl ?_
                refine p_fld fl29_4 rfl ?_
                refine p_fld fl23_1 rfl ?_
                refine p_ld ty3 (S88.atX (i := 1) rfl) rfl rfl ?_
                refine p_cmp rfl rfl rfl ?_
                refine wp_nil ?_
                refine c_cond rfl (fun c89 => ?_) (fun c89 => ?_)
                · replace H := condT c89 H
                  refine c_seq ?_
                  refine reg ?_
                  obtain ⟨r90, h91, H⟩ := bindS H
                  refine p_cv (law_stoked_ok h91 (S88.atP (i := 2) rfl) (S88.atP (i := 3) rfl)) fu19 rfl S88 fun w92 S93 => ?_
                  refine p_aB rfl ?_
                  refine wp_nil ?_
                  obtain rfl := Option.some.inj H
                  refine c_ret ?_; show bodyPostM (Fr none) 0 Tryd.prog Tryd.f12 _ .ret _ _
                  refine ret_of (res1 rfl (rvT (rfl : _ = B r90))) ?_
                  exact ⟨_, rfl, rfl, S93.keep⟩
                · replace H := condF c89 H
                  refine c_skip ?_
                  refine c_seq ?_
                  refine reg ?_
                  refine p_mI rfl ?_
                  obtain ⟨r94, h95, H⟩ := bindS H
                  refine p_cv (B_Point_ok h95) fu38 rfl S88 fun w96 S97 => ?_
                  refine p_fld fl29_4 rfl ?_
                  refine p_stP (pre := [I a0.Heap.Low, I a0.Heap.High] ++ (sgE eSpan a0.Eats 2 ++ (sg a0.Extra 3 ++ [SL A1 a0.Days.length c2]))) (old := [I a0.Collier.Low, I a0.Collier.High]) (post := [I a0.Brings, SL A4 a0.Dips.length c5]) (vs := [I r94.Low, I r94.High]) sz23 S97 (i := 0) rfl rfl rfl rfl (rfl : _ = AG [I r94.Low, I r94.High]) rfl rfl rfl rfl fun w98 S99 => ?_
                  refine wp_nil ?_
                  refine c_seq ?_
                  refine reg ?_
                  refine p_ldA ty29 sz29 (S99.atX (i := 0) rfl) rfl rfl ?_
                  refine p_mI rfl ?_
                  obtain ⟨r100, h101, H⟩ := bindS H
                  refine p_cv (coal_Lasts_ok h101 (S99.atP (i := 0) rfl) (S99.atP (i := 1) rfl) (S99.atP (i := 2) rfl) (S99.atP (i := 3) rfl)) fu30 rfl S99 fun w102 S103 => ?_
                  refine p_mT rfl ?_
                  refine p_ext rfl rfl ?_
                  refine p_ext rfl rfl ?_
                  refine p_aI rfl ?_
                  refine p_aI rfl ?_
                  refine wp_nil ?_
                  refine c_seq ?_
                  refine reg ?_
                  refine p_mI rfl ?_
                  refine p_cmp rfl rfl rfl ?_
                  refine p_mB rfl ?_
                  rcases Bool.eq_false_or_eq_true ((r100.2 == 0)) with c104 | c104
                  · replace H := condT c104 H
                    refine eB c104 ?_
                    refine gT rfl rfl (p_mI rfl ?_)
                    refine gT rfl rfl (p_cmp rfl rfl rfl ?_)
                    refine p_pkT rfl (rfl : _ = B (decide (r100.1 < 2))) ?_
                    refine p_mB rfl ?_
                    rcases Bool.eq_false_or_eq_true (decide (r100.1 < 2)) with c105 | c105
                    · replace H := condT c105 H
                      refine eB c105 ?_
                      obtain ⟨r106, h107, H⟩ := bindS H
                      refine gT rfl rfl (p_cv (law_stoked_ok h107 (S103.atP (i := 2) rfl) (S103.atP (i := 3) rfl)) fu19 rfl S103 fun w108 S109 => ?_)
                      refine p_pkT rfl (rfl : _ = B r106) ?_
                      refine p_aB rfl ?_
                      refine wp_nil ?_
                      obtain rfl := Option.some.inj H
                      refine c_ret ?_; show bodyPostM (Fr none) 0 Tryd.prog Tryd.f12 _ .ret _ _
                      refine ret_of (res1 rfl (rvT (rfl : _ = B r106))) ?_
                      exact ⟨_, rfl, rfl, S109.keep⟩
                    · replace H := condF c105 H
                      refine eB c105 ?_
                      refine gF rfl rfl ?_
                      refine p_pkF rfl (rfl : _ = B false) ?_
                      refine p_aB rfl ?_
                      refine wp_nil ?_
                      obtain rfl := Option.some.inj H
                      refine c_ret ?_; show bodyPostM (Fr none) 0 Tryd.prog Tryd.f12 _ .ret _ _
                      refine ret_of (res1 rfl (rvT (rfl : _ = B false))) ?_
                      exact ⟨_, rfl, rfl, S103.keep⟩
                  · replace H := condF c104 H
                    refine eB c104 ?_
                    refine gF rfl rfl ?_
                    refine gF rfl rfl ?_
                    refine p_pkF rfl (rfl : _ = B false) ?_
                    refine p_mB rfl ?_
                    refine gF rfl rfl ?_
                    refine p_pkF rfl (rfl : _ = B false) ?_
                    refine p_aB rfl ?_
                    refine wp_nil ?_
                    obtain rfl := Option.some.inj H
                    refine c_ret ?_; show bodyPostM (Fr none) 0 Tryd.prog Tryd.f12 _ .ret _ _
                    refine ret_of (res1 rfl (rvT (rfl : _ = B false))) ?_
                    exact ⟨_, rfl, rfl, S103.keep⟩
          · intro e97 w98 lo99 hi100 k101 hf102 hR103 hd104
            have S105 := S42.call k101
            have q106 : e97 70 = AG ([I a0.Heap.Low, I a0.Heap.High] ++ (sgE eSpan a0.Eats 2 ++ (sg a0.Extra 3 ++ [SL A1 a0.Days.length c2, I a0.Collier.Low, I a0.Collier.High, I a0.Brings, SL A4 a0.Dips.length c5]))) := (hR103 0 70 (Nat.le_of_ble_eq_true rfl) (by decide) rfl).2.2.2
            obtain ⟨h108, h109, h110, b43, q107, h111, h112⟩ := hR103 2 8 (Nat.le_of_ble_eq_true rfl) (by decide) rfl
            replace q107 : e97 8 = P b43 0 := q107
            obtain ⟨p113, _⟩ := h111
            obtain ⟨h116, h117, h118, b46, q115, h119, h120⟩ := hR103 3 9 (Nat.le_of_ble_eq_true rfl) (by decide) rfl
            replace q115 : e97 9 = P b46 0 := q115
            obtain ⟨p121, _⟩ := h119
            have S123 := St.addO S105 (h112 _ (.head _)) (fun b_ h_ => (p113 b_ h_).elim (fun q_ => Nat.le_trans S42.keep.size (Nat.le_trans h108 q_.1)) (fun ⟨_, hq_, _⟩ => (List.not_mem_nil hq_).elim)) (List.forall_mem_cons.2 ⟨(fun b_ h1_ h2_ => (p113 b_ h1_).elim (fun q2_ => by have q1_ := Asr.inb _ _ _ (S42.atX (i := 0) rfl) h2_; omega) (fun ⟨_, hq_, _⟩ => (List.not_mem_nil hq_).elim)), (fun _ h_ => (List.not_mem_nil h_).elim)⟩) (List.forall_mem_cons.2 ⟨(fun b_ h1_ h2_ => (p113 b_ h1_).elim (fun q2_ => by have q1_ := Asr.inb _ _ _ (S42.atP (i := 0) rfl) h2_; omega) (fun ⟨_, hq_, _⟩ => (List.not_mem_nil hq_).elim)), (List.forall_mem_cons.2 ⟨(fun b_ h1_ h2_ => (p113 b_ h1_).elim (fun q2_ => by have q1_ := Asr.inb _ _ _ (S42.atP (i := 1) rfl) h2_; omega) (fun ⟨_, hq_, _⟩ => (List.not_mem_nil hq_).elim)), (List.forall_mem_cons.2 ⟨(fun b_ h1_ h2_ => (p113 b_ h1_).elim (fun q2_ => by have q1_ := Asr.inb _ _ _ (S42.atP (i := 2) rfl) h2_; omega) (fun ⟨_, hq_, _⟩ => (List.not_mem_nil hq_).elim)), (List.forall_mem_cons.2 ⟨(fun b_ h1_ h2_ => (p113 b_ h1_).elim (fun q2_ => by have q1_ := Asr.inb _ _ _ (S42.atP (i := 3) rfl) h2_; omega) (fun ⟨_, hq_, _⟩ => (List.not_mem_nil hq_).elim)), (fun _ h_ => (List.not_mem_nil h_).elim)⟩)⟩)⟩)⟩)
            have S124 := St.addO S123 (h120 _ (.head _)) (fun b_ h_ => (p121 b_ h_).elim (fun q_ => Nat.le_trans S42.keep.size (Nat.le_trans h116 q_.1)) (fun ⟨_, hq_, _⟩ => (List.not_mem_nil hq_).elim)) (List.forall_mem_cons.2 ⟨(fun b_ h1_ h2_ => (p121 b_ h1_).elim (fun q1_ => (p113 b_ h2_).elim (fun q2_ => by have q3_ := hd104 3 2 (Nat.le_of_ble_eq_true rfl) (Nat.le_of_ble_eq_true rfl) (by decide) (by decide) (by decide); omega) (fun ⟨q_, hq_, hqb_⟩ => by have q5_ := h116; have q4_ := Asr.inb _ _ _ (S42.ps q_ (((fun _ h_ => (List.not_mem_nil h_).elim)) q_ hq_)) hqb_; omega)) (fun ⟨_, hq_, _⟩ => (List.not_mem_nil hq_).elim)), (List.forall_mem_cons.2 ⟨(fun b_ h1_ h2_ => (p121 b_ h1_).elim (fun q2_ => by have q1_ := Asr.inb _ _ _ (S42.atX (i := 0) rfl) h2_; omega) (fun ⟨_, hq_, _⟩ => (List.not_mem_nil hq_).elim)), (fun _ h_ => (List.not_mem_nil h_).elim)⟩)⟩) (List.forall_mem_cons.2 ⟨(fun b_ h1_ h2_ => (p121 b_ h1_).elim (fun q2_ => by have q1_ := Asr.inb _ _ _ (S42.atP (i := 0) rfl) h2_; omega) (fun ⟨_, hq_, _⟩ => (List.not_mem_nil hq_).elim)), (List.forall_mem_cons.2 ⟨(fun b_ h1_ h2_ => (p121 b_ h1_).elim (fun q2_ => by have q1_ := Asr.inb _ _ _ (S42.atP (i := 1) rfl) h2_; omega) (fun ⟨_, hq_, _⟩ => (List.not_mem_nil hq_).elim)), (List.forall_mem_cons.2 ⟨(fun b_ h1_ h2_ => (p121 b_ h1_).elim (fun q2_ => by have q1_ := Asr.inb _ _ _ (S42.atP (i := 2) rfl) h2_; omega) (fun ⟨_, hq_, _⟩ => (List.not_mem_nil hq_).elim)), (List.forall_mem_cons.2 ⟨(fun b_ h1_ h2_ => (p121 b_ h1_).elim (fun q2_ => by have q1_ := Asr.inb _ _ _ (S42.atP (i := 3) rfl) h2_; omega) (fun ⟨_, hq_, _⟩ => (List.not_mem_nil hq_).elim)), (fun _ h_ => (List.not_mem_nil h_).elim)⟩)⟩)⟩)⟩)
            refine tailE [(1, P b9 0), (3, I r21.1), (4, I r21.2), (5, I (wr ((a0.Days.length : Int) - 1))), (8, P b43 0), (9, P b46 0), (70, AG ([I a0.Heap.Low, I a0.Heap.High] ++ (sgE eSpan a0.Eats 2 ++ (sg a0.Extra 3 ++ [SL A1 a0.Days.length c2, I a0.Collier.Low, I a0.Collier.High, I a0.Brings, SL A4 a0.Dips.length c5]))))] ⟨((hf102 1 rfl).trans (rfl : _ = P b9 0)), ((hf102 3 rfl).trans (rfl : _ = I r21.1)), ((hf102 4 rfl).trans (rfl : _ = I r21.2)), ((hf102 5 rfl).trans (rfl : _ = I (wr ((a0.Days.length : Int) - 1)))), q107, q115, q106, trivial⟩ ?_
            intro g125
            refine p_stP (pre := []) (old := [I 0, I 0, I 0, I 0, I 0, I 0] ++ (sg (List.replicate 3 0) 3 ++ [SL none 0 0, I 0, I 0, I 0, SL none 0 0])) (post := []) (vs := [I a0.Heap.Low, I a0.Heap.High] ++ (sgE eSpan a0.Eats 2 ++ (sg a0.Extra 3 ++ [SL A1 a0.Days.length c2, I a0.Collier.Low, I a0.Collier.High, I a0.Brings, SL A4 a0.Dips.length c5]))) sz29 S124 (i := 1) rfl rfl rfl rfl (rfl : _ = AG ([I a0.Heap.Low, I a0.Heap.High] ++ (sgE eSpan a0.Eats 2 ++ (sg a0.Extra 3 ++ [SL A1 a0.Days.length c2, I a0.Collier.Low, I a0.Collier.High, I a0.Brings, SL A4 a0.Dips.length c5])))) rfl rfl rfl rfl fun w126 S127 => ?_
            refine p_ldA ty29 sz29 (S127.atX (i := 2) rfl) rfl rfl ?_
            refine p_stP (pre := []) (old := [I 0, I 0, I 0, I 0, I 0, I 0] ++ (sg (List.replicate 3 0) 3 ++ [SL none 0 0, I 0, I 0, I 0, SL none 0 0])) (post := []) (vs := [I a0.Heap.Low, I a0.Heap.High] ++ (sgE eSpan a0.Eats 2 ++ (sg a0.Extra 3 ++ [SL A1 a0.Days.length c2, I a0.Collier.Low, I a0.Collier.High, I a0.Brings, SL A4 a0.Dips.length c5]))) sz29 S127 (i := 0) rfl rfl rfl rfl (rfl : _ = AG ([I a0.Heap.Low, I a0.Heap.High] ++ (sgE eSpan a0.Eats 2 ++ (sg a0.Extra 3 ++ [SL A1 a0.Days.length c2, I a0.Collier.Low, I a0.Collier.High, I a0.Brings, SL A4 a0.Dips.length c5])))) rfl rfl rfl rfl fun w128 S129 => ?_
            refine wp_nil ?_
            refine c_join (α := Unit) (β := Unit) (fun z_3 y_3 => [(1, P b9 0), (3, I r21.1), (4, I r21.2), (5, I (wr ((a0.Days.length : Int) - 1))), (9, P b46 0)]) (fun z_3 y_3 w_ => law_CoalLate_j5 r21 a0 z_3 = some r ∧ St w (fun _ => False) w_ [bl b46 ([I a0.Heap.Low, I a0.Heap.High] ++ (sgE eSpan a0.Eats 2 ++ (sg a0.Extra 3 ++ [SL A1 a0.Days.length c2, I a0.Collier.Low, I a0.Collier.High, I a0.Brings, SL A4 a0.Dips.length c5]))) 29, bl b9 ([I a0.Heap.Low, I a0.Heap.High] ++ (sgE eSpan a0.Eats 2 ++ (sg a0.Extra 3 ++ [SL A1 a0.Days.length c2, I a0.Collier.Low, I a0.Collier.High, I a0.Brings, SL A4 a0.Dips.length c5]))) 29] [rd eCoalDay 3 A1 c2 a0.Days, rd eCoalDip 3 A4 c5 a0.Dips, bl 0 [Value.func (.func 128) #[] #[], Value.func (.func 129) #[] #[]] 110, bl 1 [I (-1), I (-1)] 123]) ?_ ?_
            · refine c_seq ?_
              refine reg ?_
              refine p_mI rfl ?_
              refine p_cmp rfl rfl rfl ?_
              refine wp_nil ?_
              refine c_cond rfl (fun c130 => ?_) (fun c130 => ?_)
              · replace H := condT c130 H
                refine c_seq ?_
                refine reg ?_
                refine p_fld fl29_4 rfl ?_
                refine p_fld fl23_0 rfl ?_
                refine p_ld ty3 (S129.atX (i := 2) rfl) rfl rfl ?_
                refine p_mI rfl ?_
                obtain ⟨r131, h132, H⟩ := bindS H
                refine p_cv (B_Range_ok h132) fu44 rfl S129 fun w133 S134 => ?_
                refine p_fld fl29_4 rfl ?_
                refine p_stP (pre := [I a0.Heap.Low, I a0.Heap.High] ++ (sgE eSpan a0.Eats 2 ++ (sg a0.Extra 3 ++ [SL A1 a0.Days.length c2]))) (old := [I a0.Collier.Low, I a0.Collier.High]) (post := [I a0.Brings, SL A4 a0.Dips.length c5]) (vs := [I r131.Low, I r131.High]) sz23 S134 (i := 1) rfl rfl rfl rfl (rfl : _ = AG [I r131.Low, I r131.High]) rfl rfl rfl rfl fun w135 S136 => ?_
                refine wp_nil ?_
                refine c_seq ?_
                refine reg ?_
                refine p_ldA ty29 sz29 (S136.atX (i := 1) rfl) rfl rfl ?_
                refine p_mI rfl ?_
                obtain ⟨r137, h138, H⟩ := bindS H
                refine p_cv (coal_Lasts_ok h138 (S136.atP (i := 0) rfl) (S136.atP (i := 1) rfl) (S136.atP (i := 2) rfl) (S136.atP (i := 3) rfl)) fu30 rfl S136 fun w139 S140 => ?_
                refine p_mT rfl ?_
                refine p_ext rfl rfl ?_
                refine p_ext rfl rfl ?_
                refine p_aI rfl ?_
                refine p_aI rfl ?_
                refine wp_nil ?_
                refine c_seq ?_
                refine reg ?_
                refine p_mI rfl ?_
                refine p_cmp rfl rfl rfl ?_
                refine p_mB rfl ?_
                rcases Bool.eq_false_or_eq_true ((r137.2 != 62)) with c141 | c141
                · replace H := condT c141 H
                  refine eB c141 ?_
                  refine gT rfl rfl (p_mI rfl ?_)
                  refine gT rfl rfl (p_cmp rfl rfl rfl ?_)
                  refine gT rfl rfl (p_mB rfl ?_)
                  rcases Bool.eq_false_or_eq_true ((r137.2 != 0)) with c142 | c142
                  · replace H := condT c142 H
                    refine eB c142 ?_
                    refine gF rfl rfl ?_
                    refine gF rfl rfl ?_
                    refine gT rfl rfl (p_pkT rfl (rfl : _ = B true) ?_)
                    refine p_pkT rfl (rfl : _ = B true) ?_
                    refine wp_nil ?_
                    refine c_true rfl ?_
                    refine c_seq ?_
                    refine reg ?_
                    refine p_aB rfl ?_
                    refine wp_nil ?_
                    obtain rfl := Option.some.inj H
                    refine c_ret ?_; show bodyPostM (Fr none) 0 Tryd.prog Tryd.f12 _ .ret _ _
                    refine ret_of (res1 rfl (rvT (rfl : _ = B false))) ?_
                    exact ⟨_, rfl, rfl, S140.keep⟩
                  · replace H := condF c142 H
                    refine eB c142 ?_
                    refine gT rfl rfl (p_mI rfl ?_)
                    refine gT rfl rfl (p_cmp rfl rfl rfl ?_)
                    refine gT rfl rfl (p_pkF rfl (rfl : _ = B (r137.1 != 2)) ?_)
                    refine p_pkT rfl (rfl : _ = B (r137.1 != 2)) ?_
                    refine wp_nil ?_
                    refine c_cond rfl (fun c143 => ?_) (fun c143 => ?_)
                    · replace H := condT c143 H
                      refine c_seq ?_
                      refine reg ?_
                      refine p_aB rfl ?_
                      refine wp_nil ?_
                      obtain rfl := Option.some.inj H
                      refine c_ret ?_; show bodyPostM (Fr none) 0 Tryd.prog Tryd.f12 _ .ret _ _
                      refine ret_of (res1 rfl (rvT (rfl : _ = B false))) ?_
                      exact ⟨_, rfl, rfl, S140.keep⟩
                    · replace H := condF c143 H
                      refine c_skip ?_
                      have S144 := S140.pk [0, 2] (by decide) [0, 1, 2, 3] rfl rfl
                      exact ⟨(), (), _, rfl, ⟨rfl, rfl, rfl, rfl, rfl, trivial⟩, H, S144⟩
                · replace H := condF c141 H
                  refine eB c141 ?_
                  refine gF rfl rfl ?_
                  refine gF rfl rfl ?_
                  refine gF rfl rfl ?_
                  refine o_guardU rfl rfl ?_
                  refine o_guardU rfl rfl ?_
                  refine gF rfl rfl ?_
                  refine p_pkF rfl (rfl : _ = B false) ?_
                  refine wp_nil ?_
                  refine c_false rfl ?_
                  refine c_skip ?_
                  have S144 := S140.pk [0, 2] (by decide) [0, 1, 2, 3] rfl rfl
                  exact ⟨(), (), _, rfl, ⟨rfl, rfl, rfl, rfl, rfl, trivial⟩, H, S144⟩
              · replace H := condF c130 H
                refine c_skip ?_
                have S144 := S129.pk [0, 2] (by decide) [0, 1, 2, 3] rfl rfl
                exact ⟨(), (), _, rfl, ⟨rfl, rfl, rfl, rfl, rfl, trivial⟩, H, S144⟩
            · intro z_3 y_3 e130 w131 S132; obtain ⟨H, S132⟩ := S132
              unfold law_CoalLate_j5 at H
              refine c_seq ?_
              refine reg ?_
              refine p_mI rfl ?_
              refine p_add rfl rfl ?_
              refine p_aI rfl ?_
              refine wp_nil ?_
              refine c_join (α := Int) (β := Unit) (fun z_4 y_4 => [(1, P b9 0), (5, I (wr ((a0.Days.length : Int) - 1))), (9, P b46 0), (12, I z_4)]) (fun z_4 y_4 w_ => law_CoalLate_j4 a0 z_4 = some r ∧ St w (fun _ => False) w_ [bl b46 ([I a0.Heap.Low, I a0.Heap.High] ++ (sgE eSpan a0.Eats 2 ++ (sg a0.Extra 3 ++ [SL A1 a0.Days.length c2, I a0.Collier.Low, I a0.Collier.High, I a0.Brings, SL A4 a0.Dips.length c5]))) 29, bl b9 ([I a0.Heap.Low, I a0.Heap.High] ++ (sgE eSpan a0.Eats 2 ++ (sg a0.Extra 3 ++ [SL A1 a0.Days.length c2, I a0.Collier.Low, I a0.Collier.High, I a0.Brings, SL A4 a0.Dips.length c5]))) 29] [rd eCoalDay 3 A1 c2 a0.Days, rd eCoalDip 3 A4 c5 a0.Dips, bl 0 [Value.func (.func 128) #[] #[], Value.func (.func 129) #[] #[]] 110, bl 1 [I (-1), I (-1)] 123]) ?_ ?_
              · refine c_seq ?_
                refine reg ?_
                refine p_mI rfl ?_
                refine p_cmp rfl rfl rfl ?_
                refine wp_nil ?_
                refine c_cond rfl (fun c133 => ?_) (fun c133 => ?_)
                · replace H := condT c133 H
                  refine reg ?_
                  refine p_fld fl29_4 rfl ?_
                  refine p_fld fl23_0 rfl ?_
                  refine p_ld ty3 (S132.atX (i := 1) rfl) rfl rfl ?_
                  refine p_aI rfl ?_
                  refine wp_nil ?_
                  exact ⟨a0.Collier.Low, (), _, rfl, ⟨rfl, rfl, rfl, rfl, trivial⟩, H, S132⟩
                · replace H := condF c133 H
                  refine c_skip ?_
                  exact ⟨wr (r21.1 + 1), (), _, rfl, ⟨rfl, rfl, rfl, rfl, trivial⟩, H, S132⟩
              · intro z_4 y_4 e133 w134 S135; obtain ⟨H, S135⟩ := S135
                unfold law_CoalLate_j4 at H
                refine c_seq ?_
                refine c_seq ?_
                refine reg ?_
                refine p_mI rfl ?_
                refine p_fld fl29_4 rfl ?_
                refine p_fld fl23_1 rfl ?_
                refine p_ld ty3 (S135.atX (i := 1) rfl) rfl rfl ?_
                refine p_cmp rfl rfl rfl ?_
                refine wp_nil ?_
                refine c_cond rfl (fun c136 => ?_) (fun c136 => ?_)
                · replace H := condT c136 H
                  refine c_seq ?_
                  refine reg ?_
                  obtain ⟨r137, h138, H⟩ := bindS H
                  refine p_cv (law_stoked_ok h138 (S135.atP (i := 2) rfl) (S135.atP (i := 3) rfl)) fu19 rfl S135 fun w139 S140 => ?_
                  refine p_aB rfl ?_
                  refine wp_nil ?_
                  obtain rfl := Option.some.inj H
                  refine c_ret ?_; show bodyPostM (Fr none) 0 Tryd.prog Tryd.f12 _ .ret _ _
                  refine ret_of (res1 rfl (rvT (rfl : _ = B r137))) ?_
                  exact ⟨_, rfl, rfl, S140.keep⟩
                · replace H := condF c136 H
                  refine c_skip ?_
                  refine c_seq ?_
                  refine reg ?_
                  refine p_mI rfl ?_
                  obtain ⟨r141, h142, H⟩ := bindS H
                  refine p_cv (B_Point_ok h142) fu38 rfl S135 fun w143 S144 => ?_
                  refine p_fld fl29_4 rfl ?_
                  refine p_stP (pre := [I a0.Heap.Low, I a0.Heap.High] ++ (sgE eSpan a0.Eats 2 ++ (sg a0.Extra 3 ++ [SL A1 a0.Days.length c2]))) (old := [I a0.Collier.Low, I a0.Collier.High]) (post := [I a0.Brings, SL A4 a0.Dips.length c5]) (vs := [I r141.Low, I r141.High]) sz23 S144 (i := 0) rfl rfl rfl rfl (rfl : _ = AG [I r141.Low, I r141.High]) rfl rfl rfl rfl fun w145 S146 => ?_
                  refine wp_nil ?_
                  refine c_seq ?_
                  refine reg ?_
                  refine p_ldA ty29 sz29 (S146.atX (i := 0) rfl) rfl rfl ?_
                  refine p_mI rfl ?_
                  obtain ⟨r147, h148, H⟩ := bindS H
                  refine p_cv (coal_Lasts_ok h148 (S146.atP (i := 0) rfl) (S146.atP (i := 1) rfl) (S146.atP (i := 2) rfl) (S146.atP (i := 3) rfl)) fu30 rfl S146 fun w149 S150 => ?_
                  refine p_mT rfl ?_
                  refine p_ext rfl rfl ?_
                  refine p_ext rfl rfl ?_
                  refine p_aI rfl ?_
                  refine p_aI rfl ?_
                  refine wp_nil ?_
                  refine c_seq ?_
                  refine reg ?_
                  refine p_mI rfl ?_
                  refine p_cmp rfl rfl rfl ?_
                  refine p_mB rfl ?_
                  rcases Bool.eq_false_or_eq_true ((r147.2 == 0)) with c151 | c151
                  · replace H := condT c151 H
                    refine eB c151 ?_
                    refine gT rfl rfl (p_mI rfl ?_)
                    refine gT rfl rfl (p_cmp rfl rfl rfl ?_)
                    refine p_pkT rfl (rfl : _ = B (decide (r147.1 < 2))) ?_
                    refine p_mB rfl ?_
                    rcases Bool.eq_false_or_eq_true (decide (r147.1 < 2)) with c152 | c152
                    · replace H := condT c152 H
                      refine eB c152 ?_
                      obtain ⟨r153, h154, H⟩ := bindS H
                      refine gT rfl rfl (p_cv (law_stoked_ok h154 (S150.atP (i := 2) rfl) (S150.atP (i := 3) rfl)) fu19 rfl S150 fun w155 S156 => ?_)
                      refine p_pkT rfl (rfl : _ = B r153) ?_
                      refine p_aB rfl ?_
                      refine wp_nil ?_
                      obtain rfl := Option.some.inj H
                      refine c_ret ?_; show bodyPostM (Fr none) 0 Tryd.prog Tryd.f12 _ .ret _ _
                      refine ret_of (res1 rfl (rvT (rfl : _ = B r153))) ?_
                      exact ⟨_, rfl, rfl, S156.keep⟩
                    · replace H := condF c152 H
                      refine eB c152 ?_
                      refine gF rfl rfl ?_
                      refine p_pkF rfl (rfl : _ = B false) ?_
                      refine p_aB rfl ?_
                      refine wp_nil ?_
                      obtain rfl := Option.some.inj H
                      refine c_ret ?_; show bodyPostM (Fr none) 0 Tryd.prog Tryd.f12 _ .ret _ _
                      refine ret_of (res1 rfl (rvT (rfl : _ = B false))) ?_
                      exact ⟨_, rfl, rfl, S150.keep⟩
                  · replace H := condF c151 H
                    refine eB c151 ?_
                    refine gF rfl rfl ?_
                    refine gF rfl rfl ?_
                    refine p_pkF rfl (rfl : _ = B false) ?_
                    refine p_mB rfl ?_
                    refine gF rfl rfl ?_
                    refine p_pkF rfl (rfl : _ = B false) ?_
                    refine p_aB rfl ?_
                    refine wp_nil ?_
                    obtain rfl := Option.some.inj H
                    refine c_ret ?_; show bodyPostM (Fr none) 0 Tryd.prog Tryd.f12 _ .ret _ _
                    refine ret_of (res1 rfl (rvT (rfl : _ = B false))) ?_
                    exact ⟨_, rfl, rfl, S150.keep⟩

end Go.Proofs.YticodohfokgjfaaDoor

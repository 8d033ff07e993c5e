/- What the functions of the program compute, and that they do, printed by a program of mine. -/
import Derived.Test.YticodohfokgjfaaDoorZWD
import Derived.KernelRfl
import Derived.Test.YticodohfokgjfaaDoorZGFxRes
import Derived.OpenShut
import Derived.RowKit
import Derived.WideKeyArgs
import Derived.ChangeOld
import Derived.LaidMore
import Derived.LaidLaws
import Derived.Deep.DeepHandedRow
import Derived.ProofKit
import Derived.Test.YticodohfokgjfaaDoorCards
import Derived.Test.YticodohfokgjfaaDoorTie
set_option linter.unusedVariables false
set_option linter.unusedSimpArgs false
namespace Go.Proofs.YticodohfokgjfaaDoor
open Go Go.Fx Go.Proofs
def B_Members_l2 (a1 : Int) (a0 : Int) (rec_z_1 : ((List Int) × Int) → Option (List Int)) (z_1 : (List Int) × Int) : Option (List Int) :=
  bif decide (z_1.2 < a1) then ((B_Member a0 z_1.2).bind fun r11 =>
  bif r11 then (need (fitsL (z_1.1.length + ([z_1.2] : List Int).length) 8) <|
  rec_z_1 (z_1.1 ++ ([z_1.2] : List Int), wr (z_1.2 + 1)))
  else (rec_z_1 (z_1.1, wr (z_1.2 + 1))))
  else (some z_1.1)

def B_Members (a0 : Int) (a1 : Int) : Option (List Int) :=
  loopF (B_Members_l2 a1 a0) big (([] : List Int), 0)

set_option maxRecDepth 100000 in
theorem B_Members_ok {a0 : Int} {a1 : Int} {w : World} {r : (List Int)} (H : B_Members a0 a1 = some r) : Calls Tryd.prog 47 #[I a0, I a1] w fun en w_ => ∃ u_, en = .returned u_ ∧ ∃ A_1 : Option Addr, ∃ c_2 : Nat, u_ = SL A_1 r.length c_2 ∧ Keep0 w w_ ∧ ((gr intE 1 3 A_1 c_2 r).ok w_ ∧ New w.heap.size (gr intE 1 3 A_1 c_2 r)) ∧ True := by
  unfold B_Members at H
  refine fn_of (n := 21) Tryd.func47 rfl rfl (Nat.le_of_ble_eq_true rfl) ?_
  have S : St w (fun _ => False) w [] [] := St.start w _ _ (fun _ h_ => (List.not_mem_nil h_).elim)
  refine c_seq ?_
  refine reg ?_
  refine p_aS rfl ?_
  refine wp_nil ?_
  refine c_seq ?_
  refine reg ?_
  refine p_bsl0 intE sc39 S fun A1 w3 S4 => ?_
  refine p_aS rfl ?_
  refine wp_nil ?_
  refine c_seq ?_
  refine c_seq ?_
  refine reg ?_
  refine p_aI rfl ?_
  refine wp_nil ?_
  refine c_block ?_
  refine c_lop (α := (List Int) × Int) (β := (Option Addr) × Nat) (B_Members_l2 a1 a0) (fun z_1 y_1 => [(0, I a0), (1, I a1), (5, SL y_1.1 z_1.1.length y_1.2), (6, I z_1.2)]) (fun z_1 y_1 w_ => St w (fun _ => False) w_ [gr intE 1 3 y_1.1 y_1.2 z_1.1] []) (([] : List Int), 0) (A1, 0) H ⟨rfl, rfl, rfl, rfl, trivial⟩ S4 ?_
  intro m6 z_1 y_1 e7 w8 H S9
  unfold B_Members_l2 at H
  refine c_seq ?_
  refine c_seq ?_
  refine reg ?_
  refine p_mI rfl ?_
  refine p_mI rfl ?_
  refine p_cmp rfl rfl rfl ?_
  refine wp_nil ?_
  refine c_cond rfl (fun c10 => ?_) (fun c10 => ?_)
  · replace H := condT c10 H
    refine c_skip ?_
    refine c_seq ?_
    refine c_block ?_
    refine c_seq ?_
    refine reg ?_
    refine p_mI rfl ?_
    refine p_mI rfl ?_
    obtain ⟨r11, h12, H⟩ := bindS H
    refine p_cv (B_Member_ok h12) fu33 rfl S9 fun w13 S14 => ?_
    refine wp_nil ?_
    refine c_cond rfl (fun c15 => ?_) (fun c15 => ?_)
    · replace H := condT c15 H
      refine reg ?_
      refine p_mS rfl ?_
      refine p_mI rfl ?_
      refine p_bsl (enc := intE) (l := ([z_1.2] : List Int)) I (fun _ => rfl) sc39 in3 intE_len rfl (by decide) (by decide) zr3_1 S14 rfl fun A16 c17 w18 S19 => ?_
      obtain ⟨h25, H⟩ := needS H
      refine p_app (enc := intE) sc39 in3 rfl intE_len intE_one (by decide) S19 (k := 1) rfl (gr_sl intE_len (S19.atX (i := 0) rfl)) h25 (by simp) rfl rfl fun A23 c24 w21 S22 => ?_
      refine p_aS rfl ?_
      refine wp_nil ?_
      refine reg ?_
      refine p_mI rfl ?_
      refine p_add rfl rfl ?_
      refine p_aI rfl ?_
      refine wp_nil ?_
      have S26 := S22.pk [1] (by decide) [] rfl rfl
      exact ⟨(z_1.1 ++ ([z_1.2] : List Int), wr (z_1.2 + 1)), (A23, c24), _, rfl, ⟨rfl, rfl, rfl, rfl, trivial⟩, H, S26⟩
    · replace H := condF c15 H
      refine c_skip ?_
      refine reg ?_
      refine p_mI rfl ?_
      refine p_add rfl rfl ?_
      refine p_aI rfl ?_
      refine wp_nil ?_
      exact ⟨(z_1.1, wr (z_1.2 + 1)), (y_1.1, y_1.2), _, rfl, ⟨rfl, rfl, rfl, rfl, trivial⟩, H, S14⟩
  · replace H := condF c10 H
    refine c_exit ?_
    refine c_seq ?_
    refine reg ?_
    refine p_mS rfl ?_
    refine p_aS rfl ?_
    refine wp_nil ?_
    obtain rfl := Option.some.inj H
    refine c_ret ?_; show bodyPostM (Fr none) 0 Tryd.prog Tryd.f47 _ .ret _ _
    refine ret_of (res1 rfl (rvT (rfl : _ = SL y_1.1 z_1.1.length y_1.2))) ?_
    exact ⟨_, rfl, y_1.1, y_1.2, rfl, S9.keep, ⟨S9.atX (i := 0) rfl, S9.newX (i := 0) rfl⟩, trivial⟩

def law_sound_l7 (a0 : CoalBook) (rec_z_8 : (Bool × Int) → Option Bool) (z_8 : Bool × Int) : Option Bool :=
  bif z_8.1 then (bif decide (z_8.2 < (a0.Dips.length : Int)) then ((getI a0.Dips z_8.2).bind fun r28 =>
  (B_Inside r28.Day 0 (wr ((a0.Days.length : Int) - 1))).bind fun r30 =>
  bif r30 then ((getI a0.Dips z_8.2).bind fun r33 =>
  (B_Inside r33.Error 0 9).bind fun r35 =>
  rec_z_8 (r35, wr (z_8.2 + 1)))
  else (rec_z_8 (false, wr (z_8.2 + 1))))
  else (some z_8.1))
  else (some z_8.1)

def law_sound_j8 (a0 : CoalBook) (z_7 : Bool) : Option Bool :=
  loopF (law_sound_l7 a0) big (z_7, 0)

def law_sound_l9 (a0 : CoalBook) (rec_z_6 : (Bool × Int) → Option Bool) (z_6 : Bool × Int) : Option Bool :=
  bif z_6.1 then (bif decide (z_6.2 < (a0.Days.length : Int)) then ((getI a0.Days z_6.2).bind fun r25 =>
  (B_Inside r25.Crosses 0 9).bind fun r32 =>
  bif r32 then ((B_Inside r25.Engines 1 3).bind fun r37 =>
  bif r37 then ((B_Inside r25.Winds 1 7).bind fun r42 =>
  rec_z_6 (r42, wr (z_6.2 + 1)))
  else (rec_z_6 (false, wr (z_6.2 + 1))))
  else (rec_z_6 (false, wr (z_6.2 + 1))))
  else (law_sound_j8 a0 z_6.1))
  else (law_sound_j8 a0 z_6.1)

def law_sound_j10 (a0 : CoalBook) (z_5 : Bool) : Option Bool :=
  loopF (law_sound_l9 a0) big (z_5, 0)

def law_sound_l11 (a0 : CoalBook) (rec_z_4 : (Bool × Int) → Option Bool) (z_4 : Bool × Int) : Option Bool :=
  bif z_4.1 then (bif decide (z_4.2 < 3) then (need (inI z_4.2 3) <|
  (B_Inside (aget a0.Extra z_4.2) 0 9).bind fun r23 =>
  rec_z_4 (r23, wr (z_4.2 + 1)))
  else (law_sound_j10 a0 z_4.1))
  else (law_sound_j10 a0 z_4.1)

def law_sound_j12 (a0 : CoalBook) (z_3 : Bool) : Option Bool :=
  loopF (law_sound_l11 a0) big (z_3, 0)

def law_sound_l13 (a0 : CoalBook) (rec_z_2 : (Bool × Int) → Option Bool) (z_2 : Bool × Int) : Option Bool :=
  bif z_2.1 then (bif decide (z_2.2 < 2) then (need (inI z_2.2 2) <|
  (B_Valid (agetS a0.Eats z_2.2) 0 9).bind fun r20 =>
  rec_z_2 (r20, wr (z_2.2 + 1)))
  else (law_sound_j12 a0 z_2.1))
  else (law_sound_j12 a0 z_2.1)

def law_sound_j14 (a0 : CoalBook) (z_1 : Bool) : Option Bool :=
  loopF (law_sound_l13 a0) big (z_1, 0)

def law_sound (a0 : CoalBook) : Option Bool :=
  (coal_Check a0).bind fun r10 =>
  bif (r10 == 0) then ((B_Valid a0.Heap 0 400).bind fun r15 =>
  bif r15 then ((B_Inside (a0.Days.length : Int) 1 6).bind fun r20 =>
  bif r20 then ((B_Valid a0.Collier 0 (a0.Days.length : Int)).bind fun r25 =>
  bif r25 then ((B_Inside a0.Brings 0 400).bind fun r30 =>
  bif r30 then (law_sound_j14 a0 (decide ((a0.Dips.length : Int) ≤ 4)))
  else (law_sound_j14 a0 false))
  else (law_sound_j14 a0 false))
  else (law_sound_j14 a0 false))
  else (law_sound_j14 a0 false))
  else (law_sound_j14 a0 false)

set_option maxRecDepth 100000 in
theorem law_sound_ok {a0 : CoalBook} {A1 : Option Addr} {c2 : Nat} {A4 : Option Addr} {c5 : Nat} {w : World} {r : Bool} (H : law_sound a0 = some r) (h3 : (rd eCoalDay 3 A1 c2 a0.Days).ok w) (h6 : (rd eCoalDip 3 A4 c5 a0.Dips).ok w) : Calls Tryd.prog 22 #[AG ([I a0.Heap.Low, I a0.Heap.High] ++ (sgE eSpan a0.Eats 2 ++ (sg a0.Extra 3 ++ [SL A1 a0.Days.length c2, I a0.Collier.Low, I a0.Collier.High, I a0.Brings, SL A4 a0.Dips.length c5])))] w (RetV w (B r)) := by
  unfold law_sound at H
  refine fn_of (n := 125) Tryd.func22 rfl rfl (Nat.le_of_ble_eq_true rfl) ?_
  have S : St w (fun _ => False) w [] [rd eCoalDay 3 A1 c2 a0.Days, rd eCoalDip 3 A4 c5 a0.Dips] := St.start w _ _ (List.forall_mem_cons.2 ⟨h3, (List.forall_mem_cons.2 ⟨h6, (fun _ h_ => (List.not_mem_nil h_).elim)⟩)⟩)
  refine c_seq ?_
  refine reg ?_
  refine p_boxA rfl S fun b7 w8 S9 => ?_
  refine p_aB rfl ?_
  refine wp_nil ?_
  refine c_join (α := Bool) (β := Unit) (fun z_1 y_1 => [(1, P b7 0), (3, B z_1)]) (fun z_1 y_1 w_ => law_sound_j14 a0 z_1 = some r ∧ St w (fun _ => False) w_ [bl b7 ([I a0.Heap.Low, I a0.Heap.High] ++ (sgE eSpan a0.Eats 2 ++ (sg a0.Extra 3 ++ [SL A1 a0.Days.length c2, I a0.Collier.Low, I a0.Collier.High, I a0.Brings, SL A4 a0.Dips.length c5]))) 29] [rd eCoalDay 3 A1 c2 a0.Days, rd eCoalDip 3 A4 c5 a0.Dips]) ?_ ?_
  · refine reg ?_
    refine p_ldA ty29 sz29 (S9.atX (i := 0) rfl) rfl rfl ?_
    obtain ⟨r10, h11, H⟩ := bindS H
    refine p_cv (coal_Check_ok h11 (S9.atP (i := 0) rfl) (S9.atP (i := 1) rfl)) fu41 rfl S9 fun w12 S13 => ?_
    refine p_cmp rfl rfl rfl ?_
    refine p_mB rfl ?_
    rcases Bool.eq_false_or_eq_true ((r10 == 0)) with c14 | c14
    · replace H := condT c14 H
      refine eB c14 ?_
      refine gT rfl rfl (p_fld fl29_0 rfl ?_)
      refine gT rfl rfl (p_ldP (vs := [I a0.Heap.Low, I a0.Heap.High]) ty23 sz23 (S13.atX (i := 0) rfl) rfl rfl rfl ?_)
      obtain ⟨r15, h16, H⟩ := bindS H
      refine gT rfl rfl (p_cv (B_Valid_ok h16) fu68 rfl S13 fun w17 S18 => ?_)
      refine p_pkT rfl (rfl : _ = B r15) ?_
      refine p_mB rfl ?_
      rcases Bool.eq_false_or_eq_true (r15) with c19 | c19
      · replace H := condT c19 H
        refine eB c19 ?_
        refine gT rfl rfl (p_fld fl29_3 rfl ?_)
        refine gT rfl rfl (p_ld ty26 (S18.atX (i := 0) rfl) rfl rfl ?_)
        refine gT rfl rfl (p_len rfl sc26 ?_)
        obtain ⟨r20, h21, H⟩ := bindS H
        refine gT rfl rfl (p_cv (B_Inside_ok h21) fu34 rfl S18 fun w22 S23 => ?_)
        refine p_pkT rfl (rfl : _ = B r20) ?_
        refine p_mB rfl ?_
        rcases Bool.eq_false_or_eq_true (r20) with c24 | c24
        · replace H := condT c24 H
          refine eB c24 ?_
          refine gT rfl rfl (p_fld fl29_4 rfl ?_)
          refine gT rfl rfl (p_ldP (vs := [I a0.Collier.Low, I a0.Collier.High]) ty23 sz23 (S23.atX (i := 0) rfl) rfl rfl rfl ?_)
          refine gT rfl rfl (p_fld fl29_3 rfl ?_)
          refine gT rfl rfl (p_ld ty26 (S23.atX (i := 0) rfl) rfl rfl ?_)
          refine gT rfl rfl (p_len rfl sc26 ?_)
          obtain ⟨r25, h26, H⟩ := bindS H
          refine gT rfl rfl (p_cv (B_Valid_ok h26) fu68 rfl S23 fun w27 S28 => ?_)
          refine p_pkT rfl (rfl : _ = B r25) ?_
          refine p_mB rfl ?_
          rcases Bool.eq_false_or_eq_true (r25) with c29 | c29
          · replace H := condT c29 H
            refine eB c29 ?_
            refine gT rfl rfl (p_fld fl29_5 rfl ?_)
            refine gT rfl rfl (p_ld ty3 (S28.atX (i := 0) rfl) rfl rfl ?_)
            obtain ⟨r30, h31, H⟩ := bindS H
            refine gT rfl rfl (p_cv (B_Inside_ok h31) fu34 rfl S28 fun w32 S33 => ?_)
            refine p_pkT rfl (rfl : _ = B r30) ?_
            refine p_mB rfl ?_
            rcases Bool.eq_false_or_eq_true (r30) with c34 | c34
            · replace H := condT c34 H
              refine eB c34 ?_
              refine gT rfl rfl (p_fld fl29_6 rfl ?_)
              refine gT rfl rfl (p_ld ty27 (S33.atX (i := 0) rfl) rfl rfl ?_)
              refine gT rfl rfl (p_len rfl sc27 ?_)
              refine gT rfl rfl (p_cmp rfl rfl rfl ?_)
              refine p_pkT rfl (rfl : _ = B (decide ((a0.Dips.length : Int) ≤ 4))) ?_
              refine p_aB rfl ?_
              refine wp_nil ?_
              exact ⟨decide ((a0.Dips.length : Int) ≤ 4), (), _, rfl, ⟨rfl, rfl, trivial⟩, H, S33⟩
            · replace H := condF c34 H
              refine eB c34 ?_
              refine gF rfl rfl ?_
              refine gF rfl rfl ?_
              refine gF rfl rfl ?_
              refine gF rfl rfl ?_
              refine p_pkF rfl (rfl : _ = B false) ?_
              refine p_aB rfl ?_
              refine wp_nil ?_
              exact ⟨false, (), _, rfl, ⟨rfl, rfl, trivial⟩, H, S33⟩
          · replace H := condF c29 H
            refine eB c29 ?_
            refine gF rfl rfl ?_
            refine gF rfl rfl ?_
            refine gF rfl rfl ?_
            refine p_pkF rfl (rfl : _ = B false) ?_
            refine p_mB rfl ?_
            refine gF rfl rfl ?_
            refine gF rfl rfl ?_
            refine gF rfl rfl ?_
            refine gF rfl rfl ?_
            refine p_pkF rfl (rfl : _ = B false) ?_
            refine p_aB rfl ?_
            refine wp_nil ?_
            exact ⟨false, (), _, rfl, ⟨rfl, rfl, trivial⟩, H, S28⟩
        · replace H := condF c24 H
          refine eB c24 ?_
          refine gF rfl rfl ?_
          refine gF rfl rfl ?_
          refine gF rfl rfl ?_
          refine gF rfl rfl ?_
          refine gF rfl rfl ?_
          refine gF rfl rfl ?_
          refine p_pkF rfl (rfl : _ = B false) ?_
          refine p_mB rfl ?_
          refine gF rfl rfl ?_
          refine gF rfl rfl ?_
          refine gF rfl rfl ?_
          refine p_pkF rfl (rfl : _ = B false) ?_
          refine p_mB rfl ?_
          refine gF rfl rfl ?_
          refine gF rfl rfl ?_
          refine gF rfl rfl ?_
          refine gF rfl rfl ?_
          refine p_pkF rfl (rfl : _ = B false) ?_
          refine p_aB rfl ?_
          refine wp_nil ?_
          exact ⟨false, (), _, rfl, ⟨rfl, rfl, trivial⟩, H, S23⟩
      · replace H := condF c19 H
        refine eB c19 ?_
        refine gF rfl rfl ?_
        refine gF rfl rfl ?_
        refine gF rfl rfl ?_
        refine gF rfl rfl ?_
        refine p_pkF rfl (rfl : _ = B false) ?_
        refine p_mB rfl ?_
        refine gF rfl rfl ?_
        refine gF rfl rfl ?_
        refine gF rfl rfl ?_
        refine gF rfl rfl ?_
        refine gF rfl rfl ?_
        refine gF rfl rfl ?_
        refine p_pkF rfl (rfl : _ = B false) ?_
        refine p_mB rfl ?_
        refine gF rfl rfl ?_
        refine gF rfl rfl ?_
        refine gF rfl rfl ?_
        refine p_pkF rfl (rfl : _ = B false) ?_
        refine p_mB rfl ?_
        refine gF rfl rfl ?_
        refine gF rfl rfl ?_
        refine gF rfl rfl ?_
        refine gF rfl rfl ?_
        refine p_pkF rfl (rfl : _ = B false) ?_
        refine p_aB rfl ?_
        refine wp_nil ?_
        exact ⟨false, (), _, rfl, ⟨rfl, rfl, trivial⟩, H, S18⟩
    · replace H := condF c14 H
      refine eB c14 ?_
      refine gF rfl rfl ?_
      refine gF rfl rfl ?_
      refine gF rfl rfl ?_
      refine p_pkF rfl (rfl : _ = B false) ?_
      refine p_mB rfl ?_
      refine gF rfl rfl ?_
      refine gF rfl rfl ?_
      refine gF rfl rfl ?_
      refine gF rfl rfl ?_
      refine p_pkF rfl (rfl : _ = B false) ?_
      refine p_mB rfl ?_
      refine gF rfl rfl ?_
      refine gF rfl rfl ?_
      refine gF rfl rfl ?_
      refine gF rfl rfl ?_
      refine gF rfl rfl ?_
      refine gF rfl rfl ?_
      refine p_pkF rfl (rfl : _ = B false) ?_
      refine p_mB rfl ?_
      refine gF rfl rfl ?_
      refine gF rfl rfl ?_
      refine gF rfl rfl ?_
      refine p_pkF rfl (rfl : _ = B false) ?_
      refine p_mB rfl ?_
      refine gF rfl rfl ?_
      refine gF rfl rfl ?_
      refine gF rfl rfl ?_
      refine gF rfl rfl ?_
      refine p_pkF rfl (rfl : _ = B false) ?_
      refine p_aB rfl ?_
      refine wp_nil ?_
      exact ⟨false, (), _, rfl, ⟨rfl, rfl, trivial⟩, H, S13⟩
  · intro z_1 y_1 e10 w11 S12; obtain ⟨H, S12⟩ := S12
    unfold law_sound_j14 at H
    refine c_join (α := Bool) (β := Unit) (fun z_3 y_3 => [(1, P b7 0), (3, B z_3)]) (fun z_3 y_3 w_ => law_sound_j12 a0 z_3 = some r ∧ St w (fun _ => False) w_ [bl b7 ([I a0.Heap.Low, I a0.Heap.High] ++ (sgE eSpan a0.Eats 2 ++ (sg a0.Extra 3 ++ [SL A1 a0.Days.length c2, I a0.Collier.Low, I a0.Collier.High, I a0.Brings, SL A4 a0.Dips.length c5]))) 29] [rd eCoalDay 3 A1 c2 a0.Days, rd eCoalDip 3 A4 c5 a0.Dips]) ?_ ?_
    · refine c_seq ?_
      refine reg ?_
      refine p_aI rfl ?_
      refine wp_nil ?_
      refine c_block ?_
      refine c_lop (α := Bool × Int) (β := Unit) (law_sound_l13 a0) (fun z_2 y_2 => [(1, P b7 0), (3, B z_2.1), (4, I z_2.2)]) (fun z_2 y_2 w_ => St w (fun _ => False) w_ [bl b7 ([I a0.Heap.Low, I a0.Heap.High] ++ (sgE eSpan a0.Eats 2 ++ (sg a0.Extra 3 ++ [SL A1 a0.Days.length c2, I a0.Collier.Low, I a0.Collier.High, I a0.Brings, SL A4 a0.Dips.length c5]))) 29] [rd eCoalDay 3 A1 c2 a0.Days, rd eCoalDip 3 A4 c5 a0.Dips]) (z_1, 0) () H ⟨rfl, rfl, rfl, trivial⟩ S12 ?_
      intro m13 z_2 y_2 e14 w15 H S16
      unfold law_sound_l13 at H
      refine c_seq ?_
      refine c_seq ?_
      refine reg ?_
      refine p_mB rfl ?_
      refine p_mB rfl ?_
      rcases Bool.eq_false_or_eq_true (z_2.1) with c17 | c17
      · replace H := condT c17 H
        refine eB c17 ?_
        refine gT rfl rfl (p_mI rfl ?_)
        refine gT rfl rfl (p_cmp rfl rfl rfl ?_)
        refine p_pkT rfl (rfl : _ = B (decide (z_2.2 < 2))) ?_
        refine wp_nil ?_
        refine c_cond rfl (fun c18 => ?_) (fun c18 => ?_)
        · replace H := condT c18 H
          refine c_skip ?_
          refine c_seq ?_
          refine c_block ?_
          refine reg ?_
          refine p_mI rfl ?_
          refine p_fld fl29_1 rfl ?_
          obtain ⟨h19, H⟩ := needS H
          refine p_ixD ar24 h19 rfl rfl ?_
          refine p_ldDA (pre := [I a0.Heap.Low, I a0.Heap.High]) (post := sg a0.Extra 3 ++ [SL A1 a0.Days.length c2, I a0.Collier.Low, I a0.Collier.High, I a0.Brings, SL A4 a0.Dips.length c5]) ty23 sz23 (S16.atX (i := 0) rfl) rfl eSpan_len h19 rfl rfl ?_
          obtain ⟨r20, h21, H⟩ := bindS H
          refine p_cv (B_Valid_ok h21) fu68 rfl S16 fun w22 S23 => ?_
          refine p_aB rfl ?_
          refine wp_nil ?_
          refine reg ?_
          refine p_mI rfl ?_
          refine p_add rfl rfl ?_
          refine p_aI rfl ?_
          refine wp_nil ?_
          exact ⟨(r20, wr (z_2.2 + 1)), (), _, rfl, ⟨rfl, rfl, rfl, trivial⟩, H, S23⟩
        · replace H := condF c18 H
          refine c_exit ?_
          exact ⟨z_2.1, (), _, rfl, ⟨rfl, rfl, trivial⟩, H, S16⟩
      · replace H := condF c17 H
        refine eB c17 ?_
        refine gF rfl rfl ?_
        refine gF rfl rfl ?_
        refine p_pkF rfl (rfl : _ = B false) ?_
        refine wp_nil ?_
        refine c_false rfl ?_
        refine c_exit ?_
        exact ⟨z_2.1, (), _, rfl, ⟨rfl, rfl, trivial⟩, H, S16⟩
    · intro z_3 y_3 e13 w14 S15; obtain ⟨H, S15⟩ := S15
      unfold law_sound_j12 at H
      refine c_join (α := Bool) (β := Unit) (fun z_5 y_5 => [(1, P b7 0), (3, B z_5)]) (fun z_5 y_5 w_ => law_sound_j10 a0 z_5 = some r ∧ St w (fun _ => False) w_ [bl b7 ([I a0.Heap.Low, I a0.Heap.High] ++ (sgE eSpan a0.Eats 2 ++ (sg a0.Extra 3 ++ [SL A1 a0.Days.length c2, I a0.Collier.Low, I a0.Collier.High, I a0.Brings, SL A4 a0.Dips.length c5]))) 29] [rd eCoalDay 3 A1 c2 a0.Days, rd eCoalDip 3 A4 c5 a0.Dips]) ?_ ?_
      · refine c_seq ?_
        refine reg ?_
        refine p_aI rfl ?_
        refine wp_nil ?_
        refine c_block ?_
        refine c_lop (α := Bool × Int) (β := Unit) (law_sound_l11 a0) (fun z_4 y_4 => [(1, P b7 0), (3, B z_4.1), (5, I z_4.2)]) (fun z_4 y_4 w_ => St w (fun _ => False) w_ [bl b7 ([I a0.Heap.Low, I a0.Heap.High] ++ (sgE eSpan a0.Eats 2 ++ (sg a0.Extra 3 ++ [SL A1 a0.Days.length c2, I a0.Collier.Low, I a0.Collier.High, I a0.Brings, SL A4 a0.Dips.length c5]))) 29] [rd eCoalDay 3 A1 c2 a0.Days, rd eCoalDip 3 A4 c5 a0.Dips]) (z_3, 0) () H ⟨rfl, rfl, rfl, trivial⟩ S15 ?_
        intro m16 z_4 y_4 e17 w18 H S19
        unfold law_sound_l11 at H
        refine c_seq ?_
        refine c_seq ?_
        refine reg ?_
        refine p_mB rfl ?_
        refine p_mB rfl ?_
        rcases Bool.eq_false_or_eq_true (z_4.1) with c20 | c20
        · replace H := condT c20 H
          refine eB c20 ?_
          refine gT rfl rfl (p_mI rfl ?_)
          refine gT rfl rfl (p_cmp rfl rfl rfl ?_)
          refine p_pkT rfl (rfl : _ = B (decide (z_4.2 < 3))) ?_
          refine wp_nil ?_
          refine c_cond rfl (fun c21 => ?_) (fun c21 => ?_)
          · replace H := condT c21 H
            refine c_skip ?_
            refine c_seq ?_
            refine c_block ?_
            refine reg ?_
            refine p_mI rfl ?_
            refine p_fld fl29_2 rfl ?_
            obtain ⟨h22, H⟩ := needS H
            refine p_ixD ar25 h22 rfl rfl ?_
            refine p_ldD (pre := [I a0.Heap.Low, I a0.Heap.High] ++ sgE eSpan a0.Eats 2) (post := [SL A1 a0.Days.length c2, I a0.Collier.Low, I a0.Collier.High, I a0.Brings, SL A4 a0.Dips.length c5]) ty3 (S19.atX (i := 0) rfl) rfl h22 rfl rfl ?_
            obtain ⟨r23, h24, H⟩ := bindS H
            refine p_cv (B_Inside_ok h24) fu34 rfl S19 fun w25 S26 => ?_
            refine p_aB rfl ?_
            refine wp_nil ?_
            refine reg ?_
            refine p_mI rfl ?_
            refine p_add rfl rfl ?_
            refine p_aI rfl ?_
            refine wp_nil ?_
            exact ⟨(r23, wr (z_4.2 + 1)), (), _, rfl, ⟨rfl, rfl, rfl, trivial⟩, H, S26⟩
          · replace H := condF c21 H
            refine c_exit ?_
            exact ⟨z_4.1, (), _, rfl, ⟨rfl, rfl, trivial⟩, H, S19⟩
        · replace H := condF c20 H
          refine eB c20 ?_
          refine gF rfl rfl ?_
          refine gF rfl rfl ?_
          refine p_pkF rfl (rfl : _ = B false) ?_
          refine wp_nil ?_
          refine c_false rfl ?_
          refine c_exit ?_
          exact ⟨z_4.1, (), _, rfl, ⟨rfl, rfl, trivial⟩, H, S19⟩
      · intro z_5 y_5 e16 w17 S18; obtain ⟨H, S18⟩ := S18
        unfold law_sound_j10 at H
        refine c_join (α := Bool) (β := Unit) (fun z_7 y_7 => [(1, P b7 0), (3, B z_7)]) (fun z_7 y_7 w_ => law_sound_j8 a0 z_7 = some r ∧ St w (fun _ => False) w_ [bl b7 ([I a0.Heap.Low, I a0.Heap.High] ++ (sgE eSpan a0.Eats 2 ++ (sg a0.Extra 3 ++ [SL A1 a0.Days.length c2, I a0.Collier.Low, I a0.Collier.High, I a0.Brings, SL A4 a0.Dips.length c5]))) 29] [rd eCoalDay 3 A1 c2 a0.Days, rd eCoalDip 3 A4 c5 a0.Dips]) ?_ ?_
        · refine c_seq ?_
          refine reg ?_
          refine p_aI rfl ?_
          refine wp_nil ?_
          refine c_block ?_
          refine c_lop (α := Bool × Int) (β := Unit) (law_sound_l9 a0) (fun z_6 y_6 => [(1, P b7 0), (3, B z_6.1), (6, I z_6.2)]) (fun z_6 y_6 w_ => St w (fun _ => False) w_ [bl b7 ([I a0.Heap.Low, I a0.Heap.High] ++ (sgE eSpan a0.Eats 2 ++ (sg a0.Extra 3 ++ [SL A1 a0.Days.length c2, I a0.Collier.Low, I a0.Collier.High, I a0.Brings, SL A4 a0.Dips.length c5]))) 29] [rd eCoalDay 3 A1 c2 a0.Days, rd eCoalDip 3 A4 c5 a0.Dips]) (z_5, 0) () H ⟨rfl, rfl, rfl, trivial⟩ S18 ?_
          intro m19 z_6 y_6 e20 w21 H S22
          unfold law_sound_l9 at H
          refine c_seq ?_
          refine c_seq ?_
          refine reg ?_
          refine p_mB rfl ?_
          refine p_mB rfl ?_
          rcases Bool.eq_false_or_eq_true (z_6.1) with c23 | c23
          · replace H := condT c23 H
            refine eB c23 ?_
            refine gT rfl rfl (p_mI rfl ?_)
            refine gT rfl rfl (p_fld fl29_3 rfl ?_)
            refine gT rfl rfl (p_ld ty26 (S22.atX (i := 0) rfl) rfl rfl ?_)
            refine gT rfl rfl (p_len rfl sc26 ?_)
            refine gT rfl rfl (p_cmp rfl rfl rfl ?_)
            refine p_pkT rfl (rfl : _ = B (decide (z_6.2 < (a0.Days.length : Int)))) ?_
            refine wp_nil ?_
            refine c_cond rfl (fun c24 => ?_) (fun c24 => ?_)
            · replace H := condT c24 H
              refine c_skip ?_
              refine c_seq ?_
              refine c_block ?_
              refine c_seq ?_
              refine reg ?_
              refine p_fld fl29_3 rfl ?_
              refine p_ld ty26 (S22.atX (i := 0) rfl) rfl rfl ?_
              refine p_mI rfl ?_
              obtain ⟨r25, h26, H⟩ := bindS H
              refine p_ixE sc26 h26 (S22.atP (i := 0) rfl).1 rfl rfl rfl ?_
              refine p_ldEA ty64 sz64 rfl h26 (S22.atP (i := 0) rfl).1 rfl ?_
              refine p_allA in64 S22 fun b27 w28 S29 => ?_
              refine p_stP (pre := []) (old := [I 0, I 0, I 0]) (post := []) (vs := [I r25.Crosses, I r25.Engines, I r25.Winds]) sz64 S29 (i := 0) rfl rfl rfl rfl (rfl : _ = AG [I r25.Crosses, I r25.Engines, I r25.Winds]) rfl rfl rfl rfl fun w30 S31 => ?_
              refine wp_nil ?_
              refine reg ?_
              refine p_fld fl64_0 rfl ?_
              refine p_ld ty3 (S31.atX (i := 0) rfl) rfl rfl ?_
              obtain ⟨r32, h33, H⟩ := bindS H
              refine p_cv (B_Inside_ok h33) fu34 rfl S31 fun w34 S35 => ?_
              refine p_mB rfl ?_
              rcases Bool.eq_false_or_eq_true (r32) with c36 | c36
              · replace H := condT c36 H
                refine eB c36 ?_
                refine gT rfl rfl (p_fld fl64_1 rfl ?_)
                refine gT rfl rfl (p_ld ty3 (S35.atX (i := 0) rfl) rfl rfl ?_)
                obtain ⟨r37, h38, H⟩ := bindS H
                refine gT rfl rfl (p_cv (B_Inside_ok h38) fu34 rfl S35 fun w39 S40 => ?_)
                refine p_pkT rfl (rfl : _ = B r37) ?_
                refine p_mB rfl ?_
                rcases Bool.eq_false_or_eq_true (r37) with c41 | c41
                · replace H := condT c41 H
                  refine eB c41 ?_
                  refine gT rfl rfl (p_fld fl64_2 rfl ?_)
                  refine gT rfl rfl (p_ld ty3 (S40.atX (i := 0) rfl) rfl rfl ?_)
                  obtain ⟨r42, h43, H⟩ := bindS H
                  refine gT rfl rfl (p_cv (B_Inside_ok h43) fu34 rfl S40 fun w44 S45 => ?_)
                  refine p_pkT rfl (rfl : _ = B r42) ?_
                  refine p_aB rfl ?_
                  refine wp_nil ?_
                  refine reg ?_
                  refine p_mI rfl ?_
                  refine p_add rfl rfl ?_
                  refine p_aI rfl ?_
                  refine wp_nil ?_
                  have S46 := S45.pk [1] (by decide) [0, 1] rfl rfl
                  exact ⟨(r42, wr (z_6.2 + 1)), (), _, rfl, ⟨rfl, rfl, rfl, trivial⟩, H, S46⟩
                · replace H := condF c41 H
                  refine eB c41 ?_
                  refine gF rfl rfl ?_
                  refine gF rfl rfl ?_
                  refine gF rfl rfl ?_
                  refine p_pkF rfl (rfl : _ = B false) ?_
                  refine p_aB rfl ?_
                  refine wp_nil ?_
                  refine reg ?_
                  refine p_mI rfl ?_
                  refine p_add rfl rfl ?_
                  refine p_aI rfl ?_
                  refine wp_nil ?_
                  have S47 := S40.pk [1] (by decide) [0, 1] rfl rfl
                  exact ⟨(false, wr (z_6.2 + 1)), (), _, rfl, ⟨rfl, rfl, rfl, trivial⟩, H, S47⟩
              · replace H := condF c36 H
                refine eB c36 ?_
                refine gF rfl rfl ?_
                refine gF rfl rfl ?_
                refine gF rfl rfl ?_
                refine p_pkF rfl (rfl : _ = B false) ?_
                refine p_mB rfl ?_
                refine gF rfl rfl ?_
                refine gF rfl rfl ?_
                refine gF rfl rfl ?_
                refine p_pkF rfl (rfl : _ = B false) ?_
                refine p_aB rfl ?_
                refine wp_nil ?_
                refine reg ?_
                refine p_mI rfl ?_
                refine p_add rfl rfl ?_
                refine p_aI rfl ?_
                refine wp_nil ?_
                have S48 := S35.pk [1] (by decide) [0, 1] rfl rfl
                exact ⟨(false, wr (z_6.2 + 1)), (), _, rfl, ⟨rfl, rfl, rfl, trivial⟩, H, S48⟩
            · replace H := condF c24 H
              refine c_exit ?_
              exact ⟨z_6.1, (), _, rfl, ⟨rfl, rfl, trivial⟩, H, S22⟩
          · replace H := condF c23 H
            refine eB c23 ?_
            refine gF rfl rfl ?_
            refine gF rfl rfl ?_
            refine gF rfl rfl ?_
            refine gF rfl rfl ?_
            refine gF rfl rfl ?_
            refine p_pkF rfl (rfl : _ = B false) ?_
            refine wp_nil ?_
            refine c_false rfl ?_
            refine c_exit ?_
            exact ⟨z_6.1, (), _, rfl, ⟨rfl, rfl, trivial⟩, H, S22⟩
        · intro z_7 y_7 e19 w20 S21; obtain ⟨H, S21⟩ := S21
          unfold law_sound_j8 at H
          refine c_seq ?_
          refine c_seq ?_
          refine reg ?_
          refine p_aI rfl ?_
          refine wp_nil ?_
          refine c_block ?_
          refine c_lop (α := Bool × Int) (β := Unit) (law_sound_l7 a0) (fun z_8 y_8 => [(1, P b7 0), (3, B z_8.1), (8, I z_8.2)]) (fun z_8 y_8 w_ => St w (fun _ => False) w_ [bl b7 ([I a0.Heap.Low, I a0.Heap.High] ++ (sgE eSpan a0.Eats 2 ++ (sg a0.Extra 3 ++ [SL A1 a0.Days.length c2, I a0.Collier.Low, I a0.Collier.High, I a0.Brings, SL A4 a0.Dips.length c5]))) 29] [rd eCoalDay 3 A1 c2 a0.Days, rd eCoalDip 3 A4 c5 a0.Dips]) (z_7, 0) () H ⟨rfl, rfl, rfl, trivial⟩ S21 ?_
          intro m22 z_8 y_8 e23 w24 H S25
          unfold law_sound_l7 at H
          refine c_seq ?_
          refine c_seq ?_
          refine reg ?_
          refine p_mB rfl ?_
          refine p_mB rfl ?_
          rcases Bool.eq_false_or_eq_true (z_8.1) with c26 | c26
          · replace H := condT c26 H
            refine eB c26 ?_
            refine gT rfl rfl (p_mI rfl ?_)
            refine gT rfl rfl (p_fld fl29_6 rfl ?_)
            refine gT rfl rfl (p_ld ty27 (S25.atX (i := 0) rfl) rfl rfl ?_)
            refine gT rfl rfl (p_len rfl sc27 ?_)
            refine gT rfl rfl (p_cmp rfl rfl rfl ?_)
            refine p_pkT rfl (rfl : _ = B (decide (z_8.2 < (a0.Dips.length : Int)))) ?_
            refine wp_nil ?_
            refine c_cond rfl (fun c27 => ?_) (fun c27 => ?_)
            · replace H := condT c27 H
              refine c_skip ?_
              refine c_seq ?_
              refine c_block ?_
              obtain ⟨r28, h29, H⟩ := bindS H
              obtain ⟨r30, h31, H⟩ := bindS H
              rcases Bool.eq_false_or_eq_true (r30) with c32 | c32
              · replace H := condT c32 H
                obtain ⟨r33, h34, H⟩ := bindS H
                obtain ⟨r35, h36, H⟩ := bindS H
                refine reg_q mixed 21 (by kernel_rfl) ?_
                refine dS (fun _ k_ => p_fld fl29_6 rfl dn) ?_
                refine dS (fun _ k_ => p_ld ty27 (Asr.stays (S25.atX (i := 0) rfl) k_) rfl rfl dn) ?_
                refine dS (fun _ k_ => p_mI rfl dn) ?_
                refine dS (fun _ k_ => p_ixE sc27 h29 (Asr.stays (S25.atP (i := 1) rfl) k_).1 rfl rfl rfl dn) ?_
                refine dS (fun _ k_ => p_fldE fl67_0 (sl_here (Asr.stays (S25.atP (i := 1) rfl) k_).1 h29) rfl dn) ?_
                refine dS (fun _ k_ => p_ldE ty3 h29 (Asr.stays (S25.atP (i := 1) rfl) k_).1 rfl rfl dn) ?_
                refine dS (fun _ k_ => p_fld fl29_3 rfl dn) ?_
                refine dS (fun _ k_ => p_ld ty26 (Asr.stays (S25.atX (i := 0) rfl) k_) rfl rfl dn) ?_
                refine dS (fun _ k_ => p_len rfl sc26 dn) ?_
                refine dS (fun _ k_ => p_sub rfl rfl dn) ?_
                refine dS (fun _ k_ => p_cvD (B_Inside_ok h31) fu34 rfl) ?_
                refine dS (fun _ k_ => p_mB rfl dn) ?_
                refine dB c32 ?_
                refine dS (fun _ k_ => gT rfl rfl (p_fld fl29_6 rfl dn)) ?_
                refine dS (fun _ k_ => gT rfl rfl (p_ld ty27 (Asr.stays (S25.atX (i := 0) rfl) k_) rfl rfl dn)) ?_
                refine dS (fun _ k_ => gT rfl rfl (p_mI rfl dn)) ?_
                refine dS (fun _ k_ => gT rfl rfl (p_ixE sc27 h34 (Asr.stays (S25.atP (i := 1) rfl) k_).1 rfl rfl rfl dn)) ?_
                refine dS (fun _ k_ => gT rfl rfl (p_fldE fl67_2 (sl_here (Asr.stays (S25.atP (i := 1) rfl) k_).1 h34) rfl dn)) ?_
                refine dS (fun _ k_ => gT rfl rfl (p_ldE ty3 h34 (Asr.stays (S25.atP (i := 1) rfl) k_).1 rfl rfl dn)) ?_
                refine dS (fun _ k_ => gT rfl rfl (p_cvD (B_Inside_ok h36) fu34 rfl)) ?_
                refine dS (fun _ k_ => p_pkT rfl (rfl : _ = B r35) dn) ?_
                refine dS (fun _ k_ => p_aB rfl dn) ?_
                intro w37 k38; have S39 := S25.call k38
                refine wp_nil ?_
                refine reg ?_
                refine p_mI rfl ?_
                refine p_add rfl rfl ?_
                refine p_aI rfl ?_
                refine wp_nil ?_
                exact ⟨(r35, wr (z_8.2 + 1)), (), _, rfl, ⟨rfl, rfl, rfl, trivial⟩, H, S39⟩
              · replace H := condF c32 H
                refine reg_q mixed 21 (by kernel_rfl) ?_
                refine dS (fun _ k_ => p_fld fl29_6 rfl dn) ?_
                refine dS (fun _ k_ => p_ld ty27 (Asr.stays (S25.atX (i := 0) rfl) k_) rfl rfl dn) ?_
                refine dS (fun _ k_ => p_mI rfl dn) ?_
                refine dS (fun _ k_ => p_ixE sc27 h29 (Asr.stays (S25.atP (i := 1) rfl) k_).1 rfl rfl rfl dn) ?_
                refine dS (fun _ k_ => p_fldE fl67_0 (sl_here (Asr.stays (S25.atP (i := 1) rfl) k_).1 h29) rfl dn) ?_
                refine dS (fun _ k_ => p_ldE ty3 h29 (Asr.stays (S25.atP (i := 1) rfl) k_).1 rfl rfl dn) ?_
                refine dS (fun _ k_ => p_fld fl29_3 rfl dn) ?_
                refine dS (fun _ k_ => p_ld ty26 (Asr.stays (S25.atX (i := 0) rfl) k_) rfl rfl dn) ?_
                refine dS (fun _ k_ => p_len rfl sc26 dn) ?_
                refine dS (fun _ k_ => p_sub rfl rfl dn) ?_
                refine dS (fun _ k_ => p_cvD (B_Inside_ok h31) fu34 rfl) ?_
                refine dS (fun _ k_ => p_mB rfl dn) ?_
                refine dB c32 ?_
                refine dS (fun _ k_ => gF rfl rfl dnU) ?_
                refine dS (fun _ k_ => gF rfl rfl dnU) ?_
                refine dS (fun _ k_ => gF rfl rfl dnU) ?_
                refine dS (fun _ k_ => gF rfl rfl dnU) ?_
                refine dS (fun _ k_ => gF rfl rfl dnU) ?_
                refine dS (fun _ k_ => gF rfl rfl dnU) ?_
                refine dS (fun _ k_ => gF rfl rfl dnU) ?_
                refine dS (fun _ k_ => p_pkF rfl (rfl : _ = B false) dn) ?_
                refine dS (fun _ k_ => p_aB rfl dn) ?_
                intro w40 k41; have S42 := S25.call k41
                refine wp_nil ?_
                refine reg ?_
                refine p_mI rfl ?_
                refine p_add rfl rfl ?_
                refine p_aI rfl ?_
                refine wp_nil ?_
                exact ⟨(false, wr (z_8.2 + 1)), (), _, rfl, ⟨rfl, rfl, rfl, trivial⟩, H, S42⟩
            · replace H := condF c27 H
              refine c_exit ?_
              refine c_seq ?_
              refine reg ?_
              refine p_mB rfl ?_
              refine p_aB rfl ?_
              refine wp_nil ?_
              obtain rfl := Option.some.inj H
              refine c_ret ?_; show bodyPostM (Fr none) 0 Tryd.prog Tryd.f22 _ .ret _ _
              refine ret_of (res1 rfl (rvT (rfl : _ = B z_8.1))) ?_
              exact ⟨_, rfl, rfl, S25.keep⟩
          · replace H := condF c26 H
            refine eB c26 ?_
            refine gF rfl rfl ?_
            refine gF rfl rfl ?_
            refine gF rfl rfl ?_
            refine gF rfl rfl ?_
            refine gF rfl rfl ?_
            refine p_pkF rfl (rfl : _ = B false) ?_
            refine wp_nil ?_
            refine c_false rfl ?_
            refine c_exit ?_
            refine c_seq ?_
            refine reg ?_
            refine p_mB rfl ?_
            refine p_aB rfl ?_
            refine wp_nil ?_
            obtain rfl := Option.some.inj H
            refine c_ret ?_; show bodyPostM (Fr none) 0 Tryd.prog Tryd.f22 _ .ret _ _
            refine ret_of (res1 rfl (rvT (rfl : _ = B z_8.1))) ?_
            exact ⟨_, rfl, rfl, S25.keep⟩

def B_Mod (a0 : Int) (a1 : Int) : Option Int :=
  bif decide (a1 ≤ 0) then (some 0)
  else (need (a1 != 0) <|
  bif decide ((modI a0 a1) < 0) then (some (wr ((modI a0 a1) + a1)))
  else (some (modI a0 a1)))

set_option maxRecDepth 100000 in
theorem B_Mod_ok {a0 : Int} {a1 : Int} {w : World} {r : Int} (H : B_Mod a0 a1 = some r) : Calls Tryd.prog 25 #[I a0, I a1] w (RetV w (I r)) := by
  unfold B_Mod at H
  refine fn_of (n := 17) Tryd.func25 rfl rfl (Nat.le_of_ble_eq_true rfl) ?_
  have S : St w (fun _ => False) w [] [] := St.start w _ _ (fun _ h_ => (List.not_mem_nil h_).elim)
  refine c_seq ?_
  refine reg ?_
  refine p_aI rfl ?_
  refine wp_nil ?_
  refine c_seq ?_
  refine c_seq ?_
  refine reg ?_
  refine p_mI rfl ?_
  refine p_cmp rfl rfl rfl ?_
  refine wp_nil ?_
  refine c_cond rfl (fun c1 => ?_) (fun c1 => ?_)
  · replace H := condT c1 H
    refine c_seq ?_
    refine reg ?_
    refine p_aI rfl ?_
    refine wp_nil ?_
    obtain rfl := Option.some.inj H
    refine c_ret ?_; show bodyPostM (Fr none) 0 Tryd.prog Tryd.f25 _ .ret _ _
    refine ret_of (res1 rfl (rvT (rfl : _ = I 0))) ?_
    exact ⟨_, rfl, rfl, S.keep⟩
  · replace H := condF c1 H
    refine c_skip ?_
    refine c_seq ?_
    refine reg ?_
    refine p_mI rfl ?_
    refine p_mI rfl ?_
    obtain ⟨h2, H⟩ := needS H
    refine p_rem h2 rfl rfl ?_
    refine p_aI rfl ?_
    refine wp_nil ?_
    refine c_seq ?_
    refine c_seq ?_
    refine reg ?_
    refine p_mI rfl ?_
    refine p_cmp rfl rfl rfl ?_
    refine wp_nil ?_
    refine c_cond rfl (fun c3 => ?_) (fun c3 => ?_)
    · replace H := condT c3 H
      refine c_seq ?_
      refine reg ?_
      refine p_mI rfl ?_
      refine p_mI rfl ?_
      refine p_add rfl rfl ?_
      refine p_aI rfl ?_
      refine wp_nil ?_
      obtain rfl := Option.some.inj H
      refine c_ret ?_; show bodyPostM (Fr none) 0 Tryd.prog Tryd.f25 _ .ret _ _
      refine ret_of (res1 rfl (rvT (rfl : _ = I (wr ((modI a0 a1) + a1))))) ?_
      exact ⟨_, rfl, rfl, S.keep⟩
    · replace H := condF c3 H
      refine c_skip ?_
      refine c_seq ?_
      refine reg ?_
      refine p_mI rfl ?_
      refine p_aI rfl ?_
      refine wp_nil ?_
      obtain rfl := Option.some.inj H
      refine c_ret ?_; show bodyPostM (Fr none) 0 Tryd.prog Tryd.f25 _ .ret _ _
      refine ret_of (res1 rfl (rvT (rfl : _ = I (modI a0 a1)))) ?_
      exact ⟨_, rfl, rfl, S.keep⟩

def B_Within (a0 : Span) (a1 : Int) : Option Int :=
  (B_Mod a1 (wr ((wr (a0.High - a0.Low)) + 1))).bind fun r4 =>
  some (wr (a0.Low + r4))

set_option maxRecDepth 100000 in
theorem B_Within_ok {a0 : Span} {a1 : Int} {w : World} {r : Int} (H : B_Within a0 a1 = some r) : Calls Tryd.prog 69 #[AG [I a0.Low, I a0.High], I a1] w (RetV w (I r)) := by
  unfold B_Within at H
  refine fn_of (n := 16) Tryd.func69 rfl rfl (Nat.le_of_ble_eq_true rfl) ?_
  have S : St w (fun _ => False) w [] [] := St.start w _ _ (fun _ h_ => (List.not_mem_nil h_).elim)
  refine c_seq ?_
  refine reg ?_
  refine p_boxA rfl S fun b1 w2 S3 => ?_
  refine p_aI rfl ?_
  refine wp_nil ?_
  refine c_seq ?_
  obtain ⟨r4, h5, H⟩ := bindS H
  refine reg_q mixed 12 (by kernel_rfl) ?_
  refine dS (fun _ k_ => p_fld fl23_0 rfl dn) ?_
  refine dS (fun _ k_ => p_ld ty3 (Asr.stays (S3.atX (i := 0) rfl) k_) rfl rfl dn) ?_
  refine dS (fun _ k_ => p_mI rfl dn) ?_
  refine dS (fun _ k_ => p_fld fl23_1 rfl dn) ?_
  refine dS (fun _ k_ => p_ld ty3 (Asr.stays (S3.atX (i := 0) rfl) k_) rfl rfl dn) ?_
  refine dS (fun _ k_ => p_fld fl23_0 rfl dn) ?_
  refine dS (fun _ k_ => p_ld ty3 (Asr.stays (S3.atX (i := 0) rfl) k_) rfl rfl dn) ?_
  refine dS (fun _ k_ => p_sub rfl rfl dn) ?_
  refine dS (fun _ k_ => p_add rfl rfl dn) ?_
  refine dS (fun _ k_ => p_cvD (B_Mod_ok h5) fu25 rfl) ?_
  refine dS (fun _ k_ => p_add rfl rfl dn) ?_
  refine dS (fun _ k_ => p_aI rfl dn) ?_
  intro w6 k7; have S8 := S3.call k7
  refine wp_nil ?_
  obtain rfl := Option.some.inj H
  refine c_ret ?_; show bodyPostM (Fr none) 0 Tryd.prog Tryd.f69 _ .ret _ _
  refine ret_of (res1 rfl (rvT (rfl : _ = I (wr (a0.Low + r4))))) ?_
  exact ⟨_, rfl, rfl, S8.keep⟩

def B_Choose (a0 : List Int) (a1 : Int) : Option Int :=
  bif ((a0.length : Int) == 0) then (some 0)
  else ((B_Mod a1 (a0.length : Int)).bind fun r5 =>
  (getI a0 r5).bind fun r9 =>
  some r9)

set_option maxRecDepth 100000 in
theorem B_Choose_ok {a0 : List Int} {a1 : Int} {A1 : Option Addr} {c2 : Nat} {w : World} {r : Int} (H : B_Choose a0 a1 = some r) (h3 : (rd intE 1 A1 c2 a0).ok w) : Calls Tryd.prog 70 #[SL A1 a0.length c2, I a1] w (RetV w (I r)) := by
  unfold B_Choose at H
  refine fn_of (n := 15) Tryd.func70 rfl rfl (Nat.le_of_ble_eq_true rfl) ?_
  have S : St w (fun _ => False) w [] [rd intE 1 A1 c2 a0] := St.start w _ _ (List.forall_mem_cons.2 ⟨h3, (fun _ h_ => (List.not_mem_nil h_).elim)⟩)
  refine c_seq ?_
  refine reg ?_
  refine p_aI rfl ?_
  refine wp_nil ?_
  refine c_seq ?_
  refine c_seq ?_
  refine reg ?_
  refine p_mS rfl ?_
  refine p_len rfl sc39 ?_
  refine p_cmp rfl rfl rfl ?_
  refine wp_nil ?_
  refine c_cond rfl (fun c4 => ?_) (fun c4 => ?_)
  · replace H := condT c4 H
    refine c_seq ?_
    refine reg ?_
    refine p_aI rfl ?_
    refine wp_nil ?_
    obtain rfl := Option.some.inj H
    refine c_ret ?_; show bodyPostM (Fr none) 0 Tryd.prog Tryd.f70 _ .ret _ _
    refine ret_of (res1 rfl (rvT (rfl : _ = I 0))) ?_
    exact ⟨_, rfl, rfl, S.keep⟩
  · replace H := condF c4 H
    refine c_skip ?_
    refine c_seq ?_
    refine reg ?_
    refine p_mS rfl ?_
    refine p_mI rfl ?_
    refine p_mS rfl ?_
    refine p_len rfl sc39 ?_
    obtain ⟨r5, h6, H⟩ := bindS H
    refine p_cv (B_Mod_ok h6) fu25 rfl S fun w7 S8 => ?_
    obtain ⟨r9, h10, H⟩ := bindS H
    refine p_ixE sc39 h10 (S8.atP (i := 0) rfl).1 rfl rfl rfl ?_
    refine p_ldE ty3 h10 (S8.atP (i := 0) rfl).1 rfl rfl ?_
    refine p_aI rfl ?_
    refine wp_nil ?_
    obtain rfl := Option.some.inj H
    refine c_ret ?_; show bodyPostM (Fr none) 0 Tryd.prog Tryd.f70 _ .ret _ _
    refine ret_of (res1 rfl (rvT (rfl : _ = I r9))) ?_
    exact ⟨_, rfl, rfl, S8.keep⟩

structure Law06_known where
  eats_ : List Int
  winds_ : List Int
  coal_ : List Int
  deriving DecidableEq, Inhabited

def law_truly_j17 (z_1 : Int × Int × (List Int) × (List Int)) (r76 : Int) (z_3 : Int) (r55 : CoalDay) (rec_z_1 : (Int × Int × (List Int) × (List Int)) → Option Law06_known) (z_4 : Int) : Option Law06_known :=
  need (fitsL (z_1.2.2.1.length + ([r76] : List Int).length) 8) <|
  need (fitsL (z_1.2.2.2.length + ([wr (z_4 - (wr (z_3 * r55.Crosses)))] : List Int).length) 8) <|
  rec_z_1 (wr (z_4 - (wr (z_3 * r55.Crosses))), wr (z_1.2.1 + 1), z_1.2.2.1 ++ ([r76] : List Int), z_1.2.2.2 ++ ([wr (z_4 - (wr (z_3 * r55.Crosses)))] : List Int))

def law_truly_j18 (r42 : Int) (z_1 : Int × Int × (List Int) × (List Int)) (r76 : Int) (r55 : CoalDay) (rec_z_1 : (Int × Int × (List Int) × (List Int)) → Option Law06_known) (a0 : CoalBook) (z_3 : Int) : Option Law06_known :=
  bif (r42 == z_1.2.1) then (law_truly_j17 z_1 r76 z_3 r55 rec_z_1 (wr (z_1.1 + a0.Brings)))
  else (law_truly_j17 z_1 r76 z_3 r55 rec_z_1 z_1.1)

def law_truly_j19 (r55 : CoalDay) (r42 : Int) (z_1 : Int × Int × (List Int) × (List Int)) (r76 : Int) (rec_z_1 : (Int × Int × (List Int) × (List Int)) → Option Law06_known) (a0 : CoalBook) (r22 : Int) (z_2 : Int) : Option Law06_known :=
  (B_Member r55.Engines 1).bind fun r84 =>
  bif r84 then (law_truly_j18 r42 z_1 r76 r55 rec_z_1 a0 (wr (z_2 + r22)))
  else (law_truly_j18 r42 z_1 r76 r55 rec_z_1 a0 z_2)

def law_truly_l20 (a0 : CoalBook) (a1 : List Int) (r42 : Int) (r22 : Int) (r18 : Int) (rec_z_1 : (Int × Int × (List Int) × (List Int)) → Option Law06_known) (z_1 : Int × Int × (List Int) × (List Int)) : Option Law06_known :=
  bif decide (z_1.2.1 < (a0.Days.length : Int)) then ((getI a0.Days z_1.2.1).bind fun r55 =>
  (B_Members r55.Winds 3).bind fun r62 =>
  (B_Choose a1 z_1.2.1).bind fun r72 =>
  (B_Choose r62 (wr (r72 + z_1.2.1))).bind fun r76 =>
  need (inI r76 3) <|
  (B_Member r55.Engines 0).bind fun r81 =>
  bif r81 then (law_truly_j19 r55 r42 z_1 r76 rec_z_1 a0 r22 (wr ((aget a0.Extra r76) + r18)))
  else (law_truly_j19 r55 r42 z_1 r76 rec_z_1 a0 r22 (aget a0.Extra r76)))
  else (some (Law06_known.mk [r18, r22] z_1.2.2.1 z_1.2.2.2))

def law_truly (a0 : CoalBook) (a1 : List Int) : Option Law06_known :=
  (B_Choose a1 0).bind fun r16 =>
  (B_Within (agetS a0.Eats (0 : Int)) r16).bind fun r18 =>
  (B_Choose a1 1).bind fun r20 =>
  (B_Within (agetS a0.Eats (1 : Int)) r20).bind fun r22 =>
  (B_Choose a1 2).bind fun r36 =>
  (B_Within a0.Heap r36).bind fun r38 =>
  (B_Choose a1 3).bind fun r40 =>
  (B_Within a0.Collier r40).bind fun r42 =>
  loopF (law_truly_l20 a0 a1 r42 r22 r18) big (r38, 0, ([] : List Int), ([] : List Int))

set_option maxRecDepth 100000 in
theorem law_truly_ok {a0 : CoalBook} {a1 : List Int} {A1 : Option Addr} {c2 : Nat} {A4 : Option Addr} {c5 : Nat} {A7 : Option Addr} {c8 : Nat} {w : World} {r : Law06_known} (H : law_truly a0 a1 = some r) (h3 : (rd eCoalDay 3 A1 c2 a0.Days).ok w) (h6 : (rd eCoalDip 3 A4 c5 a0.Dips).ok w) (h9 : (rd intE 1 A7 c8 a1).ok w) : Calls Tryd.prog 23 #[AG ([I a0.Heap.Low, I a0.Heap.High] ++ (sgE eSpan a0.Eats 2 ++ (sg a0.Extra 3 ++ [SL A1 a0.Days.length c2, I a0.Collier.Low, I a0.Collier.High, I a0.Brings, SL A4 a0.Dips.length c5]))), SL A7 a1.length c8] w fun en w_ => ∃ u_, en = .returned u_ ∧ ∃ A_1 : Option Addr, ∃ c_2 : Nat, ∃ A_3 : Option Addr, ∃ c_4 : Nat, u_ = AG (sg r.eats_ 2 ++ [SL A_1 r.winds_.length c_2, SL A_3 r.coal_.length c_4]) ∧ Keep0 w w_ ∧ ((rd intE 1 A_1 c_2 r.winds_).ok w_ ∧ New w.heap.size (rd intE 1 A_1 c_2 r.winds_)) ∧ ((rd intE 1 A_3 c_4 r.coal_).ok w_ ∧ New w.heap.size (rd intE 1 A_3 c_4 r.coal_)) ∧ True := by
  unfold law_truly at H
  refine fn_of (n := 103) Tryd.func23 rfl rfl (Nat.le_of_ble_eq_true rfl) ?_
  have S : St w (fun _ => False) w [] [rd eCoalDay 3 A1 c2 a0.Days, rd eCoalDip 3 A4 c5 a0.Dips, rd intE 1 A7 c8 a1] := St.start w _ _ (List.forall_mem_cons.2 ⟨h3, (List.forall_mem_cons.2 ⟨h6, (List.forall_mem_cons.2 ⟨h9, (fun _ h_ => (List.not_mem_nil h_).elim)⟩)⟩)⟩)
  refine c_seq ?_
  refine reg ?_
  refine p_boxA rfl S fun b10 w11 S12 => ?_
  refine p_allA in41 S12 fun b13 w14 S15 => ?_
  refine wp_nil ?_
  refine c_seq ?_
  obtain ⟨r16, h17, H⟩ := bindS H
  obtain ⟨r18, h19, H⟩ := bindS H
  obtain ⟨r20, h21, H⟩ := bindS H
  obtain ⟨r22, h23, H⟩ := bindS H
  refine reg_c mixed 15 [14] (by kernel_rfl) ?_
  refine kS rfl (fun _ k_ => p_fld fl29_1 rfl dn) ?_
  refine kS rfl (fun _ k_ => p_ixc ar24 rfl rfl (by decide) (by decide) dn) ?_
  refine kS rfl (fun _ k_ => p_ldP (vs := [I ((agetS a0.Eats (0 : Int)).Low), I ((agetS a0.Eats (0 : Int)).High)]) ty23 sz23 (Asr.stays (S15.atX (i := 1) rfl) k_) rfl rfl rfl dn) ?_
  refine kS rfl (fun _ k_ => p_mS rfl dn) ?_
  refine kS rfl (fun _ k_ => p_cvD (B_Choose_ok h17 (Asr.stays (S15.atP (i := 2) rfl) k_)) fu70 rfl) ?_
  refine kS rfl (fun _ k_ => p_cvD (B_Within_ok h19) fu69 rfl) ?_
  refine kS rfl (fun _ k_ => p_fld fl29_1 rfl dn) ?_
  refine kS rfl (fun _ k_ => p_ixc ar24 rfl rfl (by decide) (by decide) dn) ?_
  refine kS rfl (fun _ k_ => p_ldP (vs := [I ((agetS a0.Eats (1 : Int)).Low), I ((agetS a0.Eats (1 : Int)).High)]) ty23 sz23 (Asr.stays (S15.atX (i := 1) rfl) k_) rfl rfl rfl dn) ?_
  refine kS rfl (fun _ k_ => p_mS rfl dn) ?_
  refine kS rfl (fun _ k_ => p_cvD (B_Choose_ok h21 (Asr.stays (S15.atP (i := 2) rfl) k_)) fu70 rfl) ?_
  refine kS rfl (fun _ k_ => p_cvD (B_Within_ok h23) fu69 rfl) ?_
  refine kS rfl (fun _ k_ => p_bldA (z := [I 0, I 0]) (cs := [I r18, I r22]) ba30 (rfl : _ = [(0, I r18), (1, I r22)]) (by kernel_rfl) dn) ?_
  refine kS rfl (fun _ k_ => p_bld (cs := [I r18, I r22, SL none 0 0, SL none 0 0]) st41 (rfl : _ = [(0, AG [I r18, I r22])]) (by kernel_rfl) dn) ?_
  refine kC rfl ?_
  intro w24 k25; have S26 := S15.call k25
  have S30 := S26.base
  refine p_allA in41 S30 fun b27 w28 S29 => ?_
  refine cN S29.keep fun w31 k32 => ?_
  have S33 := (S26.fromBase S29).call k32
  refine p_stP (pre := []) (old := sg (List.replicate 2 0) 2 ++ [SL none 0 0, SL none 0 0]) (post := []) (vs := [I r18, I r22, SL none 0 0, SL none 0 0]) sz41 S33 (i := 0) rfl rfl rfl rfl (rfl : _ = AG [I r18, I r22, SL none 0 0, SL none 0 0]) rfl rfl rfl rfl fun w34 S35 => ?_
  refine wp_nil ?_
  refine c_seq ?_
  obtain ⟨r36, h37, H⟩ := bindS H
  obtain ⟨r38, h39, H⟩ := bindS H
  obtain ⟨r40, h41, H⟩ := bindS H
  obtain ⟨r42, h43, H⟩ := bindS H
  refine reg_q mixed 12 (by kernel_rfl) ?_
  refine dS (fun _ k_ => p_fld fl29_0 rfl dn) ?_
  refine dS (fun _ k_ => p_ldP (vs := [I a0.Heap.Low, I a0.Heap.High]) ty23 sz23 (Asr.stays (S35.atX (i := 2) rfl) k_) rfl rfl rfl dn) ?_
  refine dS (fun _ k_ => p_mS rfl dn) ?_
  refine dS (fun _ k_ => p_cvD (B_Choose_ok h37 (Asr.stays (S35.atP (i := 2) rfl) k_)) fu70 rfl) ?_
  refine dS (fun _ k_ => p_cvD (B_Within_ok h39) fu69 rfl) ?_
  refine dS (fun _ k_ => p_fld fl29_4 rfl dn) ?_
  refine dS (fun _ k_ => p_ldP (vs := [I a0.Collier.Low, I a0.Collier.High]) ty23 sz23 (Asr.stays (S35.atX (i := 2) rfl) k_) rfl rfl rfl dn) ?_
  refine dS (fun _ k_ => p_mS rfl dn) ?_
  refine dS (fun _ k_ => p_cvD (B_Choose_ok h41 (Asr.stays (S35.atP (i := 2) rfl) k_)) fu70 rfl) ?_
  refine dS (fun _ k_ => p_cvD (B_Within_ok h43) fu69 rfl) ?_
  refine dS (fun _ k_ => p_aI rfl dn) ?_
  refine dS (fun _ k_ => p_aI rfl dn) ?_
  intro w44 k45; have S46 := S35.call k45
  refine wp_nil ?_
  refine c_seq ?_
  refine c_seq ?_
  refine reg ?_
  refine p_aI rfl ?_
  refine wp_nil ?_
  refine c_block ?_
  have S47 := S46.nilRow intE 1 3
  have S48 := S47.nilRow intE 1 3
  have S49 := S48.pk [1, 0, 2, 3, 4] (by decide) [0, 1, 2] rfl rfl
  refine c_lop (α := Int × Int × (List Int) × (List Int)) (β := (Option Addr) × Nat × (Option Addr) × Nat) (law_truly_l20 a0 a1 r42 r22 r18) (fun z_1 y_1 => [(1, SL A7 a1.length c8), (2, P b10 0), (4, P b13 0), (5, P b27 0), (6, I z_1.1), (7, I r42), (8, I z_1.2.1)]) (fun z_1 y_1 w_ => St w (fun _ => False) w_ [gr intE 1 3 y_1.1 y_1.2.1 z_1.2.2.1, gr intE 1 3 y_1.2.2.1 y_1.2.2.2 z_1.2.2.2, bl b27 [I r18, I r22, SL y_1.1 z_1.2.2.1.length y_1.2.1, SL y_1.2.2.1 z_1.2.2.2.length y_1.2.2.2] 41, bl b13 (sg (List.replicate 2 0) 2 ++ [SL none 0 0, SL none 0 0]) 41, bl b10 ([I a0.Heap.Low, I a0.Heap.High] ++ (sgE eSpan a0.Eats 2 ++ (sg a0.Extra 3 ++ [SL A1 a0.Days.length c2, I a0.Collier.Low, I a0.Collier.High, I a0.Brings, SL A4 a0.Dips.length c5]))) 29] [rd eCoalDay 3 A1 c2 a0.Days, rd eCoalDip 3 A4 c5 a0.Dips, rd intE 1 A7 c8 a1]) (r38, 0, ([] : List Int), ([] : List Int)) (none, 0, none, 0) H ⟨rfl, rfl, rfl, rfl, rfl, rfl, rfl, trivial⟩ S49 ?_
  intro m50 z_1 y_1 e51 w52 H S53
  unfold law_truly_l20 at H
  refine c_seq ?_
  refine c_seq ?_
  refine reg ?_
  refine p_mI rfl ?_
  refine p_fld fl29_3 rfl ?_
  refine p_ld ty26 (S53.atX (i := 4) rfl) rfl rfl ?_
  refine p_len rfl sc26 ?_
  refine p_cmp rfl rfl rfl ?_
  refine wp_nil ?_
  refine c_cond rfl (fun c54 => ?_) (fun c54 => ?_)
  · replace H := condT c54 H
    refine c_skip ?_
    refine c_seq ?_
    refine c_block ?_
    refine c_seq ?_
    refine reg ?_
    refine p_fld fl29_3 rfl ?_
    refine p_ld ty26 (S53.atX (i := 4) rfl) rfl rfl ?_
    refine p_mI rfl ?_
    obtain ⟨r55, h56, H⟩ := bindS H
    refine p_ixE sc26 h56 (S53.atP (i := 0) rfl).1 rfl rfl rfl ?_
    refine p_ldEA ty64 sz64 rfl h56 (S53.atP (i := 0) rfl).1 rfl ?_
    refine p_allA in64 S53 fun b57 w58 S59 => ?_
    refine p_stP (pre := []) (old := [I 0, I 0, I 0]) (post := []) (vs := [I r55.Crosses, I r55.Engines, I r55.Winds]) sz64 S59 (i := 0) rfl rfl rfl rfl (rfl : _ = AG [I r55.Crosses, I r55.Engines, I r55.Winds]) rfl rfl rfl rfl fun w60 S61 => ?_
    refine wp_nil ?_
    refine c_seq ?_
    refine reg ?_
    refine p_fld fl64_2 rfl ?_
    refine p_ld ty3 (S61.atX (i := 0) rfl) rfl rfl ?_
    obtain ⟨r62, h63, H⟩ := bindS H
    refine p_cal (B_Members_ok h63) fu47 rfl ?_
    rintro _ w64 ⟨A66, c67, rfl, k65, ⟨o68, n69⟩, _⟩
    have S71 := S61.addNew k65 o68 n69
    refine p_mS rfl ?_
    refine p_mI rfl ?_
    obtain ⟨r72, h73, H⟩ := bindS H
    refine p_cv (B_Choose_ok h73 (S71.atP (i := 2) rfl)) fu70 rfl S71 fun w74 S75 => ?_
    refine p_mI rfl ?_
    refine p_add rfl rfl ?_
    obtain ⟨r76, h77, H⟩ := bindS H
    refine p_cv (B_Choose_ok h77 (gr_rd intE_len (S75.atX (i := 0) rfl))) fu70 rfl S75 fun w78 S79 => ?_
    refine p_aI rfl ?_
    refine wp_nil ?_
    refine c_seq ?_
    refine reg ?_
    refine p_mI rfl ?_
    refine p_fld fl29_2 rfl ?_
    obtain ⟨h80, H⟩ := needS H
    refine p_ixD ar25 h80 rfl rfl ?_
    refine p_ldD (pre := [I a0.Heap.Low, I a0.Heap.High] ++ sgE eSpan a0.Eats 2) (post := [SL A1 a0.Days.length c2, I a0.Collier.Low, I a0.Collier.High, I a0.Brings, SL A4 a0.Dips.length c5]) ty3 (S79.atX (i := 6) rfl) rfl h80 rfl rfl ?_
    refine p_aI rfl ?_
    refine wp_nil ?_
    refine c_join (α := Int) (β := Unit) (fun z_2 y_2 => [(1, SL A7 a1.length c8), (2, P b10 0), (4, P b13 0), (5, P b27 0), (6, I z_1.1), (7, I r42), (8, I z_1.2.1), (9, P b57 0), (10, I r76), (11, I z_2)]) (fun z_2 y_2 w_ => law_truly_j19 r55 r42 z_1 r76 (loopF (law_truly_l20 a0 a1 r42 r22 r18) m50) a0 r22 z_2 = some r ∧ St w (fun _ => False) w_ [bl b57 [I r55.Crosses, I r55.Engines, I r55.Winds] 64, gr intE 1 3 y_1.1 y_1.2.1 z_1.2.2.1, gr intE 1 3 y_1.2.2.1 y_1.2.2.2 z_1.2.2.2, bl b27 [I r18, I r22, SL y_1.1 z_1.2.2.1.length y_1.2.1, SL y_1.2.2.1 z_1.2.2.2.length y_1.2.2.2] 41, bl b13 (sg (List.replicate 2 0) 2 ++ [SL none 0 0, SL none 0 0]) 41, bl b10 ([I a0.Heap.Low, I a0.Heap.High] ++ (sgE eSpan a0.Eats 2 ++ (sg a0.Extra 3 ++ [SL A1 a0.Days.length c2, I a0.Collier.Low, I a0.Collier.High, I a0.Brings, SL A4 a0.Dips.length c5]))) 29] [rd eCoalDay 3 A1 c2 a0.Days, rd eCoalDip 3 A4 c5 a0.Dips, rd intE 1 A7 c8 a1]) ?_ ?_
    · refine c_seq ?_
      refine reg ?_
      refine p_fld fl64_1 rfl ?_
      refine p_ld ty3 (S79.atX (i := 1) rfl) rfl rfl ?_
      obtain ⟨r81, h82, H⟩ := bindS H
      refine p_cv (B_Member_ok h82) fu33 rfl S79 fun w83 S84 => ?_
      refine wp_nil ?_
      refine c_cond rfl (fun c85 => ?_) (fun c85 => ?_)
      · replace H := condT c85 H
        refine reg ?_
        refine p_mI rfl ?_
        refine p_fld fl41_0 rfl ?_
        refine p_ixc ar30 rfl rfl (by decide) (by decide) ?_
        refine p_ld ty3 (S84.atX (i := 4) rfl) rfl rfl ?_
        refine p_add rfl rfl ?_
        refine p_aI rfl ?_
        refine wp_nil ?_
        have S86 := S84.pk [1, 2, 3, 4, 5, 6] (by decide) [0, 1, 2] rfl rfl
        exact ⟨wr ((aget a0.Extra r76) + r18), (), _, rfl, ⟨rfl, rfl, rfl, rfl, rfl, rfl, rfl, rfl, rfl, rfl, trivial⟩, H, S86⟩
      · replace H := condF c85 H
        refine c_skip ?_
        have S86 := S84.pk [1, 2, 3, 4, 5, 6] (by decide) [0, 1, 2] rfl rfl
        exact ⟨aget a0.Extra r76, (), _, rfl, ⟨rfl, rfl, rfl, rfl, rfl, rfl, rfl, rfl, rfl, rfl, trivial⟩, H, S86⟩
    · intro z_2 y_2 e81 w82 S83; obtain ⟨H, S83⟩ := S83
      unfold law_truly_j19 at H
      refine c_join (α := Int) (β := Unit) (fun z_3 y_3 => [(1, SL A7 a1.length c8), (2, P b10 0), (4, P b13 0), (5, P b27 0), (6, I z_1.1), (7, I r42), (8, I z_1.2.1), (9, P b57 0), (10, I r76), (11, I z_3)]) (fun z_3 y_3 w_ => law_truly_j18 r42 z_1 r76 r55 (loopF (law_truly_l20 a0 a1 r42 r22 r18) m50) a0 z_3 = some r ∧ St w (fun _ => False) w_ [bl b57 [I r55.Crosses, I r55.Engines, I r55.Winds] 64, gr intE 1 3 y_1.1 y_1.2.1 z_1.2.2.1, gr intE 1 3 y_1.2.2.1 y_1.2.2.2 z_1.2.2.2, bl b27 [I r18, I r22, SL y_1.1 z_1.2.2.1.length y_1.2.1, SL y_1.2.2.1 z_1.2.2.2.length y_1.2.2.2] 41, bl b13 (sg (List.replicate 2 0) 2 ++ [SL none 0 0, SL none 0 0]) 41, bl b10 ([I a0.Heap.Low, I a0.Heap.High] ++ (sgE eSpan a0.Eats 2 ++ (sg a0.Extra 3 ++ [SL A1 a0.Days.length c2, I a0.Collier.Low, I a0.Collier.High, I a0.Brings, SL A4 a0.Dips.length c5]))) 29] [rd eCoalDay 3 A1 c2 a0.Days, rd eCoalDip 3 A4 c5 a0.Dips, rd intE 1 A7 c8 a1]) ?_ ?_
      · refine c_seq ?_
        refine reg ?_
        refine p_fld fl64_1 rfl ?_
        refine p_ld ty3 (S83.atX (i := 0) rfl) rfl rfl ?_
        obtain ⟨r84, h85, H⟩ := bindS H
        refine p_cv (B_Member_ok h85) fu33 rfl S83 fun w86 S87 => ?_
        refine wp_nil ?_
        refine c_cond rfl (fun c88 => ?_) (fun c88 => ?_)
        · replace H := condT c88 H
          refine reg ?_
          refine p_mI rfl ?_
          refine p_fld fl41_0 rfl ?_
          refine p_ixc ar30 rfl rfl (by decide) (by decide) ?_
          refine p_ld ty3 (S87.atX (i := 3) rfl) rfl rfl ?_
          refine p_add rfl rfl ?_
          refine p_aI rfl ?_
          refine wp_nil ?_
          exact ⟨wr (z_2 + r22), (), _, rfl, ⟨rfl, rfl, rfl, rfl, rfl, rfl, rfl, rfl, rfl, rfl, trivial⟩, H, S87⟩
        · replace H := condF c88 H
          refine c_skip ?_
          exact ⟨z_2, (), _, rfl, ⟨rfl, rfl, rfl, rfl, rfl, rfl, rfl, rfl, rfl, rfl, trivial⟩, H, S87⟩
      · intro z_3 y_3 e84 w85 S86; obtain ⟨H, S86⟩ := S86
        unfold law_truly_j18 at H
        refine c_join (α := Int) (β := Unit) (fun z_4 y_4 => [(1, SL A7 a1.length c8), (2, P b10 0), (4, P b13 0), (5, P b27 0), (6, I z_4), (7, I r42), (8, I z_1.2.1), (9, P b57 0), (10, I r76), (11, I z_3)]) (fun z_4 y_4 w_ => law_truly_j17 z_1 r76 z_3 r55 (loopF (law_truly_l20 a0 a1 r42 r22 r18) m50) z_4 = some r ∧ St w (fun _ => False) w_ [bl b57 [I r55.Crosses, I r55.Engines, I r55.Winds] 64, gr intE 1 3 y_1.1 y_1.2.1 z_1.2.2.1, gr intE 1 3 y_1.2.2.1 y_1.2.2.2 z_1.2.2.2, bl b27 [I r18, I r22, SL y_1.1 z_1.2.2.1.length y_1.2.1, SL y_1.2.2.1 z_1.2.2.2.length y_1.2.2.2] 41, bl b13 (sg (List.replicate 2 0) 2 ++ [SL none 0 0, SL none 0 0]) 41, bl b10 ([I a0.Heap.Low, I a0.Heap.High] ++ (sgE eSpan a0.Eats 2 ++ (sg a0.Extra 3 ++ [SL A1 a0.Days.length c2, I a0.Collier.Low, I a0.Collier.High, I a0.Brings, SL A4 a0.Dips.length c5]))) 29] [rd eCoalDay 3 A1 c2 a0.Days, rd eCoalDip 3 A4 c5 a0.Dips, rd intE 1 A7 c8 a1]) ?_ ?_
        · refine c_seq ?_
          refine reg ?_
          refine p_mI rfl ?_
          refine p_mI rfl ?_
          refine p_cmp rfl rfl rfl ?_
          refine wp_nil ?_
          refine c_cond rfl (fun c87 => ?_) (fun c87 => ?_)
          · replace H := condT c87 H
            refine reg ?_
            refine p_mI rfl ?_
            refine p_fld fl29_5 rfl ?_
            refine p_ld ty3 (S86.atX (i := 5) rfl) rfl rfl ?_
            refine p_add rfl rfl ?_
            refine p_aI rfl ?_
            refine wp_nil ?_
            exact ⟨wr (z_1.1 + a0.Brings), (), _, rfl, ⟨rfl, rfl, rfl, rfl, rfl, rfl, rfl, rfl, rfl, rfl, trivial⟩, H, S86⟩
          · replace H := condF c87 H
            refine c_skip ?_
            exact ⟨z_1.1, (), _, rfl, ⟨rfl, rfl, rfl, rfl, rfl, rfl, rfl, rfl, rfl, rfl, trivial⟩, H, S86⟩
        · intro z_4 y_4 e87 w88 S89; obtain ⟨H, S89⟩ := S89
          unfold law_truly_j17 at H
          refine c_seq ?_
          refine reg ?_
          refine p_mI rfl ?_
          refine p_mI rfl ?_
          refine p_fld fl64_0 rfl ?_
          refine p_ld ty3 (S89.atX (i := 0) rfl) rfl rfl ?_
          refine p_mul rfl rfl ?_
          refine p_sub rfl rfl ?_
          refine p_aI rfl ?_
          refine wp_nil ?_
          have S90 : St w (fun _ => False) w88 (([gr intE 1 3 y_1.1 y_1.2.1 z_1.2.2.1] ++ [gr intE 1 3 y_1.2.2.1 y_1.2.2.2 z_1.2.2.2]) ++ [bl b57 [I r55.Crosses, I r55.Engines, I r55.Winds] 64, bl b27 [I r18, I r22, SL y_1.1 z_1.2.2.1.length y_1.2.1, SL y_1.2.2.1 z_1.2.2.2.length y_1.2.2.2] 41, bl b13 (sg (List.replicate 2 0) 2 ++ [SL none 0 0, SL none 0 0]) 41, bl b10 ([I a0.Heap.Low, I a0.Heap.High] ++ (sgE eSpan a0.Eats 2 ++ (sg a0.Extra 3 ++ [SL A1 a0.Days.length c2, I a0.Collier.Low, I a0.Collier.High, I a0.Brings, SL A4 a0.Dips.length c5]))) 29]) [rd eCoalDay 3 A1 c2 a0.Days, rd eCoalDip 3 A4 c5 a0.Dips, rd intE 1 A7 c8 a1] := S89.pk [1, 2, 0, 3, 4, 5] (by decide) [0, 1, 2] rfl rfl
          obtain ⟨h106, H⟩ := needS H
          obtain ⟨h124, H⟩ := needS H
          refine reg_two mixed 11 [3, 4] [8, 9] [gr intE 1 3 y_1.1 y_1.2.1 z_1.2.2.1] [gr intE 1 3 y_1.2.2.1 y_1.2.2.2 z_1.2.2.2] (fun ec_ X_ => ∃ A94 : Option Addr, ∃ c95 : Nat, ∃ A104 : Option Addr, ∃ c105 : Nat, Has ec_ [(93, SL A94 ([r76] : List Int).length c95), (94, SL A104 (z_1.2.2.1 ++ ([r76] : List Int)).length c105)] ∧ X_ = [gr intE 1 3 A94 c95 ([r76] : List Int), gr intE 1 3 A104 c105 (z_1.2.2.1 ++ ([r76] : List Int))]) (fun ec_ X_ => ∃ A112 : Option Addr, ∃ c113 : Nat, ∃ A122 : Option Addr, ∃ c123 : Nat, Has ec_ [(98, SL A112 ([wr (z_4 - (wr (z_3 * r55.Crosses)))] : List Int).length c113), (99, SL A122 (z_1.2.2.2 ++ ([wr (z_4 - (wr (z_3 * r55.Crosses)))] : List Int)).length c123)] ∧ X_ = [gr intE 1 3 A112 c113 ([wr (z_4 - (wr (z_3 * r55.Crosses)))] : List Int), gr intE 1 3 A122 c123 (z_1.2.2.2 ++ ([wr (z_4 - (wr (z_3 * r55.Crosses)))] : List Int))]) (by kernel_rfl) rfl rfl (St.baseX S90) ?_
          refine lS rfl (fun _ k_ => p_fld fl41_1 rfl dn) ?_
          refine lS rfl (fun _ k_ => p_ld ty39 (S90.stR (i := 1) rfl k_) rfl rfl dn) ?_
          refine lS rfl (fun _ k_ => p_mI rfl dn) ?_
          refine lC rfl ?_
          refine lC rfl ?_
          refine lS rfl (fun _ k_ => p_fld fl41_2 rfl dn) ?_
          refine lS rfl (fun _ k_ => p_ld ty39 (S90.stR (i := 1) rfl k_) rfl rfl dn) ?_
          refine lS rfl (fun _ k_ => p_mI rfl dn) ?_
          refine lC rfl ?_
          refine lC rfl ?_
          refine lS rfl (fun _ k_ => p_fld fl41_1 rfl dn) ?_
          refine ⟨?_, ?_, ?_⟩
          · intro w91 R92 S93
            refine p_bsl (enc := intE) (l := ([r76] : List Int)) I (fun _ => rfl) sc39 in3 intE_len rfl (by decide) (by decide) zr3_1 S93 rfl fun A94 c95 w96 S97 => ?_
            refine cH (X := [gr intE 1 3 A94 c95 ([r76] : List Int), gr intE 1 3 y_1.1 y_1.2.1 z_1.2.2.1]) S97 ?_
            intro w99 R100 S101
            refine p_app (enc := intE) sc39 in3 rfl intE_len intE_one (by decide) S101 (k := 1) rfl (gr_sl intE_len (S101.atX (i := 0) rfl)) h106 (by simp) rfl rfl fun A104 c105 w102 S103 => ?_
            refine cH (X := [gr intE 1 3 A94 c95 ([r76] : List Int), gr intE 1 3 A104 c105 (z_1.2.2.1 ++ ([r76] : List Int))]) S103 ?_
            exact chEnd ⟨A94, c95, A104, c105, ⟨rfl, rfl, trivial⟩, rfl⟩
          · intro w109 R110 S111
            refine p_bsl (enc := intE) (l := ([wr (z_4 - (wr (z_3 * r55.Crosses)))] : List Int)) I (fun _ => rfl) sc39 in3 intE_len rfl (by decide) (by decide) zr3_1 S111 rfl fun A112 c113 w114 S115 => ?_
            refine cH (X := [gr intE 1 3 A112 c113 ([wr (z_4 - (wr (z_3 * r55.Crosses)))] : List Int), gr intE 1 3 y_1.2.2.1 y_1.2.2.2 z_1.2.2.2]) S115 ?_
            intro w117 R118 S119
            refine p_app (enc := intE) sc39 in3 rfl intE_len intE_one (by decide) S119 (k := 1) rfl (gr_sl intE_len (S119.atX (i := 0) rfl)) h124 (by simp) rfl rfl fun A122 c123 w120 S121 => ?_
            refine cH (X := [gr intE 1 3 A112 c113 ([wr (z_4 - (wr (z_3 * r55.Crosses)))] : List Int), gr intE 1 3 A122 c123 (z_1.2.2.2 ++ ([wr (z_4 - (wr (z_3 * r55.Crosses)))] : List Int))]) S121 ?_
            exact chEnd ⟨A112, c113, A122, c123, ⟨rfl, rfl, trivial⟩, rfl⟩
          rintro e127 X128 e129 X130 ⟨A94, c95, A104, c105, ⟨q107, q108, _⟩, rfl⟩ ⟨A112, c113, A122, c123, ⟨q125, q126, _⟩, rfl⟩ e131 w132 f133 f134 f135 S136
          have S137 : St w (fun _ => False) w132 [gr intE 1 3 A94 c95 ([r76] : List Int), gr intE 1 3 A104 c105 (z_1.2.2.1 ++ ([r76] : List Int)), gr intE 1 3 A112 c113 ([wr (z_4 - (wr (z_3 * r55.Crosses)))] : List Int), gr intE 1 3 A122 c123 (z_1.2.2.2 ++ ([wr (z_4 - (wr (z_3 * r55.Crosses)))] : List Int)), bl b57 [I r55.Crosses, I r55.Engines, I r55.Winds] 64, bl b27 [I r18, I r22, SL y_1.1 z_1.2.2.1.length y_1.2.1, SL y_1.2.2.1 z_1.2.2.2.length y_1.2.2.2] 41, bl b13 (sg (List.replicate 2 0) 2 ++ [SL none 0 0, SL none 0 0]) 41, bl b10 ([I a0.Heap.Low, I a0.Heap.High] ++ (sgE eSpan a0.Eats 2 ++ (sg a0.Extra 3 ++ [SL A1 a0.Days.length c2, I a0.Collier.Low, I a0.Collier.High, I a0.Brings, SL A4 a0.Dips.length c5]))) 29] [rd eCoalDay 3 A1 c2 a0.Days, rd eCoalDip 3 A4 c5 a0.Dips, rd intE 1 A7 c8 a1] := St.fromBaseX S90 S136
          refine tailE [(1, SL A7 a1.length c8), (2, P b10 0), (4, P b13 0), (5, P b27 0), (6, I (wr (z_4 - (wr (z_3 * r55.Crosses))))), (7, I r42), (8, I z_1.2.1), (94, SL A104 (z_1.2.2.1 ++ ([r76] : List Int)).length c105), (99, SL A122 (z_1.2.2.2 ++ ([wr (z_4 - (wr (z_3 * r55.Crosses)))] : List Int)).length c123), (100, P b27 2)] ⟨((f135 1 rfl rfl).trans (rfl : _ = SL A7 a1.length c8)), ((f135 2 rfl rfl).trans (rfl : _ = P b10 0)), ((f135 4 rfl rfl).trans (rfl : _ = P b13 0)), ((f135 5 rfl rfl).trans (rfl : _ = P b27 0)), ((f135 6 rfl rfl).trans (rfl : _ = I (wr (z_4 - (wr (z_3 * r55.Crosses)))))), ((f135 7 rfl rfl).trans (rfl : _ = I r42)), ((f135 8 rfl rfl).trans (rfl : _ = I z_1.2.1)), ((f133 94 rfl).trans q108), ((f134 99 rfl).trans q126), ((f135 100 rfl rfl).trans (rfl : _ = P b27 2)), trivial⟩ ?_
          intro g138
          refine p_stP (pre := [I r18, I r22]) (old := [SL y_1.1 z_1.2.2.1.length y_1.2.1]) (post := [SL y_1.2.2.1 z_1.2.2.2.length y_1.2.2.2]) (vs := [SL A104 (z_1.2.2.1 ++ ([r76] : List Int)).length c105]) sz39 S137 (i := 5) rfl rfl rfl rfl (rfl : _ = SL A104 (z_1.2.2.1 ++ ([r76] : List Int)).length c105) rfl rfl rfl rfl fun w139 S140 => ?_
          refine p_fld fl41_2 rfl ?_
          refine p_stP (pre := [I r18, I r22, SL A104 (z_1.2.2.1 ++ ([r76] : List Int)).length c105]) (old := [SL y_1.2.2.1 z_1.2.2.2.length y_1.2.2.2]) (post := []) (vs := [SL A122 (z_1.2.2.2 ++ ([wr (z_4 - (wr (z_3 * r55.Crosses)))] : List Int)).length c123]) sz39 S140 (i := 5) rfl rfl rfl rfl (rfl : _ = SL A122 (z_1.2.2.2 ++ ([wr (z_4 - (wr (z_3 * r55.Crosses)))] : List Int)).length c123) rfl rfl rfl rfl fun w141 S142 => ?_
          refine wp_nil ?_
          refine reg ?_
          refine p_mI rfl ?_
          refine p_add rfl rfl ?_
          refine p_aI rfl ?_
          refine wp_nil ?_
          have S143 := S142.pk [1, 3, 5, 6, 7] (by decide) [0, 1, 2] rfl rfl
          exact ⟨(wr (z_4 - (wr (z_3 * r55.Crosses))), wr (z_1.2.1 + 1), z_1.2.2.1 ++ ([r76] : List Int), z_1.2.2.2 ++ ([wr (z_4 - (wr (z_3 * r55.Crosses)))] : List Int)), (A104, c105, A122, c123), _, rfl, ⟨rfl, rfl, rfl, rfl, rfl, rfl, rfl, trivial⟩, H, S143⟩
  · replace H := condF c54 H
    refine c_exit ?_
    refine c_seq ?_
    refine reg ?_
    refine p_ldA ty41 sz41 (S53.atX (i := 2) rfl) rfl rfl ?_
    refine p_stP (pre := []) (old := sg (List.replicate 2 0) 2 ++ [SL none 0 0, SL none 0 0]) (post := []) (vs := [I r18, I r22, SL y_1.1 z_1.2.2.1.length y_1.2.1, SL y_1.2.2.1 z_1.2.2.2.length y_1.2.2.2]) sz41 S53 (i := 3) rfl rfl rfl rfl (rfl : _ = AG [I r18, I r22, SL y_1.1 z_1.2.2.1.length y_1.2.1, SL y_1.2.2.1 z_1.2.2.2.length y_1.2.2.2]) rfl rfl rfl rfl fun w86 S87 => ?_
    refine wp_nil ?_
    obtain rfl := Option.some.inj H
    refine c_ret ?_; show bodyPostM (Fr none) 0 Tryd.prog Tryd.f23 _ .ret _ _
    refine ret_of (res1 rfl (rvA rfl ty41 sz41 (S87.atX (i := 3) rfl) rfl)) ?_
    exact ⟨_, rfl, y_1.1, y_1.2.1, y_1.2.2.1, y_1.2.2.2, rfl, S87.keep, ⟨(gr_rd intE_len (S87.atX (i := 0) rfl)), (New.rd (S87.newX (i := 0) rfl))⟩, ⟨(gr_rd intE_len (S87.atX (i := 1) rfl)), (New.rd (S87.newX (i := 1) rfl))⟩, trivial⟩

def law_rightly_l2 (a0 : CoalBook) (a1 : Law06_known) (a2 : List Int) (rec_z_1 : (Int × (List CoalDip)) → Option CoalBook) (z_1 : Int × (List CoalDip)) : Option CoalBook :=
  bif decide (z_1.1 < (a0.Dips.length : Int)) then ((getI a0.Dips z_1.1).bind fun r38 =>
  (getI a1.coal_ r38.Day).bind fun r45 =>
  (B_Range (wr (-r38.Error)) r38.Error).bind fun r47 =>
  (B_Choose a2 z_1.1).bind fun r49 =>
  (B_Within r47 r49).bind fun r51 =>
  (B_Inside (wr (r45 + r51)) 0 800).bind fun r58 =>
  bif r58 then (need (fitsL (z_1.2.length + ([(CoalDip.mk r38.Day (wr (r45 + r51)) r38.Error)] : List CoalDip).length) 24) <|
  rec_z_1 (wr (z_1.1 + 1), z_1.2 ++ ([(CoalDip.mk r38.Day (wr (r45 + r51)) r38.Error)] : List CoalDip)))
  else (rec_z_1 (wr (z_1.1 + 1), z_1.2)))
  else (some (CoalBook.mk a0.Heap a0.Eats a0.Extra a0.Days a0.Collier a0.Brings z_1.2))

def law_rightly (a0 : CoalBook) (a1 : Law06_known) (a2 : List Int) : Option CoalBook :=
  loopF (law_rightly_l2 a0 a1 a2) big (0, ([] : List CoalDip))

set_option maxRecDepth 100000 in
theorem law_rightly_ok {a0 : CoalBook} {a1 : Law06_known} {a2 : List Int} {A1 : Option Addr} {c2 : Nat} {A4 : Option Addr} {c5 : Nat} {A7 : Option Addr} {c8 : Nat} {A10 : Option Addr} {c11 : Nat} {A13 : Option Addr} {c14 : Nat} {w : World} {r : CoalBook} (H : law_rightly a0 a1 a2 = some r) (h3 : (rd eCoalDay 3 A1 c2 a0.Days).ok w) (h6 : (rd eCoalDip 3 A4 c5 a0.Dips).ok w) (h9 : (rd intE 1 A7 c8 a1.winds_).ok w) (h12 : (rd intE 1 A10 c11 a1.coal_).ok w) (h15 : (rd intE 1 A13 c14 a2).ok w) : Calls Tryd.prog 24 #[AG ([I a0.Heap.Low, I a0.Heap.High] ++ (sgE eSpan a0.Eats 2 ++ (sg a0.Extra 3 ++ [SL A1 a0.Days.length c2, I a0.Collier.Low, I a0.Collier.High, I a0.Brings, SL A4 a0.Dips.length c5]))), AG (sg a1.eats_ 2 ++ [SL A7 a1.winds_.length c8, SL A10 a1.coal_.length c11]), SL A13 a2.length c14] w fun en w_ => ∃ u_, en = .returned u_ ∧ ∃ A_1 : Option Addr, ∃ c_2 : Nat, u_ = AG ([I r.Heap.Low, I r.Heap.High] ++ (sgE eSpan r.Eats 2 ++ (sg r.Extra 3 ++ [SL A1 a0.Days.length c2, I r.Collier.Low, I r.Collier.High, I r.Brings, SL A_1 r.Dips.length c_2]))) ∧ Keep0 w w_ ∧ ((gr eCoalDip 3 67 A_1 c_2 r.Dips).ok w_ ∧ New w.heap.size (gr eCoalDip 3 67 A_1 c_2 r.Dips)) ∧ True := by
  unfold law_rightly at H
  refine fn_of (n := 52) Tryd.func24 rfl rfl (Nat.le_of_ble_eq_true rfl) ?_
  have S : St w (fun _ => False) w [] [rd eCoalDay 3 A1 c2 a0.Days, rd eCoalDip 3 A4 c5 a0.Dips, rd intE 1 A7 c8 a1.winds_, rd intE 1 A10 c11 a1.coal_, rd intE 1 A13 c14 a2] := St.start w _ _ (List.forall_mem_cons.2 ⟨h3, (List.forall_mem_cons.2 ⟨h6, (List.forall_mem_cons.2 ⟨h9, (List.forall_mem_cons.2 ⟨h12, (List.forall_mem_cons.2 ⟨h15, (fun _ h_ => (List.not_mem_nil h_).elim)⟩)⟩)⟩)⟩)⟩)
  refine c_seq ?_
  refine reg ?_
  refine p_boxA rfl S fun b16 w17 S18 => ?_
  refine p_boxA rfl S18 fun b19 w20 S21 => ?_
  refine p_allA in29 S21 fun b22 w23 S24 => ?_
  refine wp_nil ?_
  refine c_seq ?_
  refine reg ?_
  refine p_ldA ty29 sz29 (S24.atX (i := 2) rfl) rfl rfl ?_
  refine p_allA in29 S24 fun b25 w26 S27 => ?_
  refine p_stP (pre := []) (old := [I 0, I 0, I 0, I 0, I 0, I 0] ++ (sg (List.replicate 3 0) 3 ++ [SL none 0 0, I 0, I 0, I 0, SL none 0 0])) (post := []) (vs := [I a0.Heap.Low, I a0.Heap.High] ++ (sgE eSpan a0.Eats 2 ++ (sg a0.Extra 3 ++ [SL A1 a0.Days.length c2, I a0.Collier.Low, I a0.Collier.High, I a0.Brings, SL A4 a0.Dips.length c5]))) sz29 S27 (i := 0) rfl rfl rfl rfl (rfl : _ = AG ([I a0.Heap.Low, I a0.Heap.High] ++ (sgE eSpan a0.Eats 2 ++ (sg a0.Extra 3 ++ [SL A1 a0.Days.length c2, I a0.Collier.Low, I a0.Collier.High, I a0.Brings, SL A4 a0.Dips.length c5])))) rfl rfl rfl rfl fun w28 S29 => ?_
  refine wp_nil ?_
  refine c_seq ?_
  refine reg ?_
  refine p_fld fl29_6 rfl ?_
  refine p_stP (pre := [I a0.Heap.Low, I a0.Heap.High] ++ (sgE eSpan a0.Eats 2 ++ (sg a0.Extra 3 ++ [SL A1 a0.Days.length c2, I a0.Collier.Low, I a0.Collier.High, I a0.Brings]))) (old := [SL A4 a0.Dips.length c5]) (post := []) (vs := [SL none 0 0]) sz27 S29 (i := 0) rfl rfl rfl rfl (rfl : _ = SL none 0 0) rfl rfl rfl rfl fun w30 S31 => ?_
  refine wp_nil ?_
  refine c_seq ?_
  refine c_seq ?_
  refine reg ?_
  refine p_aI rfl ?_
  refine wp_nil ?_
  refine c_block ?_
  have S32 := S31.nilRow eCoalDip 3 67
  refine c_lop (α := Int × (List CoalDip)) (β := (Option Addr) × Nat) (law_rightly_l2 a0 a1 a2) (fun z_1 y_1 => [(2, SL A13 a2.length c14), (3, P b16 0), (4, P b19 0), (6, P b22 0), (7, P b25 0), (8, I z_1.1)]) (fun z_1 y_1 w_ => St w (fun _ => False) w_ [gr eCoalDip 3 67 y_1.1 y_1.2 z_1.2, bl b25 ([I a0.Heap.Low, I a0.Heap.High] ++ (sgE eSpan a0.Eats 2 ++ (sg a0.Extra 3 ++ [SL A1 a0.Days.length c2, I a0.Collier.Low, I a0.Collier.High, I a0.Brings, SL y_1.1 z_1.2.length y_1.2]))) 29, bl b22 ([I 0, I 0, I 0, I 0, I 0, I 0] ++ (sg (List.replicate 3 0) 3 ++ [SL none 0 0, I 0, I 0, I 0, SL none 0 0])) 29, bl b19 (sg a1.eats_ 2 ++ [SL A7 a1.winds_.length c8, SL A10 a1.coal_.length c11]) 41, bl b16 ([I a0.Heap.Low, I a0.Heap.High] ++ (sgE eSpan a0.Eats 2 ++ (sg a0.Extra 3 ++ [SL A1 a0.Days.length c2, I a0.Collier.Low, I a0.Collier.High, I a0.Brings, SL A4 a0.Dips.length c5]))) 29] [rd eCoalDay 3 A1 c2 a0.Days, rd eCoalDip 3 A4 c5 a0.Dips, rd intE 1 A7 c8 a1.winds_, rd intE 1 A10 c11 a1.coal_, rd intE 1 A13 c14 a2]) (0, ([] : List CoalDip)) (none, 0) H ⟨rfl, rfl, rfl, rfl, rfl, rfl, trivial⟩ S32 ?_
  intro m33 z_1 y_1 e34 w35 H S36
  unfold law_rightly_l2 at H
  refine c_seq ?_
  refine c_seq ?_
  refine reg ?_
  refine p_mI rfl ?_
  refine p_fld fl29_6 rfl ?_
  refine p_ld ty27 (S36.atX (i := 4) rfl) rfl rfl ?_
  refine p_len rfl sc27 ?_
  refine p_cmp rfl rfl rfl ?_
  refine wp_nil ?_
  refine c_cond rfl (fun c37 => ?_) (fun c37 => ?_)
  · replace H := condT c37 H
    refine c_skip ?_
    refine c_seq ?_
    refine c_block ?_
    refine c_seq ?_
    refine reg ?_
    refine p_fld fl29_6 rfl ?_
    refine p_ld ty27 (S36.atX (i := 4) rfl) rfl rfl ?_
    refine p_mI rfl ?_
    obtain ⟨r38, h39, H⟩ := bindS H
    refine p_ixE sc27 h39 (S36.atP (i := 1) rfl).1 rfl rfl rfl ?_
    refine p_ldEA ty67 sz67 rfl h39 (S36.atP (i := 1) rfl).1 rfl ?_
    refine p_allA in67 S36 fun b40 w41 S42 => ?_
    refine p_stP (pre := []) (old := [I 0, I 0, I 0]) (post := []) (vs := [I r38.Day, I r38.Read, I r38.Error]) sz67 S42 (i := 0) rfl rfl rfl rfl (rfl : _ = AG [I r38.Day, I r38.Read, I r38.Error]) rfl rfl rfl rfl fun w43 S44 => ?_
    refine wp_nil ?_
    refine c_seq ?_
    obtain ⟨r45, h46, H⟩ := bindS H
    obtain ⟨r47, h48, H⟩ := bindS H
    obtain ⟨r49, h50, H⟩ := bindS H
    obtain ⟨r51, h52, H⟩ := bindS H
    refine reg_q mixed 18 (by kernel_rfl) ?_
    refine dS (fun _ k_ => p_fld fl41_2 rfl dn) ?_
    refine dS (fun _ k_ => p_ld ty39 (Asr.stays (S44.atX (i := 4) rfl) k_) rfl rfl dn) ?_
    refine dS (fun _ k_ => p_fld fl67_0 rfl dn) ?_
    refine dS (fun _ k_ => p_ld ty3 (Asr.stays (S44.atX (i := 0) rfl) k_) rfl rfl dn) ?_
    refine dS (fun _ k_ => p_ixE sc39 h46 (Asr.stays (S44.atP (i := 3) rfl) k_).1 rfl rfl rfl dn) ?_
    refine dS (fun _ k_ => p_ldE ty3 h46 (Asr.stays (S44.atP (i := 3) rfl) k_).1 rfl rfl dn) ?_
    refine dS (fun _ k_ => p_fld fl67_2 rfl dn) ?_
    refine dS (fun _ k_ => p_ld ty3 (Asr.stays (S44.atX (i := 0) rfl) k_) rfl rfl dn) ?_
    refine dS (fun _ k_ => p_neg rfl dn) ?_
    refine dS (fun _ k_ => p_fld fl67_2 rfl dn) ?_
    refine dS (fun _ k_ => p_ld ty3 (Asr.stays (S44.atX (i := 0) rfl) k_) rfl rfl dn) ?_
    refine dS (fun _ k_ => p_cvD (B_Range_ok h48) fu44 rfl) ?_
    refine dS (fun _ k_ => p_mS rfl dn) ?_
    refine dS (fun _ k_ => p_mI rfl dn) ?_
    refine dS (fun _ k_ => p_cvD (B_Choose_ok h50 (Asr.stays (S44.atP (i := 4) rfl) k_)) fu70 rfl) ?_
    refine dS (fun _ k_ => p_cvD (B_Within_ok h52) fu69 rfl) ?_
    refine dS (fun _ k_ => p_add rfl rfl dn) ?_
    refine dS (fun _ k_ => p_fld fl67_1 rfl dn) ?_
    intro w53 k54; have S55 := S44.call k54
    refine p_stP (pre := [I r38.Day]) (old := [I r38.Read]) (post := [I r38.Error]) (vs := [I (wr (r45 + r51))]) sz3 S55 (i := 0) rfl rfl rfl rfl (rfl : _ = I (wr (r45 + r51))) rfl rfl rfl rfl fun w56 S57 => ?_
    refine wp_nil ?_
    refine c_seq ?_
    refine reg ?_
    refine p_fld fl67_1 rfl ?_
    refine p_ld ty3 (S57.atX (i := 0) rfl) rfl rfl ?_
    obtain ⟨r58, h59, H⟩ := bindS H
    refine p_cv (B_Inside_ok h59) fu34 rfl S57 fun w60 S61 => ?_
    refine wp_nil ?_
    refine c_cond rfl (fun c62 => ?_) (fun c62 => ?_)
    · replace H := condT c62 H
      refine reg ?_
      refine p_fld fl29_6 rfl ?_
      refine p_ld ty27 (S61.atX (i := 2) rfl) rfl rfl ?_
      refine p_ldA ty67 sz67 (S61.atX (i := 0) rfl) rfl rfl ?_
      refine p_bsl (enc := eCoalDip) (l := ([(CoalDip.mk r38.Day (wr (r45 + r51)) r38.Error)] : List CoalDip)) (fun x => AG (eCoalDip x)) (fun _ => rfl) sc27 in67 eCoalDip_len rfl (by decide) (by decide) zr67_1 S61 rfl fun A63 c64 w65 S66 => ?_
      obtain ⟨h72, H⟩ := needS H
      refine p_app (enc := eCoalDip) sc27 in67 rfl eCoalDip_len eCoalDip_one (by decide) S66 (k := 2) rfl (gr_sl eCoalDip_len (S66.atX (i := 0) rfl)) h72 (by simp) rfl rfl fun A70 c71 w68 S69 => ?_
      refine p_fld fl29_6 rfl ?_
      refine p_stP (pre := [I a0.Heap.Low, I a0.Heap.High] ++ (sgE eSpan a0.Eats 2 ++ (sg a0.Extra 3 ++ [SL A1 a0.Days.length c2, I a0.Collier.Low, I a0.Collier.High, I a0.Brings]))) (old := [SL y_1.1 z_1.2.length y_1.2]) (post := []) (vs := [SL A70 (z_1.2 ++ ([(CoalDip.mk r38.Day (wr (r45 + r51)) r38.Error)] : List CoalDip)).length c71]) sz27 S69 (i := 3) rfl rfl rfl rfl (rfl : _ = SL A70 (z_1.2 ++ ([(CoalDip.mk r38.Day (wr (r45 + r51)) r38.Error)] : List CoalDip)).length c71) rfl rfl rfl rfl fun w73 S74 => ?_
      refine wp_nil ?_
      refine reg ?_
      refine p_mI rfl ?_
      refine p_add rfl rfl ?_
      refine p_aI rfl ?_
      refine wp_nil ?_
      have S75 := S74.pk [2, 3, 4, 5, 6] (by decide) [0, 1, 2, 3, 4] rfl rfl
      exact ⟨(wr (z_1.1 + 1), z_1.2 ++ ([(CoalDip.mk r38.Day (wr (r45 + r51)) r38.Error)] : List CoalDip)), (A70, c71), _, rfl, ⟨rfl, rfl, rfl, rfl, rfl, rfl, trivial⟩, H, S75⟩
    · replace H := condF c62 H
      refine c_skip ?_
      refine reg ?_
      refine p_mI rfl ?_
      refine p_add rfl rfl ?_
      refine p_aI rfl ?_
      refine wp_nil ?_
      have S76 := S61.pk [1, 2, 3, 4, 5] (by decide) [0, 1, 2, 3, 4] rfl rfl
      exact ⟨(wr (z_1.1 + 1), z_1.2), (y_1.1, y_1.2), _, rfl, ⟨rfl, rfl, rfl, rfl, rfl, rfl, trivial⟩, H, S76⟩
  · replace H := condF c37 H
    refine c_exit ?_
    refine c_seq ?_
    refine reg ?_
    refine p_ldA ty29 sz29 (S36.atX (i := 1) rfl) rfl rfl ?_
    refine p_stP (pre := []) (old := [I 0, I 0, I 0, I 0, I 0, I 0] ++ (sg (List.replicate 3 0) 3 ++ [SL none 0 0, I 0, I 0, I 0, SL none 0 0])) (post := []) (vs := [I a0.Heap.Low, I a0.Heap.High] ++ (sgE eSpan a0.Eats 2 ++ (sg a0.Extra 3 ++ [SL A1 a0.Days.length c2, I a0.Collier.Low, I a0.Collier.High, I a0.Brings, SL y_1.1 z_1.2.length y_1.2]))) sz29 S36 (i := 2) rfl rfl rfl rfl (rfl : _ = AG ([I a0.Heap.Low, I a0.Heap.High] ++ (sgE eSpan a0.Eats 2 ++ (sg a0.Extra 3 ++ [SL A1 a0.Days.length c2, I a0.Collier.Low, I a0.Collier.High, I a0.Brings, SL y_1.1 z_1.2.length y_1.2])))) rfl rfl rfl rfl fun w77 S78 => ?_
    refine wp_nil ?_
    obtain rfl := Option.some.inj H
    refine c_ret ?_; show bodyPostM (Fr none) 0 Tryd.prog Tryd.f24 _ .ret _ _
    refine ret_of (res1 rfl (rvA rfl ty29 sz29 (S78.atX (i := 2) rfl) rfl)) ?_
    exact ⟨_, rfl, y_1.1, y_1.2, rfl, S78.keep, ⟨S78.atX (i := 0) rfl, S78.newX (i := 0) rfl⟩, trivial⟩

def B_Contains (a0 : Span) (a1 : Int) : Option Bool :=
  (B_Inside a1 a0.Low a0.High).bind fun r4 =>
  some r4

set_option maxRecDepth 100000 in
theorem B_Contains_ok {a0 : Span} {a1 : Int} {w : World} {r : Bool} (H : B_Contains a0 a1 = some r) : Calls Tryd.prog 32 #[AG [I a0.Low, I a0.High], I a1] w (RetV w (B r)) := by
  unfold B_Contains at H
  refine fn_of (n := 11) Tryd.func32 rfl rfl (Nat.le_of_ble_eq_true rfl) ?_
  have S : St w (fun _ => False) w [] [] := St.start w _ _ (fun _ h_ => (List.not_mem_nil h_).elim)
  refine c_seq ?_
  refine reg ?_
  refine p_boxA rfl S fun b1 w2 S3 => ?_
  refine p_aB rfl ?_
  refine wp_nil ?_
  refine c_seq ?_
  refine reg ?_
  refine p_mI rfl ?_
  refine p_fld fl23_0 rfl ?_
  refine p_ld ty3 (S3.atX (i := 0) rfl) rfl rfl ?_
  refine p_fld fl23_1 rfl ?_
  refine p_ld ty3 (S3.atX (i := 0) rfl) rfl rfl ?_
  obtain ⟨r4, h5, H⟩ := bindS H
  refine p_cv (B_Inside_ok h5) fu34 rfl S3 fun w6 S7 => ?_
  refine p_aB rfl ?_
  refine wp_nil ?_
  obtain rfl := Option.some.inj H
  refine c_ret ?_; show bodyPostM (Fr none) 0 Tryd.prog Tryd.f32 _ .ret _ _
  refine ret_of (res1 rfl (rvT (rfl : _ = B r4))) ?_
  exact ⟨_, rfl, rfl, S7.keep⟩

def law_lasted_l1 (a1 : Int) (a0 : Law06_known) (rec_z_1 : Int → Option Bool) (z_1 : Int) : Option Bool :=
  bif decide (z_1 ≤ a1) then ((getI a0.coal_ z_1).bind fun r15 =>
  bif decide (r15 < 0) then (some false)
  else (rec_z_1 (wr (z_1 + 1))))
  else (some true)

def law_lasted (a0 : Law06_known) (a1 : Int) : Option Bool :=
  loopF (law_lasted_l1 a1 a0) big 0

set_option maxRecDepth 100000 in
theorem law_lasted_ok {a0 : Law06_known} {a1 : Int} {A1 : Option Addr} {c2 : Nat} {A4 : Option Addr} {c5 : Nat} {w : World} {r : Bool} (H : law_lasted a0 a1 = some r) (h3 : (rd intE 1 A1 c2 a0.winds_).ok w) (h6 : (rd intE 1 A4 c5 a0.coal_).ok w) : Calls Tryd.prog 36 #[AG (sg a0.eats_ 2 ++ [SL A1 a0.winds_.length c2, SL A4 a0.coal_.length c5]), I a1] w (RetV w (B r)) := by
  unfold law_lasted at H
  refine fn_of (n := 17) Tryd.func36 rfl rfl (Nat.le_of_ble_eq_true rfl) ?_
  have S : St w (fun _ => False) w [] [rd intE 1 A1 c2 a0.winds_, rd intE 1 A4 c5 a0.coal_] := St.start w _ _ (List.forall_mem_cons.2 ⟨h3, (List.forall_mem_cons.2 ⟨h6, (fun _ h_ => (List.not_mem_nil h_).elim)⟩)⟩)
  refine c_seq ?_
  refine reg ?_
  refine p_boxA rfl S fun b7 w8 S9 => ?_
  refine p_aB rfl ?_
  refine wp_nil ?_
  refine c_seq ?_
  refine c_seq ?_
  refine reg ?_
  refine p_aI rfl ?_
  refine wp_nil ?_
  refine c_block ?_
  refine c_lop (α := Int) (β := Unit) (law_lasted_l1 a1 a0) (fun z_1 y_1 => [(1, I a1), (2, P b7 0), (5, I z_1)]) (fun z_1 y_1 w_ => St w (fun _ => False) w_ [bl b7 (sg a0.eats_ 2 ++ [SL A1 a0.winds_.length c2, SL A4 a0.coal_.length c5]) 41] [rd intE 1 A1 c2 a0.winds_, rd intE 1 A4 c5 a0.coal_]) 0 () H ⟨rfl, rfl, rfl, trivial⟩ S9 ?_
  intro m10 z_1 y_1 e11 w12 H S13
  unfold law_lasted_l1 at H
  refine c_seq ?_
  refine c_seq ?_
  refine reg ?_
  refine p_mI rfl ?_
  refine p_mI rfl ?_
  refine p_cmp rfl rfl rfl ?_
  refine wp_nil ?_
  refine c_cond rfl (fun c14 => ?_) (fun c14 => ?_)
  · replace H := condT c14 H
    refine c_skip ?_
    refine c_seq ?_
    refine c_block ?_
    refine c_seq ?_
    refine reg ?_
    refine p_fld fl41_2 rfl ?_
    refine p_ld ty39 (S13.atX (i := 0) rfl) rfl rfl ?_
    refine p_mI rfl ?_
    obtain ⟨r15, h16, H⟩ := bindS H
    refine p_ixE sc39 h16 (S13.atP (i := 1) rfl).1 rfl rfl rfl ?_
    refine p_ldE ty3 h16 (S13.atP (i := 1) rfl).1 rfl rfl ?_
    refine p_cmp rfl rfl rfl ?_
    refine wp_nil ?_
    refine c_cond rfl (fun c17 => ?_) (fun c17 => ?_)
    · replace H := condT c17 H
      refine c_seq ?_
      refine reg ?_
      refine p_aB rfl ?_
      refine wp_nil ?_
      obtain rfl := Option.some.inj H
      refine c_ret ?_; show bodyPostM (Fr none) 0 Tryd.prog Tryd.f36 _ .ret _ _
      refine ret_of (res1 rfl (rvT (rfl : _ = B false))) ?_
      exact ⟨_, rfl, rfl, S13.keep⟩
    · replace H := condF c17 H
      refine c_skip ?_
      refine reg ?_
      refine p_mI rfl ?_
      refine p_add rfl rfl ?_
      refine p_aI rfl ?_
      refine wp_nil ?_
      exact ⟨wr (z_1 + 1), (), _, rfl, ⟨rfl, rfl, rfl, trivial⟩, H, S13⟩
  · replace H := condF c14 H
    refine c_exit ?_
    refine c_seq ?_
    refine reg ?_
    refine p_aB rfl ?_
    refine wp_nil ?_
    obtain rfl := Option.some.inj H
    refine c_ret ?_; show bodyPostM (Fr none) 0 Tryd.prog Tryd.f36 _ .ret _ _
    refine ret_of (res1 rfl (rvT (rfl : _ = B true))) ?_
    exact ⟨_, rfl, rfl, S13.keep⟩

end Go.Proofs.YticodohfokgjfaaDoor

set_option linter.unusedVariables false
set_option linter.unusedSimpArgs false
namespace Go.Proofs.YticodohfokgjfaaDoor
open Go Go.Fx Go.Proofs
end Go.Proofs.YticodohfokgjfaaDoor


set_option linter.unusedSimpArgs false
set_option linter.unusedVariables false
namespace Go.Fx
open Go Go.ChangeShapes Go.WideShapes Go.ChangeAt Go.RowKit
/-! from a law's walk to its row -/
section
variable {H : Type} {enc : TypeId × Value → H} {P : Program}
theorem Keep.kept {w w' : World} (k : Keep0 w w') (may : MemPlace → Prop) : w.keptBut w' may := by
  refine ⟨k.os, k.output, fun i hi => ?_⟩
  have := k.block i hi (fun x => x)
  rw [this]
  cases w.heap[i]? with
  | none => rfl
  | some o => cases o <;> first | exact ⟨rfl, rfl, rfl, fun _ _ => rfl⟩ | exact .inr ⟨rfl, rfl⟩ | rfl
theorem Keep.same {w w' : World} (k : Keep0 w w') {p : MemPlace} (hp : p.block < w.heap.size) : w.sameAt w' p := by
  cases p with
  | cell b off =>
    have := k.block b hp (fun x => x)
    exact World.cell?_of_block (w := w) this
  | map b => exact k.block b hp (fun x => x)
theorem trodAll_stays (hl : laidOutB P = true) {W W' : World} {sp' : Nat → Bool} : ∀ {ts : List TypeId} {vs : List Value} {ds : List (DataW H)} {ps : List MemPlace},
    (∀ t ∈ ts, P.readableRec t = true ∧ t < P.types.size) → DataW.TrodAll enc P W 0 (fun _ => true) true ts vs ds ps → (∀ p ∈ ps, W.sameAt W' p) → (∀ p ∈ ps, sp' p.block = true) → DataW.TrodAll enc P W' 0 sp' true ts vs ds ps
  | [], [], [], _, _, h, _, _ => h
  | t :: ts, v :: vs, d :: ds, ps, ht, ⟨p, q, h1, h2, e⟩, hs, hb => by
    subst e
    exact ⟨p, q, WideElems.Trod_stays hl (ht t (List.mem_cons_self ..)).1 (ht t (List.mem_cons_self ..)).2 h1 (fun x hx => hs x (List.mem_append_left _ hx)) (fun x hx => hb x (List.mem_append_left _ hx)),
      trodAll_stays hl (fun t ht' => ht t (List.mem_cons_of_mem _ ht')) h2 (fun x hx => hs x (List.mem_append_right _ hx)) (fun x hx => hb x (List.mem_append_right _ hx)), rfl⟩
  | [], _ :: _, _, _, _, h, _, _ => by cases ‹List (DataW H)› <;> exact h.elim
  | [], [], _ :: _, _, _, h, _, _ => h.elim
  | _ :: _, [], _, _, _, h, _, _ => by cases ‹List (DataW H)› <;> exact h.elim
  | _ :: _, _ :: _, [], _, _, h, _, _ => h.elim
theorem law_post {fn : Func} {spec : ChangeSpec} {W W' : World} {args : Array Value} {ds gs : List (DataW H)} {before : List MemPlace} {tb : TypeId}
    (hW : DataW.Whole enc P fn.params.toList spec.vars false W args.toList ds gs before) (hl : laidOutB P = true) (hts : (fn.params.toList.all fun t => P.readableRec t && decide (t < P.types.size)) = true)
    (hvars : spec.vars = []) (hfn : spec.fn H ds = { results := [.lit (.bool true)], args := ds }) (hres : fn.resultTypes = #[tb]) (hb : P.underlying tb = some .bool) (k : Keep0 W W') :
    spec.post enc P fn false true false false W args (.bool true) W' := by
  have hlt := hW.lt
  obtain ⟨p, q, hA, hV, rfl, hfz, hnd⟩ := id hW
  have hV' := hV
  rw [hvars] at hV'
  obtain ⟨rfl, rfl⟩ := trodVars_none hV'
  rw [List.append_nil] at hlt
  have hts' : ∀ t ∈ fn.params.toList, P.readableRec t = true ∧ t < P.types.size := fun t ht => by
    have := List.all_eq_true.1 hts t ht
    simpa using this
  refine ⟨ds, [], p ++ [], [], p, [], hW, ?_, ?_, ?_, k.kept _, fun h => by cases h⟩
  · rw [List.append_nil, hfn, hres]
    exact trodAll_mk1 (shut_bool hb true)
  · rw [List.append_nil, hfn]
    exact trodAll_stays hl hts' hA (fun x hx => k.same (hlt x hx)) (fun x hx => by simpa using hlt x hx)
  · rw [List.append_nil, hfn, hvars]
    rfl
/-! arguments -/
def InI (n : Int) : Prop := -9223372036854775808 ≤ n ∧ n ≤ 9223372036854775807
theorem inI_of {n : Int} (h : (Lit.int .i64 n).wf = true) : InI n := bounds_i64 h
variable {w : World} {base : Nat} {spare : Nat → Bool} {held : Bool}
/-- a type that is read as numbers side by side -/
def FlatI (P : Program) (t : TypeId) (n : Nat) : Prop := ∀ {H : Type} {enc : TypeId × Value → H} {w : World} {base : Nat} {spare : Nat → Bool} {held : Bool} {fuel : Nat} {cs : List Value} {x : DataW H × List MemPlace},
  DataW.trod enc P w base spare held fuel t cs = some x → ∃ l : List Int, l.length = n ∧ cs = l.map I ∧ ∀ y ∈ l, InI y
theorem flat_int {t : TypeId} (ht : P.underlying t = some (.int .i64)) : FlatI P t 1 := by
  intro _ _ _ _ _ _ _ _ _ h
  obtain ⟨n, rfl, _, hw⟩ := DataW.trod_int ht h
  exact ⟨[n], rfl, rfl, fun y hy => by rw [List.mem_singleton.1 hy]; exact inI_of hw⟩
theorem flat_cells {cs : List Value} : ∀ {n : Nat}, cs.length = n → (∀ i, i < n → ∃ a : Int, cs[i]? = some (I a) ∧ InI a) → ∃ l : List Int, l.length = n ∧ cs = l.map I ∧ ∀ y ∈ l, InI y := by
  intro n hn h
  subst hn
  induction cs with
  | nil => exact ⟨[], rfl, rfl, fun _ h => (List.not_mem_nil h).elim⟩
  | cons c cs ih =>
    obtain ⟨a, ha, hi⟩ := h 0 (by simp)
    obtain ⟨l, h1, h2, h3⟩ := ih fun i hi => by
      obtain ⟨b, hb⟩ := h (i + 1) (by simp; omega)
      exact ⟨b, by simpa using hb⟩
    refine ⟨a :: l, by simp [h1], by simp at ha; rw [ha, h2]; rfl, fun y hy => ?_⟩
    rcases List.mem_cons.1 hy with rfl | hy
    · exact hi
    · exact h3 y hy
theorem take_one {cs : List Value} {o : Nat} {v : Value} (h : (cs.drop o).take 1 = [v]) : cs[o]? = some v := by
  have := congrArg (·[0]?) h
  simpa [List.getElem?_take] using this
theorem flat_array {t e : TypeId} {n : Nat} (ht : P.underlying t = some (.array n e)) (he : P.underlying e = some (.int .i64)) (hc : P.cellsOf e = 1) (hn : P.cellsOf t = n) : FlatI P t n := by
  intro _ _ _ _ _ _ _ cs _ h
  obtain ⟨xs, m, _, _, hl, hxs, hel⟩ := DataW.trod_array ht h
  refine flat_cells (hl.trans hn) fun i hi => ?_
  have := hel i hi
  rw [hc, Nat.mul_one, List.getElem?_eq_getElem (by rw [hxs]; exact hi)] at this
  obtain ⟨a, ha, _, hw⟩ := DataW.trod_int he this
  exact ⟨a, take_one ha, inI_of hw⟩
theorem flat_struct {t : TypeId} {fs : Array Field} {n : Nat} (ht : P.underlying t = some (.struct fs)) (hn : P.cellsOf t = n) (hf : ∀ i, i < n → ∃ f : Field, fs[i]? = some f ∧ f.offset = i ∧ P.underlying f.type = some (.int .i64) ∧ P.cellsOf f.type = 1) (hs : fs.size = n) : FlatI P t n := by
  intro _ _ _ _ _ _ _ cs _ h
  obtain ⟨xs, m, _, _, hl, hxs, hel⟩ := DataW.trod_struct ht h
  refine flat_cells (hl.trans hn) fun i hi => ?_
  obtain ⟨f, h1, h2, h3, h4⟩ := hf i hi
  have := hel i f h1
  rw [h2, h4, List.getElem?_eq_getElem (by rw [hxs, hs]; exact hi)] at this
  obtain ⟨a, ha, _, hw⟩ := DataW.trod_int h3 this
  exact ⟨a, take_one ha, inI_of hw⟩
theorem mapM_get {α β : Type} {f : α → Option β} : ∀ {l : List α} {r : List β}, l.mapM f = some r → ∀ (i : Nat) (a : α), l[i]? = some a → f a = r[i]?
  | [], _, _, i, a, ha => by simp at ha
  | x :: l, r, h, i, a, ha => by
    simp only [List.mapM_cons, Option.bind_eq_bind, Option.bind_eq_some_iff, Option.pure_def, Option.some.injEq] at h
    obtain ⟨b, hb, r', hr', rfl⟩ := h
    cases i with
    | zero =>
      simp only [List.getElem?_cons_zero, Option.some.injEq] at ha
      subst ha
      exact hb
    | succ i => exact mapM_get hr' i a (by simpa using ha)
theorem cell_in {w : World} {a : Addr} {v : Value} (h : w.cell? a = some v) : a.block < w.heap.size := by
  unfold World.cell? at h
  split at h
  · rename_i hw
    exact (Array.getElem?_eq_some_iff.1 hw).1
  · cases h
theorem add_blk (a : Addr) (n : Nat) : (a.add n).block = a.block ∧ (a.add n).off = a.off + n := by
  unfold Addr.add
  split
  · rename_i h; subst h; exact ⟨rfl, rfl⟩
  · exact ⟨rfl, rfl⟩
theorem cellN {w : World} {a : Addr} {n : Nat} {v : Value} (h : w.cell? (a.add n) = some v) : w.cell? ⟨a.block, a.off + n, none⟩ = some v := by
  have h1 := World.cell?_spot h
  obtain ⟨h2, h3⟩ := add_blk a n
  have : a.add n = ⟨a.block, a.off + n, none⟩ := by
    generalize a.add n = x at h1 h2 h3
    cases x
    cases h1; cases h2; cases h3; rfl
  rwa [this] at h
/-- a slice of such -/
theorem slice_flat {t e : TypeId} {s fuel : Nat} {cs : List Value} {x : DataW H × List MemPlace} (ht : P.underlying t = some (.slice e)) (F : FlatI P e s) (hs : P.cellsOf e = s) (h0 : 0 < s)
    (h : DataW.trod enc P w 0 spare held fuel t cs = some x) : ∃ A c, ∃ xs : List (List Int), cs = [SL A xs.length c] ∧ (∀ l ∈ xs, l.length = s ∧ ∀ y ∈ l, InI y) ∧ (rd (fun l : List Int => l.map I) s A c xs).ok w := by
  rcases DataW.trod_slice ht h with ⟨rfl, _⟩ | ⟨a, len, cap, elems, rest, n, _, rfl, _, _, hlc, hcm, hel, hE, _, _⟩
  · exact ⟨none, 0, [], rfl, fun _ h => (List.not_mem_nil h).elim, .inl rfl, Nat.le_refl _, Nat.zero_le _⟩
  · have ex : ∀ i, i < len → ∃ l : List Int, l.length = s ∧ (∀ y ∈ l, InI y) ∧ ∀ j v, (l.map I)[j]? = some v → w.cell? ⟨a.block, a.off + i * s + j, none⟩ = some v := by
      intro i hi
      have := hE i hi
      rw [hs, List.getElem?_eq_getElem (by rw [hel]; exact hi)] at this
      obtain ⟨cs, hc, hd⟩ := Option.bind_eq_some_iff.1 this
      obtain ⟨l, hl, rfl, hy⟩ := F hd
      refine ⟨l, hl, hy, fun j v hj => ?_⟩
      unfold World.cells? at hc
      rw [if_pos (Nat.zero_le _)] at hc
      have hjl : j < s := by
        have := (List.getElem?_eq_some_iff.1 hj).1
        rw [List.length_map, hl] at this
        exact this
      have := mapM_get hc j j (List.getElem?_range hjl)
      rw [hj] at this
      have := cellN this
      rwa [(add_blk a (i * s)).1, (add_blk a (i * s)).2] at this
    have ch : ∃ f : Nat → List Int, ∀ i, i < len → (f i).length = s ∧ (∀ y ∈ f i, InI y) ∧ ∀ j v, ((f i).map I)[j]? = some v → w.cell? ⟨a.block, a.off + i * s + j, none⟩ = some v :=
      ⟨fun i => if h : i < len then Classical.choose (ex i h) else [], fun i hi => by simp only [dif_pos hi]; exact Classical.choose_spec (ex i hi)⟩
    obtain ⟨f, hf⟩ := ch
    refine ⟨some a, cap, (List.range len).map f, by simp [SL], fun l hl => ?_, ?_, by simpa using hlc, hcm⟩
    · obtain ⟨i, hi, rfl⟩ := List.mem_map.1 hl
      have := hf i (List.mem_range.1 hi)
      exact ⟨this.1, this.2.1⟩
    · by_cases hz : len = 0
      · left; subst hz; rfl
      · right
        have h00 := (hf 0 (by omega)).2.2 0 (I ((f 0)[0]'(by rw [(hf 0 (by omega)).1]; exact h0))) (by simp [(hf 0 (by omega)).1, h0])
        obtain ⟨b, o, sp⟩ := a
        have hsp : sp = none := by
          have := hE 0 (by omega)
          rw [hs, List.getElem?_eq_getElem (by rw [hel]; omega)] at this
          obtain ⟨cs, hc, hd⟩ := Option.bind_eq_some_iff.1 this
          obtain ⟨l, hl, rfl, hy⟩ := F hd
          unfold World.cells? at hc
          rw [if_pos (Nat.zero_le _)] at hc
          have := mapM_get hc 0 0 (List.getElem?_range h0)
          rw [List.getElem?_eq_getElem (by rw [List.length_map, hl]; exact h0)] at this
          rw [Nat.zero_mul] at this
          exact World.cell?_spot (show w.cell? ⟨b, o, sp⟩ = _ from this)
        subst hsp
        refine ⟨b, o, rfl, cell_in h00, fun i x hx j v hv => ?_⟩
        have hi : i < len := by
          have := (List.getElem?_eq_some_iff.1 hx).1
          simpa using this
        have hx' : x = f i := by simpa [List.getElem?_range, hi] using hx.symm
        subst hx'
        exact (hf i hi).2.2 j v hv
theorem rd_map {α β : Type} {e1 : α → List Value} {e2 : β → List Value} {s c : Nat} {A : Option Addr} {xs : List α} (f : α → β) (h : ∀ x ∈ xs, e2 (f x) = e1 x) (h1 : (rd e1 s A c xs).ok w) : (rd e2 s A c (xs.map f)).ok w := by
  refine ⟨?_, by simpa using h1.2.1, h1.2.2⟩
  rcases h1.1 with rfl | ⟨b, o, e, hb, hc⟩
  · exact .inl rfl
  · refine .inr ⟨b, o, e, hb, fun i x hx j v hv => ?_⟩
    rw [List.getElem?_map] at hx
    obtain ⟨y, hy, rfl⟩ := Option.map_eq_some_iff.1 hx
    rw [h y (List.mem_of_getElem? hy)] at hv
    exact hc i y hy j v hv
theorem dec_int {r : Reach} {b0 : Nat} {t : TypeId} {v : Value} {d : DataW H} {ps : List MemPlace} (ht : P.underlying t = some (.int .i64)) (hval : Value.okWide P w r b0 t v) (hd : DataW.Trod enc P w base spare held t v d ps) : ∃ n, v = I n ∧ InI n := by
  obtain ⟨n, h1, _, _, hw⟩ := open_int ht hval hd
  exact ⟨n, h1, inI_of hw⟩
theorem okWide_cells {r : Reach} {b0 : Nat} {t : TypeId} {v : Value} (ht : (match P.underlying t with | some (.struct _) | some (.array _ _) => true | _ => false) = true) (hval : Value.okWide P w r b0 t v) : ∃ cs, v = .agg cs := by
  unfold Value.okWide at hval
  split at hval
  · obtain ⟨cs, h, _⟩ := hval; exact ⟨cs, h⟩
  · obtain ⟨cs, h, _⟩ := hval; exact ⟨cs, h⟩
  · rename_i h1 h2
    split at ht
    · rename_i h; exact absurd h (h1 _)
    · rename_i h; exact absurd h (h2 _ _)
    · cases ht
theorem dec_slice {r : Reach} {b0 s : Nat} {t e : TypeId} {v : Value} {d : DataW H} {ps : List MemPlace} (ht : P.underlying t = some (.slice e)) (F : FlatI P e s) (hs : P.cellsOf e = s) (h0 : 0 < s) (hval : Value.okWide P w r b0 t v) (hd : DataW.Trod enc P w 0 spare held t v d ps) :
    ∃ A c, ∃ xs : List (List Int), v = SL A xs.length c ∧ (∀ l ∈ xs, l.length = s ∧ ∀ y ∈ l, InI y) ∧ (rd (fun l : List Int => l.map I) s A c xs).ok w := by
  obtain ⟨fuel, hf⟩ := hd
  obtain ⟨A, c, xs, h1, h2, h3⟩ := slice_flat ht F hs h0 hf
  refine ⟨A, c, xs, ?_, h2, h3⟩
  obtain ⟨a, len, cap, rfl⟩ := okWide_slice ht hval
  simpa [Value.cells] using h1
end
end Go.Fx

set_option linter.unusedVariables false
namespace Go.Proofs.YticodohfokgjfaaDoor
open Go Go.Fx Go.Proofs Go.ChangeShapes Go.WideShapes Go.ChangeAt Go.RowKit
theorem own : ownKnob Tryd.prog.godebug = none := by kernel_rfl
theorem gAsks : Tryd.prog.globalNamed "prow/coal.asks" = some 0 := by kernel_rfl
theorem tAsks : (Tryd.prog.globals[0]?).map (·.type) = some 110 := by kernel_rfl
theorem gStill : Tryd.prog.globalNamed "prow/coal.still" = some 1 := by kernel_rfl
theorem tStill : (Tryd.prog.globals[1]?).map (·.type) = some 123 := by kernel_rfl
theorem laidOut : laidOutB Tryd.prog = true := by kernel_rfl
theorem u110 : Tryd.prog.underlying 110 = some (.array 2 109) := by kernel_rfl
theorem u109b : (match Tryd.prog.underlying 109 with | some (.func _ _ _) => true | _ => false) = true := by kernel_rfl
theorem u109 : ∃ ps rs va, Tryd.prog.underlying 109 = some (.func ps rs va) := by
  have h := u109b
  split at h
  · rename_i ps rs va hu; exact ⟨ps, rs, va, hu⟩
  · cases h
theorem u3 : Tryd.prog.underlying 3 = some (.int .i64) := by kernel_rfl
theorem c109 : Tryd.prog.cellsOf 109 = 1 := by kernel_rfl
theorem c110 : Tryd.prog.cellsOf 110 = 2 := by kernel_rfl
theorem c123 : Tryd.prog.cellsOf 123 = 2 := by kernel_rfl
theorem c3 : Tryd.prog.cellsOf 3 = 1 := by kernel_rfl
theorem u123 : ∃ f0 f1 : Field, Tryd.prog.underlying 123 = some (.struct #[f0, f1]) ∧ f0.type = 3 ∧ f1.type = 3 ∧ f0.offset = 0 ∧ f1.offset = 1 := ⟨(Tryd.prog.fieldsOf 123)[0]!, (Tryd.prog.fieldsOf 123)[1]!, by kernel_rfl, by kernel_rfl, by kernel_rfl, by kernel_rfl, by kernel_rfl⟩
def laidL : List (String × DataW Unit) := [("prow/coal.still", Rows.laid_prow_coal_still), ("prow/coal.asks", Rows.laid_prow_coal_asks)]
theorem var_heap {W : World} {n : String} {g : Nat} {cs c : Array Value} {t : TypeId} {fr : Nat × Nat} (hg : Tryd.prog.globalNamed n = some g) (hv : W.var? Tryd.prog n = some cs) (hh : W.heap[g]? = some (.cells c t fr)) : cs = c := by
  unfold World.var? at hv
  rw [hg] at hv
  simp only [Option.bind_some, hh] at hv
  exact (Option.some.inj hv).symm
theorem shape0 : ∃ zero, (((begin Tryd.prog (fun _ _ => 0) default).world.heap[0]?).bind Obj.row?) = some (zero, 110) := ⟨#[.nilFunc, .nilFunc], by kernel_rfl⟩
theorem shape1 : ∃ zero, (((begin Tryd.prog (fun _ _ => 0) default).world.heap[1]?).bind Obj.row?) = some (zero, 123) := ⟨#[I 0, I 0], by kernel_rfl⟩
set_option maxRecDepth 100000 in
theorem globals_ok {W : World} (hS : W.ShapedOpen Tryd.prog) (h : laidMetH Tryd.prog laidL W) : (bl 0 [Value.func (.func 128) #[] #[], Value.func (.func 129) #[] #[]] 110).ok W ∧ (bl 1 [I (-1), I (-1)] 123).ok W := by
  obtain ⟨z0, hz0⟩ := shape0
  obtain ⟨z1, hz1⟩ := shape1
  obtain ⟨cs0, h0, _⟩ := hS.1 0 z0 110 (of_decide_eq_true (by kernel_rfl)) hz0
  obtain ⟨cs1, h1, _⟩ := hS.1 1 z1 123 (of_decide_eq_true (by kernel_rfl)) hz1
  constructor
  · obtain ⟨g, t, cs, fuel, p, hg, ht, hv, hd⟩ := h.funcs (n := "prow/coal.asks") (List.mem_cons_of_mem _ (List.mem_cons_self ..))
    obtain rfl := Option.some.inj (gAsks.symm.trans hg)
    obtain rfl := Option.some.inj (tAsks.symm.trans ht)
    obtain rfl := var_heap gAsks hv h0
    obtain ⟨xs, m, _, hx, hl, hxs, hel⟩ := DataW.trod_array u110 hd
    rw [c110] at hl
    have hx' : xs.map (·.1) = [.held [40, 112, 114, 111, 119, 47, 99, 111, 97, 108, 46, 98, 111, 111, 107, 41, 46, 115, 111, 109, 101], .held [40, 112, 114, 111, 119, 47, 99, 111, 97, 108, 46, 98, 111, 111, 107, 41, 46, 101, 97, 99, 104]] := by
      have := congrArg Prod.fst hx
      exact (DataW.agg.inj this).symm
    obtain ⟨ps, rs, va, hu⟩ := u109
    obtain ⟨cl⟩ := cs
    match cl, hl with
    | [v0, v1], _ =>
      match xs, hx' with
      | [(_, p0), (_, p1)], hx' =>
        simp only [List.map_cons, List.map_nil, List.cons.injEq, and_true] at hx'
        obtain ⟨rfl, rfl⟩ := hx'
        have e0 := hel 0 (by decide)
        have e1 := hel 1 (by decide)
        rw [c109] at e0 e1
        obtain rfl := func_of_trod (f0 := 128) hu (by kernel_rfl) (show DataW.trod _ _ _ _ _ _ _ _ [v0] = some (_, p0) from e0)
        obtain rfl := func_of_trod (f0 := 129) hu (by kernel_rfl) (show DataW.trod _ _ _ _ _ _ _ _ [v1] = some (_, p1) from e1)
        exact h0
  · have h' : laidMet Tryd.prog [("prow/coal.still", Rows.laid_prow_coal_still)] W := h.1
    obtain ⟨ps, ⟨g, t, cs, fuel, p, q, hg, ht, hv, hd, _, _⟩, _⟩ := h'
    obtain rfl := Option.some.inj (gStill.symm.trans hg)
    obtain rfl := Option.some.inj (tStill.symm.trans ht)
    obtain rfl := var_heap gStill hv h1
    obtain ⟨f0, f1, hu, ht0, ht1, ho0, ho1⟩ := u123
    obtain ⟨xs, m, _, hx, hl, hxs, hel⟩ := DataW.trod_struct hu hd
    rw [c123] at hl
    have hx' : xs.map (·.1) = [.lit (.int .i64 (-1)), .lit (.int .i64 (-1))] := by
      have := congrArg Prod.fst hx
      exact (DataW.agg.inj this).symm
    obtain ⟨cl⟩ := cs
    match cl, hl with
    | [v0, v1], _ =>
      match xs, hx' with
      | [(_, p0), (_, p1)], hx' =>
        simp only [List.map_cons, List.map_nil, List.cons.injEq, and_true] at hx'
        obtain ⟨rfl, rfl⟩ := hx'
        have e0 := hel 0 f0 rfl
        have e1 := hel 1 f1 rfl
        rw [ho0, ht0, c3] at e0
        rw [ho1, ht1, c3] at e1
        obtain ⟨n0, a0, b0, _⟩ := DataW.trod_int u3 (show DataW.trod _ _ _ _ _ _ _ _ [v0] = some (_, p0) from e0)
        obtain ⟨n1, a1, b1, _⟩ := DataW.trod_int u3 (show DataW.trod _ _ _ _ _ _ _ _ [v1] = some (_, p1) from e1)
        cases a0; cases a1; cases b0; cases b1
        exact h1
def putCells (cs : Array Value) : Obj → Obj
  | .cells _ t frozen => .cells cs t frozen
  | o => o
/-- a world for the witness: both listed variables hold what the text lays -/
noncomputable def laidWorld (os : Os) : World :=
  { World.holding Tryd.prog os ⟨#[], #[], []⟩ with heap := ((World.holding Tryd.prog os ⟨#[], #[], []⟩).heap.modify 0 (putCells #[.func (.func 128) #[] #[], .func (.func 129) #[] #[]])).modify 1 (putCells #[I (-1), I (-1)]) }
end Go.Proofs.YticodohfokgjfaaDoor

set_option linter.unusedVariables false
set_option linter.constructorNameAsVariable false
set_option maxRecDepth 100000
namespace Go.Proofs.YticodohfokgjfaaDoor
open Go Go.Fx Go.Proofs Go.ChangeShapes Go.WideShapes Go.ChangeAt Go.RowKit
theorem get_bang {α : Type} [Inhabited α] {a : Array α} {i : Nat} (h : i < a.size) : a[i]? = some a[i]! := by
  rw [Array.getElem?_eq_getElem h, getElem!_pos a i h]
theorem st {t n : Nat} (u : Tryd.prog.underlying t = some (.struct (Tryd.prog.fieldsOf t))) (c : Tryd.prog.cellsOf t = n) (s : (Tryd.prog.fieldsOf t).size = n)
    (b : ((List.range n).all fun i => (Tryd.prog.fieldsOf t)[i]!.offset == i && (Tryd.prog.fieldsOf t)[i]!.type == 3) = true) : FlatI Tryd.prog t n := by
  refine flat_struct u c (fun i hi => ?_) s
  refine ⟨_, get_bang (by rw [s]; exact hi), ?_⟩
  have := List.all_eq_true.1 b i (List.mem_range.2 hi)
  simp only [Bool.and_eq_true, beq_iff_eq] at this
  exact ⟨this.1, by rw [this.2]; exact u3, by rw [this.2]; exact c3⟩
theorem c23 : Tryd.prog.cellsOf 23 = 2 := by kernel_rfl
theorem c64 : Tryd.prog.cellsOf 64 = 3 := by kernel_rfl
theorem c67 : Tryd.prog.cellsOf 67 = 3 := by kernel_rfl
theorem c29 : Tryd.prog.cellsOf 29 = 14 := by kernel_rfl
theorem c24 : Tryd.prog.cellsOf 24 = 4 := by kernel_rfl
theorem c25 : Tryd.prog.cellsOf 25 = 3 := by kernel_rfl
theorem c26 : Tryd.prog.cellsOf 26 = 1 := by kernel_rfl
theorem c27 : Tryd.prog.cellsOf 27 = 1 := by kernel_rfl
theorem u24 : Tryd.prog.underlying 24 = some (.array 2 23) := by kernel_rfl
theorem u25 : Tryd.prog.underlying 25 = some (.array 3 3) := by kernel_rfl
theorem u26 : Tryd.prog.underlying 26 = some (.slice 64) := by kernel_rfl
theorem u27 : Tryd.prog.underlying 27 = some (.slice 67) := by kernel_rfl
theorem u39 : Tryd.prog.underlying 39 = some (.slice 3) := by kernel_rfl
theorem u29 : Tryd.prog.underlying 29 = some (.struct (Tryd.prog.fieldsOf 29)) := by kernel_rfl
theorem flat23 : FlatI Tryd.prog 23 2 := st (by kernel_rfl) c23 (by kernel_rfl) (by kernel_rfl)
theorem flat64 : FlatI Tryd.prog 64 3 := st (by kernel_rfl) c64 (by kernel_rfl) (by kernel_rfl)
theorem flat67 : FlatI Tryd.prog 67 3 := st (by kernel_rfl) c67 (by kernel_rfl) (by kernel_rfl)
theorem flat25 : FlatI Tryd.prog 25 3 := flat_array u25 u3 c3 c25
theorem f29s : (Tryd.prog.fieldsOf 29).size = 7 := by kernel_rfl
theorem f29b : ([(0, 0, 23), (1, 2, 24), (2, 6, 25), (3, 9, 26), (4, 10, 23), (5, 12, 3), (6, 13, 27)].all fun (x : Nat × Nat × Nat) => (Tryd.prog.fieldsOf 29)[x.1]!.offset == x.2.1 && (Tryd.prog.fieldsOf 29)[x.1]!.type == x.2.2) = true := by kernel_rfl
theorem maxLen_le : maxLen ≤ 9223372036854775807 := by decide
def dayOf (l : List Int) : CoalDay := ⟨l.getD 0 0, l.getD 1 0, l.getD 2 0⟩
theorem dayOf_cells {l : List Int} (h : l.length = 3) : eCoalDay (dayOf l) = l.map I := by
  match l, h with
  | [_, _, _], _ => rfl
def dipOf (l : List Int) : CoalDip := ⟨l.getD 0 0, l.getD 1 0, l.getD 2 0⟩
theorem dipOf_cells {l : List Int} (h : l.length = 3) : eCoalDip (dipOf l) = l.map I := by
  match l, h with
  | [_, _, _], _ => rfl
variable {H : Type} {enc : TypeId × Value → H} {w : World} {spare : Nat → Bool} {held : Bool} {r : Reach} {b0 : Nat} {v : Value} {d : DataW H} {ps : List MemPlace}
theorem dec_ints (hval : Value.okWide Tryd.prog w r b0 39 v) (hd : DataW.Trod enc Tryd.prog w 0 spare held 39 v d ps) : ∃ A c, ∃ l : List Int, v = SL A l.length c ∧ (rd intE 1 A c l).ok w ∧ l.length ≤ 9223372036854775807 ∧ ∀ y ∈ l, InI y := by
  obtain ⟨A, c, xs, rfl, h1, h2⟩ := dec_slice u39 (flat_int u3) c3 (by decide) hval hd
  have h3 := rd_map (e2 := intE) (fun l : List Int => l.getD 0 0) (fun x hx => by
    match x, (h1 x hx).1 with
    | [a], _ => rfl) h2
  refine ⟨A, c, xs.map fun l : List Int => l.getD 0 0, by simp, h3, ?_, fun y hy => ?_⟩
  · have := maxLen_le; have := h3.2.1; have := h3.2.2; omega
  · obtain ⟨x, hx, rfl⟩ := List.mem_map.1 hy
    have := h1 x hx
    match x, this with
    | [a], h => exact h.2 a (by simp)
theorem two_of {fuel : Nat} {cs : List Value} {x : DataW H × List MemPlace} (h : DataW.trod enc Tryd.prog w 0 spare held fuel 23 cs = some x) : ∃ s : Span, cs = eSpan s := by
  obtain ⟨l, hl, rfl, _⟩ := flat23 h
  match l, hl with
  | [a, b], _ => exact ⟨⟨a, b⟩, rfl⟩
theorem four_of {fuel : Nat} {cs : List Value} {x : DataW H × List MemPlace} (h : DataW.trod enc Tryd.prog w 0 spare held fuel 24 cs = some x) : ∃ l : List Span, l.length = 2 ∧ cs = sgE eSpan l 2 := by
  obtain ⟨xs, m, _, _, hl, hxs, hel⟩ := DataW.trod_array u24 h
  rw [c24] at hl
  have e0 := hel 0 (by decide)
  have e1 := hel 1 (by decide)
  rw [c23, List.getElem?_eq_getElem (by omega)] at e0 e1
  obtain ⟨s0, h0⟩ := two_of e0
  obtain ⟨s1, h1⟩ := two_of e1
  refine ⟨[s0, s1], rfl, ?_⟩
  match cs, hl with
  | [a, b, c, d], _ =>
    simp [eSpan] at h0 h1
    obtain ⟨rfl, rfl⟩ := h0
    obtain ⟨rfl, rfl⟩ := h1
    rfl
theorem dec_book (hval : Value.okWide Tryd.prog w r b0 29 v) (hd : DataW.Trod enc Tryd.prog w 0 spare held 29 v d ps) : ∃ A1 c1 A2 c2, ∃ b : CoalBook, v = AG ([I b.Heap.Low, I b.Heap.High] ++ (sgE eSpan b.Eats 2 ++ (sg b.Extra 3 ++ [SL A1 b.Days.length c1, I b.Collier.Low, I b.Collier.High, I b.Brings, SL A2 b.Dips.length c2]))) ∧
    (rd eCoalDay 3 A1 c1 b.Days).ok w ∧ (rd eCoalDip 3 A2 c2 b.Dips).ok w ∧ b.Days.length ≤ 9223372036854775807 ∧ b.Dips.length ≤ 9223372036854775807 ∧ b.Eats.length = 2 ∧ b.Extra.length = 3 := by
  obtain ⟨cs, rfl⟩ := okWide_cells (by kernel_rfl) hval
  obtain ⟨fuel, hf⟩ := hd
  obtain ⟨xs, m, _, _, hl, hxs, hel⟩ := DataW.trod_struct u29 hf
  rw [c29] at hl
  rw [f29s] at hxs
  have fb := f29b
  simp only [List.all_cons, List.all_nil, Bool.and_eq_true, beq_iff_eq, and_true] at fb
  obtain ⟨⟨o0, t0⟩, ⟨o1, t1⟩, ⟨o2, t2⟩, ⟨o3, t3⟩, ⟨o4, t4⟩, ⟨o5, t5⟩, ⟨o6, t6⟩⟩ := fb
  have e0 := hel 0 _ (get_bang (by rw [f29s]; decide))
  have e1 := hel 1 _ (get_bang (by rw [f29s]; decide))
  have e2 := hel 2 _ (get_bang (by rw [f29s]; decide))
  have e3 := hel 3 _ (get_bang (by rw [f29s]; decide))
  have e4 := hel 4 _ (get_bang (by rw [f29s]; decide))
  have e5 := hel 5 _ (get_bang (by rw [f29s]; decide))
  have e6 := hel 6 _ (get_bang (by rw [f29s]; decide))
  rw [o0, t0, c23, List.getElem?_eq_getElem (by omega)] at e0
  rw [o1, t1, c24, List.getElem?_eq_getElem (by omega)] at e1
  rw [o2, t2, c25, List.getElem?_eq_getElem (by omega)] at e2
  rw [o3, t3, c26, List.getElem?_eq_getElem (by omega)] at e3
  rw [o4, t4, c23, List.getElem?_eq_getElem (by omega)] at e4
  rw [o5, t5, c3, List.getElem?_eq_getElem (by omega)] at e5
  rw [o6, t6, c27, List.getElem?_eq_getElem (by omega)] at e6
  obtain ⟨s0, g0⟩ := two_of e0
  obtain ⟨l1, k1, g1⟩ := four_of e1
  obtain ⟨l2, k2, g2, _⟩ := flat25 e2
  obtain ⟨A3, c3', l3, g3, h31, h32⟩ := slice_flat u26 flat64 c64 (by decide) e3
  obtain ⟨s4, g4⟩ := two_of e4
  obtain ⟨n5, g5, _, _⟩ := DataW.trod_int u3 e5
  obtain ⟨A6, c6', l6, g6, h61, h62⟩ := slice_flat u27 flat67 c67 (by decide) e6
  have m3 := rd_map (e2 := eCoalDay) dayOf (fun x hx => dayOf_cells (h31 x hx).1) h32
  have m6 := rd_map (e2 := eCoalDip) dipOf (fun x hx => dipOf_cells (h61 x hx).1) h62
  refine ⟨A3, c3', A6, c6', ⟨s0, l1, l2, l3.map dayOf, s4, n5, l6.map dipOf⟩, ?_, m3, m6, ?_, ?_, k1, k2⟩
  · obtain ⟨cl⟩ := cs
    match l1, k1, l2, k2 with
    | [p, q], _, [x, y, z], _ =>
      match cl, hl with
      | [y0, y1, y2, y3, y4, y5, y6, y7, y8, y9, y10, y11, y12, y13], _ =>
        simp [Value.cells, eSpan, sgE, sgEF] at g0 g1 g2 g3 g4 g5 g6
        obtain ⟨rfl, rfl⟩ := g0
        obtain ⟨rfl, rfl, rfl, rfl⟩ := g1
        obtain ⟨rfl, rfl, rfl⟩ := g2
        obtain ⟨rfl, rfl⟩ := g4
        subst g3 g5 g6
        simp [sgE, sgEF, sg, sgF, eSpan]
  · have := maxLen_le; have := m3.2.1; have := m3.2.2; simp only; omega
  · have := maxLen_le; have := m6.2.1; have := m6.2.2; simp only; omega
end Go.Proofs.YticodohfokgjfaaDoor

set_option linter.unusedVariables false
set_option linter.unusedSimpArgs false
namespace Go.Proofs.YticodohfokgjfaaDoor
open Go Go.Fx
theorem wrI {x : Int} (h0 : -9223372036854775808 ≤ x) (h1 : x ≤ 9223372036854775807) : Fx.wr x = x := wr_eq h0 h1
def inB (a lo hi : Int) : Bool := decide (lo ≤ a) && decide (a ≤ hi)
theorem inB_iff {a lo hi : Int} : inB a lo hi = true ↔ lo ≤ a ∧ a ≤ hi := by simp [inB]
theorem within_eq (a b c : Int) : coal_within a b c = some (inB a b c) := by
  unfold coal_within inB
  cases decide (b ≤ a) <;> rfl
theorem inside_eq (a b c : Int) : B_Inside a b c = some (inB a b c) := by
  unfold B_Inside inB
  rw [show decide (a ≥ b) = decide (b ≤ a) from rfl]
  cases decide (b ≤ a) <;> rfl
theorem getI_lt {α : Type} {l : List α} {i : Int} (h0 : 0 ≤ i) (h : i < l.length) : ∃ x, getI l i = some x ∧ l[i.toNat]? = some x := by
  have hi : i.toNat < l.length := by omega
  exact ⟨l[i.toNat], getI_of h0 (List.getElem?_eq_getElem hi), List.getElem?_eq_getElem hi⟩
theorem getI_ix {α : Type} {l : List α} {k : Nat} (h : k < l.length) : getI l (k : Int) = some l[k] := by rw [getI_nat, List.getElem?_eq_getElem h]
theorem mod_ok (a m : Int) (h : 0 < m) (h2 : m ≤ 9223372036854775807) : ∃ r, B_Mod a m = some r ∧ 0 ≤ r ∧ r < m := by
  unfold B_Mod modI
  rw [decide_eq_false (by omega), cond_false, need_of (by simp; omega)]
  have h3 := Int.tmod_lt_of_pos a h
  have h4 := Int.lt_tmod_of_pos a h
  by_cases hn : a.tmod m < 0
  · rw [decide_eq_true hn, cond_true, wrI (by omega) (by omega)]
    exact ⟨_, rfl, by omega, by omega⟩
  · rw [decide_eq_false hn, cond_false]
    exact ⟨_, rfl, by omega, by omega⟩
/-- a loop whose state behind k rounds is known -/
theorem loop_fold {σ ρ : Type} {body : (σ → Option ρ) → σ → Option ρ} (S : Nat → σ) (n : Nat) {R : Option ρ} (hs : ∀ rec k, k < n → body rec (S k) = rec (S (k + 1))) (he : ∀ rec, body rec (S n) = R) (hn : n < big) : loopF body big (S 0) = R := by
  have key : ∀ d k m, k + d = n → d < m → loopF body m (S k) = R := by
    intro d
    induction d with
    | zero =>
      intro k m h1 h2
      obtain ⟨m, rfl⟩ : ∃ q, m = q + 1 := ⟨m - 1, by omega⟩
      obtain rfl : k = n := by omega
      exact he _
    | succ d ih =>
      intro k m h1 h2
      obtain ⟨m, rfl⟩ : ∃ q, m = q + 1 := ⟨m - 1, by omega⟩
      show body (loopF body m) (S k) = R
      rw [hs _ k (by omega)]
      exact ih (k + 1) m (by omega) (by omega)
  exact key n 0 big (by omega) hn
theorem loop_fold0 {σ ρ : Type} {body : (σ → Option ρ) → σ → Option ρ} (S : Nat → σ) (n : Nat) {s0 : σ} {R : Option ρ} (hs : ∀ rec k, k < n → body rec (S k) = rec (S (k + 1))) (he : ∀ rec, body rec (S n) = R) (hn : n < big) (h0 : S 0 = s0) : loopF body big s0 = R := h0 ▸ loop_fold S n hs he hn
theorem big_eq : big = 18446744073709551616 := by decide
/-- all of a list, seen one by one -/
def allTo {α : Type} (p : α → Bool) (l : List α) (ok : Bool) (k : Nat) : Bool := ok && (l.take k).all p
theorem allTo_zero {α : Type} {p : α → Bool} {l : List α} {ok : Bool} : allTo p l ok 0 = ok := by simp [allTo]
theorem allTo_succ {α : Type} {p : α → Bool} {l : List α} {ok : Bool} {k : Nat} (h : k < l.length) : allTo p l ok (k + 1) = (allTo p l ok k && p l[k]) := by
  unfold allTo
  rw [← List.take_append_getElem h, List.all_append]
  simp [Bool.and_assoc]
theorem allTo_end {α : Type} {p : α → Bool} {l : List α} {ok : Bool} : allTo p l ok l.length = (ok && l.all p) := by simp [allTo]
theorem wrN {k : Nat} {n : Nat} (h : k < n) (hn : n ≤ 9223372036854775807) : Fx.wr ((k : Int) + 1) = ((k + 1 : Nat) : Int) := by rw [wrI (by omega) (by omega)]; omega
structure Arg (b : CoalBook) : Prop where
  dl : b.Days.length ≤ 9223372036854775807
  pl : b.Dips.length ≤ 9223372036854775807
  el : b.Eats.length = 2
  xl : b.Extra.length = 3
def spB (s : Span) (hi wide : Int) : Bool := decide (0 ≤ s.Low) && decide (s.Low ≤ s.High) && decide (s.High ≤ hi) && decide (s.High - s.Low ≤ wide)
theorem isSpan_eq (s : Span) (hi wide : Int) (hh : hi ≤ 9223372036854775807) : coal_isSpan s hi wide = some (spB s hi wide) := by
  unfold coal_isSpan spB
  by_cases h1 : 0 ≤ s.Low <;> by_cases h2 : s.Low ≤ s.High <;> by_cases h3 : s.High ≤ hi <;> simp only [h1, h2, h3, decide_true, decide_false, cond_true, cond_false, Bool.true_and, Bool.false_and, Bool.and_false]
  rw [wrI (by omega) (by omega)]
theorem spB_valid {s : Span} {hi wide : Int} (h : spB s hi wide = true) : B_Valid s 0 hi = some true := by
  unfold spB at h
  simp only [Bool.and_eq_true, decide_eq_true_eq] at h
  unfold B_Valid
  simp [h.1.1.1, h.1.1.2, h.1.2]
def dayB (x : CoalDay) : Bool := inB x.Crosses 0 9 && inB x.Engines 1 3 && inB x.Winds 1 7
def dipB (n : Nat) (x : CoalDip) : Bool := inB x.Day 0 ((n : Int) - 1) && inB x.Read 0 800 && inB x.Error 0 9
theorem isDay_eq (b : CoalBook) (A : Arg b) (n : Int) : coal_isDay b n = some (inB n 0 ((b.Days.length : Int) - 1)) := by
  unfold coal_isDay
  have := A.dl
  rw [wrI (by omega) (by omega), within_eq]; rfl
def valB (b : CoalBook) : Bool := spB b.Heap 400 4 && inB b.Days.length 1 6 && spB b.Collier b.Days.length 3 && inB b.Brings 0 400 && decide ((b.Dips.length : Int) ≤ 4) && b.Eats.all (spB · 9 2) && b.Extra.all (inB · 0 9) && b.Days.all dayB && b.Dips.all (dipB b.Days.length)
theorem check_tail (b : CoalBook) (A : Arg b) (ok : Bool) : coal_Check_j9 b ok = some (bif ok && b.Eats.all (spB · 9 2) && b.Extra.all (inB · 0 9) && b.Days.all dayB && b.Dips.all (dipB b.Days.length) then 0 else 60) := by
  have h1 := A.dl; have h2 := A.pl; have h3 := A.el; have h4 := A.xl
  unfold coal_Check_j9
  refine loop_fold0 (fun k => (allTo (spB · 9 2) b.Eats ok k, (k : Int))) 2 (fun rec k hk => ?_) (fun rec => ?_) (by rw [big_eq]; omega) (by rw [allTo_zero]; rfl)
  · unfold coal_Check_l8
    simp only
    rw [decide_eq_true (by omega), cond_true, need_of (by simp [inI]; omega), wrN hk (by omega), allTo_succ (by omega)]
    rw [isSpan_eq _ _ _ (by omega), show agetS b.Eats (k : Int) = b.Eats[k]'(by omega) by simp [agetS, List.getD_eq_getElem?_getD, List.getElem?_eq_getElem (show k < b.Eats.length by omega)]]
    cases allTo (spB · 9 2) b.Eats ok k <;> simp
  unfold coal_Check_l8
  simp only
  rw [decide_eq_false (by omega), cond_false, show allTo (spB · 9 2) b.Eats ok 2 = (ok && b.Eats.all (spB · 9 2)) by rw [← h3, allTo_end]]
  generalize (ok && b.Eats.all (spB · 9 2)) = ok
  refine loop_fold0 (fun k => (allTo (inB · 0 9) b.Extra ok k, (k : Int))) 3 (fun rec k hk => ?_) (fun rec => ?_) (by rw [big_eq]; omega) (by rw [allTo_zero]; rfl)
  · unfold coal_Check_l7
    simp only
    rw [decide_eq_true (by omega), cond_true, need_of (by simp [inI]; omega), wrN hk (by omega), allTo_succ (by omega), within_eq]
    rw [show aget b.Extra (k : Int) = b.Extra[k]'(by omega) by simp [aget, List.getD_eq_getElem?_getD, List.getElem?_eq_getElem (show k < b.Extra.length by omega)]]
    cases allTo (inB · 0 9) b.Extra ok k <;> simp
  unfold coal_Check_l7
  simp only
  rw [decide_eq_false (by omega), cond_false, show allTo (inB · 0 9) b.Extra ok 3 = (ok && b.Extra.all (inB · 0 9)) by rw [← h4, allTo_end]]
  generalize (ok && b.Extra.all (inB · 0 9)) = ok
  refine loop_fold0 (fun k => (allTo dayB b.Days ok k, (k : Int))) b.Days.length (fun rec k hk => ?_) (fun rec => ?_) (by rw [big_eq]; omega) (by rw [allTo_zero]; rfl)
  · unfold coal_Check_l6
    simp only
    rw [decide_eq_true (by omega), cond_true, getI_ix hk, Option.bind_some, wrN hk h1, allTo_succ hk]
    simp only [within_eq, Option.bind_some]
    have e : dayB b.Days[k] = (inB b.Days[k].Crosses 0 9 && inB b.Days[k].Engines 1 3 && inB b.Days[k].Winds 1 7) := rfl
    rw [e]
    cases allTo dayB b.Days ok k <;> cases inB b.Days[k].Crosses 0 9 <;> cases inB b.Days[k].Engines 1 3 <;> cases inB b.Days[k].Winds 1 7 <;> rfl
  unfold coal_Check_l6
  simp only
  rw [decide_eq_false (by omega), cond_false, allTo_end]
  generalize (ok && b.Days.all dayB) = ok
  refine loop_fold0 (fun k => (allTo (dipB b.Days.length) b.Dips ok k, (k : Int))) b.Dips.length (fun rec k hk => ?_) (fun rec => ?_) (by rw [big_eq]; omega) (by rw [allTo_zero]; rfl)
  · unfold coal_Check_l5
    simp only
    rw [decide_eq_true (by omega), cond_true, getI_ix hk, Option.bind_some, wrN hk h2, allTo_succ hk]
    simp only [within_eq, isDay_eq b A, Option.bind_some]
    have e : dipB b.Days.length b.Dips[k] = (inB b.Dips[k].Day 0 ((b.Days.length : Int) - 1) && inB b.Dips[k].Read 0 800 && inB b.Dips[k].Error 0 9) := rfl
    rw [e]
    cases allTo (dipB b.Days.length) b.Dips ok k <;> cases inB b.Dips[k].Day 0 ((b.Days.length : Int) - 1) <;> cases inB b.Dips[k].Read 0 800 <;> cases inB b.Dips[k].Error 0 9 <;> rfl
  unfold coal_Check_l5
  simp only
  rw [decide_eq_false (by omega), cond_false, allTo_end]
  cases (ok && b.Dips.all (dipB b.Days.length)) <;> rfl
theorem check_eq (b : CoalBook) (A : Arg b) : coal_Check b = some (bif valB b then 0 else 60) := by
  have h1 := A.dl; have h2 := A.pl
  unfold coal_Check valB
  simp only [within_eq, isSpan_eq _ _ _ (show (400 : Int) ≤ 9223372036854775807 by omega), isSpan_eq _ _ _ (show (b.Days.length : Int) ≤ 9223372036854775807 by omega), Option.bind_some, check_tail b A]
  cases spB b.Heap 400 4 <;> cases inB b.Days.length 1 6 <;> cases spB b.Collier b.Days.length 3 <;> cases inB b.Brings 0 400 <;> rfl
theorem loop_at {σ ρ : Type} {body : (σ → Option ρ) → σ → Option ρ} {s : σ} {R : Option ρ} (h : ∀ rec, body rec s = R) : loopF body big s = R := by
  rw [big_eq]; exact h _
theorem sound_false (b : CoalBook) : law_sound_j14 b false = some false := by
  unfold law_sound_j14; refine loop_at fun rec => ?_
  show loopF (law_sound_l11 b) big (false, 0) = _; refine loop_at fun rec => ?_
  show loopF (law_sound_l9 b) big (false, 0) = _; refine loop_at fun rec => ?_
  show loopF (law_sound_l7 b) big (false, 0) = _; refine loop_at fun rec => ?_
  rfl
structure Val (b : CoalBook) : Prop where
  hp : spB b.Heap 400 4 = true
  dn : 1 ≤ b.Days.length ∧ b.Days.length ≤ 6
  co : spB b.Collier b.Days.length 3 = true
  br : 0 ≤ b.Brings ∧ b.Brings ≤ 400
  pn : b.Dips.length ≤ 4
  ea : ∀ s ∈ b.Eats, spB s 9 2 = true
  ex : ∀ x ∈ b.Extra, 0 ≤ x ∧ x ≤ 9
  da : ∀ x ∈ b.Days, dayB x = true
  di : ∀ x ∈ b.Dips, dipB b.Days.length x = true
theorem val_iff {b : CoalBook} : valB b = true ↔ Val b := by
  unfold valB
  simp only [Bool.and_eq_true, List.all_eq_true, inB_iff, decide_eq_true_eq]
  constructor
  · rintro ⟨⟨⟨⟨⟨⟨⟨⟨a, b1, b2⟩, c⟩, d⟩, e⟩, f⟩, g⟩, h⟩, i⟩; exact ⟨a, ⟨by omega, by omega⟩, c, d, by omega, f, g, h, i⟩
  · rintro ⟨a, b, c, d, e, f, g, h, i⟩; exact ⟨⟨⟨⟨⟨⟨⟨⟨a, by omega, by omega⟩, c⟩, d⟩, by omega⟩, f⟩, g⟩, h⟩, i⟩
theorem sound_true (b : CoalBook) (A : Arg b) (V : Val b) : law_sound_j14 b true = some true := by
  have h1 := A.dl; have h2 := A.pl; have h3 := A.el; have h4 := A.xl
  unfold law_sound_j14
  refine loop_fold (fun k => (true, (k : Int))) 2 (fun rec k hk => ?_) (fun rec => ?_) (by rw [big_eq]; omega)
  · unfold law_sound_l13
    simp only
    rw [cond_true, decide_eq_true (by omega), cond_true, need_of (by simp [inI]; omega), wrN hk (by omega), show agetS b.Eats (k : Int) = b.Eats[k]'(by omega) by simp [agetS, List.getD_eq_getElem?_getD, List.getElem?_eq_getElem (show k < b.Eats.length by omega)], spB_valid (V.ea _ (List.getElem_mem _))]
    rfl
  unfold law_sound_l13 law_sound_j12
  simp only
  rw [cond_true, decide_eq_false (by omega), cond_false]
  refine loop_fold (fun k => (true, (k : Int))) 3 (fun rec k hk => ?_) (fun rec => ?_) (by rw [big_eq]; omega)
  · unfold law_sound_l11
    simp only
    rw [cond_true, decide_eq_true (by omega), cond_true, need_of (by simp [inI]; omega), wrN hk (by omega), inside_eq, show aget b.Extra (k : Int) = b.Extra[k]'(by omega) by simp [aget, List.getD_eq_getElem?_getD, List.getElem?_eq_getElem (show k < b.Extra.length by omega)], inB_iff.2 (V.ex _ (List.getElem_mem _))]
    rfl
  unfold law_sound_l11 law_sound_j10
  simp only
  rw [cond_true, decide_eq_false (by omega), cond_false]
  refine loop_fold (fun k => (true, (k : Int))) b.Days.length (fun rec k hk => ?_) (fun rec => ?_) (by rw [big_eq]; omega)
  · unfold law_sound_l9
    simp only
    have := V.da b.Days[k] (List.getElem_mem _)
    unfold dayB at this
    simp only [Bool.and_eq_true] at this
    rw [cond_true, decide_eq_true (by omega), cond_true, getI_ix hk, Option.bind_some, wrN hk h1]
    simp only [inside_eq, this.1.1, this.1.2, this.2, Option.bind_some, cond_true]
  unfold law_sound_l9 law_sound_j8
  simp only
  rw [cond_true, decide_eq_false (by omega), cond_false]
  refine loop_fold (fun k => (true, (k : Int))) b.Dips.length (fun rec k hk => ?_) (fun rec => ?_) (by rw [big_eq]; omega)
  · unfold law_sound_l7
    simp only
    have := V.di b.Dips[k] (List.getElem_mem _)
    unfold dipB at this
    simp only [Bool.and_eq_true] at this
    rw [cond_true, decide_eq_true (by omega), cond_true, getI_ix hk, Option.bind_some, wrN hk h2, wrI (by omega) (by omega)]
    simp only [inside_eq, this.1.1, this.1.2, this.2, Option.bind_some, cond_true]
  unfold law_sound_l7
  simp only
  rw [cond_true, decide_eq_false (by omega), cond_false]
theorem sound_eq (b : CoalBook) (A : Arg b) : law_sound b = some (valB b) := by
  unfold law_sound
  rw [check_eq b A, Option.bind_some]
  cases h : valB b with
  | false => rw [cond_false]; exact sound_false b
  | true =>
    have V := val_iff.1 h
    have e1 := spB_valid V.hp; have e2 := spB_valid V.co
    have e3 : inB (b.Days.length : Int) 1 6 = true := inB_iff.2 (by have := V.dn; omega)
    have e4 : inB b.Brings 0 400 = true := inB_iff.2 V.br
    have e5 : decide ((b.Dips.length : Int) ≤ 4) = true := decide_eq_true (by have := V.pn; omega)
    simp only [cond_true, beq_self_eq_true, inside_eq, e1, e2, e3, e4, e5, Option.bind_some]
    exact sound_true b A V
theorem Val.arg {b : CoalBook} (V : Val b) (el : b.Eats.length = 2) (xl : b.Extra.length = 3) : Arg b := ⟨by have := V.dn; omega, by have := V.pn; omega, el, xl⟩
end Go.Proofs.YticodohfokgjfaaDoor

set_option linter.unusedVariables false
set_option linter.unusedSimpArgs false
namespace Go.Proofs.YticodohfokgjfaaDoor
open Go Go.Fx
/-- what yield comes to, one after the other -/
def foldY {ε σ : Type} (yv : ε → σ → Option (Bool × σ)) : List ε → σ → Option (Bool × σ)
  | [], s => some (true, s)
  | x :: l, s => (yv x s).bind fun r => bif r.1 then foldY yv l r.2 else some (false, r.2)
theorem foldY_app {ε σ : Type} (yv : ε → σ → Option (Bool × σ)) : ∀ (l m : List ε) (s : σ), foldY yv (l ++ m) s = (foldY yv l s).bind fun r => bif r.1 then foldY yv m r.2 else some (false, r.2)
  | [], m, s => rfl
  | x :: l, m, s => by
    show (yv x s).bind (fun r => bif r.1 then foldY yv (l ++ m) r.2 else some (false, r.2)) = Option.bind ((yv x s).bind fun r => bif r.1 then foldY yv l r.2 else some (false, r.2)) _
    cases yv x s with
    | none => rfl
    | some r =>
      obtain ⟨b, s2⟩ := r
      cases b with
      | true => exact foldY_app yv l m s2
      | false => rfl
/-- a range within a range -/
def codeOf {σ : Type} (r : Bool × σ) : Bool × Nat × σ := (r.1, bif r.1 then 0 else 1, r.2)
theorem foldY_nest {ε δ σ : Type} (yv : δ → σ → Option (Bool × σ)) (f : ε → List δ) (bd : ε → σ → Option (Bool × Nat × σ)) (L : List ε) (hb : ∀ x ∈ L, ∀ z, bd x z = (foldY yv (f x) z).map codeOf) : ∀ z, foldY (yvOf bd) L (0, z) = (foldY yv (L.flatMap f) z).map codeOf := by
  induction L with
  | nil => intro z; rfl
  | cons x L ih =>
    intro z
    rw [List.flatMap_cons, foldY_app]
    show (yvOf bd x (0, z)).bind (fun r => bif r.1 then foldY (yvOf bd) L r.2 else some (false, r.2)) = _
    rw [show yvOf bd x (0, z) = bd x z from rfl, hb x (List.mem_cons_self ..) z]
    cases foldY yv (f x) z with
    | none => rfl
    | some r =>
      obtain ⟨b, s2⟩ := r
      cases b with
      | true => exact ih (fun x hx => hb x (List.mem_cons_of_mem _ hx)) s2
      | false => rfl
theorem foldY_one {ε σ : Type} (yv : ε → σ → Option (Bool × σ)) (x : ε) (s : σ) : foldY yv [x] s = yv x s := by
  show (yv x s).bind (fun r => bif r.1 then some (true, r.2) else some (false, r.2)) = _
  cases yv x s with
  | none => rfl
  | some r => obtain ⟨b, s2⟩ := r; cases b <;> rfl
/-- no early end -/
theorem foldY_all {ε σ : Type} (bd : ε → σ → Option (Bool × Nat × σ)) (g : σ → ε → σ) : ∀ (L : List ε), (∀ x ∈ L, ∀ z, bd x z = some (true, 0, g z x)) → ∀ z, foldY (yvOf bd) L (0, z) = some (true, 0, L.foldl g z)
  | [], _, z => rfl
  | x :: L, h, z => by
    show (bd x z).bind (fun r => bif r.1 then foldY (yvOf bd) L r.2 else some (false, r.2)) = _
    rw [h x (List.mem_cons_self ..) z]
    exact foldY_all bd g L (fun x hx => h x (List.mem_cons_of_mem _ hx)) _
/-- an end at the first that is meant -/
theorem foldY_find {ε σ : Type} (bd : ε → σ → Option (Bool × Nat × σ)) (p : ε → Bool) (s0 s1 : σ) : ∀ (L : List ε), (∀ x ∈ L, bd x s0 = some (bif p x then (false, 1, s1) else (true, 0, s0))) → foldY (yvOf bd) L (0, s0) = some (bif L.any p then (false, 1, s1) else (true, 0, s0))
  | [], _ => rfl
  | x :: L, h => by
    show (bd x s0).bind (fun r => bif r.1 then foldY (yvOf bd) L r.2 else some (false, r.2)) = _
    rw [h x (List.mem_cons_self ..), List.any_cons]
    cases hp : p x with
    | true => rfl
    | false => exact foldY_find bd p s0 s1 L fun x hx => h x (List.mem_cons_of_mem _ hx)
/-- the numbers of a span -/
def rng (s : Span) : List Int := (List.range' 0 (s.High - s.Low + 1).toNat).map fun (k : Nat) => s.Low + k
theorem rng_mem {s : Span} {n : Int} : n ∈ rng s ↔ s.Low ≤ n ∧ n ≤ s.High := by
  unfold rng
  simp only [List.mem_map, List.mem_range'_1]
  constructor
  · rintro ⟨k, hk, rfl⟩; omega
  · rintro ⟨h1, h2⟩; exact ⟨(n - s.Low).toNat, by omega, by omega⟩
structure Sp (s : Span) : Prop where
  l0 : 0 ≤ s.Low
  lh : s.Low ≤ s.High
  hi : s.High ≤ 1000
theorem sp_of {s : Span} {hi wide : Int} (h : spB s hi wide = true) (hh : hi ≤ 1000) : Sp s := by
  unfold spB at h
  simp only [Bool.and_eq_true, decide_eq_true_eq] at h
  exact ⟨h.1.1.1, h.1.1.2, by omega⟩
theorem all_eq {σ : Type} (s : Span) (S : Sp s) (yv : Int → σ → Option (Bool × σ)) (z : σ) : coal_all_1 z s yv = (foldY yv (rng s) z).map (·.2) := by
  have h1 := S.l0; have h2 := S.lh; have h3 := S.hi
  have key : ∀ (d k m : Nat) (z : σ), k + d = (s.High - s.Low + 1).toNat → d < m → loopF (coal_all_1_l1 s yv) m ((k : Int), z) = (foldY yv ((List.range' k d).map fun (k : Nat) => s.Low + k) z).map (·.2) := by
    intro d
    induction d with
    | zero =>
      intro k m z h4 h5
      obtain ⟨m, rfl⟩ : ∃ q, m = q + 1 := ⟨m - 1, by omega⟩
      show coal_all_1_l1 s yv (loopF (coal_all_1_l1 s yv) m) ((k : Int), z) = _
      unfold coal_all_1_l1
      simp only
      rw [wrI (x := s.High - s.Low) (by omega) (by omega), wrI (x := s.High - s.Low + 1) (by omega) (by omega), decide_eq_false (by omega), cond_false]
      rfl
    | succ d ih =>
      intro k m z h4 h5
      obtain ⟨m, rfl⟩ : ∃ q, m = q + 1 := ⟨m - 1, by omega⟩
      suffices H : ∀ rec : (Int × σ) → Option σ, (∀ z2, rec (((k + 1 : Nat) : Int), z2) = (foldY yv ((List.range' (k + 1) d).map fun (k : Nat) => s.Low + k) z2).map (·.2)) → coal_all_1_l1 s yv rec ((k : Int), z) = (foldY yv ((List.range' k (d + 1)).map fun (k : Nat) => s.Low + k) z).map (·.2) from H _ fun z2 => ih (k + 1) m z2 (by omega) (by omega)
      intro rec hrec
      rw [List.range'_succ, List.map_cons]
      show _ = Option.map _ ((yv (s.Low + (k : Int)) z).bind fun r => bif r.1 then foldY yv _ r.2 else some (false, r.2))
      unfold coal_all_1_l1
      simp only
      rw [wrI (x := s.High - s.Low) (by omega) (by omega), wrI (x := s.High - s.Low + 1) (by omega) (by omega), decide_eq_true (by omega), cond_true, wrI (x := s.Low + k) (by omega) (by omega)]
      cases yv (s.Low + (k : Int)) z with
      | none => rfl
      | some r =>
        obtain ⟨b, z2⟩ := r
        cases b with
        | false => rfl
        | true =>
          show rec (Fx.wr ((k : Int) + 1), z2) = Option.map _ (foldY yv _ z2)
          rw [wrI (by omega) (by omega), show (k : Int) + 1 = ((k + 1 : Nat) : Int) by omega]
          exact hrec z2
  exact key (s.High - s.Low + 1).toNat 0 big z (by omega) (by rw [big_eq]; omega)
/-- a range over the numbers of a span whose body is a range -/
theorem all_nest {δ σ : Type} (s : Span) (S : Sp s) (yv : δ → σ → Option (Bool × σ)) (f : Int → List δ) (bd : Int → σ → Option (Bool × Nat × σ)) (hb : ∀ x ∈ rng s, ∀ z, bd x z = (foldY yv (f x) z).map codeOf) (z : σ) :
    coal_all_1 (0, z) s (yvOf bd) = (foldY yv ((rng s).flatMap f) z).map fun r => (bif r.1 then 0 else 1, r.2) := by
  rw [all_eq s S, foldY_nest yv f bd _ hb, Option.map_map]; rfl
/-! the measures of a day -/
def rightB (q : Coal_book) (day n : Int) : Bool := q.CoalBook.Dips.all fun x => !(x.Day == day) || inB (n - x.Read) (-x.Error) x.Error
/-- what a book in the calculation is like -/
structure Op (q : Coal_book) : Prop where
  hp : Sp q.CoalBook.Heap
  co : Sp q.CoalBook.Collier
  el : q.CoalBook.Eats.length = 2
  ea : ∀ s ∈ q.CoalBook.Eats, Sp s ∧ s.High ≤ 9
  dn : q.CoalBook.Days.length ≤ 6
  da : ∀ x ∈ q.CoalBook.Days, 0 ≤ x.Crosses ∧ x.Crosses ≤ 9
  br : 0 ≤ q.CoalBook.Brings ∧ q.CoalBook.Brings ≤ 400
  pn : q.CoalBook.Dips.length ≤ 10
  di : ∀ x ∈ q.CoalBook.Dips, 0 ≤ x.Read ∧ x.Read ≤ 2000 ∧ 0 ≤ x.Error ∧ x.Error ≤ 9
  cs : ∀ p ∈ q.costs_, 0 ≤ p.2 ∧ p.2 ≤ 81
theorem right_eq (q : Coal_book) (Q : Op q) (day n : Int) (h1 : -100000 ≤ n) (h2 : n ≤ 100000) : coal_book_right q day n = some (rightB q day n) := by
  have hn := Q.pn
  have key : ∀ (d k m : Nat), k + d = q.CoalBook.Dips.length → d < m → loopF (coal_book_right_l1 q day n) m (k : Int) = some ((q.CoalBook.Dips.drop k).all fun x => !(x.Day == day) || inB (n - x.Read) (-x.Error) x.Error) := by
    intro d
    induction d with
    | zero =>
      intro k m h4 h5
      obtain ⟨m, rfl⟩ : ∃ q, m = q + 1 := ⟨m - 1, by omega⟩
      show coal_book_right_l1 q day n (loopF (coal_book_right_l1 q day n) m) (k : Int) = _
      unfold coal_book_right_l1
      rw [decide_eq_false (by omega), cond_false, List.drop_eq_nil_of_le (by omega)]
      rfl
    | succ d ih =>
      intro k m h4 h5
      obtain ⟨m, rfl⟩ : ∃ q, m = q + 1 := ⟨m - 1, by omega⟩
      suffices H : ∀ rec : Int → Option Bool, rec ((k + 1 : Nat) : Int) = some ((q.CoalBook.Dips.drop (k + 1)).all fun x => !(x.Day == day) || inB (n - x.Read) (-x.Error) x.Error) → coal_book_right_l1 q day n rec (k : Int) = some ((q.CoalBook.Dips.drop k).all fun x => !(x.Day == day) || inB (n - x.Read) (-x.Error) x.Error) from H _ (ih (k + 1) m (by omega) (by omega))
      intro rec hrec
      have hk : k < q.CoalBook.Dips.length := by omega
      obtain ⟨g1, g2, g3, g4⟩ := Q.di _ (List.getElem_mem hk)
      unfold coal_book_right_l1
      rw [decide_eq_true (by omega), cond_true, getI_ix hk, Option.bind_some, List.drop_eq_getElem_cons hk, List.all_cons, wrI (x := n - _) (by omega) (by omega), wrI (x := -_) (by omega) (by omega), within_eq, Option.bind_some, wrI (x := (k : Int) + 1) (by omega) (by omega), show (k : Int) + 1 = ((k + 1 : Nat) : Int) by omega, hrec]
      cases (q.CoalBook.Dips[k].Day == day) <;> cases inB (n - q.CoalBook.Dips[k].Read) (-q.CoalBook.Dips[k].Error) q.CoalBook.Dips[k].Error <;> rfl
  have := key q.CoalBook.Dips.length 0 big (by omega) (by rw [big_eq]; omega)
  exact this
/-! what engines eat -/
def eng (q : Coal_book) (day : Int) (e : List Int) : Int :=
  match q.CoalBook.Days[day.toNat]? with
  | none => 0
  | some x => (bif (andI (shrI x.Engines 0) 1) == 1 then e.getD 0 0 * x.Crosses else 0) + (bif (andI (shrI x.Engines 1) 1) == 1 then e.getD 1 0 * x.Crosses else 0)
theorem sum_bd : ∀ (l : List Int), (∀ x ∈ l, 0 ≤ x ∧ x ≤ 81) → 0 ≤ l.sum ∧ l.sum ≤ 81 * (l.length : Int)
  | [], _ => by simp
  | a :: l, h => by
    have h1 := h a (List.mem_cons_self ..)
    have h2 := sum_bd l fun x hx => h x (List.mem_cons_of_mem _ hx)
    simp only [List.sum_cons, List.length_cons]
    omega
theorem sum_eq (l : List Int) (hl : l.length ≤ 2) (hb : ∀ x ∈ l, 0 ≤ x ∧ x ≤ 81) : coal_sum_int l = some l.sum := by
  unfold coal_sum_int
  refine loop_fold0 (fun k => ((l.take k).sum, (k : Int))) l.length (fun rec k hk => ?_) (fun rec => ?_) (by rw [big_eq]; omega) rfl
  · unfold coal_sum_int_l1
    simp only
    have h1 := sum_bd (l.take k) fun x hx => hb x (List.mem_of_mem_take hx)
    have h2 := hb _ (List.getElem_mem hk)
    have h3 : (l.take k).length ≤ 2 := by rw [List.length_take]; omega
    rw [decide_eq_true (by omega), cond_true, getI_ix hk, Option.bind_some, wrI (by omega) (by omega), wrI (by omega) (by omega), ← List.take_append_getElem hk, List.sum_append]
    simp
  · unfold coal_sum_int_l1
    simp only
    rw [decide_eq_false (by omega), cond_false, List.take_length]
theorem engines_eq (q : Coal_book) (Q : Op q) (d : Nat) (hd : d < q.CoalBook.Days.length) (e : List Int) (he : e.length = 2) (hb : ∀ x ∈ e, 0 ≤ x ∧ x ≤ 9) : coal_book_engines q d e = some (eng q d e) ∧ 0 ≤ eng q d e ∧ eng q d e ≤ 162 := by
  have hx := Q.da _ (List.getElem_mem hd)
  match e, he with
  | [a, b], _ =>
    have ha := hb a (by simp); have hb' := hb b (by simp)
    have eE : eng q d [a, b] = (bif (andI (shrI q.CoalBook.Days[d].Engines 0) 1) == 1 then a * q.CoalBook.Days[d].Crosses else 0) + (bif (andI (shrI q.CoalBook.Days[d].Engines 1) 1) == 1 then b * q.CoalBook.Days[d].Crosses else 0) := by
      unfold eng
      rw [show ((d : Int)).toNat = d from rfl, List.getElem?_eq_getElem hd]; rfl
    generalize hX : q.CoalBook.Days[d] = X at *
    have m1 : 0 ≤ a * X.Crosses := Int.mul_nonneg ha.1 hx.1
    have m2 : 0 ≤ b * X.Crosses := Int.mul_nonneg hb'.1 hx.1
    have m3 : a * X.Crosses ≤ 9 * 9 := Int.mul_le_mul ha.2 hx.2 hx.1 (by omega)
    have m4 : b * X.Crosses ≤ 9 * 9 := Int.mul_le_mul hb'.2 hx.2 hx.1 (by omega)
    have hg : getI q.CoalBook.Days (d : Int) = some X := by rw [getI_ix hd, hX]
    refine ⟨?_, ?_⟩
    · rw [eE]
      unfold coal_book_engines coal_nothing
      rw [Option.bind_some]
      by_cases hz : sgl [a, b] 2 = sgl (List.replicate 2 0) 2
      · rw [decide_eq_true hz, cond_true]
        have : a = 0 ∧ b = 0 := by simpa [sgl, List.range_succ] using hz
        obtain ⟨rfl, rfl⟩ := this
        simp
      · rw [decide_eq_false hz, cond_false]
        generalize hp0 : (andI (shrI X.Engines 0) 1 == 1) = c0
        generalize hp1 : (andI (shrI X.Engines 1) 1 == 1) = c1
        have w1 : wr (a * X.Crosses) = a * X.Crosses := wrI (by omega) (by omega)
        have w2 : wr (b * X.Crosses) = b * X.Crosses := wrI (by omega) (by omega)
        refine loop_fold0 (fun k => ((bif decide (1 ≤ k) && c0 then [a * X.Crosses] else []) ++ (bif decide (2 ≤ k) && c1 then [b * X.Crosses] else []), (k : Int))) 2 (fun rec k hk => ?_) (fun rec => ?_) (by rw [big_eq]; omega) rfl
        · unfold coal_book_engines_l1
          match k, hk with
          | 0, _ =>
            simp only [show decide (((0 : Nat) : Int) < 2) = true by decide, cond_true, hg, Option.bind_some, show inI ((0 : Nat) : Int) 2 = true by decide, need_true, show decide ((0 : Int) ≤ ((0 : Nat) : Int)) = true by decide, show aget [a, b] ((0 : Nat) : Int) = a from rfl, w1]
            rw [show ((0 : Nat) : Int) = 0 from rfl, hp0]
            cases c0 with
            | true => rw [cond_true, need_of (by simp [fitsL])]; rfl
            | false => rfl
          | 1, _ =>
            simp only [show decide (((1 : Nat) : Int) < 2) = true by decide, cond_true, hg, Option.bind_some, show inI ((1 : Nat) : Int) 2 = true by decide, need_true, show decide ((0 : Int) ≤ ((1 : Nat) : Int)) = true by decide, show aget [a, b] ((1 : Nat) : Int) = b from rfl, w2]
            rw [show ((1 : Nat) : Int) = 1 from rfl, hp1]
            cases c1 with
            | true => cases c0 <;> (rw [cond_true, need_of (by simp [fitsL])]; rfl)
            | false => cases c0 <;> rfl
        · unfold coal_book_engines_l1
          simp only [show decide (((2 : Nat) : Int) < 2) = false by decide, cond_false, show decide (1 ≤ 2) = true by decide, show decide (2 ≤ 2) = true by decide, Bool.true_and]
          rw [sum_eq _ (by cases c0 <;> cases c1 <;> simp) (fun x hx => by cases c0 <;> cases c1 <;> simp at hx <;> omega)]
          cases c0 <;> cases c1 <;> simp
    · rw [eE]
      cases (andI (shrI X.Engines 0) 1 == 1) <;> cases (andI (shrI X.Engines 1) 1 == 1) <;> simp only [cond_true, cond_false] <;> omega
end Go.Proofs.YticodohfokgjfaaDoor

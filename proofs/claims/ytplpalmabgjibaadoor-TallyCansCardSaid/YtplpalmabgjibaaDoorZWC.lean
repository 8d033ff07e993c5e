/- What the functions of the program compute, and that they do, printed by a program of mine. -/
import Derived.Test.YtplpalmabgjibaaDoorZWB
set_option linter.unusedVariables false
set_option linter.unusedSimpArgs false
namespace Go.Proofs.YtplpalmabgjibaaDoor
open Go Go.Fx Go.Proofs
set_option maxRecDepth 100000 in
theorem tally_Again_ok {a0 : TallyBook} {A1 : Option Addr} {c2 : Nat} {w : World} {r : Int × Int} (H : tally_Again a0 = some r) (h3 : (rd eTallyCount 7 A1 c2 a0.Counts).ok w) (hg4 : (bl 0 [Value.func (.func 117) #[] #[], Value.func (.func 119) #[] #[]] 117).ok w) (hg5 : (bl 1 [I (-1), I (-1)] 115).ok w) : Calls Tryd.prog 50 #[AG [I a0.Trips, I a0.Room, SL A1 a0.Counts.length c2]] w (RetV w (TU [I r.1, I r.2])) := by
  unfold tally_Again at H
  refine fn_of (n := 85) Tryd.func50 rfl rfl (Nat.le_of_ble_eq_true rfl) ?_
  have S : St w (fun _ => False) w [] [rd eTallyCount 7 A1 c2 a0.Counts, bl 0 [Value.func (.func 117) #[] #[], Value.func (.func 119) #[] #[]] 117, bl 1 [I (-1), I (-1)] 115] := St.start w _ _ (List.forall_mem_cons.2 ⟨h3, (List.forall_mem_cons.2 ⟨hg4, (List.forall_mem_cons.2 ⟨hg5, (fun _ h_ => (List.not_mem_nil h_).elim)⟩)⟩)⟩)
  refine c_seq ?_
  refine reg ?_
  refine p_boxA rfl S fun b6 w7 S8 => ?_
  refine p_aI rfl ?_
  refine p_aI rfl ?_
  refine wp_nil ?_
  refine c_seq ?_
  refine reg ?_
  refine p_ldA ty24 sz24 (S8.atX (i := 0) rfl) rfl rfl ?_
  obtain ⟨r9, h10, H⟩ := bindS H
  refine p_cal (tally_asked_ok h10 (S8.atP (i := 0) rfl) (S8.atP (i := 1) rfl) (S8.atP (i := 2) rfl)) fu74 rfl ?_
  rintro _ w11 ⟨A13, c14, m15, rfl, k12, ⟨o16, n17⟩, ⟨o18, n19⟩, _⟩
  have S20 := S8.callN k12 [rd eTallyCount 7 A13 c14 r9.1.TallyBook.Counts, mpo ekT iE m15 r9.1.more_] (List.forall_mem_cons.2 ⟨⟨o16, Al.inL n17 ((List.forall_mem_cons.2 ⟨(fp_mem (i := 0) rfl), (fun _ h_ => (List.not_mem_nil h_).elim)⟩))⟩, (List.forall_mem_cons.2 ⟨⟨o18, New.inL n19⟩, (fun _ h_ => (List.not_mem_nil h_).elim)⟩)⟩)
  refine p_mT rfl ?_
  refine p_ext rfl rfl ?_
  refine p_ext rfl rfl ?_
  refine p_allA in86 S20 fun b21 w22 S23 => ?_
  refine p_stP (pre := []) (old := [I 0, I 0, SL none 0 0, Value.map none]) (post := []) (vs := [I r9.1.TallyBook.Trips, I r9.1.TallyBook.Room, SL A13 r9.1.TallyBook.Counts.length c14, Value.map m15]) sz86 S23 (i := 0) rfl rfl rfl rfl (rfl : _ = AG [I r9.1.TallyBook.Trips, I r9.1.TallyBook.Room, SL A13 r9.1.TallyBook.Counts.length c14, Value.map m15]) rfl rfl rfl rfl fun w24 S25 => ?_
  refine p_aI rfl ?_
  refine wp_nil ?_
  refine c_seq ?_
  refine c_seq ?_
  refine reg ?_
  refine p_mI rfl ?_
  refine p_cmp rfl rfl rfl ?_
  refine wp_nil ?_
  refine c_cond rfl (fun c26 => ?_) (fun c26 => ?_)
  · replace H := condT c26 H
    refine c_seq ?_
    refine reg ?_
    refine p_mI rfl ?_
    refine p_aI rfl ?_
    refine p_aI rfl ?_
    refine wp_nil ?_
    obtain rfl := Option.some.inj H
    refine c_ret ?_; show bodyPostM (Fr none) 0 Tryd.prog Tryd.f50 _ .ret _ _
    refine ret_of (res2 rfl (rvT (rfl : _ = I 0)) (rvT (rfl : _ = I r9.2))) ?_
    exact ⟨_, rfl, rfl, S25.keep⟩
  · replace H := condF c26 H
    refine c_skip ?_
    refine c_seq ?_
    refine c_seq ?_
    refine reg ?_
    refine p_ldA ty86 sz86 (S25.atX (i := 0) rfl) rfl rfl ?_
    refine p_fld fl24_0 rfl ?_
    refine p_ld ty3 (S25.atX (i := 1) rfl) rfl rfl ?_
    obtain ⟨r27, h28, H⟩ := bindS H
    refine p_cv (tally_book_many_ok h28 (S25.atP (i := 0) rfl) (S25.atP (i := 1) rfl) (S25.atP (i := 4) rfl)) fu76 rfl S25 fun w29 S30 => ?_
    refine p_allA in49 S30 fun b31 w32 S33 => ?_
    refine p_stP (pre := []) (old := [I 0, I 0]) (post := []) (vs := [I r27.Low, I r27.High]) sz49 S33 (i := 0) rfl rfl rfl rfl (rfl : _ = AG [I r27.Low, I r27.High]) rfl rfl rfl rfl fun w34 S35 => ?_
    refine wp_nil ?_
    refine c_seq ?_
    refine reg ?_
    refine p_fld fl49_0 rfl ?_
    refine p_ld ty3 (S35.atX (i := 0) rfl) rfl rfl ?_
    refine p_fld fl49_1 rfl ?_
    refine p_ld ty3 (S35.atX (i := 0) rfl) rfl rfl ?_
    refine p_cmp rfl rfl rfl ?_
    refine wp_nil ?_
    refine c_cond rfl (fun c36 => ?_) (fun c36 => ?_)
    · replace H := condT c36 H
      refine c_seq ?_
      refine reg ?_
      refine p_aI rfl ?_
      refine p_aI rfl ?_
      refine wp_nil ?_
      obtain rfl := Option.some.inj H
      refine c_ret ?_; show bodyPostM (Fr none) 0 Tryd.prog Tryd.f50 _ .ret _ _
      refine ret_of (res2 rfl (rvT (rfl : _ = I 0)) (rvT (rfl : _ = I 4))) ?_
      exact ⟨_, rfl, rfl, S35.keep⟩
    · replace H := condF c36 H
      refine c_skip ?_
      refine c_seq ?_
      refine reg ?_
      refine p_aI rfl ?_
      refine p_aI rfl ?_
      refine wp_nil ?_
      refine c_seq ?_
      refine c_seq ?_
      refine reg ?_
      refine p_fld fl24_0 rfl ?_
      refine p_ld ty3 (S35.atX (i := 2) rfl) rfl rfl ?_
      refine p_mI rfl ?_
      refine wp_nil ?_
      refine c_block ?_
      refine c_lop (α := Int × Int × Int) (β := Unit) (tally_Again_l8 a0 r9) (fun z_1 y_1 => [(1, P b6 0), (4, P b21 0), (7, I z_1.1), (8, I z_1.2.1), (33, I a0.Trips), (34, I z_1.2.2)]) (fun z_1 y_1 w_ => St w (fun _ => False) w_ [bl b31 [I r27.Low, I r27.High] 49, bl b21 [I r9.1.TallyBook.Trips, I r9.1.TallyBook.Room, SL A13 r9.1.TallyBook.Counts.length c14, Value.map m15] 86, bl b6 [I a0.Trips, I a0.Room, SL A1 a0.Counts.length c2] 24] [rd eTallyCount 7 A13 c14 r9.1.TallyBook.Counts, mpo ekT iE m15 r9.1.more_, rd eTallyCount 7 A1 c2 a0.Counts, bl 0 [Value.func (.func 117) #[] #[], Value.func (.func 119) #[] #[]] 117, bl 1 [I (-1), I (-1)] 115]) ((-1), 0, 0) () H ⟨rfl, rfl, rfl, rfl, rfl, rfl, trivial⟩ S35 ?_
      intro m37 z_1 y_1 e38 w39 H S40
      unfold tally_Again_l8 at H
      refine c_seq ?_
      refine reg ?_
      refine p_cmp rfl rfl rfl ?_
      refine wp_nil ?_
      refine c_seq ?_
      refine c_cond rfl (fun c41 => ?_) (fun c41 => ?_)
      · replace H := condT c41 H
        refine c_skip ?_
        refine c_seq ?_
        refine c_block ?_
        refine c_seq ?_
        refine reg ?_
        refine p_mI rfl ?_
        refine p_aI rfl ?_
        refine wp_nil ?_
        refine c_seq ?_
        refine reg ?_
        refine p_ldA ty86 sz86 (S40.atX (i := 1) rfl) rfl rfl ?_
        refine p_mI rfl ?_
        refine p_mI rfl ?_
        refine p_add rfl rfl ?_
        obtain ⟨r42, h43, H⟩ := bindS H
        refine p_cv (tally_book_many_ok h43 (S40.atP (i := 0) rfl) (S40.atP (i := 1) rfl) (S40.atP (i := 4) rfl)) fu76 rfl S40 fun w44 S45 => ?_
        refine p_allA in49 S45 fun b46 w47 S48 => ?_
        refine p_stP (pre := []) (old := [I 0, I 0]) (post := []) (vs := [I r42.Low, I r42.High]) sz49 S48 (i := 0) rfl rfl rfl rfl (rfl : _ = AG [I r42.Low, I r42.High]) rfl rfl rfl rfl fun w49 S50 => ?_
        refine p_aI rfl ?_
        refine wp_nil ?_
        refine c_seq ?_
        refine c_seq ?_
        refine reg ?_
        refine p_fld fl49_1 rfl ?_
        refine p_ld ty3 (S50.atX (i := 0) rfl) rfl rfl ?_
        refine p_fld fl49_0 rfl ?_
        refine p_ld ty3 (S50.atX (i := 0) rfl) rfl rfl ?_
        refine p_sub rfl rfl ?_
        refine p_add rfl rfl ?_
        refine p_mI rfl ?_
        refine wp_nil ?_
        refine c_block ?_
        refine c_lop (α := Int × Int) (β := Unit) (tally_Again_l7 r42 a0 z_1 (loopF (tally_Again_l8 a0 r9) m37)) (fun z_2 y_2 => [(1, P b6 0), (4, P b21 0), (7, I z_1.1), (8, I z_1.2.1), (9, I z_1.2.2), (10, P b46 0), (11, I z_2.1), (33, I a0.Trips), (34, I z_1.2.2), (47, I (wr ((wr (r42.High - r42.Low)) + 1))), (48, I z_2.2)]) (fun z_2 y_2 w_ => St w (fun _ => False) w_ [bl b46 [I r42.Low, I r42.High] 49, bl b31 [I r27.Low, I r27.High] 49, bl b21 [I r9.1.TallyBook.Trips, I r9.1.TallyBook.Room, SL A13 r9.1.TallyBook.Counts.length c14, Value.map m15] 86, bl b6 [I a0.Trips, I a0.Room, SL A1 a0.Counts.length c2] 24] [rd eTallyCount 7 A13 c14 r9.1.TallyBook.Counts, mpo ekT iE m15 r9.1.more_, rd eTallyCount 7 A1 c2 a0.Counts, bl 0 [Value.func (.func 117) #[] #[], Value.func (.func 119) #[] #[]] 117, bl 1 [I (-1), I (-1)] 115]) (0, 0) () H ⟨rfl, rfl, rfl, rfl, rfl, rfl, rfl, rfl, rfl, rfl, rfl, trivial⟩ S50 ?_
        intro m51 z_2 y_2 e52 w53 H S54
        unfold tally_Again_l7 at H
        refine c_seq ?_
        refine reg ?_
        refine p_cmp rfl rfl rfl ?_
        refine wp_nil ?_
        refine c_seq ?_
        refine c_cond rfl (fun c55 => ?_) (fun c55 => ?_)
        · replace H := condT c55 H
          refine c_skip ?_
          refine c_seq ?_
          refine c_block ?_
          refine c_seq ?_
          refine reg ?_
          refine p_mI rfl ?_
          refine p_aI rfl ?_
          refine wp_nil ?_
          refine c_seq ?_
          refine reg ?_
          refine p_mI rfl ?_
          refine p_mI rfl ?_
          refine p_fld fl49_0 rfl ?_
          refine p_ld ty3 (S54.atX (i := 0) rfl) rfl rfl ?_
          refine p_mI rfl ?_
          refine p_add rfl rfl ?_
          refine p_bld (cs := [I 2, I z_1.2.2, I z_1.2.2, I (wr (r42.Low + z_2.2)), I 1, I 0, I 0]) st33 (rfl : _ = [(0, I 2), (1, I z_1.2.2), (2, I z_1.2.2), (3, I (wr (r42.Low + z_2.2))), (4, I 1)]) (by kernel_rfl) ?_
          refine p_allA in33 S54 fun b56 w57 S58 => ?_
          refine p_stP (pre := []) (old := [I 0, I 0, I 0, I 0, I 0, I 0, I 0]) (post := []) (vs := [I 2, I z_1.2.2, I z_1.2.2, I (wr (r42.Low + z_2.2)), I 1, I 0, I 0]) sz33 S58 (i := 0) rfl rfl rfl rfl (rfl : _ = AG [I 2, I z_1.2.2, I z_1.2.2, I (wr (r42.Low + z_2.2)), I 1, I 0, I 0]) rfl rfl rfl rfl fun w59 S60 => ?_
          refine wp_nil ?_
          refine c_seq ?_
          obtain ⟨r63, h64, H⟩ := bindS H
          obtain ⟨r73, h74, H⟩ := bindS H
          obtain ⟨r83, h84, H⟩ := bindS H
          obtain ⟨r98, h99, H⟩ := bindS H
          refine reg_any mixed 9 (by kernel_rfl) [rv (AG [I a0.Trips, I a0.Room, SL A1 a0.Counts.length c2]), rv (AG [I 2, I z_1.2.2, I z_1.2.2, I (wr (r42.Low + z_2.2)), I 1, I 0, I 0]), rx (α := (Option Addr) × Nat) (fun ⟨A67, c68⟩ => AG [I r63.Trips, I r63.Room, SL A67 r63.Counts.length c68]) (fun ⟨A67, c68⟩ lo hi => BtwL lo hi [] (gr eTallyCount 7 33 A67 c68 r63.Counts) ∧ True) (fun ⟨A67, c68⟩ => [gr eTallyCount 7 33 A67 c68 r63.Counts]), rv (AG [Value.func (.func 91) #[] #[]]), rx (α := (Option Addr) × Nat × Nat) (fun ⟨A91, c92, m87⟩ => AG [I r83.TallyBook.Trips, I r83.TallyBook.Room, SL A91 r63.Counts.length c92, Value.map (some m87)]) (fun ⟨A91, c92, m87⟩ lo hi => BtwL lo hi [] (mp ekT iE m87 r83.more_) ∧ True) (fun ⟨A91, c92, m87⟩ => [mp ekT iE m87 r83.more_, gr eTallyCount 7 33 A91 c92 r63.Counts]), rv (P b6 0), rv (I a0.Trips), rv (AG [I r98.Low, I r98.High]), rx (α := Nat) (fun b102 => P b102 0) (fun b102 lo hi => BtwL lo hi [] (bl b102 [I 0, I 0] 49) ∧ True) (fun b102 => [bl b102 [I 0, I 0] 49])] [[], [], [], [], [], [], [], [], []] rfl (by kernel_rfl) [[], [], [0, 1], [0, 1, 2], [0, 1, 2, 3], [], [5], [0, 1, 2, 3, 4, 5, 6], [], [0, 1, 2, 3, 4, 5, 6, 7, 8]] (by kernel_rfl) ⟨?_, ?_, ?_, ?_, ?_, ?_, ?_, ?_, ?_, trivial⟩ ?_
          · intro e_ w_ k_ hf_ hR_
            have S_ : St w_ (fun _ => False) w_ [] [bl b56 [I 2, I z_1.2.2, I z_1.2.2, I (wr (r42.Low + z_2.2)), I 1, I 0, I 0] 33, bl b46 [I r42.Low, I r42.High] 49, bl b31 [I r27.Low, I r27.High] 49, bl b21 [I r9.1.TallyBook.Trips, I r9.1.TallyBook.Room, SL A13 r9.1.TallyBook.Counts.length c14, Value.map m15] 86, bl b6 [I a0.Trips, I a0.Room, SL A1 a0.Counts.length c2] 24, rd eTallyCount 7 A13 c14 r9.1.TallyBook.Counts, mpo ekT iE m15 r9.1.more_, rd eTallyCount 7 A1 c2 a0.Counts, bl 0 [Value.func (.func 117) #[] #[], Value.func (.func 119) #[] #[]] 117, bl 1 [I (-1), I (-1)] 115] := S60.asP k_
            refine hopE [(1, P b6 0)] ⟨((hf_ 1 rfl).trans (rfl : _ = P b6 0)), trivial⟩ ?_
            refine p_ldA ty24 sz24 (S_.atP (i := 4) rfl) rfl rfl ?_
            refine wp_nil ?_
            exact ⟨_, rfl, S_.keep, rfl⟩
          · intro e_ w_ k_ hf_ hR_
            have S_ : St w_ (fun _ => False) w_ [] [bl b56 [I 2, I z_1.2.2, I z_1.2.2, I (wr (r42.Low + z_2.2)), I 1, I 0, I 0] 33, bl b46 [I r42.Low, I r42.High] 49, bl b31 [I r27.Low, I r27.High] 49, bl b21 [I r9.1.TallyBook.Trips, I r9.1.TallyBook.Room, SL A13 r9.1.TallyBook.Counts.length c14, Value.map m15] 86, bl b6 [I a0.Trips, I a0.Room, SL A1 a0.Counts.length c2] 24, rd eTallyCount 7 A13 c14 r9.1.TallyBook.Counts, mpo ekT iE m15 r9.1.more_, rd eTallyCount 7 A1 c2 a0.Counts, bl 0 [Value.func (.func 117) #[] #[], Value.func (.func 119) #[] #[]] 117, bl 1 [I (-1), I (-1)] 115] := S60.asP k_
            refine hopE [(13, P b56 0)] ⟨((hf_ 13 rfl).trans (rfl : _ = P b56 0)), trivial⟩ ?_
            refine p_ldA ty33 sz33 (S_.atP (i := 0) rfl) rfl rfl ?_
            refine wp_nil ?_
            exact ⟨_, rfl, S_.keep, rfl⟩
          · intro e_ w_ k_ hf_ hR_
            have S_ : St w_ (fun _ => False) w_ [] [bl b56 [I 2, I z_1.2.2, I z_1.2.2, I (wr (r42.Low + z_2.2)), I 1, I 0, I 0] 33, bl b46 [I r42.Low, I r42.High] 49, bl b31 [I r27.Low, I r27.High] 49, bl b21 [I r9.1.TallyBook.Trips, I r9.1.TallyBook.Room, SL A13 r9.1.TallyBook.Counts.length c14, Value.map m15] 86, bl b6 [I a0.Trips, I a0.Room, SL A1 a0.Counts.length c2] 24, rd eTallyCount 7 A13 c14 r9.1.TallyBook.Counts, mpo ekT iE m15 r9.1.more_, rd eTallyCount 7 A1 c2 a0.Counts, bl 0 [Value.func (.func 117) #[] #[], Value.func (.func 119) #[] #[]] 117, bl 1 [I (-1), I (-1)] 115] := S60.asP k_
            obtain ⟨_, _, _, _, q61⟩ := hR_ 0 58 rfl (Nat.le_of_ble_eq_true rfl) rfl
            obtain ⟨_, _, _, _, q62⟩ := hR_ 1 59 rfl (Nat.le_of_ble_eq_true rfl) rfl
            refine hopE [(58, AG [I a0.Trips, I a0.Room, SL A1 a0.Counts.length c2]), (59, AG [I 2, I z_1.2.2, I z_1.2.2, I (wr (r42.Low + z_2.2)), I 1, I 0, I 0])] ⟨q61, q62, trivial⟩ ?_
            refine p_cal (tally_with_ok h64 (S_.atP (i := 7) rfl)) fu78 rfl ?_
            rintro _ w65 ⟨A67, c68, rfl, k66, ⟨o69, n70⟩, _⟩
            have S72 := S_.addNew k66 o69 n70
            refine wp_nil ?_
            exact ⟨_, rfl, S72.keep, ⟨(A67, c68), rfl, ⟨BtwL.of (New.al (S72.newX (i := 0) rfl)) rfl (S72.atX (i := 0) rfl) rfl, trivial⟩, (List.forall_mem_cons.2 ⟨(S72.atX (i := 0) rfl), (fun _ h_ => (List.not_mem_nil h_).elim)⟩)⟩⟩
          · intro e_ w_ k_ hf_ hR_
            have S_ : St w_ (fun _ => False) w_ [] [bl b56 [I 2, I z_1.2.2, I z_1.2.2, I (wr (r42.Low + z_2.2)), I 1, I 0, I 0] 33, bl b46 [I r42.Low, I r42.High] 49, bl b31 [I r27.Low, I r27.High] 49, bl b21 [I r9.1.TallyBook.Trips, I r9.1.TallyBook.Room, SL A13 r9.1.TallyBook.Counts.length c14, Value.map m15] 86, bl b6 [I a0.Trips, I a0.Room, SL A1 a0.Counts.length c2] 24, rd eTallyCount 7 A13 c14 r9.1.TallyBook.Counts, mpo ekT iE m15 r9.1.more_, rd eTallyCount 7 A1 c2 a0.Counts, bl 0 [Value.func (.func 117) #[] #[], Value.func (.func 119) #[] #[]] 117, bl 1 [I (-1), I (-1)] 115] := S60.asP k_
            refine hopE [] trivial ?_
            refine p_cv (tally_nobody_ok h74) fu67 rfl S_ fun w75 S76 => ?_
            refine wp_nil ?_
            exact ⟨_, rfl, S76.keep, rfl⟩
          · intro e_ w_ k_ hf_ hR_
            have S_ : St w_ (fun _ => False) w_ [] [bl b56 [I 2, I z_1.2.2, I z_1.2.2, I (wr (r42.Low + z_2.2)), I 1, I 0, I 0] 33, bl b46 [I r42.Low, I r42.High] 49, bl b31 [I r27.Low, I r27.High] 49, bl b21 [I r9.1.TallyBook.Trips, I r9.1.TallyBook.Room, SL A13 r9.1.TallyBook.Counts.length c14, Value.map m15] 86, bl b6 [I a0.Trips, I a0.Room, SL A1 a0.Counts.length c2] 24, rd eTallyCount 7 A13 c14 r9.1.TallyBook.Counts, mpo ekT iE m15 r9.1.more_, rd eTallyCount 7 A1 c2 a0.Counts, bl 0 [Value.func (.func 117) #[] #[], Value.func (.func 119) #[] #[]] 117, bl 1 [I (-1), I (-1)] 115] := S60.asP k_
            obtain ⟨_, _, _, _, ⟨A67, c68⟩, q77, p78, a79⟩ := hR_ 2 60 rfl (Nat.le_of_ble_eq_true rfl) rfl
            replace q77 : e_ 60 = AG [I r63.Trips, I r63.Room, SL A67 r63.Counts.length c68] := q77
            have S_ := St.addL' S_ (a79 _ (.head _)) (fun _ _ _ h_ => (List.not_mem_nil h_).elim)
            obtain ⟨_, _, _, _, q80⟩ := hR_ 3 61 rfl (Nat.le_of_ble_eq_true rfl) rfl
            refine hopE [(60, AG [I r63.Trips, I r63.Room, SL A67 r63.Counts.length c68]), (61, AG [Value.func (.func 91) #[] #[]])] ⟨q77, q80, trivial⟩ ?_
            refine p_cal (tally_opened_ok h84 (gr_rd eTallyCount_len (S_.atP (i := 0) rfl)) (by kernel_rfl) (fun _ _ _ _ k_ hr_ => tally_nobody_1_ok hr_) (S_.atP (i := 9) rfl)) fu66 rfl ?_
            rintro _ w85 ⟨m87, rfl, k86, ⟨o88, n89⟩, _⟩
            have S90 := S_.addNew k86 o88 n89
            refine wp_nil ?_
            exact ⟨_, rfl, S90.keep, ⟨(A67, c68, m87), rfl, ⟨BtwL.of (New.al (S90.newX (i := 0) rfl)) rfl (S90.atX (i := 0) rfl) rfl, trivial⟩, (List.forall_mem_cons.2 ⟨(S90.atX (i := 0) rfl), (List.forall_mem_cons.2 ⟨(S90.atP (i := 0) rfl), (fun _ h_ => (List.not_mem_nil h_).elim)⟩)⟩)⟩⟩
          · intro e_ w_ k_ hf_ hR_
            have S_ : St w_ (fun _ => False) w_ [] [bl b56 [I 2, I z_1.2.2, I z_1.2.2, I (wr (r42.Low + z_2.2)), I 1, I 0, I 0] 33, bl b46 [I r42.Low, I r42.High] 49, bl b31 [I r27.Low, I r27.High] 49, bl b21 [I r9.1.TallyBook.Trips, I r9.1.TallyBook.Room, SL A13 r9.1.TallyBook.Counts.length c14, Value.map m15] 86, bl b6 [I a0.Trips, I a0.Room, SL A1 a0.Counts.length c2] 24, rd eTallyCount 7 A13 c14 r9.1.TallyBook.Counts, mpo ekT iE m15 r9.1.more_, rd eTallyCount 7 A1 c2 a0.Counts, bl 0 [Value.func (.func 117) #[] #[], Value.func (.func 119) #[] #[]] 117, bl 1 [I (-1), I (-1)] 115] := S60.asP k_
            refine hopE [(1, P b6 0)] ⟨((hf_ 1 rfl).trans (rfl : _ = P b6 0)), trivial⟩ ?_
            refine p_fld fl24_0 rfl ?_
            refine wp_nil ?_
            exact ⟨_, rfl, S_.keep, rfl⟩
          · intro e_ w_ k_ hf_ hR_
            have S_ : St w_ (fun _ => False) w_ [] [bl b56 [I 2, I z_1.2.2, I z_1.2.2, I (wr (r42.Low + z_2.2)), I 1, I 0, I 0] 33, bl b46 [I r42.Low, I r42.High] 49, bl b31 [I r27.Low, I r27.High] 49, bl b21 [I r9.1.TallyBook.Trips, I r9.1.TallyBook.Room, SL A13 r9.1.TallyBook.Counts.length c14, Value.map m15] 86, bl b6 [I a0.Trips, I a0.Room, SL A1 a0.Counts.length c2] 24, rd eTallyCount 7 A13 c14 r9.1.TallyBook.Counts, mpo ekT iE m15 r9.1.more_, rd eTallyCount 7 A1 c2 a0.Counts, bl 0 [Value.func (.func 117) #[] #[], Value.func (.func 119) #[] #[]] 117, bl 1 [I (-1), I (-1)] 115] := S60.asP k_
            obtain ⟨_, _, _, _, q93⟩ := hR_ 5 63 rfl (Nat.le_of_ble_eq_true rfl) rfl
            refine hopE [(63, P b6 0)] ⟨q93, trivial⟩ ?_
            refine p_ld ty3 (S_.atP (i := 4) rfl) rfl rfl ?_
            refine wp_nil ?_
            exact ⟨_, rfl, S_.keep, rfl⟩
          · intro e_ w_ k_ hf_ hR_
            have S_ : St w_ (fun _ => False) w_ [] [bl b56 [I 2, I z_1.2.2, I z_1.2.2, I (wr (r42.Low + z_2.2)), I 1, I 0, I 0] 33, bl b46 [I r42.Low, I r42.High] 49, bl b31 [I r27.Low, I r27.High] 49, bl b21 [I r9.1.TallyBook.Trips, I r9.1.TallyBook.Room, SL A13 r9.1.TallyBook.Counts.length c14, Value.map m15] 86, bl b6 [I a0.Trips, I a0.Room, SL A1 a0.Counts.length c2] 24, rd eTallyCount 7 A13 c14 r9.1.TallyBook.Counts, mpo ekT iE m15 r9.1.more_, rd eTallyCount 7 A1 c2 a0.Counts, bl 0 [Value.func (.func 117) #[] #[], Value.func (.func 119) #[] #[]] 117, bl 1 [I (-1), I (-1)] 115] := S60.asP k_
            obtain ⟨_, _, _, _, ⟨A91, c92, m87⟩, q94, p95, a96⟩ := hR_ 4 62 rfl (Nat.le_of_ble_eq_true rfl) rfl
            replace q94 : e_ 62 = AG [I r83.TallyBook.Trips, I r83.TallyBook.Room, SL A91 r63.Counts.length c92, Value.map (some m87)] := q94
            have S_ := St.addL' S_ (a96 _ (.head _)) (fun _ _ _ h_ => (List.not_mem_nil h_).elim)
            have S_ := St.addL' S_ (a96 _ (.tail _ (.head _))) (fun _ _ _ h_ => (List.not_mem_nil h_).elim)
            obtain ⟨_, _, _, _, q97⟩ := hR_ 6 64 rfl (Nat.le_of_ble_eq_true rfl) rfl
            refine hopE [(62, AG [I r83.TallyBook.Trips, I r83.TallyBook.Room, SL A91 r63.Counts.length c92, Value.map (some m87)]), (64, I a0.Trips)] ⟨q94, q97, trivial⟩ ?_
            refine p_cv (tally_book_many_ok h99 (gr_rd eTallyCount_len (S_.atP (i := 0) rfl)) (mpo_some (S_.atP (i := 1) rfl)) (S_.atP (i := 11) rfl)) fu76 rfl S_ fun w100 S101 => ?_
            refine wp_nil ?_
            exact ⟨_, rfl, S101.keep, rfl⟩
          · intro e_ w_ k_ hf_ hR_
            have S_ : St w_ (fun _ => False) w_ [] [bl b56 [I 2, I z_1.2.2, I z_1.2.2, I (wr (r42.Low + z_2.2)), I 1, I 0, I 0] 33, bl b46 [I r42.Low, I r42.High] 49, bl b31 [I r27.Low, I r27.High] 49, bl b21 [I r9.1.TallyBook.Trips, I r9.1.TallyBook.Room, SL A13 r9.1.TallyBook.Counts.length c14, Value.map m15] 86, bl b6 [I a0.Trips, I a0.Room, SL A1 a0.Counts.length c2] 24, rd eTallyCount 7 A13 c14 r9.1.TallyBook.Counts, mpo ekT iE m15 r9.1.more_, rd eTallyCount 7 A1 c2 a0.Counts, bl 0 [Value.func (.func 117) #[] #[], Value.func (.func 119) #[] #[]] 117, bl 1 [I (-1), I (-1)] 115] := S60.asP k_
            refine hopE [] trivial ?_
            refine p_allA in49 S_ fun b102 w103 S104 => ?_
            refine wp_nil ?_
            exact ⟨_, rfl, S104.keep, ⟨b102, rfl, ⟨BtwL.of (New.al (S104.newX (i := 0) rfl)) rfl (S104.atX (i := 0) rfl) rfl, trivial⟩, (List.forall_mem_cons.2 ⟨(S104.atX (i := 0) rfl), (fun _ h_ => (List.not_mem_nil h_).elim)⟩)⟩⟩
          intro e105 w106 lo107 hi108 k109 hf110 hR111 hd112
          have S113 := S60.call k109
          have q114 : e105 58 = AG [I a0.Trips, I a0.Room, SL A1 a0.Counts.length c2] := (hR111 0 58 (Nat.le_of_ble_eq_true rfl) rfl).2.2.2
          have q115 : e105 59 = AG [I 2, I z_1.2.2, I z_1.2.2, I (wr (r42.Low + z_2.2)), I 1, I 0, I 0] := (hR111 1 59 (Nat.le_of_ble_eq_true rfl) rfl).2.2.2
          obtain ⟨h117, h118, h119, ⟨A67, c68⟩, q116, h120, h121⟩ := hR111 2 60 (Nat.le_of_ble_eq_true rfl) rfl
          replace q116 : e105 60 = AG [I r63.Trips, I r63.Room, SL A67 r63.Counts.length c68] := q116
          obtain ⟨p122, _⟩ := h120
          have q124 : e105 61 = AG [Value.func (.func 91) #[] #[]] := (hR111 3 61 (Nat.le_of_ble_eq_true rfl) rfl).2.2.2
          obtain ⟨h126, h127, h128, ⟨A91, c92, m87⟩, q125, h129, h130⟩ := hR111 4 62 (Nat.le_of_ble_eq_true rfl) rfl
          replace q125 : e105 62 = AG [I r83.TallyBook.Trips, I r83.TallyBook.Room, SL A91 r63.Counts.length c92, Value.map (some m87)] := q125
          obtain ⟨p131, _⟩ := h129
          have q133 : e105 63 = P b6 0 := (hR111 5 63 (Nat.le_of_ble_eq_true rfl) rfl).2.2.2
          have q134 : e105 64 = I a0.Trips := (hR111 6 64 (Nat.le_of_ble_eq_true rfl) rfl).2.2.2
          have q135 : e105 65 = AG [I r98.Low, I r98.High] := (hR111 7 65 (Nat.le_of_ble_eq_true rfl) rfl).2.2.2
          obtain ⟨h137, h138, h139, b102, q136, h140, h141⟩ := hR111 8 14 (Nat.le_of_ble_eq_true rfl) rfl
          replace q136 : e105 14 = P b102 0 := q136
          obtain ⟨p142, _⟩ := h140
          have S144 := St.addO S113 (h141 _ (.head _)) (fun b_ h_ => (p142 b_ h_).elim (fun q_ => Nat.le_trans S60.keep.size (Nat.le_trans h137 q_.1)) (fun ⟨_, hq_, _⟩ => (List.not_mem_nil hq_).elim)) (List.forall_mem_cons.2 ⟨(fun b_ h1_ h2_ => (p142 b_ h1_).elim (fun q2_ => by have q1_ := Asr.inb _ _ _ (S60.atX (i := 0) rfl) h2_; omega) (fun ⟨_, hq_, _⟩ => (List.not_mem_nil hq_).elim)), (List.forall_mem_cons.2 ⟨(fun b_ h1_ h2_ => (p142 b_ h1_).elim (fun q2_ => by have q1_ := Asr.inb _ _ _ (S60.atX (i := 1) rfl) h2_; omega) (fun ⟨_, hq_, _⟩ => (List.not_mem_nil hq_).elim)), (List.forall_mem_cons.2 ⟨(fun b_ h1_ h2_ => (p142 b_ h1_).elim (fun q2_ => by have q1_ := Asr.inb _ _ _ (S60.atX (i := 2) rfl) h2_; omega) (fun ⟨_, hq_, _⟩ => (List.not_mem_nil hq_).elim)), (List.forall_mem_cons.2 ⟨(fun b_ h1_ h2_ => (p142 b_ h1_).elim (fun q2_ => by have q1_ := Asr.inb _ _ _ (S60.atX (i := 3) rfl) h2_; omega) (fun ⟨_, hq_, _⟩ => (List.not_mem_nil hq_).elim)), (List.forall_mem_cons.2 ⟨(fun b_ h1_ h2_ => (p142 b_ h1_).elim (fun q2_ => by have q1_ := Asr.inb _ _ _ (S60.atX (i := 4) rfl) h2_; omega) (fun ⟨_, hq_, _⟩ => (List.not_mem_nil hq_).elim)), (fun _ h_ => (List.not_mem_nil h_).elim)⟩)⟩)⟩)⟩)⟩) (List.forall_mem_cons.2 ⟨(fun b_ h1_ h2_ => (p142 b_ h1_).elim (fun q2_ => by have q1_ := Asr.inb _ _ _ (S60.atP (i := 0) rfl) h2_; omega) (fun ⟨_, hq_, _⟩ => (List.not_mem_nil hq_).elim)), (List.forall_mem_cons.2 ⟨(fun b_ h1_ h2_ => (p142 b_ h1_).elim (fun q2_ => by have q1_ := Asr.inb _ _ _ (S60.atP (i := 1) rfl) h2_; omega) (fun ⟨_, hq_, _⟩ => (List.not_mem_nil hq_).elim)), (List.forall_mem_cons.2 ⟨(fun b_ h1_ h2_ => (p142 b_ h1_).elim (fun q2_ => by have q1_ := Asr.inb _ _ _ (S60.atP (i := 2) rfl) h2_; omega) (fun ⟨_, hq_, _⟩ => (List.not_mem_nil hq_).elim)), (List.forall_mem_cons.2 ⟨(fun b_ h1_ h2_ => (p142 b_ h1_).elim (fun q2_ => by have q1_ := Asr.inb _ _ _ (S60.atP (i := 3) rfl) h2_; omega) (fun ⟨_, hq_, _⟩ => (List.not_mem_nil hq_).elim)), (List.forall_mem_cons.2 ⟨(fun b_ h1_ h2_ => (p142 b_ h1_).elim (fun q2_ => by have q1_ := Asr.inb _ _ _ (S60.atP (i := 4) rfl) h2_; omega) (fun ⟨_, hq_, _⟩ => (List.not_mem_nil hq_).elim)), (fun _ h_ => (List.not_mem_nil h_).elim)⟩)⟩)⟩)⟩)⟩)
          refine tailE [(1, P b6 0), (4, P b21 0), (7, I z_1.1), (8, I z_1.2.1), (9, I z_1.2.2), (10, P b46 0), (11, I z_2.1), (14, P b102 0), (33, I a0.Trips), (34, I z_1.2.2), (47, I (wr ((wr (r42.High - r42.Low)) + 1))), (48, I z_2.2), (65, AG [I r98.Low, I r98.High])] ⟨((hf110 1 rfl).trans (rfl : _ = P b6 0)), ((hf110 4 rfl).trans (rfl : _ = P b21 0)), ((hf110 7 rfl).trans (rfl : _ = I z_1.1)), ((hf110 8 rfl).trans (rfl : _ = I z_1.2.1)), ((hf110 9 rfl).trans (rfl : _ = I z_1.2.2)), ((hf110 10 rfl).trans (rfl : _ = P b46 0)), ((hf110 11 rfl).trans (rfl : _ = I z_2.1)), q136, ((hf110 33 rfl).trans (rfl : _ = I a0.Trips)), ((hf110 34 rfl).trans (rfl : _ = I z_1.2.2)), ((hf110 47 rfl).trans (rfl : _ = I (wr ((wr (r42.High - r42.Low)) + 1)))), ((hf110 48 rfl).trans (rfl : _ = I z_2.2)), q135, trivial⟩ ?_
          intro g145
          refine p_stP (pre := []) (old := [I 0, I 0]) (post := []) (vs := [I r98.Low, I r98.High]) sz49 S144 (i := 0) rfl rfl rfl rfl (rfl : _ = AG [I r98.Low, I r98.High]) rfl rfl rfl rfl fun w146 S147 => ?_
          refine wp_nil ?_
          refine reg ?_
          refine p_mI rfl ?_
          refine p_fld fl49_1 rfl ?_
          refine p_ld ty3 (S147.atX (i := 0) rfl) rfl rfl ?_
          refine p_fld fl49_0 rfl ?_
          refine p_ld ty3 (S147.atX (i := 0) rfl) rfl rfl ?_
          refine p_sub rfl rfl ?_
          refine p_max rfl rfl ?_
          refine p_aI rfl ?_
          refine wp_nil ?_
          refine reg ?_
          refine p_add rfl rfl ?_
          refine p_mI rfl ?_
          refine wp_nil ?_
          have S148 := S147.pk [2, 3, 4, 5] (by decide) [0, 1, 2, 3, 4] rfl rfl
          exact ⟨((if (wr (r98.High - r98.Low)) > z_2.1 then (wr (r98.High - r98.Low)) else z_2.1), wr (z_2.2 + 1)), (), _, rfl, ⟨rfl, rfl, rfl, rfl, rfl, rfl, rfl, rfl, rfl, rfl, rfl, trivial⟩, H, S148⟩
        · replace H := condF c55 H
          refine c_exit ?_
          refine c_join (α := Bool) (β := Unit) (fun z_3 y_3 => [(1, P b6 0), (4, P b21 0), (7, I z_1.1), (8, I z_1.2.1), (9, I z_1.2.2), (11, I z_2.1), (33, I a0.Trips), (34, I z_1.2.2), (80, B z_3)]) (fun z_3 y_3 w_ => tally_Again_j6 (loopF (tally_Again_l8 a0 r9) m37) z_1 z_2 z_3 = some r ∧ St w (fun _ => False) w_ [bl b46 [I r42.Low, I r42.High] 49, bl b31 [I r27.Low, I r27.High] 49, bl b21 [I r9.1.TallyBook.Trips, I r9.1.TallyBook.Room, SL A13 r9.1.TallyBook.Counts.length c14, Value.map m15] 86, bl b6 [I a0.Trips, I a0.Room, SL A1 a0.Counts.length c2] 24] [rd eTallyCount 7 A13 c14 r9.1.TallyBook.Counts, mpo ekT iE m15 r9.1.more_, rd eTallyCount 7 A1 c2 a0.Counts, bl 0 [Value.func (.func 117) #[] #[], Value.func (.func 119) #[] #[]] 117, bl 1 [I (-1), I (-1)] 115]) ?_ ?_
          · refine reg ?_
            refine p_mI rfl ?_
            refine p_cmp rfl rfl rfl ?_
            refine p_mB rfl ?_
            rcases Bool.eq_false_or_eq_true (decide (z_1.1 < 0)) with c149 | c149
            · replace H := condT c149 H
              refine eB c149 ?_
              refine gF rfl rfl ?_
              refine gF rfl rfl ?_
              refine gF rfl rfl ?_
              refine p_pkT rfl (rfl : _ = B true) ?_
              refine wp_nil ?_
              exact ⟨true, (), _, rfl, ⟨rfl, rfl, rfl, rfl, rfl, rfl, rfl, rfl, rfl, trivial⟩, H, S54⟩
            · replace H := condF c149 H
              refine eB c149 ?_
              refine gT rfl rfl (p_mI rfl ?_)
              refine gT rfl rfl (p_mI rfl ?_)
              refine gT rfl rfl (p_cmp rfl rfl rfl ?_)
              refine p_pkF rfl (rfl : _ = B (decide (z_2.1 < z_1.2.1))) ?_
              refine wp_nil ?_
              exact ⟨decide (z_2.1 < z_1.2.1), (), _, rfl, ⟨rfl, rfl, rfl, rfl, rfl, rfl, rfl, rfl, rfl, trivial⟩, H, S54⟩
          · intro z_3 y_3 e149 w150 S151; obtain ⟨H, S151⟩ := S151
            unfold tally_Again_j6 at H
            refine c_cond rfl (fun c152 => ?_) (fun c152 => ?_)
            · replace H := condT c152 H
              refine reg ?_
              refine p_mI rfl ?_
              refine p_mI rfl ?_
              refine p_aI rfl ?_
              refine p_aI rfl ?_
              refine wp_nil ?_
              refine reg ?_
              refine p_add rfl rfl ?_
              refine p_mI rfl ?_
              refine wp_nil ?_
              have S153 := S151.pk [1, 2, 3] (by decide) [0, 1, 2, 3, 4] rfl rfl
              exact ⟨(z_1.2.2, z_2.1, wr (z_1.2.2 + 1)), (), _, rfl, ⟨rfl, rfl, rfl, rfl, rfl, rfl, trivial⟩, H, S153⟩
            · replace H := condF c152 H
              refine c_skip ?_
              refine reg ?_
              refine p_add rfl rfl ?_
              refine p_mI rfl ?_
              refine wp_nil ?_
              have S154 := S151.pk [1, 2, 3] (by decide) [0, 1, 2, 3, 4] rfl rfl
              exact ⟨(z_1.1, z_1.2.1, wr (z_1.2.2 + 1)), (), _, rfl, ⟨rfl, rfl, rfl, rfl, rfl, rfl, trivial⟩, H, S154⟩
      · replace H := condF c41 H
        refine c_exit ?_
        refine c_seq ?_
        refine reg ?_
        refine p_mI rfl ?_
        refine p_aI rfl ?_
        refine p_aI rfl ?_
        refine wp_nil ?_
        obtain rfl := Option.some.inj H
        refine c_ret ?_; show bodyPostM (Fr none) 0 Tryd.prog Tryd.f50 _ .ret _ _
        refine ret_of (res2 rfl (rvT (rfl : _ = I z_1.1)) (rvT (rfl : _ = I 0))) ?_
        exact ⟨_, rfl, rfl, S40.keep⟩

def law_own : Option TallyBook :=
  (law_count 0 0 3 1 20 4 4).bind fun r4 =>
  (law_count 1 0 1 9 1 2 0).bind fun r8 =>
  (law_count 2 2 2 6 1 0 1).bind fun r12 =>
  some (TallyBook.mk 4 10 [r4, r8, r12])

set_option maxRecDepth 100000 in
theorem law_own_ok {w : World} {r : TallyBook} (H : law_own = some r) : Calls Tryd.prog 52 #[] w fun en w_ => ∃ u_, en = .returned u_ ∧ ∃ A_1 : Option Addr, ∃ c_2 : Nat, u_ = AG [I r.Trips, I r.Room, SL A_1 r.Counts.length c_2] ∧ Keep0 w w_ ∧ ((gr eTallyCount 7 33 A_1 c_2 r.Counts).ok w_ ∧ New w.heap.size (gr eTallyCount 7 33 A_1 c_2 r.Counts)) ∧ True := by
  unfold law_own at H
  refine fn_of (n := 6) Tryd.func52 rfl rfl (Nat.le_of_ble_eq_true rfl) ?_
  have S : St w (fun _ => False) w [] [] := St.start w _ _ (fun _ h_ => (List.not_mem_nil h_).elim)
  refine c_seq ?_
  refine reg ?_
  refine p_allA in24 S fun b1 w2 S3 => ?_
  refine wp_nil ?_
  refine c_seq ?_
  refine reg ?_
  obtain ⟨r4, h5, H⟩ := bindS H
  refine p_cv (law_count_ok h5) fu37 rfl S3 fun w6 S7 => ?_
  obtain ⟨r8, h9, H⟩ := bindS H
  refine p_cv (law_count_ok h9) fu37 rfl S7 fun w10 S11 => ?_
  obtain ⟨r12, h13, H⟩ := bindS H
  refine p_cv (law_count_ok h13) fu37 rfl S11 fun w14 S15 => ?_
  refine p_bsl (enc := eTallyCount) (l := [r4, r8, r12]) (fun x => AG (eTallyCount x)) (fun _ => rfl) sc22 in33 eTallyCount_len rfl (by decide) (by decide) zr33_3 S15 rfl fun A16 c17 w18 S19 => ?_
  refine p_bld (cs := [I 4, I 10, SL A16 [r4, r8, r12].length c17]) st24 (rfl : _ = [(0, I 4), (1, I 10), (2, SL A16 [r4, r8, r12].length c17)]) (by kernel_rfl) ?_
  refine p_stP (pre := []) (old := [I 0, I 0, SL none 0 0]) (post := []) (vs := [I 4, I 10, SL A16 [r4, r8, r12].length c17]) sz24 S19 (i := 1) rfl rfl rfl rfl (rfl : _ = AG [I 4, I 10, SL A16 [r4, r8, r12].length c17]) rfl rfl rfl rfl fun w21 S22 => ?_
  refine wp_nil ?_
  obtain rfl := Option.some.inj H
  refine c_ret ?_; show bodyPostM (Fr none) 0 Tryd.prog Tryd.f52 _ .ret _ _
  refine ret_of (res1 rfl (rvA rfl ty24 sz24 (S22.atX (i := 1) rfl) rfl)) ?_
  exact ⟨_, rfl, A16, c17, rfl, S22.keep, ⟨S22.atX (i := 0) rfl, S22.newX (i := 0) rfl⟩, trivial⟩

def law_torn : Option TallyBook :=
  (law_own).bind fun r4 =>
  (law_count 2 0 3 26 1 0 0).bind fun r19 =>
  need (fitsL (r4.Counts.length + ([r19] : List TallyCount).length) 56) <|
  some (TallyBook.mk r4.Trips r4.Room (r4.Counts ++ ([r19] : List TallyCount)))

set_option maxRecDepth 100000 in
theorem law_torn_ok {w : World} {r : TallyBook} (H : law_torn = some r) : Calls Tryd.prog 54 #[] w fun en w_ => ∃ u_, en = .returned u_ ∧ ∃ A_1 : Option Addr, ∃ c_2 : Nat, u_ = AG [I r.Trips, I r.Room, SL A_1 r.Counts.length c_2] ∧ Keep0 w w_ ∧ ((gr eTallyCount 7 33 A_1 c_2 r.Counts).ok w_ ∧ New w.heap.size (gr eTallyCount 7 33 A_1 c_2 r.Counts)) ∧ True := by
  unfold law_torn at H
  refine fn_of (n := 10) Tryd.func54 rfl rfl (Nat.le_of_ble_eq_true rfl) ?_
  have S : St w (fun _ => False) w [] [] := St.start w _ _ (fun _ h_ => (List.not_mem_nil h_).elim)
  refine c_seq ?_
  refine reg ?_
  refine p_allA in24 S fun b1 w2 S3 => ?_
  refine wp_nil ?_
  refine c_seq ?_
  refine reg ?_
  obtain ⟨r4, h5, H⟩ := bindS H
  refine p_cal (law_own_ok h5) fu52 rfl ?_
  rintro _ w6 ⟨A8, c9, rfl, k7, ⟨o10, n11⟩, _⟩
  have S13 := S3.addNew k7 o10 n11
  refine p_allA in24 S13 fun b14 w15 S16 => ?_
  refine p_stP (pre := []) (old := [I 0, I 0, SL none 0 0]) (post := []) (vs := [I r4.Trips, I r4.Room, SL A8 r4.Counts.length c9]) sz24 S16 (i := 0) rfl rfl rfl rfl (rfl : _ = AG [I r4.Trips, I r4.Room, SL A8 r4.Counts.length c9]) rfl rfl rfl rfl fun w17 S18 => ?_
  refine wp_nil ?_
  refine c_seq ?_
  obtain ⟨r19, h20, H⟩ := bindS H
  refine reg_c mixed 4 [3] (by kernel_rfl) ?_
  refine kS rfl (fun _ k_ => p_fld fl24_2 rfl dn) ?_
  refine kS rfl (fun _ k_ => p_ld ty22 (Asr.stays (S18.atX (i := 0) rfl) k_) rfl rfl dn) ?_
  refine kS rfl (fun _ k_ => p_cvD (law_count_ok h20) fu37 rfl) ?_
  refine kC rfl ?_
  intro w21 k22; have S23 := S18.call k22
  have S29 := S23.base
  refine p_bsl (enc := eTallyCount) (l := ([r19] : List TallyCount)) (fun x => AG (eTallyCount x)) (fun _ => rfl) sc22 in33 eTallyCount_len rfl (by decide) (by decide) zr33_1 S29 rfl fun A24 c25 w26 S27 => ?_
  refine cN S27.keep fun w30 k31 => ?_
  have S32 := (S23.fromBase S27).call k31
  obtain ⟨h37, H⟩ := needS H
  refine p_app (enc := eTallyCount) sc22 in33 rfl eTallyCount_len eTallyCount_one (by decide) S32 (k := 2) rfl (gr_sl eTallyCount_len (S32.atX (i := 0) rfl)) h37 (by simp) rfl rfl fun A35 c36 w33 S34 => ?_
  refine p_fld fl24_2 rfl ?_
  refine p_stP (pre := [I r4.Trips, I r4.Room]) (old := [SL A8 r4.Counts.length c9]) (post := []) (vs := [SL A35 (r4.Counts ++ ([r19] : List TallyCount)).length c36]) sz22 S34 (i := 1) rfl rfl rfl rfl (rfl : _ = SL A35 (r4.Counts ++ ([r19] : List TallyCount)).length c36) rfl rfl rfl rfl fun w38 S39 => ?_
  refine wp_nil ?_
  refine c_seq ?_
  refine reg ?_
  refine p_ldA ty24 sz24 (S39.atX (i := 1) rfl) rfl rfl ?_
  refine p_stP (pre := []) (old := [I 0, I 0, SL none 0 0]) (post := []) (vs := [I r4.Trips, I r4.Room, SL A35 (r4.Counts ++ ([r19] : List TallyCount)).length c36]) sz24 S39 (i := 3) rfl rfl rfl rfl (rfl : _ = AG [I r4.Trips, I r4.Room, SL A35 (r4.Counts ++ ([r19] : List TallyCount)).length c36]) rfl rfl rfl rfl fun w40 S41 => ?_
  refine wp_nil ?_
  obtain rfl := Option.some.inj H
  refine c_ret ?_; show bodyPostM (Fr none) 0 Tryd.prog Tryd.f54 _ .ret _ _
  refine ret_of (res1 rfl (rvA rfl ty24 sz24 (S41.atX (i := 3) rfl) rfl)) ?_
  exact ⟨_, rfl, A35, c36, rfl, S41.keep, ⟨S41.atX (i := 2) rfl, S41.newX (i := 2) rfl⟩, trivial⟩

def law_counted : Option Bool :=
  (law_own).bind fun r3 =>
  (tally_Many r3 0 3).bind fun r13 =>
  (law_own).bind fun r22 =>
  (tally_Many r22 3 3).bind fun r32 =>
  (law_own).bind fun r41 =>
  (tally_Can r41 [5, 5, 6, 3]).bind fun r56 =>
  (law_own).bind fun r60 =>
  (tally_Pays r60 2).bind fun r70 =>
  (law_torn).bind fun r79 =>
  (tally_Wrong r79).bind fun r90 =>
  bif (r13.2 != 0) then (some false)
  else (bif (r32.2 != 0) then (some false)
  else (bif (r56.2 != 0) then (some false)
  else (bif (r70.2 != 0) then (some false)
  else (bif (r90.2 != 0) then (some false)
  else ((B_Range 16 24).bind fun r179 =>
  bif !((r13.1.Low == r179.Low) && (r13.1.High == r179.High)) then (some false)
  else ((B_Range 0 10).bind fun r197 =>
  bif !((r32.1.Low == r197.Low) && (r32.1.High == r197.High)) then (some false)
  else (bif !r56.1 then (some false)
  else ((B_Range 32 48).bind fun r231 =>
  bif !((r70.1.Low == r231.Low) && (r70.1.High == r231.High)) then (some false)
  else ((B_Alike r90.1 ([0] : List Int)).bind fun r261 =>
  bif !r261 then (some false)
  else ((law_torn).bind fun r275 =>
  (tally_Whose r275).bind fun r285 =>
  (law_own).bind fun r294 =>
  (tally_Again r294).bind fun r304 =>
  (law_own).bind fun r308 =>
  (law_count 2 3 3 10 1 0 0).bind fun r318 =>
  (tally_Fits r308 r318).bind fun r322 =>
  (law_torn).bind fun r326 =>
  (tally_Right r326).bind fun r336 =>
  bif (r285.2 == 0) then (bif (r304.2 == 0) then (bif (r322.2 == 0) then (bif (r336.2 == 0) then ((B_Alike r285.1 [0, 2]).bind fun r349 =>
  bif r349 then (bif (r304.1 == 3) then (bif r322.1 then (some (!r336.1))
  else (some false))
  else (some false))
  else (some false))
  else (some false))
  else (some false))
  else (some false))
  else (some false)))))))))))

set_option maxRecDepth 100000 in
theorem law_counted_ok {w : World} {r : Bool} (H : law_counted = some r) (hg1 : (bl 0 [Value.func (.func 117) #[] #[], Value.func (.func 119) #[] #[]] 117).ok w) (hg2 : (bl 1 [I (-1), I (-1)] 115).ok w) : Calls Tryd.prog 19 #[] w (RetV w (B r)) := by
  unfold law_counted at H
  refine fn_of (n := 135) Tryd.func19 rfl rfl (Nat.le_of_ble_eq_true rfl) ?_
  have S : St w (fun _ => False) w [] [bl 0 [Value.func (.func 117) #[] #[], Value.func (.func 119) #[] #[]] 117, bl 1 [I (-1), I (-1)] 115] := St.start w _ _ (List.forall_mem_cons.2 ⟨hg1, (List.forall_mem_cons.2 ⟨hg2, (fun _ h_ => (List.not_mem_nil h_).elim)⟩)⟩)
  refine c_seq ?_
  refine reg ?_
  refine p_aB rfl ?_
  refine wp_nil ?_
  refine c_seq ?_
  refine reg ?_
  obtain ⟨r3, h4, H⟩ := bindS H
  refine p_cal (law_own_ok h4) fu52 rfl ?_
  rintro _ w5 ⟨A7, c8, rfl, k6, ⟨o9, n10⟩, _⟩
  have S12 := S.addNew k6 o9 n10
  obtain ⟨r13, h14, H⟩ := bindS H
  refine p_cv (tally_Many_ok h14 (gr_rd eTallyCount_len (S12.atX (i := 0) rfl)) (S12.atP (i := 0) rfl) (S12.atP (i := 1) rfl)) fu32 rfl S12 fun w15 S16 => ?_
  refine p_mT rfl ?_
  refine p_ext rfl rfl ?_
  refine p_ext rfl rfl ?_
  refine p_allA in49 S16 fun b17 w18 S19 => ?_
  refine p_stP (pre := []) (old := [I 0, I 0]) (post := []) (vs := [I r13.1.Low, I r13.1.High]) sz49 S19 (i := 0) rfl rfl rfl rfl (rfl : _ = AG [I r13.1.Low, I r13.1.High]) rfl rfl rfl rfl fun w20 S21 => ?_
  refine p_aI rfl ?_
  refine wp_nil ?_
  refine c_seq ?_
  refine reg ?_
  obtain ⟨r22, h23, H⟩ := bindS H
  refine p_cal (law_own_ok h23) fu52 rfl ?_
  rintro _ w24 ⟨A26, c27, rfl, k25, ⟨o28, n29⟩, _⟩
  have S31 := S21.addNew k25 o28 n29
  obtain ⟨r32, h33, H⟩ := bindS H
  refine p_cv (tally_Many_ok h33 (gr_rd eTallyCount_len (S31.atX (i := 0) rfl)) (S31.atP (i := 0) rfl) (S31.atP (i := 1) rfl)) fu32 rfl S31 fun w34 S35 => ?_
  refine p_mT rfl ?_
  refine p_ext rfl rfl ?_
  refine p_ext rfl rfl ?_
  refine p_allA in49 S35 fun b36 w37 S38 => ?_
  refine p_stP (pre := []) (old := [I 0, I 0]) (post := []) (vs := [I r32.1.Low, I r32.1.High]) sz49 S38 (i := 0) rfl rfl rfl rfl (rfl : _ = AG [I r32.1.Low, I r32.1.High]) rfl rfl rfl rfl fun w39 S40 => ?_
  refine p_aI rfl ?_
  refine wp_nil ?_
  refine c_seq ?_
  refine reg ?_
  obtain ⟨r41, h42, H⟩ := bindS H
  refine p_cal (law_own_ok h42) fu52 rfl ?_
  rintro _ w43 ⟨A45, c46, rfl, k44, ⟨o47, n48⟩, _⟩
  have S50 := S40.addNew k44 o47 n48
  refine p_bsl (enc := intE) (l := [5, 5, 6, 3]) I (fun _ => rfl) sc31 in3 intE_len rfl (by decide) (by decide) zr3_4 S50 rfl fun A51 c52 w53 S54 => ?_
  obtain ⟨r56, h57, H⟩ := bindS H
  refine p_cv (tally_Can_ok h57 (gr_rd eTallyCount_len (S54.atX (i := 1) rfl)) (gr_rd intE_len (S54.atX (i := 0) rfl)) (S54.atP (i := 0) rfl)) fu29 rfl S54 fun w58 S59 => ?_
  refine p_mT rfl ?_
  refine p_ext rfl rfl ?_
  refine p_ext rfl rfl ?_
  refine p_aB rfl ?_
  refine p_aI rfl ?_
  refine wp_nil ?_
  refine c_seq ?_
  refine reg ?_
  obtain ⟨r60, h61, H⟩ := bindS H
  refine p_cal (law_own_ok h61) fu52 rfl ?_
  rintro _ w62 ⟨A64, c65, rfl, k63, ⟨o66, n67⟩, _⟩
  have S69 := S59.addNew k63 o66 n67
  obtain ⟨r70, h71, H⟩ := bindS H
  refine p_cv (tally_Pays_ok h71 (gr_rd eTallyCount_len (S69.atX (i := 0) rfl)) (S69.atP (i := 0) rfl) (S69.atP (i := 1) rfl)) fu33 rfl S69 fun w72 S73 => ?_
  refine p_mT rfl ?_
  refine p_ext rfl rfl ?_
  refine p_ext rfl rfl ?_
  refine p_allA in49 S73 fun b74 w75 S76 => ?_
  refine p_stP (pre := []) (old := [I 0, I 0]) (post := []) (vs := [I r70.1.Low, I r70.1.High]) sz49 S76 (i := 0) rfl rfl rfl rfl (rfl : _ = AG [I r70.1.Low, I r70.1.High]) rfl rfl rfl rfl fun w77 S78 => ?_
  refine p_aI rfl ?_
  refine wp_nil ?_
  refine c_seq ?_
  refine reg ?_
  obtain ⟨r79, h80, H⟩ := bindS H
  refine p_cal (law_torn_ok h80) fu54 rfl ?_
  rintro _ w81 ⟨A83, c84, rfl, k82, ⟨o85, n86⟩, _⟩
  have S88 := S78.addNew k82 o85 n86
  have S89 := S88.fixRd eTallyCount_len (i := 0) rfl
  obtain ⟨r90, h91, H⟩ := bindS H
  refine p_cal (tally_Wrong_ok h91 (S89.atP (i := 0) rfl) (S89.atP (i := 1) rfl) (S89.atP (i := 2) rfl)) fu30 rfl ?_
  rintro _ w92 ⟨A94, c95, rfl, k93, ⟨o96, n97⟩, _⟩
  have S98 := S89.callN k93 [rd intE 1 A94 c95 r90.1] (List.forall_mem_cons.2 ⟨⟨o96, Al.inL n97 ((List.forall_mem_cons.2 ⟨(fp_mem (i := 0) rfl), (fun _ h_ => (List.not_mem_nil h_).elim)⟩))⟩, (fun _ h_ => (List.not_mem_nil h_).elim)⟩)
  refine p_mT rfl ?_
  refine p_ext rfl rfl ?_
  refine p_ext rfl rfl ?_
  refine p_aS rfl ?_
  refine p_aI rfl ?_
  refine wp_nil ?_
  refine c_seq ?_
  refine c_seq ?_
  rcases Bool.eq_false_or_eq_true ((r13.2 != 0)) with c99 | c99
  · replace H := condT c99 H
    refine reg_c mixed 43 [39, 40, 41, 42] (by kernel_rfl) ?_
    refine kS rfl (fun _ k_ => p_mI rfl dn) ?_
    refine kS rfl (fun _ k_ => p_cmp rfl rfl rfl dn) ?_
    refine kS rfl (fun _ k_ => p_mB rfl dn) ?_
    refine kB c99 ?_
    refine kS rfl (fun _ k_ => gF rfl rfl dnU) ?_
    refine kS rfl (fun _ k_ => gF rfl rfl dnU) ?_
    refine kS rfl (fun _ k_ => p_pkT rfl (rfl : _ = B true) dn) ?_
    refine kS rfl (fun _ k_ => p_mB rfl dn) ?_
    refine kS rfl (fun _ k_ => gF rfl rfl dnU) ?_
    refine kS rfl (fun _ k_ => gF rfl rfl dnU) ?_
    refine kS rfl (fun _ k_ => p_pkT rfl (rfl : _ = B true) dn) ?_
    refine kS rfl (fun _ k_ => p_mB rfl dn) ?_
    refine kS rfl (fun _ k_ => gF rfl rfl dnU) ?_
    refine kS rfl (fun _ k_ => gF rfl rfl dnU) ?_
    refine kS rfl (fun _ k_ => p_pkT rfl (rfl : _ = B true) dn) ?_
    refine kS rfl (fun _ k_ => p_mB rfl dn) ?_
    refine kS rfl (fun _ k_ => gF rfl rfl dnU) ?_
    refine kS rfl (fun _ k_ => gF rfl rfl dnU) ?_
    refine kS rfl (fun _ k_ => p_pkT rfl (rfl : _ = B true) dn) ?_
    refine kS rfl (fun _ k_ => p_mB rfl dn) ?_
    refine kS rfl (fun _ k_ => gF rfl rfl dnU) ?_
    refine kS rfl (fun _ k_ => gF rfl rfl dnU) ?_
    refine kS rfl (fun _ k_ => gF rfl rfl dnU) ?_
    refine kS rfl (fun _ k_ => p_pkT rfl (rfl : _ = B true) dn) ?_
    refine kS rfl (fun _ k_ => p_mB rfl dn) ?_
    refine kS rfl (fun _ k_ => gF rfl rfl dnU) ?_
    refine kS rfl (fun _ k_ => gF rfl rfl dnU) ?_
    refine kS rfl (fun _ k_ => gF rfl rfl dnU) ?_
    refine kS rfl (fun _ k_ => p_pkT rfl (rfl : _ = B true) dn) ?_
    refine kS rfl (fun _ k_ => p_mB rfl dn) ?_
    refine kS rfl (fun _ k_ => gF rfl rfl dnU) ?_
    refine kS rfl (fun _ k_ => gF rfl rfl dnU) ?_
    refine kS rfl (fun _ k_ => p_pkT rfl (rfl : _ = B true) dn) ?_
    refine kS rfl (fun _ k_ => p_mB rfl dn) ?_
    refine kS rfl (fun _ k_ => gF rfl rfl dnU) ?_
    refine kS rfl (fun _ k_ => gF rfl rfl dnU) ?_
    refine kS rfl (fun _ k_ => gF rfl rfl dnU) ?_
    refine kS rfl (fun _ k_ => p_pkT rfl (rfl : _ = B true) dn) ?_
    refine kS rfl (fun _ k_ => p_mB rfl dn) ?_
    refine kS rfl (fun _ k_ => gF rfl rfl dnU) ?_
    refine kC rfl ?_
    refine kC rfl ?_
    refine kC rfl ?_
    refine kC rfl ?_
    intro w100 k101; have S102 := S98.call k101
    refine gF rfl rfl (cN (Keep.refl _ _) fun w103 k104 => ?_)
    have S105 := S102.call k104
    refine gF rfl rfl (cN (Keep.refl _ _) fun w106 k107 => ?_)
    have S108 := S105.call k107
    refine gF rfl rfl (cN (Keep.refl _ _) fun w109 k110 => ?_)
    have S111 := S108.call k110
    refine p_pkT rfl (rfl : _ = B true) (cN (Keep.refl _ _) fun w112 k113 => ?_)
    have S114 := S111.call k113
    refine wp_nil ?_
    refine c_true rfl ?_
    refine c_seq ?_
    refine reg ?_
    refine p_aB rfl ?_
    refine wp_nil ?_
    obtain rfl := Option.some.inj H
    refine c_ret ?_; show bodyPostM (Fr none) 0 Tryd.prog Tryd.f19 _ .ret _ _
    refine ret_of (res1 rfl (rvT (rfl : _ = B false))) ?_
    exact ⟨_, rfl, rfl, S114.keep⟩
  · replace H := condF c99 H
    rcases Bool.eq_false_or_eq_true ((r32.2 != 0)) with c115 | c115
    · replace H := condT c115 H
      refine reg_c mixed 43 [39, 40, 41, 42] (by kernel_rfl) ?_
      refine kS rfl (fun _ k_ => p_mI rfl dn) ?_
      refine kS rfl (fun _ k_ => p_cmp rfl rfl rfl dn) ?_
      refine kS rfl (fun _ k_ => p_mB rfl dn) ?_
      refine kB c99 ?_
      refine kS rfl (fun _ k_ => gT rfl rfl (p_mI rfl dn)) ?_
      refine kS rfl (fun _ k_ => gT rfl rfl (p_cmp rfl rfl rfl dn)) ?_
      refine kS rfl (fun _ k_ => p_pkF rfl (rfl : _ = B (r32.2 != 0)) dn) ?_
      refine kS rfl (fun _ k_ => p_mB rfl dn) ?_
      refine kB c115 ?_
      refine kS rfl (fun _ k_ => gF rfl rfl dnU) ?_
      refine kS rfl (fun _ k_ => gF rfl rfl dnU) ?_
      refine kS rfl (fun _ k_ => p_pkT rfl (rfl : _ = B true) dn) ?_
      refine kS rfl (fun _ k_ => p_mB rfl dn) ?_
      refine kS rfl (fun _ k_ => gF rfl rfl dnU) ?_
      refine kS rfl (fun _ k_ => gF rfl rfl dnU) ?_
      refine kS rfl (fun _ k_ => p_pkT rfl (rfl : _ = B true) dn) ?_
      refine kS rfl (fun _ k_ => p_mB rfl dn) ?_
      refine kS rfl (fun _ k_ => gF rfl rfl dnU) ?_
      refine kS rfl (fun _ k_ => gF rfl rfl dnU) ?_
      refine kS rfl (fun _ k_ => p_pkT rfl (rfl : _ = B true) dn) ?_
      refine kS rfl (fun _ k_ => p_mB rfl dn) ?_
      refine kS rfl (fun _ k_ => gF rfl rfl dnU) ?_
      refine kS rfl (fun _ k_ => gF rfl rfl dnU) ?_
      refine kS rfl (fun _ k_ => gF rfl rfl dnU) ?_
      refine kS rfl (fun _ k_ => p_pkT rfl (rfl : _ = B true) dn) ?_
      refine kS rfl (fun _ k_ => p_mB rfl dn) ?_
      refine kS rfl (fun _ k_ => gF rfl rfl dnU) ?_
      refine kS rfl (fun _ k_ => gF rfl rfl dnU) ?_
      refine kS rfl (fun _ k_ => gF rfl rfl dnU) ?_
      refine kS rfl (fun _ k_ => p_pkT rfl (rfl : _ = B true) dn) ?_
      refine kS rfl (fun _ k_ => p_mB rfl dn) ?_
      refine kS rfl (fun _ k_ => gF rfl rfl dnU) ?_
      refine kS rfl (fun _ k_ => gF rfl rfl dnU) ?_
      refine kS rfl (fun _ k_ => p_pkT rfl (rfl : _ = B true) dn) ?_
      refine kS rfl (fun _ k_ => p_mB rfl dn) ?_
      refine kS rfl (fun _ k_ => gF rfl rfl dnU) ?_
      refine kS rfl (fun _ k_ => gF rfl rfl dnU) ?_
      refine kS rfl (fun _ k_ => gF rfl rfl dnU) ?_
      refine kS rfl (fun _ k_ => p_pkT rfl (rfl : _ = B true) dn) ?_
      refine kS rfl (fun _ k_ => p_mB rfl dn) ?_
      refine kS rfl (fun _ k_ => gF rfl rfl dnU) ?_
      refine kC rfl ?_
      refine kC rfl ?_
      refine kC rfl ?_
      refine kC rfl ?_
      intro w116 k117; have S118 := S98.call k117
      refine gF rfl rfl (cN (Keep.refl _ _) fun w119 k120 => ?_)
      have S121 := S118.call k120
      refine gF rfl rfl (cN (Keep.refl _ _) fun w122 k123 => ?_)
      have S124 := S121.call k123
      refine gF rfl rfl (cN (Keep.refl _ _) fun w125 k126 => ?_)
      have S127 := S124.call k126
      refine p_pkT rfl (rfl : _ = B true) (cN (Keep.refl _ _) fun w128 k129 => ?_)
      have S130 := S127.call k129
      refine wp_nil ?_
      refine c_true rfl ?_
      refine c_seq ?_
      refine reg ?_
      refine p_aB rfl ?_
      refine wp_nil ?_
      obtain rfl := Option.some.inj H
      refine c_ret ?_; show bodyPostM (Fr none) 0 Tryd.prog Tryd.f19 _ .ret _ _
      refine ret_of (res1 rfl (rvT (rfl : _ = B false))) ?_
      exact ⟨_, rfl, rfl, S130.keep⟩
    · replace H := condF c115 H
      rcases Bool.eq_false_or_eq_true ((r56.2 != 0)) with c131 | c131
      · replace H := condT c131 H
        refine reg_c mixed 43 [39, 40, 41, 42] (by kernel_rfl) ?_
        refine kS rfl (fun _ k_ => p_mI rfl dn) ?_
        refine kS rfl (fun _ k_ => p_cmp rfl rfl rfl dn) ?_
        refine kS rfl (fun _ k_ => p_mB rfl dn) ?_
        refine kB c99 ?_
        refine kS rfl (fun _ k_ => gT rfl rfl (p_mI rfl dn)) ?_
        refine kS rfl (fun _ k_ => gT rfl rfl (p_cmp rfl rfl rfl dn)) ?_
        refine kS rfl (fun _ k_ => p_pkF rfl (rfl : _ = B (r32.2 != 0)) dn) ?_
        refine kS rfl (fun _ k_ => p_mB rfl dn) ?_
        refine kB c115 ?_
        refine kS rfl (fun _ k_ => gT rfl rfl (p_mI rfl dn)) ?_
        refine kS rfl (fun _ k_ => gT rfl rfl (p_cmp rfl rfl rfl dn)) ?_
        refine kS rfl (fun _ k_ => p_pkF rfl (rfl : _ = B (r56.2 != 0)) dn) ?_
        refine kS rfl (fun _ k_ => p_mB rfl dn) ?_
        refine kB c131 ?_
        refine kS rfl (fun _ k_ => gF rfl rfl dnU) ?_
        refine kS rfl (fun _ k_ => gF rfl rfl dnU) ?_
        refine kS rfl (fun _ k_ => p_pkT rfl (rfl : _ = B true) dn) ?_
        refine kS rfl (fun _ k_ => p_mB rfl dn) ?_
        refine kS rfl (fun _ k_ => gF rfl rfl dnU) ?_
        refine kS rfl (fun _ k_ => gF rfl rfl dnU) ?_
        refine kS rfl (fun _ k_ => p_pkT rfl (rfl : _ = B true) dn) ?_
        refine kS rfl (fun _ k_ => p_mB rfl dn) ?_
        refine kS rfl (fun _ k_ => gF rfl rfl dnU) ?_
        refine kS rfl (fun _ k_ => gF rfl rfl dnU) ?_
        refine kS rfl (fun _ k_ => gF rfl rfl dnU) ?_
        refine kS rfl (fun _ k_ => p_pkT rfl (rfl : _ = B true) dn) ?_
        refine kS rfl (fun _ k_ => p_mB rfl dn) ?_
        refine kS rfl (fun _ k_ => gF rfl rfl dnU) ?_
        refine kS rfl (fun _ k_ => gF rfl rfl dnU) ?_
        refine kS rfl (fun _ k_ => gF rfl rfl dnU) ?_
        refine kS rfl (fun _ k_ => p_pkT rfl (rfl : _ = B true) dn) ?_
        refine kS rfl (fun _ k_ => p_mB rfl dn) ?_
        refine kS rfl (fun _ k_ => gF rfl rfl dnU) ?_
        refine kS rfl (fun _ k_ => gF rfl rfl dnU) ?_
        refine kS rfl (fun _ k_ => p_pkT rfl (rfl : _ = B true) dn) ?_
        refine kS rfl (fun _ k_ => p_mB rfl dn) ?_
        refine kS rfl (fun _ k_ => gF rfl rfl dnU) ?_
        refine kS rfl (fun _ k_ => gF rfl rfl dnU) ?_
        refine kS rfl (fun _ k_ => gF rfl rfl dnU) ?_
        refine kS rfl (fun _ k_ => p_pkT rfl (rfl : _ = B true) dn) ?_
        refine kS rfl (fun _ k_ => p_mB rfl dn) ?_
        refine kS rfl (fun _ k_ => gF rfl rfl dnU) ?_
        refine kC rfl ?_
        refine kC rfl ?_
        refine kC rfl ?_
        refine kC rfl ?_
        intro w132 k133; have S134 := S98.call k133
        refine gF rfl rfl (cN (Keep.refl _ _) fun w135 k136 => ?_)
        have S137 := S134.call k136
        refine gF rfl rfl (cN (Keep.refl _ _) fun w138 k139 => ?_)
        have S140 := S137.call k139
        refine gF rfl rfl (cN (Keep.refl _ _) fun w141 k142 => ?_)
        have S143 := S140.call k142
        refine p_pkT rfl (rfl : _ = B true) (cN (Keep.refl _ _) fun w144 k145 => ?_)
        have S146 := S143.call k145
        refine wp_nil ?_
        refine c_true rfl ?_
        refine c_seq ?_
        refine reg ?_
        refine p_aB rfl ?_
        refine wp_nil ?_
        obtain rfl := Option.some.inj H
        refine c_ret ?_; show bodyPostM (Fr none) 0 Tryd.prog Tryd.f19 _ .ret _ _
        refine ret_of (res1 rfl (rvT (rfl : _ = B false))) ?_
        exact ⟨_, rfl, rfl, S146.keep⟩
      · replace H := condF c131 H
        rcases Bool.eq_false_or_eq_true ((r70.2 != 0)) with c147 | c147
        · replace H := condT c147 H
          refine reg_c mixed 43 [39, 40, 41, 42] (by kernel_rfl) ?_
          refine kS rfl (fun _ k_ => p_mI rfl dn) ?_
          refine kS rfl (fun _ k_ => p_cmp rfl rfl rfl dn) ?_
          refine kS rfl (fun _ k_ => p_mB rfl dn) ?_
          refine kB c99 ?_
          refine kS rfl (fun _ k_ => gT rfl rfl (p_mI rfl dn)) ?_
          refine kS rfl (fun _ k_ => gT rfl rfl (p_cmp rfl rfl rfl dn)) ?_
          refine kS rfl (fun _ k_ => p_pkF rfl (rfl : _ = B (r32.2 != 0)) dn) ?_
          refine kS rfl (fun _ k_ => p_mB rfl dn) ?_
          refine kB c115 ?_
          refine kS rfl (fun _ k_ => gT rfl rfl (p_mI rfl dn)) ?_
          refine kS rfl (fun _ k_ => gT rfl rfl (p_cmp rfl rfl rfl dn)) ?_
          refine kS rfl (fun _ k_ => p_pkF rfl (rfl : _ = B (r56.2 != 0)) dn) ?_
          refine kS rfl (fun _ k_ => p_mB rfl dn) ?_
          refine kB c131 ?_
          refine kS rfl (fun _ k_ => gT rfl rfl (p_mI rfl dn)) ?_
          refine kS rfl (fun _ k_ => gT rfl rfl (p_cmp rfl rfl rfl dn)) ?_
          refine kS rfl (fun _ k_ => p_pkF rfl (rfl : _ = B (r70.2 != 0)) dn) ?_
          refine kS rfl (fun _ k_ => p_mB rfl dn) ?_
          refine kB c147 ?_
          refine kS rfl (fun _ k_ => gF rfl rfl dnU) ?_
          refine kS rfl (fun _ k_ => gF rfl rfl dnU) ?_
          refine kS rfl (fun _ k_ => p_pkT rfl (rfl : _ = B true) dn) ?_
          refine kS rfl (fun _ k_ => p_mB rfl dn) ?_
          refine kS rfl (fun _ k_ => gF rfl rfl dnU) ?_
          refine kS rfl (fun _ k_ => gF rfl rfl dnU) ?_
          refine kS rfl (fun _ k_ => gF rfl rfl dnU) ?_
          refine kS rfl (fun _ k_ => p_pkT rfl (rfl : _ = B true) dn) ?_
          refine kS rfl (fun _ k_ => p_mB rfl dn) ?_
          refine kS rfl (fun _ k_ => gF rfl rfl dnU) ?_
          refine kS rfl (fun _ k_ => gF rfl rfl dnU) ?_
          refine kS rfl (fun _ k_ => gF rfl rfl dnU) ?_
          refine kS rfl (fun _ k_ => p_pkT rfl (rfl : _ = B true) dn) ?_
          refine kS rfl (fun _ k_ => p_mB rfl dn) ?_
          refine kS rfl (fun _ k_ => gF rfl rfl dnU) ?_
          refine kS rfl (fun _ k_ => gF rfl rfl dnU) ?_
          refine kS rfl (fun _ k_ => p_pkT rfl (rfl : _ = B true) dn) ?_
          refine kS rfl (fun _ k_ => p_mB rfl dn) ?_
          refine kS rfl (fun _ k_ => gF rfl rfl dnU) ?_
          refine kS rfl (fun _ k_ => gF rfl rfl dnU) ?_
          refine kS rfl (fun _ k_ => gF rfl rfl dnU) ?_
          refine kS rfl (fun _ k_ => p_pkT rfl (rfl : _ = B true) dn) ?_
          refine kS rfl (fun _ k_ => p_mB rfl dn) ?_
          refine kS rfl (fun _ k_ => gF rfl rfl dnU) ?_
          refine kC rfl ?_
          refine kC rfl ?_
          refine kC rfl ?_
          refine kC rfl ?_
          intro w148 k149; have S150 := S98.call k149
          refine gF rfl rfl (cN (Keep.refl _ _) fun w151 k152 => ?_)
          have S153 := S150.call k152
          refine gF rfl rfl (cN (Keep.refl _ _) fun w154 k155 => ?_)
          have S156 := S153.call k155
          refine gF rfl rfl (cN (Keep.refl _ _) fun w157 k158 => ?_)
          have S159 := S156.call k158
          refine p_pkT rfl (rfl : _ = B true) (cN (Keep.refl _ _) fun w160 k161 => ?_)
          have S162 := S159.call k161
          refine wp_nil ?_
          refine c_true rfl ?_
          refine c_seq ?_
          refine reg ?_
          refine p_aB rfl ?_
          refine wp_nil ?_
          obtain rfl := Option.some.inj H
          refine c_ret ?_; show bodyPostM (Fr none) 0 Tryd.prog Tryd.f19 _ .ret _ _
          refine ret_of (res1 rfl (rvT (rfl : _ = B false))) ?_
          exact ⟨_, rfl, rfl, S162.keep⟩
        · replace H := condF c147 H
          rcases Bool.eq_false_or_eq_true ((r90.2 != 0)) with c163 | c163
          · replace H := condT c163 H
            refine reg_c mixed 43 [39, 40, 41, 42] (by kernel_rfl) ?_
            refine kS rfl (fun _ k_ => p_mI rfl dn) ?_
            refine kS rfl (fun _ k_ => p_cmp rfl rfl rfl dn) ?_
            refine kS rfl (fun _ k_ => p_mB rfl dn) ?_
            refine kB c99 ?_
            refine kS rfl (fun _ k_ => gT rfl rfl (p_mI rfl dn)) ?_
            refine kS rfl (fun _ k_ => gT rfl rfl (p_cmp rfl rfl rfl dn)) ?_
            refine kS rfl (fun _ k_ => p_pkF rfl (rfl : _ = B (r32.2 != 0)) dn) ?_
            refine kS rfl (fun _ k_ => p_mB rfl dn) ?_
            refine kB c115 ?_
            refine kS rfl (fun _ k_ => gT rfl rfl (p_mI rfl dn)) ?_
            refine kS rfl (fun _ k_ => gT rfl rfl (p_cmp rfl rfl rfl dn)) ?_
            refine kS rfl (fun _ k_ => p_pkF rfl (rfl : _ = B (r56.2 != 0)) dn) ?_
            refine kS rfl (fun _ k_ => p_mB rfl dn) ?_
            refine kB c131 ?_
            refine kS rfl (fun _ k_ => gT rfl rfl (p_mI rfl dn)) ?_
            refine kS rfl (fun _ k_ => gT rfl rfl (p_cmp rfl rfl rfl dn)) ?_
            refine kS rfl (fun _ k_ => p_pkF rfl (rfl : _ = B (r70.2 != 0)) dn) ?_
            refine kS rfl (fun _ k_ => p_mB rfl dn) ?_
            refine kB c147 ?_
            refine kS rfl (fun _ k_ => gT rfl rfl (p_mI rfl dn)) ?_
            refine kS rfl (fun _ k_ => gT rfl rfl (p_cmp rfl rfl rfl dn)) ?_
            refine kS rfl (fun _ k_ => p_pkF rfl (rfl : _ = B (r90.2 != 0)) dn) ?_
            refine kS rfl (fun _ k_ => p_mB rfl dn) ?_
            refine kB c163 ?_
            refine kS rfl (fun _ k_ => gF rfl rfl dnU) ?_
            refine kS rfl (fun _ k_ => gF rfl rfl dnU) ?_
            refine kS rfl (fun _ k_ => gF rfl rfl dnU) ?_
            refine kS rfl (fun _ k_ => p_pkT rfl (rfl : _ = B true) dn) ?_
            refine kS rfl (fun _ k_ => p_mB rfl dn) ?_
            refine kS rfl (fun _ k_ => gF rfl rfl dnU) ?_
            refine kS rfl (fun _ k_ => gF rfl rfl dnU) ?_
            refine kS rfl (fun _ k_ => gF rfl rfl dnU) ?_
            refine kS rfl (fun _ k_ => p_pkT rfl (rfl : _ = B true) dn) ?_
            refine kS rfl (fun _ k_ => p_mB rfl dn) ?_
            refine kS rfl (fun _ k_ => gF rfl rfl dnU) ?_
            refine kS rfl (fun _ k_ => gF rfl rfl dnU) ?_
            refine kS rfl (fun _ k_ => p_pkT rfl (rfl : _ = B true) dn) ?_
            refine kS rfl (fun _ k_ => p_mB rfl dn) ?_
            refine kS rfl (fun _ k_ => gF rfl rfl dnU) ?_
            refine kS rfl (fun _ k_ => gF rfl rfl dnU) ?_
            refine kS rfl (fun _ k_ => gF rfl rfl dnU) ?_
            refine kS rfl (fun _ k_ => p_pkT rfl (rfl : _ = B true) dn) ?_
            refine kS rfl (fun _ k_ => p_mB rfl dn) ?_
            refine kS rfl (fun _ k_ => gF rfl rfl dnU) ?_
            refine kC rfl ?_
            refine kC rfl ?_
            refine kC rfl ?_
            refine kC rfl ?_
            intro w164 k165; have S166 := S98.call k165
            refine gF rfl rfl (cN (Keep.refl _ _) fun w167 k168 => ?_)
            have S169 := S166.call k168
            refine gF rfl rfl (cN (Keep.refl _ _) fun w170 k171 => ?_)
            have S172 := S169.call k171
            refine gF rfl rfl (cN (Keep.refl _ _) fun w173 k174 => ?_)
            have S175 := S172.call k174
            refine p_pkT rfl (rfl : _ = B true) (cN (Keep.refl _ _) fun w176 k177 => ?_)
            have S178 := S175.call k177
            refine wp_nil ?_
            refine c_true rfl ?_
            refine c_seq ?_
            refine reg ?_
            refine p_aB rfl ?_
            refine wp_nil ?_
            obtain rfl := Option.some.inj H
            refine c_ret ?_; show bodyPostM (Fr none) 0 Tryd.prog Tryd.f19 _ .ret _ _
            refine ret_of (res1 rfl (rvT (rfl : _ = B false))) ?_
            exact ⟨_, rfl, rfl, S178.keep⟩
          · replace H := condF c163 H
            obtain ⟨r179, h180, H⟩ := bindS H
            rcases Bool.eq_false_or_eq_true (!((r13.1.Low == r179.Low) && (r13.1.High == r179.High))) with c181 | c181
            · replace H := condT c181 H
              refine reg_c mixed 43 [39, 40, 41, 42] (by kernel_rfl) ?_
              refine kS rfl (fun _ k_ => p_mI rfl dn) ?_
              refine kS rfl (fun _ k_ => p_cmp rfl rfl rfl dn) ?_
              refine kS rfl (fun _ k_ => p_mB rfl dn) ?_
              refine kB c99 ?_
              refine kS rfl (fun _ k_ => gT rfl rfl (p_mI rfl dn)) ?_
              refine kS rfl (fun _ k_ => gT rfl rfl (p_cmp rfl rfl rfl dn)) ?_
              refine kS rfl (fun _ k_ => p_pkF rfl (rfl : _ = B (r32.2 != 0)) dn) ?_
              refine kS rfl (fun _ k_ => p_mB rfl dn) ?_
              refine kB c115 ?_
              refine kS rfl (fun _ k_ => gT rfl rfl (p_mI rfl dn)) ?_
              refine kS rfl (fun _ k_ => gT rfl rfl (p_cmp rfl rfl rfl dn)) ?_
              refine kS rfl (fun _ k_ => p_pkF rfl (rfl : _ = B (r56.2 != 0)) dn) ?_
              refine kS rfl (fun _ k_ => p_mB rfl dn) ?_
              refine kB c131 ?_
              refine kS rfl (fun _ k_ => gT rfl rfl (p_mI rfl dn)) ?_
              refine kS rfl (fun _ k_ => gT rfl rfl (p_cmp rfl rfl rfl dn)) ?_
              refine kS rfl (fun _ k_ => p_pkF rfl (rfl : _ = B (r70.2 != 0)) dn) ?_
              refine kS rfl (fun _ k_ => p_mB rfl dn) ?_
              refine kB c147 ?_
              refine kS rfl (fun _ k_ => gT rfl rfl (p_mI rfl dn)) ?_
              refine kS rfl (fun _ k_ => gT rfl rfl (p_cmp rfl rfl rfl dn)) ?_
              refine kS rfl (fun _ k_ => p_pkF rfl (rfl : _ = B (r90.2 != 0)) dn) ?_
              refine kS rfl (fun _ k_ => p_mB rfl dn) ?_
              refine kB c163 ?_
              refine kS rfl (fun _ k_ => gT rfl rfl (p_ldA ty49 sz49 (Asr.stays (S98.atX (i := 6) rfl) k_) rfl rfl dn)) ?_
              refine kS rfl (fun _ k_ => gT rfl rfl (p_cvD (B_Range_ok h180) fu41 rfl)) ?_
              refine kS rfl (fun _ k_ => gT rfl rfl (o_neA (xs := [I r13.1.Low, I r13.1.High]) (ys := [I r179.Low, I r179.High]) (T := ((r13.1.Low == r179.Low) && (r13.1.High == r179.High))) rfl rfl eq49 ⟨⟨_, rfl⟩, ⟨⟨_, rfl⟩, trivial⟩⟩ ⟨⟨_, rfl⟩, ⟨⟨_, rfl⟩, trivial⟩⟩ (by simp [Bool.and_eq_true, and_assoc]) dn)) ?_
              refine kS rfl (fun _ k_ => p_pkF rfl (rfl : _ = B (!((r13.1.Low == r179.Low) && (r13.1.High == r179.High)))) dn) ?_
              refine kS rfl (fun _ k_ => p_mB rfl dn) ?_
              refine kB c181 ?_
              refine kS rfl (fun _ k_ => gF rfl rfl dnU) ?_
              refine kS rfl (fun _ k_ => gF rfl rfl dnU) ?_
              refine kS rfl (fun _ k_ => gF rfl rfl dnU) ?_
              refine kS rfl (fun _ k_ => p_pkT rfl (rfl : _ = B true) dn) ?_
              refine kS rfl (fun _ k_ => p_mB rfl dn) ?_
              refine kS rfl (fun _ k_ => gF rfl rfl dnU) ?_
              refine kS rfl (fun _ k_ => gF rfl rfl dnU) ?_
              refine kS rfl (fun _ k_ => p_pkT rfl (rfl : _ = B true) dn) ?_
              refine kS rfl (fun _ k_ => p_mB rfl dn) ?_
              refine kS rfl (fun _ k_ => gF rfl rfl dnU) ?_
              refine kS rfl (fun _ k_ => gF rfl rfl dnU) ?_
              refine kS rfl (fun _ k_ => gF rfl rfl dnU) ?_
              refine kS rfl (fun _ k_ => p_pkT rfl (rfl : _ = B true) dn) ?_
              refine kS rfl (fun _ k_ => p_mB rfl dn) ?_
              refine kS rfl (fun _ k_ => gF rfl rfl dnU) ?_
              refine kC rfl ?_
              refine kC rfl ?_
              refine kC rfl ?_
              refine kC rfl ?_
              intro w182 k183; have S184 := S98.call k183
              refine gF rfl rfl (cN (Keep.refl _ _) fun w185 k186 => ?_)
              have S187 := S184.call k186
              refine gF rfl rfl (cN (Keep.refl _ _) fun w188 k189 => ?_)
              have S190 := S187.call k189
              refine gF rfl rfl (cN (Keep.refl _ _) fun w191 k192 => ?_)
              have S193 := S190.call k192
              refine p_pkT rfl (rfl : _ = B true) (cN (Keep.refl _ _) fun w194 k195 => ?_)
              have S196 := S193.call k195
              refine wp_nil ?_
              refine c_true rfl ?_
              refine c_seq ?_
              refine reg ?_
              refine p_aB rfl ?_
              refine wp_nil ?_
              obtain rfl := Option.some.inj H
              refine c_ret ?_; show bodyPostM (Fr none) 0 Tryd.prog Tryd.f19 _ .ret _ _
              refine ret_of (res1 rfl (rvT (rfl : _ = B false))) ?_
              exact ⟨_, rfl, rfl, S196.keep⟩
            · replace H := condF c181 H
              obtain ⟨r197, h198, H⟩ := bindS H
              rcases Bool.eq_false_or_eq_true (!((r32.1.Low == r197.Low) && (r32.1.High == r197.High))) with c199 | c199
              · replace H := condT c199 H
                refine reg_c mixed 43 [39, 40, 41, 42] (by kernel_rfl) ?_
                refine kS rfl (fun _ k_ => p_mI rfl dn) ?_
                refine kS rfl (fun _ k_ => p_cmp rfl rfl rfl dn) ?_
                refine kS rfl (fun _ k_ => p_mB rfl dn) ?_
                refine kB c99 ?_
                refine kS rfl (fun _ k_ => gT rfl rfl (p_mI rfl dn)) ?_
                refine kS rfl (fun _ k_ => gT rfl rfl (p_cmp rfl rfl rfl dn)) ?_
                refine kS rfl (fun _ k_ => p_pkF rfl (rfl : _ = B (r32.2 != 0)) dn) ?_
                refine kS rfl (fun _ k_ => p_mB rfl dn) ?_
                refine kB c115 ?_
                refine kS rfl (fun _ k_ => gT rfl rfl (p_mI rfl dn)) ?_
                refine kS rfl (fun _ k_ => gT rfl rfl (p_cmp rfl rfl rfl dn)) ?_
                refine kS rfl (fun _ k_ => p_pkF rfl (rfl : _ = B (r56.2 != 0)) dn) ?_
                refine kS rfl (fun _ k_ => p_mB rfl dn) ?_
                refine kB c131 ?_
                refine kS rfl (fun _ k_ => gT rfl rfl (p_mI rfl dn)) ?_
                refine kS rfl (fun _ k_ => gT rfl rfl (p_cmp rfl rfl rfl dn)) ?_
                refine kS rfl (fun _ k_ => p_pkF rfl (rfl : _ = B (r70.2 != 0)) dn) ?_
                refine kS rfl (fun _ k_ => p_mB rfl dn) ?_
                refine kB c147 ?_
                refine kS rfl (fun _ k_ => gT rfl rfl (p_mI rfl dn)) ?_
                refine kS rfl (fun _ k_ => gT rfl rfl (p_cmp rfl rfl rfl dn)) ?_
                refine kS rfl (fun _ k_ => p_pkF rfl (rfl : _ = B (r90.2 != 0)) dn) ?_
                refine kS rfl (fun _ k_ => p_mB rfl dn) ?_
                refine kB c163 ?_
                refine kS rfl (fun _ k_ => gT rfl rfl (p_ldA ty49 sz49 (Asr.stays (S98.atX (i := 6) rfl) k_) rfl rfl dn)) ?_
                refine kS rfl (fun _ k_ => gT rfl rfl (p_cvD (B_Range_ok h180) fu41 rfl)) ?_
                refine kS rfl (fun _ k_ => gT rfl rfl (o_neA (xs := [I r13.1.Low, I r13.1.High]) (ys := [I r179.Low, I r179.High]) (T := ((r13.1.Low == r179.Low) && (r13.1.High == r179.High))) rfl rfl eq49 ⟨⟨_, rfl⟩, ⟨⟨_, rfl⟩, trivial⟩⟩ ⟨⟨_, rfl⟩, ⟨⟨_, rfl⟩, trivial⟩⟩ (by simp [Bool.and_eq_true, and_assoc]) dn)) ?_
                refine kS rfl (fun _ k_ => p_pkF rfl (rfl : _ = B (!((r13.1.Low == r179.Low) && (r13.1.High == r179.High)))) dn) ?_
                refine kS rfl (fun _ k_ => p_mB rfl dn) ?_
                refine kB c181 ?_
                refine kS rfl (fun _ k_ => gT rfl rfl (p_ldA ty49 sz49 (Asr.stays (S98.atX (i := 4) rfl) k_) rfl rfl dn)) ?_
                refine kS rfl (fun _ k_ => gT rfl rfl (p_cvD (B_Range_ok h198) fu41 rfl)) ?_
                refine kS rfl (fun _ k_ => gT rfl rfl (o_neA (xs := [I r32.1.Low, I r32.1.High]) (ys := [I r197.Low, I r197.High]) (T := ((r32.1.Low == r197.Low) && (r32.1.High == r197.High))) rfl rfl eq49 ⟨⟨_, rfl⟩, ⟨⟨_, rfl⟩, trivial⟩⟩ ⟨⟨_, rfl⟩, ⟨⟨_, rfl⟩, trivial⟩⟩ (by simp [Bool.and_eq_true, and_assoc]) dn)) ?_
                refine kS rfl (fun _ k_ => p_pkF rfl (rfl : _ = B (!((r32.1.Low == r197.Low) && (r32.1.High == r197.High)))) dn) ?_
                refine kS rfl (fun _ k_ => p_mB rfl dn) ?_
                refine kB c199 ?_
                refine kS rfl (fun _ k_ => gF rfl rfl dnU) ?_
                refine kS rfl (fun _ k_ => gF rfl rfl dnU) ?_
                refine kS rfl (fun _ k_ => p_pkT rfl (rfl : _ = B true) dn) ?_
                refine kS rfl (fun _ k_ => p_mB rfl dn) ?_
                refine kS rfl (fun _ k_ => gF rfl rfl dnU) ?_
                refine kS rfl (fun _ k_ => gF rfl rfl dnU) ?_
                refine kS rfl (fun _ k_ => gF rfl rfl dnU) ?_
                refine kS rfl (fun _ k_ => p_pkT rfl (rfl : _ = B true) dn) ?_
                refine kS rfl (fun _ k_ => p_mB rfl dn) ?_
                refine kS rfl (fun _ k_ => gF rfl rfl dnU) ?_
                refine kC rfl ?_
                refine kC rfl ?_
                refine kC rfl ?_
                refine kC rfl ?_
                intro w200 k201; have S202 := S98.call k201
                refine gF rfl rfl (cN (Keep.refl _ _) fun w203 k204 => ?_)
                have S205 := S202.call k204
                refine gF rfl rfl (cN (Keep.refl _ _) fun w206 k207 => ?_)
                have S208 := S205.call k207
                refine gF rfl rfl (cN (Keep.refl _ _) fun w209 k210 => ?_)
                have S211 := S208.call k210
                refine p_pkT rfl (rfl : _ = B true) (cN (Keep.refl _ _) fun w212 k213 => ?_)
                have S214 := S211.call k213
                refine wp_nil ?_
                refine c_true rfl ?_
                refine c_seq ?_
                refine reg ?_
                refine p_aB rfl ?_
                refine wp_nil ?_
                obtain rfl := Option.some.inj H
                refine c_ret ?_; show bodyPostM (Fr none) 0 Tryd.prog Tryd.f19 _ .ret _ _
                refine ret_of (res1 rfl (rvT (rfl : _ = B false))) ?_
                exact ⟨_, rfl, rfl, S214.keep⟩
              · replace H := condF c199 H
                rcases Bool.eq_false_or_eq_true (!r56.1) with c215 | c215
                · replace H := condT c215 H
                  refine reg_c mixed 43 [39, 40, 41, 42] (by kernel_rfl) ?_
                  refine kS rfl (fun _ k_ => p_mI rfl dn) ?_
                  refine kS rfl (fun _ k_ => p_cmp rfl rfl rfl dn) ?_
                  refine kS rfl (fun _ k_ => p_mB rfl dn) ?_
                  refine kB c99 ?_
                  refine kS rfl (fun _ k_ => gT rfl rfl (p_mI rfl dn)) ?_
                  refine kS rfl (fun _ k_ => gT rfl rfl (p_cmp rfl rfl rfl dn)) ?_
                  refine kS rfl (fun _ k_ => p_pkF rfl (rfl : _ = B (r32.2 != 0)) dn) ?_
                  refine kS rfl (fun _ k_ => p_mB rfl dn) ?_
                  refine kB c115 ?_
                  refine kS rfl (fun _ k_ => gT rfl rfl (p_mI rfl dn)) ?_
                  refine kS rfl (fun _ k_ => gT rfl rfl (p_cmp rfl rfl rfl dn)) ?_
                  refine kS rfl (fun _ k_ => p_pkF rfl (rfl : _ = B (r56.2 != 0)) dn) ?_
                  refine kS rfl (fun _ k_ => p_mB rfl dn) ?_
                  refine kB c131 ?_
                  refine kS rfl (fun _ k_ => gT rfl rfl (p_mI rfl dn)) ?_
                  refine kS rfl (fun _ k_ => gT rfl rfl (p_cmp rfl rfl rfl dn)) ?_
                  refine kS rfl (fun _ k_ => p_pkF rfl (rfl : _ = B (r70.2 != 0)) dn) ?_
                  refine kS rfl (fun _ k_ => p_mB rfl dn) ?_
                  refine kB c147 ?_
                  refine kS rfl (fun _ k_ => gT rfl rfl (p_mI rfl dn)) ?_
                  refine kS rfl (fun _ k_ => gT rfl rfl (p_cmp rfl rfl rfl dn)) ?_
                  refine kS rfl (fun _ k_ => p_pkF rfl (rfl : _ = B (r90.2 != 0)) dn) ?_
                  refine kS rfl (fun _ k_ => p_mB rfl dn) ?_
                  refine kB c163 ?_
                  refine kS rfl (fun _ k_ => gT rfl rfl (p_ldA ty49 sz49 (Asr.stays (S98.atX (i := 6) rfl) k_) rfl rfl dn)) ?_
                  refine kS rfl (fun _ k_ => gT rfl rfl (p_cvD (B_Range_ok h180) fu41 rfl)) ?_
                  refine kS rfl (fun _ k_ => gT rfl rfl (o_neA (xs := [I r13.1.Low, I r13.1.High]) (ys := [I r179.Low, I r179.High]) (T := ((r13.1.Low == r179.Low) && (r13.1.High == r179.High))) rfl rfl eq49 ⟨⟨_, rfl⟩, ⟨⟨_, rfl⟩, trivial⟩⟩ ⟨⟨_, rfl⟩, ⟨⟨_, rfl⟩, trivial⟩⟩ (by simp [Bool.and_eq_true, and_assoc]) dn)) ?_
                  refine kS rfl (fun _ k_ => p_pkF rfl (rfl : _ = B (!((r13.1.Low == r179.Low) && (r13.1.High == r179.High)))) dn) ?_
                  refine kS rfl (fun _ k_ => p_mB rfl dn) ?_
                  refine kB c181 ?_
                  refine kS rfl (fun _ k_ => gT rfl rfl (p_ldA ty49 sz49 (Asr.stays (S98.atX (i := 4) rfl) k_) rfl rfl dn)) ?_
                  refine kS rfl (fun _ k_ => gT rfl rfl (p_cvD (B_Range_ok h198) fu41 rfl)) ?_
                  refine kS rfl (fun _ k_ => gT rfl rfl (o_neA (xs := [I r32.1.Low, I r32.1.High]) (ys := [I r197.Low, I r197.High]) (T := ((r32.1.Low == r197.Low) && (r32.1.High == r197.High))) rfl rfl eq49 ⟨⟨_, rfl⟩, ⟨⟨_, rfl⟩, trivial⟩⟩ ⟨⟨_, rfl⟩, ⟨⟨_, rfl⟩, trivial⟩⟩ (by simp [Bool.and_eq_true, and_assoc]) dn)) ?_
                  refine kS rfl (fun _ k_ => p_pkF rfl (rfl : _ = B (!((r32.1.Low == r197.Low) && (r32.1.High == r197.High)))) dn) ?_
                  refine kS rfl (fun _ k_ => p_mB rfl dn) ?_
                  refine kB c199 ?_
                  refine kS rfl (fun _ k_ => gT rfl rfl (p_mB rfl dn)) ?_
                  refine kS rfl (fun _ k_ => gT rfl rfl (p_not rfl dn)) ?_
                  refine kS rfl (fun _ k_ => p_pkF rfl (rfl : _ = B (!r56.1)) dn) ?_
                  refine kS rfl (fun _ k_ => p_mB rfl dn) ?_
                  refine kB c215 ?_
                  refine kS rfl (fun _ k_ => gF rfl rfl dnU) ?_
                  refine kS rfl (fun _ k_ => gF rfl rfl dnU) ?_
                  refine kS rfl (fun _ k_ => gF rfl rfl dnU) ?_
                  refine kS rfl (fun _ k_ => p_pkT rfl (rfl : _ = B true) dn) ?_
                  refine kS rfl (fun _ k_ => p_mB rfl dn) ?_
                  refine kS rfl (fun _ k_ => gF rfl rfl dnU) ?_
                  refine kC rfl ?_
                  refine kC rfl ?_
                  refine kC rfl ?_
                  refine kC rfl ?_
                  intro w216 k217; have S218 := S98.call k217
                  refine gF rfl rfl (cN (Keep.refl _ _) fun w219 k220 => ?_)
                  have S221 := S218.call k220
                  refine gF rfl rfl (cN (Keep.refl _ _) fun w222 k223 => ?_)
                  have S224 := S221.call k223
                  refine gF rfl rfl (cN (Keep.refl _ _) fun w225 k226 => ?_)
                  have S227 := S224.call k226
                  refine p_pkT rfl (rfl : _ = B true) (cN (Keep.refl _ _) fun w228 k229 => ?_)
                  have S230 := S227.call k229
                  refine wp_nil ?_
                  refine c_true rfl ?_
                  refine c_seq ?_
                  refine reg ?_
                  refine p_aB rfl ?_
                  refine wp_nil ?_
                  obtain rfl := Option.some.inj H
                  refine c_ret ?_; show bodyPostM (Fr none) 0 Tryd.prog Tryd.f19 _ .ret _ _
                  refine ret_of (res1 rfl (rvT (rfl : _ = B false))) ?_
                  exact ⟨_, rfl, rfl, S230.keep⟩
                · replace H := condF c215 H
                  obtain ⟨r231, h232, H⟩ := bindS H
                  rcases Bool.eq_false_or_eq_true (!((r70.1.Low == r231.Low) && (r70.1.High == r231.High))) with c233 | c233
                  · replace H := condT c233 H
                    refine reg_c mixed 43 [39, 40, 41, 42] (by kernel_rfl) ?_
                    refine kS rfl (fun _ k_ => p_mI rfl dn) ?_
                    refine kS rfl (fun _ k_ => p_cmp rfl rfl rfl dn) ?_
                    refine kS rfl (fun _ k_ => p_mB rfl dn) ?_
                    refine kB c99 ?_
                    refine kS rfl (fun _ k_ => gT rfl rfl (p_mI rfl dn)) ?_
                    refine kS rfl (fun _ k_ => gT rfl rfl (p_cmp rfl rfl rfl dn)) ?_
                    refine kS rfl (fun _ k_ => p_pkF rfl (rfl : _ = B (r32.2 != 0)) dn) ?_
                    refine kS rfl (fun _ k_ => p_mB rfl dn) ?_
                    refine kB c115 ?_
                    refine kS rfl (fun _ k_ => gT rfl rfl (p_mI rfl dn)) ?_
                    refine kS rfl (fun _ k_ => gT rfl rfl (p_cmp rfl rfl rfl dn)) ?_
                    refine kS rfl (fun _ k_ => p_pkF rfl (rfl : _ = B (r56.2 != 0)) dn) ?_
                    refine kS rfl (fun _ k_ => p_mB rfl dn) ?_
                    refine kB c131 ?_
                    refine kS rfl (fun _ k_ => gT rfl rfl (p_mI rfl dn)) ?_
                    refine kS rfl (fun _ k_ => gT rfl rfl (p_cmp rfl rfl rfl dn)) ?_
                    refine kS rfl (fun _ k_ => p_pkF rfl (rfl : _ = B (r70.2 != 0)) dn) ?_
                    refine kS rfl (fun _ k_ => p_mB rfl dn) ?_
                    refine kB c147 ?_
                    refine kS rfl (fun _ k_ => gT rfl rfl (p_mI rfl dn)) ?_
                    refine kS rfl (fun _ k_ => gT rfl rfl (p_cmp rfl rfl rfl dn)) ?_
                    refine kS rfl (fun _ k_ => p_pkF rfl (rfl : _ = B (r90.2 != 0)) dn) ?_
                    refine kS rfl (fun _ k_ => p_mB rfl dn) ?_
                    refine kB c163 ?_
                    refine kS rfl (fun _ k_ => gT rfl rfl (p_ldA ty49 sz49 (Asr.stays (S98.atX (i := 6) rfl) k_) rfl rfl dn)) ?_
                    refine kS rfl (fun _ k_ => gT rfl rfl (p_cvD (B_Range_ok h180) fu41 rfl)) ?_
                    refine kS rfl (fun _ k_ => gT rfl rfl (o_neA (xs := [I r13.1.Low, I r13.1.High]) (ys := [I r179.Low, I r179.High]) (T := ((r13.1.Low == r179.Low) && (r13.1.High == r179.High))) rfl rfl eq49 ⟨⟨_, rfl⟩, ⟨⟨_, rfl⟩, trivial⟩⟩ ⟨⟨_, rfl⟩, ⟨⟨_, rfl⟩, trivial⟩⟩ (by simp [Bool.and_eq_true, and_assoc]) dn)) ?_
                    refine kS rfl (fun _ k_ => p_pkF rfl (rfl : _ = B (!((r13.1.Low == r179.Low) && (r13.1.High == r179.High)))) dn) ?_
                    refine kS rfl (fun _ k_ => p_mB rfl dn) ?_
                    refine kB c181 ?_
                    refine kS rfl (fun _ k_ => gT rfl rfl (p_ldA ty49 sz49 (Asr.stays (S98.atX (i := 4) rfl) k_) rfl rfl dn)) ?_
                    refine kS rfl (fun _ k_ => gT rfl rfl (p_cvD (B_Range_ok h198) fu41 rfl)) ?_
                    refine kS rfl (fun _ k_ => gT rfl rfl (o_neA (xs := [I r32.1.Low, I r32.1.High]) (ys := [I r197.Low, I r197.High]) (T := ((r32.1.Low == r197.Low) && (r32.1.High == r197.High))) rfl rfl eq49 ⟨⟨_, rfl⟩, ⟨⟨_, rfl⟩, trivial⟩⟩ ⟨⟨_, rfl⟩, ⟨⟨_, rfl⟩, trivial⟩⟩ (by simp [Bool.and_eq_true, and_assoc]) dn)) ?_
                    refine kS rfl (fun _ k_ => p_pkF rfl (rfl : _ = B (!((r32.1.Low == r197.Low) && (r32.1.High == r197.High)))) dn) ?_
                    refine kS rfl (fun _ k_ => p_mB rfl dn) ?_
                    refine kB c199 ?_
                    refine kS rfl (fun _ k_ => gT rfl rfl (p_mB rfl dn)) ?_
                    refine kS rfl (fun _ k_ => gT rfl rfl (p_not rfl dn)) ?_
                    refine kS rfl (fun _ k_ => p_pkF rfl (rfl : _ = B (!r56.1)) dn) ?_
                    refine kS rfl (fun _ k_ => p_mB rfl dn) ?_
                    refine kB c215 ?_
                    refine kS rfl (fun _ k_ => gT rfl rfl (p_ldA ty49 sz49 (Asr.stays (S98.atX (i := 0) rfl) k_) rfl rfl dn)) ?_
                    refine kS rfl (fun _ k_ => gT rfl rfl (p_cvD (B_Range_ok h232) fu41 rfl)) ?_
                    refine kS rfl (fun _ k_ => gT rfl rfl (o_neA (xs := [I r70.1.Low, I r70.1.High]) (ys := [I r231.Low, I r231.High]) (T := ((r70.1.Low == r231.Low) && (r70.1.High == r231.High))) rfl rfl eq49 ⟨⟨_, rfl⟩, ⟨⟨_, rfl⟩, trivial⟩⟩ ⟨⟨_, rfl⟩, ⟨⟨_, rfl⟩, trivial⟩⟩ (by simp [Bool.and_eq_true, and_assoc]) dn)) ?_
                    refine kS rfl (fun _ k_ => p_pkF rfl (rfl : _ = B (!((r70.1.Low == r231.Low) && (r70.1.High == r231.High)))) dn) ?_
                    refine kS rfl (fun _ k_ => p_mB rfl dn) ?_
                    refine kB c233 ?_
                    refine kS rfl (fun _ k_ => gF rfl rfl dnU) ?_
                    refine kC rfl ?_
                    refine kC rfl ?_
                    refine kC rfl ?_
                    refine kC rfl ?_
                    intro w234 k235; have S236 := S98.call k235
                    refine gF rfl rfl (cN (Keep.refl _ _) fun w237 k238 => ?_)
                    have S239 := S236.call k238
                    refine gF rfl rfl (cN (Keep.refl _ _) fun w240 k241 => ?_)
                    have S242 := S239.call k241
                    refine gF rfl rfl (cN (Keep.refl _ _) fun w243 k244 => ?_)
                    have S245 := S242.call k244
                    refine p_pkT rfl (rfl : _ = B true) (cN (Keep.refl _ _) fun w246 k247 => ?_)
                    have S248 := S245.call k247
                    refine wp_nil ?_
                    refine c_true rfl ?_
                    refine c_seq ?_
                    refine reg ?_
                    refine p_aB rfl ?_
                    refine wp_nil ?_
                    obtain rfl := Option.some.inj H
                    refine c_ret ?_; show bodyPostM (Fr none) 0 Tryd.prog Tryd.f19 _ .ret _ _
                    refine ret_of (res1 rfl (rvT (rfl : _ = B false))) ?_
                    exact ⟨_, rfl, rfl, S248.keep⟩
                  · replace H := condF c233 H
                    refine reg_c mixed 43 [39, 40, 41, 42] (by kernel_rfl) ?_
                    refine kS rfl (fun _ k_ => p_mI rfl dn) ?_
                    refine kS rfl (fun _ k_ => p_cmp rfl rfl rfl dn) ?_
                    refine kS rfl (fun _ k_ => p_mB rfl dn) ?_
                    refine kB c99 ?_
                    refine kS rfl (fun _ k_ => gT rfl rfl (p_mI rfl dn)) ?_
                    refine kS rfl (fun _ k_ => gT rfl rfl (p_cmp rfl rfl rfl dn)) ?_
                    refine kS rfl (fun _ k_ => p_pkF rfl (rfl : _ = B (r32.2 != 0)) dn) ?_
                    refine kS rfl (fun _ k_ => p_mB rfl dn) ?_
                    refine kB c115 ?_
                    refine kS rfl (fun _ k_ => gT rfl rfl (p_mI rfl dn)) ?_
                    refine kS rfl (fun _ k_ => gT rfl rfl (p_cmp rfl rfl rfl dn)) ?_
                    refine kS rfl (fun _ k_ => p_pkF rfl (rfl : _ = B (r56.2 != 0)) dn) ?_
                    refine kS rfl (fun _ k_ => p_mB rfl dn) ?_
                    refine kB c131 ?_
                    refine kS rfl (fun _ k_ => gT rfl rfl (p_mI rfl dn)) ?_
                    refine kS rfl (fun _ k_ => gT rfl rfl (p_cmp rfl rfl rfl dn)) ?_
                    refine kS rfl (fun _ k_ => p_pkF rfl (rfl : _ = B (r70.2 != 0)) dn) ?_
                    refine kS rfl (fun _ k_ => p_mB rfl dn) ?_
                    refine kB c147 ?_
                    refine kS rfl (fun _ k_ => gT rfl rfl (p_mI rfl dn)) ?_
                    refine kS rfl (fun _ k_ => gT rfl rfl (p_cmp rfl rfl rfl dn)) ?_
                    refine kS rfl (fun _ k_ => p_pkF rfl (rfl : _ = B (r90.2 != 0)) dn) ?_
                    refine kS rfl (fun _ k_ => p_mB rfl dn) ?_
                    refine kB c163 ?_
                    refine kS rfl (fun _ k_ => gT rfl rfl (p_ldA ty49 sz49 (Asr.stays (S98.atX (i := 6) rfl) k_) rfl rfl dn)) ?_
                    refine kS rfl (fun _ k_ => gT rfl rfl (p_cvD (B_Range_ok h180) fu41 rfl)) ?_
                    refine kS rfl (fun _ k_ => gT rfl rfl (o_neA (xs := [I r13.1.Low, I r13.1.High]) (ys := [I r179.Low, I r179.High]) (T := ((r13.1.Low == r179.Low) && (r13.1.High == r179.High))) rfl rfl eq49 ⟨⟨_, rfl⟩, ⟨⟨_, rfl⟩, trivial⟩⟩ ⟨⟨_, rfl⟩, ⟨⟨_, rfl⟩, trivial⟩⟩ (by simp [Bool.and_eq_true, and_assoc]) dn)) ?_
                    refine kS rfl (fun _ k_ => p_pkF rfl (rfl : _ = B (!((r13.1.Low == r179.Low) && (r13.1.High == r179.High)))) dn) ?_
                    refine kS rfl (fun _ k_ => p_mB rfl dn) ?_
                    refine kB c181 ?_
                    refine kS rfl (fun _ k_ => gT rfl rfl (p_ldA ty49 sz49 (Asr.stays (S98.atX (i := 4) rfl) k_) rfl rfl dn)) ?_
                    refine kS rfl (fun _ k_ => gT rfl rfl (p_cvD (B_Range_ok h198) fu41 rfl)) ?_
                    refine kS rfl (fun _ k_ => gT rfl rfl (o_neA (xs := [I r32.1.Low, I r32.1.High]) (ys := [I r197.Low, I r197.High]) (T := ((r32.1.Low == r197.Low) && (r32.1.High == r197.High))) rfl rfl eq49 ⟨⟨_, rfl⟩, ⟨⟨_, rfl⟩, trivial⟩⟩ ⟨⟨_, rfl⟩, ⟨⟨_, rfl⟩, trivial⟩⟩ (by simp [Bool.and_eq_true, and_assoc]) dn)) ?_
                    refine kS rfl (fun _ k_ => p_pkF rfl (rfl : _ = B (!((r32.1.Low == r197.Low) && (r32.1.High == r197.High)))) dn) ?_
                    refine kS rfl (fun _ k_ => p_mB rfl dn) ?_
                    refine kB c199 ?_
                    refine kS rfl (fun _ k_ => gT rfl rfl (p_mB rfl dn)) ?_
                    refine kS rfl (fun _ k_ => gT rfl rfl (p_not rfl dn)) ?_
                    refine kS rfl (fun _ k_ => p_pkF rfl (rfl : _ = B (!r56.1)) dn) ?_
                    refine kS rfl (fun _ k_ => p_mB rfl dn) ?_
                    refine kB c215 ?_
                    refine kS rfl (fun _ k_ => gT rfl rfl (p_ldA ty49 sz49 (Asr.stays (S98.atX (i := 0) rfl) k_) rfl rfl dn)) ?_
                    refine kS rfl (fun _ k_ => gT rfl rfl (p_cvD (B_Range_ok h232) fu41 rfl)) ?_
                    refine kS rfl (fun _ k_ => gT rfl rfl (o_neA (xs := [I r70.1.Low, I r70.1.High]) (ys := [I r231.Low, I r231.High]) (T := ((r70.1.Low == r231.Low) && (r70.1.High == r231.High))) rfl rfl eq49 ⟨⟨_, rfl⟩, ⟨⟨_, rfl⟩, trivial⟩⟩ ⟨⟨_, rfl⟩, ⟨⟨_, rfl⟩, trivial⟩⟩ (by simp [Bool.and_eq_true, and_assoc]) dn)) ?_
                    refine kS rfl (fun _ k_ => p_pkF rfl (rfl : _ = B (!((r70.1.Low == r231.Low) && (r70.1.High == r231.High)))) dn) ?_
                    refine kS rfl (fun _ k_ => p_mB rfl dn) ?_
                    refine kB c233 ?_
                    refine kS rfl (fun _ k_ => gT rfl rfl (p_mS rfl dn)) ?_
                    refine kC rfl ?_
                    refine kC rfl ?_
                    refine kC rfl ?_
                    refine kC rfl ?_
                    intro w249 k250; have S251 := S98.call k250
                    refine gT rfl rfl ?_
                    have S257 := S251.base
                    refine p_bsl (enc := intE) (l := ([0] : List Int)) I (fun _ => rfl) sc31 in3 intE_len rfl (by decide) (by decide) zr3_1 S257 rfl fun A252 c253 w254 S255 => ?_
                    refine cN S255.keep fun w258 k259 => ?_
                    have S260 := (S251.fromBase S255).call k259
                    obtain ⟨r261, h262, H⟩ := bindS H
                    refine gT rfl rfl <| p_cal (B_Alike_ok h262 (S260.atP (i := 0) rfl) (gr_rd intE_len (S260.atX (i := 0) rfl))) fu22 rfl ?_
                    rintro _ w263 ⟨rfl, k264⟩; refine cN k264 fun w265 k266 => ?_
                    have S267 := (S260.call k264).call k266
                    refine gT rfl rfl (p_not rfl (cN (Keep.refl _ _) fun w268 k269 => ?_))
                    have S270 := S267.call k269
                    refine p_pkF rfl (rfl : _ = B (!r261)) (cN (Keep.refl _ _) fun w271 k272 => ?_)
                    have S273 := S270.call k272
                    refine wp_nil ?_
                    refine c_cond rfl (fun c274 => ?_) (fun c274 => ?_)
                    · replace H := condT c274 H
                      refine c_seq ?_
                      refine reg ?_
                      refine p_aB rfl ?_
                      refine wp_nil ?_
                      obtain rfl := Option.some.inj H
                      refine c_ret ?_; show bodyPostM (Fr none) 0 Tryd.prog Tryd.f19 _ .ret _ _
                      refine ret_of (res1 rfl (rvT (rfl : _ = B false))) ?_
                      exact ⟨_, rfl, rfl, S273.keep⟩
                    · replace H := condF c274 H
                      refine c_skip ?_
                      refine c_seq ?_
                      refine reg ?_
                      obtain ⟨r275, h276, H⟩ := bindS H
                      refine p_cal (law_torn_ok h276) fu54 rfl ?_
                      rintro _ w277 ⟨A279, c280, rfl, k278, ⟨o281, n282⟩, _⟩
                      have S284 := S273.addNew k278 o281 n282
                      obtain ⟨r285, h286, H⟩ := bindS H
                      refine p_cal (tally_Whose_ok h286 (gr_rd eTallyCount_len (S284.atX (i := 0) rfl)) (S284.atP (i := 2) rfl) (S284.atP (i := 3) rfl)) fu31 rfl ?_
                      rintro _ w287 ⟨A289, c290, rfl, k288, ⟨o291, n292⟩, _⟩
                      have S293 := S284.callN k288 [rd intE 1 A289 c290 r285.1] (List.forall_mem_cons.2 ⟨⟨o291, New.inL n292⟩, (fun _ h_ => (List.not_mem_nil h_).elim)⟩)
                      refine p_mT rfl ?_
                      refine p_ext rfl rfl ?_
                      refine p_ext rfl rfl ?_
                      refine p_aS rfl ?_
                      refine p_aI rfl ?_
                      refine wp_nil ?_
                      refine c_seq ?_
                      refine reg ?_
                      obtain ⟨r294, h295, H⟩ := bindS H
                      refine p_cal (law_own_ok h295) fu52 rfl ?_
                      rintro _ w296 ⟨A298, c299, rfl, k297, ⟨o300, n301⟩, _⟩
                      have S303 := S293.addNew k297 o300 n301
                      obtain ⟨r304, h305, H⟩ := bindS H
                      refine p_cv (tally_Again_ok h305 (gr_rd eTallyCount_len (S303.atX (i := 0) rfl)) (S303.atP (i := 3) rfl) (S303.atP (i := 4) rfl)) fu50 rfl S303 fun w306 S307 => ?_
                      refine p_mT rfl ?_
                      refine p_ext rfl rfl ?_
                      refine p_ext rfl rfl ?_
                      refine p_aI rfl ?_
                      refine p_aI rfl ?_
                      refine wp_nil ?_
                      refine c_seq ?_
                      refine reg ?_
                      obtain ⟨r308, h309, H⟩ := bindS H
                      refine p_cal (law_own_ok h309) fu52 rfl ?_
                      rintro _ w310 ⟨A312, c313, rfl, k311, ⟨o314, n315⟩, _⟩
                      have S317 := S307.addNew k311 o314 n315
                      obtain ⟨r318, h319, H⟩ := bindS H
                      refine p_cv (law_count_ok h319) fu37 rfl S317 fun w320 S321 => ?_
                      obtain ⟨r322, h323, H⟩ := bindS H
                      refine p_cv (tally_Fits_ok h323 (gr_rd eTallyCount_len (S321.atX (i := 0) rfl)) (S321.atP (i := 3) rfl) (S321.atP (i := 4) rfl)) fu36 rfl S321 fun w324 S325 => ?_
                      refine p_mT rfl ?_
                      refine p_ext rfl rfl ?_
                      refine p_ext rfl rfl ?_
                      refine p_aB rfl ?_
                      refine p_aI rfl ?_
                      refine wp_nil ?_
                      refine c_seq ?_
                      refine reg ?_
                      obtain ⟨r326, h327, H⟩ := bindS H
                      refine p_cal (law_torn_ok h327) fu54 rfl ?_
                      rintro _ w328 ⟨A330, c331, rfl, k329, ⟨o332, n333⟩, _⟩
                      have S335 := S325.addNew k329 o332 n333
                      obtain ⟨r336, h337, H⟩ := bindS H
                      refine p_cv (tally_Right_ok h337 (gr_rd eTallyCount_len (S335.atX (i := 0) rfl)) (S335.atP (i := 3) rfl) (S335.atP (i := 4) rfl)) fu28 rfl S335 fun w338 S339 => ?_
                      refine p_mT rfl ?_
                      refine p_ext rfl rfl ?_
                      refine p_ext rfl rfl ?_
                      refine p_aB rfl ?_
                      refine p_aI rfl ?_
                      refine wp_nil ?_
                      refine c_seq ?_
                      refine reg ?_
                      refine p_mI rfl ?_
                      refine p_cmp rfl rfl rfl ?_
                      refine p_mB rfl ?_
                      rcases Bool.eq_false_or_eq_true ((r285.2 == 0)) with c340 | c340
                      · replace H := condT c340 H
                        refine eB c340 ?_
                        refine gT rfl rfl (p_mI rfl ?_)
                        refine gT rfl rfl (p_cmp rfl rfl rfl ?_)
                        refine p_pkT rfl (rfl : _ = B (r304.2 == 0)) ?_
                        refine p_mB rfl ?_
                        rcases Bool.eq_false_or_eq_true ((r304.2 == 0)) with c341 | c341
                        · replace H := condT c341 H
                          refine eB c341 ?_
                          refine gT rfl rfl (p_mI rfl ?_)
                          refine gT rfl rfl (p_cmp rfl rfl rfl ?_)
                          refine p_pkT rfl (rfl : _ = B (r322.2 == 0)) ?_
                          refine p_mB rfl ?_
                          rcases Bool.eq_false_or_eq_true ((r322.2 == 0)) with c342 | c342
                          · replace H := condT c342 H
                            refine eB c342 ?_
                            refine gT rfl rfl (p_mI rfl ?_)
                            refine gT rfl rfl (p_cmp rfl rfl rfl ?_)
                            refine p_pkT rfl (rfl : _ = B (r336.2 == 0)) ?_
                            refine p_mB rfl ?_
                            rcases Bool.eq_false_or_eq_true ((r336.2 == 0)) with c343 | c343
                            · replace H := condT c343 H
                              refine eB c343 ?_
                              refine gT rfl rfl (p_mS rfl ?_)
                              refine gT rfl rfl ?_
                              refine p_bsl (enc := intE) (l := [0, 2]) I (fun _ => rfl) sc31 in3 intE_len rfl (by decide) (by decide) zr3_2 S339 rfl fun A344 c345 w346 S347 => ?_
                              obtain ⟨r349, h350, H⟩ := bindS H
                              refine gT rfl rfl (p_cv (B_Alike_ok h350 (S347.atP (i := 0) rfl) (gr_rd intE_len (S347.atX (i := 0) rfl))) fu22 rfl S347 fun w351 S352 => ?_)
                              refine p_pkT rfl (rfl : _ = B r349) ?_
                              refine p_mB rfl ?_
                              rcases Bool.eq_false_or_eq_true (r349) with c353 | c353
                              · replace H := condT c353 H
                                refine eB c353 ?_
                                refine gT rfl rfl (p_mI rfl ?_)
                                refine gT rfl rfl (p_cmp rfl rfl rfl ?_)
                                refine p_pkT rfl (rfl : _ = B (r304.1 == 3)) ?_
                                refine p_mB rfl ?_
                                rcases Bool.eq_false_or_eq_true ((r304.1 == 3)) with c354 | c354
                                · replace H := condT c354 H
                                  refine eB c354 ?_
                                  refine gT rfl rfl (p_mB rfl ?_)
                                  refine p_pkT rfl (rfl : _ = B r322.1) ?_
                                  refine p_mB rfl ?_
                                  rcases Bool.eq_false_or_eq_true (r322.1) with c355 | c355
                                  · replace H := condT c355 H
                                    refine eB c355 ?_
                                    refine gT rfl rfl (p_mB rfl ?_)
                                    refine gT rfl rfl (p_not rfl ?_)
                                    refine p_pkT rfl (rfl : _ = B (!r336.1)) ?_
                                    refine p_aB rfl ?_
                                    refine wp_nil ?_
                                    obtain rfl := Option.some.inj H
                                    refine c_ret ?_; show bodyPostM (Fr none) 0 Tryd.prog Tryd.f19 _ .ret _ _
                                    refine ret_of (res1 rfl (rvT (rfl : _ = B (!r336.1)))) ?_
                                    exact ⟨_, rfl, rfl, S352.keep⟩
                                  · replace H := condF c355 H
                                    refine eB c355 ?_
                                    refine gF rfl rfl ?_
                                    refine gF rfl rfl ?_
                                    refine p_pkF rfl (rfl : _ = B false) ?_
                                    refine p_aB rfl ?_
                                    refine wp_nil ?_
                                    obtain rfl := Option.some.inj H
                                    refine c_ret ?_; show bodyPostM (Fr none) 0 Tryd.prog Tryd.f19 _ .ret _ _
                                    refine ret_of (res1 rfl (rvT (rfl : _ = B false))) ?_
                                    exact ⟨_, rfl, rfl, S352.keep⟩
                                · replace H := condF c354 H
                                  refine eB c354 ?_
                                  refine gF rfl rfl ?_
                                  refine p_pkF rfl (rfl : _ = B false) ?_
                                  refine p_mB rfl ?_
                                  refine gF rfl rfl ?_
                                  refine gF rfl rfl ?_
                                  refine p_pkF rfl (rfl : _ = B false) ?_
                                  refine p_aB rfl ?_
                                  refine wp_nil ?_
                                  obtain rfl := Option.some.inj H
                                  refine c_ret ?_; show bodyPostM (Fr none) 0 Tryd.prog Tryd.f19 _ .ret _ _
                                  refine ret_of (res1 rfl (rvT (rfl : _ = B false))) ?_
                                  exact ⟨_, rfl, rfl, S352.keep⟩
                              · replace H := condF c353 H
                                refine eB c353 ?_
                                refine gF rfl rfl ?_
                                refine gF rfl rfl ?_
                                refine p_pkF rfl (rfl : _ = B false) ?_
                                refine p_mB rfl ?_
                                refine gF rfl rfl ?_
                                refine p_pkF rfl (rfl : _ = B false) ?_
                                refine p_mB rfl ?_
                                refine gF rfl rfl ?_
                                refine gF rfl rfl ?_
                                refine p_pkF rfl (rfl : _ = B false) ?_
                                refine p_aB rfl ?_
                                refine wp_nil ?_
                                obtain rfl := Option.some.inj H
                                refine c_ret ?_; show bodyPostM (Fr none) 0 Tryd.prog Tryd.f19 _ .ret _ _
                                refine ret_of (res1 rfl (rvT (rfl : _ = B false))) ?_
                                exact ⟨_, rfl, rfl, S352.keep⟩
                            · replace H := condF c343 H
                              refine eB c343 ?_
                              refine gF rfl rfl ?_
                              refine gF rfl rfl ?_
                              refine gF rfl rfl ?_
                              refine p_pkF rfl (rfl : _ = B false) ?_
                              refine p_mB rfl ?_
                              refine gF rfl rfl ?_
                              refine gF rfl rfl ?_
                              refine p_pkF rfl (rfl : _ = B false) ?_
                              refine p_mB rfl ?_
                              refine gF rfl rfl ?_
                              refine p_pkF rfl (rfl : _ = B false) ?_
                              refine p_mB rfl ?_
                              refine gF rfl rfl ?_
                              refine gF rfl rfl ?_
                              refine p_pkF rfl (rfl : _ = B false) ?_
                              refine p_aB rfl ?_
                              refine wp_nil ?_
                              obtain rfl := Option.some.inj H
                              refine c_ret ?_; show bodyPostM (Fr none) 0 Tryd.prog Tryd.f19 _ .ret _ _
                              refine ret_of (res1 rfl (rvT (rfl : _ = B false))) ?_
                              exact ⟨_, rfl, rfl, S339.keep⟩
                          · replace H := condF c342 H
                            refine eB c342 ?_
                            refine gF rfl rfl ?_
                            refine gF rfl rfl ?_
                            refine p_pkF rfl (rfl : _ = B false) ?_
                            refine p_mB rfl ?_
                            refine gF rfl rfl ?_
                            refine gF rfl rfl ?_
                            refine gF rfl rfl ?_
                            refine p_pkF rfl (rfl : _ = B false) ?_
                            refine p_mB rfl ?_
                            refine gF rfl rfl ?_
                            refine gF rfl rfl ?_
                            refine p_pkF rfl (rfl : _ = B false) ?_
                            refine p_mB rfl ?_
                            refine gF rfl rfl ?_
                            refine p_pkF rfl (rfl : _ = B false) ?_
                            refine p_mB rfl ?_
                            refine gF rfl rfl ?_
                            refine gF rfl rfl ?_
                            refine p_pkF rfl (rfl : _ = B false) ?_
                            refine p_aB rfl ?_
                            refine wp_nil ?_
                            obtain rfl := Option.some.inj H
                            refine c_ret ?_; show bodyPostM (Fr none) 0 Tryd.prog Tryd.f19 _ .ret _ _
                            refine ret_of (res1 rfl (rvT (rfl : _ = B false))) ?_
                            exact ⟨_, rfl, rfl, S339.keep⟩
                        · replace H := condF c341 H
                          refine eB c341 ?_
                          refine gF rfl rfl ?_
                          refine gF rfl rfl ?_
                          refine p_pkF rfl (rfl : _ = B false) ?_
                          refine p_mB rfl ?_
                          refine gF rfl rfl ?_
                          refine gF rfl rfl ?_
                          refine p_pkF rfl (rfl : _ = B false) ?_
                          refine p_mB rfl ?_
                          refine gF rfl rfl ?_
                          refine gF rfl rfl ?_
                          refine gF rfl rfl ?_
                          refine p_pkF rfl (rfl : _ = B false) ?_
                          refine p_mB rfl ?_
                          refine gF rfl rfl ?_
                          refine gF rfl rfl ?_
                          refine p_pkF rfl (rfl : _ = B false) ?_
                          refine p_mB rfl ?_
                          refine gF rfl rfl ?_
                          refine p_pkF rfl (rfl : _ = B false) ?_
                          refine p_mB rfl ?_
                          refine gF rfl rfl ?_
                          refine gF rfl rfl ?_
                          refine p_pkF rfl (rfl : _ = B false) ?_
                          refine p_aB rfl ?_
                          refine wp_nil ?_
                          obtain rfl := Option.some.inj H
                          refine c_ret ?_; show bodyPostM (Fr none) 0 Tryd.prog Tryd.f19 _ .ret _ _
                          refine ret_of (res1 rfl (rvT (rfl : _ = B false))) ?_
                          exact ⟨_, rfl, rfl, S339.keep⟩
                      · replace H := condF c340 H
                        refine eB c340 ?_
                        refine gF rfl rfl ?_
                        refine gF rfl rfl ?_
                        refine p_pkF rfl (rfl : _ = B false) ?_
                        refine p_mB rfl ?_
                        refine gF rfl rfl ?_
                        refine gF rfl rfl ?_
                        refine p_pkF rfl (rfl : _ = B false) ?_
                        refine p_mB rfl ?_
                        refine gF rfl rfl ?_
                        refine gF rfl rfl ?_
                        refine p_pkF rfl (rfl : _ = B false) ?_
                        refine p_mB rfl ?_
                        refine gF rfl rfl ?_
                        refine gF rfl rfl ?_
                        refine gF rfl rfl ?_
                        refine p_pkF rfl (rfl : _ = B false) ?_
                        refine p_mB rfl ?_
                        refine gF rfl rfl ?_
                        refine gF rfl rfl ?_
                        refine p_pkF rfl (rfl : _ = B false) ?_
                        refine p_mB rfl ?_
                        refine gF rfl rfl ?_
                        refine p_pkF rfl (rfl : _ = B false) ?_
                        refine p_mB rfl ?_
                        refine gF rfl rfl ?_
                        refine gF rfl rfl ?_
                        refine p_pkF rfl (rfl : _ = B false) ?_
                        refine p_aB rfl ?_
                        refine wp_nil ?_
                        obtain rfl := Option.some.inj H
                        refine c_ret ?_; show bodyPostM (Fr none) 0 Tryd.prog Tryd.f19 _ .ret _ _
                        refine ret_of (res1 rfl (rvT (rfl : _ = B false))) ?_
                        exact ⟨_, rfl, rfl, S339.keep⟩

def B_OwnInts (a0 : List Int) : Option (List Int) :=
  need (fitsL a0.length 8) <|
  some a0

set_option maxRecDepth 100000 in
theorem B_OwnInts_ok {a0 : List Int} {A1 : Option Addr} {c2 : Nat} {w : World} {r : (List Int)} (H : B_OwnInts a0 = some r) (h3 : (rd intE 1 A1 c2 a0).ok w) : Calls Tryd.prog 20 #[SL A1 a0.length c2] w fun en w_ => ∃ u_, en = .returned u_ ∧ ∃ A_1 : Option Addr, ∃ c_2 : Nat, u_ = SL A_1 r.length c_2 ∧ Keep0 w w_ ∧ ((rd intE 1 A_1 c_2 r).ok w_ ∧ New w.heap.size (rd intE 1 A_1 c_2 r)) ∧ True := by
  unfold B_OwnInts at H
  refine fn_of (n := 7) Tryd.func20 rfl rfl (Nat.le_of_ble_eq_true rfl) ?_
  have S : St w (fun _ => False) w [] [rd intE 1 A1 c2 a0] := St.start w _ _ (List.forall_mem_cons.2 ⟨h3, (fun _ h_ => (List.not_mem_nil h_).elim)⟩)
  refine c_seq ?_
  refine reg ?_
  refine p_aS rfl ?_
  refine wp_nil ?_
  refine c_seq ?_
  refine reg ?_
  refine p_mS rfl ?_
  refine p_cut0 sc31 rfl rfl rfl ?_
  refine p_mS rfl ?_
  obtain ⟨h8, H⟩ := needS H
  refine p_appC (enc := intE) sc31 in3 rfl intE_len (by decide) S (S.atP (i := 0) rfl).1 h8 rfl rfl fun A6 c7 w4 n9 S5 => ?_
  refine p_aS rfl ?_
  refine wp_nil ?_
  obtain rfl := Option.some.inj H
  refine c_ret ?_; show bodyPostM (Fr none) 0 Tryd.prog Tryd.f20 _ .ret _ _
  refine ret_of (res1 rfl (rvT (rfl : _ = SL A6 a0.length c7))) ?_
  exact ⟨_, rfl, A6, c7, rfl, S5.keep, ⟨(S5.atX (i := 0) rfl), (S5.newX (i := 0) rfl)⟩, trivial⟩

def B_Contains (a0 : Span) (a1 : Int) : Option Bool :=
  (B_Inside a1 a0.Low a0.High).bind fun r4 =>
  some r4

set_option maxRecDepth 100000 in
theorem B_Contains_ok {a0 : Span} {a1 : Int} {w : World} {r : Bool} (H : B_Contains a0 a1 = some r) : Calls Tryd.prog 34 #[AG [I a0.Low, I a0.High], I a1] w (RetV w (B r)) := by
  unfold B_Contains at H
  refine fn_of (n := 11) Tryd.func34 rfl rfl (Nat.le_of_ble_eq_true rfl) ?_
  have S : St w (fun _ => False) w [] [] := St.start w _ _ (fun _ h_ => (List.not_mem_nil h_).elim)
  refine c_seq ?_
  refine reg ?_
  refine p_boxA rfl S fun b1 w2 S3 => ?_
  refine p_aB rfl ?_
  refine wp_nil ?_
  refine c_seq ?_
  refine reg ?_
  refine p_mI rfl ?_
  refine p_fld fl49_0 rfl ?_
  refine p_ld ty3 (S3.atX (i := 0) rfl) rfl rfl ?_
  refine p_fld fl49_1 rfl ?_
  refine p_ld ty3 (S3.atX (i := 0) rfl) rfl rfl ?_
  obtain ⟨r4, h5, H⟩ := bindS H
  refine p_cv (B_Inside_ok h5) fu40 rfl S3 fun w6 S7 => ?_
  refine p_aB rfl ?_
  refine wp_nil ?_
  obtain rfl := Option.some.inj H
  refine c_ret ?_; show bodyPostM (Fr none) 0 Tryd.prog Tryd.f34 _ .ret _ _
  refine ret_of (res1 rfl (rvT (rfl : _ = B r4))) ?_
  exact ⟨_, rfl, rfl, S7.keep⟩

def B_SumOf_l1 (a0 : List Int) (rec_z_1 : (Int × Int) → Option Int) (z_1 : Int × Int) : Option Int :=
  bif decide (z_1.2 < (a0.length : Int)) then ((getI a0 z_1.2).bind fun r9 =>
  rec_z_1 (wr (z_1.1 + r9), wr (z_1.2 + 1)))
  else (some z_1.1)

def B_SumOf (a0 : List Int) : Option Int :=
  loopF (B_SumOf_l1 a0) big (0, 0)

set_option maxRecDepth 100000 in
theorem B_SumOf_ok {a0 : List Int} {A1 : Option Addr} {c2 : Nat} {w : World} {r : Int} (H : B_SumOf a0 = some r) (h3 : (rd intE 1 A1 c2 a0).ok w) : Calls Tryd.prog 35 #[SL A1 a0.length c2] w (RetV w (I r)) := by
  unfold B_SumOf at H
  refine fn_of (n := 18) Tryd.func35 rfl rfl (Nat.le_of_ble_eq_true rfl) ?_
  have S : St w (fun _ => False) w [] [rd intE 1 A1 c2 a0] := St.start w _ _ (List.forall_mem_cons.2 ⟨h3, (fun _ h_ => (List.not_mem_nil h_).elim)⟩)
  refine c_seq ?_
  refine reg ?_
  refine p_aI rfl ?_
  refine wp_nil ?_
  refine c_seq ?_
  refine reg ?_
  refine p_aI rfl ?_
  refine wp_nil ?_
  refine c_seq ?_
  refine c_seq ?_
  refine reg ?_
  refine p_aI rfl ?_
  refine wp_nil ?_
  refine c_block ?_
  refine c_lop (α := Int × Int) (β := Unit) (B_SumOf_l1 a0) (fun z_1 y_1 => [(0, SL A1 a0.length c2), (3, I z_1.1), (4, I z_1.2)]) (fun z_1 y_1 w_ => St w (fun _ => False) w_ [] [rd intE 1 A1 c2 a0]) (0, 0) () H ⟨rfl, rfl, rfl, trivial⟩ S ?_
  intro m4 z_1 y_1 e5 w6 H S7
  unfold B_SumOf_l1 at H
  refine c_seq ?_
  refine c_seq ?_
  refine reg ?_
  refine p_mI rfl ?_
  refine p_mS rfl ?_
  refine p_len rfl sc31 ?_
  refine p_cmp rfl rfl rfl ?_
  refine wp_nil ?_
  refine c_cond rfl (fun c8 => ?_) (fun c8 => ?_)
  · replace H := condT c8 H
    refine c_skip ?_
    refine c_seq ?_
    refine c_block ?_
    refine reg ?_
    refine p_mI rfl ?_
    refine p_mS rfl ?_
    refine p_mI rfl ?_
    obtain ⟨r9, h10, H⟩ := bindS H
    refine p_ixE sc31 h10 (S7.atP (i := 0) rfl).1 rfl rfl rfl ?_
    refine p_ldE ty3 h10 (S7.atP (i := 0) rfl).1 rfl rfl ?_
    refine p_add rfl rfl ?_
    refine p_aI rfl ?_
    refine wp_nil ?_
    refine reg ?_
    refine p_mI rfl ?_
    refine p_add rfl rfl ?_
    refine p_aI rfl ?_
    refine wp_nil ?_
    exact ⟨(wr (z_1.1 + r9), wr (z_1.2 + 1)), (), _, rfl, ⟨rfl, rfl, rfl, trivial⟩, H, S7⟩
  · replace H := condF c8 H
    refine c_exit ?_
    refine c_seq ?_
    refine reg ?_
    refine p_mI rfl ?_
    refine p_aI rfl ?_
    refine wp_nil ?_
    obtain rfl := Option.some.inj H
    refine c_ret ?_; show bodyPostM (Fr none) 0 Tryd.prog Tryd.f35 _ .ret _ _
    refine ret_of (res1 rfl (rvT (rfl : _ = I z_1.1))) ?_
    exact ⟨_, rfl, rfl, S7.keep⟩

def ref_Can_l2 (a0 : TallyBook) (a1 : List Int) (rec_z_2 : (Bool × Int) → Option (Bool × Int)) (z_2 : Bool × Int) : Option (Bool × Int) :=
  bif z_2.1 then (bif decide (z_2.2 < (a0.Counts.length : Int)) then ((getI a0.Counts z_2.2).bind fun r38 =>
  (ref_span r38).bind fun r45 =>
  (cutI a1 r38.From (wr (r38.To + 1))).bind fun r47 =>
  (B_SumOf r47).bind fun r49 =>
  (B_Contains r45 r49).bind fun r51 =>
  rec_z_2 (r51, wr (z_2.2 + 1)))
  else (some (z_2.1, 0)))
  else (some (z_2.1, 0))

def ref_Can_l3 (a1 : List Int) (a0 : TallyBook) (rec_z_1 : (Bool × Int) → Option (Bool × Int)) (z_1 : Bool × Int) : Option (Bool × Int) :=
  bif decide (z_1.2 < (a1.length : Int)) then (bif z_1.1 then ((getI a1 z_1.2).bind fun r22 =>
  (B_Inside r22 0 a0.Room).bind fun r24 =>
  rec_z_1 (r24, wr (z_1.2 + 1)))
  else (rec_z_1 (false, wr (z_1.2 + 1))))
  else (loopF (ref_Can_l2 a0 a1) big (z_1.1, 0))

def ref_Can (a0 : TallyBook) (a1 : List Int) : Option (Bool × Int) :=
  (ref_Check a0).bind fun r10 =>
  bif (r10 != 0) then (some (false, r10))
  else (bif ((a1.length : Int) != a0.Trips) then (some (false, 51))
  else (loopF (ref_Can_l3 a1 a0) big (true, 0)))

set_option maxRecDepth 100000 in
theorem ref_Can_ok {a0 : TallyBook} {a1 : List Int} {A1 : Option Addr} {c2 : Nat} {A4 : Option Addr} {c5 : Nat} {w : World} {r : Bool × Int} (H : ref_Can a0 a1 = some r) (h3 : (rd eTallyCount 7 A1 c2 a0.Counts).ok w) (h6 : (rd intE 1 A4 c5 a1).ok w) : Calls Tryd.prog 61 #[AG [I a0.Trips, I a0.Room, SL A1 a0.Counts.length c2], SL A4 a1.length c5] w (RetV w (TU [B r.1, I r.2])) := by
  unfold ref_Can at H
  refine fn_of (n := 64) Tryd.func61 rfl rfl (Nat.le_of_ble_eq_true rfl) ?_
  have S : St w (fun _ => False) w [] [rd eTallyCount 7 A1 c2 a0.Counts, rd intE 1 A4 c5 a1] := St.start w _ _ (List.forall_mem_cons.2 ⟨h3, (List.forall_mem_cons.2 ⟨h6, (fun _ h_ => (List.not_mem_nil h_).elim)⟩)⟩)
  refine c_seq ?_
  refine reg ?_
  refine p_boxA rfl S fun b7 w8 S9 => ?_
  refine p_aB rfl ?_
  refine p_aI rfl ?_
  refine wp_nil ?_
  refine c_seq ?_
  refine c_seq ?_
  refine reg ?_
  refine p_ldA ty24 sz24 (S9.atX (i := 0) rfl) rfl rfl ?_
  obtain ⟨r10, h11, H⟩ := bindS H
  refine p_cv (ref_Check_ok h11 (S9.atP (i := 0) rfl)) fu57 rfl S9 fun w12 S13 => ?_
  refine p_aI rfl ?_
  refine wp_nil ?_
  refine c_seq ?_
  refine reg ?_
  refine p_mI rfl ?_
  refine p_cmp rfl rfl rfl ?_
  refine wp_nil ?_
  refine c_cond rfl (fun c14 => ?_) (fun c14 => ?_)
  · replace H := condT c14 H
    refine c_seq ?_
    refine reg ?_
    refine p_mI rfl ?_
    refine p_aB rfl ?_
    refine p_aI rfl ?_
    refine wp_nil ?_
    obtain rfl := Option.some.inj H
    refine c_ret ?_; show bodyPostM (Fr none) 0 Tryd.prog Tryd.f61 _ .ret _ _
    refine ret_of (res2 rfl (rvT (rfl : _ = B false)) (rvT (rfl : _ = I r10))) ?_
    exact ⟨_, rfl, rfl, S13.keep⟩
  · replace H := condF c14 H
    refine c_skip ?_
    refine c_seq ?_
    refine c_seq ?_
    refine reg ?_
    refine p_mS rfl ?_
    refine p_len rfl sc31 ?_
    refine p_fld fl24_0 rfl ?_
    refine p_ld ty3 (S13.atX (i := 0) rfl) rfl rfl ?_
    refine p_cmp rfl rfl rfl ?_
    refine wp_nil ?_
    refine c_cond rfl (fun c15 => ?_) (fun c15 => ?_)
    · replace H := condT c15 H
      refine c_seq ?_
      refine reg ?_
      refine p_aB rfl ?_
      refine p_aI rfl ?_
      refine wp_nil ?_
      obtain rfl := Option.some.inj H
      refine c_ret ?_; show bodyPostM (Fr none) 0 Tryd.prog Tryd.f61 _ .ret _ _
      refine ret_of (res2 rfl (rvT (rfl : _ = B false)) (rvT (rfl : _ = I 51))) ?_
      exact ⟨_, rfl, rfl, S13.keep⟩
    · replace H := condF c15 H
      refine c_skip ?_
      refine c_seq ?_
      refine reg ?_
      refine p_aB rfl ?_
      refine wp_nil ?_
      refine c_seq ?_
      refine c_seq ?_
      refine reg ?_
      refine p_aI rfl ?_
      refine wp_nil ?_
      refine c_block ?_
      refine c_lop (α := Bool × Int) (β := Unit) (ref_Can_l3 a1 a0) (fun z_1 y_1 => [(1, SL A4 a1.length c5), (2, P b7 0), (7, B z_1.1), (8, I z_1.2)]) (fun z_1 y_1 w_ => St w (fun _ => False) w_ [bl b7 [I a0.Trips, I a0.Room, SL A1 a0.Counts.length c2] 24] [rd eTallyCount 7 A1 c2 a0.Counts, rd intE 1 A4 c5 a1]) (true, 0) () H ⟨rfl, rfl, rfl, rfl, trivial⟩ S13 ?_
      intro m16 z_1 y_1 e17 w18 H S19
      unfold ref_Can_l3 at H
      refine c_seq ?_
      refine c_seq ?_
      refine reg ?_
      refine p_mI rfl ?_
      refine p_mS rfl ?_
      refine p_len rfl sc31 ?_
      refine p_cmp rfl rfl rfl ?_
      refine wp_nil ?_
      refine c_cond rfl (fun c20 => ?_) (fun c20 => ?_)
      · replace H := condT c20 H
        refine c_skip ?_
        refine c_seq ?_
        refine c_block ?_
        rcases Bool.eq_false_or_eq_true (z_1.1) with c21 | c21
        · replace H := condT c21 H
          obtain ⟨r22, h23, H⟩ := bindS H
          obtain ⟨r24, h25, H⟩ := bindS H
          refine reg_q mixed 10 (by kernel_rfl) ?_
          refine dS (fun _ k_ => p_mB rfl dn) ?_
          refine dS (fun _ k_ => p_mB rfl dn) ?_
          refine dB c21 ?_
          refine dS (fun _ k_ => gT rfl rfl (p_mS rfl dn)) ?_
          refine dS (fun _ k_ => gT rfl rfl (p_mI rfl dn)) ?_
          refine dS (fun _ k_ => gT rfl rfl (p_ixE sc31 h23 (Asr.stays (S19.atP (i := 1) rfl) k_).1 rfl rfl rfl dn)) ?_
          refine dS (fun _ k_ => gT rfl rfl (p_ldE ty3 h23 (Asr.stays (S19.atP (i := 1) rfl) k_).1 rfl rfl dn)) ?_
          refine dS (fun _ k_ => gT rfl rfl (p_fld fl24_1 rfl dn)) ?_
          refine dS (fun _ k_ => gT rfl rfl (p_ld ty3 (Asr.stays (S19.atX (i := 0) rfl) k_) rfl rfl dn)) ?_
          refine dS (fun _ k_ => gT rfl rfl (p_cvD (B_Inside_ok h25) fu40 rfl)) ?_
          refine dS (fun _ k_ => p_pkT rfl (rfl : _ = B r24) dn) ?_
          intro w26 k27; have S28 := S19.call k27
          refine p_aB rfl ?_
          refine wp_nil ?_
          refine reg ?_
          refine p_mI rfl ?_
          refine p_add rfl rfl ?_
          refine p_aI rfl ?_
          refine wp_nil ?_
          exact ⟨(r24, wr (z_1.2 + 1)), (), _, rfl, ⟨rfl, rfl, rfl, rfl, trivial⟩, H, S28⟩
        · replace H := condF c21 H
          refine reg_q mixed 10 (by kernel_rfl) ?_
          refine dS (fun _ k_ => p_mB rfl dn) ?_
          refine dS (fun _ k_ => p_mB rfl dn) ?_
          refine dB c21 ?_
          refine dS (fun _ k_ => gF rfl rfl dnU) ?_
          refine dS (fun _ k_ => gF rfl rfl dnU) ?_
          refine dS (fun _ k_ => gF rfl rfl dnU) ?_
          refine dS (fun _ k_ => gF rfl rfl dnU) ?_
          refine dS (fun _ k_ => gF rfl rfl dnU) ?_
          refine dS (fun _ k_ => gF rfl rfl dnU) ?_
          refine dS (fun _ k_ => gF rfl rfl dnU) ?_
          refine dS (fun _ k_ => p_pkF rfl (rfl : _ = B false) dn) ?_
          intro w29 k30; have S31 := S19.call k30
          refine p_aB rfl ?_
          refine wp_nil ?_
          refine reg ?_
          refine p_mI rfl ?_
          refine p_add rfl rfl ?_
          refine p_aI rfl ?_
          refine wp_nil ?_
          exact ⟨(false, wr (z_1.2 + 1)), (), _, rfl, ⟨rfl, rfl, rfl, rfl, trivial⟩, H, S31⟩
      · replace H := condF c20 H
        refine c_exit ?_
        refine c_seq ?_
        refine c_seq ?_
        refine reg ?_
        refine p_aI rfl ?_
        refine wp_nil ?_
        refine c_block ?_
        refine c_lop (α := Bool × Int) (β := Unit) (ref_Can_l2 a0 a1) (fun z_2 y_2 => [(1, SL A4 a1.length c5), (2, P b7 0), (7, B z_2.1), (9, I z_2.2)]) (fun z_2 y_2 w_ => St w (fun _ => False) w_ [bl b7 [I a0.Trips, I a0.Room, SL A1 a0.Counts.length c2] 24] [rd eTallyCount 7 A1 c2 a0.Counts, rd intE 1 A4 c5 a1]) (z_1.1, 0) () H ⟨rfl, rfl, rfl, rfl, trivial⟩ S19 ?_
        intro m32 z_2 y_2 e33 w34 H S35
        unfold ref_Can_l2 at H
        refine c_seq ?_
        refine c_seq ?_
        refine reg ?_
        refine p_mB rfl ?_
        refine p_mB rfl ?_
        rcases Bool.eq_false_or_eq_true (z_2.1) with c36 | c36
        · replace H := condT c36 H
          refine eB c36 ?_
          refine gT rfl rfl (p_mI rfl ?_)
          refine gT rfl rfl (p_fld fl24_2 rfl ?_)
          refine gT rfl rfl (p_ld ty22 (S35.atX (i := 0) rfl) rfl rfl ?_)
          refine gT rfl rfl (p_len rfl sc22 ?_)
          refine gT rfl rfl (p_cmp rfl rfl rfl ?_)
          refine p_pkT rfl (rfl : _ = B (decide (z_2.2 < (a0.Counts.length : Int)))) ?_
          refine wp_nil ?_
          refine c_cond rfl (fun c37 => ?_) (fun c37 => ?_)
          · replace H := condT c37 H
            refine c_skip ?_
            refine c_seq ?_
            refine c_block ?_
            refine c_seq ?_
            refine reg ?_
            refine p_fld fl24_2 rfl ?_
            refine p_ld ty22 (S35.atX (i := 0) rfl) rfl rfl ?_
            refine p_mI rfl ?_
            obtain ⟨r38, h39, H⟩ := bindS H
            refine p_ixE sc22 h39 (S35.atP (i := 0) rfl).1 rfl rfl rfl ?_
            refine p_ldEA ty33 sz33 rfl h39 (S35.atP (i := 0) rfl).1 rfl ?_
            refine p_allA in33 S35 fun b40 w41 S42 => ?_
            refine p_stP (pre := []) (old := [I 0, I 0, I 0, I 0, I 0, I 0, I 0]) (post := []) (vs := [I r38.Who, I r38.From, I r38.To, I r38.Told, I r38.Unit, I r38.Under, I r38.Over]) sz33 S42 (i := 0) rfl rfl rfl rfl (rfl : _ = AG [I r38.Who, I r38.From, I r38.To, I r38.Told, I r38.Unit, I r38.Under, I r38.Over]) rfl rfl rfl rfl fun w43 S44 => ?_
            refine wp_nil ?_
            obtain ⟨r45, h46, H⟩ := bindS H
            obtain ⟨r47, h48, H⟩ := bindS H
            obtain ⟨r49, h50, H⟩ := bindS H
            obtain ⟨r51, h52, H⟩ := bindS H
            refine reg_q mixed 12 (by kernel_rfl) ?_
            refine dS (fun _ k_ => p_ldA ty33 sz33 (Asr.stays (S44.atX (i := 0) rfl) k_) rfl rfl dn) ?_
            refine dS (fun _ k_ => p_cvD (ref_span_ok h46) fu86 rfl) ?_
            refine dS (fun _ k_ => p_mS rfl dn) ?_
            refine dS (fun _ k_ => p_fld fl33_1 rfl dn) ?_
            refine dS (fun _ k_ => p_ld ty3 (Asr.stays (S44.atX (i := 0) rfl) k_) rfl rfl dn) ?_
            refine dS (fun _ k_ => p_fld fl33_2 rfl dn) ?_
            refine dS (fun _ k_ => p_ld ty3 (Asr.stays (S44.atX (i := 0) rfl) k_) rfl rfl dn) ?_
            refine dS (fun _ k_ => p_add rfl rfl dn) ?_
            refine dS (fun _ k_ => p_cut sc31 h48 (Asr.stays (S44.atP (i := 1) rfl) k_) rfl rfl rfl dn) ?_
            refine dS (fun _ k_ => p_cvD (B_SumOf_ok h50 (rd_cut h48 (Asr.stays (S44.atP (i := 1) rfl) k_))) fu35 rfl) ?_
            refine dS (fun _ k_ => p_cvD (B_Contains_ok h52) fu34 rfl) ?_
            refine dS (fun _ k_ => p_aB rfl dn) ?_
            intro w53 k54; have S55 := S44.call k54
            refine wp_nil ?_
            refine reg ?_
            refine p_mI rfl ?_
            refine p_add rfl rfl ?_
            refine p_aI rfl ?_
            refine wp_nil ?_
            have S56 := S55.pk [1] (by decide) [0, 1] rfl rfl
            exact ⟨(r51, wr (z_2.2 + 1)), (), _, rfl, ⟨rfl, rfl, rfl, rfl, trivial⟩, H, S56⟩
          · replace H := condF c37 H
            refine c_exit ?_
            refine c_seq ?_
            refine reg ?_
            refine p_mB rfl ?_
            refine p_aB rfl ?_
            refine p_aI rfl ?_
            refine wp_nil ?_
            obtain rfl := Option.some.inj H
            refine c_ret ?_; show bodyPostM (Fr none) 0 Tryd.prog Tryd.f61 _ .ret _ _
            refine ret_of (res2 rfl (rvT (rfl : _ = B z_2.1)) (rvT (rfl : _ = I 0))) ?_
            exact ⟨_, rfl, rfl, S35.keep⟩
        · replace H := condF c36 H
          refine eB c36 ?_
          refine gF rfl rfl ?_
          refine gF rfl rfl ?_
          refine gF rfl rfl ?_
          refine gF rfl rfl ?_
          refine gF rfl rfl ?_
          refine p_pkF rfl (rfl : _ = B false) ?_
          refine wp_nil ?_
          refine c_false rfl ?_
          refine c_exit ?_
          refine c_seq ?_
          refine reg ?_
          refine p_mB rfl ?_
          refine p_aB rfl ?_
          refine p_aI rfl ?_
          refine wp_nil ?_
          obtain rfl := Option.some.inj H
          refine c_ret ?_; show bodyPostM (Fr none) 0 Tryd.prog Tryd.f61 _ .ret _ _
          refine ret_of (res2 rfl (rvT (rfl : _ = B z_2.1)) (rvT (rfl : _ = I 0))) ?_
          exact ⟨_, rfl, rfl, S35.keep⟩

def ref_With (a0 : TallyBook) (a1 : TallyCount) : Option TallyBook :=
  bif a0.Counts.isEmpty then (need (fitsL (([] : List TallyCount).length + ([a1] : List TallyCount).length) 56) <|
  some (TallyBook.mk a0.Trips a0.Room ([a1] : List TallyCount)))
  else (need (fitsL (([] : List TallyCount).length + a0.Counts.length) 56) <|
  need (fitsL (a0.Counts.length + ([a1] : List TallyCount).length) 56) <|
  some (TallyBook.mk a0.Trips a0.Room (a0.Counts ++ ([a1] : List TallyCount))))

set_option maxRecDepth 100000 in
theorem ref_With_ok {a0 : TallyBook} {a1 : TallyCount} {A1 : Option Addr} {c2 : Nat} {w : World} {r : TallyBook} (H : ref_With a0 a1 = some r) (h3 : (rd eTallyCount 7 A1 c2 a0.Counts).ok w) : Calls Tryd.prog 87 #[AG [I a0.Trips, I a0.Room, SL A1 a0.Counts.length c2], AG [I a1.Who, I a1.From, I a1.To, I a1.Told, I a1.Unit, I a1.Under, I a1.Over]] w fun en w_ => ∃ u_, en = .returned u_ ∧ ∃ A_1 : Option Addr, ∃ c_2 : Nat, u_ = AG [I r.Trips, I r.Room, SL A_1 r.Counts.length c_2] ∧ Keep0 w w_ ∧ ((gr eTallyCount 7 33 A_1 c_2 r.Counts).ok w_ ∧ New w.heap.size (gr eTallyCount 7 33 A_1 c_2 r.Counts)) ∧ True := by
  unfold ref_With at H
  refine fn_of (n := 16) Tryd.func87 rfl rfl (Nat.le_of_ble_eq_true rfl) ?_
  have S : St w (fun _ => False) w [] [rd eTallyCount 7 A1 c2 a0.Counts] := St.start w _ _ (List.forall_mem_cons.2 ⟨h3, (fun _ h_ => (List.not_mem_nil h_).elim)⟩)
  refine c_seq ?_
  refine reg ?_
  refine p_boxA rfl S fun b4 w5 S6 => ?_
  refine p_boxA rfl S6 fun b7 w8 S9 => ?_
  refine p_allA in24 S9 fun b10 w11 S12 => ?_
  refine wp_nil ?_
  refine c_seq ?_
  refine reg ?_
  refine p_ldA ty24 sz24 (S12.atX (i := 2) rfl) rfl rfl ?_
  refine p_allA in24 S12 fun b13 w14 S15 => ?_
  refine p_stP (pre := []) (old := [I 0, I 0, SL none 0 0]) (post := []) (vs := [I a0.Trips, I a0.Room, SL A1 a0.Counts.length c2]) sz24 S15 (i := 0) rfl rfl rfl rfl (rfl : _ = AG [I a0.Trips, I a0.Room, SL A1 a0.Counts.length c2]) rfl rfl rfl rfl fun w16 S17 => ?_
  refine wp_nil ?_
  refine c_seq ?_
  rcases Bool.eq_false_or_eq_true (a0.Counts.isEmpty) with c24 | c24
  · replace H := condT c24 H
    refine reg_any mixed 6 (by kernel_rfl) [rx (α := (Option Addr)) (fun A18 => SL A18 0 0) (fun A18 lo hi => BtwL lo hi [] (gr eTallyCount 7 33 A18 0 ([] : List TallyCount)) ∧ True) (fun A18 => [gr eTallyCount 7 33 A18 0 ([] : List TallyCount)]), rv (P b4 2), rv (SL A1 a0.Counts.length c2), dv 7 some, rv (AG [I a1.Who, I a1.From, I a1.To, I a1.Told, I a1.Unit, I a1.Under, I a1.Over]), rx (α := (Option Addr) × Nat) (fun ⟨A34, c35⟩ => SL A34 ([a1] : List TallyCount).length c35) (fun ⟨A34, c35⟩ lo hi => BtwL lo hi [] (gr eTallyCount 7 33 A34 c35 ([a1] : List TallyCount)) ∧ True) (fun ⟨A34, c35⟩ => [gr eTallyCount 7 33 A34 c35 ([a1] : List TallyCount)])] [[], [], [], [7], [], []] rfl (by kernel_rfl) [[], [], [1], [0, 1, 2], [], [4], [0, 1, 2, 3, 4, 5], [0, 1, 2, 3, 4, 5, 6], [0, 1, 2, 3, 4, 5, 6, 7]] (by kernel_rfl) ⟨?_, ?_, ?_, ?_, ?_, ?_, trivial⟩ ?_
    · intro e_ w_ k_ hf_ hR_
      have S_ : St w_ (fun _ => False) w_ [] [bl b13 [I a0.Trips, I a0.Room, SL A1 a0.Counts.length c2] 24, bl b10 [I 0, I 0, SL none 0 0] 24, bl b7 [I a1.Who, I a1.From, I a1.To, I a1.Told, I a1.Unit, I a1.Under, I a1.Over] 33, bl b4 [I a0.Trips, I a0.Room, SL A1 a0.Counts.length c2] 24, rd eTallyCount 7 A1 c2 a0.Counts] := S17.asP k_
      refine hopE [] trivial ?_
      refine p_bsl0 eTallyCount sc22 S_ fun A18 w20 S21 => ?_
      refine wp_nil ?_
      exact ⟨_, rfl, S21.keep, ⟨A18, rfl, ⟨BtwL.of (New.al (S21.newX (i := 0) rfl)) rfl (S21.atX (i := 0) rfl) rfl, trivial⟩, (List.forall_mem_cons.2 ⟨(S21.atX (i := 0) rfl), (fun _ h_ => (List.not_mem_nil h_).elim)⟩)⟩⟩
    · intro e_ w_ k_ hf_ hR_
      have S_ : St w_ (fun _ => False) w_ [] [bl b13 [I a0.Trips, I a0.Room, SL A1 a0.Counts.length c2] 24, bl b10 [I 0, I 0, SL none 0 0] 24, bl b7 [I a1.Who, I a1.From, I a1.To, I a1.Told, I a1.Unit, I a1.Under, I a1.Over] 33, bl b4 [I a0.Trips, I a0.Room, SL A1 a0.Counts.length c2] 24, rd eTallyCount 7 A1 c2 a0.Counts] := S17.asP k_
      refine hopE [(2, P b4 0)] ⟨((hf_ 2 rfl).trans (rfl : _ = P b4 0)), trivial⟩ ?_
      refine p_fld fl24_2 rfl ?_
      refine wp_nil ?_
      exact ⟨_, rfl, S_.keep, rfl⟩
    · intro e_ w_ k_ hf_ hR_
      have S_ : St w_ (fun _ => False) w_ [] [bl b13 [I a0.Trips, I a0.Room, SL A1 a0.Counts.length c2] 24, bl b10 [I 0, I 0, SL none 0 0] 24, bl b7 [I a1.Who, I a1.From, I a1.To, I a1.Told, I a1.Unit, I a1.Under, I a1.Over] 33, bl b4 [I a0.Trips, I a0.Room, SL A1 a0.Counts.length c2] 24, rd eTallyCount 7 A1 c2 a0.Counts] := S17.asP k_
      obtain ⟨_, _, _, _, q23⟩ := hR_ 1 8 rfl (Nat.le_of_ble_eq_true rfl) rfl
      refine hopE [(8, P b4 2)] ⟨q23, trivial⟩ ?_
      refine p_ld ty22 (S_.atP (i := 3) rfl) rfl rfl ?_
      refine wp_nil ?_
      exact ⟨_, rfl, S_.keep, rfl⟩
    · intro e_ w_ k_ hf_ hR_
      have S_ : St w_ (fun _ => False) w_ [] [bl b13 [I a0.Trips, I a0.Room, SL A1 a0.Counts.length c2] 24, bl b10 [I 0, I 0, SL none 0 0] 24, bl b7 [I a1.Who, I a1.From, I a1.To, I a1.Told, I a1.Unit, I a1.Under, I a1.Over] 33, bl b4 [I a0.Trips, I a0.Room, SL A1 a0.Counts.length c2] 24, rd eTallyCount 7 A1 c2 a0.Counts] := S17.asP k_
      obtain ⟨_, _, _, _, A18, q25, p26, a27⟩ := hR_ 0 7 rfl (Nat.le_of_ble_eq_true rfl) rfl
      replace q25 : e_ 7 = SL A18 0 0 := q25
      have S_ := St.addL' S_ (a27 _ (.head _)) (fun _ _ _ h_ => (List.not_mem_nil h_).elim)
      obtain ⟨_, _, _, _, q28⟩ := hR_ 2 9 rfl (Nat.le_of_ble_eq_true rfl) rfl
      refine hopE [(7, SL A18 0 0), (9, SL A1 a0.Counts.length c2)] ⟨q25, q28, trivial⟩ ?_
      refine p_app0 sc22 in33 (Nat.le_refl _) c24 rfl rfl ?_
      refine wp_nil ?_
      exact ⟨_, rfl, S_.keep, rfl⟩
    · intro e_ w_ k_ hf_ hR_
      have S_ : St w_ (fun _ => False) w_ [] [bl b13 [I a0.Trips, I a0.Room, SL A1 a0.Counts.length c2] 24, bl b10 [I 0, I 0, SL none 0 0] 24, bl b7 [I a1.Who, I a1.From, I a1.To, I a1.Told, I a1.Unit, I a1.Under, I a1.Over] 33, bl b4 [I a0.Trips, I a0.Room, SL A1 a0.Counts.length c2] 24, rd eTallyCount 7 A1 c2 a0.Counts] := S17.asP k_
      refine hopE [(3, P b7 0)] ⟨((hf_ 3 rfl).trans (rfl : _ = P b7 0)), trivial⟩ ?_
      refine p_ldA ty33 sz33 (S_.atP (i := 2) rfl) rfl rfl ?_
      refine wp_nil ?_
      exact ⟨_, rfl, S_.keep, rfl⟩
    · intro e_ w_ k_ hf_ hR_
      have S_ : St w_ (fun _ => False) w_ [] [bl b13 [I a0.Trips, I a0.Room, SL A1 a0.Counts.length c2] 24, bl b10 [I 0, I 0, SL none 0 0] 24, bl b7 [I a1.Who, I a1.From, I a1.To, I a1.Told, I a1.Unit, I a1.Under, I a1.Over] 33, bl b4 [I a0.Trips, I a0.Room, SL A1 a0.Counts.length c2] 24, rd eTallyCount 7 A1 c2 a0.Counts] := S17.asP k_
      obtain ⟨_, _, _, _, q33⟩ := hR_ 4 11 rfl (Nat.le_of_ble_eq_true rfl) rfl
      refine hopE [(11, AG [I a1.Who, I a1.From, I a1.To, I a1.Told, I a1.Unit, I a1.Under, I a1.Over])] ⟨q33, trivial⟩ ?_
      refine p_bsl (enc := eTallyCount) (l := ([a1] : List TallyCount)) (fun x => AG (eTallyCount x)) (fun _ => rfl) sc22 in33 eTallyCount_len rfl (by decide) (by decide) zr33_1 S_ rfl fun A34 c35 w36 S37 => ?_
      refine wp_nil ?_
      exact ⟨_, rfl, S37.keep, ⟨(A34, c35), rfl, ⟨BtwL.of (New.al (S37.newX (i := 0) rfl)) rfl (S37.atX (i := 0) rfl) rfl, trivial⟩, (List.forall_mem_cons.2 ⟨(S37.atX (i := 0) rfl), (fun _ h_ => (List.not_mem_nil h_).elim)⟩)⟩⟩
    intro e39 w40 lo41 hi42 k43 hf44 hR45 hd46
    have S47 := S17.call k43
    obtain ⟨h49, h50, h51, A18, q48, h52, h53⟩ := hR45 0 7 (Nat.le_of_ble_eq_true rfl) rfl
    replace q48 : e39 7 = SL A18 0 0 := q48
    obtain ⟨p54, _⟩ := h52
    have q56 : e39 8 = P b4 2 := (hR45 1 8 (Nat.le_of_ble_eq_true rfl) rfl).2.2.2
    have q57 : e39 9 = SL A1 a0.Counts.length c2 := (hR45 2 9 (Nat.le_of_ble_eq_true rfl) rfl).2.2.2
    have q58 : e39 10 = SL A18 0 0 := (Option.some.inj ((congrArg some q48).symm.trans (hR45 3 10 (Nat.le_of_ble_eq_true rfl) rfl).2.2.2)).symm
    have q59 : e39 11 = AG [I a1.Who, I a1.From, I a1.To, I a1.Told, I a1.Unit, I a1.Under, I a1.Over] := (hR45 4 11 (Nat.le_of_ble_eq_true rfl) rfl).2.2.2
    obtain ⟨h61, h62, h63, ⟨A34, c35⟩, q60, h64, h65⟩ := hR45 5 12 (Nat.le_of_ble_eq_true rfl) rfl
    replace q60 : e39 12 = SL A34 ([a1] : List TallyCount).length c35 := q60
    obtain ⟨p66, _⟩ := h64
    have S68 := St.addO S47 (h53 _ (.head _)) (fun b_ h_ => (p54 b_ h_).elim (fun q_ => Nat.le_trans S17.keep.size (Nat.le_trans h49 q_.1)) (fun ⟨_, hq_, _⟩ => (List.not_mem_nil hq_).elim)) (List.forall_mem_cons.2 ⟨(fun b_ h1_ h2_ => (p54 b_ h1_).elim (fun q2_ => by have q1_ := Asr.inb _ _ _ (S17.atX (i := 0) rfl) h2_; omega) (fun ⟨_, hq_, _⟩ => (List.not_mem_nil hq_).elim)), (List.forall_mem_cons.2 ⟨(fun b_ h1_ h2_ => (p54 b_ h1_).elim (fun q2_ => by have q1_ := Asr.inb _ _ _ (S17.atX (i := 1) rfl) h2_; omega) (fun ⟨_, hq_, _⟩ => (List.not_mem_nil hq_).elim)), (List.forall_mem_cons.2 ⟨(fun b_ h1_ h2_ => (p54 b_ h1_).elim (fun q2_ => by have q1_ := Asr.inb _ _ _ (S17.atX (i := 2) rfl) h2_; omega) (fun ⟨_, hq_, _⟩ => (List.not_mem_nil hq_).elim)), (List.forall_mem_cons.2 ⟨(fun b_ h1_ h2_ => (p54 b_ h1_).elim (fun q2_ => by have q1_ := Asr.inb _ _ _ (S17.atX (i := 3) rfl) h2_; omega) (fun ⟨_, hq_, _⟩ => (List.not_mem_nil hq_).elim)), (fun _ h_ => (List.not_mem_nil h_).elim)⟩)⟩)⟩)⟩) (List.forall_mem_cons.2 ⟨(fun b_ h1_ h2_ => (p54 b_ h1_).elim (fun q2_ => by have q1_ := Asr.inb _ _ _ (S17.atP (i := 0) rfl) h2_; omega) (fun ⟨_, hq_, _⟩ => (List.not_mem_nil hq_).elim)), (fun _ h_ => (List.not_mem_nil h_).elim)⟩)
    have S69 := St.addO S68 (h65 _ (.head _)) (fun b_ h_ => (p66 b_ h_).elim (fun q_ => Nat.le_trans S17.keep.size (Nat.le_trans h61 q_.1)) (fun ⟨_, hq_, _⟩ => (List.not_mem_nil hq_).elim)) (List.forall_mem_cons.2 ⟨(fun b_ h1_ h2_ => (p66 b_ h1_).elim (fun q1_ => (p54 b_ h2_).elim (fun q2_ => by have q3_ := hd46 5 0 (Nat.le_of_ble_eq_true rfl) (Nat.le_of_ble_eq_true rfl) (by decide); omega) (fun ⟨q_, hq_, hqb_⟩ => by have q5_ := h61; have q4_ := Asr.inb _ _ _ (S17.ps q_ (((fun _ h_ => (List.not_mem_nil h_).elim)) q_ hq_)) hqb_; omega)) (fun ⟨_, hq_, _⟩ => (List.not_mem_nil hq_).elim)), (List.forall_mem_cons.2 ⟨(fun b_ h1_ h2_ => (p66 b_ h1_).elim (fun q2_ => by have q1_ := Asr.inb _ _ _ (S17.atX (i := 0) rfl) h2_; omega) (fun ⟨_, hq_, _⟩ => (List.not_mem_nil hq_).elim)), (List.forall_mem_cons.2 ⟨(fun b_ h1_ h2_ => (p66 b_ h1_).elim (fun q2_ => by have q1_ := Asr.inb _ _ _ (S17.atX (i := 1) rfl) h2_; omega) (fun ⟨_, hq_, _⟩ => (List.not_mem_nil hq_).elim)), (List.forall_mem_cons.2 ⟨(fun b_ h1_ h2_ => (p66 b_ h1_).elim (fun q2_ => by have q1_ := Asr.inb _ _ _ (S17.atX (i := 2) rfl) h2_; omega) (fun ⟨_, hq_, _⟩ => (List.not_mem_nil hq_).elim)), (List.forall_mem_cons.2 ⟨(fun b_ h1_ h2_ => (p66 b_ h1_).elim (fun q2_ => by have q1_ := Asr.inb _ _ _ (S17.atX (i := 3) rfl) h2_; omega) (fun ⟨_, hq_, _⟩ => (List.not_mem_nil hq_).elim)), (fun _ h_ => (List.not_mem_nil h_).elim)⟩)⟩)⟩)⟩)⟩) (List.forall_mem_cons.2 ⟨(fun b_ h1_ h2_ => (p66 b_ h1_).elim (fun q2_ => by have q1_ := Asr.inb _ _ _ (S17.atP (i := 0) rfl) h2_; omega) (fun ⟨_, hq_, _⟩ => (List.not_mem_nil hq_).elim)), (fun _ h_ => (List.not_mem_nil h_).elim)⟩)
    refine tailE [(4, P b10 0), (5, P b13 0), (10, SL A18 0 0), (12, SL A34 ([a1] : List TallyCount).length c35)] ⟨((hf44 4 rfl).trans (rfl : _ = P b10 0)), ((hf44 5 rfl).trans (rfl : _ = P b13 0)), q58, q60, trivial⟩ ?_
    intro g70
    obtain ⟨h75, H⟩ := needS H
    refine p_app (enc := eTallyCount) sc22 in33 rfl eTallyCount_len eTallyCount_one (by decide) S69 (k := 1) rfl (gr_sl eTallyCount_len (S69.atX (i := 0) rfl)) h75 (by simp) rfl rfl fun A73 c74 w71 S72 => ?_
    refine p_fld fl24_2 rfl ?_
    refine p_stP (pre := [I a0.Trips, I a0.Room]) (old := [SL A1 a0.Counts.length c2]) (post := []) (vs := [SL A73 ([a1] : List TallyCount).length c74]) sz22 S72 (i := 2) rfl rfl rfl rfl (rfl : _ = SL A73 ([a1] : List TallyCount).length c74) rfl rfl rfl rfl fun w76 S77 => ?_
    refine wp_nil ?_
    refine c_seq ?_
    refine reg ?_
    refine p_ldA ty24 sz24 (S77.atX (i := 2) rfl) rfl rfl ?_
    refine p_stP (pre := []) (old := [I 0, I 0, SL none 0 0]) (post := []) (vs := [I a0.Trips, I a0.Room, SL A73 ([a1] : List TallyCount).length c74]) sz24 S77 (i := 3) rfl rfl rfl rfl (rfl : _ = AG [I a0.Trips, I a0.Room, SL A73 ([a1] : List TallyCount).length c74]) rfl rfl rfl rfl fun w78 S79 => ?_
    refine wp_nil ?_
    obtain rfl := Option.some.inj H
    refine c_ret ?_; show bodyPostM (Fr none) 0 Tryd.prog Tryd.f87 _ .ret _ _
    refine ret_of (res1 rfl (rvA rfl ty24 sz24 (S79.atX (i := 3) rfl) rfl)) ?_
    exact ⟨_, rfl, A73, c74, rfl, S79.keep, ⟨S79.atX (i := 1) rfl, S79.newX (i := 1) rfl⟩, trivial⟩
  · replace H := condF c24 H
    obtain ⟨h88, H⟩ := needS H
    refine reg_any mixed 6 (by kernel_rfl) [rx (α := (Option Addr)) (fun A18 => SL A18 0 0) (fun A18 lo hi => BtwL lo hi [] (gr eTallyCount 7 33 A18 0 ([] : List TallyCount)) ∧ True) (fun A18 => [gr eTallyCount 7 33 A18 0 ([] : List TallyCount)]), rv (P b4 2), rv (SL A1 a0.Counts.length c2), rx (α := (Option Addr) × Nat) (fun ⟨A86, c87⟩ => SL A86 a0.Counts.length c87) (fun ⟨A86, c87⟩ lo hi => BtwL lo hi [] (gr eTallyCount 7 33 A86 c87 a0.Counts) ∧ True) (fun ⟨A86, c87⟩ => [gr eTallyCount 7 33 A86 c87 a0.Counts]), rv (AG [I a1.Who, I a1.From, I a1.To, I a1.Told, I a1.Unit, I a1.Under, I a1.Over]), rx (α := (Option Addr) × Nat) (fun ⟨A91, c92⟩ => SL A91 ([a1] : List TallyCount).length c92) (fun ⟨A91, c92⟩ lo hi => BtwL lo hi [] (gr eTallyCount 7 33 A91 c92 ([a1] : List TallyCount)) ∧ True) (fun ⟨A91, c92⟩ => [gr eTallyCount 7 33 A91 c92 ([a1] : List TallyCount)])] [[], [], [], [], [], []] rfl (by kernel_rfl) [[], [], [1], [0, 1, 2], [], [4], [0, 1, 2, 3, 4, 5], [0, 1, 2, 3, 4, 5, 6], [0, 1, 2, 3, 4, 5, 6, 7]] (by kernel_rfl) ⟨?_, ?_, ?_, ?_, ?_, ?_, trivial⟩ ?_
    · intro e_ w_ k_ hf_ hR_
      have S_ : St w_ (fun _ => False) w_ [] [bl b13 [I a0.Trips, I a0.Room, SL A1 a0.Counts.length c2] 24, bl b10 [I 0, I 0, SL none 0 0] 24, bl b7 [I a1.Who, I a1.From, I a1.To, I a1.Told, I a1.Unit, I a1.Under, I a1.Over] 33, bl b4 [I a0.Trips, I a0.Room, SL A1 a0.Counts.length c2] 24, rd eTallyCount 7 A1 c2 a0.Counts] := S17.asP k_
      refine hopE [] trivial ?_
      refine p_bsl0 eTallyCount sc22 S_ fun A18 w20 S21 => ?_
      refine wp_nil ?_
      exact ⟨_, rfl, S21.keep, ⟨A18, rfl, ⟨BtwL.of (New.al (S21.newX (i := 0) rfl)) rfl (S21.atX (i := 0) rfl) rfl, trivial⟩, (List.forall_mem_cons.2 ⟨(S21.atX (i := 0) rfl), (fun _ h_ => (List.not_mem_nil h_).elim)⟩)⟩⟩
    · intro e_ w_ k_ hf_ hR_
      have S_ : St w_ (fun _ => False) w_ [] [bl b13 [I a0.Trips, I a0.Room, SL A1 a0.Counts.length c2] 24, bl b10 [I 0, I 0, SL none 0 0] 24, bl b7 [I a1.Who, I a1.From, I a1.To, I a1.Told, I a1.Unit, I a1.Under, I a1.Over] 33, bl b4 [I a0.Trips, I a0.Room, SL A1 a0.Counts.length c2] 24, rd eTallyCount 7 A1 c2 a0.Counts] := S17.asP k_
      refine hopE [(2, P b4 0)] ⟨((hf_ 2 rfl).trans (rfl : _ = P b4 0)), trivial⟩ ?_
      refine p_fld fl24_2 rfl ?_
      refine wp_nil ?_
      exact ⟨_, rfl, S_.keep, rfl⟩
    · intro e_ w_ k_ hf_ hR_
      have S_ : St w_ (fun _ => False) w_ [] [bl b13 [I a0.Trips, I a0.Room, SL A1 a0.Counts.length c2] 24, bl b10 [I 0, I 0, SL none 0 0] 24, bl b7 [I a1.Who, I a1.From, I a1.To, I a1.Told, I a1.Unit, I a1.Under, I a1.Over] 33, bl b4 [I a0.Trips, I a0.Room, SL A1 a0.Counts.length c2] 24, rd eTallyCount 7 A1 c2 a0.Counts] := S17.asP k_
      obtain ⟨_, _, _, _, q23⟩ := hR_ 1 8 rfl (Nat.le_of_ble_eq_true rfl) rfl
      refine hopE [(8, P b4 2)] ⟨q23, trivial⟩ ?_
      refine p_ld ty22 (S_.atP (i := 3) rfl) rfl rfl ?_
      refine wp_nil ?_
      exact ⟨_, rfl, S_.keep, rfl⟩
    · intro e_ w_ k_ hf_ hR_
      have S_ : St w_ (fun _ => False) w_ [] [bl b13 [I a0.Trips, I a0.Room, SL A1 a0.Counts.length c2] 24, bl b10 [I 0, I 0, SL none 0 0] 24, bl b7 [I a1.Who, I a1.From, I a1.To, I a1.Told, I a1.Unit, I a1.Under, I a1.Over] 33, bl b4 [I a0.Trips, I a0.Room, SL A1 a0.Counts.length c2] 24, rd eTallyCount 7 A1 c2 a0.Counts] := S17.asP k_
      obtain ⟨_, _, _, _, A18, q80, p81, a82⟩ := hR_ 0 7 rfl (Nat.le_of_ble_eq_true rfl) rfl
      replace q80 : e_ 7 = SL A18 0 0 := q80
      have S_ := St.addL' S_ (a82 _ (.head _)) (fun _ _ _ h_ => (List.not_mem_nil h_).elim)
      obtain ⟨_, _, _, _, q83⟩ := hR_ 2 9 rfl (Nat.le_of_ble_eq_true rfl) rfl
      refine hopE [(7, SL A18 0 0), (9, SL A1 a0.Counts.length c2)] ⟨q80, q83, trivial⟩ ?_
      refine p_appN (enc := eTallyCount) sc22 in33 rfl eTallyCount_len (by decide) S_ (gr_sl eTallyCount_len (S_.atP (i := 0) rfl)) rfl (S_.atP (i := 5) rfl).1 h88 (ne_of_some c24) rfl rfl fun A86 c87 w84 S85 => ?_
      refine wp_nil ?_
      exact ⟨_, rfl, S85.keep, ⟨(A86, c87), rfl, ⟨BtwL.of (New.al (S85.newX (i := 0) rfl)) rfl (S85.atX (i := 0) rfl) rfl, trivial⟩, (List.forall_mem_cons.2 ⟨(S85.atX (i := 0) rfl), (fun _ h_ => (List.not_mem_nil h_).elim)⟩)⟩⟩
    · intro e_ w_ k_ hf_ hR_
      have S_ : St w_ (fun _ => False) w_ [] [bl b13 [I a0.Trips, I a0.Room, SL A1 a0.Counts.length c2] 24, bl b10 [I 0, I 0, SL none 0 0] 24, bl b7 [I a1.Who, I a1.From, I a1.To, I a1.Told, I a1.Unit, I a1.Under, I a1.Over] 33, bl b4 [I a0.Trips, I a0.Room, SL A1 a0.Counts.length c2] 24, rd eTallyCount 7 A1 c2 a0.Counts] := S17.asP k_
      refine hopE [(3, P b7 0)] ⟨((hf_ 3 rfl).trans (rfl : _ = P b7 0)), trivial⟩ ?_
      refine p_ldA ty33 sz33 (S_.atP (i := 2) rfl) rfl rfl ?_
      refine wp_nil ?_
      exact ⟨_, rfl, S_.keep, rfl⟩
    · intro e_ w_ k_ hf_ hR_
      have S_ : St w_ (fun _ => False) w_ [] [bl b13 [I a0.Trips, I a0.Room, SL A1 a0.Counts.length c2] 24, bl b10 [I 0, I 0, SL none 0 0] 24, bl b7 [I a1.Who, I a1.From, I a1.To, I a1.Told, I a1.Unit, I a1.Under, I a1.Over] 33, bl b4 [I a0.Trips, I a0.Room, SL A1 a0.Counts.length c2] 24, rd eTallyCount 7 A1 c2 a0.Counts] := S17.asP k_
      obtain ⟨_, _, _, _, q90⟩ := hR_ 4 11 rfl (Nat.le_of_ble_eq_true rfl) rfl
      refine hopE [(11, AG [I a1.Who, I a1.From, I a1.To, I a1.Told, I a1.Unit, I a1.Under, I a1.Over])] ⟨q90, trivial⟩ ?_
      refine p_bsl (enc := eTallyCount) (l := ([a1] : List TallyCount)) (fun x => AG (eTallyCount x)) (fun _ => rfl) sc22 in33 eTallyCount_len rfl (by decide) (by decide) zr33_1 S_ rfl fun A91 c92 w93 S94 => ?_
      refine wp_nil ?_
      exact ⟨_, rfl, S94.keep, ⟨(A91, c92), rfl, ⟨BtwL.of (New.al (S94.newX (i := 0) rfl)) rfl (S94.atX (i := 0) rfl) rfl, trivial⟩, (List.forall_mem_cons.2 ⟨(S94.atX (i := 0) rfl), (fun _ h_ => (List.not_mem_nil h_).elim)⟩)⟩⟩
    intro e96 w97 lo98 hi99 k100 hf101 hR102 hd103
    have S104 := S17.call k100
    obtain ⟨h106, h107, h108, A18, q105, h109, h110⟩ := hR102 0 7 (Nat.le_of_ble_eq_true rfl) rfl
    replace q105 : e96 7 = SL A18 0 0 := q105
    obtain ⟨p111, _⟩ := h109
    have q113 : e96 8 = P b4 2 := (hR102 1 8 (Nat.le_of_ble_eq_true rfl) rfl).2.2.2
    have q114 : e96 9 = SL A1 a0.Counts.length c2 := (hR102 2 9 (Nat.le_of_ble_eq_true rfl) rfl).2.2.2
    obtain ⟨h116, h117, h118, ⟨A86, c87⟩, q115, h119, h120⟩ := hR102 3 10 (Nat.le_of_ble_eq_true rfl) rfl
    replace q115 : e96 10 = SL A86 a0.Counts.length c87 := q115
    obtain ⟨p121, _⟩ := h119
    have q123 : e96 11 = AG [I a1.Who, I a1.From, I a1.To, I a1.Told, I a1.Unit, I a1.Under, I a1.Over] := (hR102 4 11 (Nat.le_of_ble_eq_true rfl) rfl).2.2.2
    obtain ⟨h125, h126, h127, ⟨A91, c92⟩, q124, h128, h129⟩ := hR102 5 12 (Nat.le_of_ble_eq_true rfl) rfl
    replace q124 : e96 12 = SL A91 ([a1] : List TallyCount).length c92 := q124
    obtain ⟨p130, _⟩ := h128
    have S132 := St.addO S104 (h120 _ (.head _)) (fun b_ h_ => (p121 b_ h_).elim (fun q_ => Nat.le_trans S17.keep.size (Nat.le_trans h116 q_.1)) (fun ⟨_, hq_, _⟩ => (List.not_mem_nil hq_).elim)) (List.forall_mem_cons.2 ⟨(fun b_ h1_ h2_ => (p121 b_ h1_).elim (fun q2_ => by have q1_ := Asr.inb _ _ _ (S17.atX (i := 0) rfl) h2_; omega) (fun ⟨_, hq_, _⟩ => (List.not_mem_nil hq_).elim)), (List.forall_mem_cons.2 ⟨(fun b_ h1_ h2_ => (p121 b_ h1_).elim (fun q2_ => by have q1_ := Asr.inb _ _ _ (S17.atX (i := 1) rfl) h2_; omega) (fun ⟨_, hq_, _⟩ => (List.not_mem_nil hq_).elim)), (List.forall_mem_cons.2 ⟨(fun b_ h1_ h2_ => (p121 b_ h1_).elim (fun q2_ => by have q1_ := Asr.inb _ _ _ (S17.atX (i := 2) rfl) h2_; omega) (fun ⟨_, hq_, _⟩ => (List.not_mem_nil hq_).elim)), (List.forall_mem_cons.2 ⟨(fun b_ h1_ h2_ => (p121 b_ h1_).elim (fun q2_ => by have q1_ := Asr.inb _ _ _ (S17.atX (i := 3) rfl) h2_; omega) (fun ⟨_, hq_, _⟩ => (List.not_mem_nil hq_).elim)), (fun _ h_ => (List.not_mem_nil h_).elim)⟩)⟩)⟩)⟩) (List.forall_mem_cons.2 ⟨(fun b_ h1_ h2_ => (p121 b_ h1_).elim (fun q2_ => by have q1_ := Asr.inb _ _ _ (S17.atP (i := 0) rfl) h2_; omega) (fun ⟨_, hq_, _⟩ => (List.not_mem_nil hq_).elim)), (fun _ h_ => (List.not_mem_nil h_).elim)⟩)
    have S133 := St.addO S132 (h129 _ (.head _)) (fun b_ h_ => (p130 b_ h_).elim (fun q_ => Nat.le_trans S17.keep.size (Nat.le_trans h125 q_.1)) (fun ⟨_, hq_, _⟩ => (List.not_mem_nil hq_).elim)) (List.forall_mem_cons.2 ⟨(fun b_ h1_ h2_ => (p130 b_ h1_).elim (fun q1_ => (p121 b_ h2_).elim (fun q2_ => by have q3_ := hd103 5 3 (Nat.le_of_ble_eq_true rfl) (Nat.le_of_ble_eq_true rfl) (by decide); omega) (fun ⟨q_, hq_, hqb_⟩ => by have q5_ := h125; have q4_ := Asr.inb _ _ _ (S17.ps q_ (((fun _ h_ => (List.not_mem_nil h_).elim)) q_ hq_)) hqb_; omega)) (fun ⟨_, hq_, _⟩ => (List.not_mem_nil hq_).elim)), (List.forall_mem_cons.2 ⟨(fun b_ h1_ h2_ => (p130 b_ h1_).elim (fun q2_ => by have q1_ := Asr.inb _ _ _ (S17.atX (i := 0) rfl) h2_; omega) (fun ⟨_, hq_, _⟩ => (List.not_mem_nil hq_).elim)), (List.forall_mem_cons.2 ⟨(fun b_ h1_ h2_ => (p130 b_ h1_).elim (fun q2_ => by have q1_ := Asr.inb _ _ _ (S17.atX (i := 1) rfl) h2_; omega) (fun ⟨_, hq_, _⟩ => (List.not_mem_nil hq_).elim)), (List.forall_mem_cons.2 ⟨(fun b_ h1_ h2_ => (p130 b_ h1_).elim (fun q2_ => by have q1_ := Asr.inb _ _ _ (S17.atX (i := 2) rfl) h2_; omega) (fun ⟨_, hq_, _⟩ => (List.not_mem_nil hq_).elim)), (List.forall_mem_cons.2 ⟨(fun b_ h1_ h2_ => (p130 b_ h1_).elim (fun q2_ => by have q1_ := Asr.inb _ _ _ (S17.atX (i := 3) rfl) h2_; omega) (fun ⟨_, hq_, _⟩ => (List.not_mem_nil hq_).elim)), (fun _ h_ => (List.not_mem_nil h_).elim)⟩)⟩)⟩)⟩)⟩) (List.forall_mem_cons.2 ⟨(fun b_ h1_ h2_ => (p130 b_ h1_).elim (fun q2_ => by have q1_ := Asr.inb _ _ _ (S17.atP (i := 0) rfl) h2_; omega) (fun ⟨_, hq_, _⟩ => (List.not_mem_nil hq_).elim)), (fun _ h_ => (List.not_mem_nil h_).elim)⟩)
    refine tailE [(4, P b10 0), (5, P b13 0), (10, SL A86 a0.Counts.length c87), (12, SL A91 ([a1] : List TallyCount).length c92)] ⟨((hf101 4 rfl).trans (rfl : _ = P b10 0)), ((hf101 5 rfl).trans (rfl : _ = P b13 0)), q115, q124, trivial⟩ ?_
    intro g134
    obtain ⟨h139, H⟩ := needS H
    refine p_app (enc := eTallyCount) sc22 in33 rfl eTallyCount_len eTallyCount_one (by decide) S133 (k := 1) rfl (gr_sl eTallyCount_len (S133.atX (i := 0) rfl)) h139 (by simp) rfl rfl fun A137 c138 w135 S136 => ?_
    refine p_fld fl24_2 rfl ?_
    refine p_stP (pre := [I a0.Trips, I a0.Room]) (old := [SL A1 a0.Counts.length c2]) (post := []) (vs := [SL A137 (a0.Counts ++ ([a1] : List TallyCount)).length c138]) sz22 S136 (i := 2) rfl rfl rfl rfl (rfl : _ = SL A137 (a0.Counts ++ ([a1] : List TallyCount)).length c138) rfl rfl rfl rfl fun w140 S141 => ?_
    refine wp_nil ?_
    refine c_seq ?_
    refine reg ?_
    refine p_ldA ty24 sz24 (S141.atX (i := 2) rfl) rfl rfl ?_
    refine p_stP (pre := []) (old := [I 0, I 0, SL none 0 0]) (post := []) (vs := [I a0.Trips, I a0.Room, SL A137 (a0.Counts ++ ([a1] : List TallyCount)).length c138]) sz24 S141 (i := 3) rfl rfl rfl rfl (rfl : _ = AG [I a0.Trips, I a0.Room, SL A137 (a0.Counts ++ ([a1] : List TallyCount)).length c138]) rfl rfl rfl rfl fun w142 S143 => ?_
    refine wp_nil ?_
    obtain rfl := Option.some.inj H
    refine c_ret ?_; show bodyPostM (Fr none) 0 Tryd.prog Tryd.f87 _ .ret _ _
    refine ret_of (res1 rfl (rvA rfl ty24 sz24 (S143.atX (i := 3) rfl) rfl)) ?_
    exact ⟨_, rfl, A137, c138, rfl, S143.keep, ⟨S143.atX (i := 1) rfl, S143.newX (i := 1) rfl⟩, trivial⟩

def ref_Fits (a0 : TallyBook) (a1 : TallyCount) : Option (Bool × Int) :=
  (ref_isCount a0 a1).bind fun r12 =>
  (ref_asked a0 r12).bind fun r18 =>
  bif (r18.2 != 0) then (some (false, r18.2))
  else ((ref_With a0 a1).bind fun r81 =>
  (ref_most r81).bind fun r91 =>
  some (r91.2, 0))

set_option maxRecDepth 100000 in
theorem ref_Fits_ok {a0 : TallyBook} {a1 : TallyCount} {A1 : Option Addr} {c2 : Nat} {w : World} {r : Bool × Int} (H : ref_Fits a0 a1 = some r) (h3 : (rd eTallyCount 7 A1 c2 a0.Counts).ok w) : Calls Tryd.prog 62 #[AG [I a0.Trips, I a0.Room, SL A1 a0.Counts.length c2], AG [I a1.Who, I a1.From, I a1.To, I a1.Told, I a1.Unit, I a1.Under, I a1.Over]] w (RetV w (TU [B r.1, I r.2])) := by
  unfold ref_Fits at H
  refine fn_of (n := 29) Tryd.func62 rfl rfl (Nat.le_of_ble_eq_true rfl) ?_
  have S : St w (fun _ => False) w [] [rd eTallyCount 7 A1 c2 a0.Counts] := St.start w _ _ (List.forall_mem_cons.2 ⟨h3, (fun _ h_ => (List.not_mem_nil h_).elim)⟩)
  refine c_seq ?_
  refine reg ?_
  refine p_boxA rfl S fun b4 w5 S6 => ?_
  refine p_boxA rfl S6 fun b7 w8 S9 => ?_
  refine p_aB rfl ?_
  refine p_aI rfl ?_
  refine wp_nil ?_
  refine c_seq ?_
  refine c_seq ?_
  obtain ⟨r12, h13, H⟩ := bindS H
  obtain ⟨r18, h19, H⟩ := bindS H
  refine reg_any mixed 10 (by kernel_rfl) [rv (AG [I a0.Trips, I a0.Room, SL A1 a0.Counts.length c2]), rv (AG [I a0.Trips, I a0.Room, SL A1 a0.Counts.length c2]), rv (AG [I a1.Who, I a1.From, I a1.To, I a1.Told, I a1.Unit, I a1.Under, I a1.Over]), rv (B r12), rx (α := (Option Addr) × (List RowH) × Nat) (fun ⟨A22, l24, c23⟩ => TU [SL A22 l24.length c23, I r18.2]) (fun ⟨A22, l24, c23⟩ lo hi => BtwL lo hi [] (rd rowN 1 A22 c23 l24) ∧ BtwL lo hi [] (ri rowI l24 r18.1) ∧ True) (fun ⟨A22, l24, c23⟩ => [rd rowN 1 A22 c23 l24, ri rowI l24 r18.1]), dv 15 some, dv 10 (exG 0), dv 10 (exG 1), dv 16 some, rv (I r18.2)] [[], [], [], [], [], [15], [10], [10], [16], []] rfl (by kernel_rfl) [[], [], [], [1, 2], [0, 1, 2, 3], [0, 1, 2, 3, 4], [0, 1, 2, 3, 4, 5], [0, 1, 2, 3, 4, 5], [0, 1, 2, 3, 4, 5, 6], [0, 1, 2, 3, 4, 5, 6, 7, 8]] (by kernel_rfl) ⟨?_, ?_, ?_, ?_, ?_, ?_, ?_, ?_, ?_, ?_, trivial⟩ ?_
  · intro e_ w_ k_ hf_ hR_
    have S_ : St w_ (fun _ => False) w_ [] [bl b7 [I a1.Who, I a1.From, I a1.To, I a1.Told, I a1.Unit, I a1.Under, I a1.Over] 33, bl b4 [I a0.Trips, I a0.Room, SL A1 a0.Counts.length c2] 24, rd eTallyCount 7 A1 c2 a0.Counts] := S9.asP k_
    refine hopE [(2, P b4 0)] ⟨((hf_ 2 rfl).trans (rfl : _ = P b4 0)), trivial⟩ ?_
    refine p_ldA ty24 sz24 (S_.atP (i := 1) rfl) rfl rfl ?_
    refine wp_nil ?_
    exact ⟨_, rfl, S_.keep, rfl⟩
  · intro e_ w_ k_ hf_ hR_
    have S_ : St w_ (fun _ => False) w_ [] [bl b7 [I a1.Who, I a1.From, I a1.To, I a1.Told, I a1.Unit, I a1.Under, I a1.Over] 33, bl b4 [I a0.Trips, I a0.Room, SL A1 a0.Counts.length c2] 24, rd eTallyCount 7 A1 c2 a0.Counts] := S9.asP k_
    refine hopE [(2, P b4 0)] ⟨((hf_ 2 rfl).trans (rfl : _ = P b4 0)), trivial⟩ ?_
    refine p_ldA ty24 sz24 (S_.atP (i := 1) rfl) rfl rfl ?_
    refine wp_nil ?_
    exact ⟨_, rfl, S_.keep, rfl⟩
  · intro e_ w_ k_ hf_ hR_
    have S_ : St w_ (fun _ => False) w_ [] [bl b7 [I a1.Who, I a1.From, I a1.To, I a1.Told, I a1.Unit, I a1.Under, I a1.Over] 33, bl b4 [I a0.Trips, I a0.Room, SL A1 a0.Counts.length c2] 24, rd eTallyCount 7 A1 c2 a0.Counts] := S9.asP k_
    refine hopE [(3, P b7 0)] ⟨((hf_ 3 rfl).trans (rfl : _ = P b7 0)), trivial⟩ ?_
    refine p_ldA ty33 sz33 (S_.atP (i := 0) rfl) rfl rfl ?_
    refine wp_nil ?_
    exact ⟨_, rfl, S_.keep, rfl⟩
  · intro e_ w_ k_ hf_ hR_
    have S_ : St w_ (fun _ => False) w_ [] [bl b7 [I a1.Who, I a1.From, I a1.To, I a1.Told, I a1.Unit, I a1.Under, I a1.Over] 33, bl b4 [I a0.Trips, I a0.Room, SL A1 a0.Counts.length c2] 24, rd eTallyCount 7 A1 c2 a0.Counts] := S9.asP k_
    obtain ⟨_, _, _, _, q10⟩ := hR_ 1 12 rfl (Nat.le_of_ble_eq_true rfl) rfl
    obtain ⟨_, _, _, _, q11⟩ := hR_ 2 13 rfl (Nat.le_of_ble_eq_true rfl) rfl
    refine hopE [(12, AG [I a0.Trips, I a0.Room, SL A1 a0.Counts.length c2]), (13, AG [I a1.Who, I a1.From, I a1.To, I a1.Told, I a1.Unit, I a1.Under, I a1.Over])] ⟨q10, q11, trivial⟩ ?_
    refine p_cv (ref_isCount_ok h13 (S_.atP (i := 2) rfl)) fu82 rfl S_ fun w14 S15 => ?_
    refine wp_nil ?_
    exact ⟨_, rfl, S15.keep, rfl⟩
  · intro e_ w_ k_ hf_ hR_
    have S_ : St w_ (fun _ => False) w_ [] [bl b7 [I a1.Who, I a1.From, I a1.To, I a1.Told, I a1.Unit, I a1.Under, I a1.Over] 33, bl b4 [I a0.Trips, I a0.Room, SL A1 a0.Counts.length c2] 24, rd eTallyCount 7 A1 c2 a0.Counts] := S9.asP k_
    obtain ⟨_, _, _, _, q16⟩ := hR_ 0 11 rfl (Nat.le_of_ble_eq_true rfl) rfl
    obtain ⟨_, _, _, _, q17⟩ := hR_ 3 14 rfl (Nat.le_of_ble_eq_true rfl) rfl
    refine hopE [(11, AG [I a0.Trips, I a0.Room, SL A1 a0.Counts.length c2]), (14, B r12)] ⟨q16, q17, trivial⟩ ?_
    refine p_cal (ref_asked_ok h19 (S_.atP (i := 2) rfl)) fu83 rfl ?_
    rintro _ w20 ⟨A22, c23, l24, rfl, k21, ⟨o25, n26⟩, ⟨o27, n28⟩, _⟩
    have S29 := S_.callN k21 [rd rowN 1 A22 c23 l24, ri rowI l24 r18.1] (List.forall_mem_cons.2 ⟨⟨o25, New.inL n26⟩, (List.forall_mem_cons.2 ⟨⟨o27, New.inL n28⟩, (fun _ h_ => (List.not_mem_nil h_).elim)⟩)⟩)
    refine wp_nil ?_
    exact ⟨_, rfl, S29.keep, ⟨(A22, l24, c23), rfl, ⟨BtwL.of (New.al (New.mono n26 S_.keep.size)) rfl (S29.atP (i := 0) rfl) rfl, BtwL.of (New.al (New.mono n28 S_.keep.size)) rfl (S29.atP (i := 1) rfl) rfl, trivial⟩, (List.forall_mem_cons.2 ⟨(S29.atP (i := 0) rfl), (List.forall_mem_cons.2 ⟨(S29.atP (i := 1) rfl), (fun _ h_ => (List.not_mem_nil h_).elim)⟩)⟩)⟩⟩
  · intro e_ w_ k_ hf_ hR_
    have S_ : St w_ (fun _ => False) w_ [] [bl b7 [I a1.Who, I a1.From, I a1.To, I a1.Told, I a1.Unit, I a1.Under, I a1.Over] 33, bl b4 [I a0.Trips, I a0.Room, SL A1 a0.Counts.length c2] 24, rd eTallyCount 7 A1 c2 a0.Counts] := S9.asP k_
    obtain ⟨_, _, _, _, ⟨A22, l24, c23⟩, q30, p31, a32⟩ := hR_ 4 15 rfl (Nat.le_of_ble_eq_true rfl) rfl
    replace q30 : e_ 15 = TU [SL A22 l24.length c23, I r18.2] := q30
    have S_ := St.addL' S_ (a32 _ (.head _)) (fun _ _ _ h_ => (List.not_mem_nil h_).elim)
    have S_ := St.addL' S_ (a32 _ (.tail _ (.head _))) (fun _ _ _ h_ => (List.not_mem_nil h_).elim)
    refine hopE [(15, TU [SL A22 l24.length c23, I r18.2])] ⟨q30, trivial⟩ ?_
    refine p_mT rfl ?_
    refine wp_nil ?_
    exact ⟨_, rfl, S_.keep, rfl⟩
  · intro e_ w_ k_ hf_ hR_
    have S_ : St w_ (fun _ => False) w_ [] [bl b7 [I a1.Who, I a1.From, I a1.To, I a1.Told, I a1.Unit, I a1.Under, I a1.Over] 33, bl b4 [I a0.Trips, I a0.Room, SL A1 a0.Counts.length c2] 24, rd eTallyCount 7 A1 c2 a0.Counts] := S9.asP k_
    obtain ⟨_, _, _, _, ⟨A22, l24, c23⟩, q34, p35, a36⟩ := hR_ 4 15 rfl (Nat.le_of_ble_eq_true rfl) rfl
    replace q34 : e_ 15 = TU [SL A22 l24.length c23, I r18.2] := q34
    have S_ := St.addL' S_ (a36 _ (.head _)) (fun _ _ _ h_ => (List.not_mem_nil h_).elim)
    have S_ := St.addL' S_ (a36 _ (.tail _ (.head _))) (fun _ _ _ h_ => (List.not_mem_nil h_).elim)
    obtain ⟨_, _, _, _, q33⟩ := hR_ 5 10 rfl (Nat.le_of_ble_eq_true rfl) rfl
    replace q33 : e_ 10 = TU [SL A22 l24.length c23, I r18.2] := (Option.some.inj ((congrArg some q34).symm.trans q33)).symm
    refine hopE [(10, TU [SL A22 l24.length c23, I r18.2])] ⟨q33, trivial⟩ ?_
    refine p_ext rfl rfl ?_
    refine wp_nil ?_
    exact ⟨_, rfl, S_.keep, rfl⟩
  · intro e_ w_ k_ hf_ hR_
    have S_ : St w_ (fun _ => False) w_ [] [bl b7 [I a1.Who, I a1.From, I a1.To, I a1.Told, I a1.Unit, I a1.Under, I a1.Over] 33, bl b4 [I a0.Trips, I a0.Room, SL A1 a0.Counts.length c2] 24, rd eTallyCount 7 A1 c2 a0.Counts] := S9.asP k_
    obtain ⟨_, _, _, _, ⟨A22, l24, c23⟩, q38, p39, a40⟩ := hR_ 4 15 rfl (Nat.le_of_ble_eq_true rfl) rfl
    replace q38 : e_ 15 = TU [SL A22 l24.length c23, I r18.2] := q38
    have S_ := St.addL' S_ (a40 _ (.head _)) (fun _ _ _ h_ => (List.not_mem_nil h_).elim)
    have S_ := St.addL' S_ (a40 _ (.tail _ (.head _))) (fun _ _ _ h_ => (List.not_mem_nil h_).elim)
    obtain ⟨_, _, _, _, q37⟩ := hR_ 5 10 rfl (Nat.le_of_ble_eq_true rfl) rfl
    replace q37 : e_ 10 = TU [SL A22 l24.length c23, I r18.2] := (Option.some.inj ((congrArg some q38).symm.trans q37)).symm
    refine hopE [(10, TU [SL A22 l24.length c23, I r18.2])] ⟨q37, trivial⟩ ?_
    refine p_ext rfl rfl ?_
    refine wp_nil ?_
    exact ⟨_, rfl, S_.keep, rfl⟩
  · intro e_ w_ k_ hf_ hR_
    have S_ : St w_ (fun _ => False) w_ [] [bl b7 [I a1.Who, I a1.From, I a1.To, I a1.Told, I a1.Unit, I a1.Under, I a1.Over] 33, bl b4 [I a0.Trips, I a0.Room, SL A1 a0.Counts.length c2] 24, rd eTallyCount 7 A1 c2 a0.Counts] := S9.asP k_
    obtain ⟨_, _, _, _, ⟨A22, l24, c23⟩, q43, p44, a45⟩ := hR_ 4 15 rfl (Nat.le_of_ble_eq_true rfl) rfl
    replace q43 : e_ 15 = TU [SL A22 l24.length c23, I r18.2] := q43
    have S_ := St.addL' S_ (a45 _ (.head _)) (fun _ _ _ h_ => (List.not_mem_nil h_).elim)
    have S_ := St.addL' S_ (a45 _ (.tail _ (.head _))) (fun _ _ _ h_ => (List.not_mem_nil h_).elim)
    obtain ⟨_, _, _, _, q42⟩ := hR_ 5 10 rfl (Nat.le_of_ble_eq_true rfl) rfl
    replace q42 : e_ 10 = TU [SL A22 l24.length c23, I r18.2] := (Option.some.inj ((congrArg some q43).symm.trans q42)).symm
    obtain ⟨_, _, _, _, q41⟩ := hR_ 6 16 rfl (Nat.le_of_ble_eq_true rfl) rfl
    replace q41 : e_ 16 = SL A22 l24.length c23 := (Option.some.inj ((congrArg (exG 0) q42).symm.trans q41)).symm
    refine hopE [(16, SL A22 l24.length c23)] ⟨q41, trivial⟩ ?_
    refine p_aS rfl ?_
    refine wp_nil ?_
    exact ⟨_, rfl, S_.keep, rfl⟩
  · intro e_ w_ k_ hf_ hR_
    have S_ : St w_ (fun _ => False) w_ [] [bl b7 [I a1.Who, I a1.From, I a1.To, I a1.Told, I a1.Unit, I a1.Under, I a1.Over] 33, bl b4 [I a0.Trips, I a0.Room, SL A1 a0.Counts.length c2] 24, rd eTallyCount 7 A1 c2 a0.Counts] := S9.asP k_
    obtain ⟨_, _, _, _, ⟨A22, l24, c23⟩, q48, p49, a50⟩ := hR_ 4 15 rfl (Nat.le_of_ble_eq_true rfl) rfl
    replace q48 : e_ 15 = TU [SL A22 l24.length c23, I r18.2] := q48
    have S_ := St.addL' S_ (a50 _ (.head _)) (fun _ _ _ h_ => (List.not_mem_nil h_).elim)
    have S_ := St.addL' S_ (a50 _ (.tail _ (.head _))) (fun _ _ _ h_ => (List.not_mem_nil h_).elim)
    obtain ⟨_, _, _, _, q47⟩ := hR_ 5 10 rfl (Nat.le_of_ble_eq_true rfl) rfl
    replace q47 : e_ 10 = TU [SL A22 l24.length c23, I r18.2] := (Option.some.inj ((congrArg some q48).symm.trans q47)).symm
    obtain ⟨_, _, _, _, q46⟩ := hR_ 7 17 rfl (Nat.le_of_ble_eq_true rfl) rfl
    replace q46 : e_ 17 = I r18.2 := (Option.some.inj ((congrArg (exG 1) q47).symm.trans q46)).symm
    refine hopE [(17, I r18.2)] ⟨q46, trivial⟩ ?_
    refine p_aI rfl ?_
    refine wp_nil ?_
    exact ⟨_, rfl, S_.keep, rfl⟩
  intro e51 w52 lo53 hi54 k55 hf56 hR57 hd58
  have S59 := S9.call k55
  have q60 : e51 11 = AG [I a0.Trips, I a0.Room, SL A1 a0.Counts.length c2] := (hR57 0 11 (Nat.le_of_ble_eq_true rfl) rfl).2.2.2
  have q61 : e51 12 = AG [I a0.Trips, I a0.Room, SL A1 a0.Counts.length c2] := (hR57 1 12 (Nat.le_of_ble_eq_true rfl) rfl).2.2.2
  have q62 : e51 13 = AG [I a1.Who, I a1.From, I a1.To, I a1.Told, I a1.Unit, I a1.Under, I a1.Over] := (hR57 2 13 (Nat.le_of_ble_eq_true rfl) rfl).2.2.2
  have q63 : e51 14 = B r12 := (hR57 3 14 (Nat.le_of_ble_eq_true rfl) rfl).2.2.2
  obtain ⟨h65, h66, h67, ⟨A22, l24, c23⟩, q64, h68, h69⟩ := hR57 4 15 (Nat.le_of_ble_eq_true rfl) rfl
  replace q64 : e51 15 = TU [SL A22 l24.length c23, I r18.2] := q64
  obtain ⟨p70, p71, _⟩ := h68
  have q74 : e51 10 = TU [SL A22 l24.length c23, I r18.2] := (Option.some.inj ((congrArg some q64).symm.trans (hR57 5 10 (Nat.le_of_ble_eq_true rfl) rfl).2.2.2)).symm
  have q75 : e51 16 = SL A22 l24.length c23 := (Option.some.inj ((congrArg (exG 0) q74).symm.trans (hR57 6 16 (Nat.le_of_ble_eq_true rfl) rfl).2.2.2)).symm
  have q76 : e51 17 = I r18.2 := (Option.some.inj ((congrArg (exG 1) q74).symm.trans (hR57 7 17 (Nat.le_of_ble_eq_true rfl) rfl).2.2.2)).symm
  have q77 : e51 6 = SL A22 l24.length c23 := (Option.some.inj ((congrArg some q75).symm.trans (hR57 8 6 (Nat.le_of_ble_eq_true rfl) rfl).2.2.2)).symm
  have q78 : e51 7 = I r18.2 := (hR57 9 7 (Nat.le_of_ble_eq_true rfl) rfl).2.2.2
  refine tailE [(2, P b4 0), (3, P b7 0), (7, I r18.2)] ⟨((hf56 2 rfl).trans (rfl : _ = P b4 0)), ((hf56 3 rfl).trans (rfl : _ = P b7 0)), q78, trivial⟩ ?_
  intro g79
  refine wp_nil ?_
  refine c_seq ?_
  refine reg ?_
  refine p_mI rfl ?_
  refine p_cmp rfl rfl rfl ?_
  refine wp_nil ?_
  refine c_cond rfl (fun c80 => ?_) (fun c80 => ?_)
  · replace H := condT c80 H
    refine c_seq ?_
    refine reg ?_
    refine p_mI rfl ?_
    refine p_aB rfl ?_
    refine p_aI rfl ?_
    refine wp_nil ?_
    obtain rfl := Option.some.inj H
    refine c_ret ?_; show bodyPostM (Fr none) 0 Tryd.prog Tryd.f62 _ .ret _ _
    refine ret_of (res2 rfl (rvT (rfl : _ = B false)) (rvT (rfl : _ = I r18.2))) ?_
    exact ⟨_, rfl, rfl, S59.keep⟩
  · replace H := condF c80 H
    refine c_skip ?_
    refine c_seq ?_
    refine reg ?_
    refine p_ldA ty24 sz24 (S59.atX (i := 1) rfl) rfl rfl ?_
    refine p_ldA ty33 sz33 (S59.atX (i := 0) rfl) rfl rfl ?_
    obtain ⟨r81, h82, H⟩ := bindS H
    refine p_cal (ref_With_ok h82 (S59.atP (i := 0) rfl)) fu87 rfl ?_
    rintro _ w83 ⟨A85, c86, rfl, k84, ⟨o87, n88⟩, _⟩
    have S90 := S59.addNew k84 o87 n88
    obtain ⟨r91, h92, H⟩ := bindS H
    refine p_cal (ref_most_ok h92 (gr_rd eTallyCount_len (S90.atX (i := 0) rfl))) fu81 rfl ?_
    rintro _ w93 ⟨A95, c96, l97, rfl, k94, ⟨o98, n99⟩, ⟨o100, n101⟩, _⟩
    have S102 := S90.callN k94 [rd rowN 1 A95 c96 l97, ri rowI l97 r91.1] (List.forall_mem_cons.2 ⟨⟨o98, New.inL n99⟩, (List.forall_mem_cons.2 ⟨⟨o100, New.inL n101⟩, (fun _ h_ => (List.not_mem_nil h_).elim)⟩)⟩)
    refine p_mT rfl ?_
    refine p_ext rfl rfl ?_
    refine p_ext rfl rfl ?_
    refine p_aS rfl ?_
    refine p_aB rfl ?_
    refine wp_nil ?_
    refine c_seq ?_
    refine reg ?_
    refine p_mB rfl ?_
    refine p_aB rfl ?_
    refine p_aI rfl ?_
    refine wp_nil ?_
    obtain rfl := Option.some.inj H
    refine c_ret ?_; show bodyPostM (Fr none) 0 Tryd.prog Tryd.f62 _ .ret _ _
    refine ret_of (res2 rfl (rvT (rfl : _ = B r91.2)) (rvT (rfl : _ = I 0))) ?_
    exact ⟨_, rfl, rfl, S102.keep⟩

def law_tallyCans (a0 : TallyBook) (a1 : List Int) (a2 : TallyBook) (a3 : List Int) (a4 : TallyCount) : Option Bool :=
  (tally_Can a0 a1).bind fun r24 =>
  (ref_Can a2 a3).bind fun r28 =>
  bif (r24.1 != r28.1) then (some false)
  else (bif (r24.2 != r28.2) then (some false)
  else ((tally_Fits a0 a4).bind fun r34 =>
  (ref_Fits a2 a4).bind fun r38 =>
  bif (r34.1 == r38.1) then (some (r34.2 == r38.2))
  else (some false)))

set_option maxRecDepth 100000 in
theorem law_tallyCans_ok {a0 : TallyBook} {a1 : List Int} {a2 : TallyBook} {a3 : List Int} {a4 : TallyCount} {A1 : Option Addr} {c2 : Nat} {A4 : Option Addr} {c5 : Nat} {A7 : Option Addr} {c8 : Nat} {A10 : Option Addr} {c11 : Nat} {w : World} {r : Bool} (H : law_tallyCans a0 a1 a2 a3 a4 = some r) (h3 : (rd eTallyCount 7 A1 c2 a0.Counts).ok w) (h6 : (rd intE 1 A4 c5 a1).ok w) (h9 : (rd eTallyCount 7 A7 c8 a2.Counts).ok w) (h12 : (rd intE 1 A10 c11 a3).ok w) (hg13 : (bl 0 [Value.func (.func 117) #[] #[], Value.func (.func 119) #[] #[]] 117).ok w) (hg14 : (bl 1 [I (-1), I (-1)] 115).ok w) : Calls Tryd.prog 21 #[AG [I a0.Trips, I a0.Room, SL A1 a0.Counts.length c2], SL A4 a1.length c5, AG [I a2.Trips, I a2.Room, SL A7 a2.Counts.length c8], SL A10 a3.length c11, AG [I a4.Who, I a4.From, I a4.To, I a4.Told, I a4.Unit, I a4.Under, I a4.Over]] w (RetV w (B r)) := by
  unfold law_tallyCans at H
  refine fn_of (n := 55) Tryd.func21 rfl rfl (Nat.le_of_ble_eq_true rfl) ?_
  have S : St w (fun _ => False) w [] [rd eTallyCount 7 A1 c2 a0.Counts, rd intE 1 A4 c5 a1, rd eTallyCount 7 A7 c8 a2.Counts, rd intE 1 A10 c11 a3, bl 0 [Value.func (.func 117) #[] #[], Value.func (.func 119) #[] #[]] 117, bl 1 [I (-1), I (-1)] 115] := St.start w _ _ (List.forall_mem_cons.2 ⟨h3, (List.forall_mem_cons.2 ⟨h6, (List.forall_mem_cons.2 ⟨h9, (List.forall_mem_cons.2 ⟨h12, (List.forall_mem_cons.2 ⟨hg13, (List.forall_mem_cons.2 ⟨hg14, (fun _ h_ => (List.not_mem_nil h_).elim)⟩)⟩)⟩)⟩)⟩)⟩)
  refine c_seq ?_
  refine reg ?_
  refine p_boxA rfl S fun b15 w16 S17 => ?_
  refine p_boxA rfl S17 fun b18 w19 S20 => ?_
  refine p_boxA rfl S20 fun b21 w22 S23 => ?_
  refine p_aB rfl ?_
  refine wp_nil ?_
  refine c_seq ?_
  refine reg ?_
  refine p_ldA ty24 sz24 (S23.atX (i := 2) rfl) rfl rfl ?_
  refine p_mS rfl ?_
  obtain ⟨r24, h25, H⟩ := bindS H
  refine p_cv (tally_Can_ok h25 (S23.atP (i := 0) rfl) (S23.atP (i := 1) rfl) (S23.atP (i := 4) rfl)) fu29 rfl S23 fun w26 S27 => ?_
  refine p_mT rfl ?_
  refine p_ext rfl rfl ?_
  refine p_ext rfl rfl ?_
  refine p_aB rfl ?_
  refine p_aI rfl ?_
  refine wp_nil ?_
  refine c_seq ?_
  refine reg ?_
  refine p_ldA ty24 sz24 (S27.atX (i := 1) rfl) rfl rfl ?_
  refine p_mS rfl ?_
  obtain ⟨r28, h29, H⟩ := bindS H
  refine p_cv (ref_Can_ok h29 (S27.atP (i := 2) rfl) (S27.atP (i := 3) rfl)) fu61 rfl S27 fun w30 S31 => ?_
  refine p_mT rfl ?_
  refine p_ext rfl rfl ?_
  refine p_ext rfl rfl ?_
  refine p_aB rfl ?_
  refine p_aI rfl ?_
  refine wp_nil ?_
  refine c_seq ?_
  refine c_seq ?_
  refine reg ?_
  refine p_mB rfl ?_
  refine p_mB rfl ?_
  refine o_neB rfl rfl ub4 ?_
  refine p_mB rfl ?_
  rcases Bool.eq_false_or_eq_true ((r24.1 != r28.1)) with c32 | c32
  · replace H := condT c32 H
    refine eB c32 ?_
    refine gF rfl rfl ?_
    refine gF rfl rfl ?_
    refine gF rfl rfl ?_
    refine p_pkT rfl (rfl : _ = B true) ?_
    refine wp_nil ?_
    refine c_true rfl ?_
    refine c_seq ?_
    refine reg ?_
    refine p_aB rfl ?_
    refine wp_nil ?_
    obtain rfl := Option.some.inj H
    refine c_ret ?_; show bodyPostM (Fr none) 0 Tryd.prog Tryd.f21 _ .ret _ _
    refine ret_of (res1 rfl (rvT (rfl : _ = B false))) ?_
    exact ⟨_, rfl, rfl, S31.keep⟩
  · replace H := condF c32 H
    refine eB c32 ?_
    refine gT rfl rfl (p_mI rfl ?_)
    refine gT rfl rfl (p_mI rfl ?_)
    refine gT rfl rfl (p_cmp rfl rfl rfl ?_)
    refine p_pkF rfl (rfl : _ = B (r24.2 != r28.2)) ?_
    refine wp_nil ?_
    refine c_cond rfl (fun c33 => ?_) (fun c33 => ?_)
    · replace H := condT c33 H
      refine c_seq ?_
      refine reg ?_
      refine p_aB rfl ?_
      refine wp_nil ?_
      obtain rfl := Option.some.inj H
      refine c_ret ?_; show bodyPostM (Fr none) 0 Tryd.prog Tryd.f21 _ .ret _ _
      refine ret_of (res1 rfl (rvT (rfl : _ = B false))) ?_
      exact ⟨_, rfl, rfl, S31.keep⟩
    · replace H := condF c33 H
      refine c_skip ?_
      refine c_seq ?_
      refine reg ?_
      refine p_ldA ty24 sz24 (S31.atX (i := 2) rfl) rfl rfl ?_
      refine p_ldA ty33 sz33 (S31.atX (i := 0) rfl) rfl rfl ?_
      obtain ⟨r34, h35, H⟩ := bindS H
      refine p_cv (tally_Fits_ok h35 (S31.atP (i := 0) rfl) (S31.atP (i := 4) rfl) (S31.atP (i := 5) rfl)) fu36 rfl S31 fun w36 S37 => ?_
      refine p_mT rfl ?_
      refine p_ext rfl rfl ?_
      refine p_ext rfl rfl ?_
      refine p_aB rfl ?_
      refine p_aI rfl ?_
      refine wp_nil ?_
      refine c_seq ?_
      refine reg ?_
      refine p_ldA ty24 sz24 (S37.atX (i := 1) rfl) rfl rfl ?_
      refine p_ldA ty33 sz33 (S37.atX (i := 0) rfl) rfl rfl ?_
      obtain ⟨r38, h39, H⟩ := bindS H
      refine p_cv (ref_Fits_ok h39 (S37.atP (i := 2) rfl)) fu62 rfl S37 fun w40 S41 => ?_
      refine p_mT rfl ?_
      refine p_ext rfl rfl ?_
      refine p_ext rfl rfl ?_
      refine p_aB rfl ?_
      refine p_aI rfl ?_
      refine wp_nil ?_
      refine c_seq ?_
      refine reg ?_
      refine p_mB rfl ?_
      refine p_mB rfl ?_
      refine o_eqB rfl rfl ub4 ?_
      refine p_mB rfl ?_
      rcases Bool.eq_false_or_eq_true ((r34.1 == r38.1)) with c42 | c42
      · replace H := condT c42 H
        refine eB c42 ?_
        refine gT rfl rfl (p_mI rfl ?_)
        refine gT rfl rfl (p_mI rfl ?_)
        refine gT rfl rfl (p_cmp rfl rfl rfl ?_)
        refine p_pkT rfl (rfl : _ = B (r34.2 == r38.2)) ?_
        refine p_aB rfl ?_
        refine wp_nil ?_
        obtain rfl := Option.some.inj H
        refine c_ret ?_; show bodyPostM (Fr none) 0 Tryd.prog Tryd.f21 _ .ret _ _
        refine ret_of (res1 rfl (rvT (rfl : _ = B (r34.2 == r38.2)))) ?_
        exact ⟨_, rfl, rfl, S41.keep⟩
      · replace H := condF c42 H
        refine eB c42 ?_
        refine gF rfl rfl ?_
        refine gF rfl rfl ?_
        refine gF rfl rfl ?_
        refine p_pkF rfl (rfl : _ = B false) ?_
        refine p_aB rfl ?_
        refine wp_nil ?_
        obtain rfl := Option.some.inj H
        refine c_ret ?_; show bodyPostM (Fr none) 0 Tryd.prog Tryd.f21 _ .ret _ _
        refine ret_of (res1 rfl (rvT (rfl : _ = B false))) ?_
        exact ⟨_, rfl, rfl, S41.keep⟩

end Go.Proofs.YtplpalmabgjibaaDoor

/- What the functions of the program compute, and that they do, printed by a program of mine. -/
import Derived.Test.YtplpalmabgjibaaDoorZWB
set_option linter.unusedVariables false
set_option linter.unusedSimpArgs false
namespace Go.Proofs.YtplpalmabgjibaaDoor
open Go Go.Fx Go.Proofs
set_option maxRecDepth 100000 in
theorem tally_Again_ok {a0 : TallyBook} {A1 : Option Addr} {c2 : Nat} {w : World} {r : Int × Int} (H : tally_Again a0 = some r) (h3 : (rd eTallyCount 7 A1 c2 a0.Counts).ok w) (hg4 : (bl 0 [Value.func (.func 117) #[] #[], Value.func (.func 119) #[] #[]] 117).ok w) (hg5 : (bl 1 [I (-1), I (-1)] 115).ok w) : Calls Tryd.prog 50 #[AG [I a0.Trips, I a0.Room, SL A1 a0.Counts.length c2]] w (RetV w (TU [I r.1, I r.2])) := by
  unfold tally_Again at H
  refine fn_of (n := 85) Tryd.func50 rfl rfl (Nat.le_of_ble_eq_true rfl) ?_
  have S : St w (fun _ => False) w [] [rd eTallyCount 7 A1 c2 a0.Counts, bl 0 [Value.func (.func 117) #[] #[], Value.func (.func 119) #[] #[]] 117, bl 1 [I (-1), I (-1)] 115] := St.start w _ _ (List.forall_mem_cons.2 ⟨h3, (List.forall_mem_cons.2 ⟨hg4, (List.forall_mem_cons.2 ⟨hg5, (fun _ h_ => (List.not_mem_nil h_).elim)⟩)⟩)⟩)
  refine c_seq ?_
  refine reg ?_
  refine p_boxA rfl S fun b6 w7 S8 => ?_
  refine p_aI rfl ?_
  refine p_aI rfl ?_
  refine wp_nil ?_
  refine c_seq ?_
  refine reg ?_
  refine p_ldA ty24 sz24 (S8.atX (i := 0) rfl) rfl rfl ?_
  obtain ⟨r9, h10, H⟩ := bindS H
  refine p_cal (tally_asked_ok h10 (S8.atP (i := 0) rfl) (S8.atP (i := 1) rfl) (S8.atP (i := 2) rfl)) fu74 rfl ?_
  rintro _ w11 ⟨A13, c14, m15, rfl, k12, ⟨o16, n17⟩, ⟨o18, n19⟩, _⟩
  have S20 := S8.callN k12 [rd eTallyCount 7 A13 c14 r9.1.TallyBook.Counts, mpo ekT iE m15 r9.1.more_] (List.forall_mem_cons.2 ⟨⟨o16, Al.inL n17 ((List.forall_mem_cons.2 ⟨(fp_mem (i := 0) rfl), (fun _ h_ => (List.not_mem_nil h_).elim)⟩))⟩, (List.forall_mem_cons.2 ⟨⟨o18, New.inL n19⟩, (fun _ h_ => (List.not_mem_nil h_).elim)⟩)⟩)
  refine p_mT rfl ?_
  refine p_ext rfl rfl ?_
  refine p_ext rfl rfl ?_
  refine p_allA in86 S20 fun b21 w22 S23 => ?_
  refine p_stP (pre := []) (old := [I 0, I 0, SL none 0 0, Value.map none]) (post := []) (vs := [I r9.1.TallyBook.Trips, I r9.1.TallyBook.Room, SL A13 r9.1.TallyBook.Counts.length c14, Value.map m15]) sz86 S23 (i := 0) rfl rfl rfl rfl (rfl : _ = AG [I r9.1.TallyBook.Trips, I r9.1.TallyBook.Room, SL A13 r9.1.TallyBook.Counts.length c14, Value.map m15]) rfl rfl rfl rfl fun w24 S25 => ?_
  refine p_aI rfl ?_
  refine wp_nil ?_
  refine c_seq ?_
  refine c_seq ?_
  refine reg ?_
  refine p_mI rfl ?_
  refine p_cmp rfl rfl rfl ?_
  refine wp_nil ?_
  refine c_cond rfl (fun c26 => ?_) (fun c26 => ?_)
  · replace H := condT c26 H
    refine c_seq ?_
    refine reg ?_
    refine p_mI rfl ?_
    refine p_aI rfl ?_
    refine p_aI rfl ?_
    refine wp_nil ?_
    obtain rfl := Option.some.inj H
    refine c_ret ?_; show bodyPostM (Fr none) 0 Tryd.prog Tryd.f50 _ .ret _ _
    refine ret_of (res2 rfl (rvT (rfl : _ = I 0)) (rvT (rfl : _ = I r9.2))) ?_
    exact ⟨_, rfl, rfl, S25.keep⟩
  · replace H := condF c26 H
    refine c_skip ?_
    refine c_seq ?_
    refine c_seq ?_
    refine reg ?_
    refine p_ldA ty86 sz86 (S25.atX (i := 0) rfl) rfl rfl ?_
    refine p_fld fl24_0 rfl ?_
    refine p_ld ty3 (S25.atX (i := 1) rfl) rfl rfl ?_
    obtain ⟨r27, h28, H⟩ := bindS H
    refine p_cv (tally_book_many_ok h28 (S25.atP (i := 0) rfl) (S25.atP (i := 1) rfl) (S25.atP (i := 4) rfl)) fu76 rfl S25 fun w29 S30 => ?_
    refine p_allA in49 S30 fun b31 w32 S33 => ?_
    refine p_stP (pre := []) (old := [I 0, I 0]) (post := []) (vs := [I r27.Low, I r27.High]) sz49 S33 (i := 0) rfl rfl rfl rfl (rfl : _ = AG [I r27.Low, I r27.High]) rfl rfl rfl rfl fun w34 S35 => ?_
    refine wp_nil ?_
    refine c_seq ?_
    refine reg ?_
    refine p_fld fl49_0 rfl ?_
    refine p_ld ty3 (S35.atX (i := 0) rfl) rfl rfl ?_
    refine p_fld fl49_1 rfl ?_
    refine p_ld ty3 (S35.atX (i := 0) rfl) rfl rfl ?_
    refine p_cmp rfl rfl rfl ?_
    refine wp_nil ?_
    refine c_cond rfl (fun c36 => ?_) (fun c36 => ?_)
    · replace H := condT c36 H
      refine c_seq ?_
      refine reg ?_
      refine p_aI rfl ?_
      refine p_aI rfl ?_
      refine wp_nil ?_
      obtain rfl := Option.some.inj H
      refine c_ret ?_; show bodyPostM (Fr none) 0 Tryd.prog Tryd.f50 _ .ret _ _
      refine ret_of (res2 rfl (rvT (rfl : _ = I 0)) (rvT (rfl : _ = I 4))) ?_
      exact ⟨_, rfl, rfl, S35.keep⟩
    · replace H := condF c36 H
      refine c_skip ?_
      refine c_seq ?_
      refine reg ?_
      refine p_aI rfl ?_
      refine p_aI rfl ?_
      refine wp_nil ?_
      refine c_seq ?_
      refine c_seq ?_
      refine reg ?_
      refine p_fld fl24_0 rfl ?_
      refine p_ld ty3 (S35.atX (i := 2) rfl) rfl rfl ?_
      refine p_mI rfl ?_
      refine wp_nil ?_
      refine c_block ?_
      refine c_lop (α := Int × Int × Int) (β := Unit) (tally_Again_l8 a0 r9) (fun z_1 y_1 => [(1, P b6 0), (4, P b21 0), (7, I z_1.1), (8, I z_1.2.1), (33, I a0.Trips), (34, I z_1.2.2)]) (fun z_1 y_1 w_ => St w (fun _ => False) w_ [bl b31 [I r27.Low, I r27.High] 49, bl b21 [I r9.1.TallyBook.Trips, I r9.1.TallyBook.Room, SL A13 r9.1.TallyBook.Counts.length c14, Value.map m15] 86, bl b6 [I a0.Trips, I a0.Room, SL A1 a0.Counts.length c2] 24] [rd eTallyCount 7 A13 c14 r9.1.TallyBook.Counts, mpo ekT iE m15 r9.1.more_, rd eTallyCount 7 A1 c2 a0.Counts, bl 0 [Value.func (.func 117) #[] #[], Value.func (.func 119) #[] #[]] 117, bl 1 [I (-1), I (-1)] 115]) ((-1), 0, 0) () H ⟨rfl, rfl, rfl, rfl, rfl, rfl, trivial⟩ S35 ?_
      intro m37 z_1 y_1 e38 w39 H S40
      unfold tally_Again_l8 at H
      refine c_seq ?_
      refine reg ?_
      refine p_cmp rfl rfl rfl ?_
      refine wp_nil ?_
      refine c_seq ?_
      refine c_cond rfl (fun c41 => ?_) (fun c41 => ?_)
      · replace H := condT c41 H
        refine c_skip ?_
        refine c_seq ?_
        refine c_block ?_
        refine c_seq ?_
        refine reg ?_
        refine p_mI rfl ?_
        refine p_aI rfl ?_
        refine wp_nil ?_
        refine c_seq ?_
        refine reg ?_
        refine p_ldA ty86 sz86 (S40.atX (i := 1) rfl) rfl rfl ?_
        refine p_mI rfl ?_
        refine p_mI rfl ?_
        refine p_add rfl rfl ?_
        obtain ⟨r42, h43, H⟩ := bindS H
        refine p_cv (tally_book_many_ok h43 (S40.atP (i := 0) rfl) (S40.atP (i := 1) rfl) (S40.atP (i := 4) rfl)) fu76 rfl S40 fun w44 S45 => ?_
        refine p_allA in49 S45 fun b46 w47 S48 => ?_
        refine p_stP (pre := []) (old := [I 0, I 0]) (post := []) (vs := [I r42.Low, I r42.High]) sz49 S48 (i := 0) rfl rfl rfl rfl (rfl : _ = AG [I r42.Low, I r42.High]) rfl rfl rfl rfl fun w49 S50 => ?_
        refine p_aI rfl ?_
        refine wp_nil ?_
        refine c_seq ?_
        refine c_seq ?_
        refine reg ?_
        refine p_fld fl49_1 rfl ?_
        refine p_ld ty3 (S50.atX (i := 0) rfl) rfl rfl ?_
        refine p_fld fl49_0 rfl ?_
        refine p_ld ty3 (S50.atX (i := 0) rfl) rfl rfl ?_
        refine p_sub rfl rfl ?_
        refine p_add rfl rfl ?_
        refine p_mI rfl ?_
        refine wp_nil ?_
        refine c_block ?_
        refine c_lop (α := Int × Int) (β := Unit) (tally_Again_l7 r42 a0 z_1 (loopF (tally_Again_l8 a0 r9) m37)) (fun z_2 y_2 => [(1, P b6 0), (4, P b21 0), (7, I z_1.1), (8, I z_1.2.1), (9, I z_1.2.2), (10, P b46 0), (11, I z_2.1), (33, I a0.Trips), (34, I z_1.2.2), (47, I (wr ((wr (r42.High - r42.Low)) + 1))), (48, I z_2.2)]) (fun z_2 y_2 w_ => St w (fun _ => False) w_ [bl b46 [I r42.Low, I r42.High] 49, bl b31 [I r27.Low, I r27.High] 49, bl b21 [I r9.1.TallyBook.Trips, I r9.1.TallyBook.Room, SL A13 r9.1.TallyBook.Counts.length c14, Value.map m15] 86, bl b6 [I a0.Trips, I a0.Room, SL A1 a0.Counts.length c2] 24] [rd eTallyCount 7 A13 c14 r9.1.TallyBook.Counts, mpo ekT iE m15 r9.1.more_, rd eTallyCount 7 A1 c2 a0.Counts, bl 0 [Value.func (.func 117) #[] #[], Value.func (.func 119) #[] #[]] 117, bl 1 [I (-1), I (-1)] 115]) (0, 0) () H ⟨rfl, rfl, rfl, rfl, rfl, rfl, rfl, rfl, rfl, rfl, rfl, trivial⟩ S50 ?_
        intro m51 z_2 y_2 e52 w53 H S54
        unfold tally_Again_l7 at H
        refine c_seq ?_
        refine reg ?_
        refine p_cmp rfl rfl rfl ?_
        refine wp_nil ?_
        refine c_seq ?_
        refine c_cond rfl (fun c55 => ?_) (fun c55 => ?_)
        · replace H := condT c55 H
          refine c_skip ?_
          refine c_seq ?_
          refine c_block ?_
          refine c_seq ?_
          refine reg ?_
          refine p_mI rfl ?_
          refine p_aI rfl ?_
          refine wp_nil ?_
          refine c_seq ?_
          refine reg ?_
          refine p_mI rfl ?_
          refine p_mI rfl ?_
          refine p_fld fl49_0 rfl ?_
          refine p_ld ty3 (S54.atX (i := 0) rfl) rfl rfl ?_
          refine p_mI rfl ?_
          refine p_add rfl rfl ?_
          refine p_bld (cs := [I 2, I z_1.2.2, I z_1.2.2, I (wr (r42.Low + z_2.2)), I 1, I 0, I 0]) st33 (rfl : _ = [(0, I 2), (1, I z_1.2.2), (2, I z_1.2.2), (3, I (wr (r42.Low + z_2.2))), (4, I 1)]) (by kernel_rfl) ?_
          refine p_allA in33 S54 fun b56 w57 S58 => ?_
          refine p_stP (pre := []) (old := [I 0, I 0, I 0, I 0, I 0, I 0, I 0]) (post := []) (vs := [I 2, I z_1.2.2, I z_1.2.2, I (wr (r42.Low + z_2.2)), I 1, I 0, I 0]) sz33 S58 (i := 0) rfl rfl rfl rfl (rfl : _ = AG [I 2, I z_1.2.2, I z_1.2.2, I (wr (r42.Low + z_2.2)), I 1, I 0, I 0]) rfl rfl rfl rfl fun w59 S60 => ?_
          refine wp_nil ?_
          refine c_seq ?_
          obtain ⟨r63, h64, H⟩ := bindS H
          obtain ⟨r73, h74, H⟩ := bindS H
          obtain ⟨r83, h84, H⟩ := bindS H
          obtain ⟨r98, h99, H⟩ := bindS H
          refine reg_any mixed 9 (by kernel_rfl) [rv (AG [I a0.Trips, I a0.Room, SL A1 a0.Counts.length c2]), rv (AG [I 2, I z_1.2.2, I z_1.2.2, I (wr (r42.Low + z_2.2)), I 1, I 0, I 0]), rx (α := (Option Addr) × Nat) (fun ⟨A67, c68⟩ => AG [I r63.Trips, I r63.Room, SL A67 r63.Counts.length c68]) (fun ⟨A67, c68⟩ lo hi => BtwL lo hi [] (gr eTallyCount 7 33 A67 c68 r63.Counts) ∧ True) (fun ⟨A67, c68⟩ => [gr eTallyCount 7 33 A67 c68 r63.Counts]), rv (AG [Value.func (.func 91) #[] #[]]), rx (α := (Option Addr) × Nat × Nat) (fun ⟨A91, c92, m87⟩ => AG [I r83.TallyBook.Trips, I r83.TallyBook.Room, SL A91 r63.Counts.length c92, Value.map (some m87)]) (fun ⟨A91, c92, m87⟩ lo hi => BtwL lo hi [] (mp ekT iE m87 r83.more_) ∧ True) (fun ⟨A91, c92, m87⟩ => [mp ekT iE m87 r83.more_, gr eTallyCount 7 33 A91 c92 r63.Counts]), rv (P b6 0), rv (I a0.Trips), rv (AG [I r98.Low, I r98.High]), rx (α := Nat) (fun b102 => P b102 0) (fun b102 lo hi => BtwL lo hi [] (bl b102 [I 0, I 0] 49) ∧ True) (fun b102 => [bl b102 [I 0, I 0] 49])] [[], [], [], [], [], [], [], [], []] rfl (by kernel_rfl) [[], [], [0, 1], [0, 1, 2], [0, 1, 2, 3], [], [5], [0, 1, 2, 3, 4, 5, 6], [], [0, 1, 2, 3, 4, 5, 6, 7, 8]] (by kernel_rfl) ⟨?_, ?_, ?_, ?_, ?_, ?_, ?_, ?_, ?_, trivial⟩ ?_
          · intro e_ w_ k_ hf_ hR_
            have S_ : St w_ (fun _ => False) w_ [] [bl b56 [I 2, I z_1.2.2, I z_1.2.2, I (wr (r42.Low + z_2.2)), I 1, I 0, I 0] 33, bl b46 [I r42.Low, I r42.High] 49, bl b31 [I r27.Low, I r27.High] 49, bl b21 [I r9.1.TallyBook.Trips, I r9.1.TallyBook.Room, SL A13 r9.1.TallyBook.Counts.length c14, Value.map m15] 86, bl b6 [I a0.Trips, I a0.Room, SL A1 a0.Counts.length c2] 24, rd eTallyCount 7 A13 c14 r9.1.TallyBook.Counts, mpo ekT iE m15 r9.1.more_, rd eTallyCount 7 A1 c2 a0.Counts, bl 0 [Value.func (.func 117) #[] #[], Value.func (.func 119) #[] #[]] 117, bl 1 [I (-1), I (-1)] 115] := S60.asP k_
            refine hopE [(1, P b6 0)] ⟨((hf_ 1 rfl).trans (rfl : _ = P b6 0)), trivial⟩ ?_
            refine p_ldA ty24 sz24 (S_.atP (i := 4) rfl) rfl rfl ?_
            refine wp_nil ?_
            exact ⟨_, rfl, S_.keep, rfl⟩
          · intro e_ w_ k_ hf_ hR_
            have S_ : St w_ (fun _ => False) w_ [] [bl b56 [I 2, I z_1.2.2, I z_1.2.2, I (wr (r42.Low + z_2.2)), I 1, I 0, I 0] 33, bl b46 [I r42.Low, I r42.High] 49, bl b31 [I r27.Low, I r27.High] 49, bl b21 [I r9.1.TallyBook.Trips, I r9.1.TallyBook.Room, SL A13 r9.1.TallyBook.Counts.length c14, Value.map m15] 86, bl b6 [I a0.Trips, I a0.Room, SL A1 a0.Counts.length c2] 24, rd eTallyCount 7 A13 c14 r9.1.TallyBook.Counts, mpo ekT iE m15 r9.1.more_, rd eTallyCount 7 A1 c2 a0.Counts, bl 0 [Value.func (.func 117) #[] #[], Value.func (.func 119) #[] #[]] 117, bl 1 [I (-1), I (-1)] 115] := S60.asP k_
            refine hopE [(13, P b56 0)] ⟨((hf_ 13 rfl).trans (rfl : _ = P b56 0)), trivial⟩ ?_
            refine p_ldA ty33 sz33 (S_.atP (i := 0) rfl) rfl rfl ?_
            refine wp_nil ?_
            exact ⟨_, rfl, S_.keep, rfl⟩
          · intro e_ w_ k_ hf_ hR_
            have S_ : St w_ (fun _ => False) w_ [] [bl b56 [I 2, I z_1.2.2, I z_1.2.2, I (wr (r42.Low + z_2.2)), I 1, I 0, I 0] 33, bl b46 [I r42.Low, I r42.High] 49, bl b31 [I r27.Low, I r27.High] 49, bl b21 [I r9.1.TallyBook.Trips, I r9.1.TallyBook.Room, SL A13 r9.1.TallyBook.Counts.length c14, Value.map m15] 86, bl b6 [I a0.Trips, I a0.Room, SL A1 a0.Counts.length c2] 24, rd eTallyCount 7 A13 c14 r9.1.TallyBook.Counts, mpo ekT iE m15 r9.1.more_, rd eTallyCount 7 A1 c2 a0.Counts, bl 0 [Value.func (.func 117) #[] #[], Value.func (.func 119) #[] #[]] 117, bl 1 [I (-1), I (-1)] 115] := S60.asP k_
            obtain ⟨_, _, _, _, q61⟩ := hR_ 0 58 rfl (Nat.le_of_ble_eq_true rfl) rfl
            obtain ⟨_, _, _, _, q62⟩ := hR_ 1 59 rfl (Nat.le_of_ble_eq_true rfl) rfl
            refine hopE [(58, AG [I a0.Trips, I a0.Room, SL A1 a0.Counts.length c2]), (59, AG [I 2, I z_1.2.2, I z_1.2.2, I (wr (r42.Low + z_2.2)), I 1, I 0, I 0])] ⟨q61, q62, trivial⟩ ?_
            refine p_cal (tally_with_ok h64 (S_.atP (i := 7) rfl)) fu78 rfl ?_
            rintro _ w65 ⟨A67, c68, rfl, k66, ⟨o69, n70⟩, _⟩
            have S72 := S_.addNew k66 o69 n70
            refine wp_nil ?_
            exact ⟨_, rfl, S72.keep, ⟨(A67, c68), rfl, ⟨BtwL.of (New.al (S72.newX (i := 0) rfl)) rfl (S72.atX (i := 0) rfl) rfl, trivial⟩, (List.forall_mem_cons.2 ⟨(S72.atX (i := 0) rfl), (fun _ h_ => (List.not_mem_nil h_).elim)⟩)⟩⟩
          · intro e_ w_ k_ hf_ hR_
            have S_ : St w_ (fun _ => False) w_ [] [bl b56 [I 2, I z_1.2.2, I z_1.2.2, I (wr (r42.Low + z_2.2)), I 1, I 0, I 0] 33, bl b46 [I r42.Low, I r42.High] 49, bl b31 [I r27.Low, I r27.High] 49, bl b21 [I r9.1.TallyBook.Trips, I r9.1.TallyBook.Room, SL A13 r9.1.TallyBook.Counts.length c14, Value.map m15] 86, bl b6 [I a0.Trips, I a0.Room, SL A1 a0.Counts.length c2] 24, rd eTallyCount 7 A13 c14 r9.1.TallyBook.Counts, mpo ekT iE m15 r9.1.more_, rd eTallyCount 7 A1 c2 a0.Counts, bl 0 [Value.func (.func 117) #[] #[], Value.func (.func 119) #[] #[]] 117, bl 1 [I (-1), I (-1)] 115] := S60.asP k_
            refine hopE [] trivial ?_
            refine p_cv (tally_nobody_ok h74) fu67 rfl S_ fun w75 S76 => ?_
            refine wp_nil ?_
            exact ⟨_, rfl, S76.keep, rfl⟩
          · intro e_ w_ k_ hf_ hR_
            have S_ : St w_ (fun _ => False) w_ [] [bl b56 [I 2, I z_1.2.2, I z_1.2.2, I (wr (r42.Low + z_2.2)), I 1, I 0, I 0] 33, bl b46 [I r42.Low, I r42.High] 49, bl b31 [I r27.Low, I r27.High] 49, bl b21 [I r9.1.TallyBook.Trips, I r9.1.TallyBook.Room, SL A13 r9.1.TallyBook.Counts.length c14, Value.map m15] 86, bl b6 [I a0.Trips, I a0.Room, SL A1 a0.Counts.length c2] 24, rd eTallyCount 7 A13 c14 r9.1.TallyBook.Counts, mpo ekT iE m15 r9.1.more_, rd eTallyCount 7 A1 c2 a0.Counts, bl 0 [Value.func (.func 117) #[] #[], Value.func (.func 119) #[] #[]] 117, bl 1 [I (-1), I (-1)] 115] := S60.asP k_
            obtain ⟨_, _, _, _, ⟨A67, c68⟩, q77, p78, a79⟩ := hR_ 2 60 rfl (Nat.le_of_ble_eq_true rfl) rfl
            replace q77 : e_ 60 = AG [I r63.Trips, I r63.Room, SL A67 r63.Counts.length c68] := q77
            have S_ := St.addL' S_ (a79 _ (.head _)) (fun _ _ _ h_ => (List.not_mem_nil h_).elim)
            obtain ⟨_, _, _, _, q80⟩ := hR_ 3 61 rfl (Nat.le_of_ble_eq_true rfl) rfl
            refine hopE [(60, AG [I r63.Trips, I r63.Room, SL A67 r63.Counts.length c68]), (61, AG [Value.func (.func 91) #[] #[]])] ⟨q77, q80, trivial⟩ ?_
            refine p_cal (tally_opened_ok h84 (gr_rd eTallyCount_len (S_.atP (i := 0) rfl)) (by kernel_rfl) (fun _ _ _ _ k_ hr_ => tally_nobody_1_ok hr_) (S_.atP (i := 9) rfl)) fu66 rfl ?_
            rintro _ w85 ⟨m87, rfl, k86, ⟨o88, n89⟩, _⟩
            have S90 := S_.addNew k86 o88 n89
            refine wp_nil ?_
            exact ⟨_, rfl, S90.keep, ⟨(A67, c68, m87), rfl, ⟨BtwL.of (New.al (S90.newX (i := 0) rfl)) rfl (S90.atX (i := 0) rfl) rfl, trivial⟩, (List.forall_mem_cons.2 ⟨(S90.atX (i := 0) rfl), (List.forall_mem_cons.2 ⟨(S90.atP (i := 0) rfl), (fun _ h_ => (List.not_mem_nil h_).elim)⟩)⟩)⟩⟩
          · intro e_ w_ k_ hf_ hR_
            have S_ : St w_ (fun _ => False) w_ [] [bl b56 [I 2, I z_1.2.2, I z_1.2.2, I (wr (r42.Low + z_2.2)), I 1, I 0, I 0] 33, bl b46 [I r42.Low, I r42.High] 49, bl b31 [I r27.Low, I r27.High] 49, bl b21 [I r9.1.TallyBook.Trips, I r9.1.TallyBook.Room, SL A13 r9.1.TallyBook.Counts.length c14, Value.map m15] 86, bl b6 [I a0.Trips, I a0.Room, SL A1 a0.Counts.length c2] 24, rd eTallyCount 7 A13 c14 r9.1.TallyBook.Counts, mpo ekT iE m15 r9.1.more_, rd eTallyCount 7 A1 c2 a0.Counts, bl 0 [Value.func (.func 117) #[] #[], Value.func (.func 119) #[] #[]] 117, bl 1 [I (-1), I (-1)] 115] := S60.asP k_
            refine hopE [(1, P b6 0)] ⟨((hf_ 1 rfl).trans (rfl : _ = P b6 0)), trivial⟩ ?_
            refine p_fld fl24_0 rfl ?_
            refine wp_nil ?_
            exact ⟨_, rfl, S_.keep, rfl⟩
          · intro e_ w_ k_ hf_ hR_
            have S_ : St w_ (fun _ => False) w_ [] [bl b56 [I 2, I z_1.2.2, I z_1.2.2, I (wr (r42.Low + z_2.2)), I 1, I 0, I 0] 33, bl b46 [I r42.Low, I r42.High] 49, bl b31 [I r27.Low, I r27.High] 49, bl b21 [I r9.1.TallyBook.Trips, I r9.1.TallyBook.Room, SL A13 r9.1.TallyBook.Counts.length c14, Value.map m15] 86, bl b6 [I a0.Trips, I a0.Room, SL A1 a0.Counts.length c2] 24, rd eTallyCount 7 A13 c14 r9.1.TallyBook.Counts, mpo ekT iE m15 r9.1.more_, rd eTallyCount 7 A1 c2 a0.Counts, bl 0 [Value.func (.func 117) #[] #[], Value.func (.func 119) #[] #[]] 117, bl 1 [I (-1), I (-1)] 115] := S60.asP k_
            obtain ⟨_, _, _, _, q93⟩ := hR_ 5 63 rfl (Nat.le_of_ble_eq_true rfl) rfl
            refine hopE [(63, P b6 0)] ⟨q93, trivial⟩ ?_
            refine p_ld ty3 (S_.atP (i := 4) rfl) rfl rfl ?_
            refine wp_nil ?_
            exact ⟨_, rfl, S_.keep, rfl⟩
          · intro e_ w_ k_ hf_ hR_
            have S_ : St w_ (fun _ => False) w_ [] [bl b56 [I 2, I z_1.2.2, I z_1.2.2, I (wr (r42.Low + z_2.2)), I 1, I 0, I 0] 33, bl b46 [I r42.Low, I r42.High] 49, bl b31 [I r27.Low, I r27.High] 49, bl b21 [I r9.1.TallyBook.Trips, I r9.1.TallyBook.Room, SL A13 r9.1.TallyBook.Counts.length c14, Value.map m15] 86, bl b6 [I a0.Trips, I a0.Room, SL A1 a0.Counts.length c2] 24, rd eTallyCount 7 A13 c14 r9.1.TallyBook.Counts, mpo ekT iE m15 r9.1.more_, rd eTallyCount 7 A1 c2 a0.Counts, bl 0 [Value.func (.func 117) #[] #[], Value.func (.func 119) #[] #[]] 117, bl 1 [I (-1), I (-1)] 115] := S60.asP k_
            obtain ⟨_, _, _, _, ⟨A91, c92, m87⟩, q94, p95, a96⟩ := hR_ 4 62 rfl (Nat.le_of_ble_eq_true rfl) rfl
            replace q94 : e_ 62 = AG [I r83.TallyBook.Trips, I r83.TallyBook.Room, SL A91 r63.Counts.length c92, Value.map (some m87)] := q94
            have S_ := St.addL' S_ (a96 _ (.head _)) (fun _ _ _ h_ => (List.not_mem_nil h_).elim)
            have S_ := St.addL' S_ (a96 _ (.tail _ (.head _))) (fun _ _ _ h_ => (List.not_mem_nil h_).elim)
            obtain ⟨_, _, _, _, q97⟩ := hR_ 6 64 rfl (Nat.le_of_ble_eq_true rfl) rfl
            refine hopE [(62, AG [I r83.TallyBook.Trips, I r83.TallyBook.Room, SL A91 r63.Counts.length c92, Value.map (some m87)]), (64, I a0.Trips)] ⟨q94, q97, trivial⟩ ?_
            refine p_cv (tally_book_many_ok h99 (gr_rd eTallyCount_len (S_.atP (i := 0) rfl)) (mpo_some (S_.atP (i := 1) rfl)) (S_.atP (i := 11) rfl)) fu76 rfl S_ fun w100 S101 => ?_
            refine wp_nil ?_
            exact ⟨_, rfl, S101.keep, rfl⟩
          · intro e_ w_ k_ hf_ hR_
            have S_ : St w_ (fun _ => False) w_ [] [bl b56 [I 2, I z_1.2.2, I z_1.2.2, I (wr (r42.Low + z_2.2)), I 1, I 0, I 0] 33, bl b46 [I r42.Low, I r42.High] 49, bl b31 [I r27.Low, I r27.High] 49, bl b21 [I r9.1.TallyBook.Trips, I r9.1.TallyBook.Room, SL A13 r9.1.TallyBook.Counts.length c14, Value.map m15] 86, bl b6 [I a0.Trips, I a0.Room, SL A1 a0.Counts.length c2] 24, rd eTallyCount 7 A13 c14 r9.1.TallyBook.Counts, mpo ekT iE m15 r9.1.more_, rd eTallyCount 7 A1 c2 a0.Counts, bl 0 [Value.func (.func 117) #[] #[], Value.func (.func 119) #[] #[]] 117, bl 1 [I (-1), I (-1)] 115] := S60.asP k_
            refine hopE [] trivial ?_
            refine p_allA in49 S_ fun b102 w103 S104 => ?_
            refine wp_nil ?_
            exact ⟨_, rfl, S104.keep, ⟨b102, rfl, ⟨BtwL.of (New.al (S104.newX (i := 0) rfl)) rfl (S104.atX (i := 0) rfl) rfl, trivial⟩, (List.forall_mem_cons.2 ⟨(S104.atX (i := 0) rfl), (fun _ h_ => (List.not_mem_nil h_).elim)⟩)⟩⟩
          intro e105 w106 lo107 hi108 k109 hf110 hR111 hd112
          have S113 := S60.call k109
          have q114 : e105 58 = AG [I a0.Trips, I a0.Room, SL A1 a0.Counts.length c2] := (hR111 0 58 (Nat.le_of_ble_eq_true rfl) rfl).2.2.2
          have q115 : e105 59 = AG [I 2, I z_1.2.2, I z_1.2.2, I (wr (r42.Low + z_2.2)), I 1, I 0, I 0] := (hR111 1 59 (Nat.le_of_ble_eq_true rfl) rfl).2.2.2
          obtain ⟨h117, h118, h119, ⟨A67, c68⟩, q116, h120, h121⟩ := hR111 2 60 (Nat.le_of_ble_eq_true rfl) rfl
          replace q116 : e105 60 = AG [I r63.Trips, I r63.Room, SL A67 r63.Counts.length c68] := q116
          obtain ⟨p122, _⟩ := h120
          have q124 : e105 61 = AG [Value.func (.func 91) #[] #[]] := (hR111 3 61 (Nat.le_of_ble_eq_true rfl) rfl).2.2.2
          obtain ⟨h126, h127, h128, ⟨A91, c92, m87⟩, q125, h129, h130⟩ := hR111 4 62 (Nat.le_of_ble_eq_true rfl) rfl
          replace q125 : e105 62 = AG [I r83.TallyBook.Trips, I r83.TallyBook.Room, SL A91 r63.Counts.length c92, Value.map (some m87)] := q125
          obtain ⟨p131, _⟩ := h129
          have q133 : e105 63 = P b6 0 := (hR111 5 63 (Nat.le_of_ble_eq_true rfl) rfl).2.2.2
          have q134 : e105 64 = I a0.Trips := (hR111 6 64 (Nat.le_of_ble_eq_true rfl) rfl).2.2.2
          have q135 : e105 65 = AG [I r98.Low, I r98.High] := (hR111 7 65 (Nat.le_of_ble_eq_true rfl) rfl).2.2.2
          obtain ⟨h137, h138, h139, b102, q136, h140, h141⟩ := hR111 8 14 (Nat.le_of_ble_eq_true rfl) rfl
          replace q136 : e105 14 = P b102 0 := q136
          obtain ⟨p142, _⟩ := h140
          have S144 := St.addO S113 (h141 _ (.head _)) (fun b_ h_ => (p142 b_ h_).elim (fun q_ => Nat.le_trans S60.keep.size (Nat.le_trans h137 q_.1)) (fun ⟨_, hq_, _⟩ => (List.not_mem_nil hq_).elim)) (List.forall_mem_cons.2 ⟨(fun b_ h1_ h2_ => (p142 b_ h1_).elim (fun q2_ => by have q1_ := Asr.inb _ _ _ (S60.atX (i := 0) rfl) h2_; omega) (fun ⟨_, hq_, _⟩ => (List.not_mem_nil hq_).elim)), (List.forall_mem_cons.2 ⟨(fun b_ h1_ h2_ => (p142 b_ h1_).elim (fun q2_ => by have q1_ := Asr.inb _ _ _ (S60.atX (i := 1) rfl) h2_; omega) (fun ⟨_, hq_, _⟩ => (List.not_mem_nil hq_).elim)), (List.forall_mem_cons.2 ⟨(fun b_ h1_ h2_ => (p142 b_ h1_).elim (fun q2_ => by have q1_ := Asr.inb _ _ _ (S60.atX (i := 2) rfl) h2_; omega) (fun ⟨_, hq_, _⟩ => (List.not_mem_nil hq_).elim)), (List.forall_mem_cons.2 ⟨(fun b_ h1_ h2_ => (p142 b_ h1_).elim (fun q2_ => by have q1_ := Asr.inb _ _ _ (S60.atX (i := 3) rfl) h2_; omega) (fun ⟨_, hq_, _⟩ => (List.not_mem_nil hq_).elim)), (List.forall_mem_cons.2 ⟨(fun b_ h1_ h2_ => (p142 b_ h1_).elim (fun q2_ => by have q1_ := Asr.inb _ _ _ (S60.atX (i := 4) rfl) h2_; omega) (fun ⟨_, hq_, _⟩ => (List.not_mem_nil hq_).elim)), (fun _ h_ => (List.not_mem_nil h_).elim)⟩)⟩)⟩)⟩)⟩) (List.forall_mem_cons.2 ⟨(fun b_ h1_ h2_ => (p142 b_ h1_).elim (fun q2_ => by have q1_ := Asr.inb _ _ _ (S60.atP (i := 0) rfl) h2_; omega) (fun ⟨_, hq_, _⟩ => (List.not_mem_nil hq_).elim)), (List.forall_mem_cons.2 ⟨(fun b_ h1_ h2_ => (p142 b_ h1_).elim (fun q2_ => by have q1_ := Asr.inb _ _ _ (S60.atP (i := 1) rfl) h2_; omega) (fun ⟨_, hq_, _⟩ => (List.not_mem_nil hq_).elim)), (List.forall_mem_cons.2 ⟨(fun b_ h1_ h2_ => (p142 b_ h1_).elim (fun q2_ => by have q1_ := Asr.inb _ _ _ (S60.atP (i := 2) rfl) h2_; omega) (fun ⟨_, hq_, _⟩ => (List.not_mem_nil hq_).elim)), (List.forall_mem_cons.2 ⟨(fun b_ h1_ h2_ => (p142 b_ h1_).elim (fun q2_ => by have q1_ := Asr.inb _ _ _ (S60.atP (i := 3) rfl) h2_; omega) (fun ⟨_, hq_, _⟩ => (List.not_mem_nil hq_).elim)), (List.forall_mem_cons.2 ⟨(fun b_ h1_ h2_ => (p142 b_ h1_).elim (fun q2_ => by have q1_ := Asr.inb _ _ _ (S60.atP (i := 4) rfl) h2_; omega) (fun ⟨_, hq_, _⟩ => (List.not_mem_nil hq_).elim)), (fun _ h_ => (List.not_mem_nil h_).elim)⟩)⟩)⟩)⟩)⟩)
          refine tailE [(1, P b6 0), (4, P b21 0), (7, I z_1.1), (8, I z_1.2.1), (9, I z_1.2.2), (10, P b46 0), (11, I z_2.1), (14, P b102 0), (33, I a0.Trips), (34, I z_1.2.2), (47, I (wr ((wr (r42.High - r42.Low)) + 1))), (48, I z_2.2), (65, AG [I r98.Low, I r98.High])] ⟨((hf110 1 rfl).trans (rfl : _ = P b6 0)), ((hf110 4 rfl).trans (rfl : _ = P b21 0)), ((hf110 7 rfl).trans (rfl : _ = I z_1.1)), ((hf110 8 rfl).trans (rfl : _ = I z_1.2.1)), ((hf110 9 rfl).trans (rfl : _ = I z_1.2.2)), ((hf110 10 rfl).trans (rfl : _ = P b46 0)), ((hf110 11 rfl).trans (rfl : _ = I z_2.1)), q136, ((hf110 33 rfl).trans (rfl : _ = I a0.Trips)), ((hf110 34 rfl).trans (rfl : _ = I z_1.2.2)), ((hf110 47 rfl).trans (rfl : _ = I (wr ((wr (r42.High - r42.Low)) + 1)))), ((hf110 48 rfl).trans (rfl : _ = I z_2.2)), q135, trivial⟩ ?_
          intro g145
          refine p_stP (pre := []) (old := [I 0, I 0]) (post := []) (vs := [I r98.Low, I r98.High]) sz49 S144 (i := 0) rfl rfl rfl rfl (rfl : _ = AG [I r98.Low, I r98.High]) rfl rfl rfl rfl fun w146 S147 => ?_
          refine wp_nil ?_
          refine reg ?_
          refine p_mI rfl ?_
          refine p_fld fl49_1 rfl ?_
          refine p_ld ty3 (S147.atX (i := 0) rfl) rfl rfl ?_
          refine p_fld fl49_0 rfl ?_
          refine p_ld ty3 (S147.atX (i := 0) rfl) rfl rfl ?_
          refine p_sub rfl rfl ?_
          refine p_max rfl rfl ?_
          refine p_aI rfl ?_
          refine wp_nil ?_
          refine reg ?_
          refine p_add rfl rfl ?_
          refine p_mI rfl ?_
          refine wp_nil ?_
          have S148 := S147.pk [2, 3, 4, 5] (by decide) [0, 1, 2, 3, 4] rfl rfl
          exact ⟨((if (wr (r98.High - r98.Low)) > z_2.1 then (wr (r98.High - r98.Low)) else z_2.1), wr (z_2.2 + 1)), (), _, rfl, ⟨rfl, rfl, rfl, rfl, rfl, rfl, rfl, rfl, rfl, rfl, rfl, trivial⟩, H, S148⟩
        · replace H := condF c55 H
          refine c_exit ?_
          refine c_join (α := Bool) (β := Unit) (fun z_3 y_3 => [(1, P b6 0), (4, P b21 0), (7, I z_1.1), (8, I z_1.2.1), (9, I z_1.2.2), (11, I z_2.1), (33, I a0.Trips), (34, I z_1.2.2), (80, B z_3)]) (fun z_3 y_3 w_ => tally_Again_j6 (loopF (tally_Again_l8 a0 r9) m37) z_1 z_2 z_3 = some r ∧ St w (fun _ => False) w_ [bl b46 [I r42.Low, I r42.High] 49, bl b31 [I r27.Low, I r27.High] 49, bl b21 [I r9.1.TallyBook.Trips, I r9.1.TallyBook.Room, SL A13 r9.1.TallyBook.Counts.length c14, Value.map m15] 86, bl b6 [I a0.Trips, I a0.Room, SL A1 a0.Counts.length c2] 24] [rd eTallyCount 7 A13 c14 r9.1.TallyBook.Counts, mpo ekT iE m15 r9.1.more_, rd eTallyCount 7 A1 c2 a0.Counts, bl 0 [Value.func (.func 117) #[] #[], Value.func (.func 119) #[] #[]] 117, bl 1 [I (-1), I (-1)] 115]) ?_ ?_
          · refine reg ?_
            refine p_mI rfl ?_
            refine p_cmp rfl rfl rfl ?_
            refine p_mB rfl ?_
            rcases Bool.eq_false_or_eq_true (decide (z_1.1 < 0)) with c149 | c149
            · replace H := condT c149 H
              refine eB c149 ?_
              refine gF rfl rfl ?_
              refine gF rfl rfl ?_
              refine gF rfl rfl ?_
              refine p_pkT rfl (rfl : _ = B true) ?_
              refine wp_nil ?_
              exact ⟨true, (), _, rfl, ⟨rfl, rfl, rfl, rfl, rfl, rfl, rfl, rfl, rfl, trivial⟩, H, S54⟩
            · replace H := condF c149 H
              refine eB c149 ?_
              refine gT rfl rfl (p_mI rfl ?_)
              refine gT rfl rfl (p_mI rfl ?_)
              refine gT rfl rfl (p_cmp rfl rfl rfl ?_)
              refine p_pkF rfl (rfl : _ = B (decide (z_2.1 < z_1.2.1))) ?_
              refine wp_nil ?_
              exact ⟨decide (z_2.1 < z_1.2.1), (), _, rfl, ⟨rfl, rfl, rfl, rfl, rfl, rfl, rfl, rfl, rfl, trivial⟩, H, S54⟩
          · intro z_3 y_3 e149 w150 S151; obtain ⟨H, S151⟩ := S151
            unfold tally_Again_j6 at H
            refine c_cond rfl (fun c152 => ?_) (fun c152 => ?_)
            · replace H := condT c152 H
              refine reg ?_
              refine p_mI rfl ?_
              refine p_mI rfl ?_
              refine p_aI rfl ?_
              refine p_aI rfl ?_
              refine wp_nil ?_
              refine reg ?_
              refine p_add rfl rfl ?_
              refine p_mI rfl ?_
              refine wp_nil ?_
              have S153 := S151.pk [1, 2, 3] (by decide) [0, 1, 2, 3, 4] rfl rfl
              exact ⟨(z_1.2.2, z_2.1, wr (z_1.2.2 + 1)), (), _, rfl, ⟨rfl, rfl, rfl, rfl, rfl, rfl, trivial⟩, H, S153⟩
            · replace H := condF c152 H
              refine c_skip ?_
              refine reg ?_
              refine p_add rfl rfl ?_
              refine p_mI rfl ?_
              refine wp_nil ?_
              have S154 := S151.pk [1, 2, 3] (by decide) [0, 1, 2, 3, 4] rfl rfl
              exact ⟨(z_1.1, z_1.2.1, wr (z_1.2.2 + 1)), (), _, rfl, ⟨rfl, rfl, rfl, rfl, rfl, rfl, trivial⟩, H, S154⟩
      · replace H := condF c41 H
        refine c_exit ?_
        refine c_seq ?_
        refine reg ?_
        refine p_mI rfl ?_
        refine p_aI rfl ?_
        refine p_aI rfl ?_
        refine wp_nil ?_
        obtain rfl := Option.some.inj H
        refine c_ret ?_; show bodyPostM (Fr none) 0 Tryd.prog Tryd.f50 _ .ret _ _
        refine ret_of (res2 rfl (rvT (rfl : _ = I z_1.1)) (rvT (rfl : _ = I 0))) ?_
        exact ⟨_, rfl, rfl, S40.keep⟩

def law_own : Option TallyBook :=
  (law_count 0 0 3 1 20 4 4).bind fun r4 =>
  (law_count 1 0 1 9 1 2 0).bind fun r8 =>
  (law_count 2 2 2 6 1 0 1).bind fun r12 =>
  some (TallyBook.mk 4 10 [r4, r8, r12])

set_option maxRecDepth 100000 in
theorem law_own_ok {w : World} {r : TallyBook} (H : law_own = some r) : Calls Tryd.prog 52 #[] w fun en w_ => ∃ u_, en = .returned u_ ∧ ∃ A_1 : Option Addr, ∃ c_2 : Nat, u_ = AG [I r.Trips, I r.Room, SL A_1 r.Counts.length c_2] ∧ Keep0 w w_ ∧ ((gr eTallyCount 7 33 A_1 c_2 r.Counts).ok w_ ∧ New w.heap.size (gr eTallyCount 7 33 A_1 c_2 r.Counts)) ∧ True := by
  unfold law_own at H
  refine fn_of (n := 6) Tryd.func52 rfl rfl (Nat.le_of_ble_eq_true rfl) ?_
  have S : St w (fun _ => False) w [] [] := St.start w _ _ (fun _ h_ => (List.not_mem_nil h_).elim)
  refine c_seq ?_
  refine reg ?_
  refine p_allA in24 S fun b1 w2 S3 => ?_
  refine wp_nil ?_
  refine c_seq ?_
  refine reg ?_
  obtain ⟨r4, h5, H⟩ := bindS H
  refine p_cv (law_count_ok h5) fu37 rfl S3 fun w6 S7 => ?_
  obtain ⟨r8, h9, H⟩ := bindS H
  refine p_cv (law_count_ok h9) fu37 rfl S7 fun w10 S11 => ?_
  obtain ⟨r12, h13, H⟩ := bindS H
  refine p_cv (law_count_ok h13) fu37 rfl S11 fun w14 S15 => ?_
  refine p_bsl (enc := eTallyCount) (l := [r4, r8, r12]) (fun x => AG (eTallyCount x)) (fun _ => rfl) sc22 in33 eTallyCount_len rfl (by decide) (by decide) zr33_3 S15 rfl fun A16 c17 w18 S19 => ?_
  refine p_bld (cs := [I 4, I 10, SL A16 [r4, r8, r12].length c17]) st24 (rfl : _ = [(0, I 4), (1, I 10), (2, SL A16 [r4, r8, r12].length c17)]) (by kernel_rfl) ?_
  refine p_stP (pre := []) (old := [I 0, I 0, SL none 0 0]) (post := []) (vs := [I 4, I 10, SL A16 [r4, r8, r12].length c17]) sz24 S19 (i := 1) rfl rfl rfl rfl (rfl : _ = AG [I 4, I 10, SL A16 [r4, r8, r12].length c17]) rfl rfl rfl rfl fun w21 S22 => ?_
  refine wp_nil ?_
  obtain rfl := Option.some.inj H
  refine c_ret ?_; show bodyPostM (Fr none) 0 Tryd.prog Tryd.f52 _ .ret _ _
  refine ret_of (res1 rfl (rvA rfl ty24 sz24 (S22.atX (i := 1) rfl) rfl)) ?_
  exact ⟨_, rfl, A16, c17, rfl, S22.keep, ⟨S22.atX (i := 0) rfl, S22.newX (i := 0) rfl⟩, trivial⟩

def law_torn : Option TallyBook :=
  (law_own).bind fun r4 =>
  (law_count 2 0 3 26 1 0 0).bind fun r19 =>
  need (fitsL (r4.Counts.length + ([r19] : List TallyCount).length) 56) <|
  some (TallyBook.mk r4.Trips r4.Room (r4.Counts ++ ([r19] : List TallyCount)))

set_option maxRecDepth 100000 in
theorem law_torn_ok {w : World} {r : TallyBook} (H : law_torn = some r) : Calls Tryd.prog 54 #[] w fun en w_ => ∃ u_, en = .returned u_ ∧ ∃ A_1 : Option Addr, ∃ c_2 : Nat, u_ = AG [I r.Trips, I r.Room, SL A_1 r.Counts.length c_2] ∧ Keep0 w w_ ∧ ((gr eTallyCount 7 33 A_1 c_2 r.Counts).ok w_ ∧ New w.heap.size (gr eTallyCount 7 33 A_1 c_2 r.Counts)) ∧ True := by
  unfold law_torn at H
  refine fn_of (n := 10) Tryd.func54 rfl rfl (Nat.le_of_ble_eq_true rfl) ?_
  have S : St w (fun _ => False) w [] [] := St.start w _ _ (fun _ h_ => (List.not_mem_nil h_).elim)
  refine c_seq ?_
  refine reg ?_
  refine p_allA in24 S fun b1 w2 S3 => ?_
  refine wp_nil ?_
  refine c_seq ?_
  refine reg ?_
  obtain ⟨r4, h5, H⟩ := bindS H
  refine p_cal (law_own_ok h5) fu52 rfl ?_
  rintro _ w6 ⟨A8, c9, rfl, k7, ⟨o10, n11⟩, _⟩
  have S13 := S3.addNew k7 o10 n11
  refine p_allA in24 S13 fun b14 w15 S16 => ?_
  refine p_stP (pre := []) (old := [I 0, I 0, SL none 0 0]) (post := []) (vs := [I r4.Trips, I r4.Room, SL A8 r4.Counts.length c9]) sz24 S16 (i := 0) rfl rfl rfl rfl (rfl : _ = AG [I r4.Trips, I r4.Room, SL A8 r4.Counts.length c9]) rfl rfl rfl rfl fun w17 S18 => ?_
  refine wp_nil ?_
  refine c_seq ?_
  obtain ⟨r19, h20, H⟩ := bindS H
  refine reg_c mixed 4 [3] (by kernel_rfl) ?_
  refine kS rfl (fun _ k_ => p_fld fl24_2 rfl dn) ?_
  refine kS rfl (fun _ k_ => p_ld ty22 (Asr.stays (S18.atX (i := 0) rfl) k_) rfl rfl dn) ?_
  refine kS rfl (fun _ k_ => p_cvD (law_count_ok h20) fu37 rfl) ?_
  refine kC rfl ?_
  intro w21 k22; have S23 := S18.call k22
  have S29 := S23.base
  refine p_bsl (enc := eTallyCount) (l := ([r19] : List TallyCount)) (fun x => AG (eTallyCount x)) (fun _ => rfl) sc22 in33 eTallyCount_len rfl (by decide) (by decide) zr33_1 S29 rfl fun A24 c25 w26 S27 => ?_
  refine cN S27.keep fun w30 k31 => ?_
  have S32 := (S23.fromBase S27).call k31
  obtain ⟨h37, H⟩ := needS H
  refine p_app (enc := eTallyCount) sc22 in33 rfl eTallyCount_len eTallyCount_one (by decide) S32 (k := 2) rfl (gr_sl eTallyCount_len (S32.atX (i := 0) rfl)) h37 (by simp) rfl rfl fun A35 c36 w33 S34 => ?_
  refine p_fld fl24_2 rfl ?_
  refine p_stP (pre := [I r4.Trips, I r4.Room]) (old := [SL A8 r4.Counts.length c9]) (post := []) (vs := [SL A35 (r4.Counts ++ ([r19] : List TallyCount)).length c36]) sz22 S34 (i := 1) rfl rfl rfl rfl (rfl : _ = SL A35 (r4.Counts ++ ([r19] : List TallyCount)).length c36) rfl rfl rfl rfl fun w38 S39 => ?_
  refine wp_nil ?_
  refine c_seq ?_
  refine reg ?_
  refine p_ldA ty24 sz24 (S39.atX (i := 1) rfl) rfl rfl ?_
  refine p_stP (pre := []) (old := [I 0, I 0, SL none 0 0]) (post := []) (vs := [I r4.Trips, I r4.Room, SL A35 (r4.Counts ++ ([r19] : List TallyCount)).length c36]) sz24 S39 (i := 3) rfl rfl rfl rfl (rfl : _ = AG [I r4.Trips, I r4.Room, SL A35 (r4.Counts ++ ([r19] : List TallyCount)).length c36]) rfl rfl rfl rfl fun w40 S41 => ?_
  refine wp_nil ?_
  obtain rfl := Option.some.inj H
  refine c_ret ?_; show bodyPostM (Fr none) 0 Tryd.prog Tryd.f54 _ .ret _ _
  refine ret_of (res1 rfl (rvA rfl ty24 sz24 (S41.atX (i := 3) rfl) rfl)) ?_
  exact ⟨_, rfl, A35, c36, rfl, S41.keep, ⟨S41.atX (i := 2) rfl, S41.newX (i := 2) rfl⟩, trivial⟩

def law_counted : Option Bool :=
  (law_own).bind fun r3 =>
  (tally_Many r3 0 3).bind fun r13 =>
  (law_own).bind fun r22 =>
  (tally_Many r22 3 3).bind fun r32 =>
  (law_own).bind fun r41 =>
  (tally_Can r41 [5, 5, 6, 3]).bind fun r56 =>
  (law_own).bind fun r60 =>
  (tally_Pays r60 2).bind fun r70 =>
  (law_torn).bind fun r79 =>
  (tally_Wrong r79).bind fun r90 =>
  bif (r13.2 != 0) then (some false)
  else (bif (r32.2 != 0) then (some false)
  else (bif (r56.2 != 0) then (some false)
  else (bif (r70.2 != 0) then (some false)
  else (bif (r90.2 != 0) then (some false)
  else ((B_Range 16 24).bind fun r179 =>
  bif !((r13.1.Low == r179.Low) && (r13.1.High == r179.High)) then (some false)
  else ((B_Range 0 10).bind fun r197 =>
  bif !((r32.1.Low == r197.Low) && (r32.1.High == r197.High)) then (some false)
  else (bif !r56.1 then (some false)
  else ((B_Range 32 48).bind fun r231 =>
  bif !((r70.1.Low == r231.Low) && (r70.1.High == r231.High)) then (some false)
  else ((B_Alike r90.1 ([0] : List Int)).bind fun r261 =>
  bif !r261 then (some false)
  else ((law_torn).bind fun r275 =>
  (tally_Whose r275).bind fun r285 =>
  (law_own).bind fun r294 =>
  (tally_Again r294).bind fun r304 =>
  (law_own).bind fun r308 =>
  (law_count 2 3 3 10 1 0 0).bind fun r318 =>
  (tally_Fits r308 r318).bind fun r322 =>
  (law_torn).bind fun r326 =>
  (tally_Right r326).bind fun r336 =>
  bif (r285.2 == 0) then (bif (r304.2 == 0) then (bif (r322.2 == 0) then (bif (r336.2 == 0) then ((B_Alike r285.1 [0, 2]).bind fun r349 =>
  bif r349 then (bif (r304.1 == 3) then (bif r322.1 then (some (!r336.1))
  else (some false))
  else (some false))
  else (some false))
  else (some false))
  else (some false))
  else (some false))
  else (some false)))))))))))

set_option maxRecDepth 100000 in
theorem law_counted_ok {w : World} {r : Bool} (H : law_counted = some r) (hg1 : (bl 0 [Value.func (.func 117) #[] #[], Value.func (.func 119) #[] #[]] 117).ok w) (hg2 : (bl 1 [I (-1), I (-1)] 115).ok w) : Calls Tryd.prog 19 #[] w (RetV w (B r)) := by
  unfold law_counted at H
  refine fn_of (n := 135) Tryd.func19 rfl rfl (Nat.le_of_ble_eq_true rfl) ?_
  have S : St w (fun _ => False) w [] [bl 0 [Value.func (.func 117) #[] #[], Value.func (.func 119) #[] #[]] 117, bl 1 [I (-1), I (-1)] 115] := St.start w _ _ (List.forall_mem_cons.2 ⟨hg1, (List.forall_mem_cons.2 ⟨hg2, (fun _ h_ => (List.not_mem_nil h_).elim)⟩)⟩)
  refine c_seq ?_
  refine reg ?_
  refine p_aB rfl ?_
  refine wp_nil ?_
  refine c_seq ?_
  refine reg ?_
  obtain ⟨r3, h4, H⟩ := bindS H
  refine p_cal (law_own_ok h4) fu52 rfl ?_
  rintro _ w5 ⟨A7, c8, rfl, k6, ⟨o9, n10⟩, _⟩
  have S12 := S.addNew k6 o9 n10
  obtain ⟨r13, h14, H⟩ := bindS H
  refine p_cv (tally_Many_ok h14 (gr_rd eTallyCount_len (S12.atX (i := 0) rfl)) (S12.atP (i := 0) rfl) (S12.atP (i := 1) rfl)) fu32 rfl S12 fun w15 S16 => ?_
  refine p_mT rfl ?_
  refine p_ext rfl rfl ?_
  refine p_ext rfl rfl ?_
  refine p_allA in49 S16 fun b17 w18 S19 => ?_
  refine p_stP (pre := []) (old := [I 0, I 0]) (post := []) (vs := [I r13.1.Low, I r13.1.High]) sz49 S19 (i := 0) rfl rfl rfl rfl (rfl : _ = AG [I r13.1.Low, I r13.1.High]) rfl rfl rfl rfl fun w20 S21 => ?_
  refine p_aI rfl ?_
  refine wp_nil ?_
  refine c_seq ?_
  refine reg ?_
  obtain ⟨r22, h23, H⟩ := bindS H
  refine p_cal (law_own_ok h23) fu52 rfl ?_
  rintro _ w24 ⟨A26, c27, rfl, k25, ⟨o28, n29⟩, _⟩
  have S31 := S21.addNew k25 o28 n29
  obtain ⟨r32, h33, H⟩ := bindS H
  refine p_cv (tally_Many_ok h33 (gr_rd eTallyCount_len (S31.atX (i := 0) rfl)) (S31.atP (i := 0) rfl) (S31.atP (i := 1) rfl)) fu32 rfl S31 fun w34 S35 => ?_
  refine p_mT rfl ?_
  refine p_ext rfl rfl ?_
  refine p_ext rfl rfl ?_
  refine p_allA in49 S35 fun b36 w37 S38 => ?_
  refine p_stP (pre := []) (old := [I 0, I 0]) (post := []) (vs := [I r32.1.Low, I r32.1.High]) sz49 S38 (i := 0) rfl rfl rfl rfl (rfl : _ = AG [I r32.1.Low, I r32.1.High]) rfl rfl rfl rfl fun w39 S40 => ?_
  refine p_aI rfl ?_
  refine wp_nil ?_
  refine c_seq ?_
  refine reg ?_
  obtain ⟨r41, h42, H⟩ := bindS H
  refine p_cal (law_own_ok h42) fu52 rfl ?_
  rintro _ w43 ⟨A45, c46, rfl, k44, ⟨o47, n48⟩, _⟩
  have S50 := S40.addNew k44 o47 n48
  refine p_bsl (enc := intE) (l := [5, 5, 6, 3]) I (fun _ => rfl) sc31 in3 intE_len rfl (by decide) (by decide) zr3_4 S50 rfl fun A51 c52 w53 S54 => ?_
  obtain ⟨r56, h57, H⟩ := bindS H
  refine p_cv (tally_Can_ok h57 (gr_rd eTallyCount_len (S54.atX (i := 1) rfl)) (gr_rd intE_len (S54.atX (i := 0) rfl)) (S54.atP (i := 0) rfl)) fu29 rfl S54 fun w58 S59 => ?_
  refine p_mT rfl ?_
  refine p_ext rfl rfl ?_
  refine p_ext rfl rfl ?_
  refine p_aB rfl ?_
  refine p_aI rfl ?_
  refine wp_nil ?_
  refine c_seq ?_
  refine reg ?_
  obtain ⟨r60, h61, H⟩ := bindS H
  refine p_cal (law_own_ok h61) fu52 rfl ?_
  rintro _ w62 ⟨A64, c65, rfl, k63, ⟨o66, n67⟩, _⟩
  have S69 := S59.addNew k63 o66 n67
  obtain ⟨r70, h71, H⟩ := bindS H
  refine p_cv (tally_Pays_ok h71 (gr_rd eTallyCount_len (S69.atX (i := 0) rfl)) (S69.atP (i := 0) rfl) (S69.atP (i := 1) rfl)) fu33 rfl S69 fun w72 S73 => ?_
  refine p_mT rfl ?_
  refine p_ext rfl rfl ?_
  refine p_ext rfl rfl ?_
  refine p_allA in49 S73 fun b74 w75 S76 => ?_
  refine p_stP (pre := []) (old := [I 0, I 0]) (post := []) (vs := [I r70.1.Low, I r70.1.High]) sz49 S76 (i := 0) rfl rfl rfl rfl (rfl : _ = AG [I r70.1.Low, I r70.1.High]) rfl rfl rfl rfl fun w77 S78 => ?_
  refine p_aI rfl ?_
  refine wp_nil ?_
  refine c_seq ?_
  refine reg ?_
  obtain ⟨r79, h80, H⟩ := bindS H
  refine p_cal (law_torn_ok h80) fu54 rfl ?_
  rintro _ w81 ⟨A83, c84, rfl, k82, ⟨o85, n86⟩, _⟩
  have S88 := S78.addNew k82 o85 n86
  have S89 := S88.fixRd eTallyCount_len (i := 0) rfl
  obtain ⟨r90, h91, H⟩ := bindS H
  refine p_cal (tally_Wrong_ok h91 (S89.atP (i := 0) rfl) (S89.atP (i := 1) rfl) (S89.atP (i := 2) rfl)) fu30 rfl ?_
  rintro _ w92 ⟨A94, c95, rfl, k93, ⟨o96, n97⟩, _⟩
  have S98 := S89.callN k93 [rd intE 1 A94 c95 r90.1] (List.forall_mem_cons.2 ⟨⟨o96, Al.inL n97 ((List.forall_mem_cons.2 ⟨(fp_mem (i := 0) rfl), (fun _ h_ => (List.not_mem_nil h_).elim)⟩))⟩, (fun _ h_ => (List.not_mem_nil h_).elim)⟩)
  refine p_mT rfl ?_
  refine p_ext rfl rfl ?_
  refine p_ext rfl rfl ?_
  refine p_aS rfl ?_
  refine p_aI rfl ?_
  refine wp_nil ?_
  refine c_seq ?_
  refine c_seq ?_
  rcases Bool.eq_false_or_eq_true ((r13.2 != 0)) with c99 | c99
  · replace H := condT c99 H
    refine reg_c mixed 43 [39, 40, 41, 42] (by kernel_rfl) ?_
    refine kS rfl (fun _ k_ => p_mI rfl dn) ?_
    refine kS rfl (fun _ k_ => p_cmp rfl rfl rfl dn) ?_
    refine kS rfl (fun _ k_ => p_mB rfl dn) ?_
    refine kB c99 ?_
    refine kS rfl (fun _ k_ => gF rfl rfl dnU) ?_
    refine kS rfl (fun _ k_ => gF rfl rfl dnU) ?_
    refine kS rfl (fun _ k_ => p_pkT rfl (rfl : _ = B true) dn) ?_
    refine kS rfl (fun _ k_ => p_mB rfl dn) ?_
    refine kS rfl (fun _ k_ => gF rfl rfl dnU) ?_
    refine kS rfl (fun _ k_ => gF rfl rfl dnU) ?_
    refine kS rfl (fun _ k_ => p_pkT rfl (rfl : _ = B true) dn) ?_
    refine kS rfl (fun _ k_ => p_mB rfl dn) ?_
    refine kS rfl (fun _ k_ => gF rfl rfl dnU) ?_
    refine kS rfl (fun _ k_ => gF rfl rfl dnU) ?_
    refine kS rfl (fun _ k_ => p_pkT rfl (rfl : _ = B true) dn) ?_
    refine kS rfl (fun _ k_ => p_mB rfl dn) ?_
    refine kS rfl (fun _ k_ => gF rfl rfl dnU) ?_
    refine kS rfl (fun _ k_ => gF rfl rfl dnU) ?_
    refine kS rfl (fun _ k_ => p_pkT rfl (rfl : _ = B true) dn) ?_
    refine kS rfl (fun _ k_ => p_mB rfl dn) ?_
    refine kS rfl (fun _ k_ => gF rfl rfl dnU) ?_
    refine kS rfl (fun _ k_ => gF rfl rfl dnU) ?_
    refine kS rfl (fun _ k_ => gF rfl rfl dnU) ?_
    refine kS rfl (fun _ k_ => p_pkT rfl (rfl : _ = B true) dn) ?_
    refine kS rfl (fun _ k_ => p_mB rfl dn) ?_
    refine kS rfl (fun _ k_ => gF rfl rfl dnU) ?_
    refine kS rfl (fun _ k_ => gF rfl rfl dnU) ?_
    refine kS rfl (fun _ k_ => gF rfl rfl dnU) ?_
    refine kS rfl (fun _ k_ => p_pkT rfl (rfl : _ = B true) dn) ?_
    refine kS rfl (fun _ k_ => p_mB rfl dn) ?_
    refine kS rfl (fun _ k_ => gF rfl rfl dnU) ?_
    refine kS rfl (fun _ k_ => gF rfl rfl dnU) ?_
    refine kS rfl (fun _ k_ => p_pkT rfl (rfl : _ = B true) dn) ?_
    refine kS rfl (fun _ k_ => p_mB rfl dn) ?_
    refine kS rfl (fun _ k_ => gF rfl rfl dnU) ?_
    refine kS rfl (fun _ k_ => gF rfl rfl dnU) ?_
    refine kS rfl (fun _ k_ => gF rfl rfl dnU) ?_
    refine kS rfl (fun _ k_ => p_pkT rfl (rfl : _ = B true) dn) ?_
    refine kS rfl (fun _ k_ => p_mB rfl dn) ?_
    refine kS rfl (fun _ k_ => gF rfl rfl dnU) ?_
    refine kC rfl ?_
    refine kC rfl ?_
    refine kC rfl ?_
    refine kC rfl ?_
    intro w100 k101; have S102 := S98.call k101
    refine gF rfl rfl (cN (Keep.refl _ _) fun w103 k104 => ?_)
    have S105 := S102.call k104
    refine gF rfl rfl (cN (Keep.refl _ _) fun w106 k107 => ?_)
    have S108 := S105.call k107
    refine gF rfl rfl (cN (Keep.refl _ _) fun w109 k110 => ?_)
    have S111 := S108.call k110
    refine p_pkT rfl (rfl : _ = B true) (cN (Keep.refl _ _) fun w112 k113 => ?_)
    have S114 := S111.call k113
    refine wp_nil ?_
    refine c_true rfl ?_
    refine c_seq ?_
    refine reg ?_
    refine p_aB rfl ?_
    refine wp_nil ?_
    obtain rfl := Option.some.inj H
    refine c_ret ?_; show bodyPostM (Fr none) 0 Tryd.prog Tryd.f19 _ .ret _ _
    refine ret_of (res1 rfl (rvT (rfl : _ = B false))) ?_
    exact ⟨_, rfl, rfl, S114.keep⟩
  · replace H := condF c99 H
    rcases Bool.eq_false_or_eq_true ((r32.2 != 0)) with c115 | c115
    · replace H := condT c115 H
      refine reg_c mixed 43 [39, 40, 41, 42] (by kernel_rfl) ?_
      refine kS rfl (fun _ k_ => p_mI rfl dn) ?_
      refine kS rfl (fun _ k_ => p_cmp rfl rfl rfl dn) ?_
      refine kS rfl (fun _ k_ => p_mB rfl dn) ?_
      refine kB c99 ?_
      refine kS rfl (fun _ k_ => gT rfl rfl (p_mI rfl dn)) ?_
      refine kS rfl (fun _ k_ => gT rfl rfl (p_cmp rfl rfl rfl dn)) ?_
      refine kS rfl (fun _ k_ => p_pkF rfl (rfl : _ = B (r32.2 != 0)) dn) ?_
      refine kS rfl (fun _ k_ => p_mB rfl dn) ?_
      refine kB c115 ?_
      refine kS rfl (fun _ k_ => gF rfl rfl dnU) ?_
      refine kS rfl (fun _ k_ => gF rfl rfl dnU) ?_
      refine kS rfl (fun _ k_ => p_pkT rfl (rfl : _ = B true) dn) ?_
      refine kS rfl (fun _ k_ => p_mB rfl dn) ?_
      refine kS rfl (fun _ k_ => gF rfl rfl dnU) ?_
      refine kS rfl (fun _ k_ => gF rfl rfl dnU) ?_
      refine kS rfl (fun _ k_ => p_pkT rfl (rfl : _ = B true) dn) ?_
      refine kS rfl (fun _ k_ => p_mB rfl dn) ?_
      refine kS rfl (fun _ k_ => gF rfl rfl dnU) ?_
      refine kS rfl (fun _ k_ => gF rfl rfl dnU) ?_
      refine kS rfl (fun _ k_ => p_pkT rfl (rfl : _ = B true) dn) ?_
      refine kS rfl (fun _ k_ => p_mB rfl dn) ?_
      refine kS rfl (fun _ k_ => gF rfl rfl dnU) ?_
      refine kS rfl (fun _ k_ => gF rfl rfl dnU) ?_
      refine kS rfl (fun _ k_ => gF rfl rfl dnU) ?_
      refine kS rfl (fun _ k_ => p_pkT rfl (rfl : _ = B true) dn) ?_
      refine kS rfl (fun _ k_ => p_mB rfl dn) ?_
      refine kS rfl (fun _ k_ => gF rfl rfl dnU) ?_
      refine kS rfl (fun _ k_ => gF rfl rfl dnU) ?_
      refine kS rfl (fun _ k_ => gF rfl rfl dnU) ?_
      refine kS rfl (fun _ k_ => p_pkT rfl (rfl : _ = B true) dn) ?_
      refine kS rfl (fun _ k_ => p_mB rfl dn) ?_
      refine kS rfl (fun _ k_ => gF rfl rfl dnU) ?_
      refine kS rfl (fun _ k_ => gF rfl rfl dnU) ?_
      refine kS rfl (fun _ k_ => p_pkT rfl (rfl : _ = B true) dn) ?_
      refine kS rfl (fun _ k_ => p_mB rfl dn) ?_
      refine kS rfl (fun _ k_ => gF rfl rfl dnU) ?_
      refine kS rfl (fun _ k_ => gF rfl rfl dnU) ?_
      refine kS rfl (fun _ k_ => gF rfl rfl dnU) ?_
      refine kS rfl (fun _ k_ => p_pkT rfl (rfl : _ = B true) dn) ?_
      refine kS rfl (fun _ k_ => p_mB rfl dn) ?_
      refine kS rfl (fun _ k_ => gF rfl rfl dnU) ?_
      refine kC rfl ?_
      refine kC rfl ?_
      refine kC rfl ?_
      refine kC rfl ?_
      intro w116 k117; have S118 := S98.call k117
      refine gF rfl rfl (cN (Keep.refl _ _) fun w119 k120 => ?_)
      have S121 := S118.call k120
      refine gF rfl rfl (cN (Keep.refl _ _) fun w122 k123 => ?_)
      have S124 := S121.call k123
      refine gF rfl rfl (cN (Keep.refl _ _) fun w125 k126 => ?_)
      have S127 := S124.call k126
      refine p_pkT rfl (rfl : _ = B true) (cN (Keep.refl _ _) fun w128 k129 => ?_)
      have S130 := S127.call k129
      refine wp_nil ?_
      refine c_true rfl ?_
      refine c_seq ?_
      refine reg ?_
      refine p_aB rfl ?_
      refine wp_nil ?_
      obtain rfl := Option.some.inj H
      refine c_ret ?_; show bodyPostM (Fr none) 0 Tryd.prog Tryd.f19 _ .ret _ _
      refine ret_of (res1 rfl (rvT (rfl : _ = B false))) ?_
      exact ⟨_, rfl, rfl, S130.keep⟩
    · replace H := condF c115 H
      rcases Bool.eq_false_or_eq_true ((r56.2 != 0)) with c131 | c131
      · replace H := condT c131 H
        refine reg_c mixed 43 [39, 40, 41, 42] (by kernel_rfl) ?_
        refine kS rfl (fun _ k_ => p_mI rfl dn) ?_
        refine kS rfl (fun _ k_ => p_cmp rfl rfl rfl dn) ?_
        refine kS rfl (fun _ k_ => p_mB rfl dn) ?_
        refine kB c99 ?_
        refine kS rfl (fun _ k_ => gT rfl rfl (p_mI rfl dn)) ?_
        refine kS rfl (fun _ k_ => gT rfl rfl (p_cmp rfl rfl rfl dn)) ?_
        refine kS rfl (fun _ k_ => p_pkF rfl (rfl : _ = B (r32.2 != 0)) dn) ?_
        refine kS rfl (fun _ k_ => p_mB rfl dn) ?_
        refine kB c115 ?_
        refine kS rfl (fun _ k_ => gT rfl rfl (p_mI rfl dn)) ?_
        refine kS rfl (fun _ k_ => gT rfl rfl (p_cmp rfl rfl rfl dn)) ?_
        refine kS rfl (fun _ k_ => p_pkF rfl (rfl : _ = B (r56.2 != 0)) dn) ?_
        refine kS rfl (fun _ k_ => p_mB rfl dn) ?_
        refine kB c131 ?_
        refine kS rfl (fun _ k_ => gF rfl rfl dnU) ?_
        refine kS rfl (fun _ k_ => gF rfl rfl dnU) ?_
        refine kS rfl (fun _ k_ => p_pkT rfl (rfl : _ = B true) dn) ?_
        refine kS rfl (fun _ k_ => p_mB rfl dn) ?_
        refine kS rfl (fun _ k_ => gF rfl rfl dnU) ?_
        refine kS rfl (fun _ k_ => gF rfl rfl dnU) ?_
        refine kS rfl (fun _ k_ => p_pkT rfl (rfl : _ = B true) dn) ?_
        refine kS rfl (fun _ k_ => p_mB rfl dn) ?_
        refine kS rfl (fun _ k_ => gF rfl rfl dnU) ?_
        refine kS rfl (fun _ k_ => gF rfl rfl dnU) ?_
        refine kS rfl (fun _ k_ => gF rfl rfl dnU) ?_
        refine kS rfl (fun _ k_ => p_pkT rfl (rfl : _ = B true) dn) ?_
        refine kS rfl (fun _ k_ => p_mB rfl dn) ?_
        refine kS rfl (fun _ k_ => gF rfl rfl dnU) ?_
        refine kS rfl (fun _ k_ => gF rfl rfl dnU) ?_
        refine kS rfl (fun _ k_ => gF rfl rfl dnU) ?_
        refine kS rfl (fun _ k_ => p_pkT rfl (rfl : _ = B true) dn) ?_
        refine kS rfl (fun _ k_ => p_mB rfl dn) ?_
        refine kS rfl (fun _ k_ => gF rfl rfl dnU) ?_
        refine kS rfl (fun _ k_ => gF rfl rfl dnU) ?_
        refine kS rfl (fun _ k_ => p_pkT rfl (rfl : _ = B true) dn) ?_
        refine kS rfl (fun _ k_ => p_mB rfl dn) ?_
        refine kS rfl (fun _ k_ => gF rfl rfl dnU) ?_
        refine kS rfl (fun _ k_ => gF rfl rfl dnU) ?_
        refine kS rfl (fun _ k_ => gF rfl rfl dnU) ?_
        refine kS rfl (fun _ k_ => p_pkT rfl (rfl : _ = B true) dn) ?_
        refine kS rfl (fun _ k_ => p_mB rfl dn) ?_
        refine kS rfl (fun _ k_ => gF rfl rfl dnU) ?_
        refine kC rfl ?_
        refine kC rfl ?_
        refine kC rfl ?_
        refine kC rfl ?_
        intro w132 k133; have S134 := S98.call k133
        refine gF rfl rfl (cN (Keep.refl _ _) fun w135 k136 => ?_)
        have S137 := S134.call k136
        refine gF rfl rfl (cN (Keep.refl _ _) fun w138 k139 => ?_)
        have S140 := S137.call k139
        refine gF rfl rfl (cN (Keep.refl _ _) fun w141 k142 => ?_)
        have S143 := S140.call k142
        refine p_pkT rfl (rfl : _ = B true) (cN (Keep.refl _ _) fun w144 k145 => ?_)
        have S146 := S143.call k145
        refine wp_nil ?_
        refine c_true rfl ?_
        refine c_seq ?_
        refine reg ?_
        refine p_aB rfl ?_
        refine wp_nil ?_
        obtain rfl := Option.some.inj H
        refine c_ret ?_; show bodyPostM (Fr none) 0 Tryd.prog Tryd.f19 _ .ret _ _
        refine ret_of (res1 rfl (rvT (rfl : _ = B false))) ?_
        exact ⟨_, rfl, rfl, S146.keep⟩
      · replace H := condF c131 H
        rcases Bool.eq_false_or_eq_true ((r70.2 != 0)) with c147 | c147
        · replace H := condT c147 H
          refine reg_c mixed 43 [39, 40, 41, 42] (by kernel_rfl) ?_
          refine kS rfl (fun _ k_ => p_mI rfl dn) ?_
          refine kS rfl (fun _ k_ => p_cmp rfl rfl rfl dn) ?_
          refine kS rfl (fun _ k_ => p_mB rfl dn) ?_
          refine kB c99 ?_
          refine kS rfl (fun _ k_ => gT rfl rfl (p_mI rfl dn)) ?_
          refine kS rfl (fun _ k_ => gT rfl rfl (p_cmp rfl rfl rfl dn)) ?_
          refine kS rfl (fun _ k_ => p_pkF rfl (rfl : _ = B (r32.2 != 0)) dn) ?_
          refine kS rfl (fun _ k_ => p_mB rfl dn) ?_
          refine kB c115 ?_
          refine kS rfl (fun _ k_ => gT rfl rfl (p_mI rfl dn)) ?_
          refine kS rfl (fun _ k_ => gT rfl rfl (p_cmp rfl rfl rfl dn)) ?_
          refine kS rfl (fun _ k_ => p_pkF rfl (rfl : _ = B (r56.2 != 0)) dn) ?_
          refine kS rfl (fun _ k_ => p_mB rfl dn) ?_
          refine kB c131 ?_
          refine kS rfl (fun _ k_ => gT rfl rfl (p_mI rfl dn)) ?_
          refine kS rfl (fun _ k_ => gT rfl rfl (p_cmp rfl rfl rfl dn)) ?_
          refine kS rfl (fun _ k_ => p_pkF rfl (rfl : _ = B (r70.2 != 0)) dn) ?_
          refine kS rfl (fun _ k_ => p_mB rfl dn) ?_
          refine kB c147 ?_
          refine kS rfl (fun _ k_ => gF rfl rfl dnU) ?_
          refine kS rfl (fun _ k_ => gF rfl rfl dnU) ?_
          refine kS rfl (fun _ k_ => p_pkT rfl (rfl : _ = B true) dn) ?_
          refine kS rfl (fun _ k_ => p_mB rfl dn) ?_
          refine kS rfl (fun _ k_ => gF rfl rfl dnU) ?_
          refine kS rfl (fun _ k_ => gF rfl rfl dnU) ?_
          refine kS rfl (fun _ k_ => gF rfl rfl dnU) ?_
          refine kS rfl (fun _ k_ => p_pkT rfl (rfl : _ = B true) dn) ?_
          refine kS rfl (fun _ k_ => p_mB rfl dn) ?_
          refine kS rfl (fun _ k_ => gF rfl rfl dnU) ?_
          refine kS rfl (fun _ k_ => gF rfl rfl dnU) ?_
          refine kS rfl (fun _ k_ => gF rfl rfl dnU) ?_
          refine kS rfl (fun _ k_ => p_pkT rfl (rfl : _ = B true) dn) ?_
          refine kS rfl (fun _ k_ => p_mB rfl dn) ?_
          refine kS rfl (fun _ k_ => gF rfl rfl dnU) ?_
          refine kS rfl (fun _ k_ => gF rfl rfl dnU) ?_
          refine kS rfl (fun _ k_ => p_pkT rfl (rfl : _ = B true) dn) ?_
          refine kS rfl (fun _ k_ => p_mB rfl dn) ?_
          refine kS rfl (fun _ k_ => gF rfl rfl dnU) ?_
          refine kS rfl (fun _ k_ => gF rfl rfl dnU) ?_
          refine kS rfl (fun _ k_ => gF rfl rfl dnU) ?_
          refine kS rfl (fun _ k_ => p_pkT rfl (rfl : _ = B true) dn) ?_
          refine kS rfl (fun _ k_ => p_mB rfl dn) ?_
          refine kS rfl (fun _ k_ => gF rfl rfl dnU) ?_
          refine kC rfl ?_
          refine kC rfl ?_
          refine kC rfl ?_
          refine kC rfl ?_
          intro w148 k149; have S150 := S98.call k149
          refine gF rfl rfl (cN (Keep.refl _ _) fun w151 k152 => ?_)
          have S153 := S150.call k152
          refine gF rfl rfl (cN (Keep.refl _ _) fun w154 k155 => ?_)
          have S156 := S153.call k155
          refine gF rfl rfl (cN (Keep.refl _ _) fun w157 k158 => ?_)
          have S159 := S156.call k158
          refine p_pkT rfl (rfl : _ = B true) (cN (Keep.refl _ _) fun w160 k161 => ?_)
          have S162 := S159.call k161
          refine wp_nil ?_
          refine c_true rfl ?_
          refine c_seq ?_
          refine reg ?_
          refine p_aB rfl ?_
          refine wp_nil ?_
          obtain rfl := Option.some.inj H
          refine c_ret ?_; show bodyPostM (Fr none) 0 Tryd.prog Tryd.f19 _ .ret _ _
          refine ret_of (res1 rfl (rvT (rfl : _ = B false))) ?_
          exact ⟨_, rfl, rfl, S162.keep⟩
        · replace H := condF c147 H
          rcases Bool.eq_false_or_eq_true ((r90.2 != 0)) with c163 | c163
          · replace H := condT c163 H
            refine reg_c mixed 43 [39, 40, 41, 42] (by kernel_rfl) ?_
            refine kS rfl (fun _ k_ => p_mI rfl dn) ?_
            refine kS rfl (fun _ k_ => p_cmp rfl rfl rfl dn) ?_
            refine kS rfl (fun _ k_ => p_mB rfl dn) ?_
            refine kB c99 ?_
            refine kS rfl (fun _ k_ => gT rfl rfl (p_mI rfl dn)) ?_
            refine kS rfl (fun _ k_ => gT rfl rfl (p_cmp rfl rfl rfl dn)) ?_
            refine kS rfl (fun _ k_ => p_pkF rfl (rfl : _ = B (r32.2 != 0)) dn) ?_
            refine kS rfl (fun _ k_ => p_mB rfl dn) ?_
            refine kB c115 ?_
            refine kS rfl (fun _ k_ => gT rfl rfl (p_mI rfl dn)) ?_
            refine kS rfl (fun _ k_ => gT rfl rfl (p_cmp rfl rfl rfl dn)) ?_
            refine kS rfl (fun _ k_ => p_pkF rfl (rfl : _ = B (r56.2 != 0)) dn) ?_
            refine kS rfl (fun _ k_ => p_mB rfl dn) ?_
            refine kB c131 ?_
            refine kS rfl (fun _ k_ => gT rfl rfl (p_mI rfl dn)) ?_
            refine kS rfl (fun _ k_ => gT rfl rfl (p_cmp rfl rfl rfl dn)) ?_
            refine kS rfl (fun _ k_ => p_pkF rfl (rfl : _ = B (r70.2 != 0)) dn) ?_
            refine kS rfl (fun _ k_ => p_mB rfl dn) ?_
            refine kB c147 ?_
            refine kS rfl (fun _ k_ => gT rfl rfl (p_mI rfl dn)) ?_
            refine kS rfl (fun _ k_ => gT rfl rfl (p_cmp rfl rfl rfl dn)) ?_
            refine kS rfl (fun _ k_ => p_pkF rfl (rfl : _ = B (r90.2 != 0)) dn) ?_
            refine kS rfl (fun _ k_ => p_mB rfl dn) ?_
            refine kB c163 ?_
            refine kS rfl (fun _ k_ => gF rfl rfl dnU) ?_
            refine kS rfl (fun _ k_ => gF rfl rfl dnU) ?_
            refine kS rfl (fun _ k_ => gF rfl rfl dnU) ?_
            refine kS rfl (fun _ k_ => p_pkT rfl (rfl : _ = B true) dn) ?_
            refine kS rfl (fun _ k_ => p_mB rfl dn) ?_
            refine kS rfl (fun _ k_ => gF rfl rfl dnU) ?_
            refine kS rfl (fun _ k_ => gF rfl rfl dnU) ?_
            refine kS rfl (fun _ k_ => gF rfl rfl dnU) ?_
            refine kS rfl (fun _ k_ => p_pkT rfl (rfl : _ = B true) dn) ?_
            refine kS rfl (fun _ k_ => p_mB rfl dn) ?_
            refine kS rfl (fun _ k_ => gF rfl rfl dnU) ?_
            refine kS rfl (fun _ k_ => gF rfl rfl dnU) ?_
            refine kS rfl (fun _ k_ => p_pkT rfl (rfl : _ = B true) dn) ?_
            refine kS rfl (fun _ k_ => p_mB rfl dn) ?_
            refine kS rfl (fun _ k_ => gF rfl rfl dnU) ?_
            refine kS rfl (fun _ k_ => gF rfl rfl dnU) ?_
            refine kS rfl (fun _ k_ => gF rfl rfl dnU) ?_
            refine kS rfl (fun _ k_ => p_pkT rfl (rfl : _ = B true) dn) ?_
            refine kS rfl (fun _ k_ => p_mB rfl dn) ?_
            refine kS rfl (fun _ k_ => gF rfl rfl dnU) ?_
            refine kC rfl ?_
            refine kC rfl ?_
            refine kC rfl ?_
            refine kC rfl ?_
            intro w164 k165; have S166 := S98.call k165
            refine gF rfl rfl (cN (Keep.refl _ _) fun w167 k168 => ?_)
            have S169 := S166.call k168
            refine gF rfl rfl (cN (Keep.refl _ _) fun w170 k171 => ?_)
            have S172 := S169.call k171
            refine gF rfl rfl (cN (Keep.refl _ _) fun w173 k174 => ?_)
            have S175 := S172.call k174
            refine p_pkT rfl (rfl : _ = B true) (cN (Keep.refl _ _) fun w176 k177 => ?_)
            have S178 := S175.call k177
            refine wp_nil ?_
            refine c_true rfl ?_
            refine c_seq ?_
            refine reg ?_
            refine p_aB rfl ?_
            refine wp_nil ?_
            obtain rfl := Option.some.inj H
            refine c_ret ?_; show bodyPostM (Fr none) 0 Tryd.prog Tryd.f19 _ .ret _ _
            refine ret_of (res1 rfl (rvT (rfl : _ = B false))) ?_
            exact ⟨_, rfl, rfl, S178.keep⟩
          · replace H := condF c163 H
            obtain ⟨r179, h180, H⟩ := bindS H
            rcases Bool.eq_false_or_eq_true (!((r13.1.Low == r179.Low) && (r13.1.High == r179.High))) with c181 | c181
            · replace H := condT c181 H
              refine reg_c mixed 43 [39, 40, 41, 42] (by kernel_rfl) ?_
              refine kS rfl (fun _ k_ => p_mI rfl dn) ?_
              refine kS rfl (fun _ k_ => p_cmp rfl rfl rfl dn) ?_
              refine kS rfl (fun _ k_ => p_mB rfl dn) ?_
              refine kB c99 ?_
              refine kS rfl (fun _ k_ => gT rfl rfl (p_mI rfl dn)) ?_
              refine kS rfl (fun _ k_ => gT rfl rfl (p_cmp rfl rfl rfl dn)) ?_
              refine kS rfl (fun _ k_ => p_pkF rfl (rfl : _ = B (r32.2 != 0)) dn) ?_
              refine kS rfl (fun _ k_ => p_mB rfl dn) ?_
              refine kB c115 ?_
              refine kS rfl (fun _ k_ => gT rfl rfl (p_mI rfl dn)) ?_
              refine kS rfl (fun _ k_ => gT rfl rfl (p_cmp rfl rfl rfl dn)) ?_
              refine kS rfl (fun _ k_ => p_pkF rfl (rfl : _ = B (r56.2 != 0)) dn) ?_
              refine kS rfl (fun _ k_ => p_mB rfl dn) ?_
              refine kB c131 ?_
              refine kS rfl (fun _ k_ => gT rfl rfl (p_mI rfl dn)) ?_
              refine kS rfl (fun _ k_ => gT rfl rfl (p_cmp rfl rfl rfl dn)) ?_
              refine kS rfl (fun _ k_ => p_pkF rfl (rfl : _ = B (r70.2 != 0)) dn) ?_
              refine kS rfl (fun _ k_ => p_mB rfl dn) ?_
              refine kB c147 ?_
              refine kS rfl (fun _ k_ => gT rfl rfl (p_mI rfl dn)) ?_
              refine kS rfl (fun _ k_ => gT rfl rfl (p_cmp rfl rfl rfl dn)) ?_
              refine kS rfl (fun _ k_ => p_pkF rfl (rfl : _ = B (r90.2 != 0)) dn) ?_
              refine kS rfl (fun _ k_ => p_mB rfl dn) ?_
              refine kB c163 ?_
              refine kS rfl (fun _ k_ => gT rfl rfl (p_ldA ty49 sz49 (Asr.stays (S98.atX (i := 6) rfl) k_) rfl rfl dn)) ?_
              refine kS rfl (fun _ k_ => gT rfl rfl (p_cvD (B_Range_ok h180) fu41 rfl)) ?_
              refine kS rfl (fun _ k_ => gT rfl rfl (o_neA (xs := [I r13.1.Low, I r13.1.High]) (ys := [I r179.Low, I r179.High]) (T := ((r13.1.Low == r179.Low) && (r13.1.High == r179.High))) rfl rfl eq49 ⟨⟨_, rfl⟩, ⟨⟨_, rfl⟩, trivial⟩⟩ ⟨⟨_, rfl⟩, ⟨⟨_, rfl⟩, trivial⟩⟩ (by simp [Bool.and_eq_true, and_assoc]) dn)) ?_
              refine kS rfl (fun _ k_ => p_pkF rfl (rfl : _ = B (!((r13.1.Low == r179.Low) && (r13.1.High == r179.High)))) dn) ?_
              refine kS rfl (fun _ k_ => p_mB rfl dn) ?_
              refine kB c181 ?_
              refine kS rfl (fun _ k_ => gF rfl rfl dnU) ?_
              refine kS rfl (fun _ k_ => gF rfl rfl dnU) ?_
              refine kS rfl (fun _ k_ => gF rfl rfl dnU) ?_
              refine kS rfl (fun _ k_ => p_pkT rfl (rfl : _ = B true) dn) ?_
              refine kS rfl (fun _ k_ => p_mB rfl dn) ?_
              refine kS rfl (fun _ k_ => gF rfl rfl dnU) ?_
              refine kS rfl (fun _ k_ => gF rfl rfl dnU) ?_
              refine kS rfl (fun _ k_ => p_pkT rfl (rfl : _ = B true) dn) ?_
              refine kS rfl (fun _ k_ => p_mB rfl dn) ?_
              refine kS rfl (fun _ k_ => gF rfl rfl dnU) ?_
              refine kS rfl (fun _ k_ => gF rfl rfl dnU) ?_
              refine kS rfl (fun _ k_ => gF rfl rfl dnU) ?_
              refine kS rfl (fun _ k_ => p_pkT rfl (rfl : _ = B true) dn) ?_
              refine kS rfl (fun _ k_ => p_mB rfl dn) ?_
              refine kS rfl (fun _ k_ => gF rfl rfl dnU) ?_
              refine kC rfl ?_
              refine kC rfl ?_
              refine kC rfl ?_
              refine kC rfl ?_
              intro w182 k183; have S184 := S98.call k183
              refine gF rfl rfl (cN (Keep.refl _ _) fun w185 k186 => ?_)
              have S187 := S184.call k186
              refine gF rfl rfl (cN (Keep.refl _ _) fun w188 k189 => ?_)
              have S190 := S187.call k189
              refine gF rfl rfl (cN (Keep.refl _ _) fun w191 k192 => ?_)
              have S193 := S190.call k192
              refine p_pkT rfl (rfl : _ = B true) (cN (Keep.refl _ _) fun w194 k195 => ?_)
              have S196 := S193.call k195
              refine wp_nil ?_
              refine c_true rfl ?_
              refine c_seq ?_
              refine reg ?_
              refine p_aB rfl ?_
              refine wp_nil ?_
              obtain rfl := Option.some.inj H
              refine c_ret ?_; show bodyPostM (Fr none) 0 Tryd.prog Tryd.f19 _ .ret _ _
              refine ret_of (res1 rfl (rvT (rfl : _ = B false))) ?_
              exact ⟨_, rfl, rfl, S196.keep⟩
            · replace H := condF c181 H
              obtain ⟨r197, h198, H⟩ := bindS H
              rcases Bool.eq_false_or_eq_true (!((r32.1.Low == r197.Low) && (r32.1.High == r197.High))) with c199 | c199
              · replace H := condT c199 H
                refine reg_c mixed 43 [39, 40, 41, 42] (by kernel_rfl) ?_
                refine kS rfl (fun _ k_ => p_mI rfl dn) ?_
                refine kS rfl (fun _ k_ => p_cmp rfl rfl rfl dn) ?_
                refine kS rfl (fun _ k_ => p_mB rfl dn) ?_
                refine kB c99 ?_
                refine kS rfl (fun _ k_ => gT rfl rfl (p_mI rfl dn)) ?_
                refine kS rfl (fun _ k_ => gT rfl rfl (p_cmp rfl rfl rfl dn)) ?_
                refine kS rfl (fun _ k_ => p_pkF rfl (rfl : _ = B (r32.2 != 0)) dn) ?_
                refine kS rfl (fun _ k_ => p_mB rfl dn) ?_
                refine kB c115 ?_
                refine kS rfl (fun _ k_ => gT rfl rfl (p_mI rfl dn)) ?_
                refine kS rfl (fun _ k_ => gT rfl rfl (p_cmp rfl rfl rfl dn)) ?_
                refine kS rfl (fun _ k_ => p_pkF rfl (rfl : _ = B (r56.2 != 0)) dn) ?_
                refine kS rfl (fun _ k_ => p_mB rfl dn) ?_
                refine kB c131 ?_
                refine kS rfl (fun _ k_ => gT rfl rfl (p_mI rfl dn)) ?_
                refine kS rfl (fun _ k_ => gT rfl rfl (p_cmp rfl rfl rfl dn)) ?_
                refine kS rfl (fun _ k_ => p_pkF rfl (rfl : _ = B (r70.2 != 0)) dn) ?_
                refine kS rfl (fun _ k_ => p_mB rfl dn) ?_
                refine kB c147 ?_
                refine kS rfl (fun _ k_ => gT rfl rfl (p_mI rfl dn)) ?_
                refine kS rfl (fun _ k_ => gT rfl rfl (p_cmp rfl rfl rfl dn)) ?_
                refine kS rfl (fun _ k_ => p_pkF rfl (rfl : _ = B (r90.2 != 0)) dn) ?_
                refine kS rfl (fun _ k_ => p_mB rfl dn) ?_
                refine kB c163 ?_
                refine kS rfl (fun _ k_ => gT rfl rfl (p_ldA ty49 sz49 (Asr.stays (S98.atX (i := 6) rfl) k_) rfl rfl dn)) ?_
                refine kS rfl (fun _ k_ => gT rfl rfl (p_cvD (B_Range_ok h180) fu41 rfl)) ?_
                refine kS rfl (fun _ k_ => gT rfl rfl (o_neA (xs := [I r13.1.Low, I r13.1.High]) (ys := [I r179.Low, I r179.High]) (T := ((r13.1.Low == r179.Low) && (r13.1.High == r179.High))) rfl rfl eq49 ⟨⟨_, rfl⟩, ⟨⟨_, rfl⟩, trivial⟩⟩ ⟨⟨_, rfl⟩, ⟨⟨_, rfl⟩, trivial⟩⟩ (by simp [Bool.and_eq_true, and_assoc]) dn)) ?_
                refine kS rfl (fun _ k_ => p_pkF rfl (rfl : _ = B (!((r13.1.Low == r179.Low) && (r13.1.High == r179.High)))) dn) ?_
                refine kS rfl (fun _ k_ => p_mB rfl dn) ?_
                refine kB c181 ?_
                refine kS rfl (fun _ k_ => gT rfl rfl (p_ldA ty49 sz49 (Asr.stays (S98.atX (i := 4) rfl) k_) rfl rfl dn)) ?_
                refine kS rfl (fun _ k_ => gT rfl rfl (p_cvD (B_Range_ok h198) fu41 rfl)) ?_
                refine kS rfl (fun _ k_ => gT rfl rfl (o_neA (xs := [I r32.1.Low, I r32.1.High]) (ys := [I r197.Low, I r197.High]) (T := ((r32.1.Low == r197.Low) && (r32.1.High == r197.High))) rfl rfl eq49 ⟨⟨_, rfl⟩, ⟨⟨_, rfl⟩, trivial⟩⟩ ⟨⟨_, rfl⟩, ⟨⟨_, rfl⟩, trivial⟩⟩ (by simp [Bool.and_eq_true, and_assoc]) dn)) ?_
                refine kS rfl (fun _ k_ => p_pkF rfl (rfl : _ = B (!((r32.1.Low == r197.Low) && (r32.1.High == r197.High)))) dn) ?_
                refine kS rfl (fun _ k_ => p_mB rfl dn) ?_
                refine kB c199 ?_
                refine kS rfl (fun _ k_ => gF rfl rfl dnU) ?_
                refine kS rfl (fun _ k_ => gF rfl rfl dnU) ?_
                refine kS rfl (fun _ k_ => p_pkT rfl (rfl : _ = B true) dn) ?_
                refine kS rfl (fun _ k_ => p_mB rfl dn) ?_
                refine kS rfl (fun _ k_ => gF rfl rfl dnU) ?_
                refine kS rfl (fun _ k_ => gF rfl rfl dnU) ?_
                refine kS rfl (fun _ k_ => gF rfl rfl dnU) ?_
                refine kS rfl (fun _ k_ => p_pkT rfl (rfl : _ = B true) dn) ?_
                refine kS rfl (fun _ k_ => p_mB rfl dn) ?_
                refine kS rfl (fun _ k_ => gF rfl rfl dnU) ?_
                refine kC rfl ?_
                refine kC rfl ?_
                refine kC rfl ?_
                refine kC rfl ?_
                intro w200 k201; have S202 := S98.call k201
                refine gF rfl rfl (cN (Keep.refl _ _) fun w203 k204 => ?_)
                have S205 := S202.call k204
                refine gF rfl rfl (cN (Keep.refl _ _) fun w206 k207 => ?_)
                have S208 := S205.call k207
                refine gF rfl rfl (cN (Keep.refl _ _) fun w209 k210 => ?_)
                have S211 := S208.call k210
                refine p_pkT rfl (rfl : _ = B true) (cN (Keep.refl _ _) fun w212 k213 => ?_)
                have S214 := S211.call k213
                refine wp_nil ?_
                refine c_true rfl ?_
                refine c_seq ?_
                refine reg ?_
                refine p_aB rfl ?_
                refine wp_nil ?_
                obtain rfl := Option.some.inj H
                refine c_ret ?_; show bodyPostM (Fr none) 0 Tryd.prog Tryd.f19 _ .ret _ _
                refine ret_of (res1 rfl (rvT (rfl : _ = B false))) ?_
                exact ⟨_, rfl, rfl, S214.keep⟩
              · replace H := condF c199 H
                rcases Bool.eq_false_or_eq_true (!r56.1) with c215 | c215
                · replace H := condT c215 H
                  refine reg_c mixed 43 [39, 40, 41, 42] (by kernel_rfl) ?_
                  refine kS rfl (fun _ k_ => p_mI rfl dn) ?_
                  refine kS rfl (fun _ k_ => p_cmp rfl rfl rfl dn) ?_
                  refine kS rfl (fun _ k_ => p_mB rfl dn) ?_
                  refine kB c99 ?_
                  refine kS rfl (fun _ k_ => gT rfl rfl (p_mI rfl dn)) ?_
                  refine kS rfl (fun _ k_ => gT rfl rfl (p_cmp rfl rfl rfl dn)) ?_
                  refine kS rfl (fun _ k_ => p_pkF rfl (rfl : _ = B (r32.2 != 0)) dn) ?_
                  refine kS rfl (fun _ k_ => p_mB rfl dn) ?_
                  refine kB c115 ?_
                  refine kS rfl (fun _ k_ => gT rfl rfl (p_mI rfl dn)) ?_
                  refine kS rfl (fun _ k_ => gT rfl rfl (p_cmp rfl rfl rfl dn)) ?_
                  refine kS rfl (fun _ k_ => p_pkF rfl (rfl : _ = B (r56.2 != 0)) dn) ?_
                  refine kS rfl (fun _ k_ => p_mB rfl dn) ?_
                  refine kB c131 ?_
                  refine kS rfl (fun _ k_ => gT rfl rfl (p_mI rfl dn)) ?_
                  refine kS rfl (fun _ k_ => gT rfl rfl (p_cmp rfl rfl rfl dn)) ?_
                  refine kS rfl (fun _ k_ => p_pkF rfl (rfl : _ = B (r70.2 != 0)) dn) ?_
                  refine kS rfl (fun _ k_ => p_mB rfl dn) ?_
                  refine kB c147 ?_
                  refine kS rfl (fun _ k_ => gT rfl rfl (p_mI rfl dn)) ?_
                  refine kS rfl (fun _ k_ => gT rfl rfl (p_cmp rfl rfl rfl dn)) ?_
                  refine kS rfl (fun _ k_ => p_pkF rfl (rfl : _ = B (r90.2 != 0)) dn) ?_
                  refine kS rfl (fun _ k_ => p_mB rfl dn) ?_
                  refine kB c163 ?_
                  refine kS rfl (fun _ k_ => gT rfl rfl (p_ldA ty49 sz49 (Asr.stays (S98.atX (i := 6) rfl) k_) rfl rfl dn)) ?_
                  refine kS rfl (fun _ k_ => gT rfl rfl (p_cvD (B_Range_ok h180) fu41 rfl)) ?_
                  refine kS rfl (fun _ k_ => gT rfl rfl (o_neA (xs := [I r13.1.Low, I r13.1.High]) (ys := [I r179.Low, I r179.High]) (T := ((r13.1.Low == r179.Low) && (r13.1.High == r179.High))) rfl rfl eq49 ⟨⟨_, rfl⟩, ⟨⟨_, rfl⟩, trivial⟩⟩ ⟨⟨_, rfl⟩, ⟨⟨_, rfl⟩, trivial⟩⟩ (by simp [Bool.and_eq_true, and_assoc]) dn)) ?_
                  refine kS rfl (fun _ k_ => p_pkF rfl (rfl : _ = B (!((r13.1.Low == r179.Low) && (r13.1.High == r179.High)))) dn) ?_
                  refine kS rfl (fun _ k_ => p_mB rfl dn) ?_
                  refine kB c181 ?_
                  refine kS rfl (fun _ k_ => gT rfl rfl (p_ldA ty49 sz49 (Asr.stays (S98.atX (i := 4) rfl) k_) rfl rfl dn)) ?_
                  refine kS rfl (fun _ k_ => gT rfl rfl (p_cvD (B_Range_ok h198) fu41 rfl)) ?_
                  refine kS rfl (fun _ k_ => gT rfl rfl (o_neA (xs := [I r32.1.Low, I r32.1.High]) (ys := [I r197.Low, I r197.High]) (T := ((r32.1.Low == r197.Low) && (r32.1.High == r197.High))) rfl rfl eq49 ⟨⟨_, rfl⟩, ⟨⟨_, rfl⟩, trivial⟩⟩ ⟨⟨_, rfl⟩, ⟨⟨_, rfl⟩, trivial⟩⟩ (by simp [Bool.and_eq_true, and_assoc]) dn)) ?_
                  refine kS rfl (fun _ k_ => p_pkF rfl (rfl : _ = B (!((r32.1.Low == r197.Low) && (r32.1.High == r197.High)))) dn) ?_
                  refine kS rfl (fun _ k_ => p_mB rfl dn) ?_
                  refine kB c199 ?_
                  refine kS rfl (fun _ k_ => gT rfl rfl (p_mB rfl dn)) ?_
                  refine kS rfl (fun _ k_ => gT rfl rfl (p_not rfl dn)) ?_
                  refine kS rfl (fun _ k_ => p_pkF rfl (rfl : _ = B (!r56.1)) dn) ?_
                  refine kS rfl (fun _ k_ => p_mB rfl dn) ?_
                  refine kB c215 ?_
                  refine kS rfl (fun _ k_ => gF rfl rfl dnU) ?_
                  refine kS rfl (fun _ k_ => gF rfl rfl dnU) ?_
                  refine kS rfl (fun _ k_ => gF rfl rfl dnU) ?_
                  refine kS rfl (fun _ k_ => p_pkT rfl (rfl : _ = B true) dn) ?_
                  refine kS rfl (fun _ k_ => p_mB rfl dn) ?_
                  refine kS rfl (fun _ k_ => gF rfl rfl dnU) ?_
                  refine kC rfl ?_
                  refine kC rfl ?_
                  refine kC rfl ?_
                  refine kC rfl ?_
                  intro w216 k217; have S218 := S98.call k217
                  refine gF rfl rfl (cN (Keep.refl _ _) fun w219 k220 => ?_)
                  have S221 := S218.call k220
                  refine gF rfl rfl (cN (Keep.refl _ _) fun w222 k223 => ?_)
                  have S224 := S221.call k223
                  refine gF rfl rfl (cN (Keep.refl _ _) fun w225 k226 => ?_)
                  have S227 := S224.call k226
                  refine p_pkT rfl (rfl : _ = B true) (cN (Keep.refl _ _) fun w228 k229 => ?_)
                  have S230 := S227.call k229
                  refine wp_nil ?_
                  refine c_true rfl ?_
                  refine c_seq ?_
                  refine reg ?_
                  refine p_aB rfl ?_
                  refine wp_nil ?_
                  obtain rfl := Option.some.inj H
                  refine c_ret ?_; show bodyPostM (Fr none) 0 Tryd.prog Tryd.f19 _ .ret _ _
                  refine ret_of (res1 rfl (rvT (rfl : _ = B false))) ?_
                  exact ⟨_, rfl, rfl, S230.keep⟩
                · replace H := condF c215 H
                  obtain ⟨r231, h232, H⟩ := bindS H
                  rcases Bool.eq_false_or_eq_true (!((r70.1.Low == r231.Low) && (r70.1.High == r231.High))) with c233 | c233
                  · replace H := condT c233 H
                    refine reg_c mixed 43 [39, 40, 41, 42] (by kernel_rfl) ?_
                    refine kS rfl (fun _ k_ => p_mI rfl dn) ?_
                    refine kS rfl (fun _ k_ => p_cmp rfl rfl rfl dn) ?_
                    refine kS rfl (fun _ k_ => p_mB rfl dn) ?_
                    refine kB c99 ?_
                    refine kS rfl (fun _ k_ => gT rfl rfl (p_mI rfl dn)) ?_
                    refine kS rfl (fun _ k_ => gT rfl rfl (p_cmp rfl rfl rfl dn)) ?_
                    refine kS rfl (fun _ k_ => p_pkF rfl (rfl : _ = B (r32.2 != 0)) dn) ?_
                    refine kS rfl (fun _ k_ => p_mB rfl dn) ?_
                    refine kB c115 ?_
                    refine kS rfl (fun _ k_ => gT rfl rfl (p_mI rfl dn)) ?_
                    refine kS rfl (fun _ k_ => gT rfl rfl (p_cmp rfl rfl rfl dn)) ?_
                    refine kS rfl (fun _ k_ => p_pkF rfl (rfl : _ = B (r56.2 != 0)) dn) ?_
                    refine kS rfl (fun _ k_ => p_mB rfl dn) ?_
                    refine kB c131 ?_
                    refine kS rfl (fun _ k_ => gT rfl rfl (p_mI rfl dn)) ?_
                    refine kS rfl (fun _ k_ => gT rfl rfl (p_cmp rfl rfl rfl dn)) ?_
                    refine kS rfl (fun _ k_ => p_pkF rfl (rfl : _ = B (r70.2 != 0)) dn) ?_
                    refine kS rfl (fun _ k_ => p_mB rfl dn) ?_
                    refine kB c147 ?_
                    refine kS rfl (fun _ k_ => gT rfl rfl (p_mI rfl dn)) ?_
                    refine kS rfl (fun _ k_ => gT rfl rfl (p_cmp rfl rfl rfl dn)) ?_
                    refine kS rfl (fun _ k_ => p_pkF rfl (rfl : _ = B (r90.2 != 0)) dn) ?_
                    refine kS rfl (fun _ k_ => p_mB rfl dn) ?_
                    refine kB c163 ?_
                    refine kS rfl (fun _ k_ => gT rfl rfl (p_ldA ty49 sz49 (Asr.stays (S98.atX (i := 6) rfl) k_) rfl rfl dn)) ?_
                    refine kS rfl (fun _ k_ => gT rfl rfl (p_cvD (B_Range_ok h180) fu41 rfl)) ?_
                    refine kS rfl (fun _ k_ => gT rfl rfl (o_neA (xs := [I r13.1.Low, I r13.1.High]) (ys := [I r179.Low, I r179.High]) (T := ((r13.1.Low == r179.Low) && (r13.1.High == r179.High))) rfl rfl eq49 ⟨⟨_, rfl⟩, ⟨⟨_, rfl⟩, trivial⟩⟩ ⟨⟨_, rfl⟩, ⟨⟨_, rfl⟩, trivial⟩⟩ (by simp [Bool.and_eq_true, and_assoc]) dn)) ?_
                    refine kS rfl (fun _ k_ => p_pkF rfl (rfl : _ = B (!((r13.1.Low == r179.Low) && (r13.1.High == r179.High)))) dn) ?_
                    refine kS rfl (fun _ k_ => p_mB rfl dn) ?_
                    refine kB c181 ?_
                    refine kS rfl (fun _ k_ => gT rfl rfl (p_ldA ty49 sz49 (Asr.stays (S98.atX (i := 4) rfl) k_) rfl rfl dn)) ?_
                    refine kS rfl (fun _ k_ => gT rfl rfl (p_cvD (B_Range_ok h198) fu41 rfl)) ?_
                    refine kS rfl (fun _ k_ => gT rfl rfl (o_neA (xs := [I r32.1.Low, I r32.1.High]) (ys := [I r197.Low, I r197.High]) (T := ((r32.1.Low == r197.Low) && (r32.1.High == r197.High))) rfl rfl eq49 ⟨⟨_, rfl⟩, ⟨⟨_, rfl⟩, trivial⟩⟩ ⟨⟨_, rfl⟩, ⟨⟨_, rfl⟩, trivial⟩⟩ (by simp [Bool.and_eq_true, and_assoc]) dn)) ?_
                    refine kS rfl (fun _ k_ => p_pkF rfl (rfl : _ = B (!((r32.1.Low == r197.Low) && (r32.1.High == r197.High)))) dn) ?_
                    refine kS rfl (fun _ k_ => p_mB rfl dn) ?_
                    refine kB c199 ?_
                    refine kS rfl (fun _ k_ => gT rfl rfl (p_mB rfl dn)) ?_
                    refine kS rfl (fun _ k_ => gT rfl rfl (p_not rfl dn)) ?_
                    refine kS rfl (fun _ k_ => p_pkF rfl (rfl : _ = B (!r56.1)) dn) ?_
                    refine kS rfl (fun _ k_ => p_mB rfl dn) ?_
                    refine kB c215 ?_
                    refine kS rfl (fun _ k_ => gT rfl rfl (p_ldA ty49 sz49 (Asr.stays (S98.atX (i := 0) rfl) k_) rfl rfl dn)) ?_
                    refine kS rfl (fun _ k_ => gT rfl rfl (p_cvD (B_Range_ok h232) fu41 rfl)) ?_
                    refine kS rfl (fun _ k_ => gT rfl rfl (o_neA (xs := [I r70.1.Low, I r70.1.High]) (ys := [I r231.Low, I r231.High]) (T := ((r70.1.Low == r231.Low) && (r70.1.High == r231.High))) rfl rfl eq49 ⟨⟨_, rfl⟩, ⟨⟨_, rfl⟩, trivial⟩⟩ ⟨⟨_, rfl⟩, ⟨⟨_, rfl⟩, trivial⟩⟩ (by simp [Bool.and_eq_true, and_assoc]) dn)) ?_
                    refine kS rfl (fun _ k_ => p_pkF rfl (rfl : _ = B (!((r70.1.Low == r231.Low) && (r70.1.High == r231.High)))) dn) ?_
                    refine kS rfl (fun _ k_ => p_mB rfl dn) ?_
                    refine kB c233 ?_
                    refine kS rfl (fun _ k_ => gF rfl rfl dnU) ?_
                    refine kC rfl ?_
                    refine kC rfl ?_
                    refine kC rfl ?_
                    refine kC rfl ?_
                    intro w234 k235; have S236 := S98.call k235
                    refine gF rfl rfl (cN (Keep.refl _ _) fun w237 k238 => ?_)
                    have S239 := S236.call k238
                    refine gF rfl rfl (cN (Keep.refl _ _) fun w240 k241 => ?_)
                    have S242 := S239.call k241
                    refine gF rfl rfl (cN (Keep.refl _ _) fun w243 k244 => ?_)
                    have S245 := S242.call k244
                    refine p_pkT rfl (rfl : _ = B true) (cN (Keep.refl _ _) fun w246 k247 => ?_)
                    have S248 := S245.call k247
                    refine wp_nil ?_
                    refine c_true rfl ?_
                    refine c_seq ?_
                    refine reg ?_
                    refine p_aB rfl ?_
                    refine wp_nil ?_
                    obtain rfl := Option.some.inj H
                    refine c_ret ?_; show bodyPostM (Fr none) 0 Tryd.prog Tryd.f19 _ .ret _ _
                    refine ret_of (res1 rfl (rvT (rfl : _ = B false))) ?_
                    exact ⟨_, rfl, rfl, S248.keep⟩
                  · replace H := condF c233 H
                    refine reg_c mixed 43 [39, 40, 41, 42] (by kernel_rfl) ?_
                    refine kS rfl (fun _ k_ => p_mI rfl dn) ?_
                    refine kS rfl (fun _ k_ => p_cmp rfl rfl rfl dn) ?_
                    refine kS rfl (fun _ k_ => p_mB rfl dn) ?_
                    refine kB c99 ?_
                    refine kS rfl (fun _ k_ => gT rfl rfl (p_mI rfl dn)) ?_
                    refine kS rfl (fun _ k_ => gT rfl rfl (p_cmp rfl rfl rfl dn)) ?_
                    refine kS rfl (fun _ k_ => p_pkF rfl (rfl : _ = B (r32.2 != 0)) dn) ?_
                    refine kS rfl (fun _ k_ => p_mB rfl dn) ?_
                    refine kB c115 ?_
                    refine kS rfl (fun _ k_ => gT rfl rfl (p_mI rfl dn)) ?_
                    refine kS rfl (fun _ k_ => gT rfl rfl (p_cmp rfl rfl rfl dn)) ?_
                    refine kS rfl (fun _ k_ => p_pkF rfl (rfl : _ = B (r56.2 != 0)) dn) ?_
                    refine kS rfl (fun _ k_ => p_mB rfl dn) ?_
                    refine kB c131 ?_
                    refine kS rfl (fun _ k_ => gT rfl rfl (p_mI rfl dn)) ?_
                    refine kS rfl (fun _ k_ => gT rfl rfl (p_cmp rfl rfl rfl dn)) ?_
                    refine kS rfl (fun _ k_ => p_pkF rfl (rfl : _ = B (r70.2 != 0)) dn) ?_
                    refine kS rfl (fun _ k_ => p_mB rfl dn) ?_
                    refine kB c147 ?_
                    refine kS rfl (fun _ k_ => gT rfl rfl (p_mI rfl dn)) ?_
                    refine kS rfl (fun _ k_ => gT rfl rfl (p_cmp rfl rfl rfl dn)) ?_
                    refine kS rfl (fun _ k_ => p_pkF rfl (rfl : _ = B (r90.2 != 0)) dn) ?_
                    refine kS rfl (fun _ k_ => p_mB rfl dn) ?_
                    refine kB c163 ?_
                    refine kS rfl (fun _ k_ => gT rfl rfl (p_ldA ty49 sz49 (Asr.stays (S98.atX (i := 6) rfl) k_) rfl rfl dn)) ?_
                    refine kS rfl (fun _ k_ => gT rfl rfl (p_cvD (B_Range_ok h180) fu41 rfl)) ?_
                    refine kS rfl (fun _ k_ => gT rfl rfl (o_neA (xs := [I r13.1.Low, I r13.1.High]) (ys := [I r179.Low, I r179.High]) (T := ((r13.1.Low == r179.Low) && (r13.1.High == r179.High))) rfl rfl eq49 ⟨⟨_, rfl⟩, ⟨⟨_, rfl⟩, trivial⟩⟩ ⟨⟨_, rfl⟩, ⟨⟨_, rfl⟩, trivial⟩⟩ (by simp [Bool.and_eq_true, and_assoc]) dn)) ?_
                    refine kS rfl (fun _ k_ => p_pkF rfl (rfl : _ = B (!((r13.1.Low == r179.Low) && (r13.1.High == r179.High)))) dn) ?_
                    refine kS rfl (fun _ k_ => p_mB rfl dn) ?_
                    refine kB c181 ?_
                    refine kS rfl (fun _ k_ => gT rfl rfl (p_ldA ty49 sz49 (Asr.stays (S98.atX (i := 4) rfl) k_) rfl rfl dn)) ?_
                    refine kS rfl (fun _ k_ => gT rfl rfl (p_cvD (B_Range_ok h198) fu41 rfl)) ?_
                    refine kS rfl (fun _ k_ => gT rfl rfl (o_neA (xs := [I r32.1.Low, I r32.1.High]) (ys := [I r197.Low, I r197.High]) (T := ((r32.1.Low == r197.Low) && (r32.1.High == r197.High))) rfl rfl eq49 ⟨⟨_, rfl⟩, ⟨⟨_, rfl⟩, trivial⟩⟩ ⟨⟨_, rfl⟩, ⟨⟨_, rfl⟩, trivial⟩⟩ (by simp [Bool.and_eq_true, and_assoc]) dn)) ?_
                    refine kS rfl (fun _ k_ => p_pkF rfl (rfl : _ = B (!((r32.1.Low == r197.Low) && (r32.1.High == r197.High)))) dn) ?_
                    refine kS rfl (fun _ k_ => p_mB rfl dn) ?_
                    refine kB c199 ?_
                    refine kS rfl (fun _ k_ => gT rfl rfl (p_mB rfl dn)) ?_
                    refine kS rfl (fun _ k_ => gT rfl rfl (p_not rfl dn)) ?_
                    refine kS rfl (fun _ k_ => p_pkF rfl (rfl : _ = B (!r56.1)) dn) ?_
                    refine kS rfl (fun _ k_ => p_mB rfl dn) ?_
                    refine kB c215 ?_
                    refine kS rfl (fun _ k_ => gT rfl rfl (p_ldA ty49 sz49 (Asr.stays (S98.atX (i := 0) rfl) k_) rfl rfl dn)) ?_
                    refine kS rfl (fun _ k_ => gT rfl rfl (p_cvD (B_Range_ok h232) fu41 rfl)) ?_
                    refine kS rfl (fun _ k_ => gT rfl rfl (o_neA (xs := [I r70.1.Low, I r70.1.High]) (ys := [I r231.Low, I r231.High]) (T := ((r70.1.Low == r231.Low) && (r70.1.High == r231.High))) rfl rfl eq49 ⟨⟨_, rfl⟩, ⟨⟨_, rfl⟩, trivial⟩⟩ ⟨⟨_, rfl⟩, ⟨⟨_, rfl⟩, trivial⟩⟩ (by simp [Bool.and_eq_true, and_assoc]) dn)) ?_
                    refine kS rfl (fun _ k_ => p_pkF rfl (rfl : _ = B (!((r70.1.Low == r231.Low) && (r70.1.High == r231.High)))) dn) ?_
                    refine kS rfl (fun _ k_ => p_mB rfl dn) ?_
                    refine kB c233 ?_
                    refine kS rfl (fun _ k_ => gT rfl rfl (p_mS rfl dn)) ?_
                    refine kC rfl ?_
                    refine kC rfl ?_
                    refine kC rfl ?_
                    refine kC rfl ?_
                    intro w249 k250; have S251 := S98.call k250
                    refine gT rfl rfl ?_
                    have S257 := S251.base
                    refine p_bsl (enc := intE) (l := ([0] : List Int)) I (fun _ => rfl) sc31 in3 intE_len rfl (by decide) (by decide) zr3_1 S257 rfl fun A252 c253 w254 S255 => ?_
                    refine cN S255.keep fun w258 k259 => ?_
                    have S260 := (S251.fromBase S255).call k259
                    obtain ⟨r261, h262, H⟩ := bindS H
                    refine gT rfl rfl <| p_cal (B_Alike_ok h262 (S260.atP (i := 0) rfl) (gr_rd intE_len (S260.atX (i := 0) rfl))) fu22 rfl ?_
                    rintro _ w263 ⟨rfl, k264⟩; refine cN k264 fun w265 k266 => ?_
                    have S267 := (S260.call k264).call k266
                    refine gT rfl rfl (p_not rfl (cN (Keep.refl _ _) fun w268 k269 => ?_))
                    have S270 := S267.call k269
                    refine p_pkF rfl (rfl : _ = B (!r261)) (cN (Keep.refl _ _) fun w271 k272 => ?_)
                    have S273 := S270.call k272
                    refine wp_nil ?_
                    refine c_cond rfl (fun c274 => ?_) (fun c274 => ?_)
                    · replace H := condT c274 H
                      refine c_seq ?_
                      refine reg ?_
                      refine p_aB rfl ?_
                      refine wp_nil ?_
                      obtain rfl := Option.some.inj H
                      refine c_ret ?_; show bodyPostM (Fr none) 0 Tryd.prog Tryd.f19 _ .ret _ _
                      refine ret_of (res1 rfl (rvT (rfl : _ = B false))) ?_
                      exact ⟨_, rfl, rfl, S273.keep⟩
                    · replace H := condF c274 H
                      refine c_skip ?_
                      refine c_seq ?_
                      refine reg ?_
                      obtain ⟨r275, h276, H⟩ := bindS H
                      refine p_cal (law_torn_ok h276) fu54 rfl ?_
                      rintro _ w277 ⟨A279, c280, rfl, k278, ⟨o281, n282⟩, _⟩
                      have S284 := S273.addNew k278 o281 n282
                      obtain ⟨r285, h286, H⟩ := bindS H
                      refine p_cal (tally_Whose_ok h286 (gr_rd eTallyCount_len (S284.atX (i := 0) rfl)) (S284.atP (i := 2) rfl) (S284.atP (i := 3) rfl)) fu31 rfl ?_
                      rintro _ w287 ⟨A289, c290, rfl, k288, ⟨o291, n292⟩, _⟩
                      have S293 := S284.callN k288 [rd intE 1 A289 c290 r285.1] (List.forall_mem_cons.2 ⟨⟨o291, New.inL n292⟩, (fun _ h_ => (List.not_mem_nil h_).elim)⟩)
                      refine p_mT rfl ?_
                      refine p_ext rfl rfl ?_
                      refine p_ext rfl rfl ?_
                      refine p_aS rfl ?_
                      refine p_aI rfl ?_
                      refine wp_nil ?_
                      refine c_seq ?_
                      refine reg ?_
                      obtain ⟨r294, h295, H⟩ := bindS H
                      refine p_cal (law_own_ok h295) fu52 rfl ?_
                      rintro _ w296 ⟨A298, c299, rfl, k297, ⟨o300, n301⟩, _⟩
                      have S303 := S293.addNew k297 o300 n301
                      obtain ⟨r304, h305, H⟩ := bindS H
                      refine p_cv (tally_Again_ok h305 (gr_rd eTallyCount_len (S303.atX (i := 0) rfl)) (S303.atP (i := 3) rfl) (S303.atP (i := 4) rfl)) fu50 rfl S303 fun w306 S307 => ?_
                      refine p_mT rfl ?_
                      refine p_ext rfl rfl ?_
                      refine p_ext rfl rfl ?_
                      refine p_aI rfl ?_
                      refine p_aI rfl ?_
                      refine wp_nil ?_
                      refine c_seq ?_
                      refine reg ?_
                      obtain ⟨r308, h309, H⟩ := bindS H
                      refine p_cal (law_own_ok h309) fu52 rfl ?_
                      rintro _ w310 ⟨A312, c313, rfl, k311, ⟨o314, n315⟩, _⟩
                      have S317 := S307.addNew k311 o314 n315
                      obtain ⟨r318, h319, H⟩ := bindS H
                      refine p_cv (law_count_ok h319) fu37 rfl S317 fun w320 S321 => ?_
                      obtain ⟨r322, h323, H⟩ := bindS H
                      refine p_cv (tally_Fits_ok h323 (gr_rd eTallyCount_len (S321.atX (i := 0) rfl)) (S321.atP (i := 3) rfl) (S321.atP (i := 4) rfl)) fu36 rfl S321 fun w324 S325 => ?_
                      refine p_mT rfl ?_
                      refine p_ext rfl rfl ?_
                      refine p_ext rfl rfl ?_
                      refine p_aB rfl ?_
                      refine p_aI rfl ?_
                      refine wp_nil ?_
                      refine c_seq ?_
                      refine reg ?_
                      obtain ⟨r326, h327, H⟩ := bindS H
                      refine p_cal (law_torn_ok h327) fu54 rfl ?_
                      rintro _ w328 ⟨A330, c331, rfl, k329, ⟨o332, n333⟩, _⟩
                      have S335 := S325.addNew k329 o332 n333
                      obtain ⟨r336, h337, H⟩ := bindS H
                      refine p_cv (tally_Right_ok h337 (gr_rd eTallyCount_len (S335.atX (i := 0) rfl)) (S335.atP (i := 3) rfl) (S335.atP (i := 4) rfl)) fu28 rfl S335 fun w338 S339 => ?_
                      refine p_mT rfl ?_
                      refine p_ext rfl rfl ?_
                      refine p_ext rfl rfl ?_
                      refine p_aB rfl ?_
                      refine p_aI rfl ?_
                      refine wp_nil ?_
                      refine c_seq ?_
                      refine reg ?_
                      refine p_mI rfl ?_
                      refine p_cmp rfl rfl rfl ?_
                      refine p_mB rfl ?_
                      rcases Bool.eq_false_or_eq_true ((r285.2 == 0)) with c340 | c340
                      · replace H := condT c340 H
                        refine eB c340 ?_
                        refine gT rfl rfl (p_mI rfl ?_)
                        refine gT rfl rfl (p_cmp rfl rfl rfl ?_)
                        refine p_pkT rfl (rfl : _ = B (r304.2 == 0)) ?_
                        refine p_mB rfl ?_
                        rcases Bool.eq_false_or_eq_true ((r304.2 == 0)) with c341 | c341
                        · replace H := condT c341 H
                          refine eB c341 ?_
                          refine gT rfl rfl (p_mI rfl ?_)
                          refine gT rfl rfl (p_cmp rfl rfl rfl ?_)
                          refine p_pkT rfl (rfl : _ = B (r322.2 == 0)) ?_
                          refine p_mB rfl ?_
                          rcases Bool.eq_false_or_eq_true ((r322.2 == 0)) with c342 | c342
                          · replace H := condT c342 H
                            refine eB c342 ?_
                            refine gT rfl rfl (p_mI rfl ?_)
                            refine gT rfl rfl (p_cmp rfl rfl rfl ?_)
                            refine p_pkT rfl (rfl : _ = B (r336.2 == 0)) ?_
                            refine p_mB rfl ?_
                            rcases Bool.eq_false_or_eq_true ((r336.2 == 0)) with c343 | c343
                            · replace H := condT c343 H
                              refine eB c343 ?_
                              refine gT rfl rfl (p_mS rfl ?_)
                              refine gT rfl rfl ?_
                              refine p_bsl (enc := intE) (l := [0, 2]) I (fun _ => rfl) sc31 in3 intE_len rfl (by decide) (by decide) zr3_2 S339 rfl fun A344 c345 w346 S347 => ?_
                              obtain ⟨r349, h350, H⟩ := bindS H
                              refine gT rfl rfl (p_cv (B_Alike_ok h350 (S347.atP (i := 0) rfl) (gr_rd intE_len (S347.atX (i := 0) rfl))) fu22 rfl S347 fun w351 S352 => ?_)
                              refine p_pkT rfl (rfl : _ = B r349) ?_
                              refine p_mB rfl ?_
                              rcases Bool.eq_false_or_eq_true (r349) with c353 | c353
                              · replace H := condT c353 H
                                refine eB c353 ?_
                                refine gT rfl rfl (p_mI rfl ?_)
                                refine gT rfl rfl (p_cmp rfl rfl rfl ?_)
                                refine p_pkT rfl (rfl : _ = B (r304.1 == 3)) ?_
                                refine p_mB rfl ?_
                                rcases Bool.eq_false_or_eq_true ((r304.1 == 3)) with c354 | c354
                                · replace H := condT c354 H
                                  refine eB c354 ?_
                                  refine gT rfl rfl (p_mB rfl ?_)
                                  refine p_pkT rfl (rfl : _ = B r322.1) ?_
                                  refine p_mB rfl ?_
                                  rcases Bool.eq_false_or_eq_true (r322.1) with c355 | c355
                                  · replace H := condT c355 H
                                    refine eB c355 ?_
                                    refine gT rfl rfl (p_mB rfl ?_)
                                    refine gT rfl rfl (p_not rfl ?_)
                                    refine p_pkT rfl (rfl : _ = B (!r336.1)) ?_
                                    refine p_aB rfl ?_
                                    refine wp_nil ?_
                                    obtain rfl := Option.some.inj H
                                    refine c_ret ?_; show bodyPostM (Fr none) 0 Tryd.prog Tryd.f19 _ .ret _ _
                                    refine ret_of (res1 rfl (rvT (rfl : _ = B (!r336.1)))) ?_
                                    exact ⟨_, rfl, rfl, S352.keep⟩
                                  · replace H := condF c355 H
                                    refine eB c355 ?_
                                    refine gF rfl rfl ?_
                                    refine gF rfl rfl ?_
                                    refine p_pkF rfl (rfl : _ = B false) ?_
                                    refine p_aB rfl ?_
                                    refine wp_nil ?_
                                    obtain rfl := Option.some.inj H
                                    refine c_ret ?_; show bodyPostM (Fr none) 0 Tryd.prog Tryd.f19 _ .ret _ _
                                    refine ret_of (res1 rfl (rvT (rfl : _ = B false))) ?_
                                    exact ⟨_, rfl, rfl, S352.keep⟩
                                · replace H := condF c354 H
                                  refine eB c354 ?_
                                  refine gF rfl rfl ?_
                                  refine p_pkF rfl (rfl : _ = B false) ?_
                                  refine p_mB rfl ?_
                                  refine gF rfl rfl ?_
                                  refine gF rfl rfl ?_
                                  refine p_pkF rfl (rfl : _ = B false) ?_
                                  refine p_aB rfl ?_
                                  refine wp_nil ?_
                                  obtain rfl := Option.some.inj H
                                  refine c_ret ?_; show bodyPostM (Fr none) 0 Tryd.prog Tryd.f19 _ .ret _ _
                                  refine ret_of (res1 rfl (rvT (rfl : _ = B false))) ?_
                                  exact ⟨_, rfl, rfl, S352.keep⟩
                              · replace H := condF c353 H
                                refine eB c353 ?_
                                refine gF rfl rfl ?_
                                refine gF rfl rfl ?_
                                refine p_pkF rfl (rfl : _ = B false) ?_
                                refine p_mB rfl ?_
                                refine gF rfl rfl ?_
                                refine p_pkF rfl (rfl : _ = B false) ?_
                                refine p_mB rfl ?_
                                refine gF rfl rfl ?_
                                refine gF rfl rfl ?_
                                refine p_pkF rfl (rfl : _ = B false) ?_
                                refine p_aB rfl ?_
                                refine wp_nil ?_
                                obtain rfl := Option.some.inj H
                                refine c_ret ?_; show bodyPostM (Fr none) 0 Tryd.prog Tryd.f19 _ .ret _ _
                                refine ret_of (res1 rfl (rvT (rfl : _ = B false))) ?_
                                exact ⟨_, rfl, rfl, S352.keep⟩
                            · replace H := condF c343 H
                              refine eB c343 ?_
                              refine gF rfl rfl ?_
                              refine gF rfl rfl ?_
                              refine gF rfl rfl ?_
                              refine p_pkF rfl (rfl : _ = B false) ?_
                              refine p_mB rfl ?_
                              refine gF rfl rfl ?_
                              refine gF rfl rfl ?_
                              refine p_pkF rfl (rfl : _ = B false) ?_
                              refine p_mB rfl ?_
                              refine gF rfl rfl ?_
                              refine p_pkF rfl (rfl : _ = B false) ?_
                              refine p_mB rfl ?_
                              refine gF rfl rfl ?_
                              refine gF rfl rfl ?_
                              refine p_pkF rfl (rfl : _ = B false) ?_
                              refine p_aB rfl ?_
                              refine wp_nil ?_
                              obtain rfl := Option.some.inj H
                              refine c_ret ?_; show bodyPostM (Fr none) 0 Tryd.prog Tryd.f19 _ .ret _ _
                              refine ret_of (res1 rfl (rvT (rfl : _ = B false))) ?_
                              exact ⟨_, rfl, rfl, S339.keep⟩
                          · replace H := condF c342 H
                            refine eB c342 ?_
                            refine gF rfl rfl ?_
                            refine gF rfl rfl ?_
                            refine p_pkF rfl (rfl : _ = B false) ?_
                            refine p_mB rfl ?_
                            refine gF rfl rfl ?_
                            refine gF rfl rfl ?_
                            refine gF rfl rfl ?_
                            refine p_pkF rfl (rfl : _ = B false) ?_
                            refine p_mB rfl ?_
                            refine gF rfl rfl ?_
                            refine gF rfl rfl ?_
                            refine p_pkF rfl (rfl : _ = B false) ?_
                            refine p_mB rfl ?_
                            refine gF rfl rfl ?_
                            refine p_pkF rfl (rfl : _ = B false) ?_
                            refine p_mB rfl ?_
                            refine gF rfl rfl ?_
                            refine gF rfl rfl ?_
                            refine p_pkF rfl (rfl : _ = B false) ?_
                            refine p_aB rfl ?_
                            refine wp_nil ?_
                            obtain rfl := Option.some.inj H
                            refine c_ret ?_; show bodyPostM (Fr none) 0 Tryd.prog Tryd.f19 _ .ret _ _
                            refine ret_of (res1 rfl (rvT (rfl : _ = B false))) ?_
                            exact ⟨_, rfl, rfl, S339.keep⟩
                        · replace H := condF c341 H
                          refine eB c341 ?_
                          refine gF rfl rfl ?_
                          refine gF rfl rfl ?_
                          refine p_pkF rfl (rfl : _ = B false) ?_
                          refine p_mB rfl ?_
                          refine gF rfl rfl ?_
                          refine gF rfl rfl ?_
                          refine p_pkF rfl (rfl : _ = B false) ?_
                          refine p_mB rfl ?_
                          refine gF rfl rfl ?_
                          refine gF rfl rfl ?_
                          refine gF rfl rfl ?_
                          refine p_pkF rfl (rfl : _ = B false) ?_
                          refine p_mB rfl ?_
                          refine gF rfl rfl ?_
                          refine gF rfl rfl ?_
                          refine p_pkF rfl (rfl : _ = B false) ?_
                          refine p_mB rfl ?_
                          refine gF rfl rfl ?_
                          refine p_pkF rfl (rfl : _ = B false) ?_
                          refine p_mB rfl ?_
                          refine gF rfl rfl ?_
                          refine gF rfl rfl ?_
                          refine p_pkF rfl (rfl : _ = B false) ?_
                          refine p_aB rfl ?_
                          refine wp_nil ?_
                          obtain rfl := Option.some.inj H
                          refine c_ret ?_; show bodyPostM (Fr none) 0 Tryd.prog Tryd.f19 _ .ret _ _
                          refine ret_of (res1 rfl (rvT (rfl : _ = B false))) ?_
                          exact ⟨_, rfl, rfl, S339.keep⟩
                      · replace H := condF c340 H
                        refine eB c340 ?_
                        refine gF rfl rfl ?_
                        refine gF rfl rfl ?_
                        refine p_pkF rfl (rfl : _ = B false) ?_
                        refine p_mB rfl ?_
                        refine gF rfl rfl ?_
                        refine gF rfl rfl ?_
                        refine p_pkF rfl (rfl : _ = B false) ?_
                        refine p_mB rfl ?_
                        refine gF rfl rfl ?_
                        refine gF rfl rfl ?_
                        refine p_pkF rfl (rfl : _ = B false) ?_
                        refine p_mB rfl ?_
                        refine gF rfl rfl ?_
                        refine gF rfl rfl ?_
                        refine gF rfl rfl ?_
                        refine p_pkF rfl (rfl : _ = B false) ?_
                        refine p_mB rfl ?_
                        refine gF rfl rfl ?_
                        refine gF rfl rfl ?_
                        refine p_pkF rfl (rfl : _ = B false) ?_
                        refine p_mB rfl ?_
                        refine gF rfl rfl ?_
                        refine p_pkF rfl (rfl : _ = B false) ?_
                        refine p_mB rfl ?_
                        refine gF rfl rfl ?_
                        refine gF rfl rfl ?_
                        refine p_pkF rfl (rfl : _ = B false) ?_
                        refine p_aB rfl ?_
                        refine wp_nil ?_
                        obtain rfl := Option.some.inj H
                        refine c_ret ?_; show bodyPostM (Fr none) 0 Tryd.prog Tryd.f19 _ .ret _ _
                        refine ret_of (res1 rfl (rvT (rfl : _ = B false))) ?_
                        exact ⟨_, rfl, rfl, S339.keep⟩

end Go.Proofs.YtplpalmabgjibaaDoor

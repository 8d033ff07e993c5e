/- What the functions of the program compute, and that they do, printed by a program of mine. -/
import Derived.Test.YtplpalmabgjibaaDoorZWB
set_option linter.unusedVariables false
set_option linter.unusedSimpArgs false
namespace Go.Proofs.YtplpalmabgjibaaDoor
open Go Go.Fx Go.Proofs
set_option maxRecDepth 100000 in
theorem tally_Again_ok {a0 : TallyBook} {A1 : Option Addr} {c2 : Nat} {w : World} {r : Int × Int} (H : tally_Again a0 = some r) (h3 : (rd eTallyCount 7 A1 c2 a0.Counts).ok w) (hg4 : (bl 0 [Value.func (.func 117) #[] #[], Value.func (.func 119) #[] #[]] 117).ok w) (hg5 : (bl 1 [I (-1), I (-1)] 115).ok w) : Calls Tryd.prog 50 #[AG [I a0.Trips, I a0.Room, SL A1 a0.Counts.length c2]] w (RetV w (TU [I r.1, I r.2])) := by
  unfold tally_Again at H
  refine fn_of (n := 85) Tryd.func50 rfl rfl (Nat.le_of_ble_eq_true rfl) ?_
  have S : St w (fun _ => False) w [] [rd eTallyCount 7 A1 c2 a0.Counts, bl 0 [Value.func (.func 117) #[] #[], Value.func (.func 119) #[] #[]] 117, bl 1 [I (-1), I (-1)] 115] := St.start w _ _ (List.forall_mem_cons.2 ⟨h3, (List.forall_mem_cons.2 ⟨hg4, (List.forall_mem_cons.2 ⟨hg5, (fun _ h_ => (List.not_mem_nil h_).elim)⟩)⟩)⟩)
  refine c_seq ?_
  refine reg ?_
  refine p_boxA rfl S fun b6 w7 S8 => ?_
  refine p_aI rfl ?_
  refine p_aI rfl ?_
  refine wp_nil ?_
  refine c_seq ?_
  refine reg ?_
  refine p_ldA ty24 sz24 (S8.atX (i := 0) rfl) rfl rfl ?_
  obtain ⟨r9, h10, H⟩ := bindS H
  refine p_cal (tally_asked_ok h10 (S8.atP (i := 0) rfl) (S8.atP (i := 1) rfl) (S8.atP (i := 2) rfl)) fu74 rfl ?_
  rintro _ w11 ⟨A13, c14, m15, rfl, k12, ⟨o16, n17⟩, ⟨o18, n19⟩, _⟩
  have S20 := S8.callN k12 [rd eTallyCount 7 A13 c14 r9.1.TallyBook.Counts, mpo ekT iE m15 r9.1.more_] (List.forall_mem_cons.2 ⟨⟨o16, Al.inL n17 ((List.forall_mem_cons.2 ⟨(fp_mem (i := 0) rfl), (fun _ h_ => (List.not_mem_nil h_).elim)⟩))⟩, (List.forall_mem_cons.2 ⟨⟨o18, New.inL n19⟩, (fun _ h_ => (List.not_mem_nil h_).elim)⟩)⟩)
  refine p_mT rfl ?_
  refine p_ext rfl rfl ?_
  refine p_ext rfl rfl ?_
  refine p_allA in86 S20 fun b21 w22 S23 => ?_
  refine p_stP (pre := []) (old := [I 0, I 0, SL none 0 0, Value.map none]) (post := []) (vs := [I r9.1.TallyBook.Trips, I r9.1.TallyBook.Room, SL A13 r9.1.TallyBook.Counts.length c14, Value.map m15]) sz86 S23 (i := 0) rfl rfl rfl rfl (rfl : _ = AG [I r9.1.TallyBook.Trips, I r9.1.TallyBook.Room, SL A13 r9.1.TallyBook.Counts.length c14, Value.map m15]) rfl rfl rfl rfl fun w24 S25 => ?_
  refine p_aI rfl ?_
  refine wp_nil ?_
  refine c_seq ?_
  refine c_seq ?_
  refine reg ?_
  refine p_mI rfl ?_
  refine p_cmp rfl rfl rfl ?_
  refine wp_nil ?_
  refine c_cond rfl (fun c26 => ?_) (fun c26 => ?_)
  · replace H := condT c26 H
    refine c_seq ?_
    refine reg ?_
    refine p_mI rfl ?_
    refine p_aI rfl ?_
    refine p_aI rfl ?_
    refine wp_nil ?_
    obtain rfl := Option.some.inj H
    refine c_ret ?_; show bodyPostM (Fr none) 0 Tryd.prog Tryd.f50 _ .ret _ _
    refine ret_of (res2 rfl (rvT (rfl : _ = I 0)) (rvT (rfl : _ = I r9.2))) ?_
    exact ⟨_, rfl, rfl, S25.keep⟩
  · replace H := condF c26 H
    refine c_skip ?_
    refine c_seq ?_
    refine c_seq ?_
    refine reg ?_
    refine p_ldA ty86 sz86 (S25.atX (i := 0) rfl) rfl rfl ?_
    refine p_fld fl24_0 rfl ?_
    refine p_ld ty3 (S25.atX (i := 1) rfl) rfl rfl ?_
    obtain ⟨r27, h28, H⟩ := bindS H
    refine p_cv (tally_book_many_ok h28 (S25.atP (i := 0) rfl) (S25.atP (i := 1) rfl) (S25.atP (i := 4) rfl)) fu76 rfl S25 fun w29 S30 => ?_
    refine p_allA in49 S30 fun b31 w32 S33 => ?_
    refine p_stP (pre := []) (old := [I 0, I 0]) (post := []) (vs := [I r27.Low, I r27.High]) sz49 S33 (i := 0) rfl rfl rfl rfl (rfl : _ = AG [I r27.Low, I r27.High]) rfl rfl rfl rfl fun w34 S35 => ?_
    refine wp_nil ?_
    refine c_seq ?_
    refine reg ?_
    refine p_fld fl49_0 rfl ?_
    refine p_ld ty3 (S35.atX (i := 0) rfl) rfl rfl ?_
    refine p_fld fl49_1 rfl ?_
    refine p_ld ty3 (S35.atX (i := 0) rfl) rfl rfl ?_
    refine p_cmp rfl rfl rfl ?_
    refine wp_nil ?_
    refine c_cond rfl (fun c36 => ?_) (fun c36 => ?_)
    · replace H := condT c36 H
      refine c_seq ?_
      refine reg ?_
      refine p_aI rfl ?_
      refine p_aI rfl ?_
      refine wp_nil ?_
      obtain rfl := Option.some.inj H
      refine c_ret ?_; show bodyPostM (Fr none) 0 Tryd.prog Tryd.f50 _ .ret _ _
      refine ret_of (res2 rfl (rvT (rfl : _ = I 0)) (rvT (rfl : _ = I 4))) ?_
      exact ⟨_, rfl, rfl, S35.keep⟩
    · replace H := condF c36 H
      refine c_skip ?_
      refine c_seq ?_
      refine reg ?_
      refine p_aI rfl ?_
      refine p_aI rfl ?_
      refine wp_nil ?_
      refine c_seq ?_
      refine c_seq ?_
      refine reg ?_
      refine p_fld fl24_0 rfl ?_
      refine p_ld ty3 (S35.atX (i := 2) rfl) rfl rfl ?_
      refine p_mI rfl ?_
      refine wp_nil ?_
      refine c_block ?_
      refine c_lop (α := Int × Int × Int) (β := Unit) (tally_Again_l8 a0 r9) (fun z_1 y_1 => [(1, P b6 0), (4, P b21 0), (7, I z_1.1), (8, I z_1.2.1), (33, I a0.Trips), (34, I z_1.2.2)]) (fun z_1 y_1 w_ => St w (fun _ => False) w_ [bl b31 [I r27.Low, I r27.High] 49, bl b21 [I r9.1.TallyBook.Trips, I r9.1.TallyBook.Room, SL A13 r9.1.TallyBook.Counts.length c14, Value.map m15] 86, bl b6 [I a0.Trips, I a0.Room, SL A1 a0.Counts.length c2] 24] [rd eTallyCount 7 A13 c14 r9.1.TallyBook.Counts, mpo ekT iE m15 r9.1.more_, rd eTallyCount 7 A1 c2 a0.Counts, bl 0 [Value.func (.func 117) #[] #[], Value.func (.func 119) #[] #[]] 117, bl 1 [I (-1), I (-1)] 115]) ((-1), 0, 0) () H ⟨rfl, rfl, rfl, rfl, rfl, rfl, trivial⟩ S35 ?_
      intro m37 z_1 y_1 e38 w39 H S40
      unfold tally_Again_l8 at H
      refine c_seq ?_
      refine reg ?_
      refine p_cmp rfl rfl rfl ?_
      refine wp_nil ?_
      refine c_seq ?_
      refine c_cond rfl (fun c41 => ?_) (fun c41 => ?_)
      · replace H := condT c41 H
        refine c_skip ?_
        refine c_seq ?_
        refine c_block ?_
        refine c_seq ?_
        refine reg ?_
        refine p_mI rfl ?_
        refine p_aI rfl ?_
        refine wp_nil ?_
        refine c_seq ?_
        refine reg ?_
        refine p_ldA ty86 sz86 (S40.atX (i := 1) rfl) rfl rfl ?_
        refine p_mI rfl ?_
        refine p_mI rfl ?_
        refine p_add rfl rfl ?_
        obtain ⟨r42, h43, H⟩ := bindS H
        refine p_cv (tally_book_many_ok h43 (S40.atP (i := 0) rfl) (S40.atP (i := 1) rfl) (S40.atP (i := 4) rfl)) fu76 rfl S40 fun w44 S45 => ?_
        refine p_allA in49 S45 fun b46 w47 S48 => ?_
        refine p_stP (pre := []) (old := [I 0, I 0]) (post := []) (vs := [I r42.Low, I r42.High]) sz49 S48 (i := 0) rfl rfl rfl rfl (rfl : _ = AG [I r42.Low, I r42.High]) rfl rfl rfl rfl fun w49 S50 => ?_
        refine p_aI rfl ?_
        refine wp_nil ?_
        refine c_seq ?_
        refine c_seq ?_
        refine reg ?_
        refine p_fld fl49_1 rfl ?_
        refine p_ld ty3 (S50.atX (i := 0) rfl) rfl rfl ?_
        refine p_fld fl49_0 rfl ?_
        refine p_ld ty3 (S50.atX (i := 0) rfl) rfl rfl ?_
        refine p_sub rfl rfl ?_
        refine p_add rfl rfl ?_
        refine p_mI rfl ?_
        refine wp_nil ?_
        refine c_block ?_
        refine c_lop (α := Int × Int) (β := Unit) (tally_Again_l7 r42 a0 z_1 (loopF (tally_Again_l8 a0 r9) m37)) (fun z_2 y_2 => [(1, P b6 0), (4, P b21 0), (7, I z_1.1), (8, I z_1.2.1), (9, I z_1.2.2), (10, P b46 0), (11, I z_2.1), (33, I a0.Trips), (34, I z_1.2.2), (47, I (wr ((wr (r42.High - r42.Low)) + 1))), (48, I z_2.2)]) (fun z_2 y_2 w_ => St w (fun _ => False) w_ [bl b46 [I r42.Low, I r42.High] 49, bl b31 [I r27.Low, I r27.High] 49, bl b21 [I r9.1.TallyBook.Trips, I r9.1.TallyBook.Room, SL A13 r9.1.TallyBook.Counts.length c14, Value.map m15] 86, bl b6 [I a0.Trips, I a0.Room, SL A1 a0.Counts.length c2] 24] [rd eTallyCount 7 A13 c14 r9.1.TallyBook.Counts, mpo ekT iE m15 r9.1.more_, rd eTallyCount 7 A1 c2 a0.Counts, bl 0 [Value.func (.func 117) #[] #[], Value.func (.func 119) #[] #[]] 117, bl 1 [I (-1), I (-1)] 115]) (0, 0) () H ⟨rfl, rfl, rfl, rfl, rfl, rfl, rfl, rfl, rfl, rfl, rfl, trivial⟩ S50 ?_
        intro m51 z_2 y_2 e52 w53 H S54
        unfold tally_Again_l7 at H
        refine c_seq ?_
        refine reg ?_
        refine p_cmp rfl rfl rfl ?_
        refine wp_nil ?_
        refine c_seq ?_
        refine c_cond rfl (fun c55 => ?_) (fun c55 => ?_)
        · replace H := condT c55 H
          refine c_skip ?_
          refine c_seq ?_
          refine c_block ?_
          refine c_seq ?_
          refine reg ?_
          refine p_mI rfl ?_
          refine p_aI rfl ?_
          refine wp_nil ?_
          refine c_seq ?_
          refine reg ?_
          refine p_mI rfl ?_
          refine p_mI rfl ?_
          refine p_fld fl49_0 rfl ?_
          refine p_ld ty3 (S54.atX (i := 0) rfl) rfl rfl ?_
          refine p_mI rfl ?_
          refine p_add rfl rfl ?_
          refine p_bld (cs := [I 2, I z_1.2.2, I z_1.2.2, I (wr (r42.Low + z_2.2)), I 1, I 0, I 0]) st33 (rfl : _ = [(0, I 2), (1, I z_1.2.2), (2, I z_1.2.2), (3, I (wr (r42.Low + z_2.2))), (4, I 1)]) (by kernel_rfl) ?_
          refine p_allA in33 S54 fun b56 w57 S58 => ?_
          refine p_stP (pre := []) (old := [I 0, I 0, I 0, I 0, I 0, I 0, I 0]) (post := []) (vs := [I 2, I z_1.2.2, I z_1.2.2, I (wr (r42.Low + z_2.2)), I 1, I 0, I 0]) sz33 S58 (i := 0) rfl rfl rfl rfl (rfl : _ = AG [I 2, I z_1.2.2, I z_1.2.2, I (wr (r42.Low + z_2.2)), I 1, I 0, I 0]) rfl rfl rfl rfl fun w59 S60 => ?_
          refine wp_nil ?_
          refine c_seq ?_
          obtain ⟨r63, h64, H⟩ := bindS H
          obtain ⟨r73, h74, H⟩ := bindS H
          obtain ⟨r83, h84, H⟩ := bindS H
          obtain ⟨r98, h99, H⟩ := bindS H
          refine reg_any mixed 9 (by kernel_rfl) [rv (AG [I a0.Trips, I a0.Room, SL A1 a0.Counts.length c2]), rv (AG [I 2, I z_1.2.2, I z_1.2.2, I (wr (r42.Low + z_2.2)), I 1, I 0, I 0]), rx (α := (Option Addr) × Nat) (fun ⟨A67, c68⟩ => AG [I r63.Trips, I r63.Room, SL A67 r63.Counts.length c68]) (fun ⟨A67, c68⟩ lo hi => BtwL lo hi [] (gr eTallyCount 7 33 A67 c68 r63.Counts) ∧ True) (fun ⟨A67, c68⟩ => [gr eTallyCount 7 33 A67 c68 r63.Counts]), rv (AG [Value.func (.func 91) #[] #[]]), rx (α := (Option Addr) × Nat × Nat) (fun ⟨A91, c92, m87⟩ => AG [I r83.TallyBook.Trips, I r83.TallyBook.Room, SL A91 r63.Counts.length c92, Value.map (some m87)]) (fun ⟨A91, c92, m87⟩ lo hi => BtwL lo hi [] (mp ekT iE m87 r83.more_) ∧ True) (fun ⟨A91, c92, m87⟩ => [mp ekT iE m87 r83.more_, gr eTallyCount 7 33 A91 c92 r63.Counts]), rv (P b6 0), rv (I a0.Trips), rv (AG [I r98.Low, I r98.High]), rx (α := Nat) (fun b102 => P b102 0) (fun b102 lo hi => BtwL lo hi [] (bl b102 [I 0, I 0] 49) ∧ True) (fun b102 => [bl b102 [I 0, I 0] 49])] [[], [], [], [], [], [], [], [], []] rfl (by kernel_rfl) [[], [], [0, 1], [0, 1, 2], [0, 1, 2, 3], [], [5], [0, 1, 2, 3, 4, 5, 6], [], [0, 1, 2, 3, 4, 5, 6, 7, 8]] (by kernel_rfl) ⟨?_, ?_, ?_, ?_, ?_, ?_, ?_, ?_, ?_, trivial⟩ ?_
          · intro e_ w_ k_ hf_ hR_
            have S_ : St w_ (fun _ => False) w_ [] [bl b56 [I 2, I z_1.2.2, I z_1.2.2, I (wr (r42.Low + z_2.2)), I 1, I 0, I 0] 33, bl b46 [I r42.Low, I r42.High] 49, bl b31 [I r27.Low, I r27.High] 49, bl b21 [I r9.1.TallyBook.Trips, I r9.1.TallyBook.Room, SL A13 r9.1.TallyBook.Counts.length c14, Value.map m15] 86, bl b6 [I a0.Trips, I a0.Room, SL A1 a0.Counts.length c2] 24, rd eTallyCount 7 A13 c14 r9.1.TallyBook.Counts, mpo ekT iE m15 r9.1.more_, rd eTallyCount 7 A1 c2 a0.Counts, bl 0 [Value.func (.func 117) #[] #[], Value.func (.func 119) #[] #[]] 117, bl 1 [I (-1), I (-1)] 115] := S60.asP k_
            refine hopE [(1, P b6 0)] ⟨((hf_ 1 rfl).trans (rfl : _ = P b6 0)), trivial⟩ ?_
            refine p_ldA ty24 sz24 (S_.atP (i := 4) rfl) rfl rfl ?_
            refine wp_nil ?_
            exact ⟨_, rfl, S_.keep, rfl⟩
          · intro e_ w_ k_ hf_ hR_
            have S_ : St w_ (fun _ => False) w_ [] [bl b56 [I 2, I z_1.2.2, I z_1.2.2, I (wr (r42.Low + z_2.2)), I 1, I 0, I 0] 33, bl b46 [I r42.Low, I r42.High] 49, bl b31 [I r27.Low, I r27.High] 49, bl b21 [I r9.1.TallyBook.Trips, I r9.1.TallyBook.Room, SL A13 r9.1.TallyBook.Counts.length c14, Value.map m15] 86, bl b6 [I a0.Trips, I a0.Room, SL A1 a0.Counts.length c2] 24, rd eTallyCount 7 A13 c14 r9.1.TallyBook.Counts, mpo ekT iE m15 r9.1.more_, rd eTallyCount 7 A1 c2 a0.Counts, bl 0 [Value.func (.func 117) #[] #[], Value.func (.func 119) #[] #[]] 117, bl 1 [I (-1), I (-1)] 115] := S60.asP k_
            refine hopE [(13, P b56 0)] ⟨((hf_ 13 rfl).trans (rfl : _ = P b56 0)), trivial⟩ ?_
            refine p_ldA ty33 sz33 (S_.atP (i := 0) rfl) rfl rfl ?_
            refine wp_nil ?_
            exact ⟨_, rfl, S_.keep, rfl⟩
          · intro e_ w_ k_ hf_ hR_
            have S_ : St w_ (fun _ => False) w_ [] [bl b56 [I 2, I z_1.2.2, I z_1.2.2, I (wr (r42.Low + z_2.2)), I 1, I 0, I 0] 33, bl b46 [I r42.Low, I r42.High] 49, bl b31 [I r27.Low, I r27.High] 49, bl b21 [I r9.1.TallyBook.Trips, I r9.1.TallyBook.Room, SL A13 r9.1.TallyBook.Counts.length c14, Value.map m15] 86, bl b6 [I a0.Trips, I a0.Room, SL A1 a0.Counts.length c2] 24, rd eTallyCount 7 A13 c14 r9.1.TallyBook.Counts, mpo ekT iE m15 r9.1.more_, rd eTallyCount 7 A1 c2 a0.Counts, bl 0 [Value.func (.func 117) #[] #[], Value.func (.func 119) #[] #[]] 117, bl 1 [I (-1), I (-1)] 115] := S60.asP k_
            obtain ⟨_, _, _, _, q61⟩ := hR_ 0 58 rfl (Nat.le_of_ble_eq_true rfl) rfl
            obtain ⟨_, _, _, _, q62⟩ := hR_ 1 59 rfl (Nat.le_of_ble_eq_true rfl) rfl
            refine hopE [(58, AG [I a0.Trips, I a0.Room, SL A1 a0.Counts.length c2]), (59, AG [I 2, I z_1.2.2, I z_1.2.2, I (wr (r42.Low + z_2.2)), I 1, I 0, I 0])] ⟨q61, q62, trivial⟩ ?_
            refine p_cal (tally_with_ok h64 (S_.atP (i := 7) rfl)) fu78 rfl ?_
            rintro _ w65 ⟨A67, c68, rfl, k66, ⟨o69, n70⟩, _⟩
            have S72 := S_.addNew k66 o69 n70
            refine wp_nil ?_
            exact ⟨_, rfl, S72.keep, ⟨(A67, c68), rfl, ⟨BtwL.of (New.al (S72.newX (i := 0) rfl)) rfl (S72.atX (i := 0) rfl) rfl, trivial⟩, (List.forall_mem_cons.2 ⟨(S72.atX (i := 0) rfl), (fun _ h_ => (List.not_mem_nil h_).elim)⟩)⟩⟩
          · intro e_ w_ k_ hf_ hR_
            have S_ : St w_ (fun _ => False) w_ [] [bl b56 [I 2, I z_1.2.2, I z_1.2.2, I (wr (r42.Low + z_2.2)), I 1, I 0, I 0] 33, bl b46 [I r42.Low, I r42.High] 49, bl b31 [I r27.Low, I r27.High] 49, bl b21 [I r9.1.TallyBook.Trips, I r9.1.TallyBook.Room, SL A13 r9.1.TallyBook.Counts.length c14, Value.map m15] 86, bl b6 [I a0.Trips, I a0.Room, SL A1 a0.Counts.length c2] 24, rd eTallyCount 7 A13 c14 r9.1.TallyBook.Counts, mpo ekT iE m15 r9.1.more_, rd eTallyCount 7 A1 c2 a0.Counts, bl 0 [Value.func (.func 117) #[] #[], Value.func (.func 119) #[] #[]] 117, bl 1 [I (-1), I (-1)] 115] := S60.asP k_
            refine hopE [] trivial ?_
            refine p_cv (tally_nobody_ok h74) fu67 rfl S_ fun w75 S76 => ?_
            refine wp_nil ?_
            exact ⟨_, rfl, S76.keep, rfl⟩
          · intro e_ w_ k_ hf_ hR_
            have S_ : St w_ (fun _ => False) w_ [] [bl b56 [I 2, I z_1.2.2, I z_1.2.2, I (wr (r42.Low + z_2.2)), I 1, I 0, I 0] 33, bl b46 [I r42.Low, I r42.High] 49, bl b31 [I r27.Low, I r27.High] 49, bl b21 [I r9.1.TallyBook.Trips, I r9.1.TallyBook.Room, SL A13 r9.1.TallyBook.Counts.length c14, Value.map m15] 86, bl b6 [I a0.Trips, I a0.Room, SL A1 a0.Counts.length c2] 24, rd eTallyCount 7 A13 c14 r9.1.TallyBook.Counts, mpo ekT iE m15 r9.1.more_, rd eTallyCount 7 A1 c2 a0.Counts, bl 0 [Value.func (.func 117) #[] #[], Value.func (.func 119) #[] #[]] 117, bl 1 [I (-1), I (-1)] 115] := S60.asP k_
            obtain ⟨_, _, _, _, ⟨A67, c68⟩, q77, p78, a79⟩ := hR_ 2 60 rfl (Nat.le_of_ble_eq_true rfl) rfl
            replace q77 : e_ 60 = AG [I r63.Trips, I r63.Room, SL A67 r63.Counts.length c68] := q77
            have S_ := St.addL' S_ (a79 _ (.head _)) (fun _ _ _ h_ => (List.not_mem_nil h_).elim)
            obtain ⟨_, _, _, _, q80⟩ := hR_ 3 61 rfl (Nat.le_of_ble_eq_true rfl) rfl
            refine hopE [(60, AG [I r63.Trips, I r63.Room, SL A67 r63.Counts.length c68]), (61, AG [Value.func (.func 91) #[] #[]])] ⟨q77, q80, trivial⟩ ?_
            refine p_cal (tally_opened_ok h84 (gr_rd eTallyCount_len (S_.atP (i := 0) rfl)) (by kernel_rfl) (fun _ _ _ _ k_ hr_ => tally_nobody_1_ok hr_) (S_.atP (i := 9) rfl)) fu66 rfl ?_
            rintro _ w85 ⟨m87, rfl, k86, ⟨o88, n89⟩, _⟩
            have S90 := S_.addNew k86 o88 n89
            refine wp_nil ?_
            exact ⟨_, rfl, S90.keep, ⟨(A67, c68, m87), rfl, ⟨BtwL.of (New.al (S90.newX (i := 0) rfl)) rfl (S90.atX (i := 0) rfl) rfl, trivial⟩, (List.forall_mem_cons.2 ⟨(S90.atX (i := 0) rfl), (List.forall_mem_cons.2 ⟨(S90.atP (i := 0) rfl), (fun _ h_ => (List.not_mem_nil h_).elim)⟩)⟩)⟩⟩
          · intro e_ w_ k_ hf_ hR_
            have S_ : St w_ (fun _ => False) w_ [] [bl b56 [I 2, I z_1.2.2, I z_1.2.2, I (wr (r42.Low + z_2.2)), I 1, I 0, I 0] 33, bl b46 [I r42.Low, I r42.High] 49, bl b31 [I r27.Low, I r27.High] 49, bl b21 [I r9.1.TallyBook.Trips, I r9.1.TallyBook.Room, SL A13 r9.1.TallyBook.Counts.length c14, Value.map m15] 86, bl b6 [I a0.Trips, I a0.Room, SL A1 a0.Counts.length c2] 24, rd eTallyCount 7 A13 c14 r9.1.TallyBook.Counts, mpo ekT iE m15 r9.1.more_, rd eTallyCount 7 A1 c2 a0.Counts, bl 0 [Value.func (.func 117) #[] #[], Value.func (.func 119) #[] #[]] 117, bl 1 [I (-1), I (-1)] 115] := S60.asP k_
            refine hopE [(1, P b6 0)] ⟨((hf_ 1 rfl).trans (rfl : _ = P b6 0)), trivial⟩ ?_
            refine p_fld fl24_0 rfl ?_
            refine wp_nil ?_
            exact ⟨_, rfl, S_.keep, rfl⟩
          · intro e_ w_ k_ hf_ hR_
            have S_ : St w_ (fun _ => False) w_ [] [bl b56 [I 2, I z_1.2.2, I z_1.2.2, I (wr (r42.Low + z_2.2)), I 1, I 0, I 0] 33, bl b46 [I r42.Low, I r42.High] 49, bl b31 [I r27.Low, I r27.High] 49, bl b21 [I r9.1.TallyBook.Trips, I r9.1.TallyBook.Room, SL A13 r9.1.TallyBook.Counts.length c14, Value.map m15] 86, bl b6 [I a0.Trips, I a0.Room, SL A1 a0.Counts.length c2] 24, rd eTallyCount 7 A13 c14 r9.1.TallyBook.Counts, mpo ekT iE m15 r9.1.more_, rd eTallyCount 7 A1 c2 a0.Counts, bl 0 [Value.func (.func 117) #[] #[], Value.func (.func 119) #[] #[]] 117, bl 1 [I (-1), I (-1)] 115] := S60.asP k_
            obtain ⟨_, _, _, _, q93⟩ := hR_ 5 63 rfl (Nat.le_of_ble_eq_true rfl) rfl
            refine hopE [(63, P b6 0)] ⟨q93, trivial⟩ ?_
            refine p_ld ty3 (S_.atP (i := 4) rfl) rfl rfl ?_
            refine wp_nil ?_
            exact ⟨_, rfl, S_.keep, rfl⟩
          · intro e_ w_ k_ hf_ hR_
            have S_ : St w_ (fun _ => False) w_ [] [bl b56 [I 2, I z_1.2.2, I z_1.2.2, I (wr (r42.Low + z_2.2)), I 1, I 0, I 0] 33, bl b46 [I r42.Low, I r42.High] 49, bl b31 [I r27.Low, I r27.High] 49, bl b21 [I r9.1.TallyBook.Trips, I r9.1.TallyBook.Room, SL A13 r9.1.TallyBook.Counts.length c14, Value.map m15] 86, bl b6 [I a0.Trips, I a0.Room, SL A1 a0.Counts.length c2] 24, rd eTallyCount 7 A13 c14 r9.1.TallyBook.Counts, mpo ekT iE m15 r9.1.more_, rd eTallyCount 7 A1 c2 a0.Counts, bl 0 [Value.func (.func 117) #[] #[], Value.func (.func 119) #[] #[]] 117, bl 1 [I (-1), I (-1)] 115] := S60.asP k_
            obtain ⟨_, _, _, _, ⟨A91, c92, m87⟩, q94, p95, a96⟩ := hR_ 4 62 rfl (Nat.le_of_ble_eq_true rfl) rfl
            replace q94 : e_ 62 = AG [I r83.TallyBook.Trips, I r83.TallyBook.Room, SL A91 r63.Counts.length c92, Value.map (some m87)] := q94
            have S_ := St.addL' S_ (a96 _ (.head _)) (fun _ _ _ h_ => (List.not_mem_nil h_).elim)
            have S_ := St.addL' S_ (a96 _ (.tail _ (.head _))) (fun _ _ _ h_ => (List.not_mem_nil h_).elim)
            obtain ⟨_, _, _, _, q97⟩ := hR_ 6 64 rfl (Nat.le_of_ble_eq_true rfl) rfl
            refine hopE [(62, AG [I r83.TallyBook.Trips, I r83.TallyBook.Room, SL A91 r63.Counts.length c92, Value.map (some m87)]), (64, I a0.Trips)] ⟨q94, q97, trivial⟩ ?_
            refine p_cv (tally_book_many_ok h99 (gr_rd eTallyCount_len (S_.atP (i := 0) rfl)) (mpo_some (S_.atP (i := 1) rfl)) (S_.atP (i := 11) rfl)) fu76 rfl S_ fun w100 S101 => ?_
            refine wp_nil ?_
            exact ⟨_, rfl, S101.keep, rfl⟩
          · intro e_ w_ k_ hf_ hR_
            have S_ : St w_ (fun _ => False) w_ [] [bl b56 [I 2, I z_1.2.2, I z_1.2.2, I (wr (r42.Low + z_2.2)), I 1, I 0, I 0] 33, bl b46 [I r42.Low, I r42.High] 49, bl b31 [I r27.Low, I r27.High] 49, bl b21 [I r9.1.TallyBook.Trips, I r9.1.TallyBook.Room, SL A13 r9.1.TallyBook.Counts.length c14, Value.map m15] 86, bl b6 [I a0.Trips, I a0.Room, SL A1 a0.Counts.length c2] 24, rd eTallyCount 7 A13 c14 r9.1.TallyBook.Counts, mpo ekT iE m15 r9.1.more_, rd eTallyCount 7 A1 c2 a0.Counts, bl 0 [Value.func (.func 117) #[] #[], Value.func (.func 119) #[] #[]] 117, bl 1 [I (-1), I (-1)] 115] := S60.asP k_
            refine hopE [] trivial ?_
            refine p_allA in49 S_ fun b102 w103 S104 => ?_
            refine wp_nil ?_
            exact ⟨_, rfl, S104.keep, ⟨b102, rfl, ⟨BtwL.of (New.al (S104.newX (i := 0) rfl)) rfl (S104.atX (i := 0) rfl) rfl, trivial⟩, (List.forall_mem_cons.2 ⟨(S104.atX (i := 0) rfl), (fun _ h_ => (List.not_mem_nil h_).elim)⟩)⟩⟩
          intro e105 w106 lo107 hi108 k109 hf110 hR111 hd112
          have S113 := S60.call k109
          have q114 : e105 58 = AG [I a0.Trips, I a0.Room, SL A1 a0.Counts.length c2] := (hR111 0 58 (Nat.le_of_ble_eq_true rfl) rfl).2.2.2
          have q115 : e105 59 = AG [I 2, I z_1.2.2, I z_1.2.2, I (wr (r42.Low + z_2.2)), I 1, I 0, I 0] := (hR111 1 59 (Nat.le_of_ble_eq_true rfl) rfl).2.2.2
          obtain ⟨h117, h118, h119, ⟨A67, c68⟩, q116, h120, h121⟩ := hR111 2 60 (Nat.le_of_ble_eq_true rfl) rfl
          replace q116 : e105 60 = AG [I r63.Trips, I r63.Room, SL A67 r63.Counts.length c68] := q116
          obtain ⟨p122, _⟩ := h120
          have q124 : e105 61 = AG [Value.func (.func 91) #[] #[]] := (hR111 3 61 (Nat.le_of_ble_eq_true rfl) rfl).2.2.2
          obtain ⟨h126, h127, h128, ⟨A91, c92, m87⟩, q125, h129, h130⟩ := hR111 4 62 (Nat.le_of_ble_eq_true rfl) rfl
          replace q125 : e105 62 = AG [I r83.TallyBook.Trips, I r83.TallyBook.Room, SL A91 r63.Counts.length c92, Value.map (some m87)] := q125
          obtain ⟨p131, _⟩ := h129
          have q133 : e105 63 = P b6 0 := (hR111 5 63 (Nat.le_of_ble_eq_true rfl) rfl).2.2.2
          have q134 : e105 64 = I a0.Trips := (hR111 6 64 (Nat.le_of_ble_eq_true rfl) rfl).2.2.2
          have q135 : e105 65 = AG [I r98.Low, I r98.High] := (hR111 7 65 (Nat.le_of_ble_eq_true rfl) rfl).2.2.2
          obtain ⟨h137, h138, h139, b102, q136, h140, h141⟩ := hR111 8 14 (Nat.le_of_ble_eq_true rfl) rfl
          replace q136 : e105 14 = P b102 0 := q136
          obtain ⟨p142, _⟩ := h140
          have S144 := St.addO S113 (h141 _ (.head _)) (fun b_ h_ => (p142 b_ h_).elim (fun q_ => Nat.le_trans S60.keep.size (Nat.le_trans h137 q_.1)) (fun ⟨_, hq_, _⟩ => (List.not_mem_nil hq_).elim)) (List.forall_mem_cons.2 ⟨(fun b_ h1_ h2_ => (p142 b_ h1_).elim (fun q2_ => by have q1_ := Asr.inb _ _ _ (S60.atX (i := 0) rfl) h2_; omega) (fun ⟨_, hq_, _⟩ => (List.not_mem_nil hq_).elim)), (List.forall_mem_cons.2 ⟨(fun b_ h1_ h2_ => (p142 b_ h1_).elim (fun q2_ => by have q1_ := Asr.inb _ _ _ (S60.atX (i := 1) rfl) h2_; omega) (fun ⟨_, hq_, _⟩ => (List.not_mem_nil hq_).elim)), (List.forall_mem_cons.2 ⟨(fun b_ h1_ h2_ => (p142 b_ h1_).elim (fun q2_ => by have q1_ := Asr.inb _ _ _ (S60.atX (i := 2) rfl) h2_; omega) (fun ⟨_, hq_, _⟩ => (List.not_mem_nil hq_).elim)), (List.forall_mem_cons.2 ⟨(fun b_ h1_ h2_ => (p142 b_ h1_).elim (fun q2_ => by have q1_ := Asr.inb _ _ _ (S60.atX (i := 3) rfl) h2_; omega) (fun ⟨_, hq_, _⟩ => (List.not_mem_nil hq_).elim)), (List.forall_mem_cons.2 ⟨(fun b_ h1_ h2_ => (p142 b_ h1_).elim (fun q2_ => by have q1_ := Asr.inb _ _ _ (S60.atX (i := 4) rfl) h2_; omega) (fun ⟨_, hq_, _⟩ => (List.not_mem_nil hq_).elim)), (fun _ h_ => (List.not_mem_nil h_).elim)⟩)⟩)⟩)⟩)⟩) (List.forall_mem_cons.2 ⟨(fun b_ h1_ h2_ => (p142 b_ h1_).elim (fun q2_ => by have q1_ := Asr.inb _ _ _ (S60.atP (i := 0) rfl) h2_; omega) (fun ⟨_, hq_, _⟩ => (List.not_mem_nil hq_).elim)), (List.forall_mem_cons.2 ⟨(fun b_ h1_ h2_ => (p142 b_ h1_).elim (fun q2_ => by have q1_ := Asr.inb _ _ _ (S60.atP (i := 1) rfl) h2_; omega) (fun ⟨_, hq_, _⟩ => (List.not_mem_nil hq_).elim)), (List.forall_mem_cons.2 ⟨(fun b_ h1_ h2_ => (p142 b_ h1_).elim (fun q2_ => by have q1_ := Asr.inb _ _ _ (S60.atP (i := 2) rfl) h2_; omega) (fun ⟨_, hq_, _⟩ => (List.not_mem_nil hq_).elim)), (List.forall_mem_cons.2 ⟨(fun b_ h1_ h2_ => (p142 b_ h1_).elim (fun q2_ => by have q1_ := Asr.inb _ _ _ (S60.atP (i := 3) rfl) h2_; omega) (fun ⟨_, hq_, _⟩ => (List.not_mem_nil hq_).elim)), (List.forall_mem_cons.2 ⟨(fun b_ h1_ h2_ => (p142 b_ h1_).elim (fun q2_ => by have q1_ := Asr.inb _ _ _ (S60.atP (i := 4) rfl) h2_; omega) (fun ⟨_, hq_, _⟩ => (List.not_mem_nil hq_).elim)), (fun _ h_ => (List.not_mem_nil h_).elim)⟩)⟩)⟩)⟩)⟩)
          refine tailE [(1, P b6 0), (4, P b21 0), (7, I z_1.1), (8, I z_1.2.1), (9, I z_1.2.2), (10, P b46 0), (11, I z_2.1), (14, P b102 0), (33, I a0.Trips), (34, I z_1.2.2), (47, I (wr ((wr (r42.High - r42.Low)) + 1))), (48, I z_2.2), (65, AG [I r98.Low, I r98.High])] ⟨((hf110 1 rfl).trans (rfl : _ = P b6 0)), ((hf110 4 rfl).trans (rfl : _ = P b21 0)), ((hf110 7 rfl).trans (rfl : _ = I z_1.1)), ((hf110 8 rfl).trans (rfl : _ = I z_1.2.1)), ((hf110 9 rfl).trans (rfl : _ = I z_1.2.2)), ((hf110 10 rfl).trans (rfl : _ = P b46 0)), ((hf110 11 rfl).trans (rfl : _ = I z_2.1)), q136, ((hf110 33 rfl).trans (rfl : _ = I a0.Trips)), ((hf110 34 rfl).trans (rfl : _ = I z_1.2.2)), ((hf110 47 rfl).trans (rfl : _ = I (wr ((wr (r42.High - r42.Low)) + 1)))), ((hf110 48 rfl).trans (rfl : _ = I z_2.2)), q135, trivial⟩ ?_
          intro g145
          refine p_stP (pre := []) (old := [I 0, I 0]) (post := []) (vs := [I r98.Low, I r98.High]) sz49 S144 (i := 0) rfl rfl rfl rfl (rfl : _ = AG [I r98.Low, I r98.High]) rfl rfl rfl rfl fun w146 S147 => ?_
          refine wp_nil ?_
          refine reg ?_
          refine p_mI rfl ?_
          refine p_fld fl49_1 rfl ?_
          refine p_ld ty3 (S147.atX (i := 0) rfl) rfl rfl ?_
          refine p_fld fl49_0 rfl ?_
          refine p_ld ty3 (S147.atX (i := 0) rfl) rfl rfl ?_
          refine p_sub rfl rfl ?_
          refine p_max rfl rfl ?_
          refine p_aI rfl ?_
          refine wp_nil ?_
          refine reg ?_
          refine p_add rfl rfl ?_
          refine p_mI rfl ?_
          refine wp_nil ?_
          have S148 := S147.pk [2, 3, 4, 5] (by decide) [0, 1, 2, 3, 4] rfl rfl
          exact ⟨((if (wr (r98.High - r98.Low)) > z_2.1 then (wr (r98.High - r98.Low)) else z_2.1), wr (z_2.2 + 1)), (), _, rfl, ⟨rfl, rfl, rfl, rfl, rfl, rfl, rfl, rfl, rfl, rfl, rfl, trivial⟩, H, S148⟩
        · replace H := condF c55 H
          refine c_exit ?_
          refine c_join (α := Bool) (β := Unit) (fun z_3 y_3 => [(1, P b6 0), (4, P b21 0), (7, I z_1.1), (8, I z_1.2.1), (9, I z_1.2.2), (11, I z_2.1), (33, I a0.Trips), (34, I z_1.2.2), (80, B z_3)]) (fun z_3 y_3 w_ => tally_Again_j6 (loopF (tally_Again_l8 a0 r9) m37) z_1 z_2 z_3 = some r ∧ St w (fun _ => False) w_ [bl b46 [I r42.Low, I r42.High] 49, bl b31 [I r27.Low, I r27.High] 49, bl b21 [I r9.1.TallyBook.Trips, I r9.1.TallyBook.Room, SL A13 r9.1.TallyBook.Counts.length c14, Value.map m15] 86, bl b6 [I a0.Trips, I a0.Room, SL A1 a0.Counts.length c2] 24] [rd eTallyCount 7 A13 c14 r9.1.TallyBook.Counts, mpo ekT iE m15 r9.1.more_, rd eTallyCount 7 A1 c2 a0.Counts, bl 0 [Value.func (.func 117) #[] #[], Value.func (.func 119) #[] #[]] 117, bl 1 [I (-1), I (-1)] 115]) ?_ ?_
          · refine reg ?_
            refine p_mI rfl ?_
            refine p_cmp rfl rfl rfl ?_
            refine p_mB rfl ?_
            rcases Bool.eq_false_or_eq_true (decide (z_1.1 < 0)) with c149 | c149
            · replace H := condT c149 H
              refine eB c149 ?_
              refine gF rfl rfl ?_
              refine gF rfl rfl ?_
              refine gF rfl rfl ?_
              refine p_pkT rfl (rfl : _ = B true) ?_
              refine wp_nil ?_
              exact ⟨true, (), _, rfl, ⟨rfl, rfl, rfl, rfl, rfl, rfl, rfl, rfl, rfl, trivial⟩, H, S54⟩
            · replace H := condF c149 H
              refine eB c149 ?_
              refine gT rfl rfl (p_mI rfl ?_)
              refine gT rfl rfl (p_mI rfl ?_)
              refine gT rfl rfl (p_cmp rfl rfl rfl ?_)
              refine p_pkF rfl (rfl : _ = B (decide (z_2.1 < z_1.2.1))) ?_
              refine wp_nil ?_
              exact ⟨decide (z_2.1 < z_1.2.1), (), _, rfl, ⟨rfl, rfl, rfl, rfl, rfl, rfl, rfl, rfl, rfl, trivial⟩, H, S54⟩
          · intro z_3 y_3 e149 w150 S151; obtain ⟨H, S151⟩ := S151
            unfold tally_Again_j6 at H
            refine c_cond rfl (fun c152 => ?_) (fun c152 => ?_)
            · replace H := condT c152 H
              refine reg ?_
              refine p_mI rfl ?_
              refine p_mI rfl ?_
              refine p_aI rfl ?_
              refine p_aI rfl ?_
              refine wp_nil ?_
              refine reg ?_
              refine p_add rfl rfl ?_
              refine p_mI rfl ?_
              refine wp_nil ?_
              have S153 := S151.pk [1, 2, 3] (by decide) [0, 1, 2, 3, 4] rfl rfl
              exact ⟨(z_1.2.2, z_2.1, wr (z_1.2.2 + 1)), (), _, rfl, ⟨rfl, rfl, rfl, rfl, rfl, rfl, trivial⟩, H, S153⟩
            · replace H := condF c152 H
              refine c_skip ?_
              refine reg ?_
              refine p_add rfl rfl ?_
              refine p_mI rfl ?_
              refine wp_nil ?_
              have S154 := S151.pk [1, 2, 3] (by decide) [0, 1, 2, 3, 4] rfl rfl
              exact ⟨(z_1.1, z_1.2.1, wr (z_1.2.2 + 1)), (), _, rfl, ⟨rfl, rfl, rfl, rfl, rfl, rfl, trivial⟩, H, S154⟩
      · replace H := condF c41 H
        refine c_exit ?_
        refine c_seq ?_
        refine reg ?_
        refine p_mI rfl ?_
        refine p_aI rfl ?_
        refine p_aI rfl ?_
        refine wp_nil ?_
        obtain rfl := Option.some.inj H
        refine c_ret ?_; show bodyPostM (Fr none) 0 Tryd.prog Tryd.f50 _ .ret _ _
        refine ret_of (res2 rfl (rvT (rfl : _ = I z_1.1)) (rvT (rfl : _ = I 0))) ?_
        exact ⟨_, rfl, rfl, S40.keep⟩

def law_own : Option TallyBook :=
  (law_count 0 0 3 1 20 4 4).bind fun r4 =>
  (law_count 1 0 1 9 1 2 0).bind fun r8 =>
  (law_count 2 2 2 6 1 0 1).bind fun r12 =>
  some (TallyBook.mk 4 10 [r4, r8, r12])

set_option maxRecDepth 100000 in
theorem law_own_ok {w : World} {r : TallyBook} (H : law_own = some r) : Calls Tryd.prog 52 #[] w fun en w_ => ∃ u_, en = .returned u_ ∧ ∃ A_1 : Option Addr, ∃ c_2 : Nat, u_ = AG [I r.Trips, I r.Room, SL A_1 r.Counts.length c_2] ∧ Keep0 w w_ ∧ ((gr eTallyCount 7 33 A_1 c_2 r.Counts).ok w_ ∧ New w.heap.size (gr eTallyCount 7 33 A_1 c_2 r.Counts)) ∧ True := by
  unfold law_own at H
  refine fn_of (n := 6) Tryd.func52 rfl rfl (Nat.le_of_ble_eq_true rfl) ?_
  have S : St w (fun _ => False) w [] [] := St.start w _ _ (fun _ h_ => (List.not_mem_nil h_).elim)
  refine c_seq ?_
  refine reg ?_
  refine p_allA in24 S fun b1 w2 S3 => ?_
  refine wp_nil ?_
  refine c_seq ?_
  refine reg ?_
  obtain ⟨r4, h5, H⟩ := bindS H
  refine p_cv (law_count_ok h5) fu37 rfl S3 fun w6 S7 => ?_
  obtain ⟨r8, h9, H⟩ := bindS H
  refine p_cv (law_count_ok h9) fu37 rfl S7 fun w10 S11 => ?_
  obtain ⟨r12, h13, H⟩ := bindS H
  refine p_cv (law_count_ok h13) fu37 rfl S11 fun w14 S15 => ?_
  refine p_bsl (enc := eTallyCount) (l := [r4, r8, r12]) (fun x => AG (eTallyCount x)) (fun _ => rfl) sc22 in33 eTallyCount_len rfl (by decide) (by decide) zr33_3 S15 rfl fun A16 c17 w18 S19 => ?_
  refine p_bld (cs := [I 4, I 10, SL A16 [r4, r8, r12].length c17]) st24 (rfl : _ = [(0, I 4), (1, I 10), (2, SL A16 [r4, r8, r12].length c17)]) (by kernel_rfl) ?_
  refine p_stP (pre := []) (old := [I 0, I 0, SL none 0 0]) (post := []) (vs := [I 4, I 10, SL A16 [r4, r8, r12].length c17]) sz24 S19 (i := 1) rfl rfl rfl rfl (rfl : _ = AG [I 4, I 10, SL A16 [r4, r8, r12].length c17]) rfl rfl rfl rfl fun w21 S22 => ?_
  refine wp_nil ?_
  obtain rfl := Option.some.inj H
  refine c_ret ?_; show bodyPostM (Fr none) 0 Tryd.prog Tryd.f52 _ .ret _ _
  refine ret_of (res1 rfl (rvA rfl ty24 sz24 (S22.atX (i := 1) rfl) rfl)) ?_
  exact ⟨_, rfl, A16, c17, rfl, S22.keep, ⟨S22.atX (i := 0) rfl, S22.newX (i := 0) rfl⟩, trivial⟩

def law_torn : Option TallyBook :=
  (law_own).bind fun r4 =>
  (law_count 2 0 3 26 1 0 0).bind fun r19 =>
  need (fitsL (r4.Counts.length + ([r19] : List TallyCount).length) 56) <|
  some (TallyBook.mk r4.Trips r4.Room (r4.Counts ++ ([r19] : List TallyCount)))

set_option maxRecDepth 100000 in
theorem law_torn_ok {w : World} {r : TallyBook} (H : law_torn = some r) : Calls Tryd.prog 54 #[] w fun en w_ => ∃ u_, en = .returned u_ ∧ ∃ A_1 : Option Addr, ∃ c_2 : Nat, u_ = AG [I r.Trips, I r.Room, SL A_1 r.Counts.length c_2] ∧ Keep0 w w_ ∧ ((gr eTallyCount 7 33 A_1 c_2 r.Counts).ok w_ ∧ New w.heap.size (gr eTallyCount 7 33 A_1 c_2 r.Counts)) ∧ True := by
  unfold law_torn at H
  refine fn_of (n := 10) Tryd.func54 rfl rfl (Nat.le_of_ble_eq_true rfl) ?_
  have S : St w (fun _ => False) w [] [] := St.start w _ _ (fun _ h_ => (List.not_mem_nil h_).elim)
  refine c_seq ?_
  refine reg ?_
  refine p_allA in24 S fun b1 w2 S3 => ?_
  refine wp_nil ?_
  refine c_seq ?_
  refine reg ?_
  obtain ⟨r4, h5, H⟩ := bindS H
  refine p_cal (law_own_ok h5) fu52 rfl ?_
  rintro _ w6 ⟨A8, c9, rfl, k7, ⟨o10, n11⟩, _⟩
  have S13 := S3.addNew k7 o10 n11
  refine p_allA in24 S13 fun b14 w15 S16 => ?_
  refine p_stP (pre := []) (old := [I 0, I 0, SL none 0 0]) (post := []) (vs := [I r4.Trips, I r4.Room, SL A8 r4.Counts.length c9]) sz24 S16 (i := 0) rfl rfl rfl rfl (rfl : _ = AG [I r4.Trips, I r4.Room, SL A8 r4.Counts.length c9]) rfl rfl rfl rfl fun w17 S18 => ?_
  refine wp_nil ?_
  refine c_seq ?_
  obtain ⟨r19, h20, H⟩ := bindS H
  refine reg_c mixed 4 [3] (by kernel_rfl) ?_
  refine kS rfl (fun _ k_ => p_fld fl24_2 rfl dn) ?_
  refine kS rfl (fun _ k_ => p_ld ty22 (Asr.stays (S18.atX (i := 0) rfl) k_) rfl rfl dn) ?_
  refine kS rfl (fun _ k_ => p_cvD (law_count_ok h20) fu37 rfl) ?_
  refine kC rfl ?_
  intro w21 k22; have S23 := S18.call k22
  have S29 := S23.base
  refine p_bsl (enc := eTallyCount) (l := ([r19] : List TallyCount)) (fun x => AG (eTallyCount x)) (fun _ => rfl) sc22 in33 eTallyCount_len rfl (by decide) (by decide) zr33_1 S29 rfl fun A24 c25 w26 S27 => ?_
  refine cN S27.keep fun w30 k31 => ?_
  have S32 := (S23.fromBase S27).call k31
  obtain ⟨h37, H⟩ := needS H
  refine p_app (enc := eTallyCount) sc22 in33 rfl eTallyCount_len eTallyCount_one (by decide) S32 (k := 2) rfl (gr_sl eTallyCount_len (S32.atX (i := 0) rfl)) h37 (by simp) rfl rfl fun A35 c36 w33 S34 => ?_
  refine p_fld fl24_2 rfl ?_
  refine p_stP (pre := [I r4.Trips, I r4.Room]) (old := [SL A8 r4.Counts.length c9]) (post := []) (vs := [SL A35 (r4.Counts ++ ([r19] : List TallyCount)).length c36]) sz22 S34 (i := 1) rfl rfl rfl rfl (rfl : _ = SL A35 (r4.Counts ++ ([r19] : List TallyCount)).length c36) rfl rfl rfl rfl fun w38 S39 => ?_
  refine wp_nil ?_
  refine c_seq ?_
  refine reg ?_
  refine p_ldA ty24 sz24 (S39.atX (i := 1) rfl) rfl rfl ?_
  refine p_stP (pre := []) (old := [I 0, I 0, SL none 0 0]) (post := []) (vs := [I r4.Trips, I r4.Room, SL A35 (r4.Counts ++ ([r19] : List TallyCount)).length c36]) sz24 S39 (i := 3) rfl rfl rfl rfl (rfl : _ = AG [I r4.Trips, I r4.Room, SL A35 (r4.Counts ++ ([r19] : List TallyCount)).length c36]) rfl rfl rfl rfl fun w40 S41 => ?_
  refine wp_nil ?_
  obtain rfl := Option.some.inj H
  refine c_ret ?_; show bodyPostM (Fr none) 0 Tryd.prog Tryd.f54 _ .ret _ _
  refine ret_of (res1 rfl (rvA rfl ty24 sz24 (S41.atX (i := 3) rfl) rfl)) ?_
  exact ⟨_, rfl, A35, c36, rfl, S41.keep, ⟨S41.atX (i := 2) rfl, S41.newX (i := 2) rfl⟩, trivial⟩

def law_counted : Option Bool :=
  (law_own).bind fun r3 =>
  (tally_Many r3 0 3).bind fun r13 =>
  (law_own).bind fun r22 =>
  (tally_Many r22 3 3).bind fun r32 =>
  (law_own).bind fun r41 =>
  (tally_Can r41 [5, 5, 6, 3]).bind fun r56 =>
  (law_own).bind fun r60 =>
  (tally_Pays r60 2).bind fun r70 =>
  (law_torn).bind fun r79 =>
  (tally_Wrong r79).bind fun r90 =>
  bif (r13.2 != 0) then (some false)
  else (bif (r32.2 != 0) then (some false)
  else (bif (r56.2 != 0) then (some false)
  else (bif (r70.2 != 0) then (some false)
  else (bif (r90.2 != 0) then (some false)
  else ((B_Range 16 24).bind fun r179 =>
  bif !((r13.1.Low == r179.Low) && (r13.1.High == r179.High)) then (some false)
  else ((B_Range 0 10).bind fun r197 =>
  bif !((r32.1.Low == r197.Low) && (r32.1.High == r197.High)) then (some false)
  else (bif !r56.1 then (some false)
  else ((B_Range 32 48).bind fun r231 =>
  bif !((r70.1.Low == r231.Low) && (r70.1.High == r231.High)) then (some false)
  else ((B_Alike r90.1 ([0] : List Int)).bind fun r261 =>
  bif !r261 then (some false)
  else ((law_torn).bind fun r275 =>
  (tally_Whose r275).bind fun r285 =>
  (law_own).bind fun r294 =>
  (tally_Again r294).bind fun r304 =>
  (law_own).bind fun r308 =>
  (law_count 2 3 3 10 1 0 0).bind fun r318 =>
  (tally_Fits r308 r318).bind fun r322 =>
  (law_torn).bind fun r326 =>
  (tally_Right r326).bind fun r336 =>
  bif (r285.2 == 0) then (bif (r304.2 == 0) then (bif (r322.2 == 0) then (bif (r336.2 == 0) then ((B_Alike r285.1 [0, 2]).bind fun r349 =>
  bif r349 then (bif (r304.1 == 3) then (bif r322.1 then (some (!r336.1))
  else (some false))
  else (some false))
  else (some false))
  else (some false))
  else (some false))
  else (some false))
  else (some false)))))))))))

set_option maxRecDepth 100000 in
theorem law_counted_ok {w : World} {r : Bool} (H : law_counted = some r) (hg1 : (bl 0 [Value.func (.func 117) #[] #[], Value.func (.func 119) #[] #[]] 117).ok w) (hg2 : (bl 1 [I (-1), I (-1)] 115).ok w) : Calls Tryd.prog 19 #[] w (RetV w (B r)) := by
  unfold law_counted at H
  refine fn_of (n := 135) Tryd.func19 rfl rfl (Nat.le_of_ble_eq_true rfl) ?_
  have S : St w (fun _ => False) w [] [bl 0 [Value.func (.func 117) #[] #[], Value.func (.func 119) #[] #[]] 117, bl 1 [I (-1), I (-1)] 115] := St.start w _ _ (List.forall_mem_cons.2 ⟨hg1, (List.forall_mem_cons.2 ⟨hg2, (fun _ h_ => (List.not_mem_nil h_).elim)⟩)⟩)
  refine c_seq ?_
  refine reg ?_
  refine p_aB rfl ?_
  refine wp_nil ?_
  refine c_seq ?_
  refine reg ?_
  obtain ⟨r3, h4, H⟩ := bindS H
  refine p_cal (law_own_ok h4) fu52 rfl ?_
  rintro _ w5 ⟨A7, c8, rfl, k6, ⟨o9, n10⟩, _⟩
  have S12 := S.addNew k6 o9 n10
  obtain ⟨r13, h14, H⟩ := bindS H
  refine p_cv (tally_Many_ok h14 (gr_rd eTallyCount_len (S12.atX (i := 0) rfl)) (S12.atP (i := 0) rfl) (S12.atP (i := 1) rfl)) fu32 rfl S12 fun w15 S16 => ?_
  refine p_mT rfl ?_
  refine p_ext rfl rfl ?_
  refine p_ext rfl rfl ?_
  refine p_allA in49 S16 fun b17 w18 S19 => ?_
  refine p_stP (pre := []) (old := [I 0, I 0]) (post := []) (vs := [I r13.1.Low, I r13.1.High]) sz49 S19 (i := 0) rfl rfl rfl rfl (rfl : _ = AG [I r13.1.Low, I r13.1.High]) rfl rfl rfl rfl fun w20 S21 => ?_
  refine p_aI rfl ?_
  refine wp_nil ?_
  refine c_seq ?_
  refine reg ?_
  obtain ⟨r22, h23, H⟩ := bindS H
  refine p_cal (law_own_ok h23) fu52 rfl ?_
  rintro _ w24 ⟨A26, c27, rfl, k25, ⟨o28, n29⟩, _⟩
  have S31 := S21.addNew k25 o28 n29
  obtain ⟨r32, h33, H⟩ := bindS H
  refine p_cv (tally_Many_ok h33 (gr_rd eTallyCount_len (S31.atX (i := 0) rfl)) (S31.atP (i := 0) rfl) (S31.atP (i := 1) rfl)) fu32 rfl S31 fun w34 S35 => ?_
  refine p_mT rfl ?_
  refine p_ext rfl rfl ?_
  refine p_ext rfl rfl ?_
  refine p_allA in49 S35 fun b36 w37 S38 => ?_
  refine p_stP (pre := []) (old := [I 0, I 0]) (post := []) (vs := [I r32.1.Low, I r32.1.High]) sz49 S38 (i := 0) rfl rfl rfl rfl (rfl : _ = AG [I r32.1.Low, I r32.1.High]) rfl rfl rfl rfl fun w39 S40 => ?_
  refine p_aI rfl ?_
  refine wp_nil ?_
  refine c_seq ?_
  refine reg ?_
  obtain ⟨r41, h42, H⟩ := bindS H
  refine p_cal (law_own_ok h42) fu52 rfl ?_
  rintro _ w43 ⟨A45, c46, rfl, k44, ⟨o47, n48⟩, _⟩
  have S50 := S40.addNew k44 o47 n48
  refine p_bsl (enc := intE) (l := [5, 5, 6, 3]) I (fun _ => rfl) sc31 in3 intE_len rfl (by decide) (by decide) zr3_4 S50 rfl fun A51 c52 w53 S54 => ?_
  obtain ⟨r56, h57, H⟩ := bindS H
  refine p_cv (tally_Can_ok h57 (gr_rd eTallyCount_len (S54.atX (i := 1) rfl)) (gr_rd intE_len (S54.atX (i := 0) rfl)) (S54.atP (i := 0) rfl)) fu29 rfl S54 fun w58 S59 => ?_
  refine p_mT rfl ?_
  refine p_ext rfl rfl ?_
  refine p_ext rfl rfl ?_
  refine p_aB rfl ?_
  refine p_aI rfl ?_
  refine wp_nil ?_
  refine c_seq ?_
  refine reg ?_
  obtain ⟨r60, h61, H⟩ := bindS H
  refine p_cal (law_own_ok h61) fu52 rfl ?_
  rintro _ w62 ⟨A64, c65, rfl, k63, ⟨o66, n67⟩, _⟩
  have S69 := S59.addNew k63 o66 n67
  obtain ⟨r70, h71, H⟩ := bindS H
  refine p_cv (tally_Pays_ok h71 (gr_rd eTallyCount_len (S69.atX (i := 0) rfl)) (S69.atP (i := 0) rfl) (S69.atP (i := 1) rfl)) fu33 rfl S69 fun w72 S73 => ?_
  refine p_mT rfl ?_
  refine p_ext rfl rfl ?_
  refine p_ext rfl rfl ?_
  refine p_allA in49 S73 fun b74 w75 S76 => ?_
  refine p_stP (pre := []) (old := [I 0, I 0]) (post := []) (vs := [I r70.1.Low, I r70.1.High]) sz49 S76 (i := 0) rfl rfl rfl rfl (rfl : _ = AG [I r70.1.Low, I r70.1.High]) rfl rfl rfl rfl fun w77 S78 => ?_
  refine p_aI rfl ?_
  refine wp_nil ?_
  refine c_seq ?_
  refine reg ?_
  obtain ⟨r79, h80, H⟩ := bindS H
  refine p_cal (law_torn_ok h80) fu54 rfl ?_
  rintro _ w81 ⟨A83, c84, rfl, k82, ⟨o85, n86⟩, _⟩
  have S88 := S78.addNew k82 o85 n86
  have S89 := S88.fixRd eTallyCount_len (i := 0) rfl
  obtain ⟨r90, h91, H⟩ := bindS H
  refine p_cal (tally_Wrong_ok h91 (S89.atP (i := 0) rfl) (S89.atP (i := 1) rfl) (S89.atP (i := 2) rfl)) fu30 rfl ?_
  rintro _ w92 ⟨A94, c95, rfl, k93, ⟨o96, n97⟩, _⟩
  have S98 := S89.callN k93 [rd intE 1 A94 c95 r90.1] (List.forall_mem_cons.2 ⟨⟨o96, Al.inL n97 ((List.forall_mem_cons.2 ⟨(fp_mem (i := 0) rfl), (fun _ h_ => (List.not_mem_nil h_).elim)⟩))⟩, (fun _ h_ => (List.not_mem_nil h_).elim)⟩)
  refine p_mT rfl ?_
  refine p_ext rfl rfl ?_
  refine p_ext rfl rfl ?_
  refine p_aS rfl ?_
  refine p_aI rfl ?_
  refine wp_nil ?_
  refine c_seq ?_
  refine c_seq ?_
  rcases Bool.eq_false_or_eq_true ((r13.2 != 0)) with c99 | c99
  · replace H := condT c99 H
    refine reg_c mixed 43 [39, 40, 41, 42] (by kernel_rfl) ?_
    refine kS rfl (fun _ k_ => p_mI rfl dn) ?_
    refine kS rfl (fun _ k_ => p_cmp rfl rfl rfl dn) ?_
    refine kS rfl (fun _ k_ => p_mB rfl dn) ?_
    refine kB c99 ?_
    refine kS rfl (fun _ k_ => gF rfl rfl dnU) ?_
    refine kS rfl (fun _ k_ => gF rfl rfl dnU) ?_
    refine kS rfl (fun _ k_ => p_pkT rfl (rfl : _ = B true) dn) ?_
    refine kS rfl (fun _ k_ => p_mB rfl dn) ?_
    refine kS rfl (fun _ k_ => gF rfl rfl dnU) ?_
    refine kS rfl (fun _ k_ => gF rfl rfl dnU) ?_
    refine kS rfl (fun _ k_ => p_pkT rfl (rfl : _ = B true) dn) ?_
    refine kS rfl (fun _ k_ => p_mB rfl dn) ?_
    refine kS rfl (fun _ k_ => gF rfl rfl dnU) ?_
    refine kS rfl (fun _ k_ => gF rfl rfl dnU) ?_
    refine kS rfl (fun _ k_ => p_pkT rfl (rfl : _ = B true) dn) ?_
    refine kS rfl (fun _ k_ => p_mB rfl dn) ?_
    refine kS rfl (fun _ k_ => gF rfl rfl dnU) ?_
    refine kS rfl (fun _ k_ => gF rfl rfl dnU) ?_
    refine kS rfl (fun _ k_ => p_pkT rfl (rfl : _ = B true) dn) ?_
    refine kS rfl (fun _ k_ => p_mB rfl dn) ?_
    refine kS rfl (fun _ k_ => gF rfl rfl dnU) ?_
    refine kS rfl (fun _ k_ => gF rfl rfl dnU) ?_
    refine kS rfl (fun _ k_ => gF rfl rfl dnU) ?_
    refine kS rfl (fun _ k_ => p_pkT rfl (rfl : _ = B true) dn) ?_
    refine kS rfl (fun _ k_ => p_mB rfl dn) ?_
    refine kS rfl (fun _ k_ => gF rfl rfl dnU) ?_
    refine kS rfl (fun _ k_ => gF rfl rfl dnU) ?_
    refine kS rfl (fun _ k_ => gF rfl rfl dnU) ?_
    refine kS rfl (fun _ k_ => p_pkT rfl (rfl : _ = B true) dn) ?_
    refine kS rfl (fun _ k_ => p_mB rfl dn) ?_
    refine kS rfl (fun _ k_ => gF rfl rfl dnU) ?_
    refine kS rfl (fun _ k_ => gF rfl rfl dnU) ?_
    refine kS rfl (fun _ k_ => p_pkT rfl (rfl : _ = B true) dn) ?_
    refine kS rfl (fun _ k_ => p_mB rfl dn) ?_
    refine kS rfl (fun _ k_ => gF rfl rfl dnU) ?_
    refine kS rfl (fun _ k_ => gF rfl rfl dnU) ?_
    refine kS rfl (fun _ k_ => gF rfl rfl dnU) ?_
    refine kS rfl (fun _ k_ => p_pkT rfl (rfl : _ = B true) dn) ?_
    refine kS rfl (fun _ k_ => p_mB rfl dn) ?_
    refine kS rfl (fun _ k_ => gF rfl rfl dnU) ?_
    refine kC rfl ?_
    refine kC rfl ?_
    refine kC rfl ?_
    refine kC rfl ?_
    intro w100 k101; have S102 := S98.call k101
    refine gF rfl rfl (cN (Keep.refl _ _) fun w103 k104 => ?_)
    have S105 := S102.call k104
    refine gF rfl rfl (cN (Keep.refl _ _) fun w106 k107 => ?_)
    have S108 := S105.call k107
    refine gF rfl rfl (cN (Keep.refl _ _) fun w109 k110 => ?_)
    have S111 := S108.call k110
    refine p_pkT rfl (rfl : _ = B true) (cN (Keep.refl _ _) fun w112 k113 => ?_)
    have S114 := S111.call k113
    refine wp_nil ?_
    refine c_true rfl ?_
    refine c_seq ?_
    refine reg ?_
    refine p_aB rfl ?_
    refine wp_nil ?_
    obtain rfl := Option.some.inj H
    refine c_ret ?_; show bodyPostM (Fr none) 0 Tryd.prog Tryd.f19 _ .ret _ _
    refine ret_of (res1 rfl (rvT (rfl : _ = B false))) ?_
    exact ⟨_, rfl, rfl, S114.keep⟩
  · replace H := condF c99 H
    rcases Bool.eq_false_or_eq_true ((r32.2 != 0)) with c115 | c115
    · replace H := condT c115 H
      refine reg_c mixed 43 [39, 40, 41, 42] (by kernel_rfl) ?_
      refine kS rfl (fun _ k_ => p_mI rfl dn) ?_
      refine kS rfl (fun _ k_ => p_cmp rfl rfl rfl dn) ?_
      refine kS rfl (fun _ k_ => p_mB rfl dn) ?_
      refine kB c99 ?_
      refine kS rfl (fun _ k_ => gT rfl rfl (p_mI rfl dn)) ?_
      refine kS rfl (fun _ k_ => gT rfl rfl (p_cmp rfl rfl rfl dn)) ?_
      refine kS rfl (fun _ k_ => p_pkF rfl (rfl : _ = B (r32.2 != 0)) dn) ?_
      refine kS rfl (fun _ k_ => p_mB rfl dn) ?_
      refine kB c115 ?_
      refine kS rfl (fun _ k_ => gF rfl rfl dnU) ?_
      refine kS rfl (fun _ k_ => gF rfl rfl dnU) ?_
      refine kS rfl (fun _ k_ => p_pkT rfl (rfl : _ = B true) dn) ?_
      refine kS rfl (fun _ k_ => p_mB rfl dn) ?_
      refine kS rfl (fun _ k_ => gF rfl rfl dnU) ?_
      refine kS rfl (fun _ k_ => gF rfl rfl dnU) ?_
      refine kS rfl (fun _ k_ => p_pkT rfl (rfl : _ = B true) dn) ?_
      refine kS rfl (fun _ k_ => p_mB rfl dn) ?_
      refine kS rfl (fun _ k_ => gF rfl rfl dnU) ?_
      refine kS rfl (fun _ k_ => gF rfl rfl dnU) ?_
      refine kS rfl (fun _ k_ => p_pkT rfl (rfl : _ = B true) dn) ?_
      refine kS rfl (fun _ k_ => p_mB rfl dn) ?_
      refine kS rfl (fun _ k_ => gF rfl rfl dnU) ?_
      refine kS rfl (fun _ k_ => gF rfl rfl dnU) ?_
      refine kS rfl (fun _ k_ => gF rfl rfl dnU) ?_
      refine kS rfl (fun _ k_ => p_pkT rfl (rfl : _ = B true) dn) ?_
      refine kS rfl (fun _ k_ => p_mB rfl dn) ?_
      refine kS rfl (fun _ k_ => gF rfl rfl dnU) ?_
      refine kS rfl (fun _ k_ => gF rfl rfl dnU) ?_
      refine kS rfl (fun _ k_ => gF rfl rfl dnU) ?_
      refine kS rfl (fun _ k_ => p_pkT rfl (rfl : _ = B true) dn) ?_
      refine kS rfl (fun _ k_ => p_mB rfl dn) ?_
      refine kS rfl (fun _ k_ => gF rfl rfl dnU) ?_
      refine kS rfl (fun _ k_ => gF rfl rfl dnU) ?_
      refine kS rfl (fun _ k_ => p_pkT rfl (rfl : _ = B true) dn) ?_
      refine kS rfl (fun _ k_ => p_mB rfl dn) ?_
      refine kS rfl (fun _ k_ => gF rfl rfl dnU) ?_
      refine kS rfl (fun _ k_ => gF rfl rfl dnU) ?_
      refine kS rfl (fun _ k_ => gF rfl rfl dnU) ?_
      refine kS rfl (fun _ k_ => p_pkT rfl (rfl : _ = B true) dn) ?_
      refine kS rfl (fun _ k_ => p_mB rfl dn) ?_
      refine kS rfl (fun _ k_ => gF rfl rfl dnU) ?_
      refine kC rfl ?_
      refine kC rfl ?_
      refine kC rfl ?_
      refine kC rfl ?_
      intro w116 k117; have S118 := S98.call k117
      refine gF rfl rfl (cN (Keep.refl _ _) fun w119 k120 => ?_)
      have S121 := S118.call k120
      refine gF rfl rfl (cN (Keep.refl _ _) fun w122 k123 => ?_)
      have S124 := S121.call k123
      refine gF rfl rfl (cN (Keep.refl _ _) fun w125 k126 => ?_)
      have S127 := S124.call k126
      refine p_pkT rfl (rfl : _ = B true) (cN (Keep.refl _ _) fun w128 k129 => ?_)
      have S130 := S127.call k129
      refine wp_nil ?_
      refine c_true rfl ?_
      refine c_seq ?_
      refine reg ?_
      refine p_aB rfl ?_
      refine wp_nil ?_
      obtain rfl := Option.some.inj H
      refine c_ret ?_; show bodyPostM (Fr none) 0 Tryd.prog Tryd.f19 _ .ret _ _
      refine ret_of (res1 rfl (rvT (rfl : _ = B false))) ?_
      exact ⟨_, rfl, rfl, S130.keep⟩
    · replace H := condF c115 H
      rcases Bool.eq_false_or_eq_true ((r56.2 != 0)) with c131 | c131
      · replace H := condT c131 H
        refine reg_c mixed 43 [39, 40, 41, 42] (by kernel_rfl) ?_
        refine kS rfl (fun _ k_ => p_mI rfl dn) ?_
        refine kS rfl (fun _ k_ => p_cmp rfl rfl rfl dn) ?_
        refine kS rfl (fun _ k_ => p_mB rfl dn) ?_
        refine kB c99 ?_
        refine kS rfl (fun _ k_ => gT rfl rfl (p_mI rfl dn)) ?_
        refine kS rfl (fun _ k_ => gT rfl rfl (p_cmp rfl rfl rfl dn)) ?_
        refine kS rfl (fun _ k_ => p_pkF rfl (rfl : _ = B (r32.2 != 0)) dn) ?_
        refine kS rfl (fun _ k_ => p_mB rfl dn) ?_
        refine kB c115 ?_
        refine kS rfl (fun _ k_ => gT rfl rfl (p_mI rfl dn)) ?_
        refine kS rfl (fun _ k_ => gT rfl rfl (p_cmp rfl rfl rfl dn)) ?_
        refine kS rfl (fun _ k_ => p_pkF rfl (rfl : _ = B (r56.2 != 0)) dn) ?_
        refine kS rfl (fun _ k_ => p_mB rfl dn) ?_
        refine kB c131 ?_
        refine kS rfl (fun _ k_ => gF rfl rfl dnU) ?_
        refine kS rfl (fun _ k_ => gF rfl rfl dnU) ?_
        refine kS rfl (fun _ k_ => p_pkT rfl (rfl : _ = B true) dn) ?_
        refine kS rfl (fun _ k_ => p_mB rfl dn) ?_
        refine kS rfl (fun _ k_ => gF rfl rfl dnU) ?_
        refine kS rfl (fun _ k_ => gF rfl rfl dnU) ?_
        refine kS rfl (fun _ k_ => p_pkT rfl (rfl : _ = B true) dn) ?_
        refine kS rfl (fun _ k_ => p_mB rfl dn) ?_
        refine kS rfl (fun _ k_ => gF rfl rfl dnU) ?_
        refine kS rfl (fun _ k_ => gF rfl rfl dnU) ?_
        refine kS rfl (fun _ k_ => gF rfl rfl dnU) ?_
        refine kS rfl (fun _ k_ => p_pkT rfl (rfl : _ = B true) dn) ?_
        refine kS rfl (fun _ k_ => p_mB rfl dn) ?_
        refine kS rfl (fun _ k_ => gF rfl rfl dnU) ?_
        refine kS rfl (fun _ k_ => gF rfl rfl dnU) ?_
        refine kS rfl (fun _ k_ => gF rfl rfl dnU) ?_
        refine kS rfl (fun _ k_ => p_pkT rfl (rfl : _ = B true) dn) ?_
        refine kS rfl (fun _ k_ => p_mB rfl dn) ?_
        refine kS rfl (fun _ k_ => gF rfl rfl dnU) ?_
        refine kS rfl (fun _ k_ => gF rfl rfl dnU) ?_
        refine kS rfl (fun _ k_ => p_pkT rfl (rfl : _ = B true) dn) ?_
        refine kS rfl (fun _ k_ => p_mB rfl dn) ?_
        refine kS rfl (fun _ k_ => gF rfl rfl dnU) ?_
        refine kS rfl (fun _ k_ => gF rfl rfl dnU) ?_
        refine kS rfl (fun _ k_ => gF rfl rfl dnU) ?_
        refine kS rfl (fun _ k_ => p_pkT rfl (rfl : _ = B true) dn) ?_
        refine kS rfl (fun _ k_ => p_mB rfl dn) ?_
        refine kS rfl (fun _ k_ => gF rfl rfl dnU) ?_
        refine kC rfl ?_
        refine kC rfl ?_
        refine kC rfl ?_
        refine kC rfl ?_
        intro w132 k133; have S134 := S98.call k133
        refine gF rfl rfl (cN (Keep.refl _ _) fun w135 k136 => ?_)
        have S137 := S134.call k136
        refine gF rfl rfl (cN (Keep.refl _ _) fun w138 k139 => ?_)
        have S140 := S137.call k139
        refine gF rfl rfl (cN (Keep.refl _ _) fun w141 k142 => ?_)
        have S143 := S140.call k142
        refine p_pkT rfl (rfl : _ = B true) (cN (Keep.refl _ _) fun w144 k145 => ?_)
        have S146 := S143.call k145
        refine wp_nil ?_
        refine c_true rfl ?_
        refine c_seq ?_
        refine reg ?_
        refine p_aB rfl ?_
        refine wp_nil ?_
        obtain rfl := Option.some.inj H
        refine c_ret ?_; show bodyPostM (Fr none) 0 Tryd.prog Tryd.f19 _ .ret _ _
        refine ret_of (res1 rfl (rvT (rfl : _ = B false))) ?_
        exact ⟨_, rfl, rfl, S146.keep⟩
      · replace H := condF c131 H
        rcases Bool.eq_false_or_eq_true ((r70.2 != 0)) with c147 | c147
        · replace H := condT c147 H
          refine reg_c mixed 43 [39, 40, 41, 42] (by kernel_rfl) ?_
          refine kS rfl (fun _ k_ => p_mI rfl dn) ?_
          refine kS rfl (fun _ k_ => p_cmp rfl rfl rfl dn) ?_
          refine kS rfl (fun _ k_ => p_mB rfl dn) ?_
          refine kB c99 ?_
          refine kS rfl (fun _ k_ => gT rfl rfl (p_mI rfl dn)) ?_
          refine kS rfl (fun _ k_ => gT rfl rfl (p_cmp rfl rfl rfl dn)) ?_
          refine kS rfl (fun _ k_ => p_pkF rfl (rfl : _ = B (r32.2 != 0)) dn) ?_
          refine kS rfl (fun _ k_ => p_mB rfl dn) ?_
          refine kB c115 ?_
          refine kS rfl (fun _ k_ => gT rfl rfl (p_mI rfl dn)) ?_
          refine kS rfl (fun _ k_ => gT rfl rfl (p_cmp rfl rfl rfl dn)) ?_
          refine kS rfl (fun _ k_ => p_pkF rfl (rfl : _ = B (r56.2 != 0)) dn) ?_
          refine kS rfl (fun _ k_ => p_mB rfl dn) ?_
          refine kB c131 ?_
          refine kS rfl (fun _ k_ => gT rfl rfl (p_mI rfl dn)) ?_
          refine kS rfl (fun _ k_ => gT rfl rfl (p_cmp rfl rfl rfl dn)) ?_
          refine kS rfl (fun _ k_ => p_pkF rfl (rfl : _ = B (r70.2 != 0)) dn) ?_
          refine kS rfl (fun _ k_ => p_mB rfl dn) ?_
          refine kB c147 ?_
          refine kS rfl (fun _ k_ => gF rfl rfl dnU) ?_
          refine kS rfl (fun _ k_ => gF rfl rfl dnU) ?_
          refine kS rfl (fun _ k_ => p_pkT rfl (rfl : _ = B true) dn) ?_
          refine kS rfl (fun _ k_ => p_mB rfl dn) ?_
          refine kS rfl (fun _ k_ => gF rfl rfl dnU) ?_
          refine kS rfl (fun _ k_ => gF rfl rfl dnU) ?_
          refine kS rfl (fun _ k_ => gF rfl rfl dnU) ?_
          refine kS rfl (fun _ k_ => p_pkT rfl (rfl : _ = B true) dn) ?_
          refine kS rfl (fun _ k_ => p_mB rfl dn) ?_
          refine kS rfl (fun _ k_ => gF rfl rfl dnU) ?_
          refine kS rfl (fun _ k_ => gF rfl rfl dnU) ?_
          refine kS rfl (fun _ k_ => gF rfl rfl dnU) ?_
          refine kS rfl (fun _ k_ => p_pkT rfl (rfl : _ = B true) dn) ?_
          refine kS rfl (fun _ k_ => p_mB rfl dn) ?_
          refine kS rfl (fun _ k_ => gF rfl rfl dnU) ?_
          refine kS rfl (fun _ k_ => gF rfl rfl dnU) ?_
          refine kS rfl (fun _ k_ => p_pkT rfl (rfl : _ = B true) dn) ?_
          refine kS rfl (fun _ k_ => p_mB rfl dn) ?_
          refine kS rfl (fun _ k_ => gF rfl rfl dnU) ?_
          refine kS rfl (fun _ k_ => gF rfl rfl dnU) ?_
          refine kS rfl (fun _ k_ => gF rfl rfl dnU) ?_
          refine kS rfl (fun _ k_ => p_pkT rfl (rfl : _ = B true) dn) ?_
          refine kS rfl (fun _ k_ => p_mB rfl dn) ?_
          refine kS rfl (fun _ k_ => gF rfl rfl dnU) ?_
          refine kC rfl ?_
          refine kC rfl ?_
          refine kC rfl ?_
          refine kC rfl ?_
          intro w148 k149; have S150 := S98.call k149
          refine gF rfl rfl (cN (Keep.refl _ _) fun w151 k152 => ?_)
          have S153 := S150.call k152
          refine gF rfl rfl (cN (Keep.refl _ _) fun w154 k155 => ?_)
          have S156 := S153.call k155
          refine gF rfl rfl (cN (Keep.refl _ _) fun w157 k158 => ?_)
          have S159 := S156.call k158
          refine p_pkT rfl (rfl : _ = B true) (cN (Keep.refl _ _) fun w160 k161 => ?_)
          have S162 := S159.call k161
          refine wp_nil ?_
          refine c_true rfl ?_
          refine c_seq ?_
          refine reg ?_
          refine p_aB rfl ?_
          refine wp_nil ?_
          obtain rfl := Option.some.inj H
          refine c_ret ?_; show bodyPostM (Fr none) 0 Tryd.prog Tryd.f19 _ .ret _ _
          refine ret_of (res1 rfl (rvT (rfl : _ = B false))) ?_
          exact ⟨_, rfl, rfl, S162.keep⟩
        · replace H := condF c147 H
          rcases Bool.eq_false_or_eq_true ((r90.2 != 0)) with c163 | c163
          · replace H := condT c163 H
            refine reg_c mixed 43 [39, 40, 41, 42] (by kernel_rfl) ?_
            refine kS rfl (fun _ k_ => p_mI rfl dn) ?_
            refine kS rfl (fun _ k_ => p_cmp rfl rfl rfl dn) ?_
            refine kS rfl (fun _ k_ => p_mB rfl dn) ?_
            refine kB c99 ?_
            refine kS rfl (fun _ k_ => gT rfl rfl (p_mI rfl dn)) ?_
            refine kS rfl (fun _ k_ => gT rfl rfl (p_cmp rfl rfl rfl dn)) ?_
            refine kS rfl (fun _ k_ => p_pkF rfl (rfl : _ = B (r32.2 != 0)) dn) ?_
            refine kS rfl (fun _ k_ => p_mB rfl dn) ?_
            refine kB c115 ?_
            refine kS rfl (fun _ k_ => gT rfl rfl (p_mI rfl dn)) ?_
            refine kS rfl (fun _ k_ => gT rfl rfl (p_cmp rfl rfl rfl dn)) ?_
            refine kS rfl (fun _ k_ => p_pkF rfl (rfl : _ = B (r56.2 != 0)) dn) ?_
            refine kS rfl (fun _ k_ => p_mB rfl dn) ?_
            refine kB c131 ?_
            refine kS rfl (fun _ k_ => gT rfl rfl (p_mI rfl dn)) ?_
            refine kS rfl (fun _ k_ => gT rfl rfl (p_cmp rfl rfl rfl dn)) ?_
            refine kS rfl (fun _ k_ => p_pkF rfl (rfl : _ = B (r70.2 != 0)) dn) ?_
            refine kS rfl (fun _ k_ => p_mB rfl dn) ?_
            refine kB c147 ?_
            refine kS rfl (fun _ k_ => gT rfl rfl (p_mI rfl dn)) ?_
            refine kS rfl (fun _ k_ => gT rfl rfl (p_cmp rfl rfl rfl dn)) ?_
            refine kS rfl (fun _ k_ => p_pkF rfl (rfl : _ = B (r90.2 != 0)) dn) ?_
            refine kS rfl (fun _ k_ => p_mB rfl dn) ?_
            refine kB c163 ?_
            refine kS rfl (fun _ k_ => gF rfl rfl dnU) ?_
            refine kS rfl (fun _ k_ => gF rfl rfl dnU) ?_
            refine kS rfl (fun _ k_ => gF rfl rfl dnU) ?_
            refine kS rfl (fun _ k_ => p_pkT rfl (rfl : _ = B true) dn) ?_
            refine kS rfl (fun _ k_ => p_mB rfl dn) ?_
            refine kS rfl (fun _ k_ => gF rfl rfl dnU) ?_
            refine kS rfl (fun _ k_ => gF rfl rfl dnU) ?_
            refine kS rfl (fun _ k_ => gF rfl rfl dnU) ?_
            refine kS rfl (fun _ k_ => p_pkT rfl (rfl : _ = B true) dn) ?_
            refine kS rfl (fun _ k_ => p_mB rfl dn) ?_
            refine kS rfl (fun _ k_ => gF rfl rfl dnU) ?_
            refine kS rfl (fun _ k_ => gF rfl rfl dnU) ?_
            refine kS rfl (fun _ k_ => p_pkT rfl (rfl : _ = B true) dn) ?_
            refine kS rfl (fun _ k_ => p_mB rfl dn) ?_
            refine kS rfl (fun _ k_ => gF rfl rfl dnU) ?_
            refine kS rfl (fun _ k_ => gF rfl rfl dnU) ?_
            refine kS rfl (fun _ k_ => gF rfl rfl dnU) ?_
            refine kS rfl (fun _ k_ => p_pkT rfl (rfl : _ = B true) dn) ?_
            refine kS rfl (fun _ k_ => p_mB rfl dn) ?_
            refine kS rfl (fun _ k_ => gF rfl rfl dnU) ?_
            refine kC rfl ?_
            refine kC rfl ?_
            refine kC rfl ?_
            refine kC rfl ?_
            intro w164 k165; have S166 := S98.call k165
            refine gF rfl rfl (cN (Keep.refl _ _) fun w167 k168 => ?_)
            have S169 := S166.call k168
            refine gF rfl rfl (cN (Keep.refl _ _) fun w170 k171 => ?_)
            have S172 := S169.call k171
            refine gF rfl rfl (cN (Keep.refl _ _) fun w173 k174 => ?_)
            have S175 := S172.call k174
            refine p_pkT rfl (rfl : _ = B true) (cN (Keep.refl _ _) fun w176 k177 => ?_)
            have S178 := S175.call k177
            refine wp_nil ?_
            refine c_true rfl ?_
            refine c_seq ?_
            refine reg ?_
            refine p_aB rfl ?_
            refine wp_nil ?_
            obtain rfl := Option.some.inj H
            refine c_ret ?_; show bodyPostM (Fr none) 0 Tryd.prog Tryd.f19 _ .ret _ _
            refine ret_of (res1 rfl (rvT (rfl : _ = B false))) ?_
            exact ⟨_, rfl, rfl, S178.keep⟩
          · replace H := condF c163 H
            obtain ⟨r179, h180, H⟩ := bindS H
            rcases Bool.eq_false_or_eq_true (!((r13.1.Low == r179.Low) && (r13.1.High == r179.High))) with c181 | c181
            · replace H := condT c181 H
              refine reg_c mixed 43 [39, 40, 41, 42] (by kernel_rfl) ?_
              refine kS rfl (fun _ k_ => p_mI rfl dn) ?_
              refine kS rfl (fun _ k_ => p_cmp rfl rfl rfl dn) ?_
              refine kS rfl (fun _ k_ => p_mB rfl dn) ?_
              refine kB c99 ?_
              refine kS rfl (fun _ k_ => gT rfl rfl (p_mI rfl dn)) ?_
              refine kS rfl (fun _ k_ => gT rfl rfl (p_cmp rfl rfl rfl dn)) ?_
              refine kS rfl (fun _ k_ => p_pkF rfl (rfl : _ = B (r32.2 != 0)) dn) ?_
              refine kS rfl (fun _ k_ => p_mB rfl dn) ?_
              refine kB c115 ?_
              refine kS rfl (fun _ k_ => gT rfl rfl (p_mI rfl dn)) ?_
              refine kS rfl (fun _ k_ => gT rfl rfl (p_cmp rfl rfl rfl dn)) ?_
              refine kS rfl (fun _ k_ => p_pkF rfl (rfl : _ = B (r56.2 != 0)) dn) ?_
              refine kS rfl (fun _ k_ => p_mB rfl dn) ?_
              refine kB c131 ?_
              refine kS rfl (fun _ k_ => gT rfl rfl (p_mI rfl dn)) ?_
              refine kS rfl (fun _ k_ => gT rfl rfl (p_cmp rfl rfl rfl dn)) ?_
              refine kS rfl (fun _ k_ => p_pkF rfl (rfl : _ = B (r70.2 != 0)) dn) ?_
              refine kS rfl (fun _ k_ => p_mB rfl dn) ?_
              refine kB c147 ?_
              refine kS rfl (fun _ k_ => gT rfl rfl (p_mI rfl dn)) ?_
              refine kS rfl (fun _ k_ => gT rfl rfl (p_cmp rfl rfl rfl dn)) ?_
              refine kS rfl (fun _ k_ => p_pkF rfl (rfl : _ = B (r90.2 != 0)) dn) ?_
              refine kS rfl (fun _ k_ => p_mB rfl dn) ?_
              refine kB c163 ?_
              refine kS rfl (fun _ k_ => gT rfl rfl (p_ldA ty49 sz49 (Asr.stays (S98.atX (i := 6) rfl) k_) rfl rfl dn)) ?_
              refine kS rfl (fun _ k_ => gT rfl rfl (p_cvD (B_Range_ok h180) fu41 rfl)) ?_
              refine kS rfl (fun _ k_ => gT rfl rfl (o_neA (xs := [I r13.1.Low, I r13.1.High]) (ys := [I r179.Low, I r179.High]) (T := ((r13.1.Low == r179.Low) && (r13.1.High == r179.High))) rfl rfl eq49 ⟨⟨_, rfl⟩, ⟨⟨_, rfl⟩, trivial⟩⟩ ⟨⟨_, rfl⟩, ⟨⟨_, rfl⟩, trivial⟩⟩ (by simp [Bool.and_eq_true, and_assoc]) dn)) ?_
              refine kS rfl (fun _ k_ => p_pkF rfl (rfl : _ = B (!((r13.1.Low == r179.Low) && (r13.1.High == r179.High)))) dn) ?_
              refine kS rfl (fun _ k_ => p_mB rfl dn) ?_
              refine kB c181 ?_
              refine kS rfl (fun _ k_ => gF rfl rfl dnU) ?_
              refine kS rfl (fun _ k_ => gF rfl rfl dnU) ?_
              refine kS rfl (fun _ k_ => gF rfl rfl dnU) ?_
              refine kS rfl (fun _ k_ => p_pkT rfl (rfl : _ = B true) dn) ?_
              refine kS rfl (fun _ k_ => p_mB rfl dn) ?_
              refine kS rfl (fun _ k_ => gF rfl rfl dnU) ?_
              refine kS rfl (fun _ k_ => gF rfl rfl dnU) ?_
              refine kS rfl (fun _ k_ => p_pkT rfl (rfl : _ = B true) dn) ?_
              refine kS rfl (fun _ k_ => p_mB rfl dn) ?_
              refine kS rfl (fun _ k_ => gF rfl rfl dnU) ?_
              refine kS rfl (fun _ k_ => gF rfl rfl dnU) ?_
              refine kS rfl (fun _ k_ => gF rfl rfl dnU) ?_
              refine kS rfl (fun _ k_ => p_pkT rfl (rfl : _ = B true) dn) ?_
              refine kS rfl (fun _ k_ => p_mB rfl dn) ?_
              refine kS rfl (fun _ k_ => gF rfl rfl dnU) ?_
              refine kC rfl ?_
              refine kC rfl ?_
              refine kC rfl ?_
              refine kC rfl ?_
              intro w182 k183; have S184 := S98.call k183
              refine gF rfl rfl (cN (Keep.refl _ _) fun w185 k186 => ?_)
              have S187 := S184.call k186
              refine gF rfl rfl (cN (Keep.refl _ _) fun w188 k189 => ?_)
              have S190 := S187.call k189
              refine gF rfl rfl (cN (Keep.refl _ _) fun w191 k192 => ?_)
              have S193 := S190.call k192
              refine p_pkT rfl (rfl : _ = B true) (cN (Keep.refl _ _) fun w194 k195 => ?_)
              have S196 := S193.call k195
              refine wp_nil ?_
              refine c_true rfl ?_
              refine c_seq ?_
              refine reg ?_
              refine p_aB rfl ?_
              refine wp_nil ?_
              obtain rfl := Option.some.inj H
              refine c_ret ?_; show bodyPostM (Fr none) 0 Tryd.prog Tryd.f19 _ .ret _ _
              refine ret_of (res1 rfl (rvT (rfl : _ = B false))) ?_
              exact ⟨_, rfl, rfl, S196.keep⟩
            · replace H := condF c181 H
              obtain ⟨r197, h198, H⟩ := bindS H
              rcases Bool.eq_false_or_eq_true (!((r32.1.Low == r197.Low) && (r32.1.High == r197.High))) with c199 | c199
              · replace H := condT c199 H
                refine reg_c mixed 43 [39, 40, 41, 42] (by kernel_rfl) ?_
                refine kS rfl (fun _ k_ => p_mI rfl dn) ?_
                refine kS rfl (fun _ k_ => p_cmp rfl rfl rfl dn) ?_
                refine kS rfl (fun _ k_ => p_mB rfl dn) ?_
                refine kB c99 ?_
                refine kS rfl (fun _ k_ => gT rfl rfl (p_mI rfl dn)) ?_
                refine kS rfl (fun _ k_ => gT rfl rfl (p_cmp rfl rfl rfl dn)) ?_
                refine kS rfl (fun _ k_ => p_pkF rfl (rfl : _ = B (r32.2 != 0)) dn) ?_
                refine kS rfl (fun _ k_ => p_mB rfl dn) ?_
                refine kB c115 ?_
                refine kS rfl (fun _ k_ => gT rfl rfl (p_mI rfl dn)) ?_
                refine kS rfl (fun _ k_ => gT rfl rfl (p_cmp rfl rfl rfl dn)) ?_
                refine kS rfl (fun _ k_ => p_pkF rfl (rfl : _ = B (r56.2 != 0)) dn) ?_
                refine kS rfl (fun _ k_ => p_mB rfl dn) ?_
                refine kB c131 ?_
                refine kS rfl (fun _ k_ => gT rfl rfl (p_mI rfl dn)) ?_
                refine kS rfl (fun _ k_ => gT rfl rfl (p_cmp rfl rfl rfl dn)) ?_
                refine kS rfl (fun _ k_ => p_pkF rfl (rfl : _ = B (r70.2 != 0)) dn) ?_
                refine kS rfl (fun _ k_ => p_mB rfl dn) ?_
                refine kB c147 ?_
                refine kS rfl (fun _ k_ => gT rfl rfl (p_mI rfl dn)) ?_
                refine kS rfl (fun _ k_ => gT rfl rfl (p_cmp rfl rfl rfl dn)) ?_
                refine kS rfl (fun _ k_ => p_pkF rfl (rfl : _ = B (r90.2 != 0)) dn) ?_
                refine kS rfl (fun _ k_ => p_mB rfl dn) ?_
                refine kB c163 ?_
                refine kS rfl (fun _ k_ => gT rfl rfl (p_ldA ty49 sz49 (Asr.stays (S98.atX (i := 6) rfl) k_) rfl rfl dn)) ?_
                refine kS rfl (fun _ k_ => gT rfl rfl (p_cvD (B_Range_ok h180) fu41 rfl)) ?_
                refine kS rfl (fun _ k_ => gT rfl rfl (o_neA (xs := [I r13.1.Low, I r13.1.High]) (ys := [I r179.Low, I r179.High]) (T := ((r13.1.Low == r179.Low) && (r13.1.High == r179.High))) rfl rfl eq49 ⟨⟨_, rfl⟩, ⟨⟨_, rfl⟩, trivial⟩⟩ ⟨⟨_, rfl⟩, ⟨⟨_, rfl⟩, trivial⟩⟩ (by simp [Bool.and_eq_true, and_assoc]) dn)) ?_
                refine kS rfl (fun _ k_ => p_pkF rfl (rfl : _ = B (!((r13.1.Low == r179.Low) && (r13.1.High == r179.High)))) dn) ?_
                refine kS rfl (fun _ k_ => p_mB rfl dn) ?_
                refine kB c181 ?_
                refine kS rfl (fun _ k_ => gT rfl rfl (p_ldA ty49 sz49 (Asr.stays (S98.atX (i := 4) rfl) k_) rfl rfl dn)) ?_
                refine kS rfl (fun _ k_ => gT rfl rfl (p_cvD (B_Range_ok h198) fu41 rfl)) ?_
                refine kS rfl (fun _ k_ => gT rfl rfl (o_neA (xs := [I r32.1.Low, I r32.1.High]) (ys := [I r197.Low, I r197.High]) (T := ((r32.1.Low == r197.Low) && (r32.1.High == r197.High))) rfl rfl eq49 ⟨⟨_, rfl⟩, ⟨⟨_, rfl⟩, trivial⟩⟩ ⟨⟨_, rfl⟩, ⟨⟨_, rfl⟩, trivial⟩⟩ (by simp [Bool.and_eq_true, and_assoc]) dn)) ?_
                refine kS rfl (fun _ k_ => p_pkF rfl (rfl : _ = B (!((r32.1.Low == r197.Low) && (r32.1.High == r197.High)))) dn) ?_
                refine kS rfl (fun _ k_ => p_mB rfl dn) ?_
                refine kB c199 ?_
                refine kS rfl (fun _ k_ => gF rfl rfl dnU) ?_
                refine kS rfl (fun _ k_ => gF rfl rfl dnU) ?_
                refine kS rfl (fun _ k_ => p_pkT rfl (rfl : _ = B true) dn) ?_
                refine kS rfl (fun _ k_ => p_mB rfl dn) ?_
                refine kS rfl (fun _ k_ => gF rfl rfl dnU) ?_
                refine kS rfl (fun _ k_ => gF rfl rfl dnU) ?_
                refine kS rfl (fun _ k_ => gF rfl rfl dnU) ?_
                refine kS rfl (fun _ k_ => p_pkT rfl (rfl : _ = B true) dn) ?_
                refine kS rfl (fun _ k_ => p_mB rfl dn) ?_
                refine kS rfl (fun _ k_ => gF rfl rfl dnU) ?_
                refine kC rfl ?_
                refine kC rfl ?_
                refine kC rfl ?_
                refine kC rfl ?_
                intro w200 k201; have S202 := S98.call k201
                refine gF rfl rfl (cN (Keep.refl _ _) fun w203 k204 => ?_)
                have S205 := S202.call k204
                refine gF rfl rfl (cN (Keep.refl _ _) fun w206 k207 => ?_)
                have S208 := S205.call k207
                refine gF rfl rfl (cN (Keep.refl _ _) fun w209 k210 => ?_)
                have S211 := S208.call k210
                refine p_pkT rfl (rfl : _ = B true) (cN (Keep.refl _ _) fun w212 k213 => ?_)
                have S214 := S211.call k213
                refine wp_nil ?_
                refine c_true rfl ?_
                refine c_seq ?_
                refine reg ?_
                refine p_aB rfl ?_
                refine wp_nil ?_
                obtain rfl := Option.some.inj H
                refine c_ret ?_; show bodyPostM (Fr none) 0 Tryd.prog Tryd.f19 _ .ret _ _
                refine ret_of (res1 rfl (rvT (rfl : _ = B false))) ?_
                exact ⟨_, rfl, rfl, S214.keep⟩
              · replace H := condF c199 H
                rcases Bool.eq_false_or_eq_true (!r56.1) with c215 | c215
                · replace H := condT c215 H
                  refine reg_c mixed 43 [39, 40, 41, 42] (by kernel_rfl) ?_
                  refine kS rfl (fun _ k_ => p_mI rfl dn) ?_
                  refine kS rfl (fun _ k_ => p_cmp rfl rfl rfl dn) ?_
                  refine kS rfl (fun _ k_ => p_mB rfl dn) ?_
                  refine kB c99 ?_
                  refine kS rfl (fun _ k_ => gT rfl rfl (p_mI rfl dn)) ?_
                  refine kS rfl (fun _ k_ => gT rfl rfl (p_cmp rfl rfl rfl dn)) ?_
                  refine kS rfl (fun _ k_ => p_pkF rfl (rfl : _ = B (r32.2 != 0)) dn) ?_
                  refine kS rfl (fun _ k_ => p_mB rfl dn) ?_
                  refine kB c115 ?_
                  refine kS rfl (fun _ k_ => gT rfl rfl (p_mI rfl dn)) ?_
                  refine kS rfl (fun _ k_ => gT rfl rfl (p_cmp rfl rfl rfl dn)) ?_
                  refine kS rfl (fun _ k_ => p_pkF rfl (rfl : _ = B (r56.2 != 0)) dn) ?_
                  refine kS rfl (fun _ k_ => p_mB rfl dn) ?_
                  refine kB c131 ?_
                  refine kS rfl (fun _ k_ => gT rfl rfl (p_mI rfl dn)) ?_
                  refine kS rfl (fun _ k_ => gT rfl rfl (p_cmp rfl rfl rfl dn)) ?_
                  refine kS rfl (fun _ k_ => p_pkF rfl (rfl : _ = B (r70.2 != 0)) dn) ?_
                  refine kS rfl (fun _ k_ => p_mB rfl dn) ?_
                  refine kB c147 ?_
                  refine kS rfl (fun _ k_ => gT rfl rfl (p_mI rfl dn)) ?_
                  refine kS rfl (fun _ k_ => gT rfl rfl (p_cmp rfl rfl rfl dn)) ?_
                  refine kS rfl (fun _ k_ => p_pkF rfl (rfl : _ = B (r90.2 != 0)) dn) ?_
                  refine kS rfl (fun _ k_ => p_mB rfl dn) ?_
                  refine kB c163 ?_
                  refine kS rfl (fun _ k_ => gT rfl rfl (p_ldA ty49 sz49 (Asr.stays (S98.atX (i := 6) rfl) k_) rfl rfl dn)) ?_
                  refine kS rfl (fun _ k_ => gT rfl rfl (p_cvD (B_Range_ok h180) fu41 rfl)) ?_
                  refine kS rfl (fun _ k_ => gT rfl rfl (o_neA (xs := [I r13.1.Low, I r13.1.High]) (ys := [I r179.Low, I r179.High]) (T := ((r13.1.Low == r179.Low) && (r13.1.High == r179.High))) rfl rfl eq49 ⟨⟨_, rfl⟩, ⟨⟨_, rfl⟩, trivial⟩⟩ ⟨⟨_, rfl⟩, ⟨⟨_, rfl⟩, trivial⟩⟩ (by simp [Bool.and_eq_true, and_assoc]) dn)) ?_
                  refine kS rfl (fun _ k_ => p_pkF rfl (rfl : _ = B (!((r13.1.Low == r179.Low) && (r13.1.High == r179.High)))) dn) ?_
                  refine kS rfl (fun _ k_ => p_mB rfl dn) ?_
                  refine kB c181 ?_
                  refine kS rfl (fun _ k_ => gT rfl rfl (p_ldA ty49 sz49 (Asr.stays (S98.atX (i := 4) rfl) k_) rfl rfl dn)) ?_
                  refine kS rfl (fun _ k_ => gT rfl rfl (p_cvD (B_Range_ok h198) fu41 rfl)) ?_
                  refine kS rfl (fun _ k_ => gT rfl rfl (o_neA (xs := [I r32.1.Low, I r32.1.High]) (ys := [I r197.Low, I r197.High]) (T := ((r32.1.Low == r197.Low) && (r32.1.High == r197.High))) rfl rfl eq49 ⟨⟨_, rfl⟩, ⟨⟨_, rfl⟩, trivial⟩⟩ ⟨⟨_, rfl⟩, ⟨⟨_, rfl⟩, trivial⟩⟩ (by simp [Bool.and_eq_true, and_assoc]) dn)) ?_
                  refine kS rfl (fun _ k_ => p_pkF rfl (rfl : _ = B (!((r32.1.Low == r197.Low) && (r32.1.High == r197.High)))) dn) ?_
                  refine kS rfl (fun _ k_ => p_mB rfl dn) ?_
                  refine kB c199 ?_
                  refine kS rfl (fun _ k_ => gT rfl rfl (p_mB rfl dn)) ?_
                  refine kS rfl (fun _ k_ => gT rfl rfl (p_not rfl dn)) ?_
                  refine kS rfl (fun _ k_ => p_pkF rfl (rfl : _ = B (!r56.1)) dn) ?_
                  refine kS rfl (fun _ k_ => p_mB rfl dn) ?_
                  refine kB c215 ?_
                  refine kS rfl (fun _ k_ => gF rfl rfl dnU) ?_
                  refine kS rfl (fun _ k_ => gF rfl rfl dnU) ?_
                  refine kS rfl (fun _ k_ => gF rfl rfl dnU) ?_
                  refine kS rfl (fun _ k_ => p_pkT rfl (rfl : _ = B true) dn) ?_
                  refine kS rfl (fun _ k_ => p_mB rfl dn) ?_
                  refine kS rfl (fun _ k_ => gF rfl rfl dnU) ?_
                  refine kC rfl ?_
                  refine kC rfl ?_
                  refine kC rfl ?_
                  refine kC rfl ?_
                  intro w216 k217; have S218 := S98.call k217
                  refine gF rfl rfl (cN (Keep.refl _ _) fun w219 k220 => ?_)
                  have S221 := S218.call k220
                  refine gF rfl rfl (cN (Keep.refl _ _) fun w222 k223 => ?_)
                  have S224 := S221.call k223
                  refine gF rfl rfl (cN (Keep.refl _ _) fun w225 k226 => ?_)
                  have S227 := S224.call k226
                  refine p_pkT rfl (rfl : _ = B true) (cN (Keep.refl _ _) fun w228 k229 => ?_)
                  have S230 := S227.call k229
                  refine wp_nil ?_
                  refine c_true rfl ?_
                  refine c_seq ?_
                  refine reg ?_
                  refine p_aB rfl ?_
                  refine wp_nil ?_
                  obtain rfl := Option.some.inj H
                  refine c_ret ?_; show bodyPostM (Fr none) 0 Tryd.prog Tryd.f19 _ .ret _ _
                  refine ret_of (res1 rfl (rvT (rfl : _ = B false))) ?_
                  exact ⟨_, rfl, rfl, S230.keep⟩
                · replace H := condF c215 H
                  obtain ⟨r231, h232, H⟩ := bindS H
                  rcases Bool.eq_false_or_eq_true (!((r70.1.Low == r231.Low) && (r70.1.High == r231.High))) with c233 | c233
                  · replace H := condT c233 H
                    refine reg_c mixed 43 [39, 40, 41, 42] (by kernel_rfl) ?_
                    refine kS rfl (fun _ k_ => p_mI rfl dn) ?_
                    refine kS rfl (fun _ k_ => p_cmp rfl rfl rfl dn) ?_
                    refine kS rfl (fun _ k_ => p_mB rfl dn) ?_
                    refine kB c99 ?_
                    refine kS rfl (fun _ k_ => gT rfl rfl (p_mI rfl dn)) ?_
                    refine kS rfl (fun _ k_ => gT rfl rfl (p_cmp rfl rfl rfl dn)) ?_
                    refine kS rfl (fun _ k_ => p_pkF rfl (rfl : _ = B (r32.2 != 0)) dn) ?_
                    refine kS rfl (fun _ k_ => p_mB rfl dn) ?_
                    refine kB c115 ?_
                    refine kS rfl (fun _ k_ => gT rfl rfl (p_mI rfl dn)) ?_
                    refine kS rfl (fun _ k_ => gT rfl rfl (p_cmp rfl rfl rfl dn)) ?_
                    refine kS rfl (fun _ k_ => p_pkF rfl (rfl : _ = B (r56.2 != 0)) dn) ?_
                    refine kS rfl (fun _ k_ => p_mB rfl dn) ?_
                    refine kB c131 ?_
                    refine kS rfl (fun _ k_ => gT rfl rfl (p_mI rfl dn)) ?_
                    refine kS rfl (fun _ k_ => gT rfl rfl (p_cmp rfl rfl rfl dn)) ?_
                    refine kS rfl (fun _ k_ => p_pkF rfl (rfl : _ = B (r70.2 != 0)) dn) ?_
                    refine kS rfl (fun _ k_ => p_mB rfl dn) ?_
                    refine kB c147 ?_
                    refine kS rfl (fun _ k_ => gT rfl rfl (p_mI rfl dn)) ?_
                    refine kS rfl (fun _ k_ => gT rfl rfl (p_cmp rfl rfl rfl dn)) ?_
                    refine kS rfl (fun _ k_ => p_pkF rfl (rfl : _ = B (r90.2 != 0)) dn) ?_
                    refine kS rfl (fun _ k_ => p_mB rfl dn) ?_
                    refine kB c163 ?_
                    refine kS rfl (fun _ k_ => gT rfl rfl (p_ldA ty49 sz49 (Asr.stays (S98.atX (i := 6) rfl) k_) rfl rfl dn)) ?_
                    refine kS rfl (fun _ k_ => gT rfl rfl (p_cvD (B_Range_ok h180) fu41 rfl)) ?_
                    refine kS rfl (fun _ k_ => gT rfl rfl (o_neA (xs := [I r13.1.Low, I r13.1.High]) (ys := [I r179.Low, I r179.High]) (T := ((r13.1.Low == r179.Low) && (r13.1.High == r179.High))) rfl rfl eq49 ⟨⟨_, rfl⟩, ⟨⟨_, rfl⟩, trivial⟩⟩ ⟨⟨_, rfl⟩, ⟨⟨_, rfl⟩, trivial⟩⟩ (by simp [Bool.and_eq_true, and_assoc]) dn)) ?_
                    refine kS rfl (fun _ k_ => p_pkF rfl (rfl : _ = B (!((r13.1.Low == r179.Low) && (r13.1.High == r179.High)))) dn) ?_
                    refine kS rfl (fun _ k_ => p_mB rfl dn) ?_
                    refine kB c181 ?_
                    refine kS rfl (fun _ k_ => gT rfl rfl (p_ldA ty49 sz49 (Asr.stays (S98.atX (i := 4) rfl) k_) rfl rfl dn)) ?_
                    refine kS rfl (fun _ k_ => gT rfl rfl (p_cvD (B_Range_ok h198) fu41 rfl)) ?_
                    refine kS rfl (fun _ k_ => gT rfl rfl (o_neA (xs := [I r32.1.Low, I r32.1.High]) (ys := [I r197.Low, I r197.High]) (T := ((r32.1.Low == r197.Low) && (r32.1.High == r197.High))) rfl rfl eq49 ⟨⟨_, rfl⟩, ⟨⟨_, rfl⟩, trivial⟩⟩ ⟨⟨_, rfl⟩, ⟨⟨_, rfl⟩, trivial⟩⟩ (by simp [Bool.and_eq_true, and_assoc]) dn)) ?_
                    refine kS rfl (fun _ k_ => p_pkF rfl (rfl : _ = B (!((r32.1.Low == r197.Low) && (r32.1.High == r197.High)))) dn) ?_
                    refine kS rfl (fun _ k_ => p_mB rfl dn) ?_
                    refine kB c199 ?_
                    refine kS rfl (fun _ k_ => gT rfl rfl (p_mB rfl dn)) ?_
                    refine kS rfl (fun _ k_ => gT rfl rfl (p_not rfl dn)) ?_
                    refine kS rfl (fun _ k_ => p_pkF rfl (rfl : _ = B (!r56.1)) dn) ?_
                    refine kS rfl (fun _ k_ => p_mB rfl dn) ?_
                    refine kB c215 ?_
                    refine kS rfl (fun _ k_ => gT rfl rfl (p_ldA ty49 sz49 (Asr.stays (S98.atX (i := 0) rfl) k_) rfl rfl dn)) ?_
                    refine kS rfl (fun _ k_ => gT rfl rfl (p_cvD (B_Range_ok h232) fu41 rfl)) ?_
                    refine kS rfl (fun _ k_ => gT rfl rfl (o_neA (xs := [I r70.1.Low, I r70.1.High]) (ys := [I r231.Low, I r231.High]) (T := ((r70.1.Low == r231.Low) && (r70.1.High == r231.High))) rfl rfl eq49 ⟨⟨_, rfl⟩, ⟨⟨_, rfl⟩, trivial⟩⟩ ⟨⟨_, rfl⟩, ⟨⟨_, rfl⟩, trivial⟩⟩ (by simp [Bool.and_eq_true, and_assoc]) dn)) ?_
                    refine kS rfl (fun _ k_ => p_pkF rfl (rfl : _ = B (!((r70.1.Low == r231.Low) && (r70.1.High == r231.High)))) dn) ?_
                    refine kS rfl (fun _ k_ => p_mB rfl dn) ?_
                    refine kB c233 ?_
                    refine kS rfl (fun _ k_ => gF rfl rfl dnU) ?_
                    refine kC rfl ?_
                    refine kC rfl ?_
                    refine kC rfl ?_
                    refine kC rfl ?_
                    intro w234 k235; have S236 := S98.call k235
                    refine gF rfl rfl (cN (Keep.refl _ _) fun w237 k238 => ?_)
                    have S239 := S236.call k238
                    refine gF rfl rfl (cN (Keep.refl _ _) fun w240 k241 => ?_)
                    have S242 := S239.call k241
                    refine gF rfl rfl (cN (Keep.refl _ _) fun w243 k244 => ?_)
                    have S245 := S242.call k244
                    refine p_pkT rfl (rfl : _ = B true) (cN (Keep.refl _ _) fun w246 k247 => ?_)
                    have S248 := S245.call k247
                    refine wp_nil ?_
                    refine c_true rfl ?_
                    refine c_seq ?_
                    refine reg ?_
                    refine p_aB rfl ?_
                    refine wp_nil ?_
                    obtain rfl := Option.some.inj H
                    refine c_ret ?_; show bodyPostM (Fr none) 0 Tryd.prog Tryd.f19 _ .ret _ _
                    refine ret_of (res1 rfl (rvT (rfl : _ = B false))) ?_
                    exact ⟨_, rfl, rfl, S248.keep⟩
                  · replace H := condF c233 H
                    refine reg_c mixed 43 [39, 40, 41, 42] (by kernel_rfl) ?_
                    refine kS rfl (fun _ k_ => p_mI rfl dn) ?_
                    refine kS rfl (fun _ k_ => p_cmp rfl rfl rfl dn) ?_
                    refine kS rfl (fun _ k_ => p_mB rfl dn) ?_
                    refine kB c99 ?_
                    refine kS rfl (fun _ k_ => gT rfl rfl (p_mI rfl dn)) ?_
                    refine kS rfl (fun _ k_ => gT rfl rfl (p_cmp rfl rfl rfl dn)) ?_
                    refine kS rfl (fun _ k_ => p_pkF rfl (rfl : _ = B (r32.2 != 0)) dn) ?_
                    refine kS rfl (fun _ k_ => p_mB rfl dn) ?_
                    refine kB c115 ?_
                    refine kS rfl (fun _ k_ => gT rfl rfl (p_mI rfl dn)) ?_
                    refine kS rfl (fun _ k_ => gT rfl rfl (p_cmp rfl rfl rfl dn)) ?_
                    refine kS rfl (fun _ k_ => p_pkF rfl (rfl : _ = B (r56.2 != 0)) dn) ?_
                    refine kS rfl (fun _ k_ => p_mB rfl dn) ?_
                    refine kB c131 ?_
                    refine kS rfl (fun _ k_ => gT rfl rfl (p_mI rfl dn)) ?_
                    refine kS rfl (fun _ k_ => gT rfl rfl (p_cmp rfl rfl rfl dn)) ?_
                    refine kS rfl (fun _ k_ => p_pkF rfl (rfl : _ = B (r70.2 != 0)) dn) ?_
                    refine kS rfl (fun _ k_ => p_mB rfl dn) ?_
                    refine kB c147 ?_
                    refine kS rfl (fun _ k_ => gT rfl rfl (p_mI rfl dn)) ?_
                    refine kS rfl (fun _ k_ => gT rfl rfl (p_cmp rfl rfl rfl dn)) ?_
                    refine kS rfl (fun _ k_ => p_pkF rfl (rfl : _ = B (r90.2 != 0)) dn) ?_
                    refine kS rfl (fun _ k_ => p_mB rfl dn) ?_
                    refine kB c163 ?_
                    refine kS rfl (fun _ k_ => gT rfl rfl (p_ldA ty49 sz49 (Asr.stays (S98.atX (i := 6) rfl) k_) rfl rfl dn)) ?_
                    refine kS rfl (fun _ k_ => gT rfl rfl (p_cvD (B_Range_ok h180) fu41 rfl)) ?_
                    refine kS rfl (fun _ k_ => gT rfl rfl (o_neA (xs := [I r13.1.Low, I r13.1.High]) (ys := [I r179.Low, I r179.High]) (T := ((r13.1.Low == r179.Low) && (r13.1.High == r179.High))) rfl rfl eq49 ⟨⟨_, rfl⟩, ⟨⟨_, rfl⟩, trivial⟩⟩ ⟨⟨_, rfl⟩, ⟨⟨_, rfl⟩, trivial⟩⟩ (by simp [Bool.and_eq_true, and_assoc]) dn)) ?_
                    refine kS rfl (fun _ k_ => p_pkF rfl (rfl : _ = B (!((r13.1.Low == r179.Low) && (r13.1.High == r179.High)))) dn) ?_
                    refine kS rfl (fun _ k_ => p_mB rfl dn) ?_
                    refine kB c181 ?_
                    refine kS rfl (fun _ k_ => gT rfl rfl (p_ldA ty49 sz49 (Asr.stays (S98.atX (i := 4) rfl) k_) rfl rfl dn)) ?_
                    refine kS rfl (fun _ k_ => gT rfl rfl (p_cvD (B_Range_ok h198) fu41 rfl)) ?_
                    refine kS rfl (fun _ k_ => gT rfl rfl (o_neA (xs := [I r32.1.Low, I r32.1.High]) (ys := [I r197.Low, I r197.High]) (T := ((r32.1.Low == r197.Low) && (r32.1.High == r197.High))) rfl rfl eq49 ⟨⟨_, rfl⟩, ⟨⟨_, rfl⟩, trivial⟩⟩ ⟨⟨_, rfl⟩, ⟨⟨_, rfl⟩, trivial⟩⟩ (by simp [Bool.and_eq_true, and_assoc]) dn)) ?_
                    refine kS rfl (fun _ k_ => p_pkF rfl (rfl : _ = B (!((r32.1.Low == r197.Low) && (r32.1.High == r197.High)))) dn) ?_
                    refine kS rfl (fun _ k_ => p_mB rfl dn) ?_
                    refine kB c199 ?_
                    refine kS rfl (fun _ k_ => gT rfl rfl (p_mB rfl dn)) ?_
                    refine kS rfl (fun _ k_ => gT rfl rfl (p_not rfl dn)) ?_
                    refine kS rfl (fun _ k_ => p_pkF rfl (rfl : _ = B (!r56.1)) dn) ?_
                    refine kS rfl (fun _ k_ => p_mB rfl dn) ?_
                    refine kB c215 ?_
                    refine kS rfl (fun _ k_ => gT rfl rfl (p_ldA ty49 sz49 (Asr.stays (S98.atX (i := 0) rfl) k_) rfl rfl dn)) ?_
                    refine kS rfl (fun _ k_ => gT rfl rfl (p_cvD (B_Range_ok h232) fu41 rfl)) ?_
                    refine kS rfl (fun _ k_ => gT rfl rfl (o_neA (xs := [I r70.1.Low, I r70.1.High]) (ys := [I r231.Low, I r231.High]) (T := ((r70.1.Low == r231.Low) && (r70.1.High == r231.High))) rfl rfl eq49 ⟨⟨_, rfl⟩, ⟨⟨_, rfl⟩, trivial⟩⟩ ⟨⟨_, rfl⟩, ⟨⟨_, rfl⟩, trivial⟩⟩ (by simp [Bool.and_eq_true, and_assoc]) dn)) ?_
                    refine kS rfl (fun _ k_ => p_pkF rfl (rfl : _ = B (!((r70.1.Low == r231.Low) && (r70.1.High == r231.High)))) dn) ?_
                    refine kS rfl (fun _ k_ => p_mB rfl dn) ?_
                    refine kB c233 ?_
                    refine kS rfl (fun _ k_ => gT rfl rfl (p_mS rfl dn)) ?_
                    refine kC rfl ?_
                    refine kC rfl ?_
                    refine kC rfl ?_
                    refine kC rfl ?_
                    intro w249 k250; have S251 := S98.call k250
                    refine gT rfl rfl ?_
                    have S257 := S251.base
                    refine p_bsl (enc := intE) (l := ([0] : List Int)) I (fun _ => rfl) sc31 in3 intE_len rfl (by decide) (by decide) zr3_1 S257 rfl fun A252 c253 w254 S255 => ?_
                    refine cN S255.keep fun w258 k259 => ?_
                    have S260 := (S251.fromBase S255).call k259
                    obtain ⟨r261, h262, H⟩ := bindS H
                    refine gT rfl rfl <| p_cal (B_Alike_ok h262 (S260.atP (i := 0) rfl) (gr_rd intE_len (S260.atX (i := 0) rfl))) fu22 rfl ?_
                    rintro _ w263 ⟨rfl, k264⟩; refine cN k264 fun w265 k266 => ?_
                    have S267 := (S260.call k264).call k266
                    refine gT rfl rfl (p_not rfl (cN (Keep.refl _ _) fun w268 k269 => ?_))
                    have S270 := S267.call k269
                    refine p_pkF rfl (rfl : _ = B (!r261)) (cN (Keep.refl _ _) fun w271 k272 => ?_)
                    have S273 := S270.call k272
                    refine wp_nil ?_
                    refine c_cond rfl (fun c274 => ?_) (fun c274 => ?_)
                    · replace H := condT c274 H
                      refine c_seq ?_
                      refine reg ?_
                      refine p_aB rfl ?_
                      refine wp_nil ?_
                      obtain rfl := Option.some.inj H
                      refine c_ret ?_; show bodyPostM (Fr none) 0 Tryd.prog Tryd.f19 _ .ret _ _
                      refine ret_of (res1 rfl (rvT (rfl : _ = B false))) ?_
                      exact ⟨_, rfl, rfl, S273.keep⟩
                    · replace H := condF c274 H
                      refine c_skip ?_
                      refine c_seq ?_
                      refine reg ?_
                      obtain ⟨r275, h276, H⟩ := bindS H
                      refine p_cal (law_torn_ok h276) fu54 rfl ?_
                      rintro _ w277 ⟨A279, c280, rfl, k278, ⟨o281, n282⟩, _⟩
                      have S284 := S273.addNew k278 o281 n282
                      obtain ⟨r285, h286, H⟩ := bindS H
                      refine p_cal (tally_Whose_ok h286 (gr_rd eTallyCount_len (S284.atX (i := 0) rfl)) (S284.atP (i := 2) rfl) (S284.atP (i := 3) rfl)) fu31 rfl ?_
                      rintro _ w287 ⟨A289, c290, rfl, k288, ⟨o291, n292⟩, _⟩
                      have S293 := S284.callN k288 [rd intE 1 A289 c290 r285.1] (List.forall_mem_cons.2 ⟨⟨o291, New.inL n292⟩, (fun _ h_ => (List.not_mem_nil h_).elim)⟩)
                      refine p_mT rfl ?_
                      refine p_ext rfl rfl ?_
                      refine p_ext rfl rfl ?_
                      refine p_aS rfl ?_
                      refine p_aI rfl ?_
                      refine wp_nil ?_
                      refine c_seq ?_
                      refine reg ?_
                      obtain ⟨r294, h295, H⟩ := bindS H
                      refine p_cal (law_own_ok h295) fu52 rfl ?_
                      rintro _ w296 ⟨A298, c299, rfl, k297, ⟨o300, n301⟩, _⟩
                      have S303 := S293.addNew k297 o300 n301
                      obtain ⟨r304, h305, H⟩ := bindS H
                      refine p_cv (tally_Again_ok h305 (gr_rd eTallyCount_len (S303.atX (i := 0) rfl)) (S303.atP (i := 3) rfl) (S303.atP (i := 4) rfl)) fu50 rfl S303 fun w306 S307 => ?_
                      refine p_mT rfl ?_
                      refine p_ext rfl rfl ?_
                      refine p_ext rfl rfl ?_
                      refine p_aI rfl ?_
                      refine p_aI rfl ?_
                      refine wp_nil ?_
                      refine c_seq ?_
                      refine reg ?_
                      obtain ⟨r308, h309, H⟩ := bindS H
                      refine p_cal (law_own_ok h309) fu52 rfl ?_
                      rintro _ w310 ⟨A312, c313, rfl, k311, ⟨o314, n315⟩, _⟩
                      have S317 := S307.addNew k311 o314 n315
                      obtain ⟨r318, h319, H⟩ := bindS H
                      refine p_cv (law_count_ok h319) fu37 rfl S317 fun w320 S321 => ?_
                      obtain ⟨r322, h323, H⟩ := bindS H
                      refine p_cv (tally_Fits_ok h323 (gr_rd eTallyCount_len (S321.atX (i := 0) rfl)) (S321.atP (i := 3) rfl) (S321.atP (i := 4) rfl)) fu36 rfl S321 fun w324 S325 => ?_
                      refine p_mT rfl ?_
                      refine p_ext rfl rfl ?_
                      refine p_ext rfl rfl ?_
                      refine p_aB rfl ?_
                      refine p_aI rfl ?_
                      refine wp_nil ?_
                      refine c_seq ?_
                      refine reg ?_
                      obtain ⟨r326, h327, H⟩ := bindS H
                      refine p_cal (law_torn_ok h327) fu54 rfl ?_
                      rintro _ w328 ⟨A330, c331, rfl, k329, ⟨o332, n333⟩, _⟩
                      have S335 := S325.addNew k329 o332 n333
                      obtain ⟨r336, h337, H⟩ := bindS H
                      refine p_cv (tally_Right_ok h337 (gr_rd eTallyCount_len (S335.atX (i := 0) rfl)) (S335.atP (i := 3) rfl) (S335.atP (i := 4) rfl)) fu28 rfl S335 fun w338 S339 => ?_
                      refine p_mT rfl ?_
                      refine p_ext rfl rfl ?_
                      refine p_ext rfl rfl ?_
                      refine p_aB rfl ?_
                      refine p_aI rfl ?_
                      refine wp_nil ?_
                      refine c_seq ?_
                      refine reg ?_
                      refine p_mI rfl ?_
                      refine p_cmp rfl rfl rfl ?_
                      refine p_mB rfl ?_
                      rcases Bool.eq_false_or_eq_true ((r285.2 == 0)) with c340 | c340
                      · replace H := condT c340 H
                        refine eB c340 ?_
                        refine gT rfl rfl (p_mI rfl ?_)
                        refine gT rfl rfl (p_cmp rfl rfl rfl ?_)
                        refine p_pkT rfl (rfl : _ = B (r304.2 == 0)) ?_
                        refine p_mB rfl ?_
                        rcases Bool.eq_false_or_eq_true ((r304.2 == 0)) with c341 | c341
                        · replace H := condT c341 H
                          refine eB c341 ?_
                          refine gT rfl rfl (p_mI rfl ?_)
                          refine gT rfl rfl (p_cmp rfl rfl rfl ?_)
                          refine p_pkT rfl (rfl : _ = B (r322.2 == 0)) ?_
                          refine p_mB rfl ?_
                          rcases Bool.eq_false_or_eq_true ((r322.2 == 0)) with c342 | c342
                          · replace H := condT c342 H
                            refine eB c342 ?_
                            refine gT rfl rfl (p_mI rfl ?_)
                            refine gT rfl rfl (p_cmp rfl rfl rfl ?_)
                            refine p_pkT rfl (rfl : _ = B (r336.2 == 0)) ?_
                            refine p_mB rfl ?_
                            rcases Bool.eq_false_or_eq_true ((r336.2 == 0)) with c343 | c343
                            · replace H := condT c343 H
                              refine eB c343 ?_
                              refine gT rfl rfl (p_mS rfl ?_)
                              refine gT rfl rfl ?_
                              refine p_bsl (enc := intE) (l := [0, 2]) I (fun _ => rfl) sc31 in3 intE_len rfl (by decide) (by decide) zr3_2 S339 rfl fun A344 c345 w346 S347 => ?_
                              obtain ⟨r349, h350, H⟩ := bindS H
                              refine gT rfl rfl (p_cv (B_Alike_ok h350 (S347.atP (i := 0) rfl) (gr_rd intE_len (S347.atX (i := 0) rfl))) fu22 rfl S347 fun w351 S352 => ?_)
                              refine p_pkT rfl (rfl : _ = B r349) ?_
                              refine p_mB rfl ?_
                              rcases Bool.eq_false_or_eq_true (r349) with c353 | c353
                              · replace H := condT c353 H
                                refine eB c353 ?_
                                refine gT rfl rfl (p_mI rfl ?_)
                                refine gT rfl rfl (p_cmp rfl rfl rfl ?_)
                                refine p_pkT rfl (rfl : _ = B (r304.1 == 3)) ?_
                                refine p_mB rfl ?_
                                rcases Bool.eq_false_or_eq_true ((r304.1 == 3)) with c354 | c354
                                · replace H := condT c354 H
                                  refine eB c354 ?_
                                  refine gT rfl rfl (p_mB rfl ?_)
                                  refine p_pkT rfl (rfl : _ = B r322.1) ?_
                                  refine p_mB rfl ?_
                                  rcases Bool.eq_false_or_eq_true (r322.1) with c355 | c355
                                  · replace H := condT c355 H
                                    refine eB c355 ?_
                                    refine gT rfl rfl (p_mB rfl ?_)
                                    refine gT rfl rfl (p_not rfl ?_)
                                    refine p_pkT rfl (rfl : _ = B (!r336.1)) ?_
                                    refine p_aB rfl ?_
                                    refine wp_nil ?_
                                    obtain rfl := Option.some.inj H
                                    refine c_ret ?_; show bodyPostM (Fr none) 0 Tryd.prog Tryd.f19 _ .ret _ _
                                    refine ret_of (res1 rfl (rvT (rfl : _ = B (!r336.1)))) ?_
                                    exact ⟨_, rfl, rfl, S352.keep⟩
                                  · replace H := condF c355 H
                                    refine eB c355 ?_
                                    refine gF rfl rfl ?_
                                    refine gF rfl rfl ?_
                                    refine p_pkF rfl (rfl : _ = B false) ?_
                                    refine p_aB rfl ?_
                                    refine wp_nil ?_
                                    obtain rfl := Option.some.inj H
                                    refine c_ret ?_; show bodyPostM (Fr none) 0 Tryd.prog Tryd.f19 _ .ret _ _
                                    refine ret_of (res1 rfl (rvT (rfl : _ = B false))) ?_
                                    exact ⟨_, rfl, rfl, S352.keep⟩
                                · replace H := condF c354 H
                                  refine eB c354 ?_
                                  refine gF rfl rfl ?_
                                  refine p_pkF rfl (rfl : _ = B false) ?_
                                  refine p_mB rfl ?_
                                  refine gF rfl rfl ?_
                                  refine gF rfl rfl ?_
                                  refine p_pkF rfl (rfl : _ = B false) ?_
                                  refine p_aB rfl ?_
                                  refine wp_nil ?_
                                  obtain rfl := Option.some.inj H
                                  refine c_ret ?_; show bodyPostM (Fr none) 0 Tryd.prog Tryd.f19 _ .ret _ _
                                  refine ret_of (res1 rfl (rvT (rfl : _ = B false))) ?_
                                  exact ⟨_, rfl, rfl, S352.keep⟩
                              · replace H := condF c353 H
                                refine eB c353 ?_
                                refine gF rfl rfl ?_
                                refine gF rfl rfl ?_
                                refine p_pkF rfl (rfl : _ = B false) ?_
                                refine p_mB rfl ?_
                                refine gF rfl rfl ?_
                                refine p_pkF rfl (rfl : _ = B false) ?_
                                refine p_mB rfl ?_
                                refine gF rfl rfl ?_
                                refine gF rfl rfl ?_
                                refine p_pkF rfl (rfl : _ = B false) ?_
                                refine p_aB rfl ?_
                                refine wp_nil ?_
                                obtain rfl := Option.some.inj H
                                refine c_ret ?_; show bodyPostM (Fr none) 0 Tryd.prog Tryd.f19 _ .ret _ _
                                refine ret_of (res1 rfl (rvT (rfl : _ = B false))) ?_
                                exact ⟨_, rfl, rfl, S352.keep⟩
                            · replace H := condF c343 H
                              refine eB c343 ?_
                              refine gF rfl rfl ?_
                              refine gF rfl rfl ?_
                              refine gF rfl rfl ?_
                              refine p_pkF rfl (rfl : _ = B false) ?_
                              refine p_mB rfl ?_
                              refine gF rfl rfl ?_
                              refine gF rfl rfl ?_
                              refine p_pkF rfl (rfl : _ = B false) ?_
                              refine p_mB rfl ?_
                              refine gF rfl rfl ?_
                              refine p_pkF rfl (rfl : _ = B false) ?_
                              refine p_mB rfl ?_
                              refine gF rfl rfl ?_
                              refine gF rfl rfl ?_
                              refine p_pkF rfl (rfl : _ = B false) ?_
                              refine p_aB rfl ?_
                              refine wp_nil ?_
                              obtain rfl := Option.some.inj H
                              refine c_ret ?_; show bodyPostM (Fr none) 0 Tryd.prog Tryd.f19 _ .ret _ _
                              refine ret_of (res1 rfl (rvT (rfl : _ = B false))) ?_
                              exact ⟨_, rfl, rfl, S339.keep⟩
                          · replace H := condF c342 H
                            refine eB c342 ?_
                            refine gF rfl rfl ?_
                            refine gF rfl rfl ?_
                            refine p_pkF rfl (rfl : _ = B false) ?_
                            refine p_mB rfl ?_
                            refine gF rfl rfl ?_
                            refine gF rfl rfl ?_
                            refine gF rfl rfl ?_
                            refine p_pkF rfl (rfl : _ = B false) ?_
                            refine p_mB rfl ?_
                            refine gF rfl rfl ?_
                            refine gF rfl rfl ?_
                            refine p_pkF rfl (rfl : _ = B false) ?_
                            refine p_mB rfl ?_
                            refine gF rfl rfl ?_
                            refine p_pkF rfl (rfl : _ = B false) ?_
                            refine p_mB rfl ?_
                            refine gF rfl rfl ?_
                            refine gF rfl rfl ?_
                            refine p_pkF rfl (rfl : _ = B false) ?_
                            refine p_aB rfl ?_
                            refine wp_nil ?_
                            obtain rfl := Option.some.inj H
                            refine c_ret ?_; show bodyPostM (Fr none) 0 Tryd.prog Tryd.f19 _ .ret _ _
                            refine ret_of (res1 rfl (rvT (rfl : _ = B false))) ?_
                            exact ⟨_, rfl, rfl, S339.keep⟩
                        · replace H := condF c341 H
                          refine eB c341 ?_
                          refine gF rfl rfl ?_
                          refine gF rfl rfl ?_
                          refine p_pkF rfl (rfl : _ = B false) ?_
                          refine p_mB rfl ?_
                          refine gF rfl rfl ?_
                          refine gF rfl rfl ?_
                          refine p_pkF rfl (rfl : _ = B false) ?_
                          refine p_mB rfl ?_
                          refine gF rfl rfl ?_
                          refine gF rfl rfl ?_
                          refine gF rfl rfl ?_
                          refine p_pkF rfl (rfl : _ = B false) ?_
                          refine p_mB rfl ?_
                          refine gF rfl rfl ?_
                          refine gF rfl rfl ?_
                          refine p_pkF rfl (rfl : _ = B false) ?_
                          refine p_mB rfl ?_
                          refine gF rfl rfl ?_
                          refine p_pkF rfl (rfl : _ = B false) ?_
                          refine p_mB rfl ?_
                          refine gF rfl rfl ?_
                          refine gF rfl rfl ?_
                          refine p_pkF rfl (rfl : _ = B false) ?_
                          refine p_aB rfl ?_
                          refine wp_nil ?_
                          obtain rfl := Option.some.inj H
                          refine c_ret ?_; show bodyPostM (Fr none) 0 Tryd.prog Tryd.f19 _ .ret _ _
                          refine ret_of (res1 rfl (rvT (rfl : _ = B false))) ?_
                          exact ⟨_, rfl, rfl, S339.keep⟩
                      · replace H := condF c340 H
                        refine eB c340 ?_
                        refine gF rfl rfl ?_
                        refine gF rfl rfl ?_
                        refine p_pkF rfl (rfl : _ = B false) ?_
                        refine p_mB rfl ?_
                        refine gF rfl rfl ?_
                        refine gF rfl rfl ?_
                        refine p_pkF rfl (rfl : _ = B false) ?_
                        refine p_mB rfl ?_
                        refine gF rfl rfl ?_
                        refine gF rfl rfl ?_
                        refine p_pkF rfl (rfl : _ = B false) ?_
                        refine p_mB rfl ?_
                        refine gF rfl rfl ?_
                        refine gF rfl rfl ?_
                        refine gF rfl rfl ?_
                        refine p_pkF rfl (rfl : _ = B false) ?_
                        refine p_mB rfl ?_
                        refine gF rfl rfl ?_
                        refine gF rfl rfl ?_
                        refine p_pkF rfl (rfl : _ = B false) ?_
                        refine p_mB rfl ?_
                        refine gF rfl rfl ?_
                        refine p_pkF rfl (rfl : _ = B false) ?_
                        refine p_mB rfl ?_
                        refine gF rfl rfl ?_
                        refine gF rfl rfl ?_
                        refine p_pkF rfl (rfl : _ = B false) ?_
                        refine p_aB rfl ?_
                        refine wp_nil ?_
                        obtain rfl := Option.some.inj H
                        refine c_ret ?_; show bodyPostM (Fr none) 0 Tryd.prog Tryd.f19 _ .ret _ _
                        refine ret_of (res1 rfl (rvT (rfl : _ = B false))) ?_
                        exact ⟨_, rfl, rfl, S339.keep⟩

def ref_With (a0 : TallyBook) (a1 : TallyCount) : Option TallyBook :=
  bif a0.Counts.isEmpty then (need (fitsL (([] : List TallyCount).length + ([a1] : List TallyCount).length) 56) <|
  some (TallyBook.mk a0.Trips a0.Room ([a1] : List TallyCount)))
  else (need (fitsL (([] : List TallyCount).length + a0.Counts.length) 56) <|
  need (fitsL (a0.Counts.length + ([a1] : List TallyCount).length) 56) <|
  some (TallyBook.mk a0.Trips a0.Room (a0.Counts ++ ([a1] : List TallyCount))))

set_option maxRecDepth 100000 in
theorem ref_With_ok {a0 : TallyBook} {a1 : TallyCount} {A1 : Option Addr} {c2 : Nat} {w : World} {r : TallyBook} (H : ref_With a0 a1 = some r) (h3 : (rd eTallyCount 7 A1 c2 a0.Counts).ok w) : Calls Tryd.prog 87 #[AG [I a0.Trips, I a0.Room, SL A1 a0.Counts.length c2], AG [I a1.Who, I a1.From, I a1.To, I a1.Told, I a1.Unit, I a1.Under, I a1.Over]] w fun en w_ => ∃ u_, en = .returned u_ ∧ ∃ A_1 : Option Addr, ∃ c_2 : Nat, u_ = AG [I r.Trips, I r.Room, SL A_1 r.Counts.length c_2] ∧ Keep0 w w_ ∧ ((gr eTallyCount 7 33 A_1 c_2 r.Counts).ok w_ ∧ New w.heap.size (gr eTallyCount 7 33 A_1 c_2 r.Counts)) ∧ True := by
  unfold ref_With at H
  refine fn_of (n := 16) Tryd.func87 rfl rfl (Nat.le_of_ble_eq_true rfl) ?_
  have S : St w (fun _ => False) w [] [rd eTallyCount 7 A1 c2 a0.Counts] := St.start w _ _ (List.forall_mem_cons.2 ⟨h3, (fun _ h_ => (List.not_mem_nil h_).elim)⟩)
  refine c_seq ?_
  refine reg ?_
  refine p_boxA rfl S fun b4 w5 S6 => ?_
  refine p_boxA rfl S6 fun b7 w8 S9 => ?_
  refine p_allA in24 S9 fun b10 w11 S12 => ?_
  refine wp_nil ?_
  refine c_seq ?_
  refine reg ?_
  refine p_ldA ty24 sz24 (S12.atX (i := 2) rfl) rfl rfl ?_
  refine p_allA in24 S12 fun b13 w14 S15 => ?_
  refine p_stP (pre := []) (old := [I 0, I 0, SL none 0 0]) (post := []) (vs := [I a0.Trips, I a0.Room, SL A1 a0.Counts.length c2]) sz24 S15 (i := 0) rfl rfl rfl rfl (rfl : _ = AG [I a0.Trips, I a0.Room, SL A1 a0.Counts.length c2]) rfl rfl rfl rfl fun w16 S17 => ?_
  refine wp_nil ?_
  refine c_seq ?_
  rcases Bool.eq_false_or_eq_true (a0.Counts.isEmpty) with c24 | c24
  · replace H := condT c24 H
    refine reg_any mixed 6 (by kernel_rfl) [rx (α := (Option Addr)) (fun A18 => SL A18 0 0) (fun A18 lo hi => BtwL lo hi [] (gr eTallyCount 7 33 A18 0 ([] : List TallyCount)) ∧ True) (fun A18 => [gr eTallyCount 7 33 A18 0 ([] : List TallyCount)]), rv (P b4 2), rv (SL A1 a0.Counts.length c2), dv 7 some, rv (AG [I a1.Who, I a1.From, I a1.To, I a1.Told, I a1.Unit, I a1.Under, I a1.Over]), rx (α := (Option Addr) × Nat) (fun ⟨A34, c35⟩ => SL A34 ([a1] : List TallyCount).length c35) (fun ⟨A34, c35⟩ lo hi => BtwL lo hi [] (gr eTallyCount 7 33 A34 c35 ([a1] : List TallyCount)) ∧ True) (fun ⟨A34, c35⟩ => [gr eTallyCount 7 33 A34 c35 ([a1] : List TallyCount)])] [[], [], [], [7], [], []] rfl (by kernel_rfl) [[], [], [1], [0, 1, 2], [], [4], [0, 1, 2, 3, 4, 5], [0, 1, 2, 3, 4, 5, 6], [0, 1, 2, 3, 4, 5, 6, 7]] (by kernel_rfl) ⟨?_, ?_, ?_, ?_, ?_, ?_, trivial⟩ ?_
    · intro e_ w_ k_ hf_ hR_
      have S_ : St w_ (fun _ => False) w_ [] [bl b13 [I a0.Trips, I a0.Room, SL A1 a0.Counts.length c2] 24, bl b10 [I 0, I 0, SL none 0 0] 24, bl b7 [I a1.Who, I a1.From, I a1.To, I a1.Told, I a1.Unit, I a1.Under, I a1.Over] 33, bl b4 [I a0.Trips, I a0.Room, SL A1 a0.Counts.length c2] 24, rd eTallyCount 7 A1 c2 a0.Counts] := S17.asP k_
      refine hopE [] trivial ?_
      refine p_bsl0 eTallyCount sc22 S_ fun A18 w20 S21 => ?_
      refine wp_nil ?_
      exact ⟨_, rfl, S21.keep, ⟨A18, rfl, ⟨BtwL.of (New.al (S21.newX (i := 0) rfl)) rfl (S21.atX (i := 0) rfl) rfl, trivial⟩, (List.forall_mem_cons.2 ⟨(S21.atX (i := 0) rfl), (fun _ h_ => (List.not_mem_nil h_).elim)⟩)⟩⟩
    · intro e_ w_ k_ hf_ hR_
      have S_ : St w_ (fun _ => False) w_ [] [bl b13 [I a0.Trips, I a0.Room, SL A1 a0.Counts.length c2] 24, bl b10 [I 0, I 0, SL none 0 0] 24, bl b7 [I a1.Who, I a1.From, I a1.To, I a1.Told, I a1.Unit, I a1.Under, I a1.Over] 33, bl b4 [I a0.Trips, I a0.Room, SL A1 a0.Counts.length c2] 24, rd eTallyCount 7 A1 c2 a0.Counts] := S17.asP k_
      refine hopE [(2, P b4 0)] ⟨((hf_ 2 rfl).trans (rfl : _ = P b4 0)), trivial⟩ ?_
      refine p_fld fl24_2 rfl ?_
      refine wp_nil ?_
      exact ⟨_, rfl, S_.keep, rfl⟩
    · intro e_ w_ k_ hf_ hR_
      have S_ : St w_ (fun _ => False) w_ [] [bl b13 [I a0.Trips, I a0.Room, SL A1 a0.Counts.length c2] 24, bl b10 [I 0, I 0, SL none 0 0] 24, bl b7 [I a1.Who, I a1.From, I a1.To, I a1.Told, I a1.Unit, I a1.Under, I a1.Over] 33, bl b4 [I a0.Trips, I a0.Room, SL A1 a0.Counts.length c2] 24, rd eTallyCount 7 A1 c2 a0.Counts] := S17.asP k_
      obtain ⟨_, _, _, _, q23⟩ := hR_ 1 8 rfl (Nat.le_of_ble_eq_true rfl) rfl
      refine hopE [(8, P b4 2)] ⟨q23, trivial⟩ ?_
      refine p_ld ty22 (S_.atP (i := 3) rfl) rfl rfl ?_
      refine wp_nil ?_
      exact ⟨_, rfl, S_.keep, rfl⟩
    · intro e_ w_ k_ hf_ hR_
      have S_ : St w_ (fun _ => False) w_ [] [bl b13 [I a0.Trips, I a0.Room, SL A1 a0.Counts.length c2] 24, bl b10 [I 0, I 0, SL none 0 0] 24, bl b7 [I a1.Who, I a1.From, I a1.To, I a1.Told, I a1.Unit, I a1.Under, I a1.Over] 33, bl b4 [I a0.Trips, I a0.Room, SL A1 a0.Counts.length c2] 24, rd eTallyCount 7 A1 c2 a0.Counts] := S17.asP k_
      obtain ⟨_, _, _, _, A18, q25, p26, a27⟩ := hR_ 0 7 rfl (Nat.le_of_ble_eq_true rfl) rfl
      replace q25 : e_ 7 = SL A18 0 0 := q25
      have S_ := St.addL' S_ (a27 _ (.head _)) (fun _ _ _ h_ => (List.not_mem_nil h_).elim)
      obtain ⟨_, _, _, _, q28⟩ := hR_ 2 9 rfl (Nat.le_of_ble_eq_true rfl) rfl
      refine hopE [(7, SL A18 0 0), (9, SL A1 a0.Counts.length c2)] ⟨q25, q28, trivial⟩ ?_
      refine p_app0 sc22 in33 (Nat.le_refl _) c24 rfl rfl ?_
      refine wp_nil ?_
      exact ⟨_, rfl, S_.keep, rfl⟩
    · intro e_ w_ k_ hf_ hR_
      have S_ : St w_ (fun _ => False) w_ [] [bl b13 [I a0.Trips, I a0.Room, SL A1 a0.Counts.length c2] 24, bl b10 [I 0, I 0, SL none 0 0] 24, bl b7 [I a1.Who, I a1.From, I a1.To, I a1.Told, I a1.Unit, I a1.Under, I a1.Over] 33, bl b4 [I a0.Trips, I a0.Room, SL A1 a0.Counts.length c2] 24, rd eTallyCount 7 A1 c2 a0.Counts] := S17.asP k_
      refine hopE [(3, P b7 0)] ⟨((hf_ 3 rfl).trans (rfl : _ = P b7 0)), trivial⟩ ?_
      refine p_ldA ty33 sz33 (S_.atP (i := 2) rfl) rfl rfl ?_
      refine wp_nil ?_
      exact ⟨_, rfl, S_.keep, rfl⟩
    · intro e_ w_ k_ hf_ hR_
      have S_ : St w_ (fun _ => False) w_ [] [bl b13 [I a0.Trips, I a0.Room, SL A1 a0.Counts.length c2] 24, bl b10 [I 0, I 0, SL none 0 0] 24, bl b7 [I a1.Who, I a1.From, I a1.To, I a1.Told, I a1.Unit, I a1.Under, I a1.Over] 33, bl b4 [I a0.Trips, I a0.Room, SL A1 a0.Counts.length c2] 24, rd eTallyCount 7 A1 c2 a0.Counts] := S17.asP k_
      obtain ⟨_, _, _, _, q33⟩ := hR_ 4 11 rfl (Nat.le_of_ble_eq_true rfl) rfl
      refine hopE [(11, AG [I a1.Who, I a1.From, I a1.To, I a1.Told, I a1.Unit, I a1.Under, I a1.Over])] ⟨q33, trivial⟩ ?_
      refine p_bsl (enc := eTallyCount) (l := ([a1] : List TallyCount)) (fun x => AG (eTallyCount x)) (fun _ => rfl) sc22 in33 eTallyCount_len rfl (by decide) (by decide) zr33_1 S_ rfl fun A34 c35 w36 S37 => ?_
      refine wp_nil ?_
      exact ⟨_, rfl, S37.keep, ⟨(A34, c35), rfl, ⟨BtwL.of (New.al (S37.newX (i := 0) rfl)) rfl (S37.atX (i := 0) rfl) rfl, trivial⟩, (List.forall_mem_cons.2 ⟨(S37.atX (i := 0) rfl), (fun _ h_ => (List.not_mem_nil h_).elim)⟩)⟩⟩
    intro e39 w40 lo41 hi42 k43 hf44 hR45 hd46
    have S47 := S17.call k43
    obtain ⟨h49, h50, h51, A18, q48, h52, h53⟩ := hR45 0 7 (Nat.le_of_ble_eq_true rfl) rfl
    replace q48 : e39 7 = SL A18 0 0 := q48
    obtain ⟨p54, _⟩ := h52
    have q56 : e39 8 = P b4 2 := (hR45 1 8 (Nat.le_of_ble_eq_true rfl) rfl).2.2.2
    have q57 : e39 9 = SL A1 a0.Counts.length c2 := (hR45 2 9 (Nat.le_of_ble_eq_true rfl) rfl).2.2.2
    have q58 : e39 10 = SL A18 0 0 := (Option.some.inj ((congrArg some q48).symm.trans (hR45 3 10 (Nat.le_of_ble_eq_true rfl) rfl).2.2.2)).symm
    have q59 : e39 11 = AG [I a1.Who, I a1.From, I a1.To, I a1.Told, I a1.Unit, I a1.Under, I a1.Over] := (hR45 4 11 (Nat.le_of_ble_eq_true rfl) rfl).2.2.2
    obtain ⟨h61, h62, h63, ⟨A34, c35⟩, q60, h64, h65⟩ := hR45 5 12 (Nat.le_of_ble_eq_true rfl) rfl
    replace q60 : e39 12 = SL A34 ([a1] : List TallyCount).length c35 := q60
    obtain ⟨p66, _⟩ := h64
    have S68 := St.addO S47 (h53 _ (.head _)) (fun b_ h_ => (p54 b_ h_).elim (fun q_ => Nat.le_trans S17.keep.size (Nat.le_trans h49 q_.1)) (fun ⟨_, hq_, _⟩ => (List.not_mem_nil hq_).elim)) (List.forall_mem_cons.2 ⟨(fun b_ h1_ h2_ => (p54 b_ h1_).elim (fun q2_ => by have q1_ := Asr.inb _ _ _ (S17.atX (i := 0) rfl) h2_; omega) (fun ⟨_, hq_, _⟩ => (List.not_mem_nil hq_).elim)), (List.forall_mem_cons.2 ⟨(fun b_ h1_ h2_ => (p54 b_ h1_).elim (fun q2_ => by have q1_ := Asr.inb _ _ _ (S17.atX (i := 1) rfl) h2_; omega) (fun ⟨_, hq_, _⟩ => (List.not_mem_nil hq_).elim)), (List.forall_mem_cons.2 ⟨(fun b_ h1_ h2_ => (p54 b_ h1_).elim (fun q2_ => by have q1_ := Asr.inb _ _ _ (S17.atX (i := 2) rfl) h2_; omega) (fun ⟨_, hq_, _⟩ => (List.not_mem_nil hq_).elim)), (List.forall_mem_cons.2 ⟨(fun b_ h1_ h2_ => (p54 b_ h1_).elim (fun q2_ => by have q1_ := Asr.inb _ _ _ (S17.atX (i := 3) rfl) h2_; omega) (fun ⟨_, hq_, _⟩ => (List.not_mem_nil hq_).elim)), (fun _ h_ => (List.not_mem_nil h_).elim)⟩)⟩)⟩)⟩) (List.forall_mem_cons.2 ⟨(fun b_ h1_ h2_ => (p54 b_ h1_).elim (fun q2_ => by have q1_ := Asr.inb _ _ _ (S17.atP (i := 0) rfl) h2_; omega) (fun ⟨_, hq_, _⟩ => (List.not_mem_nil hq_).elim)), (fun _ h_ => (List.not_mem_nil h_).elim)⟩)
    have S69 := St.addO S68 (h65 _ (.head _)) (fun b_ h_ => (p66 b_ h_).elim (fun q_ => Nat.le_trans S17.keep.size (Nat.le_trans h61 q_.1)) (fun ⟨_, hq_, _⟩ => (List.not_mem_nil hq_).elim)) (List.forall_mem_cons.2 ⟨(fun b_ h1_ h2_ => (p66 b_ h1_).elim (fun q1_ => (p54 b_ h2_).elim (fun q2_ => by have q3_ := hd46 5 0 (Nat.le_of_ble_eq_true rfl) (Nat.le_of_ble_eq_true rfl) (by decide); omega) (fun ⟨q_, hq_, hqb_⟩ => by have q5_ := h61; have q4_ := Asr.inb _ _ _ (S17.ps q_ (((fun _ h_ => (List.not_mem_nil h_).elim)) q_ hq_)) hqb_; omega)) (fun ⟨_, hq_, _⟩ => (List.not_mem_nil hq_).elim)), (List.forall_mem_cons.2 ⟨(fun b_ h1_ h2_ => (p66 b_ h1_).elim (fun q2_ => by have q1_ := Asr.inb _ _ _ (S17.atX (i := 0) rfl) h2_; omega) (fun ⟨_, hq_, _⟩ => (List.not_mem_nil hq_).elim)), (List.forall_mem_cons.2 ⟨(fun b_ h1_ h2_ => (p66 b_ h1_).elim (fun q2_ => by have q1_ := Asr.inb _ _ _ (S17.atX (i := 1) rfl) h2_; omega) (fun ⟨_, hq_, _⟩ => (List.not_mem_nil hq_).elim)), (List.forall_mem_cons.2 ⟨(fun b_ h1_ h2_ => (p66 b_ h1_).elim (fun q2_ => by have q1_ := Asr.inb _ _ _ (S17.atX (i := 2) rfl) h2_; omega) (fun ⟨_, hq_, _⟩ => (List.not_mem_nil hq_).elim)), (List.forall_mem_cons.2 ⟨(fun b_ h1_ h2_ => (p66 b_ h1_).elim (fun q2_ => by have q1_ := Asr.inb _ _ _ (S17.atX (i := 3) rfl) h2_; omega) (fun ⟨_, hq_, _⟩ => (List.not_mem_nil hq_).elim)), (fun _ h_ => (List.not_mem_nil h_).elim)⟩)⟩)⟩)⟩)⟩) (List.forall_mem_cons.2 ⟨(fun b_ h1_ h2_ => (p66 b_ h1_).elim (fun q2_ => by have q1_ := Asr.inb _ _ _ (S17.atP (i := 0) rfl) h2_; omega) (fun ⟨_, hq_, _⟩ => (List.not_mem_nil hq_).elim)), (fun _ h_ => (List.not_mem_nil h_).elim)⟩)
    refine tailE [(4, P b10 0), (5, P b13 0), (10, SL A18 0 0), (12, SL A34 ([a1] : List TallyCount).length c35)] ⟨((hf44 4 rfl).trans (rfl : _ = P b10 0)), ((hf44 5 rfl).trans (rfl : _ = P b13 0)), q58, q60, trivial⟩ ?_
    intro g70
    obtain ⟨h75, H⟩ := needS H
    refine p_app (enc := eTallyCount) sc22 in33 rfl eTallyCount_len eTallyCount_one (by decide) S69 (k := 1) rfl (gr_sl eTallyCount_len (S69.atX (i := 0) rfl)) h75 (by simp) rfl rfl fun A73 c74 w71 S72 => ?_
    refine p_fld fl24_2 rfl ?_
    refine p_stP (pre := [I a0.Trips, I a0.Room]) (old := [SL A1 a0.Counts.length c2]) (post := []) (vs := [SL A73 ([a1] : List TallyCount).length c74]) sz22 S72 (i := 2) rfl rfl rfl rfl (rfl : _ = SL A73 ([a1] : List TallyCount).length c74) rfl rfl rfl rfl fun w76 S77 => ?_
    refine wp_nil ?_
    refine c_seq ?_
    refine reg ?_
    refine p_ldA ty24 sz24 (S77.atX (i := 2) rfl) rfl rfl ?_
    refine p_stP (pre := []) (old := [I 0, I 0, SL none 0 0]) (post := []) (vs := [I a0.Trips, I a0.Room, SL A73 ([a1] : List TallyCount).length c74]) sz24 S77 (i := 3) rfl rfl rfl rfl (rfl : _ = AG [I a0.Trips, I a0.Room, SL A73 ([a1] : List TallyCount).length c74]) rfl rfl rfl rfl fun w78 S79 => ?_
    refine wp_nil ?_
    obtain rfl := Option.some.inj H
    refine c_ret ?_; show bodyPostM (Fr none) 0 Tryd.prog Tryd.f87 _ .ret _ _
    refine ret_of (res1 rfl (rvA rfl ty24 sz24 (S79.atX (i := 3) rfl) rfl)) ?_
    exact ⟨_, rfl, A73, c74, rfl, S79.keep, ⟨S79.atX (i := 1) rfl, S79.newX (i := 1) rfl⟩, trivial⟩
  · replace H := condF c24 H
    obtain ⟨h88, H⟩ := needS H
    refine reg_any mixed 6 (by kernel_rfl) [rx (α := (Option Addr)) (fun A18 => SL A18 0 0) (fun A18 lo hi => BtwL lo hi [] (gr eTallyCount 7 33 A18 0 ([] : List TallyCount)) ∧ True) (fun A18 => [gr eTallyCount 7 33 A18 0 ([] : List TallyCount)]), rv (P b4 2), rv (SL A1 a0.Counts.length c2), rx (α := (Option Addr) × Nat) (fun ⟨A86, c87⟩ => SL A86 a0.Counts.length c87) (fun ⟨A86, c87⟩ lo hi => BtwL lo hi [] (gr eTallyCount 7 33 A86 c87 a0.Counts) ∧ True) (fun ⟨A86, c87⟩ => [gr eTallyCount 7 33 A86 c87 a0.Counts]), rv (AG [I a1.Who, I a1.From, I a1.To, I a1.Told, I a1.Unit, I a1.Under, I a1.Over]), rx (α := (Option Addr) × Nat) (fun ⟨A91, c92⟩ => SL A91 ([a1] : List TallyCount).length c92) (fun ⟨A91, c92⟩ lo hi => BtwL lo hi [] (gr eTallyCount 7 33 A91 c92 ([a1] : List TallyCount)) ∧ True) (fun ⟨A91, c92⟩ => [gr eTallyCount 7 33 A91 c92 ([a1] : List TallyCount)])] [[], [], [], [], [], []] rfl (by kernel_rfl) [[], [], [1], [0, 1, 2], [], [4], [0, 1, 2, 3, 4, 5], [0, 1, 2, 3, 4, 5, 6], [0, 1, 2, 3, 4, 5, 6, 7]] (by kernel_rfl) ⟨?_, ?_, ?_, ?_, ?_, ?_, trivial⟩ ?_
    · intro e_ w_ k_ hf_ hR_
      have S_ : St w_ (fun _ => False) w_ [] [bl b13 [I a0.Trips, I a0.Room, SL A1 a0.Counts.length c2] 24, bl b10 [I 0, I 0, SL none 0 0] 24, bl b7 [I a1.Who, I a1.From, I a1.To, I a1.Told, I a1.Unit, I a1.Under, I a1.Over] 33, bl b4 [I a0.Trips, I a0.Room, SL A1 a0.Counts.length c2] 24, rd eTallyCount 7 A1 c2 a0.Counts] := S17.asP k_
      refine hopE [] trivial ?_
      refine p_bsl0 eTallyCount sc22 S_ fun A18 w20 S21 => ?_
      refine wp_nil ?_
      exact ⟨_, rfl, S21.keep, ⟨A18, rfl, ⟨BtwL.of (New.al (S21.newX (i := 0) rfl)) rfl (S21.atX (i := 0) rfl) rfl, trivial⟩, (List.forall_mem_cons.2 ⟨(S21.atX (i := 0) rfl), (fun _ h_ => (List.not_mem_nil h_).elim)⟩)⟩⟩
    · intro e_ w_ k_ hf_ hR_
      have S_ : St w_ (fun _ => False) w_ [] [bl b13 [I a0.Trips, I a0.Room, SL A1 a0.Counts.length c2] 24, bl b10 [I 0, I 0, SL none 0 0] 24, bl b7 [I a1.Who, I a1.From, I a1.To, I a1.Told, I a1.Unit, I a1.Under, I a1.Over] 33, bl b4 [I a0.Trips, I a0.Room, SL A1 a0.Counts.length c2] 24, rd eTallyCount 7 A1 c2 a0.Counts] := S17.asP k_
      refine hopE [(2, P b4 0)] ⟨((hf_ 2 rfl).trans (rfl : _ = P b4 0)), trivial⟩ ?_
      refine p_fld fl24_2 rfl ?_
      refine wp_nil ?_
      exact ⟨_, rfl, S_.keep, rfl⟩
    · intro e_ w_ k_ hf_ hR_
      have S_ : St w_ (fun _ => False) w_ [] [bl b13 [I a0.Trips, I a0.Room, SL A1 a0.Counts.length c2] 24, bl b10 [I 0, I 0, SL none 0 0] 24, bl b7 [I a1.Who, I a1.From, I a1.To, I a1.Told, I a1.Unit, I a1.Under, I a1.Over] 33, bl b4 [I a0.Trips, I a0.Room, SL A1 a0.Counts.length c2] 24, rd eTallyCount 7 A1 c2 a0.Counts] := S17.asP k_
      obtain ⟨_, _, _, _, q23⟩ := hR_ 1 8 rfl (Nat.le_of_ble_eq_true rfl) rfl
      refine hopE [(8, P b4 2)] ⟨q23, trivial⟩ ?_
      refine p_ld ty22 (S_.atP (i := 3) rfl) rfl rfl ?_
      refine wp_nil ?_
      exact ⟨_, rfl, S_.keep, rfl⟩
    · intro e_ w_ k_ hf_ hR_
      have S_ : St w_ (fun _ => False) w_ [] [bl b13 [I a0.Trips, I a0.Room, SL A1 a0.Counts.length c2] 24, bl b10 [I 0, I 0, SL none 0 0] 24, bl b7 [I a1.Who, I a1.From, I a1.To, I a1.Told, I a1.Unit, I a1.Under, I a1.Over] 33, bl b4 [I a0.Trips, I a0.Room, SL A1 a0.Counts.length c2] 24, rd eTallyCount 7 A1 c2 a0.Counts] := S17.asP k_
      obtain ⟨_, _, _, _, A18, q80, p81, a82⟩ := hR_ 0 7 rfl (Nat.le_of_ble_eq_true rfl) rfl
      replace q80 : e_ 7 = SL A18 0 0 := q80
      have S_ := St.addL' S_ (a82 _ (.head _)) (fun _ _ _ h_ => (List.not_mem_nil h_).elim)
      obtain ⟨_, _, _, _, q83⟩ := hR_ 2 9 rfl (Nat.le_of_ble_eq_true rfl) rfl
      refine hopE [(7, SL A18 0 0), (9, SL A1 a0.Counts.length c2)] ⟨q80, q83, trivial⟩ ?_
      refine p_appN (enc := eTallyCount) sc22 in33 rfl eTallyCount_len (by decide) S_ (gr_sl eTallyCount_len (S_.atP (i := 0) rfl)) rfl (S_.atP (i := 5) rfl).1 h88 (ne_of_some c24) rfl rfl fun A86 c87 w84 S85 => ?_
      refine wp_nil ?_
      exact ⟨_, rfl, S85.keep, ⟨(A86, c87), rfl, ⟨BtwL.of (New.al (S85.newX (i := 0) rfl)) rfl (S85.atX (i := 0) rfl) rfl, trivial⟩, (List.forall_mem_cons.2 ⟨(S85.atX (i := 0) rfl), (fun _ h_ => (List.not_mem_nil h_).elim)⟩)⟩⟩
    · intro e_ w_ k_ hf_ hR_
      have S_ : St w_ (fun _ => False) w_ [] [bl b13 [I a0.Trips, I a0.Room, SL A1 a0.Counts.length c2] 24, bl b10 [I 0, I 0, SL none 0 0] 24, bl b7 [I a1.Who, I a1.From, I a1.To, I a1.Told, I a1.Unit, I a1.Under, I a1.Over] 33, bl b4 [I a0.Trips, I a0.Room, SL A1 a0.Counts.length c2] 24, rd eTallyCount 7 A1 c2 a0.Counts] := S17.asP k_
      refine hopE [(3, P b7 0)] ⟨((hf_ 3 rfl).trans (rfl : _ = P b7 0)), trivial⟩ ?_
      refine p_ldA ty33 sz33 (S_.atP (i := 2) rfl) rfl rfl ?_
      refine wp_nil ?_
      exact ⟨_, rfl, S_.keep, rfl⟩
    · intro e_ w_ k_ hf_ hR_
      have S_ : St w_ (fun _ => False) w_ [] [bl b13 [I a0.Trips, I a0.Room, SL A1 a0.Counts.length c2] 24, bl b10 [I 0, I 0, SL none 0 0] 24, bl b7 [I a1.Who, I a1.From, I a1.To, I a1.Told, I a1.Unit, I a1.Under, I a1.Over] 33, bl b4 [I a0.Trips, I a0.Room, SL A1 a0.Counts.length c2] 24, rd eTallyCount 7 A1 c2 a0.Counts] := S17.asP k_
      obtain ⟨_, _, _, _, q90⟩ := hR_ 4 11 rfl (Nat.le_of_ble_eq_true rfl) rfl
      refine hopE [(11, AG [I a1.Who, I a1.From, I a1.To, I a1.Told, I a1.Unit, I a1.Under, I a1.Over])] ⟨q90, trivial⟩ ?_
      refine p_bsl (enc := eTallyCount) (l := ([a1] : List TallyCount)) (fun x => AG (eTallyCount x)) (fun _ => rfl) sc22 in33 eTallyCount_len rfl (by decide) (by decide) zr33_1 S_ rfl fun A91 c92 w93 S94 => ?_
      refine wp_nil ?_
      exact ⟨_, rfl, S94.keep, ⟨(A91, c92), rfl, ⟨BtwL.of (New.al (S94.newX (i := 0) rfl)) rfl (S94.atX (i := 0) rfl) rfl, trivial⟩, (List.forall_mem_cons.2 ⟨(S94.atX (i := 0) rfl), (fun _ h_ => (List.not_mem_nil h_).elim)⟩)⟩⟩
    intro e96 w97 lo98 hi99 k100 hf101 hR102 hd103
    have S104 := S17.call k100
    obtain ⟨h106, h107, h108, A18, q105, h109, h110⟩ := hR102 0 7 (Nat.le_of_ble_eq_true rfl) rfl
    replace q105 : e96 7 = SL A18 0 0 := q105
    obtain ⟨p111, _⟩ := h109
    have q113 : e96 8 = P b4 2 := (hR102 1 8 (Nat.le_of_ble_eq_true rfl) rfl).2.2.2
    have q114 : e96 9 = SL A1 a0.Counts.length c2 := (hR102 2 9 (Nat.le_of_ble_eq_true rfl) rfl).2.2.2
    obtain ⟨h116, h117, h118, ⟨A86, c87⟩, q115, h119, h120⟩ := hR102 3 10 (Nat.le_of_ble_eq_true rfl) rfl
    replace q115 : e96 10 = SL A86 a0.Counts.length c87 := q115
    obtain ⟨p121, _⟩ := h119
    have q123 : e96 11 = AG [I a1.Who, I a1.From, I a1.To, I a1.Told, I a1.Unit, I a1.Under, I a1.Over] := (hR102 4 11 (Nat.le_of_ble_eq_true rfl) rfl).2.2.2
    obtain ⟨h125, h126, h127, ⟨A91, c92⟩, q124, h128, h129⟩ := hR102 5 12 (Nat.le_of_ble_eq_true rfl) rfl
    replace q124 : e96 12 = SL A91 ([a1] : List TallyCount).length c92 := q124
    obtain ⟨p130, _⟩ := h128
    have S132 := St.addO S104 (h120 _ (.head _)) (fun b_ h_ => (p121 b_ h_).elim (fun q_ => Nat.le_trans S17.keep.size (Nat.le_trans h116 q_.1)) (fun ⟨_, hq_, _⟩ => (List.not_mem_nil hq_).elim)) (List.forall_mem_cons.2 ⟨(fun b_ h1_ h2_ => (p121 b_ h1_).elim (fun q2_ => by have q1_ := Asr.inb _ _ _ (S17.atX (i := 0) rfl) h2_; omega) (fun ⟨_, hq_, _⟩ => (List.not_mem_nil hq_).elim)), (List.forall_mem_cons.2 ⟨(fun b_ h1_ h2_ => (p121 b_ h1_).elim (fun q2_ => by have q1_ := Asr.inb _ _ _ (S17.atX (i := 1) rfl) h2_; omega) (fun ⟨_, hq_, _⟩ => (List.not_mem_nil hq_).elim)), (List.forall_mem_cons.2 ⟨(fun b_ h1_ h2_ => (p121 b_ h1_).elim (fun q2_ => by have q1_ := Asr.inb _ _ _ (S17.atX (i := 2) rfl) h2_; omega) (fun ⟨_, hq_, _⟩ => (List.not_mem_nil hq_).elim)), (List.forall_mem_cons.2 ⟨(fun b_ h1_ h2_ => (p121 b_ h1_).elim (fun q2_ => by have q1_ := Asr.inb _ _ _ (S17.atX (i := 3) rfl) h2_; omega) (fun ⟨_, hq_, _⟩ => (List.not_mem_nil hq_).elim)), (fun _ h_ => (List.not_mem_nil h_).elim)⟩)⟩)⟩)⟩) (List.forall_mem_cons.2 ⟨(fun b_ h1_ h2_ => (p121 b_ h1_).elim (fun q2_ => by have q1_ := Asr.inb _ _ _ (S17.atP (i := 0) rfl) h2_; omega) (fun ⟨_, hq_, _⟩ => (List.not_mem_nil hq_).elim)), (fun _ h_ => (List.not_mem_nil h_).elim)⟩)
    have S133 := St.addO S132 (h129 _ (.head _)) (fun b_ h_ => (p130 b_ h_).elim (fun q_ => Nat.le_trans S17.keep.size (Nat.le_trans h125 q_.1)) (fun ⟨_, hq_, _⟩ => (List.not_mem_nil hq_).elim)) (List.forall_mem_cons.2 ⟨(fun b_ h1_ h2_ => (p130 b_ h1_).elim (fun q1_ => (p121 b_ h2_).elim (fun q2_ => by have q3_ := hd103 5 3 (Nat.le_of_ble_eq_true rfl) (Nat.le_of_ble_eq_true rfl) (by decide); omega) (fun ⟨q_, hq_, hqb_⟩ => by have q5_ := h125; have q4_ := Asr.inb _ _ _ (S17.ps q_ (((fun _ h_ => (List.not_mem_nil h_).elim)) q_ hq_)) hqb_; omega)) (fun ⟨_, hq_, _⟩ => (List.not_mem_nil hq_).elim)), (List.forall_mem_cons.2 ⟨(fun b_ h1_ h2_ => (p130 b_ h1_).elim (fun q2_ => by have q1_ := Asr.inb _ _ _ (S17.atX (i := 0) rfl) h2_; omega) (fun ⟨_, hq_, _⟩ => (List.not_mem_nil hq_).elim)), (List.forall_mem_cons.2 ⟨(fun b_ h1_ h2_ => (p130 b_ h1_).elim (fun q2_ => by have q1_ := Asr.inb _ _ _ (S17.atX (i := 1) rfl) h2_; omega) (fun ⟨_, hq_, _⟩ => (List.not_mem_nil hq_).elim)), (List.forall_mem_cons.2 ⟨(fun b_ h1_ h2_ => (p130 b_ h1_).elim (fun q2_ => by have q1_ := Asr.inb _ _ _ (S17.atX (i := 2) rfl) h2_; omega) (fun ⟨_, hq_, _⟩ => (List.not_mem_nil hq_).elim)), (List.forall_mem_cons.2 ⟨(fun b_ h1_ h2_ => (p130 b_ h1_).elim (fun q2_ => by have q1_ := Asr.inb _ _ _ (S17.atX (i := 3) rfl) h2_; omega) (fun ⟨_, hq_, _⟩ => (List.not_mem_nil hq_).elim)), (fun _ h_ => (List.not_mem_nil h_).elim)⟩)⟩)⟩)⟩)⟩) (List.forall_mem_cons.2 ⟨(fun b_ h1_ h2_ => (p130 b_ h1_).elim (fun q2_ => by have q1_ := Asr.inb _ _ _ (S17.atP (i := 0) rfl) h2_; omega) (fun ⟨_, hq_, _⟩ => (List.not_mem_nil hq_).elim)), (fun _ h_ => (List.not_mem_nil h_).elim)⟩)
    refine tailE [(4, P b10 0), (5, P b13 0), (10, SL A86 a0.Counts.length c87), (12, SL A91 ([a1] : List TallyCount).length c92)] ⟨((hf101 4 rfl).trans (rfl : _ = P b10 0)), ((hf101 5 rfl).trans (rfl : _ = P b13 0)), q115, q124, trivial⟩ ?_
    intro g134
    obtain ⟨h139, H⟩ := needS H
    refine p_app (enc := eTallyCount) sc22 in33 rfl eTallyCount_len eTallyCount_one (by decide) S133 (k := 1) rfl (gr_sl eTallyCount_len (S133.atX (i := 0) rfl)) h139 (by simp) rfl rfl fun A137 c138 w135 S136 => ?_
    refine p_fld fl24_2 rfl ?_
    refine p_stP (pre := [I a0.Trips, I a0.Room]) (old := [SL A1 a0.Counts.length c2]) (post := []) (vs := [SL A137 (a0.Counts ++ ([a1] : List TallyCount)).length c138]) sz22 S136 (i := 2) rfl rfl rfl rfl (rfl : _ = SL A137 (a0.Counts ++ ([a1] : List TallyCount)).length c138) rfl rfl rfl rfl fun w140 S141 => ?_
    refine wp_nil ?_
    refine c_seq ?_
    refine reg ?_
    refine p_ldA ty24 sz24 (S141.atX (i := 2) rfl) rfl rfl ?_
    refine p_stP (pre := []) (old := [I 0, I 0, SL none 0 0]) (post := []) (vs := [I a0.Trips, I a0.Room, SL A137 (a0.Counts ++ ([a1] : List TallyCount)).length c138]) sz24 S141 (i := 3) rfl rfl rfl rfl (rfl : _ = AG [I a0.Trips, I a0.Room, SL A137 (a0.Counts ++ ([a1] : List TallyCount)).length c138]) rfl rfl rfl rfl fun w142 S143 => ?_
    refine wp_nil ?_
    obtain rfl := Option.some.inj H
    refine c_ret ?_; show bodyPostM (Fr none) 0 Tryd.prog Tryd.f87 _ .ret _ _
    refine ret_of (res1 rfl (rvA rfl ty24 sz24 (S143.atX (i := 3) rfl) rfl)) ?_
    exact ⟨_, rfl, A137, c138, rfl, S143.keep, ⟨S143.atX (i := 1) rfl, S143.newX (i := 1) rfl⟩, trivial⟩

def B_Member (a0 : Int) (a1 : Int) : Option Bool :=
  need (decide (0 ≤ a1)) <|
  some ((andI (shrI a0 a1) 1) == 1)

set_option maxRecDepth 100000 in
theorem B_Member_ok {a0 : Int} {a1 : Int} {w : World} {r : Bool} (H : B_Member a0 a1 = some r) : Calls Tryd.prog 79 #[I a0, I a1] w (RetV w (B r)) := by
  unfold B_Member at H
  refine fn_of (n := 10) Tryd.func79 rfl rfl (Nat.le_of_ble_eq_true rfl) ?_
  have S : St w (fun _ => False) w [] [] := St.start w _ _ (fun _ h_ => (List.not_mem_nil h_).elim)
  refine c_seq ?_
  refine reg ?_
  refine p_aB rfl ?_
  refine wp_nil ?_
  refine c_seq ?_
  refine reg ?_
  refine p_mI rfl ?_
  refine p_mI rfl ?_
  obtain ⟨h1, H⟩ := needS H
  refine p_shr h1 rfl rfl ?_
  refine p_andI rfl rfl ?_
  refine p_cmp rfl rfl rfl ?_
  refine p_aB rfl ?_
  refine wp_nil ?_
  obtain rfl := Option.some.inj H
  refine c_ret ?_; show bodyPostM (Fr none) 0 Tryd.prog Tryd.f79 _ .ret _ _
  refine ret_of (res1 rfl (rvT (rfl : _ = B ((andI (shrI a0 a1) 1) == 1)))) ?_
  exact ⟨_, rfl, rfl, S.keep⟩

def B_Members_l2 (a1 : Int) (a0 : Int) (rec_z_1 : ((List Int) × Int) → Option (List Int)) (z_1 : (List Int) × Int) : Option (List Int) :=
  bif decide (z_1.2 < a1) then ((B_Member a0 z_1.2).bind fun r11 =>
  bif r11 then (need (fitsL (z_1.1.length + ([z_1.2] : List Int).length) 8) <|
  rec_z_1 (z_1.1 ++ ([z_1.2] : List Int), wr (z_1.2 + 1)))
  else (rec_z_1 (z_1.1, wr (z_1.2 + 1))))
  else (some z_1.1)

def B_Members (a0 : Int) (a1 : Int) : Option (List Int) :=
  loopF (B_Members_l2 a1 a0) big (([] : List Int), 0)

set_option maxRecDepth 100000 in
theorem B_Members_ok {a0 : Int} {a1 : Int} {w : World} {r : (List Int)} (H : B_Members a0 a1 = some r) : Calls Tryd.prog 46 #[I a0, I a1] w fun en w_ => ∃ u_, en = .returned u_ ∧ ∃ A_1 : Option Addr, ∃ c_2 : Nat, u_ = SL A_1 r.length c_2 ∧ Keep0 w w_ ∧ ((gr intE 1 3 A_1 c_2 r).ok w_ ∧ New w.heap.size (gr intE 1 3 A_1 c_2 r)) ∧ True := by
  unfold B_Members at H
  refine fn_of (n := 21) Tryd.func46 rfl rfl (Nat.le_of_ble_eq_true rfl) ?_
  have S : St w (fun _ => False) w [] [] := St.start w _ _ (fun _ h_ => (List.not_mem_nil h_).elim)
  refine c_seq ?_
  refine reg ?_
  refine p_aS rfl ?_
  refine wp_nil ?_
  refine c_seq ?_
  refine reg ?_
  refine p_bsl0 intE sc31 S fun A1 w3 S4 => ?_
  refine p_aS rfl ?_
  refine wp_nil ?_
  refine c_seq ?_
  refine c_seq ?_
  refine reg ?_
  refine p_aI rfl ?_
  refine wp_nil ?_
  refine c_block ?_
  refine c_lop (α := (List Int) × Int) (β := (Option Addr) × Nat) (B_Members_l2 a1 a0) (fun z_1 y_1 => [(0, I a0), (1, I a1), (5, SL y_1.1 z_1.1.length y_1.2), (6, I z_1.2)]) (fun z_1 y_1 w_ => St w (fun _ => False) w_ [gr intE 1 3 y_1.1 y_1.2 z_1.1] []) (([] : List Int), 0) (A1, 0) H ⟨rfl, rfl, rfl, rfl, trivial⟩ S4 ?_
  intro m6 z_1 y_1 e7 w8 H S9
  unfold B_Members_l2 at H
  refine c_seq ?_
  refine c_seq ?_
  refine reg ?_
  refine p_mI rfl ?_
  refine p_mI rfl ?_
  refine p_cmp rfl rfl rfl ?_
  refine wp_nil ?_
  refine c_cond rfl (fun c10 => ?_) (fun c10 => ?_)
  · replace H := condT c10 H
    refine c_skip ?_
    refine c_seq ?_
    refine c_block ?_
    refine c_seq ?_
    refine reg ?_
    refine p_mI rfl ?_
    refine p_mI rfl ?_
    obtain ⟨r11, h12, H⟩ := bindS H
    refine p_cv (B_Member_ok h12) fu79 rfl S9 fun w13 S14 => ?_
    refine wp_nil ?_
    refine c_cond rfl (fun c15 => ?_) (fun c15 => ?_)
    · replace H := condT c15 H
      refine reg ?_
      refine p_mS rfl ?_
      refine p_mI rfl ?_
      refine p_bsl (enc := intE) (l := ([z_1.2] : List Int)) I (fun _ => rfl) sc31 in3 intE_len rfl (by decide) (by decide) zr3_1 S14 rfl fun A16 c17 w18 S19 => ?_
      obtain ⟨h25, H⟩ := needS H
      refine p_app (enc := intE) sc31 in3 rfl intE_len intE_one (by decide) S19 (k := 1) rfl (gr_sl intE_len (S19.atX (i := 0) rfl)) h25 (by simp) rfl rfl fun A23 c24 w21 S22 => ?_
      refine p_aS rfl ?_
      refine wp_nil ?_
      refine reg ?_
      refine p_mI rfl ?_
      refine p_add rfl rfl ?_
      refine p_aI rfl ?_
      refine wp_nil ?_
      have S26 := S22.pk [1] (by decide) [] rfl rfl
      exact ⟨(z_1.1 ++ ([z_1.2] : List Int), wr (z_1.2 + 1)), (A23, c24), _, rfl, ⟨rfl, rfl, rfl, rfl, trivial⟩, H, S26⟩
    · replace H := condF c15 H
      refine c_skip ?_
      refine reg ?_
      refine p_mI rfl ?_
      refine p_add rfl rfl ?_
      refine p_aI rfl ?_
      refine wp_nil ?_
      exact ⟨(z_1.1, wr (z_1.2 + 1)), (y_1.1, y_1.2), _, rfl, ⟨rfl, rfl, rfl, rfl, trivial⟩, H, S14⟩
  · replace H := condF c10 H
    refine c_exit ?_
    refine c_seq ?_
    refine reg ?_
    refine p_mS rfl ?_
    refine p_aS rfl ?_
    refine wp_nil ?_
    obtain rfl := Option.some.inj H
    refine c_ret ?_; show bodyPostM (Fr none) 0 Tryd.prog Tryd.f46 _ .ret _ _
    refine ret_of (res1 rfl (rvT (rfl : _ = SL y_1.1 z_1.1.length y_1.2))) ?_
    exact ⟨_, rfl, y_1.1, y_1.2, rfl, S9.keep, ⟨S9.atX (i := 0) rfl, S9.newX (i := 0) rfl⟩, trivial⟩

def B_Before_l2 (a1 : List Int) (a0 : List Int) (rec_z_1 : Int → Option Bool) (z_1 : Int) : Option Bool :=
  bif decide (z_1 < (if (a1.length : Int) < (a0.length : Int) then (a1.length : Int) else (a0.length : Int))) then ((getI a0 z_1).bind fun r12 =>
  (getI a1 z_1).bind fun r14 =>
  bif (r12 != r14) then ((getI a0 z_1).bind fun r20 =>
  (getI a1 z_1).bind fun r22 =>
  some (decide (r20 < r22)))
  else (rec_z_1 (wr (z_1 + 1))))
  else (some (decide ((a0.length : Int) < (a1.length : Int))))

def B_Before (a0 : List Int) (a1 : List Int) : Option Bool :=
  loopF (B_Before_l2 a1 a0) big 0

set_option maxRecDepth 100000 in
theorem B_Before_ok {a0 : List Int} {a1 : List Int} {A1 : Option Addr} {c2 : Nat} {A4 : Option Addr} {c5 : Nat} {w : World} {r : Bool} (H : B_Before a0 a1 = some r) (h3 : (rd intE 1 A1 c2 a0).ok w) (h6 : (rd intE 1 A4 c5 a1).ok w) : Calls Tryd.prog 80 #[SL A1 a0.length c2, SL A4 a1.length c5] w (RetV w (B r)) := by
  unfold B_Before at H
  refine fn_of (n := 38) Tryd.func80 rfl rfl (Nat.le_of_ble_eq_true rfl) ?_
  have S : St w (fun _ => False) w [] [rd intE 1 A1 c2 a0, rd intE 1 A4 c5 a1] := St.start w _ _ (List.forall_mem_cons.2 ⟨h3, (List.forall_mem_cons.2 ⟨h6, (fun _ h_ => (List.not_mem_nil h_).elim)⟩)⟩)
  refine c_seq ?_
  refine reg ?_
  refine p_aB rfl ?_
  refine wp_nil ?_
  refine c_seq ?_
  refine c_seq ?_
  refine reg ?_
  refine p_aI rfl ?_
  refine wp_nil ?_
  refine c_block ?_
  refine c_lop (α := Int) (β := Unit) (B_Before_l2 a1 a0) (fun z_1 y_1 => [(0, SL A1 a0.length c2), (1, SL A4 a1.length c5), (5, I z_1)]) (fun z_1 y_1 w_ => St w (fun _ => False) w_ [] [rd intE 1 A1 c2 a0, rd intE 1 A4 c5 a1]) 0 () H ⟨rfl, rfl, rfl, trivial⟩ S ?_
  intro m7 z_1 y_1 e8 w9 H S10
  unfold B_Before_l2 at H
  refine c_seq ?_
  refine c_seq ?_
  refine reg ?_
  refine p_mI rfl ?_
  refine p_mS rfl ?_
  refine p_len rfl sc31 ?_
  refine p_mS rfl ?_
  refine p_len rfl sc31 ?_
  refine p_min rfl rfl ?_
  refine p_cmp rfl rfl rfl ?_
  refine wp_nil ?_
  refine c_cond rfl (fun c11 => ?_) (fun c11 => ?_)
  · replace H := condT c11 H
    refine c_skip ?_
    refine c_seq ?_
    refine c_block ?_
    refine c_seq ?_
    obtain ⟨r12, h13, H⟩ := bindS H
    obtain ⟨r14, h15, H⟩ := bindS H
    refine reg_q mixed 9 (by kernel_rfl) ?_
    refine dS (fun _ k_ => p_mS rfl dn) ?_
    refine dS (fun _ k_ => p_mI rfl dn) ?_
    refine dS (fun _ k_ => p_ixE sc31 h13 (Asr.stays (S10.atP (i := 0) rfl) k_).1 rfl rfl rfl dn) ?_
    refine dS (fun _ k_ => p_ldE ty3 h13 (Asr.stays (S10.atP (i := 0) rfl) k_).1 rfl rfl dn) ?_
    refine dS (fun _ k_ => p_mS rfl dn) ?_
    refine dS (fun _ k_ => p_mI rfl dn) ?_
    refine dS (fun _ k_ => p_ixE sc31 h15 (Asr.stays (S10.atP (i := 1) rfl) k_).1 rfl rfl rfl dn) ?_
    refine dS (fun _ k_ => p_ldE ty3 h15 (Asr.stays (S10.atP (i := 1) rfl) k_).1 rfl rfl dn) ?_
    refine dS (fun _ k_ => p_cmp rfl rfl rfl dn) ?_
    intro w16 k17; have S18 := S10.call k17
    refine wp_nil ?_
    refine c_cond rfl (fun c19 => ?_) (fun c19 => ?_)
    · replace H := condT c19 H
      refine c_seq ?_
      obtain ⟨r20, h21, H⟩ := bindS H
      obtain ⟨r22, h23, H⟩ := bindS H
      refine reg_q mixed 10 (by kernel_rfl) ?_
      refine dS (fun _ k_ => p_mS rfl dn) ?_
      refine dS (fun _ k_ => p_mI rfl dn) ?_
      refine dS (fun _ k_ => p_ixE sc31 h21 (Asr.stays (S18.atP (i := 0) rfl) k_).1 rfl rfl rfl dn) ?_
      refine dS (fun _ k_ => p_ldE ty3 h21 (Asr.stays (S18.atP (i := 0) rfl) k_).1 rfl rfl dn) ?_
      refine dS (fun _ k_ => p_mS rfl dn) ?_
      refine dS (fun _ k_ => p_mI rfl dn) ?_
      refine dS (fun _ k_ => p_ixE sc31 h23 (Asr.stays (S18.atP (i := 1) rfl) k_).1 rfl rfl rfl dn) ?_
      refine dS (fun _ k_ => p_ldE ty3 h23 (Asr.stays (S18.atP (i := 1) rfl) k_).1 rfl rfl dn) ?_
      refine dS (fun _ k_ => p_cmp rfl rfl rfl dn) ?_
      refine dS (fun _ k_ => p_aB rfl dn) ?_
      intro w24 k25; have S26 := S18.call k25
      refine wp_nil ?_
      obtain rfl := Option.some.inj H
      refine c_ret ?_; show bodyPostM (Fr none) 0 Tryd.prog Tryd.f80 _ .ret _ _
      refine ret_of (res1 rfl (rvT (rfl : _ = B (decide (r20 < r22))))) ?_
      exact ⟨_, rfl, rfl, S26.keep⟩
    · replace H := condF c19 H
      refine c_skip ?_
      refine reg ?_
      refine p_mI rfl ?_
      refine p_add rfl rfl ?_
      refine p_aI rfl ?_
      refine wp_nil ?_
      exact ⟨wr (z_1 + 1), (), _, rfl, ⟨rfl, rfl, rfl, trivial⟩, H, S18⟩
  · replace H := condF c11 H
    refine c_exit ?_
    refine c_seq ?_
    refine reg ?_
    refine p_mS rfl ?_
    refine p_len rfl sc31 ?_
    refine p_mS rfl ?_
    refine p_len rfl sc31 ?_
    refine p_cmp rfl rfl rfl ?_
    refine p_aB rfl ?_
    refine wp_nil ?_
    obtain rfl := Option.some.inj H
    refine c_ret ?_; show bodyPostM (Fr none) 0 Tryd.prog Tryd.f80 _ .ret _ _
    refine ret_of (res1 rfl (rvT (rfl : _ = B (decide ((a0.length : Int) < (a1.length : Int)))))) ?_
    exact ⟨_, rfl, rfl, S10.keep⟩

def B_Better (a0 : List Int) (a1 : List Int) : Option Bool :=
  bif decide ((a0.length : Int) < (a1.length : Int)) then (some true)
  else (bif ((a0.length : Int) == (a1.length : Int)) then ((B_Before a0 a1).bind fun r9 =>
  some r9)
  else (some false))

set_option maxRecDepth 100000 in
theorem B_Better_ok {a0 : List Int} {a1 : List Int} {A1 : Option Addr} {c2 : Nat} {A4 : Option Addr} {c5 : Nat} {w : World} {r : Bool} (H : B_Better a0 a1 = some r) (h3 : (rd intE 1 A1 c2 a0).ok w) (h6 : (rd intE 1 A4 c5 a1).ok w) : Calls Tryd.prog 48 #[SL A1 a0.length c2, SL A4 a1.length c5] w (RetV w (B r)) := by
  unfold B_Better at H
  refine fn_of (n := 22) Tryd.func48 rfl rfl (Nat.le_of_ble_eq_true rfl) ?_
  have S : St w (fun _ => False) w [] [rd intE 1 A1 c2 a0, rd intE 1 A4 c5 a1] := St.start w _ _ (List.forall_mem_cons.2 ⟨h3, (List.forall_mem_cons.2 ⟨h6, (fun _ h_ => (List.not_mem_nil h_).elim)⟩)⟩)
  refine c_seq ?_
  refine reg ?_
  refine p_aB rfl ?_
  refine wp_nil ?_
  refine c_seq ?_
  refine reg ?_
  refine p_mS rfl ?_
  refine p_len rfl sc31 ?_
  refine p_mS rfl ?_
  refine p_len rfl sc31 ?_
  refine p_cmp rfl rfl rfl ?_
  refine p_mB rfl ?_
  rcases Bool.eq_false_or_eq_true (decide ((a0.length : Int) < (a1.length : Int))) with c7 | c7
  · replace H := condT c7 H
    refine eB c7 ?_
    refine gF rfl rfl ?_
    refine gF rfl rfl ?_
    refine gF rfl rfl ?_
    refine gF rfl rfl ?_
    refine gF rfl rfl ?_
    refine gF rfl rfl ?_
    refine o_guardU rfl rfl ?_
    refine o_guardU rfl rfl ?_
    refine o_guardU rfl rfl ?_
    refine gF rfl rfl ?_
    refine p_pkT rfl (rfl : _ = B true) ?_
    refine p_aB rfl ?_
    refine wp_nil ?_
    obtain rfl := Option.some.inj H
    refine c_ret ?_; show bodyPostM (Fr none) 0 Tryd.prog Tryd.f48 _ .ret _ _
    refine ret_of (res1 rfl (rvT (rfl : _ = B true))) ?_
    exact ⟨_, rfl, rfl, S.keep⟩
  · replace H := condF c7 H
    refine eB c7 ?_
    refine gT rfl rfl (p_mS rfl ?_)
    refine gT rfl rfl (p_len rfl sc31 ?_)
    refine gT rfl rfl (p_mS rfl ?_)
    refine gT rfl rfl (p_len rfl sc31 ?_)
    refine gT rfl rfl (p_cmp rfl rfl rfl ?_)
    refine gT rfl rfl (p_mB rfl ?_)
    rcases Bool.eq_false_or_eq_true (((a0.length : Int) == (a1.length : Int))) with c8 | c8
    · replace H := condT c8 H
      refine eB c8 ?_
      refine gT rfl rfl (p_mS rfl ?_)
      refine gT rfl rfl (p_mS rfl ?_)
      obtain ⟨r9, h10, H⟩ := bindS H
      refine gT rfl rfl (p_cv (B_Before_ok h10 (S.atP (i := 0) rfl) (S.atP (i := 1) rfl)) fu80 rfl S fun w11 S12 => ?_)
      refine gT rfl rfl (p_pkT rfl (rfl : _ = B r9) ?_)
      refine p_pkF rfl (rfl : _ = B r9) ?_
      refine p_aB rfl ?_
      refine wp_nil ?_
      obtain rfl := Option.some.inj H
      refine c_ret ?_; show bodyPostM (Fr none) 0 Tryd.prog Tryd.f48 _ .ret _ _
      refine ret_of (res1 rfl (rvT (rfl : _ = B r9))) ?_
      exact ⟨_, rfl, rfl, S12.keep⟩
    · replace H := condF c8 H
      refine eB c8 ?_
      refine gF rfl rfl ?_
      refine gF rfl rfl ?_
      refine gF rfl rfl ?_
      refine gT rfl rfl (p_pkF rfl (rfl : _ = B false) ?_)
      refine p_pkF rfl (rfl : _ = B false) ?_
      refine p_aB rfl ?_
      refine wp_nil ?_
      obtain rfl := Option.some.inj H
      refine c_ret ?_; show bodyPostM (Fr none) 0 Tryd.prog Tryd.f48 _ .ret _ _
      refine ret_of (res1 rfl (rvT (rfl : _ = B false))) ?_
      exact ⟨_, rfl, rfl, S.keep⟩

def ref_Without_l2 (a0 : TallyBook) (a1 : Int) (rec_z_1 : (Int × (List TallyCount)) → Option TallyBook) (z_1 : Int × (List TallyCount)) : Option TallyBook :=
  bif decide (z_1.1 < (a0.Counts.length : Int)) then ((B_Member a1 z_1.1).bind fun r23 =>
  bif !r23 then ((getI a0.Counts z_1.1).bind fun r28 =>
  need (fitsL (z_1.2.length + ([r28] : List TallyCount).length) 56) <|
  rec_z_1 (wr (z_1.1 + 1), z_1.2 ++ ([r28] : List TallyCount)))
  else (rec_z_1 (wr (z_1.1 + 1), z_1.2)))
  else (some (TallyBook.mk a0.Trips a0.Room z_1.2))

def ref_Without (a0 : TallyBook) (a1 : Int) : Option TallyBook :=
  loopF (ref_Without_l2 a0 a1) big (0, ([] : List TallyCount))

set_option maxRecDepth 100000 in
theorem ref_Without_ok {a0 : TallyBook} {a1 : Int} {A1 : Option Addr} {c2 : Nat} {w : World} {r : TallyBook} (H : ref_Without a0 a1 = some r) (h3 : (rd eTallyCount 7 A1 c2 a0.Counts).ok w) : Calls Tryd.prog 88 #[AG [I a0.Trips, I a0.Room, SL A1 a0.Counts.length c2], I a1] w fun en w_ => ∃ u_, en = .returned u_ ∧ ∃ A_1 : Option Addr, ∃ c_2 : Nat, u_ = AG [I r.Trips, I r.Room, SL A_1 r.Counts.length c_2] ∧ Keep0 w w_ ∧ ((gr eTallyCount 7 33 A_1 c_2 r.Counts).ok w_ ∧ New w.heap.size (gr eTallyCount 7 33 A_1 c_2 r.Counts)) ∧ True := by
  unfold ref_Without at H
  refine fn_of (n := 31) Tryd.func88 rfl rfl (Nat.le_of_ble_eq_true rfl) ?_
  have S : St w (fun _ => False) w [] [rd eTallyCount 7 A1 c2 a0.Counts] := St.start w _ _ (List.forall_mem_cons.2 ⟨h3, (fun _ h_ => (List.not_mem_nil h_).elim)⟩)
  refine c_seq ?_
  refine reg ?_
  refine p_boxA rfl S fun b4 w5 S6 => ?_
  refine p_allA in24 S6 fun b7 w8 S9 => ?_
  refine wp_nil ?_
  refine c_seq ?_
  refine reg ?_
  refine p_ldA ty24 sz24 (S9.atX (i := 1) rfl) rfl rfl ?_
  refine p_allA in24 S9 fun b10 w11 S12 => ?_
  refine p_stP (pre := []) (old := [I 0, I 0, SL none 0 0]) (post := []) (vs := [I a0.Trips, I a0.Room, SL A1 a0.Counts.length c2]) sz24 S12 (i := 0) rfl rfl rfl rfl (rfl : _ = AG [I a0.Trips, I a0.Room, SL A1 a0.Counts.length c2]) rfl rfl rfl rfl fun w13 S14 => ?_
  refine wp_nil ?_
  refine c_seq ?_
  refine reg ?_
  refine p_fld fl24_2 rfl ?_
  refine p_stP (pre := [I a0.Trips, I a0.Room]) (old := [SL A1 a0.Counts.length c2]) (post := []) (vs := [SL none 0 0]) sz22 S14 (i := 0) rfl rfl rfl rfl (rfl : _ = SL none 0 0) rfl rfl rfl rfl fun w15 S16 => ?_
  refine wp_nil ?_
  refine c_seq ?_
  refine c_seq ?_
  refine reg ?_
  refine p_aI rfl ?_
  refine wp_nil ?_
  refine c_block ?_
  have S17 := S16.nilRow eTallyCount 7 33
  refine c_lop (α := Int × (List TallyCount)) (β := (Option Addr) × Nat) (ref_Without_l2 a0 a1) (fun z_1 y_1 => [(1, I a1), (2, P b4 0), (4, P b7 0), (5, P b10 0), (6, I z_1.1)]) (fun z_1 y_1 w_ => St w (fun _ => False) w_ [gr eTallyCount 7 33 y_1.1 y_1.2 z_1.2, bl b10 [I a0.Trips, I a0.Room, SL y_1.1 z_1.2.length y_1.2] 24, bl b7 [I 0, I 0, SL none 0 0] 24, bl b4 [I a0.Trips, I a0.Room, SL A1 a0.Counts.length c2] 24] [rd eTallyCount 7 A1 c2 a0.Counts]) (0, ([] : List TallyCount)) (none, 0) H ⟨rfl, rfl, rfl, rfl, rfl, trivial⟩ S17 ?_
  intro m18 z_1 y_1 e19 w20 H S21
  unfold ref_Without_l2 at H
  refine c_seq ?_
  refine c_seq ?_
  refine reg ?_
  refine p_mI rfl ?_
  refine p_fld fl24_2 rfl ?_
  refine p_ld ty22 (S21.atX (i := 3) rfl) rfl rfl ?_
  refine p_len rfl sc22 ?_
  refine p_cmp rfl rfl rfl ?_
  refine wp_nil ?_
  refine c_cond rfl (fun c22 => ?_) (fun c22 => ?_)
  · replace H := condT c22 H
    refine c_skip ?_
    refine c_seq ?_
    refine c_block ?_
    refine c_seq ?_
    refine reg ?_
    refine p_mI rfl ?_
    refine p_mI rfl ?_
    obtain ⟨r23, h24, H⟩ := bindS H
    refine p_cv (B_Member_ok h24) fu79 rfl S21 fun w25 S26 => ?_
    refine p_not rfl ?_
    refine wp_nil ?_
    refine c_cond rfl (fun c27 => ?_) (fun c27 => ?_)
    · replace H := condT c27 H
      obtain ⟨r28, h29, H⟩ := bindS H
      refine reg_c mixed 8 [7] (by kernel_rfl) ?_
      refine kS rfl (fun _ k_ => p_fld fl24_2 rfl dn) ?_
      refine kS rfl (fun _ k_ => p_ld ty22 (Asr.stays (S26.atX (i := 1) rfl) k_) rfl rfl dn) ?_
      refine kS rfl (fun _ k_ => p_fld fl24_2 rfl dn) ?_
      refine kS rfl (fun _ k_ => p_ld ty22 (Asr.stays (S26.atX (i := 3) rfl) k_) rfl rfl dn) ?_
      refine kS rfl (fun _ k_ => p_mI rfl dn) ?_
      refine kS rfl (fun _ k_ => p_ixE sc22 h29 (Asr.stays (S26.atP (i := 0) rfl) k_).1 rfl rfl rfl dn) ?_
      refine kS rfl (fun _ k_ => p_ldEA ty33 sz33 rfl h29 (Asr.stays (S26.atP (i := 0) rfl) k_).1 rfl dn) ?_
      refine kC rfl ?_
      intro w30 k31; have S32 := S26.call k31
      have S38 := S32.base
      refine p_bsl (enc := eTallyCount) (l := ([r28] : List TallyCount)) (fun x => AG (eTallyCount x)) (fun _ => rfl) sc22 in33 eTallyCount_len rfl (by decide) (by decide) zr33_1 S38 rfl fun A33 c34 w35 S36 => ?_
      refine cN S36.keep fun w39 k40 => ?_
      have S41 := (S32.fromBase S36).call k40
      obtain ⟨h46, H⟩ := needS H
      refine p_app (enc := eTallyCount) sc22 in33 rfl eTallyCount_len eTallyCount_one (by decide) S41 (k := 1) rfl (gr_sl eTallyCount_len (S41.atX (i := 0) rfl)) h46 (by simp) rfl rfl fun A44 c45 w42 S43 => ?_
      refine p_fld fl24_2 rfl ?_
      refine p_stP (pre := [I a0.Trips, I a0.Room]) (old := [SL y_1.1 z_1.2.length y_1.2]) (post := []) (vs := [SL A44 (z_1.2 ++ ([r28] : List TallyCount)).length c45]) sz22 S43 (i := 2) rfl rfl rfl rfl (rfl : _ = SL A44 (z_1.2 ++ ([r28] : List TallyCount)).length c45) rfl rfl rfl rfl fun w47 S48 => ?_
      refine wp_nil ?_
      refine reg ?_
      refine p_mI rfl ?_
      refine p_add rfl rfl ?_
      refine p_aI rfl ?_
      refine wp_nil ?_
      have S49 := S48.pk [1, 2, 3, 4] (by decide) [0] rfl rfl
      exact ⟨(wr (z_1.1 + 1), z_1.2 ++ ([r28] : List TallyCount)), (A44, c45), _, rfl, ⟨rfl, rfl, rfl, rfl, rfl, trivial⟩, H, S49⟩
    · replace H := condF c27 H
      refine c_skip ?_
      refine reg ?_
      refine p_mI rfl ?_
      refine p_add rfl rfl ?_
      refine p_aI rfl ?_
      refine wp_nil ?_
      exact ⟨(wr (z_1.1 + 1), z_1.2), (y_1.1, y_1.2), _, rfl, ⟨rfl, rfl, rfl, rfl, rfl, trivial⟩, H, S26⟩
  · replace H := condF c22 H
    refine c_exit ?_
    refine c_seq ?_
    refine reg ?_
    refine p_ldA ty24 sz24 (S21.atX (i := 1) rfl) rfl rfl ?_
    refine p_stP (pre := []) (old := [I 0, I 0, SL none 0 0]) (post := []) (vs := [I a0.Trips, I a0.Room, SL y_1.1 z_1.2.length y_1.2]) sz24 S21 (i := 2) rfl rfl rfl rfl (rfl : _ = AG [I a0.Trips, I a0.Room, SL y_1.1 z_1.2.length y_1.2]) rfl rfl rfl rfl fun w50 S51 => ?_
    refine wp_nil ?_
    obtain rfl := Option.some.inj H
    refine c_ret ?_; show bodyPostM (Fr none) 0 Tryd.prog Tryd.f88 _ .ret _ _
    refine ret_of (res1 rfl (rvA rfl ty24 sz24 (S51.atX (i := 2) rfl) rfl)) ?_
    exact ⟨_, rfl, y_1.1, y_1.2, rfl, S51.keep, ⟨S51.atX (i := 0) rfl, S51.newX (i := 0) rfl⟩, trivial⟩

def ref_Wrong_l2 (a0 : TallyBook) (rec_z_1 : ((List Int) × Int) → Option ((List Int) × Int)) (z_1 : (List Int) × Int) : Option ((List Int) × Int) :=
  need (decide (0 ≤ (a0.Counts.length : Int))) <|
  bif decide (z_1.2 < (shlI 1 (a0.Counts.length : Int))) then ((B_Members z_1.2 (a0.Counts.length : Int)).bind fun r29 =>
  (B_Better r29 z_1.1).bind fun r39 =>
  bif !r39 then (rec_z_1 (z_1.1, wr (z_1.2 + 1)))
  else ((ref_Without a0 z_1.2).bind fun r45 =>
  (ref_most r45).bind fun r55 =>
  bif r55.2 then (rec_z_1 (r29, wr (z_1.2 + 1)))
  else (rec_z_1 (z_1.1, wr (z_1.2 + 1)))))
  else (some (z_1.1, 0))

def ref_Wrong (a0 : TallyBook) : Option ((List Int) × Int) :=
  (ref_Check a0).bind fun r7 =>
  bif (r7 != 0) then (some (([] : List _), r7))
  else (need (decide (0 ≤ (a0.Counts.length : Int))) <|
  (B_Members (wr ((shlI 1 (a0.Counts.length : Int)) - 1)) (a0.Counts.length : Int)).bind fun r13 =>
  loopF (ref_Wrong_l2 a0) big (r13, 0))

set_option maxRecDepth 100000 in
theorem ref_Wrong_ok {a0 : TallyBook} {A1 : Option Addr} {c2 : Nat} {w : World} {r : (List Int) × Int} (H : ref_Wrong a0 = some r) (h3 : (rd eTallyCount 7 A1 c2 a0.Counts).ok w) : Calls Tryd.prog 63 #[AG [I a0.Trips, I a0.Room, SL A1 a0.Counts.length c2]] w fun en w_ => ∃ u_, en = .returned u_ ∧ ∃ A_1 : Option Addr, ∃ c_2 : Nat, u_ = TU [SL A_1 r.1.length c_2, I r.2] ∧ Keep0 w w_ ∧ ((gr intE 1 3 A_1 c_2 r.1).ok w_ ∧ New w.heap.size (gr intE 1 3 A_1 c_2 r.1)) ∧ True := by
  unfold ref_Wrong at H
  refine fn_of (n := 47) Tryd.func63 rfl rfl (Nat.le_of_ble_eq_true rfl) ?_
  have S : St w (fun _ => False) w [] [rd eTallyCount 7 A1 c2 a0.Counts] := St.start w _ _ (List.forall_mem_cons.2 ⟨h3, (fun _ h_ => (List.not_mem_nil h_).elim)⟩)
  refine c_seq ?_
  refine reg ?_
  refine p_boxA rfl S fun b4 w5 S6 => ?_
  refine p_aS rfl ?_
  refine p_aI rfl ?_
  refine wp_nil ?_
  refine c_seq ?_
  refine c_seq ?_
  refine reg ?_
  refine p_ldA ty24 sz24 (S6.atX (i := 0) rfl) rfl rfl ?_
  obtain ⟨r7, h8, H⟩ := bindS H
  refine p_cv (ref_Check_ok h8 (S6.atP (i := 0) rfl)) fu57 rfl S6 fun w9 S10 => ?_
  refine p_aI rfl ?_
  refine wp_nil ?_
  refine c_seq ?_
  refine reg ?_
  refine p_mI rfl ?_
  refine p_cmp rfl rfl rfl ?_
  refine wp_nil ?_
  refine c_cond rfl (fun c11 => ?_) (fun c11 => ?_)
  · replace H := condT c11 H
    refine c_seq ?_
    refine reg ?_
    refine p_mI rfl ?_
    refine p_aS rfl ?_
    refine p_aI rfl ?_
    refine wp_nil ?_
    obtain rfl := Option.some.inj H
    refine c_ret ?_; show bodyPostM (Fr none) 0 Tryd.prog Tryd.f63 _ .ret _ _
    refine ret_of (res2 rfl (rvT (rfl : _ = SL none 0 0)) (rvT (rfl : _ = I r7))) ?_
    exact ⟨_, rfl, none, 0, rfl, S10.keep, ⟨gr_nil, New.grNil⟩, trivial⟩
  · replace H := condF c11 H
    refine c_skip ?_
    refine c_seq ?_
    refine reg ?_
    refine p_fld fl24_2 rfl ?_
    refine p_ld ty22 (S10.atX (i := 0) rfl) rfl rfl ?_
    refine p_len rfl sc22 ?_
    refine p_aI rfl ?_
    refine wp_nil ?_
    refine c_seq ?_
    refine reg ?_
    refine p_mI rfl ?_
    obtain ⟨h12, H⟩ := needS H
    refine p_shl h12 rfl rfl ?_
    refine p_sub rfl rfl ?_
    refine p_mI rfl ?_
    obtain ⟨r13, h14, H⟩ := bindS H
    refine p_cal (B_Members_ok h14) fu46 rfl ?_
    rintro _ w15 ⟨A17, c18, rfl, k16, ⟨o19, n20⟩, _⟩
    have S22 := S10.addNew k16 o19 n20
    refine p_aS rfl ?_
    refine wp_nil ?_
    refine c_seq ?_
    refine c_seq ?_
    refine reg ?_
    refine p_aI rfl ?_
    refine wp_nil ?_
    refine c_block ?_
    refine c_lop (α := (List Int) × Int) (β := (Option Addr) × Nat) (ref_Wrong_l2 a0) (fun z_1 y_1 => [(1, P b4 0), (5, I (a0.Counts.length : Int)), (6, SL y_1.1 z_1.1.length y_1.2), (7, I z_1.2)]) (fun z_1 y_1 w_ => St w (fun _ => False) w_ [gr intE 1 3 y_1.1 y_1.2 z_1.1, bl b4 [I a0.Trips, I a0.Room, SL A1 a0.Counts.length c2] 24] [rd eTallyCount 7 A1 c2 a0.Counts]) (r13, 0) (A17, c18) H ⟨rfl, rfl, rfl, rfl, trivial⟩ S22 ?_
    intro m23 z_1 y_1 e24 w25 H S26
    unfold ref_Wrong_l2 at H
    refine c_seq ?_
    refine c_seq ?_
    refine reg ?_
    refine p_mI rfl ?_
    refine p_mI rfl ?_
    obtain ⟨h27, H⟩ := needS H
    refine p_shl h27 rfl rfl ?_
    refine p_cmp rfl rfl rfl ?_
    refine wp_nil ?_
    refine c_cond rfl (fun c28 => ?_) (fun c28 => ?_)
    · replace H := condT c28 H
      refine c_skip ?_
      refine c_seq ?_
      refine c_block ?_
      refine c_seq ?_
      refine reg ?_
      refine p_mI rfl ?_
      refine p_mI rfl ?_
      obtain ⟨r29, h30, H⟩ := bindS H
      refine p_cal (B_Members_ok h30) fu46 rfl ?_
      rintro _ w31 ⟨A33, c34, rfl, k32, ⟨o35, n36⟩, _⟩
      have S38 := S26.addNew k32 o35 n36
      refine p_aS rfl ?_
      refine wp_nil ?_
      refine c_seq ?_
      refine c_seq ?_
      refine reg ?_
      refine p_mS rfl ?_
      refine p_mS rfl ?_
      obtain ⟨r39, h40, H⟩ := bindS H
      refine p_cv (B_Better_ok h40 (gr_rd intE_len (S38.atX (i := 0) rfl)) (gr_rd intE_len (S38.atX (i := 1) rfl))) fu48 rfl S38 fun w41 S42 => ?_
      refine p_not rfl ?_
      refine wp_nil ?_
      refine c_cond rfl (fun c43 => ?_) (fun c43 => ?_)
      · replace H := condT c43 H
        refine c_exit ?_
        refine reg ?_
        refine p_mI rfl ?_
        refine p_add rfl rfl ?_
        refine p_aI rfl ?_
        refine wp_nil ?_
        have S44 := S42.pk [1, 2] (by decide) [0] rfl rfl
        exact ⟨(z_1.1, wr (z_1.2 + 1)), (y_1.1, y_1.2), _, rfl, ⟨rfl, rfl, rfl, rfl, trivial⟩, H, S44⟩
      · replace H := condF c43 H
        refine c_skip ?_
        refine c_seq ?_
        refine reg ?_
        refine p_ldA ty24 sz24 (S42.atX (i := 2) rfl) rfl rfl ?_
        refine p_mI rfl ?_
        obtain ⟨r45, h46, H⟩ := bindS H
        refine p_cal (ref_Without_ok h46 (S42.atP (i := 0) rfl)) fu88 rfl ?_
        rintro _ w47 ⟨A49, c50, rfl, k48, ⟨o51, n52⟩, _⟩
        have S54 := S42.addNew k48 o51 n52
        obtain ⟨r55, h56, H⟩ := bindS H
        refine p_cal (ref_most_ok h56 (gr_rd eTallyCount_len (S54.atX (i := 0) rfl))) fu81 rfl ?_
        rintro _ w57 ⟨A59, c60, l61, rfl, k58, ⟨o62, n63⟩, ⟨o64, n65⟩, _⟩
        have S66 := S54.callN k58 [rd rowN 1 A59 c60 l61, ri rowI l61 r55.1] (List.forall_mem_cons.2 ⟨⟨o62, New.inL n63⟩, (List.forall_mem_cons.2 ⟨⟨o64, New.inL n65⟩, (fun _ h_ => (List.not_mem_nil h_).elim)⟩)⟩)
        refine p_mT rfl ?_
        refine p_ext rfl rfl ?_
        refine p_ext rfl rfl ?_
        refine p_aS rfl ?_
        refine p_aB rfl ?_
        refine wp_nil ?_
        refine c_seq ?_
        refine reg ?_
        refine p_mB rfl ?_
        refine wp_nil ?_
        refine c_cond rfl (fun c67 => ?_) (fun c67 => ?_)
        · replace H := condT c67 H
          refine reg ?_
          refine p_mS rfl ?_
          refine p_aS rfl ?_
          refine wp_nil ?_
          refine reg ?_
          refine p_mI rfl ?_
          refine p_add rfl rfl ?_
          refine p_aI rfl ?_
          refine wp_nil ?_
          have S68 := S66.pk [1, 3] (by decide) [2] rfl rfl
          exact ⟨(r29, wr (z_1.2 + 1)), (A33, c34), _, rfl, ⟨rfl, rfl, rfl, rfl, trivial⟩, H, S68⟩
        · replace H := condF c67 H
          refine c_skip ?_
          refine reg ?_
          refine p_mI rfl ?_
          refine p_add rfl rfl ?_
          refine p_aI rfl ?_
          refine wp_nil ?_
          have S69 := S66.pk [2, 3] (by decide) [2] rfl rfl
          exact ⟨(z_1.1, wr (z_1.2 + 1)), (y_1.1, y_1.2), _, rfl, ⟨rfl, rfl, rfl, rfl, trivial⟩, H, S69⟩
    · replace H := condF c28 H
      refine c_exit ?_
      refine c_seq ?_
      refine reg ?_
      refine p_mS rfl ?_
      refine p_aS rfl ?_
      refine p_aI rfl ?_
      refine wp_nil ?_
      obtain rfl := Option.some.inj H
      refine c_ret ?_; show bodyPostM (Fr none) 0 Tryd.prog Tryd.f63 _ .ret _ _
      refine ret_of (res2 rfl (rvT (rfl : _ = SL y_1.1 z_1.1.length y_1.2)) (rvT (rfl : _ = I 0))) ?_
      exact ⟨_, rfl, y_1.1, y_1.2, rfl, S26.keep, ⟨S26.atX (i := 0) rfl, S26.newX (i := 0) rfl⟩, trivial⟩

def ref_Whose_l8 (a0 : TallyBook) (z_1 : (List Int) × Int) (rec_z_1 : ((List Int) × Int) → Option ((List Int) × Int)) (rec_z_2 : (Int × Int) → Option ((List Int) × Int)) (z_2 : Int × Int) : Option ((List Int) × Int) :=
  bif decide (z_2.2 < (a0.Counts.length : Int)) then ((getI a0.Counts z_2.2).bind fun r27 =>
  bif (r27.Who == z_1.2) then (need (decide (0 ≤ z_2.2)) <|
  rec_z_2 (orI z_2.1 (shlI 1 z_2.2), wr (z_2.2 + 1)))
  else (rec_z_2 (z_2.1, wr (z_2.2 + 1))))
  else ((ref_Without a0 z_2.1).bind fun r31 =>
  (ref_most r31).bind fun r41 =>
  bif r41.2 then (need (fitsL (z_1.1.length + ([z_1.2] : List Int).length) 8) <|
  rec_z_1 (z_1.1 ++ ([z_1.2] : List Int), wr (z_1.2 + 1)))
  else (rec_z_1 (z_1.1, wr (z_1.2 + 1))))

def ref_Whose_l9 (a0 : TallyBook) (rec_z_1 : ((List Int) × Int) → Option ((List Int) × Int)) (z_1 : (List Int) × Int) : Option ((List Int) × Int) :=
  bif decide (z_1.2 < 3) then (loopF (ref_Whose_l8 a0 z_1 rec_z_1) big (0, 0))
  else (some (z_1.1, 0))

def ref_Whose (a0 : TallyBook) : Option ((List Int) × Int) :=
  (ref_Check a0).bind fun r7 =>
  bif (r7 != 0) then (some (([] : List _), r7))
  else (loopF (ref_Whose_l9 a0) big (([] : List Int), 0))

set_option maxRecDepth 100000 in
theorem ref_Whose_ok {a0 : TallyBook} {A1 : Option Addr} {c2 : Nat} {w : World} {r : (List Int) × Int} (H : ref_Whose a0 = some r) (h3 : (rd eTallyCount 7 A1 c2 a0.Counts).ok w) : Calls Tryd.prog 64 #[AG [I a0.Trips, I a0.Room, SL A1 a0.Counts.length c2]] w fun en w_ => ∃ u_, en = .returned u_ ∧ ∃ A_1 : Option Addr, ∃ c_2 : Nat, u_ = TU [SL A_1 r.1.length c_2, I r.2] ∧ Keep0 w w_ ∧ ((gr intE 1 3 A_1 c_2 r.1).ok w_ ∧ New w.heap.size (gr intE 1 3 A_1 c_2 r.1)) ∧ True := by
  unfold ref_Whose at H
  refine fn_of (n := 53) Tryd.func64 rfl rfl (Nat.le_of_ble_eq_true rfl) ?_
  have S : St w (fun _ => False) w [] [rd eTallyCount 7 A1 c2 a0.Counts] := St.start w _ _ (List.forall_mem_cons.2 ⟨h3, (fun _ h_ => (List.not_mem_nil h_).elim)⟩)
  refine c_seq ?_
  refine reg ?_
  refine p_boxA rfl S fun b4 w5 S6 => ?_
  refine p_aS rfl ?_
  refine p_aI rfl ?_
  refine wp_nil ?_
  refine c_seq ?_
  refine c_seq ?_
  refine reg ?_
  refine p_ldA ty24 sz24 (S6.atX (i := 0) rfl) rfl rfl ?_
  obtain ⟨r7, h8, H⟩ := bindS H
  refine p_cv (ref_Check_ok h8 (S6.atP (i := 0) rfl)) fu57 rfl S6 fun w9 S10 => ?_
  refine p_aI rfl ?_
  refine wp_nil ?_
  refine c_seq ?_
  refine reg ?_
  refine p_mI rfl ?_
  refine p_cmp rfl rfl rfl ?_
  refine wp_nil ?_
  refine c_cond rfl (fun c11 => ?_) (fun c11 => ?_)
  · replace H := condT c11 H
    refine c_seq ?_
    refine reg ?_
    refine p_mI rfl ?_
    refine p_aS rfl ?_
    refine p_aI rfl ?_
    refine wp_nil ?_
    obtain rfl := Option.some.inj H
    refine c_ret ?_; show bodyPostM (Fr none) 0 Tryd.prog Tryd.f64 _ .ret _ _
    refine ret_of (res2 rfl (rvT (rfl : _ = SL none 0 0)) (rvT (rfl : _ = I r7))) ?_
    exact ⟨_, rfl, none, 0, rfl, S10.keep, ⟨gr_nil, New.grNil⟩, trivial⟩
  · replace H := condF c11 H
    refine c_skip ?_
    refine c_seq ?_
    refine reg ?_
    refine p_bsl0 intE sc31 S10 fun A12 w14 S15 => ?_
    refine p_aS rfl ?_
    refine wp_nil ?_
    refine c_seq ?_
    refine c_seq ?_
    refine reg ?_
    refine p_aI rfl ?_
    refine wp_nil ?_
    refine c_block ?_
    refine c_lop (α := (List Int) × Int) (β := (Option Addr) × Nat) (ref_Whose_l9 a0) (fun z_1 y_1 => [(1, P b4 0), (5, SL y_1.1 z_1.1.length y_1.2), (6, I z_1.2)]) (fun z_1 y_1 w_ => St w (fun _ => False) w_ [gr intE 1 3 y_1.1 y_1.2 z_1.1, bl b4 [I a0.Trips, I a0.Room, SL A1 a0.Counts.length c2] 24] [rd eTallyCount 7 A1 c2 a0.Counts]) (([] : List Int), 0) (A12, 0) H ⟨rfl, rfl, rfl, trivial⟩ S15 ?_
    intro m17 z_1 y_1 e18 w19 H S20
    unfold ref_Whose_l9 at H
    refine c_seq ?_
    refine c_seq ?_
    refine reg ?_
    refine p_mI rfl ?_
    refine p_cmp rfl rfl rfl ?_
    refine wp_nil ?_
    refine c_cond rfl (fun c21 => ?_) (fun c21 => ?_)
    · replace H := condT c21 H
      refine c_skip ?_
      refine c_seq ?_
      refine c_block ?_
      refine c_seq ?_
      refine reg ?_
      refine p_aI rfl ?_
      refine wp_nil ?_
      refine c_seq ?_
      refine c_seq ?_
      refine reg ?_
      refine p_aI rfl ?_
      refine wp_nil ?_
      refine c_block ?_
      refine c_lop (α := Int × Int) (β := Unit) (ref_Whose_l8 a0 z_1 (loopF (ref_Whose_l9 a0) m17)) (fun z_2 y_2 => [(1, P b4 0), (5, SL y_1.1 z_1.1.length y_1.2), (6, I z_1.2), (7, I z_2.1), (8, I z_2.2)]) (fun z_2 y_2 w_ => St w (fun _ => False) w_ [gr intE 1 3 y_1.1 y_1.2 z_1.1, bl b4 [I a0.Trips, I a0.Room, SL A1 a0.Counts.length c2] 24] [rd eTallyCount 7 A1 c2 a0.Counts]) (0, 0) () H ⟨rfl, rfl, rfl, rfl, rfl, trivial⟩ S20 ?_
      intro m22 z_2 y_2 e23 w24 H S25
      unfold ref_Whose_l8 at H
      refine c_seq ?_
      refine c_seq ?_
      refine reg ?_
      refine p_mI rfl ?_
      refine p_fld fl24_2 rfl ?_
      refine p_ld ty22 (S25.atX (i := 1) rfl) rfl rfl ?_
      refine p_len rfl sc22 ?_
      refine p_cmp rfl rfl rfl ?_
      refine wp_nil ?_
      refine c_cond rfl (fun c26 => ?_) (fun c26 => ?_)
      · replace H := condT c26 H
        refine c_skip ?_
        refine c_seq ?_
        refine c_block ?_
        refine c_seq ?_
        refine reg ?_
        refine p_fld fl24_2 rfl ?_
        refine p_ld ty22 (S25.atX (i := 1) rfl) rfl rfl ?_
        refine p_mI rfl ?_
        obtain ⟨r27, h28, H⟩ := bindS H
        refine p_ixE sc22 h28 (S25.atP (i := 0) rfl).1 rfl rfl rfl ?_
        refine p_fldE fl33_0 (sl_here (S25.atP (i := 0) rfl).1 h28) rfl ?_
        refine p_ldE ty3 h28 (S25.atP (i := 0) rfl).1 rfl rfl ?_
        refine p_mI rfl ?_
        refine p_cmp rfl rfl rfl ?_
        refine wp_nil ?_
        refine c_cond rfl (fun c29 => ?_) (fun c29 => ?_)
        · replace H := condT c29 H
          refine reg ?_
          refine p_mI rfl ?_
          refine p_mI rfl ?_
          obtain ⟨h30, H⟩ := needS H
          refine p_shl h30 rfl rfl ?_
          refine p_orI rfl rfl ?_
          refine p_aI rfl ?_
          refine wp_nil ?_
          refine reg ?_
          refine p_mI rfl ?_
          refine p_add rfl rfl ?_
          refine p_aI rfl ?_
          refine wp_nil ?_
          exact ⟨(orI z_2.1 (shlI 1 z_2.2), wr (z_2.2 + 1)), (), _, rfl, ⟨rfl, rfl, rfl, rfl, rfl, trivial⟩, H, S25⟩
        · replace H := condF c29 H
          refine c_skip ?_
          refine reg ?_
          refine p_mI rfl ?_
          refine p_add rfl rfl ?_
          refine p_aI rfl ?_
          refine wp_nil ?_
          exact ⟨(z_2.1, wr (z_2.2 + 1)), (), _, rfl, ⟨rfl, rfl, rfl, rfl, rfl, trivial⟩, H, S25⟩
      · replace H := condF c26 H
        refine c_exit ?_
        refine c_seq ?_
        refine reg ?_
        refine p_ldA ty24 sz24 (S25.atX (i := 1) rfl) rfl rfl ?_
        refine p_mI rfl ?_
        obtain ⟨r31, h32, H⟩ := bindS H
        refine p_cal (ref_Without_ok h32 (S25.atP (i := 0) rfl)) fu88 rfl ?_
        rintro _ w33 ⟨A35, c36, rfl, k34, ⟨o37, n38⟩, _⟩
        have S40 := S25.addNew k34 o37 n38
        obtain ⟨r41, h42, H⟩ := bindS H
        refine p_cal (ref_most_ok h42 (gr_rd eTallyCount_len (S40.atX (i := 0) rfl))) fu81 rfl ?_
        rintro _ w43 ⟨A45, c46, l47, rfl, k44, ⟨o48, n49⟩, ⟨o50, n51⟩, _⟩
        have S52 := S40.callN k44 [rd rowN 1 A45 c46 l47, ri rowI l47 r41.1] (List.forall_mem_cons.2 ⟨⟨o48, New.inL n49⟩, (List.forall_mem_cons.2 ⟨⟨o50, New.inL n51⟩, (fun _ h_ => (List.not_mem_nil h_).elim)⟩)⟩)
        refine p_mT rfl ?_
        refine p_ext rfl rfl ?_
        refine p_ext rfl rfl ?_
        refine p_aS rfl ?_
        refine p_aB rfl ?_
        refine wp_nil ?_
        refine c_seq ?_
        refine reg ?_
        refine p_mB rfl ?_
        refine wp_nil ?_
        refine c_cond rfl (fun c53 => ?_) (fun c53 => ?_)
        · replace H := condT c53 H
          refine reg ?_
          refine p_mS rfl ?_
          refine p_mI rfl ?_
          refine p_bsl (enc := intE) (l := ([z_1.2] : List Int)) I (fun _ => rfl) sc31 in3 intE_len rfl (by decide) (by decide) zr3_1 S52 rfl fun A54 c55 w56 S57 => ?_
          obtain ⟨h63, H⟩ := needS H
          refine p_app (enc := intE) sc31 in3 rfl intE_len intE_one (by decide) S57 (k := 2) rfl (gr_sl intE_len (S57.atX (i := 0) rfl)) h63 (by simp) rfl rfl fun A61 c62 w59 S60 => ?_
          refine p_aS rfl ?_
          refine wp_nil ?_
          refine reg ?_
          refine p_mI rfl ?_
          refine p_add rfl rfl ?_
          refine p_aI rfl ?_
          refine wp_nil ?_
          have S64 := S60.pk [2, 3] (by decide) [2] rfl rfl
          exact ⟨(z_1.1 ++ ([z_1.2] : List Int), wr (z_1.2 + 1)), (A61, c62), _, rfl, ⟨rfl, rfl, rfl, trivial⟩, H, S64⟩
        · replace H := condF c53 H
          refine c_skip ?_
          refine reg ?_
          refine p_mI rfl ?_
          refine p_add rfl rfl ?_
          refine p_aI rfl ?_
          refine wp_nil ?_
          have S65 := S52.pk [1, 2] (by decide) [2] rfl rfl
          exact ⟨(z_1.1, wr (z_1.2 + 1)), (y_1.1, y_1.2), _, rfl, ⟨rfl, rfl, rfl, trivial⟩, H, S65⟩
    · replace H := condF c21 H
      refine c_exit ?_
      refine c_seq ?_
      refine reg ?_
      refine p_mS rfl ?_
      refine p_aS rfl ?_
      refine p_aI rfl ?_
      refine wp_nil ?_
      obtain rfl := Option.some.inj H
      refine c_ret ?_; show bodyPostM (Fr none) 0 Tryd.prog Tryd.f64 _ .ret _ _
      refine ret_of (res2 rfl (rvT (rfl : _ = SL y_1.1 z_1.1.length y_1.2)) (rvT (rfl : _ = I 0))) ?_
      exact ⟨_, rfl, y_1.1, y_1.2, rfl, S20.keep, ⟨S20.atX (i := 0) rfl, S20.newX (i := 0) rfl⟩, trivial⟩

def ref_Exact (a0 : Int) (a1 : Int) : Option TallyCount :=
  some (TallyCount.mk 2 a0 a0 a1 1 0 0)

set_option maxRecDepth 100000 in
theorem ref_Exact_ok {a0 : Int} {a1 : Int} {w : World} {r : TallyCount} (H : ref_Exact a0 a1 = some r) : Calls Tryd.prog 89 #[I a0, I a1] w (RetV w (AG [I r.Who, I r.From, I r.To, I r.Told, I r.Unit, I r.Under, I r.Over])) := by
  unfold ref_Exact at H
  refine fn_of (n := 9) Tryd.func89 rfl rfl (Nat.le_of_ble_eq_true rfl) ?_
  have S : St w (fun _ => False) w [] [] := St.start w _ _ (fun _ h_ => (List.not_mem_nil h_).elim)
  refine c_seq ?_
  refine reg ?_
  refine p_allA in33 S fun b1 w2 S3 => ?_
  refine wp_nil ?_
  refine c_seq ?_
  refine reg ?_
  refine p_mI rfl ?_
  refine p_mI rfl ?_
  refine p_mI rfl ?_
  refine p_bld (cs := [I 2, I a0, I a0, I a1, I 1, I 0, I 0]) st33 (rfl : _ = [(0, I 2), (1, I a0), (2, I a0), (3, I a1), (4, I 1)]) (by kernel_rfl) ?_
  refine p_stP (pre := []) (old := [I 0, I 0, I 0, I 0, I 0, I 0, I 0]) (post := []) (vs := [I 2, I a0, I a0, I a1, I 1, I 0, I 0]) sz33 S3 (i := 0) rfl rfl rfl rfl (rfl : _ = AG [I 2, I a0, I a0, I a1, I 1, I 0, I 0]) rfl rfl rfl rfl fun w4 S5 => ?_
  refine wp_nil ?_
  obtain rfl := Option.some.inj H
  refine c_ret ?_; show bodyPostM (Fr none) 0 Tryd.prog Tryd.f89 _ .ret _ _
  refine ret_of (res1 rfl (rvA rfl ty33 sz33 (S5.atX (i := 0) rfl) rfl)) ?_
  exact ⟨_, rfl, rfl, S5.keep⟩

def ref_Again_j6 (rec_z_1 : (Int × Int × Int) → Option (Int × Int)) (z_1 : Int × Int × Int) (z_2 : Int × Int) (z_3 : Bool) : Option (Int × Int) :=
  bif z_3 then (rec_z_1 (z_1.2.2, z_2.1, wr (z_1.2.2 + 1)))
  else (rec_z_1 (z_1.1, z_1.2.1, wr (z_1.2.2 + 1)))

def ref_Again_l7 (r7 : (List (List Int)) × Int) (z_1 : Int × Int × Int) (a0 : TallyBook) (rec_z_1 : (Int × Int × Int) → Option (Int × Int)) (rec_z_2 : (Int × Int) → Option (Int × Int)) (z_2 : Int × Int) : Option (Int × Int) :=
  (getI r7.1 z_1.2.2).bind fun r54 =>
  (getI r54 (wr (z_1.2.2 + 1))).bind fun r59 =>
  bif decide (z_2.2 ≤ r59) then ((ref_Exact z_1.2.2 z_2.2).bind fun r64 =>
  (ref_With a0 r64).bind fun r70 =>
  (ref_most r70).bind fun r83 =>
  (getI r83.1 0).bind fun r153 =>
  (getI r153 a0.Trips).bind fun r158 =>
  (getI r83.1 a0.Trips).bind fun r160 =>
  (getI r160 0).bind fun r165 =>
  rec_z_2 ((if (wr (r158 + r165)) > z_2.1 then (wr (r158 + r165)) else z_2.1), wr (z_2.2 + 1)))
  else (bif decide (z_1.1 < 0) then (ref_Again_j6 rec_z_1 z_1 z_2 true)
  else (ref_Again_j6 rec_z_1 z_1 z_2 (decide (z_2.1 < z_1.2.1))))

def ref_Again_l8 (a0 : TallyBook) (r7 : (List (List Int)) × Int) (rec_z_1 : (Int × Int × Int) → Option (Int × Int)) (z_1 : Int × Int × Int) : Option (Int × Int) :=
  bif decide (z_1.2.2 < a0.Trips) then ((getI r7.1 (wr (z_1.2.2 + 1))).bind fun r43 =>
  (getI r43 z_1.2.2).bind fun r48 =>
  loopF (ref_Again_l7 r7 z_1 a0 rec_z_1) big (0, wr (-r48)))
  else (some (z_1.1, 0))

def ref_Again (a0 : TallyBook) : Option (Int × Int) :=
  (ref_asked a0 true).bind fun r7 =>
  bif (r7.2 != 0) then (some (0, r7.2))
  else ((getI r7.1 0).bind fun r20 =>
  (getI r20 a0.Trips).bind fun r25 =>
  (getI r7.1 a0.Trips).bind fun r27 =>
  (getI r27 0).bind fun r32 =>
  bif (r25 == (wr (-r32))) then (some (0, 4))
  else (loopF (ref_Again_l8 a0 r7) big ((-1), 0, 0)))

set_option maxRecDepth 100000 in
theorem ref_Again_ok {a0 : TallyBook} {A1 : Option Addr} {c2 : Nat} {w : World} {r : Int × Int} (H : ref_Again a0 = some r) (h3 : (rd eTallyCount 7 A1 c2 a0.Counts).ok w) : Calls Tryd.prog 65 #[AG [I a0.Trips, I a0.Room, SL A1 a0.Counts.length c2]] w (RetV w (TU [I r.1, I r.2])) := by
  unfold ref_Again at H
  refine fn_of (n := 100) Tryd.func65 rfl rfl (Nat.le_of_ble_eq_true rfl) ?_
  have S : St w (fun _ => False) w [] [rd eTallyCount 7 A1 c2 a0.Counts] := St.start w _ _ (List.forall_mem_cons.2 ⟨h3, (fun _ h_ => (List.not_mem_nil h_).elim)⟩)
  refine c_seq ?_
  refine reg ?_
  refine p_boxA rfl S fun b4 w5 S6 => ?_
  refine p_aI rfl ?_
  refine p_aI rfl ?_
  refine wp_nil ?_
  refine c_seq ?_
  refine reg ?_
  refine p_ldA ty24 sz24 (S6.atX (i := 0) rfl) rfl rfl ?_
  obtain ⟨r7, h8, H⟩ := bindS H
  refine p_cal (ref_asked_ok h8 (S6.atP (i := 0) rfl)) fu83 rfl ?_
  rintro _ w9 ⟨A11, c12, l13, rfl, k10, ⟨o14, n15⟩, ⟨o16, n17⟩, _⟩
  have S18 := S6.callN k10 [rd rowN 1 A11 c12 l13, ri rowI l13 r7.1] (List.forall_mem_cons.2 ⟨⟨o14, New.inL n15⟩, (List.forall_mem_cons.2 ⟨⟨o16, New.inL n17⟩, (fun _ h_ => (List.not_mem_nil h_).elim)⟩)⟩)
  refine p_mT rfl ?_
  refine p_ext rfl rfl ?_
  refine p_ext rfl rfl ?_
  refine p_aS rfl ?_
  refine p_aI rfl ?_
  refine wp_nil ?_
  refine c_seq ?_
  refine c_seq ?_
  refine reg ?_
  refine p_mI rfl ?_
  refine p_cmp rfl rfl rfl ?_
  refine wp_nil ?_
  refine c_cond rfl (fun c19 => ?_) (fun c19 => ?_)
  · replace H := condT c19 H
    refine c_seq ?_
    refine reg ?_
    refine p_mI rfl ?_
    refine p_aI rfl ?_
    refine p_aI rfl ?_
    refine wp_nil ?_
    obtain rfl := Option.some.inj H
    refine c_ret ?_; show bodyPostM (Fr none) 0 Tryd.prog Tryd.f65 _ .ret _ _
    refine ret_of (res2 rfl (rvT (rfl : _ = I 0)) (rvT (rfl : _ = I r7.2))) ?_
    exact ⟨_, rfl, rfl, S18.keep⟩
  · replace H := condF c19 H
    refine c_skip ?_
    refine c_seq ?_
    refine c_seq ?_
    obtain ⟨r20, h21, H⟩ := bindS H
    obtain ⟨d22, h23⟩ := ri_at (S18.atP (i := 1) rfl) h21
    have S24 := S18.riIn (j := 1) (k := 0) rfl h23 rfl
    obtain ⟨r25, h26, H⟩ := bindS H
    obtain ⟨r27, h28, H⟩ := bindS H
    obtain ⟨d29, h30⟩ := ri_at (S24.atP (i := 2) rfl) h28
    have S31 := S24.riIn (j := 2) (k := 0) rfl h30 rfl
    obtain ⟨r32, h33, H⟩ := bindS H
    refine reg_q mixed 16 (by kernel_rfl) ?_
    refine dS (fun _ k_ => p_mS rfl dn) ?_
    refine dS (fun _ k_ => p_ixE sc104 h23 (Asr.stays (S18.atP (i := 0) rfl) k_).1 rfl rfl rfl dn) ?_
    refine dS (fun _ k_ => p_ldE ty31 h23 (Asr.stays (S18.atP (i := 0) rfl) k_).1 rfl rfl dn) ?_
    refine dS (fun _ k_ => p_fld fl24_0 rfl dn) ?_
    refine dS (fun _ k_ => p_ld ty3 (Asr.stays (S24.atX (i := 0) rfl) k_) rfl rfl dn) ?_
    refine dS (fun _ k_ => p_ixE sc31 h26 (Asr.stays (S24.atP (i := 0) rfl) k_).1 rfl rfl rfl dn) ?_
    refine dS (fun _ k_ => p_ldE ty3 h26 (Asr.stays (S24.atP (i := 0) rfl) k_).1 rfl rfl dn) ?_
    refine dS (fun _ k_ => p_mS rfl dn) ?_
    refine dS (fun _ k_ => p_fld fl24_0 rfl dn) ?_
    refine dS (fun _ k_ => p_ld ty3 (Asr.stays (S24.atX (i := 0) rfl) k_) rfl rfl dn) ?_
    refine dS (fun _ k_ => p_ixE sc104 h30 (Asr.stays (S24.atP (i := 1) rfl) k_).1 rfl rfl rfl dn) ?_
    refine dS (fun _ k_ => p_ldE ty31 h30 (Asr.stays (S24.atP (i := 1) rfl) k_).1 rfl rfl dn) ?_
    refine dS (fun _ k_ => p_ixE sc31 h33 (Asr.stays (S31.atP (i := 0) rfl) k_).1 rfl rfl rfl dn) ?_
    refine dS (fun _ k_ => p_ldE ty3 h33 (Asr.stays (S31.atP (i := 0) rfl) k_).1 rfl rfl dn) ?_
    refine dS (fun _ k_ => p_neg rfl dn) ?_
    refine dS (fun _ k_ => p_cmp rfl rfl rfl dn) ?_
    intro w34 k35; have S36 := S31.call k35
    refine wp_nil ?_
    refine c_cond rfl (fun c37 => ?_) (fun c37 => ?_)
    · replace H := condT c37 H
      refine c_seq ?_
      refine reg ?_
      refine p_aI rfl ?_
      refine p_aI rfl ?_
      refine wp_nil ?_
      obtain rfl := Option.some.inj H
      refine c_ret ?_; show bodyPostM (Fr none) 0 Tryd.prog Tryd.f65 _ .ret _ _
      refine ret_of (res2 rfl (rvT (rfl : _ = I 0)) (rvT (rfl : _ = I 4))) ?_
      exact ⟨_, rfl, rfl, S36.keep⟩
    · replace H := condF c37 H
      refine c_skip ?_
      refine c_seq ?_
      refine reg ?_
      refine p_aI rfl ?_
      refine p_aI rfl ?_
      refine wp_nil ?_
      refine c_seq ?_
      refine c_seq ?_
      refine reg ?_
      refine p_aI rfl ?_
      refine wp_nil ?_
      refine c_block ?_
      refine c_lop (α := Int × Int × Int) (β := Unit) (ref_Again_l8 a0 r7) (fun z_1 y_1 => [(1, P b4 0), (4, SL A11 l13.length c12), (6, I z_1.1), (7, I z_1.2.1), (8, I z_1.2.2)]) (fun z_1 y_1 w_ => St w (fun _ => False) w_ [bl b4 [I a0.Trips, I a0.Room, SL A1 a0.Counts.length c2] 24] [rd intE 1 d29.1 d29.2 r27, rd intE 1 d22.1 d22.2 r20, rd rowN 1 A11 c12 l13, ri rowI l13 r7.1, rd eTallyCount 7 A1 c2 a0.Counts]) ((-1), 0, 0) () H ⟨rfl, rfl, rfl, rfl, rfl, trivial⟩ S36 ?_
      intro m38 z_1 y_1 e39 w40 H S41
      unfold ref_Again_l8 at H
      refine c_seq ?_
      refine c_seq ?_
      refine reg ?_
      refine p_mI rfl ?_
      refine p_fld fl24_0 rfl ?_
      refine p_ld ty3 (S41.atX (i := 0) rfl) rfl rfl ?_
      refine p_cmp rfl rfl rfl ?_
      refine wp_nil ?_
      refine c_cond rfl (fun c42 => ?_) (fun c42 => ?_)
      · replace H := condT c42 H
        refine c_skip ?_
        refine c_seq ?_
        refine c_block ?_
        refine c_seq ?_
        refine reg ?_
        refine p_aI rfl ?_
        refine wp_nil ?_
        refine c_seq ?_
        refine c_seq ?_
        refine reg ?_
        refine p_mS rfl ?_
        refine p_mI rfl ?_
        refine p_add rfl rfl ?_
        obtain ⟨r43, h44, H⟩ := bindS H
        obtain ⟨d45, h46⟩ := ri_at (S41.atP (i := 3) rfl) h44
        refine p_ixE sc104 h46 (S41.atP (i := 2) rfl).1 rfl rfl rfl ?_
        refine p_ldE ty31 h46 (S41.atP (i := 2) rfl).1 rfl rfl ?_
        have S47 := S41.riIn (j := 3) (k := 0) rfl h46 rfl
        refine p_mI rfl ?_
        obtain ⟨r48, h49, H⟩ := bindS H
        refine p_ixE sc31 h49 (S47.atP (i := 0) rfl).1 rfl rfl rfl ?_
        refine p_ldE ty3 h49 (S47.atP (i := 0) rfl).1 rfl rfl ?_
        refine p_neg rfl ?_
        refine p_aI rfl ?_
        refine wp_nil ?_
        refine c_block ?_
        refine c_lop (α := Int × Int) (β := Unit) (ref_Again_l7 r7 z_1 a0 (loopF (ref_Again_l8 a0 r7) m38)) (fun z_2 y_2 => [(1, P b4 0), (4, SL A11 l13.length c12), (6, I z_1.1), (7, I z_1.2.1), (8, I z_1.2.2), (9, I z_2.1), (10, I z_2.2)]) (fun z_2 y_2 w_ => St w (fun _ => False) w_ [bl b4 [I a0.Trips, I a0.Room, SL A1 a0.Counts.length c2] 24] [rd intE 1 d45.1 d45.2 r43, rd intE 1 d29.1 d29.2 r27, rd intE 1 d22.1 d22.2 r20, rd rowN 1 A11 c12 l13, ri rowI l13 r7.1, rd eTallyCount 7 A1 c2 a0.Counts]) (0, wr (-r48)) () H ⟨rfl, rfl, rfl, rfl, rfl, rfl, rfl, trivial⟩ S47 ?_
        intro m50 z_2 y_2 e51 w52 H S53
        unfold ref_Again_l7 at H
        refine c_seq ?_
        refine c_seq ?_
        refine reg ?_
        refine p_mI rfl ?_
        refine p_mS rfl ?_
        refine p_mI rfl ?_
        obtain ⟨r54, h55, H⟩ := bindS H
        obtain ⟨d56, h57⟩ := ri_at (S53.atP (i := 4) rfl) h55
        refine p_ixE sc104 h57 (S53.atP (i := 3) rfl).1 rfl rfl rfl ?_
        refine p_ldE ty31 h57 (S53.atP (i := 3) rfl).1 rfl rfl ?_
        have S58 := S53.riIn (j := 4) (k := 0) rfl h57 rfl
        refine p_mI rfl ?_
        refine p_add rfl rfl ?_
        obtain ⟨r59, h60, H⟩ := bindS H
        refine p_ixE sc31 h60 (S58.atP (i := 0) rfl).1 rfl rfl rfl ?_
        refine p_ldE ty3 h60 (S58.atP (i := 0) rfl).1 rfl rfl ?_
        refine p_cmp rfl rfl rfl ?_
        refine wp_nil ?_
        refine c_cond rfl (fun c61 => ?_) (fun c61 => ?_)
        · replace H := condT c61 H
          refine c_skip ?_
          refine c_seq ?_
          refine c_block ?_
          refine c_seq ?_
          obtain ⟨r64, h65, H⟩ := bindS H
          obtain ⟨r70, h71, H⟩ := bindS H
          obtain ⟨r83, h84, H⟩ := bindS H
          refine reg_any mixed 11 (by kernel_rfl) [rv (AG [I a0.Trips, I a0.Room, SL A1 a0.Counts.length c2]), rv (I z_1.2.2), rv (I z_2.2), rv (AG [I r64.Who, I r64.From, I r64.To, I r64.Told, I r64.Unit, I r64.Under, I r64.Over]), rx (α := (Option Addr) × Nat) (fun ⟨A74, c75⟩ => AG [I r70.Trips, I r70.Room, SL A74 r70.Counts.length c75]) (fun ⟨A74, c75⟩ lo hi => BtwL lo hi [] (gr eTallyCount 7 33 A74 c75 r70.Counts) ∧ True) (fun ⟨A74, c75⟩ => [gr eTallyCount 7 33 A74 c75 r70.Counts]), rx (α := (Option Addr) × (List RowH) × Nat) (fun ⟨A87, l89, c88⟩ => TU [SL A87 l89.length c88, B r83.2]) (fun ⟨A87, l89, c88⟩ lo hi => BtwL lo hi [] (rd rowN 1 A87 c88 l89) ∧ BtwL lo hi [] (ri rowI l89 r83.1) ∧ True) (fun ⟨A87, l89, c88⟩ => [rd rowN 1 A87 c88 l89, ri rowI l89 r83.1]), dv 70 some, dv 64 (exG 0), dv 64 (exG 1), dv 71 some, rv (B r83.2)] [[], [], [], [], [], [], [70], [64], [64], [71], []] rfl (by kernel_rfl) [[], [], [], [1, 2], [0, 1, 2, 3], [0, 1, 2, 3, 4], [0, 1, 2, 3, 4, 5], [0, 1, 2, 3, 4, 5, 6], [0, 1, 2, 3, 4, 5, 6], [0, 1, 2, 3, 4, 5, 6, 7], [0, 1, 2, 3, 4, 5, 6, 7, 8, 9]] (by kernel_rfl) ⟨?_, ?_, ?_, ?_, ?_, ?_, ?_, ?_, ?_, ?_, ?_, trivial⟩ ?_
          · intro e_ w_ k_ hf_ hR_
            have S_ : St w_ (fun _ => False) w_ [] [bl b4 [I a0.Trips, I a0.Room, SL A1 a0.Counts.length c2] 24, rd intE 1 d56.1 d56.2 r54, rd intE 1 d45.1 d45.2 r43, rd intE 1 d29.1 d29.2 r27, rd intE 1 d22.1 d22.2 r20, rd rowN 1 A11 c12 l13, ri rowI l13 r7.1, rd eTallyCount 7 A1 c2 a0.Counts] := S58.asP k_
            refine hopE [(1, P b4 0)] ⟨((hf_ 1 rfl).trans (rfl : _ = P b4 0)), trivial⟩ ?_
            refine p_ldA ty24 sz24 (S_.atP (i := 0) rfl) rfl rfl ?_
            refine wp_nil ?_
            exact ⟨_, rfl, S_.keep, rfl⟩
          · intro e_ w_ k_ hf_ hR_
            have S_ : St w_ (fun _ => False) w_ [] [bl b4 [I a0.Trips, I a0.Room, SL A1 a0.Counts.length c2] 24, rd intE 1 d56.1 d56.2 r54, rd intE 1 d45.1 d45.2 r43, rd intE 1 d29.1 d29.2 r27, rd intE 1 d22.1 d22.2 r20, rd rowN 1 A11 c12 l13, ri rowI l13 r7.1, rd eTallyCount 7 A1 c2 a0.Counts] := S58.asP k_
            refine hopE [(8, I z_1.2.2)] ⟨((hf_ 8 rfl).trans (rfl : _ = I z_1.2.2)), trivial⟩ ?_
            refine p_mI rfl ?_
            refine wp_nil ?_
            exact ⟨_, rfl, S_.keep, rfl⟩
          · intro e_ w_ k_ hf_ hR_
            have S_ : St w_ (fun _ => False) w_ [] [bl b4 [I a0.Trips, I a0.Room, SL A1 a0.Counts.length c2] 24, rd intE 1 d56.1 d56.2 r54, rd intE 1 d45.1 d45.2 r43, rd intE 1 d29.1 d29.2 r27, rd intE 1 d22.1 d22.2 r20, rd rowN 1 A11 c12 l13, ri rowI l13 r7.1, rd eTallyCount 7 A1 c2 a0.Counts] := S58.asP k_
            refine hopE [(10, I z_2.2)] ⟨((hf_ 10 rfl).trans (rfl : _ = I z_2.2)), trivial⟩ ?_
            refine p_mI rfl ?_
            refine wp_nil ?_
            exact ⟨_, rfl, S_.keep, rfl⟩
          · intro e_ w_ k_ hf_ hR_
            have S_ : St w_ (fun _ => False) w_ [] [bl b4 [I a0.Trips, I a0.Room, SL A1 a0.Counts.length c2] 24, rd intE 1 d56.1 d56.2 r54, rd intE 1 d45.1 d45.2 r43, rd intE 1 d29.1 d29.2 r27, rd intE 1 d22.1 d22.2 r20, rd rowN 1 A11 c12 l13, ri rowI l13 r7.1, rd eTallyCount 7 A1 c2 a0.Counts] := S58.asP k_
            obtain ⟨_, _, _, _, q62⟩ := hR_ 1 66 rfl (Nat.le_of_ble_eq_true rfl) rfl
            obtain ⟨_, _, _, _, q63⟩ := hR_ 2 67 rfl (Nat.le_of_ble_eq_true rfl) rfl
            refine hopE [(66, I z_1.2.2), (67, I z_2.2)] ⟨q62, q63, trivial⟩ ?_
            refine p_cv (ref_Exact_ok h65) fu89 rfl S_ fun w66 S67 => ?_
            refine wp_nil ?_
            exact ⟨_, rfl, S67.keep, rfl⟩
          · intro e_ w_ k_ hf_ hR_
            have S_ : St w_ (fun _ => False) w_ [] [bl b4 [I a0.Trips, I a0.Room, SL A1 a0.Counts.length c2] 24, rd intE 1 d56.1 d56.2 r54, rd intE 1 d45.1 d45.2 r43, rd intE 1 d29.1 d29.2 r27, rd intE 1 d22.1 d22.2 r20, rd rowN 1 A11 c12 l13, ri rowI l13 r7.1, rd eTallyCount 7 A1 c2 a0.Counts] := S58.asP k_
            obtain ⟨_, _, _, _, q68⟩ := hR_ 0 65 rfl (Nat.le_of_ble_eq_true rfl) rfl
            obtain ⟨_, _, _, _, q69⟩ := hR_ 3 68 rfl (Nat.le_of_ble_eq_true rfl) rfl
            refine hopE [(65, AG [I a0.Trips, I a0.Room, SL A1 a0.Counts.length c2]), (68, AG [I r64.Who, I r64.From, I r64.To, I r64.Told, I r64.Unit, I r64.Under, I r64.Over])] ⟨q68, q69, trivial⟩ ?_
            refine p_cal (ref_With_ok h71 (S_.atP (i := 7) rfl)) fu87 rfl ?_
            rintro _ w72 ⟨A74, c75, rfl, k73, ⟨o76, n77⟩, _⟩
            have S79 := S_.addNew k73 o76 n77
            refine wp_nil ?_
            exact ⟨_, rfl, S79.keep, ⟨(A74, c75), rfl, ⟨BtwL.of (New.al (S79.newX (i := 0) rfl)) rfl (S79.atX (i := 0) rfl) rfl, trivial⟩, (List.forall_mem_cons.2 ⟨(S79.atX (i := 0) rfl), (fun _ h_ => (List.not_mem_nil h_).elim)⟩)⟩⟩
          · intro e_ w_ k_ hf_ hR_
            have S_ : St w_ (fun _ => False) w_ [] [bl b4 [I a0.Trips, I a0.Room, SL A1 a0.Counts.length c2] 24, rd intE 1 d56.1 d56.2 r54, rd intE 1 d45.1 d45.2 r43, rd intE 1 d29.1 d29.2 r27, rd intE 1 d22.1 d22.2 r20, rd rowN 1 A11 c12 l13, ri rowI l13 r7.1, rd eTallyCount 7 A1 c2 a0.Counts] := S58.asP k_
            obtain ⟨_, _, _, _, ⟨A74, c75⟩, q80, p81, a82⟩ := hR_ 4 69 rfl (Nat.le_of_ble_eq_true rfl) rfl
            replace q80 : e_ 69 = AG [I r70.Trips, I r70.Room, SL A74 r70.Counts.length c75] := q80
            have S_ := St.addL' S_ (a82 _ (.head _)) (fun _ _ _ h_ => (List.not_mem_nil h_).elim)
            refine hopE [(69, AG [I r70.Trips, I r70.Room, SL A74 r70.Counts.length c75])] ⟨q80, trivial⟩ ?_
            refine p_cal (ref_most_ok h84 (gr_rd eTallyCount_len (S_.atP (i := 0) rfl))) fu81 rfl ?_
            rintro _ w85 ⟨A87, c88, l89, rfl, k86, ⟨o90, n91⟩, ⟨o92, n93⟩, _⟩
            have S94 := S_.callN k86 [rd rowN 1 A87 c88 l89, ri rowI l89 r83.1] (List.forall_mem_cons.2 ⟨⟨o90, New.inL n91⟩, (List.forall_mem_cons.2 ⟨⟨o92, New.inL n93⟩, (fun _ h_ => (List.not_mem_nil h_).elim)⟩)⟩)
            refine wp_nil ?_
            exact ⟨_, rfl, S94.keep, ⟨(A87, l89, c88), rfl, ⟨BtwL.of (New.al (New.mono n91 S_.keep.size)) rfl (S94.atP (i := 0) rfl) rfl, BtwL.of (New.al (New.mono n93 S_.keep.size)) rfl (S94.atP (i := 1) rfl) rfl, trivial⟩, (List.forall_mem_cons.2 ⟨(S94.atP (i := 0) rfl), (List.forall_mem_cons.2 ⟨(S94.atP (i := 1) rfl), (fun _ h_ => (List.not_mem_nil h_).elim)⟩)⟩)⟩⟩
          · intro e_ w_ k_ hf_ hR_
            have S_ : St w_ (fun _ => False) w_ [] [bl b4 [I a0.Trips, I a0.Room, SL A1 a0.Counts.length c2] 24, rd intE 1 d56.1 d56.2 r54, rd intE 1 d45.1 d45.2 r43, rd intE 1 d29.1 d29.2 r27, rd intE 1 d22.1 d22.2 r20, rd rowN 1 A11 c12 l13, ri rowI l13 r7.1, rd eTallyCount 7 A1 c2 a0.Counts] := S58.asP k_
            obtain ⟨_, _, _, _, ⟨A87, l89, c88⟩, q95, p96, a97⟩ := hR_ 5 70 rfl (Nat.le_of_ble_eq_true rfl) rfl
            replace q95 : e_ 70 = TU [SL A87 l89.length c88, B r83.2] := q95
            have S_ := St.addL' S_ (a97 _ (.head _)) (fun _ _ _ h_ => (List.not_mem_nil h_).elim)
            have S_ := St.addL' S_ (a97 _ (.tail _ (.head _))) (fun _ _ _ h_ => (List.not_mem_nil h_).elim)
            refine hopE [(70, TU [SL A87 l89.length c88, B r83.2])] ⟨q95, trivial⟩ ?_
            refine p_mT rfl ?_
            refine wp_nil ?_
            exact ⟨_, rfl, S_.keep, rfl⟩
          · intro e_ w_ k_ hf_ hR_
            have S_ : St w_ (fun _ => False) w_ [] [bl b4 [I a0.Trips, I a0.Room, SL A1 a0.Counts.length c2] 24, rd intE 1 d56.1 d56.2 r54, rd intE 1 d45.1 d45.2 r43, rd intE 1 d29.1 d29.2 r27, rd intE 1 d22.1 d22.2 r20, rd rowN 1 A11 c12 l13, ri rowI l13 r7.1, rd eTallyCount 7 A1 c2 a0.Counts] := S58.asP k_
            obtain ⟨_, _, _, _, ⟨A87, l89, c88⟩, q99, p100, a101⟩ := hR_ 5 70 rfl (Nat.le_of_ble_eq_true rfl) rfl
            replace q99 : e_ 70 = TU [SL A87 l89.length c88, B r83.2] := q99
            have S_ := St.addL' S_ (a101 _ (.head _)) (fun _ _ _ h_ => (List.not_mem_nil h_).elim)
            have S_ := St.addL' S_ (a101 _ (.tail _ (.head _))) (fun _ _ _ h_ => (List.not_mem_nil h_).elim)
            obtain ⟨_, _, _, _, q98⟩ := hR_ 6 64 rfl (Nat.le_of_ble_eq_true rfl) rfl
            replace q98 : e_ 64 = TU [SL A87 l89.length c88, B r83.2] := (Option.some.inj ((congrArg some q99).symm.trans q98)).symm
            refine hopE [(64, TU [SL A87 l89.length c88, B r83.2])] ⟨q98, trivial⟩ ?_
            refine p_ext rfl rfl ?_
            refine wp_nil ?_
            exact ⟨_, rfl, S_.keep, rfl⟩
          · intro e_ w_ k_ hf_ hR_
            have S_ : St w_ (fun _ => False) w_ [] [bl b4 [I a0.Trips, I a0.Room, SL A1 a0.Counts.length c2] 24, rd intE 1 d56.1 d56.2 r54, rd intE 1 d45.1 d45.2 r43, rd intE 1 d29.1 d29.2 r27, rd intE 1 d22.1 d22.2 r20, rd rowN 1 A11 c12 l13, ri rowI l13 r7.1, rd eTallyCount 7 A1 c2 a0.Counts] := S58.asP k_
            obtain ⟨_, _, _, _, ⟨A87, l89, c88⟩, q103, p104, a105⟩ := hR_ 5 70 rfl (Nat.le_of_ble_eq_true rfl) rfl
            replace q103 : e_ 70 = TU [SL A87 l89.length c88, B r83.2] := q103
            have S_ := St.addL' S_ (a105 _ (.head _)) (fun _ _ _ h_ => (List.not_mem_nil h_).elim)
            have S_ := St.addL' S_ (a105 _ (.tail _ (.head _))) (fun _ _ _ h_ => (List.not_mem_nil h_).elim)
            obtain ⟨_, _, _, _, q102⟩ := hR_ 6 64 rfl (Nat.le_of_ble_eq_true rfl) rfl
            replace q102 : e_ 64 = TU [SL A87 l89.length c88, B r83.2] := (Option.some.inj ((congrArg some q103).symm.trans q102)).symm
            refine hopE [(64, TU [SL A87 l89.length c88, B r83.2])] ⟨q102, trivial⟩ ?_
            refine p_ext rfl rfl ?_
            refine wp_nil ?_
            exact ⟨_, rfl, S_.keep, rfl⟩
          · intro e_ w_ k_ hf_ hR_
            have S_ : St w_ (fun _ => False) w_ [] [bl b4 [I a0.Trips, I a0.Room, SL A1 a0.Counts.length c2] 24, rd intE 1 d56.1 d56.2 r54, rd intE 1 d45.1 d45.2 r43, rd intE 1 d29.1 d29.2 r27, rd intE 1 d22.1 d22.2 r20, rd rowN 1 A11 c12 l13, ri rowI l13 r7.1, rd eTallyCount 7 A1 c2 a0.Counts] := S58.asP k_
            obtain ⟨_, _, _, _, ⟨A87, l89, c88⟩, q108, p109, a110⟩ := hR_ 5 70 rfl (Nat.le_of_ble_eq_true rfl) rfl
            replace q108 : e_ 70 = TU [SL A87 l89.length c88, B r83.2] := q108
            have S_ := St.addL' S_ (a110 _ (.head _)) (fun _ _ _ h_ => (List.not_mem_nil h_).elim)
            have S_ := St.addL' S_ (a110 _ (.tail _ (.head _))) (fun _ _ _ h_ => (List.not_mem_nil h_).elim)
            obtain ⟨_, _, _, _, q107⟩ := hR_ 6 64 rfl (Nat.le_of_ble_eq_true rfl) rfl
            replace q107 : e_ 64 = TU [SL A87 l89.length c88, B r83.2] := (Option.some.inj ((congrArg some q108).symm.trans q107)).symm
            obtain ⟨_, _, _, _, q106⟩ := hR_ 7 71 rfl (Nat.le_of_ble_eq_true rfl) rfl
            replace q106 : e_ 71 = SL A87 l89.length c88 := (Option.some.inj ((congrArg (exG 0) q107).symm.trans q106)).symm
            refine hopE [(71, SL A87 l89.length c88)] ⟨q106, trivial⟩ ?_
            refine p_aS rfl ?_
            refine wp_nil ?_
            exact ⟨_, rfl, S_.keep, rfl⟩
          · intro e_ w_ k_ hf_ hR_
            have S_ : St w_ (fun _ => False) w_ [] [bl b4 [I a0.Trips, I a0.Room, SL A1 a0.Counts.length c2] 24, rd intE 1 d56.1 d56.2 r54, rd intE 1 d45.1 d45.2 r43, rd intE 1 d29.1 d29.2 r27, rd intE 1 d22.1 d22.2 r20, rd rowN 1 A11 c12 l13, ri rowI l13 r7.1, rd eTallyCount 7 A1 c2 a0.Counts] := S58.asP k_
            obtain ⟨_, _, _, _, ⟨A87, l89, c88⟩, q113, p114, a115⟩ := hR_ 5 70 rfl (Nat.le_of_ble_eq_true rfl) rfl
            replace q113 : e_ 70 = TU [SL A87 l89.length c88, B r83.2] := q113
            have S_ := St.addL' S_ (a115 _ (.head _)) (fun _ _ _ h_ => (List.not_mem_nil h_).elim)
            have S_ := St.addL' S_ (a115 _ (.tail _ (.head _))) (fun _ _ _ h_ => (List.not_mem_nil h_).elim)
            obtain ⟨_, _, _, _, q112⟩ := hR_ 6 64 rfl (Nat.le_of_ble_eq_true rfl) rfl
            replace q112 : e_ 64 = TU [SL A87 l89.length c88, B r83.2] := (Option.some.inj ((congrArg some q113).symm.trans q112)).symm
            obtain ⟨_, _, _, _, q111⟩ := hR_ 8 72 rfl (Nat.le_of_ble_eq_true rfl) rfl
            replace q111 : e_ 72 = B r83.2 := (Option.some.inj ((congrArg (exG 1) q112).symm.trans q111)).symm
            refine hopE [(72, B r83.2)] ⟨q111, trivial⟩ ?_
            refine p_aB rfl ?_
            refine wp_nil ?_
            exact ⟨_, rfl, S_.keep, rfl⟩
          intro e116 w117 lo118 hi119 k120 hf121 hR122 hd123
          have S124 := S58.call k120
          have q125 : e116 65 = AG [I a0.Trips, I a0.Room, SL A1 a0.Counts.length c2] := (hR122 0 65 (Nat.le_of_ble_eq_true rfl) rfl).2.2.2
          have q126 : e116 66 = I z_1.2.2 := (hR122 1 66 (Nat.le_of_ble_eq_true rfl) rfl).2.2.2
          have q127 : e116 67 = I z_2.2 := (hR122 2 67 (Nat.le_of_ble_eq_true rfl) rfl).2.2.2
          have q128 : e116 68 = AG [I r64.Who, I r64.From, I r64.To, I r64.Told, I r64.Unit, I r64.Under, I r64.Over] := (hR122 3 68 (Nat.le_of_ble_eq_true rfl) rfl).2.2.2
          obtain ⟨h130, h131, h132, ⟨A74, c75⟩, q129, h133, h134⟩ := hR122 4 69 (Nat.le_of_ble_eq_true rfl) rfl
          replace q129 : e116 69 = AG [I r70.Trips, I r70.Room, SL A74 r70.Counts.length c75] := q129
          obtain ⟨p135, _⟩ := h133
          obtain ⟨h138, h139, h140, ⟨A87, l89, c88⟩, q137, h141, h142⟩ := hR122 5 70 (Nat.le_of_ble_eq_true rfl) rfl
          replace q137 : e116 70 = TU [SL A87 l89.length c88, B r83.2] := q137
          obtain ⟨p143, p144, _⟩ := h141
          have S145 := St.addR S124 (h142 _ (.head _)) (fun b_ h_ x_ hx_ hb_ => (p143 b_ h_).elim (fun q_ => by have := x_.inb _ _ (S58.xs x_ hx_) hb_; omega) (fun ⟨q_, hq_, hqb_⟩ => S58.dp x_ hx_ q_ (((fun _ h_ => (List.not_mem_nil h_).elim)) q_ hq_) b_ hb_ hqb_))
          have S146 := St.addR S145 (h142 _ (.tail _ (.head _))) (fun b_ h_ x_ hx_ hb_ => (p144 b_ h_).elim (fun q_ => by have := x_.inb _ _ (S58.xs x_ hx_) hb_; omega) (fun ⟨q_, hq_, hqb_⟩ => S58.dp x_ hx_ q_ (((fun _ h_ => (List.not_mem_nil h_).elim)) q_ hq_) b_ hb_ hqb_))
          have q147 : e116 64 = TU [SL A87 l89.length c88, B r83.2] := (Option.some.inj ((congrArg some q137).symm.trans (hR122 6 64 (Nat.le_of_ble_eq_true rfl) rfl).2.2.2)).symm
          have q148 : e116 71 = SL A87 l89.length c88 := (Option.some.inj ((congrArg (exG 0) q147).symm.trans (hR122 7 71 (Nat.le_of_ble_eq_true rfl) rfl).2.2.2)).symm
          have q149 : e116 72 = B r83.2 := (Option.some.inj ((congrArg (exG 1) q147).symm.trans (hR122 8 72 (Nat.le_of_ble_eq_true rfl) rfl).2.2.2)).symm
          have q150 : e116 11 = SL A87 l89.length c88 := (Option.some.inj ((congrArg some q148).symm.trans (hR122 9 11 (Nat.le_of_ble_eq_true rfl) rfl).2.2.2)).symm
          have q151 : e116 12 = B r83.2 := (hR122 10 12 (Nat.le_of_ble_eq_true rfl) rfl).2.2.2
          refine tailE [(1, P b4 0), (4, SL A11 l13.length c12), (6, I z_1.1), (7, I z_1.2.1), (8, I z_1.2.2), (9, I z_2.1), (10, I z_2.2), (11, SL A87 l89.length c88)] ⟨((hf121 1 rfl).trans (rfl : _ = P b4 0)), ((hf121 4 rfl).trans (rfl : _ = SL A11 l13.length c12)), ((hf121 6 rfl).trans (rfl : _ = I z_1.1)), ((hf121 7 rfl).trans (rfl : _ = I z_1.2.1)), ((hf121 8 rfl).trans (rfl : _ = I z_1.2.2)), ((hf121 9 rfl).trans (rfl : _ = I z_2.1)), ((hf121 10 rfl).trans (rfl : _ = I z_2.2)), q150, trivial⟩ ?_
          intro g152
          refine wp_nil ?_
          obtain ⟨r153, h154, H⟩ := bindS H
          obtain ⟨d155, h156⟩ := ri_at (S146.atP (i := 0) rfl) h154
          have S157 := S146.riIn (j := 0) (k := 0) rfl h156 rfl
          obtain ⟨r158, h159, H⟩ := bindS H
          obtain ⟨r160, h161, H⟩ := bindS H
          obtain ⟨d162, h163⟩ := ri_at (S157.atP (i := 1) rfl) h161
          have S164 := S157.riIn (j := 1) (k := 0) rfl h163 rfl
          obtain ⟨r165, h166, H⟩ := bindS H
          refine reg_q mixed 17 (by kernel_rfl) ?_
          refine dS (fun _ k_ => p_mI rfl dn) ?_
          refine dS (fun _ k_ => p_mS rfl dn) ?_
          refine dS (fun _ k_ => p_ixE sc104 h156 (Asr.stays (S146.atP (i := 1) rfl) k_).1 rfl rfl rfl dn) ?_
          refine dS (fun _ k_ => p_ldE ty31 h156 (Asr.stays (S146.atP (i := 1) rfl) k_).1 rfl rfl dn) ?_
          refine dS (fun _ k_ => p_fld fl24_0 rfl dn) ?_
          refine dS (fun _ k_ => p_ld ty3 (Asr.stays (S157.atX (i := 0) rfl) k_) rfl rfl dn) ?_
          refine dS (fun _ k_ => p_ixE sc31 h159 (Asr.stays (S157.atP (i := 0) rfl) k_).1 rfl rfl rfl dn) ?_
          refine dS (fun _ k_ => p_ldE ty3 h159 (Asr.stays (S157.atP (i := 0) rfl) k_).1 rfl rfl dn) ?_
          refine dS (fun _ k_ => p_mS rfl dn) ?_
          refine dS (fun _ k_ => p_fld fl24_0 rfl dn) ?_
          refine dS (fun _ k_ => p_ld ty3 (Asr.stays (S157.atX (i := 0) rfl) k_) rfl rfl dn) ?_
          refine dS (fun _ k_ => p_ixE sc104 h163 (Asr.stays (S157.atP (i := 2) rfl) k_).1 rfl rfl rfl dn) ?_
          refine dS (fun _ k_ => p_ldE ty31 h163 (Asr.stays (S157.atP (i := 2) rfl) k_).1 rfl rfl dn) ?_
          refine dS (fun _ k_ => p_ixE sc31 h166 (Asr.stays (S164.atP (i := 0) rfl) k_).1 rfl rfl rfl dn) ?_
          refine dS (fun _ k_ => p_ldE ty3 h166 (Asr.stays (S164.atP (i := 0) rfl) k_).1 rfl rfl dn) ?_
          refine dS (fun _ k_ => p_add rfl rfl dn) ?_
          refine dS (fun _ k_ => p_max rfl rfl dn) ?_
          intro w167 k168; have S169 := S164.call k168
          refine p_aI rfl ?_
          refine wp_nil ?_
          refine reg ?_
          refine p_mI rfl ?_
          refine p_add rfl rfl ?_
          refine p_aI rfl ?_
          refine wp_nil ?_
          have S170 := S169.pk [0] (by decide) [5, 6, 7, 8, 9, 10] rfl rfl
          exact ⟨((if (wr (r158 + r165)) > z_2.1 then (wr (r158 + r165)) else z_2.1), wr (z_2.2 + 1)), (), _, rfl, ⟨rfl, rfl, rfl, rfl, rfl, rfl, rfl, trivial⟩, H, S170⟩
        · replace H := condF c61 H
          refine c_exit ?_
          refine c_join (α := Bool) (β := Unit) (fun z_3 y_3 => [(1, P b4 0), (4, SL A11 l13.length c12), (6, I z_1.1), (7, I z_1.2.1), (8, I z_1.2.2), (9, I z_2.1), (96, B z_3)]) (fun z_3 y_3 w_ => ref_Again_j6 (loopF (ref_Again_l8 a0 r7) m38) z_1 z_2 z_3 = some r ∧ St w (fun _ => False) w_ [bl b4 [I a0.Trips, I a0.Room, SL A1 a0.Counts.length c2] 24] [rd intE 1 d56.1 d56.2 r54, rd intE 1 d45.1 d45.2 r43, rd intE 1 d29.1 d29.2 r27, rd intE 1 d22.1 d22.2 r20, rd rowN 1 A11 c12 l13, ri rowI l13 r7.1, rd eTallyCount 7 A1 c2 a0.Counts]) ?_ ?_
          · refine reg ?_
            refine p_mI rfl ?_
            refine p_cmp rfl rfl rfl ?_
            refine p_mB rfl ?_
            rcases Bool.eq_false_or_eq_true (decide (z_1.1 < 0)) with c171 | c171
            · replace H := condT c171 H
              refine eB c171 ?_
              refine gF rfl rfl ?_
              refine gF rfl rfl ?_
              refine gF rfl rfl ?_
              refine p_pkT rfl (rfl : _ = B true) ?_
              refine wp_nil ?_
              exact ⟨true, (), _, rfl, ⟨rfl, rfl, rfl, rfl, rfl, rfl, rfl, trivial⟩, H, S58⟩
            · replace H := condF c171 H
              refine eB c171 ?_
              refine gT rfl rfl (p_mI rfl ?_)
              refine gT rfl rfl (p_mI rfl ?_)
              refine gT rfl rfl (p_cmp rfl rfl rfl ?_)
              refine p_pkF rfl (rfl : _ = B (decide (z_2.1 < z_1.2.1))) ?_
              refine wp_nil ?_
              exact ⟨decide (z_2.1 < z_1.2.1), (), _, rfl, ⟨rfl, rfl, rfl, rfl, rfl, rfl, rfl, trivial⟩, H, S58⟩
          · intro z_3 y_3 e171 w172 S173; obtain ⟨H, S173⟩ := S173
            unfold ref_Again_j6 at H
            refine c_cond rfl (fun c174 => ?_) (fun c174 => ?_)
            · replace H := condT c174 H
              refine reg ?_
              refine p_mI rfl ?_
              refine p_mI rfl ?_
              refine p_aI rfl ?_
              refine p_aI rfl ?_
              refine wp_nil ?_
              refine reg ?_
              refine p_mI rfl ?_
              refine p_add rfl rfl ?_
              refine p_aI rfl ?_
              refine wp_nil ?_
              have S175 := S173.pk [0] (by decide) [2, 3, 4, 5, 6] rfl rfl
              exact ⟨(z_1.2.2, z_2.1, wr (z_1.2.2 + 1)), (), _, rfl, ⟨rfl, rfl, rfl, rfl, rfl, trivial⟩, H, S175⟩
            · replace H := condF c174 H
              refine c_skip ?_
              refine reg ?_
              refine p_mI rfl ?_
              refine p_add rfl rfl ?_
              refine p_aI rfl ?_
              refine wp_nil ?_
              have S176 := S173.pk [0] (by decide) [2, 3, 4, 5, 6] rfl rfl
              exact ⟨(z_1.1, z_1.2.1, wr (z_1.2.2 + 1)), (), _, rfl, ⟨rfl, rfl, rfl, rfl, rfl, trivial⟩, H, S176⟩
      · replace H := condF c42 H
        refine c_exit ?_
        refine c_seq ?_
        refine reg ?_
        refine p_mI rfl ?_
        refine p_aI rfl ?_
        refine p_aI rfl ?_
        refine wp_nil ?_
        obtain rfl := Option.some.inj H
        refine c_ret ?_; show bodyPostM (Fr none) 0 Tryd.prog Tryd.f65 _ .ret _ _
        refine ret_of (res2 rfl (rvT (rfl : _ = I z_1.1)) (rvT (rfl : _ = I 0))) ?_
        exact ⟨_, rfl, rfl, S41.keep⟩

def law_tallyWrongs (a0 : TallyBook) (a1 : TallyBook) : Option Bool :=
  (tally_Wrong a0).bind fun r15 =>
  (ref_Wrong a1).bind fun r24 =>
  (B_Alike r15.1 r24.1).bind fun r34 =>
  bif !r34 then (some false)
  else (bif (r15.2 != r24.2) then (some false)
  else ((tally_Whose a0).bind fun r40 =>
  (ref_Whose a1).bind fun r49 =>
  (B_Alike r40.1 r49.1).bind fun r59 =>
  bif !r59 then (some false)
  else (bif (r40.2 != r49.2) then (some false)
  else ((tally_Again a0).bind fun r65 =>
  (ref_Again a1).bind fun r69 =>
  bif (r65.1 == r69.1) then (some (r65.2 == r69.2))
  else (some false)))))

end Go.Proofs.YtplpalmabgjibaaDoor

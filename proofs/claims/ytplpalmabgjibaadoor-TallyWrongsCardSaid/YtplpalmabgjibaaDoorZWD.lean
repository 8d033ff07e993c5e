/- What the functions of the program compute, and that they do, printed by a program of mine. -/
import Derived.Test.YtplpalmabgjibaaDoorZWC
set_option linter.unusedVariables false
set_option linter.unusedSimpArgs false
namespace Go.Proofs.YtplpalmabgjibaaDoor
open Go Go.Fx Go.Proofs
set_option maxRecDepth 100000 in
theorem law_tallyWrongs_ok {a0 : TallyBook} {a1 : TallyBook} {A1 : Option Addr} {c2 : Nat} {A4 : Option Addr} {c5 : Nat} {w : World} {r : Bool} (H : law_tallyWrongs a0 a1 = some r) (h3 : (rd eTallyCount 7 A1 c2 a0.Counts).ok w) (h6 : (rd eTallyCount 7 A4 c5 a1.Counts).ok w) (hg7 : (bl 0 [Value.func (.func 117) #[] #[], Value.func (.func 119) #[] #[]] 117).ok w) (hg8 : (bl 1 [I (-1), I (-1)] 115).ok w) : Calls Tryd.prog 23 #[AG [I a0.Trips, I a0.Room, SL A1 a0.Counts.length c2], AG [I a1.Trips, I a1.Room, SL A4 a1.Counts.length c5]] w (RetV w (B r)) := by
  unfold law_tallyWrongs at H
  refine fn_of (n := 67) Tryd.func23 rfl rfl (Nat.le_of_ble_eq_true rfl) ?_
  have S : St w (fun _ => False) w [] [rd eTallyCount 7 A1 c2 a0.Counts, rd eTallyCount 7 A4 c5 a1.Counts, bl 0 [Value.func (.func 117) #[] #[], Value.func (.func 119) #[] #[]] 117, bl 1 [I (-1), I (-1)] 115] := St.start w _ _ (List.forall_mem_cons.2 ⟨h3, (List.forall_mem_cons.2 ⟨h6, (List.forall_mem_cons.2 ⟨hg7, (List.forall_mem_cons.2 ⟨hg8, (fun _ h_ => (List.not_mem_nil h_).elim)⟩)⟩)⟩)⟩)
  refine c_seq ?_
  refine reg ?_
  refine p_boxA rfl S fun b9 w10 S11 => ?_
  refine p_boxA rfl S11 fun b12 w13 S14 => ?_
  refine p_aB rfl ?_
  refine wp_nil ?_
  refine c_seq ?_
  refine reg ?_
  refine p_ldA ty24 sz24 (S14.atX (i := 1) rfl) rfl rfl ?_
  obtain ⟨r15, h16, H⟩ := bindS H
  refine p_cal (tally_Wrong_ok h16 (S14.atP (i := 0) rfl) (S14.atP (i := 2) rfl) (S14.atP (i := 3) rfl)) fu30 rfl ?_
  rintro _ w17 ⟨A19, c20, rfl, k18, ⟨o21, n22⟩, _⟩
  have S23 := S14.callN k18 [rd intE 1 A19 c20 r15.1] (List.forall_mem_cons.2 ⟨⟨o21, Al.inL n22 ((List.forall_mem_cons.2 ⟨(fp_mem (i := 0) rfl), (fun _ h_ => (List.not_mem_nil h_).elim)⟩))⟩, (fun _ h_ => (List.not_mem_nil h_).elim)⟩)
  refine p_mT rfl ?_
  refine p_ext rfl rfl ?_
  refine p_ext rfl rfl ?_
  refine p_aS rfl ?_
  refine p_aI rfl ?_
  refine wp_nil ?_
  refine c_seq ?_
  refine reg ?_
  refine p_ldA ty24 sz24 (S23.atX (i := 0) rfl) rfl rfl ?_
  obtain ⟨r24, h25, H⟩ := bindS H
  refine p_cal (ref_Wrong_ok h25 (S23.atP (i := 2) rfl)) fu63 rfl ?_
  rintro _ w26 ⟨A28, c29, rfl, k27, ⟨o30, n31⟩, _⟩
  have S33 := S23.addNew k27 o30 n31
  refine p_mT rfl ?_
  refine p_ext rfl rfl ?_
  refine p_ext rfl rfl ?_
  refine p_aS rfl ?_
  refine p_aI rfl ?_
  refine wp_nil ?_
  refine c_seq ?_
  refine c_seq ?_
  refine reg ?_
  refine p_mS rfl ?_
  refine p_mS rfl ?_
  obtain ⟨r34, h35, H⟩ := bindS H
  refine p_cv (B_Alike_ok h35 (S33.atP (i := 0) rfl) (gr_rd intE_len (S33.atX (i := 0) rfl))) fu22 rfl S33 fun w36 S37 => ?_
  refine p_not rfl ?_
  refine p_mB rfl ?_
  rcases Bool.eq_false_or_eq_true (!r34) with c38 | c38
  · replace H := condT c38 H
    refine eB c38 ?_
    refine gF rfl rfl ?_
    refine gF rfl rfl ?_
    refine gF rfl rfl ?_
    refine p_pkT rfl (rfl : _ = B true) ?_
    refine wp_nil ?_
    refine c_true rfl ?_
    refine c_seq ?_
    refine reg ?_
    refine p_aB rfl ?_
    refine wp_nil ?_
    obtain rfl := Option.some.inj H
    refine c_ret ?_; show bodyPostM (Fr none) 0 Tryd.prog Tryd.f23 _ .ret _ _
    refine ret_of (res1 rfl (rvT (rfl : _ = B false))) ?_
    exact ⟨_, rfl, rfl, S37.keep⟩
  · replace H := condF c38 H
    refine eB c38 ?_
    refine gT rfl rfl (p_mI rfl ?_)
    refine gT rfl rfl (p_mI rfl ?_)
    refine gT rfl rfl (p_cmp rfl rfl rfl ?_)
    refine p_pkF rfl (rfl : _ = B (r15.2 != r24.2)) ?_
    refine wp_nil ?_
    refine c_cond rfl (fun c39 => ?_) (fun c39 => ?_)
    · replace H := condT c39 H
      refine c_seq ?_
      refine reg ?_
      refine p_aB rfl ?_
      refine wp_nil ?_
      obtain rfl := Option.some.inj H
      refine c_ret ?_; show bodyPostM (Fr none) 0 Tryd.prog Tryd.f23 _ .ret _ _
      refine ret_of (res1 rfl (rvT (rfl : _ = B false))) ?_
      exact ⟨_, rfl, rfl, S37.keep⟩
    · replace H := condF c39 H
      refine c_skip ?_
      refine c_seq ?_
      refine reg ?_
      refine p_ldA ty24 sz24 (S37.atX (i := 2) rfl) rfl rfl ?_
      obtain ⟨r40, h41, H⟩ := bindS H
      refine p_cal (tally_Whose_ok h41 (S37.atP (i := 1) rfl) (S37.atP (i := 3) rfl) (S37.atP (i := 4) rfl)) fu31 rfl ?_
      rintro _ w42 ⟨A44, c45, rfl, k43, ⟨o46, n47⟩, _⟩
      have S48 := S37.callN k43 [rd intE 1 A44 c45 r40.1] (List.forall_mem_cons.2 ⟨⟨o46, New.inL n47⟩, (fun _ h_ => (List.not_mem_nil h_).elim)⟩)
      refine p_mT rfl ?_
      refine p_ext rfl rfl ?_
      refine p_ext rfl rfl ?_
      refine p_aS rfl ?_
      refine p_aI rfl ?_
      refine wp_nil ?_
      refine c_seq ?_
      refine reg ?_
      refine p_ldA ty24 sz24 (S48.atX (i := 1) rfl) rfl rfl ?_
      obtain ⟨r49, h50, H⟩ := bindS H
      refine p_cal (ref_Whose_ok h50 (S48.atP (i := 3) rfl)) fu64 rfl ?_
      rintro _ w51 ⟨A53, c54, rfl, k52, ⟨o55, n56⟩, _⟩
      have S58 := S48.addNew k52 o55 n56
      refine p_mT rfl ?_
      refine p_ext rfl rfl ?_
      refine p_ext rfl rfl ?_
      refine p_aS rfl ?_
      refine p_aI rfl ?_
      refine wp_nil ?_
      refine c_seq ?_
      refine c_seq ?_
      refine reg ?_
      refine p_mS rfl ?_
      refine p_mS rfl ?_
      obtain ⟨r59, h60, H⟩ := bindS H
      refine p_cv (B_Alike_ok h60 (S58.atP (i := 0) rfl) (gr_rd intE_len (S58.atX (i := 0) rfl))) fu22 rfl S58 fun w61 S62 => ?_
      refine p_not rfl ?_
      refine p_mB rfl ?_
      rcases Bool.eq_false_or_eq_true (!r59) with c63 | c63
      · replace H := condT c63 H
        refine eB c63 ?_
        refine gF rfl rfl ?_
        refine gF rfl rfl ?_
        refine gF rfl rfl ?_
        refine p_pkT rfl (rfl : _ = B true) ?_
        refine wp_nil ?_
        refine c_true rfl ?_
        refine c_seq ?_
        refine reg ?_
        refine p_aB rfl ?_
        refine wp_nil ?_
        obtain rfl := Option.some.inj H
        refine c_ret ?_; show bodyPostM (Fr none) 0 Tryd.prog Tryd.f23 _ .ret _ _
        refine ret_of (res1 rfl (rvT (rfl : _ = B false))) ?_
        exact ⟨_, rfl, rfl, S62.keep⟩
      · replace H := condF c63 H
        refine eB c63 ?_
        refine gT rfl rfl (p_mI rfl ?_)
        refine gT rfl rfl (p_mI rfl ?_)
        refine gT rfl rfl (p_cmp rfl rfl rfl ?_)
        refine p_pkF rfl (rfl : _ = B (r40.2 != r49.2)) ?_
        refine wp_nil ?_
        refine c_cond rfl (fun c64 => ?_) (fun c64 => ?_)
        · replace H := condT c64 H
          refine c_seq ?_
          refine reg ?_
          refine p_aB rfl ?_
          refine wp_nil ?_
          obtain rfl := Option.some.inj H
          refine c_ret ?_; show bodyPostM (Fr none) 0 Tryd.prog Tryd.f23 _ .ret _ _
          refine ret_of (res1 rfl (rvT (rfl : _ = B false))) ?_
          exact ⟨_, rfl, rfl, S62.keep⟩
        · replace H := condF c64 H
          refine c_skip ?_
          refine c_seq ?_
          refine reg ?_
          refine p_ldA ty24 sz24 (S62.atX (i := 3) rfl) rfl rfl ?_
          obtain ⟨r65, h66, H⟩ := bindS H
          refine p_cv (tally_Again_ok h66 (S62.atP (i := 2) rfl) (S62.atP (i := 4) rfl) (S62.atP (i := 5) rfl)) fu50 rfl S62 fun w67 S68 => ?_
          refine p_mT rfl ?_
          refine p_ext rfl rfl ?_
          refine p_ext rfl rfl ?_
          refine p_aI rfl ?_
          refine p_aI rfl ?_
          refine wp_nil ?_
          refine c_seq ?_
          refine reg ?_
          refine p_ldA ty24 sz24 (S68.atX (i := 2) rfl) rfl rfl ?_
          obtain ⟨r69, h70, H⟩ := bindS H
          refine p_cv (ref_Again_ok h70 (S68.atP (i := 3) rfl)) fu65 rfl S68 fun w71 S72 => ?_
          refine p_mT rfl ?_
          refine p_ext rfl rfl ?_
          refine p_ext rfl rfl ?_
          refine p_aI rfl ?_
          refine p_aI rfl ?_
          refine wp_nil ?_
          refine c_seq ?_
          refine reg ?_
          refine p_mI rfl ?_
          refine p_mI rfl ?_
          refine p_cmp rfl rfl rfl ?_
          refine p_mB rfl ?_
          rcases Bool.eq_false_or_eq_true ((r65.1 == r69.1)) with c73 | c73
          · replace H := condT c73 H
            refine eB c73 ?_
            refine gT rfl rfl (p_mI rfl ?_)
            refine gT rfl rfl (p_mI rfl ?_)
            refine gT rfl rfl (p_cmp rfl rfl rfl ?_)
            refine p_pkT rfl (rfl : _ = B (r65.2 == r69.2)) ?_
            refine p_aB rfl ?_
            refine wp_nil ?_
            obtain rfl := Option.some.inj H
            refine c_ret ?_; show bodyPostM (Fr none) 0 Tryd.prog Tryd.f23 _ .ret _ _
            refine ret_of (res1 rfl (rvT (rfl : _ = B (r65.2 == r69.2)))) ?_
            exact ⟨_, rfl, rfl, S72.keep⟩
          · replace H := condF c73 H
            refine eB c73 ?_
            refine gF rfl rfl ?_
            refine gF rfl rfl ?_
            refine gF rfl rfl ?_
            refine p_pkF rfl (rfl : _ = B false) ?_
            refine p_aB rfl ?_
            refine wp_nil ?_
            obtain rfl := Option.some.inj H
            refine c_ret ?_; show bodyPostM (Fr none) 0 Tryd.prog Tryd.f23 _ .ret _ _
            refine ret_of (res1 rfl (rvT (rfl : _ = B false))) ?_
            exact ⟨_, rfl, rfl, S72.keep⟩

end Go.Proofs.YtplpalmabgjibaaDoor

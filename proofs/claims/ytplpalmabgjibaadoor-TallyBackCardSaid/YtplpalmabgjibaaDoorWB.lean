/- What the functions of the program compute, and that they do, printed by a program of mine. -/
import Derived.Test.YtplpalmabgjibaaDoorWA
set_option linter.unusedVariables false
set_option linter.unusedSimpArgs false
namespace Go.Proofs.YtplpalmabgjibaaDoor
open Go Go.Fx Go.Proofs
set_option maxRecDepth 100000 in
theorem tally_Wrong_ok {a0 : TallyBook} {A1 : Option Addr} {c2 : Nat} {w : World} {r : (List Int) × Int} (H : tally_Wrong a0 = some r) (h3 : (rd eTallyCount 7 A1 c2 a0.Counts).ok w) (hg4 : (bl 0 [Value.func (.func 117) #[] #[], Value.func (.func 119) #[] #[]] 117).ok w) (hg5 : (bl 1 [I (-1), I (-1)] 115).ok w) : Calls Tryd.prog 30 #[AG [I a0.Trips, I a0.Room, SL A1 a0.Counts.length c2]] w fun en w_ => ∃ u_, en = .returned u_ ∧ ∃ A_1 : Option Addr, ∃ c_2 : Nat, u_ = TU [SL A_1 r.1.length c_2, I r.2] ∧ Keep0 w w_ ∧ ((rd intE 1 A_1 c_2 r.1).ok w_ ∧ Al w [rd eTallyCount 7 A1 c2 a0.Counts] (rd intE 1 A_1 c_2 r.1)) ∧ True := by
  unfold tally_Wrong at H
  refine fn_of (n := 36) Tryd.func30 rfl rfl (Nat.le_of_ble_eq_true rfl) ?_
  have S : St w (fun _ => False) w [] [rd eTallyCount 7 A1 c2 a0.Counts, bl 0 [Value.func (.func 117) #[] #[], Value.func (.func 119) #[] #[]] 117, bl 1 [I (-1), I (-1)] 115] := St.start w _ _ (List.forall_mem_cons.2 ⟨h3, (List.forall_mem_cons.2 ⟨hg4, (List.forall_mem_cons.2 ⟨hg5, (fun _ h_ => (List.not_mem_nil h_).elim)⟩)⟩)⟩)
  refine c_seq ?_
  refine reg ?_
  refine p_boxA rfl S fun b6 w7 S8 => ?_
  refine p_aS rfl ?_
  refine p_aI rfl ?_
  refine wp_nil ?_
  refine c_seq ?_
  refine c_seq ?_
  refine reg ?_
  refine p_ldA ty24 sz24 (S8.atX (i := 0) rfl) rfl rfl ?_
  obtain ⟨r9, h10, H⟩ := bindS H
  refine p_cv (tally_Check_ok h10 (S8.atP (i := 0) rfl)) fu53 rfl S8 fun w11 S12 => ?_
  refine p_aI rfl ?_
  refine wp_nil ?_
  refine c_seq ?_
  refine reg ?_
  refine p_mI rfl ?_
  refine p_cmp rfl rfl rfl ?_
  refine wp_nil ?_
  refine c_cond rfl (fun c13 => ?_) (fun c13 => ?_)
  · replace H := condT c13 H
    refine c_seq ?_
    refine reg ?_
    refine p_mI rfl ?_
    refine p_aS rfl ?_
    refine p_aI rfl ?_
    refine wp_nil ?_
    obtain rfl := Option.some.inj H
    refine c_ret ?_; show bodyPostM (Fr none) 0 Tryd.prog Tryd.f30 _ .ret _ _
    refine ret_of (res2 rfl (rvT (rfl : _ = SL none 0 0)) (rvT (rfl : _ = I r9))) ?_
    exact ⟨_, rfl, none, 0, rfl, S12.keep, ⟨rd_nil (Nat.zero_le _), Al.nil⟩, trivial⟩
  · replace H := condF c13 H
    refine c_skip ?_
    refine c_seq ?_
    refine reg ?_
    refine p_all in94 rfl S12 fun b14 w15 S16 => ?_
    refine wp_nil ?_
    refine c_seq ?_
    refine reg ?_
    refine o_fun (rfl : _ = []) (rfl : _ = [P b6 0, P b14 0]) ?_
    refine p_st sz94 S16 (i := 0) rfl rfl (rfl : _ = Value.func (.func 71) #[] #[P b6 0, P b14 0]) rfl rfl fun w17 S18 => ?_
    refine wp_nil ?_
    refine c_seq ?_
    refine c_seq ?_
    refine reg ?_
    refine p_fld fl24_2 rfl ?_
    refine p_ld ty22 (S18.atX (i := 1) rfl) rfl rfl ?_
    refine p_len rfl sc22 ?_
    refine p_add rfl rfl ?_
    refine p_mI rfl ?_
    refine wp_nil ?_
    refine c_block ?_
    refine c_lop (α := Int) (β := Unit) (tally_Wrong_l2 a0) (fun z_1 y_1 => [(5, P b14 0), (18, I (wr ((a0.Counts.length : Int) + 1))), (19, I z_1)]) (fun z_1 y_1 w_ => St w (fun _ => False) w_ [bl b14 [Value.func (.func 71) #[] #[P b6 0, P b14 0]] 94, bl b6 [I a0.Trips, I a0.Room, SL A1 a0.Counts.length c2] 24] [rd eTallyCount 7 A1 c2 a0.Counts, bl 0 [Value.func (.func 117) #[] #[], Value.func (.func 119) #[] #[]] 117, bl 1 [I (-1), I (-1)] 115]) 0 () H ⟨rfl, rfl, rfl, trivial⟩ S18 ?_
    intro m19 z_1 y_1 e20 w21 H S22
    unfold tally_Wrong_l2 at H
    refine c_seq ?_
    refine reg ?_
    refine p_cmp rfl rfl rfl ?_
    refine wp_nil ?_
    refine c_seq ?_
    refine c_cond rfl (fun c23 => ?_) (fun c23 => ?_)
    · replace H := condT c23 H
      refine c_skip ?_
      refine c_seq ?_
      refine c_block ?_
      refine c_seq ?_
      refine reg ?_
      refine p_mI rfl ?_
      refine p_aI rfl ?_
      refine wp_nil ?_
      refine c_seq ?_
      refine reg ?_
      refine p_ld ty94 (S22.atX (i := 0) rfl) rfl rfl ?_
      refine p_mI rfl ?_
      obtain ⟨r24, h25, H⟩ := bindS H
      refine p_cal (tally_Wrong_1_ok h25 (S22.atX (i := 0) rfl) (S22.atX (i := 1) rfl) (rd_nil (Nat.zero_le _)) (S22.atP (i := 0) rfl) (S22.atP (i := 1) rfl) (S22.atP (i := 2) rfl)) fu71 rfl ?_
      rintro _ w26 ⟨A28, c29, rfl, k27, ⟨o30, n31⟩, _⟩
      have S32 := S22.callN k27 [rd intE 1 A28 c29 r24.1] (List.forall_mem_cons.2 ⟨⟨o30, Al.inL n31 ((List.forall_mem_cons.2 ⟨fp_nil, (List.forall_mem_cons.2 ⟨(fp_mem (i := 0) rfl), (fun _ h_ => (List.not_mem_nil h_).elim)⟩)⟩))⟩, (fun _ h_ => (List.not_mem_nil h_).elim)⟩)
      refine p_mT rfl ?_
      refine p_ext rfl rfl ?_
      refine p_ext rfl rfl ?_
      refine p_aS rfl ?_
      refine p_aB rfl ?_
      refine wp_nil ?_
      refine c_seq ?_
      refine reg ?_
      refine p_mB rfl ?_
      refine wp_nil ?_
      refine c_cond rfl (fun c33 => ?_) (fun c33 => ?_)
      · replace H := condT c33 H
        refine c_seq ?_
        refine reg ?_
        refine p_mS rfl ?_
        refine p_mS rfl ?_
        refine p_len rfl sc31 ?_
        refine p_mS rfl ?_
        refine p_len rfl sc31 ?_
        refine p_cut3 sc31 (S32.atP (i := 0) rfl) rfl rfl rfl ?_
        refine p_aS rfl ?_
        refine p_aI rfl ?_
        refine wp_nil ?_
        obtain rfl := Option.some.inj H
        refine c_ret ?_; show bodyPostM (Fr none) 0 Tryd.prog Tryd.f30 _ .ret _ _
        refine ret_of (res2 rfl (rvT (rfl : _ = SL A28 r24.1.length r24.1.length)) (rvT (rfl : _ = I 0))) ?_
        exact ⟨_, rfl, A28, r24.1.length, rfl, S32.keep, ⟨(rd_full (S32.atP (i := 0) rfl)), Al.rdr (Al.up n31 S22.keep.size (List.forall_mem_cons.2 ⟨Al.nil, (List.forall_mem_cons.2 ⟨(Al.self (i := 0) rfl), (fun _ h_ => (List.not_mem_nil h_).elim)⟩)⟩))⟩, trivial⟩
      · replace H := condF c33 H
        refine c_skip ?_
        refine reg ?_
        refine p_add rfl rfl ?_
        refine p_mI rfl ?_
        refine wp_nil ?_
        have S34 := S32.pk [0, 1] (by decide) [1, 2, 3] rfl rfl
        exact ⟨wr (z_1 + 1), (), _, rfl, ⟨rfl, rfl, rfl, trivial⟩, H, S34⟩
    · replace H := condF c23 H
      refine c_exit ?_
      refine c_seq ?_
      refine reg ?_
      refine p_aS rfl ?_
      refine p_aI rfl ?_
      refine wp_nil ?_
      obtain rfl := Option.some.inj H
      refine c_ret ?_; show bodyPostM (Fr none) 0 Tryd.prog Tryd.f30 _ .ret _ _
      refine ret_of (res2 rfl (rvT (rfl : _ = SL none 0 0)) (rvT (rfl : _ = I 0))) ?_
      exact ⟨_, rfl, none, 0, rfl, S22.keep, ⟨rd_nil (Nat.zero_le _), Al.nil⟩, trivial⟩

def tally_whose_1 (a0 : TallyCount) (a1 : Int) (q0 : Int) : Option Bool :=
  some (a0.Who == q0)

set_option maxRecDepth 100000 in
theorem tally_whose_1_ok {a0 : TallyCount} {a1 : Int} {q0 : Int} {b1 : Nat} {w : World} {r : Bool} (H : tally_whose_1 a0 a1 q0 = some r) (h2 : (bl b1 [I q0] 3).ok w) : Calls Tryd.prog 96 #[AG [I a0.Who, I a0.From, I a0.To, I a0.Told, I a0.Unit, I a0.Under, I a0.Over], I a1, P b1 0] w (RetV w (B r)) := by
  unfold tally_whose_1 at H
  refine fn_of (n := 10) Tryd.func96 rfl rfl (Nat.le_of_ble_eq_true rfl) ?_
  have S : St w (fun _ => False) w [] [bl b1 [I q0] 3] := St.start w _ _ (List.forall_mem_cons.2 ⟨h2, (fun _ h_ => (List.not_mem_nil h_).elim)⟩)
  refine c_seq ?_
  refine reg ?_
  refine p_boxA rfl S fun b3 w4 S5 => ?_
  refine p_aB rfl ?_
  refine wp_nil ?_
  refine c_seq ?_
  refine reg ?_
  refine p_fld fl33_0 rfl ?_
  refine p_ld ty3 (S5.atX (i := 0) rfl) rfl rfl ?_
  refine p_ld ty3 (S5.atP (i := 0) rfl) rfl rfl ?_
  refine p_cmp rfl rfl rfl ?_
  refine p_aB rfl ?_
  refine wp_nil ?_
  obtain rfl := Option.some.inj H
  refine c_ret ?_; show bodyPostM (Fr none) 0 Tryd.prog Tryd.f96 _ .ret _ _
  refine ret_of (res1 rfl (rvT (rfl : _ = B (a0.Who == q0)))) ?_
  exact ⟨_, rfl, rfl, S5.keep⟩

def tally_whose (a0 : Int) : Option Unit :=
  some ()

set_option maxRecDepth 100000 in
theorem tally_whose_ok {a0 : Int} {w : World} {r : Unit} (H : tally_whose a0 = some r) : Calls Tryd.prog 73 #[I a0] w fun en w_ => ∃ u_, en = .returned u_ ∧ ∃ b_1 : Nat, u_ = AG [Value.func (.func 96) #[] #[P b_1 0]] ∧ Keep0 w w_ ∧ ((bl b_1 [I a0] 3).ok w_ ∧ New w.heap.size (bl b_1 [I a0] 3)) ∧ True := by
  unfold tally_whose at H
  refine fn_of (n := 5) Tryd.func73 rfl rfl (Nat.le_of_ble_eq_true rfl) ?_
  have S : St w (fun _ => False) w [] [] := St.start w _ _ (fun _ h_ => (List.not_mem_nil h_).elim)
  refine c_seq ?_
  refine reg ?_
  refine p_box (rfl : _ = I a0) rfl S fun b1 w2 S3 => ?_
  refine p_allA in90 S3 fun b4 w5 S6 => ?_
  refine wp_nil ?_
  refine c_seq ?_
  refine reg ?_
  refine o_fun (rfl : _ = []) (rfl : _ = [P b1 0]) ?_
  refine p_bld (cs := [Value.func (.func 96) #[] #[P b1 0]]) st90 (rfl : _ = [(0, Value.func (.func 96) #[] #[P b1 0])]) (by kernel_rfl) ?_
  refine p_stP (pre := []) (old := [Value.nilFunc]) (post := []) (vs := [Value.func (.func 96) #[] #[P b1 0]]) sz90 S6 (i := 0) rfl rfl rfl rfl (rfl : _ = AG [Value.func (.func 96) #[] #[P b1 0]]) rfl rfl rfl rfl fun w7 S8 => ?_
  refine wp_nil ?_
  obtain rfl := Option.some.inj H
  refine c_ret ?_; show bodyPostM (Fr none) 0 Tryd.prog Tryd.f73 _ .ret _ _
  refine ret_of (res1 rfl (rvA rfl ty90 sz90 (S8.atX (i := 0) rfl) rfl)) ?_
  exact ⟨_, rfl, b1, rfl, S8.keep, ⟨S8.atX (i := 1) rfl, S8.newX (i := 1) rfl⟩, trivial⟩

def tally_Whose_l3 (a0 : TallyBook) (rec_z_1 : ((List Int) × Int) → Option ((List Int) × Int)) (z_1 : (List Int) × Int) : Option ((List Int) × Int) :=
  bif decide (z_1.2 < 3) then ((tally_whose z_1.2).bind fun r23 =>
  (tally_opened a0 (Tally_leave.mk (fun y34 y35 => tally_whose_1 y34 y35 z_1.2))).bind fun r36 =>
  (tally_book_can (Tally_book.mk (TallyBook.mk r36.TallyBook.Trips r36.TallyBook.Room a0.Counts) r36.more_)).bind fun r44 =>
  bif r44 then (need (fitsL (z_1.1.length + ([z_1.2] : List Int).length) 8) <|
  rec_z_1 (z_1.1 ++ ([z_1.2] : List Int), wr (z_1.2 + 1)))
  else (rec_z_1 (z_1.1, wr (z_1.2 + 1))))
  else (some (z_1.1, 0))

def tally_Whose (a0 : TallyBook) : Option ((List Int) × Int) :=
  (tally_Check a0).bind fun r9 =>
  bif (r9 != 0) then (some (([] : List _), r9))
  else (loopF (tally_Whose_l3 a0) big (([] : List Int), 0))

set_option maxRecDepth 100000 in
theorem tally_Whose_ok {a0 : TallyBook} {A1 : Option Addr} {c2 : Nat} {w : World} {r : (List Int) × Int} (H : tally_Whose a0 = some r) (h3 : (rd eTallyCount 7 A1 c2 a0.Counts).ok w) (hg4 : (bl 0 [Value.func (.func 117) #[] #[], Value.func (.func 119) #[] #[]] 117).ok w) (hg5 : (bl 1 [I (-1), I (-1)] 115).ok w) : Calls Tryd.prog 31 #[AG [I a0.Trips, I a0.Room, SL A1 a0.Counts.length c2]] w fun en w_ => ∃ u_, en = .returned u_ ∧ ∃ A_1 : Option Addr, ∃ c_2 : Nat, u_ = TU [SL A_1 r.1.length c_2, I r.2] ∧ Keep0 w w_ ∧ ((rd intE 1 A_1 c_2 r.1).ok w_ ∧ New w.heap.size (rd intE 1 A_1 c_2 r.1)) ∧ True := by
  unfold tally_Whose at H
  refine fn_of (n := 31) Tryd.func31 rfl rfl (Nat.le_of_ble_eq_true rfl) ?_
  have S : St w (fun _ => False) w [] [rd eTallyCount 7 A1 c2 a0.Counts, bl 0 [Value.func (.func 117) #[] #[], Value.func (.func 119) #[] #[]] 117, bl 1 [I (-1), I (-1)] 115] := St.start w _ _ (List.forall_mem_cons.2 ⟨h3, (List.forall_mem_cons.2 ⟨hg4, (List.forall_mem_cons.2 ⟨hg5, (fun _ h_ => (List.not_mem_nil h_).elim)⟩)⟩)⟩)
  refine c_seq ?_
  refine reg ?_
  refine p_boxA rfl S fun b6 w7 S8 => ?_
  refine p_aS rfl ?_
  refine p_aI rfl ?_
  refine wp_nil ?_
  refine c_seq ?_
  refine c_seq ?_
  refine reg ?_
  refine p_ldA ty24 sz24 (S8.atX (i := 0) rfl) rfl rfl ?_
  obtain ⟨r9, h10, H⟩ := bindS H
  refine p_cv (tally_Check_ok h10 (S8.atP (i := 0) rfl)) fu53 rfl S8 fun w11 S12 => ?_
  refine p_aI rfl ?_
  refine wp_nil ?_
  refine c_seq ?_
  refine reg ?_
  refine p_mI rfl ?_
  refine p_cmp rfl rfl rfl ?_
  refine wp_nil ?_
  refine c_cond rfl (fun c13 => ?_) (fun c13 => ?_)
  · replace H := condT c13 H
    refine c_seq ?_
    refine reg ?_
    refine p_mI rfl ?_
    refine p_aS rfl ?_
    refine p_aI rfl ?_
    refine wp_nil ?_
    obtain rfl := Option.some.inj H
    refine c_ret ?_; show bodyPostM (Fr none) 0 Tryd.prog Tryd.f31 _ .ret _ _
    refine ret_of (res2 rfl (rvT (rfl : _ = SL none 0 0)) (rvT (rfl : _ = I r9))) ?_
    exact ⟨_, rfl, none, 0, rfl, S12.keep, ⟨rd_nil (Nat.zero_le _), New.nil⟩, trivial⟩
  · replace H := condF c13 H
    refine c_skip ?_
    refine c_seq ?_
    refine reg ?_
    refine p_aS rfl ?_
    refine wp_nil ?_
    refine c_seq ?_
    refine c_seq ?_
    refine reg ?_
    refine p_mI rfl ?_
    refine wp_nil ?_
    refine c_block ?_
    have S14 := S12.nilRow intE 1 3
    refine c_lop (α := (List Int) × Int) (β := (Option Addr) × Nat) (tally_Whose_l3 a0) (fun z_1 y_1 => [(1, P b6 0), (5, SL y_1.1 z_1.1.length y_1.2), (12, I z_1.2)]) (fun z_1 y_1 w_ => St w (fun _ => False) w_ [gr intE 1 3 y_1.1 y_1.2 z_1.1, bl b6 [I a0.Trips, I a0.Room, SL A1 a0.Counts.length c2] 24] [rd eTallyCount 7 A1 c2 a0.Counts, bl 0 [Value.func (.func 117) #[] #[], Value.func (.func 119) #[] #[]] 117, bl 1 [I (-1), I (-1)] 115]) (([] : List Int), 0) (none, 0) H ⟨rfl, rfl, rfl, trivial⟩ S14 ?_
    intro m15 z_1 y_1 e16 w17 H S18
    unfold tally_Whose_l3 at H
    refine c_seq ?_
    refine reg ?_
    refine p_cmp rfl rfl rfl ?_
    refine wp_nil ?_
    refine c_seq ?_
    refine c_cond rfl (fun c19 => ?_) (fun c19 => ?_)
    · replace H := condT c19 H
      refine c_skip ?_
      refine c_seq ?_
      refine c_block ?_
      refine c_seq ?_
      refine reg ?_
      refine p_mI rfl ?_
      refine p_aI rfl ?_
      refine wp_nil ?_
      refine c_seq ?_
      refine reg_c mixed 3 [2] (by kernel_rfl) ?_
      refine kS rfl (fun _ k_ => p_ldA ty24 sz24 (Asr.stays (S18.atX (i := 1) rfl) k_) rfl rfl dn) ?_
      refine kS rfl (fun _ k_ => p_mI rfl dn) ?_
      refine kC rfl ?_
      intro w20 k21; have S22 := S18.call k21
      obtain ⟨r23, h24, H⟩ := bindS H
      refine p_cal (tally_whose_ok h24) fu73 rfl ?_
      rintro _ w25 ⟨b27, rfl, k26, ⟨o28, n29⟩, _⟩
      have S30 := S22.addNew k26 o28 n29
      refine cN k26 fun w31 k32 => ?_
      have S33 := S30.call k32
      obtain ⟨r36, h37, H⟩ := bindS H
      refine p_cal (tally_opened_ok h37 (S33.atP (i := 0) rfl) (by kernel_rfl) (fun _ _ _ _ k_ hr_ => tally_whose_1_ok hr_ (Asr.stays (S33.atX (i := 0) rfl) k_)) (S33.atP (i := 1) rfl)) fu66 rfl ?_
      rintro _ w38 ⟨m40, rfl, k39, ⟨o41, n42⟩, _⟩
      have S43 := S33.addNew k39 o41 n42
      obtain ⟨r44, h45, H⟩ := bindS H
      refine p_cv (tally_book_can_ok h45 (S43.atP (i := 0) rfl) (mpo_some (S43.atX (i := 0) rfl)) (S43.atP (i := 2) rfl)) fu68 rfl S43 fun w46 S47 => ?_
      refine wp_nil ?_
      refine c_cond rfl (fun c48 => ?_) (fun c48 => ?_)
      · replace H := condT c48 H
        refine reg ?_
        refine p_mS rfl ?_
        refine p_mI rfl ?_
        refine p_bsl (enc := intE) (l := ([z_1.2] : List Int)) I (fun _ => rfl) sc31 in3 intE_len rfl (by decide) (by decide) zr3_1 S47 rfl fun A49 c50 w51 S52 => ?_
        obtain ⟨h58, H⟩ := needS H
        refine p_app (enc := intE) sc31 in3 rfl intE_len intE_one (by decide) S52 (k := 3) rfl (gr_sl intE_len (S52.atX (i := 0) rfl)) h58 (by simp) rfl rfl fun A56 c57 w54 S55 => ?_
        refine p_aS rfl ?_
        refine wp_nil ?_
        refine reg ?_
        refine p_add rfl rfl ?_
        refine p_mI rfl ?_
        refine wp_nil ?_
        have S59 := S55.pk [3, 4] (by decide) [0, 1, 2] rfl rfl
        exact ⟨(z_1.1 ++ ([z_1.2] : List Int), wr (z_1.2 + 1)), (A56, c57), _, rfl, ⟨rfl, rfl, rfl, trivial⟩, H, S59⟩
      · replace H := condF c48 H
        refine c_skip ?_
        refine reg ?_
        refine p_add rfl rfl ?_
        refine p_mI rfl ?_
        refine wp_nil ?_
        have S60 := S47.pk [2, 3] (by decide) [0, 1, 2] rfl rfl
        exact ⟨(z_1.1, wr (z_1.2 + 1)), (y_1.1, y_1.2), _, rfl, ⟨rfl, rfl, rfl, trivial⟩, H, S60⟩
    · replace H := condF c19 H
      refine c_exit ?_
      refine c_seq ?_
      refine reg ?_
      refine p_mS rfl ?_
      refine p_mS rfl ?_
      refine p_len rfl sc31 ?_
      refine p_mS rfl ?_
      refine p_len rfl sc31 ?_
      refine p_cut3 sc31 (gr_rd intE_len (S18.atX (i := 0) rfl)) rfl rfl rfl ?_
      refine p_aS rfl ?_
      refine p_aI rfl ?_
      refine wp_nil ?_
      obtain rfl := Option.some.inj H
      refine c_ret ?_; show bodyPostM (Fr none) 0 Tryd.prog Tryd.f31 _ .ret _ _
      refine ret_of (res2 rfl (rvT (rfl : _ = SL y_1.1 z_1.1.length z_1.1.length)) (rvT (rfl : _ = I 0))) ?_
      exact ⟨_, rfl, y_1.1, z_1.1.length, rfl, S18.keep, ⟨(rd_full (gr_rd intE_len (S18.atX (i := 0) rfl))), (New.rdc (S18.newX (i := 0) rfl))⟩, trivial⟩

def tally_with (a0 : TallyBook) (a1 : TallyCount) : Option TallyBook :=
  need (fitsL (a0.Counts.length + ([a1] : List TallyCount).length) 56) <|
  some (TallyBook.mk a0.Trips a0.Room (a0.Counts ++ ([a1] : List TallyCount)))

set_option maxRecDepth 100000 in
theorem tally_with_ok {a0 : TallyBook} {a1 : TallyCount} {A1 : Option Addr} {c2 : Nat} {w : World} {r : TallyBook} (H : tally_with a0 a1 = some r) (h3 : (rd eTallyCount 7 A1 c2 a0.Counts).ok w) : Calls Tryd.prog 78 #[AG [I a0.Trips, I a0.Room, SL A1 a0.Counts.length c2], AG [I a1.Who, I a1.From, I a1.To, I a1.Told, I a1.Unit, I a1.Under, I a1.Over]] w fun en w_ => ∃ u_, en = .returned u_ ∧ ∃ A_1 : Option Addr, ∃ c_2 : Nat, u_ = AG [I r.Trips, I r.Room, SL A_1 r.Counts.length c_2] ∧ Keep0 w w_ ∧ ((gr eTallyCount 7 33 A_1 c_2 r.Counts).ok w_ ∧ New w.heap.size (gr eTallyCount 7 33 A_1 c_2 r.Counts)) ∧ True := by
  unfold tally_with at H
  refine fn_of (n := 19) Tryd.func78 rfl rfl (Nat.le_of_ble_eq_true rfl) ?_
  have S : St w (fun _ => False) w [] [rd eTallyCount 7 A1 c2 a0.Counts] := St.start w _ _ (List.forall_mem_cons.2 ⟨h3, (fun _ h_ => (List.not_mem_nil h_).elim)⟩)
  refine c_seq ?_
  refine reg ?_
  refine p_boxA rfl S fun b4 w5 S6 => ?_
  refine p_boxA rfl S6 fun b7 w8 S9 => ?_
  refine p_allA in24 S9 fun b10 w11 S12 => ?_
  refine wp_nil ?_
  refine c_seq ?_
  refine reg_c mixed 11 [10] (by kernel_rfl) ?_
  refine kS rfl (fun _ k_ => p_fld fl24_2 rfl dn) ?_
  refine kS rfl (fun _ k_ => p_ld ty22 (Asr.stays (S12.atX (i := 2) rfl) k_) rfl rfl dn) ?_
  refine kS rfl (fun _ k_ => p_fld fl24_2 rfl dn) ?_
  refine kS rfl (fun _ k_ => p_ld ty22 (Asr.stays (S12.atX (i := 2) rfl) k_) rfl rfl dn) ?_
  refine kS rfl (fun _ k_ => p_len rfl sc22 dn) ?_
  refine kS rfl (fun _ k_ => p_fld fl24_2 rfl dn) ?_
  refine kS rfl (fun _ k_ => p_ld ty22 (Asr.stays (S12.atX (i := 2) rfl) k_) rfl rfl dn) ?_
  refine kS rfl (fun _ k_ => p_len rfl sc22 dn) ?_
  refine kS rfl (fun _ k_ => p_cut3 sc22 (Asr.stays (S12.atP (i := 0) rfl) k_) rfl rfl rfl dn) ?_
  refine kS rfl (fun _ k_ => p_ldA ty33 sz33 (Asr.stays (S12.atX (i := 1) rfl) k_) rfl rfl dn) ?_
  refine kC rfl ?_
  intro w13 k14; have S15 := S12.call k14
  have S21 := S15.base
  refine p_bsl (enc := eTallyCount) (l := ([a1] : List TallyCount)) (fun x => AG (eTallyCount x)) (fun _ => rfl) sc22 in33 eTallyCount_len rfl (by decide) (by decide) zr33_1 S21 rfl fun A16 c17 w18 S19 => ?_
  refine cN S19.keep fun w22 k23 => ?_
  have S24 := (S15.fromBase S19).call k23
  obtain ⟨h29, H⟩ := needS H
  refine p_appN (enc := eTallyCount) sc22 in33 rfl eTallyCount_len (by decide) S24 (rd_full (S24.atP (i := 0) rfl)).1 rfl (gr_sl eTallyCount_len (S24.atX (i := 0) rfl)) h29 (by simp) rfl rfl fun A27 c28 w25 S26 => ?_
  refine p_fld fl24_2 rfl ?_
  refine p_stP (pre := [I a0.Trips, I a0.Room]) (old := [SL A1 a0.Counts.length c2]) (post := []) (vs := [SL A27 (a0.Counts ++ ([a1] : List TallyCount)).length c28]) sz22 S26 (i := 4) rfl rfl rfl rfl (rfl : _ = SL A27 (a0.Counts ++ ([a1] : List TallyCount)).length c28) rfl rfl rfl rfl fun w31 S32 => ?_
  refine wp_nil ?_
  refine c_seq ?_
  refine reg ?_
  refine p_ldA ty24 sz24 (S32.atX (i := 4) rfl) rfl rfl ?_
  refine p_stP (pre := []) (old := [I 0, I 0, SL none 0 0]) (post := []) (vs := [I a0.Trips, I a0.Room, SL A27 (a0.Counts ++ ([a1] : List TallyCount)).length c28]) sz24 S32 (i := 2) rfl rfl rfl rfl (rfl : _ = AG [I a0.Trips, I a0.Room, SL A27 (a0.Counts ++ ([a1] : List TallyCount)).length c28]) rfl rfl rfl rfl fun w33 S34 => ?_
  refine wp_nil ?_
  obtain rfl := Option.some.inj H
  refine c_ret ?_; show bodyPostM (Fr none) 0 Tryd.prog Tryd.f78 _ .ret _ _
  refine ret_of (res1 rfl (rvA rfl ty24 sz24 (S34.atX (i := 2) rfl) rfl)) ?_
  exact ⟨_, rfl, A27, c28, rfl, S34.keep, ⟨S34.atX (i := 0) rfl, S34.newX (i := 0) rfl⟩, trivial⟩

def tally_Fits_j1 (a0 : TallyBook) (a1 : TallyCount) (z_1 : Unit) : Option (Bool × Int) :=
  (tally_with a0 a1).bind fun r15 =>
  (tally_nobody).bind fun r25 =>
  (tally_opened r15 (Tally_leave.mk (fun y29 y30 => tally_nobody_1 y29 y30))).bind fun r31 =>
  (tally_book_can (Tally_book.mk (TallyBook.mk r31.TallyBook.Trips r31.TallyBook.Room r15.Counts) r31.more_)).bind fun r39 =>
  some (r39, 0)

def tally_Fits (a0 : TallyBook) (a1 : TallyCount) : Option (Bool × Int) :=
  (tally_isCount a0 a1).bind fun r14 =>
  (tally_asked a0 r14).bind fun r20 =>
  bif (r20.2 != 0) then (some (false, r20.2))
  else (tally_Fits_j1 a0 a1 ())

set_option maxRecDepth 100000 in
theorem tally_Fits_ok {a0 : TallyBook} {a1 : TallyCount} {A1 : Option Addr} {c2 : Nat} {w : World} {r : Bool × Int} (H : tally_Fits a0 a1 = some r) (h3 : (rd eTallyCount 7 A1 c2 a0.Counts).ok w) (hg4 : (bl 0 [Value.func (.func 117) #[] #[], Value.func (.func 119) #[] #[]] 117).ok w) (hg5 : (bl 1 [I (-1), I (-1)] 115).ok w) : Calls Tryd.prog 36 #[AG [I a0.Trips, I a0.Room, SL A1 a0.Counts.length c2], AG [I a1.Who, I a1.From, I a1.To, I a1.Told, I a1.Unit, I a1.Under, I a1.Over]] w (RetV w (TU [B r.1, I r.2])) := by
  unfold tally_Fits at H
  refine fn_of (n := 25) Tryd.func36 rfl rfl (Nat.le_of_ble_eq_true rfl) ?_
  have S : St w (fun _ => False) w [] [rd eTallyCount 7 A1 c2 a0.Counts, bl 0 [Value.func (.func 117) #[] #[], Value.func (.func 119) #[] #[]] 117, bl 1 [I (-1), I (-1)] 115] := St.start w _ _ (List.forall_mem_cons.2 ⟨h3, (List.forall_mem_cons.2 ⟨hg4, (List.forall_mem_cons.2 ⟨hg5, (fun _ h_ => (List.not_mem_nil h_).elim)⟩)⟩)⟩)
  refine c_seq ?_
  refine reg ?_
  refine p_boxA rfl S fun b6 w7 S8 => ?_
  refine p_boxA rfl S8 fun b9 w10 S11 => ?_
  refine p_aB rfl ?_
  refine p_aI rfl ?_
  refine wp_nil ?_
  refine c_join (α := Unit) (β := Unit) (fun z_1 y_1 => [(2, P b6 0), (3, P b9 0)]) (fun z_1 y_1 w_ => tally_Fits_j1 a0 a1 z_1 = some r ∧ St w (fun _ => False) w_ [bl b9 [I a1.Who, I a1.From, I a1.To, I a1.Told, I a1.Unit, I a1.Under, I a1.Over] 33, bl b6 [I a0.Trips, I a0.Room, SL A1 a0.Counts.length c2] 24] [rd eTallyCount 7 A1 c2 a0.Counts, bl 0 [Value.func (.func 117) #[] #[], Value.func (.func 119) #[] #[]] 117, bl 1 [I (-1), I (-1)] 115]) ?_ ?_
  · refine c_seq ?_
    obtain ⟨r14, h15, H⟩ := bindS H
    obtain ⟨r20, h21, H⟩ := bindS H
    refine reg_fl mixed 9 7 (by kernel_rfl) [rv (AG [I a0.Trips, I a0.Room, SL A1 a0.Counts.length c2]), rv (AG [I a0.Trips, I a0.Room, SL A1 a0.Counts.length c2]), rv (AG [I a1.Who, I a1.From, I a1.To, I a1.Told, I a1.Unit, I a1.Under, I a1.Over]), rv (B r14), rx (α := (Option Addr) × Nat × (Option Nat)) (fun ⟨A24, c25, m26⟩ => TU [AG [I r20.1.TallyBook.Trips, I r20.1.TallyBook.Room, SL A24 r20.1.TallyBook.Counts.length c25, Value.map m26], I r20.2]) (fun ⟨A24, c25, m26⟩ lo hi => BtwL lo hi [rd eTallyCount 7 A1 c2 a0.Counts] (rd eTallyCount 7 A24 c25 r20.1.TallyBook.Counts) ∧ BtwL lo hi [] (mpo ekT iE m26 r20.1.more_) ∧ True) (fun ⟨A24, c25, m26⟩ => [rd eTallyCount 7 A24 c25 r20.1.TallyBook.Counts, mpo ekT iE m26 r20.1.more_]), dv 13 some, dv 8 (exG 0), dv 8 (exG 1), rx (α := Nat) (fun b43 => P b43 0) (fun b43 lo hi => BtwL lo hi [] (bl b43 [I 0, I 0, SL none 0 0, Value.map none] 86) ∧ True) (fun b43 => [bl b43 [I 0, I 0, SL none 0 0, Value.map none] 86])] [[], [], [], [], [], [13], [8], [8], []] rfl (by kernel_rfl) [[], [], [], [1, 2], [0, 1, 2, 3], [0, 1, 2, 3, 4], [0, 1, 2, 3, 4, 5], [0, 1, 2, 3, 4, 5], [], [0, 1, 2, 3, 4, 5, 6, 8], [0, 1, 2, 3, 4, 5, 6, 7, 8, 9]] (by kernel_rfl) ⟨?_, ?_, ?_, ?_, ?_, ?_, ?_, ?_, ?_, trivial⟩ ?_ ?_
    · intro e_ w_ k_ hf_ hR_
      have S_ : St w_ (fun _ => False) w_ [] [bl b9 [I a1.Who, I a1.From, I a1.To, I a1.Told, I a1.Unit, I a1.Under, I a1.Over] 33, bl b6 [I a0.Trips, I a0.Room, SL A1 a0.Counts.length c2] 24, rd eTallyCount 7 A1 c2 a0.Counts, bl 0 [Value.func (.func 117) #[] #[], Value.func (.func 119) #[] #[]] 117, bl 1 [I (-1), I (-1)] 115] := S11.asP k_
      refine hopE [(2, P b6 0)] ⟨((hf_ 2 rfl).trans (rfl : _ = P b6 0)), trivial⟩ ?_
      refine p_ldA ty24 sz24 (S_.atP (i := 1) rfl) rfl rfl ?_
      refine wp_nil ?_
      exact ⟨_, rfl, S_.keep, rfl⟩
    · intro e_ w_ k_ hf_ hR_
      have S_ : St w_ (fun _ => False) w_ [] [bl b9 [I a1.Who, I a1.From, I a1.To, I a1.Told, I a1.Unit, I a1.Under, I a1.Over] 33, bl b6 [I a0.Trips, I a0.Room, SL A1 a0.Counts.length c2] 24, rd eTallyCount 7 A1 c2 a0.Counts, bl 0 [Value.func (.func 117) #[] #[], Value.func (.func 119) #[] #[]] 117, bl 1 [I (-1), I (-1)] 115] := S11.asP k_
      refine hopE [(2, P b6 0)] ⟨((hf_ 2 rfl).trans (rfl : _ = P b6 0)), trivial⟩ ?_
      refine p_ldA ty24 sz24 (S_.atP (i := 1) rfl) rfl rfl ?_
      refine wp_nil ?_
      exact ⟨_, rfl, S_.keep, rfl⟩
    · intro e_ w_ k_ hf_ hR_
      have S_ : St w_ (fun _ => False) w_ [] [bl b9 [I a1.Who, I a1.From, I a1.To, I a1.Told, I a1.Unit, I a1.Under, I a1.Over] 33, bl b6 [I a0.Trips, I a0.Room, SL A1 a0.Counts.length c2] 24, rd eTallyCount 7 A1 c2 a0.Counts, bl 0 [Value.func (.func 117) #[] #[], Value.func (.func 119) #[] #[]] 117, bl 1 [I (-1), I (-1)] 115] := S11.asP k_
      refine hopE [(3, P b9 0)] ⟨((hf_ 3 rfl).trans (rfl : _ = P b9 0)), trivial⟩ ?_
      refine p_ldA ty33 sz33 (S_.atP (i := 0) rfl) rfl rfl ?_
      refine wp_nil ?_
      exact ⟨_, rfl, S_.keep, rfl⟩
    · intro e_ w_ k_ hf_ hR_
      have S_ : St w_ (fun _ => False) w_ [] [bl b9 [I a1.Who, I a1.From, I a1.To, I a1.Told, I a1.Unit, I a1.Under, I a1.Over] 33, bl b6 [I a0.Trips, I a0.Room, SL A1 a0.Counts.length c2] 24, rd eTallyCount 7 A1 c2 a0.Counts, bl 0 [Value.func (.func 117) #[] #[], Value.func (.func 119) #[] #[]] 117, bl 1 [I (-1), I (-1)] 115] := S11.asP k_
      obtain ⟨_, _, _, _, q12⟩ := hR_ 1 10 rfl (Nat.le_of_ble_eq_true rfl) rfl
      obtain ⟨_, _, _, _, q13⟩ := hR_ 2 11 rfl (Nat.le_of_ble_eq_true rfl) rfl
      refine hopE [(10, AG [I a0.Trips, I a0.Room, SL A1 a0.Counts.length c2]), (11, AG [I a1.Who, I a1.From, I a1.To, I a1.Told, I a1.Unit, I a1.Under, I a1.Over])] ⟨q12, q13, trivial⟩ ?_
      refine p_cv (tally_isCount_ok h15 (S_.atP (i := 2) rfl)) fu77 rfl S_ fun w16 S17 => ?_
      refine wp_nil ?_
      exact ⟨_, rfl, S17.keep, rfl⟩
    · intro e_ w_ k_ hf_ hR_
      have S_ : St w_ (fun _ => False) w_ [] [bl b9 [I a1.Who, I a1.From, I a1.To, I a1.Told, I a1.Unit, I a1.Under, I a1.Over] 33, bl b6 [I a0.Trips, I a0.Room, SL A1 a0.Counts.length c2] 24, rd eTallyCount 7 A1 c2 a0.Counts, bl 0 [Value.func (.func 117) #[] #[], Value.func (.func 119) #[] #[]] 117, bl 1 [I (-1), I (-1)] 115] := S11.asP k_
      obtain ⟨_, _, _, _, q18⟩ := hR_ 0 9 rfl (Nat.le_of_ble_eq_true rfl) rfl
      obtain ⟨_, _, _, _, q19⟩ := hR_ 3 12 rfl (Nat.le_of_ble_eq_true rfl) rfl
      refine hopE [(9, AG [I a0.Trips, I a0.Room, SL A1 a0.Counts.length c2]), (12, B r14)] ⟨q18, q19, trivial⟩ ?_
      refine p_cal (tally_asked_ok h21 (S_.atP (i := 2) rfl) (S_.atP (i := 3) rfl) (S_.atP (i := 4) rfl)) fu74 rfl ?_
      rintro _ w22 ⟨A24, c25, m26, rfl, k23, ⟨o27, n28⟩, ⟨o29, n30⟩, _⟩
      have S31 := S_.callN k23 [rd eTallyCount 7 A24 c25 r20.1.TallyBook.Counts, mpo ekT iE m26 r20.1.more_] (List.forall_mem_cons.2 ⟨⟨o27, Al.inL n28 ((List.forall_mem_cons.2 ⟨(fp_mem (i := 2) rfl), (fun _ h_ => (List.not_mem_nil h_).elim)⟩))⟩, (List.forall_mem_cons.2 ⟨⟨o29, New.inL n30⟩, (fun _ h_ => (List.not_mem_nil h_).elim)⟩)⟩)
      refine wp_nil ?_
      exact ⟨_, rfl, S31.keep, ⟨(A24, c25, m26), rfl, ⟨BtwL.of n28 rfl (S31.atP (i := 0) rfl) rfl, BtwL.of (New.al (New.mono n30 S_.keep.size)) rfl (S31.atP (i := 1) rfl) rfl, trivial⟩, (List.forall_mem_cons.2 ⟨(S31.atP (i := 0) rfl), (List.forall_mem_cons.2 ⟨(S31.atP (i := 1) rfl), (fun _ h_ => (List.not_mem_nil h_).elim)⟩)⟩)⟩⟩
    · intro e_ w_ k_ hf_ hR_
      have S_ : St w_ (fun _ => False) w_ [] [bl b9 [I a1.Who, I a1.From, I a1.To, I a1.Told, I a1.Unit, I a1.Under, I a1.Over] 33, bl b6 [I a0.Trips, I a0.Room, SL A1 a0.Counts.length c2] 24, rd eTallyCount 7 A1 c2 a0.Counts, bl 0 [Value.func (.func 117) #[] #[], Value.func (.func 119) #[] #[]] 117, bl 1 [I (-1), I (-1)] 115] := S11.asP k_
      obtain ⟨_, _, _, _, ⟨A24, c25, m26⟩, q32, p33, a34⟩ := hR_ 4 13 rfl (Nat.le_of_ble_eq_true rfl) rfl
      replace q32 : e_ 13 = TU [AG [I r20.1.TallyBook.Trips, I r20.1.TallyBook.Room, SL A24 r20.1.TallyBook.Counts.length c25, Value.map m26], I r20.2] := q32
      have S_ := St.addL' S_ (a34 _ (.head _)) (fun _ _ _ h_ => (List.not_mem_nil h_).elim)
      have S_ := St.addL' S_ (a34 _ (.tail _ (.head _))) (fun _ _ _ h_ => (List.not_mem_nil h_).elim)
      refine hopE [(13, TU [AG [I r20.1.TallyBook.Trips, I r20.1.TallyBook.Room, SL A24 r20.1.TallyBook.Counts.length c25, Value.map m26], I r20.2])] ⟨q32, trivial⟩ ?_
      refine p_mT rfl ?_
      refine wp_nil ?_
      exact ⟨_, rfl, S_.keep, rfl⟩
    · intro e_ w_ k_ hf_ hR_
      have S_ : St w_ (fun _ => False) w_ [] [bl b9 [I a1.Who, I a1.From, I a1.To, I a1.Told, I a1.Unit, I a1.Under, I a1.Over] 33, bl b6 [I a0.Trips, I a0.Room, SL A1 a0.Counts.length c2] 24, rd eTallyCount 7 A1 c2 a0.Counts, bl 0 [Value.func (.func 117) #[] #[], Value.func (.func 119) #[] #[]] 117, bl 1 [I (-1), I (-1)] 115] := S11.asP k_
      obtain ⟨_, _, _, _, ⟨A24, c25, m26⟩, q36, p37, a38⟩ := hR_ 4 13 rfl (Nat.le_of_ble_eq_true rfl) rfl
      replace q36 : e_ 13 = TU [AG [I r20.1.TallyBook.Trips, I r20.1.TallyBook.Room, SL A24 r20.1.TallyBook.Counts.length c25, Value.map m26], I r20.2] := q36
      have S_ := St.addL' S_ (a38 _ (.head _)) (fun _ _ _ h_ => (List.not_mem_nil h_).elim)
      have S_ := St.addL' S_ (a38 _ (.tail _ (.head _))) (fun _ _ _ h_ => (List.not_mem_nil h_).elim)
      obtain ⟨_, _, _, _, q35⟩ := hR_ 5 8 rfl (Nat.le_of_ble_eq_true rfl) rfl
      replace q35 : e_ 8 = TU [AG [I r20.1.TallyBook.Trips, I r20.1.TallyBook.Room, SL A24 r20.1.TallyBook.Counts.length c25, Value.map m26], I r20.2] := (Option.some.inj ((congrArg some q36).symm.trans q35)).symm
      refine hopE [(8, TU [AG [I r20.1.TallyBook.Trips, I r20.1.TallyBook.Room, SL A24 r20.1.TallyBook.Counts.length c25, Value.map m26], I r20.2])] ⟨q35, trivial⟩ ?_
      refine p_ext rfl rfl ?_
      refine wp_nil ?_
      exact ⟨_, rfl, S_.keep, rfl⟩
    · intro e_ w_ k_ hf_ hR_
      have S_ : St w_ (fun _ => False) w_ [] [bl b9 [I a1.Who, I a1.From, I a1.To, I a1.Told, I a1.Unit, I a1.Under, I a1.Over] 33, bl b6 [I a0.Trips, I a0.Room, SL A1 a0.Counts.length c2] 24, rd eTallyCount 7 A1 c2 a0.Counts, bl 0 [Value.func (.func 117) #[] #[], Value.func (.func 119) #[] #[]] 117, bl 1 [I (-1), I (-1)] 115] := S11.asP k_
      obtain ⟨_, _, _, _, ⟨A24, c25, m26⟩, q40, p41, a42⟩ := hR_ 4 13 rfl (Nat.le_of_ble_eq_true rfl) rfl
      replace q40 : e_ 13 = TU [AG [I r20.1.TallyBook.Trips, I r20.1.TallyBook.Room, SL A24 r20.1.TallyBook.Counts.length c25, Value.map m26], I r20.2] := q40
      have S_ := St.addL' S_ (a42 _ (.head _)) (fun _ _ _ h_ => (List.not_mem_nil h_).elim)
      have S_ := St.addL' S_ (a42 _ (.tail _ (.head _))) (fun _ _ _ h_ => (List.not_mem_nil h_).elim)
      obtain ⟨_, _, _, _, q39⟩ := hR_ 5 8 rfl (Nat.le_of_ble_eq_true rfl) rfl
      replace q39 : e_ 8 = TU [AG [I r20.1.TallyBook.Trips, I r20.1.TallyBook.Room, SL A24 r20.1.TallyBook.Counts.length c25, Value.map m26], I r20.2] := (Option.some.inj ((congrArg some q40).symm.trans q39)).symm
      refine hopE [(8, TU [AG [I r20.1.TallyBook.Trips, I r20.1.TallyBook.Room, SL A24 r20.1.TallyBook.Counts.length c25, Value.map m26], I r20.2])] ⟨q39, trivial⟩ ?_
      refine p_ext rfl rfl ?_
      refine wp_nil ?_
      exact ⟨_, rfl, S_.keep, rfl⟩
    · intro e_ w_ k_ hf_ hR_
      have S_ : St w_ (fun _ => False) w_ [] [bl b9 [I a1.Who, I a1.From, I a1.To, I a1.Told, I a1.Unit, I a1.Under, I a1.Over] 33, bl b6 [I a0.Trips, I a0.Room, SL A1 a0.Counts.length c2] 24, rd eTallyCount 7 A1 c2 a0.Counts, bl 0 [Value.func (.func 117) #[] #[], Value.func (.func 119) #[] #[]] 117, bl 1 [I (-1), I (-1)] 115] := S11.asP k_
      refine hopE [] trivial ?_
      refine p_allA in86 S_ fun b43 w44 S45 => ?_
      refine wp_nil ?_
      exact ⟨_, rfl, S45.keep, ⟨b43, rfl, ⟨BtwL.of (New.al (S45.newX (i := 0) rfl)) rfl (S45.atX (i := 0) rfl) rfl, trivial⟩, (List.forall_mem_cons.2 ⟨(S45.atX (i := 0) rfl), (fun _ h_ => (List.not_mem_nil h_).elim)⟩)⟩⟩
    · intro e46 w47 lo48 hi49 k50 hf51 hR52 hd53
      have S54 := S11.call k50
      have q55 : e46 9 = AG [I a0.Trips, I a0.Room, SL A1 a0.Counts.length c2] := (hR52 0 9 (Nat.le_of_ble_eq_true rfl) rfl).2.2.2
      have q56 : e46 10 = AG [I a0.Trips, I a0.Room, SL A1 a0.Counts.length c2] := (hR52 1 10 (Nat.le_of_ble_eq_true rfl) rfl).2.2.2
      have q57 : e46 11 = AG [I a1.Who, I a1.From, I a1.To, I a1.Told, I a1.Unit, I a1.Under, I a1.Over] := (hR52 2 11 (Nat.le_of_ble_eq_true rfl) rfl).2.2.2
      have q58 : e46 12 = B r14 := (hR52 3 12 (Nat.le_of_ble_eq_true rfl) rfl).2.2.2
      obtain ⟨h60, h61, h62, ⟨A24, c25, m26⟩, q59, h63, h64⟩ := hR52 4 13 (Nat.le_of_ble_eq_true rfl) rfl
      replace q59 : e46 13 = TU [AG [I r20.1.TallyBook.Trips, I r20.1.TallyBook.Room, SL A24 r20.1.TallyBook.Counts.length c25, Value.map m26], I r20.2] := q59
      obtain ⟨p65, p66, _⟩ := h63
      have S67 := St.addR S54 (h64 _ (.head _)) (fun b_ h_ x_ hx_ hb_ => (p65 b_ h_).elim (fun q_ => by have := x_.inb _ _ (S11.xs x_ hx_) hb_; omega) (fun ⟨q_, hq_, hqb_⟩ => S11.dp x_ hx_ q_ ((List.forall_mem_cons.2 ⟨List.mem_of_getElem? (i := 0) rfl, (fun _ h_ => (List.not_mem_nil h_).elim)⟩) q_ hq_) b_ hb_ hqb_))
      have S68 := St.addR S67 (h64 _ (.tail _ (.head _))) (fun b_ h_ x_ hx_ hb_ => (p66 b_ h_).elim (fun q_ => by have := x_.inb _ _ (S11.xs x_ hx_) hb_; omega) (fun ⟨q_, hq_, hqb_⟩ => S11.dp x_ hx_ q_ (((fun _ h_ => (List.not_mem_nil h_).elim)) q_ hq_) b_ hb_ hqb_))
      have q69 : e46 8 = TU [AG [I r20.1.TallyBook.Trips, I r20.1.TallyBook.Room, SL A24 r20.1.TallyBook.Counts.length c25, Value.map m26], I r20.2] := (Option.some.inj ((congrArg some q59).symm.trans (hR52 5 8 (Nat.le_of_ble_eq_true rfl) rfl).2.2.2)).symm
      have q70 : e46 14 = AG [I r20.1.TallyBook.Trips, I r20.1.TallyBook.Room, SL A24 r20.1.TallyBook.Counts.length c25, Value.map m26] := (Option.some.inj ((congrArg (exG 0) q69).symm.trans (hR52 6 14 (Nat.le_of_ble_eq_true rfl) rfl).2.2.2)).symm
      have q71 : e46 15 = I r20.2 := (Option.some.inj ((congrArg (exG 1) q69).symm.trans (hR52 7 15 (Nat.le_of_ble_eq_true rfl) rfl).2.2.2)).symm
      obtain ⟨h73, h74, h75, b43, q72, h76, h77⟩ := hR52 8 6 (Nat.le_of_ble_eq_true rfl) rfl
      replace q72 : e46 6 = P b43 0 := q72
      obtain ⟨p78, _⟩ := h76
      have S80 := St.addO S68 (h77 _ (.head _)) (fun b_ h_ => (p78 b_ h_).elim (fun q_ => Nat.le_trans S11.keep.size (Nat.le_trans h73 q_.1)) (fun ⟨_, hq_, _⟩ => (List.not_mem_nil hq_).elim)) (List.forall_mem_cons.2 ⟨(fun b_ h1_ h2_ => (p78 b_ h1_).elim (fun q2_ => by have q1_ := Asr.inb _ _ _ (S11.atX (i := 0) rfl) h2_; omega) (fun ⟨_, hq_, _⟩ => (List.not_mem_nil hq_).elim)), (List.forall_mem_cons.2 ⟨(fun b_ h1_ h2_ => (p78 b_ h1_).elim (fun q2_ => by have q1_ := Asr.inb _ _ _ (S11.atX (i := 1) rfl) h2_; omega) (fun ⟨_, hq_, _⟩ => (List.not_mem_nil hq_).elim)), (fun _ h_ => (List.not_mem_nil h_).elim)⟩)⟩) (List.forall_mem_cons.2 ⟨(fun b_ h1_ h2_ => (p78 b_ h1_).elim (fun q1_ => (p66 b_ h2_).elim (fun q2_ => by have q3_ := hd53 8 4 (Nat.le_of_ble_eq_true rfl) (Nat.le_of_ble_eq_true rfl) (by decide); omega) (fun ⟨q_, hq_, hqb_⟩ => by have q5_ := h73; have q4_ := Asr.inb _ _ _ (S11.ps q_ (((fun _ h_ => (List.not_mem_nil h_).elim)) q_ hq_)) hqb_; omega)) (fun ⟨_, hq_, _⟩ => (List.not_mem_nil hq_).elim)), (List.forall_mem_cons.2 ⟨(fun b_ h1_ h2_ => (p78 b_ h1_).elim (fun q1_ => (p65 b_ h2_).elim (fun q2_ => by have q3_ := hd53 8 4 (Nat.le_of_ble_eq_true rfl) (Nat.le_of_ble_eq_true rfl) (by decide); omega) (fun ⟨q_, hq_, hqb_⟩ => by have q5_ := h73; have q4_ := Asr.inb _ _ _ (S11.ps q_ ((List.forall_mem_cons.2 ⟨List.mem_of_getElem? (i := 0) rfl, (fun _ h_ => (List.not_mem_nil h_).elim)⟩) q_ hq_)) hqb_; omega)) (fun ⟨_, hq_, _⟩ => (List.not_mem_nil hq_).elim)), (List.forall_mem_cons.2 ⟨(fun b_ h1_ h2_ => (p78 b_ h1_).elim (fun q2_ => by have q1_ := Asr.inb _ _ _ (S11.atP (i := 0) rfl) h2_; omega) (fun ⟨_, hq_, _⟩ => (List.not_mem_nil hq_).elim)), (List.forall_mem_cons.2 ⟨(fun b_ h1_ h2_ => (p78 b_ h1_).elim (fun q2_ => by have q1_ := Asr.inb _ _ _ (S11.atP (i := 1) rfl) h2_; omega) (fun ⟨_, hq_, _⟩ => (List.not_mem_nil hq_).elim)), (List.forall_mem_cons.2 ⟨(fun b_ h1_ h2_ => (p78 b_ h1_).elim (fun q2_ => by have q1_ := Asr.inb _ _ _ (S11.atP (i := 2) rfl) h2_; omega) (fun ⟨_, hq_, _⟩ => (List.not_mem_nil hq_).elim)), (fun _ h_ => (List.not_mem_nil h_).elim)⟩)⟩)⟩)⟩)⟩)
      refine tailE [(2, P b6 0), (3, P b9 0), (6, P b43 0), (14, AG [I r20.1.TallyBook.Trips, I r20.1.TallyBook.Room, SL A24 r20.1.TallyBook.Counts.length c25, Value.map m26]), (15, I r20.2)] ⟨((hf51 2 rfl).trans (rfl : _ = P b6 0)), ((hf51 3 rfl).trans (rfl : _ = P b9 0)), q72, q70, q71, trivial⟩ ?_
      intro g81
      refine p_stP (pre := []) (old := [I 0, I 0, SL none 0 0, Value.map none]) (post := []) (vs := [I r20.1.TallyBook.Trips, I r20.1.TallyBook.Room, SL A24 r20.1.TallyBook.Counts.length c25, Value.map m26]) sz86 S80 (i := 0) rfl rfl rfl rfl (rfl : _ = AG [I r20.1.TallyBook.Trips, I r20.1.TallyBook.Room, SL A24 r20.1.TallyBook.Counts.length c25, Value.map m26]) rfl rfl rfl rfl fun w82 S83 => ?_
      refine p_aI rfl ?_
      refine wp_nil ?_
      refine c_seq ?_
      refine reg ?_
      refine p_mI rfl ?_
      refine p_cmp rfl rfl rfl ?_
      refine wp_nil ?_
      refine c_cond rfl (fun c84 => ?_) (fun c84 => ?_)
      · replace H := condT c84 H
        refine c_seq ?_
        refine reg ?_
        refine p_mI rfl ?_
        refine p_aB rfl ?_
        refine p_aI rfl ?_
        refine wp_nil ?_
        obtain rfl := Option.some.inj H
        refine c_ret ?_; show bodyPostM (Fr none) 0 Tryd.prog Tryd.f36 _ .ret _ _
        refine ret_of (res2 rfl (rvT (rfl : _ = B false)) (rvT (rfl : _ = I r20.2))) ?_
        exact ⟨_, rfl, rfl, S83.keep⟩
      · replace H := condF c84 H
        refine c_skip ?_
        have S85 := S83.pk [1, 2] (by decide) [2, 3, 4] rfl rfl
        exact ⟨(), (), _, rfl, ⟨rfl, rfl, trivial⟩, H, S85⟩
    · intro e86 w87 lo88 hi89 k90 hf91 hR92 hd93
      have S94 := S11.call k90
      have q95 : e86 9 = AG [I a0.Trips, I a0.Room, SL A1 a0.Counts.length c2] := (hR92 0 9 (Nat.le_of_ble_eq_true rfl) (by decide) rfl).2.2.2
      have q96 : e86 10 = AG [I a0.Trips, I a0.Room, SL A1 a0.Counts.length c2] := (hR92 1 10 (Nat.le_of_ble_eq_true rfl) (by decide) rfl).2.2.2
      have q97 : e86 11 = AG [I a1.Who, I a1.From, I a1.To, I a1.Told, I a1.Unit, I a1.Under, I a1.Over] := (hR92 2 11 (Nat.le_of_ble_eq_true rfl) (by decide) rfl).2.2.2
      have q98 : e86 12 = B r14 := (hR92 3 12 (Nat.le_of_ble_eq_true rfl) (by decide) rfl).2.2.2
      obtain ⟨h100, h101, h102, ⟨A24, c25, m26⟩, q99, h103, h104⟩ := hR92 4 13 (Nat.le_of_ble_eq_true rfl) (by decide) rfl
      replace q99 : e86 13 = TU [AG [I r20.1.TallyBook.Trips, I r20.1.TallyBook.Room, SL A24 r20.1.TallyBook.Counts.length c25, Value.map m26], I r20.2] := q99
      obtain ⟨p105, p106, _⟩ := h103
      have S107 := St.addR S94 (h104 _ (.head _)) (fun b_ h_ x_ hx_ hb_ => (p105 b_ h_).elim (fun q_ => by have := x_.inb _ _ (S11.xs x_ hx_) hb_; omega) (fun ⟨q_, hq_, hqb_⟩ => S11.dp x_ hx_ q_ ((List.forall_mem_cons.2 ⟨List.mem_of_getElem? (i := 0) rfl, (fun _ h_ => (List.not_mem_nil h_).elim)⟩) q_ hq_) b_ hb_ hqb_))
      have S108 := St.addR S107 (h104 _ (.tail _ (.head _))) (fun b_ h_ x_ hx_ hb_ => (p106 b_ h_).elim (fun q_ => by have := x_.inb _ _ (S11.xs x_ hx_) hb_; omega) (fun ⟨q_, hq_, hqb_⟩ => S11.dp x_ hx_ q_ (((fun _ h_ => (List.not_mem_nil h_).elim)) q_ hq_) b_ hb_ hqb_))
      have q109 : e86 8 = TU [AG [I r20.1.TallyBook.Trips, I r20.1.TallyBook.Room, SL A24 r20.1.TallyBook.Counts.length c25, Value.map m26], I r20.2] := (Option.some.inj ((congrArg some q99).symm.trans (hR92 5 8 (Nat.le_of_ble_eq_true rfl) (by decide) rfl).2.2.2)).symm
      have q110 : e86 14 = AG [I r20.1.TallyBook.Trips, I r20.1.TallyBook.Room, SL A24 r20.1.TallyBook.Counts.length c25, Value.map m26] := (Option.some.inj ((congrArg (exG 0) q109).symm.trans (hR92 6 14 (Nat.le_of_ble_eq_true rfl) (by decide) rfl).2.2.2)).symm
      obtain ⟨h112, h113, h114, b43, q111, h115, h116⟩ := hR92 8 6 (Nat.le_of_ble_eq_true rfl) (by decide) rfl
      replace q111 : e86 6 = P b43 0 := q111
      obtain ⟨p117, _⟩ := h115
      have S119 := St.addO S108 (h116 _ (.head _)) (fun b_ h_ => (p117 b_ h_).elim (fun q_ => Nat.le_trans S11.keep.size (Nat.le_trans h112 q_.1)) (fun ⟨_, hq_, _⟩ => (List.not_mem_nil hq_).elim)) (List.forall_mem_cons.2 ⟨(fun b_ h1_ h2_ => (p117 b_ h1_).elim (fun q2_ => by have q1_ := Asr.inb _ _ _ (S11.atX (i := 0) rfl) h2_; omega) (fun ⟨_, hq_, _⟩ => (List.not_mem_nil hq_).elim)), (List.forall_mem_cons.2 ⟨(fun b_ h1_ h2_ => (p117 b_ h1_).elim (fun q2_ => by have q1_ := Asr.inb _ _ _ (S11.atX (i := 1) rfl) h2_; omega) (fun ⟨_, hq_, _⟩ => (List.not_mem_nil hq_).elim)), (fun _ h_ => (List.not_mem_nil h_).elim)⟩)⟩) (List.forall_mem_cons.2 ⟨(fun b_ h1_ h2_ => (p117 b_ h1_).elim (fun q1_ => (p106 b_ h2_).elim (fun q2_ => by have q3_ := hd93 8 4 (Nat.le_of_ble_eq_true rfl) (Nat.le_of_ble_eq_true rfl) (by decide) (by decide) (by decide); omega) (fun ⟨q_, hq_, hqb_⟩ => by have q5_ := h112; have q4_ := Asr.inb _ _ _ (S11.ps q_ (((fun _ h_ => (List.not_mem_nil h_).elim)) q_ hq_)) hqb_; omega)) (fun ⟨_, hq_, _⟩ => (List.not_mem_nil hq_).elim)), (List.forall_mem_cons.2 ⟨(fun b_ h1_ h2_ => (p117 b_ h1_).elim (fun q1_ => (p105 b_ h2_).elim (fun q2_ => by have q3_ := hd93 8 4 (Nat.le_of_ble_eq_true rfl) (Nat.le_of_ble_eq_true rfl) (by decide) (by decide) (by decide); omega) (fun ⟨q_, hq_, hqb_⟩ => by have q5_ := h112; have q4_ := Asr.inb _ _ _ (S11.ps q_ ((List.forall_mem_cons.2 ⟨List.mem_of_getElem? (i := 0) rfl, (fun _ h_ => (List.not_mem_nil h_).elim)⟩) q_ hq_)) hqb_; omega)) (fun ⟨_, hq_, _⟩ => (List.not_mem_nil hq_).elim)), (List.forall_mem_cons.2 ⟨(fun b_ h1_ h2_ => (p117 b_ h1_).elim (fun q2_ => by have q1_ := Asr.inb _ _ _ (S11.atP (i := 0) rfl) h2_; omega) (fun ⟨_, hq_, _⟩ => (List.not_mem_nil hq_).elim)), (List.forall_mem_cons.2 ⟨(fun b_ h1_ h2_ => (p117 b_ h1_).elim (fun q2_ => by have q1_ := Asr.inb _ _ _ (S11.atP (i := 1) rfl) h2_; omega) (fun ⟨_, hq_, _⟩ => (List.not_mem_nil hq_).elim)), (List.forall_mem_cons.2 ⟨(fun b_ h1_ h2_ => (p117 b_ h1_).elim (fun q2_ => by have q1_ := Asr.inb _ _ _ (S11.atP (i := 2) rfl) h2_; omega) (fun ⟨_, hq_, _⟩ => (List.not_mem_nil hq_).elim)), (fun _ h_ => (List.not_mem_nil h_).elim)⟩)⟩)⟩)⟩)⟩)
      refine tailE [(2, P b6 0), (3, P b9 0), (6, P b43 0), (8, TU [AG [I r20.1.TallyBook.Trips, I r20.1.TallyBook.Room, SL A24 r20.1.TallyBook.Counts.length c25, Value.map m26], I r20.2]), (14, AG [I r20.1.TallyBook.Trips, I r20.1.TallyBook.Room, SL A24 r20.1.TallyBook.Counts.length c25, Value.map m26])] ⟨((hf91 2 rfl).trans (rfl : _ = P b6 0)), ((hf91 3 rfl).trans (rfl : _ = P b9 0)), q111, q109, q110, trivial⟩ ?_
      intro g120
      refine p_stP (pre := []) (old := [I 0, I 0, SL none 0 0, Value.map none]) (post := []) (vs := [I r20.1.TallyBook.Trips, I r20.1.TallyBook.Room, SL A24 r20.1.TallyBook.Counts.length c25, Value.map m26]) sz86 S119 (i := 0) rfl rfl rfl rfl (rfl : _ = AG [I r20.1.TallyBook.Trips, I r20.1.TallyBook.Room, SL A24 r20.1.TallyBook.Counts.length c25, Value.map m26]) rfl rfl rfl rfl fun w121 S122 => ?_
      refine p_ext rfl rfl ?_
      refine p_aI rfl ?_
      refine wp_nil ?_
      refine c_seq ?_
      refine reg ?_
      refine p_mI rfl ?_
      refine p_cmp rfl rfl rfl ?_
      refine wp_nil ?_
      refine c_cond rfl (fun c123 => ?_) (fun c123 => ?_)
      · replace H := condT c123 H
        refine c_seq ?_
        refine reg ?_
        refine p_mI rfl ?_
        refine p_aB rfl ?_
        refine p_aI rfl ?_
        refine wp_nil ?_
        obtain rfl := Option.some.inj H
        refine c_ret ?_; show bodyPostM (Fr none) 0 Tryd.prog Tryd.f36 _ .ret _ _
        refine ret_of (res2 rfl (rvT (rfl : _ = B false)) (rvT (rfl : _ = I r20.2))) ?_
        exact ⟨_, rfl, rfl, S122.keep⟩
      · replace H := condF c123 H
        refine c_skip ?_
        have S124 := S122.pk [1, 2] (by decide) [2, 3, 4] rfl rfl
        exact ⟨(), (), _, rfl, ⟨rfl, rfl, trivial⟩, H, S124⟩
  · intro z_1 y_1 e12 w13 S14; obtain ⟨H, S14⟩ := S14
    unfold tally_Fits_j1 at H
    refine c_seq ?_
    refine reg ?_
    refine p_ldA ty24 sz24 (S14.atX (i := 1) rfl) rfl rfl ?_
    refine p_ldA ty33 sz33 (S14.atX (i := 0) rfl) rfl rfl ?_
    obtain ⟨r15, h16, H⟩ := bindS H
    refine p_cal (tally_with_ok h16 (S14.atP (i := 0) rfl)) fu78 rfl ?_
    rintro _ w17 ⟨A19, c20, rfl, k18, ⟨o21, n22⟩, _⟩
    have S24 := S14.addNew k18 o21 n22
    obtain ⟨r25, h26, H⟩ := bindS H
    refine p_cv (tally_nobody_ok h26) fu67 rfl S24 fun w27 S28 => ?_
    obtain ⟨r31, h32, H⟩ := bindS H
    refine p_cal (tally_opened_ok h32 (gr_rd eTallyCount_len (S28.atX (i := 0) rfl)) (by kernel_rfl) (fun _ _ _ _ k_ hr_ => tally_nobody_1_ok hr_) (S28.atP (i := 1) rfl)) fu66 rfl ?_
    rintro _ w33 ⟨m35, rfl, k34, ⟨o36, n37⟩, _⟩
    have S38 := S28.addNew k34 o36 n37
    obtain ⟨r39, h40, H⟩ := bindS H
    refine p_cv (tally_book_can_ok h40 (gr_rd eTallyCount_len (S38.atX (i := 1) rfl)) (mpo_some (S38.atX (i := 0) rfl)) (S38.atP (i := 2) rfl)) fu68 rfl S38 fun w41 S42 => ?_
    refine p_aB rfl ?_
    refine p_aI rfl ?_
    refine wp_nil ?_
    obtain rfl := Option.some.inj H
    refine c_ret ?_; show bodyPostM (Fr none) 0 Tryd.prog Tryd.f36 _ .ret _ _
    refine ret_of (res2 rfl (rvT (rfl : _ = B r39)) (rvT (rfl : _ = I 0))) ?_
    exact ⟨_, rfl, rfl, S42.keep⟩

def law_count (a0 : Int) (a1 : Int) (a2 : Int) (a3 : Int) (a4 : Int) (a5 : Int) (a6 : Int) : Option TallyCount :=
  some (TallyCount.mk a0 a1 a2 a3 a4 a5 a6)

set_option maxRecDepth 100000 in
theorem law_count_ok {a0 : Int} {a1 : Int} {a2 : Int} {a3 : Int} {a4 : Int} {a5 : Int} {a6 : Int} {w : World} {r : TallyCount} (H : law_count a0 a1 a2 a3 a4 a5 a6 = some r) : Calls Tryd.prog 37 #[I a0, I a1, I a2, I a3, I a4, I a5, I a6] w (RetV w (AG [I r.Who, I r.From, I r.To, I r.Told, I r.Unit, I r.Under, I r.Over])) := by
  unfold law_count at H
  refine fn_of (n := 23) Tryd.func37 rfl rfl (Nat.le_of_ble_eq_true rfl) ?_
  have S : St w (fun _ => False) w [] [] := St.start w _ _ (fun _ h_ => (List.not_mem_nil h_).elim)
  refine c_seq ?_
  refine reg ?_
  refine p_allA in33 S fun b1 w2 S3 => ?_
  refine wp_nil ?_
  refine c_seq ?_
  refine reg ?_
  refine p_mI rfl ?_
  refine p_mI rfl ?_
  refine p_mI rfl ?_
  refine p_mI rfl ?_
  refine p_mI rfl ?_
  refine p_mI rfl ?_
  refine p_mI rfl ?_
  refine p_bld (cs := [I a0, I a1, I a2, I a3, I a4, I a5, I a6]) st33 (rfl : _ = [(0, I a0), (1, I a1), (2, I a2), (3, I a3), (4, I a4), (5, I a5), (6, I a6)]) (by kernel_rfl) ?_
  refine p_stP (pre := []) (old := [I 0, I 0, I 0, I 0, I 0, I 0, I 0]) (post := []) (vs := [I a0, I a1, I a2, I a3, I a4, I a5, I a6]) sz33 S3 (i := 0) rfl rfl rfl rfl (rfl : _ = AG [I a0, I a1, I a2, I a3, I a4, I a5, I a6]) rfl rfl rfl rfl fun w4 S5 => ?_
  refine wp_nil ?_
  obtain rfl := Option.some.inj H
  refine c_ret ?_; show bodyPostM (Fr none) 0 Tryd.prog Tryd.f37 _ .ret _ _
  refine ret_of (res1 rfl (rvA rfl ty33 sz33 (S5.atX (i := 0) rfl) rfl)) ?_
  exact ⟨_, rfl, rfl, S5.keep⟩

def tally_Again_j6 (rec_z_1 : (Int × Int × Int) → Option (Int × Int)) (z_1 : Int × Int × Int) (z_2 : Int × Int) (z_3 : Bool) : Option (Int × Int) :=
  bif z_3 then (rec_z_1 (z_1.2.2, z_2.1, wr (z_1.2.2 + 1)))
  else (rec_z_1 (z_1.1, z_1.2.1, wr (z_1.2.2 + 1)))

def tally_Again_l7 (r42 : Span) (a0 : TallyBook) (z_1 : Int × Int × Int) (rec_z_1 : (Int × Int × Int) → Option (Int × Int)) (rec_z_2 : (Int × Int) → Option (Int × Int)) (z_2 : Int × Int) : Option (Int × Int) :=
  bif decide (z_2.2 < (wr ((wr (r42.High - r42.Low)) + 1))) then ((tally_with a0 (TallyCount.mk 2 z_1.2.2 z_1.2.2 (wr (r42.Low + z_2.2)) 1 0 0)).bind fun r63 =>
  (tally_nobody).bind fun r73 =>
  (tally_opened r63 (Tally_leave.mk (fun y81 y82 => tally_nobody_1 y81 y82))).bind fun r83 =>
  (tally_book_many (Tally_book.mk (TallyBook.mk r83.TallyBook.Trips r83.TallyBook.Room r63.Counts) r83.more_) 0 a0.Trips).bind fun r98 =>
  rec_z_2 ((if (wr (r98.High - r98.Low)) > z_2.1 then (wr (r98.High - r98.Low)) else z_2.1), wr (z_2.2 + 1)))
  else (bif decide (z_1.1 < 0) then (tally_Again_j6 rec_z_1 z_1 z_2 true)
  else (tally_Again_j6 rec_z_1 z_1 z_2 (decide (z_2.1 < z_1.2.1))))

def tally_Again_l8 (a0 : TallyBook) (r9 : Tally_book × Int) (rec_z_1 : (Int × Int × Int) → Option (Int × Int)) (z_1 : Int × Int × Int) : Option (Int × Int) :=
  bif decide (z_1.2.2 < a0.Trips) then ((tally_book_many r9.1 z_1.2.2 (wr (z_1.2.2 + 1))).bind fun r42 =>
  loopF (tally_Again_l7 r42 a0 z_1 rec_z_1) big (0, 0))
  else (some (z_1.1, 0))

def tally_Again (a0 : TallyBook) : Option (Int × Int) :=
  (tally_asked a0 true).bind fun r9 =>
  bif (r9.2 != 0) then (some (0, r9.2))
  else ((tally_book_many r9.1 0 a0.Trips).bind fun r27 =>
  bif (r27.Low == r27.High) then (some (0, 4))
  else (loopF (tally_Again_l8 a0 r9) big ((-1), 0, 0)))

set_option maxRecDepth 100000 in
theorem tally_Again_ok {a0 : TallyBook} {A1 : Option Addr} {c2 : Nat} {w : World} {r : Int × Int} (H : tally_Again a0 = some r) (h3 : (rd eTallyCount 7 A1 c2 a0.Counts).ok w) (hg4 : (bl 0 [Value.func (.func 117) #[] #[], Value.func (.func 119) #[] #[]] 117).ok w) (hg5 : (bl 1 [I (-1), I (-1)] 115).ok w) : Calls Tryd.prog 50 #[AG [I a0.Trips, I a0.Room, SL A1 a0.Counts.length c2]] w (RetV w (TU [I r.1, I r.2])) := by
  unfold tally_Again at H
  refine fn_of (n := 85) Tryd.func50 rfl rfl (Nat.le_of_ble_eq_true rfl) ?_
  have S : St w (fun _ => False) w [] [rd eTallyCount 7 A1 c2 a0.Counts, bl 0 [Value.func (.func 117) #[] #[], Value.func (.func 119) #[] #[]] 117, bl 1 [I (-1), I (-1)] 115] := St.start w _ _ (List.forall_mem_cons.2 ⟨h3, (List.forall_mem_cons.2 ⟨hg4, (List.forall_mem_cons.2 ⟨hg5, (fun _ h_ => (List.not_mem_nil h_).elim)⟩)⟩)⟩)
  refine c_seq ?_
  refine reg ?_
  refine p_boxA rfl S fun b6 w7 S8 => ?_
  refine p_aI rfl ?_
  refine p_aI rfl ?_
  refine wp_nil ?_
  refine c_seq ?_
  refine reg ?_
  refine p_ldA ty24 sz24 (S8.atX (i := 0) rfl) rfl rfl ?_
  obtain ⟨r9, h10, H⟩ := bindS H
  refine p_cal (tally_asked_ok h10 (S8.atP (i := 0) rfl) (S8.atP (i := 1) rfl) (S8.atP (i := 2) rfl)) fu74 rfl ?_
  rintro _ w11 ⟨A13, c14, m15, rfl, k12, ⟨o16, n17⟩, ⟨o18, n19⟩, _⟩
  have S20 := S8.callN k12 [rd eTallyCount 7 A13 c14 r9.1.TallyBook.Counts, mpo ekT iE m15 r9.1.more_] (List.forall_mem_cons.2 ⟨⟨o16, Al.inL n17 ((List.forall_mem_cons.2 ⟨(fp_mem (i := 0) rfl), (fun _ h_ => (List.not_mem_nil h_).elim)⟩))⟩, (List.forall_mem_cons.2 ⟨⟨o18, New.inL n19⟩, (fun _ h_ => (List.not_mem_nil h_).elim)⟩)⟩)
  refine p_mT rfl ?_
  refine p_ext rfl rfl ?_
  refine p_ext rfl rfl ?_
  refine p_allA in86 S20 fun b21 w22 S23 => ?_
  refine p_stP (pre := []) (old := [I 0, I 0, SL none 0 0, Value.map none]) (post := []) (vs := [I r9.1.TallyBook.Trips, I r9.1.TallyBook.Room, SL A13 r9.1.TallyBook.Counts.length c14, Value.map m15]) sz86 S23 (i := 0) rfl rfl rfl rfl (rfl : _ = AG [I r9.1.TallyBook.Trips, I r9.1.TallyBook.Room, SL A13 r9.1.TallyBook.Counts.length c14, Value.map m15]) rfl rfl rfl rfl fun w24 S25 => ?_
  refine p_aI rfl ?_
  refine wp_nil ?_
  refine c_seq ?_
  refine c_seq ?_
  refine reg ?_
  refine p_mI rfl ?_
  refine p_cmp rfl rfl rfl ?_
  refine wp_nil ?_
  refine c_cond rfl (fun c26 => ?_) (fun c26 => ?_)
  · replace H := condT c26 H
    refine c_seq ?_
    refine reg ?_
    refine p_mI rfl ?_
    refine p_aI rfl ?_
    refine p_aI rfl ?_
    refine wp_nil ?_
    obtain rfl := Option.some.inj H
    refine c_ret ?_; show bodyPostM (Fr none) 0 Tryd.prog Tryd.f50 _ .ret _ _
    refine ret_of (res2 rfl (rvT (rfl : _ = I 0)) (rvT (rfl : _ = I r9.2))) ?_
    exact ⟨_, rfl, rfl, S25.keep⟩
  · replace H := condF c26 H
    refine c_skip ?_
    refine c_seq ?_
    refine c_seq ?_
    refine reg ?_
    refine p_ldA ty86 sz86 (S25.atX (i := 0) rfl) rfl rfl ?_
    refine p_fld fl24_0 rfl ?_
    refine p_ld ty3 (S25.atX (i := 1) rfl) rfl rfl ?_
    obtain ⟨r27, h28, H⟩ := bindS H
    refine p_cv (tally_book_many_ok h28 (S25.atP (i := 0) rfl) (S25.atP (i := 1) rfl) (S25.atP (i := 4) rfl)) fu76 rfl S25 fun w29 S30 => ?_
    refine p_allA in49 S30 fun b31 w32 S33 => ?_
    refine p_stP (pre := []) (old := [I 0, I 0]) (post := []) (vs := [I r27.Low, I r27.High]) sz49 S33 (i := 0) rfl rfl rfl rfl (rfl : _ = AG [I r27.Low, I r27.High]) rfl rfl rfl rfl fun w34 S35 => ?_
    refine wp_nil ?_
    refine c_seq ?_
    refine reg ?_
    refine p_fld fl49_0 rfl ?_
    refine p_ld ty3 (S35.atX (i := 0) rfl) rfl rfl ?_
    refine p_fld fl49_1 rfl ?_
    refine p_ld ty3 (S35.atX (i := 0) rfl) rfl rfl ?_
    refine p_cmp rfl rfl rfl ?_
    refine wp_nil ?_
    refine c_cond rfl (fun c36 => ?_) (fun c36 => ?_)
    · replace H := condT c36 H
      refine c_seq ?_
      refine reg ?_
      refine p_aI rfl ?_
      refine p_aI rfl ?_
      refine wp_nil ?_
      obtain rfl := Option.some.inj H
      refine c_ret ?_; show bodyPostM (Fr none) 0 Tryd.prog Tryd.f50 _ .ret _ _
      refine ret_of (res2 rfl (rvT (rfl : _ = I 0)) (rvT (rfl : _ = I 4))) ?_
      exact ⟨_, rfl, rfl, S35.keep⟩
    · replace H := condF c36 H
      refine c_skip ?_
      refine c_seq ?_
      refine reg ?_
      refine p_aI rfl ?_
      refine p_aI rfl ?_
      refine wp_nil ?_
      refine c_seq ?_
      refine c_seq ?_
      refine reg ?_
      refine p_fld fl24_0 rfl ?_
      refine p_ld ty3 (S35.atX (i := 2) rfl) rfl rfl ?_
      refine p_mI rfl ?_
      refine wp_nil ?_
      refine c_block ?_
      refine c_lop (α := Int × Int × Int) (β := Unit) (tally_Again_l8 a0 r9) (fun z_1 y_1 => [(1, P b6 0), (4, P b21 0), (7, I z_1.1), (8, I z_1.2.1), (33, I a0.Trips), (34, I z_1.2.2)]) (fun z_1 y_1 w_ => St w (fun _ => False) w_ [bl b31 [I r27.Low, I r27.High] 49, bl b21 [I r9.1.TallyBook.Trips, I r9.1.TallyBook.Room, SL A13 r9.1.TallyBook.Counts.length c14, Value.map m15] 86, bl b6 [I a0.Trips, I a0.Room, SL A1 a0.Counts.length c2] 24] [rd eTallyCount 7 A13 c14 r9.1.TallyBook.Counts, mpo ekT iE m15 r9.1.more_, rd eTallyCount 7 A1 c2 a0.Counts, bl 0 [Value.func (.func 117) #[] #[], Value.func (.func 119) #[] #[]] 117, bl 1 [I (-1), I (-1)] 115]) ((-1), 0, 0) () H ⟨rfl, rfl, rfl, rfl, rfl, rfl, trivial⟩ S35 ?_
      intro m37 z_1 y_1 e38 w39 H S40
      unfold tally_Again_l8 at H
      refine c_seq ?_
      refine reg ?_
      refine p_cmp rfl rfl rfl ?_
      refine wp_nil ?_
      refine c_seq ?_
      refine c_cond rfl (fun c41 => ?_) (fun c41 => ?_)
      · replace H := condT c41 H
        refine c_skip ?_
        refine c_seq ?_
        refine c_block ?_
        refine c_seq ?_
        refine reg ?_
        refine p_mI rfl ?_
        refine p_aI rfl ?_
        refine wp_nil ?_
        refine c_seq ?_
        refine reg ?_
        refine p_ldA ty86 sz86 (S40.atX (i := 1) rfl) rfl rfl ?_
        refine p_mI rfl ?_
        refine p_mI rfl ?_
        refine p_add rfl rfl ?_
        obtain ⟨r42, h43, H⟩ := bindS H
        refine p_cv (tally_book_many_ok h43 (S40.atP (i := 0) rfl) (S40.atP (i := 1) rfl) (S40.atP (i := 4) rfl)) fu76 rfl S40 fun w44 S45 => ?_
        refine p_allA in49 S45 fun b46 w47 S48 => ?_
        refine p_stP (pre := []) (old := [I 0, I 0]) (post := []) (vs := [I r42.Low, I r42.High]) sz49 S48 (i := 0) rfl rfl rfl rfl (rfl : _ = AG [I r42.Low, I r42.High]) rfl rfl rfl rfl fun w49 S50 => ?_
        refine p_aI rfl ?_
        refine wp_nil ?_
        refine c_seq ?_
        refine c_seq ?_
        refine reg ?_
        refine p_fld fl49_1 rfl ?_
        refine p_ld ty3 (S50.atX (i := 0) rfl) rfl rfl ?_
        refine p_fld fl49_0 rfl ?_
        refine p_ld ty3 (S50.atX (i := 0) rfl) rfl rfl ?_
        refine p_sub rfl rfl ?_
        refine p_add rfl rfl ?_
        refine p_mI rfl ?_
        refine wp_nil ?_
        refine c_block ?_
        refine c_lop (α := Int × Int) (β := Unit) (tally_Again_l7 r42 a0 z_1 (loopF (tally_Again_l8 a0 r9) m37)) (fun z_2 y_2 => [(1, P b6 0), (4, P b21 0), (7, I z_1.1), (8, I z_1.2.1), (9, I z_1.2.2), (10, P b46 0), (11, I z_2.1), (33, I a0.Trips), (34, I z_1.2.2), (47, I (wr ((wr (r42.High - r42.Low)) + 1))), (48, I z_2.2)]) (fun z_2 y_2 w_ => St w (fun _ => False) w_ [bl b46 [I r42.Low, I r42.High] 49, bl b31 [I r27.Low, I r27.High] 49, bl b21 [I r9.1.TallyBook.Trips, I r9.1.TallyBook.Room, SL A13 r9.1.TallyBook.Counts.length c14, Value.map m15] 86, bl b6 [I a0.Trips, I a0.Room, SL A1 a0.Counts.length c2] 24] [rd eTallyCount 7 A13 c14 r9.1.TallyBook.Counts, mpo ekT iE m15 r9.1.more_, rd eTallyCount 7 A1 c2 a0.Counts, bl 0 [Value.func (.func 117) #[] #[], Value.func (.func 119) #[] #[]] 117, bl 1 [I (-1), I (-1)] 115]) (0, 0) () H ⟨rfl, rfl, rfl, rfl, rfl, rfl, rfl, rfl, rfl, rfl, rfl, trivial⟩ S50 ?_
        intro m51 z_2 y_2 e52 w53 H S54
        unfold tally_Again_l7 at H
        refine c_seq ?_
        refine reg ?_
        refine p_cmp rfl rfl rfl ?_
        refine wp_nil ?_
        refine c_seq ?_
        refine c_cond rfl (fun c55 => ?_) (fun c55 => ?_)
        · replace H := condT c55 H
          refine c_skip ?_
          refine c_seq ?_
          refine c_block ?_
          refine c_seq ?_
          refine reg ?_
          refine p_mI rfl ?_
          refine p_aI rfl ?_
          refine wp_nil ?_
          refine c_seq ?_
          refine reg ?_
          refine p_mI rfl ?_
          refine p_mI rfl ?_
          refine p_fld fl49_0 rfl ?_
          refine p_ld ty3 (S54.atX (i := 0) rfl) rfl rfl ?_
          refine p_mI rfl ?_
          refine p_add rfl rfl ?_
          refine p_bld (cs := [I 2, I z_1.2.2, I z_1.2.2, I (wr (r42.Low + z_2.2)), I 1, I 0, I 0]) st33 (rfl : _ = [(0, I 2), (1, I z_1.2.2), (2, I z_1.2.2), (3, I (wr (r42.Low + z_2.2))), (4, I 1)]) (by kernel_rfl) ?_
          refine p_allA in33 S54 fun b56 w57 S58 => ?_
          refine p_stP (pre := []) (old := [I 0, I 0, I 0, I 0, I 0, I 0, I 0]) (post := []) (vs := [I 2, I z_1.2.2, I z_1.2.2, I (wr (r42.Low + z_2.2)), I 1, I 0, I 0]) sz33 S58 (i := 0) rfl rfl rfl rfl (rfl : _ = AG [I 2, I z_1.2.2, I z_1.2.2, I (wr (r42.Low + z_2.2)), I 1, I 0, I 0]) rfl rfl rfl rfl fun w59 S60 => ?_
          refine wp_nil ?_
          refine c_seq ?_
          obtain ⟨r63, h64, H⟩ := bindS H
          obtain ⟨r73, h74, H⟩ := bindS H
          obtain ⟨r83, h84, H⟩ := bindS H
          obtain ⟨r98, h99, H⟩ := bindS H
          refine reg_any mixed 9 (by kernel_rfl) [rv (AG [I a0.Trips, I a0.Room, SL A1 a0.Counts.length c2]), rv (AG [I 2, I z_1.2.2, I z_1.2.2, I (wr (r42.Low + z_2.2)), I 1, I 0, I 0]), rx (α := (Option Addr) × Nat) (fun ⟨A67, c68⟩ => AG [I r63.Trips, I r63.Room, SL A67 r63.Counts.length c68]) (fun ⟨A67, c68⟩ lo hi => BtwL lo hi [] (gr eTallyCount 7 33 A67 c68 r63.Counts) ∧ True) (fun ⟨A67, c68⟩ => [gr eTallyCount 7 33 A67 c68 r63.Counts]), rv (AG [Value.func (.func 91) #[] #[]]), rx (α := (Option Addr) × Nat × Nat) (fun ⟨A91, c92, m87⟩ => AG [I r83.TallyBook.Trips, I r83.TallyBook.Room, SL A91 r63.Counts.length c92, Value.map (some m87)]) (fun ⟨A91, c92, m87⟩ lo hi => BtwL lo hi [] (mp ekT iE m87 r83.more_) ∧ True) (fun ⟨A91, c92, m87⟩ => [mp ekT iE m87 r83.more_, gr eTallyCount 7 33 A91 c92 r63.Counts]), rv (P b6 0), rv (I a0.Trips), rv (AG [I r98.Low, I r98.High]), rx (α := Nat) (fun b102 => P b102 0) (fun b102 lo hi => BtwL lo hi [] (bl b102 [I 0, I 0] 49) ∧ True) (fun b102 => [bl b102 [I 0, I 0] 49])] [[], [], [], [], [], [], [], [], []] rfl (by kernel_rfl) [[], [], [0, 1], [0, 1, 2], [0, 1, 2, 3], [], [5], [0, 1, 2, 3, 4, 5, 6], [], [0, 1, 2, 3, 4, 5, 6, 7, 8]] (by kernel_rfl) ⟨?_, ?_, ?_, ?_, ?_, ?_, ?_, ?_, ?_, trivial⟩ ?_
          · intro e_ w_ k_ hf_ hR_
            have S_ : St w_ (fun _ => False) w_ [] [bl b56 [I 2, I z_1.2.2, I z_1.2.2, I (wr (r42.Low + z_2.2)), I 1, I 0, I 0] 33, bl b46 [I r42.Low, I r42.High] 49, bl b31 [I r27.Low, I r27.High] 49, bl b21 [I r9.1.TallyBook.Trips, I r9.1.TallyBook.Room, SL A13 r9.1.TallyBook.Counts.length c14, Value.map m15] 86, bl b6 [I a0.Trips, I a0.Room, SL A1 a0.Counts.length c2] 24, rd eTallyCount 7 A13 c14 r9.1.TallyBook.Counts, mpo ekT iE m15 r9.1.more_, rd eTallyCount 7 A1 c2 a0.Counts, bl 0 [Value.func (.func 117) #[] #[], Value.func (.func 119) #[] #[]] 117, bl 1 [I (-1), I (-1)] 115] := S60.asP k_
            refine hopE [(1, P b6 0)] ⟨((hf_ 1 rfl).trans (rfl : _ = P b6 0)), trivial⟩ ?_
            refine p_ldA ty24 sz24 (S_.atP (i := 4) rfl) rfl rfl ?_
            refine wp_nil ?_
            exact ⟨_, rfl, S_.keep, rfl⟩
          · intro e_ w_ k_ hf_ hR_
            have S_ : St w_ (fun _ => False) w_ [] [bl b56 [I 2, I z_1.2.2, I z_1.2.2, I (wr (r42.Low + z_2.2)), I 1, I 0, I 0] 33, bl b46 [I r42.Low, I r42.High] 49, bl b31 [I r27.Low, I r27.High] 49, bl b21 [I r9.1.TallyBook.Trips, I r9.1.TallyBook.Room, SL A13 r9.1.TallyBook.Counts.length c14, Value.map m15] 86, bl b6 [I a0.Trips, I a0.Room, SL A1 a0.Counts.length c2] 24, rd eTallyCount 7 A13 c14 r9.1.TallyBook.Counts, mpo ekT iE m15 r9.1.more_, rd eTallyCount 7 A1 c2 a0.Counts, bl 0 [Value.func (.func 117) #[] #[], Value.func (.func 119) #[] #[]] 117, bl 1 [I (-1), I (-1)] 115] := S60.asP k_
            refine hopE [(13, P b56 0)] ⟨((hf_ 13 rfl).trans (rfl : _ = P b56 0)), trivial⟩ ?_
            refine p_ldA ty33 sz33 (S_.atP (i := 0) rfl) rfl rfl ?_
            refine wp_nil ?_
            exact ⟨_, rfl, S_.keep, rfl⟩
          · intro e_ w_ k_ hf_ hR_
            have S_ : St w_ (fun _ => False) w_ [] [bl b56 [I 2, I z_1.2.2, I z_1.2.2, I (wr (r42.Low + z_2.2)), I 1, I 0, I 0] 33, bl b46 [I r42.Low, I r42.High] 49, bl b31 [I r27.Low, I r27.High] 49, bl b21 [I r9.1.TallyBook.Trips, I r9.1.TallyBook.Room, SL A13 r9.1.TallyBook.Counts.length c14, Value.map m15] 86, bl b6 [I a0.Trips, I a0.Room, SL A1 a0.Counts.length c2] 24, rd eTallyCount 7 A13 c14 r9.1.TallyBook.Counts, mpo ekT iE m15 r9.1.more_, rd eTallyCount 7 A1 c2 a0.Counts, bl 0 [Value.func (.func 117) #[] #[], Value.func (.func 119) #[] #[]] 117, bl 1 [I (-1), I (-1)] 115] := S60.asP k_
            obtain ⟨_, _, _, _, q61⟩ := hR_ 0 58 rfl (Nat.le_of_ble_eq_true rfl) rfl
            obtain ⟨_, _, _, _, q62⟩ := hR_ 1 59 rfl (Nat.le_of_ble_eq_true rfl) rfl
            refine hopE [(58, AG [I a0.Trips, I a0.Room, SL A1 a0.Counts.length c2]), (59, AG [I 2, I z_1.2.2, I z_1.2.2, I (wr (r42.Low + z_2.2)), I 1, I 0, I 0])] ⟨q61, q62, trivial⟩ ?_
            refine p_cal (tally_with_ok h64 (S_.atP (i := 7) rfl)) fu78 rfl ?_
            rintro _ w65 ⟨A67, c68, rfl, k66, ⟨o69, n70⟩, _⟩
            have S72 := S_.addNew k66 o69 n70
            refine wp_nil ?_
            exact ⟨_, rfl, S72.keep, ⟨(A67, c68), rfl, ⟨BtwL.of (New.al (S72.newX (i := 0) rfl)) rfl (S72.atX (i := 0) rfl) rfl, trivial⟩, (List.forall_mem_cons.2 ⟨(S72.atX (i := 0) rfl), (fun _ h_ => (List.not_mem_nil h_).elim)⟩)⟩⟩
          · intro e_ w_ k_ hf_ hR_
            have S_ : St w_ (fun _ => False) w_ [] [bl b56 [I 2, I z_1.2.2, I z_1.2.2, I (wr (r42.Low + z_2.2)), I 1, I 0, I 0] 33, bl b46 [I r42.Low, I r42.High] 49, bl b31 [I r27.Low, I r27.High] 49, bl b21 [I r9.1.TallyBook.Trips, I r9.1.TallyBook.Room, SL A13 r9.1.TallyBook.Counts.length c14, Value.map m15] 86, bl b6 [I a0.Trips, I a0.Room, SL A1 a0.Counts.length c2] 24, rd eTallyCount 7 A13 c14 r9.1.TallyBook.Counts, mpo ekT iE m15 r9.1.more_, rd eTallyCount 7 A1 c2 a0.Counts, bl 0 [Value.func (.func 117) #[] #[], Value.func (.func 119) #[] #[]] 117, bl 1 [I (-1), I (-1)] 115] := S60.asP k_
            refine hopE [] trivial ?_
            refine p_cv (tally_nobody_ok h74) fu67 rfl S_ fun w75 S76 => ?_
            refine wp_nil ?_
            exact ⟨_, rfl, S76.keep, rfl⟩
          · intro e_ w_ k_ hf_ hR_
            have S_ : St w_ (fun _ => False) w_ [] [bl b56 [I 2, I z_1.2.2, I z_1.2.2, I (wr (r42.Low + z_2.2)), I 1, I 0, I 0] 33, bl b46 [I r42.Low, I r42.High] 49, bl b31 [I r27.Low, I r27.High] 49, bl b21 [I r9.1.TallyBook.Trips, I r9.1.TallyBook.Room, SL A13 r9.1.TallyBook.Counts.length c14, Value.map m15] 86, bl b6 [I a0.Trips, I a0.Room, SL A1 a0.Counts.length c2] 24, rd eTallyCount 7 A13 c14 r9.1.TallyBook.Counts, mpo ekT iE m15 r9.1.more_, rd eTallyCount 7 A1 c2 a0.Counts, bl 0 [Value.func (.func 117) #[] #[], Value.func (.func 119) #[] #[]] 117, bl 1 [I (-1), I (-1)] 115] := S60.asP k_
            obtain ⟨_, _, _, _, ⟨A67, c68⟩, q77, p78, a79⟩ := hR_ 2 60 rfl (Nat.le_of_ble_eq_true rfl) rfl
            replace q77 : e_ 60 = AG [I r63.Trips, I r63.Room, SL A67 r63.Counts.length c68] := q77
            have S_ := St.addL' S_ (a79 _ (.head _)) (fun _ _ _ h_ => (List.not_mem_nil h_).elim)
            obtain ⟨_, _, _, _, q80⟩ := hR_ 3 61 rfl (Nat.le_of_ble_eq_true rfl) rfl
            refine hopE [(60, AG [I r63.Trips, I r63.Room, SL A67 r63.Counts.length c68]), (61, AG [Value.func (.func 91) #[] #[]])] ⟨q77, q80, trivial⟩ ?_
            refine p_cal (tally_opened_ok h84 (gr_rd eTallyCount_len (S_.atP (i := 0) rfl)) (by kernel_rfl) (fun _ _ _ _ k_ hr_ => tally_nobody_1_ok hr_) (S_.atP (i := 9) rfl)) fu66 rfl ?_
            rintro _ w85 ⟨m87, rfl, k86, ⟨o88, n89⟩, _⟩
            have S90 := S_.addNew k86 o88 n89
            refine wp_nil ?_
            exact ⟨_, rfl, S90.keep, ⟨(A67, c68, m87), rfl, ⟨BtwL.of (New.al (S90.newX (i := 0) rfl)) rfl (S90.atX (i := 0) rfl) rfl, trivial⟩, (List.forall_mem_cons.2 ⟨(S90.atX (i := 0) rfl), (List.forall_mem_cons.2 ⟨(S90.atP (i := 0) rfl), (fun _ h_ => (List.not_mem_nil h_).elim)⟩)⟩)⟩⟩
          · intro e_ w_ k_ hf_ hR_
            have S_ : St w_ (fun _ => False) w_ [] [bl b56 [I 2, I z_1.2.2, I z_1.2.2, I (wr (r42.Low + z_2.2)), I 1, I 0, I 0] 33, bl b46 [I r42.Low, I r42.High] 49, bl b31 [I r27.Low, I r27.High] 49, bl b21 [I r9.1.TallyBook.Trips, I r9.1.TallyBook.Room, SL A13 r9.1.TallyBook.Counts.length c14, Value.map m15] 86, bl b6 [I a0.Trips, I a0.Room, SL A1 a0.Counts.length c2] 24, rd eTallyCount 7 A13 c14 r9.1.TallyBook.Counts, mpo ekT iE m15 r9.1.more_, rd eTallyCount 7 A1 c2 a0.Counts, bl 0 [Value.func (.func 117) #[] #[], Value.func (.func 119) #[] #[]] 117, bl 1 [I (-1), I (-1)] 115] := S60.asP k_
            refine hopE [(1, P b6 0)] ⟨((hf_ 1 rfl).trans (rfl : _ = P b6 0)), trivial⟩ ?_
            refine p_fld fl24_0 rfl ?_
            refine wp_nil ?_
            exact ⟨_, rfl, S_.keep, rfl⟩
          · intro e_ w_ k_ hf_ hR_
            have S_ : St w_ (fun _ => False) w_ [] [bl b56 [I 2, I z_1.2.2, I z_1.2.2, I (wr (r42.Low + z_2.2)), I 1, I 0, I 0] 33, bl b46 [I r42.Low, I r42.High] 49, bl b31 [I r27.Low, I r27.High] 49, bl b21 [I r9.1.TallyBook.Trips, I r9.1.TallyBook.Room, SL A13 r9.1.TallyBook.Counts.length c14, Value.map m15] 86, bl b6 [I a0.Trips, I a0.Room, SL A1 a0.Counts.length c2] 24, rd eTallyCount 7 A13 c14 r9.1.TallyBook.Counts, mpo ekT iE m15 r9.1.more_, rd eTallyCount 7 A1 c2 a0.Counts, bl 0 [Value.func (.func 117) #[] #[], Value.func (.func 119) #[] #[]] 117, bl 1 [I (-1), I (-1)] 115] := S60.asP k_
            obtain ⟨_, _, _, _, q93⟩ := hR_ 5 63 rfl (Nat.le_of_ble_eq_true rfl) rfl
            refine hopE [(63, P b6 0)] ⟨q93, trivial⟩ ?_
            refine p_ld ty3 (S_.atP (i := 4) rfl) rfl rfl ?_
            refine wp_nil ?_
            exact ⟨_, rfl, S_.keep, rfl⟩
          · intro e_ w_ k_ hf_ hR_
            have S_ : St w_ (fun _ => False) w_ [] [bl b56 [I 2, I z_1.2.2, I z_1.2.2, I (wr (r42.Low + z_2.2)), I 1, I 0, I 0] 33, bl b46 [I r42.Low, I r42.High] 49, bl b31 [I r27.Low, I r27.High] 49, bl b21 [I r9.1.TallyBook.Trips, I r9.1.TallyBook.Room, SL A13 r9.1.TallyBook.Counts.length c14, Value.map m15] 86, bl b6 [I a0.Trips, I a0.Room, SL A1 a0.Counts.length c2] 24, rd eTallyCount 7 A13 c14 r9.1.TallyBook.Counts, mpo ekT iE m15 r9.1.more_, rd eTallyCount 7 A1 c2 a0.Counts, bl 0 [Value.func (.func 117) #[] #[], Value.func (.func 119) #[] #[]] 117, bl 1 [I (-1), I (-1)] 115] := S60.asP k_
            obtain ⟨_, _, _, _, ⟨A91, c92, m87⟩, q94, p95, a96⟩ := hR_ 4 62 rfl (Nat.le_of_ble_eq_true rfl) rfl
            replace q94 : e_ 62 = AG [I r83.TallyBook.Trips, I r83.TallyBook.Room, SL A91 r63.Counts.length c92, Value.map (some m87)] := q94
            have S_ := St.addL' S_ (a96 _ (.head _)) (fun _ _ _ h_ => (List.not_mem_nil h_).elim)
            have S_ := St.addL' S_ (a96 _ (.tail _ (.head _))) (fun _ _ _ h_ => (List.not_mem_nil h_).elim)
            obtain ⟨_, _, _, _, q97⟩ := hR_ 6 64 rfl (Nat.le_of_ble_eq_true rfl) rfl
            refine hopE [(62, AG [I r83.TallyBook.Trips, I r83.TallyBook.Room, SL A91 r63.Counts.length c92, Value.map (some m87)]), (64, I a0.Trips)] ⟨q94, q97, trivial⟩ ?_
            refine p_cv (tally_book_many_ok h99 (gr_rd eTallyCount_len (S_.atP (i := 0) rfl)) (mpo_some (S_.atP (i := 1) rfl)) (S_.atP (i := 11) rfl)) fu76 rfl S_ fun w100 S101 => ?_
            refine wp_nil ?_
            exact ⟨_, rfl, S101.keep, rfl⟩
          · intro e_ w_ k_ hf_ hR_
            have S_ : St w_ (fun _ => False) w_ [] [bl b56 [I 2, I z_1.2.2, I z_1.2.2, I (wr (r42.Low + z_2.2)), I 1, I 0, I 0] 33, bl b46 [I r42.Low, I r42.High] 49, bl b31 [I r27.Low, I r27.High] 49, bl b21 [I r9.1.TallyBook.Trips, I r9.1.TallyBook.Room, SL A13 r9.1.TallyBook.Counts.length c14, Value.map m15] 86, bl b6 [I a0.Trips, I a0.Room, SL A1 a0.Counts.length c2] 24, rd eTallyCount 7 A13 c14 r9.1.TallyBook.Counts, mpo ekT iE m15 r9.1.more_, rd eTallyCount 7 A1 c2 a0.Counts, bl 0 [Value.func (.func 117) #[] #[], Value.func (.func 119) #[] #[]] 117, bl 1 [I (-1), I (-1)] 115] := S60.asP k_
            refine hopE [] trivial ?_
            refine p_allA in49 S_ fun b102 w103 S104 => ?_
            refine wp_nil ?_
            exact ⟨_, rfl, S104.keep, ⟨b102, rfl, ⟨BtwL.of (New.al (S104.newX (i := 0) rfl)) rfl (S104.atX (i := 0) rfl) rfl, trivial⟩, (List.forall_mem_cons.2 ⟨(S104.atX (i := 0) rfl), (fun _ h_ => (List.not_mem_nil h_).elim)⟩)⟩⟩
          intro e105 w106 lo107 hi108 k109 hf110 hR111 hd112
          have S113 := S60.call k109
          have q114 : e105 58 = AG [I a0.Trips, I a0.Room, SL A1 a0.Counts.length c2] := (hR111 0 58 (Nat.le_of_ble_eq_true rfl) rfl).2.2.2
          have q115 : e105 59 = AG [I 2, I z_1.2.2, I z_1.2.2, I (wr (r42.Low + z_2.2)), I 1, I 0, I 0] := (hR111 1 59 (Nat.le_of_ble_eq_true rfl) rfl).2.2.2
          obtain ⟨h117, h118, h119, ⟨A67, c68⟩, q116, h120, h121⟩ := hR111 2 60 (Nat.le_of_ble_eq_true rfl) rfl
          replace q116 : e105 60 = AG [I r63.Trips, I r63.Room, SL A67 r63.Counts.length c68] := q116
          obtain ⟨p122, _⟩ := h120
          have q124 : e105 61 = AG [Value.func (.func 91) #[] #[]] := (hR111 3 61 (Nat.le_of_ble_eq_true rfl) rfl).2.2.2
          obtain ⟨h126, h127, h128, ⟨A91, c92, m87⟩, q125, h129, h130⟩ := hR111 4 62 (Nat.le_of_ble_eq_true rfl) rfl
          replace q125 : e105 62 = AG [I r83.TallyBook.Trips, I r83.TallyBook.Room, SL A91 r63.Counts.length c92, Value.map (some m87)] := q125
          obtain ⟨p131, _⟩ := h129
          have q133 : e105 63 = P b6 0 := (hR111 5 63 (Nat.le_of_ble_eq_true rfl) rfl).2.2.2
          have q134 : e105 64 = I a0.Trips := (hR111 6 64 (Nat.le_of_ble_eq_true rfl) rfl).2.2.2
          have q135 : e105 65 = AG [I r98.Low, I r98.High] := (hR111 7 65 (Nat.le_of_ble_eq_true rfl) rfl).2.2.2
          obtain ⟨h137, h138, h139, b102, q136, h140, h141⟩ := hR111 8 14 (Nat.le_of_ble_eq_true rfl) rfl
          replace q136 : e105 14 = P b102 0 := q136
          obtain ⟨p142, _⟩ := h140
          have S144 := St.addO S113 (h141 _ (.head _)) (fun b_ h_ => (p142 b_ h_).elim (fun q_ => Nat.le_trans S60.keep.size (Nat.le_trans h137 q_.1)) (fun ⟨_, hq_, _⟩ => (List.not_mem_nil hq_).elim)) (List.forall_mem_cons.2 ⟨(fun b_ h1_ h2_ => (p142 b_ h1_).elim (fun q2_ => by have q1_ := Asr.inb _ _ _ (S60.atX (i := 0) rfl) h2_; omega) (fun ⟨_, hq_, _⟩ => (List.not_mem_nil hq_).elim)), (List.forall_mem_cons.2 ⟨(fun b_ h1_ h2_ => (p142 b_ h1_).elim (fun q2_ => by have q1_ := Asr.inb _ _ _ (S60.atX (i := 1) rfl) h2_; omega) (fun ⟨_, hq_, _⟩ => (List.not_mem_nil hq_).elim)), (List.forall_mem_cons.2 ⟨(fun b_ h1_ h2_ => (p142 b_ h1_).elim (fun q2_ => by have q1_ := Asr.inb _ _ _ (S60.atX (i := 2) rfl) h2_; omega) (fun ⟨_, hq_, _⟩ => (List.not_mem_nil hq_).elim)), (List.forall_mem_cons.2 ⟨(fun b_ h1_ h2_ => (p142 b_ h1_).elim (fun q2_ => by have q1_ := Asr.inb _ _ _ (S60.atX (i := 3) rfl) h2_; omega) (fun ⟨_, hq_, _⟩ => (List.not_mem_nil hq_).elim)), (List.forall_mem_cons.2 ⟨(fun b_ h1_ h2_ => (p142 b_ h1_).elim (fun q2_ => by have q1_ := Asr.inb _ _ _ (S60.atX (i := 4) rfl) h2_; omega) (fun ⟨_, hq_, _⟩ => (List.not_mem_nil hq_).elim)), (fun _ h_ => (List.not_mem_nil h_).elim)⟩)⟩)⟩)⟩)⟩) (List.forall_mem_cons.2 ⟨(fun b_ h1_ h2_ => (p142 b_ h1_).elim (fun q2_ => by have q1_ := Asr.inb _ _ _ (S60.atP (i := 0) rfl) h2_; omega) (fun ⟨_, hq_, _⟩ => (List.not_mem_nil hq_).elim)), (List.forall_mem_cons.2 ⟨(fun b_ h1_ h2_ => (p142 b_ h1_).elim (fun q2_ => by have q1_ := Asr.inb _ _ _ (S60.atP (i := 1) rfl) h2_; omega) (fun ⟨_, hq_, _⟩ => (List.not_mem_nil hq_).elim)), (List.forall_mem_cons.2 ⟨(fun b_ h1_ h2_ => (p142 b_ h1_).elim (fun q2_ => by have q1_ := Asr.inb _ _ _ (S60.atP (i := 2) rfl) h2_; omega) (fun ⟨_, hq_, _⟩ => (List.not_mem_nil hq_).elim)), (List.forall_mem_cons.2 ⟨(fun b_ h1_ h2_ => (p142 b_ h1_).elim (fun q2_ => by have q1_ := Asr.inb _ _ _ (S60.atP (i := 3) rfl) h2_; omega) (fun ⟨_, hq_, _⟩ => (List.not_mem_nil hq_).elim)), (List.forall_mem_cons.2 ⟨(fun b_ h1_ h2_ => (p142 b_ h1_).elim (fun q2_ => by have q1_ := Asr.inb _ _ _ (S60.atP (i := 4) rfl) h2_; omega) (fun ⟨_, hq_, _⟩ => (List.not_mem_nil hq_).elim)), (fun _ h_ => (List.not_mem_nil h_).elim)⟩)⟩)⟩)⟩)⟩)
          refine tailE [(1, P b6 0), (4, P b21 0), (7, I z_1.1), (8, I z_1.2.1), (9, I z_1.2.2), (10, P b46 0), (11, I z_2.1), (14, P b102 0), (33, I a0.Trips), (34, I z_1.2.2), (47, I (wr ((wr (r42.High - r42.Low)) + 1))), (48, I z_2.2), (65, AG [I r98.Low, I r98.High])] ⟨((hf110 1 rfl).trans (rfl : _ = P b6 0)), ((hf110 4 rfl).trans (rfl : _ = P b21 0)), ((hf110 7 rfl).trans (rfl : _ = I z_1.1)), ((hf110 8 rfl).trans (rfl : _ = I z_1.2.1)), ((hf110 9 rfl).trans (rfl : _ = I z_1.2.2)), ((hf110 10 rfl).trans (rfl : _ = P b46 0)), ((hf110 11 rfl).trans (rfl : _ = I z_2.1)), q136, ((hf110 33 rfl).trans (rfl : _ = I a0.Trips)), ((hf110 34 rfl).trans (rfl : _ = I z_1.2.2)), ((hf110 47 rfl).trans (rfl : _ = I (wr ((wr (r42.High - r42.Low)) + 1)))), ((hf110 48 rfl).trans (rfl : _ = I z_2.2)), q135, trivial⟩ ?_
          intro g145
          refine p_stP (pre := []) (old := [I 0, I 0]) (post := []) (vs := [I r98.Low, I r98.High]) sz49 S144 (i := 0) rfl rfl rfl rfl (rfl : _ = AG [I r98.Low, I r98.High]) rfl rfl rfl rfl fun w146 S147 => ?_
          refine wp_nil ?_
          refine reg ?_
          refine p_mI rfl ?_
          refine p_fld fl49_1 rfl ?_
          refine p_ld ty3 (S147.atX (i := 0) rfl) rfl rfl ?_
          refine p_fld fl49_0 rfl ?_
          refine p_ld ty3 (S147.atX (i := 0) rfl) rfl rfl ?_
          refine p_sub rfl rfl ?_
          refine p_max rfl rfl ?_
          refine p_aI rfl ?_
          refine wp_nil ?_
          refine reg ?_
          refine p_add rfl rfl ?_
          refine p_mI rfl ?_
          refine wp_nil ?_
          have S148 := S147.pk [2, 3, 4, 5] (by decide) [0, 1, 2, 3, 4] rfl rfl
          exact ⟨((if (wr (r98.High - r98.Low)) > z_2.1 then (wr (r98.High - r98.Low)) else z_2.1), wr (z_2.2 + 1)), (), _, rfl, ⟨rfl, rfl, rfl, rfl, rfl, rfl, rfl, rfl, rfl, rfl, rfl, trivial⟩, H, S148⟩
        · replace H := condF c55 H
          refine c_exit ?_
          refine c_join (α := Bool) (β := Unit) (fun z_3 y_3 => [(1, P b6 0), (4, P b21 0), (7, I z_1.1), (8, I z_1.2.1), (9, I z_1.2.2), (11, I z_2.1), (33, I a0.Trips), (34, I z_1.2.2), (80, B z_3)]) (fun z_3 y_3 w_ => tally_Again_j6 (loopF (tally_Again_l8 a0 r9) m37) z_1 z_2 z_3 = some r ∧ St w (fun _ => False) w_ [bl b46 [I r42.Low, I r42.High] 49, bl b31 [I r27.Low, I r27.High] 49, bl b21 [I r9.1.TallyBook.Trips, I r9.1.TallyBook.Room, SL A13 r9.1.TallyBook.Counts.length c14, Value.map m15] 86, bl b6 [I a0.Trips, I a0.Room, SL A1 a0.Counts.length c2] 24] [rd eTallyCount 7 A13 c14 r9.1.TallyBook.Counts, mpo ekT iE m15 r9.1.more_, rd eTallyCount 7 A1 c2 a0.Counts, bl 0 [Value.func (.func 117) #[] #[], Value.func (.func 119) #[] #[]] 117, bl 1 [I (-1), I (-1)] 115]) ?_ ?_
          · refine reg ?_
            refine p_mI rfl ?_
            refine p_cmp rfl rfl rfl ?_
            refine p_mB rfl ?_
            rcases Bool.eq_false_or_eq_true (decide (z_1.1 < 0)) with c149 | c149
            · replace H := condT c149 H
              refine eB c149 ?_
              refine gF rfl rfl ?_
              refine gF rfl rfl ?_
              refine gF rfl rfl ?_
              refine p_pkT rfl (rfl : _ = B true) ?_
              refine wp_nil ?_
              exact ⟨true, (), _, rfl, ⟨rfl, rfl, rfl, rfl, rfl, rfl, rfl, rfl, rfl, trivial⟩, H, S54⟩
            · replace H := condF c149 H
              refine eB c149 ?_
              refine gT rfl rfl (p_mI rfl ?_)
              refine gT rfl rfl (p_mI rfl ?_)
              refine gT rfl rfl (p_cmp rfl rfl rfl ?_)
              refine p_pkF rfl (rfl : _ = B (decide (z_2.1 < z_1.2.1))) ?_
              refine wp_nil ?_
              exact ⟨decide (z_2.1 < z_1.2.1), (), _, rfl, ⟨rfl, rfl, rfl, rfl, rfl, rfl, rfl, rfl, rfl, trivial⟩, H, S54⟩
          · intro z_3 y_3 e149 w150 S151; obtain ⟨H, S151⟩ := S151
            unfold tally_Again_j6 at H
            refine c_cond rfl (fun c152 => ?_) (fun c152 => ?_)
            · replace H := condT c152 H
              refine reg ?_
              refine p_mI rfl ?_
              refine p_mI rfl ?_
              refine p_aI rfl ?_
              refine p_aI rfl ?_
              refine wp_nil ?_
              refine reg ?_
              refine p_add rfl rfl ?_
              refine p_mI rfl ?_
              refine wp_nil ?_
              have S153 := S151.pk [1, 2, 3] (by decide) [0, 1, 2, 3, 4] rfl rfl
              exact ⟨(z_1.2.2, z_2.1, wr (z_1.2.2 + 1)), (), _, rfl, ⟨rfl, rfl, rfl, rfl, rfl, rfl, trivial⟩, H, S153⟩
            · replace H := condF c152 H
              refine c_skip ?_
              refine reg ?_
              refine p_add rfl rfl ?_
              refine p_mI rfl ?_
              refine wp_nil ?_
              have S154 := S151.pk [1, 2, 3] (by decide) [0, 1, 2, 3, 4] rfl rfl
              exact ⟨(z_1.1, z_1.2.1, wr (z_1.2.2 + 1)), (), _, rfl, ⟨rfl, rfl, rfl, rfl, rfl, rfl, trivial⟩, H, S154⟩
      · replace H := condF c41 H
        refine c_exit ?_
        refine c_seq ?_
        refine reg ?_
        refine p_mI rfl ?_
        refine p_aI rfl ?_
        refine p_aI rfl ?_
        refine wp_nil ?_
        obtain rfl := Option.some.inj H
        refine c_ret ?_; show bodyPostM (Fr none) 0 Tryd.prog Tryd.f50 _ .ret _ _
        refine ret_of (res2 rfl (rvT (rfl : _ = I z_1.1)) (rvT (rfl : _ = I 0))) ?_
        exact ⟨_, rfl, rfl, S40.keep⟩

def law_own : Option TallyBook :=
  (law_count 0 0 3 1 20 4 4).bind fun r4 =>
  (law_count 1 0 1 9 1 2 0).bind fun r8 =>
  (law_count 2 2 2 6 1 0 1).bind fun r12 =>
  some (TallyBook.mk 4 10 [r4, r8, r12])

set_option maxRecDepth 100000 in
theorem law_own_ok {w : World} {r : TallyBook} (H : law_own = some r) : Calls Tryd.prog 52 #[] w fun en w_ => ∃ u_, en = .returned u_ ∧ ∃ A_1 : Option Addr, ∃ c_2 : Nat, u_ = AG [I r.Trips, I r.Room, SL A_1 r.Counts.length c_2] ∧ Keep0 w w_ ∧ ((gr eTallyCount 7 33 A_1 c_2 r.Counts).ok w_ ∧ New w.heap.size (gr eTallyCount 7 33 A_1 c_2 r.Counts)) ∧ True := by
  unfold law_own at H
  refine fn_of (n := 6) Tryd.func52 rfl rfl (Nat.le_of_ble_eq_true rfl) ?_
  have S : St w (fun _ => False) w [] [] := St.start w _ _ (fun _ h_ => (List.not_mem_nil h_).elim)
  refine c_seq ?_
  refine reg ?_
  refine p_allA in24 S fun b1 w2 S3 => ?_
  refine wp_nil ?_
  refine c_seq ?_
  refine reg ?_
  obtain ⟨r4, h5, H⟩ := bindS H
  refine p_cv (law_count_ok h5) fu37 rfl S3 fun w6 S7 => ?_
  obtain ⟨r8, h9, H⟩ := bindS H
  refine p_cv (law_count_ok h9) fu37 rfl S7 fun w10 S11 => ?_
  obtain ⟨r12, h13, H⟩ := bindS H
  refine p_cv (law_count_ok h13) fu37 rfl S11 fun w14 S15 => ?_
  refine p_bsl (enc := eTallyCount) (l := [r4, r8, r12]) (fun x => AG (eTallyCount x)) (fun _ => rfl) sc22 in33 eTallyCount_len rfl (by decide) (by decide) zr33_3 S15 rfl fun A16 c17 w18 S19 => ?_
  refine p_bld (cs := [I 4, I 10, SL A16 [r4, r8, r12].length c17]) st24 (rfl : _ = [(0, I 4), (1, I 10), (2, SL A16 [r4, r8, r12].length c17)]) (by kernel_rfl) ?_
  refine p_stP (pre := []) (old := [I 0, I 0, SL none 0 0]) (post := []) (vs := [I 4, I 10, SL A16 [r4, r8, r12].length c17]) sz24 S19 (i := 1) rfl rfl rfl rfl (rfl : _ = AG [I 4, I 10, SL A16 [r4, r8, r12].length c17]) rfl rfl rfl rfl fun w21 S22 => ?_
  refine wp_nil ?_
  obtain rfl := Option.some.inj H
  refine c_ret ?_; show bodyPostM (Fr none) 0 Tryd.prog Tryd.f52 _ .ret _ _
  refine ret_of (res1 rfl (rvA rfl ty24 sz24 (S22.atX (i := 1) rfl) rfl)) ?_
  exact ⟨_, rfl, A16, c17, rfl, S22.keep, ⟨S22.atX (i := 0) rfl, S22.newX (i := 0) rfl⟩, trivial⟩

def law_torn : Option TallyBook :=
  (law_own).bind fun r4 =>
  (law_count 2 0 3 26 1 0 0).bind fun r19 =>
  need (fitsL (r4.Counts.length + ([r19] : List TallyCount).length) 56) <|
  some (TallyBook.mk r4.Trips r4.Room (r4.Counts ++ ([r19] : List TallyCount)))

set_option maxRecDepth 100000 in
theorem law_torn_ok {w : World} {r : TallyBook} (H : law_torn = some r) : Calls Tryd.prog 54 #[] w fun en w_ => ∃ u_, en = .returned u_ ∧ ∃ A_1 : Option Addr, ∃ c_2 : Nat, u_ = AG [I r.Trips, I r.Room, SL A_1 r.Counts.length c_2] ∧ Keep0 w w_ ∧ ((gr eTallyCount 7 33 A_1 c_2 r.Counts).ok w_ ∧ New w.heap.size (gr eTallyCount 7 33 A_1 c_2 r.Counts)) ∧ True := by
  unfold law_torn at H
  refine fn_of (n := 10) Tryd.func54 rfl rfl (Nat.le_of_ble_eq_true rfl) ?_
  have S : St w (fun _ => False) w [] [] := St.start w _ _ (fun _ h_ => (List.not_mem_nil h_).elim)
  refine c_seq ?_
  refine reg ?_
  refine p_allA in24 S fun b1 w2 S3 => ?_
  refine wp_nil ?_
  refine c_seq ?_
  refine reg ?_
  obtain ⟨r4, h5, H⟩ := bindS H
  refine p_cal (law_own_ok h5) fu52 rfl ?_
  rintro _ w6 ⟨A8, c9, rfl, k7, ⟨o10, n11⟩, _⟩
  have S13 := S3.addNew k7 o10 n11
  refine p_allA in24 S13 fun b14 w15 S16 => ?_
  refine p_stP (pre := []) (old := [I 0, I 0, SL none 0 0]) (post := []) (vs := [I r4.Trips, I r4.Room, SL A8 r4.Counts.length c9]) sz24 S16 (i := 0) rfl rfl rfl rfl (rfl : _ = AG [I r4.Trips, I r4.Room, SL A8 r4.Counts.length c9]) rfl rfl rfl rfl fun w17 S18 => ?_
  refine wp_nil ?_
  refine c_seq ?_
  obtain ⟨r19, h20, H⟩ := bindS H
  refine reg_c mixed 4 [3] (by kernel_rfl) ?_
  refine kS rfl (fun _ k_ => p_fld fl24_2 rfl dn) ?_
  refine kS rfl (fun _ k_ => p_ld ty22 (Asr.stays (S18.atX (i := 0) rfl) k_) rfl rfl dn) ?_
  refine kS rfl (fun _ k_ => p_cvD (law_count_ok h20) fu37 rfl) ?_
  refine kC rfl ?_
  intro w21 k22; have S23 := S18.call k22
  have S29 := S23.base
  refine p_bsl (enc := eTallyCount) (l := ([r19] : List TallyCount)) (fun x => AG (eTallyCount x)) (fun _ => rfl) sc22 in33 eTallyCount_len rfl (by decide) (by decide) zr33_1 S29 rfl fun A24 c25 w26 S27 => ?_
  refine cN S27.keep fun w30 k31 => ?_
  have S32 := (S23.fromBase S27).call k31
  obtain ⟨h37, H⟩ := needS H
  refine p_app (enc := eTallyCount) sc22 in33 rfl eTallyCount_len eTallyCount_one (by decide) S32 (k := 2) rfl (gr_sl eTallyCount_len (S32.atX (i := 0) rfl)) h37 (by simp) rfl rfl fun A35 c36 w33 S34 => ?_
  refine p_fld fl24_2 rfl ?_
  refine p_stP (pre := [I r4.Trips, I r4.Room]) (old := [SL A8 r4.Counts.length c9]) (post := []) (vs := [SL A35 (r4.Counts ++ ([r19] : List TallyCount)).length c36]) sz22 S34 (i := 1) rfl rfl rfl rfl (rfl : _ = SL A35 (r4.Counts ++ ([r19] : List TallyCount)).length c36) rfl rfl rfl rfl fun w38 S39 => ?_
  refine wp_nil ?_
  refine c_seq ?_
  refine reg ?_
  refine p_ldA ty24 sz24 (S39.atX (i := 1) rfl) rfl rfl ?_
  refine p_stP (pre := []) (old := [I 0, I 0, SL none 0 0]) (post := []) (vs := [I r4.Trips, I r4.Room, SL A35 (r4.Counts ++ ([r19] : List TallyCount)).length c36]) sz24 S39 (i := 3) rfl rfl rfl rfl (rfl : _ = AG [I r4.Trips, I r4.Room, SL A35 (r4.Counts ++ ([r19] : List TallyCount)).length c36]) rfl rfl rfl rfl fun w40 S41 => ?_
  refine wp_nil ?_
  obtain rfl := Option.some.inj H
  refine c_ret ?_; show bodyPostM (Fr none) 0 Tryd.prog Tryd.f54 _ .ret _ _
  refine ret_of (res1 rfl (rvA rfl ty24 sz24 (S41.atX (i := 3) rfl) rfl)) ?_
  exact ⟨_, rfl, A35, c36, rfl, S41.keep, ⟨S41.atX (i := 2) rfl, S41.newX (i := 2) rfl⟩, trivial⟩

def law_counted : Option Bool :=
  (law_own).bind fun r3 =>
  (tally_Many r3 0 3).bind fun r13 =>
  (law_own).bind fun r22 =>
  (tally_Many r22 3 3).bind fun r32 =>
  (law_own).bind fun r41 =>
  (tally_Can r41 [5, 5, 6, 3]).bind fun r56 =>
  (law_own).bind fun r60 =>
  (tally_Pays r60 2).bind fun r70 =>
  (law_torn).bind fun r79 =>
  (tally_Wrong r79).bind fun r90 =>
  bif (r13.2 != 0) then (some false)
  else (bif (r32.2 != 0) then (some false)
  else (bif (r56.2 != 0) then (some false)
  else (bif (r70.2 != 0) then (some false)
  else (bif (r90.2 != 0) then (some false)
  else ((B_Range 16 24).bind fun r179 =>
  bif !((r13.1.Low == r179.Low) && (r13.1.High == r179.High)) then (some false)
  else ((B_Range 0 10).bind fun r197 =>
  bif !((r32.1.Low == r197.Low) && (r32.1.High == r197.High)) then (some false)
  else (bif !r56.1 then (some false)
  else ((B_Range 32 48).bind fun r231 =>
  bif !((r70.1.Low == r231.Low) && (r70.1.High == r231.High)) then (some false)
  else ((B_Alike r90.1 ([0] : List Int)).bind fun r261 =>
  bif !r261 then (some false)
  else ((law_torn).bind fun r275 =>
  (tally_Whose r275).bind fun r285 =>
  (law_own).bind fun r294 =>
  (tally_Again r294).bind fun r304 =>
  (law_own).bind fun r308 =>
  (law_count 2 3 3 10 1 0 0).bind fun r318 =>
  (tally_Fits r308 r318).bind fun r322 =>
  (law_torn).bind fun r326 =>
  (tally_Right r326).bind fun r336 =>
  bif (r285.2 == 0) then (bif (r304.2 == 0) then (bif (r322.2 == 0) then (bif (r336.2 == 0) then ((B_Alike r285.1 [0, 2]).bind fun r349 =>
  bif r349 then (bif (r304.1 == 3) then (bif r322.1 then (some (!r336.1))
  else (some false))
  else (some false))
  else (some false))
  else (some false))
  else (some false))
  else (some false))
  else (some false)))))))))))

set_option maxRecDepth 100000 in
theorem law_counted_ok {w : World} {r : Bool} (H : law_counted = some r) (hg1 : (bl 0 [Value.func (.func 117) #[] #[], Value.func (.func 119) #[] #[]] 117).ok w) (hg2 : (bl 1 [I (-1), I (-1)] 115).ok w) : Calls Tryd.prog 19 #[] w (RetV w (B r)) := by
  unfold law_counted at H
  refine fn_of (n := 135) Tryd.func19 rfl rfl (Nat.le_of_ble_eq_true rfl) ?_
  have S : St w (fun _ => False) w [] [bl 0 [Value.func (.func 117) #[] #[], Value.func (.func 119) #[] #[]] 117, bl 1 [I (-1), I (-1)] 115] := St.start w _ _ (List.forall_mem_cons.2 ⟨hg1, (List.forall_mem_cons.2 ⟨hg2, (fun _ h_ => (List.not_mem_nil h_).elim)⟩)⟩)
  refine c_seq ?_
  refine reg ?_
  refine p_aB rfl ?_
  refine wp_nil ?_
  refine c_seq ?_
  refine reg ?_
  obtain ⟨r3, h4, H⟩ := bindS H
  refine p_cal (law_own_ok h4) fu52 rfl ?_
  rintro _ w5 ⟨A7, c8, rfl, k6, ⟨o9, n10⟩, _⟩
  have S12 := S.addNew k6 o9 n10
  obtain ⟨r13, h14, H⟩ := bindS H
  refine p_cv (tally_Many_ok h14 (gr_rd eTallyCount_len (S12.atX (i := 0) rfl)) (S12.atP (i := 0) rfl) (S12.atP (i := 1) rfl)) fu32 rfl S12 fun w15 S16 => ?_
  refine p_mT rfl ?_
  refine p_ext rfl rfl ?_
  refine p_ext rfl rfl ?_
  refine p_allA in49 S16 fun b17 w18 S19 => ?_
  refine p_stP (pre := []) (old := [I 0, I 0]) (post := []) (vs := [I r13.1.Low, I r13.1.High]) sz49 S19 (i := 0) rfl rfl rfl rfl (rfl : _ = AG [I r13.1.Low, I r13.1.High]) rfl rfl rfl rfl fun w20 S21 => ?_
  refine p_aI rfl ?_
  refine wp_nil ?_
  refine c_seq ?_
  refine reg ?_
  obtain ⟨r22, h23, H⟩ := bindS H
  refine p_cal (law_own_ok h23) fu52 rfl ?_
  rintro _ w24 ⟨A26, c27, rfl, k25, ⟨o28, n29⟩, _⟩
  have S31 := S21.addNew k25 o28 n29
  obtain ⟨r32, h33, H⟩ := bindS H
  refine p_cv (tally_Many_ok h33 (gr_rd eTallyCount_len (S31.atX (i := 0) rfl)) (S31.atP (i := 0) rfl) (S31.atP (i := 1) rfl)) fu32 rfl S31 fun w34 S35 => ?_
  refine p_mT rfl ?_
  refine p_ext rfl rfl ?_
  refine p_ext rfl rfl ?_
  refine p_allA in49 S35 fun b36 w37 S38 => ?_
  refine p_stP (pre := []) (old := [I 0, I 0]) (post := []) (vs := [I r32.1.Low, I r32.1.High]) sz49 S38 (i := 0) rfl rfl rfl rfl (rfl : _ = AG [I r32.1.Low, I r32.1.High]) rfl rfl rfl rfl fun w39 S40 => ?_
  refine p_aI rfl ?_
  refine wp_nil ?_
  refine c_seq ?_
  refine reg ?_
  obtain ⟨r41, h42, H⟩ := bindS H
  refine p_cal (law_own_ok h42) fu52 rfl ?_
  rintro _ w43 ⟨A45, c46, rfl, k44, ⟨o47, n48⟩, _⟩
  have S50 := S40.addNew k44 o47 n48
  refine p_bsl (enc := intE) (l := [5, 5, 6, 3]) I (fun _ => rfl) sc31 in3 intE_len rfl (by decide) (by decide) zr3_4 S50 rfl fun A51 c52 w53 S54 => ?_
  obtain ⟨r56, h57, H⟩ := bindS H
  refine p_cv (tally_Can_ok h57 (gr_rd eTallyCount_len (S54.atX (i := 1) rfl)) (gr_rd intE_len (S54.atX (i := 0) rfl)) (S54.atP (i := 0) rfl)) fu29 rfl S54 fun w58 S59 => ?_
  refine p_mT rfl ?_
  refine p_ext rfl rfl ?_
  refine p_ext rfl rfl ?_
  refine p_aB rfl ?_
  refine p_aI rfl ?_
  refine wp_nil ?_
  refine c_seq ?_
  refine reg ?_
  obtain ⟨r60, h61, H⟩ := bindS H
  refine p_cal (law_own_ok h61) fu52 rfl ?_
  rintro _ w62 ⟨A64, c65, rfl, k63, ⟨o66, n67⟩, _⟩
  have S69 := S59.addNew k63 o66 n67
  obtain ⟨r70, h71, H⟩ := bindS H
  refine p_cv (tally_Pays_ok h71 (gr_rd eTallyCount_len (S69.atX (i := 0) rfl)) (S69.atP (i := 0) rfl) (S69.atP (i := 1) rfl)) fu33 rfl S69 fun w72 S73 => ?_
  refine p_mT rfl ?_
  refine p_ext rfl rfl ?_
  refine p_ext rfl rfl ?_
  refine p_allA in49 S73 fun b74 w75 S76 => ?_
  refine p_stP (pre := []) (old := [I 0, I 0]) (post := []) (vs := [I r70.1.Low, I r70.1.High]) sz49 S76 (i := 0) rfl rfl rfl rfl (rfl : _ = AG [I r70.1.Low, I r70.1.High]) rfl rfl rfl rfl fun w77 S78 => ?_
  refine p_aI rfl ?_
  refine wp_nil ?_
  refine c_seq ?_
  refine reg ?_
  obtain ⟨r79, h80, H⟩ := bindS H
  refine p_cal (law_torn_ok h80) fu54 rfl ?_
  rintro _ w81 ⟨A83, c84, rfl, k82, ⟨o85, n86⟩, _⟩
  have S88 := S78.addNew k82 o85 n86
  have S89 := S88.fixRd eTallyCount_len (i := 0) rfl
  obtain ⟨r90, h91, H⟩ := bindS H
  refine p_cal (tally_Wrong_ok h91 (S89.atP (i := 0) rfl) (S89.atP (i := 1) rfl) (S89.atP (i := 2) rfl)) fu30 rfl ?_
  rintro _ w92 ⟨A94, c95, rfl, k93, ⟨o96, n97⟩, _⟩
  have S98 := S89.callN k93 [rd intE 1 A94 c95 r90.1] (List.forall_mem_cons.2 ⟨⟨o96, Al.inL n97 ((List.forall_mem_cons.2 ⟨(fp_mem (i := 0) rfl), (fun _ h_ => (List.not_mem_nil h_).elim)⟩))⟩, (fun _ h_ => (List.not_mem_nil h_).elim)⟩)
  refine p_mT rfl ?_
  refine p_ext rfl rfl ?_
  refine p_ext rfl rfl ?_
  refine p_aS rfl ?_
  refine p_aI rfl ?_
  refine wp_nil ?_
  refine c_seq ?_
  refine c_seq ?_
  rcases Bool.eq_false_or_eq_true ((r13.2 != 0)) with c99 | c99
  · replace H := condT c99 H
    refine reg_c mixed 43 [39, 40, 41, 42] (by kernel_rfl) ?_
    refine kS rfl (fun _ k_ => p_mI rfl dn) ?_
    refine kS rfl (fun _ k_ => p_cmp rfl rfl rfl dn) ?_
    refine kS rfl (fun _ k_ => p_mB rfl dn) ?_
    refine kB c99 ?_
    refine kS rfl (fun _ k_ => gF rfl rfl dnU) ?_
    refine kS rfl (fun _ k_ => gF rfl rfl dnU) ?_
    refine kS rfl (fun _ k_ => p_pkT rfl (rfl : _ = B true) dn) ?_
    refine kS rfl (fun _ k_ => p_mB rfl dn) ?_
    refine kS rfl (fun _ k_ => gF rfl rfl dnU) ?_
    refine kS rfl (fun _ k_ => gF rfl rfl dnU) ?_
    refine kS rfl (fun _ k_ => p_pkT rfl (rfl : _ = B true) dn) ?_
    refine kS rfl (fun _ k_ => p_mB rfl dn) ?_
    refine kS rfl (fun _ k_ => gF rfl rfl dnU) ?_
    refine kS rfl (fun _ k_ => gF rfl rfl dnU) ?_
    refine kS rfl (fun _ k_ => p_pkT rfl (rfl : _ = B true) dn) ?_
    refine kS rfl (fun _ k_ => p_mB rfl dn) ?_
    refine kS rfl (fun _ k_ => gF rfl rfl dnU) ?_
    refine kS rfl (fun _ k_ => gF rfl rfl dnU) ?_
    refine kS rfl (fun _ k_ => p_pkT rfl (rfl : _ = B true) dn) ?_
    refine kS rfl (fun _ k_ => p_mB rfl dn) ?_
    refine kS rfl (fun _ k_ => gF rfl rfl dnU) ?_
    refine kS rfl (fun _ k_ => gF rfl rfl dnU) ?_
    refine kS rfl (fun _ k_ => gF rfl rfl dnU) ?_
    refine kS rfl (fun _ k_ => p_pkT rfl (rfl : _ = B true) dn) ?_
    refine kS rfl (fun _ k_ => p_mB rfl dn) ?_
    refine kS rfl (fun _ k_ => gF rfl rfl dnU) ?_
    refine kS rfl (fun _ k_ => gF rfl rfl dnU) ?_
    refine kS rfl (fun _ k_ => gF rfl rfl dnU) ?_
    refine kS rfl (fun _ k_ => p_pkT rfl (rfl : _ = B true) dn) ?_
    refine kS rfl (fun _ k_ => p_mB rfl dn) ?_
    refine kS rfl (fun _ k_ => gF rfl rfl dnU) ?_
    refine kS rfl (fun _ k_ => gF rfl rfl dnU) ?_
    refine kS rfl (fun _ k_ => p_pkT rfl (rfl : _ = B true) dn) ?_
    refine kS rfl (fun _ k_ => p_mB rfl dn) ?_
    refine kS rfl (fun _ k_ => gF rfl rfl dnU) ?_
    refine kS rfl (fun _ k_ => gF rfl rfl dnU) ?_
    refine kS rfl (fun _ k_ => gF rfl rfl dnU) ?_
    refine kS rfl (fun _ k_ => p_pkT rfl (rfl : _ = B true) dn) ?_
    refine kS rfl (fun _ k_ => p_mB rfl dn) ?_
    refine kS rfl (fun _ k_ => gF rfl rfl dnU) ?_
    refine kC rfl ?_
    refine kC rfl ?_
    refine kC rfl ?_
    refine kC rfl ?_
    intro w100 k101; have S102 := S98.call k101
    refine gF rfl rfl (cN (Keep.refl _ _) fun w103 k104 => ?_)
    have S105 := S102.call k104
    refine gF rfl rfl (cN (Keep.refl _ _) fun w106 k107 => ?_)
    have S108 := S105.call k107
    refine gF rfl rfl (cN (Keep.refl _ _) fun w109 k110 => ?_)
    have S111 := S108.call k110
    refine p_pkT rfl (rfl : _ = B true) (cN (Keep.refl _ _) fun w112 k113 => ?_)
    have S114 := S111.call k113
    refine wp_nil ?_
    refine c_true rfl ?_
    refine c_seq ?_
    refine reg ?_
    refine p_aB rfl ?_
    refine wp_nil ?_
    obtain rfl := Option.some.inj H
    refine c_ret ?_; show bodyPostM (Fr none) 0 Tryd.prog Tryd.f19 _ .ret _ _
    refine ret_of (res1 rfl (rvT (rfl : _ = B false))) ?_
    exact ⟨_, rfl, rfl, S114.keep⟩
  · replace H := condF c99 H
    rcases Bool.eq_false_or_eq_true ((r32.2 != 0)) with c115 | c115
    · replace H := condT c115 H
      refine reg_c mixed 43 [39, 40, 41, 42] (by kernel_rfl) ?_
      refine kS rfl (fun _ k_ => p_mI rfl dn) ?_
      refine kS rfl (fun _ k_ => p_cmp rfl rfl rfl dn) ?_
      refine kS rfl (fun _ k_ => p_mB rfl dn) ?_
      refine kB c99 ?_
      refine kS rfl (fun _ k_ => gT rfl rfl (p_mI rfl dn)) ?_
      refine kS rfl (fun _ k_ => gT rfl rfl (p_cmp rfl rfl rfl dn)) ?_
      refine kS rfl (fun _ k_ => p_pkF rfl (rfl : _ = B (r32.2 != 0)) dn) ?_
      refine kS rfl (fun _ k_ => p_mB rfl dn) ?_
      refine kB c115 ?_
      refine kS rfl (fun _ k_ => gF rfl rfl dnU) ?_
      refine kS rfl (fun _ k_ => gF rfl rfl dnU) ?_
      refine kS rfl (fun _ k_ => p_pkT rfl (rfl : _ = B true) dn) ?_
      refine kS rfl (fun _ k_ => p_mB rfl dn) ?_
      refine kS rfl (fun _ k_ => gF rfl rfl dnU) ?_
      refine kS rfl (fun _ k_ => gF rfl rfl dnU) ?_
      refine kS rfl (fun _ k_ => p_pkT rfl (rfl : _ = B true) dn) ?_
      refine kS rfl (fun _ k_ => p_mB rfl dn) ?_
      refine kS rfl (fun _ k_ => gF rfl rfl dnU) ?_
      refine kS rfl (fun _ k_ => gF rfl rfl dnU) ?_
      refine kS rfl (fun _ k_ => p_pkT rfl (rfl : _ = B true) dn) ?_
      refine kS rfl (fun _ k_ => p_mB rfl dn) ?_
      refine kS rfl (fun _ k_ => gF rfl rfl dnU) ?_
      refine kS rfl (fun _ k_ => gF rfl rfl dnU) ?_
      refine kS rfl (fun _ k_ => gF rfl rfl dnU) ?_
      refine kS rfl (fun _ k_ => p_pkT rfl (rfl : _ = B true) dn) ?_
      refine kS rfl (fun _ k_ => p_mB rfl dn) ?_
      refine kS rfl (fun _ k_ => gF rfl rfl dnU) ?_
      refine kS rfl (fun _ k_ => gF rfl rfl dnU) ?_
      refine kS rfl (fun _ k_ => gF rfl rfl dnU) ?_
      refine kS rfl (fun _ k_ => p_pkT rfl (rfl : _ = B true) dn) ?_
      refine kS rfl (fun _ k_ => p_mB rfl dn) ?_
      refine kS rfl (fun _ k_ => gF rfl rfl dnU) ?_
      refine kS rfl (fun _ k_ => gF rfl rfl dnU) ?_
      refine kS rfl (fun _ k_ => p_pkT rfl (rfl : _ = B true) dn) ?_
      refine kS rfl (fun _ k_ => p_mB rfl dn) ?_
      refine kS rfl (fun _ k_ => gF rfl rfl dnU) ?_
      refine kS rfl (fun _ k_ => gF rfl rfl dnU) ?_
      refine kS rfl (fun _ k_ => gF rfl rfl dnU) ?_
      refine kS rfl (fun _ k_ => p_pkT rfl (rfl : _ = B true) dn) ?_
      refine kS rfl (fun _ k_ => p_mB rfl dn) ?_
      refine kS rfl (fun _ k_ => gF rfl rfl dnU) ?_
      refine kC rfl ?_
      refine kC rfl ?_
      refine kC rfl ?_
      refine kC rfl ?_
      intro w116 k117; have S118 := S98.call k117
      refine gF rfl rfl (cN (Keep.refl _ _) fun w119 k120 => ?_)
      have S121 := S118.call k120
      refine gF rfl rfl (cN (Keep.refl _ _) fun w122 k123 => ?_)
      have S124 := S121.call k123
      refine gF rfl rfl (cN (Keep.refl _ _) fun w125 k126 => ?_)
      have S127 := S124.call k126
      refine p_pkT rfl (rfl : _ = B true) (cN (Keep.refl _ _) fun w128 k129 => ?_)
      have S130 := S127.call k129
      refine wp_nil ?_
      refine c_true rfl ?_
      refine c_seq ?_
      refine reg ?_
      refine p_aB rfl ?_
      refine wp_nil ?_
      obtain rfl := Option.some.inj H
      refine c_ret ?_; show bodyPostM (Fr none) 0 Tryd.prog Tryd.f19 _ .ret _ _
      refine ret_of (res1 rfl (rvT (rfl : _ = B false))) ?_
      exact ⟨_, rfl, rfl, S130.keep⟩
    · replace H := condF c115 H
      rcases Bool.eq_false_or_eq_true ((r56.2 != 0)) with c131 | c131
      · replace H := condT c131 H
        refine reg_c mixed 43 [39, 40, 41, 42] (by kernel_rfl) ?_
        refine kS rfl (fun _ k_ => p_mI rfl dn) ?_
        refine kS rfl (fun _ k_ => p_cmp rfl rfl rfl dn) ?_
        refine kS rfl (fun _ k_ => p_mB rfl dn) ?_
        refine kB c99 ?_
        refine kS rfl (fun _ k_ => gT rfl rfl (p_mI rfl dn)) ?_
        refine kS rfl (fun _ k_ => gT rfl rfl (p_cmp rfl rfl rfl dn)) ?_
        refine kS rfl (fun _ k_ => p_pkF rfl (rfl : _ = B (r32.2 != 0)) dn) ?_
        refine kS rfl (fun _ k_ => p_mB rfl dn) ?_
        refine kB c115 ?_
        refine kS rfl (fun _ k_ => gT rfl rfl (p_mI rfl dn)) ?_
        refine kS rfl (fun _ k_ => gT rfl rfl (p_cmp rfl rfl rfl dn)) ?_
        refine kS rfl (fun _ k_ => p_pkF rfl (rfl : _ = B (r56.2 != 0)) dn) ?_
        refine kS rfl (fun _ k_ => p_mB rfl dn) ?_
        refine kB c131 ?_
        refine kS rfl (fun _ k_ => gF rfl rfl dnU) ?_
        refine kS rfl (fun _ k_ => gF rfl rfl dnU) ?_
        refine kS rfl (fun _ k_ => p_pkT rfl (rfl : _ = B true) dn) ?_
        refine kS rfl (fun _ k_ => p_mB rfl dn) ?_
        refine kS rfl (fun _ k_ => gF rfl rfl dnU) ?_
        refine kS rfl (fun _ k_ => gF rfl rfl dnU) ?_
        refine kS rfl (fun _ k_ => p_pkT rfl (rfl : _ = B true) dn) ?_
        refine kS rfl (fun _ k_ => p_mB rfl dn) ?_
        refine kS rfl (fun _ k_ => gF rfl rfl dnU) ?_
        refine kS rfl (fun _ k_ => gF rfl rfl dnU) ?_
        refine kS rfl (fun _ k_ => gF rfl rfl dnU) ?_
        refine kS rfl (fun _ k_ => p_pkT rfl (rfl : _ = B true) dn) ?_
        refine kS rfl (fun _ k_ => p_mB rfl dn) ?_
        refine kS rfl (fun _ k_ => gF rfl rfl dnU) ?_
        refine kS rfl (fun _ k_ => gF rfl rfl dnU) ?_
        refine kS rfl (fun _ k_ => gF rfl rfl dnU) ?_
        refine kS rfl (fun _ k_ => p_pkT rfl (rfl : _ = B true) dn) ?_
        refine kS rfl (fun _ k_ => p_mB rfl dn) ?_
        refine kS rfl (fun _ k_ => gF rfl rfl dnU) ?_
        refine kS rfl (fun _ k_ => gF rfl rfl dnU) ?_
        refine kS rfl (fun _ k_ => p_pkT rfl (rfl : _ = B true) dn) ?_
        refine kS rfl (fun _ k_ => p_mB rfl dn) ?_
        refine kS rfl (fun _ k_ => gF rfl rfl dnU) ?_
        refine kS rfl (fun _ k_ => gF rfl rfl dnU) ?_
        refine kS rfl (fun _ k_ => gF rfl rfl dnU) ?_
        refine kS rfl (fun _ k_ => p_pkT rfl (rfl : _ = B true) dn) ?_
        refine kS rfl (fun _ k_ => p_mB rfl dn) ?_
        refine kS rfl (fun _ k_ => gF rfl rfl dnU) ?_
        refine kC rfl ?_
        refine kC rfl ?_
        refine kC rfl ?_
        refine kC rfl ?_
        intro w132 k133; have S134 := S98.call k133
        refine gF rfl rfl (cN (Keep.refl _ _) fun w135 k136 => ?_)
        have S137 := S134.call k136
        refine gF rfl rfl (cN (Keep.refl _ _) fun w138 k139 => ?_)
        have S140 := S137.call k139
        refine gF rfl rfl (cN (Keep.refl _ _) fun w141 k142 => ?_)
        have S143 := S140.call k142
        refine p_pkT rfl (rfl : _ = B true) (cN (Keep.refl _ _) fun w144 k145 => ?_)
        have S146 := S143.call k145
        refine wp_nil ?_
        refine c_true rfl ?_
        refine c_seq ?_
        refine reg ?_
        refine p_aB rfl ?_
        refine wp_nil ?_
        obtain rfl := Option.some.inj H
        refine c_ret ?_; show bodyPostM (Fr none) 0 Tryd.prog Tryd.f19 _ .ret _ _
        refine ret_of (res1 rfl (rvT (rfl : _ = B false))) ?_
        exact ⟨_, rfl, rfl, S146.keep⟩
      · replace H := condF c131 H
        rcases Bool.eq_false_or_eq_true ((r70.2 != 0)) with c147 | c147
        · replace H := condT c147 H
          refine reg_c mixed 43 [39, 40, 41, 42] (by kernel_rfl) ?_
          refine kS rfl (fun _ k_ => p_mI rfl dn) ?_
          refine kS rfl (fun _ k_ => p_cmp rfl rfl rfl dn) ?_
          refine kS rfl (fun _ k_ => p_mB rfl dn) ?_
          refine kB c99 ?_
          refine kS rfl (fun _ k_ => gT rfl rfl (p_mI rfl dn)) ?_
          refine kS rfl (fun _ k_ => gT rfl rfl (p_cmp rfl rfl rfl dn)) ?_
          refine kS rfl (fun _ k_ => p_pkF rfl (rfl : _ = B (r32.2 != 0)) dn) ?_
          refine kS rfl (fun _ k_ => p_mB rfl dn) ?_
          refine kB c115 ?_
          refine kS rfl (fun _ k_ => gT rfl rfl (p_mI rfl dn)) ?_
          refine kS rfl (fun _ k_ => gT rfl rfl (p_cmp rfl rfl rfl dn)) ?_
          refine kS rfl (fun _ k_ => p_pkF rfl (rfl : _ = B (r56.2 != 0)) dn) ?_
          refine kS rfl (fun _ k_ => p_mB rfl dn) ?_
          refine kB c131 ?_
          refine kS rfl (fun _ k_ => gT rfl rfl (p_mI rfl dn)) ?_
          refine kS rfl (fun _ k_ => gT rfl rfl (p_cmp rfl rfl rfl dn)) ?_
          refine kS rfl (fun _ k_ => p_pkF rfl (rfl : _ = B (r70.2 != 0)) dn) ?_
          refine kS rfl (fun _ k_ => p_mB rfl dn) ?_
          refine kB c147 ?_
          refine kS rfl (fun _ k_ => gF rfl rfl dnU) ?_
          refine kS rfl (fun _ k_ => gF rfl rfl dnU) ?_
          refine kS rfl (fun _ k_ => p_pkT rfl (rfl : _ = B true) dn) ?_
          refine kS rfl (fun _ k_ => p_mB rfl dn) ?_
          refine kS rfl (fun _ k_ => gF rfl rfl dnU) ?_
          refine kS rfl (fun _ k_ => gF rfl rfl dnU) ?_
          refine kS rfl (fun _ k_ => gF rfl rfl dnU) ?_
          refine kS rfl (fun _ k_ => p_pkT rfl (rfl : _ = B true) dn) ?_
          refine kS rfl (fun _ k_ => p_mB rfl dn) ?_
          refine kS rfl (fun _ k_ => gF rfl rfl dnU) ?_
          refine kS rfl (fun _ k_ => gF rfl rfl dnU) ?_
          refine kS rfl (fun _ k_ => gF rfl rfl dnU) ?_
          refine kS rfl (fun _ k_ => p_pkT rfl (rfl : _ = B true) dn) ?_
          refine kS rfl (fun _ k_ => p_mB rfl dn) ?_
          refine kS rfl (fun _ k_ => gF rfl rfl dnU) ?_
          refine kS rfl (fun _ k_ => gF rfl rfl dnU) ?_
          refine kS rfl (fun _ k_ => p_pkT rfl (rfl : _ = B true) dn) ?_
          refine kS rfl (fun _ k_ => p_mB rfl dn) ?_
          refine kS rfl (fun _ k_ => gF rfl rfl dnU) ?_
          refine kS rfl (fun _ k_ => gF rfl rfl dnU) ?_
          refine kS rfl (fun _ k_ => gF rfl rfl dnU) ?_
          refine kS rfl (fun _ k_ => p_pkT rfl (rfl : _ = B true) dn) ?_
          refine kS rfl (fun _ k_ => p_mB rfl dn) ?_
          refine kS rfl (fun _ k_ => gF rfl rfl dnU) ?_
          refine kC rfl ?_
          refine kC rfl ?_
          refine kC rfl ?_
          refine kC rfl ?_
          intro w148 k149; have S150 := S98.call k149
          refine gF rfl rfl (cN (Keep.refl _ _) fun w151 k152 => ?_)
          have S153 := S150.call k152
          refine gF rfl rfl (cN (Keep.refl _ _) fun w154 k155 => ?_)
          have S156 := S153.call k155
          refine gF rfl rfl (cN (Keep.refl _ _) fun w157 k158 => ?_)
          have S159 := S156.call k158
          refine p_pkT rfl (rfl : _ = B true) (cN (Keep.refl _ _) fun w160 k161 => ?_)
          have S162 := S159.call k161
          refine wp_nil ?_
          refine c_true rfl ?_
          refine c_seq ?_
          refine reg ?_
          refine p_aB rfl ?_
          refine wp_nil ?_
          obtain rfl := Option.some.inj H
          refine c_ret ?_; show bodyPostM (Fr none) 0 Tryd.prog Tryd.f19 _ .ret _ _
          refine ret_of (res1 rfl (rvT (rfl : _ = B false))) ?_
          exact ⟨_, rfl, rfl, S162.keep⟩
        · replace H := condF c147 H
          rcases Bool.eq_false_or_eq_true ((r90.2 != 0)) with c163 | c163
          · replace H := condT c163 H
            refine reg_c mixed 43 [39, 40, 41, 42] (by kernel_rfl) ?_
            refine kS rfl (fun _ k_ => p_mI rfl dn) ?_
            refine kS rfl (fun _ k_ => p_cmp rfl rfl rfl dn) ?_
            refine kS rfl (fun _ k_ => p_mB rfl dn) ?_
            refine kB c99 ?_
            refine kS rfl (fun _ k_ => gT rfl rfl (p_mI rfl dn)) ?_
            refine kS rfl (fun _ k_ => gT rfl rfl (p_cmp rfl rfl rfl dn)) ?_
            refine kS rfl (fun _ k_ => p_pkF rfl (rfl : _ = B (r32.2 != 0)) dn) ?_
            refine kS rfl (fun _ k_ => p_mB rfl dn) ?_
            refine kB c115 ?_
            refine kS rfl (fun _ k_ => gT rfl rfl (p_mI rfl dn)) ?_
            refine kS rfl (fun _ k_ => gT rfl rfl (p_cmp rfl rfl rfl dn)) ?_
            refine kS rfl (fun _ k_ => p_pkF rfl (rfl : _ = B (r56.2 != 0)) dn) ?_
            refine kS rfl (fun _ k_ => p_mB rfl dn) ?_
            refine kB c131 ?_
            refine kS rfl (fun _ k_ => gT rfl rfl (p_mI rfl dn)) ?_
            refine kS rfl (fun _ k_ => gT rfl rfl (p_cmp rfl rfl rfl dn)) ?_
            refine kS rfl (fun _ k_ => p_pkF rfl (rfl : _ = B (r70.2 != 0)) dn) ?_
            refine kS rfl (fun _ k_ => p_mB rfl dn) ?_
            refine kB c147 ?_
            refine kS rfl (fun _ k_ => gT rfl rfl (p_mI rfl dn)) ?_
            refine kS rfl (fun _ k_ => gT rfl rfl (p_cmp rfl rfl rfl dn)) ?_
            refine kS rfl (fun _ k_ => p_pkF rfl (rfl : _ = B (r90.2 != 0)) dn) ?_
            refine kS rfl (fun _ k_ => p_mB rfl dn) ?_
            refine kB c163 ?_
            refine kS rfl (fun _ k_ => gF rfl rfl dnU) ?_
            refine kS rfl (fun _ k_ => gF rfl rfl dnU) ?_
            refine kS rfl (fun _ k_ => gF rfl rfl dnU) ?_
            refine kS rfl (fun _ k_ => p_pkT rfl (rfl : _ = B true) dn) ?_
            refine kS rfl (fun _ k_ => p_mB rfl dn) ?_
            refine kS rfl (fun _ k_ => gF rfl rfl dnU) ?_
            refine kS rfl (fun _ k_ => gF rfl rfl dnU) ?_
            refine kS rfl (fun _ k_ => gF rfl rfl dnU) ?_
            refine kS rfl (fun _ k_ => p_pkT rfl (rfl : _ = B true) dn) ?_
            refine kS rfl (fun _ k_ => p_mB rfl dn) ?_
            refine kS rfl (fun _ k_ => gF rfl rfl dnU) ?_
            refine kS rfl (fun _ k_ => gF rfl rfl dnU) ?_
            refine kS rfl (fun _ k_ => p_pkT rfl (rfl : _ = B true) dn) ?_
            refine kS rfl (fun _ k_ => p_mB rfl dn) ?_
            refine kS rfl (fun _ k_ => gF rfl rfl dnU) ?_
            refine kS rfl (fun _ k_ => gF rfl rfl dnU) ?_
            refine kS rfl (fun _ k_ => gF rfl rfl dnU) ?_
            refine kS rfl (fun _ k_ => p_pkT rfl (rfl : _ = B true) dn) ?_
            refine kS rfl (fun _ k_ => p_mB rfl dn) ?_
            refine kS rfl (fun _ k_ => gF rfl rfl dnU) ?_
            refine kC rfl ?_
            refine kC rfl ?_
            refine kC rfl ?_
            refine kC rfl ?_
            intro w164 k165; have S166 := S98.call k165
            refine gF rfl rfl (cN (Keep.refl _ _) fun w167 k168 => ?_)
            have S169 := S166.call k168
            refine gF rfl rfl (cN (Keep.refl _ _) fun w170 k171 => ?_)
            have S172 := S169.call k171
            refine gF rfl rfl (cN (Keep.refl _ _) fun w173 k174 => ?_)
            have S175 := S172.call k174
            refine p_pkT rfl (rfl : _ = B true) (cN (Keep.refl _ _) fun w176 k177 => ?_)
            have S178 := S175.call k177
            refine wp_nil ?_
            refine c_true rfl ?_
            refine c_seq ?_
            refine reg ?_
            refine p_aB rfl ?_
            refine wp_nil ?_
            obtain rfl := Option.some.inj H
            refine c_ret ?_; show bodyPostM (Fr none) 0 Tryd.prog Tryd.f19 _ .ret _ _
            refine ret_of (res1 rfl (rvT (rfl : _ = B false))) ?_
            exact ⟨_, rfl, rfl, S178.keep⟩
          · replace H := condF c163 H
            obtain ⟨r179, h180, H⟩ := bindS H
            rcases Bool.eq_false_or_eq_true (!((r13.1.Low == r179.Low) && (r13.1.High == r179.High))) with c181 | c181
            · replace H := condT c181 H
              refine reg_c mixed 43 [39, 40, 41, 42] (by kernel_rfl) ?_
              refine kS rfl (fun _ k_ => p_mI rfl dn) ?_
              refine kS rfl (fun _ k_ => p_cmp rfl rfl rfl dn) ?_
              refine kS rfl (fun _ k_ => p_mB rfl dn) ?_
              refine kB c99 ?_
              refine kS rfl (fun _ k_ => gT rfl rfl (p_mI rfl dn)) ?_
              refine kS rfl (fun _ k_ => gT rfl rfl (p_cmp rfl rfl rfl dn)) ?_
              refine kS rfl (fun _ k_ => p_pkF rfl (rfl : _ = B (r32.2 != 0)) dn) ?_
              refine kS rfl (fun _ k_ => p_mB rfl dn) ?_
              refine kB c115 ?_
              refine kS rfl (fun _ k_ => gT rfl rfl (p_mI rfl dn)) ?_
              refine kS rfl (fun _ k_ => gT rfl rfl (p_cmp rfl rfl rfl dn)) ?_
              refine kS rfl (fun _ k_ => p_pkF rfl (rfl : _ = B (r56.2 != 0)) dn) ?_
              refine kS rfl (fun _ k_ => p_mB rfl dn) ?_
              refine kB c131 ?_
              refine kS rfl (fun _ k_ => gT rfl rfl (p_mI rfl dn)) ?_
              refine kS rfl (fun _ k_ => gT rfl rfl (p_cmp rfl rfl rfl dn)) ?_
              refine kS rfl (fun _ k_ => p_pkF rfl (rfl : _ = B (r70.2 != 0)) dn) ?_
              refine kS rfl (fun _ k_ => p_mB rfl dn) ?_
              refine kB c147 ?_
              refine kS rfl (fun _ k_ => gT rfl rfl (p_mI rfl dn)) ?_
              refine kS rfl (fun _ k_ => gT rfl rfl (p_cmp rfl rfl rfl dn)) ?_
              refine kS rfl (fun _ k_ => p_pkF rfl (rfl : _ = B (r90.2 != 0)) dn) ?_
              refine kS rfl (fun _ k_ => p_mB rfl dn) ?_
              refine kB c163 ?_
              refine kS rfl (fun _ k_ => gT rfl rfl (p_ldA ty49 sz49 (Asr.stays (S98.atX (i := 6) rfl) k_) rfl rfl dn)) ?_
              refine kS rfl (fun _ k_ => gT rfl rfl (p_cvD (B_Range_ok h180) fu41 rfl)) ?_
              refine kS rfl (fun _ k_ => gT rfl rfl (o_neA (xs := [I r13.1.Low, I r13.1.High]) (ys := [I r179.Low, I r179.High]) (T := ((r13.1.Low == r179.Low) && (r13.1.High == r179.High))) rfl rfl eq49 ⟨⟨_, rfl⟩, ⟨⟨_, rfl⟩, trivial⟩⟩ ⟨⟨_, rfl⟩, ⟨⟨_, rfl⟩, trivial⟩⟩ (by simp [Bool.and_eq_true, and_assoc]) dn)) ?_
              refine kS rfl (fun _ k_ => p_pkF rfl (rfl : _ = B (!((r13.1.Low == r179.Low) && (r13.1.High == r179.High)))) dn) ?_
              refine kS rfl (fun _ k_ => p_mB rfl dn) ?_
              refine kB c181 ?_
              refine kS rfl (fun _ k_ => gF rfl rfl dnU) ?_
              refine kS rfl (fun _ k_ => gF rfl rfl dnU) ?_
              refine kS rfl (fun _ k_ => gF rfl rfl dnU) ?_
              refine kS rfl (fun _ k_ => p_pkT rfl (rfl : _ = B true) dn) ?_
              refine kS rfl (fun _ k_ => p_mB rfl dn) ?_
              refine kS rfl (fun _ k_ => gF rfl rfl dnU) ?_
              refine kS rfl (fun _ k_ => gF rfl rfl dnU) ?_
              refine kS rfl (fun _ k_ => p_pkT rfl (rfl : _ = B true) dn) ?_
              refine kS rfl (fun _ k_ => p_mB rfl dn) ?_
              refine kS rfl (fun _ k_ => gF rfl rfl dnU) ?_
              refine kS rfl (fun _ k_ => gF rfl rfl dnU) ?_
              refine kS rfl (fun _ k_ => gF rfl rfl dnU) ?_
              refine kS rfl (fun _ k_ => p_pkT rfl (rfl : _ = B true) dn) ?_
              refine kS rfl (fun _ k_ => p_mB rfl dn) ?_
              refine kS rfl (fun _ k_ => gF rfl rfl dnU) ?_
              refine kC rfl ?_
              refine kC rfl ?_
              refine kC rfl ?_
              refine kC rfl ?_
              intro w182 k183; have S184 := S98.call k183
              refine gF rfl rfl (cN (Keep.refl _ _) fun w185 k186 => ?_)
              have S187 := S184.call k186
              refine gF rfl rfl (cN (Keep.refl _ _) fun w188 k189 => ?_)
              have S190 := S187.call k189
              refine gF rfl rfl (cN (Keep.refl _ _) fun w191 k192 => ?_)
              have S193 := S190.call k192
              refine p_pkT rfl (rfl : _ = B true) (cN (Keep.refl _ _) fun w194 k195 => ?_)
              have S196 := S193.call k195
              refine wp_nil ?_
              refine c_true rfl ?_
              refine c_seq ?_
              refine reg ?_
              refine p_aB rfl ?_
              refine wp_nil ?_
              obtain rfl := Option.some.inj H
              refine c_ret ?_; show bodyPostM (Fr none) 0 Tryd.prog Tryd.f19 _ .ret _ _
              refine ret_of (res1 rfl (rvT (rfl : _ = B false))) ?_
              exact ⟨_, rfl, rfl, S196.keep⟩
            · replace H := condF c181 H
              obtain ⟨r197, h198, H⟩ := bindS H
              rcases Bool.eq_false_or_eq_true (!((r32.1.Low == r197.Low) && (r32.1.High == r197.High))) with c199 | c199
              · replace H := condT c199 H
                refine reg_c mixed 43 [39, 40, 41, 42] (by kernel_rfl) ?_
                refine kS rfl (fun _ k_ => p_mI rfl dn) ?_
                refine kS rfl (fun _ k_ => p_cmp rfl rfl rfl dn) ?_
                refine kS rfl (fun _ k_ => p_mB rfl dn) ?_
                refine kB c99 ?_
                refine kS rfl (fun _ k_ => gT rfl rfl (p_mI rfl dn)) ?_
                refine kS rfl (fun _ k_ => gT rfl rfl (p_cmp rfl rfl rfl dn)) ?_
                refine kS rfl (fun _ k_ => p_pkF rfl (rfl : _ = B (r32.2 != 0)) dn) ?_
                refine kS rfl (fun _ k_ => p_mB rfl dn) ?_
                refine kB c115 ?_
                refine kS rfl (fun _ k_ => gT rfl rfl (p_mI rfl dn)) ?_
                refine kS rfl (fun _ k_ => gT rfl rfl (p_cmp rfl rfl rfl dn)) ?_
                refine kS rfl (fun _ k_ => p_pkF rfl (rfl : _ = B (r56.2 != 0)) dn) ?_
                refine kS rfl (fun _ k_ => p_mB rfl dn) ?_
                refine kB c131 ?_
                refine kS rfl (fun _ k_ => gT rfl rfl (p_mI rfl dn)) ?_
                refine kS rfl (fun _ k_ => gT rfl rfl (p_cmp rfl rfl rfl dn)) ?_
                refine kS rfl (fun _ k_ => p_pkF rfl (rfl : _ = B (r70.2 != 0)) dn) ?_
                refine kS rfl (fun _ k_ => p_mB rfl dn) ?_
                refine kB c147 ?_
                refine kS rfl (fun _ k_ => gT rfl rfl (p_mI rfl dn)) ?_
                refine kS rfl (fun _ k_ => gT rfl rfl (p_cmp rfl rfl rfl dn)) ?_
                refine kS rfl (fun _ k_ => p_pkF rfl (rfl : _ = B (r90.2 != 0)) dn) ?_
                refine kS rfl (fun _ k_ => p_mB rfl dn) ?_
                refine kB c163 ?_
                refine kS rfl (fun _ k_ => gT rfl rfl (p_ldA ty49 sz49 (Asr.stays (S98.atX (i := 6) rfl) k_) rfl rfl dn)) ?_
                refine kS rfl (fun _ k_ => gT rfl rfl (p_cvD (B_Range_ok h180) fu41 rfl)) ?_
                refine kS rfl (fun _ k_ => gT rfl rfl (o_neA (xs := [I r13.1.Low, I r13.1.High]) (ys := [I r179.Low, I r179.High]) (T := ((r13.1.Low == r179.Low) && (r13.1.High == r179.High))) rfl rfl eq49 ⟨⟨_, rfl⟩, ⟨⟨_, rfl⟩, trivial⟩⟩ ⟨⟨_, rfl⟩, ⟨⟨_, rfl⟩, trivial⟩⟩ (by simp [Bool.and_eq_true, and_assoc]) dn)) ?_
                refine kS rfl (fun _ k_ => p_pkF rfl (rfl : _ = B (!((r13.1.Low == r179.Low) && (r13.1.High == r179.High)))) dn) ?_
                refine kS rfl (fun _ k_ => p_mB rfl dn) ?_
                refine kB c181 ?_
                refine kS rfl (fun _ k_ => gT rfl rfl (p_ldA ty49 sz49 (Asr.stays (S98.atX (i := 4) rfl) k_) rfl rfl dn)) ?_
                refine kS rfl (fun _ k_ => gT rfl rfl (p_cvD (B_Range_ok h198) fu41 rfl)) ?_
                refine kS rfl (fun _ k_ => gT rfl rfl (o_neA (xs := [I r32.1.Low, I r32.1.High]) (ys := [I r197.Low, I r197.High]) (T := ((r32.1.Low == r197.Low) && (r32.1.High == r197.High))) rfl rfl eq49 ⟨⟨_, rfl⟩, ⟨⟨_, rfl⟩, trivial⟩⟩ ⟨⟨_, rfl⟩, ⟨⟨_, rfl⟩, trivial⟩⟩ (by simp [Bool.and_eq_true, and_assoc]) dn)) ?_
                refine kS rfl (fun _ k_ => p_pkF rfl (rfl : _ = B (!((r32.1.Low == r197.Low) && (r32.1.High == r197.High)))) dn) ?_
                refine kS rfl (fun _ k_ => p_mB rfl dn) ?_
                refine kB c199 ?_
                refine kS rfl (fun _ k_ => gF rfl rfl dnU) ?_
                refine kS rfl (fun _ k_ => gF rfl rfl dnU) ?_
                refine kS rfl (fun _ k_ => p_pkT rfl (rfl : _ = B true) dn) ?_
                refine kS rfl (fun _ k_ => p_mB rfl dn) ?_
                refine kS rfl (fun _ k_ => gF rfl rfl dnU) ?_
                refine kS rfl (fun _ k_ => gF rfl rfl dnU) ?_
                refine kS rfl (fun _ k_ => gF rfl rfl dnU) ?_
                refine kS rfl (fun _ k_ => p_pkT rfl (rfl : _ = B true) dn) ?_
                refine kS rfl (fun _ k_ => p_mB rfl dn) ?_
                refine kS rfl (fun _ k_ => gF rfl rfl dnU) ?_
                refine kC rfl ?_
                refine kC rfl ?_
                refine kC rfl ?_
                refine kC rfl ?_
                intro w200 k201; have S202 := S98.call k201
                refine gF rfl rfl (cN (Keep.refl _ _) fun w203 k204 => ?_)
                have S205 := S202.call k204
                refine gF rfl rfl (cN (Keep.refl _ _) fun w206 k207 => ?_)
                have S208 := S205.call k207
                refine gF rfl rfl (cN (Keep.refl _ _) fun w209 k210 => ?_)
                have S211 := S208.call k210
                refine p_pkT rfl (rfl : _ = B true) (cN (Keep.refl _ _) fun w212 k213 => ?_)
                have S214 := S211.call k213
                refine wp_nil ?_
                refine c_true rfl ?_
                refine c_seq ?_
                refine reg ?_
                refine p_aB rfl ?_
                refine wp_nil ?_
                obtain rfl := Option.some.inj H
                refine c_ret ?_; show bodyPostM (Fr none) 0 Tryd.prog Tryd.f19 _ .ret _ _
                refine ret_of (res1 rfl (rvT (rfl : _ = B false))) ?_
                exact ⟨_, rfl, rfl, S214.keep⟩
              · replace H := condF c199 H
                rcases Bool.eq_false_or_eq_true (!r56.1) with c215 | c215
                · replace H := condT c215 H
                  refine reg_c mixed 43 [39, 40, 41, 42] (by kernel_rfl) ?_
                  refine kS rfl (fun _ k_ => p_mI rfl dn) ?_
                  refine kS rfl (fun _ k_ => p_cmp rfl rfl rfl dn) ?_
                  refine kS rfl (fun _ k_ => p_mB rfl dn) ?_
                  refine kB c99 ?_
                  refine kS rfl (fun _ k_ => gT rfl rfl (p_mI rfl dn)) ?_
                  refine kS rfl (fun _ k_ => gT rfl rfl (p_cmp rfl rfl rfl dn)) ?_
                  refine kS rfl (fun _ k_ => p_pkF rfl (rfl : _ = B (r32.2 != 0)) dn) ?_
                  refine kS rfl (fun _ k_ => p_mB rfl dn) ?_
                  refine kB c115 ?_
                  refine kS rfl (fun _ k_ => gT rfl rfl (p_mI rfl dn)) ?_
                  refine kS rfl (fun _ k_ => gT rfl rfl (p_cmp rfl rfl rfl dn)) ?_
                  refine kS rfl (fun _ k_ => p_pkF rfl (rfl : _ = B (r56.2 != 0)) dn) ?_
                  refine kS rfl (fun _ k_ => p_mB rfl dn) ?_
                  refine kB c131 ?_
                  refine kS rfl (fun _ k_ => gT rfl rfl (p_mI rfl dn)) ?_
                  refine kS rfl (fun _ k_ => gT rfl rfl (p_cmp rfl rfl rfl dn)) ?_
                  refine kS rfl (fun _ k_ => p_pkF rfl (rfl : _ = B (r70.2 != 0)) dn) ?_
                  refine kS rfl (fun _ k_ => p_mB rfl dn) ?_
                  refine kB c147 ?_
                  refine kS rfl (fun _ k_ => gT rfl rfl (p_mI rfl dn)) ?_
                  refine kS rfl (fun _ k_ => gT rfl rfl (p_cmp rfl rfl rfl dn)) ?_
                  refine kS rfl (fun _ k_ => p_pkF rfl (rfl : _ = B (r90.2 != 0)) dn) ?_
                  refine kS rfl (fun _ k_ => p_mB rfl dn) ?_
                  refine kB c163 ?_
                  refine kS rfl (fun _ k_ => gT rfl rfl (p_ldA ty49 sz49 (Asr.stays (S98.atX (i := 6) rfl) k_) rfl rfl dn)) ?_
                  refine kS rfl (fun _ k_ => gT rfl rfl (p_cvD (B_Range_ok h180) fu41 rfl)) ?_
                  refine kS rfl (fun _ k_ => gT rfl rfl (o_neA (xs := [I r13.1.Low, I r13.1.High]) (ys := [I r179.Low, I r179.High]) (T := ((r13.1.Low == r179.Low) && (r13.1.High == r179.High))) rfl rfl eq49 ⟨⟨_, rfl⟩, ⟨⟨_, rfl⟩, trivial⟩⟩ ⟨⟨_, rfl⟩, ⟨⟨_, rfl⟩, trivial⟩⟩ (by simp [Bool.and_eq_true, and_assoc]) dn)) ?_
                  refine kS rfl (fun _ k_ => p_pkF rfl (rfl : _ = B (!((r13.1.Low == r179.Low) && (r13.1.High == r179.High)))) dn) ?_
                  refine kS rfl (fun _ k_ => p_mB rfl dn) ?_
                  refine kB c181 ?_
                  refine kS rfl (fun _ k_ => gT rfl rfl (p_ldA ty49 sz49 (Asr.stays (S98.atX (i := 4) rfl) k_) rfl rfl dn)) ?_
                  refine kS rfl (fun _ k_ => gT rfl rfl (p_cvD (B_Range_ok h198) fu41 rfl)) ?_
                  refine kS rfl (fun _ k_ => gT rfl rfl (o_neA (xs := [I r32.1.Low, I r32.1.High]) (ys := [I r197.Low, I r197.High]) (T := ((r32.1.Low == r197.Low) && (r32.1.High == r197.High))) rfl rfl eq49 ⟨⟨_, rfl⟩, ⟨⟨_, rfl⟩, trivial⟩⟩ ⟨⟨_, rfl⟩, ⟨⟨_, rfl⟩, trivial⟩⟩ (by simp [Bool.and_eq_true, and_assoc]) dn)) ?_
                  refine kS rfl (fun _ k_ => p_pkF rfl (rfl : _ = B (!((r32.1.Low == r197.Low) && (r32.1.High == r197.High)))) dn) ?_
                  refine kS rfl (fun _ k_ => p_mB rfl dn) ?_
                  refine kB c199 ?_
                  refine kS rfl (fun _ k_ => gT rfl rfl (p_mB rfl dn)) ?_
                  refine kS rfl (fun _ k_ => gT rfl rfl (p_not rfl dn)) ?_
                  refine kS rfl (fun _ k_ => p_pkF rfl (rfl : _ = B (!r56.1)) dn) ?_
                  refine kS rfl (fun _ k_ => p_mB rfl dn) ?_
                  refine kB c215 ?_
                  refine kS rfl (fun _ k_ => gF rfl rfl dnU) ?_
                  refine kS rfl (fun _ k_ => gF rfl rfl dnU) ?_
                  refine kS rfl (fun _ k_ => gF rfl rfl dnU) ?_
                  refine kS rfl (fun _ k_ => p_pkT rfl (rfl : _ = B true) dn) ?_
                  refine kS rfl (fun _ k_ => p_mB rfl dn) ?_
                  refine kS rfl (fun _ k_ => gF rfl rfl dnU) ?_
                  refine kC rfl ?_
                  refine kC rfl ?_
                  refine kC rfl ?_
                  refine kC rfl ?_
                  intro w216 k217; have S218 := S98.call k217
                  refine gF rfl rfl (cN (Keep.refl _ _) fun w219 k220 => ?_)
                  have S221 := S218.call k220
                  refine gF rfl rfl (cN (Keep.refl _ _) fun w222 k223 => ?_)
                  have S224 := S221.call k223
                  refine gF rfl rfl (cN (Keep.refl _ _) fun w225 k226 => ?_)
                  have S227 := S224.call k226
                  refine p_pkT rfl (rfl : _ = B true) (cN (Keep.refl _ _) fun w228 k229 => ?_)
                  have S230 := S227.call k229
                  refine wp_nil ?_
                  refine c_true rfl ?_
                  refine c_seq ?_
                  refine reg ?_
                  refine p_aB rfl ?_
                  refine wp_nil ?_
                  obtain rfl := Option.some.inj H
                  refine c_ret ?_; show bodyPostM (Fr none) 0 Tryd.prog Tryd.f19 _ .ret _ _
                  refine ret_of (res1 rfl (rvT (rfl : _ = B false))) ?_
                  exact ⟨_, rfl, rfl, S230.keep⟩
                · replace H := condF c215 H
                  obtain ⟨r231, h232, H⟩ := bindS H
                  rcases Bool.eq_false_or_eq_true (!((r70.1.Low == r231.Low) && (r70.1.High == r231.High))) with c233 | c233
                  · replace H := condT c233 H
                    refine reg_c mixed 43 [39, 40, 41, 42] (by kernel_rfl) ?_
                    refine kS rfl (fun _ k_ => p_mI rfl dn) ?_
                    refine kS rfl (fun _ k_ => p_cmp rfl rfl rfl dn) ?_
                    refine kS rfl (fun _ k_ => p_mB rfl dn) ?_
                    refine kB c99 ?_
                    refine kS rfl (fun _ k_ => gT rfl rfl (p_mI rfl dn)) ?_
                    refine kS rfl (fun _ k_ => gT rfl rfl (p_cmp rfl rfl rfl dn)) ?_
                    refine kS rfl (fun _ k_ => p_pkF rfl (rfl : _ = B (r32.2 != 0)) dn) ?_
                    refine kS rfl (fun _ k_ => p_mB rfl dn) ?_
                    refine kB c115 ?_
                    refine kS rfl (fun _ k_ => gT rfl rfl (p_mI rfl dn)) ?_
                    refine kS rfl (fun _ k_ => gT rfl rfl (p_cmp rfl rfl rfl dn)) ?_
                    refine kS rfl (fun _ k_ => p_pkF rfl (rfl : _ = B (r56.2 != 0)) dn) ?_
                    refine kS rfl (fun _ k_ => p_mB rfl dn) ?_
                    refine kB c131 ?_
                    refine kS rfl (fun _ k_ => gT rfl rfl (p_mI rfl dn)) ?_
                    refine kS rfl (fun _ k_ => gT rfl rfl (p_cmp rfl rfl rfl dn)) ?_
                    refine kS rfl (fun _ k_ => p_pkF rfl (rfl : _ = B (r70.2 != 0)) dn) ?_
                    refine kS rfl (fun _ k_ => p_mB rfl dn) ?_
                    refine kB c147 ?_
                    refine kS rfl (fun _ k_ => gT rfl rfl (p_mI rfl dn)) ?_
                    refine kS rfl (fun _ k_ => gT rfl rfl (p_cmp rfl rfl rfl dn)) ?_
                    refine kS rfl (fun _ k_ => p_pkF rfl (rfl : _ = B (r90.2 != 0)) dn) ?_
                    refine kS rfl (fun _ k_ => p_mB rfl dn) ?_
                    refine kB c163 ?_
                    refine kS rfl (fun _ k_ => gT rfl rfl (p_ldA ty49 sz49 (Asr.stays (S98.atX (i := 6) rfl) k_) rfl rfl dn)) ?_
                    refine kS rfl (fun _ k_ => gT rfl rfl (p_cvD (B_Range_ok h180) fu41 rfl)) ?_
                    refine kS rfl (fun _ k_ => gT rfl rfl (o_neA (xs := [I r13.1.Low, I r13.1.High]) (ys := [I r179.Low, I r179.High]) (T := ((r13.1.Low == r179.Low) && (r13.1.High == r179.High))) rfl rfl eq49 ⟨⟨_, rfl⟩, ⟨⟨_, rfl⟩, trivial⟩⟩ ⟨⟨_, rfl⟩, ⟨⟨_, rfl⟩, trivial⟩⟩ (by simp [Bool.and_eq_true, and_assoc]) dn)) ?_
                    refine kS rfl (fun _ k_ => p_pkF rfl (rfl : _ = B (!((r13.1.Low == r179.Low) && (r13.1.High == r179.High)))) dn) ?_
                    refine kS rfl (fun _ k_ => p_mB rfl dn) ?_
                    refine kB c181 ?_
                    refine kS rfl (fun _ k_ => gT rfl rfl (p_ldA ty49 sz49 (Asr.stays (S98.atX (i := 4) rfl) k_) rfl rfl dn)) ?_
                    refine kS rfl (fun _ k_ => gT rfl rfl (p_cvD (B_Range_ok h198) fu41 rfl)) ?_
                    refine kS rfl (fun _ k_ => gT rfl rfl (o_neA (xs := [I r32.1.Low, I r32.1.High]) (ys := [I r197.Low, I r197.High]) (T := ((r32.1.Low == r197.Low) && (r32.1.High == r197.High))) rfl rfl eq49 ⟨⟨_, rfl⟩, ⟨⟨_, rfl⟩, trivial⟩⟩ ⟨⟨_, rfl⟩, ⟨⟨_, rfl⟩, trivial⟩⟩ (by simp [Bool.and_eq_true, and_assoc]) dn)) ?_
                    refine kS rfl (fun _ k_ => p_pkF rfl (rfl : _ = B (!((r32.1.Low == r197.Low) && (r32.1.High == r197.High)))) dn) ?_
                    refine kS rfl (fun _ k_ => p_mB rfl dn) ?_
                    refine kB c199 ?_
                    refine kS rfl (fun _ k_ => gT rfl rfl (p_mB rfl dn)) ?_
                    refine kS rfl (fun _ k_ => gT rfl rfl (p_not rfl dn)) ?_
                    refine kS rfl (fun _ k_ => p_pkF rfl (rfl : _ = B (!r56.1)) dn) ?_
                    refine kS rfl (fun _ k_ => p_mB rfl dn) ?_
                    refine kB c215 ?_
                    refine kS rfl (fun _ k_ => gT rfl rfl (p_ldA ty49 sz49 (Asr.stays (S98.atX (i := 0) rfl) k_) rfl rfl dn)) ?_
                    refine kS rfl (fun _ k_ => gT rfl rfl (p_cvD (B_Range_ok h232) fu41 rfl)) ?_
                    refine kS rfl (fun _ k_ => gT rfl rfl (o_neA (xs := [I r70.1.Low, I r70.1.High]) (ys := [I r231.Low, I r231.High]) (T := ((r70.1.Low == r231.Low) && (r70.1.High == r231.High))) rfl rfl eq49 ⟨⟨_, rfl⟩, ⟨⟨_, rfl⟩, trivial⟩⟩ ⟨⟨_, rfl⟩, ⟨⟨_, rfl⟩, trivial⟩⟩ (by simp [Bool.and_eq_true, and_assoc]) dn)) ?_
                    refine kS rfl (fun _ k_ => p_pkF rfl (rfl : _ = B (!((r70.1.Low == r231.Low) && (r70.1.High == r231.High)))) dn) ?_
                    refine kS rfl (fun _ k_ => p_mB rfl dn) ?_
                    refine kB c233 ?_
                    refine kS rfl (fun _ k_ => gF rfl rfl dnU) ?_
                    refine kC rfl ?_
                    refine kC rfl ?_
                    refine kC rfl ?_
                    refine kC rfl ?_
                    intro w234 k235; have S236 := S98.call k235
                    refine gF rfl rfl (cN (Keep.refl _ _) fun w237 k238 => ?_)
                    have S239 := S236.call k238
                    refine gF rfl rfl (cN (Keep.refl _ _) fun w240 k241 => ?_)
                    have S242 := S239.call k241
                    refine gF rfl rfl (cN (Keep.refl _ _) fun w243 k244 => ?_)
                    have S245 := S242.call k244
                    refine p_pkT rfl (rfl : _ = B true) (cN (Keep.refl _ _) fun w246 k247 => ?_)
                    have S248 := S245.call k247
                    refine wp_nil ?_
                    refine c_true rfl ?_
                    refine c_seq ?_
                    refine reg ?_
                    refine p_aB rfl ?_
                    refine wp_nil ?_
                    obtain rfl := Option.some.inj H
                    refine c_ret ?_; show bodyPostM (Fr none) 0 Tryd.prog Tryd.f19 _ .ret _ _
                    refine ret_of (res1 rfl (rvT (rfl : _ = B false))) ?_
                    exact ⟨_, rfl, rfl, S248.keep⟩
                  · replace H := condF c233 H
                    refine reg_c mixed 43 [39, 40, 41, 42] (by kernel_rfl) ?_
                    refine kS rfl (fun _ k_ => p_mI rfl dn) ?_
                    refine kS rfl (fun _ k_ => p_cmp rfl rfl rfl dn) ?_
                    refine kS rfl (fun _ k_ => p_mB rfl dn) ?_
                    refine kB c99 ?_
                    refine kS rfl (fun _ k_ => gT rfl rfl (p_mI rfl dn)) ?_
                    refine kS rfl (fun _ k_ => gT rfl rfl (p_cmp rfl rfl rfl dn)) ?_
                    refine kS rfl (fun _ k_ => p_pkF rfl (rfl : _ = B (r32.2 != 0)) dn) ?_
                    refine kS rfl (fun _ k_ => p_mB rfl dn) ?_
                    refine kB c115 ?_
                    refine kS rfl (fun _ k_ => gT rfl rfl (p_mI rfl dn)) ?_
                    refine kS rfl (fun _ k_ => gT rfl rfl (p_cmp rfl rfl rfl dn)) ?_
                    refine kS rfl (fun _ k_ => p_pkF rfl (rfl : _ = B (r56.2 != 0)) dn) ?_
                    refine kS rfl (fun _ k_ => p_mB rfl dn) ?_
                    refine kB c131 ?_
                    refine kS rfl (fun _ k_ => gT rfl rfl (p_mI rfl dn)) ?_
                    refine kS rfl (fun _ k_ => gT rfl rfl (p_cmp rfl rfl rfl dn)) ?_
                    refine kS rfl (fun _ k_ => p_pkF rfl (rfl : _ = B (r70.2 != 0)) dn) ?_
                    refine kS rfl (fun _ k_ => p_mB rfl dn) ?_
                    refine kB c147 ?_
                    refine kS rfl (fun _ k_ => gT rfl rfl (p_mI rfl dn)) ?_
                    refine kS rfl (fun _ k_ => gT rfl rfl (p_cmp rfl rfl rfl dn)) ?_
                    refine kS rfl (fun _ k_ => p_pkF rfl (rfl : _ = B (r90.2 != 0)) dn) ?_
                    refine kS rfl (fun _ k_ => p_mB rfl dn) ?_
                    refine kB c163 ?_
                    refine kS rfl (fun _ k_ => gT rfl rfl (p_ldA ty49 sz49 (Asr.stays (S98.atX (i := 6) rfl) k_) rfl rfl dn)) ?_
                    refine kS rfl (fun _ k_ => gT rfl rfl (p_cvD (B_Range_ok h180) fu41 rfl)) ?_
                    refine kS rfl (fun _ k_ => gT rfl rfl (o_neA (xs := [I r13.1.Low, I r13.1.High]) (ys := [I r179.Low, I r179.High]) (T := ((r13.1.Low == r179.Low) && (r13.1.High == r179.High))) rfl rfl eq49 ⟨⟨_, rfl⟩, ⟨⟨_, rfl⟩, trivial⟩⟩ ⟨⟨_, rfl⟩, ⟨⟨_, rfl⟩, trivial⟩⟩ (by simp [Bool.and_eq_true, and_assoc]) dn)) ?_
                    refine kS rfl (fun _ k_ => p_pkF rfl (rfl : _ = B (!((r13.1.Low == r179.Low) && (r13.1.High == r179.High)))) dn) ?_
                    refine kS rfl (fun _ k_ => p_mB rfl dn) ?_
                    refine kB c181 ?_
                    refine kS rfl (fun _ k_ => gT rfl rfl (p_ldA ty49 sz49 (Asr.stays (S98.atX (i := 4) rfl) k_) rfl rfl dn)) ?_
                    refine kS rfl (fun _ k_ => gT rfl rfl (p_cvD (B_Range_ok h198) fu41 rfl)) ?_
                    refine kS rfl (fun _ k_ => gT rfl rfl (o_neA (xs := [I r32.1.Low, I r32.1.High]) (ys := [I r197.Low, I r197.High]) (T := ((r32.1.Low == r197.Low) && (r32.1.High == r197.High))) rfl rfl eq49 ⟨⟨_, rfl⟩, ⟨⟨_, rfl⟩, trivial⟩⟩ ⟨⟨_, rfl⟩, ⟨⟨_, rfl⟩, trivial⟩⟩ (by simp [Bool.and_eq_true, and_assoc]) dn)) ?_
                    refine kS rfl (fun _ k_ => p_pkF rfl (rfl : _ = B (!((r32.1.Low == r197.Low) && (r32.1.High == r197.High)))) dn) ?_
                    refine kS rfl (fun _ k_ => p_mB rfl dn) ?_
                    refine kB c199 ?_
                    refine kS rfl (fun _ k_ => gT rfl rfl (p_mB rfl dn)) ?_
                    refine kS rfl (fun _ k_ => gT rfl rfl (p_not rfl dn)) ?_
                    refine kS rfl (fun _ k_ => p_pkF rfl (rfl : _ = B (!r56.1)) dn) ?_
                    refine kS rfl (fun _ k_ => p_mB rfl dn) ?_
                    refine kB c215 ?_
                    refine kS rfl (fun _ k_ => gT rfl rfl (p_ldA ty49 sz49 (Asr.stays (S98.atX (i := 0) rfl) k_) rfl rfl dn)) ?_
                    refine kS rfl (fun _ k_ => gT rfl rfl (p_cvD (B_Range_ok h232) fu41 rfl)) ?_
                    refine kS rfl (fun _ k_ => gT rfl rfl (o_neA (xs := [I r70.1.Low, I r70.1.High]) (ys := [I r231.Low, I r231.High]) (T := ((r70.1.Low == r231.Low) && (r70.1.High == r231.High))) rfl rfl eq49 ⟨⟨_, rfl⟩, ⟨⟨_, rfl⟩, trivial⟩⟩ ⟨⟨_, rfl⟩, ⟨⟨_, rfl⟩, trivial⟩⟩ (by simp [Bool.and_eq_true, and_assoc]) dn)) ?_
                    refine kS rfl (fun _ k_ => p_pkF rfl (rfl : _ = B (!((r70.1.Low == r231.Low) && (r70.1.High == r231.High)))) dn) ?_
                    refine kS rfl (fun _ k_ => p_mB rfl dn) ?_
                    refine kB c233 ?_
                    refine kS rfl (fun _ k_ => gT rfl rfl (p_mS rfl dn)) ?_
                    refine kC rfl ?_
                    refine kC rfl ?_
                    refine kC rfl ?_
                    refine kC rfl ?_
                    intro w249 k250; have S251 := S98.call k250
                    refine gT rfl rfl ?_
                    have S257 := S251.base
                    refine p_bsl (enc := intE) (l := ([0] : List Int)) I (fun _ => rfl) sc31 in3 intE_len rfl (by decide) (by decide) zr3_1 S257 rfl fun A252 c253 w254 S255 => ?_
                    refine cN S255.keep fun w258 k259 => ?_
                    have S260 := (S251.fromBase S255).call k259
                    obtain ⟨r261, h262, H⟩ := bindS H
                    refine gT rfl rfl <| p_cal (B_Alike_ok h262 (S260.atP (i := 0) rfl) (gr_rd intE_len (S260.atX (i := 0) rfl))) fu22 rfl ?_
                    rintro _ w263 ⟨rfl, k264⟩; refine cN k264 fun w265 k266 => ?_
                    have S267 := (S260.call k264).call k266
                    refine gT rfl rfl (p_not rfl (cN (Keep.refl _ _) fun w268 k269 => ?_))
                    have S270 := S267.call k269
                    refine p_pkF rfl (rfl : _ = B (!r261)) (cN (Keep.refl _ _) fun w271 k272 => ?_)
                    have S273 := S270.call k272
                    refine wp_nil ?_
                    refine c_cond rfl (fun c274 => ?_) (fun c274 => ?_)
                    · replace H := condT c274 H
                      refine c_seq ?_
                      refine reg ?_
                      refine p_aB rfl ?_
                      refine wp_nil ?_
                      obtain rfl := Option.some.inj H
                      refine c_ret ?_; show bodyPostM (Fr none) 0 Tryd.prog Tryd.f19 _ .ret _ _
                      refine ret_of (res1 rfl (rvT (rfl : _ = B false))) ?_
                      exact ⟨_, rfl, rfl, S273.keep⟩
                    · replace H := condF c274 H
                      refine c_skip ?_
                      refine c_seq ?_
                      refine reg ?_
                      obtain ⟨r275, h276, H⟩ := bindS H
                      refine p_cal (law_torn_ok h276) fu54 rfl ?_
                      rintro _ w277 ⟨A279, c280, rfl, k278, ⟨o281, n282⟩, _⟩
                      have S284 := S273.addNew k278 o281 n282
                      obtain ⟨r285, h286, H⟩ := bindS H
                      refine p_cal (tally_Whose_ok h286 (gr_rd eTallyCount_len (S284.atX (i := 0) rfl)) (S284.atP (i := 2) rfl) (S284.atP (i := 3) rfl)) fu31 rfl ?_
                      rintro _ w287 ⟨A289, c290, rfl, k288, ⟨o291, n292⟩, _⟩
                      have S293 := S284.callN k288 [rd intE 1 A289 c290 r285.1] (List.forall_mem_cons.2 ⟨⟨o291, New.inL n292⟩, (fun _ h_ => (List.not_mem_nil h_).elim)⟩)
                      refine p_mT rfl ?_
                      refine p_ext rfl rfl ?_
                      refine p_ext rfl rfl ?_
                      refine p_aS rfl ?_
                      refine p_aI rfl ?_
                      refine wp_nil ?_
                      refine c_seq ?_
                      refine reg ?_
                      obtain ⟨r294, h295, H⟩ := bindS H
                      refine p_cal (law_own_ok h295) fu52 rfl ?_
                      rintro _ w296 ⟨A298, c299, rfl, k297, ⟨o300, n301⟩, _⟩
                      have S303 := S293.addNew k297 o300 n301
                      obtain ⟨r304, h305, H⟩ := bindS H
                      refine p_cv (tally_Again_ok h305 (gr_rd eTallyCount_len (S303.atX (i := 0) rfl)) (S303.atP (i := 3) rfl) (S303.atP (i := 4) rfl)) fu50 rfl S303 fun w306 S307 => ?_
                      refine p_mT rfl ?_
                      refine p_ext rfl rfl ?_
                      refine p_ext rfl rfl ?_
                      refine p_aI rfl ?_
                      refine p_aI rfl ?_
                      refine wp_nil ?_
                      refine c_seq ?_
                      refine reg ?_
                      obtain ⟨r308, h309, H⟩ := bindS H
                      refine p_cal (law_own_ok h309) fu52 rfl ?_
                      rintro _ w310 ⟨A312, c313, rfl, k311, ⟨o314, n315⟩, _⟩
                      have S317 := S307.addNew k311 o314 n315
                      obtain ⟨r318, h319, H⟩ := bindS H
                      refine p_cv (law_count_ok h319) fu37 rfl S317 fun w320 S321 => ?_
                      obtain ⟨r322, h323, H⟩ := bindS H
                      refine p_cv (tally_Fits_ok h323 (gr_rd eTallyCount_len (S321.atX (i := 0) rfl)) (S321.atP (i := 3) rfl) (S321.atP (i := 4) rfl)) fu36 rfl S321 fun w324 S325 => ?_
                      refine p_mT rfl ?_
                      refine p_ext rfl rfl ?_
                      refine p_ext rfl rfl ?_
                      refine p_aB rfl ?_
                      refine p_aI rfl ?_
                      refine wp_nil ?_
                      refine c_seq ?_
                      refine reg ?_
                      obtain ⟨r326, h327, H⟩ := bindS H
                      refine p_cal (law_torn_ok h327) fu54 rfl ?_
                      rintro _ w328 ⟨A330, c331, rfl, k329, ⟨o332, n333⟩, _⟩
                      have S335 := S325.addNew k329 o332 n333
                      obtain ⟨r336, h337, H⟩ := bindS H
                      refine p_cv (tally_Right_ok h337 (gr_rd eTallyCount_len (S335.atX (i := 0) rfl)) (S335.atP (i := 3) rfl) (S335.atP (i := 4) rfl)) fu28 rfl S335 fun w338 S339 => ?_
                      refine p_mT rfl ?_
                      refine p_ext rfl rfl ?_
                      refine p_ext rfl rfl ?_
                      refine p_aB rfl ?_
                      refine p_aI rfl ?_
                      refine wp_nil ?_
                      refine c_seq ?_
                      refine reg ?_
                      refine p_mI rfl ?_
                      refine p_cmp rfl rfl rfl ?_
                      refine p_mB rfl ?_
                      rcases Bool.eq_false_or_eq_true ((r285.2 == 0)) with c340 | c340
                      · replace H := condT c340 H
                        refine eB c340 ?_
                        refine gT rfl rfl (p_mI rfl ?_)
                        refine gT rfl rfl (p_cmp rfl rfl rfl ?_)
                        refine p_pkT rfl (rfl : _ = B (r304.2 == 0)) ?_
                        refine p_mB rfl ?_
                        rcases Bool.eq_false_or_eq_true ((r304.2 == 0)) with c341 | c341
                        · replace H := condT c341 H
                          refine eB c341 ?_
                          refine gT rfl rfl (p_mI rfl ?_)
                          refine gT rfl rfl (p_cmp rfl rfl rfl ?_)
                          refine p_pkT rfl (rfl : _ = B (r322.2 == 0)) ?_
                          refine p_mB rfl ?_
                          rcases Bool.eq_false_or_eq_true ((r322.2 == 0)) with c342 | c342
                          · replace H := condT c342 H
                            refine eB c342 ?_
                            refine gT rfl rfl (p_mI rfl ?_)
                            refine gT rfl rfl (p_cmp rfl rfl rfl ?_)
                            refine p_pkT rfl (rfl : _ = B (r336.2 == 0)) ?_
                            refine p_mB rfl ?_
                            rcases Bool.eq_false_or_eq_true ((r336.2 == 0)) with c343 | c343
                            · replace H := condT c343 H
                              refine eB c343 ?_
                              refine gT rfl rfl (p_mS rfl ?_)
                              refine gT rfl rfl ?_
                              refine p_bsl (enc := intE) (l := [0, 2]) I (fun _ => rfl) sc31 in3 intE_len rfl (by decide) (by decide) zr3_2 S339 rfl fun A344 c345 w346 S347 => ?_
                              obtain ⟨r349, h350, H⟩ := bindS H
                              refine gT rfl rfl (p_cv (B_Alike_ok h350 (S347.atP (i := 0) rfl) (gr_rd intE_len (S347.atX (i := 0) rfl))) fu22 rfl S347 fun w351 S352 => ?_)
                              refine p_pkT rfl (rfl : _ = B r349) ?_
                              refine p_mB rfl ?_
                              rcases Bool.eq_false_or_eq_true (r349) with c353 | c353
                              · replace H := condT c353 H
                                refine eB c353 ?_
                                refine gT rfl rfl (p_mI rfl ?_)
                                refine gT rfl rfl (p_cmp rfl rfl rfl ?_)
                                refine p_pkT rfl (rfl : _ = B (r304.1 == 3)) ?_
                                refine p_mB rfl ?_
                                rcases Bool.eq_false_or_eq_true ((r304.1 == 3)) with c354 | c354
                                · replace H := condT c354 H
                                  refine eB c354 ?_
                                  refine gT rfl rfl (p_mB rfl ?_)
                                  refine p_pkT rfl (rfl : _ = B r322.1) ?_
                                  refine p_mB rfl ?_
                                  rcases Bool.eq_false_or_eq_true (r322.1) with c355 | c355
                                  · replace H := condT c355 H
                                    refine eB c355 ?_
                                    refine gT rfl rfl (p_mB rfl ?_)
                                    refine gT rfl rfl (p_not rfl ?_)
                                    refine p_pkT rfl (rfl : _ = B (!r336.1)) ?_
                                    refine p_aB rfl ?_
                                    refine wp_nil ?_
                                    obtain rfl := Option.some.inj H
                                    refine c_ret ?_; show bodyPostM (Fr none) 0 Tryd.prog Tryd.f19 _ .ret _ _
                                    refine ret_of (res1 rfl (rvT (rfl : _ = B (!r336.1)))) ?_
                                    exact ⟨_, rfl, rfl, S352.keep⟩
                                  · replace H := condF c355 H
                                    refine eB c355 ?_
                                    refine gF rfl rfl ?_
                                    refine gF rfl rfl ?_
                                    refine p_pkF rfl (rfl : _ = B false) ?_
                                    refine p_aB rfl ?_
                                    refine wp_nil ?_
                                    obtain rfl := Option.some.inj H
                                    refine c_ret ?_; show bodyPostM (Fr none) 0 Tryd.prog Tryd.f19 _ .ret _ _
                                    refine ret_of (res1 rfl (rvT (rfl : _ = B false))) ?_
                                    exact ⟨_, rfl, rfl, S352.keep⟩
                                · replace H := condF c354 H
                                  refine eB c354 ?_
                                  refine gF rfl rfl ?_
                                  refine p_pkF rfl (rfl : _ = B false) ?_
                                  refine p_mB rfl ?_
                                  refine gF rfl rfl ?_
                                  refine gF rfl rfl ?_
                                  refine p_pkF rfl (rfl : _ = B false) ?_
                                  refine p_aB rfl ?_
                                  refine wp_nil ?_
                                  obtain rfl := Option.some.inj H
                                  refine c_ret ?_; show bodyPostM (Fr none) 0 Tryd.prog Tryd.f19 _ .ret _ _
                                  refine ret_of (res1 rfl (rvT (rfl : _ = B false))) ?_
                                  exact ⟨_, rfl, rfl, S352.keep⟩
                              · replace H := condF c353 H
                                refine eB c353 ?_
                                refine gF rfl rfl ?_
                                refine gF rfl rfl ?_
                                refine p_pkF rfl (rfl : _ = B false) ?_
                                refine p_mB rfl ?_
                                refine gF rfl rfl ?_
                                refine p_pkF rfl (rfl : _ = B false) ?_
                                refine p_mB rfl ?_
                                refine gF rfl rfl ?_
                                refine gF rfl rfl ?_
                                refine p_pkF rfl (rfl : _ = B false) ?_
                                refine p_aB rfl ?_
                                refine wp_nil ?_
                                obtain rfl := Option.some.inj H
                                refine c_ret ?_; show bodyPostM (Fr none) 0 Tryd.prog Tryd.f19 _ .ret _ _
                                refine ret_of (res1 rfl (rvT (rfl : _ = B false))) ?_
                                exact ⟨_, rfl, rfl, S352.keep⟩
                            · replace H := condF c343 H
                              refine eB c343 ?_
                              refine gF rfl rfl ?_
                              refine gF rfl rfl ?_
                              refine gF rfl rfl ?_
                              refine p_pkF rfl (rfl : _ = B false) ?_
                              refine p_mB rfl ?_
                              refine gF rfl rfl ?_
                              refine gF rfl rfl ?_
                              refine p_pkF rfl (rfl : _ = B false) ?_
                              refine p_mB rfl ?_
                              refine gF rfl rfl ?_
                              refine p_pkF rfl (rfl : _ = B false) ?_
                              refine p_mB rfl ?_
                              refine gF rfl rfl ?_
                              refine gF rfl rfl ?_
                              refine p_pkF rfl (rfl : _ = B false) ?_
                              refine p_aB rfl ?_
                              refine wp_nil ?_
                              obtain rfl := Option.some.inj H
                              refine c_ret ?_; show bodyPostM (Fr none) 0 Tryd.prog Tryd.f19 _ .ret _ _
                              refine ret_of (res1 rfl (rvT (rfl : _ = B false))) ?_
                              exact ⟨_, rfl, rfl, S339.keep⟩
                          · replace H := condF c342 H
                            refine eB c342 ?_
                            refine gF rfl rfl ?_
                            refine gF rfl rfl ?_
                            refine p_pkF rfl (rfl : _ = B false) ?_
                            refine p_mB rfl ?_
                            refine gF rfl rfl ?_
                            refine gF rfl rfl ?_
                            refine gF rfl rfl ?_
                            refine p_pkF rfl (rfl : _ = B false) ?_
                            refine p_mB rfl ?_
                            refine gF rfl rfl ?_
                            refine gF rfl rfl ?_
                            refine p_pkF rfl (rfl : _ = B false) ?_
                            refine p_mB rfl ?_
                            refine gF rfl rfl ?_
                            refine p_pkF rfl (rfl : _ = B false) ?_
                            refine p_mB rfl ?_
                            refine gF rfl rfl ?_
                            refine gF rfl rfl ?_
                            refine p_pkF rfl (rfl : _ = B false) ?_
                            refine p_aB rfl ?_
                            refine wp_nil ?_
                            obtain rfl := Option.some.inj H
                            refine c_ret ?_; show bodyPostM (Fr none) 0 Tryd.prog Tryd.f19 _ .ret _ _
                            refine ret_of (res1 rfl (rvT (rfl : _ = B false))) ?_
                            exact ⟨_, rfl, rfl, S339.keep⟩
                        · replace H := condF c341 H
                          refine eB c341 ?_
                          refine gF rfl rfl ?_
                          refine gF rfl rfl ?_
                          refine p_pkF rfl (rfl : _ = B false) ?_
                          refine p_mB rfl ?_
                          refine gF rfl rfl ?_
                          refine gF rfl rfl ?_
                          refine p_pkF rfl (rfl : _ = B false) ?_
                          refine p_mB rfl ?_
                          refine gF rfl rfl ?_
                          refine gF rfl rfl ?_
                          refine gF rfl rfl ?_
                          refine p_pkF rfl (rfl : _ = B false) ?_
                          refine p_mB rfl ?_
                          refine gF rfl rfl ?_
                          refine gF rfl rfl ?_
                          refine p_pkF rfl (rfl : _ = B false) ?_
                          refine p_mB rfl ?_
                          refine gF rfl rfl ?_
                          refine p_pkF rfl (rfl : _ = B false) ?_
                          refine p_mB rfl ?_
                          refine gF rfl rfl ?_
                          refine gF rfl rfl ?_
                          refine p_pkF rfl (rfl : _ = B false) ?_
                          refine p_aB rfl ?_
                          refine wp_nil ?_
                          obtain rfl := Option.some.inj H
                          refine c_ret ?_; show bodyPostM (Fr none) 0 Tryd.prog Tryd.f19 _ .ret _ _
                          refine ret_of (res1 rfl (rvT (rfl : _ = B false))) ?_
                          exact ⟨_, rfl, rfl, S339.keep⟩
                      · replace H := condF c340 H
                        refine eB c340 ?_
                        refine gF rfl rfl ?_
                        refine gF rfl rfl ?_
                        refine p_pkF rfl (rfl : _ = B false) ?_
                        refine p_mB rfl ?_
                        refine gF rfl rfl ?_
                        refine gF rfl rfl ?_
                        refine p_pkF rfl (rfl : _ = B false) ?_
                        refine p_mB rfl ?_
                        refine gF rfl rfl ?_
                        refine gF rfl rfl ?_
                        refine p_pkF rfl (rfl : _ = B false) ?_
                        refine p_mB rfl ?_
                        refine gF rfl rfl ?_
                        refine gF rfl rfl ?_
                        refine gF rfl rfl ?_
                        refine p_pkF rfl (rfl : _ = B false) ?_
                        refine p_mB rfl ?_
                        refine gF rfl rfl ?_
                        refine gF rfl rfl ?_
                        refine p_pkF rfl (rfl : _ = B false) ?_
                        refine p_mB rfl ?_
                        refine gF rfl rfl ?_
                        refine p_pkF rfl (rfl : _ = B false) ?_
                        refine p_mB rfl ?_
                        refine gF rfl rfl ?_
                        refine gF rfl rfl ?_
                        refine p_pkF rfl (rfl : _ = B false) ?_
                        refine p_aB rfl ?_
                        refine wp_nil ?_
                        obtain rfl := Option.some.inj H
                        refine c_ret ?_; show bodyPostM (Fr none) 0 Tryd.prog Tryd.f19 _ .ret _ _
                        refine ret_of (res1 rfl (rvT (rfl : _ = B false))) ?_
                        exact ⟨_, rfl, rfl, S339.keep⟩

def B_OwnInts (a0 : List Int) : Option (List Int) :=
  need (fitsL a0.length 8) <|
  some a0

set_option maxRecDepth 100000 in
theorem B_OwnInts_ok {a0 : List Int} {A1 : Option Addr} {c2 : Nat} {w : World} {r : (List Int)} (H : B_OwnInts a0 = some r) (h3 : (rd intE 1 A1 c2 a0).ok w) : Calls Tryd.prog 20 #[SL A1 a0.length c2] w fun en w_ => ∃ u_, en = .returned u_ ∧ ∃ A_1 : Option Addr, ∃ c_2 : Nat, u_ = SL A_1 r.length c_2 ∧ Keep0 w w_ ∧ ((rd intE 1 A_1 c_2 r).ok w_ ∧ New w.heap.size (rd intE 1 A_1 c_2 r)) ∧ True := by
  unfold B_OwnInts at H
  refine fn_of (n := 7) Tryd.func20 rfl rfl (Nat.le_of_ble_eq_true rfl) ?_
  have S : St w (fun _ => False) w [] [rd intE 1 A1 c2 a0] := St.start w _ _ (List.forall_mem_cons.2 ⟨h3, (fun _ h_ => (List.not_mem_nil h_).elim)⟩)
  refine c_seq ?_
  refine reg ?_
  refine p_aS rfl ?_
  refine wp_nil ?_
  refine c_seq ?_
  refine reg ?_
  refine p_mS rfl ?_
  refine p_cut0 sc31 rfl rfl rfl ?_
  refine p_mS rfl ?_
  obtain ⟨h8, H⟩ := needS H
  refine p_appC (enc := intE) sc31 in3 rfl intE_len (by decide) S (S.atP (i := 0) rfl).1 h8 rfl rfl fun A6 c7 w4 n9 S5 => ?_
  refine p_aS rfl ?_
  refine wp_nil ?_
  obtain rfl := Option.some.inj H
  refine c_ret ?_; show bodyPostM (Fr none) 0 Tryd.prog Tryd.f20 _ .ret _ _
  refine ret_of (res1 rfl (rvT (rfl : _ = SL A6 a0.length c7))) ?_
  exact ⟨_, rfl, A6, c7, rfl, S5.keep, ⟨(S5.atX (i := 0) rfl), (S5.newX (i := 0) rfl)⟩, trivial⟩

def B_Contains (a0 : Span) (a1 : Int) : Option Bool :=
  (B_Inside a1 a0.Low a0.High).bind fun r4 =>
  some r4

set_option maxRecDepth 100000 in
theorem B_Contains_ok {a0 : Span} {a1 : Int} {w : World} {r : Bool} (H : B_Contains a0 a1 = some r) : Calls Tryd.prog 34 #[AG [I a0.Low, I a0.High], I a1] w (RetV w (B r)) := by
  unfold B_Contains at H
  refine fn_of (n := 11) Tryd.func34 rfl rfl (Nat.le_of_ble_eq_true rfl) ?_
  have S : St w (fun _ => False) w [] [] := St.start w _ _ (fun _ h_ => (List.not_mem_nil h_).elim)
  refine c_seq ?_
  refine reg ?_
  refine p_boxA rfl S fun b1 w2 S3 => ?_
  refine p_aB rfl ?_
  refine wp_nil ?_
  refine c_seq ?_
  refine reg ?_
  refine p_mI rfl ?_
  refine p_fld fl49_0 rfl ?_
  refine p_ld ty3 (S3.atX (i := 0) rfl) rfl rfl ?_
  refine p_fld fl49_1 rfl ?_
  refine p_ld ty3 (S3.atX (i := 0) rfl) rfl rfl ?_
  obtain ⟨r4, h5, H⟩ := bindS H
  refine p_cv (B_Inside_ok h5) fu40 rfl S3 fun w6 S7 => ?_
  refine p_aB rfl ?_
  refine wp_nil ?_
  obtain rfl := Option.some.inj H
  refine c_ret ?_; show bodyPostM (Fr none) 0 Tryd.prog Tryd.f34 _ .ret _ _
  refine ret_of (res1 rfl (rvT (rfl : _ = B r4))) ?_
  exact ⟨_, rfl, rfl, S7.keep⟩

def B_SumOf_l1 (a0 : List Int) (rec_z_1 : (Int × Int) → Option Int) (z_1 : Int × Int) : Option Int :=
  bif decide (z_1.2 < (a0.length : Int)) then ((getI a0 z_1.2).bind fun r9 =>
  rec_z_1 (wr (z_1.1 + r9), wr (z_1.2 + 1)))
  else (some z_1.1)

def B_SumOf (a0 : List Int) : Option Int :=
  loopF (B_SumOf_l1 a0) big (0, 0)

set_option maxRecDepth 100000 in
theorem B_SumOf_ok {a0 : List Int} {A1 : Option Addr} {c2 : Nat} {w : World} {r : Int} (H : B_SumOf a0 = some r) (h3 : (rd intE 1 A1 c2 a0).ok w) : Calls Tryd.prog 35 #[SL A1 a0.length c2] w (RetV w (I r)) := by
  unfold B_SumOf at H
  refine fn_of (n := 18) Tryd.func35 rfl rfl (Nat.le_of_ble_eq_true rfl) ?_
  have S : St w (fun _ => False) w [] [rd intE 1 A1 c2 a0] := St.start w _ _ (List.forall_mem_cons.2 ⟨h3, (fun _ h_ => (List.not_mem_nil h_).elim)⟩)
  refine c_seq ?_
  refine reg ?_
  refine p_aI rfl ?_
  refine wp_nil ?_
  refine c_seq ?_
  refine reg ?_
  refine p_aI rfl ?_
  refine wp_nil ?_
  refine c_seq ?_
  refine c_seq ?_
  refine reg ?_
  refine p_aI rfl ?_
  refine wp_nil ?_
  refine c_block ?_
  refine c_lop (α := Int × Int) (β := Unit) (B_SumOf_l1 a0) (fun z_1 y_1 => [(0, SL A1 a0.length c2), (3, I z_1.1), (4, I z_1.2)]) (fun z_1 y_1 w_ => St w (fun _ => False) w_ [] [rd intE 1 A1 c2 a0]) (0, 0) () H ⟨rfl, rfl, rfl, trivial⟩ S ?_
  intro m4 z_1 y_1 e5 w6 H S7
  unfold B_SumOf_l1 at H
  refine c_seq ?_
  refine c_seq ?_
  refine reg ?_
  refine p_mI rfl ?_
  refine p_mS rfl ?_
  refine p_len rfl sc31 ?_
  refine p_cmp rfl rfl rfl ?_
  refine wp_nil ?_
  refine c_cond rfl (fun c8 => ?_) (fun c8 => ?_)
  · replace H := condT c8 H
    refine c_skip ?_
    refine c_seq ?_
    refine c_block ?_
    refine reg ?_
    refine p_mI rfl ?_
    refine p_mS rfl ?_
    refine p_mI rfl ?_
    obtain ⟨r9, h10, H⟩ := bindS H
    refine p_ixE sc31 h10 (S7.atP (i := 0) rfl).1 rfl rfl rfl ?_
    refine p_ldE ty3 h10 (S7.atP (i := 0) rfl).1 rfl rfl ?_
    refine p_add rfl rfl ?_
    refine p_aI rfl ?_
    refine wp_nil ?_
    refine reg ?_
    refine p_mI rfl ?_
    refine p_add rfl rfl ?_
    refine p_aI rfl ?_
    refine wp_nil ?_
    exact ⟨(wr (z_1.1 + r9), wr (z_1.2 + 1)), (), _, rfl, ⟨rfl, rfl, rfl, trivial⟩, H, S7⟩
  · replace H := condF c8 H
    refine c_exit ?_
    refine c_seq ?_
    refine reg ?_
    refine p_mI rfl ?_
    refine p_aI rfl ?_
    refine wp_nil ?_
    obtain rfl := Option.some.inj H
    refine c_ret ?_; show bodyPostM (Fr none) 0 Tryd.prog Tryd.f35 _ .ret _ _
    refine ret_of (res1 rfl (rvT (rfl : _ = I z_1.1))) ?_
    exact ⟨_, rfl, rfl, S7.keep⟩

def ref_Can_l2 (a0 : TallyBook) (a1 : List Int) (rec_z_2 : (Bool × Int) → Option (Bool × Int)) (z_2 : Bool × Int) : Option (Bool × Int) :=
  bif z_2.1 then (bif decide (z_2.2 < (a0.Counts.length : Int)) then ((getI a0.Counts z_2.2).bind fun r38 =>
  (ref_span r38).bind fun r45 =>
  (cutI a1 r38.From (wr (r38.To + 1))).bind fun r47 =>
  (B_SumOf r47).bind fun r49 =>
  (B_Contains r45 r49).bind fun r51 =>
  rec_z_2 (r51, wr (z_2.2 + 1)))
  else (some (z_2.1, 0)))
  else (some (z_2.1, 0))

def ref_Can_l3 (a1 : List Int) (a0 : TallyBook) (rec_z_1 : (Bool × Int) → Option (Bool × Int)) (z_1 : Bool × Int) : Option (Bool × Int) :=
  bif decide (z_1.2 < (a1.length : Int)) then (bif z_1.1 then ((getI a1 z_1.2).bind fun r22 =>
  (B_Inside r22 0 a0.Room).bind fun r24 =>
  rec_z_1 (r24, wr (z_1.2 + 1)))
  else (rec_z_1 (false, wr (z_1.2 + 1))))
  else (loopF (ref_Can_l2 a0 a1) big (z_1.1, 0))

def ref_Can (a0 : TallyBook) (a1 : List Int) : Option (Bool × Int) :=
  (ref_Check a0).bind fun r10 =>
  bif (r10 != 0) then (some (false, r10))
  else (bif ((a1.length : Int) != a0.Trips) then (some (false, 51))
  else (loopF (ref_Can_l3 a1 a0) big (true, 0)))

set_option maxRecDepth 100000 in
theorem ref_Can_ok {a0 : TallyBook} {a1 : List Int} {A1 : Option Addr} {c2 : Nat} {A4 : Option Addr} {c5 : Nat} {w : World} {r : Bool × Int} (H : ref_Can a0 a1 = some r) (h3 : (rd eTallyCount 7 A1 c2 a0.Counts).ok w) (h6 : (rd intE 1 A4 c5 a1).ok w) : Calls Tryd.prog 61 #[AG [I a0.Trips, I a0.Room, SL A1 a0.Counts.length c2], SL A4 a1.length c5] w (RetV w (TU [B r.1, I r.2])) := by
  unfold ref_Can at H
  refine fn_of (n := 64) Tryd.func61 rfl rfl (Nat.le_of_ble_eq_true rfl) ?_
  have S : St w (fun _ => False) w [] [rd eTallyCount 7 A1 c2 a0.Counts, rd intE 1 A4 c5 a1] := St.start w _ _ (List.forall_mem_cons.2 ⟨h3, (List.forall_mem_cons.2 ⟨h6, (fun _ h_ => (List.not_mem_nil h_).elim)⟩)⟩)
  refine c_seq ?_
  refine reg ?_
  refine p_boxA rfl S fun b7 w8 S9 => ?_
  refine p_aB rfl ?_
  refine p_aI rfl ?_
  refine wp_nil ?_
  refine c_seq ?_
  refine c_seq ?_
  refine reg ?_
  refine p_ldA ty24 sz24 (S9.atX (i := 0) rfl) rfl rfl ?_
  obtain ⟨r10, h11, H⟩ := bindS H
  refine p_cv (ref_Check_ok h11 (S9.atP (i := 0) rfl)) fu57 rfl S9 fun w12 S13 => ?_
  refine p_aI rfl ?_
  refine wp_nil ?_
  refine c_seq ?_
  refine reg ?_
  refine p_mI rfl ?_
  refine p_cmp rfl rfl rfl ?_
  refine wp_nil ?_
  refine c_cond rfl (fun c14 => ?_) (fun c14 => ?_)
  · replace H := condT c14 H
    refine c_seq ?_
    refine reg ?_
    refine p_mI rfl ?_
    refine p_aB rfl ?_
    refine p_aI rfl ?_
    refine wp_nil ?_
    obtain rfl := Option.some.inj H
    refine c_ret ?_; show bodyPostM (Fr none) 0 Tryd.prog Tryd.f61 _ .ret _ _
    refine ret_of (res2 rfl (rvT (rfl : _ = B false)) (rvT (rfl : _ = I r10))) ?_
    exact ⟨_, rfl, rfl, S13.keep⟩
  · replace H := condF c14 H
    refine c_skip ?_
    refine c_seq ?_
    refine c_seq ?_
    refine reg ?_
    refine p_mS rfl ?_
    refine p_len rfl sc31 ?_
    refine p_fld fl24_0 rfl ?_
    refine p_ld ty3 (S13.atX (i := 0) rfl) rfl rfl ?_
    refine p_cmp rfl rfl rfl ?_
    refine wp_nil ?_
    refine c_cond rfl (fun c15 => ?_) (fun c15 => ?_)
    · replace H := condT c15 H
      refine c_seq ?_
      refine reg ?_
      refine p_aB rfl ?_
      refine p_aI rfl ?_
      refine wp_nil ?_
      obtain rfl := Option.some.inj H
      refine c_ret ?_; show bodyPostM (Fr none) 0 Tryd.prog Tryd.f61 _ .ret _ _
      refine ret_of (res2 rfl (rvT (rfl : _ = B false)) (rvT (rfl : _ = I 51))) ?_
      exact ⟨_, rfl, rfl, S13.keep⟩
    · replace H := condF c15 H
      refine c_skip ?_
      refine c_seq ?_
      refine reg ?_
      refine p_aB rfl ?_
      refine wp_nil ?_
      refine c_seq ?_
      refine c_seq ?_
      refine reg ?_
      refine p_aI rfl ?_
      refine wp_nil ?_
      refine c_block ?_
      refine c_lop (α := Bool × Int) (β := Unit) (ref_Can_l3 a1 a0) (fun z_1 y_1 => [(1, SL A4 a1.length c5), (2, P b7 0), (7, B z_1.1), (8, I z_1.2)]) (fun z_1 y_1 w_ => St w (fun _ => False) w_ [bl b7 [I a0.Trips, I a0.Room, SL A1 a0.Counts.length c2] 24] [rd eTallyCount 7 A1 c2 a0.Counts, rd intE 1 A4 c5 a1]) (true, 0) () H ⟨rfl, rfl, rfl, rfl, trivial⟩ S13 ?_
      intro m16 z_1 y_1 e17 w18 H S19
      unfold ref_Can_l3 at H
      refine c_seq ?_
      refine c_seq ?_
      refine reg ?_
      refine p_mI rfl ?_
      refine p_mS rfl ?_
      refine p_len rfl sc31 ?_
      refine p_cmp rfl rfl rfl ?_
      refine wp_nil ?_
      refine c_cond rfl (fun c20 => ?_) (fun c20 => ?_)
      · replace H := condT c20 H
        refine c_skip ?_
        refine c_seq ?_
        refine c_block ?_
        rcases Bool.eq_false_or_eq_true (z_1.1) with c21 | c21
        · replace H := condT c21 H
          obtain ⟨r22, h23, H⟩ := bindS H
          obtain ⟨r24, h25, H⟩ := bindS H
          refine reg_q mixed 10 (by kernel_rfl) ?_
          refine dS (fun _ k_ => p_mB rfl dn) ?_
          refine dS (fun _ k_ => p_mB rfl dn) ?_
          refine dB c21 ?_
          refine dS (fun _ k_ => gT rfl rfl (p_mS rfl dn)) ?_
          refine dS (fun _ k_ => gT rfl rfl (p_mI rfl dn)) ?_
          refine dS (fun _ k_ => gT rfl rfl (p_ixE sc31 h23 (Asr.stays (S19.atP (i := 1) rfl) k_).1 rfl rfl rfl dn)) ?_
          refine dS (fun _ k_ => gT rfl rfl (p_ldE ty3 h23 (Asr.stays (S19.atP (i := 1) rfl) k_).1 rfl rfl dn)) ?_
          refine dS (fun _ k_ => gT rfl rfl (p_fld fl24_1 rfl dn)) ?_
          refine dS (fun _ k_ => gT rfl rfl (p_ld ty3 (Asr.stays (S19.atX (i := 0) rfl) k_) rfl rfl dn)) ?_
          refine dS (fun _ k_ => gT rfl rfl (p_cvD (B_Inside_ok h25) fu40 rfl)) ?_
          refine dS (fun _ k_ => p_pkT rfl (rfl : _ = B r24) dn) ?_
          intro w26 k27; have S28 := S19.call k27
          refine p_aB rfl ?_
          refine wp_nil ?_
          refine reg ?_
          refine p_mI rfl ?_
          refine p_add rfl rfl ?_
          refine p_aI rfl ?_
          refine wp_nil ?_
          exact ⟨(r24, wr (z_1.2 + 1)), (), _, rfl, ⟨rfl, rfl, rfl, rfl, trivial⟩, H, S28⟩
        · replace H := condF c21 H
          refine reg_q mixed 10 (by kernel_rfl) ?_
          refine dS (fun _ k_ => p_mB rfl dn) ?_
          refine dS (fun _ k_ => p_mB rfl dn) ?_
          refine dB c21 ?_
          refine dS (fun _ k_ => gF rfl rfl dnU) ?_
          refine dS (fun _ k_ => gF rfl rfl dnU) ?_
          refine dS (fun _ k_ => gF rfl rfl dnU) ?_
          refine dS (fun _ k_ => gF rfl rfl dnU) ?_
          refine dS (fun _ k_ => gF rfl rfl dnU) ?_
          refine dS (fun _ k_ => gF rfl rfl dnU) ?_
          refine dS (fun _ k_ => gF rfl rfl dnU) ?_
          refine dS (fun _ k_ => p_pkF rfl (rfl : _ = B false) dn) ?_
          intro w29 k30; have S31 := S19.call k30
          refine p_aB rfl ?_
          refine wp_nil ?_
          refine reg ?_
          refine p_mI rfl ?_
          refine p_add rfl rfl ?_
          refine p_aI rfl ?_
          refine wp_nil ?_
          exact ⟨(false, wr (z_1.2 + 1)), (), _, rfl, ⟨rfl, rfl, rfl, rfl, trivial⟩, H, S31⟩
      · replace H := condF c20 H
        refine c_exit ?_
        refine c_seq ?_
        refine c_seq ?_
        refine reg ?_
        refine p_aI rfl ?_
        refine wp_nil ?_
        refine c_block ?_
        refine c_lop (α := Bool × Int) (β := Unit) (ref_Can_l2 a0 a1) (fun z_2 y_2 => [(1, SL A4 a1.length c5), (2, P b7 0), (7, B z_2.1), (9, I z_2.2)]) (fun z_2 y_2 w_ => St w (fun _ => False) w_ [bl b7 [I a0.Trips, I a0.Room, SL A1 a0.Counts.length c2] 24] [rd eTallyCount 7 A1 c2 a0.Counts, rd intE 1 A4 c5 a1]) (z_1.1, 0) () H ⟨rfl, rfl, rfl, rfl, trivial⟩ S19 ?_
        intro m32 z_2 y_2 e33 w34 H S35
        unfold ref_Can_l2 at H
        refine c_seq ?_
        refine c_seq ?_
        refine reg ?_
        refine p_mB rfl ?_
        refine p_mB rfl ?_
        rcases Bool.eq_false_or_eq_true (z_2.1) with c36 | c36
        · replace H := condT c36 H
          refine eB c36 ?_
          refine gT rfl rfl (p_mI rfl ?_)
          refine gT rfl rfl (p_fld fl24_2 rfl ?_)
          refine gT rfl rfl (p_ld ty22 (S35.atX (i := 0) rfl) rfl rfl ?_)
          refine gT rfl rfl (p_len rfl sc22 ?_)
          refine gT rfl rfl (p_cmp rfl rfl rfl ?_)
          refine p_pkT rfl (rfl : _ = B (decide (z_2.2 < (a0.Counts.length : Int)))) ?_
          refine wp_nil ?_
          refine c_cond rfl (fun c37 => ?_) (fun c37 => ?_)
          · replace H := condT c37 H
            refine c_skip ?_
            refine c_seq ?_
            refine c_block ?_
            refine c_seq ?_
            refine reg ?_
            refine p_fld fl24_2 rfl ?_
            refine p_ld ty22 (S35.atX (i := 0) rfl) rfl rfl ?_
            refine p_mI rfl ?_
            obtain ⟨r38, h39, H⟩ := bindS H
            refine p_ixE sc22 h39 (S35.atP (i := 0) rfl).1 rfl rfl rfl ?_
            refine p_ldEA ty33 sz33 rfl h39 (S35.atP (i := 0) rfl).1 rfl ?_
            refine p_allA in33 S35 fun b40 w41 S42 => ?_
            refine p_stP (pre := []) (old := [I 0, I 0, I 0, I 0, I 0, I 0, I 0]) (post := []) (vs := [I r38.Who, I r38.From, I r38.To, I r38.Told, I r38.Unit, I r38.Under, I r38.Over]) sz33 S42 (i := 0) rfl rfl rfl rfl (rfl : _ = AG [I r38.Who, I r38.From, I r38.To, I r38.Told, I r38.Unit, I r38.Under, I r38.Over]) rfl rfl rfl rfl fun w43 S44 => ?_
            refine wp_nil ?_
            obtain ⟨r45, h46, H⟩ := bindS H
            obtain ⟨r47, h48, H⟩ := bindS H
            obtain ⟨r49, h50, H⟩ := bindS H
            obtain ⟨r51, h52, H⟩ := bindS H
            refine reg_q mixed 12 (by kernel_rfl) ?_
            refine dS (fun _ k_ => p_ldA ty33 sz33 (Asr.stays (S44.atX (i := 0) rfl) k_) rfl rfl dn) ?_
            refine dS (fun _ k_ => p_cvD (ref_span_ok h46) fu86 rfl) ?_
            refine dS (fun _ k_ => p_mS rfl dn) ?_
            refine dS (fun _ k_ => p_fld fl33_1 rfl dn) ?_
            refine dS (fun _ k_ => p_ld ty3 (Asr.stays (S44.atX (i := 0) rfl) k_) rfl rfl dn) ?_
            refine dS (fun _ k_ => p_fld fl33_2 rfl dn) ?_
            refine dS (fun _ k_ => p_ld ty3 (Asr.stays (S44.atX (i := 0) rfl) k_) rfl rfl dn) ?_
            refine dS (fun _ k_ => p_add rfl rfl dn) ?_
            refine dS (fun _ k_ => p_cut sc31 h48 (Asr.stays (S44.atP (i := 1) rfl) k_) rfl rfl rfl dn) ?_
            refine dS (fun _ k_ => p_cvD (B_SumOf_ok h50 (rd_cut h48 (Asr.stays (S44.atP (i := 1) rfl) k_))) fu35 rfl) ?_
            refine dS (fun _ k_ => p_cvD (B_Contains_ok h52) fu34 rfl) ?_
            refine dS (fun _ k_ => p_aB rfl dn) ?_
            intro w53 k54; have S55 := S44.call k54
            refine wp_nil ?_
            refine reg ?_
            refine p_mI rfl ?_
            refine p_add rfl rfl ?_
            refine p_aI rfl ?_
            refine wp_nil ?_
            have S56 := S55.pk [1] (by decide) [0, 1] rfl rfl
            exact ⟨(r51, wr (z_2.2 + 1)), (), _, rfl, ⟨rfl, rfl, rfl, rfl, trivial⟩, H, S56⟩
          · replace H := condF c37 H
            refine c_exit ?_
            refine c_seq ?_
            refine reg ?_
            refine p_mB rfl ?_
            refine p_aB rfl ?_
            refine p_aI rfl ?_
            refine wp_nil ?_
            obtain rfl := Option.some.inj H
            refine c_ret ?_; show bodyPostM (Fr none) 0 Tryd.prog Tryd.f61 _ .ret _ _
            refine ret_of (res2 rfl (rvT (rfl : _ = B z_2.1)) (rvT (rfl : _ = I 0))) ?_
            exact ⟨_, rfl, rfl, S35.keep⟩
        · replace H := condF c36 H
          refine eB c36 ?_
          refine gF rfl rfl ?_
          refine gF rfl rfl ?_
          refine gF rfl rfl ?_
          refine gF rfl rfl ?_
          refine gF rfl rfl ?_
          refine p_pkF rfl (rfl : _ = B false) ?_
          refine wp_nil ?_
          refine c_false rfl ?_
          refine c_exit ?_
          refine c_seq ?_
          refine reg ?_
          refine p_mB rfl ?_
          refine p_aB rfl ?_
          refine p_aI rfl ?_
          refine wp_nil ?_
          obtain rfl := Option.some.inj H
          refine c_ret ?_; show bodyPostM (Fr none) 0 Tryd.prog Tryd.f61 _ .ret _ _
          refine ret_of (res2 rfl (rvT (rfl : _ = B z_2.1)) (rvT (rfl : _ = I 0))) ?_
          exact ⟨_, rfl, rfl, S35.keep⟩

def ref_With (a0 : TallyBook) (a1 : TallyCount) : Option TallyBook :=
  bif a0.Counts.isEmpty then (need (fitsL (([] : List TallyCount).length + ([a1] : List TallyCount).length) 56) <|
  some (TallyBook.mk a0.Trips a0.Room ([a1] : List TallyCount)))
  else (need (fitsL (([] : List TallyCount).length + a0.Counts.length) 56) <|
  need (fitsL (a0.Counts.length + ([a1] : List TallyCount).length) 56) <|
  some (TallyBook.mk a0.Trips a0.Room (a0.Counts ++ ([a1] : List TallyCount))))

set_option maxRecDepth 100000 in
theorem ref_With_ok {a0 : TallyBook} {a1 : TallyCount} {A1 : Option Addr} {c2 : Nat} {w : World} {r : TallyBook} (H : ref_With a0 a1 = some r) (h3 : (rd eTallyCount 7 A1 c2 a0.Counts).ok w) : Calls Tryd.prog 87 #[AG [I a0.Trips, I a0.Room, SL A1 a0.Counts.length c2], AG [I a1.Who, I a1.From, I a1.To, I a1.Told, I a1.Unit, I a1.Under, I a1.Over]] w fun en w_ => ∃ u_, en = .returned u_ ∧ ∃ A_1 : Option Addr, ∃ c_2 : Nat, u_ = AG [I r.Trips, I r.Room, SL A_1 r.Counts.length c_2] ∧ Keep0 w w_ ∧ ((gr eTallyCount 7 33 A_1 c_2 r.Counts).ok w_ ∧ New w.heap.size (gr eTallyCount 7 33 A_1 c_2 r.Counts)) ∧ True := by
  unfold ref_With at H
  refine fn_of (n := 16) Tryd.func87 rfl rfl (Nat.le_of_ble_eq_true rfl) ?_
  have S : St w (fun _ => False) w [] [rd eTallyCount 7 A1 c2 a0.Counts] := St.start w _ _ (List.forall_mem_cons.2 ⟨h3, (fun _ h_ => (List.not_mem_nil h_).elim)⟩)
  refine c_seq ?_
  refine reg ?_
  refine p_boxA rfl S fun b4 w5 S6 => ?_
  refine p_boxA rfl S6 fun b7 w8 S9 => ?_
  refine p_allA in24 S9 fun b10 w11 S12 => ?_
  refine wp_nil ?_
  refine c_seq ?_
  refine reg ?_
  refine p_ldA ty24 sz24 (S12.atX (i := 2) rfl) rfl rfl ?_
  refine p_allA in24 S12 fun b13 w14 S15 => ?_
  refine p_stP (pre := []) (old := [I 0, I 0, SL none 0 0]) (post := []) (vs := [I a0.Trips, I a0.Room, SL A1 a0.Counts.length c2]) sz24 S15 (i := 0) rfl rfl rfl rfl (rfl : _ = AG [I a0.Trips, I a0.Room, SL A1 a0.Counts.length c2]) rfl rfl rfl rfl fun w16 S17 => ?_
  refine wp_nil ?_
  refine c_seq ?_
  rcases Bool.eq_false_or_eq_true (a0.Counts.isEmpty) with c24 | c24
  · replace H := condT c24 H
    refine reg_any mixed 6 (by kernel_rfl) [rx (α := (Option Addr)) (fun A18 => SL A18 0 0) (fun A18 lo hi => BtwL lo hi [] (gr eTallyCount 7 33 A18 0 ([] : List TallyCount)) ∧ True) (fun A18 => [gr eTallyCount 7 33 A18 0 ([] : List TallyCount)]), rv (P b4 2), rv (SL A1 a0.Counts.length c2), dv 7 some, rv (AG [I a1.Who, I a1.From, I a1.To, I a1.Told, I a1.Unit, I a1.Under, I a1.Over]), rx (α := (Option Addr) × Nat) (fun ⟨A34, c35⟩ => SL A34 ([a1] : List TallyCount).length c35) (fun ⟨A34, c35⟩ lo hi => BtwL lo hi [] (gr eTallyCount 7 33 A34 c35 ([a1] : List TallyCount)) ∧ True) (fun ⟨A34, c35⟩ => [gr eTallyCount 7 33 A34 c35 ([a1] : List TallyCount)])] [[], [], [], [7], [], []] rfl (by kernel_rfl) [[], [], [1], [0, 1, 2], [], [4], [0, 1, 2, 3, 4, 5], [0, 1, 2, 3, 4, 5, 6], [0, 1, 2, 3, 4, 5, 6, 7]] (by kernel_rfl) ⟨?_, ?_, ?_, ?_, ?_, ?_, trivial⟩ ?_
    · intro e_ w_ k_ hf_ hR_
      have S_ : St w_ (fun _ => False) w_ [] [bl b13 [I a0.Trips, I a0.Room, SL A1 a0.Counts.length c2] 24, bl b10 [I 0, I 0, SL none 0 0] 24, bl b7 [I a1.Who, I a1.From, I a1.To, I a1.Told, I a1.Unit, I a1.Under, I a1.Over] 33, bl b4 [I a0.Trips, I a0.Room, SL A1 a0.Counts.length c2] 24, rd eTallyCount 7 A1 c2 a0.Counts] := S17.asP k_
      refine hopE [] trivial ?_
      refine p_bsl0 eTallyCount sc22 S_ fun A18 w20 S21 => ?_
      refine wp_nil ?_
      exact ⟨_, rfl, S21.keep, ⟨A18, rfl, ⟨BtwL.of (New.al (S21.newX (i := 0) rfl)) rfl (S21.atX (i := 0) rfl) rfl, trivial⟩, (List.forall_mem_cons.2 ⟨(S21.atX (i := 0) rfl), (fun _ h_ => (List.not_mem_nil h_).elim)⟩)⟩⟩
    · intro e_ w_ k_ hf_ hR_
      have S_ : St w_ (fun _ => False) w_ [] [bl b13 [I a0.Trips, I a0.Room, SL A1 a0.Counts.length c2] 24, bl b10 [I 0, I 0, SL none 0 0] 24, bl b7 [I a1.Who, I a1.From, I a1.To, I a1.Told, I a1.Unit, I a1.Under, I a1.Over] 33, bl b4 [I a0.Trips, I a0.Room, SL A1 a0.Counts.length c2] 24, rd eTallyCount 7 A1 c2 a0.Counts] := S17.asP k_
      refine hopE [(2, P b4 0)] ⟨((hf_ 2 rfl).trans (rfl : _ = P b4 0)), trivial⟩ ?_
      refine p_fld fl24_2 rfl ?_
      refine wp_nil ?_
      exact ⟨_, rfl, S_.keep, rfl⟩
    · intro e_ w_ k_ hf_ hR_
      have S_ : St w_ (fun _ => False) w_ [] [bl b13 [I a0.Trips, I a0.Room, SL A1 a0.Counts.length c2] 24, bl b10 [I 0, I 0, SL none 0 0] 24, bl b7 [I a1.Who, I a1.From, I a1.To, I a1.Told, I a1.Unit, I a1.Under, I a1.Over] 33, bl b4 [I a0.Trips, I a0.Room, SL A1 a0.Counts.length c2] 24, rd eTallyCount 7 A1 c2 a0.Counts] := S17.asP k_
      obtain ⟨_, _, _, _, q23⟩ := hR_ 1 8 rfl (Nat.le_of_ble_eq_true rfl) rfl
      refine hopE [(8, P b4 2)] ⟨q23, trivial⟩ ?_
      refine p_ld ty22 (S_.atP (i := 3) rfl) rfl rfl ?_
      refine wp_nil ?_
      exact ⟨_, rfl, S_.keep, rfl⟩
    · intro e_ w_ k_ hf_ hR_
      have S_ : St w_ (fun _ => False) w_ [] [bl b13 [I a0.Trips, I a0.Room, SL A1 a0.Counts.length c2] 24, bl b10 [I 0, I 0, SL none 0 0] 24, bl b7 [I a1.Who, I a1.From, I a1.To, I a1.Told, I a1.Unit, I a1.Under, I a1.Over] 33, bl b4 [I a0.Trips, I a0.Room, SL A1 a0.Counts.length c2] 24, rd eTallyCount 7 A1 c2 a0.Counts] := S17.asP k_
      obtain ⟨_, _, _, _, A18, q25, p26, a27⟩ := hR_ 0 7 rfl (Nat.le_of_ble_eq_true rfl) rfl
      replace q25 : e_ 7 = SL A18 0 0 := q25
      have S_ := St.addL' S_ (a27 _ (.head _)) (fun _ _ _ h_ => (List.not_mem_nil h_).elim)
      obtain ⟨_, _, _, _, q28⟩ := hR_ 2 9 rfl (Nat.le_of_ble_eq_true rfl) rfl
      refine hopE [(7, SL A18 0 0), (9, SL A1 a0.Counts.length c2)] ⟨q25, q28, trivial⟩ ?_
      refine p_app0 sc22 in33 (Nat.le_refl _) c24 rfl rfl ?_
      refine wp_nil ?_
      exact ⟨_, rfl, S_.keep, rfl⟩
    · intro e_ w_ k_ hf_ hR_
      have S_ : St w_ (fun _ => False) w_ [] [bl b13 [I a0.Trips, I a0.Room, SL A1 a0.Counts.length c2] 24, bl b10 [I 0, I 0, SL none 0 0] 24, bl b7 [I a1.Who, I a1.From, I a1.To, I a1.Told, I a1.Unit, I a1.Under, I a1.Over] 33, bl b4 [I a0.Trips, I a0.Room, SL A1 a0.Counts.length c2] 24, rd eTallyCount 7 A1 c2 a0.Counts] := S17.asP k_
      refine hopE [(3, P b7 0)] ⟨((hf_ 3 rfl).trans (rfl : _ = P b7 0)), trivial⟩ ?_
      refine p_ldA ty33 sz33 (S_.atP (i := 2) rfl) rfl rfl ?_
      refine wp_nil ?_
      exact ⟨_, rfl, S_.keep, rfl⟩
    · intro e_ w_ k_ hf_ hR_
      have S_ : St w_ (fun _ => False) w_ [] [bl b13 [I a0.Trips, I a0.Room, SL A1 a0.Counts.length c2] 24, bl b10 [I 0, I 0, SL none 0 0] 24, bl b7 [I a1.Who, I a1.From, I a1.To, I a1.Told, I a1.Unit, I a1.Under, I a1.Over] 33, bl b4 [I a0.Trips, I a0.Room, SL A1 a0.Counts.length c2] 24, rd eTallyCount 7 A1 c2 a0.Counts] := S17.asP k_
      obtain ⟨_, _, _, _, q33⟩ := hR_ 4 11 rfl (Nat.le_of_ble_eq_true rfl) rfl
      refine hopE [(11, AG [I a1.Who, I a1.From, I a1.To, I a1.Told, I a1.Unit, I a1.Under, I a1.Over])] ⟨q33, trivial⟩ ?_
      refine p_bsl (enc := eTallyCount) (l := ([a1] : List TallyCount)) (fun x => AG (eTallyCount x)) (fun _ => rfl) sc22 in33 eTallyCount_len rfl (by decide) (by decide) zr33_1 S_ rfl fun A34 c35 w36 S37 => ?_
      refine wp_nil ?_
      exact ⟨_, rfl, S37.keep, ⟨(A34, c35), rfl, ⟨BtwL.of (New.al (S37.newX (i := 0) rfl)) rfl (S37.atX (i := 0) rfl) rfl, trivial⟩, (List.forall_mem_cons.2 ⟨(S37.atX (i := 0) rfl), (fun _ h_ => (List.not_mem_nil h_).elim)⟩)⟩⟩
    intro e39 w40 lo41 hi42 k43 hf44 hR45 hd46
    have S47 := S17.call k43
    obtain ⟨h49, h50, h51, A18, q48, h52, h53⟩ := hR45 0 7 (Nat.le_of_ble_eq_true rfl) rfl
    replace q48 : e39 7 = SL A18 0 0 := q48
    obtain ⟨p54, _⟩ := h52
    have q56 : e39 8 = P b4 2 := (hR45 1 8 (Nat.le_of_ble_eq_true rfl) rfl).2.2.2
    have q57 : e39 9 = SL A1 a0.Counts.length c2 := (hR45 2 9 (Nat.le_of_ble_eq_true rfl) rfl).2.2.2
    have q58 : e39 10 = SL A18 0 0 := (Option.some.inj ((congrArg some q48).symm.trans (hR45 3 10 (Nat.le_of_ble_eq_true rfl) rfl).2.2.2)).symm
    have q59 : e39 11 = AG [I a1.Who, I a1.From, I a1.To, I a1.Told, I a1.Unit, I a1.Under, I a1.Over] := (hR45 4 11 (Nat.le_of_ble_eq_true rfl) rfl).2.2.2
    obtain ⟨h61, h62, h63, ⟨A34, c35⟩, q60, h64, h65⟩ := hR45 5 12 (Nat.le_of_ble_eq_true rfl) rfl
    replace q60 : e39 12 = SL A34 ([a1] : List TallyCount).length c35 := q60
    obtain ⟨p66, _⟩ := h64
    have S68 := St.addO S47 (h53 _ (.head _)) (fun b_ h_ => (p54 b_ h_).elim (fun q_ => Nat.le_trans S17.keep.size (Nat.le_trans h49 q_.1)) (fun ⟨_, hq_, _⟩ => (List.not_mem_nil hq_).elim)) (List.forall_mem_cons.2 ⟨(fun b_ h1_ h2_ => (p54 b_ h1_).elim (fun q2_ => by have q1_ := Asr.inb _ _ _ (S17.atX (i := 0) rfl) h2_; omega) (fun ⟨_, hq_, _⟩ => (List.not_mem_nil hq_).elim)), (List.forall_mem_cons.2 ⟨(fun b_ h1_ h2_ => (p54 b_ h1_).elim (fun q2_ => by have q1_ := Asr.inb _ _ _ (S17.atX (i := 1) rfl) h2_; omega) (fun ⟨_, hq_, _⟩ => (List.not_mem_nil hq_).elim)), (List.forall_mem_cons.2 ⟨(fun b_ h1_ h2_ => (p54 b_ h1_).elim (fun q2_ => by have q1_ := Asr.inb _ _ _ (S17.atX (i := 2) rfl) h2_; omega) (fun ⟨_, hq_, _⟩ => (List.not_mem_nil hq_).elim)), (List.forall_mem_cons.2 ⟨(fun b_ h1_ h2_ => (p54 b_ h1_).elim (fun q2_ => by have q1_ := Asr.inb _ _ _ (S17.atX (i := 3) rfl) h2_; omega) (fun ⟨_, hq_, _⟩ => (List.not_mem_nil hq_).elim)), (fun _ h_ => (List.not_mem_nil h_).elim)⟩)⟩)⟩)⟩) (List.forall_mem_cons.2 ⟨(fun b_ h1_ h2_ => (p54 b_ h1_).elim (fun q2_ => by have q1_ := Asr.inb _ _ _ (S17.atP (i := 0) rfl) h2_; omega) (fun ⟨_, hq_, _⟩ => (List.not_mem_nil hq_).elim)), (fun _ h_ => (List.not_mem_nil h_).elim)⟩)
    have S69 := St.addO S68 (h65 _ (.head _)) (fun b_ h_ => (p66 b_ h_).elim (fun q_ => Nat.le_trans S17.keep.size (Nat.le_trans h61 q_.1)) (fun ⟨_, hq_, _⟩ => (List.not_mem_nil hq_).elim)) (List.forall_mem_cons.2 ⟨(fun b_ h1_ h2_ => (p66 b_ h1_).elim (fun q1_ => (p54 b_ h2_).elim (fun q2_ => by have q3_ := hd46 5 0 (Nat.le_of_ble_eq_true rfl) (Nat.le_of_ble_eq_true rfl) (by decide); omega) (fun ⟨q_, hq_, hqb_⟩ => by have q5_ := h61; have q4_ := Asr.inb _ _ _ (S17.ps q_ (((fun _ h_ => (List.not_mem_nil h_).elim)) q_ hq_)) hqb_; omega)) (fun ⟨_, hq_, _⟩ => (List.not_mem_nil hq_).elim)), (List.forall_mem_cons.2 ⟨(fun b_ h1_ h2_ => (p66 b_ h1_).elim (fun q2_ => by have q1_ := Asr.inb _ _ _ (S17.atX (i := 0) rfl) h2_; omega) (fun ⟨_, hq_, _⟩ => (List.not_mem_nil hq_).elim)), (List.forall_mem_cons.2 ⟨(fun b_ h1_ h2_ => (p66 b_ h1_).elim (fun q2_ => by have q1_ := Asr.inb _ _ _ (S17.atX (i := 1) rfl) h2_; omega) (fun ⟨_, hq_, _⟩ => (List.not_mem_nil hq_).elim)), (List.forall_mem_cons.2 ⟨(fun b_ h1_ h2_ => (p66 b_ h1_).elim (fun q2_ => by have q1_ := Asr.inb _ _ _ (S17.atX (i := 2) rfl) h2_; omega) (fun ⟨_, hq_, _⟩ => (List.not_mem_nil hq_).elim)), (List.forall_mem_cons.2 ⟨(fun b_ h1_ h2_ => (p66 b_ h1_).elim (fun q2_ => by have q1_ := Asr.inb _ _ _ (S17.atX (i := 3) rfl) h2_; omega) (fun ⟨_, hq_, _⟩ => (List.not_mem_nil hq_).elim)), (fun _ h_ => (List.not_mem_nil h_).elim)⟩)⟩)⟩)⟩)⟩) (List.forall_mem_cons.2 ⟨(fun b_ h1_ h2_ => (p66 b_ h1_).elim (fun q2_ => by have q1_ := Asr.inb _ _ _ (S17.atP (i := 0) rfl) h2_; omega) (fun ⟨_, hq_, _⟩ => (List.not_mem_nil hq_).elim)), (fun _ h_ => (List.not_mem_nil h_).elim)⟩)
    refine tailE [(4, P b10 0), (5, P b13 0), (10, SL A18 0 0), (12, SL A34 ([a1] : List TallyCount).length c35)] ⟨((hf44 4 rfl).trans (rfl : _ = P b10 0)), ((hf44 5 rfl).trans (rfl : _ = P b13 0)), q58, q60, trivial⟩ ?_
    intro g70
    obtain ⟨h75, H⟩ := needS H
    refine p_app (enc := eTallyCount) sc22 in33 rfl eTallyCount_len eTallyCount_one (by decide) S69 (k := 1) rfl (gr_sl eTallyCount_len (S69.atX (i := 0) rfl)) h75 (by simp) rfl rfl fun A73 c74 w71 S72 => ?_
    refine p_fld fl24_2 rfl ?_
    refine p_stP (pre := [I a0.Trips, I a0.Room]) (old := [SL A1 a0.Counts.length c2]) (post := []) (vs := [SL A73 ([a1] : List TallyCount).length c74]) sz22 S72 (i := 2) rfl rfl rfl rfl (rfl : _ = SL A73 ([a1] : List TallyCount).length c74) rfl rfl rfl rfl fun w76 S77 => ?_
    refine wp_nil ?_
    refine c_seq ?_
    refine reg ?_
    refine p_ldA ty24 sz24 (S77.atX (i := 2) rfl) rfl rfl ?_
    refine p_stP (pre := []) (old := [I 0, I 0, SL none 0 0]) (post := []) (vs := [I a0.Trips, I a0.Room, SL A73 ([a1] : List TallyCount).length c74]) sz24 S77 (i := 3) rfl rfl rfl rfl (rfl : _ = AG [I a0.Trips, I a0.Room, SL A73 ([a1] : List TallyCount).length c74]) rfl rfl rfl rfl fun w78 S79 => ?_
    refine wp_nil ?_
    obtain rfl := Option.some.inj H
    refine c_ret ?_; show bodyPostM (Fr none) 0 Tryd.prog Tryd.f87 _ .ret _ _
    refine ret_of (res1 rfl (rvA rfl ty24 sz24 (S79.atX (i := 3) rfl) rfl)) ?_
    exact ⟨_, rfl, A73, c74, rfl, S79.keep, ⟨S79.atX (i := 1) rfl, S79.newX (i := 1) rfl⟩, trivial⟩
  · replace H := condF c24 H
    obtain ⟨h88, H⟩ := needS H
    refine reg_any mixed 6 (by kernel_rfl) [rx (α := (Option Addr)) (fun A18 => SL A18 0 0) (fun A18 lo hi => BtwL lo hi [] (gr eTallyCount 7 33 A18 0 ([] : List TallyCount)) ∧ True) (fun A18 => [gr eTallyCount 7 33 A18 0 ([] : List TallyCount)]), rv (P b4 2), rv (SL A1 a0.Counts.length c2), rx (α := (Option Addr) × Nat) (fun ⟨A86, c87⟩ => SL A86 a0.Counts.length c87) (fun ⟨A86, c87⟩ lo hi => BtwL lo hi [] (gr eTallyCount 7 33 A86 c87 a0.Counts) ∧ True) (fun ⟨A86, c87⟩ => [gr eTallyCount 7 33 A86 c87 a0.Counts]), rv (AG [I a1.Who, I a1.From, I a1.To, I a1.Told, I a1.Unit, I a1.Under, I a1.Over]), rx (α := (Option Addr) × Nat) (fun ⟨A91, c92⟩ => SL A91 ([a1] : List TallyCount).length c92) (fun ⟨A91, c92⟩ lo hi => BtwL lo hi [] (gr eTallyCount 7 33 A91 c92 ([a1] : List TallyCount)) ∧ True) (fun ⟨A91, c92⟩ => [gr eTallyCount 7 33 A91 c92 ([a1] : List TallyCount)])] [[], [], [], [], [], []] rfl (by kernel_rfl) [[], [], [1], [0, 1, 2], [], [4], [0, 1, 2, 3, 4, 5], [0, 1, 2, 3, 4, 5, 6], [0, 1, 2, 3, 4, 5, 6, 7]] (by kernel_rfl) ⟨?_, ?_, ?_, ?_, ?_, ?_, trivial⟩ ?_
    · intro e_ w_ k_ hf_ hR_
      have S_ : St w_ (fun _ => False) w_ [] [bl b13 [I a0.Trips, I a0.Room, SL A1 a0.Counts.length c2] 24, bl b10 [I 0, I 0, SL none 0 0] 24, bl b7 [I a1.Who, I a1.From, I a1.To, I a1.Told, I a1.Unit, I a1.Under, I a1.Over] 33, bl b4 [I a0.Trips, I a0.Room, SL A1 a0.Counts.length c2] 24, rd eTallyCount 7 A1 c2 a0.Counts] := S17.asP k_
      refine hopE [] trivial ?_
      refine p_bsl0 eTallyCount sc22 S_ fun A18 w20 S21 => ?_
      refine wp_nil ?_
      exact ⟨_, rfl, S21.keep, ⟨A18, rfl, ⟨BtwL.of (New.al (S21.newX (i := 0) rfl)) rfl (S21.atX (i := 0) rfl) rfl, trivial⟩, (List.forall_mem_cons.2 ⟨(S21.atX (i := 0) rfl), (fun _ h_ => (List.not_mem_nil h_).elim)⟩)⟩⟩
    · intro e_ w_ k_ hf_ hR_
      have S_ : St w_ (fun _ => False) w_ [] [bl b13 [I a0.Trips, I a0.Room, SL A1 a0.Counts.length c2] 24, bl b10 [I 0, I 0, SL none 0 0] 24, bl b7 [I a1.Who, I a1.From, I a1.To, I a1.Told, I a1.Unit, I a1.Under, I a1.Over] 33, bl b4 [I a0.Trips, I a0.Room, SL A1 a0.Counts.length c2] 24, rd eTallyCount 7 A1 c2 a0.Counts] := S17.asP k_
      refine hopE [(2, P b4 0)] ⟨((hf_ 2 rfl).trans (rfl : _ = P b4 0)), trivial⟩ ?_
      refine p_fld fl24_2 rfl ?_
      refine wp_nil ?_
      exact ⟨_, rfl, S_.keep, rfl⟩
    · intro e_ w_ k_ hf_ hR_
      have S_ : St w_ (fun _ => False) w_ [] [bl b13 [I a0.Trips, I a0.Room, SL A1 a0.Counts.length c2] 24, bl b10 [I 0, I 0, SL none 0 0] 24, bl b7 [I a1.Who, I a1.From, I a1.To, I a1.Told, I a1.Unit, I a1.Under, I a1.Over] 33, bl b4 [I a0.Trips, I a0.Room, SL A1 a0.Counts.length c2] 24, rd eTallyCount 7 A1 c2 a0.Counts] := S17.asP k_
      obtain ⟨_, _, _, _, q23⟩ := hR_ 1 8 rfl (Nat.le_of_ble_eq_true rfl) rfl
      refine hopE [(8, P b4 2)] ⟨q23, trivial⟩ ?_
      refine p_ld ty22 (S_.atP (i := 3) rfl) rfl rfl ?_
      refine wp_nil ?_
      exact ⟨_, rfl, S_.keep, rfl⟩
    · intro e_ w_ k_ hf_ hR_
      have S_ : St w_ (fun _ => False) w_ [] [bl b13 [I a0.Trips, I a0.Room, SL A1 a0.Counts.length c2] 24, bl b10 [I 0, I 0, SL none 0 0] 24, bl b7 [I a1.Who, I a1.From, I a1.To, I a1.Told, I a1.Unit, I a1.Under, I a1.Over] 33, bl b4 [I a0.Trips, I a0.Room, SL A1 a0.Counts.length c2] 24, rd eTallyCount 7 A1 c2 a0.Counts] := S17.asP k_
      obtain ⟨_, _, _, _, A18, q80, p81, a82⟩ := hR_ 0 7 rfl (Nat.le_of_ble_eq_true rfl) rfl
      replace q80 : e_ 7 = SL A18 0 0 := q80
      have S_ := St.addL' S_ (a82 _ (.head _)) (fun _ _ _ h_ => (List.not_mem_nil h_).elim)
      obtain ⟨_, _, _, _, q83⟩ := hR_ 2 9 rfl (Nat.le_of_ble_eq_true rfl) rfl
      refine hopE [(7, SL A18 0 0), (9, SL A1 a0.Counts.length c2)] ⟨q80, q83, trivial⟩ ?_
      refine p_appN (enc := eTallyCount) sc22 in33 rfl eTallyCount_len (by decide) S_ (gr_sl eTallyCount_len (S_.atP (i := 0) rfl)) rfl (S_.atP (i := 5) rfl).1 h88 (ne_of_some c24) rfl rfl fun A86 c87 w84 S85 => ?_
      refine wp_nil ?_
      exact ⟨_, rfl, S85.keep, ⟨(A86, c87), rfl, ⟨BtwL.of (New.al (S85.newX (i := 0) rfl)) rfl (S85.atX (i := 0) rfl) rfl, trivial⟩, (List.forall_mem_cons.2 ⟨(S85.atX (i := 0) rfl), (fun _ h_ => (List.not_mem_nil h_).elim)⟩)⟩⟩
    · intro e_ w_ k_ hf_ hR_
      have S_ : St w_ (fun _ => False) w_ [] [bl b13 [I a0.Trips, I a0.Room, SL A1 a0.Counts.length c2] 24, bl b10 [I 0, I 0, SL none 0 0] 24, bl b7 [I a1.Who, I a1.From, I a1.To, I a1.Told, I a1.Unit, I a1.Under, I a1.Over] 33, bl b4 [I a0.Trips, I a0.Room, SL A1 a0.Counts.length c2] 24, rd eTallyCount 7 A1 c2 a0.Counts] := S17.asP k_
      refine hopE [(3, P b7 0)] ⟨((hf_ 3 rfl).trans (rfl : _ = P b7 0)), trivial⟩ ?_
      refine p_ldA ty33 sz33 (S_.atP (i := 2) rfl) rfl rfl ?_
      refine wp_nil ?_
      exact ⟨_, rfl, S_.keep, rfl⟩
    · intro e_ w_ k_ hf_ hR_
      have S_ : St w_ (fun _ => False) w_ [] [bl b13 [I a0.Trips, I a0.Room, SL A1 a0.Counts.length c2] 24, bl b10 [I 0, I 0, SL none 0 0] 24, bl b7 [I a1.Who, I a1.From, I a1.To, I a1.Told, I a1.Unit, I a1.Under, I a1.Over] 33, bl b4 [I a0.Trips, I a0.Room, SL A1 a0.Counts.length c2] 24, rd eTallyCount 7 A1 c2 a0.Counts] := S17.asP k_
      obtain ⟨_, _, _, _, q90⟩ := hR_ 4 11 rfl (Nat.le_of_ble_eq_true rfl) rfl
      refine hopE [(11, AG [I a1.Who, I a1.From, I a1.To, I a1.Told, I a1.Unit, I a1.Under, I a1.Over])] ⟨q90, trivial⟩ ?_
      refine p_bsl (enc := eTallyCount) (l := ([a1] : List TallyCount)) (fun x => AG (eTallyCount x)) (fun _ => rfl) sc22 in33 eTallyCount_len rfl (by decide) (by decide) zr33_1 S_ rfl fun A91 c92 w93 S94 => ?_
      refine wp_nil ?_
      exact ⟨_, rfl, S94.keep, ⟨(A91, c92), rfl, ⟨BtwL.of (New.al (S94.newX (i := 0) rfl)) rfl (S94.atX (i := 0) rfl) rfl, trivial⟩, (List.forall_mem_cons.2 ⟨(S94.atX (i := 0) rfl), (fun _ h_ => (List.not_mem_nil h_).elim)⟩)⟩⟩
    intro e96 w97 lo98 hi99 k100 hf101 hR102 hd103
    have S104 := S17.call k100
    obtain ⟨h106, h107, h108, A18, q105, h109, h110⟩ := hR102 0 7 (Nat.le_of_ble_eq_true rfl) rfl
    replace q105 : e96 7 = SL A18 0 0 := q105
    obtain ⟨p111, _⟩ := h109
    have q113 : e96 8 = P b4 2 := (hR102 1 8 (Nat.le_of_ble_eq_true rfl) rfl).2.2.2
    have q114 : e96 9 = SL A1 a0.Counts.length c2 := (hR102 2 9 (Nat.le_of_ble_eq_true rfl) rfl).2.2.2
    obtain ⟨h116, h117, h118, ⟨A86, c87⟩, q115, h119, h120⟩ := hR102 3 10 (Nat.le_of_ble_eq_true rfl) rfl
    replace q115 : e96 10 = SL A86 a0.Counts.length c87 := q115
    obtain ⟨p121, _⟩ := h119
    have q123 : e96 11 = AG [I a1.Who, I a1.From, I a1.To, I a1.Told, I a1.Unit, I a1.Under, I a1.Over] := (hR102 4 11 (Nat.le_of_ble_eq_true rfl) rfl).2.2.2
    obtain ⟨h125, h126, h127, ⟨A91, c92⟩, q124, h128, h129⟩ := hR102 5 12 (Nat.le_of_ble_eq_true rfl) rfl
    replace q124 : e96 12 = SL A91 ([a1] : List TallyCount).length c92 := q124
    obtain ⟨p130, _⟩ := h128
    have S132 := St.addO S104 (h120 _ (.head _)) (fun b_ h_ => (p121 b_ h_).elim (fun q_ => Nat.le_trans S17.keep.size (Nat.le_trans h116 q_.1)) (fun ⟨_, hq_, _⟩ => (List.not_mem_nil hq_).elim)) (List.forall_mem_cons.2 ⟨(fun b_ h1_ h2_ => (p121 b_ h1_).elim (fun q2_ => by have q1_ := Asr.inb _ _ _ (S17.atX (i := 0) rfl) h2_; omega) (fun ⟨_, hq_, _⟩ => (List.not_mem_nil hq_).elim)), (List.forall_mem_cons.2 ⟨(fun b_ h1_ h2_ => (p121 b_ h1_).elim (fun q2_ => by have q1_ := Asr.inb _ _ _ (S17.atX (i := 1) rfl) h2_; omega) (fun ⟨_, hq_, _⟩ => (List.not_mem_nil hq_).elim)), (List.forall_mem_cons.2 ⟨(fun b_ h1_ h2_ => (p121 b_ h1_).elim (fun q2_ => by have q1_ := Asr.inb _ _ _ (S17.atX (i := 2) rfl) h2_; omega) (fun ⟨_, hq_, _⟩ => (List.not_mem_nil hq_).elim)), (List.forall_mem_cons.2 ⟨(fun b_ h1_ h2_ => (p121 b_ h1_).elim (fun q2_ => by have q1_ := Asr.inb _ _ _ (S17.atX (i := 3) rfl) h2_; omega) (fun ⟨_, hq_, _⟩ => (List.not_mem_nil hq_).elim)), (fun _ h_ => (List.not_mem_nil h_).elim)⟩)⟩)⟩)⟩) (List.forall_mem_cons.2 ⟨(fun b_ h1_ h2_ => (p121 b_ h1_).elim (fun q2_ => by have q1_ := Asr.inb _ _ _ (S17.atP (i := 0) rfl) h2_; omega) (fun ⟨_, hq_, _⟩ => (List.not_mem_nil hq_).elim)), (fun _ h_ => (List.not_mem_nil h_).elim)⟩)
    have S133 := St.addO S132 (h129 _ (.head _)) (fun b_ h_ => (p130 b_ h_).elim (fun q_ => Nat.le_trans S17.keep.size (Nat.le_trans h125 q_.1)) (fun ⟨_, hq_, _⟩ => (List.not_mem_nil hq_).elim)) (List.forall_mem_cons.2 ⟨(fun b_ h1_ h2_ => (p130 b_ h1_).elim (fun q1_ => (p121 b_ h2_).elim (fun q2_ => by have q3_ := hd103 5 3 (Nat.le_of_ble_eq_true rfl) (Nat.le_of_ble_eq_true rfl) (by decide); omega) (fun ⟨q_, hq_, hqb_⟩ => by have q5_ := h125; have q4_ := Asr.inb _ _ _ (S17.ps q_ (((fun _ h_ => (List.not_mem_nil h_).elim)) q_ hq_)) hqb_; omega)) (fun ⟨_, hq_, _⟩ => (List.not_mem_nil hq_).elim)), (List.forall_mem_cons.2 ⟨(fun b_ h1_ h2_ => (p130 b_ h1_).elim (fun q2_ => by have q1_ := Asr.inb _ _ _ (S17.atX (i := 0) rfl) h2_; omega) (fun ⟨_, hq_, _⟩ => (List.not_mem_nil hq_).elim)), (List.forall_mem_cons.2 ⟨(fun b_ h1_ h2_ => (p130 b_ h1_).elim (fun q2_ => by have q1_ := Asr.inb _ _ _ (S17.atX (i := 1) rfl) h2_; omega) (fun ⟨_, hq_, _⟩ => (List.not_mem_nil hq_).elim)), (List.forall_mem_cons.2 ⟨(fun b_ h1_ h2_ => (p130 b_ h1_).elim (fun q2_ => by have q1_ := Asr.inb _ _ _ (S17.atX (i := 2) rfl) h2_; omega) (fun ⟨_, hq_, _⟩ => (List.not_mem_nil hq_).elim)), (List.forall_mem_cons.2 ⟨(fun b_ h1_ h2_ => (p130 b_ h1_).elim (fun q2_ => by have q1_ := Asr.inb _ _ _ (S17.atX (i := 3) rfl) h2_; omega) (fun ⟨_, hq_, _⟩ => (List.not_mem_nil hq_).elim)), (fun _ h_ => (List.not_mem_nil h_).elim)⟩)⟩)⟩)⟩)⟩) (List.forall_mem_cons.2 ⟨(fun b_ h1_ h2_ => (p130 b_ h1_).elim (fun q2_ => by have q1_ := Asr.inb _ _ _ (S17.atP (i := 0) rfl) h2_; omega) (fun ⟨_, hq_, _⟩ => (List.not_mem_nil hq_).elim)), (fun _ h_ => (List.not_mem_nil h_).elim)⟩)
    refine tailE [(4, P b10 0), (5, P b13 0), (10, SL A86 a0.Counts.length c87), (12, SL A91 ([a1] : List TallyCount).length c92)] ⟨((hf101 4 rfl).trans (rfl : _ = P b10 0)), ((hf101 5 rfl).trans (rfl : _ = P b13 0)), q115, q124, trivial⟩ ?_
    intro g134
    obtain ⟨h139, H⟩ := needS H
    refine p_app (enc := eTallyCount) sc22 in33 rfl eTallyCount_len eTallyCount_one (by decide) S133 (k := 1) rfl (gr_sl eTallyCount_len (S133.atX (i := 0) rfl)) h139 (by simp) rfl rfl fun A137 c138 w135 S136 => ?_
    refine p_fld fl24_2 rfl ?_
    refine p_stP (pre := [I a0.Trips, I a0.Room]) (old := [SL A1 a0.Counts.length c2]) (post := []) (vs := [SL A137 (a0.Counts ++ ([a1] : List TallyCount)).length c138]) sz22 S136 (i := 2) rfl rfl rfl rfl (rfl : _ = SL A137 (a0.Counts ++ ([a1] : List TallyCount)).length c138) rfl rfl rfl rfl fun w140 S141 => ?_
    refine wp_nil ?_
    refine c_seq ?_
    refine reg ?_
    refine p_ldA ty24 sz24 (S141.atX (i := 2) rfl) rfl rfl ?_
    refine p_stP (pre := []) (old := [I 0, I 0, SL none 0 0]) (post := []) (vs := [I a0.Trips, I a0.Room, SL A137 (a0.Counts ++ ([a1] : List TallyCount)).length c138]) sz24 S141 (i := 3) rfl rfl rfl rfl (rfl : _ = AG [I a0.Trips, I a0.Room, SL A137 (a0.Counts ++ ([a1] : List TallyCount)).length c138]) rfl rfl rfl rfl fun w142 S143 => ?_
    refine wp_nil ?_
    obtain rfl := Option.some.inj H
    refine c_ret ?_; show bodyPostM (Fr none) 0 Tryd.prog Tryd.f87 _ .ret _ _
    refine ret_of (res1 rfl (rvA rfl ty24 sz24 (S143.atX (i := 3) rfl) rfl)) ?_
    exact ⟨_, rfl, A137, c138, rfl, S143.keep, ⟨S143.atX (i := 1) rfl, S143.newX (i := 1) rfl⟩, trivial⟩

def B_Member (a0 : Int) (a1 : Int) : Option Bool :=
  need (decide (0 ≤ a1)) <|
  some ((andI (shrI a0 a1) 1) == 1)

set_option maxRecDepth 100000 in
theorem B_Member_ok {a0 : Int} {a1 : Int} {w : World} {r : Bool} (H : B_Member a0 a1 = some r) : Calls Tryd.prog 79 #[I a0, I a1] w (RetV w (B r)) := by
  unfold B_Member at H
  refine fn_of (n := 10) Tryd.func79 rfl rfl (Nat.le_of_ble_eq_true rfl) ?_
  have S : St w (fun _ => False) w [] [] := St.start w _ _ (fun _ h_ => (List.not_mem_nil h_).elim)
  refine c_seq ?_
  refine reg ?_
  refine p_aB rfl ?_
  refine wp_nil ?_
  refine c_seq ?_
  refine reg ?_
  refine p_mI rfl ?_
  refine p_mI rfl ?_
  obtain ⟨h1, H⟩ := needS H
  refine p_shr h1 rfl rfl ?_
  refine p_andI rfl rfl ?_
  refine p_cmp rfl rfl rfl ?_
  refine p_aB rfl ?_
  refine wp_nil ?_
  obtain rfl := Option.some.inj H
  refine c_ret ?_; show bodyPostM (Fr none) 0 Tryd.prog Tryd.f79 _ .ret _ _
  refine ret_of (res1 rfl (rvT (rfl : _ = B ((andI (shrI a0 a1) 1) == 1)))) ?_
  exact ⟨_, rfl, rfl, S.keep⟩

def B_Members_l2 (a1 : Int) (a0 : Int) (rec_z_1 : ((List Int) × Int) → Option (List Int)) (z_1 : (List Int) × Int) : Option (List Int) :=
  bif decide (z_1.2 < a1) then ((B_Member a0 z_1.2).bind fun r11 =>
  bif r11 then (need (fitsL (z_1.1.length + ([z_1.2] : List Int).length) 8) <|
  rec_z_1 (z_1.1 ++ ([z_1.2] : List Int), wr (z_1.2 + 1)))
  else (rec_z_1 (z_1.1, wr (z_1.2 + 1))))
  else (some z_1.1)

def B_Members (a0 : Int) (a1 : Int) : Option (List Int) :=
  loopF (B_Members_l2 a1 a0) big (([] : List Int), 0)

set_option maxRecDepth 100000 in
theorem B_Members_ok {a0 : Int} {a1 : Int} {w : World} {r : (List Int)} (H : B_Members a0 a1 = some r) : Calls Tryd.prog 46 #[I a0, I a1] w fun en w_ => ∃ u_, en = .returned u_ ∧ ∃ A_1 : Option Addr, ∃ c_2 : Nat, u_ = SL A_1 r.length c_2 ∧ Keep0 w w_ ∧ ((gr intE 1 3 A_1 c_2 r).ok w_ ∧ New w.heap.size (gr intE 1 3 A_1 c_2 r)) ∧ True := by
  unfold B_Members at H
  refine fn_of (n := 21) Tryd.func46 rfl rfl (Nat.le_of_ble_eq_true rfl) ?_
  have S : St w (fun _ => False) w [] [] := St.start w _ _ (fun _ h_ => (List.not_mem_nil h_).elim)
  refine c_seq ?_
  refine reg ?_
  refine p_aS rfl ?_
  refine wp_nil ?_
  refine c_seq ?_
  refine reg ?_
  refine p_bsl0 intE sc31 S fun A1 w3 S4 => ?_
  refine p_aS rfl ?_
  refine wp_nil ?_
  refine c_seq ?_
  refine c_seq ?_
  refine reg ?_
  refine p_aI rfl ?_
  refine wp_nil ?_
  refine c_block ?_
  refine c_lop (α := (List Int) × Int) (β := (Option Addr) × Nat) (B_Members_l2 a1 a0) (fun z_1 y_1 => [(0, I a0), (1, I a1), (5, SL y_1.1 z_1.1.length y_1.2), (6, I z_1.2)]) (fun z_1 y_1 w_ => St w (fun _ => False) w_ [gr intE 1 3 y_1.1 y_1.2 z_1.1] []) (([] : List Int), 0) (A1, 0) H ⟨rfl, rfl, rfl, rfl, trivial⟩ S4 ?_
  intro m6 z_1 y_1 e7 w8 H S9
  unfold B_Members_l2 at H
  refine c_seq ?_
  refine c_seq ?_
  refine reg ?_
  refine p_mI rfl ?_
  refine p_mI rfl ?_
  refine p_cmp rfl rfl rfl ?_
  refine wp_nil ?_
  refine c_cond rfl (fun c10 => ?_) (fun c10 => ?_)
  · replace H := condT c10 H
    refine c_skip ?_
    refine c_seq ?_
    refine c_block ?_
    refine c_seq ?_
    refine reg ?_
    refine p_mI rfl ?_
    refine p_mI rfl ?_
    obtain ⟨r11, h12, H⟩ := bindS H
    refine p_cv (B_Member_ok h12) fu79 rfl S9 fun w13 S14 => ?_
    refine wp_nil ?_
    refine c_cond rfl (fun c15 => ?_) (fun c15 => ?_)
    · replace H := condT c15 H
      refine reg ?_
      refine p_mS rfl ?_
      refine p_mI rfl ?_
      refine p_bsl (enc := intE) (l := ([z_1.2] : List Int)) I (fun _ => rfl) sc31 in3 intE_len rfl (by decide) (by decide) zr3_1 S14 rfl fun A16 c17 w18 S19 => ?_
      obtain ⟨h25, H⟩ := needS H
      refine p_app (enc := intE) sc31 in3 rfl intE_len intE_one (by decide) S19 (k := 1) rfl (gr_sl intE_len (S19.atX (i := 0) rfl)) h25 (by simp) rfl rfl fun A23 c24 w21 S22 => ?_
      refine p_aS rfl ?_
      refine wp_nil ?_
      refine reg ?_
      refine p_mI rfl ?_
      refine p_add rfl rfl ?_
      refine p_aI rfl ?_
      refine wp_nil ?_
      have S26 := S22.pk [1] (by decide) [] rfl rfl
      exact ⟨(z_1.1 ++ ([z_1.2] : List Int), wr (z_1.2 + 1)), (A23, c24), _, rfl, ⟨rfl, rfl, rfl, rfl, trivial⟩, H, S26⟩
    · replace H := condF c15 H
      refine c_skip ?_
      refine reg ?_
      refine p_mI rfl ?_
      refine p_add rfl rfl ?_
      refine p_aI rfl ?_
      refine wp_nil ?_
      exact ⟨(z_1.1, wr (z_1.2 + 1)), (y_1.1, y_1.2), _, rfl, ⟨rfl, rfl, rfl, rfl, trivial⟩, H, S14⟩
  · replace H := condF c10 H
    refine c_exit ?_
    refine c_seq ?_
    refine reg ?_
    refine p_mS rfl ?_
    refine p_aS rfl ?_
    refine wp_nil ?_
    obtain rfl := Option.some.inj H
    refine c_ret ?_; show bodyPostM (Fr none) 0 Tryd.prog Tryd.f46 _ .ret _ _
    refine ret_of (res1 rfl (rvT (rfl : _ = SL y_1.1 z_1.1.length y_1.2))) ?_
    exact ⟨_, rfl, y_1.1, y_1.2, rfl, S9.keep, ⟨S9.atX (i := 0) rfl, S9.newX (i := 0) rfl⟩, trivial⟩

def B_Before_l2 (a1 : List Int) (a0 : List Int) (rec_z_1 : Int → Option Bool) (z_1 : Int) : Option Bool :=
  bif decide (z_1 < (if (a1.length : Int) < (a0.length : Int) then (a1.length : Int) else (a0.length : Int))) then ((getI a0 z_1).bind fun r12 =>
  (getI a1 z_1).bind fun r14 =>
  bif (r12 != r14) then ((getI a0 z_1).bind fun r20 =>
  (getI a1 z_1).bind fun r22 =>
  some (decide (r20 < r22)))
  else (rec_z_1 (wr (z_1 + 1))))
  else (some (decide ((a0.length : Int) < (a1.length : Int))))

def B_Before (a0 : List Int) (a1 : List Int) : Option Bool :=
  loopF (B_Before_l2 a1 a0) big 0

set_option maxRecDepth 100000 in
theorem B_Before_ok {a0 : List Int} {a1 : List Int} {A1 : Option Addr} {c2 : Nat} {A4 : Option Addr} {c5 : Nat} {w : World} {r : Bool} (H : B_Before a0 a1 = some r) (h3 : (rd intE 1 A1 c2 a0).ok w) (h6 : (rd intE 1 A4 c5 a1).ok w) : Calls Tryd.prog 80 #[SL A1 a0.length c2, SL A4 a1.length c5] w (RetV w (B r)) := by
  unfold B_Before at H
  refine fn_of (n := 38) Tryd.func80 rfl rfl (Nat.le_of_ble_eq_true rfl) ?_
  have S : St w (fun _ => False) w [] [rd intE 1 A1 c2 a0, rd intE 1 A4 c5 a1] := St.start w _ _ (List.forall_mem_cons.2 ⟨h3, (List.forall_mem_cons.2 ⟨h6, (fun _ h_ => (List.not_mem_nil h_).elim)⟩)⟩)
  refine c_seq ?_
  refine reg ?_
  refine p_aB rfl ?_
  refine wp_nil ?_
  refine c_seq ?_
  refine c_seq ?_
  refine reg ?_
  refine p_aI rfl ?_
  refine wp_nil ?_
  refine c_block ?_
  refine c_lop (α := Int) (β := Unit) (B_Before_l2 a1 a0) (fun z_1 y_1 => [(0, SL A1 a0.length c2), (1, SL A4 a1.length c5), (5, I z_1)]) (fun z_1 y_1 w_ => St w (fun _ => False) w_ [] [rd intE 1 A1 c2 a0, rd intE 1 A4 c5 a1]) 0 () H ⟨rfl, rfl, rfl, trivial⟩ S ?_
  intro m7 z_1 y_1 e8 w9 H S10
  unfold B_Before_l2 at H
  refine c_seq ?_
  refine c_seq ?_
  refine reg ?_
  refine p_mI rfl ?_
  refine p_mS rfl ?_
  refine p_len rfl sc31 ?_
  refine p_mS rfl ?_
  refine p_len rfl sc31 ?_
  refine p_min rfl rfl ?_
  refine p_cmp rfl rfl rfl ?_
  refine wp_nil ?_
  refine c_cond rfl (fun c11 => ?_) (fun c11 => ?_)
  · replace H := condT c11 H
    refine c_skip ?_
    refine c_seq ?_
    refine c_block ?_
    refine c_seq ?_
    obtain ⟨r12, h13, H⟩ := bindS H
    obtain ⟨r14, h15, H⟩ := bindS H
    refine reg_q mixed 9 (by kernel_rfl) ?_
    refine dS (fun _ k_ => p_mS rfl dn) ?_
    refine dS (fun _ k_ => p_mI rfl dn) ?_
    refine dS (fun _ k_ => p_ixE sc31 h13 (Asr.stays (S10.atP (i := 0) rfl) k_).1 rfl rfl rfl dn) ?_
    refine dS (fun _ k_ => p_ldE ty3 h13 (Asr.stays (S10.atP (i := 0) rfl) k_).1 rfl rfl dn) ?_
    refine dS (fun _ k_ => p_mS rfl dn) ?_
    refine dS (fun _ k_ => p_mI rfl dn) ?_
    refine dS (fun _ k_ => p_ixE sc31 h15 (Asr.stays (S10.atP (i := 1) rfl) k_).1 rfl rfl rfl dn) ?_
    refine dS (fun _ k_ => p_ldE ty3 h15 (Asr.stays (S10.atP (i := 1) rfl) k_).1 rfl rfl dn) ?_
    refine dS (fun _ k_ => p_cmp rfl rfl rfl dn) ?_
    intro w16 k17; have S18 := S10.call k17
    refine wp_nil ?_
    refine c_cond rfl (fun c19 => ?_) (fun c19 => ?_)
    · replace H := condT c19 H
      refine c_seq ?_
      obtain ⟨r20, h21, H⟩ := bindS H
      obtain ⟨r22, h23, H⟩ := bindS H
      refine reg_q mixed 10 (by kernel_rfl) ?_
      refine dS (fun _ k_ => p_mS rfl dn) ?_
      refine dS (fun _ k_ => p_mI rfl dn) ?_
      refine dS (fun _ k_ => p_ixE sc31 h21 (Asr.stays (S18.atP (i := 0) rfl) k_).1 rfl rfl rfl dn) ?_
      refine dS (fun _ k_ => p_ldE ty3 h21 (Asr.stays (S18.atP (i := 0) rfl) k_).1 rfl rfl dn) ?_
      refine dS (fun _ k_ => p_mS rfl dn) ?_
      refine dS (fun _ k_ => p_mI rfl dn) ?_
      refine dS (fun _ k_ => p_ixE sc31 h23 (Asr.stays (S18.atP (i := 1) rfl) k_).1 rfl rfl rfl dn) ?_
      refine dS (fun _ k_ => p_ldE ty3 h23 (Asr.stays (S18.atP (i := 1) rfl) k_).1 rfl rfl dn) ?_
      refine dS (fun _ k_ => p_cmp rfl rfl rfl dn) ?_
      refine dS (fun _ k_ => p_aB rfl dn) ?_
      intro w24 k25; have S26 := S18.call k25
      refine wp_nil ?_
      obtain rfl := Option.some.inj H
      refine c_ret ?_; show bodyPostM (Fr none) 0 Tryd.prog Tryd.f80 _ .ret _ _
      refine ret_of (res1 rfl (rvT (rfl : _ = B (decide (r20 < r22))))) ?_
      exact ⟨_, rfl, rfl, S26.keep⟩
    · replace H := condF c19 H
      refine c_skip ?_
      refine reg ?_
      refine p_mI rfl ?_
      refine p_add rfl rfl ?_
      refine p_aI rfl ?_
      refine wp_nil ?_
      exact ⟨wr (z_1 + 1), (), _, rfl, ⟨rfl, rfl, rfl, trivial⟩, H, S18⟩
  · replace H := condF c11 H
    refine c_exit ?_
    refine c_seq ?_
    refine reg ?_
    refine p_mS rfl ?_
    refine p_len rfl sc31 ?_
    refine p_mS rfl ?_
    refine p_len rfl sc31 ?_
    refine p_cmp rfl rfl rfl ?_
    refine p_aB rfl ?_
    refine wp_nil ?_
    obtain rfl := Option.some.inj H
    refine c_ret ?_; show bodyPostM (Fr none) 0 Tryd.prog Tryd.f80 _ .ret _ _
    refine ret_of (res1 rfl (rvT (rfl : _ = B (decide ((a0.length : Int) < (a1.length : Int)))))) ?_
    exact ⟨_, rfl, rfl, S10.keep⟩

def B_Better (a0 : List Int) (a1 : List Int) : Option Bool :=
  bif decide ((a0.length : Int) < (a1.length : Int)) then (some true)
  else (bif ((a0.length : Int) == (a1.length : Int)) then ((B_Before a0 a1).bind fun r9 =>
  some r9)
  else (some false))

set_option maxRecDepth 100000 in
theorem B_Better_ok {a0 : List Int} {a1 : List Int} {A1 : Option Addr} {c2 : Nat} {A4 : Option Addr} {c5 : Nat} {w : World} {r : Bool} (H : B_Better a0 a1 = some r) (h3 : (rd intE 1 A1 c2 a0).ok w) (h6 : (rd intE 1 A4 c5 a1).ok w) : Calls Tryd.prog 48 #[SL A1 a0.length c2, SL A4 a1.length c5] w (RetV w (B r)) := by
  unfold B_Better at H
  refine fn_of (n := 22) Tryd.func48 rfl rfl (Nat.le_of_ble_eq_true rfl) ?_
  have S : St w (fun _ => False) w [] [rd intE 1 A1 c2 a0, rd intE 1 A4 c5 a1] := St.start w _ _ (List.forall_mem_cons.2 ⟨h3, (List.forall_mem_cons.2 ⟨h6, (fun _ h_ => (List.not_mem_nil h_).elim)⟩)⟩)
  refine c_seq ?_
  refine reg ?_
  refine p_aB rfl ?_
  refine wp_nil ?_
  refine c_seq ?_
  refine reg ?_
  refine p_mS rfl ?_
  refine p_len rfl sc31 ?_
  refine p_mS rfl ?_
  refine p_len rfl sc31 ?_
  refine p_cmp rfl rfl rfl ?_
  refine p_mB rfl ?_
  rcases Bool.eq_false_or_eq_true (decide ((a0.length : Int) < (a1.length : Int))) with c7 | c7
  · replace H := condT c7 H
    refine eB c7 ?_
    refine gF rfl rfl ?_
    refine gF rfl rfl ?_
    refine gF rfl rfl ?_
    refine gF rfl rfl ?_
    refine gF rfl rfl ?_
    refine gF rfl rfl ?_
    refine o_guardU rfl rfl ?_
    refine o_guardU rfl rfl ?_
    refine o_guardU rfl rfl ?_
    refine gF rfl rfl ?_
    refine p_pkT rfl (rfl : _ = B true) ?_
    refine p_aB rfl ?_
    refine wp_nil ?_
    obtain rfl := Option.some.inj H
    refine c_ret ?_; show bodyPostM (Fr none) 0 Tryd.prog Tryd.f48 _ .ret _ _
    refine ret_of (res1 rfl (rvT (rfl : _ = B true))) ?_
    exact ⟨_, rfl, rfl, S.keep⟩
  · replace H := condF c7 H
    refine eB c7 ?_
    refine gT rfl rfl (p_mS rfl ?_)
    refine gT rfl rfl (p_len rfl sc31 ?_)
    refine gT rfl rfl (p_mS rfl ?_)
    refine gT rfl rfl (p_len rfl sc31 ?_)
    refine gT rfl rfl (p_cmp rfl rfl rfl ?_)
    refine gT rfl rfl (p_mB rfl ?_)
    rcases Bool.eq_false_or_eq_true (((a0.length : Int) == (a1.length : Int))) with c8 | c8
    · replace H := condT c8 H
      refine eB c8 ?_
      refine gT rfl rfl (p_mS rfl ?_)
      refine gT rfl rfl (p_mS rfl ?_)
      obtain ⟨r9, h10, H⟩ := bindS H
      refine gT rfl rfl (p_cv (B_Before_ok h10 (S.atP (i := 0) rfl) (S.atP (i := 1) rfl)) fu80 rfl S fun w11 S12 => ?_)
      refine gT rfl rfl (p_pkT rfl (rfl : _ = B r9) ?_)
      refine p_pkF rfl (rfl : _ = B r9) ?_
      refine p_aB rfl ?_
      refine wp_nil ?_
      obtain rfl := Option.some.inj H
      refine c_ret ?_; show bodyPostM (Fr none) 0 Tryd.prog Tryd.f48 _ .ret _ _
      refine ret_of (res1 rfl (rvT (rfl : _ = B r9))) ?_
      exact ⟨_, rfl, rfl, S12.keep⟩
    · replace H := condF c8 H
      refine eB c8 ?_
      refine gF rfl rfl ?_
      refine gF rfl rfl ?_
      refine gF rfl rfl ?_
      refine gT rfl rfl (p_pkF rfl (rfl : _ = B false) ?_)
      refine p_pkF rfl (rfl : _ = B false) ?_
      refine p_aB rfl ?_
      refine wp_nil ?_
      obtain rfl := Option.some.inj H
      refine c_ret ?_; show bodyPostM (Fr none) 0 Tryd.prog Tryd.f48 _ .ret _ _
      refine ret_of (res1 rfl (rvT (rfl : _ = B false))) ?_
      exact ⟨_, rfl, rfl, S.keep⟩

def ref_Without_l2 (a0 : TallyBook) (a1 : Int) (rec_z_1 : (Int × (List TallyCount)) → Option TallyBook) (z_1 : Int × (List TallyCount)) : Option TallyBook :=
  bif decide (z_1.1 < (a0.Counts.length : Int)) then ((B_Member a1 z_1.1).bind fun r23 =>
  bif !r23 then ((getI a0.Counts z_1.1).bind fun r28 =>
  need (fitsL (z_1.2.length + ([r28] : List TallyCount).length) 56) <|
  rec_z_1 (wr (z_1.1 + 1), z_1.2 ++ ([r28] : List TallyCount)))
  else (rec_z_1 (wr (z_1.1 + 1), z_1.2)))
  else (some (TallyBook.mk a0.Trips a0.Room z_1.2))

def ref_Without (a0 : TallyBook) (a1 : Int) : Option TallyBook :=
  loopF (ref_Without_l2 a0 a1) big (0, ([] : List TallyCount))

set_option maxRecDepth 100000 in
theorem ref_Without_ok {a0 : TallyBook} {a1 : Int} {A1 : Option Addr} {c2 : Nat} {w : World} {r : TallyBook} (H : ref_Without a0 a1 = some r) (h3 : (rd eTallyCount 7 A1 c2 a0.Counts).ok w) : Calls Tryd.prog 88 #[AG [I a0.Trips, I a0.Room, SL A1 a0.Counts.length c2], I a1] w fun en w_ => ∃ u_, en = .returned u_ ∧ ∃ A_1 : Option Addr, ∃ c_2 : Nat, u_ = AG [I r.Trips, I r.Room, SL A_1 r.Counts.length c_2] ∧ Keep0 w w_ ∧ ((gr eTallyCount 7 33 A_1 c_2 r.Counts).ok w_ ∧ New w.heap.size (gr eTallyCount 7 33 A_1 c_2 r.Counts)) ∧ True := by
  unfold ref_Without at H
  refine fn_of (n := 31) Tryd.func88 rfl rfl (Nat.le_of_ble_eq_true rfl) ?_
  have S : St w (fun _ => False) w [] [rd eTallyCount 7 A1 c2 a0.Counts] := St.start w _ _ (List.forall_mem_cons.2 ⟨h3, (fun _ h_ => (List.not_mem_nil h_).elim)⟩)
  refine c_seq ?_
  refine reg ?_
  refine p_boxA rfl S fun b4 w5 S6 => ?_
  refine p_allA in24 S6 fun b7 w8 S9 => ?_
  refine wp_nil ?_
  refine c_seq ?_
  refine reg ?_
  refine p_ldA ty24 sz24 (S9.atX (i := 1) rfl) rfl rfl ?_
  refine p_allA in24 S9 fun b10 w11 S12 => ?_
  refine p_stP (pre := []) (old := [I 0, I 0, SL none 0 0]) (post := []) (vs := [I a0.Trips, I a0.Room, SL A1 a0.Counts.length c2]) sz24 S12 (i := 0) rfl rfl rfl rfl (rfl : _ = AG [I a0.Trips, I a0.Room, SL A1 a0.Counts.length c2]) rfl rfl rfl rfl fun w13 S14 => ?_
  refine wp_nil ?_
  refine c_seq ?_
  refine reg ?_
  refine p_fld fl24_2 rfl ?_
  refine p_stP (pre := [I a0.Trips, I a0.Room]) (old := [SL A1 a0.Counts.length c2]) (post := []) (vs := [SL none 0 0]) sz22 S14 (i := 0) rfl rfl rfl rfl (rfl : _ = SL none 0 0) rfl rfl rfl rfl fun w15 S16 => ?_
  refine wp_nil ?_
  refine c_seq ?_
  refine c_seq ?_
  refine reg ?_
  refine p_aI rfl ?_
  refine wp_nil ?_
  refine c_block ?_
  have S17 := S16.nilRow eTallyCount 7 33
  refine c_lop (α := Int × (List TallyCount)) (β := (Option Addr) × Nat) (ref_Without_l2 a0 a1) (fun z_1 y_1 => [(1, I a1), (2, P b4 0), (4, P b7 0), (5, P b10 0), (6, I z_1.1)]) (fun z_1 y_1 w_ => St w (fun _ => False) w_ [gr eTallyCount 7 33 y_1.1 y_1.2 z_1.2, bl b10 [I a0.Trips, I a0.Room, SL y_1.1 z_1.2.length y_1.2] 24, bl b7 [I 0, I 0, SL none 0 0] 24, bl b4 [I a0.Trips, I a0.Room, SL A1 a0.Counts.length c2] 24] [rd eTallyCount 7 A1 c2 a0.Counts]) (0, ([] : List TallyCount)) (none, 0) H ⟨rfl, rfl, rfl, rfl, rfl, trivial⟩ S17 ?_
  intro m18 z_1 y_1 e19 w20 H S21
  unfold ref_Without_l2 at H
  refine c_seq ?_
  refine c_seq ?_
  refine reg ?_
  refine p_mI rfl ?_
  refine p_fld fl24_2 rfl ?_
  refine p_ld ty22 (S21.atX (i := 3) rfl) rfl rfl ?_
  refine p_len rfl sc22 ?_
  refine p_cmp rfl rfl rfl ?_
  refine wp_nil ?_
  refine c_cond rfl (fun c22 => ?_) (fun c22 => ?_)
  · replace H := condT c22 H
    refine c_skip ?_
    refine c_seq ?_
    refine c_block ?_
    refine c_seq ?_
    refine reg ?_
    refine p_mI rfl ?_
    refine p_mI rfl ?_
    obtain ⟨r23, h24, H⟩ := bindS H
    refine p_cv (B_Member_ok h24) fu79 rfl S21 fun w25 S26 => ?_
    refine p_not rfl ?_
    refine wp_nil ?_
    refine c_cond rfl (fun c27 => ?_) (fun c27 => ?_)
    · replace H := condT c27 H
      obtain ⟨r28, h29, H⟩ := bindS H
      refine reg_c mixed 8 [7] (by kernel_rfl) ?_
      refine kS rfl (fun _ k_ => p_fld fl24_2 rfl dn) ?_
      refine kS rfl (fun _ k_ => p_ld ty22 (Asr.stays (S26.atX (i := 1) rfl) k_) rfl rfl dn) ?_
      refine kS rfl (fun _ k_ => p_fld fl24_2 rfl dn) ?_
      refine kS rfl (fun _ k_ => p_ld ty22 (Asr.stays (S26.atX (i := 3) rfl) k_) rfl rfl dn) ?_
      refine kS rfl (fun _ k_ => p_mI rfl dn) ?_
      refine kS rfl (fun _ k_ => p_ixE sc22 h29 (Asr.stays (S26.atP (i := 0) rfl) k_).1 rfl rfl rfl dn) ?_
      refine kS rfl (fun _ k_ => p_ldEA ty33 sz33 rfl h29 (Asr.stays (S26.atP (i := 0) rfl) k_).1 rfl dn) ?_
      refine kC rfl ?_
      intro w30 k31; have S32 := S26.call k31
      have S38 := S32.base
      refine p_bsl (enc := eTallyCount) (l := ([r28] : List TallyCount)) (fun x => AG (eTallyCount x)) (fun _ => rfl) sc22 in33 eTallyCount_len rfl (by decide) (by decide) zr33_1 S38 rfl fun A33 c34 w35 S36 => ?_
      refine cN S36.keep fun w39 k40 => ?_
      have S41 := (S32.fromBase S36).call k40
      obtain ⟨h46, H⟩ := needS H
      refine p_app (enc := eTallyCount) sc22 in33 rfl eTallyCount_len eTallyCount_one (by decide) S41 (k := 1) rfl (gr_sl eTallyCount_len (S41.atX (i := 0) rfl)) h46 (by simp) rfl rfl fun A44 c45 w42 S43 => ?_
      refine p_fld fl24_2 rfl ?_
      refine p_stP (pre := [I a0.Trips, I a0.Room]) (old := [SL y_1.1 z_1.2.length y_1.2]) (post := []) (vs := [SL A44 (z_1.2 ++ ([r28] : List TallyCount)).length c45]) sz22 S43 (i := 2) rfl rfl rfl rfl (rfl : _ = SL A44 (z_1.2 ++ ([r28] : List TallyCount)).length c45) rfl rfl rfl rfl fun w47 S48 => ?_
      refine wp_nil ?_
      refine reg ?_
      refine p_mI rfl ?_
      refine p_add rfl rfl ?_
      refine p_aI rfl ?_
      refine wp_nil ?_
      have S49 := S48.pk [1, 2, 3, 4] (by decide) [0] rfl rfl
      exact ⟨(wr (z_1.1 + 1), z_1.2 ++ ([r28] : List TallyCount)), (A44, c45), _, rfl, ⟨rfl, rfl, rfl, rfl, rfl, trivial⟩, H, S49⟩
    · replace H := condF c27 H
      refine c_skip ?_
      refine reg ?_
      refine p_mI rfl ?_
      refine p_add rfl rfl ?_
      refine p_aI rfl ?_
      refine wp_nil ?_
      exact ⟨(wr (z_1.1 + 1), z_1.2), (y_1.1, y_1.2), _, rfl, ⟨rfl, rfl, rfl, rfl, rfl, trivial⟩, H, S26⟩
  · replace H := condF c22 H
    refine c_exit ?_
    refine c_seq ?_
    refine reg ?_
    refine p_ldA ty24 sz24 (S21.atX (i := 1) rfl) rfl rfl ?_
    refine p_stP (pre := []) (old := [I 0, I 0, SL none 0 0]) (post := []) (vs := [I a0.Trips, I a0.Room, SL y_1.1 z_1.2.length y_1.2]) sz24 S21 (i := 2) rfl rfl rfl rfl (rfl : _ = AG [I a0.Trips, I a0.Room, SL y_1.1 z_1.2.length y_1.2]) rfl rfl rfl rfl fun w50 S51 => ?_
    refine wp_nil ?_
    obtain rfl := Option.some.inj H
    refine c_ret ?_; show bodyPostM (Fr none) 0 Tryd.prog Tryd.f88 _ .ret _ _
    refine ret_of (res1 rfl (rvA rfl ty24 sz24 (S51.atX (i := 2) rfl) rfl)) ?_
    exact ⟨_, rfl, y_1.1, y_1.2, rfl, S51.keep, ⟨S51.atX (i := 0) rfl, S51.newX (i := 0) rfl⟩, trivial⟩

def ref_Exact (a0 : Int) (a1 : Int) : Option TallyCount :=
  some (TallyCount.mk 2 a0 a0 a1 1 0 0)

set_option maxRecDepth 100000 in
theorem ref_Exact_ok {a0 : Int} {a1 : Int} {w : World} {r : TallyCount} (H : ref_Exact a0 a1 = some r) : Calls Tryd.prog 89 #[I a0, I a1] w (RetV w (AG [I r.Who, I r.From, I r.To, I r.Told, I r.Unit, I r.Under, I r.Over])) := by
  unfold ref_Exact at H
  refine fn_of (n := 9) Tryd.func89 rfl rfl (Nat.le_of_ble_eq_true rfl) ?_
  have S : St w (fun _ => False) w [] [] := St.start w _ _ (fun _ h_ => (List.not_mem_nil h_).elim)
  refine c_seq ?_
  refine reg ?_
  refine p_allA in33 S fun b1 w2 S3 => ?_
  refine wp_nil ?_
  refine c_seq ?_
  refine reg ?_
  refine p_mI rfl ?_
  refine p_mI rfl ?_
  refine p_mI rfl ?_
  refine p_bld (cs := [I 2, I a0, I a0, I a1, I 1, I 0, I 0]) st33 (rfl : _ = [(0, I 2), (1, I a0), (2, I a0), (3, I a1), (4, I 1)]) (by kernel_rfl) ?_
  refine p_stP (pre := []) (old := [I 0, I 0, I 0, I 0, I 0, I 0, I 0]) (post := []) (vs := [I 2, I a0, I a0, I a1, I 1, I 0, I 0]) sz33 S3 (i := 0) rfl rfl rfl rfl (rfl : _ = AG [I 2, I a0, I a0, I a1, I 1, I 0, I 0]) rfl rfl rfl rfl fun w4 S5 => ?_
  refine wp_nil ?_
  obtain rfl := Option.some.inj H
  refine c_ret ?_; show bodyPostM (Fr none) 0 Tryd.prog Tryd.f89 _ .ret _ _
  refine ret_of (res1 rfl (rvA rfl ty33 sz33 (S5.atX (i := 0) rfl) rfl)) ?_
  exact ⟨_, rfl, rfl, S5.keep⟩

def law_sound_l1 (a0 : TallyBook) (rec_z_2 : (Bool × Int) → Option Bool) (z_2 : Bool × Int) : Option Bool :=
  bif z_2.1 then (bif decide (z_2.2 < (a0.Counts.length : Int)) then ((getI a0.Counts z_2.2).bind fun r16 =>
  (B_Inside r16.From 0 r16.To).bind fun r23 =>
  bif r23 then (bif decide (r16.To < a0.Trips) then ((B_Inside r16.Told 0 99).bind fun r29 =>
  bif r29 then ((B_Inside r16.Unit 1 20).bind fun r34 =>
  bif r34 then ((B_Inside r16.Under 0 30).bind fun r39 =>
  bif r39 then ((B_Inside r16.Over 0 30).bind fun r44 =>
  rec_z_2 (r44, wr (z_2.2 + 1)))
  else (rec_z_2 (false, wr (z_2.2 + 1))))
  else (rec_z_2 (false, wr (z_2.2 + 1))))
  else (rec_z_2 (false, wr (z_2.2 + 1))))
  else (rec_z_2 (false, wr (z_2.2 + 1))))
  else (rec_z_2 (false, wr (z_2.2 + 1))))
  else (some z_2.1))
  else (some z_2.1)

def law_sound_j2 (a0 : TallyBook) (z_1 : Bool) : Option Bool :=
  loopF (law_sound_l1 a0) big (z_1, 0)

def law_sound (a0 : TallyBook) : Option Bool :=
  (tally_Check a0).bind fun r7 =>
  bif (r7 == 0) then ((B_Inside a0.Trips 1 8).bind fun r12 =>
  bif r12 then ((B_Inside a0.Room 0 60).bind fun r17 =>
  bif r17 then (law_sound_j2 a0 (decide ((a0.Counts.length : Int) ≤ 8)))
  else (law_sound_j2 a0 false))
  else (law_sound_j2 a0 false))
  else (law_sound_j2 a0 false)

set_option maxRecDepth 100000 in
theorem law_sound_ok {a0 : TallyBook} {A1 : Option Addr} {c2 : Nat} {w : World} {r : Bool} (H : law_sound a0 = some r) (h3 : (rd eTallyCount 7 A1 c2 a0.Counts).ok w) : Calls Tryd.prog 24 #[AG [I a0.Trips, I a0.Room, SL A1 a0.Counts.length c2]] w (RetV w (B r)) := by
  unfold law_sound at H
  refine fn_of (n := 73) Tryd.func24 rfl rfl (Nat.le_of_ble_eq_true rfl) ?_
  have S : St w (fun _ => False) w [] [rd eTallyCount 7 A1 c2 a0.Counts] := St.start w _ _ (List.forall_mem_cons.2 ⟨h3, (fun _ h_ => (List.not_mem_nil h_).elim)⟩)
  refine c_seq ?_
  refine reg ?_
  refine p_boxA rfl S fun b4 w5 S6 => ?_
  refine p_aB rfl ?_
  refine wp_nil ?_
  refine c_join (α := Bool) (β := Unit) (fun z_1 y_1 => [(1, P b4 0), (3, B z_1)]) (fun z_1 y_1 w_ => law_sound_j2 a0 z_1 = some r ∧ St w (fun _ => False) w_ [bl b4 [I a0.Trips, I a0.Room, SL A1 a0.Counts.length c2] 24] [rd eTallyCount 7 A1 c2 a0.Counts]) ?_ ?_
  · refine reg ?_
    refine p_ldA ty24 sz24 (S6.atX (i := 0) rfl) rfl rfl ?_
    obtain ⟨r7, h8, H⟩ := bindS H
    refine p_cv (tally_Check_ok h8 (S6.atP (i := 0) rfl)) fu53 rfl S6 fun w9 S10 => ?_
    refine p_cmp rfl rfl rfl ?_
    refine p_mB rfl ?_
    rcases Bool.eq_false_or_eq_true ((r7 == 0)) with c11 | c11
    · replace H := condT c11 H
      refine eB c11 ?_
      refine gT rfl rfl (p_fld fl24_0 rfl ?_)
      refine gT rfl rfl (p_ld ty3 (S10.atX (i := 0) rfl) rfl rfl ?_)
      obtain ⟨r12, h13, H⟩ := bindS H
      refine gT rfl rfl (p_cv (B_Inside_ok h13) fu40 rfl S10 fun w14 S15 => ?_)
      refine p_pkT rfl (rfl : _ = B r12) ?_
      refine p_mB rfl ?_
      rcases Bool.eq_false_or_eq_true (r12) with c16 | c16
      · replace H := condT c16 H
        refine eB c16 ?_
        refine gT rfl rfl (p_fld fl24_1 rfl ?_)
        refine gT rfl rfl (p_ld ty3 (S15.atX (i := 0) rfl) rfl rfl ?_)
        obtain ⟨r17, h18, H⟩ := bindS H
        refine gT rfl rfl (p_cv (B_Inside_ok h18) fu40 rfl S15 fun w19 S20 => ?_)
        refine p_pkT rfl (rfl : _ = B r17) ?_
        refine p_mB rfl ?_
        rcases Bool.eq_false_or_eq_true (r17) with c21 | c21
        · replace H := condT c21 H
          refine eB c21 ?_
          refine gT rfl rfl (p_fld fl24_2 rfl ?_)
          refine gT rfl rfl (p_ld ty22 (S20.atX (i := 0) rfl) rfl rfl ?_)
          refine gT rfl rfl (p_len rfl sc22 ?_)
          refine gT rfl rfl (p_cmp rfl rfl rfl ?_)
          refine p_pkT rfl (rfl : _ = B (decide ((a0.Counts.length : Int) ≤ 8))) ?_
          refine p_aB rfl ?_
          refine wp_nil ?_
          exact ⟨decide ((a0.Counts.length : Int) ≤ 8), (), _, rfl, ⟨rfl, rfl, trivial⟩, H, S20⟩
        · replace H := condF c21 H
          refine eB c21 ?_
          refine gF rfl rfl ?_
          refine gF rfl rfl ?_
          refine gF rfl rfl ?_
          refine gF rfl rfl ?_
          refine p_pkF rfl (rfl : _ = B false) ?_
          refine p_aB rfl ?_
          refine wp_nil ?_
          exact ⟨false, (), _, rfl, ⟨rfl, rfl, trivial⟩, H, S20⟩
      · replace H := condF c16 H
        refine eB c16 ?_
        refine gF rfl rfl ?_
        refine gF rfl rfl ?_
        refine gF rfl rfl ?_
        refine p_pkF rfl (rfl : _ = B false) ?_
        refine p_mB rfl ?_
        refine gF rfl rfl ?_
        refine gF rfl rfl ?_
        refine gF rfl rfl ?_
        refine gF rfl rfl ?_
        refine p_pkF rfl (rfl : _ = B false) ?_
        refine p_aB rfl ?_
        refine wp_nil ?_
        exact ⟨false, (), _, rfl, ⟨rfl, rfl, trivial⟩, H, S15⟩
    · replace H := condF c11 H
      refine eB c11 ?_
      refine gF rfl rfl ?_
      refine gF rfl rfl ?_
      refine gF rfl rfl ?_
      refine p_pkF rfl (rfl : _ = B false) ?_
      refine p_mB rfl ?_
      refine gF rfl rfl ?_
      refine gF rfl rfl ?_
      refine gF rfl rfl ?_
      refine p_pkF rfl (rfl : _ = B false) ?_
      refine p_mB rfl ?_
      refine gF rfl rfl ?_
      refine gF rfl rfl ?_
      refine gF rfl rfl ?_
      refine gF rfl rfl ?_
      refine p_pkF rfl (rfl : _ = B false) ?_
      refine p_aB rfl ?_
      refine wp_nil ?_
      exact ⟨false, (), _, rfl, ⟨rfl, rfl, trivial⟩, H, S10⟩
  · intro z_1 y_1 e7 w8 S9; obtain ⟨H, S9⟩ := S9
    unfold law_sound_j2 at H
    refine c_seq ?_
    refine c_seq ?_
    refine reg ?_
    refine p_aI rfl ?_
    refine wp_nil ?_
    refine c_block ?_
    refine c_lop (α := Bool × Int) (β := Unit) (law_sound_l1 a0) (fun z_2 y_2 => [(1, P b4 0), (3, B z_2.1), (4, I z_2.2)]) (fun z_2 y_2 w_ => St w (fun _ => False) w_ [bl b4 [I a0.Trips, I a0.Room, SL A1 a0.Counts.length c2] 24] [rd eTallyCount 7 A1 c2 a0.Counts]) (z_1, 0) () H ⟨rfl, rfl, rfl, trivial⟩ S9 ?_
    intro m10 z_2 y_2 e11 w12 H S13
    unfold law_sound_l1 at H
    refine c_seq ?_
    refine c_seq ?_
    refine reg ?_
    refine p_mB rfl ?_
    refine p_mB rfl ?_
    rcases Bool.eq_false_or_eq_true (z_2.1) with c14 | c14
    · replace H := condT c14 H
      refine eB c14 ?_
      refine gT rfl rfl (p_mI rfl ?_)
      refine gT rfl rfl (p_fld fl24_2 rfl ?_)
      refine gT rfl rfl (p_ld ty22 (S13.atX (i := 0) rfl) rfl rfl ?_)
      refine gT rfl rfl (p_len rfl sc22 ?_)
      refine gT rfl rfl (p_cmp rfl rfl rfl ?_)
      refine p_pkT rfl (rfl : _ = B (decide (z_2.2 < (a0.Counts.length : Int)))) ?_
      refine wp_nil ?_
      refine c_cond rfl (fun c15 => ?_) (fun c15 => ?_)
      · replace H := condT c15 H
        refine c_skip ?_
        refine c_seq ?_
        refine c_block ?_
        refine c_seq ?_
        refine reg ?_
        refine p_fld fl24_2 rfl ?_
        refine p_ld ty22 (S13.atX (i := 0) rfl) rfl rfl ?_
        refine p_mI rfl ?_
        obtain ⟨r16, h17, H⟩ := bindS H
        refine p_ixE sc22 h17 (S13.atP (i := 0) rfl).1 rfl rfl rfl ?_
        refine p_ldEA ty33 sz33 rfl h17 (S13.atP (i := 0) rfl).1 rfl ?_
        refine p_allA in33 S13 fun b18 w19 S20 => ?_
        refine p_stP (pre := []) (old := [I 0, I 0, I 0, I 0, I 0, I 0, I 0]) (post := []) (vs := [I r16.Who, I r16.From, I r16.To, I r16.Told, I r16.Unit, I r16.Under, I r16.Over]) sz33 S20 (i := 0) rfl rfl rfl rfl (rfl : _ = AG [I r16.Who, I r16.From, I r16.To, I r16.Told, I r16.Unit, I r16.Under, I r16.Over]) rfl rfl rfl rfl fun w21 S22 => ?_
        refine wp_nil ?_
        refine reg ?_
        refine p_fld fl33_1 rfl ?_
        refine p_ld ty3 (S22.atX (i := 0) rfl) rfl rfl ?_
        refine p_fld fl33_2 rfl ?_
        refine p_ld ty3 (S22.atX (i := 0) rfl) rfl rfl ?_
        obtain ⟨r23, h24, H⟩ := bindS H
        refine p_cv (B_Inside_ok h24) fu40 rfl S22 fun w25 S26 => ?_
        refine p_mB rfl ?_
        rcases Bool.eq_false_or_eq_true (r23) with c27 | c27
        · replace H := condT c27 H
          refine eB c27 ?_
          refine gT rfl rfl (p_fld fl33_2 rfl ?_)
          refine gT rfl rfl (p_ld ty3 (S26.atX (i := 0) rfl) rfl rfl ?_)
          refine gT rfl rfl (p_fld fl24_0 rfl ?_)
          refine gT rfl rfl (p_ld ty3 (S26.atX (i := 1) rfl) rfl rfl ?_)
          refine gT rfl rfl (p_cmp rfl rfl rfl ?_)
          refine p_pkT rfl (rfl : _ = B (decide (r16.To < a0.Trips))) ?_
          refine p_mB rfl ?_
          rcases Bool.eq_false_or_eq_true (decide (r16.To < a0.Trips)) with c28 | c28
          · replace H := condT c28 H
            refine eB c28 ?_
            refine gT rfl rfl (p_fld fl33_3 rfl ?_)
            refine gT rfl rfl (p_ld ty3 (S26.atX (i := 0) rfl) rfl rfl ?_)
            obtain ⟨r29, h30, H⟩ := bindS H
            refine gT rfl rfl (p_cv (B_Inside_ok h30) fu40 rfl S26 fun w31 S32 => ?_)
            refine p_pkT rfl (rfl : _ = B r29) ?_
            refine p_mB rfl ?_
            rcases Bool.eq_false_or_eq_true (r29) with c33 | c33
            · replace H := condT c33 H
              refine eB c33 ?_
              refine gT rfl rfl (p_fld fl33_4 rfl ?_)
              refine gT rfl rfl (p_ld ty3 (S32.atX (i := 0) rfl) rfl rfl ?_)
              obtain ⟨r34, h35, H⟩ := bindS H
              refine gT rfl rfl (p_cv (B_Inside_ok h35) fu40 rfl S32 fun w36 S37 => ?_)
              refine p_pkT rfl (rfl : _ = B r34) ?_
              refine p_mB rfl ?_
              rcases Bool.eq_false_or_eq_true (r34) with c38 | c38
              · replace H := condT c38 H
                refine eB c38 ?_
                refine gT rfl rfl (p_fld fl33_5 rfl ?_)
                refine gT rfl rfl (p_ld ty3 (S37.atX (i := 0) rfl) rfl rfl ?_)
                obtain ⟨r39, h40, H⟩ := bindS H
                refine gT rfl rfl (p_cv (B_Inside_ok h40) fu40 rfl S37 fun w41 S42 => ?_)
                refine p_pkT rfl (rfl : _ = B r39) ?_
                refine p_mB rfl ?_
                rcases Bool.eq_false_or_eq_true (r39) with c43 | c43
                · replace H := condT c43 H
                  refine eB c43 ?_
                  refine gT rfl rfl (p_fld fl33_6 rfl ?_)
                  refine gT rfl rfl (p_ld ty3 (S42.atX (i := 0) rfl) rfl rfl ?_)
                  obtain ⟨r44, h45, H⟩ := bindS H
                  refine gT rfl rfl (p_cv (B_Inside_ok h45) fu40 rfl S42 fun w46 S47 => ?_)
                  refine p_pkT rfl (rfl : _ = B r44) ?_
                  refine p_aB rfl ?_
                  refine wp_nil ?_
                  refine reg ?_
                  refine p_mI rfl ?_
                  refine p_add rfl rfl ?_
                  refine p_aI rfl ?_
                  refine wp_nil ?_
                  have S48 := S47.pk [1] (by decide) [0] rfl rfl
                  exact ⟨(r44, wr (z_2.2 + 1)), (), _, rfl, ⟨rfl, rfl, rfl, trivial⟩, H, S48⟩
                · replace H := condF c43 H
                  refine eB c43 ?_
                  refine gF rfl rfl ?_
                  refine gF rfl rfl ?_
                  refine gF rfl rfl ?_
                  refine p_pkF rfl (rfl : _ = B false) ?_
                  refine p_aB rfl ?_
                  refine wp_nil ?_
                  refine reg ?_
                  refine p_mI rfl ?_
                  refine p_add rfl rfl ?_
                  refine p_aI rfl ?_
                  refine wp_nil ?_
                  have S49 := S42.pk [1] (by decide) [0] rfl rfl
                  exact ⟨(false, wr (z_2.2 + 1)), (), _, rfl, ⟨rfl, rfl, rfl, trivial⟩, H, S49⟩
              · replace H := condF c38 H
                refine eB c38 ?_
                refine gF rfl rfl ?_
                refine gF rfl rfl ?_
                refine gF rfl rfl ?_
                refine p_pkF rfl (rfl : _ = B false) ?_
                refine p_mB rfl ?_
                refine gF rfl rfl ?_
                refine gF rfl rfl ?_
                refine gF rfl rfl ?_
                refine p_pkF rfl (rfl : _ = B false) ?_
                refine p_aB rfl ?_
                refine wp_nil ?_
                refine reg ?_
                refine p_mI rfl ?_
                refine p_add rfl rfl ?_
                refine p_aI rfl ?_
                refine wp_nil ?_
                have S50 := S37.pk [1] (by decide) [0] rfl rfl
                exact ⟨(false, wr (z_2.2 + 1)), (), _, rfl, ⟨rfl, rfl, rfl, trivial⟩, H, S50⟩
            · replace H := condF c33 H
              refine eB c33 ?_
              refine gF rfl rfl ?_
              refine gF rfl rfl ?_
              refine gF rfl rfl ?_
              refine p_pkF rfl (rfl : _ = B false) ?_
              refine p_mB rfl ?_
              refine gF rfl rfl ?_
              refine gF rfl rfl ?_
              refine gF rfl rfl ?_
              refine p_pkF rfl (rfl : _ = B false) ?_
              refine p_mB rfl ?_
              refine gF rfl rfl ?_
              refine gF rfl rfl ?_
              refine gF rfl rfl ?_
              refine p_pkF rfl (rfl : _ = B false) ?_
              refine p_aB rfl ?_
              refine wp_nil ?_
              refine reg ?_
              refine p_mI rfl ?_
              refine p_add rfl rfl ?_
              refine p_aI rfl ?_
              refine wp_nil ?_
              have S51 := S32.pk [1] (by decide) [0] rfl rfl
              exact ⟨(false, wr (z_2.2 + 1)), (), _, rfl, ⟨rfl, rfl, rfl, trivial⟩, H, S51⟩
          · replace H := condF c28 H
            refine eB c28 ?_
            refine gF rfl rfl ?_
            refine gF rfl rfl ?_
            refine gF rfl rfl ?_
            refine p_pkF rfl (rfl : _ = B false) ?_
            refine p_mB rfl ?_
            refine gF rfl rfl ?_
            refine gF rfl rfl ?_
            refine gF rfl rfl ?_
            refine p_pkF rfl (rfl : _ = B false) ?_
            refine p_mB rfl ?_
            refine gF rfl rfl ?_
            refine gF rfl rfl ?_
            refine gF rfl rfl ?_
            refine p_pkF rfl (rfl : _ = B false) ?_
            refine p_mB rfl ?_
            refine gF rfl rfl ?_
            refine gF rfl rfl ?_
            refine gF rfl rfl ?_
            refine p_pkF rfl (rfl : _ = B false) ?_
            refine p_aB rfl ?_
            refine wp_nil ?_
            refine reg ?_
            refine p_mI rfl ?_
            refine p_add rfl rfl ?_
            refine p_aI rfl ?_
            refine wp_nil ?_
            have S52 := S26.pk [1] (by decide) [0] rfl rfl
            exact ⟨(false, wr (z_2.2 + 1)), (), _, rfl, ⟨rfl, rfl, rfl, trivial⟩, H, S52⟩
        · replace H := condF c27 H
          refine eB c27 ?_
          refine gF rfl rfl ?_
          refine gF rfl rfl ?_
          refine gF rfl rfl ?_
          refine gF rfl rfl ?_
          refine gF rfl rfl ?_
          refine p_pkF rfl (rfl : _ = B false) ?_
          refine p_mB rfl ?_
          refine gF rfl rfl ?_
          refine gF rfl rfl ?_
          refine gF rfl rfl ?_
          refine p_pkF rfl (rfl : _ = B false) ?_
          refine p_mB rfl ?_
          refine gF rfl rfl ?_
          refine gF rfl rfl ?_
          refine gF rfl rfl ?_
          refine p_pkF rfl (rfl : _ = B false) ?_
          refine p_mB rfl ?_
          refine gF rfl rfl ?_
          refine gF rfl rfl ?_
          refine gF rfl rfl ?_
          refine p_pkF rfl (rfl : _ = B false) ?_
          refine p_mB rfl ?_
          refine gF rfl rfl ?_
          refine gF rfl rfl ?_
          refine gF rfl rfl ?_
          refine p_pkF rfl (rfl : _ = B false) ?_
          refine p_aB rfl ?_
          refine wp_nil ?_
          refine reg ?_
          refine p_mI rfl ?_
          refine p_add rfl rfl ?_
          refine p_aI rfl ?_
          refine wp_nil ?_
          have S53 := S26.pk [1] (by decide) [0] rfl rfl
          exact ⟨(false, wr (z_2.2 + 1)), (), _, rfl, ⟨rfl, rfl, rfl, trivial⟩, H, S53⟩
      · replace H := condF c15 H
        refine c_exit ?_
        refine c_seq ?_
        refine reg ?_
        refine p_mB rfl ?_
        refine p_aB rfl ?_
        refine wp_nil ?_
        obtain rfl := Option.some.inj H
        refine c_ret ?_; show bodyPostM (Fr none) 0 Tryd.prog Tryd.f24 _ .ret _ _
        refine ret_of (res1 rfl (rvT (rfl : _ = B z_2.1))) ?_
        exact ⟨_, rfl, rfl, S13.keep⟩
    · replace H := condF c14 H
      refine eB c14 ?_
      refine gF rfl rfl ?_
      refine gF rfl rfl ?_
      refine gF rfl rfl ?_
      refine gF rfl rfl ?_
      refine gF rfl rfl ?_
      refine p_pkF rfl (rfl : _ = B false) ?_
      refine wp_nil ?_
      refine c_false rfl ?_
      refine c_exit ?_
      refine c_seq ?_
      refine reg ?_
      refine p_mB rfl ?_
      refine p_aB rfl ?_
      refine wp_nil ?_
      obtain rfl := Option.some.inj H
      refine c_ret ?_; show bodyPostM (Fr none) 0 Tryd.prog Tryd.f24 _ .ret _ _
      refine ret_of (res1 rfl (rvT (rfl : _ = B z_2.1))) ?_
      exact ⟨_, rfl, rfl, S13.keep⟩

def B_Mod (a0 : Int) (a1 : Int) : Option Int :=
  bif decide (a1 ≤ 0) then (some 0)
  else (need (a1 != 0) <|
  bif decide ((modI a0 a1) < 0) then (some (wr ((modI a0 a1) + a1)))
  else (some (modI a0 a1)))

set_option maxRecDepth 100000 in
theorem B_Mod_ok {a0 : Int} {a1 : Int} {w : World} {r : Int} (H : B_Mod a0 a1 = some r) : Calls Tryd.prog 27 #[I a0, I a1] w (RetV w (I r)) := by
  unfold B_Mod at H
  refine fn_of (n := 17) Tryd.func27 rfl rfl (Nat.le_of_ble_eq_true rfl) ?_
  have S : St w (fun _ => False) w [] [] := St.start w _ _ (fun _ h_ => (List.not_mem_nil h_).elim)
  refine c_seq ?_
  refine reg ?_
  refine p_aI rfl ?_
  refine wp_nil ?_
  refine c_seq ?_
  refine c_seq ?_
  refine reg ?_
  refine p_mI rfl ?_
  refine p_cmp rfl rfl rfl ?_
  refine wp_nil ?_
  refine c_cond rfl (fun c1 => ?_) (fun c1 => ?_)
  · replace H := condT c1 H
    refine c_seq ?_
    refine reg ?_
    refine p_aI rfl ?_
    refine wp_nil ?_
    obtain rfl := Option.some.inj H
    refine c_ret ?_; show bodyPostM (Fr none) 0 Tryd.prog Tryd.f27 _ .ret _ _
    refine ret_of (res1 rfl (rvT (rfl : _ = I 0))) ?_
    exact ⟨_, rfl, rfl, S.keep⟩
  · replace H := condF c1 H
    refine c_skip ?_
    refine c_seq ?_
    refine reg ?_
    refine p_mI rfl ?_
    refine p_mI rfl ?_
    obtain ⟨h2, H⟩ := needS H
    refine p_rem h2 rfl rfl ?_
    refine p_aI rfl ?_
    refine wp_nil ?_
    refine c_seq ?_
    refine c_seq ?_
    refine reg ?_
    refine p_mI rfl ?_
    refine p_cmp rfl rfl rfl ?_
    refine wp_nil ?_
    refine c_cond rfl (fun c3 => ?_) (fun c3 => ?_)
    · replace H := condT c3 H
      refine c_seq ?_
      refine reg ?_
      refine p_mI rfl ?_
      refine p_mI rfl ?_
      refine p_add rfl rfl ?_
      refine p_aI rfl ?_
      refine wp_nil ?_
      obtain rfl := Option.some.inj H
      refine c_ret ?_; show bodyPostM (Fr none) 0 Tryd.prog Tryd.f27 _ .ret _ _
      refine ret_of (res1 rfl (rvT (rfl : _ = I (wr ((modI a0 a1) + a1))))) ?_
      exact ⟨_, rfl, rfl, S.keep⟩
    · replace H := condF c3 H
      refine c_skip ?_
      refine c_seq ?_
      refine reg ?_
      refine p_mI rfl ?_
      refine p_aI rfl ?_
      refine wp_nil ?_
      obtain rfl := Option.some.inj H
      refine c_ret ?_; show bodyPostM (Fr none) 0 Tryd.prog Tryd.f27 _ .ret _ _
      refine ret_of (res1 rfl (rvT (rfl : _ = I (modI a0 a1)))) ?_
      exact ⟨_, rfl, rfl, S.keep⟩

def B_Choose (a0 : List Int) (a1 : Int) : Option Int :=
  bif ((a0.length : Int) == 0) then (some 0)
  else ((B_Mod a1 (a0.length : Int)).bind fun r5 =>
  (getI a0 r5).bind fun r9 =>
  some r9)

end Go.Proofs.YtplpalmabgjibaaDoor

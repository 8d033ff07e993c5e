/- What the functions of the program compute, and that they do, printed by a program of mine. -/
import Derived.Test.YtplpalmabgjibaaDoorWB
set_option linter.unusedVariables false
set_option linter.unusedSimpArgs false
namespace Go.Proofs.YtplpalmabgjibaaDoor
open Go Go.Fx Go.Proofs
set_option maxRecDepth 100000 in
theorem B_Choose_ok {a0 : List Int} {a1 : Int} {A1 : Option Addr} {c2 : Nat} {w : World} {r : Int} (H : B_Choose a0 a1 = some r) (h3 : (rd intE 1 A1 c2 a0).ok w) : Calls Tryd.prog 43 #[SL A1 a0.length c2, I a1] w (RetV w (I r)) := by
  unfold B_Choose at H
  refine fn_of (n := 15) Tryd.func43 rfl rfl (Nat.le_of_ble_eq_true rfl) ?_
  have S : St w (fun _ => False) w [] [rd intE 1 A1 c2 a0] := St.start w _ _ (List.forall_mem_cons.2 ⟨h3, (fun _ h_ => (List.not_mem_nil h_).elim)⟩)
  refine c_seq ?_
  refine reg ?_
  refine p_aI rfl ?_
  refine wp_nil ?_
  refine c_seq ?_
  refine c_seq ?_
  refine reg ?_
  refine p_mS rfl ?_
  refine p_len rfl sc31 ?_
  refine p_cmp rfl rfl rfl ?_
  refine wp_nil ?_
  refine c_cond rfl (fun c4 => ?_) (fun c4 => ?_)
  · replace H := condT c4 H
    refine c_seq ?_
    refine reg ?_
    refine p_aI rfl ?_
    refine wp_nil ?_
    obtain rfl := Option.some.inj H
    refine c_ret ?_; show bodyPostM (Fr none) 0 Tryd.prog Tryd.f43 _ .ret _ _
    refine ret_of (res1 rfl (rvT (rfl : _ = I 0))) ?_
    exact ⟨_, rfl, rfl, S.keep⟩
  · replace H := condF c4 H
    refine c_skip ?_
    refine c_seq ?_
    refine reg ?_
    refine p_mS rfl ?_
    refine p_mI rfl ?_
    refine p_mS rfl ?_
    refine p_len rfl sc31 ?_
    obtain ⟨r5, h6, H⟩ := bindS H
    refine p_cv (B_Mod_ok h6) fu27 rfl S fun w7 S8 => ?_
    obtain ⟨r9, h10, H⟩ := bindS H
    refine p_ixE sc31 h10 (S8.atP (i := 0) rfl).1 rfl rfl rfl ?_
    refine p_ldE ty3 h10 (S8.atP (i := 0) rfl).1 rfl rfl ?_
    refine p_aI rfl ?_
    refine wp_nil ?_
    obtain rfl := Option.some.inj H
    refine c_ret ?_; show bodyPostM (Fr none) 0 Tryd.prog Tryd.f43 _ .ret _ _
    refine ret_of (res1 rfl (rvT (rfl : _ = I r9))) ?_
    exact ⟨_, rfl, rfl, S8.keep⟩

def law_truly_l2 (a0 : TallyBook) (a1 : List Int) (rec_z_1 : ((List Int) × Int) → Option (List Int)) (z_1 : (List Int) × Int) : Option (List Int) :=
  bif decide (z_1.2 < a0.Trips) then ((B_Choose a1 z_1.2).bind fun r20 =>
  (B_Mod r20 (wr (a0.Room + 1))).bind fun r22 =>
  need (fitsL (z_1.1.length + ([r22] : List Int).length) 8) <|
  rec_z_1 (z_1.1 ++ ([r22] : List Int), wr (z_1.2 + 1)))
  else (some z_1.1)

def law_truly (a0 : TallyBook) (a1 : List Int) : Option (List Int) :=
  loopF (law_truly_l2 a0 a1) big (([] : List Int), 0)

set_option maxRecDepth 100000 in
theorem law_truly_ok {a0 : TallyBook} {a1 : List Int} {A1 : Option Addr} {c2 : Nat} {A4 : Option Addr} {c5 : Nat} {w : World} {r : (List Int)} (H : law_truly a0 a1 = some r) (h3 : (rd eTallyCount 7 A1 c2 a0.Counts).ok w) (h6 : (rd intE 1 A4 c5 a1).ok w) : Calls Tryd.prog 25 #[AG [I a0.Trips, I a0.Room, SL A1 a0.Counts.length c2], SL A4 a1.length c5] w fun en w_ => ∃ u_, en = .returned u_ ∧ ∃ A_1 : Option Addr, ∃ c_2 : Nat, u_ = SL A_1 r.length c_2 ∧ Keep0 w w_ ∧ ((gr intE 1 3 A_1 c_2 r).ok w_ ∧ New w.heap.size (gr intE 1 3 A_1 c_2 r)) ∧ True := by
  unfold law_truly at H
  refine fn_of (n := 25) Tryd.func25 rfl rfl (Nat.le_of_ble_eq_true rfl) ?_
  have S : St w (fun _ => False) w [] [rd eTallyCount 7 A1 c2 a0.Counts, rd intE 1 A4 c5 a1] := St.start w _ _ (List.forall_mem_cons.2 ⟨h3, (List.forall_mem_cons.2 ⟨h6, (fun _ h_ => (List.not_mem_nil h_).elim)⟩)⟩)
  refine c_seq ?_
  refine reg ?_
  refine p_boxA rfl S fun b7 w8 S9 => ?_
  refine p_aS rfl ?_
  refine wp_nil ?_
  refine c_seq ?_
  refine reg ?_
  refine p_bsl0 intE sc31 S9 fun A10 w12 S13 => ?_
  refine p_aS rfl ?_
  refine wp_nil ?_
  refine c_seq ?_
  refine c_seq ?_
  refine reg ?_
  refine p_aI rfl ?_
  refine wp_nil ?_
  refine c_block ?_
  refine c_lop (α := (List Int) × Int) (β := (Option Addr) × Nat) (law_truly_l2 a0 a1) (fun z_1 y_1 => [(1, SL A4 a1.length c5), (2, P b7 0), (5, SL y_1.1 z_1.1.length y_1.2), (6, I z_1.2)]) (fun z_1 y_1 w_ => St w (fun _ => False) w_ [gr intE 1 3 y_1.1 y_1.2 z_1.1, bl b7 [I a0.Trips, I a0.Room, SL A1 a0.Counts.length c2] 24] [rd eTallyCount 7 A1 c2 a0.Counts, rd intE 1 A4 c5 a1]) (([] : List Int), 0) (A10, 0) H ⟨rfl, rfl, rfl, rfl, trivial⟩ S13 ?_
  intro m15 z_1 y_1 e16 w17 H S18
  unfold law_truly_l2 at H
  refine c_seq ?_
  refine c_seq ?_
  refine reg ?_
  refine p_mI rfl ?_
  refine p_fld fl24_0 rfl ?_
  refine p_ld ty3 (S18.atX (i := 1) rfl) rfl rfl ?_
  refine p_cmp rfl rfl rfl ?_
  refine wp_nil ?_
  refine c_cond rfl (fun c19 => ?_) (fun c19 => ?_)
  · replace H := condT c19 H
    refine c_skip ?_
    refine c_seq ?_
    refine c_block ?_
    obtain ⟨r20, h21, H⟩ := bindS H
    obtain ⟨r22, h23, H⟩ := bindS H
    refine reg_c mixed 9 [8] (by kernel_rfl) ?_
    refine kS rfl (fun _ k_ => p_mS rfl dn) ?_
    refine kS rfl (fun _ k_ => p_mS rfl dn) ?_
    refine kS rfl (fun _ k_ => p_mI rfl dn) ?_
    refine kS rfl (fun _ k_ => p_cvD (B_Choose_ok h21 (Asr.stays (S18.atP (i := 1) rfl) k_)) fu43 rfl) ?_
    refine kS rfl (fun _ k_ => p_fld fl24_1 rfl dn) ?_
    refine kS rfl (fun _ k_ => p_ld ty3 (Asr.stays (S18.atX (i := 1) rfl) k_) rfl rfl dn) ?_
    refine kS rfl (fun _ k_ => p_add rfl rfl dn) ?_
    refine kS rfl (fun _ k_ => p_cvD (B_Mod_ok h23) fu27 rfl) ?_
    refine kC rfl ?_
    intro w24 k25; have S26 := S18.call k25
    have S32 := S26.base
    refine p_bsl (enc := intE) (l := ([r22] : List Int)) I (fun _ => rfl) sc31 in3 intE_len rfl (by decide) (by decide) zr3_1 S32 rfl fun A27 c28 w29 S30 => ?_
    refine cN S30.keep fun w33 k34 => ?_
    have S35 := (S26.fromBase S30).call k34
    obtain ⟨h40, H⟩ := needS H
    refine p_app (enc := intE) sc31 in3 rfl intE_len intE_one (by decide) S35 (k := 1) rfl (gr_sl intE_len (S35.atX (i := 0) rfl)) h40 (by simp) rfl rfl fun A38 c39 w36 S37 => ?_
    refine p_aS rfl ?_
    refine wp_nil ?_
    refine reg ?_
    refine p_mI rfl ?_
    refine p_add rfl rfl ?_
    refine p_aI rfl ?_
    refine wp_nil ?_
    have S41 := S37.pk [1, 2] (by decide) [0, 1] rfl rfl
    exact ⟨(z_1.1 ++ ([r22] : List Int), wr (z_1.2 + 1)), (A38, c39), _, rfl, ⟨rfl, rfl, rfl, rfl, trivial⟩, H, S41⟩
  · replace H := condF c19 H
    refine c_exit ?_
    refine c_seq ?_
    refine reg ?_
    refine p_mS rfl ?_
    refine p_aS rfl ?_
    refine wp_nil ?_
    obtain rfl := Option.some.inj H
    refine c_ret ?_; show bodyPostM (Fr none) 0 Tryd.prog Tryd.f25 _ .ret _ _
    refine ret_of (res1 rfl (rvT (rfl : _ = SL y_1.1 z_1.1.length y_1.2))) ?_
    exact ⟨_, rfl, y_1.1, y_1.2, rfl, S18.keep, ⟨S18.atX (i := 0) rfl, S18.newX (i := 0) rfl⟩, trivial⟩

def B_Within (a0 : Span) (a1 : Int) : Option Int :=
  (B_Mod a1 (wr ((wr (a0.High - a0.Low)) + 1))).bind fun r4 =>
  some (wr (a0.Low + r4))

set_option maxRecDepth 100000 in
theorem B_Within_ok {a0 : Span} {a1 : Int} {w : World} {r : Int} (H : B_Within a0 a1 = some r) : Calls Tryd.prog 39 #[AG [I a0.Low, I a0.High], I a1] w (RetV w (I r)) := by
  unfold B_Within at H
  refine fn_of (n := 16) Tryd.func39 rfl rfl (Nat.le_of_ble_eq_true rfl) ?_
  have S : St w (fun _ => False) w [] [] := St.start w _ _ (fun _ h_ => (List.not_mem_nil h_).elim)
  refine c_seq ?_
  refine reg ?_
  refine p_boxA rfl S fun b1 w2 S3 => ?_
  refine p_aI rfl ?_
  refine wp_nil ?_
  refine c_seq ?_
  obtain ⟨r4, h5, H⟩ := bindS H
  refine reg_q mixed 12 (by kernel_rfl) ?_
  refine dS (fun _ k_ => p_fld fl49_0 rfl dn) ?_
  refine dS (fun _ k_ => p_ld ty3 (Asr.stays (S3.atX (i := 0) rfl) k_) rfl rfl dn) ?_
  refine dS (fun _ k_ => p_mI rfl dn) ?_
  refine dS (fun _ k_ => p_fld fl49_1 rfl dn) ?_
  refine dS (fun _ k_ => p_ld ty3 (Asr.stays (S3.atX (i := 0) rfl) k_) rfl rfl dn) ?_
  refine dS (fun _ k_ => p_fld fl49_0 rfl dn) ?_
  refine dS (fun _ k_ => p_ld ty3 (Asr.stays (S3.atX (i := 0) rfl) k_) rfl rfl dn) ?_
  refine dS (fun _ k_ => p_sub rfl rfl dn) ?_
  refine dS (fun _ k_ => p_add rfl rfl dn) ?_
  refine dS (fun _ k_ => p_cvD (B_Mod_ok h5) fu27 rfl) ?_
  refine dS (fun _ k_ => p_add rfl rfl dn) ?_
  refine dS (fun _ k_ => p_aI rfl dn) ?_
  intro w6 k7; have S8 := S3.call k7
  refine wp_nil ?_
  obtain rfl := Option.some.inj H
  refine c_ret ?_; show bodyPostM (Fr none) 0 Tryd.prog Tryd.f39 _ .ret _ _
  refine ret_of (res1 rfl (rvT (rfl : _ = I (wr (a0.Low + r4))))) ?_
  exact ⟨_, rfl, rfl, S8.keep⟩

def law_rightly_j7 (r35 : Int) (r26 : TallyCount) (a2 : Int) (z_1 : Int × (List TallyCount)) (rec_z_1 : (Int × (List TallyCount)) → Option TallyBook) (z_2 : Int) : Option TallyBook :=
  bif decide (z_2 ≤ (if 99 < (divI (wr (r35 + r26.Over)) r26.Unit) then 99 else (divI (wr (r35 + r26.Over)) r26.Unit))) then ((B_Range z_2 (if 99 < (divI (wr (r35 + r26.Over)) r26.Unit) then 99 else (divI (wr (r35 + r26.Over)) r26.Unit))).bind fun r48 =>
  (B_Within r48 (wr (a2 + z_1.1))).bind fun r52 =>
  need (fitsL (z_1.2.length + ([(TallyCount.mk r26.Who r26.From r26.To r52 r26.Unit r26.Under r26.Over)] : List TallyCount).length) 56) <|
  rec_z_1 (wr (z_1.1 + 1), z_1.2 ++ ([(TallyCount.mk r26.Who r26.From r26.To r52 r26.Unit r26.Under r26.Over)] : List TallyCount)))
  else (rec_z_1 (wr (z_1.1 + 1), z_1.2))

def law_rightly_l8 (a0 : TallyBook) (a1 : List Int) (a2 : Int) (rec_z_1 : (Int × (List TallyCount)) → Option TallyBook) (z_1 : Int × (List TallyCount)) : Option TallyBook :=
  bif decide (z_1.1 < (a0.Counts.length : Int)) then ((getI a0.Counts z_1.1).bind fun r26 =>
  (cutI a1 r26.From (wr (r26.To + 1))).bind fun r33 =>
  (B_SumOf r33).bind fun r35 =>
  need (r26.Unit != 0) <|
  need (r26.Unit != 0) <|
  bif decide (r35 < r26.Under) then (law_rightly_j7 r35 r26 a2 z_1 rec_z_1 0)
  else (law_rightly_j7 r35 r26 a2 z_1 rec_z_1 (if (divI (wr ((wr ((wr (r35 - r26.Under)) + r26.Unit)) - 1)) r26.Unit) > 0 then (divI (wr ((wr ((wr (r35 - r26.Under)) + r26.Unit)) - 1)) r26.Unit) else 0)))
  else (some (TallyBook.mk a0.Trips a0.Room z_1.2))

def law_rightly (a0 : TallyBook) (a1 : List Int) (a2 : Int) : Option TallyBook :=
  loopF (law_rightly_l8 a0 a1 a2) big (0, ([] : List TallyCount))

set_option maxRecDepth 100000 in
theorem law_rightly_ok {a0 : TallyBook} {a1 : List Int} {a2 : Int} {A1 : Option Addr} {c2 : Nat} {A4 : Option Addr} {c5 : Nat} {w : World} {r : TallyBook} (H : law_rightly a0 a1 a2 = some r) (h3 : (rd eTallyCount 7 A1 c2 a0.Counts).ok w) (h6 : (rd intE 1 A4 c5 a1).ok w) : Calls Tryd.prog 26 #[AG [I a0.Trips, I a0.Room, SL A1 a0.Counts.length c2], SL A4 a1.length c5, I a2] w fun en w_ => ∃ u_, en = .returned u_ ∧ ∃ A_1 : Option Addr, ∃ c_2 : Nat, u_ = AG [I r.Trips, I r.Room, SL A_1 r.Counts.length c_2] ∧ Keep0 w w_ ∧ ((gr eTallyCount 7 33 A_1 c_2 r.Counts).ok w_ ∧ New w.heap.size (gr eTallyCount 7 33 A_1 c_2 r.Counts)) ∧ True := by
  unfold law_rightly at H
  refine fn_of (n := 78) Tryd.func26 rfl rfl (Nat.le_of_ble_eq_true rfl) ?_
  have S : St w (fun _ => False) w [] [rd eTallyCount 7 A1 c2 a0.Counts, rd intE 1 A4 c5 a1] := St.start w _ _ (List.forall_mem_cons.2 ⟨h3, (List.forall_mem_cons.2 ⟨h6, (fun _ h_ => (List.not_mem_nil h_).elim)⟩)⟩)
  refine c_seq ?_
  refine reg ?_
  refine p_boxA rfl S fun b7 w8 S9 => ?_
  refine p_allA in24 S9 fun b10 w11 S12 => ?_
  refine wp_nil ?_
  refine c_seq ?_
  refine reg ?_
  refine p_ldA ty24 sz24 (S12.atX (i := 1) rfl) rfl rfl ?_
  refine p_allA in24 S12 fun b13 w14 S15 => ?_
  refine p_stP (pre := []) (old := [I 0, I 0, SL none 0 0]) (post := []) (vs := [I a0.Trips, I a0.Room, SL A1 a0.Counts.length c2]) sz24 S15 (i := 0) rfl rfl rfl rfl (rfl : _ = AG [I a0.Trips, I a0.Room, SL A1 a0.Counts.length c2]) rfl rfl rfl rfl fun w16 S17 => ?_
  refine wp_nil ?_
  refine c_seq ?_
  refine reg ?_
  refine p_fld fl24_2 rfl ?_
  refine p_stP (pre := [I a0.Trips, I a0.Room]) (old := [SL A1 a0.Counts.length c2]) (post := []) (vs := [SL none 0 0]) sz22 S17 (i := 0) rfl rfl rfl rfl (rfl : _ = SL none 0 0) rfl rfl rfl rfl fun w18 S19 => ?_
  refine wp_nil ?_
  refine c_seq ?_
  refine c_seq ?_
  refine reg ?_
  refine p_aI rfl ?_
  refine wp_nil ?_
  refine c_block ?_
  have S20 := S19.nilRow eTallyCount 7 33
  refine c_lop (α := Int × (List TallyCount)) (β := (Option Addr) × Nat) (law_rightly_l8 a0 a1 a2) (fun z_1 y_1 => [(1, SL A4 a1.length c5), (2, I a2), (3, P b7 0), (6, P b10 0), (7, P b13 0), (8, I z_1.1)]) (fun z_1 y_1 w_ => St w (fun _ => False) w_ [gr eTallyCount 7 33 y_1.1 y_1.2 z_1.2, bl b13 [I a0.Trips, I a0.Room, SL y_1.1 z_1.2.length y_1.2] 24, bl b10 [I 0, I 0, SL none 0 0] 24, bl b7 [I a0.Trips, I a0.Room, SL A1 a0.Counts.length c2] 24] [rd eTallyCount 7 A1 c2 a0.Counts, rd intE 1 A4 c5 a1]) (0, ([] : List TallyCount)) (none, 0) H ⟨rfl, rfl, rfl, rfl, rfl, rfl, trivial⟩ S20 ?_
  intro m21 z_1 y_1 e22 w23 H S24
  unfold law_rightly_l8 at H
  refine c_seq ?_
  refine c_seq ?_
  refine reg ?_
  refine p_mI rfl ?_
  refine p_fld fl24_2 rfl ?_
  refine p_ld ty22 (S24.atX (i := 3) rfl) rfl rfl ?_
  refine p_len rfl sc22 ?_
  refine p_cmp rfl rfl rfl ?_
  refine wp_nil ?_
  refine c_cond rfl (fun c25 => ?_) (fun c25 => ?_)
  · replace H := condT c25 H
    refine c_skip ?_
    refine c_seq ?_
    refine c_block ?_
    refine c_seq ?_
    refine reg ?_
    refine p_fld fl24_2 rfl ?_
    refine p_ld ty22 (S24.atX (i := 3) rfl) rfl rfl ?_
    refine p_mI rfl ?_
    obtain ⟨r26, h27, H⟩ := bindS H
    refine p_ixE sc22 h27 (S24.atP (i := 0) rfl).1 rfl rfl rfl ?_
    refine p_ldEA ty33 sz33 rfl h27 (S24.atP (i := 0) rfl).1 rfl ?_
    refine p_allA in33 S24 fun b28 w29 S30 => ?_
    refine p_stP (pre := []) (old := [I 0, I 0, I 0, I 0, I 0, I 0, I 0]) (post := []) (vs := [I r26.Who, I r26.From, I r26.To, I r26.Told, I r26.Unit, I r26.Under, I r26.Over]) sz33 S30 (i := 0) rfl rfl rfl rfl (rfl : _ = AG [I r26.Who, I r26.From, I r26.To, I r26.Told, I r26.Unit, I r26.Under, I r26.Over]) rfl rfl rfl rfl fun w31 S32 => ?_
    refine wp_nil ?_
    refine c_seq ?_
    refine reg ?_
    refine p_mS rfl ?_
    refine p_fld fl33_1 rfl ?_
    refine p_ld ty3 (S32.atX (i := 0) rfl) rfl rfl ?_
    refine p_fld fl33_2 rfl ?_
    refine p_ld ty3 (S32.atX (i := 0) rfl) rfl rfl ?_
    refine p_add rfl rfl ?_
    obtain ⟨r33, h34, H⟩ := bindS H
    refine p_cut sc31 h34 (S32.atP (i := 1) rfl) rfl rfl rfl ?_
    obtain ⟨r35, h36, H⟩ := bindS H
    refine p_cv (B_SumOf_ok h36 (rd_cut h34 (S32.atP (i := 1) rfl))) fu35 rfl S32 fun w37 S38 => ?_
    refine p_aI rfl ?_
    refine wp_nil ?_
    refine c_seq ?_
    obtain ⟨h39, H⟩ := needS H
    obtain ⟨h40, H⟩ := needS H
    refine reg_q mixed 21 (by kernel_rfl) ?_
    refine dS (fun _ k_ => p_mI rfl dn) ?_
    refine dS (fun _ k_ => p_fld fl33_5 rfl dn) ?_
    refine dS (fun _ k_ => p_ld ty3 (Asr.stays (S38.atX (i := 0) rfl) k_) rfl rfl dn) ?_
    refine dS (fun _ k_ => p_sub rfl rfl dn) ?_
    refine dS (fun _ k_ => p_fld fl33_4 rfl dn) ?_
    refine dS (fun _ k_ => p_ld ty3 (Asr.stays (S38.atX (i := 0) rfl) k_) rfl rfl dn) ?_
    refine dS (fun _ k_ => p_add rfl rfl dn) ?_
    refine dS (fun _ k_ => p_sub rfl rfl dn) ?_
    refine dS (fun _ k_ => p_fld fl33_4 rfl dn) ?_
    refine dS (fun _ k_ => p_ld ty3 (Asr.stays (S38.atX (i := 0) rfl) k_) rfl rfl dn) ?_
    refine dS (fun _ k_ => p_quo h39 rfl rfl dn) ?_
    refine dS (fun _ k_ => p_max rfl rfl dn) ?_
    refine dS (fun _ k_ => p_mI rfl dn) ?_
    refine dS (fun _ k_ => p_fld fl33_6 rfl dn) ?_
    refine dS (fun _ k_ => p_ld ty3 (Asr.stays (S38.atX (i := 0) rfl) k_) rfl rfl dn) ?_
    refine dS (fun _ k_ => p_add rfl rfl dn) ?_
    refine dS (fun _ k_ => p_fld fl33_4 rfl dn) ?_
    refine dS (fun _ k_ => p_ld ty3 (Asr.stays (S38.atX (i := 0) rfl) k_) rfl rfl dn) ?_
    refine dS (fun _ k_ => p_quo h40 rfl rfl dn) ?_
    refine dS (fun _ k_ => p_aI rfl dn) ?_
    refine dS (fun _ k_ => p_aI rfl dn) ?_
    intro w41 k42; have S43 := S38.call k42
    refine wp_nil ?_
    refine c_join (α := Int) (β := Unit) (fun z_2 y_2 => [(1, SL A4 a1.length c5), (2, I a2), (3, P b7 0), (6, P b10 0), (7, P b13 0), (8, I z_1.1), (9, P b28 0), (11, I z_2), (12, I (divI (wr (r35 + r26.Over)) r26.Unit))]) (fun z_2 y_2 w_ => law_rightly_j7 r35 r26 a2 z_1 (loopF (law_rightly_l8 a0 a1 a2) m21) z_2 = some r ∧ St w (fun _ => False) w_ [bl b28 [I r26.Who, I r26.From, I r26.To, I r26.Told, I r26.Unit, I r26.Under, I r26.Over] 33, gr eTallyCount 7 33 y_1.1 y_1.2 z_1.2, bl b13 [I a0.Trips, I a0.Room, SL y_1.1 z_1.2.length y_1.2] 24, bl b10 [I 0, I 0, SL none 0 0] 24, bl b7 [I a0.Trips, I a0.Room, SL A1 a0.Counts.length c2] 24] [rd eTallyCount 7 A1 c2 a0.Counts, rd intE 1 A4 c5 a1]) ?_ ?_
    · refine c_seq ?_
      refine reg ?_
      refine p_mI rfl ?_
      refine p_fld fl33_5 rfl ?_
      refine p_ld ty3 (S43.atX (i := 0) rfl) rfl rfl ?_
      refine p_cmp rfl rfl rfl ?_
      refine wp_nil ?_
      refine c_cond rfl (fun c44 => ?_) (fun c44 => ?_)
      · replace H := condT c44 H
        refine reg ?_
        refine p_aI rfl ?_
        refine wp_nil ?_
        exact ⟨0, (), _, rfl, ⟨rfl, rfl, rfl, rfl, rfl, rfl, rfl, rfl, rfl, trivial⟩, H, S43⟩
      · replace H := condF c44 H
        refine c_skip ?_
        exact ⟨(if (divI (wr ((wr ((wr (r35 - r26.Under)) + r26.Unit)) - 1)) r26.Unit) > 0 then (divI (wr ((wr ((wr (r35 - r26.Under)) + r26.Unit)) - 1)) r26.Unit) else 0), (), _, rfl, ⟨rfl, rfl, rfl, rfl, rfl, rfl, rfl, rfl, rfl, trivial⟩, H, S43⟩
    · intro z_2 y_2 e44 w45 S46; obtain ⟨H, S46⟩ := S46
      unfold law_rightly_j7 at H
      refine c_seq ?_
      refine reg ?_
      refine p_mI rfl ?_
      refine p_min rfl rfl ?_
      refine p_aI rfl ?_
      refine wp_nil ?_
      refine c_seq ?_
      refine reg ?_
      refine p_mI rfl ?_
      refine p_mI rfl ?_
      refine p_cmp rfl rfl rfl ?_
      refine wp_nil ?_
      refine c_cond rfl (fun c47 => ?_) (fun c47 => ?_)
      · replace H := condT c47 H
        refine c_seq ?_
        refine reg ?_
        refine p_mI rfl ?_
        refine p_mI rfl ?_
        obtain ⟨r48, h49, H⟩ := bindS H
        refine p_cv (B_Range_ok h49) fu41 rfl S46 fun w50 S51 => ?_
        refine p_mI rfl ?_
        refine p_mI rfl ?_
        refine p_add rfl rfl ?_
        obtain ⟨r52, h53, H⟩ := bindS H
        refine p_cv (B_Within_ok h53) fu39 rfl S51 fun w54 S55 => ?_
        refine p_fld fl33_3 rfl ?_
        refine p_stP (pre := [I r26.Who, I r26.From, I r26.To]) (old := [I r26.Told]) (post := [I r26.Unit, I r26.Under, I r26.Over]) (vs := [I r52]) sz3 S55 (i := 0) rfl rfl rfl rfl (rfl : _ = I r52) rfl rfl rfl rfl fun w56 S57 => ?_
        refine wp_nil ?_
        refine reg ?_
        refine p_fld fl24_2 rfl ?_
        refine p_ld ty22 (S57.atX (i := 2) rfl) rfl rfl ?_
        refine p_ldA ty33 sz33 (S57.atX (i := 0) rfl) rfl rfl ?_
        refine p_bsl (enc := eTallyCount) (l := ([(TallyCount.mk r26.Who r26.From r26.To r52 r26.Unit r26.Under r26.Over)] : List TallyCount)) (fun x => AG (eTallyCount x)) (fun _ => rfl) sc22 in33 eTallyCount_len rfl (by decide) (by decide) zr33_1 S57 rfl fun A58 c59 w60 S61 => ?_
        obtain ⟨h67, H⟩ := needS H
        refine p_app (enc := eTallyCount) sc22 in33 rfl eTallyCount_len eTallyCount_one (by decide) S61 (k := 2) rfl (gr_sl eTallyCount_len (S61.atX (i := 0) rfl)) h67 (by simp) rfl rfl fun A65 c66 w63 S64 => ?_
        refine p_fld fl24_2 rfl ?_
        refine p_stP (pre := [I a0.Trips, I a0.Room]) (old := [SL y_1.1 z_1.2.length y_1.2]) (post := []) (vs := [SL A65 (z_1.2 ++ ([(TallyCount.mk r26.Who r26.From r26.To r52 r26.Unit r26.Under r26.Over)] : List TallyCount)).length c66]) sz22 S64 (i := 3) rfl rfl rfl rfl (rfl : _ = SL A65 (z_1.2 ++ ([(TallyCount.mk r26.Who r26.From r26.To r52 r26.Unit r26.Under r26.Over)] : List TallyCount)).length c66) rfl rfl rfl rfl fun w68 S69 => ?_
        refine wp_nil ?_
        refine reg ?_
        refine p_mI rfl ?_
        refine p_add rfl rfl ?_
        refine p_aI rfl ?_
        refine wp_nil ?_
        have S70 := S69.pk [2, 3, 4, 5] (by decide) [0, 1] rfl rfl
        exact ⟨(wr (z_1.1 + 1), z_1.2 ++ ([(TallyCount.mk r26.Who r26.From r26.To r52 r26.Unit r26.Under r26.Over)] : List TallyCount)), (A65, c66), _, rfl, ⟨rfl, rfl, rfl, rfl, rfl, rfl, trivial⟩, H, S70⟩
      · replace H := condF c47 H
        refine c_skip ?_
        refine reg ?_
        refine p_mI rfl ?_
        refine p_add rfl rfl ?_
        refine p_aI rfl ?_
        refine wp_nil ?_
        have S71 := S46.pk [1, 2, 3, 4] (by decide) [0, 1] rfl rfl
        exact ⟨(wr (z_1.1 + 1), z_1.2), (y_1.1, y_1.2), _, rfl, ⟨rfl, rfl, rfl, rfl, rfl, rfl, trivial⟩, H, S71⟩
  · replace H := condF c25 H
    refine c_exit ?_
    refine c_seq ?_
    refine reg ?_
    refine p_ldA ty24 sz24 (S24.atX (i := 1) rfl) rfl rfl ?_
    refine p_stP (pre := []) (old := [I 0, I 0, SL none 0 0]) (post := []) (vs := [I a0.Trips, I a0.Room, SL y_1.1 z_1.2.length y_1.2]) sz24 S24 (i := 2) rfl rfl rfl rfl (rfl : _ = AG [I a0.Trips, I a0.Room, SL y_1.1 z_1.2.length y_1.2]) rfl rfl rfl rfl fun w45 S46 => ?_
    refine wp_nil ?_
    obtain rfl := Option.some.inj H
    refine c_ret ?_; show bodyPostM (Fr none) 0 Tryd.prog Tryd.f26 _ .ret _ _
    refine ret_of (res1 rfl (rvA rfl ty24 sz24 (S46.atX (i := 2) rfl) rfl)) ?_
    exact ⟨_, rfl, y_1.1, y_1.2, rfl, S46.keep, ⟨S46.atX (i := 0) rfl, S46.newX (i := 0) rfl⟩, trivial⟩

def B_Point (a0 : Int) : Option Span :=
  (B_Range a0 a0).bind fun r4 =>
  some r4

set_option maxRecDepth 100000 in
theorem B_Point_ok {a0 : Int} {w : World} {r : Span} (H : B_Point a0 = some r) : Calls Tryd.prog 38 #[I a0] w (RetV w (AG [I r.Low, I r.High])) := by
  unfold B_Point at H
  refine fn_of (n := 6) Tryd.func38 rfl rfl (Nat.le_of_ble_eq_true rfl) ?_
  have S : St w (fun _ => False) w [] [] := St.start w _ _ (fun _ h_ => (List.not_mem_nil h_).elim)
  refine c_seq ?_
  refine reg ?_
  refine p_allA in49 S fun b1 w2 S3 => ?_
  refine wp_nil ?_
  refine c_seq ?_
  refine reg ?_
  refine p_mI rfl ?_
  refine p_mI rfl ?_
  obtain ⟨r4, h5, H⟩ := bindS H
  refine p_cv (B_Range_ok h5) fu41 rfl S3 fun w6 S7 => ?_
  refine p_stP (pre := []) (old := [I 0, I 0]) (post := []) (vs := [I r4.Low, I r4.High]) sz49 S7 (i := 0) rfl rfl rfl rfl (rfl : _ = AG [I r4.Low, I r4.High]) rfl rfl rfl rfl fun w8 S9 => ?_
  refine wp_nil ?_
  obtain rfl := Option.some.inj H
  refine c_ret ?_; show bodyPostM (Fr none) 0 Tryd.prog Tryd.f38 _ .ret _ _
  refine ret_of (res1 rfl (rvA rfl ty49 sz49 (S9.atX (i := 0) rfl) rfl)) ?_
  exact ⟨_, rfl, rfl, S9.keep⟩

def B_Added (a0 : Span) (a1 : Span) : Option Span :=
  (B_Range (wr (a0.Low + a1.Low)) (wr (a0.High + a1.High))).bind fun r10 =>
  some r10

set_option maxRecDepth 100000 in
theorem B_Added_ok {a0 : Span} {a1 : Span} {w : World} {r : Span} (H : B_Added a0 a1 = some r) : Calls Tryd.prog 42 #[AG [I a0.Low, I a0.High], AG [I a1.Low, I a1.High]] w (RetV w (AG [I r.Low, I r.High])) := by
  unfold B_Added at H
  refine fn_of (n := 16) Tryd.func42 rfl rfl (Nat.le_of_ble_eq_true rfl) ?_
  have S : St w (fun _ => False) w [] [] := St.start w _ _ (fun _ h_ => (List.not_mem_nil h_).elim)
  refine c_seq ?_
  refine reg ?_
  refine p_boxA rfl S fun b1 w2 S3 => ?_
  refine p_boxA rfl S3 fun b4 w5 S6 => ?_
  refine p_allA in49 S6 fun b7 w8 S9 => ?_
  refine wp_nil ?_
  refine c_seq ?_
  refine reg ?_
  refine p_fld fl49_0 rfl ?_
  refine p_ld ty3 (S9.atX (i := 2) rfl) rfl rfl ?_
  refine p_fld fl49_0 rfl ?_
  refine p_ld ty3 (S9.atX (i := 1) rfl) rfl rfl ?_
  refine p_add rfl rfl ?_
  refine p_fld fl49_1 rfl ?_
  refine p_ld ty3 (S9.atX (i := 2) rfl) rfl rfl ?_
  refine p_fld fl49_1 rfl ?_
  refine p_ld ty3 (S9.atX (i := 1) rfl) rfl rfl ?_
  refine p_add rfl rfl ?_
  obtain ⟨r10, h11, H⟩ := bindS H
  refine p_cv (B_Range_ok h11) fu41 rfl S9 fun w12 S13 => ?_
  refine p_stP (pre := []) (old := [I 0, I 0]) (post := []) (vs := [I r10.Low, I r10.High]) sz49 S13 (i := 0) rfl rfl rfl rfl (rfl : _ = AG [I r10.Low, I r10.High]) rfl rfl rfl rfl fun w14 S15 => ?_
  refine wp_nil ?_
  obtain rfl := Option.some.inj H
  refine c_ret ?_; show bodyPostM (Fr none) 0 Tryd.prog Tryd.f42 _ .ret _ _
  refine ret_of (res1 rfl (rvA rfl ty49 sz49 (S15.atX (i := 0) rfl) rfl)) ?_
  exact ⟨_, rfl, rfl, S15.keep⟩

def B_Covers (a0 : Span) (a1 : Span) : Option Bool :=
  bif decide (a1.Low ≥ a0.Low) then (some (decide (a1.High ≤ a0.High)))
  else (some false)

set_option maxRecDepth 100000 in
theorem B_Covers_ok {a0 : Span} {a1 : Span} {w : World} {r : Bool} (H : B_Covers a0 a1 = some r) : Calls Tryd.prog 44 #[AG [I a0.Low, I a0.High], AG [I a1.Low, I a1.High]] w (RetV w (B r)) := by
  unfold B_Covers at H
  refine fn_of (n := 17) Tryd.func44 rfl rfl (Nat.le_of_ble_eq_true rfl) ?_
  have S : St w (fun _ => False) w [] [] := St.start w _ _ (fun _ h_ => (List.not_mem_nil h_).elim)
  refine c_seq ?_
  refine reg ?_
  refine p_boxA rfl S fun b1 w2 S3 => ?_
  refine p_boxA rfl S3 fun b4 w5 S6 => ?_
  refine p_aB rfl ?_
  refine wp_nil ?_
  refine c_seq ?_
  refine reg ?_
  refine p_fld fl49_0 rfl ?_
  refine p_ld ty3 (S6.atX (i := 0) rfl) rfl rfl ?_
  refine p_fld fl49_0 rfl ?_
  refine p_ld ty3 (S6.atX (i := 1) rfl) rfl rfl ?_
  refine p_cmp rfl rfl rfl ?_
  refine p_mB rfl ?_
  rcases Bool.eq_false_or_eq_true (decide (a1.Low ≥ a0.Low)) with c7 | c7
  · replace H := condT c7 H
    refine eB c7 ?_
    refine gT rfl rfl (p_fld fl49_1 rfl ?_)
    refine gT rfl rfl (p_ld ty3 (S6.atX (i := 0) rfl) rfl rfl ?_)
    refine gT rfl rfl (p_fld fl49_1 rfl ?_)
    refine gT rfl rfl (p_ld ty3 (S6.atX (i := 1) rfl) rfl rfl ?_)
    refine gT rfl rfl (p_cmp rfl rfl rfl ?_)
    refine p_pkT rfl (rfl : _ = B (decide (a1.High ≤ a0.High))) ?_
    refine p_aB rfl ?_
    refine wp_nil ?_
    obtain rfl := Option.some.inj H
    refine c_ret ?_; show bodyPostM (Fr none) 0 Tryd.prog Tryd.f44 _ .ret _ _
    refine ret_of (res1 rfl (rvT (rfl : _ = B (decide (a1.High ≤ a0.High))))) ?_
    exact ⟨_, rfl, rfl, S6.keep⟩
  · replace H := condF c7 H
    refine eB c7 ?_
    refine gF rfl rfl ?_
    refine gF rfl rfl ?_
    refine gF rfl rfl ?_
    refine gF rfl rfl ?_
    refine gF rfl rfl ?_
    refine p_pkF rfl (rfl : _ = B false) ?_
    refine p_aB rfl ?_
    refine wp_nil ?_
    obtain rfl := Option.some.inj H
    refine c_ret ?_; show bodyPostM (Fr none) 0 Tryd.prog Tryd.f44 _ .ret _ _
    refine ret_of (res1 rfl (rvT (rfl : _ = B false))) ?_
    exact ⟨_, rfl, rfl, S6.keep⟩

def B_Climbs_l1 (a0 : List Int) (a1 : Int) (rec_z_1 : Int → Option Bool) (z_1 : Int) : Option Bool :=
  bif decide (z_1 < (a0.length : Int)) then ((getI a0 z_1).bind fun r9 =>
  (B_Inside r9 0 (wr (a1 - 1))).bind fun r11 =>
  bif !r11 then (some false)
  else (bif decide (z_1 > 0) then ((getI a0 z_1).bind fun r18 =>
  (getI a0 (wr (z_1 - 1))).bind fun r20 =>
  bif decide (r18 ≤ r20) then (some false)
  else (rec_z_1 (wr (z_1 + 1))))
  else (rec_z_1 (wr (z_1 + 1)))))
  else (some true)

def B_Climbs (a0 : List Int) (a1 : Int) : Option Bool :=
  loopF (B_Climbs_l1 a0 a1) big 0

set_option maxRecDepth 100000 in
theorem B_Climbs_ok {a0 : List Int} {a1 : Int} {A1 : Option Addr} {c2 : Nat} {w : World} {r : Bool} (H : B_Climbs a0 a1 = some r) (h3 : (rd intE 1 A1 c2 a0).ok w) : Calls Tryd.prog 45 #[SL A1 a0.length c2, I a1] w (RetV w (B r)) := by
  unfold B_Climbs at H
  refine fn_of (n := 36) Tryd.func45 rfl rfl (Nat.le_of_ble_eq_true rfl) ?_
  have S : St w (fun _ => False) w [] [rd intE 1 A1 c2 a0] := St.start w _ _ (List.forall_mem_cons.2 ⟨h3, (fun _ h_ => (List.not_mem_nil h_).elim)⟩)
  refine c_seq ?_
  refine reg ?_
  refine p_aB rfl ?_
  refine wp_nil ?_
  refine c_seq ?_
  refine c_seq ?_
  refine reg ?_
  refine p_aI rfl ?_
  refine wp_nil ?_
  refine c_block ?_
  refine c_lop (α := Int) (β := Unit) (B_Climbs_l1 a0 a1) (fun z_1 y_1 => [(0, SL A1 a0.length c2), (1, I a1), (5, I z_1)]) (fun z_1 y_1 w_ => St w (fun _ => False) w_ [] [rd intE 1 A1 c2 a0]) 0 () H ⟨rfl, rfl, rfl, trivial⟩ S ?_
  intro m4 z_1 y_1 e5 w6 H S7
  unfold B_Climbs_l1 at H
  refine c_seq ?_
  refine c_seq ?_
  refine reg ?_
  refine p_mI rfl ?_
  refine p_mS rfl ?_
  refine p_len rfl sc31 ?_
  refine p_cmp rfl rfl rfl ?_
  refine wp_nil ?_
  refine c_cond rfl (fun c8 => ?_) (fun c8 => ?_)
  · replace H := condT c8 H
    refine c_skip ?_
    refine c_seq ?_
    refine c_block ?_
    refine c_seq ?_
    obtain ⟨r9, h10, H⟩ := bindS H
    obtain ⟨r11, h12, H⟩ := bindS H
    rcases Bool.eq_false_or_eq_true (!r11) with c13 | c13
    · replace H := condT c13 H
      refine reg_q mixed 24 (by kernel_rfl) ?_
      refine dS (fun _ k_ => p_mS rfl dn) ?_
      refine dS (fun _ k_ => p_mI rfl dn) ?_
      refine dS (fun _ k_ => p_ixE sc31 h10 (Asr.stays (S7.atP (i := 0) rfl) k_).1 rfl rfl rfl dn) ?_
      refine dS (fun _ k_ => p_ldE ty3 h10 (Asr.stays (S7.atP (i := 0) rfl) k_).1 rfl rfl dn) ?_
      refine dS (fun _ k_ => p_mI rfl dn) ?_
      refine dS (fun _ k_ => p_sub rfl rfl dn) ?_
      refine dS (fun _ k_ => p_cvD (B_Inside_ok h12) fu40 rfl) ?_
      refine dS (fun _ k_ => p_not rfl dn) ?_
      refine dS (fun _ k_ => p_mB rfl dn) ?_
      refine dB c13 ?_
      refine dS (fun _ k_ => gF rfl rfl dnU) ?_
      refine dS (fun _ k_ => gF rfl rfl dnU) ?_
      refine dS (fun _ k_ => gF rfl rfl dnU) ?_
      refine dS (fun _ k_ => o_guardU rfl rfl dnU) ?_
      refine dS (fun _ k_ => o_guardU rfl rfl dnU) ?_
      refine dS (fun _ k_ => o_guardU rfl rfl dnU) ?_
      refine dS (fun _ k_ => o_guardU rfl rfl dnU) ?_
      refine dS (fun _ k_ => o_guardU rfl rfl dnU) ?_
      refine dS (fun _ k_ => o_guardU rfl rfl dnU) ?_
      refine dS (fun _ k_ => o_guardU rfl rfl dnU) ?_
      refine dS (fun _ k_ => o_guardU rfl rfl dnU) ?_
      refine dS (fun _ k_ => o_guardU rfl rfl dnU) ?_
      refine dS (fun _ k_ => o_guardU rfl rfl dnU) ?_
      refine dS (fun _ k_ => gF rfl rfl dnU) ?_
      refine dS (fun _ k_ => p_pkT rfl (rfl : _ = B true) dn) ?_
      intro w14 k15; have S16 := S7.call k15
      refine wp_nil ?_
      refine c_true rfl ?_
      refine c_seq ?_
      refine reg ?_
      refine p_aB rfl ?_
      refine wp_nil ?_
      obtain rfl := Option.some.inj H
      refine c_ret ?_; show bodyPostM (Fr none) 0 Tryd.prog Tryd.f45 _ .ret _ _
      refine ret_of (res1 rfl (rvT (rfl : _ = B false))) ?_
      exact ⟨_, rfl, rfl, S16.keep⟩
    · replace H := condF c13 H
      rcases Bool.eq_false_or_eq_true (decide (z_1 > 0)) with c17 | c17
      · replace H := condT c17 H
        obtain ⟨r18, h19, H⟩ := bindS H
        obtain ⟨r20, h21, H⟩ := bindS H
        refine reg_q mixed 24 (by kernel_rfl) ?_
        refine dS (fun _ k_ => p_mS rfl dn) ?_
        refine dS (fun _ k_ => p_mI rfl dn) ?_
        refine dS (fun _ k_ => p_ixE sc31 h10 (Asr.stays (S7.atP (i := 0) rfl) k_).1 rfl rfl rfl dn) ?_
        refine dS (fun _ k_ => p_ldE ty3 h10 (Asr.stays (S7.atP (i := 0) rfl) k_).1 rfl rfl dn) ?_
        refine dS (fun _ k_ => p_mI rfl dn) ?_
        refine dS (fun _ k_ => p_sub rfl rfl dn) ?_
        refine dS (fun _ k_ => p_cvD (B_Inside_ok h12) fu40 rfl) ?_
        refine dS (fun _ k_ => p_not rfl dn) ?_
        refine dS (fun _ k_ => p_mB rfl dn) ?_
        refine dB c13 ?_
        refine dS (fun _ k_ => gT rfl rfl (p_mI rfl dn)) ?_
        refine dS (fun _ k_ => gT rfl rfl (p_cmp rfl rfl rfl dn)) ?_
        refine dS (fun _ k_ => gT rfl rfl (p_mB rfl dn)) ?_
        refine dB c17 ?_
        refine dS (fun _ k_ => gT rfl rfl (p_mS rfl dn)) ?_
        refine dS (fun _ k_ => gT rfl rfl (p_mI rfl dn)) ?_
        refine dS (fun _ k_ => gT rfl rfl (p_ixE sc31 h19 (Asr.stays (S7.atP (i := 0) rfl) k_).1 rfl rfl rfl dn)) ?_
        refine dS (fun _ k_ => gT rfl rfl (p_ldE ty3 h19 (Asr.stays (S7.atP (i := 0) rfl) k_).1 rfl rfl dn)) ?_
        refine dS (fun _ k_ => gT rfl rfl (p_mS rfl dn)) ?_
        refine dS (fun _ k_ => gT rfl rfl (p_mI rfl dn)) ?_
        refine dS (fun _ k_ => gT rfl rfl (p_sub rfl rfl dn)) ?_
        refine dS (fun _ k_ => gT rfl rfl (p_ixE sc31 h21 (Asr.stays (S7.atP (i := 0) rfl) k_).1 rfl rfl rfl dn)) ?_
        refine dS (fun _ k_ => gT rfl rfl (p_ldE ty3 h21 (Asr.stays (S7.atP (i := 0) rfl) k_).1 rfl rfl dn)) ?_
        refine dS (fun _ k_ => gT rfl rfl (p_cmp rfl rfl rfl dn)) ?_
        refine dS (fun _ k_ => gT rfl rfl (p_pkT rfl (rfl : _ = B (decide (r18 ≤ r20))) dn)) ?_
        refine dS (fun _ k_ => p_pkF rfl (rfl : _ = B (decide (r18 ≤ r20))) dn) ?_
        intro w22 k23; have S24 := S7.call k23
        refine wp_nil ?_
        refine c_cond rfl (fun c25 => ?_) (fun c25 => ?_)
        · replace H := condT c25 H
          refine c_seq ?_
          refine reg ?_
          refine p_aB rfl ?_
          refine wp_nil ?_
          obtain rfl := Option.some.inj H
          refine c_ret ?_; show bodyPostM (Fr none) 0 Tryd.prog Tryd.f45 _ .ret _ _
          refine ret_of (res1 rfl (rvT (rfl : _ = B false))) ?_
          exact ⟨_, rfl, rfl, S24.keep⟩
        · replace H := condF c25 H
          refine c_skip ?_
          refine reg ?_
          refine p_mI rfl ?_
          refine p_add rfl rfl ?_
          refine p_aI rfl ?_
          refine wp_nil ?_
          exact ⟨wr (z_1 + 1), (), _, rfl, ⟨rfl, rfl, rfl, trivial⟩, H, S24⟩
      · replace H := condF c17 H
        refine reg_q mixed 24 (by kernel_rfl) ?_
        refine dS (fun _ k_ => p_mS rfl dn) ?_
        refine dS (fun _ k_ => p_mI rfl dn) ?_
        refine dS (fun _ k_ => p_ixE sc31 h10 (Asr.stays (S7.atP (i := 0) rfl) k_).1 rfl rfl rfl dn) ?_
        refine dS (fun _ k_ => p_ldE ty3 h10 (Asr.stays (S7.atP (i := 0) rfl) k_).1 rfl rfl dn) ?_
        refine dS (fun _ k_ => p_mI rfl dn) ?_
        refine dS (fun _ k_ => p_sub rfl rfl dn) ?_
        refine dS (fun _ k_ => p_cvD (B_Inside_ok h12) fu40 rfl) ?_
        refine dS (fun _ k_ => p_not rfl dn) ?_
        refine dS (fun _ k_ => p_mB rfl dn) ?_
        refine dB c13 ?_
        refine dS (fun _ k_ => gT rfl rfl (p_mI rfl dn)) ?_
        refine dS (fun _ k_ => gT rfl rfl (p_cmp rfl rfl rfl dn)) ?_
        refine dS (fun _ k_ => gT rfl rfl (p_mB rfl dn)) ?_
        refine dB c17 ?_
        refine dS (fun _ k_ => gF rfl rfl dnU) ?_
        refine dS (fun _ k_ => gF rfl rfl dnU) ?_
        refine dS (fun _ k_ => gF rfl rfl dnU) ?_
        refine dS (fun _ k_ => gF rfl rfl dnU) ?_
        refine dS (fun _ k_ => gF rfl rfl dnU) ?_
        refine dS (fun _ k_ => gF rfl rfl dnU) ?_
        refine dS (fun _ k_ => gF rfl rfl dnU) ?_
        refine dS (fun _ k_ => gF rfl rfl dnU) ?_
        refine dS (fun _ k_ => gF rfl rfl dnU) ?_
        refine dS (fun _ k_ => gF rfl rfl dnU) ?_
        refine dS (fun _ k_ => gT rfl rfl (p_pkF rfl (rfl : _ = B false) dn)) ?_
        refine dS (fun _ k_ => p_pkF rfl (rfl : _ = B false) dn) ?_
        intro w26 k27; have S28 := S7.call k27
        refine wp_nil ?_
        refine c_false rfl ?_
        refine c_skip ?_
        refine reg ?_
        refine p_mI rfl ?_
        refine p_add rfl rfl ?_
        refine p_aI rfl ?_
        refine wp_nil ?_
        exact ⟨wr (z_1 + 1), (), _, rfl, ⟨rfl, rfl, rfl, trivial⟩, H, S28⟩
  · replace H := condF c8 H
    refine c_exit ?_
    refine c_seq ?_
    refine reg ?_
    refine p_aB rfl ?_
    refine wp_nil ?_
    obtain rfl := Option.some.inj H
    refine c_ret ?_; show bodyPostM (Fr none) 0 Tryd.prog Tryd.f45 _ .ret _ _
    refine ret_of (res1 rfl (rvT (rfl : _ = B true))) ?_
    exact ⟨_, rfl, rfl, S7.keep⟩

def B_At_l1 (a0 : List Int) (a1 : Int) (rec_z_1 : Int → Option Int) (z_1 : Int) : Option Int :=
  bif decide (z_1 < (a0.length : Int)) then ((getI a0 z_1).bind fun r9 =>
  bif (r9 == a1) then (some z_1)
  else (rec_z_1 (wr (z_1 + 1))))
  else (some (-1))

def B_At (a0 : List Int) (a1 : Int) : Option Int :=
  loopF (B_At_l1 a0 a1) big 0

set_option maxRecDepth 100000 in
theorem B_At_ok {a0 : List Int} {a1 : Int} {A1 : Option Addr} {c2 : Nat} {w : World} {r : Int} (H : B_At a0 a1 = some r) (h3 : (rd intE 1 A1 c2 a0).ok w) : Calls Tryd.prog 49 #[SL A1 a0.length c2, I a1] w (RetV w (I r)) := by
  unfold B_At at H
  refine fn_of (n := 19) Tryd.func49 rfl rfl (Nat.le_of_ble_eq_true rfl) ?_
  have S : St w (fun _ => False) w [] [rd intE 1 A1 c2 a0] := St.start w _ _ (List.forall_mem_cons.2 ⟨h3, (fun _ h_ => (List.not_mem_nil h_).elim)⟩)
  refine c_seq ?_
  refine reg ?_
  refine p_aI rfl ?_
  refine wp_nil ?_
  refine c_seq ?_
  refine c_seq ?_
  refine reg ?_
  refine p_aI rfl ?_
  refine wp_nil ?_
  refine c_block ?_
  refine c_lop (α := Int) (β := Unit) (B_At_l1 a0 a1) (fun z_1 y_1 => [(0, SL A1 a0.length c2), (1, I a1), (5, I z_1)]) (fun z_1 y_1 w_ => St w (fun _ => False) w_ [] [rd intE 1 A1 c2 a0]) 0 () H ⟨rfl, rfl, rfl, trivial⟩ S ?_
  intro m4 z_1 y_1 e5 w6 H S7
  unfold B_At_l1 at H
  refine c_seq ?_
  refine c_seq ?_
  refine reg ?_
  refine p_mI rfl ?_
  refine p_mS rfl ?_
  refine p_len rfl sc31 ?_
  refine p_cmp rfl rfl rfl ?_
  refine wp_nil ?_
  refine c_cond rfl (fun c8 => ?_) (fun c8 => ?_)
  · replace H := condT c8 H
    refine c_skip ?_
    refine c_seq ?_
    refine c_block ?_
    refine c_seq ?_
    refine reg ?_
    refine p_mS rfl ?_
    refine p_mI rfl ?_
    obtain ⟨r9, h10, H⟩ := bindS H
    refine p_ixE sc31 h10 (S7.atP (i := 0) rfl).1 rfl rfl rfl ?_
    refine p_ldE ty3 h10 (S7.atP (i := 0) rfl).1 rfl rfl ?_
    refine p_mI rfl ?_
    refine p_cmp rfl rfl rfl ?_
    refine wp_nil ?_
    refine c_cond rfl (fun c11 => ?_) (fun c11 => ?_)
    · replace H := condT c11 H
      refine c_seq ?_
      refine reg ?_
      refine p_mI rfl ?_
      refine p_aI rfl ?_
      refine wp_nil ?_
      obtain rfl := Option.some.inj H
      refine c_ret ?_; show bodyPostM (Fr none) 0 Tryd.prog Tryd.f49 _ .ret _ _
      refine ret_of (res1 rfl (rvT (rfl : _ = I z_1))) ?_
      exact ⟨_, rfl, rfl, S7.keep⟩
    · replace H := condF c11 H
      refine c_skip ?_
      refine reg ?_
      refine p_mI rfl ?_
      refine p_add rfl rfl ?_
      refine p_aI rfl ?_
      refine wp_nil ?_
      exact ⟨wr (z_1 + 1), (), _, rfl, ⟨rfl, rfl, rfl, trivial⟩, H, S7⟩
  · replace H := condF c8 H
    refine c_exit ?_
    refine c_seq ?_
    refine reg ?_
    refine p_aI rfl ?_
    refine wp_nil ?_
    obtain rfl := Option.some.inj H
    refine c_ret ?_; show bodyPostM (Fr none) 0 Tryd.prog Tryd.f49 _ .ret _ _
    refine ret_of (res1 rfl (rvT (rfl : _ = I (-1)))) ?_
    exact ⟨_, rfl, rfl, S7.keep⟩

def law_without_l2 (a0 : TallyBook) (a1 : List Int) (rec_z_1 : (Int × (List TallyCount)) → Option TallyBook) (z_1 : Int × (List TallyCount)) : Option TallyBook :=
  bif decide (z_1.1 < (a0.Counts.length : Int)) then ((B_At a1 z_1.1).bind fun r26 =>
  bif decide (r26 < 0) then ((getI a0.Counts z_1.1).bind fun r31 =>
  need (fitsL (z_1.2.length + ([r31] : List TallyCount).length) 56) <|
  rec_z_1 (wr (z_1.1 + 1), z_1.2 ++ ([r31] : List TallyCount)))
  else (rec_z_1 (wr (z_1.1 + 1), z_1.2)))
  else (some (TallyBook.mk a0.Trips a0.Room z_1.2))

def law_without (a0 : TallyBook) (a1 : List Int) : Option TallyBook :=
  loopF (law_without_l2 a0 a1) big (0, ([] : List TallyCount))

set_option maxRecDepth 100000 in
theorem law_without_ok {a0 : TallyBook} {a1 : List Int} {A1 : Option Addr} {c2 : Nat} {A4 : Option Addr} {c5 : Nat} {w : World} {r : TallyBook} (H : law_without a0 a1 = some r) (h3 : (rd eTallyCount 7 A1 c2 a0.Counts).ok w) (h6 : (rd intE 1 A4 c5 a1).ok w) : Calls Tryd.prog 47 #[AG [I a0.Trips, I a0.Room, SL A1 a0.Counts.length c2], SL A4 a1.length c5] w fun en w_ => ∃ u_, en = .returned u_ ∧ ∃ A_1 : Option Addr, ∃ c_2 : Nat, u_ = AG [I r.Trips, I r.Room, SL A_1 r.Counts.length c_2] ∧ Keep0 w w_ ∧ ((gr eTallyCount 7 33 A_1 c_2 r.Counts).ok w_ ∧ New w.heap.size (gr eTallyCount 7 33 A_1 c_2 r.Counts)) ∧ True := by
  unfold law_without at H
  refine fn_of (n := 31) Tryd.func47 rfl rfl (Nat.le_of_ble_eq_true rfl) ?_
  have S : St w (fun _ => False) w [] [rd eTallyCount 7 A1 c2 a0.Counts, rd intE 1 A4 c5 a1] := St.start w _ _ (List.forall_mem_cons.2 ⟨h3, (List.forall_mem_cons.2 ⟨h6, (fun _ h_ => (List.not_mem_nil h_).elim)⟩)⟩)
  refine c_seq ?_
  refine reg ?_
  refine p_boxA rfl S fun b7 w8 S9 => ?_
  refine p_allA in24 S9 fun b10 w11 S12 => ?_
  refine wp_nil ?_
  refine c_seq ?_
  refine reg ?_
  refine p_ldA ty24 sz24 (S12.atX (i := 1) rfl) rfl rfl ?_
  refine p_allA in24 S12 fun b13 w14 S15 => ?_
  refine p_stP (pre := []) (old := [I 0, I 0, SL none 0 0]) (post := []) (vs := [I a0.Trips, I a0.Room, SL A1 a0.Counts.length c2]) sz24 S15 (i := 0) rfl rfl rfl rfl (rfl : _ = AG [I a0.Trips, I a0.Room, SL A1 a0.Counts.length c2]) rfl rfl rfl rfl fun w16 S17 => ?_
  refine wp_nil ?_
  refine c_seq ?_
  refine reg ?_
  refine p_fld fl24_2 rfl ?_
  refine p_stP (pre := [I a0.Trips, I a0.Room]) (old := [SL A1 a0.Counts.length c2]) (post := []) (vs := [SL none 0 0]) sz22 S17 (i := 0) rfl rfl rfl rfl (rfl : _ = SL none 0 0) rfl rfl rfl rfl fun w18 S19 => ?_
  refine wp_nil ?_
  refine c_seq ?_
  refine c_seq ?_
  refine reg ?_
  refine p_aI rfl ?_
  refine wp_nil ?_
  refine c_block ?_
  have S20 := S19.nilRow eTallyCount 7 33
  refine c_lop (α := Int × (List TallyCount)) (β := (Option Addr) × Nat) (law_without_l2 a0 a1) (fun z_1 y_1 => [(1, SL A4 a1.length c5), (2, P b7 0), (4, P b10 0), (5, P b13 0), (6, I z_1.1)]) (fun z_1 y_1 w_ => St w (fun _ => False) w_ [gr eTallyCount 7 33 y_1.1 y_1.2 z_1.2, bl b13 [I a0.Trips, I a0.Room, SL y_1.1 z_1.2.length y_1.2] 24, bl b10 [I 0, I 0, SL none 0 0] 24, bl b7 [I a0.Trips, I a0.Room, SL A1 a0.Counts.length c2] 24] [rd eTallyCount 7 A1 c2 a0.Counts, rd intE 1 A4 c5 a1]) (0, ([] : List TallyCount)) (none, 0) H ⟨rfl, rfl, rfl, rfl, rfl, trivial⟩ S20 ?_
  intro m21 z_1 y_1 e22 w23 H S24
  unfold law_without_l2 at H
  refine c_seq ?_
  refine c_seq ?_
  refine reg ?_
  refine p_mI rfl ?_
  refine p_fld fl24_2 rfl ?_
  refine p_ld ty22 (S24.atX (i := 3) rfl) rfl rfl ?_
  refine p_len rfl sc22 ?_
  refine p_cmp rfl rfl rfl ?_
  refine wp_nil ?_
  refine c_cond rfl (fun c25 => ?_) (fun c25 => ?_)
  · replace H := condT c25 H
    refine c_skip ?_
    refine c_seq ?_
    refine c_block ?_
    refine c_seq ?_
    refine reg ?_
    refine p_mS rfl ?_
    refine p_mI rfl ?_
    obtain ⟨r26, h27, H⟩ := bindS H
    refine p_cv (B_At_ok h27 (S24.atP (i := 1) rfl)) fu49 rfl S24 fun w28 S29 => ?_
    refine p_cmp rfl rfl rfl ?_
    refine wp_nil ?_
    refine c_cond rfl (fun c30 => ?_) (fun c30 => ?_)
    · replace H := condT c30 H
      obtain ⟨r31, h32, H⟩ := bindS H
      refine reg_c mixed 8 [7] (by kernel_rfl) ?_
      refine kS rfl (fun _ k_ => p_fld fl24_2 rfl dn) ?_
      refine kS rfl (fun _ k_ => p_ld ty22 (Asr.stays (S29.atX (i := 1) rfl) k_) rfl rfl dn) ?_
      refine kS rfl (fun _ k_ => p_fld fl24_2 rfl dn) ?_
      refine kS rfl (fun _ k_ => p_ld ty22 (Asr.stays (S29.atX (i := 3) rfl) k_) rfl rfl dn) ?_
      refine kS rfl (fun _ k_ => p_mI rfl dn) ?_
      refine kS rfl (fun _ k_ => p_ixE sc22 h32 (Asr.stays (S29.atP (i := 0) rfl) k_).1 rfl rfl rfl dn) ?_
      refine kS rfl (fun _ k_ => p_ldEA ty33 sz33 rfl h32 (Asr.stays (S29.atP (i := 0) rfl) k_).1 rfl dn) ?_
      refine kC rfl ?_
      intro w33 k34; have S35 := S29.call k34
      have S41 := S35.base
      refine p_bsl (enc := eTallyCount) (l := ([r31] : List TallyCount)) (fun x => AG (eTallyCount x)) (fun _ => rfl) sc22 in33 eTallyCount_len rfl (by decide) (by decide) zr33_1 S41 rfl fun A36 c37 w38 S39 => ?_
      refine cN S39.keep fun w42 k43 => ?_
      have S44 := (S35.fromBase S39).call k43
      obtain ⟨h49, H⟩ := needS H
      refine p_app (enc := eTallyCount) sc22 in33 rfl eTallyCount_len eTallyCount_one (by decide) S44 (k := 1) rfl (gr_sl eTallyCount_len (S44.atX (i := 0) rfl)) h49 (by simp) rfl rfl fun A47 c48 w45 S46 => ?_
      refine p_fld fl24_2 rfl ?_
      refine p_stP (pre := [I a0.Trips, I a0.Room]) (old := [SL y_1.1 z_1.2.length y_1.2]) (post := []) (vs := [SL A47 (z_1.2 ++ ([r31] : List TallyCount)).length c48]) sz22 S46 (i := 2) rfl rfl rfl rfl (rfl : _ = SL A47 (z_1.2 ++ ([r31] : List TallyCount)).length c48) rfl rfl rfl rfl fun w50 S51 => ?_
      refine wp_nil ?_
      refine reg ?_
      refine p_mI rfl ?_
      refine p_add rfl rfl ?_
      refine p_aI rfl ?_
      refine wp_nil ?_
      have S52 := S51.pk [1, 2, 3, 4] (by decide) [0, 1] rfl rfl
      exact ⟨(wr (z_1.1 + 1), z_1.2 ++ ([r31] : List TallyCount)), (A47, c48), _, rfl, ⟨rfl, rfl, rfl, rfl, rfl, trivial⟩, H, S52⟩
    · replace H := condF c30 H
      refine c_skip ?_
      refine reg ?_
      refine p_mI rfl ?_
      refine p_add rfl rfl ?_
      refine p_aI rfl ?_
      refine wp_nil ?_
      exact ⟨(wr (z_1.1 + 1), z_1.2), (y_1.1, y_1.2), _, rfl, ⟨rfl, rfl, rfl, rfl, rfl, trivial⟩, H, S29⟩
  · replace H := condF c25 H
    refine c_exit ?_
    refine c_seq ?_
    refine reg ?_
    refine p_ldA ty24 sz24 (S24.atX (i := 1) rfl) rfl rfl ?_
    refine p_stP (pre := []) (old := [I 0, I 0, SL none 0 0]) (post := []) (vs := [I a0.Trips, I a0.Room, SL y_1.1 z_1.2.length y_1.2]) sz24 S24 (i := 2) rfl rfl rfl rfl (rfl : _ = AG [I a0.Trips, I a0.Room, SL y_1.1 z_1.2.length y_1.2]) rfl rfl rfl rfl fun w53 S54 => ?_
    refine wp_nil ?_
    obtain rfl := Option.some.inj H
    refine c_ret ?_; show bodyPostM (Fr none) 0 Tryd.prog Tryd.f47 _ .ret _ _
    refine ret_of (res1 rfl (rvA rfl ty24 sz24 (S54.atX (i := 2) rfl) rfl)) ?_
    exact ⟨_, rfl, y_1.1, y_1.2, rfl, S54.keep, ⟨S54.atX (i := 0) rfl, S54.newX (i := 0) rfl⟩, trivial⟩

def law_apart_l1 (r9 : Span × Int) (a0 : TallyBook) (a1 : Int) (rec_z_1 : (Int × Int) → Option Int) (z_1 : Int × Int) : Option Int :=
  bif decide (z_1.2 ≤ r9.1.High) then (bif a0.Counts.isEmpty then ((law_count 2 a1 a1 z_1.2 1 0 0).bind fun r40 =>
  need (fitsL (([] : List TallyCount).length + ([r40] : List TallyCount).length) 56) <|
  (tally_Many (TallyBook.mk a0.Trips a0.Room ([r40] : List TallyCount)) 0 (wr (a0.Trips - 1))).bind fun r56 =>
  bif (r56.2 != 0) then (some (-1))
  else (rec_z_1 ((if (wr (r56.1.High - r56.1.Low)) > z_1.1 then (wr (r56.1.High - r56.1.Low)) else z_1.1), wr (z_1.2 + 1))))
  else (need (fitsL (([] : List TallyCount).length + a0.Counts.length) 56) <|
  (law_count 2 a1 a1 z_1.2 1 0 0).bind fun r72 =>
  need (fitsL (a0.Counts.length + ([r72] : List TallyCount).length) 56) <|
  (tally_Many (TallyBook.mk a0.Trips a0.Room (a0.Counts ++ ([r72] : List TallyCount))) 0 (wr (a0.Trips - 1))).bind fun r88 =>
  bif (r88.2 != 0) then (some (-1))
  else (rec_z_1 ((if (wr (r88.1.High - r88.1.Low)) > z_1.1 then (wr (r88.1.High - r88.1.Low)) else z_1.1), wr (z_1.2 + 1)))))
  else (some z_1.1)

def law_apart (a0 : TallyBook) (a1 : Int) : Option Int :=
  (tally_Many a0 a1 a1).bind fun r9 =>
  bif (r9.2 != 0) then (some (-1))
  else (bif decide ((wr (r9.1.High - r9.1.Low)) > 60) then (some (-1))
  else (loopF (law_apart_l1 r9 a0 a1) big (0, r9.1.Low)))

set_option maxRecDepth 100000 in
theorem law_apart_ok {a0 : TallyBook} {a1 : Int} {A1 : Option Addr} {c2 : Nat} {w : World} {r : Int} (H : law_apart a0 a1 = some r) (h3 : (rd eTallyCount 7 A1 c2 a0.Counts).ok w) (hg4 : (bl 0 [Value.func (.func 117) #[] #[], Value.func (.func 119) #[] #[]] 117).ok w) (hg5 : (bl 1 [I (-1), I (-1)] 115).ok w) : Calls Tryd.prog 51 #[AG [I a0.Trips, I a0.Room, SL A1 a0.Counts.length c2], I a1] w (RetV w (I r)) := by
  unfold law_apart at H
  refine fn_of (n := 67) Tryd.func51 rfl rfl (Nat.le_of_ble_eq_true rfl) ?_
  have S : St w (fun _ => False) w [] [rd eTallyCount 7 A1 c2 a0.Counts, bl 0 [Value.func (.func 117) #[] #[], Value.func (.func 119) #[] #[]] 117, bl 1 [I (-1), I (-1)] 115] := St.start w _ _ (List.forall_mem_cons.2 ⟨h3, (List.forall_mem_cons.2 ⟨hg4, (List.forall_mem_cons.2 ⟨hg5, (fun _ h_ => (List.not_mem_nil h_).elim)⟩)⟩)⟩)
  refine c_seq ?_
  refine reg ?_
  refine p_boxA rfl S fun b6 w7 S8 => ?_
  refine p_aI rfl ?_
  refine wp_nil ?_
  refine c_seq ?_
  refine reg ?_
  refine p_ldA ty24 sz24 (S8.atX (i := 0) rfl) rfl rfl ?_
  refine p_mI rfl ?_
  refine p_mI rfl ?_
  obtain ⟨r9, h10, H⟩ := bindS H
  refine p_cv (tally_Many_ok h10 (S8.atP (i := 0) rfl) (S8.atP (i := 1) rfl) (S8.atP (i := 2) rfl)) fu32 rfl S8 fun w11 S12 => ?_
  refine p_mT rfl ?_
  refine p_ext rfl rfl ?_
  refine p_ext rfl rfl ?_
  refine p_allA in49 S12 fun b13 w14 S15 => ?_
  refine p_stP (pre := []) (old := [I 0, I 0]) (post := []) (vs := [I r9.1.Low, I r9.1.High]) sz49 S15 (i := 0) rfl rfl rfl rfl (rfl : _ = AG [I r9.1.Low, I r9.1.High]) rfl rfl rfl rfl fun w16 S17 => ?_
  refine p_aI rfl ?_
  refine wp_nil ?_
  refine c_seq ?_
  refine c_seq ?_
  refine reg ?_
  refine p_mI rfl ?_
  refine p_cmp rfl rfl rfl ?_
  refine p_mB rfl ?_
  rcases Bool.eq_false_or_eq_true ((r9.2 != 0)) with c18 | c18
  · replace H := condT c18 H
    refine eB c18 ?_
    refine gF rfl rfl ?_
    refine gF rfl rfl ?_
    refine gF rfl rfl ?_
    refine gF rfl rfl ?_
    refine gF rfl rfl ?_
    refine gF rfl rfl ?_
    refine p_pkT rfl (rfl : _ = B true) ?_
    refine wp_nil ?_
    refine c_true rfl ?_
    refine c_seq ?_
    refine reg ?_
    refine p_aI rfl ?_
    refine wp_nil ?_
    obtain rfl := Option.some.inj H
    refine c_ret ?_; show bodyPostM (Fr none) 0 Tryd.prog Tryd.f51 _ .ret _ _
    refine ret_of (res1 rfl (rvT (rfl : _ = I (-1)))) ?_
    exact ⟨_, rfl, rfl, S17.keep⟩
  · replace H := condF c18 H
    refine eB c18 ?_
    refine gT rfl rfl (p_fld fl49_1 rfl ?_)
    refine gT rfl rfl (p_ld ty3 (S17.atX (i := 0) rfl) rfl rfl ?_)
    refine gT rfl rfl (p_fld fl49_0 rfl ?_)
    refine gT rfl rfl (p_ld ty3 (S17.atX (i := 0) rfl) rfl rfl ?_)
    refine gT rfl rfl (p_sub rfl rfl ?_)
    refine gT rfl rfl (p_cmp rfl rfl rfl ?_)
    refine p_pkF rfl (rfl : _ = B (decide ((wr (r9.1.High - r9.1.Low)) > 60))) ?_
    refine wp_nil ?_
    refine c_cond rfl (fun c19 => ?_) (fun c19 => ?_)
    · replace H := condT c19 H
      refine c_seq ?_
      refine reg ?_
      refine p_aI rfl ?_
      refine wp_nil ?_
      obtain rfl := Option.some.inj H
      refine c_ret ?_; show bodyPostM (Fr none) 0 Tryd.prog Tryd.f51 _ .ret _ _
      refine ret_of (res1 rfl (rvT (rfl : _ = I (-1)))) ?_
      exact ⟨_, rfl, rfl, S17.keep⟩
    · replace H := condF c19 H
      refine c_skip ?_
      refine c_seq ?_
      refine reg ?_
      refine p_aI rfl ?_
      refine wp_nil ?_
      refine c_seq ?_
      refine c_seq ?_
      refine reg ?_
      refine p_fld fl49_0 rfl ?_
      refine p_ld ty3 (S17.atX (i := 0) rfl) rfl rfl ?_
      refine p_aI rfl ?_
      refine wp_nil ?_
      refine c_block ?_
      refine c_lop (α := Int × Int) (β := Unit) (law_apart_l1 r9 a0 a1) (fun z_1 y_1 => [(1, I a1), (2, P b6 0), (5, P b13 0), (7, I z_1.1), (8, I z_1.2)]) (fun z_1 y_1 w_ => St w (fun _ => False) w_ [bl b13 [I r9.1.Low, I r9.1.High] 49, bl b6 [I a0.Trips, I a0.Room, SL A1 a0.Counts.length c2] 24] [rd eTallyCount 7 A1 c2 a0.Counts, bl 0 [Value.func (.func 117) #[] #[], Value.func (.func 119) #[] #[]] 117, bl 1 [I (-1), I (-1)] 115]) (0, r9.1.Low) () H ⟨rfl, rfl, rfl, rfl, rfl, trivial⟩ S17 ?_
      intro m20 z_1 y_1 e21 w22 H S23
      unfold law_apart_l1 at H
      refine c_seq ?_
      refine c_seq ?_
      refine reg ?_
      refine p_mI rfl ?_
      refine p_fld fl49_1 rfl ?_
      refine p_ld ty3 (S23.atX (i := 0) rfl) rfl rfl ?_
      refine p_cmp rfl rfl rfl ?_
      refine wp_nil ?_
      refine c_cond rfl (fun c24 => ?_) (fun c24 => ?_)
      · replace H := condT c24 H
        refine c_skip ?_
        refine c_seq ?_
        refine c_block ?_
        refine c_seq ?_
        refine reg ?_
        refine p_ldA ty24 sz24 (S23.atX (i := 1) rfl) rfl rfl ?_
        refine p_allA in24 S23 fun b25 w26 S27 => ?_
        refine p_stP (pre := []) (old := [I 0, I 0, SL none 0 0]) (post := []) (vs := [I a0.Trips, I a0.Room, SL A1 a0.Counts.length c2]) sz24 S27 (i := 0) rfl rfl rfl rfl (rfl : _ = AG [I a0.Trips, I a0.Room, SL A1 a0.Counts.length c2]) rfl rfl rfl rfl fun w28 S29 => ?_
        refine wp_nil ?_
        refine c_seq ?_
        refine reg ?_
        refine p_bsl0 eTallyCount sc22 S29 fun A30 w32 S33 => ?_
        refine p_fld fl24_2 rfl ?_
        refine p_ld ty22 (S33.atX (i := 3) rfl) rfl rfl ?_
        rcases Bool.eq_false_or_eq_true (a0.Counts.isEmpty) with c35 | c35
        · replace H := condT c35 H
          refine p_app0 sc22 in33 (Nat.le_refl _) c35 rfl rfl ?_
          refine p_mI rfl ?_
          refine p_mI rfl ?_
          refine p_mI rfl ?_
          obtain ⟨r40, h41, H⟩ := bindS H
          refine p_cv (law_count_ok h41) fu37 rfl S33 fun w42 S43 => ?_
          refine p_bsl (enc := eTallyCount) (l := ([r40] : List TallyCount)) (fun x => AG (eTallyCount x)) (fun _ => rfl) sc22 in33 eTallyCount_len rfl (by decide) (by decide) zr33_1 S43 rfl fun A44 c45 w46 S47 => ?_
          obtain ⟨h53, H⟩ := needS H
          refine p_app (enc := eTallyCount) sc22 in33 rfl eTallyCount_len eTallyCount_one (by decide) S47 (k := 1) rfl (gr_sl eTallyCount_len (S47.atX (i := 0) rfl)) h53 (by simp) rfl rfl fun A51 c52 w49 S50 => ?_
          refine p_fld fl24_2 rfl ?_
          refine p_stP (pre := [I a0.Trips, I a0.Room]) (old := [SL A1 a0.Counts.length c2]) (post := []) (vs := [SL A51 ([r40] : List TallyCount).length c52]) sz22 S50 (i := 2) rfl rfl rfl rfl (rfl : _ = SL A51 ([r40] : List TallyCount).length c52) rfl rfl rfl rfl fun w54 S55 => ?_
          refine wp_nil ?_
          refine c_seq ?_
          refine reg ?_
          refine p_ldA ty24 sz24 (S55.atX (i := 2) rfl) rfl rfl ?_
          refine p_fld fl24_0 rfl ?_
          refine p_ld ty3 (S55.atX (i := 4) rfl) rfl rfl ?_
          refine p_sub rfl rfl ?_
          obtain ⟨r56, h57, H⟩ := bindS H
          refine p_cv (tally_Many_ok h57 (gr_rd eTallyCount_len (S55.atX (i := 1) rfl)) (S55.atP (i := 1) rfl) (S55.atP (i := 2) rfl)) fu32 rfl S55 fun w58 S59 => ?_
          refine p_mT rfl ?_
          refine p_ext rfl rfl ?_
          refine p_ext rfl rfl ?_
          refine p_allA in49 S59 fun b60 w61 S62 => ?_
          refine p_stP (pre := []) (old := [I 0, I 0]) (post := []) (vs := [I r56.1.Low, I r56.1.High]) sz49 S62 (i := 0) rfl rfl rfl rfl (rfl : _ = AG [I r56.1.Low, I r56.1.High]) rfl rfl rfl rfl fun w63 S64 => ?_
          refine p_aI rfl ?_
          refine wp_nil ?_
          refine c_seq ?_
          refine c_seq ?_
          refine reg ?_
          refine p_mI rfl ?_
          refine p_cmp rfl rfl rfl ?_
          refine wp_nil ?_
          refine c_cond rfl (fun c65 => ?_) (fun c65 => ?_)
          · replace H := condT c65 H
            refine c_seq ?_
            refine reg ?_
            refine p_aI rfl ?_
            refine wp_nil ?_
            obtain rfl := Option.some.inj H
            refine c_ret ?_; show bodyPostM (Fr none) 0 Tryd.prog Tryd.f51 _ .ret _ _
            refine ret_of (res1 rfl (rvT (rfl : _ = I (-1)))) ?_
            exact ⟨_, rfl, rfl, S64.keep⟩
          · replace H := condF c65 H
            refine c_skip ?_
            refine reg ?_
            refine p_mI rfl ?_
            refine p_fld fl49_1 rfl ?_
            refine p_ld ty3 (S64.atX (i := 0) rfl) rfl rfl ?_
            refine p_fld fl49_0 rfl ?_
            refine p_ld ty3 (S64.atX (i := 0) rfl) rfl rfl ?_
            refine p_sub rfl rfl ?_
            refine p_max rfl rfl ?_
            refine p_aI rfl ?_
            refine wp_nil ?_
            refine reg ?_
            refine p_mI rfl ?_
            refine p_add rfl rfl ?_
            refine p_aI rfl ?_
            refine wp_nil ?_
            have S66 := S64.pk [4, 5] (by decide) [0, 1, 2] rfl rfl
            exact ⟨((if (wr (r56.1.High - r56.1.Low)) > z_1.1 then (wr (r56.1.High - r56.1.Low)) else z_1.1), wr (z_1.2 + 1)), (), _, rfl, ⟨rfl, rfl, rfl, rfl, rfl, trivial⟩, H, S66⟩
        · replace H := condF c35 H
          obtain ⟨h71, H⟩ := needS H
          refine p_app (enc := eTallyCount) sc22 in33 rfl eTallyCount_len eTallyCount_one (by decide) S33 (k := 0) rfl (S33.atP (i := 0) rfl).1 h71 (ne_of_some c35) rfl rfl fun A69 c70 w67 S68 => ?_
          refine p_mI rfl ?_
          refine p_mI rfl ?_
          refine p_mI rfl ?_
          obtain ⟨r72, h73, H⟩ := bindS H
          refine p_cv (law_count_ok h73) fu37 rfl S68 fun w74 S75 => ?_
          refine p_bsl (enc := eTallyCount) (l := ([r72] : List TallyCount)) (fun x => AG (eTallyCount x)) (fun _ => rfl) sc22 in33 eTallyCount_len rfl (by decide) (by decide) zr33_1 S75 rfl fun A76 c77 w78 S79 => ?_
          obtain ⟨h85, H⟩ := needS H
          refine p_app (enc := eTallyCount) sc22 in33 rfl eTallyCount_len eTallyCount_one (by decide) S79 (k := 1) rfl (gr_sl eTallyCount_len (S79.atX (i := 0) rfl)) h85 (by simp) rfl rfl fun A83 c84 w81 S82 => ?_
          refine p_fld fl24_2 rfl ?_
          refine p_stP (pre := [I a0.Trips, I a0.Room]) (old := [SL A1 a0.Counts.length c2]) (post := []) (vs := [SL A83 (a0.Counts ++ ([r72] : List TallyCount)).length c84]) sz22 S82 (i := 2) rfl rfl rfl rfl (rfl : _ = SL A83 (a0.Counts ++ ([r72] : List TallyCount)).length c84) rfl rfl rfl rfl fun w86 S87 => ?_
          refine wp_nil ?_
          refine c_seq ?_
          refine reg ?_
          refine p_ldA ty24 sz24 (S87.atX (i := 2) rfl) rfl rfl ?_
          refine p_fld fl24_0 rfl ?_
          refine p_ld ty3 (S87.atX (i := 4) rfl) rfl rfl ?_
          refine p_sub rfl rfl ?_
          obtain ⟨r88, h89, H⟩ := bindS H
          refine p_cv (tally_Many_ok h89 (gr_rd eTallyCount_len (S87.atX (i := 1) rfl)) (S87.atP (i := 1) rfl) (S87.atP (i := 2) rfl)) fu32 rfl S87 fun w90 S91 => ?_
          refine p_mT rfl ?_
          refine p_ext rfl rfl ?_
          refine p_ext rfl rfl ?_
          refine p_allA in49 S91 fun b92 w93 S94 => ?_
          refine p_stP (pre := []) (old := [I 0, I 0]) (post := []) (vs := [I r88.1.Low, I r88.1.High]) sz49 S94 (i := 0) rfl rfl rfl rfl (rfl : _ = AG [I r88.1.Low, I r88.1.High]) rfl rfl rfl rfl fun w95 S96 => ?_
          refine p_aI rfl ?_
          refine wp_nil ?_
          refine c_seq ?_
          refine c_seq ?_
          refine reg ?_
          refine p_mI rfl ?_
          refine p_cmp rfl rfl rfl ?_
          refine wp_nil ?_
          refine c_cond rfl (fun c97 => ?_) (fun c97 => ?_)
          · replace H := condT c97 H
            refine c_seq ?_
            refine reg ?_
            refine p_aI rfl ?_
            refine wp_nil ?_
            obtain rfl := Option.some.inj H
            refine c_ret ?_; show bodyPostM (Fr none) 0 Tryd.prog Tryd.f51 _ .ret _ _
            refine ret_of (res1 rfl (rvT (rfl : _ = I (-1)))) ?_
            exact ⟨_, rfl, rfl, S96.keep⟩
          · replace H := condF c97 H
            refine c_skip ?_
            refine reg ?_
            refine p_mI rfl ?_
            refine p_fld fl49_1 rfl ?_
            refine p_ld ty3 (S96.atX (i := 0) rfl) rfl rfl ?_
            refine p_fld fl49_0 rfl ?_
            refine p_ld ty3 (S96.atX (i := 0) rfl) rfl rfl ?_
            refine p_sub rfl rfl ?_
            refine p_max rfl rfl ?_
            refine p_aI rfl ?_
            refine wp_nil ?_
            refine reg ?_
            refine p_mI rfl ?_
            refine p_add rfl rfl ?_
            refine p_aI rfl ?_
            refine wp_nil ?_
            have S98 := S96.pk [4, 5] (by decide) [0, 1, 2] rfl rfl
            exact ⟨((if (wr (r88.1.High - r88.1.Low)) > z_1.1 then (wr (r88.1.High - r88.1.Low)) else z_1.1), wr (z_1.2 + 1)), (), _, rfl, ⟨rfl, rfl, rfl, rfl, rfl, trivial⟩, H, S98⟩
      · replace H := condF c24 H
        refine c_exit ?_
        refine c_seq ?_
        refine reg ?_
        refine p_mI rfl ?_
        refine p_aI rfl ?_
        refine wp_nil ?_
        obtain rfl := Option.some.inj H
        refine c_ret ?_; show bodyPostM (Fr none) 0 Tryd.prog Tryd.f51 _ .ret _ _
        refine ret_of (res1 rfl (rvT (rfl : _ = I z_1.1))) ?_
        exact ⟨_, rfl, rfl, S23.keep⟩

end Go.Proofs.YtplpalmabgjibaaDoor

/- What the law's function computes, and that it does, printed by a program of mine. -/
import Derived.Test.YtplpalmabgjibaaDoorWC
set_option linter.unusedVariables false
set_option linter.unusedSimpArgs false
namespace Go.Proofs.YtplpalmabgjibaaDoor
open Go Go.Fx Go.Proofs
def law_TallyBack_l2 (a0 : TallyBook) (a1 : List Int) (rec_z_1 : (Int × (List TallyCount)) → Option Bool) (z_1 : Int × (List TallyCount)) : Option Bool :=
  bif decide (z_1.1 < (a0.Counts.length : Int)) then ((getI a0.Counts z_1.1).bind fun r48 =>
  (getI a0.Counts z_1.1).bind fun r55 =>
  (getI a0.Counts z_1.1).bind fun r57 =>
  need (fitsL (z_1.2.length + ([(TallyCount.mk r48.Who (wr ((wr (a0.Trips - 1)) - r55.To)) (wr ((wr (a0.Trips - 1)) - r57.From)) r48.Told r48.Unit r48.Under r48.Over)] : List TallyCount).length) 56) <|
  rec_z_1 (wr (z_1.1 + 1), z_1.2 ++ ([(TallyCount.mk r48.Who (wr ((wr (a0.Trips - 1)) - r55.To)) (wr ((wr (a0.Trips - 1)) - r57.From)) r48.Told r48.Unit r48.Under r48.Over)] : List TallyCount)))
  else ((B_Mod (aget a1 0) a0.Trips).bind fun r87 =>
  (B_Mod (aget a1 1) (wr (a0.Trips - r87))).bind fun r91 =>
  (tally_Many a0 r87 (wr (r87 + r91))).bind fun r95 =>
  (tally_Many (TallyBook.mk a0.Trips a0.Room z_1.2) (wr ((wr (a0.Trips - 1)) - (wr (r87 + r91)))) (wr ((wr (a0.Trips - 1)) - r87))).bind fun r104 =>
  bif !((r95.1.Low == r104.1.Low) && (r95.1.High == r104.1.High)) then (some false)
  else (bif (r95.2 != r104.2) then (some false)
  else ((tally_Pays a0 7).bind fun r115 =>
  (tally_Pays (TallyBook.mk a0.Trips a0.Room z_1.2) 7).bind fun r121 =>
  (tally_Wrong a0).bind fun r127 =>
  (tally_Wrong (TallyBook.mk a0.Trips a0.Room z_1.2)).bind fun r137 =>
  (tally_Whose a0).bind fun r146 =>
  (tally_Whose (TallyBook.mk a0.Trips a0.Room z_1.2)).bind fun r155 =>
  bif ((r115.1.Low == r121.1.Low) && (r115.1.High == r121.1.High)) then (bif (r115.2 == r121.2) then (bif (r127.2 == 0) then (bif (r137.2 == 0) then ((B_Alike r127.1 r137.1).bind fun r168 =>
  bif r168 then (bif (r146.2 == 0) then (bif (r155.2 == 0) then ((B_Alike r146.1 r155.1).bind fun r175 =>
  bif r175 then ((law_counted).bind fun r180 =>
  some r180)
  else (some false))
  else (some false))
  else (some false))
  else (some false))
  else (some false))
  else (some false))
  else (some false))
  else (some false))))

def law_TallyBack (a0 : TallyBook) (a1 : List Int) : Option Bool :=
  (law_sound a0).bind fun r12 =>
  bif !r12 then ((law_counted).bind fun r17 =>
  some r17)
  else (loopF (law_TallyBack_l2 a0 a1) big (0, ([] : List TallyCount)))

set_option maxRecDepth 100000 in
theorem law_TallyBack_ok {a0 : TallyBook} {a1 : List Int} {A1 : Option Addr} {c2 : Nat} {w : World} {r : Bool} (H : law_TallyBack a0 a1 = some r) (h3 : (rd eTallyCount 7 A1 c2 a0.Counts).ok w) (hg4 : (bl 0 [Value.func (.func 117) #[] #[], Value.func (.func 119) #[] #[]] 117).ok w) (hg5 : (bl 1 [I (-1), I (-1)] 115).ok w) : Calls Tryd.prog 10 #[AG [I a0.Trips, I a0.Room, SL A1 a0.Counts.length c2], AG (sg a1 2)] w (RetV w (B r)) := by
  unfold law_TallyBack at H
  refine fn_of (n := 175) Tryd.func10 rfl rfl (Nat.le_of_ble_eq_true rfl) ?_
  have S : St w (fun _ => False) w [] [rd eTallyCount 7 A1 c2 a0.Counts, bl 0 [Value.func (.func 117) #[] #[], Value.func (.func 119) #[] #[]] 117, bl 1 [I (-1), I (-1)] 115] := St.start w _ _ (List.forall_mem_cons.2 ⟨h3, (List.forall_mem_cons.2 ⟨hg4, (List.forall_mem_cons.2 ⟨hg5, (fun _ h_ => (List.not_mem_nil h_).elim)⟩)⟩)⟩)
  refine c_seq ?_
  refine reg ?_
  refine p_boxA rfl S fun b6 w7 S8 => ?_
  refine p_boxA rfl S8 fun b9 w10 S11 => ?_
  refine p_aB rfl ?_
  refine wp_nil ?_
  refine c_seq ?_
  refine c_seq ?_
  refine reg ?_
  refine p_ldA ty24 sz24 (S11.atX (i := 1) rfl) rfl rfl ?_
  obtain ⟨r12, h13, H⟩ := bindS H
  refine p_cv (law_sound_ok h13 (S11.atP (i := 0) rfl)) fu24 rfl S11 fun w14 S15 => ?_
  refine p_not rfl ?_
  refine wp_nil ?_
  refine c_cond rfl (fun c16 => ?_) (fun c16 => ?_)
  · replace H := condT c16 H
    refine c_seq ?_
    refine reg ?_
    obtain ⟨r17, h18, H⟩ := bindS H
    refine p_cv (law_counted_ok h18 (S15.atP (i := 1) rfl) (S15.atP (i := 2) rfl)) fu19 rfl S15 fun w19 S20 => ?_
    refine p_aB rfl ?_
    refine wp_nil ?_
    obtain rfl := Option.some.inj H
    refine c_ret ?_; show bodyPostM (Fr none) 0 Tryd.prog Tryd.f10 _ .ret _ _
    refine ret_of (res1 rfl (rvT (rfl : _ = B r17))) ?_
    exact ⟨_, rfl, rfl, S20.keep⟩
  · replace H := condF c16 H
    refine c_skip ?_
    refine c_seq ?_
    refine reg_k (C := fun _ => False) mixed 7 [4, 5] (by kernel_rfl) rfl ?_
    refine lS rfl (fun _ k_ => p_ldA ty24 sz24 (Asr.stays (S15.atX (i := 1) rfl) k_) rfl rfl dn) ?_
    refine lS rfl (fun _ k_ => p_fld fl24_0 rfl dn) ?_
    refine lS rfl (fun _ k_ => p_ld ty3 (Asr.stays (S15.atX (i := 1) rfl) k_) rfl rfl dn) ?_
    refine lS rfl (fun _ k_ => p_sub rfl rfl dn) ?_
    refine lC rfl ?_
    refine lC rfl ?_
    refine lS rfl (fun _ k_ => p_aI rfl dn) ?_
    have S21 := S15.base
    intro w22 k23; have S24 := S21.call k23
    intro w25 k26; have S27 := S24.call k26
    refine p_allA in24 S27 fun b28 w29 S30 => ?_
    refine cK S30.keep ?_
    intro w31 k32; have S33 := S30.call k32
    refine p_stP (pre := []) (old := [I 0, I 0, SL none 0 0]) (post := []) (vs := [I a0.Trips, I a0.Room, SL A1 a0.Counts.length c2]) sz24 S33 (i := 0) rfl rfl rfl rfl (rfl : _ = AG [I a0.Trips, I a0.Room, SL A1 a0.Counts.length c2]) rfl rfl rfl rfl fun w34 S35 => ?_
    refine cK0 S35.keep ?_
    intro w36 k37; have S38 := S35.call k37
    have S39 : St w (fun _ => False) w36 [bl b28 [I a0.Trips, I a0.Room, SL A1 a0.Counts.length c2] 24, bl b9 (sg a1 2) 68, bl b6 [I a0.Trips, I a0.Room, SL A1 a0.Counts.length c2] 24] [rd eTallyCount 7 A1 c2 a0.Counts, bl 0 [Value.func (.func 117) #[] #[], Value.func (.func 119) #[] #[]] 117, bl 1 [I (-1), I (-1)] 115] := S15.fromBaseN S38
    refine wp_nil ?_
    refine c_seq ?_
    refine reg ?_
    refine p_fld fl24_2 rfl ?_
    refine p_stP (pre := [I a0.Trips, I a0.Room]) (old := [SL A1 a0.Counts.length c2]) (post := []) (vs := [SL none 0 0]) sz22 S39 (i := 0) rfl rfl rfl rfl (rfl : _ = SL none 0 0) rfl rfl rfl rfl fun w40 S41 => ?_
    refine wp_nil ?_
    refine c_seq ?_
    refine c_seq ?_
    refine reg ?_
    refine p_aI rfl ?_
    refine wp_nil ?_
    refine c_block ?_
    have S42 := S41.nilRow eTallyCount 7 33
    refine c_lop (α := Int × (List TallyCount)) (β := (Option Addr) × Nat) (law_TallyBack_l2 a0 a1) (fun z_1 y_1 => [(2, P b6 0), (3, P b9 0), (5, P b28 0), (6, I (wr (a0.Trips - 1))), (7, I z_1.1)]) (fun z_1 y_1 w_ => St w (fun _ => False) w_ [gr eTallyCount 7 33 y_1.1 y_1.2 z_1.2, bl b28 [I a0.Trips, I a0.Room, SL y_1.1 z_1.2.length y_1.2] 24, bl b9 (sg a1 2) 68, bl b6 [I a0.Trips, I a0.Room, SL A1 a0.Counts.length c2] 24] [rd eTallyCount 7 A1 c2 a0.Counts, bl 0 [Value.func (.func 117) #[] #[], Value.func (.func 119) #[] #[]] 117, bl 1 [I (-1), I (-1)] 115]) (0, ([] : List TallyCount)) (none, 0) H ⟨rfl, rfl, rfl, rfl, rfl, trivial⟩ S42 ?_
    intro m43 z_1 y_1 e44 w45 H S46
    unfold law_TallyBack_l2 at H
    refine c_seq ?_
    refine c_seq ?_
    refine reg ?_
    refine p_mI rfl ?_
    refine p_fld fl24_2 rfl ?_
    refine p_ld ty22 (S46.atX (i := 3) rfl) rfl rfl ?_
    refine p_len rfl sc22 ?_
    refine p_cmp rfl rfl rfl ?_
    refine wp_nil ?_
    refine c_cond rfl (fun c47 => ?_) (fun c47 => ?_)
    · replace H := condT c47 H
      refine c_skip ?_
      refine c_seq ?_
      refine c_block ?_
      refine c_seq ?_
      refine reg ?_
      refine p_fld fl24_2 rfl ?_
      refine p_ld ty22 (S46.atX (i := 3) rfl) rfl rfl ?_
      refine p_mI rfl ?_
      obtain ⟨r48, h49, H⟩ := bindS H
      refine p_ixE sc22 h49 (S46.atP (i := 0) rfl).1 rfl rfl rfl ?_
      refine p_ldEA ty33 sz33 rfl h49 (S46.atP (i := 0) rfl).1 rfl ?_
      refine p_allA in33 S46 fun b50 w51 S52 => ?_
      refine p_stP (pre := []) (old := [I 0, I 0, I 0, I 0, I 0, I 0, I 0]) (post := []) (vs := [I r48.Who, I r48.From, I r48.To, I r48.Told, I r48.Unit, I r48.Under, I r48.Over]) sz33 S52 (i := 0) rfl rfl rfl rfl (rfl : _ = AG [I r48.Who, I r48.From, I r48.To, I r48.Told, I r48.Unit, I r48.Under, I r48.Over]) rfl rfl rfl rfl fun w53 S54 => ?_
      refine wp_nil ?_
      refine c_seq ?_
      obtain ⟨r55, h56, H⟩ := bindS H
      obtain ⟨r57, h58, H⟩ := bindS H
      refine reg_k (C := (bl b50 [I r48.Who, I r48.From, I r48.To, I r48.Told, I r48.Unit, I r48.Under, I r48.Over] 33).fp) mixed 19 [17] (by kernel_rfl) rfl ?_
      refine lS rfl (fun _ k_ => p_mI rfl dn) ?_
      refine lS rfl (fun _ k_ => p_fld fl24_2 rfl dn) ?_
      refine lS rfl (fun _ k_ => p_ld ty22 (S54.stX (i := 4) (j := 0) rfl rfl (by decide) k_) rfl rfl dn) ?_
      refine lS rfl (fun _ k_ => p_mI rfl dn) ?_
      refine lS rfl (fun _ k_ => p_ixE sc22 h56 (S54.stP (i := 0) (j := 0) rfl rfl k_).1 rfl rfl rfl dn) ?_
      refine lS rfl (fun _ k_ => p_fldE fl33_2 (sl_here (S54.stP (i := 0) (j := 0) rfl rfl k_).1 h56) rfl dn) ?_
      refine lS rfl (fun _ k_ => p_ldE ty3 h56 (S54.stP (i := 0) (j := 0) rfl rfl k_).1 rfl rfl dn) ?_
      refine lS rfl (fun _ k_ => p_sub rfl rfl dn) ?_
      refine lS rfl (fun _ k_ => p_mI rfl dn) ?_
      refine lS rfl (fun _ k_ => p_fld fl24_2 rfl dn) ?_
      refine lS rfl (fun _ k_ => p_ld ty22 (S54.stX (i := 4) (j := 0) rfl rfl (by decide) k_) rfl rfl dn) ?_
      refine lS rfl (fun _ k_ => p_mI rfl dn) ?_
      refine lS rfl (fun _ k_ => p_ixE sc22 h58 (S54.stP (i := 0) (j := 0) rfl rfl k_).1 rfl rfl rfl dn) ?_
      refine lS rfl (fun _ k_ => p_fldE fl33_1 (sl_here (S54.stP (i := 0) (j := 0) rfl rfl k_).1 h58) rfl dn) ?_
      refine lS rfl (fun _ k_ => p_ldE ty3 h58 (S54.stP (i := 0) (j := 0) rfl rfl k_).1 rfl rfl dn) ?_
      refine lS rfl (fun _ k_ => p_sub rfl rfl dn) ?_
      refine lS rfl (fun _ k_ => p_fld fl33_1 rfl dn) ?_
      refine lC rfl ?_
      refine lS rfl (fun _ k_ => p_fld fl33_2 rfl dn) ?_
      have S59 := S54.baseQ (j := 0) rfl
      intro w60 k61; have S62 := S59.call k61
      intro w63 k64; have S65 := S62.call k64
      refine p_stP (pre := [I r48.Who]) (old := [I r48.From]) (post := [I r48.To, I r48.Told, I r48.Unit, I r48.Under, I r48.Over]) (vs := [I (wr ((wr (a0.Trips - 1)) - r55.To))]) sz3 S65 (i := 0) rfl rfl rfl rfl (rfl : _ = I (wr ((wr (a0.Trips - 1)) - r55.To))) rfl rfl rfl rfl fun w66 S67 => ?_
      refine cK0 S67.keep ?_
      intro w68 k69; have S70 := S67.call k69
      have S71 : St w (fun _ => False) w68 [bl b50 [I r48.Who, I (wr ((wr (a0.Trips - 1)) - r55.To)), I r48.To, I r48.Told, I r48.Unit, I r48.Under, I r48.Over] 33, gr eTallyCount 7 33 y_1.1 y_1.2 z_1.2, bl b28 [I a0.Trips, I a0.Room, SL y_1.1 z_1.2.length y_1.2] 24, bl b9 (sg a1 2) 68, bl b6 [I a0.Trips, I a0.Room, SL A1 a0.Counts.length c2] 24] [rd eTallyCount 7 A1 c2 a0.Counts, bl 0 [Value.func (.func 117) #[] #[], Value.func (.func 119) #[] #[]] 117, bl 1 [I (-1), I (-1)] 115] := S54.fromBaseQ (j := 0) rfl S70
      refine p_stP (pre := [I r48.Who, I (wr ((wr (a0.Trips - 1)) - r55.To))]) (old := [I r48.To]) (post := [I r48.Told, I r48.Unit, I r48.Under, I r48.Over]) (vs := [I (wr ((wr (a0.Trips - 1)) - r57.From))]) sz3 S71 (i := 0) rfl rfl rfl rfl (rfl : _ = I (wr ((wr (a0.Trips - 1)) - r57.From))) rfl rfl rfl rfl fun w72 S73 => ?_
      refine wp_nil ?_
      refine reg ?_
      refine p_fld fl24_2 rfl ?_
      refine p_ld ty22 (S73.atX (i := 2) rfl) rfl rfl ?_
      refine p_ldA ty33 sz33 (S73.atX (i := 0) rfl) rfl rfl ?_
      refine p_bsl (enc := eTallyCount) (l := ([(TallyCount.mk r48.Who (wr ((wr (a0.Trips - 1)) - r55.To)) (wr ((wr (a0.Trips - 1)) - r57.From)) r48.Told r48.Unit r48.Under r48.Over)] : List TallyCount)) (fun x => AG (eTallyCount x)) (fun _ => rfl) sc22 in33 eTallyCount_len rfl (by decide) (by decide) zr33_1 S73 rfl fun A74 c75 w76 S77 => ?_
      obtain ⟨h83, H⟩ := needS H
      refine p_app (enc := eTallyCount) sc22 in33 rfl eTallyCount_len eTallyCount_one (by decide) S77 (k := 2) rfl (gr_sl eTallyCount_len (S77.atX (i := 0) rfl)) h83 (by simp) rfl rfl fun A81 c82 w79 S80 => ?_
      refine p_fld fl24_2 rfl ?_
      refine p_stP (pre := [I a0.Trips, I a0.Room]) (old := [SL y_1.1 z_1.2.length y_1.2]) (post := []) (vs := [SL A81 (z_1.2 ++ ([(TallyCount.mk r48.Who (wr ((wr (a0.Trips - 1)) - r55.To)) (wr ((wr (a0.Trips - 1)) - r57.From)) r48.Told r48.Unit r48.Under r48.Over)] : List TallyCount)).length c82]) sz22 S80 (i := 3) rfl rfl rfl rfl (rfl : _ = SL A81 (z_1.2 ++ ([(TallyCount.mk r48.Who (wr ((wr (a0.Trips - 1)) - r55.To)) (wr ((wr (a0.Trips - 1)) - r57.From)) r48.Told r48.Unit r48.Under r48.Over)] : List TallyCount)).length c82) rfl rfl rfl rfl fun w84 S85 => ?_
      refine wp_nil ?_
      refine reg ?_
      refine p_mI rfl ?_
      refine p_add rfl rfl ?_
      refine p_aI rfl ?_
      refine wp_nil ?_
      have S86 := S85.pk [2, 3, 4, 5] (by decide) [0, 1, 2] rfl rfl
      exact ⟨(wr (z_1.1 + 1), z_1.2 ++ ([(TallyCount.mk r48.Who (wr ((wr (a0.Trips - 1)) - r55.To)) (wr ((wr (a0.Trips - 1)) - r57.From)) r48.Told r48.Unit r48.Under r48.Over)] : List TallyCount)), (A81, c82), _, rfl, ⟨rfl, rfl, rfl, rfl, rfl, trivial⟩, H, S86⟩
    · replace H := condF c47 H
      refine c_exit ?_
      refine c_seq ?_
      refine reg ?_
      refine p_ixc ar68 rfl rfl (by decide) (by decide) ?_
      refine p_ld ty3 (S46.atX (i := 2) rfl) rfl rfl ?_
      refine p_fld fl24_0 rfl ?_
      refine p_ld ty3 (S46.atX (i := 3) rfl) rfl rfl ?_
      obtain ⟨r87, h88, H⟩ := bindS H
      refine p_cv (B_Mod_ok h88) fu27 rfl S46 fun w89 S90 => ?_
      refine p_aI rfl ?_
      refine wp_nil ?_
      refine c_seq ?_
      refine reg ?_
      refine p_mI rfl ?_
      refine p_ixc ar68 rfl rfl (by decide) (by decide) ?_
      refine p_ld ty3 (S90.atX (i := 2) rfl) rfl rfl ?_
      refine p_fld fl24_0 rfl ?_
      refine p_ld ty3 (S90.atX (i := 3) rfl) rfl rfl ?_
      refine p_mI rfl ?_
      refine p_sub rfl rfl ?_
      obtain ⟨r91, h92, H⟩ := bindS H
      refine p_cv (B_Mod_ok h92) fu27 rfl S90 fun w93 S94 => ?_
      refine p_add rfl rfl ?_
      refine p_aI rfl ?_
      refine wp_nil ?_
      refine c_seq ?_
      refine reg ?_
      refine p_ldA ty24 sz24 (S94.atX (i := 3) rfl) rfl rfl ?_
      refine p_mI rfl ?_
      refine p_mI rfl ?_
      obtain ⟨r95, h96, H⟩ := bindS H
      refine p_cv (tally_Many_ok h96 (S94.atP (i := 0) rfl) (S94.atP (i := 1) rfl) (S94.atP (i := 2) rfl)) fu32 rfl S94 fun w97 S98 => ?_
      refine p_mT rfl ?_
      refine p_ext rfl rfl ?_
      refine p_ext rfl rfl ?_
      refine p_allA in49 S98 fun b99 w100 S101 => ?_
      refine p_stP (pre := []) (old := [I 0, I 0]) (post := []) (vs := [I r95.1.Low, I r95.1.High]) sz49 S101 (i := 0) rfl rfl rfl rfl (rfl : _ = AG [I r95.1.Low, I r95.1.High]) rfl rfl rfl rfl fun w102 S103 => ?_
      refine p_aI rfl ?_
      refine wp_nil ?_
      refine c_seq ?_
      refine reg ?_
      refine p_ldA ty24 sz24 (S103.atX (i := 2) rfl) rfl rfl ?_
      refine p_mI rfl ?_
      refine p_mI rfl ?_
      refine p_sub rfl rfl ?_
      refine p_mI rfl ?_
      refine p_mI rfl ?_
      refine p_sub rfl rfl ?_
      obtain ⟨r104, h105, H⟩ := bindS H
      refine p_cv (tally_Many_ok h105 (gr_rd eTallyCount_len (S103.atX (i := 1) rfl)) (S103.atP (i := 1) rfl) (S103.atP (i := 2) rfl)) fu32 rfl S103 fun w106 S107 => ?_
      refine p_mT rfl ?_
      refine p_ext rfl rfl ?_
      refine p_ext rfl rfl ?_
      refine p_allA in49 S107 fun b108 w109 S110 => ?_
      refine p_stP (pre := []) (old := [I 0, I 0]) (post := []) (vs := [I r104.1.Low, I r104.1.High]) sz49 S110 (i := 0) rfl rfl rfl rfl (rfl : _ = AG [I r104.1.Low, I r104.1.High]) rfl rfl rfl rfl fun w111 S112 => ?_
      refine p_aI rfl ?_
      refine wp_nil ?_
      refine c_seq ?_
      refine c_seq ?_
      refine reg ?_
      refine p_ldA ty49 sz49 (S112.atX (i := 1) rfl) rfl rfl ?_
      refine p_ldA ty49 sz49 (S112.atX (i := 0) rfl) rfl rfl ?_
      refine o_neA (xs := [I r95.1.Low, I r95.1.High]) (ys := [I r104.1.Low, I r104.1.High]) (T := ((r95.1.Low == r104.1.Low) && (r95.1.High == r104.1.High))) rfl rfl eq49 ⟨⟨_, rfl⟩, ⟨⟨_, rfl⟩, trivial⟩⟩ ⟨⟨_, rfl⟩, ⟨⟨_, rfl⟩, trivial⟩⟩ (by simp [Bool.and_eq_true, and_assoc]) ?_
      refine p_mB rfl ?_
      rcases Bool.eq_false_or_eq_true (!((r95.1.Low == r104.1.Low) && (r95.1.High == r104.1.High))) with c113 | c113
      · replace H := condT c113 H
        refine eB c113 ?_
        refine gF rfl rfl ?_
        refine gF rfl rfl ?_
        refine gF rfl rfl ?_
        refine p_pkT rfl (rfl : _ = B true) ?_
        refine wp_nil ?_
        refine c_true rfl ?_
        refine c_seq ?_
        refine reg ?_
        refine p_aB rfl ?_
        refine wp_nil ?_
        obtain rfl := Option.some.inj H
        refine c_ret ?_; show bodyPostM (Fr none) 0 Tryd.prog Tryd.f10 _ .ret _ _
        refine ret_of (res1 rfl (rvT (rfl : _ = B false))) ?_
        exact ⟨_, rfl, rfl, S112.keep⟩
      · replace H := condF c113 H
        refine eB c113 ?_
        refine gT rfl rfl (p_mI rfl ?_)
        refine gT rfl rfl (p_mI rfl ?_)
        refine gT rfl rfl (p_cmp rfl rfl rfl ?_)
        refine p_pkF rfl (rfl : _ = B (r95.2 != r104.2)) ?_
        refine wp_nil ?_
        refine c_cond rfl (fun c114 => ?_) (fun c114 => ?_)
        · replace H := condT c114 H
          refine c_seq ?_
          refine reg ?_
          refine p_aB rfl ?_
          refine wp_nil ?_
          obtain rfl := Option.some.inj H
          refine c_ret ?_; show bodyPostM (Fr none) 0 Tryd.prog Tryd.f10 _ .ret _ _
          refine ret_of (res1 rfl (rvT (rfl : _ = B false))) ?_
          exact ⟨_, rfl, rfl, S112.keep⟩
        · replace H := condF c114 H
          refine c_skip ?_
          refine c_seq ?_
          refine reg ?_
          refine p_ldA ty24 sz24 (S112.atX (i := 5) rfl) rfl rfl ?_
          obtain ⟨r115, h116, H⟩ := bindS H
          refine p_cv (tally_Pays_ok h116 (S112.atP (i := 0) rfl) (S112.atP (i := 1) rfl) (S112.atP (i := 2) rfl)) fu33 rfl S112 fun w117 S118 => ?_
          refine p_mT rfl ?_
          refine p_ext rfl rfl ?_
          refine p_ext rfl rfl ?_
          refine p_stP (pre := []) (old := [I r95.1.Low, I r95.1.High]) (post := []) (vs := [I r115.1.Low, I r115.1.High]) sz49 S118 (i := 1) rfl rfl rfl rfl (rfl : _ = AG [I r115.1.Low, I r115.1.High]) rfl rfl rfl rfl fun w119 S120 => ?_
          refine p_aI rfl ?_
          refine wp_nil ?_
          refine c_seq ?_
          refine reg ?_
          refine p_ldA ty24 sz24 (S120.atX (i := 3) rfl) rfl rfl ?_
          obtain ⟨r121, h122, H⟩ := bindS H
          refine p_cv (tally_Pays_ok h122 (gr_rd eTallyCount_len (S120.atX (i := 2) rfl)) (S120.atP (i := 1) rfl) (S120.atP (i := 2) rfl)) fu33 rfl S120 fun w123 S124 => ?_
          refine p_mT rfl ?_
          refine p_ext rfl rfl ?_
          refine p_ext rfl rfl ?_
          refine p_stP (pre := []) (old := [I r104.1.Low, I r104.1.High]) (post := []) (vs := [I r121.1.Low, I r121.1.High]) sz49 S124 (i := 0) rfl rfl rfl rfl (rfl : _ = AG [I r121.1.Low, I r121.1.High]) rfl rfl rfl rfl fun w125 S126 => ?_
          refine p_aI rfl ?_
          refine wp_nil ?_
          refine c_seq ?_
          refine reg ?_
          refine p_ldA ty24 sz24 (S126.atX (i := 5) rfl) rfl rfl ?_
          obtain ⟨r127, h128, H⟩ := bindS H
          refine p_cal (tally_Wrong_ok h128 (S126.atP (i := 0) rfl) (S126.atP (i := 1) rfl) (S126.atP (i := 2) rfl)) fu30 rfl ?_
          rintro _ w129 ⟨A131, c132, rfl, k130, ⟨o133, n134⟩, _⟩
          have S135 := S126.callN k130 [rd intE 1 A131 c132 r127.1] (List.forall_mem_cons.2 ⟨⟨o133, Al.inL n134 ((List.forall_mem_cons.2 ⟨(fp_mem (i := 0) rfl), (fun _ h_ => (List.not_mem_nil h_).elim)⟩))⟩, (fun _ h_ => (List.not_mem_nil h_).elim)⟩)
          refine p_mT rfl ?_
          refine p_ext rfl rfl ?_
          refine p_ext rfl rfl ?_
          refine p_aS rfl ?_
          refine p_aI rfl ?_
          refine wp_nil ?_
          refine c_seq ?_
          refine reg ?_
          refine p_ldA ty24 sz24 (S135.atX (i := 3) rfl) rfl rfl ?_
          have S136 := S135.fixRd eTallyCount_len (i := 2) rfl
          obtain ⟨r137, h138, H⟩ := bindS H
          refine p_cal (tally_Wrong_ok h138 (S136.atP (i := 0) rfl) (S136.atP (i := 3) rfl) (S136.atP (i := 4) rfl)) fu30 rfl ?_
          rintro _ w139 ⟨A141, c142, rfl, k140, ⟨o143, n144⟩, _⟩
          have S145 := S136.callN k140 [rd intE 1 A141 c142 r137.1] (List.forall_mem_cons.2 ⟨⟨o143, Al.inL n144 ((List.forall_mem_cons.2 ⟨(fp_mem (i := 0) rfl), (fun _ h_ => (List.not_mem_nil h_).elim)⟩))⟩, (fun _ h_ => (List.not_mem_nil h_).elim)⟩)
          refine p_mT rfl ?_
          refine p_ext rfl rfl ?_
          refine p_ext rfl rfl ?_
          refine p_aS rfl ?_
          refine p_aI rfl ?_
          refine wp_nil ?_
          refine c_seq ?_
          refine reg ?_
          refine p_ldA ty24 sz24 (S145.atX (i := 4) rfl) rfl rfl ?_
          obtain ⟨r146, h147, H⟩ := bindS H
          refine p_cal (tally_Whose_ok h147 (S145.atP (i := 3) rfl) (S145.atP (i := 4) rfl) (S145.atP (i := 5) rfl)) fu31 rfl ?_
          rintro _ w148 ⟨A150, c151, rfl, k149, ⟨o152, n153⟩, _⟩
          have S154 := S145.callN k149 [rd intE 1 A150 c151 r146.1] (List.forall_mem_cons.2 ⟨⟨o152, New.inL n153⟩, (fun _ h_ => (List.not_mem_nil h_).elim)⟩)
          refine p_mT rfl ?_
          refine p_ext rfl rfl ?_
          refine p_ext rfl rfl ?_
          refine p_aS rfl ?_
          refine p_aI rfl ?_
          refine wp_nil ?_
          refine c_seq ?_
          refine reg ?_
          refine p_ldA ty24 sz24 (S154.atX (i := 2) rfl) rfl rfl ?_
          obtain ⟨r155, h156, H⟩ := bindS H
          refine p_cal (tally_Whose_ok h156 (S154.atP (i := 2) rfl) (S154.atP (i := 5) rfl) (S154.atP (i := 6) rfl)) fu31 rfl ?_
          rintro _ w157 ⟨A159, c160, rfl, k158, ⟨o161, n162⟩, _⟩
          have S163 := S154.callN k158 [rd intE 1 A159 c160 r155.1] (List.forall_mem_cons.2 ⟨⟨o161, New.inL n162⟩, (fun _ h_ => (List.not_mem_nil h_).elim)⟩)
          refine p_mT rfl ?_
          refine p_ext rfl rfl ?_
          refine p_ext rfl rfl ?_
          refine p_aS rfl ?_
          refine p_aI rfl ?_
          refine wp_nil ?_
          refine c_seq ?_
          refine reg ?_
          refine p_ldA ty49 sz49 (S163.atX (i := 1) rfl) rfl rfl ?_
          refine p_ldA ty49 sz49 (S163.atX (i := 0) rfl) rfl rfl ?_
          refine o_eqA (xs := [I r115.1.Low, I r115.1.High]) (ys := [I r121.1.Low, I r121.1.High]) (T := ((r115.1.Low == r121.1.Low) && (r115.1.High == r121.1.High))) rfl rfl eq49 ⟨⟨_, rfl⟩, ⟨⟨_, rfl⟩, trivial⟩⟩ ⟨⟨_, rfl⟩, ⟨⟨_, rfl⟩, trivial⟩⟩ (by simp [Bool.and_eq_true, and_assoc]) ?_
          refine p_mB rfl ?_
          rcases Bool.eq_false_or_eq_true (((r115.1.Low == r121.1.Low) && (r115.1.High == r121.1.High))) with c164 | c164
          · replace H := condT c164 H
            refine eB c164 ?_
            refine gT rfl rfl (p_mI rfl ?_)
            refine gT rfl rfl (p_mI rfl ?_)
            refine gT rfl rfl (p_cmp rfl rfl rfl ?_)
            refine p_pkT rfl (rfl : _ = B (r115.2 == r121.2)) ?_
            refine p_mB rfl ?_
            rcases Bool.eq_false_or_eq_true ((r115.2 == r121.2)) with c165 | c165
            · replace H := condT c165 H
              refine eB c165 ?_
              refine gT rfl rfl (p_mI rfl ?_)
              refine gT rfl rfl (p_cmp rfl rfl rfl ?_)
              refine p_pkT rfl (rfl : _ = B (r127.2 == 0)) ?_
              refine p_mB rfl ?_
              rcases Bool.eq_false_or_eq_true ((r127.2 == 0)) with c166 | c166
              · replace H := condT c166 H
                refine eB c166 ?_
                refine gT rfl rfl (p_mI rfl ?_)
                refine gT rfl rfl (p_cmp rfl rfl rfl ?_)
                refine p_pkT rfl (rfl : _ = B (r137.2 == 0)) ?_
                refine p_mB rfl ?_
                rcases Bool.eq_false_or_eq_true ((r137.2 == 0)) with c167 | c167
                · replace H := condT c167 H
                  refine eB c167 ?_
                  refine gT rfl rfl (p_mS rfl ?_)
                  refine gT rfl rfl (p_mS rfl ?_)
                  obtain ⟨r168, h169, H⟩ := bindS H
                  refine gT rfl rfl (p_cv (B_Alike_ok h169 (S163.atP (i := 4) rfl) (S163.atP (i := 2) rfl)) fu22 rfl S163 fun w170 S171 => ?_)
                  refine p_pkT rfl (rfl : _ = B r168) ?_
                  refine p_mB rfl ?_
                  rcases Bool.eq_false_or_eq_true (r168) with c172 | c172
                  · replace H := condT c172 H
                    refine eB c172 ?_
                    refine gT rfl rfl (p_mI rfl ?_)
                    refine gT rfl rfl (p_cmp rfl rfl rfl ?_)
                    refine p_pkT rfl (rfl : _ = B (r146.2 == 0)) ?_
                    refine p_mB rfl ?_
                    rcases Bool.eq_false_or_eq_true ((r146.2 == 0)) with c173 | c173
                    · replace H := condT c173 H
                      refine eB c173 ?_
                      refine gT rfl rfl (p_mI rfl ?_)
                      refine gT rfl rfl (p_cmp rfl rfl rfl ?_)
                      refine p_pkT rfl (rfl : _ = B (r155.2 == 0)) ?_
                      refine p_mB rfl ?_
                      rcases Bool.eq_false_or_eq_true ((r155.2 == 0)) with c174 | c174
                      · replace H := condT c174 H
                        refine eB c174 ?_
                        refine gT rfl rfl (p_mS rfl ?_)
                        refine gT rfl rfl (p_mS rfl ?_)
                        obtain ⟨r175, h176, H⟩ := bindS H
                        refine gT rfl rfl (p_cv (B_Alike_ok h176 (S171.atP (i := 1) rfl) (S171.atP (i := 0) rfl)) fu22 rfl S171 fun w177 S178 => ?_)
                        refine p_pkT rfl (rfl : _ = B r175) ?_
                        refine p_mB rfl ?_
                        rcases Bool.eq_false_or_eq_true (r175) with c179 | c179
                        · replace H := condT c179 H
                          refine eB c179 ?_
                          obtain ⟨r180, h181, H⟩ := bindS H
                          refine gT rfl rfl (p_cv (law_counted_ok h181 (S178.atP (i := 6) rfl) (S178.atP (i := 7) rfl)) fu19 rfl S178 fun w182 S183 => ?_)
                          refine p_pkT rfl (rfl : _ = B r180) ?_
                          refine p_aB rfl ?_
                          refine wp_nil ?_
                          obtain rfl := Option.some.inj H
                          refine c_ret ?_; show bodyPostM (Fr none) 0 Tryd.prog Tryd.f10 _ .ret _ _
                          refine ret_of (res1 rfl (rvT (rfl : _ = B r180))) ?_
                          exact ⟨_, rfl, rfl, S183.keep⟩
                        · replace H := condF c179 H
                          refine eB c179 ?_
                          refine gF rfl rfl ?_
                          refine p_pkF rfl (rfl : _ = B false) ?_
                          refine p_aB rfl ?_
                          refine wp_nil ?_
                          obtain rfl := Option.some.inj H
                          refine c_ret ?_; show bodyPostM (Fr none) 0 Tryd.prog Tryd.f10 _ .ret _ _
                          refine ret_of (res1 rfl (rvT (rfl : _ = B false))) ?_
                          exact ⟨_, rfl, rfl, S178.keep⟩
                      · replace H := condF c174 H
                        refine eB c174 ?_
                        refine gF rfl rfl ?_
                        refine gF rfl rfl ?_
                        refine gF rfl rfl ?_
                        refine p_pkF rfl (rfl : _ = B false) ?_
                        refine p_mB rfl ?_
                        refine gF rfl rfl ?_
                        refine p_pkF rfl (rfl : _ = B false) ?_
                        refine p_aB rfl ?_
                        refine wp_nil ?_
                        obtain rfl := Option.some.inj H
                        refine c_ret ?_; show bodyPostM (Fr none) 0 Tryd.prog Tryd.f10 _ .ret _ _
                        refine ret_of (res1 rfl (rvT (rfl : _ = B false))) ?_
                        exact ⟨_, rfl, rfl, S171.keep⟩
                    · replace H := condF c173 H
                      refine eB c173 ?_
                      refine gF rfl rfl ?_
                      refine gF rfl rfl ?_
                      refine p_pkF rfl (rfl : _ = B false) ?_
                      refine p_mB rfl ?_
                      refine gF rfl rfl ?_
                      refine gF rfl rfl ?_
                      refine gF rfl rfl ?_
                      refine p_pkF rfl (rfl : _ = B false) ?_
                      refine p_mB rfl ?_
                      refine gF rfl rfl ?_
                      refine p_pkF rfl (rfl : _ = B false) ?_
                      refine p_aB rfl ?_
                      refine wp_nil ?_
                      obtain rfl := Option.some.inj H
                      refine c_ret ?_; show bodyPostM (Fr none) 0 Tryd.prog Tryd.f10 _ .ret _ _
                      refine ret_of (res1 rfl (rvT (rfl : _ = B false))) ?_
                      exact ⟨_, rfl, rfl, S171.keep⟩
                  · replace H := condF c172 H
                    refine eB c172 ?_
                    refine gF rfl rfl ?_
                    refine gF rfl rfl ?_
                    refine p_pkF rfl (rfl : _ = B false) ?_
                    refine p_mB rfl ?_
                    refine gF rfl rfl ?_
                    refine gF rfl rfl ?_
                    refine p_pkF rfl (rfl : _ = B false) ?_
                    refine p_mB rfl ?_
                    refine gF rfl rfl ?_
                    refine gF rfl rfl ?_
                    refine gF rfl rfl ?_
                    refine p_pkF rfl (rfl : _ = B false) ?_
                    refine p_mB rfl ?_
                    refine gF rfl rfl ?_
                    refine p_pkF rfl (rfl : _ = B false) ?_
                    refine p_aB rfl ?_
                    refine wp_nil ?_
                    obtain rfl := Option.some.inj H
                    refine c_ret ?_; show bodyPostM (Fr none) 0 Tryd.prog Tryd.f10 _ .ret _ _
                    refine ret_of (res1 rfl (rvT (rfl : _ = B false))) ?_
                    exact ⟨_, rfl, rfl, S171.keep⟩
                · replace H := condF c167 H
                  refine eB c167 ?_
                  refine gF rfl rfl ?_
                  refine gF rfl rfl ?_
                  refine gF rfl rfl ?_
                  refine p_pkF rfl (rfl : _ = B false) ?_
                  refine p_mB rfl ?_
                  refine gF rfl rfl ?_
                  refine gF rfl rfl ?_
                  refine p_pkF rfl (rfl : _ = B false) ?_
                  refine p_mB rfl ?_
                  refine gF rfl rfl ?_
                  refine gF rfl rfl ?_
                  refine p_pkF rfl (rfl : _ = B false) ?_
                  refine p_mB rfl ?_
                  refine gF rfl rfl ?_
                  refine gF rfl rfl ?_
                  refine gF rfl rfl ?_
                  refine p_pkF rfl (rfl : _ = B false) ?_
                  refine p_mB rfl ?_
                  refine gF rfl rfl ?_
                  refine p_pkF rfl (rfl : _ = B false) ?_
                  refine p_aB rfl ?_
                  refine wp_nil ?_
                  obtain rfl := Option.some.inj H
                  refine c_ret ?_; show bodyPostM (Fr none) 0 Tryd.prog Tryd.f10 _ .ret _ _
                  refine ret_of (res1 rfl (rvT (rfl : _ = B false))) ?_
                  exact ⟨_, rfl, rfl, S163.keep⟩
              · replace H := condF c166 H
                refine eB c166 ?_
                refine gF rfl rfl ?_
                refine gF rfl rfl ?_
                refine p_pkF rfl (rfl : _ = B false) ?_
                refine p_mB rfl ?_
                refine gF rfl rfl ?_
                refine gF rfl rfl ?_
                refine gF rfl rfl ?_
                refine p_pkF rfl (rfl : _ = B false) ?_
                refine p_mB rfl ?_
                refine gF rfl rfl ?_
                refine gF rfl rfl ?_
                refine p_pkF rfl (rfl : _ = B false) ?_
                refine p_mB rfl ?_
                refine gF rfl rfl ?_
                refine gF rfl rfl ?_
                refine p_pkF rfl (rfl : _ = B false) ?_
                refine p_mB rfl ?_
                refine gF rfl rfl ?_
                refine gF rfl rfl ?_
                refine gF rfl rfl ?_
                refine p_pkF rfl (rfl : _ = B false) ?_
                refine p_mB rfl ?_
                refine gF rfl rfl ?_
                refine p_pkF rfl (rfl : _ = B false) ?_
                refine p_aB rfl ?_
                refine wp_nil ?_
                obtain rfl := Option.some.inj H
                refine c_ret ?_; show bodyPostM (Fr none) 0 Tryd.prog Tryd.f10 _ .ret _ _
                refine ret_of (res1 rfl (rvT (rfl : _ = B false))) ?_
                exact ⟨_, rfl, rfl, S163.keep⟩
            · replace H := condF c165 H
              refine eB c165 ?_
              refine gF rfl rfl ?_
              refine gF rfl rfl ?_
              refine p_pkF rfl (rfl : _ = B false) ?_
              refine p_mB rfl ?_
              refine gF rfl rfl ?_
              refine gF rfl rfl ?_
              refine p_pkF rfl (rfl : _ = B false) ?_
              refine p_mB rfl ?_
              refine gF rfl rfl ?_
              refine gF rfl rfl ?_
              refine gF rfl rfl ?_
              refine p_pkF rfl (rfl : _ = B false) ?_
              refine p_mB rfl ?_
              refine gF rfl rfl ?_
              refine gF rfl rfl ?_
              refine p_pkF rfl (rfl : _ = B false) ?_
              refine p_mB rfl ?_
              refine gF rfl rfl ?_
              refine gF rfl rfl ?_
              refine p_pkF rfl (rfl : _ = B false) ?_
              refine p_mB rfl ?_
              refine gF rfl rfl ?_
              refine gF rfl rfl ?_
              refine gF rfl rfl ?_
              refine p_pkF rfl (rfl : _ = B false) ?_
              refine p_mB rfl ?_
              refine gF rfl rfl ?_
              refine p_pkF rfl (rfl : _ = B false) ?_
              refine p_aB rfl ?_
              refine wp_nil ?_
              obtain rfl := Option.some.inj H
              refine c_ret ?_; show bodyPostM (Fr none) 0 Tryd.prog Tryd.f10 _ .ret _ _
              refine ret_of (res1 rfl (rvT (rfl : _ = B false))) ?_
              exact ⟨_, rfl, rfl, S163.keep⟩
          · replace H := condF c164 H
            refine eB c164 ?_
            refine gF rfl rfl ?_
            refine gF rfl rfl ?_
            refine gF rfl rfl ?_
            refine p_pkF rfl (rfl : _ = B false) ?_
            refine p_mB rfl ?_
            refine gF rfl rfl ?_
            refine gF rfl rfl ?_
            refine p_pkF rfl (rfl : _ = B false) ?_
            refine p_mB rfl ?_
            refine gF rfl rfl ?_
            refine gF rfl rfl ?_
            refine p_pkF rfl (rfl : _ = B false) ?_
            refine p_mB rfl ?_
            refine gF rfl rfl ?_
            refine gF rfl rfl ?_
            refine gF rfl rfl ?_
            refine p_pkF rfl (rfl : _ = B false) ?_
            refine p_mB rfl ?_
            refine gF rfl rfl ?_
            refine gF rfl rfl ?_
            refine p_pkF rfl (rfl : _ = B false) ?_
            refine p_mB rfl ?_
            refine gF rfl rfl ?_
            refine gF rfl rfl ?_
            refine p_pkF rfl (rfl : _ = B false) ?_
            refine p_mB rfl ?_
            refine gF rfl rfl ?_
            refine gF rfl rfl ?_
            refine gF rfl rfl ?_
            refine p_pkF rfl (rfl : _ = B false) ?_
            refine p_mB rfl ?_
            refine gF rfl rfl ?_
            refine p_pkF rfl (rfl : _ = B false) ?_
            refine p_aB rfl ?_
            refine wp_nil ?_
            obtain rfl := Option.some.inj H
            refine c_ret ?_; show bodyPostM (Fr none) 0 Tryd.prog Tryd.f10 _ .ret _ _
            refine ret_of (res1 rfl (rvT (rfl : _ = B false))) ?_
            exact ⟨_, rfl, rfl, S163.keep⟩

end Go.Proofs.YtplpalmabgjibaaDoor

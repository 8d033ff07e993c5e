/- What the functions of the program compute, and that they do, printed by a program of mine. -/
import Derived.Test.YtplpalmabgjibaaDoorZWA
set_option linter.unusedVariables false
set_option linter.unusedSimpArgs false
namespace Go.Proofs.YtplpalmabgjibaaDoor
open Go Go.Fx Go.Proofs
def B_KeptCounts_l1 (a0 : List TallyCount) (a1 : List TallyCount) (rec_z_1 : (Bool × Int) → Option Bool) (z_1 : Bool × Int) : Option Bool :=
  bif z_1.1 then (bif decide (z_1.2 < (a0.length : Int)) then ((getI a0 z_1.2).bind fun r13 =>
  (getI a1 z_1.2).bind fun r15 =>
  rec_z_1 (((r13.Who == r15.Who) && (r13.From == r15.From) && (r13.To == r15.To) && (r13.Told == r15.Told) && (r13.Unit == r15.Unit) && (r13.Under == r15.Under) && (r13.Over == r15.Over)), wr (z_1.2 + 1)))
  else (some z_1.1))
  else (some z_1.1)

def B_KeptCounts (a0 : List TallyCount) (a1 : List TallyCount) : Option Bool :=
  loopF (B_KeptCounts_l1 a0 a1) big (((a0.length : Int) == (a1.length : Int)), 0)

set_option maxRecDepth 100000 in
theorem B_KeptCounts_ok {a0 : List TallyCount} {a1 : List TallyCount} {A1 : Option Addr} {c2 : Nat} {A4 : Option Addr} {c5 : Nat} {w : World} {r : Bool} (H : B_KeptCounts a0 a1 = some r) (h3 : (rd eTallyCount 7 A1 c2 a0).ok w) (h6 : (rd eTallyCount 7 A4 c5 a1).ok w) : Calls Tryd.prog 60 #[SL A1 a0.length c2, SL A4 a1.length c5] w (RetV w (B r)) := by
  unfold B_KeptCounts at H
  refine fn_of (n := 31) Tryd.func60 rfl rfl (Nat.le_of_ble_eq_true rfl) ?_
  have S : St w (fun _ => False) w [] [rd eTallyCount 7 A1 c2 a0, rd eTallyCount 7 A4 c5 a1] := St.start w _ _ (List.forall_mem_cons.2 ⟨h3, (List.forall_mem_cons.2 ⟨h6, (fun _ h_ => (List.not_mem_nil h_).elim)⟩)⟩)
  refine c_seq ?_
  refine reg ?_
  refine p_aB rfl ?_
  refine wp_nil ?_
  refine c_seq ?_
  refine reg ?_
  refine p_mS rfl ?_
  refine p_len rfl sc22 ?_
  refine p_mS rfl ?_
  refine p_len rfl sc22 ?_
  refine p_cmp rfl rfl rfl ?_
  refine p_aB rfl ?_
  refine wp_nil ?_
  refine c_seq ?_
  refine c_seq ?_
  refine reg ?_
  refine p_aI rfl ?_
  refine wp_nil ?_
  refine c_block ?_
  refine c_lop (α := Bool × Int) (β := Unit) (B_KeptCounts_l1 a0 a1) (fun z_1 y_1 => [(0, SL A1 a0.length c2), (1, SL A4 a1.length c5), (5, B z_1.1), (6, I z_1.2)]) (fun z_1 y_1 w_ => St w (fun _ => False) w_ [] [rd eTallyCount 7 A1 c2 a0, rd eTallyCount 7 A4 c5 a1]) (((a0.length : Int) == (a1.length : Int)), 0) () H ⟨rfl, rfl, rfl, rfl, trivial⟩ S ?_
  intro m7 z_1 y_1 e8 w9 H S10
  unfold B_KeptCounts_l1 at H
  refine c_seq ?_
  refine c_seq ?_
  refine reg ?_
  refine p_mB rfl ?_
  refine p_mB rfl ?_
  rcases Bool.eq_false_or_eq_true (z_1.1) with c11 | c11
  · replace H := condT c11 H
    refine eB c11 ?_
    refine gT rfl rfl (p_mI rfl ?_)
    refine gT rfl rfl (p_mS rfl ?_)
    refine gT rfl rfl (p_len rfl sc22 ?_)
    refine gT rfl rfl (p_cmp rfl rfl rfl ?_)
    refine p_pkT rfl (rfl : _ = B (decide (z_1.2 < (a0.length : Int)))) ?_
    refine wp_nil ?_
    refine c_cond rfl (fun c12 => ?_) (fun c12 => ?_)
    · replace H := condT c12 H
      refine c_skip ?_
      refine c_seq ?_
      refine c_block ?_
      obtain ⟨r13, h14, H⟩ := bindS H
      obtain ⟨r15, h16, H⟩ := bindS H
      refine reg_q mixed 10 (by kernel_rfl) ?_
      refine dS (fun _ k_ => p_mS rfl dn) ?_
      refine dS (fun _ k_ => p_mI rfl dn) ?_
      refine dS (fun _ k_ => p_ixE sc22 h14 (Asr.stays (S10.atP (i := 0) rfl) k_).1 rfl rfl rfl dn) ?_
      refine dS (fun _ k_ => p_ldEA ty33 sz33 rfl h14 (Asr.stays (S10.atP (i := 0) rfl) k_).1 rfl dn) ?_
      refine dS (fun _ k_ => p_mS rfl dn) ?_
      refine dS (fun _ k_ => p_mI rfl dn) ?_
      refine dS (fun _ k_ => p_ixE sc22 h16 (Asr.stays (S10.atP (i := 1) rfl) k_).1 rfl rfl rfl dn) ?_
      refine dS (fun _ k_ => p_ldEA ty33 sz33 rfl h16 (Asr.stays (S10.atP (i := 1) rfl) k_).1 rfl dn) ?_
      refine dS (fun _ k_ => o_eqA (xs := [I r13.Who, I r13.From, I r13.To, I r13.Told, I r13.Unit, I r13.Under, I r13.Over]) (ys := [I r15.Who, I r15.From, I r15.To, I r15.Told, I r15.Unit, I r15.Under, I r15.Over]) (T := ((r13.Who == r15.Who) && (r13.From == r15.From) && (r13.To == r15.To) && (r13.Told == r15.Told) && (r13.Unit == r15.Unit) && (r13.Under == r15.Under) && (r13.Over == r15.Over))) rfl rfl eq33 ⟨⟨_, rfl⟩, ⟨⟨_, rfl⟩, ⟨⟨_, rfl⟩, ⟨⟨_, rfl⟩, ⟨⟨_, rfl⟩, ⟨⟨_, rfl⟩, ⟨⟨_, rfl⟩, trivial⟩⟩⟩⟩⟩⟩⟩ ⟨⟨_, rfl⟩, ⟨⟨_, rfl⟩, ⟨⟨_, rfl⟩, ⟨⟨_, rfl⟩, ⟨⟨_, rfl⟩, ⟨⟨_, rfl⟩, ⟨⟨_, rfl⟩, trivial⟩⟩⟩⟩⟩⟩⟩ (by simp [Bool.and_eq_true, and_assoc]) dn) ?_
      refine dS (fun _ k_ => p_aB rfl dn) ?_
      intro w17 k18; have S19 := S10.call k18
      refine wp_nil ?_
      refine reg ?_
      refine p_mI rfl ?_
      refine p_add rfl rfl ?_
      refine p_aI rfl ?_
      refine wp_nil ?_
      exact ⟨(((r13.Who == r15.Who) && (r13.From == r15.From) && (r13.To == r15.To) && (r13.Told == r15.Told) && (r13.Unit == r15.Unit) && (r13.Under == r15.Under) && (r13.Over == r15.Over)), wr (z_1.2 + 1)), (), _, rfl, ⟨rfl, rfl, rfl, rfl, trivial⟩, H, S19⟩
    · replace H := condF c12 H
      refine c_exit ?_
      refine c_seq ?_
      refine reg ?_
      refine p_mB rfl ?_
      refine p_aB rfl ?_
      refine wp_nil ?_
      obtain rfl := Option.some.inj H
      refine c_ret ?_; show bodyPostM (Fr none) 0 Tryd.prog Tryd.f60 _ .ret _ _
      refine ret_of (res1 rfl (rvT (rfl : _ = B z_1.1))) ?_
      exact ⟨_, rfl, rfl, S10.keep⟩
  · replace H := condF c11 H
    refine eB c11 ?_
    refine gF rfl rfl ?_
    refine gF rfl rfl ?_
    refine gF rfl rfl ?_
    refine gF rfl rfl ?_
    refine p_pkF rfl (rfl : _ = B false) ?_
    refine wp_nil ?_
    refine c_false rfl ?_
    refine c_exit ?_
    refine c_seq ?_
    refine reg ?_
    refine p_mB rfl ?_
    refine p_aB rfl ?_
    refine wp_nil ?_
    obtain rfl := Option.some.inj H
    refine c_ret ?_; show bodyPostM (Fr none) 0 Tryd.prog Tryd.f60 _ .ret _ _
    refine ret_of (res1 rfl (rvT (rfl : _ = B z_1.1))) ?_
    exact ⟨_, rfl, rfl, S10.keep⟩

def B_KeptTally (a0 : TallyBook) (a1 : TallyBook) : Option Bool :=
  bif (a0.Trips == a1.Trips) then (bif (a0.Room == a1.Room) then ((B_KeptCounts a0.Counts a1.Counts).bind fun r15 =>
  some r15)
  else (some false))
  else (some false)

set_option maxRecDepth 100000 in
theorem B_KeptTally_ok {a0 : TallyBook} {a1 : TallyBook} {A1 : Option Addr} {c2 : Nat} {A4 : Option Addr} {c5 : Nat} {w : World} {r : Bool} (H : B_KeptTally a0 a1 = some r) (h3 : (rd eTallyCount 7 A1 c2 a0.Counts).ok w) (h6 : (rd eTallyCount 7 A4 c5 a1.Counts).ok w) : Calls Tryd.prog 18 #[AG [I a0.Trips, I a0.Room, SL A1 a0.Counts.length c2], AG [I a1.Trips, I a1.Room, SL A4 a1.Counts.length c5]] w (RetV w (B r)) := by
  unfold B_KeptTally at H
  refine fn_of (n := 24) Tryd.func18 rfl rfl (Nat.le_of_ble_eq_true rfl) ?_
  have S : St w (fun _ => False) w [] [rd eTallyCount 7 A1 c2 a0.Counts, rd eTallyCount 7 A4 c5 a1.Counts] := St.start w _ _ (List.forall_mem_cons.2 ⟨h3, (List.forall_mem_cons.2 ⟨h6, (fun _ h_ => (List.not_mem_nil h_).elim)⟩)⟩)
  refine c_seq ?_
  refine reg ?_
  refine p_boxA rfl S fun b7 w8 S9 => ?_
  refine p_boxA rfl S9 fun b10 w11 S12 => ?_
  refine p_aB rfl ?_
  refine wp_nil ?_
  refine c_seq ?_
  refine reg ?_
  refine p_fld fl24_0 rfl ?_
  refine p_ld ty3 (S12.atX (i := 1) rfl) rfl rfl ?_
  refine p_fld fl24_0 rfl ?_
  refine p_ld ty3 (S12.atX (i := 0) rfl) rfl rfl ?_
  refine p_cmp rfl rfl rfl ?_
  refine p_mB rfl ?_
  rcases Bool.eq_false_or_eq_true ((a0.Trips == a1.Trips)) with c13 | c13
  · replace H := condT c13 H
    refine eB c13 ?_
    refine gT rfl rfl (p_fld fl24_1 rfl ?_)
    refine gT rfl rfl (p_ld ty3 (S12.atX (i := 1) rfl) rfl rfl ?_)
    refine gT rfl rfl (p_fld fl24_1 rfl ?_)
    refine gT rfl rfl (p_ld ty3 (S12.atX (i := 0) rfl) rfl rfl ?_)
    refine gT rfl rfl (p_cmp rfl rfl rfl ?_)
    refine p_pkT rfl (rfl : _ = B (a0.Room == a1.Room)) ?_
    refine p_mB rfl ?_
    rcases Bool.eq_false_or_eq_true ((a0.Room == a1.Room)) with c14 | c14
    · replace H := condT c14 H
      refine eB c14 ?_
      refine gT rfl rfl (p_fld fl24_2 rfl ?_)
      refine gT rfl rfl (p_ld ty22 (S12.atX (i := 1) rfl) rfl rfl ?_)
      refine gT rfl rfl (p_fld fl24_2 rfl ?_)
      refine gT rfl rfl (p_ld ty22 (S12.atX (i := 0) rfl) rfl rfl ?_)
      obtain ⟨r15, h16, H⟩ := bindS H
      refine gT rfl rfl (p_cv (B_KeptCounts_ok h16 (S12.atP (i := 0) rfl) (S12.atP (i := 1) rfl)) fu60 rfl S12 fun w17 S18 => ?_)
      refine p_pkT rfl (rfl : _ = B r15) ?_
      refine p_aB rfl ?_
      refine wp_nil ?_
      obtain rfl := Option.some.inj H
      refine c_ret ?_; show bodyPostM (Fr none) 0 Tryd.prog Tryd.f18 _ .ret _ _
      refine ret_of (res1 rfl (rvT (rfl : _ = B r15))) ?_
      exact ⟨_, rfl, rfl, S18.keep⟩
    · replace H := condF c14 H
      refine eB c14 ?_
      refine gF rfl rfl ?_
      refine gF rfl rfl ?_
      refine gF rfl rfl ?_
      refine gF rfl rfl ?_
      refine gF rfl rfl ?_
      refine p_pkF rfl (rfl : _ = B false) ?_
      refine p_aB rfl ?_
      refine wp_nil ?_
      obtain rfl := Option.some.inj H
      refine c_ret ?_; show bodyPostM (Fr none) 0 Tryd.prog Tryd.f18 _ .ret _ _
      refine ret_of (res1 rfl (rvT (rfl : _ = B false))) ?_
      exact ⟨_, rfl, rfl, S12.keep⟩
  · replace H := condF c13 H
    refine eB c13 ?_
    refine gF rfl rfl ?_
    refine gF rfl rfl ?_
    refine gF rfl rfl ?_
    refine gF rfl rfl ?_
    refine gF rfl rfl ?_
    refine p_pkF rfl (rfl : _ = B false) ?_
    refine p_mB rfl ?_
    refine gF rfl rfl ?_
    refine gF rfl rfl ?_
    refine gF rfl rfl ?_
    refine gF rfl rfl ?_
    refine gF rfl rfl ?_
    refine p_pkF rfl (rfl : _ = B false) ?_
    refine p_aB rfl ?_
    refine wp_nil ?_
    obtain rfl := Option.some.inj H
    refine c_ret ?_; show bodyPostM (Fr none) 0 Tryd.prog Tryd.f18 _ .ret _ _
    refine ret_of (res1 rfl (rvT (rfl : _ = B false))) ?_
    exact ⟨_, rfl, rfl, S12.keep⟩

def B_Alike_l1 (a0 : List Int) (a1 : List Int) (rec_z_1 : Int → Option Bool) (z_1 : Int) : Option Bool :=
  bif decide (z_1 < (a0.length : Int)) then ((getI a0 z_1).bind fun r13 =>
  (getI a1 z_1).bind fun r15 =>
  bif (r13 != r15) then (some false)
  else (rec_z_1 (wr (z_1 + 1))))
  else (some true)

def B_Alike (a0 : List Int) (a1 : List Int) : Option Bool :=
  bif ((a0.length : Int) != (a1.length : Int)) then (some false)
  else (loopF (B_Alike_l1 a0 a1) big 0)

set_option maxRecDepth 100000 in
theorem B_Alike_ok {a0 : List Int} {a1 : List Int} {A1 : Option Addr} {c2 : Nat} {A4 : Option Addr} {c5 : Nat} {w : World} {r : Bool} (H : B_Alike a0 a1 = some r) (h3 : (rd intE 1 A1 c2 a0).ok w) (h6 : (rd intE 1 A4 c5 a1).ok w) : Calls Tryd.prog 22 #[SL A1 a0.length c2, SL A4 a1.length c5] w (RetV w (B r)) := by
  unfold B_Alike at H
  refine fn_of (n := 26) Tryd.func22 rfl rfl (Nat.le_of_ble_eq_true rfl) ?_
  have S : St w (fun _ => False) w [] [rd intE 1 A1 c2 a0, rd intE 1 A4 c5 a1] := St.start w _ _ (List.forall_mem_cons.2 ⟨h3, (List.forall_mem_cons.2 ⟨h6, (fun _ h_ => (List.not_mem_nil h_).elim)⟩)⟩)
  refine c_seq ?_
  refine reg ?_
  refine p_aB rfl ?_
  refine wp_nil ?_
  refine c_seq ?_
  refine c_seq ?_
  refine reg ?_
  refine p_mS rfl ?_
  refine p_len rfl sc31 ?_
  refine p_mS rfl ?_
  refine p_len rfl sc31 ?_
  refine p_cmp rfl rfl rfl ?_
  refine wp_nil ?_
  refine c_cond rfl (fun c7 => ?_) (fun c7 => ?_)
  · replace H := condT c7 H
    refine c_seq ?_
    refine reg ?_
    refine p_aB rfl ?_
    refine wp_nil ?_
    obtain rfl := Option.some.inj H
    refine c_ret ?_; show bodyPostM (Fr none) 0 Tryd.prog Tryd.f22 _ .ret _ _
    refine ret_of (res1 rfl (rvT (rfl : _ = B false))) ?_
    exact ⟨_, rfl, rfl, S.keep⟩
  · replace H := condF c7 H
    refine c_skip ?_
    refine c_seq ?_
    refine c_seq ?_
    refine reg ?_
    refine p_aI rfl ?_
    refine wp_nil ?_
    refine c_block ?_
    refine c_lop (α := Int) (β := Unit) (B_Alike_l1 a0 a1) (fun z_1 y_1 => [(0, SL A1 a0.length c2), (1, SL A4 a1.length c5), (5, I z_1)]) (fun z_1 y_1 w_ => St w (fun _ => False) w_ [] [rd intE 1 A1 c2 a0, rd intE 1 A4 c5 a1]) 0 () H ⟨rfl, rfl, rfl, trivial⟩ S ?_
    intro m8 z_1 y_1 e9 w10 H S11
    unfold B_Alike_l1 at H
    refine c_seq ?_
    refine c_seq ?_
    refine reg ?_
    refine p_mI rfl ?_
    refine p_mS rfl ?_
    refine p_len rfl sc31 ?_
    refine p_cmp rfl rfl rfl ?_
    refine wp_nil ?_
    refine c_cond rfl (fun c12 => ?_) (fun c12 => ?_)
    · replace H := condT c12 H
      refine c_skip ?_
      refine c_seq ?_
      refine c_block ?_
      refine c_seq ?_
      obtain ⟨r13, h14, H⟩ := bindS H
      obtain ⟨r15, h16, H⟩ := bindS H
      refine reg_q mixed 9 (by kernel_rfl) ?_
      refine dS (fun _ k_ => p_mS rfl dn) ?_
      refine dS (fun _ k_ => p_mI rfl dn) ?_
      refine dS (fun _ k_ => p_ixE sc31 h14 (Asr.stays (S11.atP (i := 0) rfl) k_).1 rfl rfl rfl dn) ?_
      refine dS (fun _ k_ => p_ldE ty3 h14 (Asr.stays (S11.atP (i := 0) rfl) k_).1 rfl rfl dn) ?_
      refine dS (fun _ k_ => p_mS rfl dn) ?_
      refine dS (fun _ k_ => p_mI rfl dn) ?_
      refine dS (fun _ k_ => p_ixE sc31 h16 (Asr.stays (S11.atP (i := 1) rfl) k_).1 rfl rfl rfl dn) ?_
      refine dS (fun _ k_ => p_ldE ty3 h16 (Asr.stays (S11.atP (i := 1) rfl) k_).1 rfl rfl dn) ?_
      refine dS (fun _ k_ => p_cmp rfl rfl rfl dn) ?_
      intro w17 k18; have S19 := S11.call k18
      refine wp_nil ?_
      refine c_cond rfl (fun c20 => ?_) (fun c20 => ?_)
      · replace H := condT c20 H
        refine c_seq ?_
        refine reg ?_
        refine p_aB rfl ?_
        refine wp_nil ?_
        obtain rfl := Option.some.inj H
        refine c_ret ?_; show bodyPostM (Fr none) 0 Tryd.prog Tryd.f22 _ .ret _ _
        refine ret_of (res1 rfl (rvT (rfl : _ = B false))) ?_
        exact ⟨_, rfl, rfl, S19.keep⟩
      · replace H := condF c20 H
        refine c_skip ?_
        refine reg ?_
        refine p_mI rfl ?_
        refine p_add rfl rfl ?_
        refine p_aI rfl ?_
        refine wp_nil ?_
        exact ⟨wr (z_1 + 1), (), _, rfl, ⟨rfl, rfl, rfl, trivial⟩, H, S19⟩
    · replace H := condF c12 H
      refine c_exit ?_
      refine c_seq ?_
      refine reg ?_
      refine p_aB rfl ?_
      refine wp_nil ?_
      obtain rfl := Option.some.inj H
      refine c_ret ?_; show bodyPostM (Fr none) 0 Tryd.prog Tryd.f22 _ .ret _ _
      refine ret_of (res1 rfl (rvT (rfl : _ = B true))) ?_
      exact ⟨_, rfl, rfl, S11.keep⟩

def tally_sum_l1 (a0 : List Int) (rec_z_1 : (Int × Int) → Option Int) (z_1 : Int × Int) : Option Int :=
  bif decide (z_1.2 < (a0.length : Int)) then ((getI a0 z_1.2).bind fun r9 =>
  rec_z_1 (wr (z_1.1 + r9), wr (z_1.2 + 1)))
  else (some z_1.1)

def tally_sum (a0 : List Int) : Option Int :=
  loopF (tally_sum_l1 a0) big (0, 0)

set_option maxRecDepth 100000 in
theorem tally_sum_ok {a0 : List Int} {A1 : Option Addr} {c2 : Nat} {w : World} {r : Int} (H : tally_sum a0 = some r) (h3 : (rd intE 1 A1 c2 a0).ok w) : Calls Tryd.prog 93 #[SL A1 a0.length c2] w (RetV w (I r)) := by
  unfold tally_sum at H
  refine fn_of (n := 17) Tryd.func93 rfl rfl (Nat.le_of_ble_eq_true rfl) ?_
  have S : St w (fun _ => False) w [] [rd intE 1 A1 c2 a0] := St.start w _ _ (List.forall_mem_cons.2 ⟨h3, (fun _ h_ => (List.not_mem_nil h_).elim)⟩)
  refine c_seq ?_
  refine reg ?_
  refine p_aI rfl ?_
  refine wp_nil ?_
  refine c_seq ?_
  refine reg ?_
  refine p_aI rfl ?_
  refine wp_nil ?_
  refine c_seq ?_
  refine c_seq ?_
  refine reg ?_
  refine p_mS rfl ?_
  refine p_len rfl sc31 ?_
  refine p_mI rfl ?_
  refine wp_nil ?_
  refine c_block ?_
  refine c_lop (α := Int × Int) (β := Unit) (tally_sum_l1 a0) (fun z_1 y_1 => [(3, I z_1.1), (6, SL A1 a0.length c2), (7, I (a0.length : Int)), (8, I z_1.2)]) (fun z_1 y_1 w_ => St w (fun _ => False) w_ [] [rd intE 1 A1 c2 a0]) (0, 0) () H ⟨rfl, rfl, rfl, rfl, trivial⟩ S ?_
  intro m4 z_1 y_1 e5 w6 H S7
  unfold tally_sum_l1 at H
  refine c_seq ?_
  refine reg ?_
  refine p_cmp rfl rfl rfl ?_
  refine wp_nil ?_
  refine c_seq ?_
  refine c_cond rfl (fun c8 => ?_) (fun c8 => ?_)
  · replace H := condT c8 H
    refine c_skip ?_
    refine c_seq ?_
    refine c_block ?_
    refine c_seq ?_
    refine reg ?_
    obtain ⟨r9, h10, H⟩ := bindS H
    refine p_ixE sc31 h10 (S7.atP (i := 0) rfl).1 rfl rfl rfl ?_
    refine p_ldE ty3 h10 (S7.atP (i := 0) rfl).1 rfl rfl ?_
    refine p_aI rfl ?_
    refine wp_nil ?_
    refine reg ?_
    refine p_mI rfl ?_
    refine p_mI rfl ?_
    refine p_add rfl rfl ?_
    refine p_aI rfl ?_
    refine wp_nil ?_
    refine reg ?_
    refine p_add rfl rfl ?_
    refine p_mI rfl ?_
    refine wp_nil ?_
    exact ⟨(wr (z_1.1 + r9), wr (z_1.2 + 1)), (), _, rfl, ⟨rfl, rfl, rfl, rfl, trivial⟩, H, S7⟩
  · replace H := condF c8 H
    refine c_exit ?_
    refine c_seq ?_
    refine reg ?_
    refine p_mI rfl ?_
    refine p_aI rfl ?_
    refine wp_nil ?_
    obtain rfl := Option.some.inj H
    refine c_ret ?_; show bodyPostM (Fr none) 0 Tryd.prog Tryd.f93 _ .ret _ _
    refine ret_of (res1 rfl (rvT (rfl : _ = I z_1.1))) ?_
    exact ⟨_, rfl, rfl, S7.keep⟩

def tally_count_right (a0 : TallyCount) (a1 : List Int) : Option Bool :=
  (cutI a1 a0.From (wr (a0.To + 1))).bind fun r8 =>
  (tally_sum r8).bind fun r10 =>
  (tally_count_least a0).bind fun r12 =>
  (tally_count_most a0).bind fun r14 =>
  (tally_within r10 r12 r14).bind fun r16 =>
  some r16

set_option maxRecDepth 100000 in
theorem tally_count_right_ok {a0 : TallyCount} {a1 : List Int} {A1 : Option Addr} {c2 : Nat} {w : World} {r : Bool} (H : tally_count_right a0 a1 = some r) (h3 : (rd intE 1 A1 c2 a1).ok w) (hg4 : (bl 0 [Value.func (.func 117) #[] #[], Value.func (.func 119) #[] #[]] 117).ok w) : Calls Tryd.prog 70 #[AG [I a0.Who, I a0.From, I a0.To, I a0.Told, I a0.Unit, I a0.Under, I a0.Over], SL A1 a1.length c2] w (RetV w (B r)) := by
  unfold tally_count_right at H
  refine fn_of (n := 22) Tryd.func70 rfl rfl (Nat.le_of_ble_eq_true rfl) ?_
  have S : St w (fun _ => False) w [] [rd intE 1 A1 c2 a1, bl 0 [Value.func (.func 117) #[] #[], Value.func (.func 119) #[] #[]] 117] := St.start w _ _ (List.forall_mem_cons.2 ⟨h3, (List.forall_mem_cons.2 ⟨hg4, (fun _ h_ => (List.not_mem_nil h_).elim)⟩)⟩)
  refine c_seq ?_
  refine reg ?_
  refine p_boxA rfl S fun b5 w6 S7 => ?_
  refine p_aB rfl ?_
  refine wp_nil ?_
  refine c_seq ?_
  obtain ⟨r8, h9, H⟩ := bindS H
  obtain ⟨r10, h11, H⟩ := bindS H
  obtain ⟨r12, h13, H⟩ := bindS H
  obtain ⟨r14, h15, H⟩ := bindS H
  obtain ⟨r16, h17, H⟩ := bindS H
  refine reg_q mixed 18 (by kernel_rfl) ?_
  refine dS (fun _ k_ => p_mS rfl dn) ?_
  refine dS (fun _ k_ => p_fld fl93_1 rfl dn) ?_
  refine dS (fun _ k_ => p_ld ty3 (Asr.stays (S7.atX (i := 0) rfl) k_) rfl rfl dn) ?_
  refine dS (fun _ k_ => p_fld fl93_2 rfl dn) ?_
  refine dS (fun _ k_ => p_ld ty3 (Asr.stays (S7.atX (i := 0) rfl) k_) rfl rfl dn) ?_
  refine dS (fun _ k_ => p_add rfl rfl dn) ?_
  refine dS (fun _ k_ => p_cut sc31 h9 (Asr.stays (S7.atP (i := 0) rfl) k_) rfl rfl rfl dn) ?_
  refine dS (fun _ k_ => p_cvD (tally_sum_ok h11 (rd_cut h9 (Asr.stays (S7.atP (i := 0) rfl) k_))) fu93 rfl) ?_
  refine dS (fun _ k_ => p_ixc ar117 rfl rfl (by decide) (by decide) dn) ?_
  refine dS (fun _ k_ => p_ld ty116 (Asr.stays (S7.atP (i := 1) rfl) k_) rfl rfl dn) ?_
  refine dS (fun _ k_ => p_ldA ty93 sz93 (Asr.stays (S7.atX (i := 0) rfl) k_) rfl rfl dn) ?_
  refine dS (fun _ k_ => p_cvD (tally_count_least_ok h13) fu117 rfl) ?_
  refine dS (fun _ k_ => p_ixc ar117 rfl rfl (by decide) (by decide) dn) ?_
  refine dS (fun _ k_ => p_ld ty116 (Asr.stays (S7.atP (i := 1) rfl) k_) rfl rfl dn) ?_
  refine dS (fun _ k_ => p_ldA ty93 sz93 (Asr.stays (S7.atX (i := 0) rfl) k_) rfl rfl dn) ?_
  refine dS (fun _ k_ => p_cvD (tally_count_most_ok h15) fu119 rfl) ?_
  refine dS (fun _ k_ => p_cvD (tally_within_ok h17) fu69 rfl) ?_
  refine dS (fun _ k_ => p_aB rfl dn) ?_
  intro w18 k19; have S20 := S7.call k19
  refine wp_nil ?_
  obtain rfl := Option.some.inj H
  refine c_ret ?_; show bodyPostM (Fr none) 0 Tryd.prog Tryd.f70 _ .ret _ _
  refine ret_of (res1 rfl (rvT (rfl : _ = B r16))) ?_
  exact ⟨_, rfl, rfl, S20.keep⟩

def tally_Can_l2 (a0 : TallyBook) (a1 : List Int) (rec_z_2 : Int → Option (Bool × Int)) (z_2 : Int) : Option (Bool × Int) :=
  bif decide (z_2 < (a0.Counts.length : Int)) then ((getI a0.Counts z_2).bind fun r34 =>
  (tally_count_right r34 a1).bind fun r36 =>
  bif !r36 then (some (false, 0))
  else (rec_z_2 (wr (z_2 + 1))))
  else (some (true, 0))

def tally_Can_l3 (a1 : List Int) (a0 : TallyBook) (rec_z_1 : Int → Option (Bool × Int)) (z_1 : Int) : Option (Bool × Int) :=
  bif decide (z_1 < (a1.length : Int)) then ((getI a1 z_1).bind fun r22 =>
  (tally_within r22 0 a0.Room).bind fun r24 =>
  bif !r24 then (some (false, 0))
  else (rec_z_1 (wr (z_1 + 1))))
  else (loopF (tally_Can_l2 a0 a1) big 0)

def tally_Can (a0 : TallyBook) (a1 : List Int) : Option (Bool × Int) :=
  (tally_Check a0).bind fun r11 =>
  bif (r11 != 0) then (some (false, r11))
  else (bif ((a1.length : Int) != a0.Trips) then (some (false, 51))
  else (loopF (tally_Can_l3 a1 a0) big 0))

set_option maxRecDepth 100000 in
theorem tally_Can_ok {a0 : TallyBook} {a1 : List Int} {A1 : Option Addr} {c2 : Nat} {A4 : Option Addr} {c5 : Nat} {w : World} {r : Bool × Int} (H : tally_Can a0 a1 = some r) (h3 : (rd eTallyCount 7 A1 c2 a0.Counts).ok w) (h6 : (rd intE 1 A4 c5 a1).ok w) (hg7 : (bl 0 [Value.func (.func 117) #[] #[], Value.func (.func 119) #[] #[]] 117).ok w) : Calls Tryd.prog 29 #[AG [I a0.Trips, I a0.Room, SL A1 a0.Counts.length c2], SL A4 a1.length c5] w (RetV w (TU [B r.1, I r.2])) := by
  unfold tally_Can at H
  refine fn_of (n := 50) Tryd.func29 rfl rfl (Nat.le_of_ble_eq_true rfl) ?_
  have S : St w (fun _ => False) w [] [rd eTallyCount 7 A1 c2 a0.Counts, rd intE 1 A4 c5 a1, bl 0 [Value.func (.func 117) #[] #[], Value.func (.func 119) #[] #[]] 117] := St.start w _ _ (List.forall_mem_cons.2 ⟨h3, (List.forall_mem_cons.2 ⟨h6, (List.forall_mem_cons.2 ⟨hg7, (fun _ h_ => (List.not_mem_nil h_).elim)⟩)⟩)⟩)
  refine c_seq ?_
  refine reg ?_
  refine p_boxA rfl S fun b8 w9 S10 => ?_
  refine p_aB rfl ?_
  refine p_aI rfl ?_
  refine wp_nil ?_
  refine c_seq ?_
  refine c_seq ?_
  refine reg ?_
  refine p_ldA ty24 sz24 (S10.atX (i := 0) rfl) rfl rfl ?_
  obtain ⟨r11, h12, H⟩ := bindS H
  refine p_cv (tally_Check_ok h12 (S10.atP (i := 0) rfl)) fu53 rfl S10 fun w13 S14 => ?_
  refine p_aI rfl ?_
  refine wp_nil ?_
  refine c_seq ?_
  refine reg ?_
  refine p_mI rfl ?_
  refine p_cmp rfl rfl rfl ?_
  refine wp_nil ?_
  refine c_cond rfl (fun c15 => ?_) (fun c15 => ?_)
  · replace H := condT c15 H
    refine c_seq ?_
    refine reg ?_
    refine p_mI rfl ?_
    refine p_aB rfl ?_
    refine p_aI rfl ?_
    refine wp_nil ?_
    obtain rfl := Option.some.inj H
    refine c_ret ?_; show bodyPostM (Fr none) 0 Tryd.prog Tryd.f29 _ .ret _ _
    refine ret_of (res2 rfl (rvT (rfl : _ = B false)) (rvT (rfl : _ = I r11))) ?_
    exact ⟨_, rfl, rfl, S14.keep⟩
  · replace H := condF c15 H
    refine c_skip ?_
    refine c_seq ?_
    refine c_seq ?_
    refine reg ?_
    refine p_mS rfl ?_
    refine p_len rfl sc31 ?_
    refine p_fld fl24_0 rfl ?_
    refine p_ld ty3 (S14.atX (i := 0) rfl) rfl rfl ?_
    refine p_cmp rfl rfl rfl ?_
    refine wp_nil ?_
    refine c_cond rfl (fun c16 => ?_) (fun c16 => ?_)
    · replace H := condT c16 H
      refine c_seq ?_
      refine reg ?_
      refine p_aB rfl ?_
      refine p_aI rfl ?_
      refine wp_nil ?_
      obtain rfl := Option.some.inj H
      refine c_ret ?_; show bodyPostM (Fr none) 0 Tryd.prog Tryd.f29 _ .ret _ _
      refine ret_of (res2 rfl (rvT (rfl : _ = B false)) (rvT (rfl : _ = I 51))) ?_
      exact ⟨_, rfl, rfl, S14.keep⟩
    · replace H := condF c16 H
      refine c_skip ?_
      refine c_seq ?_
      refine c_seq ?_
      refine reg ?_
      refine p_mS rfl ?_
      refine p_len rfl sc31 ?_
      refine p_mI rfl ?_
      refine wp_nil ?_
      refine c_block ?_
      refine c_lop (α := Int) (β := Unit) (tally_Can_l3 a1 a0) (fun z_1 y_1 => [(1, SL A4 a1.length c5), (2, P b8 0), (21, SL A4 a1.length c5), (22, I (a1.length : Int)), (23, I z_1)]) (fun z_1 y_1 w_ => St w (fun _ => False) w_ [bl b8 [I a0.Trips, I a0.Room, SL A1 a0.Counts.length c2] 24] [rd eTallyCount 7 A1 c2 a0.Counts, rd intE 1 A4 c5 a1, bl 0 [Value.func (.func 117) #[] #[], Value.func (.func 119) #[] #[]] 117]) 0 () H ⟨rfl, rfl, rfl, rfl, rfl, trivial⟩ S14 ?_
      intro m17 z_1 y_1 e18 w19 H S20
      unfold tally_Can_l3 at H
      refine c_seq ?_
      refine reg ?_
      refine p_cmp rfl rfl rfl ?_
      refine wp_nil ?_
      refine c_seq ?_
      refine c_cond rfl (fun c21 => ?_) (fun c21 => ?_)
      · replace H := condT c21 H
        refine c_skip ?_
        refine c_seq ?_
        refine c_block ?_
        refine c_seq ?_
        refine reg ?_
        obtain ⟨r22, h23, H⟩ := bindS H
        refine p_ixE sc31 h23 (S20.atP (i := 1) rfl).1 rfl rfl rfl ?_
        refine p_ldE ty3 h23 (S20.atP (i := 1) rfl).1 rfl rfl ?_
        refine p_aI rfl ?_
        refine wp_nil ?_
        refine c_seq ?_
        refine reg ?_
        refine p_mI rfl ?_
        refine p_fld fl24_1 rfl ?_
        refine p_ld ty3 (S20.atX (i := 0) rfl) rfl rfl ?_
        obtain ⟨r24, h25, H⟩ := bindS H
        refine p_cv (tally_within_ok h25) fu69 rfl S20 fun w26 S27 => ?_
        refine p_not rfl ?_
        refine wp_nil ?_
        refine c_cond rfl (fun c28 => ?_) (fun c28 => ?_)
        · replace H := condT c28 H
          refine c_seq ?_
          refine reg ?_
          refine p_aB rfl ?_
          refine p_aI rfl ?_
          refine wp_nil ?_
          obtain rfl := Option.some.inj H
          refine c_ret ?_; show bodyPostM (Fr none) 0 Tryd.prog Tryd.f29 _ .ret _ _
          refine ret_of (res2 rfl (rvT (rfl : _ = B false)) (rvT (rfl : _ = I 0))) ?_
          exact ⟨_, rfl, rfl, S27.keep⟩
        · replace H := condF c28 H
          refine c_skip ?_
          refine reg ?_
          refine p_add rfl rfl ?_
          refine p_mI rfl ?_
          refine wp_nil ?_
          exact ⟨wr (z_1 + 1), (), _, rfl, ⟨rfl, rfl, rfl, rfl, rfl, trivial⟩, H, S27⟩
      · replace H := condF c21 H
        refine c_exit ?_
        refine c_seq ?_
        refine c_seq ?_
        refine reg ?_
        refine p_fld fl24_2 rfl ?_
        refine p_ld ty22 (S20.atX (i := 0) rfl) rfl rfl ?_
        refine p_len rfl sc22 ?_
        refine p_mI rfl ?_
        refine wp_nil ?_
        refine c_block ?_
        refine c_lop (α := Int) (β := Unit) (tally_Can_l2 a0 a1) (fun z_2 y_2 => [(1, SL A4 a1.length c5), (2, P b8 0), (35, I (a0.Counts.length : Int)), (36, I z_2)]) (fun z_2 y_2 w_ => St w (fun _ => False) w_ [bl b8 [I a0.Trips, I a0.Room, SL A1 a0.Counts.length c2] 24] [rd eTallyCount 7 A1 c2 a0.Counts, rd intE 1 A4 c5 a1, bl 0 [Value.func (.func 117) #[] #[], Value.func (.func 119) #[] #[]] 117]) 0 () H ⟨rfl, rfl, rfl, rfl, trivial⟩ S20 ?_
        intro m29 z_2 y_2 e30 w31 H S32
        unfold tally_Can_l2 at H
        refine c_seq ?_
        refine reg ?_
        refine p_cmp rfl rfl rfl ?_
        refine wp_nil ?_
        refine c_seq ?_
        refine c_cond rfl (fun c33 => ?_) (fun c33 => ?_)
        · replace H := condT c33 H
          refine c_skip ?_
          refine c_seq ?_
          refine c_block ?_
          refine c_seq ?_
          refine reg ?_
          refine p_mI rfl ?_
          refine p_aI rfl ?_
          refine wp_nil ?_
          refine c_seq ?_
          refine reg ?_
          refine p_fld fl24_2 rfl ?_
          refine p_ld ty22 (S32.atX (i := 0) rfl) rfl rfl ?_
          refine p_mI rfl ?_
          obtain ⟨r34, h35, H⟩ := bindS H
          refine p_ixE sc22 h35 (S32.atP (i := 0) rfl).1 rfl rfl rfl ?_
          refine p_ldEA ty33 sz33 rfl h35 (S32.atP (i := 0) rfl).1 rfl ?_
          refine o_fun (rfl : _ = [AG [I r34.Who, I r34.From, I r34.To, I r34.Told, I r34.Unit, I r34.Under, I r34.Over]]) (rfl : _ = []) ?_
          refine p_asg (rfl : _ = Value.func (.func 70) #[AG [I r34.Who, I r34.From, I r34.To, I r34.Told, I r34.Unit, I r34.Under, I r34.Over]] #[]) ?_
          refine wp_nil ?_
          refine c_seq ?_
          refine reg ?_
          refine p_mov (rfl : _ = Value.func (.func 70) #[AG [I r34.Who, I r34.From, I r34.To, I r34.Told, I r34.Unit, I r34.Under, I r34.Over]] #[]) ?_
          refine p_mS rfl ?_
          obtain ⟨r36, h37, H⟩ := bindS H
          refine p_cv (tally_count_right_ok h37 (S32.atP (i := 1) rfl) (S32.atP (i := 2) rfl)) fu70 rfl S32 fun w38 S39 => ?_
          refine p_not rfl ?_
          refine wp_nil ?_
          refine c_cond rfl (fun c40 => ?_) (fun c40 => ?_)
          · replace H := condT c40 H
            refine c_seq ?_
            refine reg ?_
            refine p_aB rfl ?_
            refine p_aI rfl ?_
            refine wp_nil ?_
            obtain rfl := Option.some.inj H
            refine c_ret ?_; show bodyPostM (Fr none) 0 Tryd.prog Tryd.f29 _ .ret _ _
            refine ret_of (res2 rfl (rvT (rfl : _ = B false)) (rvT (rfl : _ = I 0))) ?_
            exact ⟨_, rfl, rfl, S39.keep⟩
          · replace H := condF c40 H
            refine c_skip ?_
            refine reg ?_
            refine p_add rfl rfl ?_
            refine p_mI rfl ?_
            refine wp_nil ?_
            exact ⟨wr (z_2 + 1), (), _, rfl, ⟨rfl, rfl, rfl, rfl, trivial⟩, H, S39⟩
        · replace H := condF c33 H
          refine c_exit ?_
          refine c_seq ?_
          refine reg ?_
          refine p_aB rfl ?_
          refine p_aI rfl ?_
          refine wp_nil ?_
          obtain rfl := Option.some.inj H
          refine c_ret ?_; show bodyPostM (Fr none) 0 Tryd.prog Tryd.f29 _ .ret _ _
          refine ret_of (res2 rfl (rvT (rfl : _ = B true)) (rvT (rfl : _ = I 0))) ?_
          exact ⟨_, rfl, rfl, S32.keep⟩

def sl_Index_int_int_l1 (a0 : List Int) (a1 : Int) (rec_z_1 : Int → Option Int) (z_1 : Int) : Option Int :=
  bif decide (z_1 < (a0.length : Int)) then ((getI a0 z_1).bind fun r9 =>
  bif (a1 == r9) then (some z_1)
  else (rec_z_1 (wr (z_1 + 1))))
  else (some (-1))

def sl_Index_int_int (a0 : List Int) (a1 : Int) : Option Int :=
  loopF (sl_Index_int_int_l1 a0 a1) big 0

set_option maxRecDepth 100000 in
theorem sl_Index_int_int_ok {a0 : List Int} {a1 : Int} {A1 : Option Addr} {c2 : Nat} {w : World} {r : Int} (H : sl_Index_int_int a0 a1 = some r) (h3 : (rd intE 1 A1 c2 a0).ok w) : Calls Tryd.prog 100 #[SL A1 a0.length c2, I a1] w (RetV w (I r)) := by
  unfold sl_Index_int_int at H
  refine fn_of (n := 19) Tryd.func100 rfl rfl (Nat.le_of_ble_eq_true rfl) ?_
  have S : St w (fun _ => False) w [] [rd intE 1 A1 c2 a0] := St.start w _ _ (List.forall_mem_cons.2 ⟨h3, (fun _ h_ => (List.not_mem_nil h_).elim)⟩)
  refine c_seq ?_
  refine reg ?_
  refine p_aI rfl ?_
  refine wp_nil ?_
  refine c_seq ?_
  refine c_seq ?_
  refine reg ?_
  refine p_mS rfl ?_
  refine p_len rfl sc31 ?_
  refine p_mI rfl ?_
  refine wp_nil ?_
  refine c_block ?_
  refine c_lop (α := Int) (β := Unit) (sl_Index_int_int_l1 a0 a1) (fun z_1 y_1 => [(0, SL A1 a0.length c2), (1, I a1), (7, I (a0.length : Int)), (8, I z_1)]) (fun z_1 y_1 w_ => St w (fun _ => False) w_ [] [rd intE 1 A1 c2 a0]) 0 () H ⟨rfl, rfl, rfl, rfl, trivial⟩ S ?_
  intro m4 z_1 y_1 e5 w6 H S7
  unfold sl_Index_int_int_l1 at H
  refine c_seq ?_
  refine reg ?_
  refine p_cmp rfl rfl rfl ?_
  refine wp_nil ?_
  refine c_seq ?_
  refine c_cond rfl (fun c8 => ?_) (fun c8 => ?_)
  · replace H := condT c8 H
    refine c_skip ?_
    refine c_seq ?_
    refine c_block ?_
    refine c_seq ?_
    refine reg ?_
    refine p_mI rfl ?_
    refine p_aI rfl ?_
    refine wp_nil ?_
    refine c_seq ?_
    refine reg ?_
    refine p_mI rfl ?_
    refine p_mS rfl ?_
    refine p_mI rfl ?_
    obtain ⟨r9, h10, H⟩ := bindS H
    refine p_ixE sc31 h10 (S7.atP (i := 0) rfl).1 rfl rfl rfl ?_
    refine p_ldE ty3 h10 (S7.atP (i := 0) rfl).1 rfl rfl ?_
    refine p_cmp rfl rfl rfl ?_
    refine wp_nil ?_
    refine c_cond rfl (fun c11 => ?_) (fun c11 => ?_)
    · replace H := condT c11 H
      refine c_seq ?_
      refine reg ?_
      refine p_mI rfl ?_
      refine p_aI rfl ?_
      refine wp_nil ?_
      obtain rfl := Option.some.inj H
      refine c_ret ?_; show bodyPostM (Fr none) 0 Tryd.prog Tryd.f100 _ .ret _ _
      refine ret_of (res1 rfl (rvT (rfl : _ = I z_1))) ?_
      exact ⟨_, rfl, rfl, S7.keep⟩
    · replace H := condF c11 H
      refine c_skip ?_
      refine reg ?_
      refine p_add rfl rfl ?_
      refine p_mI rfl ?_
      refine wp_nil ?_
      exact ⟨wr (z_1 + 1), (), _, rfl, ⟨rfl, rfl, rfl, rfl, trivial⟩, H, S7⟩
  · replace H := condF c8 H
    refine c_exit ?_
    refine c_seq ?_
    refine reg ?_
    refine p_aI rfl ?_
    refine wp_nil ?_
    obtain rfl := Option.some.inj H
    refine c_ret ?_; show bodyPostM (Fr none) 0 Tryd.prog Tryd.f100 _ .ret _ _
    refine ret_of (res1 rfl (rvT (rfl : _ = I (-1)))) ?_
    exact ⟨_, rfl, rfl, S7.keep⟩

def sl_Contains_int_int (a0 : List Int) (a1 : Int) : Option Bool :=
  (sl_Index_int_int a0 a1).bind fun r4 =>
  some (decide (r4 ≥ 0))

set_option maxRecDepth 100000 in
theorem sl_Contains_int_int_ok {a0 : List Int} {a1 : Int} {A1 : Option Addr} {c2 : Nat} {w : World} {r : Bool} (H : sl_Contains_int_int a0 a1 = some r) (h3 : (rd intE 1 A1 c2 a0).ok w) : Calls Tryd.prog 95 #[SL A1 a0.length c2, I a1] w (RetV w (B r)) := by
  unfold sl_Contains_int_int at H
  refine fn_of (n := 9) Tryd.func95 rfl rfl (Nat.le_of_ble_eq_true rfl) ?_
  have S : St w (fun _ => False) w [] [rd intE 1 A1 c2 a0] := St.start w _ _ (List.forall_mem_cons.2 ⟨h3, (fun _ h_ => (List.not_mem_nil h_).elim)⟩)
  refine c_seq ?_
  refine reg ?_
  refine p_aB rfl ?_
  refine wp_nil ?_
  refine c_seq ?_
  refine reg ?_
  refine p_mS rfl ?_
  refine p_mI rfl ?_
  obtain ⟨r4, h5, H⟩ := bindS H
  refine p_cv (sl_Index_int_int_ok h5 (S.atP (i := 0) rfl)) fu100 rfl S fun w6 S7 => ?_
  refine p_cmp rfl rfl rfl ?_
  refine p_aB rfl ?_
  refine wp_nil ?_
  obtain rfl := Option.some.inj H
  refine c_ret ?_; show bodyPostM (Fr none) 0 Tryd.prog Tryd.f95 _ .ret _ _
  refine ret_of (res1 rfl (rvT (rfl : _ = B (decide (r4 ≥ 0))))) ?_
  exact ⟨_, rfl, rfl, S7.keep⟩

def tally_some_1 (a0 : TallyCount) (a1 : Int) (q0 : List Int) : Option Bool :=
  (sl_Contains_int_int q0 a1).bind fun r9 =>
  some r9

set_option maxRecDepth 100000 in
theorem tally_some_1_ok {a0 : TallyCount} {a1 : Int} {q0 : List Int} {b1 : Nat} {A2 : Option Addr} {c3 : Nat} {w : World} {r : Bool} (H : tally_some_1 a0 a1 q0 = some r) (h5 : (bl b1 [SL A2 q0.length c3] 31).ok w) (h4 : (rd intE 1 A2 c3 q0).ok w) : Calls Tryd.prog 94 #[AG [I a0.Who, I a0.From, I a0.To, I a0.Told, I a0.Unit, I a0.Under, I a0.Over], I a1, P b1 0] w (RetV w (B r)) := by
  unfold tally_some_1 at H
  refine fn_of (n := 9) Tryd.func94 rfl rfl (Nat.le_of_ble_eq_true rfl) ?_
  have S : St w (fun _ => False) w [] [bl b1 [SL A2 q0.length c3] 31, rd intE 1 A2 c3 q0] := St.start w _ _ (List.forall_mem_cons.2 ⟨h5, (List.forall_mem_cons.2 ⟨h4, (fun _ h_ => (List.not_mem_nil h_).elim)⟩)⟩)
  refine c_seq ?_
  refine reg ?_
  refine p_boxA rfl S fun b6 w7 S8 => ?_
  refine p_aB rfl ?_
  refine wp_nil ?_
  refine c_seq ?_
  refine reg ?_
  refine p_ld ty31 (S8.atP (i := 0) rfl) rfl rfl ?_
  refine p_mI rfl ?_
  obtain ⟨r9, h10, H⟩ := bindS H
  refine p_cv (sl_Contains_int_int_ok h10 (S8.atP (i := 1) rfl)) fu95 rfl S8 fun w11 S12 => ?_
  refine p_aB rfl ?_
  refine wp_nil ?_
  obtain rfl := Option.some.inj H
  refine c_ret ?_; show bodyPostM (Fr none) 0 Tryd.prog Tryd.f94 _ .ret _ _
  refine ret_of (res1 rfl (rvT (rfl : _ = B r9))) ?_
  exact ⟨_, rfl, rfl, S12.keep⟩

def tally_some (a0 : List Int) : Option Unit :=
  some ()

set_option maxRecDepth 100000 in
theorem tally_some_ok {a0 : List Int} {A1 : Option Addr} {c2 : Nat} {w : World} {r : Unit} (H : tally_some a0 = some r) (h3 : (rd intE 1 A1 c2 a0).ok w) : Calls Tryd.prog 72 #[SL A1 a0.length c2] w fun en w_ => ∃ u_, en = .returned u_ ∧ ∃ b_1 : Nat, u_ = AG [Value.func (.func 94) #[] #[P b_1 0]] ∧ Keep0 w w_ ∧ ((bl b_1 [SL A1 a0.length c2] 31).ok w_ ∧ New w.heap.size (bl b_1 [SL A1 a0.length c2] 31)) ∧ True := by
  unfold tally_some at H
  refine fn_of (n := 5) Tryd.func72 rfl rfl (Nat.le_of_ble_eq_true rfl) ?_
  have S : St w (fun _ => False) w [] [rd intE 1 A1 c2 a0] := St.start w _ _ (List.forall_mem_cons.2 ⟨h3, (fun _ h_ => (List.not_mem_nil h_).elim)⟩)
  refine c_seq ?_
  refine reg ?_
  refine p_box (rfl : _ = SL A1 a0.length c2) rfl S fun b4 w5 S6 => ?_
  refine p_allA in90 S6 fun b7 w8 S9 => ?_
  refine wp_nil ?_
  refine c_seq ?_
  refine reg ?_
  refine o_fun (rfl : _ = []) (rfl : _ = [P b4 0]) ?_
  refine p_bld (cs := [Value.func (.func 94) #[] #[P b4 0]]) st90 (rfl : _ = [(0, Value.func (.func 94) #[] #[P b4 0])]) (by kernel_rfl) ?_
  refine p_stP (pre := []) (old := [Value.nilFunc]) (post := []) (vs := [Value.func (.func 94) #[] #[P b4 0]]) sz90 S9 (i := 0) rfl rfl rfl rfl (rfl : _ = AG [Value.func (.func 94) #[] #[P b4 0]]) rfl rfl rfl rfl fun w10 S11 => ?_
  refine wp_nil ?_
  obtain rfl := Option.some.inj H
  refine c_ret ?_; show bodyPostM (Fr none) 0 Tryd.prog Tryd.f72 _ .ret _ _
  refine ret_of (res1 rfl (rvA rfl ty90 sz90 (S11.atX (i := 0) rfl) rfl)) ?_
  exact ⟨_, rfl, b4, rfl, S11.keep, ⟨S11.atX (i := 1) rfl, S11.newX (i := 1) rfl⟩, trivial⟩

def tally_Wrong_1_l3 (q0 : TallyBook) (a0 : List Int) (rec_ : (List Int) → Int → Option ((List Int) × Bool)) (a1 : Int) (rec_z_2 : Int → Option ((List Int) × Bool)) (z_2 : Int) : Option ((List Int) × Bool) :=
  bif decide (z_2 < (q0.Counts.length : Int)) then (need (fitsL (a0.length + ([z_2] : List Int).length) 8) <|
  (rec_ (a0 ++ ([z_2] : List Int)) a1).bind fun r83 =>
  bif r83.2 then (some (r83.1, true))
  else (rec_z_2 (wr (z_2 + 1))))
  else (some (([] : List _), false))

def tally_Wrong_1_j4 (q0 : TallyBook) (a0 : List Int) (rec_ : (List Int) → Int → Option ((List Int) × Bool)) (a1 : Int) (z_1 : Int) : Option ((List Int) × Bool) :=
  loopF (tally_Wrong_1_l3 q0 a0 rec_ a1) big z_1

def tally_Wrong_1_F (rec_ : (List Int) → Int → Option ((List Int) × Bool)) (a0 : List Int) (a1 : Int) (q0 : TallyBook) : Option ((List Int) × Bool) :=
  bif ((a0.length : Int) == a1) then ((tally_some a0).bind fun r17 =>
  (tally_opened q0 (Tally_leave.mk (fun y28 y29 => tally_some_1 y28 y29 a0))).bind fun r30 =>
  (tally_book_can (Tally_book.mk (TallyBook.mk r30.TallyBook.Trips r30.TallyBook.Room q0.Counts) r30.more_)).bind fun r41 =>
  some (a0, r41))
  else (bif decide ((a0.length : Int) > 0) then ((getI a0 (wr ((a0.length : Int) - 1))).bind fun r52 =>
  tally_Wrong_1_j4 q0 a0 rec_ a1 (wr (r52 + 1)))
  else (tally_Wrong_1_j4 q0 a0 rec_ a1 0))

def tally_Wrong_1 : Nat → (List Int) → Int → TallyBook → Option ((List Int) × Bool)
  | 0, _, _, _ => none
  | n + 1, a0, a1, q0 => tally_Wrong_1_F (fun x0_ x1_ => tally_Wrong_1 n x0_ x1_ q0) a0 a1 q0

set_option maxRecDepth 100000 in
theorem tally_Wrong_1_ok {n : Nat} : ∀ {a0 : List Int} {a1 : Int} {q0 : TallyBook} {A1 : Option Addr} {c2 : Nat} {b4 : Nat} {A6 : Option Addr} {c7 : Nat} {b5 : Nat} {w : World} {r : (List Int) × Bool} (H : tally_Wrong_1 n a0 a1 q0 = some r) (h10 : (bl b5 [Value.func (.func 71) #[] #[P b4 0, P b5 0]] 94).ok w) (h9 : (bl b4 [I q0.Trips, I q0.Room, SL A6 q0.Counts.length c7] 24).ok w) (h3 : (rd intE 1 A1 c2 a0).ok w) (h8 : (rd eTallyCount 7 A6 c7 q0.Counts).ok w) (hg11 : (bl 0 [Value.func (.func 117) #[] #[], Value.func (.func 119) #[] #[]] 117).ok w) (hg12 : (bl 1 [I (-1), I (-1)] 115).ok w), Calls Tryd.prog 71 #[SL A1 a0.length c2, I a1, P b4 0, P b5 0] w fun en w_ => ∃ u_, en = .returned u_ ∧ ∃ A_1 : Option Addr, ∃ c_2 : Nat, u_ = TU [SL A_1 r.1.length c_2, B r.2] ∧ Keep0 w w_ ∧ ((rd intE 1 A_1 c_2 r.1).ok w_ ∧ Al w [rd intE 1 A1 c2 a0, rd eTallyCount 7 A6 c7 q0.Counts] (rd intE 1 A_1 c_2 r.1)) ∧ True := by
  induction n with
  | zero => intro a0 a1 q0 A1 c2 b4 A6 c7 b5 w r H h10 h9 h3 h8 hg11 hg12; cases H
  | succ n ih =>
  intro a0 a1 q0 A1 c2 b4 A6 c7 b5 w r H h10 h9 h3 h8 hg11 hg12
  unfold tally_Wrong_1 tally_Wrong_1_F at H
  refine fn_of (n := 55) Tryd.func71 rfl rfl (Nat.le_of_ble_eq_true rfl) ?_
  have S : St w (fun _ => False) w [] [bl b5 [Value.func (.func 71) #[] #[P b4 0, P b5 0]] 94, bl b4 [I q0.Trips, I q0.Room, SL A6 q0.Counts.length c7] 24, rd intE 1 A1 c2 a0, rd eTallyCount 7 A6 c7 q0.Counts, bl 0 [Value.func (.func 117) #[] #[], Value.func (.func 119) #[] #[]] 117, bl 1 [I (-1), I (-1)] 115] := St.start w _ _ (List.forall_mem_cons.2 ⟨h10, (List.forall_mem_cons.2 ⟨h9, (List.forall_mem_cons.2 ⟨h3, (List.forall_mem_cons.2 ⟨h8, (List.forall_mem_cons.2 ⟨hg11, (List.forall_mem_cons.2 ⟨hg12, (fun _ h_ => (List.not_mem_nil h_).elim)⟩)⟩)⟩)⟩)⟩)⟩)
  refine c_seq ?_
  refine reg ?_
  refine p_aS rfl ?_
  refine p_aB rfl ?_
  refine wp_nil ?_
  refine c_seq ?_
  refine reg ?_
  refine p_mS rfl ?_
  refine p_len rfl sc31 ?_
  refine p_aI rfl ?_
  refine wp_nil ?_
  refine c_seq ?_
  refine c_seq ?_
  refine reg ?_
  refine p_mI rfl ?_
  refine p_mI rfl ?_
  refine p_cmp rfl rfl rfl ?_
  refine wp_nil ?_
  refine c_cond rfl (fun c13 => ?_) (fun c13 => ?_)
  · replace H := condT c13 H
    refine c_seq ?_
    refine reg_c mixed 8 [3, 4, 5, 7] (by kernel_rfl) ?_
    refine kS rfl (fun _ k_ => p_mS rfl dn) ?_
    refine kS rfl (fun _ k_ => p_ldA ty24 sz24 (Asr.stays (S.atP (i := 1) rfl) k_) rfl rfl dn) ?_
    refine kS rfl (fun _ k_ => p_mS rfl dn) ?_
    refine kC rfl ?_
    refine kC rfl ?_
    refine kC rfl ?_
    refine kS rfl (fun _ k_ => p_aS rfl dn) ?_
    refine kC rfl ?_
    intro w14 k15; have S16 := S.call k15
    obtain ⟨r17, h18, H⟩ := bindS H
    refine p_cal (tally_some_ok h18 (S16.atP (i := 2) rfl)) fu72 rfl ?_
    rintro _ w19 ⟨b21, rfl, k20, ⟨o22, n23⟩, _⟩
    have S24 := S16.addNew k20 o22 n23
    refine cN k20 fun w25 k26 => ?_
    have S27 := S24.call k26
    obtain ⟨r30, h31, H⟩ := bindS H
    refine p_cal (tally_opened_ok h31 (S27.atP (i := 3) rfl) (by kernel_rfl) (fun _ _ _ _ k_ hr_ => tally_some_1_ok hr_ (Asr.stays (S27.atX (i := 0) rfl) k_) (Asr.stays (S27.atP (i := 2) rfl) k_)) (S27.atP (i := 4) rfl)) fu66 rfl ?_
    rintro _ w32 ⟨m34, rfl, k33, ⟨o35, n36⟩, _⟩
    have S37 := S27.addNew k33 o35 n36
    refine cN k33 fun w38 k39 => ?_
    have S40 := S37.call k39
    obtain ⟨r41, h42, H⟩ := bindS H
    refine p_cal (tally_book_can_ok h42 (S40.atP (i := 3) rfl) (mpo_some (S40.atX (i := 0) rfl)) (S40.atP (i := 5) rfl)) fu68 rfl ?_
    rintro _ w43 ⟨rfl, k44⟩; refine cN k44 fun w45 k46 => ?_
    have S47 := (S40.call k44).call k46
    refine p_aB rfl (cN (Keep.refl _ _) fun w48 k49 => ?_)
    have S50 := S47.call k49
    refine wp_nil ?_
    obtain rfl := Option.some.inj H
    refine c_ret ?_; show bodyPostM (Fr none) 0 Tryd.prog Tryd.f71 _ .ret _ _
    refine ret_of (res2 rfl (rvT (rfl : _ = SL A1 a0.length c2)) (rvT (rfl : _ = B r41))) ?_
    exact ⟨_, rfl, A1, c2, rfl, S50.keep, ⟨(S50.atP (i := 2) rfl), Al.self (i := 0) rfl⟩, trivial⟩
  · replace H := condF c13 H
    refine c_skip ?_
    refine c_seq ?_
    refine reg ?_
    refine p_aI rfl ?_
    refine wp_nil ?_
    refine c_join (α := Int) (β := Unit) (fun z_1 y_1 => [(0, SL A1 a0.length c2), (1, I a1), (2, P b4 0), (3, P b5 0), (8, I (a0.length : Int)), (9, I z_1)]) (fun z_1 y_1 w_ => tally_Wrong_1_j4 q0 a0 (fun x0_ x1_ => tally_Wrong_1 n x0_ x1_ q0) a1 z_1 = some r ∧ St w (fun _ => False) w_ [] [bl b5 [Value.func (.func 71) #[] #[P b4 0, P b5 0]] 94, bl b4 [I q0.Trips, I q0.Room, SL A6 q0.Counts.length c7] 24, rd intE 1 A1 c2 a0, rd eTallyCount 7 A6 c7 q0.Counts, bl 0 [Value.func (.func 117) #[] #[], Value.func (.func 119) #[] #[]] 117, bl 1 [I (-1), I (-1)] 115]) ?_ ?_
    · refine c_seq ?_
      refine reg ?_
      refine p_mI rfl ?_
      refine p_cmp rfl rfl rfl ?_
      refine wp_nil ?_
      refine c_cond rfl (fun c51 => ?_) (fun c51 => ?_)
      · replace H := condT c51 H
        refine reg ?_
        refine p_mS rfl ?_
        refine p_mI rfl ?_
        refine p_sub rfl rfl ?_
        obtain ⟨r52, h53, H⟩ := bindS H
        refine p_ixE sc31 h53 (S.atP (i := 2) rfl).1 rfl rfl rfl ?_
        refine p_ldE ty3 h53 (S.atP (i := 2) rfl).1 rfl rfl ?_
        refine p_add rfl rfl ?_
        refine p_aI rfl ?_
        refine wp_nil ?_
        exact ⟨wr (r52 + 1), (), _, rfl, ⟨rfl, rfl, rfl, rfl, rfl, rfl, trivial⟩, H, S⟩
      · replace H := condF c51 H
        refine c_skip ?_
        exact ⟨0, (), _, rfl, ⟨rfl, rfl, rfl, rfl, rfl, rfl, trivial⟩, H, S⟩
    · intro z_1 y_1 e51 w52 S53; obtain ⟨H, S53⟩ := S53
      unfold tally_Wrong_1_j4 at H
      refine c_seq ?_
      refine c_seq ?_
      refine reg ?_
      refine p_mI rfl ?_
      refine p_aI rfl ?_
      refine wp_nil ?_
      refine c_block ?_
      refine c_lop (α := Int) (β := Unit) (tally_Wrong_1_l3 q0 a0 (fun x0_ x1_ => tally_Wrong_1 n x0_ x1_ q0) a1) (fun z_2 y_2 => [(0, SL A1 a0.length c2), (1, I a1), (2, P b4 0), (3, P b5 0), (8, I (a0.length : Int)), (10, I z_2)]) (fun z_2 y_2 w_ => St w (fun _ => False) w_ [] [bl b5 [Value.func (.func 71) #[] #[P b4 0, P b5 0]] 94, bl b4 [I q0.Trips, I q0.Room, SL A6 q0.Counts.length c7] 24, rd intE 1 A1 c2 a0, rd eTallyCount 7 A6 c7 q0.Counts, bl 0 [Value.func (.func 117) #[] #[], Value.func (.func 119) #[] #[]] 117, bl 1 [I (-1), I (-1)] 115]) z_1 () H ⟨rfl, rfl, rfl, rfl, rfl, rfl, trivial⟩ S53 ?_
      intro m54 z_2 y_2 e55 w56 H S57
      unfold tally_Wrong_1_l3 at H
      refine c_seq ?_
      refine c_seq ?_
      refine reg ?_
      refine p_mI rfl ?_
      refine p_fld fl24_2 rfl ?_
      refine p_ld ty22 (S57.atP (i := 1) rfl) rfl rfl ?_
      refine p_len rfl sc22 ?_
      refine p_cmp rfl rfl rfl ?_
      refine wp_nil ?_
      refine c_cond rfl (fun c58 => ?_) (fun c58 => ?_)
      · replace H := condT c58 H
        refine c_skip ?_
        refine c_seq ?_
        refine c_block ?_
        refine c_seq ?_
        obtain ⟨h76, H⟩ := needS H
        obtain ⟨r83, h84, H⟩ := bindS H
        refine reg_any mixed 15 (by kernel_rfl) [rv (Value.func (.func 71) #[] #[P b4 0, P b5 0]), rv (SL A1 a0.length c2), rv (I (a0.length : Int)), rv (I (a0.length : Int)), rv (SL A1 a0.length a0.length), rv (I z_2), rx (α := (Option Addr) × Nat) (fun ⟨A63, c64⟩ => SL A63 ([z_2] : List Int).length c64) (fun ⟨A63, c64⟩ lo hi => BtwL lo hi [] (gr intE 1 3 A63 c64 ([z_2] : List Int)) ∧ True) (fun ⟨A63, c64⟩ => [gr intE 1 3 A63 c64 ([z_2] : List Int)]), rx (α := (Option Addr) × Nat) (fun ⟨A74, c75⟩ => SL A74 (a0 ++ ([z_2] : List Int)).length c75) (fun ⟨A74, c75⟩ lo hi => BtwL lo hi [] (gr intE 1 3 A74 c75 (a0 ++ ([z_2] : List Int))) ∧ True) (fun ⟨A74, c75⟩ => [gr intE 1 3 A74 c75 (a0 ++ ([z_2] : List Int))]), rv (I a1), rxd 48 (α := (Option Addr) × Nat) (fun ⟨A87, c88⟩ => TU [SL A87 r83.1.length c88, B r83.2]) (fun ⟨A87, c88⟩ lo hi ev => BtwV lo hi [rd eTallyCount 7 A6 c7 q0.Counts] ev (rd intE 1 A87 c88 r83.1) ∧ True) (fun ⟨A87, c88⟩ => [rd intE 1 A87 c88 r83.1]), dv 50 some, dv 40 (exG 0), dv 40 (exG 1), dv 51 some, rv (B r83.2)] [[], [], [], [], [], [], [], [], [], [48], [50], [40], [40], [51], []] rfl (by kernel_rfl) [[], [], [], [], [1, 2, 3], [], [5], [1, 2, 3, 4, 5, 6], [], [0, 1, 2, 3, 4, 5, 6, 7, 8], [0, 1, 2, 3, 4, 5, 6, 7, 8, 9], [0, 1, 2, 3, 4, 5, 6, 7, 8, 9, 10], [0, 1, 2, 3, 4, 5, 6, 7, 8, 9, 10], [0, 1, 2, 3, 4, 5, 6, 7, 8, 9, 10, 11], [0, 1, 2, 3, 4, 5, 6, 7, 8, 9, 10, 11, 12, 13]] (by kernel_rfl) ⟨?_, ?_, ?_, ?_, ?_, ?_, ?_, ?_, ?_, ?_, ?_, ?_, ?_, ?_, ?_, trivial⟩ ?_
        · intro e_ w_ k_ hf_ hR_
          have S_ : St w_ (fun _ => False) w_ [] [bl b5 [Value.func (.func 71) #[] #[P b4 0, P b5 0]] 94, bl b4 [I q0.Trips, I q0.Room, SL A6 q0.Counts.length c7] 24, rd intE 1 A1 c2 a0, rd eTallyCount 7 A6 c7 q0.Counts, bl 0 [Value.func (.func 117) #[] #[], Value.func (.func 119) #[] #[]] 117, bl 1 [I (-1), I (-1)] 115] := S57.asP k_
          refine hopE [(3, P b5 0)] ⟨((hf_ 3 rfl).trans (rfl : _ = P b5 0)), trivial⟩ ?_
          refine p_ld ty94 (S_.atP (i := 0) rfl) rfl rfl ?_
          refine wp_nil ?_
          exact ⟨_, rfl, S_.keep, rfl⟩
        · intro e_ w_ k_ hf_ hR_
          have S_ : St w_ (fun _ => False) w_ [] [bl b5 [Value.func (.func 71) #[] #[P b4 0, P b5 0]] 94, bl b4 [I q0.Trips, I q0.Room, SL A6 q0.Counts.length c7] 24, rd intE 1 A1 c2 a0, rd eTallyCount 7 A6 c7 q0.Counts, bl 0 [Value.func (.func 117) #[] #[], Value.func (.func 119) #[] #[]] 117, bl 1 [I (-1), I (-1)] 115] := S57.asP k_
          refine hopE [(0, SL A1 a0.length c2)] ⟨((hf_ 0 rfl).trans (rfl : _ = SL A1 a0.length c2)), trivial⟩ ?_
          refine p_mS rfl ?_
          refine wp_nil ?_
          exact ⟨_, rfl, S_.keep, rfl⟩
        · intro e_ w_ k_ hf_ hR_
          have S_ : St w_ (fun _ => False) w_ [] [bl b5 [Value.func (.func 71) #[] #[P b4 0, P b5 0]] 94, bl b4 [I q0.Trips, I q0.Room, SL A6 q0.Counts.length c7] 24, rd intE 1 A1 c2 a0, rd eTallyCount 7 A6 c7 q0.Counts, bl 0 [Value.func (.func 117) #[] #[], Value.func (.func 119) #[] #[]] 117, bl 1 [I (-1), I (-1)] 115] := S57.asP k_
          refine hopE [(8, I (a0.length : Int))] ⟨((hf_ 8 rfl).trans (rfl : _ = I (a0.length : Int))), trivial⟩ ?_
          refine p_mI rfl ?_
          refine wp_nil ?_
          exact ⟨_, rfl, S_.keep, rfl⟩
        · intro e_ w_ k_ hf_ hR_
          have S_ : St w_ (fun _ => False) w_ [] [bl b5 [Value.func (.func 71) #[] #[P b4 0, P b5 0]] 94, bl b4 [I q0.Trips, I q0.Room, SL A6 q0.Counts.length c7] 24, rd intE 1 A1 c2 a0, rd eTallyCount 7 A6 c7 q0.Counts, bl 0 [Value.func (.func 117) #[] #[], Value.func (.func 119) #[] #[]] 117, bl 1 [I (-1), I (-1)] 115] := S57.asP k_
          refine hopE [(8, I (a0.length : Int))] ⟨((hf_ 8 rfl).trans (rfl : _ = I (a0.length : Int))), trivial⟩ ?_
          refine p_mI rfl ?_
          refine wp_nil ?_
          exact ⟨_, rfl, S_.keep, rfl⟩
        · intro e_ w_ k_ hf_ hR_
          have S_ : St w_ (fun _ => False) w_ [] [bl b5 [Value.func (.func 71) #[] #[P b4 0, P b5 0]] 94, bl b4 [I q0.Trips, I q0.Room, SL A6 q0.Counts.length c7] 24, rd intE 1 A1 c2 a0, rd eTallyCount 7 A6 c7 q0.Counts, bl 0 [Value.func (.func 117) #[] #[], Value.func (.func 119) #[] #[]] 117, bl 1 [I (-1), I (-1)] 115] := S57.asP k_
          obtain ⟨_, _, _, _, q59⟩ := hR_ 1 42 rfl (Nat.le_of_ble_eq_true rfl) rfl
          obtain ⟨_, _, _, _, q60⟩ := hR_ 2 43 rfl (Nat.le_of_ble_eq_true rfl) rfl
          obtain ⟨_, _, _, _, q61⟩ := hR_ 3 44 rfl (Nat.le_of_ble_eq_true rfl) rfl
          refine hopE [(42, SL A1 a0.length c2), (43, I (a0.length : Int)), (44, I (a0.length : Int))] ⟨q59, q60, q61, trivial⟩ ?_
          refine p_cut3 sc31 (S_.atP (i := 2) rfl) rfl rfl rfl ?_
          refine wp_nil ?_
          exact ⟨_, rfl, S_.keep, rfl⟩
        · intro e_ w_ k_ hf_ hR_
          have S_ : St w_ (fun _ => False) w_ [] [bl b5 [Value.func (.func 71) #[] #[P b4 0, P b5 0]] 94, bl b4 [I q0.Trips, I q0.Room, SL A6 q0.Counts.length c7] 24, rd intE 1 A1 c2 a0, rd eTallyCount 7 A6 c7 q0.Counts, bl 0 [Value.func (.func 117) #[] #[], Value.func (.func 119) #[] #[]] 117, bl 1 [I (-1), I (-1)] 115] := S57.asP k_
          refine hopE [(10, I z_2)] ⟨((hf_ 10 rfl).trans (rfl : _ = I z_2)), trivial⟩ ?_
          refine p_mI rfl ?_
          refine wp_nil ?_
          exact ⟨_, rfl, S_.keep, rfl⟩
        · intro e_ w_ k_ hf_ hR_
          have S_ : St w_ (fun _ => False) w_ [] [bl b5 [Value.func (.func 71) #[] #[P b4 0, P b5 0]] 94, bl b4 [I q0.Trips, I q0.Room, SL A6 q0.Counts.length c7] 24, rd intE 1 A1 c2 a0, rd eTallyCount 7 A6 c7 q0.Counts, bl 0 [Value.func (.func 117) #[] #[], Value.func (.func 119) #[] #[]] 117, bl 1 [I (-1), I (-1)] 115] := S57.asP k_
          obtain ⟨_, _, _, _, q62⟩ := hR_ 5 46 rfl (Nat.le_of_ble_eq_true rfl) rfl
          refine hopE [(46, I z_2)] ⟨q62, trivial⟩ ?_
          refine p_bsl (enc := intE) (l := ([z_2] : List Int)) I (fun _ => rfl) sc31 in3 intE_len rfl (by decide) (by decide) zr3_1 S_ rfl fun A63 c64 w65 S66 => ?_
          refine wp_nil ?_
          exact ⟨_, rfl, S66.keep, ⟨(A63, c64), rfl, ⟨BtwL.of (New.al (S66.newX (i := 0) rfl)) rfl (S66.atX (i := 0) rfl) rfl, trivial⟩, (List.forall_mem_cons.2 ⟨(S66.atX (i := 0) rfl), (fun _ h_ => (List.not_mem_nil h_).elim)⟩)⟩⟩
        · intro e_ w_ k_ hf_ hR_
          have S_ : St w_ (fun _ => False) w_ [] [bl b5 [Value.func (.func 71) #[] #[P b4 0, P b5 0]] 94, bl b4 [I q0.Trips, I q0.Room, SL A6 q0.Counts.length c7] 24, rd intE 1 A1 c2 a0, rd eTallyCount 7 A6 c7 q0.Counts, bl 0 [Value.func (.func 117) #[] #[], Value.func (.func 119) #[] #[]] 117, bl 1 [I (-1), I (-1)] 115] := S57.asP k_
          obtain ⟨_, _, _, _, q68⟩ := hR_ 4 45 rfl (Nat.le_of_ble_eq_true rfl) rfl
          obtain ⟨_, _, _, _, ⟨A63, c64⟩, q69, p70, a71⟩ := hR_ 6 47 rfl (Nat.le_of_ble_eq_true rfl) rfl
          replace q69 : e_ 47 = SL A63 ([z_2] : List Int).length c64 := q69
          have S_ := St.addL' S_ (a71 _ (.head _)) (fun _ _ _ h_ => (List.not_mem_nil h_).elim)
          refine hopE [(45, SL A1 a0.length a0.length), (47, SL A63 ([z_2] : List Int).length c64)] ⟨q68, q69, trivial⟩ ?_
          refine p_appN (enc := intE) sc31 in3 rfl intE_len (by decide) S_ (rd_full (S_.atP (i := 3) rfl)).1 rfl (gr_sl intE_len (S_.atP (i := 0) rfl)) h76 (by simp) rfl rfl fun A74 c75 w72 S73 => ?_
          refine wp_nil ?_
          exact ⟨_, rfl, S73.keep, ⟨(A74, c75), rfl, ⟨BtwL.of (New.al (S73.newX (i := 0) rfl)) rfl (S73.atX (i := 0) rfl) rfl, trivial⟩, (List.forall_mem_cons.2 ⟨(S73.atX (i := 0) rfl), (fun _ h_ => (List.not_mem_nil h_).elim)⟩)⟩⟩
        · intro e_ w_ k_ hf_ hR_
          have S_ : St w_ (fun _ => False) w_ [] [bl b5 [Value.func (.func 71) #[] #[P b4 0, P b5 0]] 94, bl b4 [I q0.Trips, I q0.Room, SL A6 q0.Counts.length c7] 24, rd intE 1 A1 c2 a0, rd eTallyCount 7 A6 c7 q0.Counts, bl 0 [Value.func (.func 117) #[] #[], Value.func (.func 119) #[] #[]] 117, bl 1 [I (-1), I (-1)] 115] := S57.asP k_
          refine hopE [(1, I a1)] ⟨((hf_ 1 rfl).trans (rfl : _ = I a1)), trivial⟩ ?_
          refine p_mI rfl ?_
          refine wp_nil ?_
          exact ⟨_, rfl, S_.keep, rfl⟩
        · intro e_ w_ k_ hf_ hR_
          have S_ : St w_ (fun _ => False) w_ [] [bl b5 [Value.func (.func 71) #[] #[P b4 0, P b5 0]] 94, bl b4 [I q0.Trips, I q0.Room, SL A6 q0.Counts.length c7] 24, rd intE 1 A1 c2 a0, rd eTallyCount 7 A6 c7 q0.Counts, bl 0 [Value.func (.func 117) #[] #[], Value.func (.func 119) #[] #[]] 117, bl 1 [I (-1), I (-1)] 115] := S57.asP k_
          obtain ⟨_, _, _, _, q78⟩ := hR_ 0 41 rfl (Nat.le_of_ble_eq_true rfl) rfl
          obtain ⟨_, _, _, _, ⟨A74, c75⟩, q79, p80, a81⟩ := hR_ 7 48 rfl (Nat.le_of_ble_eq_true rfl) rfl
          replace q79 : e_ 48 = SL A74 (a0 ++ ([z_2] : List Int)).length c75 := q79
          have S_ := St.addL' S_ (a81 _ (.head _)) (fun _ _ _ h_ => (List.not_mem_nil h_).elim)
          obtain ⟨_, _, _, _, q82⟩ := hR_ 8 49 rfl (Nat.le_of_ble_eq_true rfl) rfl
          refine hopE [(41, Value.func (.func 71) #[] #[P b4 0, P b5 0]), (48, SL A74 (a0 ++ ([z_2] : List Int)).length c75), (49, I a1)] ⟨q78, q79, q82, trivial⟩ ?_
          refine p_cal (ih h84 (S_.atP (i := 1) rfl) (S_.atP (i := 2) rfl) (gr_rd intE_len (S_.atP (i := 0) rfl)) (S_.atP (i := 4) rfl) (S_.atP (i := 5) rfl) (S_.atP (i := 6) rfl)) fu71 rfl ?_
          rintro _ w85 ⟨A87, c88, rfl, k86, ⟨o89, n90⟩, _⟩
          have S91 := S_.callN k86 [rd intE 1 A87 c88 r83.1] (List.forall_mem_cons.2 ⟨⟨o89, Al.inL n90 ((List.forall_mem_cons.2 ⟨(fp_gr (i := 0) rfl), (List.forall_mem_cons.2 ⟨(fp_mem (i := 4) rfl), (fun _ h_ => (List.not_mem_nil h_).elim)⟩)⟩))⟩, (fun _ h_ => (List.not_mem_nil h_).elim)⟩)
          refine wp_nil ?_
          exact ⟨_, rfl, S91.keep, ⟨(A87, c88), rfl, ⟨BtwV.of n90 rfl (S91.atP (i := 0) rfl) rfl (List.forall_mem_cons.2 ⟨(fun b_ h_ => .inl (vblk_sl h_)), (List.forall_mem_cons.2 ⟨(fun b_ h_ => .inr ⟨_, List.mem_of_getElem? (i := 0) rfl, h_⟩), (fun _ h_ => (List.not_mem_nil h_).elim)⟩)⟩), trivial⟩, (List.forall_mem_cons.2 ⟨(S91.atP (i := 0) rfl), (fun _ h_ => (List.not_mem_nil h_).elim)⟩)⟩⟩
        · intro e_ w_ k_ hf_ hR_
          have S_ : St w_ (fun _ => False) w_ [] [bl b5 [Value.func (.func 71) #[] #[P b4 0, P b5 0]] 94, bl b4 [I q0.Trips, I q0.Room, SL A6 q0.Counts.length c7] 24, rd intE 1 A1 c2 a0, rd eTallyCount 7 A6 c7 q0.Counts, bl 0 [Value.func (.func 117) #[] #[], Value.func (.func 119) #[] #[]] 117, bl 1 [I (-1), I (-1)] 115] := S57.asP k_
          obtain ⟨_, _, _, _, ⟨A87, c88⟩, q92, p93, a94⟩ := hR_ 9 50 rfl (Nat.le_of_ble_eq_true rfl) rfl
          replace q92 : e_ 50 = TU [SL A87 r83.1.length c88, B r83.2] := q92
          have S_ := St.addL' S_ (a94 _ (.head _)) (fun _ _ _ h_ => (List.not_mem_nil h_).elim)
          refine hopE [(50, TU [SL A87 r83.1.length c88, B r83.2])] ⟨q92, trivial⟩ ?_
          refine p_mT rfl ?_
          refine wp_nil ?_
          exact ⟨_, rfl, S_.keep, rfl⟩
        · intro e_ w_ k_ hf_ hR_
          have S_ : St w_ (fun _ => False) w_ [] [bl b5 [Value.func (.func 71) #[] #[P b4 0, P b5 0]] 94, bl b4 [I q0.Trips, I q0.Room, SL A6 q0.Counts.length c7] 24, rd intE 1 A1 c2 a0, rd eTallyCount 7 A6 c7 q0.Counts, bl 0 [Value.func (.func 117) #[] #[], Value.func (.func 119) #[] #[]] 117, bl 1 [I (-1), I (-1)] 115] := S57.asP k_
          obtain ⟨_, _, _, _, ⟨A87, c88⟩, q96, p97, a98⟩ := hR_ 9 50 rfl (Nat.le_of_ble_eq_true rfl) rfl
          replace q96 : e_ 50 = TU [SL A87 r83.1.length c88, B r83.2] := q96
          have S_ := St.addL' S_ (a98 _ (.head _)) (fun _ _ _ h_ => (List.not_mem_nil h_).elim)
          obtain ⟨_, _, _, _, q95⟩ := hR_ 10 40 rfl (Nat.le_of_ble_eq_true rfl) rfl
          replace q95 : e_ 40 = TU [SL A87 r83.1.length c88, B r83.2] := (Option.some.inj ((congrArg some q96).symm.trans q95)).symm
          refine hopE [(40, TU [SL A87 r83.1.length c88, B r83.2])] ⟨q95, trivial⟩ ?_
          refine p_ext rfl rfl ?_
          refine wp_nil ?_
          exact ⟨_, rfl, S_.keep, rfl⟩
        · intro e_ w_ k_ hf_ hR_
          have S_ : St w_ (fun _ => False) w_ [] [bl b5 [Value.func (.func 71) #[] #[P b4 0, P b5 0]] 94, bl b4 [I q0.Trips, I q0.Room, SL A6 q0.Counts.length c7] 24, rd intE 1 A1 c2 a0, rd eTallyCount 7 A6 c7 q0.Counts, bl 0 [Value.func (.func 117) #[] #[], Value.func (.func 119) #[] #[]] 117, bl 1 [I (-1), I (-1)] 115] := S57.asP k_
          obtain ⟨_, _, _, _, ⟨A87, c88⟩, q100, p101, a102⟩ := hR_ 9 50 rfl (Nat.le_of_ble_eq_true rfl) rfl
          replace q100 : e_ 50 = TU [SL A87 r83.1.length c88, B r83.2] := q100
          have S_ := St.addL' S_ (a102 _ (.head _)) (fun _ _ _ h_ => (List.not_mem_nil h_).elim)
          obtain ⟨_, _, _, _, q99⟩ := hR_ 10 40 rfl (Nat.le_of_ble_eq_true rfl) rfl
          replace q99 : e_ 40 = TU [SL A87 r83.1.length c88, B r83.2] := (Option.some.inj ((congrArg some q100).symm.trans q99)).symm
          refine hopE [(40, TU [SL A87 r83.1.length c88, B r83.2])] ⟨q99, trivial⟩ ?_
          refine p_ext rfl rfl ?_
          refine wp_nil ?_
          exact ⟨_, rfl, S_.keep, rfl⟩
        · intro e_ w_ k_ hf_ hR_
          have S_ : St w_ (fun _ => False) w_ [] [bl b5 [Value.func (.func 71) #[] #[P b4 0, P b5 0]] 94, bl b4 [I q0.Trips, I q0.Room, SL A6 q0.Counts.length c7] 24, rd intE 1 A1 c2 a0, rd eTallyCount 7 A6 c7 q0.Counts, bl 0 [Value.func (.func 117) #[] #[], Value.func (.func 119) #[] #[]] 117, bl 1 [I (-1), I (-1)] 115] := S57.asP k_
          obtain ⟨_, _, _, _, ⟨A87, c88⟩, q105, p106, a107⟩ := hR_ 9 50 rfl (Nat.le_of_ble_eq_true rfl) rfl
          replace q105 : e_ 50 = TU [SL A87 r83.1.length c88, B r83.2] := q105
          have S_ := St.addL' S_ (a107 _ (.head _)) (fun _ _ _ h_ => (List.not_mem_nil h_).elim)
          obtain ⟨_, _, _, _, q104⟩ := hR_ 10 40 rfl (Nat.le_of_ble_eq_true rfl) rfl
          replace q104 : e_ 40 = TU [SL A87 r83.1.length c88, B r83.2] := (Option.some.inj ((congrArg some q105).symm.trans q104)).symm
          obtain ⟨_, _, _, _, q103⟩ := hR_ 11 51 rfl (Nat.le_of_ble_eq_true rfl) rfl
          replace q103 : e_ 51 = SL A87 r83.1.length c88 := (Option.some.inj ((congrArg (exG 0) q104).symm.trans q103)).symm
          refine hopE [(51, SL A87 r83.1.length c88)] ⟨q103, trivial⟩ ?_
          refine p_aS rfl ?_
          refine wp_nil ?_
          exact ⟨_, rfl, S_.keep, rfl⟩
        · intro e_ w_ k_ hf_ hR_
          have S_ : St w_ (fun _ => False) w_ [] [bl b5 [Value.func (.func 71) #[] #[P b4 0, P b5 0]] 94, bl b4 [I q0.Trips, I q0.Room, SL A6 q0.Counts.length c7] 24, rd intE 1 A1 c2 a0, rd eTallyCount 7 A6 c7 q0.Counts, bl 0 [Value.func (.func 117) #[] #[], Value.func (.func 119) #[] #[]] 117, bl 1 [I (-1), I (-1)] 115] := S57.asP k_
          obtain ⟨_, _, _, _, ⟨A87, c88⟩, q110, p111, a112⟩ := hR_ 9 50 rfl (Nat.le_of_ble_eq_true rfl) rfl
          replace q110 : e_ 50 = TU [SL A87 r83.1.length c88, B r83.2] := q110
          have S_ := St.addL' S_ (a112 _ (.head _)) (fun _ _ _ h_ => (List.not_mem_nil h_).elim)
          obtain ⟨_, _, _, _, q109⟩ := hR_ 10 40 rfl (Nat.le_of_ble_eq_true rfl) rfl
          replace q109 : e_ 40 = TU [SL A87 r83.1.length c88, B r83.2] := (Option.some.inj ((congrArg some q110).symm.trans q109)).symm
          obtain ⟨_, _, _, _, q108⟩ := hR_ 12 52 rfl (Nat.le_of_ble_eq_true rfl) rfl
          replace q108 : e_ 52 = B r83.2 := (Option.some.inj ((congrArg (exG 1) q109).symm.trans q108)).symm
          refine hopE [(52, B r83.2)] ⟨q108, trivial⟩ ?_
          refine p_aB rfl ?_
          refine wp_nil ?_
          exact ⟨_, rfl, S_.keep, rfl⟩
        intro e113 w114 lo115 hi116 k117 hf118 hR119 hd120
        have S121 := S57.call k117
        have q122 : e113 41 = Value.func (.func 71) #[] #[P b4 0, P b5 0] := (hR119 0 41 (Nat.le_of_ble_eq_true rfl) rfl).2.2.2
        have q123 : e113 42 = SL A1 a0.length c2 := (hR119 1 42 (Nat.le_of_ble_eq_true rfl) rfl).2.2.2
        have q124 : e113 43 = I (a0.length : Int) := (hR119 2 43 (Nat.le_of_ble_eq_true rfl) rfl).2.2.2
        have q125 : e113 44 = I (a0.length : Int) := (hR119 3 44 (Nat.le_of_ble_eq_true rfl) rfl).2.2.2
        have q126 : e113 45 = SL A1 a0.length a0.length := (hR119 4 45 (Nat.le_of_ble_eq_true rfl) rfl).2.2.2
        have q127 : e113 46 = I z_2 := (hR119 5 46 (Nat.le_of_ble_eq_true rfl) rfl).2.2.2
        obtain ⟨h129, h130, h131, ⟨A63, c64⟩, q128, h132, h133⟩ := hR119 6 47 (Nat.le_of_ble_eq_true rfl) rfl
        replace q128 : e113 47 = SL A63 ([z_2] : List Int).length c64 := q128
        obtain ⟨p134, _⟩ := h132
        obtain ⟨h137, h138, h139, ⟨A74, c75⟩, q136, h140, h141⟩ := hR119 7 48 (Nat.le_of_ble_eq_true rfl) rfl
        replace q136 : e113 48 = SL A74 (a0 ++ ([z_2] : List Int)).length c75 := q136
        obtain ⟨p142, _⟩ := h140
        have q144 : e113 49 = I a1 := (hR119 8 49 (Nat.le_of_ble_eq_true rfl) rfl).2.2.2
        obtain ⟨h146, h147, h148, ⟨A87, c88⟩, q145, h149, h150⟩ := hR119 9 50 (Nat.le_of_ble_eq_true rfl) rfl
        replace q145 : e113 50 = TU [SL A87 r83.1.length c88, B r83.2] := q145
        obtain ⟨p151, _⟩ := h149
        have q153 : Al w56 [rd eTallyCount 7 A6 c7 q0.Counts] (rd intE 1 A87 c88 r83.1) := BtwV.al p151 h146 (fun b_ h_ => by rw [q136] at h_; exact Nat.le_trans h137 ((p142 b_ (vblk_gr h_)).elim (fun q_ => q_.1) (fun ⟨_, hq_, _⟩ => (List.not_mem_nil hq_).elim)))
        have S152 := St.addR S121 (h150 _ (.head _)) (fun b_ h_ x_ hx_ hb_ => (q153 b_ h_).elim (fun q_ => by have := x_.inb _ _ (S57.xs x_ hx_) hb_; omega) (fun ⟨q_, hq_, hqb_⟩ => S57.dp x_ hx_ q_ ((List.forall_mem_cons.2 ⟨List.mem_of_getElem? (i := 3) rfl, (fun _ h_ => (List.not_mem_nil h_).elim)⟩) q_ hq_) b_ hb_ hqb_))
        have q154 : e113 40 = TU [SL A87 r83.1.length c88, B r83.2] := (Option.some.inj ((congrArg some q145).symm.trans (hR119 10 40 (Nat.le_of_ble_eq_true rfl) rfl).2.2.2)).symm
        have q155 : e113 51 = SL A87 r83.1.length c88 := (Option.some.inj ((congrArg (exG 0) q154).symm.trans (hR119 11 51 (Nat.le_of_ble_eq_true rfl) rfl).2.2.2)).symm
        have q156 : e113 52 = B r83.2 := (Option.some.inj ((congrArg (exG 1) q154).symm.trans (hR119 12 52 (Nat.le_of_ble_eq_true rfl) rfl).2.2.2)).symm
        have q157 : e113 11 = SL A87 r83.1.length c88 := (Option.some.inj ((congrArg some q155).symm.trans (hR119 13 11 (Nat.le_of_ble_eq_true rfl) rfl).2.2.2)).symm
        have q158 : e113 12 = B r83.2 := (hR119 14 12 (Nat.le_of_ble_eq_true rfl) rfl).2.2.2
        refine tailE [(0, SL A1 a0.length c2), (1, I a1), (2, P b4 0), (3, P b5 0), (8, I (a0.length : Int)), (10, I z_2), (11, SL A87 r83.1.length c88), (12, B r83.2)] ⟨((hf118 0 rfl).trans (rfl : _ = SL A1 a0.length c2)), ((hf118 1 rfl).trans (rfl : _ = I a1)), ((hf118 2 rfl).trans (rfl : _ = P b4 0)), ((hf118 3 rfl).trans (rfl : _ = P b5 0)), ((hf118 8 rfl).trans (rfl : _ = I (a0.length : Int))), ((hf118 10 rfl).trans (rfl : _ = I z_2)), q157, q158, trivial⟩ ?_
        intro g159
        refine wp_nil ?_
        refine c_seq ?_
        refine reg ?_
        refine p_mB rfl ?_
        refine wp_nil ?_
        refine c_cond rfl (fun c160 => ?_) (fun c160 => ?_)
        · replace H := condT c160 H
          refine c_seq ?_
          refine reg ?_
          refine p_mS rfl ?_
          refine p_aS rfl ?_
          refine p_aB rfl ?_
          refine wp_nil ?_
          obtain rfl := Option.some.inj H
          refine c_ret ?_; show bodyPostM (Fr none) 0 Tryd.prog Tryd.f71 _ .ret _ _
          refine ret_of (res2 rfl (rvT (rfl : _ = SL A87 r83.1.length c88)) (rvT (rfl : _ = B true))) ?_
          exact ⟨_, rfl, A87, c88, rfl, S152.keep, ⟨(S152.atP (i := 0) rfl), (Al.up q153 S57.keep.size (List.forall_mem_cons.2 ⟨(Al.self (i := 1) rfl), (fun _ h_ => (List.not_mem_nil h_).elim)⟩))⟩, trivial⟩
        · replace H := condF c160 H
          refine c_skip ?_
          refine reg ?_
          refine p_mI rfl ?_
          refine p_add rfl rfl ?_
          refine p_aI rfl ?_
          refine wp_nil ?_
          have S161 := S152.pk [] (by decide) [1, 2, 3, 4, 5, 6] rfl rfl
          exact ⟨wr (z_2 + 1), (), _, rfl, ⟨rfl, rfl, rfl, rfl, rfl, rfl, trivial⟩, H, S161⟩
      · replace H := condF c58 H
        refine c_exit ?_
        refine c_seq ?_
        refine reg ?_
        refine p_aS rfl ?_
        refine p_aB rfl ?_
        refine wp_nil ?_
        obtain rfl := Option.some.inj H
        refine c_ret ?_; show bodyPostM (Fr none) 0 Tryd.prog Tryd.f71 _ .ret _ _
        refine ret_of (res2 rfl (rvT (rfl : _ = SL none 0 0)) (rvT (rfl : _ = B false))) ?_
        exact ⟨_, rfl, none, 0, rfl, S57.keep, ⟨rd_nil (Nat.zero_le _), Al.nil⟩, trivial⟩

def tally_Wrong_l2 (a0 : TallyBook) (rec_z_1 : Int → Option ((List Int) × Int)) (z_1 : Int) : Option ((List Int) × Int) :=
  bif decide (z_1 < (wr ((a0.Counts.length : Int) + 1))) then ((tally_Wrong_1 big ([] : List _) z_1 a0).bind fun r24 =>
  bif r24.2 then (some (r24.1, 0))
  else (rec_z_1 (wr (z_1 + 1))))
  else (some (([] : List _), 0))

def tally_Wrong (a0 : TallyBook) : Option ((List Int) × Int) :=
  (tally_Check a0).bind fun r9 =>
  bif (r9 != 0) then (some (([] : List _), r9))
  else (loopF (tally_Wrong_l2 a0) big 0)

set_option maxRecDepth 100000 in
theorem tally_Wrong_ok {a0 : TallyBook} {A1 : Option Addr} {c2 : Nat} {w : World} {r : (List Int) × Int} (H : tally_Wrong a0 = some r) (h3 : (rd eTallyCount 7 A1 c2 a0.Counts).ok w) (hg4 : (bl 0 [Value.func (.func 117) #[] #[], Value.func (.func 119) #[] #[]] 117).ok w) (hg5 : (bl 1 [I (-1), I (-1)] 115).ok w) : Calls Tryd.prog 30 #[AG [I a0.Trips, I a0.Room, SL A1 a0.Counts.length c2]] w fun en w_ => ∃ u_, en = .returned u_ ∧ ∃ A_1 : Option Addr, ∃ c_2 : Nat, u_ = TU [SL A_1 r.1.length c_2, I r.2] ∧ Keep0 w w_ ∧ ((rd intE 1 A_1 c_2 r.1).ok w_ ∧ Al w [rd eTallyCount 7 A1 c2 a0.Counts] (rd intE 1 A_1 c_2 r.1)) ∧ True := by
  unfold tally_Wrong at H
  refine fn_of (n := 36) Tryd.func30 rfl rfl (Nat.le_of_ble_eq_true rfl) ?_
  have S : St w (fun _ => False) w [] [rd eTallyCount 7 A1 c2 a0.Counts, bl 0 [Value.func (.func 117) #[] #[], Value.func (.func 119) #[] #[]] 117, bl 1 [I (-1), I (-1)] 115] := St.start w _ _ (List.forall_mem_cons.2 ⟨h3, (List.forall_mem_cons.2 ⟨hg4, (List.forall_mem_cons.2 ⟨hg5, (fun _ h_ => (List.not_mem_nil h_).elim)⟩)⟩)⟩)
  refine c_seq ?_
  refine reg ?_
  refine p_boxA rfl S fun b6 w7 S8 => ?_
  refine p_aS rfl ?_
  refine p_aI rfl ?_
  refine wp_nil ?_
  refine c_seq ?_
  refine c_seq ?_
  refine reg ?_
  refine p_ldA ty24 sz24 (S8.atX (i := 0) rfl) rfl rfl ?_
  obtain ⟨r9, h10, H⟩ := bindS H
  refine p_cv (tally_Check_ok h10 (S8.atP (i := 0) rfl)) fu53 rfl S8 fun w11 S12 => ?_
  refine p_aI rfl ?_
  refine wp_nil ?_
  refine c_seq ?_
  refine reg ?_
  refine p_mI rfl ?_
  refine p_cmp rfl rfl rfl ?_
  refine wp_nil ?_
  refine c_cond rfl (fun c13 => ?_) (fun c13 => ?_)
  · replace H := condT c13 H
    refine c_seq ?_
    refine reg ?_
    refine p_mI rfl ?_
    refine p_aS rfl ?_
    refine p_aI rfl ?_
    refine wp_nil ?_
    obtain rfl := Option.some.inj H
    refine c_ret ?_; show bodyPostM (Fr none) 0 Tryd.prog Tryd.f30 _ .ret _ _
    refine ret_of (res2 rfl (rvT (rfl : _ = SL none 0 0)) (rvT (rfl : _ = I r9))) ?_
    exact ⟨_, rfl, none, 0, rfl, S12.keep, ⟨rd_nil (Nat.zero_le _), Al.nil⟩, trivial⟩
  · replace H := condF c13 H
    refine c_skip ?_
    refine c_seq ?_
    refine reg ?_
    refine p_all in94 rfl S12 fun b14 w15 S16 => ?_
    refine wp_nil ?_
    refine c_seq ?_
    refine reg ?_
    refine o_fun (rfl : _ = []) (rfl : _ = [P b6 0, P b14 0]) ?_
    refine p_st sz94 S16 (i := 0) rfl rfl (rfl : _ = Value.func (.func 71) #[] #[P b6 0, P b14 0]) rfl rfl fun w17 S18 => ?_
    refine wp_nil ?_
    refine c_seq ?_
    refine c_seq ?_
    refine reg ?_
    refine p_fld fl24_2 rfl ?_
    refine p_ld ty22 (S18.atX (i := 1) rfl) rfl rfl ?_
    refine p_len rfl sc22 ?_
    refine p_add rfl rfl ?_
    refine p_mI rfl ?_
    refine wp_nil ?_
    refine c_block ?_
    refine c_lop (α := Int) (β := Unit) (tally_Wrong_l2 a0) (fun z_1 y_1 => [(5, P b14 0), (18, I (wr ((a0.Counts.length : Int) + 1))), (19, I z_1)]) (fun z_1 y_1 w_ => St w (fun _ => False) w_ [bl b14 [Value.func (.func 71) #[] #[P b6 0, P b14 0]] 94, bl b6 [I a0.Trips, I a0.Room, SL A1 a0.Counts.length c2] 24] [rd eTallyCount 7 A1 c2 a0.Counts, bl 0 [Value.func (.func 117) #[] #[], Value.func (.func 119) #[] #[]] 117, bl 1 [I (-1), I (-1)] 115]) 0 () H ⟨rfl, rfl, rfl, trivial⟩ S18 ?_
    intro m19 z_1 y_1 e20 w21 H S22
    unfold tally_Wrong_l2 at H
    refine c_seq ?_
    refine reg ?_
    refine p_cmp rfl rfl rfl ?_
    refine wp_nil ?_
    refine c_seq ?_
    refine c_cond rfl (fun c23 => ?_) (fun c23 => ?_)
    · replace H := condT c23 H
      refine c_skip ?_
      refine c_seq ?_
      refine c_block ?_
      refine c_seq ?_
      refine reg ?_
      refine p_mI rfl ?_
      refine p_aI rfl ?_
      refine wp_nil ?_
      refine c_seq ?_
      refine reg ?_
      refine p_ld ty94 (S22.atX (i := 0) rfl) rfl rfl ?_
      refine p_mI rfl ?_
      obtain ⟨r24, h25, H⟩ := bindS H
      refine p_cal (tally_Wrong_1_ok h25 (S22.atX (i := 0) rfl) (S22.atX (i := 1) rfl) (rd_nil (Nat.zero_le _)) (S22.atP (i := 0) rfl) (S22.atP (i := 1) rfl) (S22.atP (i := 2) rfl)) fu71 rfl ?_
      rintro _ w26 ⟨A28, c29, rfl, k27, ⟨o30, n31⟩, _⟩
      have S32 := S22.callN k27 [rd intE 1 A28 c29 r24.1] (List.forall_mem_cons.2 ⟨⟨o30, Al.inL n31 ((List.forall_mem_cons.2 ⟨fp_nil, (List.forall_mem_cons.2 ⟨(fp_mem (i := 0) rfl), (fun _ h_ => (List.not_mem_nil h_).elim)⟩)⟩))⟩, (fun _ h_ => (List.not_mem_nil h_).elim)⟩)
      refine p_mT rfl ?_
      refine p_ext rfl rfl ?_
      refine p_ext rfl rfl ?_
      refine p_aS rfl ?_
      refine p_aB rfl ?_
      refine wp_nil ?_
      refine c_seq ?_
      refine reg ?_
      refine p_mB rfl ?_
      refine wp_nil ?_
      refine c_cond rfl (fun c33 => ?_) (fun c33 => ?_)
      · replace H := condT c33 H
        refine c_seq ?_
        refine reg ?_
        refine p_mS rfl ?_
        refine p_mS rfl ?_
        refine p_len rfl sc31 ?_
        refine p_mS rfl ?_
        refine p_len rfl sc31 ?_
        refine p_cut3 sc31 (S32.atP (i := 0) rfl) rfl rfl rfl ?_
        refine p_aS rfl ?_
        refine p_aI rfl ?_
        refine wp_nil ?_
        obtain rfl := Option.some.inj H
        refine c_ret ?_; show bodyPostM (Fr none) 0 Tryd.prog Tryd.f30 _ .ret _ _
        refine ret_of (res2 rfl (rvT (rfl : _ = SL A28 r24.1.length r24.1.length)) (rvT (rfl : _ = I 0))) ?_
        exact ⟨_, rfl, A28, r24.1.length, rfl, S32.keep, ⟨(rd_full (S32.atP (i := 0) rfl)), Al.rdr (Al.up n31 S22.keep.size (List.forall_mem_cons.2 ⟨Al.nil, (List.forall_mem_cons.2 ⟨(Al.self (i := 0) rfl), (fun _ h_ => (List.not_mem_nil h_).elim)⟩)⟩))⟩, trivial⟩
      · replace H := condF c33 H
        refine c_skip ?_
        refine reg ?_
        refine p_add rfl rfl ?_
        refine p_mI rfl ?_
        refine wp_nil ?_
        have S34 := S32.pk [0, 1] (by decide) [1, 2, 3] rfl rfl
        exact ⟨wr (z_1 + 1), (), _, rfl, ⟨rfl, rfl, rfl, trivial⟩, H, S34⟩
    · replace H := condF c23 H
      refine c_exit ?_
      refine c_seq ?_
      refine reg ?_
      refine p_aS rfl ?_
      refine p_aI rfl ?_
      refine wp_nil ?_
      obtain rfl := Option.some.inj H
      refine c_ret ?_; show bodyPostM (Fr none) 0 Tryd.prog Tryd.f30 _ .ret _ _
      refine ret_of (res2 rfl (rvT (rfl : _ = SL none 0 0)) (rvT (rfl : _ = I 0))) ?_
      exact ⟨_, rfl, none, 0, rfl, S22.keep, ⟨rd_nil (Nat.zero_le _), Al.nil⟩, trivial⟩

def tally_whose_1 (a0 : TallyCount) (a1 : Int) (q0 : Int) : Option Bool :=
  some (a0.Who == q0)

set_option maxRecDepth 100000 in
theorem tally_whose_1_ok {a0 : TallyCount} {a1 : Int} {q0 : Int} {b1 : Nat} {w : World} {r : Bool} (H : tally_whose_1 a0 a1 q0 = some r) (h2 : (bl b1 [I q0] 3).ok w) : Calls Tryd.prog 96 #[AG [I a0.Who, I a0.From, I a0.To, I a0.Told, I a0.Unit, I a0.Under, I a0.Over], I a1, P b1 0] w (RetV w (B r)) := by
  unfold tally_whose_1 at H
  refine fn_of (n := 10) Tryd.func96 rfl rfl (Nat.le_of_ble_eq_true rfl) ?_
  have S : St w (fun _ => False) w [] [bl b1 [I q0] 3] := St.start w _ _ (List.forall_mem_cons.2 ⟨h2, (fun _ h_ => (List.not_mem_nil h_).elim)⟩)
  refine c_seq ?_
  refine reg ?_
  refine p_boxA rfl S fun b3 w4 S5 => ?_
  refine p_aB rfl ?_
  refine wp_nil ?_
  refine c_seq ?_
  refine reg ?_
  refine p_fld fl33_0 rfl ?_
  refine p_ld ty3 (S5.atX (i := 0) rfl) rfl rfl ?_
  refine p_ld ty3 (S5.atP (i := 0) rfl) rfl rfl ?_
  refine p_cmp rfl rfl rfl ?_
  refine p_aB rfl ?_
  refine wp_nil ?_
  obtain rfl := Option.some.inj H
  refine c_ret ?_; show bodyPostM (Fr none) 0 Tryd.prog Tryd.f96 _ .ret _ _
  refine ret_of (res1 rfl (rvT (rfl : _ = B (a0.Who == q0)))) ?_
  exact ⟨_, rfl, rfl, S5.keep⟩

def tally_whose (a0 : Int) : Option Unit :=
  some ()

set_option maxRecDepth 100000 in
theorem tally_whose_ok {a0 : Int} {w : World} {r : Unit} (H : tally_whose a0 = some r) : Calls Tryd.prog 73 #[I a0] w fun en w_ => ∃ u_, en = .returned u_ ∧ ∃ b_1 : Nat, u_ = AG [Value.func (.func 96) #[] #[P b_1 0]] ∧ Keep0 w w_ ∧ ((bl b_1 [I a0] 3).ok w_ ∧ New w.heap.size (bl b_1 [I a0] 3)) ∧ True := by
  unfold tally_whose at H
  refine fn_of (n := 5) Tryd.func73 rfl rfl (Nat.le_of_ble_eq_true rfl) ?_
  have S : St w (fun _ => False) w [] [] := St.start w _ _ (fun _ h_ => (List.not_mem_nil h_).elim)
  refine c_seq ?_
  refine reg ?_
  refine p_box (rfl : _ = I a0) rfl S fun b1 w2 S3 => ?_
  refine p_allA in90 S3 fun b4 w5 S6 => ?_
  refine wp_nil ?_
  refine c_seq ?_
  refine reg ?_
  refine o_fun (rfl : _ = []) (rfl : _ = [P b1 0]) ?_
  refine p_bld (cs := [Value.func (.func 96) #[] #[P b1 0]]) st90 (rfl : _ = [(0, Value.func (.func 96) #[] #[P b1 0])]) (by kernel_rfl) ?_
  refine p_stP (pre := []) (old := [Value.nilFunc]) (post := []) (vs := [Value.func (.func 96) #[] #[P b1 0]]) sz90 S6 (i := 0) rfl rfl rfl rfl (rfl : _ = AG [Value.func (.func 96) #[] #[P b1 0]]) rfl rfl rfl rfl fun w7 S8 => ?_
  refine wp_nil ?_
  obtain rfl := Option.some.inj H
  refine c_ret ?_; show bodyPostM (Fr none) 0 Tryd.prog Tryd.f73 _ .ret _ _
  refine ret_of (res1 rfl (rvA rfl ty90 sz90 (S8.atX (i := 0) rfl) rfl)) ?_
  exact ⟨_, rfl, b1, rfl, S8.keep, ⟨S8.atX (i := 1) rfl, S8.newX (i := 1) rfl⟩, trivial⟩

def tally_Whose_l3 (a0 : TallyBook) (rec_z_1 : ((List Int) × Int) → Option ((List Int) × Int)) (z_1 : (List Int) × Int) : Option ((List Int) × Int) :=
  bif decide (z_1.2 < 3) then ((tally_whose z_1.2).bind fun r23 =>
  (tally_opened a0 (Tally_leave.mk (fun y34 y35 => tally_whose_1 y34 y35 z_1.2))).bind fun r36 =>
  (tally_book_can (Tally_book.mk (TallyBook.mk r36.TallyBook.Trips r36.TallyBook.Room a0.Counts) r36.more_)).bind fun r44 =>
  bif r44 then (need (fitsL (z_1.1.length + ([z_1.2] : List Int).length) 8) <|
  rec_z_1 (z_1.1 ++ ([z_1.2] : List Int), wr (z_1.2 + 1)))
  else (rec_z_1 (z_1.1, wr (z_1.2 + 1))))
  else (some (z_1.1, 0))

def tally_Whose (a0 : TallyBook) : Option ((List Int) × Int) :=
  (tally_Check a0).bind fun r9 =>
  bif (r9 != 0) then (some (([] : List _), r9))
  else (loopF (tally_Whose_l3 a0) big (([] : List Int), 0))

set_option maxRecDepth 100000 in
theorem tally_Whose_ok {a0 : TallyBook} {A1 : Option Addr} {c2 : Nat} {w : World} {r : (List Int) × Int} (H : tally_Whose a0 = some r) (h3 : (rd eTallyCount 7 A1 c2 a0.Counts).ok w) (hg4 : (bl 0 [Value.func (.func 117) #[] #[], Value.func (.func 119) #[] #[]] 117).ok w) (hg5 : (bl 1 [I (-1), I (-1)] 115).ok w) : Calls Tryd.prog 31 #[AG [I a0.Trips, I a0.Room, SL A1 a0.Counts.length c2]] w fun en w_ => ∃ u_, en = .returned u_ ∧ ∃ A_1 : Option Addr, ∃ c_2 : Nat, u_ = TU [SL A_1 r.1.length c_2, I r.2] ∧ Keep0 w w_ ∧ ((rd intE 1 A_1 c_2 r.1).ok w_ ∧ New w.heap.size (rd intE 1 A_1 c_2 r.1)) ∧ True := by
  unfold tally_Whose at H
  refine fn_of (n := 31) Tryd.func31 rfl rfl (Nat.le_of_ble_eq_true rfl) ?_
  have S : St w (fun _ => False) w [] [rd eTallyCount 7 A1 c2 a0.Counts, bl 0 [Value.func (.func 117) #[] #[], Value.func (.func 119) #[] #[]] 117, bl 1 [I (-1), I (-1)] 115] := St.start w _ _ (List.forall_mem_cons.2 ⟨h3, (List.forall_mem_cons.2 ⟨hg4, (List.forall_mem_cons.2 ⟨hg5, (fun _ h_ => (List.not_mem_nil h_).elim)⟩)⟩)⟩)
  refine c_seq ?_
  refine reg ?_
  refine p_boxA rfl S fun b6 w7 S8 => ?_
  refine p_aS rfl ?_
  refine p_aI rfl ?_
  refine wp_nil ?_
  refine c_seq ?_
  refine c_seq ?_
  refine reg ?_
  refine p_ldA ty24 sz24 (S8.atX (i := 0) rfl) rfl rfl ?_
  obtain ⟨r9, h10, H⟩ := bindS H
  refine p_cv (tally_Check_ok h10 (S8.atP (i := 0) rfl)) fu53 rfl S8 fun w11 S12 => ?_
  refine p_aI rfl ?_
  refine wp_nil ?_
  refine c_seq ?_
  refine reg ?_
  refine p_mI rfl ?_
  refine p_cmp rfl rfl rfl ?_
  refine wp_nil ?_
  refine c_cond rfl (fun c13 => ?_) (fun c13 => ?_)
  · replace H := condT c13 H
    refine c_seq ?_
    refine reg ?_
    refine p_mI rfl ?_
    refine p_aS rfl ?_
    refine p_aI rfl ?_
    refine wp_nil ?_
    obtain rfl := Option.some.inj H
    refine c_ret ?_; show bodyPostM (Fr none) 0 Tryd.prog Tryd.f31 _ .ret _ _
    refine ret_of (res2 rfl (rvT (rfl : _ = SL none 0 0)) (rvT (rfl : _ = I r9))) ?_
    exact ⟨_, rfl, none, 0, rfl, S12.keep, ⟨rd_nil (Nat.zero_le _), New.nil⟩, trivial⟩
  · replace H := condF c13 H
    refine c_skip ?_
    refine c_seq ?_
    refine reg ?_
    refine p_aS rfl ?_
    refine wp_nil ?_
    refine c_seq ?_
    refine c_seq ?_
    refine reg ?_
    refine p_mI rfl ?_
    refine wp_nil ?_
    refine c_block ?_
    have S14 := S12.nilRow intE 1 3
    refine c_lop (α := (List Int) × Int) (β := (Option Addr) × Nat) (tally_Whose_l3 a0) (fun z_1 y_1 => [(1, P b6 0), (5, SL y_1.1 z_1.1.length y_1.2), (12, I z_1.2)]) (fun z_1 y_1 w_ => St w (fun _ => False) w_ [gr intE 1 3 y_1.1 y_1.2 z_1.1, bl b6 [I a0.Trips, I a0.Room, SL A1 a0.Counts.length c2] 24] [rd eTallyCount 7 A1 c2 a0.Counts, bl 0 [Value.func (.func 117) #[] #[], Value.func (.func 119) #[] #[]] 117, bl 1 [I (-1), I (-1)] 115]) (([] : List Int), 0) (none, 0) H ⟨rfl, rfl, rfl, trivial⟩ S14 ?_
    intro m15 z_1 y_1 e16 w17 H S18
    unfold tally_Whose_l3 at H
    refine c_seq ?_
    refine reg ?_
    refine p_cmp rfl rfl rfl ?_
    refine wp_nil ?_
    refine c_seq ?_
    refine c_cond rfl (fun c19 => ?_) (fun c19 => ?_)
    · replace H := condT c19 H
      refine c_skip ?_
      refine c_seq ?_
      refine c_block ?_
      refine c_seq ?_
      refine reg ?_
      refine p_mI rfl ?_
      refine p_aI rfl ?_
      refine wp_nil ?_
      refine c_seq ?_
      refine reg_c mixed 3 [2] (by kernel_rfl) ?_
      refine kS rfl (fun _ k_ => p_ldA ty24 sz24 (Asr.stays (S18.atX (i := 1) rfl) k_) rfl rfl dn) ?_
      refine kS rfl (fun _ k_ => p_mI rfl dn) ?_
      refine kC rfl ?_
      intro w20 k21; have S22 := S18.call k21
      obtain ⟨r23, h24, H⟩ := bindS H
      refine p_cal (tally_whose_ok h24) fu73 rfl ?_
      rintro _ w25 ⟨b27, rfl, k26, ⟨o28, n29⟩, _⟩
      have S30 := S22.addNew k26 o28 n29
      refine cN k26 fun w31 k32 => ?_
      have S33 := S30.call k32
      obtain ⟨r36, h37, H⟩ := bindS H
      refine p_cal (tally_opened_ok h37 (S33.atP (i := 0) rfl) (by kernel_rfl) (fun _ _ _ _ k_ hr_ => tally_whose_1_ok hr_ (Asr.stays (S33.atX (i := 0) rfl) k_)) (S33.atP (i := 1) rfl)) fu66 rfl ?_
      rintro _ w38 ⟨m40, rfl, k39, ⟨o41, n42⟩, _⟩
      have S43 := S33.addNew k39 o41 n42
      obtain ⟨r44, h45, H⟩ := bindS H
      refine p_cv (tally_book_can_ok h45 (S43.atP (i := 0) rfl) (mpo_some (S43.atX (i := 0) rfl)) (S43.atP (i := 2) rfl)) fu68 rfl S43 fun w46 S47 => ?_
      refine wp_nil ?_
      refine c_cond rfl (fun c48 => ?_) (fun c48 => ?_)
      · replace H := condT c48 H
        refine reg ?_
        refine p_mS rfl ?_
        refine p_mI rfl ?_
        refine p_bsl (enc := intE) (l := ([z_1.2] : List Int)) I (fun _ => rfl) sc31 in3 intE_len rfl (by decide) (by decide) zr3_1 S47 rfl fun A49 c50 w51 S52 => ?_
        obtain ⟨h58, H⟩ := needS H
        refine p_app (enc := intE) sc31 in3 rfl intE_len intE_one (by decide) S52 (k := 3) rfl (gr_sl intE_len (S52.atX (i := 0) rfl)) h58 (by simp) rfl rfl fun A56 c57 w54 S55 => ?_
        refine p_aS rfl ?_
        refine wp_nil ?_
        refine reg ?_
        refine p_add rfl rfl ?_
        refine p_mI rfl ?_
        refine wp_nil ?_
        have S59 := S55.pk [3, 4] (by decide) [0, 1, 2] rfl rfl
        exact ⟨(z_1.1 ++ ([z_1.2] : List Int), wr (z_1.2 + 1)), (A56, c57), _, rfl, ⟨rfl, rfl, rfl, trivial⟩, H, S59⟩
      · replace H := condF c48 H
        refine c_skip ?_
        refine reg ?_
        refine p_add rfl rfl ?_
        refine p_mI rfl ?_
        refine wp_nil ?_
        have S60 := S47.pk [2, 3] (by decide) [0, 1, 2] rfl rfl
        exact ⟨(z_1.1, wr (z_1.2 + 1)), (y_1.1, y_1.2), _, rfl, ⟨rfl, rfl, rfl, trivial⟩, H, S60⟩
    · replace H := condF c19 H
      refine c_exit ?_
      refine c_seq ?_
      refine reg ?_
      refine p_mS rfl ?_
      refine p_mS rfl ?_
      refine p_len rfl sc31 ?_
      refine p_mS rfl ?_
      refine p_len rfl sc31 ?_
      refine p_cut3 sc31 (gr_rd intE_len (S18.atX (i := 0) rfl)) rfl rfl rfl ?_
      refine p_aS rfl ?_
      refine p_aI rfl ?_
      refine wp_nil ?_
      obtain rfl := Option.some.inj H
      refine c_ret ?_; show bodyPostM (Fr none) 0 Tryd.prog Tryd.f31 _ .ret _ _
      refine ret_of (res2 rfl (rvT (rfl : _ = SL y_1.1 z_1.1.length z_1.1.length)) (rvT (rfl : _ = I 0))) ?_
      exact ⟨_, rfl, y_1.1, z_1.1.length, rfl, S18.keep, ⟨(rd_full (gr_rd intE_len (S18.atX (i := 0) rfl))), (New.rdc (S18.newX (i := 0) rfl))⟩, trivial⟩

def tally_with (a0 : TallyBook) (a1 : TallyCount) : Option TallyBook :=
  need (fitsL (a0.Counts.length + ([a1] : List TallyCount).length) 56) <|
  some (TallyBook.mk a0.Trips a0.Room (a0.Counts ++ ([a1] : List TallyCount)))

set_option maxRecDepth 100000 in
theorem tally_with_ok {a0 : TallyBook} {a1 : TallyCount} {A1 : Option Addr} {c2 : Nat} {w : World} {r : TallyBook} (H : tally_with a0 a1 = some r) (h3 : (rd eTallyCount 7 A1 c2 a0.Counts).ok w) : Calls Tryd.prog 78 #[AG [I a0.Trips, I a0.Room, SL A1 a0.Counts.length c2], AG [I a1.Who, I a1.From, I a1.To, I a1.Told, I a1.Unit, I a1.Under, I a1.Over]] w fun en w_ => ∃ u_, en = .returned u_ ∧ ∃ A_1 : Option Addr, ∃ c_2 : Nat, u_ = AG [I r.Trips, I r.Room, SL A_1 r.Counts.length c_2] ∧ Keep0 w w_ ∧ ((gr eTallyCount 7 33 A_1 c_2 r.Counts).ok w_ ∧ New w.heap.size (gr eTallyCount 7 33 A_1 c_2 r.Counts)) ∧ True := by
  unfold tally_with at H
  refine fn_of (n := 19) Tryd.func78 rfl rfl (Nat.le_of_ble_eq_true rfl) ?_
  have S : St w (fun _ => False) w [] [rd eTallyCount 7 A1 c2 a0.Counts] := St.start w _ _ (List.forall_mem_cons.2 ⟨h3, (fun _ h_ => (List.not_mem_nil h_).elim)⟩)
  refine c_seq ?_
  refine reg ?_
  refine p_boxA rfl S fun b4 w5 S6 => ?_
  refine p_boxA rfl S6 fun b7 w8 S9 => ?_
  refine p_allA in24 S9 fun b10 w11 S12 => ?_
  refine wp_nil ?_
  refine c_seq ?_
  refine reg_c mixed 11 [10] (by kernel_rfl) ?_
  refine kS rfl (fun _ k_ => p_fld fl24_2 rfl dn) ?_
  refine kS rfl (fun _ k_ => p_ld ty22 (Asr.stays (S12.atX (i := 2) rfl) k_) rfl rfl dn) ?_
  refine kS rfl (fun _ k_ => p_fld fl24_2 rfl dn) ?_
  refine kS rfl (fun _ k_ => p_ld ty22 (Asr.stays (S12.atX (i := 2) rfl) k_) rfl rfl dn) ?_
  refine kS rfl (fun _ k_ => p_len rfl sc22 dn) ?_
  refine kS rfl (fun _ k_ => p_fld fl24_2 rfl dn) ?_
  refine kS rfl (fun _ k_ => p_ld ty22 (Asr.stays (S12.atX (i := 2) rfl) k_) rfl rfl dn) ?_
  refine kS rfl (fun _ k_ => p_len rfl sc22 dn) ?_
  refine kS rfl (fun _ k_ => p_cut3 sc22 (Asr.stays (S12.atP (i := 0) rfl) k_) rfl rfl rfl dn) ?_
  refine kS rfl (fun _ k_ => p_ldA ty33 sz33 (Asr.stays (S12.atX (i := 1) rfl) k_) rfl rfl dn) ?_
  refine kC rfl ?_
  intro w13 k14; have S15 := S12.call k14
  have S21 := S15.base
  refine p_bsl (enc := eTallyCount) (l := ([a1] : List TallyCount)) (fun x => AG (eTallyCount x)) (fun _ => rfl) sc22 in33 eTallyCount_len rfl (by decide) (by decide) zr33_1 S21 rfl fun A16 c17 w18 S19 => ?_
  refine cN S19.keep fun w22 k23 => ?_
  have S24 := (S15.fromBase S19).call k23
  obtain ⟨h29, H⟩ := needS H
  refine p_appN (enc := eTallyCount) sc22 in33 rfl eTallyCount_len (by decide) S24 (rd_full (S24.atP (i := 0) rfl)).1 rfl (gr_sl eTallyCount_len (S24.atX (i := 0) rfl)) h29 (by simp) rfl rfl fun A27 c28 w25 S26 => ?_
  refine p_fld fl24_2 rfl ?_
  refine p_stP (pre := [I a0.Trips, I a0.Room]) (old := [SL A1 a0.Counts.length c2]) (post := []) (vs := [SL A27 (a0.Counts ++ ([a1] : List TallyCount)).length c28]) sz22 S26 (i := 4) rfl rfl rfl rfl (rfl : _ = SL A27 (a0.Counts ++ ([a1] : List TallyCount)).length c28) rfl rfl rfl rfl fun w31 S32 => ?_
  refine wp_nil ?_
  refine c_seq ?_
  refine reg ?_
  refine p_ldA ty24 sz24 (S32.atX (i := 4) rfl) rfl rfl ?_
  refine p_stP (pre := []) (old := [I 0, I 0, SL none 0 0]) (post := []) (vs := [I a0.Trips, I a0.Room, SL A27 (a0.Counts ++ ([a1] : List TallyCount)).length c28]) sz24 S32 (i := 2) rfl rfl rfl rfl (rfl : _ = AG [I a0.Trips, I a0.Room, SL A27 (a0.Counts ++ ([a1] : List TallyCount)).length c28]) rfl rfl rfl rfl fun w33 S34 => ?_
  refine wp_nil ?_
  obtain rfl := Option.some.inj H
  refine c_ret ?_; show bodyPostM (Fr none) 0 Tryd.prog Tryd.f78 _ .ret _ _
  refine ret_of (res1 rfl (rvA rfl ty24 sz24 (S34.atX (i := 2) rfl) rfl)) ?_
  exact ⟨_, rfl, A27, c28, rfl, S34.keep, ⟨S34.atX (i := 0) rfl, S34.newX (i := 0) rfl⟩, trivial⟩

def tally_Fits_j1 (a0 : TallyBook) (a1 : TallyCount) (z_1 : Unit) : Option (Bool × Int) :=
  (tally_with a0 a1).bind fun r15 =>
  (tally_nobody).bind fun r25 =>
  (tally_opened r15 (Tally_leave.mk (fun y29 y30 => tally_nobody_1 y29 y30))).bind fun r31 =>
  (tally_book_can (Tally_book.mk (TallyBook.mk r31.TallyBook.Trips r31.TallyBook.Room r15.Counts) r31.more_)).bind fun r39 =>
  some (r39, 0)

def tally_Fits (a0 : TallyBook) (a1 : TallyCount) : Option (Bool × Int) :=
  (tally_isCount a0 a1).bind fun r14 =>
  (tally_asked a0 r14).bind fun r20 =>
  bif (r20.2 != 0) then (some (false, r20.2))
  else (tally_Fits_j1 a0 a1 ())

set_option maxRecDepth 100000 in
theorem tally_Fits_ok {a0 : TallyBook} {a1 : TallyCount} {A1 : Option Addr} {c2 : Nat} {w : World} {r : Bool × Int} (H : tally_Fits a0 a1 = some r) (h3 : (rd eTallyCount 7 A1 c2 a0.Counts).ok w) (hg4 : (bl 0 [Value.func (.func 117) #[] #[], Value.func (.func 119) #[] #[]] 117).ok w) (hg5 : (bl 1 [I (-1), I (-1)] 115).ok w) : Calls Tryd.prog 36 #[AG [I a0.Trips, I a0.Room, SL A1 a0.Counts.length c2], AG [I a1.Who, I a1.From, I a1.To, I a1.Told, I a1.Unit, I a1.Under, I a1.Over]] w (RetV w (TU [B r.1, I r.2])) := by
  unfold tally_Fits at H
  refine fn_of (n := 25) Tryd.func36 rfl rfl (Nat.le_of_ble_eq_true rfl) ?_
  have S : St w (fun _ => False) w [] [rd eTallyCount 7 A1 c2 a0.Counts, bl 0 [Value.func (.func 117) #[] #[], Value.func (.func 119) #[] #[]] 117, bl 1 [I (-1), I (-1)] 115] := St.start w _ _ (List.forall_mem_cons.2 ⟨h3, (List.forall_mem_cons.2 ⟨hg4, (List.forall_mem_cons.2 ⟨hg5, (fun _ h_ => (List.not_mem_nil h_).elim)⟩)⟩)⟩)
  refine c_seq ?_
  refine reg ?_
  refine p_boxA rfl S fun b6 w7 S8 => ?_
  refine p_boxA rfl S8 fun b9 w10 S11 => ?_
  refine p_aB rfl ?_
  refine p_aI rfl ?_
  refine wp_nil ?_
  refine c_join (α := Unit) (β := Unit) (fun z_1 y_1 => [(2, P b6 0), (3, P b9 0)]) (fun z_1 y_1 w_ => tally_Fits_j1 a0 a1 z_1 = some r ∧ St w (fun _ => False) w_ [bl b9 [I a1.Who, I a1.From, I a1.To, I a1.Told, I a1.Unit, I a1.Under, I a1.Over] 33, bl b6 [I a0.Trips, I a0.Room, SL A1 a0.Counts.length c2] 24] [rd eTallyCount 7 A1 c2 a0.Counts, bl 0 [Value.func (.func 117) #[] #[], Value.func (.func 119) #[] #[]] 117, bl 1 [I (-1), I (-1)] 115]) ?_ ?_
  · refine c_seq ?_
    obtain ⟨r14, h15, H⟩ := bindS H
    obtain ⟨r20, h21, H⟩ := bindS H
    refine reg_fl mixed 9 7 (by kernel_rfl) [rv (AG [I a0.Trips, I a0.Room, SL A1 a0.Counts.length c2]), rv (AG [I a0.Trips, I a0.Room, SL A1 a0.Counts.length c2]), rv (AG [I a1.Who, I a1.From, I a1.To, I a1.Told, I a1.Unit, I a1.Under, I a1.Over]), rv (B r14), rx (α := (Option Addr) × Nat × (Option Nat)) (fun ⟨A24, c25, m26⟩ => TU [AG [I r20.1.TallyBook.Trips, I r20.1.TallyBook.Room, SL A24 r20.1.TallyBook.Counts.length c25, Value.map m26], I r20.2]) (fun ⟨A24, c25, m26⟩ lo hi => BtwL lo hi [rd eTallyCount 7 A1 c2 a0.Counts] (rd eTallyCount 7 A24 c25 r20.1.TallyBook.Counts) ∧ BtwL lo hi [] (mpo ekT iE m26 r20.1.more_) ∧ True) (fun ⟨A24, c25, m26⟩ => [rd eTallyCount 7 A24 c25 r20.1.TallyBook.Counts, mpo ekT iE m26 r20.1.more_]), dv 13 some, dv 8 (exG 0), dv 8 (exG 1), rx (α := Nat) (fun b43 => P b43 0) (fun b43 lo hi => BtwL lo hi [] (bl b43 [I 0, I 0, SL none 0 0, Value.map none] 86) ∧ True) (fun b43 => [bl b43 [I 0, I 0, SL none 0 0, Value.map none] 86])] [[], [], [], [], [], [13], [8], [8], []] rfl (by kernel_rfl) [[], [], [], [1, 2], [0, 1, 2, 3], [0, 1, 2, 3, 4], [0, 1, 2, 3, 4, 5], [0, 1, 2, 3, 4, 5], [], [0, 1, 2, 3, 4, 5, 6, 8], [0, 1, 2, 3, 4, 5, 6, 7, 8, 9]] (by kernel_rfl) ⟨?_, ?_, ?_, ?_, ?_, ?_, ?_, ?_, ?_, trivial⟩ ?_ ?_
    · intro e_ w_ k_ hf_ hR_
      have S_ : St w_ (fun _ => False) w_ [] [bl b9 [I a1.Who, I a1.From, I a1.To, I a1.Told, I a1.Unit, I a1.Under, I a1.Over] 33, bl b6 [I a0.Trips, I a0.Room, SL A1 a0.Counts.length c2] 24, rd eTallyCount 7 A1 c2 a0.Counts, bl 0 [Value.func (.func 117) #[] #[], Value.func (.func 119) #[] #[]] 117, bl 1 [I (-1), I (-1)] 115] := S11.asP k_
      refine hopE [(2, P b6 0)] ⟨((hf_ 2 rfl).trans (rfl : _ = P b6 0)), trivial⟩ ?_
      refine p_ldA ty24 sz24 (S_.atP (i := 1) rfl) rfl rfl ?_
      refine wp_nil ?_
      exact ⟨_, rfl, S_.keep, rfl⟩
    · intro e_ w_ k_ hf_ hR_
      have S_ : St w_ (fun _ => False) w_ [] [bl b9 [I a1.Who, I a1.From, I a1.To, I a1.Told, I a1.Unit, I a1.Under, I a1.Over] 33, bl b6 [I a0.Trips, I a0.Room, SL A1 a0.Counts.length c2] 24, rd eTallyCount 7 A1 c2 a0.Counts, bl 0 [Value.func (.func 117) #[] #[], Value.func (.func 119) #[] #[]] 117, bl 1 [I (-1), I (-1)] 115] := S11.asP k_
      refine hopE [(2, P b6 0)] ⟨((hf_ 2 rfl).trans (rfl : _ = P b6 0)), trivial⟩ ?_
      refine p_ldA ty24 sz24 (S_.atP (i := 1) rfl) rfl rfl ?_
      refine wp_nil ?_
      exact ⟨_, rfl, S_.keep, rfl⟩
    · intro e_ w_ k_ hf_ hR_
      have S_ : St w_ (fun _ => False) w_ [] [bl b9 [I a1.Who, I a1.From, I a1.To, I a1.Told, I a1.Unit, I a1.Under, I a1.Over] 33, bl b6 [I a0.Trips, I a0.Room, SL A1 a0.Counts.length c2] 24, rd eTallyCount 7 A1 c2 a0.Counts, bl 0 [Value.func (.func 117) #[] #[], Value.func (.func 119) #[] #[]] 117, bl 1 [I (-1), I (-1)] 115] := S11.asP k_
      refine hopE [(3, P b9 0)] ⟨((hf_ 3 rfl).trans (rfl : _ = P b9 0)), trivial⟩ ?_
      refine p_ldA ty33 sz33 (S_.atP (i := 0) rfl) rfl rfl ?_
      refine wp_nil ?_
      exact ⟨_, rfl, S_.keep, rfl⟩
    · intro e_ w_ k_ hf_ hR_
      have S_ : St w_ (fun _ => False) w_ [] [bl b9 [I a1.Who, I a1.From, I a1.To, I a1.Told, I a1.Unit, I a1.Under, I a1.Over] 33, bl b6 [I a0.Trips, I a0.Room, SL A1 a0.Counts.length c2] 24, rd eTallyCount 7 A1 c2 a0.Counts, bl 0 [Value.func (.func 117) #[] #[], Value.func (.func 119) #[] #[]] 117, bl 1 [I (-1), I (-1)] 115] := S11.asP k_
      obtain ⟨_, _, _, _, q12⟩ := hR_ 1 10 rfl (Nat.le_of_ble_eq_true rfl) rfl
      obtain ⟨_, _, _, _, q13⟩ := hR_ 2 11 rfl (Nat.le_of_ble_eq_true rfl) rfl
      refine hopE [(10, AG [I a0.Trips, I a0.Room, SL A1 a0.Counts.length c2]), (11, AG [I a1.Who, I a1.From, I a1.To, I a1.Told, I a1.Unit, I a1.Under, I a1.Over])] ⟨q12, q13, trivial⟩ ?_
      refine p_cv (tally_isCount_ok h15 (S_.atP (i := 2) rfl)) fu77 rfl S_ fun w16 S17 => ?_
      refine wp_nil ?_
      exact ⟨_, rfl, S17.keep, rfl⟩
    · intro e_ w_ k_ hf_ hR_
      have S_ : St w_ (fun _ => False) w_ [] [bl b9 [I a1.Who, I a1.From, I a1.To, I a1.Told, I a1.Unit, I a1.Under, I a1.Over] 33, bl b6 [I a0.Trips, I a0.Room, SL A1 a0.Counts.length c2] 24, rd eTallyCount 7 A1 c2 a0.Counts, bl 0 [Value.func (.func 117) #[] #[], Value.func (.func 119) #[] #[]] 117, bl 1 [I (-1), I (-1)] 115] := S11.asP k_
      obtain ⟨_, _, _, _, q18⟩ := hR_ 0 9 rfl (Nat.le_of_ble_eq_true rfl) rfl
      obtain ⟨_, _, _, _, q19⟩ := hR_ 3 12 rfl (Nat.le_of_ble_eq_true rfl) rfl
      refine hopE [(9, AG [I a0.Trips, I a0.Room, SL A1 a0.Counts.length c2]), (12, B r14)] ⟨q18, q19, trivial⟩ ?_
      refine p_cal (tally_asked_ok h21 (S_.atP (i := 2) rfl) (S_.atP (i := 3) rfl) (S_.atP (i := 4) rfl)) fu74 rfl ?_
      rintro _ w22 ⟨A24, c25, m26, rfl, k23, ⟨o27, n28⟩, ⟨o29, n30⟩, _⟩
      have S31 := S_.callN k23 [rd eTallyCount 7 A24 c25 r20.1.TallyBook.Counts, mpo ekT iE m26 r20.1.more_] (List.forall_mem_cons.2 ⟨⟨o27, Al.inL n28 ((List.forall_mem_cons.2 ⟨(fp_mem (i := 2) rfl), (fun _ h_ => (List.not_mem_nil h_).elim)⟩))⟩, (List.forall_mem_cons.2 ⟨⟨o29, New.inL n30⟩, (fun _ h_ => (List.not_mem_nil h_).elim)⟩)⟩)
      refine wp_nil ?_
      exact ⟨_, rfl, S31.keep, ⟨(A24, c25, m26), rfl, ⟨BtwL.of n28 rfl (S31.atP (i := 0) rfl) rfl, BtwL.of (New.al (New.mono n30 S_.keep.size)) rfl (S31.atP (i := 1) rfl) rfl, trivial⟩, (List.forall_mem_cons.2 ⟨(S31.atP (i := 0) rfl), (List.forall_mem_cons.2 ⟨(S31.atP (i := 1) rfl), (fun _ h_ => (List.not_mem_nil h_).elim)⟩)⟩)⟩⟩
    · intro e_ w_ k_ hf_ hR_
      have S_ : St w_ (fun _ => False) w_ [] [bl b9 [I a1.Who, I a1.From, I a1.To, I a1.Told, I a1.Unit, I a1.Under, I a1.Over] 33, bl b6 [I a0.Trips, I a0.Room, SL A1 a0.Counts.length c2] 24, rd eTallyCount 7 A1 c2 a0.Counts, bl 0 [Value.func (.func 117) #[] #[], Value.func (.func 119) #[] #[]] 117, bl 1 [I (-1), I (-1)] 115] := S11.asP k_
      obtain ⟨_, _, _, _, ⟨A24, c25, m26⟩, q32, p33, a34⟩ := hR_ 4 13 rfl (Nat.le_of_ble_eq_true rfl) rfl
      replace q32 : e_ 13 = TU [AG [I r20.1.TallyBook.Trips, I r20.1.TallyBook.Room, SL A24 r20.1.TallyBook.Counts.length c25, Value.map m26], I r20.2] := q32
      have S_ := St.addL' S_ (a34 _ (.head _)) (fun _ _ _ h_ => (List.not_mem_nil h_).elim)
      have S_ := St.addL' S_ (a34 _ (.tail _ (.head _))) (fun _ _ _ h_ => (List.not_mem_nil h_).elim)
      refine hopE [(13, TU [AG [I r20.1.TallyBook.Trips, I r20.1.TallyBook.Room, SL A24 r20.1.TallyBook.Counts.length c25, Value.map m26], I r20.2])] ⟨q32, trivial⟩ ?_
      refine p_mT rfl ?_
      refine wp_nil ?_
      exact ⟨_, rfl, S_.keep, rfl⟩
    · intro e_ w_ k_ hf_ hR_
      have S_ : St w_ (fun _ => False) w_ [] [bl b9 [I a1.Who, I a1.From, I a1.To, I a1.Told, I a1.Unit, I a1.Under, I a1.Over] 33, bl b6 [I a0.Trips, I a0.Room, SL A1 a0.Counts.length c2] 24, rd eTallyCount 7 A1 c2 a0.Counts, bl 0 [Value.func (.func 117) #[] #[], Value.func (.func 119) #[] #[]] 117, bl 1 [I (-1), I (-1)] 115] := S11.asP k_
      obtain ⟨_, _, _, _, ⟨A24, c25, m26⟩, q36, p37, a38⟩ := hR_ 4 13 rfl (Nat.le_of_ble_eq_true rfl) rfl
      replace q36 : e_ 13 = TU [AG [I r20.1.TallyBook.Trips, I r20.1.TallyBook.Room, SL A24 r20.1.TallyBook.Counts.length c25, Value.map m26], I r20.2] := q36
      have S_ := St.addL' S_ (a38 _ (.head _)) (fun _ _ _ h_ => (List.not_mem_nil h_).elim)
      have S_ := St.addL' S_ (a38 _ (.tail _ (.head _))) (fun _ _ _ h_ => (List.not_mem_nil h_).elim)
      obtain ⟨_, _, _, _, q35⟩ := hR_ 5 8 rfl (Nat.le_of_ble_eq_true rfl) rfl
      replace q35 : e_ 8 = TU [AG [I r20.1.TallyBook.Trips, I r20.1.TallyBook.Room, SL A24 r20.1.TallyBook.Counts.length c25, Value.map m26], I r20.2] := (Option.some.inj ((congrArg some q36).symm.trans q35)).symm
      refine hopE [(8, TU [AG [I r20.1.TallyBook.Trips, I r20.1.TallyBook.Room, SL A24 r20.1.TallyBook.Counts.length c25, Value.map m26], I r20.2])] ⟨q35, trivial⟩ ?_
      refine p_ext rfl rfl ?_
      refine wp_nil ?_
      exact ⟨_, rfl, S_.keep, rfl⟩
    · intro e_ w_ k_ hf_ hR_
      have S_ : St w_ (fun _ => False) w_ [] [bl b9 [I a1.Who, I a1.From, I a1.To, I a1.Told, I a1.Unit, I a1.Under, I a1.Over] 33, bl b6 [I a0.Trips, I a0.Room, SL A1 a0.Counts.length c2] 24, rd eTallyCount 7 A1 c2 a0.Counts, bl 0 [Value.func (.func 117) #[] #[], Value.func (.func 119) #[] #[]] 117, bl 1 [I (-1), I (-1)] 115] := S11.asP k_
      obtain ⟨_, _, _, _, ⟨A24, c25, m26⟩, q40, p41, a42⟩ := hR_ 4 13 rfl (Nat.le_of_ble_eq_true rfl) rfl
      replace q40 : e_ 13 = TU [AG [I r20.1.TallyBook.Trips, I r20.1.TallyBook.Room, SL A24 r20.1.TallyBook.Counts.length c25, Value.map m26], I r20.2] := q40
      have S_ := St.addL' S_ (a42 _ (.head _)) (fun _ _ _ h_ => (List.not_mem_nil h_).elim)
      have S_ := St.addL' S_ (a42 _ (.tail _ (.head _))) (fun _ _ _ h_ => (List.not_mem_nil h_).elim)
      obtain ⟨_, _, _, _, q39⟩ := hR_ 5 8 rfl (Nat.le_of_ble_eq_true rfl) rfl
      replace q39 : e_ 8 = TU [AG [I r20.1.TallyBook.Trips, I r20.1.TallyBook.Room, SL A24 r20.1.TallyBook.Counts.length c25, Value.map m26], I r20.2] := (Option.some.inj ((congrArg some q40).symm.trans q39)).symm
      refine hopE [(8, TU [AG [I r20.1.TallyBook.Trips, I r20.1.TallyBook.Room, SL A24 r20.1.TallyBook.Counts.length c25, Value.map m26], I r20.2])] ⟨q39, trivial⟩ ?_
      refine p_ext rfl rfl ?_
      refine wp_nil ?_
      exact ⟨_, rfl, S_.keep, rfl⟩
    · intro e_ w_ k_ hf_ hR_
      have S_ : St w_ (fun _ => False) w_ [] [bl b9 [I a1.Who, I a1.From, I a1.To, I a1.Told, I a1.Unit, I a1.Under, I a1.Over] 33, bl b6 [I a0.Trips, I a0.Room, SL A1 a0.Counts.length c2] 24, rd eTallyCount 7 A1 c2 a0.Counts, bl 0 [Value.func (.func 117) #[] #[], Value.func (.func 119) #[] #[]] 117, bl 1 [I (-1), I (-1)] 115] := S11.asP k_
      refine hopE [] trivial ?_
      refine p_allA in86 S_ fun b43 w44 S45 => ?_
      refine wp_nil ?_
      exact ⟨_, rfl, S45.keep, ⟨b43, rfl, ⟨BtwL.of (New.al (S45.newX (i := 0) rfl)) rfl (S45.atX (i := 0) rfl) rfl, trivial⟩, (List.forall_mem_cons.2 ⟨(S45.atX (i := 0) rfl), (fun _ h_ => (List.not_mem_nil h_).elim)⟩)⟩⟩
    · intro e46 w47 lo48 hi49 k50 hf51 hR52 hd53
      have S54 := S11.call k50
      have q55 : e46 9 = AG [I a0.Trips, I a0.Room, SL A1 a0.Counts.length c2] := (hR52 0 9 (Nat.le_of_ble_eq_true rfl) rfl).2.2.2
      have q56 : e46 10 = AG [I a0.Trips, I a0.Room, SL A1 a0.Counts.length c2] := (hR52 1 10 (Nat.le_of_ble_eq_true rfl) rfl).2.2.2
      have q57 : e46 11 = AG [I a1.Who, I a1.From, I a1.To, I a1.Told, I a1.Unit, I a1.Under, I a1.Over] := (hR52 2 11 (Nat.le_of_ble_eq_true rfl) rfl).2.2.2
      have q58 : e46 12 = B r14 := (hR52 3 12 (Nat.le_of_ble_eq_true rfl) rfl).2.2.2
      obtain ⟨h60, h61, h62, ⟨A24, c25, m26⟩, q59, h63, h64⟩ := hR52 4 13 (Nat.le_of_ble_eq_true rfl) rfl
      replace q59 : e46 13 = TU [AG [I r20.1.TallyBook.Trips, I r20.1.TallyBook.Room, SL A24 r20.1.TallyBook.Counts.length c25, Value.map m26], I r20.2] := q59
      obtain ⟨p65, p66, _⟩ := h63
      have S67 := St.addR S54 (h64 _ (.head _)) (fun b_ h_ x_ hx_ hb_ => (p65 b_ h_).elim (fun q_ => by have := x_.inb _ _ (S11.xs x_ hx_) hb_; omega) (fun ⟨q_, hq_, hqb_⟩ => S11.dp x_ hx_ q_ ((List.forall_mem_cons.2 ⟨List.mem_of_getElem? (i := 0) rfl, (fun _ h_ => (List.not_mem_nil h_).elim)⟩) q_ hq_) b_ hb_ hqb_))
      have S68 := St.addR S67 (h64 _ (.tail _ (.head _))) (fun b_ h_ x_ hx_ hb_ => (p66 b_ h_).elim (fun q_ => by have := x_.inb _ _ (S11.xs x_ hx_) hb_; omega) (fun ⟨q_, hq_, hqb_⟩ => S11.dp x_ hx_ q_ (((fun _ h_ => (List.not_mem_nil h_).elim)) q_ hq_) b_ hb_ hqb_))
      have q69 : e46 8 = TU [AG [I r20.1.TallyBook.Trips, I r20.1.TallyBook.Room, SL A24 r20.1.TallyBook.Counts.length c25, Value.map m26], I r20.2] := (Option.some.inj ((congrArg some q59).symm.trans (hR52 5 8 (Nat.le_of_ble_eq_true rfl) rfl).2.2.2)).symm
      have q70 : e46 14 = AG [I r20.1.TallyBook.Trips, I r20.1.TallyBook.Room, SL A24 r20.1.TallyBook.Counts.length c25, Value.map m26] := (Option.some.inj ((congrArg (exG 0) q69).symm.trans (hR52 6 14 (Nat.le_of_ble_eq_true rfl) rfl).2.2.2)).symm
      have q71 : e46 15 = I r20.2 := (Option.some.inj ((congrArg (exG 1) q69).symm.trans (hR52 7 15 (Nat.le_of_ble_eq_true rfl) rfl).2.2.2)).symm
      obtain ⟨h73, h74, h75, b43, q72, h76, h77⟩ := hR52 8 6 (Nat.le_of_ble_eq_true rfl) rfl
      replace q72 : e46 6 = P b43 0 := q72
      obtain ⟨p78, _⟩ := h76
      have S80 := St.addO S68 (h77 _ (.head _)) (fun b_ h_ => (p78 b_ h_).elim (fun q_ => Nat.le_trans S11.keep.size (Nat.le_trans h73 q_.1)) (fun ⟨_, hq_, _⟩ => (List.not_mem_nil hq_).elim)) (List.forall_mem_cons.2 ⟨(fun b_ h1_ h2_ => (p78 b_ h1_).elim (fun q2_ => by have q1_ := Asr.inb _ _ _ (S11.atX (i := 0) rfl) h2_; omega) (fun ⟨_, hq_, _⟩ => (List.not_mem_nil hq_).elim)), (List.forall_mem_cons.2 ⟨(fun b_ h1_ h2_ => (p78 b_ h1_).elim (fun q2_ => by have q1_ := Asr.inb _ _ _ (S11.atX (i := 1) rfl) h2_; omega) (fun ⟨_, hq_, _⟩ => (List.not_mem_nil hq_).elim)), (fun _ h_ => (List.not_mem_nil h_).elim)⟩)⟩) (List.forall_mem_cons.2 ⟨(fun b_ h1_ h2_ => (p78 b_ h1_).elim (fun q1_ => (p66 b_ h2_).elim (fun q2_ => by have q3_ := hd53 8 4 (Nat.le_of_ble_eq_true rfl) (Nat.le_of_ble_eq_true rfl) (by decide); omega) (fun ⟨q_, hq_, hqb_⟩ => by have q5_ := h73; have q4_ := Asr.inb _ _ _ (S11.ps q_ (((fun _ h_ => (List.not_mem_nil h_).elim)) q_ hq_)) hqb_; omega)) (fun ⟨_, hq_, _⟩ => (List.not_mem_nil hq_).elim)), (List.forall_mem_cons.2 ⟨(fun b_ h1_ h2_ => (p78 b_ h1_).elim (fun q1_ => (p65 b_ h2_).elim (fun q2_ => by have q3_ := hd53 8 4 (Nat.le_of_ble_eq_true rfl) (Nat.le_of_ble_eq_true rfl) (by decide); omega) (fun ⟨q_, hq_, hqb_⟩ => by have q5_ := h73; have q4_ := Asr.inb _ _ _ (S11.ps q_ ((List.forall_mem_cons.2 ⟨List.mem_of_getElem? (i := 0) rfl, (fun _ h_ => (List.not_mem_nil h_).elim)⟩) q_ hq_)) hqb_; omega)) (fun ⟨_, hq_, _⟩ => (List.not_mem_nil hq_).elim)), (List.forall_mem_cons.2 ⟨(fun b_ h1_ h2_ => (p78 b_ h1_).elim (fun q2_ => by have q1_ := Asr.inb _ _ _ (S11.atP (i := 0) rfl) h2_; omega) (fun ⟨_, hq_, _⟩ => (List.not_mem_nil hq_).elim)), (List.forall_mem_cons.2 ⟨(fun b_ h1_ h2_ => (p78 b_ h1_).elim (fun q2_ => by have q1_ := Asr.inb _ _ _ (S11.atP (i := 1) rfl) h2_; omega) (fun ⟨_, hq_, _⟩ => (List.not_mem_nil hq_).elim)), (List.forall_mem_cons.2 ⟨(fun b_ h1_ h2_ => (p78 b_ h1_).elim (fun q2_ => by have q1_ := Asr.inb _ _ _ (S11.atP (i := 2) rfl) h2_; omega) (fun ⟨_, hq_, _⟩ => (List.not_mem_nil hq_).elim)), (fun _ h_ => (List.not_mem_nil h_).elim)⟩)⟩)⟩)⟩)⟩)
      refine tailE [(2, P b6 0), (3, P b9 0), (6, P b43 0), (14, AG [I r20.1.TallyBook.Trips, I r20.1.TallyBook.Room, SL A24 r20.1.TallyBook.Counts.length c25, Value.map m26]), (15, I r20.2)] ⟨((hf51 2 rfl).trans (rfl : _ = P b6 0)), ((hf51 3 rfl).trans (rfl : _ = P b9 0)), q72, q70, q71, trivial⟩ ?_
      intro g81
      refine p_stP (pre := []) (old := [I 0, I 0, SL none 0 0, Value.map none]) (post := []) (vs := [I r20.1.TallyBook.Trips, I r20.1.TallyBook.Room, SL A24 r20.1.TallyBook.Counts.length c25, Value.map m26]) sz86 S80 (i := 0) rfl rfl rfl rfl (rfl : _ = AG [I r20.1.TallyBook.Trips, I r20.1.TallyBook.Room, SL A24 r20.1.TallyBook.Counts.length c25, Value.map m26]) rfl rfl rfl rfl fun w82 S83 => ?_
      refine p_aI rfl ?_
      refine wp_nil ?_
      refine c_seq ?_
      refine reg ?_
      refine p_mI rfl ?_
      refine p_cmp rfl rfl rfl ?_
      refine wp_nil ?_
      refine c_cond rfl (fun c84 => ?_) (fun c84 => ?_)
      · replace H := condT c84 H
        refine c_seq ?_
        refine reg ?_
        refine p_mI rfl ?_
        refine p_aB rfl ?_
        refine p_aI rfl ?_
        refine wp_nil ?_
        obtain rfl := Option.some.inj H
        refine c_ret ?_; show bodyPostM (Fr none) 0 Tryd.prog Tryd.f36 _ .ret _ _
        refine ret_of (res2 rfl (rvT (rfl : _ = B false)) (rvT (rfl : _ = I r20.2))) ?_
        exact ⟨_, rfl, rfl, S83.keep⟩
      · replace H := condF c84 H
        refine c_skip ?_
        have S85 := S83.pk [1, 2] (by decide) [2, 3, 4] rfl rfl
        exact ⟨(), (), _, rfl, ⟨rfl, rfl, trivial⟩, H, S85⟩
    · intro e85 w86 lo87 hi88 k89 hf90 hR91 hd92
      have S93 := S11.call k89
      have q94 : e85 9 = AG [I a0.Trips, I a0.Room, SL A1 a0.Counts.length c2] := (hR91 0 9 (Nat.le_of_ble_eq_true rfl) (by decide) rfl).2.2.2
      have q95 : e85 10 = AG [I a0.Trips, I a0.Room, SL A1 a0.Counts.length c2] := (hR91 1 10 (Nat.le_of_ble_eq_true rfl) (by decide) rfl).2.2.2
      have q96 : e85 11 = AG [I a1.Who, I a1.From, I a1.To, I a1.Told, I a1.Unit, I a1.Under, I a1.Over] := (hR91 2 11 (Nat.le_of_ble_eq_true rfl) (by decide) rfl).2.2.2
      have q97 : e85 12 = B r14 := (hR91 3 12 (Nat.le_of_ble_eq_true rfl) (by decide) rfl).2.2.2
      obtain ⟨h99, h100, h101, ⟨A24, c25, m26⟩, q98, h102, h103⟩ := hR91 4 13 (Nat.le_of_ble_eq_true rfl) (by decide) rfl
      replace q98 : e85 13 = TU [AG [I r20.1.TallyBook.Trips, I r20.1.TallyBook.Room, SL A24 r20.1.TallyBook.Counts.length c25, Value.map m26], I r20.2] := q98
      obtain ⟨p104, p105, _⟩ := h102
      have S106 := St.addR S93 (h103 _ (.head _)) (fun b_ h_ x_ hx_ hb_ => (p104 b_ h_).elim (fun q_ => by have := x_.inb _ _ (S11.xs x_ hx_) hb_; omega) (fun ⟨q_, hq_, hqb_⟩ => S11.dp x_ hx_ q_ ((List.forall_mem_cons.2 ⟨List.mem_of_getElem? (i := 0) rfl, (fun _ h_ => (List.not_mem_nil h_).elim)⟩) q_ hq_) b_ hb_ hqb_))
      have S107 := St.addR S106 (h103 _ (.tail _ (.head _))) (fun b_ h_ x_ hx_ hb_ => (p105 b_ h_).elim (fun q_ => by have := x_.inb _ _ (S11.xs x_ hx_) hb_; omega) (fun ⟨q_, hq_, hqb_⟩ => S11.dp x_ hx_ q_ (((fun _ h_ => (List.not_mem_nil h_).elim)) q_ hq_) b_ hb_ hqb_))
      have q108 : e85 8 = TU [AG [I r20.1.TallyBook.Trips, I r20.1.TallyBook.Room, SL A24 r20.1.TallyBook.Counts.length c25, Value.map m26], I r20.2] := (Option.some.inj ((congrArg some q98).symm.trans (hR91 5 8 (Nat.le_of_ble_eq_true rfl) (by decide) rfl).2.2.2)).symm
      have q109 : e85 14 = AG [I r20.1.TallyBook.Trips, I r20.1.TallyBook.Room, SL A24 r20.1.TallyBook.Counts.length c25, Value.map m26] := (Option.some.inj ((congrArg (exG 0) q108).symm.trans (hR91 6 14 (Nat.le_of_ble_eq_true rfl) (by decide) rfl).2.2.2)).symm
      obtain ⟨h111, h112, h113, b43, q110, h114, h115⟩ := hR91 8 6 (Nat.le_of_ble_eq_true rfl) (by decide) rfl
      replace q110 : e85 6 = P b43 0 := q110
      obtain ⟨p116, _⟩ := h114
      have S118 := St.addO S107 (h115 _ (.head _)) (fun b_ h_ => (p116 b_ h_).elim (fun q_ => Nat.le_trans S11.keep.size (Nat.le_trans h111 q_.1)) (fun ⟨_, hq_, _⟩ => (List.not_mem_nil hq_).elim)) (List.forall_mem_cons.2 ⟨(fun b_ h1_ h2_ => (p116 b_ h1_).elim (fun q2_ => by have q1_ := Asr.inb _ _ _ (S11.atX (i := 0) rfl) h2_; omega) (fun ⟨_, hq_, _⟩ => (List.not_mem_nil hq_).elim)), (List.forall_mem_cons.2 ⟨(fun b_ h1_ h2_ => (p116 b_ h1_).elim (fun q2_ => by have q1_ := Asr.inb _ _ _ (S11.atX (i := 1) rfl) h2_; omega) (fun ⟨_, hq_, _⟩ => (List.not_mem_nil hq_).elim)), (fun _ h_ => (List.not_mem_nil h_).elim)⟩)⟩) (List.forall_mem_cons.2 ⟨(fun b_ h1_ h2_ => (p116 b_ h1_).elim (fun q1_ => (p105 b_ h2_).elim (fun q2_ => by have q3_ := hd92 8 4 (Nat.le_of_ble_eq_true rfl) (Nat.le_of_ble_eq_true rfl) (by decide) (by decide) (by decide); omega) (fun ⟨q_, hq_, hqb_⟩ => by have q5_ := h111; have q4_ := Asr.inb _ _ _ (S11.ps q_ (((fun _ h_ => (List.not_mem_nil h_).elim)) q_ hq_)) hqb_; omega)) (fun ⟨_, hq_, _⟩ => (List.not_mem_nil hq_).elim)), (List.forall_mem_cons.2 ⟨(fun b_ h1_ h2_ => (p116 b_ h1_).elim (fun q1_ => (p104 b_ h2_).elim (fun q2_ => by have q3_ := hd92 8 4 (Nat.le_of_ble_eq_true rfl) (Nat.le_of_ble_eq_true rfl) (by decide) (by decide) (by decide); omega) (fun ⟨q_, hq_, hqb_⟩ => by have q5_ := h111; have q4_ := Asr.inb _ _ _ (S11.ps q_ ((List.forall_mem_cons.2 ⟨List.mem_of_getElem? (i := 0) rfl, (fun _ h_ => (List.not_mem_nil h_).elim)⟩) q_ hq_)) hqb_; omega)) (fun ⟨_, hq_, _⟩ => (List.not_mem_nil hq_).elim)), (List.forall_mem_cons.2 ⟨(fun b_ h1_ h2_ => (p116 b_ h1_).elim (fun q2_ => by have q1_ := Asr.inb _ _ _ (S11.atP (i := 0) rfl) h2_; omega) (fun ⟨_, hq_, _⟩ => (List.not_mem_nil hq_).elim)), (List.forall_mem_cons.2 ⟨(fun b_ h1_ h2_ => (p116 b_ h1_).elim (fun q2_ => by have q1_ := Asr.inb _ _ _ (S11.atP (i := 1) rfl) h2_; omega) (fun ⟨_, hq_, _⟩ => (List.not_mem_nil hq_).elim)), (List.forall_mem_cons.2 ⟨(fun b_ h1_ h2_ => (p116 b_ h1_).elim (fun q2_ => by have q1_ := Asr.inb _ _ _ (S11.atP (i := 2) rfl) h2_; omega) (fun ⟨_, hq_, _⟩ => (List.not_mem_nil hq_).elim)), (fun _ h_ => (List.not_mem_nil h_).elim)⟩)⟩)⟩)⟩)⟩)
      refine tailE [(2, P b6 0), (3, P b9 0), (6, P b43 0), (8, TU [AG [I r20.1.TallyBook.Trips, I r20.1.TallyBook.Room, SL A24 r20.1.TallyBook.Counts.length c25, Value.map m26], I r20.2]), (14, AG [I r20.1.TallyBook.Trips, I r20.1.TallyBook.Room, SL A24 r20.1.TallyBook.Counts.length c25, Value.map m26])] ⟨((hf90 2 rfl).trans (rfl : _ = P b6 0)), ((hf90 3 rfl).trans (rfl : _ = P b9 0)), q110, q108, q109, trivial⟩ ?_
      intro g119
      refine p_stP (pre := []) (old := [I 0, I 0, SL none 0 0, Value.map none]) (post := []) (vs := [I r20.1.TallyBook.Trips, I r20.1.TallyBook.Room, SL A24 r20.1.TallyBook.Counts.length c25, Value.map m26]) sz86 S118 (i := 0) rfl rfl rfl rfl (rfl : _ = AG [I r20.1.TallyBook.Trips, I r20.1.TallyBook.Room, SL A24 r20.1.TallyBook.Counts.length c25, Value.map m26]) rfl rfl rfl rfl fun w120 S121 => ?_
      refine p_ext rfl rfl ?_
      refine p_aI rfl ?_
      refine wp_nil ?_
      refine c_seq ?_
      refine reg ?_
      refine p_mI rfl ?_
      refine p_cmp rfl rfl rfl ?_
      refine wp_nil ?_
      refine c_cond rfl (fun c122 => ?_) (fun c122 => ?_)
      · replace H := condT c122 H
        refine c_seq ?_
        refine reg ?_
        refine p_mI rfl ?_
        refine p_aB rfl ?_
        refine p_aI rfl ?_
        refine wp_nil ?_
        obtain rfl := Option.some.inj H
        refine c_ret ?_; show bodyPostM (Fr none) 0 Tryd.prog Tryd.f36 _ .ret _ _
        refine ret_of (res2 rfl (rvT (rfl : _ = B false)) (rvT (rfl : _ = I r20.2))) ?_
        exact ⟨_, rfl, rfl, S121.keep⟩
      · replace H := condF c122 H
        refine c_skip ?_
        have S123 := S121.pk [1, 2] (by decide) [2, 3, 4] rfl rfl
        exact ⟨(), (), _, rfl, ⟨rfl, rfl, trivial⟩, H, S123⟩
  · intro z_1 y_1 e12 w13 S14; obtain ⟨H, S14⟩ := S14
    unfold tally_Fits_j1 at H
    refine c_seq ?_
    refine reg ?_
    refine p_ldA ty24 sz24 (S14.atX (i := 1) rfl) rfl rfl ?_
    refine p_ldA ty33 sz33 (S14.atX (i := 0) rfl) rfl rfl ?_
    obtain ⟨r15, h16, H⟩ := bindS H
    refine p_cal (tally_with_ok h16 (S14.atP (i := 0) rfl)) fu78 rfl ?_
    rintro _ w17 ⟨A19, c20, rfl, k18, ⟨o21, n22⟩, _⟩
    have S24 := S14.addNew k18 o21 n22
    obtain ⟨r25, h26, H⟩ := bindS H
    refine p_cv (tally_nobody_ok h26) fu67 rfl S24 fun w27 S28 => ?_
    obtain ⟨r31, h32, H⟩ := bindS H
    refine p_cal (tally_opened_ok h32 (gr_rd eTallyCount_len (S28.atX (i := 0) rfl)) (by kernel_rfl) (fun _ _ _ _ k_ hr_ => tally_nobody_1_ok hr_) (S28.atP (i := 1) rfl)) fu66 rfl ?_
    rintro _ w33 ⟨m35, rfl, k34, ⟨o36, n37⟩, _⟩
    have S38 := S28.addNew k34 o36 n37
    obtain ⟨r39, h40, H⟩ := bindS H
    refine p_cv (tally_book_can_ok h40 (gr_rd eTallyCount_len (S38.atX (i := 1) rfl)) (mpo_some (S38.atX (i := 0) rfl)) (S38.atP (i := 2) rfl)) fu68 rfl S38 fun w41 S42 => ?_
    refine p_aB rfl ?_
    refine p_aI rfl ?_
    refine wp_nil ?_
    obtain rfl := Option.some.inj H
    refine c_ret ?_; show bodyPostM (Fr none) 0 Tryd.prog Tryd.f36 _ .ret _ _
    refine ret_of (res2 rfl (rvT (rfl : _ = B r39)) (rvT (rfl : _ = I 0))) ?_
    exact ⟨_, rfl, rfl, S42.keep⟩

def law_count (a0 : Int) (a1 : Int) (a2 : Int) (a3 : Int) (a4 : Int) (a5 : Int) (a6 : Int) : Option TallyCount :=
  some (TallyCount.mk a0 a1 a2 a3 a4 a5 a6)

set_option maxRecDepth 100000 in
theorem law_count_ok {a0 : Int} {a1 : Int} {a2 : Int} {a3 : Int} {a4 : Int} {a5 : Int} {a6 : Int} {w : World} {r : TallyCount} (H : law_count a0 a1 a2 a3 a4 a5 a6 = some r) : Calls Tryd.prog 37 #[I a0, I a1, I a2, I a3, I a4, I a5, I a6] w (RetV w (AG [I r.Who, I r.From, I r.To, I r.Told, I r.Unit, I r.Under, I r.Over])) := by
  unfold law_count at H
  refine fn_of (n := 23) Tryd.func37 rfl rfl (Nat.le_of_ble_eq_true rfl) ?_
  have S : St w (fun _ => False) w [] [] := St.start w _ _ (fun _ h_ => (List.not_mem_nil h_).elim)
  refine c_seq ?_
  refine reg ?_
  refine p_allA in33 S fun b1 w2 S3 => ?_
  refine wp_nil ?_
  refine c_seq ?_
  refine reg ?_
  refine p_mI rfl ?_
  refine p_mI rfl ?_
  refine p_mI rfl ?_
  refine p_mI rfl ?_
  refine p_mI rfl ?_
  refine p_mI rfl ?_
  refine p_mI rfl ?_
  refine p_bld (cs := [I a0, I a1, I a2, I a3, I a4, I a5, I a6]) st33 (rfl : _ = [(0, I a0), (1, I a1), (2, I a2), (3, I a3), (4, I a4), (5, I a5), (6, I a6)]) (by kernel_rfl) ?_
  refine p_stP (pre := []) (old := [I 0, I 0, I 0, I 0, I 0, I 0, I 0]) (post := []) (vs := [I a0, I a1, I a2, I a3, I a4, I a5, I a6]) sz33 S3 (i := 0) rfl rfl rfl rfl (rfl : _ = AG [I a0, I a1, I a2, I a3, I a4, I a5, I a6]) rfl rfl rfl rfl fun w4 S5 => ?_
  refine wp_nil ?_
  obtain rfl := Option.some.inj H
  refine c_ret ?_; show bodyPostM (Fr none) 0 Tryd.prog Tryd.f37 _ .ret _ _
  refine ret_of (res1 rfl (rvA rfl ty33 sz33 (S5.atX (i := 0) rfl) rfl)) ?_
  exact ⟨_, rfl, rfl, S5.keep⟩

def tally_Again_j6 (rec_z_1 : (Int × Int × Int) → Option (Int × Int)) (z_1 : Int × Int × Int) (z_2 : Int × Int) (z_3 : Bool) : Option (Int × Int) :=
  bif z_3 then (rec_z_1 (z_1.2.2, z_2.1, wr (z_1.2.2 + 1)))
  else (rec_z_1 (z_1.1, z_1.2.1, wr (z_1.2.2 + 1)))

def tally_Again_l7 (r42 : Span) (a0 : TallyBook) (z_1 : Int × Int × Int) (rec_z_1 : (Int × Int × Int) → Option (Int × Int)) (rec_z_2 : (Int × Int) → Option (Int × Int)) (z_2 : Int × Int) : Option (Int × Int) :=
  bif decide (z_2.2 < (wr ((wr (r42.High - r42.Low)) + 1))) then ((tally_with a0 (TallyCount.mk 2 z_1.2.2 z_1.2.2 (wr (r42.Low + z_2.2)) 1 0 0)).bind fun r63 =>
  (tally_nobody).bind fun r73 =>
  (tally_opened r63 (Tally_leave.mk (fun y81 y82 => tally_nobody_1 y81 y82))).bind fun r83 =>
  (tally_book_many (Tally_book.mk (TallyBook.mk r83.TallyBook.Trips r83.TallyBook.Room r63.Counts) r83.more_) 0 a0.Trips).bind fun r98 =>
  rec_z_2 ((if (wr (r98.High - r98.Low)) > z_2.1 then (wr (r98.High - r98.Low)) else z_2.1), wr (z_2.2 + 1)))
  else (bif decide (z_1.1 < 0) then (tally_Again_j6 rec_z_1 z_1 z_2 true)
  else (tally_Again_j6 rec_z_1 z_1 z_2 (decide (z_2.1 < z_1.2.1))))

def tally_Again_l8 (a0 : TallyBook) (r9 : Tally_book × Int) (rec_z_1 : (Int × Int × Int) → Option (Int × Int)) (z_1 : Int × Int × Int) : Option (Int × Int) :=
  bif decide (z_1.2.2 < a0.Trips) then ((tally_book_many r9.1 z_1.2.2 (wr (z_1.2.2 + 1))).bind fun r42 =>
  loopF (tally_Again_l7 r42 a0 z_1 rec_z_1) big (0, 0))
  else (some (z_1.1, 0))

def tally_Again (a0 : TallyBook) : Option (Int × Int) :=
  (tally_asked a0 true).bind fun r9 =>
  bif (r9.2 != 0) then (some (0, r9.2))
  else ((tally_book_many r9.1 0 a0.Trips).bind fun r27 =>
  bif (r27.Low == r27.High) then (some (0, 4))
  else (loopF (tally_Again_l8 a0 r9) big ((-1), 0, 0)))

end Go.Proofs.YtplpalmabgjibaaDoor

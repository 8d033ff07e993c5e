/- What the functions of the program compute, and that they do, printed by a program of mine. -/
import Derived.Test.YticodohfokgjfaaDoorZWD
import Derived.KernelRfl
import Derived.Test.YticodohfokgjfaaDoorZGFxNest
import Derived.OpenShut
import Derived.RowKit
import Derived.WideKeyArgs
import Derived.ChangeOld
import Derived.LaidMore
import Derived.LaidLaws
import Derived.Deep.DeepHandedRow
import Derived.ProofKit
import Derived.Test.YticodohfokgjfaaDoorCards
import Derived.Test.YticodohfokgjfaaDoorTie
set_option linter.unusedVariables false
set_option linter.unusedSimpArgs false
namespace Go.Proofs.YticodohfokgjfaaDoor
open Go Go.Fx Go.Proofs
def B_Members_l2 (a1 : Int) (a0 : Int) (rec_z_1 : ((List Int) × Int) → Option (List Int)) (z_1 : (List Int) × Int) : Option (List Int) :=
  bif decide (z_1.2 < a1) then ((B_Member a0 z_1.2).bind fun r11 =>
  bif r11 then (need (fitsL (z_1.1.length + ([z_1.2] : List Int).length) 8) <|
  rec_z_1 (z_1.1 ++ ([z_1.2] : List Int), wr (z_1.2 + 1)))
  else (rec_z_1 (z_1.1, wr (z_1.2 + 1))))
  else (some z_1.1)

def B_Members (a0 : Int) (a1 : Int) : Option (List Int) :=
  loopF (B_Members_l2 a1 a0) big (([] : List Int), 0)

set_option maxRecDepth 100000 in
theorem B_Members_ok {a0 : Int} {a1 : Int} {w : World} {r : (List Int)} (H : B_Members a0 a1 = some r) : Calls Tryd.prog 47 #[I a0, I a1] w fun en w_ => ∃ u_, en = .returned u_ ∧ ∃ A_1 : Option Addr, ∃ c_2 : Nat, u_ = SL A_1 r.length c_2 ∧ Keep0 w w_ ∧ ((gr intE 1 3 A_1 c_2 r).ok w_ ∧ New w.heap.size (gr intE 1 3 A_1 c_2 r)) ∧ True := by
  unfold B_Members at H
  refine fn_of (n := 21) Tryd.func47 rfl rfl (Nat.le_of_ble_eq_true rfl) ?_
  have S : St w (fun _ => False) w [] [] := St.start w _ _ (fun _ h_ => (List.not_mem_nil h_).elim)
  refine c_seq ?_
  refine reg ?_
  refine p_aS rfl ?_
  refine wp_nil ?_
  refine c_seq ?_
  refine reg ?_
  refine p_bsl0 intE sc39 S fun A1 w3 S4 => ?_
  refine p_aS rfl ?_
  refine wp_nil ?_
  refine c_seq ?_
  refine c_seq ?_
  refine reg ?_
  refine p_aI rfl ?_
  refine wp_nil ?_
  refine c_block ?_
  refine c_lop (α := (List Int) × Int) (β := (Option Addr) × Nat) (B_Members_l2 a1 a0) (fun z_1 y_1 => [(0, I a0), (1, I a1), (5, SL y_1.1 z_1.1.length y_1.2), (6, I z_1.2)]) (fun z_1 y_1 w_ => St w (fun _ => False) w_ [gr intE 1 3 y_1.1 y_1.2 z_1.1] []) (([] : List Int), 0) (A1, 0) H ⟨rfl, rfl, rfl, rfl, trivial⟩ S4 ?_
  intro m6 z_1 y_1 e7 w8 H S9
  unfold B_Members_l2 at H
  refine c_seq ?_
  refine c_seq ?_
  refine reg ?_
  refine p_mI rfl ?_
  refine p_mI rfl ?_
  refine p_cmp rfl rfl rfl ?_
  refine wp_nil ?_
  refine c_cond rfl (fun c10 => ?_) (fun c10 => ?_)
  · replace H := condT c10 H
    refine c_skip ?_
    refine c_seq ?_
    refine c_block ?_
    refine c_seq ?_
    refine reg ?_
    refine p_mI rfl ?_
    refine p_mI rfl ?_
    obtain ⟨r11, h12, H⟩ := bindS H
    refine p_cv (B_Member_ok h12) fu33 rfl S9 fun w13 S14 => ?_
    refine wp_nil ?_
    refine c_cond rfl (fun c15 => ?_) (fun c15 => ?_)
    · replace H := condT c15 H
      refine reg ?_
      refine p_mS rfl ?_
      refine p_mI rfl ?_
      refine p_bsl (enc := intE) (l := ([z_1.2] : List Int)) I (fun _ => rfl) sc39 in3 intE_len rfl (by decide) (by decide) zr3_1 S14 rfl fun A16 c17 w18 S19 => ?_
      obtain ⟨h25, H⟩ := needS H
      refine p_app (enc := intE) sc39 in3 rfl intE_len intE_one (by decide) S19 (k := 1) rfl (gr_sl intE_len (S19.atX (i := 0) rfl)) h25 (by simp) rfl rfl fun A23 c24 w21 S22 => ?_
      refine p_aS rfl ?_
      refine wp_nil ?_
      refine reg ?_
      refine p_mI rfl ?_
      refine p_add rfl rfl ?_
      refine p_aI rfl ?_
      refine wp_nil ?_
      have S26 := S22.pk [1] (by decide) [] rfl rfl
      exact ⟨(z_1.1 ++ ([z_1.2] : List Int), wr (z_1.2 + 1)), (A23, c24), _, rfl, ⟨rfl, rfl, rfl, rfl, trivial⟩, H, S26⟩
    · replace H := condF c15 H
      refine c_skip ?_
      refine reg ?_
      refine p_mI rfl ?_
      refine p_add rfl rfl ?_
      refine p_aI rfl ?_
      refine wp_nil ?_
      exact ⟨(z_1.1, wr (z_1.2 + 1)), (y_1.1, y_1.2), _, rfl, ⟨rfl, rfl, rfl, rfl, trivial⟩, H, S14⟩
  · replace H := condF c10 H
    refine c_exit ?_
    refine c_seq ?_
    refine reg ?_
    refine p_mS rfl ?_
    refine p_aS rfl ?_
    refine wp_nil ?_
    obtain rfl := Option.some.inj H
    refine c_ret ?_; show bodyPostM (Fr none) 0 Tryd.prog Tryd.f47 _ .ret _ _
    refine ret_of (res1 rfl (rvT (rfl : _ = SL y_1.1 z_1.1.length y_1.2))) ?_
    exact ⟨_, rfl, y_1.1, y_1.2, rfl, S9.keep, ⟨S9.atX (i := 0) rfl, S9.newX (i := 0) rfl⟩, trivial⟩

def B_Before_l2 (a1 : List Int) (a0 : List Int) (rec_z_1 : Int → Option Bool) (z_1 : Int) : Option Bool :=
  bif decide (z_1 < (if (a1.length : Int) < (a0.length : Int) then (a1.length : Int) else (a0.length : Int))) then ((getI a0 z_1).bind fun r12 =>
  (getI a1 z_1).bind fun r14 =>
  bif (r12 != r14) then ((getI a0 z_1).bind fun r20 =>
  (getI a1 z_1).bind fun r22 =>
  some (decide (r20 < r22)))
  else (rec_z_1 (wr (z_1 + 1))))
  else (some (decide ((a0.length : Int) < (a1.length : Int))))

def B_Before (a0 : List Int) (a1 : List Int) : Option Bool :=
  loopF (B_Before_l2 a1 a0) big 0

set_option maxRecDepth 100000 in
theorem B_Before_ok {a0 : List Int} {a1 : List Int} {A1 : Option Addr} {c2 : Nat} {A4 : Option Addr} {c5 : Nat} {w : World} {r : Bool} (H : B_Before a0 a1 = some r) (h3 : (rd intE 1 A1 c2 a0).ok w) (h6 : (rd intE 1 A4 c5 a1).ok w) : Calls Tryd.prog 84 #[SL A1 a0.length c2, SL A4 a1.length c5] w (RetV w (B r)) := by
  unfold B_Before at H
  refine fn_of (n := 38) Tryd.func84 rfl rfl (Nat.le_of_ble_eq_true rfl) ?_
  have S : St w (fun _ => False) w [] [rd intE 1 A1 c2 a0, rd intE 1 A4 c5 a1] := St.start w _ _ (List.forall_mem_cons.2 ⟨h3, (List.forall_mem_cons.2 ⟨h6, (fun _ h_ => (List.not_mem_nil h_).elim)⟩)⟩)
  refine c_seq ?_
  refine reg ?_
  refine p_aB rfl ?_
  refine wp_nil ?_
  refine c_seq ?_
  refine c_seq ?_
  refine reg ?_
  refine p_aI rfl ?_
  refine wp_nil ?_
  refine c_block ?_
  refine c_lop (α := Int) (β := Unit) (B_Before_l2 a1 a0) (fun z_1 y_1 => [(0, SL A1 a0.length c2), (1, SL A4 a1.length c5), (5, I z_1)]) (fun z_1 y_1 w_ => St w (fun _ => False) w_ [] [rd intE 1 A1 c2 a0, rd intE 1 A4 c5 a1]) 0 () H ⟨rfl, rfl, rfl, trivial⟩ S ?_
  intro m7 z_1 y_1 e8 w9 H S10
  unfold B_Before_l2 at H
  refine c_seq ?_
  refine c_seq ?_
  refine reg ?_
  refine p_mI rfl ?_
  refine p_mS rfl ?_
  refine p_len rfl sc39 ?_
  refine p_mS rfl ?_
  refine p_len rfl sc39 ?_
  refine p_min rfl rfl ?_
  refine p_cmp rfl rfl rfl ?_
  refine wp_nil ?_
  refine c_cond rfl (fun c11 => ?_) (fun c11 => ?_)
  · replace H := condT c11 H
    refine c_skip ?_
    refine c_seq ?_
    refine c_block ?_
    refine c_seq ?_
    obtain ⟨r12, h13, H⟩ := bindS H
    obtain ⟨r14, h15, H⟩ := bindS H
    refine reg_q mixed 9 (by kernel_rfl) ?_
    refine dS (fun _ k_ => p_mS rfl dn) ?_
    refine dS (fun _ k_ => p_mI rfl dn) ?_
    refine dS (fun _ k_ => p_ixE sc39 h13 (Asr.stays (S10.atP (i := 0) rfl) k_).1 rfl rfl rfl dn) ?_
    refine dS (fun _ k_ => p_ldE ty3 h13 (Asr.stays (S10.atP (i := 0) rfl) k_).1 rfl rfl dn) ?_
    refine dS (fun _ k_ => p_mS rfl dn) ?_
    refine dS (fun _ k_ => p_mI rfl dn) ?_
    refine dS (fun _ k_ => p_ixE sc39 h15 (Asr.stays (S10.atP (i := 1) rfl) k_).1 rfl rfl rfl dn) ?_
    refine dS (fun _ k_ => p_ldE ty3 h15 (Asr.stays (S10.atP (i := 1) rfl) k_).1 rfl rfl dn) ?_
    refine dS (fun _ k_ => p_cmp rfl rfl rfl dn) ?_
    intro w16 k17; have S18 := S10.call k17
    refine wp_nil ?_
    refine c_cond rfl (fun c19 => ?_) (fun c19 => ?_)
    · replace H := condT c19 H
      refine c_seq ?_
      obtain ⟨r20, h21, H⟩ := bindS H
      obtain ⟨r22, h23, H⟩ := bindS H
      refine reg_q mixed 10 (by kernel_rfl) ?_
      refine dS (fun _ k_ => p_mS rfl dn) ?_
      refine dS (fun _ k_ => p_mI rfl dn) ?_
      refine dS (fun _ k_ => p_ixE sc39 h21 (Asr.stays (S18.atP (i := 0) rfl) k_).1 rfl rfl rfl dn) ?_
      refine dS (fun _ k_ => p_ldE ty3 h21 (Asr.stays (S18.atP (i := 0) rfl) k_).1 rfl rfl dn) ?_
      refine dS (fun _ k_ => p_mS rfl dn) ?_
      refine dS (fun _ k_ => p_mI rfl dn) ?_
      refine dS (fun _ k_ => p_ixE sc39 h23 (Asr.stays (S18.atP (i := 1) rfl) k_).1 rfl rfl rfl dn) ?_
      refine dS (fun _ k_ => p_ldE ty3 h23 (Asr.stays (S18.atP (i := 1) rfl) k_).1 rfl rfl dn) ?_
      refine dS (fun _ k_ => p_cmp rfl rfl rfl dn) ?_
      refine dS (fun _ k_ => p_aB rfl dn) ?_
      intro w24 k25; have S26 := S18.call k25
      refine wp_nil ?_
      obtain rfl := Option.some.inj H
      refine c_ret ?_; show bodyPostM (Fr none) 0 Tryd.prog Tryd.f84 _ .ret _ _
      refine ret_of (res1 rfl (rvT (rfl : _ = B (decide (r20 < r22))))) ?_
      exact ⟨_, rfl, rfl, S26.keep⟩
    · replace H := condF c19 H
      refine c_skip ?_
      refine reg ?_
      refine p_mI rfl ?_
      refine p_add rfl rfl ?_
      refine p_aI rfl ?_
      refine wp_nil ?_
      exact ⟨wr (z_1 + 1), (), _, rfl, ⟨rfl, rfl, rfl, trivial⟩, H, S18⟩
  · replace H := condF c11 H
    refine c_exit ?_
    refine c_seq ?_
    refine reg ?_
    refine p_mS rfl ?_
    refine p_len rfl sc39 ?_
    refine p_mS rfl ?_
    refine p_len rfl sc39 ?_
    refine p_cmp rfl rfl rfl ?_
    refine p_aB rfl ?_
    refine wp_nil ?_
    obtain rfl := Option.some.inj H
    refine c_ret ?_; show bodyPostM (Fr none) 0 Tryd.prog Tryd.f84 _ .ret _ _
    refine ret_of (res1 rfl (rvT (rfl : _ = B (decide ((a0.length : Int) < (a1.length : Int)))))) ?_
    exact ⟨_, rfl, rfl, S10.keep⟩

def B_Better (a0 : List Int) (a1 : List Int) : Option Bool :=
  bif decide ((a0.length : Int) < (a1.length : Int)) then (some true)
  else (bif ((a0.length : Int) == (a1.length : Int)) then ((B_Before a0 a1).bind fun r9 =>
  some r9)
  else (some false))

set_option maxRecDepth 100000 in
theorem B_Better_ok {a0 : List Int} {a1 : List Int} {A1 : Option Addr} {c2 : Nat} {A4 : Option Addr} {c5 : Nat} {w : World} {r : Bool} (H : B_Better a0 a1 = some r) (h3 : (rd intE 1 A1 c2 a0).ok w) (h6 : (rd intE 1 A4 c5 a1).ok w) : Calls Tryd.prog 49 #[SL A1 a0.length c2, SL A4 a1.length c5] w (RetV w (B r)) := by
  unfold B_Better at H
  refine fn_of (n := 22) Tryd.func49 rfl rfl (Nat.le_of_ble_eq_true rfl) ?_
  have S : St w (fun _ => False) w [] [rd intE 1 A1 c2 a0, rd intE 1 A4 c5 a1] := St.start w _ _ (List.forall_mem_cons.2 ⟨h3, (List.forall_mem_cons.2 ⟨h6, (fun _ h_ => (List.not_mem_nil h_).elim)⟩)⟩)
  refine c_seq ?_
  refine reg ?_
  refine p_aB rfl ?_
  refine wp_nil ?_
  refine c_seq ?_
  refine reg ?_
  refine p_mS rfl ?_
  refine p_len rfl sc39 ?_
  refine p_mS rfl ?_
  refine p_len rfl sc39 ?_
  refine p_cmp rfl rfl rfl ?_
  refine p_mB rfl ?_
  rcases Bool.eq_false_or_eq_true (decide ((a0.length : Int) < (a1.length : Int))) with c7 | c7
  · replace H := condT c7 H
    refine eB c7 ?_
    refine gF rfl rfl ?_
    refine gF rfl rfl ?_
    refine gF rfl rfl ?_
    refine gF rfl rfl ?_
    refine gF rfl rfl ?_
    refine gF rfl rfl ?_
    refine o_guardU rfl rfl ?_
    refine o_guardU rfl rfl ?_
    refine o_guardU rfl rfl ?_
    refine gF rfl rfl ?_
    refine p_pkT rfl (rfl : _ = B true) ?_
    refine p_aB rfl ?_
    refine wp_nil ?_
    obtain rfl := Option.some.inj H
    refine c_ret ?_; show bodyPostM (Fr none) 0 Tryd.prog Tryd.f49 _ .ret _ _
    refine ret_of (res1 rfl (rvT (rfl : _ = B true))) ?_
    exact ⟨_, rfl, rfl, S.keep⟩
  · replace H := condF c7 H
    refine eB c7 ?_
    refine gT rfl rfl (p_mS rfl ?_)
    refine gT rfl rfl (p_len rfl sc39 ?_)
    refine gT rfl rfl (p_mS rfl ?_)
    refine gT rfl rfl (p_len rfl sc39 ?_)
    refine gT rfl rfl (p_cmp rfl rfl rfl ?_)
    refine gT rfl rfl (p_mB rfl ?_)
    rcases Bool.eq_false_or_eq_true (((a0.length : Int) == (a1.length : Int))) with c8 | c8
    · replace H := condT c8 H
      refine eB c8 ?_
      refine gT rfl rfl (p_mS rfl ?_)
      refine gT rfl rfl (p_mS rfl ?_)
      obtain ⟨r9, h10, H⟩ := bindS H
      refine gT rfl rfl (p_cv (B_Before_ok h10 (S.atP (i := 0) rfl) (S.atP (i := 1) rfl)) fu84 rfl S fun w11 S12 => ?_)
      refine gT rfl rfl (p_pkT rfl (rfl : _ = B r9) ?_)
      refine p_pkF rfl (rfl : _ = B r9) ?_
      refine p_aB rfl ?_
      refine wp_nil ?_
      obtain rfl := Option.some.inj H
      refine c_ret ?_; show bodyPostM (Fr none) 0 Tryd.prog Tryd.f49 _ .ret _ _
      refine ret_of (res1 rfl (rvT (rfl : _ = B r9))) ?_
      exact ⟨_, rfl, rfl, S12.keep⟩
    · replace H := condF c8 H
      refine eB c8 ?_
      refine gF rfl rfl ?_
      refine gF rfl rfl ?_
      refine gF rfl rfl ?_
      refine gT rfl rfl (p_pkF rfl (rfl : _ = B false) ?_)
      refine p_pkF rfl (rfl : _ = B false) ?_
      refine p_aB rfl ?_
      refine wp_nil ?_
      obtain rfl := Option.some.inj H
      refine c_ret ?_; show bodyPostM (Fr none) 0 Tryd.prog Tryd.f49 _ .ret _ _
      refine ret_of (res1 rfl (rvT (rfl : _ = B false))) ?_
      exact ⟨_, rfl, rfl, S.keep⟩

def ref_Without_l2 (a0 : CoalBook) (a1 : Int) (rec_z_1 : (Int × (List CoalDip)) → Option CoalBook) (z_1 : Int × (List CoalDip)) : Option CoalBook :=
  bif decide (z_1.1 < (a0.Dips.length : Int)) then ((B_Member a1 z_1.1).bind fun r26 =>
  bif !r26 then ((getI a0.Dips z_1.1).bind fun r31 =>
  need (fitsL (z_1.2.length + ([r31] : List CoalDip).length) 24) <|
  rec_z_1 (wr (z_1.1 + 1), z_1.2 ++ ([r31] : List CoalDip)))
  else (rec_z_1 (wr (z_1.1 + 1), z_1.2)))
  else (some (CoalBook.mk a0.Heap a0.Eats a0.Extra a0.Days a0.Collier a0.Brings z_1.2))

def ref_Without (a0 : CoalBook) (a1 : Int) : Option CoalBook :=
  loopF (ref_Without_l2 a0 a1) big (0, ([] : List CoalDip))

set_option maxRecDepth 100000 in
theorem ref_Without_ok {a0 : CoalBook} {a1 : Int} {A1 : Option Addr} {c2 : Nat} {A4 : Option Addr} {c5 : Nat} {w : World} {r : CoalBook} (H : ref_Without a0 a1 = some r) (h3 : (rd eCoalDay 3 A1 c2 a0.Days).ok w) (h6 : (rd eCoalDip 3 A4 c5 a0.Dips).ok w) : Calls Tryd.prog 92 #[AG ([I a0.Heap.Low, I a0.Heap.High] ++ (sgE eSpan a0.Eats 2 ++ (sg a0.Extra 3 ++ [SL A1 a0.Days.length c2, I a0.Collier.Low, I a0.Collier.High, I a0.Brings, SL A4 a0.Dips.length c5]))), I a1] w fun en w_ => ∃ u_, en = .returned u_ ∧ ∃ A_1 : Option Addr, ∃ c_2 : Nat, u_ = AG ([I r.Heap.Low, I r.Heap.High] ++ (sgE eSpan r.Eats 2 ++ (sg r.Extra 3 ++ [SL A1 a0.Days.length c2, I r.Collier.Low, I r.Collier.High, I r.Brings, SL A_1 r.Dips.length c_2]))) ∧ Keep0 w w_ ∧ ((gr eCoalDip 3 67 A_1 c_2 r.Dips).ok w_ ∧ New w.heap.size (gr eCoalDip 3 67 A_1 c_2 r.Dips)) ∧ True := by
  unfold ref_Without at H
  refine fn_of (n := 31) Tryd.func92 rfl rfl (Nat.le_of_ble_eq_true rfl) ?_
  have S : St w (fun _ => False) w [] [rd eCoalDay 3 A1 c2 a0.Days, rd eCoalDip 3 A4 c5 a0.Dips] := St.start w _ _ (List.forall_mem_cons.2 ⟨h3, (List.forall_mem_cons.2 ⟨h6, (fun _ h_ => (List.not_mem_nil h_).elim)⟩)⟩)
  refine c_seq ?_
  refine reg ?_
  refine p_boxA rfl S fun b7 w8 S9 => ?_
  refine p_allA in29 S9 fun b10 w11 S12 => ?_
  refine wp_nil ?_
  refine c_seq ?_
  refine reg ?_
  refine p_ldA ty29 sz29 (S12.atX (i := 1) rfl) rfl rfl ?_
  refine p_allA in29 S12 fun b13 w14 S15 => ?_
  refine p_stP (pre := []) (old := [I 0, I 0, I 0, I 0, I 0, I 0] ++ (sg (List.replicate 3 0) 3 ++ [SL none 0 0, I 0, I 0, I 0, SL none 0 0])) (post := []) (vs := [I a0.Heap.Low, I a0.Heap.High] ++ (sgE eSpan a0.Eats 2 ++ (sg a0.Extra 3 ++ [SL A1 a0.Days.length c2, I a0.Collier.Low, I a0.Collier.High, I a0.Brings, SL A4 a0.Dips.length c5]))) sz29 S15 (i := 0) rfl rfl rfl rfl (rfl : _ = AG ([I a0.Heap.Low, I a0.Heap.High] ++ (sgE eSpan a0.Eats 2 ++ (sg a0.Extra 3 ++ [SL A1 a0.Days.length c2, I a0.Collier.Low, I a0.Collier.High, I a0.Brings, SL A4 a0.Dips.length c5])))) rfl rfl rfl rfl fun w16 S17 => ?_
  refine wp_nil ?_
  refine c_seq ?_
  refine reg ?_
  refine p_fld fl29_6 rfl ?_
  refine p_stP (pre := [I a0.Heap.Low, I a0.Heap.High] ++ (sgE eSpan a0.Eats 2 ++ (sg a0.Extra 3 ++ [SL A1 a0.Days.length c2, I a0.Collier.Low, I a0.Collier.High, I a0.Brings]))) (old := [SL A4 a0.Dips.length c5]) (post := []) (vs := [SL none 0 0]) sz27 S17 (i := 0) rfl rfl rfl rfl (rfl : _ = SL none 0 0) rfl rfl rfl rfl fun w18 S19 => ?_
  refine wp_nil ?_
  refine c_seq ?_
  refine c_seq ?_
  refine reg ?_
  refine p_aI rfl ?_
  refine wp_nil ?_
  refine c_block ?_
  have S20 := S19.nilRow eCoalDip 3 67
  refine c_lop (α := Int × (List CoalDip)) (β := (Option Addr) × Nat) (ref_Without_l2 a0 a1) (fun z_1 y_1 => [(1, I a1), (2, P b7 0), (4, P b10 0), (5, P b13 0), (6, I z_1.1)]) (fun z_1 y_1 w_ => St w (fun _ => False) w_ [gr eCoalDip 3 67 y_1.1 y_1.2 z_1.2, bl b13 ([I a0.Heap.Low, I a0.Heap.High] ++ (sgE eSpan a0.Eats 2 ++ (sg a0.Extra 3 ++ [SL A1 a0.Days.length c2, I a0.Collier.Low, I a0.Collier.High, I a0.Brings, SL y_1.1 z_1.2.length y_1.2]))) 29, bl b10 ([I 0, I 0, I 0, I 0, I 0, I 0] ++ (sg (List.replicate 3 0) 3 ++ [SL none 0 0, I 0, I 0, I 0, SL none 0 0])) 29, bl b7 ([I a0.Heap.Low, I a0.Heap.High] ++ (sgE eSpan a0.Eats 2 ++ (sg a0.Extra 3 ++ [SL A1 a0.Days.length c2, I a0.Collier.Low, I a0.Collier.High, I a0.Brings, SL A4 a0.Dips.length c5]))) 29] [rd eCoalDay 3 A1 c2 a0.Days, rd eCoalDip 3 A4 c5 a0.Dips]) (0, ([] : List CoalDip)) (none, 0) H ⟨rfl, rfl, rfl, rfl, rfl, trivial⟩ S20 ?_
  intro m21 z_1 y_1 e22 w23 H S24
  unfold ref_Without_l2 at H
  refine c_seq ?_
  refine c_seq ?_
  refine reg ?_
  refine p_mI rfl ?_
  refine p_fld fl29_6 rfl ?_
  refine p_ld ty27 (S24.atX (i := 3) rfl) rfl rfl ?_
  refine p_len rfl sc27 ?_
  refine p_cmp rfl rfl rfl ?_
  refine wp_nil ?_
  refine c_cond rfl (fun c25 => ?_) (fun c25 => ?_)
  · replace H := condT c25 H
    refine c_skip ?_
    refine c_seq ?_
    refine c_block ?_
    refine c_seq ?_
    refine reg ?_
    refine p_mI rfl ?_
    refine p_mI rfl ?_
    obtain ⟨r26, h27, H⟩ := bindS H
    refine p_cv (B_Member_ok h27) fu33 rfl S24 fun w28 S29 => ?_
    refine p_not rfl ?_
    refine wp_nil ?_
    refine c_cond rfl (fun c30 => ?_) (fun c30 => ?_)
    · replace H := condT c30 H
      obtain ⟨r31, h32, H⟩ := bindS H
      refine reg_c mixed 8 [7] (by kernel_rfl) ?_
      refine kS rfl (fun _ k_ => p_fld fl29_6 rfl dn) ?_
      refine kS rfl (fun _ k_ => p_ld ty27 (Asr.stays (S29.atX (i := 1) rfl) k_) rfl rfl dn) ?_
      refine kS rfl (fun _ k_ => p_fld fl29_6 rfl dn) ?_
      refine kS rfl (fun _ k_ => p_ld ty27 (Asr.stays (S29.atX (i := 3) rfl) k_) rfl rfl dn) ?_
      refine kS rfl (fun _ k_ => p_mI rfl dn) ?_
      refine kS rfl (fun _ k_ => p_ixE sc27 h32 (Asr.stays (S29.atP (i := 1) rfl) k_).1 rfl rfl rfl dn) ?_
      refine kS rfl (fun _ k_ => p_ldEA ty67 sz67 rfl h32 (Asr.stays (S29.atP (i := 1) rfl) k_).1 rfl dn) ?_
      refine kC rfl ?_
      intro w33 k34; have S35 := S29.call k34
      have S41 := S35.base
      refine p_bsl (enc := eCoalDip) (l := ([r31] : List CoalDip)) (fun x => AG (eCoalDip x)) (fun _ => rfl) sc27 in67 eCoalDip_len rfl (by decide) (by decide) zr67_1 S41 rfl fun A36 c37 w38 S39 => ?_
      refine cN S39.keep fun w42 k43 => ?_
      have S44 := (S35.fromBase S39).call k43
      obtain ⟨h49, H⟩ := needS H
      refine p_app (enc := eCoalDip) sc27 in67 rfl eCoalDip_len eCoalDip_one (by decide) S44 (k := 1) rfl (gr_sl eCoalDip_len (S44.atX (i := 0) rfl)) h49 (by simp) rfl rfl fun A47 c48 w45 S46 => ?_
      refine p_fld fl29_6 rfl ?_
      refine p_stP (pre := [I a0.Heap.Low, I a0.Heap.High] ++ (sgE eSpan a0.Eats 2 ++ (sg a0.Extra 3 ++ [SL A1 a0.Days.length c2, I a0.Collier.Low, I a0.Collier.High, I a0.Brings]))) (old := [SL y_1.1 z_1.2.length y_1.2]) (post := []) (vs := [SL A47 (z_1.2 ++ ([r31] : List CoalDip)).length c48]) sz27 S46 (i := 2) rfl rfl rfl rfl (rfl : _ = SL A47 (z_1.2 ++ ([r31] : List CoalDip)).length c48) rfl rfl rfl rfl fun w50 S51 => ?_
      refine wp_nil ?_
      refine reg ?_
      refine p_mI rfl ?_
      refine p_add rfl rfl ?_
      refine p_aI rfl ?_
      refine wp_nil ?_
      have S52 := S51.pk [1, 2, 3, 4] (by decide) [0, 1] rfl rfl
      exact ⟨(wr (z_1.1 + 1), z_1.2 ++ ([r31] : List CoalDip)), (A47, c48), _, rfl, ⟨rfl, rfl, rfl, rfl, rfl, trivial⟩, H, S52⟩
    · replace H := condF c30 H
      refine c_skip ?_
      refine reg ?_
      refine p_mI rfl ?_
      refine p_add rfl rfl ?_
      refine p_aI rfl ?_
      refine wp_nil ?_
      exact ⟨(wr (z_1.1 + 1), z_1.2), (y_1.1, y_1.2), _, rfl, ⟨rfl, rfl, rfl, rfl, rfl, trivial⟩, H, S29⟩
  · replace H := condF c25 H
    refine c_exit ?_
    refine c_seq ?_
    refine reg ?_
    refine p_ldA ty29 sz29 (S24.atX (i := 1) rfl) rfl rfl ?_
    refine p_stP (pre := []) (old := [I 0, I 0, I 0, I 0, I 0, I 0] ++ (sg (List.replicate 3 0) 3 ++ [SL none 0 0, I 0, I 0, I 0, SL none 0 0])) (post := []) (vs := [I a0.Heap.Low, I a0.Heap.High] ++ (sgE eSpan a0.Eats 2 ++ (sg a0.Extra 3 ++ [SL A1 a0.Days.length c2, I a0.Collier.Low, I a0.Collier.High, I a0.Brings, SL y_1.1 z_1.2.length y_1.2]))) sz29 S24 (i := 2) rfl rfl rfl rfl (rfl : _ = AG ([I a0.Heap.Low, I a0.Heap.High] ++ (sgE eSpan a0.Eats 2 ++ (sg a0.Extra 3 ++ [SL A1 a0.Days.length c2, I a0.Collier.Low, I a0.Collier.High, I a0.Brings, SL y_1.1 z_1.2.length y_1.2])))) rfl rfl rfl rfl fun w53 S54 => ?_
    refine wp_nil ?_
    obtain rfl := Option.some.inj H
    refine c_ret ?_; show bodyPostM (Fr none) 0 Tryd.prog Tryd.f92 _ .ret _ _
    refine ret_of (res1 rfl (rvA rfl ty29 sz29 (S54.atX (i := 2) rfl) rfl)) ?_
    exact ⟨_, rfl, y_1.1, y_1.2, rfl, S54.keep, ⟨S54.atX (i := 0) rfl, S54.newX (i := 0) rfl⟩, trivial⟩

def ref_Wrong_l2 (a0 : CoalBook) (rec_z_1 : ((List Int) × Int) → Option ((List Int) × Int)) (z_1 : (List Int) × Int) : Option ((List Int) × Int) :=
  need (decide (0 ≤ (a0.Dips.length : Int))) <|
  bif decide (z_1.2 < (shlI 1 (a0.Dips.length : Int))) then ((B_Members z_1.2 (a0.Dips.length : Int)).bind fun r32 =>
  (B_Better r32 z_1.1).bind fun r42 =>
  bif r42 then ((ref_Without a0 z_1.2).bind fun r47 =>
  (ref_truths (CoalBook.mk r47.Heap r47.Eats r47.Extra a0.Days r47.Collier r47.Brings r47.Dips)).bind fun r58 =>
  bif decide ((r58.length : Int) > 0) then (rec_z_1 (r32, wr (z_1.2 + 1)))
  else (rec_z_1 (z_1.1, wr (z_1.2 + 1))))
  else (rec_z_1 (z_1.1, wr (z_1.2 + 1))))
  else (some (z_1.1, 0))

def ref_Wrong (a0 : CoalBook) : Option ((List Int) × Int) :=
  (ref_Check a0).bind fun r10 =>
  bif (r10 != 0) then (some (([] : List _), r10))
  else (need (decide (0 ≤ (a0.Dips.length : Int))) <|
  (B_Members (wr ((shlI 1 (a0.Dips.length : Int)) - 1)) (a0.Dips.length : Int)).bind fun r16 =>
  loopF (ref_Wrong_l2 a0) big (r16, 0))

set_option maxRecDepth 100000 in
theorem ref_Wrong_ok {a0 : CoalBook} {A1 : Option Addr} {c2 : Nat} {A4 : Option Addr} {c5 : Nat} {w : World} {r : (List Int) × Int} (H : ref_Wrong a0 = some r) (h3 : (rd eCoalDay 3 A1 c2 a0.Days).ok w) (h6 : (rd eCoalDip 3 A4 c5 a0.Dips).ok w) : Calls Tryd.prog 67 #[AG ([I a0.Heap.Low, I a0.Heap.High] ++ (sgE eSpan a0.Eats 2 ++ (sg a0.Extra 3 ++ [SL A1 a0.Days.length c2, I a0.Collier.Low, I a0.Collier.High, I a0.Brings, SL A4 a0.Dips.length c5])))] w fun en w_ => ∃ u_, en = .returned u_ ∧ ∃ A_1 : Option Addr, ∃ c_2 : Nat, u_ = TU [SL A_1 r.1.length c_2, I r.2] ∧ Keep0 w w_ ∧ ((gr intE 1 3 A_1 c_2 r.1).ok w_ ∧ New w.heap.size (gr intE 1 3 A_1 c_2 r.1)) ∧ True := by
  unfold ref_Wrong at H
  refine fn_of (n := 44) Tryd.func67 rfl rfl (Nat.le_of_ble_eq_true rfl) ?_
  have S : St w (fun _ => False) w [] [rd eCoalDay 3 A1 c2 a0.Days, rd eCoalDip 3 A4 c5 a0.Dips] := St.start w _ _ (List.forall_mem_cons.2 ⟨h3, (List.forall_mem_cons.2 ⟨h6, (fun _ h_ => (List.not_mem_nil h_).elim)⟩)⟩)
  refine c_seq ?_
  refine reg ?_
  refine p_boxA rfl S fun b7 w8 S9 => ?_
  refine p_aS rfl ?_
  refine p_aI rfl ?_
  refine wp_nil ?_
  refine c_seq ?_
  refine c_seq ?_
  refine reg ?_
  refine p_ldA ty29 sz29 (S9.atX (i := 0) rfl) rfl rfl ?_
  obtain ⟨r10, h11, H⟩ := bindS H
  refine p_cv (ref_Check_ok h11 (S9.atP (i := 0) rfl) (S9.atP (i := 1) rfl)) fu57 rfl S9 fun w12 S13 => ?_
  refine p_aI rfl ?_
  refine wp_nil ?_
  refine c_seq ?_
  refine reg ?_
  refine p_mI rfl ?_
  refine p_cmp rfl rfl rfl ?_
  refine wp_nil ?_
  refine c_cond rfl (fun c14 => ?_) (fun c14 => ?_)
  · replace H := condT c14 H
    refine c_seq ?_
    refine reg ?_
    refine p_mI rfl ?_
    refine p_aS rfl ?_
    refine p_aI rfl ?_
    refine wp_nil ?_
    obtain rfl := Option.some.inj H
    refine c_ret ?_; show bodyPostM (Fr none) 0 Tryd.prog Tryd.f67 _ .ret _ _
    refine ret_of (res2 rfl (rvT (rfl : _ = SL none 0 0)) (rvT (rfl : _ = I r10))) ?_
    exact ⟨_, rfl, none, 0, rfl, S13.keep, ⟨gr_nil, New.grNil⟩, trivial⟩
  · replace H := condF c14 H
    refine c_skip ?_
    refine c_seq ?_
    refine reg ?_
    refine p_fld fl29_6 rfl ?_
    refine p_ld ty27 (S13.atX (i := 0) rfl) rfl rfl ?_
    refine p_len rfl sc27 ?_
    refine p_aI rfl ?_
    refine wp_nil ?_
    refine c_seq ?_
    refine reg ?_
    refine p_mI rfl ?_
    obtain ⟨h15, H⟩ := needS H
    refine p_shl h15 rfl rfl ?_
    refine p_sub rfl rfl ?_
    refine p_mI rfl ?_
    obtain ⟨r16, h17, H⟩ := bindS H
    refine p_cal (B_Members_ok h17) fu47 rfl ?_
    rintro _ w18 ⟨A20, c21, rfl, k19, ⟨o22, n23⟩, _⟩
    have S25 := S13.addNew k19 o22 n23
    refine p_aS rfl ?_
    refine wp_nil ?_
    refine c_seq ?_
    refine c_seq ?_
    refine reg ?_
    refine p_aI rfl ?_
    refine wp_nil ?_
    refine c_block ?_
    refine c_lop (α := (List Int) × Int) (β := (Option Addr) × Nat) (ref_Wrong_l2 a0) (fun z_1 y_1 => [(1, P b7 0), (5, I (a0.Dips.length : Int)), (6, SL y_1.1 z_1.1.length y_1.2), (7, I z_1.2)]) (fun z_1 y_1 w_ => St w (fun _ => False) w_ [gr intE 1 3 y_1.1 y_1.2 z_1.1, bl b7 ([I a0.Heap.Low, I a0.Heap.High] ++ (sgE eSpan a0.Eats 2 ++ (sg a0.Extra 3 ++ [SL A1 a0.Days.length c2, I a0.Collier.Low, I a0.Collier.High, I a0.Brings, SL A4 a0.Dips.length c5]))) 29] [rd eCoalDay 3 A1 c2 a0.Days, rd eCoalDip 3 A4 c5 a0.Dips]) (r16, 0) (A20, c21) H ⟨rfl, rfl, rfl, rfl, trivial⟩ S25 ?_
    intro m26 z_1 y_1 e27 w28 H S29
    unfold ref_Wrong_l2 at H
    refine c_seq ?_
    refine c_seq ?_
    refine reg ?_
    refine p_mI rfl ?_
    refine p_mI rfl ?_
    obtain ⟨h30, H⟩ := needS H
    refine p_shl h30 rfl rfl ?_
    refine p_cmp rfl rfl rfl ?_
    refine wp_nil ?_
    refine c_cond rfl (fun c31 => ?_) (fun c31 => ?_)
    · replace H := condT c31 H
      refine c_skip ?_
      refine c_seq ?_
      refine c_block ?_
      refine c_seq ?_
      refine reg ?_
      refine p_mI rfl ?_
      refine p_mI rfl ?_
      obtain ⟨r32, h33, H⟩ := bindS H
      refine p_cal (B_Members_ok h33) fu47 rfl ?_
      rintro _ w34 ⟨A36, c37, rfl, k35, ⟨o38, n39⟩, _⟩
      have S41 := S29.addNew k35 o38 n39
      refine p_aS rfl ?_
      refine wp_nil ?_
      refine c_seq ?_
      refine reg ?_
      refine p_mS rfl ?_
      refine p_mS rfl ?_
      obtain ⟨r42, h43, H⟩ := bindS H
      refine p_cv (B_Better_ok h43 (gr_rd intE_len (S41.atX (i := 0) rfl)) (gr_rd intE_len (S41.atX (i := 1) rfl))) fu49 rfl S41 fun w44 S45 => ?_
      refine p_mB rfl ?_
      rcases Bool.eq_false_or_eq_true (r42) with c46 | c46
      · replace H := condT c46 H
        refine eB c46 ?_
        refine gT rfl rfl (p_ldA ty29 sz29 (S45.atX (i := 2) rfl) rfl rfl ?_)
        refine gT rfl rfl (p_mI rfl ?_)
        refine gT rfl rfl ?_
        obtain ⟨r47, h48, H⟩ := bindS H
        refine p_cal (ref_Without_ok h48 (S45.atP (i := 0) rfl) (S45.atP (i := 1) rfl)) fu92 rfl ?_
        rintro _ w49 ⟨A51, c52, rfl, k50, ⟨o53, n54⟩, _⟩
        have S56 := S45.addNew k50 o53 n54
        refine gT rfl rfl ?_
        have S57 := S56.fixRd eCoalDip_len (i := 0) rfl
        obtain ⟨r58, h59, H⟩ := bindS H
        refine p_cal (ref_truths_ok h59 (S57.atP (i := 1) rfl) (S57.atP (i := 0) rfl)) fu85 rfl ?_
        rintro _ w60 ⟨A62, c63, l64, rfl, k61, ⟨o65, n66⟩, ⟨o67, n68⟩, _⟩
        have S69 := S57.callN k61 [rd nRef06_truth 5 A62 c63 l64, ri nRef06_truthI l64 r58] (List.forall_mem_cons.2 ⟨⟨o65, New.inL n66⟩, (List.forall_mem_cons.2 ⟨⟨o67, Al.inL n68 ((List.forall_mem_cons.2 ⟨(fp_mem (i := 1) rfl), (List.forall_mem_cons.2 ⟨(fp_mem (i := 0) rfl), (fun _ h_ => (List.not_mem_nil h_).elim)⟩)⟩))⟩, (fun _ h_ => (List.not_mem_nil h_).elim)⟩)⟩)
        refine gT rfl rfl (p_lenN rfl sc112 (ri_len (S69.atP (i := 1) rfl)) ?_)
        refine gT rfl rfl (p_cmp rfl rfl rfl ?_)
        refine p_pkT rfl (rfl : _ = B (decide ((r58.length : Int) > 0))) ?_
        refine wp_nil ?_
        refine c_cond rfl (fun c70 => ?_) (fun c70 => ?_)
        · replace H := condT c70 H
          refine reg ?_
          refine p_mS rfl ?_
          refine p_aS rfl ?_
          refine wp_nil ?_
          refine reg ?_
          refine p_mI rfl ?_
          refine p_add rfl rfl ?_
          refine p_aI rfl ?_
          refine wp_nil ?_
          have S71 := S69.pk [0, 2] (by decide) [3, 4] rfl rfl
          exact ⟨(r32, wr (z_1.2 + 1)), (A36, c37), _, rfl, ⟨rfl, rfl, rfl, rfl, trivial⟩, H, S71⟩
        · replace H := condF c70 H
          refine c_skip ?_
          refine reg ?_
          refine p_mI rfl ?_
          refine p_add rfl rfl ?_
          refine p_aI rfl ?_
          refine wp_nil ?_
          have S72 := S69.pk [1, 2] (by decide) [3, 4] rfl rfl
          exact ⟨(z_1.1, wr (z_1.2 + 1)), (y_1.1, y_1.2), _, rfl, ⟨rfl, rfl, rfl, rfl, trivial⟩, H, S72⟩
      · replace H := condF c46 H
        refine eB c46 ?_
        refine gF rfl rfl ?_
        refine gF rfl rfl ?_
        refine gF rfl rfl ?_
        refine gF rfl rfl ?_
        refine gF rfl rfl ?_
        refine gF rfl rfl ?_
        refine p_pkF rfl (rfl : _ = B false) ?_
        refine wp_nil ?_
        refine c_false rfl ?_
        refine c_skip ?_
        refine reg ?_
        refine p_mI rfl ?_
        refine p_add rfl rfl ?_
        refine p_aI rfl ?_
        refine wp_nil ?_
        have S73 := S45.pk [1, 2] (by decide) [0, 1] rfl rfl
        exact ⟨(z_1.1, wr (z_1.2 + 1)), (y_1.1, y_1.2), _, rfl, ⟨rfl, rfl, rfl, rfl, trivial⟩, H, S73⟩
    · replace H := condF c31 H
      refine c_exit ?_
      refine c_seq ?_
      refine reg ?_
      refine p_mS rfl ?_
      refine p_aS rfl ?_
      refine p_aI rfl ?_
      refine wp_nil ?_
      obtain rfl := Option.some.inj H
      refine c_ret ?_; show bodyPostM (Fr none) 0 Tryd.prog Tryd.f67 _ .ret _ _
      refine ret_of (res2 rfl (rvT (rfl : _ = SL y_1.1 z_1.1.length y_1.2)) (rvT (rfl : _ = I 0))) ?_
      exact ⟨_, rfl, y_1.1, y_1.2, rfl, S29.keep, ⟨S29.atX (i := 0) rfl, S29.newX (i := 0) rfl⟩, trivial⟩

def law_coalWrongs (a0 : CoalBook) (a1 : CoalBook) : Option Bool :=
  (coal_Wrong a0).bind fun r20 =>
  (ref_Wrong a1).bind fun r29 =>
  (B_Alike r20.1 r29.1).bind fun r39 =>
  bif r39 then (some (r20.2 == r29.2))
  else (some false)

set_option maxRecDepth 100000 in
theorem law_coalWrongs_ok {a0 : CoalBook} {a1 : CoalBook} {A1 : Option Addr} {c2 : Nat} {A4 : Option Addr} {c5 : Nat} {A7 : Option Addr} {c8 : Nat} {A10 : Option Addr} {c11 : Nat} {w : World} {r : Bool} (H : law_coalWrongs a0 a1 = some r) (h3 : (rd eCoalDay 3 A1 c2 a0.Days).ok w) (h6 : (rd eCoalDip 3 A4 c5 a0.Dips).ok w) (h9 : (rd eCoalDay 3 A7 c8 a1.Days).ok w) (h12 : (rd eCoalDip 3 A10 c11 a1.Dips).ok w) (hg13 : (bl 1 [I (-1), I (-1)] 123).ok w) : Calls Tryd.prog 21 #[AG ([I a0.Heap.Low, I a0.Heap.High] ++ (sgE eSpan a0.Eats 2 ++ (sg a0.Extra 3 ++ [SL A1 a0.Days.length c2, I a0.Collier.Low, I a0.Collier.High, I a0.Brings, SL A4 a0.Dips.length c5]))), AG ([I a1.Heap.Low, I a1.Heap.High] ++ (sgE eSpan a1.Eats 2 ++ (sg a1.Extra 3 ++ [SL A7 a1.Days.length c8, I a1.Collier.Low, I a1.Collier.High, I a1.Brings, SL A10 a1.Dips.length c11])))] w (RetV w (B r)) := by
  unfold law_coalWrongs at H
  refine fn_of (n := 27) Tryd.func21 rfl rfl (Nat.le_of_ble_eq_true rfl) ?_
  have S : St w (fun _ => False) w [] [rd eCoalDay 3 A1 c2 a0.Days, rd eCoalDip 3 A4 c5 a0.Dips, rd eCoalDay 3 A7 c8 a1.Days, rd eCoalDip 3 A10 c11 a1.Dips, bl 1 [I (-1), I (-1)] 123] := St.start w _ _ (List.forall_mem_cons.2 ⟨h3, (List.forall_mem_cons.2 ⟨h6, (List.forall_mem_cons.2 ⟨h9, (List.forall_mem_cons.2 ⟨h12, (List.forall_mem_cons.2 ⟨hg13, (fun _ h_ => (List.not_mem_nil h_).elim)⟩)⟩)⟩)⟩)⟩)
  refine c_seq ?_
  refine reg ?_
  refine p_boxA rfl S fun b14 w15 S16 => ?_
  refine p_boxA rfl S16 fun b17 w18 S19 => ?_
  refine p_aB rfl ?_
  refine wp_nil ?_
  refine c_seq ?_
  refine reg ?_
  refine p_ldA ty29 sz29 (S19.atX (i := 1) rfl) rfl rfl ?_
  obtain ⟨r20, h21, H⟩ := bindS H
  refine p_cal (coal_Wrong_ok h21 (S19.atP (i := 0) rfl) (S19.atP (i := 1) rfl) (S19.atP (i := 4) rfl)) fu27 rfl ?_
  rintro _ w22 ⟨A24, c25, rfl, k23, ⟨o26, n27⟩, _⟩
  have S28 := S19.callN k23 [rd intE 1 A24 c25 r20.1] (List.forall_mem_cons.2 ⟨⟨o26, Al.inL n27 ((List.forall_mem_cons.2 ⟨(fp_mem (i := 0) rfl), (List.forall_mem_cons.2 ⟨(fp_mem (i := 1) rfl), (fun _ h_ => (List.not_mem_nil h_).elim)⟩)⟩))⟩, (fun _ h_ => (List.not_mem_nil h_).elim)⟩)
  refine p_mT rfl ?_
  refine p_ext rfl rfl ?_
  refine p_ext rfl rfl ?_
  refine p_aS rfl ?_
  refine p_aI rfl ?_
  refine wp_nil ?_
  refine c_seq ?_
  refine reg ?_
  refine p_ldA ty29 sz29 (S28.atX (i := 0) rfl) rfl rfl ?_
  obtain ⟨r29, h30, H⟩ := bindS H
  refine p_cal (ref_Wrong_ok h30 (S28.atP (i := 3) rfl) (S28.atP (i := 4) rfl)) fu67 rfl ?_
  rintro _ w31 ⟨A33, c34, rfl, k32, ⟨o35, n36⟩, _⟩
  have S38 := S28.addNew k32 o35 n36
  refine p_mT rfl ?_
  refine p_ext rfl rfl ?_
  refine p_ext rfl rfl ?_
  refine p_aS rfl ?_
  refine p_aI rfl ?_
  refine wp_nil ?_
  refine c_seq ?_
  refine reg ?_
  refine p_mS rfl ?_
  refine p_mS rfl ?_
  obtain ⟨r39, h40, H⟩ := bindS H
  refine p_cv (B_Alike_ok h40 (S38.atP (i := 0) rfl) (gr_rd intE_len (S38.atX (i := 0) rfl))) fu43 rfl S38 fun w41 S42 => ?_
  refine p_mB rfl ?_
  rcases Bool.eq_false_or_eq_true (r39) with c43 | c43
  · replace H := condT c43 H
    refine eB c43 ?_
    refine gT rfl rfl (p_mI rfl ?_)
    refine gT rfl rfl (p_mI rfl ?_)
    refine gT rfl rfl (p_cmp rfl rfl rfl ?_)
    refine p_pkT rfl (rfl : _ = B (r20.2 == r29.2)) ?_
    refine p_aB rfl ?_
    refine wp_nil ?_
    obtain rfl := Option.some.inj H
    refine c_ret ?_; show bodyPostM (Fr none) 0 Tryd.prog Tryd.f21 _ .ret _ _
    refine ret_of (res1 rfl (rvT (rfl : _ = B (r20.2 == r29.2)))) ?_
    exact ⟨_, rfl, rfl, S42.keep⟩
  · replace H := condF c43 H
    refine eB c43 ?_
    refine gF rfl rfl ?_
    refine gF rfl rfl ?_
    refine gF rfl rfl ?_
    refine p_pkF rfl (rfl : _ = B false) ?_
    refine p_aB rfl ?_
    refine wp_nil ?_
    obtain rfl := Option.some.inj H
    refine c_ret ?_; show bodyPostM (Fr none) 0 Tryd.prog Tryd.f21 _ .ret _ _
    refine ret_of (res1 rfl (rvT (rfl : _ = B false))) ?_
    exact ⟨_, rfl, rfl, S42.keep⟩

structure Law06_known where
  eats_ : List Int
  winds_ : List Int
  coal_ : List Int
  deriving DecidableEq, Inhabited

end Go.Proofs.YticodohfokgjfaaDoor

set_option linter.unusedVariables false
set_option linter.unusedSimpArgs false
namespace Go.Proofs.YticodohfokgjfaaDoor
open Go Go.Fx Go.Proofs
end Go.Proofs.YticodohfokgjfaaDoor


set_option linter.unusedSimpArgs false
set_option linter.unusedVariables false
namespace Go.Fx
open Go Go.ChangeShapes Go.WideShapes Go.ChangeAt Go.RowKit
/-! from a law's walk to its row -/
section
variable {H : Type} {enc : TypeId × Value → H} {P : Program}
theorem Keep.kept {w w' : World} (k : Keep0 w w') (may : MemPlace → Prop) : w.keptBut w' may := by
  refine ⟨k.os, k.output, fun i hi => ?_⟩
  have := k.block i hi (fun x => x)
  rw [this]
  cases w.heap[i]? with
  | none => rfl
  | some o => cases o <;> first | exact ⟨rfl, rfl, rfl, fun _ _ => rfl⟩ | exact .inr ⟨rfl, rfl⟩ | rfl
theorem Keep.same {w w' : World} (k : Keep0 w w') {p : MemPlace} (hp : p.block < w.heap.size) : w.sameAt w' p := by
  cases p with
  | cell b off =>
    have := k.block b hp (fun x => x)
    exact World.cell?_of_block (w := w) this
  | map b => exact k.block b hp (fun x => x)
theorem trodAll_stays (hl : laidOutB P = true) {W W' : World} {sp' : Nat → Bool} : ∀ {ts : List TypeId} {vs : List Value} {ds : List (DataW H)} {ps : List MemPlace},
    (∀ t ∈ ts, P.readableRec t = true ∧ t < P.types.size) → DataW.TrodAll enc P W 0 (fun _ => true) true ts vs ds ps → (∀ p ∈ ps, W.sameAt W' p) → (∀ p ∈ ps, sp' p.block = true) → DataW.TrodAll enc P W' 0 sp' true ts vs ds ps
  | [], [], [], _, _, h, _, _ => h
  | t :: ts, v :: vs, d :: ds, ps, ht, ⟨p, q, h1, h2, e⟩, hs, hb => by
    subst e
    exact ⟨p, q, WideElems.Trod_stays hl (ht t (List.mem_cons_self ..)).1 (ht t (List.mem_cons_self ..)).2 h1 (fun x hx => hs x (List.mem_append_left _ hx)) (fun x hx => hb x (List.mem_append_left _ hx)),
      trodAll_stays hl (fun t ht' => ht t (List.mem_cons_of_mem _ ht')) h2 (fun x hx => hs x (List.mem_append_right _ hx)) (fun x hx => hb x (List.mem_append_right _ hx)), rfl⟩
  | [], _ :: _, _, _, _, h, _, _ => by cases ‹List (DataW H)› <;> exact h.elim
  | [], [], _ :: _, _, _, h, _, _ => h.elim
  | _ :: _, [], _, _, _, h, _, _ => by cases ‹List (DataW H)› <;> exact h.elim
  | _ :: _, _ :: _, [], _, _, h, _, _ => h.elim
theorem law_post {fn : Func} {spec : ChangeSpec} {W W' : World} {args : Array Value} {ds gs : List (DataW H)} {before : List MemPlace} {tb : TypeId}
    (hW : DataW.Whole enc P fn.params.toList spec.vars false W args.toList ds gs before) (hl : laidOutB P = true) (hts : (fn.params.toList.all fun t => P.readableRec t && decide (t < P.types.size)) = true)
    (hvars : spec.vars = []) (hfn : spec.fn H ds = { results := [.lit (.bool true)], args := ds }) (hres : fn.resultTypes = #[tb]) (hb : P.underlying tb = some .bool) (k : Keep0 W W') :
    spec.post enc P fn false true false false W args (.bool true) W' := by
  have hlt := hW.lt
  obtain ⟨p, q, hA, hV, rfl, hfz, hnd⟩ := id hW
  have hV' := hV
  rw [hvars] at hV'
  obtain ⟨rfl, rfl⟩ := trodVars_none hV'
  rw [List.append_nil] at hlt
  have hts' : ∀ t ∈ fn.params.toList, P.readableRec t = true ∧ t < P.types.size := fun t ht => by
    have := List.all_eq_true.1 hts t ht
    simpa using this
  refine ⟨ds, [], p ++ [], [], p, [], hW, ?_, ?_, ?_, k.kept _, fun h => by cases h⟩
  · rw [List.append_nil, hfn, hres]
    exact trodAll_mk1 (shut_bool hb true)
  · rw [List.append_nil, hfn]
    exact trodAll_stays hl hts' hA (fun x hx => k.same (hlt x hx)) (fun x hx => by simpa using hlt x hx)
  · rw [List.append_nil, hfn, hvars]
    rfl
/-! arguments -/
def InI (n : Int) : Prop := -9223372036854775808 ≤ n ∧ n ≤ 9223372036854775807
theorem inI_of {n : Int} (h : (Lit.int .i64 n).wf = true) : InI n := bounds_i64 h
variable {w : World} {base : Nat} {spare : Nat → Bool} {held : Bool}
/-- a type that is read as numbers side by side -/
def FlatI (P : Program) (t : TypeId) (n : Nat) : Prop := ∀ {H : Type} {enc : TypeId × Value → H} {w : World} {base : Nat} {spare : Nat → Bool} {held : Bool} {fuel : Nat} {cs : List Value} {x : DataW H × List MemPlace},
  DataW.trod enc P w base spare held fuel t cs = some x → ∃ l : List Int, l.length = n ∧ cs = l.map I ∧ ∀ y ∈ l, InI y
theorem flat_cells {cs : List Value} : ∀ {n : Nat}, cs.length = n → (∀ i, i < n → ∃ a : Int, cs[i]? = some (I a) ∧ InI a) → ∃ l : List Int, l.length = n ∧ cs = l.map I ∧ ∀ y ∈ l, InI y := by
  intro n hn h
  subst hn
  induction cs with
  | nil => exact ⟨[], rfl, rfl, fun _ h => (List.not_mem_nil h).elim⟩
  | cons c cs ih =>
    obtain ⟨a, ha, hi⟩ := h 0 (by simp)
    obtain ⟨l, h1, h2, h3⟩ := ih fun i hi => by
      obtain ⟨b, hb⟩ := h (i + 1) (by simp; omega)
      exact ⟨b, by simpa using hb⟩
    refine ⟨a :: l, by simp [h1], by simp at ha; rw [ha, h2]; rfl, fun y hy => ?_⟩
    rcases List.mem_cons.1 hy with rfl | hy
    · exact hi
    · exact h3 y hy
theorem take_one {cs : List Value} {o : Nat} {v : Value} (h : (cs.drop o).take 1 = [v]) : cs[o]? = some v := by
  have := congrArg (·[0]?) h
  simpa [List.getElem?_take] using this
theorem flat_array {t e : TypeId} {n : Nat} (ht : P.underlying t = some (.array n e)) (he : P.underlying e = some (.int .i64)) (hc : P.cellsOf e = 1) (hn : P.cellsOf t = n) : FlatI P t n := by
  intro _ _ _ _ _ _ _ cs _ h
  obtain ⟨xs, m, _, _, hl, hxs, hel⟩ := DataW.trod_array ht h
  refine flat_cells (hl.trans hn) fun i hi => ?_
  have := hel i hi
  rw [hc, Nat.mul_one, List.getElem?_eq_getElem (by rw [hxs]; exact hi)] at this
  obtain ⟨a, ha, _, hw⟩ := DataW.trod_int he this
  exact ⟨a, take_one ha, inI_of hw⟩
theorem flat_struct {t : TypeId} {fs : Array Field} {n : Nat} (ht : P.underlying t = some (.struct fs)) (hn : P.cellsOf t = n) (hf : ∀ i, i < n → ∃ f : Field, fs[i]? = some f ∧ f.offset = i ∧ P.underlying f.type = some (.int .i64) ∧ P.cellsOf f.type = 1) (hs : fs.size = n) : FlatI P t n := by
  intro _ _ _ _ _ _ _ cs _ h
  obtain ⟨xs, m, _, _, hl, hxs, hel⟩ := DataW.trod_struct ht h
  refine flat_cells (hl.trans hn) fun i hi => ?_
  obtain ⟨f, h1, h2, h3, h4⟩ := hf i hi
  have := hel i f h1
  rw [h2, h4, List.getElem?_eq_getElem (by rw [hxs, hs]; exact hi)] at this
  obtain ⟨a, ha, _, hw⟩ := DataW.trod_int h3 this
  exact ⟨a, take_one ha, inI_of hw⟩
theorem mapM_get {α β : Type} {f : α → Option β} : ∀ {l : List α} {r : List β}, l.mapM f = some r → ∀ (i : Nat) (a : α), l[i]? = some a → f a = r[i]?
  | [], _, _, i, a, ha => by simp at ha
  | x :: l, r, h, i, a, ha => by
    simp only [List.mapM_cons, Option.bind_eq_bind, Option.bind_eq_some_iff, Option.pure_def, Option.some.injEq] at h
    obtain ⟨b, hb, r', hr', rfl⟩ := h
    cases i with
    | zero =>
      simp only [List.getElem?_cons_zero, Option.some.injEq] at ha
      subst ha
      exact hb
    | succ i => exact mapM_get hr' i a (by simpa using ha)
theorem cell_in {w : World} {a : Addr} {v : Value} (h : w.cell? a = some v) : a.block < w.heap.size := by
  unfold World.cell? at h
  split at h
  · rename_i hw
    exact (Array.getElem?_eq_some_iff.1 hw).1
  · cases h
theorem add_blk (a : Addr) (n : Nat) : (a.add n).block = a.block ∧ (a.add n).off = a.off + n := by
  unfold Addr.add
  split
  · rename_i h; subst h; exact ⟨rfl, rfl⟩
  · exact ⟨rfl, rfl⟩
theorem cellN {w : World} {a : Addr} {n : Nat} {v : Value} (h : w.cell? (a.add n) = some v) : w.cell? ⟨a.block, a.off + n, none⟩ = some v := by
  have h1 := World.cell?_spot h
  obtain ⟨h2, h3⟩ := add_blk a n
  have : a.add n = ⟨a.block, a.off + n, none⟩ := by
    generalize a.add n = x at h1 h2 h3
    cases x
    cases h1; cases h2; cases h3; rfl
  rwa [this] at h
/-- a slice of such -/
theorem slice_flat {t e : TypeId} {s fuel : Nat} {cs : List Value} {x : DataW H × List MemPlace} (ht : P.underlying t = some (.slice e)) (F : FlatI P e s) (hs : P.cellsOf e = s) (h0 : 0 < s)
    (h : DataW.trod enc P w 0 spare held fuel t cs = some x) : ∃ A c, ∃ xs : List (List Int), cs = [SL A xs.length c] ∧ (∀ l ∈ xs, l.length = s ∧ ∀ y ∈ l, InI y) ∧ (rd (fun l : List Int => l.map I) s A c xs).ok w := by
  rcases DataW.trod_slice ht h with ⟨rfl, _⟩ | ⟨a, len, cap, elems, rest, n, _, rfl, _, _, hlc, hcm, hel, hE, _, _⟩
  · exact ⟨none, 0, [], rfl, fun _ h => (List.not_mem_nil h).elim, .inl rfl, Nat.le_refl _, Nat.zero_le _⟩
  · have ex : ∀ i, i < len → ∃ l : List Int, l.length = s ∧ (∀ y ∈ l, InI y) ∧ ∀ j v, (l.map I)[j]? = some v → w.cell? ⟨a.block, a.off + i * s + j, none⟩ = some v := by
      intro i hi
      have := hE i hi
      rw [hs, List.getElem?_eq_getElem (by rw [hel]; exact hi)] at this
      obtain ⟨cs, hc, hd⟩ := Option.bind_eq_some_iff.1 this
      obtain ⟨l, hl, rfl, hy⟩ := F hd
      refine ⟨l, hl, hy, fun j v hj => ?_⟩
      unfold World.cells? at hc
      rw [if_pos (Nat.zero_le _)] at hc
      have hjl : j < s := by
        have := (List.getElem?_eq_some_iff.1 hj).1
        rw [List.length_map, hl] at this
        exact this
      have := mapM_get hc j j (List.getElem?_range hjl)
      rw [hj] at this
      have := cellN this
      rwa [(add_blk a (i * s)).1, (add_blk a (i * s)).2] at this
    have ch : ∃ f : Nat → List Int, ∀ i, i < len → (f i).length = s ∧ (∀ y ∈ f i, InI y) ∧ ∀ j v, ((f i).map I)[j]? = some v → w.cell? ⟨a.block, a.off + i * s + j, none⟩ = some v :=
      ⟨fun i => if h : i < len then Classical.choose (ex i h) else [], fun i hi => by simp only [dif_pos hi]; exact Classical.choose_spec (ex i hi)⟩
    obtain ⟨f, hf⟩ := ch
    refine ⟨some a, cap, (List.range len).map f, by simp [SL], fun l hl => ?_, ?_, by simpa using hlc, hcm⟩
    · obtain ⟨i, hi, rfl⟩ := List.mem_map.1 hl
      have := hf i (List.mem_range.1 hi)
      exact ⟨this.1, this.2.1⟩
    · by_cases hz : len = 0
      · left; subst hz; rfl
      · right
        have h00 := (hf 0 (by omega)).2.2 0 (I ((f 0)[0]'(by rw [(hf 0 (by omega)).1]; exact h0))) (by simp [(hf 0 (by omega)).1, h0])
        obtain ⟨b, o, sp⟩ := a
        have hsp : sp = none := by
          have := hE 0 (by omega)
          rw [hs, List.getElem?_eq_getElem (by rw [hel]; omega)] at this
          obtain ⟨cs, hc, hd⟩ := Option.bind_eq_some_iff.1 this
          obtain ⟨l, hl, rfl, hy⟩ := F hd
          unfold World.cells? at hc
          rw [if_pos (Nat.zero_le _)] at hc
          have := mapM_get hc 0 0 (List.getElem?_range h0)
          rw [List.getElem?_eq_getElem (by rw [List.length_map, hl]; exact h0)] at this
          rw [Nat.zero_mul] at this
          exact World.cell?_spot (show w.cell? ⟨b, o, sp⟩ = _ from this)
        subst hsp
        refine ⟨b, o, rfl, cell_in h00, fun i x hx j v hv => ?_⟩
        have hi : i < len := by
          have := (List.getElem?_eq_some_iff.1 hx).1
          simpa using this
        have hx' : x = f i := by simpa [List.getElem?_range, hi] using hx.symm
        subst hx'
        exact (hf i hi).2.2 j v hv
theorem rd_map {α β : Type} {e1 : α → List Value} {e2 : β → List Value} {s c : Nat} {A : Option Addr} {xs : List α} (f : α → β) (h : ∀ x ∈ xs, e2 (f x) = e1 x) (h1 : (rd e1 s A c xs).ok w) : (rd e2 s A c (xs.map f)).ok w := by
  refine ⟨?_, by simpa using h1.2.1, h1.2.2⟩
  rcases h1.1 with rfl | ⟨b, o, e, hb, hc⟩
  · exact .inl rfl
  · refine .inr ⟨b, o, e, hb, fun i x hx j v hv => ?_⟩
    rw [List.getElem?_map] at hx
    obtain ⟨y, hy, rfl⟩ := Option.map_eq_some_iff.1 hx
    rw [h y (List.mem_of_getElem? hy)] at hv
    exact hc i y hy j v hv
theorem okWide_cells {r : Reach} {b0 : Nat} {t : TypeId} {v : Value} (ht : (match P.underlying t with | some (.struct _) | some (.array _ _) => true | _ => false) = true) (hval : Value.okWide P w r b0 t v) : ∃ cs, v = .agg cs := by
  unfold Value.okWide at hval
  split at hval
  · obtain ⟨cs, h, _⟩ := hval; exact ⟨cs, h⟩
  · obtain ⟨cs, h, _⟩ := hval; exact ⟨cs, h⟩
  · rename_i h1 h2
    split at ht
    · rename_i h; exact absurd h (h1 _)
    · rename_i h; exact absurd h (h2 _ _)
    · cases ht
end
end Go.Fx

set_option linter.unusedVariables false
namespace Go.Proofs.YticodohfokgjfaaDoor
open Go Go.Fx Go.Proofs Go.ChangeShapes Go.WideShapes Go.ChangeAt Go.RowKit
theorem own : ownKnob Tryd.prog.godebug = none := by kernel_rfl
theorem gAsks : Tryd.prog.globalNamed "prow/coal.asks" = some 0 := by kernel_rfl
theorem tAsks : (Tryd.prog.globals[0]?).map (·.type) = some 110 := by kernel_rfl
theorem gStill : Tryd.prog.globalNamed "prow/coal.still" = some 1 := by kernel_rfl
theorem tStill : (Tryd.prog.globals[1]?).map (·.type) = some 123 := by kernel_rfl
theorem laidOut : laidOutB Tryd.prog = true := by kernel_rfl
theorem u110 : Tryd.prog.underlying 110 = some (.array 2 109) := by kernel_rfl
theorem u109b : (match Tryd.prog.underlying 109 with | some (.func _ _ _) => true | _ => false) = true := by kernel_rfl
theorem u109 : ∃ ps rs va, Tryd.prog.underlying 109 = some (.func ps rs va) := by
  have h := u109b
  split at h
  · rename_i ps rs va hu; exact ⟨ps, rs, va, hu⟩
  · cases h
theorem u3 : Tryd.prog.underlying 3 = some (.int .i64) := by kernel_rfl
theorem c109 : Tryd.prog.cellsOf 109 = 1 := by kernel_rfl
theorem c110 : Tryd.prog.cellsOf 110 = 2 := by kernel_rfl
theorem c123 : Tryd.prog.cellsOf 123 = 2 := by kernel_rfl
theorem c3 : Tryd.prog.cellsOf 3 = 1 := by kernel_rfl
theorem u123 : ∃ f0 f1 : Field, Tryd.prog.underlying 123 = some (.struct #[f0, f1]) ∧ f0.type = 3 ∧ f1.type = 3 ∧ f0.offset = 0 ∧ f1.offset = 1 := ⟨(Tryd.prog.fieldsOf 123)[0]!, (Tryd.prog.fieldsOf 123)[1]!, by kernel_rfl, by kernel_rfl, by kernel_rfl, by kernel_rfl, by kernel_rfl⟩
def laidL : List (String × DataW Unit) := [("prow/coal.still", Rows.laid_prow_coal_still), ("prow/coal.asks", Rows.laid_prow_coal_asks)]
theorem var_heap {W : World} {n : String} {g : Nat} {cs c : Array Value} {t : TypeId} {fr : Nat × Nat} (hg : Tryd.prog.globalNamed n = some g) (hv : W.var? Tryd.prog n = some cs) (hh : W.heap[g]? = some (.cells c t fr)) : cs = c := by
  unfold World.var? at hv
  rw [hg] at hv
  simp only [Option.bind_some, hh] at hv
  exact (Option.some.inj hv).symm
theorem shape0 : ∃ zero, (((begin Tryd.prog (fun _ _ => 0) default).world.heap[0]?).bind Obj.row?) = some (zero, 110) := ⟨#[.nilFunc, .nilFunc], by kernel_rfl⟩
theorem shape1 : ∃ zero, (((begin Tryd.prog (fun _ _ => 0) default).world.heap[1]?).bind Obj.row?) = some (zero, 123) := ⟨#[I 0, I 0], by kernel_rfl⟩
set_option maxRecDepth 100000 in
theorem globals_ok {W : World} (hS : W.ShapedOpen Tryd.prog) (h : laidMetH Tryd.prog laidL W) : (bl 0 [Value.func (.func 128) #[] #[], Value.func (.func 129) #[] #[]] 110).ok W ∧ (bl 1 [I (-1), I (-1)] 123).ok W := by
  obtain ⟨z0, hz0⟩ := shape0
  obtain ⟨z1, hz1⟩ := shape1
  obtain ⟨cs0, h0, _⟩ := hS.1 0 z0 110 (of_decide_eq_true (by kernel_rfl)) hz0
  obtain ⟨cs1, h1, _⟩ := hS.1 1 z1 123 (of_decide_eq_true (by kernel_rfl)) hz1
  constructor
  · obtain ⟨g, t, cs, fuel, p, hg, ht, hv, hd⟩ := h.funcs (n := "prow/coal.asks") (List.mem_cons_of_mem _ (List.mem_cons_self ..))
    obtain rfl := Option.some.inj (gAsks.symm.trans hg)
    obtain rfl := Option.some.inj (tAsks.symm.trans ht)
    obtain rfl := var_heap gAsks hv h0
    obtain ⟨xs, m, _, hx, hl, hxs, hel⟩ := DataW.trod_array u110 hd
    rw [c110] at hl
    have hx' : xs.map (·.1) = [.held [40, 112, 114, 111, 119, 47, 99, 111, 97, 108, 46, 98, 111, 111, 107, 41, 46, 115, 111, 109, 101], .held [40, 112, 114, 111, 119, 47, 99, 111, 97, 108, 46, 98, 111, 111, 107, 41, 46, 101, 97, 99, 104]] := by
      have := congrArg Prod.fst hx
      exact (DataW.agg.inj this).symm
    obtain ⟨ps, rs, va, hu⟩ := u109
    obtain ⟨cl⟩ := cs
    match cl, hl with
    | [v0, v1], _ =>
      match xs, hx' with
      | [(_, p0), (_, p1)], hx' =>
        simp only [List.map_cons, List.map_nil, List.cons.injEq, and_true] at hx'
        obtain ⟨rfl, rfl⟩ := hx'
        have e0 := hel 0 (by decide)
        have e1 := hel 1 (by decide)
        rw [c109] at e0 e1
        obtain rfl := func_of_trod (f0 := 128) hu (by kernel_rfl) (show DataW.trod _ _ _ _ _ _ _ _ [v0] = some (_, p0) from e0)
        obtain rfl := func_of_trod (f0 := 129) hu (by kernel_rfl) (show DataW.trod _ _ _ _ _ _ _ _ [v1] = some (_, p1) from e1)
        exact h0
  · have h' : laidMet Tryd.prog [("prow/coal.still", Rows.laid_prow_coal_still)] W := h.1
    obtain ⟨ps, ⟨g, t, cs, fuel, p, q, hg, ht, hv, hd, _, _⟩, _⟩ := h'
    obtain rfl := Option.some.inj (gStill.symm.trans hg)
    obtain rfl := Option.some.inj (tStill.symm.trans ht)
    obtain rfl := var_heap gStill hv h1
    obtain ⟨f0, f1, hu, ht0, ht1, ho0, ho1⟩ := u123
    obtain ⟨xs, m, _, hx, hl, hxs, hel⟩ := DataW.trod_struct hu hd
    rw [c123] at hl
    have hx' : xs.map (·.1) = [.lit (.int .i64 (-1)), .lit (.int .i64 (-1))] := by
      have := congrArg Prod.fst hx
      exact (DataW.agg.inj this).symm
    obtain ⟨cl⟩ := cs
    match cl, hl with
    | [v0, v1], _ =>
      match xs, hx' with
      | [(_, p0), (_, p1)], hx' =>
        simp only [List.map_cons, List.map_nil, List.cons.injEq, and_true] at hx'
        obtain ⟨rfl, rfl⟩ := hx'
        have e0 := hel 0 f0 rfl
        have e1 := hel 1 f1 rfl
        rw [ho0, ht0, c3] at e0
        rw [ho1, ht1, c3] at e1
        obtain ⟨n0, a0, b0, _⟩ := DataW.trod_int u3 (show DataW.trod _ _ _ _ _ _ _ _ [v0] = some (_, p0) from e0)
        obtain ⟨n1, a1, b1, _⟩ := DataW.trod_int u3 (show DataW.trod _ _ _ _ _ _ _ _ [v1] = some (_, p1) from e1)
        cases a0; cases a1; cases b0; cases b1
        exact h1
def putCells (cs : Array Value) : Obj → Obj
  | .cells _ t frozen => .cells cs t frozen
  | o => o
/-- a world for the witness: both listed variables hold what the text lays -/
noncomputable def laidWorld (os : Os) : World :=
  { World.holding Tryd.prog os ⟨#[], #[], []⟩ with heap := ((World.holding Tryd.prog os ⟨#[], #[], []⟩).heap.modify 0 (putCells #[.func (.func 128) #[] #[], .func (.func 129) #[] #[]])).modify 1 (putCells #[I (-1), I (-1)]) }
end Go.Proofs.YticodohfokgjfaaDoor

set_option linter.unusedVariables false
set_option linter.constructorNameAsVariable false
set_option maxRecDepth 100000
namespace Go.Proofs.YticodohfokgjfaaDoor
open Go Go.Fx Go.Proofs Go.ChangeShapes Go.WideShapes Go.ChangeAt Go.RowKit
theorem get_bang {α : Type} [Inhabited α] {a : Array α} {i : Nat} (h : i < a.size) : a[i]? = some a[i]! := by
  rw [Array.getElem?_eq_getElem h, getElem!_pos a i h]
theorem st {t n : Nat} (u : Tryd.prog.underlying t = some (.struct (Tryd.prog.fieldsOf t))) (c : Tryd.prog.cellsOf t = n) (s : (Tryd.prog.fieldsOf t).size = n)
    (b : ((List.range n).all fun i => (Tryd.prog.fieldsOf t)[i]!.offset == i && (Tryd.prog.fieldsOf t)[i]!.type == 3) = true) : FlatI Tryd.prog t n := by
  refine flat_struct u c (fun i hi => ?_) s
  refine ⟨_, get_bang (by rw [s]; exact hi), ?_⟩
  have := List.all_eq_true.1 b i (List.mem_range.2 hi)
  simp only [Bool.and_eq_true, beq_iff_eq] at this
  exact ⟨this.1, by rw [this.2]; exact u3, by rw [this.2]; exact c3⟩
theorem c23 : Tryd.prog.cellsOf 23 = 2 := by kernel_rfl
theorem c64 : Tryd.prog.cellsOf 64 = 3 := by kernel_rfl
theorem c67 : Tryd.prog.cellsOf 67 = 3 := by kernel_rfl
theorem c29 : Tryd.prog.cellsOf 29 = 14 := by kernel_rfl
theorem c24 : Tryd.prog.cellsOf 24 = 4 := by kernel_rfl
theorem c25 : Tryd.prog.cellsOf 25 = 3 := by kernel_rfl
theorem c26 : Tryd.prog.cellsOf 26 = 1 := by kernel_rfl
theorem c27 : Tryd.prog.cellsOf 27 = 1 := by kernel_rfl
theorem u24 : Tryd.prog.underlying 24 = some (.array 2 23) := by kernel_rfl
theorem u25 : Tryd.prog.underlying 25 = some (.array 3 3) := by kernel_rfl
theorem u26 : Tryd.prog.underlying 26 = some (.slice 64) := by kernel_rfl
theorem u27 : Tryd.prog.underlying 27 = some (.slice 67) := by kernel_rfl
theorem u29 : Tryd.prog.underlying 29 = some (.struct (Tryd.prog.fieldsOf 29)) := by kernel_rfl
theorem flat23 : FlatI Tryd.prog 23 2 := st (by kernel_rfl) c23 (by kernel_rfl) (by kernel_rfl)
theorem flat64 : FlatI Tryd.prog 64 3 := st (by kernel_rfl) c64 (by kernel_rfl) (by kernel_rfl)
theorem flat67 : FlatI Tryd.prog 67 3 := st (by kernel_rfl) c67 (by kernel_rfl) (by kernel_rfl)
theorem flat25 : FlatI Tryd.prog 25 3 := flat_array u25 u3 c3 c25
theorem f29s : (Tryd.prog.fieldsOf 29).size = 7 := by kernel_rfl
theorem f29b : ([(0, 0, 23), (1, 2, 24), (2, 6, 25), (3, 9, 26), (4, 10, 23), (5, 12, 3), (6, 13, 27)].all fun (x : Nat × Nat × Nat) => (Tryd.prog.fieldsOf 29)[x.1]!.offset == x.2.1 && (Tryd.prog.fieldsOf 29)[x.1]!.type == x.2.2) = true := by kernel_rfl
theorem maxLen_le : maxLen ≤ 9223372036854775807 := by decide
def dayOf (l : List Int) : CoalDay := ⟨l.getD 0 0, l.getD 1 0, l.getD 2 0⟩
theorem dayOf_cells {l : List Int} (h : l.length = 3) : eCoalDay (dayOf l) = l.map I := by
  match l, h with
  | [_, _, _], _ => rfl
def dipOf (l : List Int) : CoalDip := ⟨l.getD 0 0, l.getD 1 0, l.getD 2 0⟩
theorem dipOf_cells {l : List Int} (h : l.length = 3) : eCoalDip (dipOf l) = l.map I := by
  match l, h with
  | [_, _, _], _ => rfl
variable {H : Type} {enc : TypeId × Value → H} {w : World} {spare : Nat → Bool} {held : Bool} {r : Reach} {b0 : Nat} {v : Value} {d : DataW H} {ps : List MemPlace}
theorem two_of {fuel : Nat} {cs : List Value} {x : DataW H × List MemPlace} (h : DataW.trod enc Tryd.prog w 0 spare held fuel 23 cs = some x) : ∃ s : Span, cs = eSpan s := by
  obtain ⟨l, hl, rfl, _⟩ := flat23 h
  match l, hl with
  | [a, b], _ => exact ⟨⟨a, b⟩, rfl⟩
theorem four_of {fuel : Nat} {cs : List Value} {x : DataW H × List MemPlace} (h : DataW.trod enc Tryd.prog w 0 spare held fuel 24 cs = some x) : ∃ l : List Span, l.length = 2 ∧ cs = sgE eSpan l 2 := by
  obtain ⟨xs, m, _, _, hl, hxs, hel⟩ := DataW.trod_array u24 h
  rw [c24] at hl
  have e0 := hel 0 (by decide)
  have e1 := hel 1 (by decide)
  rw [c23, List.getElem?_eq_getElem (by omega)] at e0 e1
  obtain ⟨s0, h0⟩ := two_of e0
  obtain ⟨s1, h1⟩ := two_of e1
  refine ⟨[s0, s1], rfl, ?_⟩
  match cs, hl with
  | [a, b, c, d], _ =>
    simp [eSpan] at h0 h1
    obtain ⟨rfl, rfl⟩ := h0
    obtain ⟨rfl, rfl⟩ := h1
    rfl
theorem dec_book (hval : Value.okWide Tryd.prog w r b0 29 v) (hd : DataW.Trod enc Tryd.prog w 0 spare held 29 v d ps) : ∃ A1 c1 A2 c2, ∃ b : CoalBook, v = AG ([I b.Heap.Low, I b.Heap.High] ++ (sgE eSpan b.Eats 2 ++ (sg b.Extra 3 ++ [SL A1 b.Days.length c1, I b.Collier.Low, I b.Collier.High, I b.Brings, SL A2 b.Dips.length c2]))) ∧
    (rd eCoalDay 3 A1 c1 b.Days).ok w ∧ (rd eCoalDip 3 A2 c2 b.Dips).ok w ∧ b.Days.length ≤ 9223372036854775807 ∧ b.Dips.length ≤ 9223372036854775807 ∧ b.Eats.length = 2 ∧ b.Extra.length = 3 := by
  obtain ⟨cs, rfl⟩ := okWide_cells (by kernel_rfl) hval
  obtain ⟨fuel, hf⟩ := hd
  obtain ⟨xs, m, _, _, hl, hxs, hel⟩ := DataW.trod_struct u29 hf
  rw [c29] at hl
  rw [f29s] at hxs
  have fb := f29b
  simp only [List.all_cons, List.all_nil, Bool.and_eq_true, beq_iff_eq, and_true] at fb
  obtain ⟨⟨o0, t0⟩, ⟨o1, t1⟩, ⟨o2, t2⟩, ⟨o3, t3⟩, ⟨o4, t4⟩, ⟨o5, t5⟩, ⟨o6, t6⟩⟩ := fb
  have e0 := hel 0 _ (get_bang (by rw [f29s]; decide))
  have e1 := hel 1 _ (get_bang (by rw [f29s]; decide))
  have e2 := hel 2 _ (get_bang (by rw [f29s]; decide))
  have e3 := hel 3 _ (get_bang (by rw [f29s]; decide))
  have e4 := hel 4 _ (get_bang (by rw [f29s]; decide))
  have e5 := hel 5 _ (get_bang (by rw [f29s]; decide))
  have e6 := hel 6 _ (get_bang (by rw [f29s]; decide))
  rw [o0, t0, c23, List.getElem?_eq_getElem (by omega)] at e0
  rw [o1, t1, c24, List.getElem?_eq_getElem (by omega)] at e1
  rw [o2, t2, c25, List.getElem?_eq_getElem (by omega)] at e2
  rw [o3, t3, c26, List.getElem?_eq_getElem (by omega)] at e3
  rw [o4, t4, c23, List.getElem?_eq_getElem (by omega)] at e4
  rw [o5, t5, c3, List.getElem?_eq_getElem (by omega)] at e5
  rw [o6, t6, c27, List.getElem?_eq_getElem (by omega)] at e6
  obtain ⟨s0, g0⟩ := two_of e0
  obtain ⟨l1, k1, g1⟩ := four_of e1
  obtain ⟨l2, k2, g2, _⟩ := flat25 e2
  obtain ⟨A3, c3', l3, g3, h31, h32⟩ := slice_flat u26 flat64 c64 (by decide) e3
  obtain ⟨s4, g4⟩ := two_of e4
  obtain ⟨n5, g5, _, _⟩ := DataW.trod_int u3 e5
  obtain ⟨A6, c6', l6, g6, h61, h62⟩ := slice_flat u27 flat67 c67 (by decide) e6
  have m3 := rd_map (e2 := eCoalDay) dayOf (fun x hx => dayOf_cells (h31 x hx).1) h32
  have m6 := rd_map (e2 := eCoalDip) dipOf (fun x hx => dipOf_cells (h61 x hx).1) h62
  refine ⟨A3, c3', A6, c6', ⟨s0, l1, l2, l3.map dayOf, s4, n5, l6.map dipOf⟩, ?_, m3, m6, ?_, ?_, k1, k2⟩
  · obtain ⟨cl⟩ := cs
    match l1, k1, l2, k2 with
    | [p, q], _, [x, y, z], _ =>
      match cl, hl with
      | [y0, y1, y2, y3, y4, y5, y6, y7, y8, y9, y10, y11, y12, y13], _ =>
        simp [Value.cells, eSpan, sgE, sgEF] at g0 g1 g2 g3 g4 g5 g6
        obtain ⟨rfl, rfl⟩ := g0
        obtain ⟨rfl, rfl, rfl, rfl⟩ := g1
        obtain ⟨rfl, rfl, rfl⟩ := g2
        obtain ⟨rfl, rfl⟩ := g4
        subst g3 g5 g6
        simp [sgE, sgEF, sg, sgF, eSpan]
  · have := maxLen_le; have := m3.2.1; have := m3.2.2; simp only; omega
  · have := maxLen_le; have := m6.2.1; have := m6.2.2; simp only; omega
end Go.Proofs.YticodohfokgjfaaDoor

set_option linter.unusedVariables false
set_option linter.unusedSimpArgs false
namespace Go.Proofs.YticodohfokgjfaaDoor
open Go Go.Fx
theorem wrI {x : Int} (h0 : -9223372036854775808 ≤ x) (h1 : x ≤ 9223372036854775807) : Fx.wr x = x := wr_eq h0 h1
def inB (a lo hi : Int) : Bool := decide (lo ≤ a) && decide (a ≤ hi)
theorem inB_iff {a lo hi : Int} : inB a lo hi = true ↔ lo ≤ a ∧ a ≤ hi := by simp [inB]
theorem within_eq (a b c : Int) : coal_within a b c = some (inB a b c) := by
  unfold coal_within inB
  cases decide (b ≤ a) <;> rfl
theorem inside_eq (a b c : Int) : B_Inside a b c = some (inB a b c) := by
  unfold B_Inside inB
  rw [show decide (a ≥ b) = decide (b ≤ a) from rfl]
  cases decide (b ≤ a) <;> rfl
theorem getI_lt {α : Type} {l : List α} {i : Int} (h0 : 0 ≤ i) (h : i < l.length) : ∃ x, getI l i = some x ∧ l[i.toNat]? = some x := by
  have hi : i.toNat < l.length := by omega
  exact ⟨l[i.toNat], getI_of h0 (List.getElem?_eq_getElem hi), List.getElem?_eq_getElem hi⟩
theorem getI_ix {α : Type} {l : List α} {k : Nat} (h : k < l.length) : getI l (k : Int) = some l[k] := by rw [getI_nat, List.getElem?_eq_getElem h]
/-- a loop whose state behind k rounds is known -/
theorem loop_fold {σ ρ : Type} {body : (σ → Option ρ) → σ → Option ρ} (S : Nat → σ) (n : Nat) {R : Option ρ} (hs : ∀ rec k, k < n → body rec (S k) = rec (S (k + 1))) (he : ∀ rec, body rec (S n) = R) (hn : n < big) : loopF body big (S 0) = R := by
  have key : ∀ d k m, k + d = n → d < m → loopF body m (S k) = R := by
    intro d
    induction d with
    | zero =>
      intro k m h1 h2
      obtain ⟨m, rfl⟩ : ∃ q, m = q + 1 := ⟨m - 1, by omega⟩
      obtain rfl : k = n := by omega
      exact he _
    | succ d ih =>
      intro k m h1 h2
      obtain ⟨m, rfl⟩ : ∃ q, m = q + 1 := ⟨m - 1, by omega⟩
      show body (loopF body m) (S k) = R
      rw [hs _ k (by omega)]
      exact ih (k + 1) m (by omega) (by omega)
  exact key n 0 big (by omega) hn
theorem loop_fold0 {σ ρ : Type} {body : (σ → Option ρ) → σ → Option ρ} (S : Nat → σ) (n : Nat) {s0 : σ} {R : Option ρ} (hs : ∀ rec k, k < n → body rec (S k) = rec (S (k + 1))) (he : ∀ rec, body rec (S n) = R) (hn : n < big) (h0 : S 0 = s0) : loopF body big s0 = R := h0 ▸ loop_fold S n hs he hn
theorem big_eq : big = 18446744073709551616 := by decide
/-- all of a list, seen one by one -/
def allTo {α : Type} (p : α → Bool) (l : List α) (ok : Bool) (k : Nat) : Bool := ok && (l.take k).all p
theorem allTo_zero {α : Type} {p : α → Bool} {l : List α} {ok : Bool} : allTo p l ok 0 = ok := by simp [allTo]
theorem allTo_succ {α : Type} {p : α → Bool} {l : List α} {ok : Bool} {k : Nat} (h : k < l.length) : allTo p l ok (k + 1) = (allTo p l ok k && p l[k]) := by
  unfold allTo
  rw [← List.take_append_getElem h, List.all_append]
  simp [Bool.and_assoc]
theorem allTo_end {α : Type} {p : α → Bool} {l : List α} {ok : Bool} : allTo p l ok l.length = (ok && l.all p) := by simp [allTo]
theorem wrN {k : Nat} {n : Nat} (h : k < n) (hn : n ≤ 9223372036854775807) : Fx.wr ((k : Int) + 1) = ((k + 1 : Nat) : Int) := by rw [wrI (by omega) (by omega)]; omega
structure Arg (b : CoalBook) : Prop where
  dl : b.Days.length ≤ 9223372036854775807
  pl : b.Dips.length ≤ 9223372036854775807
  el : b.Eats.length = 2
  xl : b.Extra.length = 3
def spB (s : Span) (hi wide : Int) : Bool := decide (0 ≤ s.Low) && decide (s.Low ≤ s.High) && decide (s.High ≤ hi) && decide (s.High - s.Low ≤ wide)
theorem isSpan_eq (s : Span) (hi wide : Int) (hh : hi ≤ 9223372036854775807) : coal_isSpan s hi wide = some (spB s hi wide) := by
  unfold coal_isSpan spB
  by_cases h1 : 0 ≤ s.Low <;> by_cases h2 : s.Low ≤ s.High <;> by_cases h3 : s.High ≤ hi <;> simp only [h1, h2, h3, decide_true, decide_false, cond_true, cond_false, Bool.true_and, Bool.false_and, Bool.and_false]
  rw [wrI (by omega) (by omega)]
def dayB (x : CoalDay) : Bool := inB x.Crosses 0 9 && inB x.Engines 1 3 && inB x.Winds 1 7
def dipB (n : Nat) (x : CoalDip) : Bool := inB x.Day 0 ((n : Int) - 1) && inB x.Read 0 800 && inB x.Error 0 9
theorem isDay_eq (b : CoalBook) (A : Arg b) (n : Int) : coal_isDay b n = some (inB n 0 ((b.Days.length : Int) - 1)) := by
  unfold coal_isDay
  have := A.dl
  rw [wrI (by omega) (by omega), within_eq]; rfl
def valB (b : CoalBook) : Bool := spB b.Heap 400 4 && inB b.Days.length 1 6 && spB b.Collier b.Days.length 3 && inB b.Brings 0 400 && decide ((b.Dips.length : Int) ≤ 4) && b.Eats.all (spB · 9 2) && b.Extra.all (inB · 0 9) && b.Days.all dayB && b.Dips.all (dipB b.Days.length)
theorem check_tail (b : CoalBook) (A : Arg b) (ok : Bool) : coal_Check_j9 b ok = some (bif ok && b.Eats.all (spB · 9 2) && b.Extra.all (inB · 0 9) && b.Days.all dayB && b.Dips.all (dipB b.Days.length) then 0 else 60) := by
  have h1 := A.dl; have h2 := A.pl; have h3 := A.el; have h4 := A.xl
  unfold coal_Check_j9
  refine loop_fold0 (fun k => (allTo (spB · 9 2) b.Eats ok k, (k : Int))) 2 (fun rec k hk => ?_) (fun rec => ?_) (by rw [big_eq]; omega) (by rw [allTo_zero]; rfl)
  · unfold coal_Check_l8
    simp only
    rw [decide_eq_true (by omega), cond_true, need_of (by simp [inI]; omega), wrN hk (by omega), allTo_succ (by omega)]
    rw [isSpan_eq _ _ _ (by omega), show agetS b.Eats (k : Int) = b.Eats[k]'(by omega) by simp [agetS, List.getD_eq_getElem?_getD, List.getElem?_eq_getElem (show k < b.Eats.length by omega)]]
    cases allTo (spB · 9 2) b.Eats ok k <;> simp
  unfold coal_Check_l8
  simp only
  rw [decide_eq_false (by omega), cond_false, show allTo (spB · 9 2) b.Eats ok 2 = (ok && b.Eats.all (spB · 9 2)) by rw [← h3, allTo_end]]
  generalize (ok && b.Eats.all (spB · 9 2)) = ok
  refine loop_fold0 (fun k => (allTo (inB · 0 9) b.Extra ok k, (k : Int))) 3 (fun rec k hk => ?_) (fun rec => ?_) (by rw [big_eq]; omega) (by rw [allTo_zero]; rfl)
  · unfold coal_Check_l7
    simp only
    rw [decide_eq_true (by omega), cond_true, need_of (by simp [inI]; omega), wrN hk (by omega), allTo_succ (by omega), within_eq]
    rw [show aget b.Extra (k : Int) = b.Extra[k]'(by omega) by simp [aget, List.getD_eq_getElem?_getD, List.getElem?_eq_getElem (show k < b.Extra.length by omega)]]
    cases allTo (inB · 0 9) b.Extra ok k <;> simp
  unfold coal_Check_l7
  simp only
  rw [decide_eq_false (by omega), cond_false, show allTo (inB · 0 9) b.Extra ok 3 = (ok && b.Extra.all (inB · 0 9)) by rw [← h4, allTo_end]]
  generalize (ok && b.Extra.all (inB · 0 9)) = ok
  refine loop_fold0 (fun k => (allTo dayB b.Days ok k, (k : Int))) b.Days.length (fun rec k hk => ?_) (fun rec => ?_) (by rw [big_eq]; omega) (by rw [allTo_zero]; rfl)
  · unfold coal_Check_l6
    simp only
    rw [decide_eq_true (by omega), cond_true, getI_ix hk, Option.bind_some, wrN hk h1, allTo_succ hk]
    simp only [within_eq, Option.bind_some]
    have e : dayB b.Days[k] = (inB b.Days[k].Crosses 0 9 && inB b.Days[k].Engines 1 3 && inB b.Days[k].Winds 1 7) := rfl
    rw [e]
    cases allTo dayB b.Days ok k <;> cases inB b.Days[k].Crosses 0 9 <;> cases inB b.Days[k].Engines 1 3 <;> cases inB b.Days[k].Winds 1 7 <;> rfl
  unfold coal_Check_l6
  simp only
  rw [decide_eq_false (by omega), cond_false, allTo_end]
  generalize (ok && b.Days.all dayB) = ok
  refine loop_fold0 (fun k => (allTo (dipB b.Days.length) b.Dips ok k, (k : Int))) b.Dips.length (fun rec k hk => ?_) (fun rec => ?_) (by rw [big_eq]; omega) (by rw [allTo_zero]; rfl)
  · unfold coal_Check_l5
    simp only
    rw [decide_eq_true (by omega), cond_true, getI_ix hk, Option.bind_some, wrN hk h2, allTo_succ hk]
    simp only [within_eq, isDay_eq b A, Option.bind_some]
    have e : dipB b.Days.length b.Dips[k] = (inB b.Dips[k].Day 0 ((b.Days.length : Int) - 1) && inB b.Dips[k].Read 0 800 && inB b.Dips[k].Error 0 9) := rfl
    rw [e]
    cases allTo (dipB b.Days.length) b.Dips ok k <;> cases inB b.Dips[k].Day 0 ((b.Days.length : Int) - 1) <;> cases inB b.Dips[k].Read 0 800 <;> cases inB b.Dips[k].Error 0 9 <;> rfl
  unfold coal_Check_l5
  simp only
  rw [decide_eq_false (by omega), cond_false, allTo_end]
  cases (ok && b.Dips.all (dipB b.Days.length)) <;> rfl
theorem check_eq (b : CoalBook) (A : Arg b) : coal_Check b = some (bif valB b then 0 else 60) := by
  have h1 := A.dl; have h2 := A.pl
  unfold coal_Check valB
  simp only [within_eq, isSpan_eq _ _ _ (show (400 : Int) ≤ 9223372036854775807 by omega), isSpan_eq _ _ _ (show (b.Days.length : Int) ≤ 9223372036854775807 by omega), Option.bind_some, check_tail b A]
  cases spB b.Heap 400 4 <;> cases inB b.Days.length 1 6 <;> cases spB b.Collier b.Days.length 3 <;> cases inB b.Brings 0 400 <;> rfl
structure Val (b : CoalBook) : Prop where
  hp : spB b.Heap 400 4 = true
  dn : 1 ≤ b.Days.length ∧ b.Days.length ≤ 6
  co : spB b.Collier b.Days.length 3 = true
  br : 0 ≤ b.Brings ∧ b.Brings ≤ 400
  pn : b.Dips.length ≤ 4
  ea : ∀ s ∈ b.Eats, spB s 9 2 = true
  ex : ∀ x ∈ b.Extra, 0 ≤ x ∧ x ≤ 9
  da : ∀ x ∈ b.Days, dayB x = true
  di : ∀ x ∈ b.Dips, dipB b.Days.length x = true
theorem val_iff {b : CoalBook} : valB b = true ↔ Val b := by
  unfold valB
  simp only [Bool.and_eq_true, List.all_eq_true, inB_iff, decide_eq_true_eq]
  constructor
  · rintro ⟨⟨⟨⟨⟨⟨⟨⟨a, b1, b2⟩, c⟩, d⟩, e⟩, f⟩, g⟩, h⟩, i⟩; exact ⟨a, ⟨by omega, by omega⟩, c, d, by omega, f, g, h, i⟩
  · rintro ⟨a, b, c, d, e, f, g, h, i⟩; exact ⟨⟨⟨⟨⟨⟨⟨⟨a, by omega, by omega⟩, c⟩, d⟩, by omega⟩, f⟩, g⟩, h⟩, i⟩
theorem Val.arg {b : CoalBook} (V : Val b) (el : b.Eats.length = 2) (xl : b.Extra.length = 3) : Arg b := ⟨by have := V.dn; omega, by have := V.pn; omega, el, xl⟩
end Go.Proofs.YticodohfokgjfaaDoor

set_option linter.unusedVariables false
set_option linter.unusedSimpArgs false
namespace Go.Proofs.YticodohfokgjfaaDoor
open Go Go.Fx
/-- what yield comes to, one after the other -/
def foldY {ε σ : Type} (yv : ε → σ → Option (Bool × σ)) : List ε → σ → Option (Bool × σ)
  | [], s => some (true, s)
  | x :: l, s => (yv x s).bind fun r => bif r.1 then foldY yv l r.2 else some (false, r.2)
theorem foldY_app {ε σ : Type} (yv : ε → σ → Option (Bool × σ)) : ∀ (l m : List ε) (s : σ), foldY yv (l ++ m) s = (foldY yv l s).bind fun r => bif r.1 then foldY yv m r.2 else some (false, r.2)
  | [], m, s => rfl
  | x :: l, m, s => by
    show (yv x s).bind (fun r => bif r.1 then foldY yv (l ++ m) r.2 else some (false, r.2)) = Option.bind ((yv x s).bind fun r => bif r.1 then foldY yv l r.2 else some (false, r.2)) _
    cases yv x s with
    | none => rfl
    | some r =>
      obtain ⟨b, s2⟩ := r
      cases b with
      | true => exact foldY_app yv l m s2
      | false => rfl
/-- a range within a range -/
def codeOf {σ : Type} (r : Bool × σ) : Bool × Nat × σ := (r.1, bif r.1 then 0 else 1, r.2)
theorem foldY_nest {ε δ σ : Type} (yv : δ → σ → Option (Bool × σ)) (f : ε → List δ) (bd : ε → σ → Option (Bool × Nat × σ)) (L : List ε) (hb : ∀ x ∈ L, ∀ z, bd x z = (foldY yv (f x) z).map codeOf) : ∀ z, foldY (yvOf bd) L (0, z) = (foldY yv (L.flatMap f) z).map codeOf := by
  induction L with
  | nil => intro z; rfl
  | cons x L ih =>
    intro z
    rw [List.flatMap_cons, foldY_app]
    show (yvOf bd x (0, z)).bind (fun r => bif r.1 then foldY (yvOf bd) L r.2 else some (false, r.2)) = _
    rw [show yvOf bd x (0, z) = bd x z from rfl, hb x (List.mem_cons_self ..) z]
    cases foldY yv (f x) z with
    | none => rfl
    | some r =>
      obtain ⟨b, s2⟩ := r
      cases b with
      | true => exact ih (fun x hx => hb x (List.mem_cons_of_mem _ hx)) s2
      | false => rfl
theorem foldY_one {ε σ : Type} (yv : ε → σ → Option (Bool × σ)) (x : ε) (s : σ) : foldY yv [x] s = yv x s := by
  show (yv x s).bind (fun r => bif r.1 then some (true, r.2) else some (false, r.2)) = _
  cases yv x s with
  | none => rfl
  | some r => obtain ⟨b, s2⟩ := r; cases b <;> rfl
/-- an end at the first that is meant -/
theorem foldY_find {ε σ : Type} (bd : ε → σ → Option (Bool × Nat × σ)) (p : ε → Bool) (s0 s1 : σ) : ∀ (L : List ε), (∀ x ∈ L, bd x s0 = some (bif p x then (false, 1, s1) else (true, 0, s0))) → foldY (yvOf bd) L (0, s0) = some (bif L.any p then (false, 1, s1) else (true, 0, s0))
  | [], _ => rfl
  | x :: L, h => by
    show (bd x s0).bind (fun r => bif r.1 then foldY (yvOf bd) L r.2 else some (false, r.2)) = _
    rw [h x (List.mem_cons_self ..), List.any_cons]
    cases hp : p x with
    | true => rfl
    | false => exact foldY_find bd p s0 s1 L fun x hx => h x (List.mem_cons_of_mem _ hx)
/-- the numbers of a span -/
def rng (s : Span) : List Int := (List.range' 0 (s.High - s.Low + 1).toNat).map fun (k : Nat) => s.Low + k
theorem rng_mem {s : Span} {n : Int} : n ∈ rng s ↔ s.Low ≤ n ∧ n ≤ s.High := by
  unfold rng
  simp only [List.mem_map, List.mem_range'_1]
  constructor
  · rintro ⟨k, hk, rfl⟩; omega
  · rintro ⟨h1, h2⟩; exact ⟨(n - s.Low).toNat, by omega, by omega⟩
structure Sp (s : Span) : Prop where
  l0 : 0 ≤ s.Low
  lh : s.Low ≤ s.High
  hi : s.High ≤ 1000
theorem sp_of {s : Span} {hi wide : Int} (h : spB s hi wide = true) (hh : hi ≤ 1000) : Sp s := by
  unfold spB at h
  simp only [Bool.and_eq_true, decide_eq_true_eq] at h
  exact ⟨h.1.1.1, h.1.1.2, by omega⟩
theorem all_eq {σ : Type} (s : Span) (S : Sp s) (yv : Int → σ → Option (Bool × σ)) (z : σ) : coal_all_1 z s yv = (foldY yv (rng s) z).map (·.2) := by
  have h1 := S.l0; have h2 := S.lh; have h3 := S.hi
  have key : ∀ (d k m : Nat) (z : σ), k + d = (s.High - s.Low + 1).toNat → d < m → loopF (coal_all_1_l1 s yv) m ((k : Int), z) = (foldY yv ((List.range' k d).map fun (k : Nat) => s.Low + k) z).map (·.2) := by
    intro d
    induction d with
    | zero =>
      intro k m z h4 h5
      obtain ⟨m, rfl⟩ : ∃ q, m = q + 1 := ⟨m - 1, by omega⟩
      show coal_all_1_l1 s yv (loopF (coal_all_1_l1 s yv) m) ((k : Int), z) = _
      unfold coal_all_1_l1
      simp only
      rw [wrI (x := s.High - s.Low) (by omega) (by omega), wrI (x := s.High - s.Low + 1) (by omega) (by omega), decide_eq_false (by omega), cond_false]
      rfl
    | succ d ih =>
      intro k m z h4 h5
      obtain ⟨m, rfl⟩ : ∃ q, m = q + 1 := ⟨m - 1, by omega⟩
      suffices H : ∀ rec : (Int × σ) → Option σ, (∀ z2, rec (((k + 1 : Nat) : Int), z2) = (foldY yv ((List.range' (k + 1) d).map fun (k : Nat) => s.Low + k) z2).map (·.2)) → coal_all_1_l1 s yv rec ((k : Int), z) = (foldY yv ((List.range' k (d + 1)).map fun (k : Nat) => s.Low + k) z).map (·.2) from H _ fun z2 => ih (k + 1) m z2 (by omega) (by omega)
      intro rec hrec
      rw [List.range'_succ, List.map_cons]
      show _ = Option.map _ ((yv (s.Low + (k : Int)) z).bind fun r => bif r.1 then foldY yv _ r.2 else some (false, r.2))
      unfold coal_all_1_l1
      simp only
      rw [wrI (x := s.High - s.Low) (by omega) (by omega), wrI (x := s.High - s.Low + 1) (by omega) (by omega), decide_eq_true (by omega), cond_true, wrI (x := s.Low + k) (by omega) (by omega)]
      cases yv (s.Low + (k : Int)) z with
      | none => rfl
      | some r =>
        obtain ⟨b, z2⟩ := r
        cases b with
        | false => rfl
        | true =>
          show rec (Fx.wr ((k : Int) + 1), z2) = Option.map _ (foldY yv _ z2)
          rw [wrI (by omega) (by omega), show (k : Int) + 1 = ((k + 1 : Nat) : Int) by omega]
          exact hrec z2
  exact key (s.High - s.Low + 1).toNat 0 big z (by omega) (by rw [big_eq]; omega)
/-- a range over the numbers of a span whose body is a range -/
theorem all_nest {δ σ : Type} (s : Span) (S : Sp s) (yv : δ → σ → Option (Bool × σ)) (f : Int → List δ) (bd : Int → σ → Option (Bool × Nat × σ)) (hb : ∀ x ∈ rng s, ∀ z, bd x z = (foldY yv (f x) z).map codeOf) (z : σ) :
    coal_all_1 (0, z) s (yvOf bd) = (foldY yv ((rng s).flatMap f) z).map fun r => (bif r.1 then 0 else 1, r.2) := by
  rw [all_eq s S, foldY_nest yv f bd _ hb, Option.map_map]; rfl
/-! the measures of a day -/
def rightB (q : Coal_book) (day n : Int) : Bool := q.CoalBook.Dips.all fun x => !(x.Day == day) || inB (n - x.Read) (-x.Error) x.Error
/-- what a book in the calculation is like -/
structure Op (q : Coal_book) : Prop where
  hp : Sp q.CoalBook.Heap
  co : Sp q.CoalBook.Collier
  el : q.CoalBook.Eats.length = 2
  ea : ∀ s ∈ q.CoalBook.Eats, Sp s ∧ s.High ≤ 9
  dn : q.CoalBook.Days.length ≤ 6
  da : ∀ x ∈ q.CoalBook.Days, 0 ≤ x.Crosses ∧ x.Crosses ≤ 9
  br : 0 ≤ q.CoalBook.Brings ∧ q.CoalBook.Brings ≤ 400
  pn : q.CoalBook.Dips.length ≤ 10
  di : ∀ x ∈ q.CoalBook.Dips, 0 ≤ x.Read ∧ x.Read ≤ 2000 ∧ 0 ≤ x.Error ∧ x.Error ≤ 9
  cs : ∀ p ∈ q.costs_, 0 ≤ p.2 ∧ p.2 ≤ 81
theorem right_eq (q : Coal_book) (Q : Op q) (day n : Int) (h1 : -100000 ≤ n) (h2 : n ≤ 100000) : coal_book_right q day n = some (rightB q day n) := by
  have hn := Q.pn
  have key : ∀ (d k m : Nat), k + d = q.CoalBook.Dips.length → d < m → loopF (coal_book_right_l1 q day n) m (k : Int) = some ((q.CoalBook.Dips.drop k).all fun x => !(x.Day == day) || inB (n - x.Read) (-x.Error) x.Error) := by
    intro d
    induction d with
    | zero =>
      intro k m h4 h5
      obtain ⟨m, rfl⟩ : ∃ q, m = q + 1 := ⟨m - 1, by omega⟩
      show coal_book_right_l1 q day n (loopF (coal_book_right_l1 q day n) m) (k : Int) = _
      unfold coal_book_right_l1
      rw [decide_eq_false (by omega), cond_false, List.drop_eq_nil_of_le (by omega)]
      rfl
    | succ d ih =>
      intro k m h4 h5
      obtain ⟨m, rfl⟩ : ∃ q, m = q + 1 := ⟨m - 1, by omega⟩
      suffices H : ∀ rec : Int → Option Bool, rec ((k + 1 : Nat) : Int) = some ((q.CoalBook.Dips.drop (k + 1)).all fun x => !(x.Day == day) || inB (n - x.Read) (-x.Error) x.Error) → coal_book_right_l1 q day n rec (k : Int) = some ((q.CoalBook.Dips.drop k).all fun x => !(x.Day == day) || inB (n - x.Read) (-x.Error) x.Error) from H _ (ih (k + 1) m (by omega) (by omega))
      intro rec hrec
      have hk : k < q.CoalBook.Dips.length := by omega
      obtain ⟨g1, g2, g3, g4⟩ := Q.di _ (List.getElem_mem hk)
      unfold coal_book_right_l1
      rw [decide_eq_true (by omega), cond_true, getI_ix hk, Option.bind_some, List.drop_eq_getElem_cons hk, List.all_cons, wrI (x := n - _) (by omega) (by omega), wrI (x := -_) (by omega) (by omega), within_eq, Option.bind_some, wrI (x := (k : Int) + 1) (by omega) (by omega), show (k : Int) + 1 = ((k + 1 : Nat) : Int) by omega, hrec]
      cases (q.CoalBook.Dips[k].Day == day) <;> cases inB (n - q.CoalBook.Dips[k].Read) (-q.CoalBook.Dips[k].Error) q.CoalBook.Dips[k].Error <;> rfl
  have := key q.CoalBook.Dips.length 0 big (by omega) (by rw [big_eq]; omega)
  exact this
/-! what engines eat -/
def eng (q : Coal_book) (day : Int) (e : List Int) : Int :=
  match q.CoalBook.Days[day.toNat]? with
  | none => 0
  | some x => (bif (andI (shrI x.Engines 0) 1) == 1 then e.getD 0 0 * x.Crosses else 0) + (bif (andI (shrI x.Engines 1) 1) == 1 then e.getD 1 0 * x.Crosses else 0)
theorem sum_bd : ∀ (l : List Int), (∀ x ∈ l, 0 ≤ x ∧ x ≤ 81) → 0 ≤ l.sum ∧ l.sum ≤ 81 * (l.length : Int)
  | [], _ => by simp
  | a :: l, h => by
    have h1 := h a (List.mem_cons_self ..)
    have h2 := sum_bd l fun x hx => h x (List.mem_cons_of_mem _ hx)
    simp only [List.sum_cons, List.length_cons]
    omega
theorem sum_eq (l : List Int) (hl : l.length ≤ 2) (hb : ∀ x ∈ l, 0 ≤ x ∧ x ≤ 81) : coal_sum_int l = some l.sum := by
  unfold coal_sum_int
  refine loop_fold0 (fun k => ((l.take k).sum, (k : Int))) l.length (fun rec k hk => ?_) (fun rec => ?_) (by rw [big_eq]; omega) rfl
  · unfold coal_sum_int_l1
    simp only
    have h1 := sum_bd (l.take k) fun x hx => hb x (List.mem_of_mem_take hx)
    have h2 := hb _ (List.getElem_mem hk)
    have h3 : (l.take k).length ≤ 2 := by rw [List.length_take]; omega
    rw [decide_eq_true (by omega), cond_true, getI_ix hk, Option.bind_some, wrI (by omega) (by omega), wrI (by omega) (by omega), ← List.take_append_getElem hk, List.sum_append]
    simp
  · unfold coal_sum_int_l1
    simp only
    rw [decide_eq_false (by omega), cond_false, List.take_length]
theorem engines_eq (q : Coal_book) (Q : Op q) (d : Nat) (hd : d < q.CoalBook.Days.length) (e : List Int) (he : e.length = 2) (hb : ∀ x ∈ e, 0 ≤ x ∧ x ≤ 9) : coal_book_engines q d e = some (eng q d e) ∧ 0 ≤ eng q d e ∧ eng q d e ≤ 162 := by
  have hx := Q.da _ (List.getElem_mem hd)
  match e, he with
  | [a, b], _ =>
    have ha := hb a (by simp); have hb' := hb b (by simp)
    have eE : eng q d [a, b] = (bif (andI (shrI q.CoalBook.Days[d].Engines 0) 1) == 1 then a * q.CoalBook.Days[d].Crosses else 0) + (bif (andI (shrI q.CoalBook.Days[d].Engines 1) 1) == 1 then b * q.CoalBook.Days[d].Crosses else 0) := by
      unfold eng
      rw [show ((d : Int)).toNat = d from rfl, List.getElem?_eq_getElem hd]; rfl
    generalize hX : q.CoalBook.Days[d] = X at *
    have m1 : 0 ≤ a * X.Crosses := Int.mul_nonneg ha.1 hx.1
    have m2 : 0 ≤ b * X.Crosses := Int.mul_nonneg hb'.1 hx.1
    have m3 : a * X.Crosses ≤ 9 * 9 := Int.mul_le_mul ha.2 hx.2 hx.1 (by omega)
    have m4 : b * X.Crosses ≤ 9 * 9 := Int.mul_le_mul hb'.2 hx.2 hx.1 (by omega)
    have hg : getI q.CoalBook.Days (d : Int) = some X := by rw [getI_ix hd, hX]
    refine ⟨?_, ?_⟩
    · rw [eE]
      unfold coal_book_engines coal_nothing
      rw [Option.bind_some]
      by_cases hz : sgl [a, b] 2 = sgl (List.replicate 2 0) 2
      · rw [decide_eq_true hz, cond_true]
        have : a = 0 ∧ b = 0 := by simpa [sgl, List.range_succ] using hz
        obtain ⟨rfl, rfl⟩ := this
        simp
      · rw [decide_eq_false hz, cond_false]
        generalize hp0 : (andI (shrI X.Engines 0) 1 == 1) = c0
        generalize hp1 : (andI (shrI X.Engines 1) 1 == 1) = c1
        have w1 : wr (a * X.Crosses) = a * X.Crosses := wrI (by omega) (by omega)
        have w2 : wr (b * X.Crosses) = b * X.Crosses := wrI (by omega) (by omega)
        refine loop_fold0 (fun k => ((bif decide (1 ≤ k) && c0 then [a * X.Crosses] else []) ++ (bif decide (2 ≤ k) && c1 then [b * X.Crosses] else []), (k : Int))) 2 (fun rec k hk => ?_) (fun rec => ?_) (by rw [big_eq]; omega) rfl
        · unfold coal_book_engines_l1
          match k, hk with
          | 0, _ =>
            simp only [show decide (((0 : Nat) : Int) < 2) = true by decide, cond_true, hg, Option.bind_some, show inI ((0 : Nat) : Int) 2 = true by decide, need_true, show decide ((0 : Int) ≤ ((0 : Nat) : Int)) = true by decide, show aget [a, b] ((0 : Nat) : Int) = a from rfl, w1]
            rw [show ((0 : Nat) : Int) = 0 from rfl, hp0]
            cases c0 with
            | true => rw [cond_true, need_of (by simp [fitsL])]; rfl
            | false => rfl
          | 1, _ =>
            simp only [show decide (((1 : Nat) : Int) < 2) = true by decide, cond_true, hg, Option.bind_some, show inI ((1 : Nat) : Int) 2 = true by decide, need_true, show decide ((0 : Int) ≤ ((1 : Nat) : Int)) = true by decide, show aget [a, b] ((1 : Nat) : Int) = b from rfl, w2]
            rw [show ((1 : Nat) : Int) = 1 from rfl, hp1]
            cases c1 with
            | true => cases c0 <;> (rw [cond_true, need_of (by simp [fitsL])]; rfl)
            | false => cases c0 <;> rfl
        · unfold coal_book_engines_l1
          simp only [show decide (((2 : Nat) : Int) < 2) = false by decide, cond_false, show decide (1 ≤ 2) = true by decide, show decide (2 ≤ 2) = true by decide, Bool.true_and]
          rw [sum_eq _ (by cases c0 <;> cases c1 <;> simp) (fun x hx => by cases c0 <;> cases c1 <;> simp at hx <;> omega)]
          cases c0 <;> cases c1 <;> simp
    · rw [eE]
      cases (andI (shrI X.Engines 0) 1 == 1) <;> cases (andI (shrI X.Engines 1) 1 == 1) <;> simp only [cond_true, cond_false] <;> omega
end Go.Proofs.YticodohfokgjfaaDoor

set_option linter.unusedVariables false
set_option linter.unusedSimpArgs false
namespace Go.Proofs.YticodohfokgjfaaDoor
open Go Go.Fx
/-- all truths that begin with some days of one -/
def blown (q : Coal_book) : Nat → Coal_truth → Int → Int → List Coal_truth
  | 0, t, _, _ => [t]
  | r + 1, t, d, c => (List.range' 0 3).flatMap fun (w : Nat) => optL (lookL q.costs_ (Coal_gust.mk d (w : Int))) fun cost =>
      bif rightB q d ((bif t.collier_ == d then c + q.CoalBook.Brings else c) - eng q d t.eats_ - cost) then
        blown q r (Coal_truth.mk t.eats_ t.collier_ (aset t.winds_ 6 d (w : Int)) (aset t.coal_ 6 d ((bif t.collier_ == d then c + q.CoalBook.Brings else c) - eng q d t.eats_ - cost))) (d + 1) ((bif t.collier_ == d then c + q.CoalBook.Brings else c) - eng q d t.eats_ - cost)
      else []
where optL {α β : Type} (o : Option α) (f : α → List β) : List β := match o with | none => [] | some a => f a
theorem aset_aset {l : List Int} {n : Nat} {i x y : Int} : aset (aset l n i x) n i y = aset l n i y := by
  unfold aset
  refine List.map_congr_left fun k hk => ?_
  have hk := List.mem_range.1 hk
  by_cases h : k = i.toNat
  · simp [h]
  · simp [h, List.getD_eq_getElem?_getD, hk]
theorem look_mem {q : Coal_book} {g : Coal_gust} {c : Int} (h : lookL q.costs_ g = some c) : ∃ p ∈ q.costs_, p.2 = c := by
  unfold lookL at h
  obtain ⟨p, hp, rfl⟩ := Option.map_eq_some_iff.1 h
  exact ⟨p, List.mem_of_find?_eq_some hp, rfl⟩
theorem blown_eq (q : Coal_book) (Q : Op q) {σ : Type} (yv : Coal_truth → σ → Option (Bool × σ)) : ∀ (r : Nat) (t : Coal_truth) (d : Nat) (c : Int) (s : σ) (n : Nat), d + r = q.CoalBook.Days.length → r < n → -(1000 * ((d : Int) + 1)) ≤ c → c ≤ 1000 * ((d : Int) + 1) → t.eats_.length = 2 → (∀ x ∈ t.eats_, 0 ≤ x ∧ x ≤ 9) →
    coal_book_blown_1_1 n t d c s q q yv = foldY yv (blown q r t d c) s := by
  have hdn := Q.dn; have hbr := Q.br
  intro r
  induction r with
  | zero =>
    intro t d c s n h1 h2 h3 h4 h5 h6
    obtain ⟨n, rfl⟩ : ∃ m, n = m + 1 := ⟨n - 1, by omega⟩
    show coal_book_blown_1_1_F _ t d c s q q yv = foldY yv [t] s
    rw [foldY_one]
    unfold coal_book_blown_1_1_F
    rw [show ((d : Int) == (q.CoalBook.Days.length : Int)) = true by rw [beq_iff_eq]; omega, cond_true]
    cases yv t s <;> rfl
  | succ r ih =>
    intro t d c s n h1 h2 h3 h4 h5 h6
    obtain ⟨n, rfl⟩ : ∃ m, n = m + 1 := ⟨n - 1, by omega⟩
    show coal_book_blown_1_1_F _ t d c s q q yv = _
    obtain ⟨e1, e2, e3⟩ := engines_eq q Q d (by omega) t.eats_ h5 h6
    have j6 : ∀ z : Int, -(1000 * ((d : Int) + 1)) ≤ z → z ≤ 1000 * ((d : Int) + 1) + 400 → z = (bif t.collier_ == (d : Int) then c + q.CoalBook.Brings else c) → coal_book_blown_1_1_j6 q d t q (fun x0 x1 x2 x3 => coal_book_blown_1_1 n x0 x1 x2 x3 q q yv) s z = foldY yv (blown q (r + 1) t d c) s := by
      intro z z1 z2 hz
      unfold coal_book_blown_1_1_j6
      rw [e1, Option.bind_some, blown, ← hz]
      have key : ∀ (e k m : Nat) (W C : List Int) (s : σ), k + e = 3 → e < m → (∀ x, aset W 6 d x = aset t.winds_ 6 d x) → (∀ x, aset C 6 d x = aset t.coal_ 6 d x) →
          loopF (coal_book_blown_1_1_l5 q d q z (eng q d t.eats_) (fun x0 x1 x2 x3 => coal_book_blown_1_1 n x0 x1 x2 x3 q q yv) t) m ((k : Int), W, C, s) = foldY yv ((List.range' k e).flatMap fun (w : Nat) => blown.optL (lookL q.costs_ (Coal_gust.mk d (w : Int))) fun cost =>
            bif rightB q d (z - eng q d t.eats_ - cost) then blown q r (Coal_truth.mk t.eats_ t.collier_ (aset t.winds_ 6 d (w : Int)) (aset t.coal_ 6 d (z - eng q d t.eats_ - cost))) (d + 1) (z - eng q d t.eats_ - cost) else []) s := by
        intro e
        induction e with
        | zero =>
          intro k m W C s h7 h8 hW hC
          obtain ⟨m, rfl⟩ : ∃ q, m = q + 1 := ⟨m - 1, by omega⟩
          show coal_book_blown_1_1_l5 q d q z _ _ t _ ((k : Int), W, C, s) = _
          unfold coal_book_blown_1_1_l5
          simp only
          rw [decide_eq_false (by omega), cond_false]
          rfl
        | succ e ih2 =>
          intro k m W C s h7 h8 hW hC
          obtain ⟨m, rfl⟩ : ∃ q, m = q + 1 := ⟨m - 1, by omega⟩
          show coal_book_blown_1_1_l5 q d q z _ _ t (loopF _ m) ((k : Int), W, C, s) = _
          have ih3 := fun W C s => ih2 (k + 1) m W C s (by omega) (by omega)
          generalize loopF (coal_book_blown_1_1_l5 q d q z (eng q d t.eats_) (fun x0 x1 x2 x3 => coal_book_blown_1_1 n x0 x1 x2 x3 q q yv) t) m = rec at ih3
          rw [List.range'_succ, List.flatMap_cons, foldY_app]
          have w0 : wr ((k : Int) + 1) = ((k + 1 : Nat) : Int) := by rw [wrI (by omega) (by omega)]; omega
          unfold coal_book_blown_1_1_l5
          simp only
          rw [decide_eq_true (by omega), cond_true]
          cases hl : lookL q.costs_ (Coal_gust.mk d (k : Int)) with
          | none =>
            simp only [optC, blown.optL]
            unfold coal_book_blown_1_1_j4
            simp only [Bool.not_false, cond_true]
            rw [w0, ih3 W C s hW hC]
            rfl
          | some cost =>
            obtain ⟨p, hp, rfl⟩ := look_mem hl
            obtain ⟨p1, p2⟩ := Q.cs p hp
            simp only [optC, blown.optL]
            unfold coal_book_blown_1_1_j4
            simp only [Bool.not_true, cond_false]
            rw [wrI (x := z - eng q d t.eats_) (by omega) (by omega), wrI (x := z - eng q d t.eats_ - p.2) (by omega) (by omega), right_eq q Q d _ (by omega) (by omega), Option.bind_some]
            cases hr : rightB q d (z - eng q d t.eats_ - p.2) with
            | false =>
              simp only [Bool.not_false, cond_true, cond_false]
              rw [w0, ih3 W C s hW hC]
              rfl
            | true =>
              simp only [Bool.not_true, cond_true, cond_false]
              rw [need_of (by simp [inI]; omega), need_of (by simp [inI]; omega), hW, hC, show wr ((d : Int) + 1) = ((d + 1 : Nat) : Int) by rw [wrI (by omega) (by omega)]; omega]
              rw [ih (Coal_truth.mk t.eats_ t.collier_ (aset t.winds_ 6 d (k : Int)) (aset t.coal_ 6 d (z - eng q d t.eats_ - p.2))) (d + 1) (z - eng q d t.eats_ - p.2) s n (by omega) (by omega) (by omega) (by omega) h5 h6, show ((d + 1 : Nat) : Int) = (d : Int) + 1 by omega]
              cases foldY yv (blown q r _ ((d : Int) + 1) _) s with
              | none => rfl
              | some x =>
                obtain ⟨b, s2⟩ := x
                cases b with
                | false => rfl
                | true =>
                  show rec (wr ((k : Int) + 1), _, _, s2) = foldY yv _ s2
                  exact (congrArg (fun x => rec (x, _, _, s2)) w0).trans (ih3 _ _ s2 (fun x => aset_aset) (fun x => aset_aset))
      exact key 3 0 big _ _ s (by omega) (by rw [big_eq]; omega) (fun _ => rfl) (fun _ => rfl)
    unfold coal_book_blown_1_1_F
    rw [show ((d : Int) == (q.CoalBook.Days.length : Int)) = false by rw [beq_eq_false_iff_ne]; omega, cond_false]
    cases hc : (t.collier_ == (d : Int)) with
    | true =>
      rw [cond_true, wrI (by omega) (by omega)]
      exact j6 _ (by omega) (by omega) (by rw [hc]; rfl)
    | false =>
      rw [cond_false]
      exact j6 _ (by omega) (by omega) (by rw [hc]; rfl)
def init (o p c : Int) : Coal_truth := Coal_truth.mk [o, p] c (List.replicate 6 0) (List.replicate 6 0)
/-- all truths -/
def truths (q : Coal_book) : List Coal_truth :=
  (rng q.CoalBook.Heap).flatMap fun h => (rng (agetS q.CoalBook.Eats (0 : Int))).flatMap fun o => (rng (agetS q.CoalBook.Eats (1 : Int))).flatMap fun p => (rng q.CoalBook.Collier).flatMap fun c => blown q q.CoalBook.Days.length (init o p c) 0 h
theorem truth_mem {q : Coal_book} {t : Coal_truth} : t ∈ truths q ↔ ∃ h ∈ rng q.CoalBook.Heap, ∃ o ∈ rng (agetS q.CoalBook.Eats (0 : Int)), ∃ p ∈ rng (agetS q.CoalBook.Eats (1 : Int)), ∃ c ∈ rng q.CoalBook.Collier, t ∈ blown q q.CoalBook.Days.length (init o p c) 0 h := by
  simp only [truths, List.mem_flatMap]
theorem tail_eq {σ : Type} (x : Option (Bool × σ)) : (x.map fun r => ((bif r.1 then 0 else 1 : Nat), r.2)).bind (fun r => bif (r.1 == 0) then some (true, 0, r.2) else some (false, 1, r.2)) = x.map codeOf := by
  cases x with
  | none => rfl
  | some r => obtain ⟨b, s⟩ := r; cases b <;> rfl
theorem agetS_mem {l : List Span} {i : Int} (h : i.toNat < l.length) : agetS l i ∈ l := by
  unfold agetS
  rw [List.getD_eq_getElem?_getD, List.getElem?_eq_getElem h]
  exact List.getElem_mem _
theorem truths_eq (q : Coal_book) (Q : Op q) {σ : Type} (yv : Coal_truth → σ → Option (Bool × σ)) (z : σ) : coal_book_truths_1 z q yv = (foldY yv (truths q) z).map (·.2) := by
  have he0 := Q.ea _ (agetS_mem (i := 0) (by rw [Q.el]; decide))
  have he1 := Q.ea _ (agetS_mem (i := 1) (by rw [Q.el]; decide))
  have q1 : ∀ (o p : Int), 0 ≤ o → o ≤ 9 → 0 ≤ p → p ≤ 9 → ∀ h ∈ rng q.CoalBook.Heap, ∀ c z, coal_book_truths_1_r118 q o p h yv c z = (foldY yv (blown q q.CoalBook.Days.length (init o p c) 0 h) z).map codeOf := by
    intro o p o1 o2 p1 p2 h hh c z
    have hh := rng_mem.1 hh
    have := Q.hp.l0; have := Q.hp.hi
    unfold coal_book_truths_1_r118 coal_book_blown coal_book_blown_1
    rw [Option.bind_some]
    rw [show Coal_truth.mk [o, p] c (List.replicate 6 0) (List.replicate 6 0) = init o p c from rfl]
    have := blown_eq q Q (yvOf (coal_book_truths_1_r117 yv)) q.CoalBook.Days.length (init o p c) 0 h (0, z) big (by omega) (by have := Q.dn; rw [big_eq]; omega) (by omega) (by omega) rfl (fun x hx => by
      simp [init] at hx
      rcases hx with rfl | rfl <;> omega)
    rw [show coal_book_blown_1_1 big (init o p c) 0 h (0, z) q q (yvOf (coal_book_truths_1_r117 yv)) = _ from this]
    rw [foldY_nest yv (fun x => [x]) (coal_book_truths_1_r117 yv) _ (fun x _ z => by
      rw [foldY_one]
      unfold coal_book_truths_1_r117
      cases yv x z with
      | none => rfl
      | some r => obtain ⟨b, s⟩ := r; cases b <;> rfl), show ∀ l : List Coal_truth, (l.flatMap fun x => [x]) = l from fun l => by induction l <;> simp_all]
    show _ = Option.map codeOf (foldY yv (blown q q.CoalBook.Days.length (init o p c) ((0 : Nat) : Int) h) z)
    cases foldY yv (blown q q.CoalBook.Days.length (init o p c) ((0 : Nat) : Int) h) z with
    | none => rfl
    | some r => obtain ⟨b, s⟩ := r; cases b <;> rfl
  have q2 : ∀ (o p : Int), 0 ≤ o → o ≤ 9 → 0 ≤ p → p ≤ 9 → ∀ h ∈ rng q.CoalBook.Heap, ∀ z, coal_book_truths_1_r119 q o h yv p z = (foldY yv ((rng q.CoalBook.Collier).flatMap fun c => blown q q.CoalBook.Days.length (init o p c) 0 h) z).map codeOf := by
    intro o p o1 o2 p1 p2 h hh z
    unfold coal_book_truths_1_r119 coal_all
    rw [Option.bind_some, all_nest _ Q.co yv _ _ (fun x hx z => q1 o p o1 o2 p1 p2 h hh x z), tail_eq]
  have q3 : ∀ (o : Int), 0 ≤ o → o ≤ 9 → ∀ h ∈ rng q.CoalBook.Heap, ∀ z, coal_book_truths_1_r120 q h yv o z = (foldY yv ((rng (agetS q.CoalBook.Eats (1 : Int))).flatMap fun p => (rng q.CoalBook.Collier).flatMap fun c => blown q q.CoalBook.Days.length (init o p c) 0 h) z).map codeOf := by
    intro o o1 o2 h hh z
    unfold coal_book_truths_1_r120 coal_all
    rw [Option.bind_some, all_nest _ he1.1 yv _ _ (fun x hx z => q2 o x o1 o2 (by have := rng_mem.1 hx; have := he1.1.l0; omega) (by have := rng_mem.1 hx; have := he1.2; omega) h hh z), tail_eq]
  have q4 : ∀ h ∈ rng q.CoalBook.Heap, ∀ z, coal_book_truths_1_r121 q yv h z = (foldY yv ((rng (agetS q.CoalBook.Eats (0 : Int))).flatMap fun o => (rng (agetS q.CoalBook.Eats (1 : Int))).flatMap fun p => (rng q.CoalBook.Collier).flatMap fun c => blown q q.CoalBook.Days.length (init o p c) 0 h) z).map codeOf := by
    intro h hh z
    unfold coal_book_truths_1_r121 coal_all
    rw [Option.bind_some, all_nest _ he0.1 yv _ _ (fun x hx z => q3 x (by have := rng_mem.1 hx; have := he0.1.l0; omega) (by have := rng_mem.1 hx; have := he0.2; omega) h hh z), tail_eq]
  unfold coal_book_truths_1 coal_all
  rw [Option.bind_some, all_nest _ Q.hp yv _ _ q4]
  show _ = Option.map _ (foldY yv (truths q) z)
  unfold truths
  cases foldY yv _ z with
  | none => rfl
  | some r => obtain ⟨b, s⟩ := r; cases b <;> rfl
end Go.Proofs.YticodohfokgjfaaDoor

set_option linter.unusedVariables false
set_option linter.unusedSimpArgs false
namespace Go.Proofs.YticodohfokgjfaaDoor
open Go Go.Fx
def keepD (l : List CoalDip) (but : List Int) : Nat → List CoalDip
  | 0 => []
  | k + 1 => bif but.contains (k : Int) then keepD l but k else keepD l but k ++ (l[k]?).toList
def costW (x : CoalDay) (ex : List Int) (d : Int) (m : List (Coal_gust × Int)) : Nat → List (Coal_gust × Int)
  | 0 => m
  | k + 1 => bif (andI (shrI x.Winds (k : Int)) 1) == 1 then putL (costW x ex d m k) (Coal_gust.mk d (k : Int)) (wr (x.Crosses * aget ex (k : Int))) else costW x ex d m k
def costD (ds : List CoalDay) (ex : List Int) : Nat → List (Coal_gust × Int)
  | 0 => []
  | k + 1 => match ds[k]? with | some x => costW x ex (k : Int) (costD ds ex k) 3 | none => costD ds ex k
def opn (b : CoalBook) (but : List Int) : Coal_book := Coal_book.mk (CoalBook.mk b.Heap b.Eats b.Extra b.Days b.Collier b.Brings (keepD b.Dips but b.Dips.length)) (costD b.Days b.Extra b.Days.length)
theorem keepD_len (l : List CoalDip) (but : List Int) : ∀ k, (keepD l but k).length ≤ k
  | 0 => Nat.le_refl 0
  | k + 1 => by
    have := keepD_len l but k
    unfold keepD
    cases but.contains (k : Int) with
    | true => rw [cond_true]; omega
    | false =>
      rw [cond_false, List.length_append]
      have : (l[k]?).toList.length ≤ 1 := by cases l[k]? <;> simp
      omega
theorem keepD_mem {l : List CoalDip} {but : List Int} {x : CoalDip} : ∀ {k}, x ∈ keepD l but k → x ∈ l
  | 0, h => by cases h
  | k + 1, h => by
    unfold keepD at h
    cases hc : but.contains (k : Int) with
    | true => rw [hc, cond_true] at h; exact keepD_mem h
    | false =>
      rw [hc, cond_false] at h
      rcases List.mem_append.1 h with h | h
      · exact keepD_mem h
      · cases hk : l[k]? with
        | none => rw [hk] at h; cases h
        | some y =>
          rw [hk] at h
          obtain rfl := List.mem_singleton.1 h
          exact List.mem_of_getElem? hk
theorem putL_mem {m : List (Coal_gust × Int)} {g : Coal_gust} {v : Int} {x : Coal_gust × Int} (h : x ∈ putL m g v) : x = (g, v) ∨ x ∈ m := by
  unfold putL at h
  split at h
  · rcases List.mem_or_eq_of_mem_set h with h | h
    · exact .inr h
    · exact .inl h
  · rcases List.mem_append.1 h with h | h
    · exact .inr h
    · exact .inl (List.mem_singleton.1 h)
theorem costW_bd {x : CoalDay} {ex : List Int} {d : Int} {m : List (Coal_gust × Int)} (hx : 0 ≤ x.Crosses ∧ x.Crosses ≤ 9) (he : ∀ y ∈ ex, 0 ≤ y ∧ y ≤ 9) (hm : ∀ p ∈ m, 0 ≤ p.2 ∧ p.2 ≤ 81) : ∀ k, ∀ p ∈ costW x ex d m k, 0 ≤ p.2 ∧ p.2 ≤ 81
  | 0 => hm
  | k + 1 => by
    intro p hp
    unfold costW at hp
    cases hc : (andI (shrI x.Winds (k : Int)) 1) == 1 with
    | false => rw [hc, cond_false] at hp; exact costW_bd hx he hm k p hp
    | true =>
      rw [hc, cond_true] at hp
      rcases putL_mem hp with rfl | hp
      · have h1 : 0 ≤ aget ex (k : Int) ∧ aget ex (k : Int) ≤ 9 := by
          unfold aget
          rw [List.getD_eq_getElem?_getD]
          cases hk : ex[((k : Int)).toNat]? with
          | none => simp
          | some y => exact he y (List.mem_of_getElem? hk)
        have m1 : 0 ≤ x.Crosses * aget ex (k : Int) := Int.mul_nonneg hx.1 h1.1
        have m3 : x.Crosses * aget ex (k : Int) ≤ 9 * 9 := Int.mul_le_mul hx.2 h1.2 h1.1 (by omega)
        simp only
        rw [wrI (by omega) (by omega)]
        omega
      · exact costW_bd hx he hm k p hp
theorem costD_bd {ds : List CoalDay} {ex : List Int} (hd : ∀ x ∈ ds, 0 ≤ x.Crosses ∧ x.Crosses ≤ 9) (he : ∀ y ∈ ex, 0 ≤ y ∧ y ≤ 9) : ∀ k, ∀ p ∈ costD ds ex k, 0 ≤ p.2 ∧ p.2 ≤ 81
  | 0 => fun p h => by cases h
  | k + 1 => by
    unfold costD
    cases hk : ds[k]? with
    | none => exact costD_bd hd he k
    | some x => exact costW_bd (hd x (List.mem_of_getElem? hk)) he (costD_bd hd he k) 3
theorem dayB_iff {x : CoalDay} (h : dayB x = true) : (0 ≤ x.Crosses ∧ x.Crosses ≤ 9) ∧ (1 ≤ x.Engines ∧ x.Engines ≤ 3) ∧ 1 ≤ x.Winds ∧ x.Winds ≤ 7 := by
  unfold dayB at h
  simp only [Bool.and_eq_true, inB_iff] at h
  exact ⟨h.1.1, h.1.2, h.2⟩
theorem dipB_iff {n : Nat} {x : CoalDip} (h : dipB n x = true) : (0 ≤ x.Day ∧ x.Day ≤ (n : Int) - 1) ∧ (0 ≤ x.Read ∧ x.Read ≤ 800) ∧ 0 ≤ x.Error ∧ x.Error ≤ 9 := by
  unfold dipB at h
  simp only [Bool.and_eq_true, inB_iff] at h
  exact ⟨h.1.1, h.1.2, h.2⟩
theorem opn_op {b : CoalBook} (V : Val b) (A : Arg b) (but : List Int) : Op (opn b but) where
  hp := sp_of V.hp (by omega)
  co := sp_of V.co (by have := V.dn; omega)
  el := A.el
  ea s hs := by
    have := V.ea s hs
    refine ⟨sp_of this (by omega), ?_⟩
    unfold spB at this
    simp only [Bool.and_eq_true, decide_eq_true_eq] at this
    exact this.1.2
  dn := V.dn.2
  da x hx := (dayB_iff (V.da x hx)).1
  br := V.br
  pn := by
    have h1 := keepD_len b.Dips but b.Dips.length
    have := V.pn
    show (keepD b.Dips but b.Dips.length).length ≤ 10
    omega
  di x hx := by
    obtain ⟨_, h1, h2⟩ := dipB_iff (V.di x (keepD_mem hx))
    omega
  cs := costD_bd (fun x hx => (dayB_iff (V.da x hx)).1) V.ex _
theorem index_eq (l : List Int) (a : Int) (hl : l.length ≤ 1000) : sl_Contains_int_int l a = some (l.contains a) := by
  have key : ∀ (d k m : Nat), k + d = l.length → d < m → ∃ j, loopF (sl_Index_int_int_l1 l a) m (k : Int) = some j ∧ decide (j ≥ 0) = (l.drop k).contains a := by
    intro d
    induction d with
    | zero =>
      intro k m h1 h2
      obtain ⟨m, rfl⟩ : ∃ q, m = q + 1 := ⟨m - 1, by omega⟩
      refine ⟨-1, ?_, by rw [List.drop_eq_nil_of_le (by omega)]; rfl⟩
      show sl_Index_int_int_l1 l a _ _ = _
      unfold sl_Index_int_int_l1
      rw [decide_eq_false (by omega), cond_false]
    | succ d ih =>
      intro k m h1 h2
      obtain ⟨m, rfl⟩ : ∃ q, m = q + 1 := ⟨m - 1, by omega⟩
      have hk : k < l.length := by omega
      obtain ⟨j, hj, hj2⟩ := ih (k + 1) m (by omega) (by omega)
      show ∃ j, sl_Index_int_int_l1 l a (loopF (sl_Index_int_int_l1 l a) m) _ = some j ∧ _
      generalize loopF (sl_Index_int_int_l1 l a) m = rec at hj
      unfold sl_Index_int_int_l1
      rw [decide_eq_true (by omega), cond_true, getI_ix hk, Option.bind_some, List.drop_eq_getElem_cons hk, List.contains_cons]
      cases hc : (a == l[k]) with
      | true => exact ⟨k, by rw [cond_true], by simp⟩
      | false =>
        refine ⟨j, ?_, by rw [hj2, Bool.false_or]⟩
        rw [cond_false, wrI (by omega) (by omega), show (k : Int) + 1 = ((k + 1 : Nat) : Int) by omega, hj]
  obtain ⟨j, hj, hj2⟩ := key l.length 0 big (by omega) (by rw [big_eq]; omega)
  unfold sl_Contains_int_int sl_Index_int_int
  rw [show loopF (sl_Index_int_int_l1 l a) big 0 = some j from hj, Option.bind_some, hj2]; rfl
theorem opened_eq {b : CoalBook} (V : Val b) (A : Arg b) (but : List Int) (hb : but.length ≤ 1000) : coal_opened b but = some (opn b but) := by
  have hp := V.pn; have hd := V.dn
  unfold coal_opened
  refine loop_fold0 (fun k => ((k : Int), keepD b.Dips but k)) b.Dips.length (fun rec k hk => ?_) (fun rec => ?_) (by rw [big_eq]; omega) rfl
  · unfold coal_opened_l29
    simp only
    rw [decide_eq_true (by omega), cond_true, getI_ix hk, Option.bind_some, index_eq _ _ hb, Option.bind_some, wrN hk (by omega), keepD, List.getElem?_eq_getElem hk]
    cases but.contains (k : Int) with
    | true => rfl
    | false =>
      simp only [Bool.not_false, cond_true, cond_false]
      rw [need_of (by have := keepD_len b.Dips but k; unfold fitsL; simp; omega)]
      rfl
  unfold coal_opened_l29
  simp only
  rw [decide_eq_false (by omega), cond_false]
  refine loop_fold0 (fun k => ((k : Int), costD b.Days b.Extra k)) b.Days.length (fun rec k hk => ?_) (fun rec => ?_) (by rw [big_eq]; omega) rfl
  · unfold coal_opened_l28
    simp only
    rw [decide_eq_true (by omega), cond_true, getI_ix hk, Option.bind_some, costD, List.getElem?_eq_getElem hk]
    refine loop_fold0 (fun j => ((j : Int), costW b.Days[k] b.Extra (k : Int) (costD b.Days b.Extra k) j)) 3 (fun rec' j hj => ?_) (fun rec' => ?_) (by rw [big_eq]; omega) rfl
    · unfold coal_opened_l27 coal_opened_j26
      simp only
      rw [decide_eq_true (by omega), cond_true, need_of (by simp [inI]; omega), show ((k : Int) == (-1)) = false by rw [beq_eq_false_iff_ne]; omega]
      simp only [Bool.false_and, Bool.not_false, cond_true]
      rw [need_of (by simp), wrN hj (by omega), costW]
      cases (andI (shrI b.Days[k].Winds (j : Int)) 1 == 1) <;> rfl
    · unfold coal_opened_l27
      simp only
      rw [decide_eq_false (by omega), cond_false, wrN hk (by omega)]
  · unfold coal_opened_l28
    simp only
    rw [decide_eq_false (by omega), cond_false]
    rfl
/-! questions to all truths -/
theorem isTrue_eq (q : Coal_book) (Q : Op q) : coal_book_isTrue q = some (!(truths q).isEmpty) := by
  unfold coal_book_isTrue coal_book_truths
  rw [Option.bind_some, truths_eq q Q, foldY_find coal_book_isTrue_r1 (fun _ => true) false true _ (fun x _ => rfl)]
  cases truths q <;> rfl
structure SpanOf (f : Coal_truth → Int) (L : List Coal_truth) (s : Span) : Prop where
  nil : L = [] → s = ⟨0, 0⟩
  low : L ≠ [] → ∃ t ∈ L, f t = s.Low
  high : L ≠ [] → ∃ t ∈ L, f t = s.High
  le : ∀ t ∈ L, s.Low ≤ f t
  ge : ∀ t ∈ L, f t ≤ s.High
def coalAt (d : Nat) (t : Coal_truth) : Int := t.coal_.getD d 0
end Go.Proofs.YticodohfokgjfaaDoor

set_option linter.unusedVariables false
set_option linter.unusedSimpArgs false
namespace Go.Proofs.YticodohfokgjfaaDoor
open Go Go.Fx
theorem stoked_eq : law_stoked = some true := by kernel_rfl
/-- a truth as it is built -/
structure Tru (q : Coal_book) (t : Coal_truth) : Prop where
  el : t.eats_.length = 2
  wl : t.winds_.length = 6
  cl : t.coal_.length = 6
  wi : ∀ k, k < q.CoalBook.Days.length → 0 ≤ t.winds_.getD k 0 ∧ t.winds_.getD k 0 ≤ 2
  co : ∀ k, k < q.CoalBook.Days.length → -100000 ≤ coalAt k t ∧ coalAt k t ≤ 100000
theorem getD_aset {l : List Int} {n k : Nat} {i x : Int} (hk : k < n) : (aset l n i x).getD k 0 = if k = i.toNat then x else l.getD k 0 := by
  simp [aset, List.getD_eq_getElem?_getD, hk]
theorem blown_step {q : Coal_book} {r : Nat} {t u : Coal_truth} {d c : Int} (h : u ∈ blown q (r + 1) t d c) : ∃ (w : Nat) (cost : Int), w < 3 ∧ lookL q.costs_ (Coal_gust.mk d (w : Int)) = some cost ∧ rightB q d ((bif t.collier_ == d then c + q.CoalBook.Brings else c) - eng q d t.eats_ - cost) = true ∧
    u ∈ blown q r (Coal_truth.mk t.eats_ t.collier_ (aset t.winds_ 6 d (w : Int)) (aset t.coal_ 6 d ((bif t.collier_ == d then c + q.CoalBook.Brings else c) - eng q d t.eats_ - cost))) (d + 1) ((bif t.collier_ == d then c + q.CoalBook.Brings else c) - eng q d t.eats_ - cost) := by
  rw [blown] at h
  obtain ⟨w, hw, h⟩ := List.mem_flatMap.1 h
  cases hl : lookL q.costs_ (Coal_gust.mk d (w : Int)) with
  | none => rw [hl] at h; cases h
  | some cost =>
    rw [hl] at h
    have h : u ∈ (bif rightB q d ((bif t.collier_ == d then c + q.CoalBook.Brings else c) - eng q d t.eats_ - cost) then _ else []) := h
    refine ⟨w, cost, by have := List.mem_range'_1.1 hw; omega, hl, ?_, ?_⟩
    · cases hr : rightB q d ((bif t.collier_ == d then c + q.CoalBook.Brings else c) - eng q d t.eats_ - cost) with
      | true => rfl
      | false => rw [hr] at h; cases h
    · cases hr : rightB q d ((bif t.collier_ == d then c + q.CoalBook.Brings else c) - eng q d t.eats_ - cost) with
      | true => rw [hr] at h; exact h
      | false => rw [hr] at h; cases h
abbrev TT (b : CoalBook) : List Coal_truth := truths (opn b [])
end Go.Proofs.YticodohfokgjfaaDoor

set_option linter.unusedVariables false
set_option linter.unusedSimpArgs false
namespace Go.Proofs.YticodohfokgjfaaDoor
open Go Go.Fx
end Go.Proofs.YticodohfokgjfaaDoor

set_option linter.unusedVariables false
set_option linter.unusedSimpArgs false
namespace Go.Proofs.YticodohfokgjfaaDoor
open Go Go.Fx
structure OrderOf (len : Nat) (L : List Coal_truth) (n : Int) : Prop where
  n0 : 0 ≤ n
  hi : n ≤ 100000
  ge : ∀ k, k < len → ∀ t ∈ L, -coalAt k t ≤ n
  is : n = 0 ∨ ∃ k, k < len ∧ ∃ t ∈ L, n = -coalAt k t
/-! a heap that is higher -/
def shT (n : Int) (m : Nat) (t : Coal_truth) : Coal_truth := Coal_truth.mk t.eats_ t.collier_ t.winds_ ((List.range 6).map fun k => if k < m then t.coal_.getD k 0 + n else t.coal_.getD k 0)
end Go.Proofs.YticodohfokgjfaaDoor

set_option linter.unusedVariables false
set_option linter.unusedSimpArgs false
namespace Go.Proofs.YticodohfokgjfaaDoor
open Go Go.Fx
def Clm (l : List Int) (n : Int) : Prop := ∀ (k : Nat) (x : Int), l[k]? = some x → 0 ≤ x ∧ x < n ∧ ∀ y, 0 < k → l[k - 1]? = some y → y < x
theorem Clm.nil {n : Int} : Clm [] n := fun k x h => by simp at h
theorem Clm.snoc {l : List Int} {n v : Int} (h : Clm l n) (h0 : 0 ≤ v) (h1 : v < n) (h2 : ∀ y, l.getLast? = some y → y < v) : Clm (l ++ [v]) n := by
  intro k x hx
  by_cases hk : k < l.length
  · rw [List.getElem?_append_left hk] at hx
    obtain ⟨a1, a2, a3⟩ := h k x hx
    refine ⟨a1, a2, fun y h0 hy => a3 y h0 ?_⟩
    rwa [List.getElem?_append_left (by omega)] at hy
  · rw [List.getElem?_append_right (by omega), List.getElem?_singleton] at hx
    split at hx
    · cases hx
      refine ⟨h0, h1, fun y hk0 hy => h2 y ?_⟩
      rw [List.getElem?_append_left (by omega)] at hy
      rw [List.getLast?_eq_getElem?, ← hy]
      congr 1; omega
    · cases hx
theorem Clm.lt {l : List Int} {n : Int} (h : Clm l n) : ∀ (d i : Nat) (x y : Int), l[i]? = some x → l[i + d + 1]? = some y → x < y := by
  intro d
  induction d with
  | zero => intro i x y hx hy; exact (h (i + 1) y hy).2.2 x (by omega) (by simpa using hx)
  | succ d ih =>
    intro i x y hx hy
    have hlt : i + d + 1 < l.length := by have := (List.getElem?_eq_some_iff.1 hy).1; omega
    have h1 := ih i x _ hx (List.getElem?_eq_getElem hlt)
    have h2 := (h (i + (d + 1) + 1) y hy).2.2 _ (by omega) (by rw [show i + (d + 1) + 1 - 1 = i + d + 1 by omega]; exact List.getElem?_eq_getElem hlt)
    omega
theorem Clm.len {l : List Int} {n : Int} (h : Clm l n) (h0 : 0 ≤ n) : (l.length : Int) ≤ n := by
  have : ∀ (k : Nat) (x : Int), l[k]? = some x → (k : Int) ≤ x := by
    intro k
    induction k with
    | zero => intro x hx; have := (h 0 x hx).1; omega
    | succ k ih =>
      intro x hx
      have hlt : k < l.length := by have := (List.getElem?_eq_some_iff.1 hx).1; omega
      have h1 := ih _ (List.getElem?_eq_getElem hlt)
      have h2 := h.lt 0 k _ x (List.getElem?_eq_getElem hlt) hx
      omega
  by_cases hl : l.length = 0
  · omega
  · have hlt : l.length - 1 < l.length := by omega
    have h1 := this _ _ (List.getElem?_eq_getElem hlt)
    have h2 := (h _ _ (List.getElem?_eq_getElem hlt)).2.1
    omega
/-- a book without some measures can be true -/
def CanO (b : CoalBook) (l : List Int) : Prop := truths (opn b l) ≠ []
theorem can_o {b : CoalBook} (V : Val b) (A : Arg b) {l : List Int} (hl : l.length ≤ 1000) : ∃ r, (coal_opened b l).bind (fun r16 => (coal_book_isTrue (Coal_book.mk (CoalBook.mk r16.CoalBook.Heap r16.CoalBook.Eats r16.CoalBook.Extra b.Days r16.CoalBook.Collier r16.CoalBook.Brings r16.CoalBook.Dips) r16.costs_)).bind fun r28 => some (l, r28)) = some (l, r) ∧ (r = true ↔ CanO b l) := by
  refine ⟨!(truths (opn b l)).isEmpty, ?_, ?_⟩
  · rw [opened_eq V A l hl, Option.bind_some]
    rw [show (Coal_book.mk (CoalBook.mk (opn b l).CoalBook.Heap (opn b l).CoalBook.Eats (opn b l).CoalBook.Extra b.Days (opn b l).CoalBook.Collier (opn b l).CoalBook.Brings (opn b l).CoalBook.Dips) (opn b l).costs_) = opn b l from rfl]
    rw [isTrue_eq _ (opn_op V A l), Option.bind_some]
  · unfold CanO
    cases truths (opn b l) <;> simp
/-- a list of places below n that climbs, so long, and begins so -/
structure Ext (n : Nat) (l : List Int) (many : Nat) (o : List Int) : Prop where
  len : o.length = many
  clm : Clm o n
  pre : ∀ (i : Nat) (x : Int), l[i]? = some x → o[i]? = some x
def LexLt (o w : List Int) : Prop := ∃ (i : Nat) (x y : Int), o[i]? = some x ∧ w[i]? = some y ∧ x < y ∧ ∀ j, j < i → o[j]? = w[j]?
def TryOk (b : CoalBook) (l : List Int) (many : Nat) (r : List Int × Bool) : Prop :=
  (r.2 = true ∧ Ext b.Dips.length l many r.1 ∧ CanO b r.1 ∧ ∀ o, Ext b.Dips.length l many o → CanO b o → ¬ LexLt o r.1) ∨
  (r.2 = false ∧ ∀ o, Ext b.Dips.length l many o → ¬ CanO b o)
theorem Ext.more {n many : Nat} {l o : List Int} {x : Int} (h : Ext n l many o) (hx : o[l.length]? = some x) : Ext n (l ++ [x]) many o := by
  refine ⟨h.len, h.clm, fun i y hy => ?_⟩
  by_cases hi : i < l.length
  · rw [List.getElem?_append_left hi] at hy; exact h.pre i y hy
  · rw [List.getElem?_append_right (by omega), List.getElem?_singleton] at hy
    split at hy
    · cases hy; rw [show i = l.length by omega]; exact hx
    · cases hy
theorem Ext.less {n many : Nat} {l o : List Int} {x : Int} (h : Ext n (l ++ [x]) many o) : Ext n l many o ∧ o[l.length]? = some x := by
  refine ⟨⟨h.len, h.clm, fun i y hy => h.pre i y ?_⟩, h.pre _ _ (by simp)⟩
  rw [List.getElem?_append_left (List.getElem?_eq_some_iff.1 hy).1]; exact hy
theorem try_loop {b : CoalBook} (V : Val b) {l : List Int} {many : Nat} (hm : many ≤ b.Dips.length) (hl : l.length < many) (hc : Clm l b.Dips.length) {rec_ : List Int → Int → Option (List Int × Bool)}
    (hrec : ∀ v : Int, Clm (l ++ [v]) b.Dips.length → ∃ r, rec_ (l ++ [v]) many = some r ∧ TryOk b (l ++ [v]) many r) {s : Int} (s0 : 0 ≤ s) (sn : s ≤ b.Dips.length) (s1 : ∀ y, l.getLast? = some y → y < s)
    (s2 : ∀ o, Ext b.Dips.length l many o → ∀ x, o[l.length]? = some x → s ≤ x) : ∃ r, coal_Wrong_1_j4 b l rec_ many s = some r ∧ TryOk b l many r := by
  have l8 := V.pn
  unfold coal_Wrong_1_j4
  have at_ : ∀ o, Ext b.Dips.length l many o → ∃ x, o[l.length]? = some x := fun o ho => ⟨_, List.getElem?_eq_getElem (by rw [ho.len]; exact hl)⟩
  refine loopF_inv (body := coal_Wrong_1_l3 b l rec_ many) (fun z : Int => s ≤ z ∧ z ≤ b.Dips.length ∧ ∀ o, Ext b.Dips.length l many o → CanO b o → ∀ x, o[l.length]? = some x → z ≤ x) (fun z => b.Dips.length - z.toNat) (fun r => TryOk b l many r) ?_ big s ⟨Int.le_refl _, sn, fun o ho _ => s2 o ho⟩ (by unfold big; simp; omega)
  rintro rec z ⟨h1, h2, h3⟩ ih
  unfold coal_Wrong_1_l3
  by_cases hz : z < b.Dips.length
  case neg =>
    rw [decide_eq_false hz, cond_false]
    refine ⟨_, rfl, .inr ⟨rfl, fun o ho hco => ?_⟩⟩
    obtain ⟨x, hx⟩ := at_ o ho
    have := h3 o ho hco x hx
    have := (ho.clm _ x hx).2.1
    omega
  rw [decide_eq_true hz, cond_true, need_of (by simp [fitsL]; omega)]
  have hC : Clm (l ++ [z]) b.Dips.length := hc.snoc (by omega) hz (fun y hy => by have := s1 y hy; omega)
  obtain ⟨⟨out, c⟩, hr, hT⟩ := hrec z hC
  rw [hr, Option.bind_some]
  simp only
  rcases hT with ⟨e, hE, hO, hmin⟩ | ⟨e, hno⟩
  · simp only at e; subst e
    rw [cond_true]
    refine ⟨_, rfl, .inl ⟨rfl, hE.less.1, hO, fun o ho hco => ?_⟩⟩
    obtain ⟨x, hx⟩ := at_ o ho
    have hzx := h3 o ho hco x hx
    by_cases hxz : x = z
    · subst hxz; exact hmin o (ho.more hx) hco
    · rintro ⟨i, x', y', g1, g2, g3, g4⟩
      simp only at g2 g4
      have hoz := hE.less.2
      simp only at hoz
      by_cases hi : i < l.length
      · have hli := List.getElem?_eq_getElem hi
        have a1 := ho.pre i _ hli
        have a2 := hE.less.1.pre i _ hli
        simp only at a2
        rw [g1] at a1; rw [g2] at a2
        have := Option.some.inj a1; have := Option.some.inj a2
        omega
      · by_cases hil : i = l.length
        · subst hil
          rw [hx] at g1; rw [hoz] at g2
          have := Option.some.inj g1; have := Option.some.inj g2
          omega
        · have := g4 l.length (by omega)
          rw [hx, hoz] at this
          exact hxz (Option.some.inj this)
  · simp only at e; subst e
    rw [cond_false, wrI (by omega) (by omega)]
    refine ih _ ⟨by omega, by omega, fun o ho hco x hx => ?_⟩ (by (try simp only); omega)
    have := h3 o ho hco x hx
    by_cases hxz : x = z
    · subst hxz; exact absurd hco (hno o (ho.more hx))
    · omega
theorem try_eq {b : CoalBook} (V : Val b) (A : Arg b) {many : Nat} (hm : many ≤ b.Dips.length) : ∀ (d fuel : Nat) (l : List Int), Clm l b.Dips.length → l.length + d = many → d < fuel → ∃ r, coal_Wrong_1 fuel l many b = some r ∧ TryOk b l many r := by
  have l8 := V.pn
  intro d
  induction d with
  | zero =>
    intro fuel l hc hl hf
    obtain ⟨f, rfl⟩ : ∃ f, fuel = f + 1 := ⟨fuel - 1, by omega⟩
    unfold coal_Wrong_1 coal_Wrong_1_F
    rw [show ((l.length : Int) == (many : Int)) = true by simp; omega, cond_true]
    obtain ⟨r, hr, hi⟩ := can_o V A (l := l) (by omega)
    rw [hr]
    have eq : ∀ o, Ext b.Dips.length l many o → o = l := fun o ho => by
      refine (List.ext_getElem? fun i => ?_).symm
      by_cases hi : i < l.length
      · rw [List.getElem?_eq_getElem hi, ho.pre i _ (List.getElem?_eq_getElem hi)]
      · rw [List.getElem?_eq_none (by omega), List.getElem?_eq_none (by rw [ho.len]; omega)]
    refine ⟨_, rfl, ?_⟩
    cases r with
    | true =>
      refine .inl ⟨rfl, ⟨by simp only; omega, hc, fun i x h => h⟩, hi.1 rfl, fun o ho _ => ?_⟩
      rw [eq o ho]
      rintro ⟨i, x, y, h1, h2, h3, _⟩
      simp only at h2
      rw [h1] at h2
      have := Option.some.inj h2
      omega
    | false =>
      refine .inr ⟨rfl, fun o ho => ?_⟩
      rw [eq o ho]
      exact fun h => by simpa using hi.2 h
  | succ d ih =>
    intro fuel l hc hl hf
    obtain ⟨f, rfl⟩ : ∃ f, fuel = f + 1 := ⟨fuel - 1, by omega⟩
    unfold coal_Wrong_1 coal_Wrong_1_F
    rw [show ((l.length : Int) == (many : Int)) = false by simp; omega, cond_false]
    have hrec : ∀ v : Int, Clm (l ++ [v]) b.Dips.length → ∃ r, coal_Wrong_1 f (l ++ [v]) many b = some r ∧ TryOk b (l ++ [v]) many r := fun v hv => ih f (l ++ [v]) hv (by (try simp); omega) (by omega)
    by_cases h0 : 0 < l.length
    · rw [decide_eq_true (show (l.length : Int) > 0 by omega), cond_true, wrI (x := (l.length : Int) - 1) (by omega) (by omega), show (l.length : Int) - 1 = ((l.length - 1 : Nat) : Int) by omega, getI_nat]
      have hlt : l.length - 1 < l.length := by omega
      have hx := List.getElem?_eq_getElem hlt
      generalize l[l.length - 1] = v at hx
      obtain ⟨v0, v1, _⟩ := hc _ _ hx
      rw [hx, Option.bind_some, wrI (x := v + 1) (by omega) (by omega)]
      refine try_loop V hm (by omega) hc hrec (by omega) (by omega) (fun y hy => ?_) (fun o ho x hox => ?_)
      · rw [List.getLast?_eq_getElem?, hx] at hy
        have := Option.some.inj hy; omega
      · have := (ho.clm _ x hox).2.2 v h0 (ho.pre _ _ hx)
        omega
    · rw [decide_eq_false (show ¬ (l.length : Int) > 0 by omega), cond_false]
      have hn : l = [] := List.eq_nil_of_length_eq_zero (by omega)
      refine try_loop V hm (by omega) hc hrec (Int.le_refl _) (by omega) (fun y hy => ?_) (fun o ho x hox => (ho.clm _ x hox).1)
      rw [hn] at hy; cases hy
def allL (n : Nat) : List Int := (List.range n).map Int.ofNat
theorem allL_clm (n : Nat) : Clm (allL n) n := by
  have get : ∀ (k : Nat) (x : Int), (allL n)[k]? = some x → x = k ∧ k < n := by
    intro k x h
    unfold allL at h
    rw [List.getElem?_map] at h
    obtain ⟨y, hy, rfl⟩ := Option.map_eq_some_iff.1 h
    have hk : k < n := by simpa using (List.getElem?_eq_some_iff.1 hy).1
    rw [List.getElem?_range hk] at hy
    cases hy
    exact ⟨rfl, hk⟩
  intro k x h
  obtain ⟨rfl, hk⟩ := get k x h
  refine ⟨by omega, by omega, fun y h0 hy => ?_⟩
  obtain ⟨rfl, _⟩ := get _ y hy
  omega
/-- the fewest that must be left out, the first of those -/
structure Few (b : CoalBook) (w : List Int) : Prop where
  clm : Clm w b.Dips.length
  can : CanO b w
  len : ∀ o, Clm o b.Dips.length → CanO b o → w.length ≤ o.length
  lex : ∀ o, Clm o b.Dips.length → CanO b o → o.length = w.length → ¬ LexLt o w
theorem wrong_eq {b : CoalBook} (V : Val b) (A : Arg b) (hall : CanO b (allL b.Dips.length)) : ∃ w, coal_Wrong b = some (w, 0) ∧ Few b w := by
  have l8 := V.pn
  unfold coal_Wrong
  rw [check_eq b A, val_iff.2 V, Option.bind_some]
  simp only [cond_true, bne_self_eq_false, cond_false]
  refine Exists.elim (loopF_inv (body := coal_Wrong_l2 b) (fun z : Int => ∃ k : Nat, z = k ∧ k ≤ b.Dips.length + 1 ∧ ∀ o, Clm o b.Dips.length → CanO b o → k ≤ o.length) (fun z => b.Dips.length + 1 - z.toNat) (fun r => ∃ w, r = (w, 0) ∧ Few b w) ?_ big 0 ⟨0, rfl, by omega, fun _ _ _ => Nat.zero_le _⟩ (by unfold big; simp; omega)) fun r ⟨h1, w, h2, h3⟩ => ⟨w, by rw [h1, h2], h3⟩
  rintro rec z ⟨k, rfl, hk, hmin⟩ ih
  unfold coal_Wrong_l2
  rw [wrI (x := (b.Dips.length : Int) + 1) (by omega) (by omega)]
  by_cases hlt : k < b.Dips.length + 1
  · rw [decide_eq_true (by omega), cond_true]
    obtain ⟨⟨out, c⟩, hr, hT⟩ := try_eq V A (many := k) (by omega) k big [] Clm.nil (by simp) (by unfold big; omega)
    rw [hr, Option.bind_some]
    simp only
    have ext : ∀ o, Clm o b.Dips.length → o.length = k → Ext b.Dips.length [] k o := fun o ho hl => ⟨hl, ho, fun i x h => by simp at h⟩
    rcases hT with ⟨e, hE, hO, hm⟩ | ⟨e, hno⟩
    · simp only at e; subst e
      rw [cond_true]
      refine ⟨_, rfl, out, rfl, hE.clm, hO, fun o h1 h2 => by rw [hE.len]; exact hmin o h1 h2, fun o h1 h2 h3 => hm o (ext o h1 (h3.trans hE.len)) h2⟩
    · simp only at e; subst e
      rw [cond_false, wrI (by omega) (by omega)]
      refine ih _ ⟨k + 1, by simp, by omega, fun o h1 h2 => ?_⟩ (by (try simp only); omega)
      have := hmin o h1 h2
      by_cases hok : o.length = k
      · exact absurd h2 (hno o (ext o h1 hok))
      · omega
  · have := hmin _ (allL_clm _) hall
    unfold allL at this
    simp at this
    omega
end Go.Proofs.YticodohfokgjfaaDoor

set_option linter.unusedVariables false
set_option linter.unusedSimpArgs false
namespace Go.Proofs.YticodohfokgjfaaDoor
open Go Go.Fx
def Has (m : List (Coal_gust × Int)) (g : Coal_gust) : Prop := ∃ p ∈ m, p.1 = g
theorem has_look {m : List (Coal_gust × Int)} {g : Coal_gust} (h : Has m g) : ∃ v, lookL m g = some v := by
  obtain ⟨p, hp, rfl⟩ := h
  unfold lookL
  cases hf : m.find? (·.1 == p.1) with
  | some x => exact ⟨x.2, rfl⟩
  | none =>
    have := List.find?_eq_none.1 hf p hp
    simp at this
theorem has_put {m : List (Coal_gust × Int)} {g g' : Coal_gust} {v : Int} (h : Has m g') : Has (putL m g v) g' := by
  obtain ⟨p, hp, rfl⟩ := h
  unfold putL
  split
  · rename_i i hi
    obtain ⟨j, hj, rfl⟩ := List.getElem_of_mem hp
    obtain ⟨hi1, hi2, _⟩ := List.findIdx?_eq_some_iff_getElem.1 hi
    by_cases hij : i = j
    · subst hij
      refine ⟨(g, v), List.mem_set (by simpa using hi1) _, ?_⟩
      have := hi2
      simp at this
      exact this.symm
    · refine ⟨m[j], ?_, rfl⟩
      have h2 : j < (m.set i (g, v)).length := by simpa using hj
      have := List.getElem_mem h2
      rwa [List.getElem_set_ne hij] at this
  · exact ⟨p, List.mem_append_left _ hp, rfl⟩
theorem put_has {m : List (Coal_gust × Int)} {g : Coal_gust} {v : Int} : Has (putL m g v) g := by
  unfold putL
  split
  · rename_i i hi
    obtain ⟨hi1, hi2, _⟩ := List.findIdx?_eq_some_iff_getElem.1 hi
    exact ⟨(g, v), List.mem_set (by simpa using hi1) _, rfl⟩
  · exact ⟨(g, v), List.mem_append_right _ (List.mem_singleton.2 rfl), rfl⟩
theorem costW_keep {x : CoalDay} {ex : List Int} {d : Int} {m : List (Coal_gust × Int)} {g : Coal_gust} (h : Has m g) : ∀ k, Has (costW x ex d m k) g
  | 0 => h
  | k + 1 => by
    unfold costW
    cases (andI (shrI x.Winds (k : Int)) 1) == 1 with
    | false => exact costW_keep h k
    | true => exact has_put (costW_keep h k)
theorem costW_has {x : CoalDay} {ex : List Int} {d : Int} {m : List (Coal_gust × Int)} {j : Nat} (hb : ((andI (shrI x.Winds (j : Int)) 1) == 1) = true) : ∀ k, j < k → Has (costW x ex d m k) (Coal_gust.mk d (j : Int))
  | 0, h => by omega
  | k + 1, h => by
    unfold costW
    by_cases hjk : j = k
    · subst hjk; rw [hb]; exact put_has
    · have := costW_has (x := x) (ex := ex) (d := d) (m := m) hb k (by omega)
      cases (andI (shrI x.Winds (k : Int)) 1) == 1 with
      | false => exact this
      | true => exact has_put this
theorem costD_has {ds : List CoalDay} {ex : List Int} {d j : Nat} {x : CoalDay} (hx : ds[d]? = some x) (hj : j < 3) (hb : ((andI (shrI x.Winds (j : Int)) 1) == 1) = true) : ∀ k, d < k → Has (costD ds ex k) (Coal_gust.mk (d : Int) (j : Int))
  | 0, h => by omega
  | k + 1, h => by
    unfold costD
    by_cases hdk : d = k
    · subst hdk; rw [hx]; exact costW_has hb 3 hj
    · have := costD_has (ex := ex) hx hj hb k (by omega)
      cases ds[k]? with
      | none => exact this
      | some y => exact costW_keep this 3
theorem wind_some : ∀ w : Fin 8, 1 ≤ w.val → ∃ j : Fin 3, ((andI (shrI (w.val : Int) (j.val : Int)) 1) == 1) = true := by decide +kernel
theorem blown_ne {b : CoalBook} (V : Val b) {but : List Int} (hk : keepD b.Dips but b.Dips.length = []) : ∀ (r : Nat) (t : Coal_truth) (d : Nat) (c : Int), d + r = b.Days.length → blown (opn b but) r t d c ≠ [] := by
  intro r
  induction r with
  | zero => intro t d c _ h; cases h
  | succ r ih =>
    intro t d c hd
    have hdl : d < b.Days.length := by omega
    obtain ⟨_, _, w1, w2⟩ := dayB_iff (V.da _ (List.getElem_mem hdl))
    obtain ⟨j, hj⟩ := wind_some ⟨b.Days[d].Winds.toNat, by omega⟩ (by simp only; omega)
    simp only [show ((b.Days[d].Winds.toNat : Nat) : Int) = b.Days[d].Winds by omega] at hj
    obtain ⟨v, hv⟩ := has_look (costD_has (ex := b.Extra) (List.getElem?_eq_getElem hdl) j.isLt hj b.Days.length hdl)
    have hr : ∀ x, rightB (opn b but) d x = true := fun x => by
      unfold rightB
      rw [show (opn b but).CoalBook.Dips = [] from hk]; rfl
    rw [blown]
    intro h
    have := List.flatMap_eq_nil_iff.1 h j.val (List.mem_range'_1.2 (by have := j.isLt; omega))
    rw [show (opn b but).costs_ = costD b.Days b.Extra b.Days.length from rfl, hv] at this
    simp only [blown.optL, hr, cond_true] at this
    have e := ih (Coal_truth.mk t.eats_ t.collier_ (aset t.winds_ 6 d (j.val : Int)) (aset t.coal_ 6 d ((bif t.collier_ == (d : Int) then c + (opn b but).CoalBook.Brings else c) - eng (opn b but) d t.eats_ - v))) (d + 1) ((bif t.collier_ == (d : Int) then c + (opn b but).CoalBook.Brings else c) - eng (opn b but) d t.eats_ - v) (by omega)
    rw [show ((d + 1 : Nat) : Int) = (d : Int) + 1 by omega] at e
    exact e this
theorem truths_ne {b : CoalBook} (V : Val b) (A : Arg b) {but : List Int} (hk : keepD b.Dips but b.Dips.length = []) : truths (opn b but) ≠ [] := by
  have Q := opn_op V A but
  have e0 := (Q.ea _ (agetS_mem (i := 0) (by rw [Q.el]; decide))).1
  have e1 := (Q.ea _ (agetS_mem (i := 1) (by rw [Q.el]; decide))).1
  have := blown_ne V hk b.Days.length (init (agetS (opn b but).CoalBook.Eats (0 : Int)).Low (agetS (opn b but).CoalBook.Eats (1 : Int)).Low b.Collier.Low) 0 b.Heap.Low (by omega)
  obtain ⟨t, ht⟩ := List.exists_mem_of_ne_nil _ this
  refine List.ne_nil_of_mem (truth_mem.2 ⟨b.Heap.Low, rng_mem.2 ⟨Int.le_refl _, Q.hp.lh⟩, _, rng_mem.2 ⟨Int.le_refl _, e0.lh⟩, _, rng_mem.2 ⟨Int.le_refl _, e1.lh⟩, b.Collier.Low, rng_mem.2 ⟨Int.le_refl _, Q.co.lh⟩, ht⟩)
theorem keepD_none {l : List CoalDip} {but : List Int} : ∀ k, (∀ j : Nat, j < k → (j : Int) ∈ but) → keepD l but k = []
  | 0, _ => rfl
  | k + 1, h => by
    unfold keepD
    rw [show but.contains (k : Int) = true by simpa using h k (by omega), cond_true]
    exact keepD_none k fun j hj => h j (by omega)
theorem keepD_all {l : List CoalDip} : ∀ k, k ≤ l.length → keepD l [] k = l.take k
  | 0, _ => rfl
  | k + 1, h => by
    unfold keepD
    rw [show ([] : List Int).contains (k : Int) = false from rfl, cond_false, keepD_all k (by omega), ← List.take_append_getElem (show k < l.length by omega), List.getElem?_eq_getElem (show k < l.length by omega)]
    rfl
theorem hall {b : CoalBook} (V : Val b) (A : Arg b) : CanO b (allL b.Dips.length) := by
  refine truths_ne V A (keepD_none _ fun j hj => ?_)
  exact List.mem_map.2 ⟨j, List.mem_range.2 hj, rfl⟩
theorem wrong_law {b : CoalBook} (V : Val b) (A : Arg b) : ∃ w, coal_Wrong b = some (w, 0) ∧ Few b w := wrong_eq V A (hall V A)
def outB (b : CoalBook) (l : List Int) : CoalBook := CoalBook.mk b.Heap b.Eats b.Extra b.Days b.Collier b.Brings (keepD b.Dips l b.Dips.length)
theorem out_val {b : CoalBook} (V : Val b) (l : List Int) : Val (outB b l) :=
  ⟨V.hp, V.dn, V.co, V.br, by have := keepD_len b.Dips l b.Dips.length; have := V.pn; show (keepD b.Dips l b.Dips.length).length ≤ 4; omega, V.ea, V.ex, V.da, fun x hx => V.di x (keepD_mem hx)⟩
theorem out_arg {b : CoalBook} (V : Val b) (A : Arg b) (l : List Int) : Arg (outB b l) := (out_val V l).arg A.el A.xl
theorem out_TT (b : CoalBook) (l : List Int) : TT (outB b l) = truths (opn b l) := by
  have : opn (outB b l) [] = opn b l := by
    unfold opn outB
    simp only
    rw [keepD_all _ (Nat.le_refl _), List.take_length]
  show truths (opn (outB b l) []) = _
  rw [this]
end Go.Proofs.YticodohfokgjfaaDoor

set_option linter.unusedVariables false
set_option linter.unusedSimpArgs false
namespace Go.Proofs.YticodohfokgjfaaDoor
open Go Go.Fx
def bitB (x : CoalDay) (j : Nat) : Bool := (andI (shrI x.Winds (j : Int)) 1) == 1
def Ent (ds : List CoalDay) (ex : List Int) (p : Coal_gust × Int) : Prop := ∃ (k j : Nat) (x : CoalDay), p.1 = Coal_gust.mk (k : Int) (j : Int) ∧ ds[k]? = some x ∧ bitB x j = true ∧ j < 3 ∧ p.2 = wr (x.Crosses * aget ex (j : Int))
theorem costW_ent {ds : List CoalDay} {ex : List Int} {d : Nat} {x : CoalDay} {m : List (Coal_gust × Int)} (hx : ds[d]? = some x) (hm : ∀ p ∈ m, Ent ds ex p) : ∀ k, k ≤ 3 → ∀ p ∈ costW x ex (d : Int) m k, Ent ds ex p
  | 0, _ => hm
  | k + 1, hk => by
    intro p hp
    unfold costW at hp
    cases hc : (andI (shrI x.Winds (k : Int)) 1) == 1 with
    | false => rw [hc, cond_false] at hp; exact costW_ent hx hm k (by omega) p hp
    | true =>
      rw [hc, cond_true] at hp
      rcases putL_mem hp with rfl | hp
      · exact ⟨d, k, x, rfl, hx, hc, by omega, rfl⟩
      · exact costW_ent hx hm k (by omega) p hp
theorem costD_ent {ds : List CoalDay} {ex : List Int} : ∀ k, ∀ p ∈ costD ds ex k, Ent ds ex p
  | 0 => fun p h => by cases h
  | k + 1 => by
    unfold costD
    cases hk : ds[k]? with
    | none => exact costD_ent k
    | some x => exact costW_ent hk (costD_ent k) 3 (by omega)
theorem look_val {ds : List CoalDay} {ex : List Int} {n d j : Nat} {c : Int} (h : lookL (costD ds ex n) (Coal_gust.mk (d : Int) (j : Int)) = some c) : ∃ x, ds[d]? = some x ∧ bitB x j = true ∧ j < 3 ∧ c = wr (x.Crosses * aget ex (j : Int)) := by
  unfold lookL at h
  obtain ⟨p, hp, rfl⟩ := Option.map_eq_some_iff.1 h
  have hk := List.find?_some hp
  have hk : p.1 = Coal_gust.mk (d : Int) (j : Int) := by simpa using hk
  obtain ⟨k, i, x, h1, h2, h3, h4, h5⟩ := costD_ent n p (List.mem_of_find?_eq_some hp)
  rw [h1] at hk
  have h6 := congrArg Coal_gust.day_ hk
  have h7 := congrArg Coal_gust.wind_ hk
  simp only at h6 h7
  obtain rfl : k = d := by omega
  obtain rfl : i = j := by omega
  exact ⟨x, h2, h3, h4, h5⟩
theorem val_look {ds : List CoalDay} {ex : List Int} {n d j : Nat} {x : CoalDay} (hx : ds[d]? = some x) (hb : bitB x j = true) (hj : j < 3) (hd : d < n) : lookL (costD ds ex n) (Coal_gust.mk (d : Int) (j : Int)) = some (wr (x.Crosses * aget ex (j : Int))) := by
  obtain ⟨v, hv⟩ := has_look (costD_has (ex := ex) hx hj hb n hd)
  obtain ⟨y, h1, _, _, h4⟩ := look_val hv
  rw [hx] at h1
  obtain rfl := Option.some.inj h1
  rw [hv, h4]
def E2 (e : List Int) : Prop := e.length = 2 ∧ ∀ x ∈ e, 0 ≤ x ∧ x ≤ 9
theorem blown_mk0 {q : Coal_book} {r w : Nat} {t u : Coal_truth} {d c cost : Int} (hw : w < 3) (hl : lookL q.costs_ (Coal_gust.mk d (w : Int)) = some cost) (hr : rightB q d ((bif t.collier_ == d then c + q.CoalBook.Brings else c) - eng q d t.eats_ - cost) = true)
    (hu : u ∈ blown q r (Coal_truth.mk t.eats_ t.collier_ (aset t.winds_ 6 d (w : Int)) (aset t.coal_ 6 d ((bif t.collier_ == d then c + q.CoalBook.Brings else c) - eng q d t.eats_ - cost))) (d + 1) ((bif t.collier_ == d then c + q.CoalBook.Brings else c) - eng q d t.eats_ - cost)) : u ∈ blown q (r + 1) t d c := by
  rw [blown]
  refine List.mem_flatMap.2 ⟨w, List.mem_range'_1.2 (by omega), ?_⟩
  rw [hl]
  simp only [blown.optL]
  rw [hr, cond_true]
  exact hu
theorem blown_rel {q q' : Coal_book} {n : Nat} (R : Int → Int → Prop) (hR : ∀ z z' c, R z z' → R (z + c) (z' + c)) (hB : q.CoalBook.Brings = q'.CoalBook.Brings) (d2 : q'.CoalBook.Dips = [])
    (step : ∀ d : Nat, d < n → ∀ (w : Nat) (cost : Int), lookL q.costs_ (Coal_gust.mk (d : Int) (w : Int)) = some cost → ∃ (w' : Nat) (cost' : Int), w' < 3 ∧ lookL q'.costs_ (Coal_gust.mk (d : Int) (w' : Int)) = some cost' ∧ ∀ e, E2 e → ∀ z z', R z z' → R (z - eng q d e - cost) (z' - eng q' d e - cost')) :
    ∀ (r : Nat) (t t' : Coal_truth) (d : Nat) (c c' : Int) (u : Coal_truth), d + r = n → n ≤ 6 → t.collier_ = t'.collier_ → t.eats_ = t'.eats_ → E2 t.eats_ → R c c' → (∀ k, k < d → R (coalAt k t) (coalAt k t')) → u ∈ blown q r t d c → ∃ u' ∈ blown q' r t' d c', ∀ k, k < n → R (coalAt k u) (coalAt k u') := by
  have hr : ∀ d x : Int, rightB q' d x = true := fun d x => by unfold rightB; rw [d2]; rfl
  intro r
  induction r with
  | zero =>
    intro t t' d c c' u h1 h2 h3 h4 h5 h6 h7 hu
    obtain rfl := List.mem_singleton.1 hu
    exact ⟨t', List.mem_singleton.2 rfl, fun k hk => h7 k (by omega)⟩
  | succ r ih =>
    intro t t' d c c' u h1 h2 h3 h4 h5 h6 h7 hu
    obtain ⟨w, cost, hw, hl, _, hu⟩ := blown_step hu
    obtain ⟨w', cost', hw', hl', hs⟩ := step d (by omega) w cost hl
    have hz : R (bif t.collier_ == (d : Int) then c + q.CoalBook.Brings else c) (bif t'.collier_ == (d : Int) then c' + q'.CoalBook.Brings else c') := by
      rw [h3, hB]
      cases (t'.collier_ == (d : Int)) with
      | true => exact hR _ _ _ h6
      | false => exact h6
    have hn := hs t.eats_ h5 _ _ hz
    generalize (bif t.collier_ == (d : Int) then c + q.CoalBook.Brings else c) - eng q d t.eats_ - cost = x at hn hu
    obtain ⟨u', hu', hk⟩ := ih (Coal_truth.mk t.eats_ t.collier_ (aset t.winds_ 6 d (w : Int)) (aset t.coal_ 6 d x)) (Coal_truth.mk t'.eats_ t'.collier_ (aset t'.winds_ 6 d (w' : Int)) (aset t'.coal_ 6 d ((bif t'.collier_ == (d : Int) then c' + q'.CoalBook.Brings else c') - eng q' d t'.eats_ - cost'))) (d + 1) x ((bif t'.collier_ == (d : Int) then c' + q'.CoalBook.Brings else c') - eng q' d t'.eats_ - cost') u (by omega) h2 h3 h4 h5 (by rw [← h4]; exact hn) (fun k hk => by
      unfold coalAt
      simp only
      rw [getD_aset (by omega), getD_aset (by omega)]
      by_cases hkd : k = d
      · rw [if_pos (by omega), if_pos (by omega), ← h4]; exact hn
      · rw [if_neg (by omega), if_neg (by omega)]; exact h7 k (by omega)) (by rw [show ((d + 1 : Nat) : Int) = (d : Int) + 1 by omega]; exact hu)
    refine ⟨u', ?_, hk⟩
    rw [show ((d + 1 : Nat) : Int) = (d : Int) + 1 by omega] at hu'
    exact blown_mk0 hw' hl' (hr _ _) hu'
theorem truths_rel {q q' : Coal_book} (Q : Op q) (R : Int → Int → Prop) (hR : ∀ z z' c, R z z' → R (z + c) (z' + c)) (h0 : ∀ z, R z z) (hH : q.CoalBook.Heap = q'.CoalBook.Heap) (hE : q.CoalBook.Eats = q'.CoalBook.Eats) (hC : q.CoalBook.Collier = q'.CoalBook.Collier) (hD : q.CoalBook.Days.length = q'.CoalBook.Days.length) (hB : q.CoalBook.Brings = q'.CoalBook.Brings) (d2 : q'.CoalBook.Dips = [])
    (step : ∀ d : Nat, d < q.CoalBook.Days.length → ∀ (w : Nat) (cost : Int), lookL q.costs_ (Coal_gust.mk (d : Int) (w : Int)) = some cost → ∃ (w' : Nat) (cost' : Int), w' < 3 ∧ lookL q'.costs_ (Coal_gust.mk (d : Int) (w' : Int)) = some cost' ∧ ∀ e, E2 e → ∀ z z', R z z' → R (z - eng q d e - cost) (z' - eng q' d e - cost'))
    {u : Coal_truth} (h : u ∈ truths q) : ∃ u' ∈ truths q', ∀ k, k < q.CoalBook.Days.length → R (coalAt k u) (coalAt k u') := by
  obtain ⟨hp, h1, o, h2, p, h3, c, h4, h⟩ := truth_mem.1 h
  have g2 := rng_mem.1 h2; have g3 := rng_mem.1 h3
  have he0 := Q.ea _ (agetS_mem (i := 0) (by rw [Q.el]; decide))
  have he1 := Q.ea _ (agetS_mem (i := 1) (by rw [Q.el]; decide))
  have m0 := he0.1.l0; have m1 := he0.2; have m2 := he1.1.l0; have m3 := he1.2
  obtain ⟨u', hu', hk⟩ := blown_rel R hR hB d2 step q.CoalBook.Days.length (init o p c) (init o p c) 0 hp hp u (by omega) Q.dn rfl rfl ⟨rfl, fun x hx => by
    simp [init] at hx
    rcases hx with rfl | rfl <;> omega⟩ (h0 _) (fun k hk => by omega) h
  refine ⟨u', truth_mem.2 ⟨hp, hH ▸ h1, o, hE ▸ h2, p, hE ▸ h3, c, hC ▸ h4, hD ▸ hu'⟩, hk⟩
def dayEng (x : CoalDay) (e : List Int) : Int := (bif (andI (shrI x.Engines 0) 1) == 1 then e.getD 0 0 * x.Crosses else 0) + (bif (andI (shrI x.Engines 1) 1) == 1 then e.getD 1 0 * x.Crosses else 0)
theorem eng_day {q : Coal_book} {d : Nat} {x : CoalDay} (h : q.CoalBook.Days[d]? = some x) (e : List Int) : eng q (d : Int) e = dayEng x e := by
  unfold eng
  rw [show ((d : Int)).toNat = d from rfl, h]; rfl
/-- a day that is as another one, or with fewer crossings, or calm -/
structure Easy (x y : CoalDay) : Prop where
  c0 : 0 ≤ y.Crosses
  cx : y.Crosses ≤ x.Crosses
  c9 : x.Crosses ≤ 9
  en : y.Engines = x.Engines
  wi : y.Winds = x.Winds ∨ y.Winds = 1
  wx : 1 ≤ x.Winds ∧ x.Winds ≤ 7
theorem eng_easy {x y : CoalDay} (h : Easy x y) {e : List Int} (he : E2 e) : dayEng y e ≤ dayEng x e := by
  obtain ⟨hl, hb⟩ := he
  match e, hl with
  | [a, b], _ =>
    have ha := hb a (by simp); have hb' := hb b (by simp)
    have m1 : a * y.Crosses ≤ a * x.Crosses := Int.mul_le_mul_of_nonneg_left h.cx ha.1
    have m2 : b * y.Crosses ≤ b * x.Crosses := Int.mul_le_mul_of_nonneg_left h.cx hb'.1
    unfold dayEng
    rw [h.en]
    simp only [show [a, b].getD 0 0 = a from rfl, show [a, b].getD 1 0 = b from rfl]
    cases (andI (shrI x.Engines 0) 1 == 1) <;> cases (andI (shrI x.Engines 1) 1 == 1) <;> simp only [cond_true, cond_false] <;> omega
theorem cost_easy {ex : List Int} (hex : ∀ j : Nat, j < 3 → 0 ≤ aget ex (j : Int) ∧ aget ex (j : Int) ≤ 9) {x y : CoalDay} (h : Easy x y) {j i : Nat} (hj : j < 3) (hi : i < 3) (hle : aget ex (j : Int) ≤ aget ex (i : Int)) : wr (y.Crosses * aget ex (j : Int)) ≤ wr (x.Crosses * aget ex (i : Int)) := by
  have h1 := hex j hj; have h2 := hex i hi
  have c0 := h.c0; have cx := h.cx; have c9 := h.c9
  have m1 : 0 ≤ y.Crosses * aget ex (j : Int) := Int.mul_nonneg c0 h1.1
  have m2 : y.Crosses * aget ex (j : Int) ≤ x.Crosses * aget ex (i : Int) := Int.mul_le_mul cx hle h1.1 (by omega)
  have m3 : x.Crosses * aget ex (i : Int) ≤ 9 * 9 := Int.mul_le_mul c9 h2.2 h2.1 (by omega)
  rw [wrI (by omega) (by omega), wrI (by omega) (by omega)]
  exact m2
theorem bit_zero {y : CoalDay} (h : y.Winds = 1) : bitB y 0 = true := by
  unfold bitB; rw [h]; decide
structure EasyB (b b' : CoalBook) : Prop where
  hH : b.Heap = b'.Heap
  hE : b.Eats = b'.Eats
  hC : b.Collier = b'.Collier
  hB : b.Brings = b'.Brings
  hX : b.Extra = b'.Extra
  d1 : b.Dips = []
  d2 : b'.Dips = []
  hD : b.Days.length = b'.Days.length
  ex : ∀ j : Nat, j < 3 → 0 ≤ aget b.Extra (j : Int) ∧ aget b.Extra (j : Int) ≤ 9
  e0 : ∀ j : Nat, j < 3 → aget b.Extra ((0 : Nat) : Int) ≤ aget b.Extra (j : Int)
  da : ∀ (d : Nat) (x : CoalDay), b.Days[d]? = some x → ∃ y, b'.Days[d]? = some y ∧ Easy x y
theorem EasyB.up {b b' : CoalBook} (h : EasyB b b') (V : Val b) (A : Arg b) {u : Coal_truth} (hu : u ∈ TT b) : ∃ u' ∈ TT b', ∀ k, k < b.Days.length → coalAt k u ≤ coalAt k u' := by
  refine truths_rel (q := opn b []) (q' := opn b' []) (opn_op V A []) (fun z z' => z ≤ z') (fun z z' c hz => by show z + c ≤ z' + c; have : z ≤ z' := hz; omega) (fun z => Int.le_refl z) h.hH h.hE h.hC h.hD h.hB (by show keepD b'.Dips [] b'.Dips.length = []; rw [h.d2]; rfl) (fun d hd w cost hl => ?_) hu
  obtain ⟨x, hx, hb, hw, rfl⟩ := look_val hl
  obtain ⟨y, hy, E⟩ := h.da d x hx
  have hlen : d < b'.Days.length := by have : d < b.Days.length := hd; have := h.hD; omega
  have fin : ∀ j : Nat, j < 3 → bitB y j = true → aget b.Extra (j : Int) ≤ aget b.Extra (w : Int) → ∃ (w' : Nat) (cost' : Int), w' < 3 ∧ lookL (opn b' []).costs_ (Coal_gust.mk (d : Int) (w' : Int)) = some cost' ∧ ∀ e, E2 e → ∀ z z', z ≤ z' → z - eng (opn b []) d e - wr (x.Crosses * aget b.Extra (w : Int)) ≤ z' - eng (opn b' []) d e - cost' := by
    intro j hj hbj hle
    refine ⟨j, _, hj, val_look (ex := b'.Extra) (n := b'.Days.length) hy hbj hj hlen, fun e he z z' hz => ?_⟩
    rw [eng_day (q := opn b []) hx e, eng_day (q := opn b' []) hy e, ← h.hX]
    have h1 := eng_easy E he
    have h2 := cost_easy h.ex E hj hw hle
    omega
  rcases E.wi with hw' | hw'
  · exact fin w hw (by unfold bitB at *; rw [hw']; exact hb) (Int.le_refl _)
  · exact fin 0 (by omega) (bit_zero hw') (h.e0 w hw)
end Go.Proofs.YticodohfokgjfaaDoor

set_option linter.unusedVariables false
set_option linter.unusedSimpArgs false
namespace Go.Proofs.YticodohfokgjfaaDoor
open Go Go.Fx
structure Less (L' L : List Coal_truth) : Prop where
  ne : L' ≠ []
  sub : ∀ t ∈ L', t ∈ L
theorem Less.order {L' L : List Coal_truth} (h : Less L' L) {len : Nat} {o p : Int} (O : OrderOf len L o) (P : OrderOf len L' p) : p ≤ o := by
  have := O.n0
  rcases P.is with e | ⟨k, hk, t, ht, e⟩
  · omega
  · have := O.ge k hk t (h.sub t ht); omega
end Go.Proofs.YticodohfokgjfaaDoor

set_option linter.unusedVariables false
set_option linter.unusedSimpArgs false
namespace Go.Proofs.YticodohfokgjfaaDoor
open Go Go.Fx
theorem keep_self (l : List CoalDip) : keepD l [] l.length = l := by rw [keepD_all _ (Nat.le_refl _), List.take_length]
end Go.Proofs.YticodohfokgjfaaDoor

/- What the functions of the program compute, and that they do, printed by a program of mine. -/
import Derived.Test.YticodohfokgjfaaDoorZWD
import Derived.KernelRfl
set_option linter.unusedVariables false
set_option linter.unusedSimpArgs false
namespace Go.Proofs.YticodohfokgjfaaDoor
open Go Go.Fx Go.Proofs
set_option maxRecDepth 100000 in
theorem law_without_ok {a0 : CoalBook} {a1 : List Int} {A1 : Option Addr} {c2 : Nat} {A4 : Option Addr} {c5 : Nat} {A7 : Option Addr} {c8 : Nat} {w : World} {r : CoalBook} (H : law_without a0 a1 = some r) (h3 : (rd eCoalDay 3 A1 c2 a0.Days).ok w) (h6 : (rd eCoalDip 3 A4 c5 a0.Dips).ok w) (h9 : (rd intE 1 A7 c8 a1).ok w) : Calls Tryd.prog 48 #[AG ([I a0.Heap.Low, I a0.Heap.High] ++ (sgE eSpan a0.Eats 2 ++ (sg a0.Extra 3 ++ [SL A1 a0.Days.length c2, I a0.Collier.Low, I a0.Collier.High, I a0.Brings, SL A4 a0.Dips.length c5]))), SL A7 a1.length c8] w fun en w_ => ∃ u_, en = .returned u_ ∧ ∃ A_1 : Option Addr, ∃ c_2 : Nat, u_ = AG ([I r.Heap.Low, I r.Heap.High] ++ (sgE eSpan r.Eats 2 ++ (sg r.Extra 3 ++ [SL A1 a0.Days.length c2, I r.Collier.Low, I r.Collier.High, I r.Brings, SL A_1 r.Dips.length c_2]))) ∧ Keep0 w w_ ∧ ((gr eCoalDip 3 67 A_1 c_2 r.Dips).ok w_ ∧ New w.heap.size (gr eCoalDip 3 67 A_1 c_2 r.Dips)) ∧ True := by
  unfold law_without at H
  refine fn_of (n := 31) Tryd.func48 rfl rfl (Nat.le_of_ble_eq_true rfl) ?_
  have S : St w (fun _ => False) w [] [rd eCoalDay 3 A1 c2 a0.Days, rd eCoalDip 3 A4 c5 a0.Dips, rd intE 1 A7 c8 a1] := St.start w _ _ (List.forall_mem_cons.2 ⟨h3, (List.forall_mem_cons.2 ⟨h6, (List.forall_mem_cons.2 ⟨h9, (fun _ h_ => (List.not_mem_nil h_).elim)⟩)⟩)⟩)
  refine c_seq ?_
  refine reg ?_
  refine p_boxA rfl S fun b10 w11 S12 => ?_
  refine p_allA in29 S12 fun b13 w14 S15 => ?_
  refine wp_nil ?_
  refine c_seq ?_
  refine reg ?_
  refine p_ldA ty29 sz29 (S15.atX (i := 1) rfl) rfl rfl ?_
  refine p_allA in29 S15 fun b16 w17 S18 => ?_
  refine p_stP (pre := []) (old := [I 0, I 0, I 0, I 0, I 0, I 0] ++ (sg (List.replicate 3 0) 3 ++ [SL none 0 0, I 0, I 0, I 0, SL none 0 0])) (post := []) (vs := [I a0.Heap.Low, I a0.Heap.High] ++ (sgE eSpan a0.Eats 2 ++ (sg a0.Extra 3 ++ [SL A1 a0.Days.length c2, I a0.Collier.Low, I a0.Collier.High, I a0.Brings, SL A4 a0.Dips.length c5]))) sz29 S18 (i := 0) rfl rfl rfl rfl (rfl : _ = AG ([I a0.Heap.Low, I a0.Heap.High] ++ (sgE eSpan a0.Eats 2 ++ (sg a0.Extra 3 ++ [SL A1 a0.Days.length c2, I a0.Collier.Low, I a0.Collier.High, I a0.Brings, SL A4 a0.Dips.length c5])))) rfl rfl rfl rfl fun w19 S20 => ?_
  refine wp_nil ?_
  refine c_seq ?_
  refine reg ?_
  refine p_fld fl29_6 rfl ?_
  refine p_stP (pre := [I a0.Heap.Low, I a0.Heap.High] ++ (sgE eSpan a0.Eats 2 ++ (sg a0.Extra 3 ++ [SL A1 a0.Days.length c2, I a0.Collier.Low, I a0.Collier.High, I a0.Brings]))) (old := [SL A4 a0.Dips.length c5]) (post := []) (vs := [SL none 0 0]) sz27 S20 (i := 0) rfl rfl rfl rfl (rfl : _ = SL none 0 0) rfl rfl rfl rfl fun w21 S22 => ?_
  refine wp_nil ?_
  refine c_seq ?_
  refine c_seq ?_
  refine reg ?_
  refine p_aI rfl ?_
  refine wp_nil ?_
  refine c_block ?_
  have S23 := S22.nilRow eCoalDip 3 67
  refine c_lop (α := Int × (List CoalDip)) (β := (Option Addr) × Nat) (law_without_l2 a0 a1) (fun z_1 y_1 => [(1, SL A7 a1.length c8), (2, P b10 0), (4, P b13 0), (5, P b16 0), (6, I z_1.1)]) (fun z_1 y_1 w_ => St w (fun _ => False) w_ [gr eCoalDip 3 67 y_1.1 y_1.2 z_1.2, bl b16 ([I a0.Heap.Low, I a0.Heap.High] ++ (sgE eSpan a0.Eats 2 ++ (sg a0.Extra 3 ++ [SL A1 a0.Days.length c2, I a0.Collier.Low, I a0.Collier.High, I a0.Brings, SL y_1.1 z_1.2.length y_1.2]))) 29, bl b13 ([I 0, I 0, I 0, I 0, I 0, I 0] ++ (sg (List.replicate 3 0) 3 ++ [SL none 0 0, I 0, I 0, I 0, SL none 0 0])) 29, bl b10 ([I a0.Heap.Low, I a0.Heap.High] ++ (sgE eSpan a0.Eats 2 ++ (sg a0.Extra 3 ++ [SL A1 a0.Days.length c2, I a0.Collier.Low, I a0.Collier.High, I a0.Brings, SL A4 a0.Dips.length c5]))) 29] [rd eCoalDay 3 A1 c2 a0.Days, rd eCoalDip 3 A4 c5 a0.Dips, rd intE 1 A7 c8 a1]) (0, ([] : List CoalDip)) (none, 0) H ⟨rfl, rfl, rfl, rfl, rfl, trivial⟩ S23 ?_
  intro m24 z_1 y_1 e25 w26 H S27
  unfold law_without_l2 at H
  refine c_seq ?_
  refine c_seq ?_
  refine reg ?_
  refine p_mI rfl ?_
  refine p_fld fl29_6 rfl ?_
  refine p_ld ty27 (S27.atX (i := 3) rfl) rfl rfl ?_
  refine p_len rfl sc27 ?_
  refine p_cmp rfl rfl rfl ?_
  refine wp_nil ?_
  refine c_cond rfl (fun c28 => ?_) (fun c28 => ?_)
  · replace H := condT c28 H
    refine c_skip ?_
    refine c_seq ?_
    refine c_block ?_
    refine c_seq ?_
    refine reg ?_
    refine p_mS rfl ?_
    refine p_mI rfl ?_
    obtain ⟨r29, h30, H⟩ := bindS H
    refine p_cv (B_At_ok h30 (S27.atP (i := 2) rfl)) fu83 rfl S27 fun w31 S32 => ?_
    refine p_cmp rfl rfl rfl ?_
    refine wp_nil ?_
    refine c_cond rfl (fun c33 => ?_) (fun c33 => ?_)
    · replace H := condT c33 H
      obtain ⟨r34, h35, H⟩ := bindS H
      refine reg_c mixed 8 [7] (by kernel_rfl) ?_
      refine kS rfl (fun _ k_ => p_fld fl29_6 rfl dn) ?_
      refine kS rfl (fun _ k_ => p_ld ty27 (Asr.stays (S32.atX (i := 1) rfl) k_) rfl rfl dn) ?_
      refine kS rfl (fun _ k_ => p_fld fl29_6 rfl dn) ?_
      refine kS rfl (fun _ k_ => p_ld ty27 (Asr.stays (S32.atX (i := 3) rfl) k_) rfl rfl dn) ?_
      refine kS rfl (fun _ k_ => p_mI rfl dn) ?_
      refine kS rfl (fun _ k_ => p_ixE sc27 h35 (Asr.stays (S32.atP (i := 1) rfl) k_).1 rfl rfl rfl dn) ?_
      refine kS rfl (fun _ k_ => p_ldEA ty67 sz67 rfl h35 (Asr.stays (S32.atP (i := 1) rfl) k_).1 rfl dn) ?_
      refine kC rfl ?_
      intro w36 k37; have S38 := S32.call k37
      have S44 := S38.base
      refine p_bsl (enc := eCoalDip) (l := ([r34] : List CoalDip)) (fun x => AG (eCoalDip x)) (fun _ => rfl) sc27 in67 eCoalDip_len rfl (by decide) (by decide) zr67_1 S44 rfl fun A39 c40 w41 S42 => ?_
      refine cN S42.keep fun w45 k46 => ?_
      have S47 := (S38.fromBase S42).call k46
      obtain ⟨h52, H⟩ := needS H
      refine p_app (enc := eCoalDip) sc27 in67 rfl eCoalDip_len eCoalDip_one (by decide) S47 (k := 1) rfl (gr_sl eCoalDip_len (S47.atX (i := 0) rfl)) h52 (by simp) rfl rfl fun A50 c51 w48 S49 => ?_
      refine p_fld fl29_6 rfl ?_
      refine p_stP (pre := [I a0.Heap.Low, I a0.Heap.High] ++ (sgE eSpan a0.Eats 2 ++ (sg a0.Extra 3 ++ [SL A1 a0.Days.length c2, I a0.Collier.Low, I a0.Collier.High, I a0.Brings]))) (old := [SL y_1.1 z_1.2.length y_1.2]) (post := []) (vs := [SL A50 (z_1.2 ++ ([r34] : List CoalDip)).length c51]) sz27 S49 (i := 2) rfl rfl rfl rfl (rfl : _ = SL A50 (z_1.2 ++ ([r34] : List CoalDip)).length c51) rfl rfl rfl rfl fun w53 S54 => ?_
      refine wp_nil ?_
      refine reg ?_
      refine p_mI rfl ?_
      refine p_add rfl rfl ?_
      refine p_aI rfl ?_
      refine wp_nil ?_
      have S55 := S54.pk [1, 2, 3, 4] (by decide) [0, 1, 2] rfl rfl
      exact ⟨(wr (z_1.1 + 1), z_1.2 ++ ([r34] : List CoalDip)), (A50, c51), _, rfl, ⟨rfl, rfl, rfl, rfl, rfl, trivial⟩, H, S55⟩
    · replace H := condF c33 H
      refine c_skip ?_
      refine reg ?_
      refine p_mI rfl ?_
      refine p_add rfl rfl ?_
      refine p_aI rfl ?_
      refine wp_nil ?_
      exact ⟨(wr (z_1.1 + 1), z_1.2), (y_1.1, y_1.2), _, rfl, ⟨rfl, rfl, rfl, rfl, rfl, trivial⟩, H, S32⟩
  · replace H := condF c28 H
    refine c_exit ?_
    refine c_seq ?_
    refine reg ?_
    refine p_ldA ty29 sz29 (S27.atX (i := 1) rfl) rfl rfl ?_
    refine p_stP (pre := []) (old := [I 0, I 0, I 0, I 0, I 0, I 0] ++ (sg (List.replicate 3 0) 3 ++ [SL none 0 0, I 0, I 0, I 0, SL none 0 0])) (post := []) (vs := [I a0.Heap.Low, I a0.Heap.High] ++ (sgE eSpan a0.Eats 2 ++ (sg a0.Extra 3 ++ [SL A1 a0.Days.length c2, I a0.Collier.Low, I a0.Collier.High, I a0.Brings, SL y_1.1 z_1.2.length y_1.2]))) sz29 S27 (i := 2) rfl rfl rfl rfl (rfl : _ = AG ([I a0.Heap.Low, I a0.Heap.High] ++ (sgE eSpan a0.Eats 2 ++ (sg a0.Extra 3 ++ [SL A1 a0.Days.length c2, I a0.Collier.Low, I a0.Collier.High, I a0.Brings, SL y_1.1 z_1.2.length y_1.2])))) rfl rfl rfl rfl fun w56 S57 => ?_
    refine wp_nil ?_
    obtain rfl := Option.some.inj H
    refine c_ret ?_; show bodyPostM (Fr none) 0 Tryd.prog Tryd.f48 _ .ret _ _
    refine ret_of (res1 rfl (rvA rfl ty29 sz29 (S57.atX (i := 2) rfl) rfl)) ?_
    exact ⟨_, rfl, y_1.1, y_1.2, rfl, S57.keep, ⟨S57.atX (i := 0) rfl, S57.newX (i := 0) rfl⟩, trivial⟩

end Go.Proofs.YticodohfokgjfaaDoor

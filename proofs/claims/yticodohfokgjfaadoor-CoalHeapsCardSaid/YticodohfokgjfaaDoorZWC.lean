/- What the functions of the program compute, and that they do, printed by a program of mine. -/
import Derived.Test.YticodohfokgjfaaDoorZWB
import Derived.KernelRfl
set_option linter.unusedVariables false
set_option linter.unusedSimpArgs false
namespace Go.Proofs.YticodohfokgjfaaDoor
open Go Go.Fx Go.Proofs
set_option maxRecDepth 100000 in
theorem ref_Check_ok {a0 : CoalBook} {A1 : Option Addr} {c2 : Nat} {A4 : Option Addr} {c5 : Nat} {w : World} {r : Int} (H : ref_Check a0 = some r) (h3 : (rd eCoalDay 3 A1 c2 a0.Days).ok w) (h6 : (rd eCoalDip 3 A4 c5 a0.Dips).ok w) : Calls Tryd.prog 57 #[AG ([I a0.Heap.Low, I a0.Heap.High] ++ (sgE eSpan a0.Eats 2 ++ (sg a0.Extra 3 ++ [SL A1 a0.Days.length c2, I a0.Collier.Low, I a0.Collier.High, I a0.Brings, SL A4 a0.Dips.length c5])))] w (RetV w (I r)) := by
  unfold ref_Check at H
  refine fn_of (n := 129) Tryd.func57 rfl rfl (Nat.le_of_ble_eq_true rfl) ?_
  have S : St w (fun _ => False) w [] [rd eCoalDay 3 A1 c2 a0.Days, rd eCoalDip 3 A4 c5 a0.Dips] := St.start w _ _ (List.forall_mem_cons.2 ⟨h3, (List.forall_mem_cons.2 ⟨h6, (fun _ h_ => (List.not_mem_nil h_).elim)⟩)⟩)
  refine c_seq ?_
  refine reg ?_
  refine p_boxA rfl S fun b7 w8 S9 => ?_
  refine p_aI rfl ?_
  refine wp_nil ?_
  refine c_join (α := Bool) (β := Unit) (fun z_1 y_1 => [(1, P b7 0), (3, B z_1)]) (fun z_1 y_1 w_ => ref_Check_j17 a0 z_1 = some r ∧ St w (fun _ => False) w_ [bl b7 ([I a0.Heap.Low, I a0.Heap.High] ++ (sgE eSpan a0.Eats 2 ++ (sg a0.Extra 3 ++ [SL A1 a0.Days.length c2, I a0.Collier.Low, I a0.Collier.High, I a0.Brings, SL A4 a0.Dips.length c5]))) 29] [rd eCoalDay 3 A1 c2 a0.Days, rd eCoalDip 3 A4 c5 a0.Dips]) ?_ ?_
  · refine reg ?_
    refine p_fld fl29_0 rfl ?_
    refine p_ldP (vs := [I a0.Heap.Low, I a0.Heap.High]) ty23 sz23 (S9.atX (i := 0) rfl) rfl rfl rfl ?_
    obtain ⟨r10, h11, H⟩ := bindS H
    refine p_cv (B_Valid_ok h11) fu68 rfl S9 fun w12 S13 => ?_
    refine p_mB rfl ?_
    rcases Bool.eq_false_or_eq_true (r10) with c14 | c14
    · replace H := condT c14 H
      refine eB c14 ?_
      refine gT rfl rfl (p_fld fl29_0 rfl ?_)
      refine gT rfl rfl (p_fld fl23_1 rfl ?_)
      refine gT rfl rfl (p_ld ty3 (S13.atX (i := 0) rfl) rfl rfl ?_)
      refine gT rfl rfl (p_fld fl29_0 rfl ?_)
      refine gT rfl rfl (p_fld fl23_0 rfl ?_)
      refine gT rfl rfl (p_ld ty3 (S13.atX (i := 0) rfl) rfl rfl ?_)
      refine gT rfl rfl (p_sub rfl rfl ?_)
      refine gT rfl rfl (p_cmp rfl rfl rfl ?_)
      refine p_pkT rfl (rfl : _ = B (decide ((wr (a0.Heap.High - a0.Heap.Low)) ≤ 4))) ?_
      refine p_mB rfl ?_
      rcases Bool.eq_false_or_eq_true (decide ((wr (a0.Heap.High - a0.Heap.Low)) ≤ 4)) with c15 | c15
      · replace H := condT c15 H
        refine eB c15 ?_
        refine gT rfl rfl (p_fld fl29_3 rfl ?_)
        refine gT rfl rfl (p_ld ty26 (S13.atX (i := 0) rfl) rfl rfl ?_)
        refine gT rfl rfl (p_len rfl sc26 ?_)
        obtain ⟨r16, h17, H⟩ := bindS H
        refine gT rfl rfl (p_cv (B_Inside_ok h17) fu34 rfl S13 fun w18 S19 => ?_)
        refine p_pkT rfl (rfl : _ = B r16) ?_
        refine p_mB rfl ?_
        rcases Bool.eq_false_or_eq_true (r16) with c20 | c20
        · replace H := condT c20 H
          refine eB c20 ?_
          refine gT rfl rfl (p_fld fl29_4 rfl ?_)
          refine gT rfl rfl (p_ldP (vs := [I a0.Collier.Low, I a0.Collier.High]) ty23 sz23 (S19.atX (i := 0) rfl) rfl rfl rfl ?_)
          refine gT rfl rfl (p_fld fl29_3 rfl ?_)
          refine gT rfl rfl (p_ld ty26 (S19.atX (i := 0) rfl) rfl rfl ?_)
          refine gT rfl rfl (p_len rfl sc26 ?_)
          obtain ⟨r21, h22, H⟩ := bindS H
          refine gT rfl rfl (p_cv (B_Valid_ok h22) fu68 rfl S19 fun w23 S24 => ?_)
          refine p_pkT rfl (rfl : _ = B r21) ?_
          refine p_mB rfl ?_
          rcases Bool.eq_false_or_eq_true (r21) with c25 | c25
          · replace H := condT c25 H
            refine eB c25 ?_
            refine gT rfl rfl (p_fld fl29_4 rfl ?_)
            refine gT rfl rfl (p_fld fl23_1 rfl ?_)
            refine gT rfl rfl (p_ld ty3 (S24.atX (i := 0) rfl) rfl rfl ?_)
            refine gT rfl rfl (p_fld fl29_4 rfl ?_)
            refine gT rfl rfl (p_fld fl23_0 rfl ?_)
            refine gT rfl rfl (p_ld ty3 (S24.atX (i := 0) rfl) rfl rfl ?_)
            refine gT rfl rfl (p_sub rfl rfl ?_)
            refine gT rfl rfl (p_cmp rfl rfl rfl ?_)
            refine p_pkT rfl (rfl : _ = B (decide ((wr (a0.Collier.High - a0.Collier.Low)) ≤ 3))) ?_
            refine p_mB rfl ?_
            rcases Bool.eq_false_or_eq_true (decide ((wr (a0.Collier.High - a0.Collier.Low)) ≤ 3)) with c26 | c26
            · replace H := condT c26 H
              refine eB c26 ?_
              refine gT rfl rfl (p_fld fl29_5 rfl ?_)
              refine gT rfl rfl (p_ld ty3 (S24.atX (i := 0) rfl) rfl rfl ?_)
              obtain ⟨r27, h28, H⟩ := bindS H
              refine gT rfl rfl (p_cv (B_Inside_ok h28) fu34 rfl S24 fun w29 S30 => ?_)
              refine p_pkT rfl (rfl : _ = B r27) ?_
              refine p_mB rfl ?_
              rcases Bool.eq_false_or_eq_true (r27) with c31 | c31
              · replace H := condT c31 H
                refine eB c31 ?_
                refine gT rfl rfl (p_fld fl29_6 rfl ?_)
                refine gT rfl rfl (p_ld ty27 (S30.atX (i := 0) rfl) rfl rfl ?_)
                refine gT rfl rfl (p_len rfl sc27 ?_)
                refine gT rfl rfl (p_cmp rfl rfl rfl ?_)
                refine p_pkT rfl (rfl : _ = B (decide ((a0.Dips.length : Int) ≤ 4))) ?_
                refine p_aB rfl ?_
                refine wp_nil ?_
                exact ⟨decide ((a0.Dips.length : Int) ≤ 4), (), _, rfl, ⟨rfl, rfl, trivial⟩, H, S30⟩
              · replace H := condF c31 H
                refine eB c31 ?_
                refine gF rfl rfl ?_
                refine gF rfl rfl ?_
                refine gF rfl rfl ?_
                refine gF rfl rfl ?_
                refine p_pkF rfl (rfl : _ = B false) ?_
                refine p_aB rfl ?_
                refine wp_nil ?_
                exact ⟨false, (), _, rfl, ⟨rfl, rfl, trivial⟩, H, S30⟩
            · replace H := condF c26 H
              refine eB c26 ?_
              refine gF rfl rfl ?_
              refine gF rfl rfl ?_
              refine gF rfl rfl ?_
              refine p_pkF rfl (rfl : _ = B false) ?_
              refine p_mB rfl ?_
              refine gF rfl rfl ?_
              refine gF rfl rfl ?_
              refine gF rfl rfl ?_
              refine gF rfl rfl ?_
              refine p_pkF rfl (rfl : _ = B false) ?_
              refine p_aB rfl ?_
              refine wp_nil ?_
              exact ⟨false, (), _, rfl, ⟨rfl, rfl, trivial⟩, H, S24⟩
          · replace H := condF c25 H
            refine eB c25 ?_
            refine gF rfl rfl ?_
            refine gF rfl rfl ?_
            refine gF rfl rfl ?_
            refine gF rfl rfl ?_
            refine gF rfl rfl ?_
            refine gF rfl rfl ?_
            refine gF rfl rfl ?_
            refine gF rfl rfl ?_
            refine p_pkF rfl (rfl : _ = B false) ?_
            refine p_mB rfl ?_
            refine gF rfl rfl ?_
            refine gF rfl rfl ?_
            refine gF rfl rfl ?_
            refine p_pkF rfl (rfl : _ = B false) ?_
            refine p_mB rfl ?_
            refine gF rfl rfl ?_
            refine gF rfl rfl ?_
            refine gF rfl rfl ?_
            refine gF rfl rfl ?_
            refine p_pkF rfl (rfl : _ = B false) ?_
            refine p_aB rfl ?_
            refine wp_nil ?_
            exact ⟨false, (), _, rfl, ⟨rfl, rfl, trivial⟩, H, S24⟩
        · replace H := condF c20 H
          refine eB c20 ?_
          refine gF rfl rfl ?_
          refine gF rfl rfl ?_
          refine gF rfl rfl ?_
          refine gF rfl rfl ?_
          refine gF rfl rfl ?_
          refine gF rfl rfl ?_
          refine p_pkF rfl (rfl : _ = B false) ?_
          refine p_mB rfl ?_
          refine gF rfl rfl ?_
          refine gF rfl rfl ?_
          refine gF rfl rfl ?_
          refine gF rfl rfl ?_
          refine gF rfl rfl ?_
          refine gF rfl rfl ?_
          refine gF rfl rfl ?_
          refine gF rfl rfl ?_
          refine p_pkF rfl (rfl : _ = B false) ?_
          refine p_mB rfl ?_
          refine gF rfl rfl ?_
          refine gF rfl rfl ?_
          refine gF rfl rfl ?_
          refine p_pkF rfl (rfl : _ = B false) ?_
          refine p_mB rfl ?_
          refine gF rfl rfl ?_
          refine gF rfl rfl ?_
          refine gF rfl rfl ?_
          refine gF rfl rfl ?_
          refine p_pkF rfl (rfl : _ = B false) ?_
          refine p_aB rfl ?_
          refine wp_nil ?_
          exact ⟨false, (), _, rfl, ⟨rfl, rfl, trivial⟩, H, S19⟩
      · replace H := condF c15 H
        refine eB c15 ?_
        refine gF rfl rfl ?_
        refine gF rfl rfl ?_
        refine gF rfl rfl ?_
        refine gF rfl rfl ?_
        refine p_pkF rfl (rfl : _ = B false) ?_
        refine p_mB rfl ?_
        refine gF rfl rfl ?_
        refine gF rfl rfl ?_
        refine gF rfl rfl ?_
        refine gF rfl rfl ?_
        refine gF rfl rfl ?_
        refine gF rfl rfl ?_
        refine p_pkF rfl (rfl : _ = B false) ?_
        refine p_mB rfl ?_
        refine gF rfl rfl ?_
        refine gF rfl rfl ?_
        refine gF rfl rfl ?_
        refine gF rfl rfl ?_
        refine gF rfl rfl ?_
        refine gF rfl rfl ?_
        refine gF rfl rfl ?_
        refine gF rfl rfl ?_
        refine p_pkF rfl (rfl : _ = B false) ?_
        refine p_mB rfl ?_
        refine gF rfl rfl ?_
        refine gF rfl rfl ?_
        refine gF rfl rfl ?_
        refine p_pkF rfl (rfl : _ = B false) ?_
        refine p_mB rfl ?_
        refine gF rfl rfl ?_
        refine gF rfl rfl ?_
        refine gF rfl rfl ?_
        refine gF rfl rfl ?_
        refine p_pkF rfl (rfl : _ = B false) ?_
        refine p_aB rfl ?_
        refine wp_nil ?_
        exact ⟨false, (), _, rfl, ⟨rfl, rfl, trivial⟩, H, S13⟩
    · replace H := condF c14 H
      refine eB c14 ?_
      refine gF rfl rfl ?_
      refine gF rfl rfl ?_
      refine gF rfl rfl ?_
      refine gF rfl rfl ?_
      refine gF rfl rfl ?_
      refine gF rfl rfl ?_
      refine gF rfl rfl ?_
      refine gF rfl rfl ?_
      refine p_pkF rfl (rfl : _ = B false) ?_
      refine p_mB rfl ?_
      refine gF rfl rfl ?_
      refine gF rfl rfl ?_
      refine gF rfl rfl ?_
      refine gF rfl rfl ?_
      refine p_pkF rfl (rfl : _ = B false) ?_
      refine p_mB rfl ?_
      refine gF rfl rfl ?_
      refine gF rfl rfl ?_
      refine gF rfl rfl ?_
      refine gF rfl rfl ?_
      refine gF rfl rfl ?_
      refine gF rfl rfl ?_
      refine p_pkF rfl (rfl : _ = B false) ?_
      refine p_mB rfl ?_
      refine gF rfl rfl ?_
      refine gF rfl rfl ?_
      refine gF rfl rfl ?_
      refine gF rfl rfl ?_
      refine gF rfl rfl ?_
      refine gF rfl rfl ?_
      refine gF rfl rfl ?_
      refine gF rfl rfl ?_
      refine p_pkF rfl (rfl : _ = B false) ?_
      refine p_mB rfl ?_
      refine gF rfl rfl ?_
      refine gF rfl rfl ?_
      refine gF rfl rfl ?_
      refine p_pkF rfl (rfl : _ = B false) ?_
      refine p_mB rfl ?_
      refine gF rfl rfl ?_
      refine gF rfl rfl ?_
      refine gF rfl rfl ?_
      refine gF rfl rfl ?_
      refine p_pkF rfl (rfl : _ = B false) ?_
      refine p_aB rfl ?_
      refine wp_nil ?_
      exact ⟨false, (), _, rfl, ⟨rfl, rfl, trivial⟩, H, S13⟩
  · intro z_1 y_1 e10 w11 S12; obtain ⟨H, S12⟩ := S12
    unfold ref_Check_j17 at H
    refine c_join (α := Bool) (β := Unit) (fun z_3 y_3 => [(1, P b7 0), (3, B z_3)]) (fun z_3 y_3 w_ => ref_Check_j15 a0 z_3 = some r ∧ St w (fun _ => False) w_ [bl b7 ([I a0.Heap.Low, I a0.Heap.High] ++ (sgE eSpan a0.Eats 2 ++ (sg a0.Extra 3 ++ [SL A1 a0.Days.length c2, I a0.Collier.Low, I a0.Collier.High, I a0.Brings, SL A4 a0.Dips.length c5]))) 29] [rd eCoalDay 3 A1 c2 a0.Days, rd eCoalDip 3 A4 c5 a0.Dips]) ?_ ?_
    · refine c_seq ?_
      refine reg ?_
      refine p_aI rfl ?_
      refine wp_nil ?_
      refine c_block ?_
      refine c_lop (α := Bool × Int) (β := Unit) (ref_Check_l16 a0) (fun z_2 y_2 => [(1, P b7 0), (3, B z_2.1), (4, I z_2.2)]) (fun z_2 y_2 w_ => St w (fun _ => False) w_ [bl b7 ([I a0.Heap.Low, I a0.Heap.High] ++ (sgE eSpan a0.Eats 2 ++ (sg a0.Extra 3 ++ [SL A1 a0.Days.length c2, I a0.Collier.Low, I a0.Collier.High, I a0.Brings, SL A4 a0.Dips.length c5]))) 29] [rd eCoalDay 3 A1 c2 a0.Days, rd eCoalDip 3 A4 c5 a0.Dips]) (z_1, 0) () H ⟨rfl, rfl, rfl, trivial⟩ S12 ?_
      intro m13 z_2 y_2 e14 w15 H S16
      unfold ref_Check_l16 at H
      refine c_seq ?_
      refine c_seq ?_
      refine reg ?_
      refine p_mB rfl ?_
      refine p_mB rfl ?_
      rcases Bool.eq_false_or_eq_true (z_2.1) with c17 | c17
      · replace H := condT c17 H
        refine eB c17 ?_
        refine gT rfl rfl (p_mI rfl ?_)
        refine gT rfl rfl (p_cmp rfl rfl rfl ?_)
        refine p_pkT rfl (rfl : _ = B (decide (z_2.2 < 2))) ?_
        refine wp_nil ?_
        refine c_cond rfl (fun c18 => ?_) (fun c18 => ?_)
        · replace H := condT c18 H
          refine c_skip ?_
          refine c_seq ?_
          refine c_block ?_
          obtain ⟨h19, H⟩ := needS H
          obtain ⟨r20, h21, H⟩ := bindS H
          rcases Bool.eq_false_or_eq_true (r20) with c22 | c22
          · replace H := condT c22 H
            obtain ⟨h23, H⟩ := needS H
            obtain ⟨h24, H⟩ := needS H
            refine reg_q mixed 20 (by kernel_rfl) ?_
            refine dS (fun _ k_ => p_mI rfl dn) ?_
            refine dS (fun _ k_ => p_fld fl29_1 rfl dn) ?_
            refine dS (fun _ k_ => p_ixD ar24 h19 rfl rfl dn) ?_
            refine dS (fun _ k_ => p_ldDA (pre := [I a0.Heap.Low, I a0.Heap.High]) (post := sg a0.Extra 3 ++ [SL A1 a0.Days.length c2, I a0.Collier.Low, I a0.Collier.High, I a0.Brings, SL A4 a0.Dips.length c5]) ty23 sz23 (Asr.stays (S16.atX (i := 0) rfl) k_) rfl eSpan_len h19 rfl rfl dn) ?_
            refine dS (fun _ k_ => p_cvD (B_Valid_ok h21) fu68 rfl) ?_
            refine dS (fun _ k_ => p_mB rfl dn) ?_
            refine dB c22 ?_
            refine dS (fun _ k_ => gT rfl rfl (p_mI rfl dn)) ?_
            refine dS (fun _ k_ => gT rfl rfl (p_fld fl29_1 rfl dn)) ?_
            refine dS (fun _ k_ => gT rfl rfl (p_ixD ar24 h23 rfl rfl dn)) ?_
            refine dS (fun _ k_ => gT rfl rfl (p_fld fl23_1 rfl dn)) ?_
            refine dS (fun _ k_ => gT rfl rfl (p_ldDE (pre := [I a0.Heap.Low, I a0.Heap.High]) (post := sg a0.Extra 3 ++ [SL A1 a0.Days.length c2, I a0.Collier.Low, I a0.Collier.High, I a0.Brings, SL A4 a0.Dips.length c5]) (off := 1) ty3 (Asr.stays (S16.atX (i := 0) rfl) k_) rfl eSpan_len h23 rfl rfl rfl dn)) ?_
            refine dS (fun _ k_ => gT rfl rfl (p_mI rfl dn)) ?_
            refine dS (fun _ k_ => gT rfl rfl (p_fld fl29_1 rfl dn)) ?_
            refine dS (fun _ k_ => gT rfl rfl (p_ixD ar24 h24 rfl rfl dn)) ?_
            refine dS (fun _ k_ => gT rfl rfl (p_fld fl23_0 rfl dn)) ?_
            refine dS (fun _ k_ => gT rfl rfl (p_ldDE (pre := [I a0.Heap.Low, I a0.Heap.High]) (post := sg a0.Extra 3 ++ [SL A1 a0.Days.length c2, I a0.Collier.Low, I a0.Collier.High, I a0.Brings, SL A4 a0.Dips.length c5]) (off := 0) ty3 (Asr.stays (S16.atX (i := 0) rfl) k_) rfl eSpan_len h24 rfl rfl rfl dn)) ?_
            refine dS (fun _ k_ => gT rfl rfl (p_sub rfl rfl dn)) ?_
            refine dS (fun _ k_ => gT rfl rfl (p_cmp rfl rfl rfl dn)) ?_
            refine dS (fun _ k_ => p_pkT rfl (rfl : _ = B (decide ((wr (((agetS a0.Eats z_2.2).High) - ((agetS a0.Eats z_2.2).Low))) ≤ 2))) dn) ?_
            refine dS (fun _ k_ => p_aB rfl dn) ?_
            intro w25 k26; have S27 := S16.call k26
            refine wp_nil ?_
            refine reg ?_
            refine p_mI rfl ?_
            refine p_add rfl rfl ?_
            refine p_aI rfl ?_
            refine wp_nil ?_
            exact ⟨(decide ((wr (((agetS a0.Eats z_2.2).High) - ((agetS a0.Eats z_2.2).Low))) ≤ 2), wr (z_2.2 + 1)), (), _, rfl, ⟨rfl, rfl, rfl, trivial⟩, H, S27⟩
          · replace H := condF c22 H
            refine reg_q mixed 20 (by kernel_rfl) ?_
            refine dS (fun _ k_ => p_mI rfl dn) ?_
            refine dS (fun _ k_ => p_fld fl29_1 rfl dn) ?_
            refine dS (fun _ k_ => p_ixD ar24 h19 rfl rfl dn) ?_
            refine dS (fun _ k_ => p_ldDA (pre := [I a0.Heap.Low, I a0.Heap.High]) (post := sg a0.Extra 3 ++ [SL A1 a0.Days.length c2, I a0.Collier.Low, I a0.Collier.High, I a0.Brings, SL A4 a0.Dips.length c5]) ty23 sz23 (Asr.stays (S16.atX (i := 0) rfl) k_) rfl eSpan_len h19 rfl rfl dn) ?_
            refine dS (fun _ k_ => p_cvD (B_Valid_ok h21) fu68 rfl) ?_
            refine dS (fun _ k_ => p_mB rfl dn) ?_
            refine dB c22 ?_
            refine dS (fun _ k_ => gF rfl rfl dnU) ?_
            refine dS (fun _ k_ => gF rfl rfl dnU) ?_
            refine dS (fun _ k_ => gF rfl rfl dnU) ?_
            refine dS (fun _ k_ => gF rfl rfl dnU) ?_
            refine dS (fun _ k_ => gF rfl rfl dnU) ?_
            refine dS (fun _ k_ => gF rfl rfl dnU) ?_
            refine dS (fun _ k_ => gF rfl rfl dnU) ?_
            refine dS (fun _ k_ => gF rfl rfl dnU) ?_
            refine dS (fun _ k_ => gF rfl rfl dnU) ?_
            refine dS (fun _ k_ => gF rfl rfl dnU) ?_
            refine dS (fun _ k_ => gF rfl rfl dnU) ?_
            refine dS (fun _ k_ => gF rfl rfl dnU) ?_
            refine dS (fun _ k_ => p_pkF rfl (rfl : _ = B false) dn) ?_
            refine dS (fun _ k_ => p_aB rfl dn) ?_
            intro w28 k29; have S30 := S16.call k29
            refine wp_nil ?_
            refine reg ?_
            refine p_mI rfl ?_
            refine p_add rfl rfl ?_
            refine p_aI rfl ?_
            refine wp_nil ?_
            exact ⟨(false, wr (z_2.2 + 1)), (), _, rfl, ⟨rfl, rfl, rfl, trivial⟩, H, S30⟩
        · replace H := condF c18 H
          refine c_exit ?_
          exact ⟨z_2.1, (), _, rfl, ⟨rfl, rfl, trivial⟩, H, S16⟩
      · replace H := condF c17 H
        refine eB c17 ?_
        refine gF rfl rfl ?_
        refine gF rfl rfl ?_
        refine p_pkF rfl (rfl : _ = B false) ?_
        refine wp_nil ?_
        refine c_false rfl ?_
        refine c_exit ?_
        exact ⟨z_2.1, (), _, rfl, ⟨rfl, rfl, trivial⟩, H, S16⟩
    · intro z_3 y_3 e13 w14 S15; obtain ⟨H, S15⟩ := S15
      unfold ref_Check_j15 at H
      refine c_join (α := Bool) (β := Unit) (fun z_5 y_5 => [(1, P b7 0), (3, B z_5)]) (fun z_5 y_5 w_ => ref_Check_j13 a0 z_5 = some r ∧ St w (fun _ => False) w_ [bl b7 ([I a0.Heap.Low, I a0.Heap.High] ++ (sgE eSpan a0.Eats 2 ++ (sg a0.Extra 3 ++ [SL A1 a0.Days.length c2, I a0.Collier.Low, I a0.Collier.High, I a0.Brings, SL A4 a0.Dips.length c5]))) 29] [rd eCoalDay 3 A1 c2 a0.Days, rd eCoalDip 3 A4 c5 a0.Dips]) ?_ ?_
      · refine c_seq ?_
        refine reg ?_
        refine p_aI rfl ?_
        refine wp_nil ?_
        refine c_block ?_
        refine c_lop (α := Bool × Int) (β := Unit) (ref_Check_l14 a0) (fun z_4 y_4 => [(1, P b7 0), (3, B z_4.1), (5, I z_4.2)]) (fun z_4 y_4 w_ => St w (fun _ => False) w_ [bl b7 ([I a0.Heap.Low, I a0.Heap.High] ++ (sgE eSpan a0.Eats 2 ++ (sg a0.Extra 3 ++ [SL A1 a0.Days.length c2, I a0.Collier.Low, I a0.Collier.High, I a0.Brings, SL A4 a0.Dips.length c5]))) 29] [rd eCoalDay 3 A1 c2 a0.Days, rd eCoalDip 3 A4 c5 a0.Dips]) (z_3, 0) () H ⟨rfl, rfl, rfl, trivial⟩ S15 ?_
        intro m16 z_4 y_4 e17 w18 H S19
        unfold ref_Check_l14 at H
        refine c_seq ?_
        refine c_seq ?_
        refine reg ?_
        refine p_mB rfl ?_
        refine p_mB rfl ?_
        rcases Bool.eq_false_or_eq_true (z_4.1) with c20 | c20
        · replace H := condT c20 H
          refine eB c20 ?_
          refine gT rfl rfl (p_mI rfl ?_)
          refine gT rfl rfl (p_cmp rfl rfl rfl ?_)
          refine p_pkT rfl (rfl : _ = B (decide (z_4.2 < 3))) ?_
          refine wp_nil ?_
          refine c_cond rfl (fun c21 => ?_) (fun c21 => ?_)
          · replace H := condT c21 H
            refine c_skip ?_
            refine c_seq ?_
            refine c_block ?_
            refine reg ?_
            refine p_mI rfl ?_
            refine p_fld fl29_2 rfl ?_
            obtain ⟨h22, H⟩ := needS H
            refine p_ixD ar25 h22 rfl rfl ?_
            refine p_ldD (pre := [I a0.Heap.Low, I a0.Heap.High] ++ sgE eSpan a0.Eats 2) (post := [SL A1 a0.Days.length c2, I a0.Collier.Low, I a0.Collier.High, I a0.Brings, SL A4 a0.Dips.length c5]) ty3 (S19.atX (i := 0) rfl) rfl h22 rfl rfl ?_
            obtain ⟨r23, h24, H⟩ := bindS H
            refine p_cv (B_Inside_ok h24) fu34 rfl S19 fun w25 S26 => ?_
            refine p_aB rfl ?_
            refine wp_nil ?_
            refine reg ?_
            refine p_mI rfl ?_
            refine p_add rfl rfl ?_
            refine p_aI rfl ?_
            refine wp_nil ?_
            exact ⟨(r23, wr (z_4.2 + 1)), (), _, rfl, ⟨rfl, rfl, rfl, trivial⟩, H, S26⟩
          · replace H := condF c21 H
            refine c_exit ?_
            exact ⟨z_4.1, (), _, rfl, ⟨rfl, rfl, trivial⟩, H, S19⟩
        · replace H := condF c20 H
          refine eB c20 ?_
          refine gF rfl rfl ?_
          refine gF rfl rfl ?_
          refine p_pkF rfl (rfl : _ = B false) ?_
          refine wp_nil ?_
          refine c_false rfl ?_
          refine c_exit ?_
          exact ⟨z_4.1, (), _, rfl, ⟨rfl, rfl, trivial⟩, H, S19⟩
      · intro z_5 y_5 e16 w17 S18; obtain ⟨H, S18⟩ := S18
        unfold ref_Check_j13 at H
        refine c_join (α := Bool) (β := Unit) (fun z_7 y_7 => [(1, P b7 0), (3, B z_7)]) (fun z_7 y_7 w_ => ref_Check_j11 a0 z_7 = some r ∧ St w (fun _ => False) w_ [bl b7 ([I a0.Heap.Low, I a0.Heap.High] ++ (sgE eSpan a0.Eats 2 ++ (sg a0.Extra 3 ++ [SL A1 a0.Days.length c2, I a0.Collier.Low, I a0.Collier.High, I a0.Brings, SL A4 a0.Dips.length c5]))) 29] [rd eCoalDay 3 A1 c2 a0.Days, rd eCoalDip 3 A4 c5 a0.Dips]) ?_ ?_
        · refine c_seq ?_
          refine reg ?_
          refine p_aI rfl ?_
          refine wp_nil ?_
          refine c_block ?_
          refine c_lop (α := Bool × Int) (β := Unit) (ref_Check_l12 a0) (fun z_6 y_6 => [(1, P b7 0), (3, B z_6.1), (6, I z_6.2)]) (fun z_6 y_6 w_ => St w (fun _ => False) w_ [bl b7 ([I a0.Heap.Low, I a0.Heap.High] ++ (sgE eSpan a0.Eats 2 ++ (sg a0.Extra 3 ++ [SL A1 a0.Days.length c2, I a0.Collier.Low, I a0.Collier.High, I a0.Brings, SL A4 a0.Dips.length c5]))) 29] [rd eCoalDay 3 A1 c2 a0.Days, rd eCoalDip 3 A4 c5 a0.Dips]) (z_5, 0) () H ⟨rfl, rfl, rfl, trivial⟩ S18 ?_
          intro m19 z_6 y_6 e20 w21 H S22
          unfold ref_Check_l12 at H
          refine c_seq ?_
          refine c_seq ?_
          refine reg ?_
          refine p_mB rfl ?_
          refine p_mB rfl ?_
          rcases Bool.eq_false_or_eq_true (z_6.1) with c23 | c23
          · replace H := condT c23 H
            refine eB c23 ?_
            refine gT rfl rfl (p_mI rfl ?_)
            refine gT rfl rfl (p_fld fl29_3 rfl ?_)
            refine gT rfl rfl (p_ld ty26 (S22.atX (i := 0) rfl) rfl rfl ?_)
            refine gT rfl rfl (p_len rfl sc26 ?_)
            refine gT rfl rfl (p_cmp rfl rfl rfl ?_)
            refine p_pkT rfl (rfl : _ = B (decide (z_6.2 < (a0.Days.length : Int)))) ?_
            refine wp_nil ?_
            refine c_cond rfl (fun c24 => ?_) (fun c24 => ?_)
            · replace H := condT c24 H
              refine c_skip ?_
              refine c_seq ?_
              refine c_block ?_
              refine reg ?_
              refine p_fld fl29_3 rfl ?_
              refine p_ld ty26 (S22.atX (i := 0) rfl) rfl rfl ?_
              refine p_mI rfl ?_
              obtain ⟨r25, h26, H⟩ := bindS H
              refine p_ixE sc26 h26 (S22.atP (i := 0) rfl).1 rfl rfl rfl ?_
              refine p_ldEA ty64 sz64 rfl h26 (S22.atP (i := 0) rfl).1 rfl ?_
              obtain ⟨r27, h28, H⟩ := bindS H
              refine p_cv (ref_day_ok h28) fu86 rfl S22 fun w29 S30 => ?_
              refine p_aB rfl ?_
              refine wp_nil ?_
              refine reg ?_
              refine p_mI rfl ?_
              refine p_add rfl rfl ?_
              refine p_aI rfl ?_
              refine wp_nil ?_
              exact ⟨(r27, wr (z_6.2 + 1)), (), _, rfl, ⟨rfl, rfl, rfl, trivial⟩, H, S30⟩
            · replace H := condF c24 H
              refine c_exit ?_
              exact ⟨z_6.1, (), _, rfl, ⟨rfl, rfl, trivial⟩, H, S22⟩
          · replace H := condF c23 H
            refine eB c23 ?_
            refine gF rfl rfl ?_
            refine gF rfl rfl ?_
            refine gF rfl rfl ?_
            refine gF rfl rfl ?_
            refine gF rfl rfl ?_
            refine p_pkF rfl (rfl : _ = B false) ?_
            refine wp_nil ?_
            refine c_false rfl ?_
            refine c_exit ?_
            exact ⟨z_6.1, (), _, rfl, ⟨rfl, rfl, trivial⟩, H, S22⟩
        · intro z_7 y_7 e19 w20 S21; obtain ⟨H, S21⟩ := S21
          unfold ref_Check_j11 at H
          refine c_join (α := Bool) (β := Unit) (fun z_9 y_9 => [(3, B z_9)]) (fun z_9 y_9 w_ => ref_Check_j9 z_9 = some r ∧ St w (fun _ => False) w_ [] [rd eCoalDay 3 A1 c2 a0.Days, rd eCoalDip 3 A4 c5 a0.Dips]) ?_ ?_
          · refine c_seq ?_
            refine reg ?_
            refine p_aI rfl ?_
            refine wp_nil ?_
            refine c_block ?_
            refine c_lop (α := Bool × Int) (β := Unit) (ref_Check_l10 a0) (fun z_8 y_8 => [(1, P b7 0), (3, B z_8.1), (7, I z_8.2)]) (fun z_8 y_8 w_ => St w (fun _ => False) w_ [bl b7 ([I a0.Heap.Low, I a0.Heap.High] ++ (sgE eSpan a0.Eats 2 ++ (sg a0.Extra 3 ++ [SL A1 a0.Days.length c2, I a0.Collier.Low, I a0.Collier.High, I a0.Brings, SL A4 a0.Dips.length c5]))) 29] [rd eCoalDay 3 A1 c2 a0.Days, rd eCoalDip 3 A4 c5 a0.Dips]) (z_7, 0) () H ⟨rfl, rfl, rfl, trivial⟩ S21 ?_
            intro m22 z_8 y_8 e23 w24 H S25
            unfold ref_Check_l10 at H
            refine c_seq ?_
            refine c_seq ?_
            refine reg ?_
            refine p_mB rfl ?_
            refine p_mB rfl ?_
            rcases Bool.eq_false_or_eq_true (z_8.1) with c26 | c26
            · replace H := condT c26 H
              refine eB c26 ?_
              refine gT rfl rfl (p_mI rfl ?_)
              refine gT rfl rfl (p_fld fl29_6 rfl ?_)
              refine gT rfl rfl (p_ld ty27 (S25.atX (i := 0) rfl) rfl rfl ?_)
              refine gT rfl rfl (p_len rfl sc27 ?_)
              refine gT rfl rfl (p_cmp rfl rfl rfl ?_)
              refine p_pkT rfl (rfl : _ = B (decide (z_8.2 < (a0.Dips.length : Int)))) ?_
              refine wp_nil ?_
              refine c_cond rfl (fun c27 => ?_) (fun c27 => ?_)
              · replace H := condT c27 H
                refine c_skip ?_
                refine c_seq ?_
                refine c_block ?_
                obtain ⟨r28, h29, H⟩ := bindS H
                obtain ⟨r30, h31, H⟩ := bindS H
                refine reg_q mixed 8 (by kernel_rfl) ?_
                refine dS (fun _ k_ => p_ldA ty29 sz29 (Asr.stays (S25.atX (i := 0) rfl) k_) rfl rfl dn) ?_
                refine dS (fun _ k_ => p_fld fl29_6 rfl dn) ?_
                refine dS (fun _ k_ => p_ld ty27 (Asr.stays (S25.atX (i := 0) rfl) k_) rfl rfl dn) ?_
                refine dS (fun _ k_ => p_mI rfl dn) ?_
                refine dS (fun _ k_ => p_ixE sc27 h29 (Asr.stays (S25.atP (i := 1) rfl) k_).1 rfl rfl rfl dn) ?_
                refine dS (fun _ k_ => p_ldEA ty67 sz67 rfl h29 (Asr.stays (S25.atP (i := 1) rfl) k_).1 rfl dn) ?_
                refine dS (fun _ k_ => p_cvD (ref_dip_ok h31 (Asr.stays (S25.atP (i := 0) rfl) k_) (Asr.stays (S25.atP (i := 1) rfl) k_)) fu87 rfl) ?_
                refine dS (fun _ k_ => p_aB rfl dn) ?_
                intro w32 k33; have S34 := S25.call k33
                refine wp_nil ?_
                refine reg ?_
                refine p_mI rfl ?_
                refine p_add rfl rfl ?_
                refine p_aI rfl ?_
                refine wp_nil ?_
                exact ⟨(r30, wr (z_8.2 + 1)), (), _, rfl, ⟨rfl, rfl, rfl, trivial⟩, H, S34⟩
              · replace H := condF c27 H
                refine c_exit ?_
                have S35 := S25.pk [] (by decide) [0, 1] rfl rfl
                exact ⟨z_8.1, (), _, rfl, ⟨rfl, trivial⟩, H, S35⟩
            · replace H := condF c26 H
              refine eB c26 ?_
              refine gF rfl rfl ?_
              refine gF rfl rfl ?_
              refine gF rfl rfl ?_
              refine gF rfl rfl ?_
              refine gF rfl rfl ?_
              refine p_pkF rfl (rfl : _ = B false) ?_
              refine wp_nil ?_
              refine c_false rfl ?_
              refine c_exit ?_
              have S35 := S25.pk [] (by decide) [0, 1] rfl rfl
              exact ⟨z_8.1, (), _, rfl, ⟨rfl, trivial⟩, H, S35⟩
          · intro z_9 y_9 e22 w23 S24; obtain ⟨H, S24⟩ := S24
            unfold ref_Check_j9 at H
            refine c_seq ?_
            refine c_seq ?_
            refine reg ?_
            refine p_mB rfl ?_
            refine p_not rfl ?_
            refine wp_nil ?_
            refine c_cond rfl (fun c25 => ?_) (fun c25 => ?_)
            · replace H := condT c25 H
              refine c_seq ?_
              refine reg ?_
              refine p_aI rfl ?_
              refine wp_nil ?_
              obtain rfl := Option.some.inj H
              refine c_ret ?_; show bodyPostM (Fr none) 0 Tryd.prog Tryd.f57 _ .ret _ _
              refine ret_of (res1 rfl (rvT (rfl : _ = I 60))) ?_
              exact ⟨_, rfl, rfl, S24.keep⟩
            · replace H := condF c25 H
              refine c_skip ?_
              refine c_seq ?_
              refine reg ?_
              refine p_aI rfl ?_
              refine wp_nil ?_
              obtain rfl := Option.some.inj H
              refine c_ret ?_; show bodyPostM (Fr none) 0 Tryd.prog Tryd.f57 _ .ret _ _
              refine ret_of (res1 rfl (rvT (rfl : _ = I 0))) ?_
              exact ⟨_, rfl, rfl, S24.keep⟩

def B_Member (a0 : Int) (a1 : Int) : Option Bool :=
  need (decide (0 ≤ a1)) <|
  some ((andI (shrI a0 a1) 1) == 1)

set_option maxRecDepth 100000 in
theorem B_Member_ok {a0 : Int} {a1 : Int} {w : World} {r : Bool} (H : B_Member a0 a1 = some r) : Calls Tryd.prog 33 #[I a0, I a1] w (RetV w (B r)) := by
  unfold B_Member at H
  refine fn_of (n := 10) Tryd.func33 rfl rfl (Nat.le_of_ble_eq_true rfl) ?_
  have S : St w (fun _ => False) w [] [] := St.start w _ _ (fun _ h_ => (List.not_mem_nil h_).elim)
  refine c_seq ?_
  refine reg ?_
  refine p_aB rfl ?_
  refine wp_nil ?_
  refine c_seq ?_
  refine reg ?_
  refine p_mI rfl ?_
  refine p_mI rfl ?_
  obtain ⟨h1, H⟩ := needS H
  refine p_shr h1 rfl rfl ?_
  refine p_andI rfl rfl ?_
  refine p_cmp rfl rfl rfl ?_
  refine p_aB rfl ?_
  refine wp_nil ?_
  obtain rfl := Option.some.inj H
  refine c_ret ?_; show bodyPostM (Fr none) 0 Tryd.prog Tryd.f33 _ .ret _ _
  refine ret_of (res1 rfl (rvT (rfl : _ = B ((andI (shrI a0 a1) 1) == 1)))) ?_
  exact ⟨_, rfl, rfl, S.keep⟩

def ref_eaten_l2 (r13 : CoalDay) (a1 : List Int) (rec_z_1 : (Int × Int) → Option Int) (z_1 : Int × Int) : Option Int :=
  bif decide (z_1.2 < 2) then ((B_Member r13.Engines z_1.2).bind fun r27 =>
  bif r27 then (need (inI z_1.2 2) <|
  rec_z_1 (wr (z_1.1 + (aget a1 z_1.2)), wr (z_1.2 + 1)))
  else (rec_z_1 (z_1.1, wr (z_1.2 + 1))))
  else (some (wr (r13.Crosses * z_1.1)))

def ref_eaten (a0 : CoalBook) (a1 : List Int) (a2 : Int) (a3 : Int) : Option Int :=
  (getI a0.Days a2).bind fun r13 =>
  need (inI a3 3) <|
  loopF (ref_eaten_l2 r13 a1) big (aget a0.Extra a3, 0)

set_option maxRecDepth 100000 in
theorem ref_eaten_ok {a0 : CoalBook} {a1 : List Int} {a2 : Int} {a3 : Int} {A1 : Option Addr} {c2 : Nat} {A4 : Option Addr} {c5 : Nat} {w : World} {r : Int} (H : ref_eaten a0 a1 a2 a3 = some r) (h3 : (rd eCoalDay 3 A1 c2 a0.Days).ok w) (h6 : (rd eCoalDip 3 A4 c5 a0.Dips).ok w) : Calls Tryd.prog 107 #[AG ([I a0.Heap.Low, I a0.Heap.High] ++ (sgE eSpan a0.Eats 2 ++ (sg a0.Extra 3 ++ [SL A1 a0.Days.length c2, I a0.Collier.Low, I a0.Collier.High, I a0.Brings, SL A4 a0.Dips.length c5]))), AG (sg a1 2), I a2, I a3] w (RetV w (I r)) := by
  unfold ref_eaten at H
  refine fn_of (n := 38) Tryd.func107 rfl rfl (Nat.le_of_ble_eq_true rfl) ?_
  have S : St w (fun _ => False) w [] [rd eCoalDay 3 A1 c2 a0.Days, rd eCoalDip 3 A4 c5 a0.Dips] := St.start w _ _ (List.forall_mem_cons.2 ⟨h3, (List.forall_mem_cons.2 ⟨h6, (fun _ h_ => (List.not_mem_nil h_).elim)⟩)⟩)
  refine c_seq ?_
  refine reg ?_
  refine p_boxA rfl S fun b7 w8 S9 => ?_
  refine p_boxA rfl S9 fun b10 w11 S12 => ?_
  refine p_aI rfl ?_
  refine wp_nil ?_
  refine c_seq ?_
  refine reg ?_
  refine p_fld fl29_3 rfl ?_
  refine p_ld ty26 (S12.atX (i := 1) rfl) rfl rfl ?_
  refine p_mI rfl ?_
  obtain ⟨r13, h14, H⟩ := bindS H
  refine p_ixE sc26 h14 (S12.atP (i := 0) rfl).1 rfl rfl rfl ?_
  refine p_ldEA ty64 sz64 rfl h14 (S12.atP (i := 0) rfl).1 rfl ?_
  refine p_allA in64 S12 fun b15 w16 S17 => ?_
  refine p_stP (pre := []) (old := [I 0, I 0, I 0]) (post := []) (vs := [I r13.Crosses, I r13.Engines, I r13.Winds]) sz64 S17 (i := 0) rfl rfl rfl rfl (rfl : _ = AG [I r13.Crosses, I r13.Engines, I r13.Winds]) rfl rfl rfl rfl fun w18 S19 => ?_
  refine wp_nil ?_
  refine c_seq ?_
  refine reg ?_
  refine p_mI rfl ?_
  refine p_fld fl29_2 rfl ?_
  obtain ⟨h20, H⟩ := needS H
  refine p_ixD ar25 h20 rfl rfl ?_
  refine p_ldD (pre := [I a0.Heap.Low, I a0.Heap.High] ++ sgE eSpan a0.Eats 2) (post := [SL A1 a0.Days.length c2, I a0.Collier.Low, I a0.Collier.High, I a0.Brings, SL A4 a0.Dips.length c5]) ty3 (S19.atX (i := 2) rfl) rfl h20 rfl rfl ?_
  refine p_aI rfl ?_
  refine wp_nil ?_
  refine c_seq ?_
  refine c_seq ?_
  refine reg ?_
  refine p_aI rfl ?_
  refine wp_nil ?_
  refine c_block ?_
  have S21 := S19.pk [0, 1] (by decide) [0, 1] rfl rfl
  refine c_lop (α := Int × Int) (β := Unit) (ref_eaten_l2 r13 a1) (fun z_1 y_1 => [(5, P b10 0), (9, P b15 0), (10, I z_1.1), (11, I z_1.2)]) (fun z_1 y_1 w_ => St w (fun _ => False) w_ [bl b15 [I r13.Crosses, I r13.Engines, I r13.Winds] 64, bl b10 (sg a1 2) 30] [rd eCoalDay 3 A1 c2 a0.Days, rd eCoalDip 3 A4 c5 a0.Dips]) (aget a0.Extra a3, 0) () H ⟨rfl, rfl, rfl, rfl, trivial⟩ S21 ?_
  intro m22 z_1 y_1 e23 w24 H S25
  unfold ref_eaten_l2 at H
  refine c_seq ?_
  refine c_seq ?_
  refine reg ?_
  refine p_mI rfl ?_
  refine p_cmp rfl rfl rfl ?_
  refine wp_nil ?_
  refine c_cond rfl (fun c26 => ?_) (fun c26 => ?_)
  · replace H := condT c26 H
    refine c_skip ?_
    refine c_seq ?_
    refine c_block ?_
    refine c_seq ?_
    refine reg ?_
    refine p_fld fl64_1 rfl ?_
    refine p_ld ty3 (S25.atX (i := 0) rfl) rfl rfl ?_
    refine p_mI rfl ?_
    obtain ⟨r27, h28, H⟩ := bindS H
    refine p_cv (B_Member_ok h28) fu33 rfl S25 fun w29 S30 => ?_
    refine wp_nil ?_
    refine c_cond rfl (fun c31 => ?_) (fun c31 => ?_)
    · replace H := condT c31 H
      refine reg ?_
      refine p_mI rfl ?_
      refine p_mI rfl ?_
      obtain ⟨h32, H⟩ := needS H
      refine p_ixD ar30 h32 rfl rfl ?_
      refine p_ldD (pre := []) (post := []) ty3 (S30.atX (i := 1) rfl) rfl h32 rfl rfl ?_
      refine p_add rfl rfl ?_
      refine p_aI rfl ?_
      refine wp_nil ?_
      refine reg ?_
      refine p_mI rfl ?_
      refine p_add rfl rfl ?_
      refine p_aI rfl ?_
      refine wp_nil ?_
      exact ⟨(wr (z_1.1 + (aget a1 z_1.2)), wr (z_1.2 + 1)), (), _, rfl, ⟨rfl, rfl, rfl, rfl, trivial⟩, H, S30⟩
    · replace H := condF c31 H
      refine c_skip ?_
      refine reg ?_
      refine p_mI rfl ?_
      refine p_add rfl rfl ?_
      refine p_aI rfl ?_
      refine wp_nil ?_
      exact ⟨(z_1.1, wr (z_1.2 + 1)), (), _, rfl, ⟨rfl, rfl, rfl, rfl, trivial⟩, H, S30⟩
  · replace H := condF c26 H
    refine c_exit ?_
    refine c_seq ?_
    refine reg ?_
    refine p_fld fl64_0 rfl ?_
    refine p_ld ty3 (S25.atX (i := 0) rfl) rfl rfl ?_
    refine p_mI rfl ?_
    refine p_mul rfl rfl ?_
    refine p_aI rfl ?_
    refine wp_nil ?_
    obtain rfl := Option.some.inj H
    refine c_ret ?_; show bodyPostM (Fr none) 0 Tryd.prog Tryd.f107 _ .ret _ _
    refine ret_of (res1 rfl (rvT (rfl : _ = I (wr (r13.Crosses * z_1.1))))) ?_
    exact ⟨_, rfl, rfl, S25.keep⟩

def ref_right_l1 (a0 : CoalBook) (a1 : Int) (a2 : Int) (rec_z_1 : Int → Option Bool) (z_1 : Int) : Option Bool :=
  bif decide (z_1 < (a0.Dips.length : Int)) then ((getI a0.Dips z_1).bind fun r15 =>
  bif (r15.Day == a1) then ((B_Inside (wr (r15.Read - a2)) (wr (-r15.Error)) r15.Error).bind fun r23 =>
  bif !r23 then (some false)
  else (rec_z_1 (wr (z_1 + 1))))
  else (rec_z_1 (wr (z_1 + 1))))
  else (some true)

def ref_right (a0 : CoalBook) (a1 : Int) (a2 : Int) : Option Bool :=
  loopF (ref_right_l1 a0 a1 a2) big 0

set_option maxRecDepth 100000 in
theorem ref_right_ok {a0 : CoalBook} {a1 : Int} {a2 : Int} {A1 : Option Addr} {c2 : Nat} {A4 : Option Addr} {c5 : Nat} {w : World} {r : Bool} (H : ref_right a0 a1 a2 = some r) (h3 : (rd eCoalDay 3 A1 c2 a0.Days).ok w) (h6 : (rd eCoalDip 3 A4 c5 a0.Dips).ok w) : Calls Tryd.prog 108 #[AG ([I a0.Heap.Low, I a0.Heap.High] ++ (sgE eSpan a0.Eats 2 ++ (sg a0.Extra 3 ++ [SL A1 a0.Days.length c2, I a0.Collier.Low, I a0.Collier.High, I a0.Brings, SL A4 a0.Dips.length c5]))), I a1, I a2] w (RetV w (B r)) := by
  unfold ref_right at H
  refine fn_of (n := 38) Tryd.func108 rfl rfl (Nat.le_of_ble_eq_true rfl) ?_
  have S : St w (fun _ => False) w [] [rd eCoalDay 3 A1 c2 a0.Days, rd eCoalDip 3 A4 c5 a0.Dips] := St.start w _ _ (List.forall_mem_cons.2 ⟨h3, (List.forall_mem_cons.2 ⟨h6, (fun _ h_ => (List.not_mem_nil h_).elim)⟩)⟩)
  refine c_seq ?_
  refine reg ?_
  refine p_boxA rfl S fun b7 w8 S9 => ?_
  refine p_aB rfl ?_
  refine wp_nil ?_
  refine c_seq ?_
  refine c_seq ?_
  refine reg ?_
  refine p_aI rfl ?_
  refine wp_nil ?_
  refine c_block ?_
  refine c_lop (α := Int) (β := Unit) (ref_right_l1 a0 a1 a2) (fun z_1 y_1 => [(1, I a1), (2, I a2), (3, P b7 0), (7, I z_1)]) (fun z_1 y_1 w_ => St w (fun _ => False) w_ [bl b7 ([I a0.Heap.Low, I a0.Heap.High] ++ (sgE eSpan a0.Eats 2 ++ (sg a0.Extra 3 ++ [SL A1 a0.Days.length c2, I a0.Collier.Low, I a0.Collier.High, I a0.Brings, SL A4 a0.Dips.length c5]))) 29] [rd eCoalDay 3 A1 c2 a0.Days, rd eCoalDip 3 A4 c5 a0.Dips]) 0 () H ⟨rfl, rfl, rfl, rfl, trivial⟩ S9 ?_
  intro m10 z_1 y_1 e11 w12 H S13
  unfold ref_right_l1 at H
  refine c_seq ?_
  refine c_seq ?_
  refine reg ?_
  refine p_mI rfl ?_
  refine p_fld fl29_6 rfl ?_
  refine p_ld ty27 (S13.atX (i := 0) rfl) rfl rfl ?_
  refine p_len rfl sc27 ?_
  refine p_cmp rfl rfl rfl ?_
  refine wp_nil ?_
  refine c_cond rfl (fun c14 => ?_) (fun c14 => ?_)
  · replace H := condT c14 H
    refine c_skip ?_
    refine c_seq ?_
    refine c_block ?_
    refine c_seq ?_
    refine reg ?_
    refine p_fld fl29_6 rfl ?_
    refine p_ld ty27 (S13.atX (i := 0) rfl) rfl rfl ?_
    refine p_mI rfl ?_
    obtain ⟨r15, h16, H⟩ := bindS H
    refine p_ixE sc27 h16 (S13.atP (i := 1) rfl).1 rfl rfl rfl ?_
    refine p_ldEA ty67 sz67 rfl h16 (S13.atP (i := 1) rfl).1 rfl ?_
    refine p_allA in67 S13 fun b17 w18 S19 => ?_
    refine p_stP (pre := []) (old := [I 0, I 0, I 0]) (post := []) (vs := [I r15.Day, I r15.Read, I r15.Error]) sz67 S19 (i := 0) rfl rfl rfl rfl (rfl : _ = AG [I r15.Day, I r15.Read, I r15.Error]) rfl rfl rfl rfl fun w20 S21 => ?_
    refine wp_nil ?_
    refine c_seq ?_
    refine reg ?_
    refine p_fld fl67_0 rfl ?_
    refine p_ld ty3 (S21.atX (i := 0) rfl) rfl rfl ?_
    refine p_mI rfl ?_
    refine p_cmp rfl rfl rfl ?_
    refine p_mB rfl ?_
    rcases Bool.eq_false_or_eq_true ((r15.Day == a1)) with c22 | c22
    · replace H := condT c22 H
      refine eB c22 ?_
      refine gT rfl rfl (p_fld fl67_1 rfl ?_)
      refine gT rfl rfl (p_ld ty3 (S21.atX (i := 0) rfl) rfl rfl ?_)
      refine gT rfl rfl (p_mI rfl ?_)
      refine gT rfl rfl (p_sub rfl rfl ?_)
      refine gT rfl rfl (p_fld fl67_2 rfl ?_)
      refine gT rfl rfl (p_ld ty3 (S21.atX (i := 0) rfl) rfl rfl ?_)
      refine gT rfl rfl (p_neg rfl ?_)
      refine gT rfl rfl (p_fld fl67_2 rfl ?_)
      refine gT rfl rfl (p_ld ty3 (S21.atX (i := 0) rfl) rfl rfl ?_)
      obtain ⟨r23, h24, H⟩ := bindS H
      refine gT rfl rfl (p_cv (B_Inside_ok h24) fu34 rfl S21 fun w25 S26 => ?_)
      refine gT rfl rfl (p_not rfl ?_)
      refine p_pkT rfl (rfl : _ = B (!r23)) ?_
      refine wp_nil ?_
      refine c_cond rfl (fun c27 => ?_) (fun c27 => ?_)
      · replace H := condT c27 H
        refine c_seq ?_
        refine reg ?_
        refine p_aB rfl ?_
        refine wp_nil ?_
        obtain rfl := Option.some.inj H
        refine c_ret ?_; show bodyPostM (Fr none) 0 Tryd.prog Tryd.f108 _ .ret _ _
        refine ret_of (res1 rfl (rvT (rfl : _ = B false))) ?_
        exact ⟨_, rfl, rfl, S26.keep⟩
      · replace H := condF c27 H
        refine c_skip ?_
        refine reg ?_
        refine p_mI rfl ?_
        refine p_add rfl rfl ?_
        refine p_aI rfl ?_
        refine wp_nil ?_
        have S28 := S26.pk [1] (by decide) [0, 1] rfl rfl
        exact ⟨wr (z_1 + 1), (), _, rfl, ⟨rfl, rfl, rfl, rfl, trivial⟩, H, S28⟩
    · replace H := condF c22 H
      refine eB c22 ?_
      refine gF rfl rfl ?_
      refine gF rfl rfl ?_
      refine gF rfl rfl ?_
      refine gF rfl rfl ?_
      refine gF rfl rfl ?_
      refine gF rfl rfl ?_
      refine gF rfl rfl ?_
      refine gF rfl rfl ?_
      refine gF rfl rfl ?_
      refine gF rfl rfl ?_
      refine gF rfl rfl ?_
      refine p_pkF rfl (rfl : _ = B false) ?_
      refine wp_nil ?_
      refine c_false rfl ?_
      refine c_skip ?_
      refine reg ?_
      refine p_mI rfl ?_
      refine p_add rfl rfl ?_
      refine p_aI rfl ?_
      refine wp_nil ?_
      have S29 := S21.pk [1] (by decide) [0, 1] rfl rfl
      exact ⟨wr (z_1 + 1), (), _, rfl, ⟨rfl, rfl, rfl, rfl, trivial⟩, H, S29⟩
  · replace H := condF c14 H
    refine c_exit ?_
    refine c_seq ?_
    refine reg ?_
    refine p_aB rfl ?_
    refine wp_nil ?_
    obtain rfl := Option.some.inj H
    refine c_ret ?_; show bodyPostM (Fr none) 0 Tryd.prog Tryd.f108 _ .ret _ _
    refine ret_of (res1 rfl (rvT (rfl : _ = B true))) ?_
    exact ⟨_, rfl, rfl, S13.keep⟩

def B_Grown (a0 : List Int) (a1 : Int) : Option (List Int) :=
  need (inI (wr ((a0.length : Int) + 1)) 1073741824) <|
  need (decide (a0.length ≤ (List.replicate (wr ((a0.length : Int) + 1)).toNat (0 : Int)).length)) <|
  (getI (a0 ++ List.drop a0.length (List.replicate (wr ((a0.length : Int) + 1)).toNat (0 : Int))) (a0.length : Int)).bind fun r15 =>
  some ((a0 ++ List.drop a0.length (List.replicate (wr ((a0.length : Int) + 1)).toNat (0 : Int))).set (a0.length : Int).toNat a1)

set_option maxRecDepth 100000 in
theorem B_Grown_ok {a0 : List Int} {a1 : Int} {A1 : Option Addr} {c2 : Nat} {w : World} {r : (List Int)} (H : B_Grown a0 a1 = some r) (h3 : (rd intE 1 A1 c2 a0).ok w) : Calls Tryd.prog 109 #[SL A1 a0.length c2, I a1] w fun en w_ => ∃ u_, en = .returned u_ ∧ ∃ A_1 : Option Addr, ∃ c_2 : Nat, u_ = SL A_1 r.length c_2 ∧ Keep0 w w_ ∧ ((gr intE 1 3 A_1 c_2 r).ok w_ ∧ New w.heap.size (gr intE 1 3 A_1 c_2 r)) ∧ True := by
  unfold B_Grown at H
  refine fn_of (n := 19) Tryd.func109 rfl rfl (Nat.le_of_ble_eq_true rfl) ?_
  have S : St w (fun _ => False) w [] [rd intE 1 A1 c2 a0] := St.start w _ _ (List.forall_mem_cons.2 ⟨h3, (fun _ h_ => (List.not_mem_nil h_).elim)⟩)
  refine c_seq ?_
  refine reg ?_
  refine p_aS rfl ?_
  refine wp_nil ?_
  refine c_seq ?_
  refine reg ?_
  refine p_mS rfl ?_
  refine p_len rfl sc39 ?_
  refine p_add rfl rfl ?_
  obtain ⟨h4, H⟩ := needS H
  refine p_mkV (enc := intE) (x0 := (0 : Int)) (len := wr ((a0.length : Int) + 1)) sc39 in3 intE_len rfl (by decide) h4 S rfl rfl fun A5 w6 S7 => ?_
  refine p_aS rfl ?_
  refine wp_nil ?_
  refine c_seq ?_
  refine reg ?_
  refine p_mS rfl ?_
  refine p_mS rfl ?_
  obtain ⟨h9, H⟩ := needS H
  refine p_cp sc39 S7 (i := 0) rfl (S7.atP (i := 0) rfl).1 h9 rfl rfl fun l10 w13 h11 h12 S14 => ?_
  obtain rfl : l10 = (a0 ++ List.drop a0.length (List.replicate (wr ((a0.length : Int) + 1)).toNat (0 : Int))) := h11
  try rw [← h12]
  try rw [← h12] at S14
  refine wp_nil ?_
  refine c_seq ?_
  refine reg ?_
  refine p_mS rfl ?_
  refine p_mS rfl ?_
  refine p_len rfl sc39 ?_
  refine p_mI rfl ?_
  obtain ⟨r15, h16, H⟩ := bindS H
  refine p_ixE sc39 h16 (gr_sl intE_len (S14.atX (i := 0) rfl)) rfl rfl rfl ?_
  refine p_stE (x' := a1) (a := []) (old := [I r15]) (b := []) (vs := [I a1]) sz3 intE_len intE_one S14 (i := 0) rfl h16 rfl (rfl : _ = I a1) rfl rfl rfl rfl rfl rfl fun l19 w20 h17 h18 S21 => ?_
  obtain rfl : l19 = ((a0 ++ List.drop a0.length (List.replicate (wr ((a0.length : Int) + 1)).toNat (0 : Int))).set (a0.length : Int).toNat a1) := h17
  try rw [← h18]
  try rw [← h18] at S21
  refine wp_nil ?_
  refine c_seq ?_
  refine reg ?_
  refine p_mS rfl ?_
  refine p_aS rfl ?_
  refine wp_nil ?_
  obtain rfl := Option.some.inj H
  refine c_ret ?_; show bodyPostM (Fr none) 0 Tryd.prog Tryd.f109 _ .ret _ _
  refine ret_of (res1 rfl (rvT (rfl : _ = SL A5 ((a0 ++ List.drop a0.length (List.replicate (wr ((a0.length : Int) + 1)).toNat (0 : Int))).set (a0.length : Int).toNat a1).length ((wr ((a0.length : Int) + 1)).toNat)))) ?_
  exact ⟨_, rfl, A5, ((wr ((a0.length : Int) + 1)).toNat), rfl, S21.keep, ⟨S21.atX (i := 0) rfl, S21.newX (i := 0) rfl⟩, trivial⟩

structure Ref06_truth where
  eats_ : List Int
  collier_ : Int
  winds_ : List Int
  coal_ : List Int
  deriving DecidableEq, Inhabited

def nRef06_truth (h : Ref06_truth × (Option Addr) × Nat × (Option Addr) × Nat) : List Value := sg h.1.eats_ 2 ++ [I h.1.collier_, SL h.2.1 h.1.winds_.length h.2.2.1, SL h.2.2.2.1 h.1.coal_.length h.2.2.2.2]
theorem nRef06_truth_len (h : Ref06_truth × (Option Addr) × Nat × (Option Addr) × Nat) : (nRef06_truth h).length = 5 := rfl
theorem nRef06_truth_one (h : Ref06_truth × (Option Addr) × Nat × (Option Addr) × Nat) : ∀ u ∈ nRef06_truth h, u.oneCell' = true := by simp [nRef06_truth, sg, sgF, Value.oneCell']
def nRef06_truthI (h : Ref06_truth × (Option Addr) × Nat × (Option Addr) × Nat) : List Asr := [rd intE 1 h.2.1 h.2.2.1 h.1.winds_, rd intE 1 h.2.2.2.1 h.2.2.2.2 h.1.coal_]

def ref_gone_l3 (a0 : CoalBook) (a1 : Ref06_truth) (z_1 : Int) (rec_ : CoalBook → Ref06_truth → Int → Option (List Ref06_truth)) (rec_z_2 : ((List Ref06_truth) × Int) → Option (List Ref06_truth)) (z_2 : (List Ref06_truth) × Int) : Option (List Ref06_truth) :=
  bif decide (z_2.2 < 3) then ((getI a0.Days (a1.winds_.length : Int)).bind fun r38 =>
  (B_Member r38.Winds z_2.2).bind fun r40 =>
  bif !r40 then (rec_z_2 (z_2.1, wr (z_2.2 + 1)))
  else ((ref_eaten a0 a1.eats_ (a1.winds_.length : Int) z_2.2).bind fun r45 =>
  (ref_right a0 (a1.winds_.length : Int) (wr (z_1 - r45))).bind fun r49 =>
  bif r49 then ((B_Grown a1.winds_ z_2.2).bind fun r62 =>
  (B_Grown a1.coal_ (wr (z_1 - r45))).bind fun r75 =>
  (rec_ a0 (Ref06_truth.mk a1.eats_ a1.collier_ r62 r75) (wr (z_1 - r45))).bind fun r94 =>
  bif r94.isEmpty then (rec_z_2 (z_2.1, wr (z_2.2 + 1)))
  else (need (fitsL (z_2.1.length + r94.length) 72) <|
  rec_z_2 (z_2.1 ++ r94, wr (z_2.2 + 1))))
  else (rec_z_2 (z_2.1, wr (z_2.2 + 1)))))
  else (some z_2.1)

def ref_gone_j4 (a0 : CoalBook) (a1 : Ref06_truth) (rec_ : CoalBook → Ref06_truth → Int → Option (List Ref06_truth)) (z_1 : Int) : Option (List Ref06_truth) :=
  loopF (ref_gone_l3 a0 a1 z_1 rec_) big (([] : List Ref06_truth), 0)

def ref_gone_F (rec_ : CoalBook → Ref06_truth → Int → Option (List Ref06_truth)) (a0 : CoalBook) (a1 : Ref06_truth) (a2 : Int) : Option (List Ref06_truth) :=
  bif ((a1.winds_.length : Int) == (a0.Days.length : Int)) then (some ([a1] : List Ref06_truth))
  else (bif (a1.collier_ == (a1.winds_.length : Int)) then (ref_gone_j4 a0 a1 rec_ (wr (a2 + a0.Brings)))
  else (ref_gone_j4 a0 a1 rec_ a2))

def ref_gone : Nat → CoalBook → Ref06_truth → Int → Option (List Ref06_truth)
  | 0, _, _, _ => none
  | n + 1, a0, a1, a2 => ref_gone_F (fun x0_ x1_ x2_ => ref_gone n x0_ x1_ x2_) a0 a1 a2

set_option maxRecDepth 100000 in
theorem ref_gone_ok {n : Nat} : ∀ {a0 : CoalBook} {a1 : Ref06_truth} {a2 : Int} {A1 : Option Addr} {c2 : Nat} {A4 : Option Addr} {c5 : Nat} {A7 : Option Addr} {c8 : Nat} {A10 : Option Addr} {c11 : Nat} {w : World} {r : (List Ref06_truth)} (H : ref_gone n a0 a1 a2 = some r) (h3 : (rd eCoalDay 3 A1 c2 a0.Days).ok w) (h6 : (rd eCoalDip 3 A4 c5 a0.Dips).ok w) (h9 : (rd intE 1 A7 c8 a1.winds_).ok w) (h12 : (rd intE 1 A10 c11 a1.coal_).ok w), Calls Tryd.prog 100 #[AG ([I a0.Heap.Low, I a0.Heap.High] ++ (sgE eSpan a0.Eats 2 ++ (sg a0.Extra 3 ++ [SL A1 a0.Days.length c2, I a0.Collier.Low, I a0.Collier.High, I a0.Brings, SL A4 a0.Dips.length c5]))), AG (sg a1.eats_ 2 ++ [I a1.collier_, SL A7 a1.winds_.length c8, SL A10 a1.coal_.length c11]), I a2] w fun en w_ => ∃ u_, en = .returned u_ ∧ ∃ A_1 : Option Addr, ∃ c_2 : Nat, ∃ l_3 : List (Ref06_truth × (Option Addr) × Nat × (Option Addr) × Nat), u_ = SL A_1 l_3.length c_2 ∧ Keep0 w w_ ∧ ((rd nRef06_truth 5 A_1 c_2 l_3).ok w_ ∧ New w.heap.size (rd nRef06_truth 5 A_1 c_2 l_3)) ∧ ((ri nRef06_truthI l_3 r).ok w_ ∧ Al w [rd eCoalDay 3 A1 c2 a0.Days, rd eCoalDip 3 A4 c5 a0.Dips, rd intE 1 A7 c8 a1.winds_, rd intE 1 A10 c11 a1.coal_] (ri nRef06_truthI l_3 r)) ∧ True := by
  induction n with
  | zero => intro a0 a1 a2 A1 c2 A4 c5 A7 c8 A10 c11 w r H h3 h6 h9 h12; cases H
  | succ n ih =>
  intro a0 a1 a2 A1 c2 A4 c5 A7 c8 A10 c11 w r H h3 h6 h9 h12
  unfold ref_gone ref_gone_F at H
  refine fn_of (n := 73) Tryd.func100 rfl rfl (Nat.le_of_ble_eq_true rfl) ?_
  have S : St w (fun _ => False) w [] [rd eCoalDay 3 A1 c2 a0.Days, rd eCoalDip 3 A4 c5 a0.Dips, rd intE 1 A7 c8 a1.winds_, rd intE 1 A10 c11 a1.coal_] := St.start w _ _ (List.forall_mem_cons.2 ⟨h3, (List.forall_mem_cons.2 ⟨h6, (List.forall_mem_cons.2 ⟨h9, (List.forall_mem_cons.2 ⟨h12, (fun _ h_ => (List.not_mem_nil h_).elim)⟩)⟩)⟩)⟩)
  refine c_seq ?_
  refine reg ?_
  refine p_boxA rfl S fun b13 w14 S15 => ?_
  refine p_boxA rfl S15 fun b16 w17 S18 => ?_
  refine p_aS rfl ?_
  refine wp_nil ?_
  refine c_seq ?_
  refine reg ?_
  refine p_fld fl119_2 rfl ?_
  refine p_ld ty39 (S18.atX (i := 0) rfl) rfl rfl ?_
  refine p_len rfl sc39 ?_
  refine p_aI rfl ?_
  refine wp_nil ?_
  refine c_seq ?_
  refine c_seq ?_
  refine reg ?_
  refine p_mI rfl ?_
  refine p_fld fl29_3 rfl ?_
  refine p_ld ty26 (S18.atX (i := 1) rfl) rfl rfl ?_
  refine p_len rfl sc26 ?_
  refine p_cmp rfl rfl rfl ?_
  refine wp_nil ?_
  refine c_cond rfl (fun c19 => ?_) (fun c19 => ?_)
  · replace H := condT c19 H
    refine c_seq ?_
    refine reg ?_
    refine p_ldA ty119 sz119 (S18.atX (i := 0) rfl) rfl rfl ?_
    refine p_bsl (enc := nRef06_truth) (l := ([(a1, A7, c8, A10, c11)] : List (Ref06_truth × (Option Addr) × Nat × (Option Addr) × Nat))) (fun h => AG (nRef06_truth h)) (fun _ => rfl) sc112 in119 nRef06_truth_len rfl (by decide) (by decide) zr119_1 S18 rfl fun A20 c21 w22 S23 => ?_
    have S25 := S23.riL (inner := nRef06_truthI) (xs := ([a1] : List Ref06_truth)) ([(a1, A7, c8, A10, c11)] : List (Ref06_truth × (Option Addr) × Nat × (Option Addr) × Nat)) rfl (List.forall_mem_cons.2 ⟨(List.forall_mem_cons.2 ⟨List.mem_of_getElem? (i := 2) rfl, (List.forall_mem_cons.2 ⟨List.mem_of_getElem? (i := 3) rfl, (fun _ h_ => (List.not_mem_nil h_).elim)⟩)⟩), (fun _ h_ => (List.not_mem_nil h_).elim)⟩)
    refine p_aS rfl ?_
    refine wp_nil ?_
    obtain rfl := Option.some.inj H
    refine c_ret ?_; show bodyPostM (Fr none) 0 Tryd.prog Tryd.f100 _ .ret _ _
    refine ret_of (res1 rfl (rvT (rfl : _ = SL A20 ([(a1, A7, c8, A10, c11)] : List (Ref06_truth × (Option Addr) × Nat × (Option Addr) × Nat)).length c21))) ?_
    exact ⟨_, rfl, A20, c21, ([(a1, A7, c8, A10, c11)] : List (Ref06_truth × (Option Addr) × Nat × (Option Addr) × Nat)), rfl, S25.keep, ⟨(gr_rd nRef06_truth_len (S25.atX (i := 0) rfl)), (New.rd (S25.newX (i := 0) rfl))⟩, ⟨(S25.atP (i := 0) rfl), (Al.riL (List.forall_mem_cons.2 ⟨(List.forall_mem_cons.2 ⟨(Al.self (i := 2) rfl), (List.forall_mem_cons.2 ⟨(Al.self (i := 3) rfl), (fun _ h_ => (List.not_mem_nil h_).elim)⟩)⟩), (fun _ h_ => (List.not_mem_nil h_).elim)⟩))⟩, trivial⟩
  · replace H := condF c19 H
    refine c_skip ?_
    refine c_join (α := Int) (β := Unit) (fun z_1 y_1 => [(2, I z_1), (3, P b13 0), (4, P b16 0), (7, I (a1.winds_.length : Int))]) (fun z_1 y_1 w_ => ref_gone_j4 a0 a1 (fun x0_ x1_ x2_ => ref_gone n x0_ x1_ x2_) z_1 = some r ∧ St w (fun _ => False) w_ [bl b16 (sg a1.eats_ 2 ++ [I a1.collier_, SL A7 a1.winds_.length c8, SL A10 a1.coal_.length c11]) 119, bl b13 ([I a0.Heap.Low, I a0.Heap.High] ++ (sgE eSpan a0.Eats 2 ++ (sg a0.Extra 3 ++ [SL A1 a0.Days.length c2, I a0.Collier.Low, I a0.Collier.High, I a0.Brings, SL A4 a0.Dips.length c5]))) 29] [rd eCoalDay 3 A1 c2 a0.Days, rd eCoalDip 3 A4 c5 a0.Dips, rd intE 1 A7 c8 a1.winds_, rd intE 1 A10 c11 a1.coal_]) ?_ ?_
    · refine c_seq ?_
      refine reg ?_
      refine p_fld fl119_1 rfl ?_
      refine p_ld ty3 (S18.atX (i := 0) rfl) rfl rfl ?_
      refine p_mI rfl ?_
      refine p_cmp rfl rfl rfl ?_
      refine wp_nil ?_
      refine c_cond rfl (fun c26 => ?_) (fun c26 => ?_)
      · replace H := condT c26 H
        refine reg ?_
        refine p_mI rfl ?_
        refine p_fld fl29_5 rfl ?_
        refine p_ld ty3 (S18.atX (i := 1) rfl) rfl rfl ?_
        refine p_add rfl rfl ?_
        refine p_aI rfl ?_
        refine wp_nil ?_
        exact ⟨wr (a2 + a0.Brings), (), _, rfl, ⟨rfl, rfl, rfl, rfl, trivial⟩, H, S18⟩
      · replace H := condF c26 H
        refine c_skip ?_
        exact ⟨a2, (), _, rfl, ⟨rfl, rfl, rfl, rfl, trivial⟩, H, S18⟩
    · intro z_1 y_1 e26 w27 S28; obtain ⟨H, S28⟩ := S28
      unfold ref_gone_j4 at H
      refine c_seq ?_
      refine reg ?_
      refine p_aS rfl ?_
      refine wp_nil ?_
      refine c_seq ?_
      refine c_seq ?_
      refine reg ?_
      refine p_aI rfl ?_
      refine wp_nil ?_
      refine c_block ?_
      have S29 := S28.nilRow nRef06_truth 5 119
      have S30 := S29.riNil nRef06_truthI
      have S31 := St.addPur (φ := Al w [rd eCoalDay 3 A1 c2 a0.Days, rd eCoalDip 3 A4 c5 a0.Dips, rd intE 1 A7 c8 a1.winds_, rd intE 1 A10 c11 a1.coal_] (ri nRef06_truthI ([] : List (Ref06_truth × (Option Addr) × Nat × (Option Addr) × Nat)) ([] : List Ref06_truth))) S30 Al.riNil
      have S32 := S31.pk [0, 1, 2] (by decide) [1, 0, 2, 3, 4, 5] rfl rfl
      refine c_lop (α := (List Ref06_truth) × Int) (β := (Option Addr) × Nat × (List (Ref06_truth × (Option Addr) × Nat × (Option Addr) × Nat))) (ref_gone_l3 a0 a1 z_1 (fun x0_ x1_ x2_ => ref_gone n x0_ x1_ x2_)) (fun z_2 y_2 => [(2, I z_1), (3, P b13 0), (4, P b16 0), (7, I (a1.winds_.length : Int)), (8, SL y_2.1 y_2.2.2.length y_2.2.1), (9, I z_2.2)]) (fun z_2 y_2 w_ => St w (fun _ => False) w_ [gr nRef06_truth 5 119 y_2.1 y_2.2.1 y_2.2.2, bl b16 (sg a1.eats_ 2 ++ [I a1.collier_, SL A7 a1.winds_.length c8, SL A10 a1.coal_.length c11]) 119, bl b13 ([I a0.Heap.Low, I a0.Heap.High] ++ (sgE eSpan a0.Eats 2 ++ (sg a0.Extra 3 ++ [SL A1 a0.Days.length c2, I a0.Collier.Low, I a0.Collier.High, I a0.Brings, SL A4 a0.Dips.length c5]))) 29] [ri nRef06_truthI y_2.2.2 z_2.1, pur (Al w [rd eCoalDay 3 A1 c2 a0.Days, rd eCoalDip 3 A4 c5 a0.Dips, rd intE 1 A7 c8 a1.winds_, rd intE 1 A10 c11 a1.coal_] (ri nRef06_truthI y_2.2.2 z_2.1)), rd eCoalDay 3 A1 c2 a0.Days, rd eCoalDip 3 A4 c5 a0.Dips, rd intE 1 A7 c8 a1.winds_, rd intE 1 A10 c11 a1.coal_]) (([] : List Ref06_truth), 0) (none, 0, ([] : List (Ref06_truth × (Option Addr) × Nat × (Option Addr) × Nat))) H ⟨rfl, rfl, rfl, rfl, rfl, rfl, trivial⟩ S32 ?_
      intro m33 z_2 y_2 e34 w35 H S36
      unfold ref_gone_l3 at H
      refine c_seq ?_
      refine c_seq ?_
      refine reg ?_
      refine p_mI rfl ?_
      refine p_cmp rfl rfl rfl ?_
      refine wp_nil ?_
      refine c_cond rfl (fun c37 => ?_) (fun c37 => ?_)
      · replace H := condT c37 H
        refine c_skip ?_
        refine c_seq ?_
        refine c_block ?_
        refine c_seq ?_
        refine c_seq ?_
        refine reg ?_
        refine p_fld fl29_3 rfl ?_
        refine p_ld ty26 (S36.atX (i := 2) rfl) rfl rfl ?_
        refine p_mI rfl ?_
        obtain ⟨r38, h39, H⟩ := bindS H
        refine p_ixE sc26 h39 (S36.atP (i := 2) rfl).1 rfl rfl rfl ?_
        refine p_fldE fl64_2 (sl_here (S36.atP (i := 2) rfl).1 h39) rfl ?_
        refine p_ldE ty3 h39 (S36.atP (i := 2) rfl).1 rfl rfl ?_
        refine p_mI rfl ?_
        obtain ⟨r40, h41, H⟩ := bindS H
        refine p_cv (B_Member_ok h41) fu33 rfl S36 fun w42 S43 => ?_
        refine p_not rfl ?_
        refine wp_nil ?_
        refine c_cond rfl (fun c44 => ?_) (fun c44 => ?_)
        · replace H := condT c44 H
          refine c_exit ?_
          refine reg ?_
          refine p_mI rfl ?_
          refine p_add rfl rfl ?_
          refine p_aI rfl ?_
          refine wp_nil ?_
          exact ⟨(z_2.1, wr (z_2.2 + 1)), (y_2.1, y_2.2.1, y_2.2.2), _, rfl, ⟨rfl, rfl, rfl, rfl, rfl, rfl, trivial⟩, H, S43⟩
        · replace H := condF c44 H
          refine c_skip ?_
          refine c_seq ?_
          refine reg ?_
          refine p_mI rfl ?_
          refine p_ldA ty29 sz29 (S43.atX (i := 2) rfl) rfl rfl ?_
          refine p_fld fl119_0 rfl ?_
          refine p_ldP (vs := sg a1.eats_ 2) ty30 sz30 (S43.atX (i := 1) rfl) rfl rfl rfl ?_
          refine p_mI rfl ?_
          refine p_mI rfl ?_
          obtain ⟨r45, h46, H⟩ := bindS H
          refine p_cv (ref_eaten_ok h46 (S43.atP (i := 2) rfl) (S43.atP (i := 3) rfl)) fu107 rfl S43 fun w47 S48 => ?_
          refine p_sub rfl rfl ?_
          refine p_aI rfl ?_
          refine wp_nil ?_
          refine c_seq ?_
          refine reg ?_
          refine p_ldA ty29 sz29 (S48.atX (i := 2) rfl) rfl rfl ?_
          refine p_mI rfl ?_
          refine p_mI rfl ?_
          obtain ⟨r49, h50, H⟩ := bindS H
          refine p_cv (ref_right_ok h50 (S48.atP (i := 2) rfl) (S48.atP (i := 3) rfl)) fu108 rfl S48 fun w51 S52 => ?_
          refine wp_nil ?_
          refine c_cond rfl (fun c53 => ?_) (fun c53 => ?_)
          · replace H := condT c53 H
            refine c_seq ?_
            refine reg ?_
            refine p_ldA ty119 sz119 (S52.atX (i := 1) rfl) rfl rfl ?_
            refine p_allA in119 S52 fun b54 w55 S56 => ?_
            refine p_stP (pre := []) (old := sg (List.replicate 2 0) 2 ++ [I 0, SL none 0 0, SL none 0 0]) (post := []) (vs := sg a1.eats_ 2 ++ [I a1.collier_, SL A7 a1.winds_.length c8, SL A10 a1.coal_.length c11]) sz119 S56 (i := 0) rfl rfl rfl rfl (rfl : _ = AG (sg a1.eats_ 2 ++ [I a1.collier_, SL A7 a1.winds_.length c8, SL A10 a1.coal_.length c11])) rfl rfl rfl rfl fun w57 S58 => ?_
            refine wp_nil ?_
            refine c_seq ?_
            refine reg_c mixed 9 [3, 7] (by kernel_rfl) ?_
            refine kS rfl (fun _ k_ => p_fld fl119_2 rfl dn) ?_
            refine kS rfl (fun _ k_ => p_ld ty39 (Asr.stays (S58.atX (i := 2) rfl) k_) rfl rfl dn) ?_
            refine kS rfl (fun _ k_ => p_mI rfl dn) ?_
            refine kC rfl ?_
            refine kS rfl (fun _ k_ => p_fld fl119_3 rfl dn) ?_
            refine kS rfl (fun _ k_ => p_ld ty39 (Asr.stays (S58.atX (i := 2) rfl) k_) rfl rfl dn) ?_
            refine kS rfl (fun _ k_ => p_mI rfl dn) ?_
            refine kC rfl ?_
            refine kS rfl (fun _ k_ => p_fld fl119_2 rfl dn) ?_
            intro w59 k60; have S61 := S58.call k60
            obtain ⟨r62, h63, H⟩ := bindS H
            refine p_cal (B_Grown_ok h63 (S61.atP (i := 4) rfl)) fu109 rfl ?_
            rintro _ w64 ⟨A66, c67, rfl, k65, ⟨o68, n69⟩, _⟩
            have S71 := S61.addNew k65 o68 n69
            refine cN k65 fun w72 k73 => ?_
            have S74 := S71.call k73
            obtain ⟨r75, h76, H⟩ := bindS H
            refine p_cal (B_Grown_ok h76 (S74.atP (i := 5) rfl)) fu109 rfl ?_
            rintro _ w77 ⟨A79, c80, rfl, k78, ⟨o81, n82⟩, _⟩
            have S84 := S74.addNew k78 o81 n82
            refine cN k78 fun w85 k86 => ?_
            have S87 := S84.call k86
            refine p_stP (pre := sg a1.eats_ 2 ++ [I a1.collier_]) (old := [SL A7 a1.winds_.length c8]) (post := [SL A10 a1.coal_.length c11]) (vs := [SL A66 r62.length c67]) sz39 S87 (i := 2) rfl rfl rfl rfl (rfl : _ = SL A66 r62.length c67) rfl rfl rfl rfl fun w88 S89 => ?_
            refine p_fld fl119_3 rfl ?_
            refine p_stP (pre := sg a1.eats_ 2 ++ [I a1.collier_, SL A66 r62.length c67]) (old := [SL A10 a1.coal_.length c11]) (post := []) (vs := [SL A79 r75.length c80]) sz39 S89 (i := 2) rfl rfl rfl rfl (rfl : _ = SL A79 r75.length c80) rfl rfl rfl rfl fun w90 S91 => ?_
            refine wp_nil ?_
            refine reg ?_
            refine p_mS rfl ?_
            refine p_ldA ty29 sz29 (S91.atX (i := 5) rfl) rfl rfl ?_
            refine p_ldA ty119 sz119 (S91.atX (i := 2) rfl) rfl rfl ?_
            refine p_mI rfl ?_
            have S92 := S91.fixRd intE_len (i := 1) rfl
            have S93 := S92.fixRd intE_len (i := 0) rfl
            obtain ⟨r94, h95, H⟩ := bindS H
            refine p_cal (ih h95 (S93.atP (i := 4) rfl) (S93.atP (i := 5) rfl) (S93.atP (i := 1) rfl) (S93.atP (i := 0) rfl)) fu100 rfl ?_
            rintro _ w96 ⟨A98, c99, l100, rfl, k97, ⟨o101, n102⟩, ⟨o103, n104⟩, _⟩
            have S105 := S93.callN k97 [rd nRef06_truth 5 A98 c99 l100, ri nRef06_truthI l100 r94] (List.forall_mem_cons.2 ⟨⟨o101, New.inL n102⟩, (List.forall_mem_cons.2 ⟨⟨o103, Al.inL n104 ((List.forall_mem_cons.2 ⟨(fp_mem (i := 4) rfl), (List.forall_mem_cons.2 ⟨(fp_mem (i := 5) rfl), (List.forall_mem_cons.2 ⟨(fp_mem (i := 1) rfl), (List.forall_mem_cons.2 ⟨(fp_mem (i := 0) rfl), (fun _ h_ => (List.not_mem_nil h_).elim)⟩)⟩)⟩)⟩))⟩, (fun _ h_ => (List.not_mem_nil h_).elim)⟩)⟩)
            rcases Bool.eq_false_or_eq_true (r94.isEmpty) with c106 | c106
            · replace H := condT c106 H
              refine p_app0 sc112 in119 (gr_rd nRef06_truth_len (S105.atX (i := 1) rfl)).2.1 (ri_emp (S105.atP (i := 1) rfl) c106) rfl rfl ?_
              refine p_aS rfl ?_
              refine wp_nil ?_
              refine reg ?_
              refine p_mI rfl ?_
              refine p_add rfl rfl ?_
              refine p_aI rfl ?_
              refine wp_nil ?_
              have S111 := S105.pk [1, 2, 3] (by decide) [4, 5, 6, 7, 8, 9] rfl rfl
              exact ⟨(z_2.1, wr (z_2.2 + 1)), (y_2.1, y_2.2.1, y_2.2.2), _, rfl, ⟨rfl, rfl, rfl, rfl, rfl, rfl, trivial⟩, H, S111⟩
            · replace H := condF c106 H
              obtain ⟨h116, H⟩ := needS H
              refine p_app (enc := nRef06_truth) sc112 in119 rfl nRef06_truth_len nRef06_truth_one (by decide) S105 (k := 1) rfl (S105.atP (i := 0) rfl).1 (fits_ri h116 (congr (congrArg HAdd.hAdd (ri_len (S105.atP (i := 4) rfl))) (ri_len (S105.atP (i := 1) rfl)))) (ne_of_some (ri_emp (S105.atP (i := 1) rfl) c106)) rfl rfl fun A114 c115 w112 S113 => ?_
              have S117 := S113.riApp (i := 4) (j := 1) rfl rfl
              refine p_aS rfl ?_
              refine wp_nil ?_
              refine reg ?_
              refine p_mI rfl ?_
              refine p_add rfl rfl ?_
              refine p_aI rfl ?_
              refine wp_nil ?_
              have S118 := St.addPur (φ := Al w [rd eCoalDay 3 A1 c2 a0.Days, rd eCoalDip 3 A4 c5 a0.Dips, rd intE 1 A7 c8 a1.winds_, rd intE 1 A10 c11 a1.coal_] (ri nRef06_truthI (y_2.2.2 ++ l100) (z_2.1 ++ r94))) S117 (Al.riApp (Pur.of (S113.atP (i := 5) rfl)) (Al.up n104 S93.keep.size (List.forall_mem_cons.2 ⟨(Al.self (i := 0) rfl), (List.forall_mem_cons.2 ⟨(Al.self (i := 1) rfl), (List.forall_mem_cons.2 ⟨(New.al (New.rd (S91.newX (i := 1) rfl))), (List.forall_mem_cons.2 ⟨(New.al (New.rd (S92.newX (i := 0) rfl))), (fun _ h_ => (List.not_mem_nil h_).elim)⟩)⟩)⟩)⟩)))
              have S119 := S118.pk [1, 2, 3] (by decide) [1, 0, 8, 9, 10, 11] rfl rfl
              exact ⟨(z_2.1 ++ r94, wr (z_2.2 + 1)), (A114, c115, y_2.2.2 ++ l100), _, rfl, ⟨rfl, rfl, rfl, rfl, rfl, rfl, trivial⟩, H, S119⟩
          · replace H := condF c53 H
            refine c_skip ?_
            refine reg ?_
            refine p_mI rfl ?_
            refine p_add rfl rfl ?_
            refine p_aI rfl ?_
            refine wp_nil ?_
            exact ⟨(z_2.1, wr (z_2.2 + 1)), (y_2.1, y_2.2.1, y_2.2.2), _, rfl, ⟨rfl, rfl, rfl, rfl, rfl, rfl, trivial⟩, H, S52⟩
      · replace H := condF c37 H
        refine c_exit ?_
        refine c_seq ?_
        refine reg ?_
        refine p_mS rfl ?_
        refine p_aS rfl ?_
        refine wp_nil ?_
        obtain rfl := Option.some.inj H
        refine c_ret ?_; show bodyPostM (Fr none) 0 Tryd.prog Tryd.f100 _ .ret _ _
        refine ret_of (res1 rfl (rvT (rfl : _ = SL y_2.1 y_2.2.2.length y_2.2.1))) ?_
        exact ⟨_, rfl, y_2.1, y_2.2.1, y_2.2.2, rfl, S36.keep, ⟨(gr_rd nRef06_truth_len (S36.atX (i := 0) rfl)), (New.rd (S36.newX (i := 0) rfl))⟩, ⟨(S36.atP (i := 0) rfl), (Pur.of (S36.atP (i := 1) rfl))⟩, trivial⟩

def ref_truths_l77 (a0 : CoalBook) (z_2 : (List Ref06_truth) × Int) (z_3 : (List Ref06_truth) × Int) (z_1 : (List Ref06_truth) × Int) (rec_z_3 : ((List Ref06_truth) × Int) → Option (List Ref06_truth)) (rec_z_4 : ((List Ref06_truth) × Int) → Option (List Ref06_truth)) (z_4 : (List Ref06_truth) × Int) : Option (List Ref06_truth) :=
  bif decide (z_4.2 ≤ a0.Collier.High) then ((ref_gone big a0 (Ref06_truth.mk [z_2.2, z_3.2] z_4.2 ([] : List Int) ([] : List Int)) z_1.2).bind fun r37 =>
  bif r37.isEmpty then (rec_z_4 (z_4.1, wr (z_4.2 + 1)))
  else (need (fitsL (z_4.1.length + r37.length) 72) <|
  rec_z_4 (z_4.1 ++ r37, wr (z_4.2 + 1))))
  else (rec_z_3 (z_4.1, wr (z_3.2 + 1)))

def ref_truths_l78 (a0 : CoalBook) (z_2 : (List Ref06_truth) × Int) (z_1 : (List Ref06_truth) × Int) (rec_z_2 : ((List Ref06_truth) × Int) → Option (List Ref06_truth)) (rec_z_3 : ((List Ref06_truth) × Int) → Option (List Ref06_truth)) (z_3 : (List Ref06_truth) × Int) : Option (List Ref06_truth) :=
  bif decide (z_3.2 ≤ ((agetS a0.Eats (1 : Int)).High)) then (loopF (ref_truths_l77 a0 z_2 z_3 z_1 rec_z_3) big (z_3.1, a0.Collier.Low))
  else (rec_z_2 (z_3.1, wr (z_2.2 + 1)))

def ref_truths_l79 (a0 : CoalBook) (z_1 : (List Ref06_truth) × Int) (rec_z_1 : ((List Ref06_truth) × Int) → Option (List Ref06_truth)) (rec_z_2 : ((List Ref06_truth) × Int) → Option (List Ref06_truth)) (z_2 : (List Ref06_truth) × Int) : Option (List Ref06_truth) :=
  bif decide (z_2.2 ≤ ((agetS a0.Eats (0 : Int)).High)) then (loopF (ref_truths_l78 a0 z_2 z_1 rec_z_2) big (z_2.1, (agetS a0.Eats (1 : Int)).Low))
  else (rec_z_1 (z_2.1, wr (z_1.2 + 1)))

def ref_truths_l80 (a0 : CoalBook) (rec_z_1 : ((List Ref06_truth) × Int) → Option (List Ref06_truth)) (z_1 : (List Ref06_truth) × Int) : Option (List Ref06_truth) :=
  bif decide (z_1.2 ≤ a0.Heap.High) then (loopF (ref_truths_l79 a0 z_1 rec_z_1) big (z_1.1, (agetS a0.Eats (0 : Int)).Low))
  else (some z_1.1)

def ref_truths (a0 : CoalBook) : Option (List Ref06_truth) :=
  loopF (ref_truths_l80 a0) big (([] : List Ref06_truth), a0.Heap.Low)

set_option maxRecDepth 100000 in
theorem ref_truths_ok {a0 : CoalBook} {A1 : Option Addr} {c2 : Nat} {A4 : Option Addr} {c5 : Nat} {w : World} {r : (List Ref06_truth)} (H : ref_truths a0 = some r) (h3 : (rd eCoalDay 3 A1 c2 a0.Days).ok w) (h6 : (rd eCoalDip 3 A4 c5 a0.Dips).ok w) : Calls Tryd.prog 85 #[AG ([I a0.Heap.Low, I a0.Heap.High] ++ (sgE eSpan a0.Eats 2 ++ (sg a0.Extra 3 ++ [SL A1 a0.Days.length c2, I a0.Collier.Low, I a0.Collier.High, I a0.Brings, SL A4 a0.Dips.length c5])))] w fun en w_ => ∃ u_, en = .returned u_ ∧ ∃ A_1 : Option Addr, ∃ c_2 : Nat, ∃ l_3 : List (Ref06_truth × (Option Addr) × Nat × (Option Addr) × Nat), u_ = SL A_1 l_3.length c_2 ∧ Keep0 w w_ ∧ ((rd nRef06_truth 5 A_1 c_2 l_3).ok w_ ∧ New w.heap.size (rd nRef06_truth 5 A_1 c_2 l_3)) ∧ ((ri nRef06_truthI l_3 r).ok w_ ∧ Al w [rd eCoalDay 3 A1 c2 a0.Days, rd eCoalDip 3 A4 c5 a0.Dips] (ri nRef06_truthI l_3 r)) ∧ True := by
  unfold ref_truths at H
  refine fn_of (n := 63) Tryd.func85 rfl rfl (Nat.le_of_ble_eq_true rfl) ?_
  have S : St w (fun _ => False) w [] [rd eCoalDay 3 A1 c2 a0.Days, rd eCoalDip 3 A4 c5 a0.Dips] := St.start w _ _ (List.forall_mem_cons.2 ⟨h3, (List.forall_mem_cons.2 ⟨h6, (fun _ h_ => (List.not_mem_nil h_).elim)⟩)⟩)
  refine c_seq ?_
  refine reg ?_
  refine p_boxA rfl S fun b7 w8 S9 => ?_
  refine p_aS rfl ?_
  refine wp_nil ?_
  refine c_seq ?_
  refine reg ?_
  refine p_aS rfl ?_
  refine wp_nil ?_
  refine c_seq ?_
  refine c_seq ?_
  refine reg ?_
  refine p_fld fl29_0 rfl ?_
  refine p_fld fl23_0 rfl ?_
  refine p_ld ty3 (S9.atX (i := 0) rfl) rfl rfl ?_
  refine p_aI rfl ?_
  refine wp_nil ?_
  refine c_block ?_
  have S10 := S9.nilRow nRef06_truth 5 119
  have S11 := S10.riNil nRef06_truthI
  have S12 := St.addPur (φ := Al w [rd eCoalDay 3 A1 c2 a0.Days, rd eCoalDip 3 A4 c5 a0.Dips] (ri nRef06_truthI ([] : List (Ref06_truth × (Option Addr) × Nat × (Option Addr) × Nat)) ([] : List Ref06_truth))) S11 Al.riNil
  have S13 := S12.pk [0, 1] (by decide) [1, 0, 2, 3] rfl rfl
  refine c_lop (α := (List Ref06_truth) × Int) (β := (Option Addr) × Nat × (List (Ref06_truth × (Option Addr) × Nat × (Option Addr) × Nat))) (ref_truths_l80 a0) (fun z_1 y_1 => [(1, P b7 0), (3, SL y_1.1 y_1.2.2.length y_1.2.1), (4, I z_1.2)]) (fun z_1 y_1 w_ => St w (fun _ => False) w_ [gr nRef06_truth 5 119 y_1.1 y_1.2.1 y_1.2.2, bl b7 ([I a0.Heap.Low, I a0.Heap.High] ++ (sgE eSpan a0.Eats 2 ++ (sg a0.Extra 3 ++ [SL A1 a0.Days.length c2, I a0.Collier.Low, I a0.Collier.High, I a0.Brings, SL A4 a0.Dips.length c5]))) 29] [ri nRef06_truthI y_1.2.2 z_1.1, pur (Al w [rd eCoalDay 3 A1 c2 a0.Days, rd eCoalDip 3 A4 c5 a0.Dips] (ri nRef06_truthI y_1.2.2 z_1.1)), rd eCoalDay 3 A1 c2 a0.Days, rd eCoalDip 3 A4 c5 a0.Dips]) (([] : List Ref06_truth), a0.Heap.Low) (none, 0, ([] : List (Ref06_truth × (Option Addr) × Nat × (Option Addr) × Nat))) H ⟨rfl, rfl, rfl, trivial⟩ S13 ?_
  intro m14 z_1 y_1 e15 w16 H S17
  unfold ref_truths_l80 at H
  refine c_seq ?_
  refine c_seq ?_
  refine reg ?_
  refine p_mI rfl ?_
  refine p_fld fl29_0 rfl ?_
  refine p_fld fl23_1 rfl ?_
  refine p_ld ty3 (S17.atX (i := 1) rfl) rfl rfl ?_
  refine p_cmp rfl rfl rfl ?_
  refine wp_nil ?_
  refine c_cond rfl (fun c18 => ?_) (fun c18 => ?_)
  · replace H := condT c18 H
    refine c_skip ?_
    refine c_seq ?_
    refine c_block ?_
    refine c_seq ?_
    refine reg ?_
    refine p_fld fl29_1 rfl ?_
    refine p_ixc ar24 rfl rfl (by decide) (by decide) ?_
    refine p_fld fl23_0 rfl ?_
    refine p_ld ty3 (S17.atX (i := 1) rfl) rfl rfl ?_
    refine p_aI rfl ?_
    refine wp_nil ?_
    refine c_block ?_
    have S19 := S17.pk [0, 1] (by decide) [0, 1, 0, 1, 2, 3] rfl rfl
    refine c_lop (α := (List Ref06_truth) × Int) (β := (Option Addr) × Nat × (List (Ref06_truth × (Option Addr) × Nat × (Option Addr) × Nat))) (ref_truths_l79 a0 z_1 (loopF (ref_truths_l80 a0) m14)) (fun z_2 y_2 => [(1, P b7 0), (3, SL y_2.1 y_2.2.2.length y_2.2.1), (4, I z_1.2), (5, I z_2.2)]) (fun z_2 y_2 w_ => St w (fun _ => False) w_ [gr nRef06_truth 5 119 y_2.1 y_2.2.1 y_2.2.2, bl b7 ([I a0.Heap.Low, I a0.Heap.High] ++ (sgE eSpan a0.Eats 2 ++ (sg a0.Extra 3 ++ [SL A1 a0.Days.length c2, I a0.Collier.Low, I a0.Collier.High, I a0.Brings, SL A4 a0.Dips.length c5]))) 29] [ri nRef06_truthI y_2.2.2 z_2.1, pur (Al w [rd eCoalDay 3 A1 c2 a0.Days, rd eCoalDip 3 A4 c5 a0.Dips] (ri nRef06_truthI y_2.2.2 z_2.1)), ri nRef06_truthI y_1.2.2 z_1.1, pur (Al w [rd eCoalDay 3 A1 c2 a0.Days, rd eCoalDip 3 A4 c5 a0.Dips] (ri nRef06_truthI y_1.2.2 z_1.1)), rd eCoalDay 3 A1 c2 a0.Days, rd eCoalDip 3 A4 c5 a0.Dips]) (z_1.1, (agetS a0.Eats (0 : Int)).Low) (y_1.1, y_1.2.1, y_1.2.2) H ⟨rfl, rfl, rfl, rfl, trivial⟩ S19 ?_
    intro m20 z_2 y_2 e21 w22 H S23
    unfold ref_truths_l79 at H
    refine c_seq ?_
    refine c_seq ?_
    refine reg ?_
    refine p_mI rfl ?_
    refine p_fld fl29_1 rfl ?_
    refine p_ixc ar24 rfl rfl (by decide) (by decide) ?_
    refine p_fld fl23_1 rfl ?_
    refine p_ld ty3 (S23.atX (i := 1) rfl) rfl rfl ?_
    refine p_cmp rfl rfl rfl ?_
    refine wp_nil ?_
    refine c_cond rfl (fun c24 => ?_) (fun c24 => ?_)
    · replace H := condT c24 H
      refine c_skip ?_
      refine c_seq ?_
      refine c_block ?_
      refine c_seq ?_
      refine reg ?_
      refine p_fld fl29_1 rfl ?_
      refine p_ixc ar24 rfl rfl (by decide) (by decide) ?_
      refine p_fld fl23_0 rfl ?_
      refine p_ld ty3 (S23.atX (i := 1) rfl) rfl rfl ?_
      refine p_aI rfl ?_
      refine wp_nil ?_
      refine c_block ?_
      have S25 := S23.pk [0, 1] (by decide) [0, 1, 0, 1, 2, 3, 4, 5] rfl rfl
      refine c_lop (α := (List Ref06_truth) × Int) (β := (Option Addr) × Nat × (List (Ref06_truth × (Option Addr) × Nat × (Option Addr) × Nat))) (ref_truths_l78 a0 z_2 z_1 (loopF (ref_truths_l79 a0 z_1 (loopF (ref_truths_l80 a0) m14)) m20)) (fun z_3 y_3 => [(1, P b7 0), (3, SL y_3.1 y_3.2.2.length y_3.2.1), (4, I z_1.2), (5, I z_2.2), (6, I z_3.2)]) (fun z_3 y_3 w_ => St w (fun _ => False) w_ [gr nRef06_truth 5 119 y_3.1 y_3.2.1 y_3.2.2, bl b7 ([I a0.Heap.Low, I a0.Heap.High] ++ (sgE eSpan a0.Eats 2 ++ (sg a0.Extra 3 ++ [SL A1 a0.Days.length c2, I a0.Collier.Low, I a0.Collier.High, I a0.Brings, SL A4 a0.Dips.length c5]))) 29] [ri nRef06_truthI y_3.2.2 z_3.1, pur (Al w [rd eCoalDay 3 A1 c2 a0.Days, rd eCoalDip 3 A4 c5 a0.Dips] (ri nRef06_truthI y_3.2.2 z_3.1)), ri nRef06_truthI y_2.2.2 z_2.1, pur (Al w [rd eCoalDay 3 A1 c2 a0.Days, rd eCoalDip 3 A4 c5 a0.Dips] (ri nRef06_truthI y_2.2.2 z_2.1)), ri nRef06_truthI y_1.2.2 z_1.1, pur (Al w [rd eCoalDay 3 A1 c2 a0.Days, rd eCoalDip 3 A4 c5 a0.Dips] (ri nRef06_truthI y_1.2.2 z_1.1)), rd eCoalDay 3 A1 c2 a0.Days, rd eCoalDip 3 A4 c5 a0.Dips]) (z_2.1, (agetS a0.Eats (1 : Int)).Low) (y_2.1, y_2.2.1, y_2.2.2) H ⟨rfl, rfl, rfl, rfl, rfl, trivial⟩ S25 ?_
      intro m26 z_3 y_3 e27 w28 H S29
      unfold ref_truths_l78 at H
      refine c_seq ?_
      refine c_seq ?_
      refine reg ?_
      refine p_mI rfl ?_
      refine p_fld fl29_1 rfl ?_
      refine p_ixc ar24 rfl rfl (by decide) (by decide) ?_
      refine p_fld fl23_1 rfl ?_
      refine p_ld ty3 (S29.atX (i := 1) rfl) rfl rfl ?_
      refine p_cmp rfl rfl rfl ?_
      refine wp_nil ?_
      refine c_cond rfl (fun c30 => ?_) (fun c30 => ?_)
      · replace H := condT c30 H
        refine c_skip ?_
        refine c_seq ?_
        refine c_block ?_
        refine c_seq ?_
        refine reg ?_
        refine p_fld fl29_4 rfl ?_
        refine p_fld fl23_0 rfl ?_
        refine p_ld ty3 (S29.atX (i := 1) rfl) rfl rfl ?_
        refine p_aI rfl ?_
        refine wp_nil ?_
        refine c_block ?_
        have S31 := S29.pk [0, 1] (by decide) [0, 1, 0, 1, 2, 3, 4, 5, 6, 7] rfl rfl
        refine c_lop (α := (List Ref06_truth) × Int) (β := (Option Addr) × Nat × (List (Ref06_truth × (Option Addr) × Nat × (Option Addr) × Nat))) (ref_truths_l77 a0 z_2 z_3 z_1 (loopF (ref_truths_l78 a0 z_2 z_1 (loopF (ref_truths_l79 a0 z_1 (loopF (ref_truths_l80 a0) m14)) m20)) m26)) (fun z_4 y_4 => [(1, P b7 0), (3, SL y_4.1 y_4.2.2.length y_4.2.1), (4, I z_1.2), (5, I z_2.2), (6, I z_3.2), (7, I z_4.2)]) (fun z_4 y_4 w_ => St w (fun _ => False) w_ [gr nRef06_truth 5 119 y_4.1 y_4.2.1 y_4.2.2, bl b7 ([I a0.Heap.Low, I a0.Heap.High] ++ (sgE eSpan a0.Eats 2 ++ (sg a0.Extra 3 ++ [SL A1 a0.Days.length c2, I a0.Collier.Low, I a0.Collier.High, I a0.Brings, SL A4 a0.Dips.length c5]))) 29] [ri nRef06_truthI y_4.2.2 z_4.1, pur (Al w [rd eCoalDay 3 A1 c2 a0.Days, rd eCoalDip 3 A4 c5 a0.Dips] (ri nRef06_truthI y_4.2.2 z_4.1)), ri nRef06_truthI y_3.2.2 z_3.1, pur (Al w [rd eCoalDay 3 A1 c2 a0.Days, rd eCoalDip 3 A4 c5 a0.Dips] (ri nRef06_truthI y_3.2.2 z_3.1)), ri nRef06_truthI y_2.2.2 z_2.1, pur (Al w [rd eCoalDay 3 A1 c2 a0.Days, rd eCoalDip 3 A4 c5 a0.Dips] (ri nRef06_truthI y_2.2.2 z_2.1)), ri nRef06_truthI y_1.2.2 z_1.1, pur (Al w [rd eCoalDay 3 A1 c2 a0.Days, rd eCoalDip 3 A4 c5 a0.Dips] (ri nRef06_truthI y_1.2.2 z_1.1)), rd eCoalDay 3 A1 c2 a0.Days, rd eCoalDip 3 A4 c5 a0.Dips]) (z_3.1, a0.Collier.Low) (y_3.1, y_3.2.1, y_3.2.2) H ⟨rfl, rfl, rfl, rfl, rfl, rfl, trivial⟩ S31 ?_
        intro m32 z_4 y_4 e33 w34 H S35
        unfold ref_truths_l77 at H
        refine c_seq ?_
        refine c_seq ?_
        refine reg ?_
        refine p_mI rfl ?_
        refine p_fld fl29_4 rfl ?_
        refine p_fld fl23_1 rfl ?_
        refine p_ld ty3 (S35.atX (i := 1) rfl) rfl rfl ?_
        refine p_cmp rfl rfl rfl ?_
        refine wp_nil ?_
        refine c_cond rfl (fun c36 => ?_) (fun c36 => ?_)
        · replace H := condT c36 H
          refine c_skip ?_
          refine c_seq ?_
          refine c_block ?_
          refine reg ?_
          refine p_mS rfl ?_
          refine p_ldA ty29 sz29 (S35.atX (i := 1) rfl) rfl rfl ?_
          refine p_mI rfl ?_
          refine p_mI rfl ?_
          refine p_bldA (z := [I 0, I 0]) (cs := [I z_2.2, I z_3.2]) ba30 (rfl : _ = [(0, I z_2.2), (1, I z_3.2)]) (by kernel_rfl) ?_
          refine p_mI rfl ?_
          refine p_bld (cs := [I z_2.2, I z_3.2, I z_4.2, SL none 0 0, SL none 0 0]) st119 (rfl : _ = [(0, AG [I z_2.2, I z_3.2]), (1, I z_4.2)]) (by kernel_rfl) ?_
          refine p_mI rfl ?_
          obtain ⟨r37, h38, H⟩ := bindS H
          refine p_cal (ref_gone_ok h38 (S35.atP (i := 8) rfl) (S35.atP (i := 9) rfl) (rd_nil (Nat.zero_le _)) (rd_nil (Nat.zero_le _))) fu100 rfl ?_
          rintro _ w39 ⟨A41, c42, l43, rfl, k40, ⟨o44, n45⟩, ⟨o46, n47⟩, _⟩
          have S48 := S35.callN k40 [rd nRef06_truth 5 A41 c42 l43, ri nRef06_truthI l43 r37] (List.forall_mem_cons.2 ⟨⟨o44, New.inL n45⟩, (List.forall_mem_cons.2 ⟨⟨o46, Al.inL n47 ((List.forall_mem_cons.2 ⟨(fp_mem (i := 8) rfl), (List.forall_mem_cons.2 ⟨(fp_mem (i := 9) rfl), (List.forall_mem_cons.2 ⟨fp_nil, (List.forall_mem_cons.2 ⟨fp_nil, (fun _ h_ => (List.not_mem_nil h_).elim)⟩)⟩)⟩)⟩))⟩, (fun _ h_ => (List.not_mem_nil h_).elim)⟩)⟩)
          rcases Bool.eq_false_or_eq_true (r37.isEmpty) with c49 | c49
          · replace H := condT c49 H
            refine p_app0 sc112 in119 (gr_rd nRef06_truth_len (S48.atX (i := 0) rfl)).2.1 (ri_emp (S48.atP (i := 1) rfl) c49) rfl rfl ?_
            refine p_aS rfl ?_
            refine wp_nil ?_
            refine reg ?_
            refine p_mI rfl ?_
            refine p_add rfl rfl ?_
            refine p_aI rfl ?_
            refine wp_nil ?_
            have S54 := S48.pk [0, 1] (by decide) [2, 3, 4, 5, 6, 7, 8, 9, 10, 11] rfl rfl
            exact ⟨(z_4.1, wr (z_4.2 + 1)), (y_4.1, y_4.2.1, y_4.2.2), _, rfl, ⟨rfl, rfl, rfl, rfl, rfl, rfl, trivial⟩, H, S54⟩
          · replace H := condF c49 H
            obtain ⟨h59, H⟩ := needS H
            refine p_app (enc := nRef06_truth) sc112 in119 rfl nRef06_truth_len nRef06_truth_one (by decide) S48 (k := 0) rfl (S48.atP (i := 0) rfl).1 (fits_ri h59 (congr (congrArg HAdd.hAdd (ri_len (S48.atP (i := 2) rfl))) (ri_len (S48.atP (i := 1) rfl)))) (ne_of_some (ri_emp (S48.atP (i := 1) rfl) c49)) rfl rfl fun A57 c58 w55 S56 => ?_
            have S60 := S56.riApp (i := 2) (j := 1) rfl rfl
            refine p_aS rfl ?_
            refine wp_nil ?_
            refine reg ?_
            refine p_mI rfl ?_
            refine p_add rfl rfl ?_
            refine p_aI rfl ?_
            refine wp_nil ?_
            have S61 := St.addPur (φ := Al w [rd eCoalDay 3 A1 c2 a0.Days, rd eCoalDip 3 A4 c5 a0.Dips] (ri nRef06_truthI (y_4.2.2 ++ l43) (z_4.1 ++ r37))) S60 (Al.riApp (Pur.of (S56.atP (i := 3) rfl)) (Al.up n47 S35.keep.size (List.forall_mem_cons.2 ⟨(Al.self (i := 0) rfl), (List.forall_mem_cons.2 ⟨(Al.self (i := 1) rfl), (List.forall_mem_cons.2 ⟨Al.nil, (List.forall_mem_cons.2 ⟨Al.nil, (fun _ h_ => (List.not_mem_nil h_).elim)⟩)⟩)⟩)⟩)))
            have S62 := S61.pk [0, 1] (by decide) [1, 0, 6, 7, 8, 9, 10, 11, 12, 13] rfl rfl
            exact ⟨(z_4.1 ++ r37, wr (z_4.2 + 1)), (A57, c58, y_4.2.2 ++ l43), _, rfl, ⟨rfl, rfl, rfl, rfl, rfl, rfl, trivial⟩, H, S62⟩
        · replace H := condF c36 H
          refine c_exit ?_
          refine reg ?_
          refine p_mI rfl ?_
          refine p_add rfl rfl ?_
          refine p_aI rfl ?_
          refine wp_nil ?_
          have S63 := S35.pk [0, 1] (by decide) [0, 1, 4, 5, 6, 7, 8, 9] rfl rfl
          exact ⟨(z_4.1, wr (z_3.2 + 1)), (y_4.1, y_4.2.1, y_4.2.2), _, rfl, ⟨rfl, rfl, rfl, rfl, rfl, trivial⟩, H, S63⟩
      · replace H := condF c30 H
        refine c_exit ?_
        refine reg ?_
        refine p_mI rfl ?_
        refine p_add rfl rfl ?_
        refine p_aI rfl ?_
        refine wp_nil ?_
        have S64 := S29.pk [0, 1] (by decide) [0, 1, 4, 5, 6, 7] rfl rfl
        exact ⟨(z_3.1, wr (z_2.2 + 1)), (y_3.1, y_3.2.1, y_3.2.2), _, rfl, ⟨rfl, rfl, rfl, rfl, trivial⟩, H, S64⟩
    · replace H := condF c24 H
      refine c_exit ?_
      refine reg ?_
      refine p_mI rfl ?_
      refine p_add rfl rfl ?_
      refine p_aI rfl ?_
      refine wp_nil ?_
      have S65 := S23.pk [0, 1] (by decide) [0, 1, 4, 5] rfl rfl
      exact ⟨(z_2.1, wr (z_1.2 + 1)), (y_2.1, y_2.2.1, y_2.2.2), _, rfl, ⟨rfl, rfl, rfl, trivial⟩, H, S65⟩
  · replace H := condF c18 H
    refine c_exit ?_
    refine c_seq ?_
    refine reg ?_
    refine p_mS rfl ?_
    refine p_aS rfl ?_
    refine wp_nil ?_
    obtain rfl := Option.some.inj H
    refine c_ret ?_; show bodyPostM (Fr none) 0 Tryd.prog Tryd.f85 _ .ret _ _
    refine ret_of (res1 rfl (rvT (rfl : _ = SL y_1.1 y_1.2.2.length y_1.2.1))) ?_
    exact ⟨_, rfl, y_1.1, y_1.2.1, y_1.2.2, rfl, S17.keep, ⟨(gr_rd nRef06_truth_len (S17.atX (i := 0) rfl)), (New.rd (S17.newX (i := 0) rfl))⟩, ⟨(S17.atP (i := 0) rfl), (Pur.of (S17.atP (i := 1) rfl))⟩, trivial⟩

def ref_Right (a0 : CoalBook) : Option (Bool × Int) :=
  (ref_Check a0).bind fun r10 =>
  bif (r10 != 0) then (some (false, r10))
  else ((ref_truths a0).bind fun r15 =>
  some (decide ((r15.length : Int) > 0), 0))

set_option maxRecDepth 100000 in
theorem ref_Right_ok {a0 : CoalBook} {A1 : Option Addr} {c2 : Nat} {A4 : Option Addr} {c5 : Nat} {w : World} {r : Bool × Int} (H : ref_Right a0 = some r) (h3 : (rd eCoalDay 3 A1 c2 a0.Days).ok w) (h6 : (rd eCoalDip 3 A4 c5 a0.Dips).ok w) : Calls Tryd.prog 56 #[AG ([I a0.Heap.Low, I a0.Heap.High] ++ (sgE eSpan a0.Eats 2 ++ (sg a0.Extra 3 ++ [SL A1 a0.Days.length c2, I a0.Collier.Low, I a0.Collier.High, I a0.Brings, SL A4 a0.Dips.length c5])))] w (RetV w (TU [B r.1, I r.2])) := by
  unfold ref_Right at H
  refine fn_of (n := 14) Tryd.func56 rfl rfl (Nat.le_of_ble_eq_true rfl) ?_
  have S : St w (fun _ => False) w [] [rd eCoalDay 3 A1 c2 a0.Days, rd eCoalDip 3 A4 c5 a0.Dips] := St.start w _ _ (List.forall_mem_cons.2 ⟨h3, (List.forall_mem_cons.2 ⟨h6, (fun _ h_ => (List.not_mem_nil h_).elim)⟩)⟩)
  refine c_seq ?_
  refine reg ?_
  refine p_boxA rfl S fun b7 w8 S9 => ?_
  refine p_aB rfl ?_
  refine p_aI rfl ?_
  refine wp_nil ?_
  refine c_seq ?_
  refine c_seq ?_
  refine reg ?_
  refine p_ldA ty29 sz29 (S9.atX (i := 0) rfl) rfl rfl ?_
  obtain ⟨r10, h11, H⟩ := bindS H
  refine p_cv (ref_Check_ok h11 (S9.atP (i := 0) rfl) (S9.atP (i := 1) rfl)) fu57 rfl S9 fun w12 S13 => ?_
  refine p_aI rfl ?_
  refine wp_nil ?_
  refine c_seq ?_
  refine reg ?_
  refine p_mI rfl ?_
  refine p_cmp rfl rfl rfl ?_
  refine wp_nil ?_
  refine c_cond rfl (fun c14 => ?_) (fun c14 => ?_)
  · replace H := condT c14 H
    refine c_seq ?_
    refine reg ?_
    refine p_mI rfl ?_
    refine p_aB rfl ?_
    refine p_aI rfl ?_
    refine wp_nil ?_
    obtain rfl := Option.some.inj H
    refine c_ret ?_; show bodyPostM (Fr none) 0 Tryd.prog Tryd.f56 _ .ret _ _
    refine ret_of (res2 rfl (rvT (rfl : _ = B false)) (rvT (rfl : _ = I r10))) ?_
    exact ⟨_, rfl, rfl, S13.keep⟩
  · replace H := condF c14 H
    refine c_skip ?_
    refine c_seq ?_
    refine reg ?_
    refine p_ldA ty29 sz29 (S13.atX (i := 0) rfl) rfl rfl ?_
    obtain ⟨r15, h16, H⟩ := bindS H
    refine p_cal (ref_truths_ok h16 (S13.atP (i := 0) rfl) (S13.atP (i := 1) rfl)) fu85 rfl ?_
    rintro _ w17 ⟨A19, c20, l21, rfl, k18, ⟨o22, n23⟩, ⟨o24, n25⟩, _⟩
    have S26 := S13.callN k18 [rd nRef06_truth 5 A19 c20 l21, ri nRef06_truthI l21 r15] (List.forall_mem_cons.2 ⟨⟨o22, New.inL n23⟩, (List.forall_mem_cons.2 ⟨⟨o24, Al.inL n25 ((List.forall_mem_cons.2 ⟨(fp_mem (i := 0) rfl), (List.forall_mem_cons.2 ⟨(fp_mem (i := 1) rfl), (fun _ h_ => (List.not_mem_nil h_).elim)⟩)⟩))⟩, (fun _ h_ => (List.not_mem_nil h_).elim)⟩)⟩)
    refine p_lenN rfl sc112 (ri_len (S26.atP (i := 1) rfl)) ?_
    refine p_cmp rfl rfl rfl ?_
    refine p_aB rfl ?_
    refine p_aI rfl ?_
    refine wp_nil ?_
    obtain rfl := Option.some.inj H
    refine c_ret ?_; show bodyPostM (Fr none) 0 Tryd.prog Tryd.f56 _ .ret _ _
    refine ret_of (res2 rfl (rvT (rfl : _ = B (decide ((r15.length : Int) > 0)))) (rvT (rfl : _ = I 0))) ?_
    exact ⟨_, rfl, rfl, S26.keep⟩

def B_Range (a0 : Int) (a1 : Int) : Option Span :=
  some (Span.mk a0 a1)

set_option maxRecDepth 100000 in
theorem B_Range_ok {a0 : Int} {a1 : Int} {w : World} {r : Span} (H : B_Range a0 a1 = some r) : Calls Tryd.prog 44 #[I a0, I a1] w (RetV w (AG [I r.Low, I r.High])) := by
  unfold B_Range at H
  refine fn_of (n := 8) Tryd.func44 rfl rfl (Nat.le_of_ble_eq_true rfl) ?_
  have S : St w (fun _ => False) w [] [] := St.start w _ _ (fun _ h_ => (List.not_mem_nil h_).elim)
  refine c_seq ?_
  refine reg ?_
  refine p_allA in23 S fun b1 w2 S3 => ?_
  refine wp_nil ?_
  refine c_seq ?_
  refine reg ?_
  refine p_mI rfl ?_
  refine p_mI rfl ?_
  refine p_bld (cs := [I a0, I a1]) st23 (rfl : _ = [(0, I a0), (1, I a1)]) (by kernel_rfl) ?_
  refine p_stP (pre := []) (old := [I 0, I 0]) (post := []) (vs := [I a0, I a1]) sz23 S3 (i := 0) rfl rfl rfl rfl (rfl : _ = AG [I a0, I a1]) rfl rfl rfl rfl fun w4 S5 => ?_
  refine wp_nil ?_
  obtain rfl := Option.some.inj H
  refine c_ret ?_; show bodyPostM (Fr none) 0 Tryd.prog Tryd.f44 _ .ret _ _
  refine ret_of (res1 rfl (rvA rfl ty23 sz23 (S5.atX (i := 0) rfl) rfl)) ?_
  exact ⟨_, rfl, rfl, S5.keep⟩

def B_Point (a0 : Int) : Option Span :=
  (B_Range a0 a0).bind fun r4 =>
  some r4

set_option maxRecDepth 100000 in
theorem B_Point_ok {a0 : Int} {w : World} {r : Span} (H : B_Point a0 = some r) : Calls Tryd.prog 38 #[I a0] w (RetV w (AG [I r.Low, I r.High])) := by
  unfold B_Point at H
  refine fn_of (n := 6) Tryd.func38 rfl rfl (Nat.le_of_ble_eq_true rfl) ?_
  have S : St w (fun _ => False) w [] [] := St.start w _ _ (fun _ h_ => (List.not_mem_nil h_).elim)
  refine c_seq ?_
  refine reg ?_
  refine p_allA in23 S fun b1 w2 S3 => ?_
  refine wp_nil ?_
  refine c_seq ?_
  refine reg ?_
  refine p_mI rfl ?_
  refine p_mI rfl ?_
  obtain ⟨r4, h5, H⟩ := bindS H
  refine p_cv (B_Range_ok h5) fu44 rfl S3 fun w6 S7 => ?_
  refine p_stP (pre := []) (old := [I 0, I 0]) (post := []) (vs := [I r4.Low, I r4.High]) sz23 S7 (i := 0) rfl rfl rfl rfl (rfl : _ = AG [I r4.Low, I r4.High]) rfl rfl rfl rfl fun w8 S9 => ?_
  refine wp_nil ?_
  obtain rfl := Option.some.inj H
  refine c_ret ?_; show bodyPostM (Fr none) 0 Tryd.prog Tryd.f38 _ .ret _ _
  refine ret_of (res1 rfl (rvA rfl ty23 sz23 (S9.atX (i := 0) rfl) rfl)) ?_
  exact ⟨_, rfl, rfl, S9.keep⟩

def ref_asked (a0 : CoalBook) (a1 : Bool) : Option ((List Ref06_truth) × Int) :=
  (ref_Check a0).bind fun r10 =>
  bif (r10 != 0) then (some (([] : List _), r10))
  else (bif !a1 then (some (([] : List _), 61))
  else ((ref_truths a0).bind fun r16 =>
  bif ((r16.length : Int) == 0) then (some (([] : List _), 62))
  else (some (r16, 0))))

set_option maxRecDepth 100000 in
theorem ref_asked_ok {a0 : CoalBook} {a1 : Bool} {A1 : Option Addr} {c2 : Nat} {A4 : Option Addr} {c5 : Nat} {w : World} {r : (List Ref06_truth) × Int} (H : ref_asked a0 a1 = some r) (h3 : (rd eCoalDay 3 A1 c2 a0.Days).ok w) (h6 : (rd eCoalDip 3 A4 c5 a0.Dips).ok w) : Calls Tryd.prog 88 #[AG ([I a0.Heap.Low, I a0.Heap.High] ++ (sgE eSpan a0.Eats 2 ++ (sg a0.Extra 3 ++ [SL A1 a0.Days.length c2, I a0.Collier.Low, I a0.Collier.High, I a0.Brings, SL A4 a0.Dips.length c5]))), B a1] w fun en w_ => ∃ u_, en = .returned u_ ∧ ∃ A_1 : Option Addr, ∃ c_2 : Nat, ∃ l_3 : List (Ref06_truth × (Option Addr) × Nat × (Option Addr) × Nat), u_ = TU [SL A_1 l_3.length c_2, I r.2] ∧ Keep0 w w_ ∧ ((rd nRef06_truth 5 A_1 c_2 l_3).ok w_ ∧ New w.heap.size (rd nRef06_truth 5 A_1 c_2 l_3)) ∧ ((ri nRef06_truthI l_3 r.1).ok w_ ∧ Al w [rd eCoalDay 3 A1 c2 a0.Days, rd eCoalDip 3 A4 c5 a0.Dips] (ri nRef06_truthI l_3 r.1)) ∧ True := by
  unfold ref_asked at H
  refine fn_of (n := 21) Tryd.func88 rfl rfl (Nat.le_of_ble_eq_true rfl) ?_
  have S : St w (fun _ => False) w [] [rd eCoalDay 3 A1 c2 a0.Days, rd eCoalDip 3 A4 c5 a0.Dips] := St.start w _ _ (List.forall_mem_cons.2 ⟨h3, (List.forall_mem_cons.2 ⟨h6, (fun _ h_ => (List.not_mem_nil h_).elim)⟩)⟩)
  refine c_seq ?_
  refine reg ?_
  refine p_boxA rfl S fun b7 w8 S9 => ?_
  refine p_aS rfl ?_
  refine p_aI rfl ?_
  refine wp_nil ?_
  refine c_seq ?_
  refine c_seq ?_
  refine reg ?_
  refine p_ldA ty29 sz29 (S9.atX (i := 0) rfl) rfl rfl ?_
  obtain ⟨r10, h11, H⟩ := bindS H
  refine p_cv (ref_Check_ok h11 (S9.atP (i := 0) rfl) (S9.atP (i := 1) rfl)) fu57 rfl S9 fun w12 S13 => ?_
  refine p_aI rfl ?_
  refine wp_nil ?_
  refine c_seq ?_
  refine reg ?_
  refine p_mI rfl ?_
  refine p_cmp rfl rfl rfl ?_
  refine wp_nil ?_
  refine c_cond rfl (fun c14 => ?_) (fun c14 => ?_)
  · replace H := condT c14 H
    refine c_seq ?_
    refine reg ?_
    refine p_mI rfl ?_
    refine p_aS rfl ?_
    refine p_aI rfl ?_
    refine wp_nil ?_
    obtain rfl := Option.some.inj H
    refine c_ret ?_; show bodyPostM (Fr none) 0 Tryd.prog Tryd.f88 _ .ret _ _
    refine ret_of (res2 rfl (rvT (rfl : _ = SL none 0 0)) (rvT (rfl : _ = I r10))) ?_
    exact ⟨_, rfl, none, 0, ([] : List (Ref06_truth × (Option Addr) × Nat × (Option Addr) × Nat)), rfl, S13.keep, ⟨rd_nil (Nat.zero_le _), New.nil⟩, ⟨ri_nil, Al.riNil⟩, trivial⟩
  · replace H := condF c14 H
    refine c_skip ?_
    refine c_seq ?_
    refine c_seq ?_
    refine reg ?_
    refine p_mB rfl ?_
    refine p_not rfl ?_
    refine wp_nil ?_
    refine c_cond rfl (fun c15 => ?_) (fun c15 => ?_)
    · replace H := condT c15 H
      refine c_seq ?_
      refine reg ?_
      refine p_aS rfl ?_
      refine p_aI rfl ?_
      refine wp_nil ?_
      obtain rfl := Option.some.inj H
      refine c_ret ?_; show bodyPostM (Fr none) 0 Tryd.prog Tryd.f88 _ .ret _ _
      refine ret_of (res2 rfl (rvT (rfl : _ = SL none 0 0)) (rvT (rfl : _ = I 61))) ?_
      exact ⟨_, rfl, none, 0, ([] : List (Ref06_truth × (Option Addr) × Nat × (Option Addr) × Nat)), rfl, S13.keep, ⟨rd_nil (Nat.zero_le _), New.nil⟩, ⟨ri_nil, Al.riNil⟩, trivial⟩
    · replace H := condF c15 H
      refine c_skip ?_
      refine c_seq ?_
      refine reg ?_
      refine p_ldA ty29 sz29 (S13.atX (i := 0) rfl) rfl rfl ?_
      obtain ⟨r16, h17, H⟩ := bindS H
      refine p_cal (ref_truths_ok h17 (S13.atP (i := 0) rfl) (S13.atP (i := 1) rfl)) fu85 rfl ?_
      rintro _ w18 ⟨A20, c21, l22, rfl, k19, ⟨o23, n24⟩, ⟨o25, n26⟩, _⟩
      have S27 := S13.callN k19 [rd nRef06_truth 5 A20 c21 l22, ri nRef06_truthI l22 r16] (List.forall_mem_cons.2 ⟨⟨o23, New.inL n24⟩, (List.forall_mem_cons.2 ⟨⟨o25, Al.inL n26 ((List.forall_mem_cons.2 ⟨(fp_mem (i := 0) rfl), (List.forall_mem_cons.2 ⟨(fp_mem (i := 1) rfl), (fun _ h_ => (List.not_mem_nil h_).elim)⟩)⟩))⟩, (fun _ h_ => (List.not_mem_nil h_).elim)⟩)⟩)
      refine p_aS rfl ?_
      refine wp_nil ?_
      refine c_seq ?_
      refine c_seq ?_
      refine reg ?_
      refine p_mS rfl ?_
      refine p_lenN rfl sc112 (ri_len (S27.atP (i := 1) rfl)) ?_
      refine p_cmp rfl rfl rfl ?_
      refine wp_nil ?_
      refine c_cond rfl (fun c28 => ?_) (fun c28 => ?_)
      · replace H := condT c28 H
        refine c_seq ?_
        refine reg ?_
        refine p_aS rfl ?_
        refine p_aI rfl ?_
        refine wp_nil ?_
        obtain rfl := Option.some.inj H
        refine c_ret ?_; show bodyPostM (Fr none) 0 Tryd.prog Tryd.f88 _ .ret _ _
        refine ret_of (res2 rfl (rvT (rfl : _ = SL none 0 0)) (rvT (rfl : _ = I 62))) ?_
        exact ⟨_, rfl, none, 0, ([] : List (Ref06_truth × (Option Addr) × Nat × (Option Addr) × Nat)), rfl, S27.keep, ⟨rd_nil (Nat.zero_le _), New.nil⟩, ⟨ri_nil, Al.riNil⟩, trivial⟩
      · replace H := condF c28 H
        refine c_skip ?_
        refine c_seq ?_
        refine reg ?_
        refine p_mS rfl ?_
        refine p_aS rfl ?_
        refine p_aI rfl ?_
        refine wp_nil ?_
        obtain rfl := Option.some.inj H
        refine c_ret ?_; show bodyPostM (Fr none) 0 Tryd.prog Tryd.f88 _ .ret _ _
        refine ret_of (res2 rfl (rvT (rfl : _ = SL A20 l22.length c21)) (rvT (rfl : _ = I 0))) ?_
        exact ⟨_, rfl, A20, c21, l22, rfl, S27.keep, ⟨(S27.atP (i := 0) rfl), (New.mono n24 S13.keep.size)⟩, ⟨(S27.atP (i := 1) rfl), (Al.up n26 S13.keep.size (List.forall_mem_cons.2 ⟨(Al.self (i := 0) rfl), (List.forall_mem_cons.2 ⟨(Al.self (i := 1) rfl), (fun _ h_ => (List.not_mem_nil h_).elim)⟩)⟩))⟩, trivial⟩

def B_Hull (a0 : Span) (a1 : Span) : Option Span :=
  (B_Range (if a1.Low < a0.Low then a1.Low else a0.Low) (if a1.High > a0.High then a1.High else a0.High)).bind fun r10 =>
  some r10

set_option maxRecDepth 100000 in
theorem B_Hull_ok {a0 : Span} {a1 : Span} {w : World} {r : Span} (H : B_Hull a0 a1 = some r) : Calls Tryd.prog 90 #[AG [I a0.Low, I a0.High], AG [I a1.Low, I a1.High]] w (RetV w (AG [I r.Low, I r.High])) := by
  unfold B_Hull at H
  refine fn_of (n := 16) Tryd.func90 rfl rfl (Nat.le_of_ble_eq_true rfl) ?_
  have S : St w (fun _ => False) w [] [] := St.start w _ _ (fun _ h_ => (List.not_mem_nil h_).elim)
  refine c_seq ?_
  refine reg ?_
  refine p_boxA rfl S fun b1 w2 S3 => ?_
  refine p_boxA rfl S3 fun b4 w5 S6 => ?_
  refine p_allA in23 S6 fun b7 w8 S9 => ?_
  refine wp_nil ?_
  refine c_seq ?_
  refine reg ?_
  refine p_fld fl23_0 rfl ?_
  refine p_ld ty3 (S9.atX (i := 2) rfl) rfl rfl ?_
  refine p_fld fl23_0 rfl ?_
  refine p_ld ty3 (S9.atX (i := 1) rfl) rfl rfl ?_
  refine p_min rfl rfl ?_
  refine p_fld fl23_1 rfl ?_
  refine p_ld ty3 (S9.atX (i := 2) rfl) rfl rfl ?_
  refine p_fld fl23_1 rfl ?_
  refine p_ld ty3 (S9.atX (i := 1) rfl) rfl rfl ?_
  refine p_max rfl rfl ?_
  obtain ⟨r10, h11, H⟩ := bindS H
  refine p_cv (B_Range_ok h11) fu44 rfl S9 fun w12 S13 => ?_
  refine p_stP (pre := []) (old := [I 0, I 0]) (post := []) (vs := [I r10.Low, I r10.High]) sz23 S13 (i := 0) rfl rfl rfl rfl (rfl : _ = AG [I r10.Low, I r10.High]) rfl rfl rfl rfl fun w14 S15 => ?_
  refine wp_nil ?_
  obtain rfl := Option.some.inj H
  refine c_ret ?_; show bodyPostM (Fr none) 0 Tryd.prog Tryd.f90 _ .ret _ _
  refine ret_of (res1 rfl (rvA rfl ty23 sz23 (S15.atX (i := 0) rfl) rfl)) ?_
  exact ⟨_, rfl, rfl, S15.keep⟩

def ref_Heap_l1 (r21 : (List Ref06_truth) × Int) (a1 : Int) (rec_z_1 : (Int × Int × Int) → Option (Span × Int)) (z_1 : Int × Int × Int) : Option (Span × Int) :=
  bif decide (z_1.1 < (r21.1.length : Int)) then ((getI r21.1 z_1.1).bind fun r108 =>
  (getI r108.coal_ a1).bind fun r113 =>
  (B_Point r113).bind fun r115 =>
  (B_Hull (Span.mk z_1.2.1 z_1.2.2) r115).bind fun r117 =>
  rec_z_1 (wr (z_1.1 + 1), r117.Low, r117.High))
  else (some ((Span.mk z_1.2.1 z_1.2.2), 0))

def ref_Heap (a0 : CoalBook) (a1 : Int) : Option (Span × Int) :=
  (ref_isDay a0 a1).bind fun r15 =>
  (ref_asked a0 r15).bind fun r21 =>
  bif (r21.2 != 0) then (some ((Span.mk 0 0), r21.2))
  else ((getI r21.1 0).bind fun r86 =>
  (getI r86.coal_ a1).bind fun r91 =>
  (B_Point r91).bind fun r93 =>
  loopF (ref_Heap_l1 r21 a1) big (0, r93.Low, r93.High))

set_option maxRecDepth 100000 in
theorem ref_Heap_ok {a0 : CoalBook} {a1 : Int} {A1 : Option Addr} {c2 : Nat} {A4 : Option Addr} {c5 : Nat} {w : World} {r : Span × Int} (H : ref_Heap a0 a1 = some r) (h3 : (rd eCoalDay 3 A1 c2 a0.Days).ok w) (h6 : (rd eCoalDip 3 A4 c5 a0.Dips).ok w) : Calls Tryd.prog 58 #[AG ([I a0.Heap.Low, I a0.Heap.High] ++ (sgE eSpan a0.Eats 2 ++ (sg a0.Extra 3 ++ [SL A1 a0.Days.length c2, I a0.Collier.Low, I a0.Collier.High, I a0.Brings, SL A4 a0.Dips.length c5]))), I a1] w (RetV w (TU [AG [I r.1.Low, I r.1.High], I r.2])) := by
  unfold ref_Heap at H
  refine fn_of (n := 48) Tryd.func58 rfl rfl (Nat.le_of_ble_eq_true rfl) ?_
  have S : St w (fun _ => False) w [] [rd eCoalDay 3 A1 c2 a0.Days, rd eCoalDip 3 A4 c5 a0.Dips] := St.start w _ _ (List.forall_mem_cons.2 ⟨h3, (List.forall_mem_cons.2 ⟨h6, (fun _ h_ => (List.not_mem_nil h_).elim)⟩)⟩)
  refine c_seq ?_
  refine reg ?_
  refine p_boxA rfl S fun b7 w8 S9 => ?_
  refine p_allA in23 S9 fun b10 w11 S12 => ?_
  refine p_aI rfl ?_
  refine wp_nil ?_
  refine c_seq ?_
  obtain ⟨r15, h16, H⟩ := bindS H
  obtain ⟨r21, h22, H⟩ := bindS H
  refine reg_any mixed 10 (by kernel_rfl) [rv (AG ([I a0.Heap.Low, I a0.Heap.High] ++ (sgE eSpan a0.Eats 2 ++ (sg a0.Extra 3 ++ [SL A1 a0.Days.length c2, I a0.Collier.Low, I a0.Collier.High, I a0.Brings, SL A4 a0.Dips.length c5])))), rv (AG ([I a0.Heap.Low, I a0.Heap.High] ++ (sgE eSpan a0.Eats 2 ++ (sg a0.Extra 3 ++ [SL A1 a0.Days.length c2, I a0.Collier.Low, I a0.Collier.High, I a0.Brings, SL A4 a0.Dips.length c5])))), rv (I a1), rv (B r15), rx (α := (Option Addr) × (List (Ref06_truth × (Option Addr) × Nat × (Option Addr) × Nat)) × Nat) (fun ⟨A25, l27, c26⟩ => TU [SL A25 l27.length c26, I r21.2]) (fun ⟨A25, l27, c26⟩ lo hi => BtwL lo hi [] (rd nRef06_truth 5 A25 c26 l27) ∧ BtwL lo hi [rd eCoalDay 3 A1 c2 a0.Days, rd eCoalDip 3 A4 c5 a0.Dips] (ri nRef06_truthI l27 r21.1) ∧ True) (fun ⟨A25, l27, c26⟩ => [rd nRef06_truth 5 A25 c26 l27, ri nRef06_truthI l27 r21.1]), dv 15 some, dv 10 (exG 0), dv 10 (exG 1), dv 16 some, rv (I r21.2)] [[], [], [], [], [], [15], [10], [10], [16], []] rfl (by kernel_rfl) [[], [], [], [1, 2], [0, 1, 2, 3], [0, 1, 2, 3, 4], [0, 1, 2, 3, 4, 5], [0, 1, 2, 3, 4, 5], [0, 1, 2, 3, 4, 5, 6], [0, 1, 2, 3, 4, 5, 6, 7, 8]] (by kernel_rfl) ⟨?_, ?_, ?_, ?_, ?_, ?_, ?_, ?_, ?_, ?_, trivial⟩ ?_
  · intro e_ w_ k_ hf_ hR_
    have S_ : St w_ (fun _ => False) w_ [] [bl b10 [I 0, I 0] 23, bl b7 ([I a0.Heap.Low, I a0.Heap.High] ++ (sgE eSpan a0.Eats 2 ++ (sg a0.Extra 3 ++ [SL A1 a0.Days.length c2, I a0.Collier.Low, I a0.Collier.High, I a0.Brings, SL A4 a0.Dips.length c5]))) 29, rd eCoalDay 3 A1 c2 a0.Days, rd eCoalDip 3 A4 c5 a0.Dips] := S12.asP k_
    refine hopE [(2, P b7 0)] ⟨((hf_ 2 rfl).trans (rfl : _ = P b7 0)), trivial⟩ ?_
    refine p_ldA ty29 sz29 (S_.atP (i := 1) rfl) rfl rfl ?_
    refine wp_nil ?_
    exact ⟨_, rfl, S_.keep, rfl⟩
  · intro e_ w_ k_ hf_ hR_
    have S_ : St w_ (fun _ => False) w_ [] [bl b10 [I 0, I 0] 23, bl b7 ([I a0.Heap.Low, I a0.Heap.High] ++ (sgE eSpan a0.Eats 2 ++ (sg a0.Extra 3 ++ [SL A1 a0.Days.length c2, I a0.Collier.Low, I a0.Collier.High, I a0.Brings, SL A4 a0.Dips.length c5]))) 29, rd eCoalDay 3 A1 c2 a0.Days, rd eCoalDip 3 A4 c5 a0.Dips] := S12.asP k_
    refine hopE [(2, P b7 0)] ⟨((hf_ 2 rfl).trans (rfl : _ = P b7 0)), trivial⟩ ?_
    refine p_ldA ty29 sz29 (S_.atP (i := 1) rfl) rfl rfl ?_
    refine wp_nil ?_
    exact ⟨_, rfl, S_.keep, rfl⟩
  · intro e_ w_ k_ hf_ hR_
    have S_ : St w_ (fun _ => False) w_ [] [bl b10 [I 0, I 0] 23, bl b7 ([I a0.Heap.Low, I a0.Heap.High] ++ (sgE eSpan a0.Eats 2 ++ (sg a0.Extra 3 ++ [SL A1 a0.Days.length c2, I a0.Collier.Low, I a0.Collier.High, I a0.Brings, SL A4 a0.Dips.length c5]))) 29, rd eCoalDay 3 A1 c2 a0.Days, rd eCoalDip 3 A4 c5 a0.Dips] := S12.asP k_
    refine hopE [(1, I a1)] ⟨((hf_ 1 rfl).trans (rfl : _ = I a1)), trivial⟩ ?_
    refine p_mI rfl ?_
    refine wp_nil ?_
    exact ⟨_, rfl, S_.keep, rfl⟩
  · intro e_ w_ k_ hf_ hR_
    have S_ : St w_ (fun _ => False) w_ [] [bl b10 [I 0, I 0] 23, bl b7 ([I a0.Heap.Low, I a0.Heap.High] ++ (sgE eSpan a0.Eats 2 ++ (sg a0.Extra 3 ++ [SL A1 a0.Days.length c2, I a0.Collier.Low, I a0.Collier.High, I a0.Brings, SL A4 a0.Dips.length c5]))) 29, rd eCoalDay 3 A1 c2 a0.Days, rd eCoalDip 3 A4 c5 a0.Dips] := S12.asP k_
    obtain ⟨_, _, _, _, q13⟩ := hR_ 1 12 rfl (Nat.le_of_ble_eq_true rfl) rfl
    obtain ⟨_, _, _, _, q14⟩ := hR_ 2 13 rfl (Nat.le_of_ble_eq_true rfl) rfl
    refine hopE [(12, AG ([I a0.Heap.Low, I a0.Heap.High] ++ (sgE eSpan a0.Eats 2 ++ (sg a0.Extra 3 ++ [SL A1 a0.Days.length c2, I a0.Collier.Low, I a0.Collier.High, I a0.Brings, SL A4 a0.Dips.length c5])))), (13, I a1)] ⟨q13, q14, trivial⟩ ?_
    refine p_cv (ref_isDay_ok h16 (S_.atP (i := 2) rfl) (S_.atP (i := 3) rfl)) fu89 rfl S_ fun w17 S18 => ?_
    refine wp_nil ?_
    exact ⟨_, rfl, S18.keep, rfl⟩
  · intro e_ w_ k_ hf_ hR_
    have S_ : St w_ (fun _ => False) w_ [] [bl b10 [I 0, I 0] 23, bl b7 ([I a0.Heap.Low, I a0.Heap.High] ++ (sgE eSpan a0.Eats 2 ++ (sg a0.Extra 3 ++ [SL A1 a0.Days.length c2, I a0.Collier.Low, I a0.Collier.High, I a0.Brings, SL A4 a0.Dips.length c5]))) 29, rd eCoalDay 3 A1 c2 a0.Days, rd eCoalDip 3 A4 c5 a0.Dips] := S12.asP k_
    obtain ⟨_, _, _, _, q19⟩ := hR_ 0 11 rfl (Nat.le_of_ble_eq_true rfl) rfl
    obtain ⟨_, _, _, _, q20⟩ := hR_ 3 14 rfl (Nat.le_of_ble_eq_true rfl) rfl
    refine hopE [(11, AG ([I a0.Heap.Low, I a0.Heap.High] ++ (sgE eSpan a0.Eats 2 ++ (sg a0.Extra 3 ++ [SL A1 a0.Days.length c2, I a0.Collier.Low, I a0.Collier.High, I a0.Brings, SL A4 a0.Dips.length c5])))), (14, B r15)] ⟨q19, q20, trivial⟩ ?_
    refine p_cal (ref_asked_ok h22 (S_.atP (i := 2) rfl) (S_.atP (i := 3) rfl)) fu88 rfl ?_
    rintro _ w23 ⟨A25, c26, l27, rfl, k24, ⟨o28, n29⟩, ⟨o30, n31⟩, _⟩
    have S32 := S_.callN k24 [rd nRef06_truth 5 A25 c26 l27, ri nRef06_truthI l27 r21.1] (List.forall_mem_cons.2 ⟨⟨o28, New.inL n29⟩, (List.forall_mem_cons.2 ⟨⟨o30, Al.inL n31 ((List.forall_mem_cons.2 ⟨(fp_mem (i := 2) rfl), (List.forall_mem_cons.2 ⟨(fp_mem (i := 3) rfl), (fun _ h_ => (List.not_mem_nil h_).elim)⟩)⟩))⟩, (fun _ h_ => (List.not_mem_nil h_).elim)⟩)⟩)
    refine wp_nil ?_
    exact ⟨_, rfl, S32.keep, ⟨(A25, l27, c26), rfl, ⟨BtwL.of (New.al (New.mono n29 S_.keep.size)) rfl (S32.atP (i := 0) rfl) rfl, BtwL.of n31 rfl (S32.atP (i := 1) rfl) rfl, trivial⟩, (List.forall_mem_cons.2 ⟨(S32.atP (i := 0) rfl), (List.forall_mem_cons.2 ⟨(S32.atP (i := 1) rfl), (fun _ h_ => (List.not_mem_nil h_).elim)⟩)⟩)⟩⟩
  · intro e_ w_ k_ hf_ hR_
    have S_ : St w_ (fun _ => False) w_ [] [bl b10 [I 0, I 0] 23, bl b7 ([I a0.Heap.Low, I a0.Heap.High] ++ (sgE eSpan a0.Eats 2 ++ (sg a0.Extra 3 ++ [SL A1 a0.Days.length c2, I a0.Collier.Low, I a0.Collier.High, I a0.Brings, SL A4 a0.Dips.length c5]))) 29, rd eCoalDay 3 A1 c2 a0.Days, rd eCoalDip 3 A4 c5 a0.Dips] := S12.asP k_
    obtain ⟨_, _, _, _, ⟨A25, l27, c26⟩, q33, p34, a35⟩ := hR_ 4 15 rfl (Nat.le_of_ble_eq_true rfl) rfl
    replace q33 : e_ 15 = TU [SL A25 l27.length c26, I r21.2] := q33
    have S_ := St.addL' S_ (a35 _ (.head _)) (fun _ _ _ h_ => (List.not_mem_nil h_).elim)
    have S_ := St.addL' S_ (a35 _ (.tail _ (.head _))) (fun _ _ _ h_ => (List.not_mem_nil h_).elim)
    refine hopE [(15, TU [SL A25 l27.length c26, I r21.2])] ⟨q33, trivial⟩ ?_
    refine p_mT rfl ?_
    refine wp_nil ?_
    exact ⟨_, rfl, S_.keep, rfl⟩
  · intro e_ w_ k_ hf_ hR_
    have S_ : St w_ (fun _ => False) w_ [] [bl b10 [I 0, I 0] 23, bl b7 ([I a0.Heap.Low, I a0.Heap.High] ++ (sgE eSpan a0.Eats 2 ++ (sg a0.Extra 3 ++ [SL A1 a0.Days.length c2, I a0.Collier.Low, I a0.Collier.High, I a0.Brings, SL A4 a0.Dips.length c5]))) 29, rd eCoalDay 3 A1 c2 a0.Days, rd eCoalDip 3 A4 c5 a0.Dips] := S12.asP k_
    obtain ⟨_, _, _, _, ⟨A25, l27, c26⟩, q37, p38, a39⟩ := hR_ 4 15 rfl (Nat.le_of_ble_eq_true rfl) rfl
    replace q37 : e_ 15 = TU [SL A25 l27.length c26, I r21.2] := q37
    have S_ := St.addL' S_ (a39 _ (.head _)) (fun _ _ _ h_ => (List.not_mem_nil h_).elim)
    have S_ := St.addL' S_ (a39 _ (.tail _ (.head _))) (fun _ _ _ h_ => (List.not_mem_nil h_).elim)
    obtain ⟨_, _, _, _, q36⟩ := hR_ 5 10 rfl (Nat.le_of_ble_eq_true rfl) rfl
    replace q36 : e_ 10 = TU [SL A25 l27.length c26, I r21.2] := (Option.some.inj ((congrArg some q37).symm.trans q36)).symm
    refine hopE [(10, TU [SL A25 l27.length c26, I r21.2])] ⟨q36, trivial⟩ ?_
    refine p_ext rfl rfl ?_
    refine wp_nil ?_
    exact ⟨_, rfl, S_.keep, rfl⟩
  · intro e_ w_ k_ hf_ hR_
    have S_ : St w_ (fun _ => False) w_ [] [bl b10 [I 0, I 0] 23, bl b7 ([I a0.Heap.Low, I a0.Heap.High] ++ (sgE eSpan a0.Eats 2 ++ (sg a0.Extra 3 ++ [SL A1 a0.Days.length c2, I a0.Collier.Low, I a0.Collier.High, I a0.Brings, SL A4 a0.Dips.length c5]))) 29, rd eCoalDay 3 A1 c2 a0.Days, rd eCoalDip 3 A4 c5 a0.Dips] := S12.asP k_
    obtain ⟨_, _, _, _, ⟨A25, l27, c26⟩, q41, p42, a43⟩ := hR_ 4 15 rfl (Nat.le_of_ble_eq_true rfl) rfl
    replace q41 : e_ 15 = TU [SL A25 l27.length c26, I r21.2] := q41
    have S_ := St.addL' S_ (a43 _ (.head _)) (fun _ _ _ h_ => (List.not_mem_nil h_).elim)
    have S_ := St.addL' S_ (a43 _ (.tail _ (.head _))) (fun _ _ _ h_ => (List.not_mem_nil h_).elim)
    obtain ⟨_, _, _, _, q40⟩ := hR_ 5 10 rfl (Nat.le_of_ble_eq_true rfl) rfl
    replace q40 : e_ 10 = TU [SL A25 l27.length c26, I r21.2] := (Option.some.inj ((congrArg some q41).symm.trans q40)).symm
    refine hopE [(10, TU [SL A25 l27.length c26, I r21.2])] ⟨q40, trivial⟩ ?_
    refine p_ext rfl rfl ?_
    refine wp_nil ?_
    exact ⟨_, rfl, S_.keep, rfl⟩
  · intro e_ w_ k_ hf_ hR_
    have S_ : St w_ (fun _ => False) w_ [] [bl b10 [I 0, I 0] 23, bl b7 ([I a0.Heap.Low, I a0.Heap.High] ++ (sgE eSpan a0.Eats 2 ++ (sg a0.Extra 3 ++ [SL A1 a0.Days.length c2, I a0.Collier.Low, I a0.Collier.High, I a0.Brings, SL A4 a0.Dips.length c5]))) 29, rd eCoalDay 3 A1 c2 a0.Days, rd eCoalDip 3 A4 c5 a0.Dips] := S12.asP k_
    obtain ⟨_, _, _, _, ⟨A25, l27, c26⟩, q46, p47, a48⟩ := hR_ 4 15 rfl (Nat.le_of_ble_eq_true rfl) rfl
    replace q46 : e_ 15 = TU [SL A25 l27.length c26, I r21.2] := q46
    have S_ := St.addL' S_ (a48 _ (.head _)) (fun _ _ _ h_ => (List.not_mem_nil h_).elim)
    have S_ := St.addL' S_ (a48 _ (.tail _ (.head _))) (fun _ _ _ h_ => (List.not_mem_nil h_).elim)
    obtain ⟨_, _, _, _, q45⟩ := hR_ 5 10 rfl (Nat.le_of_ble_eq_true rfl) rfl
    replace q45 : e_ 10 = TU [SL A25 l27.length c26, I r21.2] := (Option.some.inj ((congrArg some q46).symm.trans q45)).symm
    obtain ⟨_, _, _, _, q44⟩ := hR_ 6 16 rfl (Nat.le_of_ble_eq_true rfl) rfl
    replace q44 : e_ 16 = SL A25 l27.length c26 := (Option.some.inj ((congrArg (exG 0) q45).symm.trans q44)).symm
    refine hopE [(16, SL A25 l27.length c26)] ⟨q44, trivial⟩ ?_
    refine p_aS rfl ?_
    refine wp_nil ?_
    exact ⟨_, rfl, S_.keep, rfl⟩
  · intro e_ w_ k_ hf_ hR_
    have S_ : St w_ (fun _ => False) w_ [] [bl b10 [I 0, I 0] 23, bl b7 ([I a0.Heap.Low, I a0.Heap.High] ++ (sgE eSpan a0.Eats 2 ++ (sg a0.Extra 3 ++ [SL A1 a0.Days.length c2, I a0.Collier.Low, I a0.Collier.High, I a0.Brings, SL A4 a0.Dips.length c5]))) 29, rd eCoalDay 3 A1 c2 a0.Days, rd eCoalDip 3 A4 c5 a0.Dips] := S12.asP k_
    obtain ⟨_, _, _, _, ⟨A25, l27, c26⟩, q51, p52, a53⟩ := hR_ 4 15 rfl (Nat.le_of_ble_eq_true rfl) rfl
    replace q51 : e_ 15 = TU [SL A25 l27.length c26, I r21.2] := q51
    have S_ := St.addL' S_ (a53 _ (.head _)) (fun _ _ _ h_ => (List.not_mem_nil h_).elim)
    have S_ := St.addL' S_ (a53 _ (.tail _ (.head _))) (fun _ _ _ h_ => (List.not_mem_nil h_).elim)
    obtain ⟨_, _, _, _, q50⟩ := hR_ 5 10 rfl (Nat.le_of_ble_eq_true rfl) rfl
    replace q50 : e_ 10 = TU [SL A25 l27.length c26, I r21.2] := (Option.some.inj ((congrArg some q51).symm.trans q50)).symm
    obtain ⟨_, _, _, _, q49⟩ := hR_ 7 17 rfl (Nat.le_of_ble_eq_true rfl) rfl
    replace q49 : e_ 17 = I r21.2 := (Option.some.inj ((congrArg (exG 1) q50).symm.trans q49)).symm
    refine hopE [(17, I r21.2)] ⟨q49, trivial⟩ ?_
    refine p_aI rfl ?_
    refine wp_nil ?_
    exact ⟨_, rfl, S_.keep, rfl⟩
  intro e54 w55 lo56 hi57 k58 hf59 hR60 hd61
  have S62 := S12.call k58
  have q63 : e54 11 = AG ([I a0.Heap.Low, I a0.Heap.High] ++ (sgE eSpan a0.Eats 2 ++ (sg a0.Extra 3 ++ [SL A1 a0.Days.length c2, I a0.Collier.Low, I a0.Collier.High, I a0.Brings, SL A4 a0.Dips.length c5]))) := (hR60 0 11 (Nat.le_of_ble_eq_true rfl) rfl).2.2.2
  have q64 : e54 12 = AG ([I a0.Heap.Low, I a0.Heap.High] ++ (sgE eSpan a0.Eats 2 ++ (sg a0.Extra 3 ++ [SL A1 a0.Days.length c2, I a0.Collier.Low, I a0.Collier.High, I a0.Brings, SL A4 a0.Dips.length c5]))) := (hR60 1 12 (Nat.le_of_ble_eq_true rfl) rfl).2.2.2
  have q65 : e54 13 = I a1 := (hR60 2 13 (Nat.le_of_ble_eq_true rfl) rfl).2.2.2
  have q66 : e54 14 = B r15 := (hR60 3 14 (Nat.le_of_ble_eq_true rfl) rfl).2.2.2
  obtain ⟨h68, h69, h70, ⟨A25, l27, c26⟩, q67, h71, h72⟩ := hR60 4 15 (Nat.le_of_ble_eq_true rfl) rfl
  replace q67 : e54 15 = TU [SL A25 l27.length c26, I r21.2] := q67
  obtain ⟨p73, p74, _⟩ := h71
  have S75 := St.addR S62 (h72 _ (.head _)) (fun b_ h_ x_ hx_ hb_ => (p73 b_ h_).elim (fun q_ => by have := x_.inb _ _ (S12.xs x_ hx_) hb_; omega) (fun ⟨q_, hq_, hqb_⟩ => S12.dp x_ hx_ q_ (((fun _ h_ => (List.not_mem_nil h_).elim)) q_ hq_) b_ hb_ hqb_))
  have S76 := St.addR S75 (h72 _ (.tail _ (.head _))) (fun b_ h_ x_ hx_ hb_ => (p74 b_ h_).elim (fun q_ => by have := x_.inb _ _ (S12.xs x_ hx_) hb_; omega) (fun ⟨q_, hq_, hqb_⟩ => S12.dp x_ hx_ q_ ((List.forall_mem_cons.2 ⟨List.mem_of_getElem? (i := 0) rfl, (List.forall_mem_cons.2 ⟨List.mem_of_getElem? (i := 1) rfl, (fun _ h_ => (List.not_mem_nil h_).elim)⟩)⟩) q_ hq_) b_ hb_ hqb_))
  have q77 : e54 10 = TU [SL A25 l27.length c26, I r21.2] := (Option.some.inj ((congrArg some q67).symm.trans (hR60 5 10 (Nat.le_of_ble_eq_true rfl) rfl).2.2.2)).symm
  have q78 : e54 16 = SL A25 l27.length c26 := (Option.some.inj ((congrArg (exG 0) q77).symm.trans (hR60 6 16 (Nat.le_of_ble_eq_true rfl) rfl).2.2.2)).symm
  have q79 : e54 17 = I r21.2 := (Option.some.inj ((congrArg (exG 1) q77).symm.trans (hR60 7 17 (Nat.le_of_ble_eq_true rfl) rfl).2.2.2)).symm
  have q80 : e54 6 = SL A25 l27.length c26 := (Option.some.inj ((congrArg some q78).symm.trans (hR60 8 6 (Nat.le_of_ble_eq_true rfl) rfl).2.2.2)).symm
  have q81 : e54 7 = I r21.2 := (hR60 9 7 (Nat.le_of_ble_eq_true rfl) rfl).2.2.2
  refine tailE [(1, I a1), (4, P b10 0), (6, SL A25 l27.length c26), (7, I r21.2)] ⟨((hf59 1 rfl).trans (rfl : _ = I a1)), ((hf59 4 rfl).trans (rfl : _ = P b10 0)), q80, q81, trivial⟩ ?_
  intro g82
  refine wp_nil ?_
  refine c_seq ?_
  refine c_seq ?_
  refine reg ?_
  refine p_mI rfl ?_
  refine p_cmp rfl rfl rfl ?_
  refine wp_nil ?_
  refine c_cond rfl (fun c83 => ?_) (fun c83 => ?_)
  · replace H := condT c83 H
    refine c_seq ?_
    refine reg ?_
    refine p_bld (cs := [I 0, I 0]) st23 (rfl : _ = []) (by kernel_rfl) ?_
    refine p_mI rfl ?_
    refine p_stP (pre := []) (old := [I 0, I 0]) (post := []) (vs := [I 0, I 0]) sz23 S76 (i := 0) rfl rfl rfl rfl (rfl : _ = AG [I 0, I 0]) rfl rfl rfl rfl fun w84 S85 => ?_
    refine p_aI rfl ?_
    refine wp_nil ?_
    obtain rfl := Option.some.inj H
    refine c_ret ?_; show bodyPostM (Fr none) 0 Tryd.prog Tryd.f58 _ .ret _ _
    refine ret_of (res2 rfl (rvA rfl ty23 sz23 (S85.atX (i := 0) rfl) rfl) (rvT (rfl : _ = I r21.2))) ?_
    exact ⟨_, rfl, rfl, S85.keep⟩
  · replace H := condF c83 H
    refine c_skip ?_
    refine c_seq ?_
    refine reg ?_
    refine p_mS rfl ?_
    obtain ⟨r86, h87, H⟩ := bindS H
    obtain ⟨d88, h89⟩ := ri_at (S76.atP (i := 0) rfl) h87
    refine p_ixE sc112 h89 (S76.atP (i := 1) rfl).1 rfl rfl rfl ?_
    refine p_fldE fl119_3 (sl_here (S76.atP (i := 1) rfl).1 h89) rfl ?_
    refine p_ldE ty39 h89 (S76.atP (i := 1) rfl).1 rfl rfl ?_
    have S90 := S76.riIn (j := 0) (k := 1) rfl h89 rfl
    refine p_mI rfl ?_
    obtain ⟨r91, h92, H⟩ := bindS H
    refine p_ixE sc39 h92 (S90.atP (i := 0) rfl).1 rfl rfl rfl ?_
    refine p_ldE ty3 h92 (S90.atP (i := 0) rfl).1 rfl rfl ?_
    obtain ⟨r93, h94, H⟩ := bindS H
    refine p_cv (B_Point_ok h94) fu38 rfl S90 fun w95 S96 => ?_
    refine p_allA in23 S96 fun b97 w98 S99 => ?_
    refine p_stP (pre := []) (old := [I 0, I 0]) (post := []) (vs := [I r93.Low, I r93.High]) sz23 S99 (i := 0) rfl rfl rfl rfl (rfl : _ = AG [I r93.Low, I r93.High]) rfl rfl rfl rfl fun w100 S101 => ?_
    refine wp_nil ?_
    refine c_seq ?_
    refine c_seq ?_
    refine reg ?_
    refine p_aI rfl ?_
    refine wp_nil ?_
    refine c_block ?_
    have S102 := S101.pk [0, 1] (by decide) [0, 1, 2, 3, 4] rfl rfl
    refine c_lop (α := Int × Int × Int) (β := Unit) (ref_Heap_l1 r21 a1) (fun z_1 y_1 => [(1, I a1), (4, P b10 0), (6, SL A25 l27.length c26), (8, P b97 0), (9, I z_1.1)]) (fun z_1 y_1 w_ => St w (fun _ => False) w_ [bl b97 [I z_1.2.1, I z_1.2.2] 23, bl b10 [I 0, I 0] 23] [rd intE 1 d88.2.2.1 d88.2.2.2 r86.coal_, ri nRef06_truthI l27 r21.1, rd nRef06_truth 5 A25 c26 l27, rd eCoalDay 3 A1 c2 a0.Days, rd eCoalDip 3 A4 c5 a0.Dips]) (0, r93.Low, r93.High) () H ⟨rfl, rfl, rfl, rfl, rfl, trivial⟩ S102 ?_
    intro m103 z_1 y_1 e104 w105 H S106
    unfold ref_Heap_l1 at H
    refine c_seq ?_
    refine c_seq ?_
    refine reg ?_
    refine p_mI rfl ?_
    refine p_mS rfl ?_
    refine p_lenN rfl sc112 (ri_len (S106.atP (i := 1) rfl)) ?_
    refine p_cmp rfl rfl rfl ?_
    refine wp_nil ?_
    refine c_cond rfl (fun c107 => ?_) (fun c107 => ?_)
    · replace H := condT c107 H
      refine c_skip ?_
      refine c_seq ?_
      refine c_block ?_
      obtain ⟨r108, h109, H⟩ := bindS H
      obtain ⟨d110, h111⟩ := ri_at (S106.atP (i := 1) rfl) h109
      have S112 := S106.riIn (j := 1) (k := 1) rfl h111 rfl
      obtain ⟨r113, h114, H⟩ := bindS H
      obtain ⟨r115, h116, H⟩ := bindS H
      obtain ⟨r117, h118, H⟩ := bindS H
      refine reg_q mixed 11 (by kernel_rfl) ?_
      refine dS (fun _ k_ => p_ldA ty23 sz23 (Asr.stays (S106.atX (i := 0) rfl) k_) rfl rfl dn) ?_
      refine dS (fun _ k_ => p_mS rfl dn) ?_
      refine dS (fun _ k_ => p_mI rfl dn) ?_
      refine dS (fun _ k_ => p_ixE sc112 h111 (Asr.stays (S106.atP (i := 2) rfl) k_).1 rfl rfl rfl dn) ?_
      refine dS (fun _ k_ => p_fldE fl119_3 (sl_here (Asr.stays (S106.atP (i := 2) rfl) k_).1 h111) rfl dn) ?_
      refine dS (fun _ k_ => p_ldE ty39 h111 (Asr.stays (S106.atP (i := 2) rfl) k_).1 rfl rfl dn) ?_
      refine dS (fun _ k_ => p_mI rfl dn) ?_
      refine dS (fun _ k_ => p_ixE sc39 h114 (Asr.stays (S112.atP (i := 0) rfl) k_).1 rfl rfl rfl dn) ?_
      refine dS (fun _ k_ => p_ldE ty3 h114 (Asr.stays (S112.atP (i := 0) rfl) k_).1 rfl rfl dn) ?_
      refine dS (fun _ k_ => p_cvD (B_Point_ok h116) fu38 rfl) ?_
      refine dS (fun _ k_ => p_cvD (B_Hull_ok h118) fu90 rfl) ?_
      intro w119 k120; have S121 := S112.call k120
      refine p_stP (pre := []) (old := [I z_1.2.1, I z_1.2.2]) (post := []) (vs := [I r117.Low, I r117.High]) sz23 S121 (i := 0) rfl rfl rfl rfl (rfl : _ = AG [I r117.Low, I r117.High]) rfl rfl rfl rfl fun w122 S123 => ?_
      refine wp_nil ?_
      refine reg ?_
      refine p_mI rfl ?_
      refine p_add rfl rfl ?_
      refine p_aI rfl ?_
      refine wp_nil ?_
      have S124 := S123.pk [0, 1] (by decide) [1, 2, 3, 4, 5] rfl rfl
      exact ⟨(wr (z_1.1 + 1), r117.Low, r117.High), (), _, rfl, ⟨rfl, rfl, rfl, rfl, rfl, trivial⟩, H, S124⟩
    · replace H := condF c107 H
      refine c_exit ?_
      refine c_seq ?_
      refine reg ?_
      refine p_ldA ty23 sz23 (S106.atX (i := 0) rfl) rfl rfl ?_
      refine p_stP (pre := []) (old := [I 0, I 0]) (post := []) (vs := [I z_1.2.1, I z_1.2.2]) sz23 S106 (i := 1) rfl rfl rfl rfl (rfl : _ = AG [I z_1.2.1, I z_1.2.2]) rfl rfl rfl rfl fun w125 S126 => ?_
      refine p_aI rfl ?_
      refine wp_nil ?_
      obtain rfl := Option.some.inj H
      refine c_ret ?_; show bodyPostM (Fr none) 0 Tryd.prog Tryd.f58 _ .ret _ _
      refine ret_of (res2 rfl (rvA rfl ty23 sz23 (S126.atX (i := 1) rfl) rfl) (rvT (rfl : _ = I 0))) ?_
      exact ⟨_, rfl, rfl, S126.keep⟩

def ref_Eats_l1 (r20 : (List Ref06_truth) × Int) (a1 : Int) (rec_z_1 : (Int × Int × Int) → Option (Span × Int)) (z_1 : Int × Int × Int) : Option (Span × Int) :=
  bif decide (z_1.1 < (r20.1.length : Int)) then ((getI r20.1 z_1.1).bind fun r104 =>
  need (inI a1 2) <|
  (B_Point (aget r104.eats_ a1)).bind fun r109 =>
  (B_Hull (Span.mk z_1.2.1 z_1.2.2) r109).bind fun r111 =>
  rec_z_1 (wr (z_1.1 + 1), r111.Low, r111.High))
  else (some ((Span.mk z_1.2.1 z_1.2.2), 0))

def ref_Eats (a0 : CoalBook) (a1 : Int) : Option (Span × Int) :=
  (B_Inside a1 0 1).bind fun r14 =>
  (ref_asked a0 r14).bind fun r20 =>
  bif (r20.2 != 0) then (some ((Span.mk 0 0), r20.2))
  else ((getI r20.1 0).bind fun r84 =>
  need (inI a1 2) <|
  (B_Point (aget r84.eats_ a1)).bind fun r89 =>
  loopF (ref_Eats_l1 r20 a1) big (0, r89.Low, r89.High))

set_option maxRecDepth 100000 in
theorem ref_Eats_ok {a0 : CoalBook} {a1 : Int} {A1 : Option Addr} {c2 : Nat} {A4 : Option Addr} {c5 : Nat} {w : World} {r : Span × Int} (H : ref_Eats a0 a1 = some r) (h3 : (rd eCoalDay 3 A1 c2 a0.Days).ok w) (h6 : (rd eCoalDip 3 A4 c5 a0.Dips).ok w) : Calls Tryd.prog 59 #[AG ([I a0.Heap.Low, I a0.Heap.High] ++ (sgE eSpan a0.Eats 2 ++ (sg a0.Extra 3 ++ [SL A1 a0.Days.length c2, I a0.Collier.Low, I a0.Collier.High, I a0.Brings, SL A4 a0.Dips.length c5]))), I a1] w (RetV w (TU [AG [I r.1.Low, I r.1.High], I r.2])) := by
  unfold ref_Eats at H
  refine fn_of (n := 45) Tryd.func59 rfl rfl (Nat.le_of_ble_eq_true rfl) ?_
  have S : St w (fun _ => False) w [] [rd eCoalDay 3 A1 c2 a0.Days, rd eCoalDip 3 A4 c5 a0.Dips] := St.start w _ _ (List.forall_mem_cons.2 ⟨h3, (List.forall_mem_cons.2 ⟨h6, (fun _ h_ => (List.not_mem_nil h_).elim)⟩)⟩)
  refine c_seq ?_
  refine reg ?_
  refine p_boxA rfl S fun b7 w8 S9 => ?_
  refine p_allA in23 S9 fun b10 w11 S12 => ?_
  refine p_aI rfl ?_
  refine wp_nil ?_
  refine c_seq ?_
  obtain ⟨r14, h15, H⟩ := bindS H
  obtain ⟨r20, h21, H⟩ := bindS H
  refine reg_any mixed 9 (by kernel_rfl) [rv (AG ([I a0.Heap.Low, I a0.Heap.High] ++ (sgE eSpan a0.Eats 2 ++ (sg a0.Extra 3 ++ [SL A1 a0.Days.length c2, I a0.Collier.Low, I a0.Collier.High, I a0.Brings, SL A4 a0.Dips.length c5])))), rv (I a1), rv (B r14), rx (α := (Option Addr) × (List (Ref06_truth × (Option Addr) × Nat × (Option Addr) × Nat)) × Nat) (fun ⟨A24, l26, c25⟩ => TU [SL A24 l26.length c25, I r20.2]) (fun ⟨A24, l26, c25⟩ lo hi => BtwL lo hi [] (rd nRef06_truth 5 A24 c25 l26) ∧ BtwL lo hi [rd eCoalDay 3 A1 c2 a0.Days, rd eCoalDip 3 A4 c5 a0.Dips] (ri nRef06_truthI l26 r20.1) ∧ True) (fun ⟨A24, l26, c25⟩ => [rd nRef06_truth 5 A24 c25 l26, ri nRef06_truthI l26 r20.1]), dv 14 some, dv 10 (exG 0), dv 10 (exG 1), dv 15 some, rv (I r20.2)] [[], [], [], [], [14], [10], [10], [15], []] rfl (by kernel_rfl) [[], [], [1], [0, 1, 2], [0, 1, 2, 3], [0, 1, 2, 3, 4], [0, 1, 2, 3, 4], [0, 1, 2, 3, 4, 5], [0, 1, 2, 3, 4, 5, 6, 7]] (by kernel_rfl) ⟨?_, ?_, ?_, ?_, ?_, ?_, ?_, ?_, ?_, trivial⟩ ?_
  · intro e_ w_ k_ hf_ hR_
    have S_ : St w_ (fun _ => False) w_ [] [bl b10 [I 0, I 0] 23, bl b7 ([I a0.Heap.Low, I a0.Heap.High] ++ (sgE eSpan a0.Eats 2 ++ (sg a0.Extra 3 ++ [SL A1 a0.Days.length c2, I a0.Collier.Low, I a0.Collier.High, I a0.Brings, SL A4 a0.Dips.length c5]))) 29, rd eCoalDay 3 A1 c2 a0.Days, rd eCoalDip 3 A4 c5 a0.Dips] := S12.asP k_
    refine hopE [(2, P b7 0)] ⟨((hf_ 2 rfl).trans (rfl : _ = P b7 0)), trivial⟩ ?_
    refine p_ldA ty29 sz29 (S_.atP (i := 1) rfl) rfl rfl ?_
    refine wp_nil ?_
    exact ⟨_, rfl, S_.keep, rfl⟩
  · intro e_ w_ k_ hf_ hR_
    have S_ : St w_ (fun _ => False) w_ [] [bl b10 [I 0, I 0] 23, bl b7 ([I a0.Heap.Low, I a0.Heap.High] ++ (sgE eSpan a0.Eats 2 ++ (sg a0.Extra 3 ++ [SL A1 a0.Days.length c2, I a0.Collier.Low, I a0.Collier.High, I a0.Brings, SL A4 a0.Dips.length c5]))) 29, rd eCoalDay 3 A1 c2 a0.Days, rd eCoalDip 3 A4 c5 a0.Dips] := S12.asP k_
    refine hopE [(1, I a1)] ⟨((hf_ 1 rfl).trans (rfl : _ = I a1)), trivial⟩ ?_
    refine p_mI rfl ?_
    refine wp_nil ?_
    exact ⟨_, rfl, S_.keep, rfl⟩
  · intro e_ w_ k_ hf_ hR_
    have S_ : St w_ (fun _ => False) w_ [] [bl b10 [I 0, I 0] 23, bl b7 ([I a0.Heap.Low, I a0.Heap.High] ++ (sgE eSpan a0.Eats 2 ++ (sg a0.Extra 3 ++ [SL A1 a0.Days.length c2, I a0.Collier.Low, I a0.Collier.High, I a0.Brings, SL A4 a0.Dips.length c5]))) 29, rd eCoalDay 3 A1 c2 a0.Days, rd eCoalDip 3 A4 c5 a0.Dips] := S12.asP k_
    obtain ⟨_, _, _, _, q13⟩ := hR_ 1 12 rfl (Nat.le_of_ble_eq_true rfl) rfl
    refine hopE [(12, I a1)] ⟨q13, trivial⟩ ?_
    refine p_cv (B_Inside_ok h15) fu34 rfl S_ fun w16 S17 => ?_
    refine wp_nil ?_
    exact ⟨_, rfl, S17.keep, rfl⟩
  · intro e_ w_ k_ hf_ hR_
    have S_ : St w_ (fun _ => False) w_ [] [bl b10 [I 0, I 0] 23, bl b7 ([I a0.Heap.Low, I a0.Heap.High] ++ (sgE eSpan a0.Eats 2 ++ (sg a0.Extra 3 ++ [SL A1 a0.Days.length c2, I a0.Collier.Low, I a0.Collier.High, I a0.Brings, SL A4 a0.Dips.length c5]))) 29, rd eCoalDay 3 A1 c2 a0.Days, rd eCoalDip 3 A4 c5 a0.Dips] := S12.asP k_
    obtain ⟨_, _, _, _, q18⟩ := hR_ 0 11 rfl (Nat.le_of_ble_eq_true rfl) rfl
    obtain ⟨_, _, _, _, q19⟩ := hR_ 2 13 rfl (Nat.le_of_ble_eq_true rfl) rfl
    refine hopE [(11, AG ([I a0.Heap.Low, I a0.Heap.High] ++ (sgE eSpan a0.Eats 2 ++ (sg a0.Extra 3 ++ [SL A1 a0.Days.length c2, I a0.Collier.Low, I a0.Collier.High, I a0.Brings, SL A4 a0.Dips.length c5])))), (13, B r14)] ⟨q18, q19, trivial⟩ ?_
    refine p_cal (ref_asked_ok h21 (S_.atP (i := 2) rfl) (S_.atP (i := 3) rfl)) fu88 rfl ?_
    rintro _ w22 ⟨A24, c25, l26, rfl, k23, ⟨o27, n28⟩, ⟨o29, n30⟩, _⟩
    have S31 := S_.callN k23 [rd nRef06_truth 5 A24 c25 l26, ri nRef06_truthI l26 r20.1] (List.forall_mem_cons.2 ⟨⟨o27, New.inL n28⟩, (List.forall_mem_cons.2 ⟨⟨o29, Al.inL n30 ((List.forall_mem_cons.2 ⟨(fp_mem (i := 2) rfl), (List.forall_mem_cons.2 ⟨(fp_mem (i := 3) rfl), (fun _ h_ => (List.not_mem_nil h_).elim)⟩)⟩))⟩, (fun _ h_ => (List.not_mem_nil h_).elim)⟩)⟩)
    refine wp_nil ?_
    exact ⟨_, rfl, S31.keep, ⟨(A24, l26, c25), rfl, ⟨BtwL.of (New.al (New.mono n28 S_.keep.size)) rfl (S31.atP (i := 0) rfl) rfl, BtwL.of n30 rfl (S31.atP (i := 1) rfl) rfl, trivial⟩, (List.forall_mem_cons.2 ⟨(S31.atP (i := 0) rfl), (List.forall_mem_cons.2 ⟨(S31.atP (i := 1) rfl), (fun _ h_ => (List.not_mem_nil h_).elim)⟩)⟩)⟩⟩
  · intro e_ w_ k_ hf_ hR_
    have S_ : St w_ (fun _ => False) w_ [] [bl b10 [I 0, I 0] 23, bl b7 ([I a0.Heap.Low, I a0.Heap.High] ++ (sgE eSpan a0.Eats 2 ++ (sg a0.Extra 3 ++ [SL A1 a0.Days.length c2, I a0.Collier.Low, I a0.Collier.High, I a0.Brings, SL A4 a0.Dips.length c5]))) 29, rd eCoalDay 3 A1 c2 a0.Days, rd eCoalDip 3 A4 c5 a0.Dips] := S12.asP k_
    obtain ⟨_, _, _, _, ⟨A24, l26, c25⟩, q32, p33, a34⟩ := hR_ 3 14 rfl (Nat.le_of_ble_eq_true rfl) rfl
    replace q32 : e_ 14 = TU [SL A24 l26.length c25, I r20.2] := q32
    have S_ := St.addL' S_ (a34 _ (.head _)) (fun _ _ _ h_ => (List.not_mem_nil h_).elim)
    have S_ := St.addL' S_ (a34 _ (.tail _ (.head _))) (fun _ _ _ h_ => (List.not_mem_nil h_).elim)
    refine hopE [(14, TU [SL A24 l26.length c25, I r20.2])] ⟨q32, trivial⟩ ?_
    refine p_mT rfl ?_
    refine wp_nil ?_
    exact ⟨_, rfl, S_.keep, rfl⟩
  · intro e_ w_ k_ hf_ hR_
    have S_ : St w_ (fun _ => False) w_ [] [bl b10 [I 0, I 0] 23, bl b7 ([I a0.Heap.Low, I a0.Heap.High] ++ (sgE eSpan a0.Eats 2 ++ (sg a0.Extra 3 ++ [SL A1 a0.Days.length c2, I a0.Collier.Low, I a0.Collier.High, I a0.Brings, SL A4 a0.Dips.length c5]))) 29, rd eCoalDay 3 A1 c2 a0.Days, rd eCoalDip 3 A4 c5 a0.Dips] := S12.asP k_
    obtain ⟨_, _, _, _, ⟨A24, l26, c25⟩, q36, p37, a38⟩ := hR_ 3 14 rfl (Nat.le_of_ble_eq_true rfl) rfl
    replace q36 : e_ 14 = TU [SL A24 l26.length c25, I r20.2] := q36
    have S_ := St.addL' S_ (a38 _ (.head _)) (fun _ _ _ h_ => (List.not_mem_nil h_).elim)
    have S_ := St.addL' S_ (a38 _ (.tail _ (.head _))) (fun _ _ _ h_ => (List.not_mem_nil h_).elim)
    obtain ⟨_, _, _, _, q35⟩ := hR_ 4 10 rfl (Nat.le_of_ble_eq_true rfl) rfl
    replace q35 : e_ 10 = TU [SL A24 l26.length c25, I r20.2] := (Option.some.inj ((congrArg some q36).symm.trans q35)).symm
    refine hopE [(10, TU [SL A24 l26.length c25, I r20.2])] ⟨q35, trivial⟩ ?_
    refine p_ext rfl rfl ?_
    refine wp_nil ?_
    exact ⟨_, rfl, S_.keep, rfl⟩
  · intro e_ w_ k_ hf_ hR_
    have S_ : St w_ (fun _ => False) w_ [] [bl b10 [I 0, I 0] 23, bl b7 ([I a0.Heap.Low, I a0.Heap.High] ++ (sgE eSpan a0.Eats 2 ++ (sg a0.Extra 3 ++ [SL A1 a0.Days.length c2, I a0.Collier.Low, I a0.Collier.High, I a0.Brings, SL A4 a0.Dips.length c5]))) 29, rd eCoalDay 3 A1 c2 a0.Days, rd eCoalDip 3 A4 c5 a0.Dips] := S12.asP k_
    obtain ⟨_, _, _, _, ⟨A24, l26, c25⟩, q40, p41, a42⟩ := hR_ 3 14 rfl (Nat.le_of_ble_eq_true rfl) rfl
    replace q40 : e_ 14 = TU [SL A24 l26.length c25, I r20.2] := q40
    have S_ := St.addL' S_ (a42 _ (.head _)) (fun _ _ _ h_ => (List.not_mem_nil h_).elim)
    have S_ := St.addL' S_ (a42 _ (.tail _ (.head _))) (fun _ _ _ h_ => (List.not_mem_nil h_).elim)
    obtain ⟨_, _, _, _, q39⟩ := hR_ 4 10 rfl (Nat.le_of_ble_eq_true rfl) rfl
    replace q39 : e_ 10 = TU [SL A24 l26.length c25, I r20.2] := (Option.some.inj ((congrArg some q40).symm.trans q39)).symm
    refine hopE [(10, TU [SL A24 l26.length c25, I r20.2])] ⟨q39, trivial⟩ ?_
    refine p_ext rfl rfl ?_
    refine wp_nil ?_
    exact ⟨_, rfl, S_.keep, rfl⟩
  · intro e_ w_ k_ hf_ hR_
    have S_ : St w_ (fun _ => False) w_ [] [bl b10 [I 0, I 0] 23, bl b7 ([I a0.Heap.Low, I a0.Heap.High] ++ (sgE eSpan a0.Eats 2 ++ (sg a0.Extra 3 ++ [SL A1 a0.Days.length c2, I a0.Collier.Low, I a0.Collier.High, I a0.Brings, SL A4 a0.Dips.length c5]))) 29, rd eCoalDay 3 A1 c2 a0.Days, rd eCoalDip 3 A4 c5 a0.Dips] := S12.asP k_
    obtain ⟨_, _, _, _, ⟨A24, l26, c25⟩, q45, p46, a47⟩ := hR_ 3 14 rfl (Nat.le_of_ble_eq_true rfl) rfl
    replace q45 : e_ 14 = TU [SL A24 l26.length c25, I r20.2] := q45
    have S_ := St.addL' S_ (a47 _ (.head _)) (fun _ _ _ h_ => (List.not_mem_nil h_).elim)
    have S_ := St.addL' S_ (a47 _ (.tail _ (.head _))) (fun _ _ _ h_ => (List.not_mem_nil h_).elim)
    obtain ⟨_, _, _, _, q44⟩ := hR_ 4 10 rfl (Nat.le_of_ble_eq_true rfl) rfl
    replace q44 : e_ 10 = TU [SL A24 l26.length c25, I r20.2] := (Option.some.inj ((congrArg some q45).symm.trans q44)).symm
    obtain ⟨_, _, _, _, q43⟩ := hR_ 5 15 rfl (Nat.le_of_ble_eq_true rfl) rfl
    replace q43 : e_ 15 = SL A24 l26.length c25 := (Option.some.inj ((congrArg (exG 0) q44).symm.trans q43)).symm
    refine hopE [(15, SL A24 l26.length c25)] ⟨q43, trivial⟩ ?_
    refine p_aS rfl ?_
    refine wp_nil ?_
    exact ⟨_, rfl, S_.keep, rfl⟩
  · intro e_ w_ k_ hf_ hR_
    have S_ : St w_ (fun _ => False) w_ [] [bl b10 [I 0, I 0] 23, bl b7 ([I a0.Heap.Low, I a0.Heap.High] ++ (sgE eSpan a0.Eats 2 ++ (sg a0.Extra 3 ++ [SL A1 a0.Days.length c2, I a0.Collier.Low, I a0.Collier.High, I a0.Brings, SL A4 a0.Dips.length c5]))) 29, rd eCoalDay 3 A1 c2 a0.Days, rd eCoalDip 3 A4 c5 a0.Dips] := S12.asP k_
    obtain ⟨_, _, _, _, ⟨A24, l26, c25⟩, q50, p51, a52⟩ := hR_ 3 14 rfl (Nat.le_of_ble_eq_true rfl) rfl
    replace q50 : e_ 14 = TU [SL A24 l26.length c25, I r20.2] := q50
    have S_ := St.addL' S_ (a52 _ (.head _)) (fun _ _ _ h_ => (List.not_mem_nil h_).elim)
    have S_ := St.addL' S_ (a52 _ (.tail _ (.head _))) (fun _ _ _ h_ => (List.not_mem_nil h_).elim)
    obtain ⟨_, _, _, _, q49⟩ := hR_ 4 10 rfl (Nat.le_of_ble_eq_true rfl) rfl
    replace q49 : e_ 10 = TU [SL A24 l26.length c25, I r20.2] := (Option.some.inj ((congrArg some q50).symm.trans q49)).symm
    obtain ⟨_, _, _, _, q48⟩ := hR_ 6 16 rfl (Nat.le_of_ble_eq_true rfl) rfl
    replace q48 : e_ 16 = I r20.2 := (Option.some.inj ((congrArg (exG 1) q49).symm.trans q48)).symm
    refine hopE [(16, I r20.2)] ⟨q48, trivial⟩ ?_
    refine p_aI rfl ?_
    refine wp_nil ?_
    exact ⟨_, rfl, S_.keep, rfl⟩
  intro e53 w54 lo55 hi56 k57 hf58 hR59 hd60
  have S61 := S12.call k57
  have q62 : e53 11 = AG ([I a0.Heap.Low, I a0.Heap.High] ++ (sgE eSpan a0.Eats 2 ++ (sg a0.Extra 3 ++ [SL A1 a0.Days.length c2, I a0.Collier.Low, I a0.Collier.High, I a0.Brings, SL A4 a0.Dips.length c5]))) := (hR59 0 11 (Nat.le_of_ble_eq_true rfl) rfl).2.2.2
  have q63 : e53 12 = I a1 := (hR59 1 12 (Nat.le_of_ble_eq_true rfl) rfl).2.2.2
  have q64 : e53 13 = B r14 := (hR59 2 13 (Nat.le_of_ble_eq_true rfl) rfl).2.2.2
  obtain ⟨h66, h67, h68, ⟨A24, l26, c25⟩, q65, h69, h70⟩ := hR59 3 14 (Nat.le_of_ble_eq_true rfl) rfl
  replace q65 : e53 14 = TU [SL A24 l26.length c25, I r20.2] := q65
  obtain ⟨p71, p72, _⟩ := h69
  have S73 := St.addR S61 (h70 _ (.head _)) (fun b_ h_ x_ hx_ hb_ => (p71 b_ h_).elim (fun q_ => by have := x_.inb _ _ (S12.xs x_ hx_) hb_; omega) (fun ⟨q_, hq_, hqb_⟩ => S12.dp x_ hx_ q_ (((fun _ h_ => (List.not_mem_nil h_).elim)) q_ hq_) b_ hb_ hqb_))
  have S74 := St.addR S73 (h70 _ (.tail _ (.head _))) (fun b_ h_ x_ hx_ hb_ => (p72 b_ h_).elim (fun q_ => by have := x_.inb _ _ (S12.xs x_ hx_) hb_; omega) (fun ⟨q_, hq_, hqb_⟩ => S12.dp x_ hx_ q_ ((List.forall_mem_cons.2 ⟨List.mem_of_getElem? (i := 0) rfl, (List.forall_mem_cons.2 ⟨List.mem_of_getElem? (i := 1) rfl, (fun _ h_ => (List.not_mem_nil h_).elim)⟩)⟩) q_ hq_) b_ hb_ hqb_))
  have q75 : e53 10 = TU [SL A24 l26.length c25, I r20.2] := (Option.some.inj ((congrArg some q65).symm.trans (hR59 4 10 (Nat.le_of_ble_eq_true rfl) rfl).2.2.2)).symm
  have q76 : e53 15 = SL A24 l26.length c25 := (Option.some.inj ((congrArg (exG 0) q75).symm.trans (hR59 5 15 (Nat.le_of_ble_eq_true rfl) rfl).2.2.2)).symm
  have q77 : e53 16 = I r20.2 := (Option.some.inj ((congrArg (exG 1) q75).symm.trans (hR59 6 16 (Nat.le_of_ble_eq_true rfl) rfl).2.2.2)).symm
  have q78 : e53 6 = SL A24 l26.length c25 := (Option.some.inj ((congrArg some q76).symm.trans (hR59 7 6 (Nat.le_of_ble_eq_true rfl) rfl).2.2.2)).symm
  have q79 : e53 7 = I r20.2 := (hR59 8 7 (Nat.le_of_ble_eq_true rfl) rfl).2.2.2
  refine tailE [(1, I a1), (4, P b10 0), (6, SL A24 l26.length c25), (7, I r20.2)] ⟨((hf58 1 rfl).trans (rfl : _ = I a1)), ((hf58 4 rfl).trans (rfl : _ = P b10 0)), q78, q79, trivial⟩ ?_
  intro g80
  refine wp_nil ?_
  refine c_seq ?_
  refine c_seq ?_
  refine reg ?_
  refine p_mI rfl ?_
  refine p_cmp rfl rfl rfl ?_
  refine wp_nil ?_
  refine c_cond rfl (fun c81 => ?_) (fun c81 => ?_)
  · replace H := condT c81 H
    refine c_seq ?_
    refine reg ?_
    refine p_bld (cs := [I 0, I 0]) st23 (rfl : _ = []) (by kernel_rfl) ?_
    refine p_mI rfl ?_
    refine p_stP (pre := []) (old := [I 0, I 0]) (post := []) (vs := [I 0, I 0]) sz23 S74 (i := 0) rfl rfl rfl rfl (rfl : _ = AG [I 0, I 0]) rfl rfl rfl rfl fun w82 S83 => ?_
    refine p_aI rfl ?_
    refine wp_nil ?_
    obtain rfl := Option.some.inj H
    refine c_ret ?_; show bodyPostM (Fr none) 0 Tryd.prog Tryd.f59 _ .ret _ _
    refine ret_of (res2 rfl (rvA rfl ty23 sz23 (S83.atX (i := 0) rfl) rfl) (rvT (rfl : _ = I r20.2))) ?_
    exact ⟨_, rfl, rfl, S83.keep⟩
  · replace H := condF c81 H
    refine c_skip ?_
    refine c_seq ?_
    refine reg ?_
    refine p_mS rfl ?_
    refine p_mI rfl ?_
    obtain ⟨r84, h85, H⟩ := bindS H
    obtain ⟨d86, h87⟩ := ri_at (S74.atP (i := 0) rfl) h85
    refine p_ixE sc112 h87 (S74.atP (i := 1) rfl).1 rfl rfl rfl ?_
    refine p_fldE fl119_0 (sl_here (S74.atP (i := 1) rfl).1 h87) rfl ?_
    obtain ⟨h88, H⟩ := needS H
    refine p_ixED ar30 h88 (sl_here (S74.atP (i := 1) rfl).1 h87) rfl rfl ?_
    refine p_ldED (pre := []) (post := [I r84.collier_, SL d86.1 r84.winds_.length d86.2.1, SL d86.2.2.1 r84.coal_.length d86.2.2.2]) ty3 h87 (S74.atP (i := 1) rfl).1 rfl rfl h88 rfl ?_
    obtain ⟨r89, h90, H⟩ := bindS H
    refine p_cv (B_Point_ok h90) fu38 rfl S74 fun w91 S92 => ?_
    refine p_allA in23 S92 fun b93 w94 S95 => ?_
    refine p_stP (pre := []) (old := [I 0, I 0]) (post := []) (vs := [I r89.Low, I r89.High]) sz23 S95 (i := 0) rfl rfl rfl rfl (rfl : _ = AG [I r89.Low, I r89.High]) rfl rfl rfl rfl fun w96 S97 => ?_
    refine wp_nil ?_
    refine c_seq ?_
    refine c_seq ?_
    refine reg ?_
    refine p_aI rfl ?_
    refine wp_nil ?_
    refine c_block ?_
    have S98 := S97.pk [0, 1] (by decide) [0, 1, 2, 3] rfl rfl
    refine c_lop (α := Int × Int × Int) (β := Unit) (ref_Eats_l1 r20 a1) (fun z_1 y_1 => [(1, I a1), (4, P b10 0), (6, SL A24 l26.length c25), (8, P b93 0), (9, I z_1.1)]) (fun z_1 y_1 w_ => St w (fun _ => False) w_ [bl b93 [I z_1.2.1, I z_1.2.2] 23, bl b10 [I 0, I 0] 23] [ri nRef06_truthI l26 r20.1, rd nRef06_truth 5 A24 c25 l26, rd eCoalDay 3 A1 c2 a0.Days, rd eCoalDip 3 A4 c5 a0.Dips]) (0, r89.Low, r89.High) () H ⟨rfl, rfl, rfl, rfl, rfl, trivial⟩ S98 ?_
    intro m99 z_1 y_1 e100 w101 H S102
    unfold ref_Eats_l1 at H
    refine c_seq ?_
    refine c_seq ?_
    refine reg ?_
    refine p_mI rfl ?_
    refine p_mS rfl ?_
    refine p_lenN rfl sc112 (ri_len (S102.atP (i := 0) rfl)) ?_
    refine p_cmp rfl rfl rfl ?_
    refine wp_nil ?_
    refine c_cond rfl (fun c103 => ?_) (fun c103 => ?_)
    · replace H := condT c103 H
      refine c_skip ?_
      refine c_seq ?_
      refine c_block ?_
      obtain ⟨r104, h105, H⟩ := bindS H
      obtain ⟨d106, h107⟩ := ri_at (S102.atP (i := 0) rfl) h105
      obtain ⟨h108, H⟩ := needS H
      obtain ⟨r109, h110, H⟩ := bindS H
      obtain ⟨r111, h112, H⟩ := bindS H
      refine reg_q mixed 10 (by kernel_rfl) ?_
      refine dS (fun _ k_ => p_ldA ty23 sz23 (Asr.stays (S102.atX (i := 0) rfl) k_) rfl rfl dn) ?_
      refine dS (fun _ k_ => p_mS rfl dn) ?_
      refine dS (fun _ k_ => p_mI rfl dn) ?_
      refine dS (fun _ k_ => p_mI rfl dn) ?_
      refine dS (fun _ k_ => p_ixE sc112 h107 (Asr.stays (S102.atP (i := 1) rfl) k_).1 rfl rfl rfl dn) ?_
      refine dS (fun _ k_ => p_fldE fl119_0 (sl_here (Asr.stays (S102.atP (i := 1) rfl) k_).1 h107) rfl dn) ?_
      refine dS (fun _ k_ => p_ixED ar30 h108 (sl_here (Asr.stays (S102.atP (i := 1) rfl) k_).1 h107) rfl rfl dn) ?_
      refine dS (fun _ k_ => p_ldED (pre := []) (post := [I r104.collier_, SL d106.1 r104.winds_.length d106.2.1, SL d106.2.2.1 r104.coal_.length d106.2.2.2]) ty3 h107 (Asr.stays (S102.atP (i := 1) rfl) k_).1 rfl rfl h108 rfl dn) ?_
      refine dS (fun _ k_ => p_cvD (B_Point_ok h110) fu38 rfl) ?_
      refine dS (fun _ k_ => p_cvD (B_Hull_ok h112) fu90 rfl) ?_
      intro w113 k114; have S115 := S102.call k114
      refine p_stP (pre := []) (old := [I z_1.2.1, I z_1.2.2]) (post := []) (vs := [I r111.Low, I r111.High]) sz23 S115 (i := 0) rfl rfl rfl rfl (rfl : _ = AG [I r111.Low, I r111.High]) rfl rfl rfl rfl fun w116 S117 => ?_
      refine wp_nil ?_
      refine reg ?_
      refine p_mI rfl ?_
      refine p_add rfl rfl ?_
      refine p_aI rfl ?_
      refine wp_nil ?_
      exact ⟨(wr (z_1.1 + 1), r111.Low, r111.High), (), _, rfl, ⟨rfl, rfl, rfl, rfl, rfl, trivial⟩, H, S117⟩
    · replace H := condF c103 H
      refine c_exit ?_
      refine c_seq ?_
      refine reg ?_
      refine p_ldA ty23 sz23 (S102.atX (i := 0) rfl) rfl rfl ?_
      refine p_stP (pre := []) (old := [I 0, I 0]) (post := []) (vs := [I z_1.2.1, I z_1.2.2]) sz23 S102 (i := 1) rfl rfl rfl rfl (rfl : _ = AG [I z_1.2.1, I z_1.2.2]) rfl rfl rfl rfl fun w118 S119 => ?_
      refine p_aI rfl ?_
      refine wp_nil ?_
      obtain rfl := Option.some.inj H
      refine c_ret ?_; show bodyPostM (Fr none) 0 Tryd.prog Tryd.f59 _ .ret _ _
      refine ret_of (res2 rfl (rvA rfl ty23 sz23 (S119.atX (i := 1) rfl) rfl) (rvT (rfl : _ = I 0))) ?_
      exact ⟨_, rfl, rfl, S119.keep⟩

def ref_Wind_l1 (r18 : (List Ref06_truth) × Int) (a1 : Int) (rec_z_1 : (Int × Int) → Option (Int × Int)) (z_1 : Int × Int) : Option (Int × Int) :=
  bif decide (z_1.2 < (r18.1.length : Int)) then ((getI r18.1 z_1.2).bind fun r87 =>
  (getI r87.winds_ a1).bind fun r92 =>
  need (decide (0 ≤ r92)) <|
  rec_z_1 (orI z_1.1 (shlI 1 r92), wr (z_1.2 + 1)))
  else (some (z_1.1, 0))

def ref_Wind (a0 : CoalBook) (a1 : Int) : Option (Int × Int) :=
  (ref_isDay a0 a1).bind fun r12 =>
  (ref_asked a0 r12).bind fun r18 =>
  bif (r18.2 != 0) then (some (0, r18.2))
  else (loopF (ref_Wind_l1 r18 a1) big (0, 0))

set_option maxRecDepth 100000 in
theorem ref_Wind_ok {a0 : CoalBook} {a1 : Int} {A1 : Option Addr} {c2 : Nat} {A4 : Option Addr} {c5 : Nat} {w : World} {r : Int × Int} (H : ref_Wind a0 a1 = some r) (h3 : (rd eCoalDay 3 A1 c2 a0.Days).ok w) (h6 : (rd eCoalDip 3 A4 c5 a0.Dips).ok w) : Calls Tryd.prog 60 #[AG ([I a0.Heap.Low, I a0.Heap.High] ++ (sgE eSpan a0.Eats 2 ++ (sg a0.Extra 3 ++ [SL A1 a0.Days.length c2, I a0.Collier.Low, I a0.Collier.High, I a0.Brings, SL A4 a0.Dips.length c5]))), I a1] w (RetV w (TU [I r.1, I r.2])) := by
  unfold ref_Wind at H
  refine fn_of (n := 39) Tryd.func60 rfl rfl (Nat.le_of_ble_eq_true rfl) ?_
  have S : St w (fun _ => False) w [] [rd eCoalDay 3 A1 c2 a0.Days, rd eCoalDip 3 A4 c5 a0.Dips] := St.start w _ _ (List.forall_mem_cons.2 ⟨h3, (List.forall_mem_cons.2 ⟨h6, (fun _ h_ => (List.not_mem_nil h_).elim)⟩)⟩)
  refine c_seq ?_
  refine reg ?_
  refine p_boxA rfl S fun b7 w8 S9 => ?_
  refine p_aI rfl ?_
  refine p_aI rfl ?_
  refine wp_nil ?_
  refine c_seq ?_
  obtain ⟨r12, h13, H⟩ := bindS H
  obtain ⟨r18, h19, H⟩ := bindS H
  refine reg_any mixed 10 (by kernel_rfl) [rv (AG ([I a0.Heap.Low, I a0.Heap.High] ++ (sgE eSpan a0.Eats 2 ++ (sg a0.Extra 3 ++ [SL A1 a0.Days.length c2, I a0.Collier.Low, I a0.Collier.High, I a0.Brings, SL A4 a0.Dips.length c5])))), rv (AG ([I a0.Heap.Low, I a0.Heap.High] ++ (sgE eSpan a0.Eats 2 ++ (sg a0.Extra 3 ++ [SL A1 a0.Days.length c2, I a0.Collier.Low, I a0.Collier.High, I a0.Brings, SL A4 a0.Dips.length c5])))), rv (I a1), rv (B r12), rx (α := (Option Addr) × (List (Ref06_truth × (Option Addr) × Nat × (Option Addr) × Nat)) × Nat) (fun ⟨A22, l24, c23⟩ => TU [SL A22 l24.length c23, I r18.2]) (fun ⟨A22, l24, c23⟩ lo hi => BtwL lo hi [] (rd nRef06_truth 5 A22 c23 l24) ∧ BtwL lo hi [rd eCoalDay 3 A1 c2 a0.Days, rd eCoalDip 3 A4 c5 a0.Dips] (ri nRef06_truthI l24 r18.1) ∧ True) (fun ⟨A22, l24, c23⟩ => [rd nRef06_truth 5 A22 c23 l24, ri nRef06_truthI l24 r18.1]), dv 15 some, dv 10 (exG 0), dv 10 (exG 1), dv 16 some, rv (I r18.2)] [[], [], [], [], [], [15], [10], [10], [16], []] rfl (by kernel_rfl) [[], [], [], [1, 2], [0, 1, 2, 3], [0, 1, 2, 3, 4], [0, 1, 2, 3, 4, 5], [0, 1, 2, 3, 4, 5], [0, 1, 2, 3, 4, 5, 6], [0, 1, 2, 3, 4, 5, 6, 7, 8]] (by kernel_rfl) ⟨?_, ?_, ?_, ?_, ?_, ?_, ?_, ?_, ?_, ?_, trivial⟩ ?_
  · intro e_ w_ k_ hf_ hR_
    have S_ : St w_ (fun _ => False) w_ [] [bl b7 ([I a0.Heap.Low, I a0.Heap.High] ++ (sgE eSpan a0.Eats 2 ++ (sg a0.Extra 3 ++ [SL A1 a0.Days.length c2, I a0.Collier.Low, I a0.Collier.High, I a0.Brings, SL A4 a0.Dips.length c5]))) 29, rd eCoalDay 3 A1 c2 a0.Days, rd eCoalDip 3 A4 c5 a0.Dips] := S9.asP k_
    refine hopE [(2, P b7 0)] ⟨((hf_ 2 rfl).trans (rfl : _ = P b7 0)), trivial⟩ ?_
    refine p_ldA ty29 sz29 (S_.atP (i := 0) rfl) rfl rfl ?_
    refine wp_nil ?_
    exact ⟨_, rfl, S_.keep, rfl⟩
  · intro e_ w_ k_ hf_ hR_
    have S_ : St w_ (fun _ => False) w_ [] [bl b7 ([I a0.Heap.Low, I a0.Heap.High] ++ (sgE eSpan a0.Eats 2 ++ (sg a0.Extra 3 ++ [SL A1 a0.Days.length c2, I a0.Collier.Low, I a0.Collier.High, I a0.Brings, SL A4 a0.Dips.length c5]))) 29, rd eCoalDay 3 A1 c2 a0.Days, rd eCoalDip 3 A4 c5 a0.Dips] := S9.asP k_
    refine hopE [(2, P b7 0)] ⟨((hf_ 2 rfl).trans (rfl : _ = P b7 0)), trivial⟩ ?_
    refine p_ldA ty29 sz29 (S_.atP (i := 0) rfl) rfl rfl ?_
    refine wp_nil ?_
    exact ⟨_, rfl, S_.keep, rfl⟩
  · intro e_ w_ k_ hf_ hR_
    have S_ : St w_ (fun _ => False) w_ [] [bl b7 ([I a0.Heap.Low, I a0.Heap.High] ++ (sgE eSpan a0.Eats 2 ++ (sg a0.Extra 3 ++ [SL A1 a0.Days.length c2, I a0.Collier.Low, I a0.Collier.High, I a0.Brings, SL A4 a0.Dips.length c5]))) 29, rd eCoalDay 3 A1 c2 a0.Days, rd eCoalDip 3 A4 c5 a0.Dips] := S9.asP k_
    refine hopE [(1, I a1)] ⟨((hf_ 1 rfl).trans (rfl : _ = I a1)), trivial⟩ ?_
    refine p_mI rfl ?_
    refine wp_nil ?_
    exact ⟨_, rfl, S_.keep, rfl⟩
  · intro e_ w_ k_ hf_ hR_
    have S_ : St w_ (fun _ => False) w_ [] [bl b7 ([I a0.Heap.Low, I a0.Heap.High] ++ (sgE eSpan a0.Eats 2 ++ (sg a0.Extra 3 ++ [SL A1 a0.Days.length c2, I a0.Collier.Low, I a0.Collier.High, I a0.Brings, SL A4 a0.Dips.length c5]))) 29, rd eCoalDay 3 A1 c2 a0.Days, rd eCoalDip 3 A4 c5 a0.Dips] := S9.asP k_
    obtain ⟨_, _, _, _, q10⟩ := hR_ 1 12 rfl (Nat.le_of_ble_eq_true rfl) rfl
    obtain ⟨_, _, _, _, q11⟩ := hR_ 2 13 rfl (Nat.le_of_ble_eq_true rfl) rfl
    refine hopE [(12, AG ([I a0.Heap.Low, I a0.Heap.High] ++ (sgE eSpan a0.Eats 2 ++ (sg a0.Extra 3 ++ [SL A1 a0.Days.length c2, I a0.Collier.Low, I a0.Collier.High, I a0.Brings, SL A4 a0.Dips.length c5])))), (13, I a1)] ⟨q10, q11, trivial⟩ ?_
    refine p_cv (ref_isDay_ok h13 (S_.atP (i := 1) rfl) (S_.atP (i := 2) rfl)) fu89 rfl S_ fun w14 S15 => ?_
    refine wp_nil ?_
    exact ⟨_, rfl, S15.keep, rfl⟩
  · intro e_ w_ k_ hf_ hR_
    have S_ : St w_ (fun _ => False) w_ [] [bl b7 ([I a0.Heap.Low, I a0.Heap.High] ++ (sgE eSpan a0.Eats 2 ++ (sg a0.Extra 3 ++ [SL A1 a0.Days.length c2, I a0.Collier.Low, I a0.Collier.High, I a0.Brings, SL A4 a0.Dips.length c5]))) 29, rd eCoalDay 3 A1 c2 a0.Days, rd eCoalDip 3 A4 c5 a0.Dips] := S9.asP k_
    obtain ⟨_, _, _, _, q16⟩ := hR_ 0 11 rfl (Nat.le_of_ble_eq_true rfl) rfl
    obtain ⟨_, _, _, _, q17⟩ := hR_ 3 14 rfl (Nat.le_of_ble_eq_true rfl) rfl
    refine hopE [(11, AG ([I a0.Heap.Low, I a0.Heap.High] ++ (sgE eSpan a0.Eats 2 ++ (sg a0.Extra 3 ++ [SL A1 a0.Days.length c2, I a0.Collier.Low, I a0.Collier.High, I a0.Brings, SL A4 a0.Dips.length c5])))), (14, B r12)] ⟨q16, q17, trivial⟩ ?_
    refine p_cal (ref_asked_ok h19 (S_.atP (i := 1) rfl) (S_.atP (i := 2) rfl)) fu88 rfl ?_
    rintro _ w20 ⟨A22, c23, l24, rfl, k21, ⟨o25, n26⟩, ⟨o27, n28⟩, _⟩
    have S29 := S_.callN k21 [rd nRef06_truth 5 A22 c23 l24, ri nRef06_truthI l24 r18.1] (List.forall_mem_cons.2 ⟨⟨o25, New.inL n26⟩, (List.forall_mem_cons.2 ⟨⟨o27, Al.inL n28 ((List.forall_mem_cons.2 ⟨(fp_mem (i := 1) rfl), (List.forall_mem_cons.2 ⟨(fp_mem (i := 2) rfl), (fun _ h_ => (List.not_mem_nil h_).elim)⟩)⟩))⟩, (fun _ h_ => (List.not_mem_nil h_).elim)⟩)⟩)
    refine wp_nil ?_
    exact ⟨_, rfl, S29.keep, ⟨(A22, l24, c23), rfl, ⟨BtwL.of (New.al (New.mono n26 S_.keep.size)) rfl (S29.atP (i := 0) rfl) rfl, BtwL.of n28 rfl (S29.atP (i := 1) rfl) rfl, trivial⟩, (List.forall_mem_cons.2 ⟨(S29.atP (i := 0) rfl), (List.forall_mem_cons.2 ⟨(S29.atP (i := 1) rfl), (fun _ h_ => (List.not_mem_nil h_).elim)⟩)⟩)⟩⟩
  · intro e_ w_ k_ hf_ hR_
    have S_ : St w_ (fun _ => False) w_ [] [bl b7 ([I a0.Heap.Low, I a0.Heap.High] ++ (sgE eSpan a0.Eats 2 ++ (sg a0.Extra 3 ++ [SL A1 a0.Days.length c2, I a0.Collier.Low, I a0.Collier.High, I a0.Brings, SL A4 a0.Dips.length c5]))) 29, rd eCoalDay 3 A1 c2 a0.Days, rd eCoalDip 3 A4 c5 a0.Dips] := S9.asP k_
    obtain ⟨_, _, _, _, ⟨A22, l24, c23⟩, q30, p31, a32⟩ := hR_ 4 15 rfl (Nat.le_of_ble_eq_true rfl) rfl
    replace q30 : e_ 15 = TU [SL A22 l24.length c23, I r18.2] := q30
    have S_ := St.addL' S_ (a32 _ (.head _)) (fun _ _ _ h_ => (List.not_mem_nil h_).elim)
    have S_ := St.addL' S_ (a32 _ (.tail _ (.head _))) (fun _ _ _ h_ => (List.not_mem_nil h_).elim)
    refine hopE [(15, TU [SL A22 l24.length c23, I r18.2])] ⟨q30, trivial⟩ ?_
    refine p_mT rfl ?_
    refine wp_nil ?_
    exact ⟨_, rfl, S_.keep, rfl⟩
  · intro e_ w_ k_ hf_ hR_
    have S_ : St w_ (fun _ => False) w_ [] [bl b7 ([I a0.Heap.Low, I a0.Heap.High] ++ (sgE eSpan a0.Eats 2 ++ (sg a0.Extra 3 ++ [SL A1 a0.Days.length c2, I a0.Collier.Low, I a0.Collier.High, I a0.Brings, SL A4 a0.Dips.length c5]))) 29, rd eCoalDay 3 A1 c2 a0.Days, rd eCoalDip 3 A4 c5 a0.Dips] := S9.asP k_
    obtain ⟨_, _, _, _, ⟨A22, l24, c23⟩, q34, p35, a36⟩ := hR_ 4 15 rfl (Nat.le_of_ble_eq_true rfl) rfl
    replace q34 : e_ 15 = TU [SL A22 l24.length c23, I r18.2] := q34
    have S_ := St.addL' S_ (a36 _ (.head _)) (fun _ _ _ h_ => (List.not_mem_nil h_).elim)
    have S_ := St.addL' S_ (a36 _ (.tail _ (.head _))) (fun _ _ _ h_ => (List.not_mem_nil h_).elim)
    obtain ⟨_, _, _, _, q33⟩ := hR_ 5 10 rfl (Nat.le_of_ble_eq_true rfl) rfl
    replace q33 : e_ 10 = TU [SL A22 l24.length c23, I r18.2] := (Option.some.inj ((congrArg some q34).symm.trans q33)).symm
    refine hopE [(10, TU [SL A22 l24.length c23, I r18.2])] ⟨q33, trivial⟩ ?_
    refine p_ext rfl rfl ?_
    refine wp_nil ?_
    exact ⟨_, rfl, S_.keep, rfl⟩
  · intro e_ w_ k_ hf_ hR_
    have S_ : St w_ (fun _ => False) w_ [] [bl b7 ([I a0.Heap.Low, I a0.Heap.High] ++ (sgE eSpan a0.Eats 2 ++ (sg a0.Extra 3 ++ [SL A1 a0.Days.length c2, I a0.Collier.Low, I a0.Collier.High, I a0.Brings, SL A4 a0.Dips.length c5]))) 29, rd eCoalDay 3 A1 c2 a0.Days, rd eCoalDip 3 A4 c5 a0.Dips] := S9.asP k_
    obtain ⟨_, _, _, _, ⟨A22, l24, c23⟩, q38, p39, a40⟩ := hR_ 4 15 rfl (Nat.le_of_ble_eq_true rfl) rfl
    replace q38 : e_ 15 = TU [SL A22 l24.length c23, I r18.2] := q38
    have S_ := St.addL' S_ (a40 _ (.head _)) (fun _ _ _ h_ => (List.not_mem_nil h_).elim)
    have S_ := St.addL' S_ (a40 _ (.tail _ (.head _))) (fun _ _ _ h_ => (List.not_mem_nil h_).elim)
    obtain ⟨_, _, _, _, q37⟩ := hR_ 5 10 rfl (Nat.le_of_ble_eq_true rfl) rfl
    replace q37 : e_ 10 = TU [SL A22 l24.length c23, I r18.2] := (Option.some.inj ((congrArg some q38).symm.trans q37)).symm
    refine hopE [(10, TU [SL A22 l24.length c23, I r18.2])] ⟨q37, trivial⟩ ?_
    refine p_ext rfl rfl ?_
    refine wp_nil ?_
    exact ⟨_, rfl, S_.keep, rfl⟩
  · intro e_ w_ k_ hf_ hR_
    have S_ : St w_ (fun _ => False) w_ [] [bl b7 ([I a0.Heap.Low, I a0.Heap.High] ++ (sgE eSpan a0.Eats 2 ++ (sg a0.Extra 3 ++ [SL A1 a0.Days.length c2, I a0.Collier.Low, I a0.Collier.High, I a0.Brings, SL A4 a0.Dips.length c5]))) 29, rd eCoalDay 3 A1 c2 a0.Days, rd eCoalDip 3 A4 c5 a0.Dips] := S9.asP k_
    obtain ⟨_, _, _, _, ⟨A22, l24, c23⟩, q43, p44, a45⟩ := hR_ 4 15 rfl (Nat.le_of_ble_eq_true rfl) rfl
    replace q43 : e_ 15 = TU [SL A22 l24.length c23, I r18.2] := q43
    have S_ := St.addL' S_ (a45 _ (.head _)) (fun _ _ _ h_ => (List.not_mem_nil h_).elim)
    have S_ := St.addL' S_ (a45 _ (.tail _ (.head _))) (fun _ _ _ h_ => (List.not_mem_nil h_).elim)
    obtain ⟨_, _, _, _, q42⟩ := hR_ 5 10 rfl (Nat.le_of_ble_eq_true rfl) rfl
    replace q42 : e_ 10 = TU [SL A22 l24.length c23, I r18.2] := (Option.some.inj ((congrArg some q43).symm.trans q42)).symm
    obtain ⟨_, _, _, _, q41⟩ := hR_ 6 16 rfl (Nat.le_of_ble_eq_true rfl) rfl
    replace q41 : e_ 16 = SL A22 l24.length c23 := (Option.some.inj ((congrArg (exG 0) q42).symm.trans q41)).symm
    refine hopE [(16, SL A22 l24.length c23)] ⟨q41, trivial⟩ ?_
    refine p_aS rfl ?_
    refine wp_nil ?_
    exact ⟨_, rfl, S_.keep, rfl⟩
  · intro e_ w_ k_ hf_ hR_
    have S_ : St w_ (fun _ => False) w_ [] [bl b7 ([I a0.Heap.Low, I a0.Heap.High] ++ (sgE eSpan a0.Eats 2 ++ (sg a0.Extra 3 ++ [SL A1 a0.Days.length c2, I a0.Collier.Low, I a0.Collier.High, I a0.Brings, SL A4 a0.Dips.length c5]))) 29, rd eCoalDay 3 A1 c2 a0.Days, rd eCoalDip 3 A4 c5 a0.Dips] := S9.asP k_
    obtain ⟨_, _, _, _, ⟨A22, l24, c23⟩, q48, p49, a50⟩ := hR_ 4 15 rfl (Nat.le_of_ble_eq_true rfl) rfl
    replace q48 : e_ 15 = TU [SL A22 l24.length c23, I r18.2] := q48
    have S_ := St.addL' S_ (a50 _ (.head _)) (fun _ _ _ h_ => (List.not_mem_nil h_).elim)
    have S_ := St.addL' S_ (a50 _ (.tail _ (.head _))) (fun _ _ _ h_ => (List.not_mem_nil h_).elim)
    obtain ⟨_, _, _, _, q47⟩ := hR_ 5 10 rfl (Nat.le_of_ble_eq_true rfl) rfl
    replace q47 : e_ 10 = TU [SL A22 l24.length c23, I r18.2] := (Option.some.inj ((congrArg some q48).symm.trans q47)).symm
    obtain ⟨_, _, _, _, q46⟩ := hR_ 7 17 rfl (Nat.le_of_ble_eq_true rfl) rfl
    replace q46 : e_ 17 = I r18.2 := (Option.some.inj ((congrArg (exG 1) q47).symm.trans q46)).symm
    refine hopE [(17, I r18.2)] ⟨q46, trivial⟩ ?_
    refine p_aI rfl ?_
    refine wp_nil ?_
    exact ⟨_, rfl, S_.keep, rfl⟩
  intro e51 w52 lo53 hi54 k55 hf56 hR57 hd58
  have S59 := S9.call k55
  have q60 : e51 11 = AG ([I a0.Heap.Low, I a0.Heap.High] ++ (sgE eSpan a0.Eats 2 ++ (sg a0.Extra 3 ++ [SL A1 a0.Days.length c2, I a0.Collier.Low, I a0.Collier.High, I a0.Brings, SL A4 a0.Dips.length c5]))) := (hR57 0 11 (Nat.le_of_ble_eq_true rfl) rfl).2.2.2
  have q61 : e51 12 = AG ([I a0.Heap.Low, I a0.Heap.High] ++ (sgE eSpan a0.Eats 2 ++ (sg a0.Extra 3 ++ [SL A1 a0.Days.length c2, I a0.Collier.Low, I a0.Collier.High, I a0.Brings, SL A4 a0.Dips.length c5]))) := (hR57 1 12 (Nat.le_of_ble_eq_true rfl) rfl).2.2.2
  have q62 : e51 13 = I a1 := (hR57 2 13 (Nat.le_of_ble_eq_true rfl) rfl).2.2.2
  have q63 : e51 14 = B r12 := (hR57 3 14 (Nat.le_of_ble_eq_true rfl) rfl).2.2.2
  obtain ⟨h65, h66, h67, ⟨A22, l24, c23⟩, q64, h68, h69⟩ := hR57 4 15 (Nat.le_of_ble_eq_true rfl) rfl
  replace q64 : e51 15 = TU [SL A22 l24.length c23, I r18.2] := q64
  obtain ⟨p70, p71, _⟩ := h68
  have S72 := St.addR S59 (h69 _ (.head _)) (fun b_ h_ x_ hx_ hb_ => (p70 b_ h_).elim (fun q_ => by have := x_.inb _ _ (S9.xs x_ hx_) hb_; omega) (fun ⟨q_, hq_, hqb_⟩ => S9.dp x_ hx_ q_ (((fun _ h_ => (List.not_mem_nil h_).elim)) q_ hq_) b_ hb_ hqb_))
  have S73 := St.addR S72 (h69 _ (.tail _ (.head _))) (fun b_ h_ x_ hx_ hb_ => (p71 b_ h_).elim (fun q_ => by have := x_.inb _ _ (S9.xs x_ hx_) hb_; omega) (fun ⟨q_, hq_, hqb_⟩ => S9.dp x_ hx_ q_ ((List.forall_mem_cons.2 ⟨List.mem_of_getElem? (i := 0) rfl, (List.forall_mem_cons.2 ⟨List.mem_of_getElem? (i := 1) rfl, (fun _ h_ => (List.not_mem_nil h_).elim)⟩)⟩) q_ hq_) b_ hb_ hqb_))
  have q74 : e51 10 = TU [SL A22 l24.length c23, I r18.2] := (Option.some.inj ((congrArg some q64).symm.trans (hR57 5 10 (Nat.le_of_ble_eq_true rfl) rfl).2.2.2)).symm
  have q75 : e51 16 = SL A22 l24.length c23 := (Option.some.inj ((congrArg (exG 0) q74).symm.trans (hR57 6 16 (Nat.le_of_ble_eq_true rfl) rfl).2.2.2)).symm
  have q76 : e51 17 = I r18.2 := (Option.some.inj ((congrArg (exG 1) q74).symm.trans (hR57 7 17 (Nat.le_of_ble_eq_true rfl) rfl).2.2.2)).symm
  have q77 : e51 6 = SL A22 l24.length c23 := (Option.some.inj ((congrArg some q75).symm.trans (hR57 8 6 (Nat.le_of_ble_eq_true rfl) rfl).2.2.2)).symm
  have q78 : e51 7 = I r18.2 := (hR57 9 7 (Nat.le_of_ble_eq_true rfl) rfl).2.2.2
  refine tailE [(1, I a1), (6, SL A22 l24.length c23), (7, I r18.2)] ⟨((hf56 1 rfl).trans (rfl : _ = I a1)), q77, q78, trivial⟩ ?_
  intro g79
  refine wp_nil ?_
  refine c_seq ?_
  refine c_seq ?_
  refine reg ?_
  refine p_mI rfl ?_
  refine p_cmp rfl rfl rfl ?_
  refine wp_nil ?_
  refine c_cond rfl (fun c80 => ?_) (fun c80 => ?_)
  · replace H := condT c80 H
    refine c_seq ?_
    refine reg ?_
    refine p_mI rfl ?_
    refine p_aI rfl ?_
    refine p_aI rfl ?_
    refine wp_nil ?_
    obtain rfl := Option.some.inj H
    refine c_ret ?_; show bodyPostM (Fr none) 0 Tryd.prog Tryd.f60 _ .ret _ _
    refine ret_of (res2 rfl (rvT (rfl : _ = I 0)) (rvT (rfl : _ = I r18.2))) ?_
    exact ⟨_, rfl, rfl, S73.keep⟩
  · replace H := condF c80 H
    refine c_skip ?_
    refine c_seq ?_
    refine reg ?_
    refine p_aI rfl ?_
    refine wp_nil ?_
    refine c_seq ?_
    refine c_seq ?_
    refine reg ?_
    refine p_aI rfl ?_
    refine wp_nil ?_
    refine c_block ?_
    have S81 := S73.pk [] (by decide) [0, 1, 2, 3] rfl rfl
    refine c_lop (α := Int × Int) (β := Unit) (ref_Wind_l1 r18 a1) (fun z_1 y_1 => [(1, I a1), (6, SL A22 l24.length c23), (8, I z_1.1), (9, I z_1.2)]) (fun z_1 y_1 w_ => St w (fun _ => False) w_ [] [ri nRef06_truthI l24 r18.1, rd nRef06_truth 5 A22 c23 l24, rd eCoalDay 3 A1 c2 a0.Days, rd eCoalDip 3 A4 c5 a0.Dips]) (0, 0) () H ⟨rfl, rfl, rfl, rfl, trivial⟩ S81 ?_
    intro m82 z_1 y_1 e83 w84 H S85
    unfold ref_Wind_l1 at H
    refine c_seq ?_
    refine c_seq ?_
    refine reg ?_
    refine p_mI rfl ?_
    refine p_mS rfl ?_
    refine p_lenN rfl sc112 (ri_len (S85.atP (i := 0) rfl)) ?_
    refine p_cmp rfl rfl rfl ?_
    refine wp_nil ?_
    refine c_cond rfl (fun c86 => ?_) (fun c86 => ?_)
    · replace H := condT c86 H
      refine c_skip ?_
      refine c_seq ?_
      refine c_block ?_
      refine reg ?_
      refine p_mI rfl ?_
      refine p_mS rfl ?_
      refine p_mI rfl ?_
      obtain ⟨r87, h88, H⟩ := bindS H
      obtain ⟨d89, h90⟩ := ri_at (S85.atP (i := 0) rfl) h88
      refine p_ixE sc112 h90 (S85.atP (i := 1) rfl).1 rfl rfl rfl ?_
      refine p_fldE fl119_2 (sl_here (S85.atP (i := 1) rfl).1 h90) rfl ?_
      refine p_ldE ty39 h90 (S85.atP (i := 1) rfl).1 rfl rfl ?_
      have S91 := S85.riIn (j := 0) (k := 0) rfl h90 rfl
      refine p_mI rfl ?_
      obtain ⟨r92, h93, H⟩ := bindS H
      refine p_ixE sc39 h93 (S91.atP (i := 0) rfl).1 rfl rfl rfl ?_
      refine p_ldE ty3 h93 (S91.atP (i := 0) rfl).1 rfl rfl ?_
      obtain ⟨h94, H⟩ := needS H
      refine p_shl h94 rfl rfl ?_
      refine p_orI rfl rfl ?_
      refine p_aI rfl ?_
      refine wp_nil ?_
      refine reg ?_
      refine p_mI rfl ?_
      refine p_add rfl rfl ?_
      refine p_aI rfl ?_
      refine wp_nil ?_
      have S95 := S91.pk [] (by decide) [1, 2, 3, 4] rfl rfl
      exact ⟨(orI z_1.1 (shlI 1 r92), wr (z_1.2 + 1)), (), _, rfl, ⟨rfl, rfl, rfl, rfl, trivial⟩, H, S95⟩
    · replace H := condF c86 H
      refine c_exit ?_
      refine c_seq ?_
      refine reg ?_
      refine p_mI rfl ?_
      refine p_aI rfl ?_
      refine p_aI rfl ?_
      refine wp_nil ?_
      obtain rfl := Option.some.inj H
      refine c_ret ?_; show bodyPostM (Fr none) 0 Tryd.prog Tryd.f60 _ .ret _ _
      refine ret_of (res2 rfl (rvT (rfl : _ = I z_1.1)) (rvT (rfl : _ = I 0))) ?_
      exact ⟨_, rfl, rfl, S85.keep⟩

def law_coalHeaps (a0 : CoalBook) (a1 : CoalBook) (a2 : List Int) : Option Bool :=
  (coal_Right a0).bind fun r23 =>
  (ref_Right a1).bind fun r27 =>
  bif (r23.1 != r27.1) then (some false)
  else (bif (r23.2 != r27.2) then (some false)
  else ((coal_Check a0).bind fun r39 =>
  (ref_Check a1).bind fun r41 =>
  bif (r39 != r41) then (some false)
  else ((coal_Heap a0 (aget a2 0)).bind fun r47 =>
  (ref_Heap a1 (aget a2 0)).bind fun r56 =>
  bif !((r47.1.Low == r56.1.Low) && (r47.1.High == r56.1.High)) then (some false)
  else (bif (r47.2 != r56.2) then (some false)
  else ((coal_Eats a0 (aget a2 1)).bind fun r67 =>
  (ref_Eats a1 (aget a2 1)).bind fun r73 =>
  bif !((r67.1.Low == r73.1.Low) && (r67.1.High == r73.1.High)) then (some false)
  else (bif (r67.2 != r73.2) then (some false)
  else ((coal_Wind a0 (aget a2 0)).bind fun r81 =>
  (ref_Wind a1 (aget a2 0)).bind fun r85 =>
  bif (r81.1 == r85.1) then (some (r81.2 == r85.2))
  else (some false))))))))

set_option maxRecDepth 100000 in
theorem law_coalHeaps_ok {a0 : CoalBook} {a1 : CoalBook} {a2 : List Int} {A1 : Option Addr} {c2 : Nat} {A4 : Option Addr} {c5 : Nat} {A7 : Option Addr} {c8 : Nat} {A10 : Option Addr} {c11 : Nat} {w : World} {r : Bool} (H : law_coalHeaps a0 a1 a2 = some r) (h3 : (rd eCoalDay 3 A1 c2 a0.Days).ok w) (h6 : (rd eCoalDip 3 A4 c5 a0.Dips).ok w) (h9 : (rd eCoalDay 3 A7 c8 a1.Days).ok w) (h12 : (rd eCoalDip 3 A10 c11 a1.Dips).ok w) (hg13 : (bl 1 [I (-1), I (-1)] 123).ok w) : Calls Tryd.prog 17 #[AG ([I a0.Heap.Low, I a0.Heap.High] ++ (sgE eSpan a0.Eats 2 ++ (sg a0.Extra 3 ++ [SL A1 a0.Days.length c2, I a0.Collier.Low, I a0.Collier.High, I a0.Brings, SL A4 a0.Dips.length c5]))), AG ([I a1.Heap.Low, I a1.Heap.High] ++ (sgE eSpan a1.Eats 2 ++ (sg a1.Extra 3 ++ [SL A7 a1.Days.length c8, I a1.Collier.Low, I a1.Collier.High, I a1.Brings, SL A10 a1.Dips.length c11]))), AG (sg a2 2)] w (RetV w (B r)) := by
  unfold law_coalHeaps at H
  refine fn_of (n := 106) Tryd.func17 rfl rfl (Nat.le_of_ble_eq_true rfl) ?_
  have S : St w (fun _ => False) w [] [rd eCoalDay 3 A1 c2 a0.Days, rd eCoalDip 3 A4 c5 a0.Dips, rd eCoalDay 3 A7 c8 a1.Days, rd eCoalDip 3 A10 c11 a1.Dips, bl 1 [I (-1), I (-1)] 123] := St.start w _ _ (List.forall_mem_cons.2 ⟨h3, (List.forall_mem_cons.2 ⟨h6, (List.forall_mem_cons.2 ⟨h9, (List.forall_mem_cons.2 ⟨h12, (List.forall_mem_cons.2 ⟨hg13, (fun _ h_ => (List.not_mem_nil h_).elim)⟩)⟩)⟩)⟩)⟩)
  refine c_seq ?_
  refine reg ?_
  refine p_boxA rfl S fun b14 w15 S16 => ?_
  refine p_boxA rfl S16 fun b17 w18 S19 => ?_
  refine p_boxA rfl S19 fun b20 w21 S22 => ?_
  refine p_aB rfl ?_
  refine wp_nil ?_
  refine c_seq ?_
  refine reg ?_
  refine p_ldA ty29 sz29 (S22.atX (i := 2) rfl) rfl rfl ?_
  obtain ⟨r23, h24, H⟩ := bindS H
  refine p_cv (coal_Right_ok h24 (S22.atP (i := 0) rfl) (S22.atP (i := 1) rfl) (S22.atP (i := 4) rfl)) fu26 rfl S22 fun w25 S26 => ?_
  refine p_mT rfl ?_
  refine p_ext rfl rfl ?_
  refine p_ext rfl rfl ?_
  refine p_aB rfl ?_
  refine p_aI rfl ?_
  refine wp_nil ?_
  refine c_seq ?_
  refine reg ?_
  refine p_ldA ty29 sz29 (S26.atX (i := 1) rfl) rfl rfl ?_
  obtain ⟨r27, h28, H⟩ := bindS H
  refine p_cv (ref_Right_ok h28 (S26.atP (i := 2) rfl) (S26.atP (i := 3) rfl)) fu56 rfl S26 fun w29 S30 => ?_
  refine p_mT rfl ?_
  refine p_ext rfl rfl ?_
  refine p_ext rfl rfl ?_
  refine p_aB rfl ?_
  refine p_aI rfl ?_
  refine wp_nil ?_
  refine c_seq ?_
  refine c_seq ?_
  rcases Bool.eq_false_or_eq_true ((r23.1 != r27.1)) with c31 | c31
  · replace H := condT c31 H
    refine reg_q mixed 15 (by kernel_rfl) ?_
    refine dS (fun _ k_ => p_mB rfl dn) ?_
    refine dS (fun _ k_ => p_mB rfl dn) ?_
    refine dS (fun _ k_ => o_neB rfl rfl ub4 dn) ?_
    refine dS (fun _ k_ => p_mB rfl dn) ?_
    refine dB c31 ?_
    refine dS (fun _ k_ => gF rfl rfl dnU) ?_
    refine dS (fun _ k_ => gF rfl rfl dnU) ?_
    refine dS (fun _ k_ => gF rfl rfl dnU) ?_
    refine dS (fun _ k_ => p_pkT rfl (rfl : _ = B true) dn) ?_
    refine dS (fun _ k_ => p_mB rfl dn) ?_
    refine dS (fun _ k_ => gF rfl rfl dnU) ?_
    refine dS (fun _ k_ => gF rfl rfl dnU) ?_
    refine dS (fun _ k_ => gF rfl rfl dnU) ?_
    refine dS (fun _ k_ => gF rfl rfl dnU) ?_
    refine dS (fun _ k_ => gF rfl rfl dnU) ?_
    refine dS (fun _ k_ => p_pkT rfl (rfl : _ = B true) dn) ?_
    intro w32 k33; have S34 := S30.call k33
    refine wp_nil ?_
    refine c_true rfl ?_
    refine c_seq ?_
    refine reg ?_
    refine p_aB rfl ?_
    refine wp_nil ?_
    obtain rfl := Option.some.inj H
    refine c_ret ?_; show bodyPostM (Fr none) 0 Tryd.prog Tryd.f17 _ .ret _ _
    refine ret_of (res1 rfl (rvT (rfl : _ = B false))) ?_
    exact ⟨_, rfl, rfl, S34.keep⟩
  · replace H := condF c31 H
    rcases Bool.eq_false_or_eq_true ((r23.2 != r27.2)) with c35 | c35
    · replace H := condT c35 H
      refine reg_q mixed 15 (by kernel_rfl) ?_
      refine dS (fun _ k_ => p_mB rfl dn) ?_
      refine dS (fun _ k_ => p_mB rfl dn) ?_
      refine dS (fun _ k_ => o_neB rfl rfl ub4 dn) ?_
      refine dS (fun _ k_ => p_mB rfl dn) ?_
      refine dB c31 ?_
      refine dS (fun _ k_ => gT rfl rfl (p_mI rfl dn)) ?_
      refine dS (fun _ k_ => gT rfl rfl (p_mI rfl dn)) ?_
      refine dS (fun _ k_ => gT rfl rfl (p_cmp rfl rfl rfl dn)) ?_
      refine dS (fun _ k_ => p_pkF rfl (rfl : _ = B (r23.2 != r27.2)) dn) ?_
      refine dS (fun _ k_ => p_mB rfl dn) ?_
      refine dB c35 ?_
      refine dS (fun _ k_ => gF rfl rfl dnU) ?_
      refine dS (fun _ k_ => gF rfl rfl dnU) ?_
      refine dS (fun _ k_ => gF rfl rfl dnU) ?_
      refine dS (fun _ k_ => gF rfl rfl dnU) ?_
      refine dS (fun _ k_ => gF rfl rfl dnU) ?_
      refine dS (fun _ k_ => p_pkT rfl (rfl : _ = B true) dn) ?_
      intro w36 k37; have S38 := S30.call k37
      refine wp_nil ?_
      refine c_true rfl ?_
      refine c_seq ?_
      refine reg ?_
      refine p_aB rfl ?_
      refine wp_nil ?_
      obtain rfl := Option.some.inj H
      refine c_ret ?_; show bodyPostM (Fr none) 0 Tryd.prog Tryd.f17 _ .ret _ _
      refine ret_of (res1 rfl (rvT (rfl : _ = B false))) ?_
      exact ⟨_, rfl, rfl, S38.keep⟩
    · replace H := condF c35 H
      obtain ⟨r39, h40, H⟩ := bindS H
      obtain ⟨r41, h42, H⟩ := bindS H
      refine reg_q mixed 15 (by kernel_rfl) ?_
      refine dS (fun _ k_ => p_mB rfl dn) ?_
      refine dS (fun _ k_ => p_mB rfl dn) ?_
      refine dS (fun _ k_ => o_neB rfl rfl ub4 dn) ?_
      refine dS (fun _ k_ => p_mB rfl dn) ?_
      refine dB c31 ?_
      refine dS (fun _ k_ => gT rfl rfl (p_mI rfl dn)) ?_
      refine dS (fun _ k_ => gT rfl rfl (p_mI rfl dn)) ?_
      refine dS (fun _ k_ => gT rfl rfl (p_cmp rfl rfl rfl dn)) ?_
      refine dS (fun _ k_ => p_pkF rfl (rfl : _ = B (r23.2 != r27.2)) dn) ?_
      refine dS (fun _ k_ => p_mB rfl dn) ?_
      refine dB c35 ?_
      refine dS (fun _ k_ => gT rfl rfl (p_ldA ty29 sz29 (Asr.stays (S30.atX (i := 2) rfl) k_) rfl rfl dn)) ?_
      refine dS (fun _ k_ => gT rfl rfl (p_cvD (coal_Check_ok h40 (Asr.stays (S30.atP (i := 0) rfl) k_) (Asr.stays (S30.atP (i := 1) rfl) k_)) fu41 rfl)) ?_
      refine dS (fun _ k_ => gT rfl rfl (p_ldA ty29 sz29 (Asr.stays (S30.atX (i := 1) rfl) k_) rfl rfl dn)) ?_
      refine dS (fun _ k_ => gT rfl rfl (p_cvD (ref_Check_ok h42 (Asr.stays (S30.atP (i := 2) rfl) k_) (Asr.stays (S30.atP (i := 3) rfl) k_)) fu57 rfl)) ?_
      refine dS (fun _ k_ => gT rfl rfl (p_cmp rfl rfl rfl dn)) ?_
      refine dS (fun _ k_ => p_pkF rfl (rfl : _ = B (r39 != r41)) dn) ?_
      intro w43 k44; have S45 := S30.call k44
      refine wp_nil ?_
      refine c_cond rfl (fun c46 => ?_) (fun c46 => ?_)
      · replace H := condT c46 H
        refine c_seq ?_
        refine reg ?_
        refine p_aB rfl ?_
        refine wp_nil ?_
        obtain rfl := Option.some.inj H
        refine c_ret ?_; show bodyPostM (Fr none) 0 Tryd.prog Tryd.f17 _ .ret _ _
        refine ret_of (res1 rfl (rvT (rfl : _ = B false))) ?_
        exact ⟨_, rfl, rfl, S45.keep⟩
      · replace H := condF c46 H
        refine c_skip ?_
        refine c_seq ?_
        refine reg ?_
        refine p_ldA ty29 sz29 (S45.atX (i := 2) rfl) rfl rfl ?_
        refine p_ixc ar30 rfl rfl (by decide) (by decide) ?_
        refine p_ld ty3 (S45.atX (i := 0) rfl) rfl rfl ?_
        obtain ⟨r47, h48, H⟩ := bindS H
        refine p_cv (coal_Heap_ok h48 (S45.atP (i := 0) rfl) (S45.atP (i := 1) rfl) (S45.atP (i := 4) rfl)) fu28 rfl S45 fun w49 S50 => ?_
        refine p_mT rfl ?_
        refine p_ext rfl rfl ?_
        refine p_ext rfl rfl ?_
        refine p_allA in23 S50 fun b51 w52 S53 => ?_
        refine p_stP (pre := []) (old := [I 0, I 0]) (post := []) (vs := [I r47.1.Low, I r47.1.High]) sz23 S53 (i := 0) rfl rfl rfl rfl (rfl : _ = AG [I r47.1.Low, I r47.1.High]) rfl rfl rfl rfl fun w54 S55 => ?_
        refine p_aI rfl ?_
        refine wp_nil ?_
        refine c_seq ?_
        refine reg ?_
        refine p_ldA ty29 sz29 (S55.atX (i := 2) rfl) rfl rfl ?_
        refine p_ixc ar30 rfl rfl (by decide) (by decide) ?_
        refine p_ld ty3 (S55.atX (i := 1) rfl) rfl rfl ?_
        obtain ⟨r56, h57, H⟩ := bindS H
        refine p_cv (ref_Heap_ok h57 (S55.atP (i := 2) rfl) (S55.atP (i := 3) rfl)) fu58 rfl S55 fun w58 S59 => ?_
        refine p_mT rfl ?_
        refine p_ext rfl rfl ?_
        refine p_ext rfl rfl ?_
        refine p_allA in23 S59 fun b60 w61 S62 => ?_
        refine p_stP (pre := []) (old := [I 0, I 0]) (post := []) (vs := [I r56.1.Low, I r56.1.High]) sz23 S62 (i := 0) rfl rfl rfl rfl (rfl : _ = AG [I r56.1.Low, I r56.1.High]) rfl rfl rfl rfl fun w63 S64 => ?_
        refine p_aI rfl ?_
        refine wp_nil ?_
        refine c_seq ?_
        refine c_seq ?_
        refine reg ?_
        refine p_ldA ty23 sz23 (S64.atX (i := 1) rfl) rfl rfl ?_
        refine p_ldA ty23 sz23 (S64.atX (i := 0) rfl) rfl rfl ?_
        refine o_neA (xs := [I r47.1.Low, I r47.1.High]) (ys := [I r56.1.Low, I r56.1.High]) (T := ((r47.1.Low == r56.1.Low) && (r47.1.High == r56.1.High))) rfl rfl eq23 ⟨⟨_, rfl⟩, ⟨⟨_, rfl⟩, trivial⟩⟩ ⟨⟨_, rfl⟩, ⟨⟨_, rfl⟩, trivial⟩⟩ (by simp [Bool.and_eq_true, and_assoc]) ?_
        refine p_mB rfl ?_
        rcases Bool.eq_false_or_eq_true (!((r47.1.Low == r56.1.Low) && (r47.1.High == r56.1.High))) with c65 | c65
        · replace H := condT c65 H
          refine eB c65 ?_
          refine gF rfl rfl ?_
          refine gF rfl rfl ?_
          refine gF rfl rfl ?_
          refine p_pkT rfl (rfl : _ = B true) ?_
          refine wp_nil ?_
          refine c_true rfl ?_
          refine c_seq ?_
          refine reg ?_
          refine p_aB rfl ?_
          refine wp_nil ?_
          obtain rfl := Option.some.inj H
          refine c_ret ?_; show bodyPostM (Fr none) 0 Tryd.prog Tryd.f17 _ .ret _ _
          refine ret_of (res1 rfl (rvT (rfl : _ = B false))) ?_
          exact ⟨_, rfl, rfl, S64.keep⟩
        · replace H := condF c65 H
          refine eB c65 ?_
          refine gT rfl rfl (p_mI rfl ?_)
          refine gT rfl rfl (p_mI rfl ?_)
          refine gT rfl rfl (p_cmp rfl rfl rfl ?_)
          refine p_pkF rfl (rfl : _ = B (r47.2 != r56.2)) ?_
          refine wp_nil ?_
          refine c_cond rfl (fun c66 => ?_) (fun c66 => ?_)
          · replace H := condT c66 H
            refine c_seq ?_
            refine reg ?_
            refine p_aB rfl ?_
            refine wp_nil ?_
            obtain rfl := Option.some.inj H
            refine c_ret ?_; show bodyPostM (Fr none) 0 Tryd.prog Tryd.f17 _ .ret _ _
            refine ret_of (res1 rfl (rvT (rfl : _ = B false))) ?_
            exact ⟨_, rfl, rfl, S64.keep⟩
          · replace H := condF c66 H
            refine c_skip ?_
            refine c_seq ?_
            refine reg ?_
            refine p_ldA ty29 sz29 (S64.atX (i := 4) rfl) rfl rfl ?_
            refine p_ixc ar30 rfl rfl (by decide) (by decide) ?_
            refine p_ld ty3 (S64.atX (i := 2) rfl) rfl rfl ?_
            obtain ⟨r67, h68, H⟩ := bindS H
            refine p_cv (coal_Eats_ok h68 (S64.atP (i := 0) rfl) (S64.atP (i := 1) rfl) (S64.atP (i := 4) rfl)) fu35 rfl S64 fun w69 S70 => ?_
            refine p_mT rfl ?_
            refine p_ext rfl rfl ?_
            refine p_ext rfl rfl ?_
            refine p_stP (pre := []) (old := [I r47.1.Low, I r47.1.High]) (post := []) (vs := [I r67.1.Low, I r67.1.High]) sz23 S70 (i := 1) rfl rfl rfl rfl (rfl : _ = AG [I r67.1.Low, I r67.1.High]) rfl rfl rfl rfl fun w71 S72 => ?_
            refine p_aI rfl ?_
            refine wp_nil ?_
            refine c_seq ?_
            refine reg ?_
            refine p_ldA ty29 sz29 (S72.atX (i := 3) rfl) rfl rfl ?_
            refine p_ixc ar30 rfl rfl (by decide) (by decide) ?_
            refine p_ld ty3 (S72.atX (i := 2) rfl) rfl rfl ?_
            obtain ⟨r73, h74, H⟩ := bindS H
            refine p_cv (ref_Eats_ok h74 (S72.atP (i := 2) rfl) (S72.atP (i := 3) rfl)) fu59 rfl S72 fun w75 S76 => ?_
            refine p_mT rfl ?_
            refine p_ext rfl rfl ?_
            refine p_ext rfl rfl ?_
            refine p_stP (pre := []) (old := [I r56.1.Low, I r56.1.High]) (post := []) (vs := [I r73.1.Low, I r73.1.High]) sz23 S76 (i := 0) rfl rfl rfl rfl (rfl : _ = AG [I r73.1.Low, I r73.1.High]) rfl rfl rfl rfl fun w77 S78 => ?_
            refine p_aI rfl ?_
            refine wp_nil ?_
            refine c_seq ?_
            refine c_seq ?_
            refine reg ?_
            refine p_ldA ty23 sz23 (S78.atX (i := 1) rfl) rfl rfl ?_
            refine p_ldA ty23 sz23 (S78.atX (i := 0) rfl) rfl rfl ?_
            refine o_neA (xs := [I r67.1.Low, I r67.1.High]) (ys := [I r73.1.Low, I r73.1.High]) (T := ((r67.1.Low == r73.1.Low) && (r67.1.High == r73.1.High))) rfl rfl eq23 ⟨⟨_, rfl⟩, ⟨⟨_, rfl⟩, trivial⟩⟩ ⟨⟨_, rfl⟩, ⟨⟨_, rfl⟩, trivial⟩⟩ (by simp [Bool.and_eq_true, and_assoc]) ?_
            refine p_mB rfl ?_
            rcases Bool.eq_false_or_eq_true (!((r67.1.Low == r73.1.Low) && (r67.1.High == r73.1.High))) with c79 | c79
            · replace H := condT c79 H
              refine eB c79 ?_
              refine gF rfl rfl ?_
              refine gF rfl rfl ?_
              refine gF rfl rfl ?_
              refine p_pkT rfl (rfl : _ = B true) ?_
              refine wp_nil ?_
              refine c_true rfl ?_
              refine c_seq ?_
              refine reg ?_
              refine p_aB rfl ?_
              refine wp_nil ?_
              obtain rfl := Option.some.inj H
              refine c_ret ?_; show bodyPostM (Fr none) 0 Tryd.prog Tryd.f17 _ .ret _ _
              refine ret_of (res1 rfl (rvT (rfl : _ = B false))) ?_
              exact ⟨_, rfl, rfl, S78.keep⟩
            · replace H := condF c79 H
              refine eB c79 ?_
              refine gT rfl rfl (p_mI rfl ?_)
              refine gT rfl rfl (p_mI rfl ?_)
              refine gT rfl rfl (p_cmp rfl rfl rfl ?_)
              refine p_pkF rfl (rfl : _ = B (r67.2 != r73.2)) ?_
              refine wp_nil ?_
              refine c_cond rfl (fun c80 => ?_) (fun c80 => ?_)
              · replace H := condT c80 H
                refine c_seq ?_
                refine reg ?_
                refine p_aB rfl ?_
                refine wp_nil ?_
                obtain rfl := Option.some.inj H
                refine c_ret ?_; show bodyPostM (Fr none) 0 Tryd.prog Tryd.f17 _ .ret _ _
                refine ret_of (res1 rfl (rvT (rfl : _ = B false))) ?_
                exact ⟨_, rfl, rfl, S78.keep⟩
              · replace H := condF c80 H
                refine c_skip ?_
                refine c_seq ?_
                refine reg ?_
                refine p_ldA ty29 sz29 (S78.atX (i := 4) rfl) rfl rfl ?_
                refine p_ixc ar30 rfl rfl (by decide) (by decide) ?_
                refine p_ld ty3 (S78.atX (i := 2) rfl) rfl rfl ?_
                obtain ⟨r81, h82, H⟩ := bindS H
                refine p_cv (coal_Wind_ok h82 (S78.atP (i := 0) rfl) (S78.atP (i := 1) rfl) (S78.atP (i := 4) rfl)) fu29 rfl S78 fun w83 S84 => ?_
                refine p_mT rfl ?_
                refine p_ext rfl rfl ?_
                refine p_ext rfl rfl ?_
                refine p_aI rfl ?_
                refine p_aI rfl ?_
                refine wp_nil ?_
                refine c_seq ?_
                refine reg ?_
                refine p_ldA ty29 sz29 (S84.atX (i := 3) rfl) rfl rfl ?_
                refine p_ixc ar30 rfl rfl (by decide) (by decide) ?_
                refine p_ld ty3 (S84.atX (i := 2) rfl) rfl rfl ?_
                obtain ⟨r85, h86, H⟩ := bindS H
                refine p_cv (ref_Wind_ok h86 (S84.atP (i := 2) rfl) (S84.atP (i := 3) rfl)) fu60 rfl S84 fun w87 S88 => ?_
                refine p_mT rfl ?_
                refine p_ext rfl rfl ?_
                refine p_ext rfl rfl ?_
                refine p_aI rfl ?_
                refine p_aI rfl ?_
                refine wp_nil ?_
                refine c_seq ?_
                refine reg ?_
                refine p_mI rfl ?_
                refine p_mI rfl ?_
                refine p_cmp rfl rfl rfl ?_
                refine p_mB rfl ?_
                rcases Bool.eq_false_or_eq_true ((r81.1 == r85.1)) with c89 | c89
                · replace H := condT c89 H
                  refine eB c89 ?_
                  refine gT rfl rfl (p_mI rfl ?_)
                  refine gT rfl rfl (p_mI rfl ?_)
                  refine gT rfl rfl (p_cmp rfl rfl rfl ?_)
                  refine p_pkT rfl (rfl : _ = B (r81.2 == r85.2)) ?_
                  refine p_aB rfl ?_
                  refine wp_nil ?_
                  obtain rfl := Option.some.inj H
                  refine c_ret ?_; show bodyPostM (Fr none) 0 Tryd.prog Tryd.f17 _ .ret _ _
                  refine ret_of (res1 rfl (rvT (rfl : _ = B (r81.2 == r85.2)))) ?_
                  exact ⟨_, rfl, rfl, S88.keep⟩
                · replace H := condF c89 H
                  refine eB c89 ?_
                  refine gF rfl rfl ?_
                  refine gF rfl rfl ?_
                  refine gF rfl rfl ?_
                  refine p_pkF rfl (rfl : _ = B false) ?_
                  refine p_aB rfl ?_
                  refine wp_nil ?_
                  obtain rfl := Option.some.inj H
                  refine c_ret ?_; show bodyPostM (Fr none) 0 Tryd.prog Tryd.f17 _ .ret _ _
                  refine ret_of (res1 rfl (rvT (rfl : _ = B false))) ?_
                  exact ⟨_, rfl, rfl, S88.keep⟩

def B_KeptDays_l1 (a0 : List CoalDay) (a1 : List CoalDay) (rec_z_1 : (Bool × Int) → Option Bool) (z_1 : Bool × Int) : Option Bool :=
  bif z_1.1 then (bif decide (z_1.2 < (a0.length : Int)) then ((getI a0 z_1.2).bind fun r13 =>
  (getI a1 z_1.2).bind fun r15 =>
  rec_z_1 (((r13.Crosses == r15.Crosses) && (r13.Engines == r15.Engines) && (r13.Winds == r15.Winds)), wr (z_1.2 + 1)))
  else (some z_1.1))
  else (some z_1.1)

def B_KeptDays (a0 : List CoalDay) (a1 : List CoalDay) : Option Bool :=
  loopF (B_KeptDays_l1 a0 a1) big (((a0.length : Int) == (a1.length : Int)), 0)

set_option maxRecDepth 100000 in
theorem B_KeptDays_ok {a0 : List CoalDay} {a1 : List CoalDay} {A1 : Option Addr} {c2 : Nat} {A4 : Option Addr} {c5 : Nat} {w : World} {r : Bool} (H : B_KeptDays a0 a1 = some r) (h3 : (rd eCoalDay 3 A1 c2 a0).ok w) (h6 : (rd eCoalDay 3 A4 c5 a1).ok w) : Calls Tryd.prog 61 #[SL A1 a0.length c2, SL A4 a1.length c5] w (RetV w (B r)) := by
  unfold B_KeptDays at H
  refine fn_of (n := 31) Tryd.func61 rfl rfl (Nat.le_of_ble_eq_true rfl) ?_
  have S : St w (fun _ => False) w [] [rd eCoalDay 3 A1 c2 a0, rd eCoalDay 3 A4 c5 a1] := St.start w _ _ (List.forall_mem_cons.2 ⟨h3, (List.forall_mem_cons.2 ⟨h6, (fun _ h_ => (List.not_mem_nil h_).elim)⟩)⟩)
  refine c_seq ?_
  refine reg ?_
  refine p_aB rfl ?_
  refine wp_nil ?_
  refine c_seq ?_
  refine reg ?_
  refine p_mS rfl ?_
  refine p_len rfl sc26 ?_
  refine p_mS rfl ?_
  refine p_len rfl sc26 ?_
  refine p_cmp rfl rfl rfl ?_
  refine p_aB rfl ?_
  refine wp_nil ?_
  refine c_seq ?_
  refine c_seq ?_
  refine reg ?_
  refine p_aI rfl ?_
  refine wp_nil ?_
  refine c_block ?_
  refine c_lop (α := Bool × Int) (β := Unit) (B_KeptDays_l1 a0 a1) (fun z_1 y_1 => [(0, SL A1 a0.length c2), (1, SL A4 a1.length c5), (5, B z_1.1), (6, I z_1.2)]) (fun z_1 y_1 w_ => St w (fun _ => False) w_ [] [rd eCoalDay 3 A1 c2 a0, rd eCoalDay 3 A4 c5 a1]) (((a0.length : Int) == (a1.length : Int)), 0) () H ⟨rfl, rfl, rfl, rfl, trivial⟩ S ?_
  intro m7 z_1 y_1 e8 w9 H S10
  unfold B_KeptDays_l1 at H
  refine c_seq ?_
  refine c_seq ?_
  refine reg ?_
  refine p_mB rfl ?_
  refine p_mB rfl ?_
  rcases Bool.eq_false_or_eq_true (z_1.1) with c11 | c11
  · replace H := condT c11 H
    refine eB c11 ?_
    refine gT rfl rfl (p_mI rfl ?_)
    refine gT rfl rfl (p_mS rfl ?_)
    refine gT rfl rfl (p_len rfl sc26 ?_)
    refine gT rfl rfl (p_cmp rfl rfl rfl ?_)
    refine p_pkT rfl (rfl : _ = B (decide (z_1.2 < (a0.length : Int)))) ?_
    refine wp_nil ?_
    refine c_cond rfl (fun c12 => ?_) (fun c12 => ?_)
    · replace H := condT c12 H
      refine c_skip ?_
      refine c_seq ?_
      refine c_block ?_
      obtain ⟨r13, h14, H⟩ := bindS H
      obtain ⟨r15, h16, H⟩ := bindS H
      refine reg_q mixed 10 (by kernel_rfl) ?_
      refine dS (fun _ k_ => p_mS rfl dn) ?_
      refine dS (fun _ k_ => p_mI rfl dn) ?_
      refine dS (fun _ k_ => p_ixE sc26 h14 (Asr.stays (S10.atP (i := 0) rfl) k_).1 rfl rfl rfl dn) ?_
      refine dS (fun _ k_ => p_ldEA ty64 sz64 rfl h14 (Asr.stays (S10.atP (i := 0) rfl) k_).1 rfl dn) ?_
      refine dS (fun _ k_ => p_mS rfl dn) ?_
      refine dS (fun _ k_ => p_mI rfl dn) ?_
      refine dS (fun _ k_ => p_ixE sc26 h16 (Asr.stays (S10.atP (i := 1) rfl) k_).1 rfl rfl rfl dn) ?_
      refine dS (fun _ k_ => p_ldEA ty64 sz64 rfl h16 (Asr.stays (S10.atP (i := 1) rfl) k_).1 rfl dn) ?_
      refine dS (fun _ k_ => o_eqA (xs := [I r13.Crosses, I r13.Engines, I r13.Winds]) (ys := [I r15.Crosses, I r15.Engines, I r15.Winds]) (T := ((r13.Crosses == r15.Crosses) && (r13.Engines == r15.Engines) && (r13.Winds == r15.Winds))) rfl rfl eq64 ⟨⟨_, rfl⟩, ⟨⟨_, rfl⟩, ⟨⟨_, rfl⟩, trivial⟩⟩⟩ ⟨⟨_, rfl⟩, ⟨⟨_, rfl⟩, ⟨⟨_, rfl⟩, trivial⟩⟩⟩ (by simp [Bool.and_eq_true, and_assoc]) dn) ?_
      refine dS (fun _ k_ => p_aB rfl dn) ?_
      intro w17 k18; have S19 := S10.call k18
      refine wp_nil ?_
      refine reg ?_
      refine p_mI rfl ?_
      refine p_add rfl rfl ?_
      refine p_aI rfl ?_
      refine wp_nil ?_
      exact ⟨(((r13.Crosses == r15.Crosses) && (r13.Engines == r15.Engines) && (r13.Winds == r15.Winds)), wr (z_1.2 + 1)), (), _, rfl, ⟨rfl, rfl, rfl, rfl, trivial⟩, H, S19⟩
    · replace H := condF c12 H
      refine c_exit ?_
      refine c_seq ?_
      refine reg ?_
      refine p_mB rfl ?_
      refine p_aB rfl ?_
      refine wp_nil ?_
      obtain rfl := Option.some.inj H
      refine c_ret ?_; show bodyPostM (Fr none) 0 Tryd.prog Tryd.f61 _ .ret _ _
      refine ret_of (res1 rfl (rvT (rfl : _ = B z_1.1))) ?_
      exact ⟨_, rfl, rfl, S10.keep⟩
  · replace H := condF c11 H
    refine eB c11 ?_
    refine gF rfl rfl ?_
    refine gF rfl rfl ?_
    refine gF rfl rfl ?_
    refine gF rfl rfl ?_
    refine p_pkF rfl (rfl : _ = B false) ?_
    refine wp_nil ?_
    refine c_false rfl ?_
    refine c_exit ?_
    refine c_seq ?_
    refine reg ?_
    refine p_mB rfl ?_
    refine p_aB rfl ?_
    refine wp_nil ?_
    obtain rfl := Option.some.inj H
    refine c_ret ?_; show bodyPostM (Fr none) 0 Tryd.prog Tryd.f61 _ .ret _ _
    refine ret_of (res1 rfl (rvT (rfl : _ = B z_1.1))) ?_
    exact ⟨_, rfl, rfl, S10.keep⟩

def B_KeptDips_l1 (a0 : List CoalDip) (a1 : List CoalDip) (rec_z_1 : (Bool × Int) → Option Bool) (z_1 : Bool × Int) : Option Bool :=
  bif z_1.1 then (bif decide (z_1.2 < (a0.length : Int)) then ((getI a0 z_1.2).bind fun r13 =>
  (getI a1 z_1.2).bind fun r15 =>
  rec_z_1 (((r13.Day == r15.Day) && (r13.Read == r15.Read) && (r13.Error == r15.Error)), wr (z_1.2 + 1)))
  else (some z_1.1))
  else (some z_1.1)

def B_KeptDips (a0 : List CoalDip) (a1 : List CoalDip) : Option Bool :=
  loopF (B_KeptDips_l1 a0 a1) big (((a0.length : Int) == (a1.length : Int)), 0)

set_option maxRecDepth 100000 in
theorem B_KeptDips_ok {a0 : List CoalDip} {a1 : List CoalDip} {A1 : Option Addr} {c2 : Nat} {A4 : Option Addr} {c5 : Nat} {w : World} {r : Bool} (H : B_KeptDips a0 a1 = some r) (h3 : (rd eCoalDip 3 A1 c2 a0).ok w) (h6 : (rd eCoalDip 3 A4 c5 a1).ok w) : Calls Tryd.prog 62 #[SL A1 a0.length c2, SL A4 a1.length c5] w (RetV w (B r)) := by
  unfold B_KeptDips at H
  refine fn_of (n := 31) Tryd.func62 rfl rfl (Nat.le_of_ble_eq_true rfl) ?_
  have S : St w (fun _ => False) w [] [rd eCoalDip 3 A1 c2 a0, rd eCoalDip 3 A4 c5 a1] := St.start w _ _ (List.forall_mem_cons.2 ⟨h3, (List.forall_mem_cons.2 ⟨h6, (fun _ h_ => (List.not_mem_nil h_).elim)⟩)⟩)
  refine c_seq ?_
  refine reg ?_
  refine p_aB rfl ?_
  refine wp_nil ?_
  refine c_seq ?_
  refine reg ?_
  refine p_mS rfl ?_
  refine p_len rfl sc27 ?_
  refine p_mS rfl ?_
  refine p_len rfl sc27 ?_
  refine p_cmp rfl rfl rfl ?_
  refine p_aB rfl ?_
  refine wp_nil ?_
  refine c_seq ?_
  refine c_seq ?_
  refine reg ?_
  refine p_aI rfl ?_
  refine wp_nil ?_
  refine c_block ?_
  refine c_lop (α := Bool × Int) (β := Unit) (B_KeptDips_l1 a0 a1) (fun z_1 y_1 => [(0, SL A1 a0.length c2), (1, SL A4 a1.length c5), (5, B z_1.1), (6, I z_1.2)]) (fun z_1 y_1 w_ => St w (fun _ => False) w_ [] [rd eCoalDip 3 A1 c2 a0, rd eCoalDip 3 A4 c5 a1]) (((a0.length : Int) == (a1.length : Int)), 0) () H ⟨rfl, rfl, rfl, rfl, trivial⟩ S ?_
  intro m7 z_1 y_1 e8 w9 H S10
  unfold B_KeptDips_l1 at H
  refine c_seq ?_
  refine c_seq ?_
  refine reg ?_
  refine p_mB rfl ?_
  refine p_mB rfl ?_
  rcases Bool.eq_false_or_eq_true (z_1.1) with c11 | c11
  · replace H := condT c11 H
    refine eB c11 ?_
    refine gT rfl rfl (p_mI rfl ?_)
    refine gT rfl rfl (p_mS rfl ?_)
    refine gT rfl rfl (p_len rfl sc27 ?_)
    refine gT rfl rfl (p_cmp rfl rfl rfl ?_)
    refine p_pkT rfl (rfl : _ = B (decide (z_1.2 < (a0.length : Int)))) ?_
    refine wp_nil ?_
    refine c_cond rfl (fun c12 => ?_) (fun c12 => ?_)
    · replace H := condT c12 H
      refine c_skip ?_
      refine c_seq ?_
      refine c_block ?_
      obtain ⟨r13, h14, H⟩ := bindS H
      obtain ⟨r15, h16, H⟩ := bindS H
      refine reg_q mixed 10 (by kernel_rfl) ?_
      refine dS (fun _ k_ => p_mS rfl dn) ?_
      refine dS (fun _ k_ => p_mI rfl dn) ?_
      refine dS (fun _ k_ => p_ixE sc27 h14 (Asr.stays (S10.atP (i := 0) rfl) k_).1 rfl rfl rfl dn) ?_
      refine dS (fun _ k_ => p_ldEA ty67 sz67 rfl h14 (Asr.stays (S10.atP (i := 0) rfl) k_).1 rfl dn) ?_
      refine dS (fun _ k_ => p_mS rfl dn) ?_
      refine dS (fun _ k_ => p_mI rfl dn) ?_
      refine dS (fun _ k_ => p_ixE sc27 h16 (Asr.stays (S10.atP (i := 1) rfl) k_).1 rfl rfl rfl dn) ?_
      refine dS (fun _ k_ => p_ldEA ty67 sz67 rfl h16 (Asr.stays (S10.atP (i := 1) rfl) k_).1 rfl dn) ?_
      refine dS (fun _ k_ => o_eqA (xs := [I r13.Day, I r13.Read, I r13.Error]) (ys := [I r15.Day, I r15.Read, I r15.Error]) (T := ((r13.Day == r15.Day) && (r13.Read == r15.Read) && (r13.Error == r15.Error))) rfl rfl eq67 ⟨⟨_, rfl⟩, ⟨⟨_, rfl⟩, ⟨⟨_, rfl⟩, trivial⟩⟩⟩ ⟨⟨_, rfl⟩, ⟨⟨_, rfl⟩, ⟨⟨_, rfl⟩, trivial⟩⟩⟩ (by simp [Bool.and_eq_true, and_assoc]) dn) ?_
      refine dS (fun _ k_ => p_aB rfl dn) ?_
      intro w17 k18; have S19 := S10.call k18
      refine wp_nil ?_
      refine reg ?_
      refine p_mI rfl ?_
      refine p_add rfl rfl ?_
      refine p_aI rfl ?_
      refine wp_nil ?_
      exact ⟨(((r13.Day == r15.Day) && (r13.Read == r15.Read) && (r13.Error == r15.Error)), wr (z_1.2 + 1)), (), _, rfl, ⟨rfl, rfl, rfl, rfl, trivial⟩, H, S19⟩
    · replace H := condF c12 H
      refine c_exit ?_
      refine c_seq ?_
      refine reg ?_
      refine p_mB rfl ?_
      refine p_aB rfl ?_
      refine wp_nil ?_
      obtain rfl := Option.some.inj H
      refine c_ret ?_; show bodyPostM (Fr none) 0 Tryd.prog Tryd.f62 _ .ret _ _
      refine ret_of (res1 rfl (rvT (rfl : _ = B z_1.1))) ?_
      exact ⟨_, rfl, rfl, S10.keep⟩
  · replace H := condF c11 H
    refine eB c11 ?_
    refine gF rfl rfl ?_
    refine gF rfl rfl ?_
    refine gF rfl rfl ?_
    refine gF rfl rfl ?_
    refine p_pkF rfl (rfl : _ = B false) ?_
    refine wp_nil ?_
    refine c_false rfl ?_
    refine c_exit ?_
    refine c_seq ?_
    refine reg ?_
    refine p_mB rfl ?_
    refine p_aB rfl ?_
    refine wp_nil ?_
    obtain rfl := Option.some.inj H
    refine c_ret ?_; show bodyPostM (Fr none) 0 Tryd.prog Tryd.f62 _ .ret _ _
    refine ret_of (res1 rfl (rvT (rfl : _ = B z_1.1))) ?_
    exact ⟨_, rfl, rfl, S10.keep⟩

def B_KeptCoal (a0 : CoalBook) (a1 : CoalBook) : Option Bool :=
  bif ((a0.Heap.Low == a1.Heap.Low) && (a0.Heap.High == a1.Heap.High)) then (bif ((((agetS a0.Eats (0 : Int)).Low) == ((agetS a1.Eats (0 : Int)).Low)) && (((agetS a0.Eats (0 : Int)).High) == ((agetS a1.Eats (0 : Int)).High)) && (((agetS a0.Eats (1 : Int)).Low) == ((agetS a1.Eats (1 : Int)).Low)) && (((agetS a0.Eats (1 : Int)).High) == ((agetS a1.Eats (1 : Int)).High))) then (bif decide (sgl a0.Extra 3 = sgl a1.Extra 3) then ((B_KeptDays a0.Days a1.Days).bind fun r22 =>
  bif r22 then (bif ((a0.Collier.Low == a1.Collier.Low) && (a0.Collier.High == a1.Collier.High)) then (bif (a0.Brings == a1.Brings) then ((B_KeptDips a0.Dips a1.Dips).bind fun r29 =>
  some r29)
  else (some false))
  else (some false))
  else (some false))
  else (some false))
  else (some false))
  else (some false)

set_option maxRecDepth 100000 in
theorem B_KeptCoal_ok {a0 : CoalBook} {a1 : CoalBook} {A1 : Option Addr} {c2 : Nat} {A4 : Option Addr} {c5 : Nat} {A7 : Option Addr} {c8 : Nat} {A10 : Option Addr} {c11 : Nat} {w : World} {r : Bool} (H : B_KeptCoal a0 a1 = some r) (h3 : (rd eCoalDay 3 A1 c2 a0.Days).ok w) (h6 : (rd eCoalDip 3 A4 c5 a0.Dips).ok w) (h9 : (rd eCoalDay 3 A7 c8 a1.Days).ok w) (h12 : (rd eCoalDip 3 A10 c11 a1.Dips).ok w) : Calls Tryd.prog 18 #[AG ([I a0.Heap.Low, I a0.Heap.High] ++ (sgE eSpan a0.Eats 2 ++ (sg a0.Extra 3 ++ [SL A1 a0.Days.length c2, I a0.Collier.Low, I a0.Collier.High, I a0.Brings, SL A4 a0.Dips.length c5]))), AG ([I a1.Heap.Low, I a1.Heap.High] ++ (sgE eSpan a1.Eats 2 ++ (sg a1.Extra 3 ++ [SL A7 a1.Days.length c8, I a1.Collier.Low, I a1.Collier.High, I a1.Brings, SL A10 a1.Dips.length c11])))] w (RetV w (B r)) := by
  unfold B_KeptCoal at H
  refine fn_of (n := 52) Tryd.func18 rfl rfl (Nat.le_of_ble_eq_true rfl) ?_
  have S : St w (fun _ => False) w [] [rd eCoalDay 3 A1 c2 a0.Days, rd eCoalDip 3 A4 c5 a0.Dips, rd eCoalDay 3 A7 c8 a1.Days, rd eCoalDip 3 A10 c11 a1.Dips] := St.start w _ _ (List.forall_mem_cons.2 ⟨h3, (List.forall_mem_cons.2 ⟨h6, (List.forall_mem_cons.2 ⟨h9, (List.forall_mem_cons.2 ⟨h12, (fun _ h_ => (List.not_mem_nil h_).elim)⟩)⟩)⟩)⟩)
  refine c_seq ?_
  refine reg ?_
  refine p_boxA rfl S fun b13 w14 S15 => ?_
  refine p_boxA rfl S15 fun b16 w17 S18 => ?_
  refine p_aB rfl ?_
  refine wp_nil ?_
  refine c_seq ?_
  refine reg ?_
  refine p_fld fl29_0 rfl ?_
  refine p_ldP (vs := [I a0.Heap.Low, I a0.Heap.High]) ty23 sz23 (S18.atX (i := 1) rfl) rfl rfl rfl ?_
  refine p_fld fl29_0 rfl ?_
  refine p_ldP (vs := [I a1.Heap.Low, I a1.Heap.High]) ty23 sz23 (S18.atX (i := 0) rfl) rfl rfl rfl ?_
  refine o_eqA (xs := [I a0.Heap.Low, I a0.Heap.High]) (ys := [I a1.Heap.Low, I a1.Heap.High]) (T := ((a0.Heap.Low == a1.Heap.Low) && (a0.Heap.High == a1.Heap.High))) rfl rfl eq23 ⟨⟨_, rfl⟩, ⟨⟨_, rfl⟩, trivial⟩⟩ ⟨⟨_, rfl⟩, ⟨⟨_, rfl⟩, trivial⟩⟩ (by simp [Bool.and_eq_true, and_assoc]) ?_
  refine p_mB rfl ?_
  rcases Bool.eq_false_or_eq_true (((a0.Heap.Low == a1.Heap.Low) && (a0.Heap.High == a1.Heap.High))) with c19 | c19
  · replace H := condT c19 H
    refine eB c19 ?_
    refine gT rfl rfl (p_fld fl29_1 rfl ?_)
    refine gT rfl rfl (p_ldP (vs := sgE eSpan a0.Eats 2) ty24 sz24 (S18.atX (i := 1) rfl) rfl rfl rfl ?_)
    refine gT rfl rfl (p_fld fl29_1 rfl ?_)
    refine gT rfl rfl (p_ldP (vs := sgE eSpan a1.Eats 2) ty24 sz24 (S18.atX (i := 0) rfl) rfl rfl rfl ?_)
    refine gT rfl rfl (o_eqA (xs := [I ((agetS a0.Eats (0 : Int)).Low), I ((agetS a0.Eats (0 : Int)).High), I ((agetS a0.Eats (1 : Int)).Low), I ((agetS a0.Eats (1 : Int)).High)]) (ys := [I ((agetS a1.Eats (0 : Int)).Low), I ((agetS a1.Eats (0 : Int)).High), I ((agetS a1.Eats (1 : Int)).Low), I ((agetS a1.Eats (1 : Int)).High)]) (T := ((((agetS a0.Eats (0 : Int)).Low) == ((agetS a1.Eats (0 : Int)).Low)) && (((agetS a0.Eats (0 : Int)).High) == ((agetS a1.Eats (0 : Int)).High)) && (((agetS a0.Eats (1 : Int)).Low) == ((agetS a1.Eats (1 : Int)).Low)) && (((agetS a0.Eats (1 : Int)).High) == ((agetS a1.Eats (1 : Int)).High)))) rfl rfl eq24 ⟨⟨_, rfl⟩, ⟨⟨_, rfl⟩, ⟨⟨_, rfl⟩, ⟨⟨_, rfl⟩, trivial⟩⟩⟩⟩ ⟨⟨_, rfl⟩, ⟨⟨_, rfl⟩, ⟨⟨_, rfl⟩, ⟨⟨_, rfl⟩, trivial⟩⟩⟩⟩ (by simp [Bool.and_eq_true, and_assoc]) ?_)
    refine p_pkT rfl (rfl : _ = B ((((agetS a0.Eats (0 : Int)).Low) == ((agetS a1.Eats (0 : Int)).Low)) && (((agetS a0.Eats (0 : Int)).High) == ((agetS a1.Eats (0 : Int)).High)) && (((agetS a0.Eats (1 : Int)).Low) == ((agetS a1.Eats (1 : Int)).Low)) && (((agetS a0.Eats (1 : Int)).High) == ((agetS a1.Eats (1 : Int)).High)))) ?_
    refine p_mB rfl ?_
    rcases Bool.eq_false_or_eq_true (((((agetS a0.Eats (0 : Int)).Low) == ((agetS a1.Eats (0 : Int)).Low)) && (((agetS a0.Eats (0 : Int)).High) == ((agetS a1.Eats (0 : Int)).High)) && (((agetS a0.Eats (1 : Int)).Low) == ((agetS a1.Eats (1 : Int)).Low)) && (((agetS a0.Eats (1 : Int)).High) == ((agetS a1.Eats (1 : Int)).High)))) with c20 | c20
    · replace H := condT c20 H
      refine eB c20 ?_
      refine gT rfl rfl (p_fld fl29_2 rfl ?_)
      refine gT rfl rfl (p_ldP (vs := sg a0.Extra 3) ty25 sz25 (S18.atX (i := 1) rfl) rfl rfl rfl ?_)
      refine gT rfl rfl (p_fld fl29_2 rfl ?_)
      refine gT rfl rfl (p_ldP (vs := sg a1.Extra 3) ty25 sz25 (S18.atX (i := 0) rfl) rfl rfl rfl ?_)
      refine gT rfl rfl (p_eqS (m := 3) eq25 rfl rfl ?_)
      refine p_pkT rfl (rfl : _ = B (decide (sgl a0.Extra 3 = sgl a1.Extra 3))) ?_
      refine p_mB rfl ?_
      rcases Bool.eq_false_or_eq_true (decide (sgl a0.Extra 3 = sgl a1.Extra 3)) with c21 | c21
      · replace H := condT c21 H
        refine eB c21 ?_
        refine gT rfl rfl (p_fld fl29_3 rfl ?_)
        refine gT rfl rfl (p_ld ty26 (S18.atX (i := 1) rfl) rfl rfl ?_)
        refine gT rfl rfl (p_fld fl29_3 rfl ?_)
        refine gT rfl rfl (p_ld ty26 (S18.atX (i := 0) rfl) rfl rfl ?_)
        obtain ⟨r22, h23, H⟩ := bindS H
        refine gT rfl rfl (p_cv (B_KeptDays_ok h23 (S18.atP (i := 0) rfl) (S18.atP (i := 2) rfl)) fu61 rfl S18 fun w24 S25 => ?_)
        refine p_pkT rfl (rfl : _ = B r22) ?_
        refine p_mB rfl ?_
        rcases Bool.eq_false_or_eq_true (r22) with c26 | c26
        · replace H := condT c26 H
          refine eB c26 ?_
          refine gT rfl rfl (p_fld fl29_4 rfl ?_)
          refine gT rfl rfl (p_ldP (vs := [I a0.Collier.Low, I a0.Collier.High]) ty23 sz23 (S25.atX (i := 1) rfl) rfl rfl rfl ?_)
          refine gT rfl rfl (p_fld fl29_4 rfl ?_)
          refine gT rfl rfl (p_ldP (vs := [I a1.Collier.Low, I a1.Collier.High]) ty23 sz23 (S25.atX (i := 0) rfl) rfl rfl rfl ?_)
          refine gT rfl rfl (o_eqA (xs := [I a0.Collier.Low, I a0.Collier.High]) (ys := [I a1.Collier.Low, I a1.Collier.High]) (T := ((a0.Collier.Low == a1.Collier.Low) && (a0.Collier.High == a1.Collier.High))) rfl rfl eq23 ⟨⟨_, rfl⟩, ⟨⟨_, rfl⟩, trivial⟩⟩ ⟨⟨_, rfl⟩, ⟨⟨_, rfl⟩, trivial⟩⟩ (by simp [Bool.and_eq_true, and_assoc]) ?_)
          refine p_pkT rfl (rfl : _ = B ((a0.Collier.Low == a1.Collier.Low) && (a0.Collier.High == a1.Collier.High))) ?_
          refine p_mB rfl ?_
          rcases Bool.eq_false_or_eq_true (((a0.Collier.Low == a1.Collier.Low) && (a0.Collier.High == a1.Collier.High))) with c27 | c27
          · replace H := condT c27 H
            refine eB c27 ?_
            refine gT rfl rfl (p_fld fl29_5 rfl ?_)
            refine gT rfl rfl (p_ld ty3 (S25.atX (i := 1) rfl) rfl rfl ?_)
            refine gT rfl rfl (p_fld fl29_5 rfl ?_)
            refine gT rfl rfl (p_ld ty3 (S25.atX (i := 0) rfl) rfl rfl ?_)
            refine gT rfl rfl (p_cmp rfl rfl rfl ?_)
            refine p_pkT rfl (rfl : _ = B (a0.Brings == a1.Brings)) ?_
            refine p_mB rfl ?_
            rcases Bool.eq_false_or_eq_true ((a0.Brings == a1.Brings)) with c28 | c28
            · replace H := condT c28 H
              refine eB c28 ?_
              refine gT rfl rfl (p_fld fl29_6 rfl ?_)
              refine gT rfl rfl (p_ld ty27 (S25.atX (i := 1) rfl) rfl rfl ?_)
              refine gT rfl rfl (p_fld fl29_6 rfl ?_)
              refine gT rfl rfl (p_ld ty27 (S25.atX (i := 0) rfl) rfl rfl ?_)
              obtain ⟨r29, h30, H⟩ := bindS H
              refine gT rfl rfl (p_cv (B_KeptDips_ok h30 (S25.atP (i := 1) rfl) (S25.atP (i := 3) rfl)) fu62 rfl S25 fun w31 S32 => ?_)
              refine p_pkT rfl (rfl : _ = B r29) ?_
              refine p_aB rfl ?_
              refine wp_nil ?_
              obtain rfl := Option.some.inj H
              refine c_ret ?_; show bodyPostM (Fr none) 0 Tryd.prog Tryd.f18 _ .ret _ _
              refine ret_of (res1 rfl (rvT (rfl : _ = B r29))) ?_
              exact ⟨_, rfl, rfl, S32.keep⟩
            · replace H := condF c28 H
              refine eB c28 ?_
              refine gF rfl rfl ?_
              refine gF rfl rfl ?_
              refine gF rfl rfl ?_
              refine gF rfl rfl ?_
              refine gF rfl rfl ?_
              refine p_pkF rfl (rfl : _ = B false) ?_
              refine p_aB rfl ?_
              refine wp_nil ?_
              obtain rfl := Option.some.inj H
              refine c_ret ?_; show bodyPostM (Fr none) 0 Tryd.prog Tryd.f18 _ .ret _ _
              refine ret_of (res1 rfl (rvT (rfl : _ = B false))) ?_
              exact ⟨_, rfl, rfl, S25.keep⟩
          · replace H := condF c27 H
            refine eB c27 ?_
            refine gF rfl rfl ?_
            refine gF rfl rfl ?_
            refine gF rfl rfl ?_
            refine gF rfl rfl ?_
            refine gF rfl rfl ?_
            refine p_pkF rfl (rfl : _ = B false) ?_
            refine p_mB rfl ?_
            refine gF rfl rfl ?_
            refine gF rfl rfl ?_
            refine gF rfl rfl ?_
            refine gF rfl rfl ?_
            refine gF rfl rfl ?_
            refine p_pkF rfl (rfl : _ = B false) ?_
            refine p_aB rfl ?_
            refine wp_nil ?_
            obtain rfl := Option.some.inj H
            refine c_ret ?_; show bodyPostM (Fr none) 0 Tryd.prog Tryd.f18 _ .ret _ _
            refine ret_of (res1 rfl (rvT (rfl : _ = B false))) ?_
            exact ⟨_, rfl, rfl, S25.keep⟩
        · replace H := condF c26 H
          refine eB c26 ?_
          refine gF rfl rfl ?_
          refine gF rfl rfl ?_
          refine gF rfl rfl ?_
          refine gF rfl rfl ?_
          refine gF rfl rfl ?_
          refine p_pkF rfl (rfl : _ = B false) ?_
          refine p_mB rfl ?_
          refine gF rfl rfl ?_
          refine gF rfl rfl ?_
          refine gF rfl rfl ?_
          refine gF rfl rfl ?_
          refine gF rfl rfl ?_
          refine p_pkF rfl (rfl : _ = B false) ?_
          refine p_mB rfl ?_
          refine gF rfl rfl ?_
          refine gF rfl rfl ?_
          refine gF rfl rfl ?_
          refine gF rfl rfl ?_
          refine gF rfl rfl ?_
          refine p_pkF rfl (rfl : _ = B false) ?_
          refine p_aB rfl ?_
          refine wp_nil ?_
          obtain rfl := Option.some.inj H
          refine c_ret ?_; show bodyPostM (Fr none) 0 Tryd.prog Tryd.f18 _ .ret _ _
          refine ret_of (res1 rfl (rvT (rfl : _ = B false))) ?_
          exact ⟨_, rfl, rfl, S25.keep⟩
      · replace H := condF c21 H
        refine eB c21 ?_
        refine gF rfl rfl ?_
        refine gF rfl rfl ?_
        refine gF rfl rfl ?_
        refine gF rfl rfl ?_
        refine gF rfl rfl ?_
        refine p_pkF rfl (rfl : _ = B false) ?_
        refine p_mB rfl ?_
        refine gF rfl rfl ?_
        refine gF rfl rfl ?_
        refine gF rfl rfl ?_
        refine gF rfl rfl ?_
        refine gF rfl rfl ?_
        refine p_pkF rfl (rfl : _ = B false) ?_
        refine p_mB rfl ?_
        refine gF rfl rfl ?_
        refine gF rfl rfl ?_
        refine gF rfl rfl ?_
        refine gF rfl rfl ?_
        refine gF rfl rfl ?_
        refine p_pkF rfl (rfl : _ = B false) ?_
        refine p_mB rfl ?_
        refine gF rfl rfl ?_
        refine gF rfl rfl ?_
        refine gF rfl rfl ?_
        refine gF rfl rfl ?_
        refine gF rfl rfl ?_
        refine p_pkF rfl (rfl : _ = B false) ?_
        refine p_aB rfl ?_
        refine wp_nil ?_
        obtain rfl := Option.some.inj H
        refine c_ret ?_; show bodyPostM (Fr none) 0 Tryd.prog Tryd.f18 _ .ret _ _
        refine ret_of (res1 rfl (rvT (rfl : _ = B false))) ?_
        exact ⟨_, rfl, rfl, S18.keep⟩
    · replace H := condF c20 H
      refine eB c20 ?_
      refine gF rfl rfl ?_
      refine gF rfl rfl ?_
      refine gF rfl rfl ?_
      refine gF rfl rfl ?_
      refine gF rfl rfl ?_
      refine p_pkF rfl (rfl : _ = B false) ?_
      refine p_mB rfl ?_
      refine gF rfl rfl ?_
      refine gF rfl rfl ?_
      refine gF rfl rfl ?_
      refine gF rfl rfl ?_
      refine gF rfl rfl ?_
      refine p_pkF rfl (rfl : _ = B false) ?_
      refine p_mB rfl ?_
      refine gF rfl rfl ?_
      refine gF rfl rfl ?_
      refine gF rfl rfl ?_
      refine gF rfl rfl ?_
      refine gF rfl rfl ?_
      refine p_pkF rfl (rfl : _ = B false) ?_
      refine p_mB rfl ?_
      refine gF rfl rfl ?_
      refine gF rfl rfl ?_
      refine gF rfl rfl ?_
      refine gF rfl rfl ?_
      refine gF rfl rfl ?_
      refine p_pkF rfl (rfl : _ = B false) ?_
      refine p_mB rfl ?_
      refine gF rfl rfl ?_
      refine gF rfl rfl ?_
      refine gF rfl rfl ?_
      refine gF rfl rfl ?_
      refine gF rfl rfl ?_
      refine p_pkF rfl (rfl : _ = B false) ?_
      refine p_aB rfl ?_
      refine wp_nil ?_
      obtain rfl := Option.some.inj H
      refine c_ret ?_; show bodyPostM (Fr none) 0 Tryd.prog Tryd.f18 _ .ret _ _
      refine ret_of (res1 rfl (rvT (rfl : _ = B false))) ?_
      exact ⟨_, rfl, rfl, S18.keep⟩
  · replace H := condF c19 H
    refine eB c19 ?_
    refine gF rfl rfl ?_
    refine gF rfl rfl ?_
    refine gF rfl rfl ?_
    refine gF rfl rfl ?_
    refine gF rfl rfl ?_
    refine p_pkF rfl (rfl : _ = B false) ?_
    refine p_mB rfl ?_
    refine gF rfl rfl ?_
    refine gF rfl rfl ?_
    refine gF rfl rfl ?_
    refine gF rfl rfl ?_
    refine gF rfl rfl ?_
    refine p_pkF rfl (rfl : _ = B false) ?_
    refine p_mB rfl ?_
    refine gF rfl rfl ?_
    refine gF rfl rfl ?_
    refine gF rfl rfl ?_
    refine gF rfl rfl ?_
    refine gF rfl rfl ?_
    refine p_pkF rfl (rfl : _ = B false) ?_
    refine p_mB rfl ?_
    refine gF rfl rfl ?_
    refine gF rfl rfl ?_
    refine gF rfl rfl ?_
    refine gF rfl rfl ?_
    refine gF rfl rfl ?_
    refine p_pkF rfl (rfl : _ = B false) ?_
    refine p_mB rfl ?_
    refine gF rfl rfl ?_
    refine gF rfl rfl ?_
    refine gF rfl rfl ?_
    refine gF rfl rfl ?_
    refine gF rfl rfl ?_
    refine p_pkF rfl (rfl : _ = B false) ?_
    refine p_mB rfl ?_
    refine gF rfl rfl ?_
    refine gF rfl rfl ?_
    refine gF rfl rfl ?_
    refine gF rfl rfl ?_
    refine gF rfl rfl ?_
    refine p_pkF rfl (rfl : _ = B false) ?_
    refine p_aB rfl ?_
    refine wp_nil ?_
    obtain rfl := Option.some.inj H
    refine c_ret ?_; show bodyPostM (Fr none) 0 Tryd.prog Tryd.f18 _ .ret _ _
    refine ret_of (res1 rfl (rvT (rfl : _ = B false))) ?_
    exact ⟨_, rfl, rfl, S18.keep⟩

def coal_Wrong_1_l3 (q0 : CoalBook) (a0 : List Int) (rec_ : (List Int) → Int → Option ((List Int) × Bool)) (a1 : Int) (rec_z_2 : Int → Option ((List Int) × Bool)) (z_2 : Int) : Option ((List Int) × Bool) :=
  bif decide (z_2 < (q0.Dips.length : Int)) then (need (fitsL (a0.length + ([z_2] : List Int).length) 8) <|
  (rec_ (a0 ++ ([z_2] : List Int)) a1).bind fun r64 =>
  bif r64.2 then (some (r64.1, true))
  else (rec_z_2 (wr (z_2 + 1))))
  else (some (([] : List _), false))

def coal_Wrong_1_j4 (q0 : CoalBook) (a0 : List Int) (rec_ : (List Int) → Int → Option ((List Int) × Bool)) (a1 : Int) (z_1 : Int) : Option ((List Int) × Bool) :=
  loopF (coal_Wrong_1_l3 q0 a0 rec_ a1) big z_1

end Go.Proofs.YticodohfokgjfaaDoor

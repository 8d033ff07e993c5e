/- What the functions of the program compute, and that they do, printed by a program of mine. -/
import Derived.Test.YticodohfokgjfaaDoorZWB
import Derived.KernelRfl
set_option linter.unusedVariables false
set_option linter.unusedSimpArgs false
namespace Go.Proofs.YticodohfokgjfaaDoor
open Go Go.Fx Go.Proofs
set_option maxRecDepth 100000 in
theorem ref_Check_ok {a0 : CoalBook} {A1 : Option Addr} {c2 : Nat} {A4 : Option Addr} {c5 : Nat} {w : World} {r : Int} (H : ref_Check a0 = some r) (h3 : (rd eCoalDay 3 A1 c2 a0.Days).ok w) (h6 : (rd eCoalDip 3 A4 c5 a0.Dips).ok w) : Calls Tryd.prog 57 #[AG ([I a0.Heap.Low, I a0.Heap.High] ++ (sgE eSpan a0.Eats 2 ++ (sg a0.Extra 3 ++ [SL A1 a0.Days.length c2, I a0.Collier.Low, I a0.Collier.High, I a0.Brings, SL A4 a0.Dips.length c5])))] w (RetV w (I r)) := by
  unfold ref_Check at H
  refine fn_of (n := 129) Tryd.func57 rfl rfl (Nat.le_of_ble_eq_true rfl) ?_
  have S : St w (fun _ => False) w [] [rd eCoalDay 3 A1 c2 a0.Days, rd eCoalDip 3 A4 c5 a0.Dips] := St.start w _ _ (List.forall_mem_cons.2 ⟨h3, (List.forall_mem_cons.2 ⟨h6, (fun _ h_ => (List.not_mem_nil h_).elim)⟩)⟩)
  refine c_seq ?_
  refine reg ?_
  refine p_boxA rfl S fun b7 w8 S9 => ?_
  refine p_aI rfl ?_
  refine wp_nil ?_
  refine c_join (α := Bool) (β := Unit) (fun z_1 y_1 => [(1, P b7 0), (3, B z_1)]) (fun z_1 y_1 w_ => ref_Check_j17 a0 z_1 = some r ∧ St w (fun _ => False) w_ [bl b7 ([I a0.Heap.Low, I a0.Heap.High] ++ (sgE eSpan a0.Eats 2 ++ (sg a0.Extra 3 ++ [SL A1 a0.Days.length c2, I a0.Collier.Low, I a0.Collier.High, I a0.Brings, SL A4 a0.Dips.length c5]))) 29] [rd eCoalDay 3 A1 c2 a0.Days, rd eCoalDip 3 A4 c5 a0.Dips]) ?_ ?_
  · refine reg ?_
    refine p_fld fl29_0 rfl ?_
    refine p_ldP (vs := [I a0.Heap.Low, I a0.Heap.High]) ty23 sz23 (S9.atX (i := 0) rfl) rfl rfl rfl ?_
    obtain ⟨r10, h11, H⟩ := bindS H
    refine p_cv (B_Valid_ok h11) fu68 rfl S9 fun w12 S13 => ?_
    refine p_mB rfl ?_
    rcases Bool.eq_false_or_eq_true (r10) with c14 | c14
    · replace H := condT c14 H
      refine eB c14 ?_
      refine gT rfl rfl (p_fld fl29_0 rfl ?_)
      refine gT rfl rfl (p_fld fl23_1 rfl ?_)
      refine gT rfl rfl (p_ld ty3 (S13.atX (i := 0) rfl) rfl rfl ?_)
      refine gT rfl rfl (p_fld fl29_0 rfl ?_)
      refine gT rfl rfl (p_fld fl23_0 rfl ?_)
      refine gT rfl rfl (p_ld ty3 (S13.atX (i := 0) rfl) rfl rfl ?_)
      refine gT rfl rfl (p_sub rfl rfl ?_)
      refine gT rfl rfl (p_cmp rfl rfl rfl ?_)
      refine p_pkT rfl (rfl : _ = B (decide ((wr (a0.Heap.High - a0.Heap.Low)) ≤ 4))) ?_
      refine p_mB rfl ?_
      rcases Bool.eq_false_or_eq_true (decide ((wr (a0.Heap.High - a0.Heap.Low)) ≤ 4)) with c15 | c15
      · replace H := condT c15 H
        refine eB c15 ?_
        refine gT rfl rfl (p_fld fl29_3 rfl ?_)
        refine gT rfl rfl (p_ld ty26 (S13.atX (i := 0) rfl) rfl rfl ?_)
        refine gT rfl rfl (p_len rfl sc26 ?_)
        obtain ⟨r16, h17, H⟩ := bindS H
        refine gT rfl rfl (p_cv (B_Inside_ok h17) fu34 rfl S13 fun w18 S19 => ?_)
        refine p_pkT rfl (rfl : _ = B r16) ?_
        refine p_mB rfl ?_
        rcases Bool.eq_false_or_eq_true (r16) with c20 | c20
        · replace H := condT c20 H
          refine eB c20 ?_
          refine gT rfl rfl (p_fld fl29_4 rfl ?_)
          refine gT rfl rfl (p_ldP (vs := [I a0.Collier.Low, I a0.Collier.High]) ty23 sz23 (S19.atX (i := 0) rfl) rfl rfl rfl ?_)
          refine gT rfl rfl (p_fld fl29_3 rfl ?_)
          refine gT rfl rfl (p_ld ty26 (S19.atX (i := 0) rfl) rfl rfl ?_)
          refine gT rfl rfl (p_len rfl sc26 ?_)
          obtain ⟨r21, h22, H⟩ := bindS H
          refine gT rfl rfl (p_cv (B_Valid_ok h22) fu68 rfl S19 fun w23 S24 => ?_)
          refine p_pkT rfl (rfl : _ = B r21) ?_
          refine p_mB rfl ?_
          rcases Bool.eq_false_or_eq_true (r21) with c25 | c25
          · replace H := condT c25 H
            refine eB c25 ?_
            refine gT rfl rfl (p_fld fl29_4 rfl ?_)
            refine gT rfl rfl (p_fld fl23_1 rfl ?_)
            refine gT rfl rfl (p_ld ty3 (S24.atX (i := 0) rfl) rfl rfl ?_)
            refine gT rfl rfl (p_fld fl29_4 rfl ?_)
            refine gT rfl rfl (p_fld fl23_0 rfl ?_)
            refine gT rfl rfl (p_ld ty3 (S24.atX (i := 0) rfl) rfl rfl ?_)
            refine gT rfl rfl (p_sub rfl rfl ?_)
            refine gT rfl rfl (p_cmp rfl rfl rfl ?_)
            refine p_pkT rfl (rfl : _ = B (decide ((wr (a0.Collier.High - a0.Collier.Low)) ≤ 3))) ?_
            refine p_mB rfl ?_
            rcases Bool.eq_false_or_eq_true (decide ((wr (a0.Collier.High - a0.Collier.Low)) ≤ 3)) with c26 | c26
            · replace H := condT c26 H
              refine eB c26 ?_
              refine gT rfl rfl (p_fld fl29_5 rfl ?_)
              refine gT rfl rfl (p_ld ty3 (S24.atX (i := 0) rfl) rfl rfl ?_)
              obtain ⟨r27, h28, H⟩ := bindS H
              refine gT rfl rfl (p_cv (B_Inside_ok h28) fu34 rfl S24 fun w29 S30 => ?_)
              refine p_pkT rfl (rfl : _ = B r27) ?_
              refine p_mB rfl ?_
              rcases Bool.eq_false_or_eq_true (r27) with c31 | c31
              · replace H := condT c31 H
                refine eB c31 ?_
                refine gT rfl rfl (p_fld fl29_6 rfl ?_)
                refine gT rfl rfl (p_ld ty27 (S30.atX (i := 0) rfl) rfl rfl ?_)
                refine gT rfl rfl (p_len rfl sc27 ?_)
                refine gT rfl rfl (p_cmp rfl rfl rfl ?_)
                refine p_pkT rfl (rfl : _ = B (decide ((a0.Dips.length : Int) ≤ 4))) ?_
                refine p_aB rfl ?_
                refine wp_nil ?_
                exact ⟨decide ((a0.Dips.length : Int) ≤ 4), (), _, rfl, ⟨rfl, rfl, trivial⟩, H, S30⟩
              · replace H := condF c31 H
                refine eB c31 ?_
                refine gF rfl rfl ?_
                refine gF rfl rfl ?_
                refine gF rfl rfl ?_
                refine gF rfl rfl ?_
                refine p_pkF rfl (rfl : _ = B false) ?_
                refine p_aB rfl ?_
                refine wp_nil ?_
                exact ⟨false, (), _, rfl, ⟨rfl, rfl, trivial⟩, H, S30⟩
            · replace H := condF c26 H
              refine eB c26 ?_
              refine gF rfl rfl ?_
              refine gF rfl rfl ?_
              refine gF rfl rfl ?_
              refine p_pkF rfl (rfl : _ = B false) ?_
              refine p_mB rfl ?_
              refine gF rfl rfl ?_
              refine gF rfl rfl ?_
              refine gF rfl rfl ?_
              refine gF rfl rfl ?_
              refine p_pkF rfl (rfl : _ = B false) ?_
              refine p_aB rfl ?_
              refine wp_nil ?_
              exact ⟨false, (), _, rfl, ⟨rfl, rfl, trivial⟩, H, S24⟩
          · replace H := condF c25 H
            refine eB c25 ?_
            refine gF rfl rfl ?_
            refine gF rfl rfl ?_
            refine gF rfl rfl ?_
            refine gF rfl rfl ?_
            refine gF rfl rfl ?_
            refine gF rfl rfl ?_
            refine gF rfl rfl ?_
            refine gF rfl rfl ?_
            refine p_pkF rfl (rfl : _ = B false) ?_
            refine p_mB rfl ?_
            refine gF rfl rfl ?_
            refine gF rfl rfl ?_
            refine gF rfl rfl ?_
            refine p_pkF rfl (rfl : _ = B false) ?_
            refine p_mB rfl ?_
            refine gF rfl rfl ?_
            refine gF rfl rfl ?_
            refine gF rfl rfl ?_
            refine gF rfl rfl ?_
            refine p_pkF rfl (rfl : _ = B false) ?_
            refine p_aB rfl ?_
            refine wp_nil ?_
            exact ⟨false, (), _, rfl, ⟨rfl, rfl, trivial⟩, H, S24⟩
        · replace H := condF c20 H
          refine eB c20 ?_
          refine gF rfl rfl ?_
          refine gF rfl rfl ?_
          refine gF rfl rfl ?_
          refine gF rfl rfl ?_
          refine gF rfl rfl ?_
          refine gF rfl rfl ?_
          refine p_pkF rfl (rfl : _ = B false) ?_
          refine p_mB rfl ?_
          refine gF rfl rfl ?_
          refine gF rfl rfl ?_
          refine gF rfl rfl ?_
          refine gF rfl rfl ?_
          refine gF rfl rfl ?_
          refine gF rfl rfl ?_
          refine gF rfl rfl ?_
          refine gF rfl rfl ?_
          refine p_pkF rfl (rfl : _ = B false) ?_
          refine p_mB rfl ?_
          refine gF rfl rfl ?_
          refine gF rfl rfl ?_
          refine gF rfl rfl ?_
          refine p_pkF rfl (rfl : _ = B false) ?_
          refine p_mB rfl ?_
          refine gF rfl rfl ?_
          refine gF rfl rfl ?_
          refine gF rfl rfl ?_
          refine gF rfl rfl ?_
          refine p_pkF rfl (rfl : _ = B false) ?_
          refine p_aB rfl ?_
          refine wp_nil ?_
          exact ⟨false, (), _, rfl, ⟨rfl, rfl, trivial⟩, H, S19⟩
      · replace H := condF c15 H
        refine eB c15 ?_
        refine gF rfl rfl ?_
        refine gF rfl rfl ?_
        refine gF rfl rfl ?_
        refine gF rfl rfl ?_
        refine p_pkF rfl (rfl : _ = B false) ?_
        refine p_mB rfl ?_
        refine gF rfl rfl ?_
        refine gF rfl rfl ?_
        refine gF rfl rfl ?_
        refine gF rfl rfl ?_
        refine gF rfl rfl ?_
        refine gF rfl rfl ?_
        refine p_pkF rfl (rfl : _ = B false) ?_
        refine p_mB rfl ?_
        refine gF rfl rfl ?_
        refine gF rfl rfl ?_
        refine gF rfl rfl ?_
        refine gF rfl rfl ?_
        refine gF rfl rfl ?_
        refine gF rfl rfl ?_
        refine gF rfl rfl ?_
        refine gF rfl rfl ?_
        refine p_pkF rfl (rfl : _ = B false) ?_
        refine p_mB rfl ?_
        refine gF rfl rfl ?_
        refine gF rfl rfl ?_
        refine gF rfl rfl ?_
        refine p_pkF rfl (rfl : _ = B false) ?_
        refine p_mB rfl ?_
        refine gF rfl rfl ?_
        refine gF rfl rfl ?_
        refine gF rfl rfl ?_
        refine gF rfl rfl ?_
        refine p_pkF rfl (rfl : _ = B false) ?_
        refine p_aB rfl ?_
        refine wp_nil ?_
        exact ⟨false, (), _, rfl, ⟨rfl, rfl, trivial⟩, H, S13⟩
    · replace H := condF c14 H
      refine eB c14 ?_
      refine gF rfl rfl ?_
      refine gF rfl rfl ?_
      refine gF rfl rfl ?_
      refine gF rfl rfl ?_
      refine gF rfl rfl ?_
      refine gF rfl rfl ?_
      refine gF rfl rfl ?_
      refine gF rfl rfl ?_
      refine p_pkF rfl (rfl : _ = B false) ?_
      refine p_mB rfl ?_
      refine gF rfl rfl ?_
      refine gF rfl rfl ?_
      refine gF rfl rfl ?_
      refine gF rfl rfl ?_
      refine p_pkF rfl (rfl : _ = B false) ?_
      refine p_mB rfl ?_
      refine gF rfl rfl ?_
      refine gF rfl rfl ?_
      refine gF rfl rfl ?_
      refine gF rfl rfl ?_
      refine gF rfl rfl ?_
      refine gF rfl rfl ?_
      refine p_pkF rfl (rfl : _ = B false) ?_
      refine p_mB rfl ?_
      refine gF rfl rfl ?_
      refine gF rfl rfl ?_
      refine gF rfl rfl ?_
      refine gF rfl rfl ?_
      refine gF rfl rfl ?_
      refine gF rfl rfl ?_
      refine gF rfl rfl ?_
      refine gF rfl rfl ?_
      refine p_pkF rfl (rfl : _ = B false) ?_
      refine p_mB rfl ?_
      refine gF rfl rfl ?_
      refine gF rfl rfl ?_
      refine gF rfl rfl ?_
      refine p_pkF rfl (rfl : _ = B false) ?_
      refine p_mB rfl ?_
      refine gF rfl rfl ?_
      refine gF rfl rfl ?_
      refine gF rfl rfl ?_
      refine gF rfl rfl ?_
      refine p_pkF rfl (rfl : _ = B false) ?_
      refine p_aB rfl ?_
      refine wp_nil ?_
      exact ⟨false, (), _, rfl, ⟨rfl, rfl, trivial⟩, H, S13⟩
  · intro z_1 y_1 e10 w11 S12; obtain ⟨H, S12⟩ := S12
    unfold ref_Check_j17 at H
    refine c_join (α := Bool) (β := Unit) (fun z_3 y_3 => [(1, P b7 0), (3, B z_3)]) (fun z_3 y_3 w_ => ref_Check_j15 a0 z_3 = some r ∧ St w (fun _ => False) w_ [bl b7 ([I a0.Heap.Low, I a0.Heap.High] ++ (sgE eSpan a0.Eats 2 ++ (sg a0.Extra 3 ++ [SL A1 a0.Days.length c2, I a0.Collier.Low, I a0.Collier.High, I a0.Brings, SL A4 a0.Dips.length c5]))) 29] [rd eCoalDay 3 A1 c2 a0.Days, rd eCoalDip 3 A4 c5 a0.Dips]) ?_ ?_
    · refine c_seq ?_
      refine reg ?_
      refine p_aI rfl ?_
      refine wp_nil ?_
      refine c_block ?_
      refine c_lop (α := Bool × Int) (β := Unit) (ref_Check_l16 a0) (fun z_2 y_2 => [(1, P b7 0), (3, B z_2.1), (4, I z_2.2)]) (fun z_2 y_2 w_ => St w (fun _ => False) w_ [bl b7 ([I a0.Heap.Low, I a0.Heap.High] ++ (sgE eSpan a0.Eats 2 ++ (sg a0.Extra 3 ++ [SL A1 a0.Days.length c2, I a0.Collier.Low, I a0.Collier.High, I a0.Brings, SL A4 a0.Dips.length c5]))) 29] [rd eCoalDay 3 A1 c2 a0.Days, rd eCoalDip 3 A4 c5 a0.Dips]) (z_1, 0) () H ⟨rfl, rfl, rfl, trivial⟩ S12 ?_
      intro m13 z_2 y_2 e14 w15 H S16
      unfold ref_Check_l16 at H
      refine c_seq ?_
      refine c_seq ?_
      refine reg ?_
      refine p_mB rfl ?_
      refine p_mB rfl ?_
      rcases Bool.eq_false_or_eq_true (z_2.1) with c17 | c17
      · replace H := condT c17 H
        refine eB c17 ?_
        refine gT rfl rfl (p_mI rfl ?_)
        refine gT rfl rfl (p_cmp rfl rfl rfl ?_)
        refine p_pkT rfl (rfl : _ = B (decide (z_2.2 < 2))) ?_
        refine wp_nil ?_
        refine c_cond rfl (fun c18 => ?_) (fun c18 => ?_)
        · replace H := condT c18 H
          refine c_skip ?_
          refine c_seq ?_
          refine c_block ?_
          obtain ⟨h19, H⟩ := needS H
          obtain ⟨r20, h21, H⟩ := bindS H
          rcases Bool.eq_false_or_eq_true (r20) with c22 | c22
          · replace H := condT c22 H
            obtain ⟨h23, H⟩ := needS H
            obtain ⟨h24, H⟩ := needS H
            refine reg_q mixed 20 (by kernel_rfl) ?_
            refine dS (fun _ k_ => p_mI rfl dn) ?_
            refine dS (fun _ k_ => p_fld fl29_1 rfl dn) ?_
            refine dS (fun _ k_ => p_ixD ar24 h19 rfl rfl dn) ?_
            refine dS (fun _ k_ => p_ldDA (pre := [I a0.Heap.Low, I a0.Heap.High]) (post := sg a0.Extra 3 ++ [SL A1 a0.Days.length c2, I a0.Collier.Low, I a0.Collier.High, I a0.Brings, SL A4 a0.Dips.length c5]) ty23 sz23 (Asr.stays (S16.atX (i := 0) rfl) k_) rfl eSpan_len h19 rfl rfl dn) ?_
            refine dS (fun _ k_ => p_cvD (B_Valid_ok h21) fu68 rfl) ?_
            refine dS (fun _ k_ => p_mB rfl dn) ?_
            refine dB c22 ?_
            refine dS (fun _ k_ => gT rfl rfl (p_mI rfl dn)) ?_
            refine dS (fun _ k_ => gT rfl rfl (p_fld fl29_1 rfl dn)) ?_
            refine dS (fun _ k_ => gT rfl rfl (p_ixD ar24 h23 rfl rfl dn)) ?_
            refine dS (fun _ k_ => gT rfl rfl (p_fld fl23_1 rfl dn)) ?_
            refine dS (fun _ k_ => gT rfl rfl (p_ldDE (pre := [I a0.Heap.Low, I a0.Heap.High]) (post := sg a0.Extra 3 ++ [SL A1 a0.Days.length c2, I a0.Collier.Low, I a0.Collier.High, I a0.Brings, SL A4 a0.Dips.length c5]) (off := 1) ty3 (Asr.stays (S16.atX (i := 0) rfl) k_) rfl eSpan_len h23 rfl rfl rfl dn)) ?_
            refine dS (fun _ k_ => gT rfl rfl (p_mI rfl dn)) ?_
            refine dS (fun _ k_ => gT rfl rfl (p_fld fl29_1 rfl dn)) ?_
            refine dS (fun _ k_ => gT rfl rfl (p_ixD ar24 h24 rfl rfl dn)) ?_
            refine dS (fun _ k_ => gT rfl rfl (p_fld fl23_0 rfl dn)) ?_
            refine dS (fun _ k_ => gT rfl rfl (p_ldDE (pre := [I a0.Heap.Low, I a0.Heap.High]) (post := sg a0.Extra 3 ++ [SL A1 a0.Days.length c2, I a0.Collier.Low, I a0.Collier.High, I a0.Brings, SL A4 a0.Dips.length c5]) (off := 0) ty3 (Asr.stays (S16.atX (i := 0) rfl) k_) rfl eSpan_len h24 rfl rfl rfl dn)) ?_
            refine dS (fun _ k_ => gT rfl rfl (p_sub rfl rfl dn)) ?_
            refine dS (fun _ k_ => gT rfl rfl (p_cmp rfl rfl rfl dn)) ?_
            refine dS (fun _ k_ => p_pkT rfl (rfl : _ = B (decide ((wr (((agetS a0.Eats z_2.2).High) - ((agetS a0.Eats z_2.2).Low))) ≤ 2))) dn) ?_
            refine dS (fun _ k_ => p_aB rfl dn) ?_
            intro w25 k26; have S27 := S16.call k26
            refine wp_nil ?_
            refine reg ?_
            refine p_mI rfl ?_
            refine p_add rfl rfl ?_
            refine p_aI rfl ?_
            refine wp_nil ?_
            exact ⟨(decide ((wr (((agetS a0.Eats z_2.2).High) - ((agetS a0.Eats z_2.2).Low))) ≤ 2), wr (z_2.2 + 1)), (), _, rfl, ⟨rfl, rfl, rfl, trivial⟩, H, S27⟩
          · replace H := condF c22 H
            refine reg_q mixed 20 (by kernel_rfl) ?_
            refine dS (fun _ k_ => p_mI rfl dn) ?_
            refine dS (fun _ k_ => p_fld fl29_1 rfl dn) ?_
            refine dS (fun _ k_ => p_ixD ar24 h19 rfl rfl dn) ?_
            refine dS (fun _ k_ => p_ldDA (pre := [I a0.Heap.Low, I a0.Heap.High]) (post := sg a0.Extra 3 ++ [SL A1 a0.Days.length c2, I a0.Collier.Low, I a0.Collier.High, I a0.Brings, SL A4 a0.Dips.length c5]) ty23 sz23 (Asr.stays (S16.atX (i := 0) rfl) k_) rfl eSpan_len h19 rfl rfl dn) ?_
            refine dS (fun _ k_ => p_cvD (B_Valid_ok h21) fu68 rfl) ?_
            refine dS (fun _ k_ => p_mB rfl dn) ?_
            refine dB c22 ?_
            refine dS (fun _ k_ => gF rfl rfl dnU) ?_
            refine dS (fun _ k_ => gF rfl rfl dnU) ?_
            refine dS (fun _ k_ => gF rfl rfl dnU) ?_
            refine dS (fun _ k_ => gF rfl rfl dnU) ?_
            refine dS (fun _ k_ => gF rfl rfl dnU) ?_
            refine dS (fun _ k_ => gF rfl rfl dnU) ?_
            refine dS (fun _ k_ => gF rfl rfl dnU) ?_
            refine dS (fun _ k_ => gF rfl rfl dnU) ?_
            refine dS (fun _ k_ => gF rfl rfl dnU) ?_
            refine dS (fun _ k_ => gF rfl rfl dnU) ?_
            refine dS (fun _ k_ => gF rfl rfl dnU) ?_
            refine dS (fun _ k_ => gF rfl rfl dnU) ?_
            refine dS (fun _ k_ => p_pkF rfl (rfl : _ = B false) dn) ?_
            refine dS (fun _ k_ => p_aB rfl dn) ?_
            intro w28 k29; have S30 := S16.call k29
            refine wp_nil ?_
            refine reg ?_
            refine p_mI rfl ?_
            refine p_add rfl rfl ?_
            refine p_aI rfl ?_
            refine wp_nil ?_
            exact ⟨(false, wr (z_2.2 + 1)), (), _, rfl, ⟨rfl, rfl, rfl, trivial⟩, H, S30⟩
        · replace H := condF c18 H
          refine c_exit ?_
          exact ⟨z_2.1, (), _, rfl, ⟨rfl, rfl, trivial⟩, H, S16⟩
      · replace H := condF c17 H
        refine eB c17 ?_
        refine gF rfl rfl ?_
        refine gF rfl rfl ?_
        refine p_pkF rfl (rfl : _ = B false) ?_
        refine wp_nil ?_
        refine c_false rfl ?_
        refine c_exit ?_
        exact ⟨z_2.1, (), _, rfl, ⟨rfl, rfl, trivial⟩, H, S16⟩
    · intro z_3 y_3 e13 w14 S15; obtain ⟨H, S15⟩ := S15
      unfold ref_Check_j15 at H
      refine c_join (α := Bool) (β := Unit) (fun z_5 y_5 => [(1, P b7 0), (3, B z_5)]) (fun z_5 y_5 w_ => ref_Check_j13 a0 z_5 = some r ∧ St w (fun _ => False) w_ [bl b7 ([I a0.Heap.Low, I a0.Heap.High] ++ (sgE eSpan a0.Eats 2 ++ (sg a0.Extra 3 ++ [SL A1 a0.Days.length c2, I a0.Collier.Low, I a0.Collier.High, I a0.Brings, SL A4 a0.Dips.length c5]))) 29] [rd eCoalDay 3 A1 c2 a0.Days, rd eCoalDip 3 A4 c5 a0.Dips]) ?_ ?_
      · refine c_seq ?_
        refine reg ?_
        refine p_aI rfl ?_
        refine wp_nil ?_
        refine c_block ?_
        refine c_lop (α := Bool × Int) (β := Unit) (ref_Check_l14 a0) (fun z_4 y_4 => [(1, P b7 0), (3, B z_4.1), (5, I z_4.2)]) (fun z_4 y_4 w_ => St w (fun _ => False) w_ [bl b7 ([I a0.Heap.Low, I a0.Heap.High] ++ (sgE eSpan a0.Eats 2 ++ (sg a0.Extra 3 ++ [SL A1 a0.Days.length c2, I a0.Collier.Low, I a0.Collier.High, I a0.Brings, SL A4 a0.Dips.length c5]))) 29] [rd eCoalDay 3 A1 c2 a0.Days, rd eCoalDip 3 A4 c5 a0.Dips]) (z_3, 0) () H ⟨rfl, rfl, rfl, trivial⟩ S15 ?_
        intro m16 z_4 y_4 e17 w18 H S19
        unfold ref_Check_l14 at H
        refine c_seq ?_
        refine c_seq ?_
        refine reg ?_
        refine p_mB rfl ?_
        refine p_mB rfl ?_
        rcases Bool.eq_false_or_eq_true (z_4.1) with c20 | c20
        · replace H := condT c20 H
          refine eB c20 ?_
          refine gT rfl rfl (p_mI rfl ?_)
          refine gT rfl rfl (p_cmp rfl rfl rfl ?_)
          refine p_pkT rfl (rfl : _ = B (decide (z_4.2 < 3))) ?_
          refine wp_nil ?_
          refine c_cond rfl (fun c21 => ?_) (fun c21 => ?_)
          · replace H := condT c21 H
            refine c_skip ?_
            refine c_seq ?_
            refine c_block ?_
            refine reg ?_
            refine p_mI rfl ?_
            refine p_fld fl29_2 rfl ?_
            obtain ⟨h22, H⟩ := needS H
            refine p_ixD ar25 h22 rfl rfl ?_
            refine p_ldD (pre := [I a0.Heap.Low, I a0.Heap.High] ++ sgE eSpan a0.Eats 2) (post := [SL A1 a0.Days.length c2, I a0.Collier.Low, I a0.Collier.High, I a0.Brings, SL A4 a0.Dips.length c5]) ty3 (S19.atX (i := 0) rfl) rfl h22 rfl rfl ?_
            obtain ⟨r23, h24, H⟩ := bindS H
            refine p_cv (B_Inside_ok h24) fu34 rfl S19 fun w25 S26 => ?_
            refine p_aB rfl ?_
            refine wp_nil ?_
            refine reg ?_
            refine p_mI rfl ?_
            refine p_add rfl rfl ?_
            refine p_aI rfl ?_
            refine wp_nil ?_
            exact ⟨(r23, wr (z_4.2 + 1)), (), _, rfl, ⟨rfl, rfl, rfl, trivial⟩, H, S26⟩
          · replace H := condF c21 H
            refine c_exit ?_
            exact ⟨z_4.1, (), _, rfl, ⟨rfl, rfl, trivial⟩, H, S19⟩
        · replace H := condF c20 H
          refine eB c20 ?_
          refine gF rfl rfl ?_
          refine gF rfl rfl ?_
          refine p_pkF rfl (rfl : _ = B false) ?_
          refine wp_nil ?_
          refine c_false rfl ?_
          refine c_exit ?_
          exact ⟨z_4.1, (), _, rfl, ⟨rfl, rfl, trivial⟩, H, S19⟩
      · intro z_5 y_5 e16 w17 S18; obtain ⟨H, S18⟩ := S18
        unfold ref_Check_j13 at H
        refine c_join (α := Bool) (β := Unit) (fun z_7 y_7 => [(1, P b7 0), (3, B z_7)]) (fun z_7 y_7 w_ => ref_Check_j11 a0 z_7 = some r ∧ St w (fun _ => False) w_ [bl b7 ([I a0.Heap.Low, I a0.Heap.High] ++ (sgE eSpan a0.Eats 2 ++ (sg a0.Extra 3 ++ [SL A1 a0.Days.length c2, I a0.Collier.Low, I a0.Collier.High, I a0.Brings, SL A4 a0.Dips.length c5]))) 29] [rd eCoalDay 3 A1 c2 a0.Days, rd eCoalDip 3 A4 c5 a0.Dips]) ?_ ?_
        · refine c_seq ?_
          refine reg ?_
          refine p_aI rfl ?_
          refine wp_nil ?_
          refine c_block ?_
          refine c_lop (α := Bool × Int) (β := Unit) (ref_Check_l12 a0) (fun z_6 y_6 => [(1, P b7 0), (3, B z_6.1), (6, I z_6.2)]) (fun z_6 y_6 w_ => St w (fun _ => False) w_ [bl b7 ([I a0.Heap.Low, I a0.Heap.High] ++ (sgE eSpan a0.Eats 2 ++ (sg a0.Extra 3 ++ [SL A1 a0.Days.length c2, I a0.Collier.Low, I a0.Collier.High, I a0.Brings, SL A4 a0.Dips.length c5]))) 29] [rd eCoalDay 3 A1 c2 a0.Days, rd eCoalDip 3 A4 c5 a0.Dips]) (z_5, 0) () H ⟨rfl, rfl, rfl, trivial⟩ S18 ?_
          intro m19 z_6 y_6 e20 w21 H S22
          unfold ref_Check_l12 at H
          refine c_seq ?_
          refine c_seq ?_
          refine reg ?_
          refine p_mB rfl ?_
          refine p_mB rfl ?_
          rcases Bool.eq_false_or_eq_true (z_6.1) with c23 | c23
          · replace H := condT c23 H
            refine eB c23 ?_
            refine gT rfl rfl (p_mI rfl ?_)
            refine gT rfl rfl (p_fld fl29_3 rfl ?_)
            refine gT rfl rfl (p_ld ty26 (S22.atX (i := 0) rfl) rfl rfl ?_)
            refine gT rfl rfl (p_len rfl sc26 ?_)
            refine gT rfl rfl (p_cmp rfl rfl rfl ?_)
            refine p_pkT rfl (rfl : _ = B (decide (z_6.2 < (a0.Days.length : Int)))) ?_
            refine wp_nil ?_
            refine c_cond rfl (fun c24 => ?_) (fun c24 => ?_)
            · replace H := condT c24 H
              refine c_skip ?_
              refine c_seq ?_
              refine c_block ?_
              refine reg ?_
              refine p_fld fl29_3 rfl ?_
              refine p_ld ty26 (S22.atX (i := 0) rfl) rfl rfl ?_
              refine p_mI rfl ?_
              obtain ⟨r25, h26, H⟩ := bindS H
              refine p_ixE sc26 h26 (S22.atP (i := 0) rfl).1 rfl rfl rfl ?_
              refine p_ldEA ty64 sz64 rfl h26 (S22.atP (i := 0) rfl).1 rfl ?_
              obtain ⟨r27, h28, H⟩ := bindS H
              refine p_cv (ref_day_ok h28) fu86 rfl S22 fun w29 S30 => ?_
              refine p_aB rfl ?_
              refine wp_nil ?_
              refine reg ?_
              refine p_mI rfl ?_
              refine p_add rfl rfl ?_
              refine p_aI rfl ?_
              refine wp_nil ?_
              exact ⟨(r27, wr (z_6.2 + 1)), (), _, rfl, ⟨rfl, rfl, rfl, trivial⟩, H, S30⟩
            · replace H := condF c24 H
              refine c_exit ?_
              exact ⟨z_6.1, (), _, rfl, ⟨rfl, rfl, trivial⟩, H, S22⟩
          · replace H := condF c23 H
            refine eB c23 ?_
            refine gF rfl rfl ?_
            refine gF rfl rfl ?_
            refine gF rfl rfl ?_
            refine gF rfl rfl ?_
            refine gF rfl rfl ?_
            refine p_pkF rfl (rfl : _ = B false) ?_
            refine wp_nil ?_
            refine c_false rfl ?_
            refine c_exit ?_
            exact ⟨z_6.1, (), _, rfl, ⟨rfl, rfl, trivial⟩, H, S22⟩
        · intro z_7 y_7 e19 w20 S21; obtain ⟨H, S21⟩ := S21
          unfold ref_Check_j11 at H
          refine c_join (α := Bool) (β := Unit) (fun z_9 y_9 => [(3, B z_9)]) (fun z_9 y_9 w_ => ref_Check_j9 z_9 = some r ∧ St w (fun _ => False) w_ [] [rd eCoalDay 3 A1 c2 a0.Days, rd eCoalDip 3 A4 c5 a0.Dips]) ?_ ?_
          · refine c_seq ?_
            refine reg ?_
            refine p_aI rfl ?_
            refine wp_nil ?_
            refine c_block ?_
            refine c_lop (α := Bool × Int) (β := Unit) (ref_Check_l10 a0) (fun z_8 y_8 => [(1, P b7 0), (3, B z_8.1), (7, I z_8.2)]) (fun z_8 y_8 w_ => St w (fun _ => False) w_ [bl b7 ([I a0.Heap.Low, I a0.Heap.High] ++ (sgE eSpan a0.Eats 2 ++ (sg a0.Extra 3 ++ [SL A1 a0.Days.length c2, I a0.Collier.Low, I a0.Collier.High, I a0.Brings, SL A4 a0.Dips.length c5]))) 29] [rd eCoalDay 3 A1 c2 a0.Days, rd eCoalDip 3 A4 c5 a0.Dips]) (z_7, 0) () H ⟨rfl, rfl, rfl, trivial⟩ S21 ?_
            intro m22 z_8 y_8 e23 w24 H S25
            unfold ref_Check_l10 at H
            refine c_seq ?_
            refine c_seq ?_
            refine reg ?_
            refine p_mB rfl ?_
            refine p_mB rfl ?_
            rcases Bool.eq_false_or_eq_true (z_8.1) with c26 | c26
            · replace H := condT c26 H
              refine eB c26 ?_
              refine gT rfl rfl (p_mI rfl ?_)
              refine gT rfl rfl (p_fld fl29_6 rfl ?_)
              refine gT rfl rfl (p_ld ty27 (S25.atX (i := 0) rfl) rfl rfl ?_)
              refine gT rfl rfl (p_len rfl sc27 ?_)
              refine gT rfl rfl (p_cmp rfl rfl rfl ?_)
              refine p_pkT rfl (rfl : _ = B (decide (z_8.2 < (a0.Dips.length : Int)))) ?_
              refine wp_nil ?_
              refine c_cond rfl (fun c27 => ?_) (fun c27 => ?_)
              · replace H := condT c27 H
                refine c_skip ?_
                refine c_seq ?_
                refine c_block ?_
                obtain ⟨r28, h29, H⟩ := bindS H
                obtain ⟨r30, h31, H⟩ := bindS H
                refine reg_q mixed 8 (by kernel_rfl) ?_
                refine dS (fun _ k_ => p_ldA ty29 sz29 (Asr.stays (S25.atX (i := 0) rfl) k_) rfl rfl dn) ?_
                refine dS (fun _ k_ => p_fld fl29_6 rfl dn) ?_
                refine dS (fun _ k_ => p_ld ty27 (Asr.stays (S25.atX (i := 0) rfl) k_) rfl rfl dn) ?_
                refine dS (fun _ k_ => p_mI rfl dn) ?_
                refine dS (fun _ k_ => p_ixE sc27 h29 (Asr.stays (S25.atP (i := 1) rfl) k_).1 rfl rfl rfl dn) ?_
                refine dS (fun _ k_ => p_ldEA ty67 sz67 rfl h29 (Asr.stays (S25.atP (i := 1) rfl) k_).1 rfl dn) ?_
                refine dS (fun _ k_ => p_cvD (ref_dip_ok h31 (Asr.stays (S25.atP (i := 0) rfl) k_) (Asr.stays (S25.atP (i := 1) rfl) k_)) fu87 rfl) ?_
                refine dS (fun _ k_ => p_aB rfl dn) ?_
                intro w32 k33; have S34 := S25.call k33
                refine wp_nil ?_
                refine reg ?_
                refine p_mI rfl ?_
                refine p_add rfl rfl ?_
                refine p_aI rfl ?_
                refine wp_nil ?_
                exact ⟨(r30, wr (z_8.2 + 1)), (), _, rfl, ⟨rfl, rfl, rfl, trivial⟩, H, S34⟩
              · replace H := condF c27 H
                refine c_exit ?_
                have S35 := S25.pk [] (by decide) [0, 1] rfl rfl
                exact ⟨z_8.1, (), _, rfl, ⟨rfl, trivial⟩, H, S35⟩
            · replace H := condF c26 H
              refine eB c26 ?_
              refine gF rfl rfl ?_
              refine gF rfl rfl ?_
              refine gF rfl rfl ?_
              refine gF rfl rfl ?_
              refine gF rfl rfl ?_
              refine p_pkF rfl (rfl : _ = B false) ?_
              refine wp_nil ?_
              refine c_false rfl ?_
              refine c_exit ?_
              have S35 := S25.pk [] (by decide) [0, 1] rfl rfl
              exact ⟨z_8.1, (), _, rfl, ⟨rfl, trivial⟩, H, S35⟩
          · intro z_9 y_9 e22 w23 S24; obtain ⟨H, S24⟩ := S24
            unfold ref_Check_j9 at H
            refine c_seq ?_
            refine c_seq ?_
            refine reg ?_
            refine p_mB rfl ?_
            refine p_not rfl ?_
            refine wp_nil ?_
            refine c_cond rfl (fun c25 => ?_) (fun c25 => ?_)
            · replace H := condT c25 H
              refine c_seq ?_
              refine reg ?_
              refine p_aI rfl ?_
              refine wp_nil ?_
              obtain rfl := Option.some.inj H
              refine c_ret ?_; show bodyPostM (Fr none) 0 Tryd.prog Tryd.f57 _ .ret _ _
              refine ret_of (res1 rfl (rvT (rfl : _ = I 60))) ?_
              exact ⟨_, rfl, rfl, S24.keep⟩
            · replace H := condF c25 H
              refine c_skip ?_
              refine c_seq ?_
              refine reg ?_
              refine p_aI rfl ?_
              refine wp_nil ?_
              obtain rfl := Option.some.inj H
              refine c_ret ?_; show bodyPostM (Fr none) 0 Tryd.prog Tryd.f57 _ .ret _ _
              refine ret_of (res1 rfl (rvT (rfl : _ = I 0))) ?_
              exact ⟨_, rfl, rfl, S24.keep⟩

def B_Member (a0 : Int) (a1 : Int) : Option Bool :=
  need (decide (0 ≤ a1)) <|
  some ((andI (shrI a0 a1) 1) == 1)

set_option maxRecDepth 100000 in
theorem B_Member_ok {a0 : Int} {a1 : Int} {w : World} {r : Bool} (H : B_Member a0 a1 = some r) : Calls Tryd.prog 33 #[I a0, I a1] w (RetV w (B r)) := by
  unfold B_Member at H
  refine fn_of (n := 10) Tryd.func33 rfl rfl (Nat.le_of_ble_eq_true rfl) ?_
  have S : St w (fun _ => False) w [] [] := St.start w _ _ (fun _ h_ => (List.not_mem_nil h_).elim)
  refine c_seq ?_
  refine reg ?_
  refine p_aB rfl ?_
  refine wp_nil ?_
  refine c_seq ?_
  refine reg ?_
  refine p_mI rfl ?_
  refine p_mI rfl ?_
  obtain ⟨h1, H⟩ := needS H
  refine p_shr h1 rfl rfl ?_
  refine p_andI rfl rfl ?_
  refine p_cmp rfl rfl rfl ?_
  refine p_aB rfl ?_
  refine wp_nil ?_
  obtain rfl := Option.some.inj H
  refine c_ret ?_; show bodyPostM (Fr none) 0 Tryd.prog Tryd.f33 _ .ret _ _
  refine ret_of (res1 rfl (rvT (rfl : _ = B ((andI (shrI a0 a1) 1) == 1)))) ?_
  exact ⟨_, rfl, rfl, S.keep⟩

def ref_eaten_l2 (r13 : CoalDay) (a1 : List Int) (rec_z_1 : (Int × Int) → Option Int) (z_1 : Int × Int) : Option Int :=
  bif decide (z_1.2 < 2) then ((B_Member r13.Engines z_1.2).bind fun r27 =>
  bif r27 then (need (inI z_1.2 2) <|
  rec_z_1 (wr (z_1.1 + (aget a1 z_1.2)), wr (z_1.2 + 1)))
  else (rec_z_1 (z_1.1, wr (z_1.2 + 1))))
  else (some (wr (r13.Crosses * z_1.1)))

def ref_eaten (a0 : CoalBook) (a1 : List Int) (a2 : Int) (a3 : Int) : Option Int :=
  (getI a0.Days a2).bind fun r13 =>
  need (inI a3 3) <|
  loopF (ref_eaten_l2 r13 a1) big (aget a0.Extra a3, 0)

set_option maxRecDepth 100000 in
theorem ref_eaten_ok {a0 : CoalBook} {a1 : List Int} {a2 : Int} {a3 : Int} {A1 : Option Addr} {c2 : Nat} {A4 : Option Addr} {c5 : Nat} {w : World} {r : Int} (H : ref_eaten a0 a1 a2 a3 = some r) (h3 : (rd eCoalDay 3 A1 c2 a0.Days).ok w) (h6 : (rd eCoalDip 3 A4 c5 a0.Dips).ok w) : Calls Tryd.prog 107 #[AG ([I a0.Heap.Low, I a0.Heap.High] ++ (sgE eSpan a0.Eats 2 ++ (sg a0.Extra 3 ++ [SL A1 a0.Days.length c2, I a0.Collier.Low, I a0.Collier.High, I a0.Brings, SL A4 a0.Dips.length c5]))), AG (sg a1 2), I a2, I a3] w (RetV w (I r)) := by
  unfold ref_eaten at H
  refine fn_of (n := 38) Tryd.func107 rfl rfl (Nat.le_of_ble_eq_true rfl) ?_
  have S : St w (fun _ => False) w [] [rd eCoalDay 3 A1 c2 a0.Days, rd eCoalDip 3 A4 c5 a0.Dips] := St.start w _ _ (List.forall_mem_cons.2 ⟨h3, (List.forall_mem_cons.2 ⟨h6, (fun _ h_ => (List.not_mem_nil h_).elim)⟩)⟩)
  refine c_seq ?_
  refine reg ?_
  refine p_boxA rfl S fun b7 w8 S9 => ?_
  refine p_boxA rfl S9 fun b10 w11 S12 => ?_
  refine p_aI rfl ?_
  refine wp_nil ?_
  refine c_seq ?_
  refine reg ?_
  refine p_fld fl29_3 rfl ?_
  refine p_ld ty26 (S12.atX (i := 1) rfl) rfl rfl ?_
  refine p_mI rfl ?_
  obtain ⟨r13, h14, H⟩ := bindS H
  refine p_ixE sc26 h14 (S12.atP (i := 0) rfl).1 rfl rfl rfl ?_
  refine p_ldEA ty64 sz64 rfl h14 (S12.atP (i := 0) rfl).1 rfl ?_
  refine p_allA in64 S12 fun b15 w16 S17 => ?_
  refine p_stP (pre := []) (old := [I 0, I 0, I 0]) (post := []) (vs := [I r13.Crosses, I r13.Engines, I r13.Winds]) sz64 S17 (i := 0) rfl rfl rfl rfl (rfl : _ = AG [I r13.Crosses, I r13.Engines, I r13.Winds]) rfl rfl rfl rfl fun w18 S19 => ?_
  refine wp_nil ?_
  refine c_seq ?_
  refine reg ?_
  refine p_mI rfl ?_
  refine p_fld fl29_2 rfl ?_
  obtain ⟨h20, H⟩ := needS H
  refine p_ixD ar25 h20 rfl rfl ?_
  refine p_ldD (pre := [I a0.Heap.Low, I a0.Heap.High] ++ sgE eSpan a0.Eats 2) (post := [SL A1 a0.Days.length c2, I a0.Collier.Low, I a0.Collier.High, I a0.Brings, SL A4 a0.Dips.length c5]) ty3 (S19.atX (i := 2) rfl) rfl h20 rfl rfl ?_
  refine p_aI rfl ?_
  refine wp_nil ?_
  refine c_seq ?_
  refine c_seq ?_
  refine reg ?_
  refine p_aI rfl ?_
  refine wp_nil ?_
  refine c_block ?_
  have S21 := S19.pk [0, 1] (by decide) [0, 1] rfl rfl
  refine c_lop (α := Int × Int) (β := Unit) (ref_eaten_l2 r13 a1) (fun z_1 y_1 => [(5, P b10 0), (9, P b15 0), (10, I z_1.1), (11, I z_1.2)]) (fun z_1 y_1 w_ => St w (fun _ => False) w_ [bl b15 [I r13.Crosses, I r13.Engines, I r13.Winds] 64, bl b10 (sg a1 2) 30] [rd eCoalDay 3 A1 c2 a0.Days, rd eCoalDip 3 A4 c5 a0.Dips]) (aget a0.Extra a3, 0) () H ⟨rfl, rfl, rfl, rfl, trivial⟩ S21 ?_
  intro m22 z_1 y_1 e23 w24 H S25
  unfold ref_eaten_l2 at H
  refine c_seq ?_
  refine c_seq ?_
  refine reg ?_
  refine p_mI rfl ?_
  refine p_cmp rfl rfl rfl ?_
  refine wp_nil ?_
  refine c_cond rfl (fun c26 => ?_) (fun c26 => ?_)
  · replace H := condT c26 H
    refine c_skip ?_
    refine c_seq ?_
    refine c_block ?_
    refine c_seq ?_
    refine reg ?_
    refine p_fld fl64_1 rfl ?_
    refine p_ld ty3 (S25.atX (i := 0) rfl) rfl rfl ?_
    refine p_mI rfl ?_
    obtain ⟨r27, h28, H⟩ := bindS H
    refine p_cv (B_Member_ok h28) fu33 rfl S25 fun w29 S30 => ?_
    refine wp_nil ?_
    refine c_cond rfl (fun c31 => ?_) (fun c31 => ?_)
    · replace H := condT c31 H
      refine reg ?_
      refine p_mI rfl ?_
      refine p_mI rfl ?_
      obtain ⟨h32, H⟩ := needS H
      refine p_ixD ar30 h32 rfl rfl ?_
      refine p_ldD (pre := []) (post := []) ty3 (S30.atX (i := 1) rfl) rfl h32 rfl rfl ?_
      refine p_add rfl rfl ?_
      refine p_aI rfl ?_
      refine wp_nil ?_
      refine reg ?_
      refine p_mI rfl ?_
      refine p_add rfl rfl ?_
      refine p_aI rfl ?_
      refine wp_nil ?_
      exact ⟨(wr (z_1.1 + (aget a1 z_1.2)), wr (z_1.2 + 1)), (), _, rfl, ⟨rfl, rfl, rfl, rfl, trivial⟩, H, S30⟩
    · replace H := condF c31 H
      refine c_skip ?_
      refine reg ?_
      refine p_mI rfl ?_
      refine p_add rfl rfl ?_
      refine p_aI rfl ?_
      refine wp_nil ?_
      exact ⟨(z_1.1, wr (z_1.2 + 1)), (), _, rfl, ⟨rfl, rfl, rfl, rfl, trivial⟩, H, S30⟩
  · replace H := condF c26 H
    refine c_exit ?_
    refine c_seq ?_
    refine reg ?_
    refine p_fld fl64_0 rfl ?_
    refine p_ld ty3 (S25.atX (i := 0) rfl) rfl rfl ?_
    refine p_mI rfl ?_
    refine p_mul rfl rfl ?_
    refine p_aI rfl ?_
    refine wp_nil ?_
    obtain rfl := Option.some.inj H
    refine c_ret ?_; show bodyPostM (Fr none) 0 Tryd.prog Tryd.f107 _ .ret _ _
    refine ret_of (res1 rfl (rvT (rfl : _ = I (wr (r13.Crosses * z_1.1))))) ?_
    exact ⟨_, rfl, rfl, S25.keep⟩

def ref_right_l1 (a0 : CoalBook) (a1 : Int) (a2 : Int) (rec_z_1 : Int → Option Bool) (z_1 : Int) : Option Bool :=
  bif decide (z_1 < (a0.Dips.length : Int)) then ((getI a0.Dips z_1).bind fun r15 =>
  bif (r15.Day == a1) then ((B_Inside (wr (r15.Read - a2)) (wr (-r15.Error)) r15.Error).bind fun r23 =>
  bif !r23 then (some false)
  else (rec_z_1 (wr (z_1 + 1))))
  else (rec_z_1 (wr (z_1 + 1))))
  else (some true)

def ref_right (a0 : CoalBook) (a1 : Int) (a2 : Int) : Option Bool :=
  loopF (ref_right_l1 a0 a1 a2) big 0

set_option maxRecDepth 100000 in
theorem ref_right_ok {a0 : CoalBook} {a1 : Int} {a2 : Int} {A1 : Option Addr} {c2 : Nat} {A4 : Option Addr} {c5 : Nat} {w : World} {r : Bool} (H : ref_right a0 a1 a2 = some r) (h3 : (rd eCoalDay 3 A1 c2 a0.Days).ok w) (h6 : (rd eCoalDip 3 A4 c5 a0.Dips).ok w) : Calls Tryd.prog 108 #[AG ([I a0.Heap.Low, I a0.Heap.High] ++ (sgE eSpan a0.Eats 2 ++ (sg a0.Extra 3 ++ [SL A1 a0.Days.length c2, I a0.Collier.Low, I a0.Collier.High, I a0.Brings, SL A4 a0.Dips.length c5]))), I a1, I a2] w (RetV w (B r)) := by
  unfold ref_right at H
  refine fn_of (n := 38) Tryd.func108 rfl rfl (Nat.le_of_ble_eq_true rfl) ?_
  have S : St w (fun _ => False) w [] [rd eCoalDay 3 A1 c2 a0.Days, rd eCoalDip 3 A4 c5 a0.Dips] := St.start w _ _ (List.forall_mem_cons.2 ⟨h3, (List.forall_mem_cons.2 ⟨h6, (fun _ h_ => (List.not_mem_nil h_).elim)⟩)⟩)
  refine c_seq ?_
  refine reg ?_
  refine p_boxA rfl S fun b7 w8 S9 => ?_
  refine p_aB rfl ?_
  refine wp_nil ?_
  refine c_seq ?_
  refine c_seq ?_
  refine reg ?_
  refine p_aI rfl ?_
  refine wp_nil ?_
  refine c_block ?_
  refine c_lop (α := Int) (β := Unit) (ref_right_l1 a0 a1 a2) (fun z_1 y_1 => [(1, I a1), (2, I a2), (3, P b7 0), (7, I z_1)]) (fun z_1 y_1 w_ => St w (fun _ => False) w_ [bl b7 ([I a0.Heap.Low, I a0.Heap.High] ++ (sgE eSpan a0.Eats 2 ++ (sg a0.Extra 3 ++ [SL A1 a0.Days.length c2, I a0.Collier.Low, I a0.Collier.High, I a0.Brings, SL A4 a0.Dips.length c5]))) 29] [rd eCoalDay 3 A1 c2 a0.Days, rd eCoalDip 3 A4 c5 a0.Dips]) 0 () H ⟨rfl, rfl, rfl, rfl, trivial⟩ S9 ?_
  intro m10 z_1 y_1 e11 w12 H S13
  unfold ref_right_l1 at H
  refine c_seq ?_
  refine c_seq ?_
  refine reg ?_
  refine p_mI rfl ?_
  refine p_fld fl29_6 rfl ?_
  refine p_ld ty27 (S13.atX (i := 0) rfl) rfl rfl ?_
  refine p_len rfl sc27 ?_
  refine p_cmp rfl rfl rfl ?_
  refine wp_nil ?_
  refine c_cond rfl (fun c14 => ?_) (fun c14 => ?_)
  · replace H := condT c14 H
    refine c_skip ?_
    refine c_seq ?_
    refine c_block ?_
    refine c_seq ?_
    refine reg ?_
    refine p_fld fl29_6 rfl ?_
    refine p_ld ty27 (S13.atX (i := 0) rfl) rfl rfl ?_
    refine p_mI rfl ?_
    obtain ⟨r15, h16, H⟩ := bindS H
    refine p_ixE sc27 h16 (S13.atP (i := 1) rfl).1 rfl rfl rfl ?_
    refine p_ldEA ty67 sz67 rfl h16 (S13.atP (i := 1) rfl).1 rfl ?_
    refine p_allA in67 S13 fun b17 w18 S19 => ?_
    refine p_stP (pre := []) (old := [I 0, I 0, I 0]) (post := []) (vs := [I r15.Day, I r15.Read, I r15.Error]) sz67 S19 (i := 0) rfl rfl rfl rfl (rfl : _ = AG [I r15.Day, I r15.Read, I r15.Error]) rfl rfl rfl rfl fun w20 S21 => ?_
    refine wp_nil ?_
    refine c_seq ?_
    refine reg ?_
    refine p_fld fl67_0 rfl ?_
    refine p_ld ty3 (S21.atX (i := 0) rfl) rfl rfl ?_
    refine p_mI rfl ?_
    refine p_cmp rfl rfl rfl ?_
    refine p_mB rfl ?_
    rcases Bool.eq_false_or_eq_true ((r15.Day == a1)) with c22 | c22
    · replace H := condT c22 H
      refine eB c22 ?_
      refine gT rfl rfl (p_fld fl67_1 rfl ?_)
      refine gT rfl rfl (p_ld ty3 (S21.atX (i := 0) rfl) rfl rfl ?_)
      refine gT rfl rfl (p_mI rfl ?_)
      refine gT rfl rfl (p_sub rfl rfl ?_)
      refine gT rfl rfl (p_fld fl67_2 rfl ?_)
      refine gT rfl rfl (p_ld ty3 (S21.atX (i := 0) rfl) rfl rfl ?_)
      refine gT rfl rfl (p_neg rfl ?_)
      refine gT rfl rfl (p_fld fl67_2 rfl ?_)
      refine gT rfl rfl (p_ld ty3 (S21.atX (i := 0) rfl) rfl rfl ?_)
      obtain ⟨r23, h24, H⟩ := bindS H
      refine gT rfl rfl (p_cv (B_Inside_ok h24) fu34 rfl S21 fun w25 S26 => ?_)
      refine gT rfl rfl (p_not rfl ?_)
      refine p_pkT rfl (rfl : _ = B (!r23)) ?_
      refine wp_nil ?_
      refine c_cond rfl (fun c27 => ?_) (fun c27 => ?_)
      · replace H := condT c27 H
        refine c_seq ?_
        refine reg ?_
        refine p_aB rfl ?_
        refine wp_nil ?_
        obtain rfl := Option.some.inj H
        refine c_ret ?_; show bodyPostM (Fr none) 0 Tryd.prog Tryd.f108 _ .ret _ _
        refine ret_of (res1 rfl (rvT (rfl : _ = B false))) ?_
        exact ⟨_, rfl, rfl, S26.keep⟩
      · replace H := condF c27 H
        refine c_skip ?_
        refine reg ?_
        refine p_mI rfl ?_
        refine p_add rfl rfl ?_
        refine p_aI rfl ?_
        refine wp_nil ?_
        have S28 := S26.pk [1] (by decide) [0, 1] rfl rfl
        exact ⟨wr (z_1 + 1), (), _, rfl, ⟨rfl, rfl, rfl, rfl, trivial⟩, H, S28⟩
    · replace H := condF c22 H
      refine eB c22 ?_
      refine gF rfl rfl ?_
      refine gF rfl rfl ?_
      refine gF rfl rfl ?_
      refine gF rfl rfl ?_
      refine gF rfl rfl ?_
      refine gF rfl rfl ?_
      refine gF rfl rfl ?_
      refine gF rfl rfl ?_
      refine gF rfl rfl ?_
      refine gF rfl rfl ?_
      refine gF rfl rfl ?_
      refine p_pkF rfl (rfl : _ = B false) ?_
      refine wp_nil ?_
      refine c_false rfl ?_
      refine c_skip ?_
      refine reg ?_
      refine p_mI rfl ?_
      refine p_add rfl rfl ?_
      refine p_aI rfl ?_
      refine wp_nil ?_
      have S29 := S21.pk [1] (by decide) [0, 1] rfl rfl
      exact ⟨wr (z_1 + 1), (), _, rfl, ⟨rfl, rfl, rfl, rfl, trivial⟩, H, S29⟩
  · replace H := condF c14 H
    refine c_exit ?_
    refine c_seq ?_
    refine reg ?_
    refine p_aB rfl ?_
    refine wp_nil ?_
    obtain rfl := Option.some.inj H
    refine c_ret ?_; show bodyPostM (Fr none) 0 Tryd.prog Tryd.f108 _ .ret _ _
    refine ret_of (res1 rfl (rvT (rfl : _ = B true))) ?_
    exact ⟨_, rfl, rfl, S13.keep⟩

def B_Grown (a0 : List Int) (a1 : Int) : Option (List Int) :=
  need (inI (wr ((a0.length : Int) + 1)) 1073741824) <|
  need (decide (a0.length ≤ (List.replicate (wr ((a0.length : Int) + 1)).toNat (0 : Int)).length)) <|
  (getI (a0 ++ List.drop a0.length (List.replicate (wr ((a0.length : Int) + 1)).toNat (0 : Int))) (a0.length : Int)).bind fun r15 =>
  some ((a0 ++ List.drop a0.length (List.replicate (wr ((a0.length : Int) + 1)).toNat (0 : Int))).set (a0.length : Int).toNat a1)

set_option maxRecDepth 100000 in
theorem B_Grown_ok {a0 : List Int} {a1 : Int} {A1 : Option Addr} {c2 : Nat} {w : World} {r : (List Int)} (H : B_Grown a0 a1 = some r) (h3 : (rd intE 1 A1 c2 a0).ok w) : Calls Tryd.prog 109 #[SL A1 a0.length c2, I a1] w fun en w_ => ∃ u_, en = .returned u_ ∧ ∃ A_1 : Option Addr, ∃ c_2 : Nat, u_ = SL A_1 r.length c_2 ∧ Keep0 w w_ ∧ ((gr intE 1 3 A_1 c_2 r).ok w_ ∧ New w.heap.size (gr intE 1 3 A_1 c_2 r)) ∧ True := by
  unfold B_Grown at H
  refine fn_of (n := 19) Tryd.func109 rfl rfl (Nat.le_of_ble_eq_true rfl) ?_
  have S : St w (fun _ => False) w [] [rd intE 1 A1 c2 a0] := St.start w _ _ (List.forall_mem_cons.2 ⟨h3, (fun _ h_ => (List.not_mem_nil h_).elim)⟩)
  refine c_seq ?_
  refine reg ?_
  refine p_aS rfl ?_
  refine wp_nil ?_
  refine c_seq ?_
  refine reg ?_
  refine p_mS rfl ?_
  refine p_len rfl sc39 ?_
  refine p_add rfl rfl ?_
  obtain ⟨h4, H⟩ := needS H
  refine p_mkV (enc := intE) (x0 := (0 : Int)) (len := wr ((a0.length : Int) + 1)) sc39 in3 intE_len rfl (by decide) h4 S rfl rfl fun A5 w6 S7 => ?_
  refine p_aS rfl ?_
  refine wp_nil ?_
  refine c_seq ?_
  refine reg ?_
  refine p_mS rfl ?_
  refine p_mS rfl ?_
  obtain ⟨h9, H⟩ := needS H
  refine p_cp sc39 S7 (i := 0) rfl (S7.atP (i := 0) rfl).1 h9 rfl rfl fun l10 w13 h11 h12 S14 => ?_
  obtain rfl : l10 = (a0 ++ List.drop a0.length (List.replicate (wr ((a0.length : Int) + 1)).toNat (0 : Int))) := h11
  try rw [← h12]
  try rw [← h12] at S14
  refine wp_nil ?_
  refine c_seq ?_
  refine reg ?_
  refine p_mS rfl ?_
  refine p_mS rfl ?_
  refine p_len rfl sc39 ?_
  refine p_mI rfl ?_
  obtain ⟨r15, h16, H⟩ := bindS H
  refine p_ixE sc39 h16 (gr_sl intE_len (S14.atX (i := 0) rfl)) rfl rfl rfl ?_
  refine p_stE (x' := a1) (a := []) (old := [I r15]) (b := []) (vs := [I a1]) sz3 intE_len intE_one S14 (i := 0) rfl h16 rfl (rfl : _ = I a1) rfl rfl rfl rfl rfl rfl fun l19 w20 h17 h18 S21 => ?_
  obtain rfl : l19 = ((a0 ++ List.drop a0.length (List.replicate (wr ((a0.length : Int) + 1)).toNat (0 : Int))).set (a0.length : Int).toNat a1) := h17
  try rw [← h18]
  try rw [← h18] at S21
  refine wp_nil ?_
  refine c_seq ?_
  refine reg ?_
  refine p_mS rfl ?_
  refine p_aS rfl ?_
  refine wp_nil ?_
  obtain rfl := Option.some.inj H
  refine c_ret ?_; show bodyPostM (Fr none) 0 Tryd.prog Tryd.f109 _ .ret _ _
  refine ret_of (res1 rfl (rvT (rfl : _ = SL A5 ((a0 ++ List.drop a0.length (List.replicate (wr ((a0.length : Int) + 1)).toNat (0 : Int))).set (a0.length : Int).toNat a1).length ((wr ((a0.length : Int) + 1)).toNat)))) ?_
  exact ⟨_, rfl, A5, ((wr ((a0.length : Int) + 1)).toNat), rfl, S21.keep, ⟨S21.atX (i := 0) rfl, S21.newX (i := 0) rfl⟩, trivial⟩

structure Ref06_truth where
  eats_ : List Int
  collier_ : Int
  winds_ : List Int
  coal_ : List Int
  deriving DecidableEq, Inhabited

def nRef06_truth (h : Ref06_truth × (Option Addr) × Nat × (Option Addr) × Nat) : List Value := sg h.1.eats_ 2 ++ [I h.1.collier_, SL h.2.1 h.1.winds_.length h.2.2.1, SL h.2.2.2.1 h.1.coal_.length h.2.2.2.2]
theorem nRef06_truth_len (h : Ref06_truth × (Option Addr) × Nat × (Option Addr) × Nat) : (nRef06_truth h).length = 5 := rfl
theorem nRef06_truth_one (h : Ref06_truth × (Option Addr) × Nat × (Option Addr) × Nat) : ∀ u ∈ nRef06_truth h, u.oneCell' = true := by simp [nRef06_truth, sg, sgF, Value.oneCell']
def nRef06_truthI (h : Ref06_truth × (Option Addr) × Nat × (Option Addr) × Nat) : List Asr := [rd intE 1 h.2.1 h.2.2.1 h.1.winds_, rd intE 1 h.2.2.2.1 h.2.2.2.2 h.1.coal_]

def ref_gone_l3 (a0 : CoalBook) (a1 : Ref06_truth) (z_1 : Int) (rec_ : CoalBook → Ref06_truth → Int → Option (List Ref06_truth)) (rec_z_2 : ((List Ref06_truth) × Int) → Option (List Ref06_truth)) (z_2 : (List Ref06_truth) × Int) : Option (List Ref06_truth) :=
  bif decide (z_2.2 < 3) then ((getI a0.Days (a1.winds_.length : Int)).bind fun r38 =>
  (B_Member r38.Winds z_2.2).bind fun r40 =>
  bif !r40 then (rec_z_2 (z_2.1, wr (z_2.2 + 1)))
  else ((ref_eaten a0 a1.eats_ (a1.winds_.length : Int) z_2.2).bind fun r45 =>
  (ref_right a0 (a1.winds_.length : Int) (wr (z_1 - r45))).bind fun r49 =>
  bif r49 then ((B_Grown a1.winds_ z_2.2).bind fun r62 =>
  (B_Grown a1.coal_ (wr (z_1 - r45))).bind fun r75 =>
  (rec_ a0 (Ref06_truth.mk a1.eats_ a1.collier_ r62 r75) (wr (z_1 - r45))).bind fun r94 =>
  bif r94.isEmpty then (rec_z_2 (z_2.1, wr (z_2.2 + 1)))
  else (need (fitsL (z_2.1.length + r94.length) 72) <|
  rec_z_2 (z_2.1 ++ r94, wr (z_2.2 + 1))))
  else (rec_z_2 (z_2.1, wr (z_2.2 + 1)))))
  else (some z_2.1)

def ref_gone_j4 (a0 : CoalBook) (a1 : Ref06_truth) (rec_ : CoalBook → Ref06_truth → Int → Option (List Ref06_truth)) (z_1 : Int) : Option (List Ref06_truth) :=
  loopF (ref_gone_l3 a0 a1 z_1 rec_) big (([] : List Ref06_truth), 0)

def ref_gone_F (rec_ : CoalBook → Ref06_truth → Int → Option (List Ref06_truth)) (a0 : CoalBook) (a1 : Ref06_truth) (a2 : Int) : Option (List Ref06_truth) :=
  bif ((a1.winds_.length : Int) == (a0.Days.length : Int)) then (some ([a1] : List Ref06_truth))
  else (bif (a1.collier_ == (a1.winds_.length : Int)) then (ref_gone_j4 a0 a1 rec_ (wr (a2 + a0.Brings)))
  else (ref_gone_j4 a0 a1 rec_ a2))

def ref_gone : Nat → CoalBook → Ref06_truth → Int → Option (List Ref06_truth)
  | 0, _, _, _ => none
  | n + 1, a0, a1, a2 => ref_gone_F (fun x0_ x1_ x2_ => ref_gone n x0_ x1_ x2_) a0 a1 a2

set_option maxRecDepth 100000 in
theorem ref_gone_ok {n : Nat} : ∀ {a0 : CoalBook} {a1 : Ref06_truth} {a2 : Int} {A1 : Option Addr} {c2 : Nat} {A4 : Option Addr} {c5 : Nat} {A7 : Option Addr} {c8 : Nat} {A10 : Option Addr} {c11 : Nat} {w : World} {r : (List Ref06_truth)} (H : ref_gone n a0 a1 a2 = some r) (h3 : (rd eCoalDay 3 A1 c2 a0.Days).ok w) (h6 : (rd eCoalDip 3 A4 c5 a0.Dips).ok w) (h9 : (rd intE 1 A7 c8 a1.winds_).ok w) (h12 : (rd intE 1 A10 c11 a1.coal_).ok w), Calls Tryd.prog 100 #[AG ([I a0.Heap.Low, I a0.Heap.High] ++ (sgE eSpan a0.Eats 2 ++ (sg a0.Extra 3 ++ [SL A1 a0.Days.length c2, I a0.Collier.Low, I a0.Collier.High, I a0.Brings, SL A4 a0.Dips.length c5]))), AG (sg a1.eats_ 2 ++ [I a1.collier_, SL A7 a1.winds_.length c8, SL A10 a1.coal_.length c11]), I a2] w fun en w_ => ∃ u_, en = .returned u_ ∧ ∃ A_1 : Option Addr, ∃ c_2 : Nat, ∃ l_3 : List (Ref06_truth × (Option Addr) × Nat × (Option Addr) × Nat), u_ = SL A_1 l_3.length c_2 ∧ Keep0 w w_ ∧ ((rd nRef06_truth 5 A_1 c_2 l_3).ok w_ ∧ New w.heap.size (rd nRef06_truth 5 A_1 c_2 l_3)) ∧ ((ri nRef06_truthI l_3 r).ok w_ ∧ Al w [rd eCoalDay 3 A1 c2 a0.Days, rd eCoalDip 3 A4 c5 a0.Dips, rd intE 1 A7 c8 a1.winds_, rd intE 1 A10 c11 a1.coal_] (ri nRef06_truthI l_3 r)) ∧ True := by
  induction n with
  | zero => intro a0 a1 a2 A1 c2 A4 c5 A7 c8 A10 c11 w r H h3 h6 h9 h12; cases H
  | succ n ih =>
  intro a0 a1 a2 A1 c2 A4 c5 A7 c8 A10 c11 w r H h3 h6 h9 h12
  unfold ref_gone ref_gone_F at H
  refine fn_of (n := 73) Tryd.func100 rfl rfl (Nat.le_of_ble_eq_true rfl) ?_
  have S : St w (fun _ => False) w [] [rd eCoalDay 3 A1 c2 a0.Days, rd eCoalDip 3 A4 c5 a0.Dips, rd intE 1 A7 c8 a1.winds_, rd intE 1 A10 c11 a1.coal_] := St.start w _ _ (List.forall_mem_cons.2 ⟨h3, (List.forall_mem_cons.2 ⟨h6, (List.forall_mem_cons.2 ⟨h9, (List.forall_mem_cons.2 ⟨h12, (fun _ h_ => (List.not_mem_nil h_).elim)⟩)⟩)⟩)⟩)
  refine c_seq ?_
  refine reg ?_
  refine p_boxA rfl S fun b13 w14 S15 => ?_
  refine p_boxA rfl S15 fun b16 w17 S18 => ?_
  refine p_aS rfl ?_
  refine wp_nil ?_
  refine c_seq ?_
  refine reg ?_
  refine p_fld fl119_2 rfl ?_
  refine p_ld ty39 (S18.atX (i := 0) rfl) rfl rfl ?_
  refine p_len rfl sc39 ?_
  refine p_aI rfl ?_
  refine wp_nil ?_
  refine c_seq ?_
  refine c_seq ?_
  refine reg ?_
  refine p_mI rfl ?_
  refine p_fld fl29_3 rfl ?_
  refine p_ld ty26 (S18.atX (i := 1) rfl) rfl rfl ?_
  refine p_len rfl sc26 ?_
  refine p_cmp rfl rfl rfl ?_
  refine wp_nil ?_
  refine c_cond rfl (fun c19 => ?_) (fun c19 => ?_)
  · replace H := condT c19 H
    refine c_seq ?_
    refine reg ?_
    refine p_ldA ty119 sz119 (S18.atX (i := 0) rfl) rfl rfl ?_
    refine p_bsl (enc := nRef06_truth) (l := ([(a1, A7, c8, A10, c11)] : List (Ref06_truth × (Option Addr) × Nat × (Option Addr) × Nat))) (fun h => AG (nRef06_truth h)) (fun _ => rfl) sc112 in119 nRef06_truth_len rfl (by decide) (by decide) zr119_1 S18 rfl fun A20 c21 w22 S23 => ?_
    have S25 := S23.riL (inner := nRef06_truthI) (xs := ([a1] : List Ref06_truth)) ([(a1, A7, c8, A10, c11)] : List (Ref06_truth × (Option Addr) × Nat × (Option Addr) × Nat)) rfl (List.forall_mem_cons.2 ⟨(List.forall_mem_cons.2 ⟨List.mem_of_getElem? (i := 2) rfl, (List.forall_mem_cons.2 ⟨List.mem_of_getElem? (i := 3) rfl, (fun _ h_ => (List.not_mem_nil h_).elim)⟩)⟩), (fun _ h_ => (List.not_mem_nil h_).elim)⟩)
    refine p_aS rfl ?_
    refine wp_nil ?_
    obtain rfl := Option.some.inj H
    refine c_ret ?_; show bodyPostM (Fr none) 0 Tryd.prog Tryd.f100 _ .ret _ _
    refine ret_of (res1 rfl (rvT (rfl : _ = SL A20 ([(a1, A7, c8, A10, c11)] : List (Ref06_truth × (Option Addr) × Nat × (Option Addr) × Nat)).length c21))) ?_
    exact ⟨_, rfl, A20, c21, ([(a1, A7, c8, A10, c11)] : List (Ref06_truth × (Option Addr) × Nat × (Option Addr) × Nat)), rfl, S25.keep, ⟨(gr_rd nRef06_truth_len (S25.atX (i := 0) rfl)), (New.rd (S25.newX (i := 0) rfl))⟩, ⟨(S25.atP (i := 0) rfl), (Al.riL (List.forall_mem_cons.2 ⟨(List.forall_mem_cons.2 ⟨(Al.self (i := 2) rfl), (List.forall_mem_cons.2 ⟨(Al.self (i := 3) rfl), (fun _ h_ => (List.not_mem_nil h_).elim)⟩)⟩), (fun _ h_ => (List.not_mem_nil h_).elim)⟩))⟩, trivial⟩
  · replace H := condF c19 H
    refine c_skip ?_
    refine c_join (α := Int) (β := Unit) (fun z_1 y_1 => [(2, I z_1), (3, P b13 0), (4, P b16 0), (7, I (a1.winds_.length : Int))]) (fun z_1 y_1 w_ => ref_gone_j4 a0 a1 (fun x0_ x1_ x2_ => ref_gone n x0_ x1_ x2_) z_1 = some r ∧ St w (fun _ => False) w_ [bl b16 (sg a1.eats_ 2 ++ [I a1.collier_, SL A7 a1.winds_.length c8, SL A10 a1.coal_.length c11]) 119, bl b13 ([I a0.Heap.Low, I a0.Heap.High] ++ (sgE eSpan a0.Eats 2 ++ (sg a0.Extra 3 ++ [SL A1 a0.Days.length c2, I a0.Collier.Low, I a0.Collier.High, I a0.Brings, SL A4 a0.Dips.length c5]))) 29] [rd eCoalDay 3 A1 c2 a0.Days, rd eCoalDip 3 A4 c5 a0.Dips, rd intE 1 A7 c8 a1.winds_, rd intE 1 A10 c11 a1.coal_]) ?_ ?_
    · refine c_seq ?_
      refine reg ?_
      refine p_fld fl119_1 rfl ?_
      refine p_ld ty3 (S18.atX (i := 0) rfl) rfl rfl ?_
      refine p_mI rfl ?_
      refine p_cmp rfl rfl rfl ?_
      refine wp_nil ?_
      refine c_cond rfl (fun c26 => ?_) (fun c26 => ?_)
      · replace H := condT c26 H
        refine reg ?_
        refine p_mI rfl ?_
        refine p_fld fl29_5 rfl ?_
        refine p_ld ty3 (S18.atX (i := 1) rfl) rfl rfl ?_
        refine p_add rfl rfl ?_
        refine p_aI rfl ?_
        refine wp_nil ?_
        exact ⟨wr (a2 + a0.Brings), (), _, rfl, ⟨rfl, rfl, rfl, rfl, trivial⟩, H, S18⟩
      · replace H := condF c26 H
        refine c_skip ?_
        exact ⟨a2, (), _, rfl, ⟨rfl, rfl, rfl, rfl, trivial⟩, H, S18⟩
    · intro z_1 y_1 e26 w27 S28; obtain ⟨H, S28⟩ := S28
      unfold ref_gone_j4 at H
      refine c_seq ?_
      refine reg ?_
      refine p_aS rfl ?_
      refine wp_nil ?_
      refine c_seq ?_
      refine c_seq ?_
      refine reg ?_
      refine p_aI rfl ?_
      refine wp_nil ?_
      refine c_block ?_
      have S29 := S28.nilRow nRef06_truth 5 119
      have S30 := S29.riNil nRef06_truthI
      have S31 := St.addPur (φ := Al w [rd eCoalDay 3 A1 c2 a0.Days, rd eCoalDip 3 A4 c5 a0.Dips, rd intE 1 A7 c8 a1.winds_, rd intE 1 A10 c11 a1.coal_] (ri nRef06_truthI ([] : List (Ref06_truth × (Option Addr) × Nat × (Option Addr) × Nat)) ([] : List Ref06_truth))) S30 Al.riNil
      have S32 := S31.pk [0, 1, 2] (by decide) [1, 0, 2, 3, 4, 5] rfl rfl
      refine c_lop (α := (List Ref06_truth) × Int) (β := (Option Addr) × Nat × (List (Ref06_truth × (Option Addr) × Nat × (Option Addr) × Nat))) (ref_gone_l3 a0 a1 z_1 (fun x0_ x1_ x2_ => ref_gone n x0_ x1_ x2_)) (fun z_2 y_2 => [(2, I z_1), (3, P b13 0), (4, P b16 0), (7, I (a1.winds_.length : Int)), (8, SL y_2.1 y_2.2.2.length y_2.2.1), (9, I z_2.2)]) (fun z_2 y_2 w_ => St w (fun _ => False) w_ [gr nRef06_truth 5 119 y_2.1 y_2.2.1 y_2.2.2, bl b16 (sg a1.eats_ 2 ++ [I a1.collier_, SL A7 a1.winds_.length c8, SL A10 a1.coal_.length c11]) 119, bl b13 ([I a0.Heap.Low, I a0.Heap.High] ++ (sgE eSpan a0.Eats 2 ++ (sg a0.Extra 3 ++ [SL A1 a0.Days.length c2, I a0.Collier.Low, I a0.Collier.High, I a0.Brings, SL A4 a0.Dips.length c5]))) 29] [ri nRef06_truthI y_2.2.2 z_2.1, pur (Al w [rd eCoalDay 3 A1 c2 a0.Days, rd eCoalDip 3 A4 c5 a0.Dips, rd intE 1 A7 c8 a1.winds_, rd intE 1 A10 c11 a1.coal_] (ri nRef06_truthI y_2.2.2 z_2.1)), rd eCoalDay 3 A1 c2 a0.Days, rd eCoalDip 3 A4 c5 a0.Dips, rd intE 1 A7 c8 a1.winds_, rd intE 1 A10 c11 a1.coal_]) (([] : List Ref06_truth), 0) (none, 0, ([] : List (Ref06_truth × (Option Addr) × Nat × (Option Addr) × Nat))) H ⟨rfl, rfl, rfl, rfl, rfl, rfl, trivial⟩ S32 ?_
      intro m33 z_2 y_2 e34 w35 H S36
      unfold ref_gone_l3 at H
      refine c_seq ?_
      refine c_seq ?_
      refine reg ?_
      refine p_mI rfl ?_
      refine p_cmp rfl rfl rfl ?_
      refine wp_nil ?_
      refine c_cond rfl (fun c37 => ?_) (fun c37 => ?_)
      · replace H := condT c37 H
        refine c_skip ?_
        refine c_seq ?_
        refine c_block ?_
        refine c_seq ?_
        refine c_seq ?_
        refine reg ?_
        refine p_fld fl29_3 rfl ?_
        refine p_ld ty26 (S36.atX (i := 2) rfl) rfl rfl ?_
        refine p_mI rfl ?_
        obtain ⟨r38, h39, H⟩ := bindS H
        refine p_ixE sc26 h39 (S36.atP (i := 2) rfl).1 rfl rfl rfl ?_
        refine p_fldE fl64_2 (sl_here (S36.atP (i := 2) rfl).1 h39) rfl ?_
        refine p_ldE ty3 h39 (S36.atP (i := 2) rfl).1 rfl rfl ?_
        refine p_mI rfl ?_
        obtain ⟨r40, h41, H⟩ := bindS H
        refine p_cv (B_Member_ok h41) fu33 rfl S36 fun w42 S43 => ?_
        refine p_not rfl ?_
        refine wp_nil ?_
        refine c_cond rfl (fun c44 => ?_) (fun c44 => ?_)
        · replace H := condT c44 H
          refine c_exit ?_
          refine reg ?_
          refine p_mI rfl ?_
          refine p_add rfl rfl ?_
          refine p_aI rfl ?_
          refine wp_nil ?_
          exact ⟨(z_2.1, wr (z_2.2 + 1)), (y_2.1, y_2.2.1, y_2.2.2), _, rfl, ⟨rfl, rfl, rfl, rfl, rfl, rfl, trivial⟩, H, S43⟩
        · replace H := condF c44 H
          refine c_skip ?_
          refine c_seq ?_
          refine reg ?_
          refine p_mI rfl ?_
          refine p_ldA ty29 sz29 (S43.atX (i := 2) rfl) rfl rfl ?_
          refine p_fld fl119_0 rfl ?_
          refine p_ldP (vs := sg a1.eats_ 2) ty30 sz30 (S43.atX (i := 1) rfl) rfl rfl rfl ?_
          refine p_mI rfl ?_
          refine p_mI rfl ?_
          obtain ⟨r45, h46, H⟩ := bindS H
          refine p_cv (ref_eaten_ok h46 (S43.atP (i := 2) rfl) (S43.atP (i := 3) rfl)) fu107 rfl S43 fun w47 S48 => ?_
          refine p_sub rfl rfl ?_
          refine p_aI rfl ?_
          refine wp_nil ?_
          refine c_seq ?_
          refine reg ?_
          refine p_ldA ty29 sz29 (S48.atX (i := 2) rfl) rfl rfl ?_
          refine p_mI rfl ?_
          refine p_mI rfl ?_
          obtain ⟨r49, h50, H⟩ := bindS H
          refine p_cv (ref_right_ok h50 (S48.atP (i := 2) rfl) (S48.atP (i := 3) rfl)) fu108 rfl S48 fun w51 S52 => ?_
          refine wp_nil ?_
          refine c_cond rfl (fun c53 => ?_) (fun c53 => ?_)
          · replace H := condT c53 H
            refine c_seq ?_
            refine reg ?_
            refine p_ldA ty119 sz119 (S52.atX (i := 1) rfl) rfl rfl ?_
            refine p_allA in119 S52 fun b54 w55 S56 => ?_
            refine p_stP (pre := []) (old := sg (List.replicate 2 0) 2 ++ [I 0, SL none 0 0, SL none 0 0]) (post := []) (vs := sg a1.eats_ 2 ++ [I a1.collier_, SL A7 a1.winds_.length c8, SL A10 a1.coal_.length c11]) sz119 S56 (i := 0) rfl rfl rfl rfl (rfl : _ = AG (sg a1.eats_ 2 ++ [I a1.collier_, SL A7 a1.winds_.length c8, SL A10 a1.coal_.length c11])) rfl rfl rfl rfl fun w57 S58 => ?_
            refine wp_nil ?_
            refine c_seq ?_
            refine reg_c mixed 9 [3, 7] (by kernel_rfl) ?_
            refine kS rfl (fun _ k_ => p_fld fl119_2 rfl dn) ?_
            refine kS rfl (fun _ k_ => p_ld ty39 (Asr.stays (S58.atX (i := 2) rfl) k_) rfl rfl dn) ?_
            refine kS rfl (fun _ k_ => p_mI rfl dn) ?_
            refine kC rfl ?_
            refine kS rfl (fun _ k_ => p_fld fl119_3 rfl dn) ?_
            refine kS rfl (fun _ k_ => p_ld ty39 (Asr.stays (S58.atX (i := 2) rfl) k_) rfl rfl dn) ?_
            refine kS rfl (fun _ k_ => p_mI rfl dn) ?_
            refine kC rfl ?_
            refine kS rfl (fun _ k_ => p_fld fl119_2 rfl dn) ?_
            intro w59 k60; have S61 := S58.call k60
            obtain ⟨r62, h63, H⟩ := bindS H
            refine p_cal (B_Grown_ok h63 (S61.atP (i := 4) rfl)) fu109 rfl ?_
            rintro _ w64 ⟨A66, c67, rfl, k65, ⟨o68, n69⟩, _⟩
            have S71 := S61.addNew k65 o68 n69
            refine cN k65 fun w72 k73 => ?_
            have S74 := S71.call k73
            obtain ⟨r75, h76, H⟩ := bindS H
            refine p_cal (B_Grown_ok h76 (S74.atP (i := 5) rfl)) fu109 rfl ?_
            rintro _ w77 ⟨A79, c80, rfl, k78, ⟨o81, n82⟩, _⟩
            have S84 := S74.addNew k78 o81 n82
            refine cN k78 fun w85 k86 => ?_
            have S87 := S84.call k86
            refine p_stP (pre := sg a1.eats_ 2 ++ [I a1.collier_]) (old := [SL A7 a1.winds_.length c8]) (post := [SL A10 a1.coal_.length c11]) (vs := [SL A66 r62.length c67]) sz39 S87 (i := 2) rfl rfl rfl rfl (rfl : _ = SL A66 r62.length c67) rfl rfl rfl rfl fun w88 S89 => ?_
            refine p_fld fl119_3 rfl ?_
            refine p_stP (pre := sg a1.eats_ 2 ++ [I a1.collier_, SL A66 r62.length c67]) (old := [SL A10 a1.coal_.length c11]) (post := []) (vs := [SL A79 r75.length c80]) sz39 S89 (i := 2) rfl rfl rfl rfl (rfl : _ = SL A79 r75.length c80) rfl rfl rfl rfl fun w90 S91 => ?_
            refine wp_nil ?_
            refine reg ?_
            refine p_mS rfl ?_
            refine p_ldA ty29 sz29 (S91.atX (i := 5) rfl) rfl rfl ?_
            refine p_ldA ty119 sz119 (S91.atX (i := 2) rfl) rfl rfl ?_
            refine p_mI rfl ?_
            have S92 := S91.fixRd intE_len (i := 1) rfl
            have S93 := S92.fixRd intE_len (i := 0) rfl
            obtain ⟨r94, h95, H⟩ := bindS H
            refine p_cal (ih h95 (S93.atP (i := 4) rfl) (S93.atP (i := 5) rfl) (S93.atP (i := 1) rfl) (S93.atP (i := 0) rfl)) fu100 rfl ?_
            rintro _ w96 ⟨A98, c99, l100, rfl, k97, ⟨o101, n102⟩, ⟨o103, n104⟩, _⟩
            have S105 := S93.callN k97 [rd nRef06_truth 5 A98 c99 l100, ri nRef06_truthI l100 r94] (List.forall_mem_cons.2 ⟨⟨o101, New.inL n102⟩, (List.forall_mem_cons.2 ⟨⟨o103, Al.inL n104 ((List.forall_mem_cons.2 ⟨(fp_mem (i := 4) rfl), (List.forall_mem_cons.2 ⟨(fp_mem (i := 5) rfl), (List.forall_mem_cons.2 ⟨(fp_mem (i := 1) rfl), (List.forall_mem_cons.2 ⟨(fp_mem (i := 0) rfl), (fun _ h_ => (List.not_mem_nil h_).elim)⟩)⟩)⟩)⟩))⟩, (fun _ h_ => (List.not_mem_nil h_).elim)⟩)⟩)
            rcases Bool.eq_false_or_eq_true (r94.isEmpty) with c106 | c106
            · replace H := condT c106 H
              refine p_app0 sc112 in119 (gr_rd nRef06_truth_len (S105.atX (i := 1) rfl)).2.1 (ri_emp (S105.atP (i := 1) rfl) c106) rfl rfl ?_
              refine p_aS rfl ?_
              refine wp_nil ?_
              refine reg ?_
              refine p_mI rfl ?_
              refine p_add rfl rfl ?_
              refine p_aI rfl ?_
              refine wp_nil ?_
              have S111 := S105.pk [1, 2, 3] (by decide) [4, 5, 6, 7, 8, 9] rfl rfl
              exact ⟨(z_2.1, wr (z_2.2 + 1)), (y_2.1, y_2.2.1, y_2.2.2), _, rfl, ⟨rfl, rfl, rfl, rfl, rfl, rfl, trivial⟩, H, S111⟩
            · replace H := condF c106 H
              obtain ⟨h116, H⟩ := needS H
              refine p_app (enc := nRef06_truth) sc112 in119 rfl nRef06_truth_len nRef06_truth_one (by decide) S105 (k := 1) rfl (S105.atP (i := 0) rfl).1 (fits_ri h116 (congr (congrArg HAdd.hAdd (ri_len (S105.atP (i := 4) rfl))) (ri_len (S105.atP (i := 1) rfl)))) (ne_of_some (ri_emp (S105.atP (i := 1) rfl) c106)) rfl rfl fun A114 c115 w112 S113 => ?_
              have S117 := S113.riApp (i := 4) (j := 1) rfl rfl
              refine p_aS rfl ?_
              refine wp_nil ?_
              refine reg ?_
              refine p_mI rfl ?_
              refine p_add rfl rfl ?_
              refine p_aI rfl ?_
              refine wp_nil ?_
              have S118 := St.addPur (φ := Al w [rd eCoalDay 3 A1 c2 a0.Days, rd eCoalDip 3 A4 c5 a0.Dips, rd intE 1 A7 c8 a1.winds_, rd intE 1 A10 c11 a1.coal_] (ri nRef06_truthI (y_2.2.2 ++ l100) (z_2.1 ++ r94))) S117 (Al.riApp (Pur.of (S113.atP (i := 5) rfl)) (Al.up n104 S93.keep.size (List.forall_mem_cons.2 ⟨(Al.self (i := 0) rfl), (List.forall_mem_cons.2 ⟨(Al.self (i := 1) rfl), (List.forall_mem_cons.2 ⟨(New.al (New.rd (S91.newX (i := 1) rfl))), (List.forall_mem_cons.2 ⟨(New.al (New.rd (S92.newX (i := 0) rfl))), (fun _ h_ => (List.not_mem_nil h_).elim)⟩)⟩)⟩)⟩)))
              have S119 := S118.pk [1, 2, 3] (by decide) [1, 0, 8, 9, 10, 11] rfl rfl
              exact ⟨(z_2.1 ++ r94, wr (z_2.2 + 1)), (A114, c115, y_2.2.2 ++ l100), _, rfl, ⟨rfl, rfl, rfl, rfl, rfl, rfl, trivial⟩, H, S119⟩
          · replace H := condF c53 H
            refine c_skip ?_
            refine reg ?_
            refine p_mI rfl ?_
            refine p_add rfl rfl ?_
            refine p_aI rfl ?_
            refine wp_nil ?_
            exact ⟨(z_2.1, wr (z_2.2 + 1)), (y_2.1, y_2.2.1, y_2.2.2), _, rfl, ⟨rfl, rfl, rfl, rfl, rfl, rfl, trivial⟩, H, S52⟩
      · replace H := condF c37 H
        refine c_exit ?_
        refine c_seq ?_
        refine reg ?_
        refine p_mS rfl ?_
        refine p_aS rfl ?_
        refine wp_nil ?_
        obtain rfl := Option.some.inj H
        refine c_ret ?_; show bodyPostM (Fr none) 0 Tryd.prog Tryd.f100 _ .ret _ _
        refine ret_of (res1 rfl (rvT (rfl : _ = SL y_2.1 y_2.2.2.length y_2.2.1))) ?_
        exact ⟨_, rfl, y_2.1, y_2.2.1, y_2.2.2, rfl, S36.keep, ⟨(gr_rd nRef06_truth_len (S36.atX (i := 0) rfl)), (New.rd (S36.newX (i := 0) rfl))⟩, ⟨(S36.atP (i := 0) rfl), (Pur.of (S36.atP (i := 1) rfl))⟩, trivial⟩

def ref_truths_l77 (a0 : CoalBook) (z_2 : (List Ref06_truth) × Int) (z_3 : (List Ref06_truth) × Int) (z_1 : (List Ref06_truth) × Int) (rec_z_3 : ((List Ref06_truth) × Int) → Option (List Ref06_truth)) (rec_z_4 : ((List Ref06_truth) × Int) → Option (List Ref06_truth)) (z_4 : (List Ref06_truth) × Int) : Option (List Ref06_truth) :=
  bif decide (z_4.2 ≤ a0.Collier.High) then ((ref_gone big a0 (Ref06_truth.mk [z_2.2, z_3.2] z_4.2 ([] : List Int) ([] : List Int)) z_1.2).bind fun r37 =>
  bif r37.isEmpty then (rec_z_4 (z_4.1, wr (z_4.2 + 1)))
  else (need (fitsL (z_4.1.length + r37.length) 72) <|
  rec_z_4 (z_4.1 ++ r37, wr (z_4.2 + 1))))
  else (rec_z_3 (z_4.1, wr (z_3.2 + 1)))

def ref_truths_l78 (a0 : CoalBook) (z_2 : (List Ref06_truth) × Int) (z_1 : (List Ref06_truth) × Int) (rec_z_2 : ((List Ref06_truth) × Int) → Option (List Ref06_truth)) (rec_z_3 : ((List Ref06_truth) × Int) → Option (List Ref06_truth)) (z_3 : (List Ref06_truth) × Int) : Option (List Ref06_truth) :=
  bif decide (z_3.2 ≤ ((agetS a0.Eats (1 : Int)).High)) then (loopF (ref_truths_l77 a0 z_2 z_3 z_1 rec_z_3) big (z_3.1, a0.Collier.Low))
  else (rec_z_2 (z_3.1, wr (z_2.2 + 1)))

def ref_truths_l79 (a0 : CoalBook) (z_1 : (List Ref06_truth) × Int) (rec_z_1 : ((List Ref06_truth) × Int) → Option (List Ref06_truth)) (rec_z_2 : ((List Ref06_truth) × Int) → Option (List Ref06_truth)) (z_2 : (List Ref06_truth) × Int) : Option (List Ref06_truth) :=
  bif decide (z_2.2 ≤ ((agetS a0.Eats (0 : Int)).High)) then (loopF (ref_truths_l78 a0 z_2 z_1 rec_z_2) big (z_2.1, (agetS a0.Eats (1 : Int)).Low))
  else (rec_z_1 (z_2.1, wr (z_1.2 + 1)))

def ref_truths_l80 (a0 : CoalBook) (rec_z_1 : ((List Ref06_truth) × Int) → Option (List Ref06_truth)) (z_1 : (List Ref06_truth) × Int) : Option (List Ref06_truth) :=
  bif decide (z_1.2 ≤ a0.Heap.High) then (loopF (ref_truths_l79 a0 z_1 rec_z_1) big (z_1.1, (agetS a0.Eats (0 : Int)).Low))
  else (some z_1.1)

def ref_truths (a0 : CoalBook) : Option (List Ref06_truth) :=
  loopF (ref_truths_l80 a0) big (([] : List Ref06_truth), a0.Heap.Low)

set_option maxRecDepth 100000 in
theorem ref_truths_ok {a0 : CoalBook} {A1 : Option Addr} {c2 : Nat} {A4 : Option Addr} {c5 : Nat} {w : World} {r : (List Ref06_truth)} (H : ref_truths a0 = some r) (h3 : (rd eCoalDay 3 A1 c2 a0.Days).ok w) (h6 : (rd eCoalDip 3 A4 c5 a0.Dips).ok w) : Calls Tryd.prog 85 #[AG ([I a0.Heap.Low, I a0.Heap.High] ++ (sgE eSpan a0.Eats 2 ++ (sg a0.Extra 3 ++ [SL A1 a0.Days.length c2, I a0.Collier.Low, I a0.Collier.High, I a0.Brings, SL A4 a0.Dips.length c5])))] w fun en w_ => ∃ u_, en = .returned u_ ∧ ∃ A_1 : Option Addr, ∃ c_2 : Nat, ∃ l_3 : List (Ref06_truth × (Option Addr) × Nat × (Option Addr) × Nat), u_ = SL A_1 l_3.length c_2 ∧ Keep0 w w_ ∧ ((rd nRef06_truth 5 A_1 c_2 l_3).ok w_ ∧ New w.heap.size (rd nRef06_truth 5 A_1 c_2 l_3)) ∧ ((ri nRef06_truthI l_3 r).ok w_ ∧ Al w [rd eCoalDay 3 A1 c2 a0.Days, rd eCoalDip 3 A4 c5 a0.Dips] (ri nRef06_truthI l_3 r)) ∧ True := by
  unfold ref_truths at H
  refine fn_of (n := 63) Tryd.func85 rfl rfl (Nat.le_of_ble_eq_true rfl) ?_
  have S : St w (fun _ => False) w [] [rd eCoalDay 3 A1 c2 a0.Days, rd eCoalDip 3 A4 c5 a0.Dips] := St.start w _ _ (List.forall_mem_cons.2 ⟨h3, (List.forall_mem_cons.2 ⟨h6, (fun _ h_ => (List.not_mem_nil h_).elim)⟩)⟩)
  refine c_seq ?_
  refine reg ?_
  refine p_boxA rfl S fun b7 w8 S9 => ?_
  refine p_aS rfl ?_
  refine wp_nil ?_
  refine c_seq ?_
  refine reg ?_
  refine p_aS rfl ?_
  refine wp_nil ?_
  refine c_seq ?_
  refine c_seq ?_
  refine reg ?_
  refine p_fld fl29_0 rfl ?_
  refine p_fld fl23_0 rfl ?_
  refine p_ld ty3 (S9.atX (i := 0) rfl) rfl rfl ?_
  refine p_aI rfl ?_
  refine wp_nil ?_
  refine c_block ?_
  have S10 := S9.nilRow nRef06_truth 5 119
  have S11 := S10.riNil nRef06_truthI
  have S12 := St.addPur (φ := Al w [rd eCoalDay 3 A1 c2 a0.Days, rd eCoalDip 3 A4 c5 a0.Dips] (ri nRef06_truthI ([] : List (Ref06_truth × (Option Addr) × Nat × (Option Addr) × Nat)) ([] : List Ref06_truth))) S11 Al.riNil
  have S13 := S12.pk [0, 1] (by decide) [1, 0, 2, 3] rfl rfl
  refine c_lop (α := (List Ref06_truth) × Int) (β := (Option Addr) × Nat × (List (Ref06_truth × (Option Addr) × Nat × (Option Addr) × Nat))) (ref_truths_l80 a0) (fun z_1 y_1 => [(1, P b7 0), (3, SL y_1.1 y_1.2.2.length y_1.2.1), (4, I z_1.2)]) (fun z_1 y_1 w_ => St w (fun _ => False) w_ [gr nRef06_truth 5 119 y_1.1 y_1.2.1 y_1.2.2, bl b7 ([I a0.Heap.Low, I a0.Heap.High] ++ (sgE eSpan a0.Eats 2 ++ (sg a0.Extra 3 ++ [SL A1 a0.Days.length c2, I a0.Collier.Low, I a0.Collier.High, I a0.Brings, SL A4 a0.Dips.length c5]))) 29] [ri nRef06_truthI y_1.2.2 z_1.1, pur (Al w [rd eCoalDay 3 A1 c2 a0.Days, rd eCoalDip 3 A4 c5 a0.Dips] (ri nRef06_truthI y_1.2.2 z_1.1)), rd eCoalDay 3 A1 c2 a0.Days, rd eCoalDip 3 A4 c5 a0.Dips]) (([] : List Ref06_truth), a0.Heap.Low) (none, 0, ([] : List (Ref06_truth × (Option Addr) × Nat × (Option Addr) × Nat))) H ⟨rfl, rfl, rfl, trivial⟩ S13 ?_
  intro m14 z_1 y_1 e15 w16 H S17
  unfold ref_truths_l80 at H
  refine c_seq ?_
  refine c_seq ?_
  refine reg ?_
  refine p_mI rfl ?_
  refine p_fld fl29_0 rfl ?_
  refine p_fld fl23_1 rfl ?_
  refine p_ld ty3 (S17.atX (i := 1) rfl) rfl rfl ?_
  refine p_cmp rfl rfl rfl ?_
  refine wp_nil ?_
  refine c_cond rfl (fun c18 => ?_) (fun c18 => ?_)
  · replace H := condT c18 H
    refine c_skip ?_
    refine c_seq ?_
    refine c_block ?_
    refine c_seq ?_
    refine reg ?_
    refine p_fld fl29_1 rfl ?_
    refine p_ixc ar24 rfl rfl (by decide) (by decide) ?_
    refine p_fld fl23_0 rfl ?_
    refine p_ld ty3 (S17.atX (i := 1) rfl) rfl rfl ?_
    refine p_aI rfl ?_
    refine wp_nil ?_
    refine c_block ?_
    have S19 := S17.pk [0, 1] (by decide) [0, 1, 0, 1, 2, 3] rfl rfl
    refine c_lop (α := (List Ref06_truth) × Int) (β := (Option Addr) × Nat × (List (Ref06_truth × (Option Addr) × Nat × (Option Addr) × Nat))) (ref_truths_l79 a0 z_1 (loopF (ref_truths_l80 a0) m14)) (fun z_2 y_2 => [(1, P b7 0), (3, SL y_2.1 y_2.2.2.length y_2.2.1), (4, I z_1.2), (5, I z_2.2)]) (fun z_2 y_2 w_ => St w (fun _ => False) w_ [gr nRef06_truth 5 119 y_2.1 y_2.2.1 y_2.2.2, bl b7 ([I a0.Heap.Low, I a0.Heap.High] ++ (sgE eSpan a0.Eats 2 ++ (sg a0.Extra 3 ++ [SL A1 a0.Days.length c2, I a0.Collier.Low, I a0.Collier.High, I a0.Brings, SL A4 a0.Dips.length c5]))) 29] [ri nRef06_truthI y_2.2.2 z_2.1, pur (Al w [rd eCoalDay 3 A1 c2 a0.Days, rd eCoalDip 3 A4 c5 a0.Dips] (ri nRef06_truthI y_2.2.2 z_2.1)), ri nRef06_truthI y_1.2.2 z_1.1, pur (Al w [rd eCoalDay 3 A1 c2 a0.Days, rd eCoalDip 3 A4 c5 a0.Dips] (ri nRef06_truthI y_1.2.2 z_1.1)), rd eCoalDay 3 A1 c2 a0.Days, rd eCoalDip 3 A4 c5 a0.Dips]) (z_1.1, (agetS a0.Eats (0 : Int)).Low) (y_1.1, y_1.2.1, y_1.2.2) H ⟨rfl, rfl, rfl, rfl, trivial⟩ S19 ?_
    intro m20 z_2 y_2 e21 w22 H S23
    unfold ref_truths_l79 at H
    refine c_seq ?_
    refine c_seq ?_
    refine reg ?_
    refine p_mI rfl ?_
    refine p_fld fl29_1 rfl ?_
    refine p_ixc ar24 rfl rfl (by decide) (by decide) ?_
    refine p_fld fl23_1 rfl ?_
    refine p_ld ty3 (S23.atX (i := 1) rfl) rfl rfl ?_
    refine p_cmp rfl rfl rfl ?_
    refine wp_nil ?_
    refine c_cond rfl (fun c24 => ?_) (fun c24 => ?_)
    · replace H := condT c24 H
      refine c_skip ?_
      refine c_seq ?_
      refine c_block ?_
      refine c_seq ?_
      refine reg ?_
      refine p_fld fl29_1 rfl ?_
      refine p_ixc ar24 rfl rfl (by decide) (by decide) ?_
      refine p_fld fl23_0 rfl ?_
      refine p_ld ty3 (S23.atX (i := 1) rfl) rfl rfl ?_
      refine p_aI rfl ?_
      refine wp_nil ?_
      refine c_block ?_
      have S25 := S23.pk [0, 1] (by decide) [0, 1, 0, 1, 2, 3, 4, 5] rfl rfl
      refine c_lop (α := (List Ref06_truth) × Int) (β := (Option Addr) × Nat × (List (Ref06_truth × (Option Addr) × Nat × (Option Addr) × Nat))) (ref_truths_l78 a0 z_2 z_1 (loopF (ref_truths_l79 a0 z_1 (loopF (ref_truths_l80 a0) m14)) m20)) (fun z_3 y_3 => [(1, P b7 0), (3, SL y_3.1 y_3.2.2.length y_3.2.1), (4, I z_1.2), (5, I z_2.2), (6, I z_3.2)]) (fun z_3 y_3 w_ => St w (fun _ => False) w_ [gr nRef06_truth 5 119 y_3.1 y_3.2.1 y_3.2.2, bl b7 ([I a0.Heap.Low, I a0.Heap.High] ++ (sgE eSpan a0.Eats 2 ++ (sg a0.Extra 3 ++ [SL A1 a0.Days.length c2, I a0.Collier.Low, I a0.Collier.High, I a0.Brings, SL A4 a0.Dips.length c5]))) 29] [ri nRef06_truthI y_3.2.2 z_3.1, pur (Al w [rd eCoalDay 3 A1 c2 a0.Days, rd eCoalDip 3 A4 c5 a0.Dips] (ri nRef06_truthI y_3.2.2 z_3.1)), ri nRef06_truthI y_2.2.2 z_2.1, pur (Al w [rd eCoalDay 3 A1 c2 a0.Days, rd eCoalDip 3 A4 c5 a0.Dips] (ri nRef06_truthI y_2.2.2 z_2.1)), ri nRef06_truthI y_1.2.2 z_1.1, pur (Al w [rd eCoalDay 3 A1 c2 a0.Days, rd eCoalDip 3 A4 c5 a0.Dips] (ri nRef06_truthI y_1.2.2 z_1.1)), rd eCoalDay 3 A1 c2 a0.Days, rd eCoalDip 3 A4 c5 a0.Dips]) (z_2.1, (agetS a0.Eats (1 : Int)).Low) (y_2.1, y_2.2.1, y_2.2.2) H ⟨rfl, rfl, rfl, rfl, rfl, trivial⟩ S25 ?_
      intro m26 z_3 y_3 e27 w28 H S29
      unfold ref_truths_l78 at H
      refine c_seq ?_
      refine c_seq ?_
      refine reg ?_
      refine p_mI rfl ?_
      refine p_fld fl29_1 rfl ?_
      refine p_ixc ar24 rfl rfl (by decide) (by decide) ?_
      refine p_fld fl23_1 rfl ?_
      refine p_ld ty3 (S29.atX (i := 1) rfl) rfl rfl ?_
      refine p_cmp rfl rfl rfl ?_
      refine wp_nil ?_
      refine c_cond rfl (fun c30 => ?_) (fun c30 => ?_)
      · replace H := condT c30 H
        refine c_skip ?_
        refine c_seq ?_
        refine c_block ?_
        refine c_seq ?_
        refine reg ?_
        refine p_fld fl29_4 rfl ?_
        refine p_fld fl23_0 rfl ?_
        refine p_ld ty3 (S29.atX (i := 1) rfl) rfl rfl ?_
        refine p_aI rfl ?_
        refine wp_nil ?_
        refine c_block ?_
        have S31 := S29.pk [0, 1] (by decide) [0, 1, 0, 1, 2, 3, 4, 5, 6, 7] rfl rfl
        refine c_lop (α := (List Ref06_truth) × Int) (β := (Option Addr) × Nat × (List (Ref06_truth × (Option Addr) × Nat × (Option Addr) × Nat))) (ref_truths_l77 a0 z_2 z_3 z_1 (loopF (ref_truths_l78 a0 z_2 z_1 (loopF (ref_truths_l79 a0 z_1 (loopF (ref_truths_l80 a0) m14)) m20)) m26)) (fun z_4 y_4 => [(1, P b7 0), (3, SL y_4.1 y_4.2.2.length y_4.2.1), (4, I z_1.2), (5, I z_2.2), (6, I z_3.2), (7, I z_4.2)]) (fun z_4 y_4 w_ => St w (fun _ => False) w_ [gr nRef06_truth 5 119 y_4.1 y_4.2.1 y_4.2.2, bl b7 ([I a0.Heap.Low, I a0.Heap.High] ++ (sgE eSpan a0.Eats 2 ++ (sg a0.Extra 3 ++ [SL A1 a0.Days.length c2, I a0.Collier.Low, I a0.Collier.High, I a0.Brings, SL A4 a0.Dips.length c5]))) 29] [ri nRef06_truthI y_4.2.2 z_4.1, pur (Al w [rd eCoalDay 3 A1 c2 a0.Days, rd eCoalDip 3 A4 c5 a0.Dips] (ri nRef06_truthI y_4.2.2 z_4.1)), ri nRef06_truthI y_3.2.2 z_3.1, pur (Al w [rd eCoalDay 3 A1 c2 a0.Days, rd eCoalDip 3 A4 c5 a0.Dips] (ri nRef06_truthI y_3.2.2 z_3.1)), ri nRef06_truthI y_2.2.2 z_2.1, pur (Al w [rd eCoalDay 3 A1 c2 a0.Days, rd eCoalDip 3 A4 c5 a0.Dips] (ri nRef06_truthI y_2.2.2 z_2.1)), ri nRef06_truthI y_1.2.2 z_1.1, pur (Al w [rd eCoalDay 3 A1 c2 a0.Days, rd eCoalDip 3 A4 c5 a0.Dips] (ri nRef06_truthI y_1.2.2 z_1.1)), rd eCoalDay 3 A1 c2 a0.Days, rd eCoalDip 3 A4 c5 a0.Dips]) (z_3.1, a0.Collier.Low) (y_3.1, y_3.2.1, y_3.2.2) H ⟨rfl, rfl, rfl, rfl, rfl, rfl, trivial⟩ S31 ?_
        intro m32 z_4 y_4 e33 w34 H S35
        unfold ref_truths_l77 at H
        refine c_seq ?_
        refine c_seq ?_
        refine reg ?_
        refine p_mI rfl ?_
        refine p_fld fl29_4 rfl ?_
        refine p_fld fl23_1 rfl ?_
        refine p_ld ty3 (S35.atX (i := 1) rfl) rfl rfl ?_
        refine p_cmp rfl rfl rfl ?_
        refine wp_nil ?_
        refine c_cond rfl (fun c36 => ?_) (fun c36 => ?_)
        · replace H := condT c36 H
          refine c_skip ?_
          refine c_seq ?_
          refine c_block ?_
          refine reg ?_
          refine p_mS rfl ?_
          refine p_ldA ty29 sz29 (S35.atX (i := 1) rfl) rfl rfl ?_
          refine p_mI rfl ?_
          refine p_mI rfl ?_
          refine p_bldA (z := [I 0, I 0]) (cs := [I z_2.2, I z_3.2]) ba30 (rfl : _ = [(0, I z_2.2), (1, I z_3.2)]) (by kernel_rfl) ?_
          refine p_mI rfl ?_
          refine p_bld (cs := [I z_2.2, I z_3.2, I z_4.2, SL none 0 0, SL none 0 0]) st119 (rfl : _ = [(0, AG [I z_2.2, I z_3.2]), (1, I z_4.2)]) (by kernel_rfl) ?_
          refine p_mI rfl ?_
          obtain ⟨r37, h38, H⟩ := bindS H
          refine p_cal (ref_gone_ok h38 (S35.atP (i := 8) rfl) (S35.atP (i := 9) rfl) (rd_nil (Nat.zero_le _)) (rd_nil (Nat.zero_le _))) fu100 rfl ?_
          rintro _ w39 ⟨A41, c42, l43, rfl, k40, ⟨o44, n45⟩, ⟨o46, n47⟩, _⟩
          have S48 := S35.callN k40 [rd nRef06_truth 5 A41 c42 l43, ri nRef06_truthI l43 r37] (List.forall_mem_cons.2 ⟨⟨o44, New.inL n45⟩, (List.forall_mem_cons.2 ⟨⟨o46, Al.inL n47 ((List.forall_mem_cons.2 ⟨(fp_mem (i := 8) rfl), (List.forall_mem_cons.2 ⟨(fp_mem (i := 9) rfl), (List.forall_mem_cons.2 ⟨fp_nil, (List.forall_mem_cons.2 ⟨fp_nil, (fun _ h_ => (List.not_mem_nil h_).elim)⟩)⟩)⟩)⟩))⟩, (fun _ h_ => (List.not_mem_nil h_).elim)⟩)⟩)
          rcases Bool.eq_false_or_eq_true (r37.isEmpty) with c49 | c49
          · replace H := condT c49 H
            refine p_app0 sc112 in119 (gr_rd nRef06_truth_len (S48.atX (i := 0) rfl)).2.1 (ri_emp (S48.atP (i := 1) rfl) c49) rfl rfl ?_
            refine p_aS rfl ?_
            refine wp_nil ?_
            refine reg ?_
            refine p_mI rfl ?_
            refine p_add rfl rfl ?_
            refine p_aI rfl ?_
            refine wp_nil ?_
            have S54 := S48.pk [0, 1] (by decide) [2, 3, 4, 5, 6, 7, 8, 9, 10, 11] rfl rfl
            exact ⟨(z_4.1, wr (z_4.2 + 1)), (y_4.1, y_4.2.1, y_4.2.2), _, rfl, ⟨rfl, rfl, rfl, rfl, rfl, rfl, trivial⟩, H, S54⟩
          · replace H := condF c49 H
            obtain ⟨h59, H⟩ := needS H
            refine p_app (enc := nRef06_truth) sc112 in119 rfl nRef06_truth_len nRef06_truth_one (by decide) S48 (k := 0) rfl (S48.atP (i := 0) rfl).1 (fits_ri h59 (congr (congrArg HAdd.hAdd (ri_len (S48.atP (i := 2) rfl))) (ri_len (S48.atP (i := 1) rfl)))) (ne_of_some (ri_emp (S48.atP (i := 1) rfl) c49)) rfl rfl fun A57 c58 w55 S56 => ?_
            have S60 := S56.riApp (i := 2) (j := 1) rfl rfl
            refine p_aS rfl ?_
            refine wp_nil ?_
            refine reg ?_
            refine p_mI rfl ?_
            refine p_add rfl rfl ?_
            refine p_aI rfl ?_
            refine wp_nil ?_
            have S61 := St.addPur (φ := Al w [rd eCoalDay 3 A1 c2 a0.Days, rd eCoalDip 3 A4 c5 a0.Dips] (ri nRef06_truthI (y_4.2.2 ++ l43) (z_4.1 ++ r37))) S60 (Al.riApp (Pur.of (S56.atP (i := 3) rfl)) (Al.up n47 S35.keep.size (List.forall_mem_cons.2 ⟨(Al.self (i := 0) rfl), (List.forall_mem_cons.2 ⟨(Al.self (i := 1) rfl), (List.forall_mem_cons.2 ⟨Al.nil, (List.forall_mem_cons.2 ⟨Al.nil, (fun _ h_ => (List.not_mem_nil h_).elim)⟩)⟩)⟩)⟩)))
            have S62 := S61.pk [0, 1] (by decide) [1, 0, 6, 7, 8, 9, 10, 11, 12, 13] rfl rfl
            exact ⟨(z_4.1 ++ r37, wr (z_4.2 + 1)), (A57, c58, y_4.2.2 ++ l43), _, rfl, ⟨rfl, rfl, rfl, rfl, rfl, rfl, trivial⟩, H, S62⟩
        · replace H := condF c36 H
          refine c_exit ?_
          refine reg ?_
          refine p_mI rfl ?_
          refine p_add rfl rfl ?_
          refine p_aI rfl ?_
          refine wp_nil ?_
          have S63 := S35.pk [0, 1] (by decide) [0, 1, 4, 5, 6, 7, 8, 9] rfl rfl
          exact ⟨(z_4.1, wr (z_3.2 + 1)), (y_4.1, y_4.2.1, y_4.2.2), _, rfl, ⟨rfl, rfl, rfl, rfl, rfl, trivial⟩, H, S63⟩
      · replace H := condF c30 H
        refine c_exit ?_
        refine reg ?_
        refine p_mI rfl ?_
        refine p_add rfl rfl ?_
        refine p_aI rfl ?_
        refine wp_nil ?_
        have S64 := S29.pk [0, 1] (by decide) [0, 1, 4, 5, 6, 7] rfl rfl
        exact ⟨(z_3.1, wr (z_2.2 + 1)), (y_3.1, y_3.2.1, y_3.2.2), _, rfl, ⟨rfl, rfl, rfl, rfl, trivial⟩, H, S64⟩
    · replace H := condF c24 H
      refine c_exit ?_
      refine reg ?_
      refine p_mI rfl ?_
      refine p_add rfl rfl ?_
      refine p_aI rfl ?_
      refine wp_nil ?_
      have S65 := S23.pk [0, 1] (by decide) [0, 1, 4, 5] rfl rfl
      exact ⟨(z_2.1, wr (z_1.2 + 1)), (y_2.1, y_2.2.1, y_2.2.2), _, rfl, ⟨rfl, rfl, rfl, trivial⟩, H, S65⟩
  · replace H := condF c18 H
    refine c_exit ?_
    refine c_seq ?_
    refine reg ?_
    refine p_mS rfl ?_
    refine p_aS rfl ?_
    refine wp_nil ?_
    obtain rfl := Option.some.inj H
    refine c_ret ?_; show bodyPostM (Fr none) 0 Tryd.prog Tryd.f85 _ .ret _ _
    refine ret_of (res1 rfl (rvT (rfl : _ = SL y_1.1 y_1.2.2.length y_1.2.1))) ?_
    exact ⟨_, rfl, y_1.1, y_1.2.1, y_1.2.2, rfl, S17.keep, ⟨(gr_rd nRef06_truth_len (S17.atX (i := 0) rfl)), (New.rd (S17.newX (i := 0) rfl))⟩, ⟨(S17.atP (i := 0) rfl), (Pur.of (S17.atP (i := 1) rfl))⟩, trivial⟩

def B_Range (a0 : Int) (a1 : Int) : Option Span :=
  some (Span.mk a0 a1)

set_option maxRecDepth 100000 in
theorem B_Range_ok {a0 : Int} {a1 : Int} {w : World} {r : Span} (H : B_Range a0 a1 = some r) : Calls Tryd.prog 44 #[I a0, I a1] w (RetV w (AG [I r.Low, I r.High])) := by
  unfold B_Range at H
  refine fn_of (n := 8) Tryd.func44 rfl rfl (Nat.le_of_ble_eq_true rfl) ?_
  have S : St w (fun _ => False) w [] [] := St.start w _ _ (fun _ h_ => (List.not_mem_nil h_).elim)
  refine c_seq ?_
  refine reg ?_
  refine p_allA in23 S fun b1 w2 S3 => ?_
  refine wp_nil ?_
  refine c_seq ?_
  refine reg ?_
  refine p_mI rfl ?_
  refine p_mI rfl ?_
  refine p_bld (cs := [I a0, I a1]) st23 (rfl : _ = [(0, I a0), (1, I a1)]) (by kernel_rfl) ?_
  refine p_stP (pre := []) (old := [I 0, I 0]) (post := []) (vs := [I a0, I a1]) sz23 S3 (i := 0) rfl rfl rfl rfl (rfl : _ = AG [I a0, I a1]) rfl rfl rfl rfl fun w4 S5 => ?_
  refine wp_nil ?_
  obtain rfl := Option.some.inj H
  refine c_ret ?_; show bodyPostM (Fr none) 0 Tryd.prog Tryd.f44 _ .ret _ _
  refine ret_of (res1 rfl (rvA rfl ty23 sz23 (S5.atX (i := 0) rfl) rfl)) ?_
  exact ⟨_, rfl, rfl, S5.keep⟩

def B_Point (a0 : Int) : Option Span :=
  (B_Range a0 a0).bind fun r4 =>
  some r4

set_option maxRecDepth 100000 in
theorem B_Point_ok {a0 : Int} {w : World} {r : Span} (H : B_Point a0 = some r) : Calls Tryd.prog 38 #[I a0] w (RetV w (AG [I r.Low, I r.High])) := by
  unfold B_Point at H
  refine fn_of (n := 6) Tryd.func38 rfl rfl (Nat.le_of_ble_eq_true rfl) ?_
  have S : St w (fun _ => False) w [] [] := St.start w _ _ (fun _ h_ => (List.not_mem_nil h_).elim)
  refine c_seq ?_
  refine reg ?_
  refine p_allA in23 S fun b1 w2 S3 => ?_
  refine wp_nil ?_
  refine c_seq ?_
  refine reg ?_
  refine p_mI rfl ?_
  refine p_mI rfl ?_
  obtain ⟨r4, h5, H⟩ := bindS H
  refine p_cv (B_Range_ok h5) fu44 rfl S3 fun w6 S7 => ?_
  refine p_stP (pre := []) (old := [I 0, I 0]) (post := []) (vs := [I r4.Low, I r4.High]) sz23 S7 (i := 0) rfl rfl rfl rfl (rfl : _ = AG [I r4.Low, I r4.High]) rfl rfl rfl rfl fun w8 S9 => ?_
  refine wp_nil ?_
  obtain rfl := Option.some.inj H
  refine c_ret ?_; show bodyPostM (Fr none) 0 Tryd.prog Tryd.f38 _ .ret _ _
  refine ret_of (res1 rfl (rvA rfl ty23 sz23 (S9.atX (i := 0) rfl) rfl)) ?_
  exact ⟨_, rfl, rfl, S9.keep⟩

def B_KeptDays_l1 (a0 : List CoalDay) (a1 : List CoalDay) (rec_z_1 : (Bool × Int) → Option Bool) (z_1 : Bool × Int) : Option Bool :=
  bif z_1.1 then (bif decide (z_1.2 < (a0.length : Int)) then ((getI a0 z_1.2).bind fun r13 =>
  (getI a1 z_1.2).bind fun r15 =>
  rec_z_1 (((r13.Crosses == r15.Crosses) && (r13.Engines == r15.Engines) && (r13.Winds == r15.Winds)), wr (z_1.2 + 1)))
  else (some z_1.1))
  else (some z_1.1)

def B_KeptDays (a0 : List CoalDay) (a1 : List CoalDay) : Option Bool :=
  loopF (B_KeptDays_l1 a0 a1) big (((a0.length : Int) == (a1.length : Int)), 0)

set_option maxRecDepth 100000 in
theorem B_KeptDays_ok {a0 : List CoalDay} {a1 : List CoalDay} {A1 : Option Addr} {c2 : Nat} {A4 : Option Addr} {c5 : Nat} {w : World} {r : Bool} (H : B_KeptDays a0 a1 = some r) (h3 : (rd eCoalDay 3 A1 c2 a0).ok w) (h6 : (rd eCoalDay 3 A4 c5 a1).ok w) : Calls Tryd.prog 61 #[SL A1 a0.length c2, SL A4 a1.length c5] w (RetV w (B r)) := by
  unfold B_KeptDays at H
  refine fn_of (n := 31) Tryd.func61 rfl rfl (Nat.le_of_ble_eq_true rfl) ?_
  have S : St w (fun _ => False) w [] [rd eCoalDay 3 A1 c2 a0, rd eCoalDay 3 A4 c5 a1] := St.start w _ _ (List.forall_mem_cons.2 ⟨h3, (List.forall_mem_cons.2 ⟨h6, (fun _ h_ => (List.not_mem_nil h_).elim)⟩)⟩)
  refine c_seq ?_
  refine reg ?_
  refine p_aB rfl ?_
  refine wp_nil ?_
  refine c_seq ?_
  refine reg ?_
  refine p_mS rfl ?_
  refine p_len rfl sc26 ?_
  refine p_mS rfl ?_
  refine p_len rfl sc26 ?_
  refine p_cmp rfl rfl rfl ?_
  refine p_aB rfl ?_
  refine wp_nil ?_
  refine c_seq ?_
  refine c_seq ?_
  refine reg ?_
  refine p_aI rfl ?_
  refine wp_nil ?_
  refine c_block ?_
  refine c_lop (α := Bool × Int) (β := Unit) (B_KeptDays_l1 a0 a1) (fun z_1 y_1 => [(0, SL A1 a0.length c2), (1, SL A4 a1.length c5), (5, B z_1.1), (6, I z_1.2)]) (fun z_1 y_1 w_ => St w (fun _ => False) w_ [] [rd eCoalDay 3 A1 c2 a0, rd eCoalDay 3 A4 c5 a1]) (((a0.length : Int) == (a1.length : Int)), 0) () H ⟨rfl, rfl, rfl, rfl, trivial⟩ S ?_
  intro m7 z_1 y_1 e8 w9 H S10
  unfold B_KeptDays_l1 at H
  refine c_seq ?_
  refine c_seq ?_
  refine reg ?_
  refine p_mB rfl ?_
  refine p_mB rfl ?_
  rcases Bool.eq_false_or_eq_true (z_1.1) with c11 | c11
  · replace H := condT c11 H
    refine eB c11 ?_
    refine gT rfl rfl (p_mI rfl ?_)
    refine gT rfl rfl (p_mS rfl ?_)
    refine gT rfl rfl (p_len rfl sc26 ?_)
    refine gT rfl rfl (p_cmp rfl rfl rfl ?_)
    refine p_pkT rfl (rfl : _ = B (decide (z_1.2 < (a0.length : Int)))) ?_
    refine wp_nil ?_
    refine c_cond rfl (fun c12 => ?_) (fun c12 => ?_)
    · replace H := condT c12 H
      refine c_skip ?_
      refine c_seq ?_
      refine c_block ?_
      obtain ⟨r13, h14, H⟩ := bindS H
      obtain ⟨r15, h16, H⟩ := bindS H
      refine reg_q mixed 10 (by kernel_rfl) ?_
      refine dS (fun _ k_ => p_mS rfl dn) ?_
      refine dS (fun _ k_ => p_mI rfl dn) ?_
      refine dS (fun _ k_ => p_ixE sc26 h14 (Asr.stays (S10.atP (i := 0) rfl) k_).1 rfl rfl rfl dn) ?_
      refine dS (fun _ k_ => p_ldEA ty64 sz64 rfl h14 (Asr.stays (S10.atP (i := 0) rfl) k_).1 rfl dn) ?_
      refine dS (fun _ k_ => p_mS rfl dn) ?_
      refine dS (fun _ k_ => p_mI rfl dn) ?_
      refine dS (fun _ k_ => p_ixE sc26 h16 (Asr.stays (S10.atP (i := 1) rfl) k_).1 rfl rfl rfl dn) ?_
      refine dS (fun _ k_ => p_ldEA ty64 sz64 rfl h16 (Asr.stays (S10.atP (i := 1) rfl) k_).1 rfl dn) ?_
      refine dS (fun _ k_ => o_eqA (xs := [I r13.Crosses, I r13.Engines, I r13.Winds]) (ys := [I r15.Crosses, I r15.Engines, I r15.Winds]) (T := ((r13.Crosses == r15.Crosses) && (r13.Engines == r15.Engines) && (r13.Winds == r15.Winds))) rfl rfl eq64 ⟨⟨_, rfl⟩, ⟨⟨_, rfl⟩, ⟨⟨_, rfl⟩, trivial⟩⟩⟩ ⟨⟨_, rfl⟩, ⟨⟨_, rfl⟩, ⟨⟨_, rfl⟩, trivial⟩⟩⟩ (by simp [Bool.and_eq_true, and_assoc]) dn) ?_
      refine dS (fun _ k_ => p_aB rfl dn) ?_
      intro w17 k18; have S19 := S10.call k18
      refine wp_nil ?_
      refine reg ?_
      refine p_mI rfl ?_
      refine p_add rfl rfl ?_
      refine p_aI rfl ?_
      refine wp_nil ?_
      exact ⟨(((r13.Crosses == r15.Crosses) && (r13.Engines == r15.Engines) && (r13.Winds == r15.Winds)), wr (z_1.2 + 1)), (), _, rfl, ⟨rfl, rfl, rfl, rfl, trivial⟩, H, S19⟩
    · replace H := condF c12 H
      refine c_exit ?_
      refine c_seq ?_
      refine reg ?_
      refine p_mB rfl ?_
      refine p_aB rfl ?_
      refine wp_nil ?_
      obtain rfl := Option.some.inj H
      refine c_ret ?_; show bodyPostM (Fr none) 0 Tryd.prog Tryd.f61 _ .ret _ _
      refine ret_of (res1 rfl (rvT (rfl : _ = B z_1.1))) ?_
      exact ⟨_, rfl, rfl, S10.keep⟩
  · replace H := condF c11 H
    refine eB c11 ?_
    refine gF rfl rfl ?_
    refine gF rfl rfl ?_
    refine gF rfl rfl ?_
    refine gF rfl rfl ?_
    refine p_pkF rfl (rfl : _ = B false) ?_
    refine wp_nil ?_
    refine c_false rfl ?_
    refine c_exit ?_
    refine c_seq ?_
    refine reg ?_
    refine p_mB rfl ?_
    refine p_aB rfl ?_
    refine wp_nil ?_
    obtain rfl := Option.some.inj H
    refine c_ret ?_; show bodyPostM (Fr none) 0 Tryd.prog Tryd.f61 _ .ret _ _
    refine ret_of (res1 rfl (rvT (rfl : _ = B z_1.1))) ?_
    exact ⟨_, rfl, rfl, S10.keep⟩

def B_KeptDips_l1 (a0 : List CoalDip) (a1 : List CoalDip) (rec_z_1 : (Bool × Int) → Option Bool) (z_1 : Bool × Int) : Option Bool :=
  bif z_1.1 then (bif decide (z_1.2 < (a0.length : Int)) then ((getI a0 z_1.2).bind fun r13 =>
  (getI a1 z_1.2).bind fun r15 =>
  rec_z_1 (((r13.Day == r15.Day) && (r13.Read == r15.Read) && (r13.Error == r15.Error)), wr (z_1.2 + 1)))
  else (some z_1.1))
  else (some z_1.1)

def B_KeptDips (a0 : List CoalDip) (a1 : List CoalDip) : Option Bool :=
  loopF (B_KeptDips_l1 a0 a1) big (((a0.length : Int) == (a1.length : Int)), 0)

set_option maxRecDepth 100000 in
theorem B_KeptDips_ok {a0 : List CoalDip} {a1 : List CoalDip} {A1 : Option Addr} {c2 : Nat} {A4 : Option Addr} {c5 : Nat} {w : World} {r : Bool} (H : B_KeptDips a0 a1 = some r) (h3 : (rd eCoalDip 3 A1 c2 a0).ok w) (h6 : (rd eCoalDip 3 A4 c5 a1).ok w) : Calls Tryd.prog 62 #[SL A1 a0.length c2, SL A4 a1.length c5] w (RetV w (B r)) := by
  unfold B_KeptDips at H
  refine fn_of (n := 31) Tryd.func62 rfl rfl (Nat.le_of_ble_eq_true rfl) ?_
  have S : St w (fun _ => False) w [] [rd eCoalDip 3 A1 c2 a0, rd eCoalDip 3 A4 c5 a1] := St.start w _ _ (List.forall_mem_cons.2 ⟨h3, (List.forall_mem_cons.2 ⟨h6, (fun _ h_ => (List.not_mem_nil h_).elim)⟩)⟩)
  refine c_seq ?_
  refine reg ?_
  refine p_aB rfl ?_
  refine wp_nil ?_
  refine c_seq ?_
  refine reg ?_
  refine p_mS rfl ?_
  refine p_len rfl sc27 ?_
  refine p_mS rfl ?_
  refine p_len rfl sc27 ?_
  refine p_cmp rfl rfl rfl ?_
  refine p_aB rfl ?_
  refine wp_nil ?_
  refine c_seq ?_
  refine c_seq ?_
  refine reg ?_
  refine p_aI rfl ?_
  refine wp_nil ?_
  refine c_block ?_
  refine c_lop (α := Bool × Int) (β := Unit) (B_KeptDips_l1 a0 a1) (fun z_1 y_1 => [(0, SL A1 a0.length c2), (1, SL A4 a1.length c5), (5, B z_1.1), (6, I z_1.2)]) (fun z_1 y_1 w_ => St w (fun _ => False) w_ [] [rd eCoalDip 3 A1 c2 a0, rd eCoalDip 3 A4 c5 a1]) (((a0.length : Int) == (a1.length : Int)), 0) () H ⟨rfl, rfl, rfl, rfl, trivial⟩ S ?_
  intro m7 z_1 y_1 e8 w9 H S10
  unfold B_KeptDips_l1 at H
  refine c_seq ?_
  refine c_seq ?_
  refine reg ?_
  refine p_mB rfl ?_
  refine p_mB rfl ?_
  rcases Bool.eq_false_or_eq_true (z_1.1) with c11 | c11
  · replace H := condT c11 H
    refine eB c11 ?_
    refine gT rfl rfl (p_mI rfl ?_)
    refine gT rfl rfl (p_mS rfl ?_)
    refine gT rfl rfl (p_len rfl sc27 ?_)
    refine gT rfl rfl (p_cmp rfl rfl rfl ?_)
    refine p_pkT rfl (rfl : _ = B (decide (z_1.2 < (a0.length : Int)))) ?_
    refine wp_nil ?_
    refine c_cond rfl (fun c12 => ?_) (fun c12 => ?_)
    · replace H := condT c12 H
      refine c_skip ?_
      refine c_seq ?_
      refine c_block ?_
      obtain ⟨r13, h14, H⟩ := bindS H
      obtain ⟨r15, h16, H⟩ := bindS H
      refine reg_q mixed 10 (by kernel_rfl) ?_
      refine dS (fun _ k_ => p_mS rfl dn) ?_
      refine dS (fun _ k_ => p_mI rfl dn) ?_
      refine dS (fun _ k_ => p_ixE sc27 h14 (Asr.stays (S10.atP (i := 0) rfl) k_).1 rfl rfl rfl dn) ?_
      refine dS (fun _ k_ => p_ldEA ty67 sz67 rfl h14 (Asr.stays (S10.atP (i := 0) rfl) k_).1 rfl dn) ?_
      refine dS (fun _ k_ => p_mS rfl dn) ?_
      refine dS (fun _ k_ => p_mI rfl dn) ?_
      refine dS (fun _ k_ => p_ixE sc27 h16 (Asr.stays (S10.atP (i := 1) rfl) k_).1 rfl rfl rfl dn) ?_
      refine dS (fun _ k_ => p_ldEA ty67 sz67 rfl h16 (Asr.stays (S10.atP (i := 1) rfl) k_).1 rfl dn) ?_
      refine dS (fun _ k_ => o_eqA (xs := [I r13.Day, I r13.Read, I r13.Error]) (ys := [I r15.Day, I r15.Read, I r15.Error]) (T := ((r13.Day == r15.Day) && (r13.Read == r15.Read) && (r13.Error == r15.Error))) rfl rfl eq67 ⟨⟨_, rfl⟩, ⟨⟨_, rfl⟩, ⟨⟨_, rfl⟩, trivial⟩⟩⟩ ⟨⟨_, rfl⟩, ⟨⟨_, rfl⟩, ⟨⟨_, rfl⟩, trivial⟩⟩⟩ (by simp [Bool.and_eq_true, and_assoc]) dn) ?_
      refine dS (fun _ k_ => p_aB rfl dn) ?_
      intro w17 k18; have S19 := S10.call k18
      refine wp_nil ?_
      refine reg ?_
      refine p_mI rfl ?_
      refine p_add rfl rfl ?_
      refine p_aI rfl ?_
      refine wp_nil ?_
      exact ⟨(((r13.Day == r15.Day) && (r13.Read == r15.Read) && (r13.Error == r15.Error)), wr (z_1.2 + 1)), (), _, rfl, ⟨rfl, rfl, rfl, rfl, trivial⟩, H, S19⟩
    · replace H := condF c12 H
      refine c_exit ?_
      refine c_seq ?_
      refine reg ?_
      refine p_mB rfl ?_
      refine p_aB rfl ?_
      refine wp_nil ?_
      obtain rfl := Option.some.inj H
      refine c_ret ?_; show bodyPostM (Fr none) 0 Tryd.prog Tryd.f62 _ .ret _ _
      refine ret_of (res1 rfl (rvT (rfl : _ = B z_1.1))) ?_
      exact ⟨_, rfl, rfl, S10.keep⟩
  · replace H := condF c11 H
    refine eB c11 ?_
    refine gF rfl rfl ?_
    refine gF rfl rfl ?_
    refine gF rfl rfl ?_
    refine gF rfl rfl ?_
    refine p_pkF rfl (rfl : _ = B false) ?_
    refine wp_nil ?_
    refine c_false rfl ?_
    refine c_exit ?_
    refine c_seq ?_
    refine reg ?_
    refine p_mB rfl ?_
    refine p_aB rfl ?_
    refine wp_nil ?_
    obtain rfl := Option.some.inj H
    refine c_ret ?_; show bodyPostM (Fr none) 0 Tryd.prog Tryd.f62 _ .ret _ _
    refine ret_of (res1 rfl (rvT (rfl : _ = B z_1.1))) ?_
    exact ⟨_, rfl, rfl, S10.keep⟩

def B_KeptCoal (a0 : CoalBook) (a1 : CoalBook) : Option Bool :=
  bif ((a0.Heap.Low == a1.Heap.Low) && (a0.Heap.High == a1.Heap.High)) then (bif ((((agetS a0.Eats (0 : Int)).Low) == ((agetS a1.Eats (0 : Int)).Low)) && (((agetS a0.Eats (0 : Int)).High) == ((agetS a1.Eats (0 : Int)).High)) && (((agetS a0.Eats (1 : Int)).Low) == ((agetS a1.Eats (1 : Int)).Low)) && (((agetS a0.Eats (1 : Int)).High) == ((agetS a1.Eats (1 : Int)).High))) then (bif decide (sgl a0.Extra 3 = sgl a1.Extra 3) then ((B_KeptDays a0.Days a1.Days).bind fun r22 =>
  bif r22 then (bif ((a0.Collier.Low == a1.Collier.Low) && (a0.Collier.High == a1.Collier.High)) then (bif (a0.Brings == a1.Brings) then ((B_KeptDips a0.Dips a1.Dips).bind fun r29 =>
  some r29)
  else (some false))
  else (some false))
  else (some false))
  else (some false))
  else (some false))
  else (some false)

set_option maxRecDepth 100000 in
theorem B_KeptCoal_ok {a0 : CoalBook} {a1 : CoalBook} {A1 : Option Addr} {c2 : Nat} {A4 : Option Addr} {c5 : Nat} {A7 : Option Addr} {c8 : Nat} {A10 : Option Addr} {c11 : Nat} {w : World} {r : Bool} (H : B_KeptCoal a0 a1 = some r) (h3 : (rd eCoalDay 3 A1 c2 a0.Days).ok w) (h6 : (rd eCoalDip 3 A4 c5 a0.Dips).ok w) (h9 : (rd eCoalDay 3 A7 c8 a1.Days).ok w) (h12 : (rd eCoalDip 3 A10 c11 a1.Dips).ok w) : Calls Tryd.prog 18 #[AG ([I a0.Heap.Low, I a0.Heap.High] ++ (sgE eSpan a0.Eats 2 ++ (sg a0.Extra 3 ++ [SL A1 a0.Days.length c2, I a0.Collier.Low, I a0.Collier.High, I a0.Brings, SL A4 a0.Dips.length c5]))), AG ([I a1.Heap.Low, I a1.Heap.High] ++ (sgE eSpan a1.Eats 2 ++ (sg a1.Extra 3 ++ [SL A7 a1.Days.length c8, I a1.Collier.Low, I a1.Collier.High, I a1.Brings, SL A10 a1.Dips.length c11])))] w (RetV w (B r)) := by
  unfold B_KeptCoal at H
  refine fn_of (n := 52) Tryd.func18 rfl rfl (Nat.le_of_ble_eq_true rfl) ?_
  have S : St w (fun _ => False) w [] [rd eCoalDay 3 A1 c2 a0.Days, rd eCoalDip 3 A4 c5 a0.Dips, rd eCoalDay 3 A7 c8 a1.Days, rd eCoalDip 3 A10 c11 a1.Dips] := St.start w _ _ (List.forall_mem_cons.2 ⟨h3, (List.forall_mem_cons.2 ⟨h6, (List.forall_mem_cons.2 ⟨h9, (List.forall_mem_cons.2 ⟨h12, (fun _ h_ => (List.not_mem_nil h_).elim)⟩)⟩)⟩)⟩)
  refine c_seq ?_
  refine reg ?_
  refine p_boxA rfl S fun b13 w14 S15 => ?_
  refine p_boxA rfl S15 fun b16 w17 S18 => ?_
  refine p_aB rfl ?_
  refine wp_nil ?_
  refine c_seq ?_
  refine reg ?_
  refine p_fld fl29_0 rfl ?_
  refine p_ldP (vs := [I a0.Heap.Low, I a0.Heap.High]) ty23 sz23 (S18.atX (i := 1) rfl) rfl rfl rfl ?_
  refine p_fld fl29_0 rfl ?_
  refine p_ldP (vs := [I a1.Heap.Low, I a1.Heap.High]) ty23 sz23 (S18.atX (i := 0) rfl) rfl rfl rfl ?_
  refine o_eqA (xs := [I a0.Heap.Low, I a0.Heap.High]) (ys := [I a1.Heap.Low, I a1.Heap.High]) (T := ((a0.Heap.Low == a1.Heap.Low) && (a0.Heap.High == a1.Heap.High))) rfl rfl eq23 ⟨⟨_, rfl⟩, ⟨⟨_, rfl⟩, trivial⟩⟩ ⟨⟨_, rfl⟩, ⟨⟨_, rfl⟩, trivial⟩⟩ (by simp [Bool.and_eq_true, and_assoc]) ?_
  refine p_mB rfl ?_
  rcases Bool.eq_false_or_eq_true (((a0.Heap.Low == a1.Heap.Low) && (a0.Heap.High == a1.Heap.High))) with c19 | c19
  · replace H := condT c19 H
    refine eB c19 ?_
    refine gT rfl rfl (p_fld fl29_1 rfl ?_)
    refine gT rfl rfl (p_ldP (vs := sgE eSpan a0.Eats 2) ty24 sz24 (S18.atX (i := 1) rfl) rfl rfl rfl ?_)
    refine gT rfl rfl (p_fld fl29_1 rfl ?_)
    refine gT rfl rfl (p_ldP (vs := sgE eSpan a1.Eats 2) ty24 sz24 (S18.atX (i := 0) rfl) rfl rfl rfl ?_)
    refine gT rfl rfl (o_eqA (xs := [I ((agetS a0.Eats (0 : Int)).Low), I ((agetS a0.Eats (0 : Int)).High), I ((agetS a0.Eats (1 : Int)).Low), I ((agetS a0.Eats (1 : Int)).High)]) (ys := [I ((agetS a1.Eats (0 : Int)).Low), I ((agetS a1.Eats (0 : Int)).High), I ((agetS a1.Eats (1 : Int)).Low), I ((agetS a1.Eats (1 : Int)).High)]) (T := ((((agetS a0.Eats (0 : Int)).Low) == ((agetS a1.Eats (0 : Int)).Low)) && (((agetS a0.Eats (0 : Int)).High) == ((agetS a1.Eats (0 : Int)).High)) && (((agetS a0.Eats (1 : Int)).Low) == ((agetS a1.Eats (1 : Int)).Low)) && (((agetS a0.Eats (1 : Int)).High) == ((agetS a1.Eats (1 : Int)).High)))) rfl rfl eq24 ⟨⟨_, rfl⟩, ⟨⟨_, rfl⟩, ⟨⟨_, rfl⟩, ⟨⟨_, rfl⟩, trivial⟩⟩⟩⟩ ⟨⟨_, rfl⟩, ⟨⟨_, rfl⟩, ⟨⟨_, rfl⟩, ⟨⟨_, rfl⟩, trivial⟩⟩⟩⟩ (by simp [Bool.and_eq_true, and_assoc]) ?_)
    refine p_pkT rfl (rfl : _ = B ((((agetS a0.Eats (0 : Int)).Low) == ((agetS a1.Eats (0 : Int)).Low)) && (((agetS a0.Eats (0 : Int)).High) == ((agetS a1.Eats (0 : Int)).High)) && (((agetS a0.Eats (1 : Int)).Low) == ((agetS a1.Eats (1 : Int)).Low)) && (((agetS a0.Eats (1 : Int)).High) == ((agetS a1.Eats (1 : Int)).High)))) ?_
    refine p_mB rfl ?_
    rcases Bool.eq_false_or_eq_true (((((agetS a0.Eats (0 : Int)).Low) == ((agetS a1.Eats (0 : Int)).Low)) && (((agetS a0.Eats (0 : Int)).High) == ((agetS a1.Eats (0 : Int)).High)) && (((agetS a0.Eats (1 : Int)).Low) == ((agetS a1.Eats (1 : Int)).Low)) && (((agetS a0.Eats (1 : Int)).High) == ((agetS a1.Eats (1 : Int)).High)))) with c20 | c20
    · replace H := condT c20 H
      refine eB c20 ?_
      refine gT rfl rfl (p_fld fl29_2 rfl ?_)
      refine gT rfl rfl (p_ldP (vs := sg a0.Extra 3) ty25 sz25 (S18.atX (i := 1) rfl) rfl rfl rfl ?_)
      refine gT rfl rfl (p_fld fl29_2 rfl ?_)
      refine gT rfl rfl (p_ldP (vs := sg a1.Extra 3) ty25 sz25 (S18.atX (i := 0) rfl) rfl rfl rfl ?_)
      refine gT rfl rfl (p_eqS (m := 3) eq25 rfl rfl ?_)
      refine p_pkT rfl (rfl : _ = B (decide (sgl a0.Extra 3 = sgl a1.Extra 3))) ?_
      refine p_mB rfl ?_
      rcases Bool.eq_false_or_eq_true (decide (sgl a0.Extra 3 = sgl a1.Extra 3)) with c21 | c21
      · replace H := condT c21 H
        refine eB c21 ?_
        refine gT rfl rfl (p_fld fl29_3 rfl ?_)
        refine gT rfl rfl (p_ld ty26 (S18.atX (i := 1) rfl) rfl rfl ?_)
        refine gT rfl rfl (p_fld fl29_3 rfl ?_)
        refine gT rfl rfl (p_ld ty26 (S18.atX (i := 0) rfl) rfl rfl ?_)
        obtain ⟨r22, h23, H⟩ := bindS H
        refine gT rfl rfl (p_cv (B_KeptDays_ok h23 (S18.atP (i := 0) rfl) (S18.atP (i := 2) rfl)) fu61 rfl S18 fun w24 S25 => ?_)
        refine p_pkT rfl (rfl : _ = B r22) ?_
        refine p_mB rfl ?_
        rcases Bool.eq_false_or_eq_true (r22) with c26 | c26
        · replace H := condT c26 H
          refine eB c26 ?_
          refine gT rfl rfl (p_fld fl29_4 rfl ?_)
          refine gT rfl rfl (p_ldP (vs := [I a0.Collier.Low, I a0.Collier.High]) ty23 sz23 (S25.atX (i := 1) rfl) rfl rfl rfl ?_)
          refine gT rfl rfl (p_fld fl29_4 rfl ?_)
          refine gT rfl rfl (p_ldP (vs := [I a1.Collier.Low, I a1.Collier.High]) ty23 sz23 (S25.atX (i := 0) rfl) rfl rfl rfl ?_)
          refine gT rfl rfl (o_eqA (xs := [I a0.Collier.Low, I a0.Collier.High]) (ys := [I a1.Collier.Low, I a1.Collier.High]) (T := ((a0.Collier.Low == a1.Collier.Low) && (a0.Collier.High == a1.Collier.High))) rfl rfl eq23 ⟨⟨_, rfl⟩, ⟨⟨_, rfl⟩, trivial⟩⟩ ⟨⟨_, rfl⟩, ⟨⟨_, rfl⟩, trivial⟩⟩ (by simp [Bool.and_eq_true, and_assoc]) ?_)
          refine p_pkT rfl (rfl : _ = B ((a0.Collier.Low == a1.Collier.Low) && (a0.Collier.High == a1.Collier.High))) ?_
          refine p_mB rfl ?_
          rcases Bool.eq_false_or_eq_true (((a0.Collier.Low == a1.Collier.Low) && (a0.Collier.High == a1.Collier.High))) with c27 | c27
          · replace H := condT c27 H
            refine eB c27 ?_
            refine gT rfl rfl (p_fld fl29_5 rfl ?_)
            refine gT rfl rfl (p_ld ty3 (S25.atX (i := 1) rfl) rfl rfl ?_)
            refine gT rfl rfl (p_fld fl29_5 rfl ?_)
            refine gT rfl rfl (p_ld ty3 (S25.atX (i := 0) rfl) rfl rfl ?_)
            refine gT rfl rfl (p_cmp rfl rfl rfl ?_)
            refine p_pkT rfl (rfl : _ = B (a0.Brings == a1.Brings)) ?_
            refine p_mB rfl ?_
            rcases Bool.eq_false_or_eq_true ((a0.Brings == a1.Brings)) with c28 | c28
            · replace H := condT c28 H
              refine eB c28 ?_
              refine gT rfl rfl (p_fld fl29_6 rfl ?_)
              refine gT rfl rfl (p_ld ty27 (S25.atX (i := 1) rfl) rfl rfl ?_)
              refine gT rfl rfl (p_fld fl29_6 rfl ?_)
              refine gT rfl rfl (p_ld ty27 (S25.atX (i := 0) rfl) rfl rfl ?_)
              obtain ⟨r29, h30, H⟩ := bindS H
              refine gT rfl rfl (p_cv (B_KeptDips_ok h30 (S25.atP (i := 1) rfl) (S25.atP (i := 3) rfl)) fu62 rfl S25 fun w31 S32 => ?_)
              refine p_pkT rfl (rfl : _ = B r29) ?_
              refine p_aB rfl ?_
              refine wp_nil ?_
              obtain rfl := Option.some.inj H
              refine c_ret ?_; show bodyPostM (Fr none) 0 Tryd.prog Tryd.f18 _ .ret _ _
              refine ret_of (res1 rfl (rvT (rfl : _ = B r29))) ?_
              exact ⟨_, rfl, rfl, S32.keep⟩
            · replace H := condF c28 H
              refine eB c28 ?_
              refine gF rfl rfl ?_
              refine gF rfl rfl ?_
              refine gF rfl rfl ?_
              refine gF rfl rfl ?_
              refine gF rfl rfl ?_
              refine p_pkF rfl (rfl : _ = B false) ?_
              refine p_aB rfl ?_
              refine wp_nil ?_
              obtain rfl := Option.some.inj H
              refine c_ret ?_; show bodyPostM (Fr none) 0 Tryd.prog Tryd.f18 _ .ret _ _
              refine ret_of (res1 rfl (rvT (rfl : _ = B false))) ?_
              exact ⟨_, rfl, rfl, S25.keep⟩
          · replace H := condF c27 H
            refine eB c27 ?_
            refine gF rfl rfl ?_
            refine gF rfl rfl ?_
            refine gF rfl rfl ?_
            refine gF rfl rfl ?_
            refine gF rfl rfl ?_
            refine p_pkF rfl (rfl : _ = B false) ?_
            refine p_mB rfl ?_
            refine gF rfl rfl ?_
            refine gF rfl rfl ?_
            refine gF rfl rfl ?_
            refine gF rfl rfl ?_
            refine gF rfl rfl ?_
            refine p_pkF rfl (rfl : _ = B false) ?_
            refine p_aB rfl ?_
            refine wp_nil ?_
            obtain rfl := Option.some.inj H
            refine c_ret ?_; show bodyPostM (Fr none) 0 Tryd.prog Tryd.f18 _ .ret _ _
            refine ret_of (res1 rfl (rvT (rfl : _ = B false))) ?_
            exact ⟨_, rfl, rfl, S25.keep⟩
        · replace H := condF c26 H
          refine eB c26 ?_
          refine gF rfl rfl ?_
          refine gF rfl rfl ?_
          refine gF rfl rfl ?_
          refine gF rfl rfl ?_
          refine gF rfl rfl ?_
          refine p_pkF rfl (rfl : _ = B false) ?_
          refine p_mB rfl ?_
          refine gF rfl rfl ?_
          refine gF rfl rfl ?_
          refine gF rfl rfl ?_
          refine gF rfl rfl ?_
          refine gF rfl rfl ?_
          refine p_pkF rfl (rfl : _ = B false) ?_
          refine p_mB rfl ?_
          refine gF rfl rfl ?_
          refine gF rfl rfl ?_
          refine gF rfl rfl ?_
          refine gF rfl rfl ?_
          refine gF rfl rfl ?_
          refine p_pkF rfl (rfl : _ = B false) ?_
          refine p_aB rfl ?_
          refine wp_nil ?_
          obtain rfl := Option.some.inj H
          refine c_ret ?_; show bodyPostM (Fr none) 0 Tryd.prog Tryd.f18 _ .ret _ _
          refine ret_of (res1 rfl (rvT (rfl : _ = B false))) ?_
          exact ⟨_, rfl, rfl, S25.keep⟩
      · replace H := condF c21 H
        refine eB c21 ?_
        refine gF rfl rfl ?_
        refine gF rfl rfl ?_
        refine gF rfl rfl ?_
        refine gF rfl rfl ?_
        refine gF rfl rfl ?_
        refine p_pkF rfl (rfl : _ = B false) ?_
        refine p_mB rfl ?_
        refine gF rfl rfl ?_
        refine gF rfl rfl ?_
        refine gF rfl rfl ?_
        refine gF rfl rfl ?_
        refine gF rfl rfl ?_
        refine p_pkF rfl (rfl : _ = B false) ?_
        refine p_mB rfl ?_
        refine gF rfl rfl ?_
        refine gF rfl rfl ?_
        refine gF rfl rfl ?_
        refine gF rfl rfl ?_
        refine gF rfl rfl ?_
        refine p_pkF rfl (rfl : _ = B false) ?_
        refine p_mB rfl ?_
        refine gF rfl rfl ?_
        refine gF rfl rfl ?_
        refine gF rfl rfl ?_
        refine gF rfl rfl ?_
        refine gF rfl rfl ?_
        refine p_pkF rfl (rfl : _ = B false) ?_
        refine p_aB rfl ?_
        refine wp_nil ?_
        obtain rfl := Option.some.inj H
        refine c_ret ?_; show bodyPostM (Fr none) 0 Tryd.prog Tryd.f18 _ .ret _ _
        refine ret_of (res1 rfl (rvT (rfl : _ = B false))) ?_
        exact ⟨_, rfl, rfl, S18.keep⟩
    · replace H := condF c20 H
      refine eB c20 ?_
      refine gF rfl rfl ?_
      refine gF rfl rfl ?_
      refine gF rfl rfl ?_
      refine gF rfl rfl ?_
      refine gF rfl rfl ?_
      refine p_pkF rfl (rfl : _ = B false) ?_
      refine p_mB rfl ?_
      refine gF rfl rfl ?_
      refine gF rfl rfl ?_
      refine gF rfl rfl ?_
      refine gF rfl rfl ?_
      refine gF rfl rfl ?_
      refine p_pkF rfl (rfl : _ = B false) ?_
      refine p_mB rfl ?_
      refine gF rfl rfl ?_
      refine gF rfl rfl ?_
      refine gF rfl rfl ?_
      refine gF rfl rfl ?_
      refine gF rfl rfl ?_
      refine p_pkF rfl (rfl : _ = B false) ?_
      refine p_mB rfl ?_
      refine gF rfl rfl ?_
      refine gF rfl rfl ?_
      refine gF rfl rfl ?_
      refine gF rfl rfl ?_
      refine gF rfl rfl ?_
      refine p_pkF rfl (rfl : _ = B false) ?_
      refine p_mB rfl ?_
      refine gF rfl rfl ?_
      refine gF rfl rfl ?_
      refine gF rfl rfl ?_
      refine gF rfl rfl ?_
      refine gF rfl rfl ?_
      refine p_pkF rfl (rfl : _ = B false) ?_
      refine p_aB rfl ?_
      refine wp_nil ?_
      obtain rfl := Option.some.inj H
      refine c_ret ?_; show bodyPostM (Fr none) 0 Tryd.prog Tryd.f18 _ .ret _ _
      refine ret_of (res1 rfl (rvT (rfl : _ = B false))) ?_
      exact ⟨_, rfl, rfl, S18.keep⟩
  · replace H := condF c19 H
    refine eB c19 ?_
    refine gF rfl rfl ?_
    refine gF rfl rfl ?_
    refine gF rfl rfl ?_
    refine gF rfl rfl ?_
    refine gF rfl rfl ?_
    refine p_pkF rfl (rfl : _ = B false) ?_
    refine p_mB rfl ?_
    refine gF rfl rfl ?_
    refine gF rfl rfl ?_
    refine gF rfl rfl ?_
    refine gF rfl rfl ?_
    refine gF rfl rfl ?_
    refine p_pkF rfl (rfl : _ = B false) ?_
    refine p_mB rfl ?_
    refine gF rfl rfl ?_
    refine gF rfl rfl ?_
    refine gF rfl rfl ?_
    refine gF rfl rfl ?_
    refine gF rfl rfl ?_
    refine p_pkF rfl (rfl : _ = B false) ?_
    refine p_mB rfl ?_
    refine gF rfl rfl ?_
    refine gF rfl rfl ?_
    refine gF rfl rfl ?_
    refine gF rfl rfl ?_
    refine gF rfl rfl ?_
    refine p_pkF rfl (rfl : _ = B false) ?_
    refine p_mB rfl ?_
    refine gF rfl rfl ?_
    refine gF rfl rfl ?_
    refine gF rfl rfl ?_
    refine gF rfl rfl ?_
    refine gF rfl rfl ?_
    refine p_pkF rfl (rfl : _ = B false) ?_
    refine p_mB rfl ?_
    refine gF rfl rfl ?_
    refine gF rfl rfl ?_
    refine gF rfl rfl ?_
    refine gF rfl rfl ?_
    refine gF rfl rfl ?_
    refine p_pkF rfl (rfl : _ = B false) ?_
    refine p_aB rfl ?_
    refine wp_nil ?_
    obtain rfl := Option.some.inj H
    refine c_ret ?_; show bodyPostM (Fr none) 0 Tryd.prog Tryd.f18 _ .ret _ _
    refine ret_of (res1 rfl (rvT (rfl : _ = B false))) ?_
    exact ⟨_, rfl, rfl, S18.keep⟩

def coal_Wrong_1_l3 (q0 : CoalBook) (a0 : List Int) (rec_ : (List Int) → Int → Option ((List Int) × Bool)) (a1 : Int) (rec_z_2 : Int → Option ((List Int) × Bool)) (z_2 : Int) : Option ((List Int) × Bool) :=
  bif decide (z_2 < (q0.Dips.length : Int)) then (need (fitsL (a0.length + ([z_2] : List Int).length) 8) <|
  (rec_ (a0 ++ ([z_2] : List Int)) a1).bind fun r64 =>
  bif r64.2 then (some (r64.1, true))
  else (rec_z_2 (wr (z_2 + 1))))
  else (some (([] : List _), false))

def coal_Wrong_1_j4 (q0 : CoalBook) (a0 : List Int) (rec_ : (List Int) → Int → Option ((List Int) × Bool)) (a1 : Int) (z_1 : Int) : Option ((List Int) × Bool) :=
  loopF (coal_Wrong_1_l3 q0 a0 rec_ a1) big z_1

end Go.Proofs.YticodohfokgjfaaDoor

/- What the law's function computes, and that it does, printed by a program of mine. -/
import Derived.Test.YticodohfokgjfaaDoorZWAll
import Derived.KernelRfl
set_option linter.unusedVariables false
set_option linter.unusedSimpArgs false
namespace Go.Proofs.YticodohfokgjfaaDoor
open Go Go.Fx Go.Proofs
def law_CoalEnds_l3 (r47 : Span × Int) (r31 : Int) (a0 : CoalBook) (r33 : Int) (r29 : Int) (r56 : Int × Int) (rec_z_2 : Int → Option Bool) (z_2 : Int) : Option Bool :=
  bif decide (z_2 < 2) then ((getI [r47.1.Low, r47.1.High] z_2).bind fun r255 =>
  (B_Point r255).bind fun r257 =>
  need (inI r31 2) <|
  (coal_Right (CoalBook.mk a0.Heap (asetS a0.Eats 2 r31 r257) a0.Extra a0.Days a0.Collier a0.Brings a0.Dips)).bind fun r264 =>
  bif (r264.2 != 0) then (some false)
  else (bif !r264.1 then (some false)
  else (rec_z_2 (wr (z_2 + 1)))))
  else (bif a0.Days.isEmpty then (need (decide (0 ≤ r33)) <|
  (getI ([] : List CoalDay) r29).bind fun r289 =>
  (coal_Right (CoalBook.mk a0.Heap a0.Eats a0.Extra (([] : List CoalDay).set r29.toNat (CoalDay.mk r289.Crosses r289.Engines (shlI 1 r33))) a0.Collier a0.Brings a0.Dips)).bind fun r299 =>
  bif (r299.2 == 0) then ((getI a0.Days r29).bind fun r304 =>
  (B_Member r304.Winds r33).bind fun r306 =>
  bif !r306 then ((law_stoked).bind fun r311 =>
  some r311)
  else ((B_Member r56.1 r33).bind fun r315 =>
  bif (r299.1 == r315) then ((law_stoked).bind fun r320 =>
  some r320)
  else (some false)))
  else (some false))
  else (need (fitsL (([] : List CoalDay).length + a0.Days.length) 24) <|
  need (decide (0 ≤ r33)) <|
  (getI a0.Days r29).bind fun r332 =>
  (coal_Right (CoalBook.mk a0.Heap a0.Eats a0.Extra (a0.Days.set r29.toNat (CoalDay.mk r332.Crosses r332.Engines (shlI 1 r33))) a0.Collier a0.Brings a0.Dips)).bind fun r343 =>
  bif (r343.2 == 0) then ((getI a0.Days r29).bind fun r348 =>
  (B_Member r348.Winds r33).bind fun r350 =>
  bif !r350 then ((law_stoked).bind fun r355 =>
  some r355)
  else ((B_Member r56.1 r33).bind fun r359 =>
  bif (r343.1 == r359) then ((law_stoked).bind fun r364 =>
  some r364)
  else (some false)))
  else (some false)))

def law_CoalEnds_l4 (r38 : Span × Int) (r121 : Int) (a0 : CoalBook) (r29 : Int) (r47 : Span × Int) (r31 : Int) (r33 : Int) (r56 : Int × Int) (rec_z_1 : Int → Option Bool) (z_1 : Int) : Option Bool :=
  bif decide (z_1 < ([r38.1.Low, r38.1.High, wr (r38.1.Low - 1), wr (r38.1.High + 1), r121].length : Int)) then ((getI [r38.1.Low, r38.1.High, wr (r38.1.Low - 1), wr (r38.1.High + 1), r121] z_1).bind fun r137 =>
  (B_Inside r137 0 800).bind fun r139 =>
  bif !r139 then (rec_z_1 (wr (z_1 + 1)))
  else ((getI [r38.1.Low, r38.1.High, wr (r38.1.Low - 1), wr (r38.1.High + 1), r121] z_1).bind fun r146 =>
  (law_with a0 (CoalDip.mk r29 r146 0)).bind fun r153 =>
  (coal_Right (CoalBook.mk r153.Heap r153.Eats r153.Extra a0.Days r153.Collier r153.Brings r153.Dips)).bind fun r166 =>
  bif (r166.2 != 0) then (some false)
  else (bif decide (z_1 < 2) then (bif !r166.1 then (some false)
  else (bif r166.1 then ((getI [r38.1.Low, r38.1.High, wr (r38.1.Low - 1), wr (r38.1.High + 1), r121] z_1).bind fun r216 =>
  (B_Contains r38.1 r216).bind fun r218 =>
  bif !r218 then (some false)
  else (rec_z_1 (wr (z_1 + 1))))
  else (rec_z_1 (wr (z_1 + 1)))))
  else (bif r166.1 then ((getI [r38.1.Low, r38.1.High, wr (r38.1.Low - 1), wr (r38.1.High + 1), r121] z_1).bind fun r228 =>
  (B_Contains r38.1 r228).bind fun r230 =>
  bif !r230 then (some false)
  else (rec_z_1 (wr (z_1 + 1))))
  else (rec_z_1 (wr (z_1 + 1)))))))
  else (loopF (law_CoalEnds_l3 r47 r31 a0 r33 r29 r56) big 0)

def law_CoalEnds (a0 : CoalBook) (a1 : List Int) : Option Bool :=
  (law_sound a0).bind fun r15 =>
  bif !r15 then ((law_stoked).bind fun r20 =>
  some r20)
  else (bif ((a0.Dips.length : Int) == 4) then ((law_stoked).bind fun r25 =>
  some r25)
  else ((B_Mod (aget a1 0) (a0.Days.length : Int)).bind fun r29 =>
  (B_Mod (aget a1 1) 2).bind fun r31 =>
  (B_Mod (aget a1 2) 3).bind fun r33 =>
  (coal_Heap a0 r29).bind fun r38 =>
  (coal_Eats a0 r31).bind fun r47 =>
  (coal_Wind a0 r29).bind fun r56 =>
  bif (r38.2 != 0) then (bif (r38.2 == 62) then (bif (r47.2 == r38.2) then (bif (r56.2 == r38.2) then ((B_Point 0).bind fun r64 =>
  bif ((r38.1.Low == r64.Low) && (r38.1.High == r64.High)) then (bif ((r47.1.Low == r38.1.Low) && (r47.1.High == r38.1.High)) then (bif (r56.1 == 0) then ((law_stoked).bind fun r69 =>
  some r69)
  else (some false))
  else (some false))
  else (some false))
  else (some false))
  else (some false))
  else (some false))
  else (bif (r47.2 != 0) then (some false)
  else (bif (r56.2 != 0) then (some false)
  else (bif decide (r38.1.Low > r38.1.High) then (some false)
  else (need (inI r31 2) <|
  (B_Covers (agetS a0.Eats r31) r47.1).bind fun r105 =>
  bif !r105 then (some false)
  else (bif decide (r47.1.Low > r47.1.High) then (some false)
  else ((getI a0.Days r29).bind fun r115 =>
  bif ((andNotI r56.1 r115.Winds) != 0) then (some false)
  else ((B_Mod (aget a1 3) 801).bind fun r121 =>
  loopF (law_CoalEnds_l4 r38 r121 a0 r29 r47 r31 r33 r56) big 0)))))))))

set_option maxRecDepth 100000 in
theorem law_CoalEnds_ok {a0 : CoalBook} {a1 : List Int} {A1 : Option Addr} {c2 : Nat} {A4 : Option Addr} {c5 : Nat} {w : World} {r : Bool} (H : law_CoalEnds a0 a1 = some r) (h3 : (rd eCoalDay 3 A1 c2 a0.Days).ok w) (h6 : (rd eCoalDip 3 A4 c5 a0.Dips).ok w) (hg7 : (bl 0 [Value.func (.func 128) #[] #[], Value.func (.func 129) #[] #[]] 110).ok w) (hg8 : (bl 1 [I (-1), I (-1)] 123).ok w) : Calls Tryd.prog 7 #[AG ([I a0.Heap.Low, I a0.Heap.High] ++ (sgE eSpan a0.Eats 2 ++ (sg a0.Extra 3 ++ [SL A1 a0.Days.length c2, I a0.Collier.Low, I a0.Collier.High, I a0.Brings, SL A4 a0.Dips.length c5]))), AG (sg a1 4)] w (RetV w (B r)) := by
  unfold law_CoalEnds at H
  refine fn_of (n := 265) Tryd.func7 rfl rfl (Nat.le_of_ble_eq_true rfl) ?_
  have S : St w (fun _ => False) w [] [rd eCoalDay 3 A1 c2 a0.Days, rd eCoalDip 3 A4 c5 a0.Dips, bl 0 [Value.func (.func 128) #[] #[], Value.func (.func 129) #[] #[]] 110, bl 1 [I (-1), I (-1)] 123] := St.start w _ _ (List.forall_mem_cons.2 ⟨h3, (List.forall_mem_cons.2 ⟨h6, (List.forall_mem_cons.2 ⟨hg7, (List.forall_mem_cons.2 ⟨hg8, (fun _ h_ => (List.not_mem_nil h_).elim)⟩)⟩)⟩)⟩)
  refine c_seq ?_
  refine reg ?_
  refine p_boxA rfl S fun b9 w10 S11 => ?_
  refine p_boxA rfl S11 fun b12 w13 S14 => ?_
  refine p_aB rfl ?_
  refine wp_nil ?_
  refine c_seq ?_
  refine c_seq ?_
  refine reg ?_
  refine p_ldA ty29 sz29 (S14.atX (i := 1) rfl) rfl rfl ?_
  obtain ⟨r15, h16, H⟩ := bindS H
  refine p_cv (law_sound_ok h16 (S14.atP (i := 0) rfl) (S14.atP (i := 1) rfl)) fu22 rfl S14 fun w17 S18 => ?_
  refine p_not rfl ?_
  refine p_mB rfl ?_
  rcases Bool.eq_false_or_eq_true (!r15) with c19 | c19
  · replace H := condT c19 H
    refine eB c19 ?_
    refine gF rfl rfl ?_
    refine gF rfl rfl ?_
    refine gF rfl rfl ?_
    refine gF rfl rfl ?_
    refine p_pkT rfl (rfl : _ = B true) ?_
    refine wp_nil ?_
    refine c_true rfl ?_
    refine c_seq ?_
    refine reg ?_
    obtain ⟨r20, h21, H⟩ := bindS H
    refine p_cv (law_stoked_ok h21 (S18.atP (i := 2) rfl) (S18.atP (i := 3) rfl)) fu19 rfl S18 fun w22 S23 => ?_
    refine p_aB rfl ?_
    refine wp_nil ?_
    obtain rfl := Option.some.inj H
    refine c_ret ?_; show bodyPostM (Fr none) 0 Tryd.prog Tryd.f7 _ .ret _ _
    refine ret_of (res1 rfl (rvT (rfl : _ = B r20))) ?_
    exact ⟨_, rfl, rfl, S23.keep⟩
  · replace H := condF c19 H
    refine eB c19 ?_
    refine gT rfl rfl (p_fld fl29_6 rfl ?_)
    refine gT rfl rfl (p_ld ty27 (S18.atX (i := 1) rfl) rfl rfl ?_)
    refine gT rfl rfl (p_len rfl sc27 ?_)
    refine gT rfl rfl (p_cmp rfl rfl rfl ?_)
    refine p_pkF rfl (rfl : _ = B ((a0.Dips.length : Int) == 4)) ?_
    refine wp_nil ?_
    refine c_cond rfl (fun c24 => ?_) (fun c24 => ?_)
    · replace H := condT c24 H
      refine c_seq ?_
      refine reg ?_
      obtain ⟨r25, h26, H⟩ := bindS H
      refine p_cv (law_stoked_ok h26 (S18.atP (i := 2) rfl) (S18.atP (i := 3) rfl)) fu19 rfl S18 fun w27 S28 => ?_
      refine p_aB rfl ?_
      refine wp_nil ?_
      obtain rfl := Option.some.inj H
      refine c_ret ?_; show bodyPostM (Fr none) 0 Tryd.prog Tryd.f7 _ .ret _ _
      refine ret_of (res1 rfl (rvT (rfl : _ = B r25))) ?_
      exact ⟨_, rfl, rfl, S28.keep⟩
    · replace H := condF c24 H
      refine c_skip ?_
      refine c_seq ?_
      obtain ⟨r29, h30, H⟩ := bindS H
      obtain ⟨r31, h32, H⟩ := bindS H
      obtain ⟨r33, h34, H⟩ := bindS H
      refine reg_q mixed 15 (by kernel_rfl) ?_
      refine dS (fun _ k_ => p_ixc ar60 rfl rfl (by decide) (by decide) dn) ?_
      refine dS (fun _ k_ => p_ld ty3 (Asr.stays (S18.atX (i := 0) rfl) k_) rfl rfl dn) ?_
      refine dS (fun _ k_ => p_fld fl29_3 rfl dn) ?_
      refine dS (fun _ k_ => p_ld ty26 (Asr.stays (S18.atX (i := 1) rfl) k_) rfl rfl dn) ?_
      refine dS (fun _ k_ => p_len rfl sc26 dn) ?_
      refine dS (fun _ k_ => p_cvD (B_Mod_ok h30) fu25 rfl) ?_
      refine dS (fun _ k_ => p_ixc ar60 rfl rfl (by decide) (by decide) dn) ?_
      refine dS (fun _ k_ => p_ld ty3 (Asr.stays (S18.atX (i := 0) rfl) k_) rfl rfl dn) ?_
      refine dS (fun _ k_ => p_cvD (B_Mod_ok h32) fu25 rfl) ?_
      refine dS (fun _ k_ => p_ixc ar60 rfl rfl (by decide) (by decide) dn) ?_
      refine dS (fun _ k_ => p_ld ty3 (Asr.stays (S18.atX (i := 0) rfl) k_) rfl rfl dn) ?_
      refine dS (fun _ k_ => p_cvD (B_Mod_ok h34) fu25 rfl) ?_
      refine dS (fun _ k_ => p_aI rfl dn) ?_
      refine dS (fun _ k_ => p_aI rfl dn) ?_
      refine dS (fun _ k_ => p_aI rfl dn) ?_
      intro w35 k36; have S37 := S18.call k36
      refine wp_nil ?_
      refine c_seq ?_
      refine reg ?_
      refine p_ldA ty29 sz29 (S37.atX (i := 1) rfl) rfl rfl ?_
      refine p_mI rfl ?_
      obtain ⟨r38, h39, H⟩ := bindS H
      refine p_cv (coal_Heap_ok h39 (S37.atP (i := 0) rfl) (S37.atP (i := 1) rfl) (S37.atP (i := 3) rfl)) fu28 rfl S37 fun w40 S41 => ?_
      refine p_mT rfl ?_
      refine p_ext rfl rfl ?_
      refine p_ext rfl rfl ?_
      refine p_allA in23 S41 fun b42 w43 S44 => ?_
      refine p_stP (pre := []) (old := [I 0, I 0]) (post := []) (vs := [I r38.1.Low, I r38.1.High]) sz23 S44 (i := 0) rfl rfl rfl rfl (rfl : _ = AG [I r38.1.Low, I r38.1.High]) rfl rfl rfl rfl fun w45 S46 => ?_
      refine p_aI rfl ?_
      refine wp_nil ?_
      refine c_seq ?_
      refine reg ?_
      refine p_ldA ty29 sz29 (S46.atX (i := 2) rfl) rfl rfl ?_
      refine p_mI rfl ?_
      obtain ⟨r47, h48, H⟩ := bindS H
      refine p_cv (coal_Eats_ok h48 (S46.atP (i := 0) rfl) (S46.atP (i := 1) rfl) (S46.atP (i := 3) rfl)) fu35 rfl S46 fun w49 S50 => ?_
      refine p_mT rfl ?_
      refine p_ext rfl rfl ?_
      refine p_ext rfl rfl ?_
      refine p_allA in23 S50 fun b51 w52 S53 => ?_
      refine p_stP (pre := []) (old := [I 0, I 0]) (post := []) (vs := [I r47.1.Low, I r47.1.High]) sz23 S53 (i := 0) rfl rfl rfl rfl (rfl : _ = AG [I r47.1.Low, I r47.1.High]) rfl rfl rfl rfl fun w54 S55 => ?_
      refine p_aI rfl ?_
      refine wp_nil ?_
      refine c_seq ?_
      refine reg ?_
      refine p_ldA ty29 sz29 (S55.atX (i := 3) rfl) rfl rfl ?_
      refine p_mI rfl ?_
      obtain ⟨r56, h57, H⟩ := bindS H
      refine p_cv (coal_Wind_ok h57 (S55.atP (i := 0) rfl) (S55.atP (i := 1) rfl) (S55.atP (i := 3) rfl)) fu29 rfl S55 fun w58 S59 => ?_
      refine p_mT rfl ?_
      refine p_ext rfl rfl ?_
      refine p_ext rfl rfl ?_
      refine p_aI rfl ?_
      refine p_aI rfl ?_
      refine wp_nil ?_
      refine c_seq ?_
      refine c_seq ?_
      refine reg ?_
      refine p_mI rfl ?_
      refine p_cmp rfl rfl rfl ?_
      refine wp_nil ?_
      refine c_cond rfl (fun c60 => ?_) (fun c60 => ?_)
      · replace H := condT c60 H
        refine c_seq ?_
        rcases Bool.eq_false_or_eq_true ((r38.2 == 62)) with c61 | c61
        · replace H := condT c61 H
          rcases Bool.eq_false_or_eq_true ((r47.2 == r38.2)) with c62 | c62
          · replace H := condT c62 H
            rcases Bool.eq_false_or_eq_true ((r56.2 == r38.2)) with c63 | c63
            · replace H := condT c63 H
              obtain ⟨r64, h65, H⟩ := bindS H
              rcases Bool.eq_false_or_eq_true (((r38.1.Low == r64.Low) && (r38.1.High == r64.High))) with c66 | c66
              · replace H := condT c66 H
                rcases Bool.eq_false_or_eq_true (((r47.1.Low == r38.1.Low) && (r47.1.High == r38.1.High))) with c67 | c67
                · replace H := condT c67 H
                  rcases Bool.eq_false_or_eq_true ((r56.1 == 0)) with c68 | c68
                  · replace H := condT c68 H
                    obtain ⟨r69, h70, H⟩ := bindS H
                    refine reg_q mixed 30 (by kernel_rfl) ?_
                    refine dS (fun _ k_ => p_mI rfl dn) ?_
                    refine dS (fun _ k_ => p_cmp rfl rfl rfl dn) ?_
                    refine dS (fun _ k_ => p_mB rfl dn) ?_
                    refine dB c61 ?_
                    refine dS (fun _ k_ => gT rfl rfl (p_mI rfl dn)) ?_
                    refine dS (fun _ k_ => gT rfl rfl (p_mI rfl dn)) ?_
                    refine dS (fun _ k_ => gT rfl rfl (p_cmp rfl rfl rfl dn)) ?_
                    refine dS (fun _ k_ => p_pkT rfl (rfl : _ = B (r47.2 == r38.2)) dn) ?_
                    refine dS (fun _ k_ => p_mB rfl dn) ?_
                    refine dB c62 ?_
                    refine dS (fun _ k_ => gT rfl rfl (p_mI rfl dn)) ?_
                    refine dS (fun _ k_ => gT rfl rfl (p_mI rfl dn)) ?_
                    refine dS (fun _ k_ => gT rfl rfl (p_cmp rfl rfl rfl dn)) ?_
                    refine dS (fun _ k_ => p_pkT rfl (rfl : _ = B (r56.2 == r38.2)) dn) ?_
                    refine dS (fun _ k_ => p_mB rfl dn) ?_
                    refine dB c63 ?_
                    refine dS (fun _ k_ => gT rfl rfl (p_ldA ty23 sz23 (Asr.stays (S59.atX (i := 1) rfl) k_) rfl rfl dn)) ?_
                    refine dS (fun _ k_ => gT rfl rfl (p_cvD (B_Point_ok h65) fu38 rfl)) ?_
                    refine dS (fun _ k_ => gT rfl rfl (o_eqA (xs := [I r38.1.Low, I r38.1.High]) (ys := [I r64.Low, I r64.High]) (T := ((r38.1.Low == r64.Low) && (r38.1.High == r64.High))) rfl rfl eq23 ⟨⟨_, rfl⟩, ⟨⟨_, rfl⟩, trivial⟩⟩ ⟨⟨_, rfl⟩, ⟨⟨_, rfl⟩, trivial⟩⟩ (by simp [Bool.and_eq_true, and_assoc]) dn)) ?_
                    refine dS (fun _ k_ => p_pkT rfl (rfl : _ = B ((r38.1.Low == r64.Low) && (r38.1.High == r64.High))) dn) ?_
                    refine dS (fun _ k_ => p_mB rfl dn) ?_
                    refine dB c66 ?_
                    refine dS (fun _ k_ => gT rfl rfl (p_ldA ty23 sz23 (Asr.stays (S59.atX (i := 0) rfl) k_) rfl rfl dn)) ?_
                    refine dS (fun _ k_ => gT rfl rfl (p_ldA ty23 sz23 (Asr.stays (S59.atX (i := 1) rfl) k_) rfl rfl dn)) ?_
                    refine dS (fun _ k_ => gT rfl rfl (o_eqA (xs := [I r47.1.Low, I r47.1.High]) (ys := [I r38.1.Low, I r38.1.High]) (T := ((r47.1.Low == r38.1.Low) && (r47.1.High == r38.1.High))) rfl rfl eq23 ⟨⟨_, rfl⟩, ⟨⟨_, rfl⟩, trivial⟩⟩ ⟨⟨_, rfl⟩, ⟨⟨_, rfl⟩, trivial⟩⟩ (by simp [Bool.and_eq_true, and_assoc]) dn)) ?_
                    refine dS (fun _ k_ => p_pkT rfl (rfl : _ = B ((r47.1.Low == r38.1.Low) && (r47.1.High == r38.1.High))) dn) ?_
                    refine dS (fun _ k_ => p_mB rfl dn) ?_
                    refine dB c67 ?_
                    refine dS (fun _ k_ => gT rfl rfl (p_mI rfl dn)) ?_
                    refine dS (fun _ k_ => gT rfl rfl (p_cmp rfl rfl rfl dn)) ?_
                    refine dS (fun _ k_ => p_pkT rfl (rfl : _ = B (r56.1 == 0)) dn) ?_
                    refine dS (fun _ k_ => p_mB rfl dn) ?_
                    refine dB c68 ?_
                    refine dS (fun _ k_ => gT rfl rfl (p_cvD (law_stoked_ok h70 (Asr.stays (S59.atP (i := 2) rfl) k_) (Asr.stays (S59.atP (i := 3) rfl) k_)) fu19 rfl)) ?_
                    refine dS (fun _ k_ => p_pkT rfl (rfl : _ = B r69) dn) ?_
                    refine dS (fun _ k_ => p_aB rfl dn) ?_
                    intro w71 k72; have S73 := S59.call k72
                    refine wp_nil ?_
                    obtain rfl := Option.some.inj H
                    refine c_ret ?_; show bodyPostM (Fr none) 0 Tryd.prog Tryd.f7 _ .ret _ _
                    refine ret_of (res1 rfl (rvT (rfl : _ = B r69))) ?_
                    exact ⟨_, rfl, rfl, S73.keep⟩
                  · replace H := condF c68 H
                    refine reg_q mixed 30 (by kernel_rfl) ?_
                    refine dS (fun _ k_ => p_mI rfl dn) ?_
                    refine dS (fun _ k_ => p_cmp rfl rfl rfl dn) ?_
                    refine dS (fun _ k_ => p_mB rfl dn) ?_
                    refine dB c61 ?_
                    refine dS (fun _ k_ => gT rfl rfl (p_mI rfl dn)) ?_
                    refine dS (fun _ k_ => gT rfl rfl (p_mI rfl dn)) ?_
                    refine dS (fun _ k_ => gT rfl rfl (p_cmp rfl rfl rfl dn)) ?_
                    refine dS (fun _ k_ => p_pkT rfl (rfl : _ = B (r47.2 == r38.2)) dn) ?_
                    refine dS (fun _ k_ => p_mB rfl dn) ?_
                    refine dB c62 ?_
                    refine dS (fun _ k_ => gT rfl rfl (p_mI rfl dn)) ?_
                    refine dS (fun _ k_ => gT rfl rfl (p_mI rfl dn)) ?_
                    refine dS (fun _ k_ => gT rfl rfl (p_cmp rfl rfl rfl dn)) ?_
                    refine dS (fun _ k_ => p_pkT rfl (rfl : _ = B (r56.2 == r38.2)) dn) ?_
                    refine dS (fun _ k_ => p_mB rfl dn) ?_
                    refine dB c63 ?_
                    refine dS (fun _ k_ => gT rfl rfl (p_ldA ty23 sz23 (Asr.stays (S59.atX (i := 1) rfl) k_) rfl rfl dn)) ?_
                    refine dS (fun _ k_ => gT rfl rfl (p_cvD (B_Point_ok h65) fu38 rfl)) ?_
                    refine dS (fun _ k_ => gT rfl rfl (o_eqA (xs := [I r38.1.Low, I r38.1.High]) (ys := [I r64.Low, I r64.High]) (T := ((r38.1.Low == r64.Low) && (r38.1.High == r64.High))) rfl rfl eq23 ⟨⟨_, rfl⟩, ⟨⟨_, rfl⟩, trivial⟩⟩ ⟨⟨_, rfl⟩, ⟨⟨_, rfl⟩, trivial⟩⟩ (by simp [Bool.and_eq_true, and_assoc]) dn)) ?_
                    refine dS (fun _ k_ => p_pkT rfl (rfl : _ = B ((r38.1.Low == r64.Low) && (r38.1.High == r64.High))) dn) ?_
                    refine dS (fun _ k_ => p_mB rfl dn) ?_
                    refine dB c66 ?_
                    refine dS (fun _ k_ => gT rfl rfl (p_ldA ty23 sz23 (Asr.stays (S59.atX (i := 0) rfl) k_) rfl rfl dn)) ?_
                    refine dS (fun _ k_ => gT rfl rfl (p_ldA ty23 sz23 (Asr.stays (S59.atX (i := 1) rfl) k_) rfl rfl dn)) ?_
                    refine dS (fun _ k_ => gT rfl rfl (o_eqA (xs := [I r47.1.Low, I r47.1.High]) (ys := [I r38.1.Low, I r38.1.High]) (T := ((r47.1.Low == r38.1.Low) && (r47.1.High == r38.1.High))) rfl rfl eq23 ⟨⟨_, rfl⟩, ⟨⟨_, rfl⟩, trivial⟩⟩ ⟨⟨_, rfl⟩, ⟨⟨_, rfl⟩, trivial⟩⟩ (by simp [Bool.and_eq_true, and_assoc]) dn)) ?_
                    refine dS (fun _ k_ => p_pkT rfl (rfl : _ = B ((r47.1.Low == r38.1.Low) && (r47.1.High == r38.1.High))) dn) ?_
                    refine dS (fun _ k_ => p_mB rfl dn) ?_
                    refine dB c67 ?_
                    refine dS (fun _ k_ => gT rfl rfl (p_mI rfl dn)) ?_
                    refine dS (fun _ k_ => gT rfl rfl (p_cmp rfl rfl rfl dn)) ?_
                    refine dS (fun _ k_ => p_pkT rfl (rfl : _ = B (r56.1 == 0)) dn) ?_
                    refine dS (fun _ k_ => p_mB rfl dn) ?_
                    refine dB c68 ?_
                    refine dS (fun _ k_ => gF rfl rfl dnU) ?_
                    refine dS (fun _ k_ => p_pkF rfl (rfl : _ = B false) dn) ?_
                    refine dS (fun _ k_ => p_aB rfl dn) ?_
                    intro w74 k75; have S76 := S59.call k75
                    refine wp_nil ?_
                    obtain rfl := Option.some.inj H
                    refine c_ret ?_; show bodyPostM (Fr none) 0 Tryd.prog Tryd.f7 _ .ret _ _
                    refine ret_of (res1 rfl (rvT (rfl : _ = B false))) ?_
                    exact ⟨_, rfl, rfl, S76.keep⟩
                · replace H := condF c67 H
                  refine reg_q mixed 30 (by kernel_rfl) ?_
                  refine dS (fun _ k_ => p_mI rfl dn) ?_
                  refine dS (fun _ k_ => p_cmp rfl rfl rfl dn) ?_
                  refine dS (fun _ k_ => p_mB rfl dn) ?_
                  refine dB c61 ?_
                  refine dS (fun _ k_ => gT rfl rfl (p_mI rfl dn)) ?_
                  refine dS (fun _ k_ => gT rfl rfl (p_mI rfl dn)) ?_
                  refine dS (fun _ k_ => gT rfl rfl (p_cmp rfl rfl rfl dn)) ?_
                  refine dS (fun _ k_ => p_pkT rfl (rfl : _ = B (r47.2 == r38.2)) dn) ?_
                  refine dS (fun _ k_ => p_mB rfl dn) ?_
                  refine dB c62 ?_
                  refine dS (fun _ k_ => gT rfl rfl (p_mI rfl dn)) ?_
                  refine dS (fun _ k_ => gT rfl rfl (p_mI rfl dn)) ?_
                  refine dS (fun _ k_ => gT rfl rfl (p_cmp rfl rfl rfl dn)) ?_
                  refine dS (fun _ k_ => p_pkT rfl (rfl : _ = B (r56.2 == r38.2)) dn) ?_
                  refine dS (fun _ k_ => p_mB rfl dn) ?_
                  refine dB c63 ?_
                  refine dS (fun _ k_ => gT rfl rfl (p_ldA ty23 sz23 (Asr.stays (S59.atX (i := 1) rfl) k_) rfl rfl dn)) ?_
                  refine dS (fun _ k_ => gT rfl rfl (p_cvD (B_Point_ok h65) fu38 rfl)) ?_
                  refine dS (fun _ k_ => gT rfl rfl (o_eqA (xs := [I r38.1.Low, I r38.1.High]) (ys := [I r64.Low, I r64.High]) (T := ((r38.1.Low == r64.Low) && (r38.1.High == r64.High))) rfl rfl eq23 ⟨⟨_, rfl⟩, ⟨⟨_, rfl⟩, trivial⟩⟩ ⟨⟨_, rfl⟩, ⟨⟨_, rfl⟩, trivial⟩⟩ (by simp [Bool.and_eq_true, and_assoc]) dn)) ?_
                  refine dS (fun _ k_ => p_pkT rfl (rfl : _ = B ((r38.1.Low == r64.Low) && (r38.1.High == r64.High))) dn) ?_
                  refine dS (fun _ k_ => p_mB rfl dn) ?_
                  refine dB c66 ?_
                  refine dS (fun _ k_ => gT rfl rfl (p_ldA ty23 sz23 (Asr.stays (S59.atX (i := 0) rfl) k_) rfl rfl dn)) ?_
                  refine dS (fun _ k_ => gT rfl rfl (p_ldA ty23 sz23 (Asr.stays (S59.atX (i := 1) rfl) k_) rfl rfl dn)) ?_
                  refine dS (fun _ k_ => gT rfl rfl (o_eqA (xs := [I r47.1.Low, I r47.1.High]) (ys := [I r38.1.Low, I r38.1.High]) (T := ((r47.1.Low == r38.1.Low) && (r47.1.High == r38.1.High))) rfl rfl eq23 ⟨⟨_, rfl⟩, ⟨⟨_, rfl⟩, trivial⟩⟩ ⟨⟨_, rfl⟩, ⟨⟨_, rfl⟩, trivial⟩⟩ (by simp [Bool.and_eq_true, and_assoc]) dn)) ?_
                  refine dS (fun _ k_ => p_pkT rfl (rfl : _ = B ((r47.1.Low == r38.1.Low) && (r47.1.High == r38.1.High))) dn) ?_
                  refine dS (fun _ k_ => p_mB rfl dn) ?_
                  refine dB c67 ?_
                  refine dS (fun _ k_ => gF rfl rfl dnU) ?_
                  refine dS (fun _ k_ => gF rfl rfl dnU) ?_
                  refine dS (fun _ k_ => p_pkF rfl (rfl : _ = B false) dn) ?_
                  refine dS (fun _ k_ => p_mB rfl dn) ?_
                  refine dS (fun _ k_ => gF rfl rfl dnU) ?_
                  refine dS (fun _ k_ => p_pkF rfl (rfl : _ = B false) dn) ?_
                  refine dS (fun _ k_ => p_aB rfl dn) ?_
                  intro w77 k78; have S79 := S59.call k78
                  refine wp_nil ?_
                  obtain rfl := Option.some.inj H
                  refine c_ret ?_; show bodyPostM (Fr none) 0 Tryd.prog Tryd.f7 _ .ret _ _
                  refine ret_of (res1 rfl (rvT (rfl : _ = B false))) ?_
                  exact ⟨_, rfl, rfl, S79.keep⟩
              · replace H := condF c66 H
                refine reg_q mixed 30 (by kernel_rfl) ?_
                refine dS (fun _ k_ => p_mI rfl dn) ?_
                refine dS (fun _ k_ => p_cmp rfl rfl rfl dn) ?_
                refine dS (fun _ k_ => p_mB rfl dn) ?_
                refine dB c61 ?_
                refine dS (fun _ k_ => gT rfl rfl (p_mI rfl dn)) ?_
                refine dS (fun _ k_ => gT rfl rfl (p_mI rfl dn)) ?_
                refine dS (fun _ k_ => gT rfl rfl (p_cmp rfl rfl rfl dn)) ?_
                refine dS (fun _ k_ => p_pkT rfl (rfl : _ = B (r47.2 == r38.2)) dn) ?_
                refine dS (fun _ k_ => p_mB rfl dn) ?_
                refine dB c62 ?_
                refine dS (fun _ k_ => gT rfl rfl (p_mI rfl dn)) ?_
                refine dS (fun _ k_ => gT rfl rfl (p_mI rfl dn)) ?_
                refine dS (fun _ k_ => gT rfl rfl (p_cmp rfl rfl rfl dn)) ?_
                refine dS (fun _ k_ => p_pkT rfl (rfl : _ = B (r56.2 == r38.2)) dn) ?_
                refine dS (fun _ k_ => p_mB rfl dn) ?_
                refine dB c63 ?_
                refine dS (fun _ k_ => gT rfl rfl (p_ldA ty23 sz23 (Asr.stays (S59.atX (i := 1) rfl) k_) rfl rfl dn)) ?_
                refine dS (fun _ k_ => gT rfl rfl (p_cvD (B_Point_ok h65) fu38 rfl)) ?_
                refine dS (fun _ k_ => gT rfl rfl (o_eqA (xs := [I r38.1.Low, I r38.1.High]) (ys := [I r64.Low, I r64.High]) (T := ((r38.1.Low == r64.Low) && (r38.1.High == r64.High))) rfl rfl eq23 ⟨⟨_, rfl⟩, ⟨⟨_, rfl⟩, trivial⟩⟩ ⟨⟨_, rfl⟩, ⟨⟨_, rfl⟩, trivial⟩⟩ (by simp [Bool.and_eq_true, and_assoc]) dn)) ?_
                refine dS (fun _ k_ => p_pkT rfl (rfl : _ = B ((r38.1.Low == r64.Low) && (r38.1.High == r64.High))) dn) ?_
                refine dS (fun _ k_ => p_mB rfl dn) ?_
                refine dB c66 ?_
                refine dS (fun _ k_ => gF rfl rfl dnU) ?_
                refine dS (fun _ k_ => gF rfl rfl dnU) ?_
                refine dS (fun _ k_ => gF rfl rfl dnU) ?_
                refine dS (fun _ k_ => p_pkF rfl (rfl : _ = B false) dn) ?_
                refine dS (fun _ k_ => p_mB rfl dn) ?_
                refine dS (fun _ k_ => gF rfl rfl dnU) ?_
                refine dS (fun _ k_ => gF rfl rfl dnU) ?_
                refine dS (fun _ k_ => p_pkF rfl (rfl : _ = B false) dn) ?_
                refine dS (fun _ k_ => p_mB rfl dn) ?_
                refine dS (fun _ k_ => gF rfl rfl dnU) ?_
                refine dS (fun _ k_ => p_pkF rfl (rfl : _ = B false) dn) ?_
                refine dS (fun _ k_ => p_aB rfl dn) ?_
                intro w80 k81; have S82 := S59.call k81
                refine wp_nil ?_
                obtain rfl := Option.some.inj H
                refine c_ret ?_; show bodyPostM (Fr none) 0 Tryd.prog Tryd.f7 _ .ret _ _
                refine ret_of (res1 rfl (rvT (rfl : _ = B false))) ?_
                exact ⟨_, rfl, rfl, S82.keep⟩
            · replace H := condF c63 H
              refine reg_q mixed 30 (by kernel_rfl) ?_
              refine dS (fun _ k_ => p_mI rfl dn) ?_
              refine dS (fun _ k_ => p_cmp rfl rfl rfl dn) ?_
              refine dS (fun _ k_ => p_mB rfl dn) ?_
              refine dB c61 ?_
              refine dS (fun _ k_ => gT rfl rfl (p_mI rfl dn)) ?_
              refine dS (fun _ k_ => gT rfl rfl (p_mI rfl dn)) ?_
              refine dS (fun _ k_ => gT rfl rfl (p_cmp rfl rfl rfl dn)) ?_
              refine dS (fun _ k_ => p_pkT rfl (rfl : _ = B (r47.2 == r38.2)) dn) ?_
              refine dS (fun _ k_ => p_mB rfl dn) ?_
              refine dB c62 ?_
              refine dS (fun _ k_ => gT rfl rfl (p_mI rfl dn)) ?_
              refine dS (fun _ k_ => gT rfl rfl (p_mI rfl dn)) ?_
              refine dS (fun _ k_ => gT rfl rfl (p_cmp rfl rfl rfl dn)) ?_
              refine dS (fun _ k_ => p_pkT rfl (rfl : _ = B (r56.2 == r38.2)) dn) ?_
              refine dS (fun _ k_ => p_mB rfl dn) ?_
              refine dB c63 ?_
              refine dS (fun _ k_ => gF rfl rfl dnU) ?_
              refine dS (fun _ k_ => gF rfl rfl dnU) ?_
              refine dS (fun _ k_ => gF rfl rfl dnU) ?_
              refine dS (fun _ k_ => p_pkF rfl (rfl : _ = B false) dn) ?_
              refine dS (fun _ k_ => p_mB rfl dn) ?_
              refine dS (fun _ k_ => gF rfl rfl dnU) ?_
              refine dS (fun _ k_ => gF rfl rfl dnU) ?_
              refine dS (fun _ k_ => gF rfl rfl dnU) ?_
              refine dS (fun _ k_ => p_pkF rfl (rfl : _ = B false) dn) ?_
              refine dS (fun _ k_ => p_mB rfl dn) ?_
              refine dS (fun _ k_ => gF rfl rfl dnU) ?_
              refine dS (fun _ k_ => gF rfl rfl dnU) ?_
              refine dS (fun _ k_ => p_pkF rfl (rfl : _ = B false) dn) ?_
              refine dS (fun _ k_ => p_mB rfl dn) ?_
              refine dS (fun _ k_ => gF rfl rfl dnU) ?_
              refine dS (fun _ k_ => p_pkF rfl (rfl : _ = B false) dn) ?_
              refine dS (fun _ k_ => p_aB rfl dn) ?_
              intro w83 k84; have S85 := S59.call k84
              refine wp_nil ?_
              obtain rfl := Option.some.inj H
              refine c_ret ?_; show bodyPostM (Fr none) 0 Tryd.prog Tryd.f7 _ .ret _ _
              refine ret_of (res1 rfl (rvT (rfl : _ = B false))) ?_
              exact ⟨_, rfl, rfl, S85.keep⟩
          · replace H := condF c62 H
            refine reg_q mixed 30 (by kernel_rfl) ?_
            refine dS (fun _ k_ => p_mI rfl dn) ?_
            refine dS (fun _ k_ => p_cmp rfl rfl rfl dn) ?_
            refine dS (fun _ k_ => p_mB rfl dn) ?_
            refine dB c61 ?_
            refine dS (fun _ k_ => gT rfl rfl (p_mI rfl dn)) ?_
            refine dS (fun _ k_ => gT rfl rfl (p_mI rfl dn)) ?_
            refine dS (fun _ k_ => gT rfl rfl (p_cmp rfl rfl rfl dn)) ?_
            refine dS (fun _ k_ => p_pkT rfl (rfl : _ = B (r47.2 == r38.2)) dn) ?_
            refine dS (fun _ k_ => p_mB rfl dn) ?_
            refine dB c62 ?_
            refine dS (fun _ k_ => gF rfl rfl dnU) ?_
            refine dS (fun _ k_ => gF rfl rfl dnU) ?_
            refine dS (fun _ k_ => gF rfl rfl dnU) ?_
            refine dS (fun _ k_ => p_pkF rfl (rfl : _ = B false) dn) ?_
            refine dS (fun _ k_ => p_mB rfl dn) ?_
            refine dS (fun _ k_ => gF rfl rfl dnU) ?_
            refine dS (fun _ k_ => gF rfl rfl dnU) ?_
            refine dS (fun _ k_ => gF rfl rfl dnU) ?_
            refine dS (fun _ k_ => p_pkF rfl (rfl : _ = B false) dn) ?_
            refine dS (fun _ k_ => p_mB rfl dn) ?_
            refine dS (fun _ k_ => gF rfl rfl dnU) ?_
            refine dS (fun _ k_ => gF rfl rfl dnU) ?_
            refine dS (fun _ k_ => gF rfl rfl dnU) ?_
            refine dS (fun _ k_ => p_pkF rfl (rfl : _ = B false) dn) ?_
            refine dS (fun _ k_ => p_mB rfl dn) ?_
            refine dS (fun _ k_ => gF rfl rfl dnU) ?_
            refine dS (fun _ k_ => gF rfl rfl dnU) ?_
            refine dS (fun _ k_ => p_pkF rfl (rfl : _ = B false) dn) ?_
            refine dS (fun _ k_ => p_mB rfl dn) ?_
            refine dS (fun _ k_ => gF rfl rfl dnU) ?_
            refine dS (fun _ k_ => p_pkF rfl (rfl : _ = B false) dn) ?_
            refine dS (fun _ k_ => p_aB rfl dn) ?_
            intro w86 k87; have S88 := S59.call k87
            refine wp_nil ?_
            obtain rfl := Option.some.inj H
            refine c_ret ?_; show bodyPostM (Fr none) 0 Tryd.prog Tryd.f7 _ .ret _ _
            refine ret_of (res1 rfl (rvT (rfl : _ = B false))) ?_
            exact ⟨_, rfl, rfl, S88.keep⟩
        · replace H := condF c61 H
          refine reg_q mixed 30 (by kernel_rfl) ?_
          refine dS (fun _ k_ => p_mI rfl dn) ?_
          refine dS (fun _ k_ => p_cmp rfl rfl rfl dn) ?_
          refine dS (fun _ k_ => p_mB rfl dn) ?_
          refine dB c61 ?_
          refine dS (fun _ k_ => gF rfl rfl dnU) ?_
          refine dS (fun _ k_ => gF rfl rfl dnU) ?_
          refine dS (fun _ k_ => gF rfl rfl dnU) ?_
          refine dS (fun _ k_ => p_pkF rfl (rfl : _ = B false) dn) ?_
          refine dS (fun _ k_ => p_mB rfl dn) ?_
          refine dS (fun _ k_ => gF rfl rfl dnU) ?_
          refine dS (fun _ k_ => gF rfl rfl dnU) ?_
          refine dS (fun _ k_ => gF rfl rfl dnU) ?_
          refine dS (fun _ k_ => p_pkF rfl (rfl : _ = B false) dn) ?_
          refine dS (fun _ k_ => p_mB rfl dn) ?_
          refine dS (fun _ k_ => gF rfl rfl dnU) ?_
          refine dS (fun _ k_ => gF rfl rfl dnU) ?_
          refine dS (fun _ k_ => gF rfl rfl dnU) ?_
          refine dS (fun _ k_ => p_pkF rfl (rfl : _ = B false) dn) ?_
          refine dS (fun _ k_ => p_mB rfl dn) ?_
          refine dS (fun _ k_ => gF rfl rfl dnU) ?_
          refine dS (fun _ k_ => gF rfl rfl dnU) ?_
          refine dS (fun _ k_ => gF rfl rfl dnU) ?_
          refine dS (fun _ k_ => p_pkF rfl (rfl : _ = B false) dn) ?_
          refine dS (fun _ k_ => p_mB rfl dn) ?_
          refine dS (fun _ k_ => gF rfl rfl dnU) ?_
          refine dS (fun _ k_ => gF rfl rfl dnU) ?_
          refine dS (fun _ k_ => p_pkF rfl (rfl : _ = B false) dn) ?_
          refine dS (fun _ k_ => p_mB rfl dn) ?_
          refine dS (fun _ k_ => gF rfl rfl dnU) ?_
          refine dS (fun _ k_ => p_pkF rfl (rfl : _ = B false) dn) ?_
          refine dS (fun _ k_ => p_aB rfl dn) ?_
          intro w89 k90; have S91 := S59.call k90
          refine wp_nil ?_
          obtain rfl := Option.some.inj H
          refine c_ret ?_; show bodyPostM (Fr none) 0 Tryd.prog Tryd.f7 _ .ret _ _
          refine ret_of (res1 rfl (rvT (rfl : _ = B false))) ?_
          exact ⟨_, rfl, rfl, S91.keep⟩
      · replace H := condF c60 H
        refine c_skip ?_
        refine c_seq ?_
        refine c_seq ?_
        rcases Bool.eq_false_or_eq_true ((r47.2 != 0)) with c92 | c92
        · replace H := condT c92 H
          refine reg_q mixed 40 (by kernel_rfl) ?_
          refine dS (fun _ k_ => p_mI rfl dn) ?_
          refine dS (fun _ k_ => p_cmp rfl rfl rfl dn) ?_
          refine dS (fun _ k_ => p_mB rfl dn) ?_
          refine dB c92 ?_
          refine dS (fun _ k_ => gF rfl rfl dnU) ?_
          refine dS (fun _ k_ => gF rfl rfl dnU) ?_
          refine dS (fun _ k_ => p_pkT rfl (rfl : _ = B true) dn) ?_
          refine dS (fun _ k_ => p_mB rfl dn) ?_
          refine dS (fun _ k_ => gF rfl rfl dnU) ?_
          refine dS (fun _ k_ => gF rfl rfl dnU) ?_
          refine dS (fun _ k_ => gF rfl rfl dnU) ?_
          refine dS (fun _ k_ => gF rfl rfl dnU) ?_
          refine dS (fun _ k_ => gF rfl rfl dnU) ?_
          refine dS (fun _ k_ => p_pkT rfl (rfl : _ = B true) dn) ?_
          refine dS (fun _ k_ => p_mB rfl dn) ?_
          refine dS (fun _ k_ => gF rfl rfl dnU) ?_
          refine dS (fun _ k_ => gF rfl rfl dnU) ?_
          refine dS (fun _ k_ => gF rfl rfl dnU) ?_
          refine dS (fun _ k_ => gF rfl rfl dnU) ?_
          refine dS (fun _ k_ => gF rfl rfl dnU) ?_
          refine dS (fun _ k_ => gF rfl rfl dnU) ?_
          refine dS (fun _ k_ => gF rfl rfl dnU) ?_
          refine dS (fun _ k_ => p_pkT rfl (rfl : _ = B true) dn) ?_
          refine dS (fun _ k_ => p_mB rfl dn) ?_
          refine dS (fun _ k_ => gF rfl rfl dnU) ?_
          refine dS (fun _ k_ => gF rfl rfl dnU) ?_
          refine dS (fun _ k_ => gF rfl rfl dnU) ?_
          refine dS (fun _ k_ => gF rfl rfl dnU) ?_
          refine dS (fun _ k_ => gF rfl rfl dnU) ?_
          refine dS (fun _ k_ => p_pkT rfl (rfl : _ = B true) dn) ?_
          refine dS (fun _ k_ => p_mB rfl dn) ?_
          refine dS (fun _ k_ => gF rfl rfl dnU) ?_
          refine dS (fun _ k_ => gF rfl rfl dnU) ?_
          refine dS (fun _ k_ => gF rfl rfl dnU) ?_
          refine dS (fun _ k_ => gF rfl rfl dnU) ?_
          refine dS (fun _ k_ => gF rfl rfl dnU) ?_
          refine dS (fun _ k_ => gF rfl rfl dnU) ?_
          refine dS (fun _ k_ => gF rfl rfl dnU) ?_
          refine dS (fun _ k_ => gF rfl rfl dnU) ?_
          refine dS (fun _ k_ => gF rfl rfl dnU) ?_
          refine dS (fun _ k_ => p_pkT rfl (rfl : _ = B true) dn) ?_
          intro w93 k94; have S95 := S59.call k94
          refine wp_nil ?_
          refine c_true rfl ?_
          refine c_seq ?_
          refine reg ?_
          refine p_aB rfl ?_
          refine wp_nil ?_
          obtain rfl := Option.some.inj H
          refine c_ret ?_; show bodyPostM (Fr none) 0 Tryd.prog Tryd.f7 _ .ret _ _
          refine ret_of (res1 rfl (rvT (rfl : _ = B false))) ?_
          exact ⟨_, rfl, rfl, S95.keep⟩
        · replace H := condF c92 H
          rcases Bool.eq_false_or_eq_true ((r56.2 != 0)) with c96 | c96
          · replace H := condT c96 H
            refine reg_q mixed 40 (by kernel_rfl) ?_
            refine dS (fun _ k_ => p_mI rfl dn) ?_
            refine dS (fun _ k_ => p_cmp rfl rfl rfl dn) ?_
            refine dS (fun _ k_ => p_mB rfl dn) ?_
            refine dB c92 ?_
            refine dS (fun _ k_ => gT rfl rfl (p_mI rfl dn)) ?_
            refine dS (fun _ k_ => gT rfl rfl (p_cmp rfl rfl rfl dn)) ?_
            refine dS (fun _ k_ => p_pkF rfl (rfl : _ = B (r56.2 != 0)) dn) ?_
            refine dS (fun _ k_ => p_mB rfl dn) ?_
            refine dB c96 ?_
            refine dS (fun _ k_ => gF rfl rfl dnU) ?_
            refine dS (fun _ k_ => gF rfl rfl dnU) ?_
            refine dS (fun _ k_ => gF rfl rfl dnU) ?_
            refine dS (fun _ k_ => gF rfl rfl dnU) ?_
            refine dS (fun _ k_ => gF rfl rfl dnU) ?_
            refine dS (fun _ k_ => p_pkT rfl (rfl : _ = B true) dn) ?_
            refine dS (fun _ k_ => p_mB rfl dn) ?_
            refine dS (fun _ k_ => gF rfl rfl dnU) ?_
            refine dS (fun _ k_ => gF rfl rfl dnU) ?_
            refine dS (fun _ k_ => gF rfl rfl dnU) ?_
            refine dS (fun _ k_ => gF rfl rfl dnU) ?_
            refine dS (fun _ k_ => gF rfl rfl dnU) ?_
            refine dS (fun _ k_ => gF rfl rfl dnU) ?_
            refine dS (fun _ k_ => gF rfl rfl dnU) ?_
            refine dS (fun _ k_ => p_pkT rfl (rfl : _ = B true) dn) ?_
            refine dS (fun _ k_ => p_mB rfl dn) ?_
            refine dS (fun _ k_ => gF rfl rfl dnU) ?_
            refine dS (fun _ k_ => gF rfl rfl dnU) ?_
            refine dS (fun _ k_ => gF rfl rfl dnU) ?_
            refine dS (fun _ k_ => gF rfl rfl dnU) ?_
            refine dS (fun _ k_ => gF rfl rfl dnU) ?_
            refine dS (fun _ k_ => p_pkT rfl (rfl : _ = B true) dn) ?_
            refine dS (fun _ k_ => p_mB rfl dn) ?_
            refine dS (fun _ k_ => gF rfl rfl dnU) ?_
            refine dS (fun _ k_ => gF rfl rfl dnU) ?_
            refine dS (fun _ k_ => gF rfl rfl dnU) ?_
            refine dS (fun _ k_ => gF rfl rfl dnU) ?_
            refine dS (fun _ k_ => gF rfl rfl dnU) ?_
            refine dS (fun _ k_ => gF rfl rfl dnU) ?_
            refine dS (fun _ k_ => gF rfl rfl dnU) ?_
            refine dS (fun _ k_ => gF rfl rfl dnU) ?_
            refine dS (fun _ k_ => gF rfl rfl dnU) ?_
            refine dS (fun _ k_ => p_pkT rfl (rfl : _ = B true) dn) ?_
            intro w97 k98; have S99 := S59.call k98
            refine wp_nil ?_
            refine c_true rfl ?_
            refine c_seq ?_
            refine reg ?_
            refine p_aB rfl ?_
            refine wp_nil ?_
            obtain rfl := Option.some.inj H
            refine c_ret ?_; show bodyPostM (Fr none) 0 Tryd.prog Tryd.f7 _ .ret _ _
            refine ret_of (res1 rfl (rvT (rfl : _ = B false))) ?_
            exact ⟨_, rfl, rfl, S99.keep⟩
          · replace H := condF c96 H
            rcases Bool.eq_false_or_eq_true (decide (r38.1.Low > r38.1.High)) with c100 | c100
            · replace H := condT c100 H
              refine reg_q mixed 40 (by kernel_rfl) ?_
              refine dS (fun _ k_ => p_mI rfl dn) ?_
              refine dS (fun _ k_ => p_cmp rfl rfl rfl dn) ?_
              refine dS (fun _ k_ => p_mB rfl dn) ?_
              refine dB c92 ?_
              refine dS (fun _ k_ => gT rfl rfl (p_mI rfl dn)) ?_
              refine dS (fun _ k_ => gT rfl rfl (p_cmp rfl rfl rfl dn)) ?_
              refine dS (fun _ k_ => p_pkF rfl (rfl : _ = B (r56.2 != 0)) dn) ?_
              refine dS (fun _ k_ => p_mB rfl dn) ?_
              refine dB c96 ?_
              refine dS (fun _ k_ => gT rfl rfl (p_fld fl23_0 rfl dn)) ?_
              refine dS (fun _ k_ => gT rfl rfl (p_ld ty3 (Asr.stays (S59.atX (i := 1) rfl) k_) rfl rfl dn)) ?_
              refine dS (fun _ k_ => gT rfl rfl (p_fld fl23_1 rfl dn)) ?_
              refine dS (fun _ k_ => gT rfl rfl (p_ld ty3 (Asr.stays (S59.atX (i := 1) rfl) k_) rfl rfl dn)) ?_
              refine dS (fun _ k_ => gT rfl rfl (p_cmp rfl rfl rfl dn)) ?_
              refine dS (fun _ k_ => p_pkF rfl (rfl : _ = B (decide (r38.1.Low > r38.1.High))) dn) ?_
              refine dS (fun _ k_ => p_mB rfl dn) ?_
              refine dB c100 ?_
              refine dS (fun _ k_ => gF rfl rfl dnU) ?_
              refine dS (fun _ k_ => gF rfl rfl dnU) ?_
              refine dS (fun _ k_ => gF rfl rfl dnU) ?_
              refine dS (fun _ k_ => gF rfl rfl dnU) ?_
              refine dS (fun _ k_ => gF rfl rfl dnU) ?_
              refine dS (fun _ k_ => gF rfl rfl dnU) ?_
              refine dS (fun _ k_ => gF rfl rfl dnU) ?_
              refine dS (fun _ k_ => p_pkT rfl (rfl : _ = B true) dn) ?_
              refine dS (fun _ k_ => p_mB rfl dn) ?_
              refine dS (fun _ k_ => gF rfl rfl dnU) ?_
              refine dS (fun _ k_ => gF rfl rfl dnU) ?_
              refine dS (fun _ k_ => gF rfl rfl dnU) ?_
              refine dS (fun _ k_ => gF rfl rfl dnU) ?_
              refine dS (fun _ k_ => gF rfl rfl dnU) ?_
              refine dS (fun _ k_ => p_pkT rfl (rfl : _ = B true) dn) ?_
              refine dS (fun _ k_ => p_mB rfl dn) ?_
              refine dS (fun _ k_ => gF rfl rfl dnU) ?_
              refine dS (fun _ k_ => gF rfl rfl dnU) ?_
              refine dS (fun _ k_ => gF rfl rfl dnU) ?_
              refine dS (fun _ k_ => gF rfl rfl dnU) ?_
              refine dS (fun _ k_ => gF rfl rfl dnU) ?_
              refine dS (fun _ k_ => gF rfl rfl dnU) ?_
              refine dS (fun _ k_ => gF rfl rfl dnU) ?_
              refine dS (fun _ k_ => gF rfl rfl dnU) ?_
              refine dS (fun _ k_ => gF rfl rfl dnU) ?_
              refine dS (fun _ k_ => p_pkT rfl (rfl : _ = B true) dn) ?_
              intro w101 k102; have S103 := S59.call k102
              refine wp_nil ?_
              refine c_true rfl ?_
              refine c_seq ?_
              refine reg ?_
              refine p_aB rfl ?_
              refine wp_nil ?_
              obtain rfl := Option.some.inj H
              refine c_ret ?_; show bodyPostM (Fr none) 0 Tryd.prog Tryd.f7 _ .ret _ _
              refine ret_of (res1 rfl (rvT (rfl : _ = B false))) ?_
              exact ⟨_, rfl, rfl, S103.keep⟩
            · replace H := condF c100 H
              obtain ⟨h104, H⟩ := needS H
              obtain ⟨r105, h106, H⟩ := bindS H
              rcases Bool.eq_false_or_eq_true (!r105) with c107 | c107
              · replace H := condT c107 H
                refine reg_q mixed 40 (by kernel_rfl) ?_
                refine dS (fun _ k_ => p_mI rfl dn) ?_
                refine dS (fun _ k_ => p_cmp rfl rfl rfl dn) ?_
                refine dS (fun _ k_ => p_mB rfl dn) ?_
                refine dB c92 ?_
                refine dS (fun _ k_ => gT rfl rfl (p_mI rfl dn)) ?_
                refine dS (fun _ k_ => gT rfl rfl (p_cmp rfl rfl rfl dn)) ?_
                refine dS (fun _ k_ => p_pkF rfl (rfl : _ = B (r56.2 != 0)) dn) ?_
                refine dS (fun _ k_ => p_mB rfl dn) ?_
                refine dB c96 ?_
                refine dS (fun _ k_ => gT rfl rfl (p_fld fl23_0 rfl dn)) ?_
                refine dS (fun _ k_ => gT rfl rfl (p_ld ty3 (Asr.stays (S59.atX (i := 1) rfl) k_) rfl rfl dn)) ?_
                refine dS (fun _ k_ => gT rfl rfl (p_fld fl23_1 rfl dn)) ?_
                refine dS (fun _ k_ => gT rfl rfl (p_ld ty3 (Asr.stays (S59.atX (i := 1) rfl) k_) rfl rfl dn)) ?_
                refine dS (fun _ k_ => gT rfl rfl (p_cmp rfl rfl rfl dn)) ?_
                refine dS (fun _ k_ => p_pkF rfl (rfl : _ = B (decide (r38.1.Low > r38.1.High))) dn) ?_
                refine dS (fun _ k_ => p_mB rfl dn) ?_
                refine dB c100 ?_
                refine dS (fun _ k_ => gT rfl rfl (p_mI rfl dn)) ?_
                refine dS (fun _ k_ => gT rfl rfl (p_fld fl29_1 rfl dn)) ?_
                refine dS (fun _ k_ => gT rfl rfl (p_ixD ar24 h104 rfl rfl dn)) ?_
                refine dS (fun _ k_ => gT rfl rfl (p_ldDA (pre := [I a0.Heap.Low, I a0.Heap.High]) (post := sg a0.Extra 3 ++ [SL A1 a0.Days.length c2, I a0.Collier.Low, I a0.Collier.High, I a0.Brings, SL A4 a0.Dips.length c5]) ty23 sz23 (Asr.stays (S59.atX (i := 3) rfl) k_) rfl eSpan_len h104 rfl rfl dn)) ?_
                refine dS (fun _ k_ => gT rfl rfl (p_ldA ty23 sz23 (Asr.stays (S59.atX (i := 0) rfl) k_) rfl rfl dn)) ?_
                refine dS (fun _ k_ => gT rfl rfl (p_cvD (B_Covers_ok h106) fu39 rfl)) ?_
                refine dS (fun _ k_ => gT rfl rfl (p_not rfl dn)) ?_
                refine dS (fun _ k_ => p_pkF rfl (rfl : _ = B (!r105)) dn) ?_
                refine dS (fun _ k_ => p_mB rfl dn) ?_
                refine dB c107 ?_
                refine dS (fun _ k_ => gF rfl rfl dnU) ?_
                refine dS (fun _ k_ => gF rfl rfl dnU) ?_
                refine dS (fun _ k_ => gF rfl rfl dnU) ?_
                refine dS (fun _ k_ => gF rfl rfl dnU) ?_
                refine dS (fun _ k_ => gF rfl rfl dnU) ?_
                refine dS (fun _ k_ => p_pkT rfl (rfl : _ = B true) dn) ?_
                refine dS (fun _ k_ => p_mB rfl dn) ?_
                refine dS (fun _ k_ => gF rfl rfl dnU) ?_
                refine dS (fun _ k_ => gF rfl rfl dnU) ?_
                refine dS (fun _ k_ => gF rfl rfl dnU) ?_
                refine dS (fun _ k_ => gF rfl rfl dnU) ?_
                refine dS (fun _ k_ => gF rfl rfl dnU) ?_
                refine dS (fun _ k_ => gF rfl rfl dnU) ?_
                refine dS (fun _ k_ => gF rfl rfl dnU) ?_
                refine dS (fun _ k_ => gF rfl rfl dnU) ?_
                refine dS (fun _ k_ => gF rfl rfl dnU) ?_
                refine dS (fun _ k_ => p_pkT rfl (rfl : _ = B true) dn) ?_
                intro w108 k109; have S110 := S59.call k109
                refine wp_nil ?_
                refine c_true rfl ?_
                refine c_seq ?_
                refine reg ?_
                refine p_aB rfl ?_
                refine wp_nil ?_
                obtain rfl := Option.some.inj H
                refine c_ret ?_; show bodyPostM (Fr none) 0 Tryd.prog Tryd.f7 _ .ret _ _
                refine ret_of (res1 rfl (rvT (rfl : _ = B false))) ?_
                exact ⟨_, rfl, rfl, S110.keep⟩
              · replace H := condF c107 H
                rcases Bool.eq_false_or_eq_true (decide (r47.1.Low > r47.1.High)) with c111 | c111
                · replace H := condT c111 H
                  refine reg_q mixed 40 (by kernel_rfl) ?_
                  refine dS (fun _ k_ => p_mI rfl dn) ?_
                  refine dS (fun _ k_ => p_cmp rfl rfl rfl dn) ?_
                  refine dS (fun _ k_ => p_mB rfl dn) ?_
                  refine dB c92 ?_
                  refine dS (fun _ k_ => gT rfl rfl (p_mI rfl dn)) ?_
                  refine dS (fun _ k_ => gT rfl rfl (p_cmp rfl rfl rfl dn)) ?_
                  refine dS (fun _ k_ => p_pkF rfl (rfl : _ = B (r56.2 != 0)) dn) ?_
                  refine dS (fun _ k_ => p_mB rfl dn) ?_
                  refine dB c96 ?_
                  refine dS (fun _ k_ => gT rfl rfl (p_fld fl23_0 rfl dn)) ?_
                  refine dS (fun _ k_ => gT rfl rfl (p_ld ty3 (Asr.stays (S59.atX (i := 1) rfl) k_) rfl rfl dn)) ?_
                  refine dS (fun _ k_ => gT rfl rfl (p_fld fl23_1 rfl dn)) ?_
                  refine dS (fun _ k_ => gT rfl rfl (p_ld ty3 (Asr.stays (S59.atX (i := 1) rfl) k_) rfl rfl dn)) ?_
                  refine dS (fun _ k_ => gT rfl rfl (p_cmp rfl rfl rfl dn)) ?_
                  refine dS (fun _ k_ => p_pkF rfl (rfl : _ = B (decide (r38.1.Low > r38.1.High))) dn) ?_
                  refine dS (fun _ k_ => p_mB rfl dn) ?_
                  refine dB c100 ?_
                  refine dS (fun _ k_ => gT rfl rfl (p_mI rfl dn)) ?_
                  refine dS (fun _ k_ => gT rfl rfl (p_fld fl29_1 rfl dn)) ?_
                  refine dS (fun _ k_ => gT rfl rfl (p_ixD ar24 h104 rfl rfl dn)) ?_
                  refine dS (fun _ k_ => gT rfl rfl (p_ldDA (pre := [I a0.Heap.Low, I a0.Heap.High]) (post := sg a0.Extra 3 ++ [SL A1 a0.Days.length c2, I a0.Collier.Low, I a0.Collier.High, I a0.Brings, SL A4 a0.Dips.length c5]) ty23 sz23 (Asr.stays (S59.atX (i := 3) rfl) k_) rfl eSpan_len h104 rfl rfl dn)) ?_
                  refine dS (fun _ k_ => gT rfl rfl (p_ldA ty23 sz23 (Asr.stays (S59.atX (i := 0) rfl) k_) rfl rfl dn)) ?_
                  refine dS (fun _ k_ => gT rfl rfl (p_cvD (B_Covers_ok h106) fu39 rfl)) ?_
                  refine dS (fun _ k_ => gT rfl rfl (p_not rfl dn)) ?_
                  refine dS (fun _ k_ => p_pkF rfl (rfl : _ = B (!r105)) dn) ?_
                  refine dS (fun _ k_ => p_mB rfl dn) ?_
                  refine dB c107 ?_
                  refine dS (fun _ k_ => gT rfl rfl (p_fld fl23_0 rfl dn)) ?_
                  refine dS (fun _ k_ => gT rfl rfl (p_ld ty3 (Asr.stays (S59.atX (i := 0) rfl) k_) rfl rfl dn)) ?_
                  refine dS (fun _ k_ => gT rfl rfl (p_fld fl23_1 rfl dn)) ?_
                  refine dS (fun _ k_ => gT rfl rfl (p_ld ty3 (Asr.stays (S59.atX (i := 0) rfl) k_) rfl rfl dn)) ?_
                  refine dS (fun _ k_ => gT rfl rfl (p_cmp rfl rfl rfl dn)) ?_
                  refine dS (fun _ k_ => p_pkF rfl (rfl : _ = B (decide (r47.1.Low > r47.1.High))) dn) ?_
                  refine dS (fun _ k_ => p_mB rfl dn) ?_
                  refine dB c111 ?_
                  refine dS (fun _ k_ => gF rfl rfl dnU) ?_
                  refine dS (fun _ k_ => gF rfl rfl dnU) ?_
                  refine dS (fun _ k_ => gF rfl rfl dnU) ?_
                  refine dS (fun _ k_ => gF rfl rfl dnU) ?_
                  refine dS (fun _ k_ => gF rfl rfl dnU) ?_
                  refine dS (fun _ k_ => gF rfl rfl dnU) ?_
                  refine dS (fun _ k_ => gF rfl rfl dnU) ?_
                  refine dS (fun _ k_ => gF rfl rfl dnU) ?_
                  refine dS (fun _ k_ => gF rfl rfl dnU) ?_
                  refine dS (fun _ k_ => p_pkT rfl (rfl : _ = B true) dn) ?_
                  intro w112 k113; have S114 := S59.call k113
                  refine wp_nil ?_
                  refine c_true rfl ?_
                  refine c_seq ?_
                  refine reg ?_
                  refine p_aB rfl ?_
                  refine wp_nil ?_
                  obtain rfl := Option.some.inj H
                  refine c_ret ?_; show bodyPostM (Fr none) 0 Tryd.prog Tryd.f7 _ .ret _ _
                  refine ret_of (res1 rfl (rvT (rfl : _ = B false))) ?_
                  exact ⟨_, rfl, rfl, S114.keep⟩
                · replace H := condF c111 H
                  obtain ⟨r115, h116, H⟩ := bindS H
                  refine reg_q mixed 40 (by kernel_rfl) ?_
                  refine dS (fun _ k_ => p_mI rfl dn) ?_
                  refine dS (fun _ k_ => p_cmp rfl rfl rfl dn) ?_
                  refine dS (fun _ k_ => p_mB rfl dn) ?_
                  refine dB c92 ?_
                  refine dS (fun _ k_ => gT rfl rfl (p_mI rfl dn)) ?_
                  refine dS (fun _ k_ => gT rfl rfl (p_cmp rfl rfl rfl dn)) ?_
                  refine dS (fun _ k_ => p_pkF rfl (rfl : _ = B (r56.2 != 0)) dn) ?_
                  refine dS (fun _ k_ => p_mB rfl dn) ?_
                  refine dB c96 ?_
                  refine dS (fun _ k_ => gT rfl rfl (p_fld fl23_0 rfl dn)) ?_
                  refine dS (fun _ k_ => gT rfl rfl (p_ld ty3 (Asr.stays (S59.atX (i := 1) rfl) k_) rfl rfl dn)) ?_
                  refine dS (fun _ k_ => gT rfl rfl (p_fld fl23_1 rfl dn)) ?_
                  refine dS (fun _ k_ => gT rfl rfl (p_ld ty3 (Asr.stays (S59.atX (i := 1) rfl) k_) rfl rfl dn)) ?_
                  refine dS (fun _ k_ => gT rfl rfl (p_cmp rfl rfl rfl dn)) ?_
                  refine dS (fun _ k_ => p_pkF rfl (rfl : _ = B (decide (r38.1.Low > r38.1.High))) dn) ?_
                  refine dS (fun _ k_ => p_mB rfl dn) ?_
                  refine dB c100 ?_
                  refine dS (fun _ k_ => gT rfl rfl (p_mI rfl dn)) ?_
                  refine dS (fun _ k_ => gT rfl rfl (p_fld fl29_1 rfl dn)) ?_
                  refine dS (fun _ k_ => gT rfl rfl (p_ixD ar24 h104 rfl rfl dn)) ?_
                  refine dS (fun _ k_ => gT rfl rfl (p_ldDA (pre := [I a0.Heap.Low, I a0.Heap.High]) (post := sg a0.Extra 3 ++ [SL A1 a0.Days.length c2, I a0.Collier.Low, I a0.Collier.High, I a0.Brings, SL A4 a0.Dips.length c5]) ty23 sz23 (Asr.stays (S59.atX (i := 3) rfl) k_) rfl eSpan_len h104 rfl rfl dn)) ?_
                  refine dS (fun _ k_ => gT rfl rfl (p_ldA ty23 sz23 (Asr.stays (S59.atX (i := 0) rfl) k_) rfl rfl dn)) ?_
                  refine dS (fun _ k_ => gT rfl rfl (p_cvD (B_Covers_ok h106) fu39 rfl)) ?_
                  refine dS (fun _ k_ => gT rfl rfl (p_not rfl dn)) ?_
                  refine dS (fun _ k_ => p_pkF rfl (rfl : _ = B (!r105)) dn) ?_
                  refine dS (fun _ k_ => p_mB rfl dn) ?_
                  refine dB c107 ?_
                  refine dS (fun _ k_ => gT rfl rfl (p_fld fl23_0 rfl dn)) ?_
                  refine dS (fun _ k_ => gT rfl rfl (p_ld ty3 (Asr.stays (S59.atX (i := 0) rfl) k_) rfl rfl dn)) ?_
                  refine dS (fun _ k_ => gT rfl rfl (p_fld fl23_1 rfl dn)) ?_
                  refine dS (fun _ k_ => gT rfl rfl (p_ld ty3 (Asr.stays (S59.atX (i := 0) rfl) k_) rfl rfl dn)) ?_
                  refine dS (fun _ k_ => gT rfl rfl (p_cmp rfl rfl rfl dn)) ?_
                  refine dS (fun _ k_ => p_pkF rfl (rfl : _ = B (decide (r47.1.Low > r47.1.High))) dn) ?_
                  refine dS (fun _ k_ => p_mB rfl dn) ?_
                  refine dB c111 ?_
                  refine dS (fun _ k_ => gT rfl rfl (p_mI rfl dn)) ?_
                  refine dS (fun _ k_ => gT rfl rfl (p_fld fl29_3 rfl dn)) ?_
                  refine dS (fun _ k_ => gT rfl rfl (p_ld ty26 (Asr.stays (S59.atX (i := 3) rfl) k_) rfl rfl dn)) ?_
                  refine dS (fun _ k_ => gT rfl rfl (p_mI rfl dn)) ?_
                  refine dS (fun _ k_ => gT rfl rfl (p_ixE sc26 h116 (Asr.stays (S59.atP (i := 0) rfl) k_).1 rfl rfl rfl dn)) ?_
                  refine dS (fun _ k_ => gT rfl rfl (p_fldE fl64_2 (sl_here (Asr.stays (S59.atP (i := 0) rfl) k_).1 h116) rfl dn)) ?_
                  refine dS (fun _ k_ => gT rfl rfl (p_ldE ty3 h116 (Asr.stays (S59.atP (i := 0) rfl) k_).1 rfl rfl dn)) ?_
                  refine dS (fun _ k_ => gT rfl rfl (p_andNotI rfl rfl dn)) ?_
                  refine dS (fun _ k_ => gT rfl rfl (p_cmp rfl rfl rfl dn)) ?_
                  refine dS (fun _ k_ => p_pkF rfl (rfl : _ = B ((andNotI r56.1 r115.Winds) != 0)) dn) ?_
                  intro w117 k118; have S119 := S59.call k118
                  refine wp_nil ?_
                  refine c_cond rfl (fun c120 => ?_) (fun c120 => ?_)
                  · replace H := condT c120 H
                    refine c_seq ?_
                    refine reg ?_
                    refine p_aB rfl ?_
                    refine wp_nil ?_
                    obtain rfl := Option.some.inj H
                    refine c_ret ?_; show bodyPostM (Fr none) 0 Tryd.prog Tryd.f7 _ .ret _ _
                    refine ret_of (res1 rfl (rvT (rfl : _ = B false))) ?_
                    exact ⟨_, rfl, rfl, S119.keep⟩
                  · replace H := condF c120 H
                    refine c_skip ?_
                    refine c_seq ?_
                    obtain ⟨r121, h122, H⟩ := bindS H
                    refine reg_q mixed 13 (by kernel_rfl) ?_
                    refine dS (fun _ k_ => p_fld fl23_0 rfl dn) ?_
                    refine dS (fun _ k_ => p_ld ty3 (Asr.stays (S119.atX (i := 1) rfl) k_) rfl rfl dn) ?_
                    refine dS (fun _ k_ => p_fld fl23_1 rfl dn) ?_
                    refine dS (fun _ k_ => p_ld ty3 (Asr.stays (S119.atX (i := 1) rfl) k_) rfl rfl dn) ?_
                    refine dS (fun _ k_ => p_fld fl23_0 rfl dn) ?_
                    refine dS (fun _ k_ => p_ld ty3 (Asr.stays (S119.atX (i := 1) rfl) k_) rfl rfl dn) ?_
                    refine dS (fun _ k_ => p_sub rfl rfl dn) ?_
                    refine dS (fun _ k_ => p_fld fl23_1 rfl dn) ?_
                    refine dS (fun _ k_ => p_ld ty3 (Asr.stays (S119.atX (i := 1) rfl) k_) rfl rfl dn) ?_
                    refine dS (fun _ k_ => p_add rfl rfl dn) ?_
                    refine dS (fun _ k_ => p_ixc ar60 rfl rfl (by decide) (by decide) dn) ?_
                    refine dS (fun _ k_ => p_ld ty3 (Asr.stays (S119.atX (i := 2) rfl) k_) rfl rfl dn) ?_
                    refine dS (fun _ k_ => p_cvD (B_Mod_ok h122) fu25 rfl) ?_
                    intro w123 k124; have S125 := S119.call k124
                    refine p_bsl (enc := intE) (l := [r38.1.Low, r38.1.High, wr (r38.1.Low - 1), wr (r38.1.High + 1), r121]) I (fun _ => rfl) sc39 in3 intE_len rfl (by decide) (by decide) zr3_5 S125 rfl fun A126 c127 w128 S129 => ?_
                    refine p_aS rfl ?_
                    refine wp_nil ?_
                    refine c_seq ?_
                    refine c_seq ?_
                    refine reg ?_
                    refine p_aI rfl ?_
                    refine wp_nil ?_
                    refine c_block ?_
                    have S131 := S129.pk [0, 1, 2, 4] (by decide) [0, 1, 2, 3] rfl rfl
                    refine c_lop (α := Int) (β := Unit) (law_CoalEnds_l4 r38 r121 a0 r29 r47 r31 r33 r56) (fun z_1 y_1 => [(2, P b9 0), (5, I r29), (6, I r31), (7, I r33), (8, P b42 0), (10, P b51 0), (12, I r56.1), (14, SL A126 [r38.1.Low, r38.1.High, wr (r38.1.Low - 1), wr (r38.1.High + 1), r121].length c127), (15, I z_1)]) (fun z_1 y_1 w_ => St w (fun _ => False) w_ [gr intE 1 3 A126 c127 [r38.1.Low, r38.1.High, wr (r38.1.Low - 1), wr (r38.1.High + 1), r121], bl b51 [I r47.1.Low, I r47.1.High] 23, bl b42 [I r38.1.Low, I r38.1.High] 23, bl b9 ([I a0.Heap.Low, I a0.Heap.High] ++ (sgE eSpan a0.Eats 2 ++ (sg a0.Extra 3 ++ [SL A1 a0.Days.length c2, I a0.Collier.Low, I a0.Collier.High, I a0.Brings, SL A4 a0.Dips.length c5]))) 29] [rd eCoalDay 3 A1 c2 a0.Days, rd eCoalDip 3 A4 c5 a0.Dips, bl 0 [Value.func (.func 128) #[] #[], Value.func (.func 129) #[] #[]] 110, bl 1 [I (-1), I (-1)] 123]) 0 () H ⟨rfl, rfl, rfl, rfl, rfl, rfl, rfl, rfl, rfl, trivial⟩ S131 ?_
                    intro m132 z_1 y_1 e133 w134 H S135
                    unfold law_CoalEnds_l4 at H
                    refine c_seq ?_
                    refine c_seq ?_
                    refine reg ?_
                    refine p_mI rfl ?_
                    refine p_mS rfl ?_
                    refine p_len rfl sc39 ?_
                    refine p_cmp rfl rfl rfl ?_
                    refine wp_nil ?_
                    refine c_cond rfl (fun c136 => ?_) (fun c136 => ?_)
                    · replace H := condT c136 H
                      refine c_skip ?_
                      refine c_seq ?_
                      refine c_block ?_
                      refine c_seq ?_
                      refine c_seq ?_
                      refine reg ?_
                      refine p_mS rfl ?_
                      refine p_mI rfl ?_
                      obtain ⟨r137, h138, H⟩ := bindS H
                      refine p_ixE sc39 h138 (gr_sl intE_len (S135.atX (i := 0) rfl)) rfl rfl rfl ?_
                      refine p_ldE ty3 h138 (gr_sl intE_len (S135.atX (i := 0) rfl)) rfl rfl ?_
                      obtain ⟨r139, h140, H⟩ := bindS H
                      refine p_cv (B_Inside_ok h140) fu34 rfl S135 fun w141 S142 => ?_
                      refine p_not rfl ?_
                      refine wp_nil ?_
                      refine c_cond rfl (fun c143 => ?_) (fun c143 => ?_)
                      · replace H := condT c143 H
                        refine c_exit ?_
                        refine reg ?_
                        refine p_mI rfl ?_
                        refine p_add rfl rfl ?_
                        refine p_aI rfl ?_
                        refine wp_nil ?_
                        exact ⟨wr (z_1 + 1), (), _, rfl, ⟨rfl, rfl, rfl, rfl, rfl, rfl, rfl, rfl, rfl, trivial⟩, H, S142⟩
                      · replace H := condF c143 H
                        refine c_skip ?_
                        refine c_seq ?_
                        obtain ⟨r146, h147, H⟩ := bindS H
                        obtain ⟨r153, h154, H⟩ := bindS H
                        obtain ⟨r166, h167, H⟩ := bindS H
                        refine reg_any mixed 14 (by kernel_rfl) [rv (AG ([I a0.Heap.Low, I a0.Heap.High] ++ (sgE eSpan a0.Eats 2 ++ (sg a0.Extra 3 ++ [SL A1 a0.Days.length c2, I a0.Collier.Low, I a0.Collier.High, I a0.Brings, SL A4 a0.Dips.length c5])))), rv (I r29), rv (SL A126 [r38.1.Low, r38.1.High, wr (r38.1.Low - 1), wr (r38.1.High + 1), r121].length c127), rv (I z_1), rv (PE A126 (z_1.toNat * 1 + 0)), rv (I r146), rv (AG [I r29, I r146, I 0]), rx (α := (Option Addr) × Nat) (fun ⟨A157, c158⟩ => AG ([I r153.Heap.Low, I r153.Heap.High] ++ (sgE eSpan r153.Eats 2 ++ (sg r153.Extra 3 ++ [SL A1 a0.Days.length c2, I r153.Collier.Low, I r153.Collier.High, I r153.Brings, SL A157 r153.Dips.length c158])))) (fun ⟨A157, c158⟩ lo hi => BtwL lo hi [] (gr eCoalDip 3 67 A157 c158 r153.Dips) ∧ True) (fun ⟨A157, c158⟩ => [gr eCoalDip 3 67 A157 c158 r153.Dips]), rv (TU [B r166.1, I r166.2]), rv (TU [B r166.1, I r166.2]), rv (B r166.1), rv (I r166.2), rv (B r166.1), rv (I r166.2)] [[], [], [], [], [], [], [], [], [], [], [], [], [], []] rfl (by kernel_rfl) [[], [], [], [], [2, 3], [2, 3, 4], [1, 2, 3, 4, 5], [0, 1, 2, 3, 4, 5, 6], [0, 1, 2, 3, 4, 5, 6, 7], [0, 1, 2, 3, 4, 5, 6, 7, 8], [0, 1, 2, 3, 4, 5, 6, 7, 8, 9], [0, 1, 2, 3, 4, 5, 6, 7, 8, 9], [0, 1, 2, 3, 4, 5, 6, 7, 8, 9, 10], [0, 1, 2, 3, 4, 5, 6, 7, 8, 9, 10, 11, 12]] (by kernel_rfl) ⟨?_, ?_, ?_, ?_, ?_, ?_, ?_, ?_, ?_, ?_, ?_, ?_, ?_, ?_, trivial⟩ ?_
                        · intro e_ w_ k_ hf_ hR_
                          have S_ : St w_ (fun _ => False) w_ [] [gr intE 1 3 A126 c127 [r38.1.Low, r38.1.High, wr (r38.1.Low - 1), wr (r38.1.High + 1), r121], bl b51 [I r47.1.Low, I r47.1.High] 23, bl b42 [I r38.1.Low, I r38.1.High] 23, bl b9 ([I a0.Heap.Low, I a0.Heap.High] ++ (sgE eSpan a0.Eats 2 ++ (sg a0.Extra 3 ++ [SL A1 a0.Days.length c2, I a0.Collier.Low, I a0.Collier.High, I a0.Brings, SL A4 a0.Dips.length c5]))) 29, rd eCoalDay 3 A1 c2 a0.Days, rd eCoalDip 3 A4 c5 a0.Dips, bl 0 [Value.func (.func 128) #[] #[], Value.func (.func 129) #[] #[]] 110, bl 1 [I (-1), I (-1)] 123] := S142.asP k_
                          refine hopE [(2, P b9 0)] ⟨((hf_ 2 rfl).trans (rfl : _ = P b9 0)), trivial⟩ ?_
                          refine p_ldA ty29 sz29 (S_.atP (i := 3) rfl) rfl rfl ?_
                          refine wp_nil ?_
                          exact ⟨_, rfl, S_.keep, rfl⟩
                        · intro e_ w_ k_ hf_ hR_
                          have S_ : St w_ (fun _ => False) w_ [] [gr intE 1 3 A126 c127 [r38.1.Low, r38.1.High, wr (r38.1.Low - 1), wr (r38.1.High + 1), r121], bl b51 [I r47.1.Low, I r47.1.High] 23, bl b42 [I r38.1.Low, I r38.1.High] 23, bl b9 ([I a0.Heap.Low, I a0.Heap.High] ++ (sgE eSpan a0.Eats 2 ++ (sg a0.Extra 3 ++ [SL A1 a0.Days.length c2, I a0.Collier.Low, I a0.Collier.High, I a0.Brings, SL A4 a0.Dips.length c5]))) 29, rd eCoalDay 3 A1 c2 a0.Days, rd eCoalDip 3 A4 c5 a0.Dips, bl 0 [Value.func (.func 128) #[] #[], Value.func (.func 129) #[] #[]] 110, bl 1 [I (-1), I (-1)] 123] := S142.asP k_
                          refine hopE [(5, I r29)] ⟨((hf_ 5 rfl).trans (rfl : _ = I r29)), trivial⟩ ?_
                          refine p_mI rfl ?_
                          refine wp_nil ?_
                          exact ⟨_, rfl, S_.keep, rfl⟩
                        · intro e_ w_ k_ hf_ hR_
                          have S_ : St w_ (fun _ => False) w_ [] [gr intE 1 3 A126 c127 [r38.1.Low, r38.1.High, wr (r38.1.Low - 1), wr (r38.1.High + 1), r121], bl b51 [I r47.1.Low, I r47.1.High] 23, bl b42 [I r38.1.Low, I r38.1.High] 23, bl b9 ([I a0.Heap.Low, I a0.Heap.High] ++ (sgE eSpan a0.Eats 2 ++ (sg a0.Extra 3 ++ [SL A1 a0.Days.length c2, I a0.Collier.Low, I a0.Collier.High, I a0.Brings, SL A4 a0.Dips.length c5]))) 29, rd eCoalDay 3 A1 c2 a0.Days, rd eCoalDip 3 A4 c5 a0.Dips, bl 0 [Value.func (.func 128) #[] #[], Value.func (.func 129) #[] #[]] 110, bl 1 [I (-1), I (-1)] 123] := S142.asP k_
                          refine hopE [(14, SL A126 [r38.1.Low, r38.1.High, wr (r38.1.Low - 1), wr (r38.1.High + 1), r121].length c127)] ⟨((hf_ 14 rfl).trans (rfl : _ = SL A126 [r38.1.Low, r38.1.High, wr (r38.1.Low - 1), wr (r38.1.High + 1), r121].length c127)), trivial⟩ ?_
                          refine p_mS rfl ?_
                          refine wp_nil ?_
                          exact ⟨_, rfl, S_.keep, rfl⟩
                        · intro e_ w_ k_ hf_ hR_
                          have S_ : St w_ (fun _ => False) w_ [] [gr intE 1 3 A126 c127 [r38.1.Low, r38.1.High, wr (r38.1.Low - 1), wr (r38.1.High + 1), r121], bl b51 [I r47.1.Low, I r47.1.High] 23, bl b42 [I r38.1.Low, I r38.1.High] 23, bl b9 ([I a0.Heap.Low, I a0.Heap.High] ++ (sgE eSpan a0.Eats 2 ++ (sg a0.Extra 3 ++ [SL A1 a0.Days.length c2, I a0.Collier.Low, I a0.Collier.High, I a0.Brings, SL A4 a0.Dips.length c5]))) 29, rd eCoalDay 3 A1 c2 a0.Days, rd eCoalDip 3 A4 c5 a0.Dips, bl 0 [Value.func (.func 128) #[] #[], Value.func (.func 129) #[] #[]] 110, bl 1 [I (-1), I (-1)] 123] := S142.asP k_
                          refine hopE [(15, I z_1)] ⟨((hf_ 15 rfl).trans (rfl : _ = I z_1)), trivial⟩ ?_
                          refine p_mI rfl ?_
                          refine wp_nil ?_
                          exact ⟨_, rfl, S_.keep, rfl⟩
                        · intro e_ w_ k_ hf_ hR_
                          have S_ : St w_ (fun _ => False) w_ [] [gr intE 1 3 A126 c127 [r38.1.Low, r38.1.High, wr (r38.1.Low - 1), wr (r38.1.High + 1), r121], bl b51 [I r47.1.Low, I r47.1.High] 23, bl b42 [I r38.1.Low, I r38.1.High] 23, bl b9 ([I a0.Heap.Low, I a0.Heap.High] ++ (sgE eSpan a0.Eats 2 ++ (sg a0.Extra 3 ++ [SL A1 a0.Days.length c2, I a0.Collier.Low, I a0.Collier.High, I a0.Brings, SL A4 a0.Dips.length c5]))) 29, rd eCoalDay 3 A1 c2 a0.Days, rd eCoalDip 3 A4 c5 a0.Dips, bl 0 [Value.func (.func 128) #[] #[], Value.func (.func 129) #[] #[]] 110, bl 1 [I (-1), I (-1)] 123] := S142.asP k_
                          obtain ⟨_, _, _, _, q144⟩ := hR_ 2 165 rfl (Nat.le_of_ble_eq_true rfl) rfl
                          obtain ⟨_, _, _, _, q145⟩ := hR_ 3 166 rfl (Nat.le_of_ble_eq_true rfl) rfl
                          refine hopE [(165, SL A126 [r38.1.Low, r38.1.High, wr (r38.1.Low - 1), wr (r38.1.High + 1), r121].length c127), (166, I z_1)] ⟨q144, q145, trivial⟩ ?_
                          refine p_ixE sc39 h147 (gr_sl intE_len (S_.atP (i := 0) rfl)) rfl rfl rfl ?_
                          refine wp_nil ?_
                          exact ⟨_, rfl, S_.keep, rfl⟩
                        · intro e_ w_ k_ hf_ hR_
                          have S_ : St w_ (fun _ => False) w_ [] [gr intE 1 3 A126 c127 [r38.1.Low, r38.1.High, wr (r38.1.Low - 1), wr (r38.1.High + 1), r121], bl b51 [I r47.1.Low, I r47.1.High] 23, bl b42 [I r38.1.Low, I r38.1.High] 23, bl b9 ([I a0.Heap.Low, I a0.Heap.High] ++ (sgE eSpan a0.Eats 2 ++ (sg a0.Extra 3 ++ [SL A1 a0.Days.length c2, I a0.Collier.Low, I a0.Collier.High, I a0.Brings, SL A4 a0.Dips.length c5]))) 29, rd eCoalDay 3 A1 c2 a0.Days, rd eCoalDip 3 A4 c5 a0.Dips, bl 0 [Value.func (.func 128) #[] #[], Value.func (.func 129) #[] #[]] 110, bl 1 [I (-1), I (-1)] 123] := S142.asP k_
                          obtain ⟨_, _, _, _, q148⟩ := hR_ 4 167 rfl (Nat.le_of_ble_eq_true rfl) rfl
                          refine hopE [(167, PE A126 (z_1.toNat * 1 + 0))] ⟨q148, trivial⟩ ?_
                          refine p_ldE ty3 h147 (gr_sl intE_len (S_.atP (i := 0) rfl)) rfl rfl ?_
                          refine wp_nil ?_
                          exact ⟨_, rfl, S_.keep, rfl⟩
                        · intro e_ w_ k_ hf_ hR_
                          have S_ : St w_ (fun _ => False) w_ [] [gr intE 1 3 A126 c127 [r38.1.Low, r38.1.High, wr (r38.1.Low - 1), wr (r38.1.High + 1), r121], bl b51 [I r47.1.Low, I r47.1.High] 23, bl b42 [I r38.1.Low, I r38.1.High] 23, bl b9 ([I a0.Heap.Low, I a0.Heap.High] ++ (sgE eSpan a0.Eats 2 ++ (sg a0.Extra 3 ++ [SL A1 a0.Days.length c2, I a0.Collier.Low, I a0.Collier.High, I a0.Brings, SL A4 a0.Dips.length c5]))) 29, rd eCoalDay 3 A1 c2 a0.Days, rd eCoalDip 3 A4 c5 a0.Dips, bl 0 [Value.func (.func 128) #[] #[], Value.func (.func 129) #[] #[]] 110, bl 1 [I (-1), I (-1)] 123] := S142.asP k_
                          obtain ⟨_, _, _, _, q149⟩ := hR_ 1 164 rfl (Nat.le_of_ble_eq_true rfl) rfl
                          obtain ⟨_, _, _, _, q150⟩ := hR_ 5 168 rfl (Nat.le_of_ble_eq_true rfl) rfl
                          refine hopE [(164, I r29), (168, I r146)] ⟨q149, q150, trivial⟩ ?_
                          refine p_bld (cs := [I r29, I r146, I 0]) st67 (rfl : _ = [(0, I r29), (1, I r146)]) (by kernel_rfl) ?_
                          refine wp_nil ?_
                          exact ⟨_, rfl, S_.keep, rfl⟩
                        · intro e_ w_ k_ hf_ hR_
                          have S_ : St w_ (fun _ => False) w_ [] [gr intE 1 3 A126 c127 [r38.1.Low, r38.1.High, wr (r38.1.Low - 1), wr (r38.1.High + 1), r121], bl b51 [I r47.1.Low, I r47.1.High] 23, bl b42 [I r38.1.Low, I r38.1.High] 23, bl b9 ([I a0.Heap.Low, I a0.Heap.High] ++ (sgE eSpan a0.Eats 2 ++ (sg a0.Extra 3 ++ [SL A1 a0.Days.length c2, I a0.Collier.Low, I a0.Collier.High, I a0.Brings, SL A4 a0.Dips.length c5]))) 29, rd eCoalDay 3 A1 c2 a0.Days, rd eCoalDip 3 A4 c5 a0.Dips, bl 0 [Value.func (.func 128) #[] #[], Value.func (.func 129) #[] #[]] 110, bl 1 [I (-1), I (-1)] 123] := S142.asP k_
                          obtain ⟨_, _, _, _, q151⟩ := hR_ 0 163 rfl (Nat.le_of_ble_eq_true rfl) rfl
                          obtain ⟨_, _, _, _, q152⟩ := hR_ 6 169 rfl (Nat.le_of_ble_eq_true rfl) rfl
                          refine hopE [(163, AG ([I a0.Heap.Low, I a0.Heap.High] ++ (sgE eSpan a0.Eats 2 ++ (sg a0.Extra 3 ++ [SL A1 a0.Days.length c2, I a0.Collier.Low, I a0.Collier.High, I a0.Brings, SL A4 a0.Dips.length c5])))), (169, AG [I r29, I r146, I 0])] ⟨q151, q152, trivial⟩ ?_
                          refine p_cal (law_with_ok h154 (S_.atP (i := 4) rfl) (S_.atP (i := 5) rfl)) fu40 rfl ?_
                          rintro _ w155 ⟨A157, c158, rfl, k156, ⟨o159, n160⟩, _⟩
                          have S162 := S_.addNew k156 o159 n160
                          refine wp_nil ?_
                          exact ⟨_, rfl, S162.keep, ⟨(A157, c158), rfl, ⟨BtwL.of (New.al (S162.newX (i := 0) rfl)) rfl (S162.atX (i := 0) rfl) rfl, trivial⟩, (List.forall_mem_cons.2 ⟨(S162.atX (i := 0) rfl), (fun _ h_ => (List.not_mem_nil h_).elim)⟩)⟩⟩
                        · intro e_ w_ k_ hf_ hR_
                          have S_ : St w_ (fun _ => False) w_ [] [gr intE 1 3 A126 c127 [r38.1.Low, r38.1.High, wr (r38.1.Low - 1), wr (r38.1.High + 1), r121], bl b51 [I r47.1.Low, I r47.1.High] 23, bl b42 [I r38.1.Low, I r38.1.High] 23, bl b9 ([I a0.Heap.Low, I a0.Heap.High] ++ (sgE eSpan a0.Eats 2 ++ (sg a0.Extra 3 ++ [SL A1 a0.Days.length c2, I a0.Collier.Low, I a0.Collier.High, I a0.Brings, SL A4 a0.Dips.length c5]))) 29, rd eCoalDay 3 A1 c2 a0.Days, rd eCoalDip 3 A4 c5 a0.Dips, bl 0 [Value.func (.func 128) #[] #[], Value.func (.func 129) #[] #[]] 110, bl 1 [I (-1), I (-1)] 123] := S142.asP k_
                          obtain ⟨_, _, _, _, ⟨A157, c158⟩, q163, p164, a165⟩ := hR_ 7 170 rfl (Nat.le_of_ble_eq_true rfl) rfl
                          replace q163 : e_ 170 = AG ([I r153.Heap.Low, I r153.Heap.High] ++ (sgE eSpan r153.Eats 2 ++ (sg r153.Extra 3 ++ [SL A1 a0.Days.length c2, I r153.Collier.Low, I r153.Collier.High, I r153.Brings, SL A157 r153.Dips.length c158]))) := q163
                          have S_ := St.addL' S_ (a165 _ (.head _)) (fun _ _ _ h_ => (List.not_mem_nil h_).elim)
                          refine hopE [(170, AG ([I r153.Heap.Low, I r153.Heap.High] ++ (sgE eSpan r153.Eats 2 ++ (sg r153.Extra 3 ++ [SL A1 a0.Days.length c2, I r153.Collier.Low, I r153.Collier.High, I r153.Brings, SL A157 r153.Dips.length c158]))))] ⟨q163, trivial⟩ ?_
                          refine p_cv (coal_Right_ok h167 (S_.atP (i := 5) rfl) (gr_rd eCoalDip_len (S_.atP (i := 0) rfl)) (S_.atP (i := 8) rfl)) fu26 rfl S_ fun w168 S169 => ?_
                          refine wp_nil ?_
                          exact ⟨_, rfl, S169.keep, rfl⟩
                        · intro e_ w_ k_ hf_ hR_
                          have S_ : St w_ (fun _ => False) w_ [] [gr intE 1 3 A126 c127 [r38.1.Low, r38.1.High, wr (r38.1.Low - 1), wr (r38.1.High + 1), r121], bl b51 [I r47.1.Low, I r47.1.High] 23, bl b42 [I r38.1.Low, I r38.1.High] 23, bl b9 ([I a0.Heap.Low, I a0.Heap.High] ++ (sgE eSpan a0.Eats 2 ++ (sg a0.Extra 3 ++ [SL A1 a0.Days.length c2, I a0.Collier.Low, I a0.Collier.High, I a0.Brings, SL A4 a0.Dips.length c5]))) 29, rd eCoalDay 3 A1 c2 a0.Days, rd eCoalDip 3 A4 c5 a0.Dips, bl 0 [Value.func (.func 128) #[] #[], Value.func (.func 129) #[] #[]] 110, bl 1 [I (-1), I (-1)] 123] := S142.asP k_
                          obtain ⟨_, _, _, _, q170⟩ := hR_ 8 171 rfl (Nat.le_of_ble_eq_true rfl) rfl
                          refine hopE [(171, TU [B r166.1, I r166.2])] ⟨q170, trivial⟩ ?_
                          refine p_mT rfl ?_
                          refine wp_nil ?_
                          exact ⟨_, rfl, S_.keep, rfl⟩
                        · intro e_ w_ k_ hf_ hR_
                          have S_ : St w_ (fun _ => False) w_ [] [gr intE 1 3 A126 c127 [r38.1.Low, r38.1.High, wr (r38.1.Low - 1), wr (r38.1.High + 1), r121], bl b51 [I r47.1.Low, I r47.1.High] 23, bl b42 [I r38.1.Low, I r38.1.High] 23, bl b9 ([I a0.Heap.Low, I a0.Heap.High] ++ (sgE eSpan a0.Eats 2 ++ (sg a0.Extra 3 ++ [SL A1 a0.Days.length c2, I a0.Collier.Low, I a0.Collier.High, I a0.Brings, SL A4 a0.Dips.length c5]))) 29, rd eCoalDay 3 A1 c2 a0.Days, rd eCoalDip 3 A4 c5 a0.Dips, bl 0 [Value.func (.func 128) #[] #[], Value.func (.func 129) #[] #[]] 110, bl 1 [I (-1), I (-1)] 123] := S142.asP k_
                          obtain ⟨_, _, _, _, q171⟩ := hR_ 9 162 rfl (Nat.le_of_ble_eq_true rfl) rfl
                          refine hopE [(162, TU [B r166.1, I r166.2])] ⟨q171, trivial⟩ ?_
                          refine p_ext rfl rfl ?_
                          refine wp_nil ?_
                          exact ⟨_, rfl, S_.keep, rfl⟩
                        · intro e_ w_ k_ hf_ hR_
                          have S_ : St w_ (fun _ => False) w_ [] [gr intE 1 3 A126 c127 [r38.1.Low, r38.1.High, wr (r38.1.Low - 1), wr (r38.1.High + 1), r121], bl b51 [I r47.1.Low, I r47.1.High] 23, bl b42 [I r38.1.Low, I r38.1.High] 23, bl b9 ([I a0.Heap.Low, I a0.Heap.High] ++ (sgE eSpan a0.Eats 2 ++ (sg a0.Extra 3 ++ [SL A1 a0.Days.length c2, I a0.Collier.Low, I a0.Collier.High, I a0.Brings, SL A4 a0.Dips.length c5]))) 29, rd eCoalDay 3 A1 c2 a0.Days, rd eCoalDip 3 A4 c5 a0.Dips, bl 0 [Value.func (.func 128) #[] #[], Value.func (.func 129) #[] #[]] 110, bl 1 [I (-1), I (-1)] 123] := S142.asP k_
                          obtain ⟨_, _, _, _, q172⟩ := hR_ 9 162 rfl (Nat.le_of_ble_eq_true rfl) rfl
                          refine hopE [(162, TU [B r166.1, I r166.2])] ⟨q172, trivial⟩ ?_
                          refine p_ext rfl rfl ?_
                          refine wp_nil ?_
                          exact ⟨_, rfl, S_.keep, rfl⟩
                        · intro e_ w_ k_ hf_ hR_
                          have S_ : St w_ (fun _ => False) w_ [] [gr intE 1 3 A126 c127 [r38.1.Low, r38.1.High, wr (r38.1.Low - 1), wr (r38.1.High + 1), r121], bl b51 [I r47.1.Low, I r47.1.High] 23, bl b42 [I r38.1.Low, I r38.1.High] 23, bl b9 ([I a0.Heap.Low, I a0.Heap.High] ++ (sgE eSpan a0.Eats 2 ++ (sg a0.Extra 3 ++ [SL A1 a0.Days.length c2, I a0.Collier.Low, I a0.Collier.High, I a0.Brings, SL A4 a0.Dips.length c5]))) 29, rd eCoalDay 3 A1 c2 a0.Days, rd eCoalDip 3 A4 c5 a0.Dips, bl 0 [Value.func (.func 128) #[] #[], Value.func (.func 129) #[] #[]] 110, bl 1 [I (-1), I (-1)] 123] := S142.asP k_
                          obtain ⟨_, _, _, _, q173⟩ := hR_ 10 172 rfl (Nat.le_of_ble_eq_true rfl) rfl
                          refine hopE [(172, B r166.1)] ⟨q173, trivial⟩ ?_
                          refine p_aB rfl ?_
                          refine wp_nil ?_
                          exact ⟨_, rfl, S_.keep, rfl⟩
                        · intro e_ w_ k_ hf_ hR_
                          have S_ : St w_ (fun _ => False) w_ [] [gr intE 1 3 A126 c127 [r38.1.Low, r38.1.High, wr (r38.1.Low - 1), wr (r38.1.High + 1), r121], bl b51 [I r47.1.Low, I r47.1.High] 23, bl b42 [I r38.1.Low, I r38.1.High] 23, bl b9 ([I a0.Heap.Low, I a0.Heap.High] ++ (sgE eSpan a0.Eats 2 ++ (sg a0.Extra 3 ++ [SL A1 a0.Days.length c2, I a0.Collier.Low, I a0.Collier.High, I a0.Brings, SL A4 a0.Dips.length c5]))) 29, rd eCoalDay 3 A1 c2 a0.Days, rd eCoalDip 3 A4 c5 a0.Dips, bl 0 [Value.func (.func 128) #[] #[], Value.func (.func 129) #[] #[]] 110, bl 1 [I (-1), I (-1)] 123] := S142.asP k_
                          obtain ⟨_, _, _, _, q174⟩ := hR_ 11 173 rfl (Nat.le_of_ble_eq_true rfl) rfl
                          refine hopE [(173, I r166.2)] ⟨q174, trivial⟩ ?_
                          refine p_aI rfl ?_
                          refine wp_nil ?_
                          exact ⟨_, rfl, S_.keep, rfl⟩
                        intro e175 w176 lo177 hi178 k179 hf180 hR181 hd182
                        have S183 := S142.call k179
                        have q184 : e175 163 = AG ([I a0.Heap.Low, I a0.Heap.High] ++ (sgE eSpan a0.Eats 2 ++ (sg a0.Extra 3 ++ [SL A1 a0.Days.length c2, I a0.Collier.Low, I a0.Collier.High, I a0.Brings, SL A4 a0.Dips.length c5]))) := (hR181 0 163 (Nat.le_of_ble_eq_true rfl) rfl).2.2.2
                        have q185 : e175 164 = I r29 := (hR181 1 164 (Nat.le_of_ble_eq_true rfl) rfl).2.2.2
                        have q186 : e175 165 = SL A126 [r38.1.Low, r38.1.High, wr (r38.1.Low - 1), wr (r38.1.High + 1), r121].length c127 := (hR181 2 165 (Nat.le_of_ble_eq_true rfl) rfl).2.2.2
                        have q187 : e175 166 = I z_1 := (hR181 3 166 (Nat.le_of_ble_eq_true rfl) rfl).2.2.2
                        have q188 : e175 167 = PE A126 (z_1.toNat * 1 + 0) := (hR181 4 167 (Nat.le_of_ble_eq_true rfl) rfl).2.2.2
                        have q189 : e175 168 = I r146 := (hR181 5 168 (Nat.le_of_ble_eq_true rfl) rfl).2.2.2
                        have q190 : e175 169 = AG [I r29, I r146, I 0] := (hR181 6 169 (Nat.le_of_ble_eq_true rfl) rfl).2.2.2
                        obtain ⟨h192, h193, h194, ⟨A157, c158⟩, q191, h195, h196⟩ := hR181 7 170 (Nat.le_of_ble_eq_true rfl) rfl
                        replace q191 : e175 170 = AG ([I r153.Heap.Low, I r153.Heap.High] ++ (sgE eSpan r153.Eats 2 ++ (sg r153.Extra 3 ++ [SL A1 a0.Days.length c2, I r153.Collier.Low, I r153.Collier.High, I r153.Brings, SL A157 r153.Dips.length c158]))) := q191
                        obtain ⟨p197, _⟩ := h195
                        have q199 : e175 171 = TU [B r166.1, I r166.2] := (hR181 8 171 (Nat.le_of_ble_eq_true rfl) rfl).2.2.2
                        have q200 : e175 162 = TU [B r166.1, I r166.2] := (hR181 9 162 (Nat.le_of_ble_eq_true rfl) rfl).2.2.2
                        have q201 : e175 172 = B r166.1 := (hR181 10 172 (Nat.le_of_ble_eq_true rfl) rfl).2.2.2
                        have q202 : e175 173 = I r166.2 := (hR181 11 173 (Nat.le_of_ble_eq_true rfl) rfl).2.2.2
                        have q203 : e175 16 = B r166.1 := (hR181 12 16 (Nat.le_of_ble_eq_true rfl) rfl).2.2.2
                        have q204 : e175 17 = I r166.2 := (hR181 13 17 (Nat.le_of_ble_eq_true rfl) rfl).2.2.2
                        refine tailE [(2, P b9 0), (5, I r29), (6, I r31), (7, I r33), (8, P b42 0), (10, P b51 0), (12, I r56.1), (14, SL A126 [r38.1.Low, r38.1.High, wr (r38.1.Low - 1), wr (r38.1.High + 1), r121].length c127), (15, I z_1), (16, B r166.1), (17, I r166.2)] ⟨((hf180 2 rfl).trans (rfl : _ = P b9 0)), ((hf180 5 rfl).trans (rfl : _ = I r29)), ((hf180 6 rfl).trans (rfl : _ = I r31)), ((hf180 7 rfl).trans (rfl : _ = I r33)), ((hf180 8 rfl).trans (rfl : _ = P b42 0)), ((hf180 10 rfl).trans (rfl : _ = P b51 0)), ((hf180 12 rfl).trans (rfl : _ = I r56.1)), ((hf180 14 rfl).trans (rfl : _ = SL A126 [r38.1.Low, r38.1.High, wr (r38.1.Low - 1), wr (r38.1.High + 1), r121].length c127)), ((hf180 15 rfl).trans (rfl : _ = I z_1)), q203, q204, trivial⟩ ?_
                        intro g205
                        refine wp_nil ?_
                        refine c_seq ?_
                        rcases Bool.eq_false_or_eq_true ((r166.2 != 0)) with c206 | c206
                        · replace H := condT c206 H
                          refine reg_q mixed 22 (by kernel_rfl) ?_
                          refine dS (fun _ k_ => p_mI rfl dn) ?_
                          refine dS (fun _ k_ => p_cmp rfl rfl rfl dn) ?_
                          refine dS (fun _ k_ => p_mB rfl dn) ?_
                          refine dB c206 ?_
                          refine dS (fun _ k_ => gF rfl rfl dnU) ?_
                          refine dS (fun _ k_ => gF rfl rfl dnU) ?_
                          refine dS (fun _ k_ => gF rfl rfl dnU) ?_
                          refine dS (fun _ k_ => o_guardU rfl rfl dnU) ?_
                          refine dS (fun _ k_ => o_guardU rfl rfl dnU) ?_
                          refine dS (fun _ k_ => gF rfl rfl dnU) ?_
                          refine dS (fun _ k_ => p_pkT rfl (rfl : _ = B true) dn) ?_
                          refine dS (fun _ k_ => p_mB rfl dn) ?_
                          refine dS (fun _ k_ => gF rfl rfl dnU) ?_
                          refine dS (fun _ k_ => gF rfl rfl dnU) ?_
                          refine dS (fun _ k_ => o_guardU rfl rfl dnU) ?_
                          refine dS (fun _ k_ => o_guardU rfl rfl dnU) ?_
                          refine dS (fun _ k_ => o_guardU rfl rfl dnU) ?_
                          refine dS (fun _ k_ => o_guardU rfl rfl dnU) ?_
                          refine dS (fun _ k_ => o_guardU rfl rfl dnU) ?_
                          refine dS (fun _ k_ => o_guardU rfl rfl dnU) ?_
                          refine dS (fun _ k_ => o_guardU rfl rfl dnU) ?_
                          refine dS (fun _ k_ => gF rfl rfl dnU) ?_
                          refine dS (fun _ k_ => p_pkT rfl (rfl : _ = B true) dn) ?_
                          intro w207 k208; have S209 := S183.call k208
                          refine wp_nil ?_
                          refine c_true rfl ?_
                          refine c_seq ?_
                          refine reg ?_
                          refine p_aB rfl ?_
                          refine wp_nil ?_
                          obtain rfl := Option.some.inj H
                          refine c_ret ?_; show bodyPostM (Fr none) 0 Tryd.prog Tryd.f7 _ .ret _ _
                          refine ret_of (res1 rfl (rvT (rfl : _ = B false))) ?_
                          exact ⟨_, rfl, rfl, S209.keep⟩
                        · replace H := condF c206 H
                          rcases Bool.eq_false_or_eq_true (decide (z_1 < 2)) with c210 | c210
                          · replace H := condT c210 H
                            rcases Bool.eq_false_or_eq_true (!r166.1) with c211 | c211
                            · replace H := condT c211 H
                              refine reg_q mixed 22 (by kernel_rfl) ?_
                              refine dS (fun _ k_ => p_mI rfl dn) ?_
                              refine dS (fun _ k_ => p_cmp rfl rfl rfl dn) ?_
                              refine dS (fun _ k_ => p_mB rfl dn) ?_
                              refine dB c206 ?_
                              refine dS (fun _ k_ => gT rfl rfl (p_mI rfl dn)) ?_
                              refine dS (fun _ k_ => gT rfl rfl (p_cmp rfl rfl rfl dn)) ?_
                              refine dS (fun _ k_ => gT rfl rfl (p_mB rfl dn)) ?_
                              refine dB c210 ?_
                              refine dS (fun _ k_ => gT rfl rfl (p_mB rfl dn)) ?_
                              refine dS (fun _ k_ => gT rfl rfl (p_not rfl dn)) ?_
                              refine dS (fun _ k_ => gT rfl rfl (p_pkT rfl (rfl : _ = B (!r166.1)) dn)) ?_
                              refine dS (fun _ k_ => p_pkF rfl (rfl : _ = B (!r166.1)) dn) ?_
                              refine dS (fun _ k_ => p_mB rfl dn) ?_
                              refine dB c211 ?_
                              refine dS (fun _ k_ => gF rfl rfl dnU) ?_
                              refine dS (fun _ k_ => gF rfl rfl dnU) ?_
                              refine dS (fun _ k_ => o_guardU rfl rfl dnU) ?_
                              refine dS (fun _ k_ => o_guardU rfl rfl dnU) ?_
                              refine dS (fun _ k_ => o_guardU rfl rfl dnU) ?_
                              refine dS (fun _ k_ => o_guardU rfl rfl dnU) ?_
                              refine dS (fun _ k_ => o_guardU rfl rfl dnU) ?_
                              refine dS (fun _ k_ => o_guardU rfl rfl dnU) ?_
                              refine dS (fun _ k_ => o_guardU rfl rfl dnU) ?_
                              refine dS (fun _ k_ => gF rfl rfl dnU) ?_
                              refine dS (fun _ k_ => p_pkT rfl (rfl : _ = B true) dn) ?_
                              intro w212 k213; have S214 := S183.call k213
                              refine wp_nil ?_
                              refine c_true rfl ?_
                              refine c_seq ?_
                              refine reg ?_
                              refine p_aB rfl ?_
                              refine wp_nil ?_
                              obtain rfl := Option.some.inj H
                              refine c_ret ?_; show bodyPostM (Fr none) 0 Tryd.prog Tryd.f7 _ .ret _ _
                              refine ret_of (res1 rfl (rvT (rfl : _ = B false))) ?_
                              exact ⟨_, rfl, rfl, S214.keep⟩
                            · replace H := condF c211 H
                              rcases Bool.eq_false_or_eq_true (r166.1) with c215 | c215
                              · replace H := condT c215 H
                                obtain ⟨r216, h217, H⟩ := bindS H
                                obtain ⟨r218, h219, H⟩ := bindS H
                                refine reg_q mixed 22 (by kernel_rfl) ?_
                                refine dS (fun _ k_ => p_mI rfl dn) ?_
                                refine dS (fun _ k_ => p_cmp rfl rfl rfl dn) ?_
                                refine dS (fun _ k_ => p_mB rfl dn) ?_
                                refine dB c206 ?_
                                refine dS (fun _ k_ => gT rfl rfl (p_mI rfl dn)) ?_
                                refine dS (fun _ k_ => gT rfl rfl (p_cmp rfl rfl rfl dn)) ?_
                                refine dS (fun _ k_ => gT rfl rfl (p_mB rfl dn)) ?_
                                refine dB c210 ?_
                                refine dS (fun _ k_ => gT rfl rfl (p_mB rfl dn)) ?_
                                refine dS (fun _ k_ => gT rfl rfl (p_not rfl dn)) ?_
                                refine dS (fun _ k_ => gT rfl rfl (p_pkT rfl (rfl : _ = B (!r166.1)) dn)) ?_
                                refine dS (fun _ k_ => p_pkF rfl (rfl : _ = B (!r166.1)) dn) ?_
                                refine dS (fun _ k_ => p_mB rfl dn) ?_
                                refine dB c211 ?_
                                refine dS (fun _ k_ => gT rfl rfl (p_mB rfl dn)) ?_
                                refine dS (fun _ k_ => gT rfl rfl (p_mB rfl dn)) ?_
                                refine dB c215 ?_
                                refine dS (fun _ k_ => gT rfl rfl (p_ldA ty23 sz23 (Asr.stays (S183.atX (i := 2) rfl) k_) rfl rfl dn)) ?_
                                refine dS (fun _ k_ => gT rfl rfl (p_mS rfl dn)) ?_
                                refine dS (fun _ k_ => gT rfl rfl (p_mI rfl dn)) ?_
                                refine dS (fun _ k_ => gT rfl rfl (p_ixE sc39 h217 (gr_sl intE_len (Asr.stays (S183.atX (i := 0) rfl) k_)) rfl rfl rfl dn)) ?_
                                refine dS (fun _ k_ => gT rfl rfl (p_ldE ty3 h217 (gr_sl intE_len (Asr.stays (S183.atX (i := 0) rfl) k_)) rfl rfl dn)) ?_
                                refine dS (fun _ k_ => gT rfl rfl (p_cvD (B_Contains_ok h219) fu32 rfl)) ?_
                                refine dS (fun _ k_ => gT rfl rfl (p_not rfl dn)) ?_
                                refine dS (fun _ k_ => gT rfl rfl (p_pkT rfl (rfl : _ = B (!r218)) dn)) ?_
                                refine dS (fun _ k_ => p_pkF rfl (rfl : _ = B (!r218)) dn) ?_
                                intro w220 k221; have S222 := S183.call k221
                                refine wp_nil ?_
                                refine c_cond rfl (fun c223 => ?_) (fun c223 => ?_)
                                · replace H := condT c223 H
                                  refine c_seq ?_
                                  refine reg ?_
                                  refine p_aB rfl ?_
                                  refine wp_nil ?_
                                  obtain rfl := Option.some.inj H
                                  refine c_ret ?_; show bodyPostM (Fr none) 0 Tryd.prog Tryd.f7 _ .ret _ _
                                  refine ret_of (res1 rfl (rvT (rfl : _ = B false))) ?_
                                  exact ⟨_, rfl, rfl, S222.keep⟩
                                · replace H := condF c223 H
                                  refine c_skip ?_
                                  refine reg ?_
                                  refine p_mI rfl ?_
                                  refine p_add rfl rfl ?_
                                  refine p_aI rfl ?_
                                  refine wp_nil ?_
                                  exact ⟨wr (z_1 + 1), (), _, rfl, ⟨rfl, rfl, rfl, rfl, rfl, rfl, rfl, rfl, rfl, trivial⟩, H, S222⟩
                              · replace H := condF c215 H
                                refine reg_q mixed 22 (by kernel_rfl) ?_
                                refine dS (fun _ k_ => p_mI rfl dn) ?_
                                refine dS (fun _ k_ => p_cmp rfl rfl rfl dn) ?_
                                refine dS (fun _ k_ => p_mB rfl dn) ?_
                                refine dB c206 ?_
                                refine dS (fun _ k_ => gT rfl rfl (p_mI rfl dn)) ?_
                                refine dS (fun _ k_ => gT rfl rfl (p_cmp rfl rfl rfl dn)) ?_
                                refine dS (fun _ k_ => gT rfl rfl (p_mB rfl dn)) ?_
                                refine dB c210 ?_
                                refine dS (fun _ k_ => gT rfl rfl (p_mB rfl dn)) ?_
                                refine dS (fun _ k_ => gT rfl rfl (p_not rfl dn)) ?_
                                refine dS (fun _ k_ => gT rfl rfl (p_pkT rfl (rfl : _ = B (!r166.1)) dn)) ?_
                                refine dS (fun _ k_ => p_pkF rfl (rfl : _ = B (!r166.1)) dn) ?_
                                refine dS (fun _ k_ => p_mB rfl dn) ?_
                                refine dB c211 ?_
                                refine dS (fun _ k_ => gT rfl rfl (p_mB rfl dn)) ?_
                                refine dS (fun _ k_ => gT rfl rfl (p_mB rfl dn)) ?_
                                refine dB c215 ?_
                                refine dS (fun _ k_ => gF rfl rfl dnU) ?_
                                refine dS (fun _ k_ => gF rfl rfl dnU) ?_
                                refine dS (fun _ k_ => gF rfl rfl dnU) ?_
                                refine dS (fun _ k_ => gF rfl rfl dnU) ?_
                                refine dS (fun _ k_ => gF rfl rfl dnU) ?_
                                refine dS (fun _ k_ => gF rfl rfl dnU) ?_
                                refine dS (fun _ k_ => gF rfl rfl dnU) ?_
                                refine dS (fun _ k_ => gT rfl rfl (p_pkF rfl (rfl : _ = B false) dn)) ?_
                                refine dS (fun _ k_ => p_pkF rfl (rfl : _ = B false) dn) ?_
                                intro w224 k225; have S226 := S183.call k225
                                refine wp_nil ?_
                                refine c_false rfl ?_
                                refine c_skip ?_
                                refine reg ?_
                                refine p_mI rfl ?_
                                refine p_add rfl rfl ?_
                                refine p_aI rfl ?_
                                refine wp_nil ?_
                                exact ⟨wr (z_1 + 1), (), _, rfl, ⟨rfl, rfl, rfl, rfl, rfl, rfl, rfl, rfl, rfl, trivial⟩, H, S226⟩
                          · replace H := condF c210 H
                            rcases Bool.eq_false_or_eq_true (r166.1) with c227 | c227
                            · replace H := condT c227 H
                              obtain ⟨r228, h229, H⟩ := bindS H
                              obtain ⟨r230, h231, H⟩ := bindS H
                              refine reg_q mixed 22 (by kernel_rfl) ?_
                              refine dS (fun _ k_ => p_mI rfl dn) ?_
                              refine dS (fun _ k_ => p_cmp rfl rfl rfl dn) ?_
                              refine dS (fun _ k_ => p_mB rfl dn) ?_
                              refine dB c206 ?_
                              refine dS (fun _ k_ => gT rfl rfl (p_mI rfl dn)) ?_
                              refine dS (fun _ k_ => gT rfl rfl (p_cmp rfl rfl rfl dn)) ?_
                              refine dS (fun _ k_ => gT rfl rfl (p_mB rfl dn)) ?_
                              refine dB c210 ?_
                              refine dS (fun _ k_ => gF rfl rfl dnU) ?_
                              refine dS (fun _ k_ => gF rfl rfl dnU) ?_
                              refine dS (fun _ k_ => gT rfl rfl (p_pkF rfl (rfl : _ = B false) dn)) ?_
                              refine dS (fun _ k_ => p_pkF rfl (rfl : _ = B false) dn) ?_
                              refine dS (fun _ k_ => p_mB rfl dn) ?_
                              refine dS (fun _ k_ => gT rfl rfl (p_mB rfl dn)) ?_
                              refine dS (fun _ k_ => gT rfl rfl (p_mB rfl dn)) ?_
                              refine dB c227 ?_
                              refine dS (fun _ k_ => gT rfl rfl (p_ldA ty23 sz23 (Asr.stays (S183.atX (i := 2) rfl) k_) rfl rfl dn)) ?_
                              refine dS (fun _ k_ => gT rfl rfl (p_mS rfl dn)) ?_
                              refine dS (fun _ k_ => gT rfl rfl (p_mI rfl dn)) ?_
                              refine dS (fun _ k_ => gT rfl rfl (p_ixE sc39 h229 (gr_sl intE_len (Asr.stays (S183.atX (i := 0) rfl) k_)) rfl rfl rfl dn)) ?_
                              refine dS (fun _ k_ => gT rfl rfl (p_ldE ty3 h229 (gr_sl intE_len (Asr.stays (S183.atX (i := 0) rfl) k_)) rfl rfl dn)) ?_
                              refine dS (fun _ k_ => gT rfl rfl (p_cvD (B_Contains_ok h231) fu32 rfl)) ?_
                              refine dS (fun _ k_ => gT rfl rfl (p_not rfl dn)) ?_
                              refine dS (fun _ k_ => gT rfl rfl (p_pkT rfl (rfl : _ = B (!r230)) dn)) ?_
                              refine dS (fun _ k_ => p_pkF rfl (rfl : _ = B (!r230)) dn) ?_
                              intro w232 k233; have S234 := S183.call k233
                              refine wp_nil ?_
                              refine c_cond rfl (fun c235 => ?_) (fun c235 => ?_)
                              · replace H := condT c235 H
                                refine c_seq ?_
                                refine reg ?_
                                refine p_aB rfl ?_
                                refine wp_nil ?_
                                obtain rfl := Option.some.inj H
                                refine c_ret ?_; show bodyPostM (Fr none) 0 Tryd.prog Tryd.f7 _ .ret _ _
                                refine ret_of (res1 rfl (rvT (rfl : _ = B false))) ?_
                                exact ⟨_, rfl, rfl, S234.keep⟩
                              · replace H := condF c235 H
                                refine c_skip ?_
                                refine reg ?_
                                refine p_mI rfl ?_
                                refine p_add rfl rfl ?_
                                refine p_aI rfl ?_
                                refine wp_nil ?_
                                exact ⟨wr (z_1 + 1), (), _, rfl, ⟨rfl, rfl, rfl, rfl, rfl, rfl, rfl, rfl, rfl, trivial⟩, H, S234⟩
                            · replace H := condF c227 H
                              refine reg_q mixed 22 (by kernel_rfl) ?_
                              refine dS (fun _ k_ => p_mI rfl dn) ?_
                              refine dS (fun _ k_ => p_cmp rfl rfl rfl dn) ?_
                              refine dS (fun _ k_ => p_mB rfl dn) ?_
                              refine dB c206 ?_
                              refine dS (fun _ k_ => gT rfl rfl (p_mI rfl dn)) ?_
                              refine dS (fun _ k_ => gT rfl rfl (p_cmp rfl rfl rfl dn)) ?_
                              refine dS (fun _ k_ => gT rfl rfl (p_mB rfl dn)) ?_
                              refine dB c210 ?_
                              refine dS (fun _ k_ => gF rfl rfl dnU) ?_
                              refine dS (fun _ k_ => gF rfl rfl dnU) ?_
                              refine dS (fun _ k_ => gT rfl rfl (p_pkF rfl (rfl : _ = B false) dn)) ?_
                              refine dS (fun _ k_ => p_pkF rfl (rfl : _ = B false) dn) ?_
                              refine dS (fun _ k_ => p_mB rfl dn) ?_
                              refine dS (fun _ k_ => gT rfl rfl (p_mB rfl dn)) ?_
                              refine dS (fun _ k_ => gT rfl rfl (p_mB rfl dn)) ?_
                              refine dB c227 ?_
                              refine dS (fun _ k_ => gF rfl rfl dnU) ?_
                              refine dS (fun _ k_ => gF rfl rfl dnU) ?_
                              refine dS (fun _ k_ => gF rfl rfl dnU) ?_
                              refine dS (fun _ k_ => gF rfl rfl dnU) ?_
                              refine dS (fun _ k_ => gF rfl rfl dnU) ?_
                              refine dS (fun _ k_ => gF rfl rfl dnU) ?_
                              refine dS (fun _ k_ => gF rfl rfl dnU) ?_
                              refine dS (fun _ k_ => gT rfl rfl (p_pkF rfl (rfl : _ = B false) dn)) ?_
                              refine dS (fun _ k_ => p_pkF rfl (rfl : _ = B false) dn) ?_
                              intro w236 k237; have S238 := S183.call k237
                              refine wp_nil ?_
                              refine c_false rfl ?_
                              refine c_skip ?_
                              refine reg ?_
                              refine p_mI rfl ?_
                              refine p_add rfl rfl ?_
                              refine p_aI rfl ?_
                              refine wp_nil ?_
                              exact ⟨wr (z_1 + 1), (), _, rfl, ⟨rfl, rfl, rfl, rfl, rfl, rfl, rfl, rfl, rfl, trivial⟩, H, S238⟩
                    · replace H := condF c136 H
                      refine c_exit ?_
                      refine c_seq ?_
                      refine c_seq ?_
                      refine reg ?_
                      refine p_aI rfl ?_
                      refine wp_nil ?_
                      refine c_block ?_
                      have S239 := S135.pk [1, 3] (by decide) [0, 1, 2, 3] rfl rfl
                      refine c_lop (α := Int) (β := Unit) (law_CoalEnds_l3 r47 r31 a0 r33 r29 r56) (fun z_2 y_2 => [(2, P b9 0), (5, I r29), (6, I r31), (7, I r33), (10, P b51 0), (12, I r56.1), (18, I z_2)]) (fun z_2 y_2 w_ => St w (fun _ => False) w_ [bl b51 [I r47.1.Low, I r47.1.High] 23, bl b9 ([I a0.Heap.Low, I a0.Heap.High] ++ (sgE eSpan a0.Eats 2 ++ (sg a0.Extra 3 ++ [SL A1 a0.Days.length c2, I a0.Collier.Low, I a0.Collier.High, I a0.Brings, SL A4 a0.Dips.length c5]))) 29] [rd eCoalDay 3 A1 c2 a0.Days, rd eCoalDip 3 A4 c5 a0.Dips, bl 0 [Value.func (.func 128) #[] #[], Value.func (.func 129) #[] #[]] 110, bl 1 [I (-1), I (-1)] 123]) 0 () H ⟨rfl, rfl, rfl, rfl, rfl, rfl, rfl, trivial⟩ S239 ?_
                      intro m240 z_2 y_2 e241 w242 H S243
                      unfold law_CoalEnds_l3 at H
                      refine c_seq ?_
                      refine c_seq ?_
                      refine reg ?_
                      refine p_mI rfl ?_
                      refine p_cmp rfl rfl rfl ?_
                      refine wp_nil ?_
                      refine c_cond rfl (fun c244 => ?_) (fun c244 => ?_)
                      · replace H := condT c244 H
                        refine c_skip ?_
                        refine c_seq ?_
                        refine c_block ?_
                        refine c_seq ?_
                        refine reg ?_
                        refine p_ldA ty29 sz29 (S243.atX (i := 1) rfl) rfl rfl ?_
                        refine p_allA in29 S243 fun b245 w246 S247 => ?_
                        refine p_stP (pre := []) (old := [I 0, I 0, I 0, I 0, I 0, I 0] ++ (sg (List.replicate 3 0) 3 ++ [SL none 0 0, I 0, I 0, I 0, SL none 0 0])) (post := []) (vs := [I a0.Heap.Low, I a0.Heap.High] ++ (sgE eSpan a0.Eats 2 ++ (sg a0.Extra 3 ++ [SL A1 a0.Days.length c2, I a0.Collier.Low, I a0.Collier.High, I a0.Brings, SL A4 a0.Dips.length c5]))) sz29 S247 (i := 0) rfl rfl rfl rfl (rfl : _ = AG ([I a0.Heap.Low, I a0.Heap.High] ++ (sgE eSpan a0.Eats 2 ++ (sg a0.Extra 3 ++ [SL A1 a0.Days.length c2, I a0.Collier.Low, I a0.Collier.High, I a0.Brings, SL A4 a0.Dips.length c5])))) rfl rfl rfl rfl fun w248 S249 => ?_
                        refine wp_nil ?_
                        refine c_seq ?_
                        refine reg ?_
                        refine p_mI rfl ?_
                        refine p_fld fl23_0 rfl ?_
                        refine p_ld ty3 (S249.atX (i := 1) rfl) rfl rfl ?_
                        refine p_fld fl23_1 rfl ?_
                        refine p_ld ty3 (S249.atX (i := 1) rfl) rfl rfl ?_
                        refine p_bsl (enc := intE) (l := [r47.1.Low, r47.1.High]) I (fun _ => rfl) sc39 in3 intE_len rfl (by decide) (by decide) zr3_2 S249 rfl fun A250 c251 w252 S253 => ?_
                        refine p_mI rfl ?_
                        obtain ⟨r255, h256, H⟩ := bindS H
                        refine p_ixE sc39 h256 (gr_sl intE_len (S253.atX (i := 0) rfl)) rfl rfl rfl ?_
                        refine p_ldE ty3 h256 (gr_sl intE_len (S253.atX (i := 0) rfl)) rfl rfl ?_
                        obtain ⟨r257, h258, H⟩ := bindS H
                        refine p_cv (B_Point_ok h258) fu38 rfl S253 fun w259 S260 => ?_
                        refine p_fld fl29_1 rfl ?_
                        obtain ⟨h261, H⟩ := needS H
                        refine p_ixD ar24 h261 rfl rfl ?_
                        refine p_stDE (vs := []) (pre := [I a0.Heap.Low, I a0.Heap.High]) (post := sg a0.Extra 3 ++ [SL A1 a0.Days.length c2, I a0.Collier.Low, I a0.Collier.High, I a0.Brings, SL A4 a0.Dips.length c5]) (x' := r257) sz23 S260 (i := 1) rfl rfl eSpan_len eSpan_one h261 rfl rfl (rfl : _ = AG [I r257.Low, I r257.High]) rfl fun w262 S263 => ?_
                        refine wp_nil ?_
                        refine c_seq ?_
                        refine reg ?_
                        refine p_ldA ty29 sz29 (S263.atX (i := 1) rfl) rfl rfl ?_
                        obtain ⟨r264, h265, H⟩ := bindS H
                        refine p_cv (coal_Right_ok h265 (S263.atP (i := 0) rfl) (S263.atP (i := 1) rfl) (S263.atP (i := 3) rfl)) fu26 rfl S263 fun w266 S267 => ?_
                        refine p_mT rfl ?_
                        refine p_ext rfl rfl ?_
                        refine p_ext rfl rfl ?_
                        refine p_aB rfl ?_
                        refine p_aI rfl ?_
                        refine wp_nil ?_
                        refine c_seq ?_
                        refine reg ?_
                        refine p_mI rfl ?_
                        refine p_cmp rfl rfl rfl ?_
                        refine p_mB rfl ?_
                        rcases Bool.eq_false_or_eq_true ((r264.2 != 0)) with c268 | c268
                        · replace H := condT c268 H
                          refine eB c268 ?_
                          refine gF rfl rfl ?_
                          refine gF rfl rfl ?_
                          refine p_pkT rfl (rfl : _ = B true) ?_
                          refine wp_nil ?_
                          refine c_true rfl ?_
                          refine c_seq ?_
                          refine reg ?_
                          refine p_aB rfl ?_
                          refine wp_nil ?_
                          obtain rfl := Option.some.inj H
                          refine c_ret ?_; show bodyPostM (Fr none) 0 Tryd.prog Tryd.f7 _ .ret _ _
                          refine ret_of (res1 rfl (rvT (rfl : _ = B false))) ?_
                          exact ⟨_, rfl, rfl, S267.keep⟩
                        · replace H := condF c268 H
                          refine eB c268 ?_
                          refine gT rfl rfl (p_mB rfl ?_)
                          refine gT rfl rfl (p_not rfl ?_)
                          refine p_pkF rfl (rfl : _ = B (!r264.1)) ?_
                          refine wp_nil ?_
                          refine c_cond rfl (fun c269 => ?_) (fun c269 => ?_)
                          · replace H := condT c269 H
                            refine c_seq ?_
                            refine reg ?_
                            refine p_aB rfl ?_
                            refine wp_nil ?_
                            obtain rfl := Option.some.inj H
                            refine c_ret ?_; show bodyPostM (Fr none) 0 Tryd.prog Tryd.f7 _ .ret _ _
                            refine ret_of (res1 rfl (rvT (rfl : _ = B false))) ?_
                            exact ⟨_, rfl, rfl, S267.keep⟩
                          · replace H := condF c269 H
                            refine c_skip ?_
                            refine reg ?_
                            refine p_mI rfl ?_
                            refine p_add rfl rfl ?_
                            refine p_aI rfl ?_
                            refine wp_nil ?_
                            have S270 := S267.pk [2, 3] (by decide) [0, 1, 2, 3] rfl rfl
                            exact ⟨wr (z_2 + 1), (), _, rfl, ⟨rfl, rfl, rfl, rfl, rfl, rfl, rfl, trivial⟩, H, S270⟩
                      · replace H := condF c244 H
                        refine c_exit ?_
                        refine c_seq ?_
                        refine reg ?_
                        refine p_ldA ty29 sz29 (S243.atX (i := 1) rfl) rfl rfl ?_
                        refine p_allA in29 S243 fun b271 w272 S273 => ?_
                        refine p_stP (pre := []) (old := [I 0, I 0, I 0, I 0, I 0, I 0] ++ (sg (List.replicate 3 0) 3 ++ [SL none 0 0, I 0, I 0, I 0, SL none 0 0])) (post := []) (vs := [I a0.Heap.Low, I a0.Heap.High] ++ (sgE eSpan a0.Eats 2 ++ (sg a0.Extra 3 ++ [SL A1 a0.Days.length c2, I a0.Collier.Low, I a0.Collier.High, I a0.Brings, SL A4 a0.Dips.length c5]))) sz29 S273 (i := 0) rfl rfl rfl rfl (rfl : _ = AG ([I a0.Heap.Low, I a0.Heap.High] ++ (sgE eSpan a0.Eats 2 ++ (sg a0.Extra 3 ++ [SL A1 a0.Days.length c2, I a0.Collier.Low, I a0.Collier.High, I a0.Brings, SL A4 a0.Dips.length c5])))) rfl rfl rfl rfl fun w274 S275 => ?_
                        refine wp_nil ?_
                        refine c_seq ?_
                        refine reg ?_
                        refine p_bsl0 eCoalDay sc26 S275 fun A276 w278 S279 => ?_
                        refine p_fld fl29_3 rfl ?_
                        refine p_ld ty26 (S279.atX (i := 3) rfl) rfl rfl ?_
                        rcases Bool.eq_false_or_eq_true (a0.Days.isEmpty) with c281 | c281
                        · replace H := condT c281 H
                          refine p_app0 sc26 in64 (Nat.le_refl _) c281 rfl rfl ?_
                          refine p_fld fl29_3 rfl ?_
                          refine p_stP (pre := [I a0.Heap.Low, I a0.Heap.High] ++ (sgE eSpan a0.Eats 2 ++ sg a0.Extra 3)) (old := [SL A1 a0.Days.length c2]) (post := [I a0.Collier.Low, I a0.Collier.High, I a0.Brings, SL A4 a0.Dips.length c5]) (vs := [SL A276 0 0]) sz26 S279 (i := 1) rfl rfl rfl rfl (rfl : _ = SL A276 0 0) rfl rfl rfl rfl fun w286 S287 => ?_
                          refine wp_nil ?_
                          refine c_seq ?_
                          obtain ⟨h288, H⟩ := needS H
                          obtain ⟨r289, h290, H⟩ := bindS H
                          refine reg_q mixed 7 (by kernel_rfl) ?_
                          refine dS (fun _ k_ => p_fld fl29_3 rfl dn) ?_
                          refine dS (fun _ k_ => p_ld ty26 (Asr.stays (S287.atX (i := 1) rfl) k_) rfl rfl dn) ?_
                          refine dS (fun _ k_ => p_mI rfl dn) ?_
                          refine dS (fun _ k_ => p_mI rfl dn) ?_
                          refine dS (fun _ k_ => p_shl h288 rfl rfl dn) ?_
                          refine dS (fun _ k_ => p_ixE sc26 h290 (gr_sl eCoalDay_len (Asr.stays (S287.atX (i := 0) rfl) k_)) rfl rfl rfl dn) ?_
                          refine dS (fun _ k_ => p_fldE fl64_2 (sl_here (gr_sl eCoalDay_len (Asr.stays (S287.atX (i := 0) rfl) k_)) h290) rfl dn) ?_
                          intro w291 k292; have S293 := S287.call k292
                          refine p_stE (x' := (CoalDay.mk r289.Crosses r289.Engines (shlI 1 r33))) (a := [I r289.Crosses, I r289.Engines]) (old := [I r289.Winds]) (b := []) (vs := [I (shlI 1 r33)]) sz3 eCoalDay_len eCoalDay_one S293 (i := 0) rfl h290 rfl (rfl : _ = I (shlI 1 r33)) rfl rfl rfl rfl rfl rfl fun l296 w297 h294 h295 S298 => ?_
                          obtain rfl : l296 = (([] : List CoalDay).set r29.toNat (CoalDay.mk r289.Crosses r289.Engines (shlI 1 r33))) := h294
                          try rw [← h295]
                          try rw [← h295] at S298
                          refine wp_nil ?_
                          refine c_seq ?_
                          refine reg ?_
                          refine p_ldA ty29 sz29 (S298.atX (i := 1) rfl) rfl rfl ?_
                          obtain ⟨r299, h300, H⟩ := bindS H
                          refine p_cv (coal_Right_ok h300 (gr_rd eCoalDay_len (S298.atX (i := 0) rfl)) (S298.atP (i := 1) rfl) (S298.atP (i := 3) rfl)) fu26 rfl S298 fun w301 S302 => ?_
                          refine p_mT rfl ?_
                          refine p_ext rfl rfl ?_
                          refine p_ext rfl rfl ?_
                          refine p_aB rfl ?_
                          refine p_aI rfl ?_
                          refine wp_nil ?_
                          refine c_seq ?_
                          refine reg ?_
                          refine p_mI rfl ?_
                          refine p_cmp rfl rfl rfl ?_
                          refine p_mB rfl ?_
                          rcases Bool.eq_false_or_eq_true ((r299.2 == 0)) with c303 | c303
                          · replace H := condT c303 H
                            refine eB c303 ?_
                            refine gT rfl rfl (p_fld fl29_3 rfl ?_)
                            refine gT rfl rfl (p_ld ty26 (S302.atX (i := 3) rfl) rfl rfl ?_)
                            refine gT rfl rfl (p_mI rfl ?_)
                            obtain ⟨r304, h305, H⟩ := bindS H
                            refine gT rfl rfl (p_ixE sc26 h305 (S302.atP (i := 0) rfl).1 rfl rfl rfl ?_)
                            refine gT rfl rfl (p_fldE fl64_2 (sl_here (S302.atP (i := 0) rfl).1 h305) rfl ?_)
                            refine gT rfl rfl (p_ldE ty3 h305 (S302.atP (i := 0) rfl).1 rfl rfl ?_)
                            refine gT rfl rfl (p_mI rfl ?_)
                            obtain ⟨r306, h307, H⟩ := bindS H
                            refine gT rfl rfl (p_cv (B_Member_ok h307) fu33 rfl S302 fun w308 S309 => ?_)
                            refine gT rfl rfl (p_not rfl ?_)
                            refine gT rfl rfl (p_mB rfl ?_)
                            rcases Bool.eq_false_or_eq_true (!r306) with c310 | c310
                            · replace H := condT c310 H
                              refine eB c310 ?_
                              refine gF rfl rfl ?_
                              refine gF rfl rfl ?_
                              refine gF rfl rfl ?_
                              refine gF rfl rfl ?_
                              refine gF rfl rfl ?_
                              refine gT rfl rfl (p_pkT rfl (rfl : _ = B true) ?_)
                              refine p_pkT rfl (rfl : _ = B true) ?_
                              refine p_mB rfl ?_
                              obtain ⟨r311, h312, H⟩ := bindS H
                              refine gT rfl rfl (p_cv (law_stoked_ok h312 (S309.atP (i := 2) rfl) (S309.atP (i := 3) rfl)) fu19 rfl S309 fun w313 S314 => ?_)
                              refine p_pkT rfl (rfl : _ = B r311) ?_
                              refine p_aB rfl ?_
                              refine wp_nil ?_
                              obtain rfl := Option.some.inj H
                              refine c_ret ?_; show bodyPostM (Fr none) 0 Tryd.prog Tryd.f7 _ .ret _ _
                              refine ret_of (res1 rfl (rvT (rfl : _ = B r311))) ?_
                              exact ⟨_, rfl, rfl, S314.keep⟩
                            · replace H := condF c310 H
                              refine eB c310 ?_
                              refine gT rfl rfl (p_mB rfl ?_)
                              refine gT rfl rfl (p_mI rfl ?_)
                              refine gT rfl rfl (p_mI rfl ?_)
                              obtain ⟨r315, h316, H⟩ := bindS H
                              refine gT rfl rfl (p_cv (B_Member_ok h316) fu33 rfl S309 fun w317 S318 => ?_)
                              refine gT rfl rfl (o_eqB rfl rfl ub4 ?_)
                              refine gT rfl rfl (p_pkF rfl (rfl : _ = B (r299.1 == r315)) ?_)
                              refine p_pkT rfl (rfl : _ = B (r299.1 == r315)) ?_
                              refine p_mB rfl ?_
                              rcases Bool.eq_false_or_eq_true ((r299.1 == r315)) with c319 | c319
                              · replace H := condT c319 H
                                refine eB c319 ?_
                                obtain ⟨r320, h321, H⟩ := bindS H
                                refine gT rfl rfl (p_cv (law_stoked_ok h321 (S318.atP (i := 2) rfl) (S318.atP (i := 3) rfl)) fu19 rfl S318 fun w322 S323 => ?_)
                                refine p_pkT rfl (rfl : _ = B r320) ?_
                                refine p_aB rfl ?_
                                refine wp_nil ?_
                                obtain rfl := Option.some.inj H
                                refine c_ret ?_; show bodyPostM (Fr none) 0 Tryd.prog Tryd.f7 _ .ret _ _
                                refine ret_of (res1 rfl (rvT (rfl : _ = B r320))) ?_
                                exact ⟨_, rfl, rfl, S323.keep⟩
                              · replace H := condF c319 H
                                refine eB c319 ?_
                                refine gF rfl rfl ?_
                                refine p_pkF rfl (rfl : _ = B false) ?_
                                refine p_aB rfl ?_
                                refine wp_nil ?_
                                obtain rfl := Option.some.inj H
                                refine c_ret ?_; show bodyPostM (Fr none) 0 Tryd.prog Tryd.f7 _ .ret _ _
                                refine ret_of (res1 rfl (rvT (rfl : _ = B false))) ?_
                                exact ⟨_, rfl, rfl, S318.keep⟩
                          · replace H := condF c303 H
                            refine eB c303 ?_
                            refine gF rfl rfl ?_
                            refine gF rfl rfl ?_
                            refine gF rfl rfl ?_
                            refine gF rfl rfl ?_
                            refine gF rfl rfl ?_
                            refine gF rfl rfl ?_
                            refine gF rfl rfl ?_
                            refine gF rfl rfl ?_
                            refine gF rfl rfl ?_
                            refine gF rfl rfl ?_
                            refine o_guardU rfl rfl ?_
                            refine o_guardU rfl rfl ?_
                            refine o_guardU rfl rfl ?_
                            refine o_guardU rfl rfl ?_
                            refine o_guardU rfl rfl ?_
                            refine gF rfl rfl ?_
                            refine p_pkF rfl (rfl : _ = B false) ?_
                            refine p_mB rfl ?_
                            refine gF rfl rfl ?_
                            refine p_pkF rfl (rfl : _ = B false) ?_
                            refine p_aB rfl ?_
                            refine wp_nil ?_
                            obtain rfl := Option.some.inj H
                            refine c_ret ?_; show bodyPostM (Fr none) 0 Tryd.prog Tryd.f7 _ .ret _ _
                            refine ret_of (res1 rfl (rvT (rfl : _ = B false))) ?_
                            exact ⟨_, rfl, rfl, S302.keep⟩
                        · replace H := condF c281 H
                          obtain ⟨h328, H⟩ := needS H
                          refine p_app (enc := eCoalDay) sc26 in64 rfl eCoalDay_len eCoalDay_one (by decide) S279 (k := 0) rfl (S279.atP (i := 0) rfl).1 h328 (ne_of_some c281) rfl rfl fun A326 c327 w324 S325 => ?_
                          refine p_fld fl29_3 rfl ?_
                          refine p_stP (pre := [I a0.Heap.Low, I a0.Heap.High] ++ (sgE eSpan a0.Eats 2 ++ sg a0.Extra 3)) (old := [SL A1 a0.Days.length c2]) (post := [I a0.Collier.Low, I a0.Collier.High, I a0.Brings, SL A4 a0.Dips.length c5]) (vs := [SL A326 a0.Days.length c327]) sz26 S325 (i := 1) rfl rfl rfl rfl (rfl : _ = SL A326 a0.Days.length c327) rfl rfl rfl rfl fun w329 S330 => ?_
                          refine wp_nil ?_
                          refine c_seq ?_
                          obtain ⟨h331, H⟩ := needS H
                          obtain ⟨r332, h333, H⟩ := bindS H
                          refine reg_q mixed 7 (by kernel_rfl) ?_
                          refine dS (fun _ k_ => p_fld fl29_3 rfl dn) ?_
                          refine dS (fun _ k_ => p_ld ty26 (Asr.stays (S330.atX (i := 1) rfl) k_) rfl rfl dn) ?_
                          refine dS (fun _ k_ => p_mI rfl dn) ?_
                          refine dS (fun _ k_ => p_mI rfl dn) ?_
                          refine dS (fun _ k_ => p_shl h331 rfl rfl dn) ?_
                          refine dS (fun _ k_ => p_ixE sc26 h333 (gr_sl eCoalDay_len (Asr.stays (S330.atX (i := 0) rfl) k_)) rfl rfl rfl dn) ?_
                          refine dS (fun _ k_ => p_fldE fl64_2 (sl_here (gr_sl eCoalDay_len (Asr.stays (S330.atX (i := 0) rfl) k_)) h333) rfl dn) ?_
                          intro w334 k335; have S336 := S330.call k335
                          refine p_stE (x' := (CoalDay.mk r332.Crosses r332.Engines (shlI 1 r33))) (a := [I r332.Crosses, I r332.Engines]) (old := [I r332.Winds]) (b := []) (vs := [I (shlI 1 r33)]) sz3 eCoalDay_len eCoalDay_one S336 (i := 0) rfl h333 rfl (rfl : _ = I (shlI 1 r33)) rfl rfl rfl rfl rfl rfl fun l339 w340 h337 h338 S341 => ?_
                          obtain rfl : l339 = (a0.Days.set r29.toNat (CoalDay.mk r332.Crosses r332.Engines (shlI 1 r33))) := h337
                          have h342 : SL A326 a0.Days.length c327 = SL A326 (a0.Days.set r29.toNat (CoalDay.mk r332.Crosses r332.Engines (shlI 1 r33))).length c327 := congrArg (fun n_ => SL A326 n_ c327) h338.symm
                          try rw [h342]
                          try rw [h342] at S341
                          refine wp_nil ?_
                          refine c_seq ?_
                          refine reg ?_
                          refine p_ldA ty29 sz29 (S341.atX (i := 1) rfl) rfl rfl ?_
                          obtain ⟨r343, h344, H⟩ := bindS H
                          refine p_cv (coal_Right_ok h344 (gr_rd eCoalDay_len (S341.atX (i := 0) rfl)) (S341.atP (i := 1) rfl) (S341.atP (i := 3) rfl)) fu26 rfl S341 fun w345 S346 => ?_
                          refine p_mT rfl ?_
                          refine p_ext rfl rfl ?_
                          refine p_ext rfl rfl ?_
                          refine p_aB rfl ?_
                          refine p_aI rfl ?_
                          refine wp_nil ?_
                          refine c_seq ?_
                          refine reg ?_
                          refine p_mI rfl ?_
                          refine p_cmp rfl rfl rfl ?_
                          refine p_mB rfl ?_
                          rcases Bool.eq_false_or_eq_true ((r343.2 == 0)) with c347 | c347
                          · replace H := condT c347 H
                            refine eB c347 ?_
                            refine gT rfl rfl (p_fld fl29_3 rfl ?_)
                            refine gT rfl rfl (p_ld ty26 (S346.atX (i := 3) rfl) rfl rfl ?_)
                            refine gT rfl rfl (p_mI rfl ?_)
                            obtain ⟨r348, h349, H⟩ := bindS H
                            refine gT rfl rfl (p_ixE sc26 h349 (S346.atP (i := 0) rfl).1 rfl rfl rfl ?_)
                            refine gT rfl rfl (p_fldE fl64_2 (sl_here (S346.atP (i := 0) rfl).1 h349) rfl ?_)
                            refine gT rfl rfl (p_ldE ty3 h349 (S346.atP (i := 0) rfl).1 rfl rfl ?_)
                            refine gT rfl rfl (p_mI rfl ?_)
                            obtain ⟨r350, h351, H⟩ := bindS H
                            refine gT rfl rfl (p_cv (B_Member_ok h351) fu33 rfl S346 fun w352 S353 => ?_)
                            refine gT rfl rfl (p_not rfl ?_)
                            refine gT rfl rfl (p_mB rfl ?_)
                            rcases Bool.eq_false_or_eq_true (!r350) with c354 | c354
                            · replace H := condT c354 H
                              refine eB c354 ?_
                              refine gF rfl rfl ?_
                              refine gF rfl rfl ?_
                              refine gF rfl rfl ?_
                              refine gF rfl rfl ?_
                              refine gF rfl rfl ?_
                              refine gT rfl rfl (p_pkT rfl (rfl : _ = B true) ?_)
                              refine p_pkT rfl (rfl : _ = B true) ?_
                              refine p_mB rfl ?_
                              obtain ⟨r355, h356, H⟩ := bindS H
                              refine gT rfl rfl (p_cv (law_stoked_ok h356 (S353.atP (i := 2) rfl) (S353.atP (i := 3) rfl)) fu19 rfl S353 fun w357 S358 => ?_)
                              refine p_pkT rfl (rfl : _ = B r355) ?_
                              refine p_aB rfl ?_
                              refine wp_nil ?_
                              obtain rfl := Option.some.inj H
                              refine c_ret ?_; show bodyPostM (Fr none) 0 Tryd.prog Tryd.f7 _ .ret _ _
                              refine ret_of (res1 rfl (rvT (rfl : _ = B r355))) ?_
                              exact ⟨_, rfl, rfl, S358.keep⟩
                            · replace H := condF c354 H
                              refine eB c354 ?_
                              refine gT rfl rfl (p_mB rfl ?_)
                              refine gT rfl rfl (p_mI rfl ?_)
                              refine gT rfl rfl (p_mI rfl ?_)
                              obtain ⟨r359, h360, H⟩ := bindS H
                              refine gT rfl rfl (p_cv (B_Member_ok h360) fu33 rfl S353 fun w361 S362 => ?_)
                              refine gT rfl rfl (o_eqB rfl rfl ub4 ?_)
                              refine gT rfl rfl (p_pkF rfl (rfl : _ = B (r343.1 == r359)) ?_)
                              refine p_pkT rfl (rfl : _ = B (r343.1 == r359)) ?_
                              refine p_mB rfl ?_
                              rcases Bool.eq_false_or_eq_true ((r343.1 == r359)) with c363 | c363
                              · replace H := condT c363 H
                                refine eB c363 ?_
                                obtain ⟨r364, h365, H⟩ := bindS H
                                refine gT rfl rfl (p_cv (law_stoked_ok h365 (S362.atP (i := 2) rfl) (S362.atP (i := 3) rfl)) fu19 rfl S362 fun w366 S367 => ?_)
                                refine p_pkT rfl (rfl : _ = B r364) ?_
                                refine p_aB rfl ?_
                                refine wp_nil ?_
                                obtain rfl := Option.some.inj H
                                refine c_ret ?_; show bodyPostM (Fr none) 0 Tryd.prog Tryd.f7 _ .ret _ _
                                refine ret_of (res1 rfl (rvT (rfl : _ = B r364))) ?_
                                exact ⟨_, rfl, rfl, S367.keep⟩
                              · replace H := condF c363 H
                                refine eB c363 ?_
                                refine gF rfl rfl ?_
                                refine p_pkF rfl (rfl : _ = B false) ?_
                                refine p_aB rfl ?_
                                refine wp_nil ?_
                                obtain rfl := Option.some.inj H
                                refine c_ret ?_; show bodyPostM (Fr none) 0 Tryd.prog Tryd.f7 _ .ret _ _
                                refine ret_of (res1 rfl (rvT (rfl : _ = B false))) ?_
                                exact ⟨_, rfl, rfl, S362.keep⟩
                          · replace H := condF c347 H
                            refine eB c347 ?_
                            refine gF rfl rfl ?_
                            refine gF rfl rfl ?_
                            refine gF rfl rfl ?_
                            refine gF rfl rfl ?_
                            refine gF rfl rfl ?_
                            refine gF rfl rfl ?_
                            refine gF rfl rfl ?_
                            refine gF rfl rfl ?_
                            refine gF rfl rfl ?_
                            refine gF rfl rfl ?_
                            refine o_guardU rfl rfl ?_
                            refine o_guardU rfl rfl ?_
                            refine o_guardU rfl rfl ?_
                            refine o_guardU rfl rfl ?_
                            refine o_guardU rfl rfl ?_
                            refine gF rfl rfl ?_
                            refine p_pkF rfl (rfl : _ = B false) ?_
                            refine p_mB rfl ?_
                            refine gF rfl rfl ?_
                            refine p_pkF rfl (rfl : _ = B false) ?_
                            refine p_aB rfl ?_
                            refine wp_nil ?_
                            obtain rfl := Option.some.inj H
                            refine c_ret ?_; show bodyPostM (Fr none) 0 Tryd.prog Tryd.f7 _ .ret _ _
                            refine ret_of (res1 rfl (rvT (rfl : _ = B false))) ?_
                            exact ⟨_, rfl, rfl, S346.keep⟩

end Go.Proofs.YticodohfokgjfaaDoor

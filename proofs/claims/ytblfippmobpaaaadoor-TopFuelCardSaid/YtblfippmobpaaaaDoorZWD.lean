/- What the functions of the program compute, and that they do, printed by a program of mine. -/
import Derived.Test.YtblfippmobpaaaaDoorZWC
import Derived.KernelRfl
set_option linter.unusedVariables false
set_option linter.unusedSimpArgs false
namespace Go.Proofs.YtblfippmobpaaaaDoor
open Go Go.Fx Go.Proofs
set_option maxRecDepth 100000 in
theorem law_burned06_ok {w:World}{r:Bool} (H:law_burned06=some r) (hg1:(gW0).ok w) (hg2:(gW1).ok w) (hg3:(gW2).ok w) (hg4:(gW3).ok w) (hg5:(gW4).ok w):Calls Tryd.prog 6 #[] w (RetV w (B r)):=by
 unfold law_burned06 at H
 refine fn_of (n:=86) Tryd.func6 rfl rfl (lE rfl) ?_
 have S:=St.start w nF _ (cA hg1 (cA hg2 (cA hg3 (cA hg4 (cA hg5 nM)))))
 refine c_seq<|reg<|p_aB rfl<|wp_nil<|c_seq<|reg<|p_bld (cs:=[I 1,I 27,I 0]) st75 (rfl:_=[(0,I 1),(1,I 27)]) (by kernel_rfl)<|p_bld (cs:=[I 2,I 25,I 1]) st75 (rfl:_=[(0,I 2),(1,I 25),(2,I 1)]) (by kernel_rfl) ?_
 refine p_bsl (enc:=eCoalDip) (l:=[(CoalDip.mk 1 27 0),(CoalDip.mk 2 25 1)]) (fun x=>AG (eCoalDip x)) (fun _=>rfl) sc27 in75 eCoalDip_len rfl (by decide) (by decide) zr75_2 S rfl fun A6 c7 w8 S9=>?_
 obtain ⟨r11,h12,H⟩:=bindS H
 refine p_cal (law_grate06_ok h12 (gr_rd eCoalDip_len (S9.atX (i:=0) rfl))) fu33 rfl ?_
 rintro _ w13 ⟨A15,c16,rfl,k14,⟨o17,n18⟩,_⟩
 have S20:=S9.addNew k14 o17 n18
 refine p_allA in29 S20 fun b21 w22 S23=>?_
 refine p_stP (pre:=[]) (old:=[I 0,I 0]++(sgE eSpan (List.replicate 2 (Span.mk 0 0)) 2++(sg (List.replicate 3 0) 3++[SL none 0 0,I 0,I 0,I 0,SL none 0 0]))) (post:=[]) (vs:=[I r11.Heap.Low,I r11.Heap.High]++(sgE eSpan r11.Eats 2++(sg r11.Extra 3++[SL A15 r11.Days.length c16,I r11.Collier.Low,I r11.Collier.High,I r11.Brings,SL A6 [(CoalDip.mk 1 27 0),(CoalDip.mk 2 25 1)].length c7]))) sz29 S23 (i:=0) rfl rfl rfl rfl (rfl:_=AG ([I r11.Heap.Low,I r11.Heap.High]++(sgE eSpan r11.Eats 2++(sg r11.Extra 3++[SL A15 r11.Days.length c16,I r11.Collier.Low,I r11.Collier.High,I r11.Brings,SL A6 [(CoalDip.mk 1 27 0),(CoalDip.mk 2 25 1)].length c7])))) rfl rfl rfl rfl fun w24 S25=>?_
 refine wp_nil<|c_seq<|reg<|p_ldA ty29 sz29 (S25.atX (i:=0) rfl) rfl rfl ?_
 obtain ⟨r26,h27,H⟩:=bindS H
 refine p_cv (coal_Heap_ok h27 (gr_rd eCoalDay_len (S25.atX (i:=1) rfl)) (gr_rd eCoalDip_len (S25.atX (i:=2) rfl)) (S25.atP (i:=0) rfl)) fu15 rfl S25 fun w28 S29=>p_mT rfl<|p_ext rfl rfl<|p_ext rfl rfl<|p_allA in23 S29 fun b30 w31 S32=>?_
 refine p_stP (pre:=[]) (old:=[I 0,I 0]) (post:=[]) (vs:=[I r26.1.Low,I r26.1.High]) sz23 S32 (i:=0) rfl rfl rfl rfl (rfl:_=AG [I r26.1.Low,I r26.1.High]) rfl rfl rfl rfl fun w33 S34=>p_aI rfl<|wp_nil<|c_seq<|reg<|p_ldA ty29 sz29 (S34.atX (i:=1) rfl) rfl rfl ?_
 obtain ⟨r35,h36,H⟩:=bindS H
 refine p_cal (law_trips06_ok h36 (gr_rd eCoalDay_len (S34.atX (i:=2) rfl)) (gr_rd eCoalDip_len (S34.atX (i:=3) rfl))) fu8 rfl ?_
 rintro _ w37 ⟨A39,c40,rfl,k38,⟨o41,n42⟩,_⟩
 have S44:=S34.addNew k38 o41 n42
 obtain ⟨r45,h46,H⟩:=bindS H
 refine p_cv (tally_Many_ok h46 (gr_rd eTallyCount_len (S44.atX (i:=0) rfl)) (S44.atP (i:=1) rfl) (S44.atP (i:=3) rfl)) fu16 rfl S44 fun w47 S48=>p_mT rfl<|p_ext rfl rfl<|p_ext rfl rfl<|p_allA in23 S48 fun b49 w50 S51=>?_
 refine p_stP (pre:=[]) (old:=[I 0,I 0]) (post:=[]) (vs:=[I r45.1.Low,I r45.1.High]) sz23 S51 (i:=0) rfl rfl rfl rfl (rfl:_=AG [I r45.1.Low,I r45.1.High]) rfl rfl rfl rfl fun w52 S53=>p_aI rfl<|wp_nil<|c_seq<|reg<|p_ldA ty29 sz29 (S53.atX (i:=3) rfl) rfl rfl ?_
 obtain ⟨r54,h55,H⟩:=bindS H
 refine p_cv (coal_Wind_ok h55 (gr_rd eCoalDay_len (S53.atX (i:=4) rfl)) (gr_rd eCoalDip_len (S53.atX (i:=5) rfl)) (S53.atP (i:=0) rfl)) fu17 rfl S53 fun w56 S57=>p_mT rfl<|p_ext rfl rfl<|p_ext rfl rfl<|p_aI rfl<|p_aI rfl<|wp_nil<|c_seq<|reg ?_
 obtain ⟨r58,h59,H⟩:=bindS H
 refine p_cv (B_Point_ok h59) fu21 rfl S57 fun w60 S61=>?_
 obtain ⟨r62,h63,H⟩:=bindS H
 refine p_cv (B_Point_ok h63) fu21 rfl S61 fun w64 S65=>p_bld (cs:=[I r58.Low,I r58.High,I r62.Low,I r62.High]) st79 (rfl:_=[(0,AG [I r58.Low,I r58.High]),(1,AG [I r62.Low,I r62.High])]) (by kernel_rfl) ?_
 refine p_bsl (enc:=eChainSection) (l:=([(ChainSection.mk r58 r62)]:List ChainSection)) (fun x=>AG (eChainSection x)) (fun _=>rfl) sc60 in79 eChainSection_len rfl (by decide) (by decide) zr79_1 S65 rfl fun A66 c67 w68 S69=>?_
 refine p_bld (cs:=[SL A66 ([(ChainSection.mk r58 r62)]:List ChainSection).length c67,SL none 0 0,SL none 0 0,I 4,I 4]) st63 (rfl:_=[(0,SL A66 ([(ChainSection.mk r58 r62)]:List ChainSection).length c67),(3,I 4),(4,I 4)]) (by kernel_rfl) ?_
 obtain ⟨r71,h72,H⟩:=bindS H
 refine p_cv (chain_Thin_ok h72 (gr_rd eChainSection_len (S69.atX (i:=0) rfl)) (rd_nil (Nat.zero_le _)) (rd_nil (Nat.zero_le _)) (S69.atP (i:=2) rfl) (S69.atP (i:=4) rfl)) fu34 rfl S69 fun w73 S74=>p_mT rfl<|p_ext rfl rfl<|p_ext rfl rfl<|p_aI rfl<|p_aI rfl<|wp_nil<|c_seq<|reg<|p_ldA ty29 sz29 (S74.atX (i:=4) rfl) rfl rfl ?_
 obtain ⟨r75,h76,H⟩:=bindS H
 refine p_cal (law_trips06_ok h76 (gr_rd eCoalDay_len (S74.atX (i:=5) rfl)) (gr_rd eCoalDip_len (S74.atX (i:=6) rfl))) fu8 rfl ?_
 rintro _ w77 ⟨A79,c80,rfl,k78,⟨o81,n82⟩,_⟩
 have S84:=S74.addNew k78 o81 n82
 obtain ⟨r85,h86,H⟩:=bindS H
 refine p_cv (tally_Right_ok h86 (gr_rd eTallyCount_len (S84.atX (i:=0) rfl)) (S84.atP (i:=1) rfl) (S84.atP (i:=3) rfl)) fu11 rfl S84 fun w87 S88=>p_mT rfl<|p_ext rfl rfl<|p_ext rfl rfl<|p_aB rfl<|p_aI rfl<|wp_nil<|c_seq ?_
 rcases bE ((r26.2==0)) with c89 | c89
 ·replace H:=condT c89 H
  rcases bE ((r45.2==0)) with c90 | c90
  ·replace H:=condT c90 H
   rcases bE ((r54.2==0)) with c91 | c91
   ·replace H:=condT c91 H
    rcases bE ((r71.2==0)) with c92 | c92
    ·replace H:=condT c92 H
     rcases bE ((r85.2==0)) with c93 | c93
     ·replace H:=condT c93 H
      obtain ⟨r94,h95,H⟩:=bindS H
      rcases bE (((r26.1.Low==r94.Low)&&(r26.1.High==r94.High))) with c96 | c96
      ·replace H:=condT c96 H
       obtain ⟨r97,h98,H⟩:=bindS H
       rcases bE (((r45.1.Low==r97.Low)&&(r45.1.High==r97.High))) with c99 | c99
       ·replace H:=condT c99 H
        rcases bE ((r54.1==6)) with c100 | c100
        ·replace H:=condT c100 H
         rcases bE ((r71.1==3)) with c101 | c101
         ·replace H:=condT c101 H
          refine reg_q mixed 40 (by kernel_rfl) ?_
          refine dS (fun _ k_=>p_mI rfl dn)<|dS (fun _ k_=>p_cmp rfl rfl rfl dn)<|dS (fun _ k_=>p_mB rfl dn)<|dB c89<|dS (fun _ k_=>gT rfl rfl (p_mI rfl dn))<|dS (fun _ k_=>gT rfl rfl (p_cmp rfl rfl rfl dn))<|dS (fun _ k_=>p_pkT rfl (rfl:_=B (r45.2==0)) dn)<|dS (fun _ k_=>p_mB rfl dn)<|dB c90<|dS (fun _ k_=>gT rfl rfl (p_mI rfl dn))<|dS (fun _ k_=>gT rfl rfl (p_cmp rfl rfl rfl dn)) ?_
          refine dS (fun _ k_=>p_pkT rfl (rfl:_=B (r54.2==0)) dn)<|dS (fun _ k_=>p_mB rfl dn)<|dB c91<|dS (fun _ k_=>gT rfl rfl (p_mI rfl dn))<|dS (fun _ k_=>gT rfl rfl (p_cmp rfl rfl rfl dn))<|dS (fun _ k_=>p_pkT rfl (rfl:_=B (r71.2==0)) dn)<|dS (fun _ k_=>p_mB rfl dn)<|dB c92<|dS (fun _ k_=>gT rfl rfl (p_mI rfl dn))<|dS (fun _ k_=>gT rfl rfl (p_cmp rfl rfl rfl dn)) ?_
          refine dS (fun _ k_=>p_pkT rfl (rfl:_=B (r85.2==0)) dn)<|dS (fun _ k_=>p_mB rfl dn)<|dB c93<|dS (fun _ k_=>gT rfl rfl (p_ldA ty23 sz23 (aS (S88.atX (i:=4) rfl) k_) rfl rfl dn))<|dS (fun _ k_=>gT rfl rfl (p_cvD (B_Range_ok h95) fu18 rfl)) ?_
          refine dS (fun _ k_=>gT rfl rfl (o_eqA (xs:=[I r26.1.Low,I r26.1.High]) (ys:=[I r94.Low,I r94.High]) (T:=((r26.1.Low==r94.Low)&&(r26.1.High==r94.High))) rfl rfl eq23 ⟨⟨_,rfl⟩,⟨⟨_,rfl⟩,trivial⟩⟩ ⟨⟨_,rfl⟩,⟨⟨_,rfl⟩,trivial⟩⟩ (by simp [Bool.and_eq_true,and_assoc]) dn))<|dS (fun _ k_=>p_pkT rfl (rfl:_=B ((r26.1.Low==r94.Low)&&(r26.1.High==r94.High))) dn) ?_
          refine dS (fun _ k_=>p_mB rfl dn)<|dB c96<|dS (fun _ k_=>gT rfl rfl (p_ldA ty23 sz23 (aS (S88.atX (i:=2) rfl) k_) rfl rfl dn))<|dS (fun _ k_=>gT rfl rfl (p_cvD (B_Range_ok h98) fu18 rfl)) ?_
          refine dS (fun _ k_=>gT rfl rfl (o_eqA (xs:=[I r45.1.Low,I r45.1.High]) (ys:=[I r97.Low,I r97.High]) (T:=((r45.1.Low==r97.Low)&&(r45.1.High==r97.High))) rfl rfl eq23 ⟨⟨_,rfl⟩,⟨⟨_,rfl⟩,trivial⟩⟩ ⟨⟨_,rfl⟩,⟨⟨_,rfl⟩,trivial⟩⟩ (by simp [Bool.and_eq_true,and_assoc]) dn))<|dS (fun _ k_=>p_pkT rfl (rfl:_=B ((r45.1.Low==r97.Low)&&(r45.1.High==r97.High))) dn) ?_
          refine dS (fun _ k_=>p_mB rfl dn)<|dB c99<|dS (fun _ k_=>gT rfl rfl (p_mI rfl dn))<|dS (fun _ k_=>gT rfl rfl (p_cmp rfl rfl rfl dn))<|dS (fun _ k_=>p_pkT rfl (rfl:_=B (r54.1==6)) dn)<|dS (fun _ k_=>p_mB rfl dn)<|dB c100<|dS (fun _ k_=>gT rfl rfl (p_mI rfl dn))<|dS (fun _ k_=>gT rfl rfl (p_cmp rfl rfl rfl dn))<|dS (fun _ k_=>p_pkT rfl (rfl:_=B (r71.1==3)) dn)<|dS (fun _ k_=>p_mB rfl dn)<|dB c101 ?_
          refine dS (fun _ k_=>gT rfl rfl (p_mB rfl dn))<|dS (fun _ k_=>p_pkT rfl (rfl:_=B r85.1) dn)<|dS (fun _ k_=>p_aB rfl dn) ?_
          intro w102 k103; have S104:=S88.call k103
          refine wp_nil ?_
          obtain rfl:=sJ H
          exact c_ret (rT Tryd.f6 S104.keep rfl rfl)
         ·replace H:=condF c101 H
          refine reg_q mixed 40 (by kernel_rfl) ?_
          refine dS (fun _ k_=>p_mI rfl dn)<|dS (fun _ k_=>p_cmp rfl rfl rfl dn)<|dS (fun _ k_=>p_mB rfl dn)<|dB c89<|dS (fun _ k_=>gT rfl rfl (p_mI rfl dn))<|dS (fun _ k_=>gT rfl rfl (p_cmp rfl rfl rfl dn))<|dS (fun _ k_=>p_pkT rfl (rfl:_=B (r45.2==0)) dn)<|dS (fun _ k_=>p_mB rfl dn)<|dB c90<|dS (fun _ k_=>gT rfl rfl (p_mI rfl dn))<|dS (fun _ k_=>gT rfl rfl (p_cmp rfl rfl rfl dn)) ?_
          refine dS (fun _ k_=>p_pkT rfl (rfl:_=B (r54.2==0)) dn)<|dS (fun _ k_=>p_mB rfl dn)<|dB c91<|dS (fun _ k_=>gT rfl rfl (p_mI rfl dn))<|dS (fun _ k_=>gT rfl rfl (p_cmp rfl rfl rfl dn))<|dS (fun _ k_=>p_pkT rfl (rfl:_=B (r71.2==0)) dn)<|dS (fun _ k_=>p_mB rfl dn)<|dB c92<|dS (fun _ k_=>gT rfl rfl (p_mI rfl dn))<|dS (fun _ k_=>gT rfl rfl (p_cmp rfl rfl rfl dn)) ?_
          refine dS (fun _ k_=>p_pkT rfl (rfl:_=B (r85.2==0)) dn)<|dS (fun _ k_=>p_mB rfl dn)<|dB c93<|dS (fun _ k_=>gT rfl rfl (p_ldA ty23 sz23 (aS (S88.atX (i:=4) rfl) k_) rfl rfl dn))<|dS (fun _ k_=>gT rfl rfl (p_cvD (B_Range_ok h95) fu18 rfl)) ?_
          refine dS (fun _ k_=>gT rfl rfl (o_eqA (xs:=[I r26.1.Low,I r26.1.High]) (ys:=[I r94.Low,I r94.High]) (T:=((r26.1.Low==r94.Low)&&(r26.1.High==r94.High))) rfl rfl eq23 ⟨⟨_,rfl⟩,⟨⟨_,rfl⟩,trivial⟩⟩ ⟨⟨_,rfl⟩,⟨⟨_,rfl⟩,trivial⟩⟩ (by simp [Bool.and_eq_true,and_assoc]) dn))<|dS (fun _ k_=>p_pkT rfl (rfl:_=B ((r26.1.Low==r94.Low)&&(r26.1.High==r94.High))) dn) ?_
          refine dS (fun _ k_=>p_mB rfl dn)<|dB c96<|dS (fun _ k_=>gT rfl rfl (p_ldA ty23 sz23 (aS (S88.atX (i:=2) rfl) k_) rfl rfl dn))<|dS (fun _ k_=>gT rfl rfl (p_cvD (B_Range_ok h98) fu18 rfl)) ?_
          refine dS (fun _ k_=>gT rfl rfl (o_eqA (xs:=[I r45.1.Low,I r45.1.High]) (ys:=[I r97.Low,I r97.High]) (T:=((r45.1.Low==r97.Low)&&(r45.1.High==r97.High))) rfl rfl eq23 ⟨⟨_,rfl⟩,⟨⟨_,rfl⟩,trivial⟩⟩ ⟨⟨_,rfl⟩,⟨⟨_,rfl⟩,trivial⟩⟩ (by simp [Bool.and_eq_true,and_assoc]) dn))<|dS (fun _ k_=>p_pkT rfl (rfl:_=B ((r45.1.Low==r97.Low)&&(r45.1.High==r97.High))) dn) ?_
          refine dS (fun _ k_=>p_mB rfl dn)<|dB c99<|dS (fun _ k_=>gT rfl rfl (p_mI rfl dn))<|dS (fun _ k_=>gT rfl rfl (p_cmp rfl rfl rfl dn))<|dS (fun _ k_=>p_pkT rfl (rfl:_=B (r54.1==6)) dn)<|dS (fun _ k_=>p_mB rfl dn)<|dB c100<|dS (fun _ k_=>gT rfl rfl (p_mI rfl dn))<|dS (fun _ k_=>gT rfl rfl (p_cmp rfl rfl rfl dn))<|dS (fun _ k_=>p_pkT rfl (rfl:_=B (r71.1==3)) dn)<|dS (fun _ k_=>p_mB rfl dn)<|dB c101 ?_
          refine dF rfl rfl<|dS (fun _ k_=>p_pkF rfl (rfl:_=B false) dn)<|dS (fun _ k_=>p_aB rfl dn) ?_
          intro w105 k106; have S107:=S88.call k106
          refine wp_nil ?_
          obtain rfl:=sJ H
          exact c_ret (rT Tryd.f6 S107.keep rfl rfl)
        ·replace H:=condF c100 H
         refine reg_q mixed 40 (by kernel_rfl) ?_
         refine dS (fun _ k_=>p_mI rfl dn)<|dS (fun _ k_=>p_cmp rfl rfl rfl dn)<|dS (fun _ k_=>p_mB rfl dn)<|dB c89<|dS (fun _ k_=>gT rfl rfl (p_mI rfl dn))<|dS (fun _ k_=>gT rfl rfl (p_cmp rfl rfl rfl dn))<|dS (fun _ k_=>p_pkT rfl (rfl:_=B (r45.2==0)) dn)<|dS (fun _ k_=>p_mB rfl dn)<|dB c90<|dS (fun _ k_=>gT rfl rfl (p_mI rfl dn))<|dS (fun _ k_=>gT rfl rfl (p_cmp rfl rfl rfl dn)) ?_
         refine dS (fun _ k_=>p_pkT rfl (rfl:_=B (r54.2==0)) dn)<|dS (fun _ k_=>p_mB rfl dn)<|dB c91<|dS (fun _ k_=>gT rfl rfl (p_mI rfl dn))<|dS (fun _ k_=>gT rfl rfl (p_cmp rfl rfl rfl dn))<|dS (fun _ k_=>p_pkT rfl (rfl:_=B (r71.2==0)) dn)<|dS (fun _ k_=>p_mB rfl dn)<|dB c92<|dS (fun _ k_=>gT rfl rfl (p_mI rfl dn))<|dS (fun _ k_=>gT rfl rfl (p_cmp rfl rfl rfl dn)) ?_
         refine dS (fun _ k_=>p_pkT rfl (rfl:_=B (r85.2==0)) dn)<|dS (fun _ k_=>p_mB rfl dn)<|dB c93<|dS (fun _ k_=>gT rfl rfl (p_ldA ty23 sz23 (aS (S88.atX (i:=4) rfl) k_) rfl rfl dn))<|dS (fun _ k_=>gT rfl rfl (p_cvD (B_Range_ok h95) fu18 rfl)) ?_
         refine dS (fun _ k_=>gT rfl rfl (o_eqA (xs:=[I r26.1.Low,I r26.1.High]) (ys:=[I r94.Low,I r94.High]) (T:=((r26.1.Low==r94.Low)&&(r26.1.High==r94.High))) rfl rfl eq23 ⟨⟨_,rfl⟩,⟨⟨_,rfl⟩,trivial⟩⟩ ⟨⟨_,rfl⟩,⟨⟨_,rfl⟩,trivial⟩⟩ (by simp [Bool.and_eq_true,and_assoc]) dn))<|dS (fun _ k_=>p_pkT rfl (rfl:_=B ((r26.1.Low==r94.Low)&&(r26.1.High==r94.High))) dn) ?_
         refine dS (fun _ k_=>p_mB rfl dn)<|dB c96<|dS (fun _ k_=>gT rfl rfl (p_ldA ty23 sz23 (aS (S88.atX (i:=2) rfl) k_) rfl rfl dn))<|dS (fun _ k_=>gT rfl rfl (p_cvD (B_Range_ok h98) fu18 rfl)) ?_
         refine dS (fun _ k_=>gT rfl rfl (o_eqA (xs:=[I r45.1.Low,I r45.1.High]) (ys:=[I r97.Low,I r97.High]) (T:=((r45.1.Low==r97.Low)&&(r45.1.High==r97.High))) rfl rfl eq23 ⟨⟨_,rfl⟩,⟨⟨_,rfl⟩,trivial⟩⟩ ⟨⟨_,rfl⟩,⟨⟨_,rfl⟩,trivial⟩⟩ (by simp [Bool.and_eq_true,and_assoc]) dn))<|dS (fun _ k_=>p_pkT rfl (rfl:_=B ((r45.1.Low==r97.Low)&&(r45.1.High==r97.High))) dn) ?_
         refine dS (fun _ k_=>p_mB rfl dn)<|dB c99<|dS (fun _ k_=>gT rfl rfl (p_mI rfl dn))<|dS (fun _ k_=>gT rfl rfl (p_cmp rfl rfl rfl dn))<|dS (fun _ k_=>p_pkT rfl (rfl:_=B (r54.1==6)) dn)<|dS (fun _ k_=>p_mB rfl dn)<|dB c100<|dF rfl rfl<|dF rfl rfl<|dS (fun _ k_=>p_pkF rfl (rfl:_=B false) dn)<|dS (fun _ k_=>p_mB rfl dn)<|dF rfl rfl ?_
         refine dS (fun _ k_=>p_pkF rfl (rfl:_=B false) dn)<|dS (fun _ k_=>p_aB rfl dn) ?_
         intro w108 k109; have S110:=S88.call k109
         refine wp_nil ?_
         obtain rfl:=sJ H
         exact c_ret (rT Tryd.f6 S110.keep rfl rfl)
       ·replace H:=condF c99 H
        refine reg_q mixed 40 (by kernel_rfl) ?_
        refine dS (fun _ k_=>p_mI rfl dn)<|dS (fun _ k_=>p_cmp rfl rfl rfl dn)<|dS (fun _ k_=>p_mB rfl dn)<|dB c89<|dS (fun _ k_=>gT rfl rfl (p_mI rfl dn))<|dS (fun _ k_=>gT rfl rfl (p_cmp rfl rfl rfl dn))<|dS (fun _ k_=>p_pkT rfl (rfl:_=B (r45.2==0)) dn)<|dS (fun _ k_=>p_mB rfl dn)<|dB c90<|dS (fun _ k_=>gT rfl rfl (p_mI rfl dn))<|dS (fun _ k_=>gT rfl rfl (p_cmp rfl rfl rfl dn)) ?_
        refine dS (fun _ k_=>p_pkT rfl (rfl:_=B (r54.2==0)) dn)<|dS (fun _ k_=>p_mB rfl dn)<|dB c91<|dS (fun _ k_=>gT rfl rfl (p_mI rfl dn))<|dS (fun _ k_=>gT rfl rfl (p_cmp rfl rfl rfl dn))<|dS (fun _ k_=>p_pkT rfl (rfl:_=B (r71.2==0)) dn)<|dS (fun _ k_=>p_mB rfl dn)<|dB c92<|dS (fun _ k_=>gT rfl rfl (p_mI rfl dn))<|dS (fun _ k_=>gT rfl rfl (p_cmp rfl rfl rfl dn)) ?_
        refine dS (fun _ k_=>p_pkT rfl (rfl:_=B (r85.2==0)) dn)<|dS (fun _ k_=>p_mB rfl dn)<|dB c93<|dS (fun _ k_=>gT rfl rfl (p_ldA ty23 sz23 (aS (S88.atX (i:=4) rfl) k_) rfl rfl dn))<|dS (fun _ k_=>gT rfl rfl (p_cvD (B_Range_ok h95) fu18 rfl)) ?_
        refine dS (fun _ k_=>gT rfl rfl (o_eqA (xs:=[I r26.1.Low,I r26.1.High]) (ys:=[I r94.Low,I r94.High]) (T:=((r26.1.Low==r94.Low)&&(r26.1.High==r94.High))) rfl rfl eq23 ⟨⟨_,rfl⟩,⟨⟨_,rfl⟩,trivial⟩⟩ ⟨⟨_,rfl⟩,⟨⟨_,rfl⟩,trivial⟩⟩ (by simp [Bool.and_eq_true,and_assoc]) dn))<|dS (fun _ k_=>p_pkT rfl (rfl:_=B ((r26.1.Low==r94.Low)&&(r26.1.High==r94.High))) dn) ?_
        refine dS (fun _ k_=>p_mB rfl dn)<|dB c96<|dS (fun _ k_=>gT rfl rfl (p_ldA ty23 sz23 (aS (S88.atX (i:=2) rfl) k_) rfl rfl dn))<|dS (fun _ k_=>gT rfl rfl (p_cvD (B_Range_ok h98) fu18 rfl)) ?_
        refine dS (fun _ k_=>gT rfl rfl (o_eqA (xs:=[I r45.1.Low,I r45.1.High]) (ys:=[I r97.Low,I r97.High]) (T:=((r45.1.Low==r97.Low)&&(r45.1.High==r97.High))) rfl rfl eq23 ⟨⟨_,rfl⟩,⟨⟨_,rfl⟩,trivial⟩⟩ ⟨⟨_,rfl⟩,⟨⟨_,rfl⟩,trivial⟩⟩ (by simp [Bool.and_eq_true,and_assoc]) dn))<|dS (fun _ k_=>p_pkT rfl (rfl:_=B ((r45.1.Low==r97.Low)&&(r45.1.High==r97.High))) dn) ?_
        refine dS (fun _ k_=>p_mB rfl dn)<|dB c99<|dF rfl rfl<|dF rfl rfl<|dS (fun _ k_=>p_pkF rfl (rfl:_=B false) dn)<|dS (fun _ k_=>p_mB rfl dn)<|dF rfl rfl<|dF rfl rfl<|dS (fun _ k_=>p_pkF rfl (rfl:_=B false) dn)<|dS (fun _ k_=>p_mB rfl dn)<|dF rfl rfl<|dS (fun _ k_=>p_pkF rfl (rfl:_=B false) dn) ?_
        refine dS (fun _ k_=>p_aB rfl dn) ?_
        intro w111 k112; have S113:=S88.call k112
        refine wp_nil ?_
        obtain rfl:=sJ H
        exact c_ret (rT Tryd.f6 S113.keep rfl rfl)
      ·replace H:=condF c96 H
       refine reg_q mixed 40 (by kernel_rfl) ?_
       refine dS (fun _ k_=>p_mI rfl dn)<|dS (fun _ k_=>p_cmp rfl rfl rfl dn)<|dS (fun _ k_=>p_mB rfl dn)<|dB c89<|dS (fun _ k_=>gT rfl rfl (p_mI rfl dn))<|dS (fun _ k_=>gT rfl rfl (p_cmp rfl rfl rfl dn))<|dS (fun _ k_=>p_pkT rfl (rfl:_=B (r45.2==0)) dn)<|dS (fun _ k_=>p_mB rfl dn)<|dB c90<|dS (fun _ k_=>gT rfl rfl (p_mI rfl dn))<|dS (fun _ k_=>gT rfl rfl (p_cmp rfl rfl rfl dn)) ?_
       refine dS (fun _ k_=>p_pkT rfl (rfl:_=B (r54.2==0)) dn)<|dS (fun _ k_=>p_mB rfl dn)<|dB c91<|dS (fun _ k_=>gT rfl rfl (p_mI rfl dn))<|dS (fun _ k_=>gT rfl rfl (p_cmp rfl rfl rfl dn))<|dS (fun _ k_=>p_pkT rfl (rfl:_=B (r71.2==0)) dn)<|dS (fun _ k_=>p_mB rfl dn)<|dB c92<|dS (fun _ k_=>gT rfl rfl (p_mI rfl dn))<|dS (fun _ k_=>gT rfl rfl (p_cmp rfl rfl rfl dn)) ?_
       refine dS (fun _ k_=>p_pkT rfl (rfl:_=B (r85.2==0)) dn)<|dS (fun _ k_=>p_mB rfl dn)<|dB c93<|dS (fun _ k_=>gT rfl rfl (p_ldA ty23 sz23 (aS (S88.atX (i:=4) rfl) k_) rfl rfl dn))<|dS (fun _ k_=>gT rfl rfl (p_cvD (B_Range_ok h95) fu18 rfl)) ?_
       refine dS (fun _ k_=>gT rfl rfl (o_eqA (xs:=[I r26.1.Low,I r26.1.High]) (ys:=[I r94.Low,I r94.High]) (T:=((r26.1.Low==r94.Low)&&(r26.1.High==r94.High))) rfl rfl eq23 ⟨⟨_,rfl⟩,⟨⟨_,rfl⟩,trivial⟩⟩ ⟨⟨_,rfl⟩,⟨⟨_,rfl⟩,trivial⟩⟩ (by simp [Bool.and_eq_true,and_assoc]) dn))<|dS (fun _ k_=>p_pkT rfl (rfl:_=B ((r26.1.Low==r94.Low)&&(r26.1.High==r94.High))) dn) ?_
       refine dS (fun _ k_=>p_mB rfl dn)<|dB c96<|dF rfl rfl<|dF rfl rfl<|dF rfl rfl<|dS (fun _ k_=>p_pkF rfl (rfl:_=B false) dn)<|dS (fun _ k_=>p_mB rfl dn)<|dF rfl rfl<|dF rfl rfl<|dS (fun _ k_=>p_pkF rfl (rfl:_=B false) dn)<|dS (fun _ k_=>p_mB rfl dn)<|dF rfl rfl ?_
       refine dF rfl rfl<|dS (fun _ k_=>p_pkF rfl (rfl:_=B false) dn)<|dS (fun _ k_=>p_mB rfl dn)<|dF rfl rfl<|dS (fun _ k_=>p_pkF rfl (rfl:_=B false) dn)<|dS (fun _ k_=>p_aB rfl dn) ?_
       intro w114 k115; have S116:=S88.call k115
       refine wp_nil ?_
       obtain rfl:=sJ H
       exact c_ret (rT Tryd.f6 S116.keep rfl rfl)
     ·replace H:=condF c93 H
      refine reg_q mixed 40 (by kernel_rfl) ?_
      refine dS (fun _ k_=>p_mI rfl dn)<|dS (fun _ k_=>p_cmp rfl rfl rfl dn)<|dS (fun _ k_=>p_mB rfl dn)<|dB c89<|dS (fun _ k_=>gT rfl rfl (p_mI rfl dn))<|dS (fun _ k_=>gT rfl rfl (p_cmp rfl rfl rfl dn))<|dS (fun _ k_=>p_pkT rfl (rfl:_=B (r45.2==0)) dn)<|dS (fun _ k_=>p_mB rfl dn)<|dB c90<|dS (fun _ k_=>gT rfl rfl (p_mI rfl dn))<|dS (fun _ k_=>gT rfl rfl (p_cmp rfl rfl rfl dn)) ?_
      refine dS (fun _ k_=>p_pkT rfl (rfl:_=B (r54.2==0)) dn)<|dS (fun _ k_=>p_mB rfl dn)<|dB c91<|dS (fun _ k_=>gT rfl rfl (p_mI rfl dn))<|dS (fun _ k_=>gT rfl rfl (p_cmp rfl rfl rfl dn))<|dS (fun _ k_=>p_pkT rfl (rfl:_=B (r71.2==0)) dn)<|dS (fun _ k_=>p_mB rfl dn)<|dB c92<|dS (fun _ k_=>gT rfl rfl (p_mI rfl dn))<|dS (fun _ k_=>gT rfl rfl (p_cmp rfl rfl rfl dn)) ?_
      refine dS (fun _ k_=>p_pkT rfl (rfl:_=B (r85.2==0)) dn)<|dS (fun _ k_=>p_mB rfl dn)<|dB c93<|dF rfl rfl<|dF rfl rfl<|dF rfl rfl<|dS (fun _ k_=>p_pkF rfl (rfl:_=B false) dn)<|dS (fun _ k_=>p_mB rfl dn)<|dF rfl rfl<|dF rfl rfl<|dF rfl rfl ?_
      refine dS (fun _ k_=>p_pkF rfl (rfl:_=B false) dn)<|dS (fun _ k_=>p_mB rfl dn)<|dF rfl rfl<|dF rfl rfl<|dS (fun _ k_=>p_pkF rfl (rfl:_=B false) dn)<|dS (fun _ k_=>p_mB rfl dn)<|dF rfl rfl<|dF rfl rfl<|dS (fun _ k_=>p_pkF rfl (rfl:_=B false) dn)<|dS (fun _ k_=>p_mB rfl dn)<|dF rfl rfl ?_
      refine dS (fun _ k_=>p_pkF rfl (rfl:_=B false) dn)<|dS (fun _ k_=>p_aB rfl dn) ?_
      intro w117 k118; have S119:=S88.call k118
      refine wp_nil ?_
      obtain rfl:=sJ H
      exact c_ret (rT Tryd.f6 S119.keep rfl rfl)
    ·replace H:=condF c92 H
     refine reg_q mixed 40 (by kernel_rfl) ?_
     refine dS (fun _ k_=>p_mI rfl dn)<|dS (fun _ k_=>p_cmp rfl rfl rfl dn)<|dS (fun _ k_=>p_mB rfl dn)<|dB c89<|dS (fun _ k_=>gT rfl rfl (p_mI rfl dn))<|dS (fun _ k_=>gT rfl rfl (p_cmp rfl rfl rfl dn))<|dS (fun _ k_=>p_pkT rfl (rfl:_=B (r45.2==0)) dn)<|dS (fun _ k_=>p_mB rfl dn)<|dB c90<|dS (fun _ k_=>gT rfl rfl (p_mI rfl dn))<|dS (fun _ k_=>gT rfl rfl (p_cmp rfl rfl rfl dn)) ?_
     refine dS (fun _ k_=>p_pkT rfl (rfl:_=B (r54.2==0)) dn)<|dS (fun _ k_=>p_mB rfl dn)<|dB c91<|dS (fun _ k_=>gT rfl rfl (p_mI rfl dn))<|dS (fun _ k_=>gT rfl rfl (p_cmp rfl rfl rfl dn))<|dS (fun _ k_=>p_pkT rfl (rfl:_=B (r71.2==0)) dn)<|dS (fun _ k_=>p_mB rfl dn)<|dB c92<|dF rfl rfl<|dF rfl rfl<|dS (fun _ k_=>p_pkF rfl (rfl:_=B false) dn) ?_
     refine dS (fun _ k_=>p_mB rfl dn)<|dF rfl rfl<|dF rfl rfl<|dF rfl rfl<|dS (fun _ k_=>p_pkF rfl (rfl:_=B false) dn)<|dS (fun _ k_=>p_mB rfl dn)<|dF rfl rfl<|dF rfl rfl<|dF rfl rfl<|dS (fun _ k_=>p_pkF rfl (rfl:_=B false) dn)<|dS (fun _ k_=>p_mB rfl dn)<|dF rfl rfl ?_
     refine dF rfl rfl<|dS (fun _ k_=>p_pkF rfl (rfl:_=B false) dn)<|dS (fun _ k_=>p_mB rfl dn)<|dF rfl rfl<|dF rfl rfl<|dS (fun _ k_=>p_pkF rfl (rfl:_=B false) dn)<|dS (fun _ k_=>p_mB rfl dn)<|dF rfl rfl<|dS (fun _ k_=>p_pkF rfl (rfl:_=B false) dn)<|dS (fun _ k_=>p_aB rfl dn) ?_
     intro w120 k121; have S122:=S88.call k121
     refine wp_nil ?_
     obtain rfl:=sJ H
     exact c_ret (rT Tryd.f6 S122.keep rfl rfl)
   ·replace H:=condF c91 H
    refine reg_q mixed 40 (by kernel_rfl) ?_
    refine dS (fun _ k_=>p_mI rfl dn)<|dS (fun _ k_=>p_cmp rfl rfl rfl dn)<|dS (fun _ k_=>p_mB rfl dn)<|dB c89<|dS (fun _ k_=>gT rfl rfl (p_mI rfl dn))<|dS (fun _ k_=>gT rfl rfl (p_cmp rfl rfl rfl dn))<|dS (fun _ k_=>p_pkT rfl (rfl:_=B (r45.2==0)) dn)<|dS (fun _ k_=>p_mB rfl dn)<|dB c90<|dS (fun _ k_=>gT rfl rfl (p_mI rfl dn))<|dS (fun _ k_=>gT rfl rfl (p_cmp rfl rfl rfl dn)) ?_
    refine dS (fun _ k_=>p_pkT rfl (rfl:_=B (r54.2==0)) dn)<|dS (fun _ k_=>p_mB rfl dn)<|dB c91<|dF rfl rfl<|dF rfl rfl<|dS (fun _ k_=>p_pkF rfl (rfl:_=B false) dn)<|dS (fun _ k_=>p_mB rfl dn)<|dF rfl rfl<|dF rfl rfl<|dS (fun _ k_=>p_pkF rfl (rfl:_=B false) dn)<|dS (fun _ k_=>p_mB rfl dn)<|dF rfl rfl ?_
    refine dF rfl rfl<|dF rfl rfl<|dS (fun _ k_=>p_pkF rfl (rfl:_=B false) dn)<|dS (fun _ k_=>p_mB rfl dn)<|dF rfl rfl<|dF rfl rfl<|dF rfl rfl<|dS (fun _ k_=>p_pkF rfl (rfl:_=B false) dn)<|dS (fun _ k_=>p_mB rfl dn)<|dF rfl rfl<|dF rfl rfl ?_
    refine dS (fun _ k_=>p_pkF rfl (rfl:_=B false) dn)<|dS (fun _ k_=>p_mB rfl dn)<|dF rfl rfl<|dF rfl rfl<|dS (fun _ k_=>p_pkF rfl (rfl:_=B false) dn)<|dS (fun _ k_=>p_mB rfl dn)<|dF rfl rfl<|dS (fun _ k_=>p_pkF rfl (rfl:_=B false) dn)<|dS (fun _ k_=>p_aB rfl dn) ?_
    intro w123 k124; have S125:=S88.call k124
    refine wp_nil ?_
    obtain rfl:=sJ H
    exact c_ret (rT Tryd.f6 S125.keep rfl rfl)
  ·replace H:=condF c90 H
   refine reg_q mixed 40 (by kernel_rfl) ?_
   refine dS (fun _ k_=>p_mI rfl dn)<|dS (fun _ k_=>p_cmp rfl rfl rfl dn)<|dS (fun _ k_=>p_mB rfl dn)<|dB c89<|dS (fun _ k_=>gT rfl rfl (p_mI rfl dn))<|dS (fun _ k_=>gT rfl rfl (p_cmp rfl rfl rfl dn))<|dS (fun _ k_=>p_pkT rfl (rfl:_=B (r45.2==0)) dn)<|dS (fun _ k_=>p_mB rfl dn)<|dB c90<|dF rfl rfl<|dF rfl rfl<|dS (fun _ k_=>p_pkF rfl (rfl:_=B false) dn) ?_
   refine dS (fun _ k_=>p_mB rfl dn)<|dF rfl rfl<|dF rfl rfl<|dS (fun _ k_=>p_pkF rfl (rfl:_=B false) dn)<|dS (fun _ k_=>p_mB rfl dn)<|dF rfl rfl<|dF rfl rfl<|dS (fun _ k_=>p_pkF rfl (rfl:_=B false) dn)<|dS (fun _ k_=>p_mB rfl dn)<|dF rfl rfl<|dF rfl rfl<|dF rfl rfl ?_
   refine dS (fun _ k_=>p_pkF rfl (rfl:_=B false) dn)<|dS (fun _ k_=>p_mB rfl dn)<|dF rfl rfl<|dF rfl rfl<|dF rfl rfl<|dS (fun _ k_=>p_pkF rfl (rfl:_=B false) dn)<|dS (fun _ k_=>p_mB rfl dn)<|dF rfl rfl<|dF rfl rfl<|dS (fun _ k_=>p_pkF rfl (rfl:_=B false) dn)<|dS (fun _ k_=>p_mB rfl dn) ?_
   refine dF rfl rfl<|dF rfl rfl<|dS (fun _ k_=>p_pkF rfl (rfl:_=B false) dn)<|dS (fun _ k_=>p_mB rfl dn)<|dF rfl rfl<|dS (fun _ k_=>p_pkF rfl (rfl:_=B false) dn)<|dS (fun _ k_=>p_aB rfl dn) ?_
   intro w126 k127; have S128:=S88.call k127
   refine wp_nil ?_
   obtain rfl:=sJ H
   exact c_ret (rT Tryd.f6 S128.keep rfl rfl)
 ·replace H:=condF c89 H
  refine reg_q mixed 40 (by kernel_rfl) ?_
  refine dS (fun _ k_=>p_mI rfl dn)<|dS (fun _ k_=>p_cmp rfl rfl rfl dn)<|dS (fun _ k_=>p_mB rfl dn)<|dB c89<|dF rfl rfl<|dF rfl rfl<|dS (fun _ k_=>p_pkF rfl (rfl:_=B false) dn)<|dS (fun _ k_=>p_mB rfl dn)<|dF rfl rfl<|dF rfl rfl<|dS (fun _ k_=>p_pkF rfl (rfl:_=B false) dn)<|dS (fun _ k_=>p_mB rfl dn) ?_
  refine dF rfl rfl<|dF rfl rfl<|dS (fun _ k_=>p_pkF rfl (rfl:_=B false) dn)<|dS (fun _ k_=>p_mB rfl dn)<|dF rfl rfl<|dF rfl rfl<|dS (fun _ k_=>p_pkF rfl (rfl:_=B false) dn)<|dS (fun _ k_=>p_mB rfl dn)<|dF rfl rfl<|dF rfl rfl<|dF rfl rfl ?_
  refine dS (fun _ k_=>p_pkF rfl (rfl:_=B false) dn)<|dS (fun _ k_=>p_mB rfl dn)<|dF rfl rfl<|dF rfl rfl<|dF rfl rfl<|dS (fun _ k_=>p_pkF rfl (rfl:_=B false) dn)<|dS (fun _ k_=>p_mB rfl dn)<|dF rfl rfl<|dF rfl rfl<|dS (fun _ k_=>p_pkF rfl (rfl:_=B false) dn)<|dS (fun _ k_=>p_mB rfl dn) ?_
  refine dF rfl rfl<|dF rfl rfl<|dS (fun _ k_=>p_pkF rfl (rfl:_=B false) dn)<|dS (fun _ k_=>p_mB rfl dn)<|dF rfl rfl<|dS (fun _ k_=>p_pkF rfl (rfl:_=B false) dn)<|dS (fun _ k_=>p_aB rfl dn) ?_
  intro w129 k130; have S131:=S88.call k130
  refine wp_nil ?_
  obtain rfl:=sJ H
  exact c_ret (rT Tryd.f6 S131.keep rfl rfl)
def B_Mod (a0:Int) (a1:Int):Option Int:=
 bif decide (a1≤0) then (some 0)
 else (need (a1 != 0)<|
 bif decide ((modI a0 a1) < 0) then (some (wr ((modI a0 a1)+a1)))
 else (some (modI a0 a1)))
set_option maxRecDepth 100000 in
theorem B_Mod_ok {a0:Int}{a1:Int}{w:World}{r:Int} (H:B_Mod a0 a1=some r):Calls Tryd.prog 9 #[I a0,I a1] w (RetV w (I r)):=by
 unfold B_Mod at H
 refine fn_of (n:=17) Tryd.func9 rfl rfl (lE rfl) ?_
 have S:=St.start w nF _ nM
 refine c_seq<|reg<|p_aI rfl<|wp_nil<|c_seq<|c_seq<|reg<|p_mI rfl<|p_cmp rfl rfl rfl<|wp_nil ?_
 refine c_cond rfl (fun c1=>?_) (fun c1=>?_)
 ·replace H:=condT c1 H
  refine c_seq<|reg<|p_aI rfl<|wp_nil ?_
  obtain rfl:=sJ H
  exact c_ret (rT Tryd.f9 S.keep rfl rfl)
 ·replace H:=condF c1 H
  refine c_skip<|c_seq<|reg<|p_mI rfl<|p_mI rfl ?_
  obtain ⟨h2,H⟩:=needS H
  refine p_rem h2 rfl rfl<|p_aI rfl<|wp_nil<|c_seq<|c_seq<|reg<|p_mI rfl<|p_cmp rfl rfl rfl<|wp_nil ?_
  refine c_cond rfl (fun c3=>?_) (fun c3=>?_)
  ·replace H:=condT c3 H
   refine c_seq<|reg<|p_mI rfl<|p_mI rfl<|p_add rfl rfl<|p_aI rfl<|wp_nil ?_
   obtain rfl:=sJ H
   exact c_ret (rT Tryd.f9 S.keep rfl rfl)
  ·replace H:=condF c3 H
   refine c_skip<|c_seq<|reg<|p_mI rfl<|p_aI rfl<|wp_nil ?_
   obtain rfl:=sJ H
   exact c_ret (rT Tryd.f9 S.keep rfl rfl)
def coal_Right (a0:CoalBook):Option (Bool×Int):=
 (coal_Check a0).bind fun r11=>
 bif (r11 != 0) then (some (false,r11))
 else ((coal_opened a0 ([]:List _)).bind fun r16=>
 (coal_book_isTrue (Coal_book.mk (CoalBook.mk r16.CoalBook.Heap r16.CoalBook.Eats r16.CoalBook.Extra a0.Days r16.CoalBook.Collier r16.CoalBook.Brings r16.CoalBook.Dips) r16.costs_)).bind fun r28=>
 some (r28,0))
set_option maxRecDepth 100000 in
theorem coal_Right_ok {a0:CoalBook}{A1:Option Addr}{c2:Nat}{A4:Option Addr}{c5:Nat}{w:World}{r:Bool×Int} (H:coal_Right a0=some r) (h3:(rd eCoalDay 3 A1 c2 a0.Days).ok w) (h6:(rd eCoalDip 3 A4 c5 a0.Dips).ok w) (hg7:(gW0).ok w):Calls Tryd.prog 10 #[AG ([I a0.Heap.Low,I a0.Heap.High]++(sgE eSpan a0.Eats 2++(sg a0.Extra 3++[SL A1 a0.Days.length c2,I a0.Collier.Low,I a0.Collier.High,I a0.Brings,SL A4 a0.Dips.length c5])))] w (RetV w (TU [B r.1,I r.2])):=by
 unfold coal_Right at H
 refine fn_of (n:=13) Tryd.func10 rfl rfl (lE rfl) ?_
 have S:=St.start w nF _ (cA h3 (cA h6 (cA hg7 nM)))
 refine c_seq<|reg<|p_boxA rfl S fun b8 w9 S10=>p_aB rfl<|p_aI rfl<|wp_nil<|c_seq<|c_seq<|reg<|p_ldA ty29 sz29 (S10.atX (i:=0) rfl) rfl rfl ?_
 obtain ⟨r11,h12,H⟩:=bindS H
 refine p_cv (coal_Check_ok h12 (S10.atP (i:=0) rfl) (S10.atP (i:=1) rfl)) fu30 rfl S10 fun w13 S14=>p_aI rfl<|wp_nil<|c_seq<|reg<|p_mI rfl<|p_cmp rfl rfl rfl<|wp_nil ?_
 refine c_cond rfl (fun c15=>?_) (fun c15=>?_)
 ·replace H:=condT c15 H
  refine c_seq<|reg<|p_mI rfl<|p_aB rfl<|p_aI rfl<|wp_nil ?_
  obtain rfl:=sJ H
  refine c_ret ?_; show bodyPostM (Fr none) 0 Tryd.prog Tryd.f10 _ .ret _ _
  refine ret_of (res2 rfl (rvT (rfl:_=B false)) (rvT (rfl:_=I r11))) ?_
  exact ⟨_,rfl,rfl,S14.keep⟩
 ·replace H:=condF c15 H
  refine c_skip<|c_seq<|reg<|p_ldA ty29 sz29 (S14.atX (i:=0) rfl) rfl rfl ?_
  obtain ⟨r16,h17,H⟩:=bindS H
  refine p_cal (coal_opened_ok h17 (S14.atP (i:=0) rfl) (S14.atP (i:=1) rfl) (rd_nil (Nat.zero_le _)) (S14.atP (i:=2) rfl)) fu35 rfl ?_
  rintro _ w18 ⟨A20,c21,m22,rfl,k19,⟨o23,n24⟩,⟨o25,n26⟩,_⟩
  have S27:=S14.callN k19 [rd eCoalDip 3 A20 c21 r16.CoalBook.Dips,mp ekG iE m22 r16.costs_] (cA ⟨o23,New.inL n24⟩ (cA ⟨o25,New.inL n26⟩ nM))
  obtain ⟨r28,h29,H⟩:=bindS H
  refine p_cv (coal_book_isTrue_ok h29 (S27.atP (i:=2) rfl) (S27.atP (i:=0) rfl) (mpo_some (S27.atP (i:=1) rfl))) fu36 rfl S27 fun w30 S31=>p_aB rfl<|p_aI rfl<|wp_nil ?_
  obtain rfl:=sJ H
  refine c_ret ?_; show bodyPostM (Fr none) 0 Tryd.prog Tryd.f10 _ .ret _ _
  refine ret_of (res2 rfl (rvT (rfl:_=B r28)) (rvT (rfl:_=I 0))) ?_
  exact ⟨_,rfl,rfl,S31.keep⟩
def coal_Wrong_1_l3 (q0:CoalBook) (a0:List Int) (rec_:(List Int)→Int→Option ((List Int)×Bool)) (a1:Int) (rec_z_2:Int→Option ((List Int)×Bool)) (z_2:Int):Option ((List Int)×Bool):=
 bif decide (z_2 < (q0.Dips.length:Int)) then (need (fitsL (a0.length+([z_2]:List Int).length) 8)<|
 (rec_ (a0++([z_2]:List Int)) a1).bind fun r64=>
 bif r64.2 then (some (r64.1,true))
 else (rec_z_2 (wr (z_2+1))))
 else (some (([]:List _),false))
def coal_Wrong_1_j4 (q0:CoalBook) (a0:List Int) (rec_:(List Int)→Int→Option ((List Int)×Bool)) (a1:Int) (z_1:Int):Option ((List Int)×Bool):=
 loopF (coal_Wrong_1_l3 q0 a0 rec_ a1) big z_1
def coal_Wrong_1_F (rec_:(List Int)→Int→Option ((List Int)×Bool)) (a0:List Int) (a1:Int) (q0:CoalBook):Option ((List Int)×Bool):=
 bif ((a0.length:Int)==a1) then ((coal_opened q0 a0).bind fun r16=>
 (coal_book_isTrue (Coal_book.mk (CoalBook.mk r16.CoalBook.Heap r16.CoalBook.Eats r16.CoalBook.Extra q0.Days r16.CoalBook.Collier r16.CoalBook.Brings r16.CoalBook.Dips) r16.costs_)).bind fun r28=>
 some (a0,r28))
 else (bif decide ((a0.length:Int) > 0) then ((getI a0 (wr ((a0.length:Int) - 1))).bind fun r33=>
 coal_Wrong_1_j4 q0 a0 rec_ a1 (wr (r33+1)))
 else (coal_Wrong_1_j4 q0 a0 rec_ a1 0))
def coal_Wrong_1:Nat→(List Int)→Int→CoalBook→Option ((List Int)×Bool)
 | 0,_,_,_=>none
 | n+1,a0,a1,q0=>coal_Wrong_1_F (fun x0_ x1_=>coal_Wrong_1 n x0_ x1_ q0) a0 a1 q0
set_option maxRecDepth 100000 in
theorem coal_Wrong_1_ok {n:Nat}:∀ {a0:List Int}{a1:Int}{q0:CoalBook}{A1:Option Addr}{c2:Nat}{b4:Nat}{A6:Option Addr}{c7:Nat}{A9:Option Addr}{c10:Nat}{b5:Nat}{w:World}{r:(List Int)×Bool} (H:coal_Wrong_1 n a0 a1 q0=some r) (h13:(bl b5 [vF (.func 41) #[] #[P b4 0,P b5 0]] 95).ok w) (h12:(bl b4 ([I q0.Heap.Low,I q0.Heap.High]++(sgE eSpan q0.Eats 2++(sg q0.Extra 3++[SL A6 q0.Days.length c7,I q0.Collier.Low,I q0.Collier.High,I q0.Brings,SL A9 q0.Dips.length c10]))) 29).ok w) (h3:(rd intE 1 A1 c2 a0).ok w) (h8:(rd eCoalDay 3 A6 c7 q0.Days).ok w) (h11:(rd eCoalDip 3 A9 c10 q0.Dips).ok w) (hg14:(gW0).ok w),Calls Tryd.prog 41 #[SL A1 a0.length c2,I a1,P b4 0,P b5 0] w fun en w_=>∃ u_,en=.returned u_∧∃ A_1:Option Addr,∃ c_2:Nat,u_=TU [SL A_1 r.1.length c_2,B r.2]∧Keep0 w w_∧((rd intE 1 A_1 c_2 r.1).ok w_∧Al w [rd intE 1 A1 c2 a0,rd eCoalDay 3 A6 c7 q0.Days,rd eCoalDip 3 A9 c10 q0.Dips] (rd intE 1 A_1 c_2 r.1))∧True:=by
 induction n with
 | zero=>intro a0 a1 q0 A1 c2 b4 A6 c7 A9 c10 b5 w r H h13 h12 h3 h8 h11 hg14; cases H
 | succ n ih=>
 intro a0 a1 q0 A1 c2 b4 A6 c7 A9 c10 b5 w r H h13 h12 h3 h8 h11 hg14
 unfold coal_Wrong_1 coal_Wrong_1_F at H
 refine fn_of (n:=54) Tryd.func41 rfl rfl (lE rfl) ?_
 have S:=St.start w nF _ (cA h13 (cA h12 (cA h3 (cA h8 (cA h11 (cA hg14 nM))))))
 refine c_seq<|reg<|p_aS rfl<|p_aB rfl<|wp_nil<|c_seq<|reg<|p_mS rfl<|p_len rfl sc42<|p_aI rfl<|wp_nil<|c_seq<|c_seq<|reg<|p_mI rfl<|p_mI rfl<|p_cmp rfl rfl rfl<|wp_nil ?_
 refine c_cond rfl (fun c15=>?_) (fun c15=>?_)
 ·replace H:=condT c15 H
  refine c_seq<|reg<|p_mS rfl<|p_ldA ty29 sz29 (S.atP (i:=1) rfl) rfl rfl<|p_mS rfl ?_
  obtain ⟨r16,h17,H⟩:=bindS H
  refine p_cal (coal_opened_ok h17 (S.atP (i:=3) rfl) (S.atP (i:=4) rfl) (S.atP (i:=2) rfl) (S.atP (i:=5) rfl)) fu35 rfl ?_
  rintro _ w18 ⟨A20,c21,m22,rfl,k19,⟨o23,n24⟩,⟨o25,n26⟩,_⟩
  have S27:=S.callN k19 [rd eCoalDip 3 A20 c21 r16.CoalBook.Dips,mp ekG iE m22 r16.costs_] (cA ⟨o23,New.inL n24⟩ (cA ⟨o25,New.inL n26⟩ nM))
  obtain ⟨r28,h29,H⟩:=bindS H
  refine p_cv (coal_book_isTrue_ok h29 (S27.atP (i:=5) rfl) (S27.atP (i:=0) rfl) (mpo_some (S27.atP (i:=1) rfl))) fu36 rfl S27 fun w30 S31=>p_aS rfl<|p_aB rfl<|wp_nil ?_
  obtain rfl:=sJ H
  refine c_ret ?_; show bodyPostM (Fr none) 0 Tryd.prog Tryd.f41 _ .ret _ _
  refine ret_of (res2 rfl (rvT (rfl:_=SL A1 a0.length c2)) (rvT (rfl:_=B r28))) ?_
  exact ⟨_,rfl,A1,c2,rfl,S31.keep,⟨(S31.atP (i:=4) rfl),Al.self (i:=0) rfl⟩,trivial⟩
 ·replace H:=condF c15 H
  refine c_skip<|c_seq<|reg<|p_aI rfl<|wp_nil ?_
  refine c_join (α:=Int) (β:=Unit) (fun z_1 y_1=>[(0,SL A1 a0.length c2),(1,I a1),(2,P b4 0),(3,P b5 0),(8,I (a0.length:Int)),(9,I z_1)]) (fun z_1 y_1 w_=>coal_Wrong_1_j4 q0 a0 (fun x0_ x1_=>coal_Wrong_1 n x0_ x1_ q0) a1 z_1=some r∧St w nF w_ [] [bl b5 [vF (.func 41) #[] #[P b4 0,P b5 0]] 95,bl b4 ([I q0.Heap.Low,I q0.Heap.High]++(sgE eSpan q0.Eats 2++(sg q0.Extra 3++[SL A6 q0.Days.length c7,I q0.Collier.Low,I q0.Collier.High,I q0.Brings,SL A9 q0.Dips.length c10]))) 29,rd intE 1 A1 c2 a0,rd eCoalDay 3 A6 c7 q0.Days,rd eCoalDip 3 A9 c10 q0.Dips,gW0]) ?_ ?_
  ·refine c_seq<|reg<|p_mI rfl<|p_cmp rfl rfl rfl<|wp_nil ?_
   refine c_cond rfl (fun c32=>?_) (fun c32=>?_)
   ·replace H:=condT c32 H
    refine reg<|p_mS rfl<|p_mI rfl<|p_sub rfl rfl ?_
    obtain ⟨r33,h34,H⟩:=bindS H
    refine p_ixE sc42 h34 (S.atP (i:=2) rfl).1 rfl rfl rfl<|p_ldE ty3 h34 (S.atP (i:=2) rfl).1 rfl rfl<|p_add rfl rfl<|p_aI rfl<|wp_nil ?_
    exact ⟨wr (r33+1),(),_,rfl,⟨rfl,rfl,rfl,rfl,rfl,rfl,trivial⟩,H,S⟩
   ·replace H:=condF c32 H
    refine c_skip ?_
    exact ⟨0,(),_,rfl,⟨rfl,rfl,rfl,rfl,rfl,rfl,trivial⟩,H,S⟩
  ·intro z_1 y_1 e32 w33 S34; obtain ⟨H,S34⟩:=S34
   unfold coal_Wrong_1_j4 at H
   refine c_seq<|c_seq<|reg<|p_mI rfl<|p_aI rfl<|wp_nil<|c_block ?_
   refine c_lop (α:=Int) (β:=Unit) (coal_Wrong_1_l3 q0 a0 (fun x0_ x1_=>coal_Wrong_1 n x0_ x1_ q0) a1) (fun z_2 y_2=>[(0,SL A1 a0.length c2),(1,I a1),(2,P b4 0),(3,P b5 0),(8,I (a0.length:Int)),(10,I z_2)]) (fun z_2 y_2 w_=>St w nF w_ [] [bl b5 [vF (.func 41) #[] #[P b4 0,P b5 0]] 95,bl b4 ([I q0.Heap.Low,I q0.Heap.High]++(sgE eSpan q0.Eats 2++(sg q0.Extra 3++[SL A6 q0.Days.length c7,I q0.Collier.Low,I q0.Collier.High,I q0.Brings,SL A9 q0.Dips.length c10]))) 29,rd intE 1 A1 c2 a0,rd eCoalDay 3 A6 c7 q0.Days,rd eCoalDip 3 A9 c10 q0.Dips,gW0]) z_1 () H ⟨rfl,rfl,rfl,rfl,rfl,rfl,trivial⟩ S34 ?_
   intro m35 z_2 y_2 e36 w37 H S38
   unfold coal_Wrong_1_l3 at H
   refine c_seq<|c_seq<|reg<|p_mI rfl<|p_fld fl29_6 rfl<|p_ld ty27 (S38.atP (i:=1) rfl) rfl rfl<|p_len rfl sc27<|p_cmp rfl rfl rfl<|wp_nil ?_
   refine c_cond rfl (fun c39=>?_) (fun c39=>?_)
   ·replace H:=condT c39 H
    refine c_skip<|c_seq<|c_block<|c_seq ?_
    obtain ⟨h57,H⟩:=needS H
    obtain ⟨r64,h65,H⟩:=bindS H
    refine reg_any mixed 15 (by kernel_rfl) [rv (vF (.func 41) #[] #[P b4 0,P b5 0]),rv (SL A1 a0.length c2),rv (I (a0.length:Int)),rv (I (a0.length:Int)),rv (SL A1 a0.length a0.length),rv (I z_2),rx (α:=(Option Addr)×Nat) (fun ⟨A44,c45⟩=>SL A44 ([z_2]:List Int).length c45) (fun ⟨A44,c45⟩ lo hi=>BtwL lo hi [] (gr intE 1 3 A44 c45 ([z_2]:List Int))∧True) (fun ⟨A44,c45⟩=>[gr intE 1 3 A44 c45 ([z_2]:List Int)]),rx (α:=(Option Addr)×Nat) (fun ⟨A55,c56⟩=>SL A55 (a0++([z_2]:List Int)).length c56) (fun ⟨A55,c56⟩ lo hi=>BtwL lo hi [] (gr intE 1 3 A55 c56 (a0++([z_2]:List Int)))∧True) (fun ⟨A55,c56⟩=>[gr intE 1 3 A55 c56 (a0++([z_2]:List Int))]),rv (I a1),rxd 47 (α:=(Option Addr)×Nat) (fun ⟨A68,c69⟩=>TU [SL A68 r64.1.length c69,B r64.2]) (fun ⟨A68,c69⟩ lo hi ev=>BtwV lo hi [rd eCoalDay 3 A6 c7 q0.Days,rd eCoalDip 3 A9 c10 q0.Dips] ev (rd intE 1 A68 c69 r64.1)∧True) (fun ⟨A68,c69⟩=>[rd intE 1 A68 c69 r64.1]),dv 49 some,dv 39 (exG 0),dv 39 (exG 1),dv 50 some,rv (B r64.2)] [[],[],[],[],[],[],[],[],[],[47],[49],[39],[39],[50],[]] rfl (by kernel_rfl) [[],[],[],[],[1,2,3],[],[5],[1,2,3,4,5,6],[],[0,1,2,3,4,5,6,7,8],[0,1,2,3,4,5,6,7,8,9],[0,1,2,3,4,5,6,7,8,9,10],[0,1,2,3,4,5,6,7,8,9,10],[0,1,2,3,4,5,6,7,8,9,10,11],[0,1,2,3,4,5,6,7,8,9,10,11,12,13]] (by kernel_rfl) ⟨?_,?_,?_,?_,?_,?_,?_,?_,?_,?_,?_,?_,?_,?_,?_,trivial⟩ ?_
    ·intro e_ w_ k_ hf_ hR_
     have S_:St w_ nF w_ [] [bl b5 [vF (.func 41) #[] #[P b4 0,P b5 0]] 95,bl b4 ([I q0.Heap.Low,I q0.Heap.High]++(sgE eSpan q0.Eats 2++(sg q0.Extra 3++[SL A6 q0.Days.length c7,I q0.Collier.Low,I q0.Collier.High,I q0.Brings,SL A9 q0.Dips.length c10]))) 29,rd intE 1 A1 c2 a0,rd eCoalDay 3 A6 c7 q0.Days,rd eCoalDip 3 A9 c10 q0.Dips,gW0]:=S38.asP k_
     refine hopE [(3,P b5 0)] ⟨((hf_ 3 rfl).trans (rfl:_=P b5 0)),trivial⟩ ?_
     exact p_ld ty95 (S_.atP (i:=0) rfl) rfl rfl<|wp_nil ⟨_,rfl,S_.keep,rfl⟩
    ·intro e_ w_ k_ hf_ hR_
     have S_:St w_ nF w_ [] [bl b5 [vF (.func 41) #[] #[P b4 0,P b5 0]] 95,bl b4 ([I q0.Heap.Low,I q0.Heap.High]++(sgE eSpan q0.Eats 2++(sg q0.Extra 3++[SL A6 q0.Days.length c7,I q0.Collier.Low,I q0.Collier.High,I q0.Brings,SL A9 q0.Dips.length c10]))) 29,rd intE 1 A1 c2 a0,rd eCoalDay 3 A6 c7 q0.Days,rd eCoalDip 3 A9 c10 q0.Dips,gW0]:=S38.asP k_
     refine hopE [(0,SL A1 a0.length c2)] ⟨((hf_ 0 rfl).trans (rfl:_=SL A1 a0.length c2)),trivial⟩ ?_
     refine p_mS rfl<|wp_nil ?_
     exact ⟨_,rfl,S_.keep,rfl⟩
    ·intro e_ w_ k_ hf_ hR_
     have S_:St w_ nF w_ [] [bl b5 [vF (.func 41) #[] #[P b4 0,P b5 0]] 95,bl b4 ([I q0.Heap.Low,I q0.Heap.High]++(sgE eSpan q0.Eats 2++(sg q0.Extra 3++[SL A6 q0.Days.length c7,I q0.Collier.Low,I q0.Collier.High,I q0.Brings,SL A9 q0.Dips.length c10]))) 29,rd intE 1 A1 c2 a0,rd eCoalDay 3 A6 c7 q0.Days,rd eCoalDip 3 A9 c10 q0.Dips,gW0]:=S38.asP k_
     refine hopE [(8,I (a0.length:Int))] ⟨((hf_ 8 rfl).trans (rfl:_=I (a0.length:Int))),trivial⟩ ?_
     exact p_mI rfl<|wp_nil ⟨_,rfl,S_.keep,rfl⟩
    ·intro e_ w_ k_ hf_ hR_
     have S_:St w_ nF w_ [] [bl b5 [vF (.func 41) #[] #[P b4 0,P b5 0]] 95,bl b4 ([I q0.Heap.Low,I q0.Heap.High]++(sgE eSpan q0.Eats 2++(sg q0.Extra 3++[SL A6 q0.Days.length c7,I q0.Collier.Low,I q0.Collier.High,I q0.Brings,SL A9 q0.Dips.length c10]))) 29,rd intE 1 A1 c2 a0,rd eCoalDay 3 A6 c7 q0.Days,rd eCoalDip 3 A9 c10 q0.Dips,gW0]:=S38.asP k_
     refine hopE [(8,I (a0.length:Int))] ⟨((hf_ 8 rfl).trans (rfl:_=I (a0.length:Int))),trivial⟩ ?_
     exact p_mI rfl<|wp_nil ⟨_,rfl,S_.keep,rfl⟩
    ·intro e_ w_ k_ hf_ hR_
     have S_:St w_ nF w_ [] [bl b5 [vF (.func 41) #[] #[P b4 0,P b5 0]] 95,bl b4 ([I q0.Heap.Low,I q0.Heap.High]++(sgE eSpan q0.Eats 2++(sg q0.Extra 3++[SL A6 q0.Days.length c7,I q0.Collier.Low,I q0.Collier.High,I q0.Brings,SL A9 q0.Dips.length c10]))) 29,rd intE 1 A1 c2 a0,rd eCoalDay 3 A6 c7 q0.Days,rd eCoalDip 3 A9 c10 q0.Dips,gW0]:=S38.asP k_
     refine hopE [(41,SL A1 a0.length c2),(42,I (a0.length:Int)),(43,I (a0.length:Int))] ⟨rQ (hR_ 1 41 rfl (lE rfl) rfl),rQ (hR_ 2 42 rfl (lE rfl) rfl),rQ (hR_ 3 43 rfl (lE rfl) rfl),trivial⟩ ?_
     refine p_cut3 sc42 (S_.atP (i:=2) rfl) rfl rfl rfl<|wp_nil ?_
     exact ⟨_,rfl,S_.keep,rfl⟩
    ·intro e_ w_ k_ hf_ hR_
     have S_:St w_ nF w_ [] [bl b5 [vF (.func 41) #[] #[P b4 0,P b5 0]] 95,bl b4 ([I q0.Heap.Low,I q0.Heap.High]++(sgE eSpan q0.Eats 2++(sg q0.Extra 3++[SL A6 q0.Days.length c7,I q0.Collier.Low,I q0.Collier.High,I q0.Brings,SL A9 q0.Dips.length c10]))) 29,rd intE 1 A1 c2 a0,rd eCoalDay 3 A6 c7 q0.Days,rd eCoalDip 3 A9 c10 q0.Dips,gW0]:=S38.asP k_
     refine hopE [(10,I z_2)] ⟨((hf_ 10 rfl).trans (rfl:_=I z_2)),trivial⟩ ?_
     exact p_mI rfl<|wp_nil ⟨_,rfl,S_.keep,rfl⟩
    ·intro e_ w_ k_ hf_ hR_
     have S_:St w_ nF w_ [] [bl b5 [vF (.func 41) #[] #[P b4 0,P b5 0]] 95,bl b4 ([I q0.Heap.Low,I q0.Heap.High]++(sgE eSpan q0.Eats 2++(sg q0.Extra 3++[SL A6 q0.Days.length c7,I q0.Collier.Low,I q0.Collier.High,I q0.Brings,SL A9 q0.Dips.length c10]))) 29,rd intE 1 A1 c2 a0,rd eCoalDay 3 A6 c7 q0.Days,rd eCoalDip 3 A9 c10 q0.Dips,gW0]:=S38.asP k_
     refine hopE [(45,I z_2)] ⟨rQ (hR_ 5 45 rfl (lE rfl) rfl),trivial⟩ ?_
     refine p_bsl (enc:=intE) (l:=([z_2]:List Int)) I (fun _=>rfl) sc42 in3 intE_len rfl (by decide) (by decide) zr3_1 S_ rfl fun A44 c45 w46 S47=>wp_nil ?_
     exact ⟨_,rfl,S47.keep,⟨(A44,c45),rfl,⟨bL (New.al (S47.newX (i:=0) rfl)) rfl (S47.atX (i:=0) rfl) rfl,trivial⟩,(cA (S47.atX (i:=0) rfl) nM)⟩⟩
    ·intro e_ w_ k_ hf_ hR_
     have S_:St w_ nF w_ [] [bl b5 [vF (.func 41) #[] #[P b4 0,P b5 0]] 95,bl b4 ([I q0.Heap.Low,I q0.Heap.High]++(sgE eSpan q0.Eats 2++(sg q0.Extra 3++[SL A6 q0.Days.length c7,I q0.Collier.Low,I q0.Collier.High,I q0.Brings,SL A9 q0.Dips.length c10]))) 29,rd intE 1 A1 c2 a0,rd eCoalDay 3 A6 c7 q0.Days,rd eCoalDip 3 A9 c10 q0.Dips,gW0]:=S38.asP k_
     obtain ⟨_,_,_,_,q49⟩:=hR_ 4 44 rfl (lE rfl) rfl
     obtain ⟨_,_,_,_,⟨A44,c45⟩,q50,p51,a52⟩:=hR_ 6 46 rfl (lE rfl) rfl
     replace q50:e_ 46=SL A44 ([z_2]:List Int).length c45:=q50
     have S_:=St.addL' S_ (a52 _ (.head _)) (fun _ _ _ h_=>(nE h_))
     refine hopE [(44,SL A1 a0.length a0.length),(46,SL A44 ([z_2]:List Int).length c45)] ⟨q49,q50,trivial⟩ ?_
     refine p_appN (enc:=intE) sc42 in3 rfl intE_len (by decide) S_ (rd_full (S_.atP (i:=3) rfl)).1 rfl (gr_sl intE_len (S_.atP (i:=0) rfl)) h57 (by simp) rfl rfl fun A55 c56 w53 S54=>wp_nil ?_
     exact ⟨_,rfl,S54.keep,⟨(A55,c56),rfl,⟨bL (New.al (S54.newX (i:=0) rfl)) rfl (S54.atX (i:=0) rfl) rfl,trivial⟩,(cA (S54.atX (i:=0) rfl) nM)⟩⟩
    ·intro e_ w_ k_ hf_ hR_
     have S_:St w_ nF w_ [] [bl b5 [vF (.func 41) #[] #[P b4 0,P b5 0]] 95,bl b4 ([I q0.Heap.Low,I q0.Heap.High]++(sgE eSpan q0.Eats 2++(sg q0.Extra 3++[SL A6 q0.Days.length c7,I q0.Collier.Low,I q0.Collier.High,I q0.Brings,SL A9 q0.Dips.length c10]))) 29,rd intE 1 A1 c2 a0,rd eCoalDay 3 A6 c7 q0.Days,rd eCoalDip 3 A9 c10 q0.Dips,gW0]:=S38.asP k_
     refine hopE [(1,I a1)] ⟨((hf_ 1 rfl).trans (rfl:_=I a1)),trivial⟩ ?_
     exact p_mI rfl<|wp_nil ⟨_,rfl,S_.keep,rfl⟩
    ·intro e_ w_ k_ hf_ hR_
     have S_:St w_ nF w_ [] [bl b5 [vF (.func 41) #[] #[P b4 0,P b5 0]] 95,bl b4 ([I q0.Heap.Low,I q0.Heap.High]++(sgE eSpan q0.Eats 2++(sg q0.Extra 3++[SL A6 q0.Days.length c7,I q0.Collier.Low,I q0.Collier.High,I q0.Brings,SL A9 q0.Dips.length c10]))) 29,rd intE 1 A1 c2 a0,rd eCoalDay 3 A6 c7 q0.Days,rd eCoalDip 3 A9 c10 q0.Dips,gW0]:=S38.asP k_
     obtain ⟨_,_,_,_,q59⟩:=hR_ 0 40 rfl (lE rfl) rfl
     obtain ⟨_,_,_,_,⟨A55,c56⟩,q60,p61,a62⟩:=hR_ 7 47 rfl (lE rfl) rfl
     replace q60:e_ 47=SL A55 (a0++([z_2]:List Int)).length c56:=q60
     have S_:=St.addL' S_ (a62 _ (.head _)) (fun _ _ _ h_=>(nE h_))
     refine hopE [(40,vF (.func 41) #[] #[P b4 0,P b5 0]),(47,SL A55 (a0++([z_2]:List Int)).length c56),(48,I a1)] ⟨q59,q60,rQ (hR_ 8 48 rfl (lE rfl) rfl),trivial⟩ ?_
     refine p_cal (ih h65 (S_.atP (i:=1) rfl) (S_.atP (i:=2) rfl) (gr_rd intE_len (S_.atP (i:=0) rfl)) (S_.atP (i:=4) rfl) (S_.atP (i:=5) rfl) (S_.atP (i:=6) rfl)) fu41 rfl ?_
     rintro _ w66 ⟨A68,c69,rfl,k67,⟨o70,n71⟩,_⟩
     have S72:=S_.callN k67 [rd intE 1 A68 c69 r64.1] (cA ⟨o70,Al.inL n71 ((cA (fp_gr (i:=0) rfl) (cA (fp_mem (i:=4) rfl) (cA (fp_mem (i:=5) rfl) nM))))⟩ nM)
     exact wp_nil ⟨_,rfl,S72.keep,⟨(A68,c69),rfl,⟨BtwV.of n71 rfl (S72.atP (i:=0) rfl) rfl (cA (fun b_ h_=>.inl (vblk_sl h_)) (cA (fun b_ h_=>.inr ⟨_,mE (i:=0) rfl,h_⟩) (cA (fun b_ h_=>.inr ⟨_,mE (i:=1) rfl,h_⟩) nM))),trivial⟩,(cA (S72.atP (i:=0) rfl) nM)⟩⟩
    ·intro e_ w_ k_ hf_ hR_
     have S_:St w_ nF w_ [] [bl b5 [vF (.func 41) #[] #[P b4 0,P b5 0]] 95,bl b4 ([I q0.Heap.Low,I q0.Heap.High]++(sgE eSpan q0.Eats 2++(sg q0.Extra 3++[SL A6 q0.Days.length c7,I q0.Collier.Low,I q0.Collier.High,I q0.Brings,SL A9 q0.Dips.length c10]))) 29,rd intE 1 A1 c2 a0,rd eCoalDay 3 A6 c7 q0.Days,rd eCoalDip 3 A9 c10 q0.Dips,gW0]:=S38.asP k_
     obtain ⟨_,_,_,_,⟨A68,c69⟩,q73,p74,a75⟩:=hR_ 9 49 rfl (lE rfl) rfl
     replace q73:e_ 49=TU [SL A68 r64.1.length c69,B r64.2]:=q73
     have S_:=St.addL' S_ (a75 _ (.head _)) (fun _ _ _ h_=>(nE h_))
     refine hopE [(49,TU [SL A68 r64.1.length c69,B r64.2])] ⟨q73,trivial⟩ ?_
     refine p_mT rfl<|wp_nil ?_
     exact ⟨_,rfl,S_.keep,rfl⟩
    ·intro e_ w_ k_ hf_ hR_
     have S_:St w_ nF w_ [] [bl b5 [vF (.func 41) #[] #[P b4 0,P b5 0]] 95,bl b4 ([I q0.Heap.Low,I q0.Heap.High]++(sgE eSpan q0.Eats 2++(sg q0.Extra 3++[SL A6 q0.Days.length c7,I q0.Collier.Low,I q0.Collier.High,I q0.Brings,SL A9 q0.Dips.length c10]))) 29,rd intE 1 A1 c2 a0,rd eCoalDay 3 A6 c7 q0.Days,rd eCoalDip 3 A9 c10 q0.Dips,gW0]:=S38.asP k_
     obtain ⟨_,_,_,_,⟨A68,c69⟩,q77,p78,a79⟩:=hR_ 9 49 rfl (lE rfl) rfl
     replace q77:e_ 49=TU [SL A68 r64.1.length c69,B r64.2]:=q77
     have S_:=St.addL' S_ (a79 _ (.head _)) (fun _ _ _ h_=>(nE h_))
     obtain ⟨_,_,_,_,q76⟩:=hR_ 10 39 rfl (lE rfl) rfl
     replace q76:e_ 39=TU [SL A68 r64.1.length c69,B r64.2]:=(sJ ((congrArg some q77).symm.trans q76)).symm
     refine hopE [(39,TU [SL A68 r64.1.length c69,B r64.2])] ⟨q76,trivial⟩ ?_
     refine p_ext rfl rfl<|wp_nil ?_
     exact ⟨_,rfl,S_.keep,rfl⟩
    ·intro e_ w_ k_ hf_ hR_
     have S_:St w_ nF w_ [] [bl b5 [vF (.func 41) #[] #[P b4 0,P b5 0]] 95,bl b4 ([I q0.Heap.Low,I q0.Heap.High]++(sgE eSpan q0.Eats 2++(sg q0.Extra 3++[SL A6 q0.Days.length c7,I q0.Collier.Low,I q0.Collier.High,I q0.Brings,SL A9 q0.Dips.length c10]))) 29,rd intE 1 A1 c2 a0,rd eCoalDay 3 A6 c7 q0.Days,rd eCoalDip 3 A9 c10 q0.Dips,gW0]:=S38.asP k_
     obtain ⟨_,_,_,_,⟨A68,c69⟩,q81,p82,a83⟩:=hR_ 9 49 rfl (lE rfl) rfl
     replace q81:e_ 49=TU [SL A68 r64.1.length c69,B r64.2]:=q81
     have S_:=St.addL' S_ (a83 _ (.head _)) (fun _ _ _ h_=>(nE h_))
     obtain ⟨_,_,_,_,q80⟩:=hR_ 10 39 rfl (lE rfl) rfl
     replace q80:e_ 39=TU [SL A68 r64.1.length c69,B r64.2]:=(sJ ((congrArg some q81).symm.trans q80)).symm
     refine hopE [(39,TU [SL A68 r64.1.length c69,B r64.2])] ⟨q80,trivial⟩ ?_
     refine p_ext rfl rfl<|wp_nil ?_
     exact ⟨_,rfl,S_.keep,rfl⟩
    ·intro e_ w_ k_ hf_ hR_
     have S_:St w_ nF w_ [] [bl b5 [vF (.func 41) #[] #[P b4 0,P b5 0]] 95,bl b4 ([I q0.Heap.Low,I q0.Heap.High]++(sgE eSpan q0.Eats 2++(sg q0.Extra 3++[SL A6 q0.Days.length c7,I q0.Collier.Low,I q0.Collier.High,I q0.Brings,SL A9 q0.Dips.length c10]))) 29,rd intE 1 A1 c2 a0,rd eCoalDay 3 A6 c7 q0.Days,rd eCoalDip 3 A9 c10 q0.Dips,gW0]:=S38.asP k_
     obtain ⟨_,_,_,_,⟨A68,c69⟩,q86,p87,a88⟩:=hR_ 9 49 rfl (lE rfl) rfl
     replace q86:e_ 49=TU [SL A68 r64.1.length c69,B r64.2]:=q86
     have S_:=St.addL' S_ (a88 _ (.head _)) (fun _ _ _ h_=>(nE h_))
     obtain ⟨_,_,_,_,q85⟩:=hR_ 10 39 rfl (lE rfl) rfl
     replace q85:e_ 39=TU [SL A68 r64.1.length c69,B r64.2]:=(sJ ((congrArg some q86).symm.trans q85)).symm
     obtain ⟨_,_,_,_,q84⟩:=hR_ 11 50 rfl (lE rfl) rfl
     replace q84:e_ 50=SL A68 r64.1.length c69:=(sJ ((congrArg (exG 0) q85).symm.trans q84)).symm
     refine hopE [(50,SL A68 r64.1.length c69)] ⟨q84,trivial⟩ ?_
     refine p_aS rfl<|wp_nil ?_
     exact ⟨_,rfl,S_.keep,rfl⟩
    ·intro e_ w_ k_ hf_ hR_
     have S_:St w_ nF w_ [] [bl b5 [vF (.func 41) #[] #[P b4 0,P b5 0]] 95,bl b4 ([I q0.Heap.Low,I q0.Heap.High]++(sgE eSpan q0.Eats 2++(sg q0.Extra 3++[SL A6 q0.Days.length c7,I q0.Collier.Low,I q0.Collier.High,I q0.Brings,SL A9 q0.Dips.length c10]))) 29,rd intE 1 A1 c2 a0,rd eCoalDay 3 A6 c7 q0.Days,rd eCoalDip 3 A9 c10 q0.Dips,gW0]:=S38.asP k_
     obtain ⟨_,_,_,_,⟨A68,c69⟩,q91,p92,a93⟩:=hR_ 9 49 rfl (lE rfl) rfl
     replace q91:e_ 49=TU [SL A68 r64.1.length c69,B r64.2]:=q91
     have S_:=St.addL' S_ (a93 _ (.head _)) (fun _ _ _ h_=>(nE h_))
     obtain ⟨_,_,_,_,q90⟩:=hR_ 10 39 rfl (lE rfl) rfl
     replace q90:e_ 39=TU [SL A68 r64.1.length c69,B r64.2]:=(sJ ((congrArg some q91).symm.trans q90)).symm
     obtain ⟨_,_,_,_,q89⟩:=hR_ 12 51 rfl (lE rfl) rfl
     replace q89:e_ 51=B r64.2:=(sJ ((congrArg (exG 1) q90).symm.trans q89)).symm
     refine hopE [(51,B r64.2)] ⟨q89,trivial⟩ ?_
     refine p_aB rfl<|wp_nil ?_
     exact ⟨_,rfl,S_.keep,rfl⟩
    intro e94 w95 lo96 hi97 k98 hf99 hR100 hd101
    have S102:=S38.call k98
    have q103:e94 40=vF (.func 41) #[] #[P b4 0,P b5 0]:=(hR100 0 40 (lE rfl) rfl).2.2.2
    have q104:e94 41=SL A1 a0.length c2:=(hR100 1 41 (lE rfl) rfl).2.2.2
    have q105:e94 42=I (a0.length:Int):=(hR100 2 42 (lE rfl) rfl).2.2.2
    have q106:e94 43=I (a0.length:Int):=(hR100 3 43 (lE rfl) rfl).2.2.2
    have q107:e94 44=SL A1 a0.length a0.length:=(hR100 4 44 (lE rfl) rfl).2.2.2
    have q108:e94 45=I z_2:=(hR100 5 45 (lE rfl) rfl).2.2.2
    obtain ⟨h110,h111,h112,⟨A44,c45⟩,q109,h113,h114⟩:=hR100 6 46 (lE rfl) rfl
    replace q109:e94 46=SL A44 ([z_2]:List Int).length c45:=q109
    obtain ⟨p115,_⟩:=h113
    obtain ⟨h118,h119,h120,⟨A55,c56⟩,q117,h121,h122⟩:=hR100 7 47 (lE rfl) rfl
    replace q117:e94 47=SL A55 (a0++([z_2]:List Int)).length c56:=q117
    obtain ⟨p123,_⟩:=h121
    have q125:e94 48=I a1:=(hR100 8 48 (lE rfl) rfl).2.2.2
    obtain ⟨h127,h128,h129,⟨A68,c69⟩,q126,h130,h131⟩:=hR100 9 49 (lE rfl) rfl
    replace q126:e94 49=TU [SL A68 r64.1.length c69,B r64.2]:=q126
    obtain ⟨p132,_⟩:=h130
    have q134:Al w37 [rd eCoalDay 3 A6 c7 q0.Days,rd eCoalDip 3 A9 c10 q0.Dips] (rd intE 1 A68 c69 r64.1):=BtwV.al p132 h127 (fun b_ h_=>by rw [q117] at h_; exact Nat.le_trans h118 ((p123 b_ (vblk_gr h_)).elim (fun q_=>q_.1) (fun ⟨_,hq_,_⟩=>(List.not_mem_nil hq_).elim)))
    have S133:=St.addR S102 (h131 _ (.head _)) (oQ q134 S38 (mG [3,4] rfl))
    have q135:e94 39=TU [SL A68 r64.1.length c69,B r64.2]:=(sJ ((congrArg some q126).symm.trans (hR100 10 39 (lE rfl) rfl).2.2.2)).symm
    have q136:e94 50=SL A68 r64.1.length c69:=(sJ ((congrArg (exG 0) q135).symm.trans (hR100 11 50 (lE rfl) rfl).2.2.2)).symm
    have q137:e94 51=B r64.2:=(sJ ((congrArg (exG 1) q135).symm.trans (hR100 12 51 (lE rfl) rfl).2.2.2)).symm
    have q138:e94 11=SL A68 r64.1.length c69:=(sJ ((congrArg some q136).symm.trans (hR100 13 11 (lE rfl) rfl).2.2.2)).symm
    have q139:e94 12=B r64.2:=(hR100 14 12 (lE rfl) rfl).2.2.2
    refine tailE [(0,SL A1 a0.length c2),(1,I a1),(2,P b4 0),(3,P b5 0),(8,I (a0.length:Int)),(10,I z_2),(11,SL A68 r64.1.length c69),(12,B r64.2)] ⟨((hf99 0 rfl).trans (rfl:_=SL A1 a0.length c2)),((hf99 1 rfl).trans (rfl:_=I a1)),((hf99 2 rfl).trans (rfl:_=P b4 0)),((hf99 3 rfl).trans (rfl:_=P b5 0)),((hf99 8 rfl).trans (rfl:_=I (a0.length:Int))),((hf99 10 rfl).trans (rfl:_=I z_2)),q138,q139,trivial⟩ ?_
    intro g140
    refine wp_nil<|c_seq<|reg<|p_mB rfl<|wp_nil ?_
    refine c_cond rfl (fun c141=>?_) (fun c141=>?_)
    ·replace H:=condT c141 H
     refine c_seq<|reg<|p_mS rfl<|p_aS rfl<|p_aB rfl<|wp_nil ?_
     obtain rfl:=sJ H
     refine c_ret ?_; show bodyPostM (Fr none) 0 Tryd.prog Tryd.f41 _ .ret _ _
     refine ret_of (res2 rfl (rvT (rfl:_=SL A68 r64.1.length c69)) (rvT (rfl:_=B true))) ?_
     exact ⟨_,rfl,A68,c69,rfl,S133.keep,⟨(S133.atP (i:=0) rfl),(Al.up q134 S38.keep.size (cA (Al.self (i:=1) rfl) (cA (Al.self (i:=2) rfl) nM)))⟩,trivial⟩
    ·replace H:=condF c141 H
     refine c_skip<|reg<|p_mI rfl<|p_add rfl rfl<|p_aI rfl<|wp_nil ?_
     have S142:=S133.pk [] (by decide) [1,2,3,4,5,6] rfl rfl
     exact ⟨wr (z_2+1),(),_,rfl,⟨rfl,rfl,rfl,rfl,rfl,rfl,trivial⟩,H,S142⟩
   ·replace H:=condF c39 H
    refine c_exit<|c_seq<|reg<|p_aS rfl<|p_aB rfl<|wp_nil ?_
    obtain rfl:=sJ H
    refine c_ret ?_; show bodyPostM (Fr none) 0 Tryd.prog Tryd.f41 _ .ret _ _
    refine ret_of (res2 rfl (rvT (rfl:_=SL none 0 0)) (rvT (rfl:_=B false))) ?_
    exact ⟨_,rfl,none,0,rfl,S38.keep,⟨rd_nil (Nat.zero_le _),Al.nil⟩,trivial⟩
def coal_Wrong_l2 (a0:CoalBook) (rec_z_1:Int→Option ((List Int)×Int)) (z_1:Int):Option ((List Int)×Int):=
 bif decide (z_1 < (wr ((a0.Dips.length:Int)+1))) then ((coal_Wrong_1 big ([]:List _) z_1 a0).bind fun r26=>
 bif r26.2 then (some (r26.1,0))
 else (rec_z_1 (wr (z_1+1))))
 else (some (([]:List _),0))
def coal_Wrong (a0:CoalBook):Option ((List Int)×Int):=
 (coal_Check a0).bind fun r11=>
 bif (r11 != 0) then (some (([]:List _),r11))
 else (loopF (coal_Wrong_l2 a0) big 0)
set_option maxRecDepth 100000 in
theorem coal_Wrong_ok {a0:CoalBook}{A1:Option Addr}{c2:Nat}{A4:Option Addr}{c5:Nat}{w:World}{r:(List Int)×Int} (H:coal_Wrong a0=some r) (h3:(rd eCoalDay 3 A1 c2 a0.Days).ok w) (h6:(rd eCoalDip 3 A4 c5 a0.Dips).ok w) (hg7:(gW0).ok w):Calls Tryd.prog 12 #[AG ([I a0.Heap.Low,I a0.Heap.High]++(sgE eSpan a0.Eats 2++(sg a0.Extra 3++[SL A1 a0.Days.length c2,I a0.Collier.Low,I a0.Collier.High,I a0.Brings,SL A4 a0.Dips.length c5])))] w fun en w_=>∃ u_,en=.returned u_∧∃ A_1:Option Addr,∃ c_2:Nat,u_=TU [SL A_1 r.1.length c_2,I r.2]∧Keep0 w w_∧((rd intE 1 A_1 c_2 r.1).ok w_∧Al w [rd eCoalDay 3 A1 c2 a0.Days,rd eCoalDip 3 A4 c5 a0.Dips] (rd intE 1 A_1 c_2 r.1))∧True:=by
 unfold coal_Wrong at H
 refine fn_of (n:=36) Tryd.func12 rfl rfl (lE rfl) ?_
 have S:=St.start w nF _ (cA h3 (cA h6 (cA hg7 nM)))
 refine c_seq<|reg<|p_boxA rfl S fun b8 w9 S10=>p_aS rfl<|p_aI rfl<|wp_nil<|c_seq<|c_seq<|reg<|p_ldA ty29 sz29 (S10.atX (i:=0) rfl) rfl rfl ?_
 obtain ⟨r11,h12,H⟩:=bindS H
 refine p_cv (coal_Check_ok h12 (S10.atP (i:=0) rfl) (S10.atP (i:=1) rfl)) fu30 rfl S10 fun w13 S14=>p_aI rfl<|wp_nil<|c_seq<|reg<|p_mI rfl<|p_cmp rfl rfl rfl<|wp_nil ?_
 refine c_cond rfl (fun c15=>?_) (fun c15=>?_)
 ·replace H:=condT c15 H
  refine c_seq<|reg<|p_mI rfl<|p_aS rfl<|p_aI rfl<|wp_nil ?_
  obtain rfl:=sJ H
  refine c_ret ?_; show bodyPostM (Fr none) 0 Tryd.prog Tryd.f12 _ .ret _ _
  refine ret_of (res2 rfl (rvT (rfl:_=SL none 0 0)) (rvT (rfl:_=I r11))) ?_
  exact ⟨_,rfl,none,0,rfl,S14.keep,⟨rd_nil (Nat.zero_le _),Al.nil⟩,trivial⟩
 ·replace H:=condF c15 H
  refine c_skip<|c_seq<|reg<|p_all in95 rfl S14 fun b16 w17 S18=>wp_nil<|c_seq<|reg ?_
  refine o_fun (rfl:_=[]) (rfl:_=[P b8 0,P b16 0]) ?_
  refine p_st sz95 S18 (i:=0) rfl rfl (rfl:_=vF (.func 41) #[] #[P b8 0,P b16 0]) rfl rfl fun w19 S20=>wp_nil<|c_seq<|c_seq<|reg<|p_fld fl29_6 rfl<|p_ld ty27 (S20.atX (i:=1) rfl) rfl rfl<|p_len rfl sc27<|p_add rfl rfl<|p_mI rfl<|wp_nil<|c_block ?_
  refine c_lop (α:=Int) (β:=Unit) (coal_Wrong_l2 a0) (fun z_1 y_1=>[(5,P b16 0),(18,I (wr ((a0.Dips.length:Int)+1))),(19,I z_1)]) (fun z_1 y_1 w_=>St w nF w_ [bl b16 [vF (.func 41) #[] #[P b8 0,P b16 0]] 95,bl b8 ([I a0.Heap.Low,I a0.Heap.High]++(sgE eSpan a0.Eats 2++(sg a0.Extra 3++[SL A1 a0.Days.length c2,I a0.Collier.Low,I a0.Collier.High,I a0.Brings,SL A4 a0.Dips.length c5]))) 29] [rd eCoalDay 3 A1 c2 a0.Days,rd eCoalDip 3 A4 c5 a0.Dips,gW0]) 0 () H ⟨rfl,rfl,rfl,trivial⟩ S20 ?_
  intro m21 z_1 y_1 e22 w23 H S24
  unfold coal_Wrong_l2 at H
  refine c_seq<|reg<|p_cmp rfl rfl rfl<|wp_nil<|c_seq ?_
  refine c_cond rfl (fun c25=>?_) (fun c25=>?_)
  ·replace H:=condT c25 H
   refine c_skip<|c_seq<|c_block<|c_seq<|reg<|p_mI rfl<|p_aI rfl<|wp_nil<|c_seq<|reg<|p_ld ty95 (S24.atX (i:=0) rfl) rfl rfl<|p_mI rfl ?_
   obtain ⟨r26,h27,H⟩:=bindS H
   refine p_cal (coal_Wrong_1_ok h27 (S24.atX (i:=0) rfl) (S24.atX (i:=1) rfl) (rd_nil (Nat.zero_le _)) (S24.atP (i:=0) rfl) (S24.atP (i:=1) rfl) (S24.atP (i:=2) rfl)) fu41 rfl ?_
   rintro _ w28 ⟨A30,c31,rfl,k29,⟨o32,n33⟩,_⟩
   have S34:=S24.callN k29 [rd intE 1 A30 c31 r26.1] (cA ⟨o32,Al.inL n33 ((cA fp_nil (cA (fp_mem (i:=0) rfl) (cA (fp_mem (i:=1) rfl) nM))))⟩ nM)
   refine p_mT rfl<|p_ext rfl rfl<|p_ext rfl rfl<|p_aS rfl<|p_aB rfl<|wp_nil<|c_seq<|reg<|p_mB rfl<|wp_nil ?_
   refine c_cond rfl (fun c35=>?_) (fun c35=>?_)
   ·replace H:=condT c35 H
    refine c_seq<|reg<|p_mS rfl<|p_mS rfl<|p_len rfl sc42<|p_mS rfl<|p_len rfl sc42<|p_cut3 sc42 (S34.atP (i:=0) rfl) rfl rfl rfl<|p_aS rfl<|p_aI rfl<|wp_nil ?_
    obtain rfl:=sJ H
    refine c_ret ?_; show bodyPostM (Fr none) 0 Tryd.prog Tryd.f12 _ .ret _ _
    refine ret_of (res2 rfl (rvT (rfl:_=SL A30 r26.1.length r26.1.length)) (rvT (rfl:_=I 0))) ?_
    exact ⟨_,rfl,A30,r26.1.length,rfl,S34.keep,⟨(rd_full (S34.atP (i:=0) rfl)),Al.rdr (Al.up n33 S24.keep.size (cA Al.nil (cA (Al.self (i:=0) rfl) (cA (Al.self (i:=1) rfl) nM))))⟩,trivial⟩
   ·replace H:=condF c35 H
    refine c_skip<|reg<|p_add rfl rfl<|p_mI rfl<|wp_nil ?_
    have S36:=S34.pk [0,1] (by decide) [1,2,3] rfl rfl
    exact ⟨wr (z_1+1),(),_,rfl,⟨rfl,rfl,rfl,trivial⟩,H,S36⟩
  ·replace H:=condF c25 H
   refine c_exit<|c_seq<|reg<|p_aS rfl<|p_aI rfl<|wp_nil ?_
   obtain rfl:=sJ H
   refine c_ret ?_; show bodyPostM (Fr none) 0 Tryd.prog Tryd.f12 _ .ret _ _
   refine ret_of (res2 rfl (rvT (rfl:_=SL none 0 0)) (rvT (rfl:_=I 0))) ?_
   exact ⟨_,rfl,none,0,rfl,S24.keep,⟨rd_nil (Nat.zero_le _),Al.nil⟩,trivial⟩
def B_Alike_l1 (a0:List Int) (a1:List Int) (rec_z_1:Int→Option Bool) (z_1:Int):Option Bool:=
 bif decide (z_1 < (a0.length:Int)) then ((getI a0 z_1).bind fun r13=>
 (getI a1 z_1).bind fun r15=>
 bif (r13 != r15) then (some false)
 else (rec_z_1 (wr (z_1+1))))
 else (some true)
def B_Alike (a0:List Int) (a1:List Int):Option Bool:=
 bif ((a0.length:Int) != (a1.length:Int)) then (some false)
 else (loopF (B_Alike_l1 a0 a1) big 0)
set_option maxRecDepth 100000 in
theorem B_Alike_ok {a0:List Int}{a1:List Int}{A1:Option Addr}{c2:Nat}{A4:Option Addr}{c5:Nat}{w:World}{r:Bool} (H:B_Alike a0 a1=some r) (h3:(rd intE 1 A1 c2 a0).ok w) (h6:(rd intE 1 A4 c5 a1).ok w):Calls Tryd.prog 14 #[SL A1 a0.length c2,SL A4 a1.length c5] w (RetV w (B r)):=by
 unfold B_Alike at H
 refine fn_of (n:=26) Tryd.func14 rfl rfl (lE rfl) ?_
 have S:=St.start w nF _ (cA h3 (cA h6 nM))
 refine c_seq<|reg<|p_aB rfl<|wp_nil<|c_seq<|c_seq<|reg<|p_mS rfl<|p_len rfl sc42<|p_mS rfl<|p_len rfl sc42<|p_cmp rfl rfl rfl<|wp_nil ?_
 refine c_cond rfl (fun c7=>?_) (fun c7=>?_)
 ·replace H:=condT c7 H
  refine c_seq<|reg<|p_aB rfl<|wp_nil ?_
  obtain rfl:=sJ H
  exact c_ret (rT Tryd.f14 S.keep rfl rfl)
 ·replace H:=condF c7 H
  refine c_skip<|c_seq<|c_seq<|reg<|p_aI rfl<|wp_nil<|c_block ?_
  refine c_lop (α:=Int) (β:=Unit) (B_Alike_l1 a0 a1) (fun z_1 y_1=>[(0,SL A1 a0.length c2),(1,SL A4 a1.length c5),(5,I z_1)]) (fun z_1 y_1 w_=>St w nF w_ [] [rd intE 1 A1 c2 a0,rd intE 1 A4 c5 a1]) 0 () H ⟨rfl,rfl,rfl,trivial⟩ S ?_
  intro m8 z_1 y_1 e9 w10 H S11
  unfold B_Alike_l1 at H
  refine c_seq<|c_seq<|reg<|p_mI rfl<|p_mS rfl<|p_len rfl sc42<|p_cmp rfl rfl rfl<|wp_nil ?_
  refine c_cond rfl (fun c12=>?_) (fun c12=>?_)
  ·replace H:=condT c12 H
   refine c_skip<|c_seq<|c_block<|c_seq ?_
   obtain ⟨r13,h14,H⟩:=bindS H
   obtain ⟨r15,h16,H⟩:=bindS H
   refine reg_q mixed 9 (by kernel_rfl) ?_
   refine dS (fun _ k_=>p_mS rfl dn)<|dS (fun _ k_=>p_mI rfl dn)<|dS (fun _ k_=>p_ixE sc42 h14 (aS (S11.atP (i:=0) rfl) k_).1 rfl rfl rfl dn)<|dS (fun _ k_=>p_ldE ty3 h14 (aS (S11.atP (i:=0) rfl) k_).1 rfl rfl dn)<|dS (fun _ k_=>p_mS rfl dn)<|dS (fun _ k_=>p_mI rfl dn)<|dS (fun _ k_=>p_ixE sc42 h16 (aS (S11.atP (i:=1) rfl) k_).1 rfl rfl rfl dn) ?_
   refine dS (fun _ k_=>p_ldE ty3 h16 (aS (S11.atP (i:=1) rfl) k_).1 rfl rfl dn)<|dS (fun _ k_=>p_cmp rfl rfl rfl dn) ?_
   intro w17 k18; have S19:=S11.call k18
   refine wp_nil ?_
   refine c_cond rfl (fun c20=>?_) (fun c20=>?_)
   ·replace H:=condT c20 H
    refine c_seq<|reg<|p_aB rfl<|wp_nil ?_
    obtain rfl:=sJ H
    exact c_ret (rT Tryd.f14 S19.keep rfl rfl)
   ·replace H:=condF c20 H
    refine c_skip<|reg<|p_mI rfl<|p_add rfl rfl<|p_aI rfl<|wp_nil ?_
    exact ⟨wr (z_1+1),(),_,rfl,⟨rfl,rfl,rfl,trivial⟩,H,S19⟩
  ·replace H:=condF c12 H
   refine c_exit<|c_seq<|reg<|p_aB rfl<|wp_nil ?_
   obtain rfl:=sJ H
   exact c_ret (rT Tryd.f14 S11.keep rfl rfl)
def law_link06_l2 (a0:CoalBook) (a1:Int) (rec_z_1:(Int×(List ChainSurvey))→Option ChainBook) (z_1:Int×(List ChainSurvey)):Option ChainBook:=
 bif decide (z_1.1 < (a0.Dips.length:Int)) then ((getI a0.Dips z_1.1).bind fun r29=>
 need (fitsL (z_1.2.length+([(ChainSurvey.mk 0 (wr (r29.Day+1)) r29.Read r29.Error)]:List ChainSurvey).length) 32)<|
 rec_z_1 (wr (z_1.1+1),z_1.2++([(ChainSurvey.mk 0 (wr (r29.Day+1)) r29.Read r29.Error)]:List ChainSurvey)))
 else (some (ChainBook.mk ([(ChainSection.mk a0.Heap (agetS a0.Eats (0:Int)))]:List ChainSection) ([]:List Int) z_1.2 a1 (a0.Days.length:Int)))
def law_link06 (a0:CoalBook) (a1:Int):Option ChainBook:=
 loopF (law_link06_l2 a0 a1) big (0,([]:List ChainSurvey))
set_option maxRecDepth 100000 in
theorem law_link06_ok {a0:CoalBook}{a1:Int}{A1:Option Addr}{c2:Nat}{A4:Option Addr}{c5:Nat}{w:World}{r:ChainBook} (H:law_link06 a0 a1=some r) (h3:(rd eCoalDay 3 A1 c2 a0.Days).ok w) (h6:(rd eCoalDip 3 A4 c5 a0.Dips).ok w):Calls Tryd.prog 22 #[AG ([I a0.Heap.Low,I a0.Heap.High]++(sgE eSpan a0.Eats 2++(sg a0.Extra 3++[SL A1 a0.Days.length c2,I a0.Collier.Low,I a0.Collier.High,I a0.Brings,SL A4 a0.Dips.length c5]))),I a1] w fun en w_=>∃ u_,en=.returned u_∧∃ A_1:Option Addr,∃ c_2:Nat,∃ A_3:Option Addr,∃ c_4:Nat,∃ A_5:Option Addr,∃ c_6:Nat,u_=AG [SL A_1 r.Sections.length c_2,SL A_3 r.Turns.length c_4,SL A_5 r.Surveys.length c_6,I r.Rule,I r.Days]∧Keep0 w w_∧((rd eChainSection 4 A_1 c_2 r.Sections).ok w_∧New w.heap.size (rd eChainSection 4 A_1 c_2 r.Sections))∧((rd intE 1 A_3 c_4 r.Turns).ok w_∧New w.heap.size (rd intE 1 A_3 c_4 r.Turns))∧((rd eChainSurvey 4 A_5 c_6 r.Surveys).ok w_∧New w.heap.size (rd eChainSurvey 4 A_5 c_6 r.Surveys))∧True:=by
 unfold law_link06 at H
 refine fn_of (n:=46) Tryd.func22 rfl rfl (lE rfl) ?_
 have S:=St.start w nF _ (cA h3 (cA h6 nM))
 refine c_seq<|reg<|p_boxA rfl S fun b7 w8 S9=>p_allA in63 S9 fun b10 w11 S12=>wp_nil<|c_seq<|reg<|p_fld fl29_0 rfl<|p_ldP (vs:=[I a0.Heap.Low,I a0.Heap.High]) ty23 sz23 (S12.atX (i:=1) rfl) rfl rfl rfl<|p_fld fl29_1 rfl<|p_ixc ar24 rfl rfl (by decide) (by decide)<|p_ldP (vs:=[I ((agetS a0.Eats (0:Int)).Low),I ((agetS a0.Eats (0:Int)).High)]) ty23 sz23 (S12.atX (i:=1) rfl) rfl rfl rfl ?_
 refine p_bld (cs:=[I a0.Heap.Low,I a0.Heap.High,I ((agetS a0.Eats (0:Int)).Low),I ((agetS a0.Eats (0:Int)).High)]) st79 (rfl:_=[(0,AG [I a0.Heap.Low,I a0.Heap.High]),(1,AG [I ((agetS a0.Eats (0:Int)).Low),I ((agetS a0.Eats (0:Int)).High)])]) (by kernel_rfl) ?_
 refine p_bsl (enc:=eChainSection) (l:=([(ChainSection.mk a0.Heap (agetS a0.Eats (0:Int)))]:List ChainSection)) (fun x=>AG (eChainSection x)) (fun _=>rfl) sc60 in79 eChainSection_len rfl (by decide) (by decide) zr79_1 S12 rfl fun A13 c14 w15 S16=>p_mI rfl<|p_fld fl29_3 rfl<|p_ld ty26 (S16.atX (i:=2) rfl) rfl rfl<|p_len rfl sc26 ?_
 refine p_bld (cs:=[SL A13 ([(ChainSection.mk a0.Heap (agetS a0.Eats (0:Int)))]:List ChainSection).length c14,SL none 0 0,SL none 0 0,I a1,I (a0.Days.length:Int)]) st63 (rfl:_=[(0,SL A13 ([(ChainSection.mk a0.Heap (agetS a0.Eats (0:Int)))]:List ChainSection).length c14),(3,I a1),(4,I (a0.Days.length:Int))]) (by kernel_rfl)<|p_allA in63 S16 fun b18 w19 S20=>?_
 refine p_stP (pre:=[]) (old:=[SL none 0 0,SL none 0 0,SL none 0 0,I 0,I 0]) (post:=[]) (vs:=[SL A13 ([(ChainSection.mk a0.Heap (agetS a0.Eats (0:Int)))]:List ChainSection).length c14,SL none 0 0,SL none 0 0,I a1,I (a0.Days.length:Int)]) sz63 S20 (i:=0) rfl rfl rfl rfl (rfl:_=AG [SL A13 ([(ChainSection.mk a0.Heap (agetS a0.Eats (0:Int)))]:List ChainSection).length c14,SL none 0 0,SL none 0 0,I a1,I (a0.Days.length:Int)]) rfl rfl rfl rfl fun w21 S22=>?_
 refine wp_nil<|c_seq<|c_seq<|reg<|p_aI rfl<|wp_nil<|c_block ?_
 have S23:=S22.nilRow eChainSurvey 4 115
 refine c_lop (α:=Int×(List ChainSurvey)) (β:=(Option Addr)×Nat) (law_link06_l2 a0 a1) (fun z_1 y_1=>[(2,P b7 0),(4,P b10 0),(5,P b18 0),(6,I z_1.1)]) (fun z_1 y_1 w_=>St w nF w_ [gr eChainSurvey 4 115 y_1.1 y_1.2 z_1.2,bl b18 [SL A13 ([(ChainSection.mk a0.Heap (agetS a0.Eats (0:Int)))]:List ChainSection).length c14,SL none 0 0,SL y_1.1 z_1.2.length y_1.2,I a1,I (a0.Days.length:Int)] 63,gr eChainSection 4 79 A13 c14 ([(ChainSection.mk a0.Heap (agetS a0.Eats (0:Int)))]:List ChainSection),bl b10 [SL none 0 0,SL none 0 0,SL none 0 0,I 0,I 0] 63,bl b7 ([I a0.Heap.Low,I a0.Heap.High]++(sgE eSpan a0.Eats 2++(sg a0.Extra 3++[SL A1 a0.Days.length c2,I a0.Collier.Low,I a0.Collier.High,I a0.Brings,SL A4 a0.Dips.length c5]))) 29] [rd eCoalDay 3 A1 c2 a0.Days,rd eCoalDip 3 A4 c5 a0.Dips]) (0,([]:List ChainSurvey)) (none,0) H ⟨rfl,rfl,rfl,rfl,trivial⟩ S23 ?_
 intro m24 z_1 y_1 e25 w26 H S27
 unfold law_link06_l2 at H
 refine c_seq<|c_seq<|reg<|p_mI rfl<|p_fld fl29_6 rfl<|p_ld ty27 (S27.atX (i:=4) rfl) rfl rfl<|p_len rfl sc27<|p_cmp rfl rfl rfl<|wp_nil ?_
 refine c_cond rfl (fun c28=>?_) (fun c28=>?_)
 ·replace H:=condT c28 H
  refine c_skip<|c_seq<|c_block<|c_seq<|reg<|p_fld fl29_6 rfl<|p_ld ty27 (S27.atX (i:=4) rfl) rfl rfl<|p_mI rfl ?_
  obtain ⟨r29,h30,H⟩:=bindS H
  refine p_ixE sc27 h30 (S27.atP (i:=1) rfl).1 rfl rfl rfl<|p_ldEA ty75 sz75 rfl h30 (S27.atP (i:=1) rfl).1 rfl<|p_allA in75 S27 fun b31 w32 S33=>p_stP (pre:=[]) (old:=[I 0,I 0,I 0]) (post:=[]) (vs:=[I r29.Day,I r29.Read,I r29.Error]) sz75 S33 (i:=0) rfl rfl rfl rfl (rfl:_=AG [I r29.Day,I r29.Read,I r29.Error]) rfl rfl rfl rfl fun w34 S35=>wp_nil<|reg<|p_fld fl63_2 rfl ?_
  refine p_ld ty61 (S35.atX (i:=2) rfl) rfl rfl<|p_fld fl75_0 rfl<|p_ld ty3 (S35.atX (i:=0) rfl) rfl rfl<|p_add rfl rfl<|p_fld fl75_1 rfl<|p_ld ty3 (S35.atX (i:=0) rfl) rfl rfl<|p_fld fl75_2 rfl<|p_ld ty3 (S35.atX (i:=0) rfl) rfl rfl<|p_bld (cs:=[I 0,I (wr (r29.Day+1)),I r29.Read,I r29.Error]) st115 (rfl:_=[(1,I (wr (r29.Day+1))),(2,I r29.Read),(3,I r29.Error)]) (by kernel_rfl) ?_
  refine p_bsl (enc:=eChainSurvey) (l:=([(ChainSurvey.mk 0 (wr (r29.Day+1)) r29.Read r29.Error)]:List ChainSurvey)) (fun x=>AG (eChainSurvey x)) (fun _=>rfl) sc61 in115 eChainSurvey_len rfl (by decide) (by decide) zr115_1 S35 rfl fun A36 c37 w38 S39=>?_
  obtain ⟨h45,H⟩:=needS H
  refine p_app (enc:=eChainSurvey) sc61 in115 rfl eChainSurvey_len eChainSurvey_one (by decide) S39 (k:=2) rfl (gr_sl eChainSurvey_len (S39.atX (i:=0) rfl)) h45 (by simp) rfl rfl fun A43 c44 w41 S42=>p_fld fl63_2 rfl ?_
  refine p_stP (pre:=[SL A13 ([(ChainSection.mk a0.Heap (agetS a0.Eats (0:Int)))]:List ChainSection).length c14,SL none 0 0]) (old:=[SL y_1.1 z_1.2.length y_1.2]) (post:=[I a1,I (a0.Days.length:Int)]) (vs:=[SL A43 (z_1.2++([(ChainSurvey.mk 0 (wr (r29.Day+1)) r29.Read r29.Error)]:List ChainSurvey)).length c44]) sz61 S42 (i:=3) rfl rfl rfl rfl (rfl:_=SL A43 (z_1.2++([(ChainSurvey.mk 0 (wr (r29.Day+1)) r29.Read r29.Error)]:List ChainSurvey)).length c44) rfl rfl rfl rfl fun w46 S47=>?_
  refine wp_nil<|reg<|p_mI rfl<|p_add rfl rfl<|p_aI rfl<|wp_nil ?_
  have S48:=S47.pk [2,3,4,5,6] (by decide) [0,1] rfl rfl
  exact ⟨(wr (z_1.1+1),z_1.2++([(ChainSurvey.mk 0 (wr (r29.Day+1)) r29.Read r29.Error)]:List ChainSurvey)),(A43,c44),_,rfl,⟨rfl,rfl,rfl,rfl,trivial⟩,H,S48⟩
 ·replace H:=condF c28 H
  refine c_exit<|c_seq<|reg<|p_ldA ty63 sz63 (S27.atX (i:=1) rfl) rfl rfl ?_
  refine p_stP (pre:=[]) (old:=[SL none 0 0,SL none 0 0,SL none 0 0,I 0,I 0]) (post:=[]) (vs:=[SL A13 ([(ChainSection.mk a0.Heap (agetS a0.Eats (0:Int)))]:List ChainSection).length c14,SL none 0 0,SL y_1.1 z_1.2.length y_1.2,I a1,I (a0.Days.length:Int)]) sz63 S27 (i:=3) rfl rfl rfl rfl (rfl:_=AG [SL A13 ([(ChainSection.mk a0.Heap (agetS a0.Eats (0:Int)))]:List ChainSection).length c14,SL none 0 0,SL y_1.1 z_1.2.length y_1.2,I a1,I (a0.Days.length:Int)]) rfl rfl rfl rfl fun w49 S50=>?_
  refine wp_nil ?_
  obtain rfl:=sJ H
  refine c_ret ?_; show bodyPostM (Fr none) 0 Tryd.prog Tryd.f22 _ .ret _ _
  refine ret_of (res1 rfl (rvA rfl ty63 sz63 (S50.atX (i:=3) rfl) rfl)) ?_
  exact ⟨_,rfl,A13,c14,none,0,y_1.1,y_1.2,rfl,S50.keep,⟨(gr_rd eChainSection_len (S50.atX (i:=2) rfl)),(New.rd (S50.newX (i:=2) rfl))⟩,⟨rd_nil (Nat.zero_le _),New.nil⟩,⟨(gr_rd eChainSurvey_len (S50.atX (i:=0) rfl)),(New.rd (S50.newX (i:=0) rfl))⟩,trivial⟩
def chain_Right (a0:ChainBook):Option (Bool×Int):=
 (chain_Check a0).bind fun r14=>
 bif (r14 != 0) then (some (false,r14))
 else ((chain_opened a0 ([]:List _)).bind fun r19=>
 some (decide ((r19.truths_.length:Int) > 0),0))
set_option maxRecDepth 100000 in
theorem chain_Right_ok {a0:ChainBook}{A1:Option Addr}{c2:Nat}{A4:Option Addr}{c5:Nat}{A7:Option Addr}{c8:Nat}{w:World}{r:Bool×Int} (H:chain_Right a0=some r) (h3:(rd eChainSection 4 A1 c2 a0.Sections).ok w) (h6:(rd intE 1 A4 c5 a0.Turns).ok w) (h9:(rd eChainSurvey 4 A7 c8 a0.Surveys).ok w) (hg10:(gW2).ok w):Calls Tryd.prog 24 #[AG [SL A1 a0.Sections.length c2,SL A4 a0.Turns.length c5,SL A7 a0.Surveys.length c8,I a0.Rule,I a0.Days]] w (RetV w (TU [B r.1,I r.2])):=by
 unfold chain_Right at H
 refine fn_of (n:=15) Tryd.func24 rfl rfl (lE rfl) ?_
 have S:=St.start w nF _ (cA h3 (cA h6 (cA h9 (cA hg10 nM))))
 refine c_seq<|reg<|p_boxA rfl S fun b11 w12 S13=>p_aB rfl<|p_aI rfl<|wp_nil<|c_seq<|c_seq<|reg<|p_ldA ty63 sz63 (S13.atX (i:=0) rfl) rfl rfl ?_
 obtain ⟨r14,h15,H⟩:=bindS H
 refine p_cv (chain_Check_ok h15 (S13.atP (i:=0) rfl) (S13.atP (i:=1) rfl) (S13.atP (i:=2) rfl)) fu23 rfl S13 fun w16 S17=>p_aI rfl<|wp_nil<|c_seq<|reg<|p_mI rfl<|p_cmp rfl rfl rfl<|wp_nil ?_
 refine c_cond rfl (fun c18=>?_) (fun c18=>?_)
 ·replace H:=condT c18 H
  refine c_seq<|reg<|p_mI rfl<|p_aB rfl<|p_aI rfl<|wp_nil ?_
  obtain rfl:=sJ H
  refine c_ret ?_; show bodyPostM (Fr none) 0 Tryd.prog Tryd.f24 _ .ret _ _
  refine ret_of (res2 rfl (rvT (rfl:_=B false)) (rvT (rfl:_=I r14))) ?_
  exact ⟨_,rfl,rfl,S17.keep⟩
 ·replace H:=condF c18 H
  refine c_skip<|c_seq<|reg<|p_ldA ty63 sz63 (S17.atX (i:=0) rfl) rfl rfl ?_
  obtain ⟨r19,h20,H⟩:=bindS H
  refine p_cal (chain_opened_ok h20 (S17.atP (i:=0) rfl) (S17.atP (i:=1) rfl) (S17.atP (i:=2) rfl) (rd_nil (Nat.zero_le _)) (S17.atP (i:=3) rfl)) fu55 rfl ?_
  rintro _ w21 ⟨m23,A24,c25,rfl,k22,⟨o26,n27⟩,⟨o28,n29⟩,_⟩
  have S30:=S17.callN k22 [mp ekC sE m23 r19.read_,rd eChain_truth 12 A24 c25 r19.truths_] (cA ⟨o26,New.inL n27⟩ (cA ⟨o28,New.inL n29⟩ nM))
  refine p_fieldV ft120_2 ty118 rfl rfl<|p_len rfl sc118<|p_cmp rfl rfl rfl<|p_aB rfl<|p_aI rfl<|wp_nil ?_
  obtain rfl:=sJ H
  refine c_ret ?_; show bodyPostM (Fr none) 0 Tryd.prog Tryd.f24 _ .ret _ _
  refine ret_of (res2 rfl (rvT (rfl:_=B (decide ((r19.truths_.length:Int) > 0)))) (rvT (rfl:_=I 0))) ?_
  exact ⟨_,rfl,rfl,S30.keep⟩
def chain_Wrong_1_l3 (q0:ChainBook) (a0:List Int) (rec_:(List Int)→Int→Option ((List Int)×Bool)) (a1:Int) (rec_z_2:Int→Option ((List Int)×Bool)) (z_2:Int):Option ((List Int)×Bool):=
 bif decide (z_2 < (q0.Surveys.length:Int)) then (need (fitsL (a0.length+([z_2]:List Int).length) 8)<|
 (rec_ (a0++([z_2]:List Int)) a1).bind fun r63=>
 bif r63.2 then (some (r63.1,true))
 else (rec_z_2 (wr (z_2+1))))
 else (some (([]:List _),false))
def chain_Wrong_1_j4 (q0:ChainBook) (a0:List Int) (rec_:(List Int)→Int→Option ((List Int)×Bool)) (a1:Int) (z_1:Int):Option ((List Int)×Bool):=
 loopF (chain_Wrong_1_l3 q0 a0 rec_ a1) big z_1
def chain_Wrong_1_F (rec_:(List Int)→Int→Option ((List Int)×Bool)) (a0:List Int) (a1:Int) (q0:ChainBook):Option ((List Int)×Bool):=
 bif ((a0.length:Int)==a1) then ((chain_opened q0 a0).bind fun r19=>
 some (a0,decide ((r19.truths_.length:Int) > 0)))
 else (bif decide ((a0.length:Int) > 0) then ((getI a0 (wr ((a0.length:Int) - 1))).bind fun r32=>
 chain_Wrong_1_j4 q0 a0 rec_ a1 (wr (r32+1)))
 else (chain_Wrong_1_j4 q0 a0 rec_ a1 0))
def chain_Wrong_1:Nat→(List Int)→Int→ChainBook→Option ((List Int)×Bool)
 | 0,_,_,_=>none
 | n+1,a0,a1,q0=>chain_Wrong_1_F (fun x0_ x1_=>chain_Wrong_1 n x0_ x1_ q0) a0 a1 q0
set_option maxRecDepth 100000 in
theorem chain_Wrong_1_ok {n:Nat}:∀ {a0:List Int}{a1:Int}{q0:ChainBook}{A1:Option Addr}{c2:Nat}{b4:Nat}{A6:Option Addr}{c7:Nat}{A9:Option Addr}{c10:Nat}{A12:Option Addr}{c13:Nat}{b5:Nat}{w:World}{r:(List Int)×Bool} (H:chain_Wrong_1 n a0 a1 q0=some r) (h16:(bl b5 [vF (.func 56) #[] #[P b4 0,P b5 0]] 95).ok w) (h15:(bl b4 [SL A6 q0.Sections.length c7,SL A9 q0.Turns.length c10,SL A12 q0.Surveys.length c13,I q0.Rule,I q0.Days] 63).ok w) (h3:(rd intE 1 A1 c2 a0).ok w) (h8:(rd eChainSection 4 A6 c7 q0.Sections).ok w) (h11:(rd intE 1 A9 c10 q0.Turns).ok w) (h14:(rd eChainSurvey 4 A12 c13 q0.Surveys).ok w) (hg17:(gW2).ok w),Calls Tryd.prog 56 #[SL A1 a0.length c2,I a1,P b4 0,P b5 0] w fun en w_=>∃ u_,en=.returned u_∧∃ A_1:Option Addr,∃ c_2:Nat,u_=TU [SL A_1 r.1.length c_2,B r.2]∧Keep0 w w_∧((rd intE 1 A_1 c_2 r.1).ok w_∧Al w [rd intE 1 A1 c2 a0,rd eChainSection 4 A6 c7 q0.Sections,rd intE 1 A9 c10 q0.Turns,rd eChainSurvey 4 A12 c13 q0.Surveys] (rd intE 1 A_1 c_2 r.1))∧True:=by
 induction n with
 | zero=>intro a0 a1 q0 A1 c2 b4 A6 c7 A9 c10 A12 c13 b5 w r H h16 h15 h3 h8 h11 h14 hg17; cases H
 | succ n ih=>
 intro a0 a1 q0 A1 c2 b4 A6 c7 A9 c10 A12 c13 b5 w r H h16 h15 h3 h8 h11 h14 hg17
 unfold chain_Wrong_1 chain_Wrong_1_F at H
 refine fn_of (n:=56) Tryd.func56 rfl rfl (lE rfl) ?_
 have S:=St.start w nF _ (cA h16 (cA h15 (cA h3 (cA h8 (cA h11 (cA h14 (cA hg17 nM)))))))
 refine c_seq<|reg<|p_aS rfl<|p_aB rfl<|wp_nil<|c_seq<|reg<|p_mS rfl<|p_len rfl sc42<|p_aI rfl<|wp_nil<|c_seq<|c_seq<|reg<|p_mI rfl<|p_mI rfl<|p_cmp rfl rfl rfl<|wp_nil ?_
 refine c_cond rfl (fun c18=>?_) (fun c18=>?_)
 ·replace H:=condT c18 H
  refine c_seq<|reg<|p_mS rfl<|p_ldA ty63 sz63 (S.atP (i:=1) rfl) rfl rfl<|p_mS rfl ?_
  obtain ⟨r19,h20,H⟩:=bindS H
  refine p_cal (chain_opened_ok h20 (S.atP (i:=3) rfl) (S.atP (i:=4) rfl) (S.atP (i:=5) rfl) (S.atP (i:=2) rfl) (S.atP (i:=6) rfl)) fu55 rfl ?_
  rintro _ w21 ⟨m23,A24,c25,rfl,k22,⟨o26,n27⟩,⟨o28,n29⟩,_⟩
  have S30:=S.callN k22 [mp ekC sE m23 r19.read_,rd eChain_truth 12 A24 c25 r19.truths_] (cA ⟨o26,New.inL n27⟩ (cA ⟨o28,New.inL n29⟩ nM))
  refine p_fieldV ft120_2 ty118 rfl rfl<|p_len rfl sc118<|p_cmp rfl rfl rfl<|p_aS rfl<|p_aB rfl<|wp_nil ?_
  obtain rfl:=sJ H
  refine c_ret ?_; show bodyPostM (Fr none) 0 Tryd.prog Tryd.f56 _ .ret _ _
  refine ret_of (res2 rfl (rvT (rfl:_=SL A1 a0.length c2)) (rvT (rfl:_=B (decide ((r19.truths_.length:Int) > 0))))) ?_
  exact ⟨_,rfl,A1,c2,rfl,S30.keep,⟨(S30.atP (i:=4) rfl),Al.self (i:=0) rfl⟩,trivial⟩
 ·replace H:=condF c18 H
  refine c_skip<|c_seq<|reg<|p_aI rfl<|wp_nil ?_
  refine c_join (α:=Int) (β:=Unit) (fun z_1 y_1=>[(0,SL A1 a0.length c2),(1,I a1),(2,P b4 0),(3,P b5 0),(8,I (a0.length:Int)),(9,I z_1)]) (fun z_1 y_1 w_=>chain_Wrong_1_j4 q0 a0 (fun x0_ x1_=>chain_Wrong_1 n x0_ x1_ q0) a1 z_1=some r∧St w nF w_ [] [bl b5 [vF (.func 56) #[] #[P b4 0,P b5 0]] 95,bl b4 [SL A6 q0.Sections.length c7,SL A9 q0.Turns.length c10,SL A12 q0.Surveys.length c13,I q0.Rule,I q0.Days] 63,rd intE 1 A1 c2 a0,rd eChainSection 4 A6 c7 q0.Sections,rd intE 1 A9 c10 q0.Turns,rd eChainSurvey 4 A12 c13 q0.Surveys,gW2]) ?_ ?_
  ·refine c_seq<|reg<|p_mI rfl<|p_cmp rfl rfl rfl<|wp_nil ?_
   refine c_cond rfl (fun c31=>?_) (fun c31=>?_)
   ·replace H:=condT c31 H
    refine reg<|p_mS rfl<|p_mI rfl<|p_sub rfl rfl ?_
    obtain ⟨r32,h33,H⟩:=bindS H
    refine p_ixE sc42 h33 (S.atP (i:=2) rfl).1 rfl rfl rfl<|p_ldE ty3 h33 (S.atP (i:=2) rfl).1 rfl rfl<|p_add rfl rfl<|p_aI rfl<|wp_nil ?_
    exact ⟨wr (r32+1),(),_,rfl,⟨rfl,rfl,rfl,rfl,rfl,rfl,trivial⟩,H,S⟩
   ·replace H:=condF c31 H
    refine c_skip ?_
    exact ⟨0,(),_,rfl,⟨rfl,rfl,rfl,rfl,rfl,rfl,trivial⟩,H,S⟩
  ·intro z_1 y_1 e31 w32 S33; obtain ⟨H,S33⟩:=S33
   unfold chain_Wrong_1_j4 at H
   refine c_seq<|c_seq<|reg<|p_mI rfl<|p_aI rfl<|wp_nil<|c_block ?_
   refine c_lop (α:=Int) (β:=Unit) (chain_Wrong_1_l3 q0 a0 (fun x0_ x1_=>chain_Wrong_1 n x0_ x1_ q0) a1) (fun z_2 y_2=>[(0,SL A1 a0.length c2),(1,I a1),(2,P b4 0),(3,P b5 0),(8,I (a0.length:Int)),(10,I z_2)]) (fun z_2 y_2 w_=>St w nF w_ [] [bl b5 [vF (.func 56) #[] #[P b4 0,P b5 0]] 95,bl b4 [SL A6 q0.Sections.length c7,SL A9 q0.Turns.length c10,SL A12 q0.Surveys.length c13,I q0.Rule,I q0.Days] 63,rd intE 1 A1 c2 a0,rd eChainSection 4 A6 c7 q0.Sections,rd intE 1 A9 c10 q0.Turns,rd eChainSurvey 4 A12 c13 q0.Surveys,gW2]) z_1 () H ⟨rfl,rfl,rfl,rfl,rfl,rfl,trivial⟩ S33 ?_
   intro m34 z_2 y_2 e35 w36 H S37
   unfold chain_Wrong_1_l3 at H
   refine c_seq<|c_seq<|reg<|p_mI rfl<|p_fld fl63_2 rfl<|p_ld ty61 (S37.atP (i:=1) rfl) rfl rfl<|p_len rfl sc61<|p_cmp rfl rfl rfl<|wp_nil ?_
   refine c_cond rfl (fun c38=>?_) (fun c38=>?_)
   ·replace H:=condT c38 H
    refine c_skip<|c_seq<|c_block<|c_seq ?_
    obtain ⟨h56,H⟩:=needS H
    obtain ⟨r63,h64,H⟩:=bindS H
    refine reg_any mixed 15 (by kernel_rfl) [rv (vF (.func 56) #[] #[P b4 0,P b5 0]),rv (SL A1 a0.length c2),rv (I (a0.length:Int)),rv (I (a0.length:Int)),rv (SL A1 a0.length a0.length),rv (I z_2),rx (α:=(Option Addr)×Nat) (fun ⟨A43,c44⟩=>SL A43 ([z_2]:List Int).length c44) (fun ⟨A43,c44⟩ lo hi=>BtwL lo hi [] (gr intE 1 3 A43 c44 ([z_2]:List Int))∧True) (fun ⟨A43,c44⟩=>[gr intE 1 3 A43 c44 ([z_2]:List Int)]),rx (α:=(Option Addr)×Nat) (fun ⟨A54,c55⟩=>SL A54 (a0++([z_2]:List Int)).length c55) (fun ⟨A54,c55⟩ lo hi=>BtwL lo hi [] (gr intE 1 3 A54 c55 (a0++([z_2]:List Int)))∧True) (fun ⟨A54,c55⟩=>[gr intE 1 3 A54 c55 (a0++([z_2]:List Int))]),rv (I a1),rxd 49 (α:=(Option Addr)×Nat) (fun ⟨A67,c68⟩=>TU [SL A67 r63.1.length c68,B r63.2]) (fun ⟨A67,c68⟩ lo hi ev=>BtwV lo hi [rd eChainSection 4 A6 c7 q0.Sections,rd intE 1 A9 c10 q0.Turns,rd eChainSurvey 4 A12 c13 q0.Surveys] ev (rd intE 1 A67 c68 r63.1)∧True) (fun ⟨A67,c68⟩=>[rd intE 1 A67 c68 r63.1]),dv 51 some,dv 41 (exG 0),dv 41 (exG 1),dv 52 some,rv (B r63.2)] [[],[],[],[],[],[],[],[],[],[49],[51],[41],[41],[52],[]] rfl (by kernel_rfl) [[],[],[],[],[1,2,3],[],[5],[1,2,3,4,5,6],[],[0,1,2,3,4,5,6,7,8],[0,1,2,3,4,5,6,7,8,9],[0,1,2,3,4,5,6,7,8,9,10],[0,1,2,3,4,5,6,7,8,9,10],[0,1,2,3,4,5,6,7,8,9,10,11],[0,1,2,3,4,5,6,7,8,9,10,11,12,13]] (by kernel_rfl) ⟨?_,?_,?_,?_,?_,?_,?_,?_,?_,?_,?_,?_,?_,?_,?_,trivial⟩ ?_
    ·intro e_ w_ k_ hf_ hR_
     have S_:St w_ nF w_ [] [bl b5 [vF (.func 56) #[] #[P b4 0,P b5 0]] 95,bl b4 [SL A6 q0.Sections.length c7,SL A9 q0.Turns.length c10,SL A12 q0.Surveys.length c13,I q0.Rule,I q0.Days] 63,rd intE 1 A1 c2 a0,rd eChainSection 4 A6 c7 q0.Sections,rd intE 1 A9 c10 q0.Turns,rd eChainSurvey 4 A12 c13 q0.Surveys,gW2]:=S37.asP k_
     refine hopE [(3,P b5 0)] ⟨((hf_ 3 rfl).trans (rfl:_=P b5 0)),trivial⟩ ?_
     exact p_ld ty95 (S_.atP (i:=0) rfl) rfl rfl<|wp_nil ⟨_,rfl,S_.keep,rfl⟩
    ·intro e_ w_ k_ hf_ hR_
     have S_:St w_ nF w_ [] [bl b5 [vF (.func 56) #[] #[P b4 0,P b5 0]] 95,bl b4 [SL A6 q0.Sections.length c7,SL A9 q0.Turns.length c10,SL A12 q0.Surveys.length c13,I q0.Rule,I q0.Days] 63,rd intE 1 A1 c2 a0,rd eChainSection 4 A6 c7 q0.Sections,rd intE 1 A9 c10 q0.Turns,rd eChainSurvey 4 A12 c13 q0.Surveys,gW2]:=S37.asP k_
     refine hopE [(0,SL A1 a0.length c2)] ⟨((hf_ 0 rfl).trans (rfl:_=SL A1 a0.length c2)),trivial⟩ ?_
     refine p_mS rfl<|wp_nil ?_
     exact ⟨_,rfl,S_.keep,rfl⟩
    ·intro e_ w_ k_ hf_ hR_
     have S_:St w_ nF w_ [] [bl b5 [vF (.func 56) #[] #[P b4 0,P b5 0]] 95,bl b4 [SL A6 q0.Sections.length c7,SL A9 q0.Turns.length c10,SL A12 q0.Surveys.length c13,I q0.Rule,I q0.Days] 63,rd intE 1 A1 c2 a0,rd eChainSection 4 A6 c7 q0.Sections,rd intE 1 A9 c10 q0.Turns,rd eChainSurvey 4 A12 c13 q0.Surveys,gW2]:=S37.asP k_
     refine hopE [(8,I (a0.length:Int))] ⟨((hf_ 8 rfl).trans (rfl:_=I (a0.length:Int))),trivial⟩ ?_
     exact p_mI rfl<|wp_nil ⟨_,rfl,S_.keep,rfl⟩
    ·intro e_ w_ k_ hf_ hR_
     have S_:St w_ nF w_ [] [bl b5 [vF (.func 56) #[] #[P b4 0,P b5 0]] 95,bl b4 [SL A6 q0.Sections.length c7,SL A9 q0.Turns.length c10,SL A12 q0.Surveys.length c13,I q0.Rule,I q0.Days] 63,rd intE 1 A1 c2 a0,rd eChainSection 4 A6 c7 q0.Sections,rd intE 1 A9 c10 q0.Turns,rd eChainSurvey 4 A12 c13 q0.Surveys,gW2]:=S37.asP k_
     refine hopE [(8,I (a0.length:Int))] ⟨((hf_ 8 rfl).trans (rfl:_=I (a0.length:Int))),trivial⟩ ?_
     exact p_mI rfl<|wp_nil ⟨_,rfl,S_.keep,rfl⟩
    ·intro e_ w_ k_ hf_ hR_
     have S_:St w_ nF w_ [] [bl b5 [vF (.func 56) #[] #[P b4 0,P b5 0]] 95,bl b4 [SL A6 q0.Sections.length c7,SL A9 q0.Turns.length c10,SL A12 q0.Surveys.length c13,I q0.Rule,I q0.Days] 63,rd intE 1 A1 c2 a0,rd eChainSection 4 A6 c7 q0.Sections,rd intE 1 A9 c10 q0.Turns,rd eChainSurvey 4 A12 c13 q0.Surveys,gW2]:=S37.asP k_
     refine hopE [(43,SL A1 a0.length c2),(44,I (a0.length:Int)),(45,I (a0.length:Int))] ⟨rQ (hR_ 1 43 rfl (lE rfl) rfl),rQ (hR_ 2 44 rfl (lE rfl) rfl),rQ (hR_ 3 45 rfl (lE rfl) rfl),trivial⟩ ?_
     refine p_cut3 sc42 (S_.atP (i:=2) rfl) rfl rfl rfl<|wp_nil ?_
     exact ⟨_,rfl,S_.keep,rfl⟩
    ·intro e_ w_ k_ hf_ hR_
     have S_:St w_ nF w_ [] [bl b5 [vF (.func 56) #[] #[P b4 0,P b5 0]] 95,bl b4 [SL A6 q0.Sections.length c7,SL A9 q0.Turns.length c10,SL A12 q0.Surveys.length c13,I q0.Rule,I q0.Days] 63,rd intE 1 A1 c2 a0,rd eChainSection 4 A6 c7 q0.Sections,rd intE 1 A9 c10 q0.Turns,rd eChainSurvey 4 A12 c13 q0.Surveys,gW2]:=S37.asP k_
     refine hopE [(10,I z_2)] ⟨((hf_ 10 rfl).trans (rfl:_=I z_2)),trivial⟩ ?_
     exact p_mI rfl<|wp_nil ⟨_,rfl,S_.keep,rfl⟩
    ·intro e_ w_ k_ hf_ hR_
     have S_:St w_ nF w_ [] [bl b5 [vF (.func 56) #[] #[P b4 0,P b5 0]] 95,bl b4 [SL A6 q0.Sections.length c7,SL A9 q0.Turns.length c10,SL A12 q0.Surveys.length c13,I q0.Rule,I q0.Days] 63,rd intE 1 A1 c2 a0,rd eChainSection 4 A6 c7 q0.Sections,rd intE 1 A9 c10 q0.Turns,rd eChainSurvey 4 A12 c13 q0.Surveys,gW2]:=S37.asP k_
     refine hopE [(47,I z_2)] ⟨rQ (hR_ 5 47 rfl (lE rfl) rfl),trivial⟩ ?_
     refine p_bsl (enc:=intE) (l:=([z_2]:List Int)) I (fun _=>rfl) sc42 in3 intE_len rfl (by decide) (by decide) zr3_1 S_ rfl fun A43 c44 w45 S46=>wp_nil ?_
     exact ⟨_,rfl,S46.keep,⟨(A43,c44),rfl,⟨bL (New.al (S46.newX (i:=0) rfl)) rfl (S46.atX (i:=0) rfl) rfl,trivial⟩,(cA (S46.atX (i:=0) rfl) nM)⟩⟩
    ·intro e_ w_ k_ hf_ hR_
     have S_:St w_ nF w_ [] [bl b5 [vF (.func 56) #[] #[P b4 0,P b5 0]] 95,bl b4 [SL A6 q0.Sections.length c7,SL A9 q0.Turns.length c10,SL A12 q0.Surveys.length c13,I q0.Rule,I q0.Days] 63,rd intE 1 A1 c2 a0,rd eChainSection 4 A6 c7 q0.Sections,rd intE 1 A9 c10 q0.Turns,rd eChainSurvey 4 A12 c13 q0.Surveys,gW2]:=S37.asP k_
     obtain ⟨_,_,_,_,q48⟩:=hR_ 4 46 rfl (lE rfl) rfl
     obtain ⟨_,_,_,_,⟨A43,c44⟩,q49,p50,a51⟩:=hR_ 6 48 rfl (lE rfl) rfl
     replace q49:e_ 48=SL A43 ([z_2]:List Int).length c44:=q49
     have S_:=St.addL' S_ (a51 _ (.head _)) (fun _ _ _ h_=>(nE h_))
     refine hopE [(46,SL A1 a0.length a0.length),(48,SL A43 ([z_2]:List Int).length c44)] ⟨q48,q49,trivial⟩ ?_
     refine p_appN (enc:=intE) sc42 in3 rfl intE_len (by decide) S_ (rd_full (S_.atP (i:=3) rfl)).1 rfl (gr_sl intE_len (S_.atP (i:=0) rfl)) h56 (by simp) rfl rfl fun A54 c55 w52 S53=>wp_nil ?_
     exact ⟨_,rfl,S53.keep,⟨(A54,c55),rfl,⟨bL (New.al (S53.newX (i:=0) rfl)) rfl (S53.atX (i:=0) rfl) rfl,trivial⟩,(cA (S53.atX (i:=0) rfl) nM)⟩⟩
    ·intro e_ w_ k_ hf_ hR_
     have S_:St w_ nF w_ [] [bl b5 [vF (.func 56) #[] #[P b4 0,P b5 0]] 95,bl b4 [SL A6 q0.Sections.length c7,SL A9 q0.Turns.length c10,SL A12 q0.Surveys.length c13,I q0.Rule,I q0.Days] 63,rd intE 1 A1 c2 a0,rd eChainSection 4 A6 c7 q0.Sections,rd intE 1 A9 c10 q0.Turns,rd eChainSurvey 4 A12 c13 q0.Surveys,gW2]:=S37.asP k_
     refine hopE [(1,I a1)] ⟨((hf_ 1 rfl).trans (rfl:_=I a1)),trivial⟩ ?_
     exact p_mI rfl<|wp_nil ⟨_,rfl,S_.keep,rfl⟩
    ·intro e_ w_ k_ hf_ hR_
     have S_:St w_ nF w_ [] [bl b5 [vF (.func 56) #[] #[P b4 0,P b5 0]] 95,bl b4 [SL A6 q0.Sections.length c7,SL A9 q0.Turns.length c10,SL A12 q0.Surveys.length c13,I q0.Rule,I q0.Days] 63,rd intE 1 A1 c2 a0,rd eChainSection 4 A6 c7 q0.Sections,rd intE 1 A9 c10 q0.Turns,rd eChainSurvey 4 A12 c13 q0.Surveys,gW2]:=S37.asP k_
     obtain ⟨_,_,_,_,q58⟩:=hR_ 0 42 rfl (lE rfl) rfl
     obtain ⟨_,_,_,_,⟨A54,c55⟩,q59,p60,a61⟩:=hR_ 7 49 rfl (lE rfl) rfl
     replace q59:e_ 49=SL A54 (a0++([z_2]:List Int)).length c55:=q59
     have S_:=St.addL' S_ (a61 _ (.head _)) (fun _ _ _ h_=>(nE h_))
     refine hopE [(42,vF (.func 56) #[] #[P b4 0,P b5 0]),(49,SL A54 (a0++([z_2]:List Int)).length c55),(50,I a1)] ⟨q58,q59,rQ (hR_ 8 50 rfl (lE rfl) rfl),trivial⟩ ?_
     refine p_cal (ih h64 (S_.atP (i:=1) rfl) (S_.atP (i:=2) rfl) (gr_rd intE_len (S_.atP (i:=0) rfl)) (S_.atP (i:=4) rfl) (S_.atP (i:=5) rfl) (S_.atP (i:=6) rfl) (S_.atP (i:=7) rfl)) fu56 rfl ?_
     rintro _ w65 ⟨A67,c68,rfl,k66,⟨o69,n70⟩,_⟩
     have S71:=S_.callN k66 [rd intE 1 A67 c68 r63.1] (cA ⟨o69,Al.inL n70 ((cA (fp_gr (i:=0) rfl) (cA (fp_mem (i:=4) rfl) (cA (fp_mem (i:=5) rfl) (cA (fp_mem (i:=6) rfl) nM)))))⟩ nM)
     exact wp_nil ⟨_,rfl,S71.keep,⟨(A67,c68),rfl,⟨BtwV.of n70 rfl (S71.atP (i:=0) rfl) rfl (cA (fun b_ h_=>.inl (vblk_sl h_)) (cA (fun b_ h_=>.inr ⟨_,mE (i:=0) rfl,h_⟩) (cA (fun b_ h_=>.inr ⟨_,mE (i:=1) rfl,h_⟩) (cA (fun b_ h_=>.inr ⟨_,mE (i:=2) rfl,h_⟩) nM)))),trivial⟩,(cA (S71.atP (i:=0) rfl) nM)⟩⟩
    ·intro e_ w_ k_ hf_ hR_
     have S_:St w_ nF w_ [] [bl b5 [vF (.func 56) #[] #[P b4 0,P b5 0]] 95,bl b4 [SL A6 q0.Sections.length c7,SL A9 q0.Turns.length c10,SL A12 q0.Surveys.length c13,I q0.Rule,I q0.Days] 63,rd intE 1 A1 c2 a0,rd eChainSection 4 A6 c7 q0.Sections,rd intE 1 A9 c10 q0.Turns,rd eChainSurvey 4 A12 c13 q0.Surveys,gW2]:=S37.asP k_
     obtain ⟨_,_,_,_,⟨A67,c68⟩,q72,p73,a74⟩:=hR_ 9 51 rfl (lE rfl) rfl
     replace q72:e_ 51=TU [SL A67 r63.1.length c68,B r63.2]:=q72
     have S_:=St.addL' S_ (a74 _ (.head _)) (fun _ _ _ h_=>(nE h_))
     refine hopE [(51,TU [SL A67 r63.1.length c68,B r63.2])] ⟨q72,trivial⟩ ?_
     refine p_mT rfl<|wp_nil ?_
     exact ⟨_,rfl,S_.keep,rfl⟩
    ·intro e_ w_ k_ hf_ hR_
     have S_:St w_ nF w_ [] [bl b5 [vF (.func 56) #[] #[P b4 0,P b5 0]] 95,bl b4 [SL A6 q0.Sections.length c7,SL A9 q0.Turns.length c10,SL A12 q0.Surveys.length c13,I q0.Rule,I q0.Days] 63,rd intE 1 A1 c2 a0,rd eChainSection 4 A6 c7 q0.Sections,rd intE 1 A9 c10 q0.Turns,rd eChainSurvey 4 A12 c13 q0.Surveys,gW2]:=S37.asP k_
     obtain ⟨_,_,_,_,⟨A67,c68⟩,q76,p77,a78⟩:=hR_ 9 51 rfl (lE rfl) rfl
     replace q76:e_ 51=TU [SL A67 r63.1.length c68,B r63.2]:=q76
     have S_:=St.addL' S_ (a78 _ (.head _)) (fun _ _ _ h_=>(nE h_))
     obtain ⟨_,_,_,_,q75⟩:=hR_ 10 41 rfl (lE rfl) rfl
     replace q75:e_ 41=TU [SL A67 r63.1.length c68,B r63.2]:=(sJ ((congrArg some q76).symm.trans q75)).symm
     refine hopE [(41,TU [SL A67 r63.1.length c68,B r63.2])] ⟨q75,trivial⟩ ?_
     refine p_ext rfl rfl<|wp_nil ?_
     exact ⟨_,rfl,S_.keep,rfl⟩
    ·intro e_ w_ k_ hf_ hR_
     have S_:St w_ nF w_ [] [bl b5 [vF (.func 56) #[] #[P b4 0,P b5 0]] 95,bl b4 [SL A6 q0.Sections.length c7,SL A9 q0.Turns.length c10,SL A12 q0.Surveys.length c13,I q0.Rule,I q0.Days] 63,rd intE 1 A1 c2 a0,rd eChainSection 4 A6 c7 q0.Sections,rd intE 1 A9 c10 q0.Turns,rd eChainSurvey 4 A12 c13 q0.Surveys,gW2]:=S37.asP k_
     obtain ⟨_,_,_,_,⟨A67,c68⟩,q80,p81,a82⟩:=hR_ 9 51 rfl (lE rfl) rfl
     replace q80:e_ 51=TU [SL A67 r63.1.length c68,B r63.2]:=q80
     have S_:=St.addL' S_ (a82 _ (.head _)) (fun _ _ _ h_=>(nE h_))
     obtain ⟨_,_,_,_,q79⟩:=hR_ 10 41 rfl (lE rfl) rfl
     replace q79:e_ 41=TU [SL A67 r63.1.length c68,B r63.2]:=(sJ ((congrArg some q80).symm.trans q79)).symm
     refine hopE [(41,TU [SL A67 r63.1.length c68,B r63.2])] ⟨q79,trivial⟩ ?_
     refine p_ext rfl rfl<|wp_nil ?_
     exact ⟨_,rfl,S_.keep,rfl⟩
    ·intro e_ w_ k_ hf_ hR_
     have S_:St w_ nF w_ [] [bl b5 [vF (.func 56) #[] #[P b4 0,P b5 0]] 95,bl b4 [SL A6 q0.Sections.length c7,SL A9 q0.Turns.length c10,SL A12 q0.Surveys.length c13,I q0.Rule,I q0.Days] 63,rd intE 1 A1 c2 a0,rd eChainSection 4 A6 c7 q0.Sections,rd intE 1 A9 c10 q0.Turns,rd eChainSurvey 4 A12 c13 q0.Surveys,gW2]:=S37.asP k_
     obtain ⟨_,_,_,_,⟨A67,c68⟩,q85,p86,a87⟩:=hR_ 9 51 rfl (lE rfl) rfl
     replace q85:e_ 51=TU [SL A67 r63.1.length c68,B r63.2]:=q85
     have S_:=St.addL' S_ (a87 _ (.head _)) (fun _ _ _ h_=>(nE h_))
     obtain ⟨_,_,_,_,q84⟩:=hR_ 10 41 rfl (lE rfl) rfl
     replace q84:e_ 41=TU [SL A67 r63.1.length c68,B r63.2]:=(sJ ((congrArg some q85).symm.trans q84)).symm
     obtain ⟨_,_,_,_,q83⟩:=hR_ 11 52 rfl (lE rfl) rfl
     replace q83:e_ 52=SL A67 r63.1.length c68:=(sJ ((congrArg (exG 0) q84).symm.trans q83)).symm
     refine hopE [(52,SL A67 r63.1.length c68)] ⟨q83,trivial⟩ ?_
     refine p_aS rfl<|wp_nil ?_
     exact ⟨_,rfl,S_.keep,rfl⟩
    ·intro e_ w_ k_ hf_ hR_
     have S_:St w_ nF w_ [] [bl b5 [vF (.func 56) #[] #[P b4 0,P b5 0]] 95,bl b4 [SL A6 q0.Sections.length c7,SL A9 q0.Turns.length c10,SL A12 q0.Surveys.length c13,I q0.Rule,I q0.Days] 63,rd intE 1 A1 c2 a0,rd eChainSection 4 A6 c7 q0.Sections,rd intE 1 A9 c10 q0.Turns,rd eChainSurvey 4 A12 c13 q0.Surveys,gW2]:=S37.asP k_
     obtain ⟨_,_,_,_,⟨A67,c68⟩,q90,p91,a92⟩:=hR_ 9 51 rfl (lE rfl) rfl
     replace q90:e_ 51=TU [SL A67 r63.1.length c68,B r63.2]:=q90
     have S_:=St.addL' S_ (a92 _ (.head _)) (fun _ _ _ h_=>(nE h_))
     obtain ⟨_,_,_,_,q89⟩:=hR_ 10 41 rfl (lE rfl) rfl
     replace q89:e_ 41=TU [SL A67 r63.1.length c68,B r63.2]:=(sJ ((congrArg some q90).symm.trans q89)).symm
     obtain ⟨_,_,_,_,q88⟩:=hR_ 12 53 rfl (lE rfl) rfl
     replace q88:e_ 53=B r63.2:=(sJ ((congrArg (exG 1) q89).symm.trans q88)).symm
     refine hopE [(53,B r63.2)] ⟨q88,trivial⟩ ?_
     refine p_aB rfl<|wp_nil ?_
     exact ⟨_,rfl,S_.keep,rfl⟩
    intro e93 w94 lo95 hi96 k97 hf98 hR99 hd100
    have S101:=S37.call k97
    have q102:e93 42=vF (.func 56) #[] #[P b4 0,P b5 0]:=(hR99 0 42 (lE rfl) rfl).2.2.2
    have q103:e93 43=SL A1 a0.length c2:=(hR99 1 43 (lE rfl) rfl).2.2.2
    have q104:e93 44=I (a0.length:Int):=(hR99 2 44 (lE rfl) rfl).2.2.2
    have q105:e93 45=I (a0.length:Int):=(hR99 3 45 (lE rfl) rfl).2.2.2
    have q106:e93 46=SL A1 a0.length a0.length:=(hR99 4 46 (lE rfl) rfl).2.2.2
    have q107:e93 47=I z_2:=(hR99 5 47 (lE rfl) rfl).2.2.2
    obtain ⟨h109,h110,h111,⟨A43,c44⟩,q108,h112,h113⟩:=hR99 6 48 (lE rfl) rfl
    replace q108:e93 48=SL A43 ([z_2]:List Int).length c44:=q108
    obtain ⟨p114,_⟩:=h112
    obtain ⟨h117,h118,h119,⟨A54,c55⟩,q116,h120,h121⟩:=hR99 7 49 (lE rfl) rfl
    replace q116:e93 49=SL A54 (a0++([z_2]:List Int)).length c55:=q116
    obtain ⟨p122,_⟩:=h120
    have q124:e93 50=I a1:=(hR99 8 50 (lE rfl) rfl).2.2.2
    obtain ⟨h126,h127,h128,⟨A67,c68⟩,q125,h129,h130⟩:=hR99 9 51 (lE rfl) rfl
    replace q125:e93 51=TU [SL A67 r63.1.length c68,B r63.2]:=q125
    obtain ⟨p131,_⟩:=h129
    have q133:Al w36 [rd eChainSection 4 A6 c7 q0.Sections,rd intE 1 A9 c10 q0.Turns,rd eChainSurvey 4 A12 c13 q0.Surveys] (rd intE 1 A67 c68 r63.1):=BtwV.al p131 h126 (fun b_ h_=>by rw [q116] at h_; exact Nat.le_trans h117 ((p122 b_ (vblk_gr h_)).elim (fun q_=>q_.1) (fun ⟨_,hq_,_⟩=>(List.not_mem_nil hq_).elim)))
    have S132:=St.addR S101 (h130 _ (.head _)) (oQ q133 S37 (mG [3,4,5] rfl))
    have q134:e93 41=TU [SL A67 r63.1.length c68,B r63.2]:=(sJ ((congrArg some q125).symm.trans (hR99 10 41 (lE rfl) rfl).2.2.2)).symm
    have q135:e93 52=SL A67 r63.1.length c68:=(sJ ((congrArg (exG 0) q134).symm.trans (hR99 11 52 (lE rfl) rfl).2.2.2)).symm
    have q136:e93 53=B r63.2:=(sJ ((congrArg (exG 1) q134).symm.trans (hR99 12 53 (lE rfl) rfl).2.2.2)).symm
    have q137:e93 11=SL A67 r63.1.length c68:=(sJ ((congrArg some q135).symm.trans (hR99 13 11 (lE rfl) rfl).2.2.2)).symm
    have q138:e93 12=B r63.2:=(hR99 14 12 (lE rfl) rfl).2.2.2
    refine tailE [(0,SL A1 a0.length c2),(1,I a1),(2,P b4 0),(3,P b5 0),(8,I (a0.length:Int)),(10,I z_2),(11,SL A67 r63.1.length c68),(12,B r63.2)] ⟨((hf98 0 rfl).trans (rfl:_=SL A1 a0.length c2)),((hf98 1 rfl).trans (rfl:_=I a1)),((hf98 2 rfl).trans (rfl:_=P b4 0)),((hf98 3 rfl).trans (rfl:_=P b5 0)),((hf98 8 rfl).trans (rfl:_=I (a0.length:Int))),((hf98 10 rfl).trans (rfl:_=I z_2)),q137,q138,trivial⟩ ?_
    intro g139
    refine wp_nil<|c_seq<|reg<|p_mB rfl<|wp_nil ?_
    refine c_cond rfl (fun c140=>?_) (fun c140=>?_)
    ·replace H:=condT c140 H
     refine c_seq<|reg<|p_mS rfl<|p_aS rfl<|p_aB rfl<|wp_nil ?_
     obtain rfl:=sJ H
     refine c_ret ?_; show bodyPostM (Fr none) 0 Tryd.prog Tryd.f56 _ .ret _ _
     refine ret_of (res2 rfl (rvT (rfl:_=SL A67 r63.1.length c68)) (rvT (rfl:_=B true))) ?_
     exact ⟨_,rfl,A67,c68,rfl,S132.keep,⟨(S132.atP (i:=0) rfl),(Al.up q133 S37.keep.size (cA (Al.self (i:=1) rfl) (cA (Al.self (i:=2) rfl) (cA (Al.self (i:=3) rfl) nM))))⟩,trivial⟩
    ·replace H:=condF c140 H
     refine c_skip<|reg<|p_mI rfl<|p_add rfl rfl<|p_aI rfl<|wp_nil ?_
     have S141:=S132.pk [] (by decide) [1,2,3,4,5,6,7] rfl rfl
     exact ⟨wr (z_2+1),(),_,rfl,⟨rfl,rfl,rfl,rfl,rfl,rfl,trivial⟩,H,S141⟩
   ·replace H:=condF c38 H
    refine c_exit<|c_seq<|reg<|p_aS rfl<|p_aB rfl<|wp_nil ?_
    obtain rfl:=sJ H
    refine c_ret ?_; show bodyPostM (Fr none) 0 Tryd.prog Tryd.f56 _ .ret _ _
    refine ret_of (res2 rfl (rvT (rfl:_=SL none 0 0)) (rvT (rfl:_=B false))) ?_
    exact ⟨_,rfl,none,0,rfl,S37.keep,⟨rd_nil (Nat.zero_le _),Al.nil⟩,trivial⟩
def chain_Wrong_l2 (a0:ChainBook) (rec_z_1:Int→Option ((List Int)×Int)) (z_1:Int):Option ((List Int)×Int):=
 bif decide (z_1 < (wr ((a0.Surveys.length:Int)+1))) then ((chain_Wrong_1 big ([]:List _) z_1 a0).bind fun r29=>
 bif r29.2 then (some (r29.1,0))
 else (rec_z_1 (wr (z_1+1))))
 else (some (([]:List _),0))
def chain_Wrong (a0:ChainBook):Option ((List Int)×Int):=
 (chain_Check a0).bind fun r14=>
 bif (r14 != 0) then (some (([]:List _),r14))
 else (loopF (chain_Wrong_l2 a0) big 0)
set_option maxRecDepth 100000 in
theorem chain_Wrong_ok {a0:ChainBook}{A1:Option Addr}{c2:Nat}{A4:Option Addr}{c5:Nat}{A7:Option Addr}{c8:Nat}{w:World}{r:(List Int)×Int} (H:chain_Wrong a0=some r) (h3:(rd eChainSection 4 A1 c2 a0.Sections).ok w) (h6:(rd intE 1 A4 c5 a0.Turns).ok w) (h9:(rd eChainSurvey 4 A7 c8 a0.Surveys).ok w) (hg10:(gW2).ok w):Calls Tryd.prog 25 #[AG [SL A1 a0.Sections.length c2,SL A4 a0.Turns.length c5,SL A7 a0.Surveys.length c8,I a0.Rule,I a0.Days]] w fun en w_=>∃ u_,en=.returned u_∧∃ A_1:Option Addr,∃ c_2:Nat,u_=TU [SL A_1 r.1.length c_2,I r.2]∧Keep0 w w_∧((rd intE 1 A_1 c_2 r.1).ok w_∧Al w [rd eChainSection 4 A1 c2 a0.Sections,rd intE 1 A4 c5 a0.Turns,rd eChainSurvey 4 A7 c8 a0.Surveys] (rd intE 1 A_1 c_2 r.1))∧True:=by
 unfold chain_Wrong at H
 refine fn_of (n:=36) Tryd.func25 rfl rfl (lE rfl) ?_
 have S:=St.start w nF _ (cA h3 (cA h6 (cA h9 (cA hg10 nM))))
 refine c_seq<|reg<|p_boxA rfl S fun b11 w12 S13=>p_aS rfl<|p_aI rfl<|wp_nil<|c_seq<|c_seq<|reg<|p_ldA ty63 sz63 (S13.atX (i:=0) rfl) rfl rfl ?_
 obtain ⟨r14,h15,H⟩:=bindS H
 refine p_cv (chain_Check_ok h15 (S13.atP (i:=0) rfl) (S13.atP (i:=1) rfl) (S13.atP (i:=2) rfl)) fu23 rfl S13 fun w16 S17=>p_aI rfl<|wp_nil<|c_seq<|reg<|p_mI rfl<|p_cmp rfl rfl rfl<|wp_nil ?_
 refine c_cond rfl (fun c18=>?_) (fun c18=>?_)
 ·replace H:=condT c18 H
  refine c_seq<|reg<|p_mI rfl<|p_aS rfl<|p_aI rfl<|wp_nil ?_
  obtain rfl:=sJ H
  refine c_ret ?_; show bodyPostM (Fr none) 0 Tryd.prog Tryd.f25 _ .ret _ _
  refine ret_of (res2 rfl (rvT (rfl:_=SL none 0 0)) (rvT (rfl:_=I r14))) ?_
  exact ⟨_,rfl,none,0,rfl,S17.keep,⟨rd_nil (Nat.zero_le _),Al.nil⟩,trivial⟩
 ·replace H:=condF c18 H
  refine c_skip<|c_seq<|reg<|p_all in95 rfl S17 fun b19 w20 S21=>wp_nil<|c_seq<|reg ?_
  refine o_fun (rfl:_=[]) (rfl:_=[P b11 0,P b19 0]) ?_
  refine p_st sz95 S21 (i:=0) rfl rfl (rfl:_=vF (.func 56) #[] #[P b11 0,P b19 0]) rfl rfl fun w22 S23=>wp_nil<|c_seq<|c_seq<|reg<|p_fld fl63_2 rfl<|p_ld ty61 (S23.atX (i:=1) rfl) rfl rfl<|p_len rfl sc61<|p_add rfl rfl<|p_mI rfl<|wp_nil<|c_block ?_
  refine c_lop (α:=Int) (β:=Unit) (chain_Wrong_l2 a0) (fun z_1 y_1=>[(5,P b19 0),(18,I (wr ((a0.Surveys.length:Int)+1))),(19,I z_1)]) (fun z_1 y_1 w_=>St w nF w_ [bl b19 [vF (.func 56) #[] #[P b11 0,P b19 0]] 95,bl b11 [SL A1 a0.Sections.length c2,SL A4 a0.Turns.length c5,SL A7 a0.Surveys.length c8,I a0.Rule,I a0.Days] 63] [rd eChainSection 4 A1 c2 a0.Sections,rd intE 1 A4 c5 a0.Turns,rd eChainSurvey 4 A7 c8 a0.Surveys,gW2]) 0 () H ⟨rfl,rfl,rfl,trivial⟩ S23 ?_
  intro m24 z_1 y_1 e25 w26 H S27
  unfold chain_Wrong_l2 at H
  refine c_seq<|reg<|p_cmp rfl rfl rfl<|wp_nil<|c_seq ?_
  refine c_cond rfl (fun c28=>?_) (fun c28=>?_)
  ·replace H:=condT c28 H
   refine c_skip<|c_seq<|c_block<|c_seq<|reg<|p_mI rfl<|p_aI rfl<|wp_nil<|c_seq<|reg<|p_ld ty95 (S27.atX (i:=0) rfl) rfl rfl<|p_mI rfl ?_
   obtain ⟨r29,h30,H⟩:=bindS H
   refine p_cal (chain_Wrong_1_ok h30 (S27.atX (i:=0) rfl) (S27.atX (i:=1) rfl) (rd_nil (Nat.zero_le _)) (S27.atP (i:=0) rfl) (S27.atP (i:=1) rfl) (S27.atP (i:=2) rfl) (S27.atP (i:=3) rfl)) fu56 rfl ?_
   rintro _ w31 ⟨A33,c34,rfl,k32,⟨o35,n36⟩,_⟩
   have S37:=S27.callN k32 [rd intE 1 A33 c34 r29.1] (cA ⟨o35,Al.inL n36 ((cA fp_nil (cA (fp_mem (i:=0) rfl) (cA (fp_mem (i:=1) rfl) (cA (fp_mem (i:=2) rfl) nM)))))⟩ nM)
   refine p_mT rfl<|p_ext rfl rfl<|p_ext rfl rfl<|p_aS rfl<|p_aB rfl<|wp_nil<|c_seq<|reg<|p_mB rfl<|wp_nil ?_
   refine c_cond rfl (fun c38=>?_) (fun c38=>?_)
   ·replace H:=condT c38 H
    refine c_seq<|reg<|p_mS rfl<|p_mS rfl<|p_len rfl sc42<|p_mS rfl<|p_len rfl sc42<|p_cut3 sc42 (S37.atP (i:=0) rfl) rfl rfl rfl<|p_aS rfl<|p_aI rfl<|wp_nil ?_
    obtain rfl:=sJ H
    refine c_ret ?_; show bodyPostM (Fr none) 0 Tryd.prog Tryd.f25 _ .ret _ _
    refine ret_of (res2 rfl (rvT (rfl:_=SL A33 r29.1.length r29.1.length)) (rvT (rfl:_=I 0))) ?_
    exact ⟨_,rfl,A33,r29.1.length,rfl,S37.keep,⟨(rd_full (S37.atP (i:=0) rfl)),Al.rdr (Al.up n36 S27.keep.size (cA Al.nil (cA (Al.self (i:=0) rfl) (cA (Al.self (i:=1) rfl) (cA (Al.self (i:=2) rfl) nM)))))⟩,trivial⟩
   ·replace H:=condF c38 H
    refine c_skip<|reg<|p_add rfl rfl<|p_mI rfl<|wp_nil ?_
    have S39:=S37.pk [0,1] (by decide) [1,2,3,4] rfl rfl
    exact ⟨wr (z_1+1),(),_,rfl,⟨rfl,rfl,rfl,trivial⟩,H,S39⟩
  ·replace H:=condF c28 H
   refine c_exit<|c_seq<|reg<|p_aS rfl<|p_aI rfl<|wp_nil ?_
   obtain rfl:=sJ H
   refine c_ret ?_; show bodyPostM (Fr none) 0 Tryd.prog Tryd.f25 _ .ret _ _
   refine ret_of (res2 rfl (rvT (rfl:_=SL none 0 0)) (rvT (rfl:_=I 0))) ?_
   exact ⟨_,rfl,none,0,rfl,S27.keep,⟨rd_nil (Nat.zero_le _),Al.nil⟩,trivial⟩
def chain_Thick_j1 (a1:Int) (a2:Int) (a0:ChainBook) (z_1:(List ChainSection)×(List Int)×(List ChainSurvey)×Int×Int×(List (Chain_spot×Span))×(List Chain_truth)×Int):Option (Span×Int):=
 bif (z_1.2.2.2.2.2.2.2 != 0) then (some ((Span.mk 0 0),z_1.2.2.2.2.2.2.2))
 else ((chain_book_thick (Chain_book.mk (ChainBook.mk z_1.1 z_1.2.1 z_1.2.2.1 z_1.2.2.2.1 z_1.2.2.2.2.1) z_1.2.2.2.2.2.1 z_1.2.2.2.2.2.2.1) a1 a2 a0.Turns).bind fun r23=>
 some (r23,0))
def chain_Thick (a0:ChainBook) (a1:Int) (a2:Int):Option (Span×Int):=
 (chain_isSection a0 a1).bind fun r19=>
 bif r19 then ((chain_isDay a0 a2).bind fun r30=>
 (chain_asked a0 r30).bind fun r38=>
 chain_Thick_j1 a1 a2 a0 (r38.1.ChainBook.Sections,r38.1.ChainBook.Turns,r38.1.ChainBook.Surveys,r38.1.ChainBook.Rule,r38.1.ChainBook.Days,r38.1.read_,r38.1.truths_,r38.2))
 else ((chain_asked a0 false).bind fun r182=>
 chain_Thick_j1 a1 a2 a0 (r182.1.ChainBook.Sections,r182.1.ChainBook.Turns,r182.1.ChainBook.Surveys,r182.1.ChainBook.Rule,r182.1.ChainBook.Days,r182.1.read_,r182.1.truths_,r182.2))
end Go.Proofs.YtblfippmobpaaaaDoor
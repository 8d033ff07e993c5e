/- What the functions of the program compute, and that they do, printed by a program of mine. -/
import Derived.Test.YtblfippmobpaaaaDoorZWC
import Derived.KernelRfl
import Derived.Test.YtblfippmobpaaaaDoorZGFxCopy
import Derived.OpenShut
import Derived.RowKit
import Derived.WideKeyArgs
import Derived.ChangeOld
import Derived.LaidMore
import Derived.LaidLaws
import Derived.Deep.DeepHandedRow
import Derived.ProofKit
import Derived.Test.YtblfippmobpaaaaDoorCards
import Derived.Test.YtblfippmobpaaaaDoorTie
set_option linter.unusedVariables false
set_option linter.unusedSimpArgs false
namespace Go.Proofs.YtblfippmobpaaaaDoor
open Go Go.Fx Go.Proofs
set_option maxRecDepth 100000 in
theorem law_burned06_ok {w:World}{r:Bool} (H:law_burned06=some r) (hg1:(gW0).ok w) (hg2:(gW1).ok w) (hg3:(gW2).ok w) (hg4:(gW3).ok w) (hg5:(gW4).ok w):Calls Tryd.prog 6 #[] w (RetV w (B r)):=by
 unfold law_burned06 at H
 refine fn_of (n:=86) Tryd.func6 rfl rfl (lE rfl) ?_
 have S:=St.start w nF _ (cA hg1 (cA hg2 (cA hg3 (cA hg4 (cA hg5 nM)))))
 refine c_seq<|reg<|p_aB rfl<|wp_nil<|c_seq<|reg<|p_bld (cs:=[I 1,I 27,I 0]) st75 (rfl:_=[(0,I 1),(1,I 27)]) (by kernel_rfl)<|p_bld (cs:=[I 2,I 25,I 1]) st75 (rfl:_=[(0,I 2),(1,I 25),(2,I 1)]) (by kernel_rfl) ?_
 refine p_bsl (enc:=eCoalDip) (l:=[(CoalDip.mk 1 27 0),(CoalDip.mk 2 25 1)]) (fun x=>AG (eCoalDip x)) (fun _=>rfl) sc27 in75 eCoalDip_len rfl (by decide) (by decide) zr75_2 S rfl fun A6 c7 w8 S9=>?_
 obtain ⟨r11,h12,H⟩:=bindS H
 refine p_cal (law_grate06_ok h12 (gr_rd eCoalDip_len (S9.atX (i:=0) rfl))) fu33 rfl ?_
 rintro _ w13 ⟨A15,c16,rfl,k14,⟨o17,n18⟩,_⟩
 have S20:=S9.addNew k14 o17 n18
 refine p_allA in29 S20 fun b21 w22 S23=>?_
 refine p_stP (pre:=[]) (old:=[I 0,I 0]++(sgE eSpan (List.replicate 2 (Span.mk 0 0)) 2++(sg (List.replicate 3 0) 3++[SL none 0 0,I 0,I 0,I 0,SL none 0 0]))) (post:=[]) (vs:=[I r11.Heap.Low,I r11.Heap.High]++(sgE eSpan r11.Eats 2++(sg r11.Extra 3++[SL A15 r11.Days.length c16,I r11.Collier.Low,I r11.Collier.High,I r11.Brings,SL A6 [(CoalDip.mk 1 27 0),(CoalDip.mk 2 25 1)].length c7]))) sz29 S23 (i:=0) rfl rfl rfl rfl (rfl:_=AG ([I r11.Heap.Low,I r11.Heap.High]++(sgE eSpan r11.Eats 2++(sg r11.Extra 3++[SL A15 r11.Days.length c16,I r11.Collier.Low,I r11.Collier.High,I r11.Brings,SL A6 [(CoalDip.mk 1 27 0),(CoalDip.mk 2 25 1)].length c7])))) rfl rfl rfl rfl fun w24 S25=>?_
 refine wp_nil<|c_seq<|reg<|p_ldA ty29 sz29 (S25.atX (i:=0) rfl) rfl rfl ?_
 obtain ⟨r26,h27,H⟩:=bindS H
 refine p_cv (coal_Heap_ok h27 (gr_rd eCoalDay_len (S25.atX (i:=1) rfl)) (gr_rd eCoalDip_len (S25.atX (i:=2) rfl)) (S25.atP (i:=0) rfl)) fu15 rfl S25 fun w28 S29=>p_mT rfl<|p_ext rfl rfl<|p_ext rfl rfl<|p_allA in23 S29 fun b30 w31 S32=>?_
 refine p_stP (pre:=[]) (old:=[I 0,I 0]) (post:=[]) (vs:=[I r26.1.Low,I r26.1.High]) sz23 S32 (i:=0) rfl rfl rfl rfl (rfl:_=AG [I r26.1.Low,I r26.1.High]) rfl rfl rfl rfl fun w33 S34=>p_aI rfl<|wp_nil<|c_seq<|reg<|p_ldA ty29 sz29 (S34.atX (i:=1) rfl) rfl rfl ?_
 obtain ⟨r35,h36,H⟩:=bindS H
 refine p_cal (law_trips06_ok h36 (gr_rd eCoalDay_len (S34.atX (i:=2) rfl)) (gr_rd eCoalDip_len (S34.atX (i:=3) rfl))) fu8 rfl ?_
 rintro _ w37 ⟨A39,c40,rfl,k38,⟨o41,n42⟩,_⟩
 have S44:=S34.addNew k38 o41 n42
 obtain ⟨r45,h46,H⟩:=bindS H
 refine p_cv (tally_Many_ok h46 (gr_rd eTallyCount_len (S44.atX (i:=0) rfl)) (S44.atP (i:=1) rfl) (S44.atP (i:=3) rfl)) fu16 rfl S44 fun w47 S48=>p_mT rfl<|p_ext rfl rfl<|p_ext rfl rfl<|p_allA in23 S48 fun b49 w50 S51=>?_
 refine p_stP (pre:=[]) (old:=[I 0,I 0]) (post:=[]) (vs:=[I r45.1.Low,I r45.1.High]) sz23 S51 (i:=0) rfl rfl rfl rfl (rfl:_=AG [I r45.1.Low,I r45.1.High]) rfl rfl rfl rfl fun w52 S53=>p_aI rfl<|wp_nil<|c_seq<|reg<|p_ldA ty29 sz29 (S53.atX (i:=3) rfl) rfl rfl ?_
 obtain ⟨r54,h55,H⟩:=bindS H
 refine p_cv (coal_Wind_ok h55 (gr_rd eCoalDay_len (S53.atX (i:=4) rfl)) (gr_rd eCoalDip_len (S53.atX (i:=5) rfl)) (S53.atP (i:=0) rfl)) fu17 rfl S53 fun w56 S57=>p_mT rfl<|p_ext rfl rfl<|p_ext rfl rfl<|p_aI rfl<|p_aI rfl<|wp_nil<|c_seq<|reg ?_
 obtain ⟨r58,h59,H⟩:=bindS H
 refine p_cv (B_Point_ok h59) fu21 rfl S57 fun w60 S61=>?_
 obtain ⟨r62,h63,H⟩:=bindS H
 refine p_cv (B_Point_ok h63) fu21 rfl S61 fun w64 S65=>p_bld (cs:=[I r58.Low,I r58.High,I r62.Low,I r62.High]) st79 (rfl:_=[(0,AG [I r58.Low,I r58.High]),(1,AG [I r62.Low,I r62.High])]) (by kernel_rfl) ?_
 refine p_bsl (enc:=eChainSection) (l:=([(ChainSection.mk r58 r62)]:List ChainSection)) (fun x=>AG (eChainSection x)) (fun _=>rfl) sc60 in79 eChainSection_len rfl (by decide) (by decide) zr79_1 S65 rfl fun A66 c67 w68 S69=>?_
 refine p_bld (cs:=[SL A66 ([(ChainSection.mk r58 r62)]:List ChainSection).length c67,SL none 0 0,SL none 0 0,I 4,I 4]) st63 (rfl:_=[(0,SL A66 ([(ChainSection.mk r58 r62)]:List ChainSection).length c67),(3,I 4),(4,I 4)]) (by kernel_rfl) ?_
 obtain ⟨r71,h72,H⟩:=bindS H
 refine p_cv (chain_Thin_ok h72 (gr_rd eChainSection_len (S69.atX (i:=0) rfl)) (rd_nil (Nat.zero_le _)) (rd_nil (Nat.zero_le _)) (S69.atP (i:=2) rfl) (S69.atP (i:=4) rfl)) fu34 rfl S69 fun w73 S74=>p_mT rfl<|p_ext rfl rfl<|p_ext rfl rfl<|p_aI rfl<|p_aI rfl<|wp_nil<|c_seq<|reg<|p_ldA ty29 sz29 (S74.atX (i:=4) rfl) rfl rfl ?_
 obtain ⟨r75,h76,H⟩:=bindS H
 refine p_cal (law_trips06_ok h76 (gr_rd eCoalDay_len (S74.atX (i:=5) rfl)) (gr_rd eCoalDip_len (S74.atX (i:=6) rfl))) fu8 rfl ?_
 rintro _ w77 ⟨A79,c80,rfl,k78,⟨o81,n82⟩,_⟩
 have S84:=S74.addNew k78 o81 n82
 obtain ⟨r85,h86,H⟩:=bindS H
 refine p_cv (tally_Right_ok h86 (gr_rd eTallyCount_len (S84.atX (i:=0) rfl)) (S84.atP (i:=1) rfl) (S84.atP (i:=3) rfl)) fu11 rfl S84 fun w87 S88=>p_mT rfl<|p_ext rfl rfl<|p_ext rfl rfl<|p_aB rfl<|p_aI rfl<|wp_nil<|c_seq ?_
 rcases bE ((r26.2==0)) with c89 | c89
 ·replace H:=condT c89 H
  rcases bE ((r45.2==0)) with c90 | c90
  ·replace H:=condT c90 H
   rcases bE ((r54.2==0)) with c91 | c91
   ·replace H:=condT c91 H
    rcases bE ((r71.2==0)) with c92 | c92
    ·replace H:=condT c92 H
     rcases bE ((r85.2==0)) with c93 | c93
     ·replace H:=condT c93 H
      obtain ⟨r94,h95,H⟩:=bindS H
      rcases bE (((r26.1.Low==r94.Low)&&(r26.1.High==r94.High))) with c96 | c96
      ·replace H:=condT c96 H
       obtain ⟨r97,h98,H⟩:=bindS H
       rcases bE (((r45.1.Low==r97.Low)&&(r45.1.High==r97.High))) with c99 | c99
       ·replace H:=condT c99 H
        rcases bE ((r54.1==6)) with c100 | c100
        ·replace H:=condT c100 H
         rcases bE ((r71.1==3)) with c101 | c101
         ·replace H:=condT c101 H
          refine reg_q mixed 40 (by kernel_rfl) ?_
          refine dS (fun _ k_=>p_mI rfl dn)<|dS (fun _ k_=>p_cmp rfl rfl rfl dn)<|dS (fun _ k_=>p_mB rfl dn)<|dB c89<|dS (fun _ k_=>gT rfl rfl (p_mI rfl dn))<|dS (fun _ k_=>gT rfl rfl (p_cmp rfl rfl rfl dn))<|dS (fun _ k_=>p_pkT rfl (rfl:_=B (r45.2==0)) dn)<|dS (fun _ k_=>p_mB rfl dn)<|dB c90<|dS (fun _ k_=>gT rfl rfl (p_mI rfl dn))<|dS (fun _ k_=>gT rfl rfl (p_cmp rfl rfl rfl dn)) ?_
          refine dS (fun _ k_=>p_pkT rfl (rfl:_=B (r54.2==0)) dn)<|dS (fun _ k_=>p_mB rfl dn)<|dB c91<|dS (fun _ k_=>gT rfl rfl (p_mI rfl dn))<|dS (fun _ k_=>gT rfl rfl (p_cmp rfl rfl rfl dn))<|dS (fun _ k_=>p_pkT rfl (rfl:_=B (r71.2==0)) dn)<|dS (fun _ k_=>p_mB rfl dn)<|dB c92<|dS (fun _ k_=>gT rfl rfl (p_mI rfl dn))<|dS (fun _ k_=>gT rfl rfl (p_cmp rfl rfl rfl dn)) ?_
          refine dS (fun _ k_=>p_pkT rfl (rfl:_=B (r85.2==0)) dn)<|dS (fun _ k_=>p_mB rfl dn)<|dB c93<|dS (fun _ k_=>gT rfl rfl (p_ldA ty23 sz23 (aS (S88.atX (i:=4) rfl) k_) rfl rfl dn))<|dS (fun _ k_=>gT rfl rfl (p_cvD (B_Range_ok h95) fu18 rfl)) ?_
          refine dS (fun _ k_=>gT rfl rfl (o_eqA (xs:=[I r26.1.Low,I r26.1.High]) (ys:=[I r94.Low,I r94.High]) (T:=((r26.1.Low==r94.Low)&&(r26.1.High==r94.High))) rfl rfl eq23 ⟨⟨_,rfl⟩,⟨⟨_,rfl⟩,trivial⟩⟩ ⟨⟨_,rfl⟩,⟨⟨_,rfl⟩,trivial⟩⟩ (by simp [Bool.and_eq_true,and_assoc]) dn))<|dS (fun _ k_=>p_pkT rfl (rfl:_=B ((r26.1.Low==r94.Low)&&(r26.1.High==r94.High))) dn) ?_
          refine dS (fun _ k_=>p_mB rfl dn)<|dB c96<|dS (fun _ k_=>gT rfl rfl (p_ldA ty23 sz23 (aS (S88.atX (i:=2) rfl) k_) rfl rfl dn))<|dS (fun _ k_=>gT rfl rfl (p_cvD (B_Range_ok h98) fu18 rfl)) ?_
          refine dS (fun _ k_=>gT rfl rfl (o_eqA (xs:=[I r45.1.Low,I r45.1.High]) (ys:=[I r97.Low,I r97.High]) (T:=((r45.1.Low==r97.Low)&&(r45.1.High==r97.High))) rfl rfl eq23 ⟨⟨_,rfl⟩,⟨⟨_,rfl⟩,trivial⟩⟩ ⟨⟨_,rfl⟩,⟨⟨_,rfl⟩,trivial⟩⟩ (by simp [Bool.and_eq_true,and_assoc]) dn))<|dS (fun _ k_=>p_pkT rfl (rfl:_=B ((r45.1.Low==r97.Low)&&(r45.1.High==r97.High))) dn) ?_
          refine dS (fun _ k_=>p_mB rfl dn)<|dB c99<|dS (fun _ k_=>gT rfl rfl (p_mI rfl dn))<|dS (fun _ k_=>gT rfl rfl (p_cmp rfl rfl rfl dn))<|dS (fun _ k_=>p_pkT rfl (rfl:_=B (r54.1==6)) dn)<|dS (fun _ k_=>p_mB rfl dn)<|dB c100<|dS (fun _ k_=>gT rfl rfl (p_mI rfl dn))<|dS (fun _ k_=>gT rfl rfl (p_cmp rfl rfl rfl dn))<|dS (fun _ k_=>p_pkT rfl (rfl:_=B (r71.1==3)) dn)<|dS (fun _ k_=>p_mB rfl dn)<|dB c101 ?_
          refine dS (fun _ k_=>gT rfl rfl (p_mB rfl dn))<|dS (fun _ k_=>p_pkT rfl (rfl:_=B r85.1) dn)<|dS (fun _ k_=>p_aB rfl dn) ?_
          intro w102 k103; have S104:=S88.call k103
          refine wp_nil ?_
          obtain rfl:=sJ H
          exact c_ret (rT Tryd.f6 S104.keep rfl rfl)
         ·replace H:=condF c101 H
          refine reg_q mixed 40 (by kernel_rfl) ?_
          refine dS (fun _ k_=>p_mI rfl dn)<|dS (fun _ k_=>p_cmp rfl rfl rfl dn)<|dS (fun _ k_=>p_mB rfl dn)<|dB c89<|dS (fun _ k_=>gT rfl rfl (p_mI rfl dn))<|dS (fun _ k_=>gT rfl rfl (p_cmp rfl rfl rfl dn))<|dS (fun _ k_=>p_pkT rfl (rfl:_=B (r45.2==0)) dn)<|dS (fun _ k_=>p_mB rfl dn)<|dB c90<|dS (fun _ k_=>gT rfl rfl (p_mI rfl dn))<|dS (fun _ k_=>gT rfl rfl (p_cmp rfl rfl rfl dn)) ?_
          refine dS (fun _ k_=>p_pkT rfl (rfl:_=B (r54.2==0)) dn)<|dS (fun _ k_=>p_mB rfl dn)<|dB c91<|dS (fun _ k_=>gT rfl rfl (p_mI rfl dn))<|dS (fun _ k_=>gT rfl rfl (p_cmp rfl rfl rfl dn))<|dS (fun _ k_=>p_pkT rfl (rfl:_=B (r71.2==0)) dn)<|dS (fun _ k_=>p_mB rfl dn)<|dB c92<|dS (fun _ k_=>gT rfl rfl (p_mI rfl dn))<|dS (fun _ k_=>gT rfl rfl (p_cmp rfl rfl rfl dn)) ?_
          refine dS (fun _ k_=>p_pkT rfl (rfl:_=B (r85.2==0)) dn)<|dS (fun _ k_=>p_mB rfl dn)<|dB c93<|dS (fun _ k_=>gT rfl rfl (p_ldA ty23 sz23 (aS (S88.atX (i:=4) rfl) k_) rfl rfl dn))<|dS (fun _ k_=>gT rfl rfl (p_cvD (B_Range_ok h95) fu18 rfl)) ?_
          refine dS (fun _ k_=>gT rfl rfl (o_eqA (xs:=[I r26.1.Low,I r26.1.High]) (ys:=[I r94.Low,I r94.High]) (T:=((r26.1.Low==r94.Low)&&(r26.1.High==r94.High))) rfl rfl eq23 ⟨⟨_,rfl⟩,⟨⟨_,rfl⟩,trivial⟩⟩ ⟨⟨_,rfl⟩,⟨⟨_,rfl⟩,trivial⟩⟩ (by simp [Bool.and_eq_true,and_assoc]) dn))<|dS (fun _ k_=>p_pkT rfl (rfl:_=B ((r26.1.Low==r94.Low)&&(r26.1.High==r94.High))) dn) ?_
          refine dS (fun _ k_=>p_mB rfl dn)<|dB c96<|dS (fun _ k_=>gT rfl rfl (p_ldA ty23 sz23 (aS (S88.atX (i:=2) rfl) k_) rfl rfl dn))<|dS (fun _ k_=>gT rfl rfl (p_cvD (B_Range_ok h98) fu18 rfl)) ?_
          refine dS (fun _ k_=>gT rfl rfl (o_eqA (xs:=[I r45.1.Low,I r45.1.High]) (ys:=[I r97.Low,I r97.High]) (T:=((r45.1.Low==r97.Low)&&(r45.1.High==r97.High))) rfl rfl eq23 ⟨⟨_,rfl⟩,⟨⟨_,rfl⟩,trivial⟩⟩ ⟨⟨_,rfl⟩,⟨⟨_,rfl⟩,trivial⟩⟩ (by simp [Bool.and_eq_true,and_assoc]) dn))<|dS (fun _ k_=>p_pkT rfl (rfl:_=B ((r45.1.Low==r97.Low)&&(r45.1.High==r97.High))) dn) ?_
          refine dS (fun _ k_=>p_mB rfl dn)<|dB c99<|dS (fun _ k_=>gT rfl rfl (p_mI rfl dn))<|dS (fun _ k_=>gT rfl rfl (p_cmp rfl rfl rfl dn))<|dS (fun _ k_=>p_pkT rfl (rfl:_=B (r54.1==6)) dn)<|dS (fun _ k_=>p_mB rfl dn)<|dB c100<|dS (fun _ k_=>gT rfl rfl (p_mI rfl dn))<|dS (fun _ k_=>gT rfl rfl (p_cmp rfl rfl rfl dn))<|dS (fun _ k_=>p_pkT rfl (rfl:_=B (r71.1==3)) dn)<|dS (fun _ k_=>p_mB rfl dn)<|dB c101 ?_
          refine dF rfl rfl<|dS (fun _ k_=>p_pkF rfl (rfl:_=B false) dn)<|dS (fun _ k_=>p_aB rfl dn) ?_
          intro w105 k106; have S107:=S88.call k106
          refine wp_nil ?_
          obtain rfl:=sJ H
          exact c_ret (rT Tryd.f6 S107.keep rfl rfl)
        ·replace H:=condF c100 H
         refine reg_q mixed 40 (by kernel_rfl) ?_
         refine dS (fun _ k_=>p_mI rfl dn)<|dS (fun _ k_=>p_cmp rfl rfl rfl dn)<|dS (fun _ k_=>p_mB rfl dn)<|dB c89<|dS (fun _ k_=>gT rfl rfl (p_mI rfl dn))<|dS (fun _ k_=>gT rfl rfl (p_cmp rfl rfl rfl dn))<|dS (fun _ k_=>p_pkT rfl (rfl:_=B (r45.2==0)) dn)<|dS (fun _ k_=>p_mB rfl dn)<|dB c90<|dS (fun _ k_=>gT rfl rfl (p_mI rfl dn))<|dS (fun _ k_=>gT rfl rfl (p_cmp rfl rfl rfl dn)) ?_
         refine dS (fun _ k_=>p_pkT rfl (rfl:_=B (r54.2==0)) dn)<|dS (fun _ k_=>p_mB rfl dn)<|dB c91<|dS (fun _ k_=>gT rfl rfl (p_mI rfl dn))<|dS (fun _ k_=>gT rfl rfl (p_cmp rfl rfl rfl dn))<|dS (fun _ k_=>p_pkT rfl (rfl:_=B (r71.2==0)) dn)<|dS (fun _ k_=>p_mB rfl dn)<|dB c92<|dS (fun _ k_=>gT rfl rfl (p_mI rfl dn))<|dS (fun _ k_=>gT rfl rfl (p_cmp rfl rfl rfl dn)) ?_
         refine dS (fun _ k_=>p_pkT rfl (rfl:_=B (r85.2==0)) dn)<|dS (fun _ k_=>p_mB rfl dn)<|dB c93<|dS (fun _ k_=>gT rfl rfl (p_ldA ty23 sz23 (aS (S88.atX (i:=4) rfl) k_) rfl rfl dn))<|dS (fun _ k_=>gT rfl rfl (p_cvD (B_Range_ok h95) fu18 rfl)) ?_
         refine dS (fun _ k_=>gT rfl rfl (o_eqA (xs:=[I r26.1.Low,I r26.1.High]) (ys:=[I r94.Low,I r94.High]) (T:=((r26.1.Low==r94.Low)&&(r26.1.High==r94.High))) rfl rfl eq23 ⟨⟨_,rfl⟩,⟨⟨_,rfl⟩,trivial⟩⟩ ⟨⟨_,rfl⟩,⟨⟨_,rfl⟩,trivial⟩⟩ (by simp [Bool.and_eq_true,and_assoc]) dn))<|dS (fun _ k_=>p_pkT rfl (rfl:_=B ((r26.1.Low==r94.Low)&&(r26.1.High==r94.High))) dn) ?_
         refine dS (fun _ k_=>p_mB rfl dn)<|dB c96<|dS (fun _ k_=>gT rfl rfl (p_ldA ty23 sz23 (aS (S88.atX (i:=2) rfl) k_) rfl rfl dn))<|dS (fun _ k_=>gT rfl rfl (p_cvD (B_Range_ok h98) fu18 rfl)) ?_
         refine dS (fun _ k_=>gT rfl rfl (o_eqA (xs:=[I r45.1.Low,I r45.1.High]) (ys:=[I r97.Low,I r97.High]) (T:=((r45.1.Low==r97.Low)&&(r45.1.High==r97.High))) rfl rfl eq23 ⟨⟨_,rfl⟩,⟨⟨_,rfl⟩,trivial⟩⟩ ⟨⟨_,rfl⟩,⟨⟨_,rfl⟩,trivial⟩⟩ (by simp [Bool.and_eq_true,and_assoc]) dn))<|dS (fun _ k_=>p_pkT rfl (rfl:_=B ((r45.1.Low==r97.Low)&&(r45.1.High==r97.High))) dn) ?_
         refine dS (fun _ k_=>p_mB rfl dn)<|dB c99<|dS (fun _ k_=>gT rfl rfl (p_mI rfl dn))<|dS (fun _ k_=>gT rfl rfl (p_cmp rfl rfl rfl dn))<|dS (fun _ k_=>p_pkT rfl (rfl:_=B (r54.1==6)) dn)<|dS (fun _ k_=>p_mB rfl dn)<|dB c100<|dF rfl rfl<|dF rfl rfl<|dS (fun _ k_=>p_pkF rfl (rfl:_=B false) dn)<|dS (fun _ k_=>p_mB rfl dn)<|dF rfl rfl ?_
         refine dS (fun _ k_=>p_pkF rfl (rfl:_=B false) dn)<|dS (fun _ k_=>p_aB rfl dn) ?_
         intro w108 k109; have S110:=S88.call k109
         refine wp_nil ?_
         obtain rfl:=sJ H
         exact c_ret (rT Tryd.f6 S110.keep rfl rfl)
       ·replace H:=condF c99 H
        refine reg_q mixed 40 (by kernel_rfl) ?_
        refine dS (fun _ k_=>p_mI rfl dn)<|dS (fun _ k_=>p_cmp rfl rfl rfl dn)<|dS (fun _ k_=>p_mB rfl dn)<|dB c89<|dS (fun _ k_=>gT rfl rfl (p_mI rfl dn))<|dS (fun _ k_=>gT rfl rfl (p_cmp rfl rfl rfl dn))<|dS (fun _ k_=>p_pkT rfl (rfl:_=B (r45.2==0)) dn)<|dS (fun _ k_=>p_mB rfl dn)<|dB c90<|dS (fun _ k_=>gT rfl rfl (p_mI rfl dn))<|dS (fun _ k_=>gT rfl rfl (p_cmp rfl rfl rfl dn)) ?_
        refine dS (fun _ k_=>p_pkT rfl (rfl:_=B (r54.2==0)) dn)<|dS (fun _ k_=>p_mB rfl dn)<|dB c91<|dS (fun _ k_=>gT rfl rfl (p_mI rfl dn))<|dS (fun _ k_=>gT rfl rfl (p_cmp rfl rfl rfl dn))<|dS (fun _ k_=>p_pkT rfl (rfl:_=B (r71.2==0)) dn)<|dS (fun _ k_=>p_mB rfl dn)<|dB c92<|dS (fun _ k_=>gT rfl rfl (p_mI rfl dn))<|dS (fun _ k_=>gT rfl rfl (p_cmp rfl rfl rfl dn)) ?_
        refine dS (fun _ k_=>p_pkT rfl (rfl:_=B (r85.2==0)) dn)<|dS (fun _ k_=>p_mB rfl dn)<|dB c93<|dS (fun _ k_=>gT rfl rfl (p_ldA ty23 sz23 (aS (S88.atX (i:=4) rfl) k_) rfl rfl dn))<|dS (fun _ k_=>gT rfl rfl (p_cvD (B_Range_ok h95) fu18 rfl)) ?_
        refine dS (fun _ k_=>gT rfl rfl (o_eqA (xs:=[I r26.1.Low,I r26.1.High]) (ys:=[I r94.Low,I r94.High]) (T:=((r26.1.Low==r94.Low)&&(r26.1.High==r94.High))) rfl rfl eq23 ⟨⟨_,rfl⟩,⟨⟨_,rfl⟩,trivial⟩⟩ ⟨⟨_,rfl⟩,⟨⟨_,rfl⟩,trivial⟩⟩ (by simp [Bool.and_eq_true,and_assoc]) dn))<|dS (fun _ k_=>p_pkT rfl (rfl:_=B ((r26.1.Low==r94.Low)&&(r26.1.High==r94.High))) dn) ?_
        refine dS (fun _ k_=>p_mB rfl dn)<|dB c96<|dS (fun _ k_=>gT rfl rfl (p_ldA ty23 sz23 (aS (S88.atX (i:=2) rfl) k_) rfl rfl dn))<|dS (fun _ k_=>gT rfl rfl (p_cvD (B_Range_ok h98) fu18 rfl)) ?_
        refine dS (fun _ k_=>gT rfl rfl (o_eqA (xs:=[I r45.1.Low,I r45.1.High]) (ys:=[I r97.Low,I r97.High]) (T:=((r45.1.Low==r97.Low)&&(r45.1.High==r97.High))) rfl rfl eq23 ⟨⟨_,rfl⟩,⟨⟨_,rfl⟩,trivial⟩⟩ ⟨⟨_,rfl⟩,⟨⟨_,rfl⟩,trivial⟩⟩ (by simp [Bool.and_eq_true,and_assoc]) dn))<|dS (fun _ k_=>p_pkT rfl (rfl:_=B ((r45.1.Low==r97.Low)&&(r45.1.High==r97.High))) dn) ?_
        refine dS (fun _ k_=>p_mB rfl dn)<|dB c99<|dF rfl rfl<|dF rfl rfl<|dS (fun _ k_=>p_pkF rfl (rfl:_=B false) dn)<|dS (fun _ k_=>p_mB rfl dn)<|dF rfl rfl<|dF rfl rfl<|dS (fun _ k_=>p_pkF rfl (rfl:_=B false) dn)<|dS (fun _ k_=>p_mB rfl dn)<|dF rfl rfl<|dS (fun _ k_=>p_pkF rfl (rfl:_=B false) dn) ?_
        refine dS (fun _ k_=>p_aB rfl dn) ?_
        intro w111 k112; have S113:=S88.call k112
        refine wp_nil ?_
        obtain rfl:=sJ H
        exact c_ret (rT Tryd.f6 S113.keep rfl rfl)
      ·replace H:=condF c96 H
       refine reg_q mixed 40 (by kernel_rfl) ?_
       refine dS (fun _ k_=>p_mI rfl dn)<|dS (fun _ k_=>p_cmp rfl rfl rfl dn)<|dS (fun _ k_=>p_mB rfl dn)<|dB c89<|dS (fun _ k_=>gT rfl rfl (p_mI rfl dn))<|dS (fun _ k_=>gT rfl rfl (p_cmp rfl rfl rfl dn))<|dS (fun _ k_=>p_pkT rfl (rfl:_=B (r45.2==0)) dn)<|dS (fun _ k_=>p_mB rfl dn)<|dB c90<|dS (fun _ k_=>gT rfl rfl (p_mI rfl dn))<|dS (fun _ k_=>gT rfl rfl (p_cmp rfl rfl rfl dn)) ?_
       refine dS (fun _ k_=>p_pkT rfl (rfl:_=B (r54.2==0)) dn)<|dS (fun _ k_=>p_mB rfl dn)<|dB c91<|dS (fun _ k_=>gT rfl rfl (p_mI rfl dn))<|dS (fun _ k_=>gT rfl rfl (p_cmp rfl rfl rfl dn))<|dS (fun _ k_=>p_pkT rfl (rfl:_=B (r71.2==0)) dn)<|dS (fun _ k_=>p_mB rfl dn)<|dB c92<|dS (fun _ k_=>gT rfl rfl (p_mI rfl dn))<|dS (fun _ k_=>gT rfl rfl (p_cmp rfl rfl rfl dn)) ?_
       refine dS (fun _ k_=>p_pkT rfl (rfl:_=B (r85.2==0)) dn)<|dS (fun _ k_=>p_mB rfl dn)<|dB c93<|dS (fun _ k_=>gT rfl rfl (p_ldA ty23 sz23 (aS (S88.atX (i:=4) rfl) k_) rfl rfl dn))<|dS (fun _ k_=>gT rfl rfl (p_cvD (B_Range_ok h95) fu18 rfl)) ?_
       refine dS (fun _ k_=>gT rfl rfl (o_eqA (xs:=[I r26.1.Low,I r26.1.High]) (ys:=[I r94.Low,I r94.High]) (T:=((r26.1.Low==r94.Low)&&(r26.1.High==r94.High))) rfl rfl eq23 ⟨⟨_,rfl⟩,⟨⟨_,rfl⟩,trivial⟩⟩ ⟨⟨_,rfl⟩,⟨⟨_,rfl⟩,trivial⟩⟩ (by simp [Bool.and_eq_true,and_assoc]) dn))<|dS (fun _ k_=>p_pkT rfl (rfl:_=B ((r26.1.Low==r94.Low)&&(r26.1.High==r94.High))) dn) ?_
       refine dS (fun _ k_=>p_mB rfl dn)<|dB c96<|dF rfl rfl<|dF rfl rfl<|dF rfl rfl<|dS (fun _ k_=>p_pkF rfl (rfl:_=B false) dn)<|dS (fun _ k_=>p_mB rfl dn)<|dF rfl rfl<|dF rfl rfl<|dS (fun _ k_=>p_pkF rfl (rfl:_=B false) dn)<|dS (fun _ k_=>p_mB rfl dn)<|dF rfl rfl ?_
       refine dF rfl rfl<|dS (fun _ k_=>p_pkF rfl (rfl:_=B false) dn)<|dS (fun _ k_=>p_mB rfl dn)<|dF rfl rfl<|dS (fun _ k_=>p_pkF rfl (rfl:_=B false) dn)<|dS (fun _ k_=>p_aB rfl dn) ?_
       intro w114 k115; have S116:=S88.call k115
       refine wp_nil ?_
       obtain rfl:=sJ H
       exact c_ret (rT Tryd.f6 S116.keep rfl rfl)
     ·replace H:=condF c93 H
      refine reg_q mixed 40 (by kernel_rfl) ?_
      refine dS (fun _ k_=>p_mI rfl dn)<|dS (fun _ k_=>p_cmp rfl rfl rfl dn)<|dS (fun _ k_=>p_mB rfl dn)<|dB c89<|dS (fun _ k_=>gT rfl rfl (p_mI rfl dn))<|dS (fun _ k_=>gT rfl rfl (p_cmp rfl rfl rfl dn))<|dS (fun _ k_=>p_pkT rfl (rfl:_=B (r45.2==0)) dn)<|dS (fun _ k_=>p_mB rfl dn)<|dB c90<|dS (fun _ k_=>gT rfl rfl (p_mI rfl dn))<|dS (fun _ k_=>gT rfl rfl (p_cmp rfl rfl rfl dn)) ?_
      refine dS (fun _ k_=>p_pkT rfl (rfl:_=B (r54.2==0)) dn)<|dS (fun _ k_=>p_mB rfl dn)<|dB c91<|dS (fun _ k_=>gT rfl rfl (p_mI rfl dn))<|dS (fun _ k_=>gT rfl rfl (p_cmp rfl rfl rfl dn))<|dS (fun _ k_=>p_pkT rfl (rfl:_=B (r71.2==0)) dn)<|dS (fun _ k_=>p_mB rfl dn)<|dB c92<|dS (fun _ k_=>gT rfl rfl (p_mI rfl dn))<|dS (fun _ k_=>gT rfl rfl (p_cmp rfl rfl rfl dn)) ?_
      refine dS (fun _ k_=>p_pkT rfl (rfl:_=B (r85.2==0)) dn)<|dS (fun _ k_=>p_mB rfl dn)<|dB c93<|dF rfl rfl<|dF rfl rfl<|dF rfl rfl<|dS (fun _ k_=>p_pkF rfl (rfl:_=B false) dn)<|dS (fun _ k_=>p_mB rfl dn)<|dF rfl rfl<|dF rfl rfl<|dF rfl rfl ?_
      refine dS (fun _ k_=>p_pkF rfl (rfl:_=B false) dn)<|dS (fun _ k_=>p_mB rfl dn)<|dF rfl rfl<|dF rfl rfl<|dS (fun _ k_=>p_pkF rfl (rfl:_=B false) dn)<|dS (fun _ k_=>p_mB rfl dn)<|dF rfl rfl<|dF rfl rfl<|dS (fun _ k_=>p_pkF rfl (rfl:_=B false) dn)<|dS (fun _ k_=>p_mB rfl dn)<|dF rfl rfl ?_
      refine dS (fun _ k_=>p_pkF rfl (rfl:_=B false) dn)<|dS (fun _ k_=>p_aB rfl dn) ?_
      intro w117 k118; have S119:=S88.call k118
      refine wp_nil ?_
      obtain rfl:=sJ H
      exact c_ret (rT Tryd.f6 S119.keep rfl rfl)
    ·replace H:=condF c92 H
     refine reg_q mixed 40 (by kernel_rfl) ?_
     refine dS (fun _ k_=>p_mI rfl dn)<|dS (fun _ k_=>p_cmp rfl rfl rfl dn)<|dS (fun _ k_=>p_mB rfl dn)<|dB c89<|dS (fun _ k_=>gT rfl rfl (p_mI rfl dn))<|dS (fun _ k_=>gT rfl rfl (p_cmp rfl rfl rfl dn))<|dS (fun _ k_=>p_pkT rfl (rfl:_=B (r45.2==0)) dn)<|dS (fun _ k_=>p_mB rfl dn)<|dB c90<|dS (fun _ k_=>gT rfl rfl (p_mI rfl dn))<|dS (fun _ k_=>gT rfl rfl (p_cmp rfl rfl rfl dn)) ?_
     refine dS (fun _ k_=>p_pkT rfl (rfl:_=B (r54.2==0)) dn)<|dS (fun _ k_=>p_mB rfl dn)<|dB c91<|dS (fun _ k_=>gT rfl rfl (p_mI rfl dn))<|dS (fun _ k_=>gT rfl rfl (p_cmp rfl rfl rfl dn))<|dS (fun _ k_=>p_pkT rfl (rfl:_=B (r71.2==0)) dn)<|dS (fun _ k_=>p_mB rfl dn)<|dB c92<|dF rfl rfl<|dF rfl rfl<|dS (fun _ k_=>p_pkF rfl (rfl:_=B false) dn) ?_
     refine dS (fun _ k_=>p_mB rfl dn)<|dF rfl rfl<|dF rfl rfl<|dF rfl rfl<|dS (fun _ k_=>p_pkF rfl (rfl:_=B false) dn)<|dS (fun _ k_=>p_mB rfl dn)<|dF rfl rfl<|dF rfl rfl<|dF rfl rfl<|dS (fun _ k_=>p_pkF rfl (rfl:_=B false) dn)<|dS (fun _ k_=>p_mB rfl dn)<|dF rfl rfl ?_
     refine dF rfl rfl<|dS (fun _ k_=>p_pkF rfl (rfl:_=B false) dn)<|dS (fun _ k_=>p_mB rfl dn)<|dF rfl rfl<|dF rfl rfl<|dS (fun _ k_=>p_pkF rfl (rfl:_=B false) dn)<|dS (fun _ k_=>p_mB rfl dn)<|dF rfl rfl<|dS (fun _ k_=>p_pkF rfl (rfl:_=B false) dn)<|dS (fun _ k_=>p_aB rfl dn) ?_
     intro w120 k121; have S122:=S88.call k121
     refine wp_nil ?_
     obtain rfl:=sJ H
     exact c_ret (rT Tryd.f6 S122.keep rfl rfl)
   ·replace H:=condF c91 H
    refine reg_q mixed 40 (by kernel_rfl) ?_
    refine dS (fun _ k_=>p_mI rfl dn)<|dS (fun _ k_=>p_cmp rfl rfl rfl dn)<|dS (fun _ k_=>p_mB rfl dn)<|dB c89<|dS (fun _ k_=>gT rfl rfl (p_mI rfl dn))<|dS (fun _ k_=>gT rfl rfl (p_cmp rfl rfl rfl dn))<|dS (fun _ k_=>p_pkT rfl (rfl:_=B (r45.2==0)) dn)<|dS (fun _ k_=>p_mB rfl dn)<|dB c90<|dS (fun _ k_=>gT rfl rfl (p_mI rfl dn))<|dS (fun _ k_=>gT rfl rfl (p_cmp rfl rfl rfl dn)) ?_
    refine dS (fun _ k_=>p_pkT rfl (rfl:_=B (r54.2==0)) dn)<|dS (fun _ k_=>p_mB rfl dn)<|dB c91<|dF rfl rfl<|dF rfl rfl<|dS (fun _ k_=>p_pkF rfl (rfl:_=B false) dn)<|dS (fun _ k_=>p_mB rfl dn)<|dF rfl rfl<|dF rfl rfl<|dS (fun _ k_=>p_pkF rfl (rfl:_=B false) dn)<|dS (fun _ k_=>p_mB rfl dn)<|dF rfl rfl ?_
    refine dF rfl rfl<|dF rfl rfl<|dS (fun _ k_=>p_pkF rfl (rfl:_=B false) dn)<|dS (fun _ k_=>p_mB rfl dn)<|dF rfl rfl<|dF rfl rfl<|dF rfl rfl<|dS (fun _ k_=>p_pkF rfl (rfl:_=B false) dn)<|dS (fun _ k_=>p_mB rfl dn)<|dF rfl rfl<|dF rfl rfl ?_
    refine dS (fun _ k_=>p_pkF rfl (rfl:_=B false) dn)<|dS (fun _ k_=>p_mB rfl dn)<|dF rfl rfl<|dF rfl rfl<|dS (fun _ k_=>p_pkF rfl (rfl:_=B false) dn)<|dS (fun _ k_=>p_mB rfl dn)<|dF rfl rfl<|dS (fun _ k_=>p_pkF rfl (rfl:_=B false) dn)<|dS (fun _ k_=>p_aB rfl dn) ?_
    intro w123 k124; have S125:=S88.call k124
    refine wp_nil ?_
    obtain rfl:=sJ H
    exact c_ret (rT Tryd.f6 S125.keep rfl rfl)
  ·replace H:=condF c90 H
   refine reg_q mixed 40 (by kernel_rfl) ?_
   refine dS (fun _ k_=>p_mI rfl dn)<|dS (fun _ k_=>p_cmp rfl rfl rfl dn)<|dS (fun _ k_=>p_mB rfl dn)<|dB c89<|dS (fun _ k_=>gT rfl rfl (p_mI rfl dn))<|dS (fun _ k_=>gT rfl rfl (p_cmp rfl rfl rfl dn))<|dS (fun _ k_=>p_pkT rfl (rfl:_=B (r45.2==0)) dn)<|dS (fun _ k_=>p_mB rfl dn)<|dB c90<|dF rfl rfl<|dF rfl rfl<|dS (fun _ k_=>p_pkF rfl (rfl:_=B false) dn) ?_
   refine dS (fun _ k_=>p_mB rfl dn)<|dF rfl rfl<|dF rfl rfl<|dS (fun _ k_=>p_pkF rfl (rfl:_=B false) dn)<|dS (fun _ k_=>p_mB rfl dn)<|dF rfl rfl<|dF rfl rfl<|dS (fun _ k_=>p_pkF rfl (rfl:_=B false) dn)<|dS (fun _ k_=>p_mB rfl dn)<|dF rfl rfl<|dF rfl rfl<|dF rfl rfl ?_
   refine dS (fun _ k_=>p_pkF rfl (rfl:_=B false) dn)<|dS (fun _ k_=>p_mB rfl dn)<|dF rfl rfl<|dF rfl rfl<|dF rfl rfl<|dS (fun _ k_=>p_pkF rfl (rfl:_=B false) dn)<|dS (fun _ k_=>p_mB rfl dn)<|dF rfl rfl<|dF rfl rfl<|dS (fun _ k_=>p_pkF rfl (rfl:_=B false) dn)<|dS (fun _ k_=>p_mB rfl dn) ?_
   refine dF rfl rfl<|dF rfl rfl<|dS (fun _ k_=>p_pkF rfl (rfl:_=B false) dn)<|dS (fun _ k_=>p_mB rfl dn)<|dF rfl rfl<|dS (fun _ k_=>p_pkF rfl (rfl:_=B false) dn)<|dS (fun _ k_=>p_aB rfl dn) ?_
   intro w126 k127; have S128:=S88.call k127
   refine wp_nil ?_
   obtain rfl:=sJ H
   exact c_ret (rT Tryd.f6 S128.keep rfl rfl)
 ·replace H:=condF c89 H
  refine reg_q mixed 40 (by kernel_rfl) ?_
  refine dS (fun _ k_=>p_mI rfl dn)<|dS (fun _ k_=>p_cmp rfl rfl rfl dn)<|dS (fun _ k_=>p_mB rfl dn)<|dB c89<|dF rfl rfl<|dF rfl rfl<|dS (fun _ k_=>p_pkF rfl (rfl:_=B false) dn)<|dS (fun _ k_=>p_mB rfl dn)<|dF rfl rfl<|dF rfl rfl<|dS (fun _ k_=>p_pkF rfl (rfl:_=B false) dn)<|dS (fun _ k_=>p_mB rfl dn) ?_
  refine dF rfl rfl<|dF rfl rfl<|dS (fun _ k_=>p_pkF rfl (rfl:_=B false) dn)<|dS (fun _ k_=>p_mB rfl dn)<|dF rfl rfl<|dF rfl rfl<|dS (fun _ k_=>p_pkF rfl (rfl:_=B false) dn)<|dS (fun _ k_=>p_mB rfl dn)<|dF rfl rfl<|dF rfl rfl<|dF rfl rfl ?_
  refine dS (fun _ k_=>p_pkF rfl (rfl:_=B false) dn)<|dS (fun _ k_=>p_mB rfl dn)<|dF rfl rfl<|dF rfl rfl<|dF rfl rfl<|dS (fun _ k_=>p_pkF rfl (rfl:_=B false) dn)<|dS (fun _ k_=>p_mB rfl dn)<|dF rfl rfl<|dF rfl rfl<|dS (fun _ k_=>p_pkF rfl (rfl:_=B false) dn)<|dS (fun _ k_=>p_mB rfl dn) ?_
  refine dF rfl rfl<|dF rfl rfl<|dS (fun _ k_=>p_pkF rfl (rfl:_=B false) dn)<|dS (fun _ k_=>p_mB rfl dn)<|dF rfl rfl<|dS (fun _ k_=>p_pkF rfl (rfl:_=B false) dn)<|dS (fun _ k_=>p_aB rfl dn) ?_
  intro w129 k130; have S131:=S88.call k130
  refine wp_nil ?_
  obtain rfl:=sJ H
  exact c_ret (rT Tryd.f6 S131.keep rfl rfl)
def law_plain06_l4 (a0:CoalBook) (r28:Span) (r13:CoalBook) (z_1:Int×(List CoalDay)) (r58:Span) (rec_z_2:(Int×(List CoalDip))→Option CoalBook) (z_2:Int×(List CoalDip)):Option CoalBook:=
 bif decide (z_2.1 < (a0.Dips.length:Int)) then ((getI a0.Dips z_2.1).bind fun r70=>
 (B_Inside (wr (r28.Low - r70.Read)) 0 99).bind fun r77=>
 bif r77 then (need (fitsL (z_2.2.length+([r70]:List CoalDip).length) 24)<|
 rec_z_2 (wr (z_2.1+1),z_2.2++([r70]:List CoalDip)))
 else (rec_z_2 (wr (z_2.1+1),z_2.2)))
 else (some (CoalBook.mk r28 r13.Eats r13.Extra z_1.2 r58 r13.Brings z_2.2))
def law_plain06_l5 (a0:CoalBook) (r28:Span) (r13:CoalBook) (rec_z_1:(Int×(List CoalDay))→Option CoalBook) (z_1:Int×(List CoalDay)):Option CoalBook:=
 bif decide (z_1.1 < (a0.Days.length:Int)) then (need (fitsL (z_1.2.length+([(CoalDay.mk 1 2 7)]:List CoalDay).length) 24)<|
 rec_z_1 (wr (z_1.1+1),z_1.2++([(CoalDay.mk 1 2 7)]:List CoalDay)))
 else ((B_Point (a0.Days.length:Int)).bind fun r58=>
 loopF (law_plain06_l4 a0 r28 r13 z_1 r58) big (0,([]:List CoalDip)))
def law_plain06 (a0:CoalBook):Option CoalBook:=
 (law_grate06 ([]:List _)).bind fun r13=>
 (B_Point a0.Heap.Low).bind fun r28=>
 loopF (law_plain06_l5 a0 r28 r13) big (0,([]:List CoalDay))
set_option maxRecDepth 100000 in
theorem law_plain06_ok {a0:CoalBook}{A1:Option Addr}{c2:Nat}{A4:Option Addr}{c5:Nat}{w:World}{r:CoalBook} (H:law_plain06 a0=some r) (h3:(rd eCoalDay 3 A1 c2 a0.Days).ok w) (h6:(rd eCoalDip 3 A4 c5 a0.Dips).ok w):Calls Tryd.prog 7 #[AG ([I a0.Heap.Low,I a0.Heap.High]++(sgE eSpan a0.Eats 2++(sg a0.Extra 3++[SL A1 a0.Days.length c2,I a0.Collier.Low,I a0.Collier.High,I a0.Brings,SL A4 a0.Dips.length c5])))] w fun en w_=>∃ u_,en=.returned u_∧∃ A_1:Option Addr,∃ c_2:Nat,∃ A_3:Option Addr,∃ c_4:Nat,u_=AG ([I r.Heap.Low,I r.Heap.High]++(sgE eSpan r.Eats 2++(sg r.Extra 3++[SL A_1 r.Days.length c_2,I r.Collier.Low,I r.Collier.High,I r.Brings,SL A_3 r.Dips.length c_4])))∧Keep0 w w_∧((rd eCoalDay 3 A_1 c_2 r.Days).ok w_∧New w.heap.size (rd eCoalDay 3 A_1 c_2 r.Days))∧((rd eCoalDip 3 A_3 c_4 r.Dips).ok w_∧New w.heap.size (rd eCoalDip 3 A_3 c_4 r.Dips))∧True:=by
 unfold law_plain06 at H
 refine fn_of (n:=59) Tryd.func7 rfl rfl (lE rfl) ?_
 have S:=St.start w nF _ (cA h3 (cA h6 nM))
 refine c_seq<|reg<|p_boxA rfl S fun b7 w8 S9=>p_allA in29 S9 fun b10 w11 S12=>wp_nil<|c_seq<|reg ?_
 obtain ⟨r13,h14,H⟩:=bindS H
 refine p_cal (law_grate06_ok h14 (rd_nil (Nat.zero_le _))) fu33 rfl ?_
 rintro _ w15 ⟨A17,c18,rfl,k16,⟨o19,n20⟩,_⟩
 have S22:=S12.addNew k16 o19 n20
 refine p_allA in29 S22 fun b23 w24 S25=>?_
 refine p_stP (pre:=[]) (old:=[I 0,I 0]++(sgE eSpan (List.replicate 2 (Span.mk 0 0)) 2++(sg (List.replicate 3 0) 3++[SL none 0 0,I 0,I 0,I 0,SL none 0 0]))) (post:=[]) (vs:=[I r13.Heap.Low,I r13.Heap.High]++(sgE eSpan r13.Eats 2++(sg r13.Extra 3++[SL A17 r13.Days.length c18,I r13.Collier.Low,I r13.Collier.High,I r13.Brings,SL none 0 0]))) sz29 S25 (i:=0) rfl rfl rfl rfl (rfl:_=AG ([I r13.Heap.Low,I r13.Heap.High]++(sgE eSpan r13.Eats 2++(sg r13.Extra 3++[SL A17 r13.Days.length c18,I r13.Collier.Low,I r13.Collier.High,I r13.Brings,SL none 0 0])))) rfl rfl rfl rfl fun w26 S27=>?_
 refine wp_nil<|c_seq<|reg<|p_fld fl29_0 rfl<|p_fld fl23_0 rfl<|p_ld ty3 (S27.atX (i:=3) rfl) rfl rfl ?_
 obtain ⟨r28,h29,H⟩:=bindS H
 refine p_cv (B_Point_ok h29) fu21 rfl S27 fun w30 S31=>p_fld fl29_3 rfl<|p_stP (pre:=[I r13.Heap.Low,I r13.Heap.High]++(sgE eSpan r13.Eats 2++sg r13.Extra 3)) (old:=[SL A17 r13.Days.length c18]) (post:=[I r13.Collier.Low,I r13.Collier.High,I r13.Brings,SL none 0 0]) (vs:=[SL none 0 0]) sz26 S31 (i:=0) rfl rfl rfl rfl (rfl:_=SL none 0 0) rfl rfl rfl rfl fun w32 S33=>p_fld fl29_6 rfl ?_
 refine p_stP (pre:=[I r13.Heap.Low,I r13.Heap.High]++(sgE eSpan r13.Eats 2++(sg r13.Extra 3++[SL none 0 0,I r13.Collier.Low,I r13.Collier.High,I r13.Brings]))) (old:=[SL none 0 0]) (post:=[]) (vs:=[SL none 0 0]) sz27 S33 (i:=0) rfl rfl rfl rfl (rfl:_=SL none 0 0) rfl rfl rfl rfl fun w34 S35=>p_fld fl29_0 rfl ?_
 refine p_stP (pre:=[]) (old:=[I r13.Heap.Low,I r13.Heap.High]) (post:=sgE eSpan r13.Eats 2++(sg r13.Extra 3++[SL none 0 0,I r13.Collier.Low,I r13.Collier.High,I r13.Brings,SL none 0 0])) (vs:=[I r28.Low,I r28.High]) sz23 S35 (i:=0) rfl rfl rfl rfl (rfl:_=AG [I r28.Low,I r28.High]) rfl rfl rfl rfl fun w36 S37=>wp_nil<|c_seq<|c_seq<|reg<|p_aI rfl<|wp_nil<|c_block ?_
 have S38:=S37.nilRow eCoalDay 3 59
 have S39:=S38.pk [0,1,3,4] (by decide) [0,1] rfl rfl
 refine c_lop (α:=Int×(List CoalDay)) (β:=(Option Addr)×Nat) (law_plain06_l5 a0 r28 r13) (fun z_1 y_1=>[(1,P b7 0),(2,P b10 0),(3,P b23 0),(4,I z_1.1)]) (fun z_1 y_1 w_=>St w nF w_ [gr eCoalDay 3 59 y_1.1 y_1.2 z_1.2,bl b23 ([I r28.Low,I r28.High]++(sgE eSpan r13.Eats 2++(sg r13.Extra 3++[SL y_1.1 z_1.2.length y_1.2,I r13.Collier.Low,I r13.Collier.High,I r13.Brings,SL none 0 0]))) 29,bl b10 ([I 0,I 0]++(sgE eSpan (List.replicate 2 (Span.mk 0 0)) 2++(sg (List.replicate 3 0) 3++[SL none 0 0,I 0,I 0,I 0,SL none 0 0]))) 29,bl b7 ([I a0.Heap.Low,I a0.Heap.High]++(sgE eSpan a0.Eats 2++(sg a0.Extra 3++[SL A1 a0.Days.length c2,I a0.Collier.Low,I a0.Collier.High,I a0.Brings,SL A4 a0.Dips.length c5]))) 29] [rd eCoalDay 3 A1 c2 a0.Days,rd eCoalDip 3 A4 c5 a0.Dips]) (0,([]:List CoalDay)) (none,0) H ⟨rfl,rfl,rfl,rfl,trivial⟩ S39 ?_
 intro m40 z_1 y_1 e41 w42 H S43
 unfold law_plain06_l5 at H
 refine c_seq<|c_seq<|reg<|p_mI rfl<|p_fld fl29_3 rfl<|p_ld ty26 (S43.atX (i:=3) rfl) rfl rfl<|p_len rfl sc26<|p_cmp rfl rfl rfl<|wp_nil ?_
 refine c_cond rfl (fun c44=>?_) (fun c44=>?_)
 ·replace H:=condT c44 H
  refine c_skip<|c_seq<|c_block<|reg<|p_fld fl29_3 rfl<|p_ld ty26 (S43.atX (i:=1) rfl) rfl rfl<|p_bld (cs:=[I 1,I 2,I 7]) st59 (rfl:_=[(0,I 1),(1,I 2),(2,I 7)]) (by kernel_rfl)<|p_bsl (enc:=eCoalDay) (l:=([(CoalDay.mk 1 2 7)]:List CoalDay)) (fun x=>AG (eCoalDay x)) (fun _=>rfl) sc26 in59 eCoalDay_len rfl (by decide) (by decide) zr59_1 S43 rfl fun A45 c46 w47 S48=>?_
  obtain ⟨h54,H⟩:=needS H
  refine p_app (enc:=eCoalDay) sc26 in59 rfl eCoalDay_len eCoalDay_one (by decide) S48 (k:=1) rfl (gr_sl eCoalDay_len (S48.atX (i:=0) rfl)) h54 (by simp) rfl rfl fun A52 c53 w50 S51=>p_fld fl29_3 rfl ?_
  refine p_stP (pre:=[I r28.Low,I r28.High]++(sgE eSpan r13.Eats 2++sg r13.Extra 3)) (old:=[SL y_1.1 z_1.2.length y_1.2]) (post:=[I r13.Collier.Low,I r13.Collier.High,I r13.Brings,SL none 0 0]) (vs:=[SL A52 (z_1.2++([(CoalDay.mk 1 2 7)]:List CoalDay)).length c53]) sz26 S51 (i:=2) rfl rfl rfl rfl (rfl:_=SL A52 (z_1.2++([(CoalDay.mk 1 2 7)]:List CoalDay)).length c53) rfl rfl rfl rfl fun w55 S56=>?_
  refine wp_nil<|reg<|p_mI rfl<|p_add rfl rfl<|p_aI rfl<|wp_nil ?_
  have S57:=S56.pk [1,2,3,4] (by decide) [0,1] rfl rfl
  exact ⟨(wr (z_1.1+1),z_1.2++([(CoalDay.mk 1 2 7)]:List CoalDay)),(A52,c53),_,rfl,⟨rfl,rfl,rfl,rfl,trivial⟩,H,S57⟩
 ·replace H:=condF c44 H
  refine c_exit<|c_seq<|reg<|p_fld fl29_3 rfl<|p_ld ty26 (S43.atX (i:=3) rfl) rfl rfl<|p_len rfl sc26 ?_
  obtain ⟨r58,h59,H⟩:=bindS H
  refine p_cv (B_Point_ok h59) fu21 rfl S43 fun w60 S61=>p_fld fl29_4 rfl ?_
  refine p_stP (pre:=[I r28.Low,I r28.High]++(sgE eSpan r13.Eats 2++(sg r13.Extra 3++[SL y_1.1 z_1.2.length y_1.2]))) (old:=[I r13.Collier.Low,I r13.Collier.High]) (post:=[I r13.Brings,SL none 0 0]) (vs:=[I r58.Low,I r58.High]) sz23 S61 (i:=1) rfl rfl rfl rfl (rfl:_=AG [I r58.Low,I r58.High]) rfl rfl rfl rfl fun w62 S63=>wp_nil<|c_seq<|c_seq<|reg<|p_aI rfl<|wp_nil<|c_block ?_
  have S64:=S63.nilRow eCoalDip 3 75
  refine c_lop (α:=Int×(List CoalDip)) (β:=(Option Addr)×Nat) (law_plain06_l4 a0 r28 r13 z_1 r58) (fun z_2 y_2=>[(1,P b7 0),(2,P b10 0),(3,P b23 0),(5,I z_2.1)]) (fun z_2 y_2 w_=>St w nF w_ [gr eCoalDip 3 75 y_2.1 y_2.2 z_2.2,gr eCoalDay 3 59 y_1.1 y_1.2 z_1.2,bl b23 ([I r28.Low,I r28.High]++(sgE eSpan r13.Eats 2++(sg r13.Extra 3++[SL y_1.1 z_1.2.length y_1.2,I r58.Low,I r58.High,I r13.Brings,SL y_2.1 z_2.2.length y_2.2]))) 29,bl b10 ([I 0,I 0]++(sgE eSpan (List.replicate 2 (Span.mk 0 0)) 2++(sg (List.replicate 3 0) 3++[SL none 0 0,I 0,I 0,I 0,SL none 0 0]))) 29,bl b7 ([I a0.Heap.Low,I a0.Heap.High]++(sgE eSpan a0.Eats 2++(sg a0.Extra 3++[SL A1 a0.Days.length c2,I a0.Collier.Low,I a0.Collier.High,I a0.Brings,SL A4 a0.Dips.length c5]))) 29] [rd eCoalDay 3 A1 c2 a0.Days,rd eCoalDip 3 A4 c5 a0.Dips]) (0,([]:List CoalDip)) (none,0) H ⟨rfl,rfl,rfl,rfl,trivial⟩ S64 ?_
  intro m65 z_2 y_2 e66 w67 H S68
  unfold law_plain06_l4 at H
  refine c_seq<|c_seq<|reg<|p_mI rfl<|p_fld fl29_6 rfl<|p_ld ty27 (S68.atX (i:=4) rfl) rfl rfl<|p_len rfl sc27<|p_cmp rfl rfl rfl<|wp_nil ?_
  refine c_cond rfl (fun c69=>?_) (fun c69=>?_)
  ·replace H:=condT c69 H
   refine c_skip<|c_seq<|c_block<|c_seq<|reg<|p_fld fl29_6 rfl<|p_ld ty27 (S68.atX (i:=4) rfl) rfl rfl<|p_mI rfl ?_
   obtain ⟨r70,h71,H⟩:=bindS H
   refine p_ixE sc27 h71 (S68.atP (i:=1) rfl).1 rfl rfl rfl<|p_ldEA ty75 sz75 rfl h71 (S68.atP (i:=1) rfl).1 rfl<|p_allA in75 S68 fun b72 w73 S74=>p_stP (pre:=[]) (old:=[I 0,I 0,I 0]) (post:=[]) (vs:=[I r70.Day,I r70.Read,I r70.Error]) sz75 S74 (i:=0) rfl rfl rfl rfl (rfl:_=AG [I r70.Day,I r70.Read,I r70.Error]) rfl rfl rfl rfl fun w75 S76=>wp_nil<|c_seq<|reg<|p_fld fl29_0 rfl ?_
   refine p_fld fl23_0 rfl<|p_ld ty3 (S76.atX (i:=3) rfl) rfl rfl<|p_fld fl75_1 rfl<|p_ld ty3 (S76.atX (i:=0) rfl) rfl rfl<|p_sub rfl rfl ?_
   obtain ⟨r77,h78,H⟩:=bindS H
   refine p_cv (B_Inside_ok h78) fu32 rfl S76 fun w79 S80=>wp_nil ?_
   refine c_cond rfl (fun c81=>?_) (fun c81=>?_)
   ·replace H:=condT c81 H
    refine reg<|p_fld fl29_6 rfl<|p_ld ty27 (S80.atX (i:=3) rfl) rfl rfl<|p_ldA ty75 sz75 (S80.atX (i:=0) rfl) rfl rfl<|p_bsl (enc:=eCoalDip) (l:=([r70]:List CoalDip)) (fun x=>AG (eCoalDip x)) (fun _=>rfl) sc27 in75 eCoalDip_len rfl (by decide) (by decide) zr75_1 S80 rfl fun A82 c83 w84 S85=>?_
    obtain ⟨h91,H⟩:=needS H
    refine p_app (enc:=eCoalDip) sc27 in75 rfl eCoalDip_len eCoalDip_one (by decide) S85 (k:=2) rfl (gr_sl eCoalDip_len (S85.atX (i:=0) rfl)) h91 (by simp) rfl rfl fun A89 c90 w87 S88=>p_fld fl29_6 rfl ?_
    refine p_stP (pre:=[I r28.Low,I r28.High]++(sgE eSpan r13.Eats 2++(sg r13.Extra 3++[SL y_1.1 z_1.2.length y_1.2,I r58.Low,I r58.High,I r13.Brings]))) (old:=[SL y_2.1 z_2.2.length y_2.2]) (post:=[]) (vs:=[SL A89 (z_2.2++([r70]:List CoalDip)).length c90]) sz27 S88 (i:=4) rfl rfl rfl rfl (rfl:_=SL A89 (z_2.2++([r70]:List CoalDip)).length c90) rfl rfl rfl rfl fun w92 S93=>?_
    refine wp_nil<|reg<|p_mI rfl<|p_add rfl rfl<|p_aI rfl<|wp_nil ?_
    have S94:=S93.pk [2,3,4,5,6] (by decide) [0,1] rfl rfl
    exact ⟨(wr (z_2.1+1),z_2.2++([r70]:List CoalDip)),(A89,c90),_,rfl,⟨rfl,rfl,rfl,rfl,trivial⟩,H,S94⟩
   ·replace H:=condF c81 H
    refine c_skip<|reg<|p_mI rfl<|p_add rfl rfl<|p_aI rfl<|wp_nil ?_
    have S95:=S80.pk [1,2,3,4,5] (by decide) [0,1] rfl rfl
    exact ⟨(wr (z_2.1+1),z_2.2),(y_2.1,y_2.2),_,rfl,⟨rfl,rfl,rfl,rfl,trivial⟩,H,S95⟩
  ·replace H:=condF c69 H
   refine c_exit<|c_seq<|reg<|p_ldA ty29 sz29 (S68.atX (i:=2) rfl) rfl rfl ?_
   refine p_stP (pre:=[]) (old:=[I 0,I 0]++(sgE eSpan (List.replicate 2 (Span.mk 0 0)) 2++(sg (List.replicate 3 0) 3++[SL none 0 0,I 0,I 0,I 0,SL none 0 0]))) (post:=[]) (vs:=[I r28.Low,I r28.High]++(sgE eSpan r13.Eats 2++(sg r13.Extra 3++[SL y_1.1 z_1.2.length y_1.2,I r58.Low,I r58.High,I r13.Brings,SL y_2.1 z_2.2.length y_2.2]))) sz29 S68 (i:=3) rfl rfl rfl rfl (rfl:_=AG ([I r28.Low,I r28.High]++(sgE eSpan r13.Eats 2++(sg r13.Extra 3++[SL y_1.1 z_1.2.length y_1.2,I r58.Low,I r58.High,I r13.Brings,SL y_2.1 z_2.2.length y_2.2])))) rfl rfl rfl rfl fun w96 S97=>?_
   refine wp_nil ?_
   obtain rfl:=sJ H
   refine c_ret ?_; show bodyPostM (Fr none) 0 Tryd.prog Tryd.f7 _ .ret _ _
   refine ret_of (res1 rfl (rvA rfl ty29 sz29 (S97.atX (i:=3) rfl) rfl)) ?_
   exact ⟨_,rfl,y_1.1,y_1.2,y_2.1,y_2.2,rfl,S97.keep,⟨(gr_rd eCoalDay_len (S97.atX (i:=1) rfl)),(New.rd (S97.newX (i:=1) rfl))⟩,⟨(gr_rd eCoalDip_len (S97.atX (i:=0) rfl)),(New.rd (S97.newX (i:=0) rfl))⟩,trivial⟩
def B_Mod (a0:Int) (a1:Int):Option Int:=
 bif decide (a1≤0) then (some 0)
 else (need (a1 != 0)<|
 bif decide ((modI a0 a1) < 0) then (some (wr ((modI a0 a1)+a1)))
 else (some (modI a0 a1)))
set_option maxRecDepth 100000 in
theorem B_Mod_ok {a0:Int}{a1:Int}{w:World}{r:Int} (H:B_Mod a0 a1=some r):Calls Tryd.prog 9 #[I a0,I a1] w (RetV w (I r)):=by
 unfold B_Mod at H
 refine fn_of (n:=17) Tryd.func9 rfl rfl (lE rfl) ?_
 have S:=St.start w nF _ nM
 refine c_seq<|reg<|p_aI rfl<|wp_nil<|c_seq<|c_seq<|reg<|p_mI rfl<|p_cmp rfl rfl rfl<|wp_nil ?_
 refine c_cond rfl (fun c1=>?_) (fun c1=>?_)
 ·replace H:=condT c1 H
  refine c_seq<|reg<|p_aI rfl<|wp_nil ?_
  obtain rfl:=sJ H
  exact c_ret (rT Tryd.f9 S.keep rfl rfl)
 ·replace H:=condF c1 H
  refine c_skip<|c_seq<|reg<|p_mI rfl<|p_mI rfl ?_
  obtain ⟨h2,H⟩:=needS H
  refine p_rem h2 rfl rfl<|p_aI rfl<|wp_nil<|c_seq<|c_seq<|reg<|p_mI rfl<|p_cmp rfl rfl rfl<|wp_nil ?_
  refine c_cond rfl (fun c3=>?_) (fun c3=>?_)
  ·replace H:=condT c3 H
   refine c_seq<|reg<|p_mI rfl<|p_mI rfl<|p_add rfl rfl<|p_aI rfl<|wp_nil ?_
   obtain rfl:=sJ H
   exact c_ret (rT Tryd.f9 S.keep rfl rfl)
  ·replace H:=condF c3 H
   refine c_skip<|c_seq<|reg<|p_mI rfl<|p_aI rfl<|wp_nil ?_
   obtain rfl:=sJ H
   exact c_ret (rT Tryd.f9 S.keep rfl rfl)
def coal_Right (a0:CoalBook):Option (Bool×Int):=
 (coal_Check a0).bind fun r11=>
 bif (r11 != 0) then (some (false,r11))
 else ((coal_opened a0 ([]:List _)).bind fun r16=>
 (coal_book_isTrue (Coal_book.mk (CoalBook.mk r16.CoalBook.Heap r16.CoalBook.Eats r16.CoalBook.Extra a0.Days r16.CoalBook.Collier r16.CoalBook.Brings r16.CoalBook.Dips) r16.costs_)).bind fun r28=>
 some (r28,0))
set_option maxRecDepth 100000 in
theorem coal_Right_ok {a0:CoalBook}{A1:Option Addr}{c2:Nat}{A4:Option Addr}{c5:Nat}{w:World}{r:Bool×Int} (H:coal_Right a0=some r) (h3:(rd eCoalDay 3 A1 c2 a0.Days).ok w) (h6:(rd eCoalDip 3 A4 c5 a0.Dips).ok w) (hg7:(gW0).ok w):Calls Tryd.prog 10 #[AG ([I a0.Heap.Low,I a0.Heap.High]++(sgE eSpan a0.Eats 2++(sg a0.Extra 3++[SL A1 a0.Days.length c2,I a0.Collier.Low,I a0.Collier.High,I a0.Brings,SL A4 a0.Dips.length c5])))] w (RetV w (TU [B r.1,I r.2])):=by
 unfold coal_Right at H
 refine fn_of (n:=13) Tryd.func10 rfl rfl (lE rfl) ?_
 have S:=St.start w nF _ (cA h3 (cA h6 (cA hg7 nM)))
 refine c_seq<|reg<|p_boxA rfl S fun b8 w9 S10=>p_aB rfl<|p_aI rfl<|wp_nil<|c_seq<|c_seq<|reg<|p_ldA ty29 sz29 (S10.atX (i:=0) rfl) rfl rfl ?_
 obtain ⟨r11,h12,H⟩:=bindS H
 refine p_cv (coal_Check_ok h12 (S10.atP (i:=0) rfl) (S10.atP (i:=1) rfl)) fu30 rfl S10 fun w13 S14=>p_aI rfl<|wp_nil<|c_seq<|reg<|p_mI rfl<|p_cmp rfl rfl rfl<|wp_nil ?_
 refine c_cond rfl (fun c15=>?_) (fun c15=>?_)
 ·replace H:=condT c15 H
  refine c_seq<|reg<|p_mI rfl<|p_aB rfl<|p_aI rfl<|wp_nil ?_
  obtain rfl:=sJ H
  refine c_ret ?_; show bodyPostM (Fr none) 0 Tryd.prog Tryd.f10 _ .ret _ _
  refine ret_of (res2 rfl (rvT (rfl:_=B false)) (rvT (rfl:_=I r11))) ?_
  exact ⟨_,rfl,rfl,S14.keep⟩
 ·replace H:=condF c15 H
  refine c_skip<|c_seq<|reg<|p_ldA ty29 sz29 (S14.atX (i:=0) rfl) rfl rfl ?_
  obtain ⟨r16,h17,H⟩:=bindS H
  refine p_cal (coal_opened_ok h17 (S14.atP (i:=0) rfl) (S14.atP (i:=1) rfl) (rd_nil (Nat.zero_le _)) (S14.atP (i:=2) rfl)) fu35 rfl ?_
  rintro _ w18 ⟨A20,c21,m22,rfl,k19,⟨o23,n24⟩,⟨o25,n26⟩,_⟩
  have S27:=S14.callN k19 [rd eCoalDip 3 A20 c21 r16.CoalBook.Dips,mp ekG iE m22 r16.costs_] (cA ⟨o23,New.inL n24⟩ (cA ⟨o25,New.inL n26⟩ nM))
  obtain ⟨r28,h29,H⟩:=bindS H
  refine p_cv (coal_book_isTrue_ok h29 (S27.atP (i:=2) rfl) (S27.atP (i:=0) rfl) (mpo_some (S27.atP (i:=1) rfl))) fu36 rfl S27 fun w30 S31=>p_aB rfl<|p_aI rfl<|wp_nil ?_
  obtain rfl:=sJ H
  refine c_ret ?_; show bodyPostM (Fr none) 0 Tryd.prog Tryd.f10 _ .ret _ _
  refine ret_of (res2 rfl (rvT (rfl:_=B r28)) (rvT (rfl:_=I 0))) ?_
  exact ⟨_,rfl,rfl,S31.keep⟩
def coal_Wrong_1_l3 (q0:CoalBook) (a0:List Int) (rec_:(List Int)→Int→Option ((List Int)×Bool)) (a1:Int) (rec_z_2:Int→Option ((List Int)×Bool)) (z_2:Int):Option ((List Int)×Bool):=
 bif decide (z_2 < (q0.Dips.length:Int)) then (need (fitsL (a0.length+([z_2]:List Int).length) 8)<|
 (rec_ (a0++([z_2]:List Int)) a1).bind fun r64=>
 bif r64.2 then (some (r64.1,true))
 else (rec_z_2 (wr (z_2+1))))
 else (some (([]:List _),false))
def coal_Wrong_1_j4 (q0:CoalBook) (a0:List Int) (rec_:(List Int)→Int→Option ((List Int)×Bool)) (a1:Int) (z_1:Int):Option ((List Int)×Bool):=
 loopF (coal_Wrong_1_l3 q0 a0 rec_ a1) big z_1
def coal_Wrong_1_F (rec_:(List Int)→Int→Option ((List Int)×Bool)) (a0:List Int) (a1:Int) (q0:CoalBook):Option ((List Int)×Bool):=
 bif ((a0.length:Int)==a1) then ((coal_opened q0 a0).bind fun r16=>
 (coal_book_isTrue (Coal_book.mk (CoalBook.mk r16.CoalBook.Heap r16.CoalBook.Eats r16.CoalBook.Extra q0.Days r16.CoalBook.Collier r16.CoalBook.Brings r16.CoalBook.Dips) r16.costs_)).bind fun r28=>
 some (a0,r28))
 else (bif decide ((a0.length:Int) > 0) then ((getI a0 (wr ((a0.length:Int) - 1))).bind fun r33=>
 coal_Wrong_1_j4 q0 a0 rec_ a1 (wr (r33+1)))
 else (coal_Wrong_1_j4 q0 a0 rec_ a1 0))
def coal_Wrong_1:Nat→(List Int)→Int→CoalBook→Option ((List Int)×Bool)
 | 0,_,_,_=>none
 | n+1,a0,a1,q0=>coal_Wrong_1_F (fun x0_ x1_=>coal_Wrong_1 n x0_ x1_ q0) a0 a1 q0
set_option maxRecDepth 100000 in
theorem coal_Wrong_1_ok {n:Nat}:∀ {a0:List Int}{a1:Int}{q0:CoalBook}{A1:Option Addr}{c2:Nat}{b4:Nat}{A6:Option Addr}{c7:Nat}{A9:Option Addr}{c10:Nat}{b5:Nat}{w:World}{r:(List Int)×Bool} (H:coal_Wrong_1 n a0 a1 q0=some r) (h13:(bl b5 [vF (.func 41) #[] #[P b4 0,P b5 0]] 95).ok w) (h12:(bl b4 ([I q0.Heap.Low,I q0.Heap.High]++(sgE eSpan q0.Eats 2++(sg q0.Extra 3++[SL A6 q0.Days.length c7,I q0.Collier.Low,I q0.Collier.High,I q0.Brings,SL A9 q0.Dips.length c10]))) 29).ok w) (h3:(rd intE 1 A1 c2 a0).ok w) (h8:(rd eCoalDay 3 A6 c7 q0.Days).ok w) (h11:(rd eCoalDip 3 A9 c10 q0.Dips).ok w) (hg14:(gW0).ok w),Calls Tryd.prog 41 #[SL A1 a0.length c2,I a1,P b4 0,P b5 0] w fun en w_=>∃ u_,en=.returned u_∧∃ A_1:Option Addr,∃ c_2:Nat,u_=TU [SL A_1 r.1.length c_2,B r.2]∧Keep0 w w_∧((rd intE 1 A_1 c_2 r.1).ok w_∧Al w [rd intE 1 A1 c2 a0,rd eCoalDay 3 A6 c7 q0.Days,rd eCoalDip 3 A9 c10 q0.Dips] (rd intE 1 A_1 c_2 r.1))∧True:=by
 induction n with
 | zero=>intro a0 a1 q0 A1 c2 b4 A6 c7 A9 c10 b5 w r H h13 h12 h3 h8 h11 hg14; cases H
 | succ n ih=>
 intro a0 a1 q0 A1 c2 b4 A6 c7 A9 c10 b5 w r H h13 h12 h3 h8 h11 hg14
 unfold coal_Wrong_1 coal_Wrong_1_F at H
 refine fn_of (n:=54) Tryd.func41 rfl rfl (lE rfl) ?_
 have S:=St.start w nF _ (cA h13 (cA h12 (cA h3 (cA h8 (cA h11 (cA hg14 nM))))))
 refine c_seq<|reg<|p_aS rfl<|p_aB rfl<|wp_nil<|c_seq<|reg<|p_mS rfl<|p_len rfl sc42<|p_aI rfl<|wp_nil<|c_seq<|c_seq<|reg<|p_mI rfl<|p_mI rfl<|p_cmp rfl rfl rfl<|wp_nil ?_
 refine c_cond rfl (fun c15=>?_) (fun c15=>?_)
 ·replace H:=condT c15 H
  refine c_seq<|reg<|p_mS rfl<|p_ldA ty29 sz29 (S.atP (i:=1) rfl) rfl rfl<|p_mS rfl ?_
  obtain ⟨r16,h17,H⟩:=bindS H
  refine p_cal (coal_opened_ok h17 (S.atP (i:=3) rfl) (S.atP (i:=4) rfl) (S.atP (i:=2) rfl) (S.atP (i:=5) rfl)) fu35 rfl ?_
  rintro _ w18 ⟨A20,c21,m22,rfl,k19,⟨o23,n24⟩,⟨o25,n26⟩,_⟩
  have S27:=S.callN k19 [rd eCoalDip 3 A20 c21 r16.CoalBook.Dips,mp ekG iE m22 r16.costs_] (cA ⟨o23,New.inL n24⟩ (cA ⟨o25,New.inL n26⟩ nM))
  obtain ⟨r28,h29,H⟩:=bindS H
  refine p_cv (coal_book_isTrue_ok h29 (S27.atP (i:=5) rfl) (S27.atP (i:=0) rfl) (mpo_some (S27.atP (i:=1) rfl))) fu36 rfl S27 fun w30 S31=>p_aS rfl<|p_aB rfl<|wp_nil ?_
  obtain rfl:=sJ H
  refine c_ret ?_; show bodyPostM (Fr none) 0 Tryd.prog Tryd.f41 _ .ret _ _
  refine ret_of (res2 rfl (rvT (rfl:_=SL A1 a0.length c2)) (rvT (rfl:_=B r28))) ?_
  exact ⟨_,rfl,A1,c2,rfl,S31.keep,⟨(S31.atP (i:=4) rfl),Al.self (i:=0) rfl⟩,trivial⟩
 ·replace H:=condF c15 H
  refine c_skip<|c_seq<|reg<|p_aI rfl<|wp_nil ?_
  refine c_join (α:=Int) (β:=Unit) (fun z_1 y_1=>[(0,SL A1 a0.length c2),(1,I a1),(2,P b4 0),(3,P b5 0),(8,I (a0.length:Int)),(9,I z_1)]) (fun z_1 y_1 w_=>coal_Wrong_1_j4 q0 a0 (fun x0_ x1_=>coal_Wrong_1 n x0_ x1_ q0) a1 z_1=some r∧St w nF w_ [] [bl b5 [vF (.func 41) #[] #[P b4 0,P b5 0]] 95,bl b4 ([I q0.Heap.Low,I q0.Heap.High]++(sgE eSpan q0.Eats 2++(sg q0.Extra 3++[SL A6 q0.Days.length c7,I q0.Collier.Low,I q0.Collier.High,I q0.Brings,SL A9 q0.Dips.length c10]))) 29,rd intE 1 A1 c2 a0,rd eCoalDay 3 A6 c7 q0.Days,rd eCoalDip 3 A9 c10 q0.Dips,gW0]) ?_ ?_
  ·refine c_seq<|reg<|p_mI rfl<|p_cmp rfl rfl rfl<|wp_nil ?_
   refine c_cond rfl (fun c32=>?_) (fun c32=>?_)
   ·replace H:=condT c32 H
    refine reg<|p_mS rfl<|p_mI rfl<|p_sub rfl rfl ?_
    obtain ⟨r33,h34,H⟩:=bindS H
    refine p_ixE sc42 h34 (S.atP (i:=2) rfl).1 rfl rfl rfl<|p_ldE ty3 h34 (S.atP (i:=2) rfl).1 rfl rfl<|p_add rfl rfl<|p_aI rfl<|wp_nil ?_
    exact ⟨wr (r33+1),(),_,rfl,⟨rfl,rfl,rfl,rfl,rfl,rfl,trivial⟩,H,S⟩
   ·replace H:=condF c32 H
    refine c_skip ?_
    exact ⟨0,(),_,rfl,⟨rfl,rfl,rfl,rfl,rfl,rfl,trivial⟩,H,S⟩
  ·intro z_1 y_1 e32 w33 S34; obtain ⟨H,S34⟩:=S34
   unfold coal_Wrong_1_j4 at H
   refine c_seq<|c_seq<|reg<|p_mI rfl<|p_aI rfl<|wp_nil<|c_block ?_
   refine c_lop (α:=Int) (β:=Unit) (coal_Wrong_1_l3 q0 a0 (fun x0_ x1_=>coal_Wrong_1 n x0_ x1_ q0) a1) (fun z_2 y_2=>[(0,SL A1 a0.length c2),(1,I a1),(2,P b4 0),(3,P b5 0),(8,I (a0.length:Int)),(10,I z_2)]) (fun z_2 y_2 w_=>St w nF w_ [] [bl b5 [vF (.func 41) #[] #[P b4 0,P b5 0]] 95,bl b4 ([I q0.Heap.Low,I q0.Heap.High]++(sgE eSpan q0.Eats 2++(sg q0.Extra 3++[SL A6 q0.Days.length c7,I q0.Collier.Low,I q0.Collier.High,I q0.Brings,SL A9 q0.Dips.length c10]))) 29,rd intE 1 A1 c2 a0,rd eCoalDay 3 A6 c7 q0.Days,rd eCoalDip 3 A9 c10 q0.Dips,gW0]) z_1 () H ⟨rfl,rfl,rfl,rfl,rfl,rfl,trivial⟩ S34 ?_
   intro m35 z_2 y_2 e36 w37 H S38
   unfold coal_Wrong_1_l3 at H
   refine c_seq<|c_seq<|reg<|p_mI rfl<|p_fld fl29_6 rfl<|p_ld ty27 (S38.atP (i:=1) rfl) rfl rfl<|p_len rfl sc27<|p_cmp rfl rfl rfl<|wp_nil ?_
   refine c_cond rfl (fun c39=>?_) (fun c39=>?_)
   ·replace H:=condT c39 H
    refine c_skip<|c_seq<|c_block<|c_seq ?_
    obtain ⟨h57,H⟩:=needS H
    obtain ⟨r64,h65,H⟩:=bindS H
    refine reg_any mixed 15 (by kernel_rfl) [rv (vF (.func 41) #[] #[P b4 0,P b5 0]),rv (SL A1 a0.length c2),rv (I (a0.length:Int)),rv (I (a0.length:Int)),rv (SL A1 a0.length a0.length),rv (I z_2),rx (α:=(Option Addr)×Nat) (fun ⟨A44,c45⟩=>SL A44 ([z_2]:List Int).length c45) (fun ⟨A44,c45⟩ lo hi=>BtwL lo hi [] (gr intE 1 3 A44 c45 ([z_2]:List Int))∧True) (fun ⟨A44,c45⟩=>[gr intE 1 3 A44 c45 ([z_2]:List Int)]),rx (α:=(Option Addr)×Nat) (fun ⟨A55,c56⟩=>SL A55 (a0++([z_2]:List Int)).length c56) (fun ⟨A55,c56⟩ lo hi=>BtwL lo hi [] (gr intE 1 3 A55 c56 (a0++([z_2]:List Int)))∧True) (fun ⟨A55,c56⟩=>[gr intE 1 3 A55 c56 (a0++([z_2]:List Int))]),rv (I a1),rxd 47 (α:=(Option Addr)×Nat) (fun ⟨A68,c69⟩=>TU [SL A68 r64.1.length c69,B r64.2]) (fun ⟨A68,c69⟩ lo hi ev=>BtwV lo hi [rd eCoalDay 3 A6 c7 q0.Days,rd eCoalDip 3 A9 c10 q0.Dips] ev (rd intE 1 A68 c69 r64.1)∧True) (fun ⟨A68,c69⟩=>[rd intE 1 A68 c69 r64.1]),dv 49 some,dv 39 (exG 0),dv 39 (exG 1),dv 50 some,rv (B r64.2)] [[],[],[],[],[],[],[],[],[],[47],[49],[39],[39],[50],[]] rfl (by kernel_rfl) [[],[],[],[],[1,2,3],[],[5],[1,2,3,4,5,6],[],[0,1,2,3,4,5,6,7,8],[0,1,2,3,4,5,6,7,8,9],[0,1,2,3,4,5,6,7,8,9,10],[0,1,2,3,4,5,6,7,8,9,10],[0,1,2,3,4,5,6,7,8,9,10,11],[0,1,2,3,4,5,6,7,8,9,10,11,12,13]] (by kernel_rfl) ⟨?_,?_,?_,?_,?_,?_,?_,?_,?_,?_,?_,?_,?_,?_,?_,trivial⟩ ?_
    ·intro e_ w_ k_ hf_ hR_
     have S_:St w_ nF w_ [] [bl b5 [vF (.func 41) #[] #[P b4 0,P b5 0]] 95,bl b4 ([I q0.Heap.Low,I q0.Heap.High]++(sgE eSpan q0.Eats 2++(sg q0.Extra 3++[SL A6 q0.Days.length c7,I q0.Collier.Low,I q0.Collier.High,I q0.Brings,SL A9 q0.Dips.length c10]))) 29,rd intE 1 A1 c2 a0,rd eCoalDay 3 A6 c7 q0.Days,rd eCoalDip 3 A9 c10 q0.Dips,gW0]:=S38.asP k_
     refine hopE [(3,P b5 0)] ⟨((hf_ 3 rfl).trans (rfl:_=P b5 0)),trivial⟩ ?_
     exact p_ld ty95 (S_.atP (i:=0) rfl) rfl rfl<|wp_nil ⟨_,rfl,S_.keep,rfl⟩
    ·intro e_ w_ k_ hf_ hR_
     have S_:St w_ nF w_ [] [bl b5 [vF (.func 41) #[] #[P b4 0,P b5 0]] 95,bl b4 ([I q0.Heap.Low,I q0.Heap.High]++(sgE eSpan q0.Eats 2++(sg q0.Extra 3++[SL A6 q0.Days.length c7,I q0.Collier.Low,I q0.Collier.High,I q0.Brings,SL A9 q0.Dips.length c10]))) 29,rd intE 1 A1 c2 a0,rd eCoalDay 3 A6 c7 q0.Days,rd eCoalDip 3 A9 c10 q0.Dips,gW0]:=S38.asP k_
     refine hopE [(0,SL A1 a0.length c2)] ⟨((hf_ 0 rfl).trans (rfl:_=SL A1 a0.length c2)),trivial⟩ ?_
     refine p_mS rfl<|wp_nil ?_
     exact ⟨_,rfl,S_.keep,rfl⟩
    ·intro e_ w_ k_ hf_ hR_
     have S_:St w_ nF w_ [] [bl b5 [vF (.func 41) #[] #[P b4 0,P b5 0]] 95,bl b4 ([I q0.Heap.Low,I q0.Heap.High]++(sgE eSpan q0.Eats 2++(sg q0.Extra 3++[SL A6 q0.Days.length c7,I q0.Collier.Low,I q0.Collier.High,I q0.Brings,SL A9 q0.Dips.length c10]))) 29,rd intE 1 A1 c2 a0,rd eCoalDay 3 A6 c7 q0.Days,rd eCoalDip 3 A9 c10 q0.Dips,gW0]:=S38.asP k_
     refine hopE [(8,I (a0.length:Int))] ⟨((hf_ 8 rfl).trans (rfl:_=I (a0.length:Int))),trivial⟩ ?_
     exact p_mI rfl<|wp_nil ⟨_,rfl,S_.keep,rfl⟩
    ·intro e_ w_ k_ hf_ hR_
     have S_:St w_ nF w_ [] [bl b5 [vF (.func 41) #[] #[P b4 0,P b5 0]] 95,bl b4 ([I q0.Heap.Low,I q0.Heap.High]++(sgE eSpan q0.Eats 2++(sg q0.Extra 3++[SL A6 q0.Days.length c7,I q0.Collier.Low,I q0.Collier.High,I q0.Brings,SL A9 q0.Dips.length c10]))) 29,rd intE 1 A1 c2 a0,rd eCoalDay 3 A6 c7 q0.Days,rd eCoalDip 3 A9 c10 q0.Dips,gW0]:=S38.asP k_
     refine hopE [(8,I (a0.length:Int))] ⟨((hf_ 8 rfl).trans (rfl:_=I (a0.length:Int))),trivial⟩ ?_
     exact p_mI rfl<|wp_nil ⟨_,rfl,S_.keep,rfl⟩
    ·intro e_ w_ k_ hf_ hR_
     have S_:St w_ nF w_ [] [bl b5 [vF (.func 41) #[] #[P b4 0,P b5 0]] 95,bl b4 ([I q0.Heap.Low,I q0.Heap.High]++(sgE eSpan q0.Eats 2++(sg q0.Extra 3++[SL A6 q0.Days.length c7,I q0.Collier.Low,I q0.Collier.High,I q0.Brings,SL A9 q0.Dips.length c10]))) 29,rd intE 1 A1 c2 a0,rd eCoalDay 3 A6 c7 q0.Days,rd eCoalDip 3 A9 c10 q0.Dips,gW0]:=S38.asP k_
     refine hopE [(41,SL A1 a0.length c2),(42,I (a0.length:Int)),(43,I (a0.length:Int))] ⟨rQ (hR_ 1 41 rfl (lE rfl) rfl),rQ (hR_ 2 42 rfl (lE rfl) rfl),rQ (hR_ 3 43 rfl (lE rfl) rfl),trivial⟩ ?_
     refine p_cut3 sc42 (S_.atP (i:=2) rfl) rfl rfl rfl<|wp_nil ?_
     exact ⟨_,rfl,S_.keep,rfl⟩
    ·intro e_ w_ k_ hf_ hR_
     have S_:St w_ nF w_ [] [bl b5 [vF (.func 41) #[] #[P b4 0,P b5 0]] 95,bl b4 ([I q0.Heap.Low,I q0.Heap.High]++(sgE eSpan q0.Eats 2++(sg q0.Extra 3++[SL A6 q0.Days.length c7,I q0.Collier.Low,I q0.Collier.High,I q0.Brings,SL A9 q0.Dips.length c10]))) 29,rd intE 1 A1 c2 a0,rd eCoalDay 3 A6 c7 q0.Days,rd eCoalDip 3 A9 c10 q0.Dips,gW0]:=S38.asP k_
     refine hopE [(10,I z_2)] ⟨((hf_ 10 rfl).trans (rfl:_=I z_2)),trivial⟩ ?_
     exact p_mI rfl<|wp_nil ⟨_,rfl,S_.keep,rfl⟩
    ·intro e_ w_ k_ hf_ hR_
     have S_:St w_ nF w_ [] [bl b5 [vF (.func 41) #[] #[P b4 0,P b5 0]] 95,bl b4 ([I q0.Heap.Low,I q0.Heap.High]++(sgE eSpan q0.Eats 2++(sg q0.Extra 3++[SL A6 q0.Days.length c7,I q0.Collier.Low,I q0.Collier.High,I q0.Brings,SL A9 q0.Dips.length c10]))) 29,rd intE 1 A1 c2 a0,rd eCoalDay 3 A6 c7 q0.Days,rd eCoalDip 3 A9 c10 q0.Dips,gW0]:=S38.asP k_
     refine hopE [(45,I z_2)] ⟨rQ (hR_ 5 45 rfl (lE rfl) rfl),trivial⟩ ?_
     refine p_bsl (enc:=intE) (l:=([z_2]:List Int)) I (fun _=>rfl) sc42 in3 intE_len rfl (by decide) (by decide) zr3_1 S_ rfl fun A44 c45 w46 S47=>wp_nil ?_
     exact ⟨_,rfl,S47.keep,⟨(A44,c45),rfl,⟨bL (New.al (S47.newX (i:=0) rfl)) rfl (S47.atX (i:=0) rfl) rfl,trivial⟩,(cA (S47.atX (i:=0) rfl) nM)⟩⟩
    ·intro e_ w_ k_ hf_ hR_
     have S_:St w_ nF w_ [] [bl b5 [vF (.func 41) #[] #[P b4 0,P b5 0]] 95,bl b4 ([I q0.Heap.Low,I q0.Heap.High]++(sgE eSpan q0.Eats 2++(sg q0.Extra 3++[SL A6 q0.Days.length c7,I q0.Collier.Low,I q0.Collier.High,I q0.Brings,SL A9 q0.Dips.length c10]))) 29,rd intE 1 A1 c2 a0,rd eCoalDay 3 A6 c7 q0.Days,rd eCoalDip 3 A9 c10 q0.Dips,gW0]:=S38.asP k_
     obtain ⟨_,_,_,_,q49⟩:=hR_ 4 44 rfl (lE rfl) rfl
     obtain ⟨_,_,_,_,⟨A44,c45⟩,q50,p51,a52⟩:=hR_ 6 46 rfl (lE rfl) rfl
     replace q50:e_ 46=SL A44 ([z_2]:List Int).length c45:=q50
     have S_:=St.addL' S_ (a52 _ (.head _)) (fun _ _ _ h_=>(nE h_))
     refine hopE [(44,SL A1 a0.length a0.length),(46,SL A44 ([z_2]:List Int).length c45)] ⟨q49,q50,trivial⟩ ?_
     refine p_appN (enc:=intE) sc42 in3 rfl intE_len (by decide) S_ (rd_full (S_.atP (i:=3) rfl)).1 rfl (gr_sl intE_len (S_.atP (i:=0) rfl)) h57 (by simp) rfl rfl fun A55 c56 w53 S54=>wp_nil ?_
     exact ⟨_,rfl,S54.keep,⟨(A55,c56),rfl,⟨bL (New.al (S54.newX (i:=0) rfl)) rfl (S54.atX (i:=0) rfl) rfl,trivial⟩,(cA (S54.atX (i:=0) rfl) nM)⟩⟩
    ·intro e_ w_ k_ hf_ hR_
     have S_:St w_ nF w_ [] [bl b5 [vF (.func 41) #[] #[P b4 0,P b5 0]] 95,bl b4 ([I q0.Heap.Low,I q0.Heap.High]++(sgE eSpan q0.Eats 2++(sg q0.Extra 3++[SL A6 q0.Days.length c7,I q0.Collier.Low,I q0.Collier.High,I q0.Brings,SL A9 q0.Dips.length c10]))) 29,rd intE 1 A1 c2 a0,rd eCoalDay 3 A6 c7 q0.Days,rd eCoalDip 3 A9 c10 q0.Dips,gW0]:=S38.asP k_
     refine hopE [(1,I a1)] ⟨((hf_ 1 rfl).trans (rfl:_=I a1)),trivial⟩ ?_
     exact p_mI rfl<|wp_nil ⟨_,rfl,S_.keep,rfl⟩
    ·intro e_ w_ k_ hf_ hR_
     have S_:St w_ nF w_ [] [bl b5 [vF (.func 41) #[] #[P b4 0,P b5 0]] 95,bl b4 ([I q0.Heap.Low,I q0.Heap.High]++(sgE eSpan q0.Eats 2++(sg q0.Extra 3++[SL A6 q0.Days.length c7,I q0.Collier.Low,I q0.Collier.High,I q0.Brings,SL A9 q0.Dips.length c10]))) 29,rd intE 1 A1 c2 a0,rd eCoalDay 3 A6 c7 q0.Days,rd eCoalDip 3 A9 c10 q0.Dips,gW0]:=S38.asP k_
     obtain ⟨_,_,_,_,q59⟩:=hR_ 0 40 rfl (lE rfl) rfl
     obtain ⟨_,_,_,_,⟨A55,c56⟩,q60,p61,a62⟩:=hR_ 7 47 rfl (lE rfl) rfl
     replace q60:e_ 47=SL A55 (a0++([z_2]:List Int)).length c56:=q60
     have S_:=St.addL' S_ (a62 _ (.head _)) (fun _ _ _ h_=>(nE h_))
     refine hopE [(40,vF (.func 41) #[] #[P b4 0,P b5 0]),(47,SL A55 (a0++([z_2]:List Int)).length c56),(48,I a1)] ⟨q59,q60,rQ (hR_ 8 48 rfl (lE rfl) rfl),trivial⟩ ?_
     refine p_cal (ih h65 (S_.atP (i:=1) rfl) (S_.atP (i:=2) rfl) (gr_rd intE_len (S_.atP (i:=0) rfl)) (S_.atP (i:=4) rfl) (S_.atP (i:=5) rfl) (S_.atP (i:=6) rfl)) fu41 rfl ?_
     rintro _ w66 ⟨A68,c69,rfl,k67,⟨o70,n71⟩,_⟩
     have S72:=S_.callN k67 [rd intE 1 A68 c69 r64.1] (cA ⟨o70,Al.inL n71 ((cA (fp_gr (i:=0) rfl) (cA (fp_mem (i:=4) rfl) (cA (fp_mem (i:=5) rfl) nM))))⟩ nM)
     exact wp_nil ⟨_,rfl,S72.keep,⟨(A68,c69),rfl,⟨BtwV.of n71 rfl (S72.atP (i:=0) rfl) rfl (cA (fun b_ h_=>.inl (vblk_sl h_)) (cA (fun b_ h_=>.inr ⟨_,mE (i:=0) rfl,h_⟩) (cA (fun b_ h_=>.inr ⟨_,mE (i:=1) rfl,h_⟩) nM))),trivial⟩,(cA (S72.atP (i:=0) rfl) nM)⟩⟩
    ·intro e_ w_ k_ hf_ hR_
     have S_:St w_ nF w_ [] [bl b5 [vF (.func 41) #[] #[P b4 0,P b5 0]] 95,bl b4 ([I q0.Heap.Low,I q0.Heap.High]++(sgE eSpan q0.Eats 2++(sg q0.Extra 3++[SL A6 q0.Days.length c7,I q0.Collier.Low,I q0.Collier.High,I q0.Brings,SL A9 q0.Dips.length c10]))) 29,rd intE 1 A1 c2 a0,rd eCoalDay 3 A6 c7 q0.Days,rd eCoalDip 3 A9 c10 q0.Dips,gW0]:=S38.asP k_
     obtain ⟨_,_,_,_,⟨A68,c69⟩,q73,p74,a75⟩:=hR_ 9 49 rfl (lE rfl) rfl
     replace q73:e_ 49=TU [SL A68 r64.1.length c69,B r64.2]:=q73
     have S_:=St.addL' S_ (a75 _ (.head _)) (fun _ _ _ h_=>(nE h_))
     refine hopE [(49,TU [SL A68 r64.1.length c69,B r64.2])] ⟨q73,trivial⟩ ?_
     refine p_mT rfl<|wp_nil ?_
     exact ⟨_,rfl,S_.keep,rfl⟩
    ·intro e_ w_ k_ hf_ hR_
     have S_:St w_ nF w_ [] [bl b5 [vF (.func 41) #[] #[P b4 0,P b5 0]] 95,bl b4 ([I q0.Heap.Low,I q0.Heap.High]++(sgE eSpan q0.Eats 2++(sg q0.Extra 3++[SL A6 q0.Days.length c7,I q0.Collier.Low,I q0.Collier.High,I q0.Brings,SL A9 q0.Dips.length c10]))) 29,rd intE 1 A1 c2 a0,rd eCoalDay 3 A6 c7 q0.Days,rd eCoalDip 3 A9 c10 q0.Dips,gW0]:=S38.asP k_
     obtain ⟨_,_,_,_,⟨A68,c69⟩,q77,p78,a79⟩:=hR_ 9 49 rfl (lE rfl) rfl
     replace q77:e_ 49=TU [SL A68 r64.1.length c69,B r64.2]:=q77
     have S_:=St.addL' S_ (a79 _ (.head _)) (fun _ _ _ h_=>(nE h_))
     obtain ⟨_,_,_,_,q76⟩:=hR_ 10 39 rfl (lE rfl) rfl
     replace q76:e_ 39=TU [SL A68 r64.1.length c69,B r64.2]:=(sJ ((congrArg some q77).symm.trans q76)).symm
     refine hopE [(39,TU [SL A68 r64.1.length c69,B r64.2])] ⟨q76,trivial⟩ ?_
     refine p_ext rfl rfl<|wp_nil ?_
     exact ⟨_,rfl,S_.keep,rfl⟩
    ·intro e_ w_ k_ hf_ hR_
     have S_:St w_ nF w_ [] [bl b5 [vF (.func 41) #[] #[P b4 0,P b5 0]] 95,bl b4 ([I q0.Heap.Low,I q0.Heap.High]++(sgE eSpan q0.Eats 2++(sg q0.Extra 3++[SL A6 q0.Days.length c7,I q0.Collier.Low,I q0.Collier.High,I q0.Brings,SL A9 q0.Dips.length c10]))) 29,rd intE 1 A1 c2 a0,rd eCoalDay 3 A6 c7 q0.Days,rd eCoalDip 3 A9 c10 q0.Dips,gW0]:=S38.asP k_
     obtain ⟨_,_,_,_,⟨A68,c69⟩,q81,p82,a83⟩:=hR_ 9 49 rfl (lE rfl) rfl
     replace q81:e_ 49=TU [SL A68 r64.1.length c69,B r64.2]:=q81
     have S_:=St.addL' S_ (a83 _ (.head _)) (fun _ _ _ h_=>(nE h_))
     obtain ⟨_,_,_,_,q80⟩:=hR_ 10 39 rfl (lE rfl) rfl
     replace q80:e_ 39=TU [SL A68 r64.1.length c69,B r64.2]:=(sJ ((congrArg some q81).symm.trans q80)).symm
     refine hopE [(39,TU [SL A68 r64.1.length c69,B r64.2])] ⟨q80,trivial⟩ ?_
     refine p_ext rfl rfl<|wp_nil ?_
     exact ⟨_,rfl,S_.keep,rfl⟩
    ·intro e_ w_ k_ hf_ hR_
     have S_:St w_ nF w_ [] [bl b5 [vF (.func 41) #[] #[P b4 0,P b5 0]] 95,bl b4 ([I q0.Heap.Low,I q0.Heap.High]++(sgE eSpan q0.Eats 2++(sg q0.Extra 3++[SL A6 q0.Days.length c7,I q0.Collier.Low,I q0.Collier.High,I q0.Brings,SL A9 q0.Dips.length c10]))) 29,rd intE 1 A1 c2 a0,rd eCoalDay 3 A6 c7 q0.Days,rd eCoalDip 3 A9 c10 q0.Dips,gW0]:=S38.asP k_
     obtain ⟨_,_,_,_,⟨A68,c69⟩,q86,p87,a88⟩:=hR_ 9 49 rfl (lE rfl) rfl
     replace q86:e_ 49=TU [SL A68 r64.1.length c69,B r64.2]:=q86
     have S_:=St.addL' S_ (a88 _ (.head _)) (fun _ _ _ h_=>(nE h_))
     obtain ⟨_,_,_,_,q85⟩:=hR_ 10 39 rfl (lE rfl) rfl
     replace q85:e_ 39=TU [SL A68 r64.1.length c69,B r64.2]:=(sJ ((congrArg some q86).symm.trans q85)).symm
     obtain ⟨_,_,_,_,q84⟩:=hR_ 11 50 rfl (lE rfl) rfl
     replace q84:e_ 50=SL A68 r64.1.length c69:=(sJ ((congrArg (exG 0) q85).symm.trans q84)).symm
     refine hopE [(50,SL A68 r64.1.length c69)] ⟨q84,trivial⟩ ?_
     refine p_aS rfl<|wp_nil ?_
     exact ⟨_,rfl,S_.keep,rfl⟩
    ·intro e_ w_ k_ hf_ hR_
     have S_:St w_ nF w_ [] [bl b5 [vF (.func 41) #[] #[P b4 0,P b5 0]] 95,bl b4 ([I q0.Heap.Low,I q0.Heap.High]++(sgE eSpan q0.Eats 2++(sg q0.Extra 3++[SL A6 q0.Days.length c7,I q0.Collier.Low,I q0.Collier.High,I q0.Brings,SL A9 q0.Dips.length c10]))) 29,rd intE 1 A1 c2 a0,rd eCoalDay 3 A6 c7 q0.Days,rd eCoalDip 3 A9 c10 q0.Dips,gW0]:=S38.asP k_
     obtain ⟨_,_,_,_,⟨A68,c69⟩,q91,p92,a93⟩:=hR_ 9 49 rfl (lE rfl) rfl
     replace q91:e_ 49=TU [SL A68 r64.1.length c69,B r64.2]:=q91
     have S_:=St.addL' S_ (a93 _ (.head _)) (fun _ _ _ h_=>(nE h_))
     obtain ⟨_,_,_,_,q90⟩:=hR_ 10 39 rfl (lE rfl) rfl
     replace q90:e_ 39=TU [SL A68 r64.1.length c69,B r64.2]:=(sJ ((congrArg some q91).symm.trans q90)).symm
     obtain ⟨_,_,_,_,q89⟩:=hR_ 12 51 rfl (lE rfl) rfl
     replace q89:e_ 51=B r64.2:=(sJ ((congrArg (exG 1) q90).symm.trans q89)).symm
     refine hopE [(51,B r64.2)] ⟨q89,trivial⟩ ?_
     refine p_aB rfl<|wp_nil ?_
     exact ⟨_,rfl,S_.keep,rfl⟩
    intro e94 w95 lo96 hi97 k98 hf99 hR100 hd101
    have S102:=S38.call k98
    have q103:e94 40=vF (.func 41) #[] #[P b4 0,P b5 0]:=(hR100 0 40 (lE rfl) rfl).2.2.2
    have q104:e94 41=SL A1 a0.length c2:=(hR100 1 41 (lE rfl) rfl).2.2.2
    have q105:e94 42=I (a0.length:Int):=(hR100 2 42 (lE rfl) rfl).2.2.2
    have q106:e94 43=I (a0.length:Int):=(hR100 3 43 (lE rfl) rfl).2.2.2
    have q107:e94 44=SL A1 a0.length a0.length:=(hR100 4 44 (lE rfl) rfl).2.2.2
    have q108:e94 45=I z_2:=(hR100 5 45 (lE rfl) rfl).2.2.2
    obtain ⟨h110,h111,h112,⟨A44,c45⟩,q109,h113,h114⟩:=hR100 6 46 (lE rfl) rfl
    replace q109:e94 46=SL A44 ([z_2]:List Int).length c45:=q109
    obtain ⟨p115,_⟩:=h113
    obtain ⟨h118,h119,h120,⟨A55,c56⟩,q117,h121,h122⟩:=hR100 7 47 (lE rfl) rfl
    replace q117:e94 47=SL A55 (a0++([z_2]:List Int)).length c56:=q117
    obtain ⟨p123,_⟩:=h121
    have q125:e94 48=I a1:=(hR100 8 48 (lE rfl) rfl).2.2.2
    obtain ⟨h127,h128,h129,⟨A68,c69⟩,q126,h130,h131⟩:=hR100 9 49 (lE rfl) rfl
    replace q126:e94 49=TU [SL A68 r64.1.length c69,B r64.2]:=q126
    obtain ⟨p132,_⟩:=h130
    have q134:Al w37 [rd eCoalDay 3 A6 c7 q0.Days,rd eCoalDip 3 A9 c10 q0.Dips] (rd intE 1 A68 c69 r64.1):=BtwV.al p132 h127 (fun b_ h_=>by rw [q117] at h_; exact Nat.le_trans h118 ((p123 b_ (vblk_gr h_)).elim (fun q_=>q_.1) (fun ⟨_,hq_,_⟩=>(List.not_mem_nil hq_).elim)))
    have S133:=St.addR S102 (h131 _ (.head _)) (oQ q134 S38 (mG [3,4] rfl))
    have q135:e94 39=TU [SL A68 r64.1.length c69,B r64.2]:=(sJ ((congrArg some q126).symm.trans (hR100 10 39 (lE rfl) rfl).2.2.2)).symm
    have q136:e94 50=SL A68 r64.1.length c69:=(sJ ((congrArg (exG 0) q135).symm.trans (hR100 11 50 (lE rfl) rfl).2.2.2)).symm
    have q137:e94 51=B r64.2:=(sJ ((congrArg (exG 1) q135).symm.trans (hR100 12 51 (lE rfl) rfl).2.2.2)).symm
    have q138:e94 11=SL A68 r64.1.length c69:=(sJ ((congrArg some q136).symm.trans (hR100 13 11 (lE rfl) rfl).2.2.2)).symm
    have q139:e94 12=B r64.2:=(hR100 14 12 (lE rfl) rfl).2.2.2
    refine tailE [(0,SL A1 a0.length c2),(1,I a1),(2,P b4 0),(3,P b5 0),(8,I (a0.length:Int)),(10,I z_2),(11,SL A68 r64.1.length c69),(12,B r64.2)] ⟨((hf99 0 rfl).trans (rfl:_=SL A1 a0.length c2)),((hf99 1 rfl).trans (rfl:_=I a1)),((hf99 2 rfl).trans (rfl:_=P b4 0)),((hf99 3 rfl).trans (rfl:_=P b5 0)),((hf99 8 rfl).trans (rfl:_=I (a0.length:Int))),((hf99 10 rfl).trans (rfl:_=I z_2)),q138,q139,trivial⟩ ?_
    intro g140
    refine wp_nil<|c_seq<|reg<|p_mB rfl<|wp_nil ?_
    refine c_cond rfl (fun c141=>?_) (fun c141=>?_)
    ·replace H:=condT c141 H
     refine c_seq<|reg<|p_mS rfl<|p_aS rfl<|p_aB rfl<|wp_nil ?_
     obtain rfl:=sJ H
     refine c_ret ?_; show bodyPostM (Fr none) 0 Tryd.prog Tryd.f41 _ .ret _ _
     refine ret_of (res2 rfl (rvT (rfl:_=SL A68 r64.1.length c69)) (rvT (rfl:_=B true))) ?_
     exact ⟨_,rfl,A68,c69,rfl,S133.keep,⟨(S133.atP (i:=0) rfl),(Al.up q134 S38.keep.size (cA (Al.self (i:=1) rfl) (cA (Al.self (i:=2) rfl) nM)))⟩,trivial⟩
    ·replace H:=condF c141 H
     refine c_skip<|reg<|p_mI rfl<|p_add rfl rfl<|p_aI rfl<|wp_nil ?_
     have S142:=S133.pk [] (by decide) [1,2,3,4,5,6] rfl rfl
     exact ⟨wr (z_2+1),(),_,rfl,⟨rfl,rfl,rfl,rfl,rfl,rfl,trivial⟩,H,S142⟩
   ·replace H:=condF c39 H
    refine c_exit<|c_seq<|reg<|p_aS rfl<|p_aB rfl<|wp_nil ?_
    obtain rfl:=sJ H
    refine c_ret ?_; show bodyPostM (Fr none) 0 Tryd.prog Tryd.f41 _ .ret _ _
    refine ret_of (res2 rfl (rvT (rfl:_=SL none 0 0)) (rvT (rfl:_=B false))) ?_
    exact ⟨_,rfl,none,0,rfl,S38.keep,⟨rd_nil (Nat.zero_le _),Al.nil⟩,trivial⟩
def coal_Wrong_l2 (a0:CoalBook) (rec_z_1:Int→Option ((List Int)×Int)) (z_1:Int):Option ((List Int)×Int):=
 bif decide (z_1 < (wr ((a0.Dips.length:Int)+1))) then ((coal_Wrong_1 big ([]:List _) z_1 a0).bind fun r26=>
 bif r26.2 then (some (r26.1,0))
 else (rec_z_1 (wr (z_1+1))))
 else (some (([]:List _),0))
def coal_Wrong (a0:CoalBook):Option ((List Int)×Int):=
 (coal_Check a0).bind fun r11=>
 bif (r11 != 0) then (some (([]:List _),r11))
 else (loopF (coal_Wrong_l2 a0) big 0)
set_option maxRecDepth 100000 in
theorem coal_Wrong_ok {a0:CoalBook}{A1:Option Addr}{c2:Nat}{A4:Option Addr}{c5:Nat}{w:World}{r:(List Int)×Int} (H:coal_Wrong a0=some r) (h3:(rd eCoalDay 3 A1 c2 a0.Days).ok w) (h6:(rd eCoalDip 3 A4 c5 a0.Dips).ok w) (hg7:(gW0).ok w):Calls Tryd.prog 12 #[AG ([I a0.Heap.Low,I a0.Heap.High]++(sgE eSpan a0.Eats 2++(sg a0.Extra 3++[SL A1 a0.Days.length c2,I a0.Collier.Low,I a0.Collier.High,I a0.Brings,SL A4 a0.Dips.length c5])))] w fun en w_=>∃ u_,en=.returned u_∧∃ A_1:Option Addr,∃ c_2:Nat,u_=TU [SL A_1 r.1.length c_2,I r.2]∧Keep0 w w_∧((rd intE 1 A_1 c_2 r.1).ok w_∧Al w [rd eCoalDay 3 A1 c2 a0.Days,rd eCoalDip 3 A4 c5 a0.Dips] (rd intE 1 A_1 c_2 r.1))∧True:=by
 unfold coal_Wrong at H
 refine fn_of (n:=36) Tryd.func12 rfl rfl (lE rfl) ?_
 have S:=St.start w nF _ (cA h3 (cA h6 (cA hg7 nM)))
 refine c_seq<|reg<|p_boxA rfl S fun b8 w9 S10=>p_aS rfl<|p_aI rfl<|wp_nil<|c_seq<|c_seq<|reg<|p_ldA ty29 sz29 (S10.atX (i:=0) rfl) rfl rfl ?_
 obtain ⟨r11,h12,H⟩:=bindS H
 refine p_cv (coal_Check_ok h12 (S10.atP (i:=0) rfl) (S10.atP (i:=1) rfl)) fu30 rfl S10 fun w13 S14=>p_aI rfl<|wp_nil<|c_seq<|reg<|p_mI rfl<|p_cmp rfl rfl rfl<|wp_nil ?_
 refine c_cond rfl (fun c15=>?_) (fun c15=>?_)
 ·replace H:=condT c15 H
  refine c_seq<|reg<|p_mI rfl<|p_aS rfl<|p_aI rfl<|wp_nil ?_
  obtain rfl:=sJ H
  refine c_ret ?_; show bodyPostM (Fr none) 0 Tryd.prog Tryd.f12 _ .ret _ _
  refine ret_of (res2 rfl (rvT (rfl:_=SL none 0 0)) (rvT (rfl:_=I r11))) ?_
  exact ⟨_,rfl,none,0,rfl,S14.keep,⟨rd_nil (Nat.zero_le _),Al.nil⟩,trivial⟩
 ·replace H:=condF c15 H
  refine c_skip<|c_seq<|reg<|p_all in95 rfl S14 fun b16 w17 S18=>wp_nil<|c_seq<|reg ?_
  refine o_fun (rfl:_=[]) (rfl:_=[P b8 0,P b16 0]) ?_
  refine p_st sz95 S18 (i:=0) rfl rfl (rfl:_=vF (.func 41) #[] #[P b8 0,P b16 0]) rfl rfl fun w19 S20=>wp_nil<|c_seq<|c_seq<|reg<|p_fld fl29_6 rfl<|p_ld ty27 (S20.atX (i:=1) rfl) rfl rfl<|p_len rfl sc27<|p_add rfl rfl<|p_mI rfl<|wp_nil<|c_block ?_
  refine c_lop (α:=Int) (β:=Unit) (coal_Wrong_l2 a0) (fun z_1 y_1=>[(5,P b16 0),(18,I (wr ((a0.Dips.length:Int)+1))),(19,I z_1)]) (fun z_1 y_1 w_=>St w nF w_ [bl b16 [vF (.func 41) #[] #[P b8 0,P b16 0]] 95,bl b8 ([I a0.Heap.Low,I a0.Heap.High]++(sgE eSpan a0.Eats 2++(sg a0.Extra 3++[SL A1 a0.Days.length c2,I a0.Collier.Low,I a0.Collier.High,I a0.Brings,SL A4 a0.Dips.length c5]))) 29] [rd eCoalDay 3 A1 c2 a0.Days,rd eCoalDip 3 A4 c5 a0.Dips,gW0]) 0 () H ⟨rfl,rfl,rfl,trivial⟩ S20 ?_
  intro m21 z_1 y_1 e22 w23 H S24
  unfold coal_Wrong_l2 at H
  refine c_seq<|reg<|p_cmp rfl rfl rfl<|wp_nil<|c_seq ?_
  refine c_cond rfl (fun c25=>?_) (fun c25=>?_)
  ·replace H:=condT c25 H
   refine c_skip<|c_seq<|c_block<|c_seq<|reg<|p_mI rfl<|p_aI rfl<|wp_nil<|c_seq<|reg<|p_ld ty95 (S24.atX (i:=0) rfl) rfl rfl<|p_mI rfl ?_
   obtain ⟨r26,h27,H⟩:=bindS H
   refine p_cal (coal_Wrong_1_ok h27 (S24.atX (i:=0) rfl) (S24.atX (i:=1) rfl) (rd_nil (Nat.zero_le _)) (S24.atP (i:=0) rfl) (S24.atP (i:=1) rfl) (S24.atP (i:=2) rfl)) fu41 rfl ?_
   rintro _ w28 ⟨A30,c31,rfl,k29,⟨o32,n33⟩,_⟩
   have S34:=S24.callN k29 [rd intE 1 A30 c31 r26.1] (cA ⟨o32,Al.inL n33 ((cA fp_nil (cA (fp_mem (i:=0) rfl) (cA (fp_mem (i:=1) rfl) nM))))⟩ nM)
   refine p_mT rfl<|p_ext rfl rfl<|p_ext rfl rfl<|p_aS rfl<|p_aB rfl<|wp_nil<|c_seq<|reg<|p_mB rfl<|wp_nil ?_
   refine c_cond rfl (fun c35=>?_) (fun c35=>?_)
   ·replace H:=condT c35 H
    refine c_seq<|reg<|p_mS rfl<|p_mS rfl<|p_len rfl sc42<|p_mS rfl<|p_len rfl sc42<|p_cut3 sc42 (S34.atP (i:=0) rfl) rfl rfl rfl<|p_aS rfl<|p_aI rfl<|wp_nil ?_
    obtain rfl:=sJ H
    refine c_ret ?_; show bodyPostM (Fr none) 0 Tryd.prog Tryd.f12 _ .ret _ _
    refine ret_of (res2 rfl (rvT (rfl:_=SL A30 r26.1.length r26.1.length)) (rvT (rfl:_=I 0))) ?_
    exact ⟨_,rfl,A30,r26.1.length,rfl,S34.keep,⟨(rd_full (S34.atP (i:=0) rfl)),Al.rdr (Al.up n33 S24.keep.size (cA Al.nil (cA (Al.self (i:=0) rfl) (cA (Al.self (i:=1) rfl) nM))))⟩,trivial⟩
   ·replace H:=condF c35 H
    refine c_skip<|reg<|p_add rfl rfl<|p_mI rfl<|wp_nil ?_
    have S36:=S34.pk [0,1] (by decide) [1,2,3] rfl rfl
    exact ⟨wr (z_1+1),(),_,rfl,⟨rfl,rfl,rfl,trivial⟩,H,S36⟩
  ·replace H:=condF c25 H
   refine c_exit<|c_seq<|reg<|p_aS rfl<|p_aI rfl<|wp_nil ?_
   obtain rfl:=sJ H
   refine c_ret ?_; show bodyPostM (Fr none) 0 Tryd.prog Tryd.f12 _ .ret _ _
   refine ret_of (res2 rfl (rvT (rfl:_=SL none 0 0)) (rvT (rfl:_=I 0))) ?_
   exact ⟨_,rfl,none,0,rfl,S24.keep,⟨rd_nil (Nat.zero_le _),Al.nil⟩,trivial⟩
def tally_some_1 (a0:TallyCount) (a1:Int) (q0:List Int):Option Bool:=
 (sl_Contains_int_int q0 a1).bind fun r9=>
 some r9
set_option maxRecDepth 100000 in
theorem tally_some_1_ok {a0:TallyCount}{a1:Int}{q0:List Int}{b1:Nat}{A2:Option Addr}{c3:Nat}{w:World}{r:Bool} (H:tally_some_1 a0 a1 q0=some r) (h5:(bl b1 [SL A2 q0.length c3] 42).ok w) (h4:(rd intE 1 A2 c3 q0).ok w):Calls Tryd.prog 74 #[AG [I a0.Who,I a0.From,I a0.To,I a0.Told,I a0.Unit,I a0.Under,I a0.Over],I a1,P b1 0] w (RetV w (B r)):=by
 unfold tally_some_1 at H
 refine fn_of (n:=9) Tryd.func74 rfl rfl (lE rfl) ?_
 have S:=St.start w nF _ (cA h5 (cA h4 nM))
 refine c_seq<|reg<|p_boxA rfl S fun b6 w7 S8=>p_aB rfl<|wp_nil<|c_seq<|reg<|p_ld ty42 (S8.atP (i:=0) rfl) rfl rfl<|p_mI rfl ?_
 obtain ⟨r9,h10,H⟩:=bindS H
 refine p_cv (sl_Contains_int_int_ok h10 (S8.atP (i:=1) rfl)) fu68 rfl S8 fun w11 S12=>p_aB rfl<|wp_nil ?_
 obtain rfl:=sJ H
 exact c_ret (rT Tryd.f74 S12.keep rfl rfl)
def tally_some (a0:List Int):Option Unit:=
 some ()
set_option maxRecDepth 100000 in
theorem tally_some_ok {a0:List Int}{A1:Option Addr}{c2:Nat}{w:World}{r:Unit} (H:tally_some a0=some r) (h3:(rd intE 1 A1 c2 a0).ok w):Calls Tryd.prog 43 #[SL A1 a0.length c2] w fun en w_=>∃ u_,en=.returned u_∧∃ b_1:Nat,u_=AG [vF (.func 74) #[] #[P b_1 0]]∧Keep0 w w_∧((bl b_1 [SL A1 a0.length c2] 42).ok w_∧New w.heap.size (bl b_1 [SL A1 a0.length c2] 42))∧True:=by
 unfold tally_some at H
 refine fn_of (n:=5) Tryd.func43 rfl rfl (lE rfl) ?_
 have S:=St.start w nF _ (cA h3 nM)
 refine c_seq<|reg<|p_box (rfl:_=SL A1 a0.length c2) rfl S fun b4 w5 S6=>p_allA in93 S6 fun b7 w8 S9=>wp_nil<|c_seq<|reg ?_
 refine o_fun (rfl:_=[]) (rfl:_=[P b4 0]) ?_
 refine p_bld (cs:=[vF (.func 74) #[] #[P b4 0]]) st93 (rfl:_=[(0,vF (.func 74) #[] #[P b4 0])]) (by kernel_rfl)<|p_stP (pre:=[]) (old:=[Value.nilFunc]) (post:=[]) (vs:=[vF (.func 74) #[] #[P b4 0]]) sz93 S9 (i:=0) rfl rfl rfl rfl (rfl:_=AG [vF (.func 74) #[] #[P b4 0]]) rfl rfl rfl rfl fun w10 S11=>wp_nil ?_
 obtain rfl:=sJ H
 refine c_ret ?_; show bodyPostM (Fr none) 0 Tryd.prog Tryd.f43 _ .ret _ _
 refine ret_of (res1 rfl (rvA rfl ty93 sz93 (S11.atX (i:=0) rfl) rfl)) ?_
 exact ⟨_,rfl,b4,rfl,S11.keep,⟨S11.atX (i:=1) rfl,S11.newX (i:=1) rfl⟩,trivial⟩
def tally_Wrong_1_l3 (q0:TallyBook) (a0:List Int) (rec_:(List Int)→Int→Option ((List Int)×Bool)) (a1:Int) (rec_z_2:Int→Option ((List Int)×Bool)) (z_2:Int):Option ((List Int)×Bool):=
 bif decide (z_2 < (q0.Counts.length:Int)) then (need (fitsL (a0.length+([z_2]:List Int).length) 8)<|
 (rec_ (a0++([z_2]:List Int)) a1).bind fun r83=>
 bif r83.2 then (some (r83.1,true))
 else (rec_z_2 (wr (z_2+1))))
 else (some (([]:List _),false))
def tally_Wrong_1_j4 (q0:TallyBook) (a0:List Int) (rec_:(List Int)→Int→Option ((List Int)×Bool)) (a1:Int) (z_1:Int):Option ((List Int)×Bool):=
 loopF (tally_Wrong_1_l3 q0 a0 rec_ a1) big z_1
def tally_Wrong_1_F (rec_:(List Int)→Int→Option ((List Int)×Bool)) (a0:List Int) (a1:Int) (q0:TallyBook):Option ((List Int)×Bool):=
 bif ((a0.length:Int)==a1) then ((tally_some a0).bind fun r17=>
 (tally_opened q0 (Tally_leave.mk (fun y28 y29=>tally_some_1 y28 y29 a0))).bind fun r30=>
 (tally_book_can (Tally_book.mk (TallyBook.mk r30.TallyBook.Trips r30.TallyBook.Room q0.Counts) r30.more_)).bind fun r41=>
 some (a0,r41))
 else (bif decide ((a0.length:Int) > 0) then ((getI a0 (wr ((a0.length:Int) - 1))).bind fun r52=>
 tally_Wrong_1_j4 q0 a0 rec_ a1 (wr (r52+1)))
 else (tally_Wrong_1_j4 q0 a0 rec_ a1 0))
def tally_Wrong_1:Nat→(List Int)→Int→TallyBook→Option ((List Int)×Bool)
 | 0,_,_,_=>none
 | n+1,a0,a1,q0=>tally_Wrong_1_F (fun x0_ x1_=>tally_Wrong_1 n x0_ x1_ q0) a0 a1 q0
set_option maxRecDepth 100000 in
theorem tally_Wrong_1_ok {n:Nat}:∀ {a0:List Int}{a1:Int}{q0:TallyBook}{A1:Option Addr}{c2:Nat}{b4:Nat}{A6:Option Addr}{c7:Nat}{b5:Nat}{w:World}{r:(List Int)×Bool} (H:tally_Wrong_1 n a0 a1 q0=some r) (h10:(bl b5 [vF (.func 42) #[] #[P b4 0,P b5 0]] 95).ok w) (h9:(bl b4 [I q0.Trips,I q0.Room,SL A6 q0.Counts.length c7] 35).ok w) (h3:(rd intE 1 A1 c2 a0).ok w) (h8:(rd eTallyCount 7 A6 c7 q0.Counts).ok w) (hg11:(gW1).ok w) (hg12:(gW3).ok w),Calls Tryd.prog 42 #[SL A1 a0.length c2,I a1,P b4 0,P b5 0] w fun en w_=>∃ u_,en=.returned u_∧∃ A_1:Option Addr,∃ c_2:Nat,u_=TU [SL A_1 r.1.length c_2,B r.2]∧Keep0 w w_∧((rd intE 1 A_1 c_2 r.1).ok w_∧Al w [rd intE 1 A1 c2 a0,rd eTallyCount 7 A6 c7 q0.Counts] (rd intE 1 A_1 c_2 r.1))∧True:=by
 induction n with
 | zero=>intro a0 a1 q0 A1 c2 b4 A6 c7 b5 w r H h10 h9 h3 h8 hg11 hg12; cases H
 | succ n ih=>
 intro a0 a1 q0 A1 c2 b4 A6 c7 b5 w r H h10 h9 h3 h8 hg11 hg12
 unfold tally_Wrong_1 tally_Wrong_1_F at H
 refine fn_of (n:=55) Tryd.func42 rfl rfl (lE rfl) ?_
 have S:=St.start w nF _ (cA h10 (cA h9 (cA h3 (cA h8 (cA hg11 (cA hg12 nM))))))
 refine c_seq<|reg<|p_aS rfl<|p_aB rfl<|wp_nil<|c_seq<|reg<|p_mS rfl<|p_len rfl sc42<|p_aI rfl<|wp_nil<|c_seq<|c_seq<|reg<|p_mI rfl<|p_mI rfl<|p_cmp rfl rfl rfl<|wp_nil ?_
 refine c_cond rfl (fun c13=>?_) (fun c13=>?_)
 ·replace H:=condT c13 H
  refine c_seq ?_
  refine reg_c mixed 8 [3,4,5,7] (by kernel_rfl) ?_
  refine kS rfl (fun _ k_=>p_mS rfl dn)<|kS rfl (fun _ k_=>p_ldA ty35 sz35 (aS (S.atP (i:=1) rfl) k_) rfl rfl dn)<|kS rfl (fun _ k_=>p_mS rfl dn)<|kC rfl<|kC rfl<|kC rfl<|kS rfl (fun _ k_=>p_aS rfl dn)<|kC rfl ?_
  intro w14 k15; have S16:=S.call k15
  obtain ⟨r17,h18,H⟩:=bindS H
  refine p_cal (tally_some_ok h18 (S16.atP (i:=2) rfl)) fu43 rfl ?_
  rintro _ w19 ⟨b21,rfl,k20,⟨o22,n23⟩,_⟩
  have S24:=S16.addNew k20 o22 n23
  refine cN k20 fun w25 k26=>?_
  have S27:=S24.call k26
  obtain ⟨r30,h31,H⟩:=bindS H
  refine p_cal (tally_opened_ok h31 (S27.atP (i:=3) rfl) (by kernel_rfl) (fun _ _ _ _ k_ hr_=>tally_some_1_ok hr_ (aS (S27.atX (i:=0) rfl) k_) (aS (S27.atP (i:=2) rfl) k_)) (S27.atP (i:=4) rfl)) fu38 rfl ?_
  rintro _ w32 ⟨m34,rfl,k33,⟨o35,n36⟩,_⟩
  have S37:=S27.addNew k33 o35 n36
  refine cN k33 fun w38 k39=>?_
  have S40:=S37.call k39
  obtain ⟨r41,h42,H⟩:=bindS H
  refine p_cal (tally_book_can_ok h42 (S40.atP (i:=3) rfl) (mpo_some (S40.atX (i:=0) rfl)) (S40.atP (i:=5) rfl)) fu40 rfl ?_
  rintro _ w43 ⟨rfl,k44⟩; refine cN k44 fun w45 k46=>?_
  have S47:=(S40.call k44).call k46
  refine p_aB rfl (cN (kR) fun w48 k49=>?_)
  have S50:=S47.call k49
  refine wp_nil ?_
  obtain rfl:=sJ H
  refine c_ret ?_; show bodyPostM (Fr none) 0 Tryd.prog Tryd.f42 _ .ret _ _
  refine ret_of (res2 rfl (rvT (rfl:_=SL A1 a0.length c2)) (rvT (rfl:_=B r41))) ?_
  exact ⟨_,rfl,A1,c2,rfl,S50.keep,⟨(S50.atP (i:=2) rfl),Al.self (i:=0) rfl⟩,trivial⟩
 ·replace H:=condF c13 H
  refine c_skip<|c_seq<|reg<|p_aI rfl<|wp_nil ?_
  refine c_join (α:=Int) (β:=Unit) (fun z_1 y_1=>[(0,SL A1 a0.length c2),(1,I a1),(2,P b4 0),(3,P b5 0),(8,I (a0.length:Int)),(9,I z_1)]) (fun z_1 y_1 w_=>tally_Wrong_1_j4 q0 a0 (fun x0_ x1_=>tally_Wrong_1 n x0_ x1_ q0) a1 z_1=some r∧St w nF w_ [] [bl b5 [vF (.func 42) #[] #[P b4 0,P b5 0]] 95,bl b4 [I q0.Trips,I q0.Room,SL A6 q0.Counts.length c7] 35,rd intE 1 A1 c2 a0,rd eTallyCount 7 A6 c7 q0.Counts,gW1,gW3]) ?_ ?_
  ·refine c_seq<|reg<|p_mI rfl<|p_cmp rfl rfl rfl<|wp_nil ?_
   refine c_cond rfl (fun c51=>?_) (fun c51=>?_)
   ·replace H:=condT c51 H
    refine reg<|p_mS rfl<|p_mI rfl<|p_sub rfl rfl ?_
    obtain ⟨r52,h53,H⟩:=bindS H
    refine p_ixE sc42 h53 (S.atP (i:=2) rfl).1 rfl rfl rfl<|p_ldE ty3 h53 (S.atP (i:=2) rfl).1 rfl rfl<|p_add rfl rfl<|p_aI rfl<|wp_nil ?_
    exact ⟨wr (r52+1),(),_,rfl,⟨rfl,rfl,rfl,rfl,rfl,rfl,trivial⟩,H,S⟩
   ·replace H:=condF c51 H
    refine c_skip ?_
    exact ⟨0,(),_,rfl,⟨rfl,rfl,rfl,rfl,rfl,rfl,trivial⟩,H,S⟩
  ·intro z_1 y_1 e51 w52 S53; obtain ⟨H,S53⟩:=S53
   unfold tally_Wrong_1_j4 at H
   refine c_seq<|c_seq<|reg<|p_mI rfl<|p_aI rfl<|wp_nil<|c_block ?_
   refine c_lop (α:=Int) (β:=Unit) (tally_Wrong_1_l3 q0 a0 (fun x0_ x1_=>tally_Wrong_1 n x0_ x1_ q0) a1) (fun z_2 y_2=>[(0,SL A1 a0.length c2),(1,I a1),(2,P b4 0),(3,P b5 0),(8,I (a0.length:Int)),(10,I z_2)]) (fun z_2 y_2 w_=>St w nF w_ [] [bl b5 [vF (.func 42) #[] #[P b4 0,P b5 0]] 95,bl b4 [I q0.Trips,I q0.Room,SL A6 q0.Counts.length c7] 35,rd intE 1 A1 c2 a0,rd eTallyCount 7 A6 c7 q0.Counts,gW1,gW3]) z_1 () H ⟨rfl,rfl,rfl,rfl,rfl,rfl,trivial⟩ S53 ?_
   intro m54 z_2 y_2 e55 w56 H S57
   unfold tally_Wrong_1_l3 at H
   refine c_seq<|c_seq<|reg<|p_mI rfl<|p_fld fl35_2 rfl<|p_ld ty33 (S57.atP (i:=1) rfl) rfl rfl<|p_len rfl sc33<|p_cmp rfl rfl rfl<|wp_nil ?_
   refine c_cond rfl (fun c58=>?_) (fun c58=>?_)
   ·replace H:=condT c58 H
    refine c_skip<|c_seq<|c_block<|c_seq ?_
    obtain ⟨h76,H⟩:=needS H
    obtain ⟨r83,h84,H⟩:=bindS H
    refine reg_any mixed 15 (by kernel_rfl) [rv (vF (.func 42) #[] #[P b4 0,P b5 0]),rv (SL A1 a0.length c2),rv (I (a0.length:Int)),rv (I (a0.length:Int)),rv (SL A1 a0.length a0.length),rv (I z_2),rx (α:=(Option Addr)×Nat) (fun ⟨A63,c64⟩=>SL A63 ([z_2]:List Int).length c64) (fun ⟨A63,c64⟩ lo hi=>BtwL lo hi [] (gr intE 1 3 A63 c64 ([z_2]:List Int))∧True) (fun ⟨A63,c64⟩=>[gr intE 1 3 A63 c64 ([z_2]:List Int)]),rx (α:=(Option Addr)×Nat) (fun ⟨A74,c75⟩=>SL A74 (a0++([z_2]:List Int)).length c75) (fun ⟨A74,c75⟩ lo hi=>BtwL lo hi [] (gr intE 1 3 A74 c75 (a0++([z_2]:List Int)))∧True) (fun ⟨A74,c75⟩=>[gr intE 1 3 A74 c75 (a0++([z_2]:List Int))]),rv (I a1),rxd 48 (α:=(Option Addr)×Nat) (fun ⟨A87,c88⟩=>TU [SL A87 r83.1.length c88,B r83.2]) (fun ⟨A87,c88⟩ lo hi ev=>BtwV lo hi [rd eTallyCount 7 A6 c7 q0.Counts] ev (rd intE 1 A87 c88 r83.1)∧True) (fun ⟨A87,c88⟩=>[rd intE 1 A87 c88 r83.1]),dv 50 some,dv 40 (exG 0),dv 40 (exG 1),dv 51 some,rv (B r83.2)] [[],[],[],[],[],[],[],[],[],[48],[50],[40],[40],[51],[]] rfl (by kernel_rfl) [[],[],[],[],[1,2,3],[],[5],[1,2,3,4,5,6],[],[0,1,2,3,4,5,6,7,8],[0,1,2,3,4,5,6,7,8,9],[0,1,2,3,4,5,6,7,8,9,10],[0,1,2,3,4,5,6,7,8,9,10],[0,1,2,3,4,5,6,7,8,9,10,11],[0,1,2,3,4,5,6,7,8,9,10,11,12,13]] (by kernel_rfl) ⟨?_,?_,?_,?_,?_,?_,?_,?_,?_,?_,?_,?_,?_,?_,?_,trivial⟩ ?_
    ·intro e_ w_ k_ hf_ hR_
     have S_:St w_ nF w_ [] [bl b5 [vF (.func 42) #[] #[P b4 0,P b5 0]] 95,bl b4 [I q0.Trips,I q0.Room,SL A6 q0.Counts.length c7] 35,rd intE 1 A1 c2 a0,rd eTallyCount 7 A6 c7 q0.Counts,gW1,gW3]:=S57.asP k_
     refine hopE [(3,P b5 0)] ⟨((hf_ 3 rfl).trans (rfl:_=P b5 0)),trivial⟩ ?_
     exact p_ld ty95 (S_.atP (i:=0) rfl) rfl rfl<|wp_nil ⟨_,rfl,S_.keep,rfl⟩
    ·intro e_ w_ k_ hf_ hR_
     have S_:St w_ nF w_ [] [bl b5 [vF (.func 42) #[] #[P b4 0,P b5 0]] 95,bl b4 [I q0.Trips,I q0.Room,SL A6 q0.Counts.length c7] 35,rd intE 1 A1 c2 a0,rd eTallyCount 7 A6 c7 q0.Counts,gW1,gW3]:=S57.asP k_
     refine hopE [(0,SL A1 a0.length c2)] ⟨((hf_ 0 rfl).trans (rfl:_=SL A1 a0.length c2)),trivial⟩ ?_
     refine p_mS rfl<|wp_nil ?_
     exact ⟨_,rfl,S_.keep,rfl⟩
    ·intro e_ w_ k_ hf_ hR_
     have S_:St w_ nF w_ [] [bl b5 [vF (.func 42) #[] #[P b4 0,P b5 0]] 95,bl b4 [I q0.Trips,I q0.Room,SL A6 q0.Counts.length c7] 35,rd intE 1 A1 c2 a0,rd eTallyCount 7 A6 c7 q0.Counts,gW1,gW3]:=S57.asP k_
     refine hopE [(8,I (a0.length:Int))] ⟨((hf_ 8 rfl).trans (rfl:_=I (a0.length:Int))),trivial⟩ ?_
     exact p_mI rfl<|wp_nil ⟨_,rfl,S_.keep,rfl⟩
    ·intro e_ w_ k_ hf_ hR_
     have S_:St w_ nF w_ [] [bl b5 [vF (.func 42) #[] #[P b4 0,P b5 0]] 95,bl b4 [I q0.Trips,I q0.Room,SL A6 q0.Counts.length c7] 35,rd intE 1 A1 c2 a0,rd eTallyCount 7 A6 c7 q0.Counts,gW1,gW3]:=S57.asP k_
     refine hopE [(8,I (a0.length:Int))] ⟨((hf_ 8 rfl).trans (rfl:_=I (a0.length:Int))),trivial⟩ ?_
     exact p_mI rfl<|wp_nil ⟨_,rfl,S_.keep,rfl⟩
    ·intro e_ w_ k_ hf_ hR_
     have S_:St w_ nF w_ [] [bl b5 [vF (.func 42) #[] #[P b4 0,P b5 0]] 95,bl b4 [I q0.Trips,I q0.Room,SL A6 q0.Counts.length c7] 35,rd intE 1 A1 c2 a0,rd eTallyCount 7 A6 c7 q0.Counts,gW1,gW3]:=S57.asP k_
     refine hopE [(42,SL A1 a0.length c2),(43,I (a0.length:Int)),(44,I (a0.length:Int))] ⟨rQ (hR_ 1 42 rfl (lE rfl) rfl),rQ (hR_ 2 43 rfl (lE rfl) rfl),rQ (hR_ 3 44 rfl (lE rfl) rfl),trivial⟩ ?_
     refine p_cut3 sc42 (S_.atP (i:=2) rfl) rfl rfl rfl<|wp_nil ?_
     exact ⟨_,rfl,S_.keep,rfl⟩
    ·intro e_ w_ k_ hf_ hR_
     have S_:St w_ nF w_ [] [bl b5 [vF (.func 42) #[] #[P b4 0,P b5 0]] 95,bl b4 [I q0.Trips,I q0.Room,SL A6 q0.Counts.length c7] 35,rd intE 1 A1 c2 a0,rd eTallyCount 7 A6 c7 q0.Counts,gW1,gW3]:=S57.asP k_
     refine hopE [(10,I z_2)] ⟨((hf_ 10 rfl).trans (rfl:_=I z_2)),trivial⟩ ?_
     exact p_mI rfl<|wp_nil ⟨_,rfl,S_.keep,rfl⟩
    ·intro e_ w_ k_ hf_ hR_
     have S_:St w_ nF w_ [] [bl b5 [vF (.func 42) #[] #[P b4 0,P b5 0]] 95,bl b4 [I q0.Trips,I q0.Room,SL A6 q0.Counts.length c7] 35,rd intE 1 A1 c2 a0,rd eTallyCount 7 A6 c7 q0.Counts,gW1,gW3]:=S57.asP k_
     refine hopE [(46,I z_2)] ⟨rQ (hR_ 5 46 rfl (lE rfl) rfl),trivial⟩ ?_
     refine p_bsl (enc:=intE) (l:=([z_2]:List Int)) I (fun _=>rfl) sc42 in3 intE_len rfl (by decide) (by decide) zr3_1 S_ rfl fun A63 c64 w65 S66=>wp_nil ?_
     exact ⟨_,rfl,S66.keep,⟨(A63,c64),rfl,⟨bL (New.al (S66.newX (i:=0) rfl)) rfl (S66.atX (i:=0) rfl) rfl,trivial⟩,(cA (S66.atX (i:=0) rfl) nM)⟩⟩
    ·intro e_ w_ k_ hf_ hR_
     have S_:St w_ nF w_ [] [bl b5 [vF (.func 42) #[] #[P b4 0,P b5 0]] 95,bl b4 [I q0.Trips,I q0.Room,SL A6 q0.Counts.length c7] 35,rd intE 1 A1 c2 a0,rd eTallyCount 7 A6 c7 q0.Counts,gW1,gW3]:=S57.asP k_
     obtain ⟨_,_,_,_,q68⟩:=hR_ 4 45 rfl (lE rfl) rfl
     obtain ⟨_,_,_,_,⟨A63,c64⟩,q69,p70,a71⟩:=hR_ 6 47 rfl (lE rfl) rfl
     replace q69:e_ 47=SL A63 ([z_2]:List Int).length c64:=q69
     have S_:=St.addL' S_ (a71 _ (.head _)) (fun _ _ _ h_=>(nE h_))
     refine hopE [(45,SL A1 a0.length a0.length),(47,SL A63 ([z_2]:List Int).length c64)] ⟨q68,q69,trivial⟩ ?_
     refine p_appN (enc:=intE) sc42 in3 rfl intE_len (by decide) S_ (rd_full (S_.atP (i:=3) rfl)).1 rfl (gr_sl intE_len (S_.atP (i:=0) rfl)) h76 (by simp) rfl rfl fun A74 c75 w72 S73=>wp_nil ?_
     exact ⟨_,rfl,S73.keep,⟨(A74,c75),rfl,⟨bL (New.al (S73.newX (i:=0) rfl)) rfl (S73.atX (i:=0) rfl) rfl,trivial⟩,(cA (S73.atX (i:=0) rfl) nM)⟩⟩
    ·intro e_ w_ k_ hf_ hR_
     have S_:St w_ nF w_ [] [bl b5 [vF (.func 42) #[] #[P b4 0,P b5 0]] 95,bl b4 [I q0.Trips,I q0.Room,SL A6 q0.Counts.length c7] 35,rd intE 1 A1 c2 a0,rd eTallyCount 7 A6 c7 q0.Counts,gW1,gW3]:=S57.asP k_
     refine hopE [(1,I a1)] ⟨((hf_ 1 rfl).trans (rfl:_=I a1)),trivial⟩ ?_
     exact p_mI rfl<|wp_nil ⟨_,rfl,S_.keep,rfl⟩
    ·intro e_ w_ k_ hf_ hR_
     have S_:St w_ nF w_ [] [bl b5 [vF (.func 42) #[] #[P b4 0,P b5 0]] 95,bl b4 [I q0.Trips,I q0.Room,SL A6 q0.Counts.length c7] 35,rd intE 1 A1 c2 a0,rd eTallyCount 7 A6 c7 q0.Counts,gW1,gW3]:=S57.asP k_
     obtain ⟨_,_,_,_,q78⟩:=hR_ 0 41 rfl (lE rfl) rfl
     obtain ⟨_,_,_,_,⟨A74,c75⟩,q79,p80,a81⟩:=hR_ 7 48 rfl (lE rfl) rfl
     replace q79:e_ 48=SL A74 (a0++([z_2]:List Int)).length c75:=q79
     have S_:=St.addL' S_ (a81 _ (.head _)) (fun _ _ _ h_=>(nE h_))
     refine hopE [(41,vF (.func 42) #[] #[P b4 0,P b5 0]),(48,SL A74 (a0++([z_2]:List Int)).length c75),(49,I a1)] ⟨q78,q79,rQ (hR_ 8 49 rfl (lE rfl) rfl),trivial⟩ ?_
     refine p_cal (ih h84 (S_.atP (i:=1) rfl) (S_.atP (i:=2) rfl) (gr_rd intE_len (S_.atP (i:=0) rfl)) (S_.atP (i:=4) rfl) (S_.atP (i:=5) rfl) (S_.atP (i:=6) rfl)) fu42 rfl ?_
     rintro _ w85 ⟨A87,c88,rfl,k86,⟨o89,n90⟩,_⟩
     have S91:=S_.callN k86 [rd intE 1 A87 c88 r83.1] (cA ⟨o89,Al.inL n90 ((cA (fp_gr (i:=0) rfl) (cA (fp_mem (i:=4) rfl) nM)))⟩ nM)
     exact wp_nil ⟨_,rfl,S91.keep,⟨(A87,c88),rfl,⟨BtwV.of n90 rfl (S91.atP (i:=0) rfl) rfl (cA (fun b_ h_=>.inl (vblk_sl h_)) (cA (fun b_ h_=>.inr ⟨_,mE (i:=0) rfl,h_⟩) nM)),trivial⟩,(cA (S91.atP (i:=0) rfl) nM)⟩⟩
    ·intro e_ w_ k_ hf_ hR_
     have S_:St w_ nF w_ [] [bl b5 [vF (.func 42) #[] #[P b4 0,P b5 0]] 95,bl b4 [I q0.Trips,I q0.Room,SL A6 q0.Counts.length c7] 35,rd intE 1 A1 c2 a0,rd eTallyCount 7 A6 c7 q0.Counts,gW1,gW3]:=S57.asP k_
     obtain ⟨_,_,_,_,⟨A87,c88⟩,q92,p93,a94⟩:=hR_ 9 50 rfl (lE rfl) rfl
     replace q92:e_ 50=TU [SL A87 r83.1.length c88,B r83.2]:=q92
     have S_:=St.addL' S_ (a94 _ (.head _)) (fun _ _ _ h_=>(nE h_))
     refine hopE [(50,TU [SL A87 r83.1.length c88,B r83.2])] ⟨q92,trivial⟩ ?_
     refine p_mT rfl<|wp_nil ?_
     exact ⟨_,rfl,S_.keep,rfl⟩
    ·intro e_ w_ k_ hf_ hR_
     have S_:St w_ nF w_ [] [bl b5 [vF (.func 42) #[] #[P b4 0,P b5 0]] 95,bl b4 [I q0.Trips,I q0.Room,SL A6 q0.Counts.length c7] 35,rd intE 1 A1 c2 a0,rd eTallyCount 7 A6 c7 q0.Counts,gW1,gW3]:=S57.asP k_
     obtain ⟨_,_,_,_,⟨A87,c88⟩,q96,p97,a98⟩:=hR_ 9 50 rfl (lE rfl) rfl
     replace q96:e_ 50=TU [SL A87 r83.1.length c88,B r83.2]:=q96
     have S_:=St.addL' S_ (a98 _ (.head _)) (fun _ _ _ h_=>(nE h_))
     obtain ⟨_,_,_,_,q95⟩:=hR_ 10 40 rfl (lE rfl) rfl
     replace q95:e_ 40=TU [SL A87 r83.1.length c88,B r83.2]:=(sJ ((congrArg some q96).symm.trans q95)).symm
     refine hopE [(40,TU [SL A87 r83.1.length c88,B r83.2])] ⟨q95,trivial⟩ ?_
     refine p_ext rfl rfl<|wp_nil ?_
     exact ⟨_,rfl,S_.keep,rfl⟩
    ·intro e_ w_ k_ hf_ hR_
     have S_:St w_ nF w_ [] [bl b5 [vF (.func 42) #[] #[P b4 0,P b5 0]] 95,bl b4 [I q0.Trips,I q0.Room,SL A6 q0.Counts.length c7] 35,rd intE 1 A1 c2 a0,rd eTallyCount 7 A6 c7 q0.Counts,gW1,gW3]:=S57.asP k_
     obtain ⟨_,_,_,_,⟨A87,c88⟩,q100,p101,a102⟩:=hR_ 9 50 rfl (lE rfl) rfl
     replace q100:e_ 50=TU [SL A87 r83.1.length c88,B r83.2]:=q100
     have S_:=St.addL' S_ (a102 _ (.head _)) (fun _ _ _ h_=>(nE h_))
     obtain ⟨_,_,_,_,q99⟩:=hR_ 10 40 rfl (lE rfl) rfl
     replace q99:e_ 40=TU [SL A87 r83.1.length c88,B r83.2]:=(sJ ((congrArg some q100).symm.trans q99)).symm
     refine hopE [(40,TU [SL A87 r83.1.length c88,B r83.2])] ⟨q99,trivial⟩ ?_
     refine p_ext rfl rfl<|wp_nil ?_
     exact ⟨_,rfl,S_.keep,rfl⟩
    ·intro e_ w_ k_ hf_ hR_
     have S_:St w_ nF w_ [] [bl b5 [vF (.func 42) #[] #[P b4 0,P b5 0]] 95,bl b4 [I q0.Trips,I q0.Room,SL A6 q0.Counts.length c7] 35,rd intE 1 A1 c2 a0,rd eTallyCount 7 A6 c7 q0.Counts,gW1,gW3]:=S57.asP k_
     obtain ⟨_,_,_,_,⟨A87,c88⟩,q105,p106,a107⟩:=hR_ 9 50 rfl (lE rfl) rfl
     replace q105:e_ 50=TU [SL A87 r83.1.length c88,B r83.2]:=q105
     have S_:=St.addL' S_ (a107 _ (.head _)) (fun _ _ _ h_=>(nE h_))
     obtain ⟨_,_,_,_,q104⟩:=hR_ 10 40 rfl (lE rfl) rfl
     replace q104:e_ 40=TU [SL A87 r83.1.length c88,B r83.2]:=(sJ ((congrArg some q105).symm.trans q104)).symm
     obtain ⟨_,_,_,_,q103⟩:=hR_ 11 51 rfl (lE rfl) rfl
     replace q103:e_ 51=SL A87 r83.1.length c88:=(sJ ((congrArg (exG 0) q104).symm.trans q103)).symm
     refine hopE [(51,SL A87 r83.1.length c88)] ⟨q103,trivial⟩ ?_
     refine p_aS rfl<|wp_nil ?_
     exact ⟨_,rfl,S_.keep,rfl⟩
    ·intro e_ w_ k_ hf_ hR_
     have S_:St w_ nF w_ [] [bl b5 [vF (.func 42) #[] #[P b4 0,P b5 0]] 95,bl b4 [I q0.Trips,I q0.Room,SL A6 q0.Counts.length c7] 35,rd intE 1 A1 c2 a0,rd eTallyCount 7 A6 c7 q0.Counts,gW1,gW3]:=S57.asP k_
     obtain ⟨_,_,_,_,⟨A87,c88⟩,q110,p111,a112⟩:=hR_ 9 50 rfl (lE rfl) rfl
     replace q110:e_ 50=TU [SL A87 r83.1.length c88,B r83.2]:=q110
     have S_:=St.addL' S_ (a112 _ (.head _)) (fun _ _ _ h_=>(nE h_))
     obtain ⟨_,_,_,_,q109⟩:=hR_ 10 40 rfl (lE rfl) rfl
     replace q109:e_ 40=TU [SL A87 r83.1.length c88,B r83.2]:=(sJ ((congrArg some q110).symm.trans q109)).symm
     obtain ⟨_,_,_,_,q108⟩:=hR_ 12 52 rfl (lE rfl) rfl
     replace q108:e_ 52=B r83.2:=(sJ ((congrArg (exG 1) q109).symm.trans q108)).symm
     refine hopE [(52,B r83.2)] ⟨q108,trivial⟩ ?_
     refine p_aB rfl<|wp_nil ?_
     exact ⟨_,rfl,S_.keep,rfl⟩
    intro e113 w114 lo115 hi116 k117 hf118 hR119 hd120
    have S121:=S57.call k117
    have q122:e113 41=vF (.func 42) #[] #[P b4 0,P b5 0]:=(hR119 0 41 (lE rfl) rfl).2.2.2
    have q123:e113 42=SL A1 a0.length c2:=(hR119 1 42 (lE rfl) rfl).2.2.2
    have q124:e113 43=I (a0.length:Int):=(hR119 2 43 (lE rfl) rfl).2.2.2
    have q125:e113 44=I (a0.length:Int):=(hR119 3 44 (lE rfl) rfl).2.2.2
    have q126:e113 45=SL A1 a0.length a0.length:=(hR119 4 45 (lE rfl) rfl).2.2.2
    have q127:e113 46=I z_2:=(hR119 5 46 (lE rfl) rfl).2.2.2
    obtain ⟨h129,h130,h131,⟨A63,c64⟩,q128,h132,h133⟩:=hR119 6 47 (lE rfl) rfl
    replace q128:e113 47=SL A63 ([z_2]:List Int).length c64:=q128
    obtain ⟨p134,_⟩:=h132
    obtain ⟨h137,h138,h139,⟨A74,c75⟩,q136,h140,h141⟩:=hR119 7 48 (lE rfl) rfl
    replace q136:e113 48=SL A74 (a0++([z_2]:List Int)).length c75:=q136
    obtain ⟨p142,_⟩:=h140
    have q144:e113 49=I a1:=(hR119 8 49 (lE rfl) rfl).2.2.2
    obtain ⟨h146,h147,h148,⟨A87,c88⟩,q145,h149,h150⟩:=hR119 9 50 (lE rfl) rfl
    replace q145:e113 50=TU [SL A87 r83.1.length c88,B r83.2]:=q145
    obtain ⟨p151,_⟩:=h149
    have q153:Al w56 [rd eTallyCount 7 A6 c7 q0.Counts] (rd intE 1 A87 c88 r83.1):=BtwV.al p151 h146 (fun b_ h_=>by rw [q136] at h_; exact Nat.le_trans h137 ((p142 b_ (vblk_gr h_)).elim (fun q_=>q_.1) (fun ⟨_,hq_,_⟩=>(List.not_mem_nil hq_).elim)))
    have S152:=St.addR S121 (h150 _ (.head _)) (oQ q153 S57 (mG [3] rfl))
    have q154:e113 40=TU [SL A87 r83.1.length c88,B r83.2]:=(sJ ((congrArg some q145).symm.trans (hR119 10 40 (lE rfl) rfl).2.2.2)).symm
    have q155:e113 51=SL A87 r83.1.length c88:=(sJ ((congrArg (exG 0) q154).symm.trans (hR119 11 51 (lE rfl) rfl).2.2.2)).symm
    have q156:e113 52=B r83.2:=(sJ ((congrArg (exG 1) q154).symm.trans (hR119 12 52 (lE rfl) rfl).2.2.2)).symm
    have q157:e113 11=SL A87 r83.1.length c88:=(sJ ((congrArg some q155).symm.trans (hR119 13 11 (lE rfl) rfl).2.2.2)).symm
    have q158:e113 12=B r83.2:=(hR119 14 12 (lE rfl) rfl).2.2.2
    refine tailE [(0,SL A1 a0.length c2),(1,I a1),(2,P b4 0),(3,P b5 0),(8,I (a0.length:Int)),(10,I z_2),(11,SL A87 r83.1.length c88),(12,B r83.2)] ⟨((hf118 0 rfl).trans (rfl:_=SL A1 a0.length c2)),((hf118 1 rfl).trans (rfl:_=I a1)),((hf118 2 rfl).trans (rfl:_=P b4 0)),((hf118 3 rfl).trans (rfl:_=P b5 0)),((hf118 8 rfl).trans (rfl:_=I (a0.length:Int))),((hf118 10 rfl).trans (rfl:_=I z_2)),q157,q158,trivial⟩ ?_
    intro g159
    refine wp_nil<|c_seq<|reg<|p_mB rfl<|wp_nil ?_
    refine c_cond rfl (fun c160=>?_) (fun c160=>?_)
    ·replace H:=condT c160 H
     refine c_seq<|reg<|p_mS rfl<|p_aS rfl<|p_aB rfl<|wp_nil ?_
     obtain rfl:=sJ H
     refine c_ret ?_; show bodyPostM (Fr none) 0 Tryd.prog Tryd.f42 _ .ret _ _
     refine ret_of (res2 rfl (rvT (rfl:_=SL A87 r83.1.length c88)) (rvT (rfl:_=B true))) ?_
     exact ⟨_,rfl,A87,c88,rfl,S152.keep,⟨(S152.atP (i:=0) rfl),(Al.up q153 S57.keep.size (cA (Al.self (i:=1) rfl) nM))⟩,trivial⟩
    ·replace H:=condF c160 H
     refine c_skip<|reg<|p_mI rfl<|p_add rfl rfl<|p_aI rfl<|wp_nil ?_
     have S161:=S152.pk [] (by decide) [1,2,3,4,5,6] rfl rfl
     exact ⟨wr (z_2+1),(),_,rfl,⟨rfl,rfl,rfl,rfl,rfl,rfl,trivial⟩,H,S161⟩
   ·replace H:=condF c58 H
    refine c_exit<|c_seq<|reg<|p_aS rfl<|p_aB rfl<|wp_nil ?_
    obtain rfl:=sJ H
    refine c_ret ?_; show bodyPostM (Fr none) 0 Tryd.prog Tryd.f42 _ .ret _ _
    refine ret_of (res2 rfl (rvT (rfl:_=SL none 0 0)) (rvT (rfl:_=B false))) ?_
    exact ⟨_,rfl,none,0,rfl,S57.keep,⟨rd_nil (Nat.zero_le _),Al.nil⟩,trivial⟩
def tally_Wrong_l2 (a0:TallyBook) (rec_z_1:Int→Option ((List Int)×Int)) (z_1:Int):Option ((List Int)×Int):=
 bif decide (z_1 < (wr ((a0.Counts.length:Int)+1))) then ((tally_Wrong_1 big ([]:List _) z_1 a0).bind fun r24=>
 bif r24.2 then (some (r24.1,0))
 else (rec_z_1 (wr (z_1+1))))
 else (some (([]:List _),0))
def tally_Wrong (a0:TallyBook):Option ((List Int)×Int):=
 (tally_Check a0).bind fun r9=>
 bif (r9 != 0) then (some (([]:List _),r9))
 else (loopF (tally_Wrong_l2 a0) big 0)
set_option maxRecDepth 100000 in
theorem tally_Wrong_ok {a0:TallyBook}{A1:Option Addr}{c2:Nat}{w:World}{r:(List Int)×Int} (H:tally_Wrong a0=some r) (h3:(rd eTallyCount 7 A1 c2 a0.Counts).ok w) (hg4:(gW1).ok w) (hg5:(gW3).ok w):Calls Tryd.prog 13 #[AG [I a0.Trips,I a0.Room,SL A1 a0.Counts.length c2]] w fun en w_=>∃ u_,en=.returned u_∧∃ A_1:Option Addr,∃ c_2:Nat,u_=TU [SL A_1 r.1.length c_2,I r.2]∧Keep0 w w_∧((rd intE 1 A_1 c_2 r.1).ok w_∧Al w [rd eTallyCount 7 A1 c2 a0.Counts] (rd intE 1 A_1 c_2 r.1))∧True:=by
 unfold tally_Wrong at H
 refine fn_of (n:=36) Tryd.func13 rfl rfl (lE rfl) ?_
 have S:=St.start w nF _ (cA h3 (cA hg4 (cA hg5 nM)))
 refine c_seq<|reg<|p_boxA rfl S fun b6 w7 S8=>p_aS rfl<|p_aI rfl<|wp_nil<|c_seq<|c_seq<|reg<|p_ldA ty35 sz35 (S8.atX (i:=0) rfl) rfl rfl ?_
 obtain ⟨r9,h10,H⟩:=bindS H
 refine p_cv (tally_Check_ok h10 (S8.atP (i:=0) rfl)) fu37 rfl S8 fun w11 S12=>p_aI rfl<|wp_nil<|c_seq<|reg<|p_mI rfl<|p_cmp rfl rfl rfl<|wp_nil ?_
 refine c_cond rfl (fun c13=>?_) (fun c13=>?_)
 ·replace H:=condT c13 H
  refine c_seq<|reg<|p_mI rfl<|p_aS rfl<|p_aI rfl<|wp_nil ?_
  obtain rfl:=sJ H
  refine c_ret ?_; show bodyPostM (Fr none) 0 Tryd.prog Tryd.f13 _ .ret _ _
  refine ret_of (res2 rfl (rvT (rfl:_=SL none 0 0)) (rvT (rfl:_=I r9))) ?_
  exact ⟨_,rfl,none,0,rfl,S12.keep,⟨rd_nil (Nat.zero_le _),Al.nil⟩,trivial⟩
 ·replace H:=condF c13 H
  refine c_skip<|c_seq<|reg<|p_all in95 rfl S12 fun b14 w15 S16=>wp_nil<|c_seq<|reg ?_
  refine o_fun (rfl:_=[]) (rfl:_=[P b6 0,P b14 0]) ?_
  refine p_st sz95 S16 (i:=0) rfl rfl (rfl:_=vF (.func 42) #[] #[P b6 0,P b14 0]) rfl rfl fun w17 S18=>wp_nil<|c_seq<|c_seq<|reg<|p_fld fl35_2 rfl<|p_ld ty33 (S18.atX (i:=1) rfl) rfl rfl<|p_len rfl sc33<|p_add rfl rfl<|p_mI rfl<|wp_nil<|c_block ?_
  refine c_lop (α:=Int) (β:=Unit) (tally_Wrong_l2 a0) (fun z_1 y_1=>[(5,P b14 0),(18,I (wr ((a0.Counts.length:Int)+1))),(19,I z_1)]) (fun z_1 y_1 w_=>St w nF w_ [bl b14 [vF (.func 42) #[] #[P b6 0,P b14 0]] 95,bl b6 [I a0.Trips,I a0.Room,SL A1 a0.Counts.length c2] 35] [rd eTallyCount 7 A1 c2 a0.Counts,gW1,gW3]) 0 () H ⟨rfl,rfl,rfl,trivial⟩ S18 ?_
  intro m19 z_1 y_1 e20 w21 H S22
  unfold tally_Wrong_l2 at H
  refine c_seq<|reg<|p_cmp rfl rfl rfl<|wp_nil<|c_seq ?_
  refine c_cond rfl (fun c23=>?_) (fun c23=>?_)
  ·replace H:=condT c23 H
   refine c_skip<|c_seq<|c_block<|c_seq<|reg<|p_mI rfl<|p_aI rfl<|wp_nil<|c_seq<|reg<|p_ld ty95 (S22.atX (i:=0) rfl) rfl rfl<|p_mI rfl ?_
   obtain ⟨r24,h25,H⟩:=bindS H
   refine p_cal (tally_Wrong_1_ok h25 (S22.atX (i:=0) rfl) (S22.atX (i:=1) rfl) (rd_nil (Nat.zero_le _)) (S22.atP (i:=0) rfl) (S22.atP (i:=1) rfl) (S22.atP (i:=2) rfl)) fu42 rfl ?_
   rintro _ w26 ⟨A28,c29,rfl,k27,⟨o30,n31⟩,_⟩
   have S32:=S22.callN k27 [rd intE 1 A28 c29 r24.1] (cA ⟨o30,Al.inL n31 ((cA fp_nil (cA (fp_mem (i:=0) rfl) nM)))⟩ nM)
   refine p_mT rfl<|p_ext rfl rfl<|p_ext rfl rfl<|p_aS rfl<|p_aB rfl<|wp_nil<|c_seq<|reg<|p_mB rfl<|wp_nil ?_
   refine c_cond rfl (fun c33=>?_) (fun c33=>?_)
   ·replace H:=condT c33 H
    refine c_seq<|reg<|p_mS rfl<|p_mS rfl<|p_len rfl sc42<|p_mS rfl<|p_len rfl sc42<|p_cut3 sc42 (S32.atP (i:=0) rfl) rfl rfl rfl<|p_aS rfl<|p_aI rfl<|wp_nil ?_
    obtain rfl:=sJ H
    refine c_ret ?_; show bodyPostM (Fr none) 0 Tryd.prog Tryd.f13 _ .ret _ _
    refine ret_of (res2 rfl (rvT (rfl:_=SL A28 r24.1.length r24.1.length)) (rvT (rfl:_=I 0))) ?_
    exact ⟨_,rfl,A28,r24.1.length,rfl,S32.keep,⟨(rd_full (S32.atP (i:=0) rfl)),Al.rdr (Al.up n31 S22.keep.size (cA Al.nil (cA (Al.self (i:=0) rfl) nM)))⟩,trivial⟩
   ·replace H:=condF c33 H
    refine c_skip<|reg<|p_add rfl rfl<|p_mI rfl<|wp_nil ?_
    have S34:=S32.pk [0,1] (by decide) [1,2,3] rfl rfl
    exact ⟨wr (z_1+1),(),_,rfl,⟨rfl,rfl,rfl,trivial⟩,H,S34⟩
  ·replace H:=condF c23 H
   refine c_exit<|c_seq<|reg<|p_aS rfl<|p_aI rfl<|wp_nil ?_
   obtain rfl:=sJ H
   refine c_ret ?_; show bodyPostM (Fr none) 0 Tryd.prog Tryd.f13 _ .ret _ _
   refine ret_of (res2 rfl (rvT (rfl:_=SL none 0 0)) (rvT (rfl:_=I 0))) ?_
   exact ⟨_,rfl,none,0,rfl,S22.keep,⟨rd_nil (Nat.zero_le _),Al.nil⟩,trivial⟩
def B_Alike_l1 (a0:List Int) (a1:List Int) (rec_z_1:Int→Option Bool) (z_1:Int):Option Bool:=
 bif decide (z_1 < (a0.length:Int)) then ((getI a0 z_1).bind fun r13=>
 (getI a1 z_1).bind fun r15=>
 bif (r13 != r15) then (some false)
 else (rec_z_1 (wr (z_1+1))))
 else (some true)
def B_Alike (a0:List Int) (a1:List Int):Option Bool:=
 bif ((a0.length:Int) != (a1.length:Int)) then (some false)
 else (loopF (B_Alike_l1 a0 a1) big 0)
set_option maxRecDepth 100000 in
theorem B_Alike_ok {a0:List Int}{a1:List Int}{A1:Option Addr}{c2:Nat}{A4:Option Addr}{c5:Nat}{w:World}{r:Bool} (H:B_Alike a0 a1=some r) (h3:(rd intE 1 A1 c2 a0).ok w) (h6:(rd intE 1 A4 c5 a1).ok w):Calls Tryd.prog 14 #[SL A1 a0.length c2,SL A4 a1.length c5] w (RetV w (B r)):=by
 unfold B_Alike at H
 refine fn_of (n:=26) Tryd.func14 rfl rfl (lE rfl) ?_
 have S:=St.start w nF _ (cA h3 (cA h6 nM))
 refine c_seq<|reg<|p_aB rfl<|wp_nil<|c_seq<|c_seq<|reg<|p_mS rfl<|p_len rfl sc42<|p_mS rfl<|p_len rfl sc42<|p_cmp rfl rfl rfl<|wp_nil ?_
 refine c_cond rfl (fun c7=>?_) (fun c7=>?_)
 ·replace H:=condT c7 H
  refine c_seq<|reg<|p_aB rfl<|wp_nil ?_
  obtain rfl:=sJ H
  exact c_ret (rT Tryd.f14 S.keep rfl rfl)
 ·replace H:=condF c7 H
  refine c_skip<|c_seq<|c_seq<|reg<|p_aI rfl<|wp_nil<|c_block ?_
  refine c_lop (α:=Int) (β:=Unit) (B_Alike_l1 a0 a1) (fun z_1 y_1=>[(0,SL A1 a0.length c2),(1,SL A4 a1.length c5),(5,I z_1)]) (fun z_1 y_1 w_=>St w nF w_ [] [rd intE 1 A1 c2 a0,rd intE 1 A4 c5 a1]) 0 () H ⟨rfl,rfl,rfl,trivial⟩ S ?_
  intro m8 z_1 y_1 e9 w10 H S11
  unfold B_Alike_l1 at H
  refine c_seq<|c_seq<|reg<|p_mI rfl<|p_mS rfl<|p_len rfl sc42<|p_cmp rfl rfl rfl<|wp_nil ?_
  refine c_cond rfl (fun c12=>?_) (fun c12=>?_)
  ·replace H:=condT c12 H
   refine c_skip<|c_seq<|c_block<|c_seq ?_
   obtain ⟨r13,h14,H⟩:=bindS H
   obtain ⟨r15,h16,H⟩:=bindS H
   refine reg_q mixed 9 (by kernel_rfl) ?_
   refine dS (fun _ k_=>p_mS rfl dn)<|dS (fun _ k_=>p_mI rfl dn)<|dS (fun _ k_=>p_ixE sc42 h14 (aS (S11.atP (i:=0) rfl) k_).1 rfl rfl rfl dn)<|dS (fun _ k_=>p_ldE ty3 h14 (aS (S11.atP (i:=0) rfl) k_).1 rfl rfl dn)<|dS (fun _ k_=>p_mS rfl dn)<|dS (fun _ k_=>p_mI rfl dn)<|dS (fun _ k_=>p_ixE sc42 h16 (aS (S11.atP (i:=1) rfl) k_).1 rfl rfl rfl dn) ?_
   refine dS (fun _ k_=>p_ldE ty3 h16 (aS (S11.atP (i:=1) rfl) k_).1 rfl rfl dn)<|dS (fun _ k_=>p_cmp rfl rfl rfl dn) ?_
   intro w17 k18; have S19:=S11.call k18
   refine wp_nil ?_
   refine c_cond rfl (fun c20=>?_) (fun c20=>?_)
   ·replace H:=condT c20 H
    refine c_seq<|reg<|p_aB rfl<|wp_nil ?_
    obtain rfl:=sJ H
    exact c_ret (rT Tryd.f14 S19.keep rfl rfl)
   ·replace H:=condF c20 H
    refine c_skip<|reg<|p_mI rfl<|p_add rfl rfl<|p_aI rfl<|wp_nil ?_
    exact ⟨wr (z_1+1),(),_,rfl,⟨rfl,rfl,rfl,trivial⟩,H,S19⟩
  ·replace H:=condF c12 H
   refine c_exit<|c_seq<|reg<|p_aB rfl<|wp_nil ?_
   obtain rfl:=sJ H
   exact c_ret (rT Tryd.f14 S11.keep rfl rfl)
def B_Member (a0:Int) (a1:Int):Option Bool:=
 need (decide (0≤a1))<|
 some ((andI (shrI a0 a1) 1)==1)
set_option maxRecDepth 100000 in
theorem B_Member_ok {a0:Int}{a1:Int}{w:World}{r:Bool} (H:B_Member a0 a1=some r):Calls Tryd.prog 19 #[I a0,I a1] w (RetV w (B r)):=by
 unfold B_Member at H
 refine fn_of (n:=10) Tryd.func19 rfl rfl (lE rfl) ?_
 have S:=St.start w nF _ nM
 refine c_seq<|reg<|p_aB rfl<|wp_nil<|c_seq<|reg<|p_mI rfl<|p_mI rfl ?_
 obtain ⟨h1,H⟩:=needS H
 refine p_shr h1 rfl rfl<|p_andI rfl rfl<|p_cmp rfl rfl rfl<|p_aB rfl<|wp_nil ?_
 obtain rfl:=sJ H
 exact c_ret (rT Tryd.f19 S.keep rfl rfl)
def B_Contains (a0:Span) (a1:Int):Option Bool:=
 (B_Inside a1 a0.Low a0.High).bind fun r4=>
 some r4
set_option maxRecDepth 100000 in
theorem B_Contains_ok {a0:Span}{a1:Int}{w:World}{r:Bool} (H:B_Contains a0 a1=some r):Calls Tryd.prog 20 #[AG [I a0.Low,I a0.High],I a1] w (RetV w (B r)):=by
 unfold B_Contains at H
 refine fn_of (n:=11) Tryd.func20 rfl rfl (lE rfl) ?_
 have S:=St.start w nF _ nM
 refine c_seq<|reg<|p_boxA rfl S fun b1 w2 S3=>p_aB rfl<|wp_nil<|c_seq<|reg<|p_mI rfl<|p_fld fl23_0 rfl<|p_ld ty3 (S3.atX (i:=0) rfl) rfl rfl<|p_fld fl23_1 rfl<|p_ld ty3 (S3.atX (i:=0) rfl) rfl rfl ?_
 obtain ⟨r4,h5,H⟩:=bindS H
 refine p_cv (B_Inside_ok h5) fu32 rfl S3 fun w6 S7=>p_aB rfl<|wp_nil ?_
 obtain rfl:=sJ H
 exact c_ret (rT Tryd.f20 S7.keep rfl rfl)
end Go.Proofs.YtblfippmobpaaaaDoor
namespace Go.Proofs.YtblfippmobpaaaaDoor
open Go Go.Fx Go.Proofs
end Go.Proofs.YtblfippmobpaaaaDoor
namespace Go.Fx
open Go Go.ChangeShapes Go.WideShapes Go.ChangeAt Go.RowKit
section
variable {H:Type}{enc:TypeId×Value→H}{P:Program}
theorem Keep.kept {w w' :World} (k:Keep0 w w') (may:MemPlace→Prop):w.keptBut w' may:=by
 refine ⟨k.os,k.output,fun i hi=>?_⟩
 have:=k.block i hi (fun x=>x)
 rw [this]
 cases w.heap[i]? with
 | none=>rfl
 | some o=>cases o <;> first | exact ⟨rfl,rfl,rfl,fun _ _=>rfl⟩ | exact .inr ⟨rfl,rfl⟩ | rfl
theorem Keep.same {w w' :World} (k:Keep0 w w') {p:MemPlace} (hp:p.block < w.heap.size):w.sameAt w' p:=by
 cases p with
 | cell b off=>
   have:=k.block b hp (fun x=>x)
   exact World.cell?_of_block (w:=w) this
 | map b=>exact k.block b hp (fun x=>x)
theorem trodAll_stays (hl:laidOutB P=true) {W W' :World}{sp' :Nat→Bool}:∀ {ts:List TypeId}{vs:List Value}{ds:List (DataW H)}{ps:List MemPlace},
 (∀ t∈ts,P.readableRec t=true∧t < P.types.size)→DataW.TrodAll enc P W 0 (fun _=>true) true ts vs ds ps→(∀ p∈ps,W.sameAt W' p)→(∀ p∈ps,sp' p.block=true)→DataW.TrodAll enc P W' 0 sp' true ts vs ds ps
 | [],[],[],_,_,h,_,_=>h
 | t::ts,v::vs,d::ds,ps,ht,⟨p,q,h1,h2,e⟩,hs,hb=>by
   subst e
   exact ⟨p,q,WideElems.Trod_stays hl (ht t (List.mem_cons_self ..)).1 (ht t (List.mem_cons_self ..)).2 h1 (fun x hx=>hs x (List.mem_append_left _ hx)) (fun x hx=>hb x (List.mem_append_left _ hx)),
    trodAll_stays hl (fun t ht' =>ht t (List.mem_cons_of_mem _ ht')) h2 (fun x hx=>hs x (List.mem_append_right _ hx)) (fun x hx=>hb x (List.mem_append_right _ hx)),rfl⟩
 | [],_::_,_,_,_,h,_,_=>by cases ‹List (DataW H)› <;> exact h.elim
 | [],[],_::_,_,_,h,_,_=>h.elim
 | _::_,[],_,_,_,h,_,_=>by cases ‹List (DataW H)› <;> exact h.elim
 | _::_,_::_,[],_,_,h,_,_=>h.elim
theorem law_post {fn:Func}{spec:ChangeSpec}{W W' :World}{args:Array Value}{ds gs:List (DataW H)}{before:List MemPlace}{tb:TypeId}
 (hW:DataW.Whole enc P fn.params.toList spec.vars false W args.toList ds gs before) (hl:laidOutB P=true) (hts:(fn.params.toList.all fun t=>P.readableRec t&&decide (t < P.types.size))=true)
 (hvars:spec.vars=[]) (hfn:spec.fn H ds={ results:=[.lit (.bool true)],args:=ds }) (hres:fn.resultTypes=#[tb]) (hb:P.underlying tb=some .bool) (k:Keep0 W W'):
 spec.post enc P fn false true false false W args (.bool true) W' :=by
 have hlt:=hW.lt
 obtain ⟨p,q,hA,hV,rfl,hfz,hnd⟩:=id hW
 have hV' :=hV
 rw [hvars] at hV'
 obtain ⟨rfl,rfl⟩:=trodVars_none hV'
 rw [List.append_nil] at hlt
 have hts' :∀ t∈fn.params.toList,P.readableRec t=true∧t < P.types.size:=fun t ht=>by
  have:=List.all_eq_true.1 hts t ht
  simpa using this
 refine ⟨ds,[],p++[],[],p,[],hW,?_,?_,?_,k.kept _,fun h=>by cases h⟩
 ·rw [List.append_nil,hfn,hres]
  exact trodAll_mk1 (shut_bool hb true)
 ·rw [List.append_nil,hfn]
  exact trodAll_stays hl hts' hA (fun x hx=>k.same (hlt x hx)) (fun x hx=>by simpa using hlt x hx)
 ·rw [List.append_nil,hfn,hvars]
  rfl
def InI (n:Int):Prop:=-9223372036854775808≤n∧n≤9223372036854775807
theorem inI_of {n:Int} (h:(Lit.int .i64 n).wf=true):InI n:=bounds_i64 h
variable {w:World}{base:Nat}{spare:Nat→Bool}{held:Bool}
def FlatI (P:Program) (t:TypeId) (n:Nat):Prop:=∀ {H:Type}{enc:TypeId×Value→H}{w:World}{base:Nat}{spare:Nat→Bool}{held:Bool}{fuel:Nat}{cs:List Value}{x:DataW H×List MemPlace},
 DataW.trod enc P w base spare held fuel t cs=some x→∃ l:List Int,l.length=n∧cs=l.map I∧∀ y∈l,InI y
theorem flat_cells {cs:List Value}:∀ {n:Nat},cs.length=n→(∀ i,i < n→∃ a:Int,cs[i]? =some (I a)∧InI a)→∃ l:List Int,l.length=n∧cs=l.map I∧∀ y∈l,InI y:=by
 intro n hn h
 subst hn
 induction cs with
 | nil=>exact ⟨[],rfl,rfl,fun _ h=>(List.not_mem_nil h).elim⟩
 | cons c cs ih=>
   obtain ⟨a,ha,hi⟩:=h 0 (by simp)
   obtain ⟨l,h1,h2,h3⟩:=ih fun i hi=>by
    obtain ⟨b,hb⟩:=h (i+1) (by simp; omega)
    exact ⟨b,by simpa using hb⟩
   refine ⟨a::l,by simp [h1],by simp at ha; rw [ha,h2]; rfl,fun y hy=>?_⟩
   rcases List.mem_cons.1 hy with rfl | hy
   ·exact hi
   ·exact h3 y hy
theorem take_one {cs:List Value}{o:Nat}{v:Value} (h:(cs.drop o).take 1=[v]):cs[o]? =some v:=by
 have:=congrArg (·[0]?) h
 simpa [List.getElem?_take] using this
theorem flat_array {t e:TypeId}{n:Nat} (ht:P.underlying t=some (.array n e)) (he:P.underlying e=some (.int .i64)) (hc:P.cellsOf e=1) (hn:P.cellsOf t=n):FlatI P t n:=by
 intro _ _ _ _ _ _ _ cs _ h
 obtain ⟨xs,m,_,_,hl,hxs,hel⟩:=DataW.trod_array ht h
 refine flat_cells (hl.trans hn) fun i hi=>?_
 have:=hel i hi
 rw [hc,Nat.mul_one,List.getElem?_eq_getElem (by rw [hxs]; exact hi)] at this
 obtain ⟨a,ha,_,hw⟩:=DataW.trod_int he this
 exact ⟨a,take_one ha,inI_of hw⟩
theorem flat_struct {t:TypeId}{fs:Array Field}{n:Nat} (ht:P.underlying t=some (.struct fs)) (hn:P.cellsOf t=n) (hf:∀ i,i < n→∃ f:Field,fs[i]? =some f∧f.offset=i∧P.underlying f.type=some (.int .i64)∧P.cellsOf f.type=1) (hs:fs.size=n):FlatI P t n:=by
 intro _ _ _ _ _ _ _ cs _ h
 obtain ⟨xs,m,_,_,hl,hxs,hel⟩:=DataW.trod_struct ht h
 refine flat_cells (hl.trans hn) fun i hi=>?_
 obtain ⟨f,h1,h2,h3,h4⟩:=hf i hi
 have:=hel i f h1
 rw [h2,h4,List.getElem?_eq_getElem (by rw [hxs,hs]; exact hi)] at this
 obtain ⟨a,ha,_,hw⟩:=DataW.trod_int h3 this
 exact ⟨a,take_one ha,inI_of hw⟩
theorem mapM_get {α β:Type}{f:α→Option β}:∀ {l:List α}{r:List β},l.mapM f=some r→∀ (i:Nat) (a:α),l[i]? =some a→f a=r[i]?
 | [],_,_,i,a,ha=>by simp at ha
 | x::l,r,h,i,a,ha=>by
   simp only [List.mapM_cons,Option.bind_eq_bind,Option.bind_eq_some_iff,Option.pure_def,Option.some.injEq] at h
   obtain ⟨b,hb,r',hr',rfl⟩:=h
   cases i with
   | zero=>
     simp only [List.getElem?_cons_zero,Option.some.injEq] at ha
     subst ha
     exact hb
   | succ i=>exact mapM_get hr' i a (by simpa using ha)
theorem cell_in {w:World}{a:Addr}{v:Value} (h:w.cell? a=some v):a.block < w.heap.size:=by
 unfold World.cell? at h
 split at h
 ·rename_i hw
  exact (Array.getElem?_eq_some_iff.1 hw).1
 ·cases h
theorem add_blk (a:Addr) (n:Nat):(a.add n).block=a.block∧(a.add n).off=a.off+n:=by
 unfold Addr.add
 split
 ·rename_i h; subst h; exact ⟨rfl,rfl⟩
 ·exact ⟨rfl,rfl⟩
theorem cellN {w:World}{a:Addr}{n:Nat}{v:Value} (h:w.cell? (a.add n)=some v):w.cell? ⟨a.block,a.off+n,none⟩=some v:=by
 have h1:=World.cell?_spot h
 obtain ⟨h2,h3⟩:=add_blk a n
 have:a.add n=⟨a.block,a.off+n,none⟩:=by
  generalize a.add n=x at h1 h2 h3
  cases x
  cases h1; cases h2; cases h3; rfl
 rwa [this] at h
theorem slice_flat {t e:TypeId}{s fuel:Nat}{cs:List Value}{x:DataW H×List MemPlace} (ht:P.underlying t=some (.slice e)) (F:FlatI P e s) (hs:P.cellsOf e=s) (h0:0 < s)
 (h:DataW.trod enc P w 0 spare held fuel t cs=some x):∃ A c,∃ xs:List (List Int),cs=[SL A xs.length c]∧(∀ l∈xs,l.length=s∧∀ y∈l,InI y)∧(rd (fun l:List Int=>l.map I) s A c xs).ok w:=by
 rcases DataW.trod_slice ht h with ⟨rfl,_⟩ | ⟨a,len,cap,elems,rest,n,_,rfl,_,_,hlc,hcm,hel,hE,_,_⟩
 ·exact ⟨none,0,[],rfl,fun _ h=>(List.not_mem_nil h).elim,.inl rfl,Nat.le_refl _,Nat.zero_le _⟩
 ·have ex:∀ i,i < len→∃ l:List Int,l.length=s∧(∀ y∈l,InI y)∧∀ j v,(l.map I)[j]? =some v→w.cell? ⟨a.block,a.off+i*s+j,none⟩=some v:=by
   intro i hi
   have:=hE i hi
   rw [hs,List.getElem?_eq_getElem (by rw [hel]; exact hi)] at this
   obtain ⟨cs,hc,hd⟩:=Option.bind_eq_some_iff.1 this
   obtain ⟨l,hl,rfl,hy⟩:=F hd
   refine ⟨l,hl,hy,fun j v hj=>?_⟩
   unfold World.cells? at hc
   rw [if_pos (Nat.zero_le _)] at hc
   have hjl:j < s:=by
    have:=(List.getElem?_eq_some_iff.1 hj).1
    rw [List.length_map,hl] at this
    exact this
   have:=mapM_get hc j j (List.getElem?_range hjl)
   rw [hj] at this
   have:=cellN this
   rwa [(add_blk a (i*s)).1,(add_blk a (i*s)).2] at this
  have ch:∃ f:Nat→List Int,∀ i,i < len→(f i).length=s∧(∀ y∈f i,InI y)∧∀ j v,((f i).map I)[j]? =some v→w.cell? ⟨a.block,a.off+i*s+j,none⟩=some v:=
   ⟨fun i=>if h:i < len then Classical.choose (ex i h) else [],fun i hi=>by simp only [dif_pos hi]; exact Classical.choose_spec (ex i hi)⟩
  obtain ⟨f,hf⟩:=ch
  refine ⟨some a,cap,(List.range len).map f,by simp [SL],fun l hl=>?_,?_,by simpa using hlc,hcm⟩
  ·obtain ⟨i,hi,rfl⟩:=List.mem_map.1 hl
   have:=hf i (List.mem_range.1 hi)
   exact ⟨this.1,this.2.1⟩
  ·by_cases hz:len=0
   ·left; subst hz; rfl
   ·right
    have h00:=(hf 0 (by omega)).2.2 0 (I ((f 0)[0]'(by rw [(hf 0 (by omega)).1]; exact h0))) (by simp [(hf 0 (by omega)).1,h0])
    obtain ⟨b,o,sp⟩:=a
    have hsp:sp=none:=by
     have:=hE 0 (by omega)
     rw [hs,List.getElem?_eq_getElem (by rw [hel]; omega)] at this
     obtain ⟨cs,hc,hd⟩:=Option.bind_eq_some_iff.1 this
     obtain ⟨l,hl,rfl,hy⟩:=F hd
     unfold World.cells? at hc
     rw [if_pos (Nat.zero_le _)] at hc
     have:=mapM_get hc 0 0 (List.getElem?_range h0)
     rw [List.getElem?_eq_getElem (by rw [List.length_map,hl]; exact h0)] at this
     rw [Nat.zero_mul] at this
     exact World.cell?_spot (show w.cell? ⟨b,o,sp⟩=_ from this)
    subst hsp
    refine ⟨b,o,rfl,cell_in h00,fun i x hx j v hv=>?_⟩
    have hi:i < len:=by
     have:=(List.getElem?_eq_some_iff.1 hx).1
     simpa using this
    have hx' :x=f i:=by simpa [List.getElem?_range,hi] using hx.symm
    subst hx'
    exact (hf i hi).2.2 j v hv
theorem rd_map {α β:Type}{e1:α→List Value}{e2:β→List Value}{s c:Nat}{A:Option Addr}{xs:List α} (f:α→β) (h:∀ x∈xs,e2 (f x)=e1 x) (h1:(rd e1 s A c xs).ok w):(rd e2 s A c (xs.map f)).ok w:=by
 refine ⟨?_,by simpa using h1.2.1,h1.2.2⟩
 rcases h1.1 with rfl | ⟨b,o,e,hb,hc⟩
 ·exact .inl rfl
 ·refine .inr ⟨b,o,e,hb,fun i x hx j v hv=>?_⟩
  rw [List.getElem?_map] at hx
  obtain ⟨y,hy,rfl⟩:=Option.map_eq_some_iff.1 hx
  rw [h y (List.mem_of_getElem? hy)] at hv
  exact hc i y hy j v hv
theorem dec_int {r:Reach}{b0:Nat}{t:TypeId}{v:Value}{d:DataW H}{ps:List MemPlace} (ht:P.underlying t=some (.int .i64)) (hval:Value.okWide P w r b0 t v) (hd:DataW.Trod enc P w base spare held t v d ps):∃ n,v=I n∧InI n:=by
 obtain ⟨n,h1,_,_,hw⟩:=open_int ht hval hd
 exact ⟨n,h1,inI_of hw⟩
theorem okWide_cells {r:Reach}{b0:Nat}{t:TypeId}{v:Value} (ht:(match P.underlying t with | some (.struct _) | some (.array _ _)=>true | _=>false)=true) (hval:Value.okWide P w r b0 t v):∃ cs,v=.agg cs:=by
 unfold Value.okWide at hval
 split at hval
 ·obtain ⟨cs,h,_⟩:=hval; exact ⟨cs,h⟩
 ·obtain ⟨cs,h,_⟩:=hval; exact ⟨cs,h⟩
 ·rename_i h1 h2
  split at ht
  ·rename_i h; exact absurd h (h1 _)
  ·rename_i h; exact absurd h (h2 _ _)
  ·cases ht
end
end Go.Fx
namespace Go.Proofs.YtblfippmobpaaaaDoor
open Go Go.Fx Go.Proofs Go.ChangeShapes Go.WideShapes Go.ChangeAt Go.RowKit
theorem own:ownKnob Tryd.prog.godebug=none:=by kernel_rfl
theorem laidOut:laidOutB Tryd.prog=true:=by kernel_rfl
theorem u3:Tryd.prog.underlying 3=some (.int .i64):=by kernel_rfl
theorem c3:Tryd.prog.cellsOf 3=1:=by kernel_rfl
theorem var_heap {W:World}{n:String}{g:Nat}{cs c:Array Value}{t:TypeId}{fr:Nat×Nat} (hg:Tryd.prog.globalNamed n=some g) (hv:W.var? Tryd.prog n=some cs) (hh:W.heap[g]? =some (.cells c t fr)):cs=c:=by
 unfold World.var? at hv
 rw [hg] at hv
 simp only [Option.bind_some,hh] at hv
 exact (Option.some.inj hv).symm
theorem gChainNowhere : Tryd.prog.globalNamed "prow/chain.nowhere" = some 2 := by kernel_rfl
theorem tChainNowhere:(Tryd.prog.globals[2]?).map (·.type)=some 155:=by kernel_rfl
theorem cc155:Tryd.prog.cellsOf 155=2:=by kernel_rfl
theorem uu155:∃ f0 f1:Field,Tryd.prog.underlying 155=some (.struct #[f0,f1])∧f0.type=3∧f1.type=3∧f0.offset=0∧f1.offset=1:=⟨(Tryd.prog.fieldsOf 155)[0]!,(Tryd.prog.fieldsOf 155)[1]!,by kernel_rfl,by kernel_rfl,by kernel_rfl,by kernel_rfl,by kernel_rfl⟩
theorem shape2:∃ zero,(((begin Tryd.prog (fun _ _=>0) default).world.heap[2]?).bind Obj.row?)=some (zero,155):=⟨#[I 0,I 0],by kernel_rfl⟩
set_option maxRecDepth 100000 in
theorem atChainNowhere {W : World} (hS : W.ShapedOpen Tryd.prog) {g t : Nat} {cs : Array Value} {fuel : Nat} {p : List MemPlace} (hg : Tryd.prog.globalNamed "prow/chain.nowhere" = some g) (ht : (Tryd.prog.globals[g]?).map (·.type) = some t) (hv : W.var? Tryd.prog "prow/chain.nowhere" = some cs)
 (hd:DataW.trod (fun _=>()) Tryd.prog W 0 (fun _=>true) false fuel t cs.toList=some (.agg [.lit (.int .i64 (-1)),.lit (.int .i64 (-1))],p)):(bl 2 [I (-1),I (-1)] 155).ok W:=by
 obtain ⟨z,hz⟩:=shape2
 obtain ⟨cs0,h1,_⟩:=hS.1 2 z 155 (of_decide_eq_true (by kernel_rfl)) hz
 obtain rfl:=Option.some.inj (gChainNowhere.symm.trans hg)
 obtain rfl:=Option.some.inj (tChainNowhere.symm.trans ht)
 obtain rfl:=var_heap gChainNowhere hv h1
 obtain ⟨f0,f1,hu,ht0,ht1,ho0,ho1⟩:=uu155
 obtain ⟨xs,m,_,hx,hl,hxs,hel⟩:=DataW.trod_struct hu hd
 rw [cc155] at hl
 have hx' :xs.map (·.1)=[.lit (.int .i64 (-1)),.lit (.int .i64 (-1))]:=by
  have:=congrArg Prod.fst hx
  exact (DataW.agg.inj this).symm
 obtain ⟨cl⟩:=cs
 match cl,hl with
 | [v0,v1],_=>
   match xs,hx' with
   | [(_,p0),(_,p1)],hx' =>
     simp only [List.map_cons,List.map_nil,List.cons.injEq,and_true] at hx'
     obtain ⟨rfl,rfl⟩:=hx'
     have e0:=hel 0 f0 rfl
     have e1:=hel 1 f1 rfl
     rw [ho0,ht0,c3] at e0
     rw [ho1,ht1,c3] at e1
     obtain ⟨n0,a0,b0,_⟩:=DataW.trod_int u3 (show DataW.trod _ _ _ _ _ _ _ _ [v0]=some (_,p0) from e0)
     obtain ⟨n1,a1,b1,_⟩:=DataW.trod_int u3 (show DataW.trod _ _ _ _ _ _ _ _ [v1]=some (_,p1) from e1)
     cases a0; cases a1; cases b0; cases b1
     exact h1
theorem gChainThins : Tryd.prog.globalNamed "prow/chain.thins" = some 4 := by kernel_rfl
theorem tChainThins:(Tryd.prog.globals[4]?).map (·.type)=some 178:=by kernel_rfl
theorem uu178:Tryd.prog.underlying 178=some (.array 2 177):=by kernel_rfl
theorem uu177b:(match Tryd.prog.underlying 177 with | some (.func _ _ _)=>true | _=>false)=true:=by kernel_rfl
theorem uu177:∃ ps rs va,Tryd.prog.underlying 177=some (.func ps rs va):=by
 have h:=uu177b
 split at h
 ·rename_i ps rs va hu; exact ⟨ps,rs,va,hu⟩
 ·cases h
theorem cc177:Tryd.prog.cellsOf 177=1:=by kernel_rfl
theorem cc178:Tryd.prog.cellsOf 178=2:=by kernel_rfl
theorem shape4:∃ zero,(((begin Tryd.prog (fun _ _=>0) default).world.heap[4]?).bind Obj.row?)=some (zero,178):=⟨#[.nilFunc,.nilFunc],by kernel_rfl⟩
set_option maxRecDepth 100000 in
theorem atChainThins {W : World} (hS : W.ShapedOpen Tryd.prog) {laid : List (String × DataW Unit)} (h : laidMetH Tryd.prog laid W) (hm : ("prow/chain.thins", Rows.laid_prow_chain_thins) ∈ laid) : (bl 4 [Value.func (.func 125) #[] #[], Value.func (.func 128) #[] #[]] 178).ok W := by
 obtain ⟨z,hz⟩:=shape4
 obtain ⟨cs0,h0,_⟩:=hS.1 4 z 178 (of_decide_eq_true (by kernel_rfl)) hz
 obtain ⟨g, t, cs, fuel, p, hg, ht, hv, hd⟩ := h.funcs (n := "prow/chain.thins") hm
 obtain rfl:=Option.some.inj (gChainThins.symm.trans hg)
 obtain rfl:=Option.some.inj (tChainThins.symm.trans ht)
 obtain rfl:=var_heap gChainThins hv h0
 obtain ⟨xs,m,_,hx,hl,hxs,hel⟩:=DataW.trod_array uu178 hd
 rw [cc178] at hl
 have hx' :xs.map (·.1)=[.held [40,112,114,111,119,47,99,104,97,105,110,46,107,110,111,119,110,41,46,109,97,121],.held [40,112,114,111,119,47,99,104,97,105,110,46,107,110,111,119,110,41,46,115,117,114,101,108,121]]:=by
  have:=congrArg Prod.fst hx
  exact (DataW.agg.inj this).symm
 obtain ⟨ps,rs,va,hu⟩:=uu177
 obtain ⟨cl⟩:=cs
 match cl,hl with
 | [v0,v1],_=>
   match xs,hx' with
   | [(_,p0),(_,p1)],hx' =>
     simp only [List.map_cons,List.map_nil,List.cons.injEq,and_true] at hx'
     obtain ⟨rfl,rfl⟩:=hx'
     have e0:=hel 0 (by decide)
     have e1:=hel 1 (by decide)
     rw [cc177] at e0 e1
     obtain rfl:=func_of_trod (f0:=125) hu (by kernel_rfl) (show DataW.trod _ _ _ _ _ _ _ _ [v0]=some (_,p0) from e0)
     obtain rfl:=func_of_trod (f0:=128) hu (by kernel_rfl) (show DataW.trod _ _ _ _ _ _ _ _ [v1]=some (_,p1) from e1)
     exact h0
theorem gCoalStill : Tryd.prog.globalNamed "prow/coal.still" = some 0 := by kernel_rfl
theorem tCoalStill:(Tryd.prog.globals[0]?).map (·.type)=some 137:=by kernel_rfl
theorem cc137:Tryd.prog.cellsOf 137=2:=by kernel_rfl
theorem uu137:∃ f0 f1:Field,Tryd.prog.underlying 137=some (.struct #[f0,f1])∧f0.type=3∧f1.type=3∧f0.offset=0∧f1.offset=1:=⟨(Tryd.prog.fieldsOf 137)[0]!,(Tryd.prog.fieldsOf 137)[1]!,by kernel_rfl,by kernel_rfl,by kernel_rfl,by kernel_rfl,by kernel_rfl⟩
theorem shape0:∃ zero,(((begin Tryd.prog (fun _ _=>0) default).world.heap[0]?).bind Obj.row?)=some (zero,137):=⟨#[I 0,I 0],by kernel_rfl⟩
set_option maxRecDepth 100000 in
theorem atCoalStill {W : World} (hS : W.ShapedOpen Tryd.prog) {g t : Nat} {cs : Array Value} {fuel : Nat} {p : List MemPlace} (hg : Tryd.prog.globalNamed "prow/coal.still" = some g) (ht : (Tryd.prog.globals[g]?).map (·.type) = some t) (hv : W.var? Tryd.prog "prow/coal.still" = some cs)
 (hd:DataW.trod (fun _=>()) Tryd.prog W 0 (fun _=>true) false fuel t cs.toList=some (.agg [.lit (.int .i64 (-1)),.lit (.int .i64 (-1))],p)):(bl 0 [I (-1),I (-1)] 137).ok W:=by
 obtain ⟨z,hz⟩:=shape0
 obtain ⟨cs0,h1,_⟩:=hS.1 0 z 137 (of_decide_eq_true (by kernel_rfl)) hz
 obtain rfl:=Option.some.inj (gCoalStill.symm.trans hg)
 obtain rfl:=Option.some.inj (tCoalStill.symm.trans ht)
 obtain rfl:=var_heap gCoalStill hv h1
 obtain ⟨f0,f1,hu,ht0,ht1,ho0,ho1⟩:=uu137
 obtain ⟨xs,m,_,hx,hl,hxs,hel⟩:=DataW.trod_struct hu hd
 rw [cc137] at hl
 have hx' :xs.map (·.1)=[.lit (.int .i64 (-1)),.lit (.int .i64 (-1))]:=by
  have:=congrArg Prod.fst hx
  exact (DataW.agg.inj this).symm
 obtain ⟨cl⟩:=cs
 match cl,hl with
 | [v0,v1],_=>
   match xs,hx' with
   | [(_,p0),(_,p1)],hx' =>
     simp only [List.map_cons,List.map_nil,List.cons.injEq,and_true] at hx'
     obtain ⟨rfl,rfl⟩:=hx'
     have e0:=hel 0 f0 rfl
     have e1:=hel 1 f1 rfl
     rw [ho0,ht0,c3] at e0
     rw [ho1,ht1,c3] at e1
     obtain ⟨n0,a0,b0,_⟩:=DataW.trod_int u3 (show DataW.trod _ _ _ _ _ _ _ _ [v0]=some (_,p0) from e0)
     obtain ⟨n1,a1,b1,_⟩:=DataW.trod_int u3 (show DataW.trod _ _ _ _ _ _ _ _ [v1]=some (_,p1) from e1)
     cases a0; cases a1; cases b0; cases b1
     exact h1
theorem gTallyEnds : Tryd.prog.globalNamed "prow/tally.ends" = some 1 := by kernel_rfl
theorem tTallyEnds:(Tryd.prog.globals[1]?).map (·.type)=some 144:=by kernel_rfl
theorem uu144:Tryd.prog.underlying 144=some (.array 2 143):=by kernel_rfl
theorem uu143b:(match Tryd.prog.underlying 143 with | some (.func _ _ _)=>true | _=>false)=true:=by kernel_rfl
theorem uu143:∃ ps rs va,Tryd.prog.underlying 143=some (.func ps rs va):=by
 have h:=uu143b
 split at h
 ·rename_i ps rs va hu; exact ⟨ps,rs,va,hu⟩
 ·cases h
theorem cc143:Tryd.prog.cellsOf 143=1:=by kernel_rfl
theorem cc144:Tryd.prog.cellsOf 144=2:=by kernel_rfl
theorem shape1:∃ zero,(((begin Tryd.prog (fun _ _=>0) default).world.heap[1]?).bind Obj.row?)=some (zero,144):=⟨#[.nilFunc,.nilFunc],by kernel_rfl⟩
set_option maxRecDepth 100000 in
theorem atTallyEnds {W : World} (hS : W.ShapedOpen Tryd.prog) {laid : List (String × DataW Unit)} (h : laidMetH Tryd.prog laid W) (hm : ("prow/tally.ends", Rows.laid_prow_tally_ends) ∈ laid) : (bl 1 [Value.func (.func 124) #[] #[], Value.func (.func 127) #[] #[]] 144).ok W := by
 obtain ⟨z,hz⟩:=shape1
 obtain ⟨cs0,h0,_⟩:=hS.1 1 z 144 (of_decide_eq_true (by kernel_rfl)) hz
 obtain ⟨g, t, cs, fuel, p, hg, ht, hv, hd⟩ := h.funcs (n := "prow/tally.ends") hm
 obtain rfl:=Option.some.inj (gTallyEnds.symm.trans hg)
 obtain rfl:=Option.some.inj (tTallyEnds.symm.trans ht)
 obtain rfl:=var_heap gTallyEnds hv h0
 obtain ⟨xs,m,_,hx,hl,hxs,hel⟩:=DataW.trod_array uu144 hd
 rw [cc144] at hl
 have hx' :xs.map (·.1)=[.held [40,112,114,111,119,47,116,97,108,108,121,46,99,111,117,110,116,41,46,108,101,97,115,116],.held [40,112,114,111,119,47,116,97,108,108,121,46,99,111,117,110,116,41,46,109,111,115,116]]:=by
  have:=congrArg Prod.fst hx
  exact (DataW.agg.inj this).symm
 obtain ⟨ps,rs,va,hu⟩:=uu143
 obtain ⟨cl⟩:=cs
 match cl,hl with
 | [v0,v1],_=>
   match xs,hx' with
   | [(_,p0),(_,p1)],hx' =>
     simp only [List.map_cons,List.map_nil,List.cons.injEq,and_true] at hx'
     obtain ⟨rfl,rfl⟩:=hx'
     have e0:=hel 0 (by decide)
     have e1:=hel 1 (by decide)
     rw [cc143] at e0 e1
     obtain rfl:=func_of_trod (f0:=124) hu (by kernel_rfl) (show DataW.trod _ _ _ _ _ _ _ _ [v0]=some (_,p0) from e0)
     obtain rfl:=func_of_trod (f0:=127) hu (by kernel_rfl) (show DataW.trod _ _ _ _ _ _ _ _ [v1]=some (_,p1) from e1)
     exact h0
theorem gTallyNothing : Tryd.prog.globalNamed "prow/tally.nothing" = some 3 := by kernel_rfl
theorem tTallyNothing:(Tryd.prog.globals[3]?).map (·.type)=some 141:=by kernel_rfl
theorem cc141:Tryd.prog.cellsOf 141=2:=by kernel_rfl
theorem uu141:∃ f0 f1:Field,Tryd.prog.underlying 141=some (.struct #[f0,f1])∧f0.type=3∧f1.type=3∧f0.offset=0∧f1.offset=1:=⟨(Tryd.prog.fieldsOf 141)[0]!,(Tryd.prog.fieldsOf 141)[1]!,by kernel_rfl,by kernel_rfl,by kernel_rfl,by kernel_rfl,by kernel_rfl⟩
theorem shape3:∃ zero,(((begin Tryd.prog (fun _ _=>0) default).world.heap[3]?).bind Obj.row?)=some (zero,141):=⟨#[I 0,I 0],by kernel_rfl⟩
set_option maxRecDepth 100000 in
theorem atTallyNothing {W : World} (hS : W.ShapedOpen Tryd.prog) {g t : Nat} {cs : Array Value} {fuel : Nat} {p : List MemPlace} (hg : Tryd.prog.globalNamed "prow/tally.nothing" = some g) (ht : (Tryd.prog.globals[g]?).map (·.type) = some t) (hv : W.var? Tryd.prog "prow/tally.nothing" = some cs)
 (hd:DataW.trod (fun _=>()) Tryd.prog W 0 (fun _=>true) false fuel t cs.toList=some (.agg [.lit (.int .i64 (-1)),.lit (.int .i64 (-1))],p)):(bl 3 [I (-1),I (-1)] 141).ok W:=by
 obtain ⟨z,hz⟩:=shape3
 obtain ⟨cs0,h1,_⟩:=hS.1 3 z 141 (of_decide_eq_true (by kernel_rfl)) hz
 obtain rfl:=Option.some.inj (gTallyNothing.symm.trans hg)
 obtain rfl:=Option.some.inj (tTallyNothing.symm.trans ht)
 obtain rfl:=var_heap gTallyNothing hv h1
 obtain ⟨f0,f1,hu,ht0,ht1,ho0,ho1⟩:=uu141
 obtain ⟨xs,m,_,hx,hl,hxs,hel⟩:=DataW.trod_struct hu hd
 rw [cc141] at hl
 have hx' :xs.map (·.1)=[.lit (.int .i64 (-1)),.lit (.int .i64 (-1))]:=by
  have:=congrArg Prod.fst hx
  exact (DataW.agg.inj this).symm
 obtain ⟨cl⟩:=cs
 match cl,hl with
 | [v0,v1],_=>
   match xs,hx' with
   | [(_,p0),(_,p1)],hx' =>
     simp only [List.map_cons,List.map_nil,List.cons.injEq,and_true] at hx'
     obtain ⟨rfl,rfl⟩:=hx'
     have e0:=hel 0 f0 rfl
     have e1:=hel 1 f1 rfl
     rw [ho0,ht0,c3] at e0
     rw [ho1,ht1,c3] at e1
     obtain ⟨n0,a0,b0,_⟩:=DataW.trod_int u3 (show DataW.trod _ _ _ _ _ _ _ _ [v0]=some (_,p0) from e0)
     obtain ⟨n1,a1,b1,_⟩:=DataW.trod_int u3 (show DataW.trod _ _ _ _ _ _ _ _ [v1]=some (_,p1) from e1)
     cases a0; cases a1; cases b0; cases b1
     exact h1
def laidL : List (String × DataW Unit) := [("prow/chain.nowhere", Rows.laid_prow_chain_nowhere), ("prow/chain.thins", Rows.laid_prow_chain_thins), ("prow/coal.still", Rows.laid_prow_coal_still), ("prow/tally.ends", Rows.laid_prow_tally_ends), ("prow/tally.nothing", Rows.laid_prow_tally_nothing)]
theorem globals_ok {W:World} (hS:W.ShapedOpen Tryd.prog) (h:laidMetH Tryd.prog laidL W):(bl 0 [I (-1),I (-1)] 137).ok W∧(bl 1 [Value.func (.func 124) #[] #[],Value.func (.func 127) #[] #[]] 144).ok W∧(bl 2 [I (-1),I (-1)] 155).ok W∧(bl 3 [I (-1),I (-1)] 141).ok W∧(bl 4 [Value.func (.func 125) #[] #[],Value.func (.func 128) #[] #[]] 178).ok W:=by
 have h' : laidMet Tryd.prog [("prow/chain.nowhere", Rows.laid_prow_chain_nowhere), ("prow/coal.still", Rows.laid_prow_coal_still), ("prow/tally.nothing", Rows.laid_prow_tally_nothing)] W := h.1
 obtain ⟨ps,⟨g0,t0,cs0,fuel0,p0,q0,hg0,ht0,hv0,hd0,⟨g1,t1,cs1,fuel1,p1,q1,hg1,ht1,hv1,hd1,⟨g2,t2,cs2,fuel2,p2,q2,hg2,ht2,hv2,hd2,_,_⟩,_⟩,_⟩,_⟩:=h'
 exact ⟨atCoalStill hS hg1 ht1 hv1 hd1,atTallyEnds hS h (List.mem_cons_of_mem _ (List.mem_cons_of_mem _ (List.mem_cons_of_mem _ (List.mem_cons_self ..)))),atChainNowhere hS hg0 ht0 hv0 hd0,atTallyNothing hS hg2 ht2 hv2 hd2,atChainThins hS h (List.mem_cons_of_mem _ (List.mem_cons_self ..))⟩
def putCells (cs:Array Value):Obj→Obj
 | .cells _ t frozen=>.cells cs t frozen
 | o=>o
noncomputable def laidWorld (os:Os):World:=
 { World.holding Tryd.prog os ⟨#[],#[],[]⟩ with heap:=((((((World.holding Tryd.prog os ⟨#[],#[],[]⟩).heap.modify 0 (putCells #[I (-1),I (-1)])).modify 1 (putCells #[.func (.func 124) #[] #[],.func (.func 127) #[] #[]])).modify 2 (putCells #[I (-1),I (-1)])).modify 3 (putCells #[I (-1),I (-1)])).modify 4 (putCells #[.func (.func 125) #[] #[],.func (.func 128) #[] #[]])) }
end Go.Proofs.YtblfippmobpaaaaDoor
set_option linter.constructorNameAsVariable false
set_option maxRecDepth 100000
namespace Go.Proofs.YtblfippmobpaaaaDoor
open Go Go.Fx Go.Proofs Go.ChangeShapes Go.WideShapes Go.ChangeAt Go.RowKit
theorem get_bang {α:Type} [Inhabited α] {a:Array α}{i:Nat} (h:i < a.size):a[i]? =some a[i]! :=by
 rw [Array.getElem?_eq_getElem h,getElem!_pos a i h]
theorem st {t n:Nat} (u:Tryd.prog.underlying t=some (.struct (Tryd.prog.fieldsOf t))) (c:Tryd.prog.cellsOf t=n) (s:(Tryd.prog.fieldsOf t).size=n)
 (b:((List.range n).all fun i=>(Tryd.prog.fieldsOf t)[i]!.offset==i&&(Tryd.prog.fieldsOf t)[i]!.type==3)=true):FlatI Tryd.prog t n:=by
 refine flat_struct u c (fun i hi=>?_) s
 refine ⟨_,get_bang (by rw [s]; exact hi),?_⟩
 have:=List.all_eq_true.1 b i (List.mem_range.2 hi)
 simp only [Bool.and_eq_true,beq_iff_eq] at this
 exact ⟨this.1,by rw [this.2]; exact u3,by rw [this.2]; exact c3⟩
theorem c23:Tryd.prog.cellsOf 23=2:=by kernel_rfl
theorem c59:Tryd.prog.cellsOf 59=3:=by kernel_rfl
theorem c75:Tryd.prog.cellsOf 75=3:=by kernel_rfl
theorem c29:Tryd.prog.cellsOf 29=14:=by kernel_rfl
theorem c24:Tryd.prog.cellsOf 24=4:=by kernel_rfl
theorem c25:Tryd.prog.cellsOf 25=3:=by kernel_rfl
theorem c26:Tryd.prog.cellsOf 26=1:=by kernel_rfl
theorem c27:Tryd.prog.cellsOf 27=1:=by kernel_rfl
theorem u24:Tryd.prog.underlying 24=some (.array 2 23):=by kernel_rfl
theorem u25:Tryd.prog.underlying 25=some (.array 3 3):=by kernel_rfl
theorem u26:Tryd.prog.underlying 26=some (.slice 59):=by kernel_rfl
theorem u27:Tryd.prog.underlying 27=some (.slice 75):=by kernel_rfl
theorem u29:Tryd.prog.underlying 29=some (.struct (Tryd.prog.fieldsOf 29)):=by kernel_rfl
theorem flat23:FlatI Tryd.prog 23 2:=st (by kernel_rfl) c23 (by kernel_rfl) (by kernel_rfl)
theorem flat59:FlatI Tryd.prog 59 3:=st (by kernel_rfl) c59 (by kernel_rfl) (by kernel_rfl)
theorem flat75:FlatI Tryd.prog 75 3:=st (by kernel_rfl) c75 (by kernel_rfl) (by kernel_rfl)
theorem flat25:FlatI Tryd.prog 25 3:=flat_array u25 u3 c3 c25
theorem f29s:(Tryd.prog.fieldsOf 29).size=7:=by kernel_rfl
theorem f29b:([(0,0,23),(1,2,24),(2,6,25),(3,9,26),(4,10,23),(5,12,3),(6,13,27)].all fun (x:Nat×Nat×Nat)=>(Tryd.prog.fieldsOf 29)[x.1]!.offset==x.2.1&&(Tryd.prog.fieldsOf 29)[x.1]!.type==x.2.2)=true:=by kernel_rfl
theorem maxLen_le:maxLen≤9223372036854775807:=by decide
def dayOf (l:List Int):CoalDay:=⟨l.getD 0 0,l.getD 1 0,l.getD 2 0⟩
theorem dayOf_cells {l:List Int} (h:l.length=3):eCoalDay (dayOf l)=l.map I:=by
 match l,h with
 | [_,_,_],_=>rfl
def dipOf (l:List Int):CoalDip:=⟨l.getD 0 0,l.getD 1 0,l.getD 2 0⟩
theorem dipOf_cells {l:List Int} (h:l.length=3):eCoalDip (dipOf l)=l.map I:=by
 match l,h with
 | [_,_,_],_=>rfl
variable {H:Type}{enc:TypeId×Value→H}{w:World}{spare:Nat→Bool}{held:Bool}{r:Reach}{b0:Nat}{v:Value}{d:DataW H}{ps:List MemPlace}
theorem two_of {fuel:Nat}{cs:List Value}{x:DataW H×List MemPlace} (h:DataW.trod enc Tryd.prog w 0 spare held fuel 23 cs=some x):∃ s:Span,cs=eSpan s:=by
 obtain ⟨l,hl,rfl,_⟩:=flat23 h
 match l,hl with
 | [a,b],_=>exact ⟨⟨a,b⟩,rfl⟩
theorem four_of {fuel:Nat}{cs:List Value}{x:DataW H×List MemPlace} (h:DataW.trod enc Tryd.prog w 0 spare held fuel 24 cs=some x):∃ l:List Span,l.length=2∧cs=sgE eSpan l 2:=by
 obtain ⟨xs,m,_,_,hl,hxs,hel⟩:=DataW.trod_array u24 h
 rw [c24] at hl
 have e0:=hel 0 (by decide)
 have e1:=hel 1 (by decide)
 rw [c23,List.getElem?_eq_getElem (by omega)] at e0 e1
 obtain ⟨s0,h0⟩:=two_of e0
 obtain ⟨s1,h1⟩:=two_of e1
 refine ⟨[s0,s1],rfl,?_⟩
 match cs,hl with
 | [a,b,c,d],_=>
   simp [eSpan] at h0 h1
   obtain ⟨rfl,rfl⟩:=h0
   obtain ⟨rfl,rfl⟩:=h1
   rfl
theorem dec_book (hval:Value.okWide Tryd.prog w r b0 29 v) (hd:DataW.Trod enc Tryd.prog w 0 spare held 29 v d ps):∃ A1 c1 A2 c2,∃ b:CoalBook,v=AG ([I b.Heap.Low,I b.Heap.High]++(sgE eSpan b.Eats 2++(sg b.Extra 3++[SL A1 b.Days.length c1,I b.Collier.Low,I b.Collier.High,I b.Brings,SL A2 b.Dips.length c2])))∧
 (rd eCoalDay 3 A1 c1 b.Days).ok w∧(rd eCoalDip 3 A2 c2 b.Dips).ok w∧b.Days.length≤9223372036854775807∧b.Dips.length≤9223372036854775807∧b.Eats.length=2∧b.Extra.length=3:=by
 obtain ⟨cs,rfl⟩:=okWide_cells (by kernel_rfl) hval
 obtain ⟨fuel,hf⟩:=hd
 obtain ⟨xs,m,_,_,hl,hxs,hel⟩:=DataW.trod_struct u29 hf
 rw [c29] at hl
 rw [f29s] at hxs
 have fb:=f29b
 simp only [List.all_cons,List.all_nil,Bool.and_eq_true,beq_iff_eq,and_true] at fb
 obtain ⟨⟨o0,t0⟩,⟨o1,t1⟩,⟨o2,t2⟩,⟨o3,t3⟩,⟨o4,t4⟩,⟨o5,t5⟩,⟨o6,t6⟩⟩:=fb
 have e0:=hel 0 _ (get_bang (by rw [f29s]; decide))
 have e1:=hel 1 _ (get_bang (by rw [f29s]; decide))
 have e2:=hel 2 _ (get_bang (by rw [f29s]; decide))
 have e3:=hel 3 _ (get_bang (by rw [f29s]; decide))
 have e4:=hel 4 _ (get_bang (by rw [f29s]; decide))
 have e5:=hel 5 _ (get_bang (by rw [f29s]; decide))
 have e6:=hel 6 _ (get_bang (by rw [f29s]; decide))
 rw [o0,t0,c23,List.getElem?_eq_getElem (by omega)] at e0
 rw [o1,t1,c24,List.getElem?_eq_getElem (by omega)] at e1
 rw [o2,t2,c25,List.getElem?_eq_getElem (by omega)] at e2
 rw [o3,t3,c26,List.getElem?_eq_getElem (by omega)] at e3
 rw [o4,t4,c23,List.getElem?_eq_getElem (by omega)] at e4
 rw [o5,t5,c3,List.getElem?_eq_getElem (by omega)] at e5
 rw [o6,t6,c27,List.getElem?_eq_getElem (by omega)] at e6
 obtain ⟨s0,g0⟩:=two_of e0
 obtain ⟨l1,k1,g1⟩:=four_of e1
 obtain ⟨l2,k2,g2,_⟩:=flat25 e2
 obtain ⟨A3,c3',l3,g3,h31,h32⟩:=slice_flat u26 flat59 c59 (by decide) e3
 obtain ⟨s4,g4⟩:=two_of e4
 obtain ⟨n5,g5,_,_⟩:=DataW.trod_int u3 e5
 obtain ⟨A6,c6',l6,g6,h61,h62⟩:=slice_flat u27 flat75 c75 (by decide) e6
 have m3:=rd_map (e2:=eCoalDay) dayOf (fun x hx=>dayOf_cells (h31 x hx).1) h32
 have m6:=rd_map (e2:=eCoalDip) dipOf (fun x hx=>dipOf_cells (h61 x hx).1) h62
 refine ⟨A3,c3',A6,c6',⟨s0,l1,l2,l3.map dayOf,s4,n5,l6.map dipOf⟩,?_,m3,m6,?_,?_,k1,k2⟩
 ·obtain ⟨cl⟩:=cs
  match l1,k1,l2,k2 with
  | [p,q],_,[x,y,z],_=>
    match cl,hl with
    | [y0,y1,y2,y3,y4,y5,y6,y7,y8,y9,y10,y11,y12,y13],_=>
      simp [Value.cells,eSpan,sgE,sgEF] at g0 g1 g2 g3 g4 g5 g6
      obtain ⟨rfl,rfl⟩:=g0
      obtain ⟨rfl,rfl,rfl,rfl⟩:=g1
      obtain ⟨rfl,rfl,rfl⟩:=g2
      obtain ⟨rfl,rfl⟩:=g4
      subst g3 g5 g6
      simp [sgE,sgEF,sg,sgF,eSpan]
 ·have:=maxLen_le; have:=m3.2.1; have:=m3.2.2; simp only; omega
 ·have:=maxLen_le; have:=m6.2.1; have:=m6.2.2; simp only; omega
end Go.Proofs.YtblfippmobpaaaaDoor
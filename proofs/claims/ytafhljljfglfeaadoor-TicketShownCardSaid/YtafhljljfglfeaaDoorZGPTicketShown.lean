/- What the law's function computes, and that it does, printed by a program of mine. -/
import Derived.Test.YtafhljljfglfeaaDoorZGFxRow
import Derived.KernelRfl
import Derived.Test.YtafhljljfglfeaaDoorZGPPunch
set_option linter.unusedVariables false
set_option linter.unusedSimpArgs false
namespace Go.Proofs.YtafhljljfglfeaaDoor
open Go Go.Fx Go.Proofs
def law_TicketShown_j7 (r91:(List Int)×Int) (r36:Int) (a0:TicketBook) (z_1:Int×Int×Int) (rec_z_1:(Int×Int×Int)→Option Bool) (z_2:Int):Option Bool:=
 (B_At r91.1 r36).bind fun r119=>
 bif decide (r119≥0) then ((getI a0.Tickets r36).bind fun r124=>
 (getI a0.Tickets r36).bind fun r126=>
 (B_Inside z_1.2.2 r124.From r126.To).bind fun r128=>
 bif !r128 then (some false)
 else (rec_z_1 (z_2,wr (z_1.2.1+1),wr (z_1.2.2+1))))
 else (rec_z_1 (z_2,z_1.2.1,wr (z_1.2.2+1)))
def law_TicketShown_l8 (a0:TicketBook) (r36:Int) (r40:Span×Int) (a1:List Int) (rec_z_1:(Int×Int×Int)→Option Bool) (z_1:Int×Int×Int):Option Bool:=
 bif decide (z_1.2.2 < a0.Tally.Trips) then ((ticket_Must a0 z_1.2.2).bind fun r82=>
 (ticket_May a0 z_1.2.2).bind fun r91=>
 bif (r82.2 != 0) then (some false)
 else (bif (r91.2 != 0) then (some false)
 else ((B_Climbs r91.1 (a0.Tickets.length:Int)).bind fun r102=>
 bif !r102 then (some false)
 else ((B_SetOf r82.1).bind fun r107=>
 (B_SetOf r91.1).bind fun r111=>
 bif ((andNotI r107 r111) != 0) then (some false)
 else ((B_At r82.1 r36).bind fun r116=>
 bif decide (r116≥0) then (law_TicketShown_j7 r91 r36 a0 z_1 rec_z_1 (wr (z_1.1+1)))
 else (law_TicketShown_j7 r91 r36 a0 z_1 rec_z_1 z_1.1))))))
 else (bif decide (r40.1.Low < z_1.1) then (some false)
 else (bif decide (r40.1.High > z_1.2.1) then (some false)
 else (bif decide (r40.1.Low > r40.1.High) then (some false)
 else (bif ((a0.Shows.length:Int)==0) then ((law_punched).bind fun r125=>
 some r125)
 else ((B_Mod (aget a1 0) (a0.Shows.length:Int)).bind fun r129=>
 (getI a0.Shows r129).bind fun r131=>
 (ticket_Must a0 r131.Trip).bind fun r145=>
 bif (r145.2==0) then ((B_At r145.1 r131.Ticket).bind fun r155=>
 bif decide (r155≥0) then ((law_punched).bind fun r160=>
 some r160)
 else (some false))
 else (some false))))))
def law_TicketShown (a0:TicketBook) (a1:List Int):Option Bool:=
 (law_sound a0).bind fun r22=>
 bif !r22 then ((law_punched).bind fun r27=>
 some r27)
 else (bif ((a0.Tickets.length:Int)==0) then ((law_punched).bind fun r32=>
 some r32)
 else ((B_Mod (aget a1 1) (a0.Tickets.length:Int)).bind fun r36=>
 (ticket_Saved a0 r36).bind fun r40=>
 bif (r40.2 != 0) then ((ticket_Right a0).bind fun r50=>
 bif (r40.2==102) then ((B_Point 0).bind fun r55=>
 bif ((r40.1.Low==r55.Low)&&(r40.1.High==r55.High)) then (bif (r50.2==0) then (bif !r50.1 then ((law_punched).bind fun r60=>
 some r60)
 else (some false))
 else (some false))
 else (some false))
 else (some false))
 else (loopF (law_TicketShown_l8 a0 r36 r40 a1) big (0,0,0))))
set_option maxRecDepth 100000 in
theorem law_TicketShown_ok {a0:TicketBook}{a1:List Int}{A1:Option Addr}{c2:Nat}{A4:Option Addr}{c5:Nat}{A7:Option Addr}{c8:Nat}{A10:Option Addr}{c11:Nat}{w:World}{r:Bool} (H:law_TicketShown a0 a1=some r) (h3:(rd eTallyCount 7 A1 c2 a0.Tally.Counts).ok w) (h6:(rd eTicketSeason 2 A4 c5 a0.Tickets).ok w) (h9:(rd eTicketShow 3 A7 c8 a0.Shows).ok w) (h12:(rd eTicketBox 4 A10 c11 a0.Boxes).ok w) (hg13:(gW0).ok w) (hg14:(gW1).ok w) (hg15:(gW2).ok w):Calls Tryd.prog 4 #[AG (vB a0 A1 c2 A4 c5 A7 c8 A10 c11),AG (sg a1 2)] w (RetV w (B r)):=by
 unfold law_TicketShown at H
 refine fn_of (n:=186) Tryd.func4 rfl rfl (lE rfl) ?_
 have S:=St.start w nF _ (cA h3 (cA h6 (cA h9 (cA h12 (cA hg13 (cA hg14 (cA hg15 nM)))))))
 refine c_seq<|reg<|p_boxA rfl S fun b16 w17 S18=>p_boxA rfl S18 fun b19 w20 S21=>p_aB rfl<|wp_nil<|c_seq<|c_seq<|reg<|p_ldA ty29 sz29 (S21.atX (i:=1) rfl) rfl rfl ?_
 obtain ⟨r22,h23,H⟩:=bindS H
 refine p_cv (law_sound_ok h23 (S21.atP (i:=0) rfl) (S21.atP (i:=1) rfl) (S21.atP (i:=2) rfl) (S21.atP (i:=3) rfl)) fu12 rfl S21 fun w24 S25=>p_not rfl<|p_mB rfl ?_
 rcases bE (!r22) with c26 | c26
 ·replace H:=condT c26 H
  refine eB c26<|gF rfl rfl<|gF rfl rfl<|gF rfl rfl<|gF rfl rfl<|p_pkT rfl (rfl:_=B true)<|wp_nil<|c_true rfl<|c_seq<|reg ?_
  obtain ⟨r27,h28,H⟩:=bindS H
  refine p_cv (law_punched_ok h28 (S25.atP (i:=4) rfl) (S25.atP (i:=5) rfl) (S25.atP (i:=6) rfl)) fu13 rfl S25 fun w29 S30=>p_aB rfl<|wp_nil ?_
  obtain rfl:=sJ H
  exact c_ret (rT Tryd.f4 S30.keep rfl rfl)
 ·replace H:=condF c26 H
  refine eB c26 ?_
  refine gT rfl rfl (p_fld fl29_2 rfl ?_)
  refine gT rfl rfl (p_ld ty25 (S25.atX (i:=1) rfl) rfl rfl ?_)
  refine gT rfl rfl (p_len rfl sc25 ?_)
  refine gT rfl rfl (p_cmp rfl rfl rfl ?_)
  refine p_pkF rfl (rfl:_=B ((a0.Tickets.length:Int)==0))<|wp_nil ?_
  refine c_cond rfl (fun c31=>?_) (fun c31=>?_)
  ·replace H:=condT c31 H
   refine c_seq<|reg ?_
   obtain ⟨r32,h33,H⟩:=bindS H
   refine p_cv (law_punched_ok h33 (S25.atP (i:=4) rfl) (S25.atP (i:=5) rfl) (S25.atP (i:=6) rfl)) fu13 rfl S25 fun w34 S35=>p_aB rfl<|wp_nil ?_
   obtain rfl:=sJ H
   exact c_ret (rT Tryd.f4 S35.keep rfl rfl)
  ·replace H:=condF c31 H
   refine c_skip<|c_seq<|reg<|p_ixc ar60 rfl rfl (by decide) (by decide)<|p_ld ty3 (S25.atX (i:=0) rfl) rfl rfl<|p_fld fl29_2 rfl<|p_ld ty25 (S25.atX (i:=1) rfl) rfl rfl<|p_len rfl sc25 ?_
   obtain ⟨r36,h37,H⟩:=bindS H
   refine p_cv (B_Mod_ok h37) fu19 rfl S25 fun w38 S39=>p_aI rfl<|wp_nil<|c_seq<|reg<|p_ldA ty29 sz29 (S39.atX (i:=1) rfl) rfl rfl<|p_mI rfl ?_
   obtain ⟨r40,h41,H⟩:=bindS H
   refine p_cv (ticket_Saved_ok h41 (S39.atP (i:=0) rfl) (S39.atP (i:=1) rfl) (S39.atP (i:=2) rfl) (S39.atP (i:=3) rfl) (S39.atP (i:=4) rfl) (S39.atP (i:=6) rfl)) fu29 rfl S39 fun w42 S43=>p_mT rfl<|p_ext rfl rfl<|p_ext rfl rfl<|p_allA in49 S43 fun b44 w45 S46=>?_
   refine p_stP (pre:=[]) (old:=[I 0,I 0]) (post:=[]) (vs:=[I r40.1.Low,I r40.1.High]) sz49 S46 (i:=0) rfl rfl rfl rfl (rfl:_=AG [I r40.1.Low,I r40.1.High]) rfl rfl rfl rfl fun w47 S48=>p_aI rfl<|wp_nil<|c_seq<|c_seq<|reg<|p_mI rfl<|p_cmp rfl rfl rfl<|wp_nil ?_
   refine c_cond rfl (fun c49=>?_) (fun c49=>?_)
   ·replace H:=condT c49 H
    refine c_seq<|reg<|p_ldA ty29 sz29 (S48.atX (i:=2) rfl) rfl rfl ?_
    obtain ⟨r50,h51,H⟩:=bindS H
    refine p_cv (ticket_Right_ok h51 (S48.atP (i:=0) rfl) (S48.atP (i:=1) rfl) (S48.atP (i:=2) rfl) (S48.atP (i:=3) rfl) (S48.atP (i:=4) rfl) (S48.atP (i:=6) rfl)) fu16 rfl S48 fun w52 S53=>p_mT rfl<|p_ext rfl rfl<|p_ext rfl rfl<|p_aB rfl<|p_aI rfl<|wp_nil<|c_seq ?_
    rcases bE ((r40.2==102)) with c54 | c54
    ·replace H:=condT c54 H
     obtain ⟨r55,h56,H⟩:=bindS H
     rcases bE (((r40.1.Low==r55.Low)&&(r40.1.High==r55.High))) with c57 | c57
     ·replace H:=condT c57 H
      rcases bE ((r50.2==0)) with c58 | c58
      ·replace H:=condT c58 H
       rcases bE (!r50.1) with c59 | c59
       ·replace H:=condT c59 H
        obtain ⟨r60,h61,H⟩:=bindS H
        refine reg_q mixed 19 (by kernel_rfl) ?_
        refine dS (fun _ k_=>p_mI rfl dn)<|dS (fun _ k_=>p_cmp rfl rfl rfl dn)<|dS (fun _ k_=>p_mB rfl dn)<|dB c54<|dS (fun _ k_=>gT rfl rfl (p_ldA ty49 sz49 (aS (S53.atX (i:=0) rfl) k_) rfl rfl dn))<|dS (fun _ k_=>gT rfl rfl (p_cvD (B_Point_ok h56) fu30 rfl)) ?_
        refine dS (fun _ k_=>gT rfl rfl (o_eqA (xs:=[I r40.1.Low,I r40.1.High]) (ys:=[I r55.Low,I r55.High]) (T:=((r40.1.Low==r55.Low)&&(r40.1.High==r55.High))) rfl rfl eq49 ⟨⟨_,rfl⟩,⟨⟨_,rfl⟩,trivial⟩⟩ ⟨⟨_,rfl⟩,⟨⟨_,rfl⟩,trivial⟩⟩ (by simp [Bool.and_eq_true,and_assoc]) dn))<|dS (fun _ k_=>p_pkT rfl (rfl:_=B ((r40.1.Low==r55.Low)&&(r40.1.High==r55.High))) dn) ?_
        refine dS (fun _ k_=>p_mB rfl dn)<|dB c57<|dS (fun _ k_=>gT rfl rfl (p_mI rfl dn))<|dS (fun _ k_=>gT rfl rfl (p_cmp rfl rfl rfl dn))<|dS (fun _ k_=>p_pkT rfl (rfl:_=B (r50.2==0)) dn)<|dS (fun _ k_=>p_mB rfl dn)<|dB c58<|dS (fun _ k_=>gT rfl rfl (p_mB rfl dn))<|dS (fun _ k_=>gT rfl rfl (p_not rfl dn))<|dS (fun _ k_=>p_pkT rfl (rfl:_=B (!r50.1)) dn)<|dS (fun _ k_=>p_mB rfl dn)<|dB c59 ?_
        refine dS (fun _ k_=>gT rfl rfl (p_cvD (law_punched_ok h61 (aS (S53.atP (i:=4) rfl) k_) (aS (S53.atP (i:=5) rfl) k_) (aS (S53.atP (i:=6) rfl) k_)) fu13 rfl))<|dS (fun _ k_=>p_pkT rfl (rfl:_=B r60) dn)<|dS (fun _ k_=>p_aB rfl dn) ?_
        intro w62 k63; have S64:=S53.call k63
        refine wp_nil ?_
        obtain rfl:=sJ H
        exact c_ret (rT Tryd.f4 S64.keep rfl rfl)
       ·replace H:=condF c59 H
        refine reg_q mixed 19 (by kernel_rfl) ?_
        refine dS (fun _ k_=>p_mI rfl dn)<|dS (fun _ k_=>p_cmp rfl rfl rfl dn)<|dS (fun _ k_=>p_mB rfl dn)<|dB c54<|dS (fun _ k_=>gT rfl rfl (p_ldA ty49 sz49 (aS (S53.atX (i:=0) rfl) k_) rfl rfl dn))<|dS (fun _ k_=>gT rfl rfl (p_cvD (B_Point_ok h56) fu30 rfl)) ?_
        refine dS (fun _ k_=>gT rfl rfl (o_eqA (xs:=[I r40.1.Low,I r40.1.High]) (ys:=[I r55.Low,I r55.High]) (T:=((r40.1.Low==r55.Low)&&(r40.1.High==r55.High))) rfl rfl eq49 ⟨⟨_,rfl⟩,⟨⟨_,rfl⟩,trivial⟩⟩ ⟨⟨_,rfl⟩,⟨⟨_,rfl⟩,trivial⟩⟩ (by simp [Bool.and_eq_true,and_assoc]) dn))<|dS (fun _ k_=>p_pkT rfl (rfl:_=B ((r40.1.Low==r55.Low)&&(r40.1.High==r55.High))) dn) ?_
        refine dS (fun _ k_=>p_mB rfl dn)<|dB c57<|dS (fun _ k_=>gT rfl rfl (p_mI rfl dn))<|dS (fun _ k_=>gT rfl rfl (p_cmp rfl rfl rfl dn))<|dS (fun _ k_=>p_pkT rfl (rfl:_=B (r50.2==0)) dn)<|dS (fun _ k_=>p_mB rfl dn)<|dB c58<|dS (fun _ k_=>gT rfl rfl (p_mB rfl dn))<|dS (fun _ k_=>gT rfl rfl (p_not rfl dn))<|dS (fun _ k_=>p_pkT rfl (rfl:_=B (!r50.1)) dn)<|dS (fun _ k_=>p_mB rfl dn)<|dB c59 ?_
        refine dF rfl rfl<|dS (fun _ k_=>p_pkF rfl (rfl:_=B false) dn)<|dS (fun _ k_=>p_aB rfl dn) ?_
        intro w65 k66; have S67:=S53.call k66
        refine wp_nil ?_
        obtain rfl:=sJ H
        exact c_ret (rT Tryd.f4 S67.keep rfl rfl)
      ·replace H:=condF c58 H
       refine reg_q mixed 19 (by kernel_rfl) ?_
       refine dS (fun _ k_=>p_mI rfl dn)<|dS (fun _ k_=>p_cmp rfl rfl rfl dn)<|dS (fun _ k_=>p_mB rfl dn)<|dB c54<|dS (fun _ k_=>gT rfl rfl (p_ldA ty49 sz49 (aS (S53.atX (i:=0) rfl) k_) rfl rfl dn))<|dS (fun _ k_=>gT rfl rfl (p_cvD (B_Point_ok h56) fu30 rfl)) ?_
       refine dS (fun _ k_=>gT rfl rfl (o_eqA (xs:=[I r40.1.Low,I r40.1.High]) (ys:=[I r55.Low,I r55.High]) (T:=((r40.1.Low==r55.Low)&&(r40.1.High==r55.High))) rfl rfl eq49 ⟨⟨_,rfl⟩,⟨⟨_,rfl⟩,trivial⟩⟩ ⟨⟨_,rfl⟩,⟨⟨_,rfl⟩,trivial⟩⟩ (by simp [Bool.and_eq_true,and_assoc]) dn))<|dS (fun _ k_=>p_pkT rfl (rfl:_=B ((r40.1.Low==r55.Low)&&(r40.1.High==r55.High))) dn) ?_
       refine dS (fun _ k_=>p_mB rfl dn)<|dB c57<|dS (fun _ k_=>gT rfl rfl (p_mI rfl dn))<|dS (fun _ k_=>gT rfl rfl (p_cmp rfl rfl rfl dn))<|dS (fun _ k_=>p_pkT rfl (rfl:_=B (r50.2==0)) dn)<|dS (fun _ k_=>p_mB rfl dn)<|dB c58<|dF rfl rfl<|dF rfl rfl<|dS (fun _ k_=>p_pkF rfl (rfl:_=B false) dn)<|dS (fun _ k_=>p_mB rfl dn)<|dF rfl rfl ?_
       refine dS (fun _ k_=>p_pkF rfl (rfl:_=B false) dn)<|dS (fun _ k_=>p_aB rfl dn) ?_
       intro w68 k69; have S70:=S53.call k69
       refine wp_nil ?_
       obtain rfl:=sJ H
       exact c_ret (rT Tryd.f4 S70.keep rfl rfl)
     ·replace H:=condF c57 H
      refine reg_q mixed 19 (by kernel_rfl) ?_
      refine dS (fun _ k_=>p_mI rfl dn)<|dS (fun _ k_=>p_cmp rfl rfl rfl dn)<|dS (fun _ k_=>p_mB rfl dn)<|dB c54<|dS (fun _ k_=>gT rfl rfl (p_ldA ty49 sz49 (aS (S53.atX (i:=0) rfl) k_) rfl rfl dn))<|dS (fun _ k_=>gT rfl rfl (p_cvD (B_Point_ok h56) fu30 rfl)) ?_
      refine dS (fun _ k_=>gT rfl rfl (o_eqA (xs:=[I r40.1.Low,I r40.1.High]) (ys:=[I r55.Low,I r55.High]) (T:=((r40.1.Low==r55.Low)&&(r40.1.High==r55.High))) rfl rfl eq49 ⟨⟨_,rfl⟩,⟨⟨_,rfl⟩,trivial⟩⟩ ⟨⟨_,rfl⟩,⟨⟨_,rfl⟩,trivial⟩⟩ (by simp [Bool.and_eq_true,and_assoc]) dn))<|dS (fun _ k_=>p_pkT rfl (rfl:_=B ((r40.1.Low==r55.Low)&&(r40.1.High==r55.High))) dn) ?_
      refine dS (fun _ k_=>p_mB rfl dn)<|dB c57<|dF rfl rfl<|dF rfl rfl<|dS (fun _ k_=>p_pkF rfl (rfl:_=B false) dn)<|dS (fun _ k_=>p_mB rfl dn)<|dF rfl rfl<|dF rfl rfl<|dS (fun _ k_=>p_pkF rfl (rfl:_=B false) dn)<|dS (fun _ k_=>p_mB rfl dn)<|dF rfl rfl<|dS (fun _ k_=>p_pkF rfl (rfl:_=B false) dn) ?_
      refine dS (fun _ k_=>p_aB rfl dn) ?_
      intro w71 k72; have S73:=S53.call k72
      refine wp_nil ?_
      obtain rfl:=sJ H
      exact c_ret (rT Tryd.f4 S73.keep rfl rfl)
    ·replace H:=condF c54 H
     refine reg_q mixed 19 (by kernel_rfl) ?_
     refine dS (fun _ k_=>p_mI rfl dn)<|dS (fun _ k_=>p_cmp rfl rfl rfl dn)<|dS (fun _ k_=>p_mB rfl dn)<|dB c54<|dF rfl rfl<|dF rfl rfl<|dF rfl rfl<|dS (fun _ k_=>p_pkF rfl (rfl:_=B false) dn)<|dS (fun _ k_=>p_mB rfl dn)<|dF rfl rfl<|dF rfl rfl<|dS (fun _ k_=>p_pkF rfl (rfl:_=B false) dn) ?_
     refine dS (fun _ k_=>p_mB rfl dn)<|dF rfl rfl<|dF rfl rfl<|dS (fun _ k_=>p_pkF rfl (rfl:_=B false) dn)<|dS (fun _ k_=>p_mB rfl dn)<|dF rfl rfl<|dS (fun _ k_=>p_pkF rfl (rfl:_=B false) dn)<|dS (fun _ k_=>p_aB rfl dn) ?_
     intro w74 k75; have S76:=S53.call k75
     refine wp_nil ?_
     obtain rfl:=sJ H
     exact c_ret (rT Tryd.f4 S76.keep rfl rfl)
   ·replace H:=condF c49 H
    refine c_skip<|c_seq<|reg<|p_aI rfl<|p_aI rfl<|wp_nil<|c_seq<|c_seq<|reg<|p_aI rfl<|wp_nil<|c_block ?_
    refine c_lop (α:=Int×Int×Int) (β:=Unit) (law_TicketShown_l8 a0 r36 r40 a1) (fun z_1 y_1=>[(2,P b16 0),(3,P b19 0),(5,I r36),(6,P b44 0),(10,I z_1.1),(11,I z_1.2.1),(12,I z_1.2.2)]) (fun z_1 y_1 w_=>St w nF w_ [bl b44 [I r40.1.Low,I r40.1.High] 49,bl b19 (sg a1 2) 60,bl b16 (vB a0 A1 c2 A4 c5 A7 c8 A10 c11) 29] [rd eTallyCount 7 A1 c2 a0.Tally.Counts,rd eTicketSeason 2 A4 c5 a0.Tickets,rd eTicketShow 3 A7 c8 a0.Shows,rd eTicketBox 4 A10 c11 a0.Boxes,gW0,gW1,gW2]) (0,0,0) () H ⟨rfl,rfl,rfl,rfl,rfl,rfl,rfl,trivial⟩ S48 ?_
    intro m77 z_1 y_1 e78 w79 H S80
    unfold law_TicketShown_l8 at H
    refine c_seq<|c_seq<|reg<|p_mI rfl<|p_fld fl29_0 rfl<|p_fld fl24_0 rfl<|p_ld ty3 (S80.atX (i:=2) rfl) rfl rfl<|p_cmp rfl rfl rfl<|wp_nil ?_
    refine c_cond rfl (fun c81=>?_) (fun c81=>?_)
    ·replace H:=condT c81 H
     refine c_skip<|c_seq<|c_block<|c_seq<|reg<|p_ldA ty29 sz29 (S80.atX (i:=2) rfl) rfl rfl<|p_mI rfl ?_
     obtain ⟨r82,h83,H⟩:=bindS H
     refine p_cal (ticket_Must_ok h83 (S80.atP (i:=0) rfl) (S80.atP (i:=1) rfl) (S80.atP (i:=2) rfl) (S80.atP (i:=3) rfl) (S80.atP (i:=4) rfl) (S80.atP (i:=5) rfl) (S80.atP (i:=6) rfl)) fu23 rfl ?_
     rintro _ w84 ⟨A86,c87,rfl,k85,⟨o88,n89⟩,_⟩
     have S90:=S80.callN k85 [rd intE 1 A86 c87 r82.1] (cA ⟨o88,New.inL n89⟩ nM)
     refine p_mT rfl<|p_ext rfl rfl<|p_ext rfl rfl<|p_aS rfl<|p_aI rfl<|wp_nil<|c_seq<|reg<|p_ldA ty29 sz29 (S90.atX (i:=2) rfl) rfl rfl<|p_mI rfl ?_
     obtain ⟨r91,h92,H⟩:=bindS H
     refine p_cal (ticket_May_ok h92 (S90.atP (i:=1) rfl) (S90.atP (i:=2) rfl) (S90.atP (i:=3) rfl) (S90.atP (i:=4) rfl) (S90.atP (i:=5) rfl) (S90.atP (i:=6) rfl) (S90.atP (i:=7) rfl)) fu24 rfl ?_
     rintro _ w93 ⟨A95,c96,rfl,k94,⟨o97,n98⟩,_⟩
     have S99:=S90.callN k94 [rd intE 1 A95 c96 r91.1] (cA ⟨o97,New.inL n98⟩ nM)
     refine p_mT rfl<|p_ext rfl rfl<|p_ext rfl rfl<|p_aS rfl<|p_aI rfl<|wp_nil<|c_seq<|c_seq<|reg<|p_mI rfl<|p_cmp rfl rfl rfl<|p_mB rfl ?_
     rcases bE ((r82.2 != 0)) with c100 | c100
     ·replace H:=condT c100 H
      refine eB c100<|gF rfl rfl<|gF rfl rfl<|p_pkT rfl (rfl:_=B true)<|p_mB rfl<|gF rfl rfl<|gF rfl rfl<|gF rfl rfl<|gF rfl rfl<|gF rfl rfl<|gF rfl rfl<|p_pkT rfl (rfl:_=B true)<|p_mB rfl<|gF rfl rfl<|gF rfl rfl<|gF rfl rfl<|gF rfl rfl<|gF rfl rfl<|gF rfl rfl<|p_pkT rfl (rfl:_=B true)<|wp_nil<|c_true rfl<|c_seq<|reg<|p_aB rfl<|wp_nil ?_
      obtain rfl:=sJ H
      exact c_ret (rT Tryd.f4 S99.keep rfl rfl)
     ·replace H:=condF c100 H
      refine eB c100 ?_
      refine gT rfl rfl (p_mI rfl ?_)
      refine gT rfl rfl (p_cmp rfl rfl rfl ?_)
      refine p_pkF rfl (rfl:_=B (r91.2 != 0))<|p_mB rfl ?_
      rcases bE ((r91.2 != 0)) with c101 | c101
      ·replace H:=condT c101 H
       refine eB c101<|gF rfl rfl<|gF rfl rfl<|gF rfl rfl<|gF rfl rfl<|gF rfl rfl<|gF rfl rfl<|p_pkT rfl (rfl:_=B true)<|p_mB rfl<|gF rfl rfl<|gF rfl rfl<|gF rfl rfl<|gF rfl rfl<|gF rfl rfl<|gF rfl rfl<|p_pkT rfl (rfl:_=B true)<|wp_nil<|c_true rfl<|c_seq<|reg<|p_aB rfl<|wp_nil ?_
       obtain rfl:=sJ H
       exact c_ret (rT Tryd.f4 S99.keep rfl rfl)
      ·replace H:=condF c101 H
       refine eB c101 ?_
       refine gT rfl rfl (p_mS rfl ?_)
       refine gT rfl rfl (p_fld fl29_2 rfl ?_)
       refine gT rfl rfl (p_ld ty25 (S99.atX (i:=2) rfl) rfl rfl ?_)
       refine gT rfl rfl (p_len rfl sc25 ?_)
       obtain ⟨r102,h103,H⟩:=bindS H
       refine gT rfl rfl (p_cv (B_Climbs_ok h103 (S99.atP (i:=0) rfl)) fu27 rfl S99 fun w104 S105=>?_)
       refine gT rfl rfl (p_not rfl ?_)
       refine p_pkF rfl (rfl:_=B (!r102))<|p_mB rfl ?_
       rcases bE (!r102) with c106 | c106
       ·replace H:=condT c106 H
        refine eB c106<|gF rfl rfl<|gF rfl rfl<|gF rfl rfl<|gF rfl rfl<|gF rfl rfl<|gF rfl rfl<|p_pkT rfl (rfl:_=B true)<|wp_nil<|c_true rfl<|c_seq<|reg<|p_aB rfl<|wp_nil ?_
        obtain rfl:=sJ H
        exact c_ret (rT Tryd.f4 S105.keep rfl rfl)
       ·replace H:=condF c106 H
        refine eB c106 ?_
        refine gT rfl rfl (p_mS rfl ?_)
        obtain ⟨r107,h108,H⟩:=bindS H
        refine gT rfl rfl (p_cv (B_SetOf_ok h108 (S105.atP (i:=1) rfl)) fu31 rfl S105 fun w109 S110=>?_)
        refine gT rfl rfl (p_mS rfl ?_)
        obtain ⟨r111,h112,H⟩:=bindS H
        refine gT rfl rfl (p_cv (B_SetOf_ok h112 (S110.atP (i:=0) rfl)) fu31 rfl S110 fun w113 S114=>?_)
        refine gT rfl rfl (p_andNotI rfl rfl ?_)
        refine gT rfl rfl (p_cmp rfl rfl rfl ?_)
        refine p_pkF rfl (rfl:_=B ((andNotI r107 r111) != 0))<|wp_nil ?_
        refine c_cond rfl (fun c115=>?_) (fun c115=>?_)
        ·replace H:=condT c115 H
         refine c_seq<|reg<|p_aB rfl<|wp_nil ?_
         obtain rfl:=sJ H
         exact c_ret (rT Tryd.f4 S114.keep rfl rfl)
        ·replace H:=condF c115 H
         refine c_skip ?_
         refine c_join (α:=Int) (β:=Unit) (fun z_2 y_2=>[(2,P b16 0),(3,P b19 0),(5,I r36),(6,P b44 0),(10,I z_2),(11,I z_1.2.1),(12,I z_1.2.2),(15,SL A95 r91.1.length c96)]) (fun z_2 y_2 w_=>law_TicketShown_j7 r91 r36 a0 z_1 (loopF (law_TicketShown_l8 a0 r36 r40 a1) m77) z_2=some r∧St w nF w_ [bl b44 [I r40.1.Low,I r40.1.High] 49,bl b19 (sg a1 2) 60,bl b16 (vB a0 A1 c2 A4 c5 A7 c8 A10 c11) 29] [rd intE 1 A95 c96 r91.1,rd intE 1 A86 c87 r82.1,rd eTallyCount 7 A1 c2 a0.Tally.Counts,rd eTicketSeason 2 A4 c5 a0.Tickets,rd eTicketShow 3 A7 c8 a0.Shows,rd eTicketBox 4 A10 c11 a0.Boxes,gW0,gW1,gW2]) ?_ ?_
         ·refine c_seq<|reg<|p_mS rfl<|p_mI rfl ?_
          obtain ⟨r116,h117,H⟩:=bindS H
          refine p_cv (B_At_ok h117 (S114.atP (i:=1) rfl)) fu28 rfl S114 fun w118 S119=>p_cmp rfl rfl rfl<|wp_nil ?_
          refine c_cond rfl (fun c120=>?_) (fun c120=>?_)
          ·replace H:=condT c120 H
           refine reg<|p_mI rfl<|p_add rfl rfl<|p_aI rfl<|wp_nil ?_
           exact ⟨wr (z_1.1+1),(),_,rfl,⟨rfl,rfl,rfl,rfl,rfl,rfl,rfl,rfl,trivial⟩,H,S119⟩
          ·replace H:=condF c120 H
           refine c_skip ?_
           exact ⟨z_1.1,(),_,rfl,⟨rfl,rfl,rfl,rfl,rfl,rfl,rfl,rfl,trivial⟩,H,S119⟩
         ·intro z_2 y_2 e116 w117 S118; obtain ⟨H,S118⟩:=S118
          unfold law_TicketShown_j7 at H
          refine c_seq<|reg<|p_mS rfl<|p_mI rfl ?_
          obtain ⟨r119,h120,H⟩:=bindS H
          refine p_cv (B_At_ok h120 (S118.atP (i:=0) rfl)) fu28 rfl S118 fun w121 S122=>p_cmp rfl rfl rfl<|wp_nil ?_
          refine c_cond rfl (fun c123=>?_) (fun c123=>?_)
          ·replace H:=condT c123 H
           refine c_seq<|reg<|p_mI rfl<|p_add rfl rfl<|p_aI rfl<|wp_nil<|c_seq ?_
           obtain ⟨r124,h125,H⟩:=bindS H
           obtain ⟨r126,h127,H⟩:=bindS H
           obtain ⟨r128,h129,H⟩:=bindS H
           refine reg_q mixed 15 (by kernel_rfl) ?_
           refine dS (fun _ k_=>p_mI rfl dn)<|dS (fun _ k_=>p_fld fl29_2 rfl dn)<|dS (fun _ k_=>p_ld ty25 (aS (S122.atX (i:=2) rfl) k_) rfl rfl dn)<|dS (fun _ k_=>p_mI rfl dn)<|dS (fun _ k_=>p_ixE sc25 h125 (aS (S122.atP (i:=3) rfl) k_).1 rfl rfl rfl dn)<|dS (fun _ k_=>p_fldE fl65_0 (sl_here (aS (S122.atP (i:=3) rfl) k_).1 h125) rfl dn) ?_
           refine dS (fun _ k_=>p_ldE ty3 h125 (aS (S122.atP (i:=3) rfl) k_).1 rfl rfl dn)<|dS (fun _ k_=>p_fld fl29_2 rfl dn)<|dS (fun _ k_=>p_ld ty25 (aS (S122.atX (i:=2) rfl) k_) rfl rfl dn)<|dS (fun _ k_=>p_mI rfl dn)<|dS (fun _ k_=>p_ixE sc25 h127 (aS (S122.atP (i:=3) rfl) k_).1 rfl rfl rfl dn) ?_
           refine dS (fun _ k_=>p_fldE fl65_1 (sl_here (aS (S122.atP (i:=3) rfl) k_).1 h127) rfl dn)<|dS (fun _ k_=>p_ldE ty3 h127 (aS (S122.atP (i:=3) rfl) k_).1 rfl rfl dn)<|dS (fun _ k_=>p_cvD (B_Inside_ok h129) fu32 rfl)<|dS (fun _ k_=>p_not rfl dn) ?_
           intro w130 k131; have S132:=S122.call k131
           refine wp_nil ?_
           refine c_cond rfl (fun c133=>?_) (fun c133=>?_)
           ·replace H:=condT c133 H
            refine c_seq<|reg<|p_aB rfl<|wp_nil ?_
            obtain rfl:=sJ H
            exact c_ret (rT Tryd.f4 S132.keep rfl rfl)
           ·replace H:=condF c133 H
            refine c_skip<|reg<|p_mI rfl<|p_add rfl rfl<|p_aI rfl<|wp_nil ?_
            have S134:=S132.pk [0,1,2] (by decide) [2,3,4,5,6,7,8] rfl rfl
            exact ⟨(z_2,wr (z_1.2.1+1),wr (z_1.2.2+1)),(),_,rfl,⟨rfl,rfl,rfl,rfl,rfl,rfl,rfl,trivial⟩,H,S134⟩
          ·replace H:=condF c123 H
           refine c_skip<|reg<|p_mI rfl<|p_add rfl rfl<|p_aI rfl<|wp_nil ?_
           have S135:=S122.pk [0,1,2] (by decide) [2,3,4,5,6,7,8] rfl rfl
           exact ⟨(z_2,z_1.2.1,wr (z_1.2.2+1)),(),_,rfl,⟨rfl,rfl,rfl,rfl,rfl,rfl,rfl,trivial⟩,H,S135⟩
    ·replace H:=condF c81 H
     refine c_exit<|c_seq<|c_seq<|reg<|p_fld fl49_0 rfl<|p_ld ty3 (S80.atX (i:=0) rfl) rfl rfl<|p_mI rfl<|p_cmp rfl rfl rfl<|p_mB rfl ?_
     rcases bE (decide (r40.1.Low < z_1.1)) with c121 | c121
     ·replace H:=condT c121 H
      refine eB c121<|gF rfl rfl<|gF rfl rfl<|gF rfl rfl<|gF rfl rfl<|p_pkT rfl (rfl:_=B true)<|p_mB rfl<|gF rfl rfl<|gF rfl rfl<|gF rfl rfl<|gF rfl rfl<|gF rfl rfl<|p_pkT rfl (rfl:_=B true)<|wp_nil<|c_true rfl<|c_seq<|reg<|p_aB rfl<|wp_nil ?_
      obtain rfl:=sJ H
      exact c_ret (rT Tryd.f4 S80.keep rfl rfl)
     ·replace H:=condF c121 H
      refine eB c121 ?_
      refine gT rfl rfl (p_fld fl49_1 rfl ?_)
      refine gT rfl rfl (p_ld ty3 (S80.atX (i:=0) rfl) rfl rfl ?_)
      refine gT rfl rfl (p_mI rfl ?_)
      refine gT rfl rfl (p_cmp rfl rfl rfl ?_)
      refine p_pkF rfl (rfl:_=B (decide (r40.1.High > z_1.2.1)))<|p_mB rfl ?_
      rcases bE (decide (r40.1.High > z_1.2.1)) with c122 | c122
      ·replace H:=condT c122 H
       refine eB c122<|gF rfl rfl<|gF rfl rfl<|gF rfl rfl<|gF rfl rfl<|gF rfl rfl<|p_pkT rfl (rfl:_=B true)<|wp_nil<|c_true rfl<|c_seq<|reg<|p_aB rfl<|wp_nil ?_
       obtain rfl:=sJ H
       exact c_ret (rT Tryd.f4 S80.keep rfl rfl)
      ·replace H:=condF c122 H
       refine eB c122 ?_
       refine gT rfl rfl (p_fld fl49_0 rfl ?_)
       refine gT rfl rfl (p_ld ty3 (S80.atX (i:=0) rfl) rfl rfl ?_)
       refine gT rfl rfl (p_fld fl49_1 rfl ?_)
       refine gT rfl rfl (p_ld ty3 (S80.atX (i:=0) rfl) rfl rfl ?_)
       refine gT rfl rfl (p_cmp rfl rfl rfl ?_)
       refine p_pkF rfl (rfl:_=B (decide (r40.1.Low > r40.1.High)))<|wp_nil ?_
       refine c_cond rfl (fun c123=>?_) (fun c123=>?_)
       ·replace H:=condT c123 H
        refine c_seq<|reg<|p_aB rfl<|wp_nil ?_
        obtain rfl:=sJ H
        exact c_ret (rT Tryd.f4 S80.keep rfl rfl)
       ·replace H:=condF c123 H
        refine c_skip<|c_seq<|c_seq<|reg<|p_fld fl29_3 rfl<|p_ld ty26 (S80.atX (i:=2) rfl) rfl rfl<|p_len rfl sc26<|p_cmp rfl rfl rfl<|wp_nil ?_
        refine c_cond rfl (fun c124=>?_) (fun c124=>?_)
        ·replace H:=condT c124 H
         refine c_seq<|reg ?_
         obtain ⟨r125,h126,H⟩:=bindS H
         refine p_cv (law_punched_ok h126 (S80.atP (i:=4) rfl) (S80.atP (i:=5) rfl) (S80.atP (i:=6) rfl)) fu13 rfl S80 fun w127 S128=>p_aB rfl<|wp_nil ?_
         obtain rfl:=sJ H
         exact c_ret (rT Tryd.f4 S128.keep rfl rfl)
        ·replace H:=condF c124 H
         refine c_skip<|c_seq ?_
         obtain ⟨r129,h130,H⟩:=bindS H
         obtain ⟨r131,h132,H⟩:=bindS H
         refine reg_c mixed 11 [10] (by kernel_rfl) ?_
         refine kS rfl (fun _ k_=>p_fld fl29_3 rfl dn)<|kS rfl (fun _ k_=>p_ld ty26 (aS (S80.atX (i:=2) rfl) k_) rfl rfl dn)<|kS rfl (fun _ k_=>p_ixc ar60 rfl rfl (by decide) (by decide) dn)<|kS rfl (fun _ k_=>p_ld ty3 (aS (S80.atX (i:=1) rfl) k_) rfl rfl dn)<|kS rfl (fun _ k_=>p_fld fl29_3 rfl dn)<|kS rfl (fun _ k_=>p_ld ty26 (aS (S80.atX (i:=2) rfl) k_) rfl rfl dn) ?_
         refine kS rfl (fun _ k_=>p_len rfl sc26 dn)<|kS rfl (fun _ k_=>p_cvD (B_Mod_ok h130) fu19 rfl)<|kS rfl (fun _ k_=>p_ixE sc26 h132 (aS (S80.atP (i:=2) rfl) k_).1 rfl rfl rfl dn)<|kS rfl (fun _ k_=>p_ldEA ty67 sz67 rfl h132 (aS (S80.atP (i:=2) rfl) k_).1 rfl dn)<|kC rfl ?_
         intro w133 k134; have S135:=S80.call k134
         have S139:=S135.base
         refine p_allA in67 S139 fun b136 w137 S138=>?_
         refine cN S138.keep fun w140 k141=>?_
         have S142:=(S135.fromBase S138).call k141
         refine p_stP (pre:=[]) (old:=[I 0,I 0,I 0]) (post:=[]) (vs:=[I r131.Trip,I r131.Ticket,I r131.Walker]) sz67 S142 (i:=0) rfl rfl rfl rfl (rfl:_=AG [I r131.Trip,I r131.Ticket,I r131.Walker]) rfl rfl rfl rfl fun w143 S144=>wp_nil<|c_seq<|reg<|p_ldA ty29 sz29 (S144.atX (i:=3) rfl) rfl rfl<|p_fld fl67_0 rfl<|p_ld ty3 (S144.atX (i:=0) rfl) rfl rfl ?_
         obtain ⟨r145,h146,H⟩:=bindS H
         refine p_cal (ticket_Must_ok h146 (S144.atP (i:=0) rfl) (S144.atP (i:=1) rfl) (S144.atP (i:=2) rfl) (S144.atP (i:=3) rfl) (S144.atP (i:=4) rfl) (S144.atP (i:=5) rfl) (S144.atP (i:=6) rfl)) fu23 rfl ?_
         rintro _ w147 ⟨A149,c150,rfl,k148,⟨o151,n152⟩,_⟩
         have S153:=S144.callN k148 [rd intE 1 A149 c150 r145.1] (cA ⟨o151,New.inL n152⟩ nM)
         refine p_mT rfl<|p_ext rfl rfl<|p_ext rfl rfl<|p_aS rfl<|p_aI rfl<|wp_nil<|c_seq<|reg<|p_mI rfl<|p_cmp rfl rfl rfl<|p_mB rfl ?_
         rcases bE ((r145.2==0)) with c154 | c154
         ·replace H:=condT c154 H
          refine eB c154 ?_
          refine gT rfl rfl (p_mS rfl ?_)
          refine gT rfl rfl (p_fld fl67_1 rfl ?_)
          refine gT rfl rfl (p_ld ty3 (S153.atX (i:=0) rfl) rfl rfl ?_)
          obtain ⟨r155,h156,H⟩:=bindS H
          refine gT rfl rfl (p_cv (B_At_ok h156 (S153.atP (i:=0) rfl)) fu28 rfl S153 fun w157 S158=>?_)
          refine gT rfl rfl (p_cmp rfl rfl rfl ?_)
          refine p_pkT rfl (rfl:_=B (decide (r155≥0)))<|p_mB rfl ?_
          rcases bE (decide (r155≥0)) with c159 | c159
          ·replace H:=condT c159 H
           refine eB c159 ?_
           obtain ⟨r160,h161,H⟩:=bindS H
           refine gT rfl rfl (p_cv (law_punched_ok h161 (S158.atP (i:=5) rfl) (S158.atP (i:=6) rfl) (S158.atP (i:=7) rfl)) fu13 rfl S158 fun w162 S163=>?_)
           refine p_pkT rfl (rfl:_=B r160)<|p_aB rfl<|wp_nil ?_
           obtain rfl:=sJ H
           exact c_ret (rT Tryd.f4 S163.keep rfl rfl)
          ·replace H:=condF c159 H
           refine eB c159<|gF rfl rfl<|p_pkF rfl (rfl:_=B false)<|p_aB rfl<|wp_nil ?_
           obtain rfl:=sJ H
           exact c_ret (rT Tryd.f4 S158.keep rfl rfl)
         ·replace H:=condF c154 H
          refine eB c154<|gF rfl rfl<|gF rfl rfl<|gF rfl rfl<|gF rfl rfl<|gF rfl rfl<|p_pkF rfl (rfl:_=B false)<|p_mB rfl<|gF rfl rfl<|p_pkF rfl (rfl:_=B false)<|p_aB rfl<|wp_nil ?_
          obtain rfl:=sJ H
          exact c_ret (rT Tryd.f4 S153.keep rfl rfl)
end Go.Proofs.YtafhljljfglfeaaDoor
namespace Go.Proofs.YtafhljljfglfeaaDoor
open Go Go.Fx
theorem nand_all:((List.range 8).all fun s=>(List.range 8).all fun t=>!(s &&& t==s)||decide (andNotI ((s:Nat):Int) ((t:Nat):Int)=0))=true:=by kernel_rfl
theorem nand_nat {s t:Nat} (h:s < 8) (k:t < 8) (hs:∀ n,s.testBit n=true→t.testBit n=true):andNotI (s:Int) (t:Int)=0:=by
 have:=List.all_eq_true.1 (List.all_eq_true.1 nand_all s (List.mem_range.2 h)) t (List.mem_range.2 k)
 have e:s &&& t=s:=by rw [Nat.and_comm]; exact and_sub.2 hs
 rw [e,beq_self_eq_true,Bool.not_true,Bool.false_or] at this
 exact of_decide_eq_true this
theorem setOf_eq {l:List Int}{n:Int} (h:Clm l n) (hn:n≤3) (hl:l.length≤1000):∃ s:Nat,B_SetOf l=some (s:Int)∧s < 8∧∀ k:Nat,s.testBit k=true↔(k:Int)∈l:=by
 unfold B_SetOf
 refine Exists.elim (loopF_inv (body:=B_SetOf_l1 l) (fun z:Int×Int=>∃ s k:Nat,z.1=s∧z.2=k∧k≤l.length∧s < 8∧∀ j:Nat,s.testBit j=true↔(j:Int)∈l.take k) (fun z=>l.length - z.2.toNat) (fun r=>∃ s:Nat,r=(s:Int)∧s < 8∧∀ k:Nat,s.testBit k=true↔(k:Int)∈l) ?_ big (0,0) ⟨0,0,rfl,rfl,Nat.zero_le _,by decide,fun j=>by simp⟩ (by unfold big; simp; omega)) fun r ⟨h1,s,h2,h3⟩=>⟨s,by rw [h1,h2],h3⟩
 rintro rec ⟨z1,z2⟩ ⟨s,k,h1,h2,h3,h4,h5⟩ ih
 simp only at h1 h2 ih
 subst h1 h2
 unfold B_SetOf_l1
 simp only
 by_cases hk:k < l.length
 ·have hx:=h k _ (List.getElem?_eq_getElem hk)
  have ho:=or_small (s:=s) (t:=l[k].toNat) h4 (by omega)
  rw [decide_eq_true (by omega),cond_true,getI_ix hk,Option.bind_some,need_of (by simp; omega),wrI (by omega) (by omega),show shlI 1 l[k]=shlI 1 ((l[k].toNat:Nat):Int) by rw [show ((l[k].toNat:Nat):Int)=l[k] by omega],ho.1]
  refine ih _ ⟨_,k+1,rfl,by simp,hk,ho.2,fun j=>?_⟩ (by simp only; omega)
  rw [Nat.testBit_or,Bool.or_eq_true,h5,Nat.testBit_two_pow,decide_eq_true_eq,List.take_succ_eq_append_getElem hk,List.mem_append,List.mem_singleton]
  constructor
  ·rintro (h | h)
   ·exact .inl h
   ·exact .inr (by omega)
  ·rintro (h | h)
   ·exact .inl h
   ·exact .inr (by omega)
 ·rw [decide_eq_false (by omega),cond_false]
  rw [List.take_of_length_le (by omega)] at h5
  exact ⟨_,rfl,s,rfl,h4,h5⟩
def useTo (n:Nat) (x:Ticket_truth):Nat→Int
 | 0=>0
 | k+1=>useTo n x k+(if usedB x n k then 1 else 0)
theorem useTo_end {b:TicketBook} (V:VT b) {sh:List TicketShow}{bx:List TicketBox}{x:Ticket_truth} (h:Tr b sh bx x) (n:Nat):useTo n x b.Tally.Trips.toNat=useC n x:=by
 have t1:=V.ta.t1; have t3:=V.t3
 have z:∀ d:Nat,b.Tally.Trips≤d→usedB x n d=false:=fun d hd=>by unfold usedB; rw [h.uz d hd]; simp
 have e:useC n x=useTo n x 3:=by unfold useC useTo useTo useTo useTo usedB; omega
 rw [e]
 have c:b.Tally.Trips=1∨b.Tally.Trips=2∨b.Tally.Trips=3:=by omega
 rcases c with c | c | c
 ·have z1:=z 1 (by omega); have z2:=z 2 (by omega)
  rw [c]; simp [useTo,z1,z2]
 ·have z2:=z 2 (by omega)
  rw [c]; simp [useTo,z2]
 ·rw [c]; rfl
theorem law_ticketShown (b:TicketBook) (A:ArgT b) (n:List Int):law_TicketShown b n=some true:=by
 unfold law_TicketShown
 rw [soundT_eq b A,Option.bind_some]
 cases hv:valT b with
 | false=>rw [Bool.not_false,cond_true,punched_t]; rfl
 | true=>
   have V:=valT_iff.1 hv
   have t1:=V.ta.t1; have t3:=V.t3; have tn:=V.tn; have sn:=V.sn
   rw [Bool.not_true,cond_false]
   by_cases h0:b.Tickets.length=0
   ·rw [show ((b.Tickets.length:Int)==0)=true by simp [h0],cond_true,punched_t]; rfl
   rw [show ((b.Tickets.length:Int)==0)=false by rw [beq_eq_false_iff_ne]; omega,cond_false]
   obtain ⟨o,ho,o0,o1⟩:=mod_ok (aget n 1) b.Tickets.length (by omega) (by omega)
   obtain ⟨o,rfl⟩:∃ k:Nat,o=k:=⟨o.toNat,by omega⟩
   obtain ⟨s,e,he,hs⟩:=saved_law V (n:=o) (by omega)
   rw [ho,Option.bind_some,he,Option.bind_some]
   rcases hs with ⟨rfl,C,S⟩ | ⟨rfl,rfl,C⟩
   ·simp only [bne_self_eq_false,cond_false]
    refine loopF_spec (body:=law_TicketShown_l8 b o (s,0) n) (fun z:Int×Int×Int=>∃ k:Nat,z.2.2=k∧k≤b.Tally.Trips.toNat∧0≤z.1∧z.1≤k∧0≤z.2.1∧z.2.1≤k∧∀ x,Tr b b.Shows b.Boxes x→z.1≤useTo o x k∧useTo o x k≤z.2.1) (fun z=>b.Tally.Trips.toNat - z.2.2.toNat) (fun _=>true) ?_ big (0,0,0) ⟨0,rfl,Nat.zero_le _,Int.le_refl _,Int.le_refl _,Int.le_refl _,Int.le_refl _,fun x _=>⟨Int.le_refl _,Int.le_refl _⟩⟩ (by unfold big; simp; omega)
    rintro rec ⟨z1,z2,z3⟩ ⟨k,h1,h2,h3,h4,h5,h6,h7⟩ ih
    simp only at h1 h3 h4 h5 h6 h7 ih
    subst h1
    unfold law_TicketShown_l8
    simp only
    by_cases hk:k < b.Tally.Trips.toNat
    ·rw [decide_eq_true (by omega),cond_true]
     obtain ⟨mu,e1,he1,c1⟩:=must_law V (d:=k) (by omega)
     obtain ⟨ma,e2,he2,c2⟩:=may_law V (d:=k) (by omega)
     rw [he1,Option.bind_some,he2,Option.bind_some]
     rcases c1 with ⟨rfl,_,M⟩ | ⟨_,_,h⟩
     rotate_left
     ·exact absurd C h
     rcases c2 with ⟨rfl,_,Y⟩ | ⟨_,_,h⟩
     rotate_left
     ·exact absurd C h
     have lm:=M.clm.len (by omega); have ly:=Y.clm.len (by omega)
     obtain ⟨su,hu1,hu2,hu3⟩:=setOf_eq M.clm (by omega) (by omega)
     obtain ⟨sa,ha1,ha2,ha3⟩:=setOf_eq Y.clm (by omega) (by omega)
     have sub:∀ j,su.testBit j=true→sa.testBit j=true:=fun j hj=>by
      obtain ⟨g1,g2⟩:=(M.mem j).1 ((hu3 j).1 hj)
      obtain ⟨x,hx⟩:=C
      exact (ha3 j).2 ((Y.mem j).2 ⟨g1,x,hx,g2 x hx⟩)
     simp only [bne_self_eq_false,cond_false]
     rw [climbs_eq Y.clm (by omega) (by omega) (by omega),Option.bind_some,Bool.not_true,cond_false,hu1,Option.bind_some,ha1,Option.bind_some,nand_nat hu2 ha2 sub,bne_self_eq_false,cond_false]
     obtain ⟨r1,hr1,i1,i1'⟩:=at_loop mu o (by omega)
     obtain ⟨r2,hr2,i2,i2'⟩:=at_loop ma o (by omega)
     rw [hr1,Option.bind_some]
     have wk:Fx.wr ((k:Int)+1)=((k+1:Nat):Int):=by rw [wrI (by omega) (by omega)]; omega
     have w1:Fx.wr (z1+1)=z1+1:=wrI (by omega) (by omega)
     have w2:Fx.wr (z2+1)=z2+1:=wrI (by omega) (by omega)
     have tail:∀ q:Int,0≤q→q≤((k+1:Nat):Int)→(∀ x,Tr b b.Shows b.Boxes x→q≤useTo o x (k+1))→law_TicketShown_j7 (ma,0) o b (z1,z2,(k:Int)) rec q=some true:=by
      intro q q0 q1 hq
      unfold law_TicketShown_j7
      simp only
      rw [hr2,Option.bind_some,wk,w2]
      by_cases hm:(o:Int)∈ma
      ·obtain ⟨g1,x,hx,g2⟩:=(Y.mem o).1 hm
       have hin:=hx.us k (by omega) o g2
       obtain ⟨y,hy,y1,y2⟩:=hin
       rw [decide_eq_true (i2.2 hm),cond_true,getI_nat,hy,Option.bind_some,Option.bind_some,inside_eq,inB_iff.2 ⟨y1,y2⟩,Option.bind_some,Bool.not_true,cond_false]
       refine ih _ ⟨k+1,rfl,hk,q0,q1,by simp only; omega,by simp only; omega,fun x hx=>⟨hq x hx,?_⟩⟩ (by simp only; omega)
       have:=h7 x hx
       unfold useTo; split <;> simp only <;> omega
      ·rw [decide_eq_false (show ¬r2≥0 from fun h=>hm (i2.1 h)),cond_false]
       refine ih _ ⟨k+1,rfl,hk,q0,q1,h5,by simp only; omega,fun x hx=>⟨hq x hx,?_⟩⟩ (by simp only; omega)
       have:=h7 x hx
       have:usedB x o k=false:=Bool.eq_false_iff.2 fun hb=>hm ((Y.mem o).2 ⟨by omega,x,hx,hb⟩)
       unfold useTo; rw [this]; simp only [Bool.false_eq_true,if_false]; omega
     by_cases hm:(o:Int)∈mu
     ·rw [decide_eq_true (i1.2 hm),cond_true,w1]
      refine tail _ (by omega) (by omega) fun x hx=>?_
      have:=(h7 x hx).1
      have hb:=((M.mem o).1 hm).2 x hx
      unfold useTo; rw [hb]; simp only [if_true]; omega
     ·rw [decide_eq_false (show ¬r1≥0 from fun h=>hm (i1.1 h)),cond_false]
      refine tail _ (by omega) (by omega) fun x hx=>?_
      have:=(h7 x hx).1
      unfold useTo; split <;> omega
    ·have hkT:k=b.Tally.Trips.toNat:=by omega
     rw [decide_eq_false (by omega),cond_false]
     have l1:z1≤s.Low:=by
      obtain ⟨x,hx,hg⟩:=S.loE
      have:=(h7 x hx).1
      rw [hkT,useTo_end V hx] at this; omega
     have l2:s.High≤z2:=by
      obtain ⟨x,hx,hg⟩:=S.hiE
      have:=(h7 x hx).2
      rw [hkT,useTo_end V hx] at this; omega
     have le:=S.le
     rw [decide_eq_false (by omega),cond_false,decide_eq_false (by omega),cond_false,decide_eq_false (by omega),cond_false]
     by_cases hs0:b.Shows.length=0
     ·rw [show ((b.Shows.length:Int)==0)=true by simp [hs0],cond_true,punched_t]; rfl
     rw [show ((b.Shows.length:Int)==0)=false by rw [beq_eq_false_iff_ne]; omega,cond_false]
     obtain ⟨i,hi,i0,i1⟩:=mod_ok (aget n 0) b.Shows.length (by omega) (by omega)
     obtain ⟨i,rfl⟩:∃ k:Nat,i=k:=⟨i.toNat,by omega⟩
     have hlt:i < b.Shows.length:=by omega
     have hX:=V.sh _ (List.getElem_mem hlt)
     have hmem:=List.getElem_mem hlt
     rw [hi,Option.bind_some,getI_ix hlt,Option.bind_some]
     generalize b.Shows[i]=X at hX hmem
     have x0:=hX.t0; have x1:=hX.tT; have x2:=hX.n0; have x3:=hX.nm
     obtain ⟨mu,e1,he1,c1⟩:=must_law V (d:=X.Trip.toNat) (by omega)
     rw [show ((X.Trip.toNat:Nat):Int)=X.Trip by omega] at he1
     rw [he1,Option.bind_some]
     rcases c1 with ⟨rfl,_,M⟩ | ⟨_,_,h⟩
     rotate_left
     ·exact absurd C h
     have lm:=M.clm.len (by omega)
     obtain ⟨r1,hr1,i1,_⟩:=at_loop mu X.Ticket (by omega)
     have hin:X.Ticket∈mu:=by
      have:=(M.mem X.Ticket.toNat).2 ⟨by omega,fun t ht=>ht.sw X hmem⟩
      rwa [show ((X.Ticket.toNat:Nat):Int)=X.Ticket by omega] at this
     simp only [beq_self_eq_true,cond_true]
     rw [hr1,Option.bind_some,decide_eq_true (i1.2 hin),cond_true,punched_t]; rfl
   ·obtain ⟨r,hr,hi⟩:=right_law V
    have:r=false:=Bool.eq_false_iff.2 fun h=>C (hi.1 h)
    subst this
    simp only
    rw [show ((102:Int) != 0)=true from rfl,cond_true,hr,Option.bind_some,show ((102:Int)==102)=true from rfl,cond_true,show B_Point 0=some ⟨0,0⟩ from rfl,Option.bind_some]
    simp only [beq_self_eq_true,Bool.and_self,cond_true,Bool.not_false]
    rw [punched_t]; rfl
end Go.Proofs.YtafhljljfglfeaaDoor
/- What the law's function computes, and that it does, printed by a program of mine. -/
import Derived.Test.YtafhljljfglfeaaDoorZGFxRow
import Derived.KernelRfl
import Derived.Test.YtafhljljfglfeaaDoorZGPPunch
set_option linter.unusedVariables false
set_option linter.unusedSimpArgs false
namespace Go.Proofs.YtafhljljfglfeaaDoor
open Go Go.Fx Go.Proofs
def law_TicketClash_j1 (a0:TicketBook) (a1:List Int) (r31:Int×Int×Int) (r39:(List Int)×Int) (z_1:Unit):Option Bool:=
 bif decide ((a0.Shows.length:Int) < 2) then ((law_punched).bind fun r52=>
 some r52)
 else ((B_Mod (aget a1 0) (a0.Shows.length:Int)).bind fun r56=>
 (B_Mod (aget a1 1) (a0.Shows.length:Int)).bind fun r58=>
 bif decide (r56≥r58) then ((law_punched).bind fun r67=>
 some r67)
 else ((getI a0.Shows r56).bind fun r71=>
 (getI a0.Shows r58).bind fun r73=>
 (law_clash r71 r73).bind fun r75=>
 bif !r75 then ((law_punched).bind fun r81=>
 some r81)
 else (bif (r31.2.2==0) then ((B_Before [r56,r58] [r31.1,r31.2.1]).bind fun r96=>
 bif !r96 then (bif (r39.2 != 0) then ((law_punched).bind fun r102=>
 some r102)
 else ((B_At r39.1 r56).bind fun r106=>
 bif decide (r106≥0) then ((law_punched).bind fun r111=>
 some r111)
 else ((B_At r39.1 r58).bind fun r115=>
 bif decide (r115≥0) then ((law_punched).bind fun r120=>
 some r120)
 else (some false))))
 else (some false))
 else (some false))))
def law_TicketClash (a0:TicketBook) (a1:List Int):Option Bool:=
 (law_sound a0).bind fun r22=>
 bif !r22 then ((law_punched).bind fun r27=>
 some r27)
 else ((ticket_Clash a0).bind fun r31=>
 (ticket_Right a0).bind fun r35=>
 (ticket_Wrong a0).bind fun r39=>
 bif (r35.2 != 0) then (some false)
 else (bif (r31.2.2 != 0) then (bif (r31.2.2 != 4) then (some false)
 else (bif ((wr (r31.1+r31.2.1)) != 0) then (some false)
 else (bif (r31.2.2==0) then ((B_Inside r31.1 0 (wr (r31.2.1 - 1))).bind fun r62=>
 bif !r62 then (some false)
 else (bif decide (r31.2.1≥(a0.Shows.length:Int)) then (some false)
 else ((getI a0.Shows r31.1).bind fun r72=>
 (getI a0.Shows r31.2.1).bind fun r74=>
 (law_clash r72 r74).bind fun r76=>
 bif !r76 then (some false)
 else (bif r35.1 then (some false)
 else (law_TicketClash_j1 a0 a1 r31 r39 ())))))
 else (law_TicketClash_j1 a0 a1 r31 r39 ()))))
 else (bif (r31.2.2==0) then ((B_Inside r31.1 0 (wr (r31.2.1 - 1))).bind fun r90=>
 bif !r90 then (some false)
 else (bif decide (r31.2.1≥(a0.Shows.length:Int)) then (some false)
 else ((getI a0.Shows r31.1).bind fun r100=>
 (getI a0.Shows r31.2.1).bind fun r102=>
 (law_clash r100 r102).bind fun r104=>
 bif !r104 then (some false)
 else (bif r35.1 then (some false)
 else (law_TicketClash_j1 a0 a1 r31 r39 ())))))
 else (law_TicketClash_j1 a0 a1 r31 r39 ()))))
set_option maxRecDepth 100000 in
theorem law_TicketClash_ok {a0:TicketBook}{a1:List Int}{A1:Option Addr}{c2:Nat}{A4:Option Addr}{c5:Nat}{A7:Option Addr}{c8:Nat}{A10:Option Addr}{c11:Nat}{w:World}{r:Bool} (H:law_TicketClash a0 a1=some r) (h3:(rd eTallyCount 7 A1 c2 a0.Tally.Counts).ok w) (h6:(rd eTicketSeason 2 A4 c5 a0.Tickets).ok w) (h9:(rd eTicketShow 3 A7 c8 a0.Shows).ok w) (h12:(rd eTicketBox 4 A10 c11 a0.Boxes).ok w) (hg13:(gW0).ok w) (hg14:(gW1).ok w) (hg15:(gW2).ok w):Calls Tryd.prog 5 #[AG (vB a0 A1 c2 A4 c5 A7 c8 A10 c11),AG (sg a1 2)] w (RetV w (B r)):=by
 unfold law_TicketClash at H
 refine fn_of (n:=151) Tryd.func5 rfl rfl (lE rfl) ?_
 have S:=St.start w nF _ (cA h3 (cA h6 (cA h9 (cA h12 (cA hg13 (cA hg14 (cA hg15 nM)))))))
 refine c_seq<|reg<|p_boxA rfl S fun b16 w17 S18=>p_boxA rfl S18 fun b19 w20 S21=>p_aB rfl<|wp_nil<|c_seq<|c_seq<|reg<|p_ldA ty29 sz29 (S21.atX (i:=1) rfl) rfl rfl ?_
 obtain ⟨r22,h23,H⟩:=bindS H
 refine p_cv (law_sound_ok h23 (S21.atP (i:=0) rfl) (S21.atP (i:=1) rfl) (S21.atP (i:=2) rfl) (S21.atP (i:=3) rfl)) fu12 rfl S21 fun w24 S25=>p_not rfl<|wp_nil ?_
 refine c_cond rfl (fun c26=>?_) (fun c26=>?_)
 ·replace H:=condT c26 H
  refine c_seq<|reg ?_
  obtain ⟨r27,h28,H⟩:=bindS H
  refine p_cv (law_punched_ok h28 (S25.atP (i:=4) rfl) (S25.atP (i:=5) rfl) (S25.atP (i:=6) rfl)) fu13 rfl S25 fun w29 S30=>p_aB rfl<|wp_nil ?_
  obtain rfl:=sJ H
  exact c_ret (rT Tryd.f5 S30.keep rfl rfl)
 ·replace H:=condF c26 H
  refine c_skip<|c_seq<|reg<|p_ldA ty29 sz29 (S25.atX (i:=1) rfl) rfl rfl ?_
  obtain ⟨r31,h32,H⟩:=bindS H
  refine p_cv (ticket_Clash_ok h32 (S25.atP (i:=0) rfl) (S25.atP (i:=1) rfl) (S25.atP (i:=2) rfl) (S25.atP (i:=3) rfl)) fu18 rfl S25 fun w33 S34=>p_mT rfl<|p_ext rfl rfl<|p_ext rfl rfl<|p_ext rfl rfl<|p_aI rfl<|p_aI rfl<|p_aI rfl<|wp_nil<|c_seq<|reg<|p_ldA ty29 sz29 (S34.atX (i:=1) rfl) rfl rfl ?_
  obtain ⟨r35,h36,H⟩:=bindS H
  refine p_cv (ticket_Right_ok h36 (S34.atP (i:=0) rfl) (S34.atP (i:=1) rfl) (S34.atP (i:=2) rfl) (S34.atP (i:=3) rfl) (S34.atP (i:=4) rfl) (S34.atP (i:=6) rfl)) fu16 rfl S34 fun w37 S38=>p_mT rfl<|p_ext rfl rfl<|p_ext rfl rfl<|p_aB rfl<|p_aI rfl<|wp_nil<|c_seq<|reg<|p_ldA ty29 sz29 (S38.atX (i:=1) rfl) rfl rfl ?_
  obtain ⟨r39,h40,H⟩:=bindS H
  refine p_cal (ticket_Wrong_ok h40 (S38.atP (i:=0) rfl) (S38.atP (i:=1) rfl) (S38.atP (i:=2) rfl) (S38.atP (i:=3) rfl) (S38.atP (i:=4) rfl) (S38.atP (i:=6) rfl)) fu17 rfl ?_
  rintro _ w41 ⟨A43,c44,rfl,k42,⟨o45,n46⟩,_⟩
  have S47:=S38.callN k42 [rd intE 1 A43 c44 r39.1] (cA ⟨o45,Al.inL n46 ((cA (fp_mem (i:=0) rfl) (cA (fp_mem (i:=1) rfl) (cA (fp_mem (i:=2) rfl) (cA (fp_mem (i:=3) rfl) nM)))))⟩ nM)
  refine p_mT rfl<|p_ext rfl rfl<|p_ext rfl rfl<|p_aS rfl<|p_aI rfl<|wp_nil ?_
  refine c_join (α:=Unit) (β:=Unit) (fun z_1 y_1=>[(2,P b16 0),(3,P b19 0),(5,I r31.1),(6,I r31.2.1),(7,I r31.2.2),(10,SL A43 r39.1.length c44),(11,I r39.2)]) (fun z_1 y_1 w_=>law_TicketClash_j1 a0 a1 r31 r39 z_1=some r∧St w nF w_ [bl b19 (sg a1 2) 60,bl b16 (vB a0 A1 c2 A4 c5 A7 c8 A10 c11) 29] [rd intE 1 A43 c44 r39.1,rd eTallyCount 7 A1 c2 a0.Tally.Counts,rd eTicketSeason 2 A4 c5 a0.Tickets,rd eTicketShow 3 A7 c8 a0.Shows,rd eTicketBox 4 A10 c11 a0.Boxes,gW0,gW1,gW2]) ?_ ?_
  ·refine c_seq ?_
   rcases bE ((r35.2 != 0)) with c48 | c48
   ·replace H:=condT c48 H
    refine reg_q mixed 51 (by kernel_rfl) ?_
    refine dS (fun _ k_=>p_mI rfl dn)<|dS (fun _ k_=>p_cmp rfl rfl rfl dn)<|dS (fun _ k_=>p_mB rfl dn)<|dB c48<|dF rfl rfl<|dF rfl rfl<|dF rfl rfl<|dS (fun _ k_=>o_guardU rfl rfl dnU)<|dS (fun _ k_=>o_guardU rfl rfl dnU)<|dS (fun _ k_=>o_guardU rfl rfl dnU)<|dS (fun _ k_=>o_guardU rfl rfl dnU)<|dS (fun _ k_=>o_guardU rfl rfl dnU) ?_
    refine dS (fun _ k_=>o_guardU rfl rfl dnU)<|dS (fun _ k_=>o_guardU rfl rfl dnU)<|dS (fun _ k_=>o_guardU rfl rfl dnU)<|dF rfl rfl<|dS (fun _ k_=>p_pkT rfl (rfl:_=B true) dn)<|dS (fun _ k_=>p_mB rfl dn)<|dF rfl rfl<|dF rfl rfl<|dF rfl rfl<|dS (fun _ k_=>o_guardU rfl rfl dnU)<|dS (fun _ k_=>o_guardU rfl rfl dnU) ?_
    refine dS (fun _ k_=>o_guardU rfl rfl dnU)<|dS (fun _ k_=>o_guardU rfl rfl dnU)<|dS (fun _ k_=>o_guardU rfl rfl dnU)<|dS (fun _ k_=>o_guardU rfl rfl dnU)<|dS (fun _ k_=>o_guardU rfl rfl dnU)<|dS (fun _ k_=>o_guardU rfl rfl dnU)<|dS (fun _ k_=>o_guardU rfl rfl dnU)<|dS (fun _ k_=>o_guardU rfl rfl dnU)<|dS (fun _ k_=>o_guardU rfl rfl dnU)<|dS (fun _ k_=>o_guardU rfl rfl dnU) ?_
    refine dS (fun _ k_=>o_guardU rfl rfl dnU)<|dS (fun _ k_=>o_guardU rfl rfl dnU)<|dS (fun _ k_=>o_guardU rfl rfl dnU)<|dS (fun _ k_=>o_guardU rfl rfl dnU)<|dS (fun _ k_=>o_guardU rfl rfl dnU)<|dS (fun _ k_=>o_guardU rfl rfl dnU)<|dS (fun _ k_=>o_guardU rfl rfl dnU)<|dS (fun _ k_=>o_guardU rfl rfl dnU)<|dS (fun _ k_=>o_guardU rfl rfl dnU)<|dS (fun _ k_=>o_guardU rfl rfl dnU) ?_
    refine dS (fun _ k_=>o_guardU rfl rfl dnU)<|dS (fun _ k_=>o_guardU rfl rfl dnU)<|dS (fun _ k_=>o_guardU rfl rfl dnU)<|dS (fun _ k_=>o_guardU rfl rfl dnU)<|dS (fun _ k_=>o_guardU rfl rfl dnU)<|dS (fun _ k_=>o_guardU rfl rfl dnU)<|dS (fun _ k_=>o_guardU rfl rfl dnU)<|dF rfl rfl<|dS (fun _ k_=>p_pkT rfl (rfl:_=B true) dn) ?_
    intro w49 k50; have S51:=S47.call k50
    refine wp_nil<|c_true rfl<|c_seq<|reg<|p_aB rfl<|wp_nil ?_
    obtain rfl:=sJ H
    exact c_ret (rT Tryd.f5 S51.keep rfl rfl)
   ·replace H:=condF c48 H
    rcases bE ((r31.2.2 != 0)) with c52 | c52
    ·replace H:=condT c52 H
     rcases bE ((r31.2.2 != 4)) with c53 | c53
     ·replace H:=condT c53 H
      refine reg_q mixed 51 (by kernel_rfl) ?_
      refine dS (fun _ k_=>p_mI rfl dn)<|dS (fun _ k_=>p_cmp rfl rfl rfl dn)<|dS (fun _ k_=>p_mB rfl dn)<|dB c48<|dS (fun _ k_=>gT rfl rfl (p_mI rfl dn))<|dS (fun _ k_=>gT rfl rfl (p_cmp rfl rfl rfl dn))<|dS (fun _ k_=>gT rfl rfl (p_mB rfl dn))<|dB c52<|dS (fun _ k_=>gT rfl rfl (p_mI rfl dn))<|dS (fun _ k_=>gT rfl rfl (p_cmp rfl rfl rfl dn))<|dS (fun _ k_=>gT rfl rfl (p_mB rfl dn))<|dB c53 ?_
      refine dF rfl rfl<|dF rfl rfl<|dF rfl rfl<|dF rfl rfl<|dS (fun _ k_=>gT rfl rfl (p_pkT rfl (rfl:_=B true) dn))<|dS (fun _ k_=>gT rfl rfl (p_pkT rfl (rfl:_=B true) dn))<|dS (fun _ k_=>p_pkF rfl (rfl:_=B true) dn)<|dS (fun _ k_=>p_mB rfl dn)<|dF rfl rfl<|dF rfl rfl ?_
      refine dF rfl rfl<|dS (fun _ k_=>o_guardU rfl rfl dnU)<|dS (fun _ k_=>o_guardU rfl rfl dnU)<|dS (fun _ k_=>o_guardU rfl rfl dnU)<|dS (fun _ k_=>o_guardU rfl rfl dnU)<|dS (fun _ k_=>o_guardU rfl rfl dnU)<|dS (fun _ k_=>o_guardU rfl rfl dnU)<|dS (fun _ k_=>o_guardU rfl rfl dnU)<|dS (fun _ k_=>o_guardU rfl rfl dnU)<|dS (fun _ k_=>o_guardU rfl rfl dnU) ?_
      refine dS (fun _ k_=>o_guardU rfl rfl dnU)<|dS (fun _ k_=>o_guardU rfl rfl dnU)<|dS (fun _ k_=>o_guardU rfl rfl dnU)<|dS (fun _ k_=>o_guardU rfl rfl dnU)<|dS (fun _ k_=>o_guardU rfl rfl dnU)<|dS (fun _ k_=>o_guardU rfl rfl dnU)<|dS (fun _ k_=>o_guardU rfl rfl dnU)<|dS (fun _ k_=>o_guardU rfl rfl dnU)<|dS (fun _ k_=>o_guardU rfl rfl dnU)<|dS (fun _ k_=>o_guardU rfl rfl dnU) ?_
      refine dS (fun _ k_=>o_guardU rfl rfl dnU)<|dS (fun _ k_=>o_guardU rfl rfl dnU)<|dS (fun _ k_=>o_guardU rfl rfl dnU)<|dS (fun _ k_=>o_guardU rfl rfl dnU)<|dS (fun _ k_=>o_guardU rfl rfl dnU)<|dS (fun _ k_=>o_guardU rfl rfl dnU)<|dS (fun _ k_=>o_guardU rfl rfl dnU)<|dS (fun _ k_=>o_guardU rfl rfl dnU)<|dS (fun _ k_=>o_guardU rfl rfl dnU)<|dS (fun _ k_=>o_guardU rfl rfl dnU) ?_
      refine dF rfl rfl<|dS (fun _ k_=>p_pkT rfl (rfl:_=B true) dn) ?_
      intro w54 k55; have S56:=S47.call k55
      refine wp_nil<|c_true rfl<|c_seq<|reg<|p_aB rfl<|wp_nil ?_
      obtain rfl:=sJ H
      exact c_ret (rT Tryd.f5 S56.keep rfl rfl)
     ·replace H:=condF c53 H
      rcases bE (((wr (r31.1+r31.2.1)) != 0)) with c57 | c57
      ·replace H:=condT c57 H
       refine reg_q mixed 51 (by kernel_rfl) ?_
       refine dS (fun _ k_=>p_mI rfl dn)<|dS (fun _ k_=>p_cmp rfl rfl rfl dn)<|dS (fun _ k_=>p_mB rfl dn)<|dB c48<|dS (fun _ k_=>gT rfl rfl (p_mI rfl dn))<|dS (fun _ k_=>gT rfl rfl (p_cmp rfl rfl rfl dn))<|dS (fun _ k_=>gT rfl rfl (p_mB rfl dn))<|dB c52<|dS (fun _ k_=>gT rfl rfl (p_mI rfl dn))<|dS (fun _ k_=>gT rfl rfl (p_cmp rfl rfl rfl dn))<|dS (fun _ k_=>gT rfl rfl (p_mB rfl dn))<|dB c53 ?_
       refine dS (fun _ k_=>gT rfl rfl (p_mI rfl dn))<|dS (fun _ k_=>gT rfl rfl (p_mI rfl dn))<|dS (fun _ k_=>gT rfl rfl (p_add rfl rfl dn))<|dS (fun _ k_=>gT rfl rfl (p_cmp rfl rfl rfl dn))<|dS (fun _ k_=>gT rfl rfl (p_pkF rfl (rfl:_=B ((wr (r31.1+r31.2.1)) != 0)) dn))<|dS (fun _ k_=>gT rfl rfl (p_pkT rfl (rfl:_=B ((wr (r31.1+r31.2.1)) != 0)) dn)) ?_
       refine dS (fun _ k_=>p_pkF rfl (rfl:_=B ((wr (r31.1+r31.2.1)) != 0)) dn)<|dS (fun _ k_=>p_mB rfl dn)<|dB c57<|dF rfl rfl<|dF rfl rfl<|dF rfl rfl<|dS (fun _ k_=>o_guardU rfl rfl dnU)<|dS (fun _ k_=>o_guardU rfl rfl dnU)<|dS (fun _ k_=>o_guardU rfl rfl dnU)<|dS (fun _ k_=>o_guardU rfl rfl dnU)<|dS (fun _ k_=>o_guardU rfl rfl dnU) ?_
       refine dS (fun _ k_=>o_guardU rfl rfl dnU)<|dS (fun _ k_=>o_guardU rfl rfl dnU)<|dS (fun _ k_=>o_guardU rfl rfl dnU)<|dS (fun _ k_=>o_guardU rfl rfl dnU)<|dS (fun _ k_=>o_guardU rfl rfl dnU)<|dS (fun _ k_=>o_guardU rfl rfl dnU)<|dS (fun _ k_=>o_guardU rfl rfl dnU)<|dS (fun _ k_=>o_guardU rfl rfl dnU)<|dS (fun _ k_=>o_guardU rfl rfl dnU)<|dS (fun _ k_=>o_guardU rfl rfl dnU) ?_
       refine dS (fun _ k_=>o_guardU rfl rfl dnU)<|dS (fun _ k_=>o_guardU rfl rfl dnU)<|dS (fun _ k_=>o_guardU rfl rfl dnU)<|dS (fun _ k_=>o_guardU rfl rfl dnU)<|dS (fun _ k_=>o_guardU rfl rfl dnU)<|dS (fun _ k_=>o_guardU rfl rfl dnU)<|dS (fun _ k_=>o_guardU rfl rfl dnU)<|dS (fun _ k_=>o_guardU rfl rfl dnU)<|dS (fun _ k_=>o_guardU rfl rfl dnU)<|dS (fun _ k_=>o_guardU rfl rfl dnU) ?_
       refine dS (fun _ k_=>o_guardU rfl rfl dnU)<|dS (fun _ k_=>o_guardU rfl rfl dnU)<|dS (fun _ k_=>o_guardU rfl rfl dnU)<|dS (fun _ k_=>o_guardU rfl rfl dnU)<|dF rfl rfl<|dS (fun _ k_=>p_pkT rfl (rfl:_=B true) dn) ?_
       intro w58 k59; have S60:=S47.call k59
       refine wp_nil<|c_true rfl<|c_seq<|reg<|p_aB rfl<|wp_nil ?_
       obtain rfl:=sJ H
       exact c_ret (rT Tryd.f5 S60.keep rfl rfl)
      ·replace H:=condF c57 H
       rcases bE ((r31.2.2==0)) with c61 | c61
       ·replace H:=condT c61 H
        obtain ⟨r62,h63,H⟩:=bindS H
        rcases bE (!r62) with c64 | c64
        ·replace H:=condT c64 H
         refine reg_q mixed 51 (by kernel_rfl) ?_
         refine dS (fun _ k_=>p_mI rfl dn)<|dS (fun _ k_=>p_cmp rfl rfl rfl dn)<|dS (fun _ k_=>p_mB rfl dn)<|dB c48<|dS (fun _ k_=>gT rfl rfl (p_mI rfl dn))<|dS (fun _ k_=>gT rfl rfl (p_cmp rfl rfl rfl dn))<|dS (fun _ k_=>gT rfl rfl (p_mB rfl dn))<|dB c52<|dS (fun _ k_=>gT rfl rfl (p_mI rfl dn))<|dS (fun _ k_=>gT rfl rfl (p_cmp rfl rfl rfl dn))<|dS (fun _ k_=>gT rfl rfl (p_mB rfl dn))<|dB c53 ?_
         refine dS (fun _ k_=>gT rfl rfl (p_mI rfl dn))<|dS (fun _ k_=>gT rfl rfl (p_mI rfl dn))<|dS (fun _ k_=>gT rfl rfl (p_add rfl rfl dn))<|dS (fun _ k_=>gT rfl rfl (p_cmp rfl rfl rfl dn))<|dS (fun _ k_=>gT rfl rfl (p_pkF rfl (rfl:_=B ((wr (r31.1+r31.2.1)) != 0)) dn))<|dS (fun _ k_=>gT rfl rfl (p_pkT rfl (rfl:_=B ((wr (r31.1+r31.2.1)) != 0)) dn)) ?_
         refine dS (fun _ k_=>p_pkF rfl (rfl:_=B ((wr (r31.1+r31.2.1)) != 0)) dn)<|dS (fun _ k_=>p_mB rfl dn)<|dB c57<|dS (fun _ k_=>gT rfl rfl (p_mI rfl dn))<|dS (fun _ k_=>gT rfl rfl (p_cmp rfl rfl rfl dn))<|dS (fun _ k_=>gT rfl rfl (p_mB rfl dn))<|dB c61<|dS (fun _ k_=>gT rfl rfl (p_mI rfl dn))<|dS (fun _ k_=>gT rfl rfl (p_mI rfl dn))<|dS (fun _ k_=>gT rfl rfl (p_sub rfl rfl dn)) ?_
         refine dS (fun _ k_=>gT rfl rfl (p_cvD (B_Inside_ok h63) fu32 rfl))<|dS (fun _ k_=>gT rfl rfl (p_not rfl dn))<|dS (fun _ k_=>gT rfl rfl (p_mB rfl dn))<|dB c64<|dF rfl rfl<|dF rfl rfl<|dF rfl rfl<|dF rfl rfl<|dF rfl rfl<|dS (fun _ k_=>gT rfl rfl (p_pkT rfl (rfl:_=B true) dn)) ?_
         refine dS (fun _ k_=>gT rfl rfl (p_mB rfl dn))<|dF rfl rfl<|dF rfl rfl<|dF rfl rfl<|dF rfl rfl<|dF rfl rfl<|dF rfl rfl<|dF rfl rfl<|dF rfl rfl<|dF rfl rfl<|dF rfl rfl<|dF rfl rfl ?_
         refine dF rfl rfl<|dS (fun _ k_=>gT rfl rfl (p_pkT rfl (rfl:_=B true) dn))<|dS (fun _ k_=>gT rfl rfl (p_mB rfl dn))<|dF rfl rfl<|dS (fun _ k_=>gT rfl rfl (p_pkT rfl (rfl:_=B true) dn))<|dS (fun _ k_=>gT rfl rfl (p_pkT rfl (rfl:_=B true) dn))<|dS (fun _ k_=>p_pkF rfl (rfl:_=B true) dn) ?_
         intro w65 k66; have S67:=S47.call k66
         refine wp_nil<|c_true rfl<|c_seq<|reg<|p_aB rfl<|wp_nil ?_
         obtain rfl:=sJ H
         exact c_ret (rT Tryd.f5 S67.keep rfl rfl)
        ·replace H:=condF c64 H
         rcases bE (decide (r31.2.1≥(a0.Shows.length:Int))) with c68 | c68
         ·replace H:=condT c68 H
          refine reg_q mixed 51 (by kernel_rfl) ?_
          refine dS (fun _ k_=>p_mI rfl dn)<|dS (fun _ k_=>p_cmp rfl rfl rfl dn)<|dS (fun _ k_=>p_mB rfl dn)<|dB c48<|dS (fun _ k_=>gT rfl rfl (p_mI rfl dn))<|dS (fun _ k_=>gT rfl rfl (p_cmp rfl rfl rfl dn))<|dS (fun _ k_=>gT rfl rfl (p_mB rfl dn))<|dB c52<|dS (fun _ k_=>gT rfl rfl (p_mI rfl dn))<|dS (fun _ k_=>gT rfl rfl (p_cmp rfl rfl rfl dn))<|dS (fun _ k_=>gT rfl rfl (p_mB rfl dn))<|dB c53 ?_
          refine dS (fun _ k_=>gT rfl rfl (p_mI rfl dn))<|dS (fun _ k_=>gT rfl rfl (p_mI rfl dn))<|dS (fun _ k_=>gT rfl rfl (p_add rfl rfl dn))<|dS (fun _ k_=>gT rfl rfl (p_cmp rfl rfl rfl dn))<|dS (fun _ k_=>gT rfl rfl (p_pkF rfl (rfl:_=B ((wr (r31.1+r31.2.1)) != 0)) dn))<|dS (fun _ k_=>gT rfl rfl (p_pkT rfl (rfl:_=B ((wr (r31.1+r31.2.1)) != 0)) dn)) ?_
          refine dS (fun _ k_=>p_pkF rfl (rfl:_=B ((wr (r31.1+r31.2.1)) != 0)) dn)<|dS (fun _ k_=>p_mB rfl dn)<|dB c57<|dS (fun _ k_=>gT rfl rfl (p_mI rfl dn))<|dS (fun _ k_=>gT rfl rfl (p_cmp rfl rfl rfl dn))<|dS (fun _ k_=>gT rfl rfl (p_mB rfl dn))<|dB c61<|dS (fun _ k_=>gT rfl rfl (p_mI rfl dn))<|dS (fun _ k_=>gT rfl rfl (p_mI rfl dn))<|dS (fun _ k_=>gT rfl rfl (p_sub rfl rfl dn)) ?_
          refine dS (fun _ k_=>gT rfl rfl (p_cvD (B_Inside_ok h63) fu32 rfl))<|dS (fun _ k_=>gT rfl rfl (p_not rfl dn))<|dS (fun _ k_=>gT rfl rfl (p_mB rfl dn))<|dB c64<|dS (fun _ k_=>gT rfl rfl (p_mI rfl dn))<|dS (fun _ k_=>gT rfl rfl (p_fld fl29_3 rfl dn))<|dS (fun _ k_=>gT rfl rfl (p_ld ty26 (aS (S47.atX (i:=1) rfl) k_) rfl rfl dn))<|dS (fun _ k_=>gT rfl rfl (p_len rfl sc26 dn)) ?_
          refine dS (fun _ k_=>gT rfl rfl (p_cmp rfl rfl rfl dn))<|dS (fun _ k_=>gT rfl rfl (p_pkF rfl (rfl:_=B (decide (r31.2.1≥(a0.Shows.length:Int)))) dn))<|dS (fun _ k_=>gT rfl rfl (p_mB rfl dn))<|dB c68<|dF rfl rfl<|dF rfl rfl<|dF rfl rfl<|dF rfl rfl<|dF rfl rfl<|dF rfl rfl ?_
          refine dF rfl rfl<|dF rfl rfl<|dF rfl rfl<|dF rfl rfl<|dF rfl rfl<|dF rfl rfl<|dS (fun _ k_=>gT rfl rfl (p_pkT rfl (rfl:_=B true) dn))<|dS (fun _ k_=>gT rfl rfl (p_mB rfl dn))<|dF rfl rfl<|dS (fun _ k_=>gT rfl rfl (p_pkT rfl (rfl:_=B true) dn)) ?_
          refine dS (fun _ k_=>gT rfl rfl (p_pkT rfl (rfl:_=B true) dn))<|dS (fun _ k_=>p_pkF rfl (rfl:_=B true) dn) ?_
          intro w69 k70; have S71:=S47.call k70
          refine wp_nil<|c_true rfl<|c_seq<|reg<|p_aB rfl<|wp_nil ?_
          obtain rfl:=sJ H
          exact c_ret (rT Tryd.f5 S71.keep rfl rfl)
         ·replace H:=condF c68 H
          obtain ⟨r72,h73,H⟩:=bindS H
          obtain ⟨r74,h75,H⟩:=bindS H
          obtain ⟨r76,h77,H⟩:=bindS H
          rcases bE (!r76) with c78 | c78
          ·replace H:=condT c78 H
           refine reg_q mixed 51 (by kernel_rfl) ?_
           refine dS (fun _ k_=>p_mI rfl dn)<|dS (fun _ k_=>p_cmp rfl rfl rfl dn)<|dS (fun _ k_=>p_mB rfl dn)<|dB c48<|dS (fun _ k_=>gT rfl rfl (p_mI rfl dn))<|dS (fun _ k_=>gT rfl rfl (p_cmp rfl rfl rfl dn))<|dS (fun _ k_=>gT rfl rfl (p_mB rfl dn))<|dB c52<|dS (fun _ k_=>gT rfl rfl (p_mI rfl dn))<|dS (fun _ k_=>gT rfl rfl (p_cmp rfl rfl rfl dn))<|dS (fun _ k_=>gT rfl rfl (p_mB rfl dn))<|dB c53 ?_
           refine dS (fun _ k_=>gT rfl rfl (p_mI rfl dn))<|dS (fun _ k_=>gT rfl rfl (p_mI rfl dn))<|dS (fun _ k_=>gT rfl rfl (p_add rfl rfl dn))<|dS (fun _ k_=>gT rfl rfl (p_cmp rfl rfl rfl dn))<|dS (fun _ k_=>gT rfl rfl (p_pkF rfl (rfl:_=B ((wr (r31.1+r31.2.1)) != 0)) dn))<|dS (fun _ k_=>gT rfl rfl (p_pkT rfl (rfl:_=B ((wr (r31.1+r31.2.1)) != 0)) dn)) ?_
           refine dS (fun _ k_=>p_pkF rfl (rfl:_=B ((wr (r31.1+r31.2.1)) != 0)) dn)<|dS (fun _ k_=>p_mB rfl dn)<|dB c57<|dS (fun _ k_=>gT rfl rfl (p_mI rfl dn))<|dS (fun _ k_=>gT rfl rfl (p_cmp rfl rfl rfl dn))<|dS (fun _ k_=>gT rfl rfl (p_mB rfl dn))<|dB c61<|dS (fun _ k_=>gT rfl rfl (p_mI rfl dn))<|dS (fun _ k_=>gT rfl rfl (p_mI rfl dn))<|dS (fun _ k_=>gT rfl rfl (p_sub rfl rfl dn)) ?_
           refine dS (fun _ k_=>gT rfl rfl (p_cvD (B_Inside_ok h63) fu32 rfl))<|dS (fun _ k_=>gT rfl rfl (p_not rfl dn))<|dS (fun _ k_=>gT rfl rfl (p_mB rfl dn))<|dB c64<|dS (fun _ k_=>gT rfl rfl (p_mI rfl dn))<|dS (fun _ k_=>gT rfl rfl (p_fld fl29_3 rfl dn))<|dS (fun _ k_=>gT rfl rfl (p_ld ty26 (aS (S47.atX (i:=1) rfl) k_) rfl rfl dn))<|dS (fun _ k_=>gT rfl rfl (p_len rfl sc26 dn)) ?_
           refine dS (fun _ k_=>gT rfl rfl (p_cmp rfl rfl rfl dn))<|dS (fun _ k_=>gT rfl rfl (p_pkF rfl (rfl:_=B (decide (r31.2.1≥(a0.Shows.length:Int)))) dn))<|dS (fun _ k_=>gT rfl rfl (p_mB rfl dn))<|dB c68<|dS (fun _ k_=>gT rfl rfl (p_fld fl29_3 rfl dn))<|dS (fun _ k_=>gT rfl rfl (p_ld ty26 (aS (S47.atX (i:=1) rfl) k_) rfl rfl dn))<|dS (fun _ k_=>gT rfl rfl (p_mI rfl dn)) ?_
           refine dS (fun _ k_=>gT rfl rfl (p_ixE sc26 h73 (aS (S47.atP (i:=3) rfl) k_).1 rfl rfl rfl dn))<|dS (fun _ k_=>gT rfl rfl (p_ldEA ty67 sz67 rfl h73 (aS (S47.atP (i:=3) rfl) k_).1 rfl dn))<|dS (fun _ k_=>gT rfl rfl (p_fld fl29_3 rfl dn))<|dS (fun _ k_=>gT rfl rfl (p_ld ty26 (aS (S47.atX (i:=1) rfl) k_) rfl rfl dn))<|dS (fun _ k_=>gT rfl rfl (p_mI rfl dn)) ?_
           refine dS (fun _ k_=>gT rfl rfl (p_ixE sc26 h75 (aS (S47.atP (i:=3) rfl) k_).1 rfl rfl rfl dn))<|dS (fun _ k_=>gT rfl rfl (p_ldEA ty67 sz67 rfl h75 (aS (S47.atP (i:=3) rfl) k_).1 rfl dn))<|dS (fun _ k_=>gT rfl rfl (p_cvD (law_clash_ok h77) fu33 rfl))<|dS (fun _ k_=>gT rfl rfl (p_not rfl dn))<|dS (fun _ k_=>gT rfl rfl (p_pkF rfl (rfl:_=B (!r76)) dn)) ?_
           refine dS (fun _ k_=>gT rfl rfl (p_mB rfl dn))<|dB c78<|dF rfl rfl<|dS (fun _ k_=>gT rfl rfl (p_pkT rfl (rfl:_=B true) dn))<|dS (fun _ k_=>gT rfl rfl (p_pkT rfl (rfl:_=B true) dn))<|dS (fun _ k_=>p_pkF rfl (rfl:_=B true) dn) ?_
           intro w79 k80; have S81:=S47.call k80
           refine wp_nil<|c_true rfl<|c_seq<|reg<|p_aB rfl<|wp_nil ?_
           obtain rfl:=sJ H
           exact c_ret (rT Tryd.f5 S81.keep rfl rfl)
          ·replace H:=condF c78 H
           refine reg_q mixed 51 (by kernel_rfl) ?_
           refine dS (fun _ k_=>p_mI rfl dn)<|dS (fun _ k_=>p_cmp rfl rfl rfl dn)<|dS (fun _ k_=>p_mB rfl dn)<|dB c48<|dS (fun _ k_=>gT rfl rfl (p_mI rfl dn))<|dS (fun _ k_=>gT rfl rfl (p_cmp rfl rfl rfl dn))<|dS (fun _ k_=>gT rfl rfl (p_mB rfl dn))<|dB c52<|dS (fun _ k_=>gT rfl rfl (p_mI rfl dn))<|dS (fun _ k_=>gT rfl rfl (p_cmp rfl rfl rfl dn))<|dS (fun _ k_=>gT rfl rfl (p_mB rfl dn))<|dB c53 ?_
           refine dS (fun _ k_=>gT rfl rfl (p_mI rfl dn))<|dS (fun _ k_=>gT rfl rfl (p_mI rfl dn))<|dS (fun _ k_=>gT rfl rfl (p_add rfl rfl dn))<|dS (fun _ k_=>gT rfl rfl (p_cmp rfl rfl rfl dn))<|dS (fun _ k_=>gT rfl rfl (p_pkF rfl (rfl:_=B ((wr (r31.1+r31.2.1)) != 0)) dn))<|dS (fun _ k_=>gT rfl rfl (p_pkT rfl (rfl:_=B ((wr (r31.1+r31.2.1)) != 0)) dn)) ?_
           refine dS (fun _ k_=>p_pkF rfl (rfl:_=B ((wr (r31.1+r31.2.1)) != 0)) dn)<|dS (fun _ k_=>p_mB rfl dn)<|dB c57<|dS (fun _ k_=>gT rfl rfl (p_mI rfl dn))<|dS (fun _ k_=>gT rfl rfl (p_cmp rfl rfl rfl dn))<|dS (fun _ k_=>gT rfl rfl (p_mB rfl dn))<|dB c61<|dS (fun _ k_=>gT rfl rfl (p_mI rfl dn))<|dS (fun _ k_=>gT rfl rfl (p_mI rfl dn))<|dS (fun _ k_=>gT rfl rfl (p_sub rfl rfl dn)) ?_
           refine dS (fun _ k_=>gT rfl rfl (p_cvD (B_Inside_ok h63) fu32 rfl))<|dS (fun _ k_=>gT rfl rfl (p_not rfl dn))<|dS (fun _ k_=>gT rfl rfl (p_mB rfl dn))<|dB c64<|dS (fun _ k_=>gT rfl rfl (p_mI rfl dn))<|dS (fun _ k_=>gT rfl rfl (p_fld fl29_3 rfl dn))<|dS (fun _ k_=>gT rfl rfl (p_ld ty26 (aS (S47.atX (i:=1) rfl) k_) rfl rfl dn))<|dS (fun _ k_=>gT rfl rfl (p_len rfl sc26 dn)) ?_
           refine dS (fun _ k_=>gT rfl rfl (p_cmp rfl rfl rfl dn))<|dS (fun _ k_=>gT rfl rfl (p_pkF rfl (rfl:_=B (decide (r31.2.1≥(a0.Shows.length:Int)))) dn))<|dS (fun _ k_=>gT rfl rfl (p_mB rfl dn))<|dB c68<|dS (fun _ k_=>gT rfl rfl (p_fld fl29_3 rfl dn))<|dS (fun _ k_=>gT rfl rfl (p_ld ty26 (aS (S47.atX (i:=1) rfl) k_) rfl rfl dn))<|dS (fun _ k_=>gT rfl rfl (p_mI rfl dn)) ?_
           refine dS (fun _ k_=>gT rfl rfl (p_ixE sc26 h73 (aS (S47.atP (i:=3) rfl) k_).1 rfl rfl rfl dn))<|dS (fun _ k_=>gT rfl rfl (p_ldEA ty67 sz67 rfl h73 (aS (S47.atP (i:=3) rfl) k_).1 rfl dn))<|dS (fun _ k_=>gT rfl rfl (p_fld fl29_3 rfl dn))<|dS (fun _ k_=>gT rfl rfl (p_ld ty26 (aS (S47.atX (i:=1) rfl) k_) rfl rfl dn))<|dS (fun _ k_=>gT rfl rfl (p_mI rfl dn)) ?_
           refine dS (fun _ k_=>gT rfl rfl (p_ixE sc26 h75 (aS (S47.atP (i:=3) rfl) k_).1 rfl rfl rfl dn))<|dS (fun _ k_=>gT rfl rfl (p_ldEA ty67 sz67 rfl h75 (aS (S47.atP (i:=3) rfl) k_).1 rfl dn))<|dS (fun _ k_=>gT rfl rfl (p_cvD (law_clash_ok h77) fu33 rfl))<|dS (fun _ k_=>gT rfl rfl (p_not rfl dn))<|dS (fun _ k_=>gT rfl rfl (p_pkF rfl (rfl:_=B (!r76)) dn)) ?_
           refine dS (fun _ k_=>gT rfl rfl (p_mB rfl dn))<|dB c78<|dS (fun _ k_=>gT rfl rfl (p_mB rfl dn))<|dS (fun _ k_=>gT rfl rfl (p_pkF rfl (rfl:_=B r35.1) dn))<|dS (fun _ k_=>gT rfl rfl (p_pkT rfl (rfl:_=B r35.1) dn))<|dS (fun _ k_=>p_pkF rfl (rfl:_=B r35.1) dn) ?_
           intro w82 k83; have S84:=S47.call k83
           refine wp_nil ?_
           refine c_cond rfl (fun c85=>?_) (fun c85=>?_)
           ·replace H:=condT c85 H
            refine c_seq<|reg<|p_aB rfl<|wp_nil ?_
            obtain rfl:=sJ H
            exact c_ret (rT Tryd.f5 S84.keep rfl rfl)
           ·replace H:=condF c85 H
            refine c_skip ?_
            exact ⟨(),(),_,rfl,⟨rfl,rfl,rfl,rfl,rfl,rfl,rfl,trivial⟩,H,S84⟩
       ·replace H:=condF c61 H
        refine reg_q mixed 51 (by kernel_rfl) ?_
        refine dS (fun _ k_=>p_mI rfl dn)<|dS (fun _ k_=>p_cmp rfl rfl rfl dn)<|dS (fun _ k_=>p_mB rfl dn)<|dB c48<|dS (fun _ k_=>gT rfl rfl (p_mI rfl dn))<|dS (fun _ k_=>gT rfl rfl (p_cmp rfl rfl rfl dn))<|dS (fun _ k_=>gT rfl rfl (p_mB rfl dn))<|dB c52<|dS (fun _ k_=>gT rfl rfl (p_mI rfl dn))<|dS (fun _ k_=>gT rfl rfl (p_cmp rfl rfl rfl dn))<|dS (fun _ k_=>gT rfl rfl (p_mB rfl dn))<|dB c53 ?_
        refine dS (fun _ k_=>gT rfl rfl (p_mI rfl dn))<|dS (fun _ k_=>gT rfl rfl (p_mI rfl dn))<|dS (fun _ k_=>gT rfl rfl (p_add rfl rfl dn))<|dS (fun _ k_=>gT rfl rfl (p_cmp rfl rfl rfl dn))<|dS (fun _ k_=>gT rfl rfl (p_pkF rfl (rfl:_=B ((wr (r31.1+r31.2.1)) != 0)) dn))<|dS (fun _ k_=>gT rfl rfl (p_pkT rfl (rfl:_=B ((wr (r31.1+r31.2.1)) != 0)) dn)) ?_
        refine dS (fun _ k_=>p_pkF rfl (rfl:_=B ((wr (r31.1+r31.2.1)) != 0)) dn)<|dS (fun _ k_=>p_mB rfl dn)<|dB c57<|dS (fun _ k_=>gT rfl rfl (p_mI rfl dn))<|dS (fun _ k_=>gT rfl rfl (p_cmp rfl rfl rfl dn))<|dS (fun _ k_=>gT rfl rfl (p_mB rfl dn))<|dB c61<|dF rfl rfl<|dF rfl rfl<|dF rfl rfl<|dF rfl rfl<|dF rfl rfl ?_
        refine dF rfl rfl<|dS (fun _ k_=>o_guardU rfl rfl dnU)<|dS (fun _ k_=>o_guardU rfl rfl dnU)<|dS (fun _ k_=>o_guardU rfl rfl dnU)<|dS (fun _ k_=>o_guardU rfl rfl dnU)<|dS (fun _ k_=>o_guardU rfl rfl dnU)<|dF rfl rfl<|dF rfl rfl<|dS (fun _ k_=>o_guardU rfl rfl dnU)<|dS (fun _ k_=>o_guardU rfl rfl dnU)<|dS (fun _ k_=>o_guardU rfl rfl dnU) ?_
        refine dS (fun _ k_=>o_guardU rfl rfl dnU)<|dS (fun _ k_=>o_guardU rfl rfl dnU)<|dS (fun _ k_=>o_guardU rfl rfl dnU)<|dS (fun _ k_=>o_guardU rfl rfl dnU)<|dS (fun _ k_=>o_guardU rfl rfl dnU)<|dS (fun _ k_=>o_guardU rfl rfl dnU)<|dS (fun _ k_=>o_guardU rfl rfl dnU)<|dS (fun _ k_=>o_guardU rfl rfl dnU)<|dS (fun _ k_=>o_guardU rfl rfl dnU)<|dF rfl rfl<|dF rfl rfl ?_
        refine dS (fun _ k_=>o_guardU rfl rfl dnU)<|dF rfl rfl<|dS (fun _ k_=>gT rfl rfl (p_pkF rfl (rfl:_=B false) dn))<|dS (fun _ k_=>p_pkF rfl (rfl:_=B false) dn) ?_
        intro w86 k87; have S88:=S47.call k87
        refine wp_nil<|c_false rfl<|c_skip ?_
        exact ⟨(),(),_,rfl,⟨rfl,rfl,rfl,rfl,rfl,rfl,rfl,trivial⟩,H,S88⟩
    ·replace H:=condF c52 H
     rcases bE ((r31.2.2==0)) with c89 | c89
     ·replace H:=condT c89 H
      obtain ⟨r90,h91,H⟩:=bindS H
      rcases bE (!r90) with c92 | c92
      ·replace H:=condT c92 H
       refine reg_q mixed 51 (by kernel_rfl) ?_
       refine dS (fun _ k_=>p_mI rfl dn)<|dS (fun _ k_=>p_cmp rfl rfl rfl dn)<|dS (fun _ k_=>p_mB rfl dn)<|dB c48<|dS (fun _ k_=>gT rfl rfl (p_mI rfl dn))<|dS (fun _ k_=>gT rfl rfl (p_cmp rfl rfl rfl dn))<|dS (fun _ k_=>gT rfl rfl (p_mB rfl dn))<|dB c52<|dF rfl rfl<|dF rfl rfl<|dF rfl rfl<|dS (fun _ k_=>o_guardU rfl rfl dnU) ?_
       refine dS (fun _ k_=>o_guardU rfl rfl dnU)<|dS (fun _ k_=>o_guardU rfl rfl dnU)<|dS (fun _ k_=>o_guardU rfl rfl dnU)<|dF rfl rfl<|dS (fun _ k_=>gT rfl rfl (p_pkF rfl (rfl:_=B false) dn))<|dS (fun _ k_=>p_pkF rfl (rfl:_=B false) dn)<|dS (fun _ k_=>p_mB rfl dn)<|dS (fun _ k_=>gT rfl rfl (p_mI rfl dn))<|dS (fun _ k_=>gT rfl rfl (p_cmp rfl rfl rfl dn)) ?_
       refine dS (fun _ k_=>gT rfl rfl (p_mB rfl dn))<|dB c89<|dS (fun _ k_=>gT rfl rfl (p_mI rfl dn))<|dS (fun _ k_=>gT rfl rfl (p_mI rfl dn))<|dS (fun _ k_=>gT rfl rfl (p_sub rfl rfl dn))<|dS (fun _ k_=>gT rfl rfl (p_cvD (B_Inside_ok h91) fu32 rfl))<|dS (fun _ k_=>gT rfl rfl (p_not rfl dn))<|dS (fun _ k_=>gT rfl rfl (p_mB rfl dn))<|dB c92<|dF rfl rfl<|dF rfl rfl ?_
       refine dF rfl rfl<|dF rfl rfl<|dF rfl rfl<|dS (fun _ k_=>gT rfl rfl (p_pkT rfl (rfl:_=B true) dn))<|dS (fun _ k_=>gT rfl rfl (p_mB rfl dn))<|dF rfl rfl<|dF rfl rfl<|dF rfl rfl<|dF rfl rfl<|dF rfl rfl<|dF rfl rfl ?_
       refine dF rfl rfl<|dF rfl rfl<|dF rfl rfl<|dF rfl rfl<|dF rfl rfl<|dF rfl rfl<|dS (fun _ k_=>gT rfl rfl (p_pkT rfl (rfl:_=B true) dn))<|dS (fun _ k_=>gT rfl rfl (p_mB rfl dn))<|dF rfl rfl<|dS (fun _ k_=>gT rfl rfl (p_pkT rfl (rfl:_=B true) dn)) ?_
       refine dS (fun _ k_=>gT rfl rfl (p_pkT rfl (rfl:_=B true) dn))<|dS (fun _ k_=>p_pkF rfl (rfl:_=B true) dn) ?_
       intro w93 k94; have S95:=S47.call k94
       refine wp_nil<|c_true rfl<|c_seq<|reg<|p_aB rfl<|wp_nil ?_
       obtain rfl:=sJ H
       exact c_ret (rT Tryd.f5 S95.keep rfl rfl)
      ·replace H:=condF c92 H
       rcases bE (decide (r31.2.1≥(a0.Shows.length:Int))) with c96 | c96
       ·replace H:=condT c96 H
        refine reg_q mixed 51 (by kernel_rfl) ?_
        refine dS (fun _ k_=>p_mI rfl dn)<|dS (fun _ k_=>p_cmp rfl rfl rfl dn)<|dS (fun _ k_=>p_mB rfl dn)<|dB c48<|dS (fun _ k_=>gT rfl rfl (p_mI rfl dn))<|dS (fun _ k_=>gT rfl rfl (p_cmp rfl rfl rfl dn))<|dS (fun _ k_=>gT rfl rfl (p_mB rfl dn))<|dB c52<|dF rfl rfl<|dF rfl rfl<|dF rfl rfl<|dS (fun _ k_=>o_guardU rfl rfl dnU) ?_
        refine dS (fun _ k_=>o_guardU rfl rfl dnU)<|dS (fun _ k_=>o_guardU rfl rfl dnU)<|dS (fun _ k_=>o_guardU rfl rfl dnU)<|dF rfl rfl<|dS (fun _ k_=>gT rfl rfl (p_pkF rfl (rfl:_=B false) dn))<|dS (fun _ k_=>p_pkF rfl (rfl:_=B false) dn)<|dS (fun _ k_=>p_mB rfl dn)<|dS (fun _ k_=>gT rfl rfl (p_mI rfl dn))<|dS (fun _ k_=>gT rfl rfl (p_cmp rfl rfl rfl dn)) ?_
        refine dS (fun _ k_=>gT rfl rfl (p_mB rfl dn))<|dB c89<|dS (fun _ k_=>gT rfl rfl (p_mI rfl dn))<|dS (fun _ k_=>gT rfl rfl (p_mI rfl dn))<|dS (fun _ k_=>gT rfl rfl (p_sub rfl rfl dn))<|dS (fun _ k_=>gT rfl rfl (p_cvD (B_Inside_ok h91) fu32 rfl))<|dS (fun _ k_=>gT rfl rfl (p_not rfl dn))<|dS (fun _ k_=>gT rfl rfl (p_mB rfl dn))<|dB c92<|dS (fun _ k_=>gT rfl rfl (p_mI rfl dn)) ?_
        refine dS (fun _ k_=>gT rfl rfl (p_fld fl29_3 rfl dn))<|dS (fun _ k_=>gT rfl rfl (p_ld ty26 (aS (S47.atX (i:=1) rfl) k_) rfl rfl dn))<|dS (fun _ k_=>gT rfl rfl (p_len rfl sc26 dn))<|dS (fun _ k_=>gT rfl rfl (p_cmp rfl rfl rfl dn))<|dS (fun _ k_=>gT rfl rfl (p_pkF rfl (rfl:_=B (decide (r31.2.1≥(a0.Shows.length:Int)))) dn))<|dS (fun _ k_=>gT rfl rfl (p_mB rfl dn))<|dB c96 ?_
        refine dF rfl rfl<|dF rfl rfl<|dF rfl rfl<|dF rfl rfl<|dF rfl rfl<|dF rfl rfl<|dF rfl rfl<|dF rfl rfl<|dF rfl rfl<|dF rfl rfl<|dF rfl rfl<|dF rfl rfl ?_
        refine dS (fun _ k_=>gT rfl rfl (p_pkT rfl (rfl:_=B true) dn))<|dS (fun _ k_=>gT rfl rfl (p_mB rfl dn))<|dF rfl rfl<|dS (fun _ k_=>gT rfl rfl (p_pkT rfl (rfl:_=B true) dn))<|dS (fun _ k_=>gT rfl rfl (p_pkT rfl (rfl:_=B true) dn))<|dS (fun _ k_=>p_pkF rfl (rfl:_=B true) dn) ?_
        intro w97 k98; have S99:=S47.call k98
        refine wp_nil<|c_true rfl<|c_seq<|reg<|p_aB rfl<|wp_nil ?_
        obtain rfl:=sJ H
        exact c_ret (rT Tryd.f5 S99.keep rfl rfl)
       ·replace H:=condF c96 H
        obtain ⟨r100,h101,H⟩:=bindS H
        obtain ⟨r102,h103,H⟩:=bindS H
        obtain ⟨r104,h105,H⟩:=bindS H
        rcases bE (!r104) with c106 | c106
        ·replace H:=condT c106 H
         refine reg_q mixed 51 (by kernel_rfl) ?_
         refine dS (fun _ k_=>p_mI rfl dn)<|dS (fun _ k_=>p_cmp rfl rfl rfl dn)<|dS (fun _ k_=>p_mB rfl dn)<|dB c48<|dS (fun _ k_=>gT rfl rfl (p_mI rfl dn))<|dS (fun _ k_=>gT rfl rfl (p_cmp rfl rfl rfl dn))<|dS (fun _ k_=>gT rfl rfl (p_mB rfl dn))<|dB c52<|dF rfl rfl<|dF rfl rfl<|dF rfl rfl<|dS (fun _ k_=>o_guardU rfl rfl dnU) ?_
         refine dS (fun _ k_=>o_guardU rfl rfl dnU)<|dS (fun _ k_=>o_guardU rfl rfl dnU)<|dS (fun _ k_=>o_guardU rfl rfl dnU)<|dF rfl rfl<|dS (fun _ k_=>gT rfl rfl (p_pkF rfl (rfl:_=B false) dn))<|dS (fun _ k_=>p_pkF rfl (rfl:_=B false) dn)<|dS (fun _ k_=>p_mB rfl dn)<|dS (fun _ k_=>gT rfl rfl (p_mI rfl dn))<|dS (fun _ k_=>gT rfl rfl (p_cmp rfl rfl rfl dn)) ?_
         refine dS (fun _ k_=>gT rfl rfl (p_mB rfl dn))<|dB c89<|dS (fun _ k_=>gT rfl rfl (p_mI rfl dn))<|dS (fun _ k_=>gT rfl rfl (p_mI rfl dn))<|dS (fun _ k_=>gT rfl rfl (p_sub rfl rfl dn))<|dS (fun _ k_=>gT rfl rfl (p_cvD (B_Inside_ok h91) fu32 rfl))<|dS (fun _ k_=>gT rfl rfl (p_not rfl dn))<|dS (fun _ k_=>gT rfl rfl (p_mB rfl dn))<|dB c92<|dS (fun _ k_=>gT rfl rfl (p_mI rfl dn)) ?_
         refine dS (fun _ k_=>gT rfl rfl (p_fld fl29_3 rfl dn))<|dS (fun _ k_=>gT rfl rfl (p_ld ty26 (aS (S47.atX (i:=1) rfl) k_) rfl rfl dn))<|dS (fun _ k_=>gT rfl rfl (p_len rfl sc26 dn))<|dS (fun _ k_=>gT rfl rfl (p_cmp rfl rfl rfl dn))<|dS (fun _ k_=>gT rfl rfl (p_pkF rfl (rfl:_=B (decide (r31.2.1≥(a0.Shows.length:Int)))) dn))<|dS (fun _ k_=>gT rfl rfl (p_mB rfl dn))<|dB c96 ?_
         refine dS (fun _ k_=>gT rfl rfl (p_fld fl29_3 rfl dn))<|dS (fun _ k_=>gT rfl rfl (p_ld ty26 (aS (S47.atX (i:=1) rfl) k_) rfl rfl dn))<|dS (fun _ k_=>gT rfl rfl (p_mI rfl dn))<|dS (fun _ k_=>gT rfl rfl (p_ixE sc26 h101 (aS (S47.atP (i:=3) rfl) k_).1 rfl rfl rfl dn))<|dS (fun _ k_=>gT rfl rfl (p_ldEA ty67 sz67 rfl h101 (aS (S47.atP (i:=3) rfl) k_).1 rfl dn)) ?_
         refine dS (fun _ k_=>gT rfl rfl (p_fld fl29_3 rfl dn))<|dS (fun _ k_=>gT rfl rfl (p_ld ty26 (aS (S47.atX (i:=1) rfl) k_) rfl rfl dn))<|dS (fun _ k_=>gT rfl rfl (p_mI rfl dn))<|dS (fun _ k_=>gT rfl rfl (p_ixE sc26 h103 (aS (S47.atP (i:=3) rfl) k_).1 rfl rfl rfl dn))<|dS (fun _ k_=>gT rfl rfl (p_ldEA ty67 sz67 rfl h103 (aS (S47.atP (i:=3) rfl) k_).1 rfl dn)) ?_
         refine dS (fun _ k_=>gT rfl rfl (p_cvD (law_clash_ok h105) fu33 rfl))<|dS (fun _ k_=>gT rfl rfl (p_not rfl dn))<|dS (fun _ k_=>gT rfl rfl (p_pkF rfl (rfl:_=B (!r104)) dn))<|dS (fun _ k_=>gT rfl rfl (p_mB rfl dn))<|dB c106<|dF rfl rfl<|dS (fun _ k_=>gT rfl rfl (p_pkT rfl (rfl:_=B true) dn))<|dS (fun _ k_=>gT rfl rfl (p_pkT rfl (rfl:_=B true) dn)) ?_
         refine dS (fun _ k_=>p_pkF rfl (rfl:_=B true) dn) ?_
         intro w107 k108; have S109:=S47.call k108
         refine wp_nil<|c_true rfl<|c_seq<|reg<|p_aB rfl<|wp_nil ?_
         obtain rfl:=sJ H
         exact c_ret (rT Tryd.f5 S109.keep rfl rfl)
        ·replace H:=condF c106 H
         refine reg_q mixed 51 (by kernel_rfl) ?_
         refine dS (fun _ k_=>p_mI rfl dn)<|dS (fun _ k_=>p_cmp rfl rfl rfl dn)<|dS (fun _ k_=>p_mB rfl dn)<|dB c48<|dS (fun _ k_=>gT rfl rfl (p_mI rfl dn))<|dS (fun _ k_=>gT rfl rfl (p_cmp rfl rfl rfl dn))<|dS (fun _ k_=>gT rfl rfl (p_mB rfl dn))<|dB c52<|dF rfl rfl<|dF rfl rfl<|dF rfl rfl<|dS (fun _ k_=>o_guardU rfl rfl dnU) ?_
         refine dS (fun _ k_=>o_guardU rfl rfl dnU)<|dS (fun _ k_=>o_guardU rfl rfl dnU)<|dS (fun _ k_=>o_guardU rfl rfl dnU)<|dF rfl rfl<|dS (fun _ k_=>gT rfl rfl (p_pkF rfl (rfl:_=B false) dn))<|dS (fun _ k_=>p_pkF rfl (rfl:_=B false) dn)<|dS (fun _ k_=>p_mB rfl dn)<|dS (fun _ k_=>gT rfl rfl (p_mI rfl dn))<|dS (fun _ k_=>gT rfl rfl (p_cmp rfl rfl rfl dn)) ?_
         refine dS (fun _ k_=>gT rfl rfl (p_mB rfl dn))<|dB c89<|dS (fun _ k_=>gT rfl rfl (p_mI rfl dn))<|dS (fun _ k_=>gT rfl rfl (p_mI rfl dn))<|dS (fun _ k_=>gT rfl rfl (p_sub rfl rfl dn))<|dS (fun _ k_=>gT rfl rfl (p_cvD (B_Inside_ok h91) fu32 rfl))<|dS (fun _ k_=>gT rfl rfl (p_not rfl dn))<|dS (fun _ k_=>gT rfl rfl (p_mB rfl dn))<|dB c92<|dS (fun _ k_=>gT rfl rfl (p_mI rfl dn)) ?_
         refine dS (fun _ k_=>gT rfl rfl (p_fld fl29_3 rfl dn))<|dS (fun _ k_=>gT rfl rfl (p_ld ty26 (aS (S47.atX (i:=1) rfl) k_) rfl rfl dn))<|dS (fun _ k_=>gT rfl rfl (p_len rfl sc26 dn))<|dS (fun _ k_=>gT rfl rfl (p_cmp rfl rfl rfl dn))<|dS (fun _ k_=>gT rfl rfl (p_pkF rfl (rfl:_=B (decide (r31.2.1≥(a0.Shows.length:Int)))) dn))<|dS (fun _ k_=>gT rfl rfl (p_mB rfl dn))<|dB c96 ?_
         refine dS (fun _ k_=>gT rfl rfl (p_fld fl29_3 rfl dn))<|dS (fun _ k_=>gT rfl rfl (p_ld ty26 (aS (S47.atX (i:=1) rfl) k_) rfl rfl dn))<|dS (fun _ k_=>gT rfl rfl (p_mI rfl dn))<|dS (fun _ k_=>gT rfl rfl (p_ixE sc26 h101 (aS (S47.atP (i:=3) rfl) k_).1 rfl rfl rfl dn))<|dS (fun _ k_=>gT rfl rfl (p_ldEA ty67 sz67 rfl h101 (aS (S47.atP (i:=3) rfl) k_).1 rfl dn)) ?_
         refine dS (fun _ k_=>gT rfl rfl (p_fld fl29_3 rfl dn))<|dS (fun _ k_=>gT rfl rfl (p_ld ty26 (aS (S47.atX (i:=1) rfl) k_) rfl rfl dn))<|dS (fun _ k_=>gT rfl rfl (p_mI rfl dn))<|dS (fun _ k_=>gT rfl rfl (p_ixE sc26 h103 (aS (S47.atP (i:=3) rfl) k_).1 rfl rfl rfl dn))<|dS (fun _ k_=>gT rfl rfl (p_ldEA ty67 sz67 rfl h103 (aS (S47.atP (i:=3) rfl) k_).1 rfl dn)) ?_
         refine dS (fun _ k_=>gT rfl rfl (p_cvD (law_clash_ok h105) fu33 rfl))<|dS (fun _ k_=>gT rfl rfl (p_not rfl dn))<|dS (fun _ k_=>gT rfl rfl (p_pkF rfl (rfl:_=B (!r104)) dn))<|dS (fun _ k_=>gT rfl rfl (p_mB rfl dn))<|dB c106<|dS (fun _ k_=>gT rfl rfl (p_mB rfl dn))<|dS (fun _ k_=>gT rfl rfl (p_pkF rfl (rfl:_=B r35.1) dn))<|dS (fun _ k_=>gT rfl rfl (p_pkT rfl (rfl:_=B r35.1) dn)) ?_
         refine dS (fun _ k_=>p_pkF rfl (rfl:_=B r35.1) dn) ?_
         intro w110 k111; have S112:=S47.call k111
         refine wp_nil ?_
         refine c_cond rfl (fun c113=>?_) (fun c113=>?_)
         ·replace H:=condT c113 H
          refine c_seq<|reg<|p_aB rfl<|wp_nil ?_
          obtain rfl:=sJ H
          exact c_ret (rT Tryd.f5 S112.keep rfl rfl)
         ·replace H:=condF c113 H
          refine c_skip ?_
          exact ⟨(),(),_,rfl,⟨rfl,rfl,rfl,rfl,rfl,rfl,rfl,trivial⟩,H,S112⟩
     ·replace H:=condF c89 H
      refine reg_q mixed 51 (by kernel_rfl) ?_
      refine dS (fun _ k_=>p_mI rfl dn)<|dS (fun _ k_=>p_cmp rfl rfl rfl dn)<|dS (fun _ k_=>p_mB rfl dn)<|dB c48<|dS (fun _ k_=>gT rfl rfl (p_mI rfl dn))<|dS (fun _ k_=>gT rfl rfl (p_cmp rfl rfl rfl dn))<|dS (fun _ k_=>gT rfl rfl (p_mB rfl dn))<|dB c52<|dF rfl rfl<|dF rfl rfl<|dF rfl rfl<|dS (fun _ k_=>o_guardU rfl rfl dnU) ?_
      refine dS (fun _ k_=>o_guardU rfl rfl dnU)<|dS (fun _ k_=>o_guardU rfl rfl dnU)<|dS (fun _ k_=>o_guardU rfl rfl dnU)<|dF rfl rfl<|dS (fun _ k_=>gT rfl rfl (p_pkF rfl (rfl:_=B false) dn))<|dS (fun _ k_=>p_pkF rfl (rfl:_=B false) dn)<|dS (fun _ k_=>p_mB rfl dn)<|dS (fun _ k_=>gT rfl rfl (p_mI rfl dn))<|dS (fun _ k_=>gT rfl rfl (p_cmp rfl rfl rfl dn)) ?_
      refine dS (fun _ k_=>gT rfl rfl (p_mB rfl dn))<|dB c89<|dF rfl rfl<|dF rfl rfl<|dF rfl rfl<|dF rfl rfl<|dF rfl rfl<|dF rfl rfl<|dS (fun _ k_=>o_guardU rfl rfl dnU)<|dS (fun _ k_=>o_guardU rfl rfl dnU)<|dS (fun _ k_=>o_guardU rfl rfl dnU)<|dS (fun _ k_=>o_guardU rfl rfl dnU) ?_
      refine dS (fun _ k_=>o_guardU rfl rfl dnU)<|dF rfl rfl<|dF rfl rfl<|dS (fun _ k_=>o_guardU rfl rfl dnU)<|dS (fun _ k_=>o_guardU rfl rfl dnU)<|dS (fun _ k_=>o_guardU rfl rfl dnU)<|dS (fun _ k_=>o_guardU rfl rfl dnU)<|dS (fun _ k_=>o_guardU rfl rfl dnU)<|dS (fun _ k_=>o_guardU rfl rfl dnU)<|dS (fun _ k_=>o_guardU rfl rfl dnU)<|dS (fun _ k_=>o_guardU rfl rfl dnU) ?_
      refine dS (fun _ k_=>o_guardU rfl rfl dnU)<|dS (fun _ k_=>o_guardU rfl rfl dnU)<|dS (fun _ k_=>o_guardU rfl rfl dnU)<|dS (fun _ k_=>o_guardU rfl rfl dnU)<|dF rfl rfl<|dF rfl rfl<|dS (fun _ k_=>o_guardU rfl rfl dnU)<|dF rfl rfl<|dS (fun _ k_=>gT rfl rfl (p_pkF rfl (rfl:_=B false) dn))<|dS (fun _ k_=>p_pkF rfl (rfl:_=B false) dn) ?_
      intro w114 k115; have S116:=S47.call k115
      refine wp_nil<|c_false rfl<|c_skip ?_
      exact ⟨(),(),_,rfl,⟨rfl,rfl,rfl,rfl,rfl,rfl,rfl,trivial⟩,H,S116⟩
  ·intro z_1 y_1 e48 w49 S50; obtain ⟨H,S50⟩:=S50
   unfold law_TicketClash_j1 at H
   refine c_seq<|c_seq<|reg<|p_fld fl29_3 rfl<|p_ld ty26 (S50.atX (i:=1) rfl) rfl rfl<|p_len rfl sc26<|p_cmp rfl rfl rfl<|wp_nil ?_
   refine c_cond rfl (fun c51=>?_) (fun c51=>?_)
   ·replace H:=condT c51 H
    refine c_seq<|reg ?_
    obtain ⟨r52,h53,H⟩:=bindS H
    refine p_cv (law_punched_ok h53 (S50.atP (i:=5) rfl) (S50.atP (i:=6) rfl) (S50.atP (i:=7) rfl)) fu13 rfl S50 fun w54 S55=>p_aB rfl<|wp_nil ?_
    obtain rfl:=sJ H
    exact c_ret (rT Tryd.f5 S55.keep rfl rfl)
   ·replace H:=condF c51 H
    refine c_skip<|c_seq ?_
    obtain ⟨r56,h57,H⟩:=bindS H
    obtain ⟨r58,h59,H⟩:=bindS H
    refine reg_q mixed 14 (by kernel_rfl) ?_
    refine dS (fun _ k_=>p_ixc ar60 rfl rfl (by decide) (by decide) dn)<|dS (fun _ k_=>p_ld ty3 (aS (S50.atX (i:=0) rfl) k_) rfl rfl dn)<|dS (fun _ k_=>p_fld fl29_3 rfl dn)<|dS (fun _ k_=>p_ld ty26 (aS (S50.atX (i:=1) rfl) k_) rfl rfl dn)<|dS (fun _ k_=>p_len rfl sc26 dn)<|dS (fun _ k_=>p_cvD (B_Mod_ok h57) fu19 rfl)<|dS (fun _ k_=>p_ixc ar60 rfl rfl (by decide) (by decide) dn) ?_
    refine dS (fun _ k_=>p_ld ty3 (aS (S50.atX (i:=0) rfl) k_) rfl rfl dn)<|dS (fun _ k_=>p_fld fl29_3 rfl dn)<|dS (fun _ k_=>p_ld ty26 (aS (S50.atX (i:=1) rfl) k_) rfl rfl dn)<|dS (fun _ k_=>p_len rfl sc26 dn)<|dS (fun _ k_=>p_cvD (B_Mod_ok h59) fu19 rfl)<|dS (fun _ k_=>p_aI rfl dn)<|dS (fun _ k_=>p_aI rfl dn) ?_
    intro w60 k61; have S62:=S50.call k61
    refine wp_nil<|c_seq<|c_seq ?_
    rcases bE (decide (r56≥r58)) with c63 | c63
    ·replace H:=condT c63 H
     refine reg_q mixed 17 (by kernel_rfl) ?_
     refine dS (fun _ k_=>p_mI rfl dn)<|dS (fun _ k_=>p_mI rfl dn)<|dS (fun _ k_=>p_cmp rfl rfl rfl dn)<|dS (fun _ k_=>p_mB rfl dn)<|dB c63<|dF rfl rfl<|dF rfl rfl<|dF rfl rfl<|dF rfl rfl<|dF rfl rfl<|dF rfl rfl<|dF rfl rfl<|dF rfl rfl ?_
     refine dF rfl rfl<|dF rfl rfl<|dF rfl rfl<|dF rfl rfl<|dS (fun _ k_=>p_pkT rfl (rfl:_=B true) dn) ?_
     intro w64 k65; have S66:=S62.call k65
     refine wp_nil<|c_true rfl<|c_seq<|reg ?_
     obtain ⟨r67,h68,H⟩:=bindS H
     refine p_cv (law_punched_ok h68 (S66.atP (i:=5) rfl) (S66.atP (i:=6) rfl) (S66.atP (i:=7) rfl)) fu13 rfl S66 fun w69 S70=>p_aB rfl<|wp_nil ?_
     obtain rfl:=sJ H
     exact c_ret (rT Tryd.f5 S70.keep rfl rfl)
    ·replace H:=condF c63 H
     obtain ⟨r71,h72,H⟩:=bindS H
     obtain ⟨r73,h74,H⟩:=bindS H
     obtain ⟨r75,h76,H⟩:=bindS H
     refine reg_q mixed 17 (by kernel_rfl) ?_
     refine dS (fun _ k_=>p_mI rfl dn)<|dS (fun _ k_=>p_mI rfl dn)<|dS (fun _ k_=>p_cmp rfl rfl rfl dn)<|dS (fun _ k_=>p_mB rfl dn)<|dB c63<|dS (fun _ k_=>gT rfl rfl (p_fld fl29_3 rfl dn))<|dS (fun _ k_=>gT rfl rfl (p_ld ty26 (aS (S62.atX (i:=1) rfl) k_) rfl rfl dn))<|dS (fun _ k_=>gT rfl rfl (p_mI rfl dn)) ?_
     refine dS (fun _ k_=>gT rfl rfl (p_ixE sc26 h72 (aS (S62.atP (i:=3) rfl) k_).1 rfl rfl rfl dn))<|dS (fun _ k_=>gT rfl rfl (p_ldEA ty67 sz67 rfl h72 (aS (S62.atP (i:=3) rfl) k_).1 rfl dn))<|dS (fun _ k_=>gT rfl rfl (p_fld fl29_3 rfl dn))<|dS (fun _ k_=>gT rfl rfl (p_ld ty26 (aS (S62.atX (i:=1) rfl) k_) rfl rfl dn))<|dS (fun _ k_=>gT rfl rfl (p_mI rfl dn)) ?_
     refine dS (fun _ k_=>gT rfl rfl (p_ixE sc26 h74 (aS (S62.atP (i:=3) rfl) k_).1 rfl rfl rfl dn))<|dS (fun _ k_=>gT rfl rfl (p_ldEA ty67 sz67 rfl h74 (aS (S62.atP (i:=3) rfl) k_).1 rfl dn))<|dS (fun _ k_=>gT rfl rfl (p_cvD (law_clash_ok h76) fu33 rfl))<|dS (fun _ k_=>gT rfl rfl (p_not rfl dn))<|dS (fun _ k_=>p_pkF rfl (rfl:_=B (!r75)) dn) ?_
     intro w77 k78; have S79:=S62.call k78
     refine wp_nil ?_
     refine c_cond rfl (fun c80=>?_) (fun c80=>?_)
     ·replace H:=condT c80 H
      refine c_seq<|reg ?_
      obtain ⟨r81,h82,H⟩:=bindS H
      refine p_cv (law_punched_ok h82 (S79.atP (i:=5) rfl) (S79.atP (i:=6) rfl) (S79.atP (i:=7) rfl)) fu13 rfl S79 fun w83 S84=>p_aB rfl<|wp_nil ?_
      obtain rfl:=sJ H
      exact c_ret (rT Tryd.f5 S84.keep rfl rfl)
     ·replace H:=condF c80 H
      refine c_skip<|c_seq<|reg<|p_mI rfl<|p_cmp rfl rfl rfl<|p_mB rfl ?_
      rcases bE ((r31.2.2==0)) with c85 | c85
      ·replace H:=condT c85 H
       refine eB c85 ?_
       refine gT rfl rfl (p_mI rfl ?_)
       refine gT rfl rfl (p_mI rfl ?_)
       refine gT rfl rfl<|p_bsl (enc:=intE) (l:=[r56,r58]) I (fun _=>rfl) sc30 in3 intE_len rfl (by decide) (by decide) zr3_2 S79 rfl fun A86 c87 w88 S89=>?_
       refine gT rfl rfl (p_mI rfl ?_)
       refine gT rfl rfl (p_mI rfl ?_)
       refine gT rfl rfl<|p_bsl (enc:=intE) (l:=[r31.1,r31.2.1]) I (fun _=>rfl) sc30 in3 intE_len rfl (by decide) (by decide) zr3_2 S89 rfl fun A91 c92 w93 S94=>?_
       obtain ⟨r96,h97,H⟩:=bindS H
       refine gT rfl rfl (p_cv (B_Before_ok h97 (gr_rd intE_len (S94.atX (i:=1) rfl)) (gr_rd intE_len (S94.atX (i:=0) rfl))) fu34 rfl S94 fun w98 S99=>?_)
       refine gT rfl rfl (p_not rfl ?_)
       refine p_pkT rfl (rfl:_=B (!r96))<|p_mB rfl ?_
       rcases bE (!r96) with c100 | c100
       ·replace H:=condT c100 H
        refine eB c100 ?_
        refine gT rfl rfl (p_mI rfl ?_)
        refine gT rfl rfl (p_cmp rfl rfl rfl ?_)
        refine gT rfl rfl (p_mB rfl ?_)
        rcases bE ((r39.2 != 0)) with c101 | c101
        ·replace H:=condT c101 H
         refine eB c101<|gF rfl rfl<|gF rfl rfl<|gF rfl rfl<|gF rfl rfl ?_
         refine gT rfl rfl (p_pkT rfl (rfl:_=B true) ?_)
         refine gT rfl rfl (p_mB rfl ?_)
         refine gF rfl rfl<|gF rfl rfl<|gF rfl rfl<|gF rfl rfl ?_
         refine gT rfl rfl (p_pkT rfl (rfl:_=B true) ?_)
         refine p_pkT rfl (rfl:_=B true)<|p_mB rfl ?_
         obtain ⟨r102,h103,H⟩:=bindS H
         refine gT rfl rfl (p_cv (law_punched_ok h103 (S99.atP (i:=5) rfl) (S99.atP (i:=6) rfl) (S99.atP (i:=7) rfl)) fu13 rfl S99 fun w104 S105=>?_)
         refine p_pkT rfl (rfl:_=B r102)<|p_aB rfl<|wp_nil ?_
         obtain rfl:=sJ H
         exact c_ret (rT Tryd.f5 S105.keep rfl rfl)
        ·replace H:=condF c101 H
         refine eB c101 ?_
         refine gT rfl rfl (p_mS rfl ?_)
         refine gT rfl rfl (p_mI rfl ?_)
         obtain ⟨r106,h107,H⟩:=bindS H
         refine gT rfl rfl (p_cv (B_At_ok h107 (S99.atP (i:=0) rfl)) fu28 rfl S99 fun w108 S109=>?_)
         refine gT rfl rfl (p_cmp rfl rfl rfl ?_)
         refine gT rfl rfl (p_pkF rfl (rfl:_=B (decide (r106≥0))) ?_)
         refine gT rfl rfl (p_mB rfl ?_)
         rcases bE (decide (r106≥0)) with c110 | c110
         ·replace H:=condT c110 H
          refine eB c110<|gF rfl rfl<|gF rfl rfl<|gF rfl rfl<|gF rfl rfl ?_
          refine gT rfl rfl (p_pkT rfl (rfl:_=B true) ?_)
          refine p_pkT rfl (rfl:_=B true)<|p_mB rfl ?_
          obtain ⟨r111,h112,H⟩:=bindS H
          refine gT rfl rfl (p_cv (law_punched_ok h112 (S109.atP (i:=5) rfl) (S109.atP (i:=6) rfl) (S109.atP (i:=7) rfl)) fu13 rfl S109 fun w113 S114=>?_)
          refine p_pkT rfl (rfl:_=B r111)<|p_aB rfl<|wp_nil ?_
          obtain rfl:=sJ H
          exact c_ret (rT Tryd.f5 S114.keep rfl rfl)
         ·replace H:=condF c110 H
          refine eB c110 ?_
          refine gT rfl rfl (p_mS rfl ?_)
          refine gT rfl rfl (p_mI rfl ?_)
          obtain ⟨r115,h116,H⟩:=bindS H
          refine gT rfl rfl (p_cv (B_At_ok h116 (S109.atP (i:=0) rfl)) fu28 rfl S109 fun w117 S118=>?_)
          refine gT rfl rfl (p_cmp rfl rfl rfl ?_)
          refine gT rfl rfl (p_pkF rfl (rfl:_=B (decide (r115≥0))) ?_)
          refine p_pkT rfl (rfl:_=B (decide (r115≥0)))<|p_mB rfl ?_
          rcases bE (decide (r115≥0)) with c119 | c119
          ·replace H:=condT c119 H
           refine eB c119 ?_
           obtain ⟨r120,h121,H⟩:=bindS H
           refine gT rfl rfl (p_cv (law_punched_ok h121 (S118.atP (i:=5) rfl) (S118.atP (i:=6) rfl) (S118.atP (i:=7) rfl)) fu13 rfl S118 fun w122 S123=>?_)
           refine p_pkT rfl (rfl:_=B r120)<|p_aB rfl<|wp_nil ?_
           obtain rfl:=sJ H
           exact c_ret (rT Tryd.f5 S123.keep rfl rfl)
          ·replace H:=condF c119 H
           refine eB c119<|gF rfl rfl<|p_pkF rfl (rfl:_=B false)<|p_aB rfl<|wp_nil ?_
           obtain rfl:=sJ H
           exact c_ret (rT Tryd.f5 S118.keep rfl rfl)
       ·replace H:=condF c100 H
        refine eB c100<|gF rfl rfl<|gF rfl rfl<|gF rfl rfl ?_
        refine o_guardU rfl rfl ?_
        refine o_guardU rfl rfl ?_
        refine o_guardU rfl rfl ?_
        refine o_guardU rfl rfl ?_
        refine gF rfl rfl<|gF rfl rfl ?_
        refine o_guardU rfl rfl ?_
        refine o_guardU rfl rfl ?_
        refine o_guardU rfl rfl ?_
        refine o_guardU rfl rfl ?_
        refine gF rfl rfl<|p_pkF rfl (rfl:_=B false)<|p_mB rfl<|gF rfl rfl<|p_pkF rfl (rfl:_=B false)<|p_aB rfl<|wp_nil ?_
        obtain rfl:=sJ H
        exact c_ret (rT Tryd.f5 S99.keep rfl rfl)
      ·replace H:=condF c85 H
       refine eB c85<|gF rfl rfl<|gF rfl rfl<|gF rfl rfl<|gF rfl rfl<|gF rfl rfl<|gF rfl rfl<|gF rfl rfl<|gF rfl rfl<|p_pkF rfl (rfl:_=B false)<|p_mB rfl<|gF rfl rfl<|gF rfl rfl<|gF rfl rfl ?_
       refine o_guardU rfl rfl ?_
       refine o_guardU rfl rfl ?_
       refine o_guardU rfl rfl ?_
       refine o_guardU rfl rfl ?_
       refine gF rfl rfl<|gF rfl rfl ?_
       refine o_guardU rfl rfl ?_
       refine o_guardU rfl rfl ?_
       refine o_guardU rfl rfl ?_
       refine o_guardU rfl rfl ?_
       refine gF rfl rfl<|p_pkF rfl (rfl:_=B false)<|p_mB rfl<|gF rfl rfl<|p_pkF rfl (rfl:_=B false)<|p_aB rfl<|wp_nil ?_
       obtain rfl:=sJ H
       exact c_ret (rT Tryd.f5 S79.keep rfl rfl)
end Go.Proofs.YtafhljljfglfeaaDoor
namespace Go.Proofs.YtafhljljfglfeaaDoor
open Go Go.Fx
def NoC (sh:List TicketShow) (i k:Nat):Prop:=∀ x y,sh[i]? =some x→sh[k]? =some y→clashN x y=false
def ClashP (sh:List TicketShow) (r:Int×Int×Int):Prop:=
 (r.2.2=0∧∃ (i k:Nat) (x y:TicketShow),r.1=i∧r.2.1=k∧i < k∧sh[i]? =some x∧sh[k]? =some y∧clashN x y=true∧∀ i' k' :Nat,i' < k' →(i' < i∨(i' =i∧k' < k))→NoC sh i' k')∨
 (r.2.2=4∧r.1=0∧r.2.1=0∧∀ i k:Nat,i < k→NoC sh i k)
theorem clash_law {b:TicketBook} (V:VT b):∃ r,ticket_Clash b=some r∧ClashP b.Shows r:=by
 have sn:=V.sn
 unfold ticket_Clash
 rw [checkT_ok V,Option.bind_some]
 simp only [bne_self_eq_false,cond_false]
 refine loopF_inv (body:=ticket_Clash_l4 b) (fun z:Int=>∃ i:Nat,z=i∧i≤b.Shows.length∧∀ i' k' :Nat,i' < k' →i' < i→NoC b.Shows i' k') (fun z=>b.Shows.length - z.toNat) (fun r=>ClashP b.Shows r) ?_ big 0 ⟨0,rfl,Nat.zero_le _,fun _ _ _ h=>absurd h (Nat.not_lt_zero _)⟩ (by unfold big; simp; omega)
 rintro rec z ⟨i,rfl,hi,hno⟩ ih
 unfold ticket_Clash_l4
 by_cases hlt:i < b.Shows.length
 case neg=>
  rw [decide_eq_false (by omega),cond_false]
  refine ⟨_,rfl,.inr ⟨rfl,rfl,rfl,fun i' k' h x y hx hy=>?_⟩⟩
  have:=(List.getElem?_eq_some_iff.1 hx).1
  exact hno i' k' h (by omega) x y hx hy
 rw [decide_eq_true (by omega),cond_true,wrI (x:=(i:Int)+1) (by omega) (by omega)]
 refine loopF_inv (body:=ticket_Clash_l3 b i rec) (fun z:Int=>∃ k:Nat,z=k∧i < k∧k≤b.Shows.length∧∀ k' :Nat,i < k' →k' < k→NoC b.Shows i k') (fun z=>b.Shows.length - z.toNat) (fun r=>ClashP b.Shows r) ?_ big _ ⟨i+1,by omega,by omega,by omega,fun k' h1 h2=>by omega⟩ (by unfold big; simp; omega)
 rintro rec2 z ⟨k,rfl,hik,hk,hno2⟩ ih2
 unfold ticket_Clash_l3
 by_cases hkl:k < b.Shows.length
 case neg=>
  rw [decide_eq_false (by omega),cond_false,wrI (x:=(i:Int)+1) (by omega) (by omega)]
  refine ih _ ⟨i+1,by omega,by omega,fun i' k' h1 h2=>?_⟩ (by (try simp only); omega)
  by_cases he:i' =i
  ·subst he
   intro x y hx hy
   have:=(List.getElem?_eq_some_iff.1 hy).1
   exact hno2 k' h1 (by omega) x y hx hy
  ·exact hno i' k' h1 (by omega)
 have hx:=List.getElem?_eq_getElem hlt
 have hy:=List.getElem?_eq_getElem hkl
 rw [decide_eq_true (by omega),cond_true,getI_nat,getI_nat,hx,hy,Option.bind_some,Option.bind_some,clash_eq,Option.bind_some]
 cases hc:clashN b.Shows[i] b.Shows[k] with
 | true=>
   rw [cond_true]
   refine ⟨_,rfl,.inl ⟨rfl,i,k,_,_,rfl,rfl,hik,hx,hy,hc,fun i' k' h1 h2=>?_⟩⟩
   rcases h2 with h2 | ⟨rfl,h2⟩
   ·exact hno i' k' h1 h2
   ·exact hno2 k' h1 h2
 | false=>
   rw [cond_false,wrI (x:=(k:Int)+1) (by omega) (by omega)]
   refine ih2 _ ⟨k+1,by omega,by omega,by omega,fun k' h1 h2=>?_⟩ (by (try simp only); omega)
   by_cases he:k' =k
   ·subst he
    intro x y hx' hy'
    rw [hx] at hx'; rw [hy] at hy'
    cases hx'; cases hy'; exact hc
   ·exact hno2 k' h1 (by omega)
theorem lawClash_eq (x y:TicketShow):law_clash x y=some (clashN x y):=by
 unfold law_clash clashN
 cases h1:x.Trip==y.Trip <;> cases h2:x.Ticket==y.Ticket <;> cases h3:x.Walker==y.Walker <;> simp [bne,h1,h2,h3]
theorem no_can {b:TicketBook}{sh:List TicketShow}{bx:List TicketBox}{x y:TicketShow} (hx:x∈sh) (hy:y∈sh) (hc:clashN x y=true):¬CanT b sh bx:=by
 rintro ⟨t,ht⟩
 have:=cl_iff.1 ht.cl x hx y hy
 rw [hc] at this; cases this
theorem law_ticketClash (b:TicketBook) (A:ArgT b) (n:List Int):law_TicketClash b n=some true:=by
 unfold law_TicketClash
 rw [soundT_eq b A,Option.bind_some]
 cases hv:valT b with
 | false=>rw [Bool.not_false,cond_true,punched_t]; rfl
 | true=>
   have V:=valT_iff.1 hv
   have sn:=V.sn
   rw [Bool.not_true,cond_false]
   obtain ⟨⟨f,s,e⟩,hr,hP⟩:=clash_law V
   obtain ⟨is,hR,hI⟩:=right_law V
   obtain ⟨w,ew,hW,hF⟩:=wrong_law V
   rw [hr,Option.bind_some,hR,Option.bind_some,hW,Option.bind_some]
   simp only [bne_self_eq_false,cond_false]
   have tail:law_TicketClash_j1 b n (f,s,e) (w,ew) ()=some true:=by
    unfold law_TicketClash_j1
    by_cases h2:b.Shows.length < 2
    ·rw [decide_eq_true (by omega),cond_true,punched_t]; rfl
    rw [decide_eq_false (by omega),cond_false]
    obtain ⟨i,e1,i0,i1⟩:=mod_ok (aget n 0) b.Shows.length (by omega) (by omega)
    obtain ⟨k,e2,k0,k1⟩:=mod_ok (aget n 1) b.Shows.length (by omega) (by omega)
    rw [e1,Option.bind_some,e2,Option.bind_some]
    by_cases hik:i≥k
    ·rw [decide_eq_true hik,cond_true,punched_t]; rfl
    rw [decide_eq_false hik,cond_false]
    obtain ⟨i,rfl⟩:=Int.eq_ofNat_of_zero_le i0
    obtain ⟨k,rfl⟩:=Int.eq_ofNat_of_zero_le k0
    have hx:=List.getElem?_eq_getElem (show i < b.Shows.length by omega)
    have hy:=List.getElem?_eq_getElem (show k < b.Shows.length by omega)
    rw [getI_nat,getI_nat,hx,hy,Option.bind_some,Option.bind_some,lawClash_eq,Option.bind_some]
    generalize b.Shows[i]=x at hx
    generalize b.Shows[k]=y at hy
    cases hc:clashN x y with
    | false=>rw [Bool.not_false,cond_true,punched_t]; rfl
    | true=>
      rw [Bool.not_true,cond_false]
      rcases hP with ⟨h0,i',k',x',y',g1,g2,g3,g4,g5,g6,g7⟩ | ⟨h0,_,_,hno⟩
      ·simp only at h0 g1 g2
       subst h0; subst g1; subst g2
       simp only [beq_self_eq_true,cond_true]
       obtain ⟨r,hb,hl⟩:=before_iff [(i:Int),(k:Int)] [(i' :Int),(k' :Int)] rfl (by simp)
       rw [hb,Option.bind_some]
       have:r=false:=by
        rw [← Bool.not_eq_true,hl]
        rintro ⟨j,p,q,h1,h2,h3,h4⟩
        match j,h1,h2,h4 with
        | 0,h1,h2,_=>
          simp at h1 h2
          have:=g7 i k (by omega) (.inl (by omega)) x y hx hy
          rw [hc] at this; cases this
        | 1,h1,h2,h4=>
          simp at h1 h2
          have:=h4 0 (by omega)
          simp at this
          have:=g7 i k (by omega) (.inr ⟨by omega,by omega⟩) x y hx hy
          rw [hc] at this; cases this
        | j+2,h1,_,_=>simp at h1
       rw [this,Bool.not_false,cond_true]
       rcases hF with ⟨rfl,F⟩ | ⟨rfl,_,_⟩
       ·simp only [bne_self_eq_false,cond_false]
        have hl:=F.clm.len (by omega)
        have:=V.np
        obtain ⟨r1,a1,a2,a3⟩:=at_loop w i (by omega)
        obtain ⟨r2,b1,b2,b3⟩:=at_loop w k (by omega)
        rw [a1,Option.bind_some]
        by_cases h1:r1≥0
        ·rw [decide_eq_true h1,cond_true,punched_t]; rfl
        rw [decide_eq_false h1,cond_false,b1,Option.bind_some]
        by_cases h2:r2≥0
        ·rw [decide_eq_true h2,cond_true,punched_t]; rfl
        exfalso
        have m1:x∈outS b (inL w):=mem_kept.2 ⟨i,hx,decide_eq_false (a3.1 (by omega))⟩
        have m2:y∈outS b (inL w):=mem_kept.2 ⟨k,hy,decide_eq_false (b3.1 (by omega))⟩
        exact no_can m1 m2 hc F.can
       ·rw [show ((102:Int) != 0)=true from rfl,cond_true,punched_t]; rfl
      ·exact absurd (hno i k (by omega) x y hx hy) (by rw [hc]; simp)
   rcases hP with ⟨h0,i',k',x',y',g1,g2,g3,g4,g5,g6,g7⟩ | ⟨h0,g1,g2,hno⟩
   ·simp only at h0 g1 g2
    subst h0; subst g1; subst g2
    have hk:=(List.getElem?_eq_some_iff.1 g5).1
    simp only [bne_self_eq_false,cond_false,beq_self_eq_true,cond_true]
    rw [inside_eq,Option.bind_some,wrI (x:=(k' :Int) - 1) (by omega) (by omega),inB_iff.2 (by omega),Bool.not_true,cond_false,decide_eq_false (by omega),cond_false,getI_nat,getI_nat,g4,g5,Option.bind_some,Option.bind_some,lawClash_eq,Option.bind_some,g6,Bool.not_true,cond_false]
    have:is=false:=by
     rw [← Bool.not_eq_true,hI]
     exact no_can (List.mem_of_getElem? g4) (List.mem_of_getElem? g5) g6
    rw [this,cond_false]
    exact tail
   ·simp only at h0 g1 g2
    subst h0; subst g1; subst g2
    simp only [show ((4:Int) != 0)=true from rfl,show ((4:Int) != 4)=false from rfl,show ((4:Int)==0)=false from rfl,cond_true,cond_false]
    rw [show (wr ((0:Int)+0) != 0)=false by decide,cond_false]
    exact tail
end Go.Proofs.YtafhljljfglfeaaDoor
/- What the functions of the program compute, and that they do, printed by a program of mine. -/
import Derived.Test.YtafhljljfglfeaaGreatDoorZWE
import Derived.KernelRfl
set_option linter.unusedVariables false
set_option linter.unusedSimpArgs false
namespace Go.Proofs.YtafhljljfglfeaaGreatDoor
open Go Go.Fx Go.Proofs
set_option maxHeartbeats 10000000 in
set_option maxRecDepth 100000 in
theorem law_punched_ok {w:World}{r:Bool} (H:law_punched=some r) (hg1:(gW0).ok w) (hg2:(gW1).ok w) (hg3:(gW2).ok w):Calls Tryz.prog 9 #[] w (RetV w (B r)):=by
 unfold law_punched at H
 refine fn_of (n:=142) Tryz.func9 rfl rfl (lE rfl) ?_
 have S:=St.start w nF _ (cA hg1 (cA hg2 (cA hg3 nM)))
 refine c_seq<|reg<|p_aB rfl<|wp_nil<|c_seq<|reg ?_
 obtain ⟨r4,h5,H⟩:=bindS H
 refine p_cal (law_own_ok h5) fu28 rfl ?_
 rintro _ w6 ⟨A8,c9,A10,c11,A12,c13,A14,c15,rfl,k7,⟨o16,n17⟩,⟨o18,n19⟩,⟨o20,n21⟩,⟨o22,n23⟩,j24,j25,j26,j27,j28,j29,_⟩
 have S34:=S.callMo k7 [gr eTallyCount 7 106 A8 c9 r4.Tally.Counts,gr eTicketSeason 2 84 A10 c11 r4.Tickets,gr eTicketShow 3 86 A12 c13 r4.Shows,gr eTicketBox 4 39 A14 c15 r4.Boxes] [] (cA ⟨o16,n17⟩ (cA ⟨o18,n19⟩ (cA ⟨o20,n21⟩ (cA ⟨o22,n23⟩ nM)))) (pC (cA j24 (cA j25 (cA j26 nM))) (pC (cA j27 (cA j28 nM)) (pC (cA j29 nM) (pC nM List.Pairwise.nil)))) nM (cA nM (cA nM (cA nM (cA nM nM))))
 obtain ⟨r35,h36,H⟩:=bindS H
 refine p_cv (ticket_Paid_ok h36 (gr_rd eTallyCount_len (S34.atX (i:=0) rfl)) (gr_rd eTicketSeason_len (S34.atX (i:=1) rfl)) (gr_rd eTicketShow_len (S34.atX (i:=2) rfl)) (gr_rd eTicketBox_len (S34.atX (i:=3) rfl)) (S34.atP (i:=0) rfl) (S34.atP (i:=2) rfl)) fu20 rfl S34 fun w37 S38=>?_
 try clear S34
 refine p_mT rfl<|p_ext rfl rfl<|p_ext rfl rfl<|p_allA in51 S38 fun b39 w40 S41=>?_
 try clear S38
 refine p_stP (pre:=[]) (old:=[I 0,I 0]) (post:=[]) (vs:=[I r35.1.Low,I r35.1.High]) sz51 S41 (i:=0) rfl rfl rfl rfl (rfl:_=AG [I r35.1.Low,I r35.1.High]) rfl rfl rfl rfl fun w42 S43=>?_
 try clear S41
 refine p_aI rfl<|wp_nil ?_
 have S44:St w nF w42 [bl b39 [I r35.1.Low,I r35.1.High] 51] [gW0,gW1,gW2]:=S43.pk [0] (by decide) [0,1,2] rfl rfl
 try clear S43
 refine c_seq<|reg ?_
 obtain ⟨r45,h46,H⟩:=bindS H
 refine p_cal (law_own_ok h46) fu28 rfl ?_
 rintro _ w47 ⟨A49,c50,A51,c52,A53,c54,A55,c56,rfl,k48,⟨o57,n58⟩,⟨o59,n60⟩,⟨o61,n62⟩,⟨o63,n64⟩,j65,j66,j67,j68,j69,j70,_⟩
 have S75:=S44.callMo k48 [gr eTallyCount 7 106 A49 c50 r45.Tally.Counts,gr eTicketSeason 2 84 A51 c52 r45.Tickets,gr eTicketShow 3 86 A53 c54 r45.Shows,gr eTicketBox 4 39 A55 c56 r45.Boxes] [] (cA ⟨o57,n58⟩ (cA ⟨o59,n60⟩ (cA ⟨o61,n62⟩ (cA ⟨o63,n64⟩ nM)))) (pC (cA j65 (cA j66 (cA j67 nM))) (pC (cA j68 (cA j69 nM)) (pC (cA j70 nM) (pC nM List.Pairwise.nil)))) nM (cA nM (cA nM (cA nM (cA nM nM))))
 try clear S44
 obtain ⟨r76,h77,H⟩:=bindS H
 refine p_cv (ticket_Saved_ok h77 (gr_rd eTallyCount_len (S75.atX (i:=0) rfl)) (gr_rd eTicketSeason_len (S75.atX (i:=1) rfl)) (gr_rd eTicketShow_len (S75.atX (i:=2) rfl)) (gr_rd eTicketBox_len (S75.atX (i:=3) rfl)) (S75.atP (i:=0) rfl) (S75.atP (i:=2) rfl)) fu22 rfl S75 fun w78 S79=>?_
 try clear S75
 refine p_mT rfl<|p_ext rfl rfl<|p_ext rfl rfl<|p_allA in51 S79 fun b80 w81 S82=>?_
 try clear S79
 refine p_stP (pre:=[]) (old:=[I 0,I 0]) (post:=[]) (vs:=[I r76.1.Low,I r76.1.High]) sz51 S82 (i:=0) rfl rfl rfl rfl (rfl:_=AG [I r76.1.Low,I r76.1.High]) rfl rfl rfl rfl fun w83 S84=>?_
 try clear S82
 refine p_aI rfl<|wp_nil ?_
 have S85:St w nF w83 [bl b80 [I r76.1.Low,I r76.1.High] 51,bl b39 [I r35.1.Low,I r35.1.High] 51] [gW0,gW1,gW2]:=S84.pk [0,5] (by decide) [0,1,2] rfl rfl
 try clear S84
 refine c_seq<|reg ?_
 obtain ⟨r86,h87,H⟩:=bindS H
 refine p_cal (law_own_ok h87) fu28 rfl ?_
 rintro _ w88 ⟨A90,c91,A92,c93,A94,c95,A96,c97,rfl,k89,⟨o98,n99⟩,⟨o100,n101⟩,⟨o102,n103⟩,⟨o104,n105⟩,j106,j107,j108,j109,j110,j111,_⟩
 have S116:=S85.callMo k89 [gr eTallyCount 7 106 A90 c91 r86.Tally.Counts,gr eTicketSeason 2 84 A92 c93 r86.Tickets,gr eTicketShow 3 86 A94 c95 r86.Shows,gr eTicketBox 4 39 A96 c97 r86.Boxes] [] (cA ⟨o98,n99⟩ (cA ⟨o100,n101⟩ (cA ⟨o102,n103⟩ (cA ⟨o104,n105⟩ nM)))) (pC (cA j106 (cA j107 (cA j108 nM))) (pC (cA j109 (cA j110 nM)) (pC (cA j111 nM) (pC nM List.Pairwise.nil)))) nM (cA nM (cA nM (cA nM (cA nM nM))))
 try clear S85
 obtain ⟨r117,h118,H⟩:=bindS H
 refine p_cal (ticket_Must_ok h118 (gr_rd eTallyCount_len (S116.atX (i:=0) rfl)) (gr_rd eTicketSeason_len (S116.atX (i:=1) rfl)) (gr_rd eTicketShow_len (S116.atX (i:=2) rfl)) (gr_rd eTicketBox_len (S116.atX (i:=3) rfl)) (S116.atP (i:=0) rfl) (S116.atP (i:=1) rfl) (S116.atP (i:=2) rfl)) fu29 rfl ?_
 rintro _ w119 ⟨A121,c122,rfl,k120,⟨o123,n124⟩,_⟩
 have S125:=S116.callN k120 [rd intE 1 A121 c122 r117.1] (cA ⟨o123,New.inL n124⟩ nM)
 try clear S116
 refine p_mT rfl<|p_ext rfl rfl<|p_ext rfl rfl<|p_aS rfl<|p_aI rfl<|wp_nil ?_
 have S126:St w nF w119 [bl b80 [I r76.1.Low,I r76.1.High] 51,bl b39 [I r35.1.Low,I r35.1.High] 51] [rd intE 1 A121 c122 r117.1,gW0,gW1,gW2]:=S125.pk [4,5] (by decide) [0,1,2,3] rfl rfl
 try clear S125
 refine c_seq<|reg ?_
 obtain ⟨r127,h128,H⟩:=bindS H
 refine p_cal (law_own_ok h128) fu28 rfl ?_
 rintro _ w129 ⟨A131,c132,A133,c134,A135,c136,A137,c138,rfl,k130,⟨o139,n140⟩,⟨o141,n142⟩,⟨o143,n144⟩,⟨o145,n146⟩,j147,j148,j149,j150,j151,j152,_⟩
 have S157:=S126.callMo k130 [gr eTallyCount 7 106 A131 c132 r127.Tally.Counts,gr eTicketSeason 2 84 A133 c134 r127.Tickets,gr eTicketShow 3 86 A135 c136 r127.Shows,gr eTicketBox 4 39 A137 c138 r127.Boxes] [] (cA ⟨o139,n140⟩ (cA ⟨o141,n142⟩ (cA ⟨o143,n144⟩ (cA ⟨o145,n146⟩ nM)))) (pC (cA j147 (cA j148 (cA j149 nM))) (pC (cA j150 (cA j151 nM)) (pC (cA j152 nM) (pC nM List.Pairwise.nil)))) nM (cA nM (cA nM (cA nM (cA nM nM))))
 try clear S126
 obtain ⟨r158,h159,H⟩:=bindS H
 refine p_cal (ticket_May_ok h159 (gr_rd eTallyCount_len (S157.atX (i:=0) rfl)) (gr_rd eTicketSeason_len (S157.atX (i:=1) rfl)) (gr_rd eTicketShow_len (S157.atX (i:=2) rfl)) (gr_rd eTicketBox_len (S157.atX (i:=3) rfl)) (S157.atP (i:=1) rfl) (S157.atP (i:=2) rfl) (S157.atP (i:=3) rfl)) fu30 rfl ?_
 rintro _ w160 ⟨A162,c163,rfl,k161,⟨o164,n165⟩,_⟩
 have S166:=S157.callN k161 [rd intE 1 A162 c163 r158.1] (cA ⟨o164,New.inL n165⟩ nM)
 try clear S157
 refine p_mT rfl<|p_ext rfl rfl<|p_ext rfl rfl<|p_aS rfl<|p_aI rfl<|wp_nil ?_
 have S167:St w nF w160 [bl b80 [I r76.1.Low,I r76.1.High] 51,bl b39 [I r35.1.Low,I r35.1.High] 51] [rd intE 1 A162 c163 r158.1,rd intE 1 A121 c122 r117.1,gW0,gW1,gW2]:=S166.pk [4,5] (by decide) [0,1,2,3,4] rfl rfl
 try clear S166
 refine c_seq<|reg ?_
 obtain ⟨r168,h169,H⟩:=bindS H
 refine p_cal (law_own_ok h169) fu28 rfl ?_
 rintro _ w170 ⟨A172,c173,A174,c175,A176,c177,A178,c179,rfl,k171,⟨o180,n181⟩,⟨o182,n183⟩,⟨o184,n185⟩,⟨o186,n187⟩,j188,j189,j190,j191,j192,j193,_⟩
 have S198:=S167.callMo k171 [gr eTallyCount 7 106 A172 c173 r168.Tally.Counts,gr eTicketSeason 2 84 A174 c175 r168.Tickets,gr eTicketShow 3 86 A176 c177 r168.Shows,gr eTicketBox 4 39 A178 c179 r168.Boxes] [] (cA ⟨o180,n181⟩ (cA ⟨o182,n183⟩ (cA ⟨o184,n185⟩ (cA ⟨o186,n187⟩ nM)))) (pC (cA j188 (cA j189 (cA j190 nM))) (pC (cA j191 (cA j192 nM)) (pC (cA j193 nM) (pC nM List.Pairwise.nil)))) nM (cA nM (cA nM (cA nM (cA nM nM))))
 try clear S167
 obtain ⟨r199,h200,H⟩:=bindS H
 refine p_cal (ticket_Lent_ok h200 (gr_rd eTallyCount_len (S198.atX (i:=0) rfl)) (gr_rd eTicketSeason_len (S198.atX (i:=1) rfl)) (gr_rd eTicketShow_len (S198.atX (i:=2) rfl)) (gr_rd eTicketBox_len (S198.atX (i:=3) rfl)) (S198.atP (i:=2) rfl) (S198.atP (i:=4) rfl)) fu31 rfl ?_
 rintro _ w201 ⟨A203,c204,rfl,k202,⟨o205,n206⟩,_⟩
 have S207:=S198.callN k202 [rd intE 1 A203 c204 r199.1] (cA ⟨o205,New.inL n206⟩ nM)
 try clear S198
 refine p_mT rfl<|p_ext rfl rfl<|p_ext rfl rfl<|p_aS rfl<|p_aI rfl<|wp_nil ?_
 have S208:St w nF w201 [bl b80 [I r76.1.Low,I r76.1.High] 51,bl b39 [I r35.1.Low,I r35.1.High] 51] [rd intE 1 A203 c204 r199.1,rd intE 1 A162 c163 r158.1,rd intE 1 A121 c122 r117.1,gW0,gW1,gW2]:=S207.pk [4,5] (by decide) [0,1,2,3,4,5] rfl rfl
 try clear S207
 refine c_seq<|c_seq ?_
 rcases bE ((r35.2 != 0)) with c211 | c211
 ·replace H:=condT c211 H
  refine reg_q mixed 46 (by kernel_rfl) ?_
  refine dS (fun _ k_=>p_mI rfl dn)<|dS (fun _ k_=>p_cmp rfl rfl rfl dn)<|dS (fun _ k_=>p_mB rfl dn)<|dB c211<|dF rfl rfl<|dF rfl rfl<|dS (fun _ k_=>p_pkT rfl (rfl:_=B true) dn)<|dS (fun _ k_=>p_mB rfl dn)<|dF rfl rfl<|dF rfl rfl<|dS (fun _ k_=>p_pkT rfl (rfl:_=B true) dn)<|dS (fun _ k_=>p_mB rfl dn) ?_
  refine dF rfl rfl<|dF rfl rfl<|dS (fun _ k_=>p_pkT rfl (rfl:_=B true) dn)<|dS (fun _ k_=>p_mB rfl dn)<|dF rfl rfl<|dF rfl rfl<|dS (fun _ k_=>p_pkT rfl (rfl:_=B true) dn)<|dS (fun _ k_=>p_mB rfl dn)<|dF rfl rfl<|dF rfl rfl<|dF rfl rfl ?_
  refine dS (fun _ k_=>p_pkT rfl (rfl:_=B true) dn)<|dS (fun _ k_=>p_mB rfl dn)<|dF rfl rfl<|dF rfl rfl<|dF rfl rfl<|dS (fun _ k_=>p_pkT rfl (rfl:_=B true) dn)<|dS (fun _ k_=>p_mB rfl dn)<|dF rfl rfl<|dF rfl rfl<|dF rfl rfl<|dF rfl rfl ?_
  refine dS (fun _ k_=>p_pkT rfl (rfl:_=B true) dn)<|dS (fun _ k_=>p_mB rfl dn)<|dF rfl rfl<|dF rfl rfl<|dF rfl rfl<|dF rfl rfl<|dS (fun _ k_=>p_pkT rfl (rfl:_=B true) dn)<|dS (fun _ k_=>p_mB rfl dn)<|dF rfl rfl<|dF rfl rfl<|dF rfl rfl<|dF rfl rfl ?_
  refine dS (fun _ k_=>p_pkT rfl (rfl:_=B true) dn) ?_
  intro w212 k213; have S214:=S208.call k213
  refine wp_nil ?_
  have S215:St w nF w212 [] [gW0,gW1,gW2]:=S214.pk [] (by decide) [3,4,5] rfl rfl
  try clear S214
  refine c_true rfl<|c_seq<|reg<|p_aB rfl<|wp_nil ?_
  obtain rfl:=sJ H
  exact c_ret (rT Tryz.f9 S215.keep rfl rfl)
 ·replace H:=condF c211 H
  rcases bE ((r76.2 != 0)) with c222 | c222
  ·replace H:=condT c222 H
   refine reg_q mixed 46 (by kernel_rfl) ?_
   refine dS (fun _ k_=>p_mI rfl dn)<|dS (fun _ k_=>p_cmp rfl rfl rfl dn)<|dS (fun _ k_=>p_mB rfl dn)<|dB c211<|dS (fun _ k_=>gT rfl rfl (p_mI rfl dn))<|dS (fun _ k_=>gT rfl rfl (p_cmp rfl rfl rfl dn))<|dS (fun _ k_=>p_pkF rfl (rfl:_=B (r76.2 != 0)) dn)<|dS (fun _ k_=>p_mB rfl dn)<|dB c222<|dF rfl rfl<|dF rfl rfl<|dS (fun _ k_=>p_pkT rfl (rfl:_=B true) dn) ?_
   refine dS (fun _ k_=>p_mB rfl dn)<|dF rfl rfl<|dF rfl rfl<|dS (fun _ k_=>p_pkT rfl (rfl:_=B true) dn)<|dS (fun _ k_=>p_mB rfl dn)<|dF rfl rfl<|dF rfl rfl<|dS (fun _ k_=>p_pkT rfl (rfl:_=B true) dn)<|dS (fun _ k_=>p_mB rfl dn)<|dF rfl rfl<|dF rfl rfl<|dF rfl rfl ?_
   refine dS (fun _ k_=>p_pkT rfl (rfl:_=B true) dn)<|dS (fun _ k_=>p_mB rfl dn)<|dF rfl rfl<|dF rfl rfl<|dF rfl rfl<|dS (fun _ k_=>p_pkT rfl (rfl:_=B true) dn)<|dS (fun _ k_=>p_mB rfl dn)<|dF rfl rfl<|dF rfl rfl<|dF rfl rfl<|dF rfl rfl ?_
   refine dS (fun _ k_=>p_pkT rfl (rfl:_=B true) dn)<|dS (fun _ k_=>p_mB rfl dn)<|dF rfl rfl<|dF rfl rfl<|dF rfl rfl<|dF rfl rfl<|dS (fun _ k_=>p_pkT rfl (rfl:_=B true) dn)<|dS (fun _ k_=>p_mB rfl dn)<|dF rfl rfl<|dF rfl rfl<|dF rfl rfl<|dF rfl rfl ?_
   refine dS (fun _ k_=>p_pkT rfl (rfl:_=B true) dn) ?_
   intro w223 k224; have S225:=S208.call k224
   refine wp_nil ?_
   have S226:St w nF w223 [] [gW0,gW1,gW2]:=S225.pk [] (by decide) [3,4,5] rfl rfl
   try clear S225
   refine c_true rfl<|c_seq<|reg<|p_aB rfl<|wp_nil ?_
   obtain rfl:=sJ H
   exact c_ret (rT Tryz.f9 S226.keep rfl rfl)
  ·replace H:=condF c222 H
   rcases bE ((r117.2 != 0)) with c233 | c233
   ·replace H:=condT c233 H
    refine reg_q mixed 46 (by kernel_rfl) ?_
    refine dS (fun _ k_=>p_mI rfl dn)<|dS (fun _ k_=>p_cmp rfl rfl rfl dn)<|dS (fun _ k_=>p_mB rfl dn)<|dB c211<|dS (fun _ k_=>gT rfl rfl (p_mI rfl dn))<|dS (fun _ k_=>gT rfl rfl (p_cmp rfl rfl rfl dn))<|dS (fun _ k_=>p_pkF rfl (rfl:_=B (r76.2 != 0)) dn)<|dS (fun _ k_=>p_mB rfl dn)<|dB c222<|dS (fun _ k_=>gT rfl rfl (p_mI rfl dn))<|dS (fun _ k_=>gT rfl rfl (p_cmp rfl rfl rfl dn)) ?_
    refine dS (fun _ k_=>p_pkF rfl (rfl:_=B (r117.2 != 0)) dn)<|dS (fun _ k_=>p_mB rfl dn)<|dB c233<|dF rfl rfl<|dF rfl rfl<|dS (fun _ k_=>p_pkT rfl (rfl:_=B true) dn)<|dS (fun _ k_=>p_mB rfl dn)<|dF rfl rfl<|dF rfl rfl<|dS (fun _ k_=>p_pkT rfl (rfl:_=B true) dn)<|dS (fun _ k_=>p_mB rfl dn)<|dF rfl rfl ?_
    refine dF rfl rfl<|dF rfl rfl<|dS (fun _ k_=>p_pkT rfl (rfl:_=B true) dn)<|dS (fun _ k_=>p_mB rfl dn)<|dF rfl rfl<|dF rfl rfl<|dF rfl rfl<|dS (fun _ k_=>p_pkT rfl (rfl:_=B true) dn)<|dS (fun _ k_=>p_mB rfl dn)<|dF rfl rfl<|dF rfl rfl<|dF rfl rfl ?_
    refine dF rfl rfl<|dS (fun _ k_=>p_pkT rfl (rfl:_=B true) dn)<|dS (fun _ k_=>p_mB rfl dn)<|dF rfl rfl<|dF rfl rfl<|dF rfl rfl<|dF rfl rfl<|dS (fun _ k_=>p_pkT rfl (rfl:_=B true) dn)<|dS (fun _ k_=>p_mB rfl dn)<|dF rfl rfl<|dF rfl rfl<|dF rfl rfl ?_
    refine dF rfl rfl<|dS (fun _ k_=>p_pkT rfl (rfl:_=B true) dn) ?_
    intro w234 k235; have S236:=S208.call k235
    refine wp_nil ?_
    have S237:St w nF w234 [] [gW0,gW1,gW2]:=S236.pk [] (by decide) [3,4,5] rfl rfl
    try clear S236
    refine c_true rfl<|c_seq<|reg<|p_aB rfl<|wp_nil ?_
    obtain rfl:=sJ H
    exact c_ret (rT Tryz.f9 S237.keep rfl rfl)
   ·replace H:=condF c233 H
    rcases bE ((r158.2 != 0)) with c244 | c244
    ·replace H:=condT c244 H
     refine reg_q mixed 46 (by kernel_rfl) ?_
     refine dS (fun _ k_=>p_mI rfl dn)<|dS (fun _ k_=>p_cmp rfl rfl rfl dn)<|dS (fun _ k_=>p_mB rfl dn)<|dB c211<|dS (fun _ k_=>gT rfl rfl (p_mI rfl dn))<|dS (fun _ k_=>gT rfl rfl (p_cmp rfl rfl rfl dn))<|dS (fun _ k_=>p_pkF rfl (rfl:_=B (r76.2 != 0)) dn)<|dS (fun _ k_=>p_mB rfl dn)<|dB c222<|dS (fun _ k_=>gT rfl rfl (p_mI rfl dn))<|dS (fun _ k_=>gT rfl rfl (p_cmp rfl rfl rfl dn)) ?_
     refine dS (fun _ k_=>p_pkF rfl (rfl:_=B (r117.2 != 0)) dn)<|dS (fun _ k_=>p_mB rfl dn)<|dB c233<|dS (fun _ k_=>gT rfl rfl (p_mI rfl dn))<|dS (fun _ k_=>gT rfl rfl (p_cmp rfl rfl rfl dn))<|dS (fun _ k_=>p_pkF rfl (rfl:_=B (r158.2 != 0)) dn)<|dS (fun _ k_=>p_mB rfl dn)<|dB c244<|dF rfl rfl<|dF rfl rfl<|dS (fun _ k_=>p_pkT rfl (rfl:_=B true) dn) ?_
     refine dS (fun _ k_=>p_mB rfl dn)<|dF rfl rfl<|dF rfl rfl<|dF rfl rfl<|dS (fun _ k_=>p_pkT rfl (rfl:_=B true) dn)<|dS (fun _ k_=>p_mB rfl dn)<|dF rfl rfl<|dF rfl rfl<|dF rfl rfl<|dS (fun _ k_=>p_pkT rfl (rfl:_=B true) dn)<|dS (fun _ k_=>p_mB rfl dn)<|dF rfl rfl ?_
     refine dF rfl rfl<|dF rfl rfl<|dF rfl rfl<|dS (fun _ k_=>p_pkT rfl (rfl:_=B true) dn)<|dS (fun _ k_=>p_mB rfl dn)<|dF rfl rfl<|dF rfl rfl<|dF rfl rfl<|dF rfl rfl<|dS (fun _ k_=>p_pkT rfl (rfl:_=B true) dn)<|dS (fun _ k_=>p_mB rfl dn)<|dF rfl rfl ?_
     refine dF rfl rfl<|dF rfl rfl<|dF rfl rfl<|dS (fun _ k_=>p_pkT rfl (rfl:_=B true) dn) ?_
     intro w245 k246; have S247:=S208.call k246
     refine wp_nil ?_
     have S248:St w nF w245 [] [gW0,gW1,gW2]:=S247.pk [] (by decide) [3,4,5] rfl rfl
     try clear S247
     refine c_true rfl<|c_seq<|reg<|p_aB rfl<|wp_nil ?_
     obtain rfl:=sJ H
     exact c_ret (rT Tryz.f9 S248.keep rfl rfl)
    ·replace H:=condF c244 H
     rcases bE ((r199.2 != 0)) with c255 | c255
     ·replace H:=condT c255 H
      refine reg_q mixed 46 (by kernel_rfl) ?_
      refine dS (fun _ k_=>p_mI rfl dn)<|dS (fun _ k_=>p_cmp rfl rfl rfl dn)<|dS (fun _ k_=>p_mB rfl dn)<|dB c211<|dS (fun _ k_=>gT rfl rfl (p_mI rfl dn))<|dS (fun _ k_=>gT rfl rfl (p_cmp rfl rfl rfl dn))<|dS (fun _ k_=>p_pkF rfl (rfl:_=B (r76.2 != 0)) dn)<|dS (fun _ k_=>p_mB rfl dn)<|dB c222<|dS (fun _ k_=>gT rfl rfl (p_mI rfl dn))<|dS (fun _ k_=>gT rfl rfl (p_cmp rfl rfl rfl dn)) ?_
      refine dS (fun _ k_=>p_pkF rfl (rfl:_=B (r117.2 != 0)) dn)<|dS (fun _ k_=>p_mB rfl dn)<|dB c233<|dS (fun _ k_=>gT rfl rfl (p_mI rfl dn))<|dS (fun _ k_=>gT rfl rfl (p_cmp rfl rfl rfl dn))<|dS (fun _ k_=>p_pkF rfl (rfl:_=B (r158.2 != 0)) dn)<|dS (fun _ k_=>p_mB rfl dn)<|dB c244<|dS (fun _ k_=>gT rfl rfl (p_mI rfl dn))<|dS (fun _ k_=>gT rfl rfl (p_cmp rfl rfl rfl dn)) ?_
      refine dS (fun _ k_=>p_pkF rfl (rfl:_=B (r199.2 != 0)) dn)<|dS (fun _ k_=>p_mB rfl dn)<|dB c255<|dF rfl rfl<|dF rfl rfl<|dF rfl rfl<|dS (fun _ k_=>p_pkT rfl (rfl:_=B true) dn)<|dS (fun _ k_=>p_mB rfl dn)<|dF rfl rfl<|dF rfl rfl<|dF rfl rfl ?_
      refine dS (fun _ k_=>p_pkT rfl (rfl:_=B true) dn)<|dS (fun _ k_=>p_mB rfl dn)<|dF rfl rfl<|dF rfl rfl<|dF rfl rfl<|dF rfl rfl<|dS (fun _ k_=>p_pkT rfl (rfl:_=B true) dn)<|dS (fun _ k_=>p_mB rfl dn)<|dF rfl rfl<|dF rfl rfl<|dF rfl rfl<|dF rfl rfl ?_
      refine dS (fun _ k_=>p_pkT rfl (rfl:_=B true) dn)<|dS (fun _ k_=>p_mB rfl dn)<|dF rfl rfl<|dF rfl rfl<|dF rfl rfl<|dF rfl rfl<|dS (fun _ k_=>p_pkT rfl (rfl:_=B true) dn) ?_
      intro w256 k257; have S258:=S208.call k257
      refine wp_nil ?_
      have S259:St w nF w256 [] [gW0,gW1,gW2]:=S258.pk [] (by decide) [3,4,5] rfl rfl
      try clear S258
      refine c_true rfl<|c_seq<|reg<|p_aB rfl<|wp_nil ?_
      obtain rfl:=sJ H
      exact c_ret (rT Tryz.f9 S259.keep rfl rfl)
     ·replace H:=condF c255 H
      obtain ⟨r262,h263,H⟩:=bindS H
      rcases bE (!((r35.1.Low==r262.Low)&&(r35.1.High==r262.High))) with c272 | c272
      ·replace H:=condT c272 H
       have A_:∀ {w_:World},Keep0 w201 w_→St w_ nF w_ [] [bl b80 [I r76.1.Low,I r76.1.High] 51,bl b39 [I r35.1.Low,I r35.1.High] 51,rd intE 1 A203 c204 r199.1,rd intE 1 A162 c163 r158.1,rd intE 1 A121 c122 r117.1,gW0,gW1,gW2]:=fun k_=>S208.asP k_
       refine reg_any mixed 46 (by kernel_rfl) [rv (I r35.2),rv (B (r35.2 != 0)),rv (B false),rv (I r76.2),rv (B (r76.2 != 0)),rv (B (r76.2 != 0)),rv (B false),rv (I r117.2),rv (B (r117.2 != 0)),rv (B (r117.2 != 0)),rv (B false),rv (I r158.2),rv (B (r158.2 != 0)),rv (B (r158.2 != 0)),rv (B false),rv (I r199.2),rv (B (r199.2 != 0)),rv (B (r199.2 != 0)),rv (B false),rv (AG [I r35.1.Low,I r35.1.High]),rv (AG [I r262.Low,I r262.High]),rv (B (!((r35.1.Low==r262.Low)&&(r35.1.High==r262.High)))),rv (B (!((r35.1.Low==r262.Low)&&(r35.1.High==r262.High)))),rv (B true),rv (undef),rv (undef),rv (undef),rv (B true),rv (B true),rv (undef),rv (undef),rv (undef),rv (undef),rv (B true),rv (B true),rv (undef),rv (undef),rv (undef),rv (undef),rv (B true),rv (B true),rv (undef),rv (undef),rv (undef),rv (undef),rv (B true)] [[],[],[],[],[],[],[],[],[],[],[],[],[],[],[],[],[],[],[],[],[],[],[],[],[],[],[],[],[],[],[],[],[],[],[],[],[],[],[],[],[],[],[],[],[],[]] rfl (by kernel_rfl) [[],[0],[0,1],[0,1,2],[0,1,2,3],[0,1,2,3,4],[0,1,2,3,4,5],[0,1,2,3,4,5,6],[0,1,2,3,4,5,6,7],[0,1,2,3,4,5,6,7,8],[0,1,2,3,4,5,6,7,8,9],[0,1,2,3,4,5,6,7,8,9,10],[0,1,2,3,4,5,6,7,8,9,10,11],[0,1,2,3,4,5,6,7,8,9,10,11,12],[0,1,2,3,4,5,6,7,8,9,10,11,12,13],[0,1,2,3,4,5,6,7,8,9,10,11,12,13,14],[0,1,2,3,4,5,6,7,8,9,10,11,12,13,14,15],[0,1,2,3,4,5,6,7,8,9,10,11,12,13,14,15,16],[0,1,2,3,4,5,6,7,8,9,10,11,12,13,14,15,16,17],[0,1,2,3,4,5,6,7,8,9,10,11,12,13,14,15,16,17,18],[0,1,2,3,4,5,6,7,8,9,10,11,12,13,14,15,16,17,18],[0,1,2,3,4,5,6,7,8,9,10,11,12,13,14,15,16,17,18,19,20],[0,1,2,3,4,5,6,7,8,9,10,11,12,13,14,15,16,17,18,19,20,21],[0,1,2,3,4,5,6,7,8,9,10,11,12,13,14,15,16,17,18,19,20,21,22],[0,1,2,3,4,5,6,7,8,9,10,11,12,13,14,15,16,17,18,19,20,21,22,23],[0,1,2,3,4,5,6,7,8,9,10,11,12,13,14,15,16,17,18,19,20,21,22,23],[0,1,2,3,4,5,6,7,8,9,10,11,12,13,14,15,16,17,18,19,20,21,22,23,24,25],[0,1,2,3,4,5,6,7,8,9,10,11,12,13,14,15,16,17,18,19,20,21,22,23,24,25,26],[0,1,2,3,4,5,6,7,8,9,10,11,12,13,14,15,16,17,18,19,20,21,22,23,24,25,26,27],[0,1,2,3,4,5,6,7,8,9,10,11,12,13,14,15,16,17,18,19,20,21,22,23,24,25,26,27,28],[0,1,2,3,4,5,6,7,8,9,10,11,12,13,14,15,16,17,18,19,20,21,22,23,24,25,26,27,28],[0,1,2,3,4,5,6,7,8,9,10,11,12,13,14,15,16,17,18,19,20,21,22,23,24,25,26,27,28,29,30],[0,1,2,3,4,5,6,7,8,9,10,11,12,13,14,15,16,17,18,19,20,21,22,23,24,25,26,27,28,29,30,31],[0,1,2,3,4,5,6,7,8,9,10,11,12,13,14,15,16,17,18,19,20,21,22,23,24,25,26,27,28,29,30,31,32],[0,1,2,3,4,5,6,7,8,9,10,11,12,13,14,15,16,17,18,19,20,21,22,23,24,25,26,27,28,29,30,31,32,33],[0,1,2,3,4,5,6,7,8,9,10,11,12,13,14,15,16,17,18,19,20,21,22,23,24,25,26,27,28,29,30,31,32,33,34],[0,1,2,3,4,5,6,7,8,9,10,11,12,13,14,15,16,17,18,19,20,21,22,23,24,25,26,27,28,29,30,31,32,33,34],[0,1,2,3,4,5,6,7,8,9,10,11,12,13,14,15,16,17,18,19,20,21,22,23,24,25,26,27,28,29,30,31,32,33,34,35,36],[0,1,2,3,4,5,6,7,8,9,10,11,12,13,14,15,16,17,18,19,20,21,22,23,24,25,26,27,28,29,30,31,32,33,34,35,36,37],[0,1,2,3,4,5,6,7,8,9,10,11,12,13,14,15,16,17,18,19,20,21,22,23,24,25,26,27,28,29,30,31,32,33,34,35,36,37,38],[0,1,2,3,4,5,6,7,8,9,10,11,12,13,14,15,16,17,18,19,20,21,22,23,24,25,26,27,28,29,30,31,32,33,34,35,36,37,38,39],[0,1,2,3,4,5,6,7,8,9,10,11,12,13,14,15,16,17,18,19,20,21,22,23,24,25,26,27,28,29,30,31,32,33,34,35,36,37,38,39,40],[0,1,2,3,4,5,6,7,8,9,10,11,12,13,14,15,16,17,18,19,20,21,22,23,24,25,26,27,28,29,30,31,32,33,34,35,36,37,38,39,40],[0,1,2,3,4,5,6,7,8,9,10,11,12,13,14,15,16,17,18,19,20,21,22,23,24,25,26,27,28,29,30,31,32,33,34,35,36,37,38,39,40,41,42],[0,1,2,3,4,5,6,7,8,9,10,11,12,13,14,15,16,17,18,19,20,21,22,23,24,25,26,27,28,29,30,31,32,33,34,35,36,37,38,39,40,41,42,43],[0,1,2,3,4,5,6,7,8,9,10,11,12,13,14,15,16,17,18,19,20,21,22,23,24,25,26,27,28,29,30,31,32,33,34,35,36,37,38,39,40,41,42,43,44]] (by kernel_rfl) ⟨?_,?_,?_,?_,?_,?_,?_,?_,?_,?_,?_,?_,?_,?_,?_,?_,?_,?_,?_,?_,?_,?_,?_,?_,?_,?_,?_,?_,?_,?_,?_,?_,?_,?_,?_,?_,?_,?_,?_,?_,?_,?_,?_,?_,?_,?_,trivial⟩ ?_
       ·intro e_ w_ k_ hf_ hR_
        refine hopE [(2,I r35.2)] ⟨((hf_ 2 rfl).trans (rfl:_=I r35.2)),trivial⟩ ?_
        exact p_mI rfl<|wp_nil ⟨_,rfl,kR,rfl⟩
       ·intro e_ w_ k_ hf_ hR_
        refine hopE [(41,I r35.2)] ⟨rQ (hR_ 0 41 rfl (lE rfl) rfl),trivial⟩ ?_
        exact p_cmp rfl rfl rfl<|wp_nil ⟨_,rfl,kR,rfl⟩
       ·intro e_ w_ k_ hf_ hR_
        refine hopE [(42,B (r35.2 != 0))] ⟨rQ (hR_ 1 42 rfl (lE rfl) rfl),trivial⟩ ?_
        exact p_mB rfl<|wp_nil ⟨_,rfl,kR,congrArg Value.bool c211⟩
       ·intro e_ w_ k_ hf_ hR_
        refine hopE [(4,I r76.2),(43,B false)] ⟨((hf_ 4 rfl).trans (rfl:_=I r76.2)),rQ (hR_ 2 43 rfl (lE rfl) rfl),trivial⟩ ?_
        refine gT rfl rfl (p_mI rfl ?_)
        exact wp_nil ⟨_,rfl,kR,rfl⟩
       ·intro e_ w_ k_ hf_ hR_
        refine hopE [(43,B false),(44,I r76.2)] ⟨rQ (hR_ 2 43 rfl (lE rfl) rfl),rQ (hR_ 3 44 rfl (lE rfl) rfl),trivial⟩ ?_
        refine gT rfl rfl (p_cmp rfl rfl rfl ?_)
        exact wp_nil ⟨_,rfl,kR,rfl⟩
       ·intro e_ w_ k_ hf_ hR_
        refine hopE [(43,B false),(45,B (r76.2 != 0))] ⟨rQ (hR_ 2 43 rfl (lE rfl) rfl),rQ (hR_ 4 45 rfl (lE rfl) rfl),trivial⟩ ?_
        exact p_pkF rfl (rfl:_=B (r76.2 != 0))<|wp_nil ⟨_,rfl,kR,rfl⟩
       ·intro e_ w_ k_ hf_ hR_
        refine hopE [(46,B (r76.2 != 0))] ⟨rQ (hR_ 5 46 rfl (lE rfl) rfl),trivial⟩ ?_
        exact p_mB rfl<|wp_nil ⟨_,rfl,kR,congrArg Value.bool c222⟩
       ·intro e_ w_ k_ hf_ hR_
        refine hopE [(6,I r117.2),(47,B false)] ⟨((hf_ 6 rfl).trans (rfl:_=I r117.2)),rQ (hR_ 6 47 rfl (lE rfl) rfl),trivial⟩ ?_
        refine gT rfl rfl (p_mI rfl ?_)
        exact wp_nil ⟨_,rfl,kR,rfl⟩
       ·intro e_ w_ k_ hf_ hR_
        refine hopE [(47,B false),(48,I r117.2)] ⟨rQ (hR_ 6 47 rfl (lE rfl) rfl),rQ (hR_ 7 48 rfl (lE rfl) rfl),trivial⟩ ?_
        refine gT rfl rfl (p_cmp rfl rfl rfl ?_)
        exact wp_nil ⟨_,rfl,kR,rfl⟩
       ·intro e_ w_ k_ hf_ hR_
        refine hopE [(47,B false),(49,B (r117.2 != 0))] ⟨rQ (hR_ 6 47 rfl (lE rfl) rfl),rQ (hR_ 8 49 rfl (lE rfl) rfl),trivial⟩ ?_
        exact p_pkF rfl (rfl:_=B (r117.2 != 0))<|wp_nil ⟨_,rfl,kR,rfl⟩
       ·intro e_ w_ k_ hf_ hR_
        refine hopE [(50,B (r117.2 != 0))] ⟨rQ (hR_ 9 50 rfl (lE rfl) rfl),trivial⟩ ?_
        exact p_mB rfl<|wp_nil ⟨_,rfl,kR,congrArg Value.bool c233⟩
       ·intro e_ w_ k_ hf_ hR_
        refine hopE [(8,I r158.2),(51,B false)] ⟨((hf_ 8 rfl).trans (rfl:_=I r158.2)),rQ (hR_ 10 51 rfl (lE rfl) rfl),trivial⟩ ?_
        refine gT rfl rfl (p_mI rfl ?_)
        exact wp_nil ⟨_,rfl,kR,rfl⟩
       ·intro e_ w_ k_ hf_ hR_
        refine hopE [(51,B false),(52,I r158.2)] ⟨rQ (hR_ 10 51 rfl (lE rfl) rfl),rQ (hR_ 11 52 rfl (lE rfl) rfl),trivial⟩ ?_
        refine gT rfl rfl (p_cmp rfl rfl rfl ?_)
        exact wp_nil ⟨_,rfl,kR,rfl⟩
       ·intro e_ w_ k_ hf_ hR_
        refine hopE [(51,B false),(53,B (r158.2 != 0))] ⟨rQ (hR_ 10 51 rfl (lE rfl) rfl),rQ (hR_ 12 53 rfl (lE rfl) rfl),trivial⟩ ?_
        exact p_pkF rfl (rfl:_=B (r158.2 != 0))<|wp_nil ⟨_,rfl,kR,rfl⟩
       ·intro e_ w_ k_ hf_ hR_
        refine hopE [(54,B (r158.2 != 0))] ⟨rQ (hR_ 13 54 rfl (lE rfl) rfl),trivial⟩ ?_
        exact p_mB rfl<|wp_nil ⟨_,rfl,kR,congrArg Value.bool c244⟩
       ·intro e_ w_ k_ hf_ hR_
        refine hopE [(10,I r199.2),(55,B false)] ⟨((hf_ 10 rfl).trans (rfl:_=I r199.2)),rQ (hR_ 14 55 rfl (lE rfl) rfl),trivial⟩ ?_
        refine gT rfl rfl (p_mI rfl ?_)
        exact wp_nil ⟨_,rfl,kR,rfl⟩
       ·intro e_ w_ k_ hf_ hR_
        refine hopE [(55,B false),(56,I r199.2)] ⟨rQ (hR_ 14 55 rfl (lE rfl) rfl),rQ (hR_ 15 56 rfl (lE rfl) rfl),trivial⟩ ?_
        refine gT rfl rfl (p_cmp rfl rfl rfl ?_)
        exact wp_nil ⟨_,rfl,kR,rfl⟩
       ·intro e_ w_ k_ hf_ hR_
        refine hopE [(55,B false),(57,B (r199.2 != 0))] ⟨rQ (hR_ 14 55 rfl (lE rfl) rfl),rQ (hR_ 16 57 rfl (lE rfl) rfl),trivial⟩ ?_
        exact p_pkF rfl (rfl:_=B (r199.2 != 0))<|wp_nil ⟨_,rfl,kR,rfl⟩
       ·intro e_ w_ k_ hf_ hR_
        refine hopE [(58,B (r199.2 != 0))] ⟨rQ (hR_ 17 58 rfl (lE rfl) rfl),trivial⟩ ?_
        exact p_mB rfl<|wp_nil ⟨_,rfl,kR,congrArg Value.bool c255⟩
       ·intro e_ w_ k_ hf_ hR_
        have S_:=@A_ _ k_
        refine hopE [(1,P b39 0),(59,B false)] ⟨((hf_ 1 rfl).trans (rfl:_=P b39 0)),rQ (hR_ 18 59 rfl (lE rfl) rfl),trivial⟩ ?_
        refine gT rfl rfl (p_ldA ty51 sz51 (S_.atP (i:=1) rfl) rfl rfl ?_)
        exact wp_nil ⟨_,rfl,S_.keep,rfl⟩
       ·intro e_ w_ k_ hf_ hR_
        have S_:=@A_ _ k_
        refine hopE [(59,B false)] ⟨rQ (hR_ 18 59 rfl (lE rfl) rfl),trivial⟩ ?_
        refine gT rfl rfl (p_cv (B_Range_ok h263) fu32 rfl S_ fun w264 S265=>?_)
        exact wp_nil ⟨_,rfl,S265.keep,rfl⟩
       ·intro e_ w_ k_ hf_ hR_
        refine hopE [(59,B false),(60,AG [I r35.1.Low,I r35.1.High]),(61,AG [I r262.Low,I r262.High])] ⟨rQ (hR_ 18 59 rfl (lE rfl) rfl),rQ (hR_ 19 60 rfl (lE rfl) rfl),rQ (hR_ 20 61 rfl (lE rfl) rfl),trivial⟩ ?_
        refine gT rfl rfl (o_neA (xs:=[I r35.1.Low,I r35.1.High]) (ys:=[I r262.Low,I r262.High]) (T:=((r35.1.Low==r262.Low)&&(r35.1.High==r262.High))) rfl rfl eq51 ⟨⟨_,rfl⟩,⟨⟨_,rfl⟩,trivial⟩⟩ ⟨⟨_,rfl⟩,⟨⟨_,rfl⟩,trivial⟩⟩ (by simp [Bool.and_eq_true,and_assoc]) ?_)
        exact wp_nil ⟨_,rfl,kR,rfl⟩
       ·intro e_ w_ k_ hf_ hR_
        refine hopE [(59,B false),(62,B (!((r35.1.Low==r262.Low)&&(r35.1.High==r262.High))))] ⟨rQ (hR_ 18 59 rfl (lE rfl) rfl),rQ (hR_ 21 62 rfl (lE rfl) rfl),trivial⟩ ?_
        exact p_pkF rfl (rfl:_=B (!((r35.1.Low==r262.Low)&&(r35.1.High==r262.High))))<|wp_nil ⟨_,rfl,kR,rfl⟩
       ·intro e_ w_ k_ hf_ hR_
        refine hopE [(63,B (!((r35.1.Low==r262.Low)&&(r35.1.High==r262.High))))] ⟨rQ (hR_ 22 63 rfl (lE rfl) rfl),trivial⟩ ?_
        exact p_mB rfl<|wp_nil ⟨_,rfl,kR,congrArg Value.bool c272⟩
       ·intro e_ w_ k_ hf_ hR_
        refine hopE [(3,P b80 0),(64,B true)] ⟨((hf_ 3 rfl).trans (rfl:_=P b80 0)),rQ (hR_ 23 64 rfl (lE rfl) rfl),trivial⟩ ?_
        exact gF rfl rfl<|wp_nil ⟨_,rfl,kR,rfl⟩
       ·intro e_ w_ k_ hf_ hR_
        refine hopE [(64,B true)] ⟨rQ (hR_ 23 64 rfl (lE rfl) rfl),trivial⟩ ?_
        exact gF rfl rfl<|wp_nil ⟨_,rfl,kR,rfl⟩
       ·intro e_ w_ k_ hf_ hR_
        refine hopE [(64,B true),(65,undef),(66,undef)] ⟨rQ (hR_ 23 64 rfl (lE rfl) rfl),rQ (hR_ 24 65 rfl (lE rfl) rfl),rQ (hR_ 25 66 rfl (lE rfl) rfl),trivial⟩ ?_
        exact gF rfl rfl<|wp_nil ⟨_,rfl,kR,rfl⟩
       ·intro e_ w_ k_ hf_ hR_
        refine hopE [(64,B true),(67,undef)] ⟨rQ (hR_ 23 64 rfl (lE rfl) rfl),rQ (hR_ 26 67 rfl (lE rfl) rfl),trivial⟩ ?_
        exact p_pkT rfl (rfl:_=B true)<|wp_nil ⟨_,rfl,kR,rfl⟩
       ·intro e_ w_ k_ hf_ hR_
        refine hopE [(68,B true)] ⟨rQ (hR_ 27 68 rfl (lE rfl) rfl),trivial⟩ ?_
        exact p_mB rfl<|wp_nil ⟨_,rfl,kR,rfl⟩
       ·intro e_ w_ k_ hf_ hR_
        refine hopE [(5,SL A121 r117.1.length c122),(69,B true)] ⟨((hf_ 5 rfl).trans (rfl:_=SL A121 r117.1.length c122)),rQ (hR_ 28 69 rfl (lE rfl) rfl),trivial⟩ ?_
        exact gF rfl rfl<|wp_nil ⟨_,rfl,kR,rfl⟩
       ·intro e_ w_ k_ hf_ hR_
        refine hopE [(69,B true)] ⟨rQ (hR_ 28 69 rfl (lE rfl) rfl),trivial⟩ ?_
        exact gF rfl rfl<|wp_nil ⟨_,rfl,kR,rfl⟩
       ·intro e_ w_ k_ hf_ hR_
        refine hopE [(69,B true),(70,undef),(71,undef)] ⟨rQ (hR_ 28 69 rfl (lE rfl) rfl),rQ (hR_ 29 70 rfl (lE rfl) rfl),rQ (hR_ 30 71 rfl (lE rfl) rfl),trivial⟩ ?_
        exact gF rfl rfl<|wp_nil ⟨_,rfl,kR,rfl⟩
       ·intro e_ w_ k_ hf_ hR_
        refine hopE [(69,B true),(72,undef)] ⟨rQ (hR_ 28 69 rfl (lE rfl) rfl),rQ (hR_ 31 72 rfl (lE rfl) rfl),trivial⟩ ?_
        exact gF rfl rfl<|wp_nil ⟨_,rfl,kR,rfl⟩
       ·intro e_ w_ k_ hf_ hR_
        refine hopE [(69,B true),(73,undef)] ⟨rQ (hR_ 28 69 rfl (lE rfl) rfl),rQ (hR_ 32 73 rfl (lE rfl) rfl),trivial⟩ ?_
        exact p_pkT rfl (rfl:_=B true)<|wp_nil ⟨_,rfl,kR,rfl⟩
       ·intro e_ w_ k_ hf_ hR_
        refine hopE [(74,B true)] ⟨rQ (hR_ 33 74 rfl (lE rfl) rfl),trivial⟩ ?_
        exact p_mB rfl<|wp_nil ⟨_,rfl,kR,rfl⟩
       ·intro e_ w_ k_ hf_ hR_
        refine hopE [(7,SL A162 r158.1.length c163),(75,B true)] ⟨((hf_ 7 rfl).trans (rfl:_=SL A162 r158.1.length c163)),rQ (hR_ 34 75 rfl (lE rfl) rfl),trivial⟩ ?_
        exact gF rfl rfl<|wp_nil ⟨_,rfl,kR,rfl⟩
       ·intro e_ w_ k_ hf_ hR_
        refine hopE [(75,B true)] ⟨rQ (hR_ 34 75 rfl (lE rfl) rfl),trivial⟩ ?_
        exact gF rfl rfl<|wp_nil ⟨_,rfl,kR,rfl⟩
       ·intro e_ w_ k_ hf_ hR_
        refine hopE [(75,B true),(76,undef),(77,undef)] ⟨rQ (hR_ 34 75 rfl (lE rfl) rfl),rQ (hR_ 35 76 rfl (lE rfl) rfl),rQ (hR_ 36 77 rfl (lE rfl) rfl),trivial⟩ ?_
        exact gF rfl rfl<|wp_nil ⟨_,rfl,kR,rfl⟩
       ·intro e_ w_ k_ hf_ hR_
        refine hopE [(75,B true),(78,undef)] ⟨rQ (hR_ 34 75 rfl (lE rfl) rfl),rQ (hR_ 37 78 rfl (lE rfl) rfl),trivial⟩ ?_
        exact gF rfl rfl<|wp_nil ⟨_,rfl,kR,rfl⟩
       ·intro e_ w_ k_ hf_ hR_
        refine hopE [(75,B true),(79,undef)] ⟨rQ (hR_ 34 75 rfl (lE rfl) rfl),rQ (hR_ 38 79 rfl (lE rfl) rfl),trivial⟩ ?_
        exact p_pkT rfl (rfl:_=B true)<|wp_nil ⟨_,rfl,kR,rfl⟩
       ·intro e_ w_ k_ hf_ hR_
        refine hopE [(80,B true)] ⟨rQ (hR_ 39 80 rfl (lE rfl) rfl),trivial⟩ ?_
        exact p_mB rfl<|wp_nil ⟨_,rfl,kR,rfl⟩
       ·intro e_ w_ k_ hf_ hR_
        refine hopE [(9,SL A203 r199.1.length c204),(81,B true)] ⟨((hf_ 9 rfl).trans (rfl:_=SL A203 r199.1.length c204)),rQ (hR_ 40 81 rfl (lE rfl) rfl),trivial⟩ ?_
        exact gF rfl rfl<|wp_nil ⟨_,rfl,kR,rfl⟩
       ·intro e_ w_ k_ hf_ hR_
        refine hopE [(81,B true)] ⟨rQ (hR_ 40 81 rfl (lE rfl) rfl),trivial⟩ ?_
        exact gF rfl rfl<|wp_nil ⟨_,rfl,kR,rfl⟩
       ·intro e_ w_ k_ hf_ hR_
        refine hopE [(81,B true),(82,undef),(83,undef)] ⟨rQ (hR_ 40 81 rfl (lE rfl) rfl),rQ (hR_ 41 82 rfl (lE rfl) rfl),rQ (hR_ 42 83 rfl (lE rfl) rfl),trivial⟩ ?_
        exact gF rfl rfl<|wp_nil ⟨_,rfl,kR,rfl⟩
       ·intro e_ w_ k_ hf_ hR_
        refine hopE [(81,B true),(84,undef)] ⟨rQ (hR_ 40 81 rfl (lE rfl) rfl),rQ (hR_ 43 84 rfl (lE rfl) rfl),trivial⟩ ?_
        exact gF rfl rfl<|wp_nil ⟨_,rfl,kR,rfl⟩
       ·intro e_ w_ k_ hf_ hR_
        refine hopE [(81,B true),(85,undef)] ⟨rQ (hR_ 40 81 rfl (lE rfl) rfl),rQ (hR_ 44 85 rfl (lE rfl) rfl),trivial⟩ ?_
        exact p_pkT rfl (rfl:_=B true)<|wp_nil ⟨_,rfl,kR,rfl⟩
       intro e310 w311 lo312 hi313 k314 hf315 hR316 hd317
       have S318:=S208.call k314
       have q319:e310 86=B true:=(hR316 45 86 (lE rfl) rfl).2.2.2
       refine tailE [(86,B true)] ⟨q319,trivial⟩ ?_
       intro g320
       refine wp_nil ?_
       have S321:St w nF w311 [] [gW0,gW1,gW2]:=S318.pk [] (by decide) [3,4,5] rfl rfl
       try clear S318
       refine c_true rfl<|c_seq<|reg<|p_aB rfl<|wp_nil ?_
       obtain rfl:=sJ H
       exact c_ret (rT Tryz.f9 S321.keep rfl rfl)
      ·replace H:=condF c272 H
       obtain ⟨r324,h325,H⟩:=bindS H
       rcases bE (!((r76.1.Low==r324.Low)&&(r76.1.High==r324.High))) with c334 | c334
       ·replace H:=condT c334 H
        have A_:∀ {w_:World},Keep0 w201 w_→St w_ nF w_ [] [bl b80 [I r76.1.Low,I r76.1.High] 51,bl b39 [I r35.1.Low,I r35.1.High] 51,rd intE 1 A203 c204 r199.1,rd intE 1 A162 c163 r158.1,rd intE 1 A121 c122 r117.1,gW0,gW1,gW2]:=fun k_=>S208.asP k_
        refine reg_any mixed 46 (by kernel_rfl) [rv (I r35.2),rv (B (r35.2 != 0)),rv (B false),rv (I r76.2),rv (B (r76.2 != 0)),rv (B (r76.2 != 0)),rv (B false),rv (I r117.2),rv (B (r117.2 != 0)),rv (B (r117.2 != 0)),rv (B false),rv (I r158.2),rv (B (r158.2 != 0)),rv (B (r158.2 != 0)),rv (B false),rv (I r199.2),rv (B (r199.2 != 0)),rv (B (r199.2 != 0)),rv (B false),rv (AG [I r35.1.Low,I r35.1.High]),rv (AG [I r262.Low,I r262.High]),rv (B (!((r35.1.Low==r262.Low)&&(r35.1.High==r262.High)))),rv (B (!((r35.1.Low==r262.Low)&&(r35.1.High==r262.High)))),rv (B false),rv (AG [I r76.1.Low,I r76.1.High]),rv (AG [I r324.Low,I r324.High]),rv (B (!((r76.1.Low==r324.Low)&&(r76.1.High==r324.High)))),rv (B (!((r76.1.Low==r324.Low)&&(r76.1.High==r324.High)))),rv (B true),rv (undef),rv (undef),rv (undef),rv (undef),rv (B true),rv (B true),rv (undef),rv (undef),rv (undef),rv (undef),rv (B true),rv (B true),rv (undef),rv (undef),rv (undef),rv (undef),rv (B true)] [[],[],[],[],[],[],[],[],[],[],[],[],[],[],[],[],[],[],[],[],[],[],[],[],[],[],[],[],[],[],[],[],[],[],[],[],[],[],[],[],[],[],[],[],[],[]] rfl (by kernel_rfl) [[],[0],[0,1],[0,1,2],[0,1,2,3],[0,1,2,3,4],[0,1,2,3,4,5],[0,1,2,3,4,5,6],[0,1,2,3,4,5,6,7],[0,1,2,3,4,5,6,7,8],[0,1,2,3,4,5,6,7,8,9],[0,1,2,3,4,5,6,7,8,9,10],[0,1,2,3,4,5,6,7,8,9,10,11],[0,1,2,3,4,5,6,7,8,9,10,11,12],[0,1,2,3,4,5,6,7,8,9,10,11,12,13],[0,1,2,3,4,5,6,7,8,9,10,11,12,13,14],[0,1,2,3,4,5,6,7,8,9,10,11,12,13,14,15],[0,1,2,3,4,5,6,7,8,9,10,11,12,13,14,15,16],[0,1,2,3,4,5,6,7,8,9,10,11,12,13,14,15,16,17],[0,1,2,3,4,5,6,7,8,9,10,11,12,13,14,15,16,17,18],[0,1,2,3,4,5,6,7,8,9,10,11,12,13,14,15,16,17,18],[0,1,2,3,4,5,6,7,8,9,10,11,12,13,14,15,16,17,18,19,20],[0,1,2,3,4,5,6,7,8,9,10,11,12,13,14,15,16,17,18,19,20,21],[0,1,2,3,4,5,6,7,8,9,10,11,12,13,14,15,16,17,18,19,20,21,22],[0,1,2,3,4,5,6,7,8,9,10,11,12,13,14,15,16,17,18,19,20,21,22,23],[0,1,2,3,4,5,6,7,8,9,10,11,12,13,14,15,16,17,18,19,20,21,22,23],[0,1,2,3,4,5,6,7,8,9,10,11,12,13,14,15,16,17,18,19,20,21,22,23,24,25],[0,1,2,3,4,5,6,7,8,9,10,11,12,13,14,15,16,17,18,19,20,21,22,23,24,25,26],[0,1,2,3,4,5,6,7,8,9,10,11,12,13,14,15,16,17,18,19,20,21,22,23,24,25,26,27],[0,1,2,3,4,5,6,7,8,9,10,11,12,13,14,15,16,17,18,19,20,21,22,23,24,25,26,27,28],[0,1,2,3,4,5,6,7,8,9,10,11,12,13,14,15,16,17,18,19,20,21,22,23,24,25,26,27,28],[0,1,2,3,4,5,6,7,8,9,10,11,12,13,14,15,16,17,18,19,20,21,22,23,24,25,26,27,28,29,30],[0,1,2,3,4,5,6,7,8,9,10,11,12,13,14,15,16,17,18,19,20,21,22,23,24,25,26,27,28,29,30,31],[0,1,2,3,4,5,6,7,8,9,10,11,12,13,14,15,16,17,18,19,20,21,22,23,24,25,26,27,28,29,30,31,32],[0,1,2,3,4,5,6,7,8,9,10,11,12,13,14,15,16,17,18,19,20,21,22,23,24,25,26,27,28,29,30,31,32,33],[0,1,2,3,4,5,6,7,8,9,10,11,12,13,14,15,16,17,18,19,20,21,22,23,24,25,26,27,28,29,30,31,32,33,34],[0,1,2,3,4,5,6,7,8,9,10,11,12,13,14,15,16,17,18,19,20,21,22,23,24,25,26,27,28,29,30,31,32,33,34],[0,1,2,3,4,5,6,7,8,9,10,11,12,13,14,15,16,17,18,19,20,21,22,23,24,25,26,27,28,29,30,31,32,33,34,35,36],[0,1,2,3,4,5,6,7,8,9,10,11,12,13,14,15,16,17,18,19,20,21,22,23,24,25,26,27,28,29,30,31,32,33,34,35,36,37],[0,1,2,3,4,5,6,7,8,9,10,11,12,13,14,15,16,17,18,19,20,21,22,23,24,25,26,27,28,29,30,31,32,33,34,35,36,37,38],[0,1,2,3,4,5,6,7,8,9,10,11,12,13,14,15,16,17,18,19,20,21,22,23,24,25,26,27,28,29,30,31,32,33,34,35,36,37,38,39],[0,1,2,3,4,5,6,7,8,9,10,11,12,13,14,15,16,17,18,19,20,21,22,23,24,25,26,27,28,29,30,31,32,33,34,35,36,37,38,39,40],[0,1,2,3,4,5,6,7,8,9,10,11,12,13,14,15,16,17,18,19,20,21,22,23,24,25,26,27,28,29,30,31,32,33,34,35,36,37,38,39,40],[0,1,2,3,4,5,6,7,8,9,10,11,12,13,14,15,16,17,18,19,20,21,22,23,24,25,26,27,28,29,30,31,32,33,34,35,36,37,38,39,40,41,42],[0,1,2,3,4,5,6,7,8,9,10,11,12,13,14,15,16,17,18,19,20,21,22,23,24,25,26,27,28,29,30,31,32,33,34,35,36,37,38,39,40,41,42,43],[0,1,2,3,4,5,6,7,8,9,10,11,12,13,14,15,16,17,18,19,20,21,22,23,24,25,26,27,28,29,30,31,32,33,34,35,36,37,38,39,40,41,42,43,44]] (by kernel_rfl) ⟨?_,?_,?_,?_,?_,?_,?_,?_,?_,?_,?_,?_,?_,?_,?_,?_,?_,?_,?_,?_,?_,?_,?_,?_,?_,?_,?_,?_,?_,?_,?_,?_,?_,?_,?_,?_,?_,?_,?_,?_,?_,?_,?_,?_,?_,?_,trivial⟩ ?_
        ·intro e_ w_ k_ hf_ hR_
         refine hopE [(2,I r35.2)] ⟨((hf_ 2 rfl).trans (rfl:_=I r35.2)),trivial⟩ ?_
         exact p_mI rfl<|wp_nil ⟨_,rfl,kR,rfl⟩
        ·intro e_ w_ k_ hf_ hR_
         refine hopE [(41,I r35.2)] ⟨rQ (hR_ 0 41 rfl (lE rfl) rfl),trivial⟩ ?_
         exact p_cmp rfl rfl rfl<|wp_nil ⟨_,rfl,kR,rfl⟩
        ·intro e_ w_ k_ hf_ hR_
         refine hopE [(42,B (r35.2 != 0))] ⟨rQ (hR_ 1 42 rfl (lE rfl) rfl),trivial⟩ ?_
         exact p_mB rfl<|wp_nil ⟨_,rfl,kR,congrArg Value.bool c211⟩
        ·intro e_ w_ k_ hf_ hR_
         refine hopE [(4,I r76.2),(43,B false)] ⟨((hf_ 4 rfl).trans (rfl:_=I r76.2)),rQ (hR_ 2 43 rfl (lE rfl) rfl),trivial⟩ ?_
         refine gT rfl rfl (p_mI rfl ?_)
         exact wp_nil ⟨_,rfl,kR,rfl⟩
        ·intro e_ w_ k_ hf_ hR_
         refine hopE [(43,B false),(44,I r76.2)] ⟨rQ (hR_ 2 43 rfl (lE rfl) rfl),rQ (hR_ 3 44 rfl (lE rfl) rfl),trivial⟩ ?_
         refine gT rfl rfl (p_cmp rfl rfl rfl ?_)
         exact wp_nil ⟨_,rfl,kR,rfl⟩
        ·intro e_ w_ k_ hf_ hR_
         refine hopE [(43,B false),(45,B (r76.2 != 0))] ⟨rQ (hR_ 2 43 rfl (lE rfl) rfl),rQ (hR_ 4 45 rfl (lE rfl) rfl),trivial⟩ ?_
         exact p_pkF rfl (rfl:_=B (r76.2 != 0))<|wp_nil ⟨_,rfl,kR,rfl⟩
        ·intro e_ w_ k_ hf_ hR_
         refine hopE [(46,B (r76.2 != 0))] ⟨rQ (hR_ 5 46 rfl (lE rfl) rfl),trivial⟩ ?_
         exact p_mB rfl<|wp_nil ⟨_,rfl,kR,congrArg Value.bool c222⟩
        ·intro e_ w_ k_ hf_ hR_
         refine hopE [(6,I r117.2),(47,B false)] ⟨((hf_ 6 rfl).trans (rfl:_=I r117.2)),rQ (hR_ 6 47 rfl (lE rfl) rfl),trivial⟩ ?_
         refine gT rfl rfl (p_mI rfl ?_)
         exact wp_nil ⟨_,rfl,kR,rfl⟩
        ·intro e_ w_ k_ hf_ hR_
         refine hopE [(47,B false),(48,I r117.2)] ⟨rQ (hR_ 6 47 rfl (lE rfl) rfl),rQ (hR_ 7 48 rfl (lE rfl) rfl),trivial⟩ ?_
         refine gT rfl rfl (p_cmp rfl rfl rfl ?_)
         exact wp_nil ⟨_,rfl,kR,rfl⟩
        ·intro e_ w_ k_ hf_ hR_
         refine hopE [(47,B false),(49,B (r117.2 != 0))] ⟨rQ (hR_ 6 47 rfl (lE rfl) rfl),rQ (hR_ 8 49 rfl (lE rfl) rfl),trivial⟩ ?_
         exact p_pkF rfl (rfl:_=B (r117.2 != 0))<|wp_nil ⟨_,rfl,kR,rfl⟩
        ·intro e_ w_ k_ hf_ hR_
         refine hopE [(50,B (r117.2 != 0))] ⟨rQ (hR_ 9 50 rfl (lE rfl) rfl),trivial⟩ ?_
         exact p_mB rfl<|wp_nil ⟨_,rfl,kR,congrArg Value.bool c233⟩
        ·intro e_ w_ k_ hf_ hR_
         refine hopE [(8,I r158.2),(51,B false)] ⟨((hf_ 8 rfl).trans (rfl:_=I r158.2)),rQ (hR_ 10 51 rfl (lE rfl) rfl),trivial⟩ ?_
         refine gT rfl rfl (p_mI rfl ?_)
         exact wp_nil ⟨_,rfl,kR,rfl⟩
        ·intro e_ w_ k_ hf_ hR_
         refine hopE [(51,B false),(52,I r158.2)] ⟨rQ (hR_ 10 51 rfl (lE rfl) rfl),rQ (hR_ 11 52 rfl (lE rfl) rfl),trivial⟩ ?_
         refine gT rfl rfl (p_cmp rfl rfl rfl ?_)
         exact wp_nil ⟨_,rfl,kR,rfl⟩
        ·intro e_ w_ k_ hf_ hR_
         refine hopE [(51,B false),(53,B (r158.2 != 0))] ⟨rQ (hR_ 10 51 rfl (lE rfl) rfl),rQ (hR_ 12 53 rfl (lE rfl) rfl),trivial⟩ ?_
         exact p_pkF rfl (rfl:_=B (r158.2 != 0))<|wp_nil ⟨_,rfl,kR,rfl⟩
        ·intro e_ w_ k_ hf_ hR_
         refine hopE [(54,B (r158.2 != 0))] ⟨rQ (hR_ 13 54 rfl (lE rfl) rfl),trivial⟩ ?_
         exact p_mB rfl<|wp_nil ⟨_,rfl,kR,congrArg Value.bool c244⟩
        ·intro e_ w_ k_ hf_ hR_
         refine hopE [(10,I r199.2),(55,B false)] ⟨((hf_ 10 rfl).trans (rfl:_=I r199.2)),rQ (hR_ 14 55 rfl (lE rfl) rfl),trivial⟩ ?_
         refine gT rfl rfl (p_mI rfl ?_)
         exact wp_nil ⟨_,rfl,kR,rfl⟩
        ·intro e_ w_ k_ hf_ hR_
         refine hopE [(55,B false),(56,I r199.2)] ⟨rQ (hR_ 14 55 rfl (lE rfl) rfl),rQ (hR_ 15 56 rfl (lE rfl) rfl),trivial⟩ ?_
         refine gT rfl rfl (p_cmp rfl rfl rfl ?_)
         exact wp_nil ⟨_,rfl,kR,rfl⟩
        ·intro e_ w_ k_ hf_ hR_
         refine hopE [(55,B false),(57,B (r199.2 != 0))] ⟨rQ (hR_ 14 55 rfl (lE rfl) rfl),rQ (hR_ 16 57 rfl (lE rfl) rfl),trivial⟩ ?_
         exact p_pkF rfl (rfl:_=B (r199.2 != 0))<|wp_nil ⟨_,rfl,kR,rfl⟩
        ·intro e_ w_ k_ hf_ hR_
         refine hopE [(58,B (r199.2 != 0))] ⟨rQ (hR_ 17 58 rfl (lE rfl) rfl),trivial⟩ ?_
         exact p_mB rfl<|wp_nil ⟨_,rfl,kR,congrArg Value.bool c255⟩
        ·intro e_ w_ k_ hf_ hR_
         have S_:=@A_ _ k_
         refine hopE [(1,P b39 0),(59,B false)] ⟨((hf_ 1 rfl).trans (rfl:_=P b39 0)),rQ (hR_ 18 59 rfl (lE rfl) rfl),trivial⟩ ?_
         refine gT rfl rfl (p_ldA ty51 sz51 (S_.atP (i:=1) rfl) rfl rfl ?_)
         exact wp_nil ⟨_,rfl,S_.keep,rfl⟩
        ·intro e_ w_ k_ hf_ hR_
         have S_:=@A_ _ k_
         refine hopE [(59,B false)] ⟨rQ (hR_ 18 59 rfl (lE rfl) rfl),trivial⟩ ?_
         refine gT rfl rfl (p_cv (B_Range_ok h263) fu32 rfl S_ fun w264 S265=>?_)
         exact wp_nil ⟨_,rfl,S265.keep,rfl⟩
        ·intro e_ w_ k_ hf_ hR_
         refine hopE [(59,B false),(60,AG [I r35.1.Low,I r35.1.High]),(61,AG [I r262.Low,I r262.High])] ⟨rQ (hR_ 18 59 rfl (lE rfl) rfl),rQ (hR_ 19 60 rfl (lE rfl) rfl),rQ (hR_ 20 61 rfl (lE rfl) rfl),trivial⟩ ?_
         refine gT rfl rfl (o_neA (xs:=[I r35.1.Low,I r35.1.High]) (ys:=[I r262.Low,I r262.High]) (T:=((r35.1.Low==r262.Low)&&(r35.1.High==r262.High))) rfl rfl eq51 ⟨⟨_,rfl⟩,⟨⟨_,rfl⟩,trivial⟩⟩ ⟨⟨_,rfl⟩,⟨⟨_,rfl⟩,trivial⟩⟩ (by simp [Bool.and_eq_true,and_assoc]) ?_)
         exact wp_nil ⟨_,rfl,kR,rfl⟩
        ·intro e_ w_ k_ hf_ hR_
         refine hopE [(59,B false),(62,B (!((r35.1.Low==r262.Low)&&(r35.1.High==r262.High))))] ⟨rQ (hR_ 18 59 rfl (lE rfl) rfl),rQ (hR_ 21 62 rfl (lE rfl) rfl),trivial⟩ ?_
         exact p_pkF rfl (rfl:_=B (!((r35.1.Low==r262.Low)&&(r35.1.High==r262.High))))<|wp_nil ⟨_,rfl,kR,rfl⟩
        ·intro e_ w_ k_ hf_ hR_
         refine hopE [(63,B (!((r35.1.Low==r262.Low)&&(r35.1.High==r262.High))))] ⟨rQ (hR_ 22 63 rfl (lE rfl) rfl),trivial⟩ ?_
         exact p_mB rfl<|wp_nil ⟨_,rfl,kR,congrArg Value.bool c272⟩
        ·intro e_ w_ k_ hf_ hR_
         have S_:=@A_ _ k_
         refine hopE [(3,P b80 0),(64,B false)] ⟨((hf_ 3 rfl).trans (rfl:_=P b80 0)),rQ (hR_ 23 64 rfl (lE rfl) rfl),trivial⟩ ?_
         refine gT rfl rfl (p_ldA ty51 sz51 (S_.atP (i:=0) rfl) rfl rfl ?_)
         exact wp_nil ⟨_,rfl,S_.keep,rfl⟩
        ·intro e_ w_ k_ hf_ hR_
         have S_:=@A_ _ k_
         refine hopE [(64,B false)] ⟨rQ (hR_ 23 64 rfl (lE rfl) rfl),trivial⟩ ?_
         refine gT rfl rfl (p_cv (B_Point_ok h325) fu33 rfl S_ fun w326 S327=>?_)
         exact wp_nil ⟨_,rfl,S327.keep,rfl⟩
        ·intro e_ w_ k_ hf_ hR_
         refine hopE [(64,B false),(65,AG [I r76.1.Low,I r76.1.High]),(66,AG [I r324.Low,I r324.High])] ⟨rQ (hR_ 23 64 rfl (lE rfl) rfl),rQ (hR_ 24 65 rfl (lE rfl) rfl),rQ (hR_ 25 66 rfl (lE rfl) rfl),trivial⟩ ?_
         refine gT rfl rfl (o_neA (xs:=[I r76.1.Low,I r76.1.High]) (ys:=[I r324.Low,I r324.High]) (T:=((r76.1.Low==r324.Low)&&(r76.1.High==r324.High))) rfl rfl eq51 ⟨⟨_,rfl⟩,⟨⟨_,rfl⟩,trivial⟩⟩ ⟨⟨_,rfl⟩,⟨⟨_,rfl⟩,trivial⟩⟩ (by simp [Bool.and_eq_true,and_assoc]) ?_)
         exact wp_nil ⟨_,rfl,kR,rfl⟩
        ·intro e_ w_ k_ hf_ hR_
         refine hopE [(64,B false),(67,B (!((r76.1.Low==r324.Low)&&(r76.1.High==r324.High))))] ⟨rQ (hR_ 23 64 rfl (lE rfl) rfl),rQ (hR_ 26 67 rfl (lE rfl) rfl),trivial⟩ ?_
         exact p_pkF rfl (rfl:_=B (!((r76.1.Low==r324.Low)&&(r76.1.High==r324.High))))<|wp_nil ⟨_,rfl,kR,rfl⟩
        ·intro e_ w_ k_ hf_ hR_
         refine hopE [(68,B (!((r76.1.Low==r324.Low)&&(r76.1.High==r324.High))))] ⟨rQ (hR_ 27 68 rfl (lE rfl) rfl),trivial⟩ ?_
         exact p_mB rfl<|wp_nil ⟨_,rfl,kR,congrArg Value.bool c334⟩
        ·intro e_ w_ k_ hf_ hR_
         refine hopE [(5,SL A121 r117.1.length c122),(69,B true)] ⟨((hf_ 5 rfl).trans (rfl:_=SL A121 r117.1.length c122)),rQ (hR_ 28 69 rfl (lE rfl) rfl),trivial⟩ ?_
         exact gF rfl rfl<|wp_nil ⟨_,rfl,kR,rfl⟩
        ·intro e_ w_ k_ hf_ hR_
         refine hopE [(69,B true)] ⟨rQ (hR_ 28 69 rfl (lE rfl) rfl),trivial⟩ ?_
         exact gF rfl rfl<|wp_nil ⟨_,rfl,kR,rfl⟩
        ·intro e_ w_ k_ hf_ hR_
         refine hopE [(69,B true),(70,undef),(71,undef)] ⟨rQ (hR_ 28 69 rfl (lE rfl) rfl),rQ (hR_ 29 70 rfl (lE rfl) rfl),rQ (hR_ 30 71 rfl (lE rfl) rfl),trivial⟩ ?_
         exact gF rfl rfl<|wp_nil ⟨_,rfl,kR,rfl⟩
        ·intro e_ w_ k_ hf_ hR_
         refine hopE [(69,B true),(72,undef)] ⟨rQ (hR_ 28 69 rfl (lE rfl) rfl),rQ (hR_ 31 72 rfl (lE rfl) rfl),trivial⟩ ?_
         exact gF rfl rfl<|wp_nil ⟨_,rfl,kR,rfl⟩
        ·intro e_ w_ k_ hf_ hR_
         refine hopE [(69,B true),(73,undef)] ⟨rQ (hR_ 28 69 rfl (lE rfl) rfl),rQ (hR_ 32 73 rfl (lE rfl) rfl),trivial⟩ ?_
         exact p_pkT rfl (rfl:_=B true)<|wp_nil ⟨_,rfl,kR,rfl⟩
        ·intro e_ w_ k_ hf_ hR_
         refine hopE [(74,B true)] ⟨rQ (hR_ 33 74 rfl (lE rfl) rfl),trivial⟩ ?_
         exact p_mB rfl<|wp_nil ⟨_,rfl,kR,rfl⟩
        ·intro e_ w_ k_ hf_ hR_
         refine hopE [(7,SL A162 r158.1.length c163),(75,B true)] ⟨((hf_ 7 rfl).trans (rfl:_=SL A162 r158.1.length c163)),rQ (hR_ 34 75 rfl (lE rfl) rfl),trivial⟩ ?_
         exact gF rfl rfl<|wp_nil ⟨_,rfl,kR,rfl⟩
        ·intro e_ w_ k_ hf_ hR_
         refine hopE [(75,B true)] ⟨rQ (hR_ 34 75 rfl (lE rfl) rfl),trivial⟩ ?_
         exact gF rfl rfl<|wp_nil ⟨_,rfl,kR,rfl⟩
        ·intro e_ w_ k_ hf_ hR_
         refine hopE [(75,B true),(76,undef),(77,undef)] ⟨rQ (hR_ 34 75 rfl (lE rfl) rfl),rQ (hR_ 35 76 rfl (lE rfl) rfl),rQ (hR_ 36 77 rfl (lE rfl) rfl),trivial⟩ ?_
         exact gF rfl rfl<|wp_nil ⟨_,rfl,kR,rfl⟩
        ·intro e_ w_ k_ hf_ hR_
         refine hopE [(75,B true),(78,undef)] ⟨rQ (hR_ 34 75 rfl (lE rfl) rfl),rQ (hR_ 37 78 rfl (lE rfl) rfl),trivial⟩ ?_
         exact gF rfl rfl<|wp_nil ⟨_,rfl,kR,rfl⟩
        ·intro e_ w_ k_ hf_ hR_
         refine hopE [(75,B true),(79,undef)] ⟨rQ (hR_ 34 75 rfl (lE rfl) rfl),rQ (hR_ 38 79 rfl (lE rfl) rfl),trivial⟩ ?_
         exact p_pkT rfl (rfl:_=B true)<|wp_nil ⟨_,rfl,kR,rfl⟩
        ·intro e_ w_ k_ hf_ hR_
         refine hopE [(80,B true)] ⟨rQ (hR_ 39 80 rfl (lE rfl) rfl),trivial⟩ ?_
         exact p_mB rfl<|wp_nil ⟨_,rfl,kR,rfl⟩
        ·intro e_ w_ k_ hf_ hR_
         refine hopE [(9,SL A203 r199.1.length c204),(81,B true)] ⟨((hf_ 9 rfl).trans (rfl:_=SL A203 r199.1.length c204)),rQ (hR_ 40 81 rfl (lE rfl) rfl),trivial⟩ ?_
         exact gF rfl rfl<|wp_nil ⟨_,rfl,kR,rfl⟩
        ·intro e_ w_ k_ hf_ hR_
         refine hopE [(81,B true)] ⟨rQ (hR_ 40 81 rfl (lE rfl) rfl),trivial⟩ ?_
         exact gF rfl rfl<|wp_nil ⟨_,rfl,kR,rfl⟩
        ·intro e_ w_ k_ hf_ hR_
         refine hopE [(81,B true),(82,undef),(83,undef)] ⟨rQ (hR_ 40 81 rfl (lE rfl) rfl),rQ (hR_ 41 82 rfl (lE rfl) rfl),rQ (hR_ 42 83 rfl (lE rfl) rfl),trivial⟩ ?_
         exact gF rfl rfl<|wp_nil ⟨_,rfl,kR,rfl⟩
        ·intro e_ w_ k_ hf_ hR_
         refine hopE [(81,B true),(84,undef)] ⟨rQ (hR_ 40 81 rfl (lE rfl) rfl),rQ (hR_ 43 84 rfl (lE rfl) rfl),trivial⟩ ?_
         exact gF rfl rfl<|wp_nil ⟨_,rfl,kR,rfl⟩
        ·intro e_ w_ k_ hf_ hR_
         refine hopE [(81,B true),(85,undef)] ⟨rQ (hR_ 40 81 rfl (lE rfl) rfl),rQ (hR_ 44 85 rfl (lE rfl) rfl),trivial⟩ ?_
         exact p_pkT rfl (rfl:_=B true)<|wp_nil ⟨_,rfl,kR,rfl⟩
        intro e364 w365 lo366 hi367 k368 hf369 hR370 hd371
        have S372:=S208.call k368
        have q373:e364 86=B true:=(hR370 45 86 (lE rfl) rfl).2.2.2
        refine tailE [(86,B true)] ⟨q373,trivial⟩ ?_
        intro g374
        refine wp_nil ?_
        have S375:St w nF w365 [] [gW0,gW1,gW2]:=S372.pk [] (by decide) [3,4,5] rfl rfl
        try clear S372
        refine c_true rfl<|c_seq<|reg<|p_aB rfl<|wp_nil ?_
        obtain rfl:=sJ H
        exact c_ret (rT Tryz.f9 S375.keep rfl rfl)
       ·replace H:=condF c334 H
        obtain ⟨r388,h389,H⟩:=bindS H
        rcases bE (!r388) with c397 | c397
        ·replace H:=condT c397 H
         have A_:∀ {w_:World},Keep0 w201 w_→St w_ nF w_ [] [bl b80 [I r76.1.Low,I r76.1.High] 51,bl b39 [I r35.1.Low,I r35.1.High] 51,rd intE 1 A203 c204 r199.1,rd intE 1 A162 c163 r158.1,rd intE 1 A121 c122 r117.1,gW0,gW1,gW2]:=fun k_=>S208.asP k_
         refine reg_any mixed 46 (by kernel_rfl) [rv (I r35.2),rv (B (r35.2 != 0)),rv (B false),rv (I r76.2),rv (B (r76.2 != 0)),rv (B (r76.2 != 0)),rv (B false),rv (I r117.2),rv (B (r117.2 != 0)),rv (B (r117.2 != 0)),rv (B false),rv (I r158.2),rv (B (r158.2 != 0)),rv (B (r158.2 != 0)),rv (B false),rv (I r199.2),rv (B (r199.2 != 0)),rv (B (r199.2 != 0)),rv (B false),rv (AG [I r35.1.Low,I r35.1.High]),rv (AG [I r262.Low,I r262.High]),rv (B (!((r35.1.Low==r262.Low)&&(r35.1.High==r262.High)))),rv (B (!((r35.1.Low==r262.Low)&&(r35.1.High==r262.High)))),rv (B false),rv (AG [I r76.1.Low,I r76.1.High]),rv (AG [I r324.Low,I r324.High]),rv (B (!((r76.1.Low==r324.Low)&&(r76.1.High==r324.High)))),rv (B (!((r76.1.Low==r324.Low)&&(r76.1.High==r324.High)))),rv (B false),rv (SL A121 r117.1.length c122),rx (α:=(Option Addr)×Nat) (fun ⟨A378,c379⟩=>SL A378 ([0]:List Int).length c379) (fun ⟨A378,c379⟩ lo hi=>BtwL lo hi [] (gr intE 1 3 A378 c379 ([0]:List Int))∧True) (fun ⟨A378,c379⟩=>[gr intE 1 3 A378 c379 ([0]:List Int)]),rv (B r388),rv (B (!r388)),rv (B (!r388)),rv (B true),rv (undef),rv (undef),rv (undef),rv (undef),rv (B true),rv (B true),rv (undef),rv (undef),rv (undef),rv (undef),rv (B true)] [[],[],[],[],[],[],[],[],[],[],[],[],[],[],[],[],[],[],[],[],[],[],[],[],[],[],[],[],[],[],[],[],[],[],[],[],[],[],[],[],[],[],[],[],[],[]] rfl (by kernel_rfl) [[],[0],[0,1],[0,1,2],[0,1,2,3],[0,1,2,3,4],[0,1,2,3,4,5],[0,1,2,3,4,5,6],[0,1,2,3,4,5,6,7],[0,1,2,3,4,5,6,7,8],[0,1,2,3,4,5,6,7,8,9],[0,1,2,3,4,5,6,7,8,9,10],[0,1,2,3,4,5,6,7,8,9,10,11],[0,1,2,3,4,5,6,7,8,9,10,11,12],[0,1,2,3,4,5,6,7,8,9,10,11,12,13],[0,1,2,3,4,5,6,7,8,9,10,11,12,13,14],[0,1,2,3,4,5,6,7,8,9,10,11,12,13,14,15],[0,1,2,3,4,5,6,7,8,9,10,11,12,13,14,15,16],[0,1,2,3,4,5,6,7,8,9,10,11,12,13,14,15,16,17],[0,1,2,3,4,5,6,7,8,9,10,11,12,13,14,15,16,17,18],[0,1,2,3,4,5,6,7,8,9,10,11,12,13,14,15,16,17,18],[0,1,2,3,4,5,6,7,8,9,10,11,12,13,14,15,16,17,18,19,20],[0,1,2,3,4,5,6,7,8,9,10,11,12,13,14,15,16,17,18,19,20,21],[0,1,2,3,4,5,6,7,8,9,10,11,12,13,14,15,16,17,18,19,20,21,22],[0,1,2,3,4,5,6,7,8,9,10,11,12,13,14,15,16,17,18,19,20,21,22,23],[0,1,2,3,4,5,6,7,8,9,10,11,12,13,14,15,16,17,18,19,20,21,22,23],[0,1,2,3,4,5,6,7,8,9,10,11,12,13,14,15,16,17,18,19,20,21,22,23,24,25],[0,1,2,3,4,5,6,7,8,9,10,11,12,13,14,15,16,17,18,19,20,21,22,23,24,25,26],[0,1,2,3,4,5,6,7,8,9,10,11,12,13,14,15,16,17,18,19,20,21,22,23,24,25,26,27],[0,1,2,3,4,5,6,7,8,9,10,11,12,13,14,15,16,17,18,19,20,21,22,23,24,25,26,27,28],[0,1,2,3,4,5,6,7,8,9,10,11,12,13,14,15,16,17,18,19,20,21,22,23,24,25,26,27,28],[0,1,2,3,4,5,6,7,8,9,10,11,12,13,14,15,16,17,18,19,20,21,22,23,24,25,26,27,28,29,30],[0,1,2,3,4,5,6,7,8,9,10,11,12,13,14,15,16,17,18,19,20,21,22,23,24,25,26,27,28,29,30,31],[0,1,2,3,4,5,6,7,8,9,10,11,12,13,14,15,16,17,18,19,20,21,22,23,24,25,26,27,28,29,30,31,32],[0,1,2,3,4,5,6,7,8,9,10,11,12,13,14,15,16,17,18,19,20,21,22,23,24,25,26,27,28,29,30,31,32,33],[0,1,2,3,4,5,6,7,8,9,10,11,12,13,14,15,16,17,18,19,20,21,22,23,24,25,26,27,28,29,30,31,32,33,34],[0,1,2,3,4,5,6,7,8,9,10,11,12,13,14,15,16,17,18,19,20,21,22,23,24,25,26,27,28,29,30,31,32,33,34],[0,1,2,3,4,5,6,7,8,9,10,11,12,13,14,15,16,17,18,19,20,21,22,23,24,25,26,27,28,29,30,31,32,33,34,35,36],[0,1,2,3,4,5,6,7,8,9,10,11,12,13,14,15,16,17,18,19,20,21,22,23,24,25,26,27,28,29,30,31,32,33,34,35,36,37],[0,1,2,3,4,5,6,7,8,9,10,11,12,13,14,15,16,17,18,19,20,21,22,23,24,25,26,27,28,29,30,31,32,33,34,35,36,37,38],[0,1,2,3,4,5,6,7,8,9,10,11,12,13,14,15,16,17,18,19,20,21,22,23,24,25,26,27,28,29,30,31,32,33,34,35,36,37,38,39],[0,1,2,3,4,5,6,7,8,9,10,11,12,13,14,15,16,17,18,19,20,21,22,23,24,25,26,27,28,29,30,31,32,33,34,35,36,37,38,39,40],[0,1,2,3,4,5,6,7,8,9,10,11,12,13,14,15,16,17,18,19,20,21,22,23,24,25,26,27,28,29,30,31,32,33,34,35,36,37,38,39,40],[0,1,2,3,4,5,6,7,8,9,10,11,12,13,14,15,16,17,18,19,20,21,22,23,24,25,26,27,28,29,30,31,32,33,34,35,36,37,38,39,40,41,42],[0,1,2,3,4,5,6,7,8,9,10,11,12,13,14,15,16,17,18,19,20,21,22,23,24,25,26,27,28,29,30,31,32,33,34,35,36,37,38,39,40,41,42,43],[0,1,2,3,4,5,6,7,8,9,10,11,12,13,14,15,16,17,18,19,20,21,22,23,24,25,26,27,28,29,30,31,32,33,34,35,36,37,38,39,40,41,42,43,44]] (by kernel_rfl) ⟨?_,?_,?_,?_,?_,?_,?_,?_,?_,?_,?_,?_,?_,?_,?_,?_,?_,?_,?_,?_,?_,?_,?_,?_,?_,?_,?_,?_,?_,?_,?_,?_,?_,?_,?_,?_,?_,?_,?_,?_,?_,?_,?_,?_,?_,?_,trivial⟩ ?_
         ·intro e_ w_ k_ hf_ hR_
          refine hopE [(2,I r35.2)] ⟨((hf_ 2 rfl).trans (rfl:_=I r35.2)),trivial⟩ ?_
          exact p_mI rfl<|wp_nil ⟨_,rfl,kR,rfl⟩
         ·intro e_ w_ k_ hf_ hR_
          refine hopE [(41,I r35.2)] ⟨rQ (hR_ 0 41 rfl (lE rfl) rfl),trivial⟩ ?_
          exact p_cmp rfl rfl rfl<|wp_nil ⟨_,rfl,kR,rfl⟩
         ·intro e_ w_ k_ hf_ hR_
          refine hopE [(42,B (r35.2 != 0))] ⟨rQ (hR_ 1 42 rfl (lE rfl) rfl),trivial⟩ ?_
          exact p_mB rfl<|wp_nil ⟨_,rfl,kR,congrArg Value.bool c211⟩
         ·intro e_ w_ k_ hf_ hR_
          refine hopE [(4,I r76.2),(43,B false)] ⟨((hf_ 4 rfl).trans (rfl:_=I r76.2)),rQ (hR_ 2 43 rfl (lE rfl) rfl),trivial⟩ ?_
          refine gT rfl rfl (p_mI rfl ?_)
          exact wp_nil ⟨_,rfl,kR,rfl⟩
         ·intro e_ w_ k_ hf_ hR_
          refine hopE [(43,B false),(44,I r76.2)] ⟨rQ (hR_ 2 43 rfl (lE rfl) rfl),rQ (hR_ 3 44 rfl (lE rfl) rfl),trivial⟩ ?_
          refine gT rfl rfl (p_cmp rfl rfl rfl ?_)
          exact wp_nil ⟨_,rfl,kR,rfl⟩
         ·intro e_ w_ k_ hf_ hR_
          refine hopE [(43,B false),(45,B (r76.2 != 0))] ⟨rQ (hR_ 2 43 rfl (lE rfl) rfl),rQ (hR_ 4 45 rfl (lE rfl) rfl),trivial⟩ ?_
          exact p_pkF rfl (rfl:_=B (r76.2 != 0))<|wp_nil ⟨_,rfl,kR,rfl⟩
         ·intro e_ w_ k_ hf_ hR_
          refine hopE [(46,B (r76.2 != 0))] ⟨rQ (hR_ 5 46 rfl (lE rfl) rfl),trivial⟩ ?_
          exact p_mB rfl<|wp_nil ⟨_,rfl,kR,congrArg Value.bool c222⟩
         ·intro e_ w_ k_ hf_ hR_
          refine hopE [(6,I r117.2),(47,B false)] ⟨((hf_ 6 rfl).trans (rfl:_=I r117.2)),rQ (hR_ 6 47 rfl (lE rfl) rfl),trivial⟩ ?_
          refine gT rfl rfl (p_mI rfl ?_)
          exact wp_nil ⟨_,rfl,kR,rfl⟩
         ·intro e_ w_ k_ hf_ hR_
          refine hopE [(47,B false),(48,I r117.2)] ⟨rQ (hR_ 6 47 rfl (lE rfl) rfl),rQ (hR_ 7 48 rfl (lE rfl) rfl),trivial⟩ ?_
          refine gT rfl rfl (p_cmp rfl rfl rfl ?_)
          exact wp_nil ⟨_,rfl,kR,rfl⟩
         ·intro e_ w_ k_ hf_ hR_
          refine hopE [(47,B false),(49,B (r117.2 != 0))] ⟨rQ (hR_ 6 47 rfl (lE rfl) rfl),rQ (hR_ 8 49 rfl (lE rfl) rfl),trivial⟩ ?_
          exact p_pkF rfl (rfl:_=B (r117.2 != 0))<|wp_nil ⟨_,rfl,kR,rfl⟩
         ·intro e_ w_ k_ hf_ hR_
          refine hopE [(50,B (r117.2 != 0))] ⟨rQ (hR_ 9 50 rfl (lE rfl) rfl),trivial⟩ ?_
          exact p_mB rfl<|wp_nil ⟨_,rfl,kR,congrArg Value.bool c233⟩
         ·intro e_ w_ k_ hf_ hR_
          refine hopE [(8,I r158.2),(51,B false)] ⟨((hf_ 8 rfl).trans (rfl:_=I r158.2)),rQ (hR_ 10 51 rfl (lE rfl) rfl),trivial⟩ ?_
          refine gT rfl rfl (p_mI rfl ?_)
          exact wp_nil ⟨_,rfl,kR,rfl⟩
         ·intro e_ w_ k_ hf_ hR_
          refine hopE [(51,B false),(52,I r158.2)] ⟨rQ (hR_ 10 51 rfl (lE rfl) rfl),rQ (hR_ 11 52 rfl (lE rfl) rfl),trivial⟩ ?_
          refine gT rfl rfl (p_cmp rfl rfl rfl ?_)
          exact wp_nil ⟨_,rfl,kR,rfl⟩
         ·intro e_ w_ k_ hf_ hR_
          refine hopE [(51,B false),(53,B (r158.2 != 0))] ⟨rQ (hR_ 10 51 rfl (lE rfl) rfl),rQ (hR_ 12 53 rfl (lE rfl) rfl),trivial⟩ ?_
          exact p_pkF rfl (rfl:_=B (r158.2 != 0))<|wp_nil ⟨_,rfl,kR,rfl⟩
         ·intro e_ w_ k_ hf_ hR_
          refine hopE [(54,B (r158.2 != 0))] ⟨rQ (hR_ 13 54 rfl (lE rfl) rfl),trivial⟩ ?_
          exact p_mB rfl<|wp_nil ⟨_,rfl,kR,congrArg Value.bool c244⟩
         ·intro e_ w_ k_ hf_ hR_
          refine hopE [(10,I r199.2),(55,B false)] ⟨((hf_ 10 rfl).trans (rfl:_=I r199.2)),rQ (hR_ 14 55 rfl (lE rfl) rfl),trivial⟩ ?_
          refine gT rfl rfl (p_mI rfl ?_)
          exact wp_nil ⟨_,rfl,kR,rfl⟩
         ·intro e_ w_ k_ hf_ hR_
          refine hopE [(55,B false),(56,I r199.2)] ⟨rQ (hR_ 14 55 rfl (lE rfl) rfl),rQ (hR_ 15 56 rfl (lE rfl) rfl),trivial⟩ ?_
          refine gT rfl rfl (p_cmp rfl rfl rfl ?_)
          exact wp_nil ⟨_,rfl,kR,rfl⟩
         ·intro e_ w_ k_ hf_ hR_
          refine hopE [(55,B false),(57,B (r199.2 != 0))] ⟨rQ (hR_ 14 55 rfl (lE rfl) rfl),rQ (hR_ 16 57 rfl (lE rfl) rfl),trivial⟩ ?_
          exact p_pkF rfl (rfl:_=B (r199.2 != 0))<|wp_nil ⟨_,rfl,kR,rfl⟩
         ·intro e_ w_ k_ hf_ hR_
          refine hopE [(58,B (r199.2 != 0))] ⟨rQ (hR_ 17 58 rfl (lE rfl) rfl),trivial⟩ ?_
          exact p_mB rfl<|wp_nil ⟨_,rfl,kR,congrArg Value.bool c255⟩
         ·intro e_ w_ k_ hf_ hR_
          have S_:=@A_ _ k_
          refine hopE [(1,P b39 0),(59,B false)] ⟨((hf_ 1 rfl).trans (rfl:_=P b39 0)),rQ (hR_ 18 59 rfl (lE rfl) rfl),trivial⟩ ?_
          refine gT rfl rfl (p_ldA ty51 sz51 (S_.atP (i:=1) rfl) rfl rfl ?_)
          exact wp_nil ⟨_,rfl,S_.keep,rfl⟩
         ·intro e_ w_ k_ hf_ hR_
          have S_:=@A_ _ k_
          refine hopE [(59,B false)] ⟨rQ (hR_ 18 59 rfl (lE rfl) rfl),trivial⟩ ?_
          refine gT rfl rfl (p_cv (B_Range_ok h263) fu32 rfl S_ fun w264 S265=>?_)
          exact wp_nil ⟨_,rfl,S265.keep,rfl⟩
         ·intro e_ w_ k_ hf_ hR_
          refine hopE [(59,B false),(60,AG [I r35.1.Low,I r35.1.High]),(61,AG [I r262.Low,I r262.High])] ⟨rQ (hR_ 18 59 rfl (lE rfl) rfl),rQ (hR_ 19 60 rfl (lE rfl) rfl),rQ (hR_ 20 61 rfl (lE rfl) rfl),trivial⟩ ?_
          refine gT rfl rfl (o_neA (xs:=[I r35.1.Low,I r35.1.High]) (ys:=[I r262.Low,I r262.High]) (T:=((r35.1.Low==r262.Low)&&(r35.1.High==r262.High))) rfl rfl eq51 ⟨⟨_,rfl⟩,⟨⟨_,rfl⟩,trivial⟩⟩ ⟨⟨_,rfl⟩,⟨⟨_,rfl⟩,trivial⟩⟩ (by simp [Bool.and_eq_true,and_assoc]) ?_)
          exact wp_nil ⟨_,rfl,kR,rfl⟩
         ·intro e_ w_ k_ hf_ hR_
          refine hopE [(59,B false),(62,B (!((r35.1.Low==r262.Low)&&(r35.1.High==r262.High))))] ⟨rQ (hR_ 18 59 rfl (lE rfl) rfl),rQ (hR_ 21 62 rfl (lE rfl) rfl),trivial⟩ ?_
          exact p_pkF rfl (rfl:_=B (!((r35.1.Low==r262.Low)&&(r35.1.High==r262.High))))<|wp_nil ⟨_,rfl,kR,rfl⟩
         ·intro e_ w_ k_ hf_ hR_
          refine hopE [(63,B (!((r35.1.Low==r262.Low)&&(r35.1.High==r262.High))))] ⟨rQ (hR_ 22 63 rfl (lE rfl) rfl),trivial⟩ ?_
          exact p_mB rfl<|wp_nil ⟨_,rfl,kR,congrArg Value.bool c272⟩
         ·intro e_ w_ k_ hf_ hR_
          have S_:=@A_ _ k_
          refine hopE [(3,P b80 0),(64,B false)] ⟨((hf_ 3 rfl).trans (rfl:_=P b80 0)),rQ (hR_ 23 64 rfl (lE rfl) rfl),trivial⟩ ?_
          refine gT rfl rfl (p_ldA ty51 sz51 (S_.atP (i:=0) rfl) rfl rfl ?_)
          exact wp_nil ⟨_,rfl,S_.keep,rfl⟩
         ·intro e_ w_ k_ hf_ hR_
          have S_:=@A_ _ k_
          refine hopE [(64,B false)] ⟨rQ (hR_ 23 64 rfl (lE rfl) rfl),trivial⟩ ?_
          refine gT rfl rfl (p_cv (B_Point_ok h325) fu33 rfl S_ fun w326 S327=>?_)
          exact wp_nil ⟨_,rfl,S327.keep,rfl⟩
         ·intro e_ w_ k_ hf_ hR_
          refine hopE [(64,B false),(65,AG [I r76.1.Low,I r76.1.High]),(66,AG [I r324.Low,I r324.High])] ⟨rQ (hR_ 23 64 rfl (lE rfl) rfl),rQ (hR_ 24 65 rfl (lE rfl) rfl),rQ (hR_ 25 66 rfl (lE rfl) rfl),trivial⟩ ?_
          refine gT rfl rfl (o_neA (xs:=[I r76.1.Low,I r76.1.High]) (ys:=[I r324.Low,I r324.High]) (T:=((r76.1.Low==r324.Low)&&(r76.1.High==r324.High))) rfl rfl eq51 ⟨⟨_,rfl⟩,⟨⟨_,rfl⟩,trivial⟩⟩ ⟨⟨_,rfl⟩,⟨⟨_,rfl⟩,trivial⟩⟩ (by simp [Bool.and_eq_true,and_assoc]) ?_)
          exact wp_nil ⟨_,rfl,kR,rfl⟩
         ·intro e_ w_ k_ hf_ hR_
          refine hopE [(64,B false),(67,B (!((r76.1.Low==r324.Low)&&(r76.1.High==r324.High))))] ⟨rQ (hR_ 23 64 rfl (lE rfl) rfl),rQ (hR_ 26 67 rfl (lE rfl) rfl),trivial⟩ ?_
          exact p_pkF rfl (rfl:_=B (!((r76.1.Low==r324.Low)&&(r76.1.High==r324.High))))<|wp_nil ⟨_,rfl,kR,rfl⟩
         ·intro e_ w_ k_ hf_ hR_
          refine hopE [(68,B (!((r76.1.Low==r324.Low)&&(r76.1.High==r324.High))))] ⟨rQ (hR_ 27 68 rfl (lE rfl) rfl),trivial⟩ ?_
          exact p_mB rfl<|wp_nil ⟨_,rfl,kR,congrArg Value.bool c334⟩
         ·intro e_ w_ k_ hf_ hR_
          refine hopE [(5,SL A121 r117.1.length c122),(69,B false)] ⟨((hf_ 5 rfl).trans (rfl:_=SL A121 r117.1.length c122)),rQ (hR_ 28 69 rfl (lE rfl) rfl),trivial⟩ ?_
          refine gT rfl rfl (p_mS rfl ?_)
          exact wp_nil ⟨_,rfl,kR,rfl⟩
         ·intro e_ w_ k_ hf_ hR_
          have S_:=@A_ _ k_
          refine hopE [(69,B false)] ⟨rQ (hR_ 28 69 rfl (lE rfl) rfl),trivial⟩ ?_
          refine gT rfl rfl<|p_bsl (enc:=intE) (l:=([0]:List Int)) I (fun _=>rfl) sc60 in3 intE_len rfl (by decide) (by decide) zr3_1 S_ rfl fun A378 c379 w380 S381=>wp_nil ?_
          exact ⟨_,rfl,S381.keep,⟨(A378,c379),rfl,⟨bL (New.al (S381.newX (i:=0) rfl)) rfl (S381.atX (i:=0) rfl) rfl,trivial⟩,(cA (S381.atX (i:=0) rfl) nM)⟩⟩
         ·intro e_ w_ k_ hf_ hR_
          have S_:=@A_ _ k_
          obtain ⟨_,_,_,_,q383⟩:=hR_ 28 69 rfl (lE rfl) rfl
          obtain ⟨_,_,_,_,q384⟩:=hR_ 29 70 rfl (lE rfl) rfl
          obtain ⟨_,_,_,_,⟨A378,c379⟩,q385,p386,a387⟩:=hR_ 30 71 rfl (lE rfl) rfl
          replace q385:e_ 71=SL A378 ([0]:List Int).length c379:=q385
          have S_:=St.addL' S_ (a387 _ (.head _)) (fun _ _ _ h_=>(nE h_))
          refine hopE [(69,B false),(70,SL A121 r117.1.length c122),(71,SL A378 ([0]:List Int).length c379)] ⟨q383,q384,q385,trivial⟩ ?_
          refine gT rfl rfl (p_cv (B_Alike_ok h389 (S_.atP (i:=5) rfl) (gr_rd intE_len (S_.atP (i:=0) rfl))) fu34 rfl S_ fun w390 S391=>?_)
          exact wp_nil ⟨_,rfl,S391.keep,rfl⟩
         ·intro e_ w_ k_ hf_ hR_
          refine hopE [(69,B false),(72,B r388)] ⟨rQ (hR_ 28 69 rfl (lE rfl) rfl),rQ (hR_ 31 72 rfl (lE rfl) rfl),trivial⟩ ?_
          refine gT rfl rfl (p_not rfl ?_)
          exact wp_nil ⟨_,rfl,kR,rfl⟩
         ·intro e_ w_ k_ hf_ hR_
          refine hopE [(69,B false),(73,B (!r388))] ⟨rQ (hR_ 28 69 rfl (lE rfl) rfl),rQ (hR_ 32 73 rfl (lE rfl) rfl),trivial⟩ ?_
          exact p_pkF rfl (rfl:_=B (!r388))<|wp_nil ⟨_,rfl,kR,rfl⟩
         ·intro e_ w_ k_ hf_ hR_
          refine hopE [(74,B (!r388))] ⟨rQ (hR_ 33 74 rfl (lE rfl) rfl),trivial⟩ ?_
          exact p_mB rfl<|wp_nil ⟨_,rfl,kR,congrArg Value.bool c397⟩
         ·intro e_ w_ k_ hf_ hR_
          refine hopE [(7,SL A162 r158.1.length c163),(75,B true)] ⟨((hf_ 7 rfl).trans (rfl:_=SL A162 r158.1.length c163)),rQ (hR_ 34 75 rfl (lE rfl) rfl),trivial⟩ ?_
          exact gF rfl rfl<|wp_nil ⟨_,rfl,kR,rfl⟩
         ·intro e_ w_ k_ hf_ hR_
          refine hopE [(75,B true)] ⟨rQ (hR_ 34 75 rfl (lE rfl) rfl),trivial⟩ ?_
          exact gF rfl rfl<|wp_nil ⟨_,rfl,kR,rfl⟩
         ·intro e_ w_ k_ hf_ hR_
          refine hopE [(75,B true),(76,undef),(77,undef)] ⟨rQ (hR_ 34 75 rfl (lE rfl) rfl),rQ (hR_ 35 76 rfl (lE rfl) rfl),rQ (hR_ 36 77 rfl (lE rfl) rfl),trivial⟩ ?_
          exact gF rfl rfl<|wp_nil ⟨_,rfl,kR,rfl⟩
         ·intro e_ w_ k_ hf_ hR_
          refine hopE [(75,B true),(78,undef)] ⟨rQ (hR_ 34 75 rfl (lE rfl) rfl),rQ (hR_ 37 78 rfl (lE rfl) rfl),trivial⟩ ?_
          exact gF rfl rfl<|wp_nil ⟨_,rfl,kR,rfl⟩
         ·intro e_ w_ k_ hf_ hR_
          refine hopE [(75,B true),(79,undef)] ⟨rQ (hR_ 34 75 rfl (lE rfl) rfl),rQ (hR_ 38 79 rfl (lE rfl) rfl),trivial⟩ ?_
          exact p_pkT rfl (rfl:_=B true)<|wp_nil ⟨_,rfl,kR,rfl⟩
         ·intro e_ w_ k_ hf_ hR_
          refine hopE [(80,B true)] ⟨rQ (hR_ 39 80 rfl (lE rfl) rfl),trivial⟩ ?_
          exact p_mB rfl<|wp_nil ⟨_,rfl,kR,rfl⟩
         ·intro e_ w_ k_ hf_ hR_
          refine hopE [(9,SL A203 r199.1.length c204),(81,B true)] ⟨((hf_ 9 rfl).trans (rfl:_=SL A203 r199.1.length c204)),rQ (hR_ 40 81 rfl (lE rfl) rfl),trivial⟩ ?_
          exact gF rfl rfl<|wp_nil ⟨_,rfl,kR,rfl⟩
         ·intro e_ w_ k_ hf_ hR_
          refine hopE [(81,B true)] ⟨rQ (hR_ 40 81 rfl (lE rfl) rfl),trivial⟩ ?_
          exact gF rfl rfl<|wp_nil ⟨_,rfl,kR,rfl⟩
         ·intro e_ w_ k_ hf_ hR_
          refine hopE [(81,B true),(82,undef),(83,undef)] ⟨rQ (hR_ 40 81 rfl (lE rfl) rfl),rQ (hR_ 41 82 rfl (lE rfl) rfl),rQ (hR_ 42 83 rfl (lE rfl) rfl),trivial⟩ ?_
          exact gF rfl rfl<|wp_nil ⟨_,rfl,kR,rfl⟩
         ·intro e_ w_ k_ hf_ hR_
          refine hopE [(81,B true),(84,undef)] ⟨rQ (hR_ 40 81 rfl (lE rfl) rfl),rQ (hR_ 43 84 rfl (lE rfl) rfl),trivial⟩ ?_
          exact gF rfl rfl<|wp_nil ⟨_,rfl,kR,rfl⟩
         ·intro e_ w_ k_ hf_ hR_
          refine hopE [(81,B true),(85,undef)] ⟨rQ (hR_ 40 81 rfl (lE rfl) rfl),rQ (hR_ 44 85 rfl (lE rfl) rfl),trivial⟩ ?_
          exact p_pkT rfl (rfl:_=B true)<|wp_nil ⟨_,rfl,kR,rfl⟩
         intro e417 w418 lo419 hi420 k421 hf422 hR423 hd424
         have S425:=S208.call k421
         obtain ⟨h427,h428,h429,⟨A378,c379⟩,q426,h430,h431⟩:=hR423 30 71 (lE rfl) rfl
         replace q426:e417 71=SL A378 ([0]:List Int).length c379:=q426
         obtain ⟨p432,_⟩:=h430
         have q434:e417 86=B true:=(hR423 45 86 (lE rfl) rfl).2.2.2
         refine tailE [(86,B true)] ⟨q434,trivial⟩ ?_
         intro g435
         refine wp_nil ?_
         have S436:St w nF w418 [] [gW0,gW1,gW2]:=S425.pk [] (by decide) [3,4,5] rfl rfl
         try clear S425
         refine c_true rfl<|c_seq<|reg<|p_aB rfl<|wp_nil ?_
         obtain rfl:=sJ H
         exact c_ret (rT Tryz.f9 S436.keep rfl rfl)
        ·replace H:=condF c397 H
         obtain ⟨r449,h450,H⟩:=bindS H
         rcases bE (!r449) with c458 | c458
         ·replace H:=condT c458 H
          have A_:∀ {w_:World},Keep0 w201 w_→St w_ nF w_ [] [bl b80 [I r76.1.Low,I r76.1.High] 51,bl b39 [I r35.1.Low,I r35.1.High] 51,rd intE 1 A203 c204 r199.1,rd intE 1 A162 c163 r158.1,rd intE 1 A121 c122 r117.1,gW0,gW1,gW2]:=fun k_=>S208.asP k_
          refine reg_any mixed 46 (by kernel_rfl) [rv (I r35.2),rv (B (r35.2 != 0)),rv (B false),rv (I r76.2),rv (B (r76.2 != 0)),rv (B (r76.2 != 0)),rv (B false),rv (I r117.2),rv (B (r117.2 != 0)),rv (B (r117.2 != 0)),rv (B false),rv (I r158.2),rv (B (r158.2 != 0)),rv (B (r158.2 != 0)),rv (B false),rv (I r199.2),rv (B (r199.2 != 0)),rv (B (r199.2 != 0)),rv (B false),rv (AG [I r35.1.Low,I r35.1.High]),rv (AG [I r262.Low,I r262.High]),rv (B (!((r35.1.Low==r262.Low)&&(r35.1.High==r262.High)))),rv (B (!((r35.1.Low==r262.Low)&&(r35.1.High==r262.High)))),rv (B false),rv (AG [I r76.1.Low,I r76.1.High]),rv (AG [I r324.Low,I r324.High]),rv (B (!((r76.1.Low==r324.Low)&&(r76.1.High==r324.High)))),rv (B (!((r76.1.Low==r324.Low)&&(r76.1.High==r324.High)))),rv (B false),rv (SL A121 r117.1.length c122),rx (α:=(Option Addr)×Nat) (fun ⟨A378,c379⟩=>SL A378 ([0]:List Int).length c379) (fun ⟨A378,c379⟩ lo hi=>BtwL lo hi [] (gr intE 1 3 A378 c379 ([0]:List Int))∧True) (fun ⟨A378,c379⟩=>[gr intE 1 3 A378 c379 ([0]:List Int)]),rv (B r388),rv (B (!r388)),rv (B (!r388)),rv (B false),rv (SL A162 r158.1.length c163),rx (α:=(Option Addr)×Nat) (fun ⟨A439,c440⟩=>SL A439 [0,2].length c440) (fun ⟨A439,c440⟩ lo hi=>BtwL lo hi [] (gr intE 1 3 A439 c440 [0,2])∧True) (fun ⟨A439,c440⟩=>[gr intE 1 3 A439 c440 [0,2]]),rv (B r449),rv (B (!r449)),rv (B (!r449)),rv (B true),rv (undef),rv (undef),rv (undef),rv (undef),rv (B true)] [[],[],[],[],[],[],[],[],[],[],[],[],[],[],[],[],[],[],[],[],[],[],[],[],[],[],[],[],[],[],[],[],[],[],[],[],[],[],[],[],[],[],[],[],[],[]] rfl (by kernel_rfl) [[],[0],[0,1],[0,1,2],[0,1,2,3],[0,1,2,3,4],[0,1,2,3,4,5],[0,1,2,3,4,5,6],[0,1,2,3,4,5,6,7],[0,1,2,3,4,5,6,7,8],[0,1,2,3,4,5,6,7,8,9],[0,1,2,3,4,5,6,7,8,9,10],[0,1,2,3,4,5,6,7,8,9,10,11],[0,1,2,3,4,5,6,7,8,9,10,11,12],[0,1,2,3,4,5,6,7,8,9,10,11,12,13],[0,1,2,3,4,5,6,7,8,9,10,11,12,13,14],[0,1,2,3,4,5,6,7,8,9,10,11,12,13,14,15],[0,1,2,3,4,5,6,7,8,9,10,11,12,13,14,15,16],[0,1,2,3,4,5,6,7,8,9,10,11,12,13,14,15,16,17],[0,1,2,3,4,5,6,7,8,9,10,11,12,13,14,15,16,17,18],[0,1,2,3,4,5,6,7,8,9,10,11,12,13,14,15,16,17,18],[0,1,2,3,4,5,6,7,8,9,10,11,12,13,14,15,16,17,18,19,20],[0,1,2,3,4,5,6,7,8,9,10,11,12,13,14,15,16,17,18,19,20,21],[0,1,2,3,4,5,6,7,8,9,10,11,12,13,14,15,16,17,18,19,20,21,22],[0,1,2,3,4,5,6,7,8,9,10,11,12,13,14,15,16,17,18,19,20,21,22,23],[0,1,2,3,4,5,6,7,8,9,10,11,12,13,14,15,16,17,18,19,20,21,22,23],[0,1,2,3,4,5,6,7,8,9,10,11,12,13,14,15,16,17,18,19,20,21,22,23,24,25],[0,1,2,3,4,5,6,7,8,9,10,11,12,13,14,15,16,17,18,19,20,21,22,23,24,25,26],[0,1,2,3,4,5,6,7,8,9,10,11,12,13,14,15,16,17,18,19,20,21,22,23,24,25,26,27],[0,1,2,3,4,5,6,7,8,9,10,11,12,13,14,15,16,17,18,19,20,21,22,23,24,25,26,27,28],[0,1,2,3,4,5,6,7,8,9,10,11,12,13,14,15,16,17,18,19,20,21,22,23,24,25,26,27,28],[0,1,2,3,4,5,6,7,8,9,10,11,12,13,14,15,16,17,18,19,20,21,22,23,24,25,26,27,28,29,30],[0,1,2,3,4,5,6,7,8,9,10,11,12,13,14,15,16,17,18,19,20,21,22,23,24,25,26,27,28,29,30,31],[0,1,2,3,4,5,6,7,8,9,10,11,12,13,14,15,16,17,18,19,20,21,22,23,24,25,26,27,28,29,30,31,32],[0,1,2,3,4,5,6,7,8,9,10,11,12,13,14,15,16,17,18,19,20,21,22,23,24,25,26,27,28,29,30,31,32,33],[0,1,2,3,4,5,6,7,8,9,10,11,12,13,14,15,16,17,18,19,20,21,22,23,24,25,26,27,28,29,30,31,32,33,34],[0,1,2,3,4,5,6,7,8,9,10,11,12,13,14,15,16,17,18,19,20,21,22,23,24,25,26,27,28,29,30,31,32,33,34],[0,1,2,3,4,5,6,7,8,9,10,11,12,13,14,15,16,17,18,19,20,21,22,23,24,25,26,27,28,29,30,31,32,33,34,35,36],[0,1,2,3,4,5,6,7,8,9,10,11,12,13,14,15,16,17,18,19,20,21,22,23,24,25,26,27,28,29,30,31,32,33,34,35,36,37],[0,1,2,3,4,5,6,7,8,9,10,11,12,13,14,15,16,17,18,19,20,21,22,23,24,25,26,27,28,29,30,31,32,33,34,35,36,37,38],[0,1,2,3,4,5,6,7,8,9,10,11,12,13,14,15,16,17,18,19,20,21,22,23,24,25,26,27,28,29,30,31,32,33,34,35,36,37,38,39],[0,1,2,3,4,5,6,7,8,9,10,11,12,13,14,15,16,17,18,19,20,21,22,23,24,25,26,27,28,29,30,31,32,33,34,35,36,37,38,39,40],[0,1,2,3,4,5,6,7,8,9,10,11,12,13,14,15,16,17,18,19,20,21,22,23,24,25,26,27,28,29,30,31,32,33,34,35,36,37,38,39,40],[0,1,2,3,4,5,6,7,8,9,10,11,12,13,14,15,16,17,18,19,20,21,22,23,24,25,26,27,28,29,30,31,32,33,34,35,36,37,38,39,40,41,42],[0,1,2,3,4,5,6,7,8,9,10,11,12,13,14,15,16,17,18,19,20,21,22,23,24,25,26,27,28,29,30,31,32,33,34,35,36,37,38,39,40,41,42,43],[0,1,2,3,4,5,6,7,8,9,10,11,12,13,14,15,16,17,18,19,20,21,22,23,24,25,26,27,28,29,30,31,32,33,34,35,36,37,38,39,40,41,42,43,44]] (by kernel_rfl) ⟨?_,?_,?_,?_,?_,?_,?_,?_,?_,?_,?_,?_,?_,?_,?_,?_,?_,?_,?_,?_,?_,?_,?_,?_,?_,?_,?_,?_,?_,?_,?_,?_,?_,?_,?_,?_,?_,?_,?_,?_,?_,?_,?_,?_,?_,?_,trivial⟩ ?_
          ·intro e_ w_ k_ hf_ hR_
           refine hopE [(2,I r35.2)] ⟨((hf_ 2 rfl).trans (rfl:_=I r35.2)),trivial⟩ ?_
           exact p_mI rfl<|wp_nil ⟨_,rfl,kR,rfl⟩
          ·intro e_ w_ k_ hf_ hR_
           refine hopE [(41,I r35.2)] ⟨rQ (hR_ 0 41 rfl (lE rfl) rfl),trivial⟩ ?_
           exact p_cmp rfl rfl rfl<|wp_nil ⟨_,rfl,kR,rfl⟩
          ·intro e_ w_ k_ hf_ hR_
           refine hopE [(42,B (r35.2 != 0))] ⟨rQ (hR_ 1 42 rfl (lE rfl) rfl),trivial⟩ ?_
           exact p_mB rfl<|wp_nil ⟨_,rfl,kR,congrArg Value.bool c211⟩
          ·intro e_ w_ k_ hf_ hR_
           refine hopE [(4,I r76.2),(43,B false)] ⟨((hf_ 4 rfl).trans (rfl:_=I r76.2)),rQ (hR_ 2 43 rfl (lE rfl) rfl),trivial⟩ ?_
           refine gT rfl rfl (p_mI rfl ?_)
           exact wp_nil ⟨_,rfl,kR,rfl⟩
          ·intro e_ w_ k_ hf_ hR_
           refine hopE [(43,B false),(44,I r76.2)] ⟨rQ (hR_ 2 43 rfl (lE rfl) rfl),rQ (hR_ 3 44 rfl (lE rfl) rfl),trivial⟩ ?_
           refine gT rfl rfl (p_cmp rfl rfl rfl ?_)
           exact wp_nil ⟨_,rfl,kR,rfl⟩
          ·intro e_ w_ k_ hf_ hR_
           refine hopE [(43,B false),(45,B (r76.2 != 0))] ⟨rQ (hR_ 2 43 rfl (lE rfl) rfl),rQ (hR_ 4 45 rfl (lE rfl) rfl),trivial⟩ ?_
           exact p_pkF rfl (rfl:_=B (r76.2 != 0))<|wp_nil ⟨_,rfl,kR,rfl⟩
          ·intro e_ w_ k_ hf_ hR_
           refine hopE [(46,B (r76.2 != 0))] ⟨rQ (hR_ 5 46 rfl (lE rfl) rfl),trivial⟩ ?_
           exact p_mB rfl<|wp_nil ⟨_,rfl,kR,congrArg Value.bool c222⟩
          ·intro e_ w_ k_ hf_ hR_
           refine hopE [(6,I r117.2),(47,B false)] ⟨((hf_ 6 rfl).trans (rfl:_=I r117.2)),rQ (hR_ 6 47 rfl (lE rfl) rfl),trivial⟩ ?_
           refine gT rfl rfl (p_mI rfl ?_)
           exact wp_nil ⟨_,rfl,kR,rfl⟩
          ·intro e_ w_ k_ hf_ hR_
           refine hopE [(47,B false),(48,I r117.2)] ⟨rQ (hR_ 6 47 rfl (lE rfl) rfl),rQ (hR_ 7 48 rfl (lE rfl) rfl),trivial⟩ ?_
           refine gT rfl rfl (p_cmp rfl rfl rfl ?_)
           exact wp_nil ⟨_,rfl,kR,rfl⟩
          ·intro e_ w_ k_ hf_ hR_
           refine hopE [(47,B false),(49,B (r117.2 != 0))] ⟨rQ (hR_ 6 47 rfl (lE rfl) rfl),rQ (hR_ 8 49 rfl (lE rfl) rfl),trivial⟩ ?_
           exact p_pkF rfl (rfl:_=B (r117.2 != 0))<|wp_nil ⟨_,rfl,kR,rfl⟩
          ·intro e_ w_ k_ hf_ hR_
           refine hopE [(50,B (r117.2 != 0))] ⟨rQ (hR_ 9 50 rfl (lE rfl) rfl),trivial⟩ ?_
           exact p_mB rfl<|wp_nil ⟨_,rfl,kR,congrArg Value.bool c233⟩
          ·intro e_ w_ k_ hf_ hR_
           refine hopE [(8,I r158.2),(51,B false)] ⟨((hf_ 8 rfl).trans (rfl:_=I r158.2)),rQ (hR_ 10 51 rfl (lE rfl) rfl),trivial⟩ ?_
           refine gT rfl rfl (p_mI rfl ?_)
           exact wp_nil ⟨_,rfl,kR,rfl⟩
          ·intro e_ w_ k_ hf_ hR_
           refine hopE [(51,B false),(52,I r158.2)] ⟨rQ (hR_ 10 51 rfl (lE rfl) rfl),rQ (hR_ 11 52 rfl (lE rfl) rfl),trivial⟩ ?_
           refine gT rfl rfl (p_cmp rfl rfl rfl ?_)
           exact wp_nil ⟨_,rfl,kR,rfl⟩
          ·intro e_ w_ k_ hf_ hR_
           refine hopE [(51,B false),(53,B (r158.2 != 0))] ⟨rQ (hR_ 10 51 rfl (lE rfl) rfl),rQ (hR_ 12 53 rfl (lE rfl) rfl),trivial⟩ ?_
           exact p_pkF rfl (rfl:_=B (r158.2 != 0))<|wp_nil ⟨_,rfl,kR,rfl⟩
          ·intro e_ w_ k_ hf_ hR_
           refine hopE [(54,B (r158.2 != 0))] ⟨rQ (hR_ 13 54 rfl (lE rfl) rfl),trivial⟩ ?_
           exact p_mB rfl<|wp_nil ⟨_,rfl,kR,congrArg Value.bool c244⟩
          ·intro e_ w_ k_ hf_ hR_
           refine hopE [(10,I r199.2),(55,B false)] ⟨((hf_ 10 rfl).trans (rfl:_=I r199.2)),rQ (hR_ 14 55 rfl (lE rfl) rfl),trivial⟩ ?_
           refine gT rfl rfl (p_mI rfl ?_)
           exact wp_nil ⟨_,rfl,kR,rfl⟩
          ·intro e_ w_ k_ hf_ hR_
           refine hopE [(55,B false),(56,I r199.2)] ⟨rQ (hR_ 14 55 rfl (lE rfl) rfl),rQ (hR_ 15 56 rfl (lE rfl) rfl),trivial⟩ ?_
           refine gT rfl rfl (p_cmp rfl rfl rfl ?_)
           exact wp_nil ⟨_,rfl,kR,rfl⟩
          ·intro e_ w_ k_ hf_ hR_
           refine hopE [(55,B false),(57,B (r199.2 != 0))] ⟨rQ (hR_ 14 55 rfl (lE rfl) rfl),rQ (hR_ 16 57 rfl (lE rfl) rfl),trivial⟩ ?_
           exact p_pkF rfl (rfl:_=B (r199.2 != 0))<|wp_nil ⟨_,rfl,kR,rfl⟩
          ·intro e_ w_ k_ hf_ hR_
           refine hopE [(58,B (r199.2 != 0))] ⟨rQ (hR_ 17 58 rfl (lE rfl) rfl),trivial⟩ ?_
           exact p_mB rfl<|wp_nil ⟨_,rfl,kR,congrArg Value.bool c255⟩
          ·intro e_ w_ k_ hf_ hR_
           have S_:=@A_ _ k_
           refine hopE [(1,P b39 0),(59,B false)] ⟨((hf_ 1 rfl).trans (rfl:_=P b39 0)),rQ (hR_ 18 59 rfl (lE rfl) rfl),trivial⟩ ?_
           refine gT rfl rfl (p_ldA ty51 sz51 (S_.atP (i:=1) rfl) rfl rfl ?_)
           exact wp_nil ⟨_,rfl,S_.keep,rfl⟩
          ·intro e_ w_ k_ hf_ hR_
           have S_:=@A_ _ k_
           refine hopE [(59,B false)] ⟨rQ (hR_ 18 59 rfl (lE rfl) rfl),trivial⟩ ?_
           refine gT rfl rfl (p_cv (B_Range_ok h263) fu32 rfl S_ fun w264 S265=>?_)
           exact wp_nil ⟨_,rfl,S265.keep,rfl⟩
          ·intro e_ w_ k_ hf_ hR_
           refine hopE [(59,B false),(60,AG [I r35.1.Low,I r35.1.High]),(61,AG [I r262.Low,I r262.High])] ⟨rQ (hR_ 18 59 rfl (lE rfl) rfl),rQ (hR_ 19 60 rfl (lE rfl) rfl),rQ (hR_ 20 61 rfl (lE rfl) rfl),trivial⟩ ?_
           refine gT rfl rfl (o_neA (xs:=[I r35.1.Low,I r35.1.High]) (ys:=[I r262.Low,I r262.High]) (T:=((r35.1.Low==r262.Low)&&(r35.1.High==r262.High))) rfl rfl eq51 ⟨⟨_,rfl⟩,⟨⟨_,rfl⟩,trivial⟩⟩ ⟨⟨_,rfl⟩,⟨⟨_,rfl⟩,trivial⟩⟩ (by simp [Bool.and_eq_true,and_assoc]) ?_)
           exact wp_nil ⟨_,rfl,kR,rfl⟩
          ·intro e_ w_ k_ hf_ hR_
           refine hopE [(59,B false),(62,B (!((r35.1.Low==r262.Low)&&(r35.1.High==r262.High))))] ⟨rQ (hR_ 18 59 rfl (lE rfl) rfl),rQ (hR_ 21 62 rfl (lE rfl) rfl),trivial⟩ ?_
           exact p_pkF rfl (rfl:_=B (!((r35.1.Low==r262.Low)&&(r35.1.High==r262.High))))<|wp_nil ⟨_,rfl,kR,rfl⟩
          ·intro e_ w_ k_ hf_ hR_
           refine hopE [(63,B (!((r35.1.Low==r262.Low)&&(r35.1.High==r262.High))))] ⟨rQ (hR_ 22 63 rfl (lE rfl) rfl),trivial⟩ ?_
           exact p_mB rfl<|wp_nil ⟨_,rfl,kR,congrArg Value.bool c272⟩
          ·intro e_ w_ k_ hf_ hR_
           have S_:=@A_ _ k_
           refine hopE [(3,P b80 0),(64,B false)] ⟨((hf_ 3 rfl).trans (rfl:_=P b80 0)),rQ (hR_ 23 64 rfl (lE rfl) rfl),trivial⟩ ?_
           refine gT rfl rfl (p_ldA ty51 sz51 (S_.atP (i:=0) rfl) rfl rfl ?_)
           exact wp_nil ⟨_,rfl,S_.keep,rfl⟩
          ·intro e_ w_ k_ hf_ hR_
           have S_:=@A_ _ k_
           refine hopE [(64,B false)] ⟨rQ (hR_ 23 64 rfl (lE rfl) rfl),trivial⟩ ?_
           refine gT rfl rfl (p_cv (B_Point_ok h325) fu33 rfl S_ fun w326 S327=>?_)
           exact wp_nil ⟨_,rfl,S327.keep,rfl⟩
          ·intro e_ w_ k_ hf_ hR_
           refine hopE [(64,B false),(65,AG [I r76.1.Low,I r76.1.High]),(66,AG [I r324.Low,I r324.High])] ⟨rQ (hR_ 23 64 rfl (lE rfl) rfl),rQ (hR_ 24 65 rfl (lE rfl) rfl),rQ (hR_ 25 66 rfl (lE rfl) rfl),trivial⟩ ?_
           refine gT rfl rfl (o_neA (xs:=[I r76.1.Low,I r76.1.High]) (ys:=[I r324.Low,I r324.High]) (T:=((r76.1.Low==r324.Low)&&(r76.1.High==r324.High))) rfl rfl eq51 ⟨⟨_,rfl⟩,⟨⟨_,rfl⟩,trivial⟩⟩ ⟨⟨_,rfl⟩,⟨⟨_,rfl⟩,trivial⟩⟩ (by simp [Bool.and_eq_true,and_assoc]) ?_)
           exact wp_nil ⟨_,rfl,kR,rfl⟩
          ·intro e_ w_ k_ hf_ hR_
           refine hopE [(64,B false),(67,B (!((r76.1.Low==r324.Low)&&(r76.1.High==r324.High))))] ⟨rQ (hR_ 23 64 rfl (lE rfl) rfl),rQ (hR_ 26 67 rfl (lE rfl) rfl),trivial⟩ ?_
           exact p_pkF rfl (rfl:_=B (!((r76.1.Low==r324.Low)&&(r76.1.High==r324.High))))<|wp_nil ⟨_,rfl,kR,rfl⟩
          ·intro e_ w_ k_ hf_ hR_
           refine hopE [(68,B (!((r76.1.Low==r324.Low)&&(r76.1.High==r324.High))))] ⟨rQ (hR_ 27 68 rfl (lE rfl) rfl),trivial⟩ ?_
           exact p_mB rfl<|wp_nil ⟨_,rfl,kR,congrArg Value.bool c334⟩
          ·intro e_ w_ k_ hf_ hR_
           refine hopE [(5,SL A121 r117.1.length c122),(69,B false)] ⟨((hf_ 5 rfl).trans (rfl:_=SL A121 r117.1.length c122)),rQ (hR_ 28 69 rfl (lE rfl) rfl),trivial⟩ ?_
           refine gT rfl rfl (p_mS rfl ?_)
           exact wp_nil ⟨_,rfl,kR,rfl⟩
          ·intro e_ w_ k_ hf_ hR_
           have S_:=@A_ _ k_
           refine hopE [(69,B false)] ⟨rQ (hR_ 28 69 rfl (lE rfl) rfl),trivial⟩ ?_
           refine gT rfl rfl<|p_bsl (enc:=intE) (l:=([0]:List Int)) I (fun _=>rfl) sc60 in3 intE_len rfl (by decide) (by decide) zr3_1 S_ rfl fun A378 c379 w380 S381=>wp_nil ?_
           exact ⟨_,rfl,S381.keep,⟨(A378,c379),rfl,⟨bL (New.al (S381.newX (i:=0) rfl)) rfl (S381.atX (i:=0) rfl) rfl,trivial⟩,(cA (S381.atX (i:=0) rfl) nM)⟩⟩
          ·intro e_ w_ k_ hf_ hR_
           have S_:=@A_ _ k_
           obtain ⟨_,_,_,_,q383⟩:=hR_ 28 69 rfl (lE rfl) rfl
           obtain ⟨_,_,_,_,q384⟩:=hR_ 29 70 rfl (lE rfl) rfl
           obtain ⟨_,_,_,_,⟨A378,c379⟩,q385,p386,a387⟩:=hR_ 30 71 rfl (lE rfl) rfl
           replace q385:e_ 71=SL A378 ([0]:List Int).length c379:=q385
           have S_:=St.addL' S_ (a387 _ (.head _)) (fun _ _ _ h_=>(nE h_))
           refine hopE [(69,B false),(70,SL A121 r117.1.length c122),(71,SL A378 ([0]:List Int).length c379)] ⟨q383,q384,q385,trivial⟩ ?_
           refine gT rfl rfl (p_cv (B_Alike_ok h389 (S_.atP (i:=5) rfl) (gr_rd intE_len (S_.atP (i:=0) rfl))) fu34 rfl S_ fun w390 S391=>?_)
           exact wp_nil ⟨_,rfl,S391.keep,rfl⟩
          ·intro e_ w_ k_ hf_ hR_
           refine hopE [(69,B false),(72,B r388)] ⟨rQ (hR_ 28 69 rfl (lE rfl) rfl),rQ (hR_ 31 72 rfl (lE rfl) rfl),trivial⟩ ?_
           refine gT rfl rfl (p_not rfl ?_)
           exact wp_nil ⟨_,rfl,kR,rfl⟩
          ·intro e_ w_ k_ hf_ hR_
           refine hopE [(69,B false),(73,B (!r388))] ⟨rQ (hR_ 28 69 rfl (lE rfl) rfl),rQ (hR_ 32 73 rfl (lE rfl) rfl),trivial⟩ ?_
           exact p_pkF rfl (rfl:_=B (!r388))<|wp_nil ⟨_,rfl,kR,rfl⟩
          ·intro e_ w_ k_ hf_ hR_
           refine hopE [(74,B (!r388))] ⟨rQ (hR_ 33 74 rfl (lE rfl) rfl),trivial⟩ ?_
           exact p_mB rfl<|wp_nil ⟨_,rfl,kR,congrArg Value.bool c397⟩
          ·intro e_ w_ k_ hf_ hR_
           refine hopE [(7,SL A162 r158.1.length c163),(75,B false)] ⟨((hf_ 7 rfl).trans (rfl:_=SL A162 r158.1.length c163)),rQ (hR_ 34 75 rfl (lE rfl) rfl),trivial⟩ ?_
           refine gT rfl rfl (p_mS rfl ?_)
           exact wp_nil ⟨_,rfl,kR,rfl⟩
          ·intro e_ w_ k_ hf_ hR_
           have S_:=@A_ _ k_
           refine hopE [(75,B false)] ⟨rQ (hR_ 34 75 rfl (lE rfl) rfl),trivial⟩ ?_
           refine gT rfl rfl<|p_bsl (enc:=intE) (l:=[0,2]) I (fun _=>rfl) sc60 in3 intE_len rfl (by decide) (by decide) zr3_2 S_ rfl fun A439 c440 w441 S442=>wp_nil ?_
           exact ⟨_,rfl,S442.keep,⟨(A439,c440),rfl,⟨bL (New.al (S442.newX (i:=0) rfl)) rfl (S442.atX (i:=0) rfl) rfl,trivial⟩,(cA (S442.atX (i:=0) rfl) nM)⟩⟩
          ·intro e_ w_ k_ hf_ hR_
           have S_:=@A_ _ k_
           obtain ⟨_,_,_,_,q444⟩:=hR_ 34 75 rfl (lE rfl) rfl
           obtain ⟨_,_,_,_,q445⟩:=hR_ 35 76 rfl (lE rfl) rfl
           obtain ⟨_,_,_,_,⟨A439,c440⟩,q446,p447,a448⟩:=hR_ 36 77 rfl (lE rfl) rfl
           replace q446:e_ 77=SL A439 [0,2].length c440:=q446
           have S_:=St.addL' S_ (a448 _ (.head _)) (fun _ _ _ h_=>(nE h_))
           refine hopE [(75,B false),(76,SL A162 r158.1.length c163),(77,SL A439 [0,2].length c440)] ⟨q444,q445,q446,trivial⟩ ?_
           refine gT rfl rfl (p_cv (B_Alike_ok h450 (S_.atP (i:=4) rfl) (gr_rd intE_len (S_.atP (i:=0) rfl))) fu34 rfl S_ fun w451 S452=>?_)
           exact wp_nil ⟨_,rfl,S452.keep,rfl⟩
          ·intro e_ w_ k_ hf_ hR_
           refine hopE [(75,B false),(78,B r449)] ⟨rQ (hR_ 34 75 rfl (lE rfl) rfl),rQ (hR_ 37 78 rfl (lE rfl) rfl),trivial⟩ ?_
           refine gT rfl rfl (p_not rfl ?_)
           exact wp_nil ⟨_,rfl,kR,rfl⟩
          ·intro e_ w_ k_ hf_ hR_
           refine hopE [(75,B false),(79,B (!r449))] ⟨rQ (hR_ 34 75 rfl (lE rfl) rfl),rQ (hR_ 38 79 rfl (lE rfl) rfl),trivial⟩ ?_
           exact p_pkF rfl (rfl:_=B (!r449))<|wp_nil ⟨_,rfl,kR,rfl⟩
          ·intro e_ w_ k_ hf_ hR_
           refine hopE [(80,B (!r449))] ⟨rQ (hR_ 39 80 rfl (lE rfl) rfl),trivial⟩ ?_
           exact p_mB rfl<|wp_nil ⟨_,rfl,kR,congrArg Value.bool c458⟩
          ·intro e_ w_ k_ hf_ hR_
           refine hopE [(9,SL A203 r199.1.length c204),(81,B true)] ⟨((hf_ 9 rfl).trans (rfl:_=SL A203 r199.1.length c204)),rQ (hR_ 40 81 rfl (lE rfl) rfl),trivial⟩ ?_
           exact gF rfl rfl<|wp_nil ⟨_,rfl,kR,rfl⟩
          ·intro e_ w_ k_ hf_ hR_
           refine hopE [(81,B true)] ⟨rQ (hR_ 40 81 rfl (lE rfl) rfl),trivial⟩ ?_
           exact gF rfl rfl<|wp_nil ⟨_,rfl,kR,rfl⟩
          ·intro e_ w_ k_ hf_ hR_
           refine hopE [(81,B true),(82,undef),(83,undef)] ⟨rQ (hR_ 40 81 rfl (lE rfl) rfl),rQ (hR_ 41 82 rfl (lE rfl) rfl),rQ (hR_ 42 83 rfl (lE rfl) rfl),trivial⟩ ?_
           exact gF rfl rfl<|wp_nil ⟨_,rfl,kR,rfl⟩
          ·intro e_ w_ k_ hf_ hR_
           refine hopE [(81,B true),(84,undef)] ⟨rQ (hR_ 40 81 rfl (lE rfl) rfl),rQ (hR_ 43 84 rfl (lE rfl) rfl),trivial⟩ ?_
           exact gF rfl rfl<|wp_nil ⟨_,rfl,kR,rfl⟩
          ·intro e_ w_ k_ hf_ hR_
           refine hopE [(81,B true),(85,undef)] ⟨rQ (hR_ 40 81 rfl (lE rfl) rfl),rQ (hR_ 44 85 rfl (lE rfl) rfl),trivial⟩ ?_
           exact p_pkT rfl (rfl:_=B true)<|wp_nil ⟨_,rfl,kR,rfl⟩
          intro e468 w469 lo470 hi471 k472 hf473 hR474 hd475
          have S476:=S208.call k472
          obtain ⟨h478,h479,h480,⟨A378,c379⟩,q477,h481,h482⟩:=hR474 30 71 (lE rfl) rfl
          replace q477:e468 71=SL A378 ([0]:List Int).length c379:=q477
          obtain ⟨p483,_⟩:=h481
          obtain ⟨h486,h487,h488,⟨A439,c440⟩,q485,h489,h490⟩:=hR474 36 77 (lE rfl) rfl
          replace q485:e468 77=SL A439 [0,2].length c440:=q485
          obtain ⟨p491,_⟩:=h489
          have q493:e468 86=B true:=(hR474 45 86 (lE rfl) rfl).2.2.2
          refine tailE [(86,B true)] ⟨q493,trivial⟩ ?_
          intro g494
          refine wp_nil ?_
          have S495:St w nF w469 [] [gW0,gW1,gW2]:=S476.pk [] (by decide) [3,4,5] rfl rfl
          try clear S476
          refine c_true rfl<|c_seq<|reg<|p_aB rfl<|wp_nil ?_
          obtain rfl:=sJ H
          exact c_ret (rT Tryz.f9 S495.keep rfl rfl)
         ·replace H:=condF c458 H
          obtain ⟨r508,h509,H⟩:=bindS H
          have A_:∀ {w_:World},Keep0 w201 w_→St w_ nF w_ [] [bl b80 [I r76.1.Low,I r76.1.High] 51,bl b39 [I r35.1.Low,I r35.1.High] 51,rd intE 1 A203 c204 r199.1,rd intE 1 A162 c163 r158.1,rd intE 1 A121 c122 r117.1,gW0,gW1,gW2]:=fun k_=>S208.asP k_
          refine reg_any mixed 46 (by kernel_rfl) [rv (I r35.2),rv (B (r35.2 != 0)),rv (B false),rv (I r76.2),rv (B (r76.2 != 0)),rv (B (r76.2 != 0)),rv (B false),rv (I r117.2),rv (B (r117.2 != 0)),rv (B (r117.2 != 0)),rv (B false),rv (I r158.2),rv (B (r158.2 != 0)),rv (B (r158.2 != 0)),rv (B false),rv (I r199.2),rv (B (r199.2 != 0)),rv (B (r199.2 != 0)),rv (B false),rv (AG [I r35.1.Low,I r35.1.High]),rv (AG [I r262.Low,I r262.High]),rv (B (!((r35.1.Low==r262.Low)&&(r35.1.High==r262.High)))),rv (B (!((r35.1.Low==r262.Low)&&(r35.1.High==r262.High)))),rv (B false),rv (AG [I r76.1.Low,I r76.1.High]),rv (AG [I r324.Low,I r324.High]),rv (B (!((r76.1.Low==r324.Low)&&(r76.1.High==r324.High)))),rv (B (!((r76.1.Low==r324.Low)&&(r76.1.High==r324.High)))),rv (B false),rv (SL A121 r117.1.length c122),rx (α:=(Option Addr)×Nat) (fun ⟨A378,c379⟩=>SL A378 ([0]:List Int).length c379) (fun ⟨A378,c379⟩ lo hi=>BtwL lo hi [] (gr intE 1 3 A378 c379 ([0]:List Int))∧True) (fun ⟨A378,c379⟩=>[gr intE 1 3 A378 c379 ([0]:List Int)]),rv (B r388),rv (B (!r388)),rv (B (!r388)),rv (B false),rv (SL A162 r158.1.length c163),rx (α:=(Option Addr)×Nat) (fun ⟨A439,c440⟩=>SL A439 [0,2].length c440) (fun ⟨A439,c440⟩ lo hi=>BtwL lo hi [] (gr intE 1 3 A439 c440 [0,2])∧True) (fun ⟨A439,c440⟩=>[gr intE 1 3 A439 c440 [0,2]]),rv (B r449),rv (B (!r449)),rv (B (!r449)),rv (B false),rv (SL A203 r199.1.length c204),rx (α:=(Option Addr)×Nat) (fun ⟨A498,c499⟩=>SL A498 ([0]:List Int).length c499) (fun ⟨A498,c499⟩ lo hi=>BtwL lo hi [] (gr intE 1 3 A498 c499 ([0]:List Int))∧True) (fun ⟨A498,c499⟩=>[gr intE 1 3 A498 c499 ([0]:List Int)]),rv (B r508),rv (B (!r508)),rv (B (!r508))] [[],[],[],[],[],[],[],[],[],[],[],[],[],[],[],[],[],[],[],[],[],[],[],[],[],[],[],[],[],[],[],[],[],[],[],[],[],[],[],[],[],[],[],[],[],[]] rfl (by kernel_rfl) [[],[0],[0,1],[0,1,2],[0,1,2,3],[0,1,2,3,4],[0,1,2,3,4,5],[0,1,2,3,4,5,6],[0,1,2,3,4,5,6,7],[0,1,2,3,4,5,6,7,8],[0,1,2,3,4,5,6,7,8,9],[0,1,2,3,4,5,6,7,8,9,10],[0,1,2,3,4,5,6,7,8,9,10,11],[0,1,2,3,4,5,6,7,8,9,10,11,12],[0,1,2,3,4,5,6,7,8,9,10,11,12,13],[0,1,2,3,4,5,6,7,8,9,10,11,12,13,14],[0,1,2,3,4,5,6,7,8,9,10,11,12,13,14,15],[0,1,2,3,4,5,6,7,8,9,10,11,12,13,14,15,16],[0,1,2,3,4,5,6,7,8,9,10,11,12,13,14,15,16,17],[0,1,2,3,4,5,6,7,8,9,10,11,12,13,14,15,16,17,18],[0,1,2,3,4,5,6,7,8,9,10,11,12,13,14,15,16,17,18],[0,1,2,3,4,5,6,7,8,9,10,11,12,13,14,15,16,17,18,19,20],[0,1,2,3,4,5,6,7,8,9,10,11,12,13,14,15,16,17,18,19,20,21],[0,1,2,3,4,5,6,7,8,9,10,11,12,13,14,15,16,17,18,19,20,21,22],[0,1,2,3,4,5,6,7,8,9,10,11,12,13,14,15,16,17,18,19,20,21,22,23],[0,1,2,3,4,5,6,7,8,9,10,11,12,13,14,15,16,17,18,19,20,21,22,23],[0,1,2,3,4,5,6,7,8,9,10,11,12,13,14,15,16,17,18,19,20,21,22,23,24,25],[0,1,2,3,4,5,6,7,8,9,10,11,12,13,14,15,16,17,18,19,20,21,22,23,24,25,26],[0,1,2,3,4,5,6,7,8,9,10,11,12,13,14,15,16,17,18,19,20,21,22,23,24,25,26,27],[0,1,2,3,4,5,6,7,8,9,10,11,12,13,14,15,16,17,18,19,20,21,22,23,24,25,26,27,28],[0,1,2,3,4,5,6,7,8,9,10,11,12,13,14,15,16,17,18,19,20,21,22,23,24,25,26,27,28],[0,1,2,3,4,5,6,7,8,9,10,11,12,13,14,15,16,17,18,19,20,21,22,23,24,25,26,27,28,29,30],[0,1,2,3,4,5,6,7,8,9,10,11,12,13,14,15,16,17,18,19,20,21,22,23,24,25,26,27,28,29,30,31],[0,1,2,3,4,5,6,7,8,9,10,11,12,13,14,15,16,17,18,19,20,21,22,23,24,25,26,27,28,29,30,31,32],[0,1,2,3,4,5,6,7,8,9,10,11,12,13,14,15,16,17,18,19,20,21,22,23,24,25,26,27,28,29,30,31,32,33],[0,1,2,3,4,5,6,7,8,9,10,11,12,13,14,15,16,17,18,19,20,21,22,23,24,25,26,27,28,29,30,31,32,33,34],[0,1,2,3,4,5,6,7,8,9,10,11,12,13,14,15,16,17,18,19,20,21,22,23,24,25,26,27,28,29,30,31,32,33,34],[0,1,2,3,4,5,6,7,8,9,10,11,12,13,14,15,16,17,18,19,20,21,22,23,24,25,26,27,28,29,30,31,32,33,34,35,36],[0,1,2,3,4,5,6,7,8,9,10,11,12,13,14,15,16,17,18,19,20,21,22,23,24,25,26,27,28,29,30,31,32,33,34,35,36,37],[0,1,2,3,4,5,6,7,8,9,10,11,12,13,14,15,16,17,18,19,20,21,22,23,24,25,26,27,28,29,30,31,32,33,34,35,36,37,38],[0,1,2,3,4,5,6,7,8,9,10,11,12,13,14,15,16,17,18,19,20,21,22,23,24,25,26,27,28,29,30,31,32,33,34,35,36,37,38,39],[0,1,2,3,4,5,6,7,8,9,10,11,12,13,14,15,16,17,18,19,20,21,22,23,24,25,26,27,28,29,30,31,32,33,34,35,36,37,38,39,40],[0,1,2,3,4,5,6,7,8,9,10,11,12,13,14,15,16,17,18,19,20,21,22,23,24,25,26,27,28,29,30,31,32,33,34,35,36,37,38,39,40],[0,1,2,3,4,5,6,7,8,9,10,11,12,13,14,15,16,17,18,19,20,21,22,23,24,25,26,27,28,29,30,31,32,33,34,35,36,37,38,39,40,41,42],[0,1,2,3,4,5,6,7,8,9,10,11,12,13,14,15,16,17,18,19,20,21,22,23,24,25,26,27,28,29,30,31,32,33,34,35,36,37,38,39,40,41,42,43],[0,1,2,3,4,5,6,7,8,9,10,11,12,13,14,15,16,17,18,19,20,21,22,23,24,25,26,27,28,29,30,31,32,33,34,35,36,37,38,39,40,41,42,43,44]] (by kernel_rfl) ⟨?_,?_,?_,?_,?_,?_,?_,?_,?_,?_,?_,?_,?_,?_,?_,?_,?_,?_,?_,?_,?_,?_,?_,?_,?_,?_,?_,?_,?_,?_,?_,?_,?_,?_,?_,?_,?_,?_,?_,?_,?_,?_,?_,?_,?_,?_,trivial⟩ ?_
          ·intro e_ w_ k_ hf_ hR_
           refine hopE [(2,I r35.2)] ⟨((hf_ 2 rfl).trans (rfl:_=I r35.2)),trivial⟩ ?_
           exact p_mI rfl<|wp_nil ⟨_,rfl,kR,rfl⟩
          ·intro e_ w_ k_ hf_ hR_
           refine hopE [(41,I r35.2)] ⟨rQ (hR_ 0 41 rfl (lE rfl) rfl),trivial⟩ ?_
           exact p_cmp rfl rfl rfl<|wp_nil ⟨_,rfl,kR,rfl⟩
          ·intro e_ w_ k_ hf_ hR_
           refine hopE [(42,B (r35.2 != 0))] ⟨rQ (hR_ 1 42 rfl (lE rfl) rfl),trivial⟩ ?_
           exact p_mB rfl<|wp_nil ⟨_,rfl,kR,congrArg Value.bool c211⟩
          ·intro e_ w_ k_ hf_ hR_
           refine hopE [(4,I r76.2),(43,B false)] ⟨((hf_ 4 rfl).trans (rfl:_=I r76.2)),rQ (hR_ 2 43 rfl (lE rfl) rfl),trivial⟩ ?_
           refine gT rfl rfl (p_mI rfl ?_)
           exact wp_nil ⟨_,rfl,kR,rfl⟩
          ·intro e_ w_ k_ hf_ hR_
           refine hopE [(43,B false),(44,I r76.2)] ⟨rQ (hR_ 2 43 rfl (lE rfl) rfl),rQ (hR_ 3 44 rfl (lE rfl) rfl),trivial⟩ ?_
           refine gT rfl rfl (p_cmp rfl rfl rfl ?_)
           exact wp_nil ⟨_,rfl,kR,rfl⟩
          ·intro e_ w_ k_ hf_ hR_
           refine hopE [(43,B false),(45,B (r76.2 != 0))] ⟨rQ (hR_ 2 43 rfl (lE rfl) rfl),rQ (hR_ 4 45 rfl (lE rfl) rfl),trivial⟩ ?_
           exact p_pkF rfl (rfl:_=B (r76.2 != 0))<|wp_nil ⟨_,rfl,kR,rfl⟩
          ·intro e_ w_ k_ hf_ hR_
           refine hopE [(46,B (r76.2 != 0))] ⟨rQ (hR_ 5 46 rfl (lE rfl) rfl),trivial⟩ ?_
           exact p_mB rfl<|wp_nil ⟨_,rfl,kR,congrArg Value.bool c222⟩
          ·intro e_ w_ k_ hf_ hR_
           refine hopE [(6,I r117.2),(47,B false)] ⟨((hf_ 6 rfl).trans (rfl:_=I r117.2)),rQ (hR_ 6 47 rfl (lE rfl) rfl),trivial⟩ ?_
           refine gT rfl rfl (p_mI rfl ?_)
           exact wp_nil ⟨_,rfl,kR,rfl⟩
          ·intro e_ w_ k_ hf_ hR_
           refine hopE [(47,B false),(48,I r117.2)] ⟨rQ (hR_ 6 47 rfl (lE rfl) rfl),rQ (hR_ 7 48 rfl (lE rfl) rfl),trivial⟩ ?_
           refine gT rfl rfl (p_cmp rfl rfl rfl ?_)
           exact wp_nil ⟨_,rfl,kR,rfl⟩
          ·intro e_ w_ k_ hf_ hR_
           refine hopE [(47,B false),(49,B (r117.2 != 0))] ⟨rQ (hR_ 6 47 rfl (lE rfl) rfl),rQ (hR_ 8 49 rfl (lE rfl) rfl),trivial⟩ ?_
           exact p_pkF rfl (rfl:_=B (r117.2 != 0))<|wp_nil ⟨_,rfl,kR,rfl⟩
          ·intro e_ w_ k_ hf_ hR_
           refine hopE [(50,B (r117.2 != 0))] ⟨rQ (hR_ 9 50 rfl (lE rfl) rfl),trivial⟩ ?_
           exact p_mB rfl<|wp_nil ⟨_,rfl,kR,congrArg Value.bool c233⟩
          ·intro e_ w_ k_ hf_ hR_
           refine hopE [(8,I r158.2),(51,B false)] ⟨((hf_ 8 rfl).trans (rfl:_=I r158.2)),rQ (hR_ 10 51 rfl (lE rfl) rfl),trivial⟩ ?_
           refine gT rfl rfl (p_mI rfl ?_)
           exact wp_nil ⟨_,rfl,kR,rfl⟩
          ·intro e_ w_ k_ hf_ hR_
           refine hopE [(51,B false),(52,I r158.2)] ⟨rQ (hR_ 10 51 rfl (lE rfl) rfl),rQ (hR_ 11 52 rfl (lE rfl) rfl),trivial⟩ ?_
           refine gT rfl rfl (p_cmp rfl rfl rfl ?_)
           exact wp_nil ⟨_,rfl,kR,rfl⟩
          ·intro e_ w_ k_ hf_ hR_
           refine hopE [(51,B false),(53,B (r158.2 != 0))] ⟨rQ (hR_ 10 51 rfl (lE rfl) rfl),rQ (hR_ 12 53 rfl (lE rfl) rfl),trivial⟩ ?_
           exact p_pkF rfl (rfl:_=B (r158.2 != 0))<|wp_nil ⟨_,rfl,kR,rfl⟩
          ·intro e_ w_ k_ hf_ hR_
           refine hopE [(54,B (r158.2 != 0))] ⟨rQ (hR_ 13 54 rfl (lE rfl) rfl),trivial⟩ ?_
           exact p_mB rfl<|wp_nil ⟨_,rfl,kR,congrArg Value.bool c244⟩
          ·intro e_ w_ k_ hf_ hR_
           refine hopE [(10,I r199.2),(55,B false)] ⟨((hf_ 10 rfl).trans (rfl:_=I r199.2)),rQ (hR_ 14 55 rfl (lE rfl) rfl),trivial⟩ ?_
           refine gT rfl rfl (p_mI rfl ?_)
           exact wp_nil ⟨_,rfl,kR,rfl⟩
          ·intro e_ w_ k_ hf_ hR_
           refine hopE [(55,B false),(56,I r199.2)] ⟨rQ (hR_ 14 55 rfl (lE rfl) rfl),rQ (hR_ 15 56 rfl (lE rfl) rfl),trivial⟩ ?_
           refine gT rfl rfl (p_cmp rfl rfl rfl ?_)
           exact wp_nil ⟨_,rfl,kR,rfl⟩
          ·intro e_ w_ k_ hf_ hR_
           refine hopE [(55,B false),(57,B (r199.2 != 0))] ⟨rQ (hR_ 14 55 rfl (lE rfl) rfl),rQ (hR_ 16 57 rfl (lE rfl) rfl),trivial⟩ ?_
           exact p_pkF rfl (rfl:_=B (r199.2 != 0))<|wp_nil ⟨_,rfl,kR,rfl⟩
          ·intro e_ w_ k_ hf_ hR_
           refine hopE [(58,B (r199.2 != 0))] ⟨rQ (hR_ 17 58 rfl (lE rfl) rfl),trivial⟩ ?_
           exact p_mB rfl<|wp_nil ⟨_,rfl,kR,congrArg Value.bool c255⟩
          ·intro e_ w_ k_ hf_ hR_
           have S_:=@A_ _ k_
           refine hopE [(1,P b39 0),(59,B false)] ⟨((hf_ 1 rfl).trans (rfl:_=P b39 0)),rQ (hR_ 18 59 rfl (lE rfl) rfl),trivial⟩ ?_
           refine gT rfl rfl (p_ldA ty51 sz51 (S_.atP (i:=1) rfl) rfl rfl ?_)
           exact wp_nil ⟨_,rfl,S_.keep,rfl⟩
          ·intro e_ w_ k_ hf_ hR_
           have S_:=@A_ _ k_
           refine hopE [(59,B false)] ⟨rQ (hR_ 18 59 rfl (lE rfl) rfl),trivial⟩ ?_
           refine gT rfl rfl (p_cv (B_Range_ok h263) fu32 rfl S_ fun w264 S265=>?_)
           exact wp_nil ⟨_,rfl,S265.keep,rfl⟩
          ·intro e_ w_ k_ hf_ hR_
           refine hopE [(59,B false),(60,AG [I r35.1.Low,I r35.1.High]),(61,AG [I r262.Low,I r262.High])] ⟨rQ (hR_ 18 59 rfl (lE rfl) rfl),rQ (hR_ 19 60 rfl (lE rfl) rfl),rQ (hR_ 20 61 rfl (lE rfl) rfl),trivial⟩ ?_
           refine gT rfl rfl (o_neA (xs:=[I r35.1.Low,I r35.1.High]) (ys:=[I r262.Low,I r262.High]) (T:=((r35.1.Low==r262.Low)&&(r35.1.High==r262.High))) rfl rfl eq51 ⟨⟨_,rfl⟩,⟨⟨_,rfl⟩,trivial⟩⟩ ⟨⟨_,rfl⟩,⟨⟨_,rfl⟩,trivial⟩⟩ (by simp [Bool.and_eq_true,and_assoc]) ?_)
           exact wp_nil ⟨_,rfl,kR,rfl⟩
          ·intro e_ w_ k_ hf_ hR_
           refine hopE [(59,B false),(62,B (!((r35.1.Low==r262.Low)&&(r35.1.High==r262.High))))] ⟨rQ (hR_ 18 59 rfl (lE rfl) rfl),rQ (hR_ 21 62 rfl (lE rfl) rfl),trivial⟩ ?_
           exact p_pkF rfl (rfl:_=B (!((r35.1.Low==r262.Low)&&(r35.1.High==r262.High))))<|wp_nil ⟨_,rfl,kR,rfl⟩
          ·intro e_ w_ k_ hf_ hR_
           refine hopE [(63,B (!((r35.1.Low==r262.Low)&&(r35.1.High==r262.High))))] ⟨rQ (hR_ 22 63 rfl (lE rfl) rfl),trivial⟩ ?_
           exact p_mB rfl<|wp_nil ⟨_,rfl,kR,congrArg Value.bool c272⟩
          ·intro e_ w_ k_ hf_ hR_
           have S_:=@A_ _ k_
           refine hopE [(3,P b80 0),(64,B false)] ⟨((hf_ 3 rfl).trans (rfl:_=P b80 0)),rQ (hR_ 23 64 rfl (lE rfl) rfl),trivial⟩ ?_
           refine gT rfl rfl (p_ldA ty51 sz51 (S_.atP (i:=0) rfl) rfl rfl ?_)
           exact wp_nil ⟨_,rfl,S_.keep,rfl⟩
          ·intro e_ w_ k_ hf_ hR_
           have S_:=@A_ _ k_
           refine hopE [(64,B false)] ⟨rQ (hR_ 23 64 rfl (lE rfl) rfl),trivial⟩ ?_
           refine gT rfl rfl (p_cv (B_Point_ok h325) fu33 rfl S_ fun w326 S327=>?_)
           exact wp_nil ⟨_,rfl,S327.keep,rfl⟩
          ·intro e_ w_ k_ hf_ hR_
           refine hopE [(64,B false),(65,AG [I r76.1.Low,I r76.1.High]),(66,AG [I r324.Low,I r324.High])] ⟨rQ (hR_ 23 64 rfl (lE rfl) rfl),rQ (hR_ 24 65 rfl (lE rfl) rfl),rQ (hR_ 25 66 rfl (lE rfl) rfl),trivial⟩ ?_
           refine gT rfl rfl (o_neA (xs:=[I r76.1.Low,I r76.1.High]) (ys:=[I r324.Low,I r324.High]) (T:=((r76.1.Low==r324.Low)&&(r76.1.High==r324.High))) rfl rfl eq51 ⟨⟨_,rfl⟩,⟨⟨_,rfl⟩,trivial⟩⟩ ⟨⟨_,rfl⟩,⟨⟨_,rfl⟩,trivial⟩⟩ (by simp [Bool.and_eq_true,and_assoc]) ?_)
           exact wp_nil ⟨_,rfl,kR,rfl⟩
          ·intro e_ w_ k_ hf_ hR_
           refine hopE [(64,B false),(67,B (!((r76.1.Low==r324.Low)&&(r76.1.High==r324.High))))] ⟨rQ (hR_ 23 64 rfl (lE rfl) rfl),rQ (hR_ 26 67 rfl (lE rfl) rfl),trivial⟩ ?_
           exact p_pkF rfl (rfl:_=B (!((r76.1.Low==r324.Low)&&(r76.1.High==r324.High))))<|wp_nil ⟨_,rfl,kR,rfl⟩
          ·intro e_ w_ k_ hf_ hR_
           refine hopE [(68,B (!((r76.1.Low==r324.Low)&&(r76.1.High==r324.High))))] ⟨rQ (hR_ 27 68 rfl (lE rfl) rfl),trivial⟩ ?_
           exact p_mB rfl<|wp_nil ⟨_,rfl,kR,congrArg Value.bool c334⟩
          ·intro e_ w_ k_ hf_ hR_
           refine hopE [(5,SL A121 r117.1.length c122),(69,B false)] ⟨((hf_ 5 rfl).trans (rfl:_=SL A121 r117.1.length c122)),rQ (hR_ 28 69 rfl (lE rfl) rfl),trivial⟩ ?_
           refine gT rfl rfl (p_mS rfl ?_)
           exact wp_nil ⟨_,rfl,kR,rfl⟩
          ·intro e_ w_ k_ hf_ hR_
           have S_:=@A_ _ k_
           refine hopE [(69,B false)] ⟨rQ (hR_ 28 69 rfl (lE rfl) rfl),trivial⟩ ?_
           refine gT rfl rfl<|p_bsl (enc:=intE) (l:=([0]:List Int)) I (fun _=>rfl) sc60 in3 intE_len rfl (by decide) (by decide) zr3_1 S_ rfl fun A378 c379 w380 S381=>wp_nil ?_
           exact ⟨_,rfl,S381.keep,⟨(A378,c379),rfl,⟨bL (New.al (S381.newX (i:=0) rfl)) rfl (S381.atX (i:=0) rfl) rfl,trivial⟩,(cA (S381.atX (i:=0) rfl) nM)⟩⟩
          ·intro e_ w_ k_ hf_ hR_
           have S_:=@A_ _ k_
           obtain ⟨_,_,_,_,q383⟩:=hR_ 28 69 rfl (lE rfl) rfl
           obtain ⟨_,_,_,_,q384⟩:=hR_ 29 70 rfl (lE rfl) rfl
           obtain ⟨_,_,_,_,⟨A378,c379⟩,q385,p386,a387⟩:=hR_ 30 71 rfl (lE rfl) rfl
           replace q385:e_ 71=SL A378 ([0]:List Int).length c379:=q385
           have S_:=St.addL' S_ (a387 _ (.head _)) (fun _ _ _ h_=>(nE h_))
           refine hopE [(69,B false),(70,SL A121 r117.1.length c122),(71,SL A378 ([0]:List Int).length c379)] ⟨q383,q384,q385,trivial⟩ ?_
           refine gT rfl rfl (p_cv (B_Alike_ok h389 (S_.atP (i:=5) rfl) (gr_rd intE_len (S_.atP (i:=0) rfl))) fu34 rfl S_ fun w390 S391=>?_)
           exact wp_nil ⟨_,rfl,S391.keep,rfl⟩
          ·intro e_ w_ k_ hf_ hR_
           refine hopE [(69,B false),(72,B r388)] ⟨rQ (hR_ 28 69 rfl (lE rfl) rfl),rQ (hR_ 31 72 rfl (lE rfl) rfl),trivial⟩ ?_
           refine gT rfl rfl (p_not rfl ?_)
           exact wp_nil ⟨_,rfl,kR,rfl⟩
          ·intro e_ w_ k_ hf_ hR_
           refine hopE [(69,B false),(73,B (!r388))] ⟨rQ (hR_ 28 69 rfl (lE rfl) rfl),rQ (hR_ 32 73 rfl (lE rfl) rfl),trivial⟩ ?_
           exact p_pkF rfl (rfl:_=B (!r388))<|wp_nil ⟨_,rfl,kR,rfl⟩
          ·intro e_ w_ k_ hf_ hR_
           refine hopE [(74,B (!r388))] ⟨rQ (hR_ 33 74 rfl (lE rfl) rfl),trivial⟩ ?_
           exact p_mB rfl<|wp_nil ⟨_,rfl,kR,congrArg Value.bool c397⟩
          ·intro e_ w_ k_ hf_ hR_
           refine hopE [(7,SL A162 r158.1.length c163),(75,B false)] ⟨((hf_ 7 rfl).trans (rfl:_=SL A162 r158.1.length c163)),rQ (hR_ 34 75 rfl (lE rfl) rfl),trivial⟩ ?_
           refine gT rfl rfl (p_mS rfl ?_)
           exact wp_nil ⟨_,rfl,kR,rfl⟩
          ·intro e_ w_ k_ hf_ hR_
           have S_:=@A_ _ k_
           refine hopE [(75,B false)] ⟨rQ (hR_ 34 75 rfl (lE rfl) rfl),trivial⟩ ?_
           refine gT rfl rfl<|p_bsl (enc:=intE) (l:=[0,2]) I (fun _=>rfl) sc60 in3 intE_len rfl (by decide) (by decide) zr3_2 S_ rfl fun A439 c440 w441 S442=>wp_nil ?_
           exact ⟨_,rfl,S442.keep,⟨(A439,c440),rfl,⟨bL (New.al (S442.newX (i:=0) rfl)) rfl (S442.atX (i:=0) rfl) rfl,trivial⟩,(cA (S442.atX (i:=0) rfl) nM)⟩⟩
          ·intro e_ w_ k_ hf_ hR_
           have S_:=@A_ _ k_
           obtain ⟨_,_,_,_,q444⟩:=hR_ 34 75 rfl (lE rfl) rfl
           obtain ⟨_,_,_,_,q445⟩:=hR_ 35 76 rfl (lE rfl) rfl
           obtain ⟨_,_,_,_,⟨A439,c440⟩,q446,p447,a448⟩:=hR_ 36 77 rfl (lE rfl) rfl
           replace q446:e_ 77=SL A439 [0,2].length c440:=q446
           have S_:=St.addL' S_ (a448 _ (.head _)) (fun _ _ _ h_=>(nE h_))
           refine hopE [(75,B false),(76,SL A162 r158.1.length c163),(77,SL A439 [0,2].length c440)] ⟨q444,q445,q446,trivial⟩ ?_
           refine gT rfl rfl (p_cv (B_Alike_ok h450 (S_.atP (i:=4) rfl) (gr_rd intE_len (S_.atP (i:=0) rfl))) fu34 rfl S_ fun w451 S452=>?_)
           exact wp_nil ⟨_,rfl,S452.keep,rfl⟩
          ·intro e_ w_ k_ hf_ hR_
           refine hopE [(75,B false),(78,B r449)] ⟨rQ (hR_ 34 75 rfl (lE rfl) rfl),rQ (hR_ 37 78 rfl (lE rfl) rfl),trivial⟩ ?_
           refine gT rfl rfl (p_not rfl ?_)
           exact wp_nil ⟨_,rfl,kR,rfl⟩
          ·intro e_ w_ k_ hf_ hR_
           refine hopE [(75,B false),(79,B (!r449))] ⟨rQ (hR_ 34 75 rfl (lE rfl) rfl),rQ (hR_ 38 79 rfl (lE rfl) rfl),trivial⟩ ?_
           exact p_pkF rfl (rfl:_=B (!r449))<|wp_nil ⟨_,rfl,kR,rfl⟩
          ·intro e_ w_ k_ hf_ hR_
           refine hopE [(80,B (!r449))] ⟨rQ (hR_ 39 80 rfl (lE rfl) rfl),trivial⟩ ?_
           exact p_mB rfl<|wp_nil ⟨_,rfl,kR,congrArg Value.bool c458⟩
          ·intro e_ w_ k_ hf_ hR_
           refine hopE [(9,SL A203 r199.1.length c204),(81,B false)] ⟨((hf_ 9 rfl).trans (rfl:_=SL A203 r199.1.length c204)),rQ (hR_ 40 81 rfl (lE rfl) rfl),trivial⟩ ?_
           refine gT rfl rfl (p_mS rfl ?_)
           exact wp_nil ⟨_,rfl,kR,rfl⟩
          ·intro e_ w_ k_ hf_ hR_
           have S_:=@A_ _ k_
           refine hopE [(81,B false)] ⟨rQ (hR_ 40 81 rfl (lE rfl) rfl),trivial⟩ ?_
           refine gT rfl rfl<|p_bsl (enc:=intE) (l:=([0]:List Int)) I (fun _=>rfl) sc60 in3 intE_len rfl (by decide) (by decide) zr3_1 S_ rfl fun A498 c499 w500 S501=>wp_nil ?_
           exact ⟨_,rfl,S501.keep,⟨(A498,c499),rfl,⟨bL (New.al (S501.newX (i:=0) rfl)) rfl (S501.atX (i:=0) rfl) rfl,trivial⟩,(cA (S501.atX (i:=0) rfl) nM)⟩⟩
          ·intro e_ w_ k_ hf_ hR_
           have S_:=@A_ _ k_
           obtain ⟨_,_,_,_,q503⟩:=hR_ 40 81 rfl (lE rfl) rfl
           obtain ⟨_,_,_,_,q504⟩:=hR_ 41 82 rfl (lE rfl) rfl
           obtain ⟨_,_,_,_,⟨A498,c499⟩,q505,p506,a507⟩:=hR_ 42 83 rfl (lE rfl) rfl
           replace q505:e_ 83=SL A498 ([0]:List Int).length c499:=q505
           have S_:=St.addL' S_ (a507 _ (.head _)) (fun _ _ _ h_=>(nE h_))
           refine hopE [(81,B false),(82,SL A203 r199.1.length c204),(83,SL A498 ([0]:List Int).length c499)] ⟨q503,q504,q505,trivial⟩ ?_
           refine gT rfl rfl (p_cv (B_Alike_ok h509 (S_.atP (i:=3) rfl) (gr_rd intE_len (S_.atP (i:=0) rfl))) fu34 rfl S_ fun w510 S511=>?_)
           exact wp_nil ⟨_,rfl,S511.keep,rfl⟩
          ·intro e_ w_ k_ hf_ hR_
           refine hopE [(81,B false),(84,B r508)] ⟨rQ (hR_ 40 81 rfl (lE rfl) rfl),rQ (hR_ 43 84 rfl (lE rfl) rfl),trivial⟩ ?_
           refine gT rfl rfl (p_not rfl ?_)
           exact wp_nil ⟨_,rfl,kR,rfl⟩
          ·intro e_ w_ k_ hf_ hR_
           refine hopE [(81,B false),(85,B (!r508))] ⟨rQ (hR_ 40 81 rfl (lE rfl) rfl),rQ (hR_ 44 85 rfl (lE rfl) rfl),trivial⟩ ?_
           exact p_pkF rfl (rfl:_=B (!r508))<|wp_nil ⟨_,rfl,kR,rfl⟩
          intro e516 w517 lo518 hi519 k520 hf521 hR522 hd523
          have S524:=S208.call k520
          try clear S208
          obtain ⟨h526,h527,h528,⟨A378,c379⟩,q525,h529,h530⟩:=hR522 30 71 (lE rfl) rfl
          replace q525:e516 71=SL A378 ([0]:List Int).length c379:=q525
          obtain ⟨p531,_⟩:=h529
          obtain ⟨h534,h535,h536,⟨A439,c440⟩,q533,h537,h538⟩:=hR522 36 77 (lE rfl) rfl
          replace q533:e516 77=SL A439 [0,2].length c440:=q533
          obtain ⟨p539,_⟩:=h537
          obtain ⟨h542,h543,h544,⟨A498,c499⟩,q541,h545,h546⟩:=hR522 42 83 (lE rfl) rfl
          replace q541:e516 83=SL A498 ([0]:List Int).length c499:=q541
          obtain ⟨p547,_⟩:=h545
          have q549:e516 86=B (!r508):=(hR522 45 86 (lE rfl) rfl).2.2.2
          refine tailE [(86,B (!r508))] ⟨q549,trivial⟩ ?_
          intro g550
          refine wp_nil ?_
          have S551:St w nF w517 [] [gW0,gW1,gW2]:=S524.pk [] (by decide) [3,4,5] rfl rfl
          try clear S524
          refine c_cond rfl (fun c552=>?_) (fun c552=>?_)
          ·replace H:=condT c552 H
           refine c_seq<|reg<|p_aB rfl<|wp_nil ?_
           obtain rfl:=sJ H
           exact c_ret (rT Tryz.f9 S551.keep rfl rfl)
          ·replace H:=condF c552 H
           refine c_skip<|c_seq<|reg ?_
           obtain ⟨r553,h554,H⟩:=bindS H
           refine p_cal (law_double_ok h554) fu36 rfl ?_
           rintro _ w555 ⟨A557,c558,A559,c560,A561,c562,A563,c564,rfl,k556,⟨o565,n566⟩,⟨o567,n568⟩,⟨o569,n570⟩,⟨o571,n572⟩,j573,j574,j575,j576,j577,j578,_⟩
           have S583:=S551.callMo k556 [gr eTallyCount 7 106 A557 c558 r553.Tally.Counts,gr eTicketSeason 2 84 A559 c560 r553.Tickets,gr eTicketShow 3 86 A561 c562 r553.Shows,gr eTicketBox 4 39 A563 c564 r553.Boxes] [] (cA ⟨o565,n566⟩ (cA ⟨o567,n568⟩ (cA ⟨o569,n570⟩ (cA ⟨o571,n572⟩ nM)))) (pC (cA j573 (cA j574 (cA j575 nM))) (pC (cA j576 (cA j577 nM)) (pC (cA j578 nM) (pC nM List.Pairwise.nil)))) nM (cA nM (cA nM (cA nM (cA nM nM))))
           try clear S551
           obtain ⟨r584,h585,H⟩:=bindS H
           refine p_cv (ticket_Clash_ok h585 (gr_rd eTallyCount_len (S583.atX (i:=0) rfl)) (gr_rd eTicketSeason_len (S583.atX (i:=1) rfl)) (gr_rd eTicketShow_len (S583.atX (i:=2) rfl)) (gr_rd eTicketBox_len (S583.atX (i:=3) rfl))) fu35 rfl S583 fun w586 S587=>?_
           try clear S583
           refine p_mT rfl<|p_ext rfl rfl<|p_ext rfl rfl<|p_ext rfl rfl<|p_aI rfl<|p_aI rfl<|p_aI rfl<|wp_nil ?_
           have S588:St w nF w586 [] [gW0,gW1,gW2]:=S587.pk [] (by decide) [0,1,2] rfl rfl
           try clear S587
           refine c_seq<|reg ?_
           obtain ⟨r589,h590,H⟩:=bindS H
           refine p_cal (law_own_ok h590) fu28 rfl ?_
           rintro _ w591 ⟨A593,c594,A595,c596,A597,c598,A599,c600,rfl,k592,⟨o601,n602⟩,⟨o603,n604⟩,⟨o605,n606⟩,⟨o607,n608⟩,j609,j610,j611,j612,j613,j614,_⟩
           have S619:=S588.callMo k592 [gr eTallyCount 7 106 A593 c594 r589.Tally.Counts,gr eTicketSeason 2 84 A595 c596 r589.Tickets,gr eTicketShow 3 86 A597 c598 r589.Shows,gr eTicketBox 4 39 A599 c600 r589.Boxes] [] (cA ⟨o601,n602⟩ (cA ⟨o603,n604⟩ (cA ⟨o605,n606⟩ (cA ⟨o607,n608⟩ nM)))) (pC (cA j609 (cA j610 (cA j611 nM))) (pC (cA j612 (cA j613 nM)) (pC (cA j614 nM) (pC nM List.Pairwise.nil)))) nM (cA nM (cA nM (cA nM (cA nM nM))))
           try clear S588
           refine p_bld (cs:=[I 0,I 1,I 8,I 0]) st39 (rfl:_=[(1,I 1),(2,I 8)]) (by kernel_rfl) ?_
           obtain ⟨r620,h621,H⟩:=bindS H
           refine p_cv (ticket_Fits_ok h621 (gr_rd eTallyCount_len (S619.atX (i:=0) rfl)) (gr_rd eTicketSeason_len (S619.atX (i:=1) rfl)) (gr_rd eTicketShow_len (S619.atX (i:=2) rfl)) (gr_rd eTicketBox_len (S619.atX (i:=3) rfl)) (S619.atP (i:=0) rfl) (S619.atP (i:=2) rfl)) fu37 rfl S619 fun w622 S623=>?_
           try clear S619
           refine p_mT rfl<|p_ext rfl rfl<|p_ext rfl rfl<|p_aB rfl<|p_aI rfl<|wp_nil ?_
           have S624:St w nF w622 [] [gW0,gW1,gW2]:=S623.pk [] (by decide) [0,1,2] rfl rfl
           try clear S623
           refine c_seq<|reg ?_
           obtain ⟨r625,h626,H⟩:=bindS H
           refine p_cal (law_robbed_ok h626) fu39 rfl ?_
           rintro _ w627 ⟨A629,c630,A631,c632,A633,c634,A635,c636,rfl,k628,⟨o637,n638⟩,⟨o639,n640⟩,⟨o641,n642⟩,⟨o643,n644⟩,j645,j646,j647,j648,j649,j650,_⟩
           have S655:=S624.callMo k628 [gr eTallyCount 7 106 A629 c630 r625.Tally.Counts,gr eTicketSeason 2 84 A631 c632 r625.Tickets,gr eTicketShow 3 86 A633 c634 r625.Shows,gr eTicketBox 4 39 A635 c636 r625.Boxes] [] (cA ⟨o637,n638⟩ (cA ⟨o639,n640⟩ (cA ⟨o641,n642⟩ (cA ⟨o643,n644⟩ nM)))) (pC (cA j645 (cA j646 (cA j647 nM))) (pC (cA j648 (cA j649 nM)) (pC (cA j650 nM) (pC nM List.Pairwise.nil)))) nM (cA nM (cA nM (cA nM (cA nM nM))))
           try clear S624
           have S656:=S655.fixRd eTallyCount_len (i:=0) rfl
           try clear S655
           have S657:=S656.fixRd eTicketSeason_len (i:=0) rfl
           try clear S656
           have S658:=S657.fixRd eTicketShow_len (i:=0) rfl
           try clear S657
           have S659:=S658.fixRd eTicketBox_len (i:=0) rfl
           try clear S658
           obtain ⟨r660,h661,H⟩:=bindS H
           refine p_cal (ticket_Wrong_ok h661 (S659.atP (i:=3) rfl) (S659.atP (i:=2) rfl) (S659.atP (i:=1) rfl) (S659.atP (i:=0) rfl) (S659.atP (i:=4) rfl) (S659.atP (i:=6) rfl)) fu38 rfl ?_
           rintro _ w662 ⟨A664,c665,rfl,k663,⟨o666,n667⟩,_⟩
           have S668:=S659.callN k663 [rd intE 1 A664 c665 r660.1] (cA ⟨o666,Al.inL n667 ((cA (fp_mem (i:=3) rfl) (cA (fp_mem (i:=2) rfl) (cA (fp_mem (i:=1) rfl) (cA (fp_mem (i:=0) rfl) nM)))))⟩ nM)
           try clear S659
           refine p_mT rfl<|p_ext rfl rfl<|p_ext rfl rfl<|p_aS rfl<|p_aI rfl<|wp_nil ?_
           have S669:St w nF w662 [] [rd intE 1 A664 c665 r660.1,gW0,gW1,gW2]:=S668.pk [] (by decide) [0,5,6,7] rfl rfl
           try clear S668
           refine c_seq<|reg ?_
           obtain ⟨r670,h671,H⟩:=bindS H
           refine p_cal (law_own_ok h671) fu28 rfl ?_
           rintro _ w672 ⟨A674,c675,A676,c677,A678,c679,A680,c681,rfl,k673,⟨o682,n683⟩,⟨o684,n685⟩,⟨o686,n687⟩,⟨o688,n689⟩,j690,j691,j692,j693,j694,j695,_⟩
           have S700:=S669.callMo k673 [gr eTallyCount 7 106 A674 c675 r670.Tally.Counts,gr eTicketSeason 2 84 A676 c677 r670.Tickets,gr eTicketShow 3 86 A678 c679 r670.Shows,gr eTicketBox 4 39 A680 c681 r670.Boxes] [] (cA ⟨o682,n683⟩ (cA ⟨o684,n685⟩ (cA ⟨o686,n687⟩ (cA ⟨o688,n689⟩ nM)))) (pC (cA j690 (cA j691 (cA j692 nM))) (pC (cA j693 (cA j694 nM)) (pC (cA j695 nM) (pC nM List.Pairwise.nil)))) nM (cA nM (cA nM (cA nM (cA nM nM))))
           try clear S669
           obtain ⟨r701,h702,H⟩:=bindS H
           refine p_cv (ticket_Right_ok h702 (gr_rd eTallyCount_len (S700.atX (i:=0) rfl)) (gr_rd eTicketSeason_len (S700.atX (i:=1) rfl)) (gr_rd eTicketShow_len (S700.atX (i:=2) rfl)) (gr_rd eTicketBox_len (S700.atX (i:=3) rfl)) (S700.atP (i:=1) rfl) (S700.atP (i:=3) rfl)) fu16 rfl S700 fun w703 S704=>?_
           try clear S700
           refine p_mT rfl<|p_ext rfl rfl<|p_ext rfl rfl<|p_aB rfl<|p_aI rfl<|wp_nil ?_
           have S705:St w nF w703 [] [rd intE 1 A664 c665 r660.1,gW0,gW1,gW2]:=S704.pk [] (by decide) [0,1,2,3] rfl rfl
           try clear S704
           refine c_seq<|reg<|p_mI rfl<|p_cmp rfl rfl rfl<|p_mB rfl ?_
           rcases bE ((r584.2.2==0)) with c706 | c706
           ·replace H:=condT c706 H
            refine eB c706 ?_
            refine gT rfl rfl (p_mI rfl ?_)
            refine gT rfl rfl (p_cmp rfl rfl rfl ?_)
            refine p_pkT rfl (rfl:_=B (r620.2==0))<|p_mB rfl ?_
            rcases bE ((r620.2==0)) with c707 | c707
            ·replace H:=condT c707 H
             refine eB c707 ?_
             refine gT rfl rfl (p_mI rfl ?_)
             refine gT rfl rfl (p_cmp rfl rfl rfl ?_)
             refine p_pkT rfl (rfl:_=B (r660.2==0))<|p_mB rfl ?_
             rcases bE ((r660.2==0)) with c708 | c708
             ·replace H:=condT c708 H
              refine eB c708 ?_
              refine gT rfl rfl (p_mI rfl ?_)
              refine gT rfl rfl (p_cmp rfl rfl rfl ?_)
              refine p_pkT rfl (rfl:_=B (r701.2==0))<|p_mB rfl ?_
              rcases bE ((r701.2==0)) with c709 | c709
              ·replace H:=condT c709 H
               refine eB c709 ?_
               refine gT rfl rfl (p_mI rfl ?_)
               refine gT rfl rfl (p_cmp rfl rfl rfl ?_)
               refine p_pkT rfl (rfl:_=B (r584.1==0))<|p_mB rfl ?_
               rcases bE ((r584.1==0)) with c710 | c710
               ·replace H:=condT c710 H
                refine eB c710 ?_
                refine gT rfl rfl (p_mI rfl ?_)
                refine gT rfl rfl (p_cmp rfl rfl rfl ?_)
                refine p_pkT rfl (rfl:_=B (r584.2.1==2))<|p_mB rfl ?_
                rcases bE ((r584.2.1==2)) with c711 | c711
                ·replace H:=condT c711 H
                 refine eB c711 ?_
                 refine gT rfl rfl (p_mB rfl ?_)
                 refine p_pkT rfl (rfl:_=B r620.1)<|p_mB rfl ?_
                 rcases bE (r620.1) with c712 | c712
                 ·replace H:=condT c712 H
                  refine eB c712 ?_
                  refine gT rfl rfl (p_mS rfl ?_)
                  refine gT rfl rfl<|p_bsl (enc:=intE) (l:=([2]:List Int)) I (fun _=>rfl) sc60 in3 intE_len rfl (by decide) (by decide) zr3_1 S705 rfl fun A713 c714 w715 S716=>?_
                  obtain ⟨r718,h719,H⟩:=bindS H
                  refine gT rfl rfl (p_cv (B_Alike_ok h719 (S716.atP (i:=0) rfl) (gr_rd intE_len (S716.atX (i:=0) rfl))) fu34 rfl S716 fun w720 S721=>?_)
                  try clear S716
                  refine p_pkT rfl (rfl:_=B r718)<|p_mB rfl ?_
                  rcases bE (r718) with c722 | c722
                  ·replace H:=condT c722 H
                   refine eB c722 ?_
                   refine gT rfl rfl (p_mB rfl ?_)
                   refine p_pkT rfl (rfl:_=B r701.1)<|p_aB rfl<|wp_nil ?_
                   obtain rfl:=sJ H
                   exact c_ret (rT Tryz.f9 S721.keep rfl rfl)
                  ·replace H:=condF c722 H
                   refine eB c722<|gF rfl rfl<|p_pkF rfl (rfl:_=B false)<|p_aB rfl<|wp_nil ?_
                   obtain rfl:=sJ H
                   exact c_ret (rT Tryz.f9 S721.keep rfl rfl)
                 ·replace H:=condF c712 H
                  refine eB c712<|gF rfl rfl<|gF rfl rfl<|gF rfl rfl<|p_pkF rfl (rfl:_=B false)<|p_mB rfl<|gF rfl rfl<|p_pkF rfl (rfl:_=B false)<|p_aB rfl<|wp_nil ?_
                  obtain rfl:=sJ H
                  exact c_ret (rT Tryz.f9 S705.keep rfl rfl)
                ·replace H:=condF c711 H
                 refine eB c711<|gF rfl rfl<|p_pkF rfl (rfl:_=B false)<|p_mB rfl<|gF rfl rfl<|gF rfl rfl<|gF rfl rfl<|p_pkF rfl (rfl:_=B false)<|p_mB rfl<|gF rfl rfl<|p_pkF rfl (rfl:_=B false)<|p_aB rfl<|wp_nil ?_
                 obtain rfl:=sJ H
                 exact c_ret (rT Tryz.f9 S705.keep rfl rfl)
               ·replace H:=condF c710 H
                refine eB c710<|gF rfl rfl<|gF rfl rfl<|p_pkF rfl (rfl:_=B false)<|p_mB rfl<|gF rfl rfl<|p_pkF rfl (rfl:_=B false)<|p_mB rfl<|gF rfl rfl<|gF rfl rfl<|gF rfl rfl<|p_pkF rfl (rfl:_=B false)<|p_mB rfl<|gF rfl rfl<|p_pkF rfl (rfl:_=B false)<|p_aB rfl<|wp_nil ?_
                obtain rfl:=sJ H
                exact c_ret (rT Tryz.f9 S705.keep rfl rfl)
              ·replace H:=condF c709 H
               refine eB c709<|gF rfl rfl<|gF rfl rfl<|p_pkF rfl (rfl:_=B false)<|p_mB rfl<|gF rfl rfl<|gF rfl rfl<|p_pkF rfl (rfl:_=B false)<|p_mB rfl<|gF rfl rfl<|p_pkF rfl (rfl:_=B false)<|p_mB rfl<|gF rfl rfl<|gF rfl rfl<|gF rfl rfl<|p_pkF rfl (rfl:_=B false)<|p_mB rfl<|gF rfl rfl<|p_pkF rfl (rfl:_=B false)<|p_aB rfl<|wp_nil ?_
               obtain rfl:=sJ H
               exact c_ret (rT Tryz.f9 S705.keep rfl rfl)
             ·replace H:=condF c708 H
              refine eB c708<|gF rfl rfl<|gF rfl rfl<|p_pkF rfl (rfl:_=B false)<|p_mB rfl<|gF rfl rfl<|gF rfl rfl<|p_pkF rfl (rfl:_=B false)<|p_mB rfl<|gF rfl rfl<|gF rfl rfl<|p_pkF rfl (rfl:_=B false)<|p_mB rfl<|gF rfl rfl<|p_pkF rfl (rfl:_=B false)<|p_mB rfl<|gF rfl rfl<|gF rfl rfl<|gF rfl rfl<|p_pkF rfl (rfl:_=B false)<|p_mB rfl<|gF rfl rfl<|p_pkF rfl (rfl:_=B false)<|p_aB rfl<|wp_nil ?_
              obtain rfl:=sJ H
              exact c_ret (rT Tryz.f9 S705.keep rfl rfl)
            ·replace H:=condF c707 H
             refine eB c707<|gF rfl rfl<|gF rfl rfl<|p_pkF rfl (rfl:_=B false)<|p_mB rfl<|gF rfl rfl<|gF rfl rfl<|p_pkF rfl (rfl:_=B false)<|p_mB rfl<|gF rfl rfl<|gF rfl rfl<|p_pkF rfl (rfl:_=B false)<|p_mB rfl<|gF rfl rfl<|gF rfl rfl<|p_pkF rfl (rfl:_=B false)<|p_mB rfl<|gF rfl rfl<|p_pkF rfl (rfl:_=B false)<|p_mB rfl<|gF rfl rfl<|gF rfl rfl<|gF rfl rfl<|p_pkF rfl (rfl:_=B false)<|p_mB rfl<|gF rfl rfl<|p_pkF rfl (rfl:_=B false)<|p_aB rfl ?_
             refine wp_nil ?_
             obtain rfl:=sJ H
             exact c_ret (rT Tryz.f9 S705.keep rfl rfl)
           ·replace H:=condF c706 H
            refine eB c706<|gF rfl rfl<|gF rfl rfl<|p_pkF rfl (rfl:_=B false)<|p_mB rfl<|gF rfl rfl<|gF rfl rfl<|p_pkF rfl (rfl:_=B false)<|p_mB rfl<|gF rfl rfl<|gF rfl rfl<|p_pkF rfl (rfl:_=B false)<|p_mB rfl<|gF rfl rfl<|gF rfl rfl<|p_pkF rfl (rfl:_=B false)<|p_mB rfl<|gF rfl rfl<|gF rfl rfl<|p_pkF rfl (rfl:_=B false)<|p_mB rfl<|gF rfl rfl<|p_pkF rfl (rfl:_=B false)<|p_mB rfl<|gF rfl rfl<|gF rfl rfl<|gF rfl rfl<|p_pkF rfl (rfl:_=B false) ?_
            refine p_mB rfl<|gF rfl rfl<|p_pkF rfl (rfl:_=B false)<|p_aB rfl<|wp_nil ?_
            obtain rfl:=sJ H
            exact c_ret (rT Tryz.f9 S705.keep rfl rfl)
def ref10_Must_l3 (r24:(List Ref10_truth)×Int) (a1:Int) (rec_z_1:(Int×Int)→Option ((List Int)×Int)) (z_1:Int×Int):Option ((List Int)×Int):=
 bif decide (z_1.2 < (r24.1.length:Int)) then ((getI r24.1 z_1.2).bind fun r93=>
 (getI r93.used_ a1).bind fun r98=>
 rec_z_1 (andI z_1.1 r98,wr (z_1.2+1)))
 else ((B_Members z_1.1 3).bind fun r101=>
 some (r101,0))
def ref10_Must (a0:TicketBook) (a1:Int):Option ((List Int)×Int):=
 (ref10_isTrip a0 a1).bind fun r18=>
 (ref10_asked a0 r18).bind fun r24=>
 bif (r24.2 != 0) then (some (([]:List _),r24.2))
 else (loopF (ref10_Must_l3 r24 a1) big (7,0))
set_option maxRecDepth 100000 in
theorem ref10_Must_ok {a0:TicketBook}{a1:Int}{A1:Option Addr}{c2:Nat}{A4:Option Addr}{c5:Nat}{A7:Option Addr}{c8:Nat}{A10:Option Addr}{c11:Nat}{w:World}{r:(List Int)×Int} (H:ref10_Must a0 a1=some r) (h3:(rd eTallyCount 7 A1 c2 a0.Tally.Counts).ok w) (h6:(rd eTicketSeason 2 A4 c5 a0.Tickets).ok w) (h9:(rd eTicketShow 3 A7 c8 a0.Shows).ok w) (h12:(rd eTicketBox 4 A10 c11 a0.Boxes).ok w):Calls Tryz.prog 40 #[AG (vB a0 A1 c2 A4 c5 A7 c8 A10 c11),I a1] w fun en w_=>∃ u_,en=.returned u_∧∃ A_1:Option Addr,∃ c_2:Nat,u_=TU [SL A_1 r.1.length c_2,I r.2]∧Keep0 w w_∧((gr intE 1 3 A_1 c_2 r.1).ok w_∧New w.heap.size (gr intE 1 3 A_1 c_2 r.1))∧True:=by
 unfold ref10_Must at H
 refine fn_of (n:=39) Tryz.func40 rfl rfl (lE rfl) ?_
 have S:=St.start w nF _ (cA h3 (cA h6 (cA h9 (cA h12 nM))))
 refine c_seq<|reg<|p_boxA rfl S fun b13 w14 S15=>p_aS rfl<|p_aI rfl<|wp_nil<|c_seq ?_
 obtain ⟨r18,h19,H⟩:=bindS H
 obtain ⟨r24,h25,H⟩:=bindS H
 refine reg_any mixed 10 (by kernel_rfl) [rv (AG (vB a0 A1 c2 A4 c5 A7 c8 A10 c11)),rv (AG (vB a0 A1 c2 A4 c5 A7 c8 A10 c11)),rv (I a1),rv (B r18),rx (α:=(Option Addr)×(List (Ref10_truth×(Option Addr)×Nat×(Option Addr)×Nat))×Nat) (fun ⟨A28,l30,c29⟩=>TU [SL A28 l30.length c29,I r24.2]) (fun ⟨A28,l30,c29⟩ lo hi=>BtwL lo hi [] (rd nRef10_truth 2 A28 c29 l30)∧BtwL lo hi [rd eTallyCount 7 A1 c2 a0.Tally.Counts,rd eTicketSeason 2 A4 c5 a0.Tickets,rd eTicketShow 3 A7 c8 a0.Shows,rd eTicketBox 4 A10 c11 a0.Boxes] (ri nRef10_truthI l30 r24.1)∧True) (fun ⟨A28,l30,c29⟩=>[rd nRef10_truth 2 A28 c29 l30,ri nRef10_truthI l30 r24.1]),dv 15 some,dv 10 (exG 0),dv 10 (exG 1),dv 16 some,rv (I r24.2)] [[],[],[],[],[],[15],[10],[10],[16],[]] rfl (by kernel_rfl) [[],[],[],[1,2],[0,1,2,3],[0,1,2,3,4],[0,1,2,3,4,5],[0,1,2,3,4,5],[0,1,2,3,4,5,6],[0,1,2,3,4,5,6,7,8]] (by kernel_rfl) ⟨?_,?_,?_,?_,?_,?_,?_,?_,?_,?_,trivial⟩ ?_
 ·intro e_ w_ k_ hf_ hR_
  have S_:St w_ nF w_ [] [bl b13 (vB a0 A1 c2 A4 c5 A7 c8 A10 c11) 29,rd eTallyCount 7 A1 c2 a0.Tally.Counts,rd eTicketSeason 2 A4 c5 a0.Tickets,rd eTicketShow 3 A7 c8 a0.Shows,rd eTicketBox 4 A10 c11 a0.Boxes]:=S15.asP k_
  refine hopE [(2,P b13 0)] ⟨((hf_ 2 rfl).trans (rfl:_=P b13 0)),trivial⟩ ?_
  exact p_ldA ty29 sz29 (S_.atP (i:=0) rfl) rfl rfl<|wp_nil ⟨_,rfl,S_.keep,rfl⟩
 ·intro e_ w_ k_ hf_ hR_
  have S_:St w_ nF w_ [] [bl b13 (vB a0 A1 c2 A4 c5 A7 c8 A10 c11) 29,rd eTallyCount 7 A1 c2 a0.Tally.Counts,rd eTicketSeason 2 A4 c5 a0.Tickets,rd eTicketShow 3 A7 c8 a0.Shows,rd eTicketBox 4 A10 c11 a0.Boxes]:=S15.asP k_
  refine hopE [(2,P b13 0)] ⟨((hf_ 2 rfl).trans (rfl:_=P b13 0)),trivial⟩ ?_
  exact p_ldA ty29 sz29 (S_.atP (i:=0) rfl) rfl rfl<|wp_nil ⟨_,rfl,S_.keep,rfl⟩
 ·intro e_ w_ k_ hf_ hR_
  have S_:St w_ nF w_ [] [bl b13 (vB a0 A1 c2 A4 c5 A7 c8 A10 c11) 29,rd eTallyCount 7 A1 c2 a0.Tally.Counts,rd eTicketSeason 2 A4 c5 a0.Tickets,rd eTicketShow 3 A7 c8 a0.Shows,rd eTicketBox 4 A10 c11 a0.Boxes]:=S15.asP k_
  refine hopE [(1,I a1)] ⟨((hf_ 1 rfl).trans (rfl:_=I a1)),trivial⟩ ?_
  exact p_mI rfl<|wp_nil ⟨_,rfl,S_.keep,rfl⟩
 ·intro e_ w_ k_ hf_ hR_
  have S_:St w_ nF w_ [] [bl b13 (vB a0 A1 c2 A4 c5 A7 c8 A10 c11) 29,rd eTallyCount 7 A1 c2 a0.Tally.Counts,rd eTicketSeason 2 A4 c5 a0.Tickets,rd eTicketShow 3 A7 c8 a0.Shows,rd eTicketBox 4 A10 c11 a0.Boxes]:=S15.asP k_
  refine hopE [(12,AG (vB a0 A1 c2 A4 c5 A7 c8 A10 c11)),(13,I a1)] ⟨rQ (hR_ 1 12 rfl (lE rfl) rfl),rQ (hR_ 2 13 rfl (lE rfl) rfl),trivial⟩ ?_
  refine p_cv (ref10_isTrip_ok h19 (S_.atP (i:=1) rfl) (S_.atP (i:=2) rfl) (S_.atP (i:=3) rfl) (S_.atP (i:=4) rfl)) fu59 rfl S_ fun w20 S21=>wp_nil ?_
  exact ⟨_,rfl,S21.keep,rfl⟩
 ·intro e_ w_ k_ hf_ hR_
  have S_:St w_ nF w_ [] [bl b13 (vB a0 A1 c2 A4 c5 A7 c8 A10 c11) 29,rd eTallyCount 7 A1 c2 a0.Tally.Counts,rd eTicketSeason 2 A4 c5 a0.Tickets,rd eTicketShow 3 A7 c8 a0.Shows,rd eTicketBox 4 A10 c11 a0.Boxes]:=S15.asP k_
  refine hopE [(11,AG (vB a0 A1 c2 A4 c5 A7 c8 A10 c11)),(14,B r18)] ⟨rQ (hR_ 0 11 rfl (lE rfl) rfl),rQ (hR_ 3 14 rfl (lE rfl) rfl),trivial⟩ ?_
  refine p_cal (ref10_asked_ok h25 (S_.atP (i:=1) rfl) (S_.atP (i:=2) rfl) (S_.atP (i:=3) rfl) (S_.atP (i:=4) rfl)) fu66 rfl ?_
  rintro _ w26 ⟨A28,c29,l30,rfl,k27,⟨o31,n32⟩,⟨o33,n34⟩,_⟩
  have S35:=S_.callN k27 [rd nRef10_truth 2 A28 c29 l30,ri nRef10_truthI l30 r24.1] (cA ⟨o31,New.inL n32⟩ (cA ⟨o33,Al.inL n34 ((cA (fp_mem (i:=1) rfl) (cA (fp_mem (i:=2) rfl) (cA (fp_mem (i:=3) rfl) (cA (fp_mem (i:=4) rfl) nM)))))⟩ nM))
  exact wp_nil ⟨_,rfl,S35.keep,⟨(A28,l30,c29),rfl,⟨bL (New.al (New.mono n32 S_.keep.size)) rfl (S35.atP (i:=0) rfl) rfl,bL n34 rfl (S35.atP (i:=1) rfl) rfl,trivial⟩,(cA (S35.atP (i:=0) rfl) (cA (S35.atP (i:=1) rfl) nM))⟩⟩
 ·intro e_ w_ k_ hf_ hR_
  have S_:St w_ nF w_ [] [bl b13 (vB a0 A1 c2 A4 c5 A7 c8 A10 c11) 29,rd eTallyCount 7 A1 c2 a0.Tally.Counts,rd eTicketSeason 2 A4 c5 a0.Tickets,rd eTicketShow 3 A7 c8 a0.Shows,rd eTicketBox 4 A10 c11 a0.Boxes]:=S15.asP k_
  obtain ⟨_,_,_,_,⟨A28,l30,c29⟩,q36,p37,a38⟩:=hR_ 4 15 rfl (lE rfl) rfl
  replace q36:e_ 15=TU [SL A28 l30.length c29,I r24.2]:=q36
  have S_:=St.addL' S_ (a38 _ (.head _)) (fun _ _ _ h_=>(nE h_))
  have S_:=St.addL' S_ (a38 _ (.tail _ (.head _))) (fun _ _ _ h_=>(nE h_))
  refine hopE [(15,TU [SL A28 l30.length c29,I r24.2])] ⟨q36,trivial⟩ ?_
  refine p_mT rfl<|wp_nil ?_
  exact ⟨_,rfl,S_.keep,rfl⟩
 ·intro e_ w_ k_ hf_ hR_
  have S_:St w_ nF w_ [] [bl b13 (vB a0 A1 c2 A4 c5 A7 c8 A10 c11) 29,rd eTallyCount 7 A1 c2 a0.Tally.Counts,rd eTicketSeason 2 A4 c5 a0.Tickets,rd eTicketShow 3 A7 c8 a0.Shows,rd eTicketBox 4 A10 c11 a0.Boxes]:=S15.asP k_
  obtain ⟨_,_,_,_,⟨A28,l30,c29⟩,q40,p41,a42⟩:=hR_ 4 15 rfl (lE rfl) rfl
  replace q40:e_ 15=TU [SL A28 l30.length c29,I r24.2]:=q40
  have S_:=St.addL' S_ (a42 _ (.head _)) (fun _ _ _ h_=>(nE h_))
  have S_:=St.addL' S_ (a42 _ (.tail _ (.head _))) (fun _ _ _ h_=>(nE h_))
  obtain ⟨_,_,_,_,q39⟩:=hR_ 5 10 rfl (lE rfl) rfl
  replace q39:e_ 10=TU [SL A28 l30.length c29,I r24.2]:=(sJ ((congrArg some q40).symm.trans q39)).symm
  refine hopE [(10,TU [SL A28 l30.length c29,I r24.2])] ⟨q39,trivial⟩ ?_
  refine p_ext rfl rfl<|wp_nil ?_
  exact ⟨_,rfl,S_.keep,rfl⟩
 ·intro e_ w_ k_ hf_ hR_
  have S_:St w_ nF w_ [] [bl b13 (vB a0 A1 c2 A4 c5 A7 c8 A10 c11) 29,rd eTallyCount 7 A1 c2 a0.Tally.Counts,rd eTicketSeason 2 A4 c5 a0.Tickets,rd eTicketShow 3 A7 c8 a0.Shows,rd eTicketBox 4 A10 c11 a0.Boxes]:=S15.asP k_
  obtain ⟨_,_,_,_,⟨A28,l30,c29⟩,q44,p45,a46⟩:=hR_ 4 15 rfl (lE rfl) rfl
  replace q44:e_ 15=TU [SL A28 l30.length c29,I r24.2]:=q44
  have S_:=St.addL' S_ (a46 _ (.head _)) (fun _ _ _ h_=>(nE h_))
  have S_:=St.addL' S_ (a46 _ (.tail _ (.head _))) (fun _ _ _ h_=>(nE h_))
  obtain ⟨_,_,_,_,q43⟩:=hR_ 5 10 rfl (lE rfl) rfl
  replace q43:e_ 10=TU [SL A28 l30.length c29,I r24.2]:=(sJ ((congrArg some q44).symm.trans q43)).symm
  refine hopE [(10,TU [SL A28 l30.length c29,I r24.2])] ⟨q43,trivial⟩ ?_
  refine p_ext rfl rfl<|wp_nil ?_
  exact ⟨_,rfl,S_.keep,rfl⟩
 ·intro e_ w_ k_ hf_ hR_
  have S_:St w_ nF w_ [] [bl b13 (vB a0 A1 c2 A4 c5 A7 c8 A10 c11) 29,rd eTallyCount 7 A1 c2 a0.Tally.Counts,rd eTicketSeason 2 A4 c5 a0.Tickets,rd eTicketShow 3 A7 c8 a0.Shows,rd eTicketBox 4 A10 c11 a0.Boxes]:=S15.asP k_
  obtain ⟨_,_,_,_,⟨A28,l30,c29⟩,q49,p50,a51⟩:=hR_ 4 15 rfl (lE rfl) rfl
  replace q49:e_ 15=TU [SL A28 l30.length c29,I r24.2]:=q49
  have S_:=St.addL' S_ (a51 _ (.head _)) (fun _ _ _ h_=>(nE h_))
  have S_:=St.addL' S_ (a51 _ (.tail _ (.head _))) (fun _ _ _ h_=>(nE h_))
  obtain ⟨_,_,_,_,q48⟩:=hR_ 5 10 rfl (lE rfl) rfl
  replace q48:e_ 10=TU [SL A28 l30.length c29,I r24.2]:=(sJ ((congrArg some q49).symm.trans q48)).symm
  obtain ⟨_,_,_,_,q47⟩:=hR_ 6 16 rfl (lE rfl) rfl
  replace q47:e_ 16=SL A28 l30.length c29:=(sJ ((congrArg (exG 0) q48).symm.trans q47)).symm
  refine hopE [(16,SL A28 l30.length c29)] ⟨q47,trivial⟩ ?_
  refine p_aS rfl<|wp_nil ?_
  exact ⟨_,rfl,S_.keep,rfl⟩
 ·intro e_ w_ k_ hf_ hR_
  have S_:St w_ nF w_ [] [bl b13 (vB a0 A1 c2 A4 c5 A7 c8 A10 c11) 29,rd eTallyCount 7 A1 c2 a0.Tally.Counts,rd eTicketSeason 2 A4 c5 a0.Tickets,rd eTicketShow 3 A7 c8 a0.Shows,rd eTicketBox 4 A10 c11 a0.Boxes]:=S15.asP k_
  obtain ⟨_,_,_,_,⟨A28,l30,c29⟩,q54,p55,a56⟩:=hR_ 4 15 rfl (lE rfl) rfl
  replace q54:e_ 15=TU [SL A28 l30.length c29,I r24.2]:=q54
  have S_:=St.addL' S_ (a56 _ (.head _)) (fun _ _ _ h_=>(nE h_))
  have S_:=St.addL' S_ (a56 _ (.tail _ (.head _))) (fun _ _ _ h_=>(nE h_))
  obtain ⟨_,_,_,_,q53⟩:=hR_ 5 10 rfl (lE rfl) rfl
  replace q53:e_ 10=TU [SL A28 l30.length c29,I r24.2]:=(sJ ((congrArg some q54).symm.trans q53)).symm
  obtain ⟨_,_,_,_,q52⟩:=hR_ 7 17 rfl (lE rfl) rfl
  replace q52:e_ 17=I r24.2:=(sJ ((congrArg (exG 1) q53).symm.trans q52)).symm
  refine hopE [(17,I r24.2)] ⟨q52,trivial⟩ ?_
  refine p_aI rfl<|wp_nil ?_
  exact ⟨_,rfl,S_.keep,rfl⟩
 intro e57 w58 lo59 hi60 k61 hf62 hR63 hd64
 have S65:=S15.call k61
 have q66:e57 11=AG (vB a0 A1 c2 A4 c5 A7 c8 A10 c11):=(hR63 0 11 (lE rfl) rfl).2.2.2
 have q67:e57 12=AG (vB a0 A1 c2 A4 c5 A7 c8 A10 c11):=(hR63 1 12 (lE rfl) rfl).2.2.2
 have q68:e57 13=I a1:=(hR63 2 13 (lE rfl) rfl).2.2.2
 have q69:e57 14=B r18:=(hR63 3 14 (lE rfl) rfl).2.2.2
 obtain ⟨h71,h72,h73,⟨A28,l30,c29⟩,q70,h74,h75⟩:=hR63 4 15 (lE rfl) rfl
 replace q70:e57 15=TU [SL A28 l30.length c29,I r24.2]:=q70
 obtain ⟨p76,p77,_⟩:=h74
 have S78:=St.addR S65 (h75 _ (.head _)) (oR p76 h71 S15 (nM))
 have S79:=St.addR S78 (h75 _ (.tail _ (.head _))) (oR p77 h71 S15 (mG [0,1,2,3] rfl))
 have q80:e57 10=TU [SL A28 l30.length c29,I r24.2]:=(sJ ((congrArg some q70).symm.trans (hR63 5 10 (lE rfl) rfl).2.2.2)).symm
 have q81:e57 16=SL A28 l30.length c29:=(sJ ((congrArg (exG 0) q80).symm.trans (hR63 6 16 (lE rfl) rfl).2.2.2)).symm
 have q82:e57 17=I r24.2:=(sJ ((congrArg (exG 1) q80).symm.trans (hR63 7 17 (lE rfl) rfl).2.2.2)).symm
 have q83:e57 6=SL A28 l30.length c29:=(sJ ((congrArg some q81).symm.trans (hR63 8 6 (lE rfl) rfl).2.2.2)).symm
 have q84:e57 7=I r24.2:=(hR63 9 7 (lE rfl) rfl).2.2.2
 refine tailE [(1,I a1),(6,SL A28 l30.length c29),(7,I r24.2)] ⟨((hf62 1 rfl).trans (rfl:_=I a1)),q83,q84,trivial⟩ ?_
 intro g85
 refine wp_nil<|c_seq<|c_seq<|reg<|p_mI rfl<|p_cmp rfl rfl rfl<|wp_nil ?_
 refine c_cond rfl (fun c86=>?_) (fun c86=>?_)
 ·replace H:=condT c86 H
  refine c_seq<|reg<|p_mI rfl<|p_aS rfl<|p_aI rfl<|wp_nil ?_
  obtain rfl:=sJ H
  refine c_ret ?_; show bodyPostM (Fr none) 0 Tryz.prog Tryz.f40 _ .ret _ _
  refine ret_of (res2 rfl (rvT (rfl:_=SL none 0 0)) (rvT (rfl:_=I r24.2))) ?_
  exact ⟨_,rfl,none,0,rfl,S79.keep,⟨gr_nil,New.grNil⟩,trivial⟩
 ·replace H:=condF c86 H
  refine c_skip<|c_seq<|reg<|p_aI rfl<|wp_nil<|c_seq<|c_seq<|reg<|p_aI rfl<|wp_nil<|c_block ?_
  have S87:=S79.pk [] (by decide) [0,1,2,3,4,5] rfl rfl
  refine c_lop (α:=Int×Int) (β:=Unit) (ref10_Must_l3 r24 a1) (fun z_1 y_1=>[(1,I a1),(6,SL A28 l30.length c29),(8,I z_1.1),(9,I z_1.2)]) (fun z_1 y_1 w_=>St w nF w_ [] [ri nRef10_truthI l30 r24.1,rd nRef10_truth 2 A28 c29 l30,rd eTallyCount 7 A1 c2 a0.Tally.Counts,rd eTicketSeason 2 A4 c5 a0.Tickets,rd eTicketShow 3 A7 c8 a0.Shows,rd eTicketBox 4 A10 c11 a0.Boxes]) (7,0) () H ⟨rfl,rfl,rfl,rfl,trivial⟩ S87 ?_
  intro m88 z_1 y_1 e89 w90 H S91
  unfold ref10_Must_l3 at H
  refine c_seq<|c_seq<|reg<|p_mI rfl<|p_mS rfl<|p_lenN rfl sc79 (ri_len (S91.atP (i:=0) rfl))<|p_cmp rfl rfl rfl<|wp_nil ?_
  refine c_cond rfl (fun c92=>?_) (fun c92=>?_)
  ·replace H:=condT c92 H
   refine c_skip<|c_seq<|c_block<|reg<|p_mI rfl<|p_mS rfl<|p_mI rfl ?_
   obtain ⟨r93,h94,H⟩:=bindS H
   obtain ⟨d95,h96⟩:=ri_at (S91.atP (i:=0) rfl) h94
   refine p_ixE sc79 h96 (S91.atP (i:=1) rfl).1 rfl rfl rfl<|p_fldE fl99_1 (sl_here (S91.atP (i:=1) rfl).1 h96) rfl<|p_ldE ty60 h96 (S91.atP (i:=1) rfl).1 rfl rfl ?_
   have S97:=S91.riIn (j:=0) (k:=1) rfl h96 rfl
   refine p_mI rfl ?_
   obtain ⟨r98,h99,H⟩:=bindS H
   refine p_ixE sc60 h99 (S97.atP (i:=0) rfl).1 rfl rfl rfl<|p_ldE ty3 h99 (S97.atP (i:=0) rfl).1 rfl rfl<|p_andI rfl rfl<|p_aI rfl<|wp_nil<|reg<|p_mI rfl<|p_add rfl rfl<|p_aI rfl<|wp_nil ?_
   have S100:=S97.pk [] (by decide) [1,2,3,4,5,6] rfl rfl
   exact ⟨(andI z_1.1 r98,wr (z_1.2+1)),(),_,rfl,⟨rfl,rfl,rfl,rfl,trivial⟩,H,S100⟩
  ·replace H:=condF c92 H
   refine c_exit<|c_seq<|reg<|p_mI rfl ?_
   obtain ⟨r101,h102,H⟩:=bindS H
   refine p_cal (B_Members_ok h102) fu81 rfl ?_
   rintro _ w103 ⟨A105,c106,rfl,k104,⟨o107,n108⟩,_⟩
   have S110:=S91.addNew k104 o107 n108
   refine p_aS rfl<|p_aI rfl<|wp_nil ?_
   obtain rfl:=sJ H
   refine c_ret ?_; show bodyPostM (Fr none) 0 Tryz.prog Tryz.f40 _ .ret _ _
   refine ret_of (res2 rfl (rvT (rfl:_=SL A105 r101.length c106)) (rvT (rfl:_=I 0))) ?_
   exact ⟨_,rfl,A105,c106,rfl,S110.keep,⟨S110.atX (i:=0) rfl,S110.newX (i:=0) rfl⟩,trivial⟩
def ref10_May_l3 (r24:(List Ref10_truth)×Int) (a1:Int) (rec_z_1:(Int×Int)→Option ((List Int)×Int)) (z_1:Int×Int):Option ((List Int)×Int):=
 bif decide (z_1.2 < (r24.1.length:Int)) then ((getI r24.1 z_1.2).bind fun r93=>
 (getI r93.used_ a1).bind fun r98=>
 rec_z_1 (orI z_1.1 r98,wr (z_1.2+1)))
 else ((B_Members z_1.1 3).bind fun r101=>
 some (r101,0))
def ref10_May (a0:TicketBook) (a1:Int):Option ((List Int)×Int):=
 (ref10_isTrip a0 a1).bind fun r18=>
 (ref10_asked a0 r18).bind fun r24=>
 bif (r24.2 != 0) then (some (([]:List _),r24.2))
 else (loopF (ref10_May_l3 r24 a1) big (0,0))
end Go.Proofs.YtafhljljfglfeaaGreatDoor
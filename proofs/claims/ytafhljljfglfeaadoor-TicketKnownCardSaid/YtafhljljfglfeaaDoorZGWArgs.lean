/- What the functions of the program compute, and that they do, printed by a program of mine. -/
import Derived.Test.YtafhljljfglfeaaDoorZWD
import Derived.KernelRfl
import Derived.Test.YtafhljljfglfeaaDoorZGFxLook
import Derived.OpenShut
import Derived.RowKit
import Derived.WideKeyArgs
import Derived.ChangeOld
import Derived.LaidMore
import Derived.LaidLaws
import Derived.Deep.DeepHandedRow
import Derived.ProofKit
import Derived.Test.YtafhljljfglfeaaDoorCards
import Derived.Test.YtafhljljfglfeaaDoorTie
set_option linter.unusedVariables false
set_option linter.unusedSimpArgs false
namespace Go.Proofs.YtafhljljfglfeaaDoor
open Go Go.Fx Go.Proofs
set_option maxHeartbeats 10000000 in
set_option maxRecDepth 100000 in
theorem law_punched_ok {w:World}{r:Bool} (H:law_punched=some r) (hg1:(gW0).ok w) (hg2:(gW1).ok w) (hg3:(gW2).ok w):Calls Tryd.prog 13 #[] w (RetV w (B r)):=by
 unfold law_punched at H
 refine fn_of (n:=142) Tryd.func13 rfl rfl (lE rfl) ?_
 have S:=St.start w nF _ (cA hg1 (cA hg2 (cA hg3 nM)))
 refine c_seq<|reg<|p_aB rfl<|wp_nil<|c_seq<|reg ?_
 obtain ⟨r4,h5,H⟩:=bindS H
 refine p_cal (law_own_ok h5) fu39 rfl ?_
 rintro _ w6 ⟨A8,c9,A10,c11,A12,c13,A14,c15,rfl,k7,⟨o16,n17⟩,⟨o18,n19⟩,⟨o20,n21⟩,⟨o22,n23⟩,j24,j25,j26,j27,j28,j29,_⟩
 have S34:=S.callMo k7 [gr eTallyCount 7 81 A8 c9 r4.Tally.Counts,gr eTicketSeason 2 65 A10 c11 r4.Tickets,gr eTicketShow 3 67 A12 c13 r4.Shows,gr eTicketBox 4 72 A14 c15 r4.Boxes] [] (cA ⟨o16,n17⟩ (cA ⟨o18,n19⟩ (cA ⟨o20,n21⟩ (cA ⟨o22,n23⟩ nM)))) (pC (cA j24 (cA j25 (cA j26 nM))) (pC (cA j27 (cA j28 nM)) (pC (cA j29 nM) (pC nM List.Pairwise.nil)))) nM (cA nM (cA nM (cA nM (cA nM nM))))
 obtain ⟨r35,h36,H⟩:=bindS H
 refine p_cv (ticket_Paid_ok h36 (gr_rd eTallyCount_len (S34.atX (i:=0) rfl)) (gr_rd eTicketSeason_len (S34.atX (i:=1) rfl)) (gr_rd eTicketShow_len (S34.atX (i:=2) rfl)) (gr_rd eTicketBox_len (S34.atX (i:=3) rfl)) (S34.atP (i:=0) rfl) (S34.atP (i:=2) rfl)) fu22 rfl S34 fun w37 S38=>?_
 try clear S34
 refine p_mT rfl<|p_ext rfl rfl<|p_ext rfl rfl<|p_allA in49 S38 fun b39 w40 S41=>?_
 try clear S38
 refine p_stP (pre:=[]) (old:=[I 0,I 0]) (post:=[]) (vs:=[I r35.1.Low,I r35.1.High]) sz49 S41 (i:=0) rfl rfl rfl rfl (rfl:_=AG [I r35.1.Low,I r35.1.High]) rfl rfl rfl rfl fun w42 S43=>?_
 try clear S41
 refine p_aI rfl<|wp_nil ?_
 have S44:St w nF w42 [bl b39 [I r35.1.Low,I r35.1.High] 49] [gW0,gW1,gW2]:=S43.pk [0] (by decide) [0,1,2] rfl rfl
 try clear S43
 refine c_seq<|reg ?_
 obtain ⟨r45,h46,H⟩:=bindS H
 refine p_cal (law_own_ok h46) fu39 rfl ?_
 rintro _ w47 ⟨A49,c50,A51,c52,A53,c54,A55,c56,rfl,k48,⟨o57,n58⟩,⟨o59,n60⟩,⟨o61,n62⟩,⟨o63,n64⟩,j65,j66,j67,j68,j69,j70,_⟩
 have S75:=S44.callMo k48 [gr eTallyCount 7 81 A49 c50 r45.Tally.Counts,gr eTicketSeason 2 65 A51 c52 r45.Tickets,gr eTicketShow 3 67 A53 c54 r45.Shows,gr eTicketBox 4 72 A55 c56 r45.Boxes] [] (cA ⟨o57,n58⟩ (cA ⟨o59,n60⟩ (cA ⟨o61,n62⟩ (cA ⟨o63,n64⟩ nM)))) (pC (cA j65 (cA j66 (cA j67 nM))) (pC (cA j68 (cA j69 nM)) (pC (cA j70 nM) (pC nM List.Pairwise.nil)))) nM (cA nM (cA nM (cA nM (cA nM nM))))
 try clear S44
 obtain ⟨r76,h77,H⟩:=bindS H
 refine p_cv (ticket_Saved_ok h77 (gr_rd eTallyCount_len (S75.atX (i:=0) rfl)) (gr_rd eTicketSeason_len (S75.atX (i:=1) rfl)) (gr_rd eTicketShow_len (S75.atX (i:=2) rfl)) (gr_rd eTicketBox_len (S75.atX (i:=3) rfl)) (S75.atP (i:=0) rfl) (S75.atP (i:=2) rfl)) fu29 rfl S75 fun w78 S79=>?_
 try clear S75
 refine p_mT rfl<|p_ext rfl rfl<|p_ext rfl rfl<|p_allA in49 S79 fun b80 w81 S82=>?_
 try clear S79
 refine p_stP (pre:=[]) (old:=[I 0,I 0]) (post:=[]) (vs:=[I r76.1.Low,I r76.1.High]) sz49 S82 (i:=0) rfl rfl rfl rfl (rfl:_=AG [I r76.1.Low,I r76.1.High]) rfl rfl rfl rfl fun w83 S84=>?_
 try clear S82
 refine p_aI rfl<|wp_nil ?_
 have S85:St w nF w83 [bl b80 [I r76.1.Low,I r76.1.High] 49,bl b39 [I r35.1.Low,I r35.1.High] 49] [gW0,gW1,gW2]:=S84.pk [0,5] (by decide) [0,1,2] rfl rfl
 try clear S84
 refine c_seq<|reg ?_
 obtain ⟨r86,h87,H⟩:=bindS H
 refine p_cal (law_own_ok h87) fu39 rfl ?_
 rintro _ w88 ⟨A90,c91,A92,c93,A94,c95,A96,c97,rfl,k89,⟨o98,n99⟩,⟨o100,n101⟩,⟨o102,n103⟩,⟨o104,n105⟩,j106,j107,j108,j109,j110,j111,_⟩
 have S116:=S85.callMo k89 [gr eTallyCount 7 81 A90 c91 r86.Tally.Counts,gr eTicketSeason 2 65 A92 c93 r86.Tickets,gr eTicketShow 3 67 A94 c95 r86.Shows,gr eTicketBox 4 72 A96 c97 r86.Boxes] [] (cA ⟨o98,n99⟩ (cA ⟨o100,n101⟩ (cA ⟨o102,n103⟩ (cA ⟨o104,n105⟩ nM)))) (pC (cA j106 (cA j107 (cA j108 nM))) (pC (cA j109 (cA j110 nM)) (pC (cA j111 nM) (pC nM List.Pairwise.nil)))) nM (cA nM (cA nM (cA nM (cA nM nM))))
 try clear S85
 obtain ⟨r117,h118,H⟩:=bindS H
 refine p_cal (ticket_Must_ok h118 (gr_rd eTallyCount_len (S116.atX (i:=0) rfl)) (gr_rd eTicketSeason_len (S116.atX (i:=1) rfl)) (gr_rd eTicketShow_len (S116.atX (i:=2) rfl)) (gr_rd eTicketBox_len (S116.atX (i:=3) rfl)) (S116.atP (i:=0) rfl) (S116.atP (i:=1) rfl) (S116.atP (i:=2) rfl)) fu23 rfl ?_
 rintro _ w119 ⟨A121,c122,rfl,k120,⟨o123,n124⟩,_⟩
 have S125:=S116.callN k120 [rd intE 1 A121 c122 r117.1] (cA ⟨o123,New.inL n124⟩ nM)
 try clear S116
 refine p_mT rfl<|p_ext rfl rfl<|p_ext rfl rfl<|p_aS rfl<|p_aI rfl<|wp_nil ?_
 have S126:St w nF w119 [bl b80 [I r76.1.Low,I r76.1.High] 49,bl b39 [I r35.1.Low,I r35.1.High] 49] [rd intE 1 A121 c122 r117.1,gW0,gW1,gW2]:=S125.pk [4,5] (by decide) [0,1,2,3] rfl rfl
 try clear S125
 refine c_seq<|reg ?_
 obtain ⟨r127,h128,H⟩:=bindS H
 refine p_cal (law_own_ok h128) fu39 rfl ?_
 rintro _ w129 ⟨A131,c132,A133,c134,A135,c136,A137,c138,rfl,k130,⟨o139,n140⟩,⟨o141,n142⟩,⟨o143,n144⟩,⟨o145,n146⟩,j147,j148,j149,j150,j151,j152,_⟩
 have S157:=S126.callMo k130 [gr eTallyCount 7 81 A131 c132 r127.Tally.Counts,gr eTicketSeason 2 65 A133 c134 r127.Tickets,gr eTicketShow 3 67 A135 c136 r127.Shows,gr eTicketBox 4 72 A137 c138 r127.Boxes] [] (cA ⟨o139,n140⟩ (cA ⟨o141,n142⟩ (cA ⟨o143,n144⟩ (cA ⟨o145,n146⟩ nM)))) (pC (cA j147 (cA j148 (cA j149 nM))) (pC (cA j150 (cA j151 nM)) (pC (cA j152 nM) (pC nM List.Pairwise.nil)))) nM (cA nM (cA nM (cA nM (cA nM nM))))
 try clear S126
 obtain ⟨r158,h159,H⟩:=bindS H
 refine p_cal (ticket_May_ok h159 (gr_rd eTallyCount_len (S157.atX (i:=0) rfl)) (gr_rd eTicketSeason_len (S157.atX (i:=1) rfl)) (gr_rd eTicketShow_len (S157.atX (i:=2) rfl)) (gr_rd eTicketBox_len (S157.atX (i:=3) rfl)) (S157.atP (i:=1) rfl) (S157.atP (i:=2) rfl) (S157.atP (i:=3) rfl)) fu24 rfl ?_
 rintro _ w160 ⟨A162,c163,rfl,k161,⟨o164,n165⟩,_⟩
 have S166:=S157.callN k161 [rd intE 1 A162 c163 r158.1] (cA ⟨o164,New.inL n165⟩ nM)
 try clear S157
 refine p_mT rfl<|p_ext rfl rfl<|p_ext rfl rfl<|p_aS rfl<|p_aI rfl<|wp_nil ?_
 have S167:St w nF w160 [bl b80 [I r76.1.Low,I r76.1.High] 49,bl b39 [I r35.1.Low,I r35.1.High] 49] [rd intE 1 A162 c163 r158.1,rd intE 1 A121 c122 r117.1,gW0,gW1,gW2]:=S166.pk [4,5] (by decide) [0,1,2,3,4] rfl rfl
 try clear S166
 refine c_seq<|reg ?_
 obtain ⟨r168,h169,H⟩:=bindS H
 refine p_cal (law_own_ok h169) fu39 rfl ?_
 rintro _ w170 ⟨A172,c173,A174,c175,A176,c177,A178,c179,rfl,k171,⟨o180,n181⟩,⟨o182,n183⟩,⟨o184,n185⟩,⟨o186,n187⟩,j188,j189,j190,j191,j192,j193,_⟩
 have S198:=S167.callMo k171 [gr eTallyCount 7 81 A172 c173 r168.Tally.Counts,gr eTicketSeason 2 65 A174 c175 r168.Tickets,gr eTicketShow 3 67 A176 c177 r168.Shows,gr eTicketBox 4 72 A178 c179 r168.Boxes] [] (cA ⟨o180,n181⟩ (cA ⟨o182,n183⟩ (cA ⟨o184,n185⟩ (cA ⟨o186,n187⟩ nM)))) (pC (cA j188 (cA j189 (cA j190 nM))) (pC (cA j191 (cA j192 nM)) (pC (cA j193 nM) (pC nM List.Pairwise.nil)))) nM (cA nM (cA nM (cA nM (cA nM nM))))
 try clear S167
 obtain ⟨r199,h200,H⟩:=bindS H
 refine p_cal (ticket_Lent_ok h200 (gr_rd eTallyCount_len (S198.atX (i:=0) rfl)) (gr_rd eTicketSeason_len (S198.atX (i:=1) rfl)) (gr_rd eTicketShow_len (S198.atX (i:=2) rfl)) (gr_rd eTicketBox_len (S198.atX (i:=3) rfl)) (S198.atP (i:=2) rfl) (S198.atP (i:=4) rfl)) fu40 rfl ?_
 rintro _ w201 ⟨A203,c204,rfl,k202,⟨o205,n206⟩,_⟩
 have S207:=S198.callN k202 [rd intE 1 A203 c204 r199.1] (cA ⟨o205,New.inL n206⟩ nM)
 try clear S198
 refine p_mT rfl<|p_ext rfl rfl<|p_ext rfl rfl<|p_aS rfl<|p_aI rfl<|wp_nil ?_
 have S208:St w nF w201 [bl b80 [I r76.1.Low,I r76.1.High] 49,bl b39 [I r35.1.Low,I r35.1.High] 49] [rd intE 1 A203 c204 r199.1,rd intE 1 A162 c163 r158.1,rd intE 1 A121 c122 r117.1,gW0,gW1,gW2]:=S207.pk [4,5] (by decide) [0,1,2,3,4,5] rfl rfl
 try clear S207
 refine c_seq<|c_seq ?_
 rcases bE ((r35.2 != 0)) with c211 | c211
 ·replace H:=condT c211 H
  refine reg_q mixed 46 (by kernel_rfl) ?_
  refine dS (fun _ k_=>p_mI rfl dn)<|dS (fun _ k_=>p_cmp rfl rfl rfl dn)<|dS (fun _ k_=>p_mB rfl dn)<|dB c211<|dF rfl rfl<|dF rfl rfl<|dS (fun _ k_=>p_pkT rfl (rfl:_=B true) dn)<|dS (fun _ k_=>p_mB rfl dn)<|dF rfl rfl<|dF rfl rfl<|dS (fun _ k_=>p_pkT rfl (rfl:_=B true) dn)<|dS (fun _ k_=>p_mB rfl dn) ?_
  refine dF rfl rfl<|dF rfl rfl<|dS (fun _ k_=>p_pkT rfl (rfl:_=B true) dn)<|dS (fun _ k_=>p_mB rfl dn)<|dF rfl rfl<|dF rfl rfl<|dS (fun _ k_=>p_pkT rfl (rfl:_=B true) dn)<|dS (fun _ k_=>p_mB rfl dn)<|dF rfl rfl<|dF rfl rfl<|dF rfl rfl ?_
  refine dS (fun _ k_=>p_pkT rfl (rfl:_=B true) dn)<|dS (fun _ k_=>p_mB rfl dn)<|dF rfl rfl<|dF rfl rfl<|dF rfl rfl<|dS (fun _ k_=>p_pkT rfl (rfl:_=B true) dn)<|dS (fun _ k_=>p_mB rfl dn)<|dF rfl rfl<|dF rfl rfl<|dF rfl rfl<|dF rfl rfl ?_
  refine dS (fun _ k_=>p_pkT rfl (rfl:_=B true) dn)<|dS (fun _ k_=>p_mB rfl dn)<|dF rfl rfl<|dF rfl rfl<|dF rfl rfl<|dF rfl rfl<|dS (fun _ k_=>p_pkT rfl (rfl:_=B true) dn)<|dS (fun _ k_=>p_mB rfl dn)<|dF rfl rfl<|dF rfl rfl<|dF rfl rfl<|dF rfl rfl ?_
  refine dS (fun _ k_=>p_pkT rfl (rfl:_=B true) dn) ?_
  intro w212 k213; have S214:=S208.call k213
  refine wp_nil ?_
  have S215:St w nF w212 [] [gW0,gW1,gW2]:=S214.pk [] (by decide) [3,4,5] rfl rfl
  try clear S214
  refine c_true rfl<|c_seq<|reg<|p_aB rfl<|wp_nil ?_
  obtain rfl:=sJ H
  exact c_ret (rT Tryd.f13 S215.keep rfl rfl)
 ·replace H:=condF c211 H
  rcases bE ((r76.2 != 0)) with c222 | c222
  ·replace H:=condT c222 H
   refine reg_q mixed 46 (by kernel_rfl) ?_
   refine dS (fun _ k_=>p_mI rfl dn)<|dS (fun _ k_=>p_cmp rfl rfl rfl dn)<|dS (fun _ k_=>p_mB rfl dn)<|dB c211<|dS (fun _ k_=>gT rfl rfl (p_mI rfl dn))<|dS (fun _ k_=>gT rfl rfl (p_cmp rfl rfl rfl dn))<|dS (fun _ k_=>p_pkF rfl (rfl:_=B (r76.2 != 0)) dn)<|dS (fun _ k_=>p_mB rfl dn)<|dB c222<|dF rfl rfl<|dF rfl rfl<|dS (fun _ k_=>p_pkT rfl (rfl:_=B true) dn) ?_
   refine dS (fun _ k_=>p_mB rfl dn)<|dF rfl rfl<|dF rfl rfl<|dS (fun _ k_=>p_pkT rfl (rfl:_=B true) dn)<|dS (fun _ k_=>p_mB rfl dn)<|dF rfl rfl<|dF rfl rfl<|dS (fun _ k_=>p_pkT rfl (rfl:_=B true) dn)<|dS (fun _ k_=>p_mB rfl dn)<|dF rfl rfl<|dF rfl rfl<|dF rfl rfl ?_
   refine dS (fun _ k_=>p_pkT rfl (rfl:_=B true) dn)<|dS (fun _ k_=>p_mB rfl dn)<|dF rfl rfl<|dF rfl rfl<|dF rfl rfl<|dS (fun _ k_=>p_pkT rfl (rfl:_=B true) dn)<|dS (fun _ k_=>p_mB rfl dn)<|dF rfl rfl<|dF rfl rfl<|dF rfl rfl<|dF rfl rfl ?_
   refine dS (fun _ k_=>p_pkT rfl (rfl:_=B true) dn)<|dS (fun _ k_=>p_mB rfl dn)<|dF rfl rfl<|dF rfl rfl<|dF rfl rfl<|dF rfl rfl<|dS (fun _ k_=>p_pkT rfl (rfl:_=B true) dn)<|dS (fun _ k_=>p_mB rfl dn)<|dF rfl rfl<|dF rfl rfl<|dF rfl rfl<|dF rfl rfl ?_
   refine dS (fun _ k_=>p_pkT rfl (rfl:_=B true) dn) ?_
   intro w223 k224; have S225:=S208.call k224
   refine wp_nil ?_
   have S226:St w nF w223 [] [gW0,gW1,gW2]:=S225.pk [] (by decide) [3,4,5] rfl rfl
   try clear S225
   refine c_true rfl<|c_seq<|reg<|p_aB rfl<|wp_nil ?_
   obtain rfl:=sJ H
   exact c_ret (rT Tryd.f13 S226.keep rfl rfl)
  ·replace H:=condF c222 H
   rcases bE ((r117.2 != 0)) with c233 | c233
   ·replace H:=condT c233 H
    refine reg_q mixed 46 (by kernel_rfl) ?_
    refine dS (fun _ k_=>p_mI rfl dn)<|dS (fun _ k_=>p_cmp rfl rfl rfl dn)<|dS (fun _ k_=>p_mB rfl dn)<|dB c211<|dS (fun _ k_=>gT rfl rfl (p_mI rfl dn))<|dS (fun _ k_=>gT rfl rfl (p_cmp rfl rfl rfl dn))<|dS (fun _ k_=>p_pkF rfl (rfl:_=B (r76.2 != 0)) dn)<|dS (fun _ k_=>p_mB rfl dn)<|dB c222<|dS (fun _ k_=>gT rfl rfl (p_mI rfl dn))<|dS (fun _ k_=>gT rfl rfl (p_cmp rfl rfl rfl dn)) ?_
    refine dS (fun _ k_=>p_pkF rfl (rfl:_=B (r117.2 != 0)) dn)<|dS (fun _ k_=>p_mB rfl dn)<|dB c233<|dF rfl rfl<|dF rfl rfl<|dS (fun _ k_=>p_pkT rfl (rfl:_=B true) dn)<|dS (fun _ k_=>p_mB rfl dn)<|dF rfl rfl<|dF rfl rfl<|dS (fun _ k_=>p_pkT rfl (rfl:_=B true) dn)<|dS (fun _ k_=>p_mB rfl dn)<|dF rfl rfl ?_
    refine dF rfl rfl<|dF rfl rfl<|dS (fun _ k_=>p_pkT rfl (rfl:_=B true) dn)<|dS (fun _ k_=>p_mB rfl dn)<|dF rfl rfl<|dF rfl rfl<|dF rfl rfl<|dS (fun _ k_=>p_pkT rfl (rfl:_=B true) dn)<|dS (fun _ k_=>p_mB rfl dn)<|dF rfl rfl<|dF rfl rfl<|dF rfl rfl ?_
    refine dF rfl rfl<|dS (fun _ k_=>p_pkT rfl (rfl:_=B true) dn)<|dS (fun _ k_=>p_mB rfl dn)<|dF rfl rfl<|dF rfl rfl<|dF rfl rfl<|dF rfl rfl<|dS (fun _ k_=>p_pkT rfl (rfl:_=B true) dn)<|dS (fun _ k_=>p_mB rfl dn)<|dF rfl rfl<|dF rfl rfl<|dF rfl rfl ?_
    refine dF rfl rfl<|dS (fun _ k_=>p_pkT rfl (rfl:_=B true) dn) ?_
    intro w234 k235; have S236:=S208.call k235
    refine wp_nil ?_
    have S237:St w nF w234 [] [gW0,gW1,gW2]:=S236.pk [] (by decide) [3,4,5] rfl rfl
    try clear S236
    refine c_true rfl<|c_seq<|reg<|p_aB rfl<|wp_nil ?_
    obtain rfl:=sJ H
    exact c_ret (rT Tryd.f13 S237.keep rfl rfl)
   ·replace H:=condF c233 H
    rcases bE ((r158.2 != 0)) with c244 | c244
    ·replace H:=condT c244 H
     refine reg_q mixed 46 (by kernel_rfl) ?_
     refine dS (fun _ k_=>p_mI rfl dn)<|dS (fun _ k_=>p_cmp rfl rfl rfl dn)<|dS (fun _ k_=>p_mB rfl dn)<|dB c211<|dS (fun _ k_=>gT rfl rfl (p_mI rfl dn))<|dS (fun _ k_=>gT rfl rfl (p_cmp rfl rfl rfl dn))<|dS (fun _ k_=>p_pkF rfl (rfl:_=B (r76.2 != 0)) dn)<|dS (fun _ k_=>p_mB rfl dn)<|dB c222<|dS (fun _ k_=>gT rfl rfl (p_mI rfl dn))<|dS (fun _ k_=>gT rfl rfl (p_cmp rfl rfl rfl dn)) ?_
     refine dS (fun _ k_=>p_pkF rfl (rfl:_=B (r117.2 != 0)) dn)<|dS (fun _ k_=>p_mB rfl dn)<|dB c233<|dS (fun _ k_=>gT rfl rfl (p_mI rfl dn))<|dS (fun _ k_=>gT rfl rfl (p_cmp rfl rfl rfl dn))<|dS (fun _ k_=>p_pkF rfl (rfl:_=B (r158.2 != 0)) dn)<|dS (fun _ k_=>p_mB rfl dn)<|dB c244<|dF rfl rfl<|dF rfl rfl<|dS (fun _ k_=>p_pkT rfl (rfl:_=B true) dn) ?_
     refine dS (fun _ k_=>p_mB rfl dn)<|dF rfl rfl<|dF rfl rfl<|dF rfl rfl<|dS (fun _ k_=>p_pkT rfl (rfl:_=B true) dn)<|dS (fun _ k_=>p_mB rfl dn)<|dF rfl rfl<|dF rfl rfl<|dF rfl rfl<|dS (fun _ k_=>p_pkT rfl (rfl:_=B true) dn)<|dS (fun _ k_=>p_mB rfl dn)<|dF rfl rfl ?_
     refine dF rfl rfl<|dF rfl rfl<|dF rfl rfl<|dS (fun _ k_=>p_pkT rfl (rfl:_=B true) dn)<|dS (fun _ k_=>p_mB rfl dn)<|dF rfl rfl<|dF rfl rfl<|dF rfl rfl<|dF rfl rfl<|dS (fun _ k_=>p_pkT rfl (rfl:_=B true) dn)<|dS (fun _ k_=>p_mB rfl dn)<|dF rfl rfl ?_
     refine dF rfl rfl<|dF rfl rfl<|dF rfl rfl<|dS (fun _ k_=>p_pkT rfl (rfl:_=B true) dn) ?_
     intro w245 k246; have S247:=S208.call k246
     refine wp_nil ?_
     have S248:St w nF w245 [] [gW0,gW1,gW2]:=S247.pk [] (by decide) [3,4,5] rfl rfl
     try clear S247
     refine c_true rfl<|c_seq<|reg<|p_aB rfl<|wp_nil ?_
     obtain rfl:=sJ H
     exact c_ret (rT Tryd.f13 S248.keep rfl rfl)
    ·replace H:=condF c244 H
     rcases bE ((r199.2 != 0)) with c255 | c255
     ·replace H:=condT c255 H
      refine reg_q mixed 46 (by kernel_rfl) ?_
      refine dS (fun _ k_=>p_mI rfl dn)<|dS (fun _ k_=>p_cmp rfl rfl rfl dn)<|dS (fun _ k_=>p_mB rfl dn)<|dB c211<|dS (fun _ k_=>gT rfl rfl (p_mI rfl dn))<|dS (fun _ k_=>gT rfl rfl (p_cmp rfl rfl rfl dn))<|dS (fun _ k_=>p_pkF rfl (rfl:_=B (r76.2 != 0)) dn)<|dS (fun _ k_=>p_mB rfl dn)<|dB c222<|dS (fun _ k_=>gT rfl rfl (p_mI rfl dn))<|dS (fun _ k_=>gT rfl rfl (p_cmp rfl rfl rfl dn)) ?_
      refine dS (fun _ k_=>p_pkF rfl (rfl:_=B (r117.2 != 0)) dn)<|dS (fun _ k_=>p_mB rfl dn)<|dB c233<|dS (fun _ k_=>gT rfl rfl (p_mI rfl dn))<|dS (fun _ k_=>gT rfl rfl (p_cmp rfl rfl rfl dn))<|dS (fun _ k_=>p_pkF rfl (rfl:_=B (r158.2 != 0)) dn)<|dS (fun _ k_=>p_mB rfl dn)<|dB c244<|dS (fun _ k_=>gT rfl rfl (p_mI rfl dn))<|dS (fun _ k_=>gT rfl rfl (p_cmp rfl rfl rfl dn)) ?_
      refine dS (fun _ k_=>p_pkF rfl (rfl:_=B (r199.2 != 0)) dn)<|dS (fun _ k_=>p_mB rfl dn)<|dB c255<|dF rfl rfl<|dF rfl rfl<|dF rfl rfl<|dS (fun _ k_=>p_pkT rfl (rfl:_=B true) dn)<|dS (fun _ k_=>p_mB rfl dn)<|dF rfl rfl<|dF rfl rfl<|dF rfl rfl ?_
      refine dS (fun _ k_=>p_pkT rfl (rfl:_=B true) dn)<|dS (fun _ k_=>p_mB rfl dn)<|dF rfl rfl<|dF rfl rfl<|dF rfl rfl<|dF rfl rfl<|dS (fun _ k_=>p_pkT rfl (rfl:_=B true) dn)<|dS (fun _ k_=>p_mB rfl dn)<|dF rfl rfl<|dF rfl rfl<|dF rfl rfl<|dF rfl rfl ?_
      refine dS (fun _ k_=>p_pkT rfl (rfl:_=B true) dn)<|dS (fun _ k_=>p_mB rfl dn)<|dF rfl rfl<|dF rfl rfl<|dF rfl rfl<|dF rfl rfl<|dS (fun _ k_=>p_pkT rfl (rfl:_=B true) dn) ?_
      intro w256 k257; have S258:=S208.call k257
      refine wp_nil ?_
      have S259:St w nF w256 [] [gW0,gW1,gW2]:=S258.pk [] (by decide) [3,4,5] rfl rfl
      try clear S258
      refine c_true rfl<|c_seq<|reg<|p_aB rfl<|wp_nil ?_
      obtain rfl:=sJ H
      exact c_ret (rT Tryd.f13 S259.keep rfl rfl)
     ·replace H:=condF c255 H
      obtain ⟨r262,h263,H⟩:=bindS H
      rcases bE (!((r35.1.Low==r262.Low)&&(r35.1.High==r262.High))) with c272 | c272
      ·replace H:=condT c272 H
       have A_:∀ {w_:World},Keep0 w201 w_→St w_ nF w_ [] [bl b80 [I r76.1.Low,I r76.1.High] 49,bl b39 [I r35.1.Low,I r35.1.High] 49,rd intE 1 A203 c204 r199.1,rd intE 1 A162 c163 r158.1,rd intE 1 A121 c122 r117.1,gW0,gW1,gW2]:=fun k_=>S208.asP k_
       refine reg_any mixed 46 (by kernel_rfl) [rv (I r35.2),rv (B (r35.2 != 0)),rv (B false),rv (I r76.2),rv (B (r76.2 != 0)),rv (B (r76.2 != 0)),rv (B false),rv (I r117.2),rv (B (r117.2 != 0)),rv (B (r117.2 != 0)),rv (B false),rv (I r158.2),rv (B (r158.2 != 0)),rv (B (r158.2 != 0)),rv (B false),rv (I r199.2),rv (B (r199.2 != 0)),rv (B (r199.2 != 0)),rv (B false),rv (AG [I r35.1.Low,I r35.1.High]),rv (AG [I r262.Low,I r262.High]),rv (B (!((r35.1.Low==r262.Low)&&(r35.1.High==r262.High)))),rv (B (!((r35.1.Low==r262.Low)&&(r35.1.High==r262.High)))),rv (B true),rv (undef),rv (undef),rv (undef),rv (B true),rv (B true),rv (undef),rv (undef),rv (undef),rv (undef),rv (B true),rv (B true),rv (undef),rv (undef),rv (undef),rv (undef),rv (B true),rv (B true),rv (undef),rv (undef),rv (undef),rv (undef),rv (B true)] [[],[],[],[],[],[],[],[],[],[],[],[],[],[],[],[],[],[],[],[],[],[],[],[],[],[],[],[],[],[],[],[],[],[],[],[],[],[],[],[],[],[],[],[],[],[]] rfl (by kernel_rfl) [[],[0],[0,1],[0,1,2],[0,1,2,3],[0,1,2,3,4],[0,1,2,3,4,5],[0,1,2,3,4,5,6],[0,1,2,3,4,5,6,7],[0,1,2,3,4,5,6,7,8],[0,1,2,3,4,5,6,7,8,9],[0,1,2,3,4,5,6,7,8,9,10],[0,1,2,3,4,5,6,7,8,9,10,11],[0,1,2,3,4,5,6,7,8,9,10,11,12],[0,1,2,3,4,5,6,7,8,9,10,11,12,13],[0,1,2,3,4,5,6,7,8,9,10,11,12,13,14],[0,1,2,3,4,5,6,7,8,9,10,11,12,13,14,15],[0,1,2,3,4,5,6,7,8,9,10,11,12,13,14,15,16],[0,1,2,3,4,5,6,7,8,9,10,11,12,13,14,15,16,17],[0,1,2,3,4,5,6,7,8,9,10,11,12,13,14,15,16,17,18],[0,1,2,3,4,5,6,7,8,9,10,11,12,13,14,15,16,17,18],[0,1,2,3,4,5,6,7,8,9,10,11,12,13,14,15,16,17,18,19,20],[0,1,2,3,4,5,6,7,8,9,10,11,12,13,14,15,16,17,18,19,20,21],[0,1,2,3,4,5,6,7,8,9,10,11,12,13,14,15,16,17,18,19,20,21,22],[0,1,2,3,4,5,6,7,8,9,10,11,12,13,14,15,16,17,18,19,20,21,22,23],[0,1,2,3,4,5,6,7,8,9,10,11,12,13,14,15,16,17,18,19,20,21,22,23],[0,1,2,3,4,5,6,7,8,9,10,11,12,13,14,15,16,17,18,19,20,21,22,23,24,25],[0,1,2,3,4,5,6,7,8,9,10,11,12,13,14,15,16,17,18,19,20,21,22,23,24,25,26],[0,1,2,3,4,5,6,7,8,9,10,11,12,13,14,15,16,17,18,19,20,21,22,23,24,25,26,27],[0,1,2,3,4,5,6,7,8,9,10,11,12,13,14,15,16,17,18,19,20,21,22,23,24,25,26,27,28],[0,1,2,3,4,5,6,7,8,9,10,11,12,13,14,15,16,17,18,19,20,21,22,23,24,25,26,27,28],[0,1,2,3,4,5,6,7,8,9,10,11,12,13,14,15,16,17,18,19,20,21,22,23,24,25,26,27,28,29,30],[0,1,2,3,4,5,6,7,8,9,10,11,12,13,14,15,16,17,18,19,20,21,22,23,24,25,26,27,28,29,30,31],[0,1,2,3,4,5,6,7,8,9,10,11,12,13,14,15,16,17,18,19,20,21,22,23,24,25,26,27,28,29,30,31,32],[0,1,2,3,4,5,6,7,8,9,10,11,12,13,14,15,16,17,18,19,20,21,22,23,24,25,26,27,28,29,30,31,32,33],[0,1,2,3,4,5,6,7,8,9,10,11,12,13,14,15,16,17,18,19,20,21,22,23,24,25,26,27,28,29,30,31,32,33,34],[0,1,2,3,4,5,6,7,8,9,10,11,12,13,14,15,16,17,18,19,20,21,22,23,24,25,26,27,28,29,30,31,32,33,34],[0,1,2,3,4,5,6,7,8,9,10,11,12,13,14,15,16,17,18,19,20,21,22,23,24,25,26,27,28,29,30,31,32,33,34,35,36],[0,1,2,3,4,5,6,7,8,9,10,11,12,13,14,15,16,17,18,19,20,21,22,23,24,25,26,27,28,29,30,31,32,33,34,35,36,37],[0,1,2,3,4,5,6,7,8,9,10,11,12,13,14,15,16,17,18,19,20,21,22,23,24,25,26,27,28,29,30,31,32,33,34,35,36,37,38],[0,1,2,3,4,5,6,7,8,9,10,11,12,13,14,15,16,17,18,19,20,21,22,23,24,25,26,27,28,29,30,31,32,33,34,35,36,37,38,39],[0,1,2,3,4,5,6,7,8,9,10,11,12,13,14,15,16,17,18,19,20,21,22,23,24,25,26,27,28,29,30,31,32,33,34,35,36,37,38,39,40],[0,1,2,3,4,5,6,7,8,9,10,11,12,13,14,15,16,17,18,19,20,21,22,23,24,25,26,27,28,29,30,31,32,33,34,35,36,37,38,39,40],[0,1,2,3,4,5,6,7,8,9,10,11,12,13,14,15,16,17,18,19,20,21,22,23,24,25,26,27,28,29,30,31,32,33,34,35,36,37,38,39,40,41,42],[0,1,2,3,4,5,6,7,8,9,10,11,12,13,14,15,16,17,18,19,20,21,22,23,24,25,26,27,28,29,30,31,32,33,34,35,36,37,38,39,40,41,42,43],[0,1,2,3,4,5,6,7,8,9,10,11,12,13,14,15,16,17,18,19,20,21,22,23,24,25,26,27,28,29,30,31,32,33,34,35,36,37,38,39,40,41,42,43,44]] (by kernel_rfl) ⟨?_,?_,?_,?_,?_,?_,?_,?_,?_,?_,?_,?_,?_,?_,?_,?_,?_,?_,?_,?_,?_,?_,?_,?_,?_,?_,?_,?_,?_,?_,?_,?_,?_,?_,?_,?_,?_,?_,?_,?_,?_,?_,?_,?_,?_,?_,trivial⟩ ?_
       ·intro e_ w_ k_ hf_ hR_
        refine hopE [(2,I r35.2)] ⟨((hf_ 2 rfl).trans (rfl:_=I r35.2)),trivial⟩ ?_
        exact p_mI rfl<|wp_nil ⟨_,rfl,kR,rfl⟩
       ·intro e_ w_ k_ hf_ hR_
        refine hopE [(41,I r35.2)] ⟨rQ (hR_ 0 41 rfl (lE rfl) rfl),trivial⟩ ?_
        exact p_cmp rfl rfl rfl<|wp_nil ⟨_,rfl,kR,rfl⟩
       ·intro e_ w_ k_ hf_ hR_
        refine hopE [(42,B (r35.2 != 0))] ⟨rQ (hR_ 1 42 rfl (lE rfl) rfl),trivial⟩ ?_
        exact p_mB rfl<|wp_nil ⟨_,rfl,kR,congrArg Value.bool c211⟩
       ·intro e_ w_ k_ hf_ hR_
        refine hopE [(4,I r76.2),(43,B false)] ⟨((hf_ 4 rfl).trans (rfl:_=I r76.2)),rQ (hR_ 2 43 rfl (lE rfl) rfl),trivial⟩ ?_
        refine gT rfl rfl (p_mI rfl ?_)
        exact wp_nil ⟨_,rfl,kR,rfl⟩
       ·intro e_ w_ k_ hf_ hR_
        refine hopE [(43,B false),(44,I r76.2)] ⟨rQ (hR_ 2 43 rfl (lE rfl) rfl),rQ (hR_ 3 44 rfl (lE rfl) rfl),trivial⟩ ?_
        refine gT rfl rfl (p_cmp rfl rfl rfl ?_)
        exact wp_nil ⟨_,rfl,kR,rfl⟩
       ·intro e_ w_ k_ hf_ hR_
        refine hopE [(43,B false),(45,B (r76.2 != 0))] ⟨rQ (hR_ 2 43 rfl (lE rfl) rfl),rQ (hR_ 4 45 rfl (lE rfl) rfl),trivial⟩ ?_
        exact p_pkF rfl (rfl:_=B (r76.2 != 0))<|wp_nil ⟨_,rfl,kR,rfl⟩
       ·intro e_ w_ k_ hf_ hR_
        refine hopE [(46,B (r76.2 != 0))] ⟨rQ (hR_ 5 46 rfl (lE rfl) rfl),trivial⟩ ?_
        exact p_mB rfl<|wp_nil ⟨_,rfl,kR,congrArg Value.bool c222⟩
       ·intro e_ w_ k_ hf_ hR_
        refine hopE [(6,I r117.2),(47,B false)] ⟨((hf_ 6 rfl).trans (rfl:_=I r117.2)),rQ (hR_ 6 47 rfl (lE rfl) rfl),trivial⟩ ?_
        refine gT rfl rfl (p_mI rfl ?_)
        exact wp_nil ⟨_,rfl,kR,rfl⟩
       ·intro e_ w_ k_ hf_ hR_
        refine hopE [(47,B false),(48,I r117.2)] ⟨rQ (hR_ 6 47 rfl (lE rfl) rfl),rQ (hR_ 7 48 rfl (lE rfl) rfl),trivial⟩ ?_
        refine gT rfl rfl (p_cmp rfl rfl rfl ?_)
        exact wp_nil ⟨_,rfl,kR,rfl⟩
       ·intro e_ w_ k_ hf_ hR_
        refine hopE [(47,B false),(49,B (r117.2 != 0))] ⟨rQ (hR_ 6 47 rfl (lE rfl) rfl),rQ (hR_ 8 49 rfl (lE rfl) rfl),trivial⟩ ?_
        exact p_pkF rfl (rfl:_=B (r117.2 != 0))<|wp_nil ⟨_,rfl,kR,rfl⟩
       ·intro e_ w_ k_ hf_ hR_
        refine hopE [(50,B (r117.2 != 0))] ⟨rQ (hR_ 9 50 rfl (lE rfl) rfl),trivial⟩ ?_
        exact p_mB rfl<|wp_nil ⟨_,rfl,kR,congrArg Value.bool c233⟩
       ·intro e_ w_ k_ hf_ hR_
        refine hopE [(8,I r158.2),(51,B false)] ⟨((hf_ 8 rfl).trans (rfl:_=I r158.2)),rQ (hR_ 10 51 rfl (lE rfl) rfl),trivial⟩ ?_
        refine gT rfl rfl (p_mI rfl ?_)
        exact wp_nil ⟨_,rfl,kR,rfl⟩
       ·intro e_ w_ k_ hf_ hR_
        refine hopE [(51,B false),(52,I r158.2)] ⟨rQ (hR_ 10 51 rfl (lE rfl) rfl),rQ (hR_ 11 52 rfl (lE rfl) rfl),trivial⟩ ?_
        refine gT rfl rfl (p_cmp rfl rfl rfl ?_)
        exact wp_nil ⟨_,rfl,kR,rfl⟩
       ·intro e_ w_ k_ hf_ hR_
        refine hopE [(51,B false),(53,B (r158.2 != 0))] ⟨rQ (hR_ 10 51 rfl (lE rfl) rfl),rQ (hR_ 12 53 rfl (lE rfl) rfl),trivial⟩ ?_
        exact p_pkF rfl (rfl:_=B (r158.2 != 0))<|wp_nil ⟨_,rfl,kR,rfl⟩
       ·intro e_ w_ k_ hf_ hR_
        refine hopE [(54,B (r158.2 != 0))] ⟨rQ (hR_ 13 54 rfl (lE rfl) rfl),trivial⟩ ?_
        exact p_mB rfl<|wp_nil ⟨_,rfl,kR,congrArg Value.bool c244⟩
       ·intro e_ w_ k_ hf_ hR_
        refine hopE [(10,I r199.2),(55,B false)] ⟨((hf_ 10 rfl).trans (rfl:_=I r199.2)),rQ (hR_ 14 55 rfl (lE rfl) rfl),trivial⟩ ?_
        refine gT rfl rfl (p_mI rfl ?_)
        exact wp_nil ⟨_,rfl,kR,rfl⟩
       ·intro e_ w_ k_ hf_ hR_
        refine hopE [(55,B false),(56,I r199.2)] ⟨rQ (hR_ 14 55 rfl (lE rfl) rfl),rQ (hR_ 15 56 rfl (lE rfl) rfl),trivial⟩ ?_
        refine gT rfl rfl (p_cmp rfl rfl rfl ?_)
        exact wp_nil ⟨_,rfl,kR,rfl⟩
       ·intro e_ w_ k_ hf_ hR_
        refine hopE [(55,B false),(57,B (r199.2 != 0))] ⟨rQ (hR_ 14 55 rfl (lE rfl) rfl),rQ (hR_ 16 57 rfl (lE rfl) rfl),trivial⟩ ?_
        exact p_pkF rfl (rfl:_=B (r199.2 != 0))<|wp_nil ⟨_,rfl,kR,rfl⟩
       ·intro e_ w_ k_ hf_ hR_
        refine hopE [(58,B (r199.2 != 0))] ⟨rQ (hR_ 17 58 rfl (lE rfl) rfl),trivial⟩ ?_
        exact p_mB rfl<|wp_nil ⟨_,rfl,kR,congrArg Value.bool c255⟩
       ·intro e_ w_ k_ hf_ hR_
        have S_:=@A_ _ k_
        refine hopE [(1,P b39 0),(59,B false)] ⟨((hf_ 1 rfl).trans (rfl:_=P b39 0)),rQ (hR_ 18 59 rfl (lE rfl) rfl),trivial⟩ ?_
        refine gT rfl rfl (p_ldA ty49 sz49 (S_.atP (i:=1) rfl) rfl rfl ?_)
        exact wp_nil ⟨_,rfl,S_.keep,rfl⟩
       ·intro e_ w_ k_ hf_ hR_
        have S_:=@A_ _ k_
        refine hopE [(59,B false)] ⟨rQ (hR_ 18 59 rfl (lE rfl) rfl),trivial⟩ ?_
        refine gT rfl rfl (p_cv (B_Range_ok h263) fu21 rfl S_ fun w264 S265=>?_)
        exact wp_nil ⟨_,rfl,S265.keep,rfl⟩
       ·intro e_ w_ k_ hf_ hR_
        refine hopE [(59,B false),(60,AG [I r35.1.Low,I r35.1.High]),(61,AG [I r262.Low,I r262.High])] ⟨rQ (hR_ 18 59 rfl (lE rfl) rfl),rQ (hR_ 19 60 rfl (lE rfl) rfl),rQ (hR_ 20 61 rfl (lE rfl) rfl),trivial⟩ ?_
        refine gT rfl rfl (o_neA (xs:=[I r35.1.Low,I r35.1.High]) (ys:=[I r262.Low,I r262.High]) (T:=((r35.1.Low==r262.Low)&&(r35.1.High==r262.High))) rfl rfl eq49 ⟨⟨_,rfl⟩,⟨⟨_,rfl⟩,trivial⟩⟩ ⟨⟨_,rfl⟩,⟨⟨_,rfl⟩,trivial⟩⟩ (by simp [Bool.and_eq_true,and_assoc]) ?_)
        exact wp_nil ⟨_,rfl,kR,rfl⟩
       ·intro e_ w_ k_ hf_ hR_
        refine hopE [(59,B false),(62,B (!((r35.1.Low==r262.Low)&&(r35.1.High==r262.High))))] ⟨rQ (hR_ 18 59 rfl (lE rfl) rfl),rQ (hR_ 21 62 rfl (lE rfl) rfl),trivial⟩ ?_
        exact p_pkF rfl (rfl:_=B (!((r35.1.Low==r262.Low)&&(r35.1.High==r262.High))))<|wp_nil ⟨_,rfl,kR,rfl⟩
       ·intro e_ w_ k_ hf_ hR_
        refine hopE [(63,B (!((r35.1.Low==r262.Low)&&(r35.1.High==r262.High))))] ⟨rQ (hR_ 22 63 rfl (lE rfl) rfl),trivial⟩ ?_
        exact p_mB rfl<|wp_nil ⟨_,rfl,kR,congrArg Value.bool c272⟩
       ·intro e_ w_ k_ hf_ hR_
        refine hopE [(3,P b80 0),(64,B true)] ⟨((hf_ 3 rfl).trans (rfl:_=P b80 0)),rQ (hR_ 23 64 rfl (lE rfl) rfl),trivial⟩ ?_
        exact gF rfl rfl<|wp_nil ⟨_,rfl,kR,rfl⟩
       ·intro e_ w_ k_ hf_ hR_
        refine hopE [(64,B true)] ⟨rQ (hR_ 23 64 rfl (lE rfl) rfl),trivial⟩ ?_
        exact gF rfl rfl<|wp_nil ⟨_,rfl,kR,rfl⟩
       ·intro e_ w_ k_ hf_ hR_
        refine hopE [(64,B true),(65,undef),(66,undef)] ⟨rQ (hR_ 23 64 rfl (lE rfl) rfl),rQ (hR_ 24 65 rfl (lE rfl) rfl),rQ (hR_ 25 66 rfl (lE rfl) rfl),trivial⟩ ?_
        exact gF rfl rfl<|wp_nil ⟨_,rfl,kR,rfl⟩
       ·intro e_ w_ k_ hf_ hR_
        refine hopE [(64,B true),(67,undef)] ⟨rQ (hR_ 23 64 rfl (lE rfl) rfl),rQ (hR_ 26 67 rfl (lE rfl) rfl),trivial⟩ ?_
        exact p_pkT rfl (rfl:_=B true)<|wp_nil ⟨_,rfl,kR,rfl⟩
       ·intro e_ w_ k_ hf_ hR_
        refine hopE [(68,B true)] ⟨rQ (hR_ 27 68 rfl (lE rfl) rfl),trivial⟩ ?_
        exact p_mB rfl<|wp_nil ⟨_,rfl,kR,rfl⟩
       ·intro e_ w_ k_ hf_ hR_
        refine hopE [(5,SL A121 r117.1.length c122),(69,B true)] ⟨((hf_ 5 rfl).trans (rfl:_=SL A121 r117.1.length c122)),rQ (hR_ 28 69 rfl (lE rfl) rfl),trivial⟩ ?_
        exact gF rfl rfl<|wp_nil ⟨_,rfl,kR,rfl⟩
       ·intro e_ w_ k_ hf_ hR_
        refine hopE [(69,B true)] ⟨rQ (hR_ 28 69 rfl (lE rfl) rfl),trivial⟩ ?_
        exact gF rfl rfl<|wp_nil ⟨_,rfl,kR,rfl⟩
       ·intro e_ w_ k_ hf_ hR_
        refine hopE [(69,B true),(70,undef),(71,undef)] ⟨rQ (hR_ 28 69 rfl (lE rfl) rfl),rQ (hR_ 29 70 rfl (lE rfl) rfl),rQ (hR_ 30 71 rfl (lE rfl) rfl),trivial⟩ ?_
        exact gF rfl rfl<|wp_nil ⟨_,rfl,kR,rfl⟩
       ·intro e_ w_ k_ hf_ hR_
        refine hopE [(69,B true),(72,undef)] ⟨rQ (hR_ 28 69 rfl (lE rfl) rfl),rQ (hR_ 31 72 rfl (lE rfl) rfl),trivial⟩ ?_
        exact gF rfl rfl<|wp_nil ⟨_,rfl,kR,rfl⟩
       ·intro e_ w_ k_ hf_ hR_
        refine hopE [(69,B true),(73,undef)] ⟨rQ (hR_ 28 69 rfl (lE rfl) rfl),rQ (hR_ 32 73 rfl (lE rfl) rfl),trivial⟩ ?_
        exact p_pkT rfl (rfl:_=B true)<|wp_nil ⟨_,rfl,kR,rfl⟩
       ·intro e_ w_ k_ hf_ hR_
        refine hopE [(74,B true)] ⟨rQ (hR_ 33 74 rfl (lE rfl) rfl),trivial⟩ ?_
        exact p_mB rfl<|wp_nil ⟨_,rfl,kR,rfl⟩
       ·intro e_ w_ k_ hf_ hR_
        refine hopE [(7,SL A162 r158.1.length c163),(75,B true)] ⟨((hf_ 7 rfl).trans (rfl:_=SL A162 r158.1.length c163)),rQ (hR_ 34 75 rfl (lE rfl) rfl),trivial⟩ ?_
        exact gF rfl rfl<|wp_nil ⟨_,rfl,kR,rfl⟩
       ·intro e_ w_ k_ hf_ hR_
        refine hopE [(75,B true)] ⟨rQ (hR_ 34 75 rfl (lE rfl) rfl),trivial⟩ ?_
        exact gF rfl rfl<|wp_nil ⟨_,rfl,kR,rfl⟩
       ·intro e_ w_ k_ hf_ hR_
        refine hopE [(75,B true),(76,undef),(77,undef)] ⟨rQ (hR_ 34 75 rfl (lE rfl) rfl),rQ (hR_ 35 76 rfl (lE rfl) rfl),rQ (hR_ 36 77 rfl (lE rfl) rfl),trivial⟩ ?_
        exact gF rfl rfl<|wp_nil ⟨_,rfl,kR,rfl⟩
       ·intro e_ w_ k_ hf_ hR_
        refine hopE [(75,B true),(78,undef)] ⟨rQ (hR_ 34 75 rfl (lE rfl) rfl),rQ (hR_ 37 78 rfl (lE rfl) rfl),trivial⟩ ?_
        exact gF rfl rfl<|wp_nil ⟨_,rfl,kR,rfl⟩
       ·intro e_ w_ k_ hf_ hR_
        refine hopE [(75,B true),(79,undef)] ⟨rQ (hR_ 34 75 rfl (lE rfl) rfl),rQ (hR_ 38 79 rfl (lE rfl) rfl),trivial⟩ ?_
        exact p_pkT rfl (rfl:_=B true)<|wp_nil ⟨_,rfl,kR,rfl⟩
       ·intro e_ w_ k_ hf_ hR_
        refine hopE [(80,B true)] ⟨rQ (hR_ 39 80 rfl (lE rfl) rfl),trivial⟩ ?_
        exact p_mB rfl<|wp_nil ⟨_,rfl,kR,rfl⟩
       ·intro e_ w_ k_ hf_ hR_
        refine hopE [(9,SL A203 r199.1.length c204),(81,B true)] ⟨((hf_ 9 rfl).trans (rfl:_=SL A203 r199.1.length c204)),rQ (hR_ 40 81 rfl (lE rfl) rfl),trivial⟩ ?_
        exact gF rfl rfl<|wp_nil ⟨_,rfl,kR,rfl⟩
       ·intro e_ w_ k_ hf_ hR_
        refine hopE [(81,B true)] ⟨rQ (hR_ 40 81 rfl (lE rfl) rfl),trivial⟩ ?_
        exact gF rfl rfl<|wp_nil ⟨_,rfl,kR,rfl⟩
       ·intro e_ w_ k_ hf_ hR_
        refine hopE [(81,B true),(82,undef),(83,undef)] ⟨rQ (hR_ 40 81 rfl (lE rfl) rfl),rQ (hR_ 41 82 rfl (lE rfl) rfl),rQ (hR_ 42 83 rfl (lE rfl) rfl),trivial⟩ ?_
        exact gF rfl rfl<|wp_nil ⟨_,rfl,kR,rfl⟩
       ·intro e_ w_ k_ hf_ hR_
        refine hopE [(81,B true),(84,undef)] ⟨rQ (hR_ 40 81 rfl (lE rfl) rfl),rQ (hR_ 43 84 rfl (lE rfl) rfl),trivial⟩ ?_
        exact gF rfl rfl<|wp_nil ⟨_,rfl,kR,rfl⟩
       ·intro e_ w_ k_ hf_ hR_
        refine hopE [(81,B true),(85,undef)] ⟨rQ (hR_ 40 81 rfl (lE rfl) rfl),rQ (hR_ 44 85 rfl (lE rfl) rfl),trivial⟩ ?_
        exact p_pkT rfl (rfl:_=B true)<|wp_nil ⟨_,rfl,kR,rfl⟩
       intro e310 w311 lo312 hi313 k314 hf315 hR316 hd317
       have S318:=S208.call k314
       have q319:e310 86=B true:=(hR316 45 86 (lE rfl) rfl).2.2.2
       refine tailE [(86,B true)] ⟨q319,trivial⟩ ?_
       intro g320
       refine wp_nil ?_
       have S321:St w nF w311 [] [gW0,gW1,gW2]:=S318.pk [] (by decide) [3,4,5] rfl rfl
       try clear S318
       refine c_true rfl<|c_seq<|reg<|p_aB rfl<|wp_nil ?_
       obtain rfl:=sJ H
       exact c_ret (rT Tryd.f13 S321.keep rfl rfl)
      ·replace H:=condF c272 H
       obtain ⟨r324,h325,H⟩:=bindS H
       rcases bE (!((r76.1.Low==r324.Low)&&(r76.1.High==r324.High))) with c334 | c334
       ·replace H:=condT c334 H
        have A_:∀ {w_:World},Keep0 w201 w_→St w_ nF w_ [] [bl b80 [I r76.1.Low,I r76.1.High] 49,bl b39 [I r35.1.Low,I r35.1.High] 49,rd intE 1 A203 c204 r199.1,rd intE 1 A162 c163 r158.1,rd intE 1 A121 c122 r117.1,gW0,gW1,gW2]:=fun k_=>S208.asP k_
        refine reg_any mixed 46 (by kernel_rfl) [rv (I r35.2),rv (B (r35.2 != 0)),rv (B false),rv (I r76.2),rv (B (r76.2 != 0)),rv (B (r76.2 != 0)),rv (B false),rv (I r117.2),rv (B (r117.2 != 0)),rv (B (r117.2 != 0)),rv (B false),rv (I r158.2),rv (B (r158.2 != 0)),rv (B (r158.2 != 0)),rv (B false),rv (I r199.2),rv (B (r199.2 != 0)),rv (B (r199.2 != 0)),rv (B false),rv (AG [I r35.1.Low,I r35.1.High]),rv (AG [I r262.Low,I r262.High]),rv (B (!((r35.1.Low==r262.Low)&&(r35.1.High==r262.High)))),rv (B (!((r35.1.Low==r262.Low)&&(r35.1.High==r262.High)))),rv (B false),rv (AG [I r76.1.Low,I r76.1.High]),rv (AG [I r324.Low,I r324.High]),rv (B (!((r76.1.Low==r324.Low)&&(r76.1.High==r324.High)))),rv (B (!((r76.1.Low==r324.Low)&&(r76.1.High==r324.High)))),rv (B true),rv (undef),rv (undef),rv (undef),rv (undef),rv (B true),rv (B true),rv (undef),rv (undef),rv (undef),rv (undef),rv (B true),rv (B true),rv (undef),rv (undef),rv (undef),rv (undef),rv (B true)] [[],[],[],[],[],[],[],[],[],[],[],[],[],[],[],[],[],[],[],[],[],[],[],[],[],[],[],[],[],[],[],[],[],[],[],[],[],[],[],[],[],[],[],[],[],[]] rfl (by kernel_rfl) [[],[0],[0,1],[0,1,2],[0,1,2,3],[0,1,2,3,4],[0,1,2,3,4,5],[0,1,2,3,4,5,6],[0,1,2,3,4,5,6,7],[0,1,2,3,4,5,6,7,8],[0,1,2,3,4,5,6,7,8,9],[0,1,2,3,4,5,6,7,8,9,10],[0,1,2,3,4,5,6,7,8,9,10,11],[0,1,2,3,4,5,6,7,8,9,10,11,12],[0,1,2,3,4,5,6,7,8,9,10,11,12,13],[0,1,2,3,4,5,6,7,8,9,10,11,12,13,14],[0,1,2,3,4,5,6,7,8,9,10,11,12,13,14,15],[0,1,2,3,4,5,6,7,8,9,10,11,12,13,14,15,16],[0,1,2,3,4,5,6,7,8,9,10,11,12,13,14,15,16,17],[0,1,2,3,4,5,6,7,8,9,10,11,12,13,14,15,16,17,18],[0,1,2,3,4,5,6,7,8,9,10,11,12,13,14,15,16,17,18],[0,1,2,3,4,5,6,7,8,9,10,11,12,13,14,15,16,17,18,19,20],[0,1,2,3,4,5,6,7,8,9,10,11,12,13,14,15,16,17,18,19,20,21],[0,1,2,3,4,5,6,7,8,9,10,11,12,13,14,15,16,17,18,19,20,21,22],[0,1,2,3,4,5,6,7,8,9,10,11,12,13,14,15,16,17,18,19,20,21,22,23],[0,1,2,3,4,5,6,7,8,9,10,11,12,13,14,15,16,17,18,19,20,21,22,23],[0,1,2,3,4,5,6,7,8,9,10,11,12,13,14,15,16,17,18,19,20,21,22,23,24,25],[0,1,2,3,4,5,6,7,8,9,10,11,12,13,14,15,16,17,18,19,20,21,22,23,24,25,26],[0,1,2,3,4,5,6,7,8,9,10,11,12,13,14,15,16,17,18,19,20,21,22,23,24,25,26,27],[0,1,2,3,4,5,6,7,8,9,10,11,12,13,14,15,16,17,18,19,20,21,22,23,24,25,26,27,28],[0,1,2,3,4,5,6,7,8,9,10,11,12,13,14,15,16,17,18,19,20,21,22,23,24,25,26,27,28],[0,1,2,3,4,5,6,7,8,9,10,11,12,13,14,15,16,17,18,19,20,21,22,23,24,25,26,27,28,29,30],[0,1,2,3,4,5,6,7,8,9,10,11,12,13,14,15,16,17,18,19,20,21,22,23,24,25,26,27,28,29,30,31],[0,1,2,3,4,5,6,7,8,9,10,11,12,13,14,15,16,17,18,19,20,21,22,23,24,25,26,27,28,29,30,31,32],[0,1,2,3,4,5,6,7,8,9,10,11,12,13,14,15,16,17,18,19,20,21,22,23,24,25,26,27,28,29,30,31,32,33],[0,1,2,3,4,5,6,7,8,9,10,11,12,13,14,15,16,17,18,19,20,21,22,23,24,25,26,27,28,29,30,31,32,33,34],[0,1,2,3,4,5,6,7,8,9,10,11,12,13,14,15,16,17,18,19,20,21,22,23,24,25,26,27,28,29,30,31,32,33,34],[0,1,2,3,4,5,6,7,8,9,10,11,12,13,14,15,16,17,18,19,20,21,22,23,24,25,26,27,28,29,30,31,32,33,34,35,36],[0,1,2,3,4,5,6,7,8,9,10,11,12,13,14,15,16,17,18,19,20,21,22,23,24,25,26,27,28,29,30,31,32,33,34,35,36,37],[0,1,2,3,4,5,6,7,8,9,10,11,12,13,14,15,16,17,18,19,20,21,22,23,24,25,26,27,28,29,30,31,32,33,34,35,36,37,38],[0,1,2,3,4,5,6,7,8,9,10,11,12,13,14,15,16,17,18,19,20,21,22,23,24,25,26,27,28,29,30,31,32,33,34,35,36,37,38,39],[0,1,2,3,4,5,6,7,8,9,10,11,12,13,14,15,16,17,18,19,20,21,22,23,24,25,26,27,28,29,30,31,32,33,34,35,36,37,38,39,40],[0,1,2,3,4,5,6,7,8,9,10,11,12,13,14,15,16,17,18,19,20,21,22,23,24,25,26,27,28,29,30,31,32,33,34,35,36,37,38,39,40],[0,1,2,3,4,5,6,7,8,9,10,11,12,13,14,15,16,17,18,19,20,21,22,23,24,25,26,27,28,29,30,31,32,33,34,35,36,37,38,39,40,41,42],[0,1,2,3,4,5,6,7,8,9,10,11,12,13,14,15,16,17,18,19,20,21,22,23,24,25,26,27,28,29,30,31,32,33,34,35,36,37,38,39,40,41,42,43],[0,1,2,3,4,5,6,7,8,9,10,11,12,13,14,15,16,17,18,19,20,21,22,23,24,25,26,27,28,29,30,31,32,33,34,35,36,37,38,39,40,41,42,43,44]] (by kernel_rfl) ⟨?_,?_,?_,?_,?_,?_,?_,?_,?_,?_,?_,?_,?_,?_,?_,?_,?_,?_,?_,?_,?_,?_,?_,?_,?_,?_,?_,?_,?_,?_,?_,?_,?_,?_,?_,?_,?_,?_,?_,?_,?_,?_,?_,?_,?_,?_,trivial⟩ ?_
        ·intro e_ w_ k_ hf_ hR_
         refine hopE [(2,I r35.2)] ⟨((hf_ 2 rfl).trans (rfl:_=I r35.2)),trivial⟩ ?_
         exact p_mI rfl<|wp_nil ⟨_,rfl,kR,rfl⟩
        ·intro e_ w_ k_ hf_ hR_
         refine hopE [(41,I r35.2)] ⟨rQ (hR_ 0 41 rfl (lE rfl) rfl),trivial⟩ ?_
         exact p_cmp rfl rfl rfl<|wp_nil ⟨_,rfl,kR,rfl⟩
        ·intro e_ w_ k_ hf_ hR_
         refine hopE [(42,B (r35.2 != 0))] ⟨rQ (hR_ 1 42 rfl (lE rfl) rfl),trivial⟩ ?_
         exact p_mB rfl<|wp_nil ⟨_,rfl,kR,congrArg Value.bool c211⟩
        ·intro e_ w_ k_ hf_ hR_
         refine hopE [(4,I r76.2),(43,B false)] ⟨((hf_ 4 rfl).trans (rfl:_=I r76.2)),rQ (hR_ 2 43 rfl (lE rfl) rfl),trivial⟩ ?_
         refine gT rfl rfl (p_mI rfl ?_)
         exact wp_nil ⟨_,rfl,kR,rfl⟩
        ·intro e_ w_ k_ hf_ hR_
         refine hopE [(43,B false),(44,I r76.2)] ⟨rQ (hR_ 2 43 rfl (lE rfl) rfl),rQ (hR_ 3 44 rfl (lE rfl) rfl),trivial⟩ ?_
         refine gT rfl rfl (p_cmp rfl rfl rfl ?_)
         exact wp_nil ⟨_,rfl,kR,rfl⟩
        ·intro e_ w_ k_ hf_ hR_
         refine hopE [(43,B false),(45,B (r76.2 != 0))] ⟨rQ (hR_ 2 43 rfl (lE rfl) rfl),rQ (hR_ 4 45 rfl (lE rfl) rfl),trivial⟩ ?_
         exact p_pkF rfl (rfl:_=B (r76.2 != 0))<|wp_nil ⟨_,rfl,kR,rfl⟩
        ·intro e_ w_ k_ hf_ hR_
         refine hopE [(46,B (r76.2 != 0))] ⟨rQ (hR_ 5 46 rfl (lE rfl) rfl),trivial⟩ ?_
         exact p_mB rfl<|wp_nil ⟨_,rfl,kR,congrArg Value.bool c222⟩
        ·intro e_ w_ k_ hf_ hR_
         refine hopE [(6,I r117.2),(47,B false)] ⟨((hf_ 6 rfl).trans (rfl:_=I r117.2)),rQ (hR_ 6 47 rfl (lE rfl) rfl),trivial⟩ ?_
         refine gT rfl rfl (p_mI rfl ?_)
         exact wp_nil ⟨_,rfl,kR,rfl⟩
        ·intro e_ w_ k_ hf_ hR_
         refine hopE [(47,B false),(48,I r117.2)] ⟨rQ (hR_ 6 47 rfl (lE rfl) rfl),rQ (hR_ 7 48 rfl (lE rfl) rfl),trivial⟩ ?_
         refine gT rfl rfl (p_cmp rfl rfl rfl ?_)
         exact wp_nil ⟨_,rfl,kR,rfl⟩
        ·intro e_ w_ k_ hf_ hR_
         refine hopE [(47,B false),(49,B (r117.2 != 0))] ⟨rQ (hR_ 6 47 rfl (lE rfl) rfl),rQ (hR_ 8 49 rfl (lE rfl) rfl),trivial⟩ ?_
         exact p_pkF rfl (rfl:_=B (r117.2 != 0))<|wp_nil ⟨_,rfl,kR,rfl⟩
        ·intro e_ w_ k_ hf_ hR_
         refine hopE [(50,B (r117.2 != 0))] ⟨rQ (hR_ 9 50 rfl (lE rfl) rfl),trivial⟩ ?_
         exact p_mB rfl<|wp_nil ⟨_,rfl,kR,congrArg Value.bool c233⟩
        ·intro e_ w_ k_ hf_ hR_
         refine hopE [(8,I r158.2),(51,B false)] ⟨((hf_ 8 rfl).trans (rfl:_=I r158.2)),rQ (hR_ 10 51 rfl (lE rfl) rfl),trivial⟩ ?_
         refine gT rfl rfl (p_mI rfl ?_)
         exact wp_nil ⟨_,rfl,kR,rfl⟩
        ·intro e_ w_ k_ hf_ hR_
         refine hopE [(51,B false),(52,I r158.2)] ⟨rQ (hR_ 10 51 rfl (lE rfl) rfl),rQ (hR_ 11 52 rfl (lE rfl) rfl),trivial⟩ ?_
         refine gT rfl rfl (p_cmp rfl rfl rfl ?_)
         exact wp_nil ⟨_,rfl,kR,rfl⟩
        ·intro e_ w_ k_ hf_ hR_
         refine hopE [(51,B false),(53,B (r158.2 != 0))] ⟨rQ (hR_ 10 51 rfl (lE rfl) rfl),rQ (hR_ 12 53 rfl (lE rfl) rfl),trivial⟩ ?_
         exact p_pkF rfl (rfl:_=B (r158.2 != 0))<|wp_nil ⟨_,rfl,kR,rfl⟩
        ·intro e_ w_ k_ hf_ hR_
         refine hopE [(54,B (r158.2 != 0))] ⟨rQ (hR_ 13 54 rfl (lE rfl) rfl),trivial⟩ ?_
         exact p_mB rfl<|wp_nil ⟨_,rfl,kR,congrArg Value.bool c244⟩
        ·intro e_ w_ k_ hf_ hR_
         refine hopE [(10,I r199.2),(55,B false)] ⟨((hf_ 10 rfl).trans (rfl:_=I r199.2)),rQ (hR_ 14 55 rfl (lE rfl) rfl),trivial⟩ ?_
         refine gT rfl rfl (p_mI rfl ?_)
         exact wp_nil ⟨_,rfl,kR,rfl⟩
        ·intro e_ w_ k_ hf_ hR_
         refine hopE [(55,B false),(56,I r199.2)] ⟨rQ (hR_ 14 55 rfl (lE rfl) rfl),rQ (hR_ 15 56 rfl (lE rfl) rfl),trivial⟩ ?_
         refine gT rfl rfl (p_cmp rfl rfl rfl ?_)
         exact wp_nil ⟨_,rfl,kR,rfl⟩
        ·intro e_ w_ k_ hf_ hR_
         refine hopE [(55,B false),(57,B (r199.2 != 0))] ⟨rQ (hR_ 14 55 rfl (lE rfl) rfl),rQ (hR_ 16 57 rfl (lE rfl) rfl),trivial⟩ ?_
         exact p_pkF rfl (rfl:_=B (r199.2 != 0))<|wp_nil ⟨_,rfl,kR,rfl⟩
        ·intro e_ w_ k_ hf_ hR_
         refine hopE [(58,B (r199.2 != 0))] ⟨rQ (hR_ 17 58 rfl (lE rfl) rfl),trivial⟩ ?_
         exact p_mB rfl<|wp_nil ⟨_,rfl,kR,congrArg Value.bool c255⟩
        ·intro e_ w_ k_ hf_ hR_
         have S_:=@A_ _ k_
         refine hopE [(1,P b39 0),(59,B false)] ⟨((hf_ 1 rfl).trans (rfl:_=P b39 0)),rQ (hR_ 18 59 rfl (lE rfl) rfl),trivial⟩ ?_
         refine gT rfl rfl (p_ldA ty49 sz49 (S_.atP (i:=1) rfl) rfl rfl ?_)
         exact wp_nil ⟨_,rfl,S_.keep,rfl⟩
        ·intro e_ w_ k_ hf_ hR_
         have S_:=@A_ _ k_
         refine hopE [(59,B false)] ⟨rQ (hR_ 18 59 rfl (lE rfl) rfl),trivial⟩ ?_
         refine gT rfl rfl (p_cv (B_Range_ok h263) fu21 rfl S_ fun w264 S265=>?_)
         exact wp_nil ⟨_,rfl,S265.keep,rfl⟩
        ·intro e_ w_ k_ hf_ hR_
         refine hopE [(59,B false),(60,AG [I r35.1.Low,I r35.1.High]),(61,AG [I r262.Low,I r262.High])] ⟨rQ (hR_ 18 59 rfl (lE rfl) rfl),rQ (hR_ 19 60 rfl (lE rfl) rfl),rQ (hR_ 20 61 rfl (lE rfl) rfl),trivial⟩ ?_
         refine gT rfl rfl (o_neA (xs:=[I r35.1.Low,I r35.1.High]) (ys:=[I r262.Low,I r262.High]) (T:=((r35.1.Low==r262.Low)&&(r35.1.High==r262.High))) rfl rfl eq49 ⟨⟨_,rfl⟩,⟨⟨_,rfl⟩,trivial⟩⟩ ⟨⟨_,rfl⟩,⟨⟨_,rfl⟩,trivial⟩⟩ (by simp [Bool.and_eq_true,and_assoc]) ?_)
         exact wp_nil ⟨_,rfl,kR,rfl⟩
        ·intro e_ w_ k_ hf_ hR_
         refine hopE [(59,B false),(62,B (!((r35.1.Low==r262.Low)&&(r35.1.High==r262.High))))] ⟨rQ (hR_ 18 59 rfl (lE rfl) rfl),rQ (hR_ 21 62 rfl (lE rfl) rfl),trivial⟩ ?_
         exact p_pkF rfl (rfl:_=B (!((r35.1.Low==r262.Low)&&(r35.1.High==r262.High))))<|wp_nil ⟨_,rfl,kR,rfl⟩
        ·intro e_ w_ k_ hf_ hR_
         refine hopE [(63,B (!((r35.1.Low==r262.Low)&&(r35.1.High==r262.High))))] ⟨rQ (hR_ 22 63 rfl (lE rfl) rfl),trivial⟩ ?_
         exact p_mB rfl<|wp_nil ⟨_,rfl,kR,congrArg Value.bool c272⟩
        ·intro e_ w_ k_ hf_ hR_
         have S_:=@A_ _ k_
         refine hopE [(3,P b80 0),(64,B false)] ⟨((hf_ 3 rfl).trans (rfl:_=P b80 0)),rQ (hR_ 23 64 rfl (lE rfl) rfl),trivial⟩ ?_
         refine gT rfl rfl (p_ldA ty49 sz49 (S_.atP (i:=0) rfl) rfl rfl ?_)
         exact wp_nil ⟨_,rfl,S_.keep,rfl⟩
        ·intro e_ w_ k_ hf_ hR_
         have S_:=@A_ _ k_
         refine hopE [(64,B false)] ⟨rQ (hR_ 23 64 rfl (lE rfl) rfl),trivial⟩ ?_
         refine gT rfl rfl (p_cv (B_Point_ok h325) fu30 rfl S_ fun w326 S327=>?_)
         exact wp_nil ⟨_,rfl,S327.keep,rfl⟩
        ·intro e_ w_ k_ hf_ hR_
         refine hopE [(64,B false),(65,AG [I r76.1.Low,I r76.1.High]),(66,AG [I r324.Low,I r324.High])] ⟨rQ (hR_ 23 64 rfl (lE rfl) rfl),rQ (hR_ 24 65 rfl (lE rfl) rfl),rQ (hR_ 25 66 rfl (lE rfl) rfl),trivial⟩ ?_
         refine gT rfl rfl (o_neA (xs:=[I r76.1.Low,I r76.1.High]) (ys:=[I r324.Low,I r324.High]) (T:=((r76.1.Low==r324.Low)&&(r76.1.High==r324.High))) rfl rfl eq49 ⟨⟨_,rfl⟩,⟨⟨_,rfl⟩,trivial⟩⟩ ⟨⟨_,rfl⟩,⟨⟨_,rfl⟩,trivial⟩⟩ (by simp [Bool.and_eq_true,and_assoc]) ?_)
         exact wp_nil ⟨_,rfl,kR,rfl⟩
        ·intro e_ w_ k_ hf_ hR_
         refine hopE [(64,B false),(67,B (!((r76.1.Low==r324.Low)&&(r76.1.High==r324.High))))] ⟨rQ (hR_ 23 64 rfl (lE rfl) rfl),rQ (hR_ 26 67 rfl (lE rfl) rfl),trivial⟩ ?_
         exact p_pkF rfl (rfl:_=B (!((r76.1.Low==r324.Low)&&(r76.1.High==r324.High))))<|wp_nil ⟨_,rfl,kR,rfl⟩
        ·intro e_ w_ k_ hf_ hR_
         refine hopE [(68,B (!((r76.1.Low==r324.Low)&&(r76.1.High==r324.High))))] ⟨rQ (hR_ 27 68 rfl (lE rfl) rfl),trivial⟩ ?_
         exact p_mB rfl<|wp_nil ⟨_,rfl,kR,congrArg Value.bool c334⟩
        ·intro e_ w_ k_ hf_ hR_
         refine hopE [(5,SL A121 r117.1.length c122),(69,B true)] ⟨((hf_ 5 rfl).trans (rfl:_=SL A121 r117.1.length c122)),rQ (hR_ 28 69 rfl (lE rfl) rfl),trivial⟩ ?_
         exact gF rfl rfl<|wp_nil ⟨_,rfl,kR,rfl⟩
        ·intro e_ w_ k_ hf_ hR_
         refine hopE [(69,B true)] ⟨rQ (hR_ 28 69 rfl (lE rfl) rfl),trivial⟩ ?_
         exact gF rfl rfl<|wp_nil ⟨_,rfl,kR,rfl⟩
        ·intro e_ w_ k_ hf_ hR_
         refine hopE [(69,B true),(70,undef),(71,undef)] ⟨rQ (hR_ 28 69 rfl (lE rfl) rfl),rQ (hR_ 29 70 rfl (lE rfl) rfl),rQ (hR_ 30 71 rfl (lE rfl) rfl),trivial⟩ ?_
         exact gF rfl rfl<|wp_nil ⟨_,rfl,kR,rfl⟩
        ·intro e_ w_ k_ hf_ hR_
         refine hopE [(69,B true),(72,undef)] ⟨rQ (hR_ 28 69 rfl (lE rfl) rfl),rQ (hR_ 31 72 rfl (lE rfl) rfl),trivial⟩ ?_
         exact gF rfl rfl<|wp_nil ⟨_,rfl,kR,rfl⟩
        ·intro e_ w_ k_ hf_ hR_
         refine hopE [(69,B true),(73,undef)] ⟨rQ (hR_ 28 69 rfl (lE rfl) rfl),rQ (hR_ 32 73 rfl (lE rfl) rfl),trivial⟩ ?_
         exact p_pkT rfl (rfl:_=B true)<|wp_nil ⟨_,rfl,kR,rfl⟩
        ·intro e_ w_ k_ hf_ hR_
         refine hopE [(74,B true)] ⟨rQ (hR_ 33 74 rfl (lE rfl) rfl),trivial⟩ ?_
         exact p_mB rfl<|wp_nil ⟨_,rfl,kR,rfl⟩
        ·intro e_ w_ k_ hf_ hR_
         refine hopE [(7,SL A162 r158.1.length c163),(75,B true)] ⟨((hf_ 7 rfl).trans (rfl:_=SL A162 r158.1.length c163)),rQ (hR_ 34 75 rfl (lE rfl) rfl),trivial⟩ ?_
         exact gF rfl rfl<|wp_nil ⟨_,rfl,kR,rfl⟩
        ·intro e_ w_ k_ hf_ hR_
         refine hopE [(75,B true)] ⟨rQ (hR_ 34 75 rfl (lE rfl) rfl),trivial⟩ ?_
         exact gF rfl rfl<|wp_nil ⟨_,rfl,kR,rfl⟩
        ·intro e_ w_ k_ hf_ hR_
         refine hopE [(75,B true),(76,undef),(77,undef)] ⟨rQ (hR_ 34 75 rfl (lE rfl) rfl),rQ (hR_ 35 76 rfl (lE rfl) rfl),rQ (hR_ 36 77 rfl (lE rfl) rfl),trivial⟩ ?_
         exact gF rfl rfl<|wp_nil ⟨_,rfl,kR,rfl⟩
        ·intro e_ w_ k_ hf_ hR_
         refine hopE [(75,B true),(78,undef)] ⟨rQ (hR_ 34 75 rfl (lE rfl) rfl),rQ (hR_ 37 78 rfl (lE rfl) rfl),trivial⟩ ?_
         exact gF rfl rfl<|wp_nil ⟨_,rfl,kR,rfl⟩
        ·intro e_ w_ k_ hf_ hR_
         refine hopE [(75,B true),(79,undef)] ⟨rQ (hR_ 34 75 rfl (lE rfl) rfl),rQ (hR_ 38 79 rfl (lE rfl) rfl),trivial⟩ ?_
         exact p_pkT rfl (rfl:_=B true)<|wp_nil ⟨_,rfl,kR,rfl⟩
        ·intro e_ w_ k_ hf_ hR_
         refine hopE [(80,B true)] ⟨rQ (hR_ 39 80 rfl (lE rfl) rfl),trivial⟩ ?_
         exact p_mB rfl<|wp_nil ⟨_,rfl,kR,rfl⟩
        ·intro e_ w_ k_ hf_ hR_
         refine hopE [(9,SL A203 r199.1.length c204),(81,B true)] ⟨((hf_ 9 rfl).trans (rfl:_=SL A203 r199.1.length c204)),rQ (hR_ 40 81 rfl (lE rfl) rfl),trivial⟩ ?_
         exact gF rfl rfl<|wp_nil ⟨_,rfl,kR,rfl⟩
        ·intro e_ w_ k_ hf_ hR_
         refine hopE [(81,B true)] ⟨rQ (hR_ 40 81 rfl (lE rfl) rfl),trivial⟩ ?_
         exact gF rfl rfl<|wp_nil ⟨_,rfl,kR,rfl⟩
        ·intro e_ w_ k_ hf_ hR_
         refine hopE [(81,B true),(82,undef),(83,undef)] ⟨rQ (hR_ 40 81 rfl (lE rfl) rfl),rQ (hR_ 41 82 rfl (lE rfl) rfl),rQ (hR_ 42 83 rfl (lE rfl) rfl),trivial⟩ ?_
         exact gF rfl rfl<|wp_nil ⟨_,rfl,kR,rfl⟩
        ·intro e_ w_ k_ hf_ hR_
         refine hopE [(81,B true),(84,undef)] ⟨rQ (hR_ 40 81 rfl (lE rfl) rfl),rQ (hR_ 43 84 rfl (lE rfl) rfl),trivial⟩ ?_
         exact gF rfl rfl<|wp_nil ⟨_,rfl,kR,rfl⟩
        ·intro e_ w_ k_ hf_ hR_
         refine hopE [(81,B true),(85,undef)] ⟨rQ (hR_ 40 81 rfl (lE rfl) rfl),rQ (hR_ 44 85 rfl (lE rfl) rfl),trivial⟩ ?_
         exact p_pkT rfl (rfl:_=B true)<|wp_nil ⟨_,rfl,kR,rfl⟩
        intro e364 w365 lo366 hi367 k368 hf369 hR370 hd371
        have S372:=S208.call k368
        have q373:e364 86=B true:=(hR370 45 86 (lE rfl) rfl).2.2.2
        refine tailE [(86,B true)] ⟨q373,trivial⟩ ?_
        intro g374
        refine wp_nil ?_
        have S375:St w nF w365 [] [gW0,gW1,gW2]:=S372.pk [] (by decide) [3,4,5] rfl rfl
        try clear S372
        refine c_true rfl<|c_seq<|reg<|p_aB rfl<|wp_nil ?_
        obtain rfl:=sJ H
        exact c_ret (rT Tryd.f13 S375.keep rfl rfl)
       ·replace H:=condF c334 H
        obtain ⟨r388,h389,H⟩:=bindS H
        rcases bE (!r388) with c397 | c397
        ·replace H:=condT c397 H
         have A_:∀ {w_:World},Keep0 w201 w_→St w_ nF w_ [] [bl b80 [I r76.1.Low,I r76.1.High] 49,bl b39 [I r35.1.Low,I r35.1.High] 49,rd intE 1 A203 c204 r199.1,rd intE 1 A162 c163 r158.1,rd intE 1 A121 c122 r117.1,gW0,gW1,gW2]:=fun k_=>S208.asP k_
         refine reg_any mixed 46 (by kernel_rfl) [rv (I r35.2),rv (B (r35.2 != 0)),rv (B false),rv (I r76.2),rv (B (r76.2 != 0)),rv (B (r76.2 != 0)),rv (B false),rv (I r117.2),rv (B (r117.2 != 0)),rv (B (r117.2 != 0)),rv (B false),rv (I r158.2),rv (B (r158.2 != 0)),rv (B (r158.2 != 0)),rv (B false),rv (I r199.2),rv (B (r199.2 != 0)),rv (B (r199.2 != 0)),rv (B false),rv (AG [I r35.1.Low,I r35.1.High]),rv (AG [I r262.Low,I r262.High]),rv (B (!((r35.1.Low==r262.Low)&&(r35.1.High==r262.High)))),rv (B (!((r35.1.Low==r262.Low)&&(r35.1.High==r262.High)))),rv (B false),rv (AG [I r76.1.Low,I r76.1.High]),rv (AG [I r324.Low,I r324.High]),rv (B (!((r76.1.Low==r324.Low)&&(r76.1.High==r324.High)))),rv (B (!((r76.1.Low==r324.Low)&&(r76.1.High==r324.High)))),rv (B false),rv (SL A121 r117.1.length c122),rx (α:=(Option Addr)×Nat) (fun ⟨A378,c379⟩=>SL A378 ([0]:List Int).length c379) (fun ⟨A378,c379⟩ lo hi=>BtwL lo hi [] (gr intE 1 3 A378 c379 ([0]:List Int))∧True) (fun ⟨A378,c379⟩=>[gr intE 1 3 A378 c379 ([0]:List Int)]),rv (B r388),rv (B (!r388)),rv (B (!r388)),rv (B true),rv (undef),rv (undef),rv (undef),rv (undef),rv (B true),rv (B true),rv (undef),rv (undef),rv (undef),rv (undef),rv (B true)] [[],[],[],[],[],[],[],[],[],[],[],[],[],[],[],[],[],[],[],[],[],[],[],[],[],[],[],[],[],[],[],[],[],[],[],[],[],[],[],[],[],[],[],[],[],[]] rfl (by kernel_rfl) [[],[0],[0,1],[0,1,2],[0,1,2,3],[0,1,2,3,4],[0,1,2,3,4,5],[0,1,2,3,4,5,6],[0,1,2,3,4,5,6,7],[0,1,2,3,4,5,6,7,8],[0,1,2,3,4,5,6,7,8,9],[0,1,2,3,4,5,6,7,8,9,10],[0,1,2,3,4,5,6,7,8,9,10,11],[0,1,2,3,4,5,6,7,8,9,10,11,12],[0,1,2,3,4,5,6,7,8,9,10,11,12,13],[0,1,2,3,4,5,6,7,8,9,10,11,12,13,14],[0,1,2,3,4,5,6,7,8,9,10,11,12,13,14,15],[0,1,2,3,4,5,6,7,8,9,10,11,12,13,14,15,16],[0,1,2,3,4,5,6,7,8,9,10,11,12,13,14,15,16,17],[0,1,2,3,4,5,6,7,8,9,10,11,12,13,14,15,16,17,18],[0,1,2,3,4,5,6,7,8,9,10,11,12,13,14,15,16,17,18],[0,1,2,3,4,5,6,7,8,9,10,11,12,13,14,15,16,17,18,19,20],[0,1,2,3,4,5,6,7,8,9,10,11,12,13,14,15,16,17,18,19,20,21],[0,1,2,3,4,5,6,7,8,9,10,11,12,13,14,15,16,17,18,19,20,21,22],[0,1,2,3,4,5,6,7,8,9,10,11,12,13,14,15,16,17,18,19,20,21,22,23],[0,1,2,3,4,5,6,7,8,9,10,11,12,13,14,15,16,17,18,19,20,21,22,23],[0,1,2,3,4,5,6,7,8,9,10,11,12,13,14,15,16,17,18,19,20,21,22,23,24,25],[0,1,2,3,4,5,6,7,8,9,10,11,12,13,14,15,16,17,18,19,20,21,22,23,24,25,26],[0,1,2,3,4,5,6,7,8,9,10,11,12,13,14,15,16,17,18,19,20,21,22,23,24,25,26,27],[0,1,2,3,4,5,6,7,8,9,10,11,12,13,14,15,16,17,18,19,20,21,22,23,24,25,26,27,28],[0,1,2,3,4,5,6,7,8,9,10,11,12,13,14,15,16,17,18,19,20,21,22,23,24,25,26,27,28],[0,1,2,3,4,5,6,7,8,9,10,11,12,13,14,15,16,17,18,19,20,21,22,23,24,25,26,27,28,29,30],[0,1,2,3,4,5,6,7,8,9,10,11,12,13,14,15,16,17,18,19,20,21,22,23,24,25,26,27,28,29,30,31],[0,1,2,3,4,5,6,7,8,9,10,11,12,13,14,15,16,17,18,19,20,21,22,23,24,25,26,27,28,29,30,31,32],[0,1,2,3,4,5,6,7,8,9,10,11,12,13,14,15,16,17,18,19,20,21,22,23,24,25,26,27,28,29,30,31,32,33],[0,1,2,3,4,5,6,7,8,9,10,11,12,13,14,15,16,17,18,19,20,21,22,23,24,25,26,27,28,29,30,31,32,33,34],[0,1,2,3,4,5,6,7,8,9,10,11,12,13,14,15,16,17,18,19,20,21,22,23,24,25,26,27,28,29,30,31,32,33,34],[0,1,2,3,4,5,6,7,8,9,10,11,12,13,14,15,16,17,18,19,20,21,22,23,24,25,26,27,28,29,30,31,32,33,34,35,36],[0,1,2,3,4,5,6,7,8,9,10,11,12,13,14,15,16,17,18,19,20,21,22,23,24,25,26,27,28,29,30,31,32,33,34,35,36,37],[0,1,2,3,4,5,6,7,8,9,10,11,12,13,14,15,16,17,18,19,20,21,22,23,24,25,26,27,28,29,30,31,32,33,34,35,36,37,38],[0,1,2,3,4,5,6,7,8,9,10,11,12,13,14,15,16,17,18,19,20,21,22,23,24,25,26,27,28,29,30,31,32,33,34,35,36,37,38,39],[0,1,2,3,4,5,6,7,8,9,10,11,12,13,14,15,16,17,18,19,20,21,22,23,24,25,26,27,28,29,30,31,32,33,34,35,36,37,38,39,40],[0,1,2,3,4,5,6,7,8,9,10,11,12,13,14,15,16,17,18,19,20,21,22,23,24,25,26,27,28,29,30,31,32,33,34,35,36,37,38,39,40],[0,1,2,3,4,5,6,7,8,9,10,11,12,13,14,15,16,17,18,19,20,21,22,23,24,25,26,27,28,29,30,31,32,33,34,35,36,37,38,39,40,41,42],[0,1,2,3,4,5,6,7,8,9,10,11,12,13,14,15,16,17,18,19,20,21,22,23,24,25,26,27,28,29,30,31,32,33,34,35,36,37,38,39,40,41,42,43],[0,1,2,3,4,5,6,7,8,9,10,11,12,13,14,15,16,17,18,19,20,21,22,23,24,25,26,27,28,29,30,31,32,33,34,35,36,37,38,39,40,41,42,43,44]] (by kernel_rfl) ⟨?_,?_,?_,?_,?_,?_,?_,?_,?_,?_,?_,?_,?_,?_,?_,?_,?_,?_,?_,?_,?_,?_,?_,?_,?_,?_,?_,?_,?_,?_,?_,?_,?_,?_,?_,?_,?_,?_,?_,?_,?_,?_,?_,?_,?_,?_,trivial⟩ ?_
         ·intro e_ w_ k_ hf_ hR_
          refine hopE [(2,I r35.2)] ⟨((hf_ 2 rfl).trans (rfl:_=I r35.2)),trivial⟩ ?_
          exact p_mI rfl<|wp_nil ⟨_,rfl,kR,rfl⟩
         ·intro e_ w_ k_ hf_ hR_
          refine hopE [(41,I r35.2)] ⟨rQ (hR_ 0 41 rfl (lE rfl) rfl),trivial⟩ ?_
          exact p_cmp rfl rfl rfl<|wp_nil ⟨_,rfl,kR,rfl⟩
         ·intro e_ w_ k_ hf_ hR_
          refine hopE [(42,B (r35.2 != 0))] ⟨rQ (hR_ 1 42 rfl (lE rfl) rfl),trivial⟩ ?_
          exact p_mB rfl<|wp_nil ⟨_,rfl,kR,congrArg Value.bool c211⟩
         ·intro e_ w_ k_ hf_ hR_
          refine hopE [(4,I r76.2),(43,B false)] ⟨((hf_ 4 rfl).trans (rfl:_=I r76.2)),rQ (hR_ 2 43 rfl (lE rfl) rfl),trivial⟩ ?_
          refine gT rfl rfl (p_mI rfl ?_)
          exact wp_nil ⟨_,rfl,kR,rfl⟩
         ·intro e_ w_ k_ hf_ hR_
          refine hopE [(43,B false),(44,I r76.2)] ⟨rQ (hR_ 2 43 rfl (lE rfl) rfl),rQ (hR_ 3 44 rfl (lE rfl) rfl),trivial⟩ ?_
          refine gT rfl rfl (p_cmp rfl rfl rfl ?_)
          exact wp_nil ⟨_,rfl,kR,rfl⟩
         ·intro e_ w_ k_ hf_ hR_
          refine hopE [(43,B false),(45,B (r76.2 != 0))] ⟨rQ (hR_ 2 43 rfl (lE rfl) rfl),rQ (hR_ 4 45 rfl (lE rfl) rfl),trivial⟩ ?_
          exact p_pkF rfl (rfl:_=B (r76.2 != 0))<|wp_nil ⟨_,rfl,kR,rfl⟩
         ·intro e_ w_ k_ hf_ hR_
          refine hopE [(46,B (r76.2 != 0))] ⟨rQ (hR_ 5 46 rfl (lE rfl) rfl),trivial⟩ ?_
          exact p_mB rfl<|wp_nil ⟨_,rfl,kR,congrArg Value.bool c222⟩
         ·intro e_ w_ k_ hf_ hR_
          refine hopE [(6,I r117.2),(47,B false)] ⟨((hf_ 6 rfl).trans (rfl:_=I r117.2)),rQ (hR_ 6 47 rfl (lE rfl) rfl),trivial⟩ ?_
          refine gT rfl rfl (p_mI rfl ?_)
          exact wp_nil ⟨_,rfl,kR,rfl⟩
         ·intro e_ w_ k_ hf_ hR_
          refine hopE [(47,B false),(48,I r117.2)] ⟨rQ (hR_ 6 47 rfl (lE rfl) rfl),rQ (hR_ 7 48 rfl (lE rfl) rfl),trivial⟩ ?_
          refine gT rfl rfl (p_cmp rfl rfl rfl ?_)
          exact wp_nil ⟨_,rfl,kR,rfl⟩
         ·intro e_ w_ k_ hf_ hR_
          refine hopE [(47,B false),(49,B (r117.2 != 0))] ⟨rQ (hR_ 6 47 rfl (lE rfl) rfl),rQ (hR_ 8 49 rfl (lE rfl) rfl),trivial⟩ ?_
          exact p_pkF rfl (rfl:_=B (r117.2 != 0))<|wp_nil ⟨_,rfl,kR,rfl⟩
         ·intro e_ w_ k_ hf_ hR_
          refine hopE [(50,B (r117.2 != 0))] ⟨rQ (hR_ 9 50 rfl (lE rfl) rfl),trivial⟩ ?_
          exact p_mB rfl<|wp_nil ⟨_,rfl,kR,congrArg Value.bool c233⟩
         ·intro e_ w_ k_ hf_ hR_
          refine hopE [(8,I r158.2),(51,B false)] ⟨((hf_ 8 rfl).trans (rfl:_=I r158.2)),rQ (hR_ 10 51 rfl (lE rfl) rfl),trivial⟩ ?_
          refine gT rfl rfl (p_mI rfl ?_)
          exact wp_nil ⟨_,rfl,kR,rfl⟩
         ·intro e_ w_ k_ hf_ hR_
          refine hopE [(51,B false),(52,I r158.2)] ⟨rQ (hR_ 10 51 rfl (lE rfl) rfl),rQ (hR_ 11 52 rfl (lE rfl) rfl),trivial⟩ ?_
          refine gT rfl rfl (p_cmp rfl rfl rfl ?_)
          exact wp_nil ⟨_,rfl,kR,rfl⟩
         ·intro e_ w_ k_ hf_ hR_
          refine hopE [(51,B false),(53,B (r158.2 != 0))] ⟨rQ (hR_ 10 51 rfl (lE rfl) rfl),rQ (hR_ 12 53 rfl (lE rfl) rfl),trivial⟩ ?_
          exact p_pkF rfl (rfl:_=B (r158.2 != 0))<|wp_nil ⟨_,rfl,kR,rfl⟩
         ·intro e_ w_ k_ hf_ hR_
          refine hopE [(54,B (r158.2 != 0))] ⟨rQ (hR_ 13 54 rfl (lE rfl) rfl),trivial⟩ ?_
          exact p_mB rfl<|wp_nil ⟨_,rfl,kR,congrArg Value.bool c244⟩
         ·intro e_ w_ k_ hf_ hR_
          refine hopE [(10,I r199.2),(55,B false)] ⟨((hf_ 10 rfl).trans (rfl:_=I r199.2)),rQ (hR_ 14 55 rfl (lE rfl) rfl),trivial⟩ ?_
          refine gT rfl rfl (p_mI rfl ?_)
          exact wp_nil ⟨_,rfl,kR,rfl⟩
         ·intro e_ w_ k_ hf_ hR_
          refine hopE [(55,B false),(56,I r199.2)] ⟨rQ (hR_ 14 55 rfl (lE rfl) rfl),rQ (hR_ 15 56 rfl (lE rfl) rfl),trivial⟩ ?_
          refine gT rfl rfl (p_cmp rfl rfl rfl ?_)
          exact wp_nil ⟨_,rfl,kR,rfl⟩
         ·intro e_ w_ k_ hf_ hR_
          refine hopE [(55,B false),(57,B (r199.2 != 0))] ⟨rQ (hR_ 14 55 rfl (lE rfl) rfl),rQ (hR_ 16 57 rfl (lE rfl) rfl),trivial⟩ ?_
          exact p_pkF rfl (rfl:_=B (r199.2 != 0))<|wp_nil ⟨_,rfl,kR,rfl⟩
         ·intro e_ w_ k_ hf_ hR_
          refine hopE [(58,B (r199.2 != 0))] ⟨rQ (hR_ 17 58 rfl (lE rfl) rfl),trivial⟩ ?_
          exact p_mB rfl<|wp_nil ⟨_,rfl,kR,congrArg Value.bool c255⟩
         ·intro e_ w_ k_ hf_ hR_
          have S_:=@A_ _ k_
          refine hopE [(1,P b39 0),(59,B false)] ⟨((hf_ 1 rfl).trans (rfl:_=P b39 0)),rQ (hR_ 18 59 rfl (lE rfl) rfl),trivial⟩ ?_
          refine gT rfl rfl (p_ldA ty49 sz49 (S_.atP (i:=1) rfl) rfl rfl ?_)
          exact wp_nil ⟨_,rfl,S_.keep,rfl⟩
         ·intro e_ w_ k_ hf_ hR_
          have S_:=@A_ _ k_
          refine hopE [(59,B false)] ⟨rQ (hR_ 18 59 rfl (lE rfl) rfl),trivial⟩ ?_
          refine gT rfl rfl (p_cv (B_Range_ok h263) fu21 rfl S_ fun w264 S265=>?_)
          exact wp_nil ⟨_,rfl,S265.keep,rfl⟩
         ·intro e_ w_ k_ hf_ hR_
          refine hopE [(59,B false),(60,AG [I r35.1.Low,I r35.1.High]),(61,AG [I r262.Low,I r262.High])] ⟨rQ (hR_ 18 59 rfl (lE rfl) rfl),rQ (hR_ 19 60 rfl (lE rfl) rfl),rQ (hR_ 20 61 rfl (lE rfl) rfl),trivial⟩ ?_
          refine gT rfl rfl (o_neA (xs:=[I r35.1.Low,I r35.1.High]) (ys:=[I r262.Low,I r262.High]) (T:=((r35.1.Low==r262.Low)&&(r35.1.High==r262.High))) rfl rfl eq49 ⟨⟨_,rfl⟩,⟨⟨_,rfl⟩,trivial⟩⟩ ⟨⟨_,rfl⟩,⟨⟨_,rfl⟩,trivial⟩⟩ (by simp [Bool.and_eq_true,and_assoc]) ?_)
          exact wp_nil ⟨_,rfl,kR,rfl⟩
         ·intro e_ w_ k_ hf_ hR_
          refine hopE [(59,B false),(62,B (!((r35.1.Low==r262.Low)&&(r35.1.High==r262.High))))] ⟨rQ (hR_ 18 59 rfl (lE rfl) rfl),rQ (hR_ 21 62 rfl (lE rfl) rfl),trivial⟩ ?_
          exact p_pkF rfl (rfl:_=B (!((r35.1.Low==r262.Low)&&(r35.1.High==r262.High))))<|wp_nil ⟨_,rfl,kR,rfl⟩
         ·intro e_ w_ k_ hf_ hR_
          refine hopE [(63,B (!((r35.1.Low==r262.Low)&&(r35.1.High==r262.High))))] ⟨rQ (hR_ 22 63 rfl (lE rfl) rfl),trivial⟩ ?_
          exact p_mB rfl<|wp_nil ⟨_,rfl,kR,congrArg Value.bool c272⟩
         ·intro e_ w_ k_ hf_ hR_
          have S_:=@A_ _ k_
          refine hopE [(3,P b80 0),(64,B false)] ⟨((hf_ 3 rfl).trans (rfl:_=P b80 0)),rQ (hR_ 23 64 rfl (lE rfl) rfl),trivial⟩ ?_
          refine gT rfl rfl (p_ldA ty49 sz49 (S_.atP (i:=0) rfl) rfl rfl ?_)
          exact wp_nil ⟨_,rfl,S_.keep,rfl⟩
         ·intro e_ w_ k_ hf_ hR_
          have S_:=@A_ _ k_
          refine hopE [(64,B false)] ⟨rQ (hR_ 23 64 rfl (lE rfl) rfl),trivial⟩ ?_
          refine gT rfl rfl (p_cv (B_Point_ok h325) fu30 rfl S_ fun w326 S327=>?_)
          exact wp_nil ⟨_,rfl,S327.keep,rfl⟩
         ·intro e_ w_ k_ hf_ hR_
          refine hopE [(64,B false),(65,AG [I r76.1.Low,I r76.1.High]),(66,AG [I r324.Low,I r324.High])] ⟨rQ (hR_ 23 64 rfl (lE rfl) rfl),rQ (hR_ 24 65 rfl (lE rfl) rfl),rQ (hR_ 25 66 rfl (lE rfl) rfl),trivial⟩ ?_
          refine gT rfl rfl (o_neA (xs:=[I r76.1.Low,I r76.1.High]) (ys:=[I r324.Low,I r324.High]) (T:=((r76.1.Low==r324.Low)&&(r76.1.High==r324.High))) rfl rfl eq49 ⟨⟨_,rfl⟩,⟨⟨_,rfl⟩,trivial⟩⟩ ⟨⟨_,rfl⟩,⟨⟨_,rfl⟩,trivial⟩⟩ (by simp [Bool.and_eq_true,and_assoc]) ?_)
          exact wp_nil ⟨_,rfl,kR,rfl⟩
         ·intro e_ w_ k_ hf_ hR_
          refine hopE [(64,B false),(67,B (!((r76.1.Low==r324.Low)&&(r76.1.High==r324.High))))] ⟨rQ (hR_ 23 64 rfl (lE rfl) rfl),rQ (hR_ 26 67 rfl (lE rfl) rfl),trivial⟩ ?_
          exact p_pkF rfl (rfl:_=B (!((r76.1.Low==r324.Low)&&(r76.1.High==r324.High))))<|wp_nil ⟨_,rfl,kR,rfl⟩
         ·intro e_ w_ k_ hf_ hR_
          refine hopE [(68,B (!((r76.1.Low==r324.Low)&&(r76.1.High==r324.High))))] ⟨rQ (hR_ 27 68 rfl (lE rfl) rfl),trivial⟩ ?_
          exact p_mB rfl<|wp_nil ⟨_,rfl,kR,congrArg Value.bool c334⟩
         ·intro e_ w_ k_ hf_ hR_
          refine hopE [(5,SL A121 r117.1.length c122),(69,B false)] ⟨((hf_ 5 rfl).trans (rfl:_=SL A121 r117.1.length c122)),rQ (hR_ 28 69 rfl (lE rfl) rfl),trivial⟩ ?_
          refine gT rfl rfl (p_mS rfl ?_)
          exact wp_nil ⟨_,rfl,kR,rfl⟩
         ·intro e_ w_ k_ hf_ hR_
          have S_:=@A_ _ k_
          refine hopE [(69,B false)] ⟨rQ (hR_ 28 69 rfl (lE rfl) rfl),trivial⟩ ?_
          refine gT rfl rfl<|p_bsl (enc:=intE) (l:=([0]:List Int)) I (fun _=>rfl) sc30 in3 intE_len rfl (by decide) (by decide) zr3_1 S_ rfl fun A378 c379 w380 S381=>wp_nil ?_
          exact ⟨_,rfl,S381.keep,⟨(A378,c379),rfl,⟨bL (New.al (S381.newX (i:=0) rfl)) rfl (S381.atX (i:=0) rfl) rfl,trivial⟩,(cA (S381.atX (i:=0) rfl) nM)⟩⟩
         ·intro e_ w_ k_ hf_ hR_
          have S_:=@A_ _ k_
          obtain ⟨_,_,_,_,q383⟩:=hR_ 28 69 rfl (lE rfl) rfl
          obtain ⟨_,_,_,_,q384⟩:=hR_ 29 70 rfl (lE rfl) rfl
          obtain ⟨_,_,_,_,⟨A378,c379⟩,q385,p386,a387⟩:=hR_ 30 71 rfl (lE rfl) rfl
          replace q385:e_ 71=SL A378 ([0]:List Int).length c379:=q385
          have S_:=St.addL' S_ (a387 _ (.head _)) (fun _ _ _ h_=>(nE h_))
          refine hopE [(69,B false),(70,SL A121 r117.1.length c122),(71,SL A378 ([0]:List Int).length c379)] ⟨q383,q384,q385,trivial⟩ ?_
          refine gT rfl rfl (p_cv (B_Alike_ok h389 (S_.atP (i:=5) rfl) (gr_rd intE_len (S_.atP (i:=0) rfl))) fu43 rfl S_ fun w390 S391=>?_)
          exact wp_nil ⟨_,rfl,S391.keep,rfl⟩
         ·intro e_ w_ k_ hf_ hR_
          refine hopE [(69,B false),(72,B r388)] ⟨rQ (hR_ 28 69 rfl (lE rfl) rfl),rQ (hR_ 31 72 rfl (lE rfl) rfl),trivial⟩ ?_
          refine gT rfl rfl (p_not rfl ?_)
          exact wp_nil ⟨_,rfl,kR,rfl⟩
         ·intro e_ w_ k_ hf_ hR_
          refine hopE [(69,B false),(73,B (!r388))] ⟨rQ (hR_ 28 69 rfl (lE rfl) rfl),rQ (hR_ 32 73 rfl (lE rfl) rfl),trivial⟩ ?_
          exact p_pkF rfl (rfl:_=B (!r388))<|wp_nil ⟨_,rfl,kR,rfl⟩
         ·intro e_ w_ k_ hf_ hR_
          refine hopE [(74,B (!r388))] ⟨rQ (hR_ 33 74 rfl (lE rfl) rfl),trivial⟩ ?_
          exact p_mB rfl<|wp_nil ⟨_,rfl,kR,congrArg Value.bool c397⟩
         ·intro e_ w_ k_ hf_ hR_
          refine hopE [(7,SL A162 r158.1.length c163),(75,B true)] ⟨((hf_ 7 rfl).trans (rfl:_=SL A162 r158.1.length c163)),rQ (hR_ 34 75 rfl (lE rfl) rfl),trivial⟩ ?_
          exact gF rfl rfl<|wp_nil ⟨_,rfl,kR,rfl⟩
         ·intro e_ w_ k_ hf_ hR_
          refine hopE [(75,B true)] ⟨rQ (hR_ 34 75 rfl (lE rfl) rfl),trivial⟩ ?_
          exact gF rfl rfl<|wp_nil ⟨_,rfl,kR,rfl⟩
         ·intro e_ w_ k_ hf_ hR_
          refine hopE [(75,B true),(76,undef),(77,undef)] ⟨rQ (hR_ 34 75 rfl (lE rfl) rfl),rQ (hR_ 35 76 rfl (lE rfl) rfl),rQ (hR_ 36 77 rfl (lE rfl) rfl),trivial⟩ ?_
          exact gF rfl rfl<|wp_nil ⟨_,rfl,kR,rfl⟩
         ·intro e_ w_ k_ hf_ hR_
          refine hopE [(75,B true),(78,undef)] ⟨rQ (hR_ 34 75 rfl (lE rfl) rfl),rQ (hR_ 37 78 rfl (lE rfl) rfl),trivial⟩ ?_
          exact gF rfl rfl<|wp_nil ⟨_,rfl,kR,rfl⟩
         ·intro e_ w_ k_ hf_ hR_
          refine hopE [(75,B true),(79,undef)] ⟨rQ (hR_ 34 75 rfl (lE rfl) rfl),rQ (hR_ 38 79 rfl (lE rfl) rfl),trivial⟩ ?_
          exact p_pkT rfl (rfl:_=B true)<|wp_nil ⟨_,rfl,kR,rfl⟩
         ·intro e_ w_ k_ hf_ hR_
          refine hopE [(80,B true)] ⟨rQ (hR_ 39 80 rfl (lE rfl) rfl),trivial⟩ ?_
          exact p_mB rfl<|wp_nil ⟨_,rfl,kR,rfl⟩
         ·intro e_ w_ k_ hf_ hR_
          refine hopE [(9,SL A203 r199.1.length c204),(81,B true)] ⟨((hf_ 9 rfl).trans (rfl:_=SL A203 r199.1.length c204)),rQ (hR_ 40 81 rfl (lE rfl) rfl),trivial⟩ ?_
          exact gF rfl rfl<|wp_nil ⟨_,rfl,kR,rfl⟩
         ·intro e_ w_ k_ hf_ hR_
          refine hopE [(81,B true)] ⟨rQ (hR_ 40 81 rfl (lE rfl) rfl),trivial⟩ ?_
          exact gF rfl rfl<|wp_nil ⟨_,rfl,kR,rfl⟩
         ·intro e_ w_ k_ hf_ hR_
          refine hopE [(81,B true),(82,undef),(83,undef)] ⟨rQ (hR_ 40 81 rfl (lE rfl) rfl),rQ (hR_ 41 82 rfl (lE rfl) rfl),rQ (hR_ 42 83 rfl (lE rfl) rfl),trivial⟩ ?_
          exact gF rfl rfl<|wp_nil ⟨_,rfl,kR,rfl⟩
         ·intro e_ w_ k_ hf_ hR_
          refine hopE [(81,B true),(84,undef)] ⟨rQ (hR_ 40 81 rfl (lE rfl) rfl),rQ (hR_ 43 84 rfl (lE rfl) rfl),trivial⟩ ?_
          exact gF rfl rfl<|wp_nil ⟨_,rfl,kR,rfl⟩
         ·intro e_ w_ k_ hf_ hR_
          refine hopE [(81,B true),(85,undef)] ⟨rQ (hR_ 40 81 rfl (lE rfl) rfl),rQ (hR_ 44 85 rfl (lE rfl) rfl),trivial⟩ ?_
          exact p_pkT rfl (rfl:_=B true)<|wp_nil ⟨_,rfl,kR,rfl⟩
         intro e417 w418 lo419 hi420 k421 hf422 hR423 hd424
         have S425:=S208.call k421
         obtain ⟨h427,h428,h429,⟨A378,c379⟩,q426,h430,h431⟩:=hR423 30 71 (lE rfl) rfl
         replace q426:e417 71=SL A378 ([0]:List Int).length c379:=q426
         obtain ⟨p432,_⟩:=h430
         have q434:e417 86=B true:=(hR423 45 86 (lE rfl) rfl).2.2.2
         refine tailE [(86,B true)] ⟨q434,trivial⟩ ?_
         intro g435
         refine wp_nil ?_
         have S436:St w nF w418 [] [gW0,gW1,gW2]:=S425.pk [] (by decide) [3,4,5] rfl rfl
         try clear S425
         refine c_true rfl<|c_seq<|reg<|p_aB rfl<|wp_nil ?_
         obtain rfl:=sJ H
         exact c_ret (rT Tryd.f13 S436.keep rfl rfl)
        ·replace H:=condF c397 H
         obtain ⟨r449,h450,H⟩:=bindS H
         rcases bE (!r449) with c458 | c458
         ·replace H:=condT c458 H
          have A_:∀ {w_:World},Keep0 w201 w_→St w_ nF w_ [] [bl b80 [I r76.1.Low,I r76.1.High] 49,bl b39 [I r35.1.Low,I r35.1.High] 49,rd intE 1 A203 c204 r199.1,rd intE 1 A162 c163 r158.1,rd intE 1 A121 c122 r117.1,gW0,gW1,gW2]:=fun k_=>S208.asP k_
          refine reg_any mixed 46 (by kernel_rfl) [rv (I r35.2),rv (B (r35.2 != 0)),rv (B false),rv (I r76.2),rv (B (r76.2 != 0)),rv (B (r76.2 != 0)),rv (B false),rv (I r117.2),rv (B (r117.2 != 0)),rv (B (r117.2 != 0)),rv (B false),rv (I r158.2),rv (B (r158.2 != 0)),rv (B (r158.2 != 0)),rv (B false),rv (I r199.2),rv (B (r199.2 != 0)),rv (B (r199.2 != 0)),rv (B false),rv (AG [I r35.1.Low,I r35.1.High]),rv (AG [I r262.Low,I r262.High]),rv (B (!((r35.1.Low==r262.Low)&&(r35.1.High==r262.High)))),rv (B (!((r35.1.Low==r262.Low)&&(r35.1.High==r262.High)))),rv (B false),rv (AG [I r76.1.Low,I r76.1.High]),rv (AG [I r324.Low,I r324.High]),rv (B (!((r76.1.Low==r324.Low)&&(r76.1.High==r324.High)))),rv (B (!((r76.1.Low==r324.Low)&&(r76.1.High==r324.High)))),rv (B false),rv (SL A121 r117.1.length c122),rx (α:=(Option Addr)×Nat) (fun ⟨A378,c379⟩=>SL A378 ([0]:List Int).length c379) (fun ⟨A378,c379⟩ lo hi=>BtwL lo hi [] (gr intE 1 3 A378 c379 ([0]:List Int))∧True) (fun ⟨A378,c379⟩=>[gr intE 1 3 A378 c379 ([0]:List Int)]),rv (B r388),rv (B (!r388)),rv (B (!r388)),rv (B false),rv (SL A162 r158.1.length c163),rx (α:=(Option Addr)×Nat) (fun ⟨A439,c440⟩=>SL A439 [0,2].length c440) (fun ⟨A439,c440⟩ lo hi=>BtwL lo hi [] (gr intE 1 3 A439 c440 [0,2])∧True) (fun ⟨A439,c440⟩=>[gr intE 1 3 A439 c440 [0,2]]),rv (B r449),rv (B (!r449)),rv (B (!r449)),rv (B true),rv (undef),rv (undef),rv (undef),rv (undef),rv (B true)] [[],[],[],[],[],[],[],[],[],[],[],[],[],[],[],[],[],[],[],[],[],[],[],[],[],[],[],[],[],[],[],[],[],[],[],[],[],[],[],[],[],[],[],[],[],[]] rfl (by kernel_rfl) [[],[0],[0,1],[0,1,2],[0,1,2,3],[0,1,2,3,4],[0,1,2,3,4,5],[0,1,2,3,4,5,6],[0,1,2,3,4,5,6,7],[0,1,2,3,4,5,6,7,8],[0,1,2,3,4,5,6,7,8,9],[0,1,2,3,4,5,6,7,8,9,10],[0,1,2,3,4,5,6,7,8,9,10,11],[0,1,2,3,4,5,6,7,8,9,10,11,12],[0,1,2,3,4,5,6,7,8,9,10,11,12,13],[0,1,2,3,4,5,6,7,8,9,10,11,12,13,14],[0,1,2,3,4,5,6,7,8,9,10,11,12,13,14,15],[0,1,2,3,4,5,6,7,8,9,10,11,12,13,14,15,16],[0,1,2,3,4,5,6,7,8,9,10,11,12,13,14,15,16,17],[0,1,2,3,4,5,6,7,8,9,10,11,12,13,14,15,16,17,18],[0,1,2,3,4,5,6,7,8,9,10,11,12,13,14,15,16,17,18],[0,1,2,3,4,5,6,7,8,9,10,11,12,13,14,15,16,17,18,19,20],[0,1,2,3,4,5,6,7,8,9,10,11,12,13,14,15,16,17,18,19,20,21],[0,1,2,3,4,5,6,7,8,9,10,11,12,13,14,15,16,17,18,19,20,21,22],[0,1,2,3,4,5,6,7,8,9,10,11,12,13,14,15,16,17,18,19,20,21,22,23],[0,1,2,3,4,5,6,7,8,9,10,11,12,13,14,15,16,17,18,19,20,21,22,23],[0,1,2,3,4,5,6,7,8,9,10,11,12,13,14,15,16,17,18,19,20,21,22,23,24,25],[0,1,2,3,4,5,6,7,8,9,10,11,12,13,14,15,16,17,18,19,20,21,22,23,24,25,26],[0,1,2,3,4,5,6,7,8,9,10,11,12,13,14,15,16,17,18,19,20,21,22,23,24,25,26,27],[0,1,2,3,4,5,6,7,8,9,10,11,12,13,14,15,16,17,18,19,20,21,22,23,24,25,26,27,28],[0,1,2,3,4,5,6,7,8,9,10,11,12,13,14,15,16,17,18,19,20,21,22,23,24,25,26,27,28],[0,1,2,3,4,5,6,7,8,9,10,11,12,13,14,15,16,17,18,19,20,21,22,23,24,25,26,27,28,29,30],[0,1,2,3,4,5,6,7,8,9,10,11,12,13,14,15,16,17,18,19,20,21,22,23,24,25,26,27,28,29,30,31],[0,1,2,3,4,5,6,7,8,9,10,11,12,13,14,15,16,17,18,19,20,21,22,23,24,25,26,27,28,29,30,31,32],[0,1,2,3,4,5,6,7,8,9,10,11,12,13,14,15,16,17,18,19,20,21,22,23,24,25,26,27,28,29,30,31,32,33],[0,1,2,3,4,5,6,7,8,9,10,11,12,13,14,15,16,17,18,19,20,21,22,23,24,25,26,27,28,29,30,31,32,33,34],[0,1,2,3,4,5,6,7,8,9,10,11,12,13,14,15,16,17,18,19,20,21,22,23,24,25,26,27,28,29,30,31,32,33,34],[0,1,2,3,4,5,6,7,8,9,10,11,12,13,14,15,16,17,18,19,20,21,22,23,24,25,26,27,28,29,30,31,32,33,34,35,36],[0,1,2,3,4,5,6,7,8,9,10,11,12,13,14,15,16,17,18,19,20,21,22,23,24,25,26,27,28,29,30,31,32,33,34,35,36,37],[0,1,2,3,4,5,6,7,8,9,10,11,12,13,14,15,16,17,18,19,20,21,22,23,24,25,26,27,28,29,30,31,32,33,34,35,36,37,38],[0,1,2,3,4,5,6,7,8,9,10,11,12,13,14,15,16,17,18,19,20,21,22,23,24,25,26,27,28,29,30,31,32,33,34,35,36,37,38,39],[0,1,2,3,4,5,6,7,8,9,10,11,12,13,14,15,16,17,18,19,20,21,22,23,24,25,26,27,28,29,30,31,32,33,34,35,36,37,38,39,40],[0,1,2,3,4,5,6,7,8,9,10,11,12,13,14,15,16,17,18,19,20,21,22,23,24,25,26,27,28,29,30,31,32,33,34,35,36,37,38,39,40],[0,1,2,3,4,5,6,7,8,9,10,11,12,13,14,15,16,17,18,19,20,21,22,23,24,25,26,27,28,29,30,31,32,33,34,35,36,37,38,39,40,41,42],[0,1,2,3,4,5,6,7,8,9,10,11,12,13,14,15,16,17,18,19,20,21,22,23,24,25,26,27,28,29,30,31,32,33,34,35,36,37,38,39,40,41,42,43],[0,1,2,3,4,5,6,7,8,9,10,11,12,13,14,15,16,17,18,19,20,21,22,23,24,25,26,27,28,29,30,31,32,33,34,35,36,37,38,39,40,41,42,43,44]] (by kernel_rfl) ⟨?_,?_,?_,?_,?_,?_,?_,?_,?_,?_,?_,?_,?_,?_,?_,?_,?_,?_,?_,?_,?_,?_,?_,?_,?_,?_,?_,?_,?_,?_,?_,?_,?_,?_,?_,?_,?_,?_,?_,?_,?_,?_,?_,?_,?_,?_,trivial⟩ ?_
          ·intro e_ w_ k_ hf_ hR_
           refine hopE [(2,I r35.2)] ⟨((hf_ 2 rfl).trans (rfl:_=I r35.2)),trivial⟩ ?_
           exact p_mI rfl<|wp_nil ⟨_,rfl,kR,rfl⟩
          ·intro e_ w_ k_ hf_ hR_
           refine hopE [(41,I r35.2)] ⟨rQ (hR_ 0 41 rfl (lE rfl) rfl),trivial⟩ ?_
           exact p_cmp rfl rfl rfl<|wp_nil ⟨_,rfl,kR,rfl⟩
          ·intro e_ w_ k_ hf_ hR_
           refine hopE [(42,B (r35.2 != 0))] ⟨rQ (hR_ 1 42 rfl (lE rfl) rfl),trivial⟩ ?_
           exact p_mB rfl<|wp_nil ⟨_,rfl,kR,congrArg Value.bool c211⟩
          ·intro e_ w_ k_ hf_ hR_
           refine hopE [(4,I r76.2),(43,B false)] ⟨((hf_ 4 rfl).trans (rfl:_=I r76.2)),rQ (hR_ 2 43 rfl (lE rfl) rfl),trivial⟩ ?_
           refine gT rfl rfl (p_mI rfl ?_)
           exact wp_nil ⟨_,rfl,kR,rfl⟩
          ·intro e_ w_ k_ hf_ hR_
           refine hopE [(43,B false),(44,I r76.2)] ⟨rQ (hR_ 2 43 rfl (lE rfl) rfl),rQ (hR_ 3 44 rfl (lE rfl) rfl),trivial⟩ ?_
           refine gT rfl rfl (p_cmp rfl rfl rfl ?_)
           exact wp_nil ⟨_,rfl,kR,rfl⟩
          ·intro e_ w_ k_ hf_ hR_
           refine hopE [(43,B false),(45,B (r76.2 != 0))] ⟨rQ (hR_ 2 43 rfl (lE rfl) rfl),rQ (hR_ 4 45 rfl (lE rfl) rfl),trivial⟩ ?_
           exact p_pkF rfl (rfl:_=B (r76.2 != 0))<|wp_nil ⟨_,rfl,kR,rfl⟩
          ·intro e_ w_ k_ hf_ hR_
           refine hopE [(46,B (r76.2 != 0))] ⟨rQ (hR_ 5 46 rfl (lE rfl) rfl),trivial⟩ ?_
           exact p_mB rfl<|wp_nil ⟨_,rfl,kR,congrArg Value.bool c222⟩
          ·intro e_ w_ k_ hf_ hR_
           refine hopE [(6,I r117.2),(47,B false)] ⟨((hf_ 6 rfl).trans (rfl:_=I r117.2)),rQ (hR_ 6 47 rfl (lE rfl) rfl),trivial⟩ ?_
           refine gT rfl rfl (p_mI rfl ?_)
           exact wp_nil ⟨_,rfl,kR,rfl⟩
          ·intro e_ w_ k_ hf_ hR_
           refine hopE [(47,B false),(48,I r117.2)] ⟨rQ (hR_ 6 47 rfl (lE rfl) rfl),rQ (hR_ 7 48 rfl (lE rfl) rfl),trivial⟩ ?_
           refine gT rfl rfl (p_cmp rfl rfl rfl ?_)
           exact wp_nil ⟨_,rfl,kR,rfl⟩
          ·intro e_ w_ k_ hf_ hR_
           refine hopE [(47,B false),(49,B (r117.2 != 0))] ⟨rQ (hR_ 6 47 rfl (lE rfl) rfl),rQ (hR_ 8 49 rfl (lE rfl) rfl),trivial⟩ ?_
           exact p_pkF rfl (rfl:_=B (r117.2 != 0))<|wp_nil ⟨_,rfl,kR,rfl⟩
          ·intro e_ w_ k_ hf_ hR_
           refine hopE [(50,B (r117.2 != 0))] ⟨rQ (hR_ 9 50 rfl (lE rfl) rfl),trivial⟩ ?_
           exact p_mB rfl<|wp_nil ⟨_,rfl,kR,congrArg Value.bool c233⟩
          ·intro e_ w_ k_ hf_ hR_
           refine hopE [(8,I r158.2),(51,B false)] ⟨((hf_ 8 rfl).trans (rfl:_=I r158.2)),rQ (hR_ 10 51 rfl (lE rfl) rfl),trivial⟩ ?_
           refine gT rfl rfl (p_mI rfl ?_)
           exact wp_nil ⟨_,rfl,kR,rfl⟩
          ·intro e_ w_ k_ hf_ hR_
           refine hopE [(51,B false),(52,I r158.2)] ⟨rQ (hR_ 10 51 rfl (lE rfl) rfl),rQ (hR_ 11 52 rfl (lE rfl) rfl),trivial⟩ ?_
           refine gT rfl rfl (p_cmp rfl rfl rfl ?_)
           exact wp_nil ⟨_,rfl,kR,rfl⟩
          ·intro e_ w_ k_ hf_ hR_
           refine hopE [(51,B false),(53,B (r158.2 != 0))] ⟨rQ (hR_ 10 51 rfl (lE rfl) rfl),rQ (hR_ 12 53 rfl (lE rfl) rfl),trivial⟩ ?_
           exact p_pkF rfl (rfl:_=B (r158.2 != 0))<|wp_nil ⟨_,rfl,kR,rfl⟩
          ·intro e_ w_ k_ hf_ hR_
           refine hopE [(54,B (r158.2 != 0))] ⟨rQ (hR_ 13 54 rfl (lE rfl) rfl),trivial⟩ ?_
           exact p_mB rfl<|wp_nil ⟨_,rfl,kR,congrArg Value.bool c244⟩
          ·intro e_ w_ k_ hf_ hR_
           refine hopE [(10,I r199.2),(55,B false)] ⟨((hf_ 10 rfl).trans (rfl:_=I r199.2)),rQ (hR_ 14 55 rfl (lE rfl) rfl),trivial⟩ ?_
           refine gT rfl rfl (p_mI rfl ?_)
           exact wp_nil ⟨_,rfl,kR,rfl⟩
          ·intro e_ w_ k_ hf_ hR_
           refine hopE [(55,B false),(56,I r199.2)] ⟨rQ (hR_ 14 55 rfl (lE rfl) rfl),rQ (hR_ 15 56 rfl (lE rfl) rfl),trivial⟩ ?_
           refine gT rfl rfl (p_cmp rfl rfl rfl ?_)
           exact wp_nil ⟨_,rfl,kR,rfl⟩
          ·intro e_ w_ k_ hf_ hR_
           refine hopE [(55,B false),(57,B (r199.2 != 0))] ⟨rQ (hR_ 14 55 rfl (lE rfl) rfl),rQ (hR_ 16 57 rfl (lE rfl) rfl),trivial⟩ ?_
           exact p_pkF rfl (rfl:_=B (r199.2 != 0))<|wp_nil ⟨_,rfl,kR,rfl⟩
          ·intro e_ w_ k_ hf_ hR_
           refine hopE [(58,B (r199.2 != 0))] ⟨rQ (hR_ 17 58 rfl (lE rfl) rfl),trivial⟩ ?_
           exact p_mB rfl<|wp_nil ⟨_,rfl,kR,congrArg Value.bool c255⟩
          ·intro e_ w_ k_ hf_ hR_
           have S_:=@A_ _ k_
           refine hopE [(1,P b39 0),(59,B false)] ⟨((hf_ 1 rfl).trans (rfl:_=P b39 0)),rQ (hR_ 18 59 rfl (lE rfl) rfl),trivial⟩ ?_
           refine gT rfl rfl (p_ldA ty49 sz49 (S_.atP (i:=1) rfl) rfl rfl ?_)
           exact wp_nil ⟨_,rfl,S_.keep,rfl⟩
          ·intro e_ w_ k_ hf_ hR_
           have S_:=@A_ _ k_
           refine hopE [(59,B false)] ⟨rQ (hR_ 18 59 rfl (lE rfl) rfl),trivial⟩ ?_
           refine gT rfl rfl (p_cv (B_Range_ok h263) fu21 rfl S_ fun w264 S265=>?_)
           exact wp_nil ⟨_,rfl,S265.keep,rfl⟩
          ·intro e_ w_ k_ hf_ hR_
           refine hopE [(59,B false),(60,AG [I r35.1.Low,I r35.1.High]),(61,AG [I r262.Low,I r262.High])] ⟨rQ (hR_ 18 59 rfl (lE rfl) rfl),rQ (hR_ 19 60 rfl (lE rfl) rfl),rQ (hR_ 20 61 rfl (lE rfl) rfl),trivial⟩ ?_
           refine gT rfl rfl (o_neA (xs:=[I r35.1.Low,I r35.1.High]) (ys:=[I r262.Low,I r262.High]) (T:=((r35.1.Low==r262.Low)&&(r35.1.High==r262.High))) rfl rfl eq49 ⟨⟨_,rfl⟩,⟨⟨_,rfl⟩,trivial⟩⟩ ⟨⟨_,rfl⟩,⟨⟨_,rfl⟩,trivial⟩⟩ (by simp [Bool.and_eq_true,and_assoc]) ?_)
           exact wp_nil ⟨_,rfl,kR,rfl⟩
          ·intro e_ w_ k_ hf_ hR_
           refine hopE [(59,B false),(62,B (!((r35.1.Low==r262.Low)&&(r35.1.High==r262.High))))] ⟨rQ (hR_ 18 59 rfl (lE rfl) rfl),rQ (hR_ 21 62 rfl (lE rfl) rfl),trivial⟩ ?_
           exact p_pkF rfl (rfl:_=B (!((r35.1.Low==r262.Low)&&(r35.1.High==r262.High))))<|wp_nil ⟨_,rfl,kR,rfl⟩
          ·intro e_ w_ k_ hf_ hR_
           refine hopE [(63,B (!((r35.1.Low==r262.Low)&&(r35.1.High==r262.High))))] ⟨rQ (hR_ 22 63 rfl (lE rfl) rfl),trivial⟩ ?_
           exact p_mB rfl<|wp_nil ⟨_,rfl,kR,congrArg Value.bool c272⟩
          ·intro e_ w_ k_ hf_ hR_
           have S_:=@A_ _ k_
           refine hopE [(3,P b80 0),(64,B false)] ⟨((hf_ 3 rfl).trans (rfl:_=P b80 0)),rQ (hR_ 23 64 rfl (lE rfl) rfl),trivial⟩ ?_
           refine gT rfl rfl (p_ldA ty49 sz49 (S_.atP (i:=0) rfl) rfl rfl ?_)
           exact wp_nil ⟨_,rfl,S_.keep,rfl⟩
          ·intro e_ w_ k_ hf_ hR_
           have S_:=@A_ _ k_
           refine hopE [(64,B false)] ⟨rQ (hR_ 23 64 rfl (lE rfl) rfl),trivial⟩ ?_
           refine gT rfl rfl (p_cv (B_Point_ok h325) fu30 rfl S_ fun w326 S327=>?_)
           exact wp_nil ⟨_,rfl,S327.keep,rfl⟩
          ·intro e_ w_ k_ hf_ hR_
           refine hopE [(64,B false),(65,AG [I r76.1.Low,I r76.1.High]),(66,AG [I r324.Low,I r324.High])] ⟨rQ (hR_ 23 64 rfl (lE rfl) rfl),rQ (hR_ 24 65 rfl (lE rfl) rfl),rQ (hR_ 25 66 rfl (lE rfl) rfl),trivial⟩ ?_
           refine gT rfl rfl (o_neA (xs:=[I r76.1.Low,I r76.1.High]) (ys:=[I r324.Low,I r324.High]) (T:=((r76.1.Low==r324.Low)&&(r76.1.High==r324.High))) rfl rfl eq49 ⟨⟨_,rfl⟩,⟨⟨_,rfl⟩,trivial⟩⟩ ⟨⟨_,rfl⟩,⟨⟨_,rfl⟩,trivial⟩⟩ (by simp [Bool.and_eq_true,and_assoc]) ?_)
           exact wp_nil ⟨_,rfl,kR,rfl⟩
          ·intro e_ w_ k_ hf_ hR_
           refine hopE [(64,B false),(67,B (!((r76.1.Low==r324.Low)&&(r76.1.High==r324.High))))] ⟨rQ (hR_ 23 64 rfl (lE rfl) rfl),rQ (hR_ 26 67 rfl (lE rfl) rfl),trivial⟩ ?_
           exact p_pkF rfl (rfl:_=B (!((r76.1.Low==r324.Low)&&(r76.1.High==r324.High))))<|wp_nil ⟨_,rfl,kR,rfl⟩
          ·intro e_ w_ k_ hf_ hR_
           refine hopE [(68,B (!((r76.1.Low==r324.Low)&&(r76.1.High==r324.High))))] ⟨rQ (hR_ 27 68 rfl (lE rfl) rfl),trivial⟩ ?_
           exact p_mB rfl<|wp_nil ⟨_,rfl,kR,congrArg Value.bool c334⟩
          ·intro e_ w_ k_ hf_ hR_
           refine hopE [(5,SL A121 r117.1.length c122),(69,B false)] ⟨((hf_ 5 rfl).trans (rfl:_=SL A121 r117.1.length c122)),rQ (hR_ 28 69 rfl (lE rfl) rfl),trivial⟩ ?_
           refine gT rfl rfl (p_mS rfl ?_)
           exact wp_nil ⟨_,rfl,kR,rfl⟩
          ·intro e_ w_ k_ hf_ hR_
           have S_:=@A_ _ k_
           refine hopE [(69,B false)] ⟨rQ (hR_ 28 69 rfl (lE rfl) rfl),trivial⟩ ?_
           refine gT rfl rfl<|p_bsl (enc:=intE) (l:=([0]:List Int)) I (fun _=>rfl) sc30 in3 intE_len rfl (by decide) (by decide) zr3_1 S_ rfl fun A378 c379 w380 S381=>wp_nil ?_
           exact ⟨_,rfl,S381.keep,⟨(A378,c379),rfl,⟨bL (New.al (S381.newX (i:=0) rfl)) rfl (S381.atX (i:=0) rfl) rfl,trivial⟩,(cA (S381.atX (i:=0) rfl) nM)⟩⟩
          ·intro e_ w_ k_ hf_ hR_
           have S_:=@A_ _ k_
           obtain ⟨_,_,_,_,q383⟩:=hR_ 28 69 rfl (lE rfl) rfl
           obtain ⟨_,_,_,_,q384⟩:=hR_ 29 70 rfl (lE rfl) rfl
           obtain ⟨_,_,_,_,⟨A378,c379⟩,q385,p386,a387⟩:=hR_ 30 71 rfl (lE rfl) rfl
           replace q385:e_ 71=SL A378 ([0]:List Int).length c379:=q385
           have S_:=St.addL' S_ (a387 _ (.head _)) (fun _ _ _ h_=>(nE h_))
           refine hopE [(69,B false),(70,SL A121 r117.1.length c122),(71,SL A378 ([0]:List Int).length c379)] ⟨q383,q384,q385,trivial⟩ ?_
           refine gT rfl rfl (p_cv (B_Alike_ok h389 (S_.atP (i:=5) rfl) (gr_rd intE_len (S_.atP (i:=0) rfl))) fu43 rfl S_ fun w390 S391=>?_)
           exact wp_nil ⟨_,rfl,S391.keep,rfl⟩
          ·intro e_ w_ k_ hf_ hR_
           refine hopE [(69,B false),(72,B r388)] ⟨rQ (hR_ 28 69 rfl (lE rfl) rfl),rQ (hR_ 31 72 rfl (lE rfl) rfl),trivial⟩ ?_
           refine gT rfl rfl (p_not rfl ?_)
           exact wp_nil ⟨_,rfl,kR,rfl⟩
          ·intro e_ w_ k_ hf_ hR_
           refine hopE [(69,B false),(73,B (!r388))] ⟨rQ (hR_ 28 69 rfl (lE rfl) rfl),rQ (hR_ 32 73 rfl (lE rfl) rfl),trivial⟩ ?_
           exact p_pkF rfl (rfl:_=B (!r388))<|wp_nil ⟨_,rfl,kR,rfl⟩
          ·intro e_ w_ k_ hf_ hR_
           refine hopE [(74,B (!r388))] ⟨rQ (hR_ 33 74 rfl (lE rfl) rfl),trivial⟩ ?_
           exact p_mB rfl<|wp_nil ⟨_,rfl,kR,congrArg Value.bool c397⟩
          ·intro e_ w_ k_ hf_ hR_
           refine hopE [(7,SL A162 r158.1.length c163),(75,B false)] ⟨((hf_ 7 rfl).trans (rfl:_=SL A162 r158.1.length c163)),rQ (hR_ 34 75 rfl (lE rfl) rfl),trivial⟩ ?_
           refine gT rfl rfl (p_mS rfl ?_)
           exact wp_nil ⟨_,rfl,kR,rfl⟩
          ·intro e_ w_ k_ hf_ hR_
           have S_:=@A_ _ k_
           refine hopE [(75,B false)] ⟨rQ (hR_ 34 75 rfl (lE rfl) rfl),trivial⟩ ?_
           refine gT rfl rfl<|p_bsl (enc:=intE) (l:=[0,2]) I (fun _=>rfl) sc30 in3 intE_len rfl (by decide) (by decide) zr3_2 S_ rfl fun A439 c440 w441 S442=>wp_nil ?_
           exact ⟨_,rfl,S442.keep,⟨(A439,c440),rfl,⟨bL (New.al (S442.newX (i:=0) rfl)) rfl (S442.atX (i:=0) rfl) rfl,trivial⟩,(cA (S442.atX (i:=0) rfl) nM)⟩⟩
          ·intro e_ w_ k_ hf_ hR_
           have S_:=@A_ _ k_
           obtain ⟨_,_,_,_,q444⟩:=hR_ 34 75 rfl (lE rfl) rfl
           obtain ⟨_,_,_,_,q445⟩:=hR_ 35 76 rfl (lE rfl) rfl
           obtain ⟨_,_,_,_,⟨A439,c440⟩,q446,p447,a448⟩:=hR_ 36 77 rfl (lE rfl) rfl
           replace q446:e_ 77=SL A439 [0,2].length c440:=q446
           have S_:=St.addL' S_ (a448 _ (.head _)) (fun _ _ _ h_=>(nE h_))
           refine hopE [(75,B false),(76,SL A162 r158.1.length c163),(77,SL A439 [0,2].length c440)] ⟨q444,q445,q446,trivial⟩ ?_
           refine gT rfl rfl (p_cv (B_Alike_ok h450 (S_.atP (i:=4) rfl) (gr_rd intE_len (S_.atP (i:=0) rfl))) fu43 rfl S_ fun w451 S452=>?_)
           exact wp_nil ⟨_,rfl,S452.keep,rfl⟩
          ·intro e_ w_ k_ hf_ hR_
           refine hopE [(75,B false),(78,B r449)] ⟨rQ (hR_ 34 75 rfl (lE rfl) rfl),rQ (hR_ 37 78 rfl (lE rfl) rfl),trivial⟩ ?_
           refine gT rfl rfl (p_not rfl ?_)
           exact wp_nil ⟨_,rfl,kR,rfl⟩
          ·intro e_ w_ k_ hf_ hR_
           refine hopE [(75,B false),(79,B (!r449))] ⟨rQ (hR_ 34 75 rfl (lE rfl) rfl),rQ (hR_ 38 79 rfl (lE rfl) rfl),trivial⟩ ?_
           exact p_pkF rfl (rfl:_=B (!r449))<|wp_nil ⟨_,rfl,kR,rfl⟩
          ·intro e_ w_ k_ hf_ hR_
           refine hopE [(80,B (!r449))] ⟨rQ (hR_ 39 80 rfl (lE rfl) rfl),trivial⟩ ?_
           exact p_mB rfl<|wp_nil ⟨_,rfl,kR,congrArg Value.bool c458⟩
          ·intro e_ w_ k_ hf_ hR_
           refine hopE [(9,SL A203 r199.1.length c204),(81,B true)] ⟨((hf_ 9 rfl).trans (rfl:_=SL A203 r199.1.length c204)),rQ (hR_ 40 81 rfl (lE rfl) rfl),trivial⟩ ?_
           exact gF rfl rfl<|wp_nil ⟨_,rfl,kR,rfl⟩
          ·intro e_ w_ k_ hf_ hR_
           refine hopE [(81,B true)] ⟨rQ (hR_ 40 81 rfl (lE rfl) rfl),trivial⟩ ?_
           exact gF rfl rfl<|wp_nil ⟨_,rfl,kR,rfl⟩
          ·intro e_ w_ k_ hf_ hR_
           refine hopE [(81,B true),(82,undef),(83,undef)] ⟨rQ (hR_ 40 81 rfl (lE rfl) rfl),rQ (hR_ 41 82 rfl (lE rfl) rfl),rQ (hR_ 42 83 rfl (lE rfl) rfl),trivial⟩ ?_
           exact gF rfl rfl<|wp_nil ⟨_,rfl,kR,rfl⟩
          ·intro e_ w_ k_ hf_ hR_
           refine hopE [(81,B true),(84,undef)] ⟨rQ (hR_ 40 81 rfl (lE rfl) rfl),rQ (hR_ 43 84 rfl (lE rfl) rfl),trivial⟩ ?_
           exact gF rfl rfl<|wp_nil ⟨_,rfl,kR,rfl⟩
          ·intro e_ w_ k_ hf_ hR_
           refine hopE [(81,B true),(85,undef)] ⟨rQ (hR_ 40 81 rfl (lE rfl) rfl),rQ (hR_ 44 85 rfl (lE rfl) rfl),trivial⟩ ?_
           exact p_pkT rfl (rfl:_=B true)<|wp_nil ⟨_,rfl,kR,rfl⟩
          intro e468 w469 lo470 hi471 k472 hf473 hR474 hd475
          have S476:=S208.call k472
          obtain ⟨h478,h479,h480,⟨A378,c379⟩,q477,h481,h482⟩:=hR474 30 71 (lE rfl) rfl
          replace q477:e468 71=SL A378 ([0]:List Int).length c379:=q477
          obtain ⟨p483,_⟩:=h481
          obtain ⟨h486,h487,h488,⟨A439,c440⟩,q485,h489,h490⟩:=hR474 36 77 (lE rfl) rfl
          replace q485:e468 77=SL A439 [0,2].length c440:=q485
          obtain ⟨p491,_⟩:=h489
          have q493:e468 86=B true:=(hR474 45 86 (lE rfl) rfl).2.2.2
          refine tailE [(86,B true)] ⟨q493,trivial⟩ ?_
          intro g494
          refine wp_nil ?_
          have S495:St w nF w469 [] [gW0,gW1,gW2]:=S476.pk [] (by decide) [3,4,5] rfl rfl
          try clear S476
          refine c_true rfl<|c_seq<|reg<|p_aB rfl<|wp_nil ?_
          obtain rfl:=sJ H
          exact c_ret (rT Tryd.f13 S495.keep rfl rfl)
         ·replace H:=condF c458 H
          obtain ⟨r508,h509,H⟩:=bindS H
          have A_:∀ {w_:World},Keep0 w201 w_→St w_ nF w_ [] [bl b80 [I r76.1.Low,I r76.1.High] 49,bl b39 [I r35.1.Low,I r35.1.High] 49,rd intE 1 A203 c204 r199.1,rd intE 1 A162 c163 r158.1,rd intE 1 A121 c122 r117.1,gW0,gW1,gW2]:=fun k_=>S208.asP k_
          refine reg_any mixed 46 (by kernel_rfl) [rv (I r35.2),rv (B (r35.2 != 0)),rv (B false),rv (I r76.2),rv (B (r76.2 != 0)),rv (B (r76.2 != 0)),rv (B false),rv (I r117.2),rv (B (r117.2 != 0)),rv (B (r117.2 != 0)),rv (B false),rv (I r158.2),rv (B (r158.2 != 0)),rv (B (r158.2 != 0)),rv (B false),rv (I r199.2),rv (B (r199.2 != 0)),rv (B (r199.2 != 0)),rv (B false),rv (AG [I r35.1.Low,I r35.1.High]),rv (AG [I r262.Low,I r262.High]),rv (B (!((r35.1.Low==r262.Low)&&(r35.1.High==r262.High)))),rv (B (!((r35.1.Low==r262.Low)&&(r35.1.High==r262.High)))),rv (B false),rv (AG [I r76.1.Low,I r76.1.High]),rv (AG [I r324.Low,I r324.High]),rv (B (!((r76.1.Low==r324.Low)&&(r76.1.High==r324.High)))),rv (B (!((r76.1.Low==r324.Low)&&(r76.1.High==r324.High)))),rv (B false),rv (SL A121 r117.1.length c122),rx (α:=(Option Addr)×Nat) (fun ⟨A378,c379⟩=>SL A378 ([0]:List Int).length c379) (fun ⟨A378,c379⟩ lo hi=>BtwL lo hi [] (gr intE 1 3 A378 c379 ([0]:List Int))∧True) (fun ⟨A378,c379⟩=>[gr intE 1 3 A378 c379 ([0]:List Int)]),rv (B r388),rv (B (!r388)),rv (B (!r388)),rv (B false),rv (SL A162 r158.1.length c163),rx (α:=(Option Addr)×Nat) (fun ⟨A439,c440⟩=>SL A439 [0,2].length c440) (fun ⟨A439,c440⟩ lo hi=>BtwL lo hi [] (gr intE 1 3 A439 c440 [0,2])∧True) (fun ⟨A439,c440⟩=>[gr intE 1 3 A439 c440 [0,2]]),rv (B r449),rv (B (!r449)),rv (B (!r449)),rv (B false),rv (SL A203 r199.1.length c204),rx (α:=(Option Addr)×Nat) (fun ⟨A498,c499⟩=>SL A498 ([0]:List Int).length c499) (fun ⟨A498,c499⟩ lo hi=>BtwL lo hi [] (gr intE 1 3 A498 c499 ([0]:List Int))∧True) (fun ⟨A498,c499⟩=>[gr intE 1 3 A498 c499 ([0]:List Int)]),rv (B r508),rv (B (!r508)),rv (B (!r508))] [[],[],[],[],[],[],[],[],[],[],[],[],[],[],[],[],[],[],[],[],[],[],[],[],[],[],[],[],[],[],[],[],[],[],[],[],[],[],[],[],[],[],[],[],[],[]] rfl (by kernel_rfl) [[],[0],[0,1],[0,1,2],[0,1,2,3],[0,1,2,3,4],[0,1,2,3,4,5],[0,1,2,3,4,5,6],[0,1,2,3,4,5,6,7],[0,1,2,3,4,5,6,7,8],[0,1,2,3,4,5,6,7,8,9],[0,1,2,3,4,5,6,7,8,9,10],[0,1,2,3,4,5,6,7,8,9,10,11],[0,1,2,3,4,5,6,7,8,9,10,11,12],[0,1,2,3,4,5,6,7,8,9,10,11,12,13],[0,1,2,3,4,5,6,7,8,9,10,11,12,13,14],[0,1,2,3,4,5,6,7,8,9,10,11,12,13,14,15],[0,1,2,3,4,5,6,7,8,9,10,11,12,13,14,15,16],[0,1,2,3,4,5,6,7,8,9,10,11,12,13,14,15,16,17],[0,1,2,3,4,5,6,7,8,9,10,11,12,13,14,15,16,17,18],[0,1,2,3,4,5,6,7,8,9,10,11,12,13,14,15,16,17,18],[0,1,2,3,4,5,6,7,8,9,10,11,12,13,14,15,16,17,18,19,20],[0,1,2,3,4,5,6,7,8,9,10,11,12,13,14,15,16,17,18,19,20,21],[0,1,2,3,4,5,6,7,8,9,10,11,12,13,14,15,16,17,18,19,20,21,22],[0,1,2,3,4,5,6,7,8,9,10,11,12,13,14,15,16,17,18,19,20,21,22,23],[0,1,2,3,4,5,6,7,8,9,10,11,12,13,14,15,16,17,18,19,20,21,22,23],[0,1,2,3,4,5,6,7,8,9,10,11,12,13,14,15,16,17,18,19,20,21,22,23,24,25],[0,1,2,3,4,5,6,7,8,9,10,11,12,13,14,15,16,17,18,19,20,21,22,23,24,25,26],[0,1,2,3,4,5,6,7,8,9,10,11,12,13,14,15,16,17,18,19,20,21,22,23,24,25,26,27],[0,1,2,3,4,5,6,7,8,9,10,11,12,13,14,15,16,17,18,19,20,21,22,23,24,25,26,27,28],[0,1,2,3,4,5,6,7,8,9,10,11,12,13,14,15,16,17,18,19,20,21,22,23,24,25,26,27,28],[0,1,2,3,4,5,6,7,8,9,10,11,12,13,14,15,16,17,18,19,20,21,22,23,24,25,26,27,28,29,30],[0,1,2,3,4,5,6,7,8,9,10,11,12,13,14,15,16,17,18,19,20,21,22,23,24,25,26,27,28,29,30,31],[0,1,2,3,4,5,6,7,8,9,10,11,12,13,14,15,16,17,18,19,20,21,22,23,24,25,26,27,28,29,30,31,32],[0,1,2,3,4,5,6,7,8,9,10,11,12,13,14,15,16,17,18,19,20,21,22,23,24,25,26,27,28,29,30,31,32,33],[0,1,2,3,4,5,6,7,8,9,10,11,12,13,14,15,16,17,18,19,20,21,22,23,24,25,26,27,28,29,30,31,32,33,34],[0,1,2,3,4,5,6,7,8,9,10,11,12,13,14,15,16,17,18,19,20,21,22,23,24,25,26,27,28,29,30,31,32,33,34],[0,1,2,3,4,5,6,7,8,9,10,11,12,13,14,15,16,17,18,19,20,21,22,23,24,25,26,27,28,29,30,31,32,33,34,35,36],[0,1,2,3,4,5,6,7,8,9,10,11,12,13,14,15,16,17,18,19,20,21,22,23,24,25,26,27,28,29,30,31,32,33,34,35,36,37],[0,1,2,3,4,5,6,7,8,9,10,11,12,13,14,15,16,17,18,19,20,21,22,23,24,25,26,27,28,29,30,31,32,33,34,35,36,37,38],[0,1,2,3,4,5,6,7,8,9,10,11,12,13,14,15,16,17,18,19,20,21,22,23,24,25,26,27,28,29,30,31,32,33,34,35,36,37,38,39],[0,1,2,3,4,5,6,7,8,9,10,11,12,13,14,15,16,17,18,19,20,21,22,23,24,25,26,27,28,29,30,31,32,33,34,35,36,37,38,39,40],[0,1,2,3,4,5,6,7,8,9,10,11,12,13,14,15,16,17,18,19,20,21,22,23,24,25,26,27,28,29,30,31,32,33,34,35,36,37,38,39,40],[0,1,2,3,4,5,6,7,8,9,10,11,12,13,14,15,16,17,18,19,20,21,22,23,24,25,26,27,28,29,30,31,32,33,34,35,36,37,38,39,40,41,42],[0,1,2,3,4,5,6,7,8,9,10,11,12,13,14,15,16,17,18,19,20,21,22,23,24,25,26,27,28,29,30,31,32,33,34,35,36,37,38,39,40,41,42,43],[0,1,2,3,4,5,6,7,8,9,10,11,12,13,14,15,16,17,18,19,20,21,22,23,24,25,26,27,28,29,30,31,32,33,34,35,36,37,38,39,40,41,42,43,44]] (by kernel_rfl) ⟨?_,?_,?_,?_,?_,?_,?_,?_,?_,?_,?_,?_,?_,?_,?_,?_,?_,?_,?_,?_,?_,?_,?_,?_,?_,?_,?_,?_,?_,?_,?_,?_,?_,?_,?_,?_,?_,?_,?_,?_,?_,?_,?_,?_,?_,?_,trivial⟩ ?_
          ·intro e_ w_ k_ hf_ hR_
           refine hopE [(2,I r35.2)] ⟨((hf_ 2 rfl).trans (rfl:_=I r35.2)),trivial⟩ ?_
           exact p_mI rfl<|wp_nil ⟨_,rfl,kR,rfl⟩
          ·intro e_ w_ k_ hf_ hR_
           refine hopE [(41,I r35.2)] ⟨rQ (hR_ 0 41 rfl (lE rfl) rfl),trivial⟩ ?_
           exact p_cmp rfl rfl rfl<|wp_nil ⟨_,rfl,kR,rfl⟩
          ·intro e_ w_ k_ hf_ hR_
           refine hopE [(42,B (r35.2 != 0))] ⟨rQ (hR_ 1 42 rfl (lE rfl) rfl),trivial⟩ ?_
           exact p_mB rfl<|wp_nil ⟨_,rfl,kR,congrArg Value.bool c211⟩
          ·intro e_ w_ k_ hf_ hR_
           refine hopE [(4,I r76.2),(43,B false)] ⟨((hf_ 4 rfl).trans (rfl:_=I r76.2)),rQ (hR_ 2 43 rfl (lE rfl) rfl),trivial⟩ ?_
           refine gT rfl rfl (p_mI rfl ?_)
           exact wp_nil ⟨_,rfl,kR,rfl⟩
          ·intro e_ w_ k_ hf_ hR_
           refine hopE [(43,B false),(44,I r76.2)] ⟨rQ (hR_ 2 43 rfl (lE rfl) rfl),rQ (hR_ 3 44 rfl (lE rfl) rfl),trivial⟩ ?_
           refine gT rfl rfl (p_cmp rfl rfl rfl ?_)
           exact wp_nil ⟨_,rfl,kR,rfl⟩
          ·intro e_ w_ k_ hf_ hR_
           refine hopE [(43,B false),(45,B (r76.2 != 0))] ⟨rQ (hR_ 2 43 rfl (lE rfl) rfl),rQ (hR_ 4 45 rfl (lE rfl) rfl),trivial⟩ ?_
           exact p_pkF rfl (rfl:_=B (r76.2 != 0))<|wp_nil ⟨_,rfl,kR,rfl⟩
          ·intro e_ w_ k_ hf_ hR_
           refine hopE [(46,B (r76.2 != 0))] ⟨rQ (hR_ 5 46 rfl (lE rfl) rfl),trivial⟩ ?_
           exact p_mB rfl<|wp_nil ⟨_,rfl,kR,congrArg Value.bool c222⟩
          ·intro e_ w_ k_ hf_ hR_
           refine hopE [(6,I r117.2),(47,B false)] ⟨((hf_ 6 rfl).trans (rfl:_=I r117.2)),rQ (hR_ 6 47 rfl (lE rfl) rfl),trivial⟩ ?_
           refine gT rfl rfl (p_mI rfl ?_)
           exact wp_nil ⟨_,rfl,kR,rfl⟩
          ·intro e_ w_ k_ hf_ hR_
           refine hopE [(47,B false),(48,I r117.2)] ⟨rQ (hR_ 6 47 rfl (lE rfl) rfl),rQ (hR_ 7 48 rfl (lE rfl) rfl),trivial⟩ ?_
           refine gT rfl rfl (p_cmp rfl rfl rfl ?_)
           exact wp_nil ⟨_,rfl,kR,rfl⟩
          ·intro e_ w_ k_ hf_ hR_
           refine hopE [(47,B false),(49,B (r117.2 != 0))] ⟨rQ (hR_ 6 47 rfl (lE rfl) rfl),rQ (hR_ 8 49 rfl (lE rfl) rfl),trivial⟩ ?_
           exact p_pkF rfl (rfl:_=B (r117.2 != 0))<|wp_nil ⟨_,rfl,kR,rfl⟩
          ·intro e_ w_ k_ hf_ hR_
           refine hopE [(50,B (r117.2 != 0))] ⟨rQ (hR_ 9 50 rfl (lE rfl) rfl),trivial⟩ ?_
           exact p_mB rfl<|wp_nil ⟨_,rfl,kR,congrArg Value.bool c233⟩
          ·intro e_ w_ k_ hf_ hR_
           refine hopE [(8,I r158.2),(51,B false)] ⟨((hf_ 8 rfl).trans (rfl:_=I r158.2)),rQ (hR_ 10 51 rfl (lE rfl) rfl),trivial⟩ ?_
           refine gT rfl rfl (p_mI rfl ?_)
           exact wp_nil ⟨_,rfl,kR,rfl⟩
          ·intro e_ w_ k_ hf_ hR_
           refine hopE [(51,B false),(52,I r158.2)] ⟨rQ (hR_ 10 51 rfl (lE rfl) rfl),rQ (hR_ 11 52 rfl (lE rfl) rfl),trivial⟩ ?_
           refine gT rfl rfl (p_cmp rfl rfl rfl ?_)
           exact wp_nil ⟨_,rfl,kR,rfl⟩
          ·intro e_ w_ k_ hf_ hR_
           refine hopE [(51,B false),(53,B (r158.2 != 0))] ⟨rQ (hR_ 10 51 rfl (lE rfl) rfl),rQ (hR_ 12 53 rfl (lE rfl) rfl),trivial⟩ ?_
           exact p_pkF rfl (rfl:_=B (r158.2 != 0))<|wp_nil ⟨_,rfl,kR,rfl⟩
          ·intro e_ w_ k_ hf_ hR_
           refine hopE [(54,B (r158.2 != 0))] ⟨rQ (hR_ 13 54 rfl (lE rfl) rfl),trivial⟩ ?_
           exact p_mB rfl<|wp_nil ⟨_,rfl,kR,congrArg Value.bool c244⟩
          ·intro e_ w_ k_ hf_ hR_
           refine hopE [(10,I r199.2),(55,B false)] ⟨((hf_ 10 rfl).trans (rfl:_=I r199.2)),rQ (hR_ 14 55 rfl (lE rfl) rfl),trivial⟩ ?_
           refine gT rfl rfl (p_mI rfl ?_)
           exact wp_nil ⟨_,rfl,kR,rfl⟩
          ·intro e_ w_ k_ hf_ hR_
           refine hopE [(55,B false),(56,I r199.2)] ⟨rQ (hR_ 14 55 rfl (lE rfl) rfl),rQ (hR_ 15 56 rfl (lE rfl) rfl),trivial⟩ ?_
           refine gT rfl rfl (p_cmp rfl rfl rfl ?_)
           exact wp_nil ⟨_,rfl,kR,rfl⟩
          ·intro e_ w_ k_ hf_ hR_
           refine hopE [(55,B false),(57,B (r199.2 != 0))] ⟨rQ (hR_ 14 55 rfl (lE rfl) rfl),rQ (hR_ 16 57 rfl (lE rfl) rfl),trivial⟩ ?_
           exact p_pkF rfl (rfl:_=B (r199.2 != 0))<|wp_nil ⟨_,rfl,kR,rfl⟩
          ·intro e_ w_ k_ hf_ hR_
           refine hopE [(58,B (r199.2 != 0))] ⟨rQ (hR_ 17 58 rfl (lE rfl) rfl),trivial⟩ ?_
           exact p_mB rfl<|wp_nil ⟨_,rfl,kR,congrArg Value.bool c255⟩
          ·intro e_ w_ k_ hf_ hR_
           have S_:=@A_ _ k_
           refine hopE [(1,P b39 0),(59,B false)] ⟨((hf_ 1 rfl).trans (rfl:_=P b39 0)),rQ (hR_ 18 59 rfl (lE rfl) rfl),trivial⟩ ?_
           refine gT rfl rfl (p_ldA ty49 sz49 (S_.atP (i:=1) rfl) rfl rfl ?_)
           exact wp_nil ⟨_,rfl,S_.keep,rfl⟩
          ·intro e_ w_ k_ hf_ hR_
           have S_:=@A_ _ k_
           refine hopE [(59,B false)] ⟨rQ (hR_ 18 59 rfl (lE rfl) rfl),trivial⟩ ?_
           refine gT rfl rfl (p_cv (B_Range_ok h263) fu21 rfl S_ fun w264 S265=>?_)
           exact wp_nil ⟨_,rfl,S265.keep,rfl⟩
          ·intro e_ w_ k_ hf_ hR_
           refine hopE [(59,B false),(60,AG [I r35.1.Low,I r35.1.High]),(61,AG [I r262.Low,I r262.High])] ⟨rQ (hR_ 18 59 rfl (lE rfl) rfl),rQ (hR_ 19 60 rfl (lE rfl) rfl),rQ (hR_ 20 61 rfl (lE rfl) rfl),trivial⟩ ?_
           refine gT rfl rfl (o_neA (xs:=[I r35.1.Low,I r35.1.High]) (ys:=[I r262.Low,I r262.High]) (T:=((r35.1.Low==r262.Low)&&(r35.1.High==r262.High))) rfl rfl eq49 ⟨⟨_,rfl⟩,⟨⟨_,rfl⟩,trivial⟩⟩ ⟨⟨_,rfl⟩,⟨⟨_,rfl⟩,trivial⟩⟩ (by simp [Bool.and_eq_true,and_assoc]) ?_)
           exact wp_nil ⟨_,rfl,kR,rfl⟩
          ·intro e_ w_ k_ hf_ hR_
           refine hopE [(59,B false),(62,B (!((r35.1.Low==r262.Low)&&(r35.1.High==r262.High))))] ⟨rQ (hR_ 18 59 rfl (lE rfl) rfl),rQ (hR_ 21 62 rfl (lE rfl) rfl),trivial⟩ ?_
           exact p_pkF rfl (rfl:_=B (!((r35.1.Low==r262.Low)&&(r35.1.High==r262.High))))<|wp_nil ⟨_,rfl,kR,rfl⟩
          ·intro e_ w_ k_ hf_ hR_
           refine hopE [(63,B (!((r35.1.Low==r262.Low)&&(r35.1.High==r262.High))))] ⟨rQ (hR_ 22 63 rfl (lE rfl) rfl),trivial⟩ ?_
           exact p_mB rfl<|wp_nil ⟨_,rfl,kR,congrArg Value.bool c272⟩
          ·intro e_ w_ k_ hf_ hR_
           have S_:=@A_ _ k_
           refine hopE [(3,P b80 0),(64,B false)] ⟨((hf_ 3 rfl).trans (rfl:_=P b80 0)),rQ (hR_ 23 64 rfl (lE rfl) rfl),trivial⟩ ?_
           refine gT rfl rfl (p_ldA ty49 sz49 (S_.atP (i:=0) rfl) rfl rfl ?_)
           exact wp_nil ⟨_,rfl,S_.keep,rfl⟩
          ·intro e_ w_ k_ hf_ hR_
           have S_:=@A_ _ k_
           refine hopE [(64,B false)] ⟨rQ (hR_ 23 64 rfl (lE rfl) rfl),trivial⟩ ?_
           refine gT rfl rfl (p_cv (B_Point_ok h325) fu30 rfl S_ fun w326 S327=>?_)
           exact wp_nil ⟨_,rfl,S327.keep,rfl⟩
          ·intro e_ w_ k_ hf_ hR_
           refine hopE [(64,B false),(65,AG [I r76.1.Low,I r76.1.High]),(66,AG [I r324.Low,I r324.High])] ⟨rQ (hR_ 23 64 rfl (lE rfl) rfl),rQ (hR_ 24 65 rfl (lE rfl) rfl),rQ (hR_ 25 66 rfl (lE rfl) rfl),trivial⟩ ?_
           refine gT rfl rfl (o_neA (xs:=[I r76.1.Low,I r76.1.High]) (ys:=[I r324.Low,I r324.High]) (T:=((r76.1.Low==r324.Low)&&(r76.1.High==r324.High))) rfl rfl eq49 ⟨⟨_,rfl⟩,⟨⟨_,rfl⟩,trivial⟩⟩ ⟨⟨_,rfl⟩,⟨⟨_,rfl⟩,trivial⟩⟩ (by simp [Bool.and_eq_true,and_assoc]) ?_)
           exact wp_nil ⟨_,rfl,kR,rfl⟩
          ·intro e_ w_ k_ hf_ hR_
           refine hopE [(64,B false),(67,B (!((r76.1.Low==r324.Low)&&(r76.1.High==r324.High))))] ⟨rQ (hR_ 23 64 rfl (lE rfl) rfl),rQ (hR_ 26 67 rfl (lE rfl) rfl),trivial⟩ ?_
           exact p_pkF rfl (rfl:_=B (!((r76.1.Low==r324.Low)&&(r76.1.High==r324.High))))<|wp_nil ⟨_,rfl,kR,rfl⟩
          ·intro e_ w_ k_ hf_ hR_
           refine hopE [(68,B (!((r76.1.Low==r324.Low)&&(r76.1.High==r324.High))))] ⟨rQ (hR_ 27 68 rfl (lE rfl) rfl),trivial⟩ ?_
           exact p_mB rfl<|wp_nil ⟨_,rfl,kR,congrArg Value.bool c334⟩
          ·intro e_ w_ k_ hf_ hR_
           refine hopE [(5,SL A121 r117.1.length c122),(69,B false)] ⟨((hf_ 5 rfl).trans (rfl:_=SL A121 r117.1.length c122)),rQ (hR_ 28 69 rfl (lE rfl) rfl),trivial⟩ ?_
           refine gT rfl rfl (p_mS rfl ?_)
           exact wp_nil ⟨_,rfl,kR,rfl⟩
          ·intro e_ w_ k_ hf_ hR_
           have S_:=@A_ _ k_
           refine hopE [(69,B false)] ⟨rQ (hR_ 28 69 rfl (lE rfl) rfl),trivial⟩ ?_
           refine gT rfl rfl<|p_bsl (enc:=intE) (l:=([0]:List Int)) I (fun _=>rfl) sc30 in3 intE_len rfl (by decide) (by decide) zr3_1 S_ rfl fun A378 c379 w380 S381=>wp_nil ?_
           exact ⟨_,rfl,S381.keep,⟨(A378,c379),rfl,⟨bL (New.al (S381.newX (i:=0) rfl)) rfl (S381.atX (i:=0) rfl) rfl,trivial⟩,(cA (S381.atX (i:=0) rfl) nM)⟩⟩
          ·intro e_ w_ k_ hf_ hR_
           have S_:=@A_ _ k_
           obtain ⟨_,_,_,_,q383⟩:=hR_ 28 69 rfl (lE rfl) rfl
           obtain ⟨_,_,_,_,q384⟩:=hR_ 29 70 rfl (lE rfl) rfl
           obtain ⟨_,_,_,_,⟨A378,c379⟩,q385,p386,a387⟩:=hR_ 30 71 rfl (lE rfl) rfl
           replace q385:e_ 71=SL A378 ([0]:List Int).length c379:=q385
           have S_:=St.addL' S_ (a387 _ (.head _)) (fun _ _ _ h_=>(nE h_))
           refine hopE [(69,B false),(70,SL A121 r117.1.length c122),(71,SL A378 ([0]:List Int).length c379)] ⟨q383,q384,q385,trivial⟩ ?_
           refine gT rfl rfl (p_cv (B_Alike_ok h389 (S_.atP (i:=5) rfl) (gr_rd intE_len (S_.atP (i:=0) rfl))) fu43 rfl S_ fun w390 S391=>?_)
           exact wp_nil ⟨_,rfl,S391.keep,rfl⟩
          ·intro e_ w_ k_ hf_ hR_
           refine hopE [(69,B false),(72,B r388)] ⟨rQ (hR_ 28 69 rfl (lE rfl) rfl),rQ (hR_ 31 72 rfl (lE rfl) rfl),trivial⟩ ?_
           refine gT rfl rfl (p_not rfl ?_)
           exact wp_nil ⟨_,rfl,kR,rfl⟩
          ·intro e_ w_ k_ hf_ hR_
           refine hopE [(69,B false),(73,B (!r388))] ⟨rQ (hR_ 28 69 rfl (lE rfl) rfl),rQ (hR_ 32 73 rfl (lE rfl) rfl),trivial⟩ ?_
           exact p_pkF rfl (rfl:_=B (!r388))<|wp_nil ⟨_,rfl,kR,rfl⟩
          ·intro e_ w_ k_ hf_ hR_
           refine hopE [(74,B (!r388))] ⟨rQ (hR_ 33 74 rfl (lE rfl) rfl),trivial⟩ ?_
           exact p_mB rfl<|wp_nil ⟨_,rfl,kR,congrArg Value.bool c397⟩
          ·intro e_ w_ k_ hf_ hR_
           refine hopE [(7,SL A162 r158.1.length c163),(75,B false)] ⟨((hf_ 7 rfl).trans (rfl:_=SL A162 r158.1.length c163)),rQ (hR_ 34 75 rfl (lE rfl) rfl),trivial⟩ ?_
           refine gT rfl rfl (p_mS rfl ?_)
           exact wp_nil ⟨_,rfl,kR,rfl⟩
          ·intro e_ w_ k_ hf_ hR_
           have S_:=@A_ _ k_
           refine hopE [(75,B false)] ⟨rQ (hR_ 34 75 rfl (lE rfl) rfl),trivial⟩ ?_
           refine gT rfl rfl<|p_bsl (enc:=intE) (l:=[0,2]) I (fun _=>rfl) sc30 in3 intE_len rfl (by decide) (by decide) zr3_2 S_ rfl fun A439 c440 w441 S442=>wp_nil ?_
           exact ⟨_,rfl,S442.keep,⟨(A439,c440),rfl,⟨bL (New.al (S442.newX (i:=0) rfl)) rfl (S442.atX (i:=0) rfl) rfl,trivial⟩,(cA (S442.atX (i:=0) rfl) nM)⟩⟩
          ·intro e_ w_ k_ hf_ hR_
           have S_:=@A_ _ k_
           obtain ⟨_,_,_,_,q444⟩:=hR_ 34 75 rfl (lE rfl) rfl
           obtain ⟨_,_,_,_,q445⟩:=hR_ 35 76 rfl (lE rfl) rfl
           obtain ⟨_,_,_,_,⟨A439,c440⟩,q446,p447,a448⟩:=hR_ 36 77 rfl (lE rfl) rfl
           replace q446:e_ 77=SL A439 [0,2].length c440:=q446
           have S_:=St.addL' S_ (a448 _ (.head _)) (fun _ _ _ h_=>(nE h_))
           refine hopE [(75,B false),(76,SL A162 r158.1.length c163),(77,SL A439 [0,2].length c440)] ⟨q444,q445,q446,trivial⟩ ?_
           refine gT rfl rfl (p_cv (B_Alike_ok h450 (S_.atP (i:=4) rfl) (gr_rd intE_len (S_.atP (i:=0) rfl))) fu43 rfl S_ fun w451 S452=>?_)
           exact wp_nil ⟨_,rfl,S452.keep,rfl⟩
          ·intro e_ w_ k_ hf_ hR_
           refine hopE [(75,B false),(78,B r449)] ⟨rQ (hR_ 34 75 rfl (lE rfl) rfl),rQ (hR_ 37 78 rfl (lE rfl) rfl),trivial⟩ ?_
           refine gT rfl rfl (p_not rfl ?_)
           exact wp_nil ⟨_,rfl,kR,rfl⟩
          ·intro e_ w_ k_ hf_ hR_
           refine hopE [(75,B false),(79,B (!r449))] ⟨rQ (hR_ 34 75 rfl (lE rfl) rfl),rQ (hR_ 38 79 rfl (lE rfl) rfl),trivial⟩ ?_
           exact p_pkF rfl (rfl:_=B (!r449))<|wp_nil ⟨_,rfl,kR,rfl⟩
          ·intro e_ w_ k_ hf_ hR_
           refine hopE [(80,B (!r449))] ⟨rQ (hR_ 39 80 rfl (lE rfl) rfl),trivial⟩ ?_
           exact p_mB rfl<|wp_nil ⟨_,rfl,kR,congrArg Value.bool c458⟩
          ·intro e_ w_ k_ hf_ hR_
           refine hopE [(9,SL A203 r199.1.length c204),(81,B false)] ⟨((hf_ 9 rfl).trans (rfl:_=SL A203 r199.1.length c204)),rQ (hR_ 40 81 rfl (lE rfl) rfl),trivial⟩ ?_
           refine gT rfl rfl (p_mS rfl ?_)
           exact wp_nil ⟨_,rfl,kR,rfl⟩
          ·intro e_ w_ k_ hf_ hR_
           have S_:=@A_ _ k_
           refine hopE [(81,B false)] ⟨rQ (hR_ 40 81 rfl (lE rfl) rfl),trivial⟩ ?_
           refine gT rfl rfl<|p_bsl (enc:=intE) (l:=([0]:List Int)) I (fun _=>rfl) sc30 in3 intE_len rfl (by decide) (by decide) zr3_1 S_ rfl fun A498 c499 w500 S501=>wp_nil ?_
           exact ⟨_,rfl,S501.keep,⟨(A498,c499),rfl,⟨bL (New.al (S501.newX (i:=0) rfl)) rfl (S501.atX (i:=0) rfl) rfl,trivial⟩,(cA (S501.atX (i:=0) rfl) nM)⟩⟩
          ·intro e_ w_ k_ hf_ hR_
           have S_:=@A_ _ k_
           obtain ⟨_,_,_,_,q503⟩:=hR_ 40 81 rfl (lE rfl) rfl
           obtain ⟨_,_,_,_,q504⟩:=hR_ 41 82 rfl (lE rfl) rfl
           obtain ⟨_,_,_,_,⟨A498,c499⟩,q505,p506,a507⟩:=hR_ 42 83 rfl (lE rfl) rfl
           replace q505:e_ 83=SL A498 ([0]:List Int).length c499:=q505
           have S_:=St.addL' S_ (a507 _ (.head _)) (fun _ _ _ h_=>(nE h_))
           refine hopE [(81,B false),(82,SL A203 r199.1.length c204),(83,SL A498 ([0]:List Int).length c499)] ⟨q503,q504,q505,trivial⟩ ?_
           refine gT rfl rfl (p_cv (B_Alike_ok h509 (S_.atP (i:=3) rfl) (gr_rd intE_len (S_.atP (i:=0) rfl))) fu43 rfl S_ fun w510 S511=>?_)
           exact wp_nil ⟨_,rfl,S511.keep,rfl⟩
          ·intro e_ w_ k_ hf_ hR_
           refine hopE [(81,B false),(84,B r508)] ⟨rQ (hR_ 40 81 rfl (lE rfl) rfl),rQ (hR_ 43 84 rfl (lE rfl) rfl),trivial⟩ ?_
           refine gT rfl rfl (p_not rfl ?_)
           exact wp_nil ⟨_,rfl,kR,rfl⟩
          ·intro e_ w_ k_ hf_ hR_
           refine hopE [(81,B false),(85,B (!r508))] ⟨rQ (hR_ 40 81 rfl (lE rfl) rfl),rQ (hR_ 44 85 rfl (lE rfl) rfl),trivial⟩ ?_
           exact p_pkF rfl (rfl:_=B (!r508))<|wp_nil ⟨_,rfl,kR,rfl⟩
          intro e516 w517 lo518 hi519 k520 hf521 hR522 hd523
          have S524:=S208.call k520
          try clear S208
          obtain ⟨h526,h527,h528,⟨A378,c379⟩,q525,h529,h530⟩:=hR522 30 71 (lE rfl) rfl
          replace q525:e516 71=SL A378 ([0]:List Int).length c379:=q525
          obtain ⟨p531,_⟩:=h529
          obtain ⟨h534,h535,h536,⟨A439,c440⟩,q533,h537,h538⟩:=hR522 36 77 (lE rfl) rfl
          replace q533:e516 77=SL A439 [0,2].length c440:=q533
          obtain ⟨p539,_⟩:=h537
          obtain ⟨h542,h543,h544,⟨A498,c499⟩,q541,h545,h546⟩:=hR522 42 83 (lE rfl) rfl
          replace q541:e516 83=SL A498 ([0]:List Int).length c499:=q541
          obtain ⟨p547,_⟩:=h545
          have q549:e516 86=B (!r508):=(hR522 45 86 (lE rfl) rfl).2.2.2
          refine tailE [(86,B (!r508))] ⟨q549,trivial⟩ ?_
          intro g550
          refine wp_nil ?_
          have S551:St w nF w517 [] [gW0,gW1,gW2]:=S524.pk [] (by decide) [3,4,5] rfl rfl
          try clear S524
          refine c_cond rfl (fun c552=>?_) (fun c552=>?_)
          ·replace H:=condT c552 H
           refine c_seq<|reg<|p_aB rfl<|wp_nil ?_
           obtain rfl:=sJ H
           exact c_ret (rT Tryd.f13 S551.keep rfl rfl)
          ·replace H:=condF c552 H
           refine c_skip<|c_seq<|reg ?_
           obtain ⟨r553,h554,H⟩:=bindS H
           refine p_cal (law_double_ok h554) fu41 rfl ?_
           rintro _ w555 ⟨A557,c558,A559,c560,A561,c562,A563,c564,rfl,k556,⟨o565,n566⟩,⟨o567,n568⟩,⟨o569,n570⟩,⟨o571,n572⟩,j573,j574,j575,j576,j577,j578,_⟩
           have S583:=S551.callMo k556 [gr eTallyCount 7 81 A557 c558 r553.Tally.Counts,gr eTicketSeason 2 65 A559 c560 r553.Tickets,gr eTicketShow 3 67 A561 c562 r553.Shows,gr eTicketBox 4 72 A563 c564 r553.Boxes] [] (cA ⟨o565,n566⟩ (cA ⟨o567,n568⟩ (cA ⟨o569,n570⟩ (cA ⟨o571,n572⟩ nM)))) (pC (cA j573 (cA j574 (cA j575 nM))) (pC (cA j576 (cA j577 nM)) (pC (cA j578 nM) (pC nM List.Pairwise.nil)))) nM (cA nM (cA nM (cA nM (cA nM nM))))
           try clear S551
           obtain ⟨r584,h585,H⟩:=bindS H
           refine p_cv (ticket_Clash_ok h585 (gr_rd eTallyCount_len (S583.atX (i:=0) rfl)) (gr_rd eTicketSeason_len (S583.atX (i:=1) rfl)) (gr_rd eTicketShow_len (S583.atX (i:=2) rfl)) (gr_rd eTicketBox_len (S583.atX (i:=3) rfl))) fu18 rfl S583 fun w586 S587=>?_
           try clear S583
           refine p_mT rfl<|p_ext rfl rfl<|p_ext rfl rfl<|p_ext rfl rfl<|p_aI rfl<|p_aI rfl<|p_aI rfl<|wp_nil ?_
           have S588:St w nF w586 [] [gW0,gW1,gW2]:=S587.pk [] (by decide) [0,1,2] rfl rfl
           try clear S587
           refine c_seq<|reg ?_
           obtain ⟨r589,h590,H⟩:=bindS H
           refine p_cal (law_own_ok h590) fu39 rfl ?_
           rintro _ w591 ⟨A593,c594,A595,c596,A597,c598,A599,c600,rfl,k592,⟨o601,n602⟩,⟨o603,n604⟩,⟨o605,n606⟩,⟨o607,n608⟩,j609,j610,j611,j612,j613,j614,_⟩
           have S619:=S588.callMo k592 [gr eTallyCount 7 81 A593 c594 r589.Tally.Counts,gr eTicketSeason 2 65 A595 c596 r589.Tickets,gr eTicketShow 3 67 A597 c598 r589.Shows,gr eTicketBox 4 72 A599 c600 r589.Boxes] [] (cA ⟨o601,n602⟩ (cA ⟨o603,n604⟩ (cA ⟨o605,n606⟩ (cA ⟨o607,n608⟩ nM)))) (pC (cA j609 (cA j610 (cA j611 nM))) (pC (cA j612 (cA j613 nM)) (pC (cA j614 nM) (pC nM List.Pairwise.nil)))) nM (cA nM (cA nM (cA nM (cA nM nM))))
           try clear S588
           refine p_bld (cs:=[I 0,I 1,I 8,I 0]) st72 (rfl:_=[(1,I 1),(2,I 8)]) (by kernel_rfl) ?_
           obtain ⟨r620,h621,H⟩:=bindS H
           refine p_cv (ticket_Fits_ok h621 (gr_rd eTallyCount_len (S619.atX (i:=0) rfl)) (gr_rd eTicketSeason_len (S619.atX (i:=1) rfl)) (gr_rd eTicketShow_len (S619.atX (i:=2) rfl)) (gr_rd eTicketBox_len (S619.atX (i:=3) rfl)) (S619.atP (i:=0) rfl) (S619.atP (i:=2) rfl)) fu35 rfl S619 fun w622 S623=>?_
           try clear S619
           refine p_mT rfl<|p_ext rfl rfl<|p_ext rfl rfl<|p_aB rfl<|p_aI rfl<|wp_nil ?_
           have S624:St w nF w622 [] [gW0,gW1,gW2]:=S623.pk [] (by decide) [0,1,2] rfl rfl
           try clear S623
           refine c_seq<|reg ?_
           obtain ⟨r625,h626,H⟩:=bindS H
           refine p_cal (law_robbed_ok h626) fu42 rfl ?_
           rintro _ w627 ⟨A629,c630,A631,c632,A633,c634,A635,c636,rfl,k628,⟨o637,n638⟩,⟨o639,n640⟩,⟨o641,n642⟩,⟨o643,n644⟩,j645,j646,j647,j648,j649,j650,_⟩
           have S655:=S624.callMo k628 [gr eTallyCount 7 81 A629 c630 r625.Tally.Counts,gr eTicketSeason 2 65 A631 c632 r625.Tickets,gr eTicketShow 3 67 A633 c634 r625.Shows,gr eTicketBox 4 72 A635 c636 r625.Boxes] [] (cA ⟨o637,n638⟩ (cA ⟨o639,n640⟩ (cA ⟨o641,n642⟩ (cA ⟨o643,n644⟩ nM)))) (pC (cA j645 (cA j646 (cA j647 nM))) (pC (cA j648 (cA j649 nM)) (pC (cA j650 nM) (pC nM List.Pairwise.nil)))) nM (cA nM (cA nM (cA nM (cA nM nM))))
           try clear S624
           have S656:=S655.fixRd eTallyCount_len (i:=0) rfl
           try clear S655
           have S657:=S656.fixRd eTicketSeason_len (i:=0) rfl
           try clear S656
           have S658:=S657.fixRd eTicketShow_len (i:=0) rfl
           try clear S657
           have S659:=S658.fixRd eTicketBox_len (i:=0) rfl
           try clear S658
           obtain ⟨r660,h661,H⟩:=bindS H
           refine p_cal (ticket_Wrong_ok h661 (S659.atP (i:=3) rfl) (S659.atP (i:=2) rfl) (S659.atP (i:=1) rfl) (S659.atP (i:=0) rfl) (S659.atP (i:=4) rfl) (S659.atP (i:=6) rfl)) fu17 rfl ?_
           rintro _ w662 ⟨A664,c665,rfl,k663,⟨o666,n667⟩,_⟩
           have S668:=S659.callN k663 [rd intE 1 A664 c665 r660.1] (cA ⟨o666,Al.inL n667 ((cA (fp_mem (i:=3) rfl) (cA (fp_mem (i:=2) rfl) (cA (fp_mem (i:=1) rfl) (cA (fp_mem (i:=0) rfl) nM)))))⟩ nM)
           try clear S659
           refine p_mT rfl<|p_ext rfl rfl<|p_ext rfl rfl<|p_aS rfl<|p_aI rfl<|wp_nil ?_
           have S669:St w nF w662 [] [rd intE 1 A664 c665 r660.1,gW0,gW1,gW2]:=S668.pk [] (by decide) [0,5,6,7] rfl rfl
           try clear S668
           refine c_seq<|reg ?_
           obtain ⟨r670,h671,H⟩:=bindS H
           refine p_cal (law_own_ok h671) fu39 rfl ?_
           rintro _ w672 ⟨A674,c675,A676,c677,A678,c679,A680,c681,rfl,k673,⟨o682,n683⟩,⟨o684,n685⟩,⟨o686,n687⟩,⟨o688,n689⟩,j690,j691,j692,j693,j694,j695,_⟩
           have S700:=S669.callMo k673 [gr eTallyCount 7 81 A674 c675 r670.Tally.Counts,gr eTicketSeason 2 65 A676 c677 r670.Tickets,gr eTicketShow 3 67 A678 c679 r670.Shows,gr eTicketBox 4 72 A680 c681 r670.Boxes] [] (cA ⟨o682,n683⟩ (cA ⟨o684,n685⟩ (cA ⟨o686,n687⟩ (cA ⟨o688,n689⟩ nM)))) (pC (cA j690 (cA j691 (cA j692 nM))) (pC (cA j693 (cA j694 nM)) (pC (cA j695 nM) (pC nM List.Pairwise.nil)))) nM (cA nM (cA nM (cA nM (cA nM nM))))
           try clear S669
           obtain ⟨r701,h702,H⟩:=bindS H
           refine p_cv (ticket_Right_ok h702 (gr_rd eTallyCount_len (S700.atX (i:=0) rfl)) (gr_rd eTicketSeason_len (S700.atX (i:=1) rfl)) (gr_rd eTicketShow_len (S700.atX (i:=2) rfl)) (gr_rd eTicketBox_len (S700.atX (i:=3) rfl)) (S700.atP (i:=1) rfl) (S700.atP (i:=3) rfl)) fu16 rfl S700 fun w703 S704=>?_
           try clear S700
           refine p_mT rfl<|p_ext rfl rfl<|p_ext rfl rfl<|p_aB rfl<|p_aI rfl<|wp_nil ?_
           have S705:St w nF w703 [] [rd intE 1 A664 c665 r660.1,gW0,gW1,gW2]:=S704.pk [] (by decide) [0,1,2,3] rfl rfl
           try clear S704
           refine c_seq<|reg<|p_mI rfl<|p_cmp rfl rfl rfl<|p_mB rfl ?_
           rcases bE ((r584.2.2==0)) with c706 | c706
           ·replace H:=condT c706 H
            refine eB c706 ?_
            refine gT rfl rfl (p_mI rfl ?_)
            refine gT rfl rfl (p_cmp rfl rfl rfl ?_)
            refine p_pkT rfl (rfl:_=B (r620.2==0))<|p_mB rfl ?_
            rcases bE ((r620.2==0)) with c707 | c707
            ·replace H:=condT c707 H
             refine eB c707 ?_
             refine gT rfl rfl (p_mI rfl ?_)
             refine gT rfl rfl (p_cmp rfl rfl rfl ?_)
             refine p_pkT rfl (rfl:_=B (r660.2==0))<|p_mB rfl ?_
             rcases bE ((r660.2==0)) with c708 | c708
             ·replace H:=condT c708 H
              refine eB c708 ?_
              refine gT rfl rfl (p_mI rfl ?_)
              refine gT rfl rfl (p_cmp rfl rfl rfl ?_)
              refine p_pkT rfl (rfl:_=B (r701.2==0))<|p_mB rfl ?_
              rcases bE ((r701.2==0)) with c709 | c709
              ·replace H:=condT c709 H
               refine eB c709 ?_
               refine gT rfl rfl (p_mI rfl ?_)
               refine gT rfl rfl (p_cmp rfl rfl rfl ?_)
               refine p_pkT rfl (rfl:_=B (r584.1==0))<|p_mB rfl ?_
               rcases bE ((r584.1==0)) with c710 | c710
               ·replace H:=condT c710 H
                refine eB c710 ?_
                refine gT rfl rfl (p_mI rfl ?_)
                refine gT rfl rfl (p_cmp rfl rfl rfl ?_)
                refine p_pkT rfl (rfl:_=B (r584.2.1==2))<|p_mB rfl ?_
                rcases bE ((r584.2.1==2)) with c711 | c711
                ·replace H:=condT c711 H
                 refine eB c711 ?_
                 refine gT rfl rfl (p_mB rfl ?_)
                 refine p_pkT rfl (rfl:_=B r620.1)<|p_mB rfl ?_
                 rcases bE (r620.1) with c712 | c712
                 ·replace H:=condT c712 H
                  refine eB c712 ?_
                  refine gT rfl rfl (p_mS rfl ?_)
                  refine gT rfl rfl<|p_bsl (enc:=intE) (l:=([2]:List Int)) I (fun _=>rfl) sc30 in3 intE_len rfl (by decide) (by decide) zr3_1 S705 rfl fun A713 c714 w715 S716=>?_
                  obtain ⟨r718,h719,H⟩:=bindS H
                  refine gT rfl rfl (p_cv (B_Alike_ok h719 (S716.atP (i:=0) rfl) (gr_rd intE_len (S716.atX (i:=0) rfl))) fu43 rfl S716 fun w720 S721=>?_)
                  try clear S716
                  refine p_pkT rfl (rfl:_=B r718)<|p_mB rfl ?_
                  rcases bE (r718) with c722 | c722
                  ·replace H:=condT c722 H
                   refine eB c722 ?_
                   refine gT rfl rfl (p_mB rfl ?_)
                   refine p_pkT rfl (rfl:_=B r701.1)<|p_aB rfl<|wp_nil ?_
                   obtain rfl:=sJ H
                   exact c_ret (rT Tryd.f13 S721.keep rfl rfl)
                  ·replace H:=condF c722 H
                   refine eB c722<|gF rfl rfl<|p_pkF rfl (rfl:_=B false)<|p_aB rfl<|wp_nil ?_
                   obtain rfl:=sJ H
                   exact c_ret (rT Tryd.f13 S721.keep rfl rfl)
                 ·replace H:=condF c712 H
                  refine eB c712<|gF rfl rfl<|gF rfl rfl<|gF rfl rfl<|p_pkF rfl (rfl:_=B false)<|p_mB rfl<|gF rfl rfl<|p_pkF rfl (rfl:_=B false)<|p_aB rfl<|wp_nil ?_
                  obtain rfl:=sJ H
                  exact c_ret (rT Tryd.f13 S705.keep rfl rfl)
                ·replace H:=condF c711 H
                 refine eB c711<|gF rfl rfl<|p_pkF rfl (rfl:_=B false)<|p_mB rfl<|gF rfl rfl<|gF rfl rfl<|gF rfl rfl<|p_pkF rfl (rfl:_=B false)<|p_mB rfl<|gF rfl rfl<|p_pkF rfl (rfl:_=B false)<|p_aB rfl<|wp_nil ?_
                 obtain rfl:=sJ H
                 exact c_ret (rT Tryd.f13 S705.keep rfl rfl)
               ·replace H:=condF c710 H
                refine eB c710<|gF rfl rfl<|gF rfl rfl<|p_pkF rfl (rfl:_=B false)<|p_mB rfl<|gF rfl rfl<|p_pkF rfl (rfl:_=B false)<|p_mB rfl<|gF rfl rfl<|gF rfl rfl<|gF rfl rfl<|p_pkF rfl (rfl:_=B false)<|p_mB rfl<|gF rfl rfl<|p_pkF rfl (rfl:_=B false)<|p_aB rfl<|wp_nil ?_
                obtain rfl:=sJ H
                exact c_ret (rT Tryd.f13 S705.keep rfl rfl)
              ·replace H:=condF c709 H
               refine eB c709<|gF rfl rfl<|gF rfl rfl<|p_pkF rfl (rfl:_=B false)<|p_mB rfl<|gF rfl rfl<|gF rfl rfl<|p_pkF rfl (rfl:_=B false)<|p_mB rfl<|gF rfl rfl<|p_pkF rfl (rfl:_=B false)<|p_mB rfl<|gF rfl rfl<|gF rfl rfl<|gF rfl rfl<|p_pkF rfl (rfl:_=B false)<|p_mB rfl<|gF rfl rfl<|p_pkF rfl (rfl:_=B false)<|p_aB rfl<|wp_nil ?_
               obtain rfl:=sJ H
               exact c_ret (rT Tryd.f13 S705.keep rfl rfl)
             ·replace H:=condF c708 H
              refine eB c708<|gF rfl rfl<|gF rfl rfl<|p_pkF rfl (rfl:_=B false)<|p_mB rfl<|gF rfl rfl<|gF rfl rfl<|p_pkF rfl (rfl:_=B false)<|p_mB rfl<|gF rfl rfl<|gF rfl rfl<|p_pkF rfl (rfl:_=B false)<|p_mB rfl<|gF rfl rfl<|p_pkF rfl (rfl:_=B false)<|p_mB rfl<|gF rfl rfl<|gF rfl rfl<|gF rfl rfl<|p_pkF rfl (rfl:_=B false)<|p_mB rfl<|gF rfl rfl<|p_pkF rfl (rfl:_=B false)<|p_aB rfl<|wp_nil ?_
              obtain rfl:=sJ H
              exact c_ret (rT Tryd.f13 S705.keep rfl rfl)
            ·replace H:=condF c707 H
             refine eB c707<|gF rfl rfl<|gF rfl rfl<|p_pkF rfl (rfl:_=B false)<|p_mB rfl<|gF rfl rfl<|gF rfl rfl<|p_pkF rfl (rfl:_=B false)<|p_mB rfl<|gF rfl rfl<|gF rfl rfl<|p_pkF rfl (rfl:_=B false)<|p_mB rfl<|gF rfl rfl<|gF rfl rfl<|p_pkF rfl (rfl:_=B false)<|p_mB rfl<|gF rfl rfl<|p_pkF rfl (rfl:_=B false)<|p_mB rfl<|gF rfl rfl<|gF rfl rfl<|gF rfl rfl<|p_pkF rfl (rfl:_=B false)<|p_mB rfl<|gF rfl rfl<|p_pkF rfl (rfl:_=B false)<|p_aB rfl ?_
             refine wp_nil ?_
             obtain rfl:=sJ H
             exact c_ret (rT Tryd.f13 S705.keep rfl rfl)
           ·replace H:=condF c706 H
            refine eB c706<|gF rfl rfl<|gF rfl rfl<|p_pkF rfl (rfl:_=B false)<|p_mB rfl<|gF rfl rfl<|gF rfl rfl<|p_pkF rfl (rfl:_=B false)<|p_mB rfl<|gF rfl rfl<|gF rfl rfl<|p_pkF rfl (rfl:_=B false)<|p_mB rfl<|gF rfl rfl<|gF rfl rfl<|p_pkF rfl (rfl:_=B false)<|p_mB rfl<|gF rfl rfl<|gF rfl rfl<|p_pkF rfl (rfl:_=B false)<|p_mB rfl<|gF rfl rfl<|p_pkF rfl (rfl:_=B false)<|p_mB rfl<|gF rfl rfl<|gF rfl rfl<|gF rfl rfl<|p_pkF rfl (rfl:_=B false) ?_
            refine p_mB rfl<|gF rfl rfl<|p_pkF rfl (rfl:_=B false)<|p_aB rfl<|wp_nil ?_
            obtain rfl:=sJ H
            exact c_ret (rT Tryd.f13 S705.keep rfl rfl)
structure Law10_known where
 crossed_:List Int
 users_:List (List Int)
 deriving DecidableEq,Inhabited
end Go.Proofs.YtafhljljfglfeaaDoor
namespace Go.Proofs.YtafhljljfglfeaaDoor
open Go Go.Fx Go.Proofs
def nTicketBook (h:TicketBook×(Option Addr)×Nat×(Option Addr)×Nat×(Option Addr)×Nat×(Option Addr)×Nat):List Value:=(vB h.1 h.2.1 h.2.2.1 h.2.2.2.1 h.2.2.2.2.1 h.2.2.2.2.2.1 h.2.2.2.2.2.2.1 h.2.2.2.2.2.2.2.1 h.2.2.2.2.2.2.2.2)
theorem nTicketBook_len (h:TicketBook×(Option Addr)×Nat×(Option Addr)×Nat×(Option Addr)×Nat×(Option Addr)×Nat):(nTicketBook h).length=7:=rfl
theorem nTicketBook_one (h:TicketBook×(Option Addr)×Nat×(Option Addr)×Nat×(Option Addr)×Nat×(Option Addr)×Nat):∀ u∈nTicketBook h,u.oneCell' =true:=by simp [nTicketBook,sg,sgF,Value.oneCell']
def nTicketBookI (h:TicketBook×(Option Addr)×Nat×(Option Addr)×Nat×(Option Addr)×Nat×(Option Addr)×Nat):List Asr:=[rd eTallyCount 7 h.2.1 h.2.2.1 h.1.Tally.Counts,rd eTicketSeason 2 h.2.2.2.1 h.2.2.2.2.1 h.1.Tickets,rd eTicketShow 3 h.2.2.2.2.2.1 h.2.2.2.2.2.2.1 h.1.Shows,rd eTicketBox 4 h.2.2.2.2.2.2.2.1 h.2.2.2.2.2.2.2.2 h.1.Boxes]
structure Tally_leave where
 out_:TallyCount→Int→Option Bool
end Go.Proofs.YtafhljljfglfeaaDoor
namespace Go.Fx
open Go Go.ChangeShapes Go.WideShapes Go.ChangeAt Go.RowKit
section
variable {H:Type}{enc:TypeId×Value→H}{P:Program}
theorem Keep.kept {w w' :World} (k:Keep0 w w') (may:MemPlace→Prop):w.keptBut w' may:=by
 refine ⟨k.os,k.output,fun i hi=>?_⟩
 have:=k.block i hi (fun x=>x)
 rw [this]
 cases w.heap[i]? with
 | none=>rfl
 | some o=>cases o <;> first | exact ⟨rfl,rfl,rfl,fun _ _=>rfl⟩ | exact .inr ⟨rfl,rfl⟩ | rfl
theorem Keep.same {w w' :World} (k:Keep0 w w') {p:MemPlace} (hp:p.block < w.heap.size):w.sameAt w' p:=by
 cases p with
 | cell b off=>
   have:=k.block b hp (fun x=>x)
   exact World.cell?_of_block (w:=w) this
 | map b=>exact k.block b hp (fun x=>x)
theorem trodAll_stays (hl:laidOutB P=true) {W W' :World}{sp' :Nat→Bool}:∀ {ts:List TypeId}{vs:List Value}{ds:List (DataW H)}{ps:List MemPlace},
 (∀ t∈ts,P.readableRec t=true∧t < P.types.size)→DataW.TrodAll enc P W 0 (fun _=>true) true ts vs ds ps→(∀ p∈ps,W.sameAt W' p)→(∀ p∈ps,sp' p.block=true)→DataW.TrodAll enc P W' 0 sp' true ts vs ds ps
 | [],[],[],_,_,h,_,_=>h
 | t::ts,v::vs,d::ds,ps,ht,⟨p,q,h1,h2,e⟩,hs,hb=>by
   subst e
   exact ⟨p,q,WideElems.Trod_stays hl (ht t (List.mem_cons_self ..)).1 (ht t (List.mem_cons_self ..)).2 h1 (fun x hx=>hs x (List.mem_append_left _ hx)) (fun x hx=>hb x (List.mem_append_left _ hx)),
    trodAll_stays hl (fun t ht' =>ht t (List.mem_cons_of_mem _ ht')) h2 (fun x hx=>hs x (List.mem_append_right _ hx)) (fun x hx=>hb x (List.mem_append_right _ hx)),rfl⟩
 | [],_::_,_,_,_,h,_,_=>by cases ‹List (DataW H)› <;> exact h.elim
 | [],[],_::_,_,_,h,_,_=>h.elim
 | _::_,[],_,_,_,h,_,_=>by cases ‹List (DataW H)› <;> exact h.elim
 | _::_,_::_,[],_,_,h,_,_=>h.elim
theorem law_post {fn:Func}{spec:ChangeSpec}{W W' :World}{args:Array Value}{ds gs:List (DataW H)}{before:List MemPlace}{tb:TypeId}
 (hW:DataW.Whole enc P fn.params.toList spec.vars false W args.toList ds gs before) (hl:laidOutB P=true) (hts:(fn.params.toList.all fun t=>P.readableRec t&&decide (t < P.types.size))=true)
 (hvars:spec.vars=[]) (hfn:spec.fn H ds={ results:=[.lit (.bool true)],args:=ds }) (hres:fn.resultTypes=#[tb]) (hb:P.underlying tb=some .bool) (k:Keep0 W W'):
 spec.post enc P fn false true false false W args (.bool true) W' :=by
 have hlt:=hW.lt
 obtain ⟨p,q,hA,hV,rfl,hfz,hnd⟩:=id hW
 have hV' :=hV
 rw [hvars] at hV'
 obtain ⟨rfl,rfl⟩:=trodVars_none hV'
 rw [List.append_nil] at hlt
 have hts' :∀ t∈fn.params.toList,P.readableRec t=true∧t < P.types.size:=fun t ht=>by
  have:=List.all_eq_true.1 hts t ht
  simpa using this
 refine ⟨ds,[],p++[],[],p,[],hW,?_,?_,?_,k.kept _,fun h=>by cases h⟩
 ·rw [List.append_nil,hfn,hres]
  exact trodAll_mk1 (shut_bool hb true)
 ·rw [List.append_nil,hfn]
  exact trodAll_stays hl hts' hA (fun x hx=>k.same (hlt x hx)) (fun x hx=>by simpa using hlt x hx)
 ·rw [List.append_nil,hfn,hvars]
  rfl
def InI (n:Int):Prop:=-9223372036854775808≤n∧n≤9223372036854775807
theorem inI_of {n:Int} (h:(Lit.int .i64 n).wf=true):InI n:=bounds_i64 h
variable {w:World}{base:Nat}{spare:Nat→Bool}{held:Bool}
def FlatI (P:Program) (t:TypeId) (n:Nat):Prop:=∀ {H:Type}{enc:TypeId×Value→H}{w:World}{base:Nat}{spare:Nat→Bool}{held:Bool}{fuel:Nat}{cs:List Value}{x:DataW H×List MemPlace},
 DataW.trod enc P w base spare held fuel t cs=some x→∃ l:List Int,l.length=n∧cs=l.map I∧∀ y∈l,InI y
theorem flat_cells {cs:List Value}:∀ {n:Nat},cs.length=n→(∀ i,i < n→∃ a:Int,cs[i]? =some (I a)∧InI a)→∃ l:List Int,l.length=n∧cs=l.map I∧∀ y∈l,InI y:=by
 intro n hn h
 subst hn
 induction cs with
 | nil=>exact ⟨[],rfl,rfl,fun _ h=>(List.not_mem_nil h).elim⟩
 | cons c cs ih=>
   obtain ⟨a,ha,hi⟩:=h 0 (by simp)
   obtain ⟨l,h1,h2,h3⟩:=ih fun i hi=>by
    obtain ⟨b,hb⟩:=h (i+1) (by simp; omega)
    exact ⟨b,by simpa using hb⟩
   refine ⟨a::l,by simp [h1],by simp at ha; rw [ha,h2]; rfl,fun y hy=>?_⟩
   rcases List.mem_cons.1 hy with rfl | hy
   ·exact hi
   ·exact h3 y hy
theorem take_one {cs:List Value}{o:Nat}{v:Value} (h:(cs.drop o).take 1=[v]):cs[o]? =some v:=by
 have:=congrArg (·[0]?) h
 simpa [List.getElem?_take] using this
theorem flat_struct {t:TypeId}{fs:Array Field}{n:Nat} (ht:P.underlying t=some (.struct fs)) (hn:P.cellsOf t=n) (hf:∀ i,i < n→∃ f:Field,fs[i]? =some f∧f.offset=i∧P.underlying f.type=some (.int .i64)∧P.cellsOf f.type=1) (hs:fs.size=n):FlatI P t n:=by
 intro _ _ _ _ _ _ _ cs _ h
 obtain ⟨xs,m,_,_,hl,hxs,hel⟩:=DataW.trod_struct ht h
 refine flat_cells (hl.trans hn) fun i hi=>?_
 obtain ⟨f,h1,h2,h3,h4⟩:=hf i hi
 have:=hel i f h1
 rw [h2,h4,List.getElem?_eq_getElem (by rw [hxs,hs]; exact hi)] at this
 obtain ⟨a,ha,_,hw⟩:=DataW.trod_int h3 this
 exact ⟨a,take_one ha,inI_of hw⟩
end
end Go.Fx
namespace Go.Proofs.YtafhljljfglfeaaDoor
open Go Go.Fx Go.Proofs Go.ChangeShapes Go.WideShapes Go.ChangeAt Go.RowKit
theorem own:ownKnob Tryd.prog.godebug=none:=by kernel_rfl
theorem laidOut:laidOutB Tryd.prog=true:=by kernel_rfl
theorem u3:Tryd.prog.underlying 3=some (.int .i64):=by kernel_rfl
theorem c3:Tryd.prog.cellsOf 3=1:=by kernel_rfl
theorem var_heap {W:World}{n:String}{g:Nat}{cs c:Array Value}{t:TypeId}{fr:Nat×Nat} (hg:Tryd.prog.globalNamed n=some g) (hv:W.var? Tryd.prog n=some cs) (hh:W.heap[g]? =some (.cells c t fr)):cs=c:=by
 unfold World.var? at hv
 rw [hg] at hv
 simp only [Option.bind_some,hh] at hv
 exact (Option.some.inj hv).symm
theorem gNobody : Tryd.prog.globalNamed "prow/ticket.nobody" = some 0 := by kernel_rfl
theorem tNobody:(Tryd.prog.globals[0]?).map (·.type)=some 128:=by kernel_rfl
theorem c128:Tryd.prog.cellsOf 128=2:=by kernel_rfl
theorem u128:∃ f0 f1:Field,Tryd.prog.underlying 128=some (.struct #[f0,f1])∧f0.type=3∧f1.type=3∧f0.offset=0∧f1.offset=1:=⟨(Tryd.prog.fieldsOf 128)[0]!,(Tryd.prog.fieldsOf 128)[1]!,by kernel_rfl,by kernel_rfl,by kernel_rfl,by kernel_rfl,by kernel_rfl⟩
theorem shape0:∃ zero,(((begin Tryd.prog (fun _ _=>0) default).world.heap[0]?).bind Obj.row?)=some (zero,128):=⟨#[I 0,I 0],by kernel_rfl⟩
set_option maxRecDepth 100000 in
theorem atNobody {W : World} (hS : W.ShapedOpen Tryd.prog) {g t : Nat} {cs : Array Value} {fuel : Nat} {p : List MemPlace} (hg : Tryd.prog.globalNamed "prow/ticket.nobody" = some g) (ht : (Tryd.prog.globals[g]?).map (·.type) = some t) (hv : W.var? Tryd.prog "prow/ticket.nobody" = some cs)
 (hd:DataW.trod (fun _=>()) Tryd.prog W 0 (fun _=>true) false fuel t cs.toList=some (.agg [.lit (.int .i64 (-1)),.lit (.int .i64 (-1))],p)):(bl 0 [I (-1),I (-1)] 128).ok W:=by
 obtain ⟨z,hz⟩:=shape0
 obtain ⟨cs0,h1,_⟩:=hS.1 0 z 128 (of_decide_eq_true (by kernel_rfl)) hz
 obtain rfl:=Option.some.inj (gNobody.symm.trans hg)
 obtain rfl:=Option.some.inj (tNobody.symm.trans ht)
 obtain rfl:=var_heap gNobody hv h1
 obtain ⟨f0,f1,hu,ht0,ht1,ho0,ho1⟩:=u128
 obtain ⟨xs,m,_,hx,hl,hxs,hel⟩:=DataW.trod_struct hu hd
 rw [c128] at hl
 have hx' :xs.map (·.1)=[.lit (.int .i64 (-1)),.lit (.int .i64 (-1))]:=by
  have:=congrArg Prod.fst hx
  exact (DataW.agg.inj this).symm
 obtain ⟨cl⟩:=cs
 match cl,hl with
 | [v0,v1],_=>
   match xs,hx' with
   | [(_,p0),(_,p1)],hx' =>
     simp only [List.map_cons,List.map_nil,List.cons.injEq,and_true] at hx'
     obtain ⟨rfl,rfl⟩:=hx'
     have e0:=hel 0 f0 rfl
     have e1:=hel 1 f1 rfl
     rw [ho0,ht0,c3] at e0
     rw [ho1,ht1,c3] at e1
     obtain ⟨n0,a0,b0,_⟩:=DataW.trod_int u3 (show DataW.trod _ _ _ _ _ _ _ _ [v0]=some (_,p0) from e0)
     obtain ⟨n1,a1,b1,_⟩:=DataW.trod_int u3 (show DataW.trod _ _ _ _ _ _ _ _ [v1]=some (_,p1) from e1)
     cases a0; cases a1; cases b0; cases b1
     exact h1
theorem c139:Tryd.prog.cellsOf 139=2:=by kernel_rfl
theorem gAsks : Tryd.prog.globalNamed "prow/ticket.asks" = some 1 := by kernel_rfl
theorem tAsks:(Tryd.prog.globals[1]?).map (·.type)=some 133:=by kernel_rfl
theorem u133:Tryd.prog.underlying 133=some (.array 2 132):=by kernel_rfl
theorem u132b:(match Tryd.prog.underlying 132 with | some (.func _ _ _)=>true | _=>false)=true:=by kernel_rfl
theorem u132:∃ ps rs va,Tryd.prog.underlying 132=some (.func ps rs va):=by
 have h:=u132b
 split at h
 ·rename_i ps rs va hu; exact ⟨ps,rs,va,hu⟩
 ·cases h
theorem c132:Tryd.prog.cellsOf 132=1:=by kernel_rfl
theorem c133:Tryd.prog.cellsOf 133=2:=by kernel_rfl
theorem shape1:∃ zero,(((begin Tryd.prog (fun _ _=>0) default).world.heap[1]?).bind Obj.row?)=some (zero,133):=⟨#[.nilFunc,.nilFunc],by kernel_rfl⟩
set_option maxRecDepth 100000 in
theorem atAsks {W : World} (hS : W.ShapedOpen Tryd.prog) {laid : List (String × DataW Unit)} (h : laidMetH Tryd.prog laid W) (hm : ("prow/ticket.asks", Rows.laid_prow_ticket_asks) ∈ laid) : (bl 1 [Value.func (.func 130) #[] #[], Value.func (.func 131) #[] #[]] 133).ok W := by
 obtain ⟨z,hz⟩:=shape1
 obtain ⟨cs0,h0,_⟩:=hS.1 1 z 133 (of_decide_eq_true (by kernel_rfl)) hz
 obtain ⟨g, t, cs, fuel, p, hg, ht, hv, hd⟩ := h.funcs (n := "prow/ticket.asks") hm
 obtain rfl:=Option.some.inj (gAsks.symm.trans hg)
 obtain rfl:=Option.some.inj (tAsks.symm.trans ht)
 obtain rfl:=var_heap gAsks hv h0
 obtain ⟨xs,m,_,hx,hl,hxs,hel⟩:=DataW.trod_array u133 hd
 rw [c133] at hl
 have hx' :xs.map (·.1)=[.held [40,112,114,111,119,47,116,105,99,107,101,116,46,98,111,111,107,41,46,97,108,119,97,121,115],.held [40,112,114,111,119,47,116,105,99,107,101,116,46,98,111,111,107,41,46,115,111,109,101,116,105,109,101,115]]:=by
  have:=congrArg Prod.fst hx
  exact (DataW.agg.inj this).symm
 obtain ⟨ps,rs,va,hu⟩:=u132
 obtain ⟨cl⟩:=cs
 match cl,hl with
 | [v0,v1],_=>
   match xs,hx' with
   | [(_,p0),(_,p1)],hx' =>
     simp only [List.map_cons,List.map_nil,List.cons.injEq,and_true] at hx'
     obtain ⟨rfl,rfl⟩:=hx'
     have e0:=hel 0 (by decide)
     have e1:=hel 1 (by decide)
     rw [c132] at e0 e1
     obtain rfl:=func_of_trod (f0:=130) hu (by kernel_rfl) (show DataW.trod _ _ _ _ _ _ _ _ [v0]=some (_,p0) from e0)
     obtain rfl:=func_of_trod (f0:=131) hu (by kernel_rfl) (show DataW.trod _ _ _ _ _ _ _ _ [v1]=some (_,p1) from e1)
     exact h0
theorem gEnds : Tryd.prog.globalNamed "prow/tally.ends" = some 2 := by kernel_rfl
theorem tEnds:(Tryd.prog.globals[2]?).map (·.type)=some 142:=by kernel_rfl
theorem u142:Tryd.prog.underlying 142=some (.array 2 141):=by kernel_rfl
theorem u141b:(match Tryd.prog.underlying 141 with | some (.func _ _ _)=>true | _=>false)=true:=by kernel_rfl
theorem u141:∃ ps rs va,Tryd.prog.underlying 141=some (.func ps rs va):=by
 have h:=u141b
 split at h
 ·rename_i ps rs va hu; exact ⟨ps,rs,va,hu⟩
 ·cases h
theorem c141:Tryd.prog.cellsOf 141=1:=by kernel_rfl
theorem c142:Tryd.prog.cellsOf 142=2:=by kernel_rfl
theorem shape2:∃ zero,(((begin Tryd.prog (fun _ _=>0) default).world.heap[2]?).bind Obj.row?)=some (zero,142):=⟨#[.nilFunc,.nilFunc],by kernel_rfl⟩
set_option maxRecDepth 100000 in
theorem atEnds {W : World} (hS : W.ShapedOpen Tryd.prog) {laid : List (String × DataW Unit)} (h : laidMetH Tryd.prog laid W) (hm : ("prow/tally.ends", Rows.laid_prow_tally_ends) ∈ laid) : (bl 2 [Value.func (.func 128) #[] #[], Value.func (.func 132) #[] #[]] 142).ok W := by
 obtain ⟨z,hz⟩:=shape2
 obtain ⟨cs0,h0,_⟩:=hS.1 2 z 142 (of_decide_eq_true (by kernel_rfl)) hz
 obtain ⟨g, t, cs, fuel, p, hg, ht, hv, hd⟩ := h.funcs (n := "prow/tally.ends") hm
 obtain rfl:=Option.some.inj (gEnds.symm.trans hg)
 obtain rfl:=Option.some.inj (tEnds.symm.trans ht)
 obtain rfl:=var_heap gEnds hv h0
 obtain ⟨xs,m,_,hx,hl,hxs,hel⟩:=DataW.trod_array u142 hd
 rw [c142] at hl
 have hx' :xs.map (·.1)=[.held [40,112,114,111,119,47,116,97,108,108,121,46,99,111,117,110,116,41,46,108,101,97,115,116],.held [40,112,114,111,119,47,116,97,108,108,121,46,99,111,117,110,116,41,46,109,111,115,116]]:=by
  have:=congrArg Prod.fst hx
  exact (DataW.agg.inj this).symm
 obtain ⟨ps,rs,va,hu⟩:=u141
 obtain ⟨cl⟩:=cs
 match cl,hl with
 | [v0,v1],_=>
   match xs,hx' with
   | [(_,p0),(_,p1)],hx' =>
     simp only [List.map_cons,List.map_nil,List.cons.injEq,and_true] at hx'
     obtain ⟨rfl,rfl⟩:=hx'
     have e0:=hel 0 (by decide)
     have e1:=hel 1 (by decide)
     rw [c141] at e0 e1
     obtain rfl:=func_of_trod (f0:=128) hu (by kernel_rfl) (show DataW.trod _ _ _ _ _ _ _ _ [v0]=some (_,p0) from e0)
     obtain rfl:=func_of_trod (f0:=132) hu (by kernel_rfl) (show DataW.trod _ _ _ _ _ _ _ _ [v1]=some (_,p1) from e1)
     exact h0
def laidL : List (String × DataW Unit) := [("prow/tally.ends", Rows.laid_prow_tally_ends), ("prow/ticket.nobody", Rows.laid_prow_ticket_nobody), ("prow/ticket.asks", Rows.laid_prow_ticket_asks)]
theorem globals_ok {W:World} (hS:W.ShapedOpen Tryd.prog) (h:laidMetH Tryd.prog laidL W):(bl 0 [I (-1),I (-1)] 128).ok W∧(bl 1 [Value.func (.func 130) #[] #[],Value.func (.func 131) #[] #[]] 133).ok W∧(bl 2 [Value.func (.func 128) #[] #[],Value.func (.func 132) #[] #[]] 142).ok W:=by
 refine ⟨?_,atAsks hS h (List.mem_cons_of_mem _ (List.mem_cons_of_mem _ (List.mem_cons_self ..))),atEnds hS h (List.mem_cons_self ..)⟩
 have h' : laidMet Tryd.prog [("prow/ticket.nobody", Rows.laid_prow_ticket_nobody)] W := h.1
 obtain ⟨ps,⟨g,t,cs,fuel,p,q,hg,ht,hv,hd,_,_⟩,_⟩:=h'
 exact atNobody hS hg ht hv hd
def putCells (cs:Array Value):Obj→Obj
 | .cells _ t frozen=>.cells cs t frozen
 | o=>o
noncomputable def laidWorld (os:Os):World:=
 { World.holding Tryd.prog os ⟨#[],#[],[]⟩ with heap:=(((((World.holding Tryd.prog os ⟨#[],#[],[]⟩).heap.modify 0 (putCells #[I (-1),I (-1)])).modify 1 (putCells #[.func (.func 130) #[] #[],.func (.func 131) #[] #[]])).modify 2 (putCells #[.func (.func 128) #[] #[],.func (.func 132) #[] #[]])).modify 3 (putCells #[I (-1),I (-1)])) }
end Go.Proofs.YtafhljljfglfeaaDoor
set_option linter.constructorNameAsVariable false
set_option maxRecDepth 100000
namespace Go.Proofs.YtafhljljfglfeaaDoor
open Go Go.Fx Go.Proofs Go.ChangeShapes Go.WideShapes Go.ChangeAt Go.RowKit
theorem get_bang {α:Type} [Inhabited α] {a:Array α}{i:Nat} (h:i < a.size):a[i]? =some a[i]! :=by
 rw [Array.getElem?_eq_getElem h,getElem!_pos a i h]
theorem st {t n:Nat} (u:Tryd.prog.underlying t=some (.struct (Tryd.prog.fieldsOf t))) (c:Tryd.prog.cellsOf t=n) (s:(Tryd.prog.fieldsOf t).size=n)
 (b:((List.range n).all fun i=>(Tryd.prog.fieldsOf t)[i]!.offset==i&&(Tryd.prog.fieldsOf t)[i]!.type==3)=true):FlatI Tryd.prog t n:=by
 refine flat_struct u c (fun i hi=>?_) s
 refine ⟨_,get_bang (by rw [s]; exact hi),?_⟩
 have:=List.all_eq_true.1 b i (List.mem_range.2 hi)
 simp only [Bool.and_eq_true,beq_iff_eq] at this
 exact ⟨this.1,by rw [this.2]; exact u3,by rw [this.2]; exact c3⟩
theorem c81:Tryd.prog.cellsOf 81=7:=by kernel_rfl
theorem c29:Tryd.prog.cellsOf 29=7:=by kernel_rfl
theorem c24:Tryd.prog.cellsOf 24=3:=by kernel_rfl
theorem c22:Tryd.prog.cellsOf 22=1:=by kernel_rfl
theorem c25:Tryd.prog.cellsOf 25=1:=by kernel_rfl
theorem c26:Tryd.prog.cellsOf 26=1:=by kernel_rfl
theorem c27:Tryd.prog.cellsOf 27=1:=by kernel_rfl
variable {H:Type}{enc:TypeId×Value→H}{w:World}{spare:Nat→Bool}{held:Bool}{r:Reach}{b0:Nat}{v:Value}{d:DataW H}{ps:List MemPlace}
end Go.Proofs.YtafhljljfglfeaaDoor
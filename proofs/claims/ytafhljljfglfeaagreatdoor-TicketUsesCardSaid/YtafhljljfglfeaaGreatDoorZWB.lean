/- What the functions of the program compute, and that they do, printed by a program of mine. -/
import Derived.Test.YtafhljljfglfeaaGreatDoorZWA
import Derived.KernelRfl
set_option linter.unusedVariables false
set_option linter.unusedSimpArgs false
namespace Go.Proofs.YtafhljljfglfeaaGreatDoor
open Go Go.Fx Go.Proofs
set_option maxRecDepth 100000 in
theorem B_OwnTicket_ok {a0:TicketBook}{A1:Option Addr}{c2:Nat}{A4:Option Addr}{c5:Nat}{A7:Option Addr}{c8:Nat}{A10:Option Addr}{c11:Nat}{w:World}{r:TicketBook} (H:B_OwnTicket a0=some r) (h3:(rd eTallyCount 7 A1 c2 a0.Tally.Counts).ok w) (h6:(rd eTicketSeason 2 A4 c5 a0.Tickets).ok w) (h9:(rd eTicketShow 3 A7 c8 a0.Shows).ok w) (h12:(rd eTicketBox 4 A10 c11 a0.Boxes).ok w):Calls Tryz.prog 6 #[AG (vB a0 A1 c2 A4 c5 A7 c8 A10 c11)] w fun en w_=>∃ u_,en=.returned u_∧∃ A_1:Option Addr,∃ c_2:Nat,∃ A_3:Option Addr,∃ c_4:Nat,∃ A_5:Option Addr,∃ c_6:Nat,∃ A_7:Option Addr,∃ c_8:Nat,u_=AG (vB r A_1 c_2 A_3 c_4 A_5 c_6 A_7 c_8)∧Keep0 w w_∧((rd eTallyCount 7 A_1 c_2 r.Tally.Counts).ok w_∧New w.heap.size (rd eTallyCount 7 A_1 c_2 r.Tally.Counts))∧((rd eTicketSeason 2 A_3 c_4 r.Tickets).ok w_∧New w.heap.size (rd eTicketSeason 2 A_3 c_4 r.Tickets))∧((rd eTicketShow 3 A_5 c_6 r.Shows).ok w_∧New w.heap.size (rd eTicketShow 3 A_5 c_6 r.Shows))∧((rd eTicketBox 4 A_7 c_8 r.Boxes).ok w_∧New w.heap.size (rd eTicketBox 4 A_7 c_8 r.Boxes))∧True:=by
 unfold B_OwnTicket at H
 refine fn_of (n:=20) Tryz.func6 rfl rfl (lE rfl) ?_
 have S:=St.start w nF _ (cA h3 (cA h6 (cA h9 (cA h12 nM))))
 refine c_seq<|reg<|p_boxA rfl S fun b13 w14 S15=>p_allA in29 S15 fun b16 w17 S18=>wp_nil<|c_seq ?_
 refine reg_c mixed 13 [2,5,8,11] (by kernel_rfl) ?_
 refine kS rfl (fun _ k_=>p_fld fl29_0 rfl dn)<|kS rfl (fun _ k_=>p_ldP (vs:=[I a0.Tally.Trips,I a0.Tally.Room,SL A1 a0.Tally.Counts.length c2]) ty24 sz24 (aS (S18.atX (i:=1) rfl) k_) rfl rfl rfl dn)<|kC rfl<|kS rfl (fun _ k_=>p_fld fl29_2 rfl dn)<|kS rfl (fun _ k_=>p_ld ty25 (aS (S18.atX (i:=1) rfl) k_) rfl rfl dn)<|kC rfl<|kS rfl (fun _ k_=>p_fld fl29_3 rfl dn) ?_
 refine kS rfl (fun _ k_=>p_ld ty26 (aS (S18.atX (i:=1) rfl) k_) rfl rfl dn)<|kC rfl<|kS rfl (fun _ k_=>p_fld fl29_4 rfl dn)<|kS rfl (fun _ k_=>p_ld ty27 (aS (S18.atX (i:=1) rfl) k_) rfl rfl dn)<|kC rfl<|kS rfl (fun _ k_=>p_fld fl29_0 rfl dn) ?_
 intro w19 k20; have S21:=S18.call k20
 obtain ⟨r22,h23,H⟩:=bindS H
 refine p_cal (B_OwnTally_ok h23 (S21.atP (i:=0) rfl)) fu12 rfl ?_
 rintro _ w24 ⟨A26,c27,rfl,k25,⟨o28,n29⟩,_⟩
 have S30:=S21.callN k25 [rd eTallyCount 7 A26 c27 r22.Counts] (cA ⟨o28,New.inL n29⟩ nM)
 refine cN k25 fun w31 k32=>?_
 have S33:=S30.call k32
 obtain ⟨r34,h35,H⟩:=bindS H
 refine p_cal (B_OwnTickets_ok h35 (S33.atP (i:=2) rfl)) fu13 rfl ?_
 rintro _ w36 ⟨A38,c39,rfl,k37,⟨o40,n41⟩,_⟩
 have S42:=S33.callN k37 [rd eTicketSeason 2 A38 c39 r34] (cA ⟨o40,New.inL n41⟩ nM)
 refine cN k37 fun w43 k44=>?_
 have S45:=S42.call k44
 obtain ⟨r46,h47,H⟩:=bindS H
 refine p_cal (B_OwnShows_ok h47 (S45.atP (i:=4) rfl)) fu14 rfl ?_
 rintro _ w48 ⟨A50,c51,rfl,k49,⟨o52,n53⟩,_⟩
 have S54:=S45.callN k49 [rd eTicketShow 3 A50 c51 r46] (cA ⟨o52,New.inL n53⟩ nM)
 refine cN k49 fun w55 k56=>?_
 have S57:=S54.call k56
 obtain ⟨r58,h59,H⟩:=bindS H
 refine p_cal (B_OwnBoxes_ok h59 (S57.atP (i:=6) rfl)) fu15 rfl ?_
 rintro _ w60 ⟨A62,c63,rfl,k61,⟨o64,n65⟩,_⟩
 have S66:=S57.callN k61 [rd eTicketBox 4 A62 c63 r58] (cA ⟨o64,New.inL n65⟩ nM)
 refine cN k61 fun w67 k68=>?_
 have S69:=S66.call k68
 refine p_stP (pre:=[]) (old:=[I a0.Tally.Trips,I a0.Tally.Room,SL A1 a0.Tally.Counts.length c2]) (post:=[I a0.Fare,SL A4 a0.Tickets.length c5,SL A7 a0.Shows.length c8,SL A10 a0.Boxes.length c11]) (vs:=[I r22.Trips,I r22.Room,SL A26 r22.Counts.length c27]) sz24 S69 (i:=1) rfl rfl rfl rfl (rfl:_=AG [I r22.Trips,I r22.Room,SL A26 r22.Counts.length c27]) rfl rfl rfl rfl fun w70 S71=>?_
 refine p_fld fl29_2 rfl<|p_stP (pre:=[I r22.Trips,I r22.Room,SL A26 r22.Counts.length c27,I a0.Fare]) (old:=[SL A4 a0.Tickets.length c5]) (post:=[SL A7 a0.Shows.length c8,SL A10 a0.Boxes.length c11]) (vs:=[SL A38 r34.length c39]) sz25 S71 (i:=1) rfl rfl rfl rfl (rfl:_=SL A38 r34.length c39) rfl rfl rfl rfl fun w72 S73=>p_fld fl29_3 rfl ?_
 refine p_stP (pre:=[I r22.Trips,I r22.Room,SL A26 r22.Counts.length c27,I a0.Fare,SL A38 r34.length c39]) (old:=[SL A7 a0.Shows.length c8]) (post:=[SL A10 a0.Boxes.length c11]) (vs:=[SL A50 r46.length c51]) sz26 S73 (i:=1) rfl rfl rfl rfl (rfl:_=SL A50 r46.length c51) rfl rfl rfl rfl fun w74 S75=>p_fld fl29_4 rfl ?_
 refine p_stP (pre:=[I r22.Trips,I r22.Room,SL A26 r22.Counts.length c27,I a0.Fare,SL A38 r34.length c39,SL A50 r46.length c51]) (old:=[SL A10 a0.Boxes.length c11]) (post:=[]) (vs:=[SL A62 r58.length c63]) sz27 S75 (i:=1) rfl rfl rfl rfl (rfl:_=SL A62 r58.length c63) rfl rfl rfl rfl fun w76 S77=>wp_nil<|c_seq<|reg<|p_ldA ty29 sz29 (S77.atX (i:=1) rfl) rfl rfl ?_
 refine p_stP (pre:=[]) (old:=[I 0,I 0,SL none 0 0,I 0,SL none 0 0,SL none 0 0,SL none 0 0]) (post:=[]) (vs:=[I r22.Trips,I r22.Room,SL A26 r22.Counts.length c27,I a0.Fare,SL A38 r34.length c39,SL A50 r46.length c51,SL A62 r58.length c63]) sz29 S77 (i:=0) rfl rfl rfl rfl (rfl:_=AG [I r22.Trips,I r22.Room,SL A26 r22.Counts.length c27,I a0.Fare,SL A38 r34.length c39,SL A50 r46.length c51,SL A62 r58.length c63]) rfl rfl rfl rfl fun w78 S79=>?_
 refine wp_nil ?_
 obtain rfl:=sJ H
 refine c_ret ?_; show bodyPostM (Fr none) 0 Tryz.prog Tryz.f6 _ .ret _ _
 refine ret_of (res1 rfl (rvA rfl ty29 sz29 (S79.atX (i:=0) rfl) rfl)) ?_
 exact ⟨_,rfl,A26,c27,A38,c39,A50,c51,A62,c63,rfl,S79.keep,⟨(S79.atP (i:=3) rfl),(New.mono n29 S21.keep.size)⟩,⟨(S79.atP (i:=2) rfl),(New.mono n41 S33.keep.size)⟩,⟨(S79.atP (i:=1) rfl),(New.mono n53 S45.keep.size)⟩,⟨(S79.atP (i:=0) rfl),(New.mono n65 S57.keep.size)⟩,trivial⟩
def ticket_isTrip (a0:TicketBook) (a1:Int):Option Bool:=
 (ticket_within a1 0 (wr (a0.Tally.Trips - 1))).bind fun r16=>
 some r16
set_option maxRecDepth 100000 in
theorem ticket_isTrip_ok {a0:TicketBook}{a1:Int}{A1:Option Addr}{c2:Nat}{A4:Option Addr}{c5:Nat}{A7:Option Addr}{c8:Nat}{A10:Option Addr}{c11:Nat}{w:World}{r:Bool} (H:ticket_isTrip a0 a1=some r) (h3:(rd eTallyCount 7 A1 c2 a0.Tally.Counts).ok w) (h6:(rd eTicketSeason 2 A4 c5 a0.Tickets).ok w) (h9:(rd eTicketShow 3 A7 c8 a0.Shows).ok w) (h12:(rd eTicketBox 4 A10 c11 a0.Boxes).ok w):Calls Tryz.prog 53 #[AG (vB a0 A1 c2 A4 c5 A7 c8 A10 c11),I a1] w (RetV w (B r)):=by
 unfold ticket_isTrip at H
 refine fn_of (n:=11) Tryz.func53 rfl rfl (lE rfl) ?_
 have S:=St.start w nF _ (cA h3 (cA h6 (cA h9 (cA h12 nM))))
 refine c_seq<|reg<|p_boxA rfl S fun b13 w14 S15=>p_aB rfl<|wp_nil<|c_seq<|reg<|p_mI rfl<|p_fld fl29_0 rfl<|p_fld fl24_0 rfl<|p_ld ty3 (S15.atX (i:=0) rfl) rfl rfl<|p_sub rfl rfl ?_
 obtain ⟨r16,h17,H⟩:=bindS H
 refine p_cv (ticket_within_ok h17) fu52 rfl S15 fun w18 S19=>p_aB rfl<|wp_nil ?_
 obtain rfl:=sJ H
 exact c_ret (rT Tryz.f53 S19.keep rfl rfl)
def ticket_isTicket (a0:TicketBook) (a1:Int):Option Bool:=
 (ticket_within a1 0 (wr ((a0.Tickets.length:Int) - 1))).bind fun r16=>
 some r16
set_option maxRecDepth 100000 in
theorem ticket_isTicket_ok {a0:TicketBook}{a1:Int}{A1:Option Addr}{c2:Nat}{A4:Option Addr}{c5:Nat}{A7:Option Addr}{c8:Nat}{A10:Option Addr}{c11:Nat}{w:World}{r:Bool} (H:ticket_isTicket a0 a1=some r) (h3:(rd eTallyCount 7 A1 c2 a0.Tally.Counts).ok w) (h6:(rd eTicketSeason 2 A4 c5 a0.Tickets).ok w) (h9:(rd eTicketShow 3 A7 c8 a0.Shows).ok w) (h12:(rd eTicketBox 4 A10 c11 a0.Boxes).ok w):Calls Tryz.prog 54 #[AG (vB a0 A1 c2 A4 c5 A7 c8 A10 c11),I a1] w (RetV w (B r)):=by
 unfold ticket_isTicket at H
 refine fn_of (n:=11) Tryz.func54 rfl rfl (lE rfl) ?_
 have S:=St.start w nF _ (cA h3 (cA h6 (cA h9 (cA h12 nM))))
 refine c_seq<|reg<|p_boxA rfl S fun b13 w14 S15=>p_aB rfl<|wp_nil<|c_seq<|reg<|p_mI rfl<|p_fld fl29_2 rfl<|p_ld ty25 (S15.atX (i:=0) rfl) rfl rfl<|p_len rfl sc25<|p_sub rfl rfl ?_
 obtain ⟨r16,h17,H⟩:=bindS H
 refine p_cv (ticket_within_ok h17) fu52 rfl S15 fun w18 S19=>p_aB rfl<|wp_nil ?_
 obtain rfl:=sJ H
 exact c_ret (rT Tryz.f54 S19.keep rfl rfl)
def ticket_isBox (a0:TicketBook) (a1:TicketBox):Option Bool:=
 (ticket_isTrip a0 a1.From).bind fun r19=>
 bif r19 then ((ticket_isTrip a0 a1.To).bind fun r24=>
 bif r24 then (bif decide (a1.From≤a1.To) then ((ticket_within a1.Pence 0 400).bind fun r30=>
 bif r30 then ((ticket_within a1.Lost 0 40).bind fun r35=>
 some r35)
 else (some false))
 else (some false))
 else (some false))
 else (some false)
set_option maxRecDepth 100000 in
theorem ticket_isBox_ok {a0:TicketBook}{a1:TicketBox}{A1:Option Addr}{c2:Nat}{A4:Option Addr}{c5:Nat}{A7:Option Addr}{c8:Nat}{A10:Option Addr}{c11:Nat}{w:World}{r:Bool} (H:ticket_isBox a0 a1=some r) (h3:(rd eTallyCount 7 A1 c2 a0.Tally.Counts).ok w) (h6:(rd eTicketSeason 2 A4 c5 a0.Tickets).ok w) (h9:(rd eTicketShow 3 A7 c8 a0.Shows).ok w) (h12:(rd eTicketBox 4 A10 c11 a0.Boxes).ok w):Calls Tryz.prog 55 #[AG (vB a0 A1 c2 A4 c5 A7 c8 A10 c11),AG [I a1.From,I a1.To,I a1.Pence,I a1.Lost]] w (RetV w (B r)):=by
 unfold ticket_isBox at H
 refine fn_of (n:=32) Tryz.func55 rfl rfl (lE rfl) ?_
 have S:=St.start w nF _ (cA h3 (cA h6 (cA h9 (cA h12 nM))))
 refine c_seq<|reg<|p_boxA rfl S fun b13 w14 S15=>p_boxA rfl S15 fun b16 w17 S18=>p_aB rfl<|wp_nil<|c_seq<|reg<|p_ldA ty29 sz29 (S18.atX (i:=1) rfl) rfl rfl<|p_fld fl39_0 rfl<|p_ld ty3 (S18.atX (i:=0) rfl) rfl rfl ?_
 obtain ⟨r19,h20,H⟩:=bindS H
 refine p_cv (ticket_isTrip_ok h20 (S18.atP (i:=0) rfl) (S18.atP (i:=1) rfl) (S18.atP (i:=2) rfl) (S18.atP (i:=3) rfl)) fu53 rfl S18 fun w21 S22=>p_mB rfl ?_
 rcases bE (r19) with c23 | c23
 ·replace H:=condT c23 H
  refine eB c23 ?_
  refine gT rfl rfl (p_ldA ty29 sz29 (S22.atX (i:=1) rfl) rfl rfl ?_)
  refine gT rfl rfl (p_fld fl39_1 rfl ?_)
  refine gT rfl rfl (p_ld ty3 (S22.atX (i:=0) rfl) rfl rfl ?_)
  obtain ⟨r24,h25,H⟩:=bindS H
  refine gT rfl rfl (p_cv (ticket_isTrip_ok h25 (S22.atP (i:=0) rfl) (S22.atP (i:=1) rfl) (S22.atP (i:=2) rfl) (S22.atP (i:=3) rfl)) fu53 rfl S22 fun w26 S27=>?_)
  refine p_pkT rfl (rfl:_=B r24)<|p_mB rfl ?_
  rcases bE (r24) with c28 | c28
  ·replace H:=condT c28 H
   refine eB c28 ?_
   refine gT rfl rfl (p_fld fl39_0 rfl ?_)
   refine gT rfl rfl (p_ld ty3 (S27.atX (i:=0) rfl) rfl rfl ?_)
   refine gT rfl rfl (p_fld fl39_1 rfl ?_)
   refine gT rfl rfl (p_ld ty3 (S27.atX (i:=0) rfl) rfl rfl ?_)
   refine gT rfl rfl (p_cmp rfl rfl rfl ?_)
   refine p_pkT rfl (rfl:_=B (decide (a1.From≤a1.To)))<|p_mB rfl ?_
   rcases bE (decide (a1.From≤a1.To)) with c29 | c29
   ·replace H:=condT c29 H
    refine eB c29 ?_
    refine gT rfl rfl (p_fld fl39_2 rfl ?_)
    refine gT rfl rfl (p_ld ty3 (S27.atX (i:=0) rfl) rfl rfl ?_)
    obtain ⟨r30,h31,H⟩:=bindS H
    refine gT rfl rfl (p_cv (ticket_within_ok h31) fu52 rfl S27 fun w32 S33=>?_)
    refine p_pkT rfl (rfl:_=B r30)<|p_mB rfl ?_
    rcases bE (r30) with c34 | c34
    ·replace H:=condT c34 H
     refine eB c34 ?_
     refine gT rfl rfl (p_fld fl39_3 rfl ?_)
     refine gT rfl rfl (p_ld ty3 (S33.atX (i:=0) rfl) rfl rfl ?_)
     obtain ⟨r35,h36,H⟩:=bindS H
     refine gT rfl rfl (p_cv (ticket_within_ok h36) fu52 rfl S33 fun w37 S38=>?_)
     refine p_pkT rfl (rfl:_=B r35)<|p_aB rfl<|wp_nil ?_
     obtain rfl:=sJ H
     exact c_ret (rT Tryz.f55 S38.keep rfl rfl)
    ·replace H:=condF c34 H
     refine eB c34<|gF rfl rfl<|gF rfl rfl<|gF rfl rfl<|p_pkF rfl (rfl:_=B false)<|p_aB rfl<|wp_nil ?_
     obtain rfl:=sJ H
     exact c_ret (rT Tryz.f55 S33.keep rfl rfl)
   ·replace H:=condF c29 H
    refine eB c29<|gF rfl rfl<|gF rfl rfl<|gF rfl rfl<|p_pkF rfl (rfl:_=B false)<|p_mB rfl<|gF rfl rfl<|gF rfl rfl<|gF rfl rfl<|p_pkF rfl (rfl:_=B false)<|p_aB rfl<|wp_nil ?_
    obtain rfl:=sJ H
    exact c_ret (rT Tryz.f55 S27.keep rfl rfl)
  ·replace H:=condF c28 H
   refine eB c28<|gF rfl rfl<|gF rfl rfl<|gF rfl rfl<|gF rfl rfl<|gF rfl rfl<|p_pkF rfl (rfl:_=B false)<|p_mB rfl<|gF rfl rfl<|gF rfl rfl<|gF rfl rfl<|p_pkF rfl (rfl:_=B false)<|p_mB rfl<|gF rfl rfl<|gF rfl rfl<|gF rfl rfl<|p_pkF rfl (rfl:_=B false)<|p_aB rfl<|wp_nil ?_
   obtain rfl:=sJ H
   exact c_ret (rT Tryz.f55 S27.keep rfl rfl)
 ·replace H:=condF c23 H
  refine eB c23<|gF rfl rfl<|gF rfl rfl<|gF rfl rfl<|gF rfl rfl<|p_pkF rfl (rfl:_=B false)<|p_mB rfl<|gF rfl rfl<|gF rfl rfl<|gF rfl rfl<|gF rfl rfl<|gF rfl rfl<|p_pkF rfl (rfl:_=B false)<|p_mB rfl<|gF rfl rfl<|gF rfl rfl<|gF rfl rfl<|p_pkF rfl (rfl:_=B false)<|p_mB rfl<|gF rfl rfl<|gF rfl rfl<|gF rfl rfl<|p_pkF rfl (rfl:_=B false)<|p_aB rfl<|wp_nil ?_
  obtain rfl:=sJ H
  exact c_ret (rT Tryz.f55 S22.keep rfl rfl)
def ticket_Check_l4 (a0:TicketBook) (rec_z_4:(Bool×Int)→Option Int) (z_4:Bool×Int):Option Int:=
 bif decide (z_4.2 < (a0.Boxes.length:Int)) then ((getI a0.Boxes z_4.2).bind fun r82=>
 bif z_4.1 then ((ticket_isBox a0 r82).bind fun r90=>
 rec_z_4 (r90,wr (z_4.2+1)))
 else (rec_z_4 (false,wr (z_4.2+1))))
 else (bif !z_4.1 then (some 100)
 else (some 0))
def ticket_Check_l5 (a0:TicketBook) (rec_z_3:(Bool×Int)→Option Int) (z_3:Bool×Int):Option Int:=
 bif decide (z_3.2 < (a0.Shows.length:Int)) then ((getI a0.Shows z_3.2).bind fun r51=>
 bif z_3.1 then ((ticket_isTrip a0 r51.Trip).bind fun r59=>
 bif r59 then ((ticket_isTicket a0 r51.Ticket).bind fun r64=>
 bif r64 then ((ticket_within r51.Walker 0 9).bind fun r69=>
 rec_z_3 (r69,wr (z_3.2+1)))
 else (rec_z_3 (false,wr (z_3.2+1))))
 else (rec_z_3 (false,wr (z_3.2+1))))
 else (rec_z_3 (false,wr (z_3.2+1))))
 else (loopF (ticket_Check_l4 a0) big (z_3.1,0))
def ticket_Check_l6 (a0:TicketBook) (rec_z_2:(Bool×Int)→Option Int) (z_2:Bool×Int):Option Int:=
 bif decide (z_2.2 < (a0.Tickets.length:Int)) then ((getI a0.Tickets z_2.2).bind fun r24=>
 bif z_2.1 then ((ticket_isTrip a0 r24.From).bind fun r32=>
 bif r32 then ((ticket_isTrip a0 r24.To).bind fun r37=>
 bif r37 then (rec_z_2 (decide (r24.From≤r24.To),wr (z_2.2+1)))
 else (rec_z_2 (false,wr (z_2.2+1))))
 else (rec_z_2 (false,wr (z_2.2+1))))
 else (rec_z_2 (false,wr (z_2.2+1))))
 else (loopF (ticket_Check_l5 a0) big (z_2.1,0))
def ticket_Check_j7 (a0:TicketBook) (z_1:Bool):Option Int:=
 loopF (ticket_Check_l6 a0) big (z_1,0)
def ticket_Check (a0:TicketBook):Option Int:=
 (tally_Check a0.Tally).bind fun r16=>
 bif (r16==0) then (bif decide (a0.Tally.Trips≤3) then (bif decide (a0.Tally.Room≤5) then ((ticket_within a0.Fare 1 20).bind fun r23=>
 bif r23 then (bif decide ((a0.Tickets.length:Int)≤3) then (bif decide ((a0.Shows.length:Int)≤5) then (ticket_Check_j7 a0 (decide ((a0.Boxes.length:Int)≤3)))
 else (ticket_Check_j7 a0 false))
 else (ticket_Check_j7 a0 false))
 else (ticket_Check_j7 a0 false))
 else (ticket_Check_j7 a0 false))
 else (ticket_Check_j7 a0 false))
 else (ticket_Check_j7 a0 false)
set_option maxRecDepth 100000 in
theorem ticket_Check_ok {a0:TicketBook}{A1:Option Addr}{c2:Nat}{A4:Option Addr}{c5:Nat}{A7:Option Addr}{c8:Nat}{A10:Option Addr}{c11:Nat}{w:World}{r:Int} (H:ticket_Check a0=some r) (h3:(rd eTallyCount 7 A1 c2 a0.Tally.Counts).ok w) (h6:(rd eTicketSeason 2 A4 c5 a0.Tickets).ok w) (h9:(rd eTicketShow 3 A7 c8 a0.Shows).ok w) (h12:(rd eTicketBox 4 A10 c11 a0.Boxes).ok w):Calls Tryz.prog 18 #[AG (vB a0 A1 c2 A4 c5 A7 c8 A10 c11)] w (RetV w (I r)):=by
 unfold ticket_Check at H
 refine fn_of (n:=119) Tryz.func18 rfl rfl (lE rfl) ?_
 have S:=St.start w nF _ (cA h3 (cA h6 (cA h9 (cA h12 nM))))
 refine c_seq<|reg<|p_boxA rfl S fun b13 w14 S15=>p_aI rfl<|wp_nil ?_
 refine c_join (α:=Bool) (β:=Unit) (fun z_1 y_1=>[(1,P b13 0),(3,B z_1)]) (fun z_1 y_1 w_=>ticket_Check_j7 a0 z_1=some r∧St w nF w_ [bl b13 (vB a0 A1 c2 A4 c5 A7 c8 A10 c11) 29] [rd eTallyCount 7 A1 c2 a0.Tally.Counts,rd eTicketSeason 2 A4 c5 a0.Tickets,rd eTicketShow 3 A7 c8 a0.Shows,rd eTicketBox 4 A10 c11 a0.Boxes]) ?_ ?_
 ·refine reg<|p_fld fl29_0 rfl<|p_ldP (vs:=[I a0.Tally.Trips,I a0.Tally.Room,SL A1 a0.Tally.Counts.length c2]) ty24 sz24 (S15.atX (i:=0) rfl) rfl rfl rfl ?_
  obtain ⟨r16,h17,H⟩:=bindS H
  refine p_cv (tally_Check_ok h17 (S15.atP (i:=0) rfl)) fu51 rfl S15 fun w18 S19=>p_cmp rfl rfl rfl<|p_mB rfl ?_
  rcases bE ((r16==0)) with c20 | c20
  ·replace H:=condT c20 H
   refine eB c20 ?_
   refine gT rfl rfl (p_fld fl29_0 rfl ?_)
   refine gT rfl rfl (p_fld fl24_0 rfl ?_)
   refine gT rfl rfl (p_ld ty3 (S19.atX (i:=0) rfl) rfl rfl ?_)
   refine gT rfl rfl (p_cmp rfl rfl rfl ?_)
   refine p_pkT rfl (rfl:_=B (decide (a0.Tally.Trips≤3)))<|p_mB rfl ?_
   rcases bE (decide (a0.Tally.Trips≤3)) with c21 | c21
   ·replace H:=condT c21 H
    refine eB c21 ?_
    refine gT rfl rfl (p_fld fl29_0 rfl ?_)
    refine gT rfl rfl (p_fld fl24_1 rfl ?_)
    refine gT rfl rfl (p_ld ty3 (S19.atX (i:=0) rfl) rfl rfl ?_)
    refine gT rfl rfl (p_cmp rfl rfl rfl ?_)
    refine p_pkT rfl (rfl:_=B (decide (a0.Tally.Room≤5)))<|p_mB rfl ?_
    rcases bE (decide (a0.Tally.Room≤5)) with c22 | c22
    ·replace H:=condT c22 H
     refine eB c22 ?_
     refine gT rfl rfl (p_fld fl29_1 rfl ?_)
     refine gT rfl rfl (p_ld ty3 (S19.atX (i:=0) rfl) rfl rfl ?_)
     obtain ⟨r23,h24,H⟩:=bindS H
     refine gT rfl rfl (p_cv (ticket_within_ok h24) fu52 rfl S19 fun w25 S26=>?_)
     refine p_pkT rfl (rfl:_=B r23)<|p_mB rfl ?_
     rcases bE (r23) with c27 | c27
     ·replace H:=condT c27 H
      refine eB c27 ?_
      refine gT rfl rfl (p_fld fl29_2 rfl ?_)
      refine gT rfl rfl (p_ld ty25 (S26.atX (i:=0) rfl) rfl rfl ?_)
      refine gT rfl rfl (p_len rfl sc25 ?_)
      refine gT rfl rfl (p_cmp rfl rfl rfl ?_)
      refine p_pkT rfl (rfl:_=B (decide ((a0.Tickets.length:Int)≤3)))<|p_mB rfl ?_
      rcases bE (decide ((a0.Tickets.length:Int)≤3)) with c28 | c28
      ·replace H:=condT c28 H
       refine eB c28 ?_
       refine gT rfl rfl (p_fld fl29_3 rfl ?_)
       refine gT rfl rfl (p_ld ty26 (S26.atX (i:=0) rfl) rfl rfl ?_)
       refine gT rfl rfl (p_len rfl sc26 ?_)
       refine gT rfl rfl (p_cmp rfl rfl rfl ?_)
       refine p_pkT rfl (rfl:_=B (decide ((a0.Shows.length:Int)≤5)))<|p_mB rfl ?_
       rcases bE (decide ((a0.Shows.length:Int)≤5)) with c29 | c29
       ·replace H:=condT c29 H
        refine eB c29 ?_
        refine gT rfl rfl (p_fld fl29_4 rfl ?_)
        refine gT rfl rfl (p_ld ty27 (S26.atX (i:=0) rfl) rfl rfl ?_)
        refine gT rfl rfl (p_len rfl sc27 ?_)
        refine gT rfl rfl (p_cmp rfl rfl rfl ?_)
        exact p_pkT rfl (rfl:_=B (decide ((a0.Boxes.length:Int)≤3)))<|p_aB rfl<|wp_nil ⟨decide ((a0.Boxes.length:Int)≤3),(),_,rfl,⟨rfl,rfl,trivial⟩,H,S26⟩
       ·replace H:=condF c29 H
        refine eB c29<|gF rfl rfl<|gF rfl rfl<|gF rfl rfl<|gF rfl rfl<|p_pkF rfl (rfl:_=B false)<|p_aB rfl<|wp_nil ?_
        exact ⟨false,(),_,rfl,⟨rfl,rfl,trivial⟩,H,S26⟩
      ·replace H:=condF c28 H
       refine eB c28<|gF rfl rfl<|gF rfl rfl<|gF rfl rfl<|gF rfl rfl<|p_pkF rfl (rfl:_=B false)<|p_mB rfl<|gF rfl rfl<|gF rfl rfl<|gF rfl rfl<|gF rfl rfl<|p_pkF rfl (rfl:_=B false)<|p_aB rfl<|wp_nil ?_
       exact ⟨false,(),_,rfl,⟨rfl,rfl,trivial⟩,H,S26⟩
     ·replace H:=condF c27 H
      refine eB c27<|gF rfl rfl<|gF rfl rfl<|gF rfl rfl<|gF rfl rfl<|p_pkF rfl (rfl:_=B false)<|p_mB rfl<|gF rfl rfl<|gF rfl rfl<|gF rfl rfl<|gF rfl rfl<|p_pkF rfl (rfl:_=B false)<|p_mB rfl<|gF rfl rfl<|gF rfl rfl<|gF rfl rfl<|gF rfl rfl<|p_pkF rfl (rfl:_=B false)<|p_aB rfl<|wp_nil ?_
      exact ⟨false,(),_,rfl,⟨rfl,rfl,trivial⟩,H,S26⟩
    ·replace H:=condF c22 H
     refine eB c22<|gF rfl rfl<|gF rfl rfl<|gF rfl rfl<|p_pkF rfl (rfl:_=B false)<|p_mB rfl<|gF rfl rfl<|gF rfl rfl<|gF rfl rfl<|gF rfl rfl<|p_pkF rfl (rfl:_=B false)<|p_mB rfl<|gF rfl rfl<|gF rfl rfl<|gF rfl rfl<|gF rfl rfl<|p_pkF rfl (rfl:_=B false)<|p_mB rfl<|gF rfl rfl<|gF rfl rfl<|gF rfl rfl<|gF rfl rfl<|p_pkF rfl (rfl:_=B false)<|p_aB rfl<|wp_nil ?_
     exact ⟨false,(),_,rfl,⟨rfl,rfl,trivial⟩,H,S19⟩
   ·replace H:=condF c21 H
    refine eB c21<|gF rfl rfl<|gF rfl rfl<|gF rfl rfl<|gF rfl rfl<|p_pkF rfl (rfl:_=B false)<|p_mB rfl<|gF rfl rfl<|gF rfl rfl<|gF rfl rfl<|p_pkF rfl (rfl:_=B false)<|p_mB rfl<|gF rfl rfl<|gF rfl rfl<|gF rfl rfl<|gF rfl rfl<|p_pkF rfl (rfl:_=B false)<|p_mB rfl<|gF rfl rfl<|gF rfl rfl<|gF rfl rfl<|gF rfl rfl<|p_pkF rfl (rfl:_=B false)<|p_mB rfl<|gF rfl rfl<|gF rfl rfl<|gF rfl rfl<|gF rfl rfl<|p_pkF rfl (rfl:_=B false)<|p_aB rfl<|wp_nil ?_
    exact ⟨false,(),_,rfl,⟨rfl,rfl,trivial⟩,H,S19⟩
  ·replace H:=condF c20 H
   refine eB c20<|gF rfl rfl<|gF rfl rfl<|gF rfl rfl<|gF rfl rfl<|p_pkF rfl (rfl:_=B false)<|p_mB rfl<|gF rfl rfl<|gF rfl rfl<|gF rfl rfl<|gF rfl rfl<|p_pkF rfl (rfl:_=B false)<|p_mB rfl<|gF rfl rfl<|gF rfl rfl<|gF rfl rfl<|p_pkF rfl (rfl:_=B false)<|p_mB rfl<|gF rfl rfl<|gF rfl rfl<|gF rfl rfl<|gF rfl rfl<|p_pkF rfl (rfl:_=B false)<|p_mB rfl<|gF rfl rfl<|gF rfl rfl<|gF rfl rfl<|gF rfl rfl<|p_pkF rfl (rfl:_=B false)<|p_mB rfl<|gF rfl rfl ?_
   exact gF rfl rfl<|gF rfl rfl<|gF rfl rfl<|p_pkF rfl (rfl:_=B false)<|p_aB rfl<|wp_nil ⟨false,(),_,rfl,⟨rfl,rfl,trivial⟩,H,S19⟩
 ·intro z_1 y_1 e16 w17 S18; obtain ⟨H,S18⟩:=S18
  unfold ticket_Check_j7 at H
  refine c_seq<|c_seq<|reg<|p_fld fl29_2 rfl<|p_ld ty25 (S18.atX (i:=0) rfl) rfl rfl<|p_len rfl sc25<|p_mI rfl<|wp_nil<|c_block ?_
  refine c_lop (α:=Bool×Int) (β:=Unit) (ticket_Check_l6 a0) (fun z_2 y_2=>[(1,P b13 0),(3,B z_2.1),(50,SL A4 a0.Tickets.length c5),(51,I (a0.Tickets.length:Int)),(52,I z_2.2)]) (fun z_2 y_2 w_=>St w nF w_ [bl b13 (vB a0 A1 c2 A4 c5 A7 c8 A10 c11) 29] [rd eTallyCount 7 A1 c2 a0.Tally.Counts,rd eTicketSeason 2 A4 c5 a0.Tickets,rd eTicketShow 3 A7 c8 a0.Shows,rd eTicketBox 4 A10 c11 a0.Boxes]) (z_1,0) () H ⟨rfl,rfl,rfl,rfl,rfl,trivial⟩ S18 ?_
  intro m19 z_2 y_2 e20 w21 H S22
  unfold ticket_Check_l6 at H
  refine c_seq<|reg<|p_cmp rfl rfl rfl<|wp_nil<|c_seq ?_
  refine c_cond rfl (fun c23=>?_) (fun c23=>?_)
  ·replace H:=condT c23 H
   refine c_skip<|c_seq<|c_block<|c_seq<|reg ?_
   obtain ⟨r24,h25,H⟩:=bindS H
   refine p_ixE sc25 h25 (S22.atP (i:=1) rfl).1 rfl rfl rfl<|p_ldEA ty84 sz84 rfl h25 (S22.atP (i:=1) rfl).1 rfl<|p_allA in84 S22 fun b26 w27 S28=>p_stP (pre:=[]) (old:=[I 0,I 0]) (post:=[]) (vs:=[I r24.From,I r24.To]) sz84 S28 (i:=0) rfl rfl rfl rfl (rfl:_=AG [I r24.From,I r24.To]) rfl rfl rfl rfl fun w29 S30=>wp_nil<|reg<|p_mB rfl<|p_mB rfl ?_
   rcases bE (z_2.1) with c31 | c31
   ·replace H:=condT c31 H
    refine eB c31 ?_
    refine gT rfl rfl (p_ldA ty29 sz29 (S30.atX (i:=1) rfl) rfl rfl ?_)
    refine gT rfl rfl (p_fld fl84_0 rfl ?_)
    refine gT rfl rfl (p_ld ty3 (S30.atX (i:=0) rfl) rfl rfl ?_)
    obtain ⟨r32,h33,H⟩:=bindS H
    refine gT rfl rfl (p_cv (ticket_isTrip_ok h33 (S30.atP (i:=0) rfl) (S30.atP (i:=1) rfl) (S30.atP (i:=2) rfl) (S30.atP (i:=3) rfl)) fu53 rfl S30 fun w34 S35=>?_)
    refine p_pkT rfl (rfl:_=B r32)<|p_mB rfl ?_
    rcases bE (r32) with c36 | c36
    ·replace H:=condT c36 H
     refine eB c36 ?_
     refine gT rfl rfl (p_ldA ty29 sz29 (S35.atX (i:=1) rfl) rfl rfl ?_)
     refine gT rfl rfl (p_fld fl84_1 rfl ?_)
     refine gT rfl rfl (p_ld ty3 (S35.atX (i:=0) rfl) rfl rfl ?_)
     obtain ⟨r37,h38,H⟩:=bindS H
     refine gT rfl rfl (p_cv (ticket_isTrip_ok h38 (S35.atP (i:=0) rfl) (S35.atP (i:=1) rfl) (S35.atP (i:=2) rfl) (S35.atP (i:=3) rfl)) fu53 rfl S35 fun w39 S40=>?_)
     refine p_pkT rfl (rfl:_=B r37)<|p_mB rfl ?_
     rcases bE (r37) with c41 | c41
     ·replace H:=condT c41 H
      refine eB c41 ?_
      refine gT rfl rfl (p_fld fl84_0 rfl ?_)
      refine gT rfl rfl (p_ld ty3 (S40.atX (i:=0) rfl) rfl rfl ?_)
      refine gT rfl rfl (p_fld fl84_1 rfl ?_)
      refine gT rfl rfl (p_ld ty3 (S40.atX (i:=0) rfl) rfl rfl ?_)
      refine gT rfl rfl (p_cmp rfl rfl rfl ?_)
      refine p_pkT rfl (rfl:_=B (decide (r24.From≤r24.To)))<|p_aB rfl<|wp_nil<|reg<|p_add rfl rfl<|p_mI rfl<|wp_nil ?_
      have S42:=S40.pk [1] (by decide) [0,1,2,3] rfl rfl
      exact ⟨(decide (r24.From≤r24.To),wr (z_2.2+1)),(),_,rfl,⟨rfl,rfl,rfl,rfl,rfl,trivial⟩,H,S42⟩
     ·replace H:=condF c41 H
      refine eB c41<|gF rfl rfl<|gF rfl rfl<|gF rfl rfl<|gF rfl rfl<|gF rfl rfl<|p_pkF rfl (rfl:_=B false)<|p_aB rfl<|wp_nil<|reg<|p_add rfl rfl<|p_mI rfl<|wp_nil ?_
      have S43:=S40.pk [1] (by decide) [0,1,2,3] rfl rfl
      exact ⟨(false,wr (z_2.2+1)),(),_,rfl,⟨rfl,rfl,rfl,rfl,rfl,trivial⟩,H,S43⟩
    ·replace H:=condF c36 H
     refine eB c36<|gF rfl rfl<|gF rfl rfl<|gF rfl rfl<|gF rfl rfl<|p_pkF rfl (rfl:_=B false)<|p_mB rfl<|gF rfl rfl<|gF rfl rfl<|gF rfl rfl<|gF rfl rfl<|gF rfl rfl<|p_pkF rfl (rfl:_=B false)<|p_aB rfl<|wp_nil<|reg<|p_add rfl rfl<|p_mI rfl<|wp_nil ?_
     have S44:=S35.pk [1] (by decide) [0,1,2,3] rfl rfl
     exact ⟨(false,wr (z_2.2+1)),(),_,rfl,⟨rfl,rfl,rfl,rfl,rfl,trivial⟩,H,S44⟩
   ·replace H:=condF c31 H
    refine eB c31<|gF rfl rfl<|gF rfl rfl<|gF rfl rfl<|gF rfl rfl<|p_pkF rfl (rfl:_=B false)<|p_mB rfl<|gF rfl rfl<|gF rfl rfl<|gF rfl rfl<|gF rfl rfl<|p_pkF rfl (rfl:_=B false)<|p_mB rfl<|gF rfl rfl<|gF rfl rfl<|gF rfl rfl<|gF rfl rfl<|gF rfl rfl<|p_pkF rfl (rfl:_=B false)<|p_aB rfl<|wp_nil<|reg<|p_add rfl rfl<|p_mI rfl<|wp_nil ?_
    have S45:=S30.pk [1] (by decide) [0,1,2,3] rfl rfl
    exact ⟨(false,wr (z_2.2+1)),(),_,rfl,⟨rfl,rfl,rfl,rfl,rfl,trivial⟩,H,S45⟩
  ·replace H:=condF c23 H
   refine c_exit<|c_seq<|c_seq<|reg<|p_fld fl29_3 rfl<|p_ld ty26 (S22.atX (i:=0) rfl) rfl rfl<|p_len rfl sc26<|p_mI rfl<|wp_nil<|c_block ?_
   refine c_lop (α:=Bool×Int) (β:=Unit) (ticket_Check_l5 a0) (fun z_3 y_3=>[(1,P b13 0),(3,B z_3.1),(78,SL A7 a0.Shows.length c8),(79,I (a0.Shows.length:Int)),(80,I z_3.2)]) (fun z_3 y_3 w_=>St w nF w_ [bl b13 (vB a0 A1 c2 A4 c5 A7 c8 A10 c11) 29] [rd eTallyCount 7 A1 c2 a0.Tally.Counts,rd eTicketSeason 2 A4 c5 a0.Tickets,rd eTicketShow 3 A7 c8 a0.Shows,rd eTicketBox 4 A10 c11 a0.Boxes]) (z_2.1,0) () H ⟨rfl,rfl,rfl,rfl,rfl,trivial⟩ S22 ?_
   intro m46 z_3 y_3 e47 w48 H S49
   unfold ticket_Check_l5 at H
   refine c_seq<|reg<|p_cmp rfl rfl rfl<|wp_nil<|c_seq ?_
   refine c_cond rfl (fun c50=>?_) (fun c50=>?_)
   ·replace H:=condT c50 H
    refine c_skip<|c_seq<|c_block<|c_seq<|reg ?_
    obtain ⟨r51,h52,H⟩:=bindS H
    refine p_ixE sc26 h52 (S49.atP (i:=2) rfl).1 rfl rfl rfl<|p_ldEA ty86 sz86 rfl h52 (S49.atP (i:=2) rfl).1 rfl<|p_allA in86 S49 fun b53 w54 S55=>p_stP (pre:=[]) (old:=[I 0,I 0,I 0]) (post:=[]) (vs:=[I r51.Trip,I r51.Ticket,I r51.Walker]) sz86 S55 (i:=0) rfl rfl rfl rfl (rfl:_=AG [I r51.Trip,I r51.Ticket,I r51.Walker]) rfl rfl rfl rfl fun w56 S57=>wp_nil<|reg<|p_mB rfl<|p_mB rfl ?_
    rcases bE (z_3.1) with c58 | c58
    ·replace H:=condT c58 H
     refine eB c58 ?_
     refine gT rfl rfl (p_ldA ty29 sz29 (S57.atX (i:=1) rfl) rfl rfl ?_)
     refine gT rfl rfl (p_fld fl86_0 rfl ?_)
     refine gT rfl rfl (p_ld ty3 (S57.atX (i:=0) rfl) rfl rfl ?_)
     obtain ⟨r59,h60,H⟩:=bindS H
     refine gT rfl rfl (p_cv (ticket_isTrip_ok h60 (S57.atP (i:=0) rfl) (S57.atP (i:=1) rfl) (S57.atP (i:=2) rfl) (S57.atP (i:=3) rfl)) fu53 rfl S57 fun w61 S62=>?_)
     refine p_pkT rfl (rfl:_=B r59)<|p_mB rfl ?_
     rcases bE (r59) with c63 | c63
     ·replace H:=condT c63 H
      refine eB c63 ?_
      refine gT rfl rfl (p_ldA ty29 sz29 (S62.atX (i:=1) rfl) rfl rfl ?_)
      refine gT rfl rfl (p_fld fl86_1 rfl ?_)
      refine gT rfl rfl (p_ld ty3 (S62.atX (i:=0) rfl) rfl rfl ?_)
      obtain ⟨r64,h65,H⟩:=bindS H
      refine gT rfl rfl (p_cv (ticket_isTicket_ok h65 (S62.atP (i:=0) rfl) (S62.atP (i:=1) rfl) (S62.atP (i:=2) rfl) (S62.atP (i:=3) rfl)) fu54 rfl S62 fun w66 S67=>?_)
      refine p_pkT rfl (rfl:_=B r64)<|p_mB rfl ?_
      rcases bE (r64) with c68 | c68
      ·replace H:=condT c68 H
       refine eB c68 ?_
       refine gT rfl rfl (p_fld fl86_2 rfl ?_)
       refine gT rfl rfl (p_ld ty3 (S67.atX (i:=0) rfl) rfl rfl ?_)
       obtain ⟨r69,h70,H⟩:=bindS H
       refine gT rfl rfl (p_cv (ticket_within_ok h70) fu52 rfl S67 fun w71 S72=>?_)
       refine p_pkT rfl (rfl:_=B r69)<|p_aB rfl<|wp_nil<|reg<|p_add rfl rfl<|p_mI rfl<|wp_nil ?_
       have S73:=S72.pk [1] (by decide) [0,1,2,3] rfl rfl
       exact ⟨(r69,wr (z_3.2+1)),(),_,rfl,⟨rfl,rfl,rfl,rfl,rfl,trivial⟩,H,S73⟩
      ·replace H:=condF c68 H
       refine eB c68<|gF rfl rfl<|gF rfl rfl<|gF rfl rfl<|p_pkF rfl (rfl:_=B false)<|p_aB rfl<|wp_nil<|reg<|p_add rfl rfl<|p_mI rfl<|wp_nil ?_
       have S74:=S67.pk [1] (by decide) [0,1,2,3] rfl rfl
       exact ⟨(false,wr (z_3.2+1)),(),_,rfl,⟨rfl,rfl,rfl,rfl,rfl,trivial⟩,H,S74⟩
     ·replace H:=condF c63 H
      refine eB c63<|gF rfl rfl<|gF rfl rfl<|gF rfl rfl<|gF rfl rfl<|p_pkF rfl (rfl:_=B false)<|p_mB rfl<|gF rfl rfl<|gF rfl rfl<|gF rfl rfl<|p_pkF rfl (rfl:_=B false)<|p_aB rfl<|wp_nil<|reg<|p_add rfl rfl<|p_mI rfl<|wp_nil ?_
      have S75:=S62.pk [1] (by decide) [0,1,2,3] rfl rfl
      exact ⟨(false,wr (z_3.2+1)),(),_,rfl,⟨rfl,rfl,rfl,rfl,rfl,trivial⟩,H,S75⟩
    ·replace H:=condF c58 H
     refine eB c58<|gF rfl rfl<|gF rfl rfl<|gF rfl rfl<|gF rfl rfl<|p_pkF rfl (rfl:_=B false)<|p_mB rfl<|gF rfl rfl<|gF rfl rfl<|gF rfl rfl<|gF rfl rfl<|p_pkF rfl (rfl:_=B false)<|p_mB rfl<|gF rfl rfl<|gF rfl rfl<|gF rfl rfl<|p_pkF rfl (rfl:_=B false)<|p_aB rfl<|wp_nil<|reg<|p_add rfl rfl<|p_mI rfl<|wp_nil ?_
     have S76:=S57.pk [1] (by decide) [0,1,2,3] rfl rfl
     exact ⟨(false,wr (z_3.2+1)),(),_,rfl,⟨rfl,rfl,rfl,rfl,rfl,trivial⟩,H,S76⟩
   ·replace H:=condF c50 H
    refine c_exit<|c_seq<|c_seq<|reg<|p_fld fl29_4 rfl<|p_ld ty27 (S49.atX (i:=0) rfl) rfl rfl<|p_len rfl sc27<|p_mI rfl<|wp_nil<|c_block ?_
    refine c_lop (α:=Bool×Int) (β:=Unit) (ticket_Check_l4 a0) (fun z_4 y_4=>[(1,P b13 0),(3,B z_4.1),(104,SL A10 a0.Boxes.length c11),(105,I (a0.Boxes.length:Int)),(106,I z_4.2)]) (fun z_4 y_4 w_=>St w nF w_ [bl b13 (vB a0 A1 c2 A4 c5 A7 c8 A10 c11) 29] [rd eTallyCount 7 A1 c2 a0.Tally.Counts,rd eTicketSeason 2 A4 c5 a0.Tickets,rd eTicketShow 3 A7 c8 a0.Shows,rd eTicketBox 4 A10 c11 a0.Boxes]) (z_3.1,0) () H ⟨rfl,rfl,rfl,rfl,rfl,trivial⟩ S49 ?_
    intro m77 z_4 y_4 e78 w79 H S80
    unfold ticket_Check_l4 at H
    refine c_seq<|reg<|p_cmp rfl rfl rfl<|wp_nil<|c_seq ?_
    refine c_cond rfl (fun c81=>?_) (fun c81=>?_)
    ·replace H:=condT c81 H
     refine c_skip<|c_seq<|c_block<|c_seq<|reg ?_
     obtain ⟨r82,h83,H⟩:=bindS H
     refine p_ixE sc27 h83 (S80.atP (i:=3) rfl).1 rfl rfl rfl<|p_ldEA ty39 sz39 rfl h83 (S80.atP (i:=3) rfl).1 rfl<|p_allA in39 S80 fun b84 w85 S86=>p_stP (pre:=[]) (old:=[I 0,I 0,I 0,I 0]) (post:=[]) (vs:=[I r82.From,I r82.To,I r82.Pence,I r82.Lost]) sz39 S86 (i:=0) rfl rfl rfl rfl (rfl:_=AG [I r82.From,I r82.To,I r82.Pence,I r82.Lost]) rfl rfl rfl rfl fun w87 S88=>wp_nil<|reg<|p_mB rfl ?_
     refine p_mB rfl ?_
     rcases bE (z_4.1) with c89 | c89
     ·replace H:=condT c89 H
      refine eB c89 ?_
      refine gT rfl rfl (p_ldA ty29 sz29 (S88.atX (i:=1) rfl) rfl rfl ?_)
      refine gT rfl rfl (p_ldA ty39 sz39 (S88.atX (i:=0) rfl) rfl rfl ?_)
      obtain ⟨r90,h91,H⟩:=bindS H
      refine gT rfl rfl (p_cv (ticket_isBox_ok h91 (S88.atP (i:=0) rfl) (S88.atP (i:=1) rfl) (S88.atP (i:=2) rfl) (S88.atP (i:=3) rfl)) fu55 rfl S88 fun w92 S93=>?_)
      refine p_pkT rfl (rfl:_=B r90)<|p_aB rfl<|wp_nil<|reg<|p_add rfl rfl<|p_mI rfl<|wp_nil ?_
      have S94:=S93.pk [1] (by decide) [0,1,2,3] rfl rfl
      exact ⟨(r90,wr (z_4.2+1)),(),_,rfl,⟨rfl,rfl,rfl,rfl,rfl,trivial⟩,H,S94⟩
     ·replace H:=condF c89 H
      refine eB c89<|gF rfl rfl<|gF rfl rfl<|gF rfl rfl<|p_pkF rfl (rfl:_=B false)<|p_aB rfl<|wp_nil<|reg<|p_add rfl rfl<|p_mI rfl<|wp_nil ?_
      have S95:=S88.pk [1] (by decide) [0,1,2,3] rfl rfl
      exact ⟨(false,wr (z_4.2+1)),(),_,rfl,⟨rfl,rfl,rfl,rfl,rfl,trivial⟩,H,S95⟩
    ·replace H:=condF c81 H
     refine c_exit<|c_seq<|c_seq<|reg<|p_mB rfl<|p_not rfl<|wp_nil ?_
     refine c_cond rfl (fun c96=>?_) (fun c96=>?_)
     ·replace H:=condT c96 H
      refine c_seq<|reg<|p_aI rfl<|wp_nil ?_
      obtain rfl:=sJ H
      exact c_ret (rT Tryz.f18 S80.keep rfl rfl)
     ·replace H:=condF c96 H
      refine c_skip<|c_seq<|reg<|p_aI rfl<|wp_nil ?_
      obtain rfl:=sJ H
      exact c_ret (rT Tryz.f18 S80.keep rfl rfl)
structure Ticket_choice where
 out_:Int→Option Bool
def ticket_opened_l4 (a0:TicketBook) (a1:Ticket_choice) (z_1:Int×(List (Ticket_seat×Int))×(List TicketShow)×(List Int)) (rec_z_2:(Int×(List TicketBox))→Option Ticket_book) (z_2:Int×(List TicketBox)):Option Ticket_book:=
 bif decide (z_2.1 < (a0.Boxes.length:Int)) then ((getI a0.Boxes z_2.1).bind fun r144=>
 (a1.out_ (wr ((a0.Shows.length:Int)+z_2.1))).bind fun r151=>
 bif !r151 then (need (fitsL (z_2.2.length+([r144]:List TicketBox).length) 32)<|
 rec_z_2 (wr (z_2.1+1),z_2.2++([r144]:List TicketBox)))
 else (rec_z_2 (wr (z_2.1+1),z_2.2)))
 else (some (Ticket_book.mk (TicketBook.mk a0.Tally a0.Fare a0.Tickets z_1.2.2.1 z_2.2) z_1.2.2.2 z_1.2.1))
def ticket_opened_l5 (a0:TicketBook) (a1:Ticket_choice) (rec_z_1:(Int×(List (Ticket_seat×Int))×(List TicketShow)×(List Int))→Option Ticket_book) (z_1:Int×(List (Ticket_seat×Int))×(List TicketShow)×(List Int)):Option Ticket_book:=
 bif decide (z_1.1 < (a0.Shows.length:Int)) then ((getI a0.Shows z_1.1).bind fun r82=>
 (a1.out_ z_1.1).bind fun r89=>
 bif !r89 then (need (fitsL (z_1.2.2.1.length+([r82]:List TicketShow).length) 24)<|
 need (inI r82.Trip 3)<|
 need (decide (0≤r82.Ticket))<|
 need (inI r82.Trip 3)<|
 need (decide (0≤r82.Ticket))<|
 rec_z_1 (wr (z_1.1+1),putL z_1.2.1 (Ticket_seat.mk r82.Trip r82.Walker) (orI ((lookL z_1.2.1 (Ticket_seat.mk r82.Trip r82.Walker)).getD 0) (shlI 1 r82.Ticket)),z_1.2.2.1++([r82]:List TicketShow),aset z_1.2.2.2 3 r82.Trip (orI (aget z_1.2.2.2 r82.Trip) (shlI 1 r82.Ticket))))
 else (rec_z_1 (wr (z_1.1+1),z_1.2.1,z_1.2.2.1,z_1.2.2.2)))
 else (loopF (ticket_opened_l4 a0 a1 z_1) big (0,([]:List TicketBox)))
def ticket_opened (a0:TicketBook) (a1:Ticket_choice):Option Ticket_book:=
 loopF (ticket_opened_l5 a0 a1) big (0,putL ([]:List (Ticket_seat×Int)) (Ticket_seat.mk (-1) (-1)) 0,([]:List TicketShow),(List.replicate 3 0))
set_option maxRecDepth 100000 in
theorem ticket_opened_ok {a0:TicketBook}{a1:Ticket_choice}{A1:Option Addr}{c2:Nat}{A4:Option Addr}{c5:Nat}{A7:Option Addr}{c8:Nat}{A10:Option Addr}{c11:Nat}{f13:Nat}{cp14:List Value}{w:World}{r:Ticket_book} (H:ticket_opened a0 a1=some r) (h3:(rd eTallyCount 7 A1 c2 a0.Tally.Counts).ok w) (h6:(rd eTicketSeason 2 A4 c5 a0.Tickets).ok w) (h9:(rd eTicketShow 3 A7 c8 a0.Shows).ok w) (h12:(rd eTicketBox 4 A10 c11 a0.Boxes).ok w) (hF15:funOf Tryz.prog f13=true) (hw16:∀ (y17:Int) (w19:World) (y18:Bool),Keep0 w w19→a1.out_ y17=some y18→Calls Tryz.prog f13 (List.toArray ([I y17]++cp14)) w19 (RetV w19 (B y18))) (hg20:(gW0).ok w):Calls Tryz.prog 47 #[AG (vB a0 A1 c2 A4 c5 A7 c8 A10 c11),AG [vF (.func f13) #[] cp14.toArray]] w fun en w_=>∃ u_,en=.returned u_∧∃ A_1:Option Addr,∃ c_2:Nat,∃ A_3:Option Addr,∃ c_4:Nat,∃ m_5:Nat,u_=AG ([I r.TicketBook.Tally.Trips,I r.TicketBook.Tally.Room,SL A1 a0.Tally.Counts.length c2,I r.TicketBook.Fare,SL A4 a0.Tickets.length c5,SL A_1 r.TicketBook.Shows.length c_2,SL A_3 r.TicketBook.Boxes.length c_4]++(sg r.shown_ 3++[Value.map (some m_5)]))∧Keep0 w w_∧((rd eTicketShow 3 A_1 c_2 r.TicketBook.Shows).ok w_∧New w.heap.size (rd eTicketShow 3 A_1 c_2 r.TicketBook.Shows))∧((rd eTicketBox 4 A_3 c_4 r.TicketBook.Boxes).ok w_∧New w.heap.size (rd eTicketBox 4 A_3 c_4 r.TicketBook.Boxes))∧((mp ekS iE m_5 r.by_).ok w_∧New w.heap.size (mp ekS iE m_5 r.by_))∧True:=by
 unfold ticket_opened at H
 refine fn_of (n:=93) Tryz.func47 rfl rfl (lE rfl) ?_
 have S:=St.start w nF _ (cA h3 (cA h6 (cA h9 (cA h12 (cA hg20 nM)))))
 refine c_seq<|reg<|p_boxA rfl S fun b21 w22 S23=>p_boxA rfl S23 fun b24 w25 S26=>p_allA in73 S26 fun b27 w28 S29=>wp_nil<|c_seq ?_
 have S30:St w nF w28 (([]++[])++[bl b27 ([I 0,I 0,SL none 0 0,I 0,SL none 0 0,SL none 0 0,SL none 0 0]++(sg (List.replicate 3 0) 3++[Value.map none])) 73,bl b24 [vF (.func f13) #[] cp14.toArray] 77,bl b21 (vB a0 A1 c2 A4 c5 A7 c8 A10 c11) 29]) [rd eTallyCount 7 A1 c2 a0.Tally.Counts,rd eTicketSeason 2 A4 c5 a0.Tickets,rd eTicketShow 3 A7 c8 a0.Shows,rd eTicketBox 4 A10 c11 a0.Boxes,gW0]:=S29.pk [0,1,2] (by decide) [0,1,2,3,4] rfl rfl
 refine reg_two mixed 7 [1,3,4,5] [6] [] [] (fun ec_ X_=>∃ m34:Nat,Has ec_ [(11,Value.map (some m34)),(13,Value.map (some m34)),(14,AG ((vB a0 A1 c2 A4 c5 A7 c8 A10 c11)++(sg (List.replicate 3 0) 3++[Value.map (some m34)])))]∧X_=[mp ekS iE m34 (putL ([]:List (Ticket_seat×Int)) (Ticket_seat.mk (-1) (-1)) 0)]) (fun ec_ X_=>∃ b54:Nat,Has ec_ [(5,P b54 0)]∧X_=[bl b54 ([I 0,I 0,SL none 0 0,I 0,SL none 0 0,SL none 0 0,SL none 0 0]++(sg (List.replicate 3 0) 3++[Value.map none])) 73]) (by kernel_rfl) rfl rfl (St.baseX S30) ?_
 refine lS rfl (fun _ k_=>p_ldA ty29 sz29 (S30.stR (i:=2) rfl k_) rfl rfl dn) ?_
 refine lC rfl ?_
 refine lS rfl (fun _ k_=>p_ldA ty123 sz123 (S30.stL (i:=4) rfl k_) rfl rfl dn) ?_
 refine lC rfl ?_
 refine lC rfl ?_
 refine lC rfl ?_
 refine lC rfl ?_
 refine ⟨?_,?_,?_⟩
 ·intro w31 R32 S33
  refine o_mkmap S33 ekS iE fun m34 w35 _ S36=>?_
  refine cH (X:=[mp ekS iE m34 ([]:List (Ticket_seat×Int))]) S36 ?_
  intro w37 R38 S39
  refine o_ins (a:=(Ticket_seat.mk (-1) (-1))) (v:=0) rfl rfl rfl mt71 keyS S39 (i:=0) rfl fun w40 S41=>?_
  refine cH0 (X:=[mp ekS iE m34 (putL ([]:List (Ticket_seat×Int)) (Ticket_seat.mk (-1) (-1)) 0)]) S41 ?_
  intro w42 R43 S44
  refine p_mov (rfl:_=Value.map (some m34)) ?_
  refine cH (X:=[mp ekS iE m34 (putL ([]:List (Ticket_seat×Int)) (Ticket_seat.mk (-1) (-1)) 0)]) S44 ?_
  intro w45 R46 S47
  refine p_bld (cs:=(vB a0 A1 c2 A4 c5 A7 c8 A10 c11)++(sg (List.replicate 3 0) 3++[Value.map (some m34)])) st73 (rfl:_=[(0,AG (vB a0 A1 c2 A4 c5 A7 c8 A10 c11)),(2,Value.map (some m34))]) (by kernel_rfl) ?_
  refine cH (X:=[mp ekS iE m34 (putL ([]:List (Ticket_seat×Int)) (Ticket_seat.mk (-1) (-1)) 0)]) S47 ?_
  exact chEnd ⟨m34,⟨rfl,rfl,rfl,trivial⟩,rfl⟩
 ·intro w51 R52 S53
  refine p_allA in73 S53 fun b54 w55 S56=>?_
  refine cH (X:=[bl b54 ([I 0,I 0,SL none 0 0,I 0,SL none 0 0,SL none 0 0,SL none 0 0]++(sg (List.replicate 3 0) 3++[Value.map none])) 73]) S56 ?_
  exact chEnd ⟨b54,⟨rfl,trivial⟩,rfl⟩
 rintro e58 X59 e60 X61 ⟨m34,⟨q48,q49,q50,_⟩,rfl⟩ ⟨b54,⟨q57,_⟩,rfl⟩ e62 w63 f64 f65 f66 S67
 have S68:St w nF w63 [mp ekS iE m34 (putL ([]:List (Ticket_seat×Int)) (Ticket_seat.mk (-1) (-1)) 0),bl b54 ([I 0,I 0,SL none 0 0,I 0,SL none 0 0,SL none 0 0,SL none 0 0]++(sg (List.replicate 3 0) 3++[Value.map none])) 73,bl b27 ([I 0,I 0,SL none 0 0,I 0,SL none 0 0,SL none 0 0,SL none 0 0]++(sg (List.replicate 3 0) 3++[Value.map none])) 73,bl b24 [vF (.func f13) #[] cp14.toArray] 77,bl b21 (vB a0 A1 c2 A4 c5 A7 c8 A10 c11) 29] [rd eTallyCount 7 A1 c2 a0.Tally.Counts,rd eTicketSeason 2 A4 c5 a0.Tickets,rd eTicketShow 3 A7 c8 a0.Shows,rd eTicketBox 4 A10 c11 a0.Boxes,gW0]:=St.fromBaseX S30 S67
 refine tailE [(2,P b21 0),(3,P b24 0),(4,P b27 0),(5,P b54 0),(14,AG ((vB a0 A1 c2 A4 c5 A7 c8 A10 c11)++(sg (List.replicate 3 0) 3++[Value.map (some m34)])))] ⟨((f66 2 rfl rfl).trans (rfl:_=P b21 0)),((f66 3 rfl rfl).trans (rfl:_=P b24 0)),((f66 4 rfl rfl).trans (rfl:_=P b27 0)),((f65 5 rfl).trans q57),((f64 14 rfl).trans q50),trivial⟩ ?_
 intro g69
 refine p_stP (pre:=[]) (old:=[I 0,I 0,SL none 0 0,I 0,SL none 0 0,SL none 0 0,SL none 0 0]++(sg (List.replicate 3 0) 3++[Value.map none])) (post:=[]) (vs:=(vB a0 A1 c2 A4 c5 A7 c8 A10 c11)++(sg (List.replicate 3 0) 3++[Value.map (some m34)])) sz73 S68 (i:=1) rfl rfl rfl rfl (rfl:_=AG ((vB a0 A1 c2 A4 c5 A7 c8 A10 c11)++(sg (List.replicate 3 0) 3++[Value.map (some m34)]))) rfl rfl rfl rfl fun w70 S71=>?_
 refine wp_nil<|c_seq<|reg<|p_fld fl73_0 rfl<|p_fld fl29_3 rfl ?_
 refine p_stP (pre:=[I a0.Tally.Trips,I a0.Tally.Room,SL A1 a0.Tally.Counts.length c2,I a0.Fare,SL A4 a0.Tickets.length c5]) (old:=[SL A7 a0.Shows.length c8]) (post:=[SL A10 a0.Boxes.length c11]++(sg (List.replicate 3 0) 3++[Value.map (some m34)])) (vs:=[SL none 0 0]) sz26 S71 (i:=1) rfl rfl rfl rfl (rfl:_=SL none 0 0) rfl rfl rfl rfl fun w72 S73=>p_fld fl73_0 rfl<|p_fld fl29_4 rfl ?_
 refine p_stP (pre:=[I a0.Tally.Trips,I a0.Tally.Room,SL A1 a0.Tally.Counts.length c2,I a0.Fare,SL A4 a0.Tickets.length c5,SL none 0 0]) (old:=[SL A10 a0.Boxes.length c11]) (post:=sg (List.replicate 3 0) 3++[Value.map (some m34)]) (vs:=[SL none 0 0]) sz27 S73 (i:=1) rfl rfl rfl rfl (rfl:_=SL none 0 0) rfl rfl rfl rfl fun w74 S75=>wp_nil<|c_seq<|c_seq<|reg<|p_fld fl29_3 rfl ?_
 refine p_ld ty26 (S75.atX (i:=4) rfl) rfl rfl<|p_len rfl sc26<|p_mI rfl<|wp_nil<|c_block ?_
 have S76:=S75.nilRow eTicketShow 3 86
 refine c_lop (α:=Int×(List (Ticket_seat×Int))×(List TicketShow)×(List Int)) (β:=(Option Addr)×Nat) (ticket_opened_l5 a0 a1) (fun z_1 y_1=>[(2,P b21 0),(3,P b24 0),(4,P b27 0),(5,P b54 0),(20,SL A7 a0.Shows.length c8),(21,I (a0.Shows.length:Int)),(22,I z_1.1)]) (fun z_1 y_1 w_=>St w nF w_ [gr eTicketShow 3 86 y_1.1 y_1.2 z_1.2.2.1,mp ekS iE m34 z_1.2.1,bl b54 ([I a0.Tally.Trips,I a0.Tally.Room,SL A1 a0.Tally.Counts.length c2,I a0.Fare,SL A4 a0.Tickets.length c5,SL y_1.1 z_1.2.2.1.length y_1.2,SL none 0 0]++(sg z_1.2.2.2 3++[Value.map (some m34)])) 73,bl b27 ([I 0,I 0,SL none 0 0,I 0,SL none 0 0,SL none 0 0,SL none 0 0]++(sg (List.replicate 3 0) 3++[Value.map none])) 73,bl b24 [vF (.func f13) #[] cp14.toArray] 77,bl b21 (vB a0 A1 c2 A4 c5 A7 c8 A10 c11) 29] [rd eTallyCount 7 A1 c2 a0.Tally.Counts,rd eTicketSeason 2 A4 c5 a0.Tickets,rd eTicketShow 3 A7 c8 a0.Shows,rd eTicketBox 4 A10 c11 a0.Boxes,gW0]) (0,putL ([]:List (Ticket_seat×Int)) (Ticket_seat.mk (-1) (-1)) 0,([]:List TicketShow),(List.replicate 3 0)) (none,0) H ⟨rfl,rfl,rfl,rfl,rfl,rfl,rfl,trivial⟩ S76 ?_
 intro m77 z_1 y_1 e78 w79 H S80
 unfold ticket_opened_l5 at H
 refine c_seq<|reg<|p_cmp rfl rfl rfl<|wp_nil<|c_seq ?_
 refine c_cond rfl (fun c81=>?_) (fun c81=>?_)
 ·replace H:=condT c81 H
  refine c_skip<|c_seq<|c_block<|c_seq<|reg<|p_mI rfl ?_
  obtain ⟨r82,h83,H⟩:=bindS H
  refine p_ixE sc26 h83 (S80.atP (i:=2) rfl).1 rfl rfl rfl<|p_ldEA ty86 sz86 rfl h83 (S80.atP (i:=2) rfl).1 rfl<|p_allA in86 S80 fun b84 w85 S86=>p_aI rfl<|p_stP (pre:=[]) (old:=[I 0,I 0,I 0]) (post:=[]) (vs:=[I r82.Trip,I r82.Ticket,I r82.Walker]) sz86 S86 (i:=0) rfl rfl rfl rfl (rfl:_=AG [I r82.Trip,I r82.Ticket,I r82.Walker]) rfl rfl rfl rfl fun w87 S88=>wp_nil<|c_seq<|reg ?_
  refine p_fld fl77_0 rfl<|p_ld ty75 (S88.atX (i:=5) rfl) rfl rfl<|p_mI rfl ?_
  obtain ⟨r89,h90,H⟩:=bindS H
  refine p_cv (hw16 _ _ _ S88.keep h90) hF15 rfl S88 ?_
  intro w91 S92
  refine p_not rfl<|wp_nil ?_
  refine c_cond rfl (fun c93=>?_) (fun c93=>?_)
  ·replace H:=condT c93 H
   refine c_seq<|reg<|p_fld fl73_0 rfl<|p_fld fl29_3 rfl<|p_ld ty26 (S92.atX (i:=3) rfl) rfl rfl<|p_ldA ty86 sz86 (S92.atX (i:=0) rfl) rfl rfl<|p_bsl (enc:=eTicketShow) (l:=([r82]:List TicketShow)) (fun x=>AG (eTicketShow x)) (fun _=>rfl) sc26 in86 eTicketShow_len rfl (by decide) (by decide) zr86_1 S92 rfl fun A94 c95 w96 S97=>?_
   obtain ⟨h103,H⟩:=needS H
   refine p_app (enc:=eTicketShow) sc26 in86 rfl eTicketShow_len eTicketShow_one (by decide) S97 (k:=2) rfl (gr_sl eTicketShow_len (S97.atX (i:=0) rfl)) h103 (by simp) rfl rfl fun A101 c102 w99 S100=>p_fld fl73_0 rfl<|p_fld fl29_3 rfl ?_
   refine p_stP (pre:=[I a0.Tally.Trips,I a0.Tally.Room,SL A1 a0.Tally.Counts.length c2,I a0.Fare,SL A4 a0.Tickets.length c5]) (old:=[SL y_1.1 z_1.2.2.1.length y_1.2]) (post:=[SL none 0 0]++(sg z_1.2.2.2 3++[Value.map (some m34)])) (vs:=[SL A101 (z_1.2.2.1++([r82]:List TicketShow)).length c102]) sz26 S100 (i:=4) rfl rfl rfl rfl (rfl:_=SL A101 (z_1.2.2.1++([r82]:List TicketShow)).length c102) rfl rfl rfl rfl fun w104 S105=>?_
   refine wp_nil<|c_seq ?_
   obtain ⟨h106,H⟩:=needS H
   obtain ⟨h107,H⟩:=needS H
   obtain ⟨h108,H⟩:=needS H
   refine reg_q mixed 11 (by kernel_rfl) ?_
   refine dS (fun _ k_=>p_fld fl86_0 rfl dn)<|dS (fun _ k_=>p_ld ty3 (aS (S105.atX (i:=1) rfl) k_) rfl rfl dn)<|dS (fun _ k_=>p_fld fl73_1 rfl dn)<|dS (fun _ k_=>p_ixD ar30 h106 rfl rfl dn) ?_
   refine dS (fun _ k_=>p_ldD (pre:=[I a0.Tally.Trips,I a0.Tally.Room,SL A1 a0.Tally.Counts.length c2,I a0.Fare,SL A4 a0.Tickets.length c5,SL A101 (z_1.2.2.1++([r82]:List TicketShow)).length c102,SL none 0 0]) (post:=[Value.map (some m34)]) ty3 (aS (S105.atX (i:=4) rfl) k_) rfl h106 rfl rfl dn)<|dS (fun _ k_=>p_fld fl86_1 rfl dn) ?_
   refine dS (fun _ k_=>p_ld ty3 (aS (S105.atX (i:=1) rfl) k_) rfl rfl dn)<|dS (fun _ k_=>p_shl h107 rfl rfl dn)<|dS (fun _ k_=>p_orI rfl rfl dn)<|dS (fun _ k_=>p_fld fl73_1 rfl dn)<|dS (fun _ k_=>p_ixD ar30 h108 rfl rfl dn) ?_
   intro w109 k110; have S111:=S105.call k110
   refine p_stD (pre:=[I a0.Tally.Trips,I a0.Tally.Room,SL A1 a0.Tally.Counts.length c2,I a0.Fare,SL A4 a0.Tickets.length c5,SL A101 (z_1.2.2.1++([r82]:List TicketShow)).length c102,SL none 0 0]) (post:=[Value.map (some m34)]) sz3 S111 (i:=4) rfl rfl h108 rfl rfl rfl fun w112 S113=>wp_nil ?_
   obtain ⟨h114,H⟩:=needS H
   have S115:St w nF w112 ([mp ekS iE m34 z_1.2.1]++[gr eTicketShow 3 86 A94 c95 ([r82]:List TicketShow),bl b84 [I r82.Trip,I r82.Ticket,I r82.Walker] 86,gr eTicketShow 3 86 A101 c102 (z_1.2.2.1++([r82]:List TicketShow)),bl b54 ([I a0.Tally.Trips,I a0.Tally.Room,SL A1 a0.Tally.Counts.length c2,I a0.Fare,SL A4 a0.Tickets.length c5,SL A101 (z_1.2.2.1++([r82]:List TicketShow)).length c102,SL none 0 0]++(sg (aset z_1.2.2.2 3 r82.Trip (orI (aget z_1.2.2.2 r82.Trip) (shlI 1 r82.Ticket))) 3++[Value.map (some m34)])) 73,bl b27 ([I 0,I 0,SL none 0 0,I 0,SL none 0 0,SL none 0 0,SL none 0 0]++(sg (List.replicate 3 0) 3++[Value.map none])) 73,bl b24 [vF (.func f13) #[] cp14.toArray] 77,bl b21 (vB a0 A1 c2 A4 c5 A7 c8 A10 c11) 29]) [rd eTallyCount 7 A1 c2 a0.Tally.Counts,rd eTicketSeason 2 A4 c5 a0.Tickets,rd eTicketShow 3 A7 c8 a0.Shows,rd eTicketBox 4 A10 c11 a0.Boxes,gW0]:=S113.pk [3,0,1,2,4,5,6,7] (by decide) [0,1,2,3,4] rfl rfl
   refine reg_one mixed 14 [12,13] [mp ekS iE m34 z_1.2.1] (fun ec_ X_=>∃ n118:Nat,Has ec_ [(63,TU [I ((lookL z_1.2.1 (Ticket_seat.mk r82.Trip r82.Walker)).getD 0),I (n118:Int)]),(64,I (n118:Int))]∧X_=[mpS ekS iE m34 (putL z_1.2.1 (Ticket_seat.mk r82.Trip r82.Walker) ((lookL z_1.2.1 (Ticket_seat.mk r82.Trip r82.Walker)).getD 0)) (Ticket_seat.mk r82.Trip r82.Walker) n118]) (Rds ekS iE m34 z_1.2.1 (Ticket_seat.mk r82.Trip r82.Walker) (0:Int)) (fun _ _ h_ k_=>h_.stays k_) (by kernel_rfl) rfl (St.baseX S115) (Rds.of (S115.atX (i:=0) rfl)) ?_
   refine gS rfl (fun _ k_=>p_fld fl73_2 rfl dn) ?_
   refine gS rfl (fun _ k_=>p_ld ty71 (S115.stR (i:=3) rfl k_.1) rfl rfl dn) ?_
   refine gS rfl (fun _ k_=>p_fld fl86_0 rfl dn) ?_
   refine gS rfl (fun _ k_=>p_ld ty3 (S115.stR (i:=1) rfl k_.1) rfl rfl dn) ?_
   refine gS rfl (fun _ k_=>p_fld fl86_2 rfl dn) ?_
   refine gS rfl (fun _ k_=>p_ld ty3 (S115.stR (i:=1) rfl k_.1) rfl rfl dn) ?_
   refine gS rfl (fun _ k_=>p_bld (cs:=[I r82.Trip,I r82.Walker]) st123 (rfl:_=[(0,I r82.Trip),(1,I r82.Walker)]) (by kernel_rfl) dn) ?_
   refine gS rfl (fun _ k_=>o_lookP (a:=(Ticket_seat.mk r82.Trip r82.Walker)) (0:Int) mt71 keyS in3 k_.2 rfl rfl rfl dn) ?_
   refine gS rfl (fun _ k_=>p_fld fl86_1 rfl dn) ?_
   refine gS rfl (fun _ k_=>p_ld ty3 (S115.stR (i:=1) rfl k_.1) rfl rfl dn) ?_
   refine gS rfl (fun _ k_=>p_shl h114 rfl rfl dn) ?_
   refine gS rfl (fun _ k_=>p_orI rfl rfl dn) ?_
   refine gC rfl ?_
   refine gC rfl ?_
   refine ⟨?_,?_⟩
   ·intro w116 S117
    refine o_ment1 (a:=(Ticket_seat.mk r82.Trip r82.Walker)) (0:Int) mt71 keyS in3 rfl rfl rfl S117 (k:=0) rfl fun n118 w119 S120=>?_
    refine cG (X:=[mpS ekS iE m34 (putL z_1.2.1 (Ticket_seat.mk r82.Trip r82.Walker) ((lookL z_1.2.1 (Ticket_seat.mk r82.Trip r82.Walker)).getD 0)) (Ticket_seat.mk r82.Trip r82.Walker) n118]) S120 (Rds.ofS (S120.atX (i:=0) rfl)) ?_
    intro w121 S122
    refine p_ext rfl rfl ?_
    refine cG (X:=[mpS ekS iE m34 (putL z_1.2.1 (Ticket_seat.mk r82.Trip r82.Walker) ((lookL z_1.2.1 (Ticket_seat.mk r82.Trip r82.Walker)).getD 0)) (Ticket_seat.mk r82.Trip r82.Walker) n118]) S122 (Rds.ofS (S122.atX (i:=0) rfl)) ?_
    exact cgEnd ⟨n118,⟨rfl,rfl,trivial⟩,rfl⟩
   rintro e125 X126 ⟨n118,⟨q123,q124,_⟩,rfl⟩ e127 w128 f129 f130 S131
   have S132:St w nF w128 [mpS ekS iE m34 (putL z_1.2.1 (Ticket_seat.mk r82.Trip r82.Walker) ((lookL z_1.2.1 (Ticket_seat.mk r82.Trip r82.Walker)).getD 0)) (Ticket_seat.mk r82.Trip r82.Walker) n118,gr eTicketShow 3 86 A94 c95 ([r82]:List TicketShow),bl b84 [I r82.Trip,I r82.Ticket,I r82.Walker] 86,gr eTicketShow 3 86 A101 c102 (z_1.2.2.1++([r82]:List TicketShow)),bl b54 ([I a0.Tally.Trips,I a0.Tally.Room,SL A1 a0.Tally.Counts.length c2,I a0.Fare,SL A4 a0.Tickets.length c5,SL A101 (z_1.2.2.1++([r82]:List TicketShow)).length c102,SL none 0 0]++(sg (aset z_1.2.2.2 3 r82.Trip (orI (aget z_1.2.2.2 r82.Trip) (shlI 1 r82.Ticket))) 3++[Value.map (some m34)])) 73,bl b27 ([I 0,I 0,SL none 0 0,I 0,SL none 0 0,SL none 0 0,SL none 0 0]++(sg (List.replicate 3 0) 3++[Value.map none])) 73,bl b24 [vF (.func f13) #[] cp14.toArray] 77,bl b21 (vB a0 A1 c2 A4 c5 A7 c8 A10 c11) 29] [rd eTallyCount 7 A1 c2 a0.Tally.Counts,rd eTicketSeason 2 A4 c5 a0.Tickets,rd eTicketShow 3 A7 c8 a0.Shows,rd eTicketBox 4 A10 c11 a0.Boxes,gW0]:=St.fromBaseX S115 S131
   refine tailE [(2,P b21 0),(3,P b24 0),(4,P b27 0),(5,P b54 0),(20,SL A7 a0.Shows.length c8),(21,I (a0.Shows.length:Int)),(22,I z_1.1),(52,Value.map (some m34)),(62,I (orI ((lookL z_1.2.1 (Ticket_seat.mk r82.Trip r82.Walker)).getD 0) (shlI 1 r82.Ticket))),(64,I (n118:Int))] ⟨((f130 2 rfl).trans (rfl:_=P b21 0)),((f130 3 rfl).trans (rfl:_=P b24 0)),((f130 4 rfl).trans (rfl:_=P b27 0)),((f130 5 rfl).trans (rfl:_=P b54 0)),((f130 20 rfl).trans (rfl:_=SL A7 a0.Shows.length c8)),((f130 21 rfl).trans (rfl:_=I (a0.Shows.length:Int))),((f130 22 rfl).trans (rfl:_=I z_1.1)),((f130 52 rfl).trans (rfl:_=Value.map (some m34))),((f130 62 rfl).trans (rfl:_=I (orI ((lookL z_1.2.1 (Ticket_seat.mk r82.Trip r82.Walker)).getD 0) (shlI 1 r82.Ticket)))),((f129 64 rfl).trans q124),trivial⟩ ?_
   intro g133
   refine o_est (a:=(Ticket_seat.mk r82.Trip r82.Walker)) (v:=orI ((lookL z_1.2.1 (Ticket_seat.mk r82.Trip r82.Walker)).getD 0) (shlI 1 r82.Ticket)) rfl rfl rfl S132 (k:=0) rfl fun w134 S135=>?_
   refine wp_nil<|reg<|p_add rfl rfl<|p_mI rfl<|wp_nil ?_
   have S136:=S135.pk [3,0,4,5,6,7] (by decide) [0,1,2,3,4] rfl rfl
   exact ⟨(wr (z_1.1+1),putL z_1.2.1 (Ticket_seat.mk r82.Trip r82.Walker) (orI ((lookL z_1.2.1 (Ticket_seat.mk r82.Trip r82.Walker)).getD 0) (shlI 1 r82.Ticket)),z_1.2.2.1++([r82]:List TicketShow),aset z_1.2.2.2 3 r82.Trip (orI (aget z_1.2.2.2 r82.Trip) (shlI 1 r82.Ticket))),(A101,c102),_,rfl,⟨rfl,rfl,rfl,rfl,rfl,rfl,rfl,trivial⟩,H,S136⟩
  ·replace H:=condF c93 H
   refine c_skip<|reg<|p_add rfl rfl<|p_mI rfl<|wp_nil ?_
   have S137:=S92.pk [1,2,3,4,5,6] (by decide) [0,1,2,3,4] rfl rfl
   exact ⟨(wr (z_1.1+1),z_1.2.1,z_1.2.2.1,z_1.2.2.2),(y_1.1,y_1.2),_,rfl,⟨rfl,rfl,rfl,rfl,rfl,rfl,rfl,trivial⟩,H,S137⟩
 ·replace H:=condF c81 H
  refine c_exit<|c_seq<|c_seq<|reg<|p_fld fl29_4 rfl<|p_ld ty27 (S80.atX (i:=5) rfl) rfl rfl<|p_len rfl sc27<|p_mI rfl<|wp_nil<|c_block ?_
  have S138:=S80.nilRow eTicketBox 4 39
  refine c_lop (α:=Int×(List TicketBox)) (β:=(Option Addr)×Nat) (ticket_opened_l4 a0 a1 z_1) (fun z_2 y_2=>[(2,P b21 0),(3,P b24 0),(4,P b27 0),(5,P b54 0),(67,SL A10 a0.Boxes.length c11),(68,I (a0.Boxes.length:Int)),(69,I z_2.1)]) (fun z_2 y_2 w_=>St w nF w_ [gr eTicketBox 4 39 y_2.1 y_2.2 z_2.2,gr eTicketShow 3 86 y_1.1 y_1.2 z_1.2.2.1,mp ekS iE m34 z_1.2.1,bl b54 ([I a0.Tally.Trips,I a0.Tally.Room,SL A1 a0.Tally.Counts.length c2,I a0.Fare,SL A4 a0.Tickets.length c5,SL y_1.1 z_1.2.2.1.length y_1.2,SL y_2.1 z_2.2.length y_2.2]++(sg z_1.2.2.2 3++[Value.map (some m34)])) 73,bl b27 ([I 0,I 0,SL none 0 0,I 0,SL none 0 0,SL none 0 0,SL none 0 0]++(sg (List.replicate 3 0) 3++[Value.map none])) 73,bl b24 [vF (.func f13) #[] cp14.toArray] 77,bl b21 (vB a0 A1 c2 A4 c5 A7 c8 A10 c11) 29] [rd eTallyCount 7 A1 c2 a0.Tally.Counts,rd eTicketSeason 2 A4 c5 a0.Tickets,rd eTicketShow 3 A7 c8 a0.Shows,rd eTicketBox 4 A10 c11 a0.Boxes,gW0]) (0,([]:List TicketBox)) (none,0) H ⟨rfl,rfl,rfl,rfl,rfl,rfl,rfl,trivial⟩ S138 ?_
  intro m139 z_2 y_2 e140 w141 H S142
  unfold ticket_opened_l4 at H
  refine c_seq<|reg<|p_cmp rfl rfl rfl<|wp_nil<|c_seq ?_
  refine c_cond rfl (fun c143=>?_) (fun c143=>?_)
  ·replace H:=condT c143 H
   refine c_skip<|c_seq<|c_block<|c_seq<|reg<|p_mI rfl ?_
   obtain ⟨r144,h145,H⟩:=bindS H
   refine p_ixE sc27 h145 (S142.atP (i:=3) rfl).1 rfl rfl rfl<|p_ldEA ty39 sz39 rfl h145 (S142.atP (i:=3) rfl).1 rfl<|p_allA in39 S142 fun b146 w147 S148=>p_aI rfl ?_
   refine p_stP (pre:=[]) (old:=[I 0,I 0,I 0,I 0]) (post:=[]) (vs:=[I r144.From,I r144.To,I r144.Pence,I r144.Lost]) sz39 S148 (i:=0) rfl rfl rfl rfl (rfl:_=AG [I r144.From,I r144.To,I r144.Pence,I r144.Lost]) rfl rfl rfl rfl fun w149 S150=>wp_nil<|c_seq<|reg<|p_fld fl77_0 rfl<|p_ld ty75 (S150.atX (i:=6) rfl) rfl rfl<|p_fld fl29_3 rfl<|p_ld ty26 (S150.atX (i:=7) rfl) rfl rfl<|p_len rfl sc26 ?_
   refine p_mI rfl<|p_add rfl rfl ?_
   obtain ⟨r151,h152,H⟩:=bindS H
   refine p_cv (hw16 _ _ _ S150.keep h152) hF15 rfl S150 ?_
   intro w153 S154
   refine p_not rfl<|wp_nil ?_
   refine c_cond rfl (fun c155=>?_) (fun c155=>?_)
   ·replace H:=condT c155 H
    refine reg<|p_fld fl73_0 rfl<|p_fld fl29_4 rfl<|p_ld ty27 (S154.atX (i:=4) rfl) rfl rfl<|p_ldA ty39 sz39 (S154.atX (i:=0) rfl) rfl rfl<|p_bsl (enc:=eTicketBox) (l:=([r144]:List TicketBox)) (fun x=>AG (eTicketBox x)) (fun _=>rfl) sc27 in39 eTicketBox_len rfl (by decide) (by decide) zr39_1 S154 rfl fun A156 c157 w158 S159=>?_
    obtain ⟨h165,H⟩:=needS H
    refine p_app (enc:=eTicketBox) sc27 in39 rfl eTicketBox_len eTicketBox_one (by decide) S159 (k:=2) rfl (gr_sl eTicketBox_len (S159.atX (i:=0) rfl)) h165 (by simp) rfl rfl fun A163 c164 w161 S162=>p_fld fl73_0 rfl<|p_fld fl29_4 rfl ?_
    refine p_stP (pre:=[I a0.Tally.Trips,I a0.Tally.Room,SL A1 a0.Tally.Counts.length c2,I a0.Fare,SL A4 a0.Tickets.length c5,SL y_1.1 z_1.2.2.1.length y_1.2]) (old:=[SL y_2.1 z_2.2.length y_2.2]) (post:=sg z_1.2.2.2 3++[Value.map (some m34)]) (vs:=[SL A163 (z_2.2++([r144]:List TicketBox)).length c164]) sz27 S162 (i:=5) rfl rfl rfl rfl (rfl:_=SL A163 (z_2.2++([r144]:List TicketBox)).length c164) rfl rfl rfl rfl fun w166 S167=>?_
    refine wp_nil<|reg<|p_add rfl rfl<|p_mI rfl<|wp_nil ?_
    have S168:=S167.pk [2,3,4,5,6,7,8] (by decide) [0,1,2,3,4] rfl rfl
    exact ⟨(wr (z_2.1+1),z_2.2++([r144]:List TicketBox)),(A163,c164),_,rfl,⟨rfl,rfl,rfl,rfl,rfl,rfl,rfl,trivial⟩,H,S168⟩
   ·replace H:=condF c155 H
    refine c_skip<|reg<|p_add rfl rfl<|p_mI rfl<|wp_nil ?_
    have S169:=S154.pk [1,2,3,4,5,6,7] (by decide) [0,1,2,3,4] rfl rfl
    exact ⟨(wr (z_2.1+1),z_2.2),(y_2.1,y_2.2),_,rfl,⟨rfl,rfl,rfl,rfl,rfl,rfl,rfl,trivial⟩,H,S169⟩
  ·replace H:=condF c143 H
   refine c_exit<|c_seq<|reg<|p_ldA ty73 sz73 (S142.atX (i:=3) rfl) rfl rfl ?_
   refine p_stP (pre:=[]) (old:=[I 0,I 0,SL none 0 0,I 0,SL none 0 0,SL none 0 0,SL none 0 0]++(sg (List.replicate 3 0) 3++[Value.map none])) (post:=[]) (vs:=[I a0.Tally.Trips,I a0.Tally.Room,SL A1 a0.Tally.Counts.length c2,I a0.Fare,SL A4 a0.Tickets.length c5,SL y_1.1 z_1.2.2.1.length y_1.2,SL y_2.1 z_2.2.length y_2.2]++(sg z_1.2.2.2 3++[Value.map (some m34)])) sz73 S142 (i:=4) rfl rfl rfl rfl (rfl:_=AG ([I a0.Tally.Trips,I a0.Tally.Room,SL A1 a0.Tally.Counts.length c2,I a0.Fare,SL A4 a0.Tickets.length c5,SL y_1.1 z_1.2.2.1.length y_1.2,SL y_2.1 z_2.2.length y_2.2]++(sg z_1.2.2.2 3++[Value.map (some m34)]))) rfl rfl rfl rfl fun w170 S171=>?_
   refine wp_nil ?_
   obtain rfl:=sJ H
   refine c_ret ?_; show bodyPostM (Fr none) 0 Tryz.prog Tryz.f47 _ .ret _ _
   refine ret_of (res1 rfl (rvA rfl ty73 sz73 (S171.atX (i:=4) rfl) rfl)) ?_
   exact ⟨_,rfl,y_1.1,y_1.2,y_2.1,y_2.2,m34,rfl,S171.keep,⟨(gr_rd eTicketShow_len (S171.atX (i:=1) rfl)),(New.rd (S171.newX (i:=1) rfl))⟩,⟨(gr_rd eTicketBox_len (S171.atX (i:=0) rfl)),(New.rd (S171.newX (i:=0) rfl))⟩,⟨S171.atX (i:=2) rfl,S171.newX (i:=2) rfl⟩,trivial⟩
def ticket_nothing_1 (a0:Int):Option Bool:=
 some false
set_option maxRecDepth 100000 in
theorem ticket_nothing_1_ok {a0:Int}{w:World}{r:Bool} (H:ticket_nothing_1 a0=some r):Calls Tryz.prog 87 #[I a0] w (RetV w (B r)):=by
 unfold ticket_nothing_1 at H
 refine fn_of (n:=3) Tryz.func87 rfl rfl (lE rfl) ?_
 have S:=St.start w nF _ nM
 refine c_seq<|reg<|p_aB rfl<|wp_nil<|c_seq<|reg<|p_aB rfl<|wp_nil ?_
 obtain rfl:=sJ H
 exact c_ret (rT Tryz.f87 S.keep rfl rfl)
def ticket_nothing:Option Unit:=
 some ()
set_option maxRecDepth 100000 in
theorem ticket_nothing_ok {w:World}{r:Unit} (H:ticket_nothing=some r):Calls Tryz.prog 48 #[] w (RetV w (AG [vF (.func 87) #[] #[]])):=by
 unfold ticket_nothing at H
 refine fn_of (n:=2) Tryz.func48 rfl rfl (lE rfl) ?_
 have S:=St.start w nF _ nM
 refine c_seq<|reg<|p_allA in77 S fun b1 w2 S3=>wp_nil<|c_seq<|reg<|p_bld (cs:=[vF (.func 87) #[] #[]]) st77 (rfl:_=[(0,vF (.func 87) #[] #[])]) (by kernel_rfl)<|p_stP (pre:=[]) (old:=[Value.nilFunc]) (post:=[]) (vs:=[vF (.func 87) #[] #[]]) sz77 S3 (i:=0) rfl rfl rfl rfl (rfl:_=AG [vF (.func 87) #[] #[]]) rfl rfl rfl rfl fun w4 S5=>wp_nil ?_
 obtain rfl:=sJ H
 refine c_ret ?_; show bodyPostM (Fr none) 0 Tryz.prog Tryz.f48 _ .ret _ _
 refine ret_of (res1 rfl (rvA rfl ty77 sz77 (S5.atX (i:=0) rfl) rfl)) ?_
 exact ⟨_,rfl,rfl,S5.keep⟩
def ticket_book_isTrue_r1 (x_1:Ticket_truth) (z_1:Bool):Option (Bool×Nat×Bool):=
 some (false,1,true)
def ticket_book_isTrue (a0:Ticket_book):Option Bool:=
 (ticket_book_truths a0).bind fun r23=>
 (ticket_book_truths_1 (0,false) a0 (yvOf (ticket_book_isTrue_r1))).bind fun r32=>
 bif (r32.1==0) then (some false)
 else (some r32.2)
set_option maxRecDepth 100000 in
theorem ticket_book_isTrue_ok {a0:Ticket_book}{A1:Option Addr}{c2:Nat}{A4:Option Addr}{c5:Nat}{A7:Option Addr}{c8:Nat}{A10:Option Addr}{c11:Nat}{m13:Option Nat}{w:World}{r:Bool} (H:ticket_book_isTrue a0=some r) (h3:(rd eTallyCount 7 A1 c2 a0.TicketBook.Tally.Counts).ok w) (h6:(rd eTicketSeason 2 A4 c5 a0.TicketBook.Tickets).ok w) (h9:(rd eTicketShow 3 A7 c8 a0.TicketBook.Shows).ok w) (h12:(rd eTicketBox 4 A10 c11 a0.TicketBook.Boxes).ok w) (h14:(mpo ekS iE m13 a0.by_).ok w) (hg15:(gW0).ok w) (hg16:(gW2).ok w):Calls Tryz.prog 49 #[AG ((vB a0.TicketBook A1 c2 A4 c5 A7 c8 A10 c11)++(sg a0.shown_ 3++[Value.map m13]))] w (RetV w (B r)):=by
 unfold ticket_book_isTrue at H
 refine fn_of (n:=6) Tryz.func49 rfl rfl (lE rfl) ?_
 have S:=St.start w nF _ (cA h3 (cA h6 (cA h9 (cA h12 (cA h14 (cA hg15 (cA hg16 nM)))))))
 refine c_seq<|reg<|p_boxA rfl S fun b17 w18 S19=>p_all in4 rfl S19 fun b20 w21 S22=>wp_nil<|c_seq<|c_seq<|reg<|p_ldA ty73 sz73 (S22.atX (i:=1) rfl) rfl rfl ?_
 obtain ⟨r23,h24,H⟩:=bindS H
 refine p_cal (ticket_book_truths_ok h24 (S22.atP (i:=0) rfl) (S22.atP (i:=1) rfl) (S22.atP (i:=2) rfl) (S22.atP (i:=3) rfl) (S22.atP (i:=4) rfl) (S22.atP (i:=5) rfl) (S22.atP (i:=6) rfl)) fu77 rfl ?_
 rintro _ w25 ⟨b27,rfl,k26,⟨o28,n29⟩,_⟩
 have S30:=S22.addNew k26 o28 n29
 refine wp_nil<|c_block ?_
 have S31:=S30.fix (i:=0) rfl
 obtain ⟨r32,h33,H⟩:=bindS H
 have S34:=S31
 refine c_rangeG (α:=Bool) (β:=Unit) (ε:=Ticket_truth) (K:=[bl b27 ((vB a0.TicketBook A1 c2 A4 c5 A7 c8 A10 c11)++(sg a0.shown_ 3++[Value.map m13])) 73,rd eTallyCount 7 A1 c2 a0.TicketBook.Tally.Counts,rd eTicketSeason 2 A4 c5 a0.TicketBook.Tickets,rd eTicketShow 3 A7 c8 a0.TicketBook.Shows,rd eTicketBox 4 A10 c11 a0.TicketBook.Boxes,mpo ekS iE m13 a0.by_,gW0,gW2]) (MK:=Go.Fx.mark) (XR:=fun D35=>[]++[bx D35 (.deferred (some []))]) (it:=fun {σ} yv s_=>ticket_book_truths_1 s_ a0 yv) (enc:=yE0) (ticket_book_isTrue_r1) [.ret] (fun z_1 y_1=>[bl b20 [B z_1] 4,bl b17 ((vB a0.TicketBook A1 c2 A4 c5 A7 c8 A10 c11)++(sg a0.shown_ 3++[Value.map m13])) 73]) false () h33 (ent_none (X0:=(fun z_1 y_1=>[bl b20 [B z_1] 4,bl b17 ((vB a0.TicketBook A1 c2 A4 c5 A7 c8 A10 c11)++(sg a0.shown_ 3++[Value.map m13])) 73]) false ()++[]) S34) rfl fu98 (fun w_ σ yv_ s_ s'_ l_ G_ A_ hH_ hG_ hk_ hd_ hy_=>(ticket_book_truths_1_ok hH_ hG_ (hk_ _ (mE (i:=0) rfl)) (hk_ _ (mE (i:=1) rfl)) (hk_ _ (mE (i:=2) rfl)) (hk_ _ (mE (i:=3) rfl)) (hk_ _ (mE (i:=4) rfl)) (hk_ _ (mE (i:=5) rfl)) (hk_ _ (mE (i:=6) rfl)) (hk_ _ (mE (i:=7) rfl)) hd_ hy_ (Link.refl _ _)).mono fun en_ w3_ ⟨u_,he_,A'_,hu_,hk2_,ho_,hf_⟩=>⟨u_,he_,hk2_,A'_,ho_,hf_⟩) (mG [0,1,2,3,4,5,6,7] rfl) (fun _=>rfl) (cA (.inl rfl) nM) ?_ ?_ ?_
 ·intro l36 oR37 oB38 Cr39 x_1 z_1 y_1 w40 b41 c42 z43 PP44 H S45 hlk46 ho47 hB48 hN49 hX50
  unfold ticket_book_isTrue_r1 at H
  replace S45:St w40 Cr39 w40 [bx l36 oR37,bl b20 [B z_1] 4,bl b17 ((vB a0.TicketBook A1 c2 A4 c5 A7 c8 A10 c11)++(sg a0.shown_ 3++[Value.map m13])) 73] [bl b27 ((vB a0.TicketBook A1 c2 A4 c5 A7 c8 A10 c11)++(sg a0.shown_ 3++[Value.map m13])) 73,rd eTallyCount 7 A1 c2 a0.TicketBook.Tally.Counts,rd eTicketSeason 2 A4 c5 a0.TicketBook.Tickets,rd eTicketShow 3 A7 c8 a0.TicketBook.Shows,rd eTicketBox 4 A10 c11 a0.TicketBook.Boxes,mpo ekS iE m13 a0.by_,gW0,gW2]:=S45
  refine c_skip ?_
  refine hB48 _ _ 0 _ S45 rfl fun w51 S52=>?_
  replace S52:St w40 Cr39 w51 [bx l36 oB38,bl b20 [B z_1] 4,bl b17 ((vB a0.TicketBook A1 c2 A4 c5 A7 c8 A10 c11)++(sg a0.shown_ 3++[Value.map m13])) 73] [bl b27 ((vB a0.TicketBook A1 c2 A4 c5 A7 c8 A10 c11)++(sg a0.shown_ 3++[Value.map m13])) 73,rd eTallyCount 7 A1 c2 a0.TicketBook.Tally.Counts,rd eTicketSeason 2 A4 c5 a0.TicketBook.Tickets,rd eTicketShow 3 A7 c8 a0.TicketBook.Shows,rd eTicketBox 4 A10 c11 a0.TicketBook.Boxes,mpo ekS iE m13 a0.by_,gW0,gW2]:=S52
  refine c_block<|c_seq<|reg<|p_st sz4 S52 (i:=1) rfl rfl (rfl:_=B true) rfl rfl fun w53 S54=>wp_nil ?_
  refine c_ret ?_
  exact hX50 0 .ret _ _ true () rfl S54 (sJ H)
 ·intro hc61
  intro l55 D56 o57 y58 w59 S60
  have S62:St w nF w59 [bl b20 [B r32.2] 4,bl b17 ((vB a0.TicketBook A1 c2 A4 c5 A7 c8 A10 c11)++(sg a0.shown_ 3++[Value.map m13])) 73,bx D56 (.deferred (some []))] [bl b27 ((vB a0.TicketBook A1 c2 A4 c5 A7 c8 A10 c11)++(sg a0.shown_ 3++[Value.map m13])) 73,rd eTallyCount 7 A1 c2 a0.TicketBook.Tally.Counts,rd eTicketSeason 2 A4 c5 a0.TicketBook.Tickets,rd eTicketShow 3 A7 c8 a0.TicketBook.Shows,rd eTicketBox 4 A10 c11 a0.TicketBook.Boxes,mpo ekS iE m13 a0.by_,gW0,gW2]:=St.tail1 S60
  replace H:=condT (by rw [hc61]; rfl) H
  refine c_seq<|reg<|p_st sz4 S62 (i:=0) rfl rfl (rfl:_=B false) rfl rfl fun w63 S64=>wp_nil ?_
  refine c_ret ?_
  refine leave_mark S64 (i:=2) rfl fun w65 S66=>?_
  obtain rfl:=sJ H
  show bodyPostM (Fr none) 0 Tryz.prog Tryz.f49 _ .ret _ _
  refine ret_of (res1 rfl (rvC rfl ty4 (S66.atX (i:=0) rfl))) ?_
  exact ⟨_,rfl,rfl,S66.keep⟩
 ·intro k67 c68 hk69 hc70
  rcases k67 with _ | k67
  ·obtain rfl:=sJ hk69
   intro l71 D72 o73 y74 w75 S76
   have S78:St w nF w75 [bl b20 [B r32.2] 4,bl b17 ((vB a0.TicketBook A1 c2 A4 c5 A7 c8 A10 c11)++(sg a0.shown_ 3++[Value.map m13])) 73,bx D72 (.deferred (some []))] [bl b27 ((vB a0.TicketBook A1 c2 A4 c5 A7 c8 A10 c11)++(sg a0.shown_ 3++[Value.map m13])) 73,rd eTallyCount 7 A1 c2 a0.TicketBook.Tally.Counts,rd eTicketSeason 2 A4 c5 a0.TicketBook.Tickets,rd eTicketShow 3 A7 c8 a0.TicketBook.Shows,rd eTicketBox 4 A10 c11 a0.TicketBook.Boxes,mpo ekS iE m13 a0.by_,gW0,gW2]:=St.tail1 S76
   replace H:=condF (by rw [hc70]; rfl) H
   refine c_ret ?_
   refine leave_mark S78 (i:=2) rfl fun w79 S80=>?_
   obtain rfl:=sJ H
   show bodyPostM (Fr none) 0 Tryz.prog Tryz.f49 _ .ret _ _
   refine ret_of (res1 rfl (rvC rfl ty4 (S80.atX (i:=0) rfl))) ?_
   exact ⟨_,rfl,rfl,S80.keep⟩
  ·cases hk69
def ticket_Right (a0:TicketBook):Option (Bool×Int):=
 (ticket_Check a0).bind fun r18=>
 bif (r18 != 0) then (some (false,r18))
 else ((ticket_nothing).bind fun r23=>
 (ticket_opened a0 (Ticket_choice.mk (fun y28=>ticket_nothing_1 y28))).bind fun r29=>
 (ticket_book_isTrue (Ticket_book.mk (TicketBook.mk (TallyBook.mk r29.TicketBook.Tally.Trips r29.TicketBook.Tally.Room a0.Tally.Counts) r29.TicketBook.Fare a0.Tickets r29.TicketBook.Shows r29.TicketBook.Boxes) r29.shown_ r29.by_)).bind fun r45=>
 some (r45,0))
set_option maxRecDepth 100000 in
theorem ticket_Right_ok {a0:TicketBook}{A1:Option Addr}{c2:Nat}{A4:Option Addr}{c5:Nat}{A7:Option Addr}{c8:Nat}{A10:Option Addr}{c11:Nat}{w:World}{r:Bool×Int} (H:ticket_Right a0=some r) (h3:(rd eTallyCount 7 A1 c2 a0.Tally.Counts).ok w) (h6:(rd eTicketSeason 2 A4 c5 a0.Tickets).ok w) (h9:(rd eTicketShow 3 A7 c8 a0.Shows).ok w) (h12:(rd eTicketBox 4 A10 c11 a0.Boxes).ok w) (hg13:(gW0).ok w) (hg14:(gW2).ok w):Calls Tryz.prog 16 #[AG (vB a0 A1 c2 A4 c5 A7 c8 A10 c11)] w (RetV w (TU [B r.1,I r.2])):=by
 unfold ticket_Right at H
 refine fn_of (n:=14) Tryz.func16 rfl rfl (lE rfl) ?_
 have S:=St.start w nF _ (cA h3 (cA h6 (cA h9 (cA h12 (cA hg13 (cA hg14 nM))))))
 refine c_seq<|reg<|p_boxA rfl S fun b15 w16 S17=>p_aB rfl<|p_aI rfl<|wp_nil<|c_seq<|c_seq<|reg<|p_ldA ty29 sz29 (S17.atX (i:=0) rfl) rfl rfl ?_
 obtain ⟨r18,h19,H⟩:=bindS H
 refine p_cv (ticket_Check_ok h19 (S17.atP (i:=0) rfl) (S17.atP (i:=1) rfl) (S17.atP (i:=2) rfl) (S17.atP (i:=3) rfl)) fu18 rfl S17 fun w20 S21=>p_aI rfl<|wp_nil<|c_seq<|reg<|p_mI rfl<|p_cmp rfl rfl rfl<|wp_nil ?_
 refine c_cond rfl (fun c22=>?_) (fun c22=>?_)
 ·replace H:=condT c22 H
  refine c_seq<|reg<|p_mI rfl<|p_aB rfl<|p_aI rfl<|wp_nil ?_
  obtain rfl:=sJ H
  refine c_ret ?_; show bodyPostM (Fr none) 0 Tryz.prog Tryz.f16 _ .ret _ _
  refine ret_of (res2 rfl (rvT (rfl:_=B false)) (rvT (rfl:_=I r18))) ?_
  exact ⟨_,rfl,rfl,S21.keep⟩
 ·replace H:=condF c22 H
  refine c_skip<|c_seq ?_
  obtain ⟨r23,h24,H⟩:=bindS H
  refine reg_q mixed 2 (by kernel_rfl) ?_
  refine dS (fun _ k_=>p_ldA ty29 sz29 (aS (S21.atX (i:=0) rfl) k_) rfl rfl dn)<|dS (fun _ k_=>p_cvD (ticket_nothing_ok h24) fu48 rfl) ?_
  intro w25 k26; have S27:=S21.call k26
  obtain ⟨r29,h30,H⟩:=bindS H
  refine p_cal (ticket_opened_ok h30 (S27.atP (i:=0) rfl) (S27.atP (i:=1) rfl) (S27.atP (i:=2) rfl) (S27.atP (i:=3) rfl) (by kernel_rfl) (fun _ _ _ k_ hr_=>ticket_nothing_1_ok hr_) (S27.atP (i:=4) rfl)) fu47 rfl ?_
  rintro _ w31 ⟨A33,c34,A35,c36,m37,rfl,k32,⟨o38,n39⟩,⟨o40,n41⟩,⟨o42,n43⟩,_⟩
  have S44:=S27.callN k32 [rd eTicketShow 3 A33 c34 r29.TicketBook.Shows,rd eTicketBox 4 A35 c36 r29.TicketBook.Boxes,mp ekS iE m37 r29.by_] (cA ⟨o38,New.inL n39⟩ (cA ⟨o40,New.inL n41⟩ (cA ⟨o42,New.inL n43⟩ nM)))
  obtain ⟨r45,h46,H⟩:=bindS H
  refine p_cv (ticket_book_isTrue_ok h46 (S44.atP (i:=3) rfl) (S44.atP (i:=4) rfl) (S44.atP (i:=0) rfl) (S44.atP (i:=1) rfl) (mpo_some (S44.atP (i:=2) rfl)) (S44.atP (i:=7) rfl) (S44.atP (i:=8) rfl)) fu49 rfl S44 fun w47 S48=>p_aB rfl<|p_aI rfl<|wp_nil ?_
  obtain rfl:=sJ H
  refine c_ret ?_; show bodyPostM (Fr none) 0 Tryz.prog Tryz.f16 _ .ret _ _
  refine ret_of (res2 rfl (rvT (rfl:_=B r45)) (rvT (rfl:_=I 0))) ?_
  exact ⟨_,rfl,rfl,S48.keep⟩
def B_Inside (a0:Int) (a1:Int) (a2:Int):Option Bool:=
 bif decide (a0≥a1) then (some (decide (a0≤a2)))
 else (some false)
set_option maxRecDepth 100000 in
theorem B_Inside_ok {a0:Int}{a1:Int}{a2:Int}{w:World}{r:Bool} (H:B_Inside a0 a1 a2=some r):Calls Tryz.prog 57 #[I a0,I a1,I a2] w (RetV w (B r)):=by
 unfold B_Inside at H
 refine fn_of (n:=15) Tryz.func57 rfl rfl (lE rfl) ?_
 have S:=St.start w nF _ nM
 refine c_seq<|reg<|p_aB rfl<|wp_nil<|c_seq<|reg<|p_mI rfl<|p_mI rfl<|p_cmp rfl rfl rfl<|p_mB rfl ?_
 rcases bE (decide (a0≥a1)) with c1 | c1
 ·replace H:=condT c1 H
  refine eB c1 ?_
  refine gT rfl rfl (p_mI rfl ?_)
  refine gT rfl rfl (p_mI rfl ?_)
  refine gT rfl rfl (p_cmp rfl rfl rfl ?_)
  refine p_pkT rfl (rfl:_=B (decide (a0≤a2)))<|p_aB rfl<|wp_nil ?_
  obtain rfl:=sJ H
  exact c_ret (rT Tryz.f57 S.keep rfl rfl)
 ·replace H:=condF c1 H
  refine eB c1<|gF rfl rfl<|gF rfl rfl<|gF rfl rfl<|p_pkF rfl (rfl:_=B false)<|p_aB rfl<|wp_nil ?_
  obtain rfl:=sJ H
  exact c_ret (rT Tryz.f57 S.keep rfl rfl)
def ref05_isTrip (a0:TallyBook) (a1:Int):Option Bool:=
 (B_Inside a1 0 (wr (a0.Trips - 1))).bind fun r7=>
 some r7
set_option maxRecDepth 100000 in
theorem ref05_isTrip_ok {a0:TallyBook}{a1:Int}{A1:Option Addr}{c2:Nat}{w:World}{r:Bool} (H:ref05_isTrip a0 a1=some r) (h3:(rd eTallyCount 7 A1 c2 a0.Counts).ok w):Calls Tryz.prog 114 #[AG [I a0.Trips,I a0.Room,SL A1 a0.Counts.length c2],I a1] w (RetV w (B r)):=by
 unfold ref05_isTrip at H
 refine fn_of (n:=10) Tryz.func114 rfl rfl (lE rfl) ?_
 have S:=St.start w nF _ (cA h3 nM)
 refine c_seq<|reg<|p_boxA rfl S fun b4 w5 S6=>p_aB rfl<|wp_nil<|c_seq<|reg<|p_mI rfl<|p_fld fl24_0 rfl<|p_ld ty3 (S6.atX (i:=0) rfl) rfl rfl<|p_sub rfl rfl ?_
 obtain ⟨r7,h8,H⟩:=bindS H
 refine p_cv (B_Inside_ok h8) fu57 rfl S6 fun w9 S10=>p_aB rfl<|wp_nil ?_
 obtain rfl:=sJ H
 exact c_ret (rT Tryz.f114 S10.keep rfl rfl)
def ref05_isCount (a0:TallyBook) (a1:TallyCount):Option Bool:=
 (B_Inside a1.Who 0 2).bind fun r10=>
 bif r10 then ((ref05_isTrip a0 a1.From).bind fun r15=>
 bif r15 then ((ref05_isTrip a0 a1.To).bind fun r20=>
 bif r20 then (bif decide (a1.From≤a1.To) then ((B_Inside a1.Told 0 99).bind fun r26=>
 bif r26 then ((B_Inside a1.Unit 1 20).bind fun r31=>
 bif r31 then ((B_Inside a1.Under 0 30).bind fun r36=>
 bif r36 then ((B_Inside a1.Over 0 30).bind fun r41=>
 bif r41 then (bif (a1.Who != 1) then (some true)
 else (some (a1.Over==0)))
 else (some false))
 else (some false))
 else (some false))
 else (some false))
 else (some false))
 else (some false))
 else (some false))
 else (some false)
set_option maxRecDepth 100000 in
theorem ref05_isCount_ok {a0:TallyBook}{a1:TallyCount}{A1:Option Addr}{c2:Nat}{w:World}{r:Bool} (H:ref05_isCount a0 a1=some r) (h3:(rd eTallyCount 7 A1 c2 a0.Counts).ok w):Calls Tryz.prog 91 #[AG [I a0.Trips,I a0.Room,SL A1 a0.Counts.length c2],AG [I a1.Who,I a1.From,I a1.To,I a1.Told,I a1.Unit,I a1.Under,I a1.Over]] w (RetV w (B r)):=by
 unfold ref05_isCount at H
 refine fn_of (n:=57) Tryz.func91 rfl rfl (lE rfl) ?_
 have S:=St.start w nF _ (cA h3 nM)
 refine c_seq<|reg<|p_boxA rfl S fun b4 w5 S6=>p_boxA rfl S6 fun b7 w8 S9=>p_aB rfl<|wp_nil<|c_seq<|reg<|p_fld fl106_0 rfl<|p_ld ty3 (S9.atX (i:=0) rfl) rfl rfl ?_
 obtain ⟨r10,h11,H⟩:=bindS H
 refine p_cv (B_Inside_ok h11) fu57 rfl S9 fun w12 S13=>p_mB rfl ?_
 rcases bE (r10) with c14 | c14
 ·replace H:=condT c14 H
  refine eB c14 ?_
  refine gT rfl rfl (p_ldA ty24 sz24 (S13.atX (i:=1) rfl) rfl rfl ?_)
  refine gT rfl rfl (p_fld fl106_1 rfl ?_)
  refine gT rfl rfl (p_ld ty3 (S13.atX (i:=0) rfl) rfl rfl ?_)
  obtain ⟨r15,h16,H⟩:=bindS H
  refine gT rfl rfl (p_cv (ref05_isTrip_ok h16 (S13.atP (i:=0) rfl)) fu114 rfl S13 fun w17 S18=>?_)
  refine p_pkT rfl (rfl:_=B r15)<|p_mB rfl ?_
  rcases bE (r15) with c19 | c19
  ·replace H:=condT c19 H
   refine eB c19 ?_
   refine gT rfl rfl (p_ldA ty24 sz24 (S18.atX (i:=1) rfl) rfl rfl ?_)
   refine gT rfl rfl (p_fld fl106_2 rfl ?_)
   refine gT rfl rfl (p_ld ty3 (S18.atX (i:=0) rfl) rfl rfl ?_)
   obtain ⟨r20,h21,H⟩:=bindS H
   refine gT rfl rfl (p_cv (ref05_isTrip_ok h21 (S18.atP (i:=0) rfl)) fu114 rfl S18 fun w22 S23=>?_)
   refine p_pkT rfl (rfl:_=B r20)<|p_mB rfl ?_
   rcases bE (r20) with c24 | c24
   ·replace H:=condT c24 H
    refine eB c24 ?_
    refine gT rfl rfl (p_fld fl106_1 rfl ?_)
    refine gT rfl rfl (p_ld ty3 (S23.atX (i:=0) rfl) rfl rfl ?_)
    refine gT rfl rfl (p_fld fl106_2 rfl ?_)
    refine gT rfl rfl (p_ld ty3 (S23.atX (i:=0) rfl) rfl rfl ?_)
    refine gT rfl rfl (p_cmp rfl rfl rfl ?_)
    refine p_pkT rfl (rfl:_=B (decide (a1.From≤a1.To)))<|p_mB rfl ?_
    rcases bE (decide (a1.From≤a1.To)) with c25 | c25
    ·replace H:=condT c25 H
     refine eB c25 ?_
     refine gT rfl rfl (p_fld fl106_3 rfl ?_)
     refine gT rfl rfl (p_ld ty3 (S23.atX (i:=0) rfl) rfl rfl ?_)
     obtain ⟨r26,h27,H⟩:=bindS H
     refine gT rfl rfl (p_cv (B_Inside_ok h27) fu57 rfl S23 fun w28 S29=>?_)
     refine p_pkT rfl (rfl:_=B r26)<|p_mB rfl ?_
     rcases bE (r26) with c30 | c30
     ·replace H:=condT c30 H
      refine eB c30 ?_
      refine gT rfl rfl (p_fld fl106_4 rfl ?_)
      refine gT rfl rfl (p_ld ty3 (S29.atX (i:=0) rfl) rfl rfl ?_)
      obtain ⟨r31,h32,H⟩:=bindS H
      refine gT rfl rfl (p_cv (B_Inside_ok h32) fu57 rfl S29 fun w33 S34=>?_)
      refine p_pkT rfl (rfl:_=B r31)<|p_mB rfl ?_
      rcases bE (r31) with c35 | c35
      ·replace H:=condT c35 H
       refine eB c35 ?_
       refine gT rfl rfl (p_fld fl106_5 rfl ?_)
       refine gT rfl rfl (p_ld ty3 (S34.atX (i:=0) rfl) rfl rfl ?_)
       obtain ⟨r36,h37,H⟩:=bindS H
       refine gT rfl rfl (p_cv (B_Inside_ok h37) fu57 rfl S34 fun w38 S39=>?_)
       refine p_pkT rfl (rfl:_=B r36)<|p_mB rfl ?_
       rcases bE (r36) with c40 | c40
       ·replace H:=condT c40 H
        refine eB c40 ?_
        refine gT rfl rfl (p_fld fl106_6 rfl ?_)
        refine gT rfl rfl (p_ld ty3 (S39.atX (i:=0) rfl) rfl rfl ?_)
        obtain ⟨r41,h42,H⟩:=bindS H
        refine gT rfl rfl (p_cv (B_Inside_ok h42) fu57 rfl S39 fun w43 S44=>?_)
        refine p_pkT rfl (rfl:_=B r41)<|p_mB rfl ?_
        rcases bE (r41) with c45 | c45
        ·replace H:=condT c45 H
         refine eB c45 ?_
         refine gT rfl rfl (p_fld fl106_0 rfl ?_)
         refine gT rfl rfl (p_ld ty3 (S44.atX (i:=0) rfl) rfl rfl ?_)
         refine gT rfl rfl (p_cmp rfl rfl rfl ?_)
         refine gT rfl rfl (p_mB rfl ?_)
         rcases bE ((a1.Who != 1)) with c46 | c46
         ·replace H:=condT c46 H
          refine eB c46<|gF rfl rfl<|gF rfl rfl<|gF rfl rfl ?_
          refine gT rfl rfl (p_pkT rfl (rfl:_=B true) ?_)
          refine p_pkT rfl (rfl:_=B true)<|p_aB rfl<|wp_nil ?_
          obtain rfl:=sJ H
          exact c_ret (rT Tryz.f91 S44.keep rfl rfl)
         ·replace H:=condF c46 H
          refine eB c46 ?_
          refine gT rfl rfl (p_fld fl106_6 rfl ?_)
          refine gT rfl rfl (p_ld ty3 (S44.atX (i:=0) rfl) rfl rfl ?_)
          refine gT rfl rfl (p_cmp rfl rfl rfl ?_)
          refine gT rfl rfl (p_pkF rfl (rfl:_=B (a1.Over==0)) ?_)
          refine p_pkT rfl (rfl:_=B (a1.Over==0))<|p_aB rfl<|wp_nil ?_
          obtain rfl:=sJ H
          exact c_ret (rT Tryz.f91 S44.keep rfl rfl)
        ·replace H:=condF c45 H
         refine eB c45<|gF rfl rfl<|gF rfl rfl<|gF rfl rfl<|gF rfl rfl ?_
         refine o_guardU rfl rfl ?_
         refine o_guardU rfl rfl ?_
         refine o_guardU rfl rfl ?_
         refine gF rfl rfl<|p_pkF rfl (rfl:_=B false)<|p_aB rfl<|wp_nil ?_
         obtain rfl:=sJ H
         exact c_ret (rT Tryz.f91 S44.keep rfl rfl)
       ·replace H:=condF c40 H
        refine eB c40<|gF rfl rfl<|gF rfl rfl<|gF rfl rfl<|p_pkF rfl (rfl:_=B false)<|p_mB rfl<|gF rfl rfl<|gF rfl rfl<|gF rfl rfl<|gF rfl rfl ?_
        refine o_guardU rfl rfl ?_
        refine o_guardU rfl rfl ?_
        refine o_guardU rfl rfl ?_
        refine gF rfl rfl<|p_pkF rfl (rfl:_=B false)<|p_aB rfl<|wp_nil ?_
        obtain rfl:=sJ H
        exact c_ret (rT Tryz.f91 S39.keep rfl rfl)
      ·replace H:=condF c35 H
       refine eB c35<|gF rfl rfl<|gF rfl rfl<|gF rfl rfl<|p_pkF rfl (rfl:_=B false)<|p_mB rfl<|gF rfl rfl<|gF rfl rfl<|gF rfl rfl<|p_pkF rfl (rfl:_=B false)<|p_mB rfl<|gF rfl rfl<|gF rfl rfl<|gF rfl rfl<|gF rfl rfl ?_
       refine o_guardU rfl rfl ?_
       refine o_guardU rfl rfl ?_
       refine o_guardU rfl rfl ?_
       refine gF rfl rfl<|p_pkF rfl (rfl:_=B false)<|p_aB rfl<|wp_nil ?_
       obtain rfl:=sJ H
       exact c_ret (rT Tryz.f91 S34.keep rfl rfl)
     ·replace H:=condF c30 H
      refine eB c30<|gF rfl rfl<|gF rfl rfl<|gF rfl rfl<|p_pkF rfl (rfl:_=B false)<|p_mB rfl<|gF rfl rfl<|gF rfl rfl<|gF rfl rfl<|p_pkF rfl (rfl:_=B false)<|p_mB rfl<|gF rfl rfl<|gF rfl rfl<|gF rfl rfl<|p_pkF rfl (rfl:_=B false)<|p_mB rfl<|gF rfl rfl<|gF rfl rfl<|gF rfl rfl<|gF rfl rfl ?_
      refine o_guardU rfl rfl ?_
      refine o_guardU rfl rfl ?_
      refine o_guardU rfl rfl ?_
      refine gF rfl rfl<|p_pkF rfl (rfl:_=B false)<|p_aB rfl<|wp_nil ?_
      obtain rfl:=sJ H
      exact c_ret (rT Tryz.f91 S29.keep rfl rfl)
    ·replace H:=condF c25 H
     refine eB c25<|gF rfl rfl<|gF rfl rfl<|gF rfl rfl<|p_pkF rfl (rfl:_=B false)<|p_mB rfl<|gF rfl rfl<|gF rfl rfl<|gF rfl rfl<|p_pkF rfl (rfl:_=B false)<|p_mB rfl<|gF rfl rfl<|gF rfl rfl<|gF rfl rfl<|p_pkF rfl (rfl:_=B false)<|p_mB rfl<|gF rfl rfl<|gF rfl rfl<|gF rfl rfl<|p_pkF rfl (rfl:_=B false)<|p_mB rfl<|gF rfl rfl<|gF rfl rfl<|gF rfl rfl<|gF rfl rfl ?_
     refine o_guardU rfl rfl ?_
     refine o_guardU rfl rfl ?_
     refine o_guardU rfl rfl ?_
     refine gF rfl rfl<|p_pkF rfl (rfl:_=B false)<|p_aB rfl<|wp_nil ?_
     obtain rfl:=sJ H
     exact c_ret (rT Tryz.f91 S23.keep rfl rfl)
   ·replace H:=condF c24 H
    refine eB c24<|gF rfl rfl<|gF rfl rfl<|gF rfl rfl<|gF rfl rfl<|gF rfl rfl<|p_pkF rfl (rfl:_=B false)<|p_mB rfl<|gF rfl rfl<|gF rfl rfl<|gF rfl rfl<|p_pkF rfl (rfl:_=B false)<|p_mB rfl<|gF rfl rfl<|gF rfl rfl<|gF rfl rfl<|p_pkF rfl (rfl:_=B false)<|p_mB rfl<|gF rfl rfl<|gF rfl rfl<|gF rfl rfl<|p_pkF rfl (rfl:_=B false)<|p_mB rfl<|gF rfl rfl<|gF rfl rfl<|gF rfl rfl<|p_pkF rfl (rfl:_=B false)<|p_mB rfl<|gF rfl rfl<|gF rfl rfl<|gF rfl rfl ?_
    refine gF rfl rfl ?_
    refine o_guardU rfl rfl ?_
    refine o_guardU rfl rfl ?_
    refine o_guardU rfl rfl ?_
    refine gF rfl rfl<|p_pkF rfl (rfl:_=B false)<|p_aB rfl<|wp_nil ?_
    obtain rfl:=sJ H
    exact c_ret (rT Tryz.f91 S23.keep rfl rfl)
  ·replace H:=condF c19 H
   refine eB c19<|gF rfl rfl<|gF rfl rfl<|gF rfl rfl<|gF rfl rfl<|p_pkF rfl (rfl:_=B false)<|p_mB rfl<|gF rfl rfl<|gF rfl rfl<|gF rfl rfl<|gF rfl rfl<|gF rfl rfl<|p_pkF rfl (rfl:_=B false)<|p_mB rfl<|gF rfl rfl<|gF rfl rfl<|gF rfl rfl<|p_pkF rfl (rfl:_=B false)<|p_mB rfl<|gF rfl rfl<|gF rfl rfl<|gF rfl rfl<|p_pkF rfl (rfl:_=B false)<|p_mB rfl<|gF rfl rfl<|gF rfl rfl<|gF rfl rfl<|p_pkF rfl (rfl:_=B false)<|p_mB rfl<|gF rfl rfl<|gF rfl rfl ?_
   refine gF rfl rfl<|p_pkF rfl (rfl:_=B false)<|p_mB rfl<|gF rfl rfl<|gF rfl rfl<|gF rfl rfl<|gF rfl rfl ?_
   refine o_guardU rfl rfl ?_
   refine o_guardU rfl rfl ?_
   refine o_guardU rfl rfl ?_
   refine gF rfl rfl<|p_pkF rfl (rfl:_=B false)<|p_aB rfl<|wp_nil ?_
   obtain rfl:=sJ H
   exact c_ret (rT Tryz.f91 S18.keep rfl rfl)
 ·replace H:=condF c14 H
  refine eB c14<|gF rfl rfl<|gF rfl rfl<|gF rfl rfl<|gF rfl rfl<|p_pkF rfl (rfl:_=B false)<|p_mB rfl<|gF rfl rfl<|gF rfl rfl<|gF rfl rfl<|gF rfl rfl<|p_pkF rfl (rfl:_=B false)<|p_mB rfl<|gF rfl rfl<|gF rfl rfl<|gF rfl rfl<|gF rfl rfl<|gF rfl rfl<|p_pkF rfl (rfl:_=B false)<|p_mB rfl<|gF rfl rfl<|gF rfl rfl<|gF rfl rfl<|p_pkF rfl (rfl:_=B false)<|p_mB rfl<|gF rfl rfl<|gF rfl rfl<|gF rfl rfl<|p_pkF rfl (rfl:_=B false)<|p_mB rfl<|gF rfl rfl ?_
  refine gF rfl rfl<|gF rfl rfl<|p_pkF rfl (rfl:_=B false)<|p_mB rfl<|gF rfl rfl<|gF rfl rfl<|gF rfl rfl<|p_pkF rfl (rfl:_=B false)<|p_mB rfl<|gF rfl rfl<|gF rfl rfl<|gF rfl rfl<|gF rfl rfl ?_
  refine o_guardU rfl rfl ?_
  refine o_guardU rfl rfl ?_
  refine o_guardU rfl rfl ?_
  refine gF rfl rfl<|p_pkF rfl (rfl:_=B false)<|p_aB rfl<|wp_nil ?_
  obtain rfl:=sJ H
  exact c_ret (rT Tryz.f91 S13.keep rfl rfl)
def ref05_Check_j3 (z_3:Bool):Option Int:=
 bif !z_3 then (some 50)
 else (some 0)
def ref05_Check_l4 (a0:TallyBook) (rec_z_2:(Bool×Int)→Option Int) (z_2:Bool×Int):Option Int:=
 bif z_2.1 then (bif decide (z_2.2 < (a0.Counts.length:Int)) then ((getI a0.Counts z_2.2).bind fun r16=>
 (ref05_isCount a0 r16).bind fun r18=>
 rec_z_2 (r18,wr (z_2.2+1)))
 else (ref05_Check_j3 z_2.1))
 else (ref05_Check_j3 z_2.1)
def ref05_Check_j5 (a0:TallyBook) (z_1:Bool):Option Int:=
 loopF (ref05_Check_l4 a0) big (z_1,0)
def ref05_Check (a0:TallyBook):Option Int:=
 (B_Inside a0.Trips 1 8).bind fun r7=>
 bif r7 then ((B_Inside a0.Room 0 60).bind fun r12=>
 bif r12 then (ref05_Check_j5 a0 (decide ((a0.Counts.length:Int)≤8)))
 else (ref05_Check_j5 a0 false))
 else (ref05_Check_j5 a0 false)
set_option maxRecDepth 100000 in
theorem ref05_Check_ok {a0:TallyBook}{A1:Option Addr}{c2:Nat}{w:World}{r:Int} (H:ref05_Check a0=some r) (h3:(rd eTallyCount 7 A1 c2 a0.Counts).ok w):Calls Tryz.prog 56 #[AG [I a0.Trips,I a0.Room,SL A1 a0.Counts.length c2]] w (RetV w (I r)):=by
 unfold ref05_Check at H
 refine fn_of (n:=38) Tryz.func56 rfl rfl (lE rfl) ?_
 have S:=St.start w nF _ (cA h3 nM)
 refine c_seq<|reg<|p_boxA rfl S fun b4 w5 S6=>p_aI rfl<|wp_nil ?_
 refine c_join (α:=Bool) (β:=Unit) (fun z_1 y_1=>[(1,P b4 0),(3,B z_1)]) (fun z_1 y_1 w_=>ref05_Check_j5 a0 z_1=some r∧St w nF w_ [bl b4 [I a0.Trips,I a0.Room,SL A1 a0.Counts.length c2] 24] [rd eTallyCount 7 A1 c2 a0.Counts]) ?_ ?_
 ·refine reg<|p_fld fl24_0 rfl<|p_ld ty3 (S6.atX (i:=0) rfl) rfl rfl ?_
  obtain ⟨r7,h8,H⟩:=bindS H
  refine p_cv (B_Inside_ok h8) fu57 rfl S6 fun w9 S10=>p_mB rfl ?_
  rcases bE (r7) with c11 | c11
  ·replace H:=condT c11 H
   refine eB c11 ?_
   refine gT rfl rfl (p_fld fl24_1 rfl ?_)
   refine gT rfl rfl (p_ld ty3 (S10.atX (i:=0) rfl) rfl rfl ?_)
   obtain ⟨r12,h13,H⟩:=bindS H
   refine gT rfl rfl (p_cv (B_Inside_ok h13) fu57 rfl S10 fun w14 S15=>?_)
   refine p_pkT rfl (rfl:_=B r12)<|p_mB rfl ?_
   rcases bE (r12) with c16 | c16
   ·replace H:=condT c16 H
    refine eB c16 ?_
    refine gT rfl rfl (p_fld fl24_2 rfl ?_)
    refine gT rfl rfl (p_ld ty22 (S15.atX (i:=0) rfl) rfl rfl ?_)
    refine gT rfl rfl (p_len rfl sc22 ?_)
    refine gT rfl rfl (p_cmp rfl rfl rfl ?_)
    exact p_pkT rfl (rfl:_=B (decide ((a0.Counts.length:Int)≤8)))<|p_aB rfl<|wp_nil ⟨decide ((a0.Counts.length:Int)≤8),(),_,rfl,⟨rfl,rfl,trivial⟩,H,S15⟩
   ·replace H:=condF c16 H
    refine eB c16<|gF rfl rfl<|gF rfl rfl<|gF rfl rfl<|gF rfl rfl<|p_pkF rfl (rfl:_=B false)<|p_aB rfl<|wp_nil ?_
    exact ⟨false,(),_,rfl,⟨rfl,rfl,trivial⟩,H,S15⟩
  ·replace H:=condF c11 H
   refine eB c11<|gF rfl rfl<|gF rfl rfl<|gF rfl rfl<|p_pkF rfl (rfl:_=B false)<|p_mB rfl<|gF rfl rfl<|gF rfl rfl<|gF rfl rfl<|gF rfl rfl<|p_pkF rfl (rfl:_=B false)<|p_aB rfl<|wp_nil ?_
   exact ⟨false,(),_,rfl,⟨rfl,rfl,trivial⟩,H,S10⟩
 ·intro z_1 y_1 e7 w8 S9; obtain ⟨H,S9⟩:=S9
  unfold ref05_Check_j5 at H
  refine c_join (α:=Bool) (β:=Unit) (fun z_3 y_3=>[(3,B z_3)]) (fun z_3 y_3 w_=>ref05_Check_j3 z_3=some r∧St w nF w_ [] [rd eTallyCount 7 A1 c2 a0.Counts]) ?_ ?_
  ·refine c_seq<|reg<|p_aI rfl<|wp_nil<|c_block ?_
   refine c_lop (α:=Bool×Int) (β:=Unit) (ref05_Check_l4 a0) (fun z_2 y_2=>[(1,P b4 0),(3,B z_2.1),(4,I z_2.2)]) (fun z_2 y_2 w_=>St w nF w_ [bl b4 [I a0.Trips,I a0.Room,SL A1 a0.Counts.length c2] 24] [rd eTallyCount 7 A1 c2 a0.Counts]) (z_1,0) () H ⟨rfl,rfl,rfl,trivial⟩ S9 ?_
   intro m10 z_2 y_2 e11 w12 H S13
   unfold ref05_Check_l4 at H
   refine c_seq<|c_seq<|reg<|p_mB rfl<|p_mB rfl ?_
   rcases bE (z_2.1) with c14 | c14
   ·replace H:=condT c14 H
    refine eB c14 ?_
    refine gT rfl rfl (p_mI rfl ?_)
    refine gT rfl rfl (p_fld fl24_2 rfl ?_)
    refine gT rfl rfl (p_ld ty22 (S13.atX (i:=0) rfl) rfl rfl ?_)
    refine gT rfl rfl (p_len rfl sc22 ?_)
    refine gT rfl rfl (p_cmp rfl rfl rfl ?_)
    refine p_pkT rfl (rfl:_=B (decide (z_2.2 < (a0.Counts.length:Int))))<|wp_nil ?_
    refine c_cond rfl (fun c15=>?_) (fun c15=>?_)
    ·replace H:=condT c15 H
     refine c_skip<|c_seq<|c_block ?_
     obtain ⟨r16,h17,H⟩:=bindS H
     obtain ⟨r18,h19,H⟩:=bindS H
     refine reg_q mixed 8 (by kernel_rfl) ?_
     refine dS (fun _ k_=>p_ldA ty24 sz24 (aS (S13.atX (i:=0) rfl) k_) rfl rfl dn)<|dS (fun _ k_=>p_fld fl24_2 rfl dn)<|dS (fun _ k_=>p_ld ty22 (aS (S13.atX (i:=0) rfl) k_) rfl rfl dn)<|dS (fun _ k_=>p_mI rfl dn)<|dS (fun _ k_=>p_ixE sc22 h17 (aS (S13.atP (i:=0) rfl) k_).1 rfl rfl rfl dn)<|dS (fun _ k_=>p_ldEA ty106 sz106 rfl h17 (aS (S13.atP (i:=0) rfl) k_).1 rfl dn) ?_
     refine dS (fun _ k_=>p_cvD (ref05_isCount_ok h19 (aS (S13.atP (i:=0) rfl) k_)) fu91 rfl)<|dS (fun _ k_=>p_aB rfl dn) ?_
     intro w20 k21; have S22:=S13.call k21
     exact wp_nil<|reg<|p_mI rfl<|p_add rfl rfl<|p_aI rfl<|wp_nil ⟨(r18,wr (z_2.2+1)),(),_,rfl,⟨rfl,rfl,rfl,trivial⟩,H,S22⟩
    ·replace H:=condF c15 H
     refine c_exit ?_
     have S23:=S13.pk [] (by decide) [0] rfl rfl
     exact ⟨z_2.1,(),_,rfl,⟨rfl,trivial⟩,H,S23⟩
   ·replace H:=condF c14 H
    refine eB c14<|gF rfl rfl<|gF rfl rfl<|gF rfl rfl<|gF rfl rfl<|gF rfl rfl<|p_pkF rfl (rfl:_=B false)<|wp_nil<|c_false rfl<|c_exit ?_
    have S23:=S13.pk [] (by decide) [0] rfl rfl
    exact ⟨z_2.1,(),_,rfl,⟨rfl,trivial⟩,H,S23⟩
  ·intro z_3 y_3 e10 w11 S12; obtain ⟨H,S12⟩:=S12
   unfold ref05_Check_j3 at H
   refine c_seq<|c_seq<|reg<|p_mB rfl<|p_not rfl<|wp_nil ?_
   refine c_cond rfl (fun c13=>?_) (fun c13=>?_)
   ·replace H:=condT c13 H
    refine c_seq<|reg<|p_aI rfl<|wp_nil ?_
    obtain rfl:=sJ H
    exact c_ret (rT Tryz.f56 S12.keep rfl rfl)
   ·replace H:=condF c13 H
    refine c_skip<|c_seq<|reg<|p_aI rfl<|wp_nil ?_
    obtain rfl:=sJ H
    exact c_ret (rT Tryz.f56 S12.keep rfl rfl)
def ref10_isTrip (a0:TicketBook) (a1:Int):Option Bool:=
 (B_Inside a1 0 (wr (a0.Tally.Trips - 1))).bind fun r16=>
 some r16
set_option maxRecDepth 100000 in
theorem ref10_isTrip_ok {a0:TicketBook}{a1:Int}{A1:Option Addr}{c2:Nat}{A4:Option Addr}{c5:Nat}{A7:Option Addr}{c8:Nat}{A10:Option Addr}{c11:Nat}{w:World}{r:Bool} (H:ref10_isTrip a0 a1=some r) (h3:(rd eTallyCount 7 A1 c2 a0.Tally.Counts).ok w) (h6:(rd eTicketSeason 2 A4 c5 a0.Tickets).ok w) (h9:(rd eTicketShow 3 A7 c8 a0.Shows).ok w) (h12:(rd eTicketBox 4 A10 c11 a0.Boxes).ok w):Calls Tryz.prog 59 #[AG (vB a0 A1 c2 A4 c5 A7 c8 A10 c11),I a1] w (RetV w (B r)):=by
 unfold ref10_isTrip at H
 refine fn_of (n:=11) Tryz.func59 rfl rfl (lE rfl) ?_
 have S:=St.start w nF _ (cA h3 (cA h6 (cA h9 (cA h12 nM))))
 refine c_seq<|reg<|p_boxA rfl S fun b13 w14 S15=>p_aB rfl<|wp_nil<|c_seq<|reg<|p_mI rfl<|p_fld fl29_0 rfl<|p_fld fl24_0 rfl<|p_ld ty3 (S15.atX (i:=0) rfl) rfl rfl<|p_sub rfl rfl ?_
 obtain ⟨r16,h17,H⟩:=bindS H
 refine p_cv (B_Inside_ok h17) fu57 rfl S15 fun w18 S19=>p_aB rfl<|wp_nil ?_
 obtain rfl:=sJ H
 exact c_ret (rT Tryz.f59 S19.keep rfl rfl)
def ref10_trips (a0:TicketBook) (a1:Int) (a2:Int):Option Bool:=
 (ref10_isTrip a0 a1).bind fun r16=>
 bif r16 then ((ref10_isTrip a0 a2).bind fun r21=>
 bif r21 then (some (decide (a1≤a2)))
 else (some false))
 else (some false)
set_option maxRecDepth 100000 in
theorem ref10_trips_ok {a0:TicketBook}{a1:Int}{a2:Int}{A1:Option Addr}{c2:Nat}{A4:Option Addr}{c5:Nat}{A7:Option Addr}{c8:Nat}{A10:Option Addr}{c11:Nat}{w:World}{r:Bool} (H:ref10_trips a0 a1 a2=some r) (h3:(rd eTallyCount 7 A1 c2 a0.Tally.Counts).ok w) (h6:(rd eTicketSeason 2 A4 c5 a0.Tickets).ok w) (h9:(rd eTicketShow 3 A7 c8 a0.Shows).ok w) (h12:(rd eTicketBox 4 A10 c11 a0.Boxes).ok w):Calls Tryz.prog 58 #[AG (vB a0 A1 c2 A4 c5 A7 c8 A10 c11),I a1,I a2] w (RetV w (B r)):=by
 unfold ref10_trips at H
 refine fn_of (n:=20) Tryz.func58 rfl rfl (lE rfl) ?_
 have S:=St.start w nF _ (cA h3 (cA h6 (cA h9 (cA h12 nM))))
 refine c_seq<|reg<|p_boxA rfl S fun b13 w14 S15=>p_aB rfl<|wp_nil<|c_seq<|reg<|p_ldA ty29 sz29 (S15.atX (i:=0) rfl) rfl rfl<|p_mI rfl ?_
 obtain ⟨r16,h17,H⟩:=bindS H
 refine p_cv (ref10_isTrip_ok h17 (S15.atP (i:=0) rfl) (S15.atP (i:=1) rfl) (S15.atP (i:=2) rfl) (S15.atP (i:=3) rfl)) fu59 rfl S15 fun w18 S19=>p_mB rfl ?_
 rcases bE (r16) with c20 | c20
 ·replace H:=condT c20 H
  refine eB c20 ?_
  refine gT rfl rfl (p_ldA ty29 sz29 (S19.atX (i:=0) rfl) rfl rfl ?_)
  refine gT rfl rfl (p_mI rfl ?_)
  obtain ⟨r21,h22,H⟩:=bindS H
  refine gT rfl rfl (p_cv (ref10_isTrip_ok h22 (S19.atP (i:=0) rfl) (S19.atP (i:=1) rfl) (S19.atP (i:=2) rfl) (S19.atP (i:=3) rfl)) fu59 rfl S19 fun w23 S24=>?_)
  refine p_pkT rfl (rfl:_=B r21)<|p_mB rfl ?_
  rcases bE (r21) with c25 | c25
  ·replace H:=condT c25 H
   refine eB c25 ?_
   refine gT rfl rfl (p_mI rfl ?_)
   refine gT rfl rfl (p_mI rfl ?_)
   refine gT rfl rfl (p_cmp rfl rfl rfl ?_)
   refine p_pkT rfl (rfl:_=B (decide (a1≤a2)))<|p_aB rfl<|wp_nil ?_
   obtain rfl:=sJ H
   exact c_ret (rT Tryz.f58 S24.keep rfl rfl)
  ·replace H:=condF c25 H
   refine eB c25<|gF rfl rfl<|gF rfl rfl<|gF rfl rfl<|p_pkF rfl (rfl:_=B false)<|p_aB rfl<|wp_nil ?_
   obtain rfl:=sJ H
   exact c_ret (rT Tryz.f58 S24.keep rfl rfl)
 ·replace H:=condF c20 H
  refine eB c20<|gF rfl rfl<|gF rfl rfl<|gF rfl rfl<|p_pkF rfl (rfl:_=B false)<|p_mB rfl<|gF rfl rfl<|gF rfl rfl<|gF rfl rfl<|p_pkF rfl (rfl:_=B false)<|p_aB rfl<|wp_nil ?_
  obtain rfl:=sJ H
  exact c_ret (rT Tryz.f58 S19.keep rfl rfl)
def ref10_isTicket (a0:TicketBook) (a1:Int):Option Bool:=
 (B_Inside a1 0 (wr ((a0.Tickets.length:Int) - 1))).bind fun r16=>
 some r16
set_option maxRecDepth 100000 in
theorem ref10_isTicket_ok {a0:TicketBook}{a1:Int}{A1:Option Addr}{c2:Nat}{A4:Option Addr}{c5:Nat}{A7:Option Addr}{c8:Nat}{A10:Option Addr}{c11:Nat}{w:World}{r:Bool} (H:ref10_isTicket a0 a1=some r) (h3:(rd eTallyCount 7 A1 c2 a0.Tally.Counts).ok w) (h6:(rd eTicketSeason 2 A4 c5 a0.Tickets).ok w) (h9:(rd eTicketShow 3 A7 c8 a0.Shows).ok w) (h12:(rd eTicketBox 4 A10 c11 a0.Boxes).ok w):Calls Tryz.prog 60 #[AG (vB a0 A1 c2 A4 c5 A7 c8 A10 c11),I a1] w (RetV w (B r)):=by
 unfold ref10_isTicket at H
 refine fn_of (n:=11) Tryz.func60 rfl rfl (lE rfl) ?_
 have S:=St.start w nF _ (cA h3 (cA h6 (cA h9 (cA h12 nM))))
 refine c_seq<|reg<|p_boxA rfl S fun b13 w14 S15=>p_aB rfl<|wp_nil<|c_seq<|reg<|p_mI rfl<|p_fld fl29_2 rfl<|p_ld ty25 (S15.atX (i:=0) rfl) rfl rfl<|p_len rfl sc25<|p_sub rfl rfl ?_
 obtain ⟨r16,h17,H⟩:=bindS H
 refine p_cv (B_Inside_ok h17) fu57 rfl S15 fun w18 S19=>p_aB rfl<|wp_nil ?_
 obtain rfl:=sJ H
 exact c_ret (rT Tryz.f60 S19.keep rfl rfl)
def ref10_isBox (a0:TicketBook) (a1:TicketBox):Option Bool:=
 (ref10_trips a0 a1.From a1.To).bind fun r19=>
 bif r19 then ((B_Inside a1.Pence 0 400).bind fun r24=>
 bif r24 then ((B_Inside a1.Lost 0 40).bind fun r29=>
 some r29)
 else (some false))
 else (some false)
set_option maxRecDepth 100000 in
theorem ref10_isBox_ok {a0:TicketBook}{a1:TicketBox}{A1:Option Addr}{c2:Nat}{A4:Option Addr}{c5:Nat}{A7:Option Addr}{c8:Nat}{A10:Option Addr}{c11:Nat}{w:World}{r:Bool} (H:ref10_isBox a0 a1=some r) (h3:(rd eTallyCount 7 A1 c2 a0.Tally.Counts).ok w) (h6:(rd eTicketSeason 2 A4 c5 a0.Tickets).ok w) (h9:(rd eTicketShow 3 A7 c8 a0.Shows).ok w) (h12:(rd eTicketBox 4 A10 c11 a0.Boxes).ok w):Calls Tryz.prog 61 #[AG (vB a0 A1 c2 A4 c5 A7 c8 A10 c11),AG [I a1.From,I a1.To,I a1.Pence,I a1.Lost]] w (RetV w (B r)):=by
 unfold ref10_isBox at H
 refine fn_of (n:=21) Tryz.func61 rfl rfl (lE rfl) ?_
 have S:=St.start w nF _ (cA h3 (cA h6 (cA h9 (cA h12 nM))))
 refine c_seq<|reg<|p_boxA rfl S fun b13 w14 S15=>p_boxA rfl S15 fun b16 w17 S18=>p_aB rfl<|wp_nil<|c_seq<|reg<|p_ldA ty29 sz29 (S18.atX (i:=1) rfl) rfl rfl<|p_fld fl39_0 rfl<|p_ld ty3 (S18.atX (i:=0) rfl) rfl rfl<|p_fld fl39_1 rfl<|p_ld ty3 (S18.atX (i:=0) rfl) rfl rfl ?_
 obtain ⟨r19,h20,H⟩:=bindS H
 refine p_cv (ref10_trips_ok h20 (S18.atP (i:=0) rfl) (S18.atP (i:=1) rfl) (S18.atP (i:=2) rfl) (S18.atP (i:=3) rfl)) fu58 rfl S18 fun w21 S22=>p_mB rfl ?_
 rcases bE (r19) with c23 | c23
 ·replace H:=condT c23 H
  refine eB c23 ?_
  refine gT rfl rfl (p_fld fl39_2 rfl ?_)
  refine gT rfl rfl (p_ld ty3 (S22.atX (i:=0) rfl) rfl rfl ?_)
  obtain ⟨r24,h25,H⟩:=bindS H
  refine gT rfl rfl (p_cv (B_Inside_ok h25) fu57 rfl S22 fun w26 S27=>?_)
  refine p_pkT rfl (rfl:_=B r24)<|p_mB rfl ?_
  rcases bE (r24) with c28 | c28
  ·replace H:=condT c28 H
   refine eB c28 ?_
   refine gT rfl rfl (p_fld fl39_3 rfl ?_)
   refine gT rfl rfl (p_ld ty3 (S27.atX (i:=0) rfl) rfl rfl ?_)
   obtain ⟨r29,h30,H⟩:=bindS H
   refine gT rfl rfl (p_cv (B_Inside_ok h30) fu57 rfl S27 fun w31 S32=>?_)
   refine p_pkT rfl (rfl:_=B r29)<|p_aB rfl<|wp_nil ?_
   obtain rfl:=sJ H
   exact c_ret (rT Tryz.f61 S32.keep rfl rfl)
  ·replace H:=condF c28 H
   refine eB c28<|gF rfl rfl<|gF rfl rfl<|gF rfl rfl<|p_pkF rfl (rfl:_=B false)<|p_aB rfl<|wp_nil ?_
   obtain rfl:=sJ H
   exact c_ret (rT Tryz.f61 S27.keep rfl rfl)
 ·replace H:=condF c23 H
  refine eB c23<|gF rfl rfl<|gF rfl rfl<|gF rfl rfl<|p_pkF rfl (rfl:_=B false)<|p_mB rfl<|gF rfl rfl<|gF rfl rfl<|gF rfl rfl<|p_pkF rfl (rfl:_=B false)<|p_aB rfl<|wp_nil ?_
  obtain rfl:=sJ H
  exact c_ret (rT Tryz.f61 S22.keep rfl rfl)
def ref10_Check_j7 (z_7:Bool):Option Int:=
 bif !z_7 then (some 100)
 else (some 0)
def ref10_Check_l8 (a0:TicketBook) (rec_z_6:(Bool×Int)→Option Int) (z_6:Bool×Int):Option Int:=
 bif z_6.1 then (bif decide (z_6.2 < (a0.Boxes.length:Int)) then ((getI a0.Boxes z_6.2).bind fun r31=>
 (ref10_isBox a0 r31).bind fun r33=>
 rec_z_6 (r33,wr (z_6.2+1)))
 else (ref10_Check_j7 z_6.1))
 else (ref10_Check_j7 z_6.1)
def ref10_Check_j9 (a0:TicketBook) (z_5:Bool):Option Int:=
 loopF (ref10_Check_l8 a0) big (z_5,0)
def ref10_Check_l10 (a0:TicketBook) (rec_z_4:(Bool×Int)→Option Int) (z_4:Bool×Int):Option Int:=
 bif z_4.1 then (bif decide (z_4.2 < (a0.Shows.length:Int)) then ((getI a0.Shows z_4.2).bind fun r28=>
 (ref10_isTrip a0 r28.Trip).bind fun r35=>
 bif r35 then ((ref10_isTicket a0 r28.Ticket).bind fun r40=>
 bif r40 then ((B_Inside r28.Walker 0 9).bind fun r45=>
 rec_z_4 (r45,wr (z_4.2+1)))
 else (rec_z_4 (false,wr (z_4.2+1))))
 else (rec_z_4 (false,wr (z_4.2+1))))
 else (ref10_Check_j9 a0 z_4.1))
 else (ref10_Check_j9 a0 z_4.1)
def ref10_Check_j11 (a0:TicketBook) (z_3:Bool):Option Int:=
 loopF (ref10_Check_l10 a0) big (z_3,0)
def ref10_Check_l12 (a0:TicketBook) (rec_z_2:(Bool×Int)→Option Int) (z_2:Bool×Int):Option Int:=
 bif z_2.1 then (bif decide (z_2.2 < (a0.Tickets.length:Int)) then ((getI a0.Tickets z_2.2).bind fun r25=>
 (getI a0.Tickets z_2.2).bind fun r27=>
 (ref10_trips a0 r25.From r27.To).bind fun r29=>
 rec_z_2 (r29,wr (z_2.2+1)))
 else (ref10_Check_j11 a0 z_2.1))
 else (ref10_Check_j11 a0 z_2.1)
def ref10_Check_j13 (a0:TicketBook) (z_1:Bool):Option Int:=
 loopF (ref10_Check_l12 a0) big (z_1,0)
def ref10_Check (a0:TicketBook):Option Int:=
 (ref05_Check a0.Tally).bind fun r16=>
 bif (r16==0) then (bif decide (a0.Tally.Trips≤3) then (bif decide (a0.Tally.Room≤5) then ((B_Inside a0.Fare 1 20).bind fun r23=>
 bif r23 then (bif decide ((a0.Tickets.length:Int)≤3) then (bif decide ((a0.Shows.length:Int)≤5) then (ref10_Check_j13 a0 (decide ((a0.Boxes.length:Int)≤3)))
 else (ref10_Check_j13 a0 false))
 else (ref10_Check_j13 a0 false))
 else (ref10_Check_j13 a0 false))
 else (ref10_Check_j13 a0 false))
 else (ref10_Check_j13 a0 false))
 else (ref10_Check_j13 a0 false)
set_option maxRecDepth 100000 in
theorem ref10_Check_ok {a0:TicketBook}{A1:Option Addr}{c2:Nat}{A4:Option Addr}{c5:Nat}{A7:Option Addr}{c8:Nat}{A10:Option Addr}{c11:Nat}{w:World}{r:Int} (H:ref10_Check a0=some r) (h3:(rd eTallyCount 7 A1 c2 a0.Tally.Counts).ok w) (h6:(rd eTicketSeason 2 A4 c5 a0.Tickets).ok w) (h9:(rd eTicketShow 3 A7 c8 a0.Shows).ok w) (h12:(rd eTicketBox 4 A10 c11 a0.Boxes).ok w):Calls Tryz.prog 19 #[AG (vB a0 A1 c2 A4 c5 A7 c8 A10 c11)] w (RetV w (I r)):=by
 unfold ref10_Check at H
 refine fn_of (n:=120) Tryz.func19 rfl rfl (lE rfl) ?_
 have S:=St.start w nF _ (cA h3 (cA h6 (cA h9 (cA h12 nM))))
 refine c_seq<|reg<|p_boxA rfl S fun b13 w14 S15=>p_aI rfl<|wp_nil ?_
 refine c_join (α:=Bool) (β:=Unit) (fun z_1 y_1=>[(1,P b13 0),(3,B z_1)]) (fun z_1 y_1 w_=>ref10_Check_j13 a0 z_1=some r∧St w nF w_ [bl b13 (vB a0 A1 c2 A4 c5 A7 c8 A10 c11) 29] [rd eTallyCount 7 A1 c2 a0.Tally.Counts,rd eTicketSeason 2 A4 c5 a0.Tickets,rd eTicketShow 3 A7 c8 a0.Shows,rd eTicketBox 4 A10 c11 a0.Boxes]) ?_ ?_
 ·refine reg<|p_fld fl29_0 rfl<|p_ldP (vs:=[I a0.Tally.Trips,I a0.Tally.Room,SL A1 a0.Tally.Counts.length c2]) ty24 sz24 (S15.atX (i:=0) rfl) rfl rfl rfl ?_
  obtain ⟨r16,h17,H⟩:=bindS H
  refine p_cv (ref05_Check_ok h17 (S15.atP (i:=0) rfl)) fu56 rfl S15 fun w18 S19=>p_cmp rfl rfl rfl<|p_mB rfl ?_
  rcases bE ((r16==0)) with c20 | c20
  ·replace H:=condT c20 H
   refine eB c20 ?_
   refine gT rfl rfl (p_fld fl29_0 rfl ?_)
   refine gT rfl rfl (p_fld fl24_0 rfl ?_)
   refine gT rfl rfl (p_ld ty3 (S19.atX (i:=0) rfl) rfl rfl ?_)
   refine gT rfl rfl (p_cmp rfl rfl rfl ?_)
   refine p_pkT rfl (rfl:_=B (decide (a0.Tally.Trips≤3)))<|p_mB rfl ?_
   rcases bE (decide (a0.Tally.Trips≤3)) with c21 | c21
   ·replace H:=condT c21 H
    refine eB c21 ?_
    refine gT rfl rfl (p_fld fl29_0 rfl ?_)
    refine gT rfl rfl (p_fld fl24_1 rfl ?_)
    refine gT rfl rfl (p_ld ty3 (S19.atX (i:=0) rfl) rfl rfl ?_)
    refine gT rfl rfl (p_cmp rfl rfl rfl ?_)
    refine p_pkT rfl (rfl:_=B (decide (a0.Tally.Room≤5)))<|p_mB rfl ?_
    rcases bE (decide (a0.Tally.Room≤5)) with c22 | c22
    ·replace H:=condT c22 H
     refine eB c22 ?_
     refine gT rfl rfl (p_fld fl29_1 rfl ?_)
     refine gT rfl rfl (p_ld ty3 (S19.atX (i:=0) rfl) rfl rfl ?_)
     obtain ⟨r23,h24,H⟩:=bindS H
     refine gT rfl rfl (p_cv (B_Inside_ok h24) fu57 rfl S19 fun w25 S26=>?_)
     refine p_pkT rfl (rfl:_=B r23)<|p_mB rfl ?_
     rcases bE (r23) with c27 | c27
     ·replace H:=condT c27 H
      refine eB c27 ?_
      refine gT rfl rfl (p_fld fl29_2 rfl ?_)
      refine gT rfl rfl (p_ld ty25 (S26.atX (i:=0) rfl) rfl rfl ?_)
      refine gT rfl rfl (p_len rfl sc25 ?_)
      refine gT rfl rfl (p_cmp rfl rfl rfl ?_)
      refine p_pkT rfl (rfl:_=B (decide ((a0.Tickets.length:Int)≤3)))<|p_mB rfl ?_
      rcases bE (decide ((a0.Tickets.length:Int)≤3)) with c28 | c28
      ·replace H:=condT c28 H
       refine eB c28 ?_
       refine gT rfl rfl (p_fld fl29_3 rfl ?_)
       refine gT rfl rfl (p_ld ty26 (S26.atX (i:=0) rfl) rfl rfl ?_)
       refine gT rfl rfl (p_len rfl sc26 ?_)
       refine gT rfl rfl (p_cmp rfl rfl rfl ?_)
       refine p_pkT rfl (rfl:_=B (decide ((a0.Shows.length:Int)≤5)))<|p_mB rfl ?_
       rcases bE (decide ((a0.Shows.length:Int)≤5)) with c29 | c29
       ·replace H:=condT c29 H
        refine eB c29 ?_
        refine gT rfl rfl (p_fld fl29_4 rfl ?_)
        refine gT rfl rfl (p_ld ty27 (S26.atX (i:=0) rfl) rfl rfl ?_)
        refine gT rfl rfl (p_len rfl sc27 ?_)
        refine gT rfl rfl (p_cmp rfl rfl rfl ?_)
        exact p_pkT rfl (rfl:_=B (decide ((a0.Boxes.length:Int)≤3)))<|p_aB rfl<|wp_nil ⟨decide ((a0.Boxes.length:Int)≤3),(),_,rfl,⟨rfl,rfl,trivial⟩,H,S26⟩
       ·replace H:=condF c29 H
        refine eB c29<|gF rfl rfl<|gF rfl rfl<|gF rfl rfl<|gF rfl rfl<|p_pkF rfl (rfl:_=B false)<|p_aB rfl<|wp_nil ?_
        exact ⟨false,(),_,rfl,⟨rfl,rfl,trivial⟩,H,S26⟩
      ·replace H:=condF c28 H
       refine eB c28<|gF rfl rfl<|gF rfl rfl<|gF rfl rfl<|gF rfl rfl<|p_pkF rfl (rfl:_=B false)<|p_mB rfl<|gF rfl rfl<|gF rfl rfl<|gF rfl rfl<|gF rfl rfl<|p_pkF rfl (rfl:_=B false)<|p_aB rfl<|wp_nil ?_
       exact ⟨false,(),_,rfl,⟨rfl,rfl,trivial⟩,H,S26⟩
     ·replace H:=condF c27 H
      refine eB c27<|gF rfl rfl<|gF rfl rfl<|gF rfl rfl<|gF rfl rfl<|p_pkF rfl (rfl:_=B false)<|p_mB rfl<|gF rfl rfl<|gF rfl rfl<|gF rfl rfl<|gF rfl rfl<|p_pkF rfl (rfl:_=B false)<|p_mB rfl<|gF rfl rfl<|gF rfl rfl<|gF rfl rfl<|gF rfl rfl<|p_pkF rfl (rfl:_=B false)<|p_aB rfl<|wp_nil ?_
      exact ⟨false,(),_,rfl,⟨rfl,rfl,trivial⟩,H,S26⟩
    ·replace H:=condF c22 H
     refine eB c22<|gF rfl rfl<|gF rfl rfl<|gF rfl rfl<|p_pkF rfl (rfl:_=B false)<|p_mB rfl<|gF rfl rfl<|gF rfl rfl<|gF rfl rfl<|gF rfl rfl<|p_pkF rfl (rfl:_=B false)<|p_mB rfl<|gF rfl rfl<|gF rfl rfl<|gF rfl rfl<|gF rfl rfl<|p_pkF rfl (rfl:_=B false)<|p_mB rfl<|gF rfl rfl<|gF rfl rfl<|gF rfl rfl<|gF rfl rfl<|p_pkF rfl (rfl:_=B false)<|p_aB rfl<|wp_nil ?_
     exact ⟨false,(),_,rfl,⟨rfl,rfl,trivial⟩,H,S19⟩
   ·replace H:=condF c21 H
    refine eB c21<|gF rfl rfl<|gF rfl rfl<|gF rfl rfl<|gF rfl rfl<|p_pkF rfl (rfl:_=B false)<|p_mB rfl<|gF rfl rfl<|gF rfl rfl<|gF rfl rfl<|p_pkF rfl (rfl:_=B false)<|p_mB rfl<|gF rfl rfl<|gF rfl rfl<|gF rfl rfl<|gF rfl rfl<|p_pkF rfl (rfl:_=B false)<|p_mB rfl<|gF rfl rfl<|gF rfl rfl<|gF rfl rfl<|gF rfl rfl<|p_pkF rfl (rfl:_=B false)<|p_mB rfl<|gF rfl rfl<|gF rfl rfl<|gF rfl rfl<|gF rfl rfl<|p_pkF rfl (rfl:_=B false)<|p_aB rfl<|wp_nil ?_
    exact ⟨false,(),_,rfl,⟨rfl,rfl,trivial⟩,H,S19⟩
  ·replace H:=condF c20 H
   refine eB c20<|gF rfl rfl<|gF rfl rfl<|gF rfl rfl<|gF rfl rfl<|p_pkF rfl (rfl:_=B false)<|p_mB rfl<|gF rfl rfl<|gF rfl rfl<|gF rfl rfl<|gF rfl rfl<|p_pkF rfl (rfl:_=B false)<|p_mB rfl<|gF rfl rfl<|gF rfl rfl<|gF rfl rfl<|p_pkF rfl (rfl:_=B false)<|p_mB rfl<|gF rfl rfl<|gF rfl rfl<|gF rfl rfl<|gF rfl rfl<|p_pkF rfl (rfl:_=B false)<|p_mB rfl<|gF rfl rfl<|gF rfl rfl<|gF rfl rfl<|gF rfl rfl<|p_pkF rfl (rfl:_=B false)<|p_mB rfl<|gF rfl rfl ?_
   exact gF rfl rfl<|gF rfl rfl<|gF rfl rfl<|p_pkF rfl (rfl:_=B false)<|p_aB rfl<|wp_nil ⟨false,(),_,rfl,⟨rfl,rfl,trivial⟩,H,S19⟩
 ·intro z_1 y_1 e16 w17 S18; obtain ⟨H,S18⟩:=S18
  unfold ref10_Check_j13 at H
  refine c_join (α:=Bool) (β:=Unit) (fun z_3 y_3=>[(1,P b13 0),(3,B z_3)]) (fun z_3 y_3 w_=>ref10_Check_j11 a0 z_3=some r∧St w nF w_ [bl b13 (vB a0 A1 c2 A4 c5 A7 c8 A10 c11) 29] [rd eTallyCount 7 A1 c2 a0.Tally.Counts,rd eTicketSeason 2 A4 c5 a0.Tickets,rd eTicketShow 3 A7 c8 a0.Shows,rd eTicketBox 4 A10 c11 a0.Boxes]) ?_ ?_
  ·refine c_seq<|reg<|p_aI rfl<|wp_nil<|c_block ?_
   refine c_lop (α:=Bool×Int) (β:=Unit) (ref10_Check_l12 a0) (fun z_2 y_2=>[(1,P b13 0),(3,B z_2.1),(4,I z_2.2)]) (fun z_2 y_2 w_=>St w nF w_ [bl b13 (vB a0 A1 c2 A4 c5 A7 c8 A10 c11) 29] [rd eTallyCount 7 A1 c2 a0.Tally.Counts,rd eTicketSeason 2 A4 c5 a0.Tickets,rd eTicketShow 3 A7 c8 a0.Shows,rd eTicketBox 4 A10 c11 a0.Boxes]) (z_1,0) () H ⟨rfl,rfl,rfl,trivial⟩ S18 ?_
   intro m19 z_2 y_2 e20 w21 H S22
   unfold ref10_Check_l12 at H
   refine c_seq<|c_seq<|reg<|p_mB rfl<|p_mB rfl ?_
   rcases bE (z_2.1) with c23 | c23
   ·replace H:=condT c23 H
    refine eB c23 ?_
    refine gT rfl rfl (p_mI rfl ?_)
    refine gT rfl rfl (p_fld fl29_2 rfl ?_)
    refine gT rfl rfl (p_ld ty25 (S22.atX (i:=0) rfl) rfl rfl ?_)
    refine gT rfl rfl (p_len rfl sc25 ?_)
    refine gT rfl rfl (p_cmp rfl rfl rfl ?_)
    refine p_pkT rfl (rfl:_=B (decide (z_2.2 < (a0.Tickets.length:Int))))<|wp_nil ?_
    refine c_cond rfl (fun c24=>?_) (fun c24=>?_)
    ·replace H:=condT c24 H
     refine c_skip<|c_seq<|c_block ?_
     obtain ⟨r25,h26,H⟩:=bindS H
     obtain ⟨r27,h28,H⟩:=bindS H
     obtain ⟨r29,h30,H⟩:=bindS H
     refine reg_q mixed 15 (by kernel_rfl) ?_
     refine dS (fun _ k_=>p_ldA ty29 sz29 (aS (S22.atX (i:=0) rfl) k_) rfl rfl dn)<|dS (fun _ k_=>p_fld fl29_2 rfl dn)<|dS (fun _ k_=>p_ld ty25 (aS (S22.atX (i:=0) rfl) k_) rfl rfl dn)<|dS (fun _ k_=>p_mI rfl dn)<|dS (fun _ k_=>p_ixE sc25 h26 (aS (S22.atP (i:=1) rfl) k_).1 rfl rfl rfl dn)<|dS (fun _ k_=>p_fldE fl84_0 (sl_here (aS (S22.atP (i:=1) rfl) k_).1 h26) rfl dn) ?_
     refine dS (fun _ k_=>p_ldE ty3 h26 (aS (S22.atP (i:=1) rfl) k_).1 rfl rfl dn)<|dS (fun _ k_=>p_fld fl29_2 rfl dn)<|dS (fun _ k_=>p_ld ty25 (aS (S22.atX (i:=0) rfl) k_) rfl rfl dn)<|dS (fun _ k_=>p_mI rfl dn)<|dS (fun _ k_=>p_ixE sc25 h28 (aS (S22.atP (i:=1) rfl) k_).1 rfl rfl rfl dn)<|dS (fun _ k_=>p_fldE fl84_1 (sl_here (aS (S22.atP (i:=1) rfl) k_).1 h28) rfl dn) ?_
     refine dS (fun _ k_=>p_ldE ty3 h28 (aS (S22.atP (i:=1) rfl) k_).1 rfl rfl dn)<|dS (fun _ k_=>p_cvD (ref10_trips_ok h30 (aS (S22.atP (i:=0) rfl) k_) (aS (S22.atP (i:=1) rfl) k_) (aS (S22.atP (i:=2) rfl) k_) (aS (S22.atP (i:=3) rfl) k_)) fu58 rfl)<|dS (fun _ k_=>p_aB rfl dn) ?_
     intro w31 k32; have S33:=S22.call k32
     exact wp_nil<|reg<|p_mI rfl<|p_add rfl rfl<|p_aI rfl<|wp_nil ⟨(r29,wr (z_2.2+1)),(),_,rfl,⟨rfl,rfl,rfl,trivial⟩,H,S33⟩
    ·replace H:=condF c24 H
     refine c_exit ?_
     exact ⟨z_2.1,(),_,rfl,⟨rfl,rfl,trivial⟩,H,S22⟩
   ·replace H:=condF c23 H
    refine eB c23<|gF rfl rfl<|gF rfl rfl<|gF rfl rfl<|gF rfl rfl<|gF rfl rfl<|p_pkF rfl (rfl:_=B false)<|wp_nil<|c_false rfl<|c_exit ?_
    exact ⟨z_2.1,(),_,rfl,⟨rfl,rfl,trivial⟩,H,S22⟩
  ·intro z_3 y_3 e19 w20 S21; obtain ⟨H,S21⟩:=S21
   unfold ref10_Check_j11 at H
   refine c_join (α:=Bool) (β:=Unit) (fun z_5 y_5=>[(1,P b13 0),(3,B z_5)]) (fun z_5 y_5 w_=>ref10_Check_j9 a0 z_5=some r∧St w nF w_ [bl b13 (vB a0 A1 c2 A4 c5 A7 c8 A10 c11) 29] [rd eTallyCount 7 A1 c2 a0.Tally.Counts,rd eTicketSeason 2 A4 c5 a0.Tickets,rd eTicketShow 3 A7 c8 a0.Shows,rd eTicketBox 4 A10 c11 a0.Boxes]) ?_ ?_
   ·refine c_seq<|reg<|p_aI rfl<|wp_nil<|c_block ?_
    refine c_lop (α:=Bool×Int) (β:=Unit) (ref10_Check_l10 a0) (fun z_4 y_4=>[(1,P b13 0),(3,B z_4.1),(5,I z_4.2)]) (fun z_4 y_4 w_=>St w nF w_ [bl b13 (vB a0 A1 c2 A4 c5 A7 c8 A10 c11) 29] [rd eTallyCount 7 A1 c2 a0.Tally.Counts,rd eTicketSeason 2 A4 c5 a0.Tickets,rd eTicketShow 3 A7 c8 a0.Shows,rd eTicketBox 4 A10 c11 a0.Boxes]) (z_3,0) () H ⟨rfl,rfl,rfl,trivial⟩ S21 ?_
    intro m22 z_4 y_4 e23 w24 H S25
    unfold ref10_Check_l10 at H
    refine c_seq<|c_seq<|reg<|p_mB rfl<|p_mB rfl ?_
    rcases bE (z_4.1) with c26 | c26
    ·replace H:=condT c26 H
     refine eB c26 ?_
     refine gT rfl rfl (p_mI rfl ?_)
     refine gT rfl rfl (p_fld fl29_3 rfl ?_)
     refine gT rfl rfl (p_ld ty26 (S25.atX (i:=0) rfl) rfl rfl ?_)
     refine gT rfl rfl (p_len rfl sc26 ?_)
     refine gT rfl rfl (p_cmp rfl rfl rfl ?_)
     refine p_pkT rfl (rfl:_=B (decide (z_4.2 < (a0.Shows.length:Int))))<|wp_nil ?_
     refine c_cond rfl (fun c27=>?_) (fun c27=>?_)
     ·replace H:=condT c27 H
      refine c_skip<|c_seq<|c_block<|c_seq<|reg<|p_fld fl29_3 rfl<|p_ld ty26 (S25.atX (i:=0) rfl) rfl rfl<|p_mI rfl ?_
      obtain ⟨r28,h29,H⟩:=bindS H
      refine p_ixE sc26 h29 (S25.atP (i:=2) rfl).1 rfl rfl rfl<|p_ldEA ty86 sz86 rfl h29 (S25.atP (i:=2) rfl).1 rfl<|p_allA in86 S25 fun b30 w31 S32=>p_stP (pre:=[]) (old:=[I 0,I 0,I 0]) (post:=[]) (vs:=[I r28.Trip,I r28.Ticket,I r28.Walker]) sz86 S32 (i:=0) rfl rfl rfl rfl (rfl:_=AG [I r28.Trip,I r28.Ticket,I r28.Walker]) rfl rfl rfl rfl fun w33 S34=>wp_nil<|reg ?_
      refine p_ldA ty29 sz29 (S34.atX (i:=1) rfl) rfl rfl<|p_fld fl86_0 rfl<|p_ld ty3 (S34.atX (i:=0) rfl) rfl rfl ?_
      obtain ⟨r35,h36,H⟩:=bindS H
      refine p_cv (ref10_isTrip_ok h36 (S34.atP (i:=0) rfl) (S34.atP (i:=1) rfl) (S34.atP (i:=2) rfl) (S34.atP (i:=3) rfl)) fu59 rfl S34 fun w37 S38=>p_mB rfl ?_
      rcases bE (r35) with c39 | c39
      ·replace H:=condT c39 H
       refine eB c39 ?_
       refine gT rfl rfl (p_ldA ty29 sz29 (S38.atX (i:=1) rfl) rfl rfl ?_)
       refine gT rfl rfl (p_fld fl86_1 rfl ?_)
       refine gT rfl rfl (p_ld ty3 (S38.atX (i:=0) rfl) rfl rfl ?_)
       obtain ⟨r40,h41,H⟩:=bindS H
       refine gT rfl rfl (p_cv (ref10_isTicket_ok h41 (S38.atP (i:=0) rfl) (S38.atP (i:=1) rfl) (S38.atP (i:=2) rfl) (S38.atP (i:=3) rfl)) fu60 rfl S38 fun w42 S43=>?_)
       refine p_pkT rfl (rfl:_=B r40)<|p_mB rfl ?_
       rcases bE (r40) with c44 | c44
       ·replace H:=condT c44 H
        refine eB c44 ?_
        refine gT rfl rfl (p_fld fl86_2 rfl ?_)
        refine gT rfl rfl (p_ld ty3 (S43.atX (i:=0) rfl) rfl rfl ?_)
        obtain ⟨r45,h46,H⟩:=bindS H
        refine gT rfl rfl (p_cv (B_Inside_ok h46) fu57 rfl S43 fun w47 S48=>?_)
        refine p_pkT rfl (rfl:_=B r45)<|p_aB rfl<|wp_nil<|reg<|p_mI rfl<|p_add rfl rfl<|p_aI rfl<|wp_nil ?_
        have S49:=S48.pk [1] (by decide) [0,1,2,3] rfl rfl
        exact ⟨(r45,wr (z_4.2+1)),(),_,rfl,⟨rfl,rfl,rfl,trivial⟩,H,S49⟩
       ·replace H:=condF c44 H
        refine eB c44<|gF rfl rfl<|gF rfl rfl<|gF rfl rfl<|p_pkF rfl (rfl:_=B false)<|p_aB rfl<|wp_nil<|reg<|p_mI rfl<|p_add rfl rfl<|p_aI rfl<|wp_nil ?_
        have S50:=S43.pk [1] (by decide) [0,1,2,3] rfl rfl
        exact ⟨(false,wr (z_4.2+1)),(),_,rfl,⟨rfl,rfl,rfl,trivial⟩,H,S50⟩
      ·replace H:=condF c39 H
       refine eB c39<|gF rfl rfl<|gF rfl rfl<|gF rfl rfl<|gF rfl rfl<|p_pkF rfl (rfl:_=B false)<|p_mB rfl<|gF rfl rfl<|gF rfl rfl<|gF rfl rfl<|p_pkF rfl (rfl:_=B false)<|p_aB rfl<|wp_nil<|reg<|p_mI rfl<|p_add rfl rfl<|p_aI rfl<|wp_nil ?_
       have S51:=S38.pk [1] (by decide) [0,1,2,3] rfl rfl
       exact ⟨(false,wr (z_4.2+1)),(),_,rfl,⟨rfl,rfl,rfl,trivial⟩,H,S51⟩
     ·replace H:=condF c27 H
      refine c_exit ?_
      exact ⟨z_4.1,(),_,rfl,⟨rfl,rfl,trivial⟩,H,S25⟩
    ·replace H:=condF c26 H
     refine eB c26<|gF rfl rfl<|gF rfl rfl<|gF rfl rfl<|gF rfl rfl<|gF rfl rfl<|p_pkF rfl (rfl:_=B false)<|wp_nil<|c_false rfl<|c_exit ?_
     exact ⟨z_4.1,(),_,rfl,⟨rfl,rfl,trivial⟩,H,S25⟩
   ·intro z_5 y_5 e22 w23 S24; obtain ⟨H,S24⟩:=S24
    unfold ref10_Check_j9 at H
    refine c_join (α:=Bool) (β:=Unit) (fun z_7 y_7=>[(3,B z_7)]) (fun z_7 y_7 w_=>ref10_Check_j7 z_7=some r∧St w nF w_ [] [rd eTallyCount 7 A1 c2 a0.Tally.Counts,rd eTicketSeason 2 A4 c5 a0.Tickets,rd eTicketShow 3 A7 c8 a0.Shows,rd eTicketBox 4 A10 c11 a0.Boxes]) ?_ ?_
    ·refine c_seq<|reg<|p_aI rfl<|wp_nil<|c_block ?_
     refine c_lop (α:=Bool×Int) (β:=Unit) (ref10_Check_l8 a0) (fun z_6 y_6=>[(1,P b13 0),(3,B z_6.1),(7,I z_6.2)]) (fun z_6 y_6 w_=>St w nF w_ [bl b13 (vB a0 A1 c2 A4 c5 A7 c8 A10 c11) 29] [rd eTallyCount 7 A1 c2 a0.Tally.Counts,rd eTicketSeason 2 A4 c5 a0.Tickets,rd eTicketShow 3 A7 c8 a0.Shows,rd eTicketBox 4 A10 c11 a0.Boxes]) (z_5,0) () H ⟨rfl,rfl,rfl,trivial⟩ S24 ?_
     intro m25 z_6 y_6 e26 w27 H S28
     unfold ref10_Check_l8 at H
     refine c_seq<|c_seq<|reg<|p_mB rfl<|p_mB rfl ?_
     rcases bE (z_6.1) with c29 | c29
     ·replace H:=condT c29 H
      refine eB c29 ?_
      refine gT rfl rfl (p_mI rfl ?_)
      refine gT rfl rfl (p_fld fl29_4 rfl ?_)
      refine gT rfl rfl (p_ld ty27 (S28.atX (i:=0) rfl) rfl rfl ?_)
      refine gT rfl rfl (p_len rfl sc27 ?_)
      refine gT rfl rfl (p_cmp rfl rfl rfl ?_)
      refine p_pkT rfl (rfl:_=B (decide (z_6.2 < (a0.Boxes.length:Int))))<|wp_nil ?_
      refine c_cond rfl (fun c30=>?_) (fun c30=>?_)
      ·replace H:=condT c30 H
       refine c_skip<|c_seq<|c_block ?_
       obtain ⟨r31,h32,H⟩:=bindS H
       obtain ⟨r33,h34,H⟩:=bindS H
       refine reg_q mixed 8 (by kernel_rfl) ?_
       refine dS (fun _ k_=>p_ldA ty29 sz29 (aS (S28.atX (i:=0) rfl) k_) rfl rfl dn)<|dS (fun _ k_=>p_fld fl29_4 rfl dn)<|dS (fun _ k_=>p_ld ty27 (aS (S28.atX (i:=0) rfl) k_) rfl rfl dn)<|dS (fun _ k_=>p_mI rfl dn)<|dS (fun _ k_=>p_ixE sc27 h32 (aS (S28.atP (i:=3) rfl) k_).1 rfl rfl rfl dn)<|dS (fun _ k_=>p_ldEA ty39 sz39 rfl h32 (aS (S28.atP (i:=3) rfl) k_).1 rfl dn) ?_
       refine dS (fun _ k_=>p_cvD (ref10_isBox_ok h34 (aS (S28.atP (i:=0) rfl) k_) (aS (S28.atP (i:=1) rfl) k_) (aS (S28.atP (i:=2) rfl) k_) (aS (S28.atP (i:=3) rfl) k_)) fu61 rfl)<|dS (fun _ k_=>p_aB rfl dn) ?_
       intro w35 k36; have S37:=S28.call k36
       exact wp_nil<|reg<|p_mI rfl<|p_add rfl rfl<|p_aI rfl<|wp_nil ⟨(r33,wr (z_6.2+1)),(),_,rfl,⟨rfl,rfl,rfl,trivial⟩,H,S37⟩
      ·replace H:=condF c30 H
       refine c_exit ?_
       have S38:=S28.pk [] (by decide) [0,1,2,3] rfl rfl
       exact ⟨z_6.1,(),_,rfl,⟨rfl,trivial⟩,H,S38⟩
     ·replace H:=condF c29 H
      refine eB c29<|gF rfl rfl<|gF rfl rfl<|gF rfl rfl<|gF rfl rfl<|gF rfl rfl<|p_pkF rfl (rfl:_=B false)<|wp_nil<|c_false rfl<|c_exit ?_
      have S38:=S28.pk [] (by decide) [0,1,2,3] rfl rfl
      exact ⟨z_6.1,(),_,rfl,⟨rfl,trivial⟩,H,S38⟩
    ·intro z_7 y_7 e25 w26 S27; obtain ⟨H,S27⟩:=S27
     unfold ref10_Check_j7 at H
     refine c_seq<|c_seq<|reg<|p_mB rfl<|p_not rfl<|wp_nil ?_
     refine c_cond rfl (fun c28=>?_) (fun c28=>?_)
     ·replace H:=condT c28 H
      refine c_seq<|reg<|p_aI rfl<|wp_nil ?_
      obtain rfl:=sJ H
      exact c_ret (rT Tryz.f19 S27.keep rfl rfl)
     ·replace H:=condF c28 H
      refine c_skip<|c_seq<|reg<|p_aI rfl<|wp_nil ?_
      obtain rfl:=sJ H
      exact c_ret (rT Tryz.f19 S27.keep rfl rfl)
def ref10_clash (a0:TicketShow) (a1:TicketShow):Option Bool:=
 bif (a0.Trip==a1.Trip) then (some ((a0.Ticket==a1.Ticket) != (a0.Walker==a1.Walker)))
 else (some false)
set_option maxRecDepth 100000 in
theorem ref10_clash_ok {a0:TicketShow}{a1:TicketShow}{w:World}{r:Bool} (H:ref10_clash a0 a1=some r):Calls Tryz.prog 106 #[AG [I a0.Trip,I a0.Ticket,I a0.Walker],AG [I a1.Trip,I a1.Ticket,I a1.Walker]] w (RetV w (B r)):=by
 unfold ref10_clash at H
 refine fn_of (n:=23) Tryz.func106 rfl rfl (lE rfl) ?_
 have S:=St.start w nF _ nM
 refine c_seq<|reg<|p_boxA rfl S fun b1 w2 S3=>p_boxA rfl S3 fun b4 w5 S6=>p_aB rfl<|wp_nil<|c_seq<|reg<|p_fld fl86_0 rfl<|p_ld ty3 (S6.atX (i:=1) rfl) rfl rfl<|p_fld fl86_0 rfl<|p_ld ty3 (S6.atX (i:=0) rfl) rfl rfl<|p_cmp rfl rfl rfl<|p_mB rfl ?_
 rcases bE ((a0.Trip==a1.Trip)) with c7 | c7
 ·replace H:=condT c7 H
  refine eB c7 ?_
  refine gT rfl rfl (p_fld fl86_1 rfl ?_)
  refine gT rfl rfl (p_ld ty3 (S6.atX (i:=1) rfl) rfl rfl ?_)
  refine gT rfl rfl (p_fld fl86_1 rfl ?_)
  refine gT rfl rfl (p_ld ty3 (S6.atX (i:=0) rfl) rfl rfl ?_)
  refine gT rfl rfl (p_cmp rfl rfl rfl ?_)
  refine gT rfl rfl (p_fld fl86_2 rfl ?_)
  refine gT rfl rfl (p_ld ty3 (S6.atX (i:=1) rfl) rfl rfl ?_)
  refine gT rfl rfl (p_fld fl86_2 rfl ?_)
  refine gT rfl rfl (p_ld ty3 (S6.atX (i:=0) rfl) rfl rfl ?_)
  refine gT rfl rfl (p_cmp rfl rfl rfl ?_)
  refine gT rfl rfl (o_neB rfl rfl ub4 ?_)
  refine p_pkT rfl (rfl:_=B ((a0.Ticket==a1.Ticket) != (a0.Walker==a1.Walker)))<|p_aB rfl<|wp_nil ?_
  obtain rfl:=sJ H
  exact c_ret (rT Tryz.f106 S6.keep rfl rfl)
 ·replace H:=condF c7 H
  refine eB c7<|gF rfl rfl<|gF rfl rfl<|gF rfl rfl<|gF rfl rfl<|gF rfl rfl<|gF rfl rfl<|gF rfl rfl<|gF rfl rfl<|gF rfl rfl<|gF rfl rfl<|gF rfl rfl<|p_pkF rfl (rfl:_=B false)<|p_aB rfl<|wp_nil ?_
  obtain rfl:=sJ H
  exact c_ret (rT Tryz.f106 S6.keep rfl rfl)
def ref10_clashes_l3 (a0:TicketBook) (z_1:Int) (rec_z_1:Int→Option (Int×Int)) (rec_z_2:Int→Option (Int×Int)) (z_2:Int):Option (Int×Int):=
 bif decide (z_2 < (a0.Shows.length:Int)) then ((getI a0.Shows z_1).bind fun r26=>
 (getI a0.Shows z_2).bind fun r28=>
 (ref10_clash r26 r28).bind fun r30=>
 bif r30 then (some (z_1,z_2))
 else (rec_z_2 (wr (z_2+1))))
 else (rec_z_1 (wr (z_1+1)))
def ref10_clashes_l4 (a0:TicketBook) (rec_z_1:Int→Option (Int×Int)) (z_1:Int):Option (Int×Int):=
 bif decide (z_1 < (a0.Shows.length:Int)) then (loopF (ref10_clashes_l3 a0 z_1 rec_z_1) big (wr (z_1+1)))
 else (some ((-1),(-1)))
def ref10_clashes (a0:TicketBook):Option (Int×Int):=
 loopF (ref10_clashes_l4 a0) big 0
set_option maxRecDepth 100000 in
theorem ref10_clashes_ok {a0:TicketBook}{A1:Option Addr}{c2:Nat}{A4:Option Addr}{c5:Nat}{A7:Option Addr}{c8:Nat}{A10:Option Addr}{c11:Nat}{w:World}{r:Int×Int} (H:ref10_clashes a0=some r) (h3:(rd eTallyCount 7 A1 c2 a0.Tally.Counts).ok w) (h6:(rd eTicketSeason 2 A4 c5 a0.Tickets).ok w) (h9:(rd eTicketShow 3 A7 c8 a0.Shows).ok w) (h12:(rd eTicketBox 4 A10 c11 a0.Boxes).ok w):Calls Tryz.prog 82 #[AG (vB a0 A1 c2 A4 c5 A7 c8 A10 c11)] w (RetV w (TU [I r.1,I r.2])):=by
 unfold ref10_clashes at H
 refine fn_of (n:=35) Tryz.func82 rfl rfl (lE rfl) ?_
 have S:=St.start w nF _ (cA h3 (cA h6 (cA h9 (cA h12 nM))))
 refine c_seq<|reg<|p_boxA rfl S fun b13 w14 S15=>p_aI rfl<|p_aI rfl<|wp_nil<|c_seq<|c_seq<|reg<|p_aI rfl<|wp_nil<|c_block ?_
 refine c_lop (α:=Int) (β:=Unit) (ref10_clashes_l4 a0) (fun z_1 y_1=>[(1,P b13 0),(4,I z_1)]) (fun z_1 y_1 w_=>St w nF w_ [bl b13 (vB a0 A1 c2 A4 c5 A7 c8 A10 c11) 29] [rd eTallyCount 7 A1 c2 a0.Tally.Counts,rd eTicketSeason 2 A4 c5 a0.Tickets,rd eTicketShow 3 A7 c8 a0.Shows,rd eTicketBox 4 A10 c11 a0.Boxes]) 0 () H ⟨rfl,rfl,trivial⟩ S15 ?_
 intro m16 z_1 y_1 e17 w18 H S19
 unfold ref10_clashes_l4 at H
 refine c_seq<|c_seq<|reg<|p_mI rfl<|p_fld fl29_3 rfl<|p_ld ty26 (S19.atX (i:=0) rfl) rfl rfl<|p_len rfl sc26<|p_cmp rfl rfl rfl<|wp_nil ?_
 refine c_cond rfl (fun c20=>?_) (fun c20=>?_)
 ·replace H:=condT c20 H
  refine c_skip<|c_seq<|c_block<|c_seq<|reg<|p_mI rfl<|p_add rfl rfl<|p_aI rfl<|wp_nil<|c_block ?_
  refine c_lop (α:=Int) (β:=Unit) (ref10_clashes_l3 a0 z_1 (loopF (ref10_clashes_l4 a0) m16)) (fun z_2 y_2=>[(1,P b13 0),(4,I z_1),(5,I z_2)]) (fun z_2 y_2 w_=>St w nF w_ [bl b13 (vB a0 A1 c2 A4 c5 A7 c8 A10 c11) 29] [rd eTallyCount 7 A1 c2 a0.Tally.Counts,rd eTicketSeason 2 A4 c5 a0.Tickets,rd eTicketShow 3 A7 c8 a0.Shows,rd eTicketBox 4 A10 c11 a0.Boxes]) (wr (z_1+1)) () H ⟨rfl,rfl,rfl,trivial⟩ S19 ?_
  intro m21 z_2 y_2 e22 w23 H S24
  unfold ref10_clashes_l3 at H
  refine c_seq<|c_seq<|reg<|p_mI rfl<|p_fld fl29_3 rfl<|p_ld ty26 (S24.atX (i:=0) rfl) rfl rfl<|p_len rfl sc26<|p_cmp rfl rfl rfl<|wp_nil ?_
  refine c_cond rfl (fun c25=>?_) (fun c25=>?_)
  ·replace H:=condT c25 H
   refine c_skip<|c_seq<|c_block<|c_seq ?_
   obtain ⟨r26,h27,H⟩:=bindS H
   obtain ⟨r28,h29,H⟩:=bindS H
   obtain ⟨r30,h31,H⟩:=bindS H
   refine reg_q mixed 11 (by kernel_rfl) ?_
   refine dS (fun _ k_=>p_fld fl29_3 rfl dn)<|dS (fun _ k_=>p_ld ty26 (aS (S24.atX (i:=0) rfl) k_) rfl rfl dn)<|dS (fun _ k_=>p_mI rfl dn)<|dS (fun _ k_=>p_ixE sc26 h27 (aS (S24.atP (i:=2) rfl) k_).1 rfl rfl rfl dn)<|dS (fun _ k_=>p_ldEA ty86 sz86 rfl h27 (aS (S24.atP (i:=2) rfl) k_).1 rfl dn)<|dS (fun _ k_=>p_fld fl29_3 rfl dn) ?_
   refine dS (fun _ k_=>p_ld ty26 (aS (S24.atX (i:=0) rfl) k_) rfl rfl dn)<|dS (fun _ k_=>p_mI rfl dn)<|dS (fun _ k_=>p_ixE sc26 h29 (aS (S24.atP (i:=2) rfl) k_).1 rfl rfl rfl dn)<|dS (fun _ k_=>p_ldEA ty86 sz86 rfl h29 (aS (S24.atP (i:=2) rfl) k_).1 rfl dn)<|dS (fun _ k_=>p_cvD (ref10_clash_ok h31) fu106 rfl) ?_
   intro w32 k33; have S34:=S24.call k33
   refine wp_nil ?_
   refine c_cond rfl (fun c35=>?_) (fun c35=>?_)
   ·replace H:=condT c35 H
    refine c_seq<|reg<|p_mI rfl<|p_mI rfl<|p_aI rfl<|p_aI rfl<|wp_nil ?_
    obtain rfl:=sJ H
    refine c_ret ?_; show bodyPostM (Fr none) 0 Tryz.prog Tryz.f82 _ .ret _ _
    refine ret_of (res2 rfl (rvT (rfl:_=I z_1)) (rvT (rfl:_=I z_2))) ?_
    exact ⟨_,rfl,rfl,S34.keep⟩
   ·replace H:=condF c35 H
    refine c_skip<|reg<|p_mI rfl<|p_add rfl rfl<|p_aI rfl<|wp_nil ?_
    exact ⟨wr (z_2+1),(),_,rfl,⟨rfl,rfl,rfl,trivial⟩,H,S34⟩
  ·replace H:=condF c25 H
   refine c_exit<|reg<|p_mI rfl<|p_add rfl rfl<|p_aI rfl<|wp_nil ?_
   exact ⟨wr (z_1+1),(),_,rfl,⟨rfl,rfl,trivial⟩,H,S24⟩
 ·replace H:=condF c20 H
  refine c_exit<|c_seq<|reg<|p_aI rfl<|p_aI rfl<|wp_nil ?_
  obtain rfl:=sJ H
  refine c_ret ?_; show bodyPostM (Fr none) 0 Tryz.prog Tryz.f82 _ .ret _ _
  refine ret_of (res2 rfl (rvT (rfl:_=I (-1))) (rvT (rfl:_=I (-1)))) ?_
  exact ⟨_,rfl,rfl,S19.keep⟩
def B_Member (a0:Int) (a1:Int):Option Bool:=
 need (decide (0≤a1))<|
 some ((andI (shrI a0 a1) 1)==1)
set_option maxRecDepth 100000 in
theorem B_Member_ok {a0:Int}{a1:Int}{w:World}{r:Bool} (H:B_Member a0 a1=some r):Calls Tryz.prog 96 #[I a0,I a1] w (RetV w (B r)):=by
 unfold B_Member at H
 refine fn_of (n:=10) Tryz.func96 rfl rfl (lE rfl) ?_
 have S:=St.start w nF _ nM
 refine c_seq<|reg<|p_aB rfl<|wp_nil<|c_seq<|reg<|p_mI rfl<|p_mI rfl ?_
 obtain ⟨h1,H⟩:=needS H
 refine p_shr h1 rfl rfl<|p_andI rfl rfl<|p_cmp rfl rfl rfl<|p_aB rfl<|wp_nil ?_
 obtain rfl:=sJ H
 exact c_ret (rT Tryz.f96 S.keep rfl rfl)
def B_Members_l2 (a1:Int) (a0:Int) (rec_z_1:((List Int)×Int)→Option (List Int)) (z_1:(List Int)×Int):Option (List Int):=
 bif decide (z_1.2 < a1) then ((B_Member a0 z_1.2).bind fun r11=>
 bif r11 then (need (fitsL (z_1.1.length+([z_1.2]:List Int).length) 8)<|
 rec_z_1 (z_1.1++([z_1.2]:List Int),wr (z_1.2+1)))
 else (rec_z_1 (z_1.1,wr (z_1.2+1))))
 else (some z_1.1)
def B_Members (a0:Int) (a1:Int):Option (List Int):=
 loopF (B_Members_l2 a1 a0) big (([]:List Int),0)
set_option maxRecDepth 100000 in
theorem B_Members_ok {a0:Int}{a1:Int}{w:World}{r:(List Int)} (H:B_Members a0 a1=some r):Calls Tryz.prog 81 #[I a0,I a1] w fun en w_=>∃ u_,en=.returned u_∧∃ A_1:Option Addr,∃ c_2:Nat,u_=SL A_1 r.length c_2∧Keep0 w w_∧((gr intE 1 3 A_1 c_2 r).ok w_∧New w.heap.size (gr intE 1 3 A_1 c_2 r))∧True:=by
 unfold B_Members at H
 refine fn_of (n:=21) Tryz.func81 rfl rfl (lE rfl) ?_
 have S:=St.start w nF _ nM
 refine c_seq<|reg<|p_aS rfl<|wp_nil<|c_seq<|reg<|p_bsl0 intE sc60 S fun A1 w3 S4=>p_aS rfl<|wp_nil<|c_seq<|c_seq<|reg<|p_aI rfl<|wp_nil<|c_block ?_
 refine c_lop (α:=(List Int)×Int) (β:=(Option Addr)×Nat) (B_Members_l2 a1 a0) (fun z_1 y_1=>[(0,I a0),(1,I a1),(5,SL y_1.1 z_1.1.length y_1.2),(6,I z_1.2)]) (fun z_1 y_1 w_=>St w nF w_ [gr intE 1 3 y_1.1 y_1.2 z_1.1] []) (([]:List Int),0) (A1,0) H ⟨rfl,rfl,rfl,rfl,trivial⟩ S4 ?_
 intro m6 z_1 y_1 e7 w8 H S9
 unfold B_Members_l2 at H
 refine c_seq<|c_seq<|reg<|p_mI rfl<|p_mI rfl<|p_cmp rfl rfl rfl<|wp_nil ?_
 refine c_cond rfl (fun c10=>?_) (fun c10=>?_)
 ·replace H:=condT c10 H
  refine c_skip<|c_seq<|c_block<|c_seq<|reg<|p_mI rfl<|p_mI rfl ?_
  obtain ⟨r11,h12,H⟩:=bindS H
  refine p_cv (B_Member_ok h12) fu96 rfl S9 fun w13 S14=>wp_nil ?_
  refine c_cond rfl (fun c15=>?_) (fun c15=>?_)
  ·replace H:=condT c15 H
   refine reg<|p_mS rfl<|p_mI rfl<|p_bsl (enc:=intE) (l:=([z_1.2]:List Int)) I (fun _=>rfl) sc60 in3 intE_len rfl (by decide) (by decide) zr3_1 S14 rfl fun A16 c17 w18 S19=>?_
   obtain ⟨h25,H⟩:=needS H
   refine p_app (enc:=intE) sc60 in3 rfl intE_len intE_one (by decide) S19 (k:=1) rfl (gr_sl intE_len (S19.atX (i:=0) rfl)) h25 (by simp) rfl rfl fun A23 c24 w21 S22=>p_aS rfl<|wp_nil<|reg<|p_mI rfl<|p_add rfl rfl<|p_aI rfl<|wp_nil ?_
   have S26:=S22.pk [1] (by decide) [] rfl rfl
   exact ⟨(z_1.1++([z_1.2]:List Int),wr (z_1.2+1)),(A23,c24),_,rfl,⟨rfl,rfl,rfl,rfl,trivial⟩,H,S26⟩
  ·replace H:=condF c15 H
   refine c_skip<|reg<|p_mI rfl<|p_add rfl rfl<|p_aI rfl<|wp_nil ?_
   exact ⟨(z_1.1,wr (z_1.2+1)),(y_1.1,y_1.2),_,rfl,⟨rfl,rfl,rfl,rfl,trivial⟩,H,S14⟩
 ·replace H:=condF c10 H
  refine c_exit<|c_seq<|reg<|p_mS rfl<|p_aS rfl<|wp_nil ?_
  obtain rfl:=sJ H
  refine c_ret ?_; show bodyPostM (Fr none) 0 Tryz.prog Tryz.f81 _ .ret _ _
  refine ret_of (res1 rfl (rvT (rfl:_=SL y_1.1 z_1.1.length y_1.2))) ?_
  exact ⟨_,rfl,y_1.1,y_1.2,rfl,S9.keep,⟨S9.atX (i:=0) rfl,S9.newX (i:=0) rfl⟩,trivial⟩
structure Ref10_truth where
 crossed_:List Int
 used_:List Int
 deriving DecidableEq,Inhabited
def ref10_paid_l1 (a2:Int) (a0:Ref10_truth) (rec_z_1:(Int×Int)→Option Int) (z_1:Int×Int):Option Int:=
 bif decide (z_1.2≤a2) then ((getI a0.crossed_ z_1.2).bind fun r15=>
 (getI a0.used_ z_1.2).bind fun r17=>
 (B_Members r17 3).bind fun r22=>
 rec_z_1 (wr (z_1.1+(wr (r15 - (r22.length:Int)))),wr (z_1.2+1)))
 else (some z_1.1)
def ref10_paid (a0:Ref10_truth) (a1:Int) (a2:Int):Option Int:=
 loopF (ref10_paid_l1 a2 a0) big (0,a1)
set_option maxRecDepth 100000 in
theorem ref10_paid_ok {a0:Ref10_truth}{a1:Int}{a2:Int}{A1:Option Addr}{c2:Nat}{A4:Option Addr}{c5:Nat}{w:World}{r:Int} (H:ref10_paid a0 a1 a2=some r) (h3:(rd intE 1 A1 c2 a0.crossed_).ok w) (h6:(rd intE 1 A4 c5 a0.used_).ok w):Calls Tryz.prog 67 #[AG [SL A1 a0.crossed_.length c2,SL A4 a0.used_.length c5],I a1,I a2] w (RetV w (I r)):=by
 unfold ref10_paid at H
 refine fn_of (n:=31) Tryz.func67 rfl rfl (lE rfl) ?_
 have S:=St.start w nF _ (cA h3 (cA h6 nM))
 refine c_seq<|reg<|p_boxA rfl S fun b7 w8 S9=>p_aI rfl<|wp_nil<|c_seq<|reg<|p_aI rfl<|wp_nil<|c_seq<|c_seq<|reg<|p_mI rfl<|p_aI rfl<|wp_nil<|c_block ?_
 refine c_lop (α:=Int×Int) (β:=Unit) (ref10_paid_l1 a2 a0) (fun z_1 y_1=>[(2,I a2),(3,P b7 0),(7,I z_1.1),(8,I z_1.2)]) (fun z_1 y_1 w_=>St w nF w_ [bl b7 [SL A1 a0.crossed_.length c2,SL A4 a0.used_.length c5] 99] [rd intE 1 A1 c2 a0.crossed_,rd intE 1 A4 c5 a0.used_]) (0,a1) () H ⟨rfl,rfl,rfl,rfl,trivial⟩ S9 ?_
 intro m10 z_1 y_1 e11 w12 H S13
 unfold ref10_paid_l1 at H
 refine c_seq<|c_seq<|reg<|p_mI rfl<|p_mI rfl<|p_cmp rfl rfl rfl<|wp_nil ?_
 refine c_cond rfl (fun c14=>?_) (fun c14=>?_)
 ·replace H:=condT c14 H
  refine c_skip<|c_seq<|c_block ?_
  obtain ⟨r15,h16,H⟩:=bindS H
  obtain ⟨r17,h18,H⟩:=bindS H
  refine reg_c mixed 15 [11,12,13,14] (by kernel_rfl) ?_
  refine kS rfl (fun _ k_=>p_mI rfl dn)<|kS rfl (fun _ k_=>p_fld fl99_0 rfl dn)<|kS rfl (fun _ k_=>p_ld ty60 (aS (S13.atX (i:=0) rfl) k_) rfl rfl dn)<|kS rfl (fun _ k_=>p_mI rfl dn)<|kS rfl (fun _ k_=>p_ixE sc60 h16 (aS (S13.atP (i:=0) rfl) k_).1 rfl rfl rfl dn)<|kS rfl (fun _ k_=>p_ldE ty3 h16 (aS (S13.atP (i:=0) rfl) k_).1 rfl rfl dn)<|kS rfl (fun _ k_=>p_fld fl99_1 rfl dn) ?_
  refine kS rfl (fun _ k_=>p_ld ty60 (aS (S13.atX (i:=0) rfl) k_) rfl rfl dn)<|kS rfl (fun _ k_=>p_mI rfl dn)<|kS rfl (fun _ k_=>p_ixE sc60 h18 (aS (S13.atP (i:=1) rfl) k_).1 rfl rfl rfl dn)<|kS rfl (fun _ k_=>p_ldE ty3 h18 (aS (S13.atP (i:=1) rfl) k_).1 rfl rfl dn)<|kC rfl<|kC rfl<|kC rfl<|kC rfl ?_
  intro w19 k20; have S21:=S13.call k20
  obtain ⟨r22,h23,H⟩:=bindS H
  refine p_cal (B_Members_ok h23) fu81 rfl ?_
  rintro _ w24 ⟨A26,c27,rfl,k25,⟨o28,n29⟩,_⟩
  have S31:=S21.addNew k25 o28 n29
  refine cN k25 fun w32 k33=>?_
  have S34:=S31.call k33
  refine p_len rfl sc60 (cN (kR) fun w35 k36=>?_)
  have S37:=S34.call k36
  refine p_sub rfl rfl (cN (kR) fun w38 k39=>?_)
  have S40:=S37.call k39
  refine p_add rfl rfl (cN (kR) fun w41 k42=>?_)
  have S43:=S40.call k42
  refine p_aI rfl<|wp_nil<|reg<|p_mI rfl<|p_add rfl rfl<|p_aI rfl<|wp_nil ?_
  have S44:=S43.pk [1] (by decide) [0,1] rfl rfl
  exact ⟨(wr (z_1.1+(wr (r15 - (r22.length:Int)))),wr (z_1.2+1)),(),_,rfl,⟨rfl,rfl,rfl,rfl,trivial⟩,H,S44⟩
 ·replace H:=condF c14 H
  refine c_exit<|c_seq<|reg<|p_mI rfl<|p_aI rfl<|wp_nil ?_
  obtain rfl:=sJ H
  exact c_ret (rT Tryz.f67 S13.keep rfl rfl)
def ref10_right (a0:TicketBook) (a1:Ref10_truth) (a2:TicketBox):Option Bool:=
 (ref10_paid a1 a2.From a2.To).bind fun r28=>
 (B_Inside (wr (a0.Fare*r28)) a2.Pence (wr (a2.Pence+a2.Lost))).bind fun r30=>
 some r30
set_option maxRecDepth 100000 in
theorem ref10_right_ok {a0:TicketBook}{a1:Ref10_truth}{a2:TicketBox}{A1:Option Addr}{c2:Nat}{A4:Option Addr}{c5:Nat}{A7:Option Addr}{c8:Nat}{A10:Option Addr}{c11:Nat}{A13:Option Addr}{c14:Nat}{A16:Option Addr}{c17:Nat}{w:World}{r:Bool} (H:ref10_right a0 a1 a2=some r) (h3:(rd eTallyCount 7 A1 c2 a0.Tally.Counts).ok w) (h6:(rd eTicketSeason 2 A4 c5 a0.Tickets).ok w) (h9:(rd eTicketShow 3 A7 c8 a0.Shows).ok w) (h12:(rd eTicketBox 4 A10 c11 a0.Boxes).ok w) (h15:(rd intE 1 A13 c14 a1.crossed_).ok w) (h18:(rd intE 1 A16 c17 a1.used_).ok w):Calls Tryz.prog 83 #[AG (vB a0 A1 c2 A4 c5 A7 c8 A10 c11),AG [SL A13 a1.crossed_.length c14,SL A16 a1.used_.length c17],AG [I a2.From,I a2.To,I a2.Pence,I a2.Lost]] w (RetV w (B r)):=by
 unfold ref10_right at H
 refine fn_of (n:=24) Tryz.func83 rfl rfl (lE rfl) ?_
 have S:=St.start w nF _ (cA h3 (cA h6 (cA h9 (cA h12 (cA h15 (cA h18 nM))))))
 refine c_seq<|reg<|p_boxA rfl S fun b19 w20 S21=>p_boxA rfl S21 fun b22 w23 S24=>p_boxA rfl S24 fun b25 w26 S27=>p_aB rfl<|wp_nil<|c_seq ?_
 obtain ⟨r28,h29,H⟩:=bindS H
 obtain ⟨r30,h31,H⟩:=bindS H
 refine reg_q mixed 18 (by kernel_rfl) ?_
 refine dS (fun _ k_=>p_fld fl29_1 rfl dn)<|dS (fun _ k_=>p_ld ty3 (aS (S27.atX (i:=2) rfl) k_) rfl rfl dn)<|dS (fun _ k_=>p_ldA ty99 sz99 (aS (S27.atX (i:=1) rfl) k_) rfl rfl dn)<|dS (fun _ k_=>p_fld fl39_0 rfl dn)<|dS (fun _ k_=>p_ld ty3 (aS (S27.atX (i:=0) rfl) k_) rfl rfl dn)<|dS (fun _ k_=>p_fld fl39_1 rfl dn) ?_
 refine dS (fun _ k_=>p_ld ty3 (aS (S27.atX (i:=0) rfl) k_) rfl rfl dn)<|dS (fun _ k_=>p_cvD (ref10_paid_ok h29 (aS (S27.atP (i:=4) rfl) k_) (aS (S27.atP (i:=5) rfl) k_)) fu67 rfl)<|dS (fun _ k_=>p_mul rfl rfl dn)<|dS (fun _ k_=>p_fld fl39_2 rfl dn)<|dS (fun _ k_=>p_ld ty3 (aS (S27.atX (i:=0) rfl) k_) rfl rfl dn)<|dS (fun _ k_=>p_fld fl39_2 rfl dn) ?_
 refine dS (fun _ k_=>p_ld ty3 (aS (S27.atX (i:=0) rfl) k_) rfl rfl dn)<|dS (fun _ k_=>p_fld fl39_3 rfl dn)<|dS (fun _ k_=>p_ld ty3 (aS (S27.atX (i:=0) rfl) k_) rfl rfl dn)<|dS (fun _ k_=>p_add rfl rfl dn)<|dS (fun _ k_=>p_cvD (B_Inside_ok h31) fu57 rfl)<|dS (fun _ k_=>p_aB rfl dn) ?_
 intro w32 k33; have S34:=S27.call k33
 refine wp_nil ?_
 obtain rfl:=sJ H
 exact c_ret (rT Tryz.f83 S34.keep rfl rfl)
structure Span where
 Low:Int
 High:Int
 deriving DecidableEq,Inhabited
def B_Range (a0:Int) (a1:Int):Option Span:=
 some (Span.mk a0 a1)
set_option maxRecDepth 100000 in
theorem B_Range_ok {a0:Int}{a1:Int}{w:World}{r:Span} (H:B_Range a0 a1=some r):Calls Tryz.prog 32 #[I a0,I a1] w (RetV w (AG [I r.Low,I r.High])):=by
 unfold B_Range at H
 refine fn_of (n:=8) Tryz.func32 rfl rfl (lE rfl) ?_
 have S:=St.start w nF _ nM
 refine c_seq<|reg<|p_allA in51 S fun b1 w2 S3=>wp_nil<|c_seq<|reg<|p_mI rfl<|p_mI rfl<|p_bld (cs:=[I a0,I a1]) st51 (rfl:_=[(0,I a0),(1,I a1)]) (by kernel_rfl)<|p_stP (pre:=[]) (old:=[I 0,I 0]) (post:=[]) (vs:=[I a0,I a1]) sz51 S3 (i:=0) rfl rfl rfl rfl (rfl:_=AG [I a0,I a1]) rfl rfl rfl rfl fun w4 S5=>wp_nil ?_
 obtain rfl:=sJ H
 refine c_ret ?_; show bodyPostM (Fr none) 0 Tryz.prog Tryz.f32 _ .ret _ _
 refine ret_of (res1 rfl (rvA rfl ty51 sz51 (S5.atX (i:=0) rfl) rfl)) ?_
 exact ⟨_,rfl,rfl,S5.keep⟩
def ref05_span (a0:TallyCount):Option Span:=
 (B_Range (wr ((wr (a0.Told*a0.Unit)) - a0.Over)) (wr ((wr (a0.Told*a0.Unit))+a0.Under))).bind fun r7=>
 some r7
set_option maxRecDepth 100000 in
theorem ref05_span_ok {a0:TallyCount}{w:World}{r:Span} (H:ref05_span a0=some r):Calls Tryz.prog 122 #[AG [I a0.Who,I a0.From,I a0.To,I a0.Told,I a0.Unit,I a0.Under,I a0.Over]] w (RetV w (AG [I r.Low,I r.High])):=by
 unfold ref05_span at H
 refine fn_of (n:=18) Tryz.func122 rfl rfl (lE rfl) ?_
 have S:=St.start w nF _ nM
 refine c_seq<|reg<|p_boxA rfl S fun b1 w2 S3=>p_allA in51 S3 fun b4 w5 S6=>wp_nil<|c_seq<|reg<|p_fld fl106_3 rfl<|p_ld ty3 (S6.atX (i:=1) rfl) rfl rfl<|p_fld fl106_4 rfl<|p_ld ty3 (S6.atX (i:=1) rfl) rfl rfl<|p_mul rfl rfl<|p_aI rfl<|wp_nil<|c_seq<|reg<|p_mI rfl<|p_fld fl106_6 rfl<|p_ld ty3 (S6.atX (i:=1) rfl) rfl rfl<|p_sub rfl rfl<|p_mI rfl<|p_fld fl106_5 rfl<|p_ld ty3 (S6.atX (i:=1) rfl) rfl rfl<|p_add rfl rfl ?_
 obtain ⟨r7,h8,H⟩:=bindS H
 refine p_cv (B_Range_ok h8) fu32 rfl S6 fun w9 S10=>p_stP (pre:=[]) (old:=[I 0,I 0]) (post:=[]) (vs:=[I r7.Low,I r7.High]) sz51 S10 (i:=0) rfl rfl rfl rfl (rfl:_=AG [I r7.Low,I r7.High]) rfl rfl rfl rfl fun w11 S12=>wp_nil ?_
 obtain rfl:=sJ H
 refine c_ret ?_; show bodyPostM (Fr none) 0 Tryz.prog Tryz.f122 _ .ret _ _
 refine ret_of (res1 rfl (rvA rfl ty51 sz51 (S12.atX (i:=0) rfl) rfl)) ?_
 exact ⟨_,rfl,rfl,S12.keep⟩
def B_Contains (a0:Span) (a1:Int):Option Bool:=
 (B_Inside a1 a0.Low a0.High).bind fun r4=>
 some r4
set_option maxRecDepth 100000 in
theorem B_Contains_ok {a0:Span}{a1:Int}{w:World}{r:Bool} (H:B_Contains a0 a1=some r):Calls Tryz.prog 123 #[AG [I a0.Low,I a0.High],I a1] w (RetV w (B r)):=by
 unfold B_Contains at H
 refine fn_of (n:=11) Tryz.func123 rfl rfl (lE rfl) ?_
 have S:=St.start w nF _ nM
 refine c_seq<|reg<|p_boxA rfl S fun b1 w2 S3=>p_aB rfl<|wp_nil<|c_seq<|reg<|p_mI rfl<|p_fld fl51_0 rfl<|p_ld ty3 (S3.atX (i:=0) rfl) rfl rfl<|p_fld fl51_1 rfl<|p_ld ty3 (S3.atX (i:=0) rfl) rfl rfl ?_
 obtain ⟨r4,h5,H⟩:=bindS H
 refine p_cv (B_Inside_ok h5) fu57 rfl S3 fun w6 S7=>p_aB rfl<|wp_nil ?_
 obtain rfl:=sJ H
 exact c_ret (rT Tryz.f123 S7.keep rfl rfl)
def B_SumOf_l1 (a0:List Int) (rec_z_1:(Int×Int)→Option Int) (z_1:Int×Int):Option Int:=
 bif decide (z_1.2 < (a0.length:Int)) then ((getI a0 z_1.2).bind fun r9=>
 rec_z_1 (wr (z_1.1+r9),wr (z_1.2+1)))
 else (some z_1.1)
def B_SumOf (a0:List Int):Option Int:=
 loopF (B_SumOf_l1 a0) big (0,0)
set_option maxRecDepth 100000 in
theorem B_SumOf_ok {a0:List Int}{A1:Option Addr}{c2:Nat}{w:World}{r:Int} (H:B_SumOf a0=some r) (h3:(rd intE 1 A1 c2 a0).ok w):Calls Tryz.prog 124 #[SL A1 a0.length c2] w (RetV w (I r)):=by
 unfold B_SumOf at H
 refine fn_of (n:=18) Tryz.func124 rfl rfl (lE rfl) ?_
 have S:=St.start w nF _ (cA h3 nM)
 refine c_seq<|reg<|p_aI rfl<|wp_nil<|c_seq<|reg<|p_aI rfl<|wp_nil<|c_seq<|c_seq<|reg<|p_aI rfl<|wp_nil<|c_block ?_
 refine c_lop (α:=Int×Int) (β:=Unit) (B_SumOf_l1 a0) (fun z_1 y_1=>[(0,SL A1 a0.length c2),(3,I z_1.1),(4,I z_1.2)]) (fun z_1 y_1 w_=>St w nF w_ [] [rd intE 1 A1 c2 a0]) (0,0) () H ⟨rfl,rfl,rfl,trivial⟩ S ?_
 intro m4 z_1 y_1 e5 w6 H S7
 unfold B_SumOf_l1 at H
 refine c_seq<|c_seq<|reg<|p_mI rfl<|p_mS rfl<|p_len rfl sc60<|p_cmp rfl rfl rfl<|wp_nil ?_
 refine c_cond rfl (fun c8=>?_) (fun c8=>?_)
 ·replace H:=condT c8 H
  refine c_skip<|c_seq<|c_block<|reg<|p_mI rfl<|p_mS rfl<|p_mI rfl ?_
  obtain ⟨r9,h10,H⟩:=bindS H
  refine p_ixE sc60 h10 (S7.atP (i:=0) rfl).1 rfl rfl rfl<|p_ldE ty3 h10 (S7.atP (i:=0) rfl).1 rfl rfl<|p_add rfl rfl<|p_aI rfl<|wp_nil<|reg<|p_mI rfl<|p_add rfl rfl<|p_aI rfl<|wp_nil ?_
  exact ⟨(wr (z_1.1+r9),wr (z_1.2+1)),(),_,rfl,⟨rfl,rfl,rfl,trivial⟩,H,S7⟩
 ·replace H:=condF c8 H
  refine c_exit<|c_seq<|reg<|p_mI rfl<|p_aI rfl<|wp_nil ?_
  obtain rfl:=sJ H
  exact c_ret (rT Tryz.f124 S7.keep rfl rfl)
def ref05_Can_l2 (a0:TallyBook) (a1:List Int) (rec_z_2:(Bool×Int)→Option (Bool×Int)) (z_2:Bool×Int):Option (Bool×Int):=
 bif z_2.1 then (bif decide (z_2.2 < (a0.Counts.length:Int)) then ((getI a0.Counts z_2.2).bind fun r38=>
 (ref05_span r38).bind fun r45=>
 (cutI a1 r38.From (wr (r38.To+1))).bind fun r47=>
 (B_SumOf r47).bind fun r49=>
 (B_Contains r45 r49).bind fun r51=>
 rec_z_2 (r51,wr (z_2.2+1)))
 else (some (z_2.1,0)))
 else (some (z_2.1,0))
def ref05_Can_l3 (a1:List Int) (a0:TallyBook) (rec_z_1:(Bool×Int)→Option (Bool×Int)) (z_1:Bool×Int):Option (Bool×Int):=
 bif decide (z_1.2 < (a1.length:Int)) then (bif z_1.1 then ((getI a1 z_1.2).bind fun r22=>
 (B_Inside r22 0 a0.Room).bind fun r24=>
 rec_z_1 (r24,wr (z_1.2+1)))
 else (rec_z_1 (false,wr (z_1.2+1))))
 else (loopF (ref05_Can_l2 a0 a1) big (z_1.1,0))
def ref05_Can (a0:TallyBook) (a1:List Int):Option (Bool×Int):=
 (ref05_Check a0).bind fun r10=>
 bif (r10 != 0) then (some (false,r10))
 else (bif ((a1.length:Int) != a0.Trips) then (some (false,51))
 else (loopF (ref05_Can_l3 a1 a0) big (true,0)))
set_option maxRecDepth 100000 in
theorem ref05_Can_ok {a0:TallyBook}{a1:List Int}{A1:Option Addr}{c2:Nat}{A4:Option Addr}{c5:Nat}{w:World}{r:Bool×Int} (H:ref05_Can a0 a1=some r) (h3:(rd eTallyCount 7 A1 c2 a0.Counts).ok w) (h6:(rd intE 1 A4 c5 a1).ok w):Calls Tryz.prog 109 #[AG [I a0.Trips,I a0.Room,SL A1 a0.Counts.length c2],SL A4 a1.length c5] w (RetV w (TU [B r.1,I r.2])):=by
 unfold ref05_Can at H
 refine fn_of (n:=64) Tryz.func109 rfl rfl (lE rfl) ?_
 have S:=St.start w nF _ (cA h3 (cA h6 nM))
 refine c_seq<|reg<|p_boxA rfl S fun b7 w8 S9=>p_aB rfl<|p_aI rfl<|wp_nil<|c_seq<|c_seq<|reg<|p_ldA ty24 sz24 (S9.atX (i:=0) rfl) rfl rfl ?_
 obtain ⟨r10,h11,H⟩:=bindS H
 refine p_cv (ref05_Check_ok h11 (S9.atP (i:=0) rfl)) fu56 rfl S9 fun w12 S13=>p_aI rfl<|wp_nil<|c_seq<|reg<|p_mI rfl<|p_cmp rfl rfl rfl<|wp_nil ?_
 refine c_cond rfl (fun c14=>?_) (fun c14=>?_)
 ·replace H:=condT c14 H
  refine c_seq<|reg<|p_mI rfl<|p_aB rfl<|p_aI rfl<|wp_nil ?_
  obtain rfl:=sJ H
  refine c_ret ?_; show bodyPostM (Fr none) 0 Tryz.prog Tryz.f109 _ .ret _ _
  refine ret_of (res2 rfl (rvT (rfl:_=B false)) (rvT (rfl:_=I r10))) ?_
  exact ⟨_,rfl,rfl,S13.keep⟩
 ·replace H:=condF c14 H
  refine c_skip<|c_seq<|c_seq<|reg<|p_mS rfl<|p_len rfl sc60<|p_fld fl24_0 rfl<|p_ld ty3 (S13.atX (i:=0) rfl) rfl rfl<|p_cmp rfl rfl rfl<|wp_nil ?_
  refine c_cond rfl (fun c15=>?_) (fun c15=>?_)
  ·replace H:=condT c15 H
   refine c_seq<|reg<|p_aB rfl<|p_aI rfl<|wp_nil ?_
   obtain rfl:=sJ H
   refine c_ret ?_; show bodyPostM (Fr none) 0 Tryz.prog Tryz.f109 _ .ret _ _
   refine ret_of (res2 rfl (rvT (rfl:_=B false)) (rvT (rfl:_=I 51))) ?_
   exact ⟨_,rfl,rfl,S13.keep⟩
  ·replace H:=condF c15 H
   refine c_skip<|c_seq<|reg<|p_aB rfl<|wp_nil<|c_seq<|c_seq<|reg<|p_aI rfl<|wp_nil<|c_block ?_
   refine c_lop (α:=Bool×Int) (β:=Unit) (ref05_Can_l3 a1 a0) (fun z_1 y_1=>[(1,SL A4 a1.length c5),(2,P b7 0),(7,B z_1.1),(8,I z_1.2)]) (fun z_1 y_1 w_=>St w nF w_ [bl b7 [I a0.Trips,I a0.Room,SL A1 a0.Counts.length c2] 24] [rd eTallyCount 7 A1 c2 a0.Counts,rd intE 1 A4 c5 a1]) (true,0) () H ⟨rfl,rfl,rfl,rfl,trivial⟩ S13 ?_
   intro m16 z_1 y_1 e17 w18 H S19
   unfold ref05_Can_l3 at H
   refine c_seq<|c_seq<|reg<|p_mI rfl<|p_mS rfl<|p_len rfl sc60<|p_cmp rfl rfl rfl<|wp_nil ?_
   refine c_cond rfl (fun c20=>?_) (fun c20=>?_)
   ·replace H:=condT c20 H
    refine c_skip<|c_seq<|c_block ?_
    rcases bE (z_1.1) with c21 | c21
    ·replace H:=condT c21 H
     obtain ⟨r22,h23,H⟩:=bindS H
     obtain ⟨r24,h25,H⟩:=bindS H
     refine reg_q mixed 10 (by kernel_rfl) ?_
     refine dS (fun _ k_=>p_mB rfl dn)<|dS (fun _ k_=>p_mB rfl dn)<|dB c21<|dS (fun _ k_=>gT rfl rfl (p_mS rfl dn))<|dS (fun _ k_=>gT rfl rfl (p_mI rfl dn))<|dS (fun _ k_=>gT rfl rfl (p_ixE sc60 h23 (aS (S19.atP (i:=1) rfl) k_).1 rfl rfl rfl dn))<|dS (fun _ k_=>gT rfl rfl (p_ldE ty3 h23 (aS (S19.atP (i:=1) rfl) k_).1 rfl rfl dn))<|dS (fun _ k_=>gT rfl rfl (p_fld fl24_1 rfl dn)) ?_
     refine dS (fun _ k_=>gT rfl rfl (p_ld ty3 (aS (S19.atX (i:=0) rfl) k_) rfl rfl dn))<|dS (fun _ k_=>gT rfl rfl (p_cvD (B_Inside_ok h25) fu57 rfl))<|dS (fun _ k_=>p_pkT rfl (rfl:_=B r24) dn) ?_
     intro w26 k27; have S28:=S19.call k27
     refine p_aB rfl<|wp_nil<|reg<|p_mI rfl<|p_add rfl rfl<|p_aI rfl<|wp_nil ?_
     exact ⟨(r24,wr (z_1.2+1)),(),_,rfl,⟨rfl,rfl,rfl,rfl,trivial⟩,H,S28⟩
    ·replace H:=condF c21 H
     refine reg_q mixed 10 (by kernel_rfl) ?_
     refine dS (fun _ k_=>p_mB rfl dn)<|dS (fun _ k_=>p_mB rfl dn)<|dB c21<|dF rfl rfl<|dF rfl rfl<|dF rfl rfl<|dF rfl rfl<|dF rfl rfl<|dF rfl rfl<|dF rfl rfl<|dS (fun _ k_=>p_pkF rfl (rfl:_=B false) dn) ?_
     intro w29 k30; have S31:=S19.call k30
     refine p_aB rfl<|wp_nil<|reg<|p_mI rfl<|p_add rfl rfl<|p_aI rfl<|wp_nil ?_
     exact ⟨(false,wr (z_1.2+1)),(),_,rfl,⟨rfl,rfl,rfl,rfl,trivial⟩,H,S31⟩
   ·replace H:=condF c20 H
    refine c_exit<|c_seq<|c_seq<|reg<|p_aI rfl<|wp_nil<|c_block ?_
    refine c_lop (α:=Bool×Int) (β:=Unit) (ref05_Can_l2 a0 a1) (fun z_2 y_2=>[(1,SL A4 a1.length c5),(2,P b7 0),(7,B z_2.1),(9,I z_2.2)]) (fun z_2 y_2 w_=>St w nF w_ [bl b7 [I a0.Trips,I a0.Room,SL A1 a0.Counts.length c2] 24] [rd eTallyCount 7 A1 c2 a0.Counts,rd intE 1 A4 c5 a1]) (z_1.1,0) () H ⟨rfl,rfl,rfl,rfl,trivial⟩ S19 ?_
    intro m32 z_2 y_2 e33 w34 H S35
    unfold ref05_Can_l2 at H
    refine c_seq<|c_seq<|reg<|p_mB rfl<|p_mB rfl ?_
    rcases bE (z_2.1) with c36 | c36
    ·replace H:=condT c36 H
     refine eB c36 ?_
     refine gT rfl rfl (p_mI rfl ?_)
     refine gT rfl rfl (p_fld fl24_2 rfl ?_)
     refine gT rfl rfl (p_ld ty22 (S35.atX (i:=0) rfl) rfl rfl ?_)
     refine gT rfl rfl (p_len rfl sc22 ?_)
     refine gT rfl rfl (p_cmp rfl rfl rfl ?_)
     refine p_pkT rfl (rfl:_=B (decide (z_2.2 < (a0.Counts.length:Int))))<|wp_nil ?_
     refine c_cond rfl (fun c37=>?_) (fun c37=>?_)
     ·replace H:=condT c37 H
      refine c_skip<|c_seq<|c_block<|c_seq<|reg<|p_fld fl24_2 rfl<|p_ld ty22 (S35.atX (i:=0) rfl) rfl rfl<|p_mI rfl ?_
      obtain ⟨r38,h39,H⟩:=bindS H
      refine p_ixE sc22 h39 (S35.atP (i:=0) rfl).1 rfl rfl rfl<|p_ldEA ty106 sz106 rfl h39 (S35.atP (i:=0) rfl).1 rfl<|p_allA in106 S35 fun b40 w41 S42=>?_
      refine p_stP (pre:=[]) (old:=[I 0,I 0,I 0,I 0,I 0,I 0,I 0]) (post:=[]) (vs:=[I r38.Who,I r38.From,I r38.To,I r38.Told,I r38.Unit,I r38.Under,I r38.Over]) sz106 S42 (i:=0) rfl rfl rfl rfl (rfl:_=AG [I r38.Who,I r38.From,I r38.To,I r38.Told,I r38.Unit,I r38.Under,I r38.Over]) rfl rfl rfl rfl fun w43 S44=>wp_nil ?_
      obtain ⟨r45,h46,H⟩:=bindS H
      obtain ⟨r47,h48,H⟩:=bindS H
      obtain ⟨r49,h50,H⟩:=bindS H
      obtain ⟨r51,h52,H⟩:=bindS H
      refine reg_q mixed 12 (by kernel_rfl) ?_
      refine dS (fun _ k_=>p_ldA ty106 sz106 (aS (S44.atX (i:=0) rfl) k_) rfl rfl dn)<|dS (fun _ k_=>p_cvD (ref05_span_ok h46) fu122 rfl)<|dS (fun _ k_=>p_mS rfl dn)<|dS (fun _ k_=>p_fld fl106_1 rfl dn)<|dS (fun _ k_=>p_ld ty3 (aS (S44.atX (i:=0) rfl) k_) rfl rfl dn)<|dS (fun _ k_=>p_fld fl106_2 rfl dn)<|dS (fun _ k_=>p_ld ty3 (aS (S44.atX (i:=0) rfl) k_) rfl rfl dn) ?_
      refine dS (fun _ k_=>p_add rfl rfl dn)<|dS (fun _ k_=>p_cut sc60 h48 (aS (S44.atP (i:=1) rfl) k_) rfl rfl rfl dn)<|dS (fun _ k_=>p_cvD (B_SumOf_ok h50 (rd_cut h48 (aS (S44.atP (i:=1) rfl) k_))) fu124 rfl)<|dS (fun _ k_=>p_cvD (B_Contains_ok h52) fu123 rfl)<|dS (fun _ k_=>p_aB rfl dn) ?_
      intro w53 k54; have S55:=S44.call k54
      refine wp_nil<|reg<|p_mI rfl<|p_add rfl rfl<|p_aI rfl<|wp_nil ?_
      have S56:=S55.pk [1] (by decide) [0,1] rfl rfl
      exact ⟨(r51,wr (z_2.2+1)),(),_,rfl,⟨rfl,rfl,rfl,rfl,trivial⟩,H,S56⟩
     ·replace H:=condF c37 H
      refine c_exit<|c_seq<|reg<|p_mB rfl<|p_aB rfl<|p_aI rfl<|wp_nil ?_
      obtain rfl:=sJ H
      refine c_ret ?_; show bodyPostM (Fr none) 0 Tryz.prog Tryz.f109 _ .ret _ _
      refine ret_of (res2 rfl (rvT (rfl:_=B z_2.1)) (rvT (rfl:_=I 0))) ?_
      exact ⟨_,rfl,rfl,S35.keep⟩
    ·replace H:=condF c36 H
     refine eB c36<|gF rfl rfl<|gF rfl rfl<|gF rfl rfl<|gF rfl rfl<|gF rfl rfl<|p_pkF rfl (rfl:_=B false)<|wp_nil<|c_false rfl<|c_exit<|c_seq<|reg<|p_mB rfl<|p_aB rfl<|p_aI rfl<|wp_nil ?_
     obtain rfl:=sJ H
     refine c_ret ?_; show bodyPostM (Fr none) 0 Tryz.prog Tryz.f109 _ .ret _ _
     refine ret_of (res2 rfl (rvT (rfl:_=B z_2.1)) (rvT (rfl:_=I 0))) ?_
     exact ⟨_,rfl,rfl,S35.keep⟩
def ref10_covers_l1 (a0:TicketBook) (a1:Int) (rec_z_1:(Int×Int)→Option Int) (z_1:Int×Int):Option Int:=
 bif decide (z_1.2 < (a0.Tickets.length:Int)) then ((getI a0.Tickets z_1.2).bind fun r21=>
 (B_Inside a1 r21.From r21.To).bind fun r28=>
 bif r28 then (need (decide (0≤z_1.2))<|
 rec_z_1 (orI z_1.1 (shlI 1 z_1.2),wr (z_1.2+1)))
 else (rec_z_1 (z_1.1,wr (z_1.2+1))))
 else (some z_1.1)
def ref10_covers (a0:TicketBook) (a1:Int):Option Int:=
 loopF (ref10_covers_l1 a0 a1) big (0,0)
set_option maxRecDepth 100000 in
theorem ref10_covers_ok {a0:TicketBook}{a1:Int}{A1:Option Addr}{c2:Nat}{A4:Option Addr}{c5:Nat}{A7:Option Addr}{c8:Nat}{A10:Option Addr}{c11:Nat}{w:World}{r:Int} (H:ref10_covers a0 a1=some r) (h3:(rd eTallyCount 7 A1 c2 a0.Tally.Counts).ok w) (h6:(rd eTicketSeason 2 A4 c5 a0.Tickets).ok w) (h9:(rd eTicketShow 3 A7 c8 a0.Shows).ok w) (h12:(rd eTicketBox 4 A10 c11 a0.Boxes).ok w):Calls Tryz.prog 110 #[AG (vB a0 A1 c2 A4 c5 A7 c8 A10 c11),I a1] w (RetV w (I r)):=by
 unfold ref10_covers at H
 refine fn_of (n:=31) Tryz.func110 rfl rfl (lE rfl) ?_
 have S:=St.start w nF _ (cA h3 (cA h6 (cA h9 (cA h12 nM))))
 refine c_seq<|reg<|p_boxA rfl S fun b13 w14 S15=>p_aI rfl<|wp_nil<|c_seq<|reg<|p_aI rfl<|wp_nil<|c_seq<|c_seq<|reg<|p_aI rfl<|wp_nil<|c_block ?_
 refine c_lop (α:=Int×Int) (β:=Unit) (ref10_covers_l1 a0 a1) (fun z_1 y_1=>[(1,I a1),(2,P b13 0),(5,I z_1.1),(6,I z_1.2)]) (fun z_1 y_1 w_=>St w nF w_ [bl b13 (vB a0 A1 c2 A4 c5 A7 c8 A10 c11) 29] [rd eTallyCount 7 A1 c2 a0.Tally.Counts,rd eTicketSeason 2 A4 c5 a0.Tickets,rd eTicketShow 3 A7 c8 a0.Shows,rd eTicketBox 4 A10 c11 a0.Boxes]) (0,0) () H ⟨rfl,rfl,rfl,rfl,trivial⟩ S15 ?_
 intro m16 z_1 y_1 e17 w18 H S19
 unfold ref10_covers_l1 at H
 refine c_seq<|c_seq<|reg<|p_mI rfl<|p_fld fl29_2 rfl<|p_ld ty25 (S19.atX (i:=0) rfl) rfl rfl<|p_len rfl sc25<|p_cmp rfl rfl rfl<|wp_nil ?_
 refine c_cond rfl (fun c20=>?_) (fun c20=>?_)
 ·replace H:=condT c20 H
  refine c_skip<|c_seq<|c_block<|c_seq<|reg<|p_fld fl29_2 rfl<|p_ld ty25 (S19.atX (i:=0) rfl) rfl rfl<|p_mI rfl ?_
  obtain ⟨r21,h22,H⟩:=bindS H
  refine p_ixE sc25 h22 (S19.atP (i:=1) rfl).1 rfl rfl rfl<|p_ldEA ty84 sz84 rfl h22 (S19.atP (i:=1) rfl).1 rfl<|p_allA in84 S19 fun b23 w24 S25=>p_stP (pre:=[]) (old:=[I 0,I 0]) (post:=[]) (vs:=[I r21.From,I r21.To]) sz84 S25 (i:=0) rfl rfl rfl rfl (rfl:_=AG [I r21.From,I r21.To]) rfl rfl rfl rfl fun w26 S27=>wp_nil<|c_seq<|reg<|p_mI rfl<|p_fld fl84_0 rfl<|p_ld ty3 (S27.atX (i:=0) rfl) rfl rfl ?_
  refine p_fld fl84_1 rfl<|p_ld ty3 (S27.atX (i:=0) rfl) rfl rfl ?_
  obtain ⟨r28,h29,H⟩:=bindS H
  refine p_cv (B_Inside_ok h29) fu57 rfl S27 fun w30 S31=>wp_nil ?_
  refine c_cond rfl (fun c32=>?_) (fun c32=>?_)
  ·replace H:=condT c32 H
   refine reg<|p_mI rfl<|p_mI rfl ?_
   obtain ⟨h33,H⟩:=needS H
   refine p_shl h33 rfl rfl<|p_orI rfl rfl<|p_aI rfl<|wp_nil<|reg<|p_mI rfl<|p_add rfl rfl<|p_aI rfl<|wp_nil ?_
   have S34:=S31.pk [1] (by decide) [0,1,2,3] rfl rfl
   exact ⟨(orI z_1.1 (shlI 1 z_1.2),wr (z_1.2+1)),(),_,rfl,⟨rfl,rfl,rfl,rfl,trivial⟩,H,S34⟩
  ·replace H:=condF c32 H
   refine c_skip<|reg<|p_mI rfl<|p_add rfl rfl<|p_aI rfl<|wp_nil ?_
   have S35:=S31.pk [1] (by decide) [0,1,2,3] rfl rfl
   exact ⟨(z_1.1,wr (z_1.2+1)),(),_,rfl,⟨rfl,rfl,rfl,rfl,trivial⟩,H,S35⟩
 ·replace H:=condF c20 H
  refine c_exit<|c_seq<|reg<|p_mI rfl<|p_aI rfl<|wp_nil ?_
  obtain rfl:=sJ H
  exact c_ret (rT Tryz.f110 S19.keep rfl rfl)
def ref10_shown_l1 (a0:TicketBook) (a1:Int) (rec_z_1:(Int×Int)→Option Int) (z_1:Int×Int):Option Int:=
 bif decide (z_1.2 < (a0.Shows.length:Int)) then ((getI a0.Shows z_1.2).bind fun r21=>
 bif (r21.Trip==a1) then (need (decide (0≤r21.Ticket))<|
 rec_z_1 (orI z_1.1 (shlI 1 r21.Ticket),wr (z_1.2+1)))
 else (rec_z_1 (z_1.1,wr (z_1.2+1))))
 else (some z_1.1)
def ref10_shown (a0:TicketBook) (a1:Int):Option Int:=
 loopF (ref10_shown_l1 a0 a1) big (0,0)
set_option maxRecDepth 100000 in
theorem ref10_shown_ok {a0:TicketBook}{a1:Int}{A1:Option Addr}{c2:Nat}{A4:Option Addr}{c5:Nat}{A7:Option Addr}{c8:Nat}{A10:Option Addr}{c11:Nat}{w:World}{r:Int} (H:ref10_shown a0 a1=some r) (h3:(rd eTallyCount 7 A1 c2 a0.Tally.Counts).ok w) (h6:(rd eTicketSeason 2 A4 c5 a0.Tickets).ok w) (h9:(rd eTicketShow 3 A7 c8 a0.Shows).ok w) (h12:(rd eTicketBox 4 A10 c11 a0.Boxes).ok w):Calls Tryz.prog 111 #[AG (vB a0 A1 c2 A4 c5 A7 c8 A10 c11),I a1] w (RetV w (I r)):=by
 unfold ref10_shown at H
 refine fn_of (n:=30) Tryz.func111 rfl rfl (lE rfl) ?_
 have S:=St.start w nF _ (cA h3 (cA h6 (cA h9 (cA h12 nM))))
 refine c_seq<|reg<|p_boxA rfl S fun b13 w14 S15=>p_aI rfl<|wp_nil<|c_seq<|reg<|p_aI rfl<|wp_nil<|c_seq<|c_seq<|reg<|p_aI rfl<|wp_nil<|c_block ?_
 refine c_lop (α:=Int×Int) (β:=Unit) (ref10_shown_l1 a0 a1) (fun z_1 y_1=>[(1,I a1),(2,P b13 0),(5,I z_1.1),(6,I z_1.2)]) (fun z_1 y_1 w_=>St w nF w_ [bl b13 (vB a0 A1 c2 A4 c5 A7 c8 A10 c11) 29] [rd eTallyCount 7 A1 c2 a0.Tally.Counts,rd eTicketSeason 2 A4 c5 a0.Tickets,rd eTicketShow 3 A7 c8 a0.Shows,rd eTicketBox 4 A10 c11 a0.Boxes]) (0,0) () H ⟨rfl,rfl,rfl,rfl,trivial⟩ S15 ?_
 intro m16 z_1 y_1 e17 w18 H S19
 unfold ref10_shown_l1 at H
 refine c_seq<|c_seq<|reg<|p_mI rfl<|p_fld fl29_3 rfl<|p_ld ty26 (S19.atX (i:=0) rfl) rfl rfl<|p_len rfl sc26<|p_cmp rfl rfl rfl<|wp_nil ?_
 refine c_cond rfl (fun c20=>?_) (fun c20=>?_)
 ·replace H:=condT c20 H
  refine c_skip<|c_seq<|c_block<|c_seq<|reg<|p_fld fl29_3 rfl<|p_ld ty26 (S19.atX (i:=0) rfl) rfl rfl<|p_mI rfl ?_
  obtain ⟨r21,h22,H⟩:=bindS H
  refine p_ixE sc26 h22 (S19.atP (i:=2) rfl).1 rfl rfl rfl<|p_ldEA ty86 sz86 rfl h22 (S19.atP (i:=2) rfl).1 rfl<|p_allA in86 S19 fun b23 w24 S25=>p_stP (pre:=[]) (old:=[I 0,I 0,I 0]) (post:=[]) (vs:=[I r21.Trip,I r21.Ticket,I r21.Walker]) sz86 S25 (i:=0) rfl rfl rfl rfl (rfl:_=AG [I r21.Trip,I r21.Ticket,I r21.Walker]) rfl rfl rfl rfl fun w26 S27=>wp_nil<|c_seq<|reg<|p_fld fl86_0 rfl ?_
  refine p_ld ty3 (S27.atX (i:=0) rfl) rfl rfl<|p_mI rfl<|p_cmp rfl rfl rfl<|wp_nil ?_
  refine c_cond rfl (fun c28=>?_) (fun c28=>?_)
  ·replace H:=condT c28 H
   refine reg<|p_mI rfl<|p_fld fl86_1 rfl<|p_ld ty3 (S27.atX (i:=0) rfl) rfl rfl ?_
   obtain ⟨h29,H⟩:=needS H
   refine p_shl h29 rfl rfl<|p_orI rfl rfl<|p_aI rfl<|wp_nil<|reg<|p_mI rfl<|p_add rfl rfl<|p_aI rfl<|wp_nil ?_
   have S30:=S27.pk [1] (by decide) [0,1,2,3] rfl rfl
   exact ⟨(orI z_1.1 (shlI 1 r21.Ticket),wr (z_1.2+1)),(),_,rfl,⟨rfl,rfl,rfl,rfl,trivial⟩,H,S30⟩
  ·replace H:=condF c28 H
   refine c_skip<|reg<|p_mI rfl<|p_add rfl rfl<|p_aI rfl<|wp_nil ?_
   have S31:=S27.pk [1] (by decide) [0,1,2,3] rfl rfl
   exact ⟨(z_1.1,wr (z_1.2+1)),(),_,rfl,⟨rfl,rfl,rfl,rfl,trivial⟩,H,S31⟩
 ·replace H:=condF c20 H
  refine c_exit<|c_seq<|reg<|p_mI rfl<|p_aI rfl<|wp_nil ?_
  obtain rfl:=sJ H
  exact c_ret (rT Tryz.f111 S19.keep rfl rfl)
def B_Grown (a0:List Int) (a1:Int):Option (List Int):=
 need (inI (wr ((a0.length:Int)+1)) 1073741824)<|
 need (decide (a0.length≤(List.replicate (wr ((a0.length:Int)+1)).toNat (0:Int)).length))<|
 (getI (a0++List.drop a0.length (List.replicate (wr ((a0.length:Int)+1)).toNat (0:Int))) (a0.length:Int)).bind fun r15=>
 some ((a0++List.drop a0.length (List.replicate (wr ((a0.length:Int)+1)).toNat (0:Int))).set (a0.length:Int).toNat a1)
set_option maxRecDepth 100000 in
theorem B_Grown_ok {a0:List Int}{a1:Int}{A1:Option Addr}{c2:Nat}{w:World}{r:(List Int)} (H:B_Grown a0 a1=some r) (h3:(rd intE 1 A1 c2 a0).ok w):Calls Tryz.prog 112 #[SL A1 a0.length c2,I a1] w fun en w_=>∃ u_,en=.returned u_∧∃ A_1:Option Addr,∃ c_2:Nat,u_=SL A_1 r.length c_2∧Keep0 w w_∧((gr intE 1 3 A_1 c_2 r).ok w_∧New w.heap.size (gr intE 1 3 A_1 c_2 r))∧True:=by
 unfold B_Grown at H
 refine fn_of (n:=19) Tryz.func112 rfl rfl (lE rfl) ?_
 have S:=St.start w nF _ (cA h3 nM)
 refine c_seq<|reg<|p_aS rfl<|wp_nil<|c_seq<|reg<|p_mS rfl<|p_len rfl sc60<|p_add rfl rfl ?_
 obtain ⟨h4,H⟩:=needS H
 refine p_mkV (enc:=intE) (x0:=(0:Int)) (len:=wr ((a0.length:Int)+1)) sc60 in3 intE_len rfl (by decide) h4 S rfl rfl fun A5 w6 S7=>p_aS rfl<|wp_nil<|c_seq<|reg<|p_mS rfl<|p_mS rfl ?_
 obtain ⟨h9,H⟩:=needS H
 refine p_cp sc60 S7 (i:=0) rfl (S7.atP (i:=0) rfl).1 h9 rfl rfl fun l10 w13 h11 h12 S14=>?_
 obtain rfl:l10=(a0++List.drop a0.length (List.replicate (wr ((a0.length:Int)+1)).toNat (0:Int))):=h11
 try rw [← h12]
 try rw [← h12] at S14
 refine wp_nil<|c_seq<|reg<|p_mS rfl<|p_mS rfl<|p_len rfl sc60<|p_mI rfl ?_
 obtain ⟨r15,h16,H⟩:=bindS H
 refine p_ixE sc60 h16 (gr_sl intE_len (S14.atX (i:=0) rfl)) rfl rfl rfl<|p_stE (x' :=a1) (a:=[]) (old:=[I r15]) (b:=[]) (vs:=[I a1]) sz3 intE_len intE_one S14 (i:=0) rfl h16 rfl (rfl:_=I a1) rfl rfl rfl rfl rfl rfl fun l19 w20 h17 h18 S21=>?_
 obtain rfl:l19=((a0++List.drop a0.length (List.replicate (wr ((a0.length:Int)+1)).toNat (0:Int))).set (a0.length:Int).toNat a1):=h17
 try rw [← h18]
 try rw [← h18] at S21
 refine wp_nil<|c_seq<|reg<|p_mS rfl<|p_aS rfl<|wp_nil ?_
 obtain rfl:=sJ H
 refine c_ret ?_; show bodyPostM (Fr none) 0 Tryz.prog Tryz.f112 _ .ret _ _
 refine ret_of (res1 rfl (rvT (rfl:_=SL A5 ((a0++List.drop a0.length (List.replicate (wr ((a0.length:Int)+1)).toNat (0:Int))).set (a0.length:Int).toNat a1).length ((wr ((a0.length:Int)+1)).toNat)))) ?_
 exact ⟨_,rfl,A5,((wr ((a0.length:Int)+1)).toNat),rfl,S21.keep,⟨S21.atX (i:=0) rfl,S21.newX (i:=0) rfl⟩,trivial⟩
def nRef10_truth (h:Ref10_truth×(Option Addr)×Nat×(Option Addr)×Nat):List Value:=[SL h.2.1 h.1.crossed_.length h.2.2.1,SL h.2.2.2.1 h.1.used_.length h.2.2.2.2]
theorem nRef10_truth_len (h:Ref10_truth×(Option Addr)×Nat×(Option Addr)×Nat):(nRef10_truth h).length=2:=rfl
theorem nRef10_truth_one (h:Ref10_truth×(Option Addr)×Nat×(Option Addr)×Nat):∀ u∈nRef10_truth h,u.oneCell' =true:=by simp [nRef10_truth,sg,sgF,Value.oneCell']
def nRef10_truthI (h:Ref10_truth×(Option Addr)×Nat×(Option Addr)×Nat):List Asr:=[rd intE 1 h.2.1 h.2.2.1 h.1.crossed_,rd intE 1 h.2.2.2.1 h.2.2.2.2 h.1.used_]
def ref10_goes_j32 (a1:Ref10_truth) (z_2:(List Ref10_truth)×Int) (z_3:(List Ref10_truth)×Int) (rec_:TicketBook→Ref10_truth→Option (List Ref10_truth)) (a0:TicketBook) (rec_z_3:((List Ref10_truth)×Int)→Option (List Ref10_truth)) (z_4:Bool):Option (List Ref10_truth):=
 bif z_4 then ((B_Grown a1.crossed_ z_2.2).bind fun r79=>
 (B_Grown a1.used_ z_3.2).bind fun r92=>
 (rec_ a0 (Ref10_truth.mk r79 r92)).bind fun r110=>
 bif r110.isEmpty then (rec_z_3 (z_3.1,wr (z_3.2+1)))
 else (need (fitsL (z_3.1.length+r110.length) 48)<|
 rec_z_3 (z_3.1++r110,wr (z_3.2+1))))
 else (rec_z_3 (z_3.1,wr (z_3.2+1)))
def ref10_goes_l33 (a0:TicketBook) (a1:Ref10_truth) (z_2:(List Ref10_truth)×Int) (rec_:TicketBook→Ref10_truth→Option (List Ref10_truth)) (rec_z_2:((List Ref10_truth)×Int)→Option (List Ref10_truth)) (rec_z_3:((List Ref10_truth)×Int)→Option (List Ref10_truth)) (z_3:(List Ref10_truth)×Int):Option (List Ref10_truth):=
 bif decide (z_3.2 < 8) then ((ref10_covers a0 (a1.crossed_.length:Int)).bind fun r72=>
 bif ((andNotI z_3.2 r72)==0) then ((ref10_shown a0 (a1.crossed_.length:Int)).bind fun r77=>
 bif ((andNotI r77 z_3.2)==0) then ((B_Members z_3.2 3).bind fun r82=>
 ref10_goes_j32 a1 z_2 z_3 rec_ a0 rec_z_3 (decide ((r82.length:Int)≤z_2.2)))
 else (ref10_goes_j32 a1 z_2 z_3 rec_ a0 rec_z_3 false))
 else (ref10_goes_j32 a1 z_2 z_3 rec_ a0 rec_z_3 false))
 else (rec_z_2 (z_3.1,wr (z_2.2+1)))
def ref10_goes_l34 (a0:TicketBook) (a1:Ref10_truth) (rec_:TicketBook→Ref10_truth→Option (List Ref10_truth)) (rec_z_2:((List Ref10_truth)×Int)→Option (List Ref10_truth)) (z_2:(List Ref10_truth)×Int):Option (List Ref10_truth):=
 bif decide (z_2.2≤a0.Tally.Room) then (loopF (ref10_goes_l33 a0 a1 z_2 rec_ rec_z_2) big (z_2.1,0))
 else (some z_2.1)
def ref10_goes_l35 (a0:TicketBook) (a1:Ref10_truth) (rec_:TicketBook→Ref10_truth→Option (List Ref10_truth)) (rec_z_1:Int→Option (List Ref10_truth)) (z_1:Int):Option (List Ref10_truth):=
 bif decide (z_1 < (a0.Boxes.length:Int)) then ((getI a0.Boxes z_1).bind fun r30=>
 bif (r30.To==(wr ((a1.crossed_.length:Int) - 1))) then ((ref10_right a0 a1 r30).bind fun r38=>
 bif !r38 then (some ([]:List _))
 else (rec_z_1 (wr (z_1+1))))
 else (rec_z_1 (wr (z_1+1))))
 else (bif ((a1.crossed_.length:Int)==a0.Tally.Trips) then ((ref05_Can a0.Tally a1.crossed_).bind fun r46=>
 bif !r46.1 then (some ([]:List _))
 else (some ([a1]:List Ref10_truth)))
 else (loopF (ref10_goes_l34 a0 a1 rec_) big (([]:List Ref10_truth),0)))
def ref10_goes_F (rec_:TicketBook→Ref10_truth→Option (List Ref10_truth)) (a0:TicketBook) (a1:Ref10_truth):Option (List Ref10_truth):=
 loopF (ref10_goes_l35 a0 a1 rec_) big 0
def ref10_goes:Nat→TicketBook→Ref10_truth→Option (List Ref10_truth)
 | 0,_,_=>none
 | n+1,a0,a1=>ref10_goes_F (fun x0_ x1_=>ref10_goes n x0_ x1_) a0 a1
end Go.Proofs.YtafhljljfglfeaaGreatDoor
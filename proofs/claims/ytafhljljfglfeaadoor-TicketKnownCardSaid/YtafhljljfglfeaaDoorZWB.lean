/- What the functions of the program compute, and that they do, printed by a program of mine. -/
import Derived.Test.YtafhljljfglfeaaDoorZWA
import Derived.KernelRfl
set_option linter.unusedVariables false
set_option linter.unusedSimpArgs false
namespace Go.Proofs.YtafhljljfglfeaaDoor
open Go Go.Fx Go.Proofs
set_option maxRecDepth 100000 in
theorem ticket_Check_ok {a0:TicketBook}{A1:Option Addr}{c2:Nat}{A4:Option Addr}{c5:Nat}{A7:Option Addr}{c8:Nat}{A10:Option Addr}{c11:Nat}{w:World}{r:Int} (H:ticket_Check a0=some r) (h3:(rd eTallyCount 7 A1 c2 a0.Tally.Counts).ok w) (h6:(rd eTicketSeason 2 A4 c5 a0.Tickets).ok w) (h9:(rd eTicketShow 3 A7 c8 a0.Shows).ok w) (h12:(rd eTicketBox 4 A10 c11 a0.Boxes).ok w):Calls Tryd.prog 37 #[AG (vB a0 A1 c2 A4 c5 A7 c8 A10 c11)] w (RetV w (I r)):=by
 unfold ticket_Check at H
 refine fn_of (n:=119) Tryd.func37 rfl rfl (lE rfl) ?_
 have S:=St.start w nF _ (cA h3 (cA h6 (cA h9 (cA h12 nM))))
 refine c_seq<|reg<|p_boxA rfl S fun b13 w14 S15=>p_aI rfl<|wp_nil ?_
 refine c_join (α:=Bool) (β:=Unit) (fun z_1 y_1=>[(1,P b13 0),(3,B z_1)]) (fun z_1 y_1 w_=>ticket_Check_j7 a0 z_1=some r∧St w nF w_ [bl b13 (vB a0 A1 c2 A4 c5 A7 c8 A10 c11) 29] [rd eTallyCount 7 A1 c2 a0.Tally.Counts,rd eTicketSeason 2 A4 c5 a0.Tickets,rd eTicketShow 3 A7 c8 a0.Shows,rd eTicketBox 4 A10 c11 a0.Boxes]) ?_ ?_
 ·refine reg<|p_fld fl29_0 rfl<|p_ldP (vs:=[I a0.Tally.Trips,I a0.Tally.Room,SL A1 a0.Tally.Counts.length c2]) ty24 sz24 (S15.atX (i:=0) rfl) rfl rfl rfl ?_
  obtain ⟨r16,h17,H⟩:=bindS H
  refine p_cv (tally_Check_ok h17 (S15.atP (i:=0) rfl)) fu49 rfl S15 fun w18 S19=>p_cmp rfl rfl rfl<|p_mB rfl ?_
  rcases bE ((r16==0)) with c20 | c20
  ·replace H:=condT c20 H
   refine eB c20 ?_
   refine gT rfl rfl (p_fld fl29_0 rfl ?_)
   refine gT rfl rfl (p_fld fl24_0 rfl ?_)
   refine gT rfl rfl (p_ld ty3 (S19.atX (i:=0) rfl) rfl rfl ?_)
   refine gT rfl rfl (p_cmp rfl rfl rfl ?_)
   refine p_pkT rfl (rfl:_=B (decide (a0.Tally.Trips≤3)))<|p_mB rfl ?_
   rcases bE (decide (a0.Tally.Trips≤3)) with c21 | c21
   ·replace H:=condT c21 H
    refine eB c21 ?_
    refine gT rfl rfl (p_fld fl29_0 rfl ?_)
    refine gT rfl rfl (p_fld fl24_1 rfl ?_)
    refine gT rfl rfl (p_ld ty3 (S19.atX (i:=0) rfl) rfl rfl ?_)
    refine gT rfl rfl (p_cmp rfl rfl rfl ?_)
    refine p_pkT rfl (rfl:_=B (decide (a0.Tally.Room≤5)))<|p_mB rfl ?_
    rcases bE (decide (a0.Tally.Room≤5)) with c22 | c22
    ·replace H:=condT c22 H
     refine eB c22 ?_
     refine gT rfl rfl (p_fld fl29_1 rfl ?_)
     refine gT rfl rfl (p_ld ty3 (S19.atX (i:=0) rfl) rfl rfl ?_)
     obtain ⟨r23,h24,H⟩:=bindS H
     refine gT rfl rfl (p_cv (ticket_within_ok h24) fu71 rfl S19 fun w25 S26=>?_)
     refine p_pkT rfl (rfl:_=B r23)<|p_mB rfl ?_
     rcases bE (r23) with c27 | c27
     ·replace H:=condT c27 H
      refine eB c27 ?_
      refine gT rfl rfl (p_fld fl29_2 rfl ?_)
      refine gT rfl rfl (p_ld ty25 (S26.atX (i:=0) rfl) rfl rfl ?_)
      refine gT rfl rfl (p_len rfl sc25 ?_)
      refine gT rfl rfl (p_cmp rfl rfl rfl ?_)
      refine p_pkT rfl (rfl:_=B (decide ((a0.Tickets.length:Int)≤3)))<|p_mB rfl ?_
      rcases bE (decide ((a0.Tickets.length:Int)≤3)) with c28 | c28
      ·replace H:=condT c28 H
       refine eB c28 ?_
       refine gT rfl rfl (p_fld fl29_3 rfl ?_)
       refine gT rfl rfl (p_ld ty26 (S26.atX (i:=0) rfl) rfl rfl ?_)
       refine gT rfl rfl (p_len rfl sc26 ?_)
       refine gT rfl rfl (p_cmp rfl rfl rfl ?_)
       refine p_pkT rfl (rfl:_=B (decide ((a0.Shows.length:Int)≤5)))<|p_mB rfl ?_
       rcases bE (decide ((a0.Shows.length:Int)≤5)) with c29 | c29
       ·replace H:=condT c29 H
        refine eB c29 ?_
        refine gT rfl rfl (p_fld fl29_4 rfl ?_)
        refine gT rfl rfl (p_ld ty27 (S26.atX (i:=0) rfl) rfl rfl ?_)
        refine gT rfl rfl (p_len rfl sc27 ?_)
        refine gT rfl rfl (p_cmp rfl rfl rfl ?_)
        exact p_pkT rfl (rfl:_=B (decide ((a0.Boxes.length:Int)≤3)))<|p_aB rfl<|wp_nil ⟨decide ((a0.Boxes.length:Int)≤3),(),_,rfl,⟨rfl,rfl,trivial⟩,H,S26⟩
       ·replace H:=condF c29 H
        refine eB c29<|gF rfl rfl<|gF rfl rfl<|gF rfl rfl<|gF rfl rfl<|p_pkF rfl (rfl:_=B false)<|p_aB rfl<|wp_nil ?_
        exact ⟨false,(),_,rfl,⟨rfl,rfl,trivial⟩,H,S26⟩
      ·replace H:=condF c28 H
       refine eB c28<|gF rfl rfl<|gF rfl rfl<|gF rfl rfl<|gF rfl rfl<|p_pkF rfl (rfl:_=B false)<|p_mB rfl<|gF rfl rfl<|gF rfl rfl<|gF rfl rfl<|gF rfl rfl<|p_pkF rfl (rfl:_=B false)<|p_aB rfl<|wp_nil ?_
       exact ⟨false,(),_,rfl,⟨rfl,rfl,trivial⟩,H,S26⟩
     ·replace H:=condF c27 H
      refine eB c27<|gF rfl rfl<|gF rfl rfl<|gF rfl rfl<|gF rfl rfl<|p_pkF rfl (rfl:_=B false)<|p_mB rfl<|gF rfl rfl<|gF rfl rfl<|gF rfl rfl<|gF rfl rfl<|p_pkF rfl (rfl:_=B false)<|p_mB rfl<|gF rfl rfl<|gF rfl rfl<|gF rfl rfl<|gF rfl rfl<|p_pkF rfl (rfl:_=B false)<|p_aB rfl<|wp_nil ?_
      exact ⟨false,(),_,rfl,⟨rfl,rfl,trivial⟩,H,S26⟩
    ·replace H:=condF c22 H
     refine eB c22<|gF rfl rfl<|gF rfl rfl<|gF rfl rfl<|p_pkF rfl (rfl:_=B false)<|p_mB rfl<|gF rfl rfl<|gF rfl rfl<|gF rfl rfl<|gF rfl rfl<|p_pkF rfl (rfl:_=B false)<|p_mB rfl<|gF rfl rfl<|gF rfl rfl<|gF rfl rfl<|gF rfl rfl<|p_pkF rfl (rfl:_=B false)<|p_mB rfl<|gF rfl rfl<|gF rfl rfl<|gF rfl rfl<|gF rfl rfl<|p_pkF rfl (rfl:_=B false)<|p_aB rfl<|wp_nil ?_
     exact ⟨false,(),_,rfl,⟨rfl,rfl,trivial⟩,H,S19⟩
   ·replace H:=condF c21 H
    refine eB c21<|gF rfl rfl<|gF rfl rfl<|gF rfl rfl<|gF rfl rfl<|p_pkF rfl (rfl:_=B false)<|p_mB rfl<|gF rfl rfl<|gF rfl rfl<|gF rfl rfl<|p_pkF rfl (rfl:_=B false)<|p_mB rfl<|gF rfl rfl<|gF rfl rfl<|gF rfl rfl<|gF rfl rfl<|p_pkF rfl (rfl:_=B false)<|p_mB rfl<|gF rfl rfl<|gF rfl rfl<|gF rfl rfl<|gF rfl rfl<|p_pkF rfl (rfl:_=B false)<|p_mB rfl<|gF rfl rfl<|gF rfl rfl<|gF rfl rfl<|gF rfl rfl<|p_pkF rfl (rfl:_=B false)<|p_aB rfl<|wp_nil ?_
    exact ⟨false,(),_,rfl,⟨rfl,rfl,trivial⟩,H,S19⟩
  ·replace H:=condF c20 H
   refine eB c20<|gF rfl rfl<|gF rfl rfl<|gF rfl rfl<|gF rfl rfl<|p_pkF rfl (rfl:_=B false)<|p_mB rfl<|gF rfl rfl<|gF rfl rfl<|gF rfl rfl<|gF rfl rfl<|p_pkF rfl (rfl:_=B false)<|p_mB rfl<|gF rfl rfl<|gF rfl rfl<|gF rfl rfl<|p_pkF rfl (rfl:_=B false)<|p_mB rfl<|gF rfl rfl<|gF rfl rfl<|gF rfl rfl<|gF rfl rfl<|p_pkF rfl (rfl:_=B false)<|p_mB rfl<|gF rfl rfl<|gF rfl rfl<|gF rfl rfl<|gF rfl rfl<|p_pkF rfl (rfl:_=B false)<|p_mB rfl<|gF rfl rfl ?_
   exact gF rfl rfl<|gF rfl rfl<|gF rfl rfl<|p_pkF rfl (rfl:_=B false)<|p_aB rfl<|wp_nil ⟨false,(),_,rfl,⟨rfl,rfl,trivial⟩,H,S19⟩
 ·intro z_1 y_1 e16 w17 S18; obtain ⟨H,S18⟩:=S18
  unfold ticket_Check_j7 at H
  refine c_seq<|c_seq<|reg<|p_fld fl29_2 rfl<|p_ld ty25 (S18.atX (i:=0) rfl) rfl rfl<|p_len rfl sc25<|p_mI rfl<|wp_nil<|c_block ?_
  refine c_lop (α:=Bool×Int) (β:=Unit) (ticket_Check_l6 a0) (fun z_2 y_2=>[(1,P b13 0),(3,B z_2.1),(50,SL A4 a0.Tickets.length c5),(51,I (a0.Tickets.length:Int)),(52,I z_2.2)]) (fun z_2 y_2 w_=>St w nF w_ [bl b13 (vB a0 A1 c2 A4 c5 A7 c8 A10 c11) 29] [rd eTallyCount 7 A1 c2 a0.Tally.Counts,rd eTicketSeason 2 A4 c5 a0.Tickets,rd eTicketShow 3 A7 c8 a0.Shows,rd eTicketBox 4 A10 c11 a0.Boxes]) (z_1,0) () H ⟨rfl,rfl,rfl,rfl,rfl,trivial⟩ S18 ?_
  intro m19 z_2 y_2 e20 w21 H S22
  unfold ticket_Check_l6 at H
  refine c_seq<|reg<|p_cmp rfl rfl rfl<|wp_nil<|c_seq ?_
  refine c_cond rfl (fun c23=>?_) (fun c23=>?_)
  ·replace H:=condT c23 H
   refine c_skip<|c_seq<|c_block<|c_seq<|reg ?_
   obtain ⟨r24,h25,H⟩:=bindS H
   refine p_ixE sc25 h25 (S22.atP (i:=1) rfl).1 rfl rfl rfl<|p_ldEA ty65 sz65 rfl h25 (S22.atP (i:=1) rfl).1 rfl<|p_allA in65 S22 fun b26 w27 S28=>p_stP (pre:=[]) (old:=[I 0,I 0]) (post:=[]) (vs:=[I r24.From,I r24.To]) sz65 S28 (i:=0) rfl rfl rfl rfl (rfl:_=AG [I r24.From,I r24.To]) rfl rfl rfl rfl fun w29 S30=>wp_nil<|reg<|p_mB rfl<|p_mB rfl ?_
   rcases bE (z_2.1) with c31 | c31
   ·replace H:=condT c31 H
    refine eB c31 ?_
    refine gT rfl rfl (p_ldA ty29 sz29 (S30.atX (i:=1) rfl) rfl rfl ?_)
    refine gT rfl rfl (p_fld fl65_0 rfl ?_)
    refine gT rfl rfl (p_ld ty3 (S30.atX (i:=0) rfl) rfl rfl ?_)
    obtain ⟨r32,h33,H⟩:=bindS H
    refine gT rfl rfl (p_cv (ticket_isTrip_ok h33 (S30.atP (i:=0) rfl) (S30.atP (i:=1) rfl) (S30.atP (i:=2) rfl) (S30.atP (i:=3) rfl)) fu59 rfl S30 fun w34 S35=>?_)
    refine p_pkT rfl (rfl:_=B r32)<|p_mB rfl ?_
    rcases bE (r32) with c36 | c36
    ·replace H:=condT c36 H
     refine eB c36 ?_
     refine gT rfl rfl (p_ldA ty29 sz29 (S35.atX (i:=1) rfl) rfl rfl ?_)
     refine gT rfl rfl (p_fld fl65_1 rfl ?_)
     refine gT rfl rfl (p_ld ty3 (S35.atX (i:=0) rfl) rfl rfl ?_)
     obtain ⟨r37,h38,H⟩:=bindS H
     refine gT rfl rfl (p_cv (ticket_isTrip_ok h38 (S35.atP (i:=0) rfl) (S35.atP (i:=1) rfl) (S35.atP (i:=2) rfl) (S35.atP (i:=3) rfl)) fu59 rfl S35 fun w39 S40=>?_)
     refine p_pkT rfl (rfl:_=B r37)<|p_mB rfl ?_
     rcases bE (r37) with c41 | c41
     ·replace H:=condT c41 H
      refine eB c41 ?_
      refine gT rfl rfl (p_fld fl65_0 rfl ?_)
      refine gT rfl rfl (p_ld ty3 (S40.atX (i:=0) rfl) rfl rfl ?_)
      refine gT rfl rfl (p_fld fl65_1 rfl ?_)
      refine gT rfl rfl (p_ld ty3 (S40.atX (i:=0) rfl) rfl rfl ?_)
      refine gT rfl rfl (p_cmp rfl rfl rfl ?_)
      refine p_pkT rfl (rfl:_=B (decide (r24.From≤r24.To)))<|p_aB rfl<|wp_nil<|reg<|p_add rfl rfl<|p_mI rfl<|wp_nil ?_
      have S42:=S40.pk [1] (by decide) [0,1,2,3] rfl rfl
      exact ⟨(decide (r24.From≤r24.To),wr (z_2.2+1)),(),_,rfl,⟨rfl,rfl,rfl,rfl,rfl,trivial⟩,H,S42⟩
     ·replace H:=condF c41 H
      refine eB c41<|gF rfl rfl<|gF rfl rfl<|gF rfl rfl<|gF rfl rfl<|gF rfl rfl<|p_pkF rfl (rfl:_=B false)<|p_aB rfl<|wp_nil<|reg<|p_add rfl rfl<|p_mI rfl<|wp_nil ?_
      have S43:=S40.pk [1] (by decide) [0,1,2,3] rfl rfl
      exact ⟨(false,wr (z_2.2+1)),(),_,rfl,⟨rfl,rfl,rfl,rfl,rfl,trivial⟩,H,S43⟩
    ·replace H:=condF c36 H
     refine eB c36<|gF rfl rfl<|gF rfl rfl<|gF rfl rfl<|gF rfl rfl<|p_pkF rfl (rfl:_=B false)<|p_mB rfl<|gF rfl rfl<|gF rfl rfl<|gF rfl rfl<|gF rfl rfl<|gF rfl rfl<|p_pkF rfl (rfl:_=B false)<|p_aB rfl<|wp_nil<|reg<|p_add rfl rfl<|p_mI rfl<|wp_nil ?_
     have S44:=S35.pk [1] (by decide) [0,1,2,3] rfl rfl
     exact ⟨(false,wr (z_2.2+1)),(),_,rfl,⟨rfl,rfl,rfl,rfl,rfl,trivial⟩,H,S44⟩
   ·replace H:=condF c31 H
    refine eB c31<|gF rfl rfl<|gF rfl rfl<|gF rfl rfl<|gF rfl rfl<|p_pkF rfl (rfl:_=B false)<|p_mB rfl<|gF rfl rfl<|gF rfl rfl<|gF rfl rfl<|gF rfl rfl<|p_pkF rfl (rfl:_=B false)<|p_mB rfl<|gF rfl rfl<|gF rfl rfl<|gF rfl rfl<|gF rfl rfl<|gF rfl rfl<|p_pkF rfl (rfl:_=B false)<|p_aB rfl<|wp_nil<|reg<|p_add rfl rfl<|p_mI rfl<|wp_nil ?_
    have S45:=S30.pk [1] (by decide) [0,1,2,3] rfl rfl
    exact ⟨(false,wr (z_2.2+1)),(),_,rfl,⟨rfl,rfl,rfl,rfl,rfl,trivial⟩,H,S45⟩
  ·replace H:=condF c23 H
   refine c_exit<|c_seq<|c_seq<|reg<|p_fld fl29_3 rfl<|p_ld ty26 (S22.atX (i:=0) rfl) rfl rfl<|p_len rfl sc26<|p_mI rfl<|wp_nil<|c_block ?_
   refine c_lop (α:=Bool×Int) (β:=Unit) (ticket_Check_l5 a0) (fun z_3 y_3=>[(1,P b13 0),(3,B z_3.1),(78,SL A7 a0.Shows.length c8),(79,I (a0.Shows.length:Int)),(80,I z_3.2)]) (fun z_3 y_3 w_=>St w nF w_ [bl b13 (vB a0 A1 c2 A4 c5 A7 c8 A10 c11) 29] [rd eTallyCount 7 A1 c2 a0.Tally.Counts,rd eTicketSeason 2 A4 c5 a0.Tickets,rd eTicketShow 3 A7 c8 a0.Shows,rd eTicketBox 4 A10 c11 a0.Boxes]) (z_2.1,0) () H ⟨rfl,rfl,rfl,rfl,rfl,trivial⟩ S22 ?_
   intro m46 z_3 y_3 e47 w48 H S49
   unfold ticket_Check_l5 at H
   refine c_seq<|reg<|p_cmp rfl rfl rfl<|wp_nil<|c_seq ?_
   refine c_cond rfl (fun c50=>?_) (fun c50=>?_)
   ·replace H:=condT c50 H
    refine c_skip<|c_seq<|c_block<|c_seq<|reg ?_
    obtain ⟨r51,h52,H⟩:=bindS H
    refine p_ixE sc26 h52 (S49.atP (i:=2) rfl).1 rfl rfl rfl<|p_ldEA ty67 sz67 rfl h52 (S49.atP (i:=2) rfl).1 rfl<|p_allA in67 S49 fun b53 w54 S55=>p_stP (pre:=[]) (old:=[I 0,I 0,I 0]) (post:=[]) (vs:=[I r51.Trip,I r51.Ticket,I r51.Walker]) sz67 S55 (i:=0) rfl rfl rfl rfl (rfl:_=AG [I r51.Trip,I r51.Ticket,I r51.Walker]) rfl rfl rfl rfl fun w56 S57=>wp_nil<|reg<|p_mB rfl<|p_mB rfl ?_
    rcases bE (z_3.1) with c58 | c58
    ·replace H:=condT c58 H
     refine eB c58 ?_
     refine gT rfl rfl (p_ldA ty29 sz29 (S57.atX (i:=1) rfl) rfl rfl ?_)
     refine gT rfl rfl (p_fld fl67_0 rfl ?_)
     refine gT rfl rfl (p_ld ty3 (S57.atX (i:=0) rfl) rfl rfl ?_)
     obtain ⟨r59,h60,H⟩:=bindS H
     refine gT rfl rfl (p_cv (ticket_isTrip_ok h60 (S57.atP (i:=0) rfl) (S57.atP (i:=1) rfl) (S57.atP (i:=2) rfl) (S57.atP (i:=3) rfl)) fu59 rfl S57 fun w61 S62=>?_)
     refine p_pkT rfl (rfl:_=B r59)<|p_mB rfl ?_
     rcases bE (r59) with c63 | c63
     ·replace H:=condT c63 H
      refine eB c63 ?_
      refine gT rfl rfl (p_ldA ty29 sz29 (S62.atX (i:=1) rfl) rfl rfl ?_)
      refine gT rfl rfl (p_fld fl67_1 rfl ?_)
      refine gT rfl rfl (p_ld ty3 (S62.atX (i:=0) rfl) rfl rfl ?_)
      obtain ⟨r64,h65,H⟩:=bindS H
      refine gT rfl rfl (p_cv (ticket_isTicket_ok h65 (S62.atP (i:=0) rfl) (S62.atP (i:=1) rfl) (S62.atP (i:=2) rfl) (S62.atP (i:=3) rfl)) fu64 rfl S62 fun w66 S67=>?_)
      refine p_pkT rfl (rfl:_=B r64)<|p_mB rfl ?_
      rcases bE (r64) with c68 | c68
      ·replace H:=condT c68 H
       refine eB c68 ?_
       refine gT rfl rfl (p_fld fl67_2 rfl ?_)
       refine gT rfl rfl (p_ld ty3 (S67.atX (i:=0) rfl) rfl rfl ?_)
       obtain ⟨r69,h70,H⟩:=bindS H
       refine gT rfl rfl (p_cv (ticket_within_ok h70) fu71 rfl S67 fun w71 S72=>?_)
       refine p_pkT rfl (rfl:_=B r69)<|p_aB rfl<|wp_nil<|reg<|p_add rfl rfl<|p_mI rfl<|wp_nil ?_
       have S73:=S72.pk [1] (by decide) [0,1,2,3] rfl rfl
       exact ⟨(r69,wr (z_3.2+1)),(),_,rfl,⟨rfl,rfl,rfl,rfl,rfl,trivial⟩,H,S73⟩
      ·replace H:=condF c68 H
       refine eB c68<|gF rfl rfl<|gF rfl rfl<|gF rfl rfl<|p_pkF rfl (rfl:_=B false)<|p_aB rfl<|wp_nil<|reg<|p_add rfl rfl<|p_mI rfl<|wp_nil ?_
       have S74:=S67.pk [1] (by decide) [0,1,2,3] rfl rfl
       exact ⟨(false,wr (z_3.2+1)),(),_,rfl,⟨rfl,rfl,rfl,rfl,rfl,trivial⟩,H,S74⟩
     ·replace H:=condF c63 H
      refine eB c63<|gF rfl rfl<|gF rfl rfl<|gF rfl rfl<|gF rfl rfl<|p_pkF rfl (rfl:_=B false)<|p_mB rfl<|gF rfl rfl<|gF rfl rfl<|gF rfl rfl<|p_pkF rfl (rfl:_=B false)<|p_aB rfl<|wp_nil<|reg<|p_add rfl rfl<|p_mI rfl<|wp_nil ?_
      have S75:=S62.pk [1] (by decide) [0,1,2,3] rfl rfl
      exact ⟨(false,wr (z_3.2+1)),(),_,rfl,⟨rfl,rfl,rfl,rfl,rfl,trivial⟩,H,S75⟩
    ·replace H:=condF c58 H
     refine eB c58<|gF rfl rfl<|gF rfl rfl<|gF rfl rfl<|gF rfl rfl<|p_pkF rfl (rfl:_=B false)<|p_mB rfl<|gF rfl rfl<|gF rfl rfl<|gF rfl rfl<|gF rfl rfl<|p_pkF rfl (rfl:_=B false)<|p_mB rfl<|gF rfl rfl<|gF rfl rfl<|gF rfl rfl<|p_pkF rfl (rfl:_=B false)<|p_aB rfl<|wp_nil<|reg<|p_add rfl rfl<|p_mI rfl<|wp_nil ?_
     have S76:=S57.pk [1] (by decide) [0,1,2,3] rfl rfl
     exact ⟨(false,wr (z_3.2+1)),(),_,rfl,⟨rfl,rfl,rfl,rfl,rfl,trivial⟩,H,S76⟩
   ·replace H:=condF c50 H
    refine c_exit<|c_seq<|c_seq<|reg<|p_fld fl29_4 rfl<|p_ld ty27 (S49.atX (i:=0) rfl) rfl rfl<|p_len rfl sc27<|p_mI rfl<|wp_nil<|c_block ?_
    refine c_lop (α:=Bool×Int) (β:=Unit) (ticket_Check_l4 a0) (fun z_4 y_4=>[(1,P b13 0),(3,B z_4.1),(104,SL A10 a0.Boxes.length c11),(105,I (a0.Boxes.length:Int)),(106,I z_4.2)]) (fun z_4 y_4 w_=>St w nF w_ [bl b13 (vB a0 A1 c2 A4 c5 A7 c8 A10 c11) 29] [rd eTallyCount 7 A1 c2 a0.Tally.Counts,rd eTicketSeason 2 A4 c5 a0.Tickets,rd eTicketShow 3 A7 c8 a0.Shows,rd eTicketBox 4 A10 c11 a0.Boxes]) (z_3.1,0) () H ⟨rfl,rfl,rfl,rfl,rfl,trivial⟩ S49 ?_
    intro m77 z_4 y_4 e78 w79 H S80
    unfold ticket_Check_l4 at H
    refine c_seq<|reg<|p_cmp rfl rfl rfl<|wp_nil<|c_seq ?_
    refine c_cond rfl (fun c81=>?_) (fun c81=>?_)
    ·replace H:=condT c81 H
     refine c_skip<|c_seq<|c_block<|c_seq<|reg ?_
     obtain ⟨r82,h83,H⟩:=bindS H
     refine p_ixE sc27 h83 (S80.atP (i:=3) rfl).1 rfl rfl rfl<|p_ldEA ty72 sz72 rfl h83 (S80.atP (i:=3) rfl).1 rfl<|p_allA in72 S80 fun b84 w85 S86=>p_stP (pre:=[]) (old:=[I 0,I 0,I 0,I 0]) (post:=[]) (vs:=[I r82.From,I r82.To,I r82.Pence,I r82.Lost]) sz72 S86 (i:=0) rfl rfl rfl rfl (rfl:_=AG [I r82.From,I r82.To,I r82.Pence,I r82.Lost]) rfl rfl rfl rfl fun w87 S88=>wp_nil<|reg<|p_mB rfl ?_
     refine p_mB rfl ?_
     rcases bE (z_4.1) with c89 | c89
     ·replace H:=condT c89 H
      refine eB c89 ?_
      refine gT rfl rfl (p_ldA ty29 sz29 (S88.atX (i:=1) rfl) rfl rfl ?_)
      refine gT rfl rfl (p_ldA ty72 sz72 (S88.atX (i:=0) rfl) rfl rfl ?_)
      obtain ⟨r90,h91,H⟩:=bindS H
      refine gT rfl rfl (p_cv (ticket_isBox_ok h91 (S88.atP (i:=0) rfl) (S88.atP (i:=1) rfl) (S88.atP (i:=2) rfl) (S88.atP (i:=3) rfl)) fu68 rfl S88 fun w92 S93=>?_)
      refine p_pkT rfl (rfl:_=B r90)<|p_aB rfl<|wp_nil<|reg<|p_add rfl rfl<|p_mI rfl<|wp_nil ?_
      have S94:=S93.pk [1] (by decide) [0,1,2,3] rfl rfl
      exact ⟨(r90,wr (z_4.2+1)),(),_,rfl,⟨rfl,rfl,rfl,rfl,rfl,trivial⟩,H,S94⟩
     ·replace H:=condF c89 H
      refine eB c89<|gF rfl rfl<|gF rfl rfl<|gF rfl rfl<|p_pkF rfl (rfl:_=B false)<|p_aB rfl<|wp_nil<|reg<|p_add rfl rfl<|p_mI rfl<|wp_nil ?_
      have S95:=S88.pk [1] (by decide) [0,1,2,3] rfl rfl
      exact ⟨(false,wr (z_4.2+1)),(),_,rfl,⟨rfl,rfl,rfl,rfl,rfl,trivial⟩,H,S95⟩
    ·replace H:=condF c81 H
     refine c_exit<|c_seq<|c_seq<|reg<|p_mB rfl<|p_not rfl<|wp_nil ?_
     refine c_cond rfl (fun c96=>?_) (fun c96=>?_)
     ·replace H:=condT c96 H
      refine c_seq<|reg<|p_aI rfl<|wp_nil ?_
      obtain rfl:=sJ H
      exact c_ret (rT Tryd.f37 S80.keep rfl rfl)
     ·replace H:=condF c96 H
      refine c_skip<|c_seq<|reg<|p_aI rfl<|wp_nil ?_
      obtain rfl:=sJ H
      exact c_ret (rT Tryd.f37 S80.keep rfl rfl)
structure Ticket_choice where
 out_:Int→Option Bool
def ticket_opened_l4 (a0:TicketBook) (a1:Ticket_choice) (z_1:Int×(List (Ticket_seat×Int))×(List TicketShow)×(List Int)) (rec_z_2:(Int×(List TicketBox))→Option Ticket_book) (z_2:Int×(List TicketBox)):Option Ticket_book:=
 bif decide (z_2.1 < (a0.Boxes.length:Int)) then ((getI a0.Boxes z_2.1).bind fun r144=>
 (a1.out_ (wr ((a0.Shows.length:Int)+z_2.1))).bind fun r151=>
 bif !r151 then (need (fitsL (z_2.2.length+([r144]:List TicketBox).length) 32)<|
 rec_z_2 (wr (z_2.1+1),z_2.2++([r144]:List TicketBox)))
 else (rec_z_2 (wr (z_2.1+1),z_2.2)))
 else (some (Ticket_book.mk (TicketBook.mk a0.Tally a0.Fare a0.Tickets z_1.2.2.1 z_2.2) z_1.2.2.2 z_1.2.1))
def ticket_opened_l5 (a0:TicketBook) (a1:Ticket_choice) (rec_z_1:(Int×(List (Ticket_seat×Int))×(List TicketShow)×(List Int))→Option Ticket_book) (z_1:Int×(List (Ticket_seat×Int))×(List TicketShow)×(List Int)):Option Ticket_book:=
 bif decide (z_1.1 < (a0.Shows.length:Int)) then ((getI a0.Shows z_1.1).bind fun r82=>
 (a1.out_ z_1.1).bind fun r89=>
 bif !r89 then (need (fitsL (z_1.2.2.1.length+([r82]:List TicketShow).length) 24)<|
 need (inI r82.Trip 3)<|
 need (decide (0≤r82.Ticket))<|
 need (inI r82.Trip 3)<|
 need (decide (0≤r82.Ticket))<|
 rec_z_1 (wr (z_1.1+1),putL z_1.2.1 (Ticket_seat.mk r82.Trip r82.Walker) (orI ((lookL z_1.2.1 (Ticket_seat.mk r82.Trip r82.Walker)).getD 0) (shlI 1 r82.Ticket)),z_1.2.2.1++([r82]:List TicketShow),aset z_1.2.2.2 3 r82.Trip (orI (aget z_1.2.2.2 r82.Trip) (shlI 1 r82.Ticket))))
 else (rec_z_1 (wr (z_1.1+1),z_1.2.1,z_1.2.2.1,z_1.2.2.2)))
 else (loopF (ticket_opened_l4 a0 a1 z_1) big (0,([]:List TicketBox)))
def ticket_opened (a0:TicketBook) (a1:Ticket_choice):Option Ticket_book:=
 loopF (ticket_opened_l5 a0 a1) big (0,putL ([]:List (Ticket_seat×Int)) (Ticket_seat.mk (-1) (-1)) 0,([]:List TicketShow),(List.replicate 3 0))
set_option maxRecDepth 100000 in
theorem ticket_opened_ok {a0:TicketBook}{a1:Ticket_choice}{A1:Option Addr}{c2:Nat}{A4:Option Addr}{c5:Nat}{A7:Option Addr}{c8:Nat}{A10:Option Addr}{c11:Nat}{f13:Nat}{cp14:List Value}{w:World}{r:Ticket_book} (H:ticket_opened a0 a1=some r) (h3:(rd eTallyCount 7 A1 c2 a0.Tally.Counts).ok w) (h6:(rd eTicketSeason 2 A4 c5 a0.Tickets).ok w) (h9:(rd eTicketShow 3 A7 c8 a0.Shows).ok w) (h12:(rd eTicketBox 4 A10 c11 a0.Boxes).ok w) (hF15:funOf Tryd.prog f13=true) (hw16:∀ (y17:Int) (w19:World) (y18:Bool),Keep0 w w19→a1.out_ y17=some y18→Calls Tryd.prog f13 (List.toArray ([I y17]++cp14)) w19 (RetV w19 (B y18))) (hg20:(gW0).ok w):Calls Tryd.prog 52 #[AG (vB a0 A1 c2 A4 c5 A7 c8 A10 c11),AG [vF (.func f13) #[] cp14.toArray]] w fun en w_=>∃ u_,en=.returned u_∧∃ A_1:Option Addr,∃ c_2:Nat,∃ A_3:Option Addr,∃ c_4:Nat,∃ m_5:Nat,u_=AG ([I r.TicketBook.Tally.Trips,I r.TicketBook.Tally.Room,SL A1 a0.Tally.Counts.length c2,I r.TicketBook.Fare,SL A4 a0.Tickets.length c5,SL A_1 r.TicketBook.Shows.length c_2,SL A_3 r.TicketBook.Boxes.length c_4]++(sg r.shown_ 3++[Value.map (some m_5)]))∧Keep0 w w_∧((rd eTicketShow 3 A_1 c_2 r.TicketBook.Shows).ok w_∧New w.heap.size (rd eTicketShow 3 A_1 c_2 r.TicketBook.Shows))∧((rd eTicketBox 4 A_3 c_4 r.TicketBook.Boxes).ok w_∧New w.heap.size (rd eTicketBox 4 A_3 c_4 r.TicketBook.Boxes))∧((mp ekS iE m_5 r.by_).ok w_∧New w.heap.size (mp ekS iE m_5 r.by_))∧True:=by
 unfold ticket_opened at H
 refine fn_of (n:=93) Tryd.func52 rfl rfl (lE rfl) ?_
 have S:=St.start w nF _ (cA h3 (cA h6 (cA h9 (cA h12 (cA hg20 nM)))))
 refine c_seq<|reg<|p_boxA rfl S fun b21 w22 S23=>p_boxA rfl S23 fun b24 w25 S26=>p_allA in92 S26 fun b27 w28 S29=>wp_nil<|c_seq ?_
 have S30:St w nF w28 (([]++[])++[bl b27 ([I 0,I 0,SL none 0 0,I 0,SL none 0 0,SL none 0 0,SL none 0 0]++(sg (List.replicate 3 0) 3++[Value.map none])) 92,bl b24 [vF (.func f13) #[] cp14.toArray] 96,bl b21 (vB a0 A1 c2 A4 c5 A7 c8 A10 c11) 29]) [rd eTallyCount 7 A1 c2 a0.Tally.Counts,rd eTicketSeason 2 A4 c5 a0.Tickets,rd eTicketShow 3 A7 c8 a0.Shows,rd eTicketBox 4 A10 c11 a0.Boxes,gW0]:=S29.pk [0,1,2] (by decide) [0,1,2,3,4] rfl rfl
 refine reg_two mixed 7 [1,3,4,5] [6] [] [] (fun ec_ X_=>∃ m34:Nat,Has ec_ [(11,Value.map (some m34)),(13,Value.map (some m34)),(14,AG ((vB a0 A1 c2 A4 c5 A7 c8 A10 c11)++(sg (List.replicate 3 0) 3++[Value.map (some m34)])))]∧X_=[mp ekS iE m34 (putL ([]:List (Ticket_seat×Int)) (Ticket_seat.mk (-1) (-1)) 0)]) (fun ec_ X_=>∃ b54:Nat,Has ec_ [(5,P b54 0)]∧X_=[bl b54 ([I 0,I 0,SL none 0 0,I 0,SL none 0 0,SL none 0 0,SL none 0 0]++(sg (List.replicate 3 0) 3++[Value.map none])) 92]) (by kernel_rfl) rfl rfl (St.baseX S30) ?_
 refine lS rfl (fun _ k_=>p_ldA ty29 sz29 (S30.stR (i:=2) rfl k_) rfl rfl dn) ?_
 refine lC rfl ?_
 refine lS rfl (fun _ k_=>p_ldA ty128 sz128 (S30.stL (i:=4) rfl k_) rfl rfl dn) ?_
 refine lC rfl ?_
 refine lC rfl ?_
 refine lC rfl ?_
 refine lC rfl ?_
 refine ⟨?_,?_,?_⟩
 ·intro w31 R32 S33
  refine o_mkmap S33 ekS iE fun m34 w35 _ S36=>?_
  refine cH (X:=[mp ekS iE m34 ([]:List (Ticket_seat×Int))]) S36 ?_
  intro w37 R38 S39
  refine o_ins (a:=(Ticket_seat.mk (-1) (-1))) (v:=0) rfl rfl rfl mt90 keyS S39 (i:=0) rfl fun w40 S41=>?_
  refine cH0 (X:=[mp ekS iE m34 (putL ([]:List (Ticket_seat×Int)) (Ticket_seat.mk (-1) (-1)) 0)]) S41 ?_
  intro w42 R43 S44
  refine p_mov (rfl:_=Value.map (some m34)) ?_
  refine cH (X:=[mp ekS iE m34 (putL ([]:List (Ticket_seat×Int)) (Ticket_seat.mk (-1) (-1)) 0)]) S44 ?_
  intro w45 R46 S47
  refine p_bld (cs:=(vB a0 A1 c2 A4 c5 A7 c8 A10 c11)++(sg (List.replicate 3 0) 3++[Value.map (some m34)])) st92 (rfl:_=[(0,AG (vB a0 A1 c2 A4 c5 A7 c8 A10 c11)),(2,Value.map (some m34))]) (by kernel_rfl) ?_
  refine cH (X:=[mp ekS iE m34 (putL ([]:List (Ticket_seat×Int)) (Ticket_seat.mk (-1) (-1)) 0)]) S47 ?_
  exact chEnd ⟨m34,⟨rfl,rfl,rfl,trivial⟩,rfl⟩
 ·intro w51 R52 S53
  refine p_allA in92 S53 fun b54 w55 S56=>?_
  refine cH (X:=[bl b54 ([I 0,I 0,SL none 0 0,I 0,SL none 0 0,SL none 0 0,SL none 0 0]++(sg (List.replicate 3 0) 3++[Value.map none])) 92]) S56 ?_
  exact chEnd ⟨b54,⟨rfl,trivial⟩,rfl⟩
 rintro e58 X59 e60 X61 ⟨m34,⟨q48,q49,q50,_⟩,rfl⟩ ⟨b54,⟨q57,_⟩,rfl⟩ e62 w63 f64 f65 f66 S67
 have S68:St w nF w63 [mp ekS iE m34 (putL ([]:List (Ticket_seat×Int)) (Ticket_seat.mk (-1) (-1)) 0),bl b54 ([I 0,I 0,SL none 0 0,I 0,SL none 0 0,SL none 0 0,SL none 0 0]++(sg (List.replicate 3 0) 3++[Value.map none])) 92,bl b27 ([I 0,I 0,SL none 0 0,I 0,SL none 0 0,SL none 0 0,SL none 0 0]++(sg (List.replicate 3 0) 3++[Value.map none])) 92,bl b24 [vF (.func f13) #[] cp14.toArray] 96,bl b21 (vB a0 A1 c2 A4 c5 A7 c8 A10 c11) 29] [rd eTallyCount 7 A1 c2 a0.Tally.Counts,rd eTicketSeason 2 A4 c5 a0.Tickets,rd eTicketShow 3 A7 c8 a0.Shows,rd eTicketBox 4 A10 c11 a0.Boxes,gW0]:=St.fromBaseX S30 S67
 refine tailE [(2,P b21 0),(3,P b24 0),(4,P b27 0),(5,P b54 0),(14,AG ((vB a0 A1 c2 A4 c5 A7 c8 A10 c11)++(sg (List.replicate 3 0) 3++[Value.map (some m34)])))] ⟨((f66 2 rfl rfl).trans (rfl:_=P b21 0)),((f66 3 rfl rfl).trans (rfl:_=P b24 0)),((f66 4 rfl rfl).trans (rfl:_=P b27 0)),((f65 5 rfl).trans q57),((f64 14 rfl).trans q50),trivial⟩ ?_
 intro g69
 refine p_stP (pre:=[]) (old:=[I 0,I 0,SL none 0 0,I 0,SL none 0 0,SL none 0 0,SL none 0 0]++(sg (List.replicate 3 0) 3++[Value.map none])) (post:=[]) (vs:=(vB a0 A1 c2 A4 c5 A7 c8 A10 c11)++(sg (List.replicate 3 0) 3++[Value.map (some m34)])) sz92 S68 (i:=1) rfl rfl rfl rfl (rfl:_=AG ((vB a0 A1 c2 A4 c5 A7 c8 A10 c11)++(sg (List.replicate 3 0) 3++[Value.map (some m34)]))) rfl rfl rfl rfl fun w70 S71=>?_
 refine wp_nil<|c_seq<|reg<|p_fld fl92_0 rfl<|p_fld fl29_3 rfl ?_
 refine p_stP (pre:=[I a0.Tally.Trips,I a0.Tally.Room,SL A1 a0.Tally.Counts.length c2,I a0.Fare,SL A4 a0.Tickets.length c5]) (old:=[SL A7 a0.Shows.length c8]) (post:=[SL A10 a0.Boxes.length c11]++(sg (List.replicate 3 0) 3++[Value.map (some m34)])) (vs:=[SL none 0 0]) sz26 S71 (i:=1) rfl rfl rfl rfl (rfl:_=SL none 0 0) rfl rfl rfl rfl fun w72 S73=>p_fld fl92_0 rfl<|p_fld fl29_4 rfl ?_
 refine p_stP (pre:=[I a0.Tally.Trips,I a0.Tally.Room,SL A1 a0.Tally.Counts.length c2,I a0.Fare,SL A4 a0.Tickets.length c5,SL none 0 0]) (old:=[SL A10 a0.Boxes.length c11]) (post:=sg (List.replicate 3 0) 3++[Value.map (some m34)]) (vs:=[SL none 0 0]) sz27 S73 (i:=1) rfl rfl rfl rfl (rfl:_=SL none 0 0) rfl rfl rfl rfl fun w74 S75=>wp_nil<|c_seq<|c_seq<|reg<|p_fld fl29_3 rfl ?_
 refine p_ld ty26 (S75.atX (i:=4) rfl) rfl rfl<|p_len rfl sc26<|p_mI rfl<|wp_nil<|c_block ?_
 have S76:=S75.nilRow eTicketShow 3 67
 refine c_lop (α:=Int×(List (Ticket_seat×Int))×(List TicketShow)×(List Int)) (β:=(Option Addr)×Nat) (ticket_opened_l5 a0 a1) (fun z_1 y_1=>[(2,P b21 0),(3,P b24 0),(4,P b27 0),(5,P b54 0),(20,SL A7 a0.Shows.length c8),(21,I (a0.Shows.length:Int)),(22,I z_1.1)]) (fun z_1 y_1 w_=>St w nF w_ [gr eTicketShow 3 67 y_1.1 y_1.2 z_1.2.2.1,mp ekS iE m34 z_1.2.1,bl b54 ([I a0.Tally.Trips,I a0.Tally.Room,SL A1 a0.Tally.Counts.length c2,I a0.Fare,SL A4 a0.Tickets.length c5,SL y_1.1 z_1.2.2.1.length y_1.2,SL none 0 0]++(sg z_1.2.2.2 3++[Value.map (some m34)])) 92,bl b27 ([I 0,I 0,SL none 0 0,I 0,SL none 0 0,SL none 0 0,SL none 0 0]++(sg (List.replicate 3 0) 3++[Value.map none])) 92,bl b24 [vF (.func f13) #[] cp14.toArray] 96,bl b21 (vB a0 A1 c2 A4 c5 A7 c8 A10 c11) 29] [rd eTallyCount 7 A1 c2 a0.Tally.Counts,rd eTicketSeason 2 A4 c5 a0.Tickets,rd eTicketShow 3 A7 c8 a0.Shows,rd eTicketBox 4 A10 c11 a0.Boxes,gW0]) (0,putL ([]:List (Ticket_seat×Int)) (Ticket_seat.mk (-1) (-1)) 0,([]:List TicketShow),(List.replicate 3 0)) (none,0) H ⟨rfl,rfl,rfl,rfl,rfl,rfl,rfl,trivial⟩ S76 ?_
 intro m77 z_1 y_1 e78 w79 H S80
 unfold ticket_opened_l5 at H
 refine c_seq<|reg<|p_cmp rfl rfl rfl<|wp_nil<|c_seq ?_
 refine c_cond rfl (fun c81=>?_) (fun c81=>?_)
 ·replace H:=condT c81 H
  refine c_skip<|c_seq<|c_block<|c_seq<|reg<|p_mI rfl ?_
  obtain ⟨r82,h83,H⟩:=bindS H
  refine p_ixE sc26 h83 (S80.atP (i:=2) rfl).1 rfl rfl rfl<|p_ldEA ty67 sz67 rfl h83 (S80.atP (i:=2) rfl).1 rfl<|p_allA in67 S80 fun b84 w85 S86=>p_aI rfl<|p_stP (pre:=[]) (old:=[I 0,I 0,I 0]) (post:=[]) (vs:=[I r82.Trip,I r82.Ticket,I r82.Walker]) sz67 S86 (i:=0) rfl rfl rfl rfl (rfl:_=AG [I r82.Trip,I r82.Ticket,I r82.Walker]) rfl rfl rfl rfl fun w87 S88=>wp_nil<|c_seq<|reg ?_
  refine p_fld fl96_0 rfl<|p_ld ty94 (S88.atX (i:=5) rfl) rfl rfl<|p_mI rfl ?_
  obtain ⟨r89,h90,H⟩:=bindS H
  refine p_cv (hw16 _ _ _ S88.keep h90) hF15 rfl S88 ?_
  intro w91 S92
  refine p_not rfl<|wp_nil ?_
  refine c_cond rfl (fun c93=>?_) (fun c93=>?_)
  ·replace H:=condT c93 H
   refine c_seq<|reg<|p_fld fl92_0 rfl<|p_fld fl29_3 rfl<|p_ld ty26 (S92.atX (i:=3) rfl) rfl rfl<|p_ldA ty67 sz67 (S92.atX (i:=0) rfl) rfl rfl<|p_bsl (enc:=eTicketShow) (l:=([r82]:List TicketShow)) (fun x=>AG (eTicketShow x)) (fun _=>rfl) sc26 in67 eTicketShow_len rfl (by decide) (by decide) zr67_1 S92 rfl fun A94 c95 w96 S97=>?_
   obtain ⟨h103,H⟩:=needS H
   refine p_app (enc:=eTicketShow) sc26 in67 rfl eTicketShow_len eTicketShow_one (by decide) S97 (k:=2) rfl (gr_sl eTicketShow_len (S97.atX (i:=0) rfl)) h103 (by simp) rfl rfl fun A101 c102 w99 S100=>p_fld fl92_0 rfl<|p_fld fl29_3 rfl ?_
   refine p_stP (pre:=[I a0.Tally.Trips,I a0.Tally.Room,SL A1 a0.Tally.Counts.length c2,I a0.Fare,SL A4 a0.Tickets.length c5]) (old:=[SL y_1.1 z_1.2.2.1.length y_1.2]) (post:=[SL none 0 0]++(sg z_1.2.2.2 3++[Value.map (some m34)])) (vs:=[SL A101 (z_1.2.2.1++([r82]:List TicketShow)).length c102]) sz26 S100 (i:=4) rfl rfl rfl rfl (rfl:_=SL A101 (z_1.2.2.1++([r82]:List TicketShow)).length c102) rfl rfl rfl rfl fun w104 S105=>?_
   refine wp_nil<|c_seq ?_
   obtain ⟨h106,H⟩:=needS H
   obtain ⟨h107,H⟩:=needS H
   obtain ⟨h108,H⟩:=needS H
   refine reg_q mixed 11 (by kernel_rfl) ?_
   refine dS (fun _ k_=>p_fld fl67_0 rfl dn)<|dS (fun _ k_=>p_ld ty3 (aS (S105.atX (i:=1) rfl) k_) rfl rfl dn)<|dS (fun _ k_=>p_fld fl92_1 rfl dn)<|dS (fun _ k_=>p_ixD ar31 h106 rfl rfl dn) ?_
   refine dS (fun _ k_=>p_ldD (pre:=[I a0.Tally.Trips,I a0.Tally.Room,SL A1 a0.Tally.Counts.length c2,I a0.Fare,SL A4 a0.Tickets.length c5,SL A101 (z_1.2.2.1++([r82]:List TicketShow)).length c102,SL none 0 0]) (post:=[Value.map (some m34)]) ty3 (aS (S105.atX (i:=4) rfl) k_) rfl h106 rfl rfl dn)<|dS (fun _ k_=>p_fld fl67_1 rfl dn) ?_
   refine dS (fun _ k_=>p_ld ty3 (aS (S105.atX (i:=1) rfl) k_) rfl rfl dn)<|dS (fun _ k_=>p_shl h107 rfl rfl dn)<|dS (fun _ k_=>p_orI rfl rfl dn)<|dS (fun _ k_=>p_fld fl92_1 rfl dn)<|dS (fun _ k_=>p_ixD ar31 h108 rfl rfl dn) ?_
   intro w109 k110; have S111:=S105.call k110
   refine p_stD (pre:=[I a0.Tally.Trips,I a0.Tally.Room,SL A1 a0.Tally.Counts.length c2,I a0.Fare,SL A4 a0.Tickets.length c5,SL A101 (z_1.2.2.1++([r82]:List TicketShow)).length c102,SL none 0 0]) (post:=[Value.map (some m34)]) sz3 S111 (i:=4) rfl rfl h108 rfl rfl rfl fun w112 S113=>wp_nil ?_
   obtain ⟨h114,H⟩:=needS H
   have S115:St w nF w112 ([mp ekS iE m34 z_1.2.1]++[gr eTicketShow 3 67 A94 c95 ([r82]:List TicketShow),bl b84 [I r82.Trip,I r82.Ticket,I r82.Walker] 67,gr eTicketShow 3 67 A101 c102 (z_1.2.2.1++([r82]:List TicketShow)),bl b54 ([I a0.Tally.Trips,I a0.Tally.Room,SL A1 a0.Tally.Counts.length c2,I a0.Fare,SL A4 a0.Tickets.length c5,SL A101 (z_1.2.2.1++([r82]:List TicketShow)).length c102,SL none 0 0]++(sg (aset z_1.2.2.2 3 r82.Trip (orI (aget z_1.2.2.2 r82.Trip) (shlI 1 r82.Ticket))) 3++[Value.map (some m34)])) 92,bl b27 ([I 0,I 0,SL none 0 0,I 0,SL none 0 0,SL none 0 0,SL none 0 0]++(sg (List.replicate 3 0) 3++[Value.map none])) 92,bl b24 [vF (.func f13) #[] cp14.toArray] 96,bl b21 (vB a0 A1 c2 A4 c5 A7 c8 A10 c11) 29]) [rd eTallyCount 7 A1 c2 a0.Tally.Counts,rd eTicketSeason 2 A4 c5 a0.Tickets,rd eTicketShow 3 A7 c8 a0.Shows,rd eTicketBox 4 A10 c11 a0.Boxes,gW0]:=S113.pk [3,0,1,2,4,5,6,7] (by decide) [0,1,2,3,4] rfl rfl
   refine reg_one mixed 14 [12,13] [mp ekS iE m34 z_1.2.1] (fun ec_ X_=>∃ n118:Nat,Has ec_ [(63,TU [I ((lookL z_1.2.1 (Ticket_seat.mk r82.Trip r82.Walker)).getD 0),I (n118:Int)]),(64,I (n118:Int))]∧X_=[mpS ekS iE m34 (putL z_1.2.1 (Ticket_seat.mk r82.Trip r82.Walker) ((lookL z_1.2.1 (Ticket_seat.mk r82.Trip r82.Walker)).getD 0)) (Ticket_seat.mk r82.Trip r82.Walker) n118]) (Rds ekS iE m34 z_1.2.1 (Ticket_seat.mk r82.Trip r82.Walker) (0:Int)) (fun _ _ h_ k_=>h_.stays k_) (by kernel_rfl) rfl (St.baseX S115) (Rds.of (S115.atX (i:=0) rfl)) ?_
   refine gS rfl (fun _ k_=>p_fld fl92_2 rfl dn) ?_
   refine gS rfl (fun _ k_=>p_ld ty90 (S115.stR (i:=3) rfl k_.1) rfl rfl dn) ?_
   refine gS rfl (fun _ k_=>p_fld fl67_0 rfl dn) ?_
   refine gS rfl (fun _ k_=>p_ld ty3 (S115.stR (i:=1) rfl k_.1) rfl rfl dn) ?_
   refine gS rfl (fun _ k_=>p_fld fl67_2 rfl dn) ?_
   refine gS rfl (fun _ k_=>p_ld ty3 (S115.stR (i:=1) rfl k_.1) rfl rfl dn) ?_
   refine gS rfl (fun _ k_=>p_bld (cs:=[I r82.Trip,I r82.Walker]) st128 (rfl:_=[(0,I r82.Trip),(1,I r82.Walker)]) (by kernel_rfl) dn) ?_
   refine gS rfl (fun _ k_=>o_lookP (a:=(Ticket_seat.mk r82.Trip r82.Walker)) (0:Int) mt90 keyS in3 k_.2 rfl rfl rfl dn) ?_
   refine gS rfl (fun _ k_=>p_fld fl67_1 rfl dn) ?_
   refine gS rfl (fun _ k_=>p_ld ty3 (S115.stR (i:=1) rfl k_.1) rfl rfl dn) ?_
   refine gS rfl (fun _ k_=>p_shl h114 rfl rfl dn) ?_
   refine gS rfl (fun _ k_=>p_orI rfl rfl dn) ?_
   refine gC rfl ?_
   refine gC rfl ?_
   refine ⟨?_,?_⟩
   ·intro w116 S117
    refine o_ment1 (a:=(Ticket_seat.mk r82.Trip r82.Walker)) (0:Int) mt90 keyS in3 rfl rfl rfl S117 (k:=0) rfl fun n118 w119 S120=>?_
    refine cG (X:=[mpS ekS iE m34 (putL z_1.2.1 (Ticket_seat.mk r82.Trip r82.Walker) ((lookL z_1.2.1 (Ticket_seat.mk r82.Trip r82.Walker)).getD 0)) (Ticket_seat.mk r82.Trip r82.Walker) n118]) S120 (Rds.ofS (S120.atX (i:=0) rfl)) ?_
    intro w121 S122
    refine p_ext rfl rfl ?_
    refine cG (X:=[mpS ekS iE m34 (putL z_1.2.1 (Ticket_seat.mk r82.Trip r82.Walker) ((lookL z_1.2.1 (Ticket_seat.mk r82.Trip r82.Walker)).getD 0)) (Ticket_seat.mk r82.Trip r82.Walker) n118]) S122 (Rds.ofS (S122.atX (i:=0) rfl)) ?_
    exact cgEnd ⟨n118,⟨rfl,rfl,trivial⟩,rfl⟩
   rintro e125 X126 ⟨n118,⟨q123,q124,_⟩,rfl⟩ e127 w128 f129 f130 S131
   have S132:St w nF w128 [mpS ekS iE m34 (putL z_1.2.1 (Ticket_seat.mk r82.Trip r82.Walker) ((lookL z_1.2.1 (Ticket_seat.mk r82.Trip r82.Walker)).getD 0)) (Ticket_seat.mk r82.Trip r82.Walker) n118,gr eTicketShow 3 67 A94 c95 ([r82]:List TicketShow),bl b84 [I r82.Trip,I r82.Ticket,I r82.Walker] 67,gr eTicketShow 3 67 A101 c102 (z_1.2.2.1++([r82]:List TicketShow)),bl b54 ([I a0.Tally.Trips,I a0.Tally.Room,SL A1 a0.Tally.Counts.length c2,I a0.Fare,SL A4 a0.Tickets.length c5,SL A101 (z_1.2.2.1++([r82]:List TicketShow)).length c102,SL none 0 0]++(sg (aset z_1.2.2.2 3 r82.Trip (orI (aget z_1.2.2.2 r82.Trip) (shlI 1 r82.Ticket))) 3++[Value.map (some m34)])) 92,bl b27 ([I 0,I 0,SL none 0 0,I 0,SL none 0 0,SL none 0 0,SL none 0 0]++(sg (List.replicate 3 0) 3++[Value.map none])) 92,bl b24 [vF (.func f13) #[] cp14.toArray] 96,bl b21 (vB a0 A1 c2 A4 c5 A7 c8 A10 c11) 29] [rd eTallyCount 7 A1 c2 a0.Tally.Counts,rd eTicketSeason 2 A4 c5 a0.Tickets,rd eTicketShow 3 A7 c8 a0.Shows,rd eTicketBox 4 A10 c11 a0.Boxes,gW0]:=St.fromBaseX S115 S131
   refine tailE [(2,P b21 0),(3,P b24 0),(4,P b27 0),(5,P b54 0),(20,SL A7 a0.Shows.length c8),(21,I (a0.Shows.length:Int)),(22,I z_1.1),(52,Value.map (some m34)),(62,I (orI ((lookL z_1.2.1 (Ticket_seat.mk r82.Trip r82.Walker)).getD 0) (shlI 1 r82.Ticket))),(64,I (n118:Int))] ⟨((f130 2 rfl).trans (rfl:_=P b21 0)),((f130 3 rfl).trans (rfl:_=P b24 0)),((f130 4 rfl).trans (rfl:_=P b27 0)),((f130 5 rfl).trans (rfl:_=P b54 0)),((f130 20 rfl).trans (rfl:_=SL A7 a0.Shows.length c8)),((f130 21 rfl).trans (rfl:_=I (a0.Shows.length:Int))),((f130 22 rfl).trans (rfl:_=I z_1.1)),((f130 52 rfl).trans (rfl:_=Value.map (some m34))),((f130 62 rfl).trans (rfl:_=I (orI ((lookL z_1.2.1 (Ticket_seat.mk r82.Trip r82.Walker)).getD 0) (shlI 1 r82.Ticket)))),((f129 64 rfl).trans q124),trivial⟩ ?_
   intro g133
   refine o_est (a:=(Ticket_seat.mk r82.Trip r82.Walker)) (v:=orI ((lookL z_1.2.1 (Ticket_seat.mk r82.Trip r82.Walker)).getD 0) (shlI 1 r82.Ticket)) rfl rfl rfl S132 (k:=0) rfl fun w134 S135=>?_
   refine wp_nil<|reg<|p_add rfl rfl<|p_mI rfl<|wp_nil ?_
   have S136:=S135.pk [3,0,4,5,6,7] (by decide) [0,1,2,3,4] rfl rfl
   exact ⟨(wr (z_1.1+1),putL z_1.2.1 (Ticket_seat.mk r82.Trip r82.Walker) (orI ((lookL z_1.2.1 (Ticket_seat.mk r82.Trip r82.Walker)).getD 0) (shlI 1 r82.Ticket)),z_1.2.2.1++([r82]:List TicketShow),aset z_1.2.2.2 3 r82.Trip (orI (aget z_1.2.2.2 r82.Trip) (shlI 1 r82.Ticket))),(A101,c102),_,rfl,⟨rfl,rfl,rfl,rfl,rfl,rfl,rfl,trivial⟩,H,S136⟩
  ·replace H:=condF c93 H
   refine c_skip<|reg<|p_add rfl rfl<|p_mI rfl<|wp_nil ?_
   have S137:=S92.pk [1,2,3,4,5,6] (by decide) [0,1,2,3,4] rfl rfl
   exact ⟨(wr (z_1.1+1),z_1.2.1,z_1.2.2.1,z_1.2.2.2),(y_1.1,y_1.2),_,rfl,⟨rfl,rfl,rfl,rfl,rfl,rfl,rfl,trivial⟩,H,S137⟩
 ·replace H:=condF c81 H
  refine c_exit<|c_seq<|c_seq<|reg<|p_fld fl29_4 rfl<|p_ld ty27 (S80.atX (i:=5) rfl) rfl rfl<|p_len rfl sc27<|p_mI rfl<|wp_nil<|c_block ?_
  have S138:=S80.nilRow eTicketBox 4 72
  refine c_lop (α:=Int×(List TicketBox)) (β:=(Option Addr)×Nat) (ticket_opened_l4 a0 a1 z_1) (fun z_2 y_2=>[(2,P b21 0),(3,P b24 0),(4,P b27 0),(5,P b54 0),(67,SL A10 a0.Boxes.length c11),(68,I (a0.Boxes.length:Int)),(69,I z_2.1)]) (fun z_2 y_2 w_=>St w nF w_ [gr eTicketBox 4 72 y_2.1 y_2.2 z_2.2,gr eTicketShow 3 67 y_1.1 y_1.2 z_1.2.2.1,mp ekS iE m34 z_1.2.1,bl b54 ([I a0.Tally.Trips,I a0.Tally.Room,SL A1 a0.Tally.Counts.length c2,I a0.Fare,SL A4 a0.Tickets.length c5,SL y_1.1 z_1.2.2.1.length y_1.2,SL y_2.1 z_2.2.length y_2.2]++(sg z_1.2.2.2 3++[Value.map (some m34)])) 92,bl b27 ([I 0,I 0,SL none 0 0,I 0,SL none 0 0,SL none 0 0,SL none 0 0]++(sg (List.replicate 3 0) 3++[Value.map none])) 92,bl b24 [vF (.func f13) #[] cp14.toArray] 96,bl b21 (vB a0 A1 c2 A4 c5 A7 c8 A10 c11) 29] [rd eTallyCount 7 A1 c2 a0.Tally.Counts,rd eTicketSeason 2 A4 c5 a0.Tickets,rd eTicketShow 3 A7 c8 a0.Shows,rd eTicketBox 4 A10 c11 a0.Boxes,gW0]) (0,([]:List TicketBox)) (none,0) H ⟨rfl,rfl,rfl,rfl,rfl,rfl,rfl,trivial⟩ S138 ?_
  intro m139 z_2 y_2 e140 w141 H S142
  unfold ticket_opened_l4 at H
  refine c_seq<|reg<|p_cmp rfl rfl rfl<|wp_nil<|c_seq ?_
  refine c_cond rfl (fun c143=>?_) (fun c143=>?_)
  ·replace H:=condT c143 H
   refine c_skip<|c_seq<|c_block<|c_seq<|reg<|p_mI rfl ?_
   obtain ⟨r144,h145,H⟩:=bindS H
   refine p_ixE sc27 h145 (S142.atP (i:=3) rfl).1 rfl rfl rfl<|p_ldEA ty72 sz72 rfl h145 (S142.atP (i:=3) rfl).1 rfl<|p_allA in72 S142 fun b146 w147 S148=>p_aI rfl ?_
   refine p_stP (pre:=[]) (old:=[I 0,I 0,I 0,I 0]) (post:=[]) (vs:=[I r144.From,I r144.To,I r144.Pence,I r144.Lost]) sz72 S148 (i:=0) rfl rfl rfl rfl (rfl:_=AG [I r144.From,I r144.To,I r144.Pence,I r144.Lost]) rfl rfl rfl rfl fun w149 S150=>wp_nil<|c_seq<|reg<|p_fld fl96_0 rfl<|p_ld ty94 (S150.atX (i:=6) rfl) rfl rfl<|p_fld fl29_3 rfl<|p_ld ty26 (S150.atX (i:=7) rfl) rfl rfl<|p_len rfl sc26 ?_
   refine p_mI rfl<|p_add rfl rfl ?_
   obtain ⟨r151,h152,H⟩:=bindS H
   refine p_cv (hw16 _ _ _ S150.keep h152) hF15 rfl S150 ?_
   intro w153 S154
   refine p_not rfl<|wp_nil ?_
   refine c_cond rfl (fun c155=>?_) (fun c155=>?_)
   ·replace H:=condT c155 H
    refine reg<|p_fld fl92_0 rfl<|p_fld fl29_4 rfl<|p_ld ty27 (S154.atX (i:=4) rfl) rfl rfl<|p_ldA ty72 sz72 (S154.atX (i:=0) rfl) rfl rfl<|p_bsl (enc:=eTicketBox) (l:=([r144]:List TicketBox)) (fun x=>AG (eTicketBox x)) (fun _=>rfl) sc27 in72 eTicketBox_len rfl (by decide) (by decide) zr72_1 S154 rfl fun A156 c157 w158 S159=>?_
    obtain ⟨h165,H⟩:=needS H
    refine p_app (enc:=eTicketBox) sc27 in72 rfl eTicketBox_len eTicketBox_one (by decide) S159 (k:=2) rfl (gr_sl eTicketBox_len (S159.atX (i:=0) rfl)) h165 (by simp) rfl rfl fun A163 c164 w161 S162=>p_fld fl92_0 rfl<|p_fld fl29_4 rfl ?_
    refine p_stP (pre:=[I a0.Tally.Trips,I a0.Tally.Room,SL A1 a0.Tally.Counts.length c2,I a0.Fare,SL A4 a0.Tickets.length c5,SL y_1.1 z_1.2.2.1.length y_1.2]) (old:=[SL y_2.1 z_2.2.length y_2.2]) (post:=sg z_1.2.2.2 3++[Value.map (some m34)]) (vs:=[SL A163 (z_2.2++([r144]:List TicketBox)).length c164]) sz27 S162 (i:=5) rfl rfl rfl rfl (rfl:_=SL A163 (z_2.2++([r144]:List TicketBox)).length c164) rfl rfl rfl rfl fun w166 S167=>?_
    refine wp_nil<|reg<|p_add rfl rfl<|p_mI rfl<|wp_nil ?_
    have S168:=S167.pk [2,3,4,5,6,7,8] (by decide) [0,1,2,3,4] rfl rfl
    exact ⟨(wr (z_2.1+1),z_2.2++([r144]:List TicketBox)),(A163,c164),_,rfl,⟨rfl,rfl,rfl,rfl,rfl,rfl,rfl,trivial⟩,H,S168⟩
   ·replace H:=condF c155 H
    refine c_skip<|reg<|p_add rfl rfl<|p_mI rfl<|wp_nil ?_
    have S169:=S154.pk [1,2,3,4,5,6,7] (by decide) [0,1,2,3,4] rfl rfl
    exact ⟨(wr (z_2.1+1),z_2.2),(y_2.1,y_2.2),_,rfl,⟨rfl,rfl,rfl,rfl,rfl,rfl,rfl,trivial⟩,H,S169⟩
  ·replace H:=condF c143 H
   refine c_exit<|c_seq<|reg<|p_ldA ty92 sz92 (S142.atX (i:=3) rfl) rfl rfl ?_
   refine p_stP (pre:=[]) (old:=[I 0,I 0,SL none 0 0,I 0,SL none 0 0,SL none 0 0,SL none 0 0]++(sg (List.replicate 3 0) 3++[Value.map none])) (post:=[]) (vs:=[I a0.Tally.Trips,I a0.Tally.Room,SL A1 a0.Tally.Counts.length c2,I a0.Fare,SL A4 a0.Tickets.length c5,SL y_1.1 z_1.2.2.1.length y_1.2,SL y_2.1 z_2.2.length y_2.2]++(sg z_1.2.2.2 3++[Value.map (some m34)])) sz92 S142 (i:=4) rfl rfl rfl rfl (rfl:_=AG ([I a0.Tally.Trips,I a0.Tally.Room,SL A1 a0.Tally.Counts.length c2,I a0.Fare,SL A4 a0.Tickets.length c5,SL y_1.1 z_1.2.2.1.length y_1.2,SL y_2.1 z_2.2.length y_2.2]++(sg z_1.2.2.2 3++[Value.map (some m34)]))) rfl rfl rfl rfl fun w170 S171=>?_
   refine wp_nil ?_
   obtain rfl:=sJ H
   refine c_ret ?_; show bodyPostM (Fr none) 0 Tryd.prog Tryd.f52 _ .ret _ _
   refine ret_of (res1 rfl (rvA rfl ty92 sz92 (S171.atX (i:=4) rfl) rfl)) ?_
   exact ⟨_,rfl,y_1.1,y_1.2,y_2.1,y_2.2,m34,rfl,S171.keep,⟨(gr_rd eTicketShow_len (S171.atX (i:=1) rfl)),(New.rd (S171.newX (i:=1) rfl))⟩,⟨(gr_rd eTicketBox_len (S171.atX (i:=0) rfl)),(New.rd (S171.newX (i:=0) rfl))⟩,⟨S171.atX (i:=2) rfl,S171.newX (i:=2) rfl⟩,trivial⟩
def ticket_nothing_1 (a0:Int):Option Bool:=
 some false
set_option maxRecDepth 100000 in
theorem ticket_nothing_1_ok {a0:Int}{w:World}{r:Bool} (H:ticket_nothing_1 a0=some r):Calls Tryd.prog 82 #[I a0] w (RetV w (B r)):=by
 unfold ticket_nothing_1 at H
 refine fn_of (n:=3) Tryd.func82 rfl rfl (lE rfl) ?_
 have S:=St.start w nF _ nM
 refine c_seq<|reg<|p_aB rfl<|wp_nil<|c_seq<|reg<|p_aB rfl<|wp_nil ?_
 obtain rfl:=sJ H
 exact c_ret (rT Tryd.f82 S.keep rfl rfl)
def ticket_nothing:Option Unit:=
 some ()
set_option maxRecDepth 100000 in
theorem ticket_nothing_ok {w:World}{r:Unit} (H:ticket_nothing=some r):Calls Tryd.prog 53 #[] w (RetV w (AG [vF (.func 82) #[] #[]])):=by
 unfold ticket_nothing at H
 refine fn_of (n:=2) Tryd.func53 rfl rfl (lE rfl) ?_
 have S:=St.start w nF _ nM
 refine c_seq<|reg<|p_allA in96 S fun b1 w2 S3=>wp_nil<|c_seq<|reg<|p_bld (cs:=[vF (.func 82) #[] #[]]) st96 (rfl:_=[(0,vF (.func 82) #[] #[])]) (by kernel_rfl)<|p_stP (pre:=[]) (old:=[Value.nilFunc]) (post:=[]) (vs:=[vF (.func 82) #[] #[]]) sz96 S3 (i:=0) rfl rfl rfl rfl (rfl:_=AG [vF (.func 82) #[] #[]]) rfl rfl rfl rfl fun w4 S5=>wp_nil ?_
 obtain rfl:=sJ H
 refine c_ret ?_; show bodyPostM (Fr none) 0 Tryd.prog Tryd.f53 _ .ret _ _
 refine ret_of (res1 rfl (rvA rfl ty96 sz96 (S5.atX (i:=0) rfl) rfl)) ?_
 exact ⟨_,rfl,rfl,S5.keep⟩
def ticket_book_isTrue_r1 (x_1:Ticket_truth) (z_1:Bool):Option (Bool×Nat×Bool):=
 some (false,1,true)
def ticket_book_isTrue (a0:Ticket_book):Option Bool:=
 (ticket_book_truths a0).bind fun r23=>
 (ticket_book_truths_1 (0,false) a0 (yvOf (ticket_book_isTrue_r1))).bind fun r32=>
 bif (r32.1==0) then (some false)
 else (some r32.2)
set_option maxRecDepth 100000 in
theorem ticket_book_isTrue_ok {a0:Ticket_book}{A1:Option Addr}{c2:Nat}{A4:Option Addr}{c5:Nat}{A7:Option Addr}{c8:Nat}{A10:Option Addr}{c11:Nat}{m13:Option Nat}{w:World}{r:Bool} (H:ticket_book_isTrue a0=some r) (h3:(rd eTallyCount 7 A1 c2 a0.TicketBook.Tally.Counts).ok w) (h6:(rd eTicketSeason 2 A4 c5 a0.TicketBook.Tickets).ok w) (h9:(rd eTicketShow 3 A7 c8 a0.TicketBook.Shows).ok w) (h12:(rd eTicketBox 4 A10 c11 a0.TicketBook.Boxes).ok w) (h14:(mpo ekS iE m13 a0.by_).ok w) (hg15:(gW0).ok w) (hg16:(gW2).ok w):Calls Tryd.prog 54 #[AG ((vB a0.TicketBook A1 c2 A4 c5 A7 c8 A10 c11)++(sg a0.shown_ 3++[Value.map m13]))] w (RetV w (B r)):=by
 unfold ticket_book_isTrue at H
 refine fn_of (n:=6) Tryd.func54 rfl rfl (lE rfl) ?_
 have S:=St.start w nF _ (cA h3 (cA h6 (cA h9 (cA h12 (cA h14 (cA hg15 (cA hg16 nM)))))))
 refine c_seq<|reg<|p_boxA rfl S fun b17 w18 S19=>p_all in4 rfl S19 fun b20 w21 S22=>wp_nil<|c_seq<|c_seq<|reg<|p_ldA ty92 sz92 (S22.atX (i:=1) rfl) rfl rfl ?_
 obtain ⟨r23,h24,H⟩:=bindS H
 refine p_cal (ticket_book_truths_ok h24 (S22.atP (i:=0) rfl) (S22.atP (i:=1) rfl) (S22.atP (i:=2) rfl) (S22.atP (i:=3) rfl) (S22.atP (i:=4) rfl) (S22.atP (i:=5) rfl) (S22.atP (i:=6) rfl)) fu69 rfl ?_
 rintro _ w25 ⟨b27,rfl,k26,⟨o28,n29⟩,_⟩
 have S30:=S22.addNew k26 o28 n29
 refine wp_nil<|c_block ?_
 have S31:=S30.fix (i:=0) rfl
 obtain ⟨r32,h33,H⟩:=bindS H
 have S34:=S31
 refine c_rangeG (α:=Bool) (β:=Unit) (ε:=Ticket_truth) (K:=[bl b27 ((vB a0.TicketBook A1 c2 A4 c5 A7 c8 A10 c11)++(sg a0.shown_ 3++[Value.map m13])) 92,rd eTallyCount 7 A1 c2 a0.TicketBook.Tally.Counts,rd eTicketSeason 2 A4 c5 a0.TicketBook.Tickets,rd eTicketShow 3 A7 c8 a0.TicketBook.Shows,rd eTicketBox 4 A10 c11 a0.TicketBook.Boxes,mpo ekS iE m13 a0.by_,gW0,gW2]) (MK:=Go.Fx.mark) (XR:=fun D35=>[]++[bx D35 (.deferred (some []))]) (it:=fun {σ} yv s_=>ticket_book_truths_1 s_ a0 yv) (enc:=yE0) (ticket_book_isTrue_r1) [.ret] (fun z_1 y_1=>[bl b20 [B z_1] 4,bl b17 ((vB a0.TicketBook A1 c2 A4 c5 A7 c8 A10 c11)++(sg a0.shown_ 3++[Value.map m13])) 92]) false () h33 (ent_none (X0:=(fun z_1 y_1=>[bl b20 [B z_1] 4,bl b17 ((vB a0.TicketBook A1 c2 A4 c5 A7 c8 A10 c11)++(sg a0.shown_ 3++[Value.map m13])) 92]) false ()++[]) S34) rfl fu88 (fun w_ σ yv_ s_ s'_ l_ G_ A_ hH_ hG_ hk_ hd_ hy_=>(ticket_book_truths_1_ok hH_ hG_ (hk_ _ (mE (i:=0) rfl)) (hk_ _ (mE (i:=1) rfl)) (hk_ _ (mE (i:=2) rfl)) (hk_ _ (mE (i:=3) rfl)) (hk_ _ (mE (i:=4) rfl)) (hk_ _ (mE (i:=5) rfl)) (hk_ _ (mE (i:=6) rfl)) (hk_ _ (mE (i:=7) rfl)) hd_ hy_ (Link.refl _ _)).mono fun en_ w3_ ⟨u_,he_,A'_,hu_,hk2_,ho_,hf_⟩=>⟨u_,he_,hk2_,A'_,ho_,hf_⟩) (mG [0,1,2,3,4,5,6,7] rfl) (fun _=>rfl) (cA (.inl rfl) nM) ?_ ?_ ?_
 ·intro l36 oR37 oB38 Cr39 x_1 z_1 y_1 w40 b41 c42 z43 PP44 H S45 hlk46 ho47 hB48 hN49 hX50
  unfold ticket_book_isTrue_r1 at H
  replace S45:St w40 Cr39 w40 [bx l36 oR37,bl b20 [B z_1] 4,bl b17 ((vB a0.TicketBook A1 c2 A4 c5 A7 c8 A10 c11)++(sg a0.shown_ 3++[Value.map m13])) 92] [bl b27 ((vB a0.TicketBook A1 c2 A4 c5 A7 c8 A10 c11)++(sg a0.shown_ 3++[Value.map m13])) 92,rd eTallyCount 7 A1 c2 a0.TicketBook.Tally.Counts,rd eTicketSeason 2 A4 c5 a0.TicketBook.Tickets,rd eTicketShow 3 A7 c8 a0.TicketBook.Shows,rd eTicketBox 4 A10 c11 a0.TicketBook.Boxes,mpo ekS iE m13 a0.by_,gW0,gW2]:=S45
  refine c_skip ?_
  refine hB48 _ _ 0 _ S45 rfl fun w51 S52=>?_
  replace S52:St w40 Cr39 w51 [bx l36 oB38,bl b20 [B z_1] 4,bl b17 ((vB a0.TicketBook A1 c2 A4 c5 A7 c8 A10 c11)++(sg a0.shown_ 3++[Value.map m13])) 92] [bl b27 ((vB a0.TicketBook A1 c2 A4 c5 A7 c8 A10 c11)++(sg a0.shown_ 3++[Value.map m13])) 92,rd eTallyCount 7 A1 c2 a0.TicketBook.Tally.Counts,rd eTicketSeason 2 A4 c5 a0.TicketBook.Tickets,rd eTicketShow 3 A7 c8 a0.TicketBook.Shows,rd eTicketBox 4 A10 c11 a0.TicketBook.Boxes,mpo ekS iE m13 a0.by_,gW0,gW2]:=S52
  refine c_block<|c_seq<|reg<|p_st sz4 S52 (i:=1) rfl rfl (rfl:_=B true) rfl rfl fun w53 S54=>wp_nil ?_
  refine c_ret ?_
  exact hX50 0 .ret _ _ true () rfl S54 (sJ H)
 ·intro hc61
  intro l55 D56 o57 y58 w59 S60
  have S62:St w nF w59 [bl b20 [B r32.2] 4,bl b17 ((vB a0.TicketBook A1 c2 A4 c5 A7 c8 A10 c11)++(sg a0.shown_ 3++[Value.map m13])) 92,bx D56 (.deferred (some []))] [bl b27 ((vB a0.TicketBook A1 c2 A4 c5 A7 c8 A10 c11)++(sg a0.shown_ 3++[Value.map m13])) 92,rd eTallyCount 7 A1 c2 a0.TicketBook.Tally.Counts,rd eTicketSeason 2 A4 c5 a0.TicketBook.Tickets,rd eTicketShow 3 A7 c8 a0.TicketBook.Shows,rd eTicketBox 4 A10 c11 a0.TicketBook.Boxes,mpo ekS iE m13 a0.by_,gW0,gW2]:=St.tail1 S60
  replace H:=condT (by rw [hc61]; rfl) H
  refine c_seq<|reg<|p_st sz4 S62 (i:=0) rfl rfl (rfl:_=B false) rfl rfl fun w63 S64=>wp_nil ?_
  refine c_ret ?_
  refine leave_mark S64 (i:=2) rfl fun w65 S66=>?_
  obtain rfl:=sJ H
  show bodyPostM (Fr none) 0 Tryd.prog Tryd.f54 _ .ret _ _
  refine ret_of (res1 rfl (rvC rfl ty4 (S66.atX (i:=0) rfl))) ?_
  exact ⟨_,rfl,rfl,S66.keep⟩
 ·intro k67 c68 hk69 hc70
  rcases k67 with _ | k67
  ·obtain rfl:=sJ hk69
   intro l71 D72 o73 y74 w75 S76
   have S78:St w nF w75 [bl b20 [B r32.2] 4,bl b17 ((vB a0.TicketBook A1 c2 A4 c5 A7 c8 A10 c11)++(sg a0.shown_ 3++[Value.map m13])) 92,bx D72 (.deferred (some []))] [bl b27 ((vB a0.TicketBook A1 c2 A4 c5 A7 c8 A10 c11)++(sg a0.shown_ 3++[Value.map m13])) 92,rd eTallyCount 7 A1 c2 a0.TicketBook.Tally.Counts,rd eTicketSeason 2 A4 c5 a0.TicketBook.Tickets,rd eTicketShow 3 A7 c8 a0.TicketBook.Shows,rd eTicketBox 4 A10 c11 a0.TicketBook.Boxes,mpo ekS iE m13 a0.by_,gW0,gW2]:=St.tail1 S76
   replace H:=condF (by rw [hc70]; rfl) H
   refine c_ret ?_
   refine leave_mark S78 (i:=2) rfl fun w79 S80=>?_
   obtain rfl:=sJ H
   show bodyPostM (Fr none) 0 Tryd.prog Tryd.f54 _ .ret _ _
   refine ret_of (res1 rfl (rvC rfl ty4 (S80.atX (i:=0) rfl))) ?_
   exact ⟨_,rfl,rfl,S80.keep⟩
  ·cases hk69
def ticket_Right (a0:TicketBook):Option (Bool×Int):=
 (ticket_Check a0).bind fun r18=>
 bif (r18 != 0) then (some (false,r18))
 else ((ticket_nothing).bind fun r23=>
 (ticket_opened a0 (Ticket_choice.mk (fun y28=>ticket_nothing_1 y28))).bind fun r29=>
 (ticket_book_isTrue (Ticket_book.mk (TicketBook.mk (TallyBook.mk r29.TicketBook.Tally.Trips r29.TicketBook.Tally.Room a0.Tally.Counts) r29.TicketBook.Fare a0.Tickets r29.TicketBook.Shows r29.TicketBook.Boxes) r29.shown_ r29.by_)).bind fun r45=>
 some (r45,0))
set_option maxRecDepth 100000 in
theorem ticket_Right_ok {a0:TicketBook}{A1:Option Addr}{c2:Nat}{A4:Option Addr}{c5:Nat}{A7:Option Addr}{c8:Nat}{A10:Option Addr}{c11:Nat}{w:World}{r:Bool×Int} (H:ticket_Right a0=some r) (h3:(rd eTallyCount 7 A1 c2 a0.Tally.Counts).ok w) (h6:(rd eTicketSeason 2 A4 c5 a0.Tickets).ok w) (h9:(rd eTicketShow 3 A7 c8 a0.Shows).ok w) (h12:(rd eTicketBox 4 A10 c11 a0.Boxes).ok w) (hg13:(gW0).ok w) (hg14:(gW2).ok w):Calls Tryd.prog 16 #[AG (vB a0 A1 c2 A4 c5 A7 c8 A10 c11)] w (RetV w (TU [B r.1,I r.2])):=by
 unfold ticket_Right at H
 refine fn_of (n:=14) Tryd.func16 rfl rfl (lE rfl) ?_
 have S:=St.start w nF _ (cA h3 (cA h6 (cA h9 (cA h12 (cA hg13 (cA hg14 nM))))))
 refine c_seq<|reg<|p_boxA rfl S fun b15 w16 S17=>p_aB rfl<|p_aI rfl<|wp_nil<|c_seq<|c_seq<|reg<|p_ldA ty29 sz29 (S17.atX (i:=0) rfl) rfl rfl ?_
 obtain ⟨r18,h19,H⟩:=bindS H
 refine p_cv (ticket_Check_ok h19 (S17.atP (i:=0) rfl) (S17.atP (i:=1) rfl) (S17.atP (i:=2) rfl) (S17.atP (i:=3) rfl)) fu37 rfl S17 fun w20 S21=>p_aI rfl<|wp_nil<|c_seq<|reg<|p_mI rfl<|p_cmp rfl rfl rfl<|wp_nil ?_
 refine c_cond rfl (fun c22=>?_) (fun c22=>?_)
 ·replace H:=condT c22 H
  refine c_seq<|reg<|p_mI rfl<|p_aB rfl<|p_aI rfl<|wp_nil ?_
  obtain rfl:=sJ H
  refine c_ret ?_; show bodyPostM (Fr none) 0 Tryd.prog Tryd.f16 _ .ret _ _
  refine ret_of (res2 rfl (rvT (rfl:_=B false)) (rvT (rfl:_=I r18))) ?_
  exact ⟨_,rfl,rfl,S21.keep⟩
 ·replace H:=condF c22 H
  refine c_skip<|c_seq ?_
  obtain ⟨r23,h24,H⟩:=bindS H
  refine reg_q mixed 2 (by kernel_rfl) ?_
  refine dS (fun _ k_=>p_ldA ty29 sz29 (aS (S21.atX (i:=0) rfl) k_) rfl rfl dn)<|dS (fun _ k_=>p_cvD (ticket_nothing_ok h24) fu53 rfl) ?_
  intro w25 k26; have S27:=S21.call k26
  obtain ⟨r29,h30,H⟩:=bindS H
  refine p_cal (ticket_opened_ok h30 (S27.atP (i:=0) rfl) (S27.atP (i:=1) rfl) (S27.atP (i:=2) rfl) (S27.atP (i:=3) rfl) (by kernel_rfl) (fun _ _ _ k_ hr_=>ticket_nothing_1_ok hr_) (S27.atP (i:=4) rfl)) fu52 rfl ?_
  rintro _ w31 ⟨A33,c34,A35,c36,m37,rfl,k32,⟨o38,n39⟩,⟨o40,n41⟩,⟨o42,n43⟩,_⟩
  have S44:=S27.callN k32 [rd eTicketShow 3 A33 c34 r29.TicketBook.Shows,rd eTicketBox 4 A35 c36 r29.TicketBook.Boxes,mp ekS iE m37 r29.by_] (cA ⟨o38,New.inL n39⟩ (cA ⟨o40,New.inL n41⟩ (cA ⟨o42,New.inL n43⟩ nM)))
  obtain ⟨r45,h46,H⟩:=bindS H
  refine p_cv (ticket_book_isTrue_ok h46 (S44.atP (i:=3) rfl) (S44.atP (i:=4) rfl) (S44.atP (i:=0) rfl) (S44.atP (i:=1) rfl) (mpo_some (S44.atP (i:=2) rfl)) (S44.atP (i:=7) rfl) (S44.atP (i:=8) rfl)) fu54 rfl S44 fun w47 S48=>p_aB rfl<|p_aI rfl<|wp_nil ?_
  obtain rfl:=sJ H
  refine c_ret ?_; show bodyPostM (Fr none) 0 Tryd.prog Tryd.f16 _ .ret _ _
  refine ret_of (res2 rfl (rvT (rfl:_=B r45)) (rvT (rfl:_=I 0))) ?_
  exact ⟨_,rfl,rfl,S48.keep⟩
def sl_Index_int_int_l1 (a0:List Int) (a1:Int) (rec_z_1:Int→Option Int) (z_1:Int):Option Int:=
 bif decide (z_1 < (a0.length:Int)) then ((getI a0 z_1).bind fun r9=>
 bif (a1==r9) then (some z_1)
 else (rec_z_1 (wr (z_1+1))))
 else (some (-1))
def sl_Index_int_int (a0:List Int) (a1:Int):Option Int:=
 loopF (sl_Index_int_int_l1 a0 a1) big 0
set_option maxRecDepth 100000 in
theorem sl_Index_int_int_ok {a0:List Int}{a1:Int}{A1:Option Addr}{c2:Nat}{w:World}{r:Int} (H:sl_Index_int_int a0 a1=some r) (h3:(rd intE 1 A1 c2 a0).ok w):Calls Tryd.prog 95 #[SL A1 a0.length c2,I a1] w (RetV w (I r)):=by
 unfold sl_Index_int_int at H
 refine fn_of (n:=19) Tryd.func95 rfl rfl (lE rfl) ?_
 have S:=St.start w nF _ (cA h3 nM)
 refine c_seq<|reg<|p_aI rfl<|wp_nil<|c_seq<|c_seq<|reg<|p_mS rfl<|p_len rfl sc30<|p_mI rfl<|wp_nil<|c_block ?_
 refine c_lop (α:=Int) (β:=Unit) (sl_Index_int_int_l1 a0 a1) (fun z_1 y_1=>[(0,SL A1 a0.length c2),(1,I a1),(7,I (a0.length:Int)),(8,I z_1)]) (fun z_1 y_1 w_=>St w nF w_ [] [rd intE 1 A1 c2 a0]) 0 () H ⟨rfl,rfl,rfl,rfl,trivial⟩ S ?_
 intro m4 z_1 y_1 e5 w6 H S7
 unfold sl_Index_int_int_l1 at H
 refine c_seq<|reg<|p_cmp rfl rfl rfl<|wp_nil<|c_seq ?_
 refine c_cond rfl (fun c8=>?_) (fun c8=>?_)
 ·replace H:=condT c8 H
  refine c_skip<|c_seq<|c_block<|c_seq<|reg<|p_mI rfl<|p_aI rfl<|wp_nil<|c_seq<|reg<|p_mI rfl<|p_mS rfl<|p_mI rfl ?_
  obtain ⟨r9,h10,H⟩:=bindS H
  refine p_ixE sc30 h10 (S7.atP (i:=0) rfl).1 rfl rfl rfl<|p_ldE ty3 h10 (S7.atP (i:=0) rfl).1 rfl rfl<|p_cmp rfl rfl rfl<|wp_nil ?_
  refine c_cond rfl (fun c11=>?_) (fun c11=>?_)
  ·replace H:=condT c11 H
   refine c_seq<|reg<|p_mI rfl<|p_aI rfl<|wp_nil ?_
   obtain rfl:=sJ H
   exact c_ret (rT Tryd.f95 S7.keep rfl rfl)
  ·replace H:=condF c11 H
   refine c_skip<|reg<|p_add rfl rfl<|p_mI rfl<|wp_nil ?_
   exact ⟨wr (z_1+1),(),_,rfl,⟨rfl,rfl,rfl,rfl,trivial⟩,H,S7⟩
 ·replace H:=condF c8 H
  refine c_exit<|c_seq<|reg<|p_aI rfl<|wp_nil ?_
  obtain rfl:=sJ H
  exact c_ret (rT Tryd.f95 S7.keep rfl rfl)
def sl_Contains_int_int (a0:List Int) (a1:Int):Option Bool:=
 (sl_Index_int_int a0 a1).bind fun r4=>
 some (decide (r4≥0))
set_option maxRecDepth 100000 in
theorem sl_Contains_int_int_ok {a0:List Int}{a1:Int}{A1:Option Addr}{c2:Nat}{w:World}{r:Bool} (H:sl_Contains_int_int a0 a1=some r) (h3:(rd intE 1 A1 c2 a0).ok w):Calls Tryd.prog 72 #[SL A1 a0.length c2,I a1] w (RetV w (B r)):=by
 unfold sl_Contains_int_int at H
 refine fn_of (n:=9) Tryd.func72 rfl rfl (lE rfl) ?_
 have S:=St.start w nF _ (cA h3 nM)
 refine c_seq<|reg<|p_aB rfl<|wp_nil<|c_seq<|reg<|p_mS rfl<|p_mI rfl ?_
 obtain ⟨r4,h5,H⟩:=bindS H
 refine p_cv (sl_Index_int_int_ok h5 (S.atP (i:=0) rfl)) fu95 rfl S fun w6 S7=>p_cmp rfl rfl rfl<|p_aB rfl<|wp_nil ?_
 obtain rfl:=sJ H
 exact c_ret (rT Tryd.f72 S7.keep rfl rfl)
def ticket_some_1 (a0:Int) (q0:List Int):Option Bool:=
 (sl_Contains_int_int q0 a0).bind fun r6=>
 some r6
set_option maxRecDepth 100000 in
theorem ticket_some_1_ok {a0:Int}{q0:List Int}{b1:Nat}{A2:Option Addr}{c3:Nat}{w:World}{r:Bool} (H:ticket_some_1 a0 q0=some r) (h5:(bl b1 [SL A2 q0.length c3] 30).ok w) (h4:(rd intE 1 A2 c3 q0).ok w):Calls Tryd.prog 83 #[I a0,P b1 0] w (RetV w (B r)):=by
 unfold ticket_some_1 at H
 refine fn_of (n:=7) Tryd.func83 rfl rfl (lE rfl) ?_
 have S:=St.start w nF _ (cA h5 (cA h4 nM))
 refine c_seq<|reg<|p_aB rfl<|wp_nil<|c_seq<|reg<|p_ld ty30 (S.atP (i:=0) rfl) rfl rfl<|p_mI rfl ?_
 obtain ⟨r6,h7,H⟩:=bindS H
 refine p_cv (sl_Contains_int_int_ok h7 (S.atP (i:=1) rfl)) fu72 rfl S fun w8 S9=>p_aB rfl<|wp_nil ?_
 obtain rfl:=sJ H
 exact c_ret (rT Tryd.f83 S9.keep rfl rfl)
def ticket_some (a0:List Int):Option Unit:=
 some ()
set_option maxRecDepth 100000 in
theorem ticket_some_ok {a0:List Int}{A1:Option Addr}{c2:Nat}{w:World}{r:Unit} (H:ticket_some a0=some r) (h3:(rd intE 1 A1 c2 a0).ok w):Calls Tryd.prog 56 #[SL A1 a0.length c2] w fun en w_=>∃ u_,en=.returned u_∧∃ b_1:Nat,u_=AG [vF (.func 83) #[] #[P b_1 0]]∧Keep0 w w_∧((bl b_1 [SL A1 a0.length c2] 30).ok w_∧New w.heap.size (bl b_1 [SL A1 a0.length c2] 30))∧True:=by
 unfold ticket_some at H
 refine fn_of (n:=5) Tryd.func56 rfl rfl (lE rfl) ?_
 have S:=St.start w nF _ (cA h3 nM)
 refine c_seq<|reg<|p_box (rfl:_=SL A1 a0.length c2) rfl S fun b4 w5 S6=>p_allA in96 S6 fun b7 w8 S9=>wp_nil<|c_seq<|reg ?_
 refine o_fun (rfl:_=[]) (rfl:_=[P b4 0]) ?_
 refine p_bld (cs:=[vF (.func 83) #[] #[P b4 0]]) st96 (rfl:_=[(0,vF (.func 83) #[] #[P b4 0])]) (by kernel_rfl)<|p_stP (pre:=[]) (old:=[Value.nilFunc]) (post:=[]) (vs:=[vF (.func 83) #[] #[P b4 0]]) sz96 S9 (i:=0) rfl rfl rfl rfl (rfl:_=AG [vF (.func 83) #[] #[P b4 0]]) rfl rfl rfl rfl fun w10 S11=>wp_nil ?_
 obtain rfl:=sJ H
 refine c_ret ?_; show bodyPostM (Fr none) 0 Tryd.prog Tryd.f56 _ .ret _ _
 refine ret_of (res1 rfl (rvA rfl ty96 sz96 (S11.atX (i:=0) rfl) rfl)) ?_
 exact ⟨_,rfl,b4,rfl,S11.keep,⟨S11.atX (i:=1) rfl,S11.newX (i:=1) rfl⟩,trivial⟩
def ticket_Wrong_1_l3 (q1:Int) (a0:List Int) (rec_:(List Int)→Int→Option ((List Int)×Bool)) (a1:Int) (rec_z_2:Int→Option ((List Int)×Bool)) (z_2:Int):Option ((List Int)×Bool):=
 bif decide (z_2 < q1) then (need (fitsL (a0.length+([z_2]:List Int).length) 8)<|
 (rec_ (a0++([z_2]:List Int)) a1).bind fun r101=>
 bif r101.2 then (some (r101.1,true))
 else (rec_z_2 (wr (z_2+1))))
 else (some (([]:List _),false))
def ticket_Wrong_1_j4 (q1:Int) (a0:List Int) (rec_:(List Int)→Int→Option ((List Int)×Bool)) (a1:Int) (z_1:Int):Option ((List Int)×Bool):=
 loopF (ticket_Wrong_1_l3 q1 a0 rec_ a1) big z_1
def ticket_Wrong_1_F (rec_:(List Int)→Int→Option ((List Int)×Bool)) (a0:List Int) (a1:Int) (q0:TicketBook) (q1:Int):Option ((List Int)×Bool):=
 bif ((a0.length:Int)==a1) then ((ticket_some a0).bind fun r28=>
 (ticket_opened q0 (Ticket_choice.mk (fun y39=>ticket_some_1 y39 a0))).bind fun r40=>
 (ticket_book_isTrue (Ticket_book.mk (TicketBook.mk (TallyBook.mk r40.TicketBook.Tally.Trips r40.TicketBook.Tally.Room q0.Tally.Counts) r40.TicketBook.Fare q0.Tickets r40.TicketBook.Shows r40.TicketBook.Boxes) r40.shown_ r40.by_)).bind fun r59=>
 some (a0,r59))
 else (bif decide ((a0.length:Int) > 0) then ((getI a0 (wr ((a0.length:Int) - 1))).bind fun r70=>
 ticket_Wrong_1_j4 q1 a0 rec_ a1 (wr (r70+1)))
 else (ticket_Wrong_1_j4 q1 a0 rec_ a1 0))
def ticket_Wrong_1:Nat→(List Int)→Int→TicketBook→Int→Option ((List Int)×Bool)
 | 0,_,_,_,_=>none
 | n+1,a0,a1,q0,q1=>ticket_Wrong_1_F (fun x0_ x1_=>ticket_Wrong_1 n x0_ x1_ q0 q1) a0 a1 q0 q1
set_option maxRecDepth 100000 in
theorem ticket_Wrong_1_ok {n:Nat}:∀ {a0:List Int}{a1:Int}{q0:TicketBook}{q1:Int}{A1:Option Addr}{c2:Nat}{b4:Nat}{A7:Option Addr}{c8:Nat}{A10:Option Addr}{c11:Nat}{A13:Option Addr}{c14:Nat}{A16:Option Addr}{c17:Nat}{b5:Nat}{b6:Nat}{w:World}{r:(List Int)×Bool} (H:ticket_Wrong_1 n a0 a1 q0 q1=some r) (h21:(bl b6 [vF (.func 55) #[] #[P b4 0,P b5 0,P b6 0]] 98).ok w) (h20:(bl b5 [I q1] 3).ok w) (h19:(bl b4 (vB q0 A7 c8 A10 c11 A13 c14 A16 c17) 29).ok w) (h3:(rd intE 1 A1 c2 a0).ok w) (h9:(rd eTallyCount 7 A7 c8 q0.Tally.Counts).ok w) (h12:(rd eTicketSeason 2 A10 c11 q0.Tickets).ok w) (h15:(rd eTicketShow 3 A13 c14 q0.Shows).ok w) (h18:(rd eTicketBox 4 A16 c17 q0.Boxes).ok w) (hg22:(gW0).ok w) (hg23:(gW2).ok w),Calls Tryd.prog 55 #[SL A1 a0.length c2,I a1,P b4 0,P b5 0,P b6 0] w fun en w_=>∃ u_,en=.returned u_∧∃ A_1:Option Addr,∃ c_2:Nat,u_=TU [SL A_1 r.1.length c_2,B r.2]∧Keep0 w w_∧((rd intE 1 A_1 c_2 r.1).ok w_∧Al w [rd intE 1 A1 c2 a0,rd eTallyCount 7 A7 c8 q0.Tally.Counts,rd eTicketSeason 2 A10 c11 q0.Tickets,rd eTicketShow 3 A13 c14 q0.Shows,rd eTicketBox 4 A16 c17 q0.Boxes] (rd intE 1 A_1 c_2 r.1))∧True:=by
 induction n with
 | zero=>intro a0 a1 q0 q1 A1 c2 b4 A7 c8 A10 c11 A13 c14 A16 c17 b5 b6 w r H h21 h20 h19 h3 h9 h12 h15 h18 hg22 hg23; cases H
 | succ n ih=>
 intro a0 a1 q0 q1 A1 c2 b4 A7 c8 A10 c11 A13 c14 A16 c17 b5 b6 w r H h21 h20 h19 h3 h9 h12 h15 h18 hg22 hg23
 unfold ticket_Wrong_1 ticket_Wrong_1_F at H
 refine fn_of (n:=54) Tryd.func55 rfl rfl (lE rfl) ?_
 have S:=St.start w nF _ (cA h21 (cA h20 (cA h19 (cA h3 (cA h9 (cA h12 (cA h15 (cA h18 (cA hg22 (cA hg23 nM))))))))))
 refine c_seq<|reg<|p_aS rfl<|p_aB rfl<|wp_nil<|c_seq<|reg<|p_mS rfl<|p_len rfl sc30<|p_aI rfl<|wp_nil<|c_seq<|c_seq<|reg<|p_mI rfl<|p_mI rfl<|p_cmp rfl rfl rfl<|wp_nil ?_
 refine c_cond rfl (fun c24=>?_) (fun c24=>?_)
 ·replace H:=condT c24 H
  refine c_seq ?_
  refine reg_c mixed 8 [3,4,5,7] (by kernel_rfl) ?_
  refine kS rfl (fun _ k_=>p_mS rfl dn)<|kS rfl (fun _ k_=>p_ldA ty29 sz29 (aS (S.atP (i:=2) rfl) k_) rfl rfl dn)<|kS rfl (fun _ k_=>p_mS rfl dn)<|kC rfl<|kC rfl<|kC rfl<|kS rfl (fun _ k_=>p_aS rfl dn)<|kC rfl ?_
  intro w25 k26; have S27:=S.call k26
  obtain ⟨r28,h29,H⟩:=bindS H
  refine p_cal (ticket_some_ok h29 (S27.atP (i:=3) rfl)) fu56 rfl ?_
  rintro _ w30 ⟨b32,rfl,k31,⟨o33,n34⟩,_⟩
  have S35:=S27.addNew k31 o33 n34
  refine cN k31 fun w36 k37=>?_
  have S38:=S35.call k37
  obtain ⟨r40,h41,H⟩:=bindS H
  refine p_cal (ticket_opened_ok h41 (S38.atP (i:=4) rfl) (S38.atP (i:=5) rfl) (S38.atP (i:=6) rfl) (S38.atP (i:=7) rfl) (by kernel_rfl) (fun _ _ _ k_ hr_=>ticket_some_1_ok hr_ (aS (S38.atX (i:=0) rfl) k_) (aS (S38.atP (i:=3) rfl) k_)) (S38.atP (i:=8) rfl)) fu52 rfl ?_
  rintro _ w42 ⟨A44,c45,A46,c47,m48,rfl,k43,⟨o49,n50⟩,⟨o51,n52⟩,⟨o53,n54⟩,_⟩
  have S55:=S38.callN k43 [rd eTicketShow 3 A44 c45 r40.TicketBook.Shows,rd eTicketBox 4 A46 c47 r40.TicketBook.Boxes,mp ekS iE m48 r40.by_] (cA ⟨o49,New.inL n50⟩ (cA ⟨o51,New.inL n52⟩ (cA ⟨o53,New.inL n54⟩ nM)))
  refine cN k43 fun w56 k57=>?_
  have S58:=S55.call k57
  obtain ⟨r59,h60,H⟩:=bindS H
  refine p_cal (ticket_book_isTrue_ok h60 (S58.atP (i:=7) rfl) (S58.atP (i:=8) rfl) (S58.atP (i:=0) rfl) (S58.atP (i:=1) rfl) (mpo_some (S58.atP (i:=2) rfl)) (S58.atP (i:=11) rfl) (S58.atP (i:=12) rfl)) fu54 rfl ?_
  rintro _ w61 ⟨rfl,k62⟩; refine cN k62 fun w63 k64=>?_
  have S65:=(S58.call k62).call k64
  refine p_aB rfl (cN (kR) fun w66 k67=>?_)
  have S68:=S65.call k67
  refine wp_nil ?_
  obtain rfl:=sJ H
  refine c_ret ?_; show bodyPostM (Fr none) 0 Tryd.prog Tryd.f55 _ .ret _ _
  refine ret_of (res2 rfl (rvT (rfl:_=SL A1 a0.length c2)) (rvT (rfl:_=B r59))) ?_
  exact ⟨_,rfl,A1,c2,rfl,S68.keep,⟨(S68.atP (i:=6) rfl),Al.self (i:=0) rfl⟩,trivial⟩
 ·replace H:=condF c24 H
  refine c_skip<|c_seq<|reg<|p_aI rfl<|wp_nil ?_
  refine c_join (α:=Int) (β:=Unit) (fun z_1 y_1=>[(0,SL A1 a0.length c2),(1,I a1),(3,P b5 0),(4,P b6 0),(9,I (a0.length:Int)),(10,I z_1)]) (fun z_1 y_1 w_=>ticket_Wrong_1_j4 q1 a0 (fun x0_ x1_=>ticket_Wrong_1 n x0_ x1_ q0 q1) a1 z_1=some r∧St w nF w_ [] [bl b6 [vF (.func 55) #[] #[P b4 0,P b5 0,P b6 0]] 98,bl b5 [I q1] 3,bl b4 (vB q0 A7 c8 A10 c11 A13 c14 A16 c17) 29,rd intE 1 A1 c2 a0,rd eTallyCount 7 A7 c8 q0.Tally.Counts,rd eTicketSeason 2 A10 c11 q0.Tickets,rd eTicketShow 3 A13 c14 q0.Shows,rd eTicketBox 4 A16 c17 q0.Boxes,gW0,gW2]) ?_ ?_
  ·refine c_seq<|reg<|p_mI rfl<|p_cmp rfl rfl rfl<|wp_nil ?_
   refine c_cond rfl (fun c69=>?_) (fun c69=>?_)
   ·replace H:=condT c69 H
    refine reg<|p_mS rfl<|p_mI rfl<|p_sub rfl rfl ?_
    obtain ⟨r70,h71,H⟩:=bindS H
    refine p_ixE sc30 h71 (S.atP (i:=3) rfl).1 rfl rfl rfl<|p_ldE ty3 h71 (S.atP (i:=3) rfl).1 rfl rfl<|p_add rfl rfl<|p_aI rfl<|wp_nil ?_
    exact ⟨wr (r70+1),(),_,rfl,⟨rfl,rfl,rfl,rfl,rfl,rfl,trivial⟩,H,S⟩
   ·replace H:=condF c69 H
    refine c_skip ?_
    exact ⟨0,(),_,rfl,⟨rfl,rfl,rfl,rfl,rfl,rfl,trivial⟩,H,S⟩
  ·intro z_1 y_1 e69 w70 S71; obtain ⟨H,S71⟩:=S71
   unfold ticket_Wrong_1_j4 at H
   refine c_seq<|c_seq<|reg<|p_mI rfl<|p_aI rfl<|wp_nil<|c_block ?_
   refine c_lop (α:=Int) (β:=Unit) (ticket_Wrong_1_l3 q1 a0 (fun x0_ x1_=>ticket_Wrong_1 n x0_ x1_ q0 q1) a1) (fun z_2 y_2=>[(0,SL A1 a0.length c2),(1,I a1),(3,P b5 0),(4,P b6 0),(9,I (a0.length:Int)),(11,I z_2)]) (fun z_2 y_2 w_=>St w nF w_ [] [bl b6 [vF (.func 55) #[] #[P b4 0,P b5 0,P b6 0]] 98,bl b5 [I q1] 3,bl b4 (vB q0 A7 c8 A10 c11 A13 c14 A16 c17) 29,rd intE 1 A1 c2 a0,rd eTallyCount 7 A7 c8 q0.Tally.Counts,rd eTicketSeason 2 A10 c11 q0.Tickets,rd eTicketShow 3 A13 c14 q0.Shows,rd eTicketBox 4 A16 c17 q0.Boxes,gW0,gW2]) z_1 () H ⟨rfl,rfl,rfl,rfl,rfl,rfl,trivial⟩ S71 ?_
   intro m72 z_2 y_2 e73 w74 H S75
   unfold ticket_Wrong_1_l3 at H
   refine c_seq<|c_seq<|reg<|p_mI rfl<|p_ld ty3 (S75.atP (i:=1) rfl) rfl rfl<|p_cmp rfl rfl rfl<|wp_nil ?_
   refine c_cond rfl (fun c76=>?_) (fun c76=>?_)
   ·replace H:=condT c76 H
    refine c_skip<|c_seq<|c_block<|c_seq ?_
    obtain ⟨h94,H⟩:=needS H
    obtain ⟨r101,h102,H⟩:=bindS H
    refine reg_any mixed 15 (by kernel_rfl) [rv (vF (.func 55) #[] #[P b4 0,P b5 0,P b6 0]),rv (SL A1 a0.length c2),rv (I (a0.length:Int)),rv (I (a0.length:Int)),rv (SL A1 a0.length a0.length),rv (I z_2),rx (α:=(Option Addr)×Nat) (fun ⟨A81,c82⟩=>SL A81 ([z_2]:List Int).length c82) (fun ⟨A81,c82⟩ lo hi=>BtwL lo hi [] (gr intE 1 3 A81 c82 ([z_2]:List Int))∧True) (fun ⟨A81,c82⟩=>[gr intE 1 3 A81 c82 ([z_2]:List Int)]),rx (α:=(Option Addr)×Nat) (fun ⟨A92,c93⟩=>SL A92 (a0++([z_2]:List Int)).length c93) (fun ⟨A92,c93⟩ lo hi=>BtwL lo hi [] (gr intE 1 3 A92 c93 (a0++([z_2]:List Int)))∧True) (fun ⟨A92,c93⟩=>[gr intE 1 3 A92 c93 (a0++([z_2]:List Int))]),rv (I a1),rxd 47 (α:=(Option Addr)×Nat) (fun ⟨A105,c106⟩=>TU [SL A105 r101.1.length c106,B r101.2]) (fun ⟨A105,c106⟩ lo hi ev=>BtwV lo hi [rd eTallyCount 7 A7 c8 q0.Tally.Counts,rd eTicketSeason 2 A10 c11 q0.Tickets,rd eTicketShow 3 A13 c14 q0.Shows,rd eTicketBox 4 A16 c17 q0.Boxes] ev (rd intE 1 A105 c106 r101.1)∧True) (fun ⟨A105,c106⟩=>[rd intE 1 A105 c106 r101.1]),dv 49 some,dv 39 (exG 0),dv 39 (exG 1),dv 50 some,rv (B r101.2)] [[],[],[],[],[],[],[],[],[],[47],[49],[39],[39],[50],[]] rfl (by kernel_rfl) [[],[],[],[],[1,2,3],[],[5],[1,2,3,4,5,6],[],[0,1,2,3,4,5,6,7,8],[0,1,2,3,4,5,6,7,8,9],[0,1,2,3,4,5,6,7,8,9,10],[0,1,2,3,4,5,6,7,8,9,10],[0,1,2,3,4,5,6,7,8,9,10,11],[0,1,2,3,4,5,6,7,8,9,10,11,12,13]] (by kernel_rfl) ⟨?_,?_,?_,?_,?_,?_,?_,?_,?_,?_,?_,?_,?_,?_,?_,trivial⟩ ?_
    ·intro e_ w_ k_ hf_ hR_
     have S_:St w_ nF w_ [] [bl b6 [vF (.func 55) #[] #[P b4 0,P b5 0,P b6 0]] 98,bl b5 [I q1] 3,bl b4 (vB q0 A7 c8 A10 c11 A13 c14 A16 c17) 29,rd intE 1 A1 c2 a0,rd eTallyCount 7 A7 c8 q0.Tally.Counts,rd eTicketSeason 2 A10 c11 q0.Tickets,rd eTicketShow 3 A13 c14 q0.Shows,rd eTicketBox 4 A16 c17 q0.Boxes,gW0,gW2]:=S75.asP k_
     refine hopE [(4,P b6 0)] ⟨((hf_ 4 rfl).trans (rfl:_=P b6 0)),trivial⟩ ?_
     exact p_ld ty98 (S_.atP (i:=0) rfl) rfl rfl<|wp_nil ⟨_,rfl,S_.keep,rfl⟩
    ·intro e_ w_ k_ hf_ hR_
     have S_:St w_ nF w_ [] [bl b6 [vF (.func 55) #[] #[P b4 0,P b5 0,P b6 0]] 98,bl b5 [I q1] 3,bl b4 (vB q0 A7 c8 A10 c11 A13 c14 A16 c17) 29,rd intE 1 A1 c2 a0,rd eTallyCount 7 A7 c8 q0.Tally.Counts,rd eTicketSeason 2 A10 c11 q0.Tickets,rd eTicketShow 3 A13 c14 q0.Shows,rd eTicketBox 4 A16 c17 q0.Boxes,gW0,gW2]:=S75.asP k_
     refine hopE [(0,SL A1 a0.length c2)] ⟨((hf_ 0 rfl).trans (rfl:_=SL A1 a0.length c2)),trivial⟩ ?_
     refine p_mS rfl<|wp_nil ?_
     exact ⟨_,rfl,S_.keep,rfl⟩
    ·intro e_ w_ k_ hf_ hR_
     have S_:St w_ nF w_ [] [bl b6 [vF (.func 55) #[] #[P b4 0,P b5 0,P b6 0]] 98,bl b5 [I q1] 3,bl b4 (vB q0 A7 c8 A10 c11 A13 c14 A16 c17) 29,rd intE 1 A1 c2 a0,rd eTallyCount 7 A7 c8 q0.Tally.Counts,rd eTicketSeason 2 A10 c11 q0.Tickets,rd eTicketShow 3 A13 c14 q0.Shows,rd eTicketBox 4 A16 c17 q0.Boxes,gW0,gW2]:=S75.asP k_
     refine hopE [(9,I (a0.length:Int))] ⟨((hf_ 9 rfl).trans (rfl:_=I (a0.length:Int))),trivial⟩ ?_
     exact p_mI rfl<|wp_nil ⟨_,rfl,S_.keep,rfl⟩
    ·intro e_ w_ k_ hf_ hR_
     have S_:St w_ nF w_ [] [bl b6 [vF (.func 55) #[] #[P b4 0,P b5 0,P b6 0]] 98,bl b5 [I q1] 3,bl b4 (vB q0 A7 c8 A10 c11 A13 c14 A16 c17) 29,rd intE 1 A1 c2 a0,rd eTallyCount 7 A7 c8 q0.Tally.Counts,rd eTicketSeason 2 A10 c11 q0.Tickets,rd eTicketShow 3 A13 c14 q0.Shows,rd eTicketBox 4 A16 c17 q0.Boxes,gW0,gW2]:=S75.asP k_
     refine hopE [(9,I (a0.length:Int))] ⟨((hf_ 9 rfl).trans (rfl:_=I (a0.length:Int))),trivial⟩ ?_
     exact p_mI rfl<|wp_nil ⟨_,rfl,S_.keep,rfl⟩
    ·intro e_ w_ k_ hf_ hR_
     have S_:St w_ nF w_ [] [bl b6 [vF (.func 55) #[] #[P b4 0,P b5 0,P b6 0]] 98,bl b5 [I q1] 3,bl b4 (vB q0 A7 c8 A10 c11 A13 c14 A16 c17) 29,rd intE 1 A1 c2 a0,rd eTallyCount 7 A7 c8 q0.Tally.Counts,rd eTicketSeason 2 A10 c11 q0.Tickets,rd eTicketShow 3 A13 c14 q0.Shows,rd eTicketBox 4 A16 c17 q0.Boxes,gW0,gW2]:=S75.asP k_
     refine hopE [(41,SL A1 a0.length c2),(42,I (a0.length:Int)),(43,I (a0.length:Int))] ⟨rQ (hR_ 1 41 rfl (lE rfl) rfl),rQ (hR_ 2 42 rfl (lE rfl) rfl),rQ (hR_ 3 43 rfl (lE rfl) rfl),trivial⟩ ?_
     refine p_cut3 sc30 (S_.atP (i:=3) rfl) rfl rfl rfl<|wp_nil ?_
     exact ⟨_,rfl,S_.keep,rfl⟩
    ·intro e_ w_ k_ hf_ hR_
     have S_:St w_ nF w_ [] [bl b6 [vF (.func 55) #[] #[P b4 0,P b5 0,P b6 0]] 98,bl b5 [I q1] 3,bl b4 (vB q0 A7 c8 A10 c11 A13 c14 A16 c17) 29,rd intE 1 A1 c2 a0,rd eTallyCount 7 A7 c8 q0.Tally.Counts,rd eTicketSeason 2 A10 c11 q0.Tickets,rd eTicketShow 3 A13 c14 q0.Shows,rd eTicketBox 4 A16 c17 q0.Boxes,gW0,gW2]:=S75.asP k_
     refine hopE [(11,I z_2)] ⟨((hf_ 11 rfl).trans (rfl:_=I z_2)),trivial⟩ ?_
     exact p_mI rfl<|wp_nil ⟨_,rfl,S_.keep,rfl⟩
    ·intro e_ w_ k_ hf_ hR_
     have S_:St w_ nF w_ [] [bl b6 [vF (.func 55) #[] #[P b4 0,P b5 0,P b6 0]] 98,bl b5 [I q1] 3,bl b4 (vB q0 A7 c8 A10 c11 A13 c14 A16 c17) 29,rd intE 1 A1 c2 a0,rd eTallyCount 7 A7 c8 q0.Tally.Counts,rd eTicketSeason 2 A10 c11 q0.Tickets,rd eTicketShow 3 A13 c14 q0.Shows,rd eTicketBox 4 A16 c17 q0.Boxes,gW0,gW2]:=S75.asP k_
     refine hopE [(45,I z_2)] ⟨rQ (hR_ 5 45 rfl (lE rfl) rfl),trivial⟩ ?_
     refine p_bsl (enc:=intE) (l:=([z_2]:List Int)) I (fun _=>rfl) sc30 in3 intE_len rfl (by decide) (by decide) zr3_1 S_ rfl fun A81 c82 w83 S84=>wp_nil ?_
     exact ⟨_,rfl,S84.keep,⟨(A81,c82),rfl,⟨bL (New.al (S84.newX (i:=0) rfl)) rfl (S84.atX (i:=0) rfl) rfl,trivial⟩,(cA (S84.atX (i:=0) rfl) nM)⟩⟩
    ·intro e_ w_ k_ hf_ hR_
     have S_:St w_ nF w_ [] [bl b6 [vF (.func 55) #[] #[P b4 0,P b5 0,P b6 0]] 98,bl b5 [I q1] 3,bl b4 (vB q0 A7 c8 A10 c11 A13 c14 A16 c17) 29,rd intE 1 A1 c2 a0,rd eTallyCount 7 A7 c8 q0.Tally.Counts,rd eTicketSeason 2 A10 c11 q0.Tickets,rd eTicketShow 3 A13 c14 q0.Shows,rd eTicketBox 4 A16 c17 q0.Boxes,gW0,gW2]:=S75.asP k_
     obtain ⟨_,_,_,_,q86⟩:=hR_ 4 44 rfl (lE rfl) rfl
     obtain ⟨_,_,_,_,⟨A81,c82⟩,q87,p88,a89⟩:=hR_ 6 46 rfl (lE rfl) rfl
     replace q87:e_ 46=SL A81 ([z_2]:List Int).length c82:=q87
     have S_:=St.addL' S_ (a89 _ (.head _)) (fun _ _ _ h_=>(nE h_))
     refine hopE [(44,SL A1 a0.length a0.length),(46,SL A81 ([z_2]:List Int).length c82)] ⟨q86,q87,trivial⟩ ?_
     refine p_appN (enc:=intE) sc30 in3 rfl intE_len (by decide) S_ (rd_full (S_.atP (i:=4) rfl)).1 rfl (gr_sl intE_len (S_.atP (i:=0) rfl)) h94 (by simp) rfl rfl fun A92 c93 w90 S91=>wp_nil ?_
     exact ⟨_,rfl,S91.keep,⟨(A92,c93),rfl,⟨bL (New.al (S91.newX (i:=0) rfl)) rfl (S91.atX (i:=0) rfl) rfl,trivial⟩,(cA (S91.atX (i:=0) rfl) nM)⟩⟩
    ·intro e_ w_ k_ hf_ hR_
     have S_:St w_ nF w_ [] [bl b6 [vF (.func 55) #[] #[P b4 0,P b5 0,P b6 0]] 98,bl b5 [I q1] 3,bl b4 (vB q0 A7 c8 A10 c11 A13 c14 A16 c17) 29,rd intE 1 A1 c2 a0,rd eTallyCount 7 A7 c8 q0.Tally.Counts,rd eTicketSeason 2 A10 c11 q0.Tickets,rd eTicketShow 3 A13 c14 q0.Shows,rd eTicketBox 4 A16 c17 q0.Boxes,gW0,gW2]:=S75.asP k_
     refine hopE [(1,I a1)] ⟨((hf_ 1 rfl).trans (rfl:_=I a1)),trivial⟩ ?_
     exact p_mI rfl<|wp_nil ⟨_,rfl,S_.keep,rfl⟩
    ·intro e_ w_ k_ hf_ hR_
     have S_:St w_ nF w_ [] [bl b6 [vF (.func 55) #[] #[P b4 0,P b5 0,P b6 0]] 98,bl b5 [I q1] 3,bl b4 (vB q0 A7 c8 A10 c11 A13 c14 A16 c17) 29,rd intE 1 A1 c2 a0,rd eTallyCount 7 A7 c8 q0.Tally.Counts,rd eTicketSeason 2 A10 c11 q0.Tickets,rd eTicketShow 3 A13 c14 q0.Shows,rd eTicketBox 4 A16 c17 q0.Boxes,gW0,gW2]:=S75.asP k_
     obtain ⟨_,_,_,_,q96⟩:=hR_ 0 40 rfl (lE rfl) rfl
     obtain ⟨_,_,_,_,⟨A92,c93⟩,q97,p98,a99⟩:=hR_ 7 47 rfl (lE rfl) rfl
     replace q97:e_ 47=SL A92 (a0++([z_2]:List Int)).length c93:=q97
     have S_:=St.addL' S_ (a99 _ (.head _)) (fun _ _ _ h_=>(nE h_))
     refine hopE [(40,vF (.func 55) #[] #[P b4 0,P b5 0,P b6 0]),(47,SL A92 (a0++([z_2]:List Int)).length c93),(48,I a1)] ⟨q96,q97,rQ (hR_ 8 48 rfl (lE rfl) rfl),trivial⟩ ?_
     refine p_cal (ih h102 (S_.atP (i:=1) rfl) (S_.atP (i:=2) rfl) (S_.atP (i:=3) rfl) (gr_rd intE_len (S_.atP (i:=0) rfl)) (S_.atP (i:=5) rfl) (S_.atP (i:=6) rfl) (S_.atP (i:=7) rfl) (S_.atP (i:=8) rfl) (S_.atP (i:=9) rfl) (S_.atP (i:=10) rfl)) fu55 rfl ?_
     rintro _ w103 ⟨A105,c106,rfl,k104,⟨o107,n108⟩,_⟩
     have S109:=S_.callN k104 [rd intE 1 A105 c106 r101.1] (cA ⟨o107,Al.inL n108 ((cA (fp_gr (i:=0) rfl) (cA (fp_mem (i:=5) rfl) (cA (fp_mem (i:=6) rfl) (cA (fp_mem (i:=7) rfl) (cA (fp_mem (i:=8) rfl) nM))))))⟩ nM)
     exact wp_nil ⟨_,rfl,S109.keep,⟨(A105,c106),rfl,⟨BtwV.of n108 rfl (S109.atP (i:=0) rfl) rfl (cA (fun b_ h_=>.inl (vblk_sl h_)) (cA (fun b_ h_=>.inr ⟨_,mE (i:=0) rfl,h_⟩) (cA (fun b_ h_=>.inr ⟨_,mE (i:=1) rfl,h_⟩) (cA (fun b_ h_=>.inr ⟨_,mE (i:=2) rfl,h_⟩) (cA (fun b_ h_=>.inr ⟨_,mE (i:=3) rfl,h_⟩) nM))))),trivial⟩,(cA (S109.atP (i:=0) rfl) nM)⟩⟩
    ·intro e_ w_ k_ hf_ hR_
     have S_:St w_ nF w_ [] [bl b6 [vF (.func 55) #[] #[P b4 0,P b5 0,P b6 0]] 98,bl b5 [I q1] 3,bl b4 (vB q0 A7 c8 A10 c11 A13 c14 A16 c17) 29,rd intE 1 A1 c2 a0,rd eTallyCount 7 A7 c8 q0.Tally.Counts,rd eTicketSeason 2 A10 c11 q0.Tickets,rd eTicketShow 3 A13 c14 q0.Shows,rd eTicketBox 4 A16 c17 q0.Boxes,gW0,gW2]:=S75.asP k_
     obtain ⟨_,_,_,_,⟨A105,c106⟩,q110,p111,a112⟩:=hR_ 9 49 rfl (lE rfl) rfl
     replace q110:e_ 49=TU [SL A105 r101.1.length c106,B r101.2]:=q110
     have S_:=St.addL' S_ (a112 _ (.head _)) (fun _ _ _ h_=>(nE h_))
     refine hopE [(49,TU [SL A105 r101.1.length c106,B r101.2])] ⟨q110,trivial⟩ ?_
     refine p_mT rfl<|wp_nil ?_
     exact ⟨_,rfl,S_.keep,rfl⟩
    ·intro e_ w_ k_ hf_ hR_
     have S_:St w_ nF w_ [] [bl b6 [vF (.func 55) #[] #[P b4 0,P b5 0,P b6 0]] 98,bl b5 [I q1] 3,bl b4 (vB q0 A7 c8 A10 c11 A13 c14 A16 c17) 29,rd intE 1 A1 c2 a0,rd eTallyCount 7 A7 c8 q0.Tally.Counts,rd eTicketSeason 2 A10 c11 q0.Tickets,rd eTicketShow 3 A13 c14 q0.Shows,rd eTicketBox 4 A16 c17 q0.Boxes,gW0,gW2]:=S75.asP k_
     obtain ⟨_,_,_,_,⟨A105,c106⟩,q114,p115,a116⟩:=hR_ 9 49 rfl (lE rfl) rfl
     replace q114:e_ 49=TU [SL A105 r101.1.length c106,B r101.2]:=q114
     have S_:=St.addL' S_ (a116 _ (.head _)) (fun _ _ _ h_=>(nE h_))
     obtain ⟨_,_,_,_,q113⟩:=hR_ 10 39 rfl (lE rfl) rfl
     replace q113:e_ 39=TU [SL A105 r101.1.length c106,B r101.2]:=(sJ ((congrArg some q114).symm.trans q113)).symm
     refine hopE [(39,TU [SL A105 r101.1.length c106,B r101.2])] ⟨q113,trivial⟩ ?_
     refine p_ext rfl rfl<|wp_nil ?_
     exact ⟨_,rfl,S_.keep,rfl⟩
    ·intro e_ w_ k_ hf_ hR_
     have S_:St w_ nF w_ [] [bl b6 [vF (.func 55) #[] #[P b4 0,P b5 0,P b6 0]] 98,bl b5 [I q1] 3,bl b4 (vB q0 A7 c8 A10 c11 A13 c14 A16 c17) 29,rd intE 1 A1 c2 a0,rd eTallyCount 7 A7 c8 q0.Tally.Counts,rd eTicketSeason 2 A10 c11 q0.Tickets,rd eTicketShow 3 A13 c14 q0.Shows,rd eTicketBox 4 A16 c17 q0.Boxes,gW0,gW2]:=S75.asP k_
     obtain ⟨_,_,_,_,⟨A105,c106⟩,q118,p119,a120⟩:=hR_ 9 49 rfl (lE rfl) rfl
     replace q118:e_ 49=TU [SL A105 r101.1.length c106,B r101.2]:=q118
     have S_:=St.addL' S_ (a120 _ (.head _)) (fun _ _ _ h_=>(nE h_))
     obtain ⟨_,_,_,_,q117⟩:=hR_ 10 39 rfl (lE rfl) rfl
     replace q117:e_ 39=TU [SL A105 r101.1.length c106,B r101.2]:=(sJ ((congrArg some q118).symm.trans q117)).symm
     refine hopE [(39,TU [SL A105 r101.1.length c106,B r101.2])] ⟨q117,trivial⟩ ?_
     refine p_ext rfl rfl<|wp_nil ?_
     exact ⟨_,rfl,S_.keep,rfl⟩
    ·intro e_ w_ k_ hf_ hR_
     have S_:St w_ nF w_ [] [bl b6 [vF (.func 55) #[] #[P b4 0,P b5 0,P b6 0]] 98,bl b5 [I q1] 3,bl b4 (vB q0 A7 c8 A10 c11 A13 c14 A16 c17) 29,rd intE 1 A1 c2 a0,rd eTallyCount 7 A7 c8 q0.Tally.Counts,rd eTicketSeason 2 A10 c11 q0.Tickets,rd eTicketShow 3 A13 c14 q0.Shows,rd eTicketBox 4 A16 c17 q0.Boxes,gW0,gW2]:=S75.asP k_
     obtain ⟨_,_,_,_,⟨A105,c106⟩,q123,p124,a125⟩:=hR_ 9 49 rfl (lE rfl) rfl
     replace q123:e_ 49=TU [SL A105 r101.1.length c106,B r101.2]:=q123
     have S_:=St.addL' S_ (a125 _ (.head _)) (fun _ _ _ h_=>(nE h_))
     obtain ⟨_,_,_,_,q122⟩:=hR_ 10 39 rfl (lE rfl) rfl
     replace q122:e_ 39=TU [SL A105 r101.1.length c106,B r101.2]:=(sJ ((congrArg some q123).symm.trans q122)).symm
     obtain ⟨_,_,_,_,q121⟩:=hR_ 11 50 rfl (lE rfl) rfl
     replace q121:e_ 50=SL A105 r101.1.length c106:=(sJ ((congrArg (exG 0) q122).symm.trans q121)).symm
     refine hopE [(50,SL A105 r101.1.length c106)] ⟨q121,trivial⟩ ?_
     refine p_aS rfl<|wp_nil ?_
     exact ⟨_,rfl,S_.keep,rfl⟩
    ·intro e_ w_ k_ hf_ hR_
     have S_:St w_ nF w_ [] [bl b6 [vF (.func 55) #[] #[P b4 0,P b5 0,P b6 0]] 98,bl b5 [I q1] 3,bl b4 (vB q0 A7 c8 A10 c11 A13 c14 A16 c17) 29,rd intE 1 A1 c2 a0,rd eTallyCount 7 A7 c8 q0.Tally.Counts,rd eTicketSeason 2 A10 c11 q0.Tickets,rd eTicketShow 3 A13 c14 q0.Shows,rd eTicketBox 4 A16 c17 q0.Boxes,gW0,gW2]:=S75.asP k_
     obtain ⟨_,_,_,_,⟨A105,c106⟩,q128,p129,a130⟩:=hR_ 9 49 rfl (lE rfl) rfl
     replace q128:e_ 49=TU [SL A105 r101.1.length c106,B r101.2]:=q128
     have S_:=St.addL' S_ (a130 _ (.head _)) (fun _ _ _ h_=>(nE h_))
     obtain ⟨_,_,_,_,q127⟩:=hR_ 10 39 rfl (lE rfl) rfl
     replace q127:e_ 39=TU [SL A105 r101.1.length c106,B r101.2]:=(sJ ((congrArg some q128).symm.trans q127)).symm
     obtain ⟨_,_,_,_,q126⟩:=hR_ 12 51 rfl (lE rfl) rfl
     replace q126:e_ 51=B r101.2:=(sJ ((congrArg (exG 1) q127).symm.trans q126)).symm
     refine hopE [(51,B r101.2)] ⟨q126,trivial⟩ ?_
     refine p_aB rfl<|wp_nil ?_
     exact ⟨_,rfl,S_.keep,rfl⟩
    intro e131 w132 lo133 hi134 k135 hf136 hR137 hd138
    have S139:=S75.call k135
    have q140:e131 40=vF (.func 55) #[] #[P b4 0,P b5 0,P b6 0]:=(hR137 0 40 (lE rfl) rfl).2.2.2
    have q141:e131 41=SL A1 a0.length c2:=(hR137 1 41 (lE rfl) rfl).2.2.2
    have q142:e131 42=I (a0.length:Int):=(hR137 2 42 (lE rfl) rfl).2.2.2
    have q143:e131 43=I (a0.length:Int):=(hR137 3 43 (lE rfl) rfl).2.2.2
    have q144:e131 44=SL A1 a0.length a0.length:=(hR137 4 44 (lE rfl) rfl).2.2.2
    have q145:e131 45=I z_2:=(hR137 5 45 (lE rfl) rfl).2.2.2
    obtain ⟨h147,h148,h149,⟨A81,c82⟩,q146,h150,h151⟩:=hR137 6 46 (lE rfl) rfl
    replace q146:e131 46=SL A81 ([z_2]:List Int).length c82:=q146
    obtain ⟨p152,_⟩:=h150
    obtain ⟨h155,h156,h157,⟨A92,c93⟩,q154,h158,h159⟩:=hR137 7 47 (lE rfl) rfl
    replace q154:e131 47=SL A92 (a0++([z_2]:List Int)).length c93:=q154
    obtain ⟨p160,_⟩:=h158
    have q162:e131 48=I a1:=(hR137 8 48 (lE rfl) rfl).2.2.2
    obtain ⟨h164,h165,h166,⟨A105,c106⟩,q163,h167,h168⟩:=hR137 9 49 (lE rfl) rfl
    replace q163:e131 49=TU [SL A105 r101.1.length c106,B r101.2]:=q163
    obtain ⟨p169,_⟩:=h167
    have q171:Al w74 [rd eTallyCount 7 A7 c8 q0.Tally.Counts,rd eTicketSeason 2 A10 c11 q0.Tickets,rd eTicketShow 3 A13 c14 q0.Shows,rd eTicketBox 4 A16 c17 q0.Boxes] (rd intE 1 A105 c106 r101.1):=BtwV.al p169 h164 (fun b_ h_=>by rw [q154] at h_; exact Nat.le_trans h155 ((p160 b_ (vblk_gr h_)).elim (fun q_=>q_.1) (fun ⟨_,hq_,_⟩=>(List.not_mem_nil hq_).elim)))
    have S170:=St.addR S139 (h168 _ (.head _)) (oQ q171 S75 (mG [4,5,6,7] rfl))
    have q172:e131 39=TU [SL A105 r101.1.length c106,B r101.2]:=(sJ ((congrArg some q163).symm.trans (hR137 10 39 (lE rfl) rfl).2.2.2)).symm
    have q173:e131 50=SL A105 r101.1.length c106:=(sJ ((congrArg (exG 0) q172).symm.trans (hR137 11 50 (lE rfl) rfl).2.2.2)).symm
    have q174:e131 51=B r101.2:=(sJ ((congrArg (exG 1) q172).symm.trans (hR137 12 51 (lE rfl) rfl).2.2.2)).symm
    have q175:e131 12=SL A105 r101.1.length c106:=(sJ ((congrArg some q173).symm.trans (hR137 13 12 (lE rfl) rfl).2.2.2)).symm
    have q176:e131 13=B r101.2:=(hR137 14 13 (lE rfl) rfl).2.2.2
    refine tailE [(0,SL A1 a0.length c2),(1,I a1),(3,P b5 0),(4,P b6 0),(9,I (a0.length:Int)),(11,I z_2),(12,SL A105 r101.1.length c106),(13,B r101.2)] ⟨((hf136 0 rfl).trans (rfl:_=SL A1 a0.length c2)),((hf136 1 rfl).trans (rfl:_=I a1)),((hf136 3 rfl).trans (rfl:_=P b5 0)),((hf136 4 rfl).trans (rfl:_=P b6 0)),((hf136 9 rfl).trans (rfl:_=I (a0.length:Int))),((hf136 11 rfl).trans (rfl:_=I z_2)),q175,q176,trivial⟩ ?_
    intro g177
    refine wp_nil<|c_seq<|reg<|p_mB rfl<|wp_nil ?_
    refine c_cond rfl (fun c178=>?_) (fun c178=>?_)
    ·replace H:=condT c178 H
     refine c_seq<|reg<|p_mS rfl<|p_aS rfl<|p_aB rfl<|wp_nil ?_
     obtain rfl:=sJ H
     refine c_ret ?_; show bodyPostM (Fr none) 0 Tryd.prog Tryd.f55 _ .ret _ _
     refine ret_of (res2 rfl (rvT (rfl:_=SL A105 r101.1.length c106)) (rvT (rfl:_=B true))) ?_
     exact ⟨_,rfl,A105,c106,rfl,S170.keep,⟨(S170.atP (i:=0) rfl),(Al.up q171 S75.keep.size (cA (Al.self (i:=1) rfl) (cA (Al.self (i:=2) rfl) (cA (Al.self (i:=3) rfl) (cA (Al.self (i:=4) rfl) nM)))))⟩,trivial⟩
    ·replace H:=condF c178 H
     refine c_skip<|reg<|p_mI rfl<|p_add rfl rfl<|p_aI rfl<|wp_nil ?_
     have S179:=S170.pk [] (by decide) [1,2,3,4,5,6,7,8,9,10] rfl rfl
     exact ⟨wr (z_2+1),(),_,rfl,⟨rfl,rfl,rfl,rfl,rfl,rfl,trivial⟩,H,S179⟩
   ·replace H:=condF c76 H
    refine c_exit<|c_seq<|reg<|p_aS rfl<|p_aB rfl<|wp_nil ?_
    obtain rfl:=sJ H
    refine c_ret ?_; show bodyPostM (Fr none) 0 Tryd.prog Tryd.f55 _ .ret _ _
    refine ret_of (res2 rfl (rvT (rfl:_=SL none 0 0)) (rvT (rfl:_=B false))) ?_
    exact ⟨_,rfl,none,0,rfl,S75.keep,⟨rd_nil (Nat.zero_le _),Al.nil⟩,trivial⟩
def ticket_Wrong_l2 (a0:TicketBook) (rec_z_1:Int→Option ((List Int)×Int)) (z_1:Int):Option ((List Int)×Int):=
 bif decide (z_1 < (wr ((wr ((a0.Shows.length:Int)+(a0.Boxes.length:Int)))+1))) then ((ticket_Wrong_1 big ([]:List _) z_1 a0 (wr ((a0.Shows.length:Int)+(a0.Boxes.length:Int)))).bind fun r38=>
 bif r38.2 then (some (r38.1,0))
 else (rec_z_1 (wr (z_1+1))))
 else (some (([]:List _),102))
def ticket_Wrong (a0:TicketBook):Option ((List Int)×Int):=
 (ticket_Check a0).bind fun r18=>
 bif (r18 != 0) then (some (([]:List _),r18))
 else (loopF (ticket_Wrong_l2 a0) big 0)
set_option maxRecDepth 100000 in
theorem ticket_Wrong_ok {a0:TicketBook}{A1:Option Addr}{c2:Nat}{A4:Option Addr}{c5:Nat}{A7:Option Addr}{c8:Nat}{A10:Option Addr}{c11:Nat}{w:World}{r:(List Int)×Int} (H:ticket_Wrong a0=some r) (h3:(rd eTallyCount 7 A1 c2 a0.Tally.Counts).ok w) (h6:(rd eTicketSeason 2 A4 c5 a0.Tickets).ok w) (h9:(rd eTicketShow 3 A7 c8 a0.Shows).ok w) (h12:(rd eTicketBox 4 A10 c11 a0.Boxes).ok w) (hg13:(gW0).ok w) (hg14:(gW2).ok w):Calls Tryd.prog 17 #[AG (vB a0 A1 c2 A4 c5 A7 c8 A10 c11)] w fun en w_=>∃ u_,en=.returned u_∧∃ A_1:Option Addr,∃ c_2:Nat,u_=TU [SL A_1 r.1.length c_2,I r.2]∧Keep0 w w_∧((rd intE 1 A_1 c_2 r.1).ok w_∧Al w [rd eTallyCount 7 A1 c2 a0.Tally.Counts,rd eTicketSeason 2 A4 c5 a0.Tickets,rd eTicketShow 3 A7 c8 a0.Shows,rd eTicketBox 4 A10 c11 a0.Boxes] (rd intE 1 A_1 c_2 r.1))∧True:=by
 unfold ticket_Wrong at H
 refine fn_of (n:=42) Tryd.func17 rfl rfl (lE rfl) ?_
 have S:=St.start w nF _ (cA h3 (cA h6 (cA h9 (cA h12 (cA hg13 (cA hg14 nM))))))
 refine c_seq<|reg<|p_boxA rfl S fun b15 w16 S17=>p_aS rfl<|p_aI rfl<|wp_nil<|c_seq<|c_seq<|reg<|p_ldA ty29 sz29 (S17.atX (i:=0) rfl) rfl rfl ?_
 obtain ⟨r18,h19,H⟩:=bindS H
 refine p_cv (ticket_Check_ok h19 (S17.atP (i:=0) rfl) (S17.atP (i:=1) rfl) (S17.atP (i:=2) rfl) (S17.atP (i:=3) rfl)) fu37 rfl S17 fun w20 S21=>p_aI rfl<|wp_nil<|c_seq<|reg<|p_mI rfl<|p_cmp rfl rfl rfl<|wp_nil ?_
 refine c_cond rfl (fun c22=>?_) (fun c22=>?_)
 ·replace H:=condT c22 H
  refine c_seq<|reg<|p_mI rfl<|p_aS rfl<|p_aI rfl<|wp_nil ?_
  obtain rfl:=sJ H
  refine c_ret ?_; show bodyPostM (Fr none) 0 Tryd.prog Tryd.f17 _ .ret _ _
  refine ret_of (res2 rfl (rvT (rfl:_=SL none 0 0)) (rvT (rfl:_=I r18))) ?_
  exact ⟨_,rfl,none,0,rfl,S21.keep,⟨rd_nil (Nat.zero_le _),Al.nil⟩,trivial⟩
 ·replace H:=condF c22 H
  refine c_skip<|c_seq<|reg<|p_fld fl29_3 rfl<|p_ld ty26 (S21.atX (i:=0) rfl) rfl rfl<|p_len rfl sc26<|p_fld fl29_4 rfl<|p_ld ty27 (S21.atX (i:=0) rfl) rfl rfl<|p_len rfl sc27<|p_add rfl rfl<|p_all in3 rfl S21 fun b23 w24 S25=>p_st sz3 S25 (i:=0) rfl rfl (rfl:_=I (wr ((a0.Shows.length:Int)+(a0.Boxes.length:Int)))) rfl rfl fun w26 S27=>wp_nil<|c_seq<|reg<|p_all in98 rfl S27 fun b28 w29 S30=>wp_nil<|c_seq<|reg ?_
  refine o_fun (rfl:_=[]) (rfl:_=[P b15 0,P b23 0,P b28 0]) ?_
  refine p_st sz98 S30 (i:=0) rfl rfl (rfl:_=vF (.func 55) #[] #[P b15 0,P b23 0,P b28 0]) rfl rfl fun w31 S32=>wp_nil<|c_seq<|c_seq<|reg<|p_ld ty3 (S32.atX (i:=1) rfl) rfl rfl<|p_add rfl rfl<|p_mI rfl<|wp_nil<|c_block ?_
  refine c_lop (α:=Int) (β:=Unit) (ticket_Wrong_l2 a0) (fun z_1 y_1=>[(6,P b28 0),(24,I (wr ((wr ((a0.Shows.length:Int)+(a0.Boxes.length:Int)))+1))),(25,I z_1)]) (fun z_1 y_1 w_=>St w nF w_ [bl b28 [vF (.func 55) #[] #[P b15 0,P b23 0,P b28 0]] 98,bl b23 [I (wr ((a0.Shows.length:Int)+(a0.Boxes.length:Int)))] 3,bl b15 (vB a0 A1 c2 A4 c5 A7 c8 A10 c11) 29] [rd eTallyCount 7 A1 c2 a0.Tally.Counts,rd eTicketSeason 2 A4 c5 a0.Tickets,rd eTicketShow 3 A7 c8 a0.Shows,rd eTicketBox 4 A10 c11 a0.Boxes,gW0,gW2]) 0 () H ⟨rfl,rfl,rfl,trivial⟩ S32 ?_
  intro m33 z_1 y_1 e34 w35 H S36
  unfold ticket_Wrong_l2 at H
  refine c_seq<|reg<|p_cmp rfl rfl rfl<|wp_nil<|c_seq ?_
  refine c_cond rfl (fun c37=>?_) (fun c37=>?_)
  ·replace H:=condT c37 H
   refine c_skip<|c_seq<|c_block<|c_seq<|reg<|p_mI rfl<|p_aI rfl<|wp_nil<|c_seq<|reg<|p_ld ty98 (S36.atX (i:=0) rfl) rfl rfl<|p_mI rfl ?_
   obtain ⟨r38,h39,H⟩:=bindS H
   refine p_cal (ticket_Wrong_1_ok h39 (S36.atX (i:=0) rfl) (S36.atX (i:=1) rfl) (S36.atX (i:=2) rfl) (rd_nil (Nat.zero_le _)) (S36.atP (i:=0) rfl) (S36.atP (i:=1) rfl) (S36.atP (i:=2) rfl) (S36.atP (i:=3) rfl) (S36.atP (i:=4) rfl) (S36.atP (i:=5) rfl)) fu55 rfl ?_
   rintro _ w40 ⟨A42,c43,rfl,k41,⟨o44,n45⟩,_⟩
   have S46:=S36.callN k41 [rd intE 1 A42 c43 r38.1] (cA ⟨o44,Al.inL n45 ((cA fp_nil (cA (fp_mem (i:=0) rfl) (cA (fp_mem (i:=1) rfl) (cA (fp_mem (i:=2) rfl) (cA (fp_mem (i:=3) rfl) nM))))))⟩ nM)
   refine p_mT rfl<|p_ext rfl rfl<|p_ext rfl rfl<|p_aS rfl<|p_aB rfl<|wp_nil<|c_seq<|reg<|p_mB rfl<|wp_nil ?_
   refine c_cond rfl (fun c47=>?_) (fun c47=>?_)
   ·replace H:=condT c47 H
    refine c_seq<|reg<|p_mS rfl<|p_mS rfl<|p_len rfl sc30<|p_mS rfl<|p_len rfl sc30<|p_cut3 sc30 (S46.atP (i:=0) rfl) rfl rfl rfl<|p_aS rfl<|p_aI rfl<|wp_nil ?_
    obtain rfl:=sJ H
    refine c_ret ?_; show bodyPostM (Fr none) 0 Tryd.prog Tryd.f17 _ .ret _ _
    refine ret_of (res2 rfl (rvT (rfl:_=SL A42 r38.1.length r38.1.length)) (rvT (rfl:_=I 0))) ?_
    exact ⟨_,rfl,A42,r38.1.length,rfl,S46.keep,⟨(rd_full (S46.atP (i:=0) rfl)),Al.rdr (Al.up n45 S36.keep.size (cA Al.nil (cA (Al.self (i:=0) rfl) (cA (Al.self (i:=1) rfl) (cA (Al.self (i:=2) rfl) (cA (Al.self (i:=3) rfl) nM))))))⟩,trivial⟩
   ·replace H:=condF c47 H
    refine c_skip<|reg<|p_add rfl rfl<|p_mI rfl<|wp_nil ?_
    have S48:=S46.pk [0,1,2] (by decide) [1,2,3,4,5,6] rfl rfl
    exact ⟨wr (z_1+1),(),_,rfl,⟨rfl,rfl,rfl,trivial⟩,H,S48⟩
  ·replace H:=condF c37 H
   refine c_exit<|c_seq<|reg<|p_aS rfl<|p_aI rfl<|wp_nil ?_
   obtain rfl:=sJ H
   refine c_ret ?_; show bodyPostM (Fr none) 0 Tryd.prog Tryd.f17 _ .ret _ _
   refine ret_of (res2 rfl (rvT (rfl:_=SL none 0 0)) (rvT (rfl:_=I 102))) ?_
   exact ⟨_,rfl,none,0,rfl,S36.keep,⟨rd_nil (Nat.zero_le _),Al.nil⟩,trivial⟩
def ticket_Clash_l3 (a0:TicketBook) (z_1:Int) (rec_z_1:Int→Option (Int×Int×Int)) (rec_z_2:Int→Option (Int×Int×Int)) (z_2:Int):Option (Int×Int×Int):=
 bif decide (z_2 < (a0.Shows.length:Int)) then ((getI a0.Shows z_1).bind fun r31=>
 (getI a0.Shows z_2).bind fun r33=>
 (ticket_clash r31 r33).bind fun r35=>
 bif r35 then (some (z_1,z_2,0))
 else (rec_z_2 (wr (z_2+1))))
 else (rec_z_1 (wr (z_1+1)))
def ticket_Clash_l4 (a0:TicketBook) (rec_z_1:Int→Option (Int×Int×Int)) (z_1:Int):Option (Int×Int×Int):=
 bif decide (z_1 < (a0.Shows.length:Int)) then (loopF (ticket_Clash_l3 a0 z_1 rec_z_1) big (wr (z_1+1)))
 else (some (0,0,4))
def ticket_Clash (a0:TicketBook):Option (Int×Int×Int):=
 (ticket_Check a0).bind fun r16=>
 bif (r16 != 0) then (some (0,0,r16))
 else (loopF (ticket_Clash_l4 a0) big 0)
set_option maxRecDepth 100000 in
theorem ticket_Clash_ok {a0:TicketBook}{A1:Option Addr}{c2:Nat}{A4:Option Addr}{c5:Nat}{A7:Option Addr}{c8:Nat}{A10:Option Addr}{c11:Nat}{w:World}{r:Int×Int×Int} (H:ticket_Clash a0=some r) (h3:(rd eTallyCount 7 A1 c2 a0.Tally.Counts).ok w) (h6:(rd eTicketSeason 2 A4 c5 a0.Tickets).ok w) (h9:(rd eTicketShow 3 A7 c8 a0.Shows).ok w) (h12:(rd eTicketBox 4 A10 c11 a0.Boxes).ok w):Calls Tryd.prog 18 #[AG (vB a0 A1 c2 A4 c5 A7 c8 A10 c11)] w (RetV w (TU [I r.1,I r.2.1,I r.2.2])):=by
 unfold ticket_Clash at H
 refine fn_of (n:=42) Tryd.func18 rfl rfl (lE rfl) ?_
 have S:=St.start w nF _ (cA h3 (cA h6 (cA h9 (cA h12 nM))))
 refine c_seq<|reg<|p_boxA rfl S fun b13 w14 S15=>p_aI rfl<|p_aI rfl<|p_aI rfl<|wp_nil<|c_seq<|c_seq<|reg<|p_ldA ty29 sz29 (S15.atX (i:=0) rfl) rfl rfl ?_
 obtain ⟨r16,h17,H⟩:=bindS H
 refine p_cv (ticket_Check_ok h17 (S15.atP (i:=0) rfl) (S15.atP (i:=1) rfl) (S15.atP (i:=2) rfl) (S15.atP (i:=3) rfl)) fu37 rfl S15 fun w18 S19=>p_aI rfl<|wp_nil<|c_seq<|reg<|p_mI rfl<|p_cmp rfl rfl rfl<|wp_nil ?_
 refine c_cond rfl (fun c20=>?_) (fun c20=>?_)
 ·replace H:=condT c20 H
  refine c_seq<|reg<|p_mI rfl<|p_aI rfl<|p_aI rfl<|p_aI rfl<|wp_nil ?_
  obtain rfl:=sJ H
  refine c_ret ?_; show bodyPostM (Fr none) 0 Tryd.prog Tryd.f18 _ .ret _ _
  refine ret_of (res3 rfl (rvT (rfl:_=I 0)) (rvT (rfl:_=I 0)) (rvT (rfl:_=I r16))) ?_
  exact ⟨_,rfl,rfl,S19.keep⟩
 ·replace H:=condF c20 H
  refine c_skip<|c_seq<|c_seq<|reg<|p_fld fl29_3 rfl<|p_ld ty26 (S19.atX (i:=0) rfl) rfl rfl<|p_len rfl sc26<|p_mI rfl<|wp_nil<|c_block ?_
  refine c_lop (α:=Int) (β:=Unit) (ticket_Clash_l4 a0) (fun z_1 y_1=>[(1,P b13 0),(15,I (a0.Shows.length:Int)),(16,I z_1)]) (fun z_1 y_1 w_=>St w nF w_ [bl b13 (vB a0 A1 c2 A4 c5 A7 c8 A10 c11) 29] [rd eTallyCount 7 A1 c2 a0.Tally.Counts,rd eTicketSeason 2 A4 c5 a0.Tickets,rd eTicketShow 3 A7 c8 a0.Shows,rd eTicketBox 4 A10 c11 a0.Boxes]) 0 () H ⟨rfl,rfl,rfl,trivial⟩ S19 ?_
  intro m21 z_1 y_1 e22 w23 H S24
  unfold ticket_Clash_l4 at H
  refine c_seq<|reg<|p_cmp rfl rfl rfl<|wp_nil<|c_seq ?_
  refine c_cond rfl (fun c25=>?_) (fun c25=>?_)
  ·replace H:=condT c25 H
   refine c_skip<|c_seq<|c_block<|c_seq<|reg<|p_mI rfl<|p_aI rfl<|wp_nil<|c_seq<|reg<|p_mI rfl<|p_add rfl rfl<|p_aI rfl<|wp_nil<|c_block ?_
   refine c_lop (α:=Int) (β:=Unit) (ticket_Clash_l3 a0 z_1 (loopF (ticket_Clash_l4 a0) m21)) (fun z_2 y_2=>[(1,P b13 0),(6,I z_1),(7,I z_2),(15,I (a0.Shows.length:Int)),(16,I z_1)]) (fun z_2 y_2 w_=>St w nF w_ [bl b13 (vB a0 A1 c2 A4 c5 A7 c8 A10 c11) 29] [rd eTallyCount 7 A1 c2 a0.Tally.Counts,rd eTicketSeason 2 A4 c5 a0.Tickets,rd eTicketShow 3 A7 c8 a0.Shows,rd eTicketBox 4 A10 c11 a0.Boxes]) (wr (z_1+1)) () H ⟨rfl,rfl,rfl,rfl,rfl,trivial⟩ S24 ?_
   intro m26 z_2 y_2 e27 w28 H S29
   unfold ticket_Clash_l3 at H
   refine c_seq<|c_seq<|reg<|p_mI rfl<|p_fld fl29_3 rfl<|p_ld ty26 (S29.atX (i:=0) rfl) rfl rfl<|p_len rfl sc26<|p_cmp rfl rfl rfl<|wp_nil ?_
   refine c_cond rfl (fun c30=>?_) (fun c30=>?_)
   ·replace H:=condT c30 H
    refine c_skip<|c_seq<|c_block<|c_seq ?_
    obtain ⟨r31,h32,H⟩:=bindS H
    obtain ⟨r33,h34,H⟩:=bindS H
    obtain ⟨r35,h36,H⟩:=bindS H
    refine reg_q mixed 11 (by kernel_rfl) ?_
    refine dS (fun _ k_=>p_fld fl29_3 rfl dn)<|dS (fun _ k_=>p_ld ty26 (aS (S29.atX (i:=0) rfl) k_) rfl rfl dn)<|dS (fun _ k_=>p_mI rfl dn)<|dS (fun _ k_=>p_ixE sc26 h32 (aS (S29.atP (i:=2) rfl) k_).1 rfl rfl rfl dn)<|dS (fun _ k_=>p_ldEA ty67 sz67 rfl h32 (aS (S29.atP (i:=2) rfl) k_).1 rfl dn)<|dS (fun _ k_=>p_fld fl29_3 rfl dn) ?_
    refine dS (fun _ k_=>p_ld ty26 (aS (S29.atX (i:=0) rfl) k_) rfl rfl dn)<|dS (fun _ k_=>p_mI rfl dn)<|dS (fun _ k_=>p_ixE sc26 h34 (aS (S29.atP (i:=2) rfl) k_).1 rfl rfl rfl dn)<|dS (fun _ k_=>p_ldEA ty67 sz67 rfl h34 (aS (S29.atP (i:=2) rfl) k_).1 rfl dn)<|dS (fun _ k_=>p_cvD (ticket_clash_ok h36) fu57 rfl) ?_
    intro w37 k38; have S39:=S29.call k38
    refine wp_nil ?_
    refine c_cond rfl (fun c40=>?_) (fun c40=>?_)
    ·replace H:=condT c40 H
     refine c_seq<|reg<|p_mI rfl<|p_mI rfl<|p_aI rfl<|p_aI rfl<|p_aI rfl<|wp_nil ?_
     obtain rfl:=sJ H
     refine c_ret ?_; show bodyPostM (Fr none) 0 Tryd.prog Tryd.f18 _ .ret _ _
     refine ret_of (res3 rfl (rvT (rfl:_=I z_1)) (rvT (rfl:_=I z_2)) (rvT (rfl:_=I 0))) ?_
     exact ⟨_,rfl,rfl,S39.keep⟩
    ·replace H:=condF c40 H
     refine c_skip<|reg<|p_mI rfl<|p_add rfl rfl<|p_aI rfl<|wp_nil ?_
     exact ⟨wr (z_2+1),(),_,rfl,⟨rfl,rfl,rfl,rfl,rfl,trivial⟩,H,S39⟩
   ·replace H:=condF c30 H
    refine c_exit<|reg<|p_add rfl rfl<|p_mI rfl<|wp_nil ?_
    exact ⟨wr (z_1+1),(),_,rfl,⟨rfl,rfl,rfl,trivial⟩,H,S29⟩
  ·replace H:=condF c25 H
   refine c_exit<|c_seq<|reg<|p_aI rfl<|p_aI rfl<|p_aI rfl<|wp_nil ?_
   obtain rfl:=sJ H
   refine c_ret ?_; show bodyPostM (Fr none) 0 Tryd.prog Tryd.f18 _ .ret _ _
   refine ret_of (res3 rfl (rvT (rfl:_=I 0)) (rvT (rfl:_=I 0)) (rvT (rfl:_=I 4))) ?_
   exact ⟨_,rfl,rfl,S24.keep⟩
structure Span where
 Low:Int
 High:Int
 deriving DecidableEq,Inhabited
def B_Range (a0:Int) (a1:Int):Option Span:=
 some (Span.mk a0 a1)
set_option maxRecDepth 100000 in
theorem B_Range_ok {a0:Int}{a1:Int}{w:World}{r:Span} (H:B_Range a0 a1=some r):Calls Tryd.prog 21 #[I a0,I a1] w (RetV w (AG [I r.Low,I r.High])):=by
 unfold B_Range at H
 refine fn_of (n:=8) Tryd.func21 rfl rfl (lE rfl) ?_
 have S:=St.start w nF _ nM
 refine c_seq<|reg<|p_allA in49 S fun b1 w2 S3=>wp_nil<|c_seq<|reg<|p_mI rfl<|p_mI rfl<|p_bld (cs:=[I a0,I a1]) st49 (rfl:_=[(0,I a0),(1,I a1)]) (by kernel_rfl)<|p_stP (pre:=[]) (old:=[I 0,I 0]) (post:=[]) (vs:=[I a0,I a1]) sz49 S3 (i:=0) rfl rfl rfl rfl (rfl:_=AG [I a0,I a1]) rfl rfl rfl rfl fun w4 S5=>wp_nil ?_
 obtain rfl:=sJ H
 refine c_ret ?_; show bodyPostM (Fr none) 0 Tryd.prog Tryd.f21 _ .ret _ _
 refine ret_of (res1 rfl (rvA rfl ty49 sz49 (S5.atX (i:=0) rfl) rfl)) ?_
 exact ⟨_,rfl,rfl,S5.keep⟩
def ticket_asked (a0:TicketBook) (a1:Bool):Option (Ticket_book×Int):=
 (ticket_Check a0).bind fun r21=>
 bif (r21 != 0) then (some ((Ticket_book.mk (TicketBook.mk (TallyBook.mk 0 0 ([]:List TallyCount)) 0 ([]:List TicketSeason) ([]:List TicketShow) ([]:List TicketBox)) (List.replicate 3 0) ([]:List (Ticket_seat×Int))),r21))
 else (bif !a1 then (some ((Ticket_book.mk (TicketBook.mk (TallyBook.mk 0 0 ([]:List TallyCount)) 0 ([]:List TicketSeason) ([]:List TicketShow) ([]:List TicketBox)) (List.replicate 3 0) ([]:List (Ticket_seat×Int))),101))
 else ((ticket_nothing).bind fun r31=>
 (ticket_opened a0 (Ticket_choice.mk (fun y37=>ticket_nothing_1 y37))).bind fun r38=>
 (ticket_book_isTrue (Ticket_book.mk (TicketBook.mk (TallyBook.mk r38.TicketBook.Tally.Trips r38.TicketBook.Tally.Room a0.Tally.Counts) r38.TicketBook.Fare a0.Tickets r38.TicketBook.Shows r38.TicketBook.Boxes) r38.shown_ r38.by_)).bind fun r92=>
 bif !r92 then (some ((Ticket_book.mk (TicketBook.mk (TallyBook.mk r38.TicketBook.Tally.Trips r38.TicketBook.Tally.Room a0.Tally.Counts) r38.TicketBook.Fare a0.Tickets r38.TicketBook.Shows r38.TicketBook.Boxes) r38.shown_ r38.by_),102))
 else (some ((Ticket_book.mk (TicketBook.mk (TallyBook.mk r38.TicketBook.Tally.Trips r38.TicketBook.Tally.Room a0.Tally.Counts) r38.TicketBook.Fare a0.Tickets r38.TicketBook.Shows r38.TicketBook.Boxes) r38.shown_ r38.by_),0))))
set_option maxRecDepth 100000 in
theorem ticket_asked_ok {a0:TicketBook}{a1:Bool}{A1:Option Addr}{c2:Nat}{A4:Option Addr}{c5:Nat}{A7:Option Addr}{c8:Nat}{A10:Option Addr}{c11:Nat}{w:World}{r:Ticket_book×Int} (H:ticket_asked a0 a1=some r) (h3:(rd eTallyCount 7 A1 c2 a0.Tally.Counts).ok w) (h6:(rd eTicketSeason 2 A4 c5 a0.Tickets).ok w) (h9:(rd eTicketShow 3 A7 c8 a0.Shows).ok w) (h12:(rd eTicketBox 4 A10 c11 a0.Boxes).ok w) (hg13:(gW0).ok w) (hg14:(gW2).ok w):Calls Tryd.prog 58 #[AG (vB a0 A1 c2 A4 c5 A7 c8 A10 c11),B a1] w fun en w_=>∃ u_,en=.returned u_∧∃ A_1:Option Addr,∃ c_2:Nat,∃ A_3:Option Addr,∃ c_4:Nat,∃ A_5:Option Addr,∃ c_6:Nat,∃ A_7:Option Addr,∃ c_8:Nat,∃ m_9:Option Nat,u_=TU [AG ((vB r.1.TicketBook A_1 c_2 A_3 c_4 A_5 c_6 A_7 c_8)++(sg r.1.shown_ 3++[Value.map m_9])),I r.2]∧Keep0 w w_∧((rd eTallyCount 7 A_1 c_2 r.1.TicketBook.Tally.Counts).ok w_∧Al w [rd eTallyCount 7 A1 c2 a0.Tally.Counts,rd eTicketSeason 2 A4 c5 a0.Tickets,rd eTicketShow 3 A7 c8 a0.Shows,rd eTicketBox 4 A10 c11 a0.Boxes] (rd eTallyCount 7 A_1 c_2 r.1.TicketBook.Tally.Counts))∧((rd eTicketSeason 2 A_3 c_4 r.1.TicketBook.Tickets).ok w_∧Al w [rd eTallyCount 7 A1 c2 a0.Tally.Counts,rd eTicketSeason 2 A4 c5 a0.Tickets,rd eTicketShow 3 A7 c8 a0.Shows,rd eTicketBox 4 A10 c11 a0.Boxes] (rd eTicketSeason 2 A_3 c_4 r.1.TicketBook.Tickets))∧((rd eTicketShow 3 A_5 c_6 r.1.TicketBook.Shows).ok w_∧New w.heap.size (rd eTicketShow 3 A_5 c_6 r.1.TicketBook.Shows))∧((rd eTicketBox 4 A_7 c_8 r.1.TicketBook.Boxes).ok w_∧New w.heap.size (rd eTicketBox 4 A_7 c_8 r.1.TicketBook.Boxes))∧((mpo ekS iE m_9 r.1.by_).ok w_∧New w.heap.size (mpo ekS iE m_9 r.1.by_))∧True:=by
 unfold ticket_asked at H
 refine fn_of (n:=25) Tryd.func58 rfl rfl (lE rfl) ?_
 have S:=St.start w nF _ (cA h3 (cA h6 (cA h9 (cA h12 (cA hg13 (cA hg14 nM))))))
 refine c_seq<|reg<|p_boxA rfl S fun b15 w16 S17=>p_allA in92 S17 fun b18 w19 S20=>p_aI rfl<|wp_nil<|c_seq<|c_seq<|reg<|p_ldA ty29 sz29 (S20.atX (i:=1) rfl) rfl rfl ?_
 obtain ⟨r21,h22,H⟩:=bindS H
 refine p_cv (ticket_Check_ok h22 (S20.atP (i:=0) rfl) (S20.atP (i:=1) rfl) (S20.atP (i:=2) rfl) (S20.atP (i:=3) rfl)) fu37 rfl S20 fun w23 S24=>p_aI rfl<|wp_nil<|c_seq<|reg<|p_mI rfl<|p_cmp rfl rfl rfl<|wp_nil ?_
 refine c_cond rfl (fun c25=>?_) (fun c25=>?_)
 ·replace H:=condT c25 H
  refine c_seq<|reg<|p_bld (cs:=[I 0,I 0,SL none 0 0,I 0,SL none 0 0,SL none 0 0,SL none 0 0]++(sg (List.replicate 3 0) 3++[Value.map none])) st92 (rfl:_=[]) (by kernel_rfl)<|p_mI rfl ?_
  refine p_stP (pre:=[]) (old:=[I 0,I 0,SL none 0 0,I 0,SL none 0 0,SL none 0 0,SL none 0 0]++(sg (List.replicate 3 0) 3++[Value.map none])) (post:=[]) (vs:=[I 0,I 0,SL none 0 0,I 0,SL none 0 0,SL none 0 0,SL none 0 0]++(sg (List.replicate 3 0) 3++[Value.map none])) sz92 S24 (i:=0) rfl rfl rfl rfl (rfl:_=AG ([I 0,I 0,SL none 0 0,I 0,SL none 0 0,SL none 0 0,SL none 0 0]++(sg (List.replicate 3 0) 3++[Value.map none]))) rfl rfl rfl rfl fun w26 S27=>?_
  refine p_aI rfl<|wp_nil ?_
  obtain rfl:=sJ H
  refine c_ret ?_; show bodyPostM (Fr none) 0 Tryd.prog Tryd.f58 _ .ret _ _
  refine ret_of (res2 rfl (rvA rfl ty92 sz92 (S27.atX (i:=0) rfl) rfl) (rvT (rfl:_=I r21))) ?_
  exact ⟨_,rfl,none,0,none,0,none,0,none,0,none,rfl,S27.keep,⟨rd_nil (Nat.zero_le _),Al.nil⟩,⟨rd_nil (Nat.zero_le _),Al.nil⟩,⟨rd_nil (Nat.zero_le _),New.nil⟩,⟨rd_nil (Nat.zero_le _),New.nil⟩,⟨mpo_none,New.mpoN⟩,trivial⟩
 ·replace H:=condF c25 H
  refine c_skip<|c_seq<|c_seq<|reg<|p_mB rfl<|p_not rfl<|wp_nil ?_
  refine c_cond rfl (fun c28=>?_) (fun c28=>?_)
  ·replace H:=condT c28 H
   refine c_seq<|reg<|p_bld (cs:=[I 0,I 0,SL none 0 0,I 0,SL none 0 0,SL none 0 0,SL none 0 0]++(sg (List.replicate 3 0) 3++[Value.map none])) st92 (rfl:_=[]) (by kernel_rfl) ?_
   refine p_stP (pre:=[]) (old:=[I 0,I 0,SL none 0 0,I 0,SL none 0 0,SL none 0 0,SL none 0 0]++(sg (List.replicate 3 0) 3++[Value.map none])) (post:=[]) (vs:=[I 0,I 0,SL none 0 0,I 0,SL none 0 0,SL none 0 0,SL none 0 0]++(sg (List.replicate 3 0) 3++[Value.map none])) sz92 S24 (i:=0) rfl rfl rfl rfl (rfl:_=AG ([I 0,I 0,SL none 0 0,I 0,SL none 0 0,SL none 0 0,SL none 0 0]++(sg (List.replicate 3 0) 3++[Value.map none]))) rfl rfl rfl rfl fun w29 S30=>?_
   refine p_aI rfl<|wp_nil ?_
   obtain rfl:=sJ H
   refine c_ret ?_; show bodyPostM (Fr none) 0 Tryd.prog Tryd.f58 _ .ret _ _
   refine ret_of (res2 rfl (rvA rfl ty92 sz92 (S30.atX (i:=0) rfl) rfl) (rvT (rfl:_=I 101))) ?_
   exact ⟨_,rfl,none,0,none,0,none,0,none,0,none,rfl,S30.keep,⟨rd_nil (Nat.zero_le _),Al.nil⟩,⟨rd_nil (Nat.zero_le _),Al.nil⟩,⟨rd_nil (Nat.zero_le _),New.nil⟩,⟨rd_nil (Nat.zero_le _),New.nil⟩,⟨mpo_none,New.mpoN⟩,trivial⟩
  ·replace H:=condF c28 H
   refine c_skip<|c_seq ?_
   obtain ⟨r31,h32,H⟩:=bindS H
   obtain ⟨r38,h39,H⟩:=bindS H
   refine reg_any mixed 4 (by kernel_rfl) [rv (AG (vB a0 A1 c2 A4 c5 A7 c8 A10 c11)),rv (AG [vF (.func 82) #[] #[]]),rx (α:=(Option Addr)×Nat×(Option Addr)×Nat×Nat) (fun ⟨A42,c43,A44,c45,m46⟩=>AG ([I r38.TicketBook.Tally.Trips,I r38.TicketBook.Tally.Room,SL A1 a0.Tally.Counts.length c2,I r38.TicketBook.Fare,SL A4 a0.Tickets.length c5,SL A42 r38.TicketBook.Shows.length c43,SL A44 r38.TicketBook.Boxes.length c45]++(sg r38.shown_ 3++[Value.map (some m46)]))) (fun ⟨A42,c43,A44,c45,m46⟩ lo hi=>BtwL lo hi [] (rd eTicketShow 3 A42 c43 r38.TicketBook.Shows)∧BtwL lo hi [] (rd eTicketBox 4 A44 c45 r38.TicketBook.Boxes)∧BtwL lo hi [] (mp ekS iE m46 r38.by_)∧True) (fun ⟨A42,c43,A44,c45,m46⟩=>[rd eTicketShow 3 A42 c43 r38.TicketBook.Shows,rd eTicketBox 4 A44 c45 r38.TicketBook.Boxes,mp ekS iE m46 r38.by_]),rx (α:=Nat) (fun b54=>P b54 0) (fun b54 lo hi=>BtwL lo hi [] (bl b54 ([I 0,I 0,SL none 0 0,I 0,SL none 0 0,SL none 0 0,SL none 0 0]++(sg (List.replicate 3 0) 3++[Value.map none])) 92)∧True) (fun b54=>[bl b54 ([I 0,I 0,SL none 0 0,I 0,SL none 0 0,SL none 0 0,SL none 0 0]++(sg (List.replicate 3 0) 3++[Value.map none])) 92])] [[],[],[],[]] rfl (by kernel_rfl) [[],[],[0,1],[],[0,1,2,3]] (by kernel_rfl) ⟨?_,?_,?_,?_,trivial⟩ ?_
   ·intro e_ w_ k_ hf_ hR_
    have S_:St w_ nF w_ [] [bl b18 ([I 0,I 0,SL none 0 0,I 0,SL none 0 0,SL none 0 0,SL none 0 0]++(sg (List.replicate 3 0) 3++[Value.map none])) 92,bl b15 (vB a0 A1 c2 A4 c5 A7 c8 A10 c11) 29,rd eTallyCount 7 A1 c2 a0.Tally.Counts,rd eTicketSeason 2 A4 c5 a0.Tickets,rd eTicketShow 3 A7 c8 a0.Shows,rd eTicketBox 4 A10 c11 a0.Boxes,gW0,gW2]:=S24.asP k_
    refine hopE [(2,P b15 0)] ⟨((hf_ 2 rfl).trans (rfl:_=P b15 0)),trivial⟩ ?_
    exact p_ldA ty29 sz29 (S_.atP (i:=1) rfl) rfl rfl<|wp_nil ⟨_,rfl,S_.keep,rfl⟩
   ·intro e_ w_ k_ hf_ hR_
    have S_:St w_ nF w_ [] [bl b18 ([I 0,I 0,SL none 0 0,I 0,SL none 0 0,SL none 0 0,SL none 0 0]++(sg (List.replicate 3 0) 3++[Value.map none])) 92,bl b15 (vB a0 A1 c2 A4 c5 A7 c8 A10 c11) 29,rd eTallyCount 7 A1 c2 a0.Tally.Counts,rd eTicketSeason 2 A4 c5 a0.Tickets,rd eTicketShow 3 A7 c8 a0.Shows,rd eTicketBox 4 A10 c11 a0.Boxes,gW0,gW2]:=S24.asP k_
    refine hopE [] trivial ?_
    refine p_cv (ticket_nothing_ok h32) fu53 rfl S_ fun w33 S34=>wp_nil ?_
    exact ⟨_,rfl,S34.keep,rfl⟩
   ·intro e_ w_ k_ hf_ hR_
    have S_:St w_ nF w_ [] [bl b18 ([I 0,I 0,SL none 0 0,I 0,SL none 0 0,SL none 0 0,SL none 0 0]++(sg (List.replicate 3 0) 3++[Value.map none])) 92,bl b15 (vB a0 A1 c2 A4 c5 A7 c8 A10 c11) 29,rd eTallyCount 7 A1 c2 a0.Tally.Counts,rd eTicketSeason 2 A4 c5 a0.Tickets,rd eTicketShow 3 A7 c8 a0.Shows,rd eTicketBox 4 A10 c11 a0.Boxes,gW0,gW2]:=S24.asP k_
    refine hopE [(17,AG (vB a0 A1 c2 A4 c5 A7 c8 A10 c11)),(18,AG [vF (.func 82) #[] #[]])] ⟨rQ (hR_ 0 17 rfl (lE rfl) rfl),rQ (hR_ 1 18 rfl (lE rfl) rfl),trivial⟩ ?_
    refine p_cal (ticket_opened_ok h39 (S_.atP (i:=2) rfl) (S_.atP (i:=3) rfl) (S_.atP (i:=4) rfl) (S_.atP (i:=5) rfl) (by kernel_rfl) (fun _ _ _ k_ hr_=>ticket_nothing_1_ok hr_) (S_.atP (i:=6) rfl)) fu52 rfl ?_
    rintro _ w40 ⟨A42,c43,A44,c45,m46,rfl,k41,⟨o47,n48⟩,⟨o49,n50⟩,⟨o51,n52⟩,_⟩
    have S53:=S_.callN k41 [rd eTicketShow 3 A42 c43 r38.TicketBook.Shows,rd eTicketBox 4 A44 c45 r38.TicketBook.Boxes,mp ekS iE m46 r38.by_] (cA ⟨o47,New.inL n48⟩ (cA ⟨o49,New.inL n50⟩ (cA ⟨o51,New.inL n52⟩ nM)))
    exact wp_nil ⟨_,rfl,S53.keep,⟨(A42,c43,A44,c45,m46),rfl,⟨bL (New.al (New.mono n48 S_.keep.size)) rfl (S53.atP (i:=0) rfl) rfl,bL (New.al (New.mono n50 S_.keep.size)) rfl (S53.atP (i:=1) rfl) rfl,bL (New.al (New.mono n52 S_.keep.size)) rfl (S53.atP (i:=2) rfl) rfl,trivial⟩,(cA (S53.atP (i:=0) rfl) (cA (S53.atP (i:=1) rfl) (cA (S53.atP (i:=2) rfl) nM)))⟩⟩
   ·intro e_ w_ k_ hf_ hR_
    have S_:St w_ nF w_ [] [bl b18 ([I 0,I 0,SL none 0 0,I 0,SL none 0 0,SL none 0 0,SL none 0 0]++(sg (List.replicate 3 0) 3++[Value.map none])) 92,bl b15 (vB a0 A1 c2 A4 c5 A7 c8 A10 c11) 29,rd eTallyCount 7 A1 c2 a0.Tally.Counts,rd eTicketSeason 2 A4 c5 a0.Tickets,rd eTicketShow 3 A7 c8 a0.Shows,rd eTicketBox 4 A10 c11 a0.Boxes,gW0,gW2]:=S24.asP k_
    refine hopE [] trivial ?_
    refine p_allA in92 S_ fun b54 w55 S56=>wp_nil ?_
    exact ⟨_,rfl,S56.keep,⟨b54,rfl,⟨bL (New.al (S56.newX (i:=0) rfl)) rfl (S56.atX (i:=0) rfl) rfl,trivial⟩,(cA (S56.atX (i:=0) rfl) nM)⟩⟩
   intro e57 w58 lo59 hi60 k61 hf62 hR63 hd64
   have S65:=S24.call k61
   have q66:e57 17=AG (vB a0 A1 c2 A4 c5 A7 c8 A10 c11):=(hR63 0 17 (lE rfl) rfl).2.2.2
   have q67:e57 18=AG [vF (.func 82) #[] #[]]:=(hR63 1 18 (lE rfl) rfl).2.2.2
   obtain ⟨h69,h70,h71,⟨A42,c43,A44,c45,m46⟩,q68,h72,h73⟩:=hR63 2 19 (lE rfl) rfl
   replace q68:e57 19=AG ([I r38.TicketBook.Tally.Trips,I r38.TicketBook.Tally.Room,SL A1 a0.Tally.Counts.length c2,I r38.TicketBook.Fare,SL A4 a0.Tickets.length c5,SL A42 r38.TicketBook.Shows.length c43,SL A44 r38.TicketBook.Boxes.length c45]++(sg r38.shown_ 3++[Value.map (some m46)])):=q68
   obtain ⟨p74,p75,p76,_⟩:=h72
   have S77:=St.addR S65 (h73 _ (.head _)) (oR p74 h69 S24 (nM))
   have S78:=St.addR S77 (h73 _ (.tail _ (.head _))) (oR p75 h69 S24 (nM))
   have S79:=St.addR S78 (h73 _ (.tail _ (.tail _ (.head _)))) (oR p76 h69 S24 (nM))
   obtain ⟨h81,h82,h83,b54,q80,h84,h85⟩:=hR63 3 7 (lE rfl) rfl
   replace q80:e57 7=P b54 0:=q80
   obtain ⟨p86,_⟩:=h84
   have S88:=St.addO S79 (h85 _ (.head _)) (oN p86 h81 S24) (oX p86 h81 S24) (cA (oP p86 p76 h81 S24 (nM) (hd64 3 2 (lE rfl) (lE rfl) (by decide))) (cA (oP p86 p75 h81 S24 (nM) (hd64 3 2 (lE rfl) (lE rfl) (by decide))) (cA (oP p86 p74 h81 S24 (nM) (hd64 3 2 (lE rfl) (lE rfl) (by decide))) (oL p86 h81 S24))))
   refine tailE [(4,P b18 0),(7,P b54 0),(19,AG ([I r38.TicketBook.Tally.Trips,I r38.TicketBook.Tally.Room,SL A1 a0.Tally.Counts.length c2,I r38.TicketBook.Fare,SL A4 a0.Tickets.length c5,SL A42 r38.TicketBook.Shows.length c43,SL A44 r38.TicketBook.Boxes.length c45]++(sg r38.shown_ 3++[Value.map (some m46)])))] ⟨((hf62 4 rfl).trans (rfl:_=P b18 0)),q80,q68,trivial⟩ ?_
   intro g89
   refine p_stP (pre:=[]) (old:=[I 0,I 0,SL none 0 0,I 0,SL none 0 0,SL none 0 0,SL none 0 0]++(sg (List.replicate 3 0) 3++[Value.map none])) (post:=[]) (vs:=[I r38.TicketBook.Tally.Trips,I r38.TicketBook.Tally.Room,SL A1 a0.Tally.Counts.length c2,I r38.TicketBook.Fare,SL A4 a0.Tickets.length c5,SL A42 r38.TicketBook.Shows.length c43,SL A44 r38.TicketBook.Boxes.length c45]++(sg r38.shown_ 3++[Value.map (some m46)])) sz92 S88 (i:=0) rfl rfl rfl rfl (rfl:_=AG ([I r38.TicketBook.Tally.Trips,I r38.TicketBook.Tally.Room,SL A1 a0.Tally.Counts.length c2,I r38.TicketBook.Fare,SL A4 a0.Tickets.length c5,SL A42 r38.TicketBook.Shows.length c43,SL A44 r38.TicketBook.Boxes.length c45]++(sg r38.shown_ 3++[Value.map (some m46)]))) rfl rfl rfl rfl fun w90 S91=>?_
   refine wp_nil<|c_seq<|c_seq<|reg<|p_ldA ty92 sz92 (S91.atX (i:=0) rfl) rfl rfl ?_
   obtain ⟨r92,h93,H⟩:=bindS H
   refine p_cv (ticket_book_isTrue_ok h93 (S91.atP (i:=3) rfl) (S91.atP (i:=4) rfl) (S91.atP (i:=2) rfl) (S91.atP (i:=1) rfl) (mpo_some (S91.atP (i:=0) rfl)) (S91.atP (i:=7) rfl) (S91.atP (i:=8) rfl)) fu54 rfl S91 fun w94 S95=>p_not rfl<|wp_nil ?_
   refine c_cond rfl (fun c96=>?_) (fun c96=>?_)
   ·replace H:=condT c96 H
    refine c_seq<|reg<|p_ldA ty92 sz92 (S95.atX (i:=0) rfl) rfl rfl ?_
    refine p_stP (pre:=[]) (old:=[I 0,I 0,SL none 0 0,I 0,SL none 0 0,SL none 0 0,SL none 0 0]++(sg (List.replicate 3 0) 3++[Value.map none])) (post:=[]) (vs:=[I r38.TicketBook.Tally.Trips,I r38.TicketBook.Tally.Room,SL A1 a0.Tally.Counts.length c2,I r38.TicketBook.Fare,SL A4 a0.Tickets.length c5,SL A42 r38.TicketBook.Shows.length c43,SL A44 r38.TicketBook.Boxes.length c45]++(sg r38.shown_ 3++[Value.map (some m46)])) sz92 S95 (i:=1) rfl rfl rfl rfl (rfl:_=AG ([I r38.TicketBook.Tally.Trips,I r38.TicketBook.Tally.Room,SL A1 a0.Tally.Counts.length c2,I r38.TicketBook.Fare,SL A4 a0.Tickets.length c5,SL A42 r38.TicketBook.Shows.length c43,SL A44 r38.TicketBook.Boxes.length c45]++(sg r38.shown_ 3++[Value.map (some m46)]))) rfl rfl rfl rfl fun w97 S98=>?_
    refine p_aI rfl<|wp_nil ?_
    obtain rfl:=sJ H
    refine c_ret ?_; show bodyPostM (Fr none) 0 Tryd.prog Tryd.f58 _ .ret _ _
    refine ret_of (res2 rfl (rvA rfl ty92 sz92 (S98.atX (i:=1) rfl) rfl) (rvT (rfl:_=I 102))) ?_
    exact ⟨_,rfl,A1,c2,A4,c5,A42,c43,A44,c45,(some m46),rfl,S98.keep,⟨(S98.atP (i:=3) rfl),Al.self (i:=0) rfl⟩,⟨(S98.atP (i:=4) rfl),Al.self (i:=1) rfl⟩,⟨(S98.atP (i:=2) rfl),(oN p74 h69 S24)⟩,⟨(S98.atP (i:=1) rfl),(oN p75 h69 S24)⟩,⟨mpo_some (S98.atP (i:=0) rfl),New.mpoS (oN p76 h69 S24)⟩,trivial⟩
   ·replace H:=condF c96 H
    refine c_skip<|c_seq<|reg<|p_ldA ty92 sz92 (S95.atX (i:=0) rfl) rfl rfl ?_
    refine p_stP (pre:=[]) (old:=[I 0,I 0,SL none 0 0,I 0,SL none 0 0,SL none 0 0,SL none 0 0]++(sg (List.replicate 3 0) 3++[Value.map none])) (post:=[]) (vs:=[I r38.TicketBook.Tally.Trips,I r38.TicketBook.Tally.Room,SL A1 a0.Tally.Counts.length c2,I r38.TicketBook.Fare,SL A4 a0.Tickets.length c5,SL A42 r38.TicketBook.Shows.length c43,SL A44 r38.TicketBook.Boxes.length c45]++(sg r38.shown_ 3++[Value.map (some m46)])) sz92 S95 (i:=1) rfl rfl rfl rfl (rfl:_=AG ([I r38.TicketBook.Tally.Trips,I r38.TicketBook.Tally.Room,SL A1 a0.Tally.Counts.length c2,I r38.TicketBook.Fare,SL A4 a0.Tickets.length c5,SL A42 r38.TicketBook.Shows.length c43,SL A44 r38.TicketBook.Boxes.length c45]++(sg r38.shown_ 3++[Value.map (some m46)]))) rfl rfl rfl rfl fun w99 S100=>?_
    refine p_aI rfl<|wp_nil ?_
    obtain rfl:=sJ H
    refine c_ret ?_; show bodyPostM (Fr none) 0 Tryd.prog Tryd.f58 _ .ret _ _
    refine ret_of (res2 rfl (rvA rfl ty92 sz92 (S100.atX (i:=1) rfl) rfl) (rvT (rfl:_=I 0))) ?_
    exact ⟨_,rfl,A1,c2,A4,c5,A42,c43,A44,c45,(some m46),rfl,S100.keep,⟨(S100.atP (i:=3) rfl),Al.self (i:=0) rfl⟩,⟨(S100.atP (i:=4) rfl),Al.self (i:=1) rfl⟩,⟨(S100.atP (i:=2) rfl),(oN p74 h69 S24)⟩,⟨(S100.atP (i:=1) rfl),(oN p75 h69 S24)⟩,⟨mpo_some (S100.atP (i:=0) rfl),New.mpoS (oN p76 h69 S24)⟩,trivial⟩
def sl_Min_int_int_l1 (a0:List Int) (rec_z_1:(Int×Int)→Option Int) (z_1:Int×Int):Option Int:=
 bif decide (z_1.2 < (a0.length:Int)) then ((getI a0 z_1.2).bind fun r12=>
 rec_z_1 ((if r12 < z_1.1 then r12 else z_1.1),wr (z_1.2+1)))
 else (some z_1.1)
def sl_Min_int_int (a0:List Int):Option Int:=
 bif decide ((a0.length:Int) < 1) then (none)
 else ((getI a0 0).bind fun r5=>
 loopF (sl_Min_int_int_l1 a0) big (r5,1))
set_option maxRecDepth 100000 in
theorem sl_Min_int_int_ok {a0:List Int}{A1:Option Addr}{c2:Nat}{w:World}{r:Int} (H:sl_Min_int_int a0=some r) (h3:(rd intE 1 A1 c2 a0).ok w):Calls Tryd.prog 84 #[SL A1 a0.length c2] w (RetV w (I r)):=by
 unfold sl_Min_int_int at H
 refine fn_of (n:=25) Tryd.func84 rfl rfl (lE rfl) ?_
 have S:=St.start w nF _ (cA h3 nM)
 refine c_seq<|reg<|p_aI rfl<|wp_nil<|c_seq<|c_seq<|reg<|p_mS rfl<|p_len rfl sc30<|p_cmp rfl rfl rfl<|wp_nil ?_
 refine c_cond rfl (fun c4=>?_) (fun c4=>?_)
 ·replace H:=condT c4 H
  refine reg ?_
  cases H
 ·replace H:=condF c4 H
  refine c_skip<|c_seq<|reg<|p_mS rfl ?_
  obtain ⟨r5,h6,H⟩:=bindS H
  refine p_ixE sc30 h6 (S.atP (i:=0) rfl).1 rfl rfl rfl<|p_ldE ty3 h6 (S.atP (i:=0) rfl).1 rfl rfl<|p_aI rfl<|wp_nil<|c_seq<|c_seq<|reg<|p_aI rfl<|wp_nil<|c_block ?_
  refine c_lop (α:=Int×Int) (β:=Unit) (sl_Min_int_int_l1 a0) (fun z_1 y_1=>[(0,SL A1 a0.length c2),(3,I z_1.1),(4,I z_1.2)]) (fun z_1 y_1 w_=>St w nF w_ [] [rd intE 1 A1 c2 a0]) (r5,1) () H ⟨rfl,rfl,rfl,trivial⟩ S ?_
  intro m7 z_1 y_1 e8 w9 H S10
  unfold sl_Min_int_int_l1 at H
  refine c_seq<|c_seq<|reg<|p_mI rfl<|p_mS rfl<|p_len rfl sc30<|p_cmp rfl rfl rfl<|wp_nil ?_
  refine c_cond rfl (fun c11=>?_) (fun c11=>?_)
  ·replace H:=condT c11 H
   refine c_skip<|c_seq<|c_block<|reg<|p_mI rfl<|p_mS rfl<|p_mI rfl ?_
   obtain ⟨r12,h13,H⟩:=bindS H
   refine p_ixE sc30 h13 (S10.atP (i:=0) rfl).1 rfl rfl rfl<|p_ldE ty3 h13 (S10.atP (i:=0) rfl).1 rfl rfl<|p_min rfl rfl<|p_aI rfl<|wp_nil<|reg<|p_mI rfl<|p_add rfl rfl<|p_aI rfl<|wp_nil ?_
   exact ⟨((if r12 < z_1.1 then r12 else z_1.1),wr (z_1.2+1)),(),_,rfl,⟨rfl,rfl,rfl,trivial⟩,H,S10⟩
  ·replace H:=condF c11 H
   refine c_exit<|c_seq<|reg<|p_mI rfl<|p_aI rfl<|wp_nil ?_
   obtain rfl:=sJ H
   exact c_ret (rT Tryd.f84 S10.keep rfl rfl)
def sl_Max_int_int_l1 (a0:List Int) (rec_z_1:(Int×Int)→Option Int) (z_1:Int×Int):Option Int:=
 bif decide (z_1.2 < (a0.length:Int)) then ((getI a0 z_1.2).bind fun r12=>
 rec_z_1 ((if r12 > z_1.1 then r12 else z_1.1),wr (z_1.2+1)))
 else (some z_1.1)
def sl_Max_int_int (a0:List Int):Option Int:=
 bif decide ((a0.length:Int) < 1) then (none)
 else ((getI a0 0).bind fun r5=>
 loopF (sl_Max_int_int_l1 a0) big (r5,1))
set_option maxRecDepth 100000 in
theorem sl_Max_int_int_ok {a0:List Int}{A1:Option Addr}{c2:Nat}{w:World}{r:Int} (H:sl_Max_int_int a0=some r) (h3:(rd intE 1 A1 c2 a0).ok w):Calls Tryd.prog 85 #[SL A1 a0.length c2] w (RetV w (I r)):=by
 unfold sl_Max_int_int at H
 refine fn_of (n:=25) Tryd.func85 rfl rfl (lE rfl) ?_
 have S:=St.start w nF _ (cA h3 nM)
 refine c_seq<|reg<|p_aI rfl<|wp_nil<|c_seq<|c_seq<|reg<|p_mS rfl<|p_len rfl sc30<|p_cmp rfl rfl rfl<|wp_nil ?_
 refine c_cond rfl (fun c4=>?_) (fun c4=>?_)
 ·replace H:=condT c4 H
  refine reg ?_
  cases H
 ·replace H:=condF c4 H
  refine c_skip<|c_seq<|reg<|p_mS rfl ?_
  obtain ⟨r5,h6,H⟩:=bindS H
  refine p_ixE sc30 h6 (S.atP (i:=0) rfl).1 rfl rfl rfl<|p_ldE ty3 h6 (S.atP (i:=0) rfl).1 rfl rfl<|p_aI rfl<|wp_nil<|c_seq<|c_seq<|reg<|p_aI rfl<|wp_nil<|c_block ?_
  refine c_lop (α:=Int×Int) (β:=Unit) (sl_Max_int_int_l1 a0) (fun z_1 y_1=>[(0,SL A1 a0.length c2),(3,I z_1.1),(4,I z_1.2)]) (fun z_1 y_1 w_=>St w nF w_ [] [rd intE 1 A1 c2 a0]) (r5,1) () H ⟨rfl,rfl,rfl,trivial⟩ S ?_
  intro m7 z_1 y_1 e8 w9 H S10
  unfold sl_Max_int_int_l1 at H
  refine c_seq<|c_seq<|reg<|p_mI rfl<|p_mS rfl<|p_len rfl sc30<|p_cmp rfl rfl rfl<|wp_nil ?_
  refine c_cond rfl (fun c11=>?_) (fun c11=>?_)
  ·replace H:=condT c11 H
   refine c_skip<|c_seq<|c_block<|reg<|p_mI rfl<|p_mS rfl<|p_mI rfl ?_
   obtain ⟨r12,h13,H⟩:=bindS H
   refine p_ixE sc30 h13 (S10.atP (i:=0) rfl).1 rfl rfl rfl<|p_ldE ty3 h13 (S10.atP (i:=0) rfl).1 rfl rfl<|p_max rfl rfl<|p_aI rfl<|wp_nil<|reg<|p_mI rfl<|p_add rfl rfl<|p_aI rfl<|wp_nil ?_
   exact ⟨((if r12 > z_1.1 then r12 else z_1.1),wr (z_1.2+1)),(),_,rfl,⟨rfl,rfl,rfl,trivial⟩,H,S10⟩
  ·replace H:=condF c11 H
   refine c_exit<|c_seq<|reg<|p_mI rfl<|p_aI rfl<|wp_nil ?_
   obtain rfl:=sJ H
   exact c_ret (rT Tryd.f85 S10.keep rfl rfl)
def ticket_book_span_r2 (a1:Ticket_truth→Option Int) (x_1:Ticket_truth) (z_1:(List Int)):Option (Bool×Nat×(List Int)):=
 (a1 x_1).bind fun r73=>
 (sl_Contains_int_int z_1 r73).bind fun r77=>
 bif !r77 then (need (fitsL (z_1.length+([r73]:List Int).length) 8)<|
 some (true,0,z_1++([r73]:List Int)))
 else (some (true,0,z_1))
def ticket_book_span (a0:Ticket_book) (a1:Ticket_truth→Option Int):Option Span:=
 (ticket_book_truths a0).bind fun r36=>
 (ticket_book_truths_1 (0,([]:List Int)) a0 (yvOf (ticket_book_span_r2 a1))).bind fun r45=>
 (sl_Min_int_int r45.2).bind fun r102=>
 (sl_Max_int_int r45.2).bind fun r104=>
 some (Span.mk r102 r104)
set_option maxRecDepth 100000 in
theorem ticket_book_span_ok {a0:Ticket_book}{a1:Ticket_truth→Option Int}{A1:Option Addr}{c2:Nat}{A4:Option Addr}{c5:Nat}{A7:Option Addr}{c8:Nat}{A10:Option Addr}{c11:Nat}{m13:Option Nat}{f15:Nat}{cp16:List Value}{w:World}{r:Span} (H:ticket_book_span a0 a1=some r) (h3:(rd eTallyCount 7 A1 c2 a0.TicketBook.Tally.Counts).ok w) (h6:(rd eTicketSeason 2 A4 c5 a0.TicketBook.Tickets).ok w) (h9:(rd eTicketShow 3 A7 c8 a0.TicketBook.Shows).ok w) (h12:(rd eTicketBox 4 A10 c11 a0.TicketBook.Boxes).ok w) (h14:(mpo ekS iE m13 a0.by_).ok w) (hF17:funOf Tryd.prog f15=true) (hw18:∀ (y19:Ticket_truth) (w21:World) (y20:Int),Keep0 w w21→a1 y19=some y20→Calls Tryd.prog f15 (List.toArray ([AG (sg y19.crossed_ 3++sg y19.used_ 3)]++cp16)) w21 (RetV w21 (I y20))) (hg22:(gW0).ok w) (hg23:(gW2).ok w):Calls Tryd.prog 60 #[AG ((vB a0.TicketBook A1 c2 A4 c5 A7 c8 A10 c11)++(sg a0.shown_ 3++[Value.map m13])),vF (.func f15) #[] cp16.toArray] w (RetV w (AG [I r.Low,I r.High])):=by
 unfold ticket_book_span at H
 refine fn_of (n:=27) Tryd.func60 rfl rfl (lE rfl) ?_
 have S:=St.start w nF _ (cA h3 (cA h6 (cA h9 (cA h12 (cA h14 (cA hg22 (cA hg23 nM)))))))
 refine c_seq<|reg<|p_boxA rfl S fun b24 w25 S26=>p_box (rfl:_=vF (.func f15) #[] cp16.toArray) rfl S26 fun b27 w28 S29=>p_allA in49 S29 fun b30 w31 S32=>wp_nil<|c_seq<|reg<|p_all in30 rfl S32 fun b33 w34 S35=>wp_nil<|c_seq<|c_seq<|reg<|p_ldA ty92 sz92 (S35.atX (i:=3) rfl) rfl rfl ?_
 obtain ⟨r36,h37,H⟩:=bindS H
 refine p_cal (ticket_book_truths_ok h37 (S35.atP (i:=0) rfl) (S35.atP (i:=1) rfl) (S35.atP (i:=2) rfl) (S35.atP (i:=3) rfl) (S35.atP (i:=4) rfl) (S35.atP (i:=5) rfl) (S35.atP (i:=6) rfl)) fu69 rfl ?_
 rintro _ w38 ⟨b40,rfl,k39,⟨o41,n42⟩,_⟩
 have S43:=S35.addNew k39 o41 n42
 refine wp_nil<|c_block ?_
 have S44:=S43.fix (i:=0) rfl
 obtain ⟨r45,h46,H⟩:=bindS H
 have S47:=S44.nilRow intE 1 3
 have S49:=S44.nilRow intE 1 3
 have S48:=S49
 refine c_rangeG (α:=(List Int)) (β:=(Option Addr)×Nat) (ε:=Ticket_truth) (K:=[bl b40 ((vB a0.TicketBook A1 c2 A4 c5 A7 c8 A10 c11)++(sg a0.shown_ 3++[Value.map m13])) 92,rd eTallyCount 7 A1 c2 a0.TicketBook.Tally.Counts,rd eTicketSeason 2 A4 c5 a0.TicketBook.Tickets,rd eTicketShow 3 A7 c8 a0.TicketBook.Shows,rd eTicketBox 4 A10 c11 a0.TicketBook.Boxes,mpo ekS iE m13 a0.by_,gW0,gW2]) (MK:=Go.Fx.mark) (XR:=fun D50=>[]++[bx D50 (.deferred (some []))]) (it:=fun {σ} yv s_=>ticket_book_truths_1 s_ a0 yv) (enc:=yE0) (ticket_book_span_r2 a1) [] (fun z_1 y_1=>[gr intE 1 3 y_1.1 y_1.2 z_1,bl b33 [SL y_1.1 z_1.length y_1.2] 30,bl b30 [I 0,I 0] 49,bl b27 [vF (.func f15) #[] cp16.toArray] 106,bl b24 ((vB a0.TicketBook A1 c2 A4 c5 A7 c8 A10 c11)++(sg a0.shown_ 3++[Value.map m13])) 92]) ([]:List Int) (none,0) h46 (ent_none (X0:=(fun z_1 y_1=>[gr intE 1 3 y_1.1 y_1.2 z_1,bl b33 [SL y_1.1 z_1.length y_1.2] 30,bl b30 [I 0,I 0] 49,bl b27 [vF (.func f15) #[] cp16.toArray] 106,bl b24 ((vB a0.TicketBook A1 c2 A4 c5 A7 c8 A10 c11)++(sg a0.shown_ 3++[Value.map m13])) 92]) ([]:List Int) (none,0)++[]) S48) rfl fu88 (fun w_ σ yv_ s_ s'_ l_ G_ A_ hH_ hG_ hk_ hd_ hy_=>(ticket_book_truths_1_ok hH_ hG_ (hk_ _ (mE (i:=0) rfl)) (hk_ _ (mE (i:=1) rfl)) (hk_ _ (mE (i:=2) rfl)) (hk_ _ (mE (i:=3) rfl)) (hk_ _ (mE (i:=4) rfl)) (hk_ _ (mE (i:=5) rfl)) (hk_ _ (mE (i:=6) rfl)) (hk_ _ (mE (i:=7) rfl)) hd_ hy_ (Link.refl _ _)).mono fun en_ w3_ ⟨u_,he_,A'_,hu_,hk2_,ho_,hf_⟩=>⟨u_,he_,hk2_,A'_,ho_,hf_⟩) (mG [0,1,2,3,4,5,6,7] rfl) (fun _=>rfl) nM ?_ ?_ ?_
 ·intro l51 oR52 oB53 Cr54 x_1 z_1 y_1 w55 b56 c57 z58 PP59 H S60 hlk61 ho62 hB63 hN64 hX65
  unfold ticket_book_span_r2 at H
  replace S60:St w55 Cr54 w55 [bx l51 oR52,gr intE 1 3 y_1.1 y_1.2 z_1,bl b33 [SL y_1.1 z_1.length y_1.2] 30,bl b30 [I 0,I 0] 49,bl b27 [vF (.func f15) #[] cp16.toArray] 106,bl b24 ((vB a0.TicketBook A1 c2 A4 c5 A7 c8 A10 c11)++(sg a0.shown_ 3++[Value.map m13])) 92] [bl b40 ((vB a0.TicketBook A1 c2 A4 c5 A7 c8 A10 c11)++(sg a0.shown_ 3++[Value.map m13])) 92,rd eTallyCount 7 A1 c2 a0.TicketBook.Tally.Counts,rd eTicketSeason 2 A4 c5 a0.TicketBook.Tickets,rd eTicketShow 3 A7 c8 a0.TicketBook.Shows,rd eTicketBox 4 A10 c11 a0.TicketBook.Boxes,mpo ekS iE m13 a0.by_,gW0,gW2]:=S60
  refine reg<|p_allA in105 S60 fun b66 w67 S68=>p_stP (pre:=[]) (old:=sg (List.replicate 3 0) 3++sg (List.replicate 3 0) 3) (post:=[]) (vs:=sg x_1.crossed_ 3++sg x_1.used_ 3) sz105 S68 (i:=0) rfl rfl rfl rfl (rfl:_=AG (sg x_1.crossed_ 3++sg x_1.used_ 3)) rfl rfl rfl rfl fun w69 S70=>wp_nil ?_
  refine hB63 _ _ 1 _ S70 rfl fun w71 S72=>?_
  replace S72:St w55 Cr54 w71 [bl b66 (sg x_1.crossed_ 3++sg x_1.used_ 3) 105,bx l51 oB53,gr intE 1 3 y_1.1 y_1.2 z_1,bl b33 [SL y_1.1 z_1.length y_1.2] 30,bl b30 [I 0,I 0] 49,bl b27 [vF (.func f15) #[] cp16.toArray] 106,bl b24 ((vB a0.TicketBook A1 c2 A4 c5 A7 c8 A10 c11)++(sg a0.shown_ 3++[Value.map m13])) 92] [bl b40 ((vB a0.TicketBook A1 c2 A4 c5 A7 c8 A10 c11)++(sg a0.shown_ 3++[Value.map m13])) 92,rd eTallyCount 7 A1 c2 a0.TicketBook.Tally.Counts,rd eTicketSeason 2 A4 c5 a0.TicketBook.Tickets,rd eTicketShow 3 A7 c8 a0.TicketBook.Shows,rd eTicketBox 4 A10 c11 a0.TicketBook.Boxes,mpo ekS iE m13 a0.by_,gW0,gW2]:=S72
  refine c_block<|c_seq<|reg<|p_ld ty106 (S72.atX (i:=5) rfl) rfl rfl<|p_ldA ty105 sz105 (S72.atX (i:=0) rfl) rfl rfl ?_
  obtain ⟨r73,h74,H⟩:=bindS H
  refine p_cv (hw18 _ _ _ (Link.of (Link.trans (Link.refl _ _) hlk61) S72.keep) h74) hF17 rfl S72 ?_
  intro w75 S76
  refine p_aI rfl<|wp_nil<|c_seq<|reg<|p_ld ty30 (S76.atX (i:=3) rfl) rfl rfl<|p_mI rfl ?_
  obtain ⟨r77,h78,H⟩:=bindS H
  refine p_cv (sl_Contains_int_int_ok h78 (gr_rd intE_len (S76.atX (i:=2) rfl))) fu72 rfl S76 fun w79 S80=>p_not rfl<|wp_nil ?_
  refine c_cond rfl (fun c81=>?_) (fun c81=>?_)
  ·replace H:=condT c81 H
   refine reg<|p_ld ty30 (S80.atX (i:=3) rfl) rfl rfl<|p_mI rfl<|p_bsl (enc:=intE) (l:=([r73]:List Int)) I (fun _=>rfl) sc30 in3 intE_len rfl (by decide) (by decide) zr3_1 S80 rfl fun A82 c83 w84 S85=>?_
   obtain ⟨h91,H⟩:=needS H
   refine p_app (enc:=intE) sc30 in3 rfl intE_len intE_one (by decide) S85 (k:=3) rfl (gr_sl intE_len (S85.atX (i:=0) rfl)) h91 (by simp) rfl rfl fun A89 c90 w87 S88=>p_st sz30 S88 (i:=4) rfl rfl (rfl:_=SL A89 (z_1++([r73]:List Int)).length c90) rfl rfl fun w92 S93=>wp_nil ?_
   have S94:=S93.pk [2,3,4,5,6,7] (by decide) [0,1,2,3,4,5,6,7] rfl rfl
   exact hN64 _ _ (z_1++([r73]:List Int)) (A89,c90) S94 (sJ H)
  ·replace H:=condF c81 H
   refine c_skip ?_
   have S94:=S80.pk [1,2,3,4,5,6] (by decide) [0,1,2,3,4,5,6,7] rfl rfl
   exact hN64 _ _ z_1 (y_1.1,y_1.2) S94 (sJ H)
 ·intro hc100
  intro l94 D95 o96 y97 w98 S99
  have S101:St w nF w98 [gr intE 1 3 y97.1 y97.2 r45.2,bl b33 [SL y97.1 r45.2.length y97.2] 30,bl b30 [I 0,I 0] 49,bl b27 [vF (.func f15) #[] cp16.toArray] 106,bl b24 ((vB a0.TicketBook A1 c2 A4 c5 A7 c8 A10 c11)++(sg a0.shown_ 3++[Value.map m13])) 92,bx D95 (.deferred (some []))] [bl b40 ((vB a0.TicketBook A1 c2 A4 c5 A7 c8 A10 c11)++(sg a0.shown_ 3++[Value.map m13])) 92,rd eTallyCount 7 A1 c2 a0.TicketBook.Tally.Counts,rd eTicketSeason 2 A4 c5 a0.TicketBook.Tickets,rd eTicketShow 3 A7 c8 a0.TicketBook.Shows,rd eTicketBox 4 A10 c11 a0.TicketBook.Boxes,mpo ekS iE m13 a0.by_,gW0,gW2]:=St.tail1 S99
  refine c_seq ?_
  obtain ⟨r102,h103,H⟩:=bindS H
  obtain ⟨r104,h105,H⟩:=bindS H
  refine reg_q mixed 5 (by kernel_rfl) ?_
  refine dS (fun _ k_=>p_ld ty30 (aS (S101.atX (i:=1) rfl) k_) rfl rfl dn)<|dS (fun _ k_=>p_cvD (sl_Min_int_int_ok h103 (gr_rd intE_len (aS (S101.atX (i:=0) rfl) k_))) fu84 rfl)<|dS (fun _ k_=>p_ld ty30 (aS (S101.atX (i:=1) rfl) k_) rfl rfl dn)<|dS (fun _ k_=>p_cvD (sl_Max_int_int_ok h105 (gr_rd intE_len (aS (S101.atX (i:=0) rfl) k_))) fu85 rfl) ?_
  refine dS (fun _ k_=>p_bld (cs:=[I r102,I r104]) st49 (rfl:_=[(0,I r102),(1,I r104)]) (by kernel_rfl) dn) ?_
  intro w106 k107; have S108:=S101.call k107
  refine p_stP (pre:=[]) (old:=[I 0,I 0]) (post:=[]) (vs:=[I r102,I r104]) sz49 S108 (i:=2) rfl rfl rfl rfl (rfl:_=AG [I r102,I r104]) rfl rfl rfl rfl fun w109 S110=>wp_nil ?_
  refine c_ret ?_
  refine leave_mark S110 (i:=5) rfl fun w111 S112=>?_
  obtain rfl:=sJ H
  show bodyPostM (Fr none) 0 Tryd.prog Tryd.f60 _ .ret _ _
  refine ret_of (res1 rfl (rvA rfl ty49 sz49 (S112.atX (i:=2) rfl) rfl)) ?_
  exact ⟨_,rfl,rfl,S112.keep⟩
 ·intro k113 c114 hk115 hc116
  cases hk115
def ticket_Paid_1 (a0:Ticket_truth) (q0:Int) (q1:Int):Option Int:=
 (ticket_truth_paid a0 q0 q1).bind fun r8=>
 some r8
set_option maxRecDepth 100000 in
theorem ticket_Paid_1_ok {a0:Ticket_truth}{q0:Int}{q1:Int}{b1:Nat}{b2:Nat}{w:World}{r:Int} (H:ticket_Paid_1 a0 q0 q1=some r) (h4:(bl b2 [I q1] 3).ok w) (h3:(bl b1 [I q0] 3).ok w):Calls Tryd.prog 61 #[AG (sg a0.crossed_ 3++sg a0.used_ 3),P b1 0,P b2 0] w (RetV w (I r)):=by
 unfold ticket_Paid_1 at H
 refine fn_of (n:=9) Tryd.func61 rfl rfl (lE rfl) ?_
 have S:=St.start w nF _ (cA h4 (cA h3 nM))
 refine c_seq<|reg<|p_boxA rfl S fun b5 w6 S7=>p_aI rfl<|wp_nil<|c_seq<|reg<|p_ldA ty105 sz105 (S7.atX (i:=0) rfl) rfl rfl<|p_ld ty3 (S7.atP (i:=1) rfl) rfl rfl<|p_ld ty3 (S7.atP (i:=0) rfl) rfl rfl ?_
 obtain ⟨r8,h9,H⟩:=bindS H
 refine p_cv (ticket_truth_paid_ok h9) fu62 rfl S7 fun w10 S11=>p_aI rfl<|wp_nil ?_
 obtain rfl:=sJ H
 exact c_ret (rT Tryd.f61 S11.keep rfl rfl)
def ticket_Paid_j1 (a1:Int) (a2:Int) (z_1:Int×Int×(List TallyCount)×Int×(List TicketSeason)×(List TicketShow)×(List TicketBox)×(List Int)×(List (Ticket_seat×Int))×Int):Option (Span×Int):=
 bif (z_1.2.2.2.2.2.2.2.2.2 != 0) then (some ((Span.mk 0 0),z_1.2.2.2.2.2.2.2.2.2))
 else ((ticket_book_span (Ticket_book.mk (TicketBook.mk (TallyBook.mk z_1.1 z_1.2.1 z_1.2.2.1) z_1.2.2.2.1 z_1.2.2.2.2.1 z_1.2.2.2.2.2.1 z_1.2.2.2.2.2.2.1) z_1.2.2.2.2.2.2.2.1 z_1.2.2.2.2.2.2.2.2.1) (fun y34=>ticket_Paid_1 y34 a1 a2)).bind fun r35=>
 some (r35,0))
def ticket_Paid (a0:TicketBook) (a1:Int) (a2:Int):Option (Span×Int):=
 (ticket_isTrip a0 a1).bind fun r29=>
 bif r29 then ((ticket_isTrip a0 a2).bind fun r40=>
 bif r40 then ((ticket_asked a0 (decide (a1≤a2))).bind fun r57=>
 ticket_Paid_j1 a1 a2 (r57.1.TicketBook.Tally.Trips,r57.1.TicketBook.Tally.Room,r57.1.TicketBook.Tally.Counts,r57.1.TicketBook.Fare,r57.1.TicketBook.Tickets,r57.1.TicketBook.Shows,r57.1.TicketBook.Boxes,r57.1.shown_,r57.1.by_,r57.2))
 else ((ticket_asked a0 false).bind fun r183=>
 ticket_Paid_j1 a1 a2 (r183.1.TicketBook.Tally.Trips,r183.1.TicketBook.Tally.Room,r183.1.TicketBook.Tally.Counts,r183.1.TicketBook.Fare,r183.1.TicketBook.Tickets,r183.1.TicketBook.Shows,r183.1.TicketBook.Boxes,r183.1.shown_,r183.1.by_,r183.2)))
 else ((ticket_asked a0 false).bind fun r317=>
 ticket_Paid_j1 a1 a2 (r317.1.TicketBook.Tally.Trips,r317.1.TicketBook.Tally.Room,r317.1.TicketBook.Tally.Counts,r317.1.TicketBook.Fare,r317.1.TicketBook.Tickets,r317.1.TicketBook.Shows,r317.1.TicketBook.Boxes,r317.1.shown_,r317.1.by_,r317.2))
end Go.Proofs.YtafhljljfglfeaaDoor
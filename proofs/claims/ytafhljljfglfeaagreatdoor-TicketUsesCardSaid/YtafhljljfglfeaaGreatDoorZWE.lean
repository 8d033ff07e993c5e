/- What the functions of the program compute, and that they do, printed by a program of mine. -/
import Derived.Test.YtafhljljfglfeaaGreatDoorZWD
import Derived.KernelRfl
set_option linter.unusedVariables false
set_option linter.unusedSimpArgs false
namespace Go.Proofs.YtafhljljfglfeaaGreatDoor
open Go Go.Fx Go.Proofs
set_option maxRecDepth 100000 in
theorem B_Alike_ok {a0:List Int}{a1:List Int}{A1:Option Addr}{c2:Nat}{A4:Option Addr}{c5:Nat}{w:World}{r:Bool} (H:B_Alike a0 a1=some r) (h3:(rd intE 1 A1 c2 a0).ok w) (h6:(rd intE 1 A4 c5 a1).ok w):Calls Tryz.prog 34 #[SL A1 a0.length c2,SL A4 a1.length c5] w (RetV w (B r)):=by
 unfold B_Alike at H
 refine fn_of (n:=26) Tryz.func34 rfl rfl (lE rfl) ?_
 have S:=St.start w nF _ (cA h3 (cA h6 nM))
 refine c_seq<|reg<|p_aB rfl<|wp_nil<|c_seq<|c_seq<|reg<|p_mS rfl<|p_len rfl sc60<|p_mS rfl<|p_len rfl sc60<|p_cmp rfl rfl rfl<|wp_nil ?_
 refine c_cond rfl (fun c7=>?_) (fun c7=>?_)
 ·replace H:=condT c7 H
  refine c_seq<|reg<|p_aB rfl<|wp_nil ?_
  obtain rfl:=sJ H
  exact c_ret (rT Tryz.f34 S.keep rfl rfl)
 ·replace H:=condF c7 H
  refine c_skip<|c_seq<|c_seq<|reg<|p_aI rfl<|wp_nil<|c_block ?_
  refine c_lop (α:=Int) (β:=Unit) (B_Alike_l1 a0 a1) (fun z_1 y_1=>[(0,SL A1 a0.length c2),(1,SL A4 a1.length c5),(5,I z_1)]) (fun z_1 y_1 w_=>St w nF w_ [] [rd intE 1 A1 c2 a0,rd intE 1 A4 c5 a1]) 0 () H ⟨rfl,rfl,rfl,trivial⟩ S ?_
  intro m8 z_1 y_1 e9 w10 H S11
  unfold B_Alike_l1 at H
  refine c_seq<|c_seq<|reg<|p_mI rfl<|p_mS rfl<|p_len rfl sc60<|p_cmp rfl rfl rfl<|wp_nil ?_
  refine c_cond rfl (fun c12=>?_) (fun c12=>?_)
  ·replace H:=condT c12 H
   refine c_skip<|c_seq<|c_block<|c_seq ?_
   obtain ⟨r13,h14,H⟩:=bindS H
   obtain ⟨r15,h16,H⟩:=bindS H
   refine reg_q mixed 9 (by kernel_rfl) ?_
   refine dS (fun _ k_=>p_mS rfl dn)<|dS (fun _ k_=>p_mI rfl dn)<|dS (fun _ k_=>p_ixE sc60 h14 (aS (S11.atP (i:=0) rfl) k_).1 rfl rfl rfl dn)<|dS (fun _ k_=>p_ldE ty3 h14 (aS (S11.atP (i:=0) rfl) k_).1 rfl rfl dn)<|dS (fun _ k_=>p_mS rfl dn)<|dS (fun _ k_=>p_mI rfl dn)<|dS (fun _ k_=>p_ixE sc60 h16 (aS (S11.atP (i:=1) rfl) k_).1 rfl rfl rfl dn) ?_
   refine dS (fun _ k_=>p_ldE ty3 h16 (aS (S11.atP (i:=1) rfl) k_).1 rfl rfl dn)<|dS (fun _ k_=>p_cmp rfl rfl rfl dn) ?_
   intro w17 k18; have S19:=S11.call k18
   refine wp_nil ?_
   refine c_cond rfl (fun c20=>?_) (fun c20=>?_)
   ·replace H:=condT c20 H
    refine c_seq<|reg<|p_aB rfl<|wp_nil ?_
    obtain rfl:=sJ H
    exact c_ret (rT Tryz.f34 S19.keep rfl rfl)
   ·replace H:=condF c20 H
    refine c_skip<|reg<|p_mI rfl<|p_add rfl rfl<|p_aI rfl<|wp_nil ?_
    exact ⟨wr (z_1+1),(),_,rfl,⟨rfl,rfl,rfl,trivial⟩,H,S19⟩
  ·replace H:=condF c12 H
   refine c_exit<|c_seq<|reg<|p_aB rfl<|wp_nil ?_
   obtain rfl:=sJ H
   exact c_ret (rT Tryz.f34 S11.keep rfl rfl)
def ticket_Clash_l3 (a0:TicketBook) (z_1:Int) (rec_z_1:Int→Option (Int×Int×Int)) (rec_z_2:Int→Option (Int×Int×Int)) (z_2:Int):Option (Int×Int×Int):=
 bif decide (z_2 < (a0.Shows.length:Int)) then ((getI a0.Shows z_1).bind fun r31=>
 (getI a0.Shows z_2).bind fun r33=>
 (ticket_clash r31 r33).bind fun r35=>
 bif r35 then (some (z_1,z_2,0))
 else (rec_z_2 (wr (z_2+1))))
 else (rec_z_1 (wr (z_1+1)))
def ticket_Clash_l4 (a0:TicketBook) (rec_z_1:Int→Option (Int×Int×Int)) (z_1:Int):Option (Int×Int×Int):=
 bif decide (z_1 < (a0.Shows.length:Int)) then (loopF (ticket_Clash_l3 a0 z_1 rec_z_1) big (wr (z_1+1)))
 else (some (0,0,4))
def ticket_Clash (a0:TicketBook):Option (Int×Int×Int):=
 (ticket_Check a0).bind fun r16=>
 bif (r16 != 0) then (some (0,0,r16))
 else (loopF (ticket_Clash_l4 a0) big 0)
set_option maxRecDepth 100000 in
theorem ticket_Clash_ok {a0:TicketBook}{A1:Option Addr}{c2:Nat}{A4:Option Addr}{c5:Nat}{A7:Option Addr}{c8:Nat}{A10:Option Addr}{c11:Nat}{w:World}{r:Int×Int×Int} (H:ticket_Clash a0=some r) (h3:(rd eTallyCount 7 A1 c2 a0.Tally.Counts).ok w) (h6:(rd eTicketSeason 2 A4 c5 a0.Tickets).ok w) (h9:(rd eTicketShow 3 A7 c8 a0.Shows).ok w) (h12:(rd eTicketBox 4 A10 c11 a0.Boxes).ok w):Calls Tryz.prog 35 #[AG (vB a0 A1 c2 A4 c5 A7 c8 A10 c11)] w (RetV w (TU [I r.1,I r.2.1,I r.2.2])):=by
 unfold ticket_Clash at H
 refine fn_of (n:=42) Tryz.func35 rfl rfl (lE rfl) ?_
 have S:=St.start w nF _ (cA h3 (cA h6 (cA h9 (cA h12 nM))))
 refine c_seq<|reg<|p_boxA rfl S fun b13 w14 S15=>p_aI rfl<|p_aI rfl<|p_aI rfl<|wp_nil<|c_seq<|c_seq<|reg<|p_ldA ty29 sz29 (S15.atX (i:=0) rfl) rfl rfl ?_
 obtain ⟨r16,h17,H⟩:=bindS H
 refine p_cv (ticket_Check_ok h17 (S15.atP (i:=0) rfl) (S15.atP (i:=1) rfl) (S15.atP (i:=2) rfl) (S15.atP (i:=3) rfl)) fu18 rfl S15 fun w18 S19=>p_aI rfl<|wp_nil<|c_seq<|reg<|p_mI rfl<|p_cmp rfl rfl rfl<|wp_nil ?_
 refine c_cond rfl (fun c20=>?_) (fun c20=>?_)
 ·replace H:=condT c20 H
  refine c_seq<|reg<|p_mI rfl<|p_aI rfl<|p_aI rfl<|p_aI rfl<|wp_nil ?_
  obtain rfl:=sJ H
  refine c_ret ?_; show bodyPostM (Fr none) 0 Tryz.prog Tryz.f35 _ .ret _ _
  refine ret_of (res3 rfl (rvT (rfl:_=I 0)) (rvT (rfl:_=I 0)) (rvT (rfl:_=I r16))) ?_
  exact ⟨_,rfl,rfl,S19.keep⟩
 ·replace H:=condF c20 H
  refine c_skip<|c_seq<|c_seq<|reg<|p_fld fl29_3 rfl<|p_ld ty26 (S19.atX (i:=0) rfl) rfl rfl<|p_len rfl sc26<|p_mI rfl<|wp_nil<|c_block ?_
  refine c_lop (α:=Int) (β:=Unit) (ticket_Clash_l4 a0) (fun z_1 y_1=>[(1,P b13 0),(15,I (a0.Shows.length:Int)),(16,I z_1)]) (fun z_1 y_1 w_=>St w nF w_ [bl b13 (vB a0 A1 c2 A4 c5 A7 c8 A10 c11) 29] [rd eTallyCount 7 A1 c2 a0.Tally.Counts,rd eTicketSeason 2 A4 c5 a0.Tickets,rd eTicketShow 3 A7 c8 a0.Shows,rd eTicketBox 4 A10 c11 a0.Boxes]) 0 () H ⟨rfl,rfl,rfl,trivial⟩ S19 ?_
  intro m21 z_1 y_1 e22 w23 H S24
  unfold ticket_Clash_l4 at H
  refine c_seq<|reg<|p_cmp rfl rfl rfl<|wp_nil<|c_seq ?_
  refine c_cond rfl (fun c25=>?_) (fun c25=>?_)
  ·replace H:=condT c25 H
   refine c_skip<|c_seq<|c_block<|c_seq<|reg<|p_mI rfl<|p_aI rfl<|wp_nil<|c_seq<|reg<|p_mI rfl<|p_add rfl rfl<|p_aI rfl<|wp_nil<|c_block ?_
   refine c_lop (α:=Int) (β:=Unit) (ticket_Clash_l3 a0 z_1 (loopF (ticket_Clash_l4 a0) m21)) (fun z_2 y_2=>[(1,P b13 0),(6,I z_1),(7,I z_2),(15,I (a0.Shows.length:Int)),(16,I z_1)]) (fun z_2 y_2 w_=>St w nF w_ [bl b13 (vB a0 A1 c2 A4 c5 A7 c8 A10 c11) 29] [rd eTallyCount 7 A1 c2 a0.Tally.Counts,rd eTicketSeason 2 A4 c5 a0.Tickets,rd eTicketShow 3 A7 c8 a0.Shows,rd eTicketBox 4 A10 c11 a0.Boxes]) (wr (z_1+1)) () H ⟨rfl,rfl,rfl,rfl,rfl,trivial⟩ S24 ?_
   intro m26 z_2 y_2 e27 w28 H S29
   unfold ticket_Clash_l3 at H
   refine c_seq<|c_seq<|reg<|p_mI rfl<|p_fld fl29_3 rfl<|p_ld ty26 (S29.atX (i:=0) rfl) rfl rfl<|p_len rfl sc26<|p_cmp rfl rfl rfl<|wp_nil ?_
   refine c_cond rfl (fun c30=>?_) (fun c30=>?_)
   ·replace H:=condT c30 H
    refine c_skip<|c_seq<|c_block<|c_seq ?_
    obtain ⟨r31,h32,H⟩:=bindS H
    obtain ⟨r33,h34,H⟩:=bindS H
    obtain ⟨r35,h36,H⟩:=bindS H
    refine reg_q mixed 11 (by kernel_rfl) ?_
    refine dS (fun _ k_=>p_fld fl29_3 rfl dn)<|dS (fun _ k_=>p_ld ty26 (aS (S29.atX (i:=0) rfl) k_) rfl rfl dn)<|dS (fun _ k_=>p_mI rfl dn)<|dS (fun _ k_=>p_ixE sc26 h32 (aS (S29.atP (i:=2) rfl) k_).1 rfl rfl rfl dn)<|dS (fun _ k_=>p_ldEA ty86 sz86 rfl h32 (aS (S29.atP (i:=2) rfl) k_).1 rfl dn)<|dS (fun _ k_=>p_fld fl29_3 rfl dn) ?_
    refine dS (fun _ k_=>p_ld ty26 (aS (S29.atX (i:=0) rfl) k_) rfl rfl dn)<|dS (fun _ k_=>p_mI rfl dn)<|dS (fun _ k_=>p_ixE sc26 h34 (aS (S29.atP (i:=2) rfl) k_).1 rfl rfl rfl dn)<|dS (fun _ k_=>p_ldEA ty86 sz86 rfl h34 (aS (S29.atP (i:=2) rfl) k_).1 rfl dn)<|dS (fun _ k_=>p_cvD (ticket_clash_ok h36) fu76 rfl) ?_
    intro w37 k38; have S39:=S29.call k38
    refine wp_nil ?_
    refine c_cond rfl (fun c40=>?_) (fun c40=>?_)
    ·replace H:=condT c40 H
     refine c_seq<|reg<|p_mI rfl<|p_mI rfl<|p_aI rfl<|p_aI rfl<|p_aI rfl<|wp_nil ?_
     obtain rfl:=sJ H
     refine c_ret ?_; show bodyPostM (Fr none) 0 Tryz.prog Tryz.f35 _ .ret _ _
     refine ret_of (res3 rfl (rvT (rfl:_=I z_1)) (rvT (rfl:_=I z_2)) (rvT (rfl:_=I 0))) ?_
     exact ⟨_,rfl,rfl,S39.keep⟩
    ·replace H:=condF c40 H
     refine c_skip<|reg<|p_mI rfl<|p_add rfl rfl<|p_aI rfl<|wp_nil ?_
     exact ⟨wr (z_2+1),(),_,rfl,⟨rfl,rfl,rfl,rfl,rfl,trivial⟩,H,S39⟩
   ·replace H:=condF c30 H
    refine c_exit<|reg<|p_add rfl rfl<|p_mI rfl<|wp_nil ?_
    exact ⟨wr (z_1+1),(),_,rfl,⟨rfl,rfl,rfl,trivial⟩,H,S29⟩
  ·replace H:=condF c25 H
   refine c_exit<|c_seq<|reg<|p_aI rfl<|p_aI rfl<|p_aI rfl<|wp_nil ?_
   obtain rfl:=sJ H
   refine c_ret ?_; show bodyPostM (Fr none) 0 Tryz.prog Tryz.f35 _ .ret _ _
   refine ret_of (res3 rfl (rvT (rfl:_=I 0)) (rvT (rfl:_=I 0)) (rvT (rfl:_=I 4))) ?_
   exact ⟨_,rfl,rfl,S24.keep⟩
def law_double:Option TicketBook:=
 (law_own).bind fun r4=>
 need (fitsL (r4.Shows.length+([(TicketShow.mk 0 0 7)]:List TicketShow).length) 24)<|
 some (TicketBook.mk r4.Tally r4.Fare r4.Tickets (r4.Shows++([(TicketShow.mk 0 0 7)]:List TicketShow)) r4.Boxes)
set_option maxRecDepth 100000 in
theorem law_double_ok {w:World}{r:TicketBook} (H:law_double=some r):Calls Tryz.prog 36 #[] w fun en w_=>∃ u_,en=.returned u_∧∃ A_1:Option Addr,∃ c_2:Nat,∃ A_3:Option Addr,∃ c_4:Nat,∃ A_5:Option Addr,∃ c_6:Nat,∃ A_7:Option Addr,∃ c_8:Nat,u_=AG (vB r A_1 c_2 A_3 c_4 A_5 c_6 A_7 c_8)∧Keep0 w w_∧((gr eTallyCount 7 106 A_1 c_2 r.Tally.Counts).ok w_∧New w.heap.size (gr eTallyCount 7 106 A_1 c_2 r.Tally.Counts))∧((gr eTicketSeason 2 84 A_3 c_4 r.Tickets).ok w_∧New w.heap.size (gr eTicketSeason 2 84 A_3 c_4 r.Tickets))∧((gr eTicketShow 3 86 A_5 c_6 r.Shows).ok w_∧New w.heap.size (gr eTicketShow 3 86 A_5 c_6 r.Shows))∧((gr eTicketBox 4 39 A_7 c_8 r.Boxes).ok w_∧New w.heap.size (gr eTicketBox 4 39 A_7 c_8 r.Boxes))∧Dj (gr eTallyCount 7 106 A_1 c_2 r.Tally.Counts) (gr eTicketSeason 2 84 A_3 c_4 r.Tickets)∧Dj (gr eTallyCount 7 106 A_1 c_2 r.Tally.Counts) (gr eTicketShow 3 86 A_5 c_6 r.Shows)∧Dj (gr eTallyCount 7 106 A_1 c_2 r.Tally.Counts) (gr eTicketBox 4 39 A_7 c_8 r.Boxes)∧Dj (gr eTicketSeason 2 84 A_3 c_4 r.Tickets) (gr eTicketShow 3 86 A_5 c_6 r.Shows)∧Dj (gr eTicketSeason 2 84 A_3 c_4 r.Tickets) (gr eTicketBox 4 39 A_7 c_8 r.Boxes)∧Dj (gr eTicketShow 3 86 A_5 c_6 r.Shows) (gr eTicketBox 4 39 A_7 c_8 r.Boxes)∧True:=by
 unfold law_double at H
 refine fn_of (n:=10) Tryz.func36 rfl rfl (lE rfl) ?_
 have S:=St.start w nF _ nM
 refine c_seq<|reg<|p_allA in29 S fun b1 w2 S3=>wp_nil<|c_seq<|reg ?_
 obtain ⟨r4,h5,H⟩:=bindS H
 refine p_cal (law_own_ok h5) fu28 rfl ?_
 rintro _ w6 ⟨A8,c9,A10,c11,A12,c13,A14,c15,rfl,k7,⟨o16,n17⟩,⟨o18,n19⟩,⟨o20,n21⟩,⟨o22,n23⟩,j24,j25,j26,j27,j28,j29,_⟩
 have S34:=S3.callMo k7 [gr eTallyCount 7 106 A8 c9 r4.Tally.Counts,gr eTicketSeason 2 84 A10 c11 r4.Tickets,gr eTicketShow 3 86 A12 c13 r4.Shows,gr eTicketBox 4 39 A14 c15 r4.Boxes] [] (cA ⟨o16,n17⟩ (cA ⟨o18,n19⟩ (cA ⟨o20,n21⟩ (cA ⟨o22,n23⟩ nM)))) (pC (cA j24 (cA j25 (cA j26 nM))) (pC (cA j27 (cA j28 nM)) (pC (cA j29 nM) (pC nM List.Pairwise.nil)))) nM (cA nM (cA nM (cA nM (cA nM nM))))
 refine p_allA in29 S34 fun b35 w36 S37=>?_
 refine p_stP (pre:=[]) (old:=[I 0,I 0,SL none 0 0,I 0,SL none 0 0,SL none 0 0,SL none 0 0]) (post:=[]) (vs:=(vB r4 A8 c9 A10 c11 A12 c13 A14 c15)) sz29 S37 (i:=0) rfl rfl rfl rfl (rfl:_=AG (vB r4 A8 c9 A10 c11 A12 c13 A14 c15)) rfl rfl rfl rfl fun w38 S39=>?_
 refine wp_nil<|c_seq<|reg<|p_fld fl29_3 rfl<|p_ld ty26 (S39.atX (i:=0) rfl) rfl rfl<|p_bld (cs:=[I 0,I 0,I 7]) st86 (rfl:_=[(0,I 0),(1,I 0),(2,I 7)]) (by kernel_rfl)<|p_bsl (enc:=eTicketShow) (l:=([(TicketShow.mk 0 0 7)]:List TicketShow)) (fun x=>AG (eTicketShow x)) (fun _=>rfl) sc26 in86 eTicketShow_len rfl (by decide) (by decide) zr86_1 S39 rfl fun A40 c41 w42 S43=>?_
 obtain ⟨h49,H⟩:=needS H
 refine p_app (enc:=eTicketShow) sc26 in86 rfl eTicketShow_len eTicketShow_one (by decide) S43 (k:=4) rfl (gr_sl eTicketShow_len (S43.atX (i:=0) rfl)) h49 (by simp) rfl rfl fun A47 c48 w45 S46=>p_fld fl29_3 rfl ?_
 refine p_stP (pre:=[I r4.Tally.Trips,I r4.Tally.Room,SL A8 r4.Tally.Counts.length c9,I r4.Fare,SL A10 r4.Tickets.length c11]) (old:=[SL A12 r4.Shows.length c13]) (post:=[SL A14 r4.Boxes.length c15]) (vs:=[SL A47 (r4.Shows++([(TicketShow.mk 0 0 7)]:List TicketShow)).length c48]) sz26 S46 (i:=1) rfl rfl rfl rfl (rfl:_=SL A47 (r4.Shows++([(TicketShow.mk 0 0 7)]:List TicketShow)).length c48) rfl rfl rfl rfl fun w50 S51=>?_
 refine wp_nil<|c_seq<|reg<|p_ldA ty29 sz29 (S51.atX (i:=1) rfl) rfl rfl ?_
 refine p_stP (pre:=[]) (old:=[I 0,I 0,SL none 0 0,I 0,SL none 0 0,SL none 0 0,SL none 0 0]) (post:=[]) (vs:=[I r4.Tally.Trips,I r4.Tally.Room,SL A8 r4.Tally.Counts.length c9,I r4.Fare,SL A10 r4.Tickets.length c11,SL A47 (r4.Shows++([(TicketShow.mk 0 0 7)]:List TicketShow)).length c48,SL A14 r4.Boxes.length c15]) sz29 S51 (i:=6) rfl rfl rfl rfl (rfl:_=AG [I r4.Tally.Trips,I r4.Tally.Room,SL A8 r4.Tally.Counts.length c9,I r4.Fare,SL A10 r4.Tickets.length c11,SL A47 (r4.Shows++([(TicketShow.mk 0 0 7)]:List TicketShow)).length c48,SL A14 r4.Boxes.length c15]) rfl rfl rfl rfl fun w52 S53=>?_
 refine wp_nil ?_
 obtain rfl:=sJ H
 refine c_ret ?_; show bodyPostM (Fr none) 0 Tryz.prog Tryz.f36 _ .ret _ _
 refine ret_of (res1 rfl (rvA rfl ty29 sz29 (S53.atX (i:=6) rfl) rfl)) ?_
 exact ⟨_,rfl,A8,c9,A10,c11,A47,c48,A14,c15,rfl,S53.keep,⟨S53.atX (i:=2) rfl,S53.newX (i:=2) rfl⟩,⟨S53.atX (i:=3) rfl,S53.newX (i:=3) rfl⟩,⟨S53.atX (i:=4) rfl,S53.newX (i:=4) rfl⟩,⟨S53.atX (i:=5) rfl,S53.newX (i:=5) rfl⟩,(S53.apXX (i:=2) (j:=3) rfl rfl (by decide)),(S53.apXX (i:=2) (j:=4) rfl rfl (by decide)),(S53.apXX (i:=2) (j:=5) rfl rfl (by decide)),(S53.apXX (i:=3) (j:=4) rfl rfl (by decide)),(S53.apXX (i:=3) (j:=5) rfl rfl (by decide)),(S53.apXX (i:=4) (j:=5) rfl rfl (by decide)),trivial⟩
def ticket_Fits_r1 (r35:Ticket_book×Int) (a1:TicketBox) (x_1:Ticket_truth) (z_1:Bool):Option (Bool×Nat×Bool):=
 (ticket_book_fits r35.1 x_1 a1).bind fun r157=>
 bif r157 then (some (false,1,true))
 else (some (true,0,z_1))
def ticket_Fits_r2 (r35:Ticket_book×Int) (a1:TicketBox) (x_1:Ticket_truth) (z_1:Bool):Option (Bool×Nat×Bool):=
 (ticket_book_fits r35.1 x_1 a1).bind fun r277=>
 bif r277 then (some (false,1,true))
 else (some (true,0,z_1))
def ticket_Fits (a0:TicketBook) (a1:TicketBox):Option (Bool×Int):=
 (ticket_isBox a0 a1).bind fun r29=>
 (ticket_asked a0 r29).bind fun r35=>
 bif (r35.2 != 0) then (some (false,r35.2))
 else ((ticket_book_truths r35.1).bind fun r122=>
 (ticket_book_truths_1 (0,false) r35.1 (yvOf (ticket_Fits_r1 r35 a1))).bind fun r131=>
 bif (r131.1==0) then (some (false,0))
 else (some (r131.2,0)))
set_option maxRecDepth 100000 in
theorem ticket_Fits_ok {a0:TicketBook}{a1:TicketBox}{A1:Option Addr}{c2:Nat}{A4:Option Addr}{c5:Nat}{A7:Option Addr}{c8:Nat}{A10:Option Addr}{c11:Nat}{w:World}{r:Bool×Int} (H:ticket_Fits a0 a1=some r) (h3:(rd eTallyCount 7 A1 c2 a0.Tally.Counts).ok w) (h6:(rd eTicketSeason 2 A4 c5 a0.Tickets).ok w) (h9:(rd eTicketShow 3 A7 c8 a0.Shows).ok w) (h12:(rd eTicketBox 4 A10 c11 a0.Boxes).ok w) (hg13:(gW0).ok w) (hg14:(gW2).ok w):Calls Tryz.prog 37 #[AG (vB a0 A1 c2 A4 c5 A7 c8 A10 c11),AG [I a1.From,I a1.To,I a1.Pence,I a1.Lost]] w (RetV w (TU [B r.1,I r.2])):=by
 unfold ticket_Fits at H
 refine fn_of (n:=27) Tryz.func37 rfl rfl (lE rfl) ?_
 have S:=St.start w nF _ (cA h3 (cA h6 (cA h9 (cA h12 (cA hg13 (cA hg14 nM))))))
 refine c_seq<|reg<|p_boxA rfl S fun b15 w16 S17=>p_boxA rfl S17 fun b18 w19 S20=>p_all in4 rfl S20 fun b21 w22 S23=>p_all in46 rfl S23 fun b24 w25 S26=>wp_nil<|c_seq ?_
 obtain ⟨r29,h30,H⟩:=bindS H
 obtain ⟨r35,h36,H⟩:=bindS H
 refine reg_fl mixed 9 7 (by kernel_rfl) [rv (AG (vB a0 A1 c2 A4 c5 A7 c8 A10 c11)),rv (AG (vB a0 A1 c2 A4 c5 A7 c8 A10 c11)),rv (AG [I a1.From,I a1.To,I a1.Pence,I a1.Lost]),rv (B r29),rx (α:=(Option Addr)×Nat×(Option Addr)×Nat×(Option Addr)×Nat×(Option Addr)×Nat×(Option Nat)) (fun ⟨A39,c40,A41,c42,A43,c44,A45,c46,m47⟩=>TU [AG ((vB r35.1.TicketBook A39 c40 A41 c42 A43 c44 A45 c46)++(sg r35.1.shown_ 3++[Value.map m47])),I r35.2]) (fun ⟨A39,c40,A41,c42,A43,c44,A45,c46,m47⟩ lo hi=>BtwL lo hi [rd eTallyCount 7 A1 c2 a0.Tally.Counts,rd eTicketSeason 2 A4 c5 a0.Tickets,rd eTicketShow 3 A7 c8 a0.Shows,rd eTicketBox 4 A10 c11 a0.Boxes] (rd eTallyCount 7 A39 c40 r35.1.TicketBook.Tally.Counts)∧BtwL lo hi [rd eTallyCount 7 A1 c2 a0.Tally.Counts,rd eTicketSeason 2 A4 c5 a0.Tickets,rd eTicketShow 3 A7 c8 a0.Shows,rd eTicketBox 4 A10 c11 a0.Boxes] (rd eTicketSeason 2 A41 c42 r35.1.TicketBook.Tickets)∧BtwL lo hi [] (rd eTicketShow 3 A43 c44 r35.1.TicketBook.Shows)∧BtwL lo hi [] (rd eTicketBox 4 A45 c46 r35.1.TicketBook.Boxes)∧BtwL lo hi [] (mpo ekS iE m47 r35.1.by_)∧True) (fun ⟨A39,c40,A41,c42,A43,c44,A45,c46,m47⟩=>[rd eTallyCount 7 A39 c40 r35.1.TicketBook.Tally.Counts,rd eTicketSeason 2 A41 c42 r35.1.TicketBook.Tickets,rd eTicketShow 3 A43 c44 r35.1.TicketBook.Shows,rd eTicketBox 4 A45 c46 r35.1.TicketBook.Boxes,mpo ekS iE m47 r35.1.by_]),dv 14 some,dv 9 (exG 0),dv 9 (exG 1),rx (α:=Nat) (fun b70=>P b70 0) (fun b70 lo hi=>BtwL lo hi [] (bl b70 ([I 0,I 0,SL none 0 0,I 0,SL none 0 0,SL none 0 0,SL none 0 0]++(sg (List.replicate 3 0) 3++[Value.map none])) 73)∧True) (fun b70=>[bl b70 ([I 0,I 0,SL none 0 0,I 0,SL none 0 0,SL none 0 0,SL none 0 0]++(sg (List.replicate 3 0) 3++[Value.map none])) 73])] [[],[],[],[],[],[14],[9],[9],[]] rfl (by kernel_rfl) [[],[],[],[1,2],[0,1,2,3],[0,1,2,3,4],[0,1,2,3,4,5],[0,1,2,3,4,5],[],[0,1,2,3,4,5,6,8],[0,1,2,3,4,5,6,7,8,9]] (by kernel_rfl) ⟨?_,?_,?_,?_,?_,?_,?_,?_,?_,trivial⟩ ?_ ?_
 ·intro e_ w_ k_ hf_ hR_
  have S_:St w_ nF w_ [] [bl b24 [I 0] 46,bl b21 [B false] 4,bl b18 [I a1.From,I a1.To,I a1.Pence,I a1.Lost] 39,bl b15 (vB a0 A1 c2 A4 c5 A7 c8 A10 c11) 29,rd eTallyCount 7 A1 c2 a0.Tally.Counts,rd eTicketSeason 2 A4 c5 a0.Tickets,rd eTicketShow 3 A7 c8 a0.Shows,rd eTicketBox 4 A10 c11 a0.Boxes,gW0,gW2]:=S26.asP k_
  refine hopE [(2,P b15 0)] ⟨((hf_ 2 rfl).trans (rfl:_=P b15 0)),trivial⟩ ?_
  exact p_ldA ty29 sz29 (S_.atP (i:=3) rfl) rfl rfl<|wp_nil ⟨_,rfl,S_.keep,rfl⟩
 ·intro e_ w_ k_ hf_ hR_
  have S_:St w_ nF w_ [] [bl b24 [I 0] 46,bl b21 [B false] 4,bl b18 [I a1.From,I a1.To,I a1.Pence,I a1.Lost] 39,bl b15 (vB a0 A1 c2 A4 c5 A7 c8 A10 c11) 29,rd eTallyCount 7 A1 c2 a0.Tally.Counts,rd eTicketSeason 2 A4 c5 a0.Tickets,rd eTicketShow 3 A7 c8 a0.Shows,rd eTicketBox 4 A10 c11 a0.Boxes,gW0,gW2]:=S26.asP k_
  refine hopE [(2,P b15 0)] ⟨((hf_ 2 rfl).trans (rfl:_=P b15 0)),trivial⟩ ?_
  exact p_ldA ty29 sz29 (S_.atP (i:=3) rfl) rfl rfl<|wp_nil ⟨_,rfl,S_.keep,rfl⟩
 ·intro e_ w_ k_ hf_ hR_
  have S_:St w_ nF w_ [] [bl b24 [I 0] 46,bl b21 [B false] 4,bl b18 [I a1.From,I a1.To,I a1.Pence,I a1.Lost] 39,bl b15 (vB a0 A1 c2 A4 c5 A7 c8 A10 c11) 29,rd eTallyCount 7 A1 c2 a0.Tally.Counts,rd eTicketSeason 2 A4 c5 a0.Tickets,rd eTicketShow 3 A7 c8 a0.Shows,rd eTicketBox 4 A10 c11 a0.Boxes,gW0,gW2]:=S26.asP k_
  refine hopE [(3,P b18 0)] ⟨((hf_ 3 rfl).trans (rfl:_=P b18 0)),trivial⟩ ?_
  exact p_ldA ty39 sz39 (S_.atP (i:=2) rfl) rfl rfl<|wp_nil ⟨_,rfl,S_.keep,rfl⟩
 ·intro e_ w_ k_ hf_ hR_
  have S_:St w_ nF w_ [] [bl b24 [I 0] 46,bl b21 [B false] 4,bl b18 [I a1.From,I a1.To,I a1.Pence,I a1.Lost] 39,bl b15 (vB a0 A1 c2 A4 c5 A7 c8 A10 c11) 29,rd eTallyCount 7 A1 c2 a0.Tally.Counts,rd eTicketSeason 2 A4 c5 a0.Tickets,rd eTicketShow 3 A7 c8 a0.Shows,rd eTicketBox 4 A10 c11 a0.Boxes,gW0,gW2]:=S26.asP k_
  refine hopE [(11,AG (vB a0 A1 c2 A4 c5 A7 c8 A10 c11)),(12,AG [I a1.From,I a1.To,I a1.Pence,I a1.Lost])] ⟨rQ (hR_ 1 11 rfl (lE rfl) rfl),rQ (hR_ 2 12 rfl (lE rfl) rfl),trivial⟩ ?_
  refine p_cv (ticket_isBox_ok h30 (S_.atP (i:=4) rfl) (S_.atP (i:=5) rfl) (S_.atP (i:=6) rfl) (S_.atP (i:=7) rfl)) fu55 rfl S_ fun w31 S32=>wp_nil ?_
  exact ⟨_,rfl,S32.keep,rfl⟩
 ·intro e_ w_ k_ hf_ hR_
  have S_:St w_ nF w_ [] [bl b24 [I 0] 46,bl b21 [B false] 4,bl b18 [I a1.From,I a1.To,I a1.Pence,I a1.Lost] 39,bl b15 (vB a0 A1 c2 A4 c5 A7 c8 A10 c11) 29,rd eTallyCount 7 A1 c2 a0.Tally.Counts,rd eTicketSeason 2 A4 c5 a0.Tickets,rd eTicketShow 3 A7 c8 a0.Shows,rd eTicketBox 4 A10 c11 a0.Boxes,gW0,gW2]:=S26.asP k_
  refine hopE [(10,AG (vB a0 A1 c2 A4 c5 A7 c8 A10 c11)),(13,B r29)] ⟨rQ (hR_ 0 10 rfl (lE rfl) rfl),rQ (hR_ 3 13 rfl (lE rfl) rfl),trivial⟩ ?_
  refine p_cal (ticket_asked_ok h36 (S_.atP (i:=4) rfl) (S_.atP (i:=5) rfl) (S_.atP (i:=6) rfl) (S_.atP (i:=7) rfl) (S_.atP (i:=8) rfl) (S_.atP (i:=9) rfl)) fu62 rfl ?_
  rintro _ w37 ⟨A39,c40,A41,c42,A43,c44,A45,c46,m47,rfl,k38,⟨o48,n49⟩,⟨o50,n51⟩,⟨o52,n53⟩,⟨o54,n55⟩,⟨o56,n57⟩,_⟩
  have S58:=S_.callN k38 [rd eTallyCount 7 A39 c40 r35.1.TicketBook.Tally.Counts,rd eTicketSeason 2 A41 c42 r35.1.TicketBook.Tickets,rd eTicketShow 3 A43 c44 r35.1.TicketBook.Shows,rd eTicketBox 4 A45 c46 r35.1.TicketBook.Boxes,mpo ekS iE m47 r35.1.by_] (cA ⟨o48,Al.inL n49 ((cA (fp_mem (i:=4) rfl) (cA (fp_mem (i:=5) rfl) (cA (fp_mem (i:=6) rfl) (cA (fp_mem (i:=7) rfl) nM)))))⟩ (cA ⟨o50,Al.inL n51 ((cA (fp_mem (i:=4) rfl) (cA (fp_mem (i:=5) rfl) (cA (fp_mem (i:=6) rfl) (cA (fp_mem (i:=7) rfl) nM)))))⟩ (cA ⟨o52,New.inL n53⟩ (cA ⟨o54,New.inL n55⟩ (cA ⟨o56,New.inL n57⟩ nM)))))
  exact wp_nil ⟨_,rfl,S58.keep,⟨(A39,c40,A41,c42,A43,c44,A45,c46,m47),rfl,⟨bL n49 rfl (S58.atP (i:=0) rfl) rfl,bL n51 rfl (S58.atP (i:=1) rfl) rfl,bL (New.al (New.mono n53 S_.keep.size)) rfl (S58.atP (i:=2) rfl) rfl,bL (New.al (New.mono n55 S_.keep.size)) rfl (S58.atP (i:=3) rfl) rfl,bL (New.al (New.mono n57 S_.keep.size)) rfl (S58.atP (i:=4) rfl) rfl,trivial⟩,(cA (S58.atP (i:=0) rfl) (cA (S58.atP (i:=1) rfl) (cA (S58.atP (i:=2) rfl) (cA (S58.atP (i:=3) rfl) (cA (S58.atP (i:=4) rfl) nM)))))⟩⟩
 ·intro e_ w_ k_ hf_ hR_
  have S_:St w_ nF w_ [] [bl b24 [I 0] 46,bl b21 [B false] 4,bl b18 [I a1.From,I a1.To,I a1.Pence,I a1.Lost] 39,bl b15 (vB a0 A1 c2 A4 c5 A7 c8 A10 c11) 29,rd eTallyCount 7 A1 c2 a0.Tally.Counts,rd eTicketSeason 2 A4 c5 a0.Tickets,rd eTicketShow 3 A7 c8 a0.Shows,rd eTicketBox 4 A10 c11 a0.Boxes,gW0,gW2]:=S26.asP k_
  obtain ⟨_,_,_,_,⟨A39,c40,A41,c42,A43,c44,A45,c46,m47⟩,q59,p60,a61⟩:=hR_ 4 14 rfl (lE rfl) rfl
  replace q59:e_ 14=TU [AG ((vB r35.1.TicketBook A39 c40 A41 c42 A43 c44 A45 c46)++(sg r35.1.shown_ 3++[Value.map m47])),I r35.2]:=q59
  have S_:=St.addL' S_ (a61 _ (.head _)) (fun _ _ _ h_=>(nE h_))
  have S_:=St.addL' S_ (a61 _ (.tail _ (.head _))) (fun _ _ _ h_=>(nE h_))
  have S_:=St.addL' S_ (a61 _ (.tail _ (.tail _ (.head _)))) (fun _ _ _ h_=>(nE h_))
  have S_:=St.addL' S_ (a61 _ (.tail _ (.tail _ (.tail _ (.head _))))) (fun _ _ _ h_=>(nE h_))
  have S_:=St.addL' S_ (a61 _ (.tail _ (.tail _ (.tail _ (.tail _ (.head _)))))) (fun _ _ _ h_=>(nE h_))
  refine hopE [(14,TU [AG ((vB r35.1.TicketBook A39 c40 A41 c42 A43 c44 A45 c46)++(sg r35.1.shown_ 3++[Value.map m47])),I r35.2])] ⟨q59,trivial⟩ ?_
  refine p_mT rfl<|wp_nil ?_
  exact ⟨_,rfl,S_.keep,rfl⟩
 ·intro e_ w_ k_ hf_ hR_
  have S_:St w_ nF w_ [] [bl b24 [I 0] 46,bl b21 [B false] 4,bl b18 [I a1.From,I a1.To,I a1.Pence,I a1.Lost] 39,bl b15 (vB a0 A1 c2 A4 c5 A7 c8 A10 c11) 29,rd eTallyCount 7 A1 c2 a0.Tally.Counts,rd eTicketSeason 2 A4 c5 a0.Tickets,rd eTicketShow 3 A7 c8 a0.Shows,rd eTicketBox 4 A10 c11 a0.Boxes,gW0,gW2]:=S26.asP k_
  obtain ⟨_,_,_,_,⟨A39,c40,A41,c42,A43,c44,A45,c46,m47⟩,q63,p64,a65⟩:=hR_ 4 14 rfl (lE rfl) rfl
  replace q63:e_ 14=TU [AG ((vB r35.1.TicketBook A39 c40 A41 c42 A43 c44 A45 c46)++(sg r35.1.shown_ 3++[Value.map m47])),I r35.2]:=q63
  have S_:=St.addL' S_ (a65 _ (.head _)) (fun _ _ _ h_=>(nE h_))
  have S_:=St.addL' S_ (a65 _ (.tail _ (.head _))) (fun _ _ _ h_=>(nE h_))
  have S_:=St.addL' S_ (a65 _ (.tail _ (.tail _ (.head _)))) (fun _ _ _ h_=>(nE h_))
  have S_:=St.addL' S_ (a65 _ (.tail _ (.tail _ (.tail _ (.head _))))) (fun _ _ _ h_=>(nE h_))
  have S_:=St.addL' S_ (a65 _ (.tail _ (.tail _ (.tail _ (.tail _ (.head _)))))) (fun _ _ _ h_=>(nE h_))
  obtain ⟨_,_,_,_,q62⟩:=hR_ 5 9 rfl (lE rfl) rfl
  replace q62:e_ 9=TU [AG ((vB r35.1.TicketBook A39 c40 A41 c42 A43 c44 A45 c46)++(sg r35.1.shown_ 3++[Value.map m47])),I r35.2]:=(sJ ((congrArg some q63).symm.trans q62)).symm
  refine hopE [(9,TU [AG ((vB r35.1.TicketBook A39 c40 A41 c42 A43 c44 A45 c46)++(sg r35.1.shown_ 3++[Value.map m47])),I r35.2])] ⟨q62,trivial⟩ ?_
  refine p_ext rfl rfl<|wp_nil ?_
  exact ⟨_,rfl,S_.keep,rfl⟩
 ·intro e_ w_ k_ hf_ hR_
  have S_:St w_ nF w_ [] [bl b24 [I 0] 46,bl b21 [B false] 4,bl b18 [I a1.From,I a1.To,I a1.Pence,I a1.Lost] 39,bl b15 (vB a0 A1 c2 A4 c5 A7 c8 A10 c11) 29,rd eTallyCount 7 A1 c2 a0.Tally.Counts,rd eTicketSeason 2 A4 c5 a0.Tickets,rd eTicketShow 3 A7 c8 a0.Shows,rd eTicketBox 4 A10 c11 a0.Boxes,gW0,gW2]:=S26.asP k_
  obtain ⟨_,_,_,_,⟨A39,c40,A41,c42,A43,c44,A45,c46,m47⟩,q67,p68,a69⟩:=hR_ 4 14 rfl (lE rfl) rfl
  replace q67:e_ 14=TU [AG ((vB r35.1.TicketBook A39 c40 A41 c42 A43 c44 A45 c46)++(sg r35.1.shown_ 3++[Value.map m47])),I r35.2]:=q67
  have S_:=St.addL' S_ (a69 _ (.head _)) (fun _ _ _ h_=>(nE h_))
  have S_:=St.addL' S_ (a69 _ (.tail _ (.head _))) (fun _ _ _ h_=>(nE h_))
  have S_:=St.addL' S_ (a69 _ (.tail _ (.tail _ (.head _)))) (fun _ _ _ h_=>(nE h_))
  have S_:=St.addL' S_ (a69 _ (.tail _ (.tail _ (.tail _ (.head _))))) (fun _ _ _ h_=>(nE h_))
  have S_:=St.addL' S_ (a69 _ (.tail _ (.tail _ (.tail _ (.tail _ (.head _)))))) (fun _ _ _ h_=>(nE h_))
  obtain ⟨_,_,_,_,q66⟩:=hR_ 5 9 rfl (lE rfl) rfl
  replace q66:e_ 9=TU [AG ((vB r35.1.TicketBook A39 c40 A41 c42 A43 c44 A45 c46)++(sg r35.1.shown_ 3++[Value.map m47])),I r35.2]:=(sJ ((congrArg some q67).symm.trans q66)).symm
  refine hopE [(9,TU [AG ((vB r35.1.TicketBook A39 c40 A41 c42 A43 c44 A45 c46)++(sg r35.1.shown_ 3++[Value.map m47])),I r35.2])] ⟨q66,trivial⟩ ?_
  refine p_ext rfl rfl<|wp_nil ?_
  exact ⟨_,rfl,S_.keep,rfl⟩
 ·intro e_ w_ k_ hf_ hR_
  have S_:St w_ nF w_ [] [bl b24 [I 0] 46,bl b21 [B false] 4,bl b18 [I a1.From,I a1.To,I a1.Pence,I a1.Lost] 39,bl b15 (vB a0 A1 c2 A4 c5 A7 c8 A10 c11) 29,rd eTallyCount 7 A1 c2 a0.Tally.Counts,rd eTicketSeason 2 A4 c5 a0.Tickets,rd eTicketShow 3 A7 c8 a0.Shows,rd eTicketBox 4 A10 c11 a0.Boxes,gW0,gW2]:=S26.asP k_
  refine hopE [] trivial ?_
  refine p_allA in73 S_ fun b70 w71 S72=>wp_nil ?_
  exact ⟨_,rfl,S72.keep,⟨b70,rfl,⟨bL (New.al (S72.newX (i:=0) rfl)) rfl (S72.atX (i:=0) rfl) rfl,trivial⟩,(cA (S72.atX (i:=0) rfl) nM)⟩⟩
 ·intro e73 w74 lo75 hi76 k77 hf78 hR79 hd80
  have S81:=S26.call k77
  have q82:e73 10=AG (vB a0 A1 c2 A4 c5 A7 c8 A10 c11):=(hR79 0 10 (lE rfl) rfl).2.2.2
  have q83:e73 11=AG (vB a0 A1 c2 A4 c5 A7 c8 A10 c11):=(hR79 1 11 (lE rfl) rfl).2.2.2
  have q84:e73 12=AG [I a1.From,I a1.To,I a1.Pence,I a1.Lost]:=(hR79 2 12 (lE rfl) rfl).2.2.2
  have q85:e73 13=B r29:=(hR79 3 13 (lE rfl) rfl).2.2.2
  obtain ⟨h87,h88,h89,⟨A39,c40,A41,c42,A43,c44,A45,c46,m47⟩,q86,h90,h91⟩:=hR79 4 14 (lE rfl) rfl
  replace q86:e73 14=TU [AG ((vB r35.1.TicketBook A39 c40 A41 c42 A43 c44 A45 c46)++(sg r35.1.shown_ 3++[Value.map m47])),I r35.2]:=q86
  obtain ⟨p92,p93,p94,p95,p96,_⟩:=h90
  have S97:=St.addR S81 (h91 _ (.head _)) (oR p92 h87 S26 (mG [0,1,2,3] rfl))
  have S98:=St.addR S97 (h91 _ (.tail _ (.head _))) (oR p93 h87 S26 (mG [0,1,2,3] rfl))
  have S99:=St.addR S98 (h91 _ (.tail _ (.tail _ (.head _)))) (oR p94 h87 S26 (nM))
  have S100:=St.addR S99 (h91 _ (.tail _ (.tail _ (.tail _ (.head _))))) (oR p95 h87 S26 (nM))
  have S101:=St.addR S100 (h91 _ (.tail _ (.tail _ (.tail _ (.tail _ (.head _)))))) (oR p96 h87 S26 (nM))
  have q102:e73 9=TU [AG ((vB r35.1.TicketBook A39 c40 A41 c42 A43 c44 A45 c46)++(sg r35.1.shown_ 3++[Value.map m47])),I r35.2]:=(sJ ((congrArg some q86).symm.trans (hR79 5 9 (lE rfl) rfl).2.2.2)).symm
  have q103:e73 15=AG ((vB r35.1.TicketBook A39 c40 A41 c42 A43 c44 A45 c46)++(sg r35.1.shown_ 3++[Value.map m47])):=(sJ ((congrArg (exG 0) q102).symm.trans (hR79 6 15 (lE rfl) rfl).2.2.2)).symm
  have q104:e73 16=I r35.2:=(sJ ((congrArg (exG 1) q102).symm.trans (hR79 7 16 (lE rfl) rfl).2.2.2)).symm
  obtain ⟨h106,h107,h108,b70,q105,h109,h110⟩:=hR79 8 6 (lE rfl) rfl
  replace q105:e73 6=P b70 0:=q105
  obtain ⟨p111,_⟩:=h109
  have S113:=St.addO S101 (h110 _ (.head _)) (oN p111 h106 S26) (oX p111 h106 S26) (cA (oP p111 p96 h106 S26 (nM) (hd80 8 4 (lE rfl) (lE rfl) (by decide))) (cA (oP p111 p95 h106 S26 (nM) (hd80 8 4 (lE rfl) (lE rfl) (by decide))) (cA (oP p111 p94 h106 S26 (nM) (hd80 8 4 (lE rfl) (lE rfl) (by decide))) (cA (oP p111 p93 h106 S26 (mG [0,1,2,3] rfl) (hd80 8 4 (lE rfl) (lE rfl) (by decide))) (cA (oP p111 p92 h106 S26 (mG [0,1,2,3] rfl) (hd80 8 4 (lE rfl) (lE rfl) (by decide))) (oL p111 h106 S26))))))
  refine tailE [(3,P b18 0),(4,P b21 0),(5,P b24 0),(6,P b70 0),(15,AG ((vB r35.1.TicketBook A39 c40 A41 c42 A43 c44 A45 c46)++(sg r35.1.shown_ 3++[Value.map m47]))),(16,I r35.2)] ⟨((hf78 3 rfl).trans (rfl:_=P b18 0)),((hf78 4 rfl).trans (rfl:_=P b21 0)),((hf78 5 rfl).trans (rfl:_=P b24 0)),q105,q103,q104,trivial⟩ ?_
  intro g114
  refine p_stP (pre:=[]) (old:=[I 0,I 0,SL none 0 0,I 0,SL none 0 0,SL none 0 0,SL none 0 0]++(sg (List.replicate 3 0) 3++[Value.map none])) (post:=[]) (vs:=(vB r35.1.TicketBook A39 c40 A41 c42 A43 c44 A45 c46)++(sg r35.1.shown_ 3++[Value.map m47])) sz73 S113 (i:=0) rfl rfl rfl rfl (rfl:_=AG ((vB r35.1.TicketBook A39 c40 A41 c42 A43 c44 A45 c46)++(sg r35.1.shown_ 3++[Value.map m47]))) rfl rfl rfl rfl fun w115 S116=>?_
  refine p_aI rfl<|wp_nil<|c_seq<|c_seq<|reg<|p_mI rfl<|p_cmp rfl rfl rfl<|wp_nil ?_
  refine c_cond rfl (fun c117=>?_) (fun c117=>?_)
  ·replace H:=condT c117 H
   refine c_seq<|reg<|p_mI rfl<|p_st sz4 S116 (i:=2) rfl rfl (rfl:_=B false) rfl rfl fun w118 S119=>p_st sz46 S119 (i:=1) rfl rfl (rfl:_=I r35.2) rfl rfl fun w120 S121=>wp_nil ?_
   obtain rfl:=sJ H
   refine c_ret ?_; show bodyPostM (Fr none) 0 Tryz.prog Tryz.f37 _ .ret _ _
   refine ret_of (res2 rfl (rvC rfl ty4 (S121.atX (i:=2) rfl)) (rvC rfl ty46 (S121.atX (i:=1) rfl))) ?_
   exact ⟨_,rfl,rfl,S121.keep⟩
  ·replace H:=condF c117 H
   refine c_skip<|c_seq<|c_seq<|reg<|p_ldA ty73 sz73 (S116.atX (i:=0) rfl) rfl rfl ?_
   obtain ⟨r122,h123,H⟩:=bindS H
   refine p_cal (ticket_book_truths_ok h123 (S116.atP (i:=4) rfl) (S116.atP (i:=3) rfl) (S116.atP (i:=2) rfl) (S116.atP (i:=1) rfl) (S116.atP (i:=0) rfl) (S116.atP (i:=9) rfl) (S116.atP (i:=10) rfl)) fu77 rfl ?_
   rintro _ w124 ⟨b126,rfl,k125,⟨o127,n128⟩,_⟩
   have S129:=S116.addNew k125 o127 n128
   refine wp_nil<|c_block ?_
   have S130:=S129.fix (i:=0) rfl
   obtain ⟨r131,h132,H⟩:=bindS H
   have S133:=S130
   refine c_rangeG (α:=Bool) (β:=Unit) (ε:=Ticket_truth) (K:=[bl b126 ((vB r35.1.TicketBook A39 c40 A41 c42 A43 c44 A45 c46)++(sg r35.1.shown_ 3++[Value.map m47])) 73,rd eTallyCount 7 A39 c40 r35.1.TicketBook.Tally.Counts,rd eTicketSeason 2 A41 c42 r35.1.TicketBook.Tickets,rd eTicketShow 3 A43 c44 r35.1.TicketBook.Shows,rd eTicketBox 4 A45 c46 r35.1.TicketBook.Boxes,mpo ekS iE m47 r35.1.by_,gW0,gW2]) (MK:=Go.Fx.mark) (XR:=fun D134=>[]++[bx D134 (.deferred (some []))]) (it:=fun {σ} yv s_=>ticket_book_truths_1 s_ r35.1 yv) (enc:=yE0) (ticket_Fits_r1 r35 a1) [.ret] (fun z_1 y_1=>[bl b70 ((vB r35.1.TicketBook A39 c40 A41 c42 A43 c44 A45 c46)++(sg r35.1.shown_ 3++[Value.map m47])) 73,bl b24 [I 0] 46,bl b21 [B z_1] 4,bl b18 [I a1.From,I a1.To,I a1.Pence,I a1.Lost] 39,bl b15 (vB a0 A1 c2 A4 c5 A7 c8 A10 c11) 29]) false () h132 (ent_none (X0:=(fun z_1 y_1=>[bl b70 ((vB r35.1.TicketBook A39 c40 A41 c42 A43 c44 A45 c46)++(sg r35.1.shown_ 3++[Value.map m47])) 73,bl b24 [I 0] 46,bl b21 [B z_1] 4,bl b18 [I a1.From,I a1.To,I a1.Pence,I a1.Lost] 39,bl b15 (vB a0 A1 c2 A4 c5 A7 c8 A10 c11) 29]) false ()++[]) S133) rfl fu98 (fun w_ σ yv_ s_ s'_ l_ G_ A_ hH_ hG_ hk_ hd_ hy_=>(ticket_book_truths_1_ok hH_ hG_ (hk_ _ (mE (i:=0) rfl)) (hk_ _ (mE (i:=1) rfl)) (hk_ _ (mE (i:=2) rfl)) (hk_ _ (mE (i:=3) rfl)) (hk_ _ (mE (i:=4) rfl)) (hk_ _ (mE (i:=5) rfl)) (hk_ _ (mE (i:=6) rfl)) (hk_ _ (mE (i:=7) rfl)) hd_ hy_ (Link.refl _ _)).mono fun en_ w3_ ⟨u_,he_,A'_,hu_,hk2_,ho_,hf_⟩=>⟨u_,he_,hk2_,A'_,ho_,hf_⟩) (mG [0,5,4,3,2,1,10,11] rfl) (fun _=>rfl) (cA (.inl rfl) nM) ?_ ?_ ?_
   ·intro l135 oR136 oB137 Cr138 x_1 z_1 y_1 w139 b140 c141 z142 PP143 H S144 hlk145 ho146 hB147 hN148 hX149
    unfold ticket_Fits_r1 at H
    replace S144:St w139 Cr138 w139 [bx l135 oR136,bl b70 ((vB r35.1.TicketBook A39 c40 A41 c42 A43 c44 A45 c46)++(sg r35.1.shown_ 3++[Value.map m47])) 73,bl b24 [I 0] 46,bl b21 [B z_1] 4,bl b18 [I a1.From,I a1.To,I a1.Pence,I a1.Lost] 39,bl b15 (vB a0 A1 c2 A4 c5 A7 c8 A10 c11) 29] [bl b126 ((vB r35.1.TicketBook A39 c40 A41 c42 A43 c44 A45 c46)++(sg r35.1.shown_ 3++[Value.map m47])) 73,mpo ekS iE m47 r35.1.by_,rd eTicketBox 4 A45 c46 r35.1.TicketBook.Boxes,rd eTicketShow 3 A43 c44 r35.1.TicketBook.Shows,rd eTicketSeason 2 A41 c42 r35.1.TicketBook.Tickets,rd eTallyCount 7 A39 c40 r35.1.TicketBook.Tally.Counts,rd eTallyCount 7 A1 c2 a0.Tally.Counts,rd eTicketSeason 2 A4 c5 a0.Tickets,rd eTicketShow 3 A7 c8 a0.Shows,rd eTicketBox 4 A10 c11 a0.Boxes,gW0,gW2]:=S144
    refine reg<|p_allA in92 S144 fun b150 w151 S152=>p_stP (pre:=[]) (old:=sg (List.replicate 3 0) 3++sg (List.replicate 3 0) 3) (post:=[]) (vs:=sg x_1.crossed_ 3++sg x_1.used_ 3) sz92 S152 (i:=0) rfl rfl rfl rfl (rfl:_=AG (sg x_1.crossed_ 3++sg x_1.used_ 3)) rfl rfl rfl rfl fun w153 S154=>wp_nil ?_
    refine hB147 _ _ 1 _ S154 rfl fun w155 S156=>?_
    replace S156:St w139 Cr138 w155 [bl b150 (sg x_1.crossed_ 3++sg x_1.used_ 3) 92,bx l135 oB137,bl b70 ((vB r35.1.TicketBook A39 c40 A41 c42 A43 c44 A45 c46)++(sg r35.1.shown_ 3++[Value.map m47])) 73,bl b24 [I 0] 46,bl b21 [B z_1] 4,bl b18 [I a1.From,I a1.To,I a1.Pence,I a1.Lost] 39,bl b15 (vB a0 A1 c2 A4 c5 A7 c8 A10 c11) 29] [bl b126 ((vB r35.1.TicketBook A39 c40 A41 c42 A43 c44 A45 c46)++(sg r35.1.shown_ 3++[Value.map m47])) 73,mpo ekS iE m47 r35.1.by_,rd eTicketBox 4 A45 c46 r35.1.TicketBook.Boxes,rd eTicketShow 3 A43 c44 r35.1.TicketBook.Shows,rd eTicketSeason 2 A41 c42 r35.1.TicketBook.Tickets,rd eTallyCount 7 A39 c40 r35.1.TicketBook.Tally.Counts,rd eTallyCount 7 A1 c2 a0.Tally.Counts,rd eTicketSeason 2 A4 c5 a0.Tickets,rd eTicketShow 3 A7 c8 a0.Shows,rd eTicketBox 4 A10 c11 a0.Boxes,gW0,gW2]:=S156
    refine c_block<|c_seq<|reg<|p_ldA ty73 sz73 (S156.atX (i:=2) rfl) rfl rfl<|p_ldA ty92 sz92 (S156.atX (i:=0) rfl) rfl rfl<|p_ldA ty39 sz39 (S156.atX (i:=5) rfl) rfl rfl ?_
    obtain ⟨r157,h158,H⟩:=bindS H
    refine p_cv (ticket_book_fits_ok h158 (S156.atP (i:=5) rfl) (S156.atP (i:=4) rfl) (S156.atP (i:=3) rfl) (S156.atP (i:=2) rfl) (S156.atP (i:=1) rfl)) fu78 rfl S156 fun w159 S160=>wp_nil ?_
    refine c_cond rfl (fun c161=>?_) (fun c161=>?_)
    ·replace H:=condT c161 H
     refine c_seq<|reg<|p_st sz4 S160 (i:=4) rfl rfl (rfl:_=B true) rfl rfl fun w162 S163=>p_st sz46 S163 (i:=3) rfl rfl (rfl:_=I 0) rfl rfl fun w164 S165=>wp_nil ?_
     refine c_ret ?_
     have S166:=S165.pk [1,2,3,4,5,6] (by decide) [0,1,2,3,4,5,6,7,8,9,10,11] rfl rfl
     exact hX149 0 .ret _ _ true () rfl S166 (sJ H)
    ·replace H:=condF c161 H
     refine c_skip ?_
     have S166:=S160.pk [1,2,3,4,5,6] (by decide) [0,1,2,3,4,5,6,7,8,9,10,11] rfl rfl
     exact hN148 _ _ z_1 () S166 (sJ H)
   ·intro hc172
    intro l166 D167 o168 y169 w170 S171
    have S173:St w nF w170 [bl b70 ((vB r35.1.TicketBook A39 c40 A41 c42 A43 c44 A45 c46)++(sg r35.1.shown_ 3++[Value.map m47])) 73,bl b24 [I 0] 46,bl b21 [B r131.2] 4,bl b18 [I a1.From,I a1.To,I a1.Pence,I a1.Lost] 39,bl b15 (vB a0 A1 c2 A4 c5 A7 c8 A10 c11) 29,bx D167 (.deferred (some []))] [bl b126 ((vB r35.1.TicketBook A39 c40 A41 c42 A43 c44 A45 c46)++(sg r35.1.shown_ 3++[Value.map m47])) 73,mpo ekS iE m47 r35.1.by_,rd eTicketBox 4 A45 c46 r35.1.TicketBook.Boxes,rd eTicketShow 3 A43 c44 r35.1.TicketBook.Shows,rd eTicketSeason 2 A41 c42 r35.1.TicketBook.Tickets,rd eTallyCount 7 A39 c40 r35.1.TicketBook.Tally.Counts,rd eTallyCount 7 A1 c2 a0.Tally.Counts,rd eTicketSeason 2 A4 c5 a0.Tickets,rd eTicketShow 3 A7 c8 a0.Shows,rd eTicketBox 4 A10 c11 a0.Boxes,gW0,gW2]:=St.tail1 S171
    replace H:=condT (by rw [hc172]; rfl) H
    refine c_seq<|reg<|p_st sz4 S173 (i:=2) rfl rfl (rfl:_=B false) rfl rfl fun w174 S175=>p_st sz46 S175 (i:=1) rfl rfl (rfl:_=I 0) rfl rfl fun w176 S177=>wp_nil ?_
    refine c_ret ?_
    refine leave_mark S177 (i:=5) rfl fun w178 S179=>?_
    obtain rfl:=sJ H
    show bodyPostM (Fr none) 0 Tryz.prog Tryz.f37 _ .ret _ _
    refine ret_of (res2 rfl (rvC rfl ty4 (S179.atX (i:=2) rfl)) (rvC rfl ty46 (S179.atX (i:=1) rfl))) ?_
    exact ⟨_,rfl,rfl,S179.keep⟩
   ·intro k180 c181 hk182 hc183
    rcases k180 with _ | k180
    ·obtain rfl:=sJ hk182
     intro l184 D185 o186 y187 w188 S189
     have S191:St w nF w188 [bl b70 ((vB r35.1.TicketBook A39 c40 A41 c42 A43 c44 A45 c46)++(sg r35.1.shown_ 3++[Value.map m47])) 73,bl b24 [I 0] 46,bl b21 [B r131.2] 4,bl b18 [I a1.From,I a1.To,I a1.Pence,I a1.Lost] 39,bl b15 (vB a0 A1 c2 A4 c5 A7 c8 A10 c11) 29,bx D185 (.deferred (some []))] [bl b126 ((vB r35.1.TicketBook A39 c40 A41 c42 A43 c44 A45 c46)++(sg r35.1.shown_ 3++[Value.map m47])) 73,mpo ekS iE m47 r35.1.by_,rd eTicketBox 4 A45 c46 r35.1.TicketBook.Boxes,rd eTicketShow 3 A43 c44 r35.1.TicketBook.Shows,rd eTicketSeason 2 A41 c42 r35.1.TicketBook.Tickets,rd eTallyCount 7 A39 c40 r35.1.TicketBook.Tally.Counts,rd eTallyCount 7 A1 c2 a0.Tally.Counts,rd eTicketSeason 2 A4 c5 a0.Tickets,rd eTicketShow 3 A7 c8 a0.Shows,rd eTicketBox 4 A10 c11 a0.Boxes,gW0,gW2]:=St.tail1 S189
     replace H:=condF (by rw [hc183]; rfl) H
     refine c_ret ?_
     refine leave_mark S191 (i:=5) rfl fun w192 S193=>?_
     obtain rfl:=sJ H
     show bodyPostM (Fr none) 0 Tryz.prog Tryz.f37 _ .ret _ _
     refine ret_of (res2 rfl (rvC rfl ty4 (S193.atX (i:=2) rfl)) (rvC rfl ty46 (S193.atX (i:=1) rfl))) ?_
     exact ⟨_,rfl,rfl,S193.keep⟩
    ·cases hk182
 ·intro e194 w195 lo196 hi197 k198 hf199 hR200 hd201
  have S202:=S26.call k198
  have q203:e194 10=AG (vB a0 A1 c2 A4 c5 A7 c8 A10 c11):=(hR200 0 10 (lE rfl) (by decide) rfl).2.2.2
  have q204:e194 11=AG (vB a0 A1 c2 A4 c5 A7 c8 A10 c11):=(hR200 1 11 (lE rfl) (by decide) rfl).2.2.2
  have q205:e194 12=AG [I a1.From,I a1.To,I a1.Pence,I a1.Lost]:=(hR200 2 12 (lE rfl) (by decide) rfl).2.2.2
  have q206:e194 13=B r29:=(hR200 3 13 (lE rfl) (by decide) rfl).2.2.2
  obtain ⟨h208,h209,h210,⟨A39,c40,A41,c42,A43,c44,A45,c46,m47⟩,q207,h211,h212⟩:=hR200 4 14 (lE rfl) (by decide) rfl
  replace q207:e194 14=TU [AG ((vB r35.1.TicketBook A39 c40 A41 c42 A43 c44 A45 c46)++(sg r35.1.shown_ 3++[Value.map m47])),I r35.2]:=q207
  obtain ⟨p213,p214,p215,p216,p217,_⟩:=h211
  have S218:=St.addR S202 (h212 _ (.head _)) (oR p213 h208 S26 (mG [0,1,2,3] rfl))
  have S219:=St.addR S218 (h212 _ (.tail _ (.head _))) (oR p214 h208 S26 (mG [0,1,2,3] rfl))
  have S220:=St.addR S219 (h212 _ (.tail _ (.tail _ (.head _)))) (oR p215 h208 S26 (nM))
  have S221:=St.addR S220 (h212 _ (.tail _ (.tail _ (.tail _ (.head _))))) (oR p216 h208 S26 (nM))
  have S222:=St.addR S221 (h212 _ (.tail _ (.tail _ (.tail _ (.tail _ (.head _)))))) (oR p217 h208 S26 (nM))
  have q223:e194 9=TU [AG ((vB r35.1.TicketBook A39 c40 A41 c42 A43 c44 A45 c46)++(sg r35.1.shown_ 3++[Value.map m47])),I r35.2]:=(sJ ((congrArg some q207).symm.trans (hR200 5 9 (lE rfl) (by decide) rfl).2.2.2)).symm
  have q224:e194 15=AG ((vB r35.1.TicketBook A39 c40 A41 c42 A43 c44 A45 c46)++(sg r35.1.shown_ 3++[Value.map m47])):=(sJ ((congrArg (exG 0) q223).symm.trans (hR200 6 15 (lE rfl) (by decide) rfl).2.2.2)).symm
  obtain ⟨h226,h227,h228,b70,q225,h229,h230⟩:=hR200 8 6 (lE rfl) (by decide) rfl
  replace q225:e194 6=P b70 0:=q225
  obtain ⟨p231,_⟩:=h229
  have S233:=St.addO S222 (h230 _ (.head _)) (oN p231 h226 S26) (oX p231 h226 S26) (cA (oP p231 p217 h226 S26 (nM) (hd201 8 4 (lE rfl) (lE rfl) (by decide) (by decide) (by decide))) (cA (oP p231 p216 h226 S26 (nM) (hd201 8 4 (lE rfl) (lE rfl) (by decide) (by decide) (by decide))) (cA (oP p231 p215 h226 S26 (nM) (hd201 8 4 (lE rfl) (lE rfl) (by decide) (by decide) (by decide))) (cA (oP p231 p214 h226 S26 (mG [0,1,2,3] rfl) (hd201 8 4 (lE rfl) (lE rfl) (by decide) (by decide) (by decide))) (cA (oP p231 p213 h226 S26 (mG [0,1,2,3] rfl) (hd201 8 4 (lE rfl) (lE rfl) (by decide) (by decide) (by decide))) (oL p231 h226 S26))))))
  refine tailE [(3,P b18 0),(4,P b21 0),(5,P b24 0),(6,P b70 0),(9,TU [AG ((vB r35.1.TicketBook A39 c40 A41 c42 A43 c44 A45 c46)++(sg r35.1.shown_ 3++[Value.map m47])),I r35.2]),(15,AG ((vB r35.1.TicketBook A39 c40 A41 c42 A43 c44 A45 c46)++(sg r35.1.shown_ 3++[Value.map m47])))] ⟨((hf199 3 rfl).trans (rfl:_=P b18 0)),((hf199 4 rfl).trans (rfl:_=P b21 0)),((hf199 5 rfl).trans (rfl:_=P b24 0)),q225,q223,q224,trivial⟩ ?_
  intro g234
  refine p_stP (pre:=[]) (old:=[I 0,I 0,SL none 0 0,I 0,SL none 0 0,SL none 0 0,SL none 0 0]++(sg (List.replicate 3 0) 3++[Value.map none])) (post:=[]) (vs:=(vB r35.1.TicketBook A39 c40 A41 c42 A43 c44 A45 c46)++(sg r35.1.shown_ 3++[Value.map m47])) sz73 S233 (i:=0) rfl rfl rfl rfl (rfl:_=AG ((vB r35.1.TicketBook A39 c40 A41 c42 A43 c44 A45 c46)++(sg r35.1.shown_ 3++[Value.map m47]))) rfl rfl rfl rfl fun w235 S236=>?_
  refine p_ext rfl rfl<|p_aI rfl<|wp_nil<|c_seq<|c_seq<|reg<|p_mI rfl<|p_cmp rfl rfl rfl<|wp_nil ?_
  refine c_cond rfl (fun c237=>?_) (fun c237=>?_)
  ·replace H:=condT c237 H
   refine c_seq<|reg<|p_mI rfl<|p_st sz4 S236 (i:=2) rfl rfl (rfl:_=B false) rfl rfl fun w238 S239=>p_st sz46 S239 (i:=1) rfl rfl (rfl:_=I r35.2) rfl rfl fun w240 S241=>wp_nil ?_
   obtain rfl:=sJ H
   refine c_ret ?_; show bodyPostM (Fr none) 0 Tryz.prog Tryz.f37 _ .ret _ _
   refine ret_of (res2 rfl (rvC rfl ty4 (S241.atX (i:=2) rfl)) (rvC rfl ty46 (S241.atX (i:=1) rfl))) ?_
   exact ⟨_,rfl,rfl,S241.keep⟩
  ·replace H:=condF c237 H
   refine c_skip<|c_seq<|c_seq<|reg<|p_ldA ty73 sz73 (S236.atX (i:=0) rfl) rfl rfl ?_
   obtain ⟨r242,h243,H⟩:=bindS H
   refine p_cal (ticket_book_truths_ok h243 (S236.atP (i:=4) rfl) (S236.atP (i:=3) rfl) (S236.atP (i:=2) rfl) (S236.atP (i:=1) rfl) (S236.atP (i:=0) rfl) (S236.atP (i:=9) rfl) (S236.atP (i:=10) rfl)) fu77 rfl ?_
   rintro _ w244 ⟨b246,rfl,k245,⟨o247,n248⟩,_⟩
   have S249:=S236.addNew k245 o247 n248
   refine wp_nil<|c_block ?_
   have S250:=S249.fix (i:=0) rfl
   obtain ⟨r251,h252,H⟩:=bindS H
   have S253:=S250
   refine c_rangeG (α:=Bool) (β:=Unit) (ε:=Ticket_truth) (K:=[bl b246 ((vB r35.1.TicketBook A39 c40 A41 c42 A43 c44 A45 c46)++(sg r35.1.shown_ 3++[Value.map m47])) 73,rd eTallyCount 7 A39 c40 r35.1.TicketBook.Tally.Counts,rd eTicketSeason 2 A41 c42 r35.1.TicketBook.Tickets,rd eTicketShow 3 A43 c44 r35.1.TicketBook.Shows,rd eTicketBox 4 A45 c46 r35.1.TicketBook.Boxes,mpo ekS iE m47 r35.1.by_,gW0,gW2]) (MK:=Go.Fx.mark) (XR:=fun D254=>[]++[bx D254 (.deferred (some []))]) (it:=fun {σ} yv s_=>ticket_book_truths_1 s_ r35.1 yv) (enc:=yE0) (ticket_Fits_r2 r35 a1) [.ret] (fun z_1 y_1=>[bl b70 ((vB r35.1.TicketBook A39 c40 A41 c42 A43 c44 A45 c46)++(sg r35.1.shown_ 3++[Value.map m47])) 73,bl b24 [I 0] 46,bl b21 [B z_1] 4,bl b18 [I a1.From,I a1.To,I a1.Pence,I a1.Lost] 39,bl b15 (vB a0 A1 c2 A4 c5 A7 c8 A10 c11) 29]) false () h252 (ent_none (X0:=(fun z_1 y_1=>[bl b70 ((vB r35.1.TicketBook A39 c40 A41 c42 A43 c44 A45 c46)++(sg r35.1.shown_ 3++[Value.map m47])) 73,bl b24 [I 0] 46,bl b21 [B z_1] 4,bl b18 [I a1.From,I a1.To,I a1.Pence,I a1.Lost] 39,bl b15 (vB a0 A1 c2 A4 c5 A7 c8 A10 c11) 29]) false ()++[]) S253) rfl fu98 (fun w_ σ yv_ s_ s'_ l_ G_ A_ hH_ hG_ hk_ hd_ hy_=>(ticket_book_truths_1_ok hH_ hG_ (hk_ _ (mE (i:=0) rfl)) (hk_ _ (mE (i:=1) rfl)) (hk_ _ (mE (i:=2) rfl)) (hk_ _ (mE (i:=3) rfl)) (hk_ _ (mE (i:=4) rfl)) (hk_ _ (mE (i:=5) rfl)) (hk_ _ (mE (i:=6) rfl)) (hk_ _ (mE (i:=7) rfl)) hd_ hy_ (Link.refl _ _)).mono fun en_ w3_ ⟨u_,he_,A'_,hu_,hk2_,ho_,hf_⟩=>⟨u_,he_,hk2_,A'_,ho_,hf_⟩) (mG [0,5,4,3,2,1,10,11] rfl) (fun _=>rfl) (cA (.inl rfl) nM) ?_ ?_ ?_
   ·intro l255 oR256 oB257 Cr258 x_1 z_1 y_1 w259 b260 c261 z262 PP263 H S264 hlk265 ho266 hB267 hN268 hX269
    unfold ticket_Fits_r2 at H
    replace S264:St w259 Cr258 w259 [bx l255 oR256,bl b70 ((vB r35.1.TicketBook A39 c40 A41 c42 A43 c44 A45 c46)++(sg r35.1.shown_ 3++[Value.map m47])) 73,bl b24 [I 0] 46,bl b21 [B z_1] 4,bl b18 [I a1.From,I a1.To,I a1.Pence,I a1.Lost] 39,bl b15 (vB a0 A1 c2 A4 c5 A7 c8 A10 c11) 29] [bl b246 ((vB r35.1.TicketBook A39 c40 A41 c42 A43 c44 A45 c46)++(sg r35.1.shown_ 3++[Value.map m47])) 73,mpo ekS iE m47 r35.1.by_,rd eTicketBox 4 A45 c46 r35.1.TicketBook.Boxes,rd eTicketShow 3 A43 c44 r35.1.TicketBook.Shows,rd eTicketSeason 2 A41 c42 r35.1.TicketBook.Tickets,rd eTallyCount 7 A39 c40 r35.1.TicketBook.Tally.Counts,rd eTallyCount 7 A1 c2 a0.Tally.Counts,rd eTicketSeason 2 A4 c5 a0.Tickets,rd eTicketShow 3 A7 c8 a0.Shows,rd eTicketBox 4 A10 c11 a0.Boxes,gW0,gW2]:=S264
    refine reg<|p_allA in92 S264 fun b270 w271 S272=>p_stP (pre:=[]) (old:=sg (List.replicate 3 0) 3++sg (List.replicate 3 0) 3) (post:=[]) (vs:=sg x_1.crossed_ 3++sg x_1.used_ 3) sz92 S272 (i:=0) rfl rfl rfl rfl (rfl:_=AG (sg x_1.crossed_ 3++sg x_1.used_ 3)) rfl rfl rfl rfl fun w273 S274=>wp_nil ?_
    refine hB267 _ _ 1 _ S274 rfl fun w275 S276=>?_
    replace S276:St w259 Cr258 w275 [bl b270 (sg x_1.crossed_ 3++sg x_1.used_ 3) 92,bx l255 oB257,bl b70 ((vB r35.1.TicketBook A39 c40 A41 c42 A43 c44 A45 c46)++(sg r35.1.shown_ 3++[Value.map m47])) 73,bl b24 [I 0] 46,bl b21 [B z_1] 4,bl b18 [I a1.From,I a1.To,I a1.Pence,I a1.Lost] 39,bl b15 (vB a0 A1 c2 A4 c5 A7 c8 A10 c11) 29] [bl b246 ((vB r35.1.TicketBook A39 c40 A41 c42 A43 c44 A45 c46)++(sg r35.1.shown_ 3++[Value.map m47])) 73,mpo ekS iE m47 r35.1.by_,rd eTicketBox 4 A45 c46 r35.1.TicketBook.Boxes,rd eTicketShow 3 A43 c44 r35.1.TicketBook.Shows,rd eTicketSeason 2 A41 c42 r35.1.TicketBook.Tickets,rd eTallyCount 7 A39 c40 r35.1.TicketBook.Tally.Counts,rd eTallyCount 7 A1 c2 a0.Tally.Counts,rd eTicketSeason 2 A4 c5 a0.Tickets,rd eTicketShow 3 A7 c8 a0.Shows,rd eTicketBox 4 A10 c11 a0.Boxes,gW0,gW2]:=S276
    refine c_block<|c_seq<|reg<|p_ldA ty73 sz73 (S276.atX (i:=2) rfl) rfl rfl<|p_ldA ty92 sz92 (S276.atX (i:=0) rfl) rfl rfl<|p_ldA ty39 sz39 (S276.atX (i:=5) rfl) rfl rfl ?_
    obtain ⟨r277,h278,H⟩:=bindS H
    refine p_cv (ticket_book_fits_ok h278 (S276.atP (i:=5) rfl) (S276.atP (i:=4) rfl) (S276.atP (i:=3) rfl) (S276.atP (i:=2) rfl) (S276.atP (i:=1) rfl)) fu78 rfl S276 fun w279 S280=>wp_nil ?_
    refine c_cond rfl (fun c281=>?_) (fun c281=>?_)
    ·replace H:=condT c281 H
     refine c_seq<|reg<|p_st sz4 S280 (i:=4) rfl rfl (rfl:_=B true) rfl rfl fun w282 S283=>p_st sz46 S283 (i:=3) rfl rfl (rfl:_=I 0) rfl rfl fun w284 S285=>wp_nil ?_
     refine c_ret ?_
     have S286:=S285.pk [1,2,3,4,5,6] (by decide) [0,1,2,3,4,5,6,7,8,9,10,11] rfl rfl
     exact hX269 0 .ret _ _ true () rfl S286 (sJ H)
    ·replace H:=condF c281 H
     refine c_skip ?_
     have S286:=S280.pk [1,2,3,4,5,6] (by decide) [0,1,2,3,4,5,6,7,8,9,10,11] rfl rfl
     exact hN268 _ _ z_1 () S286 (sJ H)
   ·intro hc292
    intro l286 D287 o288 y289 w290 S291
    have S293:St w nF w290 [bl b70 ((vB r35.1.TicketBook A39 c40 A41 c42 A43 c44 A45 c46)++(sg r35.1.shown_ 3++[Value.map m47])) 73,bl b24 [I 0] 46,bl b21 [B r251.2] 4,bl b18 [I a1.From,I a1.To,I a1.Pence,I a1.Lost] 39,bl b15 (vB a0 A1 c2 A4 c5 A7 c8 A10 c11) 29,bx D287 (.deferred (some []))] [bl b246 ((vB r35.1.TicketBook A39 c40 A41 c42 A43 c44 A45 c46)++(sg r35.1.shown_ 3++[Value.map m47])) 73,mpo ekS iE m47 r35.1.by_,rd eTicketBox 4 A45 c46 r35.1.TicketBook.Boxes,rd eTicketShow 3 A43 c44 r35.1.TicketBook.Shows,rd eTicketSeason 2 A41 c42 r35.1.TicketBook.Tickets,rd eTallyCount 7 A39 c40 r35.1.TicketBook.Tally.Counts,rd eTallyCount 7 A1 c2 a0.Tally.Counts,rd eTicketSeason 2 A4 c5 a0.Tickets,rd eTicketShow 3 A7 c8 a0.Shows,rd eTicketBox 4 A10 c11 a0.Boxes,gW0,gW2]:=St.tail1 S291
    replace H:=condT (by rw [hc292]; rfl) H
    refine c_seq<|reg<|p_st sz4 S293 (i:=2) rfl rfl (rfl:_=B false) rfl rfl fun w294 S295=>p_st sz46 S295 (i:=1) rfl rfl (rfl:_=I 0) rfl rfl fun w296 S297=>wp_nil ?_
    refine c_ret ?_
    refine leave_mark S297 (i:=5) rfl fun w298 S299=>?_
    obtain rfl:=sJ H
    show bodyPostM (Fr none) 0 Tryz.prog Tryz.f37 _ .ret _ _
    refine ret_of (res2 rfl (rvC rfl ty4 (S299.atX (i:=2) rfl)) (rvC rfl ty46 (S299.atX (i:=1) rfl))) ?_
    exact ⟨_,rfl,rfl,S299.keep⟩
   ·intro k300 c301 hk302 hc303
    rcases k300 with _ | k300
    ·obtain rfl:=sJ hk302
     intro l304 D305 o306 y307 w308 S309
     have S311:St w nF w308 [bl b70 ((vB r35.1.TicketBook A39 c40 A41 c42 A43 c44 A45 c46)++(sg r35.1.shown_ 3++[Value.map m47])) 73,bl b24 [I 0] 46,bl b21 [B r251.2] 4,bl b18 [I a1.From,I a1.To,I a1.Pence,I a1.Lost] 39,bl b15 (vB a0 A1 c2 A4 c5 A7 c8 A10 c11) 29,bx D305 (.deferred (some []))] [bl b246 ((vB r35.1.TicketBook A39 c40 A41 c42 A43 c44 A45 c46)++(sg r35.1.shown_ 3++[Value.map m47])) 73,mpo ekS iE m47 r35.1.by_,rd eTicketBox 4 A45 c46 r35.1.TicketBook.Boxes,rd eTicketShow 3 A43 c44 r35.1.TicketBook.Shows,rd eTicketSeason 2 A41 c42 r35.1.TicketBook.Tickets,rd eTallyCount 7 A39 c40 r35.1.TicketBook.Tally.Counts,rd eTallyCount 7 A1 c2 a0.Tally.Counts,rd eTicketSeason 2 A4 c5 a0.Tickets,rd eTicketShow 3 A7 c8 a0.Shows,rd eTicketBox 4 A10 c11 a0.Boxes,gW0,gW2]:=St.tail1 S309
     replace H:=condF (by rw [hc303]; rfl) H
     refine c_ret ?_
     refine leave_mark S311 (i:=5) rfl fun w312 S313=>?_
     obtain rfl:=sJ H
     show bodyPostM (Fr none) 0 Tryz.prog Tryz.f37 _ .ret _ _
     refine ret_of (res2 rfl (rvC rfl ty4 (S313.atX (i:=2) rfl)) (rvC rfl ty46 (S313.atX (i:=1) rfl))) ?_
     exact ⟨_,rfl,rfl,S313.keep⟩
    ·cases hk302
def ticket_some_1 (a0:Int) (q0:List Int):Option Bool:=
 (sl_Contains_int_int q0 a0).bind fun r6=>
 some r6
set_option maxRecDepth 100000 in
theorem ticket_some_1_ok {a0:Int}{q0:List Int}{b1:Nat}{A2:Option Addr}{c3:Nat}{w:World}{r:Bool} (H:ticket_some_1 a0 q0=some r) (h5:(bl b1 [SL A2 q0.length c3] 60).ok w) (h4:(rd intE 1 A2 c3 q0).ok w):Calls Tryz.prog 105 #[I a0,P b1 0] w (RetV w (B r)):=by
 unfold ticket_some_1 at H
 refine fn_of (n:=7) Tryz.func105 rfl rfl (lE rfl) ?_
 have S:=St.start w nF _ (cA h5 (cA h4 nM))
 refine c_seq<|reg<|p_aB rfl<|wp_nil<|c_seq<|reg<|p_ld ty60 (S.atP (i:=0) rfl) rfl rfl<|p_mI rfl ?_
 obtain ⟨r6,h7,H⟩:=bindS H
 refine p_cv (sl_Contains_int_int_ok h7 (S.atP (i:=1) rfl)) fu75 rfl S fun w8 S9=>p_aB rfl<|wp_nil ?_
 obtain rfl:=sJ H
 exact c_ret (rT Tryz.f105 S9.keep rfl rfl)
def ticket_some (a0:List Int):Option Unit:=
 some ()
set_option maxRecDepth 100000 in
theorem ticket_some_ok {a0:List Int}{A1:Option Addr}{c2:Nat}{w:World}{r:Unit} (H:ticket_some a0=some r) (h3:(rd intE 1 A1 c2 a0).ok w):Calls Tryz.prog 80 #[SL A1 a0.length c2] w fun en w_=>∃ u_,en=.returned u_∧∃ b_1:Nat,u_=AG [vF (.func 105) #[] #[P b_1 0]]∧Keep0 w w_∧((bl b_1 [SL A1 a0.length c2] 60).ok w_∧New w.heap.size (bl b_1 [SL A1 a0.length c2] 60))∧True:=by
 unfold ticket_some at H
 refine fn_of (n:=5) Tryz.func80 rfl rfl (lE rfl) ?_
 have S:=St.start w nF _ (cA h3 nM)
 refine c_seq<|reg<|p_box (rfl:_=SL A1 a0.length c2) rfl S fun b4 w5 S6=>p_allA in77 S6 fun b7 w8 S9=>wp_nil<|c_seq<|reg ?_
 refine o_fun (rfl:_=[]) (rfl:_=[P b4 0]) ?_
 refine p_bld (cs:=[vF (.func 105) #[] #[P b4 0]]) st77 (rfl:_=[(0,vF (.func 105) #[] #[P b4 0])]) (by kernel_rfl)<|p_stP (pre:=[]) (old:=[Value.nilFunc]) (post:=[]) (vs:=[vF (.func 105) #[] #[P b4 0]]) sz77 S9 (i:=0) rfl rfl rfl rfl (rfl:_=AG [vF (.func 105) #[] #[P b4 0]]) rfl rfl rfl rfl fun w10 S11=>wp_nil ?_
 obtain rfl:=sJ H
 refine c_ret ?_; show bodyPostM (Fr none) 0 Tryz.prog Tryz.f80 _ .ret _ _
 refine ret_of (res1 rfl (rvA rfl ty77 sz77 (S11.atX (i:=0) rfl) rfl)) ?_
 exact ⟨_,rfl,b4,rfl,S11.keep,⟨S11.atX (i:=1) rfl,S11.newX (i:=1) rfl⟩,trivial⟩
def ticket_Wrong_1_l3 (q1:Int) (a0:List Int) (rec_:(List Int)→Int→Option ((List Int)×Bool)) (a1:Int) (rec_z_2:Int→Option ((List Int)×Bool)) (z_2:Int):Option ((List Int)×Bool):=
 bif decide (z_2 < q1) then (need (fitsL (a0.length+([z_2]:List Int).length) 8)<|
 (rec_ (a0++([z_2]:List Int)) a1).bind fun r101=>
 bif r101.2 then (some (r101.1,true))
 else (rec_z_2 (wr (z_2+1))))
 else (some (([]:List _),false))
def ticket_Wrong_1_j4 (q1:Int) (a0:List Int) (rec_:(List Int)→Int→Option ((List Int)×Bool)) (a1:Int) (z_1:Int):Option ((List Int)×Bool):=
 loopF (ticket_Wrong_1_l3 q1 a0 rec_ a1) big z_1
def ticket_Wrong_1_F (rec_:(List Int)→Int→Option ((List Int)×Bool)) (a0:List Int) (a1:Int) (q0:TicketBook) (q1:Int):Option ((List Int)×Bool):=
 bif ((a0.length:Int)==a1) then ((ticket_some a0).bind fun r28=>
 (ticket_opened q0 (Ticket_choice.mk (fun y39=>ticket_some_1 y39 a0))).bind fun r40=>
 (ticket_book_isTrue (Ticket_book.mk (TicketBook.mk (TallyBook.mk r40.TicketBook.Tally.Trips r40.TicketBook.Tally.Room q0.Tally.Counts) r40.TicketBook.Fare q0.Tickets r40.TicketBook.Shows r40.TicketBook.Boxes) r40.shown_ r40.by_)).bind fun r59=>
 some (a0,r59))
 else (bif decide ((a0.length:Int) > 0) then ((getI a0 (wr ((a0.length:Int) - 1))).bind fun r70=>
 ticket_Wrong_1_j4 q1 a0 rec_ a1 (wr (r70+1)))
 else (ticket_Wrong_1_j4 q1 a0 rec_ a1 0))
def ticket_Wrong_1:Nat→(List Int)→Int→TicketBook→Int→Option ((List Int)×Bool)
 | 0,_,_,_,_=>none
 | n+1,a0,a1,q0,q1=>ticket_Wrong_1_F (fun x0_ x1_=>ticket_Wrong_1 n x0_ x1_ q0 q1) a0 a1 q0 q1
set_option maxRecDepth 100000 in
theorem ticket_Wrong_1_ok {n:Nat}:∀ {a0:List Int}{a1:Int}{q0:TicketBook}{q1:Int}{A1:Option Addr}{c2:Nat}{b4:Nat}{A7:Option Addr}{c8:Nat}{A10:Option Addr}{c11:Nat}{A13:Option Addr}{c14:Nat}{A16:Option Addr}{c17:Nat}{b5:Nat}{b6:Nat}{w:World}{r:(List Int)×Bool} (H:ticket_Wrong_1 n a0 a1 q0 q1=some r) (h21:(bl b6 [vF (.func 79) #[] #[P b4 0,P b5 0,P b6 0]] 113).ok w) (h20:(bl b5 [I q1] 3).ok w) (h19:(bl b4 (vB q0 A7 c8 A10 c11 A13 c14 A16 c17) 29).ok w) (h3:(rd intE 1 A1 c2 a0).ok w) (h9:(rd eTallyCount 7 A7 c8 q0.Tally.Counts).ok w) (h12:(rd eTicketSeason 2 A10 c11 q0.Tickets).ok w) (h15:(rd eTicketShow 3 A13 c14 q0.Shows).ok w) (h18:(rd eTicketBox 4 A16 c17 q0.Boxes).ok w) (hg22:(gW0).ok w) (hg23:(gW2).ok w),Calls Tryz.prog 79 #[SL A1 a0.length c2,I a1,P b4 0,P b5 0,P b6 0] w fun en w_=>∃ u_,en=.returned u_∧∃ A_1:Option Addr,∃ c_2:Nat,u_=TU [SL A_1 r.1.length c_2,B r.2]∧Keep0 w w_∧((rd intE 1 A_1 c_2 r.1).ok w_∧Al w [rd intE 1 A1 c2 a0,rd eTallyCount 7 A7 c8 q0.Tally.Counts,rd eTicketSeason 2 A10 c11 q0.Tickets,rd eTicketShow 3 A13 c14 q0.Shows,rd eTicketBox 4 A16 c17 q0.Boxes] (rd intE 1 A_1 c_2 r.1))∧True:=by
 induction n with
 | zero=>intro a0 a1 q0 q1 A1 c2 b4 A7 c8 A10 c11 A13 c14 A16 c17 b5 b6 w r H h21 h20 h19 h3 h9 h12 h15 h18 hg22 hg23; cases H
 | succ n ih=>
 intro a0 a1 q0 q1 A1 c2 b4 A7 c8 A10 c11 A13 c14 A16 c17 b5 b6 w r H h21 h20 h19 h3 h9 h12 h15 h18 hg22 hg23
 unfold ticket_Wrong_1 ticket_Wrong_1_F at H
 refine fn_of (n:=54) Tryz.func79 rfl rfl (lE rfl) ?_
 have S:=St.start w nF _ (cA h21 (cA h20 (cA h19 (cA h3 (cA h9 (cA h12 (cA h15 (cA h18 (cA hg22 (cA hg23 nM))))))))))
 refine c_seq<|reg<|p_aS rfl<|p_aB rfl<|wp_nil<|c_seq<|reg<|p_mS rfl<|p_len rfl sc60<|p_aI rfl<|wp_nil<|c_seq<|c_seq<|reg<|p_mI rfl<|p_mI rfl<|p_cmp rfl rfl rfl<|wp_nil ?_
 refine c_cond rfl (fun c24=>?_) (fun c24=>?_)
 ·replace H:=condT c24 H
  refine c_seq ?_
  refine reg_c mixed 8 [3,4,5,7] (by kernel_rfl) ?_
  refine kS rfl (fun _ k_=>p_mS rfl dn)<|kS rfl (fun _ k_=>p_ldA ty29 sz29 (aS (S.atP (i:=2) rfl) k_) rfl rfl dn)<|kS rfl (fun _ k_=>p_mS rfl dn)<|kC rfl<|kC rfl<|kC rfl<|kS rfl (fun _ k_=>p_aS rfl dn)<|kC rfl ?_
  intro w25 k26; have S27:=S.call k26
  obtain ⟨r28,h29,H⟩:=bindS H
  refine p_cal (ticket_some_ok h29 (S27.atP (i:=3) rfl)) fu80 rfl ?_
  rintro _ w30 ⟨b32,rfl,k31,⟨o33,n34⟩,_⟩
  have S35:=S27.addNew k31 o33 n34
  refine cN k31 fun w36 k37=>?_
  have S38:=S35.call k37
  obtain ⟨r40,h41,H⟩:=bindS H
  refine p_cal (ticket_opened_ok h41 (S38.atP (i:=4) rfl) (S38.atP (i:=5) rfl) (S38.atP (i:=6) rfl) (S38.atP (i:=7) rfl) (by kernel_rfl) (fun _ _ _ k_ hr_=>ticket_some_1_ok hr_ (aS (S38.atX (i:=0) rfl) k_) (aS (S38.atP (i:=3) rfl) k_)) (S38.atP (i:=8) rfl)) fu47 rfl ?_
  rintro _ w42 ⟨A44,c45,A46,c47,m48,rfl,k43,⟨o49,n50⟩,⟨o51,n52⟩,⟨o53,n54⟩,_⟩
  have S55:=S38.callN k43 [rd eTicketShow 3 A44 c45 r40.TicketBook.Shows,rd eTicketBox 4 A46 c47 r40.TicketBook.Boxes,mp ekS iE m48 r40.by_] (cA ⟨o49,New.inL n50⟩ (cA ⟨o51,New.inL n52⟩ (cA ⟨o53,New.inL n54⟩ nM)))
  refine cN k43 fun w56 k57=>?_
  have S58:=S55.call k57
  obtain ⟨r59,h60,H⟩:=bindS H
  refine p_cal (ticket_book_isTrue_ok h60 (S58.atP (i:=7) rfl) (S58.atP (i:=8) rfl) (S58.atP (i:=0) rfl) (S58.atP (i:=1) rfl) (mpo_some (S58.atP (i:=2) rfl)) (S58.atP (i:=11) rfl) (S58.atP (i:=12) rfl)) fu49 rfl ?_
  rintro _ w61 ⟨rfl,k62⟩; refine cN k62 fun w63 k64=>?_
  have S65:=(S58.call k62).call k64
  refine p_aB rfl (cN (kR) fun w66 k67=>?_)
  have S68:=S65.call k67
  refine wp_nil ?_
  obtain rfl:=sJ H
  refine c_ret ?_; show bodyPostM (Fr none) 0 Tryz.prog Tryz.f79 _ .ret _ _
  refine ret_of (res2 rfl (rvT (rfl:_=SL A1 a0.length c2)) (rvT (rfl:_=B r59))) ?_
  exact ⟨_,rfl,A1,c2,rfl,S68.keep,⟨(S68.atP (i:=6) rfl),Al.self (i:=0) rfl⟩,trivial⟩
 ·replace H:=condF c24 H
  refine c_skip<|c_seq<|reg<|p_aI rfl<|wp_nil ?_
  refine c_join (α:=Int) (β:=Unit) (fun z_1 y_1=>[(0,SL A1 a0.length c2),(1,I a1),(3,P b5 0),(4,P b6 0),(9,I (a0.length:Int)),(10,I z_1)]) (fun z_1 y_1 w_=>ticket_Wrong_1_j4 q1 a0 (fun x0_ x1_=>ticket_Wrong_1 n x0_ x1_ q0 q1) a1 z_1=some r∧St w nF w_ [] [bl b6 [vF (.func 79) #[] #[P b4 0,P b5 0,P b6 0]] 113,bl b5 [I q1] 3,bl b4 (vB q0 A7 c8 A10 c11 A13 c14 A16 c17) 29,rd intE 1 A1 c2 a0,rd eTallyCount 7 A7 c8 q0.Tally.Counts,rd eTicketSeason 2 A10 c11 q0.Tickets,rd eTicketShow 3 A13 c14 q0.Shows,rd eTicketBox 4 A16 c17 q0.Boxes,gW0,gW2]) ?_ ?_
  ·refine c_seq<|reg<|p_mI rfl<|p_cmp rfl rfl rfl<|wp_nil ?_
   refine c_cond rfl (fun c69=>?_) (fun c69=>?_)
   ·replace H:=condT c69 H
    refine reg<|p_mS rfl<|p_mI rfl<|p_sub rfl rfl ?_
    obtain ⟨r70,h71,H⟩:=bindS H
    refine p_ixE sc60 h71 (S.atP (i:=3) rfl).1 rfl rfl rfl<|p_ldE ty3 h71 (S.atP (i:=3) rfl).1 rfl rfl<|p_add rfl rfl<|p_aI rfl<|wp_nil ?_
    exact ⟨wr (r70+1),(),_,rfl,⟨rfl,rfl,rfl,rfl,rfl,rfl,trivial⟩,H,S⟩
   ·replace H:=condF c69 H
    refine c_skip ?_
    exact ⟨0,(),_,rfl,⟨rfl,rfl,rfl,rfl,rfl,rfl,trivial⟩,H,S⟩
  ·intro z_1 y_1 e69 w70 S71; obtain ⟨H,S71⟩:=S71
   unfold ticket_Wrong_1_j4 at H
   refine c_seq<|c_seq<|reg<|p_mI rfl<|p_aI rfl<|wp_nil<|c_block ?_
   refine c_lop (α:=Int) (β:=Unit) (ticket_Wrong_1_l3 q1 a0 (fun x0_ x1_=>ticket_Wrong_1 n x0_ x1_ q0 q1) a1) (fun z_2 y_2=>[(0,SL A1 a0.length c2),(1,I a1),(3,P b5 0),(4,P b6 0),(9,I (a0.length:Int)),(11,I z_2)]) (fun z_2 y_2 w_=>St w nF w_ [] [bl b6 [vF (.func 79) #[] #[P b4 0,P b5 0,P b6 0]] 113,bl b5 [I q1] 3,bl b4 (vB q0 A7 c8 A10 c11 A13 c14 A16 c17) 29,rd intE 1 A1 c2 a0,rd eTallyCount 7 A7 c8 q0.Tally.Counts,rd eTicketSeason 2 A10 c11 q0.Tickets,rd eTicketShow 3 A13 c14 q0.Shows,rd eTicketBox 4 A16 c17 q0.Boxes,gW0,gW2]) z_1 () H ⟨rfl,rfl,rfl,rfl,rfl,rfl,trivial⟩ S71 ?_
   intro m72 z_2 y_2 e73 w74 H S75
   unfold ticket_Wrong_1_l3 at H
   refine c_seq<|c_seq<|reg<|p_mI rfl<|p_ld ty3 (S75.atP (i:=1) rfl) rfl rfl<|p_cmp rfl rfl rfl<|wp_nil ?_
   refine c_cond rfl (fun c76=>?_) (fun c76=>?_)
   ·replace H:=condT c76 H
    refine c_skip<|c_seq<|c_block<|c_seq ?_
    obtain ⟨h94,H⟩:=needS H
    obtain ⟨r101,h102,H⟩:=bindS H
    refine reg_any mixed 15 (by kernel_rfl) [rv (vF (.func 79) #[] #[P b4 0,P b5 0,P b6 0]),rv (SL A1 a0.length c2),rv (I (a0.length:Int)),rv (I (a0.length:Int)),rv (SL A1 a0.length a0.length),rv (I z_2),rx (α:=(Option Addr)×Nat) (fun ⟨A81,c82⟩=>SL A81 ([z_2]:List Int).length c82) (fun ⟨A81,c82⟩ lo hi=>BtwL lo hi [] (gr intE 1 3 A81 c82 ([z_2]:List Int))∧True) (fun ⟨A81,c82⟩=>[gr intE 1 3 A81 c82 ([z_2]:List Int)]),rx (α:=(Option Addr)×Nat) (fun ⟨A92,c93⟩=>SL A92 (a0++([z_2]:List Int)).length c93) (fun ⟨A92,c93⟩ lo hi=>BtwL lo hi [] (gr intE 1 3 A92 c93 (a0++([z_2]:List Int)))∧True) (fun ⟨A92,c93⟩=>[gr intE 1 3 A92 c93 (a0++([z_2]:List Int))]),rv (I a1),rxd 47 (α:=(Option Addr)×Nat) (fun ⟨A105,c106⟩=>TU [SL A105 r101.1.length c106,B r101.2]) (fun ⟨A105,c106⟩ lo hi ev=>BtwV lo hi [rd eTallyCount 7 A7 c8 q0.Tally.Counts,rd eTicketSeason 2 A10 c11 q0.Tickets,rd eTicketShow 3 A13 c14 q0.Shows,rd eTicketBox 4 A16 c17 q0.Boxes] ev (rd intE 1 A105 c106 r101.1)∧True) (fun ⟨A105,c106⟩=>[rd intE 1 A105 c106 r101.1]),dv 49 some,dv 39 (exG 0),dv 39 (exG 1),dv 50 some,rv (B r101.2)] [[],[],[],[],[],[],[],[],[],[47],[49],[39],[39],[50],[]] rfl (by kernel_rfl) [[],[],[],[],[1,2,3],[],[5],[1,2,3,4,5,6],[],[0,1,2,3,4,5,6,7,8],[0,1,2,3,4,5,6,7,8,9],[0,1,2,3,4,5,6,7,8,9,10],[0,1,2,3,4,5,6,7,8,9,10],[0,1,2,3,4,5,6,7,8,9,10,11],[0,1,2,3,4,5,6,7,8,9,10,11,12,13]] (by kernel_rfl) ⟨?_,?_,?_,?_,?_,?_,?_,?_,?_,?_,?_,?_,?_,?_,?_,trivial⟩ ?_
    ·intro e_ w_ k_ hf_ hR_
     have S_:St w_ nF w_ [] [bl b6 [vF (.func 79) #[] #[P b4 0,P b5 0,P b6 0]] 113,bl b5 [I q1] 3,bl b4 (vB q0 A7 c8 A10 c11 A13 c14 A16 c17) 29,rd intE 1 A1 c2 a0,rd eTallyCount 7 A7 c8 q0.Tally.Counts,rd eTicketSeason 2 A10 c11 q0.Tickets,rd eTicketShow 3 A13 c14 q0.Shows,rd eTicketBox 4 A16 c17 q0.Boxes,gW0,gW2]:=S75.asP k_
     refine hopE [(4,P b6 0)] ⟨((hf_ 4 rfl).trans (rfl:_=P b6 0)),trivial⟩ ?_
     exact p_ld ty113 (S_.atP (i:=0) rfl) rfl rfl<|wp_nil ⟨_,rfl,S_.keep,rfl⟩
    ·intro e_ w_ k_ hf_ hR_
     have S_:St w_ nF w_ [] [bl b6 [vF (.func 79) #[] #[P b4 0,P b5 0,P b6 0]] 113,bl b5 [I q1] 3,bl b4 (vB q0 A7 c8 A10 c11 A13 c14 A16 c17) 29,rd intE 1 A1 c2 a0,rd eTallyCount 7 A7 c8 q0.Tally.Counts,rd eTicketSeason 2 A10 c11 q0.Tickets,rd eTicketShow 3 A13 c14 q0.Shows,rd eTicketBox 4 A16 c17 q0.Boxes,gW0,gW2]:=S75.asP k_
     refine hopE [(0,SL A1 a0.length c2)] ⟨((hf_ 0 rfl).trans (rfl:_=SL A1 a0.length c2)),trivial⟩ ?_
     refine p_mS rfl<|wp_nil ?_
     exact ⟨_,rfl,S_.keep,rfl⟩
    ·intro e_ w_ k_ hf_ hR_
     have S_:St w_ nF w_ [] [bl b6 [vF (.func 79) #[] #[P b4 0,P b5 0,P b6 0]] 113,bl b5 [I q1] 3,bl b4 (vB q0 A7 c8 A10 c11 A13 c14 A16 c17) 29,rd intE 1 A1 c2 a0,rd eTallyCount 7 A7 c8 q0.Tally.Counts,rd eTicketSeason 2 A10 c11 q0.Tickets,rd eTicketShow 3 A13 c14 q0.Shows,rd eTicketBox 4 A16 c17 q0.Boxes,gW0,gW2]:=S75.asP k_
     refine hopE [(9,I (a0.length:Int))] ⟨((hf_ 9 rfl).trans (rfl:_=I (a0.length:Int))),trivial⟩ ?_
     exact p_mI rfl<|wp_nil ⟨_,rfl,S_.keep,rfl⟩
    ·intro e_ w_ k_ hf_ hR_
     have S_:St w_ nF w_ [] [bl b6 [vF (.func 79) #[] #[P b4 0,P b5 0,P b6 0]] 113,bl b5 [I q1] 3,bl b4 (vB q0 A7 c8 A10 c11 A13 c14 A16 c17) 29,rd intE 1 A1 c2 a0,rd eTallyCount 7 A7 c8 q0.Tally.Counts,rd eTicketSeason 2 A10 c11 q0.Tickets,rd eTicketShow 3 A13 c14 q0.Shows,rd eTicketBox 4 A16 c17 q0.Boxes,gW0,gW2]:=S75.asP k_
     refine hopE [(9,I (a0.length:Int))] ⟨((hf_ 9 rfl).trans (rfl:_=I (a0.length:Int))),trivial⟩ ?_
     exact p_mI rfl<|wp_nil ⟨_,rfl,S_.keep,rfl⟩
    ·intro e_ w_ k_ hf_ hR_
     have S_:St w_ nF w_ [] [bl b6 [vF (.func 79) #[] #[P b4 0,P b5 0,P b6 0]] 113,bl b5 [I q1] 3,bl b4 (vB q0 A7 c8 A10 c11 A13 c14 A16 c17) 29,rd intE 1 A1 c2 a0,rd eTallyCount 7 A7 c8 q0.Tally.Counts,rd eTicketSeason 2 A10 c11 q0.Tickets,rd eTicketShow 3 A13 c14 q0.Shows,rd eTicketBox 4 A16 c17 q0.Boxes,gW0,gW2]:=S75.asP k_
     refine hopE [(41,SL A1 a0.length c2),(42,I (a0.length:Int)),(43,I (a0.length:Int))] ⟨rQ (hR_ 1 41 rfl (lE rfl) rfl),rQ (hR_ 2 42 rfl (lE rfl) rfl),rQ (hR_ 3 43 rfl (lE rfl) rfl),trivial⟩ ?_
     refine p_cut3 sc60 (S_.atP (i:=3) rfl) rfl rfl rfl<|wp_nil ?_
     exact ⟨_,rfl,S_.keep,rfl⟩
    ·intro e_ w_ k_ hf_ hR_
     have S_:St w_ nF w_ [] [bl b6 [vF (.func 79) #[] #[P b4 0,P b5 0,P b6 0]] 113,bl b5 [I q1] 3,bl b4 (vB q0 A7 c8 A10 c11 A13 c14 A16 c17) 29,rd intE 1 A1 c2 a0,rd eTallyCount 7 A7 c8 q0.Tally.Counts,rd eTicketSeason 2 A10 c11 q0.Tickets,rd eTicketShow 3 A13 c14 q0.Shows,rd eTicketBox 4 A16 c17 q0.Boxes,gW0,gW2]:=S75.asP k_
     refine hopE [(11,I z_2)] ⟨((hf_ 11 rfl).trans (rfl:_=I z_2)),trivial⟩ ?_
     exact p_mI rfl<|wp_nil ⟨_,rfl,S_.keep,rfl⟩
    ·intro e_ w_ k_ hf_ hR_
     have S_:St w_ nF w_ [] [bl b6 [vF (.func 79) #[] #[P b4 0,P b5 0,P b6 0]] 113,bl b5 [I q1] 3,bl b4 (vB q0 A7 c8 A10 c11 A13 c14 A16 c17) 29,rd intE 1 A1 c2 a0,rd eTallyCount 7 A7 c8 q0.Tally.Counts,rd eTicketSeason 2 A10 c11 q0.Tickets,rd eTicketShow 3 A13 c14 q0.Shows,rd eTicketBox 4 A16 c17 q0.Boxes,gW0,gW2]:=S75.asP k_
     refine hopE [(45,I z_2)] ⟨rQ (hR_ 5 45 rfl (lE rfl) rfl),trivial⟩ ?_
     refine p_bsl (enc:=intE) (l:=([z_2]:List Int)) I (fun _=>rfl) sc60 in3 intE_len rfl (by decide) (by decide) zr3_1 S_ rfl fun A81 c82 w83 S84=>wp_nil ?_
     exact ⟨_,rfl,S84.keep,⟨(A81,c82),rfl,⟨bL (New.al (S84.newX (i:=0) rfl)) rfl (S84.atX (i:=0) rfl) rfl,trivial⟩,(cA (S84.atX (i:=0) rfl) nM)⟩⟩
    ·intro e_ w_ k_ hf_ hR_
     have S_:St w_ nF w_ [] [bl b6 [vF (.func 79) #[] #[P b4 0,P b5 0,P b6 0]] 113,bl b5 [I q1] 3,bl b4 (vB q0 A7 c8 A10 c11 A13 c14 A16 c17) 29,rd intE 1 A1 c2 a0,rd eTallyCount 7 A7 c8 q0.Tally.Counts,rd eTicketSeason 2 A10 c11 q0.Tickets,rd eTicketShow 3 A13 c14 q0.Shows,rd eTicketBox 4 A16 c17 q0.Boxes,gW0,gW2]:=S75.asP k_
     obtain ⟨_,_,_,_,q86⟩:=hR_ 4 44 rfl (lE rfl) rfl
     obtain ⟨_,_,_,_,⟨A81,c82⟩,q87,p88,a89⟩:=hR_ 6 46 rfl (lE rfl) rfl
     replace q87:e_ 46=SL A81 ([z_2]:List Int).length c82:=q87
     have S_:=St.addL' S_ (a89 _ (.head _)) (fun _ _ _ h_=>(nE h_))
     refine hopE [(44,SL A1 a0.length a0.length),(46,SL A81 ([z_2]:List Int).length c82)] ⟨q86,q87,trivial⟩ ?_
     refine p_appN (enc:=intE) sc60 in3 rfl intE_len (by decide) S_ (rd_full (S_.atP (i:=4) rfl)).1 rfl (gr_sl intE_len (S_.atP (i:=0) rfl)) h94 (by simp) rfl rfl fun A92 c93 w90 S91=>wp_nil ?_
     exact ⟨_,rfl,S91.keep,⟨(A92,c93),rfl,⟨bL (New.al (S91.newX (i:=0) rfl)) rfl (S91.atX (i:=0) rfl) rfl,trivial⟩,(cA (S91.atX (i:=0) rfl) nM)⟩⟩
    ·intro e_ w_ k_ hf_ hR_
     have S_:St w_ nF w_ [] [bl b6 [vF (.func 79) #[] #[P b4 0,P b5 0,P b6 0]] 113,bl b5 [I q1] 3,bl b4 (vB q0 A7 c8 A10 c11 A13 c14 A16 c17) 29,rd intE 1 A1 c2 a0,rd eTallyCount 7 A7 c8 q0.Tally.Counts,rd eTicketSeason 2 A10 c11 q0.Tickets,rd eTicketShow 3 A13 c14 q0.Shows,rd eTicketBox 4 A16 c17 q0.Boxes,gW0,gW2]:=S75.asP k_
     refine hopE [(1,I a1)] ⟨((hf_ 1 rfl).trans (rfl:_=I a1)),trivial⟩ ?_
     exact p_mI rfl<|wp_nil ⟨_,rfl,S_.keep,rfl⟩
    ·intro e_ w_ k_ hf_ hR_
     have S_:St w_ nF w_ [] [bl b6 [vF (.func 79) #[] #[P b4 0,P b5 0,P b6 0]] 113,bl b5 [I q1] 3,bl b4 (vB q0 A7 c8 A10 c11 A13 c14 A16 c17) 29,rd intE 1 A1 c2 a0,rd eTallyCount 7 A7 c8 q0.Tally.Counts,rd eTicketSeason 2 A10 c11 q0.Tickets,rd eTicketShow 3 A13 c14 q0.Shows,rd eTicketBox 4 A16 c17 q0.Boxes,gW0,gW2]:=S75.asP k_
     obtain ⟨_,_,_,_,q96⟩:=hR_ 0 40 rfl (lE rfl) rfl
     obtain ⟨_,_,_,_,⟨A92,c93⟩,q97,p98,a99⟩:=hR_ 7 47 rfl (lE rfl) rfl
     replace q97:e_ 47=SL A92 (a0++([z_2]:List Int)).length c93:=q97
     have S_:=St.addL' S_ (a99 _ (.head _)) (fun _ _ _ h_=>(nE h_))
     refine hopE [(40,vF (.func 79) #[] #[P b4 0,P b5 0,P b6 0]),(47,SL A92 (a0++([z_2]:List Int)).length c93),(48,I a1)] ⟨q96,q97,rQ (hR_ 8 48 rfl (lE rfl) rfl),trivial⟩ ?_
     refine p_cal (ih h102 (S_.atP (i:=1) rfl) (S_.atP (i:=2) rfl) (S_.atP (i:=3) rfl) (gr_rd intE_len (S_.atP (i:=0) rfl)) (S_.atP (i:=5) rfl) (S_.atP (i:=6) rfl) (S_.atP (i:=7) rfl) (S_.atP (i:=8) rfl) (S_.atP (i:=9) rfl) (S_.atP (i:=10) rfl)) fu79 rfl ?_
     rintro _ w103 ⟨A105,c106,rfl,k104,⟨o107,n108⟩,_⟩
     have S109:=S_.callN k104 [rd intE 1 A105 c106 r101.1] (cA ⟨o107,Al.inL n108 ((cA (fp_gr (i:=0) rfl) (cA (fp_mem (i:=5) rfl) (cA (fp_mem (i:=6) rfl) (cA (fp_mem (i:=7) rfl) (cA (fp_mem (i:=8) rfl) nM))))))⟩ nM)
     exact wp_nil ⟨_,rfl,S109.keep,⟨(A105,c106),rfl,⟨BtwV.of n108 rfl (S109.atP (i:=0) rfl) rfl (cA (fun b_ h_=>.inl (vblk_sl h_)) (cA (fun b_ h_=>.inr ⟨_,mE (i:=0) rfl,h_⟩) (cA (fun b_ h_=>.inr ⟨_,mE (i:=1) rfl,h_⟩) (cA (fun b_ h_=>.inr ⟨_,mE (i:=2) rfl,h_⟩) (cA (fun b_ h_=>.inr ⟨_,mE (i:=3) rfl,h_⟩) nM))))),trivial⟩,(cA (S109.atP (i:=0) rfl) nM)⟩⟩
    ·intro e_ w_ k_ hf_ hR_
     have S_:St w_ nF w_ [] [bl b6 [vF (.func 79) #[] #[P b4 0,P b5 0,P b6 0]] 113,bl b5 [I q1] 3,bl b4 (vB q0 A7 c8 A10 c11 A13 c14 A16 c17) 29,rd intE 1 A1 c2 a0,rd eTallyCount 7 A7 c8 q0.Tally.Counts,rd eTicketSeason 2 A10 c11 q0.Tickets,rd eTicketShow 3 A13 c14 q0.Shows,rd eTicketBox 4 A16 c17 q0.Boxes,gW0,gW2]:=S75.asP k_
     obtain ⟨_,_,_,_,⟨A105,c106⟩,q110,p111,a112⟩:=hR_ 9 49 rfl (lE rfl) rfl
     replace q110:e_ 49=TU [SL A105 r101.1.length c106,B r101.2]:=q110
     have S_:=St.addL' S_ (a112 _ (.head _)) (fun _ _ _ h_=>(nE h_))
     refine hopE [(49,TU [SL A105 r101.1.length c106,B r101.2])] ⟨q110,trivial⟩ ?_
     refine p_mT rfl<|wp_nil ?_
     exact ⟨_,rfl,S_.keep,rfl⟩
    ·intro e_ w_ k_ hf_ hR_
     have S_:St w_ nF w_ [] [bl b6 [vF (.func 79) #[] #[P b4 0,P b5 0,P b6 0]] 113,bl b5 [I q1] 3,bl b4 (vB q0 A7 c8 A10 c11 A13 c14 A16 c17) 29,rd intE 1 A1 c2 a0,rd eTallyCount 7 A7 c8 q0.Tally.Counts,rd eTicketSeason 2 A10 c11 q0.Tickets,rd eTicketShow 3 A13 c14 q0.Shows,rd eTicketBox 4 A16 c17 q0.Boxes,gW0,gW2]:=S75.asP k_
     obtain ⟨_,_,_,_,⟨A105,c106⟩,q114,p115,a116⟩:=hR_ 9 49 rfl (lE rfl) rfl
     replace q114:e_ 49=TU [SL A105 r101.1.length c106,B r101.2]:=q114
     have S_:=St.addL' S_ (a116 _ (.head _)) (fun _ _ _ h_=>(nE h_))
     obtain ⟨_,_,_,_,q113⟩:=hR_ 10 39 rfl (lE rfl) rfl
     replace q113:e_ 39=TU [SL A105 r101.1.length c106,B r101.2]:=(sJ ((congrArg some q114).symm.trans q113)).symm
     refine hopE [(39,TU [SL A105 r101.1.length c106,B r101.2])] ⟨q113,trivial⟩ ?_
     refine p_ext rfl rfl<|wp_nil ?_
     exact ⟨_,rfl,S_.keep,rfl⟩
    ·intro e_ w_ k_ hf_ hR_
     have S_:St w_ nF w_ [] [bl b6 [vF (.func 79) #[] #[P b4 0,P b5 0,P b6 0]] 113,bl b5 [I q1] 3,bl b4 (vB q0 A7 c8 A10 c11 A13 c14 A16 c17) 29,rd intE 1 A1 c2 a0,rd eTallyCount 7 A7 c8 q0.Tally.Counts,rd eTicketSeason 2 A10 c11 q0.Tickets,rd eTicketShow 3 A13 c14 q0.Shows,rd eTicketBox 4 A16 c17 q0.Boxes,gW0,gW2]:=S75.asP k_
     obtain ⟨_,_,_,_,⟨A105,c106⟩,q118,p119,a120⟩:=hR_ 9 49 rfl (lE rfl) rfl
     replace q118:e_ 49=TU [SL A105 r101.1.length c106,B r101.2]:=q118
     have S_:=St.addL' S_ (a120 _ (.head _)) (fun _ _ _ h_=>(nE h_))
     obtain ⟨_,_,_,_,q117⟩:=hR_ 10 39 rfl (lE rfl) rfl
     replace q117:e_ 39=TU [SL A105 r101.1.length c106,B r101.2]:=(sJ ((congrArg some q118).symm.trans q117)).symm
     refine hopE [(39,TU [SL A105 r101.1.length c106,B r101.2])] ⟨q117,trivial⟩ ?_
     refine p_ext rfl rfl<|wp_nil ?_
     exact ⟨_,rfl,S_.keep,rfl⟩
    ·intro e_ w_ k_ hf_ hR_
     have S_:St w_ nF w_ [] [bl b6 [vF (.func 79) #[] #[P b4 0,P b5 0,P b6 0]] 113,bl b5 [I q1] 3,bl b4 (vB q0 A7 c8 A10 c11 A13 c14 A16 c17) 29,rd intE 1 A1 c2 a0,rd eTallyCount 7 A7 c8 q0.Tally.Counts,rd eTicketSeason 2 A10 c11 q0.Tickets,rd eTicketShow 3 A13 c14 q0.Shows,rd eTicketBox 4 A16 c17 q0.Boxes,gW0,gW2]:=S75.asP k_
     obtain ⟨_,_,_,_,⟨A105,c106⟩,q123,p124,a125⟩:=hR_ 9 49 rfl (lE rfl) rfl
     replace q123:e_ 49=TU [SL A105 r101.1.length c106,B r101.2]:=q123
     have S_:=St.addL' S_ (a125 _ (.head _)) (fun _ _ _ h_=>(nE h_))
     obtain ⟨_,_,_,_,q122⟩:=hR_ 10 39 rfl (lE rfl) rfl
     replace q122:e_ 39=TU [SL A105 r101.1.length c106,B r101.2]:=(sJ ((congrArg some q123).symm.trans q122)).symm
     obtain ⟨_,_,_,_,q121⟩:=hR_ 11 50 rfl (lE rfl) rfl
     replace q121:e_ 50=SL A105 r101.1.length c106:=(sJ ((congrArg (exG 0) q122).symm.trans q121)).symm
     refine hopE [(50,SL A105 r101.1.length c106)] ⟨q121,trivial⟩ ?_
     refine p_aS rfl<|wp_nil ?_
     exact ⟨_,rfl,S_.keep,rfl⟩
    ·intro e_ w_ k_ hf_ hR_
     have S_:St w_ nF w_ [] [bl b6 [vF (.func 79) #[] #[P b4 0,P b5 0,P b6 0]] 113,bl b5 [I q1] 3,bl b4 (vB q0 A7 c8 A10 c11 A13 c14 A16 c17) 29,rd intE 1 A1 c2 a0,rd eTallyCount 7 A7 c8 q0.Tally.Counts,rd eTicketSeason 2 A10 c11 q0.Tickets,rd eTicketShow 3 A13 c14 q0.Shows,rd eTicketBox 4 A16 c17 q0.Boxes,gW0,gW2]:=S75.asP k_
     obtain ⟨_,_,_,_,⟨A105,c106⟩,q128,p129,a130⟩:=hR_ 9 49 rfl (lE rfl) rfl
     replace q128:e_ 49=TU [SL A105 r101.1.length c106,B r101.2]:=q128
     have S_:=St.addL' S_ (a130 _ (.head _)) (fun _ _ _ h_=>(nE h_))
     obtain ⟨_,_,_,_,q127⟩:=hR_ 10 39 rfl (lE rfl) rfl
     replace q127:e_ 39=TU [SL A105 r101.1.length c106,B r101.2]:=(sJ ((congrArg some q128).symm.trans q127)).symm
     obtain ⟨_,_,_,_,q126⟩:=hR_ 12 51 rfl (lE rfl) rfl
     replace q126:e_ 51=B r101.2:=(sJ ((congrArg (exG 1) q127).symm.trans q126)).symm
     refine hopE [(51,B r101.2)] ⟨q126,trivial⟩ ?_
     refine p_aB rfl<|wp_nil ?_
     exact ⟨_,rfl,S_.keep,rfl⟩
    intro e131 w132 lo133 hi134 k135 hf136 hR137 hd138
    have S139:=S75.call k135
    have q140:e131 40=vF (.func 79) #[] #[P b4 0,P b5 0,P b6 0]:=(hR137 0 40 (lE rfl) rfl).2.2.2
    have q141:e131 41=SL A1 a0.length c2:=(hR137 1 41 (lE rfl) rfl).2.2.2
    have q142:e131 42=I (a0.length:Int):=(hR137 2 42 (lE rfl) rfl).2.2.2
    have q143:e131 43=I (a0.length:Int):=(hR137 3 43 (lE rfl) rfl).2.2.2
    have q144:e131 44=SL A1 a0.length a0.length:=(hR137 4 44 (lE rfl) rfl).2.2.2
    have q145:e131 45=I z_2:=(hR137 5 45 (lE rfl) rfl).2.2.2
    obtain ⟨h147,h148,h149,⟨A81,c82⟩,q146,h150,h151⟩:=hR137 6 46 (lE rfl) rfl
    replace q146:e131 46=SL A81 ([z_2]:List Int).length c82:=q146
    obtain ⟨p152,_⟩:=h150
    obtain ⟨h155,h156,h157,⟨A92,c93⟩,q154,h158,h159⟩:=hR137 7 47 (lE rfl) rfl
    replace q154:e131 47=SL A92 (a0++([z_2]:List Int)).length c93:=q154
    obtain ⟨p160,_⟩:=h158
    have q162:e131 48=I a1:=(hR137 8 48 (lE rfl) rfl).2.2.2
    obtain ⟨h164,h165,h166,⟨A105,c106⟩,q163,h167,h168⟩:=hR137 9 49 (lE rfl) rfl
    replace q163:e131 49=TU [SL A105 r101.1.length c106,B r101.2]:=q163
    obtain ⟨p169,_⟩:=h167
    have q171:Al w74 [rd eTallyCount 7 A7 c8 q0.Tally.Counts,rd eTicketSeason 2 A10 c11 q0.Tickets,rd eTicketShow 3 A13 c14 q0.Shows,rd eTicketBox 4 A16 c17 q0.Boxes] (rd intE 1 A105 c106 r101.1):=BtwV.al p169 h164 (fun b_ h_=>by rw [q154] at h_; exact Nat.le_trans h155 ((p160 b_ (vblk_gr h_)).elim (fun q_=>q_.1) (fun ⟨_,hq_,_⟩=>(List.not_mem_nil hq_).elim)))
    have S170:=St.addR S139 (h168 _ (.head _)) (oQ q171 S75 (mG [4,5,6,7] rfl))
    have q172:e131 39=TU [SL A105 r101.1.length c106,B r101.2]:=(sJ ((congrArg some q163).symm.trans (hR137 10 39 (lE rfl) rfl).2.2.2)).symm
    have q173:e131 50=SL A105 r101.1.length c106:=(sJ ((congrArg (exG 0) q172).symm.trans (hR137 11 50 (lE rfl) rfl).2.2.2)).symm
    have q174:e131 51=B r101.2:=(sJ ((congrArg (exG 1) q172).symm.trans (hR137 12 51 (lE rfl) rfl).2.2.2)).symm
    have q175:e131 12=SL A105 r101.1.length c106:=(sJ ((congrArg some q173).symm.trans (hR137 13 12 (lE rfl) rfl).2.2.2)).symm
    have q176:e131 13=B r101.2:=(hR137 14 13 (lE rfl) rfl).2.2.2
    refine tailE [(0,SL A1 a0.length c2),(1,I a1),(3,P b5 0),(4,P b6 0),(9,I (a0.length:Int)),(11,I z_2),(12,SL A105 r101.1.length c106),(13,B r101.2)] ⟨((hf136 0 rfl).trans (rfl:_=SL A1 a0.length c2)),((hf136 1 rfl).trans (rfl:_=I a1)),((hf136 3 rfl).trans (rfl:_=P b5 0)),((hf136 4 rfl).trans (rfl:_=P b6 0)),((hf136 9 rfl).trans (rfl:_=I (a0.length:Int))),((hf136 11 rfl).trans (rfl:_=I z_2)),q175,q176,trivial⟩ ?_
    intro g177
    refine wp_nil<|c_seq<|reg<|p_mB rfl<|wp_nil ?_
    refine c_cond rfl (fun c178=>?_) (fun c178=>?_)
    ·replace H:=condT c178 H
     refine c_seq<|reg<|p_mS rfl<|p_aS rfl<|p_aB rfl<|wp_nil ?_
     obtain rfl:=sJ H
     refine c_ret ?_; show bodyPostM (Fr none) 0 Tryz.prog Tryz.f79 _ .ret _ _
     refine ret_of (res2 rfl (rvT (rfl:_=SL A105 r101.1.length c106)) (rvT (rfl:_=B true))) ?_
     exact ⟨_,rfl,A105,c106,rfl,S170.keep,⟨(S170.atP (i:=0) rfl),(Al.up q171 S75.keep.size (cA (Al.self (i:=1) rfl) (cA (Al.self (i:=2) rfl) (cA (Al.self (i:=3) rfl) (cA (Al.self (i:=4) rfl) nM)))))⟩,trivial⟩
    ·replace H:=condF c178 H
     refine c_skip<|reg<|p_mI rfl<|p_add rfl rfl<|p_aI rfl<|wp_nil ?_
     have S179:=S170.pk [] (by decide) [1,2,3,4,5,6,7,8,9,10] rfl rfl
     exact ⟨wr (z_2+1),(),_,rfl,⟨rfl,rfl,rfl,rfl,rfl,rfl,trivial⟩,H,S179⟩
   ·replace H:=condF c76 H
    refine c_exit<|c_seq<|reg<|p_aS rfl<|p_aB rfl<|wp_nil ?_
    obtain rfl:=sJ H
    refine c_ret ?_; show bodyPostM (Fr none) 0 Tryz.prog Tryz.f79 _ .ret _ _
    refine ret_of (res2 rfl (rvT (rfl:_=SL none 0 0)) (rvT (rfl:_=B false))) ?_
    exact ⟨_,rfl,none,0,rfl,S75.keep,⟨rd_nil (Nat.zero_le _),Al.nil⟩,trivial⟩
def ticket_Wrong_l2 (a0:TicketBook) (rec_z_1:Int→Option ((List Int)×Int)) (z_1:Int):Option ((List Int)×Int):=
 bif decide (z_1 < (wr ((wr ((a0.Shows.length:Int)+(a0.Boxes.length:Int)))+1))) then ((ticket_Wrong_1 big ([]:List _) z_1 a0 (wr ((a0.Shows.length:Int)+(a0.Boxes.length:Int)))).bind fun r38=>
 bif r38.2 then (some (r38.1,0))
 else (rec_z_1 (wr (z_1+1))))
 else (some (([]:List _),102))
def ticket_Wrong (a0:TicketBook):Option ((List Int)×Int):=
 (ticket_Check a0).bind fun r18=>
 bif (r18 != 0) then (some (([]:List _),r18))
 else (loopF (ticket_Wrong_l2 a0) big 0)
set_option maxRecDepth 100000 in
theorem ticket_Wrong_ok {a0:TicketBook}{A1:Option Addr}{c2:Nat}{A4:Option Addr}{c5:Nat}{A7:Option Addr}{c8:Nat}{A10:Option Addr}{c11:Nat}{w:World}{r:(List Int)×Int} (H:ticket_Wrong a0=some r) (h3:(rd eTallyCount 7 A1 c2 a0.Tally.Counts).ok w) (h6:(rd eTicketSeason 2 A4 c5 a0.Tickets).ok w) (h9:(rd eTicketShow 3 A7 c8 a0.Shows).ok w) (h12:(rd eTicketBox 4 A10 c11 a0.Boxes).ok w) (hg13:(gW0).ok w) (hg14:(gW2).ok w):Calls Tryz.prog 38 #[AG (vB a0 A1 c2 A4 c5 A7 c8 A10 c11)] w fun en w_=>∃ u_,en=.returned u_∧∃ A_1:Option Addr,∃ c_2:Nat,u_=TU [SL A_1 r.1.length c_2,I r.2]∧Keep0 w w_∧((rd intE 1 A_1 c_2 r.1).ok w_∧Al w [rd eTallyCount 7 A1 c2 a0.Tally.Counts,rd eTicketSeason 2 A4 c5 a0.Tickets,rd eTicketShow 3 A7 c8 a0.Shows,rd eTicketBox 4 A10 c11 a0.Boxes] (rd intE 1 A_1 c_2 r.1))∧True:=by
 unfold ticket_Wrong at H
 refine fn_of (n:=42) Tryz.func38 rfl rfl (lE rfl) ?_
 have S:=St.start w nF _ (cA h3 (cA h6 (cA h9 (cA h12 (cA hg13 (cA hg14 nM))))))
 refine c_seq<|reg<|p_boxA rfl S fun b15 w16 S17=>p_aS rfl<|p_aI rfl<|wp_nil<|c_seq<|c_seq<|reg<|p_ldA ty29 sz29 (S17.atX (i:=0) rfl) rfl rfl ?_
 obtain ⟨r18,h19,H⟩:=bindS H
 refine p_cv (ticket_Check_ok h19 (S17.atP (i:=0) rfl) (S17.atP (i:=1) rfl) (S17.atP (i:=2) rfl) (S17.atP (i:=3) rfl)) fu18 rfl S17 fun w20 S21=>p_aI rfl<|wp_nil<|c_seq<|reg<|p_mI rfl<|p_cmp rfl rfl rfl<|wp_nil ?_
 refine c_cond rfl (fun c22=>?_) (fun c22=>?_)
 ·replace H:=condT c22 H
  refine c_seq<|reg<|p_mI rfl<|p_aS rfl<|p_aI rfl<|wp_nil ?_
  obtain rfl:=sJ H
  refine c_ret ?_; show bodyPostM (Fr none) 0 Tryz.prog Tryz.f38 _ .ret _ _
  refine ret_of (res2 rfl (rvT (rfl:_=SL none 0 0)) (rvT (rfl:_=I r18))) ?_
  exact ⟨_,rfl,none,0,rfl,S21.keep,⟨rd_nil (Nat.zero_le _),Al.nil⟩,trivial⟩
 ·replace H:=condF c22 H
  refine c_skip<|c_seq<|reg<|p_fld fl29_3 rfl<|p_ld ty26 (S21.atX (i:=0) rfl) rfl rfl<|p_len rfl sc26<|p_fld fl29_4 rfl<|p_ld ty27 (S21.atX (i:=0) rfl) rfl rfl<|p_len rfl sc27<|p_add rfl rfl<|p_all in3 rfl S21 fun b23 w24 S25=>p_st sz3 S25 (i:=0) rfl rfl (rfl:_=I (wr ((a0.Shows.length:Int)+(a0.Boxes.length:Int)))) rfl rfl fun w26 S27=>wp_nil<|c_seq<|reg<|p_all in113 rfl S27 fun b28 w29 S30=>wp_nil<|c_seq<|reg ?_
  refine o_fun (rfl:_=[]) (rfl:_=[P b15 0,P b23 0,P b28 0]) ?_
  refine p_st sz113 S30 (i:=0) rfl rfl (rfl:_=vF (.func 79) #[] #[P b15 0,P b23 0,P b28 0]) rfl rfl fun w31 S32=>wp_nil<|c_seq<|c_seq<|reg<|p_ld ty3 (S32.atX (i:=1) rfl) rfl rfl<|p_add rfl rfl<|p_mI rfl<|wp_nil<|c_block ?_
  refine c_lop (α:=Int) (β:=Unit) (ticket_Wrong_l2 a0) (fun z_1 y_1=>[(6,P b28 0),(24,I (wr ((wr ((a0.Shows.length:Int)+(a0.Boxes.length:Int)))+1))),(25,I z_1)]) (fun z_1 y_1 w_=>St w nF w_ [bl b28 [vF (.func 79) #[] #[P b15 0,P b23 0,P b28 0]] 113,bl b23 [I (wr ((a0.Shows.length:Int)+(a0.Boxes.length:Int)))] 3,bl b15 (vB a0 A1 c2 A4 c5 A7 c8 A10 c11) 29] [rd eTallyCount 7 A1 c2 a0.Tally.Counts,rd eTicketSeason 2 A4 c5 a0.Tickets,rd eTicketShow 3 A7 c8 a0.Shows,rd eTicketBox 4 A10 c11 a0.Boxes,gW0,gW2]) 0 () H ⟨rfl,rfl,rfl,trivial⟩ S32 ?_
  intro m33 z_1 y_1 e34 w35 H S36
  unfold ticket_Wrong_l2 at H
  refine c_seq<|reg<|p_cmp rfl rfl rfl<|wp_nil<|c_seq ?_
  refine c_cond rfl (fun c37=>?_) (fun c37=>?_)
  ·replace H:=condT c37 H
   refine c_skip<|c_seq<|c_block<|c_seq<|reg<|p_mI rfl<|p_aI rfl<|wp_nil<|c_seq<|reg<|p_ld ty113 (S36.atX (i:=0) rfl) rfl rfl<|p_mI rfl ?_
   obtain ⟨r38,h39,H⟩:=bindS H
   refine p_cal (ticket_Wrong_1_ok h39 (S36.atX (i:=0) rfl) (S36.atX (i:=1) rfl) (S36.atX (i:=2) rfl) (rd_nil (Nat.zero_le _)) (S36.atP (i:=0) rfl) (S36.atP (i:=1) rfl) (S36.atP (i:=2) rfl) (S36.atP (i:=3) rfl) (S36.atP (i:=4) rfl) (S36.atP (i:=5) rfl)) fu79 rfl ?_
   rintro _ w40 ⟨A42,c43,rfl,k41,⟨o44,n45⟩,_⟩
   have S46:=S36.callN k41 [rd intE 1 A42 c43 r38.1] (cA ⟨o44,Al.inL n45 ((cA fp_nil (cA (fp_mem (i:=0) rfl) (cA (fp_mem (i:=1) rfl) (cA (fp_mem (i:=2) rfl) (cA (fp_mem (i:=3) rfl) nM))))))⟩ nM)
   refine p_mT rfl<|p_ext rfl rfl<|p_ext rfl rfl<|p_aS rfl<|p_aB rfl<|wp_nil<|c_seq<|reg<|p_mB rfl<|wp_nil ?_
   refine c_cond rfl (fun c47=>?_) (fun c47=>?_)
   ·replace H:=condT c47 H
    refine c_seq<|reg<|p_mS rfl<|p_mS rfl<|p_len rfl sc60<|p_mS rfl<|p_len rfl sc60<|p_cut3 sc60 (S46.atP (i:=0) rfl) rfl rfl rfl<|p_aS rfl<|p_aI rfl<|wp_nil ?_
    obtain rfl:=sJ H
    refine c_ret ?_; show bodyPostM (Fr none) 0 Tryz.prog Tryz.f38 _ .ret _ _
    refine ret_of (res2 rfl (rvT (rfl:_=SL A42 r38.1.length r38.1.length)) (rvT (rfl:_=I 0))) ?_
    exact ⟨_,rfl,A42,r38.1.length,rfl,S46.keep,⟨(rd_full (S46.atP (i:=0) rfl)),Al.rdr (Al.up n45 S36.keep.size (cA Al.nil (cA (Al.self (i:=0) rfl) (cA (Al.self (i:=1) rfl) (cA (Al.self (i:=2) rfl) (cA (Al.self (i:=3) rfl) nM))))))⟩,trivial⟩
   ·replace H:=condF c47 H
    refine c_skip<|reg<|p_add rfl rfl<|p_mI rfl<|wp_nil ?_
    have S48:=S46.pk [0,1,2] (by decide) [1,2,3,4,5,6] rfl rfl
    exact ⟨wr (z_1+1),(),_,rfl,⟨rfl,rfl,rfl,trivial⟩,H,S48⟩
  ·replace H:=condF c37 H
   refine c_exit<|c_seq<|reg<|p_aS rfl<|p_aI rfl<|wp_nil ?_
   obtain rfl:=sJ H
   refine c_ret ?_; show bodyPostM (Fr none) 0 Tryz.prog Tryz.f38 _ .ret _ _
   refine ret_of (res2 rfl (rvT (rfl:_=SL none 0 0)) (rvT (rfl:_=I 102))) ?_
   exact ⟨_,rfl,none,0,rfl,S36.keep,⟨rd_nil (Nat.zero_le _),Al.nil⟩,trivial⟩
def law_robbed:Option TicketBook:=
 (law_own).bind fun r4=>
 (getI r4.Boxes 0).bind fun r40=>
 some (TicketBook.mk r4.Tally r4.Fare r4.Tickets r4.Shows (r4.Boxes.set (0:Int).toNat (TicketBox.mk r40.From r40.To 10 r40.Lost)))
set_option maxRecDepth 100000 in
theorem law_robbed_ok {w:World}{r:TicketBook} (H:law_robbed=some r):Calls Tryz.prog 39 #[] w fun en w_=>∃ u_,en=.returned u_∧∃ A_1:Option Addr,∃ c_2:Nat,∃ A_3:Option Addr,∃ c_4:Nat,∃ A_5:Option Addr,∃ c_6:Nat,∃ A_7:Option Addr,∃ c_8:Nat,u_=AG [I r.Tally.Trips,I r.Tally.Room,SL A_1 r.Tally.Counts.length c_2,I r.Fare,SL A_3 r.Tickets.length c_4,SL A_5 r.Shows.length c_6,SL A_7 r.Boxes.length c_8]∧Keep0 w w_∧((gr eTallyCount 7 106 A_1 c_2 r.Tally.Counts).ok w_∧New w.heap.size (gr eTallyCount 7 106 A_1 c_2 r.Tally.Counts))∧((gr eTicketSeason 2 84 A_3 c_4 r.Tickets).ok w_∧New w.heap.size (gr eTicketSeason 2 84 A_3 c_4 r.Tickets))∧((gr eTicketShow 3 86 A_5 c_6 r.Shows).ok w_∧New w.heap.size (gr eTicketShow 3 86 A_5 c_6 r.Shows))∧((gr eTicketBox 4 39 A_7 c_8 r.Boxes).ok w_∧New w.heap.size (gr eTicketBox 4 39 A_7 c_8 r.Boxes))∧Dj (gr eTallyCount 7 106 A_1 c_2 r.Tally.Counts) (gr eTicketSeason 2 84 A_3 c_4 r.Tickets)∧Dj (gr eTallyCount 7 106 A_1 c_2 r.Tally.Counts) (gr eTicketShow 3 86 A_5 c_6 r.Shows)∧Dj (gr eTallyCount 7 106 A_1 c_2 r.Tally.Counts) (gr eTicketBox 4 39 A_7 c_8 r.Boxes)∧Dj (gr eTicketSeason 2 84 A_3 c_4 r.Tickets) (gr eTicketShow 3 86 A_5 c_6 r.Shows)∧Dj (gr eTicketSeason 2 84 A_3 c_4 r.Tickets) (gr eTicketBox 4 39 A_7 c_8 r.Boxes)∧Dj (gr eTicketShow 3 86 A_5 c_6 r.Shows) (gr eTicketBox 4 39 A_7 c_8 r.Boxes)∧True:=by
 unfold law_robbed at H
 refine fn_of (n:=8) Tryz.func39 rfl rfl (lE rfl) ?_
 have S:=St.start w nF _ nM
 refine c_seq<|reg<|p_allA in29 S fun b1 w2 S3=>wp_nil<|c_seq<|reg ?_
 obtain ⟨r4,h5,H⟩:=bindS H
 refine p_cal (law_own_ok h5) fu28 rfl ?_
 rintro _ w6 ⟨A8,c9,A10,c11,A12,c13,A14,c15,rfl,k7,⟨o16,n17⟩,⟨o18,n19⟩,⟨o20,n21⟩,⟨o22,n23⟩,j24,j25,j26,j27,j28,j29,_⟩
 have S34:=S3.callMo k7 [gr eTallyCount 7 106 A8 c9 r4.Tally.Counts,gr eTicketSeason 2 84 A10 c11 r4.Tickets,gr eTicketShow 3 86 A12 c13 r4.Shows,gr eTicketBox 4 39 A14 c15 r4.Boxes] [] (cA ⟨o16,n17⟩ (cA ⟨o18,n19⟩ (cA ⟨o20,n21⟩ (cA ⟨o22,n23⟩ nM)))) (pC (cA j24 (cA j25 (cA j26 nM))) (pC (cA j27 (cA j28 nM)) (pC (cA j29 nM) (pC nM List.Pairwise.nil)))) nM (cA nM (cA nM (cA nM (cA nM nM))))
 refine p_allA in29 S34 fun b35 w36 S37=>?_
 refine p_stP (pre:=[]) (old:=[I 0,I 0,SL none 0 0,I 0,SL none 0 0,SL none 0 0,SL none 0 0]) (post:=[]) (vs:=[I r4.Tally.Trips,I r4.Tally.Room,SL A8 r4.Tally.Counts.length c9,I r4.Fare,SL A10 r4.Tickets.length c11,SL A12 r4.Shows.length c13,SL A14 r4.Boxes.length c15]) sz29 S37 (i:=0) rfl rfl rfl rfl (rfl:_=AG [I r4.Tally.Trips,I r4.Tally.Room,SL A8 r4.Tally.Counts.length c9,I r4.Fare,SL A10 r4.Tickets.length c11,SL A12 r4.Shows.length c13,SL A14 r4.Boxes.length c15]) rfl rfl rfl rfl fun w38 S39=>?_
 refine wp_nil<|c_seq<|reg<|p_fld fl29_4 rfl<|p_ld ty27 (S39.atX (i:=0) rfl) rfl rfl ?_
 obtain ⟨r40,h41,H⟩:=bindS H
 refine p_ixE sc27 h41 (gr_sl eTicketBox_len (S39.atX (i:=4) rfl)) rfl rfl rfl<|p_fldE fl39_2 (sl_here (gr_sl eTicketBox_len (S39.atX (i:=4) rfl)) h41) rfl ?_
 refine p_stE (x' :=(TicketBox.mk r40.From r40.To 10 r40.Lost)) (a:=[I r40.From,I r40.To]) (old:=[I r40.Pence]) (b:=[I r40.Lost]) (vs:=[I 10]) sz3 eTicketBox_len eTicketBox_one S39 (i:=4) rfl h41 rfl (rfl:_=I 10) rfl rfl rfl rfl rfl rfl fun l44 w45 h42 h43 S46=>?_
 obtain rfl:l44=(r4.Boxes.set (0:Int).toNat (TicketBox.mk r40.From r40.To 10 r40.Lost)):=h42
 try rw [← h43]
 try rw [← h43] at S46
 refine wp_nil<|c_seq<|reg<|p_ldA ty29 sz29 (S46.atX (i:=0) rfl) rfl rfl ?_
 refine p_stP (pre:=[]) (old:=[I 0,I 0,SL none 0 0,I 0,SL none 0 0,SL none 0 0,SL none 0 0]) (post:=[]) (vs:=[I r4.Tally.Trips,I r4.Tally.Room,SL A8 r4.Tally.Counts.length c9,I r4.Fare,SL A10 r4.Tickets.length c11,SL A12 r4.Shows.length c13,SL A14 (r4.Boxes.set (0:Int).toNat (TicketBox.mk r40.From r40.To 10 r40.Lost)).length c15]) sz29 S46 (i:=5) rfl rfl rfl rfl (rfl:_=AG [I r4.Tally.Trips,I r4.Tally.Room,SL A8 r4.Tally.Counts.length c9,I r4.Fare,SL A10 r4.Tickets.length c11,SL A12 r4.Shows.length c13,SL A14 (r4.Boxes.set (0:Int).toNat (TicketBox.mk r40.From r40.To 10 r40.Lost)).length c15]) rfl rfl rfl rfl fun w47 S48=>?_
 refine wp_nil ?_
 obtain rfl:=sJ H
 refine c_ret ?_; show bodyPostM (Fr none) 0 Tryz.prog Tryz.f39 _ .ret _ _
 refine ret_of (res1 rfl (rvA rfl ty29 sz29 (S48.atX (i:=5) rfl) rfl)) ?_
 exact ⟨_,rfl,A8,c9,A10,c11,A12,c13,A14,c15,rfl,S48.keep,⟨S48.atX (i:=1) rfl,S48.newX (i:=1) rfl⟩,⟨S48.atX (i:=2) rfl,S48.newX (i:=2) rfl⟩,⟨S48.atX (i:=3) rfl,S48.newX (i:=3) rfl⟩,⟨S48.atX (i:=4) rfl,S48.newX (i:=4) rfl⟩,(S48.apXX (i:=1) (j:=2) rfl rfl (by decide)),(S48.apXX (i:=1) (j:=3) rfl rfl (by decide)),(S48.apXX (i:=1) (j:=4) rfl rfl (by decide)),(S48.apXX (i:=2) (j:=3) rfl rfl (by decide)),(S48.apXX (i:=2) (j:=4) rfl rfl (by decide)),(S48.apXX (i:=3) (j:=4) rfl rfl (by decide)),trivial⟩
def law_punched:Option Bool:=
 (law_own).bind fun r4=>
 (ticket_Paid r4 0 1).bind fun r35=>
 (law_own).bind fun r45=>
 (ticket_Saved r45 0).bind fun r76=>
 (law_own).bind fun r86=>
 (ticket_Must r86 0).bind fun r117=>
 (law_own).bind fun r127=>
 (ticket_May r127 1).bind fun r158=>
 (law_own).bind fun r168=>
 (ticket_Lent r168).bind fun r199=>
 bif (r35.2 != 0) then (some false)
 else (bif (r76.2 != 0) then (some false)
 else (bif (r117.2 != 0) then (some false)
 else (bif (r158.2 != 0) then (some false)
 else (bif (r199.2 != 0) then (some false)
 else ((B_Range 4 5).bind fun r262=>
 bif !((r35.1.Low==r262.Low)&&(r35.1.High==r262.High)) then (some false)
 else ((B_Point 2).bind fun r324=>
 bif !((r76.1.Low==r324.Low)&&(r76.1.High==r324.High)) then (some false)
 else ((B_Alike r117.1 ([0]:List Int)).bind fun r388=>
 bif !r388 then (some false)
 else ((B_Alike r158.1 [0,2]).bind fun r449=>
 bif !r449 then (some false)
 else ((B_Alike r199.1 ([0]:List Int)).bind fun r508=>
 bif !r508 then (some false)
 else ((law_double).bind fun r553=>
 (ticket_Clash r553).bind fun r584=>
 (law_own).bind fun r589=>
 (ticket_Fits r589 (TicketBox.mk 0 1 8 0)).bind fun r620=>
 (law_robbed).bind fun r625=>
 (ticket_Wrong r625).bind fun r660=>
 (law_own).bind fun r670=>
 (ticket_Right r670).bind fun r701=>
 bif (r584.2.2==0) then (bif (r620.2==0) then (bif (r660.2==0) then (bif (r701.2==0) then (bif (r584.1==0) then (bif (r584.2.1==2) then (bif r620.1 then ((B_Alike r660.1 ([2]:List Int)).bind fun r718=>
 bif r718 then (some r701.1)
 else (some false))
 else (some false))
 else (some false))
 else (some false))
 else (some false))
 else (some false))
 else (some false))
 else (some false)))))))))))
end Go.Proofs.YtafhljljfglfeaaGreatDoor
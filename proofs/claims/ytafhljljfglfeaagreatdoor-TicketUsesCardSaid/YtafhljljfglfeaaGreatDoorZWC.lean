/- What the functions of the program compute, and that they do, printed by a program of mine. -/
import Derived.Test.YtafhljljfglfeaaGreatDoorZWB
import Derived.KernelRfl
set_option linter.unusedVariables false
set_option linter.unusedSimpArgs false
namespace Go.Proofs.YtafhljljfglfeaaGreatDoor
open Go Go.Fx Go.Proofs
set_option maxRecDepth 100000 in
theorem ref10_goes_ok {n:Nat}:∀ {a0:TicketBook}{a1:Ref10_truth}{A1:Option Addr}{c2:Nat}{A4:Option Addr}{c5:Nat}{A7:Option Addr}{c8:Nat}{A10:Option Addr}{c11:Nat}{A13:Option Addr}{c14:Nat}{A16:Option Addr}{c17:Nat}{w:World}{r:(List Ref10_truth)} (H:ref10_goes n a0 a1=some r) (h3:(rd eTallyCount 7 A1 c2 a0.Tally.Counts).ok w) (h6:(rd eTicketSeason 2 A4 c5 a0.Tickets).ok w) (h9:(rd eTicketShow 3 A7 c8 a0.Shows).ok w) (h12:(rd eTicketBox 4 A10 c11 a0.Boxes).ok w) (h15:(rd intE 1 A13 c14 a1.crossed_).ok w) (h18:(rd intE 1 A16 c17 a1.used_).ok w),Calls Tryz.prog 88 #[AG (vB a0 A1 c2 A4 c5 A7 c8 A10 c11),AG [SL A13 a1.crossed_.length c14,SL A16 a1.used_.length c17]] w fun en w_=>∃ u_,en=.returned u_∧∃ A_1:Option Addr,∃ c_2:Nat,∃ l_3:List (Ref10_truth×(Option Addr)×Nat×(Option Addr)×Nat),u_=SL A_1 l_3.length c_2∧Keep0 w w_∧((rd nRef10_truth 2 A_1 c_2 l_3).ok w_∧New w.heap.size (rd nRef10_truth 2 A_1 c_2 l_3))∧((ri nRef10_truthI l_3 r).ok w_∧Al w [rd eTallyCount 7 A1 c2 a0.Tally.Counts,rd eTicketSeason 2 A4 c5 a0.Tickets,rd eTicketShow 3 A7 c8 a0.Shows,rd eTicketBox 4 A10 c11 a0.Boxes,rd intE 1 A13 c14 a1.crossed_,rd intE 1 A16 c17 a1.used_] (ri nRef10_truthI l_3 r))∧True:=by
 induction n with
 | zero=>intro a0 a1 A1 c2 A4 c5 A7 c8 A10 c11 A13 c14 A16 c17 w r H h3 h6 h9 h12 h15 h18; cases H
 | succ n ih=>
 intro a0 a1 A1 c2 A4 c5 A7 c8 A10 c11 A13 c14 A16 c17 w r H h3 h6 h9 h12 h15 h18
 unfold ref10_goes ref10_goes_F at H
 refine fn_of (n:=103) Tryz.func88 rfl rfl (lE rfl) ?_
 have S:=St.start w nF _ (cA h3 (cA h6 (cA h9 (cA h12 (cA h15 (cA h18 nM))))))
 refine c_seq<|reg<|p_boxA rfl S fun b19 w20 S21=>p_boxA rfl S21 fun b22 w23 S24=>p_aS rfl<|wp_nil<|c_seq<|reg<|p_fld fl99_0 rfl<|p_ld ty60 (S24.atX (i:=0) rfl) rfl rfl<|p_len rfl sc60<|p_aI rfl<|wp_nil<|c_seq<|c_seq<|reg<|p_aI rfl<|wp_nil<|c_block ?_
 refine c_lop (α:=Int) (β:=Unit) (ref10_goes_l35 a0 a1 (fun x0_ x1_=>ref10_goes n x0_ x1_)) (fun z_1 y_1=>[(2,P b19 0),(3,P b22 0),(5,I (a1.crossed_.length:Int)),(6,I z_1)]) (fun z_1 y_1 w_=>St w nF w_ [bl b22 [SL A13 a1.crossed_.length c14,SL A16 a1.used_.length c17] 99,bl b19 (vB a0 A1 c2 A4 c5 A7 c8 A10 c11) 29] [rd eTallyCount 7 A1 c2 a0.Tally.Counts,rd eTicketSeason 2 A4 c5 a0.Tickets,rd eTicketShow 3 A7 c8 a0.Shows,rd eTicketBox 4 A10 c11 a0.Boxes,rd intE 1 A13 c14 a1.crossed_,rd intE 1 A16 c17 a1.used_]) 0 () H ⟨rfl,rfl,rfl,rfl,trivial⟩ S24 ?_
 intro m25 z_1 y_1 e26 w27 H S28
 unfold ref10_goes_l35 at H
 refine c_seq<|c_seq<|reg<|p_mI rfl<|p_fld fl29_4 rfl<|p_ld ty27 (S28.atX (i:=1) rfl) rfl rfl<|p_len rfl sc27<|p_cmp rfl rfl rfl<|wp_nil ?_
 refine c_cond rfl (fun c29=>?_) (fun c29=>?_)
 ·replace H:=condT c29 H
  refine c_skip<|c_seq<|c_block<|c_seq<|reg<|p_fld fl29_4 rfl<|p_ld ty27 (S28.atX (i:=1) rfl) rfl rfl<|p_mI rfl ?_
  obtain ⟨r30,h31,H⟩:=bindS H
  refine p_ixE sc27 h31 (S28.atP (i:=3) rfl).1 rfl rfl rfl<|p_ldEA ty39 sz39 rfl h31 (S28.atP (i:=3) rfl).1 rfl<|p_allA in39 S28 fun b32 w33 S34=>p_stP (pre:=[]) (old:=[I 0,I 0,I 0,I 0]) (post:=[]) (vs:=[I r30.From,I r30.To,I r30.Pence,I r30.Lost]) sz39 S34 (i:=0) rfl rfl rfl rfl (rfl:_=AG [I r30.From,I r30.To,I r30.Pence,I r30.Lost]) rfl rfl rfl rfl fun w35 S36=>wp_nil<|c_seq<|reg ?_
  refine p_fld fl39_1 rfl<|p_ld ty3 (S36.atX (i:=0) rfl) rfl rfl<|p_mI rfl<|p_sub rfl rfl<|p_cmp rfl rfl rfl<|p_mB rfl ?_
  rcases bE ((r30.To==(wr ((a1.crossed_.length:Int) - 1)))) with c37 | c37
  ·replace H:=condT c37 H
   refine eB c37 ?_
   refine gT rfl rfl (p_ldA ty29 sz29 (S36.atX (i:=2) rfl) rfl rfl ?_)
   refine gT rfl rfl (p_ldA ty99 sz99 (S36.atX (i:=1) rfl) rfl rfl ?_)
   refine gT rfl rfl (p_ldA ty39 sz39 (S36.atX (i:=0) rfl) rfl rfl ?_)
   obtain ⟨r38,h39,H⟩:=bindS H
   refine gT rfl rfl (p_cv (ref10_right_ok h39 (S36.atP (i:=0) rfl) (S36.atP (i:=1) rfl) (S36.atP (i:=2) rfl) (S36.atP (i:=3) rfl) (S36.atP (i:=4) rfl) (S36.atP (i:=5) rfl)) fu83 rfl S36 fun w40 S41=>?_)
   refine gT rfl rfl (p_not rfl ?_)
   refine p_pkT rfl (rfl:_=B (!r38))<|wp_nil ?_
   refine c_cond rfl (fun c42=>?_) (fun c42=>?_)
   ·replace H:=condT c42 H
    refine c_seq<|reg<|p_aS rfl<|wp_nil ?_
    obtain rfl:=sJ H
    refine c_ret ?_; show bodyPostM (Fr none) 0 Tryz.prog Tryz.f88 _ .ret _ _
    refine ret_of (res1 rfl (rvT (rfl:_=SL none 0 0))) ?_
    exact ⟨_,rfl,none,0,([]:List (Ref10_truth×(Option Addr)×Nat×(Option Addr)×Nat)),rfl,S41.keep,⟨rd_nil (Nat.zero_le _),New.nil⟩,⟨ri_nil,Al.riNil⟩,trivial⟩
   ·replace H:=condF c42 H
    refine c_skip<|reg<|p_mI rfl<|p_add rfl rfl<|p_aI rfl<|wp_nil ?_
    have S43:=S41.pk [1,2] (by decide) [0,1,2,3,4,5] rfl rfl
    exact ⟨wr (z_1+1),(),_,rfl,⟨rfl,rfl,rfl,rfl,trivial⟩,H,S43⟩
  ·replace H:=condF c37 H
   refine eB c37<|gF rfl rfl<|gF rfl rfl<|gF rfl rfl<|gF rfl rfl<|gF rfl rfl<|p_pkF rfl (rfl:_=B false)<|wp_nil<|c_false rfl<|c_skip<|reg<|p_mI rfl<|p_add rfl rfl<|p_aI rfl<|wp_nil ?_
   have S44:=S36.pk [1,2] (by decide) [0,1,2,3,4,5] rfl rfl
   exact ⟨wr (z_1+1),(),_,rfl,⟨rfl,rfl,rfl,rfl,trivial⟩,H,S44⟩
 ·replace H:=condF c29 H
  refine c_exit<|c_seq<|c_seq<|reg<|p_mI rfl<|p_fld fl29_0 rfl<|p_fld fl24_0 rfl<|p_ld ty3 (S28.atX (i:=1) rfl) rfl rfl<|p_cmp rfl rfl rfl<|wp_nil ?_
  refine c_cond rfl (fun c45=>?_) (fun c45=>?_)
  ·replace H:=condT c45 H
   refine c_seq<|c_seq<|reg<|p_fld fl29_0 rfl<|p_ldP (vs:=[I a0.Tally.Trips,I a0.Tally.Room,SL A1 a0.Tally.Counts.length c2]) ty24 sz24 (S28.atX (i:=1) rfl) rfl rfl rfl<|p_fld fl99_0 rfl<|p_ld ty60 (S28.atX (i:=0) rfl) rfl rfl ?_
   obtain ⟨r46,h47,H⟩:=bindS H
   refine p_cv (ref05_Can_ok h47 (S28.atP (i:=0) rfl) (S28.atP (i:=4) rfl)) fu109 rfl S28 fun w48 S49=>p_mT rfl<|p_ext rfl rfl<|p_ext rfl rfl<|p_aB rfl<|p_aI rfl<|wp_nil<|c_seq<|reg<|p_mB rfl<|p_not rfl<|wp_nil ?_
   refine c_cond rfl (fun c50=>?_) (fun c50=>?_)
   ·replace H:=condT c50 H
    refine c_seq<|reg<|p_aS rfl<|wp_nil ?_
    obtain rfl:=sJ H
    refine c_ret ?_; show bodyPostM (Fr none) 0 Tryz.prog Tryz.f88 _ .ret _ _
    refine ret_of (res1 rfl (rvT (rfl:_=SL none 0 0))) ?_
    exact ⟨_,rfl,none,0,([]:List (Ref10_truth×(Option Addr)×Nat×(Option Addr)×Nat)),rfl,S49.keep,⟨rd_nil (Nat.zero_le _),New.nil⟩,⟨ri_nil,Al.riNil⟩,trivial⟩
   ·replace H:=condF c50 H
    refine c_skip<|c_seq<|reg<|p_ldA ty99 sz99 (S49.atX (i:=0) rfl) rfl rfl<|p_bsl (enc:=nRef10_truth) (l:=([(a1,A13,c14,A16,c17)]:List (Ref10_truth×(Option Addr)×Nat×(Option Addr)×Nat))) (fun h=>AG (nRef10_truth h)) (fun _=>rfl) sc79 in99 nRef10_truth_len rfl (by decide) (by decide) zr99_1 S49 rfl fun A51 c52 w53 S54=>?_
    have S56:=S54.riL (inner:=nRef10_truthI) (xs:=([a1]:List Ref10_truth)) ([(a1,A13,c14,A16,c17)]:List (Ref10_truth×(Option Addr)×Nat×(Option Addr)×Nat)) rfl (cA (cA (mE (i:=4) rfl) (cA (mE (i:=5) rfl) nM)) nM)
    refine p_aS rfl<|wp_nil ?_
    obtain rfl:=sJ H
    refine c_ret ?_; show bodyPostM (Fr none) 0 Tryz.prog Tryz.f88 _ .ret _ _
    refine ret_of (res1 rfl (rvT (rfl:_=SL A51 ([(a1,A13,c14,A16,c17)]:List (Ref10_truth×(Option Addr)×Nat×(Option Addr)×Nat)).length c52))) ?_
    exact ⟨_,rfl,A51,c52,([(a1,A13,c14,A16,c17)]:List (Ref10_truth×(Option Addr)×Nat×(Option Addr)×Nat)),rfl,S56.keep,⟨(gr_rd nRef10_truth_len (S56.atX (i:=0) rfl)),(New.rd (S56.newX (i:=0) rfl))⟩,⟨(S56.atP (i:=0) rfl),(Al.riL (cA (cA (Al.self (i:=4) rfl) (cA (Al.self (i:=5) rfl) nM)) nM))⟩,trivial⟩
  ·replace H:=condF c45 H
   refine c_skip<|c_seq<|reg<|p_aS rfl<|wp_nil<|c_seq<|c_seq<|reg<|p_aI rfl<|wp_nil<|c_block ?_
   have S57:=S28.nilRow nRef10_truth 2 99
   have S58:=S57.riNil nRef10_truthI
   have S59:=St.addPur (φ:=Al w [rd eTallyCount 7 A1 c2 a0.Tally.Counts,rd eTicketSeason 2 A4 c5 a0.Tickets,rd eTicketShow 3 A7 c8 a0.Shows,rd eTicketBox 4 A10 c11 a0.Boxes,rd intE 1 A13 c14 a1.crossed_,rd intE 1 A16 c17 a1.used_] (ri nRef10_truthI ([]:List (Ref10_truth×(Option Addr)×Nat×(Option Addr)×Nat)) ([]:List Ref10_truth))) S58 Al.riNil
   have S60:=S59.pk [0,1,2] (by decide) [1,0,2,3,4,5,6,7] rfl rfl
   refine c_lop (α:=(List Ref10_truth)×Int) (β:=(Option Addr)×Nat×(List (Ref10_truth×(Option Addr)×Nat×(Option Addr)×Nat))) (ref10_goes_l34 a0 a1 (fun x0_ x1_=>ref10_goes n x0_ x1_)) (fun z_2 y_2=>[(2,P b19 0),(3,P b22 0),(5,I (a1.crossed_.length:Int)),(10,SL y_2.1 y_2.2.2.length y_2.2.1),(11,I z_2.2)]) (fun z_2 y_2 w_=>St w nF w_ [gr nRef10_truth 2 99 y_2.1 y_2.2.1 y_2.2.2,bl b22 [SL A13 a1.crossed_.length c14,SL A16 a1.used_.length c17] 99,bl b19 (vB a0 A1 c2 A4 c5 A7 c8 A10 c11) 29] [ri nRef10_truthI y_2.2.2 z_2.1,pur (Al w [rd eTallyCount 7 A1 c2 a0.Tally.Counts,rd eTicketSeason 2 A4 c5 a0.Tickets,rd eTicketShow 3 A7 c8 a0.Shows,rd eTicketBox 4 A10 c11 a0.Boxes,rd intE 1 A13 c14 a1.crossed_,rd intE 1 A16 c17 a1.used_] (ri nRef10_truthI y_2.2.2 z_2.1)),rd eTallyCount 7 A1 c2 a0.Tally.Counts,rd eTicketSeason 2 A4 c5 a0.Tickets,rd eTicketShow 3 A7 c8 a0.Shows,rd eTicketBox 4 A10 c11 a0.Boxes,rd intE 1 A13 c14 a1.crossed_,rd intE 1 A16 c17 a1.used_]) (([]:List Ref10_truth),0) (none,0,([]:List (Ref10_truth×(Option Addr)×Nat×(Option Addr)×Nat))) H ⟨rfl,rfl,rfl,rfl,rfl,trivial⟩ S60 ?_
   intro m61 z_2 y_2 e62 w63 H S64
   unfold ref10_goes_l34 at H
   refine c_seq<|c_seq<|reg<|p_mI rfl<|p_fld fl29_0 rfl<|p_fld fl24_1 rfl<|p_ld ty3 (S64.atX (i:=2) rfl) rfl rfl<|p_cmp rfl rfl rfl<|wp_nil ?_
   refine c_cond rfl (fun c65=>?_) (fun c65=>?_)
   ·replace H:=condT c65 H
    refine c_skip<|c_seq<|c_block<|c_seq<|reg<|p_aI rfl<|wp_nil<|c_block ?_
    have S66:=S64.pk [0,1,2] (by decide) [0,1,0,1,2,3,4,5,6,7] rfl rfl
    refine c_lop (α:=(List Ref10_truth)×Int) (β:=(Option Addr)×Nat×(List (Ref10_truth×(Option Addr)×Nat×(Option Addr)×Nat))) (ref10_goes_l33 a0 a1 z_2 (fun x0_ x1_=>ref10_goes n x0_ x1_) (loopF (ref10_goes_l34 a0 a1 (fun x0_ x1_=>ref10_goes n x0_ x1_)) m61)) (fun z_3 y_3=>[(2,P b19 0),(3,P b22 0),(5,I (a1.crossed_.length:Int)),(10,SL y_3.1 y_3.2.2.length y_3.2.1),(11,I z_2.2),(12,I z_3.2)]) (fun z_3 y_3 w_=>St w nF w_ [gr nRef10_truth 2 99 y_3.1 y_3.2.1 y_3.2.2,bl b22 [SL A13 a1.crossed_.length c14,SL A16 a1.used_.length c17] 99,bl b19 (vB a0 A1 c2 A4 c5 A7 c8 A10 c11) 29] [ri nRef10_truthI y_3.2.2 z_3.1,pur (Al w [rd eTallyCount 7 A1 c2 a0.Tally.Counts,rd eTicketSeason 2 A4 c5 a0.Tickets,rd eTicketShow 3 A7 c8 a0.Shows,rd eTicketBox 4 A10 c11 a0.Boxes,rd intE 1 A13 c14 a1.crossed_,rd intE 1 A16 c17 a1.used_] (ri nRef10_truthI y_3.2.2 z_3.1)),ri nRef10_truthI y_2.2.2 z_2.1,pur (Al w [rd eTallyCount 7 A1 c2 a0.Tally.Counts,rd eTicketSeason 2 A4 c5 a0.Tickets,rd eTicketShow 3 A7 c8 a0.Shows,rd eTicketBox 4 A10 c11 a0.Boxes,rd intE 1 A13 c14 a1.crossed_,rd intE 1 A16 c17 a1.used_] (ri nRef10_truthI y_2.2.2 z_2.1)),rd eTallyCount 7 A1 c2 a0.Tally.Counts,rd eTicketSeason 2 A4 c5 a0.Tickets,rd eTicketShow 3 A7 c8 a0.Shows,rd eTicketBox 4 A10 c11 a0.Boxes,rd intE 1 A13 c14 a1.crossed_,rd intE 1 A16 c17 a1.used_]) (z_2.1,0) (y_2.1,y_2.2.1,y_2.2.2) H ⟨rfl,rfl,rfl,rfl,rfl,rfl,trivial⟩ S66 ?_
    intro m67 z_3 y_3 e68 w69 H S70
    unfold ref10_goes_l33 at H
    refine c_seq<|c_seq<|reg<|p_mI rfl<|p_cmp rfl rfl rfl<|wp_nil ?_
    refine c_cond rfl (fun c71=>?_) (fun c71=>?_)
    ·replace H:=condT c71 H
     refine c_skip<|c_seq<|c_block ?_
     refine c_join (α:=Bool) (β:=Unit) (fun z_4 y_4=>[(2,P b19 0),(3,P b22 0),(5,I (a1.crossed_.length:Int)),(10,SL y_3.1 y_3.2.2.length y_3.2.1),(11,I z_2.2),(12,I z_3.2),(88,B z_4)]) (fun z_4 y_4 w_=>ref10_goes_j32 a1 z_2 z_3 (fun x0_ x1_=>ref10_goes n x0_ x1_) a0 (loopF (ref10_goes_l33 a0 a1 z_2 (fun x0_ x1_=>ref10_goes n x0_ x1_) (loopF (ref10_goes_l34 a0 a1 (fun x0_ x1_=>ref10_goes n x0_ x1_)) m61)) m67) z_4=some r∧St w nF w_ [gr nRef10_truth 2 99 y_3.1 y_3.2.1 y_3.2.2,bl b22 [SL A13 a1.crossed_.length c14,SL A16 a1.used_.length c17] 99,bl b19 (vB a0 A1 c2 A4 c5 A7 c8 A10 c11) 29] [ri nRef10_truthI y_3.2.2 z_3.1,pur (Al w [rd eTallyCount 7 A1 c2 a0.Tally.Counts,rd eTicketSeason 2 A4 c5 a0.Tickets,rd eTicketShow 3 A7 c8 a0.Shows,rd eTicketBox 4 A10 c11 a0.Boxes,rd intE 1 A13 c14 a1.crossed_,rd intE 1 A16 c17 a1.used_] (ri nRef10_truthI y_3.2.2 z_3.1)),ri nRef10_truthI y_2.2.2 z_2.1,pur (Al w [rd eTallyCount 7 A1 c2 a0.Tally.Counts,rd eTicketSeason 2 A4 c5 a0.Tickets,rd eTicketShow 3 A7 c8 a0.Shows,rd eTicketBox 4 A10 c11 a0.Boxes,rd intE 1 A13 c14 a1.crossed_,rd intE 1 A16 c17 a1.used_] (ri nRef10_truthI y_2.2.2 z_2.1)),rd eTallyCount 7 A1 c2 a0.Tally.Counts,rd eTicketSeason 2 A4 c5 a0.Tickets,rd eTicketShow 3 A7 c8 a0.Shows,rd eTicketBox 4 A10 c11 a0.Boxes,rd intE 1 A13 c14 a1.crossed_,rd intE 1 A16 c17 a1.used_]) ?_ ?_
     ·refine reg<|p_mI rfl<|p_ldA ty29 sz29 (S70.atX (i:=2) rfl) rfl rfl<|p_mI rfl ?_
      obtain ⟨r72,h73,H⟩:=bindS H
      refine p_cv (ref10_covers_ok h73 (S70.atP (i:=4) rfl) (S70.atP (i:=5) rfl) (S70.atP (i:=6) rfl) (S70.atP (i:=7) rfl)) fu110 rfl S70 fun w74 S75=>p_andNotI rfl rfl<|p_cmp rfl rfl rfl<|p_mB rfl ?_
      rcases bE (((andNotI z_3.2 r72)==0)) with c76 | c76
      ·replace H:=condT c76 H
       refine eB c76 ?_
       refine gT rfl rfl (p_ldA ty29 sz29 (S75.atX (i:=2) rfl) rfl rfl ?_)
       refine gT rfl rfl (p_mI rfl ?_)
       obtain ⟨r77,h78,H⟩:=bindS H
       refine gT rfl rfl (p_cv (ref10_shown_ok h78 (S75.atP (i:=4) rfl) (S75.atP (i:=5) rfl) (S75.atP (i:=6) rfl) (S75.atP (i:=7) rfl)) fu111 rfl S75 fun w79 S80=>?_)
       refine gT rfl rfl (p_mI rfl ?_)
       refine gT rfl rfl (p_andNotI rfl rfl ?_)
       refine gT rfl rfl (p_cmp rfl rfl rfl ?_)
       refine p_pkT rfl (rfl:_=B ((andNotI r77 z_3.2)==0))<|p_mB rfl ?_
       rcases bE (((andNotI r77 z_3.2)==0)) with c81 | c81
       ·replace H:=condT c81 H
        refine eB c81 ?_
        refine gT rfl rfl (p_mI rfl ?_)
        refine gT rfl rfl ?_
        obtain ⟨r82,h83,H⟩:=bindS H
        refine p_cal (B_Members_ok h83) fu81 rfl ?_
        rintro _ w84 ⟨A86,c87,rfl,k85,⟨o88,n89⟩,_⟩
        have S91:=S80.addNew k85 o88 n89
        refine gT rfl rfl (p_len rfl sc60 ?_)
        refine gT rfl rfl (p_mI rfl ?_)
        refine gT rfl rfl (p_cmp rfl rfl rfl ?_)
        refine p_pkT rfl (rfl:_=B (decide ((r82.length:Int)≤z_2.2)))<|wp_nil ?_
        have S92:=S91.pk [1,2,3] (by decide) [0,1,2,3,4,5,6,7,8,9] rfl rfl
        exact ⟨decide ((r82.length:Int)≤z_2.2),(),_,rfl,⟨rfl,rfl,rfl,rfl,rfl,rfl,rfl,trivial⟩,H,S92⟩
       ·replace H:=condF c81 H
        refine eB c81<|gF rfl rfl<|gF rfl rfl<|gF rfl rfl<|gF rfl rfl<|gF rfl rfl<|p_pkF rfl (rfl:_=B false)<|wp_nil ?_
        exact ⟨false,(),_,rfl,⟨rfl,rfl,rfl,rfl,rfl,rfl,rfl,trivial⟩,H,S80⟩
      ·replace H:=condF c76 H
       refine eB c76<|gF rfl rfl<|gF rfl rfl<|gF rfl rfl<|gF rfl rfl<|gF rfl rfl<|gF rfl rfl<|p_pkF rfl (rfl:_=B false)<|p_mB rfl<|gF rfl rfl<|gF rfl rfl<|gF rfl rfl<|gF rfl rfl<|gF rfl rfl<|p_pkF rfl (rfl:_=B false)<|wp_nil ?_
       exact ⟨false,(),_,rfl,⟨rfl,rfl,rfl,rfl,rfl,rfl,rfl,trivial⟩,H,S75⟩
     ·intro z_4 y_4 e72 w73 S74; obtain ⟨H,S74⟩:=S74
      unfold ref10_goes_j32 at H
      refine c_cond rfl (fun c75=>?_) (fun c75=>?_)
      ·replace H:=condT c75 H
       refine reg_c mixed 12 [5,9,10,11] (by kernel_rfl) ?_
       refine kS rfl (fun _ k_=>p_mS rfl dn)<|kS rfl (fun _ k_=>p_ldA ty29 sz29 (aS (S74.atX (i:=2) rfl) k_) rfl rfl dn)<|kS rfl (fun _ k_=>p_fld fl99_0 rfl dn)<|kS rfl (fun _ k_=>p_ld ty60 (aS (S74.atX (i:=1) rfl) k_) rfl rfl dn)<|kS rfl (fun _ k_=>p_mI rfl dn)<|kC rfl<|kS rfl (fun _ k_=>p_fld fl99_1 rfl dn)<|kS rfl (fun _ k_=>p_ld ty60 (aS (S74.atX (i:=1) rfl) k_) rfl rfl dn) ?_
       refine kS rfl (fun _ k_=>p_mI rfl dn)<|kC rfl<|kC rfl<|kC rfl ?_
       intro w76 k77; have S78:=S74.call k77
       obtain ⟨r79,h80,H⟩:=bindS H
       refine p_cal (B_Grown_ok h80 (S78.atP (i:=8) rfl)) fu112 rfl ?_
       rintro _ w81 ⟨A83,c84,rfl,k82,⟨o85,n86⟩,_⟩
       have S88:=S78.addNew k82 o85 n86
       refine cN k82 fun w89 k90=>?_
       have S91:=S88.call k90
       obtain ⟨r92,h93,H⟩:=bindS H
       refine p_cal (B_Grown_ok h93 (S91.atP (i:=9) rfl)) fu112 rfl ?_
       rintro _ w94 ⟨A96,c97,rfl,k95,⟨o98,n99⟩,_⟩
       have S101:=S91.addNew k95 o98 n99
       refine cN k95 fun w102 k103=>?_
       have S104:=S101.call k103
       refine p_bld (cs:=[SL A83 r79.length c84,SL A96 r92.length c97]) st99 (rfl:_=[(0,SL A83 r79.length c84),(1,SL A96 r92.length c97)]) (by kernel_rfl) (cN (kR) fun w105 k106=>?_)
       have S107:=S104.call k106
       have S108:=S107.fixRd intE_len (i:=1) rfl
       have S109:=S108.fixRd intE_len (i:=0) rfl
       obtain ⟨r110,h111,H⟩:=bindS H
       refine p_cal (ih h111 (S109.atP (i:=6) rfl) (S109.atP (i:=7) rfl) (S109.atP (i:=8) rfl) (S109.atP (i:=9) rfl) (S109.atP (i:=1) rfl) (S109.atP (i:=0) rfl)) fu88 rfl ?_
       rintro _ w112 ⟨A114,c115,l116,rfl,k113,⟨o117,n118⟩,⟨o119,n120⟩,_⟩
       have S121:=S109.callN k113 [rd nRef10_truth 2 A114 c115 l116,ri nRef10_truthI l116 r110] (cA ⟨o117,New.inL n118⟩ (cA ⟨o119,Al.inL n120 ((cA (fp_mem (i:=6) rfl) (cA (fp_mem (i:=7) rfl) (cA (fp_mem (i:=8) rfl) (cA (fp_mem (i:=9) rfl) (cA (fp_mem (i:=1) rfl) (cA (fp_mem (i:=0) rfl) nM)))))))⟩ nM))
       refine cN k113 fun w122 k123=>?_
       have S124:=S121.call k123
       rcases bE (r110.isEmpty) with c125 | c125
       ·replace H:=condT c125 H
        refine p_app0 sc79 in99 (gr_rd nRef10_truth_len (S124.atX (i:=0) rfl)).2.1 (ri_emp (S124.atP (i:=1) rfl) c125) rfl rfl<|p_aS rfl<|wp_nil<|reg<|p_mI rfl<|p_add rfl rfl<|p_aI rfl<|wp_nil ?_
        have S130:=S124.pk [0,1,2] (by decide) [4,5,6,7,8,9,10,11,12,13] rfl rfl
        exact ⟨(z_3.1,wr (z_3.2+1)),(y_3.1,y_3.2.1,y_3.2.2),_,rfl,⟨rfl,rfl,rfl,rfl,rfl,rfl,trivial⟩,H,S130⟩
       ·replace H:=condF c125 H
        obtain ⟨h135,H⟩:=needS H
        refine p_app (enc:=nRef10_truth) sc79 in99 rfl nRef10_truth_len nRef10_truth_one (by decide) S124 (k:=0) rfl (S124.atP (i:=0) rfl).1 (fits_ri h135 (congr (congrArg HAdd.hAdd (ri_len (S124.atP (i:=4) rfl))) (ri_len (S124.atP (i:=1) rfl)))) (ne_of_some (ri_emp (S124.atP (i:=1) rfl) c125)) rfl rfl fun A133 c134 w131 S132=>?_
        have S136:=S132.riApp (i:=4) (j:=1) rfl rfl
        refine p_aS rfl<|wp_nil<|reg<|p_mI rfl<|p_add rfl rfl<|p_aI rfl<|wp_nil ?_
        have S137:=St.addPur (φ:=Al w [rd eTallyCount 7 A1 c2 a0.Tally.Counts,rd eTicketSeason 2 A4 c5 a0.Tickets,rd eTicketShow 3 A7 c8 a0.Shows,rd eTicketBox 4 A10 c11 a0.Boxes,rd intE 1 A13 c14 a1.crossed_,rd intE 1 A16 c17 a1.used_] (ri nRef10_truthI (y_3.2.2++l116) (z_3.1++r110))) S136 (Al.riApp (Pur.of (S132.atP (i:=5) rfl)) (Al.up n120 S109.keep.size (cA (Al.self (i:=0) rfl) (cA (Al.self (i:=1) rfl) (cA (Al.self (i:=2) rfl) (cA (Al.self (i:=3) rfl) (cA (New.al (New.rd (S107.newX (i:=1) rfl))) (cA (New.al (New.rd (S108.newX (i:=0) rfl))) nM))))))))
        have S138:=S137.pk [0,1,2] (by decide) [1,0,8,9,10,11,12,13,14,15] rfl rfl
        exact ⟨(z_3.1++r110,wr (z_3.2+1)),(A133,c134,y_3.2.2++l116),_,rfl,⟨rfl,rfl,rfl,rfl,rfl,rfl,trivial⟩,H,S138⟩
      ·replace H:=condF c75 H
       refine c_skip<|reg<|p_mI rfl<|p_add rfl rfl<|p_aI rfl<|wp_nil ?_
       exact ⟨(z_3.1,wr (z_3.2+1)),(y_3.1,y_3.2.1,y_3.2.2),_,rfl,⟨rfl,rfl,rfl,rfl,rfl,rfl,trivial⟩,H,S74⟩
    ·replace H:=condF c71 H
     refine c_exit<|reg<|p_mI rfl<|p_add rfl rfl<|p_aI rfl<|wp_nil ?_
     have S92:=S70.pk [0,1,2] (by decide) [0,1,4,5,6,7,8,9] rfl rfl
     exact ⟨(z_3.1,wr (z_2.2+1)),(y_3.1,y_3.2.1,y_3.2.2),_,rfl,⟨rfl,rfl,rfl,rfl,rfl,trivial⟩,H,S92⟩
   ·replace H:=condF c65 H
    refine c_exit<|c_seq<|reg<|p_mS rfl<|p_aS rfl<|wp_nil ?_
    obtain rfl:=sJ H
    refine c_ret ?_; show bodyPostM (Fr none) 0 Tryz.prog Tryz.f88 _ .ret _ _
    refine ret_of (res1 rfl (rvT (rfl:_=SL y_2.1 y_2.2.2.length y_2.2.1))) ?_
    exact ⟨_,rfl,y_2.1,y_2.2.1,y_2.2.2,rfl,S64.keep,⟨(gr_rd nRef10_truth_len (S64.atX (i:=0) rfl)),(New.rd (S64.newX (i:=0) rfl))⟩,⟨(S64.atP (i:=0) rfl),(Pur.of (S64.atP (i:=1) rfl))⟩,trivial⟩
def ref10_truths (a0:TicketBook):Option (List Ref10_truth):=
 (ref10_clashes a0).bind fun r16=>
 bif decide (r16.1≥0) then (some ([]:List _))
 else ((ref10_goes big a0 (Ref10_truth.mk ([]:List Int) ([]:List Int))).bind fun r21=>
 some r21)
set_option maxRecDepth 100000 in
theorem ref10_truths_ok {a0:TicketBook}{A1:Option Addr}{c2:Nat}{A4:Option Addr}{c5:Nat}{A7:Option Addr}{c8:Nat}{A10:Option Addr}{c11:Nat}{w:World}{r:(List Ref10_truth)} (H:ref10_truths a0=some r) (h3:(rd eTallyCount 7 A1 c2 a0.Tally.Counts).ok w) (h6:(rd eTicketSeason 2 A4 c5 a0.Tickets).ok w) (h9:(rd eTicketShow 3 A7 c8 a0.Shows).ok w) (h12:(rd eTicketBox 4 A10 c11 a0.Boxes).ok w):Calls Tryz.prog 50 #[AG (vB a0 A1 c2 A4 c5 A7 c8 A10 c11)] w fun en w_=>∃ u_,en=.returned u_∧∃ A_1:Option Addr,∃ c_2:Nat,∃ l_3:List (Ref10_truth×(Option Addr)×Nat×(Option Addr)×Nat),u_=SL A_1 l_3.length c_2∧Keep0 w w_∧((rd nRef10_truth 2 A_1 c_2 l_3).ok w_∧New w.heap.size (rd nRef10_truth 2 A_1 c_2 l_3))∧((ri nRef10_truthI l_3 r).ok w_∧Al w [rd eTallyCount 7 A1 c2 a0.Tally.Counts,rd eTicketSeason 2 A4 c5 a0.Tickets,rd eTicketShow 3 A7 c8 a0.Shows,rd eTicketBox 4 A10 c11 a0.Boxes] (ri nRef10_truthI l_3 r))∧True:=by
 unfold ref10_truths at H
 refine fn_of (n:=15) Tryz.func50 rfl rfl (lE rfl) ?_
 have S:=St.start w nF _ (cA h3 (cA h6 (cA h9 (cA h12 nM))))
 refine c_seq<|reg<|p_boxA rfl S fun b13 w14 S15=>p_aS rfl<|wp_nil<|c_seq<|c_seq<|reg<|p_ldA ty29 sz29 (S15.atX (i:=0) rfl) rfl rfl ?_
 obtain ⟨r16,h17,H⟩:=bindS H
 refine p_cv (ref10_clashes_ok h17 (S15.atP (i:=0) rfl) (S15.atP (i:=1) rfl) (S15.atP (i:=2) rfl) (S15.atP (i:=3) rfl)) fu82 rfl S15 fun w18 S19=>p_mT rfl<|p_ext rfl rfl<|p_ext rfl rfl<|p_aI rfl<|p_aI rfl<|wp_nil<|c_seq<|reg<|p_mI rfl<|p_cmp rfl rfl rfl<|wp_nil ?_
 refine c_cond rfl (fun c20=>?_) (fun c20=>?_)
 ·replace H:=condT c20 H
  refine c_seq<|reg<|p_aS rfl<|wp_nil ?_
  obtain rfl:=sJ H
  refine c_ret ?_; show bodyPostM (Fr none) 0 Tryz.prog Tryz.f50 _ .ret _ _
  refine ret_of (res1 rfl (rvT (rfl:_=SL none 0 0))) ?_
  exact ⟨_,rfl,none,0,([]:List (Ref10_truth×(Option Addr)×Nat×(Option Addr)×Nat)),rfl,S19.keep,⟨rd_nil (Nat.zero_le _),New.nil⟩,⟨ri_nil,Al.riNil⟩,trivial⟩
 ·replace H:=condF c20 H
  refine c_skip<|c_seq<|reg<|p_ldA ty29 sz29 (S19.atX (i:=0) rfl) rfl rfl<|p_bld (cs:=[SL none 0 0,SL none 0 0]) st99 (rfl:_=[]) (by kernel_rfl) ?_
  obtain ⟨r21,h22,H⟩:=bindS H
  refine p_cal (ref10_goes_ok h22 (S19.atP (i:=0) rfl) (S19.atP (i:=1) rfl) (S19.atP (i:=2) rfl) (S19.atP (i:=3) rfl) (rd_nil (Nat.zero_le _)) (rd_nil (Nat.zero_le _))) fu88 rfl ?_
  rintro _ w23 ⟨A25,c26,l27,rfl,k24,⟨o28,n29⟩,⟨o30,n31⟩,_⟩
  have S32:=S19.callN k24 [rd nRef10_truth 2 A25 c26 l27,ri nRef10_truthI l27 r21] (cA ⟨o28,New.inL n29⟩ (cA ⟨o30,Al.inL n31 ((cA (fp_mem (i:=0) rfl) (cA (fp_mem (i:=1) rfl) (cA (fp_mem (i:=2) rfl) (cA (fp_mem (i:=3) rfl) (cA fp_nil (cA fp_nil nM)))))))⟩ nM))
  refine p_aS rfl<|wp_nil ?_
  obtain rfl:=sJ H
  refine c_ret ?_; show bodyPostM (Fr none) 0 Tryz.prog Tryz.f50 _ .ret _ _
  refine ret_of (res1 rfl (rvT (rfl:_=SL A25 l27.length c26))) ?_
  exact ⟨_,rfl,A25,c26,l27,rfl,S32.keep,⟨(S32.atP (i:=0) rfl),(New.mono n29 S19.keep.size)⟩,⟨(S32.atP (i:=1) rfl),(Al.up n31 S19.keep.size (cA (Al.self (i:=0) rfl) (cA (Al.self (i:=1) rfl) (cA (Al.self (i:=2) rfl) (cA (Al.self (i:=3) rfl) (cA Al.nil (cA Al.nil nM)))))))⟩,trivial⟩
def ticket_asked (a0:TicketBook) (a1:Bool):Option (Ticket_book×Int):=
 (ticket_Check a0).bind fun r21=>
 bif (r21 != 0) then (some ((Ticket_book.mk (TicketBook.mk (TallyBook.mk 0 0 ([]:List TallyCount)) 0 ([]:List TicketSeason) ([]:List TicketShow) ([]:List TicketBox)) (List.replicate 3 0) ([]:List (Ticket_seat×Int))),r21))
 else (bif !a1 then (some ((Ticket_book.mk (TicketBook.mk (TallyBook.mk 0 0 ([]:List TallyCount)) 0 ([]:List TicketSeason) ([]:List TicketShow) ([]:List TicketBox)) (List.replicate 3 0) ([]:List (Ticket_seat×Int))),101))
 else ((ticket_nothing).bind fun r31=>
 (ticket_opened a0 (Ticket_choice.mk (fun y37=>ticket_nothing_1 y37))).bind fun r38=>
 (ticket_book_isTrue (Ticket_book.mk (TicketBook.mk (TallyBook.mk r38.TicketBook.Tally.Trips r38.TicketBook.Tally.Room a0.Tally.Counts) r38.TicketBook.Fare a0.Tickets r38.TicketBook.Shows r38.TicketBook.Boxes) r38.shown_ r38.by_)).bind fun r92=>
 bif !r92 then (some ((Ticket_book.mk (TicketBook.mk (TallyBook.mk r38.TicketBook.Tally.Trips r38.TicketBook.Tally.Room a0.Tally.Counts) r38.TicketBook.Fare a0.Tickets r38.TicketBook.Shows r38.TicketBook.Boxes) r38.shown_ r38.by_),102))
 else (some ((Ticket_book.mk (TicketBook.mk (TallyBook.mk r38.TicketBook.Tally.Trips r38.TicketBook.Tally.Room a0.Tally.Counts) r38.TicketBook.Fare a0.Tickets r38.TicketBook.Shows r38.TicketBook.Boxes) r38.shown_ r38.by_),0))))
set_option maxRecDepth 100000 in
theorem ticket_asked_ok {a0:TicketBook}{a1:Bool}{A1:Option Addr}{c2:Nat}{A4:Option Addr}{c5:Nat}{A7:Option Addr}{c8:Nat}{A10:Option Addr}{c11:Nat}{w:World}{r:Ticket_book×Int} (H:ticket_asked a0 a1=some r) (h3:(rd eTallyCount 7 A1 c2 a0.Tally.Counts).ok w) (h6:(rd eTicketSeason 2 A4 c5 a0.Tickets).ok w) (h9:(rd eTicketShow 3 A7 c8 a0.Shows).ok w) (h12:(rd eTicketBox 4 A10 c11 a0.Boxes).ok w) (hg13:(gW0).ok w) (hg14:(gW2).ok w):Calls Tryz.prog 62 #[AG (vB a0 A1 c2 A4 c5 A7 c8 A10 c11),B a1] w fun en w_=>∃ u_,en=.returned u_∧∃ A_1:Option Addr,∃ c_2:Nat,∃ A_3:Option Addr,∃ c_4:Nat,∃ A_5:Option Addr,∃ c_6:Nat,∃ A_7:Option Addr,∃ c_8:Nat,∃ m_9:Option Nat,u_=TU [AG ((vB r.1.TicketBook A_1 c_2 A_3 c_4 A_5 c_6 A_7 c_8)++(sg r.1.shown_ 3++[Value.map m_9])),I r.2]∧Keep0 w w_∧((rd eTallyCount 7 A_1 c_2 r.1.TicketBook.Tally.Counts).ok w_∧Al w [rd eTallyCount 7 A1 c2 a0.Tally.Counts,rd eTicketSeason 2 A4 c5 a0.Tickets,rd eTicketShow 3 A7 c8 a0.Shows,rd eTicketBox 4 A10 c11 a0.Boxes] (rd eTallyCount 7 A_1 c_2 r.1.TicketBook.Tally.Counts))∧((rd eTicketSeason 2 A_3 c_4 r.1.TicketBook.Tickets).ok w_∧Al w [rd eTallyCount 7 A1 c2 a0.Tally.Counts,rd eTicketSeason 2 A4 c5 a0.Tickets,rd eTicketShow 3 A7 c8 a0.Shows,rd eTicketBox 4 A10 c11 a0.Boxes] (rd eTicketSeason 2 A_3 c_4 r.1.TicketBook.Tickets))∧((rd eTicketShow 3 A_5 c_6 r.1.TicketBook.Shows).ok w_∧New w.heap.size (rd eTicketShow 3 A_5 c_6 r.1.TicketBook.Shows))∧((rd eTicketBox 4 A_7 c_8 r.1.TicketBook.Boxes).ok w_∧New w.heap.size (rd eTicketBox 4 A_7 c_8 r.1.TicketBook.Boxes))∧((mpo ekS iE m_9 r.1.by_).ok w_∧New w.heap.size (mpo ekS iE m_9 r.1.by_))∧True:=by
 unfold ticket_asked at H
 refine fn_of (n:=25) Tryz.func62 rfl rfl (lE rfl) ?_
 have S:=St.start w nF _ (cA h3 (cA h6 (cA h9 (cA h12 (cA hg13 (cA hg14 nM))))))
 refine c_seq<|reg<|p_boxA rfl S fun b15 w16 S17=>p_allA in73 S17 fun b18 w19 S20=>p_aI rfl<|wp_nil<|c_seq<|c_seq<|reg<|p_ldA ty29 sz29 (S20.atX (i:=1) rfl) rfl rfl ?_
 obtain ⟨r21,h22,H⟩:=bindS H
 refine p_cv (ticket_Check_ok h22 (S20.atP (i:=0) rfl) (S20.atP (i:=1) rfl) (S20.atP (i:=2) rfl) (S20.atP (i:=3) rfl)) fu18 rfl S20 fun w23 S24=>p_aI rfl<|wp_nil<|c_seq<|reg<|p_mI rfl<|p_cmp rfl rfl rfl<|wp_nil ?_
 refine c_cond rfl (fun c25=>?_) (fun c25=>?_)
 ·replace H:=condT c25 H
  refine c_seq<|reg<|p_bld (cs:=[I 0,I 0,SL none 0 0,I 0,SL none 0 0,SL none 0 0,SL none 0 0]++(sg (List.replicate 3 0) 3++[Value.map none])) st73 (rfl:_=[]) (by kernel_rfl)<|p_mI rfl ?_
  refine p_stP (pre:=[]) (old:=[I 0,I 0,SL none 0 0,I 0,SL none 0 0,SL none 0 0,SL none 0 0]++(sg (List.replicate 3 0) 3++[Value.map none])) (post:=[]) (vs:=[I 0,I 0,SL none 0 0,I 0,SL none 0 0,SL none 0 0,SL none 0 0]++(sg (List.replicate 3 0) 3++[Value.map none])) sz73 S24 (i:=0) rfl rfl rfl rfl (rfl:_=AG ([I 0,I 0,SL none 0 0,I 0,SL none 0 0,SL none 0 0,SL none 0 0]++(sg (List.replicate 3 0) 3++[Value.map none]))) rfl rfl rfl rfl fun w26 S27=>?_
  refine p_aI rfl<|wp_nil ?_
  obtain rfl:=sJ H
  refine c_ret ?_; show bodyPostM (Fr none) 0 Tryz.prog Tryz.f62 _ .ret _ _
  refine ret_of (res2 rfl (rvA rfl ty73 sz73 (S27.atX (i:=0) rfl) rfl) (rvT (rfl:_=I r21))) ?_
  exact ⟨_,rfl,none,0,none,0,none,0,none,0,none,rfl,S27.keep,⟨rd_nil (Nat.zero_le _),Al.nil⟩,⟨rd_nil (Nat.zero_le _),Al.nil⟩,⟨rd_nil (Nat.zero_le _),New.nil⟩,⟨rd_nil (Nat.zero_le _),New.nil⟩,⟨mpo_none,New.mpoN⟩,trivial⟩
 ·replace H:=condF c25 H
  refine c_skip<|c_seq<|c_seq<|reg<|p_mB rfl<|p_not rfl<|wp_nil ?_
  refine c_cond rfl (fun c28=>?_) (fun c28=>?_)
  ·replace H:=condT c28 H
   refine c_seq<|reg<|p_bld (cs:=[I 0,I 0,SL none 0 0,I 0,SL none 0 0,SL none 0 0,SL none 0 0]++(sg (List.replicate 3 0) 3++[Value.map none])) st73 (rfl:_=[]) (by kernel_rfl) ?_
   refine p_stP (pre:=[]) (old:=[I 0,I 0,SL none 0 0,I 0,SL none 0 0,SL none 0 0,SL none 0 0]++(sg (List.replicate 3 0) 3++[Value.map none])) (post:=[]) (vs:=[I 0,I 0,SL none 0 0,I 0,SL none 0 0,SL none 0 0,SL none 0 0]++(sg (List.replicate 3 0) 3++[Value.map none])) sz73 S24 (i:=0) rfl rfl rfl rfl (rfl:_=AG ([I 0,I 0,SL none 0 0,I 0,SL none 0 0,SL none 0 0,SL none 0 0]++(sg (List.replicate 3 0) 3++[Value.map none]))) rfl rfl rfl rfl fun w29 S30=>?_
   refine p_aI rfl<|wp_nil ?_
   obtain rfl:=sJ H
   refine c_ret ?_; show bodyPostM (Fr none) 0 Tryz.prog Tryz.f62 _ .ret _ _
   refine ret_of (res2 rfl (rvA rfl ty73 sz73 (S30.atX (i:=0) rfl) rfl) (rvT (rfl:_=I 101))) ?_
   exact ⟨_,rfl,none,0,none,0,none,0,none,0,none,rfl,S30.keep,⟨rd_nil (Nat.zero_le _),Al.nil⟩,⟨rd_nil (Nat.zero_le _),Al.nil⟩,⟨rd_nil (Nat.zero_le _),New.nil⟩,⟨rd_nil (Nat.zero_le _),New.nil⟩,⟨mpo_none,New.mpoN⟩,trivial⟩
  ·replace H:=condF c28 H
   refine c_skip<|c_seq ?_
   obtain ⟨r31,h32,H⟩:=bindS H
   obtain ⟨r38,h39,H⟩:=bindS H
   refine reg_any mixed 4 (by kernel_rfl) [rv (AG (vB a0 A1 c2 A4 c5 A7 c8 A10 c11)),rv (AG [vF (.func 87) #[] #[]]),rx (α:=(Option Addr)×Nat×(Option Addr)×Nat×Nat) (fun ⟨A42,c43,A44,c45,m46⟩=>AG ([I r38.TicketBook.Tally.Trips,I r38.TicketBook.Tally.Room,SL A1 a0.Tally.Counts.length c2,I r38.TicketBook.Fare,SL A4 a0.Tickets.length c5,SL A42 r38.TicketBook.Shows.length c43,SL A44 r38.TicketBook.Boxes.length c45]++(sg r38.shown_ 3++[Value.map (some m46)]))) (fun ⟨A42,c43,A44,c45,m46⟩ lo hi=>BtwL lo hi [] (rd eTicketShow 3 A42 c43 r38.TicketBook.Shows)∧BtwL lo hi [] (rd eTicketBox 4 A44 c45 r38.TicketBook.Boxes)∧BtwL lo hi [] (mp ekS iE m46 r38.by_)∧True) (fun ⟨A42,c43,A44,c45,m46⟩=>[rd eTicketShow 3 A42 c43 r38.TicketBook.Shows,rd eTicketBox 4 A44 c45 r38.TicketBook.Boxes,mp ekS iE m46 r38.by_]),rx (α:=Nat) (fun b54=>P b54 0) (fun b54 lo hi=>BtwL lo hi [] (bl b54 ([I 0,I 0,SL none 0 0,I 0,SL none 0 0,SL none 0 0,SL none 0 0]++(sg (List.replicate 3 0) 3++[Value.map none])) 73)∧True) (fun b54=>[bl b54 ([I 0,I 0,SL none 0 0,I 0,SL none 0 0,SL none 0 0,SL none 0 0]++(sg (List.replicate 3 0) 3++[Value.map none])) 73])] [[],[],[],[]] rfl (by kernel_rfl) [[],[],[0,1],[],[0,1,2,3]] (by kernel_rfl) ⟨?_,?_,?_,?_,trivial⟩ ?_
   ·intro e_ w_ k_ hf_ hR_
    have S_:St w_ nF w_ [] [bl b18 ([I 0,I 0,SL none 0 0,I 0,SL none 0 0,SL none 0 0,SL none 0 0]++(sg (List.replicate 3 0) 3++[Value.map none])) 73,bl b15 (vB a0 A1 c2 A4 c5 A7 c8 A10 c11) 29,rd eTallyCount 7 A1 c2 a0.Tally.Counts,rd eTicketSeason 2 A4 c5 a0.Tickets,rd eTicketShow 3 A7 c8 a0.Shows,rd eTicketBox 4 A10 c11 a0.Boxes,gW0,gW2]:=S24.asP k_
    refine hopE [(2,P b15 0)] ⟨((hf_ 2 rfl).trans (rfl:_=P b15 0)),trivial⟩ ?_
    exact p_ldA ty29 sz29 (S_.atP (i:=1) rfl) rfl rfl<|wp_nil ⟨_,rfl,S_.keep,rfl⟩
   ·intro e_ w_ k_ hf_ hR_
    have S_:St w_ nF w_ [] [bl b18 ([I 0,I 0,SL none 0 0,I 0,SL none 0 0,SL none 0 0,SL none 0 0]++(sg (List.replicate 3 0) 3++[Value.map none])) 73,bl b15 (vB a0 A1 c2 A4 c5 A7 c8 A10 c11) 29,rd eTallyCount 7 A1 c2 a0.Tally.Counts,rd eTicketSeason 2 A4 c5 a0.Tickets,rd eTicketShow 3 A7 c8 a0.Shows,rd eTicketBox 4 A10 c11 a0.Boxes,gW0,gW2]:=S24.asP k_
    refine hopE [] trivial ?_
    refine p_cv (ticket_nothing_ok h32) fu48 rfl S_ fun w33 S34=>wp_nil ?_
    exact ⟨_,rfl,S34.keep,rfl⟩
   ·intro e_ w_ k_ hf_ hR_
    have S_:St w_ nF w_ [] [bl b18 ([I 0,I 0,SL none 0 0,I 0,SL none 0 0,SL none 0 0,SL none 0 0]++(sg (List.replicate 3 0) 3++[Value.map none])) 73,bl b15 (vB a0 A1 c2 A4 c5 A7 c8 A10 c11) 29,rd eTallyCount 7 A1 c2 a0.Tally.Counts,rd eTicketSeason 2 A4 c5 a0.Tickets,rd eTicketShow 3 A7 c8 a0.Shows,rd eTicketBox 4 A10 c11 a0.Boxes,gW0,gW2]:=S24.asP k_
    refine hopE [(17,AG (vB a0 A1 c2 A4 c5 A7 c8 A10 c11)),(18,AG [vF (.func 87) #[] #[]])] ⟨rQ (hR_ 0 17 rfl (lE rfl) rfl),rQ (hR_ 1 18 rfl (lE rfl) rfl),trivial⟩ ?_
    refine p_cal (ticket_opened_ok h39 (S_.atP (i:=2) rfl) (S_.atP (i:=3) rfl) (S_.atP (i:=4) rfl) (S_.atP (i:=5) rfl) (by kernel_rfl) (fun _ _ _ k_ hr_=>ticket_nothing_1_ok hr_) (S_.atP (i:=6) rfl)) fu47 rfl ?_
    rintro _ w40 ⟨A42,c43,A44,c45,m46,rfl,k41,⟨o47,n48⟩,⟨o49,n50⟩,⟨o51,n52⟩,_⟩
    have S53:=S_.callN k41 [rd eTicketShow 3 A42 c43 r38.TicketBook.Shows,rd eTicketBox 4 A44 c45 r38.TicketBook.Boxes,mp ekS iE m46 r38.by_] (cA ⟨o47,New.inL n48⟩ (cA ⟨o49,New.inL n50⟩ (cA ⟨o51,New.inL n52⟩ nM)))
    exact wp_nil ⟨_,rfl,S53.keep,⟨(A42,c43,A44,c45,m46),rfl,⟨bL (New.al (New.mono n48 S_.keep.size)) rfl (S53.atP (i:=0) rfl) rfl,bL (New.al (New.mono n50 S_.keep.size)) rfl (S53.atP (i:=1) rfl) rfl,bL (New.al (New.mono n52 S_.keep.size)) rfl (S53.atP (i:=2) rfl) rfl,trivial⟩,(cA (S53.atP (i:=0) rfl) (cA (S53.atP (i:=1) rfl) (cA (S53.atP (i:=2) rfl) nM)))⟩⟩
   ·intro e_ w_ k_ hf_ hR_
    have S_:St w_ nF w_ [] [bl b18 ([I 0,I 0,SL none 0 0,I 0,SL none 0 0,SL none 0 0,SL none 0 0]++(sg (List.replicate 3 0) 3++[Value.map none])) 73,bl b15 (vB a0 A1 c2 A4 c5 A7 c8 A10 c11) 29,rd eTallyCount 7 A1 c2 a0.Tally.Counts,rd eTicketSeason 2 A4 c5 a0.Tickets,rd eTicketShow 3 A7 c8 a0.Shows,rd eTicketBox 4 A10 c11 a0.Boxes,gW0,gW2]:=S24.asP k_
    refine hopE [] trivial ?_
    refine p_allA in73 S_ fun b54 w55 S56=>wp_nil ?_
    exact ⟨_,rfl,S56.keep,⟨b54,rfl,⟨bL (New.al (S56.newX (i:=0) rfl)) rfl (S56.atX (i:=0) rfl) rfl,trivial⟩,(cA (S56.atX (i:=0) rfl) nM)⟩⟩
   intro e57 w58 lo59 hi60 k61 hf62 hR63 hd64
   have S65:=S24.call k61
   have q66:e57 17=AG (vB a0 A1 c2 A4 c5 A7 c8 A10 c11):=(hR63 0 17 (lE rfl) rfl).2.2.2
   have q67:e57 18=AG [vF (.func 87) #[] #[]]:=(hR63 1 18 (lE rfl) rfl).2.2.2
   obtain ⟨h69,h70,h71,⟨A42,c43,A44,c45,m46⟩,q68,h72,h73⟩:=hR63 2 19 (lE rfl) rfl
   replace q68:e57 19=AG ([I r38.TicketBook.Tally.Trips,I r38.TicketBook.Tally.Room,SL A1 a0.Tally.Counts.length c2,I r38.TicketBook.Fare,SL A4 a0.Tickets.length c5,SL A42 r38.TicketBook.Shows.length c43,SL A44 r38.TicketBook.Boxes.length c45]++(sg r38.shown_ 3++[Value.map (some m46)])):=q68
   obtain ⟨p74,p75,p76,_⟩:=h72
   have S77:=St.addR S65 (h73 _ (.head _)) (oR p74 h69 S24 (nM))
   have S78:=St.addR S77 (h73 _ (.tail _ (.head _))) (oR p75 h69 S24 (nM))
   have S79:=St.addR S78 (h73 _ (.tail _ (.tail _ (.head _)))) (oR p76 h69 S24 (nM))
   obtain ⟨h81,h82,h83,b54,q80,h84,h85⟩:=hR63 3 7 (lE rfl) rfl
   replace q80:e57 7=P b54 0:=q80
   obtain ⟨p86,_⟩:=h84
   have S88:=St.addO S79 (h85 _ (.head _)) (oN p86 h81 S24) (oX p86 h81 S24) (cA (oP p86 p76 h81 S24 (nM) (hd64 3 2 (lE rfl) (lE rfl) (by decide))) (cA (oP p86 p75 h81 S24 (nM) (hd64 3 2 (lE rfl) (lE rfl) (by decide))) (cA (oP p86 p74 h81 S24 (nM) (hd64 3 2 (lE rfl) (lE rfl) (by decide))) (oL p86 h81 S24))))
   refine tailE [(4,P b18 0),(7,P b54 0),(19,AG ([I r38.TicketBook.Tally.Trips,I r38.TicketBook.Tally.Room,SL A1 a0.Tally.Counts.length c2,I r38.TicketBook.Fare,SL A4 a0.Tickets.length c5,SL A42 r38.TicketBook.Shows.length c43,SL A44 r38.TicketBook.Boxes.length c45]++(sg r38.shown_ 3++[Value.map (some m46)])))] ⟨((hf62 4 rfl).trans (rfl:_=P b18 0)),q80,q68,trivial⟩ ?_
   intro g89
   refine p_stP (pre:=[]) (old:=[I 0,I 0,SL none 0 0,I 0,SL none 0 0,SL none 0 0,SL none 0 0]++(sg (List.replicate 3 0) 3++[Value.map none])) (post:=[]) (vs:=[I r38.TicketBook.Tally.Trips,I r38.TicketBook.Tally.Room,SL A1 a0.Tally.Counts.length c2,I r38.TicketBook.Fare,SL A4 a0.Tickets.length c5,SL A42 r38.TicketBook.Shows.length c43,SL A44 r38.TicketBook.Boxes.length c45]++(sg r38.shown_ 3++[Value.map (some m46)])) sz73 S88 (i:=0) rfl rfl rfl rfl (rfl:_=AG ([I r38.TicketBook.Tally.Trips,I r38.TicketBook.Tally.Room,SL A1 a0.Tally.Counts.length c2,I r38.TicketBook.Fare,SL A4 a0.Tickets.length c5,SL A42 r38.TicketBook.Shows.length c43,SL A44 r38.TicketBook.Boxes.length c45]++(sg r38.shown_ 3++[Value.map (some m46)]))) rfl rfl rfl rfl fun w90 S91=>?_
   refine wp_nil<|c_seq<|c_seq<|reg<|p_ldA ty73 sz73 (S91.atX (i:=0) rfl) rfl rfl ?_
   obtain ⟨r92,h93,H⟩:=bindS H
   refine p_cv (ticket_book_isTrue_ok h93 (S91.atP (i:=3) rfl) (S91.atP (i:=4) rfl) (S91.atP (i:=2) rfl) (S91.atP (i:=1) rfl) (mpo_some (S91.atP (i:=0) rfl)) (S91.atP (i:=7) rfl) (S91.atP (i:=8) rfl)) fu49 rfl S91 fun w94 S95=>p_not rfl<|wp_nil ?_
   refine c_cond rfl (fun c96=>?_) (fun c96=>?_)
   ·replace H:=condT c96 H
    refine c_seq<|reg<|p_ldA ty73 sz73 (S95.atX (i:=0) rfl) rfl rfl ?_
    refine p_stP (pre:=[]) (old:=[I 0,I 0,SL none 0 0,I 0,SL none 0 0,SL none 0 0,SL none 0 0]++(sg (List.replicate 3 0) 3++[Value.map none])) (post:=[]) (vs:=[I r38.TicketBook.Tally.Trips,I r38.TicketBook.Tally.Room,SL A1 a0.Tally.Counts.length c2,I r38.TicketBook.Fare,SL A4 a0.Tickets.length c5,SL A42 r38.TicketBook.Shows.length c43,SL A44 r38.TicketBook.Boxes.length c45]++(sg r38.shown_ 3++[Value.map (some m46)])) sz73 S95 (i:=1) rfl rfl rfl rfl (rfl:_=AG ([I r38.TicketBook.Tally.Trips,I r38.TicketBook.Tally.Room,SL A1 a0.Tally.Counts.length c2,I r38.TicketBook.Fare,SL A4 a0.Tickets.length c5,SL A42 r38.TicketBook.Shows.length c43,SL A44 r38.TicketBook.Boxes.length c45]++(sg r38.shown_ 3++[Value.map (some m46)]))) rfl rfl rfl rfl fun w97 S98=>?_
    refine p_aI rfl<|wp_nil ?_
    obtain rfl:=sJ H
    refine c_ret ?_; show bodyPostM (Fr none) 0 Tryz.prog Tryz.f62 _ .ret _ _
    refine ret_of (res2 rfl (rvA rfl ty73 sz73 (S98.atX (i:=1) rfl) rfl) (rvT (rfl:_=I 102))) ?_
    exact ⟨_,rfl,A1,c2,A4,c5,A42,c43,A44,c45,(some m46),rfl,S98.keep,⟨(S98.atP (i:=3) rfl),Al.self (i:=0) rfl⟩,⟨(S98.atP (i:=4) rfl),Al.self (i:=1) rfl⟩,⟨(S98.atP (i:=2) rfl),(oN p74 h69 S24)⟩,⟨(S98.atP (i:=1) rfl),(oN p75 h69 S24)⟩,⟨mpo_some (S98.atP (i:=0) rfl),New.mpoS (oN p76 h69 S24)⟩,trivial⟩
   ·replace H:=condF c96 H
    refine c_skip<|c_seq<|reg<|p_ldA ty73 sz73 (S95.atX (i:=0) rfl) rfl rfl ?_
    refine p_stP (pre:=[]) (old:=[I 0,I 0,SL none 0 0,I 0,SL none 0 0,SL none 0 0,SL none 0 0]++(sg (List.replicate 3 0) 3++[Value.map none])) (post:=[]) (vs:=[I r38.TicketBook.Tally.Trips,I r38.TicketBook.Tally.Room,SL A1 a0.Tally.Counts.length c2,I r38.TicketBook.Fare,SL A4 a0.Tickets.length c5,SL A42 r38.TicketBook.Shows.length c43,SL A44 r38.TicketBook.Boxes.length c45]++(sg r38.shown_ 3++[Value.map (some m46)])) sz73 S95 (i:=1) rfl rfl rfl rfl (rfl:_=AG ([I r38.TicketBook.Tally.Trips,I r38.TicketBook.Tally.Room,SL A1 a0.Tally.Counts.length c2,I r38.TicketBook.Fare,SL A4 a0.Tickets.length c5,SL A42 r38.TicketBook.Shows.length c43,SL A44 r38.TicketBook.Boxes.length c45]++(sg r38.shown_ 3++[Value.map (some m46)]))) rfl rfl rfl rfl fun w99 S100=>?_
    refine p_aI rfl<|wp_nil ?_
    obtain rfl:=sJ H
    refine c_ret ?_; show bodyPostM (Fr none) 0 Tryz.prog Tryz.f62 _ .ret _ _
    refine ret_of (res2 rfl (rvA rfl ty73 sz73 (S100.atX (i:=1) rfl) rfl) (rvT (rfl:_=I 0))) ?_
    exact ⟨_,rfl,A1,c2,A4,c5,A42,c43,A44,c45,(some m46),rfl,S100.keep,⟨(S100.atP (i:=3) rfl),Al.self (i:=0) rfl⟩,⟨(S100.atP (i:=4) rfl),Al.self (i:=1) rfl⟩,⟨(S100.atP (i:=2) rfl),(oN p74 h69 S24)⟩,⟨(S100.atP (i:=1) rfl),(oN p75 h69 S24)⟩,⟨mpo_some (S100.atP (i:=0) rfl),New.mpoS (oN p76 h69 S24)⟩,trivial⟩
def sl_Index_int_int_l1 (a0:List Int) (a1:Int) (rec_z_1:Int→Option Int) (z_1:Int):Option Int:=
 bif decide (z_1 < (a0.length:Int)) then ((getI a0 z_1).bind fun r9=>
 bif (a1==r9) then (some z_1)
 else (rec_z_1 (wr (z_1+1))))
 else (some (-1))
def sl_Index_int_int (a0:List Int) (a1:Int):Option Int:=
 loopF (sl_Index_int_int_l1 a0 a1) big 0
set_option maxRecDepth 100000 in
theorem sl_Index_int_int_ok {a0:List Int}{a1:Int}{A1:Option Addr}{c2:Nat}{w:World}{r:Int} (H:sl_Index_int_int a0 a1=some r) (h3:(rd intE 1 A1 c2 a0).ok w):Calls Tryz.prog 97 #[SL A1 a0.length c2,I a1] w (RetV w (I r)):=by
 unfold sl_Index_int_int at H
 refine fn_of (n:=19) Tryz.func97 rfl rfl (lE rfl) ?_
 have S:=St.start w nF _ (cA h3 nM)
 refine c_seq<|reg<|p_aI rfl<|wp_nil<|c_seq<|c_seq<|reg<|p_mS rfl<|p_len rfl sc60<|p_mI rfl<|wp_nil<|c_block ?_
 refine c_lop (α:=Int) (β:=Unit) (sl_Index_int_int_l1 a0 a1) (fun z_1 y_1=>[(0,SL A1 a0.length c2),(1,I a1),(7,I (a0.length:Int)),(8,I z_1)]) (fun z_1 y_1 w_=>St w nF w_ [] [rd intE 1 A1 c2 a0]) 0 () H ⟨rfl,rfl,rfl,rfl,trivial⟩ S ?_
 intro m4 z_1 y_1 e5 w6 H S7
 unfold sl_Index_int_int_l1 at H
 refine c_seq<|reg<|p_cmp rfl rfl rfl<|wp_nil<|c_seq ?_
 refine c_cond rfl (fun c8=>?_) (fun c8=>?_)
 ·replace H:=condT c8 H
  refine c_skip<|c_seq<|c_block<|c_seq<|reg<|p_mI rfl<|p_aI rfl<|wp_nil<|c_seq<|reg<|p_mI rfl<|p_mS rfl<|p_mI rfl ?_
  obtain ⟨r9,h10,H⟩:=bindS H
  refine p_ixE sc60 h10 (S7.atP (i:=0) rfl).1 rfl rfl rfl<|p_ldE ty3 h10 (S7.atP (i:=0) rfl).1 rfl rfl<|p_cmp rfl rfl rfl<|wp_nil ?_
  refine c_cond rfl (fun c11=>?_) (fun c11=>?_)
  ·replace H:=condT c11 H
   refine c_seq<|reg<|p_mI rfl<|p_aI rfl<|wp_nil ?_
   obtain rfl:=sJ H
   exact c_ret (rT Tryz.f97 S7.keep rfl rfl)
  ·replace H:=condF c11 H
   refine c_skip<|reg<|p_add rfl rfl<|p_mI rfl<|wp_nil ?_
   exact ⟨wr (z_1+1),(),_,rfl,⟨rfl,rfl,rfl,rfl,trivial⟩,H,S7⟩
 ·replace H:=condF c8 H
  refine c_exit<|c_seq<|reg<|p_aI rfl<|wp_nil ?_
  obtain rfl:=sJ H
  exact c_ret (rT Tryz.f97 S7.keep rfl rfl)
def sl_Contains_int_int (a0:List Int) (a1:Int):Option Bool:=
 (sl_Index_int_int a0 a1).bind fun r4=>
 some (decide (r4≥0))
set_option maxRecDepth 100000 in
theorem sl_Contains_int_int_ok {a0:List Int}{a1:Int}{A1:Option Addr}{c2:Nat}{w:World}{r:Bool} (H:sl_Contains_int_int a0 a1=some r) (h3:(rd intE 1 A1 c2 a0).ok w):Calls Tryz.prog 75 #[SL A1 a0.length c2,I a1] w (RetV w (B r)):=by
 unfold sl_Contains_int_int at H
 refine fn_of (n:=9) Tryz.func75 rfl rfl (lE rfl) ?_
 have S:=St.start w nF _ (cA h3 nM)
 refine c_seq<|reg<|p_aB rfl<|wp_nil<|c_seq<|reg<|p_mS rfl<|p_mI rfl ?_
 obtain ⟨r4,h5,H⟩:=bindS H
 refine p_cv (sl_Index_int_int_ok h5 (S.atP (i:=0) rfl)) fu97 rfl S fun w6 S7=>p_cmp rfl rfl rfl<|p_aB rfl<|wp_nil ?_
 obtain rfl:=sJ H
 exact c_ret (rT Tryz.f75 S7.keep rfl rfl)
def sl_Min_int_int_l1 (a0:List Int) (rec_z_1:(Int×Int)→Option Int) (z_1:Int×Int):Option Int:=
 bif decide (z_1.2 < (a0.length:Int)) then ((getI a0 z_1.2).bind fun r12=>
 rec_z_1 ((if r12 < z_1.1 then r12 else z_1.1),wr (z_1.2+1)))
 else (some z_1.1)
def sl_Min_int_int (a0:List Int):Option Int:=
 bif decide ((a0.length:Int) < 1) then (none)
 else ((getI a0 0).bind fun r5=>
 loopF (sl_Min_int_int_l1 a0) big (r5,1))
set_option maxRecDepth 100000 in
theorem sl_Min_int_int_ok {a0:List Int}{A1:Option Addr}{c2:Nat}{w:World}{r:Int} (H:sl_Min_int_int a0=some r) (h3:(rd intE 1 A1 c2 a0).ok w):Calls Tryz.prog 92 #[SL A1 a0.length c2] w (RetV w (I r)):=by
 unfold sl_Min_int_int at H
 refine fn_of (n:=25) Tryz.func92 rfl rfl (lE rfl) ?_
 have S:=St.start w nF _ (cA h3 nM)
 refine c_seq<|reg<|p_aI rfl<|wp_nil<|c_seq<|c_seq<|reg<|p_mS rfl<|p_len rfl sc60<|p_cmp rfl rfl rfl<|wp_nil ?_
 refine c_cond rfl (fun c4=>?_) (fun c4=>?_)
 ·replace H:=condT c4 H
  refine reg ?_
  cases H
 ·replace H:=condF c4 H
  refine c_skip<|c_seq<|reg<|p_mS rfl ?_
  obtain ⟨r5,h6,H⟩:=bindS H
  refine p_ixE sc60 h6 (S.atP (i:=0) rfl).1 rfl rfl rfl<|p_ldE ty3 h6 (S.atP (i:=0) rfl).1 rfl rfl<|p_aI rfl<|wp_nil<|c_seq<|c_seq<|reg<|p_aI rfl<|wp_nil<|c_block ?_
  refine c_lop (α:=Int×Int) (β:=Unit) (sl_Min_int_int_l1 a0) (fun z_1 y_1=>[(0,SL A1 a0.length c2),(3,I z_1.1),(4,I z_1.2)]) (fun z_1 y_1 w_=>St w nF w_ [] [rd intE 1 A1 c2 a0]) (r5,1) () H ⟨rfl,rfl,rfl,trivial⟩ S ?_
  intro m7 z_1 y_1 e8 w9 H S10
  unfold sl_Min_int_int_l1 at H
  refine c_seq<|c_seq<|reg<|p_mI rfl<|p_mS rfl<|p_len rfl sc60<|p_cmp rfl rfl rfl<|wp_nil ?_
  refine c_cond rfl (fun c11=>?_) (fun c11=>?_)
  ·replace H:=condT c11 H
   refine c_skip<|c_seq<|c_block<|reg<|p_mI rfl<|p_mS rfl<|p_mI rfl ?_
   obtain ⟨r12,h13,H⟩:=bindS H
   refine p_ixE sc60 h13 (S10.atP (i:=0) rfl).1 rfl rfl rfl<|p_ldE ty3 h13 (S10.atP (i:=0) rfl).1 rfl rfl<|p_min rfl rfl<|p_aI rfl<|wp_nil<|reg<|p_mI rfl<|p_add rfl rfl<|p_aI rfl<|wp_nil ?_
   exact ⟨((if r12 < z_1.1 then r12 else z_1.1),wr (z_1.2+1)),(),_,rfl,⟨rfl,rfl,rfl,trivial⟩,H,S10⟩
  ·replace H:=condF c11 H
   refine c_exit<|c_seq<|reg<|p_mI rfl<|p_aI rfl<|wp_nil ?_
   obtain rfl:=sJ H
   exact c_ret (rT Tryz.f92 S10.keep rfl rfl)
def sl_Max_int_int_l1 (a0:List Int) (rec_z_1:(Int×Int)→Option Int) (z_1:Int×Int):Option Int:=
 bif decide (z_1.2 < (a0.length:Int)) then ((getI a0 z_1.2).bind fun r12=>
 rec_z_1 ((if r12 > z_1.1 then r12 else z_1.1),wr (z_1.2+1)))
 else (some z_1.1)
def sl_Max_int_int (a0:List Int):Option Int:=
 bif decide ((a0.length:Int) < 1) then (none)
 else ((getI a0 0).bind fun r5=>
 loopF (sl_Max_int_int_l1 a0) big (r5,1))
set_option maxRecDepth 100000 in
theorem sl_Max_int_int_ok {a0:List Int}{A1:Option Addr}{c2:Nat}{w:World}{r:Int} (H:sl_Max_int_int a0=some r) (h3:(rd intE 1 A1 c2 a0).ok w):Calls Tryz.prog 93 #[SL A1 a0.length c2] w (RetV w (I r)):=by
 unfold sl_Max_int_int at H
 refine fn_of (n:=25) Tryz.func93 rfl rfl (lE rfl) ?_
 have S:=St.start w nF _ (cA h3 nM)
 refine c_seq<|reg<|p_aI rfl<|wp_nil<|c_seq<|c_seq<|reg<|p_mS rfl<|p_len rfl sc60<|p_cmp rfl rfl rfl<|wp_nil ?_
 refine c_cond rfl (fun c4=>?_) (fun c4=>?_)
 ·replace H:=condT c4 H
  refine reg ?_
  cases H
 ·replace H:=condF c4 H
  refine c_skip<|c_seq<|reg<|p_mS rfl ?_
  obtain ⟨r5,h6,H⟩:=bindS H
  refine p_ixE sc60 h6 (S.atP (i:=0) rfl).1 rfl rfl rfl<|p_ldE ty3 h6 (S.atP (i:=0) rfl).1 rfl rfl<|p_aI rfl<|wp_nil<|c_seq<|c_seq<|reg<|p_aI rfl<|wp_nil<|c_block ?_
  refine c_lop (α:=Int×Int) (β:=Unit) (sl_Max_int_int_l1 a0) (fun z_1 y_1=>[(0,SL A1 a0.length c2),(3,I z_1.1),(4,I z_1.2)]) (fun z_1 y_1 w_=>St w nF w_ [] [rd intE 1 A1 c2 a0]) (r5,1) () H ⟨rfl,rfl,rfl,trivial⟩ S ?_
  intro m7 z_1 y_1 e8 w9 H S10
  unfold sl_Max_int_int_l1 at H
  refine c_seq<|c_seq<|reg<|p_mI rfl<|p_mS rfl<|p_len rfl sc60<|p_cmp rfl rfl rfl<|wp_nil ?_
  refine c_cond rfl (fun c11=>?_) (fun c11=>?_)
  ·replace H:=condT c11 H
   refine c_skip<|c_seq<|c_block<|reg<|p_mI rfl<|p_mS rfl<|p_mI rfl ?_
   obtain ⟨r12,h13,H⟩:=bindS H
   refine p_ixE sc60 h13 (S10.atP (i:=0) rfl).1 rfl rfl rfl<|p_ldE ty3 h13 (S10.atP (i:=0) rfl).1 rfl rfl<|p_max rfl rfl<|p_aI rfl<|wp_nil<|reg<|p_mI rfl<|p_add rfl rfl<|p_aI rfl<|wp_nil ?_
   exact ⟨((if r12 > z_1.1 then r12 else z_1.1),wr (z_1.2+1)),(),_,rfl,⟨rfl,rfl,rfl,trivial⟩,H,S10⟩
  ·replace H:=condF c11 H
   refine c_exit<|c_seq<|reg<|p_mI rfl<|p_aI rfl<|wp_nil ?_
   obtain rfl:=sJ H
   exact c_ret (rT Tryz.f93 S10.keep rfl rfl)
def ticket_book_span_r2 (a1:Ticket_truth→Option Int) (x_1:Ticket_truth) (z_1:(List Int)):Option (Bool×Nat×(List Int)):=
 (a1 x_1).bind fun r73=>
 (sl_Contains_int_int z_1 r73).bind fun r77=>
 bif !r77 then (need (fitsL (z_1.length+([r73]:List Int).length) 8)<|
 some (true,0,z_1++([r73]:List Int)))
 else (some (true,0,z_1))
def ticket_book_span (a0:Ticket_book) (a1:Ticket_truth→Option Int):Option Span:=
 (ticket_book_truths a0).bind fun r36=>
 (ticket_book_truths_1 (0,([]:List Int)) a0 (yvOf (ticket_book_span_r2 a1))).bind fun r45=>
 (sl_Min_int_int r45.2).bind fun r102=>
 (sl_Max_int_int r45.2).bind fun r104=>
 some (Span.mk r102 r104)
set_option maxRecDepth 100000 in
theorem ticket_book_span_ok {a0:Ticket_book}{a1:Ticket_truth→Option Int}{A1:Option Addr}{c2:Nat}{A4:Option Addr}{c5:Nat}{A7:Option Addr}{c8:Nat}{A10:Option Addr}{c11:Nat}{m13:Option Nat}{f15:Nat}{cp16:List Value}{w:World}{r:Span} (H:ticket_book_span a0 a1=some r) (h3:(rd eTallyCount 7 A1 c2 a0.TicketBook.Tally.Counts).ok w) (h6:(rd eTicketSeason 2 A4 c5 a0.TicketBook.Tickets).ok w) (h9:(rd eTicketShow 3 A7 c8 a0.TicketBook.Shows).ok w) (h12:(rd eTicketBox 4 A10 c11 a0.TicketBook.Boxes).ok w) (h14:(mpo ekS iE m13 a0.by_).ok w) (hF17:funOf Tryz.prog f15=true) (hw18:∀ (y19:Ticket_truth) (w21:World) (y20:Int),Keep0 w w21→a1 y19=some y20→Calls Tryz.prog f15 (List.toArray ([AG (sg y19.crossed_ 3++sg y19.used_ 3)]++cp16)) w21 (RetV w21 (I y20))) (hg22:(gW0).ok w) (hg23:(gW2).ok w):Calls Tryz.prog 63 #[AG ((vB a0.TicketBook A1 c2 A4 c5 A7 c8 A10 c11)++(sg a0.shown_ 3++[Value.map m13])),vF (.func f15) #[] cp16.toArray] w (RetV w (AG [I r.Low,I r.High])):=by
 unfold ticket_book_span at H
 refine fn_of (n:=27) Tryz.func63 rfl rfl (lE rfl) ?_
 have S:=St.start w nF _ (cA h3 (cA h6 (cA h9 (cA h12 (cA h14 (cA hg22 (cA hg23 nM)))))))
 refine c_seq<|reg<|p_boxA rfl S fun b24 w25 S26=>p_box (rfl:_=vF (.func f15) #[] cp16.toArray) rfl S26 fun b27 w28 S29=>p_allA in51 S29 fun b30 w31 S32=>wp_nil<|c_seq<|reg<|p_all in60 rfl S32 fun b33 w34 S35=>wp_nil<|c_seq<|c_seq<|reg<|p_ldA ty73 sz73 (S35.atX (i:=3) rfl) rfl rfl ?_
 obtain ⟨r36,h37,H⟩:=bindS H
 refine p_cal (ticket_book_truths_ok h37 (S35.atP (i:=0) rfl) (S35.atP (i:=1) rfl) (S35.atP (i:=2) rfl) (S35.atP (i:=3) rfl) (S35.atP (i:=4) rfl) (S35.atP (i:=5) rfl) (S35.atP (i:=6) rfl)) fu77 rfl ?_
 rintro _ w38 ⟨b40,rfl,k39,⟨o41,n42⟩,_⟩
 have S43:=S35.addNew k39 o41 n42
 refine wp_nil<|c_block ?_
 have S44:=S43.fix (i:=0) rfl
 obtain ⟨r45,h46,H⟩:=bindS H
 have S47:=S44.nilRow intE 1 3
 have S49:=S44.nilRow intE 1 3
 have S48:=S49
 refine c_rangeG (α:=(List Int)) (β:=(Option Addr)×Nat) (ε:=Ticket_truth) (K:=[bl b40 ((vB a0.TicketBook A1 c2 A4 c5 A7 c8 A10 c11)++(sg a0.shown_ 3++[Value.map m13])) 73,rd eTallyCount 7 A1 c2 a0.TicketBook.Tally.Counts,rd eTicketSeason 2 A4 c5 a0.TicketBook.Tickets,rd eTicketShow 3 A7 c8 a0.TicketBook.Shows,rd eTicketBox 4 A10 c11 a0.TicketBook.Boxes,mpo ekS iE m13 a0.by_,gW0,gW2]) (MK:=Go.Fx.mark) (XR:=fun D50=>[]++[bx D50 (.deferred (some []))]) (it:=fun {σ} yv s_=>ticket_book_truths_1 s_ a0 yv) (enc:=yE0) (ticket_book_span_r2 a1) [] (fun z_1 y_1=>[gr intE 1 3 y_1.1 y_1.2 z_1,bl b33 [SL y_1.1 z_1.length y_1.2] 60,bl b30 [I 0,I 0] 51,bl b27 [vF (.func f15) #[] cp16.toArray] 94,bl b24 ((vB a0.TicketBook A1 c2 A4 c5 A7 c8 A10 c11)++(sg a0.shown_ 3++[Value.map m13])) 73]) ([]:List Int) (none,0) h46 (ent_none (X0:=(fun z_1 y_1=>[gr intE 1 3 y_1.1 y_1.2 z_1,bl b33 [SL y_1.1 z_1.length y_1.2] 60,bl b30 [I 0,I 0] 51,bl b27 [vF (.func f15) #[] cp16.toArray] 94,bl b24 ((vB a0.TicketBook A1 c2 A4 c5 A7 c8 A10 c11)++(sg a0.shown_ 3++[Value.map m13])) 73]) ([]:List Int) (none,0)++[]) S48) rfl fu98 (fun w_ σ yv_ s_ s'_ l_ G_ A_ hH_ hG_ hk_ hd_ hy_=>(ticket_book_truths_1_ok hH_ hG_ (hk_ _ (mE (i:=0) rfl)) (hk_ _ (mE (i:=1) rfl)) (hk_ _ (mE (i:=2) rfl)) (hk_ _ (mE (i:=3) rfl)) (hk_ _ (mE (i:=4) rfl)) (hk_ _ (mE (i:=5) rfl)) (hk_ _ (mE (i:=6) rfl)) (hk_ _ (mE (i:=7) rfl)) hd_ hy_ (Link.refl _ _)).mono fun en_ w3_ ⟨u_,he_,A'_,hu_,hk2_,ho_,hf_⟩=>⟨u_,he_,hk2_,A'_,ho_,hf_⟩) (mG [0,1,2,3,4,5,6,7] rfl) (fun _=>rfl) nM ?_ ?_ ?_
 ·intro l51 oR52 oB53 Cr54 x_1 z_1 y_1 w55 b56 c57 z58 PP59 H S60 hlk61 ho62 hB63 hN64 hX65
  unfold ticket_book_span_r2 at H
  replace S60:St w55 Cr54 w55 [bx l51 oR52,gr intE 1 3 y_1.1 y_1.2 z_1,bl b33 [SL y_1.1 z_1.length y_1.2] 60,bl b30 [I 0,I 0] 51,bl b27 [vF (.func f15) #[] cp16.toArray] 94,bl b24 ((vB a0.TicketBook A1 c2 A4 c5 A7 c8 A10 c11)++(sg a0.shown_ 3++[Value.map m13])) 73] [bl b40 ((vB a0.TicketBook A1 c2 A4 c5 A7 c8 A10 c11)++(sg a0.shown_ 3++[Value.map m13])) 73,rd eTallyCount 7 A1 c2 a0.TicketBook.Tally.Counts,rd eTicketSeason 2 A4 c5 a0.TicketBook.Tickets,rd eTicketShow 3 A7 c8 a0.TicketBook.Shows,rd eTicketBox 4 A10 c11 a0.TicketBook.Boxes,mpo ekS iE m13 a0.by_,gW0,gW2]:=S60
  refine reg<|p_allA in92 S60 fun b66 w67 S68=>p_stP (pre:=[]) (old:=sg (List.replicate 3 0) 3++sg (List.replicate 3 0) 3) (post:=[]) (vs:=sg x_1.crossed_ 3++sg x_1.used_ 3) sz92 S68 (i:=0) rfl rfl rfl rfl (rfl:_=AG (sg x_1.crossed_ 3++sg x_1.used_ 3)) rfl rfl rfl rfl fun w69 S70=>wp_nil ?_
  refine hB63 _ _ 1 _ S70 rfl fun w71 S72=>?_
  replace S72:St w55 Cr54 w71 [bl b66 (sg x_1.crossed_ 3++sg x_1.used_ 3) 92,bx l51 oB53,gr intE 1 3 y_1.1 y_1.2 z_1,bl b33 [SL y_1.1 z_1.length y_1.2] 60,bl b30 [I 0,I 0] 51,bl b27 [vF (.func f15) #[] cp16.toArray] 94,bl b24 ((vB a0.TicketBook A1 c2 A4 c5 A7 c8 A10 c11)++(sg a0.shown_ 3++[Value.map m13])) 73] [bl b40 ((vB a0.TicketBook A1 c2 A4 c5 A7 c8 A10 c11)++(sg a0.shown_ 3++[Value.map m13])) 73,rd eTallyCount 7 A1 c2 a0.TicketBook.Tally.Counts,rd eTicketSeason 2 A4 c5 a0.TicketBook.Tickets,rd eTicketShow 3 A7 c8 a0.TicketBook.Shows,rd eTicketBox 4 A10 c11 a0.TicketBook.Boxes,mpo ekS iE m13 a0.by_,gW0,gW2]:=S72
  refine c_block<|c_seq<|reg<|p_ld ty94 (S72.atX (i:=5) rfl) rfl rfl<|p_ldA ty92 sz92 (S72.atX (i:=0) rfl) rfl rfl ?_
  obtain ⟨r73,h74,H⟩:=bindS H
  refine p_cv (hw18 _ _ _ (Link.of (Link.trans (Link.refl _ _) hlk61) S72.keep) h74) hF17 rfl S72 ?_
  intro w75 S76
  refine p_aI rfl<|wp_nil<|c_seq<|reg<|p_ld ty60 (S76.atX (i:=3) rfl) rfl rfl<|p_mI rfl ?_
  obtain ⟨r77,h78,H⟩:=bindS H
  refine p_cv (sl_Contains_int_int_ok h78 (gr_rd intE_len (S76.atX (i:=2) rfl))) fu75 rfl S76 fun w79 S80=>p_not rfl<|wp_nil ?_
  refine c_cond rfl (fun c81=>?_) (fun c81=>?_)
  ·replace H:=condT c81 H
   refine reg<|p_ld ty60 (S80.atX (i:=3) rfl) rfl rfl<|p_mI rfl<|p_bsl (enc:=intE) (l:=([r73]:List Int)) I (fun _=>rfl) sc60 in3 intE_len rfl (by decide) (by decide) zr3_1 S80 rfl fun A82 c83 w84 S85=>?_
   obtain ⟨h91,H⟩:=needS H
   refine p_app (enc:=intE) sc60 in3 rfl intE_len intE_one (by decide) S85 (k:=3) rfl (gr_sl intE_len (S85.atX (i:=0) rfl)) h91 (by simp) rfl rfl fun A89 c90 w87 S88=>p_st sz60 S88 (i:=4) rfl rfl (rfl:_=SL A89 (z_1++([r73]:List Int)).length c90) rfl rfl fun w92 S93=>wp_nil ?_
   have S94:=S93.pk [2,3,4,5,6,7] (by decide) [0,1,2,3,4,5,6,7] rfl rfl
   exact hN64 _ _ (z_1++([r73]:List Int)) (A89,c90) S94 (sJ H)
  ·replace H:=condF c81 H
   refine c_skip ?_
   have S94:=S80.pk [1,2,3,4,5,6] (by decide) [0,1,2,3,4,5,6,7] rfl rfl
   exact hN64 _ _ z_1 (y_1.1,y_1.2) S94 (sJ H)
 ·intro hc100
  intro l94 D95 o96 y97 w98 S99
  have S101:St w nF w98 [gr intE 1 3 y97.1 y97.2 r45.2,bl b33 [SL y97.1 r45.2.length y97.2] 60,bl b30 [I 0,I 0] 51,bl b27 [vF (.func f15) #[] cp16.toArray] 94,bl b24 ((vB a0.TicketBook A1 c2 A4 c5 A7 c8 A10 c11)++(sg a0.shown_ 3++[Value.map m13])) 73,bx D95 (.deferred (some []))] [bl b40 ((vB a0.TicketBook A1 c2 A4 c5 A7 c8 A10 c11)++(sg a0.shown_ 3++[Value.map m13])) 73,rd eTallyCount 7 A1 c2 a0.TicketBook.Tally.Counts,rd eTicketSeason 2 A4 c5 a0.TicketBook.Tickets,rd eTicketShow 3 A7 c8 a0.TicketBook.Shows,rd eTicketBox 4 A10 c11 a0.TicketBook.Boxes,mpo ekS iE m13 a0.by_,gW0,gW2]:=St.tail1 S99
  refine c_seq ?_
  obtain ⟨r102,h103,H⟩:=bindS H
  obtain ⟨r104,h105,H⟩:=bindS H
  refine reg_q mixed 5 (by kernel_rfl) ?_
  refine dS (fun _ k_=>p_ld ty60 (aS (S101.atX (i:=1) rfl) k_) rfl rfl dn)<|dS (fun _ k_=>p_cvD (sl_Min_int_int_ok h103 (gr_rd intE_len (aS (S101.atX (i:=0) rfl) k_))) fu92 rfl)<|dS (fun _ k_=>p_ld ty60 (aS (S101.atX (i:=1) rfl) k_) rfl rfl dn)<|dS (fun _ k_=>p_cvD (sl_Max_int_int_ok h105 (gr_rd intE_len (aS (S101.atX (i:=0) rfl) k_))) fu93 rfl) ?_
  refine dS (fun _ k_=>p_bld (cs:=[I r102,I r104]) st51 (rfl:_=[(0,I r102),(1,I r104)]) (by kernel_rfl) dn) ?_
  intro w106 k107; have S108:=S101.call k107
  refine p_stP (pre:=[]) (old:=[I 0,I 0]) (post:=[]) (vs:=[I r102,I r104]) sz51 S108 (i:=2) rfl rfl rfl rfl (rfl:_=AG [I r102,I r104]) rfl rfl rfl rfl fun w109 S110=>wp_nil ?_
  refine c_ret ?_
  refine leave_mark S110 (i:=5) rfl fun w111 S112=>?_
  obtain rfl:=sJ H
  show bodyPostM (Fr none) 0 Tryz.prog Tryz.f63 _ .ret _ _
  refine ret_of (res1 rfl (rvA rfl ty51 sz51 (S112.atX (i:=2) rfl) rfl)) ?_
  exact ⟨_,rfl,rfl,S112.keep⟩
 ·intro k113 c114 hk115 hc116
  cases hk115
def ticket_Paid_1 (a0:Ticket_truth) (q0:Int) (q1:Int):Option Int:=
 (ticket_truth_paid a0 q0 q1).bind fun r8=>
 some r8
set_option maxRecDepth 100000 in
theorem ticket_Paid_1_ok {a0:Ticket_truth}{q0:Int}{q1:Int}{b1:Nat}{b2:Nat}{w:World}{r:Int} (H:ticket_Paid_1 a0 q0 q1=some r) (h4:(bl b2 [I q1] 3).ok w) (h3:(bl b1 [I q0] 3).ok w):Calls Tryz.prog 64 #[AG (sg a0.crossed_ 3++sg a0.used_ 3),P b1 0,P b2 0] w (RetV w (I r)):=by
 unfold ticket_Paid_1 at H
 refine fn_of (n:=9) Tryz.func64 rfl rfl (lE rfl) ?_
 have S:=St.start w nF _ (cA h4 (cA h3 nM))
 refine c_seq<|reg<|p_boxA rfl S fun b5 w6 S7=>p_aI rfl<|wp_nil<|c_seq<|reg<|p_ldA ty92 sz92 (S7.atX (i:=0) rfl) rfl rfl<|p_ld ty3 (S7.atP (i:=1) rfl) rfl rfl<|p_ld ty3 (S7.atP (i:=0) rfl) rfl rfl ?_
 obtain ⟨r8,h9,H⟩:=bindS H
 refine p_cv (ticket_truth_paid_ok h9) fu65 rfl S7 fun w10 S11=>p_aI rfl<|wp_nil ?_
 obtain rfl:=sJ H
 exact c_ret (rT Tryz.f64 S11.keep rfl rfl)
def ticket_Paid_j1 (a1:Int) (a2:Int) (z_1:Int×Int×(List TallyCount)×Int×(List TicketSeason)×(List TicketShow)×(List TicketBox)×(List Int)×(List (Ticket_seat×Int))×Int):Option (Span×Int):=
 bif (z_1.2.2.2.2.2.2.2.2.2 != 0) then (some ((Span.mk 0 0),z_1.2.2.2.2.2.2.2.2.2))
 else ((ticket_book_span (Ticket_book.mk (TicketBook.mk (TallyBook.mk z_1.1 z_1.2.1 z_1.2.2.1) z_1.2.2.2.1 z_1.2.2.2.2.1 z_1.2.2.2.2.2.1 z_1.2.2.2.2.2.2.1) z_1.2.2.2.2.2.2.2.1 z_1.2.2.2.2.2.2.2.2.1) (fun y34=>ticket_Paid_1 y34 a1 a2)).bind fun r35=>
 some (r35,0))
def ticket_Paid (a0:TicketBook) (a1:Int) (a2:Int):Option (Span×Int):=
 (ticket_isTrip a0 a1).bind fun r29=>
 bif r29 then ((ticket_isTrip a0 a2).bind fun r40=>
 bif r40 then ((ticket_asked a0 (decide (a1≤a2))).bind fun r57=>
 ticket_Paid_j1 a1 a2 (r57.1.TicketBook.Tally.Trips,r57.1.TicketBook.Tally.Room,r57.1.TicketBook.Tally.Counts,r57.1.TicketBook.Fare,r57.1.TicketBook.Tickets,r57.1.TicketBook.Shows,r57.1.TicketBook.Boxes,r57.1.shown_,r57.1.by_,r57.2))
 else ((ticket_asked a0 false).bind fun r183=>
 ticket_Paid_j1 a1 a2 (r183.1.TicketBook.Tally.Trips,r183.1.TicketBook.Tally.Room,r183.1.TicketBook.Tally.Counts,r183.1.TicketBook.Fare,r183.1.TicketBook.Tickets,r183.1.TicketBook.Shows,r183.1.TicketBook.Boxes,r183.1.shown_,r183.1.by_,r183.2)))
 else ((ticket_asked a0 false).bind fun r317=>
 ticket_Paid_j1 a1 a2 (r317.1.TicketBook.Tally.Trips,r317.1.TicketBook.Tally.Room,r317.1.TicketBook.Tally.Counts,r317.1.TicketBook.Fare,r317.1.TicketBook.Tickets,r317.1.TicketBook.Shows,r317.1.TicketBook.Boxes,r317.1.shown_,r317.1.by_,r317.2))
set_option maxHeartbeats 10000000 in
set_option maxRecDepth 100000 in
theorem ticket_Paid_ok {a0:TicketBook}{a1:Int}{a2:Int}{A1:Option Addr}{c2:Nat}{A4:Option Addr}{c5:Nat}{A7:Option Addr}{c8:Nat}{A10:Option Addr}{c11:Nat}{w:World}{r:Span×Int} (H:ticket_Paid a0 a1 a2=some r) (h3:(rd eTallyCount 7 A1 c2 a0.Tally.Counts).ok w) (h6:(rd eTicketSeason 2 A4 c5 a0.Tickets).ok w) (h9:(rd eTicketShow 3 A7 c8 a0.Shows).ok w) (h12:(rd eTicketBox 4 A10 c11 a0.Boxes).ok w) (hg13:(gW0).ok w) (hg14:(gW2).ok w):Calls Tryz.prog 20 #[AG (vB a0 A1 c2 A4 c5 A7 c8 A10 c11),I a1,I a2] w (RetV w (TU [AG [I r.1.Low,I r.1.High],I r.2])):=by
 unfold ticket_Paid at H
 refine fn_of (n:=35) Tryz.func20 rfl rfl (lE rfl) ?_
 have S:=St.start w nF _ (cA h3 (cA h6 (cA h9 (cA h12 (cA hg13 (cA hg14 nM))))))
 refine c_seq<|reg<|p_boxA rfl S fun b15 w16 S17=>p_box (rfl:_=I a1) rfl S17 fun b18 w19 S20=>?_
 try clear S17
 refine p_box (rfl:_=I a2) rfl S20 fun b21 w22 S23=>?_
 try clear S20
 refine p_allA in51 S23 fun b24 w25 S26=>?_
 try clear S23
 refine p_aI rfl<|wp_nil ?_
 refine c_join (α:=Int×Int×(List TallyCount)×Int×(List TicketSeason)×(List TicketShow)×(List TicketBox)×(List Int)×(List (Ticket_seat×Int))×Int) (β:=Nat×(Option Addr)×Nat×(Option Addr)×Nat×(Option Addr)×Nat×(Option Addr)×Nat×(Option Nat)) (fun z_1 y_1=>[(4,P b18 0),(5,P b21 0),(6,P b24 0),(8,P y_1.1 0),(9,I z_1.2.2.2.2.2.2.2.2.2)]) (fun z_1 y_1 w_=>ticket_Paid_j1 a1 a2 z_1=some r∧St w nF w_ [bl y_1.1 ([I z_1.1,I z_1.2.1,SL y_1.2.1 z_1.2.2.1.length y_1.2.2.1,I z_1.2.2.2.1,SL y_1.2.2.2.1 z_1.2.2.2.2.1.length y_1.2.2.2.2.1,SL y_1.2.2.2.2.2.1 z_1.2.2.2.2.2.1.length y_1.2.2.2.2.2.2.1,SL y_1.2.2.2.2.2.2.2.1 z_1.2.2.2.2.2.2.1.length y_1.2.2.2.2.2.2.2.2.1]++(sg z_1.2.2.2.2.2.2.2.1 3++[Value.map y_1.2.2.2.2.2.2.2.2.2])) 73,bl b24 [I 0,I 0] 51,bl b21 [I a2] 3,bl b18 [I a1] 3] [rd eTallyCount 7 y_1.2.1 y_1.2.2.1 z_1.2.2.1,rd eTicketSeason 2 y_1.2.2.2.1 y_1.2.2.2.2.1 z_1.2.2.2.2.1,rd eTicketShow 3 y_1.2.2.2.2.2.1 y_1.2.2.2.2.2.2.1 z_1.2.2.2.2.2.1,rd eTicketBox 4 y_1.2.2.2.2.2.2.2.1 y_1.2.2.2.2.2.2.2.2.1 z_1.2.2.2.2.2.2.1,mpo ekS iE y_1.2.2.2.2.2.2.2.2.2 z_1.2.2.2.2.2.2.2.2.1,rd eTallyCount 7 A1 c2 a0.Tally.Counts,rd eTicketSeason 2 A4 c5 a0.Tickets,rd eTicketShow 3 A7 c8 a0.Shows,rd eTicketBox 4 A10 c11 a0.Boxes,gW0,gW2]) ?_ ?_
 ·obtain ⟨r29,h30,H⟩:=bindS H
  rcases bE (r29) with c34 | c34
  ·replace H:=condT c34 H
   obtain ⟨r40,h41,H⟩:=bindS H
   rcases bE (r40) with c47 | c47
   ·replace H:=condT c47 H
    obtain ⟨r57,h58,H⟩:=bindS H
    have A_:∀ {w_:World},Keep0 w25 w_→St w_ nF w_ [] [bl b24 [I 0,I 0] 51,bl b21 [I a2] 3,bl b18 [I a1] 3,bl b15 (vB a0 A1 c2 A4 c5 A7 c8 A10 c11) 29,rd eTallyCount 7 A1 c2 a0.Tally.Counts,rd eTicketSeason 2 A4 c5 a0.Tickets,rd eTicketShow 3 A7 c8 a0.Shows,rd eTicketBox 4 A10 c11 a0.Boxes,gW0,gW2]:=fun k_=>S26.asP k_
    refine reg_fl mixed 19 17 (by kernel_rfl) [rv (AG (vB a0 A1 c2 A4 c5 A7 c8 A10 c11)),rv (AG (vB a0 A1 c2 A4 c5 A7 c8 A10 c11)),rv (I a1),rv (B r29),rv (B true),rv (AG (vB a0 A1 c2 A4 c5 A7 c8 A10 c11)),rv (I a2),rv (B r40),rv (B r40),rv (B true),rv (I a1),rv (I a2),rv (B (decide (a1≤a2))),rv (B (decide (a1≤a2))),rx (α:=(Option Addr)×Nat×(Option Addr)×Nat×(Option Addr)×Nat×(Option Addr)×Nat×(Option Nat)) (fun ⟨A61,c62,A63,c64,A65,c66,A67,c68,m69⟩=>TU [AG ((vB r57.1.TicketBook A61 c62 A63 c64 A65 c66 A67 c68)++(sg r57.1.shown_ 3++[Value.map m69])),I r57.2]) (fun ⟨A61,c62,A63,c64,A65,c66,A67,c68,m69⟩ lo hi=>BtwL lo hi [rd eTallyCount 7 A1 c2 a0.Tally.Counts,rd eTicketSeason 2 A4 c5 a0.Tickets,rd eTicketShow 3 A7 c8 a0.Shows,rd eTicketBox 4 A10 c11 a0.Boxes] (rd eTallyCount 7 A61 c62 r57.1.TicketBook.Tally.Counts)∧BtwL lo hi [rd eTallyCount 7 A1 c2 a0.Tally.Counts,rd eTicketSeason 2 A4 c5 a0.Tickets,rd eTicketShow 3 A7 c8 a0.Shows,rd eTicketBox 4 A10 c11 a0.Boxes] (rd eTicketSeason 2 A63 c64 r57.1.TicketBook.Tickets)∧BtwL lo hi [] (rd eTicketShow 3 A65 c66 r57.1.TicketBook.Shows)∧BtwL lo hi [] (rd eTicketBox 4 A67 c68 r57.1.TicketBook.Boxes)∧BtwL lo hi [] (mpo ekS iE m69 r57.1.by_)∧True) (fun ⟨A61,c62,A63,c64,A65,c66,A67,c68,m69⟩=>[rd eTallyCount 7 A61 c62 r57.1.TicketBook.Tally.Counts,rd eTicketSeason 2 A63 c64 r57.1.TicketBook.Tickets,rd eTicketShow 3 A65 c66 r57.1.TicketBook.Shows,rd eTicketBox 4 A67 c68 r57.1.TicketBook.Boxes,mpo ekS iE m69 r57.1.by_]),dv 25 some,dv 10 (exG 0),dv 10 (exG 1),rx (α:=Nat) (fun b92=>P b92 0) (fun b92 lo hi=>BtwL lo hi [] (bl b92 ([I 0,I 0,SL none 0 0,I 0,SL none 0 0,SL none 0 0,SL none 0 0]++(sg (List.replicate 3 0) 3++[Value.map none])) 73)∧True) (fun b92=>[bl b92 ([I 0,I 0,SL none 0 0,I 0,SL none 0 0,SL none 0 0,SL none 0 0]++(sg (List.replicate 3 0) 3++[Value.map none])) 73])] [[],[],[],[],[],[],[],[],[],[],[],[],[],[],[],[25],[10],[10],[]] rfl (by kernel_rfl) [[],[],[],[1,2],[1,2,3],[1,2,3,4],[1,2,3,4],[1,2,3,4,5,6],[1,2,3,4,5,6,7],[1,2,3,4,5,6,7,8],[1,2,3,4,5,6,7,8,9],[1,2,3,4,5,6,7,8,9],[1,2,3,4,5,6,7,8,9,10,11],[1,2,3,4,5,6,7,8,9,10,11,12],[0,1,2,3,4,5,6,7,8,9,10,11,12,13],[0,1,2,3,4,5,6,7,8,9,10,11,12,13,14],[0,1,2,3,4,5,6,7,8,9,10,11,12,13,14,15],[0,1,2,3,4,5,6,7,8,9,10,11,12,13,14,15],[],[0,1,2,3,4,5,6,7,8,9,10,11,12,13,14,15,16,18],[0,1,2,3,4,5,6,7,8,9,10,11,12,13,14,15,16,17,18,19]] (by kernel_rfl) ⟨?_,?_,?_,?_,?_,?_,?_,?_,?_,?_,?_,?_,?_,?_,?_,?_,?_,?_,?_,trivial⟩ ?_ ?_
    ·intro e_ w_ k_ hf_ hR_
     have S_:=@A_ _ k_
     refine hopE [(3,P b15 0)] ⟨((hf_ 3 rfl).trans (rfl:_=P b15 0)),trivial⟩ ?_
     exact p_ldA ty29 sz29 (S_.atP (i:=3) rfl) rfl rfl<|wp_nil ⟨_,rfl,S_.keep,rfl⟩
    ·intro e_ w_ k_ hf_ hR_
     have S_:=@A_ _ k_
     refine hopE [(3,P b15 0)] ⟨((hf_ 3 rfl).trans (rfl:_=P b15 0)),trivial⟩ ?_
     exact p_ldA ty29 sz29 (S_.atP (i:=3) rfl) rfl rfl<|wp_nil ⟨_,rfl,S_.keep,rfl⟩
    ·intro e_ w_ k_ hf_ hR_
     have S_:=@A_ _ k_
     refine hopE [(4,P b18 0)] ⟨((hf_ 4 rfl).trans (rfl:_=P b18 0)),trivial⟩ ?_
     exact p_ld ty3 (S_.atP (i:=2) rfl) rfl rfl<|wp_nil ⟨_,rfl,S_.keep,rfl⟩
    ·intro e_ w_ k_ hf_ hR_
     have S_:=@A_ _ k_
     refine hopE [(12,AG (vB a0 A1 c2 A4 c5 A7 c8 A10 c11)),(13,I a1)] ⟨rQ (hR_ 1 12 rfl (lE rfl) rfl),rQ (hR_ 2 13 rfl (lE rfl) rfl),trivial⟩ ?_
     refine p_cv (ticket_isTrip_ok h30 (S_.atP (i:=4) rfl) (S_.atP (i:=5) rfl) (S_.atP (i:=6) rfl) (S_.atP (i:=7) rfl)) fu53 rfl S_ fun w31 S32=>wp_nil ?_
     exact ⟨_,rfl,S32.keep,rfl⟩
    ·intro e_ w_ k_ hf_ hR_
     refine hopE [(14,B r29)] ⟨rQ (hR_ 3 14 rfl (lE rfl) rfl),trivial⟩ ?_
     exact p_mB rfl<|wp_nil ⟨_,rfl,kR,congrArg Value.bool c34⟩
    ·intro e_ w_ k_ hf_ hR_
     have S_:=@A_ _ k_
     refine hopE [(3,P b15 0),(15,B true)] ⟨((hf_ 3 rfl).trans (rfl:_=P b15 0)),rQ (hR_ 4 15 rfl (lE rfl) rfl),trivial⟩ ?_
     refine gT rfl rfl (p_ldA ty29 sz29 (S_.atP (i:=3) rfl) rfl rfl ?_)
     exact wp_nil ⟨_,rfl,S_.keep,rfl⟩
    ·intro e_ w_ k_ hf_ hR_
     have S_:=@A_ _ k_
     refine hopE [(5,P b21 0),(15,B true)] ⟨((hf_ 5 rfl).trans (rfl:_=P b21 0)),rQ (hR_ 4 15 rfl (lE rfl) rfl),trivial⟩ ?_
     refine gT rfl rfl (p_ld ty3 (S_.atP (i:=1) rfl) rfl rfl ?_)
     exact wp_nil ⟨_,rfl,S_.keep,rfl⟩
    ·intro e_ w_ k_ hf_ hR_
     have S_:=@A_ _ k_
     refine hopE [(15,B true),(16,AG (vB a0 A1 c2 A4 c5 A7 c8 A10 c11)),(17,I a2)] ⟨rQ (hR_ 4 15 rfl (lE rfl) rfl),rQ (hR_ 5 16 rfl (lE rfl) rfl),rQ (hR_ 6 17 rfl (lE rfl) rfl),trivial⟩ ?_
     refine gT rfl rfl (p_cv (ticket_isTrip_ok h41 (S_.atP (i:=4) rfl) (S_.atP (i:=5) rfl) (S_.atP (i:=6) rfl) (S_.atP (i:=7) rfl)) fu53 rfl S_ fun w42 S43=>?_)
     exact wp_nil ⟨_,rfl,S43.keep,rfl⟩
    ·intro e_ w_ k_ hf_ hR_
     refine hopE [(15,B true),(18,B r40)] ⟨rQ (hR_ 4 15 rfl (lE rfl) rfl),rQ (hR_ 7 18 rfl (lE rfl) rfl),trivial⟩ ?_
     exact p_pkT rfl (rfl:_=B r40)<|wp_nil ⟨_,rfl,kR,rfl⟩
    ·intro e_ w_ k_ hf_ hR_
     refine hopE [(19,B r40)] ⟨rQ (hR_ 8 19 rfl (lE rfl) rfl),trivial⟩ ?_
     exact p_mB rfl<|wp_nil ⟨_,rfl,kR,congrArg Value.bool c47⟩
    ·intro e_ w_ k_ hf_ hR_
     have S_:=@A_ _ k_
     refine hopE [(4,P b18 0),(20,B true)] ⟨((hf_ 4 rfl).trans (rfl:_=P b18 0)),rQ (hR_ 9 20 rfl (lE rfl) rfl),trivial⟩ ?_
     refine gT rfl rfl (p_ld ty3 (S_.atP (i:=2) rfl) rfl rfl ?_)
     exact wp_nil ⟨_,rfl,S_.keep,rfl⟩
    ·intro e_ w_ k_ hf_ hR_
     have S_:=@A_ _ k_
     refine hopE [(5,P b21 0),(20,B true)] ⟨((hf_ 5 rfl).trans (rfl:_=P b21 0)),rQ (hR_ 9 20 rfl (lE rfl) rfl),trivial⟩ ?_
     refine gT rfl rfl (p_ld ty3 (S_.atP (i:=1) rfl) rfl rfl ?_)
     exact wp_nil ⟨_,rfl,S_.keep,rfl⟩
    ·intro e_ w_ k_ hf_ hR_
     refine hopE [(20,B true),(21,I a1),(22,I a2)] ⟨rQ (hR_ 9 20 rfl (lE rfl) rfl),rQ (hR_ 10 21 rfl (lE rfl) rfl),rQ (hR_ 11 22 rfl (lE rfl) rfl),trivial⟩ ?_
     refine gT rfl rfl (p_cmp rfl rfl rfl ?_)
     exact wp_nil ⟨_,rfl,kR,rfl⟩
    ·intro e_ w_ k_ hf_ hR_
     refine hopE [(20,B true),(23,B (decide (a1≤a2)))] ⟨rQ (hR_ 9 20 rfl (lE rfl) rfl),rQ (hR_ 12 23 rfl (lE rfl) rfl),trivial⟩ ?_
     exact p_pkT rfl (rfl:_=B (decide (a1≤a2)))<|wp_nil ⟨_,rfl,kR,rfl⟩
    ·intro e_ w_ k_ hf_ hR_
     have S_:=@A_ _ k_
     refine hopE [(11,AG (vB a0 A1 c2 A4 c5 A7 c8 A10 c11)),(24,B (decide (a1≤a2)))] ⟨rQ (hR_ 0 11 rfl (lE rfl) rfl),rQ (hR_ 13 24 rfl (lE rfl) rfl),trivial⟩ ?_
     refine p_cal (ticket_asked_ok h58 (S_.atP (i:=4) rfl) (S_.atP (i:=5) rfl) (S_.atP (i:=6) rfl) (S_.atP (i:=7) rfl) (S_.atP (i:=8) rfl) (S_.atP (i:=9) rfl)) fu62 rfl ?_
     rintro _ w59 ⟨A61,c62,A63,c64,A65,c66,A67,c68,m69,rfl,k60,⟨o70,n71⟩,⟨o72,n73⟩,⟨o74,n75⟩,⟨o76,n77⟩,⟨o78,n79⟩,_⟩
     have S80:=S_.callN k60 [rd eTallyCount 7 A61 c62 r57.1.TicketBook.Tally.Counts,rd eTicketSeason 2 A63 c64 r57.1.TicketBook.Tickets,rd eTicketShow 3 A65 c66 r57.1.TicketBook.Shows,rd eTicketBox 4 A67 c68 r57.1.TicketBook.Boxes,mpo ekS iE m69 r57.1.by_] (cA ⟨o70,Al.inL n71 ((cA (fp_mem (i:=4) rfl) (cA (fp_mem (i:=5) rfl) (cA (fp_mem (i:=6) rfl) (cA (fp_mem (i:=7) rfl) nM)))))⟩ (cA ⟨o72,Al.inL n73 ((cA (fp_mem (i:=4) rfl) (cA (fp_mem (i:=5) rfl) (cA (fp_mem (i:=6) rfl) (cA (fp_mem (i:=7) rfl) nM)))))⟩ (cA ⟨o74,New.inL n75⟩ (cA ⟨o76,New.inL n77⟩ (cA ⟨o78,New.inL n79⟩ nM)))))
     exact wp_nil ⟨_,rfl,S80.keep,⟨(A61,c62,A63,c64,A65,c66,A67,c68,m69),rfl,⟨bL n71 rfl (S80.atP (i:=0) rfl) rfl,bL n73 rfl (S80.atP (i:=1) rfl) rfl,bL (New.al (New.mono n75 S_.keep.size)) rfl (S80.atP (i:=2) rfl) rfl,bL (New.al (New.mono n77 S_.keep.size)) rfl (S80.atP (i:=3) rfl) rfl,bL (New.al (New.mono n79 S_.keep.size)) rfl (S80.atP (i:=4) rfl) rfl,trivial⟩,(cA (S80.atP (i:=0) rfl) (cA (S80.atP (i:=1) rfl) (cA (S80.atP (i:=2) rfl) (cA (S80.atP (i:=3) rfl) (cA (S80.atP (i:=4) rfl) nM)))))⟩⟩
    ·intro e_ w_ k_ hf_ hR_
     have S_:=@A_ _ k_
     obtain ⟨_,_,_,_,⟨A61,c62,A63,c64,A65,c66,A67,c68,m69⟩,q81,p82,a83⟩:=hR_ 14 25 rfl (lE rfl) rfl
     replace q81:e_ 25=TU [AG ((vB r57.1.TicketBook A61 c62 A63 c64 A65 c66 A67 c68)++(sg r57.1.shown_ 3++[Value.map m69])),I r57.2]:=q81
     have S_:=St.addL' S_ (a83 _ (.head _)) (fun _ _ _ h_=>(nE h_))
     have S_:=St.addL' S_ (a83 _ (.tail _ (.head _))) (fun _ _ _ h_=>(nE h_))
     have S_:=St.addL' S_ (a83 _ (.tail _ (.tail _ (.head _)))) (fun _ _ _ h_=>(nE h_))
     have S_:=St.addL' S_ (a83 _ (.tail _ (.tail _ (.tail _ (.head _))))) (fun _ _ _ h_=>(nE h_))
     have S_:=St.addL' S_ (a83 _ (.tail _ (.tail _ (.tail _ (.tail _ (.head _)))))) (fun _ _ _ h_=>(nE h_))
     refine hopE [(25,TU [AG ((vB r57.1.TicketBook A61 c62 A63 c64 A65 c66 A67 c68)++(sg r57.1.shown_ 3++[Value.map m69])),I r57.2])] ⟨q81,trivial⟩ ?_
     refine p_mT rfl<|wp_nil ?_
     exact ⟨_,rfl,S_.keep,rfl⟩
    ·intro e_ w_ k_ hf_ hR_
     have S_:=@A_ _ k_
     obtain ⟨_,_,_,_,⟨A61,c62,A63,c64,A65,c66,A67,c68,m69⟩,q85,p86,a87⟩:=hR_ 14 25 rfl (lE rfl) rfl
     replace q85:e_ 25=TU [AG ((vB r57.1.TicketBook A61 c62 A63 c64 A65 c66 A67 c68)++(sg r57.1.shown_ 3++[Value.map m69])),I r57.2]:=q85
     have S_:=St.addL' S_ (a87 _ (.head _)) (fun _ _ _ h_=>(nE h_))
     have S_:=St.addL' S_ (a87 _ (.tail _ (.head _))) (fun _ _ _ h_=>(nE h_))
     have S_:=St.addL' S_ (a87 _ (.tail _ (.tail _ (.head _)))) (fun _ _ _ h_=>(nE h_))
     have S_:=St.addL' S_ (a87 _ (.tail _ (.tail _ (.tail _ (.head _))))) (fun _ _ _ h_=>(nE h_))
     have S_:=St.addL' S_ (a87 _ (.tail _ (.tail _ (.tail _ (.tail _ (.head _)))))) (fun _ _ _ h_=>(nE h_))
     obtain ⟨_,_,_,_,q84⟩:=hR_ 15 10 rfl (lE rfl) rfl
     replace q84:e_ 10=TU [AG ((vB r57.1.TicketBook A61 c62 A63 c64 A65 c66 A67 c68)++(sg r57.1.shown_ 3++[Value.map m69])),I r57.2]:=(sJ ((congrArg some q85).symm.trans q84)).symm
     refine hopE [(10,TU [AG ((vB r57.1.TicketBook A61 c62 A63 c64 A65 c66 A67 c68)++(sg r57.1.shown_ 3++[Value.map m69])),I r57.2])] ⟨q84,trivial⟩ ?_
     refine p_ext rfl rfl<|wp_nil ?_
     exact ⟨_,rfl,S_.keep,rfl⟩
    ·intro e_ w_ k_ hf_ hR_
     have S_:=@A_ _ k_
     obtain ⟨_,_,_,_,⟨A61,c62,A63,c64,A65,c66,A67,c68,m69⟩,q89,p90,a91⟩:=hR_ 14 25 rfl (lE rfl) rfl
     replace q89:e_ 25=TU [AG ((vB r57.1.TicketBook A61 c62 A63 c64 A65 c66 A67 c68)++(sg r57.1.shown_ 3++[Value.map m69])),I r57.2]:=q89
     have S_:=St.addL' S_ (a91 _ (.head _)) (fun _ _ _ h_=>(nE h_))
     have S_:=St.addL' S_ (a91 _ (.tail _ (.head _))) (fun _ _ _ h_=>(nE h_))
     have S_:=St.addL' S_ (a91 _ (.tail _ (.tail _ (.head _)))) (fun _ _ _ h_=>(nE h_))
     have S_:=St.addL' S_ (a91 _ (.tail _ (.tail _ (.tail _ (.head _))))) (fun _ _ _ h_=>(nE h_))
     have S_:=St.addL' S_ (a91 _ (.tail _ (.tail _ (.tail _ (.tail _ (.head _)))))) (fun _ _ _ h_=>(nE h_))
     obtain ⟨_,_,_,_,q88⟩:=hR_ 15 10 rfl (lE rfl) rfl
     replace q88:e_ 10=TU [AG ((vB r57.1.TicketBook A61 c62 A63 c64 A65 c66 A67 c68)++(sg r57.1.shown_ 3++[Value.map m69])),I r57.2]:=(sJ ((congrArg some q89).symm.trans q88)).symm
     refine hopE [(10,TU [AG ((vB r57.1.TicketBook A61 c62 A63 c64 A65 c66 A67 c68)++(sg r57.1.shown_ 3++[Value.map m69])),I r57.2])] ⟨q88,trivial⟩ ?_
     refine p_ext rfl rfl<|wp_nil ?_
     exact ⟨_,rfl,S_.keep,rfl⟩
    ·intro e_ w_ k_ hf_ hR_
     have S_:=@A_ _ k_
     refine hopE [] trivial ?_
     refine p_allA in73 S_ fun b92 w93 S94=>wp_nil ?_
     exact ⟨_,rfl,S94.keep,⟨b92,rfl,⟨bL (New.al (S94.newX (i:=0) rfl)) rfl (S94.atX (i:=0) rfl) rfl,trivial⟩,(cA (S94.atX (i:=0) rfl) nM)⟩⟩
    ·intro e95 w96 lo97 hi98 k99 hf100 hR101 hd102
     have S103:=S26.call k99
     obtain ⟨h105,h106,h107,⟨A61,c62,A63,c64,A65,c66,A67,c68,m69⟩,q104,h108,h109⟩:=hR101 14 25 (lE rfl) rfl
     replace q104:e95 25=TU [AG ((vB r57.1.TicketBook A61 c62 A63 c64 A65 c66 A67 c68)++(sg r57.1.shown_ 3++[Value.map m69])),I r57.2]:=q104
     obtain ⟨p110,p111,p112,p113,p114,_⟩:=h108
     have S115:=St.addR S103 (h109 _ (.head _)) (oR p110 h105 S26 (mG [0,1,2,3] rfl))
     try clear S103
     have S116:=St.addR S115 (h109 _ (.tail _ (.head _))) (oR p111 h105 S26 (mG [0,1,2,3] rfl))
     try clear S115
     have S117:=St.addR S116 (h109 _ (.tail _ (.tail _ (.head _)))) (oR p112 h105 S26 (nM))
     try clear S116
     have S118:=St.addR S117 (h109 _ (.tail _ (.tail _ (.tail _ (.head _))))) (oR p113 h105 S26 (nM))
     try clear S117
     have S119:=St.addR S118 (h109 _ (.tail _ (.tail _ (.tail _ (.tail _ (.head _)))))) (oR p114 h105 S26 (nM))
     try clear S118
     have q120:e95 10=TU [AG ((vB r57.1.TicketBook A61 c62 A63 c64 A65 c66 A67 c68)++(sg r57.1.shown_ 3++[Value.map m69])),I r57.2]:=(sJ ((congrArg some q104).symm.trans (hR101 15 10 (lE rfl) rfl).2.2.2)).symm
     have q121:e95 26=AG ((vB r57.1.TicketBook A61 c62 A63 c64 A65 c66 A67 c68)++(sg r57.1.shown_ 3++[Value.map m69])):=(sJ ((congrArg (exG 0) q120).symm.trans (hR101 16 26 (lE rfl) rfl).2.2.2)).symm
     have q122:e95 27=I r57.2:=(sJ ((congrArg (exG 1) q120).symm.trans (hR101 17 27 (lE rfl) rfl).2.2.2)).symm
     obtain ⟨h124,h125,h126,b92,q123,h127,h128⟩:=hR101 18 8 (lE rfl) rfl
     replace q123:e95 8=P b92 0:=q123
     obtain ⟨p129,_⟩:=h127
     have S131:=St.addO S119 (h128 _ (.head _)) (oN p129 h124 S26) (oX p129 h124 S26) (cA (oP p129 p114 h124 S26 (nM) (hd102 18 14 (lE rfl) (lE rfl) (by decide))) (cA (oP p129 p113 h124 S26 (nM) (hd102 18 14 (lE rfl) (lE rfl) (by decide))) (cA (oP p129 p112 h124 S26 (nM) (hd102 18 14 (lE rfl) (lE rfl) (by decide))) (cA (oP p129 p111 h124 S26 (mG [0,1,2,3] rfl) (hd102 18 14 (lE rfl) (lE rfl) (by decide))) (cA (oP p129 p110 h124 S26 (mG [0,1,2,3] rfl) (hd102 18 14 (lE rfl) (lE rfl) (by decide))) (oL p129 h124 S26))))))
     try clear S119
     refine tailE [(4,P b18 0),(5,P b21 0),(6,P b24 0),(8,P b92 0),(26,AG ((vB r57.1.TicketBook A61 c62 A63 c64 A65 c66 A67 c68)++(sg r57.1.shown_ 3++[Value.map m69]))),(27,I r57.2)] ⟨((hf100 4 rfl).trans (rfl:_=P b18 0)),((hf100 5 rfl).trans (rfl:_=P b21 0)),((hf100 6 rfl).trans (rfl:_=P b24 0)),q123,q121,q122,trivial⟩ ?_
     intro g132
     refine p_stP (pre:=[]) (old:=[I 0,I 0,SL none 0 0,I 0,SL none 0 0,SL none 0 0,SL none 0 0]++(sg (List.replicate 3 0) 3++[Value.map none])) (post:=[]) (vs:=(vB r57.1.TicketBook A61 c62 A63 c64 A65 c66 A67 c68)++(sg r57.1.shown_ 3++[Value.map m69])) sz73 S131 (i:=0) rfl rfl rfl rfl (rfl:_=AG ((vB r57.1.TicketBook A61 c62 A63 c64 A65 c66 A67 c68)++(sg r57.1.shown_ 3++[Value.map m69]))) rfl rfl rfl rfl fun w133 S134=>?_
     try clear S131
     refine p_aI rfl<|wp_nil ?_
     have S135:=S134.pk [0,1,2,3] (by decide) [4,3,2,1,0,5,6,7,8,9,10] rfl rfl
     try clear S134
     exact ⟨(r57.1.TicketBook.Tally.Trips,r57.1.TicketBook.Tally.Room,r57.1.TicketBook.Tally.Counts,r57.1.TicketBook.Fare,r57.1.TicketBook.Tickets,r57.1.TicketBook.Shows,r57.1.TicketBook.Boxes,r57.1.shown_,r57.1.by_,r57.2),(b92,A61,c62,A63,c64,A65,c66,A67,c68,m69),_,rfl,⟨rfl,rfl,rfl,rfl,rfl,trivial⟩,H,S135⟩
    ·intro e135 w136 lo137 hi138 k139 hf140 hR141 hd142
     have S143:=S26.call k139
     obtain ⟨h145,h146,h147,⟨A61,c62,A63,c64,A65,c66,A67,c68,m69⟩,q144,h148,h149⟩:=hR141 14 25 (lE rfl) (by decide) rfl
     replace q144:e135 25=TU [AG ((vB r57.1.TicketBook A61 c62 A63 c64 A65 c66 A67 c68)++(sg r57.1.shown_ 3++[Value.map m69])),I r57.2]:=q144
     obtain ⟨p150,p151,p152,p153,p154,_⟩:=h148
     have S155:=St.addR S143 (h149 _ (.head _)) (oR p150 h145 S26 (mG [0,1,2,3] rfl))
     try clear S143
     have S156:=St.addR S155 (h149 _ (.tail _ (.head _))) (oR p151 h145 S26 (mG [0,1,2,3] rfl))
     try clear S155
     have S157:=St.addR S156 (h149 _ (.tail _ (.tail _ (.head _)))) (oR p152 h145 S26 (nM))
     try clear S156
     have S158:=St.addR S157 (h149 _ (.tail _ (.tail _ (.tail _ (.head _))))) (oR p153 h145 S26 (nM))
     try clear S157
     have S159:=St.addR S158 (h149 _ (.tail _ (.tail _ (.tail _ (.tail _ (.head _)))))) (oR p154 h145 S26 (nM))
     try clear S158
     have q160:e135 10=TU [AG ((vB r57.1.TicketBook A61 c62 A63 c64 A65 c66 A67 c68)++(sg r57.1.shown_ 3++[Value.map m69])),I r57.2]:=(sJ ((congrArg some q144).symm.trans (hR141 15 10 (lE rfl) (by decide) rfl).2.2.2)).symm
     have q161:e135 26=AG ((vB r57.1.TicketBook A61 c62 A63 c64 A65 c66 A67 c68)++(sg r57.1.shown_ 3++[Value.map m69])):=(sJ ((congrArg (exG 0) q160).symm.trans (hR141 16 26 (lE rfl) (by decide) rfl).2.2.2)).symm
     obtain ⟨h163,h164,h165,b92,q162,h166,h167⟩:=hR141 18 8 (lE rfl) (by decide) rfl
     replace q162:e135 8=P b92 0:=q162
     obtain ⟨p168,_⟩:=h166
     have S170:=St.addO S159 (h167 _ (.head _)) (oN p168 h163 S26) (oX p168 h163 S26) (cA (oP p168 p154 h163 S26 (nM) (hd142 18 14 (lE rfl) (lE rfl) (by decide) (by decide) (by decide))) (cA (oP p168 p153 h163 S26 (nM) (hd142 18 14 (lE rfl) (lE rfl) (by decide) (by decide) (by decide))) (cA (oP p168 p152 h163 S26 (nM) (hd142 18 14 (lE rfl) (lE rfl) (by decide) (by decide) (by decide))) (cA (oP p168 p151 h163 S26 (mG [0,1,2,3] rfl) (hd142 18 14 (lE rfl) (lE rfl) (by decide) (by decide) (by decide))) (cA (oP p168 p150 h163 S26 (mG [0,1,2,3] rfl) (hd142 18 14 (lE rfl) (lE rfl) (by decide) (by decide) (by decide))) (oL p168 h163 S26))))))
     try clear S159
     refine tailE [(4,P b18 0),(5,P b21 0),(6,P b24 0),(8,P b92 0),(10,TU [AG ((vB r57.1.TicketBook A61 c62 A63 c64 A65 c66 A67 c68)++(sg r57.1.shown_ 3++[Value.map m69])),I r57.2]),(26,AG ((vB r57.1.TicketBook A61 c62 A63 c64 A65 c66 A67 c68)++(sg r57.1.shown_ 3++[Value.map m69])))] ⟨((hf140 4 rfl).trans (rfl:_=P b18 0)),((hf140 5 rfl).trans (rfl:_=P b21 0)),((hf140 6 rfl).trans (rfl:_=P b24 0)),q162,q160,q161,trivial⟩ ?_
     intro g171
     refine p_stP (pre:=[]) (old:=[I 0,I 0,SL none 0 0,I 0,SL none 0 0,SL none 0 0,SL none 0 0]++(sg (List.replicate 3 0) 3++[Value.map none])) (post:=[]) (vs:=(vB r57.1.TicketBook A61 c62 A63 c64 A65 c66 A67 c68)++(sg r57.1.shown_ 3++[Value.map m69])) sz73 S170 (i:=0) rfl rfl rfl rfl (rfl:_=AG ((vB r57.1.TicketBook A61 c62 A63 c64 A65 c66 A67 c68)++(sg r57.1.shown_ 3++[Value.map m69]))) rfl rfl rfl rfl fun w172 S173=>?_
     try clear S170
     refine p_ext rfl rfl<|p_aI rfl<|wp_nil ?_
     have S174:=S173.pk [0,1,2,3] (by decide) [4,3,2,1,0,5,6,7,8,9,10] rfl rfl
     try clear S173
     exact ⟨(r57.1.TicketBook.Tally.Trips,r57.1.TicketBook.Tally.Room,r57.1.TicketBook.Tally.Counts,r57.1.TicketBook.Fare,r57.1.TicketBook.Tickets,r57.1.TicketBook.Shows,r57.1.TicketBook.Boxes,r57.1.shown_,r57.1.by_,r57.2),(b92,A61,c62,A63,c64,A65,c66,A67,c68,m69),_,rfl,⟨rfl,rfl,rfl,rfl,rfl,trivial⟩,H,S174⟩
   ·replace H:=condF c47 H
    obtain ⟨r183,h184,H⟩:=bindS H
    have A_:∀ {w_:World},Keep0 w25 w_→St w_ nF w_ [] [bl b24 [I 0,I 0] 51,bl b21 [I a2] 3,bl b18 [I a1] 3,bl b15 (vB a0 A1 c2 A4 c5 A7 c8 A10 c11) 29,rd eTallyCount 7 A1 c2 a0.Tally.Counts,rd eTicketSeason 2 A4 c5 a0.Tickets,rd eTicketShow 3 A7 c8 a0.Shows,rd eTicketBox 4 A10 c11 a0.Boxes,gW0,gW2]:=fun k_=>S26.asP k_
    refine reg_fl mixed 19 17 (by kernel_rfl) [rv (AG (vB a0 A1 c2 A4 c5 A7 c8 A10 c11)),rv (AG (vB a0 A1 c2 A4 c5 A7 c8 A10 c11)),rv (I a1),rv (B r29),rv (B true),rv (AG (vB a0 A1 c2 A4 c5 A7 c8 A10 c11)),rv (I a2),rv (B r40),rv (B r40),rv (B false),rv (undef),rv (undef),rv (undef),rv (B false),rx (α:=(Option Addr)×Nat×(Option Addr)×Nat×(Option Addr)×Nat×(Option Addr)×Nat×(Option Nat)) (fun ⟨A187,c188,A189,c190,A191,c192,A193,c194,m195⟩=>TU [AG ((vB r183.1.TicketBook A187 c188 A189 c190 A191 c192 A193 c194)++(sg r183.1.shown_ 3++[Value.map m195])),I r183.2]) (fun ⟨A187,c188,A189,c190,A191,c192,A193,c194,m195⟩ lo hi=>BtwL lo hi [rd eTallyCount 7 A1 c2 a0.Tally.Counts,rd eTicketSeason 2 A4 c5 a0.Tickets,rd eTicketShow 3 A7 c8 a0.Shows,rd eTicketBox 4 A10 c11 a0.Boxes] (rd eTallyCount 7 A187 c188 r183.1.TicketBook.Tally.Counts)∧BtwL lo hi [rd eTallyCount 7 A1 c2 a0.Tally.Counts,rd eTicketSeason 2 A4 c5 a0.Tickets,rd eTicketShow 3 A7 c8 a0.Shows,rd eTicketBox 4 A10 c11 a0.Boxes] (rd eTicketSeason 2 A189 c190 r183.1.TicketBook.Tickets)∧BtwL lo hi [] (rd eTicketShow 3 A191 c192 r183.1.TicketBook.Shows)∧BtwL lo hi [] (rd eTicketBox 4 A193 c194 r183.1.TicketBook.Boxes)∧BtwL lo hi [] (mpo ekS iE m195 r183.1.by_)∧True) (fun ⟨A187,c188,A189,c190,A191,c192,A193,c194,m195⟩=>[rd eTallyCount 7 A187 c188 r183.1.TicketBook.Tally.Counts,rd eTicketSeason 2 A189 c190 r183.1.TicketBook.Tickets,rd eTicketShow 3 A191 c192 r183.1.TicketBook.Shows,rd eTicketBox 4 A193 c194 r183.1.TicketBook.Boxes,mpo ekS iE m195 r183.1.by_]),dv 25 some,dv 10 (exG 0),dv 10 (exG 1),rx (α:=Nat) (fun b218=>P b218 0) (fun b218 lo hi=>BtwL lo hi [] (bl b218 ([I 0,I 0,SL none 0 0,I 0,SL none 0 0,SL none 0 0,SL none 0 0]++(sg (List.replicate 3 0) 3++[Value.map none])) 73)∧True) (fun b218=>[bl b218 ([I 0,I 0,SL none 0 0,I 0,SL none 0 0,SL none 0 0,SL none 0 0]++(sg (List.replicate 3 0) 3++[Value.map none])) 73])] [[],[],[],[],[],[],[],[],[],[],[],[],[],[],[],[25],[10],[10],[]] rfl (by kernel_rfl) [[],[],[],[1,2],[1,2,3],[1,2,3,4],[1,2,3,4],[1,2,3,4,5,6],[1,2,3,4,5,6,7],[1,2,3,4,5,6,7,8],[1,2,3,4,5,6,7,8,9],[1,2,3,4,5,6,7,8,9],[1,2,3,4,5,6,7,8,9,10,11],[1,2,3,4,5,6,7,8,9,10,11,12],[0,1,2,3,4,5,6,7,8,9,10,11,12,13],[0,1,2,3,4,5,6,7,8,9,10,11,12,13,14],[0,1,2,3,4,5,6,7,8,9,10,11,12,13,14,15],[0,1,2,3,4,5,6,7,8,9,10,11,12,13,14,15],[],[0,1,2,3,4,5,6,7,8,9,10,11,12,13,14,15,16,18],[0,1,2,3,4,5,6,7,8,9,10,11,12,13,14,15,16,17,18,19]] (by kernel_rfl) ⟨?_,?_,?_,?_,?_,?_,?_,?_,?_,?_,?_,?_,?_,?_,?_,?_,?_,?_,?_,trivial⟩ ?_ ?_
    ·intro e_ w_ k_ hf_ hR_
     have S_:=@A_ _ k_
     refine hopE [(3,P b15 0)] ⟨((hf_ 3 rfl).trans (rfl:_=P b15 0)),trivial⟩ ?_
     exact p_ldA ty29 sz29 (S_.atP (i:=3) rfl) rfl rfl<|wp_nil ⟨_,rfl,S_.keep,rfl⟩
    ·intro e_ w_ k_ hf_ hR_
     have S_:=@A_ _ k_
     refine hopE [(3,P b15 0)] ⟨((hf_ 3 rfl).trans (rfl:_=P b15 0)),trivial⟩ ?_
     exact p_ldA ty29 sz29 (S_.atP (i:=3) rfl) rfl rfl<|wp_nil ⟨_,rfl,S_.keep,rfl⟩
    ·intro e_ w_ k_ hf_ hR_
     have S_:=@A_ _ k_
     refine hopE [(4,P b18 0)] ⟨((hf_ 4 rfl).trans (rfl:_=P b18 0)),trivial⟩ ?_
     exact p_ld ty3 (S_.atP (i:=2) rfl) rfl rfl<|wp_nil ⟨_,rfl,S_.keep,rfl⟩
    ·intro e_ w_ k_ hf_ hR_
     have S_:=@A_ _ k_
     refine hopE [(12,AG (vB a0 A1 c2 A4 c5 A7 c8 A10 c11)),(13,I a1)] ⟨rQ (hR_ 1 12 rfl (lE rfl) rfl),rQ (hR_ 2 13 rfl (lE rfl) rfl),trivial⟩ ?_
     refine p_cv (ticket_isTrip_ok h30 (S_.atP (i:=4) rfl) (S_.atP (i:=5) rfl) (S_.atP (i:=6) rfl) (S_.atP (i:=7) rfl)) fu53 rfl S_ fun w31 S32=>wp_nil ?_
     exact ⟨_,rfl,S32.keep,rfl⟩
    ·intro e_ w_ k_ hf_ hR_
     refine hopE [(14,B r29)] ⟨rQ (hR_ 3 14 rfl (lE rfl) rfl),trivial⟩ ?_
     exact p_mB rfl<|wp_nil ⟨_,rfl,kR,congrArg Value.bool c34⟩
    ·intro e_ w_ k_ hf_ hR_
     have S_:=@A_ _ k_
     refine hopE [(3,P b15 0),(15,B true)] ⟨((hf_ 3 rfl).trans (rfl:_=P b15 0)),rQ (hR_ 4 15 rfl (lE rfl) rfl),trivial⟩ ?_
     refine gT rfl rfl (p_ldA ty29 sz29 (S_.atP (i:=3) rfl) rfl rfl ?_)
     exact wp_nil ⟨_,rfl,S_.keep,rfl⟩
    ·intro e_ w_ k_ hf_ hR_
     have S_:=@A_ _ k_
     refine hopE [(5,P b21 0),(15,B true)] ⟨((hf_ 5 rfl).trans (rfl:_=P b21 0)),rQ (hR_ 4 15 rfl (lE rfl) rfl),trivial⟩ ?_
     refine gT rfl rfl (p_ld ty3 (S_.atP (i:=1) rfl) rfl rfl ?_)
     exact wp_nil ⟨_,rfl,S_.keep,rfl⟩
    ·intro e_ w_ k_ hf_ hR_
     have S_:=@A_ _ k_
     refine hopE [(15,B true),(16,AG (vB a0 A1 c2 A4 c5 A7 c8 A10 c11)),(17,I a2)] ⟨rQ (hR_ 4 15 rfl (lE rfl) rfl),rQ (hR_ 5 16 rfl (lE rfl) rfl),rQ (hR_ 6 17 rfl (lE rfl) rfl),trivial⟩ ?_
     refine gT rfl rfl (p_cv (ticket_isTrip_ok h41 (S_.atP (i:=4) rfl) (S_.atP (i:=5) rfl) (S_.atP (i:=6) rfl) (S_.atP (i:=7) rfl)) fu53 rfl S_ fun w42 S43=>?_)
     exact wp_nil ⟨_,rfl,S43.keep,rfl⟩
    ·intro e_ w_ k_ hf_ hR_
     refine hopE [(15,B true),(18,B r40)] ⟨rQ (hR_ 4 15 rfl (lE rfl) rfl),rQ (hR_ 7 18 rfl (lE rfl) rfl),trivial⟩ ?_
     exact p_pkT rfl (rfl:_=B r40)<|wp_nil ⟨_,rfl,kR,rfl⟩
    ·intro e_ w_ k_ hf_ hR_
     refine hopE [(19,B r40)] ⟨rQ (hR_ 8 19 rfl (lE rfl) rfl),trivial⟩ ?_
     exact p_mB rfl<|wp_nil ⟨_,rfl,kR,congrArg Value.bool c47⟩
    ·intro e_ w_ k_ hf_ hR_
     refine hopE [(4,P b18 0),(20,B false)] ⟨((hf_ 4 rfl).trans (rfl:_=P b18 0)),rQ (hR_ 9 20 rfl (lE rfl) rfl),trivial⟩ ?_
     exact gF rfl rfl<|wp_nil ⟨_,rfl,kR,rfl⟩
    ·intro e_ w_ k_ hf_ hR_
     refine hopE [(5,P b21 0),(20,B false)] ⟨((hf_ 5 rfl).trans (rfl:_=P b21 0)),rQ (hR_ 9 20 rfl (lE rfl) rfl),trivial⟩ ?_
     exact gF rfl rfl<|wp_nil ⟨_,rfl,kR,rfl⟩
    ·intro e_ w_ k_ hf_ hR_
     refine hopE [(20,B false),(21,undef),(22,undef)] ⟨rQ (hR_ 9 20 rfl (lE rfl) rfl),rQ (hR_ 10 21 rfl (lE rfl) rfl),rQ (hR_ 11 22 rfl (lE rfl) rfl),trivial⟩ ?_
     exact gF rfl rfl<|wp_nil ⟨_,rfl,kR,rfl⟩
    ·intro e_ w_ k_ hf_ hR_
     refine hopE [(20,B false),(23,undef)] ⟨rQ (hR_ 9 20 rfl (lE rfl) rfl),rQ (hR_ 12 23 rfl (lE rfl) rfl),trivial⟩ ?_
     exact p_pkF rfl (rfl:_=B false)<|wp_nil ⟨_,rfl,kR,rfl⟩
    ·intro e_ w_ k_ hf_ hR_
     have S_:=@A_ _ k_
     refine hopE [(11,AG (vB a0 A1 c2 A4 c5 A7 c8 A10 c11)),(24,B false)] ⟨rQ (hR_ 0 11 rfl (lE rfl) rfl),rQ (hR_ 13 24 rfl (lE rfl) rfl),trivial⟩ ?_
     refine p_cal (ticket_asked_ok h184 (S_.atP (i:=4) rfl) (S_.atP (i:=5) rfl) (S_.atP (i:=6) rfl) (S_.atP (i:=7) rfl) (S_.atP (i:=8) rfl) (S_.atP (i:=9) rfl)) fu62 rfl ?_
     rintro _ w185 ⟨A187,c188,A189,c190,A191,c192,A193,c194,m195,rfl,k186,⟨o196,n197⟩,⟨o198,n199⟩,⟨o200,n201⟩,⟨o202,n203⟩,⟨o204,n205⟩,_⟩
     have S206:=S_.callN k186 [rd eTallyCount 7 A187 c188 r183.1.TicketBook.Tally.Counts,rd eTicketSeason 2 A189 c190 r183.1.TicketBook.Tickets,rd eTicketShow 3 A191 c192 r183.1.TicketBook.Shows,rd eTicketBox 4 A193 c194 r183.1.TicketBook.Boxes,mpo ekS iE m195 r183.1.by_] (cA ⟨o196,Al.inL n197 ((cA (fp_mem (i:=4) rfl) (cA (fp_mem (i:=5) rfl) (cA (fp_mem (i:=6) rfl) (cA (fp_mem (i:=7) rfl) nM)))))⟩ (cA ⟨o198,Al.inL n199 ((cA (fp_mem (i:=4) rfl) (cA (fp_mem (i:=5) rfl) (cA (fp_mem (i:=6) rfl) (cA (fp_mem (i:=7) rfl) nM)))))⟩ (cA ⟨o200,New.inL n201⟩ (cA ⟨o202,New.inL n203⟩ (cA ⟨o204,New.inL n205⟩ nM)))))
     exact wp_nil ⟨_,rfl,S206.keep,⟨(A187,c188,A189,c190,A191,c192,A193,c194,m195),rfl,⟨bL n197 rfl (S206.atP (i:=0) rfl) rfl,bL n199 rfl (S206.atP (i:=1) rfl) rfl,bL (New.al (New.mono n201 S_.keep.size)) rfl (S206.atP (i:=2) rfl) rfl,bL (New.al (New.mono n203 S_.keep.size)) rfl (S206.atP (i:=3) rfl) rfl,bL (New.al (New.mono n205 S_.keep.size)) rfl (S206.atP (i:=4) rfl) rfl,trivial⟩,(cA (S206.atP (i:=0) rfl) (cA (S206.atP (i:=1) rfl) (cA (S206.atP (i:=2) rfl) (cA (S206.atP (i:=3) rfl) (cA (S206.atP (i:=4) rfl) nM)))))⟩⟩
    ·intro e_ w_ k_ hf_ hR_
     have S_:=@A_ _ k_
     obtain ⟨_,_,_,_,⟨A187,c188,A189,c190,A191,c192,A193,c194,m195⟩,q207,p208,a209⟩:=hR_ 14 25 rfl (lE rfl) rfl
     replace q207:e_ 25=TU [AG ((vB r183.1.TicketBook A187 c188 A189 c190 A191 c192 A193 c194)++(sg r183.1.shown_ 3++[Value.map m195])),I r183.2]:=q207
     have S_:=St.addL' S_ (a209 _ (.head _)) (fun _ _ _ h_=>(nE h_))
     have S_:=St.addL' S_ (a209 _ (.tail _ (.head _))) (fun _ _ _ h_=>(nE h_))
     have S_:=St.addL' S_ (a209 _ (.tail _ (.tail _ (.head _)))) (fun _ _ _ h_=>(nE h_))
     have S_:=St.addL' S_ (a209 _ (.tail _ (.tail _ (.tail _ (.head _))))) (fun _ _ _ h_=>(nE h_))
     have S_:=St.addL' S_ (a209 _ (.tail _ (.tail _ (.tail _ (.tail _ (.head _)))))) (fun _ _ _ h_=>(nE h_))
     refine hopE [(25,TU [AG ((vB r183.1.TicketBook A187 c188 A189 c190 A191 c192 A193 c194)++(sg r183.1.shown_ 3++[Value.map m195])),I r183.2])] ⟨q207,trivial⟩ ?_
     refine p_mT rfl<|wp_nil ?_
     exact ⟨_,rfl,S_.keep,rfl⟩
    ·intro e_ w_ k_ hf_ hR_
     have S_:=@A_ _ k_
     obtain ⟨_,_,_,_,⟨A187,c188,A189,c190,A191,c192,A193,c194,m195⟩,q211,p212,a213⟩:=hR_ 14 25 rfl (lE rfl) rfl
     replace q211:e_ 25=TU [AG ((vB r183.1.TicketBook A187 c188 A189 c190 A191 c192 A193 c194)++(sg r183.1.shown_ 3++[Value.map m195])),I r183.2]:=q211
     have S_:=St.addL' S_ (a213 _ (.head _)) (fun _ _ _ h_=>(nE h_))
     have S_:=St.addL' S_ (a213 _ (.tail _ (.head _))) (fun _ _ _ h_=>(nE h_))
     have S_:=St.addL' S_ (a213 _ (.tail _ (.tail _ (.head _)))) (fun _ _ _ h_=>(nE h_))
     have S_:=St.addL' S_ (a213 _ (.tail _ (.tail _ (.tail _ (.head _))))) (fun _ _ _ h_=>(nE h_))
     have S_:=St.addL' S_ (a213 _ (.tail _ (.tail _ (.tail _ (.tail _ (.head _)))))) (fun _ _ _ h_=>(nE h_))
     obtain ⟨_,_,_,_,q210⟩:=hR_ 15 10 rfl (lE rfl) rfl
     replace q210:e_ 10=TU [AG ((vB r183.1.TicketBook A187 c188 A189 c190 A191 c192 A193 c194)++(sg r183.1.shown_ 3++[Value.map m195])),I r183.2]:=(sJ ((congrArg some q211).symm.trans q210)).symm
     refine hopE [(10,TU [AG ((vB r183.1.TicketBook A187 c188 A189 c190 A191 c192 A193 c194)++(sg r183.1.shown_ 3++[Value.map m195])),I r183.2])] ⟨q210,trivial⟩ ?_
     refine p_ext rfl rfl<|wp_nil ?_
     exact ⟨_,rfl,S_.keep,rfl⟩
    ·intro e_ w_ k_ hf_ hR_
     have S_:=@A_ _ k_
     obtain ⟨_,_,_,_,⟨A187,c188,A189,c190,A191,c192,A193,c194,m195⟩,q215,p216,a217⟩:=hR_ 14 25 rfl (lE rfl) rfl
     replace q215:e_ 25=TU [AG ((vB r183.1.TicketBook A187 c188 A189 c190 A191 c192 A193 c194)++(sg r183.1.shown_ 3++[Value.map m195])),I r183.2]:=q215
     have S_:=St.addL' S_ (a217 _ (.head _)) (fun _ _ _ h_=>(nE h_))
     have S_:=St.addL' S_ (a217 _ (.tail _ (.head _))) (fun _ _ _ h_=>(nE h_))
     have S_:=St.addL' S_ (a217 _ (.tail _ (.tail _ (.head _)))) (fun _ _ _ h_=>(nE h_))
     have S_:=St.addL' S_ (a217 _ (.tail _ (.tail _ (.tail _ (.head _))))) (fun _ _ _ h_=>(nE h_))
     have S_:=St.addL' S_ (a217 _ (.tail _ (.tail _ (.tail _ (.tail _ (.head _)))))) (fun _ _ _ h_=>(nE h_))
     obtain ⟨_,_,_,_,q214⟩:=hR_ 15 10 rfl (lE rfl) rfl
     replace q214:e_ 10=TU [AG ((vB r183.1.TicketBook A187 c188 A189 c190 A191 c192 A193 c194)++(sg r183.1.shown_ 3++[Value.map m195])),I r183.2]:=(sJ ((congrArg some q215).symm.trans q214)).symm
     refine hopE [(10,TU [AG ((vB r183.1.TicketBook A187 c188 A189 c190 A191 c192 A193 c194)++(sg r183.1.shown_ 3++[Value.map m195])),I r183.2])] ⟨q214,trivial⟩ ?_
     refine p_ext rfl rfl<|wp_nil ?_
     exact ⟨_,rfl,S_.keep,rfl⟩
    ·intro e_ w_ k_ hf_ hR_
     have S_:=@A_ _ k_
     refine hopE [] trivial ?_
     refine p_allA in73 S_ fun b218 w219 S220=>wp_nil ?_
     exact ⟨_,rfl,S220.keep,⟨b218,rfl,⟨bL (New.al (S220.newX (i:=0) rfl)) rfl (S220.atX (i:=0) rfl) rfl,trivial⟩,(cA (S220.atX (i:=0) rfl) nM)⟩⟩
    ·intro e221 w222 lo223 hi224 k225 hf226 hR227 hd228
     have S229:=S26.call k225
     obtain ⟨h231,h232,h233,⟨A187,c188,A189,c190,A191,c192,A193,c194,m195⟩,q230,h234,h235⟩:=hR227 14 25 (lE rfl) rfl
     replace q230:e221 25=TU [AG ((vB r183.1.TicketBook A187 c188 A189 c190 A191 c192 A193 c194)++(sg r183.1.shown_ 3++[Value.map m195])),I r183.2]:=q230
     obtain ⟨p236,p237,p238,p239,p240,_⟩:=h234
     have S241:=St.addR S229 (h235 _ (.head _)) (oR p236 h231 S26 (mG [0,1,2,3] rfl))
     try clear S229
     have S242:=St.addR S241 (h235 _ (.tail _ (.head _))) (oR p237 h231 S26 (mG [0,1,2,3] rfl))
     try clear S241
     have S243:=St.addR S242 (h235 _ (.tail _ (.tail _ (.head _)))) (oR p238 h231 S26 (nM))
     try clear S242
     have S244:=St.addR S243 (h235 _ (.tail _ (.tail _ (.tail _ (.head _))))) (oR p239 h231 S26 (nM))
     try clear S243
     have S245:=St.addR S244 (h235 _ (.tail _ (.tail _ (.tail _ (.tail _ (.head _)))))) (oR p240 h231 S26 (nM))
     try clear S244
     have q246:e221 10=TU [AG ((vB r183.1.TicketBook A187 c188 A189 c190 A191 c192 A193 c194)++(sg r183.1.shown_ 3++[Value.map m195])),I r183.2]:=(sJ ((congrArg some q230).symm.trans (hR227 15 10 (lE rfl) rfl).2.2.2)).symm
     have q247:e221 26=AG ((vB r183.1.TicketBook A187 c188 A189 c190 A191 c192 A193 c194)++(sg r183.1.shown_ 3++[Value.map m195])):=(sJ ((congrArg (exG 0) q246).symm.trans (hR227 16 26 (lE rfl) rfl).2.2.2)).symm
     have q248:e221 27=I r183.2:=(sJ ((congrArg (exG 1) q246).symm.trans (hR227 17 27 (lE rfl) rfl).2.2.2)).symm
     obtain ⟨h250,h251,h252,b218,q249,h253,h254⟩:=hR227 18 8 (lE rfl) rfl
     replace q249:e221 8=P b218 0:=q249
     obtain ⟨p255,_⟩:=h253
     have S257:=St.addO S245 (h254 _ (.head _)) (oN p255 h250 S26) (oX p255 h250 S26) (cA (oP p255 p240 h250 S26 (nM) (hd228 18 14 (lE rfl) (lE rfl) (by decide))) (cA (oP p255 p239 h250 S26 (nM) (hd228 18 14 (lE rfl) (lE rfl) (by decide))) (cA (oP p255 p238 h250 S26 (nM) (hd228 18 14 (lE rfl) (lE rfl) (by decide))) (cA (oP p255 p237 h250 S26 (mG [0,1,2,3] rfl) (hd228 18 14 (lE rfl) (lE rfl) (by decide))) (cA (oP p255 p236 h250 S26 (mG [0,1,2,3] rfl) (hd228 18 14 (lE rfl) (lE rfl) (by decide))) (oL p255 h250 S26))))))
     try clear S245
     refine tailE [(4,P b18 0),(5,P b21 0),(6,P b24 0),(8,P b218 0),(26,AG ((vB r183.1.TicketBook A187 c188 A189 c190 A191 c192 A193 c194)++(sg r183.1.shown_ 3++[Value.map m195]))),(27,I r183.2)] ⟨((hf226 4 rfl).trans (rfl:_=P b18 0)),((hf226 5 rfl).trans (rfl:_=P b21 0)),((hf226 6 rfl).trans (rfl:_=P b24 0)),q249,q247,q248,trivial⟩ ?_
     intro g258
     refine p_stP (pre:=[]) (old:=[I 0,I 0,SL none 0 0,I 0,SL none 0 0,SL none 0 0,SL none 0 0]++(sg (List.replicate 3 0) 3++[Value.map none])) (post:=[]) (vs:=(vB r183.1.TicketBook A187 c188 A189 c190 A191 c192 A193 c194)++(sg r183.1.shown_ 3++[Value.map m195])) sz73 S257 (i:=0) rfl rfl rfl rfl (rfl:_=AG ((vB r183.1.TicketBook A187 c188 A189 c190 A191 c192 A193 c194)++(sg r183.1.shown_ 3++[Value.map m195]))) rfl rfl rfl rfl fun w259 S260=>?_
     try clear S257
     refine p_aI rfl<|wp_nil ?_
     have S261:=S260.pk [0,1,2,3] (by decide) [4,3,2,1,0,5,6,7,8,9,10] rfl rfl
     try clear S260
     exact ⟨(r183.1.TicketBook.Tally.Trips,r183.1.TicketBook.Tally.Room,r183.1.TicketBook.Tally.Counts,r183.1.TicketBook.Fare,r183.1.TicketBook.Tickets,r183.1.TicketBook.Shows,r183.1.TicketBook.Boxes,r183.1.shown_,r183.1.by_,r183.2),(b218,A187,c188,A189,c190,A191,c192,A193,c194,m195),_,rfl,⟨rfl,rfl,rfl,rfl,rfl,trivial⟩,H,S261⟩
    ·intro e261 w262 lo263 hi264 k265 hf266 hR267 hd268
     have S269:=S26.call k265
     obtain ⟨h271,h272,h273,⟨A187,c188,A189,c190,A191,c192,A193,c194,m195⟩,q270,h274,h275⟩:=hR267 14 25 (lE rfl) (by decide) rfl
     replace q270:e261 25=TU [AG ((vB r183.1.TicketBook A187 c188 A189 c190 A191 c192 A193 c194)++(sg r183.1.shown_ 3++[Value.map m195])),I r183.2]:=q270
     obtain ⟨p276,p277,p278,p279,p280,_⟩:=h274
     have S281:=St.addR S269 (h275 _ (.head _)) (oR p276 h271 S26 (mG [0,1,2,3] rfl))
     try clear S269
     have S282:=St.addR S281 (h275 _ (.tail _ (.head _))) (oR p277 h271 S26 (mG [0,1,2,3] rfl))
     try clear S281
     have S283:=St.addR S282 (h275 _ (.tail _ (.tail _ (.head _)))) (oR p278 h271 S26 (nM))
     try clear S282
     have S284:=St.addR S283 (h275 _ (.tail _ (.tail _ (.tail _ (.head _))))) (oR p279 h271 S26 (nM))
     try clear S283
     have S285:=St.addR S284 (h275 _ (.tail _ (.tail _ (.tail _ (.tail _ (.head _)))))) (oR p280 h271 S26 (nM))
     try clear S284
     have q286:e261 10=TU [AG ((vB r183.1.TicketBook A187 c188 A189 c190 A191 c192 A193 c194)++(sg r183.1.shown_ 3++[Value.map m195])),I r183.2]:=(sJ ((congrArg some q270).symm.trans (hR267 15 10 (lE rfl) (by decide) rfl).2.2.2)).symm
     have q287:e261 26=AG ((vB r183.1.TicketBook A187 c188 A189 c190 A191 c192 A193 c194)++(sg r183.1.shown_ 3++[Value.map m195])):=(sJ ((congrArg (exG 0) q286).symm.trans (hR267 16 26 (lE rfl) (by decide) rfl).2.2.2)).symm
     obtain ⟨h289,h290,h291,b218,q288,h292,h293⟩:=hR267 18 8 (lE rfl) (by decide) rfl
     replace q288:e261 8=P b218 0:=q288
     obtain ⟨p294,_⟩:=h292
     have S296:=St.addO S285 (h293 _ (.head _)) (oN p294 h289 S26) (oX p294 h289 S26) (cA (oP p294 p280 h289 S26 (nM) (hd268 18 14 (lE rfl) (lE rfl) (by decide) (by decide) (by decide))) (cA (oP p294 p279 h289 S26 (nM) (hd268 18 14 (lE rfl) (lE rfl) (by decide) (by decide) (by decide))) (cA (oP p294 p278 h289 S26 (nM) (hd268 18 14 (lE rfl) (lE rfl) (by decide) (by decide) (by decide))) (cA (oP p294 p277 h289 S26 (mG [0,1,2,3] rfl) (hd268 18 14 (lE rfl) (lE rfl) (by decide) (by decide) (by decide))) (cA (oP p294 p276 h289 S26 (mG [0,1,2,3] rfl) (hd268 18 14 (lE rfl) (lE rfl) (by decide) (by decide) (by decide))) (oL p294 h289 S26))))))
     try clear S285
     refine tailE [(4,P b18 0),(5,P b21 0),(6,P b24 0),(8,P b218 0),(10,TU [AG ((vB r183.1.TicketBook A187 c188 A189 c190 A191 c192 A193 c194)++(sg r183.1.shown_ 3++[Value.map m195])),I r183.2]),(26,AG ((vB r183.1.TicketBook A187 c188 A189 c190 A191 c192 A193 c194)++(sg r183.1.shown_ 3++[Value.map m195])))] ⟨((hf266 4 rfl).trans (rfl:_=P b18 0)),((hf266 5 rfl).trans (rfl:_=P b21 0)),((hf266 6 rfl).trans (rfl:_=P b24 0)),q288,q286,q287,trivial⟩ ?_
     intro g297
     refine p_stP (pre:=[]) (old:=[I 0,I 0,SL none 0 0,I 0,SL none 0 0,SL none 0 0,SL none 0 0]++(sg (List.replicate 3 0) 3++[Value.map none])) (post:=[]) (vs:=(vB r183.1.TicketBook A187 c188 A189 c190 A191 c192 A193 c194)++(sg r183.1.shown_ 3++[Value.map m195])) sz73 S296 (i:=0) rfl rfl rfl rfl (rfl:_=AG ((vB r183.1.TicketBook A187 c188 A189 c190 A191 c192 A193 c194)++(sg r183.1.shown_ 3++[Value.map m195]))) rfl rfl rfl rfl fun w298 S299=>?_
     try clear S296
     refine p_ext rfl rfl<|p_aI rfl<|wp_nil ?_
     have S300:=S299.pk [0,1,2,3] (by decide) [4,3,2,1,0,5,6,7,8,9,10] rfl rfl
     try clear S299
     exact ⟨(r183.1.TicketBook.Tally.Trips,r183.1.TicketBook.Tally.Room,r183.1.TicketBook.Tally.Counts,r183.1.TicketBook.Fare,r183.1.TicketBook.Tickets,r183.1.TicketBook.Shows,r183.1.TicketBook.Boxes,r183.1.shown_,r183.1.by_,r183.2),(b218,A187,c188,A189,c190,A191,c192,A193,c194,m195),_,rfl,⟨rfl,rfl,rfl,rfl,rfl,trivial⟩,H,S300⟩
  ·replace H:=condF c34 H
   obtain ⟨r317,h318,H⟩:=bindS H
   have A_:∀ {w_:World},Keep0 w25 w_→St w_ nF w_ [] [bl b24 [I 0,I 0] 51,bl b21 [I a2] 3,bl b18 [I a1] 3,bl b15 (vB a0 A1 c2 A4 c5 A7 c8 A10 c11) 29,rd eTallyCount 7 A1 c2 a0.Tally.Counts,rd eTicketSeason 2 A4 c5 a0.Tickets,rd eTicketShow 3 A7 c8 a0.Shows,rd eTicketBox 4 A10 c11 a0.Boxes,gW0,gW2]:=fun k_=>S26.asP k_
   refine reg_fl mixed 19 17 (by kernel_rfl) [rv (AG (vB a0 A1 c2 A4 c5 A7 c8 A10 c11)),rv (AG (vB a0 A1 c2 A4 c5 A7 c8 A10 c11)),rv (I a1),rv (B r29),rv (B false),rv (undef),rv (undef),rv (undef),rv (B false),rv (B false),rv (undef),rv (undef),rv (undef),rv (B false),rx (α:=(Option Addr)×Nat×(Option Addr)×Nat×(Option Addr)×Nat×(Option Addr)×Nat×(Option Nat)) (fun ⟨A321,c322,A323,c324,A325,c326,A327,c328,m329⟩=>TU [AG ((vB r317.1.TicketBook A321 c322 A323 c324 A325 c326 A327 c328)++(sg r317.1.shown_ 3++[Value.map m329])),I r317.2]) (fun ⟨A321,c322,A323,c324,A325,c326,A327,c328,m329⟩ lo hi=>BtwL lo hi [rd eTallyCount 7 A1 c2 a0.Tally.Counts,rd eTicketSeason 2 A4 c5 a0.Tickets,rd eTicketShow 3 A7 c8 a0.Shows,rd eTicketBox 4 A10 c11 a0.Boxes] (rd eTallyCount 7 A321 c322 r317.1.TicketBook.Tally.Counts)∧BtwL lo hi [rd eTallyCount 7 A1 c2 a0.Tally.Counts,rd eTicketSeason 2 A4 c5 a0.Tickets,rd eTicketShow 3 A7 c8 a0.Shows,rd eTicketBox 4 A10 c11 a0.Boxes] (rd eTicketSeason 2 A323 c324 r317.1.TicketBook.Tickets)∧BtwL lo hi [] (rd eTicketShow 3 A325 c326 r317.1.TicketBook.Shows)∧BtwL lo hi [] (rd eTicketBox 4 A327 c328 r317.1.TicketBook.Boxes)∧BtwL lo hi [] (mpo ekS iE m329 r317.1.by_)∧True) (fun ⟨A321,c322,A323,c324,A325,c326,A327,c328,m329⟩=>[rd eTallyCount 7 A321 c322 r317.1.TicketBook.Tally.Counts,rd eTicketSeason 2 A323 c324 r317.1.TicketBook.Tickets,rd eTicketShow 3 A325 c326 r317.1.TicketBook.Shows,rd eTicketBox 4 A327 c328 r317.1.TicketBook.Boxes,mpo ekS iE m329 r317.1.by_]),dv 25 some,dv 10 (exG 0),dv 10 (exG 1),rx (α:=Nat) (fun b352=>P b352 0) (fun b352 lo hi=>BtwL lo hi [] (bl b352 ([I 0,I 0,SL none 0 0,I 0,SL none 0 0,SL none 0 0,SL none 0 0]++(sg (List.replicate 3 0) 3++[Value.map none])) 73)∧True) (fun b352=>[bl b352 ([I 0,I 0,SL none 0 0,I 0,SL none 0 0,SL none 0 0,SL none 0 0]++(sg (List.replicate 3 0) 3++[Value.map none])) 73])] [[],[],[],[],[],[],[],[],[],[],[],[],[],[],[],[25],[10],[10],[]] rfl (by kernel_rfl) [[],[],[],[1,2],[1,2,3],[1,2,3,4],[1,2,3,4],[1,2,3,4,5,6],[1,2,3,4,5,6,7],[1,2,3,4,5,6,7,8],[1,2,3,4,5,6,7,8,9],[1,2,3,4,5,6,7,8,9],[1,2,3,4,5,6,7,8,9,10,11],[1,2,3,4,5,6,7,8,9,10,11,12],[0,1,2,3,4,5,6,7,8,9,10,11,12,13],[0,1,2,3,4,5,6,7,8,9,10,11,12,13,14],[0,1,2,3,4,5,6,7,8,9,10,11,12,13,14,15],[0,1,2,3,4,5,6,7,8,9,10,11,12,13,14,15],[],[0,1,2,3,4,5,6,7,8,9,10,11,12,13,14,15,16,18],[0,1,2,3,4,5,6,7,8,9,10,11,12,13,14,15,16,17,18,19]] (by kernel_rfl) ⟨?_,?_,?_,?_,?_,?_,?_,?_,?_,?_,?_,?_,?_,?_,?_,?_,?_,?_,?_,trivial⟩ ?_ ?_
   ·intro e_ w_ k_ hf_ hR_
    have S_:=@A_ _ k_
    refine hopE [(3,P b15 0)] ⟨((hf_ 3 rfl).trans (rfl:_=P b15 0)),trivial⟩ ?_
    exact p_ldA ty29 sz29 (S_.atP (i:=3) rfl) rfl rfl<|wp_nil ⟨_,rfl,S_.keep,rfl⟩
   ·intro e_ w_ k_ hf_ hR_
    have S_:=@A_ _ k_
    refine hopE [(3,P b15 0)] ⟨((hf_ 3 rfl).trans (rfl:_=P b15 0)),trivial⟩ ?_
    exact p_ldA ty29 sz29 (S_.atP (i:=3) rfl) rfl rfl<|wp_nil ⟨_,rfl,S_.keep,rfl⟩
   ·intro e_ w_ k_ hf_ hR_
    have S_:=@A_ _ k_
    refine hopE [(4,P b18 0)] ⟨((hf_ 4 rfl).trans (rfl:_=P b18 0)),trivial⟩ ?_
    exact p_ld ty3 (S_.atP (i:=2) rfl) rfl rfl<|wp_nil ⟨_,rfl,S_.keep,rfl⟩
   ·intro e_ w_ k_ hf_ hR_
    have S_:=@A_ _ k_
    refine hopE [(12,AG (vB a0 A1 c2 A4 c5 A7 c8 A10 c11)),(13,I a1)] ⟨rQ (hR_ 1 12 rfl (lE rfl) rfl),rQ (hR_ 2 13 rfl (lE rfl) rfl),trivial⟩ ?_
    refine p_cv (ticket_isTrip_ok h30 (S_.atP (i:=4) rfl) (S_.atP (i:=5) rfl) (S_.atP (i:=6) rfl) (S_.atP (i:=7) rfl)) fu53 rfl S_ fun w31 S32=>wp_nil ?_
    exact ⟨_,rfl,S32.keep,rfl⟩
   ·intro e_ w_ k_ hf_ hR_
    refine hopE [(14,B r29)] ⟨rQ (hR_ 3 14 rfl (lE rfl) rfl),trivial⟩ ?_
    exact p_mB rfl<|wp_nil ⟨_,rfl,kR,congrArg Value.bool c34⟩
   ·intro e_ w_ k_ hf_ hR_
    refine hopE [(3,P b15 0),(15,B false)] ⟨((hf_ 3 rfl).trans (rfl:_=P b15 0)),rQ (hR_ 4 15 rfl (lE rfl) rfl),trivial⟩ ?_
    exact gF rfl rfl<|wp_nil ⟨_,rfl,kR,rfl⟩
   ·intro e_ w_ k_ hf_ hR_
    refine hopE [(5,P b21 0),(15,B false)] ⟨((hf_ 5 rfl).trans (rfl:_=P b21 0)),rQ (hR_ 4 15 rfl (lE rfl) rfl),trivial⟩ ?_
    exact gF rfl rfl<|wp_nil ⟨_,rfl,kR,rfl⟩
   ·intro e_ w_ k_ hf_ hR_
    refine hopE [(15,B false),(16,undef),(17,undef)] ⟨rQ (hR_ 4 15 rfl (lE rfl) rfl),rQ (hR_ 5 16 rfl (lE rfl) rfl),rQ (hR_ 6 17 rfl (lE rfl) rfl),trivial⟩ ?_
    exact gF rfl rfl<|wp_nil ⟨_,rfl,kR,rfl⟩
   ·intro e_ w_ k_ hf_ hR_
    refine hopE [(15,B false),(18,undef)] ⟨rQ (hR_ 4 15 rfl (lE rfl) rfl),rQ (hR_ 7 18 rfl (lE rfl) rfl),trivial⟩ ?_
    exact p_pkF rfl (rfl:_=B false)<|wp_nil ⟨_,rfl,kR,rfl⟩
   ·intro e_ w_ k_ hf_ hR_
    refine hopE [(19,B false)] ⟨rQ (hR_ 8 19 rfl (lE rfl) rfl),trivial⟩ ?_
    exact p_mB rfl<|wp_nil ⟨_,rfl,kR,rfl⟩
   ·intro e_ w_ k_ hf_ hR_
    refine hopE [(4,P b18 0),(20,B false)] ⟨((hf_ 4 rfl).trans (rfl:_=P b18 0)),rQ (hR_ 9 20 rfl (lE rfl) rfl),trivial⟩ ?_
    exact gF rfl rfl<|wp_nil ⟨_,rfl,kR,rfl⟩
   ·intro e_ w_ k_ hf_ hR_
    refine hopE [(5,P b21 0),(20,B false)] ⟨((hf_ 5 rfl).trans (rfl:_=P b21 0)),rQ (hR_ 9 20 rfl (lE rfl) rfl),trivial⟩ ?_
    exact gF rfl rfl<|wp_nil ⟨_,rfl,kR,rfl⟩
   ·intro e_ w_ k_ hf_ hR_
    refine hopE [(20,B false),(21,undef),(22,undef)] ⟨rQ (hR_ 9 20 rfl (lE rfl) rfl),rQ (hR_ 10 21 rfl (lE rfl) rfl),rQ (hR_ 11 22 rfl (lE rfl) rfl),trivial⟩ ?_
    exact gF rfl rfl<|wp_nil ⟨_,rfl,kR,rfl⟩
   ·intro e_ w_ k_ hf_ hR_
    refine hopE [(20,B false),(23,undef)] ⟨rQ (hR_ 9 20 rfl (lE rfl) rfl),rQ (hR_ 12 23 rfl (lE rfl) rfl),trivial⟩ ?_
    exact p_pkF rfl (rfl:_=B false)<|wp_nil ⟨_,rfl,kR,rfl⟩
   ·intro e_ w_ k_ hf_ hR_
    have S_:=@A_ _ k_
    refine hopE [(11,AG (vB a0 A1 c2 A4 c5 A7 c8 A10 c11)),(24,B false)] ⟨rQ (hR_ 0 11 rfl (lE rfl) rfl),rQ (hR_ 13 24 rfl (lE rfl) rfl),trivial⟩ ?_
    refine p_cal (ticket_asked_ok h318 (S_.atP (i:=4) rfl) (S_.atP (i:=5) rfl) (S_.atP (i:=6) rfl) (S_.atP (i:=7) rfl) (S_.atP (i:=8) rfl) (S_.atP (i:=9) rfl)) fu62 rfl ?_
    rintro _ w319 ⟨A321,c322,A323,c324,A325,c326,A327,c328,m329,rfl,k320,⟨o330,n331⟩,⟨o332,n333⟩,⟨o334,n335⟩,⟨o336,n337⟩,⟨o338,n339⟩,_⟩
    have S340:=S_.callN k320 [rd eTallyCount 7 A321 c322 r317.1.TicketBook.Tally.Counts,rd eTicketSeason 2 A323 c324 r317.1.TicketBook.Tickets,rd eTicketShow 3 A325 c326 r317.1.TicketBook.Shows,rd eTicketBox 4 A327 c328 r317.1.TicketBook.Boxes,mpo ekS iE m329 r317.1.by_] (cA ⟨o330,Al.inL n331 ((cA (fp_mem (i:=4) rfl) (cA (fp_mem (i:=5) rfl) (cA (fp_mem (i:=6) rfl) (cA (fp_mem (i:=7) rfl) nM)))))⟩ (cA ⟨o332,Al.inL n333 ((cA (fp_mem (i:=4) rfl) (cA (fp_mem (i:=5) rfl) (cA (fp_mem (i:=6) rfl) (cA (fp_mem (i:=7) rfl) nM)))))⟩ (cA ⟨o334,New.inL n335⟩ (cA ⟨o336,New.inL n337⟩ (cA ⟨o338,New.inL n339⟩ nM)))))
    exact wp_nil ⟨_,rfl,S340.keep,⟨(A321,c322,A323,c324,A325,c326,A327,c328,m329),rfl,⟨bL n331 rfl (S340.atP (i:=0) rfl) rfl,bL n333 rfl (S340.atP (i:=1) rfl) rfl,bL (New.al (New.mono n335 S_.keep.size)) rfl (S340.atP (i:=2) rfl) rfl,bL (New.al (New.mono n337 S_.keep.size)) rfl (S340.atP (i:=3) rfl) rfl,bL (New.al (New.mono n339 S_.keep.size)) rfl (S340.atP (i:=4) rfl) rfl,trivial⟩,(cA (S340.atP (i:=0) rfl) (cA (S340.atP (i:=1) rfl) (cA (S340.atP (i:=2) rfl) (cA (S340.atP (i:=3) rfl) (cA (S340.atP (i:=4) rfl) nM)))))⟩⟩
   ·intro e_ w_ k_ hf_ hR_
    have S_:=@A_ _ k_
    obtain ⟨_,_,_,_,⟨A321,c322,A323,c324,A325,c326,A327,c328,m329⟩,q341,p342,a343⟩:=hR_ 14 25 rfl (lE rfl) rfl
    replace q341:e_ 25=TU [AG ((vB r317.1.TicketBook A321 c322 A323 c324 A325 c326 A327 c328)++(sg r317.1.shown_ 3++[Value.map m329])),I r317.2]:=q341
    have S_:=St.addL' S_ (a343 _ (.head _)) (fun _ _ _ h_=>(nE h_))
    have S_:=St.addL' S_ (a343 _ (.tail _ (.head _))) (fun _ _ _ h_=>(nE h_))
    have S_:=St.addL' S_ (a343 _ (.tail _ (.tail _ (.head _)))) (fun _ _ _ h_=>(nE h_))
    have S_:=St.addL' S_ (a343 _ (.tail _ (.tail _ (.tail _ (.head _))))) (fun _ _ _ h_=>(nE h_))
    have S_:=St.addL' S_ (a343 _ (.tail _ (.tail _ (.tail _ (.tail _ (.head _)))))) (fun _ _ _ h_=>(nE h_))
    refine hopE [(25,TU [AG ((vB r317.1.TicketBook A321 c322 A323 c324 A325 c326 A327 c328)++(sg r317.1.shown_ 3++[Value.map m329])),I r317.2])] ⟨q341,trivial⟩ ?_
    refine p_mT rfl<|wp_nil ?_
    exact ⟨_,rfl,S_.keep,rfl⟩
   ·intro e_ w_ k_ hf_ hR_
    have S_:=@A_ _ k_
    obtain ⟨_,_,_,_,⟨A321,c322,A323,c324,A325,c326,A327,c328,m329⟩,q345,p346,a347⟩:=hR_ 14 25 rfl (lE rfl) rfl
    replace q345:e_ 25=TU [AG ((vB r317.1.TicketBook A321 c322 A323 c324 A325 c326 A327 c328)++(sg r317.1.shown_ 3++[Value.map m329])),I r317.2]:=q345
    have S_:=St.addL' S_ (a347 _ (.head _)) (fun _ _ _ h_=>(nE h_))
    have S_:=St.addL' S_ (a347 _ (.tail _ (.head _))) (fun _ _ _ h_=>(nE h_))
    have S_:=St.addL' S_ (a347 _ (.tail _ (.tail _ (.head _)))) (fun _ _ _ h_=>(nE h_))
    have S_:=St.addL' S_ (a347 _ (.tail _ (.tail _ (.tail _ (.head _))))) (fun _ _ _ h_=>(nE h_))
    have S_:=St.addL' S_ (a347 _ (.tail _ (.tail _ (.tail _ (.tail _ (.head _)))))) (fun _ _ _ h_=>(nE h_))
    obtain ⟨_,_,_,_,q344⟩:=hR_ 15 10 rfl (lE rfl) rfl
    replace q344:e_ 10=TU [AG ((vB r317.1.TicketBook A321 c322 A323 c324 A325 c326 A327 c328)++(sg r317.1.shown_ 3++[Value.map m329])),I r317.2]:=(sJ ((congrArg some q345).symm.trans q344)).symm
    refine hopE [(10,TU [AG ((vB r317.1.TicketBook A321 c322 A323 c324 A325 c326 A327 c328)++(sg r317.1.shown_ 3++[Value.map m329])),I r317.2])] ⟨q344,trivial⟩ ?_
    refine p_ext rfl rfl<|wp_nil ?_
    exact ⟨_,rfl,S_.keep,rfl⟩
   ·intro e_ w_ k_ hf_ hR_
    have S_:=@A_ _ k_
    obtain ⟨_,_,_,_,⟨A321,c322,A323,c324,A325,c326,A327,c328,m329⟩,q349,p350,a351⟩:=hR_ 14 25 rfl (lE rfl) rfl
    replace q349:e_ 25=TU [AG ((vB r317.1.TicketBook A321 c322 A323 c324 A325 c326 A327 c328)++(sg r317.1.shown_ 3++[Value.map m329])),I r317.2]:=q349
    have S_:=St.addL' S_ (a351 _ (.head _)) (fun _ _ _ h_=>(nE h_))
    have S_:=St.addL' S_ (a351 _ (.tail _ (.head _))) (fun _ _ _ h_=>(nE h_))
    have S_:=St.addL' S_ (a351 _ (.tail _ (.tail _ (.head _)))) (fun _ _ _ h_=>(nE h_))
    have S_:=St.addL' S_ (a351 _ (.tail _ (.tail _ (.tail _ (.head _))))) (fun _ _ _ h_=>(nE h_))
    have S_:=St.addL' S_ (a351 _ (.tail _ (.tail _ (.tail _ (.tail _ (.head _)))))) (fun _ _ _ h_=>(nE h_))
    obtain ⟨_,_,_,_,q348⟩:=hR_ 15 10 rfl (lE rfl) rfl
    replace q348:e_ 10=TU [AG ((vB r317.1.TicketBook A321 c322 A323 c324 A325 c326 A327 c328)++(sg r317.1.shown_ 3++[Value.map m329])),I r317.2]:=(sJ ((congrArg some q349).symm.trans q348)).symm
    refine hopE [(10,TU [AG ((vB r317.1.TicketBook A321 c322 A323 c324 A325 c326 A327 c328)++(sg r317.1.shown_ 3++[Value.map m329])),I r317.2])] ⟨q348,trivial⟩ ?_
    refine p_ext rfl rfl<|wp_nil ?_
    exact ⟨_,rfl,S_.keep,rfl⟩
   ·intro e_ w_ k_ hf_ hR_
    have S_:=@A_ _ k_
    refine hopE [] trivial ?_
    refine p_allA in73 S_ fun b352 w353 S354=>wp_nil ?_
    exact ⟨_,rfl,S354.keep,⟨b352,rfl,⟨bL (New.al (S354.newX (i:=0) rfl)) rfl (S354.atX (i:=0) rfl) rfl,trivial⟩,(cA (S354.atX (i:=0) rfl) nM)⟩⟩
   ·intro e355 w356 lo357 hi358 k359 hf360 hR361 hd362
    have S363:=S26.call k359
    obtain ⟨h365,h366,h367,⟨A321,c322,A323,c324,A325,c326,A327,c328,m329⟩,q364,h368,h369⟩:=hR361 14 25 (lE rfl) rfl
    replace q364:e355 25=TU [AG ((vB r317.1.TicketBook A321 c322 A323 c324 A325 c326 A327 c328)++(sg r317.1.shown_ 3++[Value.map m329])),I r317.2]:=q364
    obtain ⟨p370,p371,p372,p373,p374,_⟩:=h368
    have S375:=St.addR S363 (h369 _ (.head _)) (oR p370 h365 S26 (mG [0,1,2,3] rfl))
    try clear S363
    have S376:=St.addR S375 (h369 _ (.tail _ (.head _))) (oR p371 h365 S26 (mG [0,1,2,3] rfl))
    try clear S375
    have S377:=St.addR S376 (h369 _ (.tail _ (.tail _ (.head _)))) (oR p372 h365 S26 (nM))
    try clear S376
    have S378:=St.addR S377 (h369 _ (.tail _ (.tail _ (.tail _ (.head _))))) (oR p373 h365 S26 (nM))
    try clear S377
    have S379:=St.addR S378 (h369 _ (.tail _ (.tail _ (.tail _ (.tail _ (.head _)))))) (oR p374 h365 S26 (nM))
    try clear S378
    have q380:e355 10=TU [AG ((vB r317.1.TicketBook A321 c322 A323 c324 A325 c326 A327 c328)++(sg r317.1.shown_ 3++[Value.map m329])),I r317.2]:=(sJ ((congrArg some q364).symm.trans (hR361 15 10 (lE rfl) rfl).2.2.2)).symm
    have q381:e355 26=AG ((vB r317.1.TicketBook A321 c322 A323 c324 A325 c326 A327 c328)++(sg r317.1.shown_ 3++[Value.map m329])):=(sJ ((congrArg (exG 0) q380).symm.trans (hR361 16 26 (lE rfl) rfl).2.2.2)).symm
    have q382:e355 27=I r317.2:=(sJ ((congrArg (exG 1) q380).symm.trans (hR361 17 27 (lE rfl) rfl).2.2.2)).symm
    obtain ⟨h384,h385,h386,b352,q383,h387,h388⟩:=hR361 18 8 (lE rfl) rfl
    replace q383:e355 8=P b352 0:=q383
    obtain ⟨p389,_⟩:=h387
    have S391:=St.addO S379 (h388 _ (.head _)) (oN p389 h384 S26) (oX p389 h384 S26) (cA (oP p389 p374 h384 S26 (nM) (hd362 18 14 (lE rfl) (lE rfl) (by decide))) (cA (oP p389 p373 h384 S26 (nM) (hd362 18 14 (lE rfl) (lE rfl) (by decide))) (cA (oP p389 p372 h384 S26 (nM) (hd362 18 14 (lE rfl) (lE rfl) (by decide))) (cA (oP p389 p371 h384 S26 (mG [0,1,2,3] rfl) (hd362 18 14 (lE rfl) (lE rfl) (by decide))) (cA (oP p389 p370 h384 S26 (mG [0,1,2,3] rfl) (hd362 18 14 (lE rfl) (lE rfl) (by decide))) (oL p389 h384 S26))))))
    try clear S379
    refine tailE [(4,P b18 0),(5,P b21 0),(6,P b24 0),(8,P b352 0),(26,AG ((vB r317.1.TicketBook A321 c322 A323 c324 A325 c326 A327 c328)++(sg r317.1.shown_ 3++[Value.map m329]))),(27,I r317.2)] ⟨((hf360 4 rfl).trans (rfl:_=P b18 0)),((hf360 5 rfl).trans (rfl:_=P b21 0)),((hf360 6 rfl).trans (rfl:_=P b24 0)),q383,q381,q382,trivial⟩ ?_
    intro g392
    refine p_stP (pre:=[]) (old:=[I 0,I 0,SL none 0 0,I 0,SL none 0 0,SL none 0 0,SL none 0 0]++(sg (List.replicate 3 0) 3++[Value.map none])) (post:=[]) (vs:=(vB r317.1.TicketBook A321 c322 A323 c324 A325 c326 A327 c328)++(sg r317.1.shown_ 3++[Value.map m329])) sz73 S391 (i:=0) rfl rfl rfl rfl (rfl:_=AG ((vB r317.1.TicketBook A321 c322 A323 c324 A325 c326 A327 c328)++(sg r317.1.shown_ 3++[Value.map m329]))) rfl rfl rfl rfl fun w393 S394=>?_
    try clear S391
    refine p_aI rfl<|wp_nil ?_
    have S395:=S394.pk [0,1,2,3] (by decide) [4,3,2,1,0,5,6,7,8,9,10] rfl rfl
    try clear S394
    exact ⟨(r317.1.TicketBook.Tally.Trips,r317.1.TicketBook.Tally.Room,r317.1.TicketBook.Tally.Counts,r317.1.TicketBook.Fare,r317.1.TicketBook.Tickets,r317.1.TicketBook.Shows,r317.1.TicketBook.Boxes,r317.1.shown_,r317.1.by_,r317.2),(b352,A321,c322,A323,c324,A325,c326,A327,c328,m329),_,rfl,⟨rfl,rfl,rfl,rfl,rfl,trivial⟩,H,S395⟩
   ·intro e395 w396 lo397 hi398 k399 hf400 hR401 hd402
    have S403:=S26.call k399
    obtain ⟨h405,h406,h407,⟨A321,c322,A323,c324,A325,c326,A327,c328,m329⟩,q404,h408,h409⟩:=hR401 14 25 (lE rfl) (by decide) rfl
    replace q404:e395 25=TU [AG ((vB r317.1.TicketBook A321 c322 A323 c324 A325 c326 A327 c328)++(sg r317.1.shown_ 3++[Value.map m329])),I r317.2]:=q404
    obtain ⟨p410,p411,p412,p413,p414,_⟩:=h408
    have S415:=St.addR S403 (h409 _ (.head _)) (oR p410 h405 S26 (mG [0,1,2,3] rfl))
    try clear S403
    have S416:=St.addR S415 (h409 _ (.tail _ (.head _))) (oR p411 h405 S26 (mG [0,1,2,3] rfl))
    try clear S415
    have S417:=St.addR S416 (h409 _ (.tail _ (.tail _ (.head _)))) (oR p412 h405 S26 (nM))
    try clear S416
    have S418:=St.addR S417 (h409 _ (.tail _ (.tail _ (.tail _ (.head _))))) (oR p413 h405 S26 (nM))
    try clear S417
    have S419:=St.addR S418 (h409 _ (.tail _ (.tail _ (.tail _ (.tail _ (.head _)))))) (oR p414 h405 S26 (nM))
    try clear S418
    have q420:e395 10=TU [AG ((vB r317.1.TicketBook A321 c322 A323 c324 A325 c326 A327 c328)++(sg r317.1.shown_ 3++[Value.map m329])),I r317.2]:=(sJ ((congrArg some q404).symm.trans (hR401 15 10 (lE rfl) (by decide) rfl).2.2.2)).symm
    have q421:e395 26=AG ((vB r317.1.TicketBook A321 c322 A323 c324 A325 c326 A327 c328)++(sg r317.1.shown_ 3++[Value.map m329])):=(sJ ((congrArg (exG 0) q420).symm.trans (hR401 16 26 (lE rfl) (by decide) rfl).2.2.2)).symm
    obtain ⟨h423,h424,h425,b352,q422,h426,h427⟩:=hR401 18 8 (lE rfl) (by decide) rfl
    replace q422:e395 8=P b352 0:=q422
    obtain ⟨p428,_⟩:=h426
    have S430:=St.addO S419 (h427 _ (.head _)) (oN p428 h423 S26) (oX p428 h423 S26) (cA (oP p428 p414 h423 S26 (nM) (hd402 18 14 (lE rfl) (lE rfl) (by decide) (by decide) (by decide))) (cA (oP p428 p413 h423 S26 (nM) (hd402 18 14 (lE rfl) (lE rfl) (by decide) (by decide) (by decide))) (cA (oP p428 p412 h423 S26 (nM) (hd402 18 14 (lE rfl) (lE rfl) (by decide) (by decide) (by decide))) (cA (oP p428 p411 h423 S26 (mG [0,1,2,3] rfl) (hd402 18 14 (lE rfl) (lE rfl) (by decide) (by decide) (by decide))) (cA (oP p428 p410 h423 S26 (mG [0,1,2,3] rfl) (hd402 18 14 (lE rfl) (lE rfl) (by decide) (by decide) (by decide))) (oL p428 h423 S26))))))
    try clear S26; try clear S419
    refine tailE [(4,P b18 0),(5,P b21 0),(6,P b24 0),(8,P b352 0),(10,TU [AG ((vB r317.1.TicketBook A321 c322 A323 c324 A325 c326 A327 c328)++(sg r317.1.shown_ 3++[Value.map m329])),I r317.2]),(26,AG ((vB r317.1.TicketBook A321 c322 A323 c324 A325 c326 A327 c328)++(sg r317.1.shown_ 3++[Value.map m329])))] ⟨((hf400 4 rfl).trans (rfl:_=P b18 0)),((hf400 5 rfl).trans (rfl:_=P b21 0)),((hf400 6 rfl).trans (rfl:_=P b24 0)),q422,q420,q421,trivial⟩ ?_
    intro g431
    refine p_stP (pre:=[]) (old:=[I 0,I 0,SL none 0 0,I 0,SL none 0 0,SL none 0 0,SL none 0 0]++(sg (List.replicate 3 0) 3++[Value.map none])) (post:=[]) (vs:=(vB r317.1.TicketBook A321 c322 A323 c324 A325 c326 A327 c328)++(sg r317.1.shown_ 3++[Value.map m329])) sz73 S430 (i:=0) rfl rfl rfl rfl (rfl:_=AG ((vB r317.1.TicketBook A321 c322 A323 c324 A325 c326 A327 c328)++(sg r317.1.shown_ 3++[Value.map m329]))) rfl rfl rfl rfl fun w432 S433=>?_
    try clear S430
    refine p_ext rfl rfl<|p_aI rfl<|wp_nil ?_
    have S434:=S433.pk [0,1,2,3] (by decide) [4,3,2,1,0,5,6,7,8,9,10] rfl rfl
    try clear S433
    exact ⟨(r317.1.TicketBook.Tally.Trips,r317.1.TicketBook.Tally.Room,r317.1.TicketBook.Tally.Counts,r317.1.TicketBook.Fare,r317.1.TicketBook.Tickets,r317.1.TicketBook.Shows,r317.1.TicketBook.Boxes,r317.1.shown_,r317.1.by_,r317.2),(b352,A321,c322,A323,c324,A325,c326,A327,c328,m329),_,rfl,⟨rfl,rfl,rfl,rfl,rfl,trivial⟩,H,S434⟩
 ·intro z_1 y_1 e27 w28 S29; obtain ⟨H,S29⟩:=S29
  unfold ticket_Paid_j1 at H
  refine c_seq<|c_seq<|reg<|p_mI rfl<|p_cmp rfl rfl rfl<|wp_nil ?_
  refine c_cond rfl (fun c30=>?_) (fun c30=>?_)
  ·replace H:=condT c30 H
   refine c_seq<|reg<|p_bld (cs:=[I 0,I 0]) st51 (rfl:_=[]) (by kernel_rfl)<|p_mI rfl<|p_stP (pre:=[]) (old:=[I 0,I 0]) (post:=[]) (vs:=[I 0,I 0]) sz51 S29 (i:=1) rfl rfl rfl rfl (rfl:_=AG [I 0,I 0]) rfl rfl rfl rfl fun w31 S32=>p_aI rfl<|wp_nil ?_
   have S33:St w nF w31 [bl b24 [I 0,I 0] 51] [rd eTallyCount 7 y_1.2.1 y_1.2.2.1 z_1.2.2.1,rd eTicketSeason 2 y_1.2.2.2.1 y_1.2.2.2.2.1 z_1.2.2.2.2.1,rd eTicketShow 3 y_1.2.2.2.2.2.1 y_1.2.2.2.2.2.2.1 z_1.2.2.2.2.2.1,rd eTicketBox 4 y_1.2.2.2.2.2.2.2.1 y_1.2.2.2.2.2.2.2.2.1 z_1.2.2.2.2.2.2.1,mpo ekS iE y_1.2.2.2.2.2.2.2.2.2 z_1.2.2.2.2.2.2.2.2.1,gW0,gW2]:=S32.pk [1] (by decide) [0,1,2,3,4,9,10] rfl rfl
   try clear S32
   obtain rfl:=sJ H
   refine c_ret ?_; show bodyPostM (Fr none) 0 Tryz.prog Tryz.f20 _ .ret _ _
   refine ret_of (res2 rfl (rvA rfl ty51 sz51 (S33.atX (i:=0) rfl) rfl) (rvT (rfl:_=I z_1.2.2.2.2.2.2.2.2.2))) ?_
   exact ⟨_,rfl,rfl,S33.keep⟩
  ·replace H:=condF c30 H
   refine c_skip<|c_seq<|reg<|p_ldA ty73 sz73 (S29.atX (i:=0) rfl) rfl rfl ?_
   refine o_fun (rfl:_=[]) (rfl:_=[P b18 0,P b21 0]) ?_
   obtain ⟨r35,h36,H⟩:=bindS H
   refine p_cv (ticket_book_span_ok h36 (S29.atP (i:=0) rfl) (S29.atP (i:=1) rfl) (S29.atP (i:=2) rfl) (S29.atP (i:=3) rfl) (S29.atP (i:=4) rfl) (by kernel_rfl) (fun _ _ _ k_ hr_=>ticket_Paid_1_ok hr_ (aS (S29.atX (i:=2) rfl) k_) (aS (S29.atX (i:=3) rfl) k_)) (S29.atP (i:=9) rfl) (S29.atP (i:=10) rfl)) fu63 rfl S29 fun w37 S38=>?_
   try clear S29
   refine p_stP (pre:=[]) (old:=[I 0,I 0]) (post:=[]) (vs:=[I r35.Low,I r35.High]) sz51 S38 (i:=1) rfl rfl rfl rfl (rfl:_=AG [I r35.Low,I r35.High]) rfl rfl rfl rfl fun w39 S40=>?_
   try clear S38
   refine p_aI rfl<|wp_nil ?_
   have S41:St w nF w39 [bl b24 [I r35.Low,I r35.High] 51] [gW0,gW2]:=S40.pk [1] (by decide) [9,10] rfl rfl
   try clear S40
   obtain rfl:=sJ H
   refine c_ret ?_; show bodyPostM (Fr none) 0 Tryz.prog Tryz.f20 _ .ret _ _
   refine ret_of (res2 rfl (rvA rfl ty51 sz51 (S41.atX (i:=0) rfl) rfl) (rvT (rfl:_=I 0))) ?_
   exact ⟨_,rfl,rfl,S41.keep⟩
def B_Point (a0:Int):Option Span:=
 (B_Range a0 a0).bind fun r4=>
 some r4
set_option maxRecDepth 100000 in
theorem B_Point_ok {a0:Int}{w:World}{r:Span} (H:B_Point a0=some r):Calls Tryz.prog 33 #[I a0] w (RetV w (AG [I r.Low,I r.High])):=by
 unfold B_Point at H
 refine fn_of (n:=6) Tryz.func33 rfl rfl (lE rfl) ?_
 have S:=St.start w nF _ nM
 refine c_seq<|reg<|p_allA in51 S fun b1 w2 S3=>wp_nil<|c_seq<|reg<|p_mI rfl<|p_mI rfl ?_
 obtain ⟨r4,h5,H⟩:=bindS H
 refine p_cv (B_Range_ok h5) fu32 rfl S3 fun w6 S7=>p_stP (pre:=[]) (old:=[I 0,I 0]) (post:=[]) (vs:=[I r4.Low,I r4.High]) sz51 S7 (i:=0) rfl rfl rfl rfl (rfl:_=AG [I r4.Low,I r4.High]) rfl rfl rfl rfl fun w8 S9=>wp_nil ?_
 obtain rfl:=sJ H
 refine c_ret ?_; show bodyPostM (Fr none) 0 Tryz.prog Tryz.f33 _ .ret _ _
 refine ret_of (res1 rfl (rvA rfl ty51 sz51 (S9.atX (i:=0) rfl) rfl)) ?_
 exact ⟨_,rfl,rfl,S9.keep⟩
def ref10_asked (a0:TicketBook) (a1:Bool):Option ((List Ref10_truth)×Int):=
 (ref10_Check a0).bind fun r16=>
 bif (r16 != 0) then (some (([]:List _),r16))
 else (bif !a1 then (some (([]:List _),101))
 else ((ref10_truths a0).bind fun r22=>
 bif ((r22.length:Int)==0) then (some (([]:List _),102))
 else (some (r22,0))))
set_option maxRecDepth 100000 in
theorem ref10_asked_ok {a0:TicketBook}{a1:Bool}{A1:Option Addr}{c2:Nat}{A4:Option Addr}{c5:Nat}{A7:Option Addr}{c8:Nat}{A10:Option Addr}{c11:Nat}{w:World}{r:(List Ref10_truth)×Int} (H:ref10_asked a0 a1=some r) (h3:(rd eTallyCount 7 A1 c2 a0.Tally.Counts).ok w) (h6:(rd eTicketSeason 2 A4 c5 a0.Tickets).ok w) (h9:(rd eTicketShow 3 A7 c8 a0.Shows).ok w) (h12:(rd eTicketBox 4 A10 c11 a0.Boxes).ok w):Calls Tryz.prog 66 #[AG (vB a0 A1 c2 A4 c5 A7 c8 A10 c11),B a1] w fun en w_=>∃ u_,en=.returned u_∧∃ A_1:Option Addr,∃ c_2:Nat,∃ l_3:List (Ref10_truth×(Option Addr)×Nat×(Option Addr)×Nat),u_=TU [SL A_1 l_3.length c_2,I r.2]∧Keep0 w w_∧((rd nRef10_truth 2 A_1 c_2 l_3).ok w_∧New w.heap.size (rd nRef10_truth 2 A_1 c_2 l_3))∧((ri nRef10_truthI l_3 r.1).ok w_∧Al w [rd eTallyCount 7 A1 c2 a0.Tally.Counts,rd eTicketSeason 2 A4 c5 a0.Tickets,rd eTicketShow 3 A7 c8 a0.Shows,rd eTicketBox 4 A10 c11 a0.Boxes] (ri nRef10_truthI l_3 r.1))∧True:=by
 unfold ref10_asked at H
 refine fn_of (n:=21) Tryz.func66 rfl rfl (lE rfl) ?_
 have S:=St.start w nF _ (cA h3 (cA h6 (cA h9 (cA h12 nM))))
 refine c_seq<|reg<|p_boxA rfl S fun b13 w14 S15=>p_aS rfl<|p_aI rfl<|wp_nil<|c_seq<|c_seq<|reg<|p_ldA ty29 sz29 (S15.atX (i:=0) rfl) rfl rfl ?_
 obtain ⟨r16,h17,H⟩:=bindS H
 refine p_cv (ref10_Check_ok h17 (S15.atP (i:=0) rfl) (S15.atP (i:=1) rfl) (S15.atP (i:=2) rfl) (S15.atP (i:=3) rfl)) fu19 rfl S15 fun w18 S19=>p_aI rfl<|wp_nil<|c_seq<|reg<|p_mI rfl<|p_cmp rfl rfl rfl<|wp_nil ?_
 refine c_cond rfl (fun c20=>?_) (fun c20=>?_)
 ·replace H:=condT c20 H
  refine c_seq<|reg<|p_mI rfl<|p_aS rfl<|p_aI rfl<|wp_nil ?_
  obtain rfl:=sJ H
  refine c_ret ?_; show bodyPostM (Fr none) 0 Tryz.prog Tryz.f66 _ .ret _ _
  refine ret_of (res2 rfl (rvT (rfl:_=SL none 0 0)) (rvT (rfl:_=I r16))) ?_
  exact ⟨_,rfl,none,0,([]:List (Ref10_truth×(Option Addr)×Nat×(Option Addr)×Nat)),rfl,S19.keep,⟨rd_nil (Nat.zero_le _),New.nil⟩,⟨ri_nil,Al.riNil⟩,trivial⟩
 ·replace H:=condF c20 H
  refine c_skip<|c_seq<|c_seq<|reg<|p_mB rfl<|p_not rfl<|wp_nil ?_
  refine c_cond rfl (fun c21=>?_) (fun c21=>?_)
  ·replace H:=condT c21 H
   refine c_seq<|reg<|p_aS rfl<|p_aI rfl<|wp_nil ?_
   obtain rfl:=sJ H
   refine c_ret ?_; show bodyPostM (Fr none) 0 Tryz.prog Tryz.f66 _ .ret _ _
   refine ret_of (res2 rfl (rvT (rfl:_=SL none 0 0)) (rvT (rfl:_=I 101))) ?_
   exact ⟨_,rfl,none,0,([]:List (Ref10_truth×(Option Addr)×Nat×(Option Addr)×Nat)),rfl,S19.keep,⟨rd_nil (Nat.zero_le _),New.nil⟩,⟨ri_nil,Al.riNil⟩,trivial⟩
  ·replace H:=condF c21 H
   refine c_skip<|c_seq<|reg<|p_ldA ty29 sz29 (S19.atX (i:=0) rfl) rfl rfl ?_
   obtain ⟨r22,h23,H⟩:=bindS H
   refine p_cal (ref10_truths_ok h23 (S19.atP (i:=0) rfl) (S19.atP (i:=1) rfl) (S19.atP (i:=2) rfl) (S19.atP (i:=3) rfl)) fu50 rfl ?_
   rintro _ w24 ⟨A26,c27,l28,rfl,k25,⟨o29,n30⟩,⟨o31,n32⟩,_⟩
   have S33:=S19.callN k25 [rd nRef10_truth 2 A26 c27 l28,ri nRef10_truthI l28 r22] (cA ⟨o29,New.inL n30⟩ (cA ⟨o31,Al.inL n32 ((cA (fp_mem (i:=0) rfl) (cA (fp_mem (i:=1) rfl) (cA (fp_mem (i:=2) rfl) (cA (fp_mem (i:=3) rfl) nM)))))⟩ nM))
   refine p_aS rfl<|wp_nil<|c_seq<|c_seq<|reg<|p_mS rfl<|p_lenN rfl sc79 (ri_len (S33.atP (i:=1) rfl))<|p_cmp rfl rfl rfl<|wp_nil ?_
   refine c_cond rfl (fun c34=>?_) (fun c34=>?_)
   ·replace H:=condT c34 H
    refine c_seq<|reg<|p_aS rfl<|p_aI rfl<|wp_nil ?_
    obtain rfl:=sJ H
    refine c_ret ?_; show bodyPostM (Fr none) 0 Tryz.prog Tryz.f66 _ .ret _ _
    refine ret_of (res2 rfl (rvT (rfl:_=SL none 0 0)) (rvT (rfl:_=I 102))) ?_
    exact ⟨_,rfl,none,0,([]:List (Ref10_truth×(Option Addr)×Nat×(Option Addr)×Nat)),rfl,S33.keep,⟨rd_nil (Nat.zero_le _),New.nil⟩,⟨ri_nil,Al.riNil⟩,trivial⟩
   ·replace H:=condF c34 H
    refine c_skip<|c_seq<|reg<|p_mS rfl<|p_aS rfl<|p_aI rfl<|wp_nil ?_
    obtain rfl:=sJ H
    refine c_ret ?_; show bodyPostM (Fr none) 0 Tryz.prog Tryz.f66 _ .ret _ _
    refine ret_of (res2 rfl (rvT (rfl:_=SL A26 l28.length c27)) (rvT (rfl:_=I 0))) ?_
    exact ⟨_,rfl,A26,c27,l28,rfl,S33.keep,⟨(S33.atP (i:=0) rfl),(New.mono n30 S19.keep.size)⟩,⟨(S33.atP (i:=1) rfl),(Al.up n32 S19.keep.size (cA (Al.self (i:=0) rfl) (cA (Al.self (i:=1) rfl) (cA (Al.self (i:=2) rfl) (cA (Al.self (i:=3) rfl) nM)))))⟩,trivial⟩
end Go.Proofs.YtafhljljfglfeaaGreatDoor
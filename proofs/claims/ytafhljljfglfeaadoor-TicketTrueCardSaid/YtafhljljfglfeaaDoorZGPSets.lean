/- What the functions of the program compute, and that they do, printed by a program of mine. -/
import Derived.Test.YtafhljljfglfeaaDoorZWE
import Derived.KernelRfl
import Derived.Test.YtafhljljfglfeaaDoorZGFxLook
import Derived.OpenShut
import Derived.RowKit
import Derived.WideKeyArgs
import Derived.ChangeOld
import Derived.LaidMore
import Derived.LaidLaws
import Derived.Deep.DeepHandedRow
import Derived.ProofKit
import Derived.Test.YtafhljljfglfeaaDoorCards
import Derived.Test.YtafhljljfglfeaaDoorTie
set_option linter.unusedVariables false
set_option linter.unusedSimpArgs false
namespace Go.Proofs.YtafhljljfglfeaaDoor
open Go Go.Fx Go.Proofs
set_option maxRecDepth 100000 in
theorem law_truly_ok {a0:TicketBook}{a1:List Int}{A1:Option Addr}{c2:Nat}{A4:Option Addr}{c5:Nat}{A7:Option Addr}{c8:Nat}{A10:Option Addr}{c11:Nat}{A13:Option Addr}{c14:Nat}{w:World}{r:Law10_known} (H:law_truly a0 a1=some r) (h3:(rd eTallyCount 7 A1 c2 a0.Tally.Counts).ok w) (h6:(rd eTicketSeason 2 A4 c5 a0.Tickets).ok w) (h9:(rd eTicketShow 3 A7 c8 a0.Shows).ok w) (h12:(rd eTicketBox 4 A10 c11 a0.Boxes).ok w) (h15:(rd intE 1 A13 c14 a1).ok w):Calls Tryd.prog 14 #[AG (vB a0 A1 c2 A4 c5 A7 c8 A10 c11),SL A13 a1.length c14] w fun en w_=>∃ u_,en=.returned u_∧∃ A_1:Option Addr,∃ c_2:Nat,∃ A_3:Option Addr,∃ c_4:Nat,∃ l_5:List RowH,u_=AG [SL A_1 r.crossed_.length c_2,SL A_3 l_5.length c_4]∧Keep0 w w_∧((rd intE 1 A_1 c_2 r.crossed_).ok w_∧New w.heap.size (rd intE 1 A_1 c_2 r.crossed_))∧((rd rowN 1 A_3 c_4 l_5).ok w_∧New w.heap.size (rd rowN 1 A_3 c_4 l_5))∧((ri rowI l_5 r.users_).ok w_∧New w.heap.size (ri rowI l_5 r.users_))∧True:=by
 unfold law_truly at H
 refine fn_of (n:=87) Tryd.func14 rfl rfl (lE rfl) ?_
 have S:=St.start w nF _ (cA h3 (cA h6 (cA h9 (cA h12 (cA h15 nM)))))
 refine c_seq<|reg<|p_boxA rfl S fun b16 w17 S18=>p_allA in36 S18 fun b19 w20 S21=>wp_nil<|c_seq<|reg<|p_bld (cs:=[SL none 0 0,SL none 0 0]) st36 (rfl:_=[]) (by kernel_rfl)<|p_allA in36 S21 fun b22 w23 S24=>?_
 refine p_stP (pre:=[]) (old:=[SL none 0 0,SL none 0 0]) (post:=[]) (vs:=[SL none 0 0,SL none 0 0]) sz36 S24 (i:=0) rfl rfl rfl rfl (rfl:_=AG [SL none 0 0,SL none 0 0]) rfl rfl rfl rfl fun w25 S26=>wp_nil<|c_seq<|c_seq<|reg<|p_aI rfl<|wp_nil<|c_block ?_
 have S27:=S26.nilRow intE 1 3
 have S28:=S27.nilRow rowN 1 30
 have S29:=S28.rxNil 3
 have S30:=S29.pk [2,0,1,3,4,5] (by decide) [0,1,2,3,4] rfl rfl
 refine c_lop (α:=Int×(List Int)×(List (List Int))) (β:=(Option Addr)×Nat×(Option Addr)×Nat×(List RowH)) (law_truly_l73 a0 a1) (fun z_1 y_1=>[(1,SL A13 a1.length c14),(2,P b16 0),(4,P b19 0),(5,P b22 0),(6,I z_1.1)]) (fun z_1 y_1 w_=>St w nF w_ [gr intE 1 3 y_1.1 y_1.2.1 z_1.2.1,rx' 3 y_1.2.2.2.2 z_1.2.2,gr rowN 1 30 y_1.2.2.1 y_1.2.2.2.1 y_1.2.2.2.2,bl b22 [SL y_1.1 z_1.2.1.length y_1.2.1,SL y_1.2.2.1 y_1.2.2.2.2.length y_1.2.2.2.1] 36,bl b19 [SL none 0 0,SL none 0 0] 36,bl b16 (vB a0 A1 c2 A4 c5 A7 c8 A10 c11) 29] [rd eTallyCount 7 A1 c2 a0.Tally.Counts,rd eTicketSeason 2 A4 c5 a0.Tickets,rd eTicketShow 3 A7 c8 a0.Shows,rd eTicketBox 4 A10 c11 a0.Boxes,rd intE 1 A13 c14 a1]) (0,([]:List Int),([]:List (List Int))) (none,0,none,0,([]:List RowH)) H ⟨rfl,rfl,rfl,rfl,rfl,trivial⟩ S30 ?_
 intro m31 z_1 y_1 e32 w33 H S34
 unfold law_truly_l73 at H
 refine c_seq<|c_seq<|reg<|p_mI rfl<|p_fld fl29_0 rfl<|p_fld fl24_0 rfl<|p_ld ty3 (S34.atX (i:=5) rfl) rfl rfl<|p_cmp rfl rfl rfl<|wp_nil ?_
 refine c_cond rfl (fun c35=>?_) (fun c35=>?_)
 ·replace H:=condT c35 H
  refine c_skip<|c_seq<|c_block<|c_seq ?_
  obtain ⟨r36,h37,H⟩:=bindS H
  obtain ⟨r38,h39,H⟩:=bindS H
  refine reg_q mixed 10 (by kernel_rfl) ?_
  refine dS (fun _ k_=>p_mS rfl dn)<|dS (fun _ k_=>p_mI rfl dn)<|dS (fun _ k_=>p_cvD (B_Choose_ok h37 (aS (S34.atP (i:=4) rfl) k_)) fu51 rfl)<|dS (fun _ k_=>p_fld fl29_0 rfl dn)<|dS (fun _ k_=>p_fld fl24_1 rfl dn)<|dS (fun _ k_=>p_ld ty3 (aS (S34.atX (i:=5) rfl) k_) rfl rfl dn)<|dS (fun _ k_=>p_add rfl rfl dn)<|dS (fun _ k_=>p_cvD (B_Mod_ok h39) fu19 rfl)<|dS (fun _ k_=>p_aI rfl dn) ?_
  refine dS (fun _ k_=>p_aI rfl dn) ?_
  intro w40 k41; have S42:=S34.call k41
  refine wp_nil<|c_seq<|reg<|p_bsl0 intE sc30 S42 fun A43 w45 S46=>p_aS rfl<|wp_nil<|c_seq<|c_seq<|reg<|p_aI rfl<|wp_nil<|c_block ?_
  refine c_lop (α:=Int×(List Int)×Int) (β:=(Option Addr)×Nat) (law_truly_l72 a0 z_1 r38 a1 (loopF (law_truly_l73 a0 a1) m31)) (fun z_2 y_2=>[(1,SL A13 a1.length c14),(2,P b16 0),(4,P b19 0),(5,P b22 0),(6,I z_1.1),(7,I r38),(8,I z_2.1),(9,SL y_2.1 z_2.2.1.length y_2.2),(10,I z_2.2.2)]) (fun z_2 y_2 w_=>St w nF w_ [gr intE 1 3 y_2.1 y_2.2 z_2.2.1,gr intE 1 3 y_1.1 y_1.2.1 z_1.2.1,rx' 3 y_1.2.2.2.2 z_1.2.2,gr rowN 1 30 y_1.2.2.1 y_1.2.2.2.1 y_1.2.2.2.2,bl b22 [SL y_1.1 z_1.2.1.length y_1.2.1,SL y_1.2.2.1 y_1.2.2.2.2.length y_1.2.2.2.1] 36,bl b19 [SL none 0 0,SL none 0 0] 36,bl b16 (vB a0 A1 c2 A4 c5 A7 c8 A10 c11) 29] [rd eTallyCount 7 A1 c2 a0.Tally.Counts,rd eTicketSeason 2 A4 c5 a0.Tickets,rd eTicketShow 3 A7 c8 a0.Shows,rd eTicketBox 4 A10 c11 a0.Boxes,rd intE 1 A13 c14 a1]) (0,([]:List Int),0) (A43,0) H ⟨rfl,rfl,rfl,rfl,rfl,rfl,rfl,rfl,rfl,trivial⟩ S46 ?_
  intro m48 z_2 y_2 e49 w50 H S51
  unfold law_truly_l72 at H
  refine c_seq<|c_seq<|reg<|p_mI rfl<|p_fld fl29_2 rfl<|p_ld ty25 (S51.atX (i:=6) rfl) rfl rfl<|p_len rfl sc25<|p_cmp rfl rfl rfl<|wp_nil ?_
  refine c_cond rfl (fun c52=>?_) (fun c52=>?_)
  ·replace H:=condT c52 H
   refine c_skip<|c_seq<|c_block<|c_seq<|reg<|p_fld fl29_2 rfl<|p_ld ty25 (S51.atX (i:=6) rfl) rfl rfl<|p_mI rfl ?_
   obtain ⟨r53,h54,H⟩:=bindS H
   refine p_ixE sc25 h54 (S51.atP (i:=1) rfl).1 rfl rfl rfl<|p_ldEA ty65 sz65 rfl h54 (S51.atP (i:=1) rfl).1 rfl<|p_allA in65 S51 fun b55 w56 S57=>p_stP (pre:=[]) (old:=[I 0,I 0]) (post:=[]) (vs:=[I r53.From,I r53.To]) sz65 S57 (i:=0) rfl rfl rfl rfl (rfl:_=AG [I r53.From,I r53.To]) rfl rfl rfl rfl fun w58 S59=>p_aI rfl<|wp_nil ?_
   refine c_join (α:=Int×Int) (β:=Unit) (fun z_4 y_4=>[(1,SL A13 a1.length c14),(2,P b16 0),(4,P b19 0),(5,P b22 0),(6,I z_1.1),(7,I r38),(8,I z_4.1),(9,SL y_2.1 z_2.2.1.length y_2.2),(10,I z_2.2.2),(12,I z_4.2)]) (fun z_4 y_4 w_=>law_truly_j70 z_2 (loopF (law_truly_l72 a0 z_1 r38 a1 (loopF (law_truly_l73 a0 a1) m31)) m48) z_4=some r∧St w nF w_ [gr intE 1 3 y_2.1 y_2.2 z_2.2.1,gr intE 1 3 y_1.1 y_1.2.1 z_1.2.1,rx' 3 y_1.2.2.2.2 z_1.2.2,gr rowN 1 30 y_1.2.2.1 y_1.2.2.2.1 y_1.2.2.2.2,bl b22 [SL y_1.1 z_1.2.1.length y_1.2.1,SL y_1.2.2.1 y_1.2.2.2.2.length y_1.2.2.2.1] 36,bl b19 [SL none 0 0,SL none 0 0] 36,bl b16 (vB a0 A1 c2 A4 c5 A7 c8 A10 c11) 29] [rd eTallyCount 7 A1 c2 a0.Tally.Counts,rd eTicketSeason 2 A4 c5 a0.Tickets,rd eTicketShow 3 A7 c8 a0.Shows,rd eTicketBox 4 A10 c11 a0.Boxes,rd intE 1 A13 c14 a1]) ?_ ?_
   ·refine c_join (α:=Bool) (β:=Unit) (fun z_3 y_3=>[(1,SL A13 a1.length c14),(2,P b16 0),(4,P b19 0),(5,P b22 0),(6,I z_1.1),(7,I r38),(8,I z_2.1),(9,SL y_2.1 z_2.2.1.length y_2.2),(10,I z_2.2.2),(12,I (-1)),(62,B z_3)]) (fun z_3 y_3 w_=>law_truly_j71 a1 z_2 (loopF (law_truly_l72 a0 z_1 r38 a1 (loopF (law_truly_l73 a0 a1) m31)) m48) z_3=some r∧St w nF w_ [gr intE 1 3 y_2.1 y_2.2 z_2.2.1,gr intE 1 3 y_1.1 y_1.2.1 z_1.2.1,rx' 3 y_1.2.2.2.2 z_1.2.2,gr rowN 1 30 y_1.2.2.1 y_1.2.2.2.1 y_1.2.2.2.2,bl b22 [SL y_1.1 z_1.2.1.length y_1.2.1,SL y_1.2.2.1 y_1.2.2.2.2.length y_1.2.2.2.1] 36,bl b19 [SL none 0 0,SL none 0 0] 36,bl b16 (vB a0 A1 c2 A4 c5 A7 c8 A10 c11) 29] [rd eTallyCount 7 A1 c2 a0.Tally.Counts,rd eTicketSeason 2 A4 c5 a0.Tickets,rd eTicketShow 3 A7 c8 a0.Shows,rd eTicketBox 4 A10 c11 a0.Boxes,rd intE 1 A13 c14 a1]) ?_ ?_
    ·refine reg<|p_mI rfl<|p_fld fl65_0 rfl<|p_ld ty3 (S59.atX (i:=0) rfl) rfl rfl<|p_fld fl65_1 rfl<|p_ld ty3 (S59.atX (i:=0) rfl) rfl rfl ?_
     obtain ⟨r60,h61,H⟩:=bindS H
     refine p_cv (B_Inside_ok h61) fu32 rfl S59 fun w62 S63=>p_mB rfl ?_
     rcases bE (r60) with c64 | c64
     ·replace H:=condT c64 H
      refine eB c64 ?_
      refine gT rfl rfl (p_mI rfl ?_)
      refine gT rfl rfl (p_mI rfl ?_)
      refine gT rfl rfl (p_cmp rfl rfl rfl ?_)
      refine p_pkT rfl (rfl:_=B (decide (z_2.1 < r38)))<|p_mB rfl ?_
      rcases bE (decide (z_2.1 < r38)) with c65 | c65
      ·replace H:=condT c65 H
       refine eB c65 ?_
       refine gT rfl rfl (p_mS rfl ?_)
       refine gT rfl rfl (p_mI rfl ?_)
       refine gT rfl rfl (p_mI rfl ?_)
       refine gT rfl rfl (p_add rfl rfl ?_)
       refine gT rfl rfl (p_add rfl rfl ?_)
       obtain ⟨r66,h67,H⟩:=bindS H
       refine gT rfl rfl (p_cv (B_Choose_ok h67 (S63.atP (i:=4) rfl)) fu51 rfl S63 fun w68 S69=>?_)
       obtain ⟨h70,H⟩:=needS H
       refine gT rfl rfl (p_rem h70 rfl rfl ?_)
       refine gT rfl rfl (p_cmp rfl rfl rfl ?_)
       refine p_pkT rfl (rfl:_=B ((modI r66 2)==0))<|wp_nil ?_
       have S71:=S69.pk [1,2,3,4,5,6,7] (by decide) [0,1,2,3,4] rfl rfl
       exact ⟨((modI r66 2)==0),(),_,rfl,⟨rfl,rfl,rfl,rfl,rfl,rfl,rfl,rfl,rfl,rfl,rfl,trivial⟩,H,S71⟩
      ·replace H:=condF c65 H
       refine eB c65<|gF rfl rfl<|gF rfl rfl<|gF rfl rfl<|gF rfl rfl<|gF rfl rfl<|gF rfl rfl<|gF rfl rfl<|gF rfl rfl<|p_pkF rfl (rfl:_=B false)<|wp_nil ?_
       have S71:=S63.pk [1,2,3,4,5,6,7] (by decide) [0,1,2,3,4] rfl rfl
       exact ⟨false,(),_,rfl,⟨rfl,rfl,rfl,rfl,rfl,rfl,rfl,rfl,rfl,rfl,rfl,trivial⟩,H,S71⟩
     ·replace H:=condF c64 H
      refine eB c64<|gF rfl rfl<|gF rfl rfl<|gF rfl rfl<|p_pkF rfl (rfl:_=B false)<|p_mB rfl<|gF rfl rfl<|gF rfl rfl<|gF rfl rfl<|gF rfl rfl<|gF rfl rfl<|gF rfl rfl<|gF rfl rfl<|gF rfl rfl<|p_pkF rfl (rfl:_=B false)<|wp_nil ?_
      have S71:=S63.pk [1,2,3,4,5,6,7] (by decide) [0,1,2,3,4] rfl rfl
      exact ⟨false,(),_,rfl,⟨rfl,rfl,rfl,rfl,rfl,rfl,rfl,rfl,rfl,rfl,rfl,trivial⟩,H,S71⟩
    ·intro z_3 y_3 e60 w61 S62; obtain ⟨H,S62⟩:=S62
     unfold law_truly_j71 at H
     refine c_cond rfl (fun c63=>?_) (fun c63=>?_)
     ·replace H:=condT c63 H
      refine reg<|p_mI rfl<|p_mS rfl ?_
      obtain ⟨r64,h65,H⟩:=bindS H
      refine p_cv (B_Choose_ok h65 (S62.atP (i:=4) rfl)) fu51 rfl S62 fun w66 S67=>p_add rfl rfl ?_
      obtain ⟨r68,h69,H⟩:=bindS H
      refine p_cv (B_Mod_ok h69) fu19 rfl S67 fun w70 S71=>p_mI rfl<|p_add rfl rfl<|p_aI rfl<|p_aI rfl<|wp_nil ?_
      exact ⟨(wr (z_2.1+1),r68),(),_,rfl,⟨rfl,rfl,rfl,rfl,rfl,rfl,rfl,rfl,rfl,rfl,trivial⟩,H,S71⟩
     ·replace H:=condF c63 H
      refine c_skip ?_
      exact ⟨(z_2.1,(-1)),(),_,rfl,⟨rfl,rfl,rfl,rfl,rfl,rfl,rfl,rfl,rfl,rfl,trivial⟩,H,S62⟩
   ·intro z_4 y_4 e60 w61 S62; obtain ⟨H,S62⟩:=S62
    unfold law_truly_j70 at H
    refine reg<|p_mS rfl<|p_mI rfl<|p_bsl (enc:=intE) (l:=([z_4.2]:List Int)) I (fun _=>rfl) sc30 in3 intE_len rfl (by decide) (by decide) zr3_1 S62 rfl fun A63 c64 w65 S66=>?_
    obtain ⟨h72,H⟩:=needS H
    refine p_app (enc:=intE) sc30 in3 rfl intE_len intE_one (by decide) S66 (k:=1) rfl (gr_sl intE_len (S66.atX (i:=0) rfl)) h72 (by simp) rfl rfl fun A70 c71 w68 S69=>p_aS rfl<|wp_nil<|reg<|p_mI rfl<|p_add rfl rfl<|p_aI rfl<|wp_nil ?_
    have S73:=S69.pk [1,2,3,4,5,6,7] (by decide) [0,1,2,3,4] rfl rfl
    exact ⟨(z_4.1,z_2.2.1++([z_4.2]:List Int),wr (z_2.2.2+1)),(A70,c71),_,rfl,⟨rfl,rfl,rfl,rfl,rfl,rfl,rfl,rfl,rfl,trivial⟩,H,S73⟩
  ·replace H:=condF c52 H
   refine c_exit ?_
   have S71:St w nF w50 (([gr intE 1 3 y_1.1 y_1.2.1 z_1.2.1]++[gr intE 1 3 y_2.1 y_2.2 z_2.2.1,rx' 3 y_1.2.2.2.2 z_1.2.2,gr rowN 1 30 y_1.2.2.1 y_1.2.2.2.1 y_1.2.2.2.2])++[bl b22 [SL y_1.1 z_1.2.1.length y_1.2.1,SL y_1.2.2.1 y_1.2.2.2.2.length y_1.2.2.2.1] 36,bl b19 [SL none 0 0,SL none 0 0] 36,bl b16 (vB a0 A1 c2 A4 c5 A7 c8 A10 c11) 29]) [rd eTallyCount 7 A1 c2 a0.Tally.Counts,rd eTicketSeason 2 A4 c5 a0.Tickets,rd eTicketShow 3 A7 c8 a0.Shows,rd eTicketBox 4 A10 c11 a0.Boxes,rd intE 1 A13 c14 a1]:=S51.pk [1,0,2,3,4,5,6] (by decide) [0,1,2,3,4] rfl rfl
   obtain ⟨h87,H⟩:=needS H
   obtain ⟨h106,H⟩:=needS H
   refine reg_two mixed 11 [3,4] [8,9] [gr intE 1 3 y_1.1 y_1.2.1 z_1.2.1] [gr intE 1 3 y_2.1 y_2.2 z_2.2.1,rx' 3 y_1.2.2.2.2 z_1.2.2,gr rowN 1 30 y_1.2.2.1 y_1.2.2.2.1 y_1.2.2.2.2] (fun ec_ X_=>∃ A75:Option Addr,∃ c76:Nat,∃ A85:Option Addr,∃ c86:Nat,Has ec_ [(77,SL A75 ([r38]:List Int).length c76),(78,SL A85 (z_1.2.1++([r38]:List Int)).length c86)]∧X_=[gr intE 1 3 A75 c76 ([r38]:List Int),gr intE 1 3 A85 c86 (z_1.2.1++([r38]:List Int))]) (fun ec_ X_=>∃ A93:Option Addr,∃ c94:Nat,∃ A104:Option Addr,∃ c105:Nat,Has ec_ [(82,SL A93 ([(z_2.2.1,y_2.1,y_2.2)]:List RowH).length c94),(83,SL A104 (y_1.2.2.2.2++([(z_2.2.1,y_2.1,y_2.2)]:List RowH)).length c105)]∧X_=[gr rowN 1 30 A93 c94 ([(z_2.2.1,y_2.1,y_2.2)]:List RowH),rx' 3 (y_1.2.2.2.2++([(z_2.2.1,y_2.1,y_2.2)]:List RowH)) (z_1.2.2++([z_2.2.1]:List (List Int))),gr rowN 1 30 A104 c105 (y_1.2.2.2.2++([(z_2.2.1,y_2.1,y_2.2)]:List RowH))]) (by kernel_rfl) rfl rfl (St.baseX S71) ?_
   refine lS rfl (fun _ k_=>p_fld fl36_0 rfl dn) ?_
   refine lS rfl (fun _ k_=>p_ld ty30 (S71.stR (i:=0) rfl k_) rfl rfl dn) ?_
   refine lS rfl (fun _ k_=>p_mI rfl dn) ?_
   refine lC rfl ?_
   refine lC rfl ?_
   refine lS rfl (fun _ k_=>p_fld fl36_1 rfl dn) ?_
   refine lS rfl (fun _ k_=>p_ld ty34 (S71.stR (i:=0) rfl k_) rfl rfl dn) ?_
   refine lS rfl (fun _ k_=>p_mS rfl dn) ?_
   refine lC rfl ?_
   refine lC rfl ?_
   refine lS rfl (fun _ k_=>p_fld fl36_0 rfl dn) ?_
   refine ⟨?_,?_,?_⟩
   ·intro w72 R73 S74
    refine p_bsl (enc:=intE) (l:=([r38]:List Int)) I (fun _=>rfl) sc30 in3 intE_len rfl (by decide) (by decide) zr3_1 S74 rfl fun A75 c76 w77 S78=>?_
    refine cH (X:=[gr intE 1 3 A75 c76 ([r38]:List Int),gr intE 1 3 y_1.1 y_1.2.1 z_1.2.1]) S78 ?_
    intro w80 R81 S82
    refine p_app (enc:=intE) sc30 in3 rfl intE_len intE_one (by decide) S82 (k:=1) rfl (gr_sl intE_len (S82.atX (i:=0) rfl)) h87 (by simp) rfl rfl fun A85 c86 w83 S84=>?_
    refine cH (X:=[gr intE 1 3 A75 c76 ([r38]:List Int),gr intE 1 3 A85 c86 (z_1.2.1++([r38]:List Int))]) S84 ?_
    exact chEnd ⟨A75,c76,A85,c86,⟨rfl,rfl,trivial⟩,rfl⟩
   ·intro w90 R91 S92
    refine p_bsl (enc:=rowN) (l:=([(z_2.2.1,y_2.1,y_2.2)]:List RowH)) (fun h:RowH=>SL h.2.1 h.1.length h.2.2) (fun _=>rfl) sc34 in30 rowN_len rfl (by decide) (by decide) zr30_1 S92 rfl fun A93 c94 w95 S96=>?_
    have S98:=S96.rxOne (i:=1) rfl
    refine cH (X:=[gr rowN 1 30 A93 c94 ([(z_2.2.1,y_2.1,y_2.2)]:List RowH),rx' 3 ([(z_2.2.1,y_2.1,y_2.2)]:List RowH) ([z_2.2.1]:List (List Int)),rx' 3 y_1.2.2.2.2 z_1.2.2,gr rowN 1 30 y_1.2.2.1 y_1.2.2.2.1 y_1.2.2.2.2]) S98 ?_
    intro w99 R100 S101
    refine p_app (enc:=rowN) sc34 in30 rfl rowN_len rowN_one (by decide) S101 (k:=3) rfl (gr_sl rowN_len (S101.atX (i:=0) rfl)) (fits_ri h106 (congr (congrArg HAdd.hAdd (rx_len (S101.atX (i:=2) rfl))) (rx_len (S101.atX (i:=1) rfl)))) (by simp) rfl rfl fun A104 c105 w102 S103=>?_
    have S107:=S103.rxApp (j:=2) (i:=1) rfl rfl (by decide)
    refine cH (X:=[gr rowN 1 30 A93 c94 ([(z_2.2.1,y_2.1,y_2.2)]:List RowH),rx' 3 (y_1.2.2.2.2++([(z_2.2.1,y_2.1,y_2.2)]:List RowH)) (z_1.2.2++([z_2.2.1]:List (List Int))),gr rowN 1 30 A104 c105 (y_1.2.2.2.2++([(z_2.2.1,y_2.1,y_2.2)]:List RowH))]) S107 ?_
    exact chEnd ⟨A93,c94,A104,c105,⟨rfl,rfl,trivial⟩,rfl⟩
   rintro e110 X111 e112 X113 ⟨A75,c76,A85,c86,⟨q88,q89,_⟩,rfl⟩ ⟨A93,c94,A104,c105,⟨q108,q109,_⟩,rfl⟩ e114 w115 f116 f117 f118 S119
   have S120:St w nF w115 [gr intE 1 3 A75 c76 ([r38]:List Int),gr intE 1 3 A85 c86 (z_1.2.1++([r38]:List Int)),gr rowN 1 30 A93 c94 ([(z_2.2.1,y_2.1,y_2.2)]:List RowH),rx' 3 (y_1.2.2.2.2++([(z_2.2.1,y_2.1,y_2.2)]:List RowH)) (z_1.2.2++([z_2.2.1]:List (List Int))),gr rowN 1 30 A104 c105 (y_1.2.2.2.2++([(z_2.2.1,y_2.1,y_2.2)]:List RowH)),bl b22 [SL y_1.1 z_1.2.1.length y_1.2.1,SL y_1.2.2.1 y_1.2.2.2.2.length y_1.2.2.2.1] 36,bl b19 [SL none 0 0,SL none 0 0] 36,bl b16 (vB a0 A1 c2 A4 c5 A7 c8 A10 c11) 29] [rd eTallyCount 7 A1 c2 a0.Tally.Counts,rd eTicketSeason 2 A4 c5 a0.Tickets,rd eTicketShow 3 A7 c8 a0.Shows,rd eTicketBox 4 A10 c11 a0.Boxes,rd intE 1 A13 c14 a1]:=St.fromBaseX S71 S119
   refine tailE [(1,SL A13 a1.length c14),(2,P b16 0),(4,P b19 0),(5,P b22 0),(6,I z_1.1),(78,SL A85 (z_1.2.1++([r38]:List Int)).length c86),(83,SL A104 (y_1.2.2.2.2++([(z_2.2.1,y_2.1,y_2.2)]:List RowH)).length c105),(84,P b22 0)] ⟨((f118 1 rfl rfl).trans (rfl:_=SL A13 a1.length c14)),((f118 2 rfl rfl).trans (rfl:_=P b16 0)),((f118 4 rfl rfl).trans (rfl:_=P b19 0)),((f118 5 rfl rfl).trans (rfl:_=P b22 0)),((f118 6 rfl rfl).trans (rfl:_=I z_1.1)),((f116 78 rfl).trans q89),((f117 83 rfl).trans q109),((f118 84 rfl rfl).trans (rfl:_=P b22 0)),trivial⟩ ?_
   intro g121
   refine p_stP (pre:=[]) (old:=[SL y_1.1 z_1.2.1.length y_1.2.1]) (post:=[SL y_1.2.2.1 y_1.2.2.2.2.length y_1.2.2.2.1]) (vs:=[SL A85 (z_1.2.1++([r38]:List Int)).length c86]) sz30 S120 (i:=5) rfl rfl rfl rfl (rfl:_=SL A85 (z_1.2.1++([r38]:List Int)).length c86) rfl rfl rfl rfl fun w122 S123=>p_fld fl36_1 rfl ?_
   refine p_stP (pre:=[SL A85 (z_1.2.1++([r38]:List Int)).length c86]) (old:=[SL y_1.2.2.1 y_1.2.2.2.2.length y_1.2.2.2.1]) (post:=[]) (vs:=[SL A104 (y_1.2.2.2.2++([(z_2.2.1,y_2.1,y_2.2)]:List RowH)).length c105]) sz34 S123 (i:=5) rfl rfl rfl rfl (rfl:_=SL A104 (y_1.2.2.2.2++([(z_2.2.1,y_2.1,y_2.2)]:List RowH)).length c105) rfl rfl rfl rfl fun w124 S125=>wp_nil<|reg<|p_mI rfl ?_
   refine p_add rfl rfl<|p_aI rfl<|wp_nil ?_
   have S126:=S125.pk [1,3,4,5,6,7] (by decide) [0,1,2,3,4] rfl rfl
   exact ⟨(wr (z_1.1+1),z_1.2.1++([r38]:List Int),z_1.2.2++([z_2.2.1]:List (List Int))),(A85,c86,A104,c105,y_1.2.2.2.2++([(z_2.2.1,y_2.1,y_2.2)]:List RowH)),_,rfl,⟨rfl,rfl,rfl,rfl,rfl,trivial⟩,H,S126⟩
 ·replace H:=condF c35 H
  refine c_exit<|c_seq<|reg<|p_ldA ty36 sz36 (S34.atX (i:=3) rfl) rfl rfl<|p_stP (pre:=[]) (old:=[SL none 0 0,SL none 0 0]) (post:=[]) (vs:=[SL y_1.1 z_1.2.1.length y_1.2.1,SL y_1.2.2.1 y_1.2.2.2.2.length y_1.2.2.2.1]) sz36 S34 (i:=4) rfl rfl rfl rfl (rfl:_=AG [SL y_1.1 z_1.2.1.length y_1.2.1,SL y_1.2.2.1 y_1.2.2.2.2.length y_1.2.2.2.1]) rfl rfl rfl rfl fun w127 S128=>wp_nil ?_
  obtain rfl:=sJ H
  refine c_ret ?_; show bodyPostM (Fr none) 0 Tryd.prog Tryd.f14 _ .ret _ _
  refine ret_of (res1 rfl (rvA rfl ty36 sz36 (S128.atX (i:=4) rfl) rfl)) ?_
  exact ⟨_,rfl,y_1.1,y_1.2.1,y_1.2.2.1,y_1.2.2.2.1,y_1.2.2.2.2,rfl,S128.keep,⟨(gr_rd intE_len (S128.atX (i:=0) rfl)),(New.rd (S128.newX (i:=0) rfl))⟩,⟨(gr_rd rowN_len (S128.atX (i:=2) rfl)),(New.rd (S128.newX (i:=2) rfl))⟩,⟨(rx_ri (S128.atX (i:=1) rfl)),(New.rx (S128.newX (i:=1) rfl))⟩,trivial⟩
def law_paid_l3 (a0:Law10_known) (z_1:Int×Int) (rec_z_1:(Int×Int)→Option Int) (rec_z_2:(Int×Int)→Option Int) (z_2:Int×Int):Option Int:=
 (getI a0.users_ z_1.2).bind fun r23=>
 bif decide (z_2.2 < (r23.length:Int)) then ((getI a0.users_ z_1.2).bind fun r29=>
 (getI r29 z_2.2).bind fun r34=>
 bif decide (r34≥0) then (rec_z_2 (wr (z_2.1 - 1),wr (z_2.2+1)))
 else (rec_z_2 (z_2.1,wr (z_2.2+1))))
 else (rec_z_1 (z_2.1,wr (z_1.2+1)))
def law_paid_l4 (a2:Int) (a0:Law10_known) (rec_z_1:(Int×Int)→Option Int) (z_1:Int×Int):Option Int:=
 bif decide (z_1.2≤a2) then ((getI a0.crossed_ z_1.2).bind fun r17=>
 loopF (law_paid_l3 a0 z_1 rec_z_1) big (wr (z_1.1+r17),0))
 else (some z_1.1)
def law_paid (a0:Law10_known) (a1:Int) (a2:Int):Option Int:=
 loopF (law_paid_l4 a2 a0) big (0,a1)
set_option maxRecDepth 100000 in
theorem law_paid_ok {a0:Law10_known}{a1:Int}{a2:Int}{A1:Option Addr}{c2:Nat}{A4:Option Addr}{c5:Nat}{l6:List RowH}{w:World}{r:Int} (H:law_paid a0 a1 a2=some r) (h3:(rd intE 1 A1 c2 a0.crossed_).ok w) (h7:(rd rowN 1 A4 c5 l6).ok w) (h8:(ri rowI l6 a0.users_).ok w):Calls Tryd.prog 26 #[AG [SL A1 a0.crossed_.length c2,SL A4 l6.length c5],I a1,I a2] w (RetV w (I r)):=by
 unfold law_paid at H
 refine fn_of (n:=45) Tryd.func26 rfl rfl (lE rfl) ?_
 have S:=St.start w nF _ (cA h3 (cA h7 (cA h8 nM)))
 refine c_seq<|reg<|p_boxA rfl S fun b9 w10 S11=>p_aI rfl<|wp_nil<|c_seq<|reg<|p_aI rfl<|wp_nil<|c_seq<|c_seq<|reg<|p_mI rfl<|p_aI rfl<|wp_nil<|c_block ?_
 refine c_lop (α:=Int×Int) (β:=Unit) (law_paid_l4 a2 a0) (fun z_1 y_1=>[(2,I a2),(3,P b9 0),(7,I z_1.1),(8,I z_1.2)]) (fun z_1 y_1 w_=>St w nF w_ [bl b9 [SL A1 a0.crossed_.length c2,SL A4 l6.length c5] 36] [rd intE 1 A1 c2 a0.crossed_,rd rowN 1 A4 c5 l6,ri rowI l6 a0.users_]) (0,a1) () H ⟨rfl,rfl,rfl,rfl,trivial⟩ S11 ?_
 intro m12 z_1 y_1 e13 w14 H S15
 unfold law_paid_l4 at H
 refine c_seq<|c_seq<|reg<|p_mI rfl<|p_mI rfl<|p_cmp rfl rfl rfl<|wp_nil ?_
 refine c_cond rfl (fun c16=>?_) (fun c16=>?_)
 ·replace H:=condT c16 H
  refine c_skip<|c_seq<|c_block<|c_seq<|reg<|p_mI rfl<|p_fld fl36_0 rfl<|p_ld ty30 (S15.atX (i:=0) rfl) rfl rfl<|p_mI rfl ?_
  obtain ⟨r17,h18,H⟩:=bindS H
  refine p_ixE sc30 h18 (S15.atP (i:=0) rfl).1 rfl rfl rfl<|p_ldE ty3 h18 (S15.atP (i:=0) rfl).1 rfl rfl<|p_add rfl rfl<|p_aI rfl<|wp_nil<|c_seq<|reg<|p_aI rfl<|wp_nil<|c_block ?_
  refine c_lop (α:=Int×Int) (β:=Unit) (law_paid_l3 a0 z_1 (loopF (law_paid_l4 a2 a0) m12)) (fun z_2 y_2=>[(2,I a2),(3,P b9 0),(7,I z_2.1),(8,I z_1.2),(9,I z_2.2)]) (fun z_2 y_2 w_=>St w nF w_ [bl b9 [SL A1 a0.crossed_.length c2,SL A4 l6.length c5] 36] [rd intE 1 A1 c2 a0.crossed_,rd rowN 1 A4 c5 l6,ri rowI l6 a0.users_]) (wr (z_1.1+r17),0) () H ⟨rfl,rfl,rfl,rfl,rfl,trivial⟩ S15 ?_
  intro m19 z_2 y_2 e20 w21 H S22
  unfold law_paid_l3 at H
  refine c_seq<|c_seq<|reg<|p_mI rfl<|p_fld fl36_1 rfl<|p_ld ty34 (S22.atX (i:=0) rfl) rfl rfl<|p_mI rfl ?_
  obtain ⟨r23,h24,H⟩:=bindS H
  obtain ⟨d25,h26⟩:=ri_at (S22.atP (i:=2) rfl) h24
  refine p_ixE sc34 h26 (S22.atP (i:=1) rfl).1 rfl rfl rfl<|p_ldE ty30 h26 (S22.atP (i:=1) rfl).1 rfl rfl ?_
  have S27:=S22.riIn (j:=2) (k:=0) rfl h26 rfl
  refine p_len rfl sc30<|p_cmp rfl rfl rfl<|wp_nil ?_
  refine c_cond rfl (fun c28=>?_) (fun c28=>?_)
  ·replace H:=condT c28 H
   refine c_skip<|c_seq<|c_block<|c_seq<|reg<|p_fld fl36_1 rfl<|p_ld ty34 (S27.atX (i:=0) rfl) rfl rfl<|p_mI rfl ?_
   obtain ⟨r29,h30,H⟩:=bindS H
   obtain ⟨d31,h32⟩:=ri_at (S27.atP (i:=3) rfl) h30
   refine p_ixE sc34 h32 (S27.atP (i:=2) rfl).1 rfl rfl rfl<|p_ldE ty30 h32 (S27.atP (i:=2) rfl).1 rfl rfl ?_
   have S33:=S27.riIn (j:=3) (k:=0) rfl h32 rfl
   refine p_mI rfl ?_
   obtain ⟨r34,h35,H⟩:=bindS H
   refine p_ixE sc30 h35 (S33.atP (i:=0) rfl).1 rfl rfl rfl<|p_ldE ty3 h35 (S33.atP (i:=0) rfl).1 rfl rfl<|p_cmp rfl rfl rfl<|wp_nil ?_
   refine c_cond rfl (fun c36=>?_) (fun c36=>?_)
   ·replace H:=condT c36 H
    refine reg<|p_mI rfl<|p_sub rfl rfl<|p_aI rfl<|wp_nil<|reg<|p_mI rfl<|p_add rfl rfl<|p_aI rfl<|wp_nil ?_
    have S37:=S33.pk [0] (by decide) [2,3,4] rfl rfl
    exact ⟨(wr (z_2.1 - 1),wr (z_2.2+1)),(),_,rfl,⟨rfl,rfl,rfl,rfl,rfl,trivial⟩,H,S37⟩
   ·replace H:=condF c36 H
    refine c_skip<|reg<|p_mI rfl<|p_add rfl rfl<|p_aI rfl<|wp_nil ?_
    have S38:=S33.pk [0] (by decide) [2,3,4] rfl rfl
    exact ⟨(z_2.1,wr (z_2.2+1)),(),_,rfl,⟨rfl,rfl,rfl,rfl,rfl,trivial⟩,H,S38⟩
  ·replace H:=condF c28 H
   refine c_exit<|reg<|p_mI rfl<|p_add rfl rfl<|p_aI rfl<|wp_nil ?_
   have S39:=S27.pk [0] (by decide) [1,2,3] rfl rfl
   exact ⟨(z_2.1,wr (z_1.2+1)),(),_,rfl,⟨rfl,rfl,rfl,rfl,trivial⟩,H,S39⟩
 ·replace H:=condF c16 H
  refine c_exit<|c_seq<|reg<|p_mI rfl<|p_aI rfl<|wp_nil ?_
  obtain rfl:=sJ H
  exact c_ret (rT Tryd.f26 S15.keep rfl rfl)
def law_rightly_l15 (r47:TallyCount) (a1:Law10_known) (z_1:Int×(List TallyCount)) (rec_z_1:(Int×(List TallyCount))→Option TicketBook) (rec_z_2:(Int×Int)→Option TicketBook) (z_2:Int×Int):Option TicketBook:=
 bif decide (z_2.1≤r47.To) then ((getI a1.crossed_ z_2.1).bind fun r63=>
 rec_z_2 (wr (z_2.1+1),wr (z_2.2+r63)))
 else (need (fitsL (z_1.2.length+([(TallyCount.mk r47.Who r47.From r47.To z_2.2 1 r47.Under r47.Over)]:List TallyCount).length) 56)<|
 rec_z_1 (wr (z_1.1+1),z_1.2++([(TallyCount.mk r47.Who r47.From r47.To z_2.2 1 r47.Under r47.Over)]:List TallyCount)))
def law_rightly_l16 (a0:TicketBook) (a1:Law10_known) (z_1:Int×(List TallyCount)) (z_3:Int×(List TicketShow)) (rec_z_4:(Int×(List TicketBox))→Option TicketBook) (z_4:Int×(List TicketBox)):Option TicketBook:=
 bif decide (z_4.1 < (a0.Boxes.length:Int)) then ((getI a0.Boxes z_4.1).bind fun r129=>
 (law_paid a1 r129.From r129.To).bind fun r136=>
 need (2 != 0)<|
 need (fitsL (z_4.2.length+([(TicketBox.mk r129.From r129.To (if (wr ((wr (a0.Fare*r136)) - (divI r129.Lost 2))) > 0 then (wr ((wr (a0.Fare*r136)) - (divI r129.Lost 2))) else 0) r129.Lost)]:List TicketBox).length) 32)<|
 rec_z_4 (wr (z_4.1+1),z_4.2++([(TicketBox.mk r129.From r129.To (if (wr ((wr (a0.Fare*r136)) - (divI r129.Lost 2))) > 0 then (wr ((wr (a0.Fare*r136)) - (divI r129.Lost 2))) else 0) r129.Lost)]:List TicketBox)))
 else (some (TicketBook.mk (TallyBook.mk a0.Tally.Trips a0.Tally.Room z_1.2) a0.Fare a0.Tickets z_3.2 z_4.2))
def law_rightly_l17 (a0:TicketBook) (a1:Law10_known) (z_1:Int×(List TallyCount)) (rec_z_3:(Int×(List TicketShow))→Option TicketBook) (z_3:Int×(List TicketShow)):Option TicketBook:=
 bif decide (z_3.1 < (a0.Shows.length:Int)) then ((getI a0.Shows z_3.1).bind fun r89=>
 (getI a1.users_ r89.Trip).bind fun r96=>
 (getI r96 r89.Ticket).bind fun r101=>
 bif decide (r101≥0) then (need (fitsL (z_3.2.length+([(TicketShow.mk r89.Trip r89.Ticket r101)]:List TicketShow).length) 24)<|
 rec_z_3 (wr (z_3.1+1),z_3.2++([(TicketShow.mk r89.Trip r89.Ticket r101)]:List TicketShow)))
 else (rec_z_3 (wr (z_3.1+1),z_3.2)))
 else (loopF (law_rightly_l16 a0 a1 z_1 z_3) big (0,([]:List TicketBox)))
def law_rightly_l18 (a0:TicketBook) (a1:Law10_known) (rec_z_1:(Int×(List TallyCount))→Option TicketBook) (z_1:Int×(List TallyCount)):Option TicketBook:=
 bif decide (z_1.1 < (a0.Tally.Counts.length:Int)) then ((getI a0.Tally.Counts z_1.1).bind fun r47=>
 loopF (law_rightly_l15 r47 a1 z_1 rec_z_1) big (r47.From,0))
 else (loopF (law_rightly_l17 a0 a1 z_1) big (0,([]:List TicketShow)))
def law_rightly (a0:TicketBook) (a1:Law10_known):Option TicketBook:=
 loopF (law_rightly_l18 a0 a1) big (0,([]:List TallyCount))
set_option maxRecDepth 100000 in
theorem law_rightly_ok {a0:TicketBook}{a1:Law10_known}{A1:Option Addr}{c2:Nat}{A4:Option Addr}{c5:Nat}{A7:Option Addr}{c8:Nat}{A10:Option Addr}{c11:Nat}{A13:Option Addr}{c14:Nat}{A16:Option Addr}{c17:Nat}{l18:List RowH}{w:World}{r:TicketBook} (H:law_rightly a0 a1=some r) (h3:(rd eTallyCount 7 A1 c2 a0.Tally.Counts).ok w) (h6:(rd eTicketSeason 2 A4 c5 a0.Tickets).ok w) (h9:(rd eTicketShow 3 A7 c8 a0.Shows).ok w) (h12:(rd eTicketBox 4 A10 c11 a0.Boxes).ok w) (h15:(rd intE 1 A13 c14 a1.crossed_).ok w) (h19:(rd rowN 1 A16 c17 l18).ok w) (h20:(ri rowI l18 a1.users_).ok w):Calls Tryd.prog 15 #[AG (vB a0 A1 c2 A4 c5 A7 c8 A10 c11),AG [SL A13 a1.crossed_.length c14,SL A16 l18.length c17]] w fun en w_=>∃ u_,en=.returned u_∧∃ A_1:Option Addr,∃ c_2:Nat,∃ A_3:Option Addr,∃ c_4:Nat,∃ A_5:Option Addr,∃ c_6:Nat,u_=AG [I r.Tally.Trips,I r.Tally.Room,SL A_1 r.Tally.Counts.length c_2,I r.Fare,SL A4 a0.Tickets.length c5,SL A_3 r.Shows.length c_4,SL A_5 r.Boxes.length c_6]∧Keep0 w w_∧((rd eTallyCount 7 A_1 c_2 r.Tally.Counts).ok w_∧New w.heap.size (rd eTallyCount 7 A_1 c_2 r.Tally.Counts))∧((rd eTicketShow 3 A_3 c_4 r.Shows).ok w_∧New w.heap.size (rd eTicketShow 3 A_3 c_4 r.Shows))∧((rd eTicketBox 4 A_5 c_6 r.Boxes).ok w_∧New w.heap.size (rd eTicketBox 4 A_5 c_6 r.Boxes))∧True:=by
 unfold law_rightly at H
 refine fn_of (n:=125) Tryd.func15 rfl rfl (lE rfl) ?_
 have S:=St.start w nF _ (cA h3 (cA h6 (cA h9 (cA h12 (cA h15 (cA h19 (cA h20 nM)))))))
 refine c_seq<|reg<|p_boxA rfl S fun b21 w22 S23=>p_boxA rfl S23 fun b24 w25 S26=>p_allA in29 S26 fun b27 w28 S29=>wp_nil<|c_seq<|reg<|p_ldA ty29 sz29 (S29.atX (i:=2) rfl) rfl rfl<|p_allA in29 S29 fun b30 w31 S32=>?_
 refine p_stP (pre:=[]) (old:=[I 0,I 0,SL none 0 0,I 0,SL none 0 0,SL none 0 0,SL none 0 0]) (post:=[]) (vs:=(vB a0 A1 c2 A4 c5 A7 c8 A10 c11)) sz29 S32 (i:=0) rfl rfl rfl rfl (rfl:_=AG (vB a0 A1 c2 A4 c5 A7 c8 A10 c11)) rfl rfl rfl rfl fun w33 S34=>?_
 refine wp_nil<|c_seq<|reg<|p_fld fl29_0 rfl<|p_fld fl24_2 rfl<|p_stP (pre:=[I a0.Tally.Trips,I a0.Tally.Room]) (old:=[SL A1 a0.Tally.Counts.length c2]) (post:=[I a0.Fare,SL A4 a0.Tickets.length c5,SL A7 a0.Shows.length c8,SL A10 a0.Boxes.length c11]) (vs:=[SL none 0 0]) sz22 S34 (i:=0) rfl rfl rfl rfl (rfl:_=SL none 0 0) rfl rfl rfl rfl fun w35 S36=>p_fld fl29_3 rfl ?_
 refine p_stP (pre:=[I a0.Tally.Trips,I a0.Tally.Room,SL none 0 0,I a0.Fare,SL A4 a0.Tickets.length c5]) (old:=[SL A7 a0.Shows.length c8]) (post:=[SL A10 a0.Boxes.length c11]) (vs:=[SL none 0 0]) sz26 S36 (i:=0) rfl rfl rfl rfl (rfl:_=SL none 0 0) rfl rfl rfl rfl fun w37 S38=>p_fld fl29_4 rfl ?_
 refine p_stP (pre:=[I a0.Tally.Trips,I a0.Tally.Room,SL none 0 0,I a0.Fare,SL A4 a0.Tickets.length c5,SL none 0 0]) (old:=[SL A10 a0.Boxes.length c11]) (post:=[]) (vs:=[SL none 0 0]) sz27 S38 (i:=0) rfl rfl rfl rfl (rfl:_=SL none 0 0) rfl rfl rfl rfl fun w39 S40=>wp_nil<|c_seq<|c_seq<|reg<|p_aI rfl<|wp_nil<|c_block ?_
 have S41:=S40.nilRow eTallyCount 7 81
 refine c_lop (α:=Int×(List TallyCount)) (β:=(Option Addr)×Nat) (law_rightly_l18 a0 a1) (fun z_1 y_1=>[(2,P b21 0),(3,P b24 0),(4,P b27 0),(5,P b30 0),(6,I z_1.1)]) (fun z_1 y_1 w_=>St w nF w_ [gr eTallyCount 7 81 y_1.1 y_1.2 z_1.2,bl b30 [I a0.Tally.Trips,I a0.Tally.Room,SL y_1.1 z_1.2.length y_1.2,I a0.Fare,SL A4 a0.Tickets.length c5,SL none 0 0,SL none 0 0] 29,bl b27 [I 0,I 0,SL none 0 0,I 0,SL none 0 0,SL none 0 0,SL none 0 0] 29,bl b24 [SL A13 a1.crossed_.length c14,SL A16 l18.length c17] 36,bl b21 (vB a0 A1 c2 A4 c5 A7 c8 A10 c11) 29] [rd eTallyCount 7 A1 c2 a0.Tally.Counts,rd eTicketSeason 2 A4 c5 a0.Tickets,rd eTicketShow 3 A7 c8 a0.Shows,rd eTicketBox 4 A10 c11 a0.Boxes,rd intE 1 A13 c14 a1.crossed_,rd rowN 1 A16 c17 l18,ri rowI l18 a1.users_]) (0,([]:List TallyCount)) (none,0) H ⟨rfl,rfl,rfl,rfl,rfl,trivial⟩ S41 ?_
 intro m42 z_1 y_1 e43 w44 H S45
 unfold law_rightly_l18 at H
 refine c_seq<|c_seq<|reg<|p_mI rfl<|p_fld fl29_0 rfl<|p_fld fl24_2 rfl<|p_ld ty22 (S45.atX (i:=4) rfl) rfl rfl<|p_len rfl sc22<|p_cmp rfl rfl rfl<|wp_nil ?_
 refine c_cond rfl (fun c46=>?_) (fun c46=>?_)
 ·replace H:=condT c46 H
  refine c_skip<|c_seq<|c_block<|c_seq<|reg<|p_fld fl29_0 rfl<|p_fld fl24_2 rfl<|p_ld ty22 (S45.atX (i:=4) rfl) rfl rfl<|p_mI rfl ?_
  obtain ⟨r47,h48,H⟩:=bindS H
  refine p_ixE sc22 h48 (S45.atP (i:=0) rfl).1 rfl rfl rfl<|p_ldEA ty81 sz81 rfl h48 (S45.atP (i:=0) rfl).1 rfl<|p_allA in81 S45 fun b49 w50 S51=>?_
  refine p_stP (pre:=[]) (old:=[I 0,I 0,I 0,I 0,I 0,I 0,I 0]) (post:=[]) (vs:=[I r47.Who,I r47.From,I r47.To,I r47.Told,I r47.Unit,I r47.Under,I r47.Over]) sz81 S51 (i:=0) rfl rfl rfl rfl (rfl:_=AG [I r47.Who,I r47.From,I r47.To,I r47.Told,I r47.Unit,I r47.Under,I r47.Over]) rfl rfl rfl rfl fun w52 S53=>wp_nil<|c_seq<|reg<|p_fld fl81_4 rfl ?_
  refine p_stP (pre:=[I r47.Who,I r47.From,I r47.To,I r47.Told]) (old:=[I r47.Unit]) (post:=[I r47.Under,I r47.Over]) (vs:=[I 1]) sz3 S53 (i:=0) rfl rfl rfl rfl (rfl:_=I 1) rfl rfl rfl rfl fun w54 S55=>p_fld fl81_3 rfl ?_
  refine p_stP (pre:=[I r47.Who,I r47.From,I r47.To]) (old:=[I r47.Told]) (post:=[I 1,I r47.Under,I r47.Over]) (vs:=[I 0]) sz3 S55 (i:=0) rfl rfl rfl rfl (rfl:_=I 0) rfl rfl rfl rfl fun w56 S57=>wp_nil<|c_seq<|c_seq<|reg<|p_fld fl81_1 rfl<|p_ld ty3 (S57.atX (i:=0) rfl) rfl rfl<|p_aI rfl<|wp_nil<|c_block ?_
  refine c_lop (α:=Int×Int) (β:=Unit) (law_rightly_l15 r47 a1 z_1 (loopF (law_rightly_l18 a0 a1) m42)) (fun z_2 y_2=>[(2,P b21 0),(3,P b24 0),(4,P b27 0),(5,P b30 0),(6,I z_1.1),(7,P b49 0),(8,I z_2.1)]) (fun z_2 y_2 w_=>St w nF w_ [bl b49 [I r47.Who,I r47.From,I r47.To,I z_2.2,I 1,I r47.Under,I r47.Over] 81,gr eTallyCount 7 81 y_1.1 y_1.2 z_1.2,bl b30 [I a0.Tally.Trips,I a0.Tally.Room,SL y_1.1 z_1.2.length y_1.2,I a0.Fare,SL A4 a0.Tickets.length c5,SL none 0 0,SL none 0 0] 29,bl b27 [I 0,I 0,SL none 0 0,I 0,SL none 0 0,SL none 0 0,SL none 0 0] 29,bl b24 [SL A13 a1.crossed_.length c14,SL A16 l18.length c17] 36,bl b21 (vB a0 A1 c2 A4 c5 A7 c8 A10 c11) 29] [rd eTallyCount 7 A1 c2 a0.Tally.Counts,rd eTicketSeason 2 A4 c5 a0.Tickets,rd eTicketShow 3 A7 c8 a0.Shows,rd eTicketBox 4 A10 c11 a0.Boxes,rd intE 1 A13 c14 a1.crossed_,rd rowN 1 A16 c17 l18,ri rowI l18 a1.users_]) (r47.From,0) () H ⟨rfl,rfl,rfl,rfl,rfl,rfl,rfl,trivial⟩ S57 ?_
  intro m58 z_2 y_2 e59 w60 H S61
  unfold law_rightly_l15 at H
  refine c_seq<|c_seq<|reg<|p_mI rfl<|p_fld fl81_2 rfl<|p_ld ty3 (S61.atX (i:=0) rfl) rfl rfl<|p_cmp rfl rfl rfl<|wp_nil ?_
  refine c_cond rfl (fun c62=>?_) (fun c62=>?_)
  ·replace H:=condT c62 H
   refine c_skip<|c_seq<|c_block ?_
   obtain ⟨r63,h64,H⟩:=bindS H
   refine reg_q mixed 9 (by kernel_rfl) ?_
   refine dS (fun _ k_=>p_fld fl81_3 rfl dn)<|dS (fun _ k_=>p_ld ty3 (aS (S61.atX (i:=0) rfl) k_) rfl rfl dn)<|dS (fun _ k_=>p_fld fl36_0 rfl dn)<|dS (fun _ k_=>p_ld ty30 (aS (S61.atX (i:=4) rfl) k_) rfl rfl dn)<|dS (fun _ k_=>p_mI rfl dn)<|dS (fun _ k_=>p_ixE sc30 h64 (aS (S61.atP (i:=4) rfl) k_).1 rfl rfl rfl dn) ?_
   refine dS (fun _ k_=>p_ldE ty3 h64 (aS (S61.atP (i:=4) rfl) k_).1 rfl rfl dn)<|dS (fun _ k_=>p_add rfl rfl dn)<|dS (fun _ k_=>p_fld fl81_3 rfl dn) ?_
   intro w65 k66; have S67:=S61.call k66
   refine p_stP (pre:=[I r47.Who,I r47.From,I r47.To]) (old:=[I z_2.2]) (post:=[I 1,I r47.Under,I r47.Over]) (vs:=[I (wr (z_2.2+r63))]) sz3 S67 (i:=0) rfl rfl rfl rfl (rfl:_=I (wr (z_2.2+r63))) rfl rfl rfl rfl fun w68 S69=>wp_nil<|reg<|p_mI rfl<|p_add rfl rfl<|p_aI rfl<|wp_nil ?_
   exact ⟨(wr (z_2.1+1),wr (z_2.2+r63)),(),_,rfl,⟨rfl,rfl,rfl,rfl,rfl,rfl,rfl,trivial⟩,H,S69⟩
  ·replace H:=condF c62 H
   refine c_exit<|reg<|p_fld fl29_0 rfl<|p_fld fl24_2 rfl<|p_ld ty22 (S61.atX (i:=2) rfl) rfl rfl<|p_ldA ty81 sz81 (S61.atX (i:=0) rfl) rfl rfl<|p_bsl (enc:=eTallyCount) (l:=([(TallyCount.mk r47.Who r47.From r47.To z_2.2 1 r47.Under r47.Over)]:List TallyCount)) (fun x=>AG (eTallyCount x)) (fun _=>rfl) sc22 in81 eTallyCount_len rfl (by decide) (by decide) zr81_1 S61 rfl fun A70 c71 w72 S73=>?_
   obtain ⟨h79,H⟩:=needS H
   refine p_app (enc:=eTallyCount) sc22 in81 rfl eTallyCount_len eTallyCount_one (by decide) S73 (k:=2) rfl (gr_sl eTallyCount_len (S73.atX (i:=0) rfl)) h79 (by simp) rfl rfl fun A77 c78 w75 S76=>p_fld fl29_0 rfl<|p_fld fl24_2 rfl ?_
   refine p_stP (pre:=[I a0.Tally.Trips,I a0.Tally.Room]) (old:=[SL y_1.1 z_1.2.length y_1.2]) (post:=[I a0.Fare,SL A4 a0.Tickets.length c5,SL none 0 0,SL none 0 0]) (vs:=[SL A77 (z_1.2++([(TallyCount.mk r47.Who r47.From r47.To z_2.2 1 r47.Under r47.Over)]:List TallyCount)).length c78]) sz22 S76 (i:=3) rfl rfl rfl rfl (rfl:_=SL A77 (z_1.2++([(TallyCount.mk r47.Who r47.From r47.To z_2.2 1 r47.Under r47.Over)]:List TallyCount)).length c78) rfl rfl rfl rfl fun w80 S81=>?_
   refine wp_nil<|reg<|p_mI rfl<|p_add rfl rfl<|p_aI rfl<|wp_nil ?_
   have S82:=S81.pk [2,3,4,5,6] (by decide) [0,1,2,3,4,5,6] rfl rfl
   exact ⟨(wr (z_1.1+1),z_1.2++([(TallyCount.mk r47.Who r47.From r47.To z_2.2 1 r47.Under r47.Over)]:List TallyCount)),(A77,c78),_,rfl,⟨rfl,rfl,rfl,rfl,rfl,trivial⟩,H,S82⟩
 ·replace H:=condF c46 H
  refine c_exit<|c_seq<|c_seq<|reg<|p_aI rfl<|wp_nil<|c_block ?_
  have S83:=S45.nilRow eTicketShow 3 67
  refine c_lop (α:=Int×(List TicketShow)) (β:=(Option Addr)×Nat) (law_rightly_l17 a0 a1 z_1) (fun z_3 y_3=>[(2,P b21 0),(3,P b24 0),(4,P b27 0),(5,P b30 0),(9,I z_3.1)]) (fun z_3 y_3 w_=>St w nF w_ [gr eTicketShow 3 67 y_3.1 y_3.2 z_3.2,gr eTallyCount 7 81 y_1.1 y_1.2 z_1.2,bl b30 [I a0.Tally.Trips,I a0.Tally.Room,SL y_1.1 z_1.2.length y_1.2,I a0.Fare,SL A4 a0.Tickets.length c5,SL y_3.1 z_3.2.length y_3.2,SL none 0 0] 29,bl b27 [I 0,I 0,SL none 0 0,I 0,SL none 0 0,SL none 0 0,SL none 0 0] 29,bl b24 [SL A13 a1.crossed_.length c14,SL A16 l18.length c17] 36,bl b21 (vB a0 A1 c2 A4 c5 A7 c8 A10 c11) 29] [rd eTallyCount 7 A1 c2 a0.Tally.Counts,rd eTicketSeason 2 A4 c5 a0.Tickets,rd eTicketShow 3 A7 c8 a0.Shows,rd eTicketBox 4 A10 c11 a0.Boxes,rd intE 1 A13 c14 a1.crossed_,rd rowN 1 A16 c17 l18,ri rowI l18 a1.users_]) (0,([]:List TicketShow)) (none,0) H ⟨rfl,rfl,rfl,rfl,rfl,trivial⟩ S83 ?_
  intro m84 z_3 y_3 e85 w86 H S87
  unfold law_rightly_l17 at H
  refine c_seq<|c_seq<|reg<|p_mI rfl<|p_fld fl29_3 rfl<|p_ld ty26 (S87.atX (i:=5) rfl) rfl rfl<|p_len rfl sc26<|p_cmp rfl rfl rfl<|wp_nil ?_
  refine c_cond rfl (fun c88=>?_) (fun c88=>?_)
  ·replace H:=condT c88 H
   refine c_skip<|c_seq<|c_block<|c_seq<|reg<|p_fld fl29_3 rfl<|p_ld ty26 (S87.atX (i:=5) rfl) rfl rfl<|p_mI rfl ?_
   obtain ⟨r89,h90,H⟩:=bindS H
   refine p_ixE sc26 h90 (S87.atP (i:=2) rfl).1 rfl rfl rfl<|p_ldEA ty67 sz67 rfl h90 (S87.atP (i:=2) rfl).1 rfl<|p_allA in67 S87 fun b91 w92 S93=>p_stP (pre:=[]) (old:=[I 0,I 0,I 0]) (post:=[]) (vs:=[I r89.Trip,I r89.Ticket,I r89.Walker]) sz67 S93 (i:=0) rfl rfl rfl rfl (rfl:_=AG [I r89.Trip,I r89.Ticket,I r89.Walker]) rfl rfl rfl rfl fun w94 S95=>wp_nil<|c_seq ?_
   obtain ⟨r96,h97,H⟩:=bindS H
   obtain ⟨d98,h99⟩:=ri_at (S95.atP (i:=6) rfl) h97
   have S100:=S95.riIn (j:=6) (k:=0) rfl h99 rfl
   obtain ⟨r101,h102,H⟩:=bindS H
   refine reg_q mixed 11 (by kernel_rfl) ?_
   refine dS (fun _ k_=>p_fld fl36_1 rfl dn)<|dS (fun _ k_=>p_ld ty34 (aS (S95.atX (i:=5) rfl) k_) rfl rfl dn)<|dS (fun _ k_=>p_fld fl67_0 rfl dn)<|dS (fun _ k_=>p_ld ty3 (aS (S95.atX (i:=0) rfl) k_) rfl rfl dn)<|dS (fun _ k_=>p_ixE sc34 h99 (aS (S95.atP (i:=5) rfl) k_).1 rfl rfl rfl dn)<|dS (fun _ k_=>p_ldE ty30 h99 (aS (S95.atP (i:=5) rfl) k_).1 rfl rfl dn) ?_
   refine dS (fun _ k_=>p_fld fl67_1 rfl dn)<|dS (fun _ k_=>p_ld ty3 (aS (S100.atX (i:=0) rfl) k_) rfl rfl dn)<|dS (fun _ k_=>p_ixE sc30 h102 (aS (S100.atP (i:=0) rfl) k_).1 rfl rfl rfl dn)<|dS (fun _ k_=>p_ldE ty3 h102 (aS (S100.atP (i:=0) rfl) k_).1 rfl rfl dn)<|dS (fun _ k_=>p_fld fl67_2 rfl dn) ?_
   intro w103 k104; have S105:=S100.call k104
   refine p_stP (pre:=[I r89.Trip,I r89.Ticket]) (old:=[I r89.Walker]) (post:=[]) (vs:=[I r101]) sz3 S105 (i:=0) rfl rfl rfl rfl (rfl:_=I r101) rfl rfl rfl rfl fun w106 S107=>wp_nil<|c_seq<|reg<|p_fld fl67_2 rfl<|p_ld ty3 (S107.atX (i:=0) rfl) rfl rfl<|p_cmp rfl rfl rfl<|wp_nil ?_
   refine c_cond rfl (fun c108=>?_) (fun c108=>?_)
   ·replace H:=condT c108 H
    refine reg<|p_fld fl29_3 rfl<|p_ld ty26 (S107.atX (i:=3) rfl) rfl rfl<|p_ldA ty67 sz67 (S107.atX (i:=0) rfl) rfl rfl<|p_bsl (enc:=eTicketShow) (l:=([(TicketShow.mk r89.Trip r89.Ticket r101)]:List TicketShow)) (fun x=>AG (eTicketShow x)) (fun _=>rfl) sc26 in67 eTicketShow_len rfl (by decide) (by decide) zr67_1 S107 rfl fun A109 c110 w111 S112=>?_
    obtain ⟨h118,H⟩:=needS H
    refine p_app (enc:=eTicketShow) sc26 in67 rfl eTicketShow_len eTicketShow_one (by decide) S112 (k:=2) rfl (gr_sl eTicketShow_len (S112.atX (i:=0) rfl)) h118 (by simp) rfl rfl fun A116 c117 w114 S115=>p_fld fl29_3 rfl ?_
    refine p_stP (pre:=[I a0.Tally.Trips,I a0.Tally.Room,SL y_1.1 z_1.2.length y_1.2,I a0.Fare,SL A4 a0.Tickets.length c5]) (old:=[SL y_3.1 z_3.2.length y_3.2]) (post:=[SL none 0 0]) (vs:=[SL A116 (z_3.2++([(TicketShow.mk r89.Trip r89.Ticket r101)]:List TicketShow)).length c117]) sz26 S115 (i:=4) rfl rfl rfl rfl (rfl:_=SL A116 (z_3.2++([(TicketShow.mk r89.Trip r89.Ticket r101)]:List TicketShow)).length c117) rfl rfl rfl rfl fun w119 S120=>?_
    refine wp_nil<|reg<|p_mI rfl<|p_add rfl rfl<|p_aI rfl<|wp_nil ?_
    have S121:=S120.pk [2,3,4,5,6,7] (by decide) [1,2,3,4,5,6,7] rfl rfl
    exact ⟨(wr (z_3.1+1),z_3.2++([(TicketShow.mk r89.Trip r89.Ticket r101)]:List TicketShow)),(A116,c117),_,rfl,⟨rfl,rfl,rfl,rfl,rfl,trivial⟩,H,S121⟩
   ·replace H:=condF c108 H
    refine c_skip<|reg<|p_mI rfl<|p_add rfl rfl<|p_aI rfl<|wp_nil ?_
    have S122:=S107.pk [1,2,3,4,5,6] (by decide) [1,2,3,4,5,6,7] rfl rfl
    exact ⟨(wr (z_3.1+1),z_3.2),(y_3.1,y_3.2),_,rfl,⟨rfl,rfl,rfl,rfl,rfl,trivial⟩,H,S122⟩
  ·replace H:=condF c88 H
   refine c_exit<|c_seq<|c_seq<|reg<|p_aI rfl<|wp_nil<|c_block ?_
   have S123:=S87.nilRow eTicketBox 4 72
   refine c_lop (α:=Int×(List TicketBox)) (β:=(Option Addr)×Nat) (law_rightly_l16 a0 a1 z_1 z_3) (fun z_4 y_4=>[(2,P b21 0),(3,P b24 0),(4,P b27 0),(5,P b30 0),(11,I z_4.1)]) (fun z_4 y_4 w_=>St w nF w_ [gr eTicketBox 4 72 y_4.1 y_4.2 z_4.2,gr eTicketShow 3 67 y_3.1 y_3.2 z_3.2,gr eTallyCount 7 81 y_1.1 y_1.2 z_1.2,bl b30 [I a0.Tally.Trips,I a0.Tally.Room,SL y_1.1 z_1.2.length y_1.2,I a0.Fare,SL A4 a0.Tickets.length c5,SL y_3.1 z_3.2.length y_3.2,SL y_4.1 z_4.2.length y_4.2] 29,bl b27 [I 0,I 0,SL none 0 0,I 0,SL none 0 0,SL none 0 0,SL none 0 0] 29,bl b24 [SL A13 a1.crossed_.length c14,SL A16 l18.length c17] 36,bl b21 (vB a0 A1 c2 A4 c5 A7 c8 A10 c11) 29] [rd eTallyCount 7 A1 c2 a0.Tally.Counts,rd eTicketSeason 2 A4 c5 a0.Tickets,rd eTicketShow 3 A7 c8 a0.Shows,rd eTicketBox 4 A10 c11 a0.Boxes,rd intE 1 A13 c14 a1.crossed_,rd rowN 1 A16 c17 l18,ri rowI l18 a1.users_]) (0,([]:List TicketBox)) (none,0) H ⟨rfl,rfl,rfl,rfl,rfl,trivial⟩ S123 ?_
   intro m124 z_4 y_4 e125 w126 H S127
   unfold law_rightly_l16 at H
   refine c_seq<|c_seq<|reg<|p_mI rfl<|p_fld fl29_4 rfl<|p_ld ty27 (S127.atX (i:=6) rfl) rfl rfl<|p_len rfl sc27<|p_cmp rfl rfl rfl<|wp_nil ?_
   refine c_cond rfl (fun c128=>?_) (fun c128=>?_)
   ·replace H:=condT c128 H
    refine c_skip<|c_seq<|c_block<|c_seq<|reg<|p_fld fl29_4 rfl<|p_ld ty27 (S127.atX (i:=6) rfl) rfl rfl<|p_mI rfl ?_
    obtain ⟨r129,h130,H⟩:=bindS H
    refine p_ixE sc27 h130 (S127.atP (i:=3) rfl).1 rfl rfl rfl<|p_ldEA ty72 sz72 rfl h130 (S127.atP (i:=3) rfl).1 rfl<|p_allA in72 S127 fun b131 w132 S133=>?_
    refine p_stP (pre:=[]) (old:=[I 0,I 0,I 0,I 0]) (post:=[]) (vs:=[I r129.From,I r129.To,I r129.Pence,I r129.Lost]) sz72 S133 (i:=0) rfl rfl rfl rfl (rfl:_=AG [I r129.From,I r129.To,I r129.Pence,I r129.Lost]) rfl rfl rfl rfl fun w134 S135=>wp_nil<|c_seq ?_
    obtain ⟨r136,h137,H⟩:=bindS H
    obtain ⟨h138,H⟩:=needS H
    refine reg_q mixed 15 (by kernel_rfl) ?_
    refine dS (fun _ k_=>p_fld fl29_1 rfl dn)<|dS (fun _ k_=>p_ld ty3 (aS (S135.atX (i:=7) rfl) k_) rfl rfl dn)<|dS (fun _ k_=>p_ldA ty36 sz36 (aS (S135.atX (i:=6) rfl) k_) rfl rfl dn)<|dS (fun _ k_=>p_fld fl72_0 rfl dn)<|dS (fun _ k_=>p_ld ty3 (aS (S135.atX (i:=0) rfl) k_) rfl rfl dn)<|dS (fun _ k_=>p_fld fl72_1 rfl dn) ?_
    refine dS (fun _ k_=>p_ld ty3 (aS (S135.atX (i:=0) rfl) k_) rfl rfl dn)<|dS (fun _ k_=>p_cvD (law_paid_ok h137 (aS (S135.atP (i:=4) rfl) k_) (aS (S135.atP (i:=5) rfl) k_) (aS (S135.atP (i:=6) rfl) k_)) fu26 rfl)<|dS (fun _ k_=>p_mul rfl rfl dn)<|dS (fun _ k_=>p_fld fl72_3 rfl dn)<|dS (fun _ k_=>p_ld ty3 (aS (S135.atX (i:=0) rfl) k_) rfl rfl dn) ?_
    refine dS (fun _ k_=>p_quo h138 rfl rfl dn)<|dS (fun _ k_=>p_sub rfl rfl dn)<|dS (fun _ k_=>p_max rfl rfl dn)<|dS (fun _ k_=>p_fld fl72_2 rfl dn) ?_
    intro w139 k140; have S141:=S135.call k140
    refine p_stP (pre:=[I r129.From,I r129.To]) (old:=[I r129.Pence]) (post:=[I r129.Lost]) (vs:=[I (if (wr ((wr (a0.Fare*r136)) - (divI r129.Lost 2))) > 0 then (wr ((wr (a0.Fare*r136)) - (divI r129.Lost 2))) else 0)]) sz3 S141 (i:=0) rfl rfl rfl rfl (rfl:_=I (if (wr ((wr (a0.Fare*r136)) - (divI r129.Lost 2))) > 0 then (wr ((wr (a0.Fare*r136)) - (divI r129.Lost 2))) else 0)) rfl rfl rfl rfl fun w142 S143=>?_
    refine wp_nil<|reg<|p_fld fl29_4 rfl<|p_ld ty27 (S143.atX (i:=4) rfl) rfl rfl<|p_ldA ty72 sz72 (S143.atX (i:=0) rfl) rfl rfl ?_
    refine p_bsl (enc:=eTicketBox) (l:=([(TicketBox.mk r129.From r129.To (if (wr ((wr (a0.Fare*r136)) - (divI r129.Lost 2))) > 0 then (wr ((wr (a0.Fare*r136)) - (divI r129.Lost 2))) else 0) r129.Lost)]:List TicketBox)) (fun x=>AG (eTicketBox x)) (fun _=>rfl) sc27 in72 eTicketBox_len rfl (by decide) (by decide) zr72_1 S143 rfl fun A144 c145 w146 S147=>?_
    obtain ⟨h153,H⟩:=needS H
    refine p_app (enc:=eTicketBox) sc27 in72 rfl eTicketBox_len eTicketBox_one (by decide) S147 (k:=2) rfl (gr_sl eTicketBox_len (S147.atX (i:=0) rfl)) h153 (by simp) rfl rfl fun A151 c152 w149 S150=>p_fld fl29_4 rfl ?_
    refine p_stP (pre:=[I a0.Tally.Trips,I a0.Tally.Room,SL y_1.1 z_1.2.length y_1.2,I a0.Fare,SL A4 a0.Tickets.length c5,SL y_3.1 z_3.2.length y_3.2]) (old:=[SL y_4.1 z_4.2.length y_4.2]) (post:=[]) (vs:=[SL A151 (z_4.2++([(TicketBox.mk r129.From r129.To (if (wr ((wr (a0.Fare*r136)) - (divI r129.Lost 2))) > 0 then (wr ((wr (a0.Fare*r136)) - (divI r129.Lost 2))) else 0) r129.Lost)]:List TicketBox)).length c152]) sz27 S150 (i:=5) rfl rfl rfl rfl (rfl:_=SL A151 (z_4.2++([(TicketBox.mk r129.From r129.To (if (wr ((wr (a0.Fare*r136)) - (divI r129.Lost 2))) > 0 then (wr ((wr (a0.Fare*r136)) - (divI r129.Lost 2))) else 0) r129.Lost)]:List TicketBox)).length c152) rfl rfl rfl rfl fun w154 S155=>?_
    refine wp_nil<|reg<|p_mI rfl<|p_add rfl rfl<|p_aI rfl<|wp_nil ?_
    have S156:=S155.pk [2,3,4,5,6,7,8] (by decide) [0,1,2,3,4,5,6] rfl rfl
    exact ⟨(wr (z_4.1+1),z_4.2++([(TicketBox.mk r129.From r129.To (if (wr ((wr (a0.Fare*r136)) - (divI r129.Lost 2))) > 0 then (wr ((wr (a0.Fare*r136)) - (divI r129.Lost 2))) else 0) r129.Lost)]:List TicketBox)),(A151,c152),_,rfl,⟨rfl,rfl,rfl,rfl,rfl,trivial⟩,H,S156⟩
   ·replace H:=condF c128 H
    refine c_exit<|c_seq<|reg<|p_ldA ty29 sz29 (S127.atX (i:=3) rfl) rfl rfl ?_
    refine p_stP (pre:=[]) (old:=[I 0,I 0,SL none 0 0,I 0,SL none 0 0,SL none 0 0,SL none 0 0]) (post:=[]) (vs:=[I a0.Tally.Trips,I a0.Tally.Room,SL y_1.1 z_1.2.length y_1.2,I a0.Fare,SL A4 a0.Tickets.length c5,SL y_3.1 z_3.2.length y_3.2,SL y_4.1 z_4.2.length y_4.2]) sz29 S127 (i:=4) rfl rfl rfl rfl (rfl:_=AG [I a0.Tally.Trips,I a0.Tally.Room,SL y_1.1 z_1.2.length y_1.2,I a0.Fare,SL A4 a0.Tickets.length c5,SL y_3.1 z_3.2.length y_3.2,SL y_4.1 z_4.2.length y_4.2]) rfl rfl rfl rfl fun w157 S158=>?_
    refine wp_nil ?_
    obtain rfl:=sJ H
    refine c_ret ?_; show bodyPostM (Fr none) 0 Tryd.prog Tryd.f15 _ .ret _ _
    refine ret_of (res1 rfl (rvA rfl ty29 sz29 (S158.atX (i:=4) rfl) rfl)) ?_
    exact ⟨_,rfl,y_1.1,y_1.2,y_3.1,y_3.2,y_4.1,y_4.2,rfl,S158.keep,⟨(gr_rd eTallyCount_len (S158.atX (i:=2) rfl)),(New.rd (S158.newX (i:=2) rfl))⟩,⟨(gr_rd eTicketShow_len (S158.atX (i:=1) rfl)),(New.rd (S158.newX (i:=1) rfl))⟩,⟨(gr_rd eTicketBox_len (S158.atX (i:=0) rfl)),(New.rd (S158.newX (i:=0) rfl))⟩,trivial⟩
def B_Within (a0:Span) (a1:Int):Option Int:=
 (B_Mod a1 (wr ((wr (a0.High - a0.Low))+1))).bind fun r4=>
 some (wr (a0.Low+r4))
set_option maxRecDepth 100000 in
theorem B_Within_ok {a0:Span}{a1:Int}{w:World}{r:Int} (H:B_Within a0 a1=some r):Calls Tryd.prog 20 #[AG [I a0.Low,I a0.High],I a1] w (RetV w (I r)):=by
 unfold B_Within at H
 refine fn_of (n:=16) Tryd.func20 rfl rfl (lE rfl) ?_
 have S:=St.start w nF _ nM
 refine c_seq<|reg<|p_boxA rfl S fun b1 w2 S3=>p_aI rfl<|wp_nil<|c_seq ?_
 obtain ⟨r4,h5,H⟩:=bindS H
 refine reg_q mixed 12 (by kernel_rfl) ?_
 refine dS (fun _ k_=>p_fld fl49_0 rfl dn)<|dS (fun _ k_=>p_ld ty3 (aS (S3.atX (i:=0) rfl) k_) rfl rfl dn)<|dS (fun _ k_=>p_mI rfl dn)<|dS (fun _ k_=>p_fld fl49_1 rfl dn)<|dS (fun _ k_=>p_ld ty3 (aS (S3.atX (i:=0) rfl) k_) rfl rfl dn)<|dS (fun _ k_=>p_fld fl49_0 rfl dn)<|dS (fun _ k_=>p_ld ty3 (aS (S3.atX (i:=0) rfl) k_) rfl rfl dn)<|dS (fun _ k_=>p_sub rfl rfl dn) ?_
 refine dS (fun _ k_=>p_add rfl rfl dn)<|dS (fun _ k_=>p_cvD (B_Mod_ok h5) fu19 rfl)<|dS (fun _ k_=>p_add rfl rfl dn)<|dS (fun _ k_=>p_aI rfl dn) ?_
 intro w6 k7; have S8:=S3.call k7
 refine wp_nil ?_
 obtain rfl:=sJ H
 exact c_ret (rT Tryd.f20 S8.keep rfl rfl)
def B_Contains (a0:Span) (a1:Int):Option Bool:=
 (B_Inside a1 a0.Low a0.High).bind fun r4=>
 some r4
set_option maxRecDepth 100000 in
theorem B_Contains_ok {a0:Span}{a1:Int}{w:World}{r:Bool} (H:B_Contains a0 a1=some r):Calls Tryd.prog 25 #[AG [I a0.Low,I a0.High],I a1] w (RetV w (B r)):=by
 unfold B_Contains at H
 refine fn_of (n:=11) Tryd.func25 rfl rfl (lE rfl) ?_
 have S:=St.start w nF _ nM
 refine c_seq<|reg<|p_boxA rfl S fun b1 w2 S3=>p_aB rfl<|wp_nil<|c_seq<|reg<|p_mI rfl<|p_fld fl49_0 rfl<|p_ld ty3 (S3.atX (i:=0) rfl) rfl rfl<|p_fld fl49_1 rfl<|p_ld ty3 (S3.atX (i:=0) rfl) rfl rfl ?_
 obtain ⟨r4,h5,H⟩:=bindS H
 refine p_cv (B_Inside_ok h5) fu32 rfl S3 fun w6 S7=>p_aB rfl<|wp_nil ?_
 obtain rfl:=sJ H
 exact c_ret (rT Tryd.f25 S7.keep rfl rfl)
def B_Climbs_l1 (a0:List Int) (a1:Int) (rec_z_1:Int→Option Bool) (z_1:Int):Option Bool:=
 bif decide (z_1 < (a0.length:Int)) then ((getI a0 z_1).bind fun r9=>
 (B_Inside r9 0 (wr (a1 - 1))).bind fun r11=>
 bif !r11 then (some false)
 else (bif decide (z_1 > 0) then ((getI a0 z_1).bind fun r18=>
 (getI a0 (wr (z_1 - 1))).bind fun r20=>
 bif decide (r18≤r20) then (some false)
 else (rec_z_1 (wr (z_1+1))))
 else (rec_z_1 (wr (z_1+1)))))
 else (some true)
def B_Climbs (a0:List Int) (a1:Int):Option Bool:=
 loopF (B_Climbs_l1 a0 a1) big 0
set_option maxRecDepth 100000 in
theorem B_Climbs_ok {a0:List Int}{a1:Int}{A1:Option Addr}{c2:Nat}{w:World}{r:Bool} (H:B_Climbs a0 a1=some r) (h3:(rd intE 1 A1 c2 a0).ok w):Calls Tryd.prog 27 #[SL A1 a0.length c2,I a1] w (RetV w (B r)):=by
 unfold B_Climbs at H
 refine fn_of (n:=36) Tryd.func27 rfl rfl (lE rfl) ?_
 have S:=St.start w nF _ (cA h3 nM)
 refine c_seq<|reg<|p_aB rfl<|wp_nil<|c_seq<|c_seq<|reg<|p_aI rfl<|wp_nil<|c_block ?_
 refine c_lop (α:=Int) (β:=Unit) (B_Climbs_l1 a0 a1) (fun z_1 y_1=>[(0,SL A1 a0.length c2),(1,I a1),(5,I z_1)]) (fun z_1 y_1 w_=>St w nF w_ [] [rd intE 1 A1 c2 a0]) 0 () H ⟨rfl,rfl,rfl,trivial⟩ S ?_
 intro m4 z_1 y_1 e5 w6 H S7
 unfold B_Climbs_l1 at H
 refine c_seq<|c_seq<|reg<|p_mI rfl<|p_mS rfl<|p_len rfl sc30<|p_cmp rfl rfl rfl<|wp_nil ?_
 refine c_cond rfl (fun c8=>?_) (fun c8=>?_)
 ·replace H:=condT c8 H
  refine c_skip<|c_seq<|c_block<|c_seq ?_
  obtain ⟨r9,h10,H⟩:=bindS H
  obtain ⟨r11,h12,H⟩:=bindS H
  rcases bE (!r11) with c13 | c13
  ·replace H:=condT c13 H
   refine reg_q mixed 24 (by kernel_rfl) ?_
   refine dS (fun _ k_=>p_mS rfl dn)<|dS (fun _ k_=>p_mI rfl dn)<|dS (fun _ k_=>p_ixE sc30 h10 (aS (S7.atP (i:=0) rfl) k_).1 rfl rfl rfl dn)<|dS (fun _ k_=>p_ldE ty3 h10 (aS (S7.atP (i:=0) rfl) k_).1 rfl rfl dn)<|dS (fun _ k_=>p_mI rfl dn)<|dS (fun _ k_=>p_sub rfl rfl dn)<|dS (fun _ k_=>p_cvD (B_Inside_ok h12) fu32 rfl)<|dS (fun _ k_=>p_not rfl dn)<|dS (fun _ k_=>p_mB rfl dn)<|dB c13 ?_
   refine dF rfl rfl<|dF rfl rfl<|dF rfl rfl<|dS (fun _ k_=>o_guardU rfl rfl dnU)<|dS (fun _ k_=>o_guardU rfl rfl dnU)<|dS (fun _ k_=>o_guardU rfl rfl dnU)<|dS (fun _ k_=>o_guardU rfl rfl dnU)<|dS (fun _ k_=>o_guardU rfl rfl dnU)<|dS (fun _ k_=>o_guardU rfl rfl dnU)<|dS (fun _ k_=>o_guardU rfl rfl dnU)<|dS (fun _ k_=>o_guardU rfl rfl dnU) ?_
   refine dS (fun _ k_=>o_guardU rfl rfl dnU)<|dS (fun _ k_=>o_guardU rfl rfl dnU)<|dF rfl rfl<|dS (fun _ k_=>p_pkT rfl (rfl:_=B true) dn) ?_
   intro w14 k15; have S16:=S7.call k15
   refine wp_nil<|c_true rfl<|c_seq<|reg<|p_aB rfl<|wp_nil ?_
   obtain rfl:=sJ H
   exact c_ret (rT Tryd.f27 S16.keep rfl rfl)
  ·replace H:=condF c13 H
   rcases bE (decide (z_1 > 0)) with c17 | c17
   ·replace H:=condT c17 H
    obtain ⟨r18,h19,H⟩:=bindS H
    obtain ⟨r20,h21,H⟩:=bindS H
    refine reg_q mixed 24 (by kernel_rfl) ?_
    refine dS (fun _ k_=>p_mS rfl dn)<|dS (fun _ k_=>p_mI rfl dn)<|dS (fun _ k_=>p_ixE sc30 h10 (aS (S7.atP (i:=0) rfl) k_).1 rfl rfl rfl dn)<|dS (fun _ k_=>p_ldE ty3 h10 (aS (S7.atP (i:=0) rfl) k_).1 rfl rfl dn)<|dS (fun _ k_=>p_mI rfl dn)<|dS (fun _ k_=>p_sub rfl rfl dn)<|dS (fun _ k_=>p_cvD (B_Inside_ok h12) fu32 rfl)<|dS (fun _ k_=>p_not rfl dn)<|dS (fun _ k_=>p_mB rfl dn)<|dB c13 ?_
    refine dS (fun _ k_=>gT rfl rfl (p_mI rfl dn))<|dS (fun _ k_=>gT rfl rfl (p_cmp rfl rfl rfl dn))<|dS (fun _ k_=>gT rfl rfl (p_mB rfl dn))<|dB c17<|dS (fun _ k_=>gT rfl rfl (p_mS rfl dn))<|dS (fun _ k_=>gT rfl rfl (p_mI rfl dn))<|dS (fun _ k_=>gT rfl rfl (p_ixE sc30 h19 (aS (S7.atP (i:=0) rfl) k_).1 rfl rfl rfl dn)) ?_
    refine dS (fun _ k_=>gT rfl rfl (p_ldE ty3 h19 (aS (S7.atP (i:=0) rfl) k_).1 rfl rfl dn))<|dS (fun _ k_=>gT rfl rfl (p_mS rfl dn))<|dS (fun _ k_=>gT rfl rfl (p_mI rfl dn))<|dS (fun _ k_=>gT rfl rfl (p_sub rfl rfl dn))<|dS (fun _ k_=>gT rfl rfl (p_ixE sc30 h21 (aS (S7.atP (i:=0) rfl) k_).1 rfl rfl rfl dn)) ?_
    refine dS (fun _ k_=>gT rfl rfl (p_ldE ty3 h21 (aS (S7.atP (i:=0) rfl) k_).1 rfl rfl dn))<|dS (fun _ k_=>gT rfl rfl (p_cmp rfl rfl rfl dn))<|dS (fun _ k_=>gT rfl rfl (p_pkT rfl (rfl:_=B (decide (r18≤r20))) dn))<|dS (fun _ k_=>p_pkF rfl (rfl:_=B (decide (r18≤r20))) dn) ?_
    intro w22 k23; have S24:=S7.call k23
    refine wp_nil ?_
    refine c_cond rfl (fun c25=>?_) (fun c25=>?_)
    ·replace H:=condT c25 H
     refine c_seq<|reg<|p_aB rfl<|wp_nil ?_
     obtain rfl:=sJ H
     exact c_ret (rT Tryd.f27 S24.keep rfl rfl)
    ·replace H:=condF c25 H
     refine c_skip<|reg<|p_mI rfl<|p_add rfl rfl<|p_aI rfl<|wp_nil ?_
     exact ⟨wr (z_1+1),(),_,rfl,⟨rfl,rfl,rfl,trivial⟩,H,S24⟩
   ·replace H:=condF c17 H
    refine reg_q mixed 24 (by kernel_rfl) ?_
    refine dS (fun _ k_=>p_mS rfl dn)<|dS (fun _ k_=>p_mI rfl dn)<|dS (fun _ k_=>p_ixE sc30 h10 (aS (S7.atP (i:=0) rfl) k_).1 rfl rfl rfl dn)<|dS (fun _ k_=>p_ldE ty3 h10 (aS (S7.atP (i:=0) rfl) k_).1 rfl rfl dn)<|dS (fun _ k_=>p_mI rfl dn)<|dS (fun _ k_=>p_sub rfl rfl dn)<|dS (fun _ k_=>p_cvD (B_Inside_ok h12) fu32 rfl)<|dS (fun _ k_=>p_not rfl dn)<|dS (fun _ k_=>p_mB rfl dn)<|dB c13 ?_
    refine dS (fun _ k_=>gT rfl rfl (p_mI rfl dn))<|dS (fun _ k_=>gT rfl rfl (p_cmp rfl rfl rfl dn))<|dS (fun _ k_=>gT rfl rfl (p_mB rfl dn))<|dB c17<|dF rfl rfl<|dF rfl rfl<|dF rfl rfl<|dF rfl rfl<|dF rfl rfl<|dF rfl rfl<|dF rfl rfl<|dF rfl rfl ?_
    refine dF rfl rfl<|dF rfl rfl<|dS (fun _ k_=>gT rfl rfl (p_pkF rfl (rfl:_=B false) dn))<|dS (fun _ k_=>p_pkF rfl (rfl:_=B false) dn) ?_
    intro w26 k27; have S28:=S7.call k27
    exact wp_nil<|c_false rfl<|c_skip<|reg<|p_mI rfl<|p_add rfl rfl<|p_aI rfl<|wp_nil ⟨wr (z_1+1),(),_,rfl,⟨rfl,rfl,rfl,trivial⟩,H,S28⟩
 ·replace H:=condF c8 H
  refine c_exit<|c_seq<|reg<|p_aB rfl<|wp_nil ?_
  obtain rfl:=sJ H
  exact c_ret (rT Tryd.f27 S7.keep rfl rfl)
def B_At_l1 (a0:List Int) (a1:Int) (rec_z_1:Int→Option Int) (z_1:Int):Option Int:=
 bif decide (z_1 < (a0.length:Int)) then ((getI a0 z_1).bind fun r9=>
 bif (r9==a1) then (some z_1)
 else (rec_z_1 (wr (z_1+1))))
 else (some (-1))
def B_At (a0:List Int) (a1:Int):Option Int:=
 loopF (B_At_l1 a0 a1) big 0
set_option maxRecDepth 100000 in
theorem B_At_ok {a0:List Int}{a1:Int}{A1:Option Addr}{c2:Nat}{w:World}{r:Int} (H:B_At a0 a1=some r) (h3:(rd intE 1 A1 c2 a0).ok w):Calls Tryd.prog 28 #[SL A1 a0.length c2,I a1] w (RetV w (I r)):=by
 unfold B_At at H
 refine fn_of (n:=19) Tryd.func28 rfl rfl (lE rfl) ?_
 have S:=St.start w nF _ (cA h3 nM)
 refine c_seq<|reg<|p_aI rfl<|wp_nil<|c_seq<|c_seq<|reg<|p_aI rfl<|wp_nil<|c_block ?_
 refine c_lop (α:=Int) (β:=Unit) (B_At_l1 a0 a1) (fun z_1 y_1=>[(0,SL A1 a0.length c2),(1,I a1),(5,I z_1)]) (fun z_1 y_1 w_=>St w nF w_ [] [rd intE 1 A1 c2 a0]) 0 () H ⟨rfl,rfl,rfl,trivial⟩ S ?_
 intro m4 z_1 y_1 e5 w6 H S7
 unfold B_At_l1 at H
 refine c_seq<|c_seq<|reg<|p_mI rfl<|p_mS rfl<|p_len rfl sc30<|p_cmp rfl rfl rfl<|wp_nil ?_
 refine c_cond rfl (fun c8=>?_) (fun c8=>?_)
 ·replace H:=condT c8 H
  refine c_skip<|c_seq<|c_block<|c_seq<|reg<|p_mS rfl<|p_mI rfl ?_
  obtain ⟨r9,h10,H⟩:=bindS H
  refine p_ixE sc30 h10 (S7.atP (i:=0) rfl).1 rfl rfl rfl<|p_ldE ty3 h10 (S7.atP (i:=0) rfl).1 rfl rfl<|p_mI rfl<|p_cmp rfl rfl rfl<|wp_nil ?_
  refine c_cond rfl (fun c11=>?_) (fun c11=>?_)
  ·replace H:=condT c11 H
   refine c_seq<|reg<|p_mI rfl<|p_aI rfl<|wp_nil ?_
   obtain rfl:=sJ H
   exact c_ret (rT Tryd.f28 S7.keep rfl rfl)
  ·replace H:=condF c11 H
   refine c_skip<|reg<|p_mI rfl<|p_add rfl rfl<|p_aI rfl<|wp_nil ?_
   exact ⟨wr (z_1+1),(),_,rfl,⟨rfl,rfl,rfl,trivial⟩,H,S7⟩
 ·replace H:=condF c8 H
  refine c_exit<|c_seq<|reg<|p_aI rfl<|wp_nil ?_
  obtain rfl:=sJ H
  exact c_ret (rT Tryd.f28 S7.keep rfl rfl)
structure Tally_leave where
 out_:TallyCount→Int→Option Bool
def entOf (e:Tally_pair×Int):Go.Tally.Ent:=((e.1.from_,e.1.to_),e.2)
def B_Member (a0:Int) (a1:Int):Option Bool:=
 need (decide (0≤a1))<|
 some ((andI (shrI a0 a1) 1)==1)
end Go.Proofs.YtafhljljfglfeaaDoor
namespace Go.Fx
open Go Go.ChangeShapes Go.WideShapes Go.ChangeAt Go.RowKit
section
variable {H:Type}{enc:TypeId×Value→H}{P:Program}
theorem Keep.kept {w w' :World} (k:Keep0 w w') (may:MemPlace→Prop):w.keptBut w' may:=by
 refine ⟨k.os,k.output,fun i hi=>?_⟩
 have:=k.block i hi (fun x=>x)
 rw [this]
 cases w.heap[i]? with
 | none=>rfl
 | some o=>cases o <;> first | exact ⟨rfl,rfl,rfl,fun _ _=>rfl⟩ | exact .inr ⟨rfl,rfl⟩ | rfl
theorem Keep.same {w w' :World} (k:Keep0 w w') {p:MemPlace} (hp:p.block < w.heap.size):w.sameAt w' p:=by
 cases p with
 | cell b off=>
   have:=k.block b hp (fun x=>x)
   exact World.cell?_of_block (w:=w) this
 | map b=>exact k.block b hp (fun x=>x)
theorem trodAll_stays (hl:laidOutB P=true) {W W' :World}{sp' :Nat→Bool}:∀ {ts:List TypeId}{vs:List Value}{ds:List (DataW H)}{ps:List MemPlace},
 (∀ t∈ts,P.readableRec t=true∧t < P.types.size)→DataW.TrodAll enc P W 0 (fun _=>true) true ts vs ds ps→(∀ p∈ps,W.sameAt W' p)→(∀ p∈ps,sp' p.block=true)→DataW.TrodAll enc P W' 0 sp' true ts vs ds ps
 | [],[],[],_,_,h,_,_=>h
 | t::ts,v::vs,d::ds,ps,ht,⟨p,q,h1,h2,e⟩,hs,hb=>by
   subst e
   exact ⟨p,q,WideElems.Trod_stays hl (ht t (List.mem_cons_self ..)).1 (ht t (List.mem_cons_self ..)).2 h1 (fun x hx=>hs x (List.mem_append_left _ hx)) (fun x hx=>hb x (List.mem_append_left _ hx)),
    trodAll_stays hl (fun t ht' =>ht t (List.mem_cons_of_mem _ ht')) h2 (fun x hx=>hs x (List.mem_append_right _ hx)) (fun x hx=>hb x (List.mem_append_right _ hx)),rfl⟩
 | [],_::_,_,_,_,h,_,_=>by cases ‹List (DataW H)› <;> exact h.elim
 | [],[],_::_,_,_,h,_,_=>h.elim
 | _::_,[],_,_,_,h,_,_=>by cases ‹List (DataW H)› <;> exact h.elim
 | _::_,_::_,[],_,_,h,_,_=>h.elim
theorem law_post {fn:Func}{spec:ChangeSpec}{W W' :World}{args:Array Value}{ds gs:List (DataW H)}{before:List MemPlace}{tb:TypeId}
 (hW:DataW.Whole enc P fn.params.toList spec.vars false W args.toList ds gs before) (hl:laidOutB P=true) (hts:(fn.params.toList.all fun t=>P.readableRec t&&decide (t < P.types.size))=true)
 (hvars:spec.vars=[]) (hfn:spec.fn H ds={ results:=[.lit (.bool true)],args:=ds }) (hres:fn.resultTypes=#[tb]) (hb:P.underlying tb=some .bool) (k:Keep0 W W'):
 spec.post enc P fn false true false false W args (.bool true) W' :=by
 have hlt:=hW.lt
 obtain ⟨p,q,hA,hV,rfl,hfz,hnd⟩:=id hW
 have hV' :=hV
 rw [hvars] at hV'
 obtain ⟨rfl,rfl⟩:=trodVars_none hV'
 rw [List.append_nil] at hlt
 have hts' :∀ t∈fn.params.toList,P.readableRec t=true∧t < P.types.size:=fun t ht=>by
  have:=List.all_eq_true.1 hts t ht
  simpa using this
 refine ⟨ds,[],p++[],[],p,[],hW,?_,?_,?_,k.kept _,fun h=>by cases h⟩
 ·rw [List.append_nil,hfn,hres]
  exact trodAll_mk1 (shut_bool hb true)
 ·rw [List.append_nil,hfn]
  exact trodAll_stays hl hts' hA (fun x hx=>k.same (hlt x hx)) (fun x hx=>by simpa using hlt x hx)
 ·rw [List.append_nil,hfn,hvars]
  rfl
def InI (n:Int):Prop:=-9223372036854775808≤n∧n≤9223372036854775807
theorem inI_of {n:Int} (h:(Lit.int .i64 n).wf=true):InI n:=bounds_i64 h
variable {w:World}{base:Nat}{spare:Nat→Bool}{held:Bool}
def FlatI (P:Program) (t:TypeId) (n:Nat):Prop:=∀ {H:Type}{enc:TypeId×Value→H}{w:World}{base:Nat}{spare:Nat→Bool}{held:Bool}{fuel:Nat}{cs:List Value}{x:DataW H×List MemPlace},
 DataW.trod enc P w base spare held fuel t cs=some x→∃ l:List Int,l.length=n∧cs=l.map I∧∀ y∈l,InI y
theorem flat_int {t:TypeId} (ht:P.underlying t=some (.int .i64)):FlatI P t 1:=by
 intro _ _ _ _ _ _ _ _ _ h
 obtain ⟨n,rfl,_,hw⟩:=DataW.trod_int ht h
 exact ⟨[n],rfl,rfl,fun y hy=>by rw [List.mem_singleton.1 hy]; exact inI_of hw⟩
theorem flat_cells {cs:List Value}:∀ {n:Nat},cs.length=n→(∀ i,i < n→∃ a:Int,cs[i]? =some (I a)∧InI a)→∃ l:List Int,l.length=n∧cs=l.map I∧∀ y∈l,InI y:=by
 intro n hn h
 subst hn
 induction cs with
 | nil=>exact ⟨[],rfl,rfl,fun _ h=>(List.not_mem_nil h).elim⟩
 | cons c cs ih=>
   obtain ⟨a,ha,hi⟩:=h 0 (by simp)
   obtain ⟨l,h1,h2,h3⟩:=ih fun i hi=>by
    obtain ⟨b,hb⟩:=h (i+1) (by simp; omega)
    exact ⟨b,by simpa using hb⟩
   refine ⟨a::l,by simp [h1],by simp at ha; rw [ha,h2]; rfl,fun y hy=>?_⟩
   rcases List.mem_cons.1 hy with rfl | hy
   ·exact hi
   ·exact h3 y hy
theorem take_one {cs:List Value}{o:Nat}{v:Value} (h:(cs.drop o).take 1=[v]):cs[o]? =some v:=by
 have:=congrArg (·[0]?) h
 simpa [List.getElem?_take] using this
theorem flat_array {t e:TypeId}{n:Nat} (ht:P.underlying t=some (.array n e)) (he:P.underlying e=some (.int .i64)) (hc:P.cellsOf e=1) (hn:P.cellsOf t=n):FlatI P t n:=by
 intro _ _ _ _ _ _ _ cs _ h
 obtain ⟨xs,m,_,_,hl,hxs,hel⟩:=DataW.trod_array ht h
 refine flat_cells (hl.trans hn) fun i hi=>?_
 have:=hel i hi
 rw [hc,Nat.mul_one,List.getElem?_eq_getElem (by rw [hxs]; exact hi)] at this
 obtain ⟨a,ha,_,hw⟩:=DataW.trod_int he this
 exact ⟨a,take_one ha,inI_of hw⟩
theorem flat_struct {t:TypeId}{fs:Array Field}{n:Nat} (ht:P.underlying t=some (.struct fs)) (hn:P.cellsOf t=n) (hf:∀ i,i < n→∃ f:Field,fs[i]? =some f∧f.offset=i∧P.underlying f.type=some (.int .i64)∧P.cellsOf f.type=1) (hs:fs.size=n):FlatI P t n:=by
 intro _ _ _ _ _ _ _ cs _ h
 obtain ⟨xs,m,_,_,hl,hxs,hel⟩:=DataW.trod_struct ht h
 refine flat_cells (hl.trans hn) fun i hi=>?_
 obtain ⟨f,h1,h2,h3,h4⟩:=hf i hi
 have:=hel i f h1
 rw [h2,h4,List.getElem?_eq_getElem (by rw [hxs,hs]; exact hi)] at this
 obtain ⟨a,ha,_,hw⟩:=DataW.trod_int h3 this
 exact ⟨a,take_one ha,inI_of hw⟩
theorem mapM_get {α β:Type}{f:α→Option β}:∀ {l:List α}{r:List β},l.mapM f=some r→∀ (i:Nat) (a:α),l[i]? =some a→f a=r[i]?
 | [],_,_,i,a,ha=>by simp at ha
 | x::l,r,h,i,a,ha=>by
   simp only [List.mapM_cons,Option.bind_eq_bind,Option.bind_eq_some_iff,Option.pure_def,Option.some.injEq] at h
   obtain ⟨b,hb,r',hr',rfl⟩:=h
   cases i with
   | zero=>
     simp only [List.getElem?_cons_zero,Option.some.injEq] at ha
     subst ha
     exact hb
   | succ i=>exact mapM_get hr' i a (by simpa using ha)
theorem cell_in {w:World}{a:Addr}{v:Value} (h:w.cell? a=some v):a.block < w.heap.size:=by
 unfold World.cell? at h
 split at h
 ·rename_i hw
  exact (Array.getElem?_eq_some_iff.1 hw).1
 ·cases h
theorem add_blk (a:Addr) (n:Nat):(a.add n).block=a.block∧(a.add n).off=a.off+n:=by
 unfold Addr.add
 split
 ·rename_i h; subst h; exact ⟨rfl,rfl⟩
 ·exact ⟨rfl,rfl⟩
theorem cellN {w:World}{a:Addr}{n:Nat}{v:Value} (h:w.cell? (a.add n)=some v):w.cell? ⟨a.block,a.off+n,none⟩=some v:=by
 have h1:=World.cell?_spot h
 obtain ⟨h2,h3⟩:=add_blk a n
 have:a.add n=⟨a.block,a.off+n,none⟩:=by
  generalize a.add n=x at h1 h2 h3
  cases x
  cases h1; cases h2; cases h3; rfl
 rwa [this] at h
theorem slice_flat {t e:TypeId}{s fuel:Nat}{cs:List Value}{x:DataW H×List MemPlace} (ht:P.underlying t=some (.slice e)) (F:FlatI P e s) (hs:P.cellsOf e=s) (h0:0 < s)
 (h:DataW.trod enc P w 0 spare held fuel t cs=some x):∃ A c,∃ xs:List (List Int),cs=[SL A xs.length c]∧(∀ l∈xs,l.length=s∧∀ y∈l,InI y)∧(rd (fun l:List Int=>l.map I) s A c xs).ok w:=by
 rcases DataW.trod_slice ht h with ⟨rfl,_⟩ | ⟨a,len,cap,elems,rest,n,_,rfl,_,_,hlc,hcm,hel,hE,_,_⟩
 ·exact ⟨none,0,[],rfl,fun _ h=>(List.not_mem_nil h).elim,.inl rfl,Nat.le_refl _,Nat.zero_le _⟩
 ·have ex:∀ i,i < len→∃ l:List Int,l.length=s∧(∀ y∈l,InI y)∧∀ j v,(l.map I)[j]? =some v→w.cell? ⟨a.block,a.off+i*s+j,none⟩=some v:=by
   intro i hi
   have:=hE i hi
   rw [hs,List.getElem?_eq_getElem (by rw [hel]; exact hi)] at this
   obtain ⟨cs,hc,hd⟩:=Option.bind_eq_some_iff.1 this
   obtain ⟨l,hl,rfl,hy⟩:=F hd
   refine ⟨l,hl,hy,fun j v hj=>?_⟩
   unfold World.cells? at hc
   rw [if_pos (Nat.zero_le _)] at hc
   have hjl:j < s:=by
    have:=(List.getElem?_eq_some_iff.1 hj).1
    rw [List.length_map,hl] at this
    exact this
   have:=mapM_get hc j j (List.getElem?_range hjl)
   rw [hj] at this
   have:=cellN this
   rwa [(add_blk a (i*s)).1,(add_blk a (i*s)).2] at this
  have ch:∃ f:Nat→List Int,∀ i,i < len→(f i).length=s∧(∀ y∈f i,InI y)∧∀ j v,((f i).map I)[j]? =some v→w.cell? ⟨a.block,a.off+i*s+j,none⟩=some v:=
   ⟨fun i=>if h:i < len then Classical.choose (ex i h) else [],fun i hi=>by simp only [dif_pos hi]; exact Classical.choose_spec (ex i hi)⟩
  obtain ⟨f,hf⟩:=ch
  refine ⟨some a,cap,(List.range len).map f,by simp [SL],fun l hl=>?_,?_,by simpa using hlc,hcm⟩
  ·obtain ⟨i,hi,rfl⟩:=List.mem_map.1 hl
   have:=hf i (List.mem_range.1 hi)
   exact ⟨this.1,this.2.1⟩
  ·by_cases hz:len=0
   ·left; subst hz; rfl
   ·right
    have h00:=(hf 0 (by omega)).2.2 0 (I ((f 0)[0]'(by rw [(hf 0 (by omega)).1]; exact h0))) (by simp [(hf 0 (by omega)).1,h0])
    obtain ⟨b,o,sp⟩:=a
    have hsp:sp=none:=by
     have:=hE 0 (by omega)
     rw [hs,List.getElem?_eq_getElem (by rw [hel]; omega)] at this
     obtain ⟨cs,hc,hd⟩:=Option.bind_eq_some_iff.1 this
     obtain ⟨l,hl,rfl,hy⟩:=F hd
     unfold World.cells? at hc
     rw [if_pos (Nat.zero_le _)] at hc
     have:=mapM_get hc 0 0 (List.getElem?_range h0)
     rw [List.getElem?_eq_getElem (by rw [List.length_map,hl]; exact h0)] at this
     rw [Nat.zero_mul] at this
     exact World.cell?_spot (show w.cell? ⟨b,o,sp⟩=_ from this)
    subst hsp
    refine ⟨b,o,rfl,cell_in h00,fun i x hx j v hv=>?_⟩
    have hi:i < len:=by
     have:=(List.getElem?_eq_some_iff.1 hx).1
     simpa using this
    have hx' :x=f i:=by simpa [List.getElem?_range,hi] using hx.symm
    subst hx'
    exact (hf i hi).2.2 j v hv
theorem rd_map {α β:Type}{e1:α→List Value}{e2:β→List Value}{s c:Nat}{A:Option Addr}{xs:List α} (f:α→β) (h:∀ x∈xs,e2 (f x)=e1 x) (h1:(rd e1 s A c xs).ok w):(rd e2 s A c (xs.map f)).ok w:=by
 refine ⟨?_,by simpa using h1.2.1,h1.2.2⟩
 rcases h1.1 with rfl | ⟨b,o,e,hb,hc⟩
 ·exact .inl rfl
 ·refine .inr ⟨b,o,e,hb,fun i x hx j v hv=>?_⟩
  rw [List.getElem?_map] at hx
  obtain ⟨y,hy,rfl⟩:=Option.map_eq_some_iff.1 hx
  rw [h y (List.mem_of_getElem? hy)] at hv
  exact hc i y hy j v hv
theorem sg_self (l:List Int) {n:Nat} (h:l.length=n):sg l n=l.map I:=by
 rw [sg_ivs,sgl_eq h]; rfl
theorem okWide_cells {r:Reach}{b0:Nat}{t:TypeId}{v:Value} (ht:(match P.underlying t with | some (.struct _) | some (.array _ _)=>true | _=>false)=true) (hval:Value.okWide P w r b0 t v):∃ cs,v=.agg cs:=by
 unfold Value.okWide at hval
 split at hval
 ·obtain ⟨cs,h,_⟩:=hval; exact ⟨cs,h⟩
 ·obtain ⟨cs,h,_⟩:=hval; exact ⟨cs,h⟩
 ·rename_i h1 h2
  split at ht
  ·rename_i h; exact absurd h (h1 _)
  ·rename_i h; exact absurd h (h2 _ _)
  ·cases ht
theorem dec_flat {r:Reach}{b0 n:Nat}{t:TypeId}{v:Value}{d:DataW H}{ps:List MemPlace} (ht:(match P.underlying t with | some (.struct _) | some (.array _ _)=>true | _=>false)=true) (F:FlatI P t n) (hval:Value.okWide P w r b0 t v) (hd:DataW.Trod enc P w base spare held t v d ps):
 ∃ l:List Int,l.length=n∧v=AG (l.map I)∧∀ y∈l,InI y:=by
 obtain ⟨cs,rfl⟩:=okWide_cells ht hval
 obtain ⟨fuel,hf⟩:=hd
 obtain ⟨l,hl,hc,hy⟩:=F hf
 refine ⟨l,hl,?_,hy⟩
 have:cs.toList=l.map I:=hc
 show Value.agg cs=Value.agg (l.map I).toArray
 rw [← this]
theorem dec_slice {r:Reach}{b0 s:Nat}{t e:TypeId}{v:Value}{d:DataW H}{ps:List MemPlace} (ht:P.underlying t=some (.slice e)) (F:FlatI P e s) (hs:P.cellsOf e=s) (h0:0 < s) (hval:Value.okWide P w r b0 t v) (hd:DataW.Trod enc P w 0 spare held t v d ps):
 ∃ A c,∃ xs:List (List Int),v=SL A xs.length c∧(∀ l∈xs,l.length=s∧∀ y∈l,InI y)∧(rd (fun l:List Int=>l.map I) s A c xs).ok w:=by
 obtain ⟨fuel,hf⟩:=hd
 obtain ⟨A,c,xs,h1,h2,h3⟩:=slice_flat ht F hs h0 hf
 refine ⟨A,c,xs,?_,h2,h3⟩
 obtain ⟨a,len,cap,rfl⟩:=okWide_slice ht hval
 simpa [Value.cells] using h1
end
end Go.Fx
namespace Go.Proofs.YtafhljljfglfeaaDoor
open Go Go.Fx Go.Proofs Go.ChangeShapes Go.WideShapes Go.ChangeAt Go.RowKit
theorem own:ownKnob Tryd.prog.godebug=none:=by kernel_rfl
theorem laidOut:laidOutB Tryd.prog=true:=by kernel_rfl
theorem u3:Tryd.prog.underlying 3=some (.int .i64):=by kernel_rfl
theorem c3:Tryd.prog.cellsOf 3=1:=by kernel_rfl
theorem var_heap {W:World}{n:String}{g:Nat}{cs c:Array Value}{t:TypeId}{fr:Nat×Nat} (hg:Tryd.prog.globalNamed n=some g) (hv:W.var? Tryd.prog n=some cs) (hh:W.heap[g]? =some (.cells c t fr)):cs=c:=by
 unfold World.var? at hv
 rw [hg] at hv
 simp only [Option.bind_some,hh] at hv
 exact (Option.some.inj hv).symm
theorem gNobody : Tryd.prog.globalNamed "prow/ticket.nobody" = some 0 := by kernel_rfl
theorem tNobody:(Tryd.prog.globals[0]?).map (·.type)=some 128:=by kernel_rfl
theorem c128:Tryd.prog.cellsOf 128=2:=by kernel_rfl
theorem u128:∃ f0 f1:Field,Tryd.prog.underlying 128=some (.struct #[f0,f1])∧f0.type=3∧f1.type=3∧f0.offset=0∧f1.offset=1:=⟨(Tryd.prog.fieldsOf 128)[0]!,(Tryd.prog.fieldsOf 128)[1]!,by kernel_rfl,by kernel_rfl,by kernel_rfl,by kernel_rfl,by kernel_rfl⟩
theorem shape0:∃ zero,(((begin Tryd.prog (fun _ _=>0) default).world.heap[0]?).bind Obj.row?)=some (zero,128):=⟨#[I 0,I 0],by kernel_rfl⟩
set_option maxRecDepth 100000 in
theorem atNobody {W : World} (hS : W.ShapedOpen Tryd.prog) {g t : Nat} {cs : Array Value} {fuel : Nat} {p : List MemPlace} (hg : Tryd.prog.globalNamed "prow/ticket.nobody" = some g) (ht : (Tryd.prog.globals[g]?).map (·.type) = some t) (hv : W.var? Tryd.prog "prow/ticket.nobody" = some cs)
 (hd:DataW.trod (fun _=>()) Tryd.prog W 0 (fun _=>true) false fuel t cs.toList=some (.agg [.lit (.int .i64 (-1)),.lit (.int .i64 (-1))],p)):(bl 0 [I (-1),I (-1)] 128).ok W:=by
 obtain ⟨z,hz⟩:=shape0
 obtain ⟨cs0,h1,_⟩:=hS.1 0 z 128 (of_decide_eq_true (by kernel_rfl)) hz
 obtain rfl:=Option.some.inj (gNobody.symm.trans hg)
 obtain rfl:=Option.some.inj (tNobody.symm.trans ht)
 obtain rfl:=var_heap gNobody hv h1
 obtain ⟨f0,f1,hu,ht0,ht1,ho0,ho1⟩:=u128
 obtain ⟨xs,m,_,hx,hl,hxs,hel⟩:=DataW.trod_struct hu hd
 rw [c128] at hl
 have hx' :xs.map (·.1)=[.lit (.int .i64 (-1)),.lit (.int .i64 (-1))]:=by
  have:=congrArg Prod.fst hx
  exact (DataW.agg.inj this).symm
 obtain ⟨cl⟩:=cs
 match cl,hl with
 | [v0,v1],_=>
   match xs,hx' with
   | [(_,p0),(_,p1)],hx' =>
     simp only [List.map_cons,List.map_nil,List.cons.injEq,and_true] at hx'
     obtain ⟨rfl,rfl⟩:=hx'
     have e0:=hel 0 f0 rfl
     have e1:=hel 1 f1 rfl
     rw [ho0,ht0,c3] at e0
     rw [ho1,ht1,c3] at e1
     obtain ⟨n0,a0,b0,_⟩:=DataW.trod_int u3 (show DataW.trod _ _ _ _ _ _ _ _ [v0]=some (_,p0) from e0)
     obtain ⟨n1,a1,b1,_⟩:=DataW.trod_int u3 (show DataW.trod _ _ _ _ _ _ _ _ [v1]=some (_,p1) from e1)
     cases a0; cases a1; cases b0; cases b1
     exact h1
theorem c139:Tryd.prog.cellsOf 139=2:=by kernel_rfl
theorem gAsks : Tryd.prog.globalNamed "prow/ticket.asks" = some 1 := by kernel_rfl
theorem tAsks:(Tryd.prog.globals[1]?).map (·.type)=some 133:=by kernel_rfl
theorem u133:Tryd.prog.underlying 133=some (.array 2 132):=by kernel_rfl
theorem u132b:(match Tryd.prog.underlying 132 with | some (.func _ _ _)=>true | _=>false)=true:=by kernel_rfl
theorem u132:∃ ps rs va,Tryd.prog.underlying 132=some (.func ps rs va):=by
 have h:=u132b
 split at h
 ·rename_i ps rs va hu; exact ⟨ps,rs,va,hu⟩
 ·cases h
theorem c132:Tryd.prog.cellsOf 132=1:=by kernel_rfl
theorem c133:Tryd.prog.cellsOf 133=2:=by kernel_rfl
theorem shape1:∃ zero,(((begin Tryd.prog (fun _ _=>0) default).world.heap[1]?).bind Obj.row?)=some (zero,133):=⟨#[.nilFunc,.nilFunc],by kernel_rfl⟩
set_option maxRecDepth 100000 in
theorem atAsks {W : World} (hS : W.ShapedOpen Tryd.prog) {laid : List (String × DataW Unit)} (h : laidMetH Tryd.prog laid W) (hm : ("prow/ticket.asks", Rows.laid_prow_ticket_asks) ∈ laid) : (bl 1 [Value.func (.func 130) #[] #[], Value.func (.func 131) #[] #[]] 133).ok W := by
 obtain ⟨z,hz⟩:=shape1
 obtain ⟨cs0,h0,_⟩:=hS.1 1 z 133 (of_decide_eq_true (by kernel_rfl)) hz
 obtain ⟨g, t, cs, fuel, p, hg, ht, hv, hd⟩ := h.funcs (n := "prow/ticket.asks") hm
 obtain rfl:=Option.some.inj (gAsks.symm.trans hg)
 obtain rfl:=Option.some.inj (tAsks.symm.trans ht)
 obtain rfl:=var_heap gAsks hv h0
 obtain ⟨xs,m,_,hx,hl,hxs,hel⟩:=DataW.trod_array u133 hd
 rw [c133] at hl
 have hx' :xs.map (·.1)=[.held [40,112,114,111,119,47,116,105,99,107,101,116,46,98,111,111,107,41,46,97,108,119,97,121,115],.held [40,112,114,111,119,47,116,105,99,107,101,116,46,98,111,111,107,41,46,115,111,109,101,116,105,109,101,115]]:=by
  have:=congrArg Prod.fst hx
  exact (DataW.agg.inj this).symm
 obtain ⟨ps,rs,va,hu⟩:=u132
 obtain ⟨cl⟩:=cs
 match cl,hl with
 | [v0,v1],_=>
   match xs,hx' with
   | [(_,p0),(_,p1)],hx' =>
     simp only [List.map_cons,List.map_nil,List.cons.injEq,and_true] at hx'
     obtain ⟨rfl,rfl⟩:=hx'
     have e0:=hel 0 (by decide)
     have e1:=hel 1 (by decide)
     rw [c132] at e0 e1
     obtain rfl:=func_of_trod (f0:=130) hu (by kernel_rfl) (show DataW.trod _ _ _ _ _ _ _ _ [v0]=some (_,p0) from e0)
     obtain rfl:=func_of_trod (f0:=131) hu (by kernel_rfl) (show DataW.trod _ _ _ _ _ _ _ _ [v1]=some (_,p1) from e1)
     exact h0
theorem gEnds : Tryd.prog.globalNamed "prow/tally.ends" = some 2 := by kernel_rfl
theorem tEnds:(Tryd.prog.globals[2]?).map (·.type)=some 142:=by kernel_rfl
theorem u142:Tryd.prog.underlying 142=some (.array 2 141):=by kernel_rfl
theorem u141b:(match Tryd.prog.underlying 141 with | some (.func _ _ _)=>true | _=>false)=true:=by kernel_rfl
theorem u141:∃ ps rs va,Tryd.prog.underlying 141=some (.func ps rs va):=by
 have h:=u141b
 split at h
 ·rename_i ps rs va hu; exact ⟨ps,rs,va,hu⟩
 ·cases h
theorem c141:Tryd.prog.cellsOf 141=1:=by kernel_rfl
theorem c142:Tryd.prog.cellsOf 142=2:=by kernel_rfl
theorem shape2:∃ zero,(((begin Tryd.prog (fun _ _=>0) default).world.heap[2]?).bind Obj.row?)=some (zero,142):=⟨#[.nilFunc,.nilFunc],by kernel_rfl⟩
set_option maxRecDepth 100000 in
theorem atEnds {W : World} (hS : W.ShapedOpen Tryd.prog) {laid : List (String × DataW Unit)} (h : laidMetH Tryd.prog laid W) (hm : ("prow/tally.ends", Rows.laid_prow_tally_ends) ∈ laid) : (bl 2 [Value.func (.func 128) #[] #[], Value.func (.func 132) #[] #[]] 142).ok W := by
 obtain ⟨z,hz⟩:=shape2
 obtain ⟨cs0,h0,_⟩:=hS.1 2 z 142 (of_decide_eq_true (by kernel_rfl)) hz
 obtain ⟨g, t, cs, fuel, p, hg, ht, hv, hd⟩ := h.funcs (n := "prow/tally.ends") hm
 obtain rfl:=Option.some.inj (gEnds.symm.trans hg)
 obtain rfl:=Option.some.inj (tEnds.symm.trans ht)
 obtain rfl:=var_heap gEnds hv h0
 obtain ⟨xs,m,_,hx,hl,hxs,hel⟩:=DataW.trod_array u142 hd
 rw [c142] at hl
 have hx' :xs.map (·.1)=[.held [40,112,114,111,119,47,116,97,108,108,121,46,99,111,117,110,116,41,46,108,101,97,115,116],.held [40,112,114,111,119,47,116,97,108,108,121,46,99,111,117,110,116,41,46,109,111,115,116]]:=by
  have:=congrArg Prod.fst hx
  exact (DataW.agg.inj this).symm
 obtain ⟨ps,rs,va,hu⟩:=u141
 obtain ⟨cl⟩:=cs
 match cl,hl with
 | [v0,v1],_=>
   match xs,hx' with
   | [(_,p0),(_,p1)],hx' =>
     simp only [List.map_cons,List.map_nil,List.cons.injEq,and_true] at hx'
     obtain ⟨rfl,rfl⟩:=hx'
     have e0:=hel 0 (by decide)
     have e1:=hel 1 (by decide)
     rw [c141] at e0 e1
     obtain rfl:=func_of_trod (f0:=128) hu (by kernel_rfl) (show DataW.trod _ _ _ _ _ _ _ _ [v0]=some (_,p0) from e0)
     obtain rfl:=func_of_trod (f0:=132) hu (by kernel_rfl) (show DataW.trod _ _ _ _ _ _ _ _ [v1]=some (_,p1) from e1)
     exact h0
def laidL : List (String × DataW Unit) := [("prow/tally.ends", Rows.laid_prow_tally_ends), ("prow/ticket.nobody", Rows.laid_prow_ticket_nobody), ("prow/ticket.asks", Rows.laid_prow_ticket_asks)]
theorem globals_ok {W:World} (hS:W.ShapedOpen Tryd.prog) (h:laidMetH Tryd.prog laidL W):(bl 0 [I (-1),I (-1)] 128).ok W∧(bl 1 [Value.func (.func 130) #[] #[],Value.func (.func 131) #[] #[]] 133).ok W∧(bl 2 [Value.func (.func 128) #[] #[],Value.func (.func 132) #[] #[]] 142).ok W:=by
 refine ⟨?_,atAsks hS h (List.mem_cons_of_mem _ (List.mem_cons_of_mem _ (List.mem_cons_self ..))),atEnds hS h (List.mem_cons_self ..)⟩
 have h' : laidMet Tryd.prog [("prow/ticket.nobody", Rows.laid_prow_ticket_nobody)] W := h.1
 obtain ⟨ps,⟨g,t,cs,fuel,p,q,hg,ht,hv,hd,_,_⟩,_⟩:=h'
 exact atNobody hS hg ht hv hd
def putCells (cs:Array Value):Obj→Obj
 | .cells _ t frozen=>.cells cs t frozen
 | o=>o
noncomputable def laidWorld (os:Os):World:=
 { World.holding Tryd.prog os ⟨#[],#[],[]⟩ with heap:=(((((World.holding Tryd.prog os ⟨#[],#[],[]⟩).heap.modify 0 (putCells #[I (-1),I (-1)])).modify 1 (putCells #[.func (.func 130) #[] #[],.func (.func 131) #[] #[]])).modify 2 (putCells #[.func (.func 128) #[] #[],.func (.func 132) #[] #[]])).modify 3 (putCells #[I (-1),I (-1)])) }
end Go.Proofs.YtafhljljfglfeaaDoor
set_option linter.constructorNameAsVariable false
set_option maxRecDepth 100000
namespace Go.Proofs.YtafhljljfglfeaaDoor
open Go Go.Fx Go.Proofs Go.ChangeShapes Go.WideShapes Go.ChangeAt Go.RowKit
theorem get_bang {α:Type} [Inhabited α] {a:Array α}{i:Nat} (h:i < a.size):a[i]? =some a[i]! :=by
 rw [Array.getElem?_eq_getElem h,getElem!_pos a i h]
theorem st {t n:Nat} (u:Tryd.prog.underlying t=some (.struct (Tryd.prog.fieldsOf t))) (c:Tryd.prog.cellsOf t=n) (s:(Tryd.prog.fieldsOf t).size=n)
 (b:((List.range n).all fun i=>(Tryd.prog.fieldsOf t)[i]!.offset==i&&(Tryd.prog.fieldsOf t)[i]!.type==3)=true):FlatI Tryd.prog t n:=by
 refine flat_struct u c (fun i hi=>?_) s
 refine ⟨_,get_bang (by rw [s]; exact hi),?_⟩
 have:=List.all_eq_true.1 b i (List.mem_range.2 hi)
 simp only [Bool.and_eq_true,beq_iff_eq] at this
 exact ⟨this.1,by rw [this.2]; exact u3,by rw [this.2]; exact c3⟩
theorem c81:Tryd.prog.cellsOf 81=7:=by kernel_rfl
theorem c65:Tryd.prog.cellsOf 65=2:=by kernel_rfl
theorem c67:Tryd.prog.cellsOf 67=3:=by kernel_rfl
theorem c72:Tryd.prog.cellsOf 72=4:=by kernel_rfl
theorem c29:Tryd.prog.cellsOf 29=7:=by kernel_rfl
theorem c24:Tryd.prog.cellsOf 24=3:=by kernel_rfl
theorem c22:Tryd.prog.cellsOf 22=1:=by kernel_rfl
theorem c25:Tryd.prog.cellsOf 25=1:=by kernel_rfl
theorem c26:Tryd.prog.cellsOf 26=1:=by kernel_rfl
theorem c27:Tryd.prog.cellsOf 27=1:=by kernel_rfl
theorem u22:Tryd.prog.underlying 22=some (.slice 81):=by kernel_rfl
theorem u25:Tryd.prog.underlying 25=some (.slice 65):=by kernel_rfl
theorem u26:Tryd.prog.underlying 26=some (.slice 67):=by kernel_rfl
theorem u27:Tryd.prog.underlying 27=some (.slice 72):=by kernel_rfl
theorem u30:Tryd.prog.underlying 30=some (.slice 3):=by kernel_rfl
theorem u29:Tryd.prog.underlying 29=some (.struct (Tryd.prog.fieldsOf 29)):=by kernel_rfl
theorem u24:Tryd.prog.underlying 24=some (.struct (Tryd.prog.fieldsOf 24)):=by kernel_rfl
theorem flat81:FlatI Tryd.prog 81 7:=st (by kernel_rfl) c81 (by kernel_rfl) (by kernel_rfl)
theorem flat65:FlatI Tryd.prog 65 2:=st (by kernel_rfl) c65 (by kernel_rfl) (by kernel_rfl)
theorem flat67:FlatI Tryd.prog 67 3:=st (by kernel_rfl) c67 (by kernel_rfl) (by kernel_rfl)
theorem flat72:FlatI Tryd.prog 72 4:=st (by kernel_rfl) c72 (by kernel_rfl) (by kernel_rfl)
theorem f29s:(Tryd.prog.fieldsOf 29).size=5:=by kernel_rfl
theorem f29b:([(0,0,24),(1,3,3),(2,4,25),(3,5,26),(4,6,27)].all fun (x:Nat×Nat×Nat)=>(Tryd.prog.fieldsOf 29)[x.1]!.offset==x.2.1&&(Tryd.prog.fieldsOf 29)[x.1]!.type==x.2.2)=true:=by kernel_rfl
theorem f24s:(Tryd.prog.fieldsOf 24).size=3:=by kernel_rfl
theorem f24b:([(0,0,3),(1,1,3),(2,2,22)].all fun (x:Nat×Nat×Nat)=>(Tryd.prog.fieldsOf 24)[x.1]!.offset==x.2.1&&(Tryd.prog.fieldsOf 24)[x.1]!.type==x.2.2)=true:=by kernel_rfl
theorem maxLen_le:maxLen≤9223372036854775807:=by decide
def cntOf (l:List Int):TallyCount:=⟨l.getD 0 0,l.getD 1 0,l.getD 2 0,l.getD 3 0,l.getD 4 0,l.getD 5 0,l.getD 6 0⟩
theorem cntOf_cells {l:List Int} (h:l.length=7):eTallyCount (cntOf l)=l.map I:=by
 match l,h with
 | [_,_,_,_,_,_,_],_=>rfl
def seasOf (l:List Int):TicketSeason:=⟨l.getD 0 0,l.getD 1 0⟩
theorem seasOf_cells {l:List Int} (h:l.length=2):eTicketSeason (seasOf l)=l.map I:=by
 match l,h with
 | [_,_],_=>rfl
def showOf (l:List Int):TicketShow:=⟨l.getD 0 0,l.getD 1 0,l.getD 2 0⟩
theorem showOf_cells {l:List Int} (h:l.length=3):eTicketShow (showOf l)=l.map I:=by
 match l,h with
 | [_,_,_],_=>rfl
def boxOf (l:List Int):TicketBox:=⟨l.getD 0 0,l.getD 1 0,l.getD 2 0,l.getD 3 0⟩
theorem boxOf_cells {l:List Int} (h:l.length=4):eTicketBox (boxOf l)=l.map I:=by
 match l,h with
 | [_,_,_,_],_=>rfl
variable {H:Type}{enc:TypeId×Value→H}{w:World}{spare:Nat→Bool}{held:Bool}{r:Reach}{b0:Nat}{v:Value}{d:DataW H}{ps:List MemPlace}
theorem dec_ints (hval:Value.okWide Tryd.prog w r b0 30 v) (hd:DataW.Trod enc Tryd.prog w 0 spare held 30 v d ps):∃ A c,∃ l:List Int,v=SL A l.length c∧(rd intE 1 A c l).ok w∧l.length≤9223372036854775807∧∀ y∈l,InI y:=by
 obtain ⟨A,c,xs,rfl,h1,h2⟩:=dec_slice u30 (flat_int u3) c3 (by decide) hval hd
 have h3:=rd_map (e2:=intE) (fun l:List Int=>l.getD 0 0) (fun x hx=>by
  match x,(h1 x hx).1 with
  | [a],_=>rfl) h2
 refine ⟨A,c,xs.map fun l:List Int=>l.getD 0 0,by simp,h3,?_,fun y hy=>?_⟩
 ·have:=maxLen_le; have:=h3.2.1; have:=h3.2.2; omega
 ·obtain ⟨x,hx,rfl⟩:=List.mem_map.1 hy
  have:=h1 x hx
  match x,this with
  | [a],h=>exact h.2 a (by simp)
theorem tally_of {fuel:Nat}{cs:List Value}{x:DataW H×List MemPlace} (h:DataW.trod enc Tryd.prog w 0 spare held fuel 24 cs=some x):∃ A c,∃ b:TallyBook,cs=[I b.Trips,I b.Room,SL A b.Counts.length c]∧(rd eTallyCount 7 A c b.Counts).ok w∧b.Counts.length≤9223372036854775807:=by
 obtain ⟨xs,m,_,_,hl,hxs,hel⟩:=DataW.trod_struct u24 h
 rw [c24] at hl
 rw [f24s] at hxs
 have fb:=f24b
 simp only [List.all_cons,List.all_nil,Bool.and_eq_true,beq_iff_eq,and_true] at fb
 obtain ⟨⟨o0,t0⟩,⟨o1,t1⟩,⟨o2,t2⟩⟩:=fb
 have e0:=hel 0 _ (get_bang (by rw [f24s]; decide))
 have e1:=hel 1 _ (get_bang (by rw [f24s]; decide))
 have e2:=hel 2 _ (get_bang (by rw [f24s]; decide))
 rw [o0,t0,c3,List.getElem?_eq_getElem (by omega)] at e0
 rw [o1,t1,c3,List.getElem?_eq_getElem (by omega)] at e1
 rw [o2,t2,c22,List.getElem?_eq_getElem (by omega)] at e2
 obtain ⟨n0,g0,_,_⟩:=DataW.trod_int u3 e0
 obtain ⟨n1,g1,_,_⟩:=DataW.trod_int u3 e1
 obtain ⟨A,c,l,g2,h1,h2⟩:=slice_flat u22 flat81 c81 (by decide) e2
 have m2:=rd_map (e2:=eTallyCount) cntOf (fun x hx=>cntOf_cells (h1 x hx).1) h2
 refine ⟨A,c,⟨n0,n1,l.map cntOf⟩,?_,m2,?_⟩
 ·match cs,hl with
  | [y0,y1,y2],_=>
    simp at g0 g1 g2
    subst g0 g1 g2
    simp
 ·have:=maxLen_le; have:=m2.2.1; have:=m2.2.2; simp only; omega
theorem dec_book (hval:Value.okWide Tryd.prog w r b0 29 v) (hd:DataW.Trod enc Tryd.prog w 0 spare held 29 v d ps):∃ A1 c1 A2 c2 A3 c3 A4 c4,∃ b:TicketBook,v=AG [I b.Tally.Trips,I b.Tally.Room,SL A1 b.Tally.Counts.length c1,I b.Fare,SL A2 b.Tickets.length c2,SL A3 b.Shows.length c3,SL A4 b.Boxes.length c4]∧
 (rd eTallyCount 7 A1 c1 b.Tally.Counts).ok w∧(rd eTicketSeason 2 A2 c2 b.Tickets).ok w∧(rd eTicketShow 3 A3 c3 b.Shows).ok w∧(rd eTicketBox 4 A4 c4 b.Boxes).ok w∧b.Tally.Counts.length≤9223372036854775807∧b.Tickets.length≤9223372036854775807∧b.Shows.length≤9223372036854775807∧b.Boxes.length≤9223372036854775807:=by
 obtain ⟨cs,rfl⟩:=okWide_cells (by kernel_rfl) hval
 obtain ⟨fuel,hf⟩:=hd
 obtain ⟨xs,m,_,_,hl,hxs,hel⟩:=DataW.trod_struct u29 hf
 rw [c29] at hl
 rw [f29s] at hxs
 have fb:=f29b
 simp only [List.all_cons,List.all_nil,Bool.and_eq_true,beq_iff_eq,and_true] at fb
 obtain ⟨⟨o0,t0⟩,⟨o1,t1⟩,⟨o2,t2⟩,⟨o3,t3⟩,⟨o4,t4⟩⟩:=fb
 have e0:=hel 0 _ (get_bang (by rw [f29s]; decide))
 have e1:=hel 1 _ (get_bang (by rw [f29s]; decide))
 have e2:=hel 2 _ (get_bang (by rw [f29s]; decide))
 have e3:=hel 3 _ (get_bang (by rw [f29s]; decide))
 have e4:=hel 4 _ (get_bang (by rw [f29s]; decide))
 rw [o0,t0,c24,List.getElem?_eq_getElem (by omega)] at e0
 rw [o1,t1,c3,List.getElem?_eq_getElem (by omega)] at e1
 rw [o2,t2,c25,List.getElem?_eq_getElem (by omega)] at e2
 rw [o3,t3,c26,List.getElem?_eq_getElem (by omega)] at e3
 rw [o4,t4,c27,List.getElem?_eq_getElem (by omega)] at e4
 obtain ⟨A0,d0,l0,g0,m0,n0⟩:=tally_of e0
 obtain ⟨n1,g1,_,_⟩:=DataW.trod_int u3 e1
 obtain ⟨A2,c2',l2,g2,h21,h22⟩:=slice_flat u25 flat65 c65 (by decide) e2
 obtain ⟨A3,c3',l3,g3,h31,h32⟩:=slice_flat u26 flat67 c67 (by decide) e3
 obtain ⟨A4,c4',l4,g4,h41,h42⟩:=slice_flat u27 flat72 c72 (by decide) e4
 have m2:=rd_map (e2:=eTicketSeason) seasOf (fun x hx=>seasOf_cells (h21 x hx).1) h22
 have m3:=rd_map (e2:=eTicketShow) showOf (fun x hx=>showOf_cells (h31 x hx).1) h32
 have m4:=rd_map (e2:=eTicketBox) boxOf (fun x hx=>boxOf_cells (h41 x hx).1) h42
 refine ⟨A0,d0,A2,c2',A3,c3',A4,c4',⟨l0,n1,l2.map seasOf,l3.map showOf,l4.map boxOf⟩,?_,m0,m2,m3,m4,n0,?_,?_,?_⟩
 ·obtain ⟨cl⟩:=cs
  match cl,hl with
  | [y0,y1,y2,y3,y4,y5,y6],_=>
    simp [Value.cells] at g0 g1 g2 g3 g4
    obtain ⟨rfl,rfl,rfl⟩:=g0
    subst g1 g2 g3 g4
    simp
 ·have:=maxLen_le; have:=m2.2.1; have:=m2.2.2; simp only; omega
 ·have:=maxLen_le; have:=m3.2.1; have:=m3.2.2; simp only; omega
 ·have:=maxLen_le; have:=m4.2.1; have:=m4.2.2; simp only; omega
end Go.Proofs.YtafhljljfglfeaaDoor
namespace Go.Proofs.YtafhljljfglfeaaDoor
open Go Go.Fx Go.Tally
theorem wrI {x:Int} (h0:-9223372036854775808≤x) (h1:x≤9223372036854775807):Fx.wr x=x:=wr_eq h0 h1
def inB (a lo hi:Int):Bool:=decide (lo≤a)&&decide (a≤hi)
theorem inB_iff {a lo hi:Int}:inB a lo hi=true↔lo≤a∧a≤hi:=by simp [inB]
theorem within_eq (a b c:Int):tally_within a b c=some (inB a b c):=by
 unfold tally_within inB
 cases decide (b≤a) <;> rfl
theorem inside_eq (a b c:Int):B_Inside a b c=some (inB a b c):=by
 unfold B_Inside inB
 rw [show decide (a≥b)=decide (b≤a) from rfl]
 cases decide (b≤a) <;> rfl
def tripsB (T f t:Int):Bool:=inB f 0 t&&decide (t < T)
theorem isTrips_eq (b:TallyBook) (f t:Int):tally_isTrips b f t=some (tripsB b.Trips f t):=by
 unfold tally_isTrips tripsB
 rw [within_eq]
 simp only [Option.bind_some]
 cases inB f 0 t <;> rfl
def cntB (T:Int) (x:TallyCount):Bool:=inB x.Who 0 2&&tripsB T x.From x.To&&inB x.Told 0 99&&inB x.Unit 1 20&&inB x.Under 0 30&&inB x.Over 0 30&&((x.Who != 1)||(x.Over==0))
theorem isCount_eq (b:TallyBook) (x:TallyCount):tally_isCount b x=some (cntB b.Trips x):=by
 unfold tally_isCount tally_isCount_j1 cntB
 simp only [within_eq,isTrips_eq,Option.bind_some]
 cases inB x.Who 0 2 <;> cases tripsB b.Trips x.From x.To <;> cases inB x.Told 0 99 <;> cases inB x.Unit 1 20 <;> cases inB x.Under 0 30 <;> cases inB x.Over 0 30 <;> cases (x.Who != 1) <;> rfl
def cntsB (T:Int) (l:List TallyCount):Bool:=l.all (cntB T)
def valB (b:TallyBook):Bool:=inB b.Trips 1 8&&inB b.Room 0 60&&decide ((b.Counts.length:Int)≤8)&&cntsB b.Trips b.Counts
theorem getI_lt {α:Type}{l:List α}{i:Int} (h0:0≤i) (h:i < l.length):∃ x,getI l i=some x∧l[i.toNat]? =some x:=by
 have hi:i.toNat < l.length:=by omega
 exact ⟨l[i.toNat],getI_of h0 (List.getElem?_eq_getElem hi),List.getElem?_eq_getElem hi⟩
theorem drop_get {α:Type}{l:List α}{k:Nat}{x:α} (h:l[k]? =some x):l.drop k=x::l.drop (k+1):=by
 obtain ⟨h1,rfl⟩:=List.getElem?_eq_some_iff.1 h
 exact List.drop_eq_getElem_cons h1
theorem check_loop (b:TallyBook) (hl:b.Counts.length≤9223372036854775807) (ok:Bool):loopF (tally_Check_l2 b) big (ok,0)=some (bif ok&&cntsB b.Trips b.Counts then 0 else 50):=by
 refine loopF_spec (fun s:Bool×Int=>0≤s.2∧s.2≤b.Counts.length) (fun s=>b.Counts.length - s.2.toNat) (fun s=>bif s.1&&cntsB b.Trips (b.Counts.drop s.2.toNat) then 0 else 50) ?_ big (ok,0) ⟨by simp,by simp⟩ (by unfold big; simp; omega)
 rintro rec ⟨ok,i⟩ ⟨h0,h1⟩ ih
 simp only at h0 h1 ih ⊢
 unfold tally_Check_l2
 simp only
 by_cases hi:i < b.Counts.length
 ·rw [decide_eq_true hi,cond_true]
  obtain ⟨x,hx,hx'⟩:=getI_lt h0 hi
  rw [hx,Option.bind_some]
  have hd:=drop_get hx'
  have hw:Fx.wr (i+1)=i+1:=wrI (by omega) (by omega)
  have e:(i+1).toNat=i.toNat+1:=by omega
  rw [hd,hw]
  cases ok with
  | true=>
    rw [cond_true,isCount_eq,Option.bind_some,ih _ ⟨by simp; omega,by simp; omega⟩ (by simp; omega)]
    simp only [e,cntsB,List.all_cons,Bool.true_and]
  | false=>
    rw [cond_false,ih _ ⟨by simp; omega,by simp; omega⟩ (by simp; omega)]
    simp
 ·rw [decide_eq_false hi,cond_false,show b.Counts.drop i.toNat=[] from List.drop_eq_nil_of_le (by omega)]
  cases ok <;> simp [cntsB]
theorem check_eq (b:TallyBook) (hl:b.Counts.length≤9223372036854775807):tally_Check b=some (bif valB b then 0 else 50):=by
 unfold tally_Check tally_Check_j3 valB
 simp only [within_eq,Option.bind_some,check_loop b hl]
 cases inB b.Trips 1 8 <;> cases inB b.Room 0 60 <;> simp
theorem mod_ok (a m:Int) (h:0 < m) (h2:m≤9223372036854775807):∃ r,B_Mod a m=some r∧0≤r∧r < m:=by
 unfold B_Mod modI
 rw [decide_eq_false (by omega),cond_false,need_of (by simp; omega)]
 have h3:=Int.tmod_lt_of_pos a h
 have h4:=Int.lt_tmod_of_pos a h
 by_cases hn:a.tmod m < 0
 ·rw [decide_eq_true hn,cond_true,wrI (by omega) (by omega)]
  exact ⟨_,rfl,by omega,by omega⟩
 ·rw [decide_eq_false hn,cond_false]
  exact ⟨_,rfl,by omega,by omega⟩
structure Val (b:TallyBook):Prop where
 t1:1≤b.Trips
 t8:b.Trips≤8
 r0:0≤b.Room
 r60:b.Room≤60
 l8:b.Counts.length≤8
 cs:∀ x∈b.Counts,cntB b.Trips x=true
structure Bk (b:TallyBook):Prop where
 t1:1≤b.Trips
 t8:b.Trips≤8
 r0:0≤b.Room
 r60:b.Room≤60
 l9:b.Counts.length≤9
 cs:∀ x∈b.Counts,cntB b.Trips x=true
theorem Val.bk {b:TallyBook} (h:Val b):Bk b:=⟨h.t1,h.t8,h.r0,h.r60,by have:=h.l8; omega,h.cs⟩
theorem val_iff {b:TallyBook}:valB b=true↔Val b:=by
 unfold valB cntsB
 simp only [Bool.and_eq_true,inB_iff,decide_eq_true_eq,List.all_eq_true]
 constructor
 ·rintro ⟨⟨⟨⟨a,b⟩,c,d⟩,e⟩,f⟩; exact ⟨a,b,c,d,by omega,f⟩
 ·rintro ⟨a,b,c,d,e,f⟩; exact ⟨⟨⟨⟨a,b⟩,c,d⟩,by omega⟩,f⟩
theorem check_ok {b:TallyBook} (h:Val b):tally_Check b=some 0:=by
 rw [check_eq b (by have:=h.l8; omega),val_iff.2 h]; rfl
structure Cnt (T:Int) (x:TallyCount):Prop where
 w0:0≤x.Who
 w2:x.Who≤2
 f0:0≤x.From
 ft:x.From≤x.To
 tT:x.To < T
 o0:0≤x.Told
 o99:x.Told≤99
 u1:1≤x.Unit
 u20:x.Unit≤20
 d0:0≤x.Under
 d30:x.Under≤30
 v0:0≤x.Over
 v30:x.Over≤30
 st:x.Who=1→x.Over=0
theorem cnt_iff {T:Int}{x:TallyCount}:cntB T x=true↔Cnt T x:=by
 unfold cntB tripsB
 simp only [Bool.and_eq_true,inB_iff,decide_eq_true_eq,Bool.or_eq_true,bne_iff_ne,beq_iff_eq]
 constructor
 ·intro h; obtain ⟨⟨⟨⟨⟨⟨⟨a,b⟩,⟨c,d⟩,e⟩,f,g⟩,h,i⟩,j,k⟩,l,m⟩,n⟩:=h
  exact ⟨a,b,c,d,e,f,g,h,i,j,k,l,m,fun h=>by omega⟩
 ·rintro ⟨a,b,c,d,e,f,g,h,i,j,k,l,m,n⟩
  exact ⟨⟨⟨⟨⟨⟨⟨a,b⟩,⟨c,d⟩,e⟩,f,g⟩,h,i⟩,j,k⟩,l,m⟩,by omega⟩
theorem Cnt.prod {T:Int}{x:TallyCount} (h:Cnt T x):0≤x.Told*x.Unit∧x.Told*x.Unit≤1980:=by
 have h1:=h.o0; have h2:=h.o99; have h3:=h.u1; have h4:=h.u20
 constructor
 ·exact Int.mul_nonneg h1 (by omega)
 ·have:x.Told*x.Unit≤99*20:=Int.mul_le_mul h2 h4 (by omega) (by omega)
  omega
def mostV (x:TallyCount):Int:=x.Told*x.Unit+x.Under
def leastV (x:TallyCount):Int:=x.Told*x.Unit - x.Over
theorem most_eq {T:Int}{x:TallyCount} (h:Cnt T x):tally_count_most x=some (mostV x):=by
 have:=h.prod; have:=h.d0; have:=h.d30
 unfold tally_count_most mostV
 rw [wrI (x:=x.Told*x.Unit) (by omega) (by omega),wrI (by omega) (by omega)]
theorem least_eq {T:Int}{x:TallyCount} (h:Cnt T x):tally_count_least x=some (leastV x):=by
 have:=h.prod; have:=h.v0; have:=h.v30
 unfold tally_count_least leastV
 rw [wrI (x:=x.Told*x.Unit) (by omega) (by omega),wrI (by omega) (by omega)]
theorem getI_ix {α:Type}{l:List α}{k:Nat} (h:k < l.length):getI l (k:Int)=some l[k]:=by rw [getI_nat,List.getElem?_eq_getElem h]
theorem loop_fold {σ ρ:Type}{body:(σ→Option ρ)→σ→Option ρ} (S:Nat→σ) (n:Nat) {R:Option ρ} (hs:∀ rec k,k < n→body rec (S k)=rec (S (k+1))) (he:∀ rec,body rec (S n)=R) (hn:n < big):loopF body big (S 0)=R:=by
 have key:∀ d k m,k+d=n→d < m→loopF body m (S k)=R:=by
  intro d
  induction d with
  | zero=>
    intro k m h1 h2
    obtain ⟨m,rfl⟩:∃ q,m=q+1:=⟨m - 1,by omega⟩
    obtain rfl:k=n:=by omega
    exact he _
  | succ d ih=>
    intro k m h1 h2
    obtain ⟨m,rfl⟩:∃ q,m=q+1:=⟨m - 1,by omega⟩
    show body (loopF body m) (S k)=R
    rw [hs _ k (by omega)]
    exact ih (k+1) m (by omega) (by omega)
 exact key n 0 big (by omega) hn
theorem loop_fold0 {σ ρ:Type}{body:(σ→Option ρ)→σ→Option ρ} (S:Nat→σ) (n:Nat) {s0:σ}{R:Option ρ} (hs:∀ rec k,k < n→body rec (S k)=rec (S (k+1))) (he:∀ rec,body rec (S n)=R) (hn:n < big) (h0:S 0=s0):loopF body big s0=R:=h0▸loop_fold S n hs he hn
theorem big_eq:big=18446744073709551616:=by decide
def allTo {α:Type} (p:α→Bool) (l:List α) (ok:Bool) (k:Nat):Bool:=ok&&(l.take k).all p
theorem allTo_zero {α:Type}{p:α→Bool}{l:List α}{ok:Bool}:allTo p l ok 0=ok:=by simp [allTo]
theorem allTo_succ {α:Type}{p:α→Bool}{l:List α}{ok:Bool}{k:Nat} (h:k < l.length):allTo p l ok (k+1)=(allTo p l ok k&&p l[k]):=by
 unfold allTo
 rw [← List.take_append_getElem h,List.all_append]
 simp [Bool.and_assoc]
theorem allTo_end {α:Type}{p:α→Bool}{l:List α}{ok:Bool}:allTo p l ok l.length=(ok&&l.all p):=by simp [allTo]
theorem wrN {k:Nat}{n:Nat} (h:k < n) (hn:n≤9223372036854775807):Fx.wr ((k:Int)+1)=((k+1:Nat):Int):=by rw [wrI (by omega) (by omega)]; omega
theorem loop_at {σ ρ:Type}{body:(σ→Option ρ)→σ→Option ρ}{s:σ}{R:Option ρ} (h:∀ rec,body rec s=R):loopF body big s=R:=by
 rw [big_eq]; exact h _
end Go.Proofs.YtafhljljfglfeaaDoor
namespace Go.Proofs.YtafhljljfglfeaaDoor
open Go Go.Fx Go.Tally
abbrev LP:=List (Tally_pair×Int)
def PotP (m:LP) (q:Nat→Int):Prop:=Pot (m.map entOf) q
def Has (m:LP) (p:Tally_pair) (n:Int):Prop:=∃ v,v≤n∧(p,v)∈m
structure NoteR (m m' :LP) (p:Tally_pair) (n:Int):Prop where
 pot:∀ q,PotP m' q↔PotP m q∧q p.to_.toNat≤q p.from_.toNat+n
 has:∀ p' n',Has m p' n' →Has m' p' n'
 own:Has m' p n
 len:m'.length≤m.length+1
 keys:∀ e∈m',e.1=p∨∃ e' ∈m,e.1=e'.1
 vals:∀ lo hi,lo≤n→n≤hi→(∀ e∈m,lo≤e.2∧e.2≤hi)→∀ e∈m',lo≤e.2∧e.2≤hi
structure Ok (t:Int) (m:LP) (n:Nat):Prop where
 keys:∀ e∈m,0≤e.1.from_∧e.1.from_≤t∧0≤e.1.to_∧e.1.to_≤t
 vals:∀ e∈m,-10000≤e.2∧e.2≤10000
 len:m.length≤n
def Steps (t r:Int) (q:Nat→Int):Prop:=∀ k:Nat,(k:Int) < t→q (k+1)≤q k+r∧q k≤q (k+1)
def CntQ (x:TallyCount) (q:Nat→Int):Prop:=leastV x≤q (x.To+1).toNat - q x.From.toNat∧q (x.To+1).toNat - q x.From.toNat≤mostV x
def CntsQ (l:List TallyCount) (out:TallyCount→Nat→Bool) (q:Nat→Int):Prop:=∀ i x,l[i]? =some x→out x i=false→CntQ x q
def Fit (b:TallyBook) (out:TallyCount→Nat→Bool) (q:Nat→Int):Prop:=Steps b.Trips b.Room q∧CntsQ b.Counts out q
structure Opn (b:TallyBook) (out:TallyCount→Nat→Bool) (m:LP):Prop where
 val:Bk b
 ok:Ok b.Trips m 34
 has:∀ k:Nat,(k:Int) < b.Trips→Has m ⟨k,k+1⟩ b.Room∧Has m ⟨k+1,k⟩ 0
 pot:∀ q,PotP m q↔Fit b out q
structure Spn (F:(Nat→Int)→Prop) (a c:Nat) (lo hi:Int):Prop where
 loE:∃ q,F q∧q c - q a=lo
 hiE:∃ q,F q∧q c - q a=hi
 all:∀ q,F q→lo≤q c - q a∧q c - q a≤hi
theorem Fit.shift {b:TallyBook}{out:TallyCount→Nat→Bool}{q:Nat→Int} (h:Fit b out q) (c:Int):Fit b out (fun v=>q v - c):=by
 refine ⟨fun k hk=>?_,fun i x hx ho=>?_⟩
 ·have:=h.1 k hk; show q _ - c≤q _ - c+_∧q _ - c≤q _ - c; omega
 ·have:=h.2 i x hx ho; unfold CntQ at *; show _≤q _ - c - (q _ - c)∧q _ - c - (q _ - c)≤_; omega
end Go.Proofs.YtafhljljfglfeaaDoor
namespace Go.Proofs.YtafhljljfglfeaaDoor
open Go Go.Fx Go.Tally
def no:TallyCount→Nat→Bool:=fun _ _=>false
theorem trips_iff {T f t:Int}:tripsB T f t=true↔0≤f∧f≤t∧t < T:=by
 unfold tripsB
 rw [Bool.and_eq_true,inB_iff,decide_eq_true_eq]
 omega
theorem steps_bnd {t r:Int} (t8:t≤8) (r0:0≤r) (r60:r≤60) {q:Nat→Int} (h:Steps t r q):∀ (d a:Nat),((a+d:Nat):Int)≤t→0≤q (a+d) - q a∧q (a+d) - q a≤r*d:=by
 intro d
 induction d with
 | zero=>intro a _; simp
 | succ d ih=>
   intro a hk
   have h1:=ih a (by omega)
   have h2:=h (a+d) (by omega)
   rw [show a+(d+1)=a+d+1 by omega]
   have:r*((d+1:Nat):Int)=r*(d:Int)+r:=by rw [Int.natCast_add,Int.mul_add]; simp
   omega
theorem fit_bnd {b:TallyBook} (V:Bk b) {out:TallyCount→Nat→Bool}{q:Nat→Int} (h:Fit b out q) {a c:Nat} (hac:a≤c) (hc:(c:Int)≤b.Trips):0≤q c - q a∧q c - q a≤b.Room*((c:Int) - a):=by
 have:=steps_bnd V.t8 V.r0 V.r60 h.1 (c - a) a (by omega)
 rw [show a+(c - a)=c by omega] at this
 rw [show ((c:Int) - a)=((c - a:Nat):Int) by omega]
 exact this
theorem room_mul {b:TallyBook} (V:Bk b) {n:Int} (h0:0≤n) (h8:n≤8):0≤b.Room*n∧b.Room*n≤480:=by
 have:=V.r0; have:=V.r60
 constructor
 ·exact Int.mul_nonneg (by omega) h0
 ·have:b.Room*n≤60*8:=Int.mul_le_mul (by omega) h8 h0 (by omega)
  omega
theorem Spn.bnd {b:TallyBook} (V:Bk b) {out:TallyCount→Nat→Bool}{a c:Nat}{lo hi:Int} (S:Spn (Fit b out) a c lo hi) (hac:a≤c) (hc:(c:Int)≤b.Trips):0≤lo∧lo≤hi∧hi≤b.Room*((c:Int) - a)∧hi≤480:=by
 obtain ⟨q,hq,h1⟩:=S.loE
 obtain ⟨q',hq',h2⟩:=S.hiE
 have a1:=fit_bnd V hq hac hc
 have a2:=fit_bnd V hq' hac hc
 have a3:=S.all q hq
 have a4:=V.t8
 have a5:=room_mul V (n:=(c:Int) - a) (by omega) (by omega)
 omega
end Go.Proofs.YtafhljljfglfeaaDoor
namespace Go.Proofs.YtafhljljfglfeaaDoor
open Go Go.Fx Go.Tally
def pre (u:List Int) (k:Nat):Int:=(u.take k).sum
theorem pre_succ {u:List Int}{k:Nat}{x:Int} (h:u[k]? =some x):pre u (k+1)=pre u k+x:=by
 unfold pre
 obtain ⟨h1,rfl⟩:=List.getElem?_eq_some_iff.1 h
 rw [List.take_succ_eq_append_getElem h1,List.sum_append]
 simp
theorem pre_cut {u:List Int}{a c:Nat} (h:a≤c):((u.take c).drop a).sum=pre u c - pre u a:=by
 unfold pre
 have:=List.take_append_drop a (u.take c)
 have h2:=congrArg List.sum this
 rw [List.sum_append,List.take_take,Nat.min_eq_left h] at h2
 omega
theorem sum_bnd {l:List Int} (h:∀ n∈l,0≤n∧n≤60):0≤l.sum∧l.sum≤60*l.length:=by
 induction l with
 | nil=>simp
 | cons x l ih=>
   have h1:=h x (List.mem_cons_self ..)
   have h2:=ih fun n hn=>h n (List.mem_cons_of_mem _ hn)
   simp only [List.sum_cons,List.length_cons]
   omega
theorem sum_eq {l:List Int} (hl:l.length≤8) (h:∀ n∈l,0≤n∧n≤60):tally_sum l=some l.sum:=by
 unfold tally_sum
 refine loopF_spec (body:=tally_sum_l1 l) (fun z:Int×Int=>∃ k:Nat,z.2=k∧k≤l.length∧z.1=pre l k) (fun z=>l.length - z.2.toNat) (fun _=>l.sum) ?_ big (0,0) ⟨0,rfl,Nat.zero_le _,by simp [pre]⟩ (by unfold big; simp; omega)
 rintro rec ⟨s,i⟩ ⟨k,rfl,hk,rfl⟩ ih
 simp only at ih ⊢
 unfold tally_sum_l1
 simp only
 by_cases hlt:k < l.length
 ·rw [decide_eq_true (by omega),cond_true,getI_nat,List.getElem?_eq_getElem hlt,Option.bind_some]
  have hx:=List.getElem?_eq_getElem hlt
  generalize l[k]=x at hx
  have h1:=h x (List.mem_of_getElem? hx)
  have h2:=sum_bnd (l:=l.take k) fun n hn=>h n (List.mem_of_mem_take hn)
  have h3:(l.take k).length≤8:=by simp; omega
  rw [show (l.take k).sum=pre l k from rfl] at h2
  rw [wrI (x:=pre l k+x) (by omega) (by omega),wrI (by omega) (by omega)]
  exact ih _ ⟨k+1,by simp,by omega,(pre_succ hx).symm⟩ (by (try simp only); omega)
 ·rw [decide_eq_false (by omega),cond_false]
  unfold pre
  rw [List.take_of_length_le (by omega)]
theorem cutI_eq {α:Type}{l:List α}{a c:Int} (h0:0≤a) (h1:a≤c) (h2:c≤l.length):cutI l a c=some ((l.take c.toNat).drop a.toNat):=by
 unfold cutI
 simp [h0,h1,h2]
theorem mem_cut {α:Type}{l:List α}{a c:Nat}{x:α} (h:x∈(l.take c).drop a):x∈l:=List.mem_of_mem_take (List.mem_of_mem_drop h)
structure Tru (b:TallyBook) (u:List Int):Prop where
 len:(u.length:Int)=b.Trips
 bnd:∀ n∈u,0≤n∧n≤b.Room
theorem Tru.steps {b:TallyBook}{u:List Int} (h:Tru b u):Steps b.Trips b.Room (pre u):=by
 intro k hk
 have hlt:k < u.length:=by have:=h.len; omega
 have hx:=List.getElem?_eq_getElem hlt
 have:=h.bnd _ (List.mem_of_getElem? hx)
 rw [pre_succ hx]
 omega
theorem count_right {b:TallyBook} (V:Bk b) {u:List Int} (hu:Tru b u) {x:TallyCount} (hx:Cnt b.Trips x):∃ r,tally_count_right x u=some r∧(r=true↔CntQ x (pre u)):=by
 have:=hu.len; have:=V.t8; have:=V.r60; have f0:=hx.f0; have ft:=hx.ft; have tT:=hx.tT
 unfold tally_count_right
 rw [wrI (x:=x.To+1) (by omega) (by omega),cutI_eq (by omega) (by omega) (by omega),Option.bind_some]
 rw [sum_eq (by simp; omega) (fun n hn=>by have:=hu.bnd n (mem_cut hn); omega),Option.bind_some,least_eq hx,Option.bind_some,most_eq hx,Option.bind_some,within_eq]
 refine ⟨_,rfl,?_⟩
 rw [inB_iff,pre_cut (by omega)]
 rfl
theorem can_law {b:TallyBook} (V:Val b) {u:List Int} (hu:Tru b u):∃ r,tally_Can b u=some (r,0)∧(r=true↔Fit b no (pre u)):=by
 have hlen:=hu.len; have t8:=V.t8; have l8:=V.l8
 have second:∃ p,loopF (tally_Can_l2 b u) big 0=some p∧p.2=0∧(p.1=true↔Fit b no (pre u)):=by
  refine loopF_inv (body:=tally_Can_l2 b u) (fun z:Int=>∃ k:Nat,z=k∧k≤b.Counts.length∧∀ j x,j < k→b.Counts[j]? =some x→CntQ x (pre u)) (fun z=>b.Counts.length - z.toNat) (fun p=>p.2=0∧(p.1=true↔Fit b no (pre u))) ?_ big 0 ⟨0,rfl,Nat.zero_le _,fun j x h=>absurd h (Nat.not_lt_zero j)⟩ (by unfold big; simp; omega)
  rintro rec z ⟨k,rfl,hk,hq⟩ ih
  unfold tally_Can_l2
  by_cases hlt:k < b.Counts.length
  ·rw [decide_eq_true (by omega),cond_true,getI_nat,List.getElem?_eq_getElem hlt,Option.bind_some]
   have hx:=List.getElem?_eq_getElem hlt
   generalize b.Counts[k]=x at hx
   obtain ⟨r,hr,hi⟩:=count_right V.bk hu (cnt_iff.1 (V.cs x (List.mem_of_getElem? hx)))
   rw [hr,Option.bind_some]
   cases r with
   | false=>
     refine ⟨_,rfl,rfl,?_⟩
     simp only [Bool.false_eq_true,false_iff]
     intro h
     have:=hi.2 (h.2 k x hx rfl)
     cases this
   | true=>
     rw [Bool.not_true,cond_false,wrI (by omega) (by omega)]
     refine ih _ ⟨k+1,by simp,by omega,fun j y hj hy=>?_⟩ (by (try simp only); omega)
     by_cases hjk:j=k
     ·subst hjk; rw [hx] at hy; cases hy; exact hi.1 rfl
     ·exact hq j y (by omega) hy
  ·rw [decide_eq_false (by omega),cond_false]
   refine ⟨_,rfl,rfl,?_⟩
   simp only [true_iff]
   exact ⟨hu.steps,fun j x hx _=>hq j x (by have:=(List.getElem?_eq_some_iff.1 hx).1; omega) hx⟩
 obtain ⟨⟨p1,p2⟩,hp,hp0,hpi⟩:=second
 simp only at hp0 hpi
 subst hp0
 refine ⟨p1,?_,hpi⟩
 unfold tally_Can
 rw [check_ok V,Option.bind_some]
 simp only [bne_self_eq_false,cond_false]
 rw [show ((u.length:Int) != b.Trips)=false by simp [hlen],cond_false]
 refine loopF_spec (body:=tally_Can_l3 u b) (fun z:Int=>∃ k:Nat,z=k∧k≤u.length) (fun z=>u.length - z.toNat) (fun _=>(p1,0)) ?_ big 0 ⟨0,rfl,Nat.zero_le _⟩ (by unfold big; simp; omega)
 rintro rec z ⟨k,rfl,hk⟩ ih
 unfold tally_Can_l3
 by_cases hlt:k < u.length
 ·rw [decide_eq_true (by omega),cond_true,getI_nat,List.getElem?_eq_getElem hlt,Option.bind_some]
  have hx:=List.getElem?_eq_getElem hlt
  rw [within_eq,Option.bind_some,inB_iff.2 (hu.bnd _ (List.mem_of_getElem? hx)),Bool.not_true,cond_false,wrI (by omega) (by omega)]
  exact ih _ ⟨k+1,by simp,by omega⟩ (by (try simp only); omega)
 ·rw [decide_eq_false (by omega),cond_false,hp]
end Go.Proofs.YtafhljljfglfeaaDoor
namespace Go.Proofs.YtafhljljfglfeaaDoor
open Go Go.Fx Go.Tally
theorem withinT_eq (a b c:Int):ticket_within a b c=some (inB a b c):=by
 unfold ticket_within inB
 cases decide (b≤a) <;> rfl
structure ArgT (b:TicketBook):Prop where
 cl:b.Tally.Counts.length≤9223372036854775807
 tl:b.Tickets.length≤9223372036854775807
 sl:b.Shows.length≤9223372036854775807
 bl:b.Boxes.length≤9223372036854775807
def seasB (T:Int) (x:TicketSeason):Bool:=inB x.From 0 (T - 1)&&inB x.To 0 (T - 1)&&decide (x.From≤x.To)
def showB (T:Int) (m:Nat) (x:TicketShow):Bool:=inB x.Trip 0 (T - 1)&&inB x.Ticket 0 ((m:Int) - 1)&&inB x.Walker 0 9
def boxB (T:Int) (x:TicketBox):Bool:=inB x.From 0 (T - 1)&&inB x.To 0 (T - 1)&&decide (x.From≤x.To)&&inB x.Pence 0 400&&inB x.Lost 0 40
theorem isTrip_eq (b:TicketBook) (h:1≤b.Tally.Trips) (h2:b.Tally.Trips≤8) (n:Int):ticket_isTrip b n=some (inB n 0 (b.Tally.Trips - 1)):=by
 unfold ticket_isTrip
 rw [wrI (by omega) (by omega),withinT_eq]; rfl
theorem isTicket_eq (b:TicketBook) (h:b.Tickets.length≤9223372036854775807) (n:Int):ticket_isTicket b n=some (inB n 0 ((b.Tickets.length:Int) - 1)):=by
 unfold ticket_isTicket
 rw [wrI (by omega) (by omega),withinT_eq]; rfl
theorem isBox_eq (b:TicketBook) (h:1≤b.Tally.Trips) (h2:b.Tally.Trips≤8) (x:TicketBox):ticket_isBox b x=some (boxB b.Tally.Trips x):=by
 unfold ticket_isBox boxB
 simp only [isTrip_eq b h h2,withinT_eq,Option.bind_some]
 cases inB x.From 0 (b.Tally.Trips - 1) <;> cases inB x.To 0 (b.Tally.Trips - 1) <;> cases decide (x.From≤x.To) <;> cases inB x.Pence 0 400 <;> cases inB x.Lost 0 40 <;> rfl
theorem allTo_ok {α:Type}{p:α→Bool}{l:List α}{ok:Bool}{k:Nat} (h:allTo p l ok k=true):ok=true:=by
 unfold allTo at h; rw [Bool.and_eq_true] at h; exact h.1
theorem checkT_tail (b:TicketBook) (A:ArgT b) (ok:Bool) (hT:ok=true→1≤b.Tally.Trips∧b.Tally.Trips≤8):ticket_Check_j7 b ok=some (bif ok&&b.Tickets.all (seasB b.Tally.Trips)&&b.Shows.all (showB b.Tally.Trips b.Tickets.length)&&b.Boxes.all (boxB b.Tally.Trips) then 0 else 100):=by
 have h1:=A.tl; have h2:=A.sl; have h3:=A.bl
 unfold ticket_Check_j7
 refine loop_fold0 (fun k=>(allTo (seasB b.Tally.Trips) b.Tickets ok k,(k:Int))) b.Tickets.length (fun rec k hk=>?_) (fun rec=>?_) (by rw [big_eq]; omega) (by rw [allTo_zero]; rfl)
 ·unfold ticket_Check_l6
  simp only
  rw [decide_eq_true (by omega),cond_true,getI_ix hk,Option.bind_some,wrN hk h1,allTo_succ hk]
  have e:seasB b.Tally.Trips b.Tickets[k]=(inB b.Tickets[k].From 0 (b.Tally.Trips - 1)&&inB b.Tickets[k].To 0 (b.Tally.Trips - 1)&&decide (b.Tickets[k].From≤b.Tickets[k].To)):=rfl
  rw [e]
  cases ha:allTo (seasB b.Tally.Trips) b.Tickets ok k with
  | false=>rfl
  | true=>
    have:=hT (allTo_ok ha)
    simp only [isTrip_eq b this.1 this.2,Option.bind_some]
    cases inB b.Tickets[k].From 0 (b.Tally.Trips - 1) <;> cases inB b.Tickets[k].To 0 (b.Tally.Trips - 1) <;> rfl
 unfold ticket_Check_l6
 simp only
 rw [decide_eq_false (by omega),cond_false,allTo_end]
 have hT:(ok&&b.Tickets.all (seasB b.Tally.Trips))=true→1≤b.Tally.Trips∧b.Tally.Trips≤8:=fun h=>hT (by rw [Bool.and_eq_true] at h; exact h.1)
 generalize (ok&&b.Tickets.all (seasB b.Tally.Trips))=ok at hT
 refine loop_fold0 (fun k=>(allTo (showB b.Tally.Trips b.Tickets.length) b.Shows ok k,(k:Int))) b.Shows.length (fun rec k hk=>?_) (fun rec=>?_) (by rw [big_eq]; omega) (by rw [allTo_zero]; rfl)
 ·unfold ticket_Check_l5
  simp only
  rw [decide_eq_true (by omega),cond_true,getI_ix hk,Option.bind_some,wrN hk h2,allTo_succ hk]
  have e:showB b.Tally.Trips b.Tickets.length b.Shows[k]=(inB b.Shows[k].Trip 0 (b.Tally.Trips - 1)&&inB b.Shows[k].Ticket 0 ((b.Tickets.length:Int) - 1)&&inB b.Shows[k].Walker 0 9):=rfl
  rw [e]
  cases ha:allTo (showB b.Tally.Trips b.Tickets.length) b.Shows ok k with
  | false=>rfl
  | true=>
    have:=hT (allTo_ok ha)
    simp only [isTrip_eq b this.1 this.2,isTicket_eq b h1,withinT_eq,Option.bind_some]
    cases inB b.Shows[k].Trip 0 (b.Tally.Trips - 1) <;> cases inB b.Shows[k].Ticket 0 ((b.Tickets.length:Int) - 1) <;> rfl
 unfold ticket_Check_l5
 simp only
 rw [decide_eq_false (by omega),cond_false,allTo_end]
 have hT:(ok&&b.Shows.all (showB b.Tally.Trips b.Tickets.length))=true→1≤b.Tally.Trips∧b.Tally.Trips≤8:=fun h=>hT (by rw [Bool.and_eq_true] at h; exact h.1)
 generalize (ok&&b.Shows.all (showB b.Tally.Trips b.Tickets.length))=ok at hT
 refine loop_fold0 (fun k=>(allTo (boxB b.Tally.Trips) b.Boxes ok k,(k:Int))) b.Boxes.length (fun rec k hk=>?_) (fun rec=>?_) (by rw [big_eq]; omega) (by rw [allTo_zero]; rfl)
 ·unfold ticket_Check_l4
  simp only
  rw [decide_eq_true (by omega),cond_true,getI_ix hk,Option.bind_some,wrN hk h3,allTo_succ hk]
  cases ha:allTo (boxB b.Tally.Trips) b.Boxes ok k with
  | false=>rfl
  | true=>
    have:=hT (allTo_ok ha)
    rw [cond_true,isBox_eq b this.1 this.2]
    rfl
 unfold ticket_Check_l4
 simp only
 rw [decide_eq_false (by omega),cond_false,allTo_end]
 cases (ok&&b.Boxes.all (boxB b.Tally.Trips)) <;> rfl
def valT (b:TicketBook):Bool:=valB b.Tally&&decide (b.Tally.Trips≤3)&&decide (b.Tally.Room≤5)&&inB b.Fare 1 20&&decide ((b.Tickets.length:Int)≤3)&&decide ((b.Shows.length:Int)≤5)&&decide ((b.Boxes.length:Int)≤3)&&b.Tickets.all (seasB b.Tally.Trips)&&b.Shows.all (showB b.Tally.Trips b.Tickets.length)&&b.Boxes.all (boxB b.Tally.Trips)
theorem checkT_eq (b:TicketBook) (A:ArgT b):ticket_Check b=some (bif valT b then 0 else 100):=by
 unfold ticket_Check valT
 rw [check_eq _ A.cl]
 have f:=checkT_tail b A false (fun h=>by cases h)
 simp only [Bool.false_and,cond_false] at f
 cases hv:valB b.Tally with
 | false=>simp only [cond_false,Option.bind_some,Bool.false_and]; exact f
 | true=>
   have V:=val_iff.1 hv
   have t:=fun ok=>checkT_tail b A ok (fun _=>⟨V.t1,V.t8⟩)
   simp only [withinT_eq,Option.bind_some,t,cond_true,beq_self_eq_true]
   cases decide (b.Tally.Trips≤3) <;> cases decide (b.Tally.Room≤5) <;> cases inB b.Fare 1 20 <;> cases decide ((b.Tickets.length:Int)≤3) <;> cases decide ((b.Shows.length:Int)≤5) <;> rfl
structure Seas (T:Int) (x:TicketSeason):Prop where
 f0:0≤x.From
 ft:x.From≤x.To
 tT:x.To < T
structure Shw (T:Int) (m:Nat) (x:TicketShow):Prop where
 t0:0≤x.Trip
 tT:x.Trip < T
 n0:0≤x.Ticket
 nm:x.Ticket < m
 w0:0≤x.Walker
 w9:x.Walker≤9
structure Box (T:Int) (x:TicketBox):Prop where
 f0:0≤x.From
 ft:x.From≤x.To
 tT:x.To < T
 p0:0≤x.Pence
 p4:x.Pence≤400
 l0:0≤x.Lost
 l4:x.Lost≤40
theorem seas_iff {T:Int}{x:TicketSeason}:seasB T x=true↔Seas T x:=by
 unfold seasB; simp only [Bool.and_eq_true,inB_iff,decide_eq_true_eq]
 exact ⟨fun ⟨⟨⟨a,b⟩,c,d⟩,e⟩=>⟨a,e,by omega⟩,fun ⟨a,b,c⟩=>⟨⟨⟨a,by omega⟩,by omega,by omega⟩,b⟩⟩
theorem shw_iff {T:Int}{m:Nat}{x:TicketShow}:showB T m x=true↔Shw T m x:=by
 unfold showB; simp only [Bool.and_eq_true,inB_iff,decide_eq_true_eq]
 exact ⟨fun ⟨⟨⟨a,b⟩,c,d⟩,e,f⟩=>⟨a,by omega,c,by omega,e,f⟩,fun ⟨a,b,c,d,e,f⟩=>⟨⟨⟨a,by omega⟩,c,by omega⟩,e,f⟩⟩
theorem box_iff {T:Int}{x:TicketBox}:boxB T x=true↔Box T x:=by
 unfold boxB; simp only [Bool.and_eq_true,inB_iff,decide_eq_true_eq]
 exact ⟨fun ⟨⟨⟨⟨⟨a,b⟩,c,d⟩,e⟩,f,g⟩,h,i⟩=>⟨a,e,by omega,f,g,h,i⟩,fun ⟨a,b,c,d,e,f,g⟩=>⟨⟨⟨⟨⟨a,by omega⟩,by omega,by omega⟩,b⟩,d,e⟩,f,g⟩⟩
structure VT (b:TicketBook):Prop where
 ta:Val b.Tally
 t3:b.Tally.Trips≤3
 r5:b.Tally.Room≤5
 f1:1≤b.Fare
 f20:b.Fare≤20
 tn:b.Tickets.length≤3
 sn:b.Shows.length≤5
 bn:b.Boxes.length≤3
 te:∀ x∈b.Tickets,Seas b.Tally.Trips x
 sh:∀ x∈b.Shows,Shw b.Tally.Trips b.Tickets.length x
 bx:∀ x∈b.Boxes,Box b.Tally.Trips x
theorem valT_iff {b:TicketBook}:valT b=true↔VT b:=by
 unfold valT
 simp only [Bool.and_eq_true,val_iff,inB_iff,decide_eq_true_eq,List.all_eq_true,seas_iff,shw_iff,box_iff]
 exact ⟨fun ⟨⟨⟨⟨⟨⟨⟨⟨⟨a,b⟩,c⟩,d,e⟩,f⟩,g⟩,h⟩,i⟩,j⟩,k⟩=>⟨a,b,c,d,e,by omega,by omega,by omega,i,j,k⟩,fun ⟨a,b,c,d,e,f,g,h,i,j,k⟩=>⟨⟨⟨⟨⟨⟨⟨⟨⟨a,b⟩,c⟩,d,e⟩,by omega⟩,by omega⟩,by omega⟩,i⟩,j⟩,k⟩⟩
theorem VT.arg {b:TicketBook} (V:VT b):ArgT b:=⟨by have:=V.ta.l8; omega,by have:=V.tn; omega,by have:=V.sn; omega,by have:=V.bn; omega⟩
theorem checkT_ok {b:TicketBook} (V:VT b):ticket_Check b=some 0:=by
 rw [checkT_eq b V.arg,valT_iff.2 V]; rfl
theorem isSpan_eq (b:TicketBook) (f t:Int):law_isSpan b f t=some (tripsB b.Tally.Trips f t):=by
 unfold law_isSpan tripsB
 rw [inside_eq]
 cases inB f 0 t <;> rfl
theorem soundF (b:TicketBook):law_sound_j10 b false=some false:=by
 unfold law_sound_j10; refine loop_at fun rec=>?_
 show loopF (law_sound_l7 b) big (false,0)=_; refine loop_at fun rec=>?_
 show loopF (law_sound_l5 b) big (false,0)=_; refine loop_at fun rec=>?_
 rfl
theorem soundT (b:TicketBook) (V:VT b):law_sound_j10 b true=some true:=by
 have h1:=V.arg.tl; have h2:=V.arg.sl; have h3:=V.arg.bl; have t1:=V.ta.t1; have t3:=V.t3; have tn:=V.tn
 unfold law_sound_j10
 refine loop_fold (fun k=>(true,(k:Int))) b.Tickets.length (fun rec k hk=>?_) (fun rec=>?_) (by rw [big_eq]; omega)
 ·unfold law_sound_l9
  simp only
  have:=V.te b.Tickets[k] (List.getElem_mem _)
  rw [cond_true,decide_eq_true (by omega),cond_true,getI_ix hk,Option.bind_some,Option.bind_some,wrN hk h1,isSpan_eq,trips_iff.2 ⟨this.f0,this.ft,this.tT⟩]; rfl
 unfold law_sound_l9 law_sound_j8
 simp only
 rw [cond_true,decide_eq_false (by omega),cond_false]
 refine loop_fold (fun k=>(true,(k:Int))) b.Shows.length (fun rec k hk=>?_) (fun rec=>?_) (by rw [big_eq]; omega)
 ·unfold law_sound_l7
  simp only
  have:=V.sh b.Shows[k] (List.getElem_mem _)
  have e1:inB b.Shows[k].Trip 0 (b.Tally.Trips - 1)=true:=inB_iff.2 ⟨this.t0,by have:=this.tT; omega⟩
  have e2:inB b.Shows[k].Ticket 0 ((b.Tickets.length:Int) - 1)=true:=inB_iff.2 ⟨this.n0,by have:=this.nm; omega⟩
  rw [cond_true,decide_eq_true (by omega),cond_true,getI_ix hk,Option.bind_some,wrN hk h2,wrI (by omega) (by omega),wrI (by omega) (by omega)]
  simp only [inside_eq,e1,e2,Option.bind_some,cond_true]
 unfold law_sound_l7 law_sound_j6
 simp only
 rw [cond_true,decide_eq_false (by omega),cond_false]
 refine loop_fold (fun k=>(true,(k:Int))) b.Boxes.length (fun rec k hk=>?_) (fun rec=>?_) (by rw [big_eq]; omega)
 ·unfold law_sound_l5
  simp only
  have:=V.bx b.Boxes[k] (List.getElem_mem _)
  have e1:inB b.Boxes[k].Pence 0 400=true:=inB_iff.2 ⟨this.p0,this.p4⟩
  have e2:inB b.Boxes[k].Lost 0 40=true:=inB_iff.2 ⟨this.l0,this.l4⟩
  rw [cond_true,decide_eq_true (by omega),cond_true,getI_ix hk,Option.bind_some,wrN hk h3,isSpan_eq,trips_iff.2 ⟨this.f0,this.ft,this.tT⟩]
  simp only [inside_eq,e1,e2,Option.bind_some,cond_true]
 unfold law_sound_l5
 simp only
 rw [cond_true,decide_eq_false (by omega),cond_false]
theorem soundT_eq (b:TicketBook) (A:ArgT b):law_sound b=some (valT b):=by
 unfold law_sound
 rw [checkT_eq b A,Option.bind_some]
 cases h:valT b with
 | false=>rw [cond_false]; exact soundF b
 | true=>
   have V:=valT_iff.1 h
   have e3:inB b.Tally.Trips 1 3=true:=inB_iff.2 ⟨V.ta.t1,V.t3⟩
   have e4:inB b.Tally.Room 0 5=true:=inB_iff.2 ⟨V.ta.r0,V.r5⟩
   have e5:inB b.Fare 1 20=true:=inB_iff.2 ⟨V.f1,V.f20⟩
   have e6:decide ((b.Tickets.length:Int)≤3)=true:=decide_eq_true (by have:=V.tn; omega)
   have e7:decide ((b.Shows.length:Int)≤5)=true:=decide_eq_true (by have:=V.sn; omega)
   have e8:decide ((b.Boxes.length:Int)≤3)=true:=decide_eq_true (by have:=V.bn; omega)
   simp only [cond_true,beq_self_eq_true,inside_eq,check_ok V.ta,e3,e4,e5,e6,e7,e8,Option.bind_some]
   exact soundT b V
end Go.Proofs.YtafhljljfglfeaaDoor
namespace Go.Proofs.YtafhljljfglfeaaDoor
open Go Go.Fx
theorem at_loop (l:List Int) (v:Int) (hl:l.length≤9223372036854775807):∃ r,B_At l v=some r∧(0≤r↔v∈l)∧(r < 0↔v ∉ l):=by
 unfold B_At
 refine loopF_inv (body:=B_At_l1 l v) (fun i:Int=>∃ k:Nat,i=k∧k≤l.length∧v ∉ l.take k) (fun i=>l.length - i.toNat) (fun r=>(0≤r↔v∈l)∧(r < 0↔v ∉ l)) ?_ big 0 ⟨0,rfl,Nat.zero_le _,by simp⟩ (by unfold big; simp; omega)
 rintro rec i ⟨k,rfl,hk,hn⟩ ih
 unfold B_At_l1
 by_cases hlt:k < l.length
 ·rw [decide_eq_true (by omega),cond_true,getI_nat,List.getElem?_eq_getElem hlt,Option.bind_some]
  by_cases he:l[k]=v
  ·rw [show (l[k]==v)=true by simpa using he,cond_true]
   have hm:v∈l:=he▸List.getElem_mem hlt
   exact ⟨_,rfl,by simp [hm],by simp [hm]⟩
  ·rw [show (l[k]==v)=false by simpa using he,cond_false,wrI (by omega) (by omega)]
   refine ih _ ⟨k+1,by simp,hlt,?_⟩ (by (try simp only); omega)
   rw [List.take_succ_eq_append_getElem hlt]
   simp only [List.mem_append,List.mem_singleton,not_or]
   exact ⟨hn,fun h=>he h.symm⟩
 ·rw [decide_eq_false (by omega),cond_false]
  have hm:v ∉ l:=by rwa [List.take_of_length_le (by omega)] at hn
  exact ⟨-1,rfl,by simp [hm],by simp [hm]⟩
def Clm (l:List Int) (n:Int):Prop:=∀ (k:Nat) (x:Int),l[k]? =some x→0≤x∧x < n∧∀ y,0 < k→l[k - 1]? =some y→y < x
theorem climbs_eq {l:List Int}{n:Int} (h:Clm l n) (hl:l.length≤9223372036854775807) (h0:0≤n) (hn:n≤1000000):B_Climbs l n=some true:=by
 unfold B_Climbs
 refine loopF_spec (body:=B_Climbs_l1 l n) (fun i:Int=>∃ k:Nat,i=k∧k≤l.length) (fun i=>l.length - i.toNat) (fun _=>true) ?_ big 0 ⟨0,rfl,Nat.zero_le _⟩ (by unfold big; simp; omega)
 rintro rec i ⟨k,rfl,hk⟩ ih
 unfold B_Climbs_l1
 by_cases hlt:k < l.length
 ·rw [decide_eq_true (by omega),cond_true,getI_nat,List.getElem?_eq_getElem hlt]
  simp only [Option.bind_some]
  obtain ⟨a1,a2,a3⟩:=h k _ (List.getElem?_eq_getElem hlt)
  rw [inside_eq,Option.bind_some,wrI (x:=n - 1) (by omega) (by omega),inB_iff.2 (by omega),Bool.not_true,cond_false,wrI (x:=(k:Int)+1) (by omega) (by omega)]
  have next:rec ((k:Int)+1)=some true:=ih _ ⟨k+1,by simp,by omega⟩ (by (try simp only); omega)
  by_cases hk0:0 < k
  ·rw [decide_eq_true (show (k:Int) > 0 by omega),cond_true,wrI (x:=(k:Int) - 1) (by omega) (by omega),show (k:Int) - 1=((k - 1:Nat):Int) by omega,getI_nat,List.getElem?_eq_getElem (by omega),Option.bind_some]
   have:=a3 _ hk0 (List.getElem?_eq_getElem (by omega))
   rw [decide_eq_false (by omega),cond_false,next]
  ·rw [decide_eq_false (show ¬(k:Int) > 0 by omega),cond_false,next]
 ·rw [decide_eq_false (by omega),cond_false]
theorem Clm.nil {n:Int}:Clm [] n:=fun k x h=>by simp at h
theorem Clm.snoc {l:List Int}{n v:Int} (h:Clm l n) (h0:0≤v) (h1:v < n) (h2:∀ y,l.getLast? =some y→y < v):Clm (l++[v]) n:=by
 intro k x hx
 by_cases hk:k < l.length
 ·rw [List.getElem?_append_left hk] at hx
  obtain ⟨a1,a2,a3⟩:=h k x hx
  refine ⟨a1,a2,fun y h0 hy=>a3 y h0 ?_⟩
  rwa [List.getElem?_append_left (by omega)] at hy
 ·rw [List.getElem?_append_right (by omega),List.getElem?_singleton] at hx
  split at hx
  ·cases hx
   refine ⟨h0,h1,fun y hk0 hy=>h2 y ?_⟩
   rw [List.getElem?_append_left (by omega)] at hy
   rw [List.getLast?_eq_getElem?,← hy]
   congr 1; omega
  ·cases hx
theorem Clm.lt {l:List Int}{n:Int} (h:Clm l n):∀ (d i:Nat) (x y:Int),l[i]? =some x→l[i+d+1]? =some y→x < y:=by
 intro d
 induction d with
 | zero=>intro i x y hx hy; exact (h (i+1) y hy).2.2 x (by omega) (by simpa using hx)
 | succ d ih=>
   intro i x y hx hy
   have hlt:i+d+1 < l.length:=by have:=(List.getElem?_eq_some_iff.1 hy).1; omega
   have h1:=ih i x _ hx (List.getElem?_eq_getElem hlt)
   have h2:=(h (i+(d+1)+1) y hy).2.2 _ (by omega) (by rw [show i+(d+1)+1 - 1=i+d+1 by omega]; exact List.getElem?_eq_getElem hlt)
   omega
theorem Clm.len {l:List Int}{n:Int} (h:Clm l n) (h0:0≤n):(l.length:Int)≤n:=by
 have:∀ (k:Nat) (x:Int),l[k]? =some x→(k:Int)≤x:=by
  intro k
  induction k with
  | zero=>intro x hx; have:=(h 0 x hx).1; omega
  | succ k ih=>
    intro x hx
    have hlt:k < l.length:=by have:=(List.getElem?_eq_some_iff.1 hx).1; omega
    have h1:=ih _ (List.getElem?_eq_getElem hlt)
    have h2:=h.lt 0 k _ x (List.getElem?_eq_getElem hlt) hx
    omega
 by_cases hl:l.length=0
 ·omega
 ·have hlt:l.length - 1 < l.length:=by omega
  have h1:=this _ _ (List.getElem?_eq_getElem hlt)
  have h2:=(h _ _ (List.getElem?_eq_getElem hlt)).2.1
  omega
structure Ext (n:Nat) (l:List Int) (many:Nat) (o:List Int):Prop where
 len:o.length=many
 clm:Clm o n
 pre:∀ (i:Nat) (x:Int),l[i]? =some x→o[i]? =some x
def LexLt (o w:List Int):Prop:=∃ (i:Nat) (x y:Int),o[i]? =some x∧w[i]? =some y∧x < y∧∀ j,j < i→o[j]? =w[j]?
theorem Ext.more {n many:Nat}{l o:List Int}{x:Int} (h:Ext n l many o) (hx:o[l.length]? =some x):Ext n (l++[x]) many o:=by
 refine ⟨h.len,h.clm,fun i y hy=>?_⟩
 by_cases hi:i < l.length
 ·rw [List.getElem?_append_left hi] at hy; exact h.pre i y hy
 ·rw [List.getElem?_append_right (by omega),List.getElem?_singleton] at hy
  split at hy
  ·cases hy; rw [show i=l.length by omega]; exact hx
  ·cases hy
theorem Ext.less {n many:Nat}{l o:List Int}{x:Int} (h:Ext n (l++[x]) many o):Ext n l many o∧o[l.length]? =some x:=by
 refine ⟨⟨h.len,h.clm,fun i y hy=>h.pre i y ?_⟩,h.pre _ _ (by simp)⟩
 rw [List.getElem?_append_left (List.getElem?_eq_some_iff.1 hy).1]; exact hy
theorem fits_of {m bb:Nat} (h:m≤1000000000) (hb:bb≤100000):fitsL m bb=true:=by
 unfold fitsL
 refine decide_eq_true ?_
 have:m*bb≤1000000000*100000:=Nat.mul_le_mul h hb
 omega
theorem fits_small {m bb:Nat} (h:m≤1000000) (hb:bb≤1000):fitsL m bb=true:=fits_of (by omega) (by omega)
theorem shr_nat (s k:Nat) (hk:k < 64):shrI (s:Int) (k:Int)=((s / 2 ^ k:Nat):Int):=by
 unfold shrI
 rw [show min ((k:Int).toNat) 64=k by simp; omega,Int.fdiv_eq_ediv_of_nonneg _ (by exact_mod_cast Int.natCast_nonneg (2 ^ k))]
 simp
theorem and1_nat (m:Nat):andI (m:Int) 1=((m % 2:Nat):Int):=by
 unfold andI
 have h1:BitVec.ofInt 64 (m:Int)=BitVec.ofNat 64 m:=BitVec.ofInt_natCast 64 m
 have h2:BitVec.ofInt 64 1=BitVec.ofNat 64 1:=rfl
 rw [h1,h2,BitVec.toNat_and]
 simp only [BitVec.toNat_ofNat]
 have:m % 2 ^ 64 &&& 1 % 2 ^ 64=m % 2:=by
  rw [show 1 % 2 ^ 64=1 by decide,Nat.and_one_is_mod]; omega
 rw [this,wrI (by omega) (by omega)]
theorem member_nat (s k:Nat) (hk:k < 64):B_Member (s:Int) (k:Int)=some (s.testBit k):=by
 unfold B_Member
 rw [need_of (by simp),shr_nat s k hk,and1_nat,Nat.testBit_eq_decide_div_mod_eq]
 congr 1
 rw [Bool.eq_iff_iff]
 simp only [beq_iff_eq,decide_eq_true_eq]
 omega
theorem shl1_nat (k:Nat) (hk:k < 32):shlI 1 (k:Int)=((2 ^ k:Nat):Int):=by
 unfold shlI
 rw [show min ((k:Int).toNat) 64=k by simp; omega]
 have h1:2 ^ k≤2 ^ 32:=Nat.pow_le_pow_right (by omega) (by omega)
 have h2:(1:Int)*2 ^ k=((2 ^ k:Nat):Int):=by simp
 rw [h2]
 generalize 2 ^ k=m at h1
 exact wrI (by omega) (by omega)
theorem or_nat (s t:Nat) (hs:s < 2 ^ 32) (ht:t < 2 ^ 32):orI (s:Int) (t:Int)=((s ||| t:Nat):Int):=by
 unfold orI
 have h1:BitVec.ofInt 64 (s:Int)=BitVec.ofNat 64 s:=BitVec.ofInt_natCast 64 s
 have h2:BitVec.ofInt 64 (t:Int)=BitVec.ofNat 64 t:=BitVec.ofInt_natCast 64 t
 have h3:s ||| t < 2 ^ 32:=Nat.or_lt_two_pow hs ht
 rw [h1,h2,BitVec.toNat_or,BitVec.toNat_ofNat,BitVec.toNat_ofNat,Nat.mod_eq_of_lt (by omega),Nat.mod_eq_of_lt (by omega),wrI (by omega) (by omega)]
def Btr (o w:List Int):Prop:=o.length < w.length∨(o.length=w.length∧LexLt o w)
theorem LexLt.trans {a b c:List Int} (h:LexLt a b) (k:LexLt b c):LexLt a c:=by
 obtain ⟨i,x,y,h1,h2,h3,h4⟩:=h
 obtain ⟨j,u,v,k1,k2,k3,k4⟩:=k
 rcases Nat.lt_trichotomy i j with e | e | e
 ·exact ⟨i,x,y,h1,by rw [← k4 i e]; exact h2,h3,fun m hm=>by rw [h4 m hm,k4 m (by omega)]⟩
 ·subst e
  rw [h2] at k1; have:=Option.some.inj k1
  exact ⟨i,x,v,h1,k2,by omega,fun m hm=>by rw [h4 m hm,k4 m hm]⟩
 ·exact ⟨j,u,v,by rw [h4 j e]; exact k1,k2,k3,fun m hm=>by rw [h4 m (by omega),k4 m hm]⟩
theorem Btr.trans {a b c:List Int} (h:Btr a b) (k:Btr b c):Btr a c:=by
 rcases h with h | ⟨h,h'⟩ <;> rcases k with k | ⟨k,k'⟩
 ·exact .inl (by omega)
 ·exact .inl (by omega)
 ·exact .inl (by omega)
 ·exact .inr ⟨by omega,h'.trans k'⟩
end Go.Proofs.YtafhljljfglfeaaDoor
namespace Go.Proofs.YtafhljljfglfeaaDoor
open Go Go.Fx
def foldY {ε σ:Type} (yv:ε→σ→Option (Bool×σ)):List ε→σ→Option (Bool×σ)
 | [],s=>some (true,s)
 | x::l,s=>(yv x s).bind fun r=>bif r.1 then foldY yv l r.2 else some (false,r.2)
theorem foldY_app {ε σ:Type} (yv:ε→σ→Option (Bool×σ)):∀ (l m:List ε) (s:σ),foldY yv (l++m) s=(foldY yv l s).bind fun r=>bif r.1 then foldY yv m r.2 else some (false,r.2)
 | [],m,s=>rfl
 | x::l,m,s=>by
   show (yv x s).bind (fun r=>bif r.1 then foldY yv (l++m) r.2 else some (false,r.2))=Option.bind ((yv x s).bind fun r=>bif r.1 then foldY yv l r.2 else some (false,r.2)) _
   cases yv x s with
   | none=>rfl
   | some r=>
     obtain ⟨b,s2⟩:=r
     cases b with
     | true=>exact foldY_app yv l m s2
     | false=>rfl
theorem foldY_one {ε σ:Type} (yv:ε→σ→Option (Bool×σ)) (x:ε) (s:σ):foldY yv [x] s=yv x s:=by
 show (yv x s).bind (fun r=>bif r.1 then some (true,r.2) else some (false,r.2))=_
 cases yv x s with
 | none=>rfl
 | some r=>obtain ⟨b,s2⟩:=r; cases b <;> rfl
theorem foldY_find {ε σ:Type} (bd:ε→σ→Option (Bool×Nat×σ)) (p:ε→Bool) (s0 s1:σ):∀ (L:List ε),(∀ x∈L,bd x s0=some (bif p x then (false,1,s1) else (true,0,s0)))→foldY (yvOf bd) L (0,s0)=some (bif L.any p then (false,1,s1) else (true,0,s0))
 | [],_=>rfl
 | x::L,h=>by
   show (bd x s0).bind (fun r=>bif r.1 then foldY (yvOf bd) L r.2 else some (false,r.2))=_
   rw [h x (List.mem_cons_self ..),List.any_cons]
   cases hp:p x with
   | true=>rfl
   | false=>exact foldY_find bd p s0 s1 L fun x hx=>h x (List.mem_cons_of_mem _ hx)
end Go.Proofs.YtafhljljfglfeaaDoor
namespace Go.Proofs.YtafhljljfglfeaaDoor
open Go Go.Fx Go.Tally
theorem loop_all {ρ:Type}{body:(Int→Option ρ)→Int→Option ρ} (n:Nat) (p:Nat→Bool) {Rf Rt:Option ρ} (hs:∀ rec k,k < n→body rec (k:Int)=bif p k then rec ((k+1:Nat):Int) else Rf) (he:∀ rec,body rec (n:Int)=Rt) (hn:n < big):loopF body big 0=bif (List.range n).all p then Rt else Rf:=by
 have key:∀ d k m,k+d=n→d < m→loopF body m (k:Int)=bif (List.range' k d).all p then Rt else Rf:=by
  intro d
  induction d with
  | zero=>
    intro k m h1 h2
    obtain ⟨m,rfl⟩:∃ q,m=q+1:=⟨m - 1,by omega⟩
    obtain rfl:k=n:=by omega
    exact he _
  | succ d ih=>
    intro k m h1 h2
    obtain ⟨m,rfl⟩:∃ q,m=q+1:=⟨m - 1,by omega⟩
    show body (loopF body m) (k:Int)=_
    rw [hs _ k (by omega),List.range'_succ,List.all_cons,ih (k+1) m (by omega) (by omega)]
    cases p k <;> rfl
 rw [List.range_eq_range']
 exact key n 0 big (by omega) hn
theorem idx_show (l:List TicketShow) (a:TicketShow→Option Bool) (g:TicketShow→Bool) (h:∀ x∈l,a x=some (g x)) (hl:l.length≤1000):∃ r,sl_IndexFunc_api_TicketShow_api_TicketShow l a=some r∧(0≤r↔l.any g=true):=by
 unfold sl_IndexFunc_api_TicketShow_api_TicketShow
 refine loopF_inv (body:=sl_IndexFunc_api_TicketShow_api_TicketShow_l1 l a) (fun i:Int=>∃ k:Nat,i=k∧k≤l.length∧(l.take k).any g=false) (fun i=>l.length - i.toNat) (fun r=>(0≤r↔l.any g=true)) ?_ big 0 ⟨0,rfl,Nat.zero_le _,by simp⟩ (by unfold big; simp; omega)
 rintro rec i ⟨k,rfl,hk,hn⟩ ih
 unfold sl_IndexFunc_api_TicketShow_api_TicketShow_l1
 by_cases hlt:k < l.length
 ·rw [decide_eq_true (by omega),cond_true,getI_ix hlt,Option.bind_some,h _ (List.getElem_mem hlt),Option.bind_some]
  cases hg:g l[k] with
  | true=>exact ⟨_,rfl,⟨fun _=>List.any_eq_true.2 ⟨_,List.getElem_mem hlt,hg⟩,fun _=>by omega⟩⟩
  | false=>
    rw [cond_false,wrI (by omega) (by omega)]
    refine ih _ ⟨k+1,by simp,hlt,?_⟩ (by (try simp only); omega)
    rw [List.take_succ_eq_append_getElem hlt,List.any_append,hn]
    simp [hg]
 ·rw [decide_eq_false (by omega),cond_false]
  rw [List.take_of_length_le (by omega)] at hn
  exact ⟨-1,rfl,by simp [hn]⟩
theorem has_show (l:List TicketShow) (a:TicketShow→Option Bool) (g:TicketShow→Bool) (h:∀ x∈l,a x=some (g x)) (hl:l.length≤1000):sl_ContainsFunc_api_TicketShow_api_TicketShow l a=some (l.any g):=by
 obtain ⟨r,hr,hi⟩:=idx_show l a g h hl
 unfold sl_ContainsFunc_api_TicketShow_api_TicketShow
 rw [hr,Option.bind_some]
 congr 1
 rw [Bool.eq_iff_iff,decide_eq_true_eq]
 exact hi
theorem idx_box (l:List TicketBox) (a:TicketBox→Option Bool) (g:TicketBox→Bool) (h:∀ x∈l,a x=some (g x)) (hl:l.length≤1000):∃ r,sl_IndexFunc_api_TicketBox_api_TicketBox l a=some r∧(0≤r↔l.any g=true):=by
 unfold sl_IndexFunc_api_TicketBox_api_TicketBox
 refine loopF_inv (body:=sl_IndexFunc_api_TicketBox_api_TicketBox_l1 l a) (fun i:Int=>∃ k:Nat,i=k∧k≤l.length∧(l.take k).any g=false) (fun i=>l.length - i.toNat) (fun r=>(0≤r↔l.any g=true)) ?_ big 0 ⟨0,rfl,Nat.zero_le _,by simp⟩ (by unfold big; simp; omega)
 rintro rec i ⟨k,rfl,hk,hn⟩ ih
 unfold sl_IndexFunc_api_TicketBox_api_TicketBox_l1
 by_cases hlt:k < l.length
 ·rw [decide_eq_true (by omega),cond_true,getI_ix hlt,Option.bind_some,h _ (List.getElem_mem hlt),Option.bind_some]
  cases hg:g l[k] with
  | true=>exact ⟨_,rfl,⟨fun _=>List.any_eq_true.2 ⟨_,List.getElem_mem hlt,hg⟩,fun _=>by omega⟩⟩
  | false=>
    rw [cond_false,wrI (by omega) (by omega)]
    refine ih _ ⟨k+1,by simp,hlt,?_⟩ (by (try simp only); omega)
    rw [List.take_succ_eq_append_getElem hlt,List.any_append,hn]
    simp [hg]
 ·rw [decide_eq_false (by omega),cond_false]
  rw [List.take_of_length_le (by omega)] at hn
  exact ⟨-1,rfl,by simp [hn]⟩
theorem has_box (l:List TicketBox) (a:TicketBox→Option Bool) (g:TicketBox→Bool) (h:∀ x∈l,a x=some (g x)) (hl:l.length≤1000):sl_ContainsFunc_api_TicketBox_api_TicketBox l a=some (l.any g):=by
 obtain ⟨r,hr,hi⟩:=idx_box l a g h hl
 unfold sl_ContainsFunc_api_TicketBox_api_TicketBox
 rw [hr,Option.bind_some]
 congr 1
 rw [Bool.eq_iff_iff,decide_eq_true_eq]
 exact hi
theorem has_int (l:List Int) (v:Int) (hl:l.length≤1000000):sl_Contains_int_int l v=some (decide (v∈l)):=by
 have:∃ r,sl_Index_int_int l v=some r∧(0≤r↔v∈l):=by
  unfold sl_Index_int_int
  refine loopF_inv (body:=sl_Index_int_int_l1 l v) (fun i:Int=>∃ k:Nat,i=k∧k≤l.length∧v ∉ l.take k) (fun i=>l.length - i.toNat) (fun r=>(0≤r↔v∈l)) ?_ big 0 ⟨0,rfl,Nat.zero_le _,by simp⟩ (by unfold big; simp; omega)
  rintro rec i ⟨k,rfl,hk,hn⟩ ih
  unfold sl_Index_int_int_l1
  by_cases hlt:k < l.length
  ·rw [decide_eq_true (by omega),cond_true,getI_ix hlt,Option.bind_some]
   by_cases he:v=l[k]
   ·rw [show (v==l[k])=true by simpa using he,cond_true]
    have hm:v∈l:=he▸List.getElem_mem hlt
    exact ⟨_,rfl,by simp [hm]⟩
   ·rw [show (v==l[k])=false by simpa using he,cond_false,wrI (by omega) (by omega)]
    refine ih _ ⟨k+1,by simp,hlt,?_⟩ (by (try simp only); omega)
    rw [List.take_succ_eq_append_getElem hlt]
    simp only [List.mem_append,List.mem_singleton,not_or]
    exact ⟨hn,he⟩
  ·rw [decide_eq_false (by omega),cond_false]
   have hm:v ∉ l:=by rwa [List.take_of_length_le (by omega)] at hn
   exact ⟨-1,rfl,by simp [hm]⟩
 obtain ⟨r,hr,hi⟩:=this
 unfold sl_Contains_int_int
 rw [hr,Option.bind_some]
 congr 1
 exact decide_eq_decide.2 hi
def popN (s:Nat):Int:=(if s.testBit 0 then 1 else 0)+(if s.testBit 1 then 1 else 0)+(if s.testBit 2 then 1 else 0)
theorem pop_bd (s:Nat):0≤popN s∧popN s≤3:=by
 unfold popN
 cases s.testBit 0 <;> cases s.testBit 1 <;> cases s.testBit 2 <;> decide
theorem pop_all:((List.range 8).all fun s=>decide (bits_OnesCount (wrK .u64 ((s:Nat):Int))=some (popN s)))=true:=by kernel_rfl
theorem pop_eq {s:Nat} (h:s < 8):bits_OnesCount (wrK .u64 (s:Int))=some (popN s):=of_decide_eq_true (List.all_eq_true.1 pop_all s (List.mem_range.2 h))
theorem and_all:((List.range 8).all fun s=>(List.range 8).all fun t=>decide (andI ((s:Nat):Int) ((t:Nat):Int)=((s &&& t:Nat):Int)))=true:=by kernel_rfl
theorem and_nat {s t:Nat} (h:s < 8) (k:t < 8):andI (s:Int) (t:Int)=((s &&& t:Nat):Int):=of_decide_eq_true (List.all_eq_true.1 (List.all_eq_true.1 and_all s (List.mem_range.2 h)) t (List.mem_range.2 k))
theorem bit_out {s n:Nat} (h:s < 8) (k:3≤n):s.testBit n=false:=by
 refine Nat.testBit_lt_two_pow (Nat.lt_of_lt_of_le h ?_)
 exact Nat.pow_le_pow_right (n:=2) (by omega) k
theorem and_sub {s t:Nat}:s &&& t=t↔∀ n,t.testBit n=true→s.testBit n=true:=by
 constructor
 ·intro h n hn
  rw [← h,Nat.testBit_and,Bool.and_eq_true] at hn
  exact hn.1
 ·intro h
  refine Nat.eq_of_testBit_eq fun n=>?_
  rw [Nat.testBit_and]
  cases ht:t.testBit n with
  | false=>simp
  | true=>simp [h n ht]
def pv (c u:List Int) (d:Nat):Int:=c.getD d 0 - popN (u.getD d 0).toNat
def paidN (c u:List Int) (f n:Nat):Int:=((List.range' f n).map (pv c u)).sum
theorem paidN_add (c u:List Int) (f n m:Nat):paidN c u f (n+m)=paidN c u f n+paidN c u (f+n) m:=by
 unfold paidN
 rw [← List.range'_append_1,List.map_append,List.sum_append]
theorem paidN_succ (c u:List Int) (f n:Nat):paidN c u f (n+1)=paidN c u f n+pv c u (f+n):=by
 rw [paidN_add]; simp [paidN]
structure Small (c u:List Int):Prop where
 c3:c.length=3
 u3:u.length=3
 cb:∀ d,0≤c.getD d 0∧c.getD d 0≤5
 ub:∀ d,0≤u.getD d 0∧u.getD d 0 < 8
theorem Small.pv {c u:List Int} (h:Small c u) (d:Nat):-3≤pv c u d∧YtafhljljfglfeaaDoor.pv c u d≤5:=by
 have h1:=h.cb d; have h2:=pop_bd (u.getD d 0).toNat
 unfold YtafhljljfglfeaaDoor.pv; omega
theorem Small.paid {c u:List Int} (h:Small c u) (f:Nat):∀ n:Nat,-3*(n:Int)≤paidN c u f n∧paidN c u f n≤5*(n:Int):=by
 intro n
 induction n with
 | zero=>simp [paidN]
 | succ n ih=>
   rw [paidN_succ]
   have:=h.pv (f+n)
   omega
theorem sumI_eq (l:List Int) (hl:l.length≤8) (hb:∀ x∈l,-3≤x∧x≤5):ticket_sum_int l=some l.sum:=by
 have sum_bd:∀ (l:List Int),(∀ x∈l,-3≤x∧x≤5)→-3*(l.length:Int)≤l.sum∧l.sum≤5*(l.length:Int):=by
  intro l
  induction l with
  | nil=>simp
  | cons x l ih=>
    intro h
    have h1:=h x (List.mem_cons_self ..)
    have h2:=ih fun n hn=>h n (List.mem_cons_of_mem _ hn)
    simp only [List.sum_cons,List.length_cons]
    omega
 unfold ticket_sum_int
 refine loop_fold0 (fun k=>((l.take k).sum,(k:Int))) l.length (fun rec k hk=>?_) (fun rec=>?_) (by rw [big_eq]; omega) rfl
 ·unfold ticket_sum_int_l1
  simp only
  have h1:=sum_bd (l.take k) fun x hx=>hb x (List.mem_of_mem_take hx)
  have h2:=hb _ (List.getElem_mem hk)
  have h3:(l.take k).length≤8:=by rw [List.length_take]; omega
  rw [decide_eq_true (by omega),cond_true,getI_ix hk,Option.bind_some,wrI (by omega) (by omega),wrI (by omega) (by omega),← List.take_append_getElem hk,List.sum_append]
  simp
 ·unfold ticket_sum_int_l1
  simp only
  rw [decide_eq_false (by omega),cond_false,List.take_length]
theorem agetN (l:List Int) (k:Nat):aget l (k:Int)=l.getD k 0:=rfl
theorem usedN {c u:List Int} (h:Small c u) (d:Nat):((u.getD d 0).toNat:Int)=u.getD d 0∧(u.getD d 0).toNat < 8:=by
 have:=h.ub d; omega
theorem paid_eq {c u:List Int} (h:Small c u) {f t:Int} (f0:0≤f) (ft:f≤t) (t3:t < 3):ticket_truth_paid ⟨c,u⟩ f t=some (paidN c u f.toNat (t+1 - f).toNat):=by
 unfold ticket_truth_paid
 refine loop_fold0 (fun k=>((List.range' f.toNat k).map (pv c u),f+k)) (t+1 - f).toNat (fun rec k hk=>?_) (fun rec=>?_) (by rw [big_eq]; omega) (by simp)
 ·unfold ticket_truth_paid_l1
  simp only
  have e:f+(k:Int)=((f.toNat+k:Nat):Int):=by omega
  have hu:=usedN h (f.toNat+k)
  have hp:=pop_eq hu.2
  rw [hu.1] at hp
  have hv:=h.pv (f.toNat+k)
  have hb:=h.cb (f.toNat+k)
  have hq:=pop_bd (u.getD (f.toNat+k) 0).toNat
  rw [decide_eq_true (by omega),cond_true,need_of (by simp [inI]; omega),need_of (by simp [inI]; omega),e,agetN,agetN,hp,Option.bind_some,wrI (x:=_ - popN _) (by omega) (by omega),need_of (fits_small (by simp; omega) (by omega)),wrI (by omega) (by omega)]
  rw [List.range'_1_concat,List.map_append]
  refine congrArg rec ?_
  refine Prod.ext rfl ?_
  show ((f.toNat+k:Nat):Int)+1=f+((k+1:Nat):Int)
  omega
 ·unfold ticket_truth_paid_l1
  simp only
  rw [decide_eq_false (by omega),cond_false,sumI_eq _ (by simp; omega) (fun x hx=>by
   obtain ⟨k,_,rfl⟩:=List.mem_map.1 hx
   exact h.pv k)]
  rfl
end Go.Proofs.YtafhljljfglfeaaDoor
/- What the functions of the program compute, and that they do, printed by a program of mine. -/
import Derived.Test.YtafhljljfglfeaaGreatDoorZWF
import Derived.KernelRfl
import Derived.Test.YtafhljljfglfeaaGreatDoorZGFxTwo
import Derived.OpenShut
import Derived.RowKit
import Derived.WideKeyArgs
import Derived.ChangeOld
import Derived.LaidMore
import Derived.LaidLaws
import Derived.Deep.DeepHandedRow
import Derived.ProofKit
import Derived.Test.YtafhljljfglfeaaGreatDoorCards
import Derived.Test.YtafhljljfglfeaaGreatDoorTie
set_option linter.unusedVariables false
set_option linter.unusedSimpArgs false
namespace Go.Proofs.YtafhljljfglfeaaGreatDoor
open Go Go.Fx Go.Proofs
set_option maxRecDepth 100000 in
theorem ref10_May_ok {a0:TicketBook}{a1:Int}{A1:Option Addr}{c2:Nat}{A4:Option Addr}{c5:Nat}{A7:Option Addr}{c8:Nat}{A10:Option Addr}{c11:Nat}{w:World}{r:(List Int)×Int} (H:ref10_May a0 a1=some r) (h3:(rd eTallyCount 7 A1 c2 a0.Tally.Counts).ok w) (h6:(rd eTicketSeason 2 A4 c5 a0.Tickets).ok w) (h9:(rd eTicketShow 3 A7 c8 a0.Shows).ok w) (h12:(rd eTicketBox 4 A10 c11 a0.Boxes).ok w):Calls Tryz.prog 41 #[AG (vB a0 A1 c2 A4 c5 A7 c8 A10 c11),I a1] w fun en w_=>∃ u_,en=.returned u_∧∃ A_1:Option Addr,∃ c_2:Nat,u_=TU [SL A_1 r.1.length c_2,I r.2]∧Keep0 w w_∧((gr intE 1 3 A_1 c_2 r.1).ok w_∧New w.heap.size (gr intE 1 3 A_1 c_2 r.1))∧True:=by
 unfold ref10_May at H
 refine fn_of (n:=39) Tryz.func41 rfl rfl (lE rfl) ?_
 have S:=St.start w nF _ (cA h3 (cA h6 (cA h9 (cA h12 nM))))
 refine c_seq<|reg<|p_boxA rfl S fun b13 w14 S15=>p_aS rfl<|p_aI rfl<|wp_nil<|c_seq ?_
 obtain ⟨r18,h19,H⟩:=bindS H
 obtain ⟨r24,h25,H⟩:=bindS H
 refine reg_any mixed 10 (by kernel_rfl) [rv (AG (vB a0 A1 c2 A4 c5 A7 c8 A10 c11)),rv (AG (vB a0 A1 c2 A4 c5 A7 c8 A10 c11)),rv (I a1),rv (B r18),rx (α:=(Option Addr)×(List (Ref10_truth×(Option Addr)×Nat×(Option Addr)×Nat))×Nat) (fun ⟨A28,l30,c29⟩=>TU [SL A28 l30.length c29,I r24.2]) (fun ⟨A28,l30,c29⟩ lo hi=>BtwL lo hi [] (rd nRef10_truth 2 A28 c29 l30)∧BtwL lo hi [rd eTallyCount 7 A1 c2 a0.Tally.Counts,rd eTicketSeason 2 A4 c5 a0.Tickets,rd eTicketShow 3 A7 c8 a0.Shows,rd eTicketBox 4 A10 c11 a0.Boxes] (ri nRef10_truthI l30 r24.1)∧True) (fun ⟨A28,l30,c29⟩=>[rd nRef10_truth 2 A28 c29 l30,ri nRef10_truthI l30 r24.1]),dv 15 some,dv 10 (exG 0),dv 10 (exG 1),dv 16 some,rv (I r24.2)] [[],[],[],[],[],[15],[10],[10],[16],[]] rfl (by kernel_rfl) [[],[],[],[1,2],[0,1,2,3],[0,1,2,3,4],[0,1,2,3,4,5],[0,1,2,3,4,5],[0,1,2,3,4,5,6],[0,1,2,3,4,5,6,7,8]] (by kernel_rfl) ⟨?_,?_,?_,?_,?_,?_,?_,?_,?_,?_,trivial⟩ ?_
 ·intro e_ w_ k_ hf_ hR_
  have S_:St w_ nF w_ [] [bl b13 (vB a0 A1 c2 A4 c5 A7 c8 A10 c11) 29,rd eTallyCount 7 A1 c2 a0.Tally.Counts,rd eTicketSeason 2 A4 c5 a0.Tickets,rd eTicketShow 3 A7 c8 a0.Shows,rd eTicketBox 4 A10 c11 a0.Boxes]:=S15.asP k_
  refine hopE [(2,P b13 0)] ⟨((hf_ 2 rfl).trans (rfl:_=P b13 0)),trivial⟩ ?_
  exact p_ldA ty29 sz29 (S_.atP (i:=0) rfl) rfl rfl<|wp_nil ⟨_,rfl,S_.keep,rfl⟩
 ·intro e_ w_ k_ hf_ hR_
  have S_:St w_ nF w_ [] [bl b13 (vB a0 A1 c2 A4 c5 A7 c8 A10 c11) 29,rd eTallyCount 7 A1 c2 a0.Tally.Counts,rd eTicketSeason 2 A4 c5 a0.Tickets,rd eTicketShow 3 A7 c8 a0.Shows,rd eTicketBox 4 A10 c11 a0.Boxes]:=S15.asP k_
  refine hopE [(2,P b13 0)] ⟨((hf_ 2 rfl).trans (rfl:_=P b13 0)),trivial⟩ ?_
  exact p_ldA ty29 sz29 (S_.atP (i:=0) rfl) rfl rfl<|wp_nil ⟨_,rfl,S_.keep,rfl⟩
 ·intro e_ w_ k_ hf_ hR_
  have S_:St w_ nF w_ [] [bl b13 (vB a0 A1 c2 A4 c5 A7 c8 A10 c11) 29,rd eTallyCount 7 A1 c2 a0.Tally.Counts,rd eTicketSeason 2 A4 c5 a0.Tickets,rd eTicketShow 3 A7 c8 a0.Shows,rd eTicketBox 4 A10 c11 a0.Boxes]:=S15.asP k_
  refine hopE [(1,I a1)] ⟨((hf_ 1 rfl).trans (rfl:_=I a1)),trivial⟩ ?_
  exact p_mI rfl<|wp_nil ⟨_,rfl,S_.keep,rfl⟩
 ·intro e_ w_ k_ hf_ hR_
  have S_:St w_ nF w_ [] [bl b13 (vB a0 A1 c2 A4 c5 A7 c8 A10 c11) 29,rd eTallyCount 7 A1 c2 a0.Tally.Counts,rd eTicketSeason 2 A4 c5 a0.Tickets,rd eTicketShow 3 A7 c8 a0.Shows,rd eTicketBox 4 A10 c11 a0.Boxes]:=S15.asP k_
  refine hopE [(12,AG (vB a0 A1 c2 A4 c5 A7 c8 A10 c11)),(13,I a1)] ⟨rQ (hR_ 1 12 rfl (lE rfl) rfl),rQ (hR_ 2 13 rfl (lE rfl) rfl),trivial⟩ ?_
  refine p_cv (ref10_isTrip_ok h19 (S_.atP (i:=1) rfl) (S_.atP (i:=2) rfl) (S_.atP (i:=3) rfl) (S_.atP (i:=4) rfl)) fu59 rfl S_ fun w20 S21=>wp_nil ?_
  exact ⟨_,rfl,S21.keep,rfl⟩
 ·intro e_ w_ k_ hf_ hR_
  have S_:St w_ nF w_ [] [bl b13 (vB a0 A1 c2 A4 c5 A7 c8 A10 c11) 29,rd eTallyCount 7 A1 c2 a0.Tally.Counts,rd eTicketSeason 2 A4 c5 a0.Tickets,rd eTicketShow 3 A7 c8 a0.Shows,rd eTicketBox 4 A10 c11 a0.Boxes]:=S15.asP k_
  refine hopE [(11,AG (vB a0 A1 c2 A4 c5 A7 c8 A10 c11)),(14,B r18)] ⟨rQ (hR_ 0 11 rfl (lE rfl) rfl),rQ (hR_ 3 14 rfl (lE rfl) rfl),trivial⟩ ?_
  refine p_cal (ref10_asked_ok h25 (S_.atP (i:=1) rfl) (S_.atP (i:=2) rfl) (S_.atP (i:=3) rfl) (S_.atP (i:=4) rfl)) fu66 rfl ?_
  rintro _ w26 ⟨A28,c29,l30,rfl,k27,⟨o31,n32⟩,⟨o33,n34⟩,_⟩
  have S35:=S_.callN k27 [rd nRef10_truth 2 A28 c29 l30,ri nRef10_truthI l30 r24.1] (cA ⟨o31,New.inL n32⟩ (cA ⟨o33,Al.inL n34 ((cA (fp_mem (i:=1) rfl) (cA (fp_mem (i:=2) rfl) (cA (fp_mem (i:=3) rfl) (cA (fp_mem (i:=4) rfl) nM)))))⟩ nM))
  exact wp_nil ⟨_,rfl,S35.keep,⟨(A28,l30,c29),rfl,⟨bL (New.al (New.mono n32 S_.keep.size)) rfl (S35.atP (i:=0) rfl) rfl,bL n34 rfl (S35.atP (i:=1) rfl) rfl,trivial⟩,(cA (S35.atP (i:=0) rfl) (cA (S35.atP (i:=1) rfl) nM))⟩⟩
 ·intro e_ w_ k_ hf_ hR_
  have S_:St w_ nF w_ [] [bl b13 (vB a0 A1 c2 A4 c5 A7 c8 A10 c11) 29,rd eTallyCount 7 A1 c2 a0.Tally.Counts,rd eTicketSeason 2 A4 c5 a0.Tickets,rd eTicketShow 3 A7 c8 a0.Shows,rd eTicketBox 4 A10 c11 a0.Boxes]:=S15.asP k_
  obtain ⟨_,_,_,_,⟨A28,l30,c29⟩,q36,p37,a38⟩:=hR_ 4 15 rfl (lE rfl) rfl
  replace q36:e_ 15=TU [SL A28 l30.length c29,I r24.2]:=q36
  have S_:=St.addL' S_ (a38 _ (.head _)) (fun _ _ _ h_=>(nE h_))
  have S_:=St.addL' S_ (a38 _ (.tail _ (.head _))) (fun _ _ _ h_=>(nE h_))
  refine hopE [(15,TU [SL A28 l30.length c29,I r24.2])] ⟨q36,trivial⟩ ?_
  refine p_mT rfl<|wp_nil ?_
  exact ⟨_,rfl,S_.keep,rfl⟩
 ·intro e_ w_ k_ hf_ hR_
  have S_:St w_ nF w_ [] [bl b13 (vB a0 A1 c2 A4 c5 A7 c8 A10 c11) 29,rd eTallyCount 7 A1 c2 a0.Tally.Counts,rd eTicketSeason 2 A4 c5 a0.Tickets,rd eTicketShow 3 A7 c8 a0.Shows,rd eTicketBox 4 A10 c11 a0.Boxes]:=S15.asP k_
  obtain ⟨_,_,_,_,⟨A28,l30,c29⟩,q40,p41,a42⟩:=hR_ 4 15 rfl (lE rfl) rfl
  replace q40:e_ 15=TU [SL A28 l30.length c29,I r24.2]:=q40
  have S_:=St.addL' S_ (a42 _ (.head _)) (fun _ _ _ h_=>(nE h_))
  have S_:=St.addL' S_ (a42 _ (.tail _ (.head _))) (fun _ _ _ h_=>(nE h_))
  obtain ⟨_,_,_,_,q39⟩:=hR_ 5 10 rfl (lE rfl) rfl
  replace q39:e_ 10=TU [SL A28 l30.length c29,I r24.2]:=(sJ ((congrArg some q40).symm.trans q39)).symm
  refine hopE [(10,TU [SL A28 l30.length c29,I r24.2])] ⟨q39,trivial⟩ ?_
  refine p_ext rfl rfl<|wp_nil ?_
  exact ⟨_,rfl,S_.keep,rfl⟩
 ·intro e_ w_ k_ hf_ hR_
  have S_:St w_ nF w_ [] [bl b13 (vB a0 A1 c2 A4 c5 A7 c8 A10 c11) 29,rd eTallyCount 7 A1 c2 a0.Tally.Counts,rd eTicketSeason 2 A4 c5 a0.Tickets,rd eTicketShow 3 A7 c8 a0.Shows,rd eTicketBox 4 A10 c11 a0.Boxes]:=S15.asP k_
  obtain ⟨_,_,_,_,⟨A28,l30,c29⟩,q44,p45,a46⟩:=hR_ 4 15 rfl (lE rfl) rfl
  replace q44:e_ 15=TU [SL A28 l30.length c29,I r24.2]:=q44
  have S_:=St.addL' S_ (a46 _ (.head _)) (fun _ _ _ h_=>(nE h_))
  have S_:=St.addL' S_ (a46 _ (.tail _ (.head _))) (fun _ _ _ h_=>(nE h_))
  obtain ⟨_,_,_,_,q43⟩:=hR_ 5 10 rfl (lE rfl) rfl
  replace q43:e_ 10=TU [SL A28 l30.length c29,I r24.2]:=(sJ ((congrArg some q44).symm.trans q43)).symm
  refine hopE [(10,TU [SL A28 l30.length c29,I r24.2])] ⟨q43,trivial⟩ ?_
  refine p_ext rfl rfl<|wp_nil ?_
  exact ⟨_,rfl,S_.keep,rfl⟩
 ·intro e_ w_ k_ hf_ hR_
  have S_:St w_ nF w_ [] [bl b13 (vB a0 A1 c2 A4 c5 A7 c8 A10 c11) 29,rd eTallyCount 7 A1 c2 a0.Tally.Counts,rd eTicketSeason 2 A4 c5 a0.Tickets,rd eTicketShow 3 A7 c8 a0.Shows,rd eTicketBox 4 A10 c11 a0.Boxes]:=S15.asP k_
  obtain ⟨_,_,_,_,⟨A28,l30,c29⟩,q49,p50,a51⟩:=hR_ 4 15 rfl (lE rfl) rfl
  replace q49:e_ 15=TU [SL A28 l30.length c29,I r24.2]:=q49
  have S_:=St.addL' S_ (a51 _ (.head _)) (fun _ _ _ h_=>(nE h_))
  have S_:=St.addL' S_ (a51 _ (.tail _ (.head _))) (fun _ _ _ h_=>(nE h_))
  obtain ⟨_,_,_,_,q48⟩:=hR_ 5 10 rfl (lE rfl) rfl
  replace q48:e_ 10=TU [SL A28 l30.length c29,I r24.2]:=(sJ ((congrArg some q49).symm.trans q48)).symm
  obtain ⟨_,_,_,_,q47⟩:=hR_ 6 16 rfl (lE rfl) rfl
  replace q47:e_ 16=SL A28 l30.length c29:=(sJ ((congrArg (exG 0) q48).symm.trans q47)).symm
  refine hopE [(16,SL A28 l30.length c29)] ⟨q47,trivial⟩ ?_
  refine p_aS rfl<|wp_nil ?_
  exact ⟨_,rfl,S_.keep,rfl⟩
 ·intro e_ w_ k_ hf_ hR_
  have S_:St w_ nF w_ [] [bl b13 (vB a0 A1 c2 A4 c5 A7 c8 A10 c11) 29,rd eTallyCount 7 A1 c2 a0.Tally.Counts,rd eTicketSeason 2 A4 c5 a0.Tickets,rd eTicketShow 3 A7 c8 a0.Shows,rd eTicketBox 4 A10 c11 a0.Boxes]:=S15.asP k_
  obtain ⟨_,_,_,_,⟨A28,l30,c29⟩,q54,p55,a56⟩:=hR_ 4 15 rfl (lE rfl) rfl
  replace q54:e_ 15=TU [SL A28 l30.length c29,I r24.2]:=q54
  have S_:=St.addL' S_ (a56 _ (.head _)) (fun _ _ _ h_=>(nE h_))
  have S_:=St.addL' S_ (a56 _ (.tail _ (.head _))) (fun _ _ _ h_=>(nE h_))
  obtain ⟨_,_,_,_,q53⟩:=hR_ 5 10 rfl (lE rfl) rfl
  replace q53:e_ 10=TU [SL A28 l30.length c29,I r24.2]:=(sJ ((congrArg some q54).symm.trans q53)).symm
  obtain ⟨_,_,_,_,q52⟩:=hR_ 7 17 rfl (lE rfl) rfl
  replace q52:e_ 17=I r24.2:=(sJ ((congrArg (exG 1) q53).symm.trans q52)).symm
  refine hopE [(17,I r24.2)] ⟨q52,trivial⟩ ?_
  refine p_aI rfl<|wp_nil ?_
  exact ⟨_,rfl,S_.keep,rfl⟩
 intro e57 w58 lo59 hi60 k61 hf62 hR63 hd64
 have S65:=S15.call k61
 have q66:e57 11=AG (vB a0 A1 c2 A4 c5 A7 c8 A10 c11):=(hR63 0 11 (lE rfl) rfl).2.2.2
 have q67:e57 12=AG (vB a0 A1 c2 A4 c5 A7 c8 A10 c11):=(hR63 1 12 (lE rfl) rfl).2.2.2
 have q68:e57 13=I a1:=(hR63 2 13 (lE rfl) rfl).2.2.2
 have q69:e57 14=B r18:=(hR63 3 14 (lE rfl) rfl).2.2.2
 obtain ⟨h71,h72,h73,⟨A28,l30,c29⟩,q70,h74,h75⟩:=hR63 4 15 (lE rfl) rfl
 replace q70:e57 15=TU [SL A28 l30.length c29,I r24.2]:=q70
 obtain ⟨p76,p77,_⟩:=h74
 have S78:=St.addR S65 (h75 _ (.head _)) (oR p76 h71 S15 (nM))
 have S79:=St.addR S78 (h75 _ (.tail _ (.head _))) (oR p77 h71 S15 (mG [0,1,2,3] rfl))
 have q80:e57 10=TU [SL A28 l30.length c29,I r24.2]:=(sJ ((congrArg some q70).symm.trans (hR63 5 10 (lE rfl) rfl).2.2.2)).symm
 have q81:e57 16=SL A28 l30.length c29:=(sJ ((congrArg (exG 0) q80).symm.trans (hR63 6 16 (lE rfl) rfl).2.2.2)).symm
 have q82:e57 17=I r24.2:=(sJ ((congrArg (exG 1) q80).symm.trans (hR63 7 17 (lE rfl) rfl).2.2.2)).symm
 have q83:e57 6=SL A28 l30.length c29:=(sJ ((congrArg some q81).symm.trans (hR63 8 6 (lE rfl) rfl).2.2.2)).symm
 have q84:e57 7=I r24.2:=(hR63 9 7 (lE rfl) rfl).2.2.2
 refine tailE [(1,I a1),(6,SL A28 l30.length c29),(7,I r24.2)] ⟨((hf62 1 rfl).trans (rfl:_=I a1)),q83,q84,trivial⟩ ?_
 intro g85
 refine wp_nil<|c_seq<|c_seq<|reg<|p_mI rfl<|p_cmp rfl rfl rfl<|wp_nil ?_
 refine c_cond rfl (fun c86=>?_) (fun c86=>?_)
 ·replace H:=condT c86 H
  refine c_seq<|reg<|p_mI rfl<|p_aS rfl<|p_aI rfl<|wp_nil ?_
  obtain rfl:=sJ H
  refine c_ret ?_; show bodyPostM (Fr none) 0 Tryz.prog Tryz.f41 _ .ret _ _
  refine ret_of (res2 rfl (rvT (rfl:_=SL none 0 0)) (rvT (rfl:_=I r24.2))) ?_
  exact ⟨_,rfl,none,0,rfl,S79.keep,⟨gr_nil,New.grNil⟩,trivial⟩
 ·replace H:=condF c86 H
  refine c_skip<|c_seq<|reg<|p_aI rfl<|wp_nil<|c_seq<|c_seq<|reg<|p_aI rfl<|wp_nil<|c_block ?_
  have S87:=S79.pk [] (by decide) [0,1,2,3,4,5] rfl rfl
  refine c_lop (α:=Int×Int) (β:=Unit) (ref10_May_l3 r24 a1) (fun z_1 y_1=>[(1,I a1),(6,SL A28 l30.length c29),(8,I z_1.1),(9,I z_1.2)]) (fun z_1 y_1 w_=>St w nF w_ [] [ri nRef10_truthI l30 r24.1,rd nRef10_truth 2 A28 c29 l30,rd eTallyCount 7 A1 c2 a0.Tally.Counts,rd eTicketSeason 2 A4 c5 a0.Tickets,rd eTicketShow 3 A7 c8 a0.Shows,rd eTicketBox 4 A10 c11 a0.Boxes]) (0,0) () H ⟨rfl,rfl,rfl,rfl,trivial⟩ S87 ?_
  intro m88 z_1 y_1 e89 w90 H S91
  unfold ref10_May_l3 at H
  refine c_seq<|c_seq<|reg<|p_mI rfl<|p_mS rfl<|p_lenN rfl sc79 (ri_len (S91.atP (i:=0) rfl))<|p_cmp rfl rfl rfl<|wp_nil ?_
  refine c_cond rfl (fun c92=>?_) (fun c92=>?_)
  ·replace H:=condT c92 H
   refine c_skip<|c_seq<|c_block<|reg<|p_mI rfl<|p_mS rfl<|p_mI rfl ?_
   obtain ⟨r93,h94,H⟩:=bindS H
   obtain ⟨d95,h96⟩:=ri_at (S91.atP (i:=0) rfl) h94
   refine p_ixE sc79 h96 (S91.atP (i:=1) rfl).1 rfl rfl rfl<|p_fldE fl99_1 (sl_here (S91.atP (i:=1) rfl).1 h96) rfl<|p_ldE ty60 h96 (S91.atP (i:=1) rfl).1 rfl rfl ?_
   have S97:=S91.riIn (j:=0) (k:=1) rfl h96 rfl
   refine p_mI rfl ?_
   obtain ⟨r98,h99,H⟩:=bindS H
   refine p_ixE sc60 h99 (S97.atP (i:=0) rfl).1 rfl rfl rfl<|p_ldE ty3 h99 (S97.atP (i:=0) rfl).1 rfl rfl<|p_orI rfl rfl<|p_aI rfl<|wp_nil<|reg<|p_mI rfl<|p_add rfl rfl<|p_aI rfl<|wp_nil ?_
   have S100:=S97.pk [] (by decide) [1,2,3,4,5,6] rfl rfl
   exact ⟨(orI z_1.1 r98,wr (z_1.2+1)),(),_,rfl,⟨rfl,rfl,rfl,rfl,trivial⟩,H,S100⟩
  ·replace H:=condF c92 H
   refine c_exit<|c_seq<|reg<|p_mI rfl ?_
   obtain ⟨r101,h102,H⟩:=bindS H
   refine p_cal (B_Members_ok h102) fu81 rfl ?_
   rintro _ w103 ⟨A105,c106,rfl,k104,⟨o107,n108⟩,_⟩
   have S110:=S91.addNew k104 o107 n108
   refine p_aS rfl<|p_aI rfl<|wp_nil ?_
   obtain rfl:=sJ H
   refine c_ret ?_; show bodyPostM (Fr none) 0 Tryz.prog Tryz.f41 _ .ret _ _
   refine ret_of (res2 rfl (rvT (rfl:_=SL A105 r101.length c106)) (rvT (rfl:_=I 0))) ?_
   exact ⟨_,rfl,A105,c106,rfl,S110.keep,⟨S110.atX (i:=0) rfl,S110.newX (i:=0) rfl⟩,trivial⟩
def ref10_Clash (a0:TicketBook):Option (Int×Int×Int):=
 (ref10_Check a0).bind fun r16=>
 bif (r16 != 0) then (some (0,0,r16))
 else ((ref10_clashes a0).bind fun r21=>
 bif decide (r21.1 < 0) then (some (0,0,4))
 else (some (r21.1,r21.2,0)))
set_option maxRecDepth 100000 in
theorem ref10_Clash_ok {a0:TicketBook}{A1:Option Addr}{c2:Nat}{A4:Option Addr}{c5:Nat}{A7:Option Addr}{c8:Nat}{A10:Option Addr}{c11:Nat}{w:World}{r:Int×Int×Int} (H:ref10_Clash a0=some r) (h3:(rd eTallyCount 7 A1 c2 a0.Tally.Counts).ok w) (h6:(rd eTicketSeason 2 A4 c5 a0.Tickets).ok w) (h9:(rd eTicketShow 3 A7 c8 a0.Shows).ok w) (h12:(rd eTicketBox 4 A10 c11 a0.Boxes).ok w):Calls Tryz.prog 42 #[AG (vB a0 A1 c2 A4 c5 A7 c8 A10 c11)] w (RetV w (TU [I r.1,I r.2.1,I r.2.2])):=by
 unfold ref10_Clash at H
 refine fn_of (n:=22) Tryz.func42 rfl rfl (lE rfl) ?_
 have S:=St.start w nF _ (cA h3 (cA h6 (cA h9 (cA h12 nM))))
 refine c_seq<|reg<|p_boxA rfl S fun b13 w14 S15=>p_aI rfl<|p_aI rfl<|p_aI rfl<|wp_nil<|c_seq<|c_seq<|reg<|p_ldA ty29 sz29 (S15.atX (i:=0) rfl) rfl rfl ?_
 obtain ⟨r16,h17,H⟩:=bindS H
 refine p_cv (ref10_Check_ok h17 (S15.atP (i:=0) rfl) (S15.atP (i:=1) rfl) (S15.atP (i:=2) rfl) (S15.atP (i:=3) rfl)) fu19 rfl S15 fun w18 S19=>p_aI rfl<|wp_nil<|c_seq<|reg<|p_mI rfl<|p_cmp rfl rfl rfl<|wp_nil ?_
 refine c_cond rfl (fun c20=>?_) (fun c20=>?_)
 ·replace H:=condT c20 H
  refine c_seq<|reg<|p_mI rfl<|p_aI rfl<|p_aI rfl<|p_aI rfl<|wp_nil ?_
  obtain rfl:=sJ H
  refine c_ret ?_; show bodyPostM (Fr none) 0 Tryz.prog Tryz.f42 _ .ret _ _
  refine ret_of (res3 rfl (rvT (rfl:_=I 0)) (rvT (rfl:_=I 0)) (rvT (rfl:_=I r16))) ?_
  exact ⟨_,rfl,rfl,S19.keep⟩
 ·replace H:=condF c20 H
  refine c_skip<|c_seq<|reg<|p_ldA ty29 sz29 (S19.atX (i:=0) rfl) rfl rfl ?_
  obtain ⟨r21,h22,H⟩:=bindS H
  refine p_cv (ref10_clashes_ok h22 (S19.atP (i:=0) rfl) (S19.atP (i:=1) rfl) (S19.atP (i:=2) rfl) (S19.atP (i:=3) rfl)) fu82 rfl S19 fun w23 S24=>p_mT rfl<|p_ext rfl rfl<|p_ext rfl rfl<|p_aI rfl<|p_aI rfl<|wp_nil<|c_seq<|c_seq<|reg<|p_mI rfl<|p_cmp rfl rfl rfl<|wp_nil ?_
  refine c_cond rfl (fun c25=>?_) (fun c25=>?_)
  ·replace H:=condT c25 H
   refine c_seq<|reg<|p_aI rfl<|p_aI rfl<|p_aI rfl<|wp_nil ?_
   obtain rfl:=sJ H
   refine c_ret ?_; show bodyPostM (Fr none) 0 Tryz.prog Tryz.f42 _ .ret _ _
   refine ret_of (res3 rfl (rvT (rfl:_=I 0)) (rvT (rfl:_=I 0)) (rvT (rfl:_=I 4))) ?_
   exact ⟨_,rfl,rfl,S24.keep⟩
  ·replace H:=condF c25 H
   refine c_skip<|c_seq<|reg<|p_mI rfl<|p_mI rfl<|p_aI rfl<|p_aI rfl<|p_aI rfl<|wp_nil ?_
   obtain rfl:=sJ H
   refine c_ret ?_; show bodyPostM (Fr none) 0 Tryz.prog Tryz.f42 _ .ret _ _
   refine ret_of (res3 rfl (rvT (rfl:_=I r21.1)) (rvT (rfl:_=I r21.2)) (rvT (rfl:_=I 0))) ?_
   exact ⟨_,rfl,rfl,S24.keep⟩
def ref10_Lent_j37 (r39:TicketShow) (rec_z_2:(Int×Int)→Option ((List Int)×Int)) (z_2:Int×Int) (z_3:Bool):Option ((List Int)×Int):=
 bif z_3 then (need (decide (0≤r39.Ticket))<|
 rec_z_2 (orI z_2.1 (shlI 1 r39.Ticket),wr (z_2.2+1)))
 else (rec_z_2 (z_2.1,wr (z_2.2+1)))
def ref10_Lent_l38 (a0:TicketBook) (z_1:Int×Int) (rec_z_1:(Int×Int)→Option ((List Int)×Int)) (rec_z_2:(Int×Int)→Option ((List Int)×Int)) (z_2:Int×Int):Option ((List Int)×Int):=
 bif decide (z_2.2 < (a0.Shows.length:Int)) then ((getI a0.Shows z_1.2).bind fun r39=>
 (getI a0.Shows z_2.2).bind fun r41=>
 bif (r39.Ticket==r41.Ticket) then (ref10_Lent_j37 r39 rec_z_2 z_2 (r39.Walker != r41.Walker))
 else (ref10_Lent_j37 r39 rec_z_2 z_2 false))
 else (rec_z_1 (z_2.1,wr (z_1.2+1)))
def ref10_Lent_l39 (a0:TicketBook) (rec_z_1:(Int×Int)→Option ((List Int)×Int)) (z_1:Int×Int):Option ((List Int)×Int):=
 bif decide (z_1.2 < (a0.Shows.length:Int)) then (loopF (ref10_Lent_l38 a0 z_1 rec_z_1) big (z_1.1,0))
 else ((B_Members z_1.1 3).bind fun r78=>
 some (r78,0))
def ref10_Lent (a0:TicketBook):Option ((List Int)×Int):=
 (ref10_asked a0 true).bind fun r16=>
 bif (r16.2 != 0) then (some (([]:List _),r16.2))
 else (loopF (ref10_Lent_l39 a0) big (0,0))
set_option maxRecDepth 100000 in
theorem ref10_Lent_ok {a0:TicketBook}{A1:Option Addr}{c2:Nat}{A4:Option Addr}{c5:Nat}{A7:Option Addr}{c8:Nat}{A10:Option Addr}{c11:Nat}{w:World}{r:(List Int)×Int} (H:ref10_Lent a0=some r) (h3:(rd eTallyCount 7 A1 c2 a0.Tally.Counts).ok w) (h6:(rd eTicketSeason 2 A4 c5 a0.Tickets).ok w) (h9:(rd eTicketShow 3 A7 c8 a0.Shows).ok w) (h12:(rd eTicketBox 4 A10 c11 a0.Boxes).ok w):Calls Tryz.prog 43 #[AG (vB a0 A1 c2 A4 c5 A7 c8 A10 c11)] w fun en w_=>∃ u_,en=.returned u_∧∃ A_1:Option Addr,∃ c_2:Nat,u_=TU [SL A_1 r.1.length c_2,I r.2]∧Keep0 w w_∧((gr intE 1 3 A_1 c_2 r.1).ok w_∧New w.heap.size (gr intE 1 3 A_1 c_2 r.1))∧True:=by
 unfold ref10_Lent at H
 refine fn_of (n:=62) Tryz.func43 rfl rfl (lE rfl) ?_
 have S:=St.start w nF _ (cA h3 (cA h6 (cA h9 (cA h12 nM))))
 refine c_seq<|reg<|p_boxA rfl S fun b13 w14 S15=>p_aS rfl<|p_aI rfl<|wp_nil<|c_seq<|c_seq<|reg<|p_ldA ty29 sz29 (S15.atX (i:=0) rfl) rfl rfl ?_
 obtain ⟨r16,h17,H⟩:=bindS H
 refine p_cal (ref10_asked_ok h17 (S15.atP (i:=0) rfl) (S15.atP (i:=1) rfl) (S15.atP (i:=2) rfl) (S15.atP (i:=3) rfl)) fu66 rfl ?_
 rintro _ w18 ⟨A20,c21,l22,rfl,k19,⟨o23,n24⟩,⟨o25,n26⟩,_⟩
 have S27:=S15.callN k19 [rd nRef10_truth 2 A20 c21 l22,ri nRef10_truthI l22 r16.1] (cA ⟨o23,New.inL n24⟩ (cA ⟨o25,Al.inL n26 ((cA (fp_mem (i:=0) rfl) (cA (fp_mem (i:=1) rfl) (cA (fp_mem (i:=2) rfl) (cA (fp_mem (i:=3) rfl) nM)))))⟩ nM))
 refine p_mT rfl<|p_ext rfl rfl<|p_ext rfl rfl<|p_aS rfl<|p_aI rfl<|wp_nil<|c_seq<|reg<|p_mI rfl<|p_cmp rfl rfl rfl<|wp_nil ?_
 refine c_cond rfl (fun c28=>?_) (fun c28=>?_)
 ·replace H:=condT c28 H
  refine c_seq<|reg<|p_mI rfl<|p_aS rfl<|p_aI rfl<|wp_nil ?_
  obtain rfl:=sJ H
  refine c_ret ?_; show bodyPostM (Fr none) 0 Tryz.prog Tryz.f43 _ .ret _ _
  refine ret_of (res2 rfl (rvT (rfl:_=SL none 0 0)) (rvT (rfl:_=I r16.2))) ?_
  exact ⟨_,rfl,none,0,rfl,S27.keep,⟨gr_nil,New.grNil⟩,trivial⟩
 ·replace H:=condF c28 H
  refine c_skip<|c_seq<|reg<|p_aI rfl<|wp_nil<|c_seq<|c_seq<|reg<|p_aI rfl<|wp_nil<|c_block ?_
  refine c_lop (α:=Int×Int) (β:=Unit) (ref10_Lent_l39 a0) (fun z_1 y_1=>[(1,P b13 0),(6,I z_1.1),(7,I z_1.2)]) (fun z_1 y_1 w_=>St w nF w_ [bl b13 (vB a0 A1 c2 A4 c5 A7 c8 A10 c11) 29] [rd nRef10_truth 2 A20 c21 l22,ri nRef10_truthI l22 r16.1,rd eTallyCount 7 A1 c2 a0.Tally.Counts,rd eTicketSeason 2 A4 c5 a0.Tickets,rd eTicketShow 3 A7 c8 a0.Shows,rd eTicketBox 4 A10 c11 a0.Boxes]) (0,0) () H ⟨rfl,rfl,rfl,trivial⟩ S27 ?_
  intro m29 z_1 y_1 e30 w31 H S32
  unfold ref10_Lent_l39 at H
  refine c_seq<|c_seq<|reg<|p_mI rfl<|p_fld fl29_3 rfl<|p_ld ty26 (S32.atX (i:=0) rfl) rfl rfl<|p_len rfl sc26<|p_cmp rfl rfl rfl<|wp_nil ?_
  refine c_cond rfl (fun c33=>?_) (fun c33=>?_)
  ·replace H:=condT c33 H
   refine c_skip<|c_seq<|c_block<|c_seq<|reg<|p_aI rfl<|wp_nil<|c_block ?_
   refine c_lop (α:=Int×Int) (β:=Unit) (ref10_Lent_l38 a0 z_1 (loopF (ref10_Lent_l39 a0) m29)) (fun z_2 y_2=>[(1,P b13 0),(6,I z_2.1),(7,I z_1.2),(8,I z_2.2)]) (fun z_2 y_2 w_=>St w nF w_ [bl b13 (vB a0 A1 c2 A4 c5 A7 c8 A10 c11) 29] [rd nRef10_truth 2 A20 c21 l22,ri nRef10_truthI l22 r16.1,rd eTallyCount 7 A1 c2 a0.Tally.Counts,rd eTicketSeason 2 A4 c5 a0.Tickets,rd eTicketShow 3 A7 c8 a0.Shows,rd eTicketBox 4 A10 c11 a0.Boxes]) (z_1.1,0) () H ⟨rfl,rfl,rfl,rfl,trivial⟩ S32 ?_
   intro m34 z_2 y_2 e35 w36 H S37
   unfold ref10_Lent_l38 at H
   refine c_seq<|c_seq<|reg<|p_mI rfl<|p_fld fl29_3 rfl<|p_ld ty26 (S37.atX (i:=0) rfl) rfl rfl<|p_len rfl sc26<|p_cmp rfl rfl rfl<|wp_nil ?_
   refine c_cond rfl (fun c38=>?_) (fun c38=>?_)
   ·replace H:=condT c38 H
    refine c_skip<|c_seq<|c_block<|c_seq ?_
    obtain ⟨r39,h40,H⟩:=bindS H
    obtain ⟨r41,h42,H⟩:=bindS H
    have S43:St w nF w36 (([]++[])++[bl b13 (vB a0 A1 c2 A4 c5 A7 c8 A10 c11) 29]) [rd nRef10_truth 2 A20 c21 l22,ri nRef10_truthI l22 r16.1,rd eTallyCount 7 A1 c2 a0.Tally.Counts,rd eTicketSeason 2 A4 c5 a0.Tickets,rd eTicketShow 3 A7 c8 a0.Shows,rd eTicketBox 4 A10 c11 a0.Boxes]:=S37.pk [0] (by decide) [0,1,2,3,4,5] rfl rfl
    refine reg_two mixed 13 [10,12] [11] [] [] (fun ec_ X_=>∃ b47:Nat,Has ec_ [(9,P b47 0)]∧X_=[bl b47 [I r39.Trip,I r39.Ticket,I r39.Walker] 86]) (fun ec_ X_=>∃ b59:Nat,Has ec_ [(10,P b59 0)]∧X_=[bl b59 [I 0,I 0,I 0] 86]) (by kernel_rfl) rfl rfl (St.baseX S43) ?_
    refine lS rfl (fun _ k_=>p_fld fl29_3 rfl dn) ?_
    refine lS rfl (fun _ k_=>p_ld ty26 (S43.stR (i:=0) rfl k_) rfl rfl dn) ?_
    refine lS rfl (fun _ k_=>p_mI rfl dn) ?_
    refine lS rfl (fun _ k_=>p_ixE sc26 h40 (S43.stL (i:=4) rfl k_).1 rfl rfl rfl dn) ?_
    refine lS rfl (fun _ k_=>p_ldEA ty86 sz86 rfl h40 (S43.stL (i:=4) rfl k_).1 rfl dn) ?_
    refine lS rfl (fun _ k_=>p_fld fl29_3 rfl dn) ?_
    refine lS rfl (fun _ k_=>p_ld ty26 (S43.stR (i:=0) rfl k_) rfl rfl dn) ?_
    refine lS rfl (fun _ k_=>p_mI rfl dn) ?_
    refine lS rfl (fun _ k_=>p_ixE sc26 h42 (S43.stL (i:=4) rfl k_).1 rfl rfl rfl dn) ?_
    refine lS rfl (fun _ k_=>p_ldEA ty86 sz86 rfl h42 (S43.stL (i:=4) rfl k_).1 rfl dn) ?_
    refine lC rfl ?_
    refine lC rfl ?_
    refine lC rfl ?_
    refine ⟨?_,?_,?_⟩
    ·intro w44 R45 S46
     refine p_allA in86 S46 fun b47 w48 S49=>?_
     refine cH (X:=[bl b47 [I 0,I 0,I 0] 86]) S49 ?_
     intro w50 R51 S52
     refine p_stP (pre:=[]) (old:=[I 0,I 0,I 0]) (post:=[]) (vs:=[I r39.Trip,I r39.Ticket,I r39.Walker]) sz86 S52 (i:=0) rfl rfl rfl rfl (rfl:_=AG [I r39.Trip,I r39.Ticket,I r39.Walker]) rfl rfl rfl rfl fun w53 S54=>?_
     refine cH0 (X:=[bl b47 [I r39.Trip,I r39.Ticket,I r39.Walker] 86]) S54 ?_
     exact chEnd ⟨b47,⟨rfl,trivial⟩,rfl⟩
    ·intro w56 R57 S58
     refine p_allA in86 S58 fun b59 w60 S61=>?_
     refine cH (X:=[bl b59 [I 0,I 0,I 0] 86]) S61 ?_
     exact chEnd ⟨b59,⟨rfl,trivial⟩,rfl⟩
    rintro e63 X64 e65 X66 ⟨b47,⟨q55,_⟩,rfl⟩ ⟨b59,⟨q62,_⟩,rfl⟩ e67 w68 f69 f70 f71 S72
    have S73:St w nF w68 [bl b47 [I r39.Trip,I r39.Ticket,I r39.Walker] 86,bl b59 [I 0,I 0,I 0] 86,bl b13 (vB a0 A1 c2 A4 c5 A7 c8 A10 c11) 29] [rd nRef10_truth 2 A20 c21 l22,ri nRef10_truthI l22 r16.1,rd eTallyCount 7 A1 c2 a0.Tally.Counts,rd eTicketSeason 2 A4 c5 a0.Tickets,rd eTicketShow 3 A7 c8 a0.Shows,rd eTicketBox 4 A10 c11 a0.Boxes]:=St.fromBaseX S43 S72
    refine tailE [(1,P b13 0),(6,I z_2.1),(7,I z_1.2),(8,I z_2.2),(9,P b47 0),(10,P b59 0),(42,AG [I r41.Trip,I r41.Ticket,I r41.Walker])] ⟨((f71 1 rfl rfl).trans (rfl:_=P b13 0)),((f71 6 rfl rfl).trans (rfl:_=I z_2.1)),((f71 7 rfl rfl).trans (rfl:_=I z_1.2)),((f71 8 rfl rfl).trans (rfl:_=I z_2.2)),((f69 9 rfl).trans q55),((f70 10 rfl).trans q62),((f71 42 rfl rfl).trans (rfl:_=AG [I r41.Trip,I r41.Ticket,I r41.Walker])),trivial⟩ ?_
    intro g74
    refine p_stP (pre:=[]) (old:=[I 0,I 0,I 0]) (post:=[]) (vs:=[I r41.Trip,I r41.Ticket,I r41.Walker]) sz86 S73 (i:=1) rfl rfl rfl rfl (rfl:_=AG [I r41.Trip,I r41.Ticket,I r41.Walker]) rfl rfl rfl rfl fun w75 S76=>wp_nil ?_
    refine c_join (α:=Bool) (β:=Unit) (fun z_3 y_3=>[(1,P b13 0),(6,I z_2.1),(7,I z_1.2),(8,I z_2.2),(9,P b47 0),(54,B z_3)]) (fun z_3 y_3 w_=>ref10_Lent_j37 r39 (loopF (ref10_Lent_l38 a0 z_1 (loopF (ref10_Lent_l39 a0) m29)) m34) z_2 z_3=some r∧St w nF w_ [bl b47 [I r39.Trip,I r39.Ticket,I r39.Walker] 86,bl b13 (vB a0 A1 c2 A4 c5 A7 c8 A10 c11) 29] [rd nRef10_truth 2 A20 c21 l22,ri nRef10_truthI l22 r16.1,rd eTallyCount 7 A1 c2 a0.Tally.Counts,rd eTicketSeason 2 A4 c5 a0.Tickets,rd eTicketShow 3 A7 c8 a0.Shows,rd eTicketBox 4 A10 c11 a0.Boxes]) ?_ ?_
    ·refine reg<|p_fld fl86_1 rfl<|p_ld ty3 (S76.atX (i:=0) rfl) rfl rfl<|p_fld fl86_1 rfl<|p_ld ty3 (S76.atX (i:=1) rfl) rfl rfl<|p_cmp rfl rfl rfl<|p_mB rfl ?_
     rcases bE ((r39.Ticket==r41.Ticket)) with c77 | c77
     ·replace H:=condT c77 H
      refine eB c77 ?_
      refine gT rfl rfl (p_fld fl86_2 rfl ?_)
      refine gT rfl rfl (p_ld ty3 (S76.atX (i:=0) rfl) rfl rfl ?_)
      refine gT rfl rfl (p_fld fl86_2 rfl ?_)
      refine gT rfl rfl (p_ld ty3 (S76.atX (i:=1) rfl) rfl rfl ?_)
      refine gT rfl rfl (p_cmp rfl rfl rfl ?_)
      refine p_pkT rfl (rfl:_=B (r39.Walker != r41.Walker))<|wp_nil ?_
      have S78:=S76.pk [0,2] (by decide) [0,1,2,3,4,5] rfl rfl
      exact ⟨(r39.Walker != r41.Walker),(),_,rfl,⟨rfl,rfl,rfl,rfl,rfl,rfl,trivial⟩,H,S78⟩
     ·replace H:=condF c77 H
      refine eB c77<|gF rfl rfl<|gF rfl rfl<|gF rfl rfl<|gF rfl rfl<|gF rfl rfl<|p_pkF rfl (rfl:_=B false)<|wp_nil ?_
      have S78:=S76.pk [0,2] (by decide) [0,1,2,3,4,5] rfl rfl
      exact ⟨false,(),_,rfl,⟨rfl,rfl,rfl,rfl,rfl,rfl,trivial⟩,H,S78⟩
    ·intro z_3 y_3 e77 w78 S79; obtain ⟨H,S79⟩:=S79
     unfold ref10_Lent_j37 at H
     refine c_cond rfl (fun c80=>?_) (fun c80=>?_)
     ·replace H:=condT c80 H
      refine reg<|p_mI rfl<|p_fld fl86_1 rfl<|p_ld ty3 (S79.atX (i:=0) rfl) rfl rfl ?_
      obtain ⟨h81,H⟩:=needS H
      refine p_shl h81 rfl rfl<|p_orI rfl rfl<|p_aI rfl<|wp_nil<|reg<|p_mI rfl<|p_add rfl rfl<|p_aI rfl<|wp_nil ?_
      have S82:=S79.pk [1] (by decide) [0,1,2,3,4,5] rfl rfl
      exact ⟨(orI z_2.1 (shlI 1 r39.Ticket),wr (z_2.2+1)),(),_,rfl,⟨rfl,rfl,rfl,rfl,trivial⟩,H,S82⟩
     ·replace H:=condF c80 H
      refine c_skip<|reg<|p_mI rfl<|p_add rfl rfl<|p_aI rfl<|wp_nil ?_
      have S83:=S79.pk [1] (by decide) [0,1,2,3,4,5] rfl rfl
      exact ⟨(z_2.1,wr (z_2.2+1)),(),_,rfl,⟨rfl,rfl,rfl,rfl,trivial⟩,H,S83⟩
   ·replace H:=condF c38 H
    refine c_exit<|reg<|p_mI rfl<|p_add rfl rfl<|p_aI rfl<|wp_nil ?_
    exact ⟨(z_2.1,wr (z_1.2+1)),(),_,rfl,⟨rfl,rfl,rfl,trivial⟩,H,S37⟩
  ·replace H:=condF c33 H
   refine c_exit<|c_seq<|reg<|p_mI rfl ?_
   obtain ⟨r78,h79,H⟩:=bindS H
   refine p_cal (B_Members_ok h79) fu81 rfl ?_
   rintro _ w80 ⟨A82,c83,rfl,k81,⟨o84,n85⟩,_⟩
   have S87:=S32.addNew k81 o84 n85
   refine p_aS rfl<|p_aI rfl<|wp_nil ?_
   obtain rfl:=sJ H
   refine c_ret ?_; show bodyPostM (Fr none) 0 Tryz.prog Tryz.f43 _ .ret _ _
   refine ret_of (res2 rfl (rvT (rfl:_=SL A82 r78.length c83)) (rvT (rfl:_=I 0))) ?_
   exact ⟨_,rfl,A82,c83,rfl,S87.keep,⟨S87.atX (i:=0) rfl,S87.newX (i:=0) rfl⟩,trivial⟩
def law_ticketUses (a0:TicketBook) (a1:TicketBook) (a2:Int):Option Bool:=
 (ticket_Must a0 a2).bind fun r34=>
 (ref10_Must a1 a2).bind fun r43=>
 (B_Alike r34.1 r43.1).bind fun r53=>
 bif !r53 then (some false)
 else (bif (r34.2 != r43.2) then (some false)
 else ((ticket_May a0 a2).bind fun r59=>
 (ref10_May a1 a2).bind fun r68=>
 (B_Alike r59.1 r68.1).bind fun r78=>
 bif !r78 then (some false)
 else (bif (r59.2 != r68.2) then (some false)
 else ((ticket_Clash a0).bind fun r84=>
 (ref10_Clash a1).bind fun r88=>
 bif (r84.1 != r88.1) then (some false)
 else (bif (r84.2.1 != r88.2.1) then (some false)
 else (bif (r84.2.2 != r88.2.2) then (some false)
 else ((ticket_Lent a0).bind fun r95=>
 (ref10_Lent a1).bind fun r104=>
 (B_Alike r95.1 r104.1).bind fun r114=>
 bif r114 then (some (r95.2==r104.2))
 else (some false))))))))
set_option maxRecDepth 100000 in
theorem law_ticketUses_ok {a0:TicketBook}{a1:TicketBook}{a2:Int}{A1:Option Addr}{c2:Nat}{A4:Option Addr}{c5:Nat}{A7:Option Addr}{c8:Nat}{A10:Option Addr}{c11:Nat}{A13:Option Addr}{c14:Nat}{A16:Option Addr}{c17:Nat}{A19:Option Addr}{c20:Nat}{A22:Option Addr}{c23:Nat}{w:World}{r:Bool} (H:law_ticketUses a0 a1 a2=some r) (h3:(rd eTallyCount 7 A1 c2 a0.Tally.Counts).ok w) (h6:(rd eTicketSeason 2 A4 c5 a0.Tickets).ok w) (h9:(rd eTicketShow 3 A7 c8 a0.Shows).ok w) (h12:(rd eTicketBox 4 A10 c11 a0.Boxes).ok w) (h15:(rd eTallyCount 7 A13 c14 a1.Tally.Counts).ok w) (h18:(rd eTicketSeason 2 A16 c17 a1.Tickets).ok w) (h21:(rd eTicketShow 3 A19 c20 a1.Shows).ok w) (h24:(rd eTicketBox 4 A22 c23 a1.Boxes).ok w) (hg25:(gW0).ok w) (hg26:(gW1).ok w) (hg27:(gW2).ok w):Calls Tryz.prog 10 #[AG (vB a0 A1 c2 A4 c5 A7 c8 A10 c11),AG (vB a1 A13 c14 A16 c17 A19 c20 A22 c23),I a2] w (RetV w (B r)):=by
 unfold law_ticketUses at H
 refine fn_of (n:=100) Tryz.func10 rfl rfl (lE rfl) ?_
 have S:=St.start w nF _ (cA h3 (cA h6 (cA h9 (cA h12 (cA h15 (cA h18 (cA h21 (cA h24 (cA hg25 (cA hg26 (cA hg27 nM)))))))))))
 refine c_seq<|reg<|p_boxA rfl S fun b28 w29 S30=>p_boxA rfl S30 fun b31 w32 S33=>p_aB rfl<|wp_nil<|c_seq<|reg<|p_ldA ty29 sz29 (S33.atX (i:=1) rfl) rfl rfl<|p_mI rfl ?_
 obtain ⟨r34,h35,H⟩:=bindS H
 refine p_cal (ticket_Must_ok h35 (S33.atP (i:=0) rfl) (S33.atP (i:=1) rfl) (S33.atP (i:=2) rfl) (S33.atP (i:=3) rfl) (S33.atP (i:=8) rfl) (S33.atP (i:=9) rfl) (S33.atP (i:=10) rfl)) fu29 rfl ?_
 rintro _ w36 ⟨A38,c39,rfl,k37,⟨o40,n41⟩,_⟩
 have S42:=S33.callN k37 [rd intE 1 A38 c39 r34.1] (cA ⟨o40,New.inL n41⟩ nM)
 refine p_mT rfl<|p_ext rfl rfl<|p_ext rfl rfl<|p_aS rfl<|p_aI rfl<|wp_nil<|c_seq<|reg<|p_ldA ty29 sz29 (S42.atX (i:=0) rfl) rfl rfl<|p_mI rfl ?_
 obtain ⟨r43,h44,H⟩:=bindS H
 refine p_cal (ref10_Must_ok h44 (S42.atP (i:=5) rfl) (S42.atP (i:=6) rfl) (S42.atP (i:=7) rfl) (S42.atP (i:=8) rfl)) fu40 rfl ?_
 rintro _ w45 ⟨A47,c48,rfl,k46,⟨o49,n50⟩,_⟩
 have S52:=S42.addNew k46 o49 n50
 refine p_mT rfl<|p_ext rfl rfl<|p_ext rfl rfl<|p_aS rfl<|p_aI rfl<|wp_nil<|c_seq<|c_seq<|reg<|p_mS rfl<|p_mS rfl ?_
 obtain ⟨r53,h54,H⟩:=bindS H
 refine p_cv (B_Alike_ok h54 (S52.atP (i:=0) rfl) (gr_rd intE_len (S52.atX (i:=0) rfl))) fu34 rfl S52 fun w55 S56=>p_not rfl<|p_mB rfl ?_
 rcases bE (!r53) with c57 | c57
 ·replace H:=condT c57 H
  refine eB c57<|gF rfl rfl<|gF rfl rfl<|gF rfl rfl<|p_pkT rfl (rfl:_=B true)<|wp_nil<|c_true rfl<|c_seq<|reg<|p_aB rfl<|wp_nil ?_
  obtain rfl:=sJ H
  exact c_ret (rT Tryz.f10 S56.keep rfl rfl)
 ·replace H:=condF c57 H
  refine eB c57 ?_
  refine gT rfl rfl (p_mI rfl ?_)
  refine gT rfl rfl (p_mI rfl ?_)
  refine gT rfl rfl (p_cmp rfl rfl rfl ?_)
  refine p_pkF rfl (rfl:_=B (r34.2 != r43.2))<|wp_nil ?_
  refine c_cond rfl (fun c58=>?_) (fun c58=>?_)
  ·replace H:=condT c58 H
   refine c_seq<|reg<|p_aB rfl<|wp_nil ?_
   obtain rfl:=sJ H
   exact c_ret (rT Tryz.f10 S56.keep rfl rfl)
  ·replace H:=condF c58 H
   refine c_skip<|c_seq<|reg<|p_ldA ty29 sz29 (S56.atX (i:=2) rfl) rfl rfl<|p_mI rfl ?_
   obtain ⟨r59,h60,H⟩:=bindS H
   refine p_cal (ticket_May_ok h60 (S56.atP (i:=1) rfl) (S56.atP (i:=2) rfl) (S56.atP (i:=3) rfl) (S56.atP (i:=4) rfl) (S56.atP (i:=9) rfl) (S56.atP (i:=10) rfl) (S56.atP (i:=11) rfl)) fu30 rfl ?_
   rintro _ w61 ⟨A63,c64,rfl,k62,⟨o65,n66⟩,_⟩
   have S67:=S56.callN k62 [rd intE 1 A63 c64 r59.1] (cA ⟨o65,New.inL n66⟩ nM)
   refine p_mT rfl<|p_ext rfl rfl<|p_ext rfl rfl<|p_aS rfl<|p_aI rfl<|wp_nil<|c_seq<|reg<|p_ldA ty29 sz29 (S67.atX (i:=1) rfl) rfl rfl<|p_mI rfl ?_
   obtain ⟨r68,h69,H⟩:=bindS H
   refine p_cal (ref10_May_ok h69 (S67.atP (i:=6) rfl) (S67.atP (i:=7) rfl) (S67.atP (i:=8) rfl) (S67.atP (i:=9) rfl)) fu41 rfl ?_
   rintro _ w70 ⟨A72,c73,rfl,k71,⟨o74,n75⟩,_⟩
   have S77:=S67.addNew k71 o74 n75
   refine p_mT rfl<|p_ext rfl rfl<|p_ext rfl rfl<|p_aS rfl<|p_aI rfl<|wp_nil<|c_seq<|c_seq<|reg<|p_mS rfl<|p_mS rfl ?_
   obtain ⟨r78,h79,H⟩:=bindS H
   refine p_cv (B_Alike_ok h79 (S77.atP (i:=0) rfl) (gr_rd intE_len (S77.atX (i:=0) rfl))) fu34 rfl S77 fun w80 S81=>p_not rfl<|p_mB rfl ?_
   rcases bE (!r78) with c82 | c82
   ·replace H:=condT c82 H
    refine eB c82<|gF rfl rfl<|gF rfl rfl<|gF rfl rfl<|p_pkT rfl (rfl:_=B true)<|wp_nil<|c_true rfl<|c_seq<|reg<|p_aB rfl<|wp_nil ?_
    obtain rfl:=sJ H
    exact c_ret (rT Tryz.f10 S81.keep rfl rfl)
   ·replace H:=condF c82 H
    refine eB c82 ?_
    refine gT rfl rfl (p_mI rfl ?_)
    refine gT rfl rfl (p_mI rfl ?_)
    refine gT rfl rfl (p_cmp rfl rfl rfl ?_)
    refine p_pkF rfl (rfl:_=B (r59.2 != r68.2))<|wp_nil ?_
    refine c_cond rfl (fun c83=>?_) (fun c83=>?_)
    ·replace H:=condT c83 H
     refine c_seq<|reg<|p_aB rfl<|wp_nil ?_
     obtain rfl:=sJ H
     exact c_ret (rT Tryz.f10 S81.keep rfl rfl)
    ·replace H:=condF c83 H
     refine c_skip<|c_seq<|reg<|p_ldA ty29 sz29 (S81.atX (i:=3) rfl) rfl rfl ?_
     obtain ⟨r84,h85,H⟩:=bindS H
     refine p_cv (ticket_Clash_ok h85 (S81.atP (i:=2) rfl) (S81.atP (i:=3) rfl) (S81.atP (i:=4) rfl) (S81.atP (i:=5) rfl)) fu35 rfl S81 fun w86 S87=>p_mT rfl<|p_ext rfl rfl<|p_ext rfl rfl<|p_ext rfl rfl<|p_aI rfl<|p_aI rfl<|p_aI rfl<|wp_nil<|c_seq<|reg<|p_ldA ty29 sz29 (S87.atX (i:=2) rfl) rfl rfl ?_
     obtain ⟨r88,h89,H⟩:=bindS H
     refine p_cv (ref10_Clash_ok h89 (S87.atP (i:=6) rfl) (S87.atP (i:=7) rfl) (S87.atP (i:=8) rfl) (S87.atP (i:=9) rfl)) fu42 rfl S87 fun w90 S91=>p_mT rfl<|p_ext rfl rfl<|p_ext rfl rfl<|p_ext rfl rfl<|p_aI rfl<|p_aI rfl<|p_aI rfl<|wp_nil<|c_seq<|c_seq<|reg<|p_mI rfl<|p_mI rfl<|p_cmp rfl rfl rfl<|p_mB rfl ?_
     rcases bE ((r84.1 != r88.1)) with c92 | c92
     ·replace H:=condT c92 H
      refine eB c92<|gF rfl rfl<|gF rfl rfl<|gF rfl rfl<|p_pkT rfl (rfl:_=B true)<|p_mB rfl<|gF rfl rfl<|gF rfl rfl<|gF rfl rfl<|p_pkT rfl (rfl:_=B true)<|wp_nil<|c_true rfl<|c_seq<|reg<|p_aB rfl<|wp_nil ?_
      obtain rfl:=sJ H
      exact c_ret (rT Tryz.f10 S91.keep rfl rfl)
     ·replace H:=condF c92 H
      refine eB c92 ?_
      refine gT rfl rfl (p_mI rfl ?_)
      refine gT rfl rfl (p_mI rfl ?_)
      refine gT rfl rfl (p_cmp rfl rfl rfl ?_)
      refine p_pkF rfl (rfl:_=B (r84.2.1 != r88.2.1))<|p_mB rfl ?_
      rcases bE ((r84.2.1 != r88.2.1)) with c93 | c93
      ·replace H:=condT c93 H
       refine eB c93<|gF rfl rfl<|gF rfl rfl<|gF rfl rfl<|p_pkT rfl (rfl:_=B true)<|wp_nil<|c_true rfl<|c_seq<|reg<|p_aB rfl<|wp_nil ?_
       obtain rfl:=sJ H
       exact c_ret (rT Tryz.f10 S91.keep rfl rfl)
      ·replace H:=condF c93 H
       refine eB c93 ?_
       refine gT rfl rfl (p_mI rfl ?_)
       refine gT rfl rfl (p_mI rfl ?_)
       refine gT rfl rfl (p_cmp rfl rfl rfl ?_)
       refine p_pkF rfl (rfl:_=B (r84.2.2 != r88.2.2))<|wp_nil ?_
       refine c_cond rfl (fun c94=>?_) (fun c94=>?_)
       ·replace H:=condT c94 H
        refine c_seq<|reg<|p_aB rfl<|wp_nil ?_
        obtain rfl:=sJ H
        exact c_ret (rT Tryz.f10 S91.keep rfl rfl)
       ·replace H:=condF c94 H
        refine c_skip<|c_seq<|reg<|p_ldA ty29 sz29 (S91.atX (i:=3) rfl) rfl rfl ?_
        obtain ⟨r95,h96,H⟩:=bindS H
        refine p_cal (ticket_Lent_ok h96 (S91.atP (i:=2) rfl) (S91.atP (i:=3) rfl) (S91.atP (i:=4) rfl) (S91.atP (i:=5) rfl) (S91.atP (i:=10) rfl) (S91.atP (i:=12) rfl)) fu31 rfl ?_
        rintro _ w97 ⟨A99,c100,rfl,k98,⟨o101,n102⟩,_⟩
        have S103:=S91.callN k98 [rd intE 1 A99 c100 r95.1] (cA ⟨o101,New.inL n102⟩ nM)
        refine p_mT rfl<|p_ext rfl rfl<|p_ext rfl rfl<|p_aS rfl<|p_aI rfl<|wp_nil<|c_seq<|reg<|p_ldA ty29 sz29 (S103.atX (i:=2) rfl) rfl rfl ?_
        obtain ⟨r104,h105,H⟩:=bindS H
        refine p_cal (ref10_Lent_ok h105 (S103.atP (i:=7) rfl) (S103.atP (i:=8) rfl) (S103.atP (i:=9) rfl) (S103.atP (i:=10) rfl)) fu43 rfl ?_
        rintro _ w106 ⟨A108,c109,rfl,k107,⟨o110,n111⟩,_⟩
        have S113:=S103.addNew k107 o110 n111
        refine p_mT rfl<|p_ext rfl rfl<|p_ext rfl rfl<|p_aS rfl<|p_aI rfl<|wp_nil<|c_seq<|reg<|p_mS rfl<|p_mS rfl ?_
        obtain ⟨r114,h115,H⟩:=bindS H
        refine p_cv (B_Alike_ok h115 (S113.atP (i:=0) rfl) (gr_rd intE_len (S113.atX (i:=0) rfl))) fu34 rfl S113 fun w116 S117=>p_mB rfl ?_
        rcases bE (r114) with c118 | c118
        ·replace H:=condT c118 H
         refine eB c118 ?_
         refine gT rfl rfl (p_mI rfl ?_)
         refine gT rfl rfl (p_mI rfl ?_)
         refine gT rfl rfl (p_cmp rfl rfl rfl ?_)
         refine p_pkT rfl (rfl:_=B (r95.2==r104.2))<|p_aB rfl<|wp_nil ?_
         obtain rfl:=sJ H
         exact c_ret (rT Tryz.f10 S117.keep rfl rfl)
        ·replace H:=condF c118 H
         refine eB c118<|gF rfl rfl<|gF rfl rfl<|gF rfl rfl<|p_pkF rfl (rfl:_=B false)<|p_aB rfl<|wp_nil ?_
         obtain rfl:=sJ H
         exact c_ret (rT Tryz.f10 S117.keep rfl rfl)
end Go.Proofs.YtafhljljfglfeaaGreatDoor
namespace Go.Fx
open Go Go.ChangeShapes Go.WideShapes Go.ChangeAt Go.RowKit
section
variable {H:Type}{enc:TypeId×Value→H}{P:Program}
theorem Keep.kept {w w' :World} (k:Keep0 w w') (may:MemPlace→Prop):w.keptBut w' may:=by
 refine ⟨k.os,k.output,fun i hi=>?_⟩
 have:=k.block i hi (fun x=>x)
 rw [this]
 cases w.heap[i]? with
 | none=>rfl
 | some o=>cases o <;> first | exact ⟨rfl,rfl,rfl,fun _ _=>rfl⟩ | exact .inr ⟨rfl,rfl⟩ | rfl
theorem Keep.same {w w' :World} (k:Keep0 w w') {p:MemPlace} (hp:p.block < w.heap.size):w.sameAt w' p:=by
 cases p with
 | cell b off=>
   have:=k.block b hp (fun x=>x)
   exact World.cell?_of_block (w:=w) this
 | map b=>exact k.block b hp (fun x=>x)
theorem trodAll_stays (hl:laidOutB P=true) {W W' :World}{sp' :Nat→Bool}:∀ {ts:List TypeId}{vs:List Value}{ds:List (DataW H)}{ps:List MemPlace},
 (∀ t∈ts,P.readableRec t=true∧t < P.types.size)→DataW.TrodAll enc P W 0 (fun _=>true) true ts vs ds ps→(∀ p∈ps,W.sameAt W' p)→(∀ p∈ps,sp' p.block=true)→DataW.TrodAll enc P W' 0 sp' true ts vs ds ps
 | [],[],[],_,_,h,_,_=>h
 | t::ts,v::vs,d::ds,ps,ht,⟨p,q,h1,h2,e⟩,hs,hb=>by
   subst e
   exact ⟨p,q,WideElems.Trod_stays hl (ht t (List.mem_cons_self ..)).1 (ht t (List.mem_cons_self ..)).2 h1 (fun x hx=>hs x (List.mem_append_left _ hx)) (fun x hx=>hb x (List.mem_append_left _ hx)),
    trodAll_stays hl (fun t ht' =>ht t (List.mem_cons_of_mem _ ht')) h2 (fun x hx=>hs x (List.mem_append_right _ hx)) (fun x hx=>hb x (List.mem_append_right _ hx)),rfl⟩
 | [],_::_,_,_,_,h,_,_=>by cases ‹List (DataW H)› <;> exact h.elim
 | [],[],_::_,_,_,h,_,_=>h.elim
 | _::_,[],_,_,_,h,_,_=>by cases ‹List (DataW H)› <;> exact h.elim
 | _::_,_::_,[],_,_,h,_,_=>h.elim
theorem law_post {fn:Func}{spec:ChangeSpec}{W W' :World}{args:Array Value}{ds gs:List (DataW H)}{before:List MemPlace}{tb:TypeId}
 (hW:DataW.Whole enc P fn.params.toList spec.vars false W args.toList ds gs before) (hl:laidOutB P=true) (hts:(fn.params.toList.all fun t=>P.readableRec t&&decide (t < P.types.size))=true)
 (hvars:spec.vars=[]) (hfn:spec.fn H ds={ results:=[.lit (.bool true)],args:=ds }) (hres:fn.resultTypes=#[tb]) (hb:P.underlying tb=some .bool) (k:Keep0 W W'):
 spec.post enc P fn false true false false W args (.bool true) W' :=by
 have hlt:=hW.lt
 obtain ⟨p,q,hA,hV,rfl,hfz,hnd⟩:=id hW
 have hV' :=hV
 rw [hvars] at hV'
 obtain ⟨rfl,rfl⟩:=trodVars_none hV'
 rw [List.append_nil] at hlt
 have hts' :∀ t∈fn.params.toList,P.readableRec t=true∧t < P.types.size:=fun t ht=>by
  have:=List.all_eq_true.1 hts t ht
  simpa using this
 refine ⟨ds,[],p++[],[],p,[],hW,?_,?_,?_,k.kept _,fun h=>by cases h⟩
 ·rw [List.append_nil,hfn,hres]
  exact trodAll_mk1 (shut_bool hb true)
 ·rw [List.append_nil,hfn]
  exact trodAll_stays hl hts' hA (fun x hx=>k.same (hlt x hx)) (fun x hx=>by simpa using hlt x hx)
 ·rw [List.append_nil,hfn,hvars]
  rfl
def InI (n:Int):Prop:=-9223372036854775808≤n∧n≤9223372036854775807
theorem inI_of {n:Int} (h:(Lit.int .i64 n).wf=true):InI n:=bounds_i64 h
variable {w:World}{base:Nat}{spare:Nat→Bool}{held:Bool}
def FlatI (P:Program) (t:TypeId) (n:Nat):Prop:=∀ {H:Type}{enc:TypeId×Value→H}{w:World}{base:Nat}{spare:Nat→Bool}{held:Bool}{fuel:Nat}{cs:List Value}{x:DataW H×List MemPlace},
 DataW.trod enc P w base spare held fuel t cs=some x→∃ l:List Int,l.length=n∧cs=l.map I∧∀ y∈l,InI y
theorem flat_cells {cs:List Value}:∀ {n:Nat},cs.length=n→(∀ i,i < n→∃ a:Int,cs[i]? =some (I a)∧InI a)→∃ l:List Int,l.length=n∧cs=l.map I∧∀ y∈l,InI y:=by
 intro n hn h
 subst hn
 induction cs with
 | nil=>exact ⟨[],rfl,rfl,fun _ h=>(List.not_mem_nil h).elim⟩
 | cons c cs ih=>
   obtain ⟨a,ha,hi⟩:=h 0 (by simp)
   obtain ⟨l,h1,h2,h3⟩:=ih fun i hi=>by
    obtain ⟨b,hb⟩:=h (i+1) (by simp; omega)
    exact ⟨b,by simpa using hb⟩
   refine ⟨a::l,by simp [h1],by simp at ha; rw [ha,h2]; rfl,fun y hy=>?_⟩
   rcases List.mem_cons.1 hy with rfl | hy
   ·exact hi
   ·exact h3 y hy
theorem take_one {cs:List Value}{o:Nat}{v:Value} (h:(cs.drop o).take 1=[v]):cs[o]? =some v:=by
 have:=congrArg (·[0]?) h
 simpa [List.getElem?_take] using this
theorem flat_struct {t:TypeId}{fs:Array Field}{n:Nat} (ht:P.underlying t=some (.struct fs)) (hn:P.cellsOf t=n) (hf:∀ i,i < n→∃ f:Field,fs[i]? =some f∧f.offset=i∧P.underlying f.type=some (.int .i64)∧P.cellsOf f.type=1) (hs:fs.size=n):FlatI P t n:=by
 intro _ _ _ _ _ _ _ cs _ h
 obtain ⟨xs,m,_,_,hl,hxs,hel⟩:=DataW.trod_struct ht h
 refine flat_cells (hl.trans hn) fun i hi=>?_
 obtain ⟨f,h1,h2,h3,h4⟩:=hf i hi
 have:=hel i f h1
 rw [h2,h4,List.getElem?_eq_getElem (by rw [hxs,hs]; exact hi)] at this
 obtain ⟨a,ha,_,hw⟩:=DataW.trod_int h3 this
 exact ⟨a,take_one ha,inI_of hw⟩
theorem mapM_get {α β:Type}{f:α→Option β}:∀ {l:List α}{r:List β},l.mapM f=some r→∀ (i:Nat) (a:α),l[i]? =some a→f a=r[i]?
 | [],_,_,i,a,ha=>by simp at ha
 | x::l,r,h,i,a,ha=>by
   simp only [List.mapM_cons,Option.bind_eq_bind,Option.bind_eq_some_iff,Option.pure_def,Option.some.injEq] at h
   obtain ⟨b,hb,r',hr',rfl⟩:=h
   cases i with
   | zero=>
     simp only [List.getElem?_cons_zero,Option.some.injEq] at ha
     subst ha
     exact hb
   | succ i=>exact mapM_get hr' i a (by simpa using ha)
theorem cell_in {w:World}{a:Addr}{v:Value} (h:w.cell? a=some v):a.block < w.heap.size:=by
 unfold World.cell? at h
 split at h
 ·rename_i hw
  exact (Array.getElem?_eq_some_iff.1 hw).1
 ·cases h
theorem add_blk (a:Addr) (n:Nat):(a.add n).block=a.block∧(a.add n).off=a.off+n:=by
 unfold Addr.add
 split
 ·rename_i h; subst h; exact ⟨rfl,rfl⟩
 ·exact ⟨rfl,rfl⟩
theorem cellN {w:World}{a:Addr}{n:Nat}{v:Value} (h:w.cell? (a.add n)=some v):w.cell? ⟨a.block,a.off+n,none⟩=some v:=by
 have h1:=World.cell?_spot h
 obtain ⟨h2,h3⟩:=add_blk a n
 have:a.add n=⟨a.block,a.off+n,none⟩:=by
  generalize a.add n=x at h1 h2 h3
  cases x
  cases h1; cases h2; cases h3; rfl
 rwa [this] at h
theorem slice_flat {t e:TypeId}{s fuel:Nat}{cs:List Value}{x:DataW H×List MemPlace} (ht:P.underlying t=some (.slice e)) (F:FlatI P e s) (hs:P.cellsOf e=s) (h0:0 < s)
 (h:DataW.trod enc P w 0 spare held fuel t cs=some x):∃ A c,∃ xs:List (List Int),cs=[SL A xs.length c]∧(∀ l∈xs,l.length=s∧∀ y∈l,InI y)∧(rd (fun l:List Int=>l.map I) s A c xs).ok w:=by
 rcases DataW.trod_slice ht h with ⟨rfl,_⟩ | ⟨a,len,cap,elems,rest,n,_,rfl,_,_,hlc,hcm,hel,hE,_,_⟩
 ·exact ⟨none,0,[],rfl,fun _ h=>(List.not_mem_nil h).elim,.inl rfl,Nat.le_refl _,Nat.zero_le _⟩
 ·have ex:∀ i,i < len→∃ l:List Int,l.length=s∧(∀ y∈l,InI y)∧∀ j v,(l.map I)[j]? =some v→w.cell? ⟨a.block,a.off+i*s+j,none⟩=some v:=by
   intro i hi
   have:=hE i hi
   rw [hs,List.getElem?_eq_getElem (by rw [hel]; exact hi)] at this
   obtain ⟨cs,hc,hd⟩:=Option.bind_eq_some_iff.1 this
   obtain ⟨l,hl,rfl,hy⟩:=F hd
   refine ⟨l,hl,hy,fun j v hj=>?_⟩
   unfold World.cells? at hc
   rw [if_pos (Nat.zero_le _)] at hc
   have hjl:j < s:=by
    have:=(List.getElem?_eq_some_iff.1 hj).1
    rw [List.length_map,hl] at this
    exact this
   have:=mapM_get hc j j (List.getElem?_range hjl)
   rw [hj] at this
   have:=cellN this
   rwa [(add_blk a (i*s)).1,(add_blk a (i*s)).2] at this
  have ch:∃ f:Nat→List Int,∀ i,i < len→(f i).length=s∧(∀ y∈f i,InI y)∧∀ j v,((f i).map I)[j]? =some v→w.cell? ⟨a.block,a.off+i*s+j,none⟩=some v:=
   ⟨fun i=>if h:i < len then Classical.choose (ex i h) else [],fun i hi=>by simp only [dif_pos hi]; exact Classical.choose_spec (ex i hi)⟩
  obtain ⟨f,hf⟩:=ch
  refine ⟨some a,cap,(List.range len).map f,by simp [SL],fun l hl=>?_,?_,by simpa using hlc,hcm⟩
  ·obtain ⟨i,hi,rfl⟩:=List.mem_map.1 hl
   have:=hf i (List.mem_range.1 hi)
   exact ⟨this.1,this.2.1⟩
  ·by_cases hz:len=0
   ·left; subst hz; rfl
   ·right
    have h00:=(hf 0 (by omega)).2.2 0 (I ((f 0)[0]'(by rw [(hf 0 (by omega)).1]; exact h0))) (by simp [(hf 0 (by omega)).1,h0])
    obtain ⟨b,o,sp⟩:=a
    have hsp:sp=none:=by
     have:=hE 0 (by omega)
     rw [hs,List.getElem?_eq_getElem (by rw [hel]; omega)] at this
     obtain ⟨cs,hc,hd⟩:=Option.bind_eq_some_iff.1 this
     obtain ⟨l,hl,rfl,hy⟩:=F hd
     unfold World.cells? at hc
     rw [if_pos (Nat.zero_le _)] at hc
     have:=mapM_get hc 0 0 (List.getElem?_range h0)
     rw [List.getElem?_eq_getElem (by rw [List.length_map,hl]; exact h0)] at this
     rw [Nat.zero_mul] at this
     exact World.cell?_spot (show w.cell? ⟨b,o,sp⟩=_ from this)
    subst hsp
    refine ⟨b,o,rfl,cell_in h00,fun i x hx j v hv=>?_⟩
    have hi:i < len:=by
     have:=(List.getElem?_eq_some_iff.1 hx).1
     simpa using this
    have hx' :x=f i:=by simpa [List.getElem?_range,hi] using hx.symm
    subst hx'
    exact (hf i hi).2.2 j v hv
theorem rd_map {α β:Type}{e1:α→List Value}{e2:β→List Value}{s c:Nat}{A:Option Addr}{xs:List α} (f:α→β) (h:∀ x∈xs,e2 (f x)=e1 x) (h1:(rd e1 s A c xs).ok w):(rd e2 s A c (xs.map f)).ok w:=by
 refine ⟨?_,by simpa using h1.2.1,h1.2.2⟩
 rcases h1.1 with rfl | ⟨b,o,e,hb,hc⟩
 ·exact .inl rfl
 ·refine .inr ⟨b,o,e,hb,fun i x hx j v hv=>?_⟩
  rw [List.getElem?_map] at hx
  obtain ⟨y,hy,rfl⟩:=Option.map_eq_some_iff.1 hx
  rw [h y (List.mem_of_getElem? hy)] at hv
  exact hc i y hy j v hv
theorem dec_int {r:Reach}{b0:Nat}{t:TypeId}{v:Value}{d:DataW H}{ps:List MemPlace} (ht:P.underlying t=some (.int .i64)) (hval:Value.okWide P w r b0 t v) (hd:DataW.Trod enc P w base spare held t v d ps):∃ n,v=I n∧InI n:=by
 obtain ⟨n,h1,_,_,hw⟩:=open_int ht hval hd
 exact ⟨n,h1,inI_of hw⟩
theorem okWide_cells {r:Reach}{b0:Nat}{t:TypeId}{v:Value} (ht:(match P.underlying t with | some (.struct _) | some (.array _ _)=>true | _=>false)=true) (hval:Value.okWide P w r b0 t v):∃ cs,v=.agg cs:=by
 unfold Value.okWide at hval
 split at hval
 ·obtain ⟨cs,h,_⟩:=hval; exact ⟨cs,h⟩
 ·obtain ⟨cs,h,_⟩:=hval; exact ⟨cs,h⟩
 ·rename_i h1 h2
  split at ht
  ·rename_i h; exact absurd h (h1 _)
  ·rename_i h; exact absurd h (h2 _ _)
  ·cases ht
end
end Go.Fx
namespace Go.Proofs.YtafhljljfglfeaaGreatDoor
open Go Go.Fx Go.Proofs Go.ChangeShapes Go.WideShapes Go.ChangeAt Go.RowKit
theorem own:ownKnob Tryz.prog.godebug=none:=by kernel_rfl
theorem laidOut:laidOutB Tryz.prog=true:=by kernel_rfl
theorem u3:Tryz.prog.underlying 3=some (.int .i64):=by kernel_rfl
theorem c3:Tryz.prog.cellsOf 3=1:=by kernel_rfl
theorem var_heap {W:World}{n:String}{g:Nat}{cs c:Array Value}{t:TypeId}{fr:Nat×Nat} (hg:Tryz.prog.globalNamed n=some g) (hv:W.var? Tryz.prog n=some cs) (hh:W.heap[g]? =some (.cells c t fr)):cs=c:=by
 unfold World.var? at hv
 rw [hg] at hv
 simp only [Option.bind_some,hh] at hv
 exact (Option.some.inj hv).symm
theorem gNobody : Tryz.prog.globalNamed "prow/ticket.nobody" = some 0 := by kernel_rfl
theorem tNobody:(Tryz.prog.globals[0]?).map (·.type)=some 123:=by kernel_rfl
theorem c123:Tryz.prog.cellsOf 123=2:=by kernel_rfl
theorem u123:∃ f0 f1:Field,Tryz.prog.underlying 123=some (.struct #[f0,f1])∧f0.type=3∧f1.type=3∧f0.offset=0∧f1.offset=1:=⟨(Tryz.prog.fieldsOf 123)[0]!,(Tryz.prog.fieldsOf 123)[1]!,by kernel_rfl,by kernel_rfl,by kernel_rfl,by kernel_rfl,by kernel_rfl⟩
theorem shape0:∃ zero,(((begin Tryz.prog (fun _ _=>0) default).world.heap[0]?).bind Obj.row?)=some (zero,123):=⟨#[I 0,I 0],by kernel_rfl⟩
set_option maxRecDepth 100000 in
theorem atNobody {W : World} (hS : W.ShapedOpen Tryz.prog) {g t : Nat} {cs : Array Value} {fuel : Nat} {p : List MemPlace} (hg : Tryz.prog.globalNamed "prow/ticket.nobody" = some g) (ht : (Tryz.prog.globals[g]?).map (·.type) = some t) (hv : W.var? Tryz.prog "prow/ticket.nobody" = some cs)
 (hd:DataW.trod (fun _=>()) Tryz.prog W 0 (fun _=>true) false fuel t cs.toList=some (.agg [.lit (.int .i64 (-1)),.lit (.int .i64 (-1))],p)):(bl 0 [I (-1),I (-1)] 123).ok W:=by
 obtain ⟨z,hz⟩:=shape0
 obtain ⟨cs0,h1,_⟩:=hS.1 0 z 123 (of_decide_eq_true (by kernel_rfl)) hz
 obtain rfl:=Option.some.inj (gNobody.symm.trans hg)
 obtain rfl:=Option.some.inj (tNobody.symm.trans ht)
 obtain rfl:=var_heap gNobody hv h1
 obtain ⟨f0,f1,hu,ht0,ht1,ho0,ho1⟩:=u123
 obtain ⟨xs,m,_,hx,hl,hxs,hel⟩:=DataW.trod_struct hu hd
 rw [c123] at hl
 have hx' :xs.map (·.1)=[.lit (.int .i64 (-1)),.lit (.int .i64 (-1))]:=by
  have:=congrArg Prod.fst hx
  exact (DataW.agg.inj this).symm
 obtain ⟨cl⟩:=cs
 match cl,hl with
 | [v0,v1],_=>
   match xs,hx' with
   | [(_,p0),(_,p1)],hx' =>
     simp only [List.map_cons,List.map_nil,List.cons.injEq,and_true] at hx'
     obtain ⟨rfl,rfl⟩:=hx'
     have e0:=hel 0 f0 rfl
     have e1:=hel 1 f1 rfl
     rw [ho0,ht0,c3] at e0
     rw [ho1,ht1,c3] at e1
     obtain ⟨n0,a0,b0,_⟩:=DataW.trod_int u3 (show DataW.trod _ _ _ _ _ _ _ _ [v0]=some (_,p0) from e0)
     obtain ⟨n1,a1,b1,_⟩:=DataW.trod_int u3 (show DataW.trod _ _ _ _ _ _ _ _ [v1]=some (_,p1) from e1)
     cases a0; cases a1; cases b0; cases b1
     exact h1
theorem gAsks : Tryz.prog.globalNamed "prow/ticket.asks" = some 1 := by kernel_rfl
theorem tAsks:(Tryz.prog.globals[1]?).map (·.type)=some 132:=by kernel_rfl
theorem u132:Tryz.prog.underlying 132=some (.array 2 131):=by kernel_rfl
theorem u131b:(match Tryz.prog.underlying 131 with | some (.func _ _ _)=>true | _=>false)=true:=by kernel_rfl
theorem u131:∃ ps rs va,Tryz.prog.underlying 131=some (.func ps rs va):=by
 have h:=u131b
 split at h
 ·rename_i ps rs va hu; exact ⟨ps,rs,va,hu⟩
 ·cases h
theorem c131:Tryz.prog.cellsOf 131=1:=by kernel_rfl
theorem c132:Tryz.prog.cellsOf 132=2:=by kernel_rfl
theorem shape1:∃ zero,(((begin Tryz.prog (fun _ _=>0) default).world.heap[1]?).bind Obj.row?)=some (zero,132):=⟨#[.nilFunc,.nilFunc],by kernel_rfl⟩
set_option maxRecDepth 100000 in
theorem atAsks {W : World} (hS : W.ShapedOpen Tryz.prog) {laid : List (String × DataW Unit)} (h : laidMetH Tryz.prog laid W) (hm : ("prow/ticket.asks", Rows.laid_prow_ticket_asks) ∈ laid) : (bl 1 [Value.func (.func 145) #[] #[], Value.func (.func 146) #[] #[]] 132).ok W := by
 obtain ⟨z,hz⟩:=shape1
 obtain ⟨cs0,h0,_⟩:=hS.1 1 z 132 (of_decide_eq_true (by kernel_rfl)) hz
 obtain ⟨g, t, cs, fuel, p, hg, ht, hv, hd⟩ := h.funcs (n := "prow/ticket.asks") hm
 obtain rfl:=Option.some.inj (gAsks.symm.trans hg)
 obtain rfl:=Option.some.inj (tAsks.symm.trans ht)
 obtain rfl:=var_heap gAsks hv h0
 obtain ⟨xs,m,_,hx,hl,hxs,hel⟩:=DataW.trod_array u132 hd
 rw [c132] at hl
 have hx' :xs.map (·.1)=[.held [40,112,114,111,119,47,116,105,99,107,101,116,46,98,111,111,107,41,46,97,108,119,97,121,115],.held [40,112,114,111,119,47,116,105,99,107,101,116,46,98,111,111,107,41,46,115,111,109,101,116,105,109,101,115]]:=by
  have:=congrArg Prod.fst hx
  exact (DataW.agg.inj this).symm
 obtain ⟨ps,rs,va,hu⟩:=u131
 obtain ⟨cl⟩:=cs
 match cl,hl with
 | [v0,v1],_=>
   match xs,hx' with
   | [(_,p0),(_,p1)],hx' =>
     simp only [List.map_cons,List.map_nil,List.cons.injEq,and_true] at hx'
     obtain ⟨rfl,rfl⟩:=hx'
     have e0:=hel 0 (by decide)
     have e1:=hel 1 (by decide)
     rw [c131] at e0 e1
     obtain rfl:=func_of_trod (f0:=145) hu (by kernel_rfl) (show DataW.trod _ _ _ _ _ _ _ _ [v0]=some (_,p0) from e0)
     obtain rfl:=func_of_trod (f0:=146) hu (by kernel_rfl) (show DataW.trod _ _ _ _ _ _ _ _ [v1]=some (_,p1) from e1)
     exact h0
theorem gEnds : Tryz.prog.globalNamed "prow/tally.ends" = some 2 := by kernel_rfl
theorem tEnds:(Tryz.prog.globals[2]?).map (·.type)=some 159:=by kernel_rfl
theorem u159:Tryz.prog.underlying 159=some (.array 2 158):=by kernel_rfl
theorem u158b:(match Tryz.prog.underlying 158 with | some (.func _ _ _)=>true | _=>false)=true:=by kernel_rfl
theorem u158:∃ ps rs va,Tryz.prog.underlying 158=some (.func ps rs va):=by
 have h:=u158b
 split at h
 ·rename_i ps rs va hu; exact ⟨ps,rs,va,hu⟩
 ·cases h
theorem c158:Tryz.prog.cellsOf 158=1:=by kernel_rfl
theorem c159:Tryz.prog.cellsOf 159=2:=by kernel_rfl
theorem shape2:∃ zero,(((begin Tryz.prog (fun _ _=>0) default).world.heap[2]?).bind Obj.row?)=some (zero,159):=⟨#[.nilFunc,.nilFunc],by kernel_rfl⟩
set_option maxRecDepth 100000 in
theorem atEnds {W : World} (hS : W.ShapedOpen Tryz.prog) {laid : List (String × DataW Unit)} (h : laidMetH Tryz.prog laid W) (hm : ("prow/tally.ends", Rows.laid_prow_tally_ends) ∈ laid) : (bl 2 [Value.func (.func 143) #[] #[], Value.func (.func 147) #[] #[]] 159).ok W := by
 obtain ⟨z,hz⟩:=shape2
 obtain ⟨cs0,h0,_⟩:=hS.1 2 z 159 (of_decide_eq_true (by kernel_rfl)) hz
 obtain ⟨g, t, cs, fuel, p, hg, ht, hv, hd⟩ := h.funcs (n := "prow/tally.ends") hm
 obtain rfl:=Option.some.inj (gEnds.symm.trans hg)
 obtain rfl:=Option.some.inj (tEnds.symm.trans ht)
 obtain rfl:=var_heap gEnds hv h0
 obtain ⟨xs,m,_,hx,hl,hxs,hel⟩:=DataW.trod_array u159 hd
 rw [c159] at hl
 have hx' :xs.map (·.1)=[.held [40,112,114,111,119,47,116,97,108,108,121,46,99,111,117,110,116,41,46,108,101,97,115,116],.held [40,112,114,111,119,47,116,97,108,108,121,46,99,111,117,110,116,41,46,109,111,115,116]]:=by
  have:=congrArg Prod.fst hx
  exact (DataW.agg.inj this).symm
 obtain ⟨ps,rs,va,hu⟩:=u158
 obtain ⟨cl⟩:=cs
 match cl,hl with
 | [v0,v1],_=>
   match xs,hx' with
   | [(_,p0),(_,p1)],hx' =>
     simp only [List.map_cons,List.map_nil,List.cons.injEq,and_true] at hx'
     obtain ⟨rfl,rfl⟩:=hx'
     have e0:=hel 0 (by decide)
     have e1:=hel 1 (by decide)
     rw [c158] at e0 e1
     obtain rfl:=func_of_trod (f0:=143) hu (by kernel_rfl) (show DataW.trod _ _ _ _ _ _ _ _ [v0]=some (_,p0) from e0)
     obtain rfl:=func_of_trod (f0:=147) hu (by kernel_rfl) (show DataW.trod _ _ _ _ _ _ _ _ [v1]=some (_,p1) from e1)
     exact h0
def laidL : List (String × DataW Unit) := [("prow/tally.ends", Rows.laid_prow_tally_ends), ("prow/ticket.nobody", Rows.laid_prow_ticket_nobody), ("prow/ticket.asks", Rows.laid_prow_ticket_asks)]
theorem globals_ok {W:World} (hS:W.ShapedOpen Tryz.prog) (h:laidMetH Tryz.prog laidL W):(bl 0 [I (-1),I (-1)] 123).ok W∧(bl 1 [Value.func (.func 145) #[] #[],Value.func (.func 146) #[] #[]] 132).ok W∧(bl 2 [Value.func (.func 143) #[] #[],Value.func (.func 147) #[] #[]] 159).ok W:=by
 refine ⟨?_,atAsks hS h (List.mem_cons_of_mem _ (List.mem_cons_of_mem _ (List.mem_cons_self ..))),atEnds hS h (List.mem_cons_self ..)⟩
 have h' : laidMet Tryz.prog [("prow/ticket.nobody", Rows.laid_prow_ticket_nobody)] W := h.1
 obtain ⟨ps,⟨g,t,cs,fuel,p,q,hg,ht,hv,hd,_,_⟩,_⟩:=h'
 exact atNobody hS hg ht hv hd
def putCells (cs:Array Value):Obj→Obj
 | .cells _ t frozen=>.cells cs t frozen
 | o=>o
noncomputable def laidWorld (os:Os):World:=
 { World.holding Tryz.prog os ⟨#[],#[],[]⟩ with heap:=((((World.holding Tryz.prog os ⟨#[],#[],[]⟩).heap.modify 0 (putCells #[I (-1),I (-1)])).modify 1 (putCells #[.func (.func 145) #[] #[],.func (.func 146) #[] #[]])).modify 2 (putCells #[.func (.func 143) #[] #[],.func (.func 147) #[] #[]])) }
end Go.Proofs.YtafhljljfglfeaaGreatDoor
set_option linter.constructorNameAsVariable false
set_option maxRecDepth 100000
namespace Go.Proofs.YtafhljljfglfeaaGreatDoor
open Go Go.Fx Go.Proofs Go.ChangeShapes Go.WideShapes Go.ChangeAt Go.RowKit
theorem get_bang {α:Type} [Inhabited α] {a:Array α}{i:Nat} (h:i < a.size):a[i]? =some a[i]! :=by
 rw [Array.getElem?_eq_getElem h,getElem!_pos a i h]
theorem st {t n:Nat} (u:Tryz.prog.underlying t=some (.struct (Tryz.prog.fieldsOf t))) (c:Tryz.prog.cellsOf t=n) (s:(Tryz.prog.fieldsOf t).size=n)
 (b:((List.range n).all fun i=>(Tryz.prog.fieldsOf t)[i]!.offset==i&&(Tryz.prog.fieldsOf t)[i]!.type==3)=true):FlatI Tryz.prog t n:=by
 refine flat_struct u c (fun i hi=>?_) s
 refine ⟨_,get_bang (by rw [s]; exact hi),?_⟩
 have:=List.all_eq_true.1 b i (List.mem_range.2 hi)
 simp only [Bool.and_eq_true,beq_iff_eq] at this
 exact ⟨this.1,by rw [this.2]; exact u3,by rw [this.2]; exact c3⟩
theorem c106:Tryz.prog.cellsOf 106=7:=by kernel_rfl
theorem c84:Tryz.prog.cellsOf 84=2:=by kernel_rfl
theorem c86:Tryz.prog.cellsOf 86=3:=by kernel_rfl
theorem c39:Tryz.prog.cellsOf 39=4:=by kernel_rfl
theorem c29:Tryz.prog.cellsOf 29=7:=by kernel_rfl
theorem c24:Tryz.prog.cellsOf 24=3:=by kernel_rfl
theorem c22:Tryz.prog.cellsOf 22=1:=by kernel_rfl
theorem c25:Tryz.prog.cellsOf 25=1:=by kernel_rfl
theorem c26:Tryz.prog.cellsOf 26=1:=by kernel_rfl
theorem c27:Tryz.prog.cellsOf 27=1:=by kernel_rfl
theorem u22:Tryz.prog.underlying 22=some (.slice 106):=by kernel_rfl
theorem u25:Tryz.prog.underlying 25=some (.slice 84):=by kernel_rfl
theorem u26:Tryz.prog.underlying 26=some (.slice 86):=by kernel_rfl
theorem u27:Tryz.prog.underlying 27=some (.slice 39):=by kernel_rfl
theorem u29:Tryz.prog.underlying 29=some (.struct (Tryz.prog.fieldsOf 29)):=by kernel_rfl
theorem u24:Tryz.prog.underlying 24=some (.struct (Tryz.prog.fieldsOf 24)):=by kernel_rfl
theorem flat106:FlatI Tryz.prog 106 7:=st (by kernel_rfl) c106 (by kernel_rfl) (by kernel_rfl)
theorem flat84:FlatI Tryz.prog 84 2:=st (by kernel_rfl) c84 (by kernel_rfl) (by kernel_rfl)
theorem flat86:FlatI Tryz.prog 86 3:=st (by kernel_rfl) c86 (by kernel_rfl) (by kernel_rfl)
theorem flat39:FlatI Tryz.prog 39 4:=st (by kernel_rfl) c39 (by kernel_rfl) (by kernel_rfl)
theorem f29s:(Tryz.prog.fieldsOf 29).size=5:=by kernel_rfl
theorem f29b:([(0,0,24),(1,3,3),(2,4,25),(3,5,26),(4,6,27)].all fun (x:Nat×Nat×Nat)=>(Tryz.prog.fieldsOf 29)[x.1]!.offset==x.2.1&&(Tryz.prog.fieldsOf 29)[x.1]!.type==x.2.2)=true:=by kernel_rfl
theorem f24s:(Tryz.prog.fieldsOf 24).size=3:=by kernel_rfl
theorem f24b:([(0,0,3),(1,1,3),(2,2,22)].all fun (x:Nat×Nat×Nat)=>(Tryz.prog.fieldsOf 24)[x.1]!.offset==x.2.1&&(Tryz.prog.fieldsOf 24)[x.1]!.type==x.2.2)=true:=by kernel_rfl
theorem maxLen_le:maxLen≤9223372036854775807:=by decide
def cntOf (l:List Int):TallyCount:=⟨l.getD 0 0,l.getD 1 0,l.getD 2 0,l.getD 3 0,l.getD 4 0,l.getD 5 0,l.getD 6 0⟩
theorem cntOf_cells {l:List Int} (h:l.length=7):eTallyCount (cntOf l)=l.map I:=by
 match l,h with
 | [_,_,_,_,_,_,_],_=>rfl
def seasOf (l:List Int):TicketSeason:=⟨l.getD 0 0,l.getD 1 0⟩
theorem seasOf_cells {l:List Int} (h:l.length=2):eTicketSeason (seasOf l)=l.map I:=by
 match l,h with
 | [_,_],_=>rfl
def showOf (l:List Int):TicketShow:=⟨l.getD 0 0,l.getD 1 0,l.getD 2 0⟩
theorem showOf_cells {l:List Int} (h:l.length=3):eTicketShow (showOf l)=l.map I:=by
 match l,h with
 | [_,_,_],_=>rfl
def boxOf (l:List Int):TicketBox:=⟨l.getD 0 0,l.getD 1 0,l.getD 2 0,l.getD 3 0⟩
theorem boxOf_cells {l:List Int} (h:l.length=4):eTicketBox (boxOf l)=l.map I:=by
 match l,h with
 | [_,_,_,_],_=>rfl
variable {H:Type}{enc:TypeId×Value→H}{w:World}{spare:Nat→Bool}{held:Bool}{r:Reach}{b0:Nat}{v:Value}{d:DataW H}{ps:List MemPlace}
theorem tally_of {fuel:Nat}{cs:List Value}{x:DataW H×List MemPlace} (h:DataW.trod enc Tryz.prog w 0 spare held fuel 24 cs=some x):∃ A c,∃ b:TallyBook,cs=[I b.Trips,I b.Room,SL A b.Counts.length c]∧(rd eTallyCount 7 A c b.Counts).ok w∧b.Counts.length≤9223372036854775807:=by
 obtain ⟨xs,m,_,_,hl,hxs,hel⟩:=DataW.trod_struct u24 h
 rw [c24] at hl
 rw [f24s] at hxs
 have fb:=f24b
 simp only [List.all_cons,List.all_nil,Bool.and_eq_true,beq_iff_eq,and_true] at fb
 obtain ⟨⟨o0,t0⟩,⟨o1,t1⟩,⟨o2,t2⟩⟩:=fb
 have e0:=hel 0 _ (get_bang (by rw [f24s]; decide))
 have e1:=hel 1 _ (get_bang (by rw [f24s]; decide))
 have e2:=hel 2 _ (get_bang (by rw [f24s]; decide))
 rw [o0,t0,c3,List.getElem?_eq_getElem (by omega)] at e0
 rw [o1,t1,c3,List.getElem?_eq_getElem (by omega)] at e1
 rw [o2,t2,c22,List.getElem?_eq_getElem (by omega)] at e2
 obtain ⟨n0,g0,_,_⟩:=DataW.trod_int u3 e0
 obtain ⟨n1,g1,_,_⟩:=DataW.trod_int u3 e1
 obtain ⟨A,c,l,g2,h1,h2⟩:=slice_flat u22 flat106 c106 (by decide) e2
 have m2:=rd_map (e2:=eTallyCount) cntOf (fun x hx=>cntOf_cells (h1 x hx).1) h2
 refine ⟨A,c,⟨n0,n1,l.map cntOf⟩,?_,m2,?_⟩
 ·match cs,hl with
  | [y0,y1,y2],_=>
    simp at g0 g1 g2
    subst g0 g1 g2
    simp
 ·have:=maxLen_le; have:=m2.2.1; have:=m2.2.2; simp only; omega
theorem dec_book (hval:Value.okWide Tryz.prog w r b0 29 v) (hd:DataW.Trod enc Tryz.prog w 0 spare held 29 v d ps):∃ A1 c1 A2 c2 A3 c3 A4 c4,∃ b:TicketBook,v=AG [I b.Tally.Trips,I b.Tally.Room,SL A1 b.Tally.Counts.length c1,I b.Fare,SL A2 b.Tickets.length c2,SL A3 b.Shows.length c3,SL A4 b.Boxes.length c4]∧
 (rd eTallyCount 7 A1 c1 b.Tally.Counts).ok w∧(rd eTicketSeason 2 A2 c2 b.Tickets).ok w∧(rd eTicketShow 3 A3 c3 b.Shows).ok w∧(rd eTicketBox 4 A4 c4 b.Boxes).ok w∧b.Tally.Counts.length≤9223372036854775807∧b.Tickets.length≤9223372036854775807∧b.Shows.length≤9223372036854775807∧b.Boxes.length≤9223372036854775807:=by
 obtain ⟨cs,rfl⟩:=okWide_cells (by kernel_rfl) hval
 obtain ⟨fuel,hf⟩:=hd
 obtain ⟨xs,m,_,_,hl,hxs,hel⟩:=DataW.trod_struct u29 hf
 rw [c29] at hl
 rw [f29s] at hxs
 have fb:=f29b
 simp only [List.all_cons,List.all_nil,Bool.and_eq_true,beq_iff_eq,and_true] at fb
 obtain ⟨⟨o0,t0⟩,⟨o1,t1⟩,⟨o2,t2⟩,⟨o3,t3⟩,⟨o4,t4⟩⟩:=fb
 have e0:=hel 0 _ (get_bang (by rw [f29s]; decide))
 have e1:=hel 1 _ (get_bang (by rw [f29s]; decide))
 have e2:=hel 2 _ (get_bang (by rw [f29s]; decide))
 have e3:=hel 3 _ (get_bang (by rw [f29s]; decide))
 have e4:=hel 4 _ (get_bang (by rw [f29s]; decide))
 rw [o0,t0,c24,List.getElem?_eq_getElem (by omega)] at e0
 rw [o1,t1,c3,List.getElem?_eq_getElem (by omega)] at e1
 rw [o2,t2,c25,List.getElem?_eq_getElem (by omega)] at e2
 rw [o3,t3,c26,List.getElem?_eq_getElem (by omega)] at e3
 rw [o4,t4,c27,List.getElem?_eq_getElem (by omega)] at e4
 obtain ⟨A0,d0,l0,g0,m0,n0⟩:=tally_of e0
 obtain ⟨n1,g1,_,_⟩:=DataW.trod_int u3 e1
 obtain ⟨A2,c2',l2,g2,h21,h22⟩:=slice_flat u25 flat84 c84 (by decide) e2
 obtain ⟨A3,c3',l3,g3,h31,h32⟩:=slice_flat u26 flat86 c86 (by decide) e3
 obtain ⟨A4,c4',l4,g4,h41,h42⟩:=slice_flat u27 flat39 c39 (by decide) e4
 have m2:=rd_map (e2:=eTicketSeason) seasOf (fun x hx=>seasOf_cells (h21 x hx).1) h22
 have m3:=rd_map (e2:=eTicketShow) showOf (fun x hx=>showOf_cells (h31 x hx).1) h32
 have m4:=rd_map (e2:=eTicketBox) boxOf (fun x hx=>boxOf_cells (h41 x hx).1) h42
 refine ⟨A0,d0,A2,c2',A3,c3',A4,c4',⟨l0,n1,l2.map seasOf,l3.map showOf,l4.map boxOf⟩,?_,m0,m2,m3,m4,n0,?_,?_,?_⟩
 ·obtain ⟨cl⟩:=cs
  match cl,hl with
  | [y0,y1,y2,y3,y4,y5,y6],_=>
    simp [Value.cells] at g0 g1 g2 g3 g4
    obtain ⟨rfl,rfl,rfl⟩:=g0
    subst g1 g2 g3 g4
    simp
 ·have:=maxLen_le; have:=m2.2.1; have:=m2.2.2; simp only; omega
 ·have:=maxLen_le; have:=m3.2.1; have:=m3.2.2; simp only; omega
 ·have:=maxLen_le; have:=m4.2.1; have:=m4.2.2; simp only; omega
end Go.Proofs.YtafhljljfglfeaaGreatDoor
namespace Go.Proofs.YtafhljljfglfeaaGreatDoor
open Go Go.Fx Go.Tally
theorem wrI {x:Int} (h0:-9223372036854775808≤x) (h1:x≤9223372036854775807):Fx.wr x=x:=wr_eq h0 h1
def inB (a lo hi:Int):Bool:=decide (lo≤a)&&decide (a≤hi)
theorem inB_iff {a lo hi:Int}:inB a lo hi=true↔lo≤a∧a≤hi:=by simp [inB]
theorem within_eq (a b c:Int):tally_within a b c=some (inB a b c):=by
 unfold tally_within inB
 cases decide (b≤a) <;> rfl
theorem inside_eq (a b c:Int):B_Inside a b c=some (inB a b c):=by
 unfold B_Inside inB
 rw [show decide (a≥b)=decide (b≤a) from rfl]
 cases decide (b≤a) <;> rfl
def tripsB (T f t:Int):Bool:=inB f 0 t&&decide (t < T)
theorem isTrips_eq (b:TallyBook) (f t:Int):tally_isTrips b f t=some (tripsB b.Trips f t):=by
 unfold tally_isTrips tripsB
 rw [within_eq]
 simp only [Option.bind_some]
 cases inB f 0 t <;> rfl
def cntB (T:Int) (x:TallyCount):Bool:=inB x.Who 0 2&&tripsB T x.From x.To&&inB x.Told 0 99&&inB x.Unit 1 20&&inB x.Under 0 30&&inB x.Over 0 30&&((x.Who != 1)||(x.Over==0))
theorem isCount_eq (b:TallyBook) (x:TallyCount):tally_isCount b x=some (cntB b.Trips x):=by
 unfold tally_isCount tally_isCount_j1 cntB
 simp only [within_eq,isTrips_eq,Option.bind_some]
 cases inB x.Who 0 2 <;> cases tripsB b.Trips x.From x.To <;> cases inB x.Told 0 99 <;> cases inB x.Unit 1 20 <;> cases inB x.Under 0 30 <;> cases inB x.Over 0 30 <;> cases (x.Who != 1) <;> rfl
def cntsB (T:Int) (l:List TallyCount):Bool:=l.all (cntB T)
def valB (b:TallyBook):Bool:=inB b.Trips 1 8&&inB b.Room 0 60&&decide ((b.Counts.length:Int)≤8)&&cntsB b.Trips b.Counts
theorem getI_lt {α:Type}{l:List α}{i:Int} (h0:0≤i) (h:i < l.length):∃ x,getI l i=some x∧l[i.toNat]? =some x:=by
 have hi:i.toNat < l.length:=by omega
 exact ⟨l[i.toNat],getI_of h0 (List.getElem?_eq_getElem hi),List.getElem?_eq_getElem hi⟩
theorem drop_get {α:Type}{l:List α}{k:Nat}{x:α} (h:l[k]? =some x):l.drop k=x::l.drop (k+1):=by
 obtain ⟨h1,rfl⟩:=List.getElem?_eq_some_iff.1 h
 exact List.drop_eq_getElem_cons h1
theorem check_loop (b:TallyBook) (hl:b.Counts.length≤9223372036854775807) (ok:Bool):loopF (tally_Check_l2 b) big (ok,0)=some (bif ok&&cntsB b.Trips b.Counts then 0 else 50):=by
 refine loopF_spec (fun s:Bool×Int=>0≤s.2∧s.2≤b.Counts.length) (fun s=>b.Counts.length - s.2.toNat) (fun s=>bif s.1&&cntsB b.Trips (b.Counts.drop s.2.toNat) then 0 else 50) ?_ big (ok,0) ⟨by simp,by simp⟩ (by unfold big; simp; omega)
 rintro rec ⟨ok,i⟩ ⟨h0,h1⟩ ih
 simp only at h0 h1 ih ⊢
 unfold tally_Check_l2
 simp only
 by_cases hi:i < b.Counts.length
 ·rw [decide_eq_true hi,cond_true]
  obtain ⟨x,hx,hx'⟩:=getI_lt h0 hi
  rw [hx,Option.bind_some]
  have hd:=drop_get hx'
  have hw:Fx.wr (i+1)=i+1:=wrI (by omega) (by omega)
  have e:(i+1).toNat=i.toNat+1:=by omega
  rw [hd,hw]
  cases ok with
  | true=>
    rw [cond_true,isCount_eq,Option.bind_some,ih _ ⟨by simp; omega,by simp; omega⟩ (by simp; omega)]
    simp only [e,cntsB,List.all_cons,Bool.true_and]
  | false=>
    rw [cond_false,ih _ ⟨by simp; omega,by simp; omega⟩ (by simp; omega)]
    simp
 ·rw [decide_eq_false hi,cond_false,show b.Counts.drop i.toNat=[] from List.drop_eq_nil_of_le (by omega)]
  cases ok <;> simp [cntsB]
theorem check_eq (b:TallyBook) (hl:b.Counts.length≤9223372036854775807):tally_Check b=some (bif valB b then 0 else 50):=by
 unfold tally_Check tally_Check_j3 valB
 simp only [within_eq,Option.bind_some,check_loop b hl]
 cases inB b.Trips 1 8 <;> cases inB b.Room 0 60 <;> simp
structure Val (b:TallyBook):Prop where
 t1:1≤b.Trips
 t8:b.Trips≤8
 r0:0≤b.Room
 r60:b.Room≤60
 l8:b.Counts.length≤8
 cs:∀ x∈b.Counts,cntB b.Trips x=true
structure Bk (b:TallyBook):Prop where
 t1:1≤b.Trips
 t8:b.Trips≤8
 r0:0≤b.Room
 r60:b.Room≤60
 l9:b.Counts.length≤9
 cs:∀ x∈b.Counts,cntB b.Trips x=true
theorem Val.bk {b:TallyBook} (h:Val b):Bk b:=⟨h.t1,h.t8,h.r0,h.r60,by have:=h.l8; omega,h.cs⟩
theorem val_iff {b:TallyBook}:valB b=true↔Val b:=by
 unfold valB cntsB
 simp only [Bool.and_eq_true,inB_iff,decide_eq_true_eq,List.all_eq_true]
 constructor
 ·rintro ⟨⟨⟨⟨a,b⟩,c,d⟩,e⟩,f⟩; exact ⟨a,b,c,d,by omega,f⟩
 ·rintro ⟨a,b,c,d,e,f⟩; exact ⟨⟨⟨⟨a,b⟩,c,d⟩,by omega⟩,f⟩
theorem check_ok {b:TallyBook} (h:Val b):tally_Check b=some 0:=by
 rw [check_eq b (by have:=h.l8; omega),val_iff.2 h]; rfl
structure Cnt (T:Int) (x:TallyCount):Prop where
 w0:0≤x.Who
 w2:x.Who≤2
 f0:0≤x.From
 ft:x.From≤x.To
 tT:x.To < T
 o0:0≤x.Told
 o99:x.Told≤99
 u1:1≤x.Unit
 u20:x.Unit≤20
 d0:0≤x.Under
 d30:x.Under≤30
 v0:0≤x.Over
 v30:x.Over≤30
 st:x.Who=1→x.Over=0
theorem cnt_iff {T:Int}{x:TallyCount}:cntB T x=true↔Cnt T x:=by
 unfold cntB tripsB
 simp only [Bool.and_eq_true,inB_iff,decide_eq_true_eq,Bool.or_eq_true,bne_iff_ne,beq_iff_eq]
 constructor
 ·intro h; obtain ⟨⟨⟨⟨⟨⟨⟨a,b⟩,⟨c,d⟩,e⟩,f,g⟩,h,i⟩,j,k⟩,l,m⟩,n⟩:=h
  exact ⟨a,b,c,d,e,f,g,h,i,j,k,l,m,fun h=>by omega⟩
 ·rintro ⟨a,b,c,d,e,f,g,h,i,j,k,l,m,n⟩
  exact ⟨⟨⟨⟨⟨⟨⟨a,b⟩,⟨c,d⟩,e⟩,f,g⟩,h,i⟩,j,k⟩,l,m⟩,by omega⟩
theorem Cnt.prod {T:Int}{x:TallyCount} (h:Cnt T x):0≤x.Told*x.Unit∧x.Told*x.Unit≤1980:=by
 have h1:=h.o0; have h2:=h.o99; have h3:=h.u1; have h4:=h.u20
 constructor
 ·exact Int.mul_nonneg h1 (by omega)
 ·have:x.Told*x.Unit≤99*20:=Int.mul_le_mul h2 h4 (by omega) (by omega)
  omega
def mostV (x:TallyCount):Int:=x.Told*x.Unit+x.Under
def leastV (x:TallyCount):Int:=x.Told*x.Unit - x.Over
theorem most_eq {T:Int}{x:TallyCount} (h:Cnt T x):tally_count_most x=some (mostV x):=by
 have:=h.prod; have:=h.d0; have:=h.d30
 unfold tally_count_most mostV
 rw [wrI (x:=x.Told*x.Unit) (by omega) (by omega),wrI (by omega) (by omega)]
theorem least_eq {T:Int}{x:TallyCount} (h:Cnt T x):tally_count_least x=some (leastV x):=by
 have:=h.prod; have:=h.v0; have:=h.v30
 unfold tally_count_least leastV
 rw [wrI (x:=x.Told*x.Unit) (by omega) (by omega),wrI (by omega) (by omega)]
theorem getI_ix {α:Type}{l:List α}{k:Nat} (h:k < l.length):getI l (k:Int)=some l[k]:=by rw [getI_nat,List.getElem?_eq_getElem h]
theorem loop_fold {σ ρ:Type}{body:(σ→Option ρ)→σ→Option ρ} (S:Nat→σ) (n:Nat) {R:Option ρ} (hs:∀ rec k,k < n→body rec (S k)=rec (S (k+1))) (he:∀ rec,body rec (S n)=R) (hn:n < big):loopF body big (S 0)=R:=by
 have key:∀ d k m,k+d=n→d < m→loopF body m (S k)=R:=by
  intro d
  induction d with
  | zero=>
    intro k m h1 h2
    obtain ⟨m,rfl⟩:∃ q,m=q+1:=⟨m - 1,by omega⟩
    obtain rfl:k=n:=by omega
    exact he _
  | succ d ih=>
    intro k m h1 h2
    obtain ⟨m,rfl⟩:∃ q,m=q+1:=⟨m - 1,by omega⟩
    show body (loopF body m) (S k)=R
    rw [hs _ k (by omega)]
    exact ih (k+1) m (by omega) (by omega)
 exact key n 0 big (by omega) hn
theorem loop_fold0 {σ ρ:Type}{body:(σ→Option ρ)→σ→Option ρ} (S:Nat→σ) (n:Nat) {s0:σ}{R:Option ρ} (hs:∀ rec k,k < n→body rec (S k)=rec (S (k+1))) (he:∀ rec,body rec (S n)=R) (hn:n < big) (h0:S 0=s0):loopF body big s0=R:=h0▸loop_fold S n hs he hn
theorem big_eq:big=18446744073709551616:=by decide
def allTo {α:Type} (p:α→Bool) (l:List α) (ok:Bool) (k:Nat):Bool:=ok&&(l.take k).all p
theorem allTo_zero {α:Type}{p:α→Bool}{l:List α}{ok:Bool}:allTo p l ok 0=ok:=by simp [allTo]
theorem allTo_succ {α:Type}{p:α→Bool}{l:List α}{ok:Bool}{k:Nat} (h:k < l.length):allTo p l ok (k+1)=(allTo p l ok k&&p l[k]):=by
 unfold allTo
 rw [← List.take_append_getElem h,List.all_append]
 simp [Bool.and_assoc]
theorem allTo_end {α:Type}{p:α→Bool}{l:List α}{ok:Bool}:allTo p l ok l.length=(ok&&l.all p):=by simp [allTo]
theorem wrN {k:Nat}{n:Nat} (h:k < n) (hn:n≤9223372036854775807):Fx.wr ((k:Int)+1)=((k+1:Nat):Int):=by rw [wrI (by omega) (by omega)]; omega
end Go.Proofs.YtafhljljfglfeaaGreatDoor
namespace Go.Proofs.YtafhljljfglfeaaGreatDoor
open Go Go.Fx
theorem loopF_succ {σ ρ:Type}{body:(σ→Option ρ)→σ→Option ρ}{n:Nat}{s:σ}:loopF body (n+1) s=body (loopF body n) s:=rfl
def Steps (t r:Int) (q:Nat→Int):Prop:=∀ k:Nat,(k:Int) < t→q (k+1)≤q k+r∧q k≤q (k+1)
def CntQ (x:TallyCount) (q:Nat→Int):Prop:=leastV x≤q (x.To+1).toNat - q x.From.toNat∧q (x.To+1).toNat - q x.From.toNat≤mostV x
def CntsQ (l:List TallyCount) (out:TallyCount→Nat→Bool) (q:Nat→Int):Prop:=∀ i x,l[i]? =some x→out x i=false→CntQ x q
def Fit (b:TallyBook) (out:TallyCount→Nat→Bool) (q:Nat→Int):Prop:=Steps b.Trips b.Room q∧CntsQ b.Counts out q
end Go.Proofs.YtafhljljfglfeaaGreatDoor
namespace Go.Proofs.YtafhljljfglfeaaGreatDoor
open Go Go.Fx Go.Tally
def no:TallyCount→Nat→Bool:=fun _ _=>false
end Go.Proofs.YtafhljljfglfeaaGreatDoor
namespace Go.Proofs.YtafhljljfglfeaaGreatDoor
open Go Go.Fx Go.Tally
def pre (u:List Int) (k:Nat):Int:=(u.take k).sum
theorem pre_succ {u:List Int}{k:Nat}{x:Int} (h:u[k]? =some x):pre u (k+1)=pre u k+x:=by
 unfold pre
 obtain ⟨h1,rfl⟩:=List.getElem?_eq_some_iff.1 h
 rw [List.take_succ_eq_append_getElem h1,List.sum_append]
 simp
theorem pre_cut {u:List Int}{a c:Nat} (h:a≤c):((u.take c).drop a).sum=pre u c - pre u a:=by
 unfold pre
 have:=List.take_append_drop a (u.take c)
 have h2:=congrArg List.sum this
 rw [List.sum_append,List.take_take,Nat.min_eq_left h] at h2
 omega
theorem sum_bnd {l:List Int} (h:∀ n∈l,0≤n∧n≤60):0≤l.sum∧l.sum≤60*l.length:=by
 induction l with
 | nil=>simp
 | cons x l ih=>
   have h1:=h x (List.mem_cons_self ..)
   have h2:=ih fun n hn=>h n (List.mem_cons_of_mem _ hn)
   simp only [List.sum_cons,List.length_cons]
   omega
theorem sum_eq {l:List Int} (hl:l.length≤8) (h:∀ n∈l,0≤n∧n≤60):tally_sum l=some l.sum:=by
 unfold tally_sum
 refine loopF_spec (body:=tally_sum_l1 l) (fun z:Int×Int=>∃ k:Nat,z.2=k∧k≤l.length∧z.1=pre l k) (fun z=>l.length - z.2.toNat) (fun _=>l.sum) ?_ big (0,0) ⟨0,rfl,Nat.zero_le _,by simp [pre]⟩ (by unfold big; simp; omega)
 rintro rec ⟨s,i⟩ ⟨k,rfl,hk,rfl⟩ ih
 simp only at ih ⊢
 unfold tally_sum_l1
 simp only
 by_cases hlt:k < l.length
 ·rw [decide_eq_true (by omega),cond_true,getI_nat,List.getElem?_eq_getElem hlt,Option.bind_some]
  have hx:=List.getElem?_eq_getElem hlt
  generalize l[k]=x at hx
  have h1:=h x (List.mem_of_getElem? hx)
  have h2:=sum_bnd (l:=l.take k) fun n hn=>h n (List.mem_of_mem_take hn)
  have h3:(l.take k).length≤8:=by simp; omega
  rw [show (l.take k).sum=pre l k from rfl] at h2
  rw [wrI (x:=pre l k+x) (by omega) (by omega),wrI (by omega) (by omega)]
  exact ih _ ⟨k+1,by simp,by omega,(pre_succ hx).symm⟩ (by (try simp only); omega)
 ·rw [decide_eq_false (by omega),cond_false]
  unfold pre
  rw [List.take_of_length_le (by omega)]
theorem cutI_eq {α:Type}{l:List α}{a c:Int} (h0:0≤a) (h1:a≤c) (h2:c≤l.length):cutI l a c=some ((l.take c.toNat).drop a.toNat):=by
 unfold cutI
 simp [h0,h1,h2]
theorem mem_cut {α:Type}{l:List α}{a c:Nat}{x:α} (h:x∈(l.take c).drop a):x∈l:=List.mem_of_mem_take (List.mem_of_mem_drop h)
structure Tru (b:TallyBook) (u:List Int):Prop where
 len:(u.length:Int)=b.Trips
 bnd:∀ n∈u,0≤n∧n≤b.Room
theorem Tru.steps {b:TallyBook}{u:List Int} (h:Tru b u):Steps b.Trips b.Room (pre u):=by
 intro k hk
 have hlt:k < u.length:=by have:=h.len; omega
 have hx:=List.getElem?_eq_getElem hlt
 have:=h.bnd _ (List.mem_of_getElem? hx)
 rw [pre_succ hx]
 omega
theorem count_right {b:TallyBook} (V:Bk b) {u:List Int} (hu:Tru b u) {x:TallyCount} (hx:Cnt b.Trips x):∃ r,tally_count_right x u=some r∧(r=true↔CntQ x (pre u)):=by
 have:=hu.len; have:=V.t8; have:=V.r60; have f0:=hx.f0; have ft:=hx.ft; have tT:=hx.tT
 unfold tally_count_right
 rw [wrI (x:=x.To+1) (by omega) (by omega),cutI_eq (by omega) (by omega) (by omega),Option.bind_some]
 rw [sum_eq (by simp; omega) (fun n hn=>by have:=hu.bnd n (mem_cut hn); omega),Option.bind_some,least_eq hx,Option.bind_some,most_eq hx,Option.bind_some,within_eq]
 refine ⟨_,rfl,?_⟩
 rw [inB_iff,pre_cut (by omega)]
 rfl
theorem can_law {b:TallyBook} (V:Val b) {u:List Int} (hu:Tru b u):∃ r,tally_Can b u=some (r,0)∧(r=true↔Fit b no (pre u)):=by
 have hlen:=hu.len; have t8:=V.t8; have l8:=V.l8
 have second:∃ p,loopF (tally_Can_l2 b u) big 0=some p∧p.2=0∧(p.1=true↔Fit b no (pre u)):=by
  refine loopF_inv (body:=tally_Can_l2 b u) (fun z:Int=>∃ k:Nat,z=k∧k≤b.Counts.length∧∀ j x,j < k→b.Counts[j]? =some x→CntQ x (pre u)) (fun z=>b.Counts.length - z.toNat) (fun p=>p.2=0∧(p.1=true↔Fit b no (pre u))) ?_ big 0 ⟨0,rfl,Nat.zero_le _,fun j x h=>absurd h (Nat.not_lt_zero j)⟩ (by unfold big; simp; omega)
  rintro rec z ⟨k,rfl,hk,hq⟩ ih
  unfold tally_Can_l2
  by_cases hlt:k < b.Counts.length
  ·rw [decide_eq_true (by omega),cond_true,getI_nat,List.getElem?_eq_getElem hlt,Option.bind_some]
   have hx:=List.getElem?_eq_getElem hlt
   generalize b.Counts[k]=x at hx
   obtain ⟨r,hr,hi⟩:=count_right V.bk hu (cnt_iff.1 (V.cs x (List.mem_of_getElem? hx)))
   rw [hr,Option.bind_some]
   cases r with
   | false=>
     refine ⟨_,rfl,rfl,?_⟩
     simp only [Bool.false_eq_true,false_iff]
     intro h
     have:=hi.2 (h.2 k x hx rfl)
     cases this
   | true=>
     rw [Bool.not_true,cond_false,wrI (by omega) (by omega)]
     refine ih _ ⟨k+1,by simp,by omega,fun j y hj hy=>?_⟩ (by (try simp only); omega)
     by_cases hjk:j=k
     ·subst hjk; rw [hx] at hy; cases hy; exact hi.1 rfl
     ·exact hq j y (by omega) hy
  ·rw [decide_eq_false (by omega),cond_false]
   refine ⟨_,rfl,rfl,?_⟩
   simp only [true_iff]
   exact ⟨hu.steps,fun j x hx _=>hq j x (by have:=(List.getElem?_eq_some_iff.1 hx).1; omega) hx⟩
 obtain ⟨⟨p1,p2⟩,hp,hp0,hpi⟩:=second
 simp only at hp0 hpi
 subst hp0
 refine ⟨p1,?_,hpi⟩
 unfold tally_Can
 rw [check_ok V,Option.bind_some]
 simp only [bne_self_eq_false,cond_false]
 rw [show ((u.length:Int) != b.Trips)=false by simp [hlen],cond_false]
 refine loopF_spec (body:=tally_Can_l3 u b) (fun z:Int=>∃ k:Nat,z=k∧k≤u.length) (fun z=>u.length - z.toNat) (fun _=>(p1,0)) ?_ big 0 ⟨0,rfl,Nat.zero_le _⟩ (by unfold big; simp; omega)
 rintro rec z ⟨k,rfl,hk⟩ ih
 unfold tally_Can_l3
 by_cases hlt:k < u.length
 ·rw [decide_eq_true (by omega),cond_true,getI_nat,List.getElem?_eq_getElem hlt,Option.bind_some]
  have hx:=List.getElem?_eq_getElem hlt
  rw [within_eq,Option.bind_some,inB_iff.2 (hu.bnd _ (List.mem_of_getElem? hx)),Bool.not_true,cond_false,wrI (by omega) (by omega)]
  exact ih _ ⟨k+1,by simp,by omega⟩ (by (try simp only); omega)
 ·rw [decide_eq_false (by omega),cond_false,hp]
end Go.Proofs.YtafhljljfglfeaaGreatDoor
namespace Go.Proofs.YtafhljljfglfeaaGreatDoor
open Go Go.Fx Go.Tally
theorem withinT_eq (a b c:Int):ticket_within a b c=some (inB a b c):=by
 unfold ticket_within inB
 cases decide (b≤a) <;> rfl
structure ArgT (b:TicketBook):Prop where
 cl:b.Tally.Counts.length≤9223372036854775807
 tl:b.Tickets.length≤9223372036854775807
 sl:b.Shows.length≤9223372036854775807
 bl:b.Boxes.length≤9223372036854775807
def seasB (T:Int) (x:TicketSeason):Bool:=inB x.From 0 (T - 1)&&inB x.To 0 (T - 1)&&decide (x.From≤x.To)
def showB (T:Int) (m:Nat) (x:TicketShow):Bool:=inB x.Trip 0 (T - 1)&&inB x.Ticket 0 ((m:Int) - 1)&&inB x.Walker 0 9
def boxB (T:Int) (x:TicketBox):Bool:=inB x.From 0 (T - 1)&&inB x.To 0 (T - 1)&&decide (x.From≤x.To)&&inB x.Pence 0 400&&inB x.Lost 0 40
theorem isTrip_eq (b:TicketBook) (h:1≤b.Tally.Trips) (h2:b.Tally.Trips≤8) (n:Int):ticket_isTrip b n=some (inB n 0 (b.Tally.Trips - 1)):=by
 unfold ticket_isTrip
 rw [wrI (by omega) (by omega),withinT_eq]; rfl
theorem isTicket_eq (b:TicketBook) (h:b.Tickets.length≤9223372036854775807) (n:Int):ticket_isTicket b n=some (inB n 0 ((b.Tickets.length:Int) - 1)):=by
 unfold ticket_isTicket
 rw [wrI (by omega) (by omega),withinT_eq]; rfl
theorem isBox_eq (b:TicketBook) (h:1≤b.Tally.Trips) (h2:b.Tally.Trips≤8) (x:TicketBox):ticket_isBox b x=some (boxB b.Tally.Trips x):=by
 unfold ticket_isBox boxB
 simp only [isTrip_eq b h h2,withinT_eq,Option.bind_some]
 cases inB x.From 0 (b.Tally.Trips - 1) <;> cases inB x.To 0 (b.Tally.Trips - 1) <;> cases decide (x.From≤x.To) <;> cases inB x.Pence 0 400 <;> cases inB x.Lost 0 40 <;> rfl
theorem allTo_ok {α:Type}{p:α→Bool}{l:List α}{ok:Bool}{k:Nat} (h:allTo p l ok k=true):ok=true:=by
 unfold allTo at h; rw [Bool.and_eq_true] at h; exact h.1
theorem checkT_tail (b:TicketBook) (A:ArgT b) (ok:Bool) (hT:ok=true→1≤b.Tally.Trips∧b.Tally.Trips≤8):ticket_Check_j7 b ok=some (bif ok&&b.Tickets.all (seasB b.Tally.Trips)&&b.Shows.all (showB b.Tally.Trips b.Tickets.length)&&b.Boxes.all (boxB b.Tally.Trips) then 0 else 100):=by
 have h1:=A.tl; have h2:=A.sl; have h3:=A.bl
 unfold ticket_Check_j7
 refine loop_fold0 (fun k=>(allTo (seasB b.Tally.Trips) b.Tickets ok k,(k:Int))) b.Tickets.length (fun rec k hk=>?_) (fun rec=>?_) (by rw [big_eq]; omega) (by rw [allTo_zero]; rfl)
 ·unfold ticket_Check_l6
  simp only
  rw [decide_eq_true (by omega),cond_true,getI_ix hk,Option.bind_some,wrN hk h1,allTo_succ hk]
  have e:seasB b.Tally.Trips b.Tickets[k]=(inB b.Tickets[k].From 0 (b.Tally.Trips - 1)&&inB b.Tickets[k].To 0 (b.Tally.Trips - 1)&&decide (b.Tickets[k].From≤b.Tickets[k].To)):=rfl
  rw [e]
  cases ha:allTo (seasB b.Tally.Trips) b.Tickets ok k with
  | false=>rfl
  | true=>
    have:=hT (allTo_ok ha)
    simp only [isTrip_eq b this.1 this.2,Option.bind_some]
    cases inB b.Tickets[k].From 0 (b.Tally.Trips - 1) <;> cases inB b.Tickets[k].To 0 (b.Tally.Trips - 1) <;> rfl
 unfold ticket_Check_l6
 simp only
 rw [decide_eq_false (by omega),cond_false,allTo_end]
 have hT:(ok&&b.Tickets.all (seasB b.Tally.Trips))=true→1≤b.Tally.Trips∧b.Tally.Trips≤8:=fun h=>hT (by rw [Bool.and_eq_true] at h; exact h.1)
 generalize (ok&&b.Tickets.all (seasB b.Tally.Trips))=ok at hT
 refine loop_fold0 (fun k=>(allTo (showB b.Tally.Trips b.Tickets.length) b.Shows ok k,(k:Int))) b.Shows.length (fun rec k hk=>?_) (fun rec=>?_) (by rw [big_eq]; omega) (by rw [allTo_zero]; rfl)
 ·unfold ticket_Check_l5
  simp only
  rw [decide_eq_true (by omega),cond_true,getI_ix hk,Option.bind_some,wrN hk h2,allTo_succ hk]
  have e:showB b.Tally.Trips b.Tickets.length b.Shows[k]=(inB b.Shows[k].Trip 0 (b.Tally.Trips - 1)&&inB b.Shows[k].Ticket 0 ((b.Tickets.length:Int) - 1)&&inB b.Shows[k].Walker 0 9):=rfl
  rw [e]
  cases ha:allTo (showB b.Tally.Trips b.Tickets.length) b.Shows ok k with
  | false=>rfl
  | true=>
    have:=hT (allTo_ok ha)
    simp only [isTrip_eq b this.1 this.2,isTicket_eq b h1,withinT_eq,Option.bind_some]
    cases inB b.Shows[k].Trip 0 (b.Tally.Trips - 1) <;> cases inB b.Shows[k].Ticket 0 ((b.Tickets.length:Int) - 1) <;> rfl
 unfold ticket_Check_l5
 simp only
 rw [decide_eq_false (by omega),cond_false,allTo_end]
 have hT:(ok&&b.Shows.all (showB b.Tally.Trips b.Tickets.length))=true→1≤b.Tally.Trips∧b.Tally.Trips≤8:=fun h=>hT (by rw [Bool.and_eq_true] at h; exact h.1)
 generalize (ok&&b.Shows.all (showB b.Tally.Trips b.Tickets.length))=ok at hT
 refine loop_fold0 (fun k=>(allTo (boxB b.Tally.Trips) b.Boxes ok k,(k:Int))) b.Boxes.length (fun rec k hk=>?_) (fun rec=>?_) (by rw [big_eq]; omega) (by rw [allTo_zero]; rfl)
 ·unfold ticket_Check_l4
  simp only
  rw [decide_eq_true (by omega),cond_true,getI_ix hk,Option.bind_some,wrN hk h3,allTo_succ hk]
  cases ha:allTo (boxB b.Tally.Trips) b.Boxes ok k with
  | false=>rfl
  | true=>
    have:=hT (allTo_ok ha)
    rw [cond_true,isBox_eq b this.1 this.2]
    rfl
 unfold ticket_Check_l4
 simp only
 rw [decide_eq_false (by omega),cond_false,allTo_end]
 cases (ok&&b.Boxes.all (boxB b.Tally.Trips)) <;> rfl
def valT (b:TicketBook):Bool:=valB b.Tally&&decide (b.Tally.Trips≤3)&&decide (b.Tally.Room≤5)&&inB b.Fare 1 20&&decide ((b.Tickets.length:Int)≤3)&&decide ((b.Shows.length:Int)≤5)&&decide ((b.Boxes.length:Int)≤3)&&b.Tickets.all (seasB b.Tally.Trips)&&b.Shows.all (showB b.Tally.Trips b.Tickets.length)&&b.Boxes.all (boxB b.Tally.Trips)
theorem checkT_eq (b:TicketBook) (A:ArgT b):ticket_Check b=some (bif valT b then 0 else 100):=by
 unfold ticket_Check valT
 rw [check_eq _ A.cl]
 have f:=checkT_tail b A false (fun h=>by cases h)
 simp only [Bool.false_and,cond_false] at f
 cases hv:valB b.Tally with
 | false=>simp only [cond_false,Option.bind_some,Bool.false_and]; exact f
 | true=>
   have V:=val_iff.1 hv
   have t:=fun ok=>checkT_tail b A ok (fun _=>⟨V.t1,V.t8⟩)
   simp only [withinT_eq,Option.bind_some,t,cond_true,beq_self_eq_true]
   cases decide (b.Tally.Trips≤3) <;> cases decide (b.Tally.Room≤5) <;> cases inB b.Fare 1 20 <;> cases decide ((b.Tickets.length:Int)≤3) <;> cases decide ((b.Shows.length:Int)≤5) <;> rfl
structure Seas (T:Int) (x:TicketSeason):Prop where
 f0:0≤x.From
 ft:x.From≤x.To
 tT:x.To < T
structure Shw (T:Int) (m:Nat) (x:TicketShow):Prop where
 t0:0≤x.Trip
 tT:x.Trip < T
 n0:0≤x.Ticket
 nm:x.Ticket < m
 w0:0≤x.Walker
 w9:x.Walker≤9
structure Box (T:Int) (x:TicketBox):Prop where
 f0:0≤x.From
 ft:x.From≤x.To
 tT:x.To < T
 p0:0≤x.Pence
 p4:x.Pence≤400
 l0:0≤x.Lost
 l4:x.Lost≤40
theorem seas_iff {T:Int}{x:TicketSeason}:seasB T x=true↔Seas T x:=by
 unfold seasB; simp only [Bool.and_eq_true,inB_iff,decide_eq_true_eq]
 exact ⟨fun ⟨⟨⟨a,b⟩,c,d⟩,e⟩=>⟨a,e,by omega⟩,fun ⟨a,b,c⟩=>⟨⟨⟨a,by omega⟩,by omega,by omega⟩,b⟩⟩
theorem shw_iff {T:Int}{m:Nat}{x:TicketShow}:showB T m x=true↔Shw T m x:=by
 unfold showB; simp only [Bool.and_eq_true,inB_iff,decide_eq_true_eq]
 exact ⟨fun ⟨⟨⟨a,b⟩,c,d⟩,e,f⟩=>⟨a,by omega,c,by omega,e,f⟩,fun ⟨a,b,c,d,e,f⟩=>⟨⟨⟨a,by omega⟩,c,by omega⟩,e,f⟩⟩
theorem box_iff {T:Int}{x:TicketBox}:boxB T x=true↔Box T x:=by
 unfold boxB; simp only [Bool.and_eq_true,inB_iff,decide_eq_true_eq]
 exact ⟨fun ⟨⟨⟨⟨⟨a,b⟩,c,d⟩,e⟩,f,g⟩,h,i⟩=>⟨a,e,by omega,f,g,h,i⟩,fun ⟨a,b,c,d,e,f,g⟩=>⟨⟨⟨⟨⟨a,by omega⟩,by omega,by omega⟩,b⟩,d,e⟩,f,g⟩⟩
structure VT (b:TicketBook):Prop where
 ta:Val b.Tally
 t3:b.Tally.Trips≤3
 r5:b.Tally.Room≤5
 f1:1≤b.Fare
 f20:b.Fare≤20
 tn:b.Tickets.length≤3
 sn:b.Shows.length≤5
 bn:b.Boxes.length≤3
 te:∀ x∈b.Tickets,Seas b.Tally.Trips x
 sh:∀ x∈b.Shows,Shw b.Tally.Trips b.Tickets.length x
 bx:∀ x∈b.Boxes,Box b.Tally.Trips x
theorem valT_iff {b:TicketBook}:valT b=true↔VT b:=by
 unfold valT
 simp only [Bool.and_eq_true,val_iff,inB_iff,decide_eq_true_eq,List.all_eq_true,seas_iff,shw_iff,box_iff]
 exact ⟨fun ⟨⟨⟨⟨⟨⟨⟨⟨⟨a,b⟩,c⟩,d,e⟩,f⟩,g⟩,h⟩,i⟩,j⟩,k⟩=>⟨a,b,c,d,e,by omega,by omega,by omega,i,j,k⟩,fun ⟨a,b,c,d,e,f,g,h,i,j,k⟩=>⟨⟨⟨⟨⟨⟨⟨⟨⟨a,b⟩,c⟩,d,e⟩,by omega⟩,by omega⟩,by omega⟩,i⟩,j⟩,k⟩⟩
theorem VT.arg {b:TicketBook} (V:VT b):ArgT b:=⟨by have:=V.ta.l8; omega,by have:=V.tn; omega,by have:=V.sn; omega,by have:=V.bn; omega⟩
theorem checkT_ok {b:TicketBook} (V:VT b):ticket_Check b=some 0:=by
 rw [checkT_eq b V.arg,valT_iff.2 V]; rfl
end Go.Proofs.YtafhljljfglfeaaGreatDoor
namespace Go.Proofs.YtafhljljfglfeaaGreatDoor
open Go Go.Fx
def Clm (l:List Int) (n:Int):Prop:=∀ (k:Nat) (x:Int),l[k]? =some x→0≤x∧x < n∧∀ y,0 < k→l[k - 1]? =some y→y < x
theorem Clm.nil {n:Int}:Clm [] n:=fun k x h=>by simp at h
theorem Clm.snoc {l:List Int}{n v:Int} (h:Clm l n) (h0:0≤v) (h1:v < n) (h2:∀ y,l.getLast? =some y→y < v):Clm (l++[v]) n:=by
 intro k x hx
 by_cases hk:k < l.length
 ·rw [List.getElem?_append_left hk] at hx
  obtain ⟨a1,a2,a3⟩:=h k x hx
  refine ⟨a1,a2,fun y h0 hy=>a3 y h0 ?_⟩
  rwa [List.getElem?_append_left (by omega)] at hy
 ·rw [List.getElem?_append_right (by omega),List.getElem?_singleton] at hx
  split at hx
  ·cases hx
   refine ⟨h0,h1,fun y hk0 hy=>h2 y ?_⟩
   rw [List.getElem?_append_left (by omega)] at hy
   rw [List.getLast?_eq_getElem?,← hy]
   congr 1; omega
  ·cases hx
theorem Clm.lt {l:List Int}{n:Int} (h:Clm l n):∀ (d i:Nat) (x y:Int),l[i]? =some x→l[i+d+1]? =some y→x < y:=by
 intro d
 induction d with
 | zero=>intro i x y hx hy; exact (h (i+1) y hy).2.2 x (by omega) (by simpa using hx)
 | succ d ih=>
   intro i x y hx hy
   have hlt:i+d+1 < l.length:=by have:=(List.getElem?_eq_some_iff.1 hy).1; omega
   have h1:=ih i x _ hx (List.getElem?_eq_getElem hlt)
   have h2:=(h (i+(d+1)+1) y hy).2.2 _ (by omega) (by rw [show i+(d+1)+1 - 1=i+d+1 by omega]; exact List.getElem?_eq_getElem hlt)
   omega
theorem Clm.len {l:List Int}{n:Int} (h:Clm l n) (h0:0≤n):(l.length:Int)≤n:=by
 have:∀ (k:Nat) (x:Int),l[k]? =some x→(k:Int)≤x:=by
  intro k
  induction k with
  | zero=>intro x hx; have:=(h 0 x hx).1; omega
  | succ k ih=>
    intro x hx
    have hlt:k < l.length:=by have:=(List.getElem?_eq_some_iff.1 hx).1; omega
    have h1:=ih _ (List.getElem?_eq_getElem hlt)
    have h2:=h.lt 0 k _ x (List.getElem?_eq_getElem hlt) hx
    omega
 by_cases hl:l.length=0
 ·omega
 ·have hlt:l.length - 1 < l.length:=by omega
  have h1:=this _ _ (List.getElem?_eq_getElem hlt)
  have h2:=(h _ _ (List.getElem?_eq_getElem hlt)).2.1
  omega
structure Ext (n:Nat) (l:List Int) (many:Nat) (o:List Int):Prop where
 len:o.length=many
 clm:Clm o n
 pre:∀ (i:Nat) (x:Int),l[i]? =some x→o[i]? =some x
def LexLt (o w:List Int):Prop:=∃ (i:Nat) (x y:Int),o[i]? =some x∧w[i]? =some y∧x < y∧∀ j,j < i→o[j]? =w[j]?
theorem Ext.more {n many:Nat}{l o:List Int}{x:Int} (h:Ext n l many o) (hx:o[l.length]? =some x):Ext n (l++[x]) many o:=by
 refine ⟨h.len,h.clm,fun i y hy=>?_⟩
 by_cases hi:i < l.length
 ·rw [List.getElem?_append_left hi] at hy; exact h.pre i y hy
 ·rw [List.getElem?_append_right (by omega),List.getElem?_singleton] at hy
  split at hy
  ·cases hy; rw [show i=l.length by omega]; exact hx
  ·cases hy
theorem Ext.less {n many:Nat}{l o:List Int}{x:Int} (h:Ext n (l++[x]) many o):Ext n l many o∧o[l.length]? =some x:=by
 refine ⟨⟨h.len,h.clm,fun i y hy=>h.pre i y ?_⟩,h.pre _ _ (by simp)⟩
 rw [List.getElem?_append_left (List.getElem?_eq_some_iff.1 hy).1]; exact hy
theorem fits_of {m bb:Nat} (h:m≤1000000000) (hb:bb≤100000):fitsL m bb=true:=by
 unfold fitsL
 refine decide_eq_true ?_
 have:m*bb≤1000000000*100000:=Nat.mul_le_mul h hb
 omega
theorem fits_small {m bb:Nat} (h:m≤1000000) (hb:bb≤1000):fitsL m bb=true:=fits_of (by omega) (by omega)
theorem shr_nat (s k:Nat) (hk:k < 64):shrI (s:Int) (k:Int)=((s / 2 ^ k:Nat):Int):=by
 unfold shrI
 rw [show min ((k:Int).toNat) 64=k by simp; omega,Int.fdiv_eq_ediv_of_nonneg _ (by exact_mod_cast Int.natCast_nonneg (2 ^ k))]
 simp
theorem and1_nat (m:Nat):andI (m:Int) 1=((m % 2:Nat):Int):=by
 unfold andI
 have h1:BitVec.ofInt 64 (m:Int)=BitVec.ofNat 64 m:=BitVec.ofInt_natCast 64 m
 have h2:BitVec.ofInt 64 1=BitVec.ofNat 64 1:=rfl
 rw [h1,h2,BitVec.toNat_and]
 simp only [BitVec.toNat_ofNat]
 have:m % 2 ^ 64 &&& 1 % 2 ^ 64=m % 2:=by
  rw [show 1 % 2 ^ 64=1 by decide,Nat.and_one_is_mod]; omega
 rw [this,wrI (by omega) (by omega)]
theorem member_nat (s k:Nat) (hk:k < 64):B_Member (s:Int) (k:Int)=some (s.testBit k):=by
 unfold B_Member
 rw [need_of (by simp),shr_nat s k hk,and1_nat,Nat.testBit_eq_decide_div_mod_eq]
 congr 1
 rw [Bool.eq_iff_iff]
 simp only [beq_iff_eq,decide_eq_true_eq]
 omega
theorem shl1_nat (k:Nat) (hk:k < 32):shlI 1 (k:Int)=((2 ^ k:Nat):Int):=by
 unfold shlI
 rw [show min ((k:Int).toNat) 64=k by simp; omega]
 have h1:2 ^ k≤2 ^ 32:=Nat.pow_le_pow_right (by omega) (by omega)
 have h2:(1:Int)*2 ^ k=((2 ^ k:Nat):Int):=by simp
 rw [h2]
 generalize 2 ^ k=m at h1
 exact wrI (by omega) (by omega)
theorem or_nat (s t:Nat) (hs:s < 2 ^ 32) (ht:t < 2 ^ 32):orI (s:Int) (t:Int)=((s ||| t:Nat):Int):=by
 unfold orI
 have h1:BitVec.ofInt 64 (s:Int)=BitVec.ofNat 64 s:=BitVec.ofInt_natCast 64 s
 have h2:BitVec.ofInt 64 (t:Int)=BitVec.ofNat 64 t:=BitVec.ofInt_natCast 64 t
 have h3:s ||| t < 2 ^ 32:=Nat.or_lt_two_pow hs ht
 rw [h1,h2,BitVec.toNat_or,BitVec.toNat_ofNat,BitVec.toNat_ofNat,Nat.mod_eq_of_lt (by omega),Nat.mod_eq_of_lt (by omega),wrI (by omega) (by omega)]
def memL (s n:Nat):List Int:=((List.range n).filter fun k=>s.testBit k).map Int.ofNat
theorem memL_succ (s n:Nat):memL s (n+1)=memL s n++(if s.testBit n=true then [(n:Int)] else []):=by
 unfold memL
 rw [List.range_succ,List.filter_append,List.map_append]
 congr 1
 by_cases h:s.testBit n=true <;> simp [h]
theorem mem_memL {s n:Nat}{x:Int}:x∈memL s n↔∃ k:Nat,x=k∧k < n∧s.testBit k=true:=by
 unfold memL
 rw [List.mem_map]
 constructor
 ·rintro ⟨k,hk,rfl⟩
  obtain ⟨h1,h2⟩:=List.mem_filter.1 hk
  exact ⟨k,rfl,List.mem_range.1 h1,h2⟩
 ·rintro ⟨k,rfl,h1,h2⟩
  exact ⟨k,List.mem_filter.2 ⟨List.mem_range.2 h1,h2⟩,rfl⟩
theorem memL_len (s n:Nat):(memL s n).length≤n:=by
 unfold memL
 rw [List.length_map]
 have:=List.length_filter_le (fun k=>s.testBit k) (List.range n)
 simpa using this
theorem members_nat (s:Nat) {n:Nat} (hn:n≤32):B_Members (s:Int) (n:Int)=some (memL s n):=by
 unfold B_Members
 refine Exists.elim (loopF_inv (body:=B_Members_l2 n s) (fun z:List Int×Int=>∃ k:Nat,k≤n∧z=(memL s k,(k:Int))) (fun z=>n - z.2.toNat) (fun l=>l=memL s n) ?_ big ([],0) ⟨0,Nat.zero_le _,rfl⟩ (by unfold big; simp; omega)) fun r ⟨h1,h2⟩=>by rw [h1,h2]
 rintro rec z ⟨k,hk,rfl⟩ ih
 unfold B_Members_l2
 simp only
 by_cases hlt:k < n
 ·rw [decide_eq_true (by omega),cond_true,member_nat s k (by omega),Option.bind_some,wrI (by omega) (by omega)]
  have hl:=memL_len s k
  cases hb:s.testBit k
  ·rw [cond_false]
   exact ih _ ⟨k+1,by omega,by rw [memL_succ,hb]; simp⟩ (by (try simp); omega)
  ·rw [cond_true,need_of (fits_small (by simp; omega) (by omega))]
   exact ih _ ⟨k+1,by omega,by rw [memL_succ,hb]; simp⟩ (by (try simp); omega)
 ·rw [decide_eq_false (by omega),cond_false]
  have:k=n:=by omega
  subst this
  exact ⟨_,rfl,rfl⟩
theorem Clm.pair {l:List Int}{n:Int} (h:Clm l n):l.Pairwise (· < ·):=by
 rw [List.pairwise_iff_getElem]
 intro i j hi hj hij
 refine h.lt (j - i - 1) i _ _ (List.getElem?_eq_getElem hi) ?_
 rw [show i+(j - i - 1)+1=j by omega]
 exact List.getElem?_eq_getElem hj
theorem pair_clm {l:List Int}{n:Int} (h:l.Pairwise (· < ·)) (hb:∀ x∈l,0≤x∧x < n):Clm l n:=by
 intro k x hx
 have:=hb x (List.mem_of_getElem? hx)
 refine ⟨this.1,this.2,fun y h0 hy=>?_⟩
 obtain ⟨h1,rfl⟩:=List.getElem?_eq_some_iff.1 hx
 obtain ⟨h2,rfl⟩:=List.getElem?_eq_some_iff.1 hy
 exact List.pairwise_iff_getElem.1 h (k - 1) k h2 h1 (by omega)
theorem pair_ext:∀ {a b:List Int},a.Pairwise (· < ·)→b.Pairwise (· < ·)→(∀ x,x∈a↔x∈b)→a=b
 | [],[],_,_,_=>rfl
 | [],y::b,_,_,h=>absurd ((h y).2 (List.mem_cons_self ..)) (List.not_mem_nil)
 | x::a,[],_,_,h=>absurd ((h x).1 (List.mem_cons_self ..)) (List.not_mem_nil)
 | x::a,y::b,ha,hb,h=>by
   rw [List.pairwise_cons] at ha hb
   have e:x=y:=by
    rcases List.mem_cons.1 ((h x).1 (List.mem_cons_self ..)) with h1 | h1
    ·exact h1
    ·rcases List.mem_cons.1 ((h y).2 (List.mem_cons_self ..)) with h2 | h2
     ·exact h2.symm
     ·have:=ha.1 y h2; have:=hb.1 x h1; omega
   subst e
   congr 1
   refine pair_ext ha.2 hb.2 fun z=>?_
   constructor
   ·intro hz
    rcases List.mem_cons.1 ((h z).1 (List.mem_cons_of_mem _ hz)) with h1 | h1
    ·have:=ha.1 z hz; omega
    ·exact h1
   ·intro hz
    rcases List.mem_cons.1 ((h z).2 (List.mem_cons_of_mem _ hz)) with h1 | h1
    ·have:=hb.1 z hz; omega
    ·exact h1
theorem range_pair (n:Nat):(List.range n).Pairwise (· < ·):=List.pairwise_lt_range
theorem memL_clm (s n:Nat):Clm (memL s n) n:=by
 refine pair_clm ?_ fun x hx=>?_
 ·unfold memL
  rw [List.pairwise_map]
  exact ((range_pair n).sublist List.filter_sublist).imp fun {a b} h=>by show (a:Int) < (b:Int); omega
 ·obtain ⟨k,rfl,h,_⟩:=mem_memL.1 hx
  omega
def Btr (o w:List Int):Prop:=o.length < w.length∨(o.length=w.length∧LexLt o w)
theorem LexLt.trans {a b c:List Int} (h:LexLt a b) (k:LexLt b c):LexLt a c:=by
 obtain ⟨i,x,y,h1,h2,h3,h4⟩:=h
 obtain ⟨j,u,v,k1,k2,k3,k4⟩:=k
 rcases Nat.lt_trichotomy i j with e | e | e
 ·exact ⟨i,x,y,h1,by rw [← k4 i e]; exact h2,h3,fun m hm=>by rw [h4 m hm,k4 m (by omega)]⟩
 ·subst e
  rw [h2] at k1; have:=Option.some.inj k1
  exact ⟨i,x,v,h1,k2,by omega,fun m hm=>by rw [h4 m hm,k4 m hm]⟩
 ·exact ⟨j,u,v,by rw [h4 j e]; exact k1,k2,k3,fun m hm=>by rw [h4 m (by omega),k4 m hm]⟩
theorem Btr.trans {a b c:List Int} (h:Btr a b) (k:Btr b c):Btr a c:=by
 rcases h with h | ⟨h,h'⟩ <;> rcases k with k | ⟨k,k'⟩
 ·exact .inl (by omega)
 ·exact .inl (by omega)
 ·exact .inl (by omega)
 ·exact .inr ⟨by omega,h'.trans k'⟩
end Go.Proofs.YtafhljljfglfeaaGreatDoor
namespace Go.Proofs.YtafhljljfglfeaaGreatDoor
open Go Go.Fx
def foldY {ε σ:Type} (yv:ε→σ→Option (Bool×σ)):List ε→σ→Option (Bool×σ)
 | [],s=>some (true,s)
 | x::l,s=>(yv x s).bind fun r=>bif r.1 then foldY yv l r.2 else some (false,r.2)
theorem foldY_app {ε σ:Type} (yv:ε→σ→Option (Bool×σ)):∀ (l m:List ε) (s:σ),foldY yv (l++m) s=(foldY yv l s).bind fun r=>bif r.1 then foldY yv m r.2 else some (false,r.2)
 | [],m,s=>rfl
 | x::l,m,s=>by
   show (yv x s).bind (fun r=>bif r.1 then foldY yv (l++m) r.2 else some (false,r.2))=Option.bind ((yv x s).bind fun r=>bif r.1 then foldY yv l r.2 else some (false,r.2)) _
   cases yv x s with
   | none=>rfl
   | some r=>
     obtain ⟨b,s2⟩:=r
     cases b with
     | true=>exact foldY_app yv l m s2
     | false=>rfl
theorem foldY_one {ε σ:Type} (yv:ε→σ→Option (Bool×σ)) (x:ε) (s:σ):foldY yv [x] s=yv x s:=by
 show (yv x s).bind (fun r=>bif r.1 then some (true,r.2) else some (false,r.2))=_
 cases yv x s with
 | none=>rfl
 | some r=>obtain ⟨b,s2⟩:=r; cases b <;> rfl
theorem foldY_find {ε σ:Type} (bd:ε→σ→Option (Bool×Nat×σ)) (p:ε→Bool) (s0 s1:σ):∀ (L:List ε),(∀ x∈L,bd x s0=some (bif p x then (false,1,s1) else (true,0,s0)))→foldY (yvOf bd) L (0,s0)=some (bif L.any p then (false,1,s1) else (true,0,s0))
 | [],_=>rfl
 | x::L,h=>by
   show (bd x s0).bind (fun r=>bif r.1 then foldY (yvOf bd) L r.2 else some (false,r.2))=_
   rw [h x (List.mem_cons_self ..),List.any_cons]
   cases hp:p x with
   | true=>rfl
   | false=>exact foldY_find bd p s0 s1 L fun x hx=>h x (List.mem_cons_of_mem _ hx)
end Go.Proofs.YtafhljljfglfeaaGreatDoor
namespace Go.Proofs.YtafhljljfglfeaaGreatDoor
open Go Go.Fx Go.Tally
theorem loop_all {ρ:Type}{body:(Int→Option ρ)→Int→Option ρ} (n:Nat) (p:Nat→Bool) {Rf Rt:Option ρ} (hs:∀ rec k,k < n→body rec (k:Int)=bif p k then rec ((k+1:Nat):Int) else Rf) (he:∀ rec,body rec (n:Int)=Rt) (hn:n < big):loopF body big 0=bif (List.range n).all p then Rt else Rf:=by
 have key:∀ d k m,k+d=n→d < m→loopF body m (k:Int)=bif (List.range' k d).all p then Rt else Rf:=by
  intro d
  induction d with
  | zero=>
    intro k m h1 h2
    obtain ⟨m,rfl⟩:∃ q,m=q+1:=⟨m - 1,by omega⟩
    obtain rfl:k=n:=by omega
    exact he _
  | succ d ih=>
    intro k m h1 h2
    obtain ⟨m,rfl⟩:∃ q,m=q+1:=⟨m - 1,by omega⟩
    show body (loopF body m) (k:Int)=_
    rw [hs _ k (by omega),List.range'_succ,List.all_cons,ih (k+1) m (by omega) (by omega)]
    cases p k <;> rfl
 rw [List.range_eq_range']
 exact key n 0 big (by omega) hn
theorem all_range {α:Type} (l:List α) (f:α→Bool):(List.range l.length).all (fun k=>(l[k]?).all f)=l.all f:=by
 rw [Bool.eq_iff_iff,List.all_eq_true,List.all_eq_true]
 constructor
 ·intro h x hx
  obtain ⟨k,hk,rfl⟩:=List.getElem_of_mem hx
  have:=h k (List.mem_range.2 hk)
  rw [List.getElem?_eq_getElem hk] at this
  exact this
 ·intro h k hk
  have hk:=List.mem_range.1 hk
  rw [List.getElem?_eq_getElem hk]
  exact h _ (List.getElem_mem hk)
theorem loop_allL {α ρ:Type}{body:(Int→Option ρ)→Int→Option ρ} (l:List α) (f:α→Bool) {Rf Rt:Option ρ} (hs:∀ rec k (hk:k < l.length),body rec (k:Int)=bif f l[k] then rec ((k+1:Nat):Int) else Rf) (he:∀ rec,body rec (l.length:Int)=Rt) (hn:l.length < big):loopF body big 0=bif l.all f then Rt else Rf:=by
 rw [← all_range]
 refine loop_all l.length _ (fun rec k hk=>?_) he hn
 rw [hs rec k hk,List.getElem?_eq_getElem hk]; rfl
theorem idx_show (l:List TicketShow) (a:TicketShow→Option Bool) (g:TicketShow→Bool) (h:∀ x∈l,a x=some (g x)) (hl:l.length≤1000):∃ r,sl_IndexFunc_api_TicketShow_api_TicketShow l a=some r∧(0≤r↔l.any g=true):=by
 unfold sl_IndexFunc_api_TicketShow_api_TicketShow
 refine loopF_inv (body:=sl_IndexFunc_api_TicketShow_api_TicketShow_l1 l a) (fun i:Int=>∃ k:Nat,i=k∧k≤l.length∧(l.take k).any g=false) (fun i=>l.length - i.toNat) (fun r=>(0≤r↔l.any g=true)) ?_ big 0 ⟨0,rfl,Nat.zero_le _,by simp⟩ (by unfold big; simp; omega)
 rintro rec i ⟨k,rfl,hk,hn⟩ ih
 unfold sl_IndexFunc_api_TicketShow_api_TicketShow_l1
 by_cases hlt:k < l.length
 ·rw [decide_eq_true (by omega),cond_true,getI_ix hlt,Option.bind_some,h _ (List.getElem_mem hlt),Option.bind_some]
  cases hg:g l[k] with
  | true=>exact ⟨_,rfl,⟨fun _=>List.any_eq_true.2 ⟨_,List.getElem_mem hlt,hg⟩,fun _=>by omega⟩⟩
  | false=>
    rw [cond_false,wrI (by omega) (by omega)]
    refine ih _ ⟨k+1,by simp,hlt,?_⟩ (by (try simp only); omega)
    rw [List.take_succ_eq_append_getElem hlt,List.any_append,hn]
    simp [hg]
 ·rw [decide_eq_false (by omega),cond_false]
  rw [List.take_of_length_le (by omega)] at hn
  exact ⟨-1,rfl,by simp [hn]⟩
theorem has_show (l:List TicketShow) (a:TicketShow→Option Bool) (g:TicketShow→Bool) (h:∀ x∈l,a x=some (g x)) (hl:l.length≤1000):sl_ContainsFunc_api_TicketShow_api_TicketShow l a=some (l.any g):=by
 obtain ⟨r,hr,hi⟩:=idx_show l a g h hl
 unfold sl_ContainsFunc_api_TicketShow_api_TicketShow
 rw [hr,Option.bind_some]
 congr 1
 rw [Bool.eq_iff_iff,decide_eq_true_eq]
 exact hi
theorem idx_box (l:List TicketBox) (a:TicketBox→Option Bool) (g:TicketBox→Bool) (h:∀ x∈l,a x=some (g x)) (hl:l.length≤1000):∃ r,sl_IndexFunc_api_TicketBox_api_TicketBox l a=some r∧(0≤r↔l.any g=true):=by
 unfold sl_IndexFunc_api_TicketBox_api_TicketBox
 refine loopF_inv (body:=sl_IndexFunc_api_TicketBox_api_TicketBox_l1 l a) (fun i:Int=>∃ k:Nat,i=k∧k≤l.length∧(l.take k).any g=false) (fun i=>l.length - i.toNat) (fun r=>(0≤r↔l.any g=true)) ?_ big 0 ⟨0,rfl,Nat.zero_le _,by simp⟩ (by unfold big; simp; omega)
 rintro rec i ⟨k,rfl,hk,hn⟩ ih
 unfold sl_IndexFunc_api_TicketBox_api_TicketBox_l1
 by_cases hlt:k < l.length
 ·rw [decide_eq_true (by omega),cond_true,getI_ix hlt,Option.bind_some,h _ (List.getElem_mem hlt),Option.bind_some]
  cases hg:g l[k] with
  | true=>exact ⟨_,rfl,⟨fun _=>List.any_eq_true.2 ⟨_,List.getElem_mem hlt,hg⟩,fun _=>by omega⟩⟩
  | false=>
    rw [cond_false,wrI (by omega) (by omega)]
    refine ih _ ⟨k+1,by simp,hlt,?_⟩ (by (try simp only); omega)
    rw [List.take_succ_eq_append_getElem hlt,List.any_append,hn]
    simp [hg]
 ·rw [decide_eq_false (by omega),cond_false]
  rw [List.take_of_length_le (by omega)] at hn
  exact ⟨-1,rfl,by simp [hn]⟩
theorem has_box (l:List TicketBox) (a:TicketBox→Option Bool) (g:TicketBox→Bool) (h:∀ x∈l,a x=some (g x)) (hl:l.length≤1000):sl_ContainsFunc_api_TicketBox_api_TicketBox l a=some (l.any g):=by
 obtain ⟨r,hr,hi⟩:=idx_box l a g h hl
 unfold sl_ContainsFunc_api_TicketBox_api_TicketBox
 rw [hr,Option.bind_some]
 congr 1
 rw [Bool.eq_iff_iff,decide_eq_true_eq]
 exact hi
theorem has_int (l:List Int) (v:Int) (hl:l.length≤1000000):sl_Contains_int_int l v=some (decide (v∈l)):=by
 have:∃ r,sl_Index_int_int l v=some r∧(0≤r↔v∈l):=by
  unfold sl_Index_int_int
  refine loopF_inv (body:=sl_Index_int_int_l1 l v) (fun i:Int=>∃ k:Nat,i=k∧k≤l.length∧v ∉ l.take k) (fun i=>l.length - i.toNat) (fun r=>(0≤r↔v∈l)) ?_ big 0 ⟨0,rfl,Nat.zero_le _,by simp⟩ (by unfold big; simp; omega)
  rintro rec i ⟨k,rfl,hk,hn⟩ ih
  unfold sl_Index_int_int_l1
  by_cases hlt:k < l.length
  ·rw [decide_eq_true (by omega),cond_true,getI_ix hlt,Option.bind_some]
   by_cases he:v=l[k]
   ·rw [show (v==l[k])=true by simpa using he,cond_true]
    have hm:v∈l:=he▸List.getElem_mem hlt
    exact ⟨_,rfl,by simp [hm]⟩
   ·rw [show (v==l[k])=false by simpa using he,cond_false,wrI (by omega) (by omega)]
    refine ih _ ⟨k+1,by simp,hlt,?_⟩ (by (try simp only); omega)
    rw [List.take_succ_eq_append_getElem hlt]
    simp only [List.mem_append,List.mem_singleton,not_or]
    exact ⟨hn,he⟩
  ·rw [decide_eq_false (by omega),cond_false]
   have hm:v ∉ l:=by rwa [List.take_of_length_le (by omega)] at hn
   exact ⟨-1,rfl,by simp [hm]⟩
 obtain ⟨r,hr,hi⟩:=this
 unfold sl_Contains_int_int
 rw [hr,Option.bind_some]
 congr 1
 exact decide_eq_decide.2 hi
def popN (s:Nat):Int:=(if s.testBit 0 then 1 else 0)+(if s.testBit 1 then 1 else 0)+(if s.testBit 2 then 1 else 0)
theorem pop_bd (s:Nat):0≤popN s∧popN s≤3:=by
 unfold popN
 cases s.testBit 0 <;> cases s.testBit 1 <;> cases s.testBit 2 <;> decide
theorem pop_all:((List.range 8).all fun s=>decide (bits_OnesCount (wrK .u64 ((s:Nat):Int))=some (popN s)))=true:=by kernel_rfl
theorem pop_eq {s:Nat} (h:s < 8):bits_OnesCount (wrK .u64 (s:Int))=some (popN s):=of_decide_eq_true (List.all_eq_true.1 pop_all s (List.mem_range.2 h))
theorem and_all:((List.range 8).all fun s=>(List.range 8).all fun t=>decide (andI ((s:Nat):Int) ((t:Nat):Int)=((s &&& t:Nat):Int)))=true:=by kernel_rfl
theorem and_nat {s t:Nat} (h:s < 8) (k:t < 8):andI (s:Int) (t:Int)=((s &&& t:Nat):Int):=of_decide_eq_true (List.all_eq_true.1 (List.all_eq_true.1 and_all s (List.mem_range.2 h)) t (List.mem_range.2 k))
theorem and_sub {s t:Nat}:s &&& t=t↔∀ n,t.testBit n=true→s.testBit n=true:=by
 constructor
 ·intro h n hn
  rw [← h,Nat.testBit_and,Bool.and_eq_true] at hn
  exact hn.1
 ·intro h
  refine Nat.eq_of_testBit_eq fun n=>?_
  rw [Nat.testBit_and]
  cases ht:t.testBit n with
  | false=>simp
  | true=>simp [h n ht]
def pv (c u:List Int) (d:Nat):Int:=c.getD d 0 - popN (u.getD d 0).toNat
def paidN (c u:List Int) (f n:Nat):Int:=((List.range' f n).map (pv c u)).sum
theorem paidN_add (c u:List Int) (f n m:Nat):paidN c u f (n+m)=paidN c u f n+paidN c u (f+n) m:=by
 unfold paidN
 rw [← List.range'_append_1,List.map_append,List.sum_append]
theorem paidN_succ (c u:List Int) (f n:Nat):paidN c u f (n+1)=paidN c u f n+pv c u (f+n):=by
 rw [paidN_add]; simp [paidN]
structure Small (c u:List Int):Prop where
 c3:c.length=3
 u3:u.length=3
 cb:∀ d,0≤c.getD d 0∧c.getD d 0≤5
 ub:∀ d,0≤u.getD d 0∧u.getD d 0 < 8
theorem Small.pv {c u:List Int} (h:Small c u) (d:Nat):-3≤pv c u d∧YtafhljljfglfeaaGreatDoor.pv c u d≤5:=by
 have h1:=h.cb d; have h2:=pop_bd (u.getD d 0).toNat
 unfold YtafhljljfglfeaaGreatDoor.pv; omega
theorem Small.paid {c u:List Int} (h:Small c u) (f:Nat):∀ n:Nat,-3*(n:Int)≤paidN c u f n∧paidN c u f n≤5*(n:Int):=by
 intro n
 induction n with
 | zero=>simp [paidN]
 | succ n ih=>
   rw [paidN_succ]
   have:=h.pv (f+n)
   omega
theorem sumI_eq (l:List Int) (hl:l.length≤8) (hb:∀ x∈l,-3≤x∧x≤5):ticket_sum_int l=some l.sum:=by
 have sum_bd:∀ (l:List Int),(∀ x∈l,-3≤x∧x≤5)→-3*(l.length:Int)≤l.sum∧l.sum≤5*(l.length:Int):=by
  intro l
  induction l with
  | nil=>simp
  | cons x l ih=>
    intro h
    have h1:=h x (List.mem_cons_self ..)
    have h2:=ih fun n hn=>h n (List.mem_cons_of_mem _ hn)
    simp only [List.sum_cons,List.length_cons]
    omega
 unfold ticket_sum_int
 refine loop_fold0 (fun k=>((l.take k).sum,(k:Int))) l.length (fun rec k hk=>?_) (fun rec=>?_) (by rw [big_eq]; omega) rfl
 ·unfold ticket_sum_int_l1
  simp only
  have h1:=sum_bd (l.take k) fun x hx=>hb x (List.mem_of_mem_take hx)
  have h2:=hb _ (List.getElem_mem hk)
  have h3:(l.take k).length≤8:=by rw [List.length_take]; omega
  rw [decide_eq_true (by omega),cond_true,getI_ix hk,Option.bind_some,wrI (by omega) (by omega),wrI (by omega) (by omega),← List.take_append_getElem hk,List.sum_append]
  simp
 ·unfold ticket_sum_int_l1
  simp only
  rw [decide_eq_false (by omega),cond_false,List.take_length]
theorem agetN (l:List Int) (k:Nat):aget l (k:Int)=l.getD k 0:=rfl
theorem usedN {c u:List Int} (h:Small c u) (d:Nat):((u.getD d 0).toNat:Int)=u.getD d 0∧(u.getD d 0).toNat < 8:=by
 have:=h.ub d; omega
theorem paid_eq {c u:List Int} (h:Small c u) {f t:Int} (f0:0≤f) (ft:f≤t) (t3:t < 3):ticket_truth_paid ⟨c,u⟩ f t=some (paidN c u f.toNat (t+1 - f).toNat):=by
 unfold ticket_truth_paid
 refine loop_fold0 (fun k=>((List.range' f.toNat k).map (pv c u),f+k)) (t+1 - f).toNat (fun rec k hk=>?_) (fun rec=>?_) (by rw [big_eq]; omega) (by simp)
 ·unfold ticket_truth_paid_l1
  simp only
  have e:f+(k:Int)=((f.toNat+k:Nat):Int):=by omega
  have hu:=usedN h (f.toNat+k)
  have hp:=pop_eq hu.2
  rw [hu.1] at hp
  have hv:=h.pv (f.toNat+k)
  have hb:=h.cb (f.toNat+k)
  have hq:=pop_bd (u.getD (f.toNat+k) 0).toNat
  rw [decide_eq_true (by omega),cond_true,need_of (by simp [inI]; omega),need_of (by simp [inI]; omega),e,agetN,agetN,hp,Option.bind_some,wrI (x:=_ - popN _) (by omega) (by omega),need_of (fits_small (by simp; omega) (by omega)),wrI (by omega) (by omega)]
  rw [List.range'_1_concat,List.map_append]
  refine congrArg rec ?_
  refine Prod.ext rfl ?_
  show ((f.toNat+k:Nat):Int)+1=f+((k+1:Nat):Int)
  omega
 ·unfold ticket_truth_paid_l1
  simp only
  rw [decide_eq_false (by omega),cond_false,sumI_eq _ (by simp; omega) (fun x hx=>by
   obtain ⟨k,_,rfl⟩:=List.mem_map.1 hx
   exact h.pv k)]
  rfl
end Go.Proofs.YtafhljljfglfeaaGreatDoor
namespace Go.Proofs.YtafhljljfglfeaaGreatDoor
open Go Go.Fx
structure OpT (q:Ticket_book):Prop where
 ta:Val q.TicketBook.Tally
 t3:q.TicketBook.Tally.Trips≤3
 r5:q.TicketBook.Tally.Room≤5
 f1:1≤q.TicketBook.Fare
 f20:q.TicketBook.Fare≤20
 tn:q.TicketBook.Tickets.length≤3
 te:∀ x∈q.TicketBook.Tickets,Seas q.TicketBook.Tally.Trips x
 sn:q.TicketBook.Shows.length≤5
 bn:q.TicketBook.Boxes.length≤3
 bx:∀ x∈q.TicketBook.Boxes,Box q.TicketBook.Tally.Trips x
 s3:q.shown_.length=3
 sb:∀ d,0≤q.shown_.getD d 0∧q.shown_.getD d 0 < 8
def fitsN (fare:Int) (c u:List Int) (x:TicketBox):Bool:=inB (paidN c u x.From.toNat (x.To+1 - x.From).toNat*fare) x.Pence (x.Pence+x.Lost)
theorem mul_bd {r f:Int} (h1:-9≤r) (h2:r≤15) (f1:1≤f) (f20:f≤20):-180≤r*f∧r*f≤300:=by
 have a:r*f≤15*f:=Int.mul_le_mul_of_nonneg_right h2 (by omega)
 have b:-9*f≤r*f:=Int.mul_le_mul_of_nonneg_right h1 (by omega)
 omega
theorem fits_eq (q:Ticket_book) (f1:1≤q.TicketBook.Fare) (f20:q.TicketBook.Fare≤20) {c u:List Int} (h:Small c u) {T:Int} (T3:T≤3) {x:TicketBox} (hx:Box T x):ticket_book_fits q ⟨c,u⟩ x=some (fitsN q.TicketBook.Fare c u x):=by
 have h0:=hx.f0; have h1:=hx.ft; have h2:=hx.tT; have h3:=hx.p0; have h4:=hx.p4; have h5:=hx.l0; have h6:=hx.l4
 unfold ticket_book_fits
 rw [paid_eq h h0 h1 (by omega),Option.bind_some]
 have hp:=h.paid x.From.toNat (x.To+1 - x.From).toNat
 have hm:=mul_bd (r:=paidN c u x.From.toNat (x.To+1 - x.From).toNat) (by omega) (by omega) f1 f20
 rw [wrI (x:=_*_) (by omega) (by omega),wrI (x:=x.Pence+x.Lost) (by omega) (by omega),withinT_eq]
 rfl
def rightN (q:Ticket_book) (c u:List Int) (d:Nat):Bool:=q.TicketBook.Boxes.all fun x=>!(x.To==(d:Int))||fitsN q.TicketBook.Fare c u x
theorem rightT_eq (q:Ticket_book) (Q:OpT q) {c u:List Int} (h:Small c u) (d:Nat):ticket_book_right q ⟨c,u⟩ d=some (rightN q c u d):=by
 unfold ticket_book_right
 rw [has_box q.TicketBook.Boxes _ (fun x=>(x.To==(d:Int))&&!fitsN q.TicketBook.Fare c u x) (fun x hx=>?_) (by have:=Q.bn; omega),Option.bind_some]
 ·congr 1
  unfold rightN
  rw [Bool.eq_iff_iff,Bool.not_eq_true',List.any_eq_false,List.all_eq_true]
  refine forall_congr' fun x=>forall_congr' fun _=>?_
  cases (x.To==(d:Int)) <;> cases fitsN q.TicketBook.Fare c u x <;> simp
 ·unfold ticket_book_right_1
  cases hd:(x.To==(d:Int)) with
  | false=>rfl
  | true=>rw [cond_true,fits_eq q Q.f1 Q.f20 h Q.t3 (Q.bx x hx),Option.bind_some]; rfl
def validN (q:Ticket_book) (s d:Nat):Bool:=(List.range q.TicketBook.Tickets.length).all (fun k=>(q.TicketBook.Tickets[k]?).all fun x=>!s.testBit k||inB d x.From x.To)&&s / 2 ^ q.TicketBook.Tickets.length==0
theorem bitI (s k:Nat) (hk:k < 64):(andI (shrI (s:Int) (k:Int)) 1==1)=s.testBit k:=by
 have:=member_nat s k hk
 unfold B_Member at this
 rw [need_of (by simp)] at this
 exact Option.some.inj this
theorem valid_eq (q:Ticket_book) (Q:OpT q) (s d:Nat):ticket_book_valid q s d=some (validN q s d):=by
 have hn:=Q.tn
 unfold ticket_book_valid
 rw [loop_all (body:=ticket_book_valid_l2 q s d) q.TicketBook.Tickets.length (fun k=>(q.TicketBook.Tickets[k]?).all fun x=>!s.testBit k||inB d x.From x.To) (Rf:=some false) (Rt:=some (s / 2 ^ q.TicketBook.Tickets.length==0)) (fun rec k hk=>?_) (fun rec=>?_) (by rw [big_eq]; omega)]
 ·unfold validN
  generalize (List.range q.TicketBook.Tickets.length).all (fun k=>(q.TicketBook.Tickets[k]?).all fun x=>!s.testBit k||inB d x.From x.To)=A
  cases A <;> rfl
 ·unfold ticket_book_valid_l2
  rw [decide_eq_true (by omega),cond_true,getI_ix hk,Option.bind_some,need_of (by simp),bitI s k (by omega),List.getElem?_eq_getElem hk,withinT_eq,wrI (by omega) (by omega),show (k:Int)+1=((k+1:Nat):Int) by omega]
  simp only [Option.all_some]
  cases s.testBit k <;> cases inB (d:Int) q.TicketBook.Tickets[k].From q.TicketBook.Tickets[k].To <;> rfl
 ·unfold ticket_book_valid_l2
  rw [decide_eq_false (by omega),cond_false,need_of (by simp),shr_nat s _ (by omega)]
  congr 1
  rw [Bool.eq_iff_iff,beq_iff_eq,beq_iff_eq]
  omega
def okN (q:Ticket_book) (c u:List Int) (s d:Nat):Bool:=validN q s d&&(s &&& (q.shown_.getD d 0).toNat==(q.shown_.getD d 0).toNat)&&decide (popN s≤c.getD d 0)&&rightN q c u d
def usesL (q:Ticket_book):Nat→List Int→List Int→Nat→List Ticket_truth
 | 0,c,u,_=>[⟨c,u⟩]
 | r+1,c,u,d=>(List.range' 0 8).flatMap fun (s:Nat)=>bif okN q c (u.set d (s:Int)) s d then usesL q r c (u.set d (s:Int)) (d+1) else []
theorem Small.setU {c u:List Int} (h:Small c u) {d:Nat}{s:Nat} (hs:s < 8):Small c (u.set d (s:Int)):=by
 refine ⟨h.c3,by simp [h.u3],h.cb,fun i=>?_⟩
 have:=h.ub i
 rw [List.getD_eq_getElem?_getD] at this ⊢
 rw [List.getElem?_set]
 split
 ·split
  ·simp; omega
  ·simp
 ·exact this
theorem use_eq (q:Ticket_book) (Q:OpT q) {σ:Type} (yv:Ticket_truth→σ→Option (Bool×σ)):∀ (r:Nat) (c u:List Int) (d:Nat) (s:σ) (n:Nat),((d+r:Nat):Int)=q.TicketBook.Tally.Trips→r < n→Small c u→
 ticket_book_truths_1_1 n ⟨c,u⟩ d s q q yv=foldY yv (usesL q r c u d) s:=by
 have T3:=Q.t3
 intro r
 induction r with
 | zero=>
   intro c u d s n h1 h2 h3
   obtain ⟨n,rfl⟩:∃ m,n=m+1:=⟨n - 1,by omega⟩
   show ticket_book_truths_1_1_F _ ⟨c,u⟩ d s q q yv=foldY yv [⟨c,u⟩] s
   rw [foldY_one]
   unfold ticket_book_truths_1_1_F
   rw [show ((d:Int)==q.TicketBook.Tally.Trips)=true by rw [beq_iff_eq]; omega,cond_true]
   cases yv ⟨c,u⟩ s <;> rfl
 | succ r ih=>
   intro c u d s n h1 h2 h3
   obtain ⟨n,rfl⟩:∃ m,n=m+1:=⟨n - 1,by omega⟩
   show ticket_book_truths_1_1_F _ ⟨c,u⟩ d s q q yv=_
   unfold ticket_book_truths_1_1_F
   rw [show ((d:Int)==q.TicketBook.Tally.Trips)=false by rw [beq_eq_false_iff_ne]; omega,cond_false]
   have key:∀ (e k m:Nat) (U:List Int) (s:σ),k+e=8→e < m→U.length=3→(∀ x,U.set d x=u.set d x)→
    loopF (ticket_book_truths_1_1_l1 d q ⟨c,u⟩ q (fun x0 x1 x2=>ticket_book_truths_1_1 n x0 x1 x2 q q yv)) m ((k:Int),U,s)=foldY yv ((List.range' k e).flatMap fun (s:Nat)=>bif okN q c (u.set d (s:Int)) s d then usesL q r c (u.set d (s:Int)) (d+1) else []) s:=by
    intro e
    induction e with
    | zero=>
      intro k m U s h4 h5 h6 h7
      obtain ⟨m,rfl⟩:∃ q,m=q+1:=⟨m - 1,by omega⟩
      show ticket_book_truths_1_1_l1 d q ⟨c,u⟩ q _ _ ((k:Int),U,s)=_
      unfold ticket_book_truths_1_1_l1
      simp only
      rw [decide_eq_false (by omega),cond_false]
      rfl
    | succ e ih2=>
      intro k m U s h4 h5 h6 h7
      obtain ⟨m,rfl⟩:∃ q,m=q+1:=⟨m - 1,by omega⟩
      show ticket_book_truths_1_1_l1 d q ⟨c,u⟩ q _ (loopF _ m) ((k:Int),U,s)=_
      have ih3:=fun s=>ih2 (k+1) m (u.set d (k:Int)) s (by omega) (by omega) (by simp [h3.u3]) (fun x=>by simp)
      generalize loopF (ticket_book_truths_1_1_l1 d q ⟨c,u⟩ q (fun x0 x1 x2=>ticket_book_truths_1_1 n x0 x1 x2 q q yv)) m=rec at ih3
      rw [List.range'_succ,List.flatMap_cons,foldY_app]
      have w0:wr ((k:Int)+1)=((k+1:Nat):Int):=by rw [wrI (by omega) (by omega)]; omega
      have wd:wr ((d:Int)+1)=((d+1:Nat):Int):=by rw [wrI (by omega) (by omega)]; omega
      have hk:k < 8:=by omega
      have hS:=h3.setU (d:=d) hk
      have nd:need (inI (d:Int) 3)=fun x:Option (Bool×σ)=>x:=by funext x; exact need_of (by simp [inI]; omega)
      have hsh:((q.shown_.getD d 0).toNat:Int)=q.shown_.getD d 0:=by have:=Q.sb d; omega
      have hand:=and_nat hk (show (q.shown_.getD d 0).toNat < 8 by have:=Q.sb d; omega)
      rw [hsh] at hand
      unfold ticket_book_truths_1_1_l1
      simp only
      rw [decide_eq_true (by omega),cond_true]
      simp only [nd]
      rw [valid_eq q Q,Option.bind_some,w0,aset_eq h6,show ((d:Int)).toNat=d from rfl,h7,agetN,agetN,hand]
      unfold okN
      cases validN q k d with
      | false=>
        simp only [Bool.not_false,cond_true,Bool.false_and,cond_false]
        rw [ih3 s]; rfl
      | true=>
        simp only [Bool.not_true,cond_false,Bool.true_and]
        rw [show (((k &&& (q.shown_.getD d 0).toNat:Nat):Int) != q.shown_.getD d 0)=!(k &&& (q.shown_.getD d 0).toNat==(q.shown_.getD d 0).toNat) by
         rw [Bool.eq_iff_iff,bne_iff_ne,Bool.not_eq_true',beq_eq_false_iff_ne]; omega]
        cases (k &&& (q.shown_.getD d 0).toNat==(q.shown_.getD d 0).toNat) with
        | false=>
          simp only [Bool.not_false,cond_true,Bool.false_and,cond_false]
          rw [ih3 s]; rfl
        | true=>
          simp only [Bool.not_true,cond_false,Bool.true_and]
          rw [pop_eq hk,Option.bind_some]
          by_cases hp:popN k≤c.getD d 0
          ·rw [decide_eq_false (show ¬popN k > c.getD d 0 by omega),cond_false,decide_eq_true hp,Bool.true_and,rightT_eq q Q hS,Option.bind_some]
           cases rightN q c (u.set d (k:Int)) d with
           | false=>
             simp only [Bool.not_false,cond_true,cond_false]
             rw [ih3 s]; rfl
           | true=>
             simp only [Bool.not_true,cond_false,cond_true]
             rw [wd,ih c (u.set d (k:Int)) (d+1) s n (by omega) (by omega) hS]
             cases foldY yv (usesL q r c (u.set d (k:Int)) (d+1)) s with
             | none=>rfl
             | some x=>
               obtain ⟨b,s2⟩:=x
               cases b with
               | false=>rfl
               | true=>exact ih3 s2
          ·rw [decide_eq_true (show popN k > c.getD d 0 by omega),cond_true,decide_eq_false hp,Bool.false_and,cond_false,ih3 s]; rfl
   exact key 8 0 big u s (by omega) (by rw [big_eq]; omega) h3.u3 (fun _=>rfl)
def canB (b:TallyBook) (c:List Int):Bool:=((tally_Can b (c.take b.Trips.toNat)).map (·.1)).getD false
def zer:List Int:=List.replicate 3 0
def crossL (q:Ticket_book):Nat→List Int→Nat→List Ticket_truth
 | 0,c,_=>bif canB q.TicketBook.Tally c then usesL q q.TicketBook.Tally.Trips.toNat c zer 0 else []
 | r+1,c,d=>(List.range' 0 (q.TicketBook.Tally.Room+1).toNat).flatMap fun (n:Nat)=>crossL q r (c.set d (n:Int)) (d+1)
theorem Small.setC {c u:List Int} (h:Small c u) {d:Nat}{s:Nat} (hs:s≤5):Small (c.set d (s:Int)) u:=by
 refine ⟨by simp [h.c3],h.u3,fun i=>?_,h.ub⟩
 have:=h.cb i
 rw [List.getD_eq_getElem?_getD] at this ⊢
 rw [List.getElem?_set]
 split
 ·split
  ·simp; omega
  ·simp
 ·exact this
theorem take_all {l:List Int}{n:Nat}{p:Int→Prop} (h:∀ i,i < n→p (l.getD i 0)):∀ x∈l.take n,p x:=by
 intro x hx
 obtain ⟨i,hi,rfl⟩:=List.getElem_of_mem hx
 have h1:i < n:=by rw [List.length_take] at hi; omega
 have h2:i < l.length:=by rw [List.length_take] at hi; omega
 have:=h i h1
 rw [List.getElem_take]
 rwa [List.getD_eq_getElem?_getD,List.getElem?_eq_getElem h2] at this
theorem tru_of {b:TallyBook} (V:Val b) (t3:b.Trips≤3) {c:List Int} (c3:c.length=3) (h:∀ i,i < b.Trips.toNat→0≤c.getD i 0∧c.getD i 0≤b.Room):Tru b (c.take b.Trips.toNat):=by
 have:=V.t1
 exact ⟨by rw [List.length_take]; omega,take_all (p:=fun n=>0≤n∧n≤b.Room) h⟩
theorem canB_eq {b:TallyBook} (V:Val b) {c:List Int} (hu:Tru b (c.take b.Trips.toNat)):tally_Can b (c.take b.Trips.toNat)=some (canB b c,0)∧(canB b c=true↔Fit b no (pre (c.take b.Trips.toNat))):=by
 obtain ⟨r,hr,hi⟩:=can_law V hu
 have:canB b c=r:=by unfold canB; rw [hr]; rfl
 rw [this]; exact ⟨hr,hi⟩
theorem cross_eq (q:Ticket_book) (Q:OpT q) {σ:Type} (yv:Ticket_truth→σ→Option (Bool×σ)):∀ (r:Nat) (c:List Int) (d:Nat) (s:σ) (n:Nat),((d+r:Nat):Int)=q.TicketBook.Tally.Trips→r < n→Small c zer→(∀ i,i < d→0≤c.getD i 0∧c.getD i 0≤q.TicketBook.Tally.Room)→
 ticket_book_truths_1_2 n ⟨c,zer⟩ d s q q yv=foldY yv (crossL q r c d) s:=by
 have T3:=Q.t3; have r0:=Q.ta.r0; have r5:=Q.r5
 intro r
 induction r with
 | zero=>
   intro c d s n h1 h2 h3 h4
   obtain ⟨n,rfl⟩:∃ m,n=m+1:=⟨n - 1,by omega⟩
   show ticket_book_truths_1_2_F _ ⟨c,zer⟩ d s q q yv=_
   unfold ticket_book_truths_1_2_F
   have hd:d=q.TicketBook.Tally.Trips.toNat:=by omega
   have hc:=h3.c3
   obtain ⟨e1,_⟩:=canB_eq Q.ta (tru_of Q.ta T3 h3.c3 (by rw [← hd]; exact h4))
   rw [show ((d:Int)==q.TicketBook.Tally.Trips)=true by rw [beq_iff_eq]; omega,cond_true]
   simp only
   rw [sgl_eq h3.c3,cutI_eq (by omega) (by omega) (by omega),Option.bind_some,show ((0:Int)).toNat=0 from rfl,List.drop_zero,show ((d:Int)).toNat=q.TicketBook.Tally.Trips.toNat by omega,e1,Option.bind_some,crossL]
   simp only
   cases canB q.TicketBook.Tally c with
   | false=>rfl
   | true=>
     rw [Bool.not_true,cond_false,cond_true]
     have:=use_eq q Q yv q.TicketBook.Tally.Trips.toNat c zer 0 s big (by omega) (by rw [big_eq]; omega) h3
     rw [show ticket_book_truths_1_1 big ⟨c,zer⟩ 0 s q q yv=_ from this]
     cases foldY yv (usesL q q.TicketBook.Tally.Trips.toNat c zer 0) s <;> rfl
 | succ r ih=>
   intro c d s n h1 h2 h3 h4
   obtain ⟨n,rfl⟩:∃ m,n=m+1:=⟨n - 1,by omega⟩
   show ticket_book_truths_1_2_F _ ⟨c,zer⟩ d s q q yv=_
   unfold ticket_book_truths_1_2_F
   rw [show ((d:Int)==q.TicketBook.Tally.Trips)=false by rw [beq_eq_false_iff_ne]; omega,cond_false]
   have wR:wr (q.TicketBook.Tally.Room+1)=(((q.TicketBook.Tally.Room+1).toNat:Nat):Int):=by rw [wrI (by omega) (by omega)]; omega
   have key:∀ (e k m:Nat) (U:List Int) (s:σ),k+e=(q.TicketBook.Tally.Room+1).toNat→e < m→U.length=3→(∀ x,U.set d x=c.set d x)→
    loopF (ticket_book_truths_1_2_l1 q d (fun x0 x1 x2=>ticket_book_truths_1_2 n x0 x1 x2 q q yv) ⟨c,zer⟩) m ((k:Int),U,s)=foldY yv ((List.range' k e).flatMap fun (n:Nat)=>crossL q r (c.set d (n:Int)) (d+1)) s:=by
    intro e
    induction e with
    | zero=>
      intro k m U s h4 h5 h6 h7
      obtain ⟨m,rfl⟩:∃ q,m=q+1:=⟨m - 1,by omega⟩
      show ticket_book_truths_1_2_l1 q d _ ⟨c,zer⟩ _ ((k:Int),U,s)=_
      unfold ticket_book_truths_1_2_l1
      simp only
      rw [wR,decide_eq_false (by omega),cond_false]
      rfl
    | succ e ih2=>
      intro k m U s h5 h6 h7 h8
      obtain ⟨m,rfl⟩:∃ q,m=q+1:=⟨m - 1,by omega⟩
      show ticket_book_truths_1_2_l1 q d _ ⟨c,zer⟩ (loopF _ m) ((k:Int),U,s)=_
      have ih3:=fun s=>ih2 (k+1) m (c.set d (k:Int)) s (by omega) (by omega) (by simp [h3.c3]) (fun x=>by simp)
      generalize loopF (ticket_book_truths_1_2_l1 q d (fun x0 x1 x2=>ticket_book_truths_1_2 n x0 x1 x2 q q yv) ⟨c,zer⟩) m=rec at ih3
      rw [List.range'_succ,List.flatMap_cons,foldY_app]
      have w0:wr ((k:Int)+1)=((k+1:Nat):Int):=by rw [wrI (by omega) (by omega)]; omega
      have wd:wr ((d:Int)+1)=((d+1:Nat):Int):=by rw [wrI (by omega) (by omega)]; omega
      unfold ticket_book_truths_1_2_l1
      simp only
      rw [wR,decide_eq_true (by omega),cond_true,need_of (by simp [inI]; omega),aset_eq h7,show ((d:Int)).toNat=d from rfl,h8,wd,w0,ih (c.set d (k:Int)) (d+1) s n (by omega) (by omega) (h3.setC (by omega)) (fun i hi=>by
       rw [List.getD_eq_getElem?_getD,List.getElem?_set]
       split
       ·split
        ·simp; omega
        ·simp; omega
       ·rw [← List.getD_eq_getElem?_getD]; exact h4 i (by omega))]
      cases foldY yv (crossL q r (c.set d (k:Int)) (d+1)) s with
      | none=>rfl
      | some x=>
        obtain ⟨b,s2⟩:=x
        cases b with
        | false=>rfl
        | true=>exact ih3 s2
   exact key _ 0 big c s (by omega) (by rw [big_eq]; omega) h3.c3 (fun _=>rfl)
theorem small0:Small zer zer:=by
 have:∀ d,zer.getD d 0=0:=fun d=>by
  unfold zer; rw [List.getD_eq_getElem?_getD,List.getElem?_replicate]; split <;> rfl
 exact ⟨rfl,rfl,fun d=>by rw [this]; omega,fun d=>by rw [this]; omega⟩
def truths (q:Ticket_book) (cl:Bool):List Ticket_truth:=bif cl then crossL q q.TicketBook.Tally.Trips.toNat zer 0 else []
theorem truths_eq (q:Ticket_book) (Q:OpT q) {cl:Bool} (hc:ticket_book_clear q=some cl) {σ:Type} (yv:Ticket_truth→σ→Option (Bool×σ)) (s:σ):ticket_book_truths_1 s q yv=(foldY yv (truths q cl) s).map (·.2):=by
 have T3:=Q.t3; have T1:=Q.ta.t1
 unfold ticket_book_truths_1 truths
 rw [hc,Option.bind_some]
 cases cl with
 | false=>rfl
 | true=>
   rw [Bool.not_true,cond_false,cond_true]
   have:=cross_eq q Q yv q.TicketBook.Tally.Trips.toNat zer 0 s big (by omega) (by rw [big_eq]; omega) small0 (fun i h=>absurd h (Nat.not_lt_zero i))
   rw [show ticket_book_truths_1_2 big (Ticket_truth.mk (List.replicate 3 0) (List.replicate 3 0)) 0 s q q yv=_ from this]
   cases foldY yv (crossL q q.TicketBook.Tally.Trips.toNat zer 0) s <;> rfl
end Go.Proofs.YtafhljljfglfeaaGreatDoor
namespace Go.Proofs.YtafhljljfglfeaaGreatDoor
open Go Go.Fx
def kept {α:Type} (l:List α) (o:Nat→Bool) (k:Nat):List α:=(List.range k).filterMap fun i=>bif o i then none else l[i]?
theorem kept_succ {α:Type}{l:List α}{o:Nat→Bool}{k:Nat} (h:k < l.length):kept l o (k+1)=kept l o k++(bif o k then [] else [l[k]]):=by
 unfold kept
 rw [List.range_succ,List.filterMap_append]
 congr 1
 simp only [List.filterMap_cons,List.filterMap_nil,List.getElem?_eq_getElem h]
 cases o k <;> rfl
theorem kept_len {α:Type}{l:List α}{o:Nat→Bool}{k:Nat}:(kept l o k).length≤k:=by
 have:=List.length_filterMap_le (fun i=>bif o i then none else l[i]?) (List.range k)
 simpa [kept] using this
theorem kept_all {α:Type} (l:List α):kept l (fun _=>false) l.length=l:=by
 have:∀ k,k≤l.length→kept l (fun _=>false) k=l.take k:=by
  intro k
  induction k with
  | zero=>intro _; rfl
  | succ k ih=>
    intro h
    rw [kept_succ (by omega),ih (by omega),List.take_succ_eq_append_getElem (by omega)]; rfl
 rw [this _ (Nat.le_refl _),List.take_length]
def shownStep (s:List Int) (x:TicketShow):List Int:=aset s 3 x.Trip (orI (aget s x.Trip) (shlI 1 x.Ticket))
def shownOf (l:List TicketShow):List Int:=l.foldl shownStep zer
def byStep (m:List (Ticket_seat×Int)) (x:TicketShow):List (Ticket_seat×Int):=putL m (Ticket_seat.mk x.Trip x.Walker) (orI ((lookL m (Ticket_seat.mk x.Trip x.Walker)).getD 0) (shlI 1 x.Ticket))
def byOf (l:List TicketShow):List (Ticket_seat×Int):=l.foldl byStep (putL ([]:List (Ticket_seat×Int)) (Ticket_seat.mk (-1) (-1)) 0)
def qOf (b:TicketBook) (sh:List TicketShow) (bx:List TicketBox):Ticket_book:=⟨⟨b.Tally,b.Fare,b.Tickets,sh,bx⟩,shownOf sh,byOf sh⟩
def outS (b:TicketBook) (o:Nat→Bool):List TicketShow:=kept b.Shows o b.Shows.length
def outX (b:TicketBook) (o:Nat→Bool):List TicketBox:=kept b.Boxes (fun i=>o (b.Shows.length+i)) b.Boxes.length
theorem openedT_eq {b:TicketBook} (V:VT b) (ch:Ticket_choice) (o:Nat→Bool) (h:∀ k,k < b.Shows.length+b.Boxes.length→ch.out_ (k:Int)=some (o k)):ticket_opened b ch=some (qOf b (outS b o) (outX b o)):=by
 have sn:=V.sn; have bn:=V.bn
 unfold ticket_opened
 refine loop_fold0 (fun k=>((k:Int),(kept b.Shows o k).foldl byStep (putL ([]:List (Ticket_seat×Int)) (Ticket_seat.mk (-1) (-1)) 0),kept b.Shows o k,(kept b.Shows o k).foldl shownStep zer)) b.Shows.length (fun rec k hk=>?_) (fun rec=>?_) (by rw [big_eq]; omega) rfl
 ·unfold ticket_opened_l5
  simp only
  have hx:=V.sh _ (List.getElem_mem hk)
  have t3:=V.t3; have h0:=hx.t0; have h1:=hx.tT; have h2:=hx.n0
  have hl:=kept_len (l:=b.Shows) (o:=o) (k:=k)
  rw [decide_eq_true (by omega),cond_true,getI_ix hk,Option.bind_some,h k (by omega),Option.bind_some,kept_succ hk,wrI (by omega) (by omega),show (k:Int)+1=((k+1:Nat):Int) by omega]
  cases o k with
  | true=>
    rw [Bool.not_true,cond_false,cond_true,List.append_nil]
  | false=>
    rw [Bool.not_false,cond_true,cond_false,need_of (fits_small (by simp; omega) (by omega)),need_of (by simp [inI]; omega),need_of (by simp; omega),need_of (by simp [inI]; omega),need_of (by simp; omega),List.foldl_append,List.foldl_append]
    rfl
 ·unfold ticket_opened_l5
  simp only
  rw [decide_eq_false (by omega),cond_false]
  refine loop_fold0 (fun k=>((k:Int),kept b.Boxes (fun i=>o (b.Shows.length+i)) k)) b.Boxes.length (fun rec k hk=>?_) (fun rec=>?_) (by rw [big_eq]; omega) rfl
  ·unfold ticket_opened_l4
   simp only
   have hl:=kept_len (l:=b.Boxes) (o:=fun i=>o (b.Shows.length+i)) (k:=k)
   rw [decide_eq_true (by omega),cond_true,getI_ix hk,Option.bind_some,wrI (x:=(b.Shows.length:Int)+(k:Int)) (by omega) (by omega),show (b.Shows.length:Int)+(k:Int)=((b.Shows.length+k:Nat):Int) by omega,h _ (by omega),Option.bind_some,kept_succ hk,wrI (x:=(k:Int)+1) (by omega) (by omega),show (k:Int)+1=((k+1:Nat):Int) by omega]
   cases o (b.Shows.length+k) with
   | true=>rw [Bool.not_true,cond_false,cond_true,List.append_nil]
   | false=>rw [Bool.not_false,cond_true,cond_false,need_of (fits_small (by simp; omega) (by omega))]
  ·unfold ticket_opened_l4
   simp only
   rw [decide_eq_false (by omega),cond_false]
   rfl
structure Pc (b:TicketBook) (sh:List TicketShow) (bx:List TicketBox):Prop where
 sn:sh.length≤5
 bn:bx.length≤3
 sh:∀ x∈sh,Shw b.Tally.Trips b.Tickets.length x
 bx:∀ x∈bx,Box b.Tally.Trips x
theorem VT.pc {b:TicketBook} (V:VT b):Pc b b.Shows b.Boxes:=⟨V.sn,V.bn,V.sh,V.bx⟩
theorem list_rev {α:Type}{p:List α→Prop} (h0:p []) (h1:∀ l x,p l→p (l++[x])):∀ l,p l:=by
 intro l
 have:∀ n,n≤l.length→p (l.take n):=by
  intro n
  induction n with
  | zero=>intro _; exact h0
  | succ n ih=>
    intro h
    rw [List.take_succ_eq_append_getElem (by omega)]
    exact h1 _ _ (ih (by omega))
 have:=this _ (Nat.le_refl _)
 rwa [List.take_length] at this
theorem or_small {s t:Nat} (h:s < 8) (k:t < 3):orI (s:Int) (shlI 1 (t:Int))=((s ||| 2 ^ t:Nat):Int)∧s ||| 2 ^ t < 8:=by
 have h2:2 ^ t < 8:=by
  match t,k with
  | 0,_=>decide
  | 1,_=>decide
  | 2,_=>decide
 refine ⟨?_,Nat.or_lt_two_pow (n:=3) h h2⟩
 rw [shl1_nat t (by omega),or_nat s _ (by omega) (by omega)]
theorem shown_ok {b:TicketBook} (t3:b.Tally.Trips≤3) (tn:b.Tickets.length≤3):∀ (sh:List TicketShow),(∀ x∈sh,Shw b.Tally.Trips b.Tickets.length x)→(shownOf sh).length=3∧(∀ d,0≤(shownOf sh).getD d 0∧(shownOf sh).getD d 0 < 8)∧∀ d n:Nat,((shownOf sh).getD d 0).toNat.testBit n=true↔∃ x∈sh,x.Trip=d∧x.Ticket=n:=by
 refine list_rev (fun _=>?_) (fun l x ih h=>?_)
 ·have hz:∀ d,zer.getD d 0=0:=fun d=>by
   unfold zer; rw [List.getD_eq_getElem?_getD,List.getElem?_replicate]; split <;> rfl
  refine ⟨rfl,fun d=>?_,fun d n=>?_⟩
  ·show 0≤zer.getD d 0∧zer.getD d 0 < 8; rw [hz]; omega
  ·show (zer.getD d 0).toNat.testBit n=true↔_; rw [hz]; simp
 ·obtain ⟨i1,i2,i3⟩:=ih fun y hy=>h y (List.mem_append_left _ hy)
  have hx:=h x (List.mem_append_right _ (List.mem_singleton.2 rfl))
  have h0:=hx.t0; have h1:=hx.tT; have h2:=hx.n0; have h3:=hx.nm
  have hd:=i2 x.Trip.toNat
  have e:shownOf (l++[x])=(shownOf l).set x.Trip.toNat ((((shownOf l).getD x.Trip.toNat 0).toNat ||| 2 ^ x.Ticket.toNat:Nat):Int):=by
   have e0:shownOf (l++[x])=shownStep (shownOf l) x:=by unfold shownOf; rw [List.foldl_append]; rfl
   rw [e0]
   unfold shownStep
   rw [aset_eq i1]
   congr 1
   have:=or_small (s:=((shownOf l).getD x.Trip.toNat 0).toNat) (t:=x.Ticket.toNat) (by omega) (by omega)
   rw [← this.1,show ((((shownOf l).getD x.Trip.toNat 0).toNat:Nat):Int)=(shownOf l).getD x.Trip.toNat 0 by omega,show ((x.Ticket.toNat:Nat):Int)=x.Ticket by omega]
   rfl
  have lt:=(or_small (s:=((shownOf l).getD x.Trip.toNat 0).toNat) (t:=x.Ticket.toNat) (by omega) (by omega)).2
  have get:∀ d,(shownOf (l++[x])).getD d 0=if x.Trip.toNat=d then ((((shownOf l).getD x.Trip.toNat 0).toNat ||| 2 ^ x.Ticket.toNat:Nat):Int) else (shownOf l).getD d 0:=fun d=>by
   rw [e,List.getD_eq_getElem?_getD,List.getElem?_set]
   by_cases hd:x.Trip.toNat=d
   ·rw [if_pos hd,if_pos hd,if_pos (by rw [i1]; omega)]; rfl
   ·rw [if_neg hd,if_neg hd,List.getD_eq_getElem?_getD]
  refine ⟨by rw [e,List.length_set,i1],fun d=>?_,fun d n=>?_⟩
  ·rw [get]
   split
   ·omega
   ·exact i2 d
  ·rw [get]
   by_cases hd:x.Trip.toNat=d
   ·rw [if_pos hd,Int.toNat_natCast,Nat.testBit_or,Bool.or_eq_true,hd,i3,Nat.testBit_two_pow]
    constructor
    ·rintro (⟨y,hy,h⟩ | h)
     ·exact ⟨y,List.mem_append_left _ hy,h⟩
     ·have:=of_decide_eq_true h
      exact ⟨x,List.mem_append_right _ (List.mem_singleton.2 rfl),by omega,by omega⟩
    ·rintro ⟨y,hy,h⟩
     rcases List.mem_append.1 hy with hy | hy
     ·exact .inl ⟨y,hy,h⟩
     ·rw [List.mem_singleton.1 hy] at h
      exact .inr (decide_eq_true (by omega))
   ·rw [if_neg hd,i3]
    constructor
    ·rintro ⟨y,hy,h⟩; exact ⟨y,List.mem_append_left _ hy,h⟩
    ·rintro ⟨y,hy,h⟩
     rcases List.mem_append.1 hy with hy | hy
     ·exact ⟨y,hy,h⟩
     ·rw [List.mem_singleton.1 hy] at h; omega
theorem look_put_ne {κ ν:Type} [DecidableEq κ] (l:List (κ×ν)) {a c:κ} (x:ν) (h:c≠a):lookL (putL l a x) c=lookL l c:=by
 unfold putL
 cases hf:(l.map (·.1)).findIdx? (·==a) with
 | none=>
   simp only
   unfold lookL
   rw [List.find?_append]
   cases l.find? (·.1==c) with
   | some y=>rfl
   | none=>
     have e:(a==c)=false:=by simpa using fun e:a=c=>h e.symm
     simp [List.find?_cons,e]
 | some i=>
   simp only
   obtain ⟨hi,hp⟩:=List.findIdx?_eq_some_iff_getElem.1 hf
   have hi' :i < l.length:=by simpa using hi
   have hp' :l[i].1=a:=by simpa using hp.1
   clear hf hp
   unfold lookL
   congr 1
   induction l generalizing i with
   | nil=>rfl
   | cons y l ih=>
     cases i with
     | zero=>
       have hy:y.1=a:=hp'
       have n1:(y.1==c)=false:=by rw [hy]; simpa using fun e=>h e.symm
       have n2:(a==c)=false:=by simpa using fun e=>h e.symm
       rw [List.set_cons_zero,List.find?_cons,List.find?_cons]
       simp only [n1,n2]
     | succ i=>
       rw [List.set_cons_succ,List.find?_cons,List.find?_cons]
       cases (y.1==c) with
       | true=>rfl
       | false=>exact ih i (by simpa using hi) (by simpa using hi') (by simpa using hp')
def seatOf (x:TicketShow):Ticket_seat:=⟨x.Trip,x.Walker⟩
theorem by_ok {b:TicketBook} (t3:b.Tally.Trips≤3) (tn:b.Tickets.length≤3):∀ (sh:List TicketShow),(∀ x∈sh,Shw b.Tally.Trips b.Tickets.length x)→∀ s:Ticket_seat,∃ v:Nat,v < 8∧(lookL (byOf sh) s).getD 0=(v:Int)∧∀ n:Nat,v.testBit n=true↔∃ x∈sh,seatOf x=s∧x.Ticket=n:=by
 refine list_rev (fun _ s=>?_) (fun l x ih h s=>?_)
 ·refine ⟨0,by decide,?_,fun n=>by simp⟩
  unfold byOf
  by_cases hs:s=Ticket_seat.mk (-1) (-1)
  ·rw [hs]; rfl
  ·show (lookL (putL ([]:List (Ticket_seat×Int)) (Ticket_seat.mk (-1) (-1)) 0) s).getD 0=_
   rw [look_put_ne _ _ hs]; rfl
 ·have hx:=h x (List.mem_append_right _ (List.mem_singleton.2 rfl))
  have h2:=hx.n0; have h3:=hx.nm
  have e:byOf (l++[x])=byStep (byOf l) x:=by unfold byOf; rw [List.foldl_append]; rfl
  have ih:=ih fun y hy=>h y (List.mem_append_left _ hy)
  by_cases hs:s=seatOf x
  ·subst hs
   obtain ⟨v,v8,hv,hb⟩:=ih (seatOf x)
   have ho:=or_small (s:=v) (t:=x.Ticket.toNat) v8 (by omega)
   refine ⟨v ||| 2 ^ x.Ticket.toNat,ho.2,?_,fun n=>?_⟩
   ·rw [e]; unfold byStep
    show (lookL (putL (byOf l) (seatOf x) (orI ((lookL (byOf l) (seatOf x)).getD 0) _)) (seatOf x)).getD 0=_
    rw [look_put,hv,Option.getD_some,← ho.1,show ((x.Ticket.toNat:Nat):Int)=x.Ticket by omega]
   ·rw [Nat.testBit_or,Bool.or_eq_true,hb,Nat.testBit_two_pow]
    constructor
    ·rintro (⟨y,hy,h⟩ | h)
     ·exact ⟨y,List.mem_append_left _ hy,h⟩
     ·have:=of_decide_eq_true h
      exact ⟨x,List.mem_append_right _ (List.mem_singleton.2 rfl),rfl,by omega⟩
    ·rintro ⟨y,hy,h⟩
     rcases List.mem_append.1 hy with hy | hy
     ·exact .inl ⟨y,hy,h⟩
     ·rw [List.mem_singleton.1 hy] at h
      exact .inr (decide_eq_true (by omega))
  ·obtain ⟨v,v8,hv,hb⟩:=ih s
   refine ⟨v,v8,?_,fun n=>?_⟩
   ·rw [e]; unfold byStep
    show (lookL (putL (byOf l) (seatOf x) _) s).getD 0=_
    rw [look_put_ne _ _ hs,hv]
   ·rw [hb]
    constructor
    ·rintro ⟨y,hy,h⟩; exact ⟨y,List.mem_append_left _ hy,h⟩
    ·rintro ⟨y,hy,h⟩
     rcases List.mem_append.1 hy with hy | hy
     ·exact ⟨y,hy,h⟩
     ·rw [List.mem_singleton.1 hy] at h; exact absurd h.1.symm hs
def Cl (sh:List TicketShow):Prop:=∀ x∈sh,∀ y∈sh,x.Trip=y.Trip→(x.Ticket=y.Ticket↔x.Walker=y.Walker)
def clashN (x y:TicketShow):Bool:=(x.Trip==y.Trip)&&((x.Ticket==y.Ticket) != (x.Walker==y.Walker))
theorem clash_eq (x y:TicketShow):ticket_clash x y=some (clashN x y):=by
 unfold ticket_clash clashN
 cases (x.Trip==y.Trip) <;> rfl
theorem clashN_iff {x y:TicketShow}:clashN x y=true↔x.Trip=y.Trip∧¬(x.Ticket=y.Ticket↔x.Walker=y.Walker):=by
 unfold clashN
 rw [Bool.and_eq_true,beq_iff_eq,bne_iff_ne]
 refine and_congr_right fun _=>?_
 rw [Ne,Bool.eq_iff_iff,beq_iff_eq,beq_iff_eq]
theorem clashN_comm (x y:TicketShow):clashN x y=clashN y x:=by
 rw [Bool.eq_iff_iff,clashN_iff,clashN_iff,eq_comm (a:=x.Trip),eq_comm (a:=x.Ticket),eq_comm (a:=x.Walker)]
theorem cl_iff {sh:List TicketShow}:Cl sh↔∀ x∈sh,∀ y∈sh,clashN x y=false:=by
 unfold Cl
 refine forall_congr' fun x=>forall_congr' fun _=>forall_congr' fun y=>forall_congr' fun _=>?_
 rw [← Bool.not_eq_true,clashN_iff]
 constructor
 ·intro h ⟨h1,h2⟩; exact h2 (h h1)
 ·intro h h1; exact Classical.byContradiction fun h2=>h ⟨h1,h2⟩
theorem clear_eq {b:TicketBook} (V:VT b) {sh:List TicketShow}{bx:List TicketBox} (P:Pc b sh bx):∃ cl,ticket_book_clear (qOf b sh bx)=some cl∧(cl=true↔Cl sh):=by
 have t3:=V.t3; have tn:=V.tn; have sn:=P.sn
 have B:=by_ok t3 tn sh P.sh
 unfold ticket_book_clear
 have L:=loop_all (body:=ticket_book_clear_l1 (qOf b sh bx)) sh.length (fun k=>(sh[k]?).all fun x=>((lookL (byOf sh) (seatOf x)).getD 0==shlI 1 x.Ticket)&&!(sh.take k).any (fun y=>clashN x y)) (Rf:=some false) (Rt:=some true) (fun rec k hk=>?_) (fun rec=>?_) (by rw [big_eq]; omega)
 rotate_left
 ·unfold ticket_book_clear_l1
  have hx:=P.sh _ (List.getElem_mem hk)
  have w0:=hx.w0; have n0:=hx.n0
  show (bif decide ((k:Int) < (sh.length:Int)) then _ else _)=_
  rw [decide_eq_true (by omega),cond_true]
  show (getI sh (k:Int)).bind _=_
  rw [getI_ix hk,Option.bind_some,List.getElem?_eq_getElem hk,Option.all_some]
  generalize sh[k]=x at hx w0 n0
  rw [show (x.Walker==(-1))=false by rw [beq_eq_false_iff_ne]; omega,Bool.and_false,cond_false,need_of (by simpa using n0)]
  show (bif (lookL (byOf sh) (seatOf x)).getD 0 != shlI 1 x.Ticket then some false else _)=_
  rw [bne]
  cases ((lookL (byOf sh) (seatOf x)).getD 0==shlI 1 x.Ticket) with
  | false=>rfl
  | true=>
    rw [Bool.not_true,cond_false,Bool.true_and]
    show (cutI sh 0 (k:Int)).bind _=_
    rw [cutI_eq (by omega) (by omega) (by omega),Option.bind_some,has_show _ _ (fun y=>clashN x y) (fun y _=>by
     unfold ticket_book_clear_1
     rw [clash_eq]; rfl) (by rw [List.length_drop,List.length_take]; omega),Option.bind_some,show ((0:Int)).toNat=0 from rfl,List.drop_zero,show ((k:Int)).toNat=k from rfl,wrI (by omega) (by omega),show (k:Int)+1=((k+1:Nat):Int) by omega]
    cases (sh.take k).any (fun y=>clashN x y) <;> rfl
 ·unfold ticket_book_clear_l1
  show (bif decide ((sh.length:Int) < (sh.length:Int)) then _ else _)=_
  rw [decide_eq_false (by omega),cond_false]
 rw [L]
 refine ⟨(List.range sh.length).all (fun k=>(sh[k]?).all fun x=>((lookL (byOf sh) (seatOf x)).getD 0==shlI 1 x.Ticket)&&!(sh.take k).any (fun y=>clashN x y)),?_,?_⟩
 ·generalize ((List.range sh.length).all fun k=>_)=A
  cases A <;> rfl
 ·rw [List.all_eq_true]
  constructor
  ·intro h
   rw [cl_iff]
   have key:∀ (i k:Nat),i < k→∀ x y,sh[i]? =some x→sh[k]? =some y→clashN y x=false:=by
    intro i k hik x y hx hy
    have hk:=(List.getElem?_eq_some_iff.1 hy).1
    have:=h k (List.mem_range.2 hk)
    rw [hy,Option.all_some,Bool.and_eq_true,Bool.not_eq_true',List.any_eq_false] at this
    have:=this.2 x (List.mem_of_getElem? (i:=i) (by rw [List.getElem?_take_of_lt hik]; exact hx))
    simpa using this
   intro x hx y hy
   obtain ⟨i,hi,rfl⟩:=List.getElem_of_mem hx
   obtain ⟨k,hk,rfl⟩:=List.getElem_of_mem hy
   rcases Nat.lt_trichotomy i k with hik | hik | hik
   ·rw [clashN_comm]; exact key i k hik _ _ (List.getElem?_eq_getElem hi) (List.getElem?_eq_getElem hk)
   ·subst hik
    rw [← Bool.not_eq_true,clashN_iff]
    rintro ⟨_,h⟩
    exact h ⟨fun _=>rfl,fun _=>rfl⟩
   ·exact key k i hik _ _ (List.getElem?_eq_getElem hk) (List.getElem?_eq_getElem hi)
  ·intro h k hk
   have hk:=List.mem_range.1 hk
   rw [List.getElem?_eq_getElem hk,Option.all_some,Bool.and_eq_true,Bool.not_eq_true',List.any_eq_false,beq_iff_eq]
   have hx:=P.sh _ (List.getElem_mem hk)
   have n0:=hx.n0; have nm:=hx.nm
   refine ⟨?_,fun y hy=>?_⟩
   ·obtain ⟨v,v8,hv,hb⟩:=B (seatOf sh[k])
    rw [hv,show sh[k].Ticket=((sh[k].Ticket.toNat:Nat):Int) by omega,shl1_nat _ (by omega)]
    congr 1
    refine Nat.eq_of_testBit_eq fun n=>?_
    rw [Bool.eq_iff_iff,hb,Nat.testBit_two_pow,decide_eq_true_eq]
    constructor
    ·rintro ⟨y,hy,hs,ht⟩
     have e1:y.Trip=sh[k].Trip:=congrArg Ticket_seat.trip_ hs
     have e2:y.Walker=sh[k].Walker:=congrArg Ticket_seat.walker_ hs
     have:=(h y hy _ (List.getElem_mem hk) e1).2 e2
     omega
    ·intro hn
     exact ⟨_,List.getElem_mem hk,rfl,by omega⟩
   ·have:=cl_iff.1 h _ (List.getElem_mem hk) y (List.mem_of_mem_take hy)
    simp [this]
theorem qOf_op {b:TicketBook} (V:VT b) {sh:List TicketShow}{bx:List TicketBox} (P:Pc b sh bx):OpT (qOf b sh bx):=by
 have S:=shown_ok V.t3 V.tn sh P.sh
 exact ⟨V.ta,V.t3,V.r5,V.f1,V.f20,V.tn,V.te,P.sn,P.bn,P.bx,S.1,S.2.1⟩
end Go.Proofs.YtafhljljfglfeaaGreatDoor
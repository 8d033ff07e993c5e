/- What the functions of the program compute, and that they do, printed by a program of mine. -/
import Derived.Test.YtafhljljfglfeaaGreatDoorZWF
import Derived.KernelRfl
import Derived.Test.YtafhljljfglfeaaGreatDoorZGFxCopy
import Derived.OpenShut
import Derived.RowKit
import Derived.WideKeyArgs
import Derived.ChangeOld
import Derived.LaidMore
import Derived.LaidLaws
import Derived.Deep.DeepHandedRow
import Derived.ProofKit
import Derived.Test.YtafhljljfglfeaaGreatDoorCards
import Derived.Test.YtafhljljfglfeaaGreatDoorTie
set_option linter.unusedVariables false
set_option linter.unusedSimpArgs false
namespace Go.Proofs.YtafhljljfglfeaaGreatDoor
open Go Go.Fx Go.Proofs
def ref10_Fits_l1 (r27:(List Ref10_truth)×Int) (a0:TicketBook) (a1:TicketBox) (rec_z_1:Int→Option (Bool×Int)) (z_1:Int):Option (Bool×Int):=
 bif decide (z_1 < (r27.1.length:Int)) then ((getI r27.1 z_1).bind fun r95=>
 (ref10_right a0 r95 a1).bind fun r101=>
 bif r101 then (some (true,0))
 else (rec_z_1 (wr (z_1+1))))
 else (some (false,0))
def ref10_Fits (a0:TicketBook) (a1:TicketBox):Option (Bool×Int):=
 (ref10_isBox a0 a1).bind fun r21=>
 (ref10_asked a0 r21).bind fun r27=>
 bif (r27.2 != 0) then (some (false,r27.2))
 else (loopF (ref10_Fits_l1 r27 a0 a1) big 0)
set_option maxRecDepth 100000 in
theorem ref10_Fits_ok {a0:TicketBook}{a1:TicketBox}{A1:Option Addr}{c2:Nat}{A4:Option Addr}{c5:Nat}{A7:Option Addr}{c8:Nat}{A10:Option Addr}{c11:Nat}{w:World}{r:Bool×Int} (H:ref10_Fits a0 a1=some r) (h3:(rd eTallyCount 7 A1 c2 a0.Tally.Counts).ok w) (h6:(rd eTicketSeason 2 A4 c5 a0.Tickets).ok w) (h9:(rd eTicketShow 3 A7 c8 a0.Shows).ok w) (h12:(rd eTicketBox 4 A10 c11 a0.Boxes).ok w):Calls Tryz.prog 44 #[AG (vB a0 A1 c2 A4 c5 A7 c8 A10 c11),AG [I a1.From,I a1.To,I a1.Pence,I a1.Lost]] w (RetV w (TU [B r.1,I r.2])):=by
 unfold ref10_Fits at H
 refine fn_of (n:=33) Tryz.func44 rfl rfl (lE rfl) ?_
 have S:=St.start w nF _ (cA h3 (cA h6 (cA h9 (cA h12 nM))))
 refine c_seq<|reg<|p_boxA rfl S fun b13 w14 S15=>p_boxA rfl S15 fun b16 w17 S18=>p_aB rfl<|p_aI rfl<|wp_nil<|c_seq ?_
 obtain ⟨r21,h22,H⟩:=bindS H
 obtain ⟨r27,h28,H⟩:=bindS H
 refine reg_any mixed 10 (by kernel_rfl) [rv (AG (vB a0 A1 c2 A4 c5 A7 c8 A10 c11)),rv (AG (vB a0 A1 c2 A4 c5 A7 c8 A10 c11)),rv (AG [I a1.From,I a1.To,I a1.Pence,I a1.Lost]),rv (B r21),rx (α:=(Option Addr)×(List (Ref10_truth×(Option Addr)×Nat×(Option Addr)×Nat))×Nat) (fun ⟨A31,l33,c32⟩=>TU [SL A31 l33.length c32,I r27.2]) (fun ⟨A31,l33,c32⟩ lo hi=>BtwL lo hi [] (rd nRef10_truth 2 A31 c32 l33)∧BtwL lo hi [rd eTallyCount 7 A1 c2 a0.Tally.Counts,rd eTicketSeason 2 A4 c5 a0.Tickets,rd eTicketShow 3 A7 c8 a0.Shows,rd eTicketBox 4 A10 c11 a0.Boxes] (ri nRef10_truthI l33 r27.1)∧True) (fun ⟨A31,l33,c32⟩=>[rd nRef10_truth 2 A31 c32 l33,ri nRef10_truthI l33 r27.1]),dv 14 some,dv 9 (exG 0),dv 9 (exG 1),dv 15 some,rv (I r27.2)] [[],[],[],[],[],[14],[9],[9],[15],[]] rfl (by kernel_rfl) [[],[],[],[1,2],[0,1,2,3],[0,1,2,3,4],[0,1,2,3,4,5],[0,1,2,3,4,5],[0,1,2,3,4,5,6],[0,1,2,3,4,5,6,7,8]] (by kernel_rfl) ⟨?_,?_,?_,?_,?_,?_,?_,?_,?_,?_,trivial⟩ ?_
 ·intro e_ w_ k_ hf_ hR_
  have S_:St w_ nF w_ [] [bl b16 [I a1.From,I a1.To,I a1.Pence,I a1.Lost] 39,bl b13 (vB a0 A1 c2 A4 c5 A7 c8 A10 c11) 29,rd eTallyCount 7 A1 c2 a0.Tally.Counts,rd eTicketSeason 2 A4 c5 a0.Tickets,rd eTicketShow 3 A7 c8 a0.Shows,rd eTicketBox 4 A10 c11 a0.Boxes]:=S18.asP k_
  refine hopE [(2,P b13 0)] ⟨((hf_ 2 rfl).trans (rfl:_=P b13 0)),trivial⟩ ?_
  exact p_ldA ty29 sz29 (S_.atP (i:=1) rfl) rfl rfl<|wp_nil ⟨_,rfl,S_.keep,rfl⟩
 ·intro e_ w_ k_ hf_ hR_
  have S_:St w_ nF w_ [] [bl b16 [I a1.From,I a1.To,I a1.Pence,I a1.Lost] 39,bl b13 (vB a0 A1 c2 A4 c5 A7 c8 A10 c11) 29,rd eTallyCount 7 A1 c2 a0.Tally.Counts,rd eTicketSeason 2 A4 c5 a0.Tickets,rd eTicketShow 3 A7 c8 a0.Shows,rd eTicketBox 4 A10 c11 a0.Boxes]:=S18.asP k_
  refine hopE [(2,P b13 0)] ⟨((hf_ 2 rfl).trans (rfl:_=P b13 0)),trivial⟩ ?_
  exact p_ldA ty29 sz29 (S_.atP (i:=1) rfl) rfl rfl<|wp_nil ⟨_,rfl,S_.keep,rfl⟩
 ·intro e_ w_ k_ hf_ hR_
  have S_:St w_ nF w_ [] [bl b16 [I a1.From,I a1.To,I a1.Pence,I a1.Lost] 39,bl b13 (vB a0 A1 c2 A4 c5 A7 c8 A10 c11) 29,rd eTallyCount 7 A1 c2 a0.Tally.Counts,rd eTicketSeason 2 A4 c5 a0.Tickets,rd eTicketShow 3 A7 c8 a0.Shows,rd eTicketBox 4 A10 c11 a0.Boxes]:=S18.asP k_
  refine hopE [(3,P b16 0)] ⟨((hf_ 3 rfl).trans (rfl:_=P b16 0)),trivial⟩ ?_
  exact p_ldA ty39 sz39 (S_.atP (i:=0) rfl) rfl rfl<|wp_nil ⟨_,rfl,S_.keep,rfl⟩
 ·intro e_ w_ k_ hf_ hR_
  have S_:St w_ nF w_ [] [bl b16 [I a1.From,I a1.To,I a1.Pence,I a1.Lost] 39,bl b13 (vB a0 A1 c2 A4 c5 A7 c8 A10 c11) 29,rd eTallyCount 7 A1 c2 a0.Tally.Counts,rd eTicketSeason 2 A4 c5 a0.Tickets,rd eTicketShow 3 A7 c8 a0.Shows,rd eTicketBox 4 A10 c11 a0.Boxes]:=S18.asP k_
  refine hopE [(11,AG (vB a0 A1 c2 A4 c5 A7 c8 A10 c11)),(12,AG [I a1.From,I a1.To,I a1.Pence,I a1.Lost])] ⟨rQ (hR_ 1 11 rfl (lE rfl) rfl),rQ (hR_ 2 12 rfl (lE rfl) rfl),trivial⟩ ?_
  refine p_cv (ref10_isBox_ok h22 (S_.atP (i:=2) rfl) (S_.atP (i:=3) rfl) (S_.atP (i:=4) rfl) (S_.atP (i:=5) rfl)) fu61 rfl S_ fun w23 S24=>wp_nil ?_
  exact ⟨_,rfl,S24.keep,rfl⟩
 ·intro e_ w_ k_ hf_ hR_
  have S_:St w_ nF w_ [] [bl b16 [I a1.From,I a1.To,I a1.Pence,I a1.Lost] 39,bl b13 (vB a0 A1 c2 A4 c5 A7 c8 A10 c11) 29,rd eTallyCount 7 A1 c2 a0.Tally.Counts,rd eTicketSeason 2 A4 c5 a0.Tickets,rd eTicketShow 3 A7 c8 a0.Shows,rd eTicketBox 4 A10 c11 a0.Boxes]:=S18.asP k_
  refine hopE [(10,AG (vB a0 A1 c2 A4 c5 A7 c8 A10 c11)),(13,B r21)] ⟨rQ (hR_ 0 10 rfl (lE rfl) rfl),rQ (hR_ 3 13 rfl (lE rfl) rfl),trivial⟩ ?_
  refine p_cal (ref10_asked_ok h28 (S_.atP (i:=2) rfl) (S_.atP (i:=3) rfl) (S_.atP (i:=4) rfl) (S_.atP (i:=5) rfl)) fu66 rfl ?_
  rintro _ w29 ⟨A31,c32,l33,rfl,k30,⟨o34,n35⟩,⟨o36,n37⟩,_⟩
  have S38:=S_.callN k30 [rd nRef10_truth 2 A31 c32 l33,ri nRef10_truthI l33 r27.1] (cA ⟨o34,New.inL n35⟩ (cA ⟨o36,Al.inL n37 ((cA (fp_mem (i:=2) rfl) (cA (fp_mem (i:=3) rfl) (cA (fp_mem (i:=4) rfl) (cA (fp_mem (i:=5) rfl) nM)))))⟩ nM))
  exact wp_nil ⟨_,rfl,S38.keep,⟨(A31,l33,c32),rfl,⟨bL (New.al (New.mono n35 S_.keep.size)) rfl (S38.atP (i:=0) rfl) rfl,bL n37 rfl (S38.atP (i:=1) rfl) rfl,trivial⟩,(cA (S38.atP (i:=0) rfl) (cA (S38.atP (i:=1) rfl) nM))⟩⟩
 ·intro e_ w_ k_ hf_ hR_
  have S_:St w_ nF w_ [] [bl b16 [I a1.From,I a1.To,I a1.Pence,I a1.Lost] 39,bl b13 (vB a0 A1 c2 A4 c5 A7 c8 A10 c11) 29,rd eTallyCount 7 A1 c2 a0.Tally.Counts,rd eTicketSeason 2 A4 c5 a0.Tickets,rd eTicketShow 3 A7 c8 a0.Shows,rd eTicketBox 4 A10 c11 a0.Boxes]:=S18.asP k_
  obtain ⟨_,_,_,_,⟨A31,l33,c32⟩,q39,p40,a41⟩:=hR_ 4 14 rfl (lE rfl) rfl
  replace q39:e_ 14=TU [SL A31 l33.length c32,I r27.2]:=q39
  have S_:=St.addL' S_ (a41 _ (.head _)) (fun _ _ _ h_=>(nE h_))
  have S_:=St.addL' S_ (a41 _ (.tail _ (.head _))) (fun _ _ _ h_=>(nE h_))
  refine hopE [(14,TU [SL A31 l33.length c32,I r27.2])] ⟨q39,trivial⟩ ?_
  refine p_mT rfl<|wp_nil ?_
  exact ⟨_,rfl,S_.keep,rfl⟩
 ·intro e_ w_ k_ hf_ hR_
  have S_:St w_ nF w_ [] [bl b16 [I a1.From,I a1.To,I a1.Pence,I a1.Lost] 39,bl b13 (vB a0 A1 c2 A4 c5 A7 c8 A10 c11) 29,rd eTallyCount 7 A1 c2 a0.Tally.Counts,rd eTicketSeason 2 A4 c5 a0.Tickets,rd eTicketShow 3 A7 c8 a0.Shows,rd eTicketBox 4 A10 c11 a0.Boxes]:=S18.asP k_
  obtain ⟨_,_,_,_,⟨A31,l33,c32⟩,q43,p44,a45⟩:=hR_ 4 14 rfl (lE rfl) rfl
  replace q43:e_ 14=TU [SL A31 l33.length c32,I r27.2]:=q43
  have S_:=St.addL' S_ (a45 _ (.head _)) (fun _ _ _ h_=>(nE h_))
  have S_:=St.addL' S_ (a45 _ (.tail _ (.head _))) (fun _ _ _ h_=>(nE h_))
  obtain ⟨_,_,_,_,q42⟩:=hR_ 5 9 rfl (lE rfl) rfl
  replace q42:e_ 9=TU [SL A31 l33.length c32,I r27.2]:=(sJ ((congrArg some q43).symm.trans q42)).symm
  refine hopE [(9,TU [SL A31 l33.length c32,I r27.2])] ⟨q42,trivial⟩ ?_
  refine p_ext rfl rfl<|wp_nil ?_
  exact ⟨_,rfl,S_.keep,rfl⟩
 ·intro e_ w_ k_ hf_ hR_
  have S_:St w_ nF w_ [] [bl b16 [I a1.From,I a1.To,I a1.Pence,I a1.Lost] 39,bl b13 (vB a0 A1 c2 A4 c5 A7 c8 A10 c11) 29,rd eTallyCount 7 A1 c2 a0.Tally.Counts,rd eTicketSeason 2 A4 c5 a0.Tickets,rd eTicketShow 3 A7 c8 a0.Shows,rd eTicketBox 4 A10 c11 a0.Boxes]:=S18.asP k_
  obtain ⟨_,_,_,_,⟨A31,l33,c32⟩,q47,p48,a49⟩:=hR_ 4 14 rfl (lE rfl) rfl
  replace q47:e_ 14=TU [SL A31 l33.length c32,I r27.2]:=q47
  have S_:=St.addL' S_ (a49 _ (.head _)) (fun _ _ _ h_=>(nE h_))
  have S_:=St.addL' S_ (a49 _ (.tail _ (.head _))) (fun _ _ _ h_=>(nE h_))
  obtain ⟨_,_,_,_,q46⟩:=hR_ 5 9 rfl (lE rfl) rfl
  replace q46:e_ 9=TU [SL A31 l33.length c32,I r27.2]:=(sJ ((congrArg some q47).symm.trans q46)).symm
  refine hopE [(9,TU [SL A31 l33.length c32,I r27.2])] ⟨q46,trivial⟩ ?_
  refine p_ext rfl rfl<|wp_nil ?_
  exact ⟨_,rfl,S_.keep,rfl⟩
 ·intro e_ w_ k_ hf_ hR_
  have S_:St w_ nF w_ [] [bl b16 [I a1.From,I a1.To,I a1.Pence,I a1.Lost] 39,bl b13 (vB a0 A1 c2 A4 c5 A7 c8 A10 c11) 29,rd eTallyCount 7 A1 c2 a0.Tally.Counts,rd eTicketSeason 2 A4 c5 a0.Tickets,rd eTicketShow 3 A7 c8 a0.Shows,rd eTicketBox 4 A10 c11 a0.Boxes]:=S18.asP k_
  obtain ⟨_,_,_,_,⟨A31,l33,c32⟩,q52,p53,a54⟩:=hR_ 4 14 rfl (lE rfl) rfl
  replace q52:e_ 14=TU [SL A31 l33.length c32,I r27.2]:=q52
  have S_:=St.addL' S_ (a54 _ (.head _)) (fun _ _ _ h_=>(nE h_))
  have S_:=St.addL' S_ (a54 _ (.tail _ (.head _))) (fun _ _ _ h_=>(nE h_))
  obtain ⟨_,_,_,_,q51⟩:=hR_ 5 9 rfl (lE rfl) rfl
  replace q51:e_ 9=TU [SL A31 l33.length c32,I r27.2]:=(sJ ((congrArg some q52).symm.trans q51)).symm
  obtain ⟨_,_,_,_,q50⟩:=hR_ 6 15 rfl (lE rfl) rfl
  replace q50:e_ 15=SL A31 l33.length c32:=(sJ ((congrArg (exG 0) q51).symm.trans q50)).symm
  refine hopE [(15,SL A31 l33.length c32)] ⟨q50,trivial⟩ ?_
  refine p_aS rfl<|wp_nil ?_
  exact ⟨_,rfl,S_.keep,rfl⟩
 ·intro e_ w_ k_ hf_ hR_
  have S_:St w_ nF w_ [] [bl b16 [I a1.From,I a1.To,I a1.Pence,I a1.Lost] 39,bl b13 (vB a0 A1 c2 A4 c5 A7 c8 A10 c11) 29,rd eTallyCount 7 A1 c2 a0.Tally.Counts,rd eTicketSeason 2 A4 c5 a0.Tickets,rd eTicketShow 3 A7 c8 a0.Shows,rd eTicketBox 4 A10 c11 a0.Boxes]:=S18.asP k_
  obtain ⟨_,_,_,_,⟨A31,l33,c32⟩,q57,p58,a59⟩:=hR_ 4 14 rfl (lE rfl) rfl
  replace q57:e_ 14=TU [SL A31 l33.length c32,I r27.2]:=q57
  have S_:=St.addL' S_ (a59 _ (.head _)) (fun _ _ _ h_=>(nE h_))
  have S_:=St.addL' S_ (a59 _ (.tail _ (.head _))) (fun _ _ _ h_=>(nE h_))
  obtain ⟨_,_,_,_,q56⟩:=hR_ 5 9 rfl (lE rfl) rfl
  replace q56:e_ 9=TU [SL A31 l33.length c32,I r27.2]:=(sJ ((congrArg some q57).symm.trans q56)).symm
  obtain ⟨_,_,_,_,q55⟩:=hR_ 7 16 rfl (lE rfl) rfl
  replace q55:e_ 16=I r27.2:=(sJ ((congrArg (exG 1) q56).symm.trans q55)).symm
  refine hopE [(16,I r27.2)] ⟨q55,trivial⟩ ?_
  refine p_aI rfl<|wp_nil ?_
  exact ⟨_,rfl,S_.keep,rfl⟩
 intro e60 w61 lo62 hi63 k64 hf65 hR66 hd67
 have S68:=S18.call k64
 have q69:e60 10=AG (vB a0 A1 c2 A4 c5 A7 c8 A10 c11):=(hR66 0 10 (lE rfl) rfl).2.2.2
 have q70:e60 11=AG (vB a0 A1 c2 A4 c5 A7 c8 A10 c11):=(hR66 1 11 (lE rfl) rfl).2.2.2
 have q71:e60 12=AG [I a1.From,I a1.To,I a1.Pence,I a1.Lost]:=(hR66 2 12 (lE rfl) rfl).2.2.2
 have q72:e60 13=B r21:=(hR66 3 13 (lE rfl) rfl).2.2.2
 obtain ⟨h74,h75,h76,⟨A31,l33,c32⟩,q73,h77,h78⟩:=hR66 4 14 (lE rfl) rfl
 replace q73:e60 14=TU [SL A31 l33.length c32,I r27.2]:=q73
 obtain ⟨p79,p80,_⟩:=h77
 have S81:=St.addR S68 (h78 _ (.head _)) (oR p79 h74 S18 (nM))
 have S82:=St.addR S81 (h78 _ (.tail _ (.head _))) (oR p80 h74 S18 (mG [0,1,2,3] rfl))
 have q83:e60 9=TU [SL A31 l33.length c32,I r27.2]:=(sJ ((congrArg some q73).symm.trans (hR66 5 9 (lE rfl) rfl).2.2.2)).symm
 have q84:e60 15=SL A31 l33.length c32:=(sJ ((congrArg (exG 0) q83).symm.trans (hR66 6 15 (lE rfl) rfl).2.2.2)).symm
 have q85:e60 16=I r27.2:=(sJ ((congrArg (exG 1) q83).symm.trans (hR66 7 16 (lE rfl) rfl).2.2.2)).symm
 have q86:e60 6=SL A31 l33.length c32:=(sJ ((congrArg some q84).symm.trans (hR66 8 6 (lE rfl) rfl).2.2.2)).symm
 have q87:e60 7=I r27.2:=(hR66 9 7 (lE rfl) rfl).2.2.2
 refine tailE [(2,P b13 0),(3,P b16 0),(6,SL A31 l33.length c32),(7,I r27.2)] ⟨((hf65 2 rfl).trans (rfl:_=P b13 0)),((hf65 3 rfl).trans (rfl:_=P b16 0)),q86,q87,trivial⟩ ?_
 intro g88
 refine wp_nil<|c_seq<|c_seq<|reg<|p_mI rfl<|p_cmp rfl rfl rfl<|wp_nil ?_
 refine c_cond rfl (fun c89=>?_) (fun c89=>?_)
 ·replace H:=condT c89 H
  refine c_seq<|reg<|p_mI rfl<|p_aB rfl<|p_aI rfl<|wp_nil ?_
  obtain rfl:=sJ H
  refine c_ret ?_; show bodyPostM (Fr none) 0 Tryz.prog Tryz.f44 _ .ret _ _
  refine ret_of (res2 rfl (rvT (rfl:_=B false)) (rvT (rfl:_=I r27.2))) ?_
  exact ⟨_,rfl,rfl,S82.keep⟩
 ·replace H:=condF c89 H
  refine c_skip<|c_seq<|c_seq<|reg<|p_aI rfl<|wp_nil<|c_block ?_
  refine c_lop (α:=Int) (β:=Unit) (ref10_Fits_l1 r27 a0 a1) (fun z_1 y_1=>[(2,P b13 0),(3,P b16 0),(6,SL A31 l33.length c32),(8,I z_1)]) (fun z_1 y_1 w_=>St w nF w_ [bl b16 [I a1.From,I a1.To,I a1.Pence,I a1.Lost] 39,bl b13 (vB a0 A1 c2 A4 c5 A7 c8 A10 c11) 29] [ri nRef10_truthI l33 r27.1,rd nRef10_truth 2 A31 c32 l33,rd eTallyCount 7 A1 c2 a0.Tally.Counts,rd eTicketSeason 2 A4 c5 a0.Tickets,rd eTicketShow 3 A7 c8 a0.Shows,rd eTicketBox 4 A10 c11 a0.Boxes]) 0 () H ⟨rfl,rfl,rfl,rfl,trivial⟩ S82 ?_
  intro m90 z_1 y_1 e91 w92 H S93
  unfold ref10_Fits_l1 at H
  refine c_seq<|c_seq<|reg<|p_mI rfl<|p_mS rfl<|p_lenN rfl sc79 (ri_len (S93.atP (i:=0) rfl))<|p_cmp rfl rfl rfl<|wp_nil ?_
  refine c_cond rfl (fun c94=>?_) (fun c94=>?_)
  ·replace H:=condT c94 H
   refine c_skip<|c_seq<|c_block<|c_seq ?_
   obtain ⟨r95,h96,H⟩:=bindS H
   obtain ⟨d97,h98⟩:=ri_at (S93.atP (i:=0) rfl) h96
   have S99:=S93.riIn (j:=0) (k:=0) rfl h98 rfl
   have S100:=S99.riIn (j:=1) (k:=1) rfl h98 rfl
   obtain ⟨r101,h102,H⟩:=bindS H
   refine reg_q mixed 7 (by kernel_rfl) ?_
   refine dS (fun _ k_=>p_ldA ty29 sz29 (aS (S93.atX (i:=1) rfl) k_) rfl rfl dn)<|dS (fun _ k_=>p_mS rfl dn)<|dS (fun _ k_=>p_mI rfl dn)<|dS (fun _ k_=>p_ixE sc79 h98 (aS (S93.atP (i:=1) rfl) k_).1 rfl rfl rfl dn)<|dS (fun _ k_=>p_ldEA ty99 sz99 rfl h98 (aS (S93.atP (i:=1) rfl) k_).1 rfl dn)<|dS (fun _ k_=>p_ldA ty39 sz39 (aS (S100.atX (i:=0) rfl) k_) rfl rfl dn) ?_
   refine dS (fun _ k_=>p_cvD (ref10_right_ok h102 (aS (S100.atP (i:=4) rfl) k_) (aS (S100.atP (i:=5) rfl) k_) (aS (S100.atP (i:=6) rfl) k_) (aS (S100.atP (i:=7) rfl) k_) (aS (S100.atP (i:=1) rfl) k_) (aS (S100.atP (i:=0) rfl) k_)) fu83 rfl) ?_
   intro w103 k104; have S105:=S100.call k104
   refine wp_nil ?_
   refine c_cond rfl (fun c106=>?_) (fun c106=>?_)
   ·replace H:=condT c106 H
    refine c_seq<|reg<|p_aB rfl<|p_aI rfl<|wp_nil ?_
    obtain rfl:=sJ H
    refine c_ret ?_; show bodyPostM (Fr none) 0 Tryz.prog Tryz.f44 _ .ret _ _
    refine ret_of (res2 rfl (rvT (rfl:_=B true)) (rvT (rfl:_=I 0))) ?_
    exact ⟨_,rfl,rfl,S105.keep⟩
   ·replace H:=condF c106 H
    refine c_skip<|reg<|p_mI rfl<|p_add rfl rfl<|p_aI rfl<|wp_nil ?_
    have S107:=S105.pk [0,1] (by decide) [2,3,4,5,6,7] rfl rfl
    exact ⟨wr (z_1+1),(),_,rfl,⟨rfl,rfl,rfl,rfl,trivial⟩,H,S107⟩
  ·replace H:=condF c94 H
   refine c_exit<|c_seq<|reg<|p_aB rfl<|p_aI rfl<|wp_nil ?_
   obtain rfl:=sJ H
   refine c_ret ?_; show bodyPostM (Fr none) 0 Tryz.prog Tryz.f44 _ .ret _ _
   refine ret_of (res2 rfl (rvT (rfl:_=B false)) (rvT (rfl:_=I 0))) ?_
   exact ⟨_,rfl,rfl,S93.keep⟩
def ref05_most_j70 (z_2:(List Int)×Int) (rec_z_2:((List Int)×Int)→Option ((List (List Int))×Bool)) (z_3:Int):Option ((List (List Int))×Bool):=
 need (fitsL (z_2.1.length+([z_3]:List Int).length) 8)<|
 rec_z_2 (z_2.1++([z_3]:List Int),wr (z_2.2+1))
def ref05_most_l71 (a0:TallyBook) (z_1:(List (List Int))×Int) (rec_z_1:((List (List Int))×Int)→Option ((List (List Int))×Bool)) (rec_z_2:((List Int)×Int)→Option ((List (List Int))×Bool)) (z_2:(List Int)×Int):Option ((List (List Int))×Bool):=
 bif decide (z_2.2≤a0.Trips) then (bif (z_2.2==z_1.2) then (ref05_most_j70 z_2 rec_z_2 0)
 else (bif (z_2.2==(wr (z_1.2+1))) then (ref05_most_j70 z_2 rec_z_2 a0.Room)
 else (bif (z_2.2==(wr (z_1.2 - 1))) then (ref05_most_j70 z_2 rec_z_2 0)
 else (ref05_most_j70 z_2 rec_z_2 481))))
 else (need (fitsL (z_1.1.length+([z_2.1]:List (List Int)).length) 24)<|
 rec_z_1 (z_1.1++([z_2.1]:List (List Int)),wr (z_1.2+1)))
def ref05_most_l82 (a0:TallyBook) (z_6:(List (List Int))×Int) (z_5:(List (List Int))×Int) (rec_z_6:((List (List Int))×Int)→Option ((List (List Int))×Bool)) (rec_z_7:((List (List Int))×Int)→Option ((List (List Int))×Bool)) (z_7:(List (List Int))×Int):Option ((List (List Int))×Bool):=
 bif decide (z_7.2≤a0.Trips) then ((getI z_7.1 z_6.2).bind fun r111=>
 (getI z_7.1 z_6.2).bind fun r115=>
 (getI r115 z_7.2).bind fun r119=>
 (getI z_7.1 z_6.2).bind fun r121=>
 (getI r121 z_5.2).bind fun r125=>
 (getI z_7.1 z_5.2).bind fun r127=>
 (getI r127 z_7.2).bind fun r131=>
 (getI r111 z_7.2).bind fun r133=>
 rec_z_7 (z_7.1.set z_6.2.toNat (r111.set z_7.2.toNat (if (wr (r125+r131)) < r119 then (wr (r125+r131)) else r119)),wr (z_7.2+1)))
 else (rec_z_6 (z_7.1,wr (z_6.2+1)))
def ref05_most_l83 (a0:TallyBook) (z_5:(List (List Int))×Int) (rec_z_5:((List (List Int))×Int)→Option ((List (List Int))×Bool)) (rec_z_6:((List (List Int))×Int)→Option ((List (List Int))×Bool)) (z_6:(List (List Int))×Int):Option ((List (List Int))×Bool):=
 bif decide (z_6.2≤a0.Trips) then (loopF (ref05_most_l82 a0 z_6 z_5 rec_z_6) big (z_6.1,0))
 else (rec_z_5 (z_6.1,wr (z_5.2+1)))
def ref05_most_l84 (a0:TallyBook) (z_5:(List (List Int))×Int) (rec_z_8:Int→Option ((List (List Int))×Bool)) (z_8:Int):Option ((List (List Int))×Bool):=
 bif decide (z_8≤a0.Trips) then ((getI z_5.1 z_8).bind fun r147=>
 (getI r147 z_8).bind fun r151=>
 bif decide (r151 < 0) then (some (z_5.1,false))
 else (rec_z_8 (wr (z_8+1))))
 else (some (z_5.1,true))
def ref05_most_l85 (a0:TallyBook) (rec_z_5:((List (List Int))×Int)→Option ((List (List Int))×Bool)) (z_5:(List (List Int))×Int):Option ((List (List Int))×Bool):=
 bif decide (z_5.2≤a0.Trips) then (loopF (ref05_most_l83 a0 z_5 rec_z_5) big (z_5.1,0))
 else (loopF (ref05_most_l84 a0 z_5) big 0)
def ref05_most_l86 (a0:TallyBook) (rec_z_4:((List (List Int))×Int)→Option ((List (List Int))×Bool)) (z_4:(List (List Int))×Int):Option ((List (List Int))×Bool):=
 bif decide (z_4.2 < (a0.Counts.length:Int)) then ((getI a0.Counts z_4.2).bind fun r41=>
 (ref05_span r41).bind fun r48=>
 (getI z_4.1 r41.From).bind fun r57=>
 (getI z_4.1 r41.From).bind fun r61=>
 (getI r61 (wr (r41.To+1))).bind fun r65=>
 (getI r57 (wr (r41.To+1))).bind fun r67=>
 (getI (z_4.1.set r41.From.toNat (r57.set (wr (r41.To+1)).toNat (if r48.High < r65 then r48.High else r65))) (wr (r41.To+1))).bind fun r76=>
 (getI (z_4.1.set r41.From.toNat (r57.set (wr (r41.To+1)).toNat (if r48.High < r65 then r48.High else r65))) (wr (r41.To+1))).bind fun r80=>
 (getI r80 r41.From).bind fun r84=>
 (getI r76 r41.From).bind fun r86=>
 rec_z_4 ((z_4.1.set r41.From.toNat (r57.set (wr (r41.To+1)).toNat (if r48.High < r65 then r48.High else r65))).set (wr (r41.To+1)).toNat (r76.set r41.From.toNat (if (wr (-r48.Low)) < r84 then (wr (-r48.Low)) else r84)),wr (z_4.2+1)))
 else (loopF (ref05_most_l85 a0) big (z_4.1,0))
def ref05_most_l87 (a0:TallyBook) (rec_z_1:((List (List Int))×Int)→Option ((List (List Int))×Bool)) (z_1:(List (List Int))×Int):Option ((List (List Int))×Bool):=
 bif decide (z_1.2≤a0.Trips) then (loopF (ref05_most_l71 a0 z_1 rec_z_1) big (([]:List Int),0))
 else (loopF (ref05_most_l86 a0) big (z_1.1,0))
def ref05_most (a0:TallyBook):Option ((List (List Int))×Bool):=
 loopF (ref05_most_l87 a0) big (([]:List (List Int)),0)
set_option maxRecDepth 100000 in
theorem ref05_most_ok {a0:TallyBook}{A1:Option Addr}{c2:Nat}{w:World}{r:(List (List Int))×Bool} (H:ref05_most a0=some r) (h3:(rd eTallyCount 7 A1 c2 a0.Counts).ok w):Calls Tryz.prog 107 #[AG [I a0.Trips,I a0.Room,SL A1 a0.Counts.length c2]] w fun en w_=>∃ u_,en=.returned u_∧∃ A_1:Option Addr,∃ c_2:Nat,∃ l_3:List RowH,u_=TU [SL A_1 l_3.length c_2,B r.2]∧Keep0 w w_∧((rd rowN 1 A_1 c_2 l_3).ok w_∧New w.heap.size (rd rowN 1 A_1 c_2 l_3))∧((ri rowI l_3 r.1).ok w_∧New w.heap.size (ri rowI l_3 r.1))∧True:=by
 unfold ref05_most at H
 refine fn_of (n:=174) Tryz.func107 rfl rfl (lE rfl) ?_
 have S:=St.start w nF _ (cA h3 nM)
 refine c_seq<|reg<|p_boxA rfl S fun b4 w5 S6=>p_aS rfl<|p_aB rfl<|wp_nil<|c_seq<|reg<|p_aI rfl<|wp_nil<|c_seq<|reg<|p_aS rfl<|wp_nil<|c_seq<|c_seq<|reg<|p_aI rfl<|wp_nil<|c_block ?_
 have S7:=S6.nilRow rowN 1 60
 have S8:=S7.rxNil 3
 refine c_lop (α:=(List (List Int))×Int) (β:=(Option Addr)×Nat×(List RowH)) (ref05_most_l87 a0) (fun z_1 y_1=>[(1,P b4 0),(4,I 481),(5,SL y_1.1 y_1.2.2.length y_1.2.1),(6,I z_1.2)]) (fun z_1 y_1 w_=>St w nF w_ [rx' 3 y_1.2.2 z_1.1,gr rowN 1 60 y_1.1 y_1.2.1 y_1.2.2,bl b4 [I a0.Trips,I a0.Room,SL A1 a0.Counts.length c2] 24] [rd eTallyCount 7 A1 c2 a0.Counts]) (([]:List (List Int)),0) (none,0,([]:List RowH)) H ⟨rfl,rfl,rfl,rfl,trivial⟩ S8 ?_
 intro m9 z_1 y_1 e10 w11 H S12
 unfold ref05_most_l87 at H
 refine c_seq<|c_seq<|reg<|p_mI rfl<|p_fld fl24_0 rfl<|p_ld ty3 (S12.atX (i:=2) rfl) rfl rfl<|p_cmp rfl rfl rfl<|wp_nil ?_
 refine c_cond rfl (fun c13=>?_) (fun c13=>?_)
 ·replace H:=condT c13 H
  refine c_skip<|c_seq<|c_block<|c_seq<|reg<|p_aS rfl<|wp_nil<|c_seq<|c_seq<|reg<|p_aI rfl<|wp_nil<|c_block ?_
  have S14:=S12.nilRow intE 1 3
  refine c_lop (α:=(List Int)×Int) (β:=(Option Addr)×Nat) (ref05_most_l71 a0 z_1 (loopF (ref05_most_l87 a0) m9)) (fun z_2 y_2=>[(1,P b4 0),(4,I 481),(5,SL y_1.1 y_1.2.2.length y_1.2.1),(6,I z_1.2),(7,SL y_2.1 z_2.1.length y_2.2),(8,I z_2.2)]) (fun z_2 y_2 w_=>St w nF w_ [gr intE 1 3 y_2.1 y_2.2 z_2.1,rx' 3 y_1.2.2 z_1.1,gr rowN 1 60 y_1.1 y_1.2.1 y_1.2.2,bl b4 [I a0.Trips,I a0.Room,SL A1 a0.Counts.length c2] 24] [rd eTallyCount 7 A1 c2 a0.Counts]) (([]:List Int),0) (none,0) H ⟨rfl,rfl,rfl,rfl,rfl,rfl,trivial⟩ S14 ?_
  intro m15 z_2 y_2 e16 w17 H S18
  unfold ref05_most_l71 at H
  refine c_seq<|c_seq<|reg<|p_mI rfl<|p_fld fl24_0 rfl<|p_ld ty3 (S18.atX (i:=3) rfl) rfl rfl<|p_cmp rfl rfl rfl<|wp_nil ?_
  refine c_cond rfl (fun c19=>?_) (fun c19=>?_)
  ·replace H:=condT c19 H
   refine c_skip<|c_seq<|c_block<|c_seq<|reg<|p_mI rfl<|p_aI rfl<|wp_nil ?_
   refine c_join (α:=Int) (β:=Unit) (fun z_3 y_3=>[(1,P b4 0),(4,I 481),(5,SL y_1.1 y_1.2.2.length y_1.2.1),(6,I z_1.2),(7,SL y_2.1 z_2.1.length y_2.2),(8,I z_2.2),(9,I z_3)]) (fun z_3 y_3 w_=>ref05_most_j70 z_2 (loopF (ref05_most_l71 a0 z_1 (loopF (ref05_most_l87 a0) m9)) m15) z_3=some r∧St w nF w_ [gr intE 1 3 y_2.1 y_2.2 z_2.1,rx' 3 y_1.2.2 z_1.1,gr rowN 1 60 y_1.1 y_1.2.1 y_1.2.2,bl b4 [I a0.Trips,I a0.Room,SL A1 a0.Counts.length c2] 24] [rd eTallyCount 7 A1 c2 a0.Counts]) ?_ ?_
   ·refine c_seq<|reg<|p_mI rfl<|wp_nil<|c_block<|c_seq<|reg<|p_mI rfl<|p_cmp rfl rfl rfl<|p_aB rfl<|wp_nil ?_
    refine c_cond rfl (fun c20=>?_) (fun c20=>?_)
    ·replace H:=condT c20 H
     refine reg<|p_aI rfl<|wp_nil ?_
     exact ⟨0,(),_,rfl,⟨rfl,rfl,rfl,rfl,rfl,rfl,rfl,trivial⟩,H,S18⟩
    ·replace H:=condF c20 H
     refine c_seq<|reg<|p_mI rfl<|p_add rfl rfl<|p_cmp rfl rfl rfl<|p_aB rfl<|wp_nil ?_
     refine c_cond rfl (fun c21=>?_) (fun c21=>?_)
     ·replace H:=condT c21 H
      refine reg<|p_fld fl24_1 rfl<|p_ld ty3 (S18.atX (i:=3) rfl) rfl rfl<|p_aI rfl<|wp_nil ?_
      exact ⟨a0.Room,(),_,rfl,⟨rfl,rfl,rfl,rfl,rfl,rfl,rfl,trivial⟩,H,S18⟩
     ·replace H:=condF c21 H
      refine c_seq<|reg<|p_mI rfl<|p_sub rfl rfl<|p_cmp rfl rfl rfl<|p_aB rfl<|wp_nil ?_
      refine c_cond rfl (fun c22=>?_) (fun c22=>?_)
      ·replace H:=condT c22 H
       refine reg<|p_aI rfl<|wp_nil ?_
       exact ⟨0,(),_,rfl,⟨rfl,rfl,rfl,rfl,rfl,rfl,rfl,trivial⟩,H,S18⟩
      ·replace H:=condF c22 H
       refine c_skip ?_
       exact ⟨481,(),_,rfl,⟨rfl,rfl,rfl,rfl,rfl,rfl,rfl,trivial⟩,H,S18⟩
   ·intro z_3 y_3 e20 w21 S22; obtain ⟨H,S22⟩:=S22
    unfold ref05_most_j70 at H
    refine reg<|p_mS rfl<|p_mI rfl<|p_bsl (enc:=intE) (l:=([z_3]:List Int)) I (fun _=>rfl) sc60 in3 intE_len rfl (by decide) (by decide) zr3_1 S22 rfl fun A23 c24 w25 S26=>?_
    obtain ⟨h32,H⟩:=needS H
    refine p_app (enc:=intE) sc60 in3 rfl intE_len intE_one (by decide) S26 (k:=1) rfl (gr_sl intE_len (S26.atX (i:=0) rfl)) h32 (by simp) rfl rfl fun A30 c31 w28 S29=>p_aS rfl<|wp_nil<|reg<|p_mI rfl<|p_add rfl rfl<|p_aI rfl<|wp_nil ?_
    have S33:=S29.pk [1,2,3,4] (by decide) [0] rfl rfl
    exact ⟨(z_2.1++([z_3]:List Int),wr (z_2.2+1)),(A30,c31),_,rfl,⟨rfl,rfl,rfl,rfl,rfl,rfl,trivial⟩,H,S33⟩
  ·replace H:=condF c19 H
   refine c_exit<|reg<|p_mS rfl<|p_mS rfl<|p_bsl (enc:=rowN) (l:=([(z_2.1,y_2.1,y_2.2)]:List RowH)) (fun h:RowH=>SL h.2.1 h.1.length h.2.2) (fun _=>rfl) sc137 in60 rowN_len rfl (by decide) (by decide) zr60_1 S18 rfl fun A23 c24 w25 S26=>?_
   have S28:=S26.rxOne (i:=1) rfl
   obtain ⟨h33,H⟩:=needS H
   refine p_app (enc:=rowN) sc137 in60 rfl rowN_len rowN_one (by decide) S28 (k:=3) rfl (gr_sl rowN_len (S28.atX (i:=0) rfl)) (fits_ri h33 (congr (congrArg HAdd.hAdd (rx_len (S28.atX (i:=2) rfl))) (rx_len (S28.atX (i:=1) rfl)))) (by simp) rfl rfl fun A31 c32 w29 S30=>?_
   have S34:=S30.rxApp (j:=2) (i:=1) rfl rfl (by decide)
   refine p_aS rfl<|wp_nil<|reg<|p_mI rfl<|p_add rfl rfl<|p_aI rfl<|wp_nil ?_
   have S35:=S34.pk [1,2,3] (by decide) [0] rfl rfl
   exact ⟨(z_1.1++([z_2.1]:List (List Int)),wr (z_1.2+1)),(A31,c32,y_1.2.2++([(z_2.1,y_2.1,y_2.2)]:List RowH)),_,rfl,⟨rfl,rfl,rfl,rfl,trivial⟩,H,S35⟩
 ·replace H:=condF c13 H
  refine c_exit<|c_seq<|c_seq<|reg<|p_aI rfl<|wp_nil<|c_block ?_
  refine c_lop (α:=(List (List Int))×Int) (β:=(Option Addr)×Nat×(List RowH)) (ref05_most_l86 a0) (fun z_4 y_4=>[(1,P b4 0),(5,SL y_4.1 y_4.2.2.length y_4.2.1),(10,I z_4.2)]) (fun z_4 y_4 w_=>St w nF w_ [rx' 3 y_4.2.2 z_4.1,gr rowN 1 60 y_4.1 y_4.2.1 y_4.2.2,bl b4 [I a0.Trips,I a0.Room,SL A1 a0.Counts.length c2] 24] [rd eTallyCount 7 A1 c2 a0.Counts]) (z_1.1,0) (y_1.1,y_1.2.1,y_1.2.2) H ⟨rfl,rfl,rfl,trivial⟩ S12 ?_
  intro m36 z_4 y_4 e37 w38 H S39
  unfold ref05_most_l86 at H
  refine c_seq<|c_seq<|reg<|p_mI rfl<|p_fld fl24_2 rfl<|p_ld ty22 (S39.atX (i:=2) rfl) rfl rfl<|p_len rfl sc22<|p_cmp rfl rfl rfl<|wp_nil ?_
  refine c_cond rfl (fun c40=>?_) (fun c40=>?_)
  ·replace H:=condT c40 H
   refine c_skip<|c_seq<|c_block<|c_seq<|reg<|p_fld fl24_2 rfl<|p_ld ty22 (S39.atX (i:=2) rfl) rfl rfl<|p_mI rfl ?_
   obtain ⟨r41,h42,H⟩:=bindS H
   refine p_ixE sc22 h42 (S39.atP (i:=0) rfl).1 rfl rfl rfl<|p_ldEA ty106 sz106 rfl h42 (S39.atP (i:=0) rfl).1 rfl<|p_allA in106 S39 fun b43 w44 S45=>?_
   refine p_stP (pre:=[]) (old:=[I 0,I 0,I 0,I 0,I 0,I 0,I 0]) (post:=[]) (vs:=[I r41.Who,I r41.From,I r41.To,I r41.Told,I r41.Unit,I r41.Under,I r41.Over]) sz106 S45 (i:=0) rfl rfl rfl rfl (rfl:_=AG [I r41.Who,I r41.From,I r41.To,I r41.Told,I r41.Unit,I r41.Under,I r41.Over]) rfl rfl rfl rfl fun w46 S47=>wp_nil<|c_seq<|reg<|p_ldA ty106 sz106 (S47.atX (i:=0) rfl) rfl rfl ?_
   obtain ⟨r48,h49,H⟩:=bindS H
   refine p_cv (ref05_span_ok h49) fu122 rfl S47 fun w50 S51=>p_allA in51 S51 fun b52 w53 S54=>p_stP (pre:=[]) (old:=[I 0,I 0]) (post:=[]) (vs:=[I r48.Low,I r48.High]) sz51 S54 (i:=0) rfl rfl rfl rfl (rfl:_=AG [I r48.Low,I r48.High]) rfl rfl rfl rfl fun w55 S56=>wp_nil<|c_seq ?_
   obtain ⟨r57,h58,H⟩:=bindS H
   obtain ⟨d59,h60⟩:=rx_at (S56.atX (i:=2) rfl) h58
   obtain ⟨r61,h62,H⟩:=bindS H
   obtain ⟨d63,h64⟩:=rx_at (S56.atX (i:=2) rfl) h62
   obtain ⟨r65,h66,H⟩:=bindS H
   obtain ⟨r67,h68,H⟩:=bindS H
   refine reg_q mixed 22 (by kernel_rfl) ?_
   refine dS (fun _ k_=>p_mS rfl dn)<|dS (fun _ k_=>p_fld fl106_1 rfl dn)<|dS (fun _ k_=>p_ld ty3 (aS (S56.atX (i:=1) rfl) k_) rfl rfl dn)<|dS (fun _ k_=>p_ixE sc137 h60 (gr_sl rowN_len (aS (S56.atX (i:=3) rfl) k_)) rfl rfl rfl dn)<|dS (fun _ k_=>p_ldE ty60 h60 (gr_sl rowN_len (aS (S56.atX (i:=3) rfl) k_)) rfl rfl dn)<|dS (fun _ k_=>p_fld fl106_2 rfl dn) ?_
   refine dS (fun _ k_=>p_ld ty3 (aS (S56.atX (i:=1) rfl) k_) rfl rfl dn)<|dS (fun _ k_=>p_add rfl rfl dn)<|dS (fun _ k_=>p_mS rfl dn)<|dS (fun _ k_=>p_fld fl106_1 rfl dn)<|dS (fun _ k_=>p_ld ty3 (aS (S56.atX (i:=1) rfl) k_) rfl rfl dn)<|dS (fun _ k_=>p_ixE sc137 h64 (gr_sl rowN_len (aS (S56.atX (i:=3) rfl) k_)) rfl rfl rfl dn) ?_
   refine dS (fun _ k_=>p_ldE ty60 h64 (gr_sl rowN_len (aS (S56.atX (i:=3) rfl) k_)) rfl rfl dn)<|dS (fun _ k_=>p_fld fl106_2 rfl dn)<|dS (fun _ k_=>p_ld ty3 (aS (S56.atX (i:=1) rfl) k_) rfl rfl dn)<|dS (fun _ k_=>p_add rfl rfl dn)<|dS (fun _ k_=>p_ixE sc60 h66 (rx_rd (aS (S56.atX (i:=2) rfl) k_) h64).1 rfl rfl rfl dn) ?_
   refine dS (fun _ k_=>p_ldE ty3 h66 (rx_rd (aS (S56.atX (i:=2) rfl) k_) h64).1 rfl rfl dn)<|dS (fun _ k_=>p_fld fl51_1 rfl dn)<|dS (fun _ k_=>p_ld ty3 (aS (S56.atX (i:=0) rfl) k_) rfl rfl dn)<|dS (fun _ k_=>p_min rfl rfl dn)<|dS (fun _ k_=>p_ixE sc60 h68 (rx_rd (aS (S56.atX (i:=2) rfl) k_) h60).1 rfl rfl rfl dn) ?_
   intro w69 k70; have S71:=S56.call k70
   refine p_stR sz3 S71 (j:=2) (m:=3) rfl rfl h60 h58 h68 rfl rfl fun l72 w74 h73 S75=>?_
   rw [← h73]
   refine wp_nil ?_
   obtain ⟨r76,h77,H⟩:=bindS H
   obtain ⟨d78,h79⟩:=rx_at (S75.atX (i:=2) rfl) h77
   obtain ⟨r80,h81,H⟩:=bindS H
   obtain ⟨d82,h83⟩:=rx_at (S75.atX (i:=2) rfl) h81
   obtain ⟨r84,h85,H⟩:=bindS H
   obtain ⟨r86,h87,H⟩:=bindS H
   refine reg_q mixed 23 (by kernel_rfl) ?_
   refine dS (fun _ k_=>p_mS rfl dn)<|dS (fun _ k_=>p_fld fl106_2 rfl dn)<|dS (fun _ k_=>p_ld ty3 (aS (S75.atX (i:=1) rfl) k_) rfl rfl dn)<|dS (fun _ k_=>p_add rfl rfl dn)<|dS (fun _ k_=>p_ixE sc137 h79 (gr_sl rowN_len (aS (S75.atX (i:=3) rfl) k_)) rfl rfl rfl dn)<|dS (fun _ k_=>p_ldE ty60 h79 (gr_sl rowN_len (aS (S75.atX (i:=3) rfl) k_)) rfl rfl dn) ?_
   refine dS (fun _ k_=>p_fld fl106_1 rfl dn)<|dS (fun _ k_=>p_ld ty3 (aS (S75.atX (i:=1) rfl) k_) rfl rfl dn)<|dS (fun _ k_=>p_mS rfl dn)<|dS (fun _ k_=>p_fld fl106_2 rfl dn)<|dS (fun _ k_=>p_ld ty3 (aS (S75.atX (i:=1) rfl) k_) rfl rfl dn)<|dS (fun _ k_=>p_add rfl rfl dn)<|dS (fun _ k_=>p_ixE sc137 h83 (gr_sl rowN_len (aS (S75.atX (i:=3) rfl) k_)) rfl rfl rfl dn) ?_
   refine dS (fun _ k_=>p_ldE ty60 h83 (gr_sl rowN_len (aS (S75.atX (i:=3) rfl) k_)) rfl rfl dn)<|dS (fun _ k_=>p_fld fl106_1 rfl dn)<|dS (fun _ k_=>p_ld ty3 (aS (S75.atX (i:=1) rfl) k_) rfl rfl dn)<|dS (fun _ k_=>p_ixE sc60 h85 (rx_rd (aS (S75.atX (i:=2) rfl) k_) h83).1 rfl rfl rfl dn)<|dS (fun _ k_=>p_ldE ty3 h85 (rx_rd (aS (S75.atX (i:=2) rfl) k_) h83).1 rfl rfl dn) ?_
   refine dS (fun _ k_=>p_fld fl51_0 rfl dn)<|dS (fun _ k_=>p_ld ty3 (aS (S75.atX (i:=0) rfl) k_) rfl rfl dn)<|dS (fun _ k_=>p_neg rfl dn)<|dS (fun _ k_=>p_min rfl rfl dn)<|dS (fun _ k_=>p_ixE sc60 h87 (rx_rd (aS (S75.atX (i:=2) rfl) k_) h79).1 rfl rfl rfl dn) ?_
   intro w88 k89; have S90:=S75.call k89
   refine p_stR sz3 S90 (j:=2) (m:=3) rfl rfl h79 h77 h87 rfl rfl fun l91 w93 h92 S94=>?_
   rw [← h92]
   refine wp_nil<|reg<|p_mI rfl<|p_add rfl rfl<|p_aI rfl<|wp_nil ?_
   have S95:=S94.pk [2,3,4] (by decide) [0] rfl rfl
   exact ⟨((z_4.1.set r41.From.toNat (r57.set (wr (r41.To+1)).toNat (if r48.High < r65 then r48.High else r65))).set (wr (r41.To+1)).toNat (r76.set r41.From.toNat (if (wr (-r48.Low)) < r84 then (wr (-r48.Low)) else r84)),wr (z_4.2+1)),(y_4.1,y_4.2.1,l91),_,rfl,⟨rfl,rfl,rfl,trivial⟩,H,S95⟩
  ·replace H:=condF c40 H
   refine c_exit<|c_seq<|c_seq<|reg<|p_aI rfl<|wp_nil<|c_block ?_
   refine c_lop (α:=(List (List Int))×Int) (β:=(Option Addr)×Nat×(List RowH)) (ref05_most_l85 a0) (fun z_5 y_5=>[(1,P b4 0),(5,SL y_5.1 y_5.2.2.length y_5.2.1),(13,I z_5.2)]) (fun z_5 y_5 w_=>St w nF w_ [rx' 3 y_5.2.2 z_5.1,gr rowN 1 60 y_5.1 y_5.2.1 y_5.2.2,bl b4 [I a0.Trips,I a0.Room,SL A1 a0.Counts.length c2] 24] [rd eTallyCount 7 A1 c2 a0.Counts]) (z_4.1,0) (y_4.1,y_4.2.1,y_4.2.2) H ⟨rfl,rfl,rfl,trivial⟩ S39 ?_
   intro m96 z_5 y_5 e97 w98 H S99
   unfold ref05_most_l85 at H
   refine c_seq<|c_seq<|reg<|p_mI rfl<|p_fld fl24_0 rfl<|p_ld ty3 (S99.atX (i:=2) rfl) rfl rfl<|p_cmp rfl rfl rfl<|wp_nil ?_
   refine c_cond rfl (fun c100=>?_) (fun c100=>?_)
   ·replace H:=condT c100 H
    refine c_skip<|c_seq<|c_block<|c_seq<|reg<|p_aI rfl<|wp_nil<|c_block ?_
    refine c_lop (α:=(List (List Int))×Int) (β:=(Option Addr)×Nat×(List RowH)) (ref05_most_l83 a0 z_5 (loopF (ref05_most_l85 a0) m96)) (fun z_6 y_6=>[(1,P b4 0),(5,SL y_6.1 y_6.2.2.length y_6.2.1),(13,I z_5.2),(14,I z_6.2)]) (fun z_6 y_6 w_=>St w nF w_ [rx' 3 y_6.2.2 z_6.1,gr rowN 1 60 y_6.1 y_6.2.1 y_6.2.2,bl b4 [I a0.Trips,I a0.Room,SL A1 a0.Counts.length c2] 24] [rd eTallyCount 7 A1 c2 a0.Counts]) (z_5.1,0) (y_5.1,y_5.2.1,y_5.2.2) H ⟨rfl,rfl,rfl,rfl,trivial⟩ S99 ?_
    intro m101 z_6 y_6 e102 w103 H S104
    unfold ref05_most_l83 at H
    refine c_seq<|c_seq<|reg<|p_mI rfl<|p_fld fl24_0 rfl<|p_ld ty3 (S104.atX (i:=2) rfl) rfl rfl<|p_cmp rfl rfl rfl<|wp_nil ?_
    refine c_cond rfl (fun c105=>?_) (fun c105=>?_)
    ·replace H:=condT c105 H
     refine c_skip<|c_seq<|c_block<|c_seq<|reg<|p_aI rfl<|wp_nil<|c_block ?_
     refine c_lop (α:=(List (List Int))×Int) (β:=(Option Addr)×Nat×(List RowH)) (ref05_most_l82 a0 z_6 z_5 (loopF (ref05_most_l83 a0 z_5 (loopF (ref05_most_l85 a0) m96)) m101)) (fun z_7 y_7=>[(1,P b4 0),(5,SL y_7.1 y_7.2.2.length y_7.2.1),(13,I z_5.2),(14,I z_6.2),(15,I z_7.2)]) (fun z_7 y_7 w_=>St w nF w_ [rx' 3 y_7.2.2 z_7.1,gr rowN 1 60 y_7.1 y_7.2.1 y_7.2.2,bl b4 [I a0.Trips,I a0.Room,SL A1 a0.Counts.length c2] 24] [rd eTallyCount 7 A1 c2 a0.Counts]) (z_6.1,0) (y_6.1,y_6.2.1,y_6.2.2) H ⟨rfl,rfl,rfl,rfl,rfl,trivial⟩ S104 ?_
     intro m106 z_7 y_7 e107 w108 H S109
     unfold ref05_most_l82 at H
     refine c_seq<|c_seq<|reg<|p_mI rfl<|p_fld fl24_0 rfl<|p_ld ty3 (S109.atX (i:=2) rfl) rfl rfl<|p_cmp rfl rfl rfl<|wp_nil ?_
     refine c_cond rfl (fun c110=>?_) (fun c110=>?_)
     ·replace H:=condT c110 H
      refine c_skip<|c_seq<|c_block ?_
      obtain ⟨r111,h112,H⟩:=bindS H
      obtain ⟨d113,h114⟩:=rx_at (S109.atX (i:=0) rfl) h112
      obtain ⟨r115,h116,H⟩:=bindS H
      obtain ⟨d117,h118⟩:=rx_at (S109.atX (i:=0) rfl) h116
      obtain ⟨r119,h120,H⟩:=bindS H
      obtain ⟨r121,h122,H⟩:=bindS H
      obtain ⟨d123,h124⟩:=rx_at (S109.atX (i:=0) rfl) h122
      obtain ⟨r125,h126,H⟩:=bindS H
      obtain ⟨r127,h128,H⟩:=bindS H
      obtain ⟨d129,h130⟩:=rx_at (S109.atX (i:=0) rfl) h128
      obtain ⟨r131,h132,H⟩:=bindS H
      obtain ⟨r133,h134,H⟩:=bindS H
      refine reg_q mixed 29 (by kernel_rfl) ?_
      refine dS (fun _ k_=>p_mS rfl dn)<|dS (fun _ k_=>p_mI rfl dn)<|dS (fun _ k_=>p_ixE sc137 h114 (gr_sl rowN_len (aS (S109.atX (i:=1) rfl) k_)) rfl rfl rfl dn)<|dS (fun _ k_=>p_ldE ty60 h114 (gr_sl rowN_len (aS (S109.atX (i:=1) rfl) k_)) rfl rfl dn)<|dS (fun _ k_=>p_mI rfl dn)<|dS (fun _ k_=>p_mS rfl dn)<|dS (fun _ k_=>p_mI rfl dn) ?_
      refine dS (fun _ k_=>p_ixE sc137 h118 (gr_sl rowN_len (aS (S109.atX (i:=1) rfl) k_)) rfl rfl rfl dn)<|dS (fun _ k_=>p_ldE ty60 h118 (gr_sl rowN_len (aS (S109.atX (i:=1) rfl) k_)) rfl rfl dn)<|dS (fun _ k_=>p_mI rfl dn)<|dS (fun _ k_=>p_ixE sc60 h120 (rx_rd (aS (S109.atX (i:=0) rfl) k_) h118).1 rfl rfl rfl dn) ?_
      refine dS (fun _ k_=>p_ldE ty3 h120 (rx_rd (aS (S109.atX (i:=0) rfl) k_) h118).1 rfl rfl dn)<|dS (fun _ k_=>p_mS rfl dn)<|dS (fun _ k_=>p_mI rfl dn)<|dS (fun _ k_=>p_ixE sc137 h124 (gr_sl rowN_len (aS (S109.atX (i:=1) rfl) k_)) rfl rfl rfl dn)<|dS (fun _ k_=>p_ldE ty60 h124 (gr_sl rowN_len (aS (S109.atX (i:=1) rfl) k_)) rfl rfl dn)<|dS (fun _ k_=>p_mI rfl dn) ?_
      refine dS (fun _ k_=>p_ixE sc60 h126 (rx_rd (aS (S109.atX (i:=0) rfl) k_) h124).1 rfl rfl rfl dn)<|dS (fun _ k_=>p_ldE ty3 h126 (rx_rd (aS (S109.atX (i:=0) rfl) k_) h124).1 rfl rfl dn)<|dS (fun _ k_=>p_mS rfl dn)<|dS (fun _ k_=>p_mI rfl dn)<|dS (fun _ k_=>p_ixE sc137 h130 (gr_sl rowN_len (aS (S109.atX (i:=1) rfl) k_)) rfl rfl rfl dn) ?_
      refine dS (fun _ k_=>p_ldE ty60 h130 (gr_sl rowN_len (aS (S109.atX (i:=1) rfl) k_)) rfl rfl dn)<|dS (fun _ k_=>p_mI rfl dn)<|dS (fun _ k_=>p_ixE sc60 h132 (rx_rd (aS (S109.atX (i:=0) rfl) k_) h130).1 rfl rfl rfl dn)<|dS (fun _ k_=>p_ldE ty3 h132 (rx_rd (aS (S109.atX (i:=0) rfl) k_) h130).1 rfl rfl dn)<|dS (fun _ k_=>p_add rfl rfl dn)<|dS (fun _ k_=>p_min rfl rfl dn) ?_
      refine dS (fun _ k_=>p_ixE sc60 h134 (rx_rd (aS (S109.atX (i:=0) rfl) k_) h114).1 rfl rfl rfl dn) ?_
      intro w135 k136; have S137:=S109.call k136
      refine p_stR sz3 S137 (j:=0) (m:=1) rfl rfl h114 h112 h134 rfl rfl fun l138 w140 h139 S141=>?_
      rw [← h139]
      exact wp_nil<|reg<|p_mI rfl<|p_add rfl rfl<|p_aI rfl<|wp_nil ⟨(z_7.1.set z_6.2.toNat (r111.set z_7.2.toNat (if (wr (r125+r131)) < r119 then (wr (r125+r131)) else r119)),wr (z_7.2+1)),(y_7.1,y_7.2.1,l138),_,rfl,⟨rfl,rfl,rfl,rfl,rfl,trivial⟩,H,S141⟩
     ·replace H:=condF c110 H
      refine c_exit<|reg<|p_mI rfl<|p_add rfl rfl<|p_aI rfl<|wp_nil ?_
      exact ⟨(z_7.1,wr (z_6.2+1)),(y_7.1,y_7.2.1,y_7.2.2),_,rfl,⟨rfl,rfl,rfl,rfl,trivial⟩,H,S109⟩
    ·replace H:=condF c105 H
     refine c_exit<|reg<|p_mI rfl<|p_add rfl rfl<|p_aI rfl<|wp_nil ?_
     exact ⟨(z_6.1,wr (z_5.2+1)),(y_6.1,y_6.2.1,y_6.2.2),_,rfl,⟨rfl,rfl,rfl,trivial⟩,H,S104⟩
   ·replace H:=condF c100 H
    refine c_exit<|c_seq<|c_seq<|reg<|p_aI rfl<|wp_nil<|c_block ?_
    refine c_lop (α:=Int) (β:=Unit) (ref05_most_l84 a0 z_5) (fun z_8 y_8=>[(1,P b4 0),(5,SL y_5.1 y_5.2.2.length y_5.2.1),(16,I z_8)]) (fun z_8 y_8 w_=>St w nF w_ [rx' 3 y_5.2.2 z_5.1,gr rowN 1 60 y_5.1 y_5.2.1 y_5.2.2,bl b4 [I a0.Trips,I a0.Room,SL A1 a0.Counts.length c2] 24] [rd eTallyCount 7 A1 c2 a0.Counts]) 0 () H ⟨rfl,rfl,rfl,trivial⟩ S99 ?_
    intro m142 z_8 y_8 e143 w144 H S145
    unfold ref05_most_l84 at H
    refine c_seq<|c_seq<|reg<|p_mI rfl<|p_fld fl24_0 rfl<|p_ld ty3 (S145.atX (i:=2) rfl) rfl rfl<|p_cmp rfl rfl rfl<|wp_nil ?_
    refine c_cond rfl (fun c146=>?_) (fun c146=>?_)
    ·replace H:=condT c146 H
     refine c_skip<|c_seq<|c_block<|c_seq<|reg<|p_mS rfl<|p_mI rfl ?_
     obtain ⟨r147,h148,H⟩:=bindS H
     obtain ⟨d149,h150⟩:=rx_at (S145.atX (i:=0) rfl) h148
     refine p_ixE sc137 h150 (gr_sl rowN_len (S145.atX (i:=1) rfl)) rfl rfl rfl<|p_ldE ty60 h150 (gr_sl rowN_len (S145.atX (i:=1) rfl)) rfl rfl<|p_mI rfl ?_
     obtain ⟨r151,h152,H⟩:=bindS H
     refine p_ixE sc60 h152 (rx_rd (S145.atX (i:=0) rfl) h150).1 rfl rfl rfl<|p_ldE ty3 h152 (rx_rd (S145.atX (i:=0) rfl) h150).1 rfl rfl<|p_cmp rfl rfl rfl<|wp_nil ?_
     refine c_cond rfl (fun c153=>?_) (fun c153=>?_)
     ·replace H:=condT c153 H
      refine c_seq<|reg<|p_mS rfl<|p_aS rfl<|p_aB rfl<|wp_nil ?_
      obtain rfl:=sJ H
      refine c_ret ?_; show bodyPostM (Fr none) 0 Tryz.prog Tryz.f107 _ .ret _ _
      refine ret_of (res2 rfl (rvT (rfl:_=SL y_5.1 y_5.2.2.length y_5.2.1)) (rvT (rfl:_=B false))) ?_
      exact ⟨_,rfl,y_5.1,y_5.2.1,y_5.2.2,rfl,S145.keep,⟨(gr_rd rowN_len (S145.atX (i:=1) rfl)),(New.rd (S145.newX (i:=1) rfl))⟩,⟨(rx_ri (S145.atX (i:=0) rfl)),(New.rx (S145.newX (i:=0) rfl))⟩,trivial⟩
     ·replace H:=condF c153 H
      refine c_skip<|reg<|p_mI rfl<|p_add rfl rfl<|p_aI rfl<|wp_nil ?_
      exact ⟨wr (z_8+1),(),_,rfl,⟨rfl,rfl,rfl,trivial⟩,H,S145⟩
    ·replace H:=condF c146 H
     refine c_exit<|c_seq<|reg<|p_mS rfl<|p_aS rfl<|p_aB rfl<|wp_nil ?_
     obtain rfl:=sJ H
     refine c_ret ?_; show bodyPostM (Fr none) 0 Tryz.prog Tryz.f107 _ .ret _ _
     refine ret_of (res2 rfl (rvT (rfl:_=SL y_5.1 y_5.2.2.length y_5.2.1)) (rvT (rfl:_=B true))) ?_
     exact ⟨_,rfl,y_5.1,y_5.2.1,y_5.2.2,rfl,S145.keep,⟨(gr_rd rowN_len (S145.atX (i:=1) rfl)),(New.rd (S145.newX (i:=1) rfl))⟩,⟨(rx_ri (S145.atX (i:=0) rfl)),(New.rx (S145.newX (i:=0) rfl))⟩,trivial⟩
def ref05_Right (a0:TallyBook):Option (Bool×Int):=
 (ref05_Check a0).bind fun r7=>
 bif (r7 != 0) then (some (false,r7))
 else ((ref05_most a0).bind fun r12=>
 some (r12.2,0))
set_option maxRecDepth 100000 in
theorem ref05_Right_ok {a0:TallyBook}{A1:Option Addr}{c2:Nat}{w:World}{r:Bool×Int} (H:ref05_Right a0=some r) (h3:(rd eTallyCount 7 A1 c2 a0.Counts).ok w):Calls Tryz.prog 84 #[AG [I a0.Trips,I a0.Room,SL A1 a0.Counts.length c2]] w (RetV w (TU [B r.1,I r.2])):=by
 unfold ref05_Right at H
 refine fn_of (n:=18) Tryz.func84 rfl rfl (lE rfl) ?_
 have S:=St.start w nF _ (cA h3 nM)
 refine c_seq<|reg<|p_boxA rfl S fun b4 w5 S6=>p_aB rfl<|p_aI rfl<|wp_nil<|c_seq<|c_seq<|reg<|p_ldA ty24 sz24 (S6.atX (i:=0) rfl) rfl rfl ?_
 obtain ⟨r7,h8,H⟩:=bindS H
 refine p_cv (ref05_Check_ok h8 (S6.atP (i:=0) rfl)) fu56 rfl S6 fun w9 S10=>p_aI rfl<|wp_nil<|c_seq<|reg<|p_mI rfl<|p_cmp rfl rfl rfl<|wp_nil ?_
 refine c_cond rfl (fun c11=>?_) (fun c11=>?_)
 ·replace H:=condT c11 H
  refine c_seq<|reg<|p_mI rfl<|p_aB rfl<|p_aI rfl<|wp_nil ?_
  obtain rfl:=sJ H
  refine c_ret ?_; show bodyPostM (Fr none) 0 Tryz.prog Tryz.f84 _ .ret _ _
  refine ret_of (res2 rfl (rvT (rfl:_=B false)) (rvT (rfl:_=I r7))) ?_
  exact ⟨_,rfl,rfl,S10.keep⟩
 ·replace H:=condF c11 H
  refine c_skip<|c_seq<|reg<|p_ldA ty24 sz24 (S10.atX (i:=0) rfl) rfl rfl ?_
  obtain ⟨r12,h13,H⟩:=bindS H
  refine p_cal (ref05_most_ok h13 (S10.atP (i:=0) rfl)) fu107 rfl ?_
  rintro _ w14 ⟨A16,c17,l18,rfl,k15,⟨o19,n20⟩,⟨o21,n22⟩,_⟩
  have S23:=S10.callN k15 [rd rowN 1 A16 c17 l18,ri rowI l18 r12.1] (cA ⟨o19,New.inL n20⟩ (cA ⟨o21,New.inL n22⟩ nM))
  refine p_mT rfl<|p_ext rfl rfl<|p_ext rfl rfl<|p_aS rfl<|p_aB rfl<|wp_nil<|c_seq<|reg<|p_mB rfl<|p_aB rfl<|p_aI rfl<|wp_nil ?_
  obtain rfl:=sJ H
  refine c_ret ?_; show bodyPostM (Fr none) 0 Tryz.prog Tryz.f84 _ .ret _ _
  refine ret_of (res2 rfl (rvT (rfl:_=B r12.2)) (rvT (rfl:_=I 0))) ?_
  exact ⟨_,rfl,rfl,S23.keep⟩
def B_Before_l2 (a1:List Int) (a0:List Int) (rec_z_1:Int→Option Bool) (z_1:Int):Option Bool:=
 bif decide (z_1 < (if (a1.length:Int) < (a0.length:Int) then (a1.length:Int) else (a0.length:Int))) then ((getI a0 z_1).bind fun r12=>
 (getI a1 z_1).bind fun r14=>
 bif (r12 != r14) then ((getI a0 z_1).bind fun r20=>
 (getI a1 z_1).bind fun r22=>
 some (decide (r20 < r22)))
 else (rec_z_1 (wr (z_1+1))))
 else (some (decide ((a0.length:Int) < (a1.length:Int))))
def B_Before (a0:List Int) (a1:List Int):Option Bool:=
 loopF (B_Before_l2 a1 a0) big 0
set_option maxRecDepth 100000 in
theorem B_Before_ok {a0:List Int}{a1:List Int}{A1:Option Addr}{c2:Nat}{A4:Option Addr}{c5:Nat}{w:World}{r:Bool} (H:B_Before a0 a1=some r) (h3:(rd intE 1 A1 c2 a0).ok w) (h6:(rd intE 1 A4 c5 a1).ok w):Calls Tryz.prog 108 #[SL A1 a0.length c2,SL A4 a1.length c5] w (RetV w (B r)):=by
 unfold B_Before at H
 refine fn_of (n:=38) Tryz.func108 rfl rfl (lE rfl) ?_
 have S:=St.start w nF _ (cA h3 (cA h6 nM))
 refine c_seq<|reg<|p_aB rfl<|wp_nil<|c_seq<|c_seq<|reg<|p_aI rfl<|wp_nil<|c_block ?_
 refine c_lop (α:=Int) (β:=Unit) (B_Before_l2 a1 a0) (fun z_1 y_1=>[(0,SL A1 a0.length c2),(1,SL A4 a1.length c5),(5,I z_1)]) (fun z_1 y_1 w_=>St w nF w_ [] [rd intE 1 A1 c2 a0,rd intE 1 A4 c5 a1]) 0 () H ⟨rfl,rfl,rfl,trivial⟩ S ?_
 intro m7 z_1 y_1 e8 w9 H S10
 unfold B_Before_l2 at H
 refine c_seq<|c_seq<|reg<|p_mI rfl<|p_mS rfl<|p_len rfl sc60<|p_mS rfl<|p_len rfl sc60<|p_min rfl rfl<|p_cmp rfl rfl rfl<|wp_nil ?_
 refine c_cond rfl (fun c11=>?_) (fun c11=>?_)
 ·replace H:=condT c11 H
  refine c_skip<|c_seq<|c_block<|c_seq ?_
  obtain ⟨r12,h13,H⟩:=bindS H
  obtain ⟨r14,h15,H⟩:=bindS H
  refine reg_q mixed 9 (by kernel_rfl) ?_
  refine dS (fun _ k_=>p_mS rfl dn)<|dS (fun _ k_=>p_mI rfl dn)<|dS (fun _ k_=>p_ixE sc60 h13 (aS (S10.atP (i:=0) rfl) k_).1 rfl rfl rfl dn)<|dS (fun _ k_=>p_ldE ty3 h13 (aS (S10.atP (i:=0) rfl) k_).1 rfl rfl dn)<|dS (fun _ k_=>p_mS rfl dn)<|dS (fun _ k_=>p_mI rfl dn)<|dS (fun _ k_=>p_ixE sc60 h15 (aS (S10.atP (i:=1) rfl) k_).1 rfl rfl rfl dn) ?_
  refine dS (fun _ k_=>p_ldE ty3 h15 (aS (S10.atP (i:=1) rfl) k_).1 rfl rfl dn)<|dS (fun _ k_=>p_cmp rfl rfl rfl dn) ?_
  intro w16 k17; have S18:=S10.call k17
  refine wp_nil ?_
  refine c_cond rfl (fun c19=>?_) (fun c19=>?_)
  ·replace H:=condT c19 H
   refine c_seq ?_
   obtain ⟨r20,h21,H⟩:=bindS H
   obtain ⟨r22,h23,H⟩:=bindS H
   refine reg_q mixed 10 (by kernel_rfl) ?_
   refine dS (fun _ k_=>p_mS rfl dn)<|dS (fun _ k_=>p_mI rfl dn)<|dS (fun _ k_=>p_ixE sc60 h21 (aS (S18.atP (i:=0) rfl) k_).1 rfl rfl rfl dn)<|dS (fun _ k_=>p_ldE ty3 h21 (aS (S18.atP (i:=0) rfl) k_).1 rfl rfl dn)<|dS (fun _ k_=>p_mS rfl dn)<|dS (fun _ k_=>p_mI rfl dn)<|dS (fun _ k_=>p_ixE sc60 h23 (aS (S18.atP (i:=1) rfl) k_).1 rfl rfl rfl dn) ?_
   refine dS (fun _ k_=>p_ldE ty3 h23 (aS (S18.atP (i:=1) rfl) k_).1 rfl rfl dn)<|dS (fun _ k_=>p_cmp rfl rfl rfl dn)<|dS (fun _ k_=>p_aB rfl dn) ?_
   intro w24 k25; have S26:=S18.call k25
   refine wp_nil ?_
   obtain rfl:=sJ H
   exact c_ret (rT Tryz.f108 S26.keep rfl rfl)
  ·replace H:=condF c19 H
   refine c_skip<|reg<|p_mI rfl<|p_add rfl rfl<|p_aI rfl<|wp_nil ?_
   exact ⟨wr (z_1+1),(),_,rfl,⟨rfl,rfl,rfl,trivial⟩,H,S18⟩
 ·replace H:=condF c11 H
  refine c_exit<|c_seq<|reg<|p_mS rfl<|p_len rfl sc60<|p_mS rfl<|p_len rfl sc60<|p_cmp rfl rfl rfl<|p_aB rfl<|wp_nil ?_
  obtain rfl:=sJ H
  exact c_ret (rT Tryz.f108 S10.keep rfl rfl)
def B_Better (a0:List Int) (a1:List Int):Option Bool:=
 bif decide ((a0.length:Int) < (a1.length:Int)) then (some true)
 else (bif ((a0.length:Int)==(a1.length:Int)) then ((B_Before a0 a1).bind fun r9=>
 some r9)
 else (some false))
set_option maxRecDepth 100000 in
theorem B_Better_ok {a0:List Int}{a1:List Int}{A1:Option Addr}{c2:Nat}{A4:Option Addr}{c5:Nat}{w:World}{r:Bool} (H:B_Better a0 a1=some r) (h3:(rd intE 1 A1 c2 a0).ok w) (h6:(rd intE 1 A4 c5 a1).ok w):Calls Tryz.prog 85 #[SL A1 a0.length c2,SL A4 a1.length c5] w (RetV w (B r)):=by
 unfold B_Better at H
 refine fn_of (n:=22) Tryz.func85 rfl rfl (lE rfl) ?_
 have S:=St.start w nF _ (cA h3 (cA h6 nM))
 refine c_seq<|reg<|p_aB rfl<|wp_nil<|c_seq<|reg<|p_mS rfl<|p_len rfl sc60<|p_mS rfl<|p_len rfl sc60<|p_cmp rfl rfl rfl<|p_mB rfl ?_
 rcases bE (decide ((a0.length:Int) < (a1.length:Int))) with c7 | c7
 ·replace H:=condT c7 H
  refine eB c7<|gF rfl rfl<|gF rfl rfl<|gF rfl rfl<|gF rfl rfl<|gF rfl rfl<|gF rfl rfl ?_
  refine o_guardU rfl rfl ?_
  refine o_guardU rfl rfl ?_
  refine o_guardU rfl rfl ?_
  refine gF rfl rfl<|p_pkT rfl (rfl:_=B true)<|p_aB rfl<|wp_nil ?_
  obtain rfl:=sJ H
  exact c_ret (rT Tryz.f85 S.keep rfl rfl)
 ·replace H:=condF c7 H
  refine eB c7 ?_
  refine gT rfl rfl (p_mS rfl ?_)
  refine gT rfl rfl (p_len rfl sc60 ?_)
  refine gT rfl rfl (p_mS rfl ?_)
  refine gT rfl rfl (p_len rfl sc60 ?_)
  refine gT rfl rfl (p_cmp rfl rfl rfl ?_)
  refine gT rfl rfl (p_mB rfl ?_)
  rcases bE (((a0.length:Int)==(a1.length:Int))) with c8 | c8
  ·replace H:=condT c8 H
   refine eB c8 ?_
   refine gT rfl rfl (p_mS rfl ?_)
   refine gT rfl rfl (p_mS rfl ?_)
   obtain ⟨r9,h10,H⟩:=bindS H
   refine gT rfl rfl (p_cv (B_Before_ok h10 (S.atP (i:=0) rfl) (S.atP (i:=1) rfl)) fu108 rfl S fun w11 S12=>?_)
   refine gT rfl rfl (p_pkT rfl (rfl:_=B r9) ?_)
   refine p_pkF rfl (rfl:_=B r9)<|p_aB rfl<|wp_nil ?_
   obtain rfl:=sJ H
   exact c_ret (rT Tryz.f85 S12.keep rfl rfl)
  ·replace H:=condF c8 H
   refine eB c8<|gF rfl rfl<|gF rfl rfl<|gF rfl rfl ?_
   refine gT rfl rfl (p_pkF rfl (rfl:_=B false) ?_)
   refine p_pkF rfl (rfl:_=B false)<|p_aB rfl<|wp_nil ?_
   obtain rfl:=sJ H
   exact c_ret (rT Tryz.f85 S.keep rfl rfl)
def ref10_Without_l4 (a0:TicketBook) (a1:Int) (z_1:Int×(List TicketShow)) (rec_z_2:(Int×(List TicketBox))→Option TicketBook) (z_2:Int×(List TicketBox)):Option TicketBook:=
 bif decide (z_2.1 < (a0.Boxes.length:Int)) then ((B_Member a1 (wr ((a0.Shows.length:Int)+z_2.1))).bind fun r67=>
 bif !r67 then ((getI a0.Boxes z_2.1).bind fun r72=>
 need (fitsL (z_2.2.length+([r72]:List TicketBox).length) 32)<|
 rec_z_2 (wr (z_2.1+1),z_2.2++([r72]:List TicketBox)))
 else (rec_z_2 (wr (z_2.1+1),z_2.2)))
 else (some (TicketBook.mk a0.Tally a0.Fare a0.Tickets z_1.2 z_2.2))
def ref10_Without_l5 (a0:TicketBook) (a1:Int) (rec_z_1:(Int×(List TicketShow))→Option TicketBook) (z_1:Int×(List TicketShow)):Option TicketBook:=
 bif decide (z_1.1 < (a0.Shows.length:Int)) then ((B_Member a1 z_1.1).bind fun r34=>
 bif !r34 then ((getI a0.Shows z_1.1).bind fun r39=>
 need (fitsL (z_1.2.length+([r39]:List TicketShow).length) 24)<|
 rec_z_1 (wr (z_1.1+1),z_1.2++([r39]:List TicketShow)))
 else (rec_z_1 (wr (z_1.1+1),z_1.2)))
 else (loopF (ref10_Without_l4 a0 a1 z_1) big (0,([]:List TicketBox)))
def ref10_Without (a0:TicketBook) (a1:Int):Option TicketBook:=
 loopF (ref10_Without_l5 a0 a1) big (0,([]:List TicketShow))
set_option maxRecDepth 100000 in
theorem ref10_Without_ok {a0:TicketBook}{a1:Int}{A1:Option Addr}{c2:Nat}{A4:Option Addr}{c5:Nat}{A7:Option Addr}{c8:Nat}{A10:Option Addr}{c11:Nat}{w:World}{r:TicketBook} (H:ref10_Without a0 a1=some r) (h3:(rd eTallyCount 7 A1 c2 a0.Tally.Counts).ok w) (h6:(rd eTicketSeason 2 A4 c5 a0.Tickets).ok w) (h9:(rd eTicketShow 3 A7 c8 a0.Shows).ok w) (h12:(rd eTicketBox 4 A10 c11 a0.Boxes).ok w):Calls Tryz.prog 86 #[AG (vB a0 A1 c2 A4 c5 A7 c8 A10 c11),I a1] w fun en w_=>∃ u_,en=.returned u_∧∃ A_1:Option Addr,∃ c_2:Nat,∃ A_3:Option Addr,∃ c_4:Nat,u_=AG [I r.Tally.Trips,I r.Tally.Room,SL A1 a0.Tally.Counts.length c2,I r.Fare,SL A4 a0.Tickets.length c5,SL A_1 r.Shows.length c_2,SL A_3 r.Boxes.length c_4]∧Keep0 w w_∧((rd eTicketShow 3 A_1 c_2 r.Shows).ok w_∧New w.heap.size (rd eTicketShow 3 A_1 c_2 r.Shows))∧((rd eTicketBox 4 A_3 c_4 r.Boxes).ok w_∧New w.heap.size (rd eTicketBox 4 A_3 c_4 r.Boxes))∧True:=by
 unfold ref10_Without at H
 refine fn_of (n:=58) Tryz.func86 rfl rfl (lE rfl) ?_
 have S:=St.start w nF _ (cA h3 (cA h6 (cA h9 (cA h12 nM))))
 refine c_seq<|reg<|p_boxA rfl S fun b13 w14 S15=>p_allA in29 S15 fun b16 w17 S18=>wp_nil<|c_seq<|reg<|p_ldA ty29 sz29 (S18.atX (i:=1) rfl) rfl rfl<|p_allA in29 S18 fun b19 w20 S21=>?_
 refine p_stP (pre:=[]) (old:=[I 0,I 0,SL none 0 0,I 0,SL none 0 0,SL none 0 0,SL none 0 0]) (post:=[]) (vs:=(vB a0 A1 c2 A4 c5 A7 c8 A10 c11)) sz29 S21 (i:=0) rfl rfl rfl rfl (rfl:_=AG (vB a0 A1 c2 A4 c5 A7 c8 A10 c11)) rfl rfl rfl rfl fun w22 S23=>?_
 refine wp_nil<|c_seq<|reg<|p_fld fl29_3 rfl<|p_stP (pre:=[I a0.Tally.Trips,I a0.Tally.Room,SL A1 a0.Tally.Counts.length c2,I a0.Fare,SL A4 a0.Tickets.length c5]) (old:=[SL A7 a0.Shows.length c8]) (post:=[SL A10 a0.Boxes.length c11]) (vs:=[SL none 0 0]) sz26 S23 (i:=0) rfl rfl rfl rfl (rfl:_=SL none 0 0) rfl rfl rfl rfl fun w24 S25=>p_fld fl29_4 rfl ?_
 refine p_stP (pre:=[I a0.Tally.Trips,I a0.Tally.Room,SL A1 a0.Tally.Counts.length c2,I a0.Fare,SL A4 a0.Tickets.length c5,SL none 0 0]) (old:=[SL A10 a0.Boxes.length c11]) (post:=[]) (vs:=[SL none 0 0]) sz27 S25 (i:=0) rfl rfl rfl rfl (rfl:_=SL none 0 0) rfl rfl rfl rfl fun w26 S27=>wp_nil<|c_seq<|c_seq<|reg<|p_aI rfl<|wp_nil<|c_block ?_
 have S28:=S27.nilRow eTicketShow 3 86
 refine c_lop (α:=Int×(List TicketShow)) (β:=(Option Addr)×Nat) (ref10_Without_l5 a0 a1) (fun z_1 y_1=>[(1,I a1),(2,P b13 0),(4,P b16 0),(5,P b19 0),(6,I z_1.1)]) (fun z_1 y_1 w_=>St w nF w_ [gr eTicketShow 3 86 y_1.1 y_1.2 z_1.2,bl b19 [I a0.Tally.Trips,I a0.Tally.Room,SL A1 a0.Tally.Counts.length c2,I a0.Fare,SL A4 a0.Tickets.length c5,SL y_1.1 z_1.2.length y_1.2,SL none 0 0] 29,bl b16 [I 0,I 0,SL none 0 0,I 0,SL none 0 0,SL none 0 0,SL none 0 0] 29,bl b13 (vB a0 A1 c2 A4 c5 A7 c8 A10 c11) 29] [rd eTallyCount 7 A1 c2 a0.Tally.Counts,rd eTicketSeason 2 A4 c5 a0.Tickets,rd eTicketShow 3 A7 c8 a0.Shows,rd eTicketBox 4 A10 c11 a0.Boxes]) (0,([]:List TicketShow)) (none,0) H ⟨rfl,rfl,rfl,rfl,rfl,trivial⟩ S28 ?_
 intro m29 z_1 y_1 e30 w31 H S32
 unfold ref10_Without_l5 at H
 refine c_seq<|c_seq<|reg<|p_mI rfl<|p_fld fl29_3 rfl<|p_ld ty26 (S32.atX (i:=3) rfl) rfl rfl<|p_len rfl sc26<|p_cmp rfl rfl rfl<|wp_nil ?_
 refine c_cond rfl (fun c33=>?_) (fun c33=>?_)
 ·replace H:=condT c33 H
  refine c_skip<|c_seq<|c_block<|c_seq<|reg<|p_mI rfl<|p_mI rfl ?_
  obtain ⟨r34,h35,H⟩:=bindS H
  refine p_cv (B_Member_ok h35) fu96 rfl S32 fun w36 S37=>p_not rfl<|wp_nil ?_
  refine c_cond rfl (fun c38=>?_) (fun c38=>?_)
  ·replace H:=condT c38 H
   obtain ⟨r39,h40,H⟩:=bindS H
   refine reg_c mixed 8 [7] (by kernel_rfl) ?_
   refine kS rfl (fun _ k_=>p_fld fl29_3 rfl dn)<|kS rfl (fun _ k_=>p_ld ty26 (aS (S37.atX (i:=1) rfl) k_) rfl rfl dn)<|kS rfl (fun _ k_=>p_fld fl29_3 rfl dn)<|kS rfl (fun _ k_=>p_ld ty26 (aS (S37.atX (i:=3) rfl) k_) rfl rfl dn)<|kS rfl (fun _ k_=>p_mI rfl dn)<|kS rfl (fun _ k_=>p_ixE sc26 h40 (aS (S37.atP (i:=2) rfl) k_).1 rfl rfl rfl dn) ?_
   refine kS rfl (fun _ k_=>p_ldEA ty86 sz86 rfl h40 (aS (S37.atP (i:=2) rfl) k_).1 rfl dn)<|kC rfl ?_
   intro w41 k42; have S43:=S37.call k42
   have S49:=S43.base
   refine p_bsl (enc:=eTicketShow) (l:=([r39]:List TicketShow)) (fun x=>AG (eTicketShow x)) (fun _=>rfl) sc26 in86 eTicketShow_len rfl (by decide) (by decide) zr86_1 S49 rfl fun A44 c45 w46 S47=>?_
   refine cN S47.keep fun w50 k51=>?_
   have S52:=(S43.fromBase S47).call k51
   obtain ⟨h57,H⟩:=needS H
   refine p_app (enc:=eTicketShow) sc26 in86 rfl eTicketShow_len eTicketShow_one (by decide) S52 (k:=1) rfl (gr_sl eTicketShow_len (S52.atX (i:=0) rfl)) h57 (by simp) rfl rfl fun A55 c56 w53 S54=>p_fld fl29_3 rfl ?_
   refine p_stP (pre:=[I a0.Tally.Trips,I a0.Tally.Room,SL A1 a0.Tally.Counts.length c2,I a0.Fare,SL A4 a0.Tickets.length c5]) (old:=[SL y_1.1 z_1.2.length y_1.2]) (post:=[SL none 0 0]) (vs:=[SL A55 (z_1.2++([r39]:List TicketShow)).length c56]) sz26 S54 (i:=2) rfl rfl rfl rfl (rfl:_=SL A55 (z_1.2++([r39]:List TicketShow)).length c56) rfl rfl rfl rfl fun w58 S59=>wp_nil<|reg<|p_mI rfl ?_
   refine p_add rfl rfl<|p_aI rfl<|wp_nil ?_
   have S60:=S59.pk [1,2,3,4] (by decide) [0,1,2,3] rfl rfl
   exact ⟨(wr (z_1.1+1),z_1.2++([r39]:List TicketShow)),(A55,c56),_,rfl,⟨rfl,rfl,rfl,rfl,rfl,trivial⟩,H,S60⟩
  ·replace H:=condF c38 H
   refine c_skip<|reg<|p_mI rfl<|p_add rfl rfl<|p_aI rfl<|wp_nil ?_
   exact ⟨(wr (z_1.1+1),z_1.2),(y_1.1,y_1.2),_,rfl,⟨rfl,rfl,rfl,rfl,rfl,trivial⟩,H,S37⟩
 ·replace H:=condF c33 H
  refine c_exit<|c_seq<|c_seq<|reg<|p_aI rfl<|wp_nil<|c_block ?_
  have S61:=S32.nilRow eTicketBox 4 39
  refine c_lop (α:=Int×(List TicketBox)) (β:=(Option Addr)×Nat) (ref10_Without_l4 a0 a1 z_1) (fun z_2 y_2=>[(1,I a1),(2,P b13 0),(4,P b16 0),(5,P b19 0),(7,I z_2.1)]) (fun z_2 y_2 w_=>St w nF w_ [gr eTicketBox 4 39 y_2.1 y_2.2 z_2.2,gr eTicketShow 3 86 y_1.1 y_1.2 z_1.2,bl b19 [I a0.Tally.Trips,I a0.Tally.Room,SL A1 a0.Tally.Counts.length c2,I a0.Fare,SL A4 a0.Tickets.length c5,SL y_1.1 z_1.2.length y_1.2,SL y_2.1 z_2.2.length y_2.2] 29,bl b16 [I 0,I 0,SL none 0 0,I 0,SL none 0 0,SL none 0 0,SL none 0 0] 29,bl b13 (vB a0 A1 c2 A4 c5 A7 c8 A10 c11) 29] [rd eTallyCount 7 A1 c2 a0.Tally.Counts,rd eTicketSeason 2 A4 c5 a0.Tickets,rd eTicketShow 3 A7 c8 a0.Shows,rd eTicketBox 4 A10 c11 a0.Boxes]) (0,([]:List TicketBox)) (none,0) H ⟨rfl,rfl,rfl,rfl,rfl,trivial⟩ S61 ?_
  intro m62 z_2 y_2 e63 w64 H S65
  unfold ref10_Without_l4 at H
  refine c_seq<|c_seq<|reg<|p_mI rfl<|p_fld fl29_4 rfl<|p_ld ty27 (S65.atX (i:=4) rfl) rfl rfl<|p_len rfl sc27<|p_cmp rfl rfl rfl<|wp_nil ?_
  refine c_cond rfl (fun c66=>?_) (fun c66=>?_)
  ·replace H:=condT c66 H
   refine c_skip<|c_seq<|c_block<|c_seq<|reg<|p_mI rfl<|p_fld fl29_3 rfl<|p_ld ty26 (S65.atX (i:=4) rfl) rfl rfl<|p_len rfl sc26<|p_mI rfl<|p_add rfl rfl ?_
   obtain ⟨r67,h68,H⟩:=bindS H
   refine p_cv (B_Member_ok h68) fu96 rfl S65 fun w69 S70=>p_not rfl<|wp_nil ?_
   refine c_cond rfl (fun c71=>?_) (fun c71=>?_)
   ·replace H:=condT c71 H
    obtain ⟨r72,h73,H⟩:=bindS H
    refine reg_c mixed 8 [7] (by kernel_rfl) ?_
    refine kS rfl (fun _ k_=>p_fld fl29_4 rfl dn)<|kS rfl (fun _ k_=>p_ld ty27 (aS (S70.atX (i:=2) rfl) k_) rfl rfl dn)<|kS rfl (fun _ k_=>p_fld fl29_4 rfl dn)<|kS rfl (fun _ k_=>p_ld ty27 (aS (S70.atX (i:=4) rfl) k_) rfl rfl dn)<|kS rfl (fun _ k_=>p_mI rfl dn)<|kS rfl (fun _ k_=>p_ixE sc27 h73 (aS (S70.atP (i:=3) rfl) k_).1 rfl rfl rfl dn) ?_
    refine kS rfl (fun _ k_=>p_ldEA ty39 sz39 rfl h73 (aS (S70.atP (i:=3) rfl) k_).1 rfl dn)<|kC rfl ?_
    intro w74 k75; have S76:=S70.call k75
    have S82:=S76.base
    refine p_bsl (enc:=eTicketBox) (l:=([r72]:List TicketBox)) (fun x=>AG (eTicketBox x)) (fun _=>rfl) sc27 in39 eTicketBox_len rfl (by decide) (by decide) zr39_1 S82 rfl fun A77 c78 w79 S80=>?_
    refine cN S80.keep fun w83 k84=>?_
    have S85:=(S76.fromBase S80).call k84
    obtain ⟨h90,H⟩:=needS H
    refine p_app (enc:=eTicketBox) sc27 in39 rfl eTicketBox_len eTicketBox_one (by decide) S85 (k:=1) rfl (gr_sl eTicketBox_len (S85.atX (i:=0) rfl)) h90 (by simp) rfl rfl fun A88 c89 w86 S87=>p_fld fl29_4 rfl ?_
    refine p_stP (pre:=[I a0.Tally.Trips,I a0.Tally.Room,SL A1 a0.Tally.Counts.length c2,I a0.Fare,SL A4 a0.Tickets.length c5,SL y_1.1 z_1.2.length y_1.2]) (old:=[SL y_2.1 z_2.2.length y_2.2]) (post:=[]) (vs:=[SL A88 (z_2.2++([r72]:List TicketBox)).length c89]) sz27 S87 (i:=3) rfl rfl rfl rfl (rfl:_=SL A88 (z_2.2++([r72]:List TicketBox)).length c89) rfl rfl rfl rfl fun w91 S92=>?_
    refine wp_nil<|reg<|p_mI rfl<|p_add rfl rfl<|p_aI rfl<|wp_nil ?_
    have S93:=S92.pk [1,2,3,4,5] (by decide) [0,1,2,3] rfl rfl
    exact ⟨(wr (z_2.1+1),z_2.2++([r72]:List TicketBox)),(A88,c89),_,rfl,⟨rfl,rfl,rfl,rfl,rfl,trivial⟩,H,S93⟩
   ·replace H:=condF c71 H
    refine c_skip<|reg<|p_mI rfl<|p_add rfl rfl<|p_aI rfl<|wp_nil ?_
    exact ⟨(wr (z_2.1+1),z_2.2),(y_2.1,y_2.2),_,rfl,⟨rfl,rfl,rfl,rfl,rfl,trivial⟩,H,S70⟩
  ·replace H:=condF c66 H
   refine c_exit<|c_seq<|reg<|p_ldA ty29 sz29 (S65.atX (i:=2) rfl) rfl rfl ?_
   refine p_stP (pre:=[]) (old:=[I 0,I 0,SL none 0 0,I 0,SL none 0 0,SL none 0 0,SL none 0 0]) (post:=[]) (vs:=[I a0.Tally.Trips,I a0.Tally.Room,SL A1 a0.Tally.Counts.length c2,I a0.Fare,SL A4 a0.Tickets.length c5,SL y_1.1 z_1.2.length y_1.2,SL y_2.1 z_2.2.length y_2.2]) sz29 S65 (i:=3) rfl rfl rfl rfl (rfl:_=AG [I a0.Tally.Trips,I a0.Tally.Room,SL A1 a0.Tally.Counts.length c2,I a0.Fare,SL A4 a0.Tickets.length c5,SL y_1.1 z_1.2.length y_1.2,SL y_2.1 z_2.2.length y_2.2]) rfl rfl rfl rfl fun w94 S95=>?_
   refine wp_nil ?_
   obtain rfl:=sJ H
   refine c_ret ?_; show bodyPostM (Fr none) 0 Tryz.prog Tryz.f86 _ .ret _ _
   refine ret_of (res1 rfl (rvA rfl ty29 sz29 (S95.atX (i:=3) rfl) rfl)) ?_
   exact ⟨_,rfl,y_1.1,y_1.2,y_2.1,y_2.2,rfl,S95.keep,⟨(gr_rd eTicketShow_len (S95.atX (i:=1) rfl)),(New.rd (S95.newX (i:=1) rfl))⟩,⟨(gr_rd eTicketBox_len (S95.atX (i:=0) rfl)),(New.rd (S95.newX (i:=0) rfl))⟩,trivial⟩
def ref10_Wrong_l2 (a0:TicketBook) (rec_z_1:((List Int)×Int)→Option ((List Int)×Int)) (z_1:(List Int)×Int):Option ((List Int)×Int):=
 need (decide (0≤(wr ((a0.Shows.length:Int)+(a0.Boxes.length:Int)))))<|
 bif decide (z_1.2 < (shlI 1 (wr ((a0.Shows.length:Int)+(a0.Boxes.length:Int))))) then ((B_Members z_1.2 (wr ((a0.Shows.length:Int)+(a0.Boxes.length:Int)))).bind fun r43=>
 (B_Better r43 z_1.1).bind fun r53=>
 bif r53 then ((ref10_Without a0 z_1.2).bind fun r58=>
 (ref10_truths (TicketBook.mk (TallyBook.mk r58.Tally.Trips r58.Tally.Room a0.Tally.Counts) r58.Fare a0.Tickets r58.Shows r58.Boxes)).bind fun r71=>
 bif decide ((r71.length:Int) > 0) then (rec_z_1 (r43,wr (z_1.2+1)))
 else (rec_z_1 (z_1.1,wr (z_1.2+1))))
 else (rec_z_1 (z_1.1,wr (z_1.2+1))))
 else (some (z_1.1,0))
def ref10_Wrong (a0:TicketBook):Option ((List Int)×Int):=
 (ref10_Check a0).bind fun r16=>
 bif (r16 != 0) then (some (([]:List _),r16))
 else ((ref05_Right a0.Tally).bind fun r21=>
 bif !r21.1 then (some (([]:List _),102))
 else (need (decide (0≤(wr ((a0.Shows.length:Int)+(a0.Boxes.length:Int)))))<|
 (B_Members (wr ((shlI 1 (wr ((a0.Shows.length:Int)+(a0.Boxes.length:Int)))) - 1)) (wr ((a0.Shows.length:Int)+(a0.Boxes.length:Int)))).bind fun r27=>
 loopF (ref10_Wrong_l2 a0) big (r27,0)))
set_option maxRecDepth 100000 in
theorem ref10_Wrong_ok {a0:TicketBook}{A1:Option Addr}{c2:Nat}{A4:Option Addr}{c5:Nat}{A7:Option Addr}{c8:Nat}{A10:Option Addr}{c11:Nat}{w:World}{r:(List Int)×Int} (H:ref10_Wrong a0=some r) (h3:(rd eTallyCount 7 A1 c2 a0.Tally.Counts).ok w) (h6:(rd eTicketSeason 2 A4 c5 a0.Tickets).ok w) (h9:(rd eTicketShow 3 A7 c8 a0.Shows).ok w) (h12:(rd eTicketBox 4 A10 c11 a0.Boxes).ok w):Calls Tryz.prog 45 #[AG (vB a0 A1 c2 A4 c5 A7 c8 A10 c11)] w fun en w_=>∃ u_,en=.returned u_∧∃ A_1:Option Addr,∃ c_2:Nat,u_=TU [SL A_1 r.1.length c_2,I r.2]∧Keep0 w w_∧((gr intE 1 3 A_1 c_2 r.1).ok w_∧New w.heap.size (gr intE 1 3 A_1 c_2 r.1))∧True:=by
 unfold ref10_Wrong at H
 refine fn_of (n:=58) Tryz.func45 rfl rfl (lE rfl) ?_
 have S:=St.start w nF _ (cA h3 (cA h6 (cA h9 (cA h12 nM))))
 refine c_seq<|reg<|p_boxA rfl S fun b13 w14 S15=>p_aS rfl<|p_aI rfl<|wp_nil<|c_seq<|c_seq<|reg<|p_ldA ty29 sz29 (S15.atX (i:=0) rfl) rfl rfl ?_
 obtain ⟨r16,h17,H⟩:=bindS H
 refine p_cv (ref10_Check_ok h17 (S15.atP (i:=0) rfl) (S15.atP (i:=1) rfl) (S15.atP (i:=2) rfl) (S15.atP (i:=3) rfl)) fu19 rfl S15 fun w18 S19=>p_aI rfl<|wp_nil<|c_seq<|reg<|p_mI rfl<|p_cmp rfl rfl rfl<|wp_nil ?_
 refine c_cond rfl (fun c20=>?_) (fun c20=>?_)
 ·replace H:=condT c20 H
  refine c_seq<|reg<|p_mI rfl<|p_aS rfl<|p_aI rfl<|wp_nil ?_
  obtain rfl:=sJ H
  refine c_ret ?_; show bodyPostM (Fr none) 0 Tryz.prog Tryz.f45 _ .ret _ _
  refine ret_of (res2 rfl (rvT (rfl:_=SL none 0 0)) (rvT (rfl:_=I r16))) ?_
  exact ⟨_,rfl,none,0,rfl,S19.keep,⟨gr_nil,New.grNil⟩,trivial⟩
 ·replace H:=condF c20 H
  refine c_skip<|c_seq<|c_seq<|reg<|p_fld fl29_0 rfl<|p_ldP (vs:=[I a0.Tally.Trips,I a0.Tally.Room,SL A1 a0.Tally.Counts.length c2]) ty24 sz24 (S19.atX (i:=0) rfl) rfl rfl rfl ?_
  obtain ⟨r21,h22,H⟩:=bindS H
  refine p_cv (ref05_Right_ok h22 (S19.atP (i:=0) rfl)) fu84 rfl S19 fun w23 S24=>p_mT rfl<|p_ext rfl rfl<|p_ext rfl rfl<|p_aB rfl<|p_aI rfl<|wp_nil<|c_seq<|reg<|p_mB rfl<|p_not rfl<|wp_nil ?_
  refine c_cond rfl (fun c25=>?_) (fun c25=>?_)
  ·replace H:=condT c25 H
   refine c_seq<|reg<|p_aS rfl<|p_aI rfl<|wp_nil ?_
   obtain rfl:=sJ H
   refine c_ret ?_; show bodyPostM (Fr none) 0 Tryz.prog Tryz.f45 _ .ret _ _
   refine ret_of (res2 rfl (rvT (rfl:_=SL none 0 0)) (rvT (rfl:_=I 102))) ?_
   exact ⟨_,rfl,none,0,rfl,S24.keep,⟨gr_nil,New.grNil⟩,trivial⟩
  ·replace H:=condF c25 H
   refine c_skip<|c_seq<|reg<|p_fld fl29_3 rfl<|p_ld ty26 (S24.atX (i:=0) rfl) rfl rfl<|p_len rfl sc26<|p_fld fl29_4 rfl<|p_ld ty27 (S24.atX (i:=0) rfl) rfl rfl<|p_len rfl sc27<|p_add rfl rfl<|p_aI rfl<|wp_nil<|c_seq<|reg<|p_mI rfl ?_
   obtain ⟨h26,H⟩:=needS H
   refine p_shl h26 rfl rfl<|p_sub rfl rfl<|p_mI rfl ?_
   obtain ⟨r27,h28,H⟩:=bindS H
   refine p_cal (B_Members_ok h28) fu81 rfl ?_
   rintro _ w29 ⟨A31,c32,rfl,k30,⟨o33,n34⟩,_⟩
   have S36:=S24.addNew k30 o33 n34
   refine p_aS rfl<|wp_nil<|c_seq<|c_seq<|reg<|p_aI rfl<|wp_nil<|c_block ?_
   refine c_lop (α:=(List Int)×Int) (β:=(Option Addr)×Nat) (ref10_Wrong_l2 a0) (fun z_1 y_1=>[(1,P b13 0),(7,I (wr ((a0.Shows.length:Int)+(a0.Boxes.length:Int)))),(8,SL y_1.1 z_1.1.length y_1.2),(9,I z_1.2)]) (fun z_1 y_1 w_=>St w nF w_ [gr intE 1 3 y_1.1 y_1.2 z_1.1,bl b13 (vB a0 A1 c2 A4 c5 A7 c8 A10 c11) 29] [rd eTallyCount 7 A1 c2 a0.Tally.Counts,rd eTicketSeason 2 A4 c5 a0.Tickets,rd eTicketShow 3 A7 c8 a0.Shows,rd eTicketBox 4 A10 c11 a0.Boxes]) (r27,0) (A31,c32) H ⟨rfl,rfl,rfl,rfl,trivial⟩ S36 ?_
   intro m37 z_1 y_1 e38 w39 H S40
   unfold ref10_Wrong_l2 at H
   refine c_seq<|c_seq<|reg<|p_mI rfl<|p_mI rfl ?_
   obtain ⟨h41,H⟩:=needS H
   refine p_shl h41 rfl rfl<|p_cmp rfl rfl rfl<|wp_nil ?_
   refine c_cond rfl (fun c42=>?_) (fun c42=>?_)
   ·replace H:=condT c42 H
    refine c_skip<|c_seq<|c_block<|c_seq<|reg<|p_mI rfl<|p_mI rfl ?_
    obtain ⟨r43,h44,H⟩:=bindS H
    refine p_cal (B_Members_ok h44) fu81 rfl ?_
    rintro _ w45 ⟨A47,c48,rfl,k46,⟨o49,n50⟩,_⟩
    have S52:=S40.addNew k46 o49 n50
    refine p_aS rfl<|wp_nil<|c_seq<|reg<|p_mS rfl<|p_mS rfl ?_
    obtain ⟨r53,h54,H⟩:=bindS H
    refine p_cv (B_Better_ok h54 (gr_rd intE_len (S52.atX (i:=0) rfl)) (gr_rd intE_len (S52.atX (i:=1) rfl))) fu85 rfl S52 fun w55 S56=>p_mB rfl ?_
    rcases bE (r53) with c57 | c57
    ·replace H:=condT c57 H
     refine eB c57 ?_
     refine gT rfl rfl (p_ldA ty29 sz29 (S56.atX (i:=2) rfl) rfl rfl ?_)
     refine gT rfl rfl (p_mI rfl ?_)
     refine gT rfl rfl ?_
     obtain ⟨r58,h59,H⟩:=bindS H
     refine p_cal (ref10_Without_ok h59 (S56.atP (i:=0) rfl) (S56.atP (i:=1) rfl) (S56.atP (i:=2) rfl) (S56.atP (i:=3) rfl)) fu86 rfl ?_
     rintro _ w60 ⟨A62,c63,A64,c65,rfl,k61,⟨o66,n67⟩,⟨o68,n69⟩,_⟩
     have S70:=S56.callN k61 [rd eTicketShow 3 A62 c63 r58.Shows,rd eTicketBox 4 A64 c65 r58.Boxes] (cA ⟨o66,New.inL n67⟩ (cA ⟨o68,New.inL n69⟩ nM))
     refine gT rfl rfl ?_
     obtain ⟨r71,h72,H⟩:=bindS H
     refine p_cal (ref10_truths_ok h72 (S70.atP (i:=2) rfl) (S70.atP (i:=3) rfl) (S70.atP (i:=0) rfl) (S70.atP (i:=1) rfl)) fu50 rfl ?_
     rintro _ w73 ⟨A75,c76,l77,rfl,k74,⟨o78,n79⟩,⟨o80,n81⟩,_⟩
     have S82:=S70.callN k74 [rd nRef10_truth 2 A75 c76 l77,ri nRef10_truthI l77 r71] (cA ⟨o78,New.inL n79⟩ (cA ⟨o80,Al.inL n81 ((cA (fp_mem (i:=2) rfl) (cA (fp_mem (i:=3) rfl) (cA (fp_mem (i:=0) rfl) (cA (fp_mem (i:=1) rfl) nM)))))⟩ nM))
     refine gT rfl rfl (p_lenN rfl sc79 (ri_len (S82.atP (i:=1) rfl)) ?_)
     refine gT rfl rfl (p_cmp rfl rfl rfl ?_)
     refine p_pkT rfl (rfl:_=B (decide ((r71.length:Int) > 0)))<|wp_nil ?_
     refine c_cond rfl (fun c83=>?_) (fun c83=>?_)
     ·replace H:=condT c83 H
      refine reg<|p_mS rfl<|p_aS rfl<|wp_nil<|reg<|p_mI rfl<|p_add rfl rfl<|p_aI rfl<|wp_nil ?_
      have S84:=S82.pk [0,2] (by decide) [4,5,6,7] rfl rfl
      exact ⟨(r43,wr (z_1.2+1)),(A47,c48),_,rfl,⟨rfl,rfl,rfl,rfl,trivial⟩,H,S84⟩
     ·replace H:=condF c83 H
      refine c_skip<|reg<|p_mI rfl<|p_add rfl rfl<|p_aI rfl<|wp_nil ?_
      have S85:=S82.pk [1,2] (by decide) [4,5,6,7] rfl rfl
      exact ⟨(z_1.1,wr (z_1.2+1)),(y_1.1,y_1.2),_,rfl,⟨rfl,rfl,rfl,rfl,trivial⟩,H,S85⟩
    ·replace H:=condF c57 H
     refine eB c57<|gF rfl rfl<|gF rfl rfl<|gF rfl rfl<|gF rfl rfl<|gF rfl rfl<|gF rfl rfl<|p_pkF rfl (rfl:_=B false)<|wp_nil<|c_false rfl<|c_skip<|reg<|p_mI rfl<|p_add rfl rfl<|p_aI rfl<|wp_nil ?_
     have S86:=S56.pk [1,2] (by decide) [0,1,2,3] rfl rfl
     exact ⟨(z_1.1,wr (z_1.2+1)),(y_1.1,y_1.2),_,rfl,⟨rfl,rfl,rfl,rfl,trivial⟩,H,S86⟩
   ·replace H:=condF c42 H
    refine c_exit<|c_seq<|reg<|p_mS rfl<|p_aS rfl<|p_aI rfl<|wp_nil ?_
    obtain rfl:=sJ H
    refine c_ret ?_; show bodyPostM (Fr none) 0 Tryz.prog Tryz.f45 _ .ret _ _
    refine ret_of (res2 rfl (rvT (rfl:_=SL y_1.1 z_1.1.length y_1.2)) (rvT (rfl:_=I 0))) ?_
    exact ⟨_,rfl,y_1.1,y_1.2,rfl,S40.keep,⟨S40.atX (i:=0) rfl,S40.newX (i:=0) rfl⟩,trivial⟩
def law_ticketWrongs (a0:TicketBook) (a1:TicketBook) (a2:TicketBox):Option Bool:=
 (ticket_Fits a0 a2).bind fun r36=>
 (ref10_Fits a1 a2).bind fun r40=>
 bif (r36.1 != r40.1) then (some false)
 else (bif (r36.2 != r40.2) then (some false)
 else ((ticket_Wrong a0).bind fun r46=>
 (ref10_Wrong a1).bind fun r55=>
 (B_Alike r46.1 r55.1).bind fun r65=>
 bif r65 then (some (r46.2==r55.2))
 else (some false)))
set_option maxRecDepth 100000 in
theorem law_ticketWrongs_ok {a0:TicketBook}{a1:TicketBook}{a2:TicketBox}{A1:Option Addr}{c2:Nat}{A4:Option Addr}{c5:Nat}{A7:Option Addr}{c8:Nat}{A10:Option Addr}{c11:Nat}{A13:Option Addr}{c14:Nat}{A16:Option Addr}{c17:Nat}{A19:Option Addr}{c20:Nat}{A22:Option Addr}{c23:Nat}{w:World}{r:Bool} (H:law_ticketWrongs a0 a1 a2=some r) (h3:(rd eTallyCount 7 A1 c2 a0.Tally.Counts).ok w) (h6:(rd eTicketSeason 2 A4 c5 a0.Tickets).ok w) (h9:(rd eTicketShow 3 A7 c8 a0.Shows).ok w) (h12:(rd eTicketBox 4 A10 c11 a0.Boxes).ok w) (h15:(rd eTallyCount 7 A13 c14 a1.Tally.Counts).ok w) (h18:(rd eTicketSeason 2 A16 c17 a1.Tickets).ok w) (h21:(rd eTicketShow 3 A19 c20 a1.Shows).ok w) (h24:(rd eTicketBox 4 A22 c23 a1.Boxes).ok w) (hg25:(gW0).ok w) (hg26:(gW2).ok w):Calls Tryz.prog 11 #[AG (vB a0 A1 c2 A4 c5 A7 c8 A10 c11),AG (vB a1 A13 c14 A16 c17 A19 c20 A22 c23),AG [I a2.From,I a2.To,I a2.Pence,I a2.Lost]] w (RetV w (B r)):=by
 unfold law_ticketWrongs at H
 refine fn_of (n:=51) Tryz.func11 rfl rfl (lE rfl) ?_
 have S:=St.start w nF _ (cA h3 (cA h6 (cA h9 (cA h12 (cA h15 (cA h18 (cA h21 (cA h24 (cA hg25 (cA hg26 nM))))))))))
 refine c_seq<|reg<|p_boxA rfl S fun b27 w28 S29=>p_boxA rfl S29 fun b30 w31 S32=>p_boxA rfl S32 fun b33 w34 S35=>p_aB rfl<|wp_nil<|c_seq<|reg<|p_ldA ty29 sz29 (S35.atX (i:=2) rfl) rfl rfl<|p_ldA ty39 sz39 (S35.atX (i:=0) rfl) rfl rfl ?_
 obtain ⟨r36,h37,H⟩:=bindS H
 refine p_cv (ticket_Fits_ok h37 (S35.atP (i:=0) rfl) (S35.atP (i:=1) rfl) (S35.atP (i:=2) rfl) (S35.atP (i:=3) rfl) (S35.atP (i:=8) rfl) (S35.atP (i:=9) rfl)) fu37 rfl S35 fun w38 S39=>p_mT rfl<|p_ext rfl rfl<|p_ext rfl rfl<|p_aB rfl<|p_aI rfl<|wp_nil<|c_seq<|reg<|p_ldA ty29 sz29 (S39.atX (i:=1) rfl) rfl rfl<|p_ldA ty39 sz39 (S39.atX (i:=0) rfl) rfl rfl ?_
 obtain ⟨r40,h41,H⟩:=bindS H
 refine p_cv (ref10_Fits_ok h41 (S39.atP (i:=4) rfl) (S39.atP (i:=5) rfl) (S39.atP (i:=6) rfl) (S39.atP (i:=7) rfl)) fu44 rfl S39 fun w42 S43=>p_mT rfl<|p_ext rfl rfl<|p_ext rfl rfl<|p_aB rfl<|p_aI rfl<|wp_nil<|c_seq<|c_seq<|reg<|p_mB rfl<|p_mB rfl ?_
 refine o_neB rfl rfl ub4 ?_
 refine p_mB rfl ?_
 rcases bE ((r36.1 != r40.1)) with c44 | c44
 ·replace H:=condT c44 H
  refine eB c44<|gF rfl rfl<|gF rfl rfl<|gF rfl rfl<|p_pkT rfl (rfl:_=B true)<|wp_nil<|c_true rfl<|c_seq<|reg<|p_aB rfl<|wp_nil ?_
  obtain rfl:=sJ H
  exact c_ret (rT Tryz.f11 S43.keep rfl rfl)
 ·replace H:=condF c44 H
  refine eB c44 ?_
  refine gT rfl rfl (p_mI rfl ?_)
  refine gT rfl rfl (p_mI rfl ?_)
  refine gT rfl rfl (p_cmp rfl rfl rfl ?_)
  refine p_pkF rfl (rfl:_=B (r36.2 != r40.2))<|wp_nil ?_
  refine c_cond rfl (fun c45=>?_) (fun c45=>?_)
  ·replace H:=condT c45 H
   refine c_seq<|reg<|p_aB rfl<|wp_nil ?_
   obtain rfl:=sJ H
   exact c_ret (rT Tryz.f11 S43.keep rfl rfl)
  ·replace H:=condF c45 H
   refine c_skip<|c_seq<|reg<|p_ldA ty29 sz29 (S43.atX (i:=2) rfl) rfl rfl ?_
   obtain ⟨r46,h47,H⟩:=bindS H
   refine p_cal (ticket_Wrong_ok h47 (S43.atP (i:=0) rfl) (S43.atP (i:=1) rfl) (S43.atP (i:=2) rfl) (S43.atP (i:=3) rfl) (S43.atP (i:=8) rfl) (S43.atP (i:=9) rfl)) fu38 rfl ?_
   rintro _ w48 ⟨A50,c51,rfl,k49,⟨o52,n53⟩,_⟩
   have S54:=S43.callN k49 [rd intE 1 A50 c51 r46.1] (cA ⟨o52,Al.inL n53 ((cA (fp_mem (i:=0) rfl) (cA (fp_mem (i:=1) rfl) (cA (fp_mem (i:=2) rfl) (cA (fp_mem (i:=3) rfl) nM)))))⟩ nM)
   refine p_mT rfl<|p_ext rfl rfl<|p_ext rfl rfl<|p_aS rfl<|p_aI rfl<|wp_nil<|c_seq<|reg<|p_ldA ty29 sz29 (S54.atX (i:=1) rfl) rfl rfl ?_
   obtain ⟨r55,h56,H⟩:=bindS H
   refine p_cal (ref10_Wrong_ok h56 (S54.atP (i:=5) rfl) (S54.atP (i:=6) rfl) (S54.atP (i:=7) rfl) (S54.atP (i:=8) rfl)) fu45 rfl ?_
   rintro _ w57 ⟨A59,c60,rfl,k58,⟨o61,n62⟩,_⟩
   have S64:=S54.addNew k58 o61 n62
   refine p_mT rfl<|p_ext rfl rfl<|p_ext rfl rfl<|p_aS rfl<|p_aI rfl<|wp_nil<|c_seq<|reg<|p_mS rfl<|p_mS rfl ?_
   obtain ⟨r65,h66,H⟩:=bindS H
   refine p_cv (B_Alike_ok h66 (S64.atP (i:=0) rfl) (gr_rd intE_len (S64.atX (i:=0) rfl))) fu34 rfl S64 fun w67 S68=>p_mB rfl ?_
   rcases bE (r65) with c69 | c69
   ·replace H:=condT c69 H
    refine eB c69 ?_
    refine gT rfl rfl (p_mI rfl ?_)
    refine gT rfl rfl (p_mI rfl ?_)
    refine gT rfl rfl (p_cmp rfl rfl rfl ?_)
    refine p_pkT rfl (rfl:_=B (r46.2==r55.2))<|p_aB rfl<|wp_nil ?_
    obtain rfl:=sJ H
    exact c_ret (rT Tryz.f11 S68.keep rfl rfl)
   ·replace H:=condF c69 H
    refine eB c69<|gF rfl rfl<|gF rfl rfl<|gF rfl rfl<|p_pkF rfl (rfl:_=B false)<|p_aB rfl<|wp_nil ?_
    obtain rfl:=sJ H
    exact c_ret (rT Tryz.f11 S68.keep rfl rfl)
end Go.Proofs.YtafhljljfglfeaaGreatDoor
namespace Go.Fx
open Go Go.ChangeShapes Go.WideShapes Go.ChangeAt Go.RowKit
section
variable {H:Type}{enc:TypeId×Value→H}{P:Program}
theorem Keep.kept {w w' :World} (k:Keep0 w w') (may:MemPlace→Prop):w.keptBut w' may:=by
 refine ⟨k.os,k.output,fun i hi=>?_⟩
 have:=k.block i hi (fun x=>x)
 rw [this]
 cases w.heap[i]? with
 | none=>rfl
 | some o=>cases o <;> first | exact ⟨rfl,rfl,rfl,fun _ _=>rfl⟩ | exact .inr ⟨rfl,rfl⟩ | rfl
theorem Keep.same {w w' :World} (k:Keep0 w w') {p:MemPlace} (hp:p.block < w.heap.size):w.sameAt w' p:=by
 cases p with
 | cell b off=>
   have:=k.block b hp (fun x=>x)
   exact World.cell?_of_block (w:=w) this
 | map b=>exact k.block b hp (fun x=>x)
theorem trodAll_stays (hl:laidOutB P=true) {W W' :World}{sp' :Nat→Bool}:∀ {ts:List TypeId}{vs:List Value}{ds:List (DataW H)}{ps:List MemPlace},
 (∀ t∈ts,P.readableRec t=true∧t < P.types.size)→DataW.TrodAll enc P W 0 (fun _=>true) true ts vs ds ps→(∀ p∈ps,W.sameAt W' p)→(∀ p∈ps,sp' p.block=true)→DataW.TrodAll enc P W' 0 sp' true ts vs ds ps
 | [],[],[],_,_,h,_,_=>h
 | t::ts,v::vs,d::ds,ps,ht,⟨p,q,h1,h2,e⟩,hs,hb=>by
   subst e
   exact ⟨p,q,WideElems.Trod_stays hl (ht t (List.mem_cons_self ..)).1 (ht t (List.mem_cons_self ..)).2 h1 (fun x hx=>hs x (List.mem_append_left _ hx)) (fun x hx=>hb x (List.mem_append_left _ hx)),
    trodAll_stays hl (fun t ht' =>ht t (List.mem_cons_of_mem _ ht')) h2 (fun x hx=>hs x (List.mem_append_right _ hx)) (fun x hx=>hb x (List.mem_append_right _ hx)),rfl⟩
 | [],_::_,_,_,_,h,_,_=>by cases ‹List (DataW H)› <;> exact h.elim
 | [],[],_::_,_,_,h,_,_=>h.elim
 | _::_,[],_,_,_,h,_,_=>by cases ‹List (DataW H)› <;> exact h.elim
 | _::_,_::_,[],_,_,h,_,_=>h.elim
theorem law_post {fn:Func}{spec:ChangeSpec}{W W' :World}{args:Array Value}{ds gs:List (DataW H)}{before:List MemPlace}{tb:TypeId}
 (hW:DataW.Whole enc P fn.params.toList spec.vars false W args.toList ds gs before) (hl:laidOutB P=true) (hts:(fn.params.toList.all fun t=>P.readableRec t&&decide (t < P.types.size))=true)
 (hvars:spec.vars=[]) (hfn:spec.fn H ds={ results:=[.lit (.bool true)],args:=ds }) (hres:fn.resultTypes=#[tb]) (hb:P.underlying tb=some .bool) (k:Keep0 W W'):
 spec.post enc P fn false true false false W args (.bool true) W' :=by
 have hlt:=hW.lt
 obtain ⟨p,q,hA,hV,rfl,hfz,hnd⟩:=id hW
 have hV' :=hV
 rw [hvars] at hV'
 obtain ⟨rfl,rfl⟩:=trodVars_none hV'
 rw [List.append_nil] at hlt
 have hts' :∀ t∈fn.params.toList,P.readableRec t=true∧t < P.types.size:=fun t ht=>by
  have:=List.all_eq_true.1 hts t ht
  simpa using this
 refine ⟨ds,[],p++[],[],p,[],hW,?_,?_,?_,k.kept _,fun h=>by cases h⟩
 ·rw [List.append_nil,hfn,hres]
  exact trodAll_mk1 (shut_bool hb true)
 ·rw [List.append_nil,hfn]
  exact trodAll_stays hl hts' hA (fun x hx=>k.same (hlt x hx)) (fun x hx=>by simpa using hlt x hx)
 ·rw [List.append_nil,hfn,hvars]
  rfl
def InI (n:Int):Prop:=-9223372036854775808≤n∧n≤9223372036854775807
theorem inI_of {n:Int} (h:(Lit.int .i64 n).wf=true):InI n:=bounds_i64 h
variable {w:World}{base:Nat}{spare:Nat→Bool}{held:Bool}
def FlatI (P:Program) (t:TypeId) (n:Nat):Prop:=∀ {H:Type}{enc:TypeId×Value→H}{w:World}{base:Nat}{spare:Nat→Bool}{held:Bool}{fuel:Nat}{cs:List Value}{x:DataW H×List MemPlace},
 DataW.trod enc P w base spare held fuel t cs=some x→∃ l:List Int,l.length=n∧cs=l.map I∧∀ y∈l,InI y
theorem flat_cells {cs:List Value}:∀ {n:Nat},cs.length=n→(∀ i,i < n→∃ a:Int,cs[i]? =some (I a)∧InI a)→∃ l:List Int,l.length=n∧cs=l.map I∧∀ y∈l,InI y:=by
 intro n hn h
 subst hn
 induction cs with
 | nil=>exact ⟨[],rfl,rfl,fun _ h=>(List.not_mem_nil h).elim⟩
 | cons c cs ih=>
   obtain ⟨a,ha,hi⟩:=h 0 (by simp)
   obtain ⟨l,h1,h2,h3⟩:=ih fun i hi=>by
    obtain ⟨b,hb⟩:=h (i+1) (by simp; omega)
    exact ⟨b,by simpa using hb⟩
   refine ⟨a::l,by simp [h1],by simp at ha; rw [ha,h2]; rfl,fun y hy=>?_⟩
   rcases List.mem_cons.1 hy with rfl | hy
   ·exact hi
   ·exact h3 y hy
theorem take_one {cs:List Value}{o:Nat}{v:Value} (h:(cs.drop o).take 1=[v]):cs[o]? =some v:=by
 have:=congrArg (·[0]?) h
 simpa [List.getElem?_take] using this
theorem flat_struct {t:TypeId}{fs:Array Field}{n:Nat} (ht:P.underlying t=some (.struct fs)) (hn:P.cellsOf t=n) (hf:∀ i,i < n→∃ f:Field,fs[i]? =some f∧f.offset=i∧P.underlying f.type=some (.int .i64)∧P.cellsOf f.type=1) (hs:fs.size=n):FlatI P t n:=by
 intro _ _ _ _ _ _ _ cs _ h
 obtain ⟨xs,m,_,_,hl,hxs,hel⟩:=DataW.trod_struct ht h
 refine flat_cells (hl.trans hn) fun i hi=>?_
 obtain ⟨f,h1,h2,h3,h4⟩:=hf i hi
 have:=hel i f h1
 rw [h2,h4,List.getElem?_eq_getElem (by rw [hxs,hs]; exact hi)] at this
 obtain ⟨a,ha,_,hw⟩:=DataW.trod_int h3 this
 exact ⟨a,take_one ha,inI_of hw⟩
theorem mapM_get {α β:Type}{f:α→Option β}:∀ {l:List α}{r:List β},l.mapM f=some r→∀ (i:Nat) (a:α),l[i]? =some a→f a=r[i]?
 | [],_,_,i,a,ha=>by simp at ha
 | x::l,r,h,i,a,ha=>by
   simp only [List.mapM_cons,Option.bind_eq_bind,Option.bind_eq_some_iff,Option.pure_def,Option.some.injEq] at h
   obtain ⟨b,hb,r',hr',rfl⟩:=h
   cases i with
   | zero=>
     simp only [List.getElem?_cons_zero,Option.some.injEq] at ha
     subst ha
     exact hb
   | succ i=>exact mapM_get hr' i a (by simpa using ha)
theorem cell_in {w:World}{a:Addr}{v:Value} (h:w.cell? a=some v):a.block < w.heap.size:=by
 unfold World.cell? at h
 split at h
 ·rename_i hw
  exact (Array.getElem?_eq_some_iff.1 hw).1
 ·cases h
theorem add_blk (a:Addr) (n:Nat):(a.add n).block=a.block∧(a.add n).off=a.off+n:=by
 unfold Addr.add
 split
 ·rename_i h; subst h; exact ⟨rfl,rfl⟩
 ·exact ⟨rfl,rfl⟩
theorem cellN {w:World}{a:Addr}{n:Nat}{v:Value} (h:w.cell? (a.add n)=some v):w.cell? ⟨a.block,a.off+n,none⟩=some v:=by
 have h1:=World.cell?_spot h
 obtain ⟨h2,h3⟩:=add_blk a n
 have:a.add n=⟨a.block,a.off+n,none⟩:=by
  generalize a.add n=x at h1 h2 h3
  cases x
  cases h1; cases h2; cases h3; rfl
 rwa [this] at h
theorem slice_flat {t e:TypeId}{s fuel:Nat}{cs:List Value}{x:DataW H×List MemPlace} (ht:P.underlying t=some (.slice e)) (F:FlatI P e s) (hs:P.cellsOf e=s) (h0:0 < s)
 (h:DataW.trod enc P w 0 spare held fuel t cs=some x):∃ A c,∃ xs:List (List Int),cs=[SL A xs.length c]∧(∀ l∈xs,l.length=s∧∀ y∈l,InI y)∧(rd (fun l:List Int=>l.map I) s A c xs).ok w:=by
 rcases DataW.trod_slice ht h with ⟨rfl,_⟩ | ⟨a,len,cap,elems,rest,n,_,rfl,_,_,hlc,hcm,hel,hE,_,_⟩
 ·exact ⟨none,0,[],rfl,fun _ h=>(List.not_mem_nil h).elim,.inl rfl,Nat.le_refl _,Nat.zero_le _⟩
 ·have ex:∀ i,i < len→∃ l:List Int,l.length=s∧(∀ y∈l,InI y)∧∀ j v,(l.map I)[j]? =some v→w.cell? ⟨a.block,a.off+i*s+j,none⟩=some v:=by
   intro i hi
   have:=hE i hi
   rw [hs,List.getElem?_eq_getElem (by rw [hel]; exact hi)] at this
   obtain ⟨cs,hc,hd⟩:=Option.bind_eq_some_iff.1 this
   obtain ⟨l,hl,rfl,hy⟩:=F hd
   refine ⟨l,hl,hy,fun j v hj=>?_⟩
   unfold World.cells? at hc
   rw [if_pos (Nat.zero_le _)] at hc
   have hjl:j < s:=by
    have:=(List.getElem?_eq_some_iff.1 hj).1
    rw [List.length_map,hl] at this
    exact this
   have:=mapM_get hc j j (List.getElem?_range hjl)
   rw [hj] at this
   have:=cellN this
   rwa [(add_blk a (i*s)).1,(add_blk a (i*s)).2] at this
  have ch:∃ f:Nat→List Int,∀ i,i < len→(f i).length=s∧(∀ y∈f i,InI y)∧∀ j v,((f i).map I)[j]? =some v→w.cell? ⟨a.block,a.off+i*s+j,none⟩=some v:=
   ⟨fun i=>if h:i < len then Classical.choose (ex i h) else [],fun i hi=>by simp only [dif_pos hi]; exact Classical.choose_spec (ex i hi)⟩
  obtain ⟨f,hf⟩:=ch
  refine ⟨some a,cap,(List.range len).map f,by simp [SL],fun l hl=>?_,?_,by simpa using hlc,hcm⟩
  ·obtain ⟨i,hi,rfl⟩:=List.mem_map.1 hl
   have:=hf i (List.mem_range.1 hi)
   exact ⟨this.1,this.2.1⟩
  ·by_cases hz:len=0
   ·left; subst hz; rfl
   ·right
    have h00:=(hf 0 (by omega)).2.2 0 (I ((f 0)[0]'(by rw [(hf 0 (by omega)).1]; exact h0))) (by simp [(hf 0 (by omega)).1,h0])
    obtain ⟨b,o,sp⟩:=a
    have hsp:sp=none:=by
     have:=hE 0 (by omega)
     rw [hs,List.getElem?_eq_getElem (by rw [hel]; omega)] at this
     obtain ⟨cs,hc,hd⟩:=Option.bind_eq_some_iff.1 this
     obtain ⟨l,hl,rfl,hy⟩:=F hd
     unfold World.cells? at hc
     rw [if_pos (Nat.zero_le _)] at hc
     have:=mapM_get hc 0 0 (List.getElem?_range h0)
     rw [List.getElem?_eq_getElem (by rw [List.length_map,hl]; exact h0)] at this
     rw [Nat.zero_mul] at this
     exact World.cell?_spot (show w.cell? ⟨b,o,sp⟩=_ from this)
    subst hsp
    refine ⟨b,o,rfl,cell_in h00,fun i x hx j v hv=>?_⟩
    have hi:i < len:=by
     have:=(List.getElem?_eq_some_iff.1 hx).1
     simpa using this
    have hx' :x=f i:=by simpa [List.getElem?_range,hi] using hx.symm
    subst hx'
    exact (hf i hi).2.2 j v hv
theorem rd_map {α β:Type}{e1:α→List Value}{e2:β→List Value}{s c:Nat}{A:Option Addr}{xs:List α} (f:α→β) (h:∀ x∈xs,e2 (f x)=e1 x) (h1:(rd e1 s A c xs).ok w):(rd e2 s A c (xs.map f)).ok w:=by
 refine ⟨?_,by simpa using h1.2.1,h1.2.2⟩
 rcases h1.1 with rfl | ⟨b,o,e,hb,hc⟩
 ·exact .inl rfl
 ·refine .inr ⟨b,o,e,hb,fun i x hx j v hv=>?_⟩
  rw [List.getElem?_map] at hx
  obtain ⟨y,hy,rfl⟩:=Option.map_eq_some_iff.1 hx
  rw [h y (List.mem_of_getElem? hy)] at hv
  exact hc i y hy j v hv
theorem okWide_cells {r:Reach}{b0:Nat}{t:TypeId}{v:Value} (ht:(match P.underlying t with | some (.struct _) | some (.array _ _)=>true | _=>false)=true) (hval:Value.okWide P w r b0 t v):∃ cs,v=.agg cs:=by
 unfold Value.okWide at hval
 split at hval
 ·obtain ⟨cs,h,_⟩:=hval; exact ⟨cs,h⟩
 ·obtain ⟨cs,h,_⟩:=hval; exact ⟨cs,h⟩
 ·rename_i h1 h2
  split at ht
  ·rename_i h; exact absurd h (h1 _)
  ·rename_i h; exact absurd h (h2 _ _)
  ·cases ht
theorem dec_flat {r:Reach}{b0 n:Nat}{t:TypeId}{v:Value}{d:DataW H}{ps:List MemPlace} (ht:(match P.underlying t with | some (.struct _) | some (.array _ _)=>true | _=>false)=true) (F:FlatI P t n) (hval:Value.okWide P w r b0 t v) (hd:DataW.Trod enc P w base spare held t v d ps):
 ∃ l:List Int,l.length=n∧v=AG (l.map I)∧∀ y∈l,InI y:=by
 obtain ⟨cs,rfl⟩:=okWide_cells ht hval
 obtain ⟨fuel,hf⟩:=hd
 obtain ⟨l,hl,hc,hy⟩:=F hf
 refine ⟨l,hl,?_,hy⟩
 have:cs.toList=l.map I:=hc
 show Value.agg cs=Value.agg (l.map I).toArray
 rw [← this]
end
end Go.Fx
namespace Go.Proofs.YtafhljljfglfeaaGreatDoor
open Go Go.Fx Go.Proofs Go.ChangeShapes Go.WideShapes Go.ChangeAt Go.RowKit
theorem own:ownKnob Tryz.prog.godebug=none:=by kernel_rfl
theorem laidOut:laidOutB Tryz.prog=true:=by kernel_rfl
theorem u3:Tryz.prog.underlying 3=some (.int .i64):=by kernel_rfl
theorem c3:Tryz.prog.cellsOf 3=1:=by kernel_rfl
theorem var_heap {W:World}{n:String}{g:Nat}{cs c:Array Value}{t:TypeId}{fr:Nat×Nat} (hg:Tryz.prog.globalNamed n=some g) (hv:W.var? Tryz.prog n=some cs) (hh:W.heap[g]? =some (.cells c t fr)):cs=c:=by
 unfold World.var? at hv
 rw [hg] at hv
 simp only [Option.bind_some,hh] at hv
 exact (Option.some.inj hv).symm
theorem gNobody : Tryz.prog.globalNamed "prow/ticket.nobody" = some 0 := by kernel_rfl
theorem tNobody:(Tryz.prog.globals[0]?).map (·.type)=some 123:=by kernel_rfl
theorem c123:Tryz.prog.cellsOf 123=2:=by kernel_rfl
theorem u123:∃ f0 f1:Field,Tryz.prog.underlying 123=some (.struct #[f0,f1])∧f0.type=3∧f1.type=3∧f0.offset=0∧f1.offset=1:=⟨(Tryz.prog.fieldsOf 123)[0]!,(Tryz.prog.fieldsOf 123)[1]!,by kernel_rfl,by kernel_rfl,by kernel_rfl,by kernel_rfl,by kernel_rfl⟩
theorem shape0:∃ zero,(((begin Tryz.prog (fun _ _=>0) default).world.heap[0]?).bind Obj.row?)=some (zero,123):=⟨#[I 0,I 0],by kernel_rfl⟩
set_option maxRecDepth 100000 in
theorem atNobody {W : World} (hS : W.ShapedOpen Tryz.prog) {g t : Nat} {cs : Array Value} {fuel : Nat} {p : List MemPlace} (hg : Tryz.prog.globalNamed "prow/ticket.nobody" = some g) (ht : (Tryz.prog.globals[g]?).map (·.type) = some t) (hv : W.var? Tryz.prog "prow/ticket.nobody" = some cs)
 (hd:DataW.trod (fun _=>()) Tryz.prog W 0 (fun _=>true) false fuel t cs.toList=some (.agg [.lit (.int .i64 (-1)),.lit (.int .i64 (-1))],p)):(bl 0 [I (-1),I (-1)] 123).ok W:=by
 obtain ⟨z,hz⟩:=shape0
 obtain ⟨cs0,h1,_⟩:=hS.1 0 z 123 (of_decide_eq_true (by kernel_rfl)) hz
 obtain rfl:=Option.some.inj (gNobody.symm.trans hg)
 obtain rfl:=Option.some.inj (tNobody.symm.trans ht)
 obtain rfl:=var_heap gNobody hv h1
 obtain ⟨f0,f1,hu,ht0,ht1,ho0,ho1⟩:=u123
 obtain ⟨xs,m,_,hx,hl,hxs,hel⟩:=DataW.trod_struct hu hd
 rw [c123] at hl
 have hx' :xs.map (·.1)=[.lit (.int .i64 (-1)),.lit (.int .i64 (-1))]:=by
  have:=congrArg Prod.fst hx
  exact (DataW.agg.inj this).symm
 obtain ⟨cl⟩:=cs
 match cl,hl with
 | [v0,v1],_=>
   match xs,hx' with
   | [(_,p0),(_,p1)],hx' =>
     simp only [List.map_cons,List.map_nil,List.cons.injEq,and_true] at hx'
     obtain ⟨rfl,rfl⟩:=hx'
     have e0:=hel 0 f0 rfl
     have e1:=hel 1 f1 rfl
     rw [ho0,ht0,c3] at e0
     rw [ho1,ht1,c3] at e1
     obtain ⟨n0,a0,b0,_⟩:=DataW.trod_int u3 (show DataW.trod _ _ _ _ _ _ _ _ [v0]=some (_,p0) from e0)
     obtain ⟨n1,a1,b1,_⟩:=DataW.trod_int u3 (show DataW.trod _ _ _ _ _ _ _ _ [v1]=some (_,p1) from e1)
     cases a0; cases a1; cases b0; cases b1
     exact h1
theorem gAsks : Tryz.prog.globalNamed "prow/ticket.asks" = some 1 := by kernel_rfl
theorem tAsks:(Tryz.prog.globals[1]?).map (·.type)=some 132:=by kernel_rfl
theorem u132:Tryz.prog.underlying 132=some (.array 2 131):=by kernel_rfl
theorem u131b:(match Tryz.prog.underlying 131 with | some (.func _ _ _)=>true | _=>false)=true:=by kernel_rfl
theorem u131:∃ ps rs va,Tryz.prog.underlying 131=some (.func ps rs va):=by
 have h:=u131b
 split at h
 ·rename_i ps rs va hu; exact ⟨ps,rs,va,hu⟩
 ·cases h
theorem c131:Tryz.prog.cellsOf 131=1:=by kernel_rfl
theorem c132:Tryz.prog.cellsOf 132=2:=by kernel_rfl
theorem shape1:∃ zero,(((begin Tryz.prog (fun _ _=>0) default).world.heap[1]?).bind Obj.row?)=some (zero,132):=⟨#[.nilFunc,.nilFunc],by kernel_rfl⟩
set_option maxRecDepth 100000 in
theorem atAsks {W : World} (hS : W.ShapedOpen Tryz.prog) {laid : List (String × DataW Unit)} (h : laidMetH Tryz.prog laid W) (hm : ("prow/ticket.asks", Rows.laid_prow_ticket_asks) ∈ laid) : (bl 1 [Value.func (.func 145) #[] #[], Value.func (.func 146) #[] #[]] 132).ok W := by
 obtain ⟨z,hz⟩:=shape1
 obtain ⟨cs0,h0,_⟩:=hS.1 1 z 132 (of_decide_eq_true (by kernel_rfl)) hz
 obtain ⟨g, t, cs, fuel, p, hg, ht, hv, hd⟩ := h.funcs (n := "prow/ticket.asks") hm
 obtain rfl:=Option.some.inj (gAsks.symm.trans hg)
 obtain rfl:=Option.some.inj (tAsks.symm.trans ht)
 obtain rfl:=var_heap gAsks hv h0
 obtain ⟨xs,m,_,hx,hl,hxs,hel⟩:=DataW.trod_array u132 hd
 rw [c132] at hl
 have hx' :xs.map (·.1)=[.held [40,112,114,111,119,47,116,105,99,107,101,116,46,98,111,111,107,41,46,97,108,119,97,121,115],.held [40,112,114,111,119,47,116,105,99,107,101,116,46,98,111,111,107,41,46,115,111,109,101,116,105,109,101,115]]:=by
  have:=congrArg Prod.fst hx
  exact (DataW.agg.inj this).symm
 obtain ⟨ps,rs,va,hu⟩:=u131
 obtain ⟨cl⟩:=cs
 match cl,hl with
 | [v0,v1],_=>
   match xs,hx' with
   | [(_,p0),(_,p1)],hx' =>
     simp only [List.map_cons,List.map_nil,List.cons.injEq,and_true] at hx'
     obtain ⟨rfl,rfl⟩:=hx'
     have e0:=hel 0 (by decide)
     have e1:=hel 1 (by decide)
     rw [c131] at e0 e1
     obtain rfl:=func_of_trod (f0:=145) hu (by kernel_rfl) (show DataW.trod _ _ _ _ _ _ _ _ [v0]=some (_,p0) from e0)
     obtain rfl:=func_of_trod (f0:=146) hu (by kernel_rfl) (show DataW.trod _ _ _ _ _ _ _ _ [v1]=some (_,p1) from e1)
     exact h0
theorem gEnds : Tryz.prog.globalNamed "prow/tally.ends" = some 2 := by kernel_rfl
theorem tEnds:(Tryz.prog.globals[2]?).map (·.type)=some 159:=by kernel_rfl
theorem u159:Tryz.prog.underlying 159=some (.array 2 158):=by kernel_rfl
theorem u158b:(match Tryz.prog.underlying 158 with | some (.func _ _ _)=>true | _=>false)=true:=by kernel_rfl
theorem u158:∃ ps rs va,Tryz.prog.underlying 158=some (.func ps rs va):=by
 have h:=u158b
 split at h
 ·rename_i ps rs va hu; exact ⟨ps,rs,va,hu⟩
 ·cases h
theorem c158:Tryz.prog.cellsOf 158=1:=by kernel_rfl
theorem c159:Tryz.prog.cellsOf 159=2:=by kernel_rfl
theorem shape2:∃ zero,(((begin Tryz.prog (fun _ _=>0) default).world.heap[2]?).bind Obj.row?)=some (zero,159):=⟨#[.nilFunc,.nilFunc],by kernel_rfl⟩
set_option maxRecDepth 100000 in
theorem atEnds {W : World} (hS : W.ShapedOpen Tryz.prog) {laid : List (String × DataW Unit)} (h : laidMetH Tryz.prog laid W) (hm : ("prow/tally.ends", Rows.laid_prow_tally_ends) ∈ laid) : (bl 2 [Value.func (.func 143) #[] #[], Value.func (.func 147) #[] #[]] 159).ok W := by
 obtain ⟨z,hz⟩:=shape2
 obtain ⟨cs0,h0,_⟩:=hS.1 2 z 159 (of_decide_eq_true (by kernel_rfl)) hz
 obtain ⟨g, t, cs, fuel, p, hg, ht, hv, hd⟩ := h.funcs (n := "prow/tally.ends") hm
 obtain rfl:=Option.some.inj (gEnds.symm.trans hg)
 obtain rfl:=Option.some.inj (tEnds.symm.trans ht)
 obtain rfl:=var_heap gEnds hv h0
 obtain ⟨xs,m,_,hx,hl,hxs,hel⟩:=DataW.trod_array u159 hd
 rw [c159] at hl
 have hx' :xs.map (·.1)=[.held [40,112,114,111,119,47,116,97,108,108,121,46,99,111,117,110,116,41,46,108,101,97,115,116],.held [40,112,114,111,119,47,116,97,108,108,121,46,99,111,117,110,116,41,46,109,111,115,116]]:=by
  have:=congrArg Prod.fst hx
  exact (DataW.agg.inj this).symm
 obtain ⟨ps,rs,va,hu⟩:=u158
 obtain ⟨cl⟩:=cs
 match cl,hl with
 | [v0,v1],_=>
   match xs,hx' with
   | [(_,p0),(_,p1)],hx' =>
     simp only [List.map_cons,List.map_nil,List.cons.injEq,and_true] at hx'
     obtain ⟨rfl,rfl⟩:=hx'
     have e0:=hel 0 (by decide)
     have e1:=hel 1 (by decide)
     rw [c158] at e0 e1
     obtain rfl:=func_of_trod (f0:=143) hu (by kernel_rfl) (show DataW.trod _ _ _ _ _ _ _ _ [v0]=some (_,p0) from e0)
     obtain rfl:=func_of_trod (f0:=147) hu (by kernel_rfl) (show DataW.trod _ _ _ _ _ _ _ _ [v1]=some (_,p1) from e1)
     exact h0
def laidL : List (String × DataW Unit) := [("prow/tally.ends", Rows.laid_prow_tally_ends), ("prow/ticket.nobody", Rows.laid_prow_ticket_nobody), ("prow/ticket.asks", Rows.laid_prow_ticket_asks)]
theorem globals_ok {W:World} (hS:W.ShapedOpen Tryz.prog) (h:laidMetH Tryz.prog laidL W):(bl 0 [I (-1),I (-1)] 123).ok W∧(bl 1 [Value.func (.func 145) #[] #[],Value.func (.func 146) #[] #[]] 132).ok W∧(bl 2 [Value.func (.func 143) #[] #[],Value.func (.func 147) #[] #[]] 159).ok W:=by
 refine ⟨?_,atAsks hS h (List.mem_cons_of_mem _ (List.mem_cons_of_mem _ (List.mem_cons_self ..))),atEnds hS h (List.mem_cons_self ..)⟩
 have h' : laidMet Tryz.prog [("prow/ticket.nobody", Rows.laid_prow_ticket_nobody)] W := h.1
 obtain ⟨ps,⟨g,t,cs,fuel,p,q,hg,ht,hv,hd,_,_⟩,_⟩:=h'
 exact atNobody hS hg ht hv hd
def putCells (cs:Array Value):Obj→Obj
 | .cells _ t frozen=>.cells cs t frozen
 | o=>o
noncomputable def laidWorld (os:Os):World:=
 { World.holding Tryz.prog os ⟨#[],#[],[]⟩ with heap:=((((World.holding Tryz.prog os ⟨#[],#[],[]⟩).heap.modify 0 (putCells #[I (-1),I (-1)])).modify 1 (putCells #[.func (.func 145) #[] #[],.func (.func 146) #[] #[]])).modify 2 (putCells #[.func (.func 143) #[] #[],.func (.func 147) #[] #[]])) }
end Go.Proofs.YtafhljljfglfeaaGreatDoor
set_option linter.constructorNameAsVariable false
set_option maxRecDepth 100000
namespace Go.Proofs.YtafhljljfglfeaaGreatDoor
open Go Go.Fx Go.Proofs Go.ChangeShapes Go.WideShapes Go.ChangeAt Go.RowKit
theorem get_bang {α:Type} [Inhabited α] {a:Array α}{i:Nat} (h:i < a.size):a[i]? =some a[i]! :=by
 rw [Array.getElem?_eq_getElem h,getElem!_pos a i h]
theorem st {t n:Nat} (u:Tryz.prog.underlying t=some (.struct (Tryz.prog.fieldsOf t))) (c:Tryz.prog.cellsOf t=n) (s:(Tryz.prog.fieldsOf t).size=n)
 (b:((List.range n).all fun i=>(Tryz.prog.fieldsOf t)[i]!.offset==i&&(Tryz.prog.fieldsOf t)[i]!.type==3)=true):FlatI Tryz.prog t n:=by
 refine flat_struct u c (fun i hi=>?_) s
 refine ⟨_,get_bang (by rw [s]; exact hi),?_⟩
 have:=List.all_eq_true.1 b i (List.mem_range.2 hi)
 simp only [Bool.and_eq_true,beq_iff_eq] at this
 exact ⟨this.1,by rw [this.2]; exact u3,by rw [this.2]; exact c3⟩
theorem c106:Tryz.prog.cellsOf 106=7:=by kernel_rfl
theorem c84:Tryz.prog.cellsOf 84=2:=by kernel_rfl
theorem c86:Tryz.prog.cellsOf 86=3:=by kernel_rfl
theorem c39:Tryz.prog.cellsOf 39=4:=by kernel_rfl
theorem c29:Tryz.prog.cellsOf 29=7:=by kernel_rfl
theorem c24:Tryz.prog.cellsOf 24=3:=by kernel_rfl
theorem c22:Tryz.prog.cellsOf 22=1:=by kernel_rfl
theorem c25:Tryz.prog.cellsOf 25=1:=by kernel_rfl
theorem c26:Tryz.prog.cellsOf 26=1:=by kernel_rfl
theorem c27:Tryz.prog.cellsOf 27=1:=by kernel_rfl
theorem u22:Tryz.prog.underlying 22=some (.slice 106):=by kernel_rfl
theorem u25:Tryz.prog.underlying 25=some (.slice 84):=by kernel_rfl
theorem u26:Tryz.prog.underlying 26=some (.slice 86):=by kernel_rfl
theorem u27:Tryz.prog.underlying 27=some (.slice 39):=by kernel_rfl
theorem u29:Tryz.prog.underlying 29=some (.struct (Tryz.prog.fieldsOf 29)):=by kernel_rfl
theorem u24:Tryz.prog.underlying 24=some (.struct (Tryz.prog.fieldsOf 24)):=by kernel_rfl
theorem flat106:FlatI Tryz.prog 106 7:=st (by kernel_rfl) c106 (by kernel_rfl) (by kernel_rfl)
theorem flat84:FlatI Tryz.prog 84 2:=st (by kernel_rfl) c84 (by kernel_rfl) (by kernel_rfl)
theorem flat86:FlatI Tryz.prog 86 3:=st (by kernel_rfl) c86 (by kernel_rfl) (by kernel_rfl)
theorem flat39:FlatI Tryz.prog 39 4:=st (by kernel_rfl) c39 (by kernel_rfl) (by kernel_rfl)
theorem f29s:(Tryz.prog.fieldsOf 29).size=5:=by kernel_rfl
theorem f29b:([(0,0,24),(1,3,3),(2,4,25),(3,5,26),(4,6,27)].all fun (x:Nat×Nat×Nat)=>(Tryz.prog.fieldsOf 29)[x.1]!.offset==x.2.1&&(Tryz.prog.fieldsOf 29)[x.1]!.type==x.2.2)=true:=by kernel_rfl
theorem f24s:(Tryz.prog.fieldsOf 24).size=3:=by kernel_rfl
theorem f24b:([(0,0,3),(1,1,3),(2,2,22)].all fun (x:Nat×Nat×Nat)=>(Tryz.prog.fieldsOf 24)[x.1]!.offset==x.2.1&&(Tryz.prog.fieldsOf 24)[x.1]!.type==x.2.2)=true:=by kernel_rfl
theorem maxLen_le:maxLen≤9223372036854775807:=by decide
def cntOf (l:List Int):TallyCount:=⟨l.getD 0 0,l.getD 1 0,l.getD 2 0,l.getD 3 0,l.getD 4 0,l.getD 5 0,l.getD 6 0⟩
theorem cntOf_cells {l:List Int} (h:l.length=7):eTallyCount (cntOf l)=l.map I:=by
 match l,h with
 | [_,_,_,_,_,_,_],_=>rfl
def seasOf (l:List Int):TicketSeason:=⟨l.getD 0 0,l.getD 1 0⟩
theorem seasOf_cells {l:List Int} (h:l.length=2):eTicketSeason (seasOf l)=l.map I:=by
 match l,h with
 | [_,_],_=>rfl
def showOf (l:List Int):TicketShow:=⟨l.getD 0 0,l.getD 1 0,l.getD 2 0⟩
theorem showOf_cells {l:List Int} (h:l.length=3):eTicketShow (showOf l)=l.map I:=by
 match l,h with
 | [_,_,_],_=>rfl
def boxOf (l:List Int):TicketBox:=⟨l.getD 0 0,l.getD 1 0,l.getD 2 0,l.getD 3 0⟩
theorem boxOf_cells {l:List Int} (h:l.length=4):eTicketBox (boxOf l)=l.map I:=by
 match l,h with
 | [_,_,_,_],_=>rfl
variable {H:Type}{enc:TypeId×Value→H}{w:World}{spare:Nat→Bool}{held:Bool}{r:Reach}{b0:Nat}{v:Value}{d:DataW H}{ps:List MemPlace}
theorem dec_box (hval:Value.okWide Tryz.prog w r b0 39 v) (hd:DataW.Trod enc Tryz.prog w 0 spare held 39 v d ps):∃ x:TicketBox,v=AG [I x.From,I x.To,I x.Pence,I x.Lost]∧InI x.From∧InI x.To∧InI x.Pence∧InI x.Lost:=by
 obtain ⟨l,hl,rfl,hy⟩:=dec_flat (by kernel_rfl) flat39 hval hd
 match l,hl with
 | [a,b,c,e],_=>exact ⟨⟨a,b,c,e⟩,rfl,hy a (by simp),hy b (by simp),hy c (by simp),hy e (by simp)⟩
theorem tally_of {fuel:Nat}{cs:List Value}{x:DataW H×List MemPlace} (h:DataW.trod enc Tryz.prog w 0 spare held fuel 24 cs=some x):∃ A c,∃ b:TallyBook,cs=[I b.Trips,I b.Room,SL A b.Counts.length c]∧(rd eTallyCount 7 A c b.Counts).ok w∧b.Counts.length≤9223372036854775807:=by
 obtain ⟨xs,m,_,_,hl,hxs,hel⟩:=DataW.trod_struct u24 h
 rw [c24] at hl
 rw [f24s] at hxs
 have fb:=f24b
 simp only [List.all_cons,List.all_nil,Bool.and_eq_true,beq_iff_eq,and_true] at fb
 obtain ⟨⟨o0,t0⟩,⟨o1,t1⟩,⟨o2,t2⟩⟩:=fb
 have e0:=hel 0 _ (get_bang (by rw [f24s]; decide))
 have e1:=hel 1 _ (get_bang (by rw [f24s]; decide))
 have e2:=hel 2 _ (get_bang (by rw [f24s]; decide))
 rw [o0,t0,c3,List.getElem?_eq_getElem (by omega)] at e0
 rw [o1,t1,c3,List.getElem?_eq_getElem (by omega)] at e1
 rw [o2,t2,c22,List.getElem?_eq_getElem (by omega)] at e2
 obtain ⟨n0,g0,_,_⟩:=DataW.trod_int u3 e0
 obtain ⟨n1,g1,_,_⟩:=DataW.trod_int u3 e1
 obtain ⟨A,c,l,g2,h1,h2⟩:=slice_flat u22 flat106 c106 (by decide) e2
 have m2:=rd_map (e2:=eTallyCount) cntOf (fun x hx=>cntOf_cells (h1 x hx).1) h2
 refine ⟨A,c,⟨n0,n1,l.map cntOf⟩,?_,m2,?_⟩
 ·match cs,hl with
  | [y0,y1,y2],_=>
    simp at g0 g1 g2
    subst g0 g1 g2
    simp
 ·have:=maxLen_le; have:=m2.2.1; have:=m2.2.2; simp only; omega
theorem dec_book (hval:Value.okWide Tryz.prog w r b0 29 v) (hd:DataW.Trod enc Tryz.prog w 0 spare held 29 v d ps):∃ A1 c1 A2 c2 A3 c3 A4 c4,∃ b:TicketBook,v=AG [I b.Tally.Trips,I b.Tally.Room,SL A1 b.Tally.Counts.length c1,I b.Fare,SL A2 b.Tickets.length c2,SL A3 b.Shows.length c3,SL A4 b.Boxes.length c4]∧
 (rd eTallyCount 7 A1 c1 b.Tally.Counts).ok w∧(rd eTicketSeason 2 A2 c2 b.Tickets).ok w∧(rd eTicketShow 3 A3 c3 b.Shows).ok w∧(rd eTicketBox 4 A4 c4 b.Boxes).ok w∧b.Tally.Counts.length≤9223372036854775807∧b.Tickets.length≤9223372036854775807∧b.Shows.length≤9223372036854775807∧b.Boxes.length≤9223372036854775807:=by
 obtain ⟨cs,rfl⟩:=okWide_cells (by kernel_rfl) hval
 obtain ⟨fuel,hf⟩:=hd
 obtain ⟨xs,m,_,_,hl,hxs,hel⟩:=DataW.trod_struct u29 hf
 rw [c29] at hl
 rw [f29s] at hxs
 have fb:=f29b
 simp only [List.all_cons,List.all_nil,Bool.and_eq_true,beq_iff_eq,and_true] at fb
 obtain ⟨⟨o0,t0⟩,⟨o1,t1⟩,⟨o2,t2⟩,⟨o3,t3⟩,⟨o4,t4⟩⟩:=fb
 have e0:=hel 0 _ (get_bang (by rw [f29s]; decide))
 have e1:=hel 1 _ (get_bang (by rw [f29s]; decide))
 have e2:=hel 2 _ (get_bang (by rw [f29s]; decide))
 have e3:=hel 3 _ (get_bang (by rw [f29s]; decide))
 have e4:=hel 4 _ (get_bang (by rw [f29s]; decide))
 rw [o0,t0,c24,List.getElem?_eq_getElem (by omega)] at e0
 rw [o1,t1,c3,List.getElem?_eq_getElem (by omega)] at e1
 rw [o2,t2,c25,List.getElem?_eq_getElem (by omega)] at e2
 rw [o3,t3,c26,List.getElem?_eq_getElem (by omega)] at e3
 rw [o4,t4,c27,List.getElem?_eq_getElem (by omega)] at e4
 obtain ⟨A0,d0,l0,g0,m0,n0⟩:=tally_of e0
 obtain ⟨n1,g1,_,_⟩:=DataW.trod_int u3 e1
 obtain ⟨A2,c2',l2,g2,h21,h22⟩:=slice_flat u25 flat84 c84 (by decide) e2
 obtain ⟨A3,c3',l3,g3,h31,h32⟩:=slice_flat u26 flat86 c86 (by decide) e3
 obtain ⟨A4,c4',l4,g4,h41,h42⟩:=slice_flat u27 flat39 c39 (by decide) e4
 have m2:=rd_map (e2:=eTicketSeason) seasOf (fun x hx=>seasOf_cells (h21 x hx).1) h22
 have m3:=rd_map (e2:=eTicketShow) showOf (fun x hx=>showOf_cells (h31 x hx).1) h32
 have m4:=rd_map (e2:=eTicketBox) boxOf (fun x hx=>boxOf_cells (h41 x hx).1) h42
 refine ⟨A0,d0,A2,c2',A3,c3',A4,c4',⟨l0,n1,l2.map seasOf,l3.map showOf,l4.map boxOf⟩,?_,m0,m2,m3,m4,n0,?_,?_,?_⟩
 ·obtain ⟨cl⟩:=cs
  match cl,hl with
  | [y0,y1,y2,y3,y4,y5,y6],_=>
    simp [Value.cells] at g0 g1 g2 g3 g4
    obtain ⟨rfl,rfl,rfl⟩:=g0
    subst g1 g2 g3 g4
    simp
 ·have:=maxLen_le; have:=m2.2.1; have:=m2.2.2; simp only; omega
 ·have:=maxLen_le; have:=m3.2.1; have:=m3.2.2; simp only; omega
 ·have:=maxLen_le; have:=m4.2.1; have:=m4.2.2; simp only; omega
end Go.Proofs.YtafhljljfglfeaaGreatDoor
namespace Go.Proofs.YtafhljljfglfeaaGreatDoor
open Go Go.Fx Go.Tally
theorem wrI {x:Int} (h0:-9223372036854775808≤x) (h1:x≤9223372036854775807):Fx.wr x=x:=wr_eq h0 h1
def inB (a lo hi:Int):Bool:=decide (lo≤a)&&decide (a≤hi)
theorem inB_iff {a lo hi:Int}:inB a lo hi=true↔lo≤a∧a≤hi:=by simp [inB]
theorem within_eq (a b c:Int):tally_within a b c=some (inB a b c):=by
 unfold tally_within inB
 cases decide (b≤a) <;> rfl
theorem inside_eq (a b c:Int):B_Inside a b c=some (inB a b c):=by
 unfold B_Inside inB
 rw [show decide (a≥b)=decide (b≤a) from rfl]
 cases decide (b≤a) <;> rfl
def tripsB (T f t:Int):Bool:=inB f 0 t&&decide (t < T)
theorem isTrips_eq (b:TallyBook) (f t:Int):tally_isTrips b f t=some (tripsB b.Trips f t):=by
 unfold tally_isTrips tripsB
 rw [within_eq]
 simp only [Option.bind_some]
 cases inB f 0 t <;> rfl
def cntB (T:Int) (x:TallyCount):Bool:=inB x.Who 0 2&&tripsB T x.From x.To&&inB x.Told 0 99&&inB x.Unit 1 20&&inB x.Under 0 30&&inB x.Over 0 30&&((x.Who != 1)||(x.Over==0))
theorem isCount_eq (b:TallyBook) (x:TallyCount):tally_isCount b x=some (cntB b.Trips x):=by
 unfold tally_isCount tally_isCount_j1 cntB
 simp only [within_eq,isTrips_eq,Option.bind_some]
 cases inB x.Who 0 2 <;> cases tripsB b.Trips x.From x.To <;> cases inB x.Told 0 99 <;> cases inB x.Unit 1 20 <;> cases inB x.Under 0 30 <;> cases inB x.Over 0 30 <;> cases (x.Who != 1) <;> rfl
def cntsB (T:Int) (l:List TallyCount):Bool:=l.all (cntB T)
def valB (b:TallyBook):Bool:=inB b.Trips 1 8&&inB b.Room 0 60&&decide ((b.Counts.length:Int)≤8)&&cntsB b.Trips b.Counts
theorem getI_lt {α:Type}{l:List α}{i:Int} (h0:0≤i) (h:i < l.length):∃ x,getI l i=some x∧l[i.toNat]? =some x:=by
 have hi:i.toNat < l.length:=by omega
 exact ⟨l[i.toNat],getI_of h0 (List.getElem?_eq_getElem hi),List.getElem?_eq_getElem hi⟩
theorem drop_get {α:Type}{l:List α}{k:Nat}{x:α} (h:l[k]? =some x):l.drop k=x::l.drop (k+1):=by
 obtain ⟨h1,rfl⟩:=List.getElem?_eq_some_iff.1 h
 exact List.drop_eq_getElem_cons h1
theorem check_loop (b:TallyBook) (hl:b.Counts.length≤9223372036854775807) (ok:Bool):loopF (tally_Check_l2 b) big (ok,0)=some (bif ok&&cntsB b.Trips b.Counts then 0 else 50):=by
 refine loopF_spec (fun s:Bool×Int=>0≤s.2∧s.2≤b.Counts.length) (fun s=>b.Counts.length - s.2.toNat) (fun s=>bif s.1&&cntsB b.Trips (b.Counts.drop s.2.toNat) then 0 else 50) ?_ big (ok,0) ⟨by simp,by simp⟩ (by unfold big; simp; omega)
 rintro rec ⟨ok,i⟩ ⟨h0,h1⟩ ih
 simp only at h0 h1 ih ⊢
 unfold tally_Check_l2
 simp only
 by_cases hi:i < b.Counts.length
 ·rw [decide_eq_true hi,cond_true]
  obtain ⟨x,hx,hx'⟩:=getI_lt h0 hi
  rw [hx,Option.bind_some]
  have hd:=drop_get hx'
  have hw:Fx.wr (i+1)=i+1:=wrI (by omega) (by omega)
  have e:(i+1).toNat=i.toNat+1:=by omega
  rw [hd,hw]
  cases ok with
  | true=>
    rw [cond_true,isCount_eq,Option.bind_some,ih _ ⟨by simp; omega,by simp; omega⟩ (by simp; omega)]
    simp only [e,cntsB,List.all_cons,Bool.true_and]
  | false=>
    rw [cond_false,ih _ ⟨by simp; omega,by simp; omega⟩ (by simp; omega)]
    simp
 ·rw [decide_eq_false hi,cond_false,show b.Counts.drop i.toNat=[] from List.drop_eq_nil_of_le (by omega)]
  cases ok <;> simp [cntsB]
theorem check_eq (b:TallyBook) (hl:b.Counts.length≤9223372036854775807):tally_Check b=some (bif valB b then 0 else 50):=by
 unfold tally_Check tally_Check_j3 valB
 simp only [within_eq,Option.bind_some,check_loop b hl]
 cases inB b.Trips 1 8 <;> cases inB b.Room 0 60 <;> simp
structure Val (b:TallyBook):Prop where
 t1:1≤b.Trips
 t8:b.Trips≤8
 r0:0≤b.Room
 r60:b.Room≤60
 l8:b.Counts.length≤8
 cs:∀ x∈b.Counts,cntB b.Trips x=true
structure Bk (b:TallyBook):Prop where
 t1:1≤b.Trips
 t8:b.Trips≤8
 r0:0≤b.Room
 r60:b.Room≤60
 l9:b.Counts.length≤9
 cs:∀ x∈b.Counts,cntB b.Trips x=true
theorem Val.bk {b:TallyBook} (h:Val b):Bk b:=⟨h.t1,h.t8,h.r0,h.r60,by have:=h.l8; omega,h.cs⟩
theorem val_iff {b:TallyBook}:valB b=true↔Val b:=by
 unfold valB cntsB
 simp only [Bool.and_eq_true,inB_iff,decide_eq_true_eq,List.all_eq_true]
 constructor
 ·rintro ⟨⟨⟨⟨a,b⟩,c,d⟩,e⟩,f⟩; exact ⟨a,b,c,d,by omega,f⟩
 ·rintro ⟨a,b,c,d,e,f⟩; exact ⟨⟨⟨⟨a,b⟩,c,d⟩,by omega⟩,f⟩
theorem check_ok {b:TallyBook} (h:Val b):tally_Check b=some 0:=by
 rw [check_eq b (by have:=h.l8; omega),val_iff.2 h]; rfl
structure Cnt (T:Int) (x:TallyCount):Prop where
 w0:0≤x.Who
 w2:x.Who≤2
 f0:0≤x.From
 ft:x.From≤x.To
 tT:x.To < T
 o0:0≤x.Told
 o99:x.Told≤99
 u1:1≤x.Unit
 u20:x.Unit≤20
 d0:0≤x.Under
 d30:x.Under≤30
 v0:0≤x.Over
 v30:x.Over≤30
 st:x.Who=1→x.Over=0
theorem cnt_iff {T:Int}{x:TallyCount}:cntB T x=true↔Cnt T x:=by
 unfold cntB tripsB
 simp only [Bool.and_eq_true,inB_iff,decide_eq_true_eq,Bool.or_eq_true,bne_iff_ne,beq_iff_eq]
 constructor
 ·intro h; obtain ⟨⟨⟨⟨⟨⟨⟨a,b⟩,⟨c,d⟩,e⟩,f,g⟩,h,i⟩,j,k⟩,l,m⟩,n⟩:=h
  exact ⟨a,b,c,d,e,f,g,h,i,j,k,l,m,fun h=>by omega⟩
 ·rintro ⟨a,b,c,d,e,f,g,h,i,j,k,l,m,n⟩
  exact ⟨⟨⟨⟨⟨⟨⟨a,b⟩,⟨c,d⟩,e⟩,f,g⟩,h,i⟩,j,k⟩,l,m⟩,by omega⟩
theorem Cnt.prod {T:Int}{x:TallyCount} (h:Cnt T x):0≤x.Told*x.Unit∧x.Told*x.Unit≤1980:=by
 have h1:=h.o0; have h2:=h.o99; have h3:=h.u1; have h4:=h.u20
 constructor
 ·exact Int.mul_nonneg h1 (by omega)
 ·have:x.Told*x.Unit≤99*20:=Int.mul_le_mul h2 h4 (by omega) (by omega)
  omega
def mostV (x:TallyCount):Int:=x.Told*x.Unit+x.Under
def leastV (x:TallyCount):Int:=x.Told*x.Unit - x.Over
theorem most_eq {T:Int}{x:TallyCount} (h:Cnt T x):tally_count_most x=some (mostV x):=by
 have:=h.prod; have:=h.d0; have:=h.d30
 unfold tally_count_most mostV
 rw [wrI (x:=x.Told*x.Unit) (by omega) (by omega),wrI (by omega) (by omega)]
theorem least_eq {T:Int}{x:TallyCount} (h:Cnt T x):tally_count_least x=some (leastV x):=by
 have:=h.prod; have:=h.v0; have:=h.v30
 unfold tally_count_least leastV
 rw [wrI (x:=x.Told*x.Unit) (by omega) (by omega),wrI (by omega) (by omega)]
theorem Cnt.bnds {T:Int}{x:TallyCount} (h:Cnt T x):0≤mostV x∧mostV x≤2010∧-30≤leastV x∧leastV x≤1980∧leastV x≤mostV x:=by
 have:=h.prod; have:=h.v0; have:=h.v30; have:=h.d0; have:=h.d30
 unfold mostV leastV
 omega
theorem getI_ix {α:Type}{l:List α}{k:Nat} (h:k < l.length):getI l (k:Int)=some l[k]:=by rw [getI_nat,List.getElem?_eq_getElem h]
theorem loop_fold {σ ρ:Type}{body:(σ→Option ρ)→σ→Option ρ} (S:Nat→σ) (n:Nat) {R:Option ρ} (hs:∀ rec k,k < n→body rec (S k)=rec (S (k+1))) (he:∀ rec,body rec (S n)=R) (hn:n < big):loopF body big (S 0)=R:=by
 have key:∀ d k m,k+d=n→d < m→loopF body m (S k)=R:=by
  intro d
  induction d with
  | zero=>
    intro k m h1 h2
    obtain ⟨m,rfl⟩:∃ q,m=q+1:=⟨m - 1,by omega⟩
    obtain rfl:k=n:=by omega
    exact he _
  | succ d ih=>
    intro k m h1 h2
    obtain ⟨m,rfl⟩:∃ q,m=q+1:=⟨m - 1,by omega⟩
    show body (loopF body m) (S k)=R
    rw [hs _ k (by omega)]
    exact ih (k+1) m (by omega) (by omega)
 exact key n 0 big (by omega) hn
theorem loop_fold0 {σ ρ:Type}{body:(σ→Option ρ)→σ→Option ρ} (S:Nat→σ) (n:Nat) {s0:σ}{R:Option ρ} (hs:∀ rec k,k < n→body rec (S k)=rec (S (k+1))) (he:∀ rec,body rec (S n)=R) (hn:n < big) (h0:S 0=s0):loopF body big s0=R:=h0▸loop_fold S n hs he hn
theorem big_eq:big=18446744073709551616:=by decide
def allTo {α:Type} (p:α→Bool) (l:List α) (ok:Bool) (k:Nat):Bool:=ok&&(l.take k).all p
theorem allTo_zero {α:Type}{p:α→Bool}{l:List α}{ok:Bool}:allTo p l ok 0=ok:=by simp [allTo]
theorem allTo_succ {α:Type}{p:α→Bool}{l:List α}{ok:Bool}{k:Nat} (h:k < l.length):allTo p l ok (k+1)=(allTo p l ok k&&p l[k]):=by
 unfold allTo
 rw [← List.take_append_getElem h,List.all_append]
 simp [Bool.and_assoc]
theorem allTo_end {α:Type}{p:α→Bool}{l:List α}{ok:Bool}:allTo p l ok l.length=(ok&&l.all p):=by simp [allTo]
theorem wrN {k:Nat}{n:Nat} (h:k < n) (hn:n≤9223372036854775807):Fx.wr ((k:Int)+1)=((k+1:Nat):Int):=by rw [wrI (by omega) (by omega)]; omega
end Go.Proofs.YtafhljljfglfeaaGreatDoor
namespace Go.Proofs.YtafhljljfglfeaaGreatDoor
open Go Go.Fx
theorem loopF_succ {σ ρ:Type}{body:(σ→Option ρ)→σ→Option ρ}{n:Nat}{s:σ}:loopF body (n+1) s=body (loopF body n) s:=rfl
def Steps (t r:Int) (q:Nat→Int):Prop:=∀ k:Nat,(k:Int) < t→q (k+1)≤q k+r∧q k≤q (k+1)
def CntQ (x:TallyCount) (q:Nat→Int):Prop:=leastV x≤q (x.To+1).toNat - q x.From.toNat∧q (x.To+1).toNat - q x.From.toNat≤mostV x
def CntsQ (l:List TallyCount) (out:TallyCount→Nat→Bool) (q:Nat→Int):Prop:=∀ i x,l[i]? =some x→out x i=false→CntQ x q
def Fit (b:TallyBook) (out:TallyCount→Nat→Bool) (q:Nat→Int):Prop:=Steps b.Trips b.Room q∧CntsQ b.Counts out q
end Go.Proofs.YtafhljljfglfeaaGreatDoor
namespace Go.Proofs.YtafhljljfglfeaaGreatDoor
open Go Go.Fx Go.Tally
def no:TallyCount→Nat→Bool:=fun _ _=>false
def CanBe (b:TallyBook):Prop:=∃ q,Fit b no q
theorem steps_bnd {t r:Int} (t8:t≤8) (r0:0≤r) (r60:r≤60) {q:Nat→Int} (h:Steps t r q):∀ (d a:Nat),((a+d:Nat):Int)≤t→0≤q (a+d) - q a∧q (a+d) - q a≤r*d:=by
 intro d
 induction d with
 | zero=>intro a _; simp
 | succ d ih=>
   intro a hk
   have h1:=ih a (by omega)
   have h2:=h (a+d) (by omega)
   rw [show a+(d+1)=a+d+1 by omega]
   have:r*((d+1:Nat):Int)=r*(d:Int)+r:=by rw [Int.natCast_add,Int.mul_add]; simp
   omega
theorem room_mul {b:TallyBook} (V:Bk b) {n:Int} (h0:0≤n) (h8:n≤8):0≤b.Room*n∧b.Room*n≤480:=by
 have:=V.r0; have:=V.r60
 constructor
 ·exact Int.mul_nonneg (by omega) h0
 ·have:b.Room*n≤60*8:=Int.mul_le_mul (by omega) h8 h0 (by omega)
  omega
end Go.Proofs.YtafhljljfglfeaaGreatDoor
namespace Go.Proofs.YtafhljljfglfeaaGreatDoor
open Go Go.Fx Go.Tally
def pre (u:List Int) (k:Nat):Int:=(u.take k).sum
theorem pre_succ {u:List Int}{k:Nat}{x:Int} (h:u[k]? =some x):pre u (k+1)=pre u k+x:=by
 unfold pre
 obtain ⟨h1,rfl⟩:=List.getElem?_eq_some_iff.1 h
 rw [List.take_succ_eq_append_getElem h1,List.sum_append]
 simp
theorem pre_cut {u:List Int}{a c:Nat} (h:a≤c):((u.take c).drop a).sum=pre u c - pre u a:=by
 unfold pre
 have:=List.take_append_drop a (u.take c)
 have h2:=congrArg List.sum this
 rw [List.sum_append,List.take_take,Nat.min_eq_left h] at h2
 omega
theorem sum_bnd {l:List Int} (h:∀ n∈l,0≤n∧n≤60):0≤l.sum∧l.sum≤60*l.length:=by
 induction l with
 | nil=>simp
 | cons x l ih=>
   have h1:=h x (List.mem_cons_self ..)
   have h2:=ih fun n hn=>h n (List.mem_cons_of_mem _ hn)
   simp only [List.sum_cons,List.length_cons]
   omega
theorem sum_eq {l:List Int} (hl:l.length≤8) (h:∀ n∈l,0≤n∧n≤60):tally_sum l=some l.sum:=by
 unfold tally_sum
 refine loopF_spec (body:=tally_sum_l1 l) (fun z:Int×Int=>∃ k:Nat,z.2=k∧k≤l.length∧z.1=pre l k) (fun z=>l.length - z.2.toNat) (fun _=>l.sum) ?_ big (0,0) ⟨0,rfl,Nat.zero_le _,by simp [pre]⟩ (by unfold big; simp; omega)
 rintro rec ⟨s,i⟩ ⟨k,rfl,hk,rfl⟩ ih
 simp only at ih ⊢
 unfold tally_sum_l1
 simp only
 by_cases hlt:k < l.length
 ·rw [decide_eq_true (by omega),cond_true,getI_nat,List.getElem?_eq_getElem hlt,Option.bind_some]
  have hx:=List.getElem?_eq_getElem hlt
  generalize l[k]=x at hx
  have h1:=h x (List.mem_of_getElem? hx)
  have h2:=sum_bnd (l:=l.take k) fun n hn=>h n (List.mem_of_mem_take hn)
  have h3:(l.take k).length≤8:=by simp; omega
  rw [show (l.take k).sum=pre l k from rfl] at h2
  rw [wrI (x:=pre l k+x) (by omega) (by omega),wrI (by omega) (by omega)]
  exact ih _ ⟨k+1,by simp,by omega,(pre_succ hx).symm⟩ (by (try simp only); omega)
 ·rw [decide_eq_false (by omega),cond_false]
  unfold pre
  rw [List.take_of_length_le (by omega)]
theorem cutI_eq {α:Type}{l:List α}{a c:Int} (h0:0≤a) (h1:a≤c) (h2:c≤l.length):cutI l a c=some ((l.take c.toNat).drop a.toNat):=by
 unfold cutI
 simp [h0,h1,h2]
theorem mem_cut {α:Type}{l:List α}{a c:Nat}{x:α} (h:x∈(l.take c).drop a):x∈l:=List.mem_of_mem_take (List.mem_of_mem_drop h)
structure Tru (b:TallyBook) (u:List Int):Prop where
 len:(u.length:Int)=b.Trips
 bnd:∀ n∈u,0≤n∧n≤b.Room
theorem Tru.steps {b:TallyBook}{u:List Int} (h:Tru b u):Steps b.Trips b.Room (pre u):=by
 intro k hk
 have hlt:k < u.length:=by have:=h.len; omega
 have hx:=List.getElem?_eq_getElem hlt
 have:=h.bnd _ (List.mem_of_getElem? hx)
 rw [pre_succ hx]
 omega
theorem count_right {b:TallyBook} (V:Bk b) {u:List Int} (hu:Tru b u) {x:TallyCount} (hx:Cnt b.Trips x):∃ r,tally_count_right x u=some r∧(r=true↔CntQ x (pre u)):=by
 have:=hu.len; have:=V.t8; have:=V.r60; have f0:=hx.f0; have ft:=hx.ft; have tT:=hx.tT
 unfold tally_count_right
 rw [wrI (x:=x.To+1) (by omega) (by omega),cutI_eq (by omega) (by omega) (by omega),Option.bind_some]
 rw [sum_eq (by simp; omega) (fun n hn=>by have:=hu.bnd n (mem_cut hn); omega),Option.bind_some,least_eq hx,Option.bind_some,most_eq hx,Option.bind_some,within_eq]
 refine ⟨_,rfl,?_⟩
 rw [inB_iff,pre_cut (by omega)]
 rfl
theorem can_law {b:TallyBook} (V:Val b) {u:List Int} (hu:Tru b u):∃ r,tally_Can b u=some (r,0)∧(r=true↔Fit b no (pre u)):=by
 have hlen:=hu.len; have t8:=V.t8; have l8:=V.l8
 have second:∃ p,loopF (tally_Can_l2 b u) big 0=some p∧p.2=0∧(p.1=true↔Fit b no (pre u)):=by
  refine loopF_inv (body:=tally_Can_l2 b u) (fun z:Int=>∃ k:Nat,z=k∧k≤b.Counts.length∧∀ j x,j < k→b.Counts[j]? =some x→CntQ x (pre u)) (fun z=>b.Counts.length - z.toNat) (fun p=>p.2=0∧(p.1=true↔Fit b no (pre u))) ?_ big 0 ⟨0,rfl,Nat.zero_le _,fun j x h=>absurd h (Nat.not_lt_zero j)⟩ (by unfold big; simp; omega)
  rintro rec z ⟨k,rfl,hk,hq⟩ ih
  unfold tally_Can_l2
  by_cases hlt:k < b.Counts.length
  ·rw [decide_eq_true (by omega),cond_true,getI_nat,List.getElem?_eq_getElem hlt,Option.bind_some]
   have hx:=List.getElem?_eq_getElem hlt
   generalize b.Counts[k]=x at hx
   obtain ⟨r,hr,hi⟩:=count_right V.bk hu (cnt_iff.1 (V.cs x (List.mem_of_getElem? hx)))
   rw [hr,Option.bind_some]
   cases r with
   | false=>
     refine ⟨_,rfl,rfl,?_⟩
     simp only [Bool.false_eq_true,false_iff]
     intro h
     have:=hi.2 (h.2 k x hx rfl)
     cases this
   | true=>
     rw [Bool.not_true,cond_false,wrI (by omega) (by omega)]
     refine ih _ ⟨k+1,by simp,by omega,fun j y hj hy=>?_⟩ (by (try simp only); omega)
     by_cases hjk:j=k
     ·subst hjk; rw [hx] at hy; cases hy; exact hi.1 rfl
     ·exact hq j y (by omega) hy
  ·rw [decide_eq_false (by omega),cond_false]
   refine ⟨_,rfl,rfl,?_⟩
   simp only [true_iff]
   exact ⟨hu.steps,fun j x hx _=>hq j x (by have:=(List.getElem?_eq_some_iff.1 hx).1; omega) hx⟩
 obtain ⟨⟨p1,p2⟩,hp,hp0,hpi⟩:=second
 simp only at hp0 hpi
 subst hp0
 refine ⟨p1,?_,hpi⟩
 unfold tally_Can
 rw [check_ok V,Option.bind_some]
 simp only [bne_self_eq_false,cond_false]
 rw [show ((u.length:Int) != b.Trips)=false by simp [hlen],cond_false]
 refine loopF_spec (body:=tally_Can_l3 u b) (fun z:Int=>∃ k:Nat,z=k∧k≤u.length) (fun z=>u.length - z.toNat) (fun _=>(p1,0)) ?_ big 0 ⟨0,rfl,Nat.zero_le _⟩ (by unfold big; simp; omega)
 rintro rec z ⟨k,rfl,hk⟩ ih
 unfold tally_Can_l3
 by_cases hlt:k < u.length
 ·rw [decide_eq_true (by omega),cond_true,getI_nat,List.getElem?_eq_getElem hlt,Option.bind_some]
  have hx:=List.getElem?_eq_getElem hlt
  rw [within_eq,Option.bind_some,inB_iff.2 (hu.bnd _ (List.mem_of_getElem? hx)),Bool.not_true,cond_false,wrI (by omega) (by omega)]
  exact ih _ ⟨k+1,by simp,by omega⟩ (by (try simp only); omega)
 ·rw [decide_eq_false (by omega),cond_false,hp]
end Go.Proofs.YtafhljljfglfeaaGreatDoor
namespace Go.Proofs.YtafhljljfglfeaaGreatDoor
open Go Go.Fx Go.Tally
theorem withinT_eq (a b c:Int):ticket_within a b c=some (inB a b c):=by
 unfold ticket_within inB
 cases decide (b≤a) <;> rfl
structure ArgT (b:TicketBook):Prop where
 cl:b.Tally.Counts.length≤9223372036854775807
 tl:b.Tickets.length≤9223372036854775807
 sl:b.Shows.length≤9223372036854775807
 bl:b.Boxes.length≤9223372036854775807
def seasB (T:Int) (x:TicketSeason):Bool:=inB x.From 0 (T - 1)&&inB x.To 0 (T - 1)&&decide (x.From≤x.To)
def showB (T:Int) (m:Nat) (x:TicketShow):Bool:=inB x.Trip 0 (T - 1)&&inB x.Ticket 0 ((m:Int) - 1)&&inB x.Walker 0 9
def boxB (T:Int) (x:TicketBox):Bool:=inB x.From 0 (T - 1)&&inB x.To 0 (T - 1)&&decide (x.From≤x.To)&&inB x.Pence 0 400&&inB x.Lost 0 40
theorem isTrip_eq (b:TicketBook) (h:1≤b.Tally.Trips) (h2:b.Tally.Trips≤8) (n:Int):ticket_isTrip b n=some (inB n 0 (b.Tally.Trips - 1)):=by
 unfold ticket_isTrip
 rw [wrI (by omega) (by omega),withinT_eq]; rfl
theorem isTicket_eq (b:TicketBook) (h:b.Tickets.length≤9223372036854775807) (n:Int):ticket_isTicket b n=some (inB n 0 ((b.Tickets.length:Int) - 1)):=by
 unfold ticket_isTicket
 rw [wrI (by omega) (by omega),withinT_eq]; rfl
theorem isBox_eq (b:TicketBook) (h:1≤b.Tally.Trips) (h2:b.Tally.Trips≤8) (x:TicketBox):ticket_isBox b x=some (boxB b.Tally.Trips x):=by
 unfold ticket_isBox boxB
 simp only [isTrip_eq b h h2,withinT_eq,Option.bind_some]
 cases inB x.From 0 (b.Tally.Trips - 1) <;> cases inB x.To 0 (b.Tally.Trips - 1) <;> cases decide (x.From≤x.To) <;> cases inB x.Pence 0 400 <;> cases inB x.Lost 0 40 <;> rfl
theorem allTo_ok {α:Type}{p:α→Bool}{l:List α}{ok:Bool}{k:Nat} (h:allTo p l ok k=true):ok=true:=by
 unfold allTo at h; rw [Bool.and_eq_true] at h; exact h.1
theorem checkT_tail (b:TicketBook) (A:ArgT b) (ok:Bool) (hT:ok=true→1≤b.Tally.Trips∧b.Tally.Trips≤8):ticket_Check_j7 b ok=some (bif ok&&b.Tickets.all (seasB b.Tally.Trips)&&b.Shows.all (showB b.Tally.Trips b.Tickets.length)&&b.Boxes.all (boxB b.Tally.Trips) then 0 else 100):=by
 have h1:=A.tl; have h2:=A.sl; have h3:=A.bl
 unfold ticket_Check_j7
 refine loop_fold0 (fun k=>(allTo (seasB b.Tally.Trips) b.Tickets ok k,(k:Int))) b.Tickets.length (fun rec k hk=>?_) (fun rec=>?_) (by rw [big_eq]; omega) (by rw [allTo_zero]; rfl)
 ·unfold ticket_Check_l6
  simp only
  rw [decide_eq_true (by omega),cond_true,getI_ix hk,Option.bind_some,wrN hk h1,allTo_succ hk]
  have e:seasB b.Tally.Trips b.Tickets[k]=(inB b.Tickets[k].From 0 (b.Tally.Trips - 1)&&inB b.Tickets[k].To 0 (b.Tally.Trips - 1)&&decide (b.Tickets[k].From≤b.Tickets[k].To)):=rfl
  rw [e]
  cases ha:allTo (seasB b.Tally.Trips) b.Tickets ok k with
  | false=>rfl
  | true=>
    have:=hT (allTo_ok ha)
    simp only [isTrip_eq b this.1 this.2,Option.bind_some]
    cases inB b.Tickets[k].From 0 (b.Tally.Trips - 1) <;> cases inB b.Tickets[k].To 0 (b.Tally.Trips - 1) <;> rfl
 unfold ticket_Check_l6
 simp only
 rw [decide_eq_false (by omega),cond_false,allTo_end]
 have hT:(ok&&b.Tickets.all (seasB b.Tally.Trips))=true→1≤b.Tally.Trips∧b.Tally.Trips≤8:=fun h=>hT (by rw [Bool.and_eq_true] at h; exact h.1)
 generalize (ok&&b.Tickets.all (seasB b.Tally.Trips))=ok at hT
 refine loop_fold0 (fun k=>(allTo (showB b.Tally.Trips b.Tickets.length) b.Shows ok k,(k:Int))) b.Shows.length (fun rec k hk=>?_) (fun rec=>?_) (by rw [big_eq]; omega) (by rw [allTo_zero]; rfl)
 ·unfold ticket_Check_l5
  simp only
  rw [decide_eq_true (by omega),cond_true,getI_ix hk,Option.bind_some,wrN hk h2,allTo_succ hk]
  have e:showB b.Tally.Trips b.Tickets.length b.Shows[k]=(inB b.Shows[k].Trip 0 (b.Tally.Trips - 1)&&inB b.Shows[k].Ticket 0 ((b.Tickets.length:Int) - 1)&&inB b.Shows[k].Walker 0 9):=rfl
  rw [e]
  cases ha:allTo (showB b.Tally.Trips b.Tickets.length) b.Shows ok k with
  | false=>rfl
  | true=>
    have:=hT (allTo_ok ha)
    simp only [isTrip_eq b this.1 this.2,isTicket_eq b h1,withinT_eq,Option.bind_some]
    cases inB b.Shows[k].Trip 0 (b.Tally.Trips - 1) <;> cases inB b.Shows[k].Ticket 0 ((b.Tickets.length:Int) - 1) <;> rfl
 unfold ticket_Check_l5
 simp only
 rw [decide_eq_false (by omega),cond_false,allTo_end]
 have hT:(ok&&b.Shows.all (showB b.Tally.Trips b.Tickets.length))=true→1≤b.Tally.Trips∧b.Tally.Trips≤8:=fun h=>hT (by rw [Bool.and_eq_true] at h; exact h.1)
 generalize (ok&&b.Shows.all (showB b.Tally.Trips b.Tickets.length))=ok at hT
 refine loop_fold0 (fun k=>(allTo (boxB b.Tally.Trips) b.Boxes ok k,(k:Int))) b.Boxes.length (fun rec k hk=>?_) (fun rec=>?_) (by rw [big_eq]; omega) (by rw [allTo_zero]; rfl)
 ·unfold ticket_Check_l4
  simp only
  rw [decide_eq_true (by omega),cond_true,getI_ix hk,Option.bind_some,wrN hk h3,allTo_succ hk]
  cases ha:allTo (boxB b.Tally.Trips) b.Boxes ok k with
  | false=>rfl
  | true=>
    have:=hT (allTo_ok ha)
    rw [cond_true,isBox_eq b this.1 this.2]
    rfl
 unfold ticket_Check_l4
 simp only
 rw [decide_eq_false (by omega),cond_false,allTo_end]
 cases (ok&&b.Boxes.all (boxB b.Tally.Trips)) <;> rfl
def valT (b:TicketBook):Bool:=valB b.Tally&&decide (b.Tally.Trips≤3)&&decide (b.Tally.Room≤5)&&inB b.Fare 1 20&&decide ((b.Tickets.length:Int)≤3)&&decide ((b.Shows.length:Int)≤5)&&decide ((b.Boxes.length:Int)≤3)&&b.Tickets.all (seasB b.Tally.Trips)&&b.Shows.all (showB b.Tally.Trips b.Tickets.length)&&b.Boxes.all (boxB b.Tally.Trips)
theorem checkT_eq (b:TicketBook) (A:ArgT b):ticket_Check b=some (bif valT b then 0 else 100):=by
 unfold ticket_Check valT
 rw [check_eq _ A.cl]
 have f:=checkT_tail b A false (fun h=>by cases h)
 simp only [Bool.false_and,cond_false] at f
 cases hv:valB b.Tally with
 | false=>simp only [cond_false,Option.bind_some,Bool.false_and]; exact f
 | true=>
   have V:=val_iff.1 hv
   have t:=fun ok=>checkT_tail b A ok (fun _=>⟨V.t1,V.t8⟩)
   simp only [withinT_eq,Option.bind_some,t,cond_true,beq_self_eq_true]
   cases decide (b.Tally.Trips≤3) <;> cases decide (b.Tally.Room≤5) <;> cases inB b.Fare 1 20 <;> cases decide ((b.Tickets.length:Int)≤3) <;> cases decide ((b.Shows.length:Int)≤5) <;> rfl
structure Seas (T:Int) (x:TicketSeason):Prop where
 f0:0≤x.From
 ft:x.From≤x.To
 tT:x.To < T
structure Shw (T:Int) (m:Nat) (x:TicketShow):Prop where
 t0:0≤x.Trip
 tT:x.Trip < T
 n0:0≤x.Ticket
 nm:x.Ticket < m
 w0:0≤x.Walker
 w9:x.Walker≤9
structure Box (T:Int) (x:TicketBox):Prop where
 f0:0≤x.From
 ft:x.From≤x.To
 tT:x.To < T
 p0:0≤x.Pence
 p4:x.Pence≤400
 l0:0≤x.Lost
 l4:x.Lost≤40
theorem seas_iff {T:Int}{x:TicketSeason}:seasB T x=true↔Seas T x:=by
 unfold seasB; simp only [Bool.and_eq_true,inB_iff,decide_eq_true_eq]
 exact ⟨fun ⟨⟨⟨a,b⟩,c,d⟩,e⟩=>⟨a,e,by omega⟩,fun ⟨a,b,c⟩=>⟨⟨⟨a,by omega⟩,by omega,by omega⟩,b⟩⟩
theorem shw_iff {T:Int}{m:Nat}{x:TicketShow}:showB T m x=true↔Shw T m x:=by
 unfold showB; simp only [Bool.and_eq_true,inB_iff,decide_eq_true_eq]
 exact ⟨fun ⟨⟨⟨a,b⟩,c,d⟩,e,f⟩=>⟨a,by omega,c,by omega,e,f⟩,fun ⟨a,b,c,d,e,f⟩=>⟨⟨⟨a,by omega⟩,c,by omega⟩,e,f⟩⟩
theorem box_iff {T:Int}{x:TicketBox}:boxB T x=true↔Box T x:=by
 unfold boxB; simp only [Bool.and_eq_true,inB_iff,decide_eq_true_eq]
 exact ⟨fun ⟨⟨⟨⟨⟨a,b⟩,c,d⟩,e⟩,f,g⟩,h,i⟩=>⟨a,e,by omega,f,g,h,i⟩,fun ⟨a,b,c,d,e,f,g⟩=>⟨⟨⟨⟨⟨a,by omega⟩,by omega,by omega⟩,b⟩,d,e⟩,f,g⟩⟩
structure VT (b:TicketBook):Prop where
 ta:Val b.Tally
 t3:b.Tally.Trips≤3
 r5:b.Tally.Room≤5
 f1:1≤b.Fare
 f20:b.Fare≤20
 tn:b.Tickets.length≤3
 sn:b.Shows.length≤5
 bn:b.Boxes.length≤3
 te:∀ x∈b.Tickets,Seas b.Tally.Trips x
 sh:∀ x∈b.Shows,Shw b.Tally.Trips b.Tickets.length x
 bx:∀ x∈b.Boxes,Box b.Tally.Trips x
theorem valT_iff {b:TicketBook}:valT b=true↔VT b:=by
 unfold valT
 simp only [Bool.and_eq_true,val_iff,inB_iff,decide_eq_true_eq,List.all_eq_true,seas_iff,shw_iff,box_iff]
 exact ⟨fun ⟨⟨⟨⟨⟨⟨⟨⟨⟨a,b⟩,c⟩,d,e⟩,f⟩,g⟩,h⟩,i⟩,j⟩,k⟩=>⟨a,b,c,d,e,by omega,by omega,by omega,i,j,k⟩,fun ⟨a,b,c,d,e,f,g,h,i,j,k⟩=>⟨⟨⟨⟨⟨⟨⟨⟨⟨a,b⟩,c⟩,d,e⟩,by omega⟩,by omega⟩,by omega⟩,i⟩,j⟩,k⟩⟩
theorem VT.arg {b:TicketBook} (V:VT b):ArgT b:=⟨by have:=V.ta.l8; omega,by have:=V.tn; omega,by have:=V.sn; omega,by have:=V.bn; omega⟩
theorem checkT_ok {b:TicketBook} (V:VT b):ticket_Check b=some 0:=by
 rw [checkT_eq b V.arg,valT_iff.2 V]; rfl
end Go.Proofs.YtafhljljfglfeaaGreatDoor
namespace Go.Proofs.YtafhljljfglfeaaGreatDoor
open Go Go.Fx
def Clm (l:List Int) (n:Int):Prop:=∀ (k:Nat) (x:Int),l[k]? =some x→0≤x∧x < n∧∀ y,0 < k→l[k - 1]? =some y→y < x
theorem Clm.nil {n:Int}:Clm [] n:=fun k x h=>by simp at h
theorem Clm.snoc {l:List Int}{n v:Int} (h:Clm l n) (h0:0≤v) (h1:v < n) (h2:∀ y,l.getLast? =some y→y < v):Clm (l++[v]) n:=by
 intro k x hx
 by_cases hk:k < l.length
 ·rw [List.getElem?_append_left hk] at hx
  obtain ⟨a1,a2,a3⟩:=h k x hx
  refine ⟨a1,a2,fun y h0 hy=>a3 y h0 ?_⟩
  rwa [List.getElem?_append_left (by omega)] at hy
 ·rw [List.getElem?_append_right (by omega),List.getElem?_singleton] at hx
  split at hx
  ·cases hx
   refine ⟨h0,h1,fun y hk0 hy=>h2 y ?_⟩
   rw [List.getElem?_append_left (by omega)] at hy
   rw [List.getLast?_eq_getElem?,← hy]
   congr 1; omega
  ·cases hx
theorem Clm.lt {l:List Int}{n:Int} (h:Clm l n):∀ (d i:Nat) (x y:Int),l[i]? =some x→l[i+d+1]? =some y→x < y:=by
 intro d
 induction d with
 | zero=>intro i x y hx hy; exact (h (i+1) y hy).2.2 x (by omega) (by simpa using hx)
 | succ d ih=>
   intro i x y hx hy
   have hlt:i+d+1 < l.length:=by have:=(List.getElem?_eq_some_iff.1 hy).1; omega
   have h1:=ih i x _ hx (List.getElem?_eq_getElem hlt)
   have h2:=(h (i+(d+1)+1) y hy).2.2 _ (by omega) (by rw [show i+(d+1)+1 - 1=i+d+1 by omega]; exact List.getElem?_eq_getElem hlt)
   omega
theorem Clm.len {l:List Int}{n:Int} (h:Clm l n) (h0:0≤n):(l.length:Int)≤n:=by
 have:∀ (k:Nat) (x:Int),l[k]? =some x→(k:Int)≤x:=by
  intro k
  induction k with
  | zero=>intro x hx; have:=(h 0 x hx).1; omega
  | succ k ih=>
    intro x hx
    have hlt:k < l.length:=by have:=(List.getElem?_eq_some_iff.1 hx).1; omega
    have h1:=ih _ (List.getElem?_eq_getElem hlt)
    have h2:=h.lt 0 k _ x (List.getElem?_eq_getElem hlt) hx
    omega
 by_cases hl:l.length=0
 ·omega
 ·have hlt:l.length - 1 < l.length:=by omega
  have h1:=this _ _ (List.getElem?_eq_getElem hlt)
  have h2:=(h _ _ (List.getElem?_eq_getElem hlt)).2.1
  omega
structure Ext (n:Nat) (l:List Int) (many:Nat) (o:List Int):Prop where
 len:o.length=many
 clm:Clm o n
 pre:∀ (i:Nat) (x:Int),l[i]? =some x→o[i]? =some x
def LexLt (o w:List Int):Prop:=∃ (i:Nat) (x y:Int),o[i]? =some x∧w[i]? =some y∧x < y∧∀ j,j < i→o[j]? =w[j]?
theorem Ext.more {n many:Nat}{l o:List Int}{x:Int} (h:Ext n l many o) (hx:o[l.length]? =some x):Ext n (l++[x]) many o:=by
 refine ⟨h.len,h.clm,fun i y hy=>?_⟩
 by_cases hi:i < l.length
 ·rw [List.getElem?_append_left hi] at hy; exact h.pre i y hy
 ·rw [List.getElem?_append_right (by omega),List.getElem?_singleton] at hy
  split at hy
  ·cases hy; rw [show i=l.length by omega]; exact hx
  ·cases hy
theorem Ext.less {n many:Nat}{l o:List Int}{x:Int} (h:Ext n (l++[x]) many o):Ext n l many o∧o[l.length]? =some x:=by
 refine ⟨⟨h.len,h.clm,fun i y hy=>h.pre i y ?_⟩,h.pre _ _ (by simp)⟩
 rw [List.getElem?_append_left (List.getElem?_eq_some_iff.1 hy).1]; exact hy
def allL (n:Nat):List Int:=(List.range n).map Int.ofNat
theorem allL_clm (n:Nat):Clm (allL n) n:=by
 have get:∀ (k:Nat) (x:Int),(allL n)[k]? =some x→x=k∧k < n:=by
  intro k x h
  unfold allL at h
  rw [List.getElem?_map] at h
  obtain ⟨y,hy,rfl⟩:=Option.map_eq_some_iff.1 h
  have hk:k < n:=by simpa using (List.getElem?_eq_some_iff.1 hy).1
  rw [List.getElem?_range hk] at hy
  cases hy
  exact ⟨rfl,hk⟩
 intro k x h
 obtain ⟨rfl,hk⟩:=get k x h
 refine ⟨by omega,by omega,fun y h0 hy=>?_⟩
 obtain ⟨rfl,_⟩:=get _ y hy
 omega
theorem fits_of {m bb:Nat} (h:m≤1000000000) (hb:bb≤100000):fitsL m bb=true:=by
 unfold fitsL
 refine decide_eq_true ?_
 have:m*bb≤1000000000*100000:=Nat.mul_le_mul h hb
 omega
theorem fits_small {m bb:Nat} (h:m≤1000000) (hb:bb≤1000):fitsL m bb=true:=fits_of (by omega) (by omega)
theorem shr_nat (s k:Nat) (hk:k < 64):shrI (s:Int) (k:Int)=((s / 2 ^ k:Nat):Int):=by
 unfold shrI
 rw [show min ((k:Int).toNat) 64=k by simp; omega,Int.fdiv_eq_ediv_of_nonneg _ (by exact_mod_cast Int.natCast_nonneg (2 ^ k))]
 simp
theorem and1_nat (m:Nat):andI (m:Int) 1=((m % 2:Nat):Int):=by
 unfold andI
 have h1:BitVec.ofInt 64 (m:Int)=BitVec.ofNat 64 m:=BitVec.ofInt_natCast 64 m
 have h2:BitVec.ofInt 64 1=BitVec.ofNat 64 1:=rfl
 rw [h1,h2,BitVec.toNat_and]
 simp only [BitVec.toNat_ofNat]
 have:m % 2 ^ 64 &&& 1 % 2 ^ 64=m % 2:=by
  rw [show 1 % 2 ^ 64=1 by decide,Nat.and_one_is_mod]; omega
 rw [this,wrI (by omega) (by omega)]
theorem member_nat (s k:Nat) (hk:k < 64):B_Member (s:Int) (k:Int)=some (s.testBit k):=by
 unfold B_Member
 rw [need_of (by simp),shr_nat s k hk,and1_nat,Nat.testBit_eq_decide_div_mod_eq]
 congr 1
 rw [Bool.eq_iff_iff]
 simp only [beq_iff_eq,decide_eq_true_eq]
 omega
theorem shl1_nat (k:Nat) (hk:k < 32):shlI 1 (k:Int)=((2 ^ k:Nat):Int):=by
 unfold shlI
 rw [show min ((k:Int).toNat) 64=k by simp; omega]
 have h1:2 ^ k≤2 ^ 32:=Nat.pow_le_pow_right (by omega) (by omega)
 have h2:(1:Int)*2 ^ k=((2 ^ k:Nat):Int):=by simp
 rw [h2]
 generalize 2 ^ k=m at h1
 exact wrI (by omega) (by omega)
theorem or_nat (s t:Nat) (hs:s < 2 ^ 32) (ht:t < 2 ^ 32):orI (s:Int) (t:Int)=((s ||| t:Nat):Int):=by
 unfold orI
 have h1:BitVec.ofInt 64 (s:Int)=BitVec.ofNat 64 s:=BitVec.ofInt_natCast 64 s
 have h2:BitVec.ofInt 64 (t:Int)=BitVec.ofNat 64 t:=BitVec.ofInt_natCast 64 t
 have h3:s ||| t < 2 ^ 32:=Nat.or_lt_two_pow hs ht
 rw [h1,h2,BitVec.toNat_or,BitVec.toNat_ofNat,BitVec.toNat_ofNat,Nat.mod_eq_of_lt (by omega),Nat.mod_eq_of_lt (by omega),wrI (by omega) (by omega)]
def memL (s n:Nat):List Int:=((List.range n).filter fun k=>s.testBit k).map Int.ofNat
theorem memL_succ (s n:Nat):memL s (n+1)=memL s n++(if s.testBit n=true then [(n:Int)] else []):=by
 unfold memL
 rw [List.range_succ,List.filter_append,List.map_append]
 congr 1
 by_cases h:s.testBit n=true <;> simp [h]
theorem mem_memL {s n:Nat}{x:Int}:x∈memL s n↔∃ k:Nat,x=k∧k < n∧s.testBit k=true:=by
 unfold memL
 rw [List.mem_map]
 constructor
 ·rintro ⟨k,hk,rfl⟩
  obtain ⟨h1,h2⟩:=List.mem_filter.1 hk
  exact ⟨k,rfl,List.mem_range.1 h1,h2⟩
 ·rintro ⟨k,rfl,h1,h2⟩
  exact ⟨k,List.mem_filter.2 ⟨List.mem_range.2 h1,h2⟩,rfl⟩
theorem memL_len (s n:Nat):(memL s n).length≤n:=by
 unfold memL
 rw [List.length_map]
 have:=List.length_filter_le (fun k=>s.testBit k) (List.range n)
 simpa using this
theorem members_nat (s:Nat) {n:Nat} (hn:n≤32):B_Members (s:Int) (n:Int)=some (memL s n):=by
 unfold B_Members
 refine Exists.elim (loopF_inv (body:=B_Members_l2 n s) (fun z:List Int×Int=>∃ k:Nat,k≤n∧z=(memL s k,(k:Int))) (fun z=>n - z.2.toNat) (fun l=>l=memL s n) ?_ big ([],0) ⟨0,Nat.zero_le _,rfl⟩ (by unfold big; simp; omega)) fun r ⟨h1,h2⟩=>by rw [h1,h2]
 rintro rec z ⟨k,hk,rfl⟩ ih
 unfold B_Members_l2
 simp only
 by_cases hlt:k < n
 ·rw [decide_eq_true (by omega),cond_true,member_nat s k (by omega),Option.bind_some,wrI (by omega) (by omega)]
  have hl:=memL_len s k
  cases hb:s.testBit k
  ·rw [cond_false]
   exact ih _ ⟨k+1,by omega,by rw [memL_succ,hb]; simp⟩ (by (try simp); omega)
  ·rw [cond_true,need_of (fits_small (by simp; omega) (by omega))]
   exact ih _ ⟨k+1,by omega,by rw [memL_succ,hb]; simp⟩ (by (try simp); omega)
 ·rw [decide_eq_false (by omega),cond_false]
  have:k=n:=by omega
  subst this
  exact ⟨_,rfl,rfl⟩
theorem Clm.pair {l:List Int}{n:Int} (h:Clm l n):l.Pairwise (· < ·):=by
 rw [List.pairwise_iff_getElem]
 intro i j hi hj hij
 refine h.lt (j - i - 1) i _ _ (List.getElem?_eq_getElem hi) ?_
 rw [show i+(j - i - 1)+1=j by omega]
 exact List.getElem?_eq_getElem hj
theorem pair_clm {l:List Int}{n:Int} (h:l.Pairwise (· < ·)) (hb:∀ x∈l,0≤x∧x < n):Clm l n:=by
 intro k x hx
 have:=hb x (List.mem_of_getElem? hx)
 refine ⟨this.1,this.2,fun y h0 hy=>?_⟩
 obtain ⟨h1,rfl⟩:=List.getElem?_eq_some_iff.1 hx
 obtain ⟨h2,rfl⟩:=List.getElem?_eq_some_iff.1 hy
 exact List.pairwise_iff_getElem.1 h (k - 1) k h2 h1 (by omega)
theorem pair_ext:∀ {a b:List Int},a.Pairwise (· < ·)→b.Pairwise (· < ·)→(∀ x,x∈a↔x∈b)→a=b
 | [],[],_,_,_=>rfl
 | [],y::b,_,_,h=>absurd ((h y).2 (List.mem_cons_self ..)) (List.not_mem_nil)
 | x::a,[],_,_,h=>absurd ((h x).1 (List.mem_cons_self ..)) (List.not_mem_nil)
 | x::a,y::b,ha,hb,h=>by
   rw [List.pairwise_cons] at ha hb
   have e:x=y:=by
    rcases List.mem_cons.1 ((h x).1 (List.mem_cons_self ..)) with h1 | h1
    ·exact h1
    ·rcases List.mem_cons.1 ((h y).2 (List.mem_cons_self ..)) with h2 | h2
     ·exact h2.symm
     ·have:=ha.1 y h2; have:=hb.1 x h1; omega
   subst e
   congr 1
   refine pair_ext ha.2 hb.2 fun z=>?_
   constructor
   ·intro hz
    rcases List.mem_cons.1 ((h z).1 (List.mem_cons_of_mem _ hz)) with h1 | h1
    ·have:=ha.1 z hz; omega
    ·exact h1
   ·intro hz
    rcases List.mem_cons.1 ((h z).2 (List.mem_cons_of_mem _ hz)) with h1 | h1
    ·have:=hb.1 z hz; omega
    ·exact h1
theorem range_pair (n:Nat):(List.range n).Pairwise (· < ·):=List.pairwise_lt_range
theorem memL_clm (s n:Nat):Clm (memL s n) n:=by
 refine pair_clm ?_ fun x hx=>?_
 ·unfold memL
  rw [List.pairwise_map]
  exact ((range_pair n).sublist List.filter_sublist).imp fun {a b} h=>by show (a:Int) < (b:Int); omega
 ·obtain ⟨k,rfl,h,_⟩:=mem_memL.1 hx
  omega
def setL:List Int→Nat
 | []=>0
 | x::l=>2 ^ x.toNat ||| setL l
theorem setL_bit:∀ {l:List Int}{k:Nat},(∀ x∈l,0≤x)→((setL l).testBit k=true↔(k:Int)∈l)
 | [],k,_=>by simp [setL]
 | x::l,k,h=>by
   have h0:=h x (List.mem_cons_self ..)
   rw [setL,Nat.testBit_or,Bool.or_eq_true,setL_bit fun y hy=>h y (List.mem_cons_of_mem _ hy),List.mem_cons,Nat.testBit_two_pow]
   simp only [decide_eq_true_eq]
   constructor
   ·rintro (h1 | h1)
    ·left; omega
    ·exact .inr h1
   ·rintro (h1 | h1)
    ·left; omega
    ·exact .inr h1
theorem setL_lt:∀ {l:List Int}{n:Nat},(∀ x∈l,0≤x∧x < n)→setL l < 2 ^ n
 | [],n,_=>by rw [setL]; exact Nat.two_pow_pos n
 | x::l,n,h=>by
   have h0:=h x (List.mem_cons_self ..)
   exact Nat.or_lt_two_pow (Nat.pow_lt_pow_right (by omega) (by omega)) (setL_lt fun y hy=>h y (List.mem_cons_of_mem _ hy))
theorem clm_set {o:List Int}{n:Nat} (h:Clm o n):∃ s,s < 2 ^ n∧memL s n=o:=by
 have hb:∀ x∈o,0≤x∧x < (n:Int):=fun x hx=>by
  obtain ⟨k,hk,rfl⟩:=List.getElem_of_mem hx
  have:=h k _ (List.getElem?_eq_getElem hk)
  exact ⟨this.1,this.2.1⟩
 refine ⟨setL o,setL_lt hb,pair_ext (memL_clm _ _).pair h.pair fun x=>?_⟩
 rw [mem_memL]
 constructor
 ·rintro ⟨k,rfl,_,hk⟩; exact (setL_bit fun y hy=>(hb y hy).1).1 hk
 ·intro hx
  have:=hb x hx
  refine ⟨x.toNat,by omega,by omega,(setL_bit fun y hy=>(hb y hy).1).2 ?_⟩
  rwa [show ((x.toNat:Nat):Int)=x by omega]
def Btr (o w:List Int):Prop:=o.length < w.length∨(o.length=w.length∧LexLt o w)
theorem LexLt.trans {a b c:List Int} (h:LexLt a b) (k:LexLt b c):LexLt a c:=by
 obtain ⟨i,x,y,h1,h2,h3,h4⟩:=h
 obtain ⟨j,u,v,k1,k2,k3,k4⟩:=k
 rcases Nat.lt_trichotomy i j with e | e | e
 ·exact ⟨i,x,y,h1,by rw [← k4 i e]; exact h2,h3,fun m hm=>by rw [h4 m hm,k4 m (by omega)]⟩
 ·subst e
  rw [h2] at k1; have:=Option.some.inj k1
  exact ⟨i,x,v,h1,k2,by omega,fun m hm=>by rw [h4 m hm,k4 m hm]⟩
 ·exact ⟨j,u,v,by rw [h4 j e]; exact k1,k2,k3,fun m hm=>by rw [h4 m (by omega),k4 m hm]⟩
theorem LexLt.irr {a:List Int} (h:LexLt a a):False:=by
 obtain ⟨i,x,y,h1,h2,h3,_⟩:=h
 rw [h1] at h2; have:=Option.some.inj h2; omega
theorem Btr.trans {a b c:List Int} (h:Btr a b) (k:Btr b c):Btr a c:=by
 rcases h with h | ⟨h,h'⟩ <;> rcases k with k | ⟨k,k'⟩
 ·exact .inl (by omega)
 ·exact .inl (by omega)
 ·exact .inl (by omega)
 ·exact .inr ⟨by omega,h'.trans k'⟩
theorem lex_total:∀ {o w:List Int},o.length=w.length→o=w∨LexLt o w∨LexLt w o
 | [],[],_=>.inl rfl
 | [],_::_,h=>by simp at h
 | _::_,[],h=>by simp at h
 | x::o,y::w,h=>by
   rcases Int.lt_trichotomy x y with e | e | e
   ·exact .inr (.inl ⟨0,x,y,rfl,rfl,e,fun j hj=>absurd hj (Nat.not_lt_zero j)⟩)
   ·subst e
    have up:∀ {a b:List Int},LexLt a b→LexLt (x::a) (x::b):=fun ⟨i,u,v,h1,h2,h3,h4⟩=>⟨i+1,u,v,by simpa using h1,by simpa using h2,h3,fun j hj=>by
     cases j with
     | zero=>rfl
     | succ j=>simpa using h4 j (by omega)⟩
    rcases lex_total (o:=o) (w:=w) (by simpa using h) with h1 | h1 | h1
    ·exact .inl (by rw [h1])
    ·exact .inr (.inl (up h1))
    ·exact .inr (.inr (up h1))
   ·exact .inr (.inr ⟨0,y,x,rfl,rfl,e,fun j hj=>absurd hj (Nat.not_lt_zero j)⟩)
theorem before_iff (o w:List Int) (h:o.length=w.length) (hl:o.length≤1000):∃ r,B_Before o w=some r∧(r=true↔LexLt o w):=by
 unfold B_Before
 refine loopF_inv (body:=B_Before_l2 w o) (fun z:Int=>∃ k:Nat,z=k∧k≤o.length∧∀ j,j < k→o[j]? =w[j]?) (fun z=>o.length - z.toNat) (fun r=>r=true↔LexLt o w) ?_ big 0 ⟨0,rfl,Nat.zero_le _,fun j hj=>absurd hj (Nat.not_lt_zero j)⟩ (by unfold big; simp; omega)
 rintro rec z ⟨k,rfl,hk,hj⟩ ih
 unfold B_Before_l2
 rw [show (if (w.length:Int) < (o.length:Int) then (w.length:Int) else (o.length:Int))=(o.length:Int) by split <;> omega]
 by_cases hlt:k < o.length
 ·rw [decide_eq_true (by omega),cond_true,getI_nat,getI_nat]
  have h1:=List.getElem?_eq_getElem hlt
  have h2:=List.getElem?_eq_getElem (show k < w.length by omega)
  generalize o[k]=x at h1
  generalize w[k]'(by omega)=y at h2
  rw [h1,h2]
  simp only [Option.bind_some]
  by_cases hxy:x=y
  ·subst hxy
   rw [bne_self_eq_false,cond_false,wrI (by omega) (by omega)]
   refine ih _ ⟨k+1,by simp,by omega,fun j hjk=>?_⟩ (by (try simp only); omega)
   by_cases hjk' :j=k
   ·subst hjk'; rw [h1,h2]
   ·exact hj j (by omega)
  ·rw [show (x != y)=true by simpa using hxy,cond_true]
   refine ⟨_,rfl,?_⟩
   rw [decide_eq_true_eq]
   constructor
   ·intro hr; exact ⟨k,x,y,h1,h2,hr,hj⟩
   ·rintro ⟨i,u,v,g1,g2,g3,g4⟩
    rcases Nat.lt_trichotomy i k with e | e | e
    ·have:=hj i e; rw [g1,g2] at this; have:=Option.some.inj this; omega
    ·subst e; rw [h1] at g1; rw [h2] at g2; have:=Option.some.inj g1; have:=Option.some.inj g2; omega
    ·have:=g4 k e; rw [h1,h2] at this; exact absurd (Option.some.inj this) hxy
 ·rw [decide_eq_false (by omega),cond_false]
  refine ⟨_,rfl,?_⟩
  rw [decide_eq_true_eq]
  constructor
  ·intro hr; omega
  ·rintro ⟨i,u,v,g1,g2,g3,_⟩
   have hi:=(List.getElem?_eq_some_iff.1 g1).1
   have:=hj i (by omega); rw [g1,g2] at this; have:=Option.some.inj this; omega
theorem better_iff (o w:List Int) (h1:o.length≤1000):∃ r,B_Better o w=some r∧(r=true↔Btr o w):=by
 unfold B_Better Btr
 by_cases h:o.length < w.length
 ·rw [decide_eq_true (by omega),cond_true]
  exact ⟨true,rfl,by simp [h]⟩
 ·rw [decide_eq_false (by omega),cond_false]
  by_cases he:o.length=w.length
  ·rw [show ((o.length:Int)==(w.length:Int))=true by simp [he],cond_true]
   obtain ⟨r,hr,hi⟩:=before_iff o w he h1
   rw [hr,Option.bind_some]
   exact ⟨r,rfl,by rw [hi]; simp [h,he]⟩
  ·rw [show ((o.length:Int)==(w.length:Int))=false by simp; omega,cond_false]
   exact ⟨false,rfl,by simp [h,he]⟩
end Go.Proofs.YtafhljljfglfeaaGreatDoor
namespace Go.Proofs.YtafhljljfglfeaaGreatDoor
open Go Go.Fx
def foldY {ε σ:Type} (yv:ε→σ→Option (Bool×σ)):List ε→σ→Option (Bool×σ)
 | [],s=>some (true,s)
 | x::l,s=>(yv x s).bind fun r=>bif r.1 then foldY yv l r.2 else some (false,r.2)
theorem foldY_app {ε σ:Type} (yv:ε→σ→Option (Bool×σ)):∀ (l m:List ε) (s:σ),foldY yv (l++m) s=(foldY yv l s).bind fun r=>bif r.1 then foldY yv m r.2 else some (false,r.2)
 | [],m,s=>rfl
 | x::l,m,s=>by
   show (yv x s).bind (fun r=>bif r.1 then foldY yv (l++m) r.2 else some (false,r.2))=Option.bind ((yv x s).bind fun r=>bif r.1 then foldY yv l r.2 else some (false,r.2)) _
   cases yv x s with
   | none=>rfl
   | some r=>
     obtain ⟨b,s2⟩:=r
     cases b with
     | true=>exact foldY_app yv l m s2
     | false=>rfl
theorem foldY_one {ε σ:Type} (yv:ε→σ→Option (Bool×σ)) (x:ε) (s:σ):foldY yv [x] s=yv x s:=by
 show (yv x s).bind (fun r=>bif r.1 then some (true,r.2) else some (false,r.2))=_
 cases yv x s with
 | none=>rfl
 | some r=>obtain ⟨b,s2⟩:=r; cases b <;> rfl
theorem foldY_find {ε σ:Type} (bd:ε→σ→Option (Bool×Nat×σ)) (p:ε→Bool) (s0 s1:σ):∀ (L:List ε),(∀ x∈L,bd x s0=some (bif p x then (false,1,s1) else (true,0,s0)))→foldY (yvOf bd) L (0,s0)=some (bif L.any p then (false,1,s1) else (true,0,s0))
 | [],_=>rfl
 | x::L,h=>by
   show (bd x s0).bind (fun r=>bif r.1 then foldY (yvOf bd) L r.2 else some (false,r.2))=_
   rw [h x (List.mem_cons_self ..),List.any_cons]
   cases hp:p x with
   | true=>rfl
   | false=>exact foldY_find bd p s0 s1 L fun x hx=>h x (List.mem_cons_of_mem _ hx)
end Go.Proofs.YtafhljljfglfeaaGreatDoor
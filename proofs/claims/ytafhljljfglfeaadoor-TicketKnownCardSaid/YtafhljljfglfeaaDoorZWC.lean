/- What the functions of the program compute, and that they do, printed by a program of mine. -/
import Derived.Test.YtafhljljfglfeaaDoorZWB
import Derived.KernelRfl
set_option linter.unusedVariables false
set_option linter.unusedSimpArgs false
namespace Go.Proofs.YtafhljljfglfeaaDoor
open Go Go.Fx Go.Proofs
set_option maxHeartbeats 10000000 in
set_option maxRecDepth 100000 in
theorem ticket_Paid_ok {a0:TicketBook}{a1:Int}{a2:Int}{A1:Option Addr}{c2:Nat}{A4:Option Addr}{c5:Nat}{A7:Option Addr}{c8:Nat}{A10:Option Addr}{c11:Nat}{w:World}{r:Span×Int} (H:ticket_Paid a0 a1 a2=some r) (h3:(rd eTallyCount 7 A1 c2 a0.Tally.Counts).ok w) (h6:(rd eTicketSeason 2 A4 c5 a0.Tickets).ok w) (h9:(rd eTicketShow 3 A7 c8 a0.Shows).ok w) (h12:(rd eTicketBox 4 A10 c11 a0.Boxes).ok w) (hg13:(gW0).ok w) (hg14:(gW2).ok w):Calls Tryd.prog 22 #[AG (vB a0 A1 c2 A4 c5 A7 c8 A10 c11),I a1,I a2] w (RetV w (TU [AG [I r.1.Low,I r.1.High],I r.2])):=by
 unfold ticket_Paid at H
 refine fn_of (n:=35) Tryd.func22 rfl rfl (lE rfl) ?_
 have S:=St.start w nF _ (cA h3 (cA h6 (cA h9 (cA h12 (cA hg13 (cA hg14 nM))))))
 refine c_seq<|reg<|p_boxA rfl S fun b15 w16 S17=>p_box (rfl:_=I a1) rfl S17 fun b18 w19 S20=>?_
 try clear S17
 refine p_box (rfl:_=I a2) rfl S20 fun b21 w22 S23=>?_
 try clear S20
 refine p_allA in49 S23 fun b24 w25 S26=>?_
 try clear S23
 refine p_aI rfl<|wp_nil ?_
 refine c_join (α:=Int×Int×(List TallyCount)×Int×(List TicketSeason)×(List TicketShow)×(List TicketBox)×(List Int)×(List (Ticket_seat×Int))×Int) (β:=Nat×(Option Addr)×Nat×(Option Addr)×Nat×(Option Addr)×Nat×(Option Addr)×Nat×(Option Nat)) (fun z_1 y_1=>[(4,P b18 0),(5,P b21 0),(6,P b24 0),(8,P y_1.1 0),(9,I z_1.2.2.2.2.2.2.2.2.2)]) (fun z_1 y_1 w_=>ticket_Paid_j1 a1 a2 z_1=some r∧St w nF w_ [bl y_1.1 ([I z_1.1,I z_1.2.1,SL y_1.2.1 z_1.2.2.1.length y_1.2.2.1,I z_1.2.2.2.1,SL y_1.2.2.2.1 z_1.2.2.2.2.1.length y_1.2.2.2.2.1,SL y_1.2.2.2.2.2.1 z_1.2.2.2.2.2.1.length y_1.2.2.2.2.2.2.1,SL y_1.2.2.2.2.2.2.2.1 z_1.2.2.2.2.2.2.1.length y_1.2.2.2.2.2.2.2.2.1]++(sg z_1.2.2.2.2.2.2.2.1 3++[Value.map y_1.2.2.2.2.2.2.2.2.2])) 92,bl b24 [I 0,I 0] 49,bl b21 [I a2] 3,bl b18 [I a1] 3] [rd eTallyCount 7 y_1.2.1 y_1.2.2.1 z_1.2.2.1,rd eTicketSeason 2 y_1.2.2.2.1 y_1.2.2.2.2.1 z_1.2.2.2.2.1,rd eTicketShow 3 y_1.2.2.2.2.2.1 y_1.2.2.2.2.2.2.1 z_1.2.2.2.2.2.1,rd eTicketBox 4 y_1.2.2.2.2.2.2.2.1 y_1.2.2.2.2.2.2.2.2.1 z_1.2.2.2.2.2.2.1,mpo ekS iE y_1.2.2.2.2.2.2.2.2.2 z_1.2.2.2.2.2.2.2.2.1,rd eTallyCount 7 A1 c2 a0.Tally.Counts,rd eTicketSeason 2 A4 c5 a0.Tickets,rd eTicketShow 3 A7 c8 a0.Shows,rd eTicketBox 4 A10 c11 a0.Boxes,gW0,gW2]) ?_ ?_
 ·obtain ⟨r29,h30,H⟩:=bindS H
  rcases bE (r29) with c34 | c34
  ·replace H:=condT c34 H
   obtain ⟨r40,h41,H⟩:=bindS H
   rcases bE (r40) with c47 | c47
   ·replace H:=condT c47 H
    obtain ⟨r57,h58,H⟩:=bindS H
    have A_:∀ {w_:World},Keep0 w25 w_→St w_ nF w_ [] [bl b24 [I 0,I 0] 49,bl b21 [I a2] 3,bl b18 [I a1] 3,bl b15 (vB a0 A1 c2 A4 c5 A7 c8 A10 c11) 29,rd eTallyCount 7 A1 c2 a0.Tally.Counts,rd eTicketSeason 2 A4 c5 a0.Tickets,rd eTicketShow 3 A7 c8 a0.Shows,rd eTicketBox 4 A10 c11 a0.Boxes,gW0,gW2]:=fun k_=>S26.asP k_
    refine reg_fl mixed 19 17 (by kernel_rfl) [rv (AG (vB a0 A1 c2 A4 c5 A7 c8 A10 c11)),rv (AG (vB a0 A1 c2 A4 c5 A7 c8 A10 c11)),rv (I a1),rv (B r29),rv (B true),rv (AG (vB a0 A1 c2 A4 c5 A7 c8 A10 c11)),rv (I a2),rv (B r40),rv (B r40),rv (B true),rv (I a1),rv (I a2),rv (B (decide (a1≤a2))),rv (B (decide (a1≤a2))),rx (α:=(Option Addr)×Nat×(Option Addr)×Nat×(Option Addr)×Nat×(Option Addr)×Nat×(Option Nat)) (fun ⟨A61,c62,A63,c64,A65,c66,A67,c68,m69⟩=>TU [AG ((vB r57.1.TicketBook A61 c62 A63 c64 A65 c66 A67 c68)++(sg r57.1.shown_ 3++[Value.map m69])),I r57.2]) (fun ⟨A61,c62,A63,c64,A65,c66,A67,c68,m69⟩ lo hi=>BtwL lo hi [rd eTallyCount 7 A1 c2 a0.Tally.Counts,rd eTicketSeason 2 A4 c5 a0.Tickets,rd eTicketShow 3 A7 c8 a0.Shows,rd eTicketBox 4 A10 c11 a0.Boxes] (rd eTallyCount 7 A61 c62 r57.1.TicketBook.Tally.Counts)∧BtwL lo hi [rd eTallyCount 7 A1 c2 a0.Tally.Counts,rd eTicketSeason 2 A4 c5 a0.Tickets,rd eTicketShow 3 A7 c8 a0.Shows,rd eTicketBox 4 A10 c11 a0.Boxes] (rd eTicketSeason 2 A63 c64 r57.1.TicketBook.Tickets)∧BtwL lo hi [] (rd eTicketShow 3 A65 c66 r57.1.TicketBook.Shows)∧BtwL lo hi [] (rd eTicketBox 4 A67 c68 r57.1.TicketBook.Boxes)∧BtwL lo hi [] (mpo ekS iE m69 r57.1.by_)∧True) (fun ⟨A61,c62,A63,c64,A65,c66,A67,c68,m69⟩=>[rd eTallyCount 7 A61 c62 r57.1.TicketBook.Tally.Counts,rd eTicketSeason 2 A63 c64 r57.1.TicketBook.Tickets,rd eTicketShow 3 A65 c66 r57.1.TicketBook.Shows,rd eTicketBox 4 A67 c68 r57.1.TicketBook.Boxes,mpo ekS iE m69 r57.1.by_]),dv 25 some,dv 10 (exG 0),dv 10 (exG 1),rx (α:=Nat) (fun b92=>P b92 0) (fun b92 lo hi=>BtwL lo hi [] (bl b92 ([I 0,I 0,SL none 0 0,I 0,SL none 0 0,SL none 0 0,SL none 0 0]++(sg (List.replicate 3 0) 3++[Value.map none])) 92)∧True) (fun b92=>[bl b92 ([I 0,I 0,SL none 0 0,I 0,SL none 0 0,SL none 0 0,SL none 0 0]++(sg (List.replicate 3 0) 3++[Value.map none])) 92])] [[],[],[],[],[],[],[],[],[],[],[],[],[],[],[],[25],[10],[10],[]] rfl (by kernel_rfl) [[],[],[],[1,2],[1,2,3],[1,2,3,4],[1,2,3,4],[1,2,3,4,5,6],[1,2,3,4,5,6,7],[1,2,3,4,5,6,7,8],[1,2,3,4,5,6,7,8,9],[1,2,3,4,5,6,7,8,9],[1,2,3,4,5,6,7,8,9,10,11],[1,2,3,4,5,6,7,8,9,10,11,12],[0,1,2,3,4,5,6,7,8,9,10,11,12,13],[0,1,2,3,4,5,6,7,8,9,10,11,12,13,14],[0,1,2,3,4,5,6,7,8,9,10,11,12,13,14,15],[0,1,2,3,4,5,6,7,8,9,10,11,12,13,14,15],[],[0,1,2,3,4,5,6,7,8,9,10,11,12,13,14,15,16,18],[0,1,2,3,4,5,6,7,8,9,10,11,12,13,14,15,16,17,18,19]] (by kernel_rfl) ⟨?_,?_,?_,?_,?_,?_,?_,?_,?_,?_,?_,?_,?_,?_,?_,?_,?_,?_,?_,trivial⟩ ?_ ?_
    ·intro e_ w_ k_ hf_ hR_
     have S_:=@A_ _ k_
     refine hopE [(3,P b15 0)] ⟨((hf_ 3 rfl).trans (rfl:_=P b15 0)),trivial⟩ ?_
     exact p_ldA ty29 sz29 (S_.atP (i:=3) rfl) rfl rfl<|wp_nil ⟨_,rfl,S_.keep,rfl⟩
    ·intro e_ w_ k_ hf_ hR_
     have S_:=@A_ _ k_
     refine hopE [(3,P b15 0)] ⟨((hf_ 3 rfl).trans (rfl:_=P b15 0)),trivial⟩ ?_
     exact p_ldA ty29 sz29 (S_.atP (i:=3) rfl) rfl rfl<|wp_nil ⟨_,rfl,S_.keep,rfl⟩
    ·intro e_ w_ k_ hf_ hR_
     have S_:=@A_ _ k_
     refine hopE [(4,P b18 0)] ⟨((hf_ 4 rfl).trans (rfl:_=P b18 0)),trivial⟩ ?_
     exact p_ld ty3 (S_.atP (i:=2) rfl) rfl rfl<|wp_nil ⟨_,rfl,S_.keep,rfl⟩
    ·intro e_ w_ k_ hf_ hR_
     have S_:=@A_ _ k_
     refine hopE [(12,AG (vB a0 A1 c2 A4 c5 A7 c8 A10 c11)),(13,I a1)] ⟨rQ (hR_ 1 12 rfl (lE rfl) rfl),rQ (hR_ 2 13 rfl (lE rfl) rfl),trivial⟩ ?_
     refine p_cv (ticket_isTrip_ok h30 (S_.atP (i:=4) rfl) (S_.atP (i:=5) rfl) (S_.atP (i:=6) rfl) (S_.atP (i:=7) rfl)) fu59 rfl S_ fun w31 S32=>wp_nil ?_
     exact ⟨_,rfl,S32.keep,rfl⟩
    ·intro e_ w_ k_ hf_ hR_
     refine hopE [(14,B r29)] ⟨rQ (hR_ 3 14 rfl (lE rfl) rfl),trivial⟩ ?_
     exact p_mB rfl<|wp_nil ⟨_,rfl,kR,congrArg Value.bool c34⟩
    ·intro e_ w_ k_ hf_ hR_
     have S_:=@A_ _ k_
     refine hopE [(3,P b15 0),(15,B true)] ⟨((hf_ 3 rfl).trans (rfl:_=P b15 0)),rQ (hR_ 4 15 rfl (lE rfl) rfl),trivial⟩ ?_
     refine gT rfl rfl (p_ldA ty29 sz29 (S_.atP (i:=3) rfl) rfl rfl ?_)
     exact wp_nil ⟨_,rfl,S_.keep,rfl⟩
    ·intro e_ w_ k_ hf_ hR_
     have S_:=@A_ _ k_
     refine hopE [(5,P b21 0),(15,B true)] ⟨((hf_ 5 rfl).trans (rfl:_=P b21 0)),rQ (hR_ 4 15 rfl (lE rfl) rfl),trivial⟩ ?_
     refine gT rfl rfl (p_ld ty3 (S_.atP (i:=1) rfl) rfl rfl ?_)
     exact wp_nil ⟨_,rfl,S_.keep,rfl⟩
    ·intro e_ w_ k_ hf_ hR_
     have S_:=@A_ _ k_
     refine hopE [(15,B true),(16,AG (vB a0 A1 c2 A4 c5 A7 c8 A10 c11)),(17,I a2)] ⟨rQ (hR_ 4 15 rfl (lE rfl) rfl),rQ (hR_ 5 16 rfl (lE rfl) rfl),rQ (hR_ 6 17 rfl (lE rfl) rfl),trivial⟩ ?_
     refine gT rfl rfl (p_cv (ticket_isTrip_ok h41 (S_.atP (i:=4) rfl) (S_.atP (i:=5) rfl) (S_.atP (i:=6) rfl) (S_.atP (i:=7) rfl)) fu59 rfl S_ fun w42 S43=>?_)
     exact wp_nil ⟨_,rfl,S43.keep,rfl⟩
    ·intro e_ w_ k_ hf_ hR_
     refine hopE [(15,B true),(18,B r40)] ⟨rQ (hR_ 4 15 rfl (lE rfl) rfl),rQ (hR_ 7 18 rfl (lE rfl) rfl),trivial⟩ ?_
     exact p_pkT rfl (rfl:_=B r40)<|wp_nil ⟨_,rfl,kR,rfl⟩
    ·intro e_ w_ k_ hf_ hR_
     refine hopE [(19,B r40)] ⟨rQ (hR_ 8 19 rfl (lE rfl) rfl),trivial⟩ ?_
     exact p_mB rfl<|wp_nil ⟨_,rfl,kR,congrArg Value.bool c47⟩
    ·intro e_ w_ k_ hf_ hR_
     have S_:=@A_ _ k_
     refine hopE [(4,P b18 0),(20,B true)] ⟨((hf_ 4 rfl).trans (rfl:_=P b18 0)),rQ (hR_ 9 20 rfl (lE rfl) rfl),trivial⟩ ?_
     refine gT rfl rfl (p_ld ty3 (S_.atP (i:=2) rfl) rfl rfl ?_)
     exact wp_nil ⟨_,rfl,S_.keep,rfl⟩
    ·intro e_ w_ k_ hf_ hR_
     have S_:=@A_ _ k_
     refine hopE [(5,P b21 0),(20,B true)] ⟨((hf_ 5 rfl).trans (rfl:_=P b21 0)),rQ (hR_ 9 20 rfl (lE rfl) rfl),trivial⟩ ?_
     refine gT rfl rfl (p_ld ty3 (S_.atP (i:=1) rfl) rfl rfl ?_)
     exact wp_nil ⟨_,rfl,S_.keep,rfl⟩
    ·intro e_ w_ k_ hf_ hR_
     refine hopE [(20,B true),(21,I a1),(22,I a2)] ⟨rQ (hR_ 9 20 rfl (lE rfl) rfl),rQ (hR_ 10 21 rfl (lE rfl) rfl),rQ (hR_ 11 22 rfl (lE rfl) rfl),trivial⟩ ?_
     refine gT rfl rfl (p_cmp rfl rfl rfl ?_)
     exact wp_nil ⟨_,rfl,kR,rfl⟩
    ·intro e_ w_ k_ hf_ hR_
     refine hopE [(20,B true),(23,B (decide (a1≤a2)))] ⟨rQ (hR_ 9 20 rfl (lE rfl) rfl),rQ (hR_ 12 23 rfl (lE rfl) rfl),trivial⟩ ?_
     exact p_pkT rfl (rfl:_=B (decide (a1≤a2)))<|wp_nil ⟨_,rfl,kR,rfl⟩
    ·intro e_ w_ k_ hf_ hR_
     have S_:=@A_ _ k_
     refine hopE [(11,AG (vB a0 A1 c2 A4 c5 A7 c8 A10 c11)),(24,B (decide (a1≤a2)))] ⟨rQ (hR_ 0 11 rfl (lE rfl) rfl),rQ (hR_ 13 24 rfl (lE rfl) rfl),trivial⟩ ?_
     refine p_cal (ticket_asked_ok h58 (S_.atP (i:=4) rfl) (S_.atP (i:=5) rfl) (S_.atP (i:=6) rfl) (S_.atP (i:=7) rfl) (S_.atP (i:=8) rfl) (S_.atP (i:=9) rfl)) fu58 rfl ?_
     rintro _ w59 ⟨A61,c62,A63,c64,A65,c66,A67,c68,m69,rfl,k60,⟨o70,n71⟩,⟨o72,n73⟩,⟨o74,n75⟩,⟨o76,n77⟩,⟨o78,n79⟩,_⟩
     have S80:=S_.callN k60 [rd eTallyCount 7 A61 c62 r57.1.TicketBook.Tally.Counts,rd eTicketSeason 2 A63 c64 r57.1.TicketBook.Tickets,rd eTicketShow 3 A65 c66 r57.1.TicketBook.Shows,rd eTicketBox 4 A67 c68 r57.1.TicketBook.Boxes,mpo ekS iE m69 r57.1.by_] (cA ⟨o70,Al.inL n71 ((cA (fp_mem (i:=4) rfl) (cA (fp_mem (i:=5) rfl) (cA (fp_mem (i:=6) rfl) (cA (fp_mem (i:=7) rfl) nM)))))⟩ (cA ⟨o72,Al.inL n73 ((cA (fp_mem (i:=4) rfl) (cA (fp_mem (i:=5) rfl) (cA (fp_mem (i:=6) rfl) (cA (fp_mem (i:=7) rfl) nM)))))⟩ (cA ⟨o74,New.inL n75⟩ (cA ⟨o76,New.inL n77⟩ (cA ⟨o78,New.inL n79⟩ nM)))))
     exact wp_nil ⟨_,rfl,S80.keep,⟨(A61,c62,A63,c64,A65,c66,A67,c68,m69),rfl,⟨bL n71 rfl (S80.atP (i:=0) rfl) rfl,bL n73 rfl (S80.atP (i:=1) rfl) rfl,bL (New.al (New.mono n75 S_.keep.size)) rfl (S80.atP (i:=2) rfl) rfl,bL (New.al (New.mono n77 S_.keep.size)) rfl (S80.atP (i:=3) rfl) rfl,bL (New.al (New.mono n79 S_.keep.size)) rfl (S80.atP (i:=4) rfl) rfl,trivial⟩,(cA (S80.atP (i:=0) rfl) (cA (S80.atP (i:=1) rfl) (cA (S80.atP (i:=2) rfl) (cA (S80.atP (i:=3) rfl) (cA (S80.atP (i:=4) rfl) nM)))))⟩⟩
    ·intro e_ w_ k_ hf_ hR_
     have S_:=@A_ _ k_
     obtain ⟨_,_,_,_,⟨A61,c62,A63,c64,A65,c66,A67,c68,m69⟩,q81,p82,a83⟩:=hR_ 14 25 rfl (lE rfl) rfl
     replace q81:e_ 25=TU [AG ((vB r57.1.TicketBook A61 c62 A63 c64 A65 c66 A67 c68)++(sg r57.1.shown_ 3++[Value.map m69])),I r57.2]:=q81
     have S_:=St.addL' S_ (a83 _ (.head _)) (fun _ _ _ h_=>(nE h_))
     have S_:=St.addL' S_ (a83 _ (.tail _ (.head _))) (fun _ _ _ h_=>(nE h_))
     have S_:=St.addL' S_ (a83 _ (.tail _ (.tail _ (.head _)))) (fun _ _ _ h_=>(nE h_))
     have S_:=St.addL' S_ (a83 _ (.tail _ (.tail _ (.tail _ (.head _))))) (fun _ _ _ h_=>(nE h_))
     have S_:=St.addL' S_ (a83 _ (.tail _ (.tail _ (.tail _ (.tail _ (.head _)))))) (fun _ _ _ h_=>(nE h_))
     refine hopE [(25,TU [AG ((vB r57.1.TicketBook A61 c62 A63 c64 A65 c66 A67 c68)++(sg r57.1.shown_ 3++[Value.map m69])),I r57.2])] ⟨q81,trivial⟩ ?_
     refine p_mT rfl<|wp_nil ?_
     exact ⟨_,rfl,S_.keep,rfl⟩
    ·intro e_ w_ k_ hf_ hR_
     have S_:=@A_ _ k_
     obtain ⟨_,_,_,_,⟨A61,c62,A63,c64,A65,c66,A67,c68,m69⟩,q85,p86,a87⟩:=hR_ 14 25 rfl (lE rfl) rfl
     replace q85:e_ 25=TU [AG ((vB r57.1.TicketBook A61 c62 A63 c64 A65 c66 A67 c68)++(sg r57.1.shown_ 3++[Value.map m69])),I r57.2]:=q85
     have S_:=St.addL' S_ (a87 _ (.head _)) (fun _ _ _ h_=>(nE h_))
     have S_:=St.addL' S_ (a87 _ (.tail _ (.head _))) (fun _ _ _ h_=>(nE h_))
     have S_:=St.addL' S_ (a87 _ (.tail _ (.tail _ (.head _)))) (fun _ _ _ h_=>(nE h_))
     have S_:=St.addL' S_ (a87 _ (.tail _ (.tail _ (.tail _ (.head _))))) (fun _ _ _ h_=>(nE h_))
     have S_:=St.addL' S_ (a87 _ (.tail _ (.tail _ (.tail _ (.tail _ (.head _)))))) (fun _ _ _ h_=>(nE h_))
     obtain ⟨_,_,_,_,q84⟩:=hR_ 15 10 rfl (lE rfl) rfl
     replace q84:e_ 10=TU [AG ((vB r57.1.TicketBook A61 c62 A63 c64 A65 c66 A67 c68)++(sg r57.1.shown_ 3++[Value.map m69])),I r57.2]:=(sJ ((congrArg some q85).symm.trans q84)).symm
     refine hopE [(10,TU [AG ((vB r57.1.TicketBook A61 c62 A63 c64 A65 c66 A67 c68)++(sg r57.1.shown_ 3++[Value.map m69])),I r57.2])] ⟨q84,trivial⟩ ?_
     refine p_ext rfl rfl<|wp_nil ?_
     exact ⟨_,rfl,S_.keep,rfl⟩
    ·intro e_ w_ k_ hf_ hR_
     have S_:=@A_ _ k_
     obtain ⟨_,_,_,_,⟨A61,c62,A63,c64,A65,c66,A67,c68,m69⟩,q89,p90,a91⟩:=hR_ 14 25 rfl (lE rfl) rfl
     replace q89:e_ 25=TU [AG ((vB r57.1.TicketBook A61 c62 A63 c64 A65 c66 A67 c68)++(sg r57.1.shown_ 3++[Value.map m69])),I r57.2]:=q89
     have S_:=St.addL' S_ (a91 _ (.head _)) (fun _ _ _ h_=>(nE h_))
     have S_:=St.addL' S_ (a91 _ (.tail _ (.head _))) (fun _ _ _ h_=>(nE h_))
     have S_:=St.addL' S_ (a91 _ (.tail _ (.tail _ (.head _)))) (fun _ _ _ h_=>(nE h_))
     have S_:=St.addL' S_ (a91 _ (.tail _ (.tail _ (.tail _ (.head _))))) (fun _ _ _ h_=>(nE h_))
     have S_:=St.addL' S_ (a91 _ (.tail _ (.tail _ (.tail _ (.tail _ (.head _)))))) (fun _ _ _ h_=>(nE h_))
     obtain ⟨_,_,_,_,q88⟩:=hR_ 15 10 rfl (lE rfl) rfl
     replace q88:e_ 10=TU [AG ((vB r57.1.TicketBook A61 c62 A63 c64 A65 c66 A67 c68)++(sg r57.1.shown_ 3++[Value.map m69])),I r57.2]:=(sJ ((congrArg some q89).symm.trans q88)).symm
     refine hopE [(10,TU [AG ((vB r57.1.TicketBook A61 c62 A63 c64 A65 c66 A67 c68)++(sg r57.1.shown_ 3++[Value.map m69])),I r57.2])] ⟨q88,trivial⟩ ?_
     refine p_ext rfl rfl<|wp_nil ?_
     exact ⟨_,rfl,S_.keep,rfl⟩
    ·intro e_ w_ k_ hf_ hR_
     have S_:=@A_ _ k_
     refine hopE [] trivial ?_
     refine p_allA in92 S_ fun b92 w93 S94=>wp_nil ?_
     exact ⟨_,rfl,S94.keep,⟨b92,rfl,⟨bL (New.al (S94.newX (i:=0) rfl)) rfl (S94.atX (i:=0) rfl) rfl,trivial⟩,(cA (S94.atX (i:=0) rfl) nM)⟩⟩
    ·intro e95 w96 lo97 hi98 k99 hf100 hR101 hd102
     have S103:=S26.call k99
     obtain ⟨h105,h106,h107,⟨A61,c62,A63,c64,A65,c66,A67,c68,m69⟩,q104,h108,h109⟩:=hR101 14 25 (lE rfl) rfl
     replace q104:e95 25=TU [AG ((vB r57.1.TicketBook A61 c62 A63 c64 A65 c66 A67 c68)++(sg r57.1.shown_ 3++[Value.map m69])),I r57.2]:=q104
     obtain ⟨p110,p111,p112,p113,p114,_⟩:=h108
     have S115:=St.addR S103 (h109 _ (.head _)) (oR p110 h105 S26 (mG [0,1,2,3] rfl))
     try clear S103
     have S116:=St.addR S115 (h109 _ (.tail _ (.head _))) (oR p111 h105 S26 (mG [0,1,2,3] rfl))
     try clear S115
     have S117:=St.addR S116 (h109 _ (.tail _ (.tail _ (.head _)))) (oR p112 h105 S26 (nM))
     try clear S116
     have S118:=St.addR S117 (h109 _ (.tail _ (.tail _ (.tail _ (.head _))))) (oR p113 h105 S26 (nM))
     try clear S117
     have S119:=St.addR S118 (h109 _ (.tail _ (.tail _ (.tail _ (.tail _ (.head _)))))) (oR p114 h105 S26 (nM))
     try clear S118
     have q120:e95 10=TU [AG ((vB r57.1.TicketBook A61 c62 A63 c64 A65 c66 A67 c68)++(sg r57.1.shown_ 3++[Value.map m69])),I r57.2]:=(sJ ((congrArg some q104).symm.trans (hR101 15 10 (lE rfl) rfl).2.2.2)).symm
     have q121:e95 26=AG ((vB r57.1.TicketBook A61 c62 A63 c64 A65 c66 A67 c68)++(sg r57.1.shown_ 3++[Value.map m69])):=(sJ ((congrArg (exG 0) q120).symm.trans (hR101 16 26 (lE rfl) rfl).2.2.2)).symm
     have q122:e95 27=I r57.2:=(sJ ((congrArg (exG 1) q120).symm.trans (hR101 17 27 (lE rfl) rfl).2.2.2)).symm
     obtain ⟨h124,h125,h126,b92,q123,h127,h128⟩:=hR101 18 8 (lE rfl) rfl
     replace q123:e95 8=P b92 0:=q123
     obtain ⟨p129,_⟩:=h127
     have S131:=St.addO S119 (h128 _ (.head _)) (oN p129 h124 S26) (oX p129 h124 S26) (cA (oP p129 p114 h124 S26 (nM) (hd102 18 14 (lE rfl) (lE rfl) (by decide))) (cA (oP p129 p113 h124 S26 (nM) (hd102 18 14 (lE rfl) (lE rfl) (by decide))) (cA (oP p129 p112 h124 S26 (nM) (hd102 18 14 (lE rfl) (lE rfl) (by decide))) (cA (oP p129 p111 h124 S26 (mG [0,1,2,3] rfl) (hd102 18 14 (lE rfl) (lE rfl) (by decide))) (cA (oP p129 p110 h124 S26 (mG [0,1,2,3] rfl) (hd102 18 14 (lE rfl) (lE rfl) (by decide))) (oL p129 h124 S26))))))
     try clear S119
     refine tailE [(4,P b18 0),(5,P b21 0),(6,P b24 0),(8,P b92 0),(26,AG ((vB r57.1.TicketBook A61 c62 A63 c64 A65 c66 A67 c68)++(sg r57.1.shown_ 3++[Value.map m69]))),(27,I r57.2)] ⟨((hf100 4 rfl).trans (rfl:_=P b18 0)),((hf100 5 rfl).trans (rfl:_=P b21 0)),((hf100 6 rfl).trans (rfl:_=P b24 0)),q123,q121,q122,trivial⟩ ?_
     intro g132
     refine p_stP (pre:=[]) (old:=[I 0,I 0,SL none 0 0,I 0,SL none 0 0,SL none 0 0,SL none 0 0]++(sg (List.replicate 3 0) 3++[Value.map none])) (post:=[]) (vs:=(vB r57.1.TicketBook A61 c62 A63 c64 A65 c66 A67 c68)++(sg r57.1.shown_ 3++[Value.map m69])) sz92 S131 (i:=0) rfl rfl rfl rfl (rfl:_=AG ((vB r57.1.TicketBook A61 c62 A63 c64 A65 c66 A67 c68)++(sg r57.1.shown_ 3++[Value.map m69]))) rfl rfl rfl rfl fun w133 S134=>?_
     try clear S131
     refine p_aI rfl<|wp_nil ?_
     have S135:=S134.pk [0,1,2,3] (by decide) [4,3,2,1,0,5,6,7,8,9,10] rfl rfl
     try clear S134
     exact ⟨(r57.1.TicketBook.Tally.Trips,r57.1.TicketBook.Tally.Room,r57.1.TicketBook.Tally.Counts,r57.1.TicketBook.Fare,r57.1.TicketBook.Tickets,r57.1.TicketBook.Shows,r57.1.TicketBook.Boxes,r57.1.shown_,r57.1.by_,r57.2),(b92,A61,c62,A63,c64,A65,c66,A67,c68,m69),_,rfl,⟨rfl,rfl,rfl,rfl,rfl,trivial⟩,H,S135⟩
    ·intro e135 w136 lo137 hi138 k139 hf140 hR141 hd142
     have S143:=S26.call k139
     obtain ⟨h145,h146,h147,⟨A61,c62,A63,c64,A65,c66,A67,c68,m69⟩,q144,h148,h149⟩:=hR141 14 25 (lE rfl) (by decide) rfl
     replace q144:e135 25=TU [AG ((vB r57.1.TicketBook A61 c62 A63 c64 A65 c66 A67 c68)++(sg r57.1.shown_ 3++[Value.map m69])),I r57.2]:=q144
     obtain ⟨p150,p151,p152,p153,p154,_⟩:=h148
     have S155:=St.addR S143 (h149 _ (.head _)) (oR p150 h145 S26 (mG [0,1,2,3] rfl))
     try clear S143
     have S156:=St.addR S155 (h149 _ (.tail _ (.head _))) (oR p151 h145 S26 (mG [0,1,2,3] rfl))
     try clear S155
     have S157:=St.addR S156 (h149 _ (.tail _ (.tail _ (.head _)))) (oR p152 h145 S26 (nM))
     try clear S156
     have S158:=St.addR S157 (h149 _ (.tail _ (.tail _ (.tail _ (.head _))))) (oR p153 h145 S26 (nM))
     try clear S157
     have S159:=St.addR S158 (h149 _ (.tail _ (.tail _ (.tail _ (.tail _ (.head _)))))) (oR p154 h145 S26 (nM))
     try clear S158
     have q160:e135 10=TU [AG ((vB r57.1.TicketBook A61 c62 A63 c64 A65 c66 A67 c68)++(sg r57.1.shown_ 3++[Value.map m69])),I r57.2]:=(sJ ((congrArg some q144).symm.trans (hR141 15 10 (lE rfl) (by decide) rfl).2.2.2)).symm
     have q161:e135 26=AG ((vB r57.1.TicketBook A61 c62 A63 c64 A65 c66 A67 c68)++(sg r57.1.shown_ 3++[Value.map m69])):=(sJ ((congrArg (exG 0) q160).symm.trans (hR141 16 26 (lE rfl) (by decide) rfl).2.2.2)).symm
     obtain ⟨h163,h164,h165,b92,q162,h166,h167⟩:=hR141 18 8 (lE rfl) (by decide) rfl
     replace q162:e135 8=P b92 0:=q162
     obtain ⟨p168,_⟩:=h166
     have S170:=St.addO S159 (h167 _ (.head _)) (oN p168 h163 S26) (oX p168 h163 S26) (cA (oP p168 p154 h163 S26 (nM) (hd142 18 14 (lE rfl) (lE rfl) (by decide) (by decide) (by decide))) (cA (oP p168 p153 h163 S26 (nM) (hd142 18 14 (lE rfl) (lE rfl) (by decide) (by decide) (by decide))) (cA (oP p168 p152 h163 S26 (nM) (hd142 18 14 (lE rfl) (lE rfl) (by decide) (by decide) (by decide))) (cA (oP p168 p151 h163 S26 (mG [0,1,2,3] rfl) (hd142 18 14 (lE rfl) (lE rfl) (by decide) (by decide) (by decide))) (cA (oP p168 p150 h163 S26 (mG [0,1,2,3] rfl) (hd142 18 14 (lE rfl) (lE rfl) (by decide) (by decide) (by decide))) (oL p168 h163 S26))))))
     try clear S159
     refine tailE [(4,P b18 0),(5,P b21 0),(6,P b24 0),(8,P b92 0),(10,TU [AG ((vB r57.1.TicketBook A61 c62 A63 c64 A65 c66 A67 c68)++(sg r57.1.shown_ 3++[Value.map m69])),I r57.2]),(26,AG ((vB r57.1.TicketBook A61 c62 A63 c64 A65 c66 A67 c68)++(sg r57.1.shown_ 3++[Value.map m69])))] ⟨((hf140 4 rfl).trans (rfl:_=P b18 0)),((hf140 5 rfl).trans (rfl:_=P b21 0)),((hf140 6 rfl).trans (rfl:_=P b24 0)),q162,q160,q161,trivial⟩ ?_
     intro g171
     refine p_stP (pre:=[]) (old:=[I 0,I 0,SL none 0 0,I 0,SL none 0 0,SL none 0 0,SL none 0 0]++(sg (List.replicate 3 0) 3++[Value.map none])) (post:=[]) (vs:=(vB r57.1.TicketBook A61 c62 A63 c64 A65 c66 A67 c68)++(sg r57.1.shown_ 3++[Value.map m69])) sz92 S170 (i:=0) rfl rfl rfl rfl (rfl:_=AG ((vB r57.1.TicketBook A61 c62 A63 c64 A65 c66 A67 c68)++(sg r57.1.shown_ 3++[Value.map m69]))) rfl rfl rfl rfl fun w172 S173=>?_
     try clear S170
     refine p_ext rfl rfl<|p_aI rfl<|wp_nil ?_
     have S174:=S173.pk [0,1,2,3] (by decide) [4,3,2,1,0,5,6,7,8,9,10] rfl rfl
     try clear S173
     exact ⟨(r57.1.TicketBook.Tally.Trips,r57.1.TicketBook.Tally.Room,r57.1.TicketBook.Tally.Counts,r57.1.TicketBook.Fare,r57.1.TicketBook.Tickets,r57.1.TicketBook.Shows,r57.1.TicketBook.Boxes,r57.1.shown_,r57.1.by_,r57.2),(b92,A61,c62,A63,c64,A65,c66,A67,c68,m69),_,rfl,⟨rfl,rfl,rfl,rfl,rfl,trivial⟩,H,S174⟩
   ·replace H:=condF c47 H
    obtain ⟨r183,h184,H⟩:=bindS H
    have A_:∀ {w_:World},Keep0 w25 w_→St w_ nF w_ [] [bl b24 [I 0,I 0] 49,bl b21 [I a2] 3,bl b18 [I a1] 3,bl b15 (vB a0 A1 c2 A4 c5 A7 c8 A10 c11) 29,rd eTallyCount 7 A1 c2 a0.Tally.Counts,rd eTicketSeason 2 A4 c5 a0.Tickets,rd eTicketShow 3 A7 c8 a0.Shows,rd eTicketBox 4 A10 c11 a0.Boxes,gW0,gW2]:=fun k_=>S26.asP k_
    refine reg_fl mixed 19 17 (by kernel_rfl) [rv (AG (vB a0 A1 c2 A4 c5 A7 c8 A10 c11)),rv (AG (vB a0 A1 c2 A4 c5 A7 c8 A10 c11)),rv (I a1),rv (B r29),rv (B true),rv (AG (vB a0 A1 c2 A4 c5 A7 c8 A10 c11)),rv (I a2),rv (B r40),rv (B r40),rv (B false),rv (undef),rv (undef),rv (undef),rv (B false),rx (α:=(Option Addr)×Nat×(Option Addr)×Nat×(Option Addr)×Nat×(Option Addr)×Nat×(Option Nat)) (fun ⟨A187,c188,A189,c190,A191,c192,A193,c194,m195⟩=>TU [AG ((vB r183.1.TicketBook A187 c188 A189 c190 A191 c192 A193 c194)++(sg r183.1.shown_ 3++[Value.map m195])),I r183.2]) (fun ⟨A187,c188,A189,c190,A191,c192,A193,c194,m195⟩ lo hi=>BtwL lo hi [rd eTallyCount 7 A1 c2 a0.Tally.Counts,rd eTicketSeason 2 A4 c5 a0.Tickets,rd eTicketShow 3 A7 c8 a0.Shows,rd eTicketBox 4 A10 c11 a0.Boxes] (rd eTallyCount 7 A187 c188 r183.1.TicketBook.Tally.Counts)∧BtwL lo hi [rd eTallyCount 7 A1 c2 a0.Tally.Counts,rd eTicketSeason 2 A4 c5 a0.Tickets,rd eTicketShow 3 A7 c8 a0.Shows,rd eTicketBox 4 A10 c11 a0.Boxes] (rd eTicketSeason 2 A189 c190 r183.1.TicketBook.Tickets)∧BtwL lo hi [] (rd eTicketShow 3 A191 c192 r183.1.TicketBook.Shows)∧BtwL lo hi [] (rd eTicketBox 4 A193 c194 r183.1.TicketBook.Boxes)∧BtwL lo hi [] (mpo ekS iE m195 r183.1.by_)∧True) (fun ⟨A187,c188,A189,c190,A191,c192,A193,c194,m195⟩=>[rd eTallyCount 7 A187 c188 r183.1.TicketBook.Tally.Counts,rd eTicketSeason 2 A189 c190 r183.1.TicketBook.Tickets,rd eTicketShow 3 A191 c192 r183.1.TicketBook.Shows,rd eTicketBox 4 A193 c194 r183.1.TicketBook.Boxes,mpo ekS iE m195 r183.1.by_]),dv 25 some,dv 10 (exG 0),dv 10 (exG 1),rx (α:=Nat) (fun b218=>P b218 0) (fun b218 lo hi=>BtwL lo hi [] (bl b218 ([I 0,I 0,SL none 0 0,I 0,SL none 0 0,SL none 0 0,SL none 0 0]++(sg (List.replicate 3 0) 3++[Value.map none])) 92)∧True) (fun b218=>[bl b218 ([I 0,I 0,SL none 0 0,I 0,SL none 0 0,SL none 0 0,SL none 0 0]++(sg (List.replicate 3 0) 3++[Value.map none])) 92])] [[],[],[],[],[],[],[],[],[],[],[],[],[],[],[],[25],[10],[10],[]] rfl (by kernel_rfl) [[],[],[],[1,2],[1,2,3],[1,2,3,4],[1,2,3,4],[1,2,3,4,5,6],[1,2,3,4,5,6,7],[1,2,3,4,5,6,7,8],[1,2,3,4,5,6,7,8,9],[1,2,3,4,5,6,7,8,9],[1,2,3,4,5,6,7,8,9,10,11],[1,2,3,4,5,6,7,8,9,10,11,12],[0,1,2,3,4,5,6,7,8,9,10,11,12,13],[0,1,2,3,4,5,6,7,8,9,10,11,12,13,14],[0,1,2,3,4,5,6,7,8,9,10,11,12,13,14,15],[0,1,2,3,4,5,6,7,8,9,10,11,12,13,14,15],[],[0,1,2,3,4,5,6,7,8,9,10,11,12,13,14,15,16,18],[0,1,2,3,4,5,6,7,8,9,10,11,12,13,14,15,16,17,18,19]] (by kernel_rfl) ⟨?_,?_,?_,?_,?_,?_,?_,?_,?_,?_,?_,?_,?_,?_,?_,?_,?_,?_,?_,trivial⟩ ?_ ?_
    ·intro e_ w_ k_ hf_ hR_
     have S_:=@A_ _ k_
     refine hopE [(3,P b15 0)] ⟨((hf_ 3 rfl).trans (rfl:_=P b15 0)),trivial⟩ ?_
     exact p_ldA ty29 sz29 (S_.atP (i:=3) rfl) rfl rfl<|wp_nil ⟨_,rfl,S_.keep,rfl⟩
    ·intro e_ w_ k_ hf_ hR_
     have S_:=@A_ _ k_
     refine hopE [(3,P b15 0)] ⟨((hf_ 3 rfl).trans (rfl:_=P b15 0)),trivial⟩ ?_
     exact p_ldA ty29 sz29 (S_.atP (i:=3) rfl) rfl rfl<|wp_nil ⟨_,rfl,S_.keep,rfl⟩
    ·intro e_ w_ k_ hf_ hR_
     have S_:=@A_ _ k_
     refine hopE [(4,P b18 0)] ⟨((hf_ 4 rfl).trans (rfl:_=P b18 0)),trivial⟩ ?_
     exact p_ld ty3 (S_.atP (i:=2) rfl) rfl rfl<|wp_nil ⟨_,rfl,S_.keep,rfl⟩
    ·intro e_ w_ k_ hf_ hR_
     have S_:=@A_ _ k_
     refine hopE [(12,AG (vB a0 A1 c2 A4 c5 A7 c8 A10 c11)),(13,I a1)] ⟨rQ (hR_ 1 12 rfl (lE rfl) rfl),rQ (hR_ 2 13 rfl (lE rfl) rfl),trivial⟩ ?_
     refine p_cv (ticket_isTrip_ok h30 (S_.atP (i:=4) rfl) (S_.atP (i:=5) rfl) (S_.atP (i:=6) rfl) (S_.atP (i:=7) rfl)) fu59 rfl S_ fun w31 S32=>wp_nil ?_
     exact ⟨_,rfl,S32.keep,rfl⟩
    ·intro e_ w_ k_ hf_ hR_
     refine hopE [(14,B r29)] ⟨rQ (hR_ 3 14 rfl (lE rfl) rfl),trivial⟩ ?_
     exact p_mB rfl<|wp_nil ⟨_,rfl,kR,congrArg Value.bool c34⟩
    ·intro e_ w_ k_ hf_ hR_
     have S_:=@A_ _ k_
     refine hopE [(3,P b15 0),(15,B true)] ⟨((hf_ 3 rfl).trans (rfl:_=P b15 0)),rQ (hR_ 4 15 rfl (lE rfl) rfl),trivial⟩ ?_
     refine gT rfl rfl (p_ldA ty29 sz29 (S_.atP (i:=3) rfl) rfl rfl ?_)
     exact wp_nil ⟨_,rfl,S_.keep,rfl⟩
    ·intro e_ w_ k_ hf_ hR_
     have S_:=@A_ _ k_
     refine hopE [(5,P b21 0),(15,B true)] ⟨((hf_ 5 rfl).trans (rfl:_=P b21 0)),rQ (hR_ 4 15 rfl (lE rfl) rfl),trivial⟩ ?_
     refine gT rfl rfl (p_ld ty3 (S_.atP (i:=1) rfl) rfl rfl ?_)
     exact wp_nil ⟨_,rfl,S_.keep,rfl⟩
    ·intro e_ w_ k_ hf_ hR_
     have S_:=@A_ _ k_
     refine hopE [(15,B true),(16,AG (vB a0 A1 c2 A4 c5 A7 c8 A10 c11)),(17,I a2)] ⟨rQ (hR_ 4 15 rfl (lE rfl) rfl),rQ (hR_ 5 16 rfl (lE rfl) rfl),rQ (hR_ 6 17 rfl (lE rfl) rfl),trivial⟩ ?_
     refine gT rfl rfl (p_cv (ticket_isTrip_ok h41 (S_.atP (i:=4) rfl) (S_.atP (i:=5) rfl) (S_.atP (i:=6) rfl) (S_.atP (i:=7) rfl)) fu59 rfl S_ fun w42 S43=>?_)
     exact wp_nil ⟨_,rfl,S43.keep,rfl⟩
    ·intro e_ w_ k_ hf_ hR_
     refine hopE [(15,B true),(18,B r40)] ⟨rQ (hR_ 4 15 rfl (lE rfl) rfl),rQ (hR_ 7 18 rfl (lE rfl) rfl),trivial⟩ ?_
     exact p_pkT rfl (rfl:_=B r40)<|wp_nil ⟨_,rfl,kR,rfl⟩
    ·intro e_ w_ k_ hf_ hR_
     refine hopE [(19,B r40)] ⟨rQ (hR_ 8 19 rfl (lE rfl) rfl),trivial⟩ ?_
     exact p_mB rfl<|wp_nil ⟨_,rfl,kR,congrArg Value.bool c47⟩
    ·intro e_ w_ k_ hf_ hR_
     refine hopE [(4,P b18 0),(20,B false)] ⟨((hf_ 4 rfl).trans (rfl:_=P b18 0)),rQ (hR_ 9 20 rfl (lE rfl) rfl),trivial⟩ ?_
     exact gF rfl rfl<|wp_nil ⟨_,rfl,kR,rfl⟩
    ·intro e_ w_ k_ hf_ hR_
     refine hopE [(5,P b21 0),(20,B false)] ⟨((hf_ 5 rfl).trans (rfl:_=P b21 0)),rQ (hR_ 9 20 rfl (lE rfl) rfl),trivial⟩ ?_
     exact gF rfl rfl<|wp_nil ⟨_,rfl,kR,rfl⟩
    ·intro e_ w_ k_ hf_ hR_
     refine hopE [(20,B false),(21,undef),(22,undef)] ⟨rQ (hR_ 9 20 rfl (lE rfl) rfl),rQ (hR_ 10 21 rfl (lE rfl) rfl),rQ (hR_ 11 22 rfl (lE rfl) rfl),trivial⟩ ?_
     exact gF rfl rfl<|wp_nil ⟨_,rfl,kR,rfl⟩
    ·intro e_ w_ k_ hf_ hR_
     refine hopE [(20,B false),(23,undef)] ⟨rQ (hR_ 9 20 rfl (lE rfl) rfl),rQ (hR_ 12 23 rfl (lE rfl) rfl),trivial⟩ ?_
     exact p_pkF rfl (rfl:_=B false)<|wp_nil ⟨_,rfl,kR,rfl⟩
    ·intro e_ w_ k_ hf_ hR_
     have S_:=@A_ _ k_
     refine hopE [(11,AG (vB a0 A1 c2 A4 c5 A7 c8 A10 c11)),(24,B false)] ⟨rQ (hR_ 0 11 rfl (lE rfl) rfl),rQ (hR_ 13 24 rfl (lE rfl) rfl),trivial⟩ ?_
     refine p_cal (ticket_asked_ok h184 (S_.atP (i:=4) rfl) (S_.atP (i:=5) rfl) (S_.atP (i:=6) rfl) (S_.atP (i:=7) rfl) (S_.atP (i:=8) rfl) (S_.atP (i:=9) rfl)) fu58 rfl ?_
     rintro _ w185 ⟨A187,c188,A189,c190,A191,c192,A193,c194,m195,rfl,k186,⟨o196,n197⟩,⟨o198,n199⟩,⟨o200,n201⟩,⟨o202,n203⟩,⟨o204,n205⟩,_⟩
     have S206:=S_.callN k186 [rd eTallyCount 7 A187 c188 r183.1.TicketBook.Tally.Counts,rd eTicketSeason 2 A189 c190 r183.1.TicketBook.Tickets,rd eTicketShow 3 A191 c192 r183.1.TicketBook.Shows,rd eTicketBox 4 A193 c194 r183.1.TicketBook.Boxes,mpo ekS iE m195 r183.1.by_] (cA ⟨o196,Al.inL n197 ((cA (fp_mem (i:=4) rfl) (cA (fp_mem (i:=5) rfl) (cA (fp_mem (i:=6) rfl) (cA (fp_mem (i:=7) rfl) nM)))))⟩ (cA ⟨o198,Al.inL n199 ((cA (fp_mem (i:=4) rfl) (cA (fp_mem (i:=5) rfl) (cA (fp_mem (i:=6) rfl) (cA (fp_mem (i:=7) rfl) nM)))))⟩ (cA ⟨o200,New.inL n201⟩ (cA ⟨o202,New.inL n203⟩ (cA ⟨o204,New.inL n205⟩ nM)))))
     exact wp_nil ⟨_,rfl,S206.keep,⟨(A187,c188,A189,c190,A191,c192,A193,c194,m195),rfl,⟨bL n197 rfl (S206.atP (i:=0) rfl) rfl,bL n199 rfl (S206.atP (i:=1) rfl) rfl,bL (New.al (New.mono n201 S_.keep.size)) rfl (S206.atP (i:=2) rfl) rfl,bL (New.al (New.mono n203 S_.keep.size)) rfl (S206.atP (i:=3) rfl) rfl,bL (New.al (New.mono n205 S_.keep.size)) rfl (S206.atP (i:=4) rfl) rfl,trivial⟩,(cA (S206.atP (i:=0) rfl) (cA (S206.atP (i:=1) rfl) (cA (S206.atP (i:=2) rfl) (cA (S206.atP (i:=3) rfl) (cA (S206.atP (i:=4) rfl) nM)))))⟩⟩
    ·intro e_ w_ k_ hf_ hR_
     have S_:=@A_ _ k_
     obtain ⟨_,_,_,_,⟨A187,c188,A189,c190,A191,c192,A193,c194,m195⟩,q207,p208,a209⟩:=hR_ 14 25 rfl (lE rfl) rfl
     replace q207:e_ 25=TU [AG ((vB r183.1.TicketBook A187 c188 A189 c190 A191 c192 A193 c194)++(sg r183.1.shown_ 3++[Value.map m195])),I r183.2]:=q207
     have S_:=St.addL' S_ (a209 _ (.head _)) (fun _ _ _ h_=>(nE h_))
     have S_:=St.addL' S_ (a209 _ (.tail _ (.head _))) (fun _ _ _ h_=>(nE h_))
     have S_:=St.addL' S_ (a209 _ (.tail _ (.tail _ (.head _)))) (fun _ _ _ h_=>(nE h_))
     have S_:=St.addL' S_ (a209 _ (.tail _ (.tail _ (.tail _ (.head _))))) (fun _ _ _ h_=>(nE h_))
     have S_:=St.addL' S_ (a209 _ (.tail _ (.tail _ (.tail _ (.tail _ (.head _)))))) (fun _ _ _ h_=>(nE h_))
     refine hopE [(25,TU [AG ((vB r183.1.TicketBook A187 c188 A189 c190 A191 c192 A193 c194)++(sg r183.1.shown_ 3++[Value.map m195])),I r183.2])] ⟨q207,trivial⟩ ?_
     refine p_mT rfl<|wp_nil ?_
     exact ⟨_,rfl,S_.keep,rfl⟩
    ·intro e_ w_ k_ hf_ hR_
     have S_:=@A_ _ k_
     obtain ⟨_,_,_,_,⟨A187,c188,A189,c190,A191,c192,A193,c194,m195⟩,q211,p212,a213⟩:=hR_ 14 25 rfl (lE rfl) rfl
     replace q211:e_ 25=TU [AG ((vB r183.1.TicketBook A187 c188 A189 c190 A191 c192 A193 c194)++(sg r183.1.shown_ 3++[Value.map m195])),I r183.2]:=q211
     have S_:=St.addL' S_ (a213 _ (.head _)) (fun _ _ _ h_=>(nE h_))
     have S_:=St.addL' S_ (a213 _ (.tail _ (.head _))) (fun _ _ _ h_=>(nE h_))
     have S_:=St.addL' S_ (a213 _ (.tail _ (.tail _ (.head _)))) (fun _ _ _ h_=>(nE h_))
     have S_:=St.addL' S_ (a213 _ (.tail _ (.tail _ (.tail _ (.head _))))) (fun _ _ _ h_=>(nE h_))
     have S_:=St.addL' S_ (a213 _ (.tail _ (.tail _ (.tail _ (.tail _ (.head _)))))) (fun _ _ _ h_=>(nE h_))
     obtain ⟨_,_,_,_,q210⟩:=hR_ 15 10 rfl (lE rfl) rfl
     replace q210:e_ 10=TU [AG ((vB r183.1.TicketBook A187 c188 A189 c190 A191 c192 A193 c194)++(sg r183.1.shown_ 3++[Value.map m195])),I r183.2]:=(sJ ((congrArg some q211).symm.trans q210)).symm
     refine hopE [(10,TU [AG ((vB r183.1.TicketBook A187 c188 A189 c190 A191 c192 A193 c194)++(sg r183.1.shown_ 3++[Value.map m195])),I r183.2])] ⟨q210,trivial⟩ ?_
     refine p_ext rfl rfl<|wp_nil ?_
     exact ⟨_,rfl,S_.keep,rfl⟩
    ·intro e_ w_ k_ hf_ hR_
     have S_:=@A_ _ k_
     obtain ⟨_,_,_,_,⟨A187,c188,A189,c190,A191,c192,A193,c194,m195⟩,q215,p216,a217⟩:=hR_ 14 25 rfl (lE rfl) rfl
     replace q215:e_ 25=TU [AG ((vB r183.1.TicketBook A187 c188 A189 c190 A191 c192 A193 c194)++(sg r183.1.shown_ 3++[Value.map m195])),I r183.2]:=q215
     have S_:=St.addL' S_ (a217 _ (.head _)) (fun _ _ _ h_=>(nE h_))
     have S_:=St.addL' S_ (a217 _ (.tail _ (.head _))) (fun _ _ _ h_=>(nE h_))
     have S_:=St.addL' S_ (a217 _ (.tail _ (.tail _ (.head _)))) (fun _ _ _ h_=>(nE h_))
     have S_:=St.addL' S_ (a217 _ (.tail _ (.tail _ (.tail _ (.head _))))) (fun _ _ _ h_=>(nE h_))
     have S_:=St.addL' S_ (a217 _ (.tail _ (.tail _ (.tail _ (.tail _ (.head _)))))) (fun _ _ _ h_=>(nE h_))
     obtain ⟨_,_,_,_,q214⟩:=hR_ 15 10 rfl (lE rfl) rfl
     replace q214:e_ 10=TU [AG ((vB r183.1.TicketBook A187 c188 A189 c190 A191 c192 A193 c194)++(sg r183.1.shown_ 3++[Value.map m195])),I r183.2]:=(sJ ((congrArg some q215).symm.trans q214)).symm
     refine hopE [(10,TU [AG ((vB r183.1.TicketBook A187 c188 A189 c190 A191 c192 A193 c194)++(sg r183.1.shown_ 3++[Value.map m195])),I r183.2])] ⟨q214,trivial⟩ ?_
     refine p_ext rfl rfl<|wp_nil ?_
     exact ⟨_,rfl,S_.keep,rfl⟩
    ·intro e_ w_ k_ hf_ hR_
     have S_:=@A_ _ k_
     refine hopE [] trivial ?_
     refine p_allA in92 S_ fun b218 w219 S220=>wp_nil ?_
     exact ⟨_,rfl,S220.keep,⟨b218,rfl,⟨bL (New.al (S220.newX (i:=0) rfl)) rfl (S220.atX (i:=0) rfl) rfl,trivial⟩,(cA (S220.atX (i:=0) rfl) nM)⟩⟩
    ·intro e221 w222 lo223 hi224 k225 hf226 hR227 hd228
     have S229:=S26.call k225
     obtain ⟨h231,h232,h233,⟨A187,c188,A189,c190,A191,c192,A193,c194,m195⟩,q230,h234,h235⟩:=hR227 14 25 (lE rfl) rfl
     replace q230:e221 25=TU [AG ((vB r183.1.TicketBook A187 c188 A189 c190 A191 c192 A193 c194)++(sg r183.1.shown_ 3++[Value.map m195])),I r183.2]:=q230
     obtain ⟨p236,p237,p238,p239,p240,_⟩:=h234
     have S241:=St.addR S229 (h235 _ (.head _)) (oR p236 h231 S26 (mG [0,1,2,3] rfl))
     try clear S229
     have S242:=St.addR S241 (h235 _ (.tail _ (.head _))) (oR p237 h231 S26 (mG [0,1,2,3] rfl))
     try clear S241
     have S243:=St.addR S242 (h235 _ (.tail _ (.tail _ (.head _)))) (oR p238 h231 S26 (nM))
     try clear S242
     have S244:=St.addR S243 (h235 _ (.tail _ (.tail _ (.tail _ (.head _))))) (oR p239 h231 S26 (nM))
     try clear S243
     have S245:=St.addR S244 (h235 _ (.tail _ (.tail _ (.tail _ (.tail _ (.head _)))))) (oR p240 h231 S26 (nM))
     try clear S244
     have q246:e221 10=TU [AG ((vB r183.1.TicketBook A187 c188 A189 c190 A191 c192 A193 c194)++(sg r183.1.shown_ 3++[Value.map m195])),I r183.2]:=(sJ ((congrArg some q230).symm.trans (hR227 15 10 (lE rfl) rfl).2.2.2)).symm
     have q247:e221 26=AG ((vB r183.1.TicketBook A187 c188 A189 c190 A191 c192 A193 c194)++(sg r183.1.shown_ 3++[Value.map m195])):=(sJ ((congrArg (exG 0) q246).symm.trans (hR227 16 26 (lE rfl) rfl).2.2.2)).symm
     have q248:e221 27=I r183.2:=(sJ ((congrArg (exG 1) q246).symm.trans (hR227 17 27 (lE rfl) rfl).2.2.2)).symm
     obtain ⟨h250,h251,h252,b218,q249,h253,h254⟩:=hR227 18 8 (lE rfl) rfl
     replace q249:e221 8=P b218 0:=q249
     obtain ⟨p255,_⟩:=h253
     have S257:=St.addO S245 (h254 _ (.head _)) (oN p255 h250 S26) (oX p255 h250 S26) (cA (oP p255 p240 h250 S26 (nM) (hd228 18 14 (lE rfl) (lE rfl) (by decide))) (cA (oP p255 p239 h250 S26 (nM) (hd228 18 14 (lE rfl) (lE rfl) (by decide))) (cA (oP p255 p238 h250 S26 (nM) (hd228 18 14 (lE rfl) (lE rfl) (by decide))) (cA (oP p255 p237 h250 S26 (mG [0,1,2,3] rfl) (hd228 18 14 (lE rfl) (lE rfl) (by decide))) (cA (oP p255 p236 h250 S26 (mG [0,1,2,3] rfl) (hd228 18 14 (lE rfl) (lE rfl) (by decide))) (oL p255 h250 S26))))))
     try clear S245
     refine tailE [(4,P b18 0),(5,P b21 0),(6,P b24 0),(8,P b218 0),(26,AG ((vB r183.1.TicketBook A187 c188 A189 c190 A191 c192 A193 c194)++(sg r183.1.shown_ 3++[Value.map m195]))),(27,I r183.2)] ⟨((hf226 4 rfl).trans (rfl:_=P b18 0)),((hf226 5 rfl).trans (rfl:_=P b21 0)),((hf226 6 rfl).trans (rfl:_=P b24 0)),q249,q247,q248,trivial⟩ ?_
     intro g258
     refine p_stP (pre:=[]) (old:=[I 0,I 0,SL none 0 0,I 0,SL none 0 0,SL none 0 0,SL none 0 0]++(sg (List.replicate 3 0) 3++[Value.map none])) (post:=[]) (vs:=(vB r183.1.TicketBook A187 c188 A189 c190 A191 c192 A193 c194)++(sg r183.1.shown_ 3++[Value.map m195])) sz92 S257 (i:=0) rfl rfl rfl rfl (rfl:_=AG ((vB r183.1.TicketBook A187 c188 A189 c190 A191 c192 A193 c194)++(sg r183.1.shown_ 3++[Value.map m195]))) rfl rfl rfl rfl fun w259 S260=>?_
     try clear S257
     refine p_aI rfl<|wp_nil ?_
     have S261:=S260.pk [0,1,2,3] (by decide) [4,3,2,1,0,5,6,7,8,9,10] rfl rfl
     try clear S260
     exact ⟨(r183.1.TicketBook.Tally.Trips,r183.1.TicketBook.Tally.Room,r183.1.TicketBook.Tally.Counts,r183.1.TicketBook.Fare,r183.1.TicketBook.Tickets,r183.1.TicketBook.Shows,r183.1.TicketBook.Boxes,r183.1.shown_,r183.1.by_,r183.2),(b218,A187,c188,A189,c190,A191,c192,A193,c194,m195),_,rfl,⟨rfl,rfl,rfl,rfl,rfl,trivial⟩,H,S261⟩
    ·intro e261 w262 lo263 hi264 k265 hf266 hR267 hd268
     have S269:=S26.call k265
     obtain ⟨h271,h272,h273,⟨A187,c188,A189,c190,A191,c192,A193,c194,m195⟩,q270,h274,h275⟩:=hR267 14 25 (lE rfl) (by decide) rfl
     replace q270:e261 25=TU [AG ((vB r183.1.TicketBook A187 c188 A189 c190 A191 c192 A193 c194)++(sg r183.1.shown_ 3++[Value.map m195])),I r183.2]:=q270
     obtain ⟨p276,p277,p278,p279,p280,_⟩:=h274
     have S281:=St.addR S269 (h275 _ (.head _)) (oR p276 h271 S26 (mG [0,1,2,3] rfl))
     try clear S269
     have S282:=St.addR S281 (h275 _ (.tail _ (.head _))) (oR p277 h271 S26 (mG [0,1,2,3] rfl))
     try clear S281
     have S283:=St.addR S282 (h275 _ (.tail _ (.tail _ (.head _)))) (oR p278 h271 S26 (nM))
     try clear S282
     have S284:=St.addR S283 (h275 _ (.tail _ (.tail _ (.tail _ (.head _))))) (oR p279 h271 S26 (nM))
     try clear S283
     have S285:=St.addR S284 (h275 _ (.tail _ (.tail _ (.tail _ (.tail _ (.head _)))))) (oR p280 h271 S26 (nM))
     try clear S284
     have q286:e261 10=TU [AG ((vB r183.1.TicketBook A187 c188 A189 c190 A191 c192 A193 c194)++(sg r183.1.shown_ 3++[Value.map m195])),I r183.2]:=(sJ ((congrArg some q270).symm.trans (hR267 15 10 (lE rfl) (by decide) rfl).2.2.2)).symm
     have q287:e261 26=AG ((vB r183.1.TicketBook A187 c188 A189 c190 A191 c192 A193 c194)++(sg r183.1.shown_ 3++[Value.map m195])):=(sJ ((congrArg (exG 0) q286).symm.trans (hR267 16 26 (lE rfl) (by decide) rfl).2.2.2)).symm
     obtain ⟨h289,h290,h291,b218,q288,h292,h293⟩:=hR267 18 8 (lE rfl) (by decide) rfl
     replace q288:e261 8=P b218 0:=q288
     obtain ⟨p294,_⟩:=h292
     have S296:=St.addO S285 (h293 _ (.head _)) (oN p294 h289 S26) (oX p294 h289 S26) (cA (oP p294 p280 h289 S26 (nM) (hd268 18 14 (lE rfl) (lE rfl) (by decide) (by decide) (by decide))) (cA (oP p294 p279 h289 S26 (nM) (hd268 18 14 (lE rfl) (lE rfl) (by decide) (by decide) (by decide))) (cA (oP p294 p278 h289 S26 (nM) (hd268 18 14 (lE rfl) (lE rfl) (by decide) (by decide) (by decide))) (cA (oP p294 p277 h289 S26 (mG [0,1,2,3] rfl) (hd268 18 14 (lE rfl) (lE rfl) (by decide) (by decide) (by decide))) (cA (oP p294 p276 h289 S26 (mG [0,1,2,3] rfl) (hd268 18 14 (lE rfl) (lE rfl) (by decide) (by decide) (by decide))) (oL p294 h289 S26))))))
     try clear S285
     refine tailE [(4,P b18 0),(5,P b21 0),(6,P b24 0),(8,P b218 0),(10,TU [AG ((vB r183.1.TicketBook A187 c188 A189 c190 A191 c192 A193 c194)++(sg r183.1.shown_ 3++[Value.map m195])),I r183.2]),(26,AG ((vB r183.1.TicketBook A187 c188 A189 c190 A191 c192 A193 c194)++(sg r183.1.shown_ 3++[Value.map m195])))] ⟨((hf266 4 rfl).trans (rfl:_=P b18 0)),((hf266 5 rfl).trans (rfl:_=P b21 0)),((hf266 6 rfl).trans (rfl:_=P b24 0)),q288,q286,q287,trivial⟩ ?_
     intro g297
     refine p_stP (pre:=[]) (old:=[I 0,I 0,SL none 0 0,I 0,SL none 0 0,SL none 0 0,SL none 0 0]++(sg (List.replicate 3 0) 3++[Value.map none])) (post:=[]) (vs:=(vB r183.1.TicketBook A187 c188 A189 c190 A191 c192 A193 c194)++(sg r183.1.shown_ 3++[Value.map m195])) sz92 S296 (i:=0) rfl rfl rfl rfl (rfl:_=AG ((vB r183.1.TicketBook A187 c188 A189 c190 A191 c192 A193 c194)++(sg r183.1.shown_ 3++[Value.map m195]))) rfl rfl rfl rfl fun w298 S299=>?_
     try clear S296
     refine p_ext rfl rfl<|p_aI rfl<|wp_nil ?_
     have S300:=S299.pk [0,1,2,3] (by decide) [4,3,2,1,0,5,6,7,8,9,10] rfl rfl
     try clear S299
     exact ⟨(r183.1.TicketBook.Tally.Trips,r183.1.TicketBook.Tally.Room,r183.1.TicketBook.Tally.Counts,r183.1.TicketBook.Fare,r183.1.TicketBook.Tickets,r183.1.TicketBook.Shows,r183.1.TicketBook.Boxes,r183.1.shown_,r183.1.by_,r183.2),(b218,A187,c188,A189,c190,A191,c192,A193,c194,m195),_,rfl,⟨rfl,rfl,rfl,rfl,rfl,trivial⟩,H,S300⟩
  ·replace H:=condF c34 H
   obtain ⟨r317,h318,H⟩:=bindS H
   have A_:∀ {w_:World},Keep0 w25 w_→St w_ nF w_ [] [bl b24 [I 0,I 0] 49,bl b21 [I a2] 3,bl b18 [I a1] 3,bl b15 (vB a0 A1 c2 A4 c5 A7 c8 A10 c11) 29,rd eTallyCount 7 A1 c2 a0.Tally.Counts,rd eTicketSeason 2 A4 c5 a0.Tickets,rd eTicketShow 3 A7 c8 a0.Shows,rd eTicketBox 4 A10 c11 a0.Boxes,gW0,gW2]:=fun k_=>S26.asP k_
   refine reg_fl mixed 19 17 (by kernel_rfl) [rv (AG (vB a0 A1 c2 A4 c5 A7 c8 A10 c11)),rv (AG (vB a0 A1 c2 A4 c5 A7 c8 A10 c11)),rv (I a1),rv (B r29),rv (B false),rv (undef),rv (undef),rv (undef),rv (B false),rv (B false),rv (undef),rv (undef),rv (undef),rv (B false),rx (α:=(Option Addr)×Nat×(Option Addr)×Nat×(Option Addr)×Nat×(Option Addr)×Nat×(Option Nat)) (fun ⟨A321,c322,A323,c324,A325,c326,A327,c328,m329⟩=>TU [AG ((vB r317.1.TicketBook A321 c322 A323 c324 A325 c326 A327 c328)++(sg r317.1.shown_ 3++[Value.map m329])),I r317.2]) (fun ⟨A321,c322,A323,c324,A325,c326,A327,c328,m329⟩ lo hi=>BtwL lo hi [rd eTallyCount 7 A1 c2 a0.Tally.Counts,rd eTicketSeason 2 A4 c5 a0.Tickets,rd eTicketShow 3 A7 c8 a0.Shows,rd eTicketBox 4 A10 c11 a0.Boxes] (rd eTallyCount 7 A321 c322 r317.1.TicketBook.Tally.Counts)∧BtwL lo hi [rd eTallyCount 7 A1 c2 a0.Tally.Counts,rd eTicketSeason 2 A4 c5 a0.Tickets,rd eTicketShow 3 A7 c8 a0.Shows,rd eTicketBox 4 A10 c11 a0.Boxes] (rd eTicketSeason 2 A323 c324 r317.1.TicketBook.Tickets)∧BtwL lo hi [] (rd eTicketShow 3 A325 c326 r317.1.TicketBook.Shows)∧BtwL lo hi [] (rd eTicketBox 4 A327 c328 r317.1.TicketBook.Boxes)∧BtwL lo hi [] (mpo ekS iE m329 r317.1.by_)∧True) (fun ⟨A321,c322,A323,c324,A325,c326,A327,c328,m329⟩=>[rd eTallyCount 7 A321 c322 r317.1.TicketBook.Tally.Counts,rd eTicketSeason 2 A323 c324 r317.1.TicketBook.Tickets,rd eTicketShow 3 A325 c326 r317.1.TicketBook.Shows,rd eTicketBox 4 A327 c328 r317.1.TicketBook.Boxes,mpo ekS iE m329 r317.1.by_]),dv 25 some,dv 10 (exG 0),dv 10 (exG 1),rx (α:=Nat) (fun b352=>P b352 0) (fun b352 lo hi=>BtwL lo hi [] (bl b352 ([I 0,I 0,SL none 0 0,I 0,SL none 0 0,SL none 0 0,SL none 0 0]++(sg (List.replicate 3 0) 3++[Value.map none])) 92)∧True) (fun b352=>[bl b352 ([I 0,I 0,SL none 0 0,I 0,SL none 0 0,SL none 0 0,SL none 0 0]++(sg (List.replicate 3 0) 3++[Value.map none])) 92])] [[],[],[],[],[],[],[],[],[],[],[],[],[],[],[],[25],[10],[10],[]] rfl (by kernel_rfl) [[],[],[],[1,2],[1,2,3],[1,2,3,4],[1,2,3,4],[1,2,3,4,5,6],[1,2,3,4,5,6,7],[1,2,3,4,5,6,7,8],[1,2,3,4,5,6,7,8,9],[1,2,3,4,5,6,7,8,9],[1,2,3,4,5,6,7,8,9,10,11],[1,2,3,4,5,6,7,8,9,10,11,12],[0,1,2,3,4,5,6,7,8,9,10,11,12,13],[0,1,2,3,4,5,6,7,8,9,10,11,12,13,14],[0,1,2,3,4,5,6,7,8,9,10,11,12,13,14,15],[0,1,2,3,4,5,6,7,8,9,10,11,12,13,14,15],[],[0,1,2,3,4,5,6,7,8,9,10,11,12,13,14,15,16,18],[0,1,2,3,4,5,6,7,8,9,10,11,12,13,14,15,16,17,18,19]] (by kernel_rfl) ⟨?_,?_,?_,?_,?_,?_,?_,?_,?_,?_,?_,?_,?_,?_,?_,?_,?_,?_,?_,trivial⟩ ?_ ?_
   ·intro e_ w_ k_ hf_ hR_
    have S_:=@A_ _ k_
    refine hopE [(3,P b15 0)] ⟨((hf_ 3 rfl).trans (rfl:_=P b15 0)),trivial⟩ ?_
    exact p_ldA ty29 sz29 (S_.atP (i:=3) rfl) rfl rfl<|wp_nil ⟨_,rfl,S_.keep,rfl⟩
   ·intro e_ w_ k_ hf_ hR_
    have S_:=@A_ _ k_
    refine hopE [(3,P b15 0)] ⟨((hf_ 3 rfl).trans (rfl:_=P b15 0)),trivial⟩ ?_
    exact p_ldA ty29 sz29 (S_.atP (i:=3) rfl) rfl rfl<|wp_nil ⟨_,rfl,S_.keep,rfl⟩
   ·intro e_ w_ k_ hf_ hR_
    have S_:=@A_ _ k_
    refine hopE [(4,P b18 0)] ⟨((hf_ 4 rfl).trans (rfl:_=P b18 0)),trivial⟩ ?_
    exact p_ld ty3 (S_.atP (i:=2) rfl) rfl rfl<|wp_nil ⟨_,rfl,S_.keep,rfl⟩
   ·intro e_ w_ k_ hf_ hR_
    have S_:=@A_ _ k_
    refine hopE [(12,AG (vB a0 A1 c2 A4 c5 A7 c8 A10 c11)),(13,I a1)] ⟨rQ (hR_ 1 12 rfl (lE rfl) rfl),rQ (hR_ 2 13 rfl (lE rfl) rfl),trivial⟩ ?_
    refine p_cv (ticket_isTrip_ok h30 (S_.atP (i:=4) rfl) (S_.atP (i:=5) rfl) (S_.atP (i:=6) rfl) (S_.atP (i:=7) rfl)) fu59 rfl S_ fun w31 S32=>wp_nil ?_
    exact ⟨_,rfl,S32.keep,rfl⟩
   ·intro e_ w_ k_ hf_ hR_
    refine hopE [(14,B r29)] ⟨rQ (hR_ 3 14 rfl (lE rfl) rfl),trivial⟩ ?_
    exact p_mB rfl<|wp_nil ⟨_,rfl,kR,congrArg Value.bool c34⟩
   ·intro e_ w_ k_ hf_ hR_
    refine hopE [(3,P b15 0),(15,B false)] ⟨((hf_ 3 rfl).trans (rfl:_=P b15 0)),rQ (hR_ 4 15 rfl (lE rfl) rfl),trivial⟩ ?_
    exact gF rfl rfl<|wp_nil ⟨_,rfl,kR,rfl⟩
   ·intro e_ w_ k_ hf_ hR_
    refine hopE [(5,P b21 0),(15,B false)] ⟨((hf_ 5 rfl).trans (rfl:_=P b21 0)),rQ (hR_ 4 15 rfl (lE rfl) rfl),trivial⟩ ?_
    exact gF rfl rfl<|wp_nil ⟨_,rfl,kR,rfl⟩
   ·intro e_ w_ k_ hf_ hR_
    refine hopE [(15,B false),(16,undef),(17,undef)] ⟨rQ (hR_ 4 15 rfl (lE rfl) rfl),rQ (hR_ 5 16 rfl (lE rfl) rfl),rQ (hR_ 6 17 rfl (lE rfl) rfl),trivial⟩ ?_
    exact gF rfl rfl<|wp_nil ⟨_,rfl,kR,rfl⟩
   ·intro e_ w_ k_ hf_ hR_
    refine hopE [(15,B false),(18,undef)] ⟨rQ (hR_ 4 15 rfl (lE rfl) rfl),rQ (hR_ 7 18 rfl (lE rfl) rfl),trivial⟩ ?_
    exact p_pkF rfl (rfl:_=B false)<|wp_nil ⟨_,rfl,kR,rfl⟩
   ·intro e_ w_ k_ hf_ hR_
    refine hopE [(19,B false)] ⟨rQ (hR_ 8 19 rfl (lE rfl) rfl),trivial⟩ ?_
    exact p_mB rfl<|wp_nil ⟨_,rfl,kR,rfl⟩
   ·intro e_ w_ k_ hf_ hR_
    refine hopE [(4,P b18 0),(20,B false)] ⟨((hf_ 4 rfl).trans (rfl:_=P b18 0)),rQ (hR_ 9 20 rfl (lE rfl) rfl),trivial⟩ ?_
    exact gF rfl rfl<|wp_nil ⟨_,rfl,kR,rfl⟩
   ·intro e_ w_ k_ hf_ hR_
    refine hopE [(5,P b21 0),(20,B false)] ⟨((hf_ 5 rfl).trans (rfl:_=P b21 0)),rQ (hR_ 9 20 rfl (lE rfl) rfl),trivial⟩ ?_
    exact gF rfl rfl<|wp_nil ⟨_,rfl,kR,rfl⟩
   ·intro e_ w_ k_ hf_ hR_
    refine hopE [(20,B false),(21,undef),(22,undef)] ⟨rQ (hR_ 9 20 rfl (lE rfl) rfl),rQ (hR_ 10 21 rfl (lE rfl) rfl),rQ (hR_ 11 22 rfl (lE rfl) rfl),trivial⟩ ?_
    exact gF rfl rfl<|wp_nil ⟨_,rfl,kR,rfl⟩
   ·intro e_ w_ k_ hf_ hR_
    refine hopE [(20,B false),(23,undef)] ⟨rQ (hR_ 9 20 rfl (lE rfl) rfl),rQ (hR_ 12 23 rfl (lE rfl) rfl),trivial⟩ ?_
    exact p_pkF rfl (rfl:_=B false)<|wp_nil ⟨_,rfl,kR,rfl⟩
   ·intro e_ w_ k_ hf_ hR_
    have S_:=@A_ _ k_
    refine hopE [(11,AG (vB a0 A1 c2 A4 c5 A7 c8 A10 c11)),(24,B false)] ⟨rQ (hR_ 0 11 rfl (lE rfl) rfl),rQ (hR_ 13 24 rfl (lE rfl) rfl),trivial⟩ ?_
    refine p_cal (ticket_asked_ok h318 (S_.atP (i:=4) rfl) (S_.atP (i:=5) rfl) (S_.atP (i:=6) rfl) (S_.atP (i:=7) rfl) (S_.atP (i:=8) rfl) (S_.atP (i:=9) rfl)) fu58 rfl ?_
    rintro _ w319 ⟨A321,c322,A323,c324,A325,c326,A327,c328,m329,rfl,k320,⟨o330,n331⟩,⟨o332,n333⟩,⟨o334,n335⟩,⟨o336,n337⟩,⟨o338,n339⟩,_⟩
    have S340:=S_.callN k320 [rd eTallyCount 7 A321 c322 r317.1.TicketBook.Tally.Counts,rd eTicketSeason 2 A323 c324 r317.1.TicketBook.Tickets,rd eTicketShow 3 A325 c326 r317.1.TicketBook.Shows,rd eTicketBox 4 A327 c328 r317.1.TicketBook.Boxes,mpo ekS iE m329 r317.1.by_] (cA ⟨o330,Al.inL n331 ((cA (fp_mem (i:=4) rfl) (cA (fp_mem (i:=5) rfl) (cA (fp_mem (i:=6) rfl) (cA (fp_mem (i:=7) rfl) nM)))))⟩ (cA ⟨o332,Al.inL n333 ((cA (fp_mem (i:=4) rfl) (cA (fp_mem (i:=5) rfl) (cA (fp_mem (i:=6) rfl) (cA (fp_mem (i:=7) rfl) nM)))))⟩ (cA ⟨o334,New.inL n335⟩ (cA ⟨o336,New.inL n337⟩ (cA ⟨o338,New.inL n339⟩ nM)))))
    exact wp_nil ⟨_,rfl,S340.keep,⟨(A321,c322,A323,c324,A325,c326,A327,c328,m329),rfl,⟨bL n331 rfl (S340.atP (i:=0) rfl) rfl,bL n333 rfl (S340.atP (i:=1) rfl) rfl,bL (New.al (New.mono n335 S_.keep.size)) rfl (S340.atP (i:=2) rfl) rfl,bL (New.al (New.mono n337 S_.keep.size)) rfl (S340.atP (i:=3) rfl) rfl,bL (New.al (New.mono n339 S_.keep.size)) rfl (S340.atP (i:=4) rfl) rfl,trivial⟩,(cA (S340.atP (i:=0) rfl) (cA (S340.atP (i:=1) rfl) (cA (S340.atP (i:=2) rfl) (cA (S340.atP (i:=3) rfl) (cA (S340.atP (i:=4) rfl) nM)))))⟩⟩
   ·intro e_ w_ k_ hf_ hR_
    have S_:=@A_ _ k_
    obtain ⟨_,_,_,_,⟨A321,c322,A323,c324,A325,c326,A327,c328,m329⟩,q341,p342,a343⟩:=hR_ 14 25 rfl (lE rfl) rfl
    replace q341:e_ 25=TU [AG ((vB r317.1.TicketBook A321 c322 A323 c324 A325 c326 A327 c328)++(sg r317.1.shown_ 3++[Value.map m329])),I r317.2]:=q341
    have S_:=St.addL' S_ (a343 _ (.head _)) (fun _ _ _ h_=>(nE h_))
    have S_:=St.addL' S_ (a343 _ (.tail _ (.head _))) (fun _ _ _ h_=>(nE h_))
    have S_:=St.addL' S_ (a343 _ (.tail _ (.tail _ (.head _)))) (fun _ _ _ h_=>(nE h_))
    have S_:=St.addL' S_ (a343 _ (.tail _ (.tail _ (.tail _ (.head _))))) (fun _ _ _ h_=>(nE h_))
    have S_:=St.addL' S_ (a343 _ (.tail _ (.tail _ (.tail _ (.tail _ (.head _)))))) (fun _ _ _ h_=>(nE h_))
    refine hopE [(25,TU [AG ((vB r317.1.TicketBook A321 c322 A323 c324 A325 c326 A327 c328)++(sg r317.1.shown_ 3++[Value.map m329])),I r317.2])] ⟨q341,trivial⟩ ?_
    refine p_mT rfl<|wp_nil ?_
    exact ⟨_,rfl,S_.keep,rfl⟩
   ·intro e_ w_ k_ hf_ hR_
    have S_:=@A_ _ k_
    obtain ⟨_,_,_,_,⟨A321,c322,A323,c324,A325,c326,A327,c328,m329⟩,q345,p346,a347⟩:=hR_ 14 25 rfl (lE rfl) rfl
    replace q345:e_ 25=TU [AG ((vB r317.1.TicketBook A321 c322 A323 c324 A325 c326 A327 c328)++(sg r317.1.shown_ 3++[Value.map m329])),I r317.2]:=q345
    have S_:=St.addL' S_ (a347 _ (.head _)) (fun _ _ _ h_=>(nE h_))
    have S_:=St.addL' S_ (a347 _ (.tail _ (.head _))) (fun _ _ _ h_=>(nE h_))
    have S_:=St.addL' S_ (a347 _ (.tail _ (.tail _ (.head _)))) (fun _ _ _ h_=>(nE h_))
    have S_:=St.addL' S_ (a347 _ (.tail _ (.tail _ (.tail _ (.head _))))) (fun _ _ _ h_=>(nE h_))
    have S_:=St.addL' S_ (a347 _ (.tail _ (.tail _ (.tail _ (.tail _ (.head _)))))) (fun _ _ _ h_=>(nE h_))
    obtain ⟨_,_,_,_,q344⟩:=hR_ 15 10 rfl (lE rfl) rfl
    replace q344:e_ 10=TU [AG ((vB r317.1.TicketBook A321 c322 A323 c324 A325 c326 A327 c328)++(sg r317.1.shown_ 3++[Value.map m329])),I r317.2]:=(sJ ((congrArg some q345).symm.trans q344)).symm
    refine hopE [(10,TU [AG ((vB r317.1.TicketBook A321 c322 A323 c324 A325 c326 A327 c328)++(sg r317.1.shown_ 3++[Value.map m329])),I r317.2])] ⟨q344,trivial⟩ ?_
    refine p_ext rfl rfl<|wp_nil ?_
    exact ⟨_,rfl,S_.keep,rfl⟩
   ·intro e_ w_ k_ hf_ hR_
    have S_:=@A_ _ k_
    obtain ⟨_,_,_,_,⟨A321,c322,A323,c324,A325,c326,A327,c328,m329⟩,q349,p350,a351⟩:=hR_ 14 25 rfl (lE rfl) rfl
    replace q349:e_ 25=TU [AG ((vB r317.1.TicketBook A321 c322 A323 c324 A325 c326 A327 c328)++(sg r317.1.shown_ 3++[Value.map m329])),I r317.2]:=q349
    have S_:=St.addL' S_ (a351 _ (.head _)) (fun _ _ _ h_=>(nE h_))
    have S_:=St.addL' S_ (a351 _ (.tail _ (.head _))) (fun _ _ _ h_=>(nE h_))
    have S_:=St.addL' S_ (a351 _ (.tail _ (.tail _ (.head _)))) (fun _ _ _ h_=>(nE h_))
    have S_:=St.addL' S_ (a351 _ (.tail _ (.tail _ (.tail _ (.head _))))) (fun _ _ _ h_=>(nE h_))
    have S_:=St.addL' S_ (a351 _ (.tail _ (.tail _ (.tail _ (.tail _ (.head _)))))) (fun _ _ _ h_=>(nE h_))
    obtain ⟨_,_,_,_,q348⟩:=hR_ 15 10 rfl (lE rfl) rfl
    replace q348:e_ 10=TU [AG ((vB r317.1.TicketBook A321 c322 A323 c324 A325 c326 A327 c328)++(sg r317.1.shown_ 3++[Value.map m329])),I r317.2]:=(sJ ((congrArg some q349).symm.trans q348)).symm
    refine hopE [(10,TU [AG ((vB r317.1.TicketBook A321 c322 A323 c324 A325 c326 A327 c328)++(sg r317.1.shown_ 3++[Value.map m329])),I r317.2])] ⟨q348,trivial⟩ ?_
    refine p_ext rfl rfl<|wp_nil ?_
    exact ⟨_,rfl,S_.keep,rfl⟩
   ·intro e_ w_ k_ hf_ hR_
    have S_:=@A_ _ k_
    refine hopE [] trivial ?_
    refine p_allA in92 S_ fun b352 w353 S354=>wp_nil ?_
    exact ⟨_,rfl,S354.keep,⟨b352,rfl,⟨bL (New.al (S354.newX (i:=0) rfl)) rfl (S354.atX (i:=0) rfl) rfl,trivial⟩,(cA (S354.atX (i:=0) rfl) nM)⟩⟩
   ·intro e355 w356 lo357 hi358 k359 hf360 hR361 hd362
    have S363:=S26.call k359
    obtain ⟨h365,h366,h367,⟨A321,c322,A323,c324,A325,c326,A327,c328,m329⟩,q364,h368,h369⟩:=hR361 14 25 (lE rfl) rfl
    replace q364:e355 25=TU [AG ((vB r317.1.TicketBook A321 c322 A323 c324 A325 c326 A327 c328)++(sg r317.1.shown_ 3++[Value.map m329])),I r317.2]:=q364
    obtain ⟨p370,p371,p372,p373,p374,_⟩:=h368
    have S375:=St.addR S363 (h369 _ (.head _)) (oR p370 h365 S26 (mG [0,1,2,3] rfl))
    try clear S363
    have S376:=St.addR S375 (h369 _ (.tail _ (.head _))) (oR p371 h365 S26 (mG [0,1,2,3] rfl))
    try clear S375
    have S377:=St.addR S376 (h369 _ (.tail _ (.tail _ (.head _)))) (oR p372 h365 S26 (nM))
    try clear S376
    have S378:=St.addR S377 (h369 _ (.tail _ (.tail _ (.tail _ (.head _))))) (oR p373 h365 S26 (nM))
    try clear S377
    have S379:=St.addR S378 (h369 _ (.tail _ (.tail _ (.tail _ (.tail _ (.head _)))))) (oR p374 h365 S26 (nM))
    try clear S378
    have q380:e355 10=TU [AG ((vB r317.1.TicketBook A321 c322 A323 c324 A325 c326 A327 c328)++(sg r317.1.shown_ 3++[Value.map m329])),I r317.2]:=(sJ ((congrArg some q364).symm.trans (hR361 15 10 (lE rfl) rfl).2.2.2)).symm
    have q381:e355 26=AG ((vB r317.1.TicketBook A321 c322 A323 c324 A325 c326 A327 c328)++(sg r317.1.shown_ 3++[Value.map m329])):=(sJ ((congrArg (exG 0) q380).symm.trans (hR361 16 26 (lE rfl) rfl).2.2.2)).symm
    have q382:e355 27=I r317.2:=(sJ ((congrArg (exG 1) q380).symm.trans (hR361 17 27 (lE rfl) rfl).2.2.2)).symm
    obtain ⟨h384,h385,h386,b352,q383,h387,h388⟩:=hR361 18 8 (lE rfl) rfl
    replace q383:e355 8=P b352 0:=q383
    obtain ⟨p389,_⟩:=h387
    have S391:=St.addO S379 (h388 _ (.head _)) (oN p389 h384 S26) (oX p389 h384 S26) (cA (oP p389 p374 h384 S26 (nM) (hd362 18 14 (lE rfl) (lE rfl) (by decide))) (cA (oP p389 p373 h384 S26 (nM) (hd362 18 14 (lE rfl) (lE rfl) (by decide))) (cA (oP p389 p372 h384 S26 (nM) (hd362 18 14 (lE rfl) (lE rfl) (by decide))) (cA (oP p389 p371 h384 S26 (mG [0,1,2,3] rfl) (hd362 18 14 (lE rfl) (lE rfl) (by decide))) (cA (oP p389 p370 h384 S26 (mG [0,1,2,3] rfl) (hd362 18 14 (lE rfl) (lE rfl) (by decide))) (oL p389 h384 S26))))))
    try clear S379
    refine tailE [(4,P b18 0),(5,P b21 0),(6,P b24 0),(8,P b352 0),(26,AG ((vB r317.1.TicketBook A321 c322 A323 c324 A325 c326 A327 c328)++(sg r317.1.shown_ 3++[Value.map m329]))),(27,I r317.2)] ⟨((hf360 4 rfl).trans (rfl:_=P b18 0)),((hf360 5 rfl).trans (rfl:_=P b21 0)),((hf360 6 rfl).trans (rfl:_=P b24 0)),q383,q381,q382,trivial⟩ ?_
    intro g392
    refine p_stP (pre:=[]) (old:=[I 0,I 0,SL none 0 0,I 0,SL none 0 0,SL none 0 0,SL none 0 0]++(sg (List.replicate 3 0) 3++[Value.map none])) (post:=[]) (vs:=(vB r317.1.TicketBook A321 c322 A323 c324 A325 c326 A327 c328)++(sg r317.1.shown_ 3++[Value.map m329])) sz92 S391 (i:=0) rfl rfl rfl rfl (rfl:_=AG ((vB r317.1.TicketBook A321 c322 A323 c324 A325 c326 A327 c328)++(sg r317.1.shown_ 3++[Value.map m329]))) rfl rfl rfl rfl fun w393 S394=>?_
    try clear S391
    refine p_aI rfl<|wp_nil ?_
    have S395:=S394.pk [0,1,2,3] (by decide) [4,3,2,1,0,5,6,7,8,9,10] rfl rfl
    try clear S394
    exact ⟨(r317.1.TicketBook.Tally.Trips,r317.1.TicketBook.Tally.Room,r317.1.TicketBook.Tally.Counts,r317.1.TicketBook.Fare,r317.1.TicketBook.Tickets,r317.1.TicketBook.Shows,r317.1.TicketBook.Boxes,r317.1.shown_,r317.1.by_,r317.2),(b352,A321,c322,A323,c324,A325,c326,A327,c328,m329),_,rfl,⟨rfl,rfl,rfl,rfl,rfl,trivial⟩,H,S395⟩
   ·intro e395 w396 lo397 hi398 k399 hf400 hR401 hd402
    have S403:=S26.call k399
    obtain ⟨h405,h406,h407,⟨A321,c322,A323,c324,A325,c326,A327,c328,m329⟩,q404,h408,h409⟩:=hR401 14 25 (lE rfl) (by decide) rfl
    replace q404:e395 25=TU [AG ((vB r317.1.TicketBook A321 c322 A323 c324 A325 c326 A327 c328)++(sg r317.1.shown_ 3++[Value.map m329])),I r317.2]:=q404
    obtain ⟨p410,p411,p412,p413,p414,_⟩:=h408
    have S415:=St.addR S403 (h409 _ (.head _)) (oR p410 h405 S26 (mG [0,1,2,3] rfl))
    try clear S403
    have S416:=St.addR S415 (h409 _ (.tail _ (.head _))) (oR p411 h405 S26 (mG [0,1,2,3] rfl))
    try clear S415
    have S417:=St.addR S416 (h409 _ (.tail _ (.tail _ (.head _)))) (oR p412 h405 S26 (nM))
    try clear S416
    have S418:=St.addR S417 (h409 _ (.tail _ (.tail _ (.tail _ (.head _))))) (oR p413 h405 S26 (nM))
    try clear S417
    have S419:=St.addR S418 (h409 _ (.tail _ (.tail _ (.tail _ (.tail _ (.head _)))))) (oR p414 h405 S26 (nM))
    try clear S418
    have q420:e395 10=TU [AG ((vB r317.1.TicketBook A321 c322 A323 c324 A325 c326 A327 c328)++(sg r317.1.shown_ 3++[Value.map m329])),I r317.2]:=(sJ ((congrArg some q404).symm.trans (hR401 15 10 (lE rfl) (by decide) rfl).2.2.2)).symm
    have q421:e395 26=AG ((vB r317.1.TicketBook A321 c322 A323 c324 A325 c326 A327 c328)++(sg r317.1.shown_ 3++[Value.map m329])):=(sJ ((congrArg (exG 0) q420).symm.trans (hR401 16 26 (lE rfl) (by decide) rfl).2.2.2)).symm
    obtain ⟨h423,h424,h425,b352,q422,h426,h427⟩:=hR401 18 8 (lE rfl) (by decide) rfl
    replace q422:e395 8=P b352 0:=q422
    obtain ⟨p428,_⟩:=h426
    have S430:=St.addO S419 (h427 _ (.head _)) (oN p428 h423 S26) (oX p428 h423 S26) (cA (oP p428 p414 h423 S26 (nM) (hd402 18 14 (lE rfl) (lE rfl) (by decide) (by decide) (by decide))) (cA (oP p428 p413 h423 S26 (nM) (hd402 18 14 (lE rfl) (lE rfl) (by decide) (by decide) (by decide))) (cA (oP p428 p412 h423 S26 (nM) (hd402 18 14 (lE rfl) (lE rfl) (by decide) (by decide) (by decide))) (cA (oP p428 p411 h423 S26 (mG [0,1,2,3] rfl) (hd402 18 14 (lE rfl) (lE rfl) (by decide) (by decide) (by decide))) (cA (oP p428 p410 h423 S26 (mG [0,1,2,3] rfl) (hd402 18 14 (lE rfl) (lE rfl) (by decide) (by decide) (by decide))) (oL p428 h423 S26))))))
    try clear S26; try clear S419
    refine tailE [(4,P b18 0),(5,P b21 0),(6,P b24 0),(8,P b352 0),(10,TU [AG ((vB r317.1.TicketBook A321 c322 A323 c324 A325 c326 A327 c328)++(sg r317.1.shown_ 3++[Value.map m329])),I r317.2]),(26,AG ((vB r317.1.TicketBook A321 c322 A323 c324 A325 c326 A327 c328)++(sg r317.1.shown_ 3++[Value.map m329])))] ⟨((hf400 4 rfl).trans (rfl:_=P b18 0)),((hf400 5 rfl).trans (rfl:_=P b21 0)),((hf400 6 rfl).trans (rfl:_=P b24 0)),q422,q420,q421,trivial⟩ ?_
    intro g431
    refine p_stP (pre:=[]) (old:=[I 0,I 0,SL none 0 0,I 0,SL none 0 0,SL none 0 0,SL none 0 0]++(sg (List.replicate 3 0) 3++[Value.map none])) (post:=[]) (vs:=(vB r317.1.TicketBook A321 c322 A323 c324 A325 c326 A327 c328)++(sg r317.1.shown_ 3++[Value.map m329])) sz92 S430 (i:=0) rfl rfl rfl rfl (rfl:_=AG ((vB r317.1.TicketBook A321 c322 A323 c324 A325 c326 A327 c328)++(sg r317.1.shown_ 3++[Value.map m329]))) rfl rfl rfl rfl fun w432 S433=>?_
    try clear S430
    refine p_ext rfl rfl<|p_aI rfl<|wp_nil ?_
    have S434:=S433.pk [0,1,2,3] (by decide) [4,3,2,1,0,5,6,7,8,9,10] rfl rfl
    try clear S433
    exact ⟨(r317.1.TicketBook.Tally.Trips,r317.1.TicketBook.Tally.Room,r317.1.TicketBook.Tally.Counts,r317.1.TicketBook.Fare,r317.1.TicketBook.Tickets,r317.1.TicketBook.Shows,r317.1.TicketBook.Boxes,r317.1.shown_,r317.1.by_,r317.2),(b352,A321,c322,A323,c324,A325,c326,A327,c328,m329),_,rfl,⟨rfl,rfl,rfl,rfl,rfl,trivial⟩,H,S434⟩
 ·intro z_1 y_1 e27 w28 S29; obtain ⟨H,S29⟩:=S29
  unfold ticket_Paid_j1 at H
  refine c_seq<|c_seq<|reg<|p_mI rfl<|p_cmp rfl rfl rfl<|wp_nil ?_
  refine c_cond rfl (fun c30=>?_) (fun c30=>?_)
  ·replace H:=condT c30 H
   refine c_seq<|reg<|p_bld (cs:=[I 0,I 0]) st49 (rfl:_=[]) (by kernel_rfl)<|p_mI rfl<|p_stP (pre:=[]) (old:=[I 0,I 0]) (post:=[]) (vs:=[I 0,I 0]) sz49 S29 (i:=1) rfl rfl rfl rfl (rfl:_=AG [I 0,I 0]) rfl rfl rfl rfl fun w31 S32=>p_aI rfl<|wp_nil ?_
   have S33:St w nF w31 [bl b24 [I 0,I 0] 49] [rd eTallyCount 7 y_1.2.1 y_1.2.2.1 z_1.2.2.1,rd eTicketSeason 2 y_1.2.2.2.1 y_1.2.2.2.2.1 z_1.2.2.2.2.1,rd eTicketShow 3 y_1.2.2.2.2.2.1 y_1.2.2.2.2.2.2.1 z_1.2.2.2.2.2.1,rd eTicketBox 4 y_1.2.2.2.2.2.2.2.1 y_1.2.2.2.2.2.2.2.2.1 z_1.2.2.2.2.2.2.1,mpo ekS iE y_1.2.2.2.2.2.2.2.2.2 z_1.2.2.2.2.2.2.2.2.1,gW0,gW2]:=S32.pk [1] (by decide) [0,1,2,3,4,9,10] rfl rfl
   try clear S32
   obtain rfl:=sJ H
   refine c_ret ?_; show bodyPostM (Fr none) 0 Tryd.prog Tryd.f22 _ .ret _ _
   refine ret_of (res2 rfl (rvA rfl ty49 sz49 (S33.atX (i:=0) rfl) rfl) (rvT (rfl:_=I z_1.2.2.2.2.2.2.2.2.2))) ?_
   exact ⟨_,rfl,rfl,S33.keep⟩
  ·replace H:=condF c30 H
   refine c_skip<|c_seq<|reg<|p_ldA ty92 sz92 (S29.atX (i:=0) rfl) rfl rfl ?_
   refine o_fun (rfl:_=[]) (rfl:_=[P b18 0,P b21 0]) ?_
   obtain ⟨r35,h36,H⟩:=bindS H
   refine p_cv (ticket_book_span_ok h36 (S29.atP (i:=0) rfl) (S29.atP (i:=1) rfl) (S29.atP (i:=2) rfl) (S29.atP (i:=3) rfl) (S29.atP (i:=4) rfl) (by kernel_rfl) (fun _ _ _ k_ hr_=>ticket_Paid_1_ok hr_ (aS (S29.atX (i:=2) rfl) k_) (aS (S29.atX (i:=3) rfl) k_)) (S29.atP (i:=9) rfl) (S29.atP (i:=10) rfl)) fu60 rfl S29 fun w37 S38=>?_
   try clear S29
   refine p_stP (pre:=[]) (old:=[I 0,I 0]) (post:=[]) (vs:=[I r35.Low,I r35.High]) sz49 S38 (i:=1) rfl rfl rfl rfl (rfl:_=AG [I r35.Low,I r35.High]) rfl rfl rfl rfl fun w39 S40=>?_
   try clear S38
   refine p_aI rfl<|wp_nil ?_
   have S41:St w nF w39 [bl b24 [I r35.Low,I r35.High] 49] [gW0,gW2]:=S40.pk [1] (by decide) [9,10] rfl rfl
   try clear S40
   obtain rfl:=sJ H
   refine c_ret ?_; show bodyPostM (Fr none) 0 Tryd.prog Tryd.f22 _ .ret _ _
   refine ret_of (res2 rfl (rvA rfl ty49 sz49 (S41.atX (i:=0) rfl) rfl) (rvT (rfl:_=I 0))) ?_
   exact ⟨_,rfl,rfl,S41.keep⟩
def ticket_used_l4 (a0:TicketBook) (a2:Int) (r27:Ticket_book×Int) (a1:Int) (rec_z_1:((List Int)×Int)→Option ((List Int)×Int)) (z_1:(List Int)×Int):Option ((List Int)×Int):=
 bif decide (z_1.2 < (a0.Tickets.length:Int)) then (need (inI a2 2)<|
 bif a2==0 then ((ticket_book_always r27.1 z_1.2 a1).bind fun r115=>
 bif r115 then (need (fitsL (z_1.1.length+([z_1.2]:List Int).length) 8)<|
 rec_z_1 (z_1.1++([z_1.2]:List Int),wr (z_1.2+1)))
 else (rec_z_1 (z_1.1,wr (z_1.2+1))))
 else ((ticket_book_sometimes r27.1 z_1.2 a1).bind fun r132=>
 bif r132 then (need (fitsL (z_1.1.length+([z_1.2]:List Int).length) 8)<|
 rec_z_1 (z_1.1++([z_1.2]:List Int),wr (z_1.2+1)))
 else (rec_z_1 (z_1.1,wr (z_1.2+1)))))
 else (some (z_1.1,0))
def ticket_used_l5 (a0:TicketBook) (a2:Int) (r27:Ticket_book×Int) (a1:Int) (rec_z_1:((List Int)×Int)→Option ((List Int)×Int)) (z_1:(List Int)×Int):Option ((List Int)×Int):=
 bif decide (z_1.2 < (a0.Tickets.length:Int)) then (need (inI a2 2)<|
 bif a2==0 then ((ticket_book_always r27.1 z_1.2 a1).bind fun r199=>
 bif r199 then (need (fitsL (z_1.1.length+([z_1.2]:List Int).length) 8)<|
 rec_z_1 (z_1.1++([z_1.2]:List Int),wr (z_1.2+1)))
 else (rec_z_1 (z_1.1,wr (z_1.2+1))))
 else ((ticket_book_sometimes r27.1 z_1.2 a1).bind fun r216=>
 bif r216 then (need (fitsL (z_1.1.length+([z_1.2]:List Int).length) 8)<|
 rec_z_1 (z_1.1++([z_1.2]:List Int),wr (z_1.2+1)))
 else (rec_z_1 (z_1.1,wr (z_1.2+1)))))
 else (some (z_1.1,0))
def ticket_used (a0:TicketBook) (a1:Int) (a2:Int):Option ((List Int)×Int):=
 (ticket_isTrip a0 a1).bind fun r21=>
 (ticket_asked a0 r21).bind fun r27=>
 bif (r27.2 != 0) then (some (([]:List _),r27.2))
 else (loopF (ticket_used_l4 a0 a2 r27 a1) big (([]:List Int),0))
set_option maxHeartbeats 10000000 in
set_option maxRecDepth 100000 in
theorem ticket_used_ok {a0:TicketBook}{a1:Int}{a2:Int}{A1:Option Addr}{c2:Nat}{A4:Option Addr}{c5:Nat}{A7:Option Addr}{c8:Nat}{A10:Option Addr}{c11:Nat}{w:World}{r:(List Int)×Int} (H:ticket_used a0 a1 a2=some r) (h3:(rd eTallyCount 7 A1 c2 a0.Tally.Counts).ok w) (h6:(rd eTicketSeason 2 A4 c5 a0.Tickets).ok w) (h9:(rd eTicketShow 3 A7 c8 a0.Shows).ok w) (h12:(rd eTicketBox 4 A10 c11 a0.Boxes).ok w) (hg13:(gW0).ok w) (hg14:(gW1).ok w) (hg15:(gW2).ok w):Calls Tryd.prog 63 #[AG (vB a0 A1 c2 A4 c5 A7 c8 A10 c11),I a1,I a2] w fun en w_=>∃ u_,en=.returned u_∧∃ A_1:Option Addr,∃ c_2:Nat,u_=TU [SL A_1 r.1.length c_2,I r.2]∧Keep0 w w_∧((rd intE 1 A_1 c_2 r.1).ok w_∧New w.heap.size (rd intE 1 A_1 c_2 r.1))∧True:=by
 unfold ticket_used at H
 refine fn_of (n:=47) Tryd.func63 rfl rfl (lE rfl) ?_
 have S:=St.start w nF _ (cA h3 (cA h6 (cA h9 (cA h12 (cA hg13 (cA hg14 (cA hg15 nM)))))))
 refine c_seq<|reg<|p_boxA rfl S fun b16 w17 S18=>p_aS rfl<|p_aI rfl<|wp_nil<|c_seq ?_
 obtain ⟨r21,h22,H⟩:=bindS H
 obtain ⟨r27,h28,H⟩:=bindS H
 have A_:∀ {w_:World},Keep0 w17 w_→St w_ nF w_ [] [bl b16 (vB a0 A1 c2 A4 c5 A7 c8 A10 c11) 29,rd eTallyCount 7 A1 c2 a0.Tally.Counts,rd eTicketSeason 2 A4 c5 a0.Tickets,rd eTicketShow 3 A7 c8 a0.Shows,rd eTicketBox 4 A10 c11 a0.Boxes,gW0,gW1,gW2]:=fun k_=>S18.asP k_
 refine reg_fl mixed 9 7 (by kernel_rfl) [rv (AG (vB a0 A1 c2 A4 c5 A7 c8 A10 c11)),rv (AG (vB a0 A1 c2 A4 c5 A7 c8 A10 c11)),rv (I a1),rv (B r21),rx (α:=(Option Addr)×Nat×(Option Addr)×Nat×(Option Addr)×Nat×(Option Addr)×Nat×(Option Nat)) (fun ⟨A31,c32,A33,c34,A35,c36,A37,c38,m39⟩=>TU [AG ((vB r27.1.TicketBook A31 c32 A33 c34 A35 c36 A37 c38)++(sg r27.1.shown_ 3++[Value.map m39])),I r27.2]) (fun ⟨A31,c32,A33,c34,A35,c36,A37,c38,m39⟩ lo hi=>BtwL lo hi [rd eTallyCount 7 A1 c2 a0.Tally.Counts,rd eTicketSeason 2 A4 c5 a0.Tickets,rd eTicketShow 3 A7 c8 a0.Shows,rd eTicketBox 4 A10 c11 a0.Boxes] (rd eTallyCount 7 A31 c32 r27.1.TicketBook.Tally.Counts)∧BtwL lo hi [rd eTallyCount 7 A1 c2 a0.Tally.Counts,rd eTicketSeason 2 A4 c5 a0.Tickets,rd eTicketShow 3 A7 c8 a0.Shows,rd eTicketBox 4 A10 c11 a0.Boxes] (rd eTicketSeason 2 A33 c34 r27.1.TicketBook.Tickets)∧BtwL lo hi [] (rd eTicketShow 3 A35 c36 r27.1.TicketBook.Shows)∧BtwL lo hi [] (rd eTicketBox 4 A37 c38 r27.1.TicketBook.Boxes)∧BtwL lo hi [] (mpo ekS iE m39 r27.1.by_)∧True) (fun ⟨A31,c32,A33,c34,A35,c36,A37,c38,m39⟩=>[rd eTallyCount 7 A31 c32 r27.1.TicketBook.Tally.Counts,rd eTicketSeason 2 A33 c34 r27.1.TicketBook.Tickets,rd eTicketShow 3 A35 c36 r27.1.TicketBook.Shows,rd eTicketBox 4 A37 c38 r27.1.TicketBook.Boxes,mpo ekS iE m39 r27.1.by_]),dv 17 some,dv 12 (exG 0),dv 12 (exG 1),rx (α:=Nat) (fun b62=>P b62 0) (fun b62 lo hi=>BtwL lo hi [] (bl b62 ([I 0,I 0,SL none 0 0,I 0,SL none 0 0,SL none 0 0,SL none 0 0]++(sg (List.replicate 3 0) 3++[Value.map none])) 92)∧True) (fun b62=>[bl b62 ([I 0,I 0,SL none 0 0,I 0,SL none 0 0,SL none 0 0,SL none 0 0]++(sg (List.replicate 3 0) 3++[Value.map none])) 92])] [[],[],[],[],[],[17],[12],[12],[]] rfl (by kernel_rfl) [[],[],[],[1,2],[0,1,2,3],[0,1,2,3,4],[0,1,2,3,4,5],[0,1,2,3,4,5],[],[0,1,2,3,4,5,6,8],[0,1,2,3,4,5,6,7,8,9]] (by kernel_rfl) ⟨?_,?_,?_,?_,?_,?_,?_,?_,?_,trivial⟩ ?_ ?_
 ·intro e_ w_ k_ hf_ hR_
  have S_:=@A_ _ k_
  refine hopE [(3,P b16 0)] ⟨((hf_ 3 rfl).trans (rfl:_=P b16 0)),trivial⟩ ?_
  exact p_ldA ty29 sz29 (S_.atP (i:=0) rfl) rfl rfl<|wp_nil ⟨_,rfl,S_.keep,rfl⟩
 ·intro e_ w_ k_ hf_ hR_
  have S_:=@A_ _ k_
  refine hopE [(3,P b16 0)] ⟨((hf_ 3 rfl).trans (rfl:_=P b16 0)),trivial⟩ ?_
  exact p_ldA ty29 sz29 (S_.atP (i:=0) rfl) rfl rfl<|wp_nil ⟨_,rfl,S_.keep,rfl⟩
 ·intro e_ w_ k_ hf_ hR_
  refine hopE [(1,I a1)] ⟨((hf_ 1 rfl).trans (rfl:_=I a1)),trivial⟩ ?_
  exact p_mI rfl<|wp_nil ⟨_,rfl,kR,rfl⟩
 ·intro e_ w_ k_ hf_ hR_
  have S_:=@A_ _ k_
  refine hopE [(14,AG (vB a0 A1 c2 A4 c5 A7 c8 A10 c11)),(15,I a1)] ⟨rQ (hR_ 1 14 rfl (lE rfl) rfl),rQ (hR_ 2 15 rfl (lE rfl) rfl),trivial⟩ ?_
  refine p_cv (ticket_isTrip_ok h22 (S_.atP (i:=1) rfl) (S_.atP (i:=2) rfl) (S_.atP (i:=3) rfl) (S_.atP (i:=4) rfl)) fu59 rfl S_ fun w23 S24=>wp_nil ?_
  exact ⟨_,rfl,S24.keep,rfl⟩
 ·intro e_ w_ k_ hf_ hR_
  have S_:=@A_ _ k_
  refine hopE [(13,AG (vB a0 A1 c2 A4 c5 A7 c8 A10 c11)),(16,B r21)] ⟨rQ (hR_ 0 13 rfl (lE rfl) rfl),rQ (hR_ 3 16 rfl (lE rfl) rfl),trivial⟩ ?_
  refine p_cal (ticket_asked_ok h28 (S_.atP (i:=1) rfl) (S_.atP (i:=2) rfl) (S_.atP (i:=3) rfl) (S_.atP (i:=4) rfl) (S_.atP (i:=5) rfl) (S_.atP (i:=7) rfl)) fu58 rfl ?_
  rintro _ w29 ⟨A31,c32,A33,c34,A35,c36,A37,c38,m39,rfl,k30,⟨o40,n41⟩,⟨o42,n43⟩,⟨o44,n45⟩,⟨o46,n47⟩,⟨o48,n49⟩,_⟩
  have S50:=S_.callN k30 [rd eTallyCount 7 A31 c32 r27.1.TicketBook.Tally.Counts,rd eTicketSeason 2 A33 c34 r27.1.TicketBook.Tickets,rd eTicketShow 3 A35 c36 r27.1.TicketBook.Shows,rd eTicketBox 4 A37 c38 r27.1.TicketBook.Boxes,mpo ekS iE m39 r27.1.by_] (cA ⟨o40,Al.inL n41 ((cA (fp_mem (i:=1) rfl) (cA (fp_mem (i:=2) rfl) (cA (fp_mem (i:=3) rfl) (cA (fp_mem (i:=4) rfl) nM)))))⟩ (cA ⟨o42,Al.inL n43 ((cA (fp_mem (i:=1) rfl) (cA (fp_mem (i:=2) rfl) (cA (fp_mem (i:=3) rfl) (cA (fp_mem (i:=4) rfl) nM)))))⟩ (cA ⟨o44,New.inL n45⟩ (cA ⟨o46,New.inL n47⟩ (cA ⟨o48,New.inL n49⟩ nM)))))
  exact wp_nil ⟨_,rfl,S50.keep,⟨(A31,c32,A33,c34,A35,c36,A37,c38,m39),rfl,⟨bL n41 rfl (S50.atP (i:=0) rfl) rfl,bL n43 rfl (S50.atP (i:=1) rfl) rfl,bL (New.al (New.mono n45 S_.keep.size)) rfl (S50.atP (i:=2) rfl) rfl,bL (New.al (New.mono n47 S_.keep.size)) rfl (S50.atP (i:=3) rfl) rfl,bL (New.al (New.mono n49 S_.keep.size)) rfl (S50.atP (i:=4) rfl) rfl,trivial⟩,(cA (S50.atP (i:=0) rfl) (cA (S50.atP (i:=1) rfl) (cA (S50.atP (i:=2) rfl) (cA (S50.atP (i:=3) rfl) (cA (S50.atP (i:=4) rfl) nM)))))⟩⟩
 ·intro e_ w_ k_ hf_ hR_
  have S_:=@A_ _ k_
  obtain ⟨_,_,_,_,⟨A31,c32,A33,c34,A35,c36,A37,c38,m39⟩,q51,p52,a53⟩:=hR_ 4 17 rfl (lE rfl) rfl
  replace q51:e_ 17=TU [AG ((vB r27.1.TicketBook A31 c32 A33 c34 A35 c36 A37 c38)++(sg r27.1.shown_ 3++[Value.map m39])),I r27.2]:=q51
  have S_:=St.addL' S_ (a53 _ (.head _)) (fun _ _ _ h_=>(nE h_))
  have S_:=St.addL' S_ (a53 _ (.tail _ (.head _))) (fun _ _ _ h_=>(nE h_))
  have S_:=St.addL' S_ (a53 _ (.tail _ (.tail _ (.head _)))) (fun _ _ _ h_=>(nE h_))
  have S_:=St.addL' S_ (a53 _ (.tail _ (.tail _ (.tail _ (.head _))))) (fun _ _ _ h_=>(nE h_))
  have S_:=St.addL' S_ (a53 _ (.tail _ (.tail _ (.tail _ (.tail _ (.head _)))))) (fun _ _ _ h_=>(nE h_))
  refine hopE [(17,TU [AG ((vB r27.1.TicketBook A31 c32 A33 c34 A35 c36 A37 c38)++(sg r27.1.shown_ 3++[Value.map m39])),I r27.2])] ⟨q51,trivial⟩ ?_
  refine p_mT rfl<|wp_nil ?_
  exact ⟨_,rfl,S_.keep,rfl⟩
 ·intro e_ w_ k_ hf_ hR_
  have S_:=@A_ _ k_
  obtain ⟨_,_,_,_,⟨A31,c32,A33,c34,A35,c36,A37,c38,m39⟩,q55,p56,a57⟩:=hR_ 4 17 rfl (lE rfl) rfl
  replace q55:e_ 17=TU [AG ((vB r27.1.TicketBook A31 c32 A33 c34 A35 c36 A37 c38)++(sg r27.1.shown_ 3++[Value.map m39])),I r27.2]:=q55
  have S_:=St.addL' S_ (a57 _ (.head _)) (fun _ _ _ h_=>(nE h_))
  have S_:=St.addL' S_ (a57 _ (.tail _ (.head _))) (fun _ _ _ h_=>(nE h_))
  have S_:=St.addL' S_ (a57 _ (.tail _ (.tail _ (.head _)))) (fun _ _ _ h_=>(nE h_))
  have S_:=St.addL' S_ (a57 _ (.tail _ (.tail _ (.tail _ (.head _))))) (fun _ _ _ h_=>(nE h_))
  have S_:=St.addL' S_ (a57 _ (.tail _ (.tail _ (.tail _ (.tail _ (.head _)))))) (fun _ _ _ h_=>(nE h_))
  obtain ⟨_,_,_,_,q54⟩:=hR_ 5 12 rfl (lE rfl) rfl
  replace q54:e_ 12=TU [AG ((vB r27.1.TicketBook A31 c32 A33 c34 A35 c36 A37 c38)++(sg r27.1.shown_ 3++[Value.map m39])),I r27.2]:=(sJ ((congrArg some q55).symm.trans q54)).symm
  refine hopE [(12,TU [AG ((vB r27.1.TicketBook A31 c32 A33 c34 A35 c36 A37 c38)++(sg r27.1.shown_ 3++[Value.map m39])),I r27.2])] ⟨q54,trivial⟩ ?_
  refine p_ext rfl rfl<|wp_nil ?_
  exact ⟨_,rfl,S_.keep,rfl⟩
 ·intro e_ w_ k_ hf_ hR_
  have S_:=@A_ _ k_
  obtain ⟨_,_,_,_,⟨A31,c32,A33,c34,A35,c36,A37,c38,m39⟩,q59,p60,a61⟩:=hR_ 4 17 rfl (lE rfl) rfl
  replace q59:e_ 17=TU [AG ((vB r27.1.TicketBook A31 c32 A33 c34 A35 c36 A37 c38)++(sg r27.1.shown_ 3++[Value.map m39])),I r27.2]:=q59
  have S_:=St.addL' S_ (a61 _ (.head _)) (fun _ _ _ h_=>(nE h_))
  have S_:=St.addL' S_ (a61 _ (.tail _ (.head _))) (fun _ _ _ h_=>(nE h_))
  have S_:=St.addL' S_ (a61 _ (.tail _ (.tail _ (.head _)))) (fun _ _ _ h_=>(nE h_))
  have S_:=St.addL' S_ (a61 _ (.tail _ (.tail _ (.tail _ (.head _))))) (fun _ _ _ h_=>(nE h_))
  have S_:=St.addL' S_ (a61 _ (.tail _ (.tail _ (.tail _ (.tail _ (.head _)))))) (fun _ _ _ h_=>(nE h_))
  obtain ⟨_,_,_,_,q58⟩:=hR_ 5 12 rfl (lE rfl) rfl
  replace q58:e_ 12=TU [AG ((vB r27.1.TicketBook A31 c32 A33 c34 A35 c36 A37 c38)++(sg r27.1.shown_ 3++[Value.map m39])),I r27.2]:=(sJ ((congrArg some q59).symm.trans q58)).symm
  refine hopE [(12,TU [AG ((vB r27.1.TicketBook A31 c32 A33 c34 A35 c36 A37 c38)++(sg r27.1.shown_ 3++[Value.map m39])),I r27.2])] ⟨q58,trivial⟩ ?_
  refine p_ext rfl rfl<|wp_nil ?_
  exact ⟨_,rfl,S_.keep,rfl⟩
 ·intro e_ w_ k_ hf_ hR_
  have S_:=@A_ _ k_
  refine hopE [] trivial ?_
  refine p_allA in92 S_ fun b62 w63 S64=>wp_nil ?_
  exact ⟨_,rfl,S64.keep,⟨b62,rfl,⟨bL (New.al (S64.newX (i:=0) rfl)) rfl (S64.atX (i:=0) rfl) rfl,trivial⟩,(cA (S64.atX (i:=0) rfl) nM)⟩⟩
 ·intro e65 w66 lo67 hi68 k69 hf70 hR71 hd72
  have S73:=S18.call k69
  obtain ⟨h75,h76,h77,⟨A31,c32,A33,c34,A35,c36,A37,c38,m39⟩,q74,h78,h79⟩:=hR71 4 17 (lE rfl) rfl
  replace q74:e65 17=TU [AG ((vB r27.1.TicketBook A31 c32 A33 c34 A35 c36 A37 c38)++(sg r27.1.shown_ 3++[Value.map m39])),I r27.2]:=q74
  obtain ⟨p80,p81,p82,p83,p84,_⟩:=h78
  have S85:=St.addR S73 (h79 _ (.head _)) (oR p80 h75 S18 (mG [0,1,2,3] rfl))
  try clear S73
  have S86:=St.addR S85 (h79 _ (.tail _ (.head _))) (oR p81 h75 S18 (mG [0,1,2,3] rfl))
  try clear S85
  have S87:=St.addR S86 (h79 _ (.tail _ (.tail _ (.head _)))) (oR p82 h75 S18 (nM))
  try clear S86
  have S88:=St.addR S87 (h79 _ (.tail _ (.tail _ (.tail _ (.head _))))) (oR p83 h75 S18 (nM))
  try clear S87
  have S89:=St.addR S88 (h79 _ (.tail _ (.tail _ (.tail _ (.tail _ (.head _)))))) (oR p84 h75 S18 (nM))
  try clear S88
  have q90:e65 12=TU [AG ((vB r27.1.TicketBook A31 c32 A33 c34 A35 c36 A37 c38)++(sg r27.1.shown_ 3++[Value.map m39])),I r27.2]:=(sJ ((congrArg some q74).symm.trans (hR71 5 12 (lE rfl) rfl).2.2.2)).symm
  have q91:e65 18=AG ((vB r27.1.TicketBook A31 c32 A33 c34 A35 c36 A37 c38)++(sg r27.1.shown_ 3++[Value.map m39])):=(sJ ((congrArg (exG 0) q90).symm.trans (hR71 6 18 (lE rfl) rfl).2.2.2)).symm
  have q92:e65 19=I r27.2:=(sJ ((congrArg (exG 1) q90).symm.trans (hR71 7 19 (lE rfl) rfl).2.2.2)).symm
  obtain ⟨h94,h95,h96,b62,q93,h97,h98⟩:=hR71 8 8 (lE rfl) rfl
  replace q93:e65 8=P b62 0:=q93
  obtain ⟨p99,_⟩:=h97
  have S101:=St.addO S89 (h98 _ (.head _)) (oN p99 h94 S18) (cA (oA p99 h94 (S18.atX (i:=0) rfl)) nM) (cA (oP p99 p84 h94 S18 (nM) (hd72 8 4 (lE rfl) (lE rfl) (by decide))) (cA (oP p99 p83 h94 S18 (nM) (hd72 8 4 (lE rfl) (lE rfl) (by decide))) (cA (oP p99 p82 h94 S18 (nM) (hd72 8 4 (lE rfl) (lE rfl) (by decide))) (cA (oP p99 p81 h94 S18 (mG [0,1,2,3] rfl) (hd72 8 4 (lE rfl) (lE rfl) (by decide))) (cA (oP p99 p80 h94 S18 (mG [0,1,2,3] rfl) (hd72 8 4 (lE rfl) (lE rfl) (by decide))) (oL p99 h94 S18))))))
  try clear S89
  refine tailE [(1,I a1),(2,I a2),(3,P b16 0),(8,P b62 0),(18,AG ((vB r27.1.TicketBook A31 c32 A33 c34 A35 c36 A37 c38)++(sg r27.1.shown_ 3++[Value.map m39]))),(19,I r27.2)] ⟨((hf70 1 rfl).trans (rfl:_=I a1)),((hf70 2 rfl).trans (rfl:_=I a2)),((hf70 3 rfl).trans (rfl:_=P b16 0)),q93,q91,q92,trivial⟩ ?_
  intro g102
  refine p_stP (pre:=[]) (old:=[I 0,I 0,SL none 0 0,I 0,SL none 0 0,SL none 0 0,SL none 0 0]++(sg (List.replicate 3 0) 3++[Value.map none])) (post:=[]) (vs:=(vB r27.1.TicketBook A31 c32 A33 c34 A35 c36 A37 c38)++(sg r27.1.shown_ 3++[Value.map m39])) sz92 S101 (i:=0) rfl rfl rfl rfl (rfl:_=AG ((vB r27.1.TicketBook A31 c32 A33 c34 A35 c36 A37 c38)++(sg r27.1.shown_ 3++[Value.map m39]))) rfl rfl rfl rfl fun w103 S104=>?_
  try clear S101
  refine p_aI rfl<|wp_nil<|c_seq<|c_seq<|reg<|p_mI rfl<|p_cmp rfl rfl rfl<|wp_nil ?_
  refine c_cond rfl (fun c105=>?_) (fun c105=>?_)
  ·replace H:=condT c105 H
   refine c_seq<|reg<|p_mI rfl<|p_aS rfl<|p_aI rfl<|wp_nil ?_
   obtain rfl:=sJ H
   refine c_ret ?_; show bodyPostM (Fr none) 0 Tryd.prog Tryd.f63 _ .ret _ _
   refine ret_of (res2 rfl (rvT (rfl:_=SL none 0 0)) (rvT (rfl:_=I r27.2))) ?_
   exact ⟨_,rfl,none,0,rfl,S104.keep,⟨rd_nil (Nat.zero_le _),New.nil⟩,trivial⟩
  ·replace H:=condF c105 H
   refine c_skip<|c_seq<|reg<|p_aS rfl<|wp_nil<|c_seq<|c_seq<|reg<|p_fld fl29_2 rfl<|p_ld ty25 (S104.atX (i:=1) rfl) rfl rfl<|p_len rfl sc25<|p_mI rfl<|wp_nil<|c_block ?_
   have S106:=S104.nilRow intE 1 3
   try clear S104
   have S107:=S106.pk [0,1] (by decide) [0,1,2,3,4,5,6,7,8,9,10,11] rfl rfl
   try clear S106
   refine c_lop (α:=(List Int)×Int) (β:=(Option Addr)×Nat) (ticket_used_l4 a0 a2 r27 a1) (fun z_1 y_1=>[(1,I a1),(2,I a2),(8,P b62 0),(10,SL y_1.1 z_1.1.length y_1.2),(25,I (a0.Tickets.length:Int)),(26,I z_1.2)]) (fun z_1 y_1 w_=>St w nF w_ [gr intE 1 3 y_1.1 y_1.2 z_1.1,bl b62 ((vB r27.1.TicketBook A31 c32 A33 c34 A35 c36 A37 c38)++(sg r27.1.shown_ 3++[Value.map m39])) 92] [mpo ekS iE m39 r27.1.by_,rd eTicketBox 4 A37 c38 r27.1.TicketBook.Boxes,rd eTicketShow 3 A35 c36 r27.1.TicketBook.Shows,rd eTicketSeason 2 A33 c34 r27.1.TicketBook.Tickets,rd eTallyCount 7 A31 c32 r27.1.TicketBook.Tally.Counts,rd eTallyCount 7 A1 c2 a0.Tally.Counts,rd eTicketSeason 2 A4 c5 a0.Tickets,rd eTicketShow 3 A7 c8 a0.Shows,rd eTicketBox 4 A10 c11 a0.Boxes,gW0,gW1,gW2]) (([]:List Int),0) (none,0) H ⟨rfl,rfl,rfl,rfl,rfl,rfl,trivial⟩ S107 ?_
   try clear S107
   intro m108 z_1 y_1 e109 w110 H S111
   unfold ticket_used_l4 at H
   refine c_seq<|reg<|p_cmp rfl rfl rfl<|wp_nil<|c_seq ?_
   refine c_cond rfl (fun c112=>?_) (fun c112=>?_)
   ·replace H:=condT c112 H
    refine c_skip<|c_seq<|c_block<|c_seq<|reg<|p_mI rfl<|p_aI rfl<|wp_nil<|c_seq ?_
    obtain ⟨h113,H⟩:=needS H
    rcases bE (a2==0) with c114 | c114
    ·replace H:=condT c114 H
     obtain ⟨r115,h116,H⟩:=bindS H
     refine reg_q mixed 7 (by kernel_rfl) ?_
     refine dS (fun _ k_=>p_mI rfl dn)<|dS (fun _ k_=>p_ixD ar133 h113 rfl rfl dn)<|dS (fun _ k_=>p_ldF (k:=0) ty132 (aS (S111.atP (i:=10) rfl) k_) (show a2=((0:Nat):Int) from by simpa using c114) rfl rfl dn)<|dS (fun _ k_=>p_ldA ty92 sz92 (aS (S111.atX (i:=1) rfl) k_) rfl rfl dn)<|dS (fun _ k_=>p_mI rfl dn)<|dS (fun _ k_=>p_mI rfl dn) ?_
     refine dS (fun _ k_=>p_cvD (ticket_book_always_ok h116 (aS (S111.atP (i:=4) rfl) k_) (aS (S111.atP (i:=3) rfl) k_) (aS (S111.atP (i:=2) rfl) k_) (aS (S111.atP (i:=1) rfl) k_) (aS (S111.atP (i:=0) rfl) k_) (aS (S111.atP (i:=9) rfl) k_) (aS (S111.atP (i:=11) rfl) k_)) fu130 rfl) ?_
     intro w117 k118; have S119:=S111.call k118
     refine wp_nil ?_
     refine c_cond rfl (fun c120=>?_) (fun c120=>?_)
     ·replace H:=condT c120 H
      refine reg<|p_mS rfl<|p_mI rfl<|p_bsl (enc:=intE) (l:=([z_1.2]:List Int)) I (fun _=>rfl) sc30 in3 intE_len rfl (by decide) (by decide) zr3_1 S119 rfl fun A121 c122 w123 S124=>?_
      obtain ⟨h130,H⟩:=needS H
      refine p_app (enc:=intE) sc30 in3 rfl intE_len intE_one (by decide) S124 (k:=1) rfl (gr_sl intE_len (S124.atX (i:=0) rfl)) h130 (by simp) rfl rfl fun A128 c129 w126 S127=>?_
      try clear S124
      refine p_aS rfl<|wp_nil<|reg<|p_add rfl rfl<|p_mI rfl<|wp_nil ?_
      have S131:=S127.pk [1,2] (by decide) [0,1,2,3,4,5,6,7,8,9,10,11] rfl rfl
      try clear S127
      exact ⟨(z_1.1++([z_1.2]:List Int),wr (z_1.2+1)),(A128,c129),_,rfl,⟨rfl,rfl,rfl,rfl,rfl,rfl,trivial⟩,H,S131⟩
     ·replace H:=condF c120 H
      refine c_skip<|reg<|p_add rfl rfl<|p_mI rfl<|wp_nil ?_
      exact ⟨(z_1.1,wr (z_1.2+1)),(y_1.1,y_1.2),_,rfl,⟨rfl,rfl,rfl,rfl,rfl,rfl,trivial⟩,H,S119⟩
    ·replace H:=condF c114 H
     obtain ⟨r132,h133,H⟩:=bindS H
     refine reg_q mixed 7 (by kernel_rfl) ?_
     refine dS (fun _ k_=>p_mI rfl dn)<|dS (fun _ k_=>p_ixD ar133 h113 rfl rfl dn)<|dS (fun _ k_=>p_ldF (k:=1) ty132 (aS (S111.atP (i:=10) rfl) k_) (two_second h113 c114) rfl rfl dn)<|dS (fun _ k_=>p_ldA ty92 sz92 (aS (S111.atX (i:=1) rfl) k_) rfl rfl dn)<|dS (fun _ k_=>p_mI rfl dn)<|dS (fun _ k_=>p_mI rfl dn) ?_
     refine dS (fun _ k_=>p_cvD (ticket_book_sometimes_ok h133 (aS (S111.atP (i:=4) rfl) k_) (aS (S111.atP (i:=3) rfl) k_) (aS (S111.atP (i:=2) rfl) k_) (aS (S111.atP (i:=1) rfl) k_) (aS (S111.atP (i:=0) rfl) k_) (aS (S111.atP (i:=9) rfl) k_) (aS (S111.atP (i:=11) rfl) k_)) fu131 rfl) ?_
     intro w134 k135; have S136:=S111.call k135
     refine wp_nil ?_
     refine c_cond rfl (fun c137=>?_) (fun c137=>?_)
     ·replace H:=condT c137 H
      refine reg<|p_mS rfl<|p_mI rfl<|p_bsl (enc:=intE) (l:=([z_1.2]:List Int)) I (fun _=>rfl) sc30 in3 intE_len rfl (by decide) (by decide) zr3_1 S136 rfl fun A138 c139 w140 S141=>?_
      obtain ⟨h147,H⟩:=needS H
      refine p_app (enc:=intE) sc30 in3 rfl intE_len intE_one (by decide) S141 (k:=1) rfl (gr_sl intE_len (S141.atX (i:=0) rfl)) h147 (by simp) rfl rfl fun A145 c146 w143 S144=>?_
      try clear S141
      refine p_aS rfl<|wp_nil<|reg<|p_add rfl rfl<|p_mI rfl<|wp_nil ?_
      have S148:=S144.pk [1,2] (by decide) [0,1,2,3,4,5,6,7,8,9,10,11] rfl rfl
      try clear S144
      exact ⟨(z_1.1++([z_1.2]:List Int),wr (z_1.2+1)),(A145,c146),_,rfl,⟨rfl,rfl,rfl,rfl,rfl,rfl,trivial⟩,H,S148⟩
     ·replace H:=condF c137 H
      refine c_skip<|reg<|p_add rfl rfl<|p_mI rfl<|wp_nil ?_
      exact ⟨(z_1.1,wr (z_1.2+1)),(y_1.1,y_1.2),_,rfl,⟨rfl,rfl,rfl,rfl,rfl,rfl,trivial⟩,H,S136⟩
   ·replace H:=condF c112 H
    refine c_exit ?_
    have S149:St w nF w110 [gr intE 1 3 y_1.1 y_1.2 z_1.1] [gW0,gW1,gW2]:=S111.pk [0] (by decide) [9,10,11] rfl rfl
    try clear S111
    refine c_seq<|reg<|p_mS rfl<|p_mS rfl<|p_len rfl sc30<|p_mS rfl<|p_len rfl sc30<|p_cut3 sc30 (gr_rd intE_len (S149.atX (i:=0) rfl)) rfl rfl rfl<|p_aS rfl<|p_aI rfl<|wp_nil ?_
    obtain rfl:=sJ H
    refine c_ret ?_; show bodyPostM (Fr none) 0 Tryd.prog Tryd.f63 _ .ret _ _
    refine ret_of (res2 rfl (rvT (rfl:_=SL y_1.1 z_1.1.length z_1.1.length)) (rvT (rfl:_=I 0))) ?_
    exact ⟨_,rfl,y_1.1,z_1.1.length,rfl,S149.keep,⟨(rd_full (gr_rd intE_len (S149.atX (i:=0) rfl))),(New.rdc (S149.newX (i:=0) rfl))⟩,trivial⟩
 ·intro e150 w151 lo152 hi153 k154 hf155 hR156 hd157
  have S158:=S18.call k154
  obtain ⟨h160,h161,h162,⟨A31,c32,A33,c34,A35,c36,A37,c38,m39⟩,q159,h163,h164⟩:=hR156 4 17 (lE rfl) (by decide) rfl
  replace q159:e150 17=TU [AG ((vB r27.1.TicketBook A31 c32 A33 c34 A35 c36 A37 c38)++(sg r27.1.shown_ 3++[Value.map m39])),I r27.2]:=q159
  obtain ⟨p165,p166,p167,p168,p169,_⟩:=h163
  have S170:=St.addR S158 (h164 _ (.head _)) (oR p165 h160 S18 (mG [0,1,2,3] rfl))
  try clear S158
  have S171:=St.addR S170 (h164 _ (.tail _ (.head _))) (oR p166 h160 S18 (mG [0,1,2,3] rfl))
  try clear S170
  have S172:=St.addR S171 (h164 _ (.tail _ (.tail _ (.head _)))) (oR p167 h160 S18 (nM))
  try clear S171
  have S173:=St.addR S172 (h164 _ (.tail _ (.tail _ (.tail _ (.head _))))) (oR p168 h160 S18 (nM))
  try clear S172
  have S174:=St.addR S173 (h164 _ (.tail _ (.tail _ (.tail _ (.tail _ (.head _)))))) (oR p169 h160 S18 (nM))
  try clear S173
  have q175:e150 12=TU [AG ((vB r27.1.TicketBook A31 c32 A33 c34 A35 c36 A37 c38)++(sg r27.1.shown_ 3++[Value.map m39])),I r27.2]:=(sJ ((congrArg some q159).symm.trans (hR156 5 12 (lE rfl) (by decide) rfl).2.2.2)).symm
  have q176:e150 18=AG ((vB r27.1.TicketBook A31 c32 A33 c34 A35 c36 A37 c38)++(sg r27.1.shown_ 3++[Value.map m39])):=(sJ ((congrArg (exG 0) q175).symm.trans (hR156 6 18 (lE rfl) (by decide) rfl).2.2.2)).symm
  obtain ⟨h178,h179,h180,b62,q177,h181,h182⟩:=hR156 8 8 (lE rfl) (by decide) rfl
  replace q177:e150 8=P b62 0:=q177
  obtain ⟨p183,_⟩:=h181
  have S185:=St.addO S174 (h182 _ (.head _)) (oN p183 h178 S18) (cA (oA p183 h178 (S18.atX (i:=0) rfl)) nM) (cA (oP p183 p169 h178 S18 (nM) (hd157 8 4 (lE rfl) (lE rfl) (by decide) (by decide) (by decide))) (cA (oP p183 p168 h178 S18 (nM) (hd157 8 4 (lE rfl) (lE rfl) (by decide) (by decide) (by decide))) (cA (oP p183 p167 h178 S18 (nM) (hd157 8 4 (lE rfl) (lE rfl) (by decide) (by decide) (by decide))) (cA (oP p183 p166 h178 S18 (mG [0,1,2,3] rfl) (hd157 8 4 (lE rfl) (lE rfl) (by decide) (by decide) (by decide))) (cA (oP p183 p165 h178 S18 (mG [0,1,2,3] rfl) (hd157 8 4 (lE rfl) (lE rfl) (by decide) (by decide) (by decide))) (oL p183 h178 S18))))))
  try clear S18; try clear S174
  refine tailE [(1,I a1),(2,I a2),(3,P b16 0),(8,P b62 0),(12,TU [AG ((vB r27.1.TicketBook A31 c32 A33 c34 A35 c36 A37 c38)++(sg r27.1.shown_ 3++[Value.map m39])),I r27.2]),(18,AG ((vB r27.1.TicketBook A31 c32 A33 c34 A35 c36 A37 c38)++(sg r27.1.shown_ 3++[Value.map m39])))] ⟨((hf155 1 rfl).trans (rfl:_=I a1)),((hf155 2 rfl).trans (rfl:_=I a2)),((hf155 3 rfl).trans (rfl:_=P b16 0)),q177,q175,q176,trivial⟩ ?_
  intro g186
  refine p_stP (pre:=[]) (old:=[I 0,I 0,SL none 0 0,I 0,SL none 0 0,SL none 0 0,SL none 0 0]++(sg (List.replicate 3 0) 3++[Value.map none])) (post:=[]) (vs:=(vB r27.1.TicketBook A31 c32 A33 c34 A35 c36 A37 c38)++(sg r27.1.shown_ 3++[Value.map m39])) sz92 S185 (i:=0) rfl rfl rfl rfl (rfl:_=AG ((vB r27.1.TicketBook A31 c32 A33 c34 A35 c36 A37 c38)++(sg r27.1.shown_ 3++[Value.map m39]))) rfl rfl rfl rfl fun w187 S188=>?_
  try clear S185
  refine p_ext rfl rfl<|p_aI rfl<|wp_nil<|c_seq<|c_seq<|reg<|p_mI rfl<|p_cmp rfl rfl rfl<|wp_nil ?_
  refine c_cond rfl (fun c189=>?_) (fun c189=>?_)
  ·replace H:=condT c189 H
   refine c_seq<|reg<|p_mI rfl<|p_aS rfl<|p_aI rfl<|wp_nil ?_
   obtain rfl:=sJ H
   refine c_ret ?_; show bodyPostM (Fr none) 0 Tryd.prog Tryd.f63 _ .ret _ _
   refine ret_of (res2 rfl (rvT (rfl:_=SL none 0 0)) (rvT (rfl:_=I r27.2))) ?_
   exact ⟨_,rfl,none,0,rfl,S188.keep,⟨rd_nil (Nat.zero_le _),New.nil⟩,trivial⟩
  ·replace H:=condF c189 H
   refine c_skip<|c_seq<|reg<|p_aS rfl<|wp_nil<|c_seq<|c_seq<|reg<|p_fld fl29_2 rfl<|p_ld ty25 (S188.atX (i:=1) rfl) rfl rfl<|p_len rfl sc25<|p_mI rfl<|wp_nil<|c_block ?_
   have S190:=S188.nilRow intE 1 3
   try clear S188
   have S191:=S190.pk [0,1] (by decide) [0,1,2,3,4,5,6,7,8,9,10,11] rfl rfl
   try clear S190
   refine c_lop (α:=(List Int)×Int) (β:=(Option Addr)×Nat) (ticket_used_l5 a0 a2 r27 a1) (fun z_1 y_1=>[(1,I a1),(2,I a2),(8,P b62 0),(10,SL y_1.1 z_1.1.length y_1.2),(25,I (a0.Tickets.length:Int)),(26,I z_1.2)]) (fun z_1 y_1 w_=>St w nF w_ [gr intE 1 3 y_1.1 y_1.2 z_1.1,bl b62 ((vB r27.1.TicketBook A31 c32 A33 c34 A35 c36 A37 c38)++(sg r27.1.shown_ 3++[Value.map m39])) 92] [mpo ekS iE m39 r27.1.by_,rd eTicketBox 4 A37 c38 r27.1.TicketBook.Boxes,rd eTicketShow 3 A35 c36 r27.1.TicketBook.Shows,rd eTicketSeason 2 A33 c34 r27.1.TicketBook.Tickets,rd eTallyCount 7 A31 c32 r27.1.TicketBook.Tally.Counts,rd eTallyCount 7 A1 c2 a0.Tally.Counts,rd eTicketSeason 2 A4 c5 a0.Tickets,rd eTicketShow 3 A7 c8 a0.Shows,rd eTicketBox 4 A10 c11 a0.Boxes,gW0,gW1,gW2]) (([]:List Int),0) (none,0) H ⟨rfl,rfl,rfl,rfl,rfl,rfl,trivial⟩ S191 ?_
   try clear S191
   intro m192 z_1 y_1 e193 w194 H S195
   unfold ticket_used_l5 at H
   refine c_seq<|reg<|p_cmp rfl rfl rfl<|wp_nil<|c_seq ?_
   refine c_cond rfl (fun c196=>?_) (fun c196=>?_)
   ·replace H:=condT c196 H
    refine c_skip<|c_seq<|c_block<|c_seq<|reg<|p_mI rfl<|p_aI rfl<|wp_nil<|c_seq ?_
    obtain ⟨h197,H⟩:=needS H
    rcases bE (a2==0) with c198 | c198
    ·replace H:=condT c198 H
     obtain ⟨r199,h200,H⟩:=bindS H
     refine reg_q mixed 7 (by kernel_rfl) ?_
     refine dS (fun _ k_=>p_mI rfl dn)<|dS (fun _ k_=>p_ixD ar133 h197 rfl rfl dn)<|dS (fun _ k_=>p_ldF (k:=0) ty132 (aS (S195.atP (i:=10) rfl) k_) (show a2=((0:Nat):Int) from by simpa using c198) rfl rfl dn)<|dS (fun _ k_=>p_ldA ty92 sz92 (aS (S195.atX (i:=1) rfl) k_) rfl rfl dn)<|dS (fun _ k_=>p_mI rfl dn)<|dS (fun _ k_=>p_mI rfl dn) ?_
     refine dS (fun _ k_=>p_cvD (ticket_book_always_ok h200 (aS (S195.atP (i:=4) rfl) k_) (aS (S195.atP (i:=3) rfl) k_) (aS (S195.atP (i:=2) rfl) k_) (aS (S195.atP (i:=1) rfl) k_) (aS (S195.atP (i:=0) rfl) k_) (aS (S195.atP (i:=9) rfl) k_) (aS (S195.atP (i:=11) rfl) k_)) fu130 rfl) ?_
     intro w201 k202; have S203:=S195.call k202
     refine wp_nil ?_
     refine c_cond rfl (fun c204=>?_) (fun c204=>?_)
     ·replace H:=condT c204 H
      refine reg<|p_mS rfl<|p_mI rfl<|p_bsl (enc:=intE) (l:=([z_1.2]:List Int)) I (fun _=>rfl) sc30 in3 intE_len rfl (by decide) (by decide) zr3_1 S203 rfl fun A205 c206 w207 S208=>?_
      obtain ⟨h214,H⟩:=needS H
      refine p_app (enc:=intE) sc30 in3 rfl intE_len intE_one (by decide) S208 (k:=1) rfl (gr_sl intE_len (S208.atX (i:=0) rfl)) h214 (by simp) rfl rfl fun A212 c213 w210 S211=>?_
      try clear S208
      refine p_aS rfl<|wp_nil<|reg<|p_add rfl rfl<|p_mI rfl<|wp_nil ?_
      have S215:=S211.pk [1,2] (by decide) [0,1,2,3,4,5,6,7,8,9,10,11] rfl rfl
      try clear S211
      exact ⟨(z_1.1++([z_1.2]:List Int),wr (z_1.2+1)),(A212,c213),_,rfl,⟨rfl,rfl,rfl,rfl,rfl,rfl,trivial⟩,H,S215⟩
     ·replace H:=condF c204 H
      refine c_skip<|reg<|p_add rfl rfl<|p_mI rfl<|wp_nil ?_
      exact ⟨(z_1.1,wr (z_1.2+1)),(y_1.1,y_1.2),_,rfl,⟨rfl,rfl,rfl,rfl,rfl,rfl,trivial⟩,H,S203⟩
    ·replace H:=condF c198 H
     obtain ⟨r216,h217,H⟩:=bindS H
     refine reg_q mixed 7 (by kernel_rfl) ?_
     refine dS (fun _ k_=>p_mI rfl dn)<|dS (fun _ k_=>p_ixD ar133 h197 rfl rfl dn)<|dS (fun _ k_=>p_ldF (k:=1) ty132 (aS (S195.atP (i:=10) rfl) k_) (two_second h197 c198) rfl rfl dn)<|dS (fun _ k_=>p_ldA ty92 sz92 (aS (S195.atX (i:=1) rfl) k_) rfl rfl dn)<|dS (fun _ k_=>p_mI rfl dn)<|dS (fun _ k_=>p_mI rfl dn) ?_
     refine dS (fun _ k_=>p_cvD (ticket_book_sometimes_ok h217 (aS (S195.atP (i:=4) rfl) k_) (aS (S195.atP (i:=3) rfl) k_) (aS (S195.atP (i:=2) rfl) k_) (aS (S195.atP (i:=1) rfl) k_) (aS (S195.atP (i:=0) rfl) k_) (aS (S195.atP (i:=9) rfl) k_) (aS (S195.atP (i:=11) rfl) k_)) fu131 rfl) ?_
     intro w218 k219; have S220:=S195.call k219
     refine wp_nil ?_
     refine c_cond rfl (fun c221=>?_) (fun c221=>?_)
     ·replace H:=condT c221 H
      refine reg<|p_mS rfl<|p_mI rfl<|p_bsl (enc:=intE) (l:=([z_1.2]:List Int)) I (fun _=>rfl) sc30 in3 intE_len rfl (by decide) (by decide) zr3_1 S220 rfl fun A222 c223 w224 S225=>?_
      obtain ⟨h231,H⟩:=needS H
      refine p_app (enc:=intE) sc30 in3 rfl intE_len intE_one (by decide) S225 (k:=1) rfl (gr_sl intE_len (S225.atX (i:=0) rfl)) h231 (by simp) rfl rfl fun A229 c230 w227 S228=>?_
      try clear S225
      refine p_aS rfl<|wp_nil<|reg<|p_add rfl rfl<|p_mI rfl<|wp_nil ?_
      have S232:=S228.pk [1,2] (by decide) [0,1,2,3,4,5,6,7,8,9,10,11] rfl rfl
      try clear S228
      exact ⟨(z_1.1++([z_1.2]:List Int),wr (z_1.2+1)),(A229,c230),_,rfl,⟨rfl,rfl,rfl,rfl,rfl,rfl,trivial⟩,H,S232⟩
     ·replace H:=condF c221 H
      refine c_skip<|reg<|p_add rfl rfl<|p_mI rfl<|wp_nil ?_
      exact ⟨(z_1.1,wr (z_1.2+1)),(y_1.1,y_1.2),_,rfl,⟨rfl,rfl,rfl,rfl,rfl,rfl,trivial⟩,H,S220⟩
   ·replace H:=condF c196 H
    refine c_exit ?_
    have S233:St w nF w194 [gr intE 1 3 y_1.1 y_1.2 z_1.1] [gW0,gW1,gW2]:=S195.pk [0] (by decide) [9,10,11] rfl rfl
    try clear S195
    refine c_seq<|reg<|p_mS rfl<|p_mS rfl<|p_len rfl sc30<|p_mS rfl<|p_len rfl sc30<|p_cut3 sc30 (gr_rd intE_len (S233.atX (i:=0) rfl)) rfl rfl rfl<|p_aS rfl<|p_aI rfl<|wp_nil ?_
    obtain rfl:=sJ H
    refine c_ret ?_; show bodyPostM (Fr none) 0 Tryd.prog Tryd.f63 _ .ret _ _
    refine ret_of (res2 rfl (rvT (rfl:_=SL y_1.1 z_1.1.length z_1.1.length)) (rvT (rfl:_=I 0))) ?_
    exact ⟨_,rfl,y_1.1,z_1.1.length,rfl,S233.keep,⟨(rd_full (gr_rd intE_len (S233.atX (i:=0) rfl))),(New.rdc (S233.newX (i:=0) rfl))⟩,trivial⟩
def ticket_Must (a0:TicketBook) (a1:Int):Option ((List Int)×Int):=
 (ticket_used a0 a1 0).bind fun r19=>
 some (r19.1,r19.2)
set_option maxRecDepth 100000 in
theorem ticket_Must_ok {a0:TicketBook}{a1:Int}{A1:Option Addr}{c2:Nat}{A4:Option Addr}{c5:Nat}{A7:Option Addr}{c8:Nat}{A10:Option Addr}{c11:Nat}{w:World}{r:(List Int)×Int} (H:ticket_Must a0 a1=some r) (h3:(rd eTallyCount 7 A1 c2 a0.Tally.Counts).ok w) (h6:(rd eTicketSeason 2 A4 c5 a0.Tickets).ok w) (h9:(rd eTicketShow 3 A7 c8 a0.Shows).ok w) (h12:(rd eTicketBox 4 A10 c11 a0.Boxes).ok w) (hg13:(gW0).ok w) (hg14:(gW1).ok w) (hg15:(gW2).ok w):Calls Tryd.prog 23 #[AG (vB a0 A1 c2 A4 c5 A7 c8 A10 c11),I a1] w fun en w_=>∃ u_,en=.returned u_∧∃ A_1:Option Addr,∃ c_2:Nat,u_=TU [SL A_1 r.1.length c_2,I r.2]∧Keep0 w w_∧((rd intE 1 A_1 c_2 r.1).ok w_∧New w.heap.size (rd intE 1 A_1 c_2 r.1))∧True:=by
 unfold ticket_Must at H
 refine fn_of (n:=11) Tryd.func23 rfl rfl (lE rfl) ?_
 have S:=St.start w nF _ (cA h3 (cA h6 (cA h9 (cA h12 (cA hg13 (cA hg14 (cA hg15 nM)))))))
 refine c_seq<|reg<|p_boxA rfl S fun b16 w17 S18=>p_aS rfl<|p_aI rfl<|wp_nil<|c_seq<|reg<|p_ldA ty29 sz29 (S18.atX (i:=0) rfl) rfl rfl<|p_mI rfl ?_
 obtain ⟨r19,h20,H⟩:=bindS H
 refine p_cal (ticket_used_ok h20 (S18.atP (i:=0) rfl) (S18.atP (i:=1) rfl) (S18.atP (i:=2) rfl) (S18.atP (i:=3) rfl) (S18.atP (i:=4) rfl) (S18.atP (i:=5) rfl) (S18.atP (i:=6) rfl)) fu63 rfl ?_
 rintro _ w21 ⟨A23,c24,rfl,k22,⟨o25,n26⟩,_⟩
 have S27:=S18.callN k22 [rd intE 1 A23 c24 r19.1] (cA ⟨o25,New.inL n26⟩ nM)
 refine p_ext rfl rfl<|p_ext rfl rfl<|p_aS rfl<|p_aI rfl<|wp_nil ?_
 obtain rfl:=sJ H
 refine c_ret ?_; show bodyPostM (Fr none) 0 Tryd.prog Tryd.f23 _ .ret _ _
 refine ret_of (res2 rfl (rvT (rfl:_=SL A23 r19.1.length c24)) (rvT (rfl:_=I r19.2))) ?_
 exact ⟨_,rfl,A23,c24,rfl,S27.keep,⟨(S27.atP (i:=0) rfl),(New.mono n26 S18.keep.size)⟩,trivial⟩
def ticket_May (a0:TicketBook) (a1:Int):Option ((List Int)×Int):=
 (ticket_used a0 a1 1).bind fun r19=>
 some (r19.1,r19.2)
set_option maxRecDepth 100000 in
theorem ticket_May_ok {a0:TicketBook}{a1:Int}{A1:Option Addr}{c2:Nat}{A4:Option Addr}{c5:Nat}{A7:Option Addr}{c8:Nat}{A10:Option Addr}{c11:Nat}{w:World}{r:(List Int)×Int} (H:ticket_May a0 a1=some r) (h3:(rd eTallyCount 7 A1 c2 a0.Tally.Counts).ok w) (h6:(rd eTicketSeason 2 A4 c5 a0.Tickets).ok w) (h9:(rd eTicketShow 3 A7 c8 a0.Shows).ok w) (h12:(rd eTicketBox 4 A10 c11 a0.Boxes).ok w) (hg13:(gW0).ok w) (hg14:(gW1).ok w) (hg15:(gW2).ok w):Calls Tryd.prog 24 #[AG (vB a0 A1 c2 A4 c5 A7 c8 A10 c11),I a1] w fun en w_=>∃ u_,en=.returned u_∧∃ A_1:Option Addr,∃ c_2:Nat,u_=TU [SL A_1 r.1.length c_2,I r.2]∧Keep0 w w_∧((rd intE 1 A_1 c_2 r.1).ok w_∧New w.heap.size (rd intE 1 A_1 c_2 r.1))∧True:=by
 unfold ticket_May at H
 refine fn_of (n:=11) Tryd.func24 rfl rfl (lE rfl) ?_
 have S:=St.start w nF _ (cA h3 (cA h6 (cA h9 (cA h12 (cA hg13 (cA hg14 (cA hg15 nM)))))))
 refine c_seq<|reg<|p_boxA rfl S fun b16 w17 S18=>p_aS rfl<|p_aI rfl<|wp_nil<|c_seq<|reg<|p_ldA ty29 sz29 (S18.atX (i:=0) rfl) rfl rfl<|p_mI rfl ?_
 obtain ⟨r19,h20,H⟩:=bindS H
 refine p_cal (ticket_used_ok h20 (S18.atP (i:=0) rfl) (S18.atP (i:=1) rfl) (S18.atP (i:=2) rfl) (S18.atP (i:=3) rfl) (S18.atP (i:=4) rfl) (S18.atP (i:=5) rfl) (S18.atP (i:=6) rfl)) fu63 rfl ?_
 rintro _ w21 ⟨A23,c24,rfl,k22,⟨o25,n26⟩,_⟩
 have S27:=S18.callN k22 [rd intE 1 A23 c24 r19.1] (cA ⟨o25,New.inL n26⟩ nM)
 refine p_ext rfl rfl<|p_ext rfl rfl<|p_aS rfl<|p_aI rfl<|wp_nil ?_
 obtain rfl:=sJ H
 refine c_ret ?_; show bodyPostM (Fr none) 0 Tryd.prog Tryd.f24 _ .ret _ _
 refine ret_of (res2 rfl (rvT (rfl:_=SL A23 r19.1.length c24)) (rvT (rfl:_=I r19.2))) ?_
 exact ⟨_,rfl,A23,c24,rfl,S27.keep,⟨(S27.atP (i:=0) rfl),(New.mono n26 S18.keep.size)⟩,trivial⟩
def ticket_unused:Option (List Int):=
 some (List.replicate 3 0)
set_option maxRecDepth 100000 in
theorem ticket_unused_ok {w:World}{r:(List Int)} (H:ticket_unused=some r):Calls Tryd.prog 67 #[] w (RetV w (AG (sg r 3))):=by
 unfold ticket_unused at H
 refine fn_of (n:=3) Tryd.func67 rfl rfl (lE rfl) ?_
 have S:=St.start w nF _ nM
 refine c_seq<|reg<|p_allA in108 S fun b1 w2 S3=>wp_nil<|c_seq<|reg<|p_allA in108 S3 fun b4 w5 S6=>wp_nil<|c_seq<|reg<|p_ldA ty108 sz108 (S6.atX (i:=0) rfl) rfl rfl<|p_stP (pre:=[]) (old:=sg (List.replicate 3 0) 3) (post:=[]) (vs:=sg (List.replicate 3 0) 3) sz108 S6 (i:=1) rfl rfl rfl rfl (rfl:_=AG (sg (List.replicate 3 0) 3)) rfl rfl rfl rfl fun w7 S8=>wp_nil ?_
 obtain rfl:=sJ H
 refine c_ret ?_; show bodyPostM (Fr none) 0 Tryd.prog Tryd.f67 _ .ret _ _
 refine ret_of (res1 rfl (rvA rfl ty108 sz108 (S8.atX (i:=1) rfl) rfl)) ?_
 exact ⟨_,rfl,rfl,S8.keep⟩
def ticket_truth_uses_l3 (a0:Ticket_truth) (z_1:Int×(List Int)) (rec_z_1:(Int×(List Int))→Option (List Int)) (rec_z_2:(Int×(List Int))→Option (List Int)) (z_2:Int×(List Int)):Option (List Int):=
 bif decide (z_2.1 < 3) then (need (inI z_2.1 3)<|
 need (decide (0≤z_2.1))<|
 need (inI z_2.1 3)<|
 rec_z_2 (wr (z_2.1+1),aset z_2.2 3 z_2.1 (wr ((aget z_2.2 z_2.1)+(andI (shrI (aget a0.used_ z_1.1) z_2.1) 1)))))
 else (rec_z_1 (wr (z_1.1+1),z_2.2))
def ticket_truth_uses_l4 (a0:Ticket_truth) (rec_z_1:(Int×(List Int))→Option (List Int)) (z_1:Int×(List Int)):Option (List Int):=
 bif decide (z_1.1 < 3) then (need (inI z_1.1 3)<|
 loopF (ticket_truth_uses_l3 a0 z_1 rec_z_1) big (0,z_1.2))
 else (some z_1.2)
def ticket_truth_uses (a0:Ticket_truth):Option (List Int):=
 (ticket_unused).bind fun r7=>
 loopF (ticket_truth_uses_l4 a0) big (0,r7)
set_option maxRecDepth 100000 in
theorem ticket_truth_uses_ok {a0:Ticket_truth}{w:World}{r:(List Int)} (H:ticket_truth_uses a0=some r):Calls Tryd.prog 66 #[AG (sg a0.crossed_ 3++sg a0.used_ 3)] w (RetV w (AG (sg r 3))):=by
 unfold ticket_truth_uses at H
 refine fn_of (n:=28) Tryd.func66 rfl rfl (lE rfl) ?_
 have S:=St.start w nF _ nM
 refine c_seq<|reg<|p_boxA rfl S fun b1 w2 S3=>p_allA in108 S3 fun b4 w5 S6=>wp_nil<|c_seq<|reg ?_
 obtain ⟨r7,h8,H⟩:=bindS H
 refine p_cv (ticket_unused_ok h8) fu67 rfl S6 fun w9 S10=>p_allA in108 S10 fun b11 w12 S13=>p_stP (pre:=[]) (old:=sg (List.replicate 3 0) 3) (post:=[]) (vs:=sg r7 3) sz108 S13 (i:=0) rfl rfl rfl rfl (rfl:_=AG (sg r7 3)) rfl rfl rfl rfl fun w14 S15=>wp_nil<|c_seq<|c_seq<|reg<|p_fld fl105_1 rfl<|p_ldP (vs:=sg a0.used_ 3) ty31 sz31 (S15.atX (i:=2) rfl) rfl rfl rfl<|p_mI rfl<|wp_nil<|c_block ?_
 have S16:=S15.pk [0,1] (by decide) [] rfl rfl
 refine c_lop (α:=Int×(List Int)) (β:=Unit) (ticket_truth_uses_l4 a0) (fun z_1 y_1=>[(2,P b4 0),(3,P b11 0),(9,AG (sg a0.used_ 3)),(10,I z_1.1)]) (fun z_1 y_1 w_=>St w nF w_ [bl b11 (sg z_1.2 3) 108,bl b4 (sg (List.replicate 3 0) 3) 108] []) (0,r7) () H ⟨rfl,rfl,rfl,rfl,trivial⟩ S16 ?_
 intro m17 z_1 y_1 e18 w19 H S20
 unfold ticket_truth_uses_l4 at H
 refine c_seq<|reg<|p_cmp rfl rfl rfl<|wp_nil<|c_seq ?_
 refine c_cond rfl (fun c21=>?_) (fun c21=>?_)
 ·replace H:=condT c21 H
  refine c_skip<|c_seq<|c_block<|c_seq<|reg ?_
  obtain ⟨h22,H⟩:=needS H
  refine p_idxI (l:=a0.used_) ae31 sz3 ty3 h22 rfl rfl<|p_aI rfl<|wp_nil<|c_seq<|reg<|p_mI rfl<|wp_nil<|c_block ?_
  refine c_lop (α:=Int×(List Int)) (β:=Unit) (ticket_truth_uses_l3 a0 z_1 (loopF (ticket_truth_uses_l4 a0) m17)) (fun z_2 y_2=>[(2,P b4 0),(3,P b11 0),(5,I (aget a0.used_ z_1.1)),(9,AG (sg a0.used_ 3)),(10,I z_1.1),(13,I z_2.1)]) (fun z_2 y_2 w_=>St w nF w_ [bl b11 (sg z_2.2 3) 108,bl b4 (sg (List.replicate 3 0) 3) 108] []) (0,z_1.2) () H ⟨rfl,rfl,rfl,rfl,rfl,rfl,trivial⟩ S20 ?_
  intro m23 z_2 y_2 e24 w25 H S26
  unfold ticket_truth_uses_l3 at H
  refine c_seq<|reg<|p_cmp rfl rfl rfl<|wp_nil<|c_seq ?_
  refine c_cond rfl (fun c27=>?_) (fun c27=>?_)
  ·replace H:=condT c27 H
   refine c_skip<|c_seq<|c_block<|c_seq<|reg<|p_mI rfl<|p_aI rfl<|wp_nil ?_
   obtain ⟨h28,H⟩:=needS H
   obtain ⟨h29,H⟩:=needS H
   obtain ⟨h30,H⟩:=needS H
   refine reg_q mixed 9 (by kernel_rfl) ?_
   refine dS (fun _ k_=>p_mI rfl dn)<|dS (fun _ k_=>p_ixD ar108 h28 rfl rfl dn)<|dS (fun _ k_=>p_ldD (pre:=[]) (post:=[]) ty3 (aS (S26.atX (i:=0) rfl) k_) rfl h28 rfl rfl dn)<|dS (fun _ k_=>p_mI rfl dn)<|dS (fun _ k_=>p_mI rfl dn)<|dS (fun _ k_=>p_shr h29 rfl rfl dn)<|dS (fun _ k_=>p_andI rfl rfl dn)<|dS (fun _ k_=>p_add rfl rfl dn)<|dS (fun _ k_=>p_ixD ar108 h30 rfl rfl dn) ?_
   intro w31 k32; have S33:=S26.call k32
   refine p_stD (pre:=[]) (post:=[]) sz3 S33 (i:=0) rfl rfl h30 rfl rfl rfl fun w34 S35=>wp_nil<|reg<|p_add rfl rfl<|p_mI rfl<|wp_nil ?_
   exact ⟨(wr (z_2.1+1),aset z_2.2 3 z_2.1 (wr ((aget z_2.2 z_2.1)+(andI (shrI (aget a0.used_ z_1.1) z_2.1) 1)))),(),_,rfl,⟨rfl,rfl,rfl,rfl,rfl,rfl,trivial⟩,H,S35⟩
  ·replace H:=condF c27 H
   refine c_exit<|reg<|p_add rfl rfl<|p_mI rfl<|wp_nil ?_
   exact ⟨(wr (z_1.1+1),z_2.2),(),_,rfl,⟨rfl,rfl,rfl,rfl,trivial⟩,H,S26⟩
 ·replace H:=condF c21 H
  refine c_exit<|c_seq<|reg<|p_ldA ty108 sz108 (S20.atX (i:=0) rfl) rfl rfl<|p_stP (pre:=[]) (old:=sg (List.replicate 3 0) 3) (post:=[]) (vs:=sg z_1.2 3) sz108 S20 (i:=1) rfl rfl rfl rfl (rfl:_=AG (sg z_1.2 3)) rfl rfl rfl rfl fun w36 S37=>wp_nil ?_
  obtain rfl:=sJ H
  refine c_ret ?_; show bodyPostM (Fr none) 0 Tryd.prog Tryd.f66 _ .ret _ _
  refine ret_of (res1 rfl (rvA rfl ty108 sz108 (S37.atX (i:=1) rfl) rfl)) ?_
  exact ⟨_,rfl,rfl,S37.keep⟩
def ticket_Saved_1 (a0:Ticket_truth) (q0:Int):Option Int:=
 (ticket_truth_uses a0).bind fun r6=>
 (ticket_unused).bind fun r15=>
 bif decide (sgl r6 3=sgl r15 3) then (some 0)
 else (need (inI q0 3)<|
 some (aget r6 q0))
set_option maxRecDepth 100000 in
theorem ticket_Saved_1_ok {a0:Ticket_truth}{q0:Int}{b1:Nat}{w:World}{r:Int} (H:ticket_Saved_1 a0 q0=some r) (h2:(bl b1 [I q0] 3).ok w):Calls Tryd.prog 65 #[AG (sg a0.crossed_ 3++sg a0.used_ 3),P b1 0] w (RetV w (I r)):=by
 unfold ticket_Saved_1 at H
 refine fn_of (n:=13) Tryd.func65 rfl rfl (lE rfl) ?_
 have S:=St.start w nF _ (cA h2 nM)
 refine c_seq<|reg<|p_boxA rfl S fun b3 w4 S5=>p_aI rfl<|wp_nil<|c_seq<|reg<|p_ldA ty105 sz105 (S5.atX (i:=0) rfl) rfl rfl ?_
 obtain ⟨r6,h7,H⟩:=bindS H
 refine p_cv (ticket_truth_uses_ok h7) fu66 rfl S5 fun w8 S9=>p_allA in108 S9 fun b10 w11 S12=>p_stP (pre:=[]) (old:=sg (List.replicate 3 0) 3) (post:=[]) (vs:=sg r6 3) sz108 S12 (i:=0) rfl rfl rfl rfl (rfl:_=AG (sg r6 3)) rfl rfl rfl rfl fun w13 S14=>wp_nil<|c_seq<|c_seq ?_
 obtain ⟨r15,h16,H⟩:=bindS H
 refine reg_q mixed 3 (by kernel_rfl) ?_
 refine dS (fun _ k_=>p_ldA ty108 sz108 (aS (S14.atX (i:=0) rfl) k_) rfl rfl dn)<|dS (fun _ k_=>p_cvD (ticket_unused_ok h16) fu67 rfl)<|dS (fun _ k_=>p_eqS (m:=3) eq108 rfl rfl dn) ?_
 intro w17 k18; have S19:=S14.call k18
 refine wp_nil ?_
 refine c_cond rfl (fun c20=>?_) (fun c20=>?_)
 ·replace H:=condT c20 H
  refine c_seq<|reg<|p_aI rfl<|wp_nil ?_
  obtain rfl:=sJ H
  exact c_ret (rT Tryd.f65 S19.keep rfl rfl)
 ·replace H:=condF c20 H
  refine c_skip<|c_seq<|reg<|p_ld ty3 (S19.atP (i:=0) rfl) rfl rfl ?_
  obtain ⟨h21,H⟩:=needS H
  refine p_ixD ar108 h21 rfl rfl<|p_ldD (pre:=[]) (post:=[]) ty3 (S19.atX (i:=0) rfl) rfl h21 rfl rfl<|p_aI rfl<|wp_nil ?_
  obtain rfl:=sJ H
  exact c_ret (rT Tryd.f65 S19.keep rfl rfl)
def ticket_Saved (a0:TicketBook) (a1:Int):Option (Span×Int):=
 (ticket_isTicket a0 a1).bind fun r26=>
 (ticket_asked a0 r26).bind fun r32=>
 bif (r32.2 != 0) then (some ((Span.mk 0 0),r32.2))
 else ((ticket_book_span r32.1 (fun y113=>ticket_Saved_1 y113 a1)).bind fun r114=>
 some (r114,0))
set_option maxHeartbeats 10000000 in
set_option maxRecDepth 100000 in
theorem ticket_Saved_ok {a0:TicketBook}{a1:Int}{A1:Option Addr}{c2:Nat}{A4:Option Addr}{c5:Nat}{A7:Option Addr}{c8:Nat}{A10:Option Addr}{c11:Nat}{w:World}{r:Span×Int} (H:ticket_Saved a0 a1=some r) (h3:(rd eTallyCount 7 A1 c2 a0.Tally.Counts).ok w) (h6:(rd eTicketSeason 2 A4 c5 a0.Tickets).ok w) (h9:(rd eTicketShow 3 A7 c8 a0.Shows).ok w) (h12:(rd eTicketBox 4 A10 c11 a0.Boxes).ok w) (hg13:(gW0).ok w) (hg14:(gW2).ok w):Calls Tryd.prog 29 #[AG (vB a0 A1 c2 A4 c5 A7 c8 A10 c11),I a1] w (RetV w (TU [AG [I r.1.Low,I r.1.High],I r.2])):=by
 unfold ticket_Saved at H
 refine fn_of (n:=23) Tryd.func29 rfl rfl (lE rfl) ?_
 have S:=St.start w nF _ (cA h3 (cA h6 (cA h9 (cA h12 (cA hg13 (cA hg14 nM))))))
 refine c_seq<|reg<|p_boxA rfl S fun b15 w16 S17=>p_box (rfl:_=I a1) rfl S17 fun b18 w19 S20=>?_
 try clear S17
 refine p_allA in49 S20 fun b21 w22 S23=>?_
 try clear S20
 refine p_aI rfl<|wp_nil<|c_seq ?_
 obtain ⟨r26,h27,H⟩:=bindS H
 obtain ⟨r32,h33,H⟩:=bindS H
 have A_:∀ {w_:World},Keep0 w22 w_→St w_ nF w_ [] [bl b21 [I 0,I 0] 49,bl b18 [I a1] 3,bl b15 (vB a0 A1 c2 A4 c5 A7 c8 A10 c11) 29,rd eTallyCount 7 A1 c2 a0.Tally.Counts,rd eTicketSeason 2 A4 c5 a0.Tickets,rd eTicketShow 3 A7 c8 a0.Shows,rd eTicketBox 4 A10 c11 a0.Boxes,gW0,gW2]:=fun k_=>S23.asP k_
 refine reg_fl mixed 9 7 (by kernel_rfl) [rv (AG (vB a0 A1 c2 A4 c5 A7 c8 A10 c11)),rv (AG (vB a0 A1 c2 A4 c5 A7 c8 A10 c11)),rv (I a1),rv (B r26),rx (α:=(Option Addr)×Nat×(Option Addr)×Nat×(Option Addr)×Nat×(Option Addr)×Nat×(Option Nat)) (fun ⟨A36,c37,A38,c39,A40,c41,A42,c43,m44⟩=>TU [AG ((vB r32.1.TicketBook A36 c37 A38 c39 A40 c41 A42 c43)++(sg r32.1.shown_ 3++[Value.map m44])),I r32.2]) (fun ⟨A36,c37,A38,c39,A40,c41,A42,c43,m44⟩ lo hi=>BtwL lo hi [rd eTallyCount 7 A1 c2 a0.Tally.Counts,rd eTicketSeason 2 A4 c5 a0.Tickets,rd eTicketShow 3 A7 c8 a0.Shows,rd eTicketBox 4 A10 c11 a0.Boxes] (rd eTallyCount 7 A36 c37 r32.1.TicketBook.Tally.Counts)∧BtwL lo hi [rd eTallyCount 7 A1 c2 a0.Tally.Counts,rd eTicketSeason 2 A4 c5 a0.Tickets,rd eTicketShow 3 A7 c8 a0.Shows,rd eTicketBox 4 A10 c11 a0.Boxes] (rd eTicketSeason 2 A38 c39 r32.1.TicketBook.Tickets)∧BtwL lo hi [] (rd eTicketShow 3 A40 c41 r32.1.TicketBook.Shows)∧BtwL lo hi [] (rd eTicketBox 4 A42 c43 r32.1.TicketBook.Boxes)∧BtwL lo hi [] (mpo ekS iE m44 r32.1.by_)∧True) (fun ⟨A36,c37,A38,c39,A40,c41,A42,c43,m44⟩=>[rd eTallyCount 7 A36 c37 r32.1.TicketBook.Tally.Counts,rd eTicketSeason 2 A38 c39 r32.1.TicketBook.Tickets,rd eTicketShow 3 A40 c41 r32.1.TicketBook.Shows,rd eTicketBox 4 A42 c43 r32.1.TicketBook.Boxes,mpo ekS iE m44 r32.1.by_]),dv 13 some,dv 8 (exG 0),dv 8 (exG 1),rx (α:=Nat) (fun b67=>P b67 0) (fun b67 lo hi=>BtwL lo hi [] (bl b67 ([I 0,I 0,SL none 0 0,I 0,SL none 0 0,SL none 0 0,SL none 0 0]++(sg (List.replicate 3 0) 3++[Value.map none])) 92)∧True) (fun b67=>[bl b67 ([I 0,I 0,SL none 0 0,I 0,SL none 0 0,SL none 0 0,SL none 0 0]++(sg (List.replicate 3 0) 3++[Value.map none])) 92])] [[],[],[],[],[],[13],[8],[8],[]] rfl (by kernel_rfl) [[],[],[],[1,2],[0,1,2,3],[0,1,2,3,4],[0,1,2,3,4,5],[0,1,2,3,4,5],[],[0,1,2,3,4,5,6,8],[0,1,2,3,4,5,6,7,8,9]] (by kernel_rfl) ⟨?_,?_,?_,?_,?_,?_,?_,?_,?_,trivial⟩ ?_ ?_
 ·intro e_ w_ k_ hf_ hR_
  have S_:=@A_ _ k_
  refine hopE [(2,P b15 0)] ⟨((hf_ 2 rfl).trans (rfl:_=P b15 0)),trivial⟩ ?_
  exact p_ldA ty29 sz29 (S_.atP (i:=2) rfl) rfl rfl<|wp_nil ⟨_,rfl,S_.keep,rfl⟩
 ·intro e_ w_ k_ hf_ hR_
  have S_:=@A_ _ k_
  refine hopE [(2,P b15 0)] ⟨((hf_ 2 rfl).trans (rfl:_=P b15 0)),trivial⟩ ?_
  exact p_ldA ty29 sz29 (S_.atP (i:=2) rfl) rfl rfl<|wp_nil ⟨_,rfl,S_.keep,rfl⟩
 ·intro e_ w_ k_ hf_ hR_
  have S_:=@A_ _ k_
  refine hopE [(3,P b18 0)] ⟨((hf_ 3 rfl).trans (rfl:_=P b18 0)),trivial⟩ ?_
  exact p_ld ty3 (S_.atP (i:=1) rfl) rfl rfl<|wp_nil ⟨_,rfl,S_.keep,rfl⟩
 ·intro e_ w_ k_ hf_ hR_
  have S_:=@A_ _ k_
  refine hopE [(10,AG (vB a0 A1 c2 A4 c5 A7 c8 A10 c11)),(11,I a1)] ⟨rQ (hR_ 1 10 rfl (lE rfl) rfl),rQ (hR_ 2 11 rfl (lE rfl) rfl),trivial⟩ ?_
  refine p_cv (ticket_isTicket_ok h27 (S_.atP (i:=3) rfl) (S_.atP (i:=4) rfl) (S_.atP (i:=5) rfl) (S_.atP (i:=6) rfl)) fu64 rfl S_ fun w28 S29=>wp_nil ?_
  exact ⟨_,rfl,S29.keep,rfl⟩
 ·intro e_ w_ k_ hf_ hR_
  have S_:=@A_ _ k_
  refine hopE [(9,AG (vB a0 A1 c2 A4 c5 A7 c8 A10 c11)),(12,B r26)] ⟨rQ (hR_ 0 9 rfl (lE rfl) rfl),rQ (hR_ 3 12 rfl (lE rfl) rfl),trivial⟩ ?_
  refine p_cal (ticket_asked_ok h33 (S_.atP (i:=3) rfl) (S_.atP (i:=4) rfl) (S_.atP (i:=5) rfl) (S_.atP (i:=6) rfl) (S_.atP (i:=7) rfl) (S_.atP (i:=8) rfl)) fu58 rfl ?_
  rintro _ w34 ⟨A36,c37,A38,c39,A40,c41,A42,c43,m44,rfl,k35,⟨o45,n46⟩,⟨o47,n48⟩,⟨o49,n50⟩,⟨o51,n52⟩,⟨o53,n54⟩,_⟩
  have S55:=S_.callN k35 [rd eTallyCount 7 A36 c37 r32.1.TicketBook.Tally.Counts,rd eTicketSeason 2 A38 c39 r32.1.TicketBook.Tickets,rd eTicketShow 3 A40 c41 r32.1.TicketBook.Shows,rd eTicketBox 4 A42 c43 r32.1.TicketBook.Boxes,mpo ekS iE m44 r32.1.by_] (cA ⟨o45,Al.inL n46 ((cA (fp_mem (i:=3) rfl) (cA (fp_mem (i:=4) rfl) (cA (fp_mem (i:=5) rfl) (cA (fp_mem (i:=6) rfl) nM)))))⟩ (cA ⟨o47,Al.inL n48 ((cA (fp_mem (i:=3) rfl) (cA (fp_mem (i:=4) rfl) (cA (fp_mem (i:=5) rfl) (cA (fp_mem (i:=6) rfl) nM)))))⟩ (cA ⟨o49,New.inL n50⟩ (cA ⟨o51,New.inL n52⟩ (cA ⟨o53,New.inL n54⟩ nM)))))
  exact wp_nil ⟨_,rfl,S55.keep,⟨(A36,c37,A38,c39,A40,c41,A42,c43,m44),rfl,⟨bL n46 rfl (S55.atP (i:=0) rfl) rfl,bL n48 rfl (S55.atP (i:=1) rfl) rfl,bL (New.al (New.mono n50 S_.keep.size)) rfl (S55.atP (i:=2) rfl) rfl,bL (New.al (New.mono n52 S_.keep.size)) rfl (S55.atP (i:=3) rfl) rfl,bL (New.al (New.mono n54 S_.keep.size)) rfl (S55.atP (i:=4) rfl) rfl,trivial⟩,(cA (S55.atP (i:=0) rfl) (cA (S55.atP (i:=1) rfl) (cA (S55.atP (i:=2) rfl) (cA (S55.atP (i:=3) rfl) (cA (S55.atP (i:=4) rfl) nM)))))⟩⟩
 ·intro e_ w_ k_ hf_ hR_
  have S_:=@A_ _ k_
  obtain ⟨_,_,_,_,⟨A36,c37,A38,c39,A40,c41,A42,c43,m44⟩,q56,p57,a58⟩:=hR_ 4 13 rfl (lE rfl) rfl
  replace q56:e_ 13=TU [AG ((vB r32.1.TicketBook A36 c37 A38 c39 A40 c41 A42 c43)++(sg r32.1.shown_ 3++[Value.map m44])),I r32.2]:=q56
  have S_:=St.addL' S_ (a58 _ (.head _)) (fun _ _ _ h_=>(nE h_))
  have S_:=St.addL' S_ (a58 _ (.tail _ (.head _))) (fun _ _ _ h_=>(nE h_))
  have S_:=St.addL' S_ (a58 _ (.tail _ (.tail _ (.head _)))) (fun _ _ _ h_=>(nE h_))
  have S_:=St.addL' S_ (a58 _ (.tail _ (.tail _ (.tail _ (.head _))))) (fun _ _ _ h_=>(nE h_))
  have S_:=St.addL' S_ (a58 _ (.tail _ (.tail _ (.tail _ (.tail _ (.head _)))))) (fun _ _ _ h_=>(nE h_))
  refine hopE [(13,TU [AG ((vB r32.1.TicketBook A36 c37 A38 c39 A40 c41 A42 c43)++(sg r32.1.shown_ 3++[Value.map m44])),I r32.2])] ⟨q56,trivial⟩ ?_
  refine p_mT rfl<|wp_nil ?_
  exact ⟨_,rfl,S_.keep,rfl⟩
 ·intro e_ w_ k_ hf_ hR_
  have S_:=@A_ _ k_
  obtain ⟨_,_,_,_,⟨A36,c37,A38,c39,A40,c41,A42,c43,m44⟩,q60,p61,a62⟩:=hR_ 4 13 rfl (lE rfl) rfl
  replace q60:e_ 13=TU [AG ((vB r32.1.TicketBook A36 c37 A38 c39 A40 c41 A42 c43)++(sg r32.1.shown_ 3++[Value.map m44])),I r32.2]:=q60
  have S_:=St.addL' S_ (a62 _ (.head _)) (fun _ _ _ h_=>(nE h_))
  have S_:=St.addL' S_ (a62 _ (.tail _ (.head _))) (fun _ _ _ h_=>(nE h_))
  have S_:=St.addL' S_ (a62 _ (.tail _ (.tail _ (.head _)))) (fun _ _ _ h_=>(nE h_))
  have S_:=St.addL' S_ (a62 _ (.tail _ (.tail _ (.tail _ (.head _))))) (fun _ _ _ h_=>(nE h_))
  have S_:=St.addL' S_ (a62 _ (.tail _ (.tail _ (.tail _ (.tail _ (.head _)))))) (fun _ _ _ h_=>(nE h_))
  obtain ⟨_,_,_,_,q59⟩:=hR_ 5 8 rfl (lE rfl) rfl
  replace q59:e_ 8=TU [AG ((vB r32.1.TicketBook A36 c37 A38 c39 A40 c41 A42 c43)++(sg r32.1.shown_ 3++[Value.map m44])),I r32.2]:=(sJ ((congrArg some q60).symm.trans q59)).symm
  refine hopE [(8,TU [AG ((vB r32.1.TicketBook A36 c37 A38 c39 A40 c41 A42 c43)++(sg r32.1.shown_ 3++[Value.map m44])),I r32.2])] ⟨q59,trivial⟩ ?_
  refine p_ext rfl rfl<|wp_nil ?_
  exact ⟨_,rfl,S_.keep,rfl⟩
 ·intro e_ w_ k_ hf_ hR_
  have S_:=@A_ _ k_
  obtain ⟨_,_,_,_,⟨A36,c37,A38,c39,A40,c41,A42,c43,m44⟩,q64,p65,a66⟩:=hR_ 4 13 rfl (lE rfl) rfl
  replace q64:e_ 13=TU [AG ((vB r32.1.TicketBook A36 c37 A38 c39 A40 c41 A42 c43)++(sg r32.1.shown_ 3++[Value.map m44])),I r32.2]:=q64
  have S_:=St.addL' S_ (a66 _ (.head _)) (fun _ _ _ h_=>(nE h_))
  have S_:=St.addL' S_ (a66 _ (.tail _ (.head _))) (fun _ _ _ h_=>(nE h_))
  have S_:=St.addL' S_ (a66 _ (.tail _ (.tail _ (.head _)))) (fun _ _ _ h_=>(nE h_))
  have S_:=St.addL' S_ (a66 _ (.tail _ (.tail _ (.tail _ (.head _))))) (fun _ _ _ h_=>(nE h_))
  have S_:=St.addL' S_ (a66 _ (.tail _ (.tail _ (.tail _ (.tail _ (.head _)))))) (fun _ _ _ h_=>(nE h_))
  obtain ⟨_,_,_,_,q63⟩:=hR_ 5 8 rfl (lE rfl) rfl
  replace q63:e_ 8=TU [AG ((vB r32.1.TicketBook A36 c37 A38 c39 A40 c41 A42 c43)++(sg r32.1.shown_ 3++[Value.map m44])),I r32.2]:=(sJ ((congrArg some q64).symm.trans q63)).symm
  refine hopE [(8,TU [AG ((vB r32.1.TicketBook A36 c37 A38 c39 A40 c41 A42 c43)++(sg r32.1.shown_ 3++[Value.map m44])),I r32.2])] ⟨q63,trivial⟩ ?_
  refine p_ext rfl rfl<|wp_nil ?_
  exact ⟨_,rfl,S_.keep,rfl⟩
 ·intro e_ w_ k_ hf_ hR_
  have S_:=@A_ _ k_
  refine hopE [] trivial ?_
  refine p_allA in92 S_ fun b67 w68 S69=>wp_nil ?_
  exact ⟨_,rfl,S69.keep,⟨b67,rfl,⟨bL (New.al (S69.newX (i:=0) rfl)) rfl (S69.atX (i:=0) rfl) rfl,trivial⟩,(cA (S69.atX (i:=0) rfl) nM)⟩⟩
 ·intro e70 w71 lo72 hi73 k74 hf75 hR76 hd77
  have S78:=S23.call k74
  obtain ⟨h80,h81,h82,⟨A36,c37,A38,c39,A40,c41,A42,c43,m44⟩,q79,h83,h84⟩:=hR76 4 13 (lE rfl) rfl
  replace q79:e70 13=TU [AG ((vB r32.1.TicketBook A36 c37 A38 c39 A40 c41 A42 c43)++(sg r32.1.shown_ 3++[Value.map m44])),I r32.2]:=q79
  obtain ⟨p85,p86,p87,p88,p89,_⟩:=h83
  have S90:=St.addR S78 (h84 _ (.head _)) (oR p85 h80 S23 (mG [0,1,2,3] rfl))
  try clear S78
  have S91:=St.addR S90 (h84 _ (.tail _ (.head _))) (oR p86 h80 S23 (mG [0,1,2,3] rfl))
  try clear S90
  have S92:=St.addR S91 (h84 _ (.tail _ (.tail _ (.head _)))) (oR p87 h80 S23 (nM))
  try clear S91
  have S93:=St.addR S92 (h84 _ (.tail _ (.tail _ (.tail _ (.head _))))) (oR p88 h80 S23 (nM))
  try clear S92
  have S94:=St.addR S93 (h84 _ (.tail _ (.tail _ (.tail _ (.tail _ (.head _)))))) (oR p89 h80 S23 (nM))
  try clear S93
  have q95:e70 8=TU [AG ((vB r32.1.TicketBook A36 c37 A38 c39 A40 c41 A42 c43)++(sg r32.1.shown_ 3++[Value.map m44])),I r32.2]:=(sJ ((congrArg some q79).symm.trans (hR76 5 8 (lE rfl) rfl).2.2.2)).symm
  have q96:e70 14=AG ((vB r32.1.TicketBook A36 c37 A38 c39 A40 c41 A42 c43)++(sg r32.1.shown_ 3++[Value.map m44])):=(sJ ((congrArg (exG 0) q95).symm.trans (hR76 6 14 (lE rfl) rfl).2.2.2)).symm
  have q97:e70 15=I r32.2:=(sJ ((congrArg (exG 1) q95).symm.trans (hR76 7 15 (lE rfl) rfl).2.2.2)).symm
  obtain ⟨h99,h100,h101,b67,q98,h102,h103⟩:=hR76 8 6 (lE rfl) rfl
  replace q98:e70 6=P b67 0:=q98
  obtain ⟨p104,_⟩:=h102
  have S106:=St.addO S94 (h103 _ (.head _)) (oN p104 h99 S23) (oX p104 h99 S23) (cA (oP p104 p89 h99 S23 (nM) (hd77 8 4 (lE rfl) (lE rfl) (by decide))) (cA (oP p104 p88 h99 S23 (nM) (hd77 8 4 (lE rfl) (lE rfl) (by decide))) (cA (oP p104 p87 h99 S23 (nM) (hd77 8 4 (lE rfl) (lE rfl) (by decide))) (cA (oP p104 p86 h99 S23 (mG [0,1,2,3] rfl) (hd77 8 4 (lE rfl) (lE rfl) (by decide))) (cA (oP p104 p85 h99 S23 (mG [0,1,2,3] rfl) (hd77 8 4 (lE rfl) (lE rfl) (by decide))) (oL p104 h99 S23))))))
  try clear S94
  refine tailE [(3,P b18 0),(4,P b21 0),(6,P b67 0),(14,AG ((vB r32.1.TicketBook A36 c37 A38 c39 A40 c41 A42 c43)++(sg r32.1.shown_ 3++[Value.map m44]))),(15,I r32.2)] ⟨((hf75 3 rfl).trans (rfl:_=P b18 0)),((hf75 4 rfl).trans (rfl:_=P b21 0)),q98,q96,q97,trivial⟩ ?_
  intro g107
  refine p_stP (pre:=[]) (old:=[I 0,I 0,SL none 0 0,I 0,SL none 0 0,SL none 0 0,SL none 0 0]++(sg (List.replicate 3 0) 3++[Value.map none])) (post:=[]) (vs:=(vB r32.1.TicketBook A36 c37 A38 c39 A40 c41 A42 c43)++(sg r32.1.shown_ 3++[Value.map m44])) sz92 S106 (i:=0) rfl rfl rfl rfl (rfl:_=AG ((vB r32.1.TicketBook A36 c37 A38 c39 A40 c41 A42 c43)++(sg r32.1.shown_ 3++[Value.map m44]))) rfl rfl rfl rfl fun w108 S109=>?_
  try clear S106
  refine p_aI rfl<|wp_nil<|c_seq<|c_seq<|reg<|p_mI rfl<|p_cmp rfl rfl rfl<|wp_nil ?_
  refine c_cond rfl (fun c110=>?_) (fun c110=>?_)
  ·replace H:=condT c110 H
   refine c_seq<|reg<|p_bld (cs:=[I 0,I 0]) st49 (rfl:_=[]) (by kernel_rfl)<|p_mI rfl<|p_stP (pre:=[]) (old:=[I 0,I 0]) (post:=[]) (vs:=[I 0,I 0]) sz49 S109 (i:=1) rfl rfl rfl rfl (rfl:_=AG [I 0,I 0]) rfl rfl rfl rfl fun w111 S112=>p_aI rfl<|wp_nil ?_
   obtain rfl:=sJ H
   refine c_ret ?_; show bodyPostM (Fr none) 0 Tryd.prog Tryd.f29 _ .ret _ _
   refine ret_of (res2 rfl (rvA rfl ty49 sz49 (S112.atX (i:=1) rfl) rfl) (rvT (rfl:_=I r32.2))) ?_
   exact ⟨_,rfl,rfl,S112.keep⟩
  ·replace H:=condF c110 H
   refine c_skip<|c_seq<|reg<|p_ldA ty92 sz92 (S109.atX (i:=0) rfl) rfl rfl ?_
   refine o_fun (rfl:_=[]) (rfl:_=[P b18 0]) ?_
   obtain ⟨r114,h115,H⟩:=bindS H
   refine p_cv (ticket_book_span_ok h115 (S109.atP (i:=4) rfl) (S109.atP (i:=3) rfl) (S109.atP (i:=2) rfl) (S109.atP (i:=1) rfl) (S109.atP (i:=0) rfl) (by kernel_rfl) (fun _ _ _ k_ hr_=>ticket_Saved_1_ok hr_ (aS (S109.atX (i:=2) rfl) k_)) (S109.atP (i:=9) rfl) (S109.atP (i:=10) rfl)) fu60 rfl S109 fun w116 S117=>?_
   try clear S109
   refine p_stP (pre:=[]) (old:=[I 0,I 0]) (post:=[]) (vs:=[I r114.Low,I r114.High]) sz49 S117 (i:=1) rfl rfl rfl rfl (rfl:_=AG [I r114.Low,I r114.High]) rfl rfl rfl rfl fun w118 S119=>?_
   try clear S117
   refine p_aI rfl<|wp_nil ?_
   have S120:St w nF w118 [bl b21 [I r114.Low,I r114.High] 49] [rd eTallyCount 7 A1 c2 a0.Tally.Counts,rd eTicketSeason 2 A4 c5 a0.Tickets,rd eTicketShow 3 A7 c8 a0.Shows,rd eTicketBox 4 A10 c11 a0.Boxes,gW0,gW2]:=S119.pk [1] (by decide) [5,6,7,8,9,10] rfl rfl
   try clear S119
   obtain rfl:=sJ H
   refine c_ret ?_; show bodyPostM (Fr none) 0 Tryd.prog Tryd.f29 _ .ret _ _
   refine ret_of (res2 rfl (rvA rfl ty49 sz49 (S120.atX (i:=0) rfl) rfl) (rvT (rfl:_=I 0))) ?_
   exact ⟨_,rfl,rfl,S120.keep⟩
 ·intro e121 w122 lo123 hi124 k125 hf126 hR127 hd128
  have S129:=S23.call k125
  obtain ⟨h131,h132,h133,⟨A36,c37,A38,c39,A40,c41,A42,c43,m44⟩,q130,h134,h135⟩:=hR127 4 13 (lE rfl) (by decide) rfl
  replace q130:e121 13=TU [AG ((vB r32.1.TicketBook A36 c37 A38 c39 A40 c41 A42 c43)++(sg r32.1.shown_ 3++[Value.map m44])),I r32.2]:=q130
  obtain ⟨p136,p137,p138,p139,p140,_⟩:=h134
  have S141:=St.addR S129 (h135 _ (.head _)) (oR p136 h131 S23 (mG [0,1,2,3] rfl))
  try clear S129
  have S142:=St.addR S141 (h135 _ (.tail _ (.head _))) (oR p137 h131 S23 (mG [0,1,2,3] rfl))
  try clear S141
  have S143:=St.addR S142 (h135 _ (.tail _ (.tail _ (.head _)))) (oR p138 h131 S23 (nM))
  try clear S142
  have S144:=St.addR S143 (h135 _ (.tail _ (.tail _ (.tail _ (.head _))))) (oR p139 h131 S23 (nM))
  try clear S143
  have S145:=St.addR S144 (h135 _ (.tail _ (.tail _ (.tail _ (.tail _ (.head _)))))) (oR p140 h131 S23 (nM))
  try clear S144
  have q146:e121 8=TU [AG ((vB r32.1.TicketBook A36 c37 A38 c39 A40 c41 A42 c43)++(sg r32.1.shown_ 3++[Value.map m44])),I r32.2]:=(sJ ((congrArg some q130).symm.trans (hR127 5 8 (lE rfl) (by decide) rfl).2.2.2)).symm
  have q147:e121 14=AG ((vB r32.1.TicketBook A36 c37 A38 c39 A40 c41 A42 c43)++(sg r32.1.shown_ 3++[Value.map m44])):=(sJ ((congrArg (exG 0) q146).symm.trans (hR127 6 14 (lE rfl) (by decide) rfl).2.2.2)).symm
  obtain ⟨h149,h150,h151,b67,q148,h152,h153⟩:=hR127 8 6 (lE rfl) (by decide) rfl
  replace q148:e121 6=P b67 0:=q148
  obtain ⟨p154,_⟩:=h152
  have S156:=St.addO S145 (h153 _ (.head _)) (oN p154 h149 S23) (oX p154 h149 S23) (cA (oP p154 p140 h149 S23 (nM) (hd128 8 4 (lE rfl) (lE rfl) (by decide) (by decide) (by decide))) (cA (oP p154 p139 h149 S23 (nM) (hd128 8 4 (lE rfl) (lE rfl) (by decide) (by decide) (by decide))) (cA (oP p154 p138 h149 S23 (nM) (hd128 8 4 (lE rfl) (lE rfl) (by decide) (by decide) (by decide))) (cA (oP p154 p137 h149 S23 (mG [0,1,2,3] rfl) (hd128 8 4 (lE rfl) (lE rfl) (by decide) (by decide) (by decide))) (cA (oP p154 p136 h149 S23 (mG [0,1,2,3] rfl) (hd128 8 4 (lE rfl) (lE rfl) (by decide) (by decide) (by decide))) (oL p154 h149 S23))))))
  try clear S23; try clear S145
  refine tailE [(3,P b18 0),(4,P b21 0),(6,P b67 0),(8,TU [AG ((vB r32.1.TicketBook A36 c37 A38 c39 A40 c41 A42 c43)++(sg r32.1.shown_ 3++[Value.map m44])),I r32.2]),(14,AG ((vB r32.1.TicketBook A36 c37 A38 c39 A40 c41 A42 c43)++(sg r32.1.shown_ 3++[Value.map m44])))] ⟨((hf126 3 rfl).trans (rfl:_=P b18 0)),((hf126 4 rfl).trans (rfl:_=P b21 0)),q148,q146,q147,trivial⟩ ?_
  intro g157
  refine p_stP (pre:=[]) (old:=[I 0,I 0,SL none 0 0,I 0,SL none 0 0,SL none 0 0,SL none 0 0]++(sg (List.replicate 3 0) 3++[Value.map none])) (post:=[]) (vs:=(vB r32.1.TicketBook A36 c37 A38 c39 A40 c41 A42 c43)++(sg r32.1.shown_ 3++[Value.map m44])) sz92 S156 (i:=0) rfl rfl rfl rfl (rfl:_=AG ((vB r32.1.TicketBook A36 c37 A38 c39 A40 c41 A42 c43)++(sg r32.1.shown_ 3++[Value.map m44]))) rfl rfl rfl rfl fun w158 S159=>?_
  try clear S156
  refine p_ext rfl rfl<|p_aI rfl<|wp_nil<|c_seq<|c_seq<|reg<|p_mI rfl<|p_cmp rfl rfl rfl<|wp_nil ?_
  refine c_cond rfl (fun c160=>?_) (fun c160=>?_)
  ·replace H:=condT c160 H
   refine c_seq<|reg<|p_bld (cs:=[I 0,I 0]) st49 (rfl:_=[]) (by kernel_rfl)<|p_mI rfl<|p_stP (pre:=[]) (old:=[I 0,I 0]) (post:=[]) (vs:=[I 0,I 0]) sz49 S159 (i:=1) rfl rfl rfl rfl (rfl:_=AG [I 0,I 0]) rfl rfl rfl rfl fun w161 S162=>p_aI rfl<|wp_nil ?_
   obtain rfl:=sJ H
   refine c_ret ?_; show bodyPostM (Fr none) 0 Tryd.prog Tryd.f29 _ .ret _ _
   refine ret_of (res2 rfl (rvA rfl ty49 sz49 (S162.atX (i:=1) rfl) rfl) (rvT (rfl:_=I r32.2))) ?_
   exact ⟨_,rfl,rfl,S162.keep⟩
  ·replace H:=condF c160 H
   refine c_skip<|c_seq<|reg<|p_ldA ty92 sz92 (S159.atX (i:=0) rfl) rfl rfl ?_
   refine o_fun (rfl:_=[]) (rfl:_=[P b18 0]) ?_
   obtain ⟨r164,h165,H⟩:=bindS H
   refine p_cv (ticket_book_span_ok h165 (S159.atP (i:=4) rfl) (S159.atP (i:=3) rfl) (S159.atP (i:=2) rfl) (S159.atP (i:=1) rfl) (S159.atP (i:=0) rfl) (by kernel_rfl) (fun _ _ _ k_ hr_=>ticket_Saved_1_ok hr_ (aS (S159.atX (i:=2) rfl) k_)) (S159.atP (i:=9) rfl) (S159.atP (i:=10) rfl)) fu60 rfl S159 fun w166 S167=>?_
   try clear S159
   refine p_stP (pre:=[]) (old:=[I 0,I 0]) (post:=[]) (vs:=[I r164.Low,I r164.High]) sz49 S167 (i:=1) rfl rfl rfl rfl (rfl:_=AG [I r164.Low,I r164.High]) rfl rfl rfl rfl fun w168 S169=>?_
   try clear S167
   refine p_aI rfl<|wp_nil ?_
   have S170:St w nF w168 [bl b21 [I r164.Low,I r164.High] 49] [rd eTallyCount 7 A1 c2 a0.Tally.Counts,rd eTicketSeason 2 A4 c5 a0.Tickets,rd eTicketShow 3 A7 c8 a0.Shows,rd eTicketBox 4 A10 c11 a0.Boxes,gW0,gW2]:=S169.pk [1] (by decide) [5,6,7,8,9,10] rfl rfl
   try clear S169
   obtain rfl:=sJ H
   refine c_ret ?_; show bodyPostM (Fr none) 0 Tryd.prog Tryd.f29 _ .ret _ _
   refine ret_of (res2 rfl (rvA rfl ty49 sz49 (S170.atX (i:=0) rfl) rfl) (rvT (rfl:_=I 0))) ?_
   exact ⟨_,rfl,rfl,S170.keep⟩
def B_Point (a0:Int):Option Span:=
 (B_Range a0 a0).bind fun r4=>
 some r4
set_option maxRecDepth 100000 in
theorem B_Point_ok {a0:Int}{w:World}{r:Span} (H:B_Point a0=some r):Calls Tryd.prog 30 #[I a0] w (RetV w (AG [I r.Low,I r.High])):=by
 unfold B_Point at H
 refine fn_of (n:=6) Tryd.func30 rfl rfl (lE rfl) ?_
 have S:=St.start w nF _ nM
 refine c_seq<|reg<|p_allA in49 S fun b1 w2 S3=>wp_nil<|c_seq<|reg<|p_mI rfl<|p_mI rfl ?_
 obtain ⟨r4,h5,H⟩:=bindS H
 refine p_cv (B_Range_ok h5) fu21 rfl S3 fun w6 S7=>p_stP (pre:=[]) (old:=[I 0,I 0]) (post:=[]) (vs:=[I r4.Low,I r4.High]) sz49 S7 (i:=0) rfl rfl rfl rfl (rfl:_=AG [I r4.Low,I r4.High]) rfl rfl rfl rfl fun w8 S9=>wp_nil ?_
 obtain rfl:=sJ H
 refine c_ret ?_; show bodyPostM (Fr none) 0 Tryd.prog Tryd.f30 _ .ret _ _
 refine ret_of (res1 rfl (rvA rfl ty49 sz49 (S9.atX (i:=0) rfl) rfl)) ?_
 exact ⟨_,rfl,rfl,S9.keep⟩
def ticket_Fits_r1 (r35:Ticket_book×Int) (a1:TicketBox) (x_1:Ticket_truth) (z_1:Bool):Option (Bool×Nat×Bool):=
 (ticket_book_fits r35.1 x_1 a1).bind fun r157=>
 bif r157 then (some (false,1,true))
 else (some (true,0,z_1))
def ticket_Fits_r2 (r35:Ticket_book×Int) (a1:TicketBox) (x_1:Ticket_truth) (z_1:Bool):Option (Bool×Nat×Bool):=
 (ticket_book_fits r35.1 x_1 a1).bind fun r277=>
 bif r277 then (some (false,1,true))
 else (some (true,0,z_1))
def ticket_Fits (a0:TicketBook) (a1:TicketBox):Option (Bool×Int):=
 (ticket_isBox a0 a1).bind fun r29=>
 (ticket_asked a0 r29).bind fun r35=>
 bif (r35.2 != 0) then (some (false,r35.2))
 else ((ticket_book_truths r35.1).bind fun r122=>
 (ticket_book_truths_1 (0,false) r35.1 (yvOf (ticket_Fits_r1 r35 a1))).bind fun r131=>
 bif (r131.1==0) then (some (false,0))
 else (some (r131.2,0)))
end Go.Proofs.YtafhljljfglfeaaDoor
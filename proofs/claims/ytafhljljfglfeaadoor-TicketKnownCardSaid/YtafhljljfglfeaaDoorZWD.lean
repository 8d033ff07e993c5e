/- What the functions of the program compute, and that they do, printed by a program of mine. -/
import Derived.Test.YtafhljljfglfeaaDoorZWC
import Derived.KernelRfl
set_option linter.unusedVariables false
set_option linter.unusedSimpArgs false
namespace Go.Proofs.YtafhljljfglfeaaDoor
open Go Go.Fx Go.Proofs
set_option maxRecDepth 100000 in
theorem ticket_Fits_ok {a0:TicketBook}{a1:TicketBox}{A1:Option Addr}{c2:Nat}{A4:Option Addr}{c5:Nat}{A7:Option Addr}{c8:Nat}{A10:Option Addr}{c11:Nat}{w:World}{r:Bool×Int} (H:ticket_Fits a0 a1=some r) (h3:(rd eTallyCount 7 A1 c2 a0.Tally.Counts).ok w) (h6:(rd eTicketSeason 2 A4 c5 a0.Tickets).ok w) (h9:(rd eTicketShow 3 A7 c8 a0.Shows).ok w) (h12:(rd eTicketBox 4 A10 c11 a0.Boxes).ok w) (hg13:(gW0).ok w) (hg14:(gW2).ok w):Calls Tryd.prog 35 #[AG (vB a0 A1 c2 A4 c5 A7 c8 A10 c11),AG [I a1.From,I a1.To,I a1.Pence,I a1.Lost]] w (RetV w (TU [B r.1,I r.2])):=by
 unfold ticket_Fits at H
 refine fn_of (n:=27) Tryd.func35 rfl rfl (lE rfl) ?_
 have S:=St.start w nF _ (cA h3 (cA h6 (cA h9 (cA h12 (cA hg13 (cA hg14 nM))))))
 refine c_seq<|reg<|p_boxA rfl S fun b15 w16 S17=>p_boxA rfl S17 fun b18 w19 S20=>p_all in4 rfl S20 fun b21 w22 S23=>p_all in39 rfl S23 fun b24 w25 S26=>wp_nil<|c_seq ?_
 obtain ⟨r29,h30,H⟩:=bindS H
 obtain ⟨r35,h36,H⟩:=bindS H
 refine reg_fl mixed 9 7 (by kernel_rfl) [rv (AG (vB a0 A1 c2 A4 c5 A7 c8 A10 c11)),rv (AG (vB a0 A1 c2 A4 c5 A7 c8 A10 c11)),rv (AG [I a1.From,I a1.To,I a1.Pence,I a1.Lost]),rv (B r29),rx (α:=(Option Addr)×Nat×(Option Addr)×Nat×(Option Addr)×Nat×(Option Addr)×Nat×(Option Nat)) (fun ⟨A39,c40,A41,c42,A43,c44,A45,c46,m47⟩=>TU [AG ((vB r35.1.TicketBook A39 c40 A41 c42 A43 c44 A45 c46)++(sg r35.1.shown_ 3++[Value.map m47])),I r35.2]) (fun ⟨A39,c40,A41,c42,A43,c44,A45,c46,m47⟩ lo hi=>BtwL lo hi [rd eTallyCount 7 A1 c2 a0.Tally.Counts,rd eTicketSeason 2 A4 c5 a0.Tickets,rd eTicketShow 3 A7 c8 a0.Shows,rd eTicketBox 4 A10 c11 a0.Boxes] (rd eTallyCount 7 A39 c40 r35.1.TicketBook.Tally.Counts)∧BtwL lo hi [rd eTallyCount 7 A1 c2 a0.Tally.Counts,rd eTicketSeason 2 A4 c5 a0.Tickets,rd eTicketShow 3 A7 c8 a0.Shows,rd eTicketBox 4 A10 c11 a0.Boxes] (rd eTicketSeason 2 A41 c42 r35.1.TicketBook.Tickets)∧BtwL lo hi [] (rd eTicketShow 3 A43 c44 r35.1.TicketBook.Shows)∧BtwL lo hi [] (rd eTicketBox 4 A45 c46 r35.1.TicketBook.Boxes)∧BtwL lo hi [] (mpo ekS iE m47 r35.1.by_)∧True) (fun ⟨A39,c40,A41,c42,A43,c44,A45,c46,m47⟩=>[rd eTallyCount 7 A39 c40 r35.1.TicketBook.Tally.Counts,rd eTicketSeason 2 A41 c42 r35.1.TicketBook.Tickets,rd eTicketShow 3 A43 c44 r35.1.TicketBook.Shows,rd eTicketBox 4 A45 c46 r35.1.TicketBook.Boxes,mpo ekS iE m47 r35.1.by_]),dv 14 some,dv 9 (exG 0),dv 9 (exG 1),rx (α:=Nat) (fun b70=>P b70 0) (fun b70 lo hi=>BtwL lo hi [] (bl b70 ([I 0,I 0,SL none 0 0,I 0,SL none 0 0,SL none 0 0,SL none 0 0]++(sg (List.replicate 3 0) 3++[Value.map none])) 92)∧True) (fun b70=>[bl b70 ([I 0,I 0,SL none 0 0,I 0,SL none 0 0,SL none 0 0,SL none 0 0]++(sg (List.replicate 3 0) 3++[Value.map none])) 92])] [[],[],[],[],[],[14],[9],[9],[]] rfl (by kernel_rfl) [[],[],[],[1,2],[0,1,2,3],[0,1,2,3,4],[0,1,2,3,4,5],[0,1,2,3,4,5],[],[0,1,2,3,4,5,6,8],[0,1,2,3,4,5,6,7,8,9]] (by kernel_rfl) ⟨?_,?_,?_,?_,?_,?_,?_,?_,?_,trivial⟩ ?_ ?_
 ·intro e_ w_ k_ hf_ hR_
  have S_:St w_ nF w_ [] [bl b24 [I 0] 39,bl b21 [B false] 4,bl b18 [I a1.From,I a1.To,I a1.Pence,I a1.Lost] 72,bl b15 (vB a0 A1 c2 A4 c5 A7 c8 A10 c11) 29,rd eTallyCount 7 A1 c2 a0.Tally.Counts,rd eTicketSeason 2 A4 c5 a0.Tickets,rd eTicketShow 3 A7 c8 a0.Shows,rd eTicketBox 4 A10 c11 a0.Boxes,gW0,gW2]:=S26.asP k_
  refine hopE [(2,P b15 0)] ⟨((hf_ 2 rfl).trans (rfl:_=P b15 0)),trivial⟩ ?_
  exact p_ldA ty29 sz29 (S_.atP (i:=3) rfl) rfl rfl<|wp_nil ⟨_,rfl,S_.keep,rfl⟩
 ·intro e_ w_ k_ hf_ hR_
  have S_:St w_ nF w_ [] [bl b24 [I 0] 39,bl b21 [B false] 4,bl b18 [I a1.From,I a1.To,I a1.Pence,I a1.Lost] 72,bl b15 (vB a0 A1 c2 A4 c5 A7 c8 A10 c11) 29,rd eTallyCount 7 A1 c2 a0.Tally.Counts,rd eTicketSeason 2 A4 c5 a0.Tickets,rd eTicketShow 3 A7 c8 a0.Shows,rd eTicketBox 4 A10 c11 a0.Boxes,gW0,gW2]:=S26.asP k_
  refine hopE [(2,P b15 0)] ⟨((hf_ 2 rfl).trans (rfl:_=P b15 0)),trivial⟩ ?_
  exact p_ldA ty29 sz29 (S_.atP (i:=3) rfl) rfl rfl<|wp_nil ⟨_,rfl,S_.keep,rfl⟩
 ·intro e_ w_ k_ hf_ hR_
  have S_:St w_ nF w_ [] [bl b24 [I 0] 39,bl b21 [B false] 4,bl b18 [I a1.From,I a1.To,I a1.Pence,I a1.Lost] 72,bl b15 (vB a0 A1 c2 A4 c5 A7 c8 A10 c11) 29,rd eTallyCount 7 A1 c2 a0.Tally.Counts,rd eTicketSeason 2 A4 c5 a0.Tickets,rd eTicketShow 3 A7 c8 a0.Shows,rd eTicketBox 4 A10 c11 a0.Boxes,gW0,gW2]:=S26.asP k_
  refine hopE [(3,P b18 0)] ⟨((hf_ 3 rfl).trans (rfl:_=P b18 0)),trivial⟩ ?_
  exact p_ldA ty72 sz72 (S_.atP (i:=2) rfl) rfl rfl<|wp_nil ⟨_,rfl,S_.keep,rfl⟩
 ·intro e_ w_ k_ hf_ hR_
  have S_:St w_ nF w_ [] [bl b24 [I 0] 39,bl b21 [B false] 4,bl b18 [I a1.From,I a1.To,I a1.Pence,I a1.Lost] 72,bl b15 (vB a0 A1 c2 A4 c5 A7 c8 A10 c11) 29,rd eTallyCount 7 A1 c2 a0.Tally.Counts,rd eTicketSeason 2 A4 c5 a0.Tickets,rd eTicketShow 3 A7 c8 a0.Shows,rd eTicketBox 4 A10 c11 a0.Boxes,gW0,gW2]:=S26.asP k_
  refine hopE [(11,AG (vB a0 A1 c2 A4 c5 A7 c8 A10 c11)),(12,AG [I a1.From,I a1.To,I a1.Pence,I a1.Lost])] ⟨rQ (hR_ 1 11 rfl (lE rfl) rfl),rQ (hR_ 2 12 rfl (lE rfl) rfl),trivial⟩ ?_
  refine p_cv (ticket_isBox_ok h30 (S_.atP (i:=4) rfl) (S_.atP (i:=5) rfl) (S_.atP (i:=6) rfl) (S_.atP (i:=7) rfl)) fu68 rfl S_ fun w31 S32=>wp_nil ?_
  exact ⟨_,rfl,S32.keep,rfl⟩
 ·intro e_ w_ k_ hf_ hR_
  have S_:St w_ nF w_ [] [bl b24 [I 0] 39,bl b21 [B false] 4,bl b18 [I a1.From,I a1.To,I a1.Pence,I a1.Lost] 72,bl b15 (vB a0 A1 c2 A4 c5 A7 c8 A10 c11) 29,rd eTallyCount 7 A1 c2 a0.Tally.Counts,rd eTicketSeason 2 A4 c5 a0.Tickets,rd eTicketShow 3 A7 c8 a0.Shows,rd eTicketBox 4 A10 c11 a0.Boxes,gW0,gW2]:=S26.asP k_
  refine hopE [(10,AG (vB a0 A1 c2 A4 c5 A7 c8 A10 c11)),(13,B r29)] ⟨rQ (hR_ 0 10 rfl (lE rfl) rfl),rQ (hR_ 3 13 rfl (lE rfl) rfl),trivial⟩ ?_
  refine p_cal (ticket_asked_ok h36 (S_.atP (i:=4) rfl) (S_.atP (i:=5) rfl) (S_.atP (i:=6) rfl) (S_.atP (i:=7) rfl) (S_.atP (i:=8) rfl) (S_.atP (i:=9) rfl)) fu58 rfl ?_
  rintro _ w37 ⟨A39,c40,A41,c42,A43,c44,A45,c46,m47,rfl,k38,⟨o48,n49⟩,⟨o50,n51⟩,⟨o52,n53⟩,⟨o54,n55⟩,⟨o56,n57⟩,_⟩
  have S58:=S_.callN k38 [rd eTallyCount 7 A39 c40 r35.1.TicketBook.Tally.Counts,rd eTicketSeason 2 A41 c42 r35.1.TicketBook.Tickets,rd eTicketShow 3 A43 c44 r35.1.TicketBook.Shows,rd eTicketBox 4 A45 c46 r35.1.TicketBook.Boxes,mpo ekS iE m47 r35.1.by_] (cA ⟨o48,Al.inL n49 ((cA (fp_mem (i:=4) rfl) (cA (fp_mem (i:=5) rfl) (cA (fp_mem (i:=6) rfl) (cA (fp_mem (i:=7) rfl) nM)))))⟩ (cA ⟨o50,Al.inL n51 ((cA (fp_mem (i:=4) rfl) (cA (fp_mem (i:=5) rfl) (cA (fp_mem (i:=6) rfl) (cA (fp_mem (i:=7) rfl) nM)))))⟩ (cA ⟨o52,New.inL n53⟩ (cA ⟨o54,New.inL n55⟩ (cA ⟨o56,New.inL n57⟩ nM)))))
  exact wp_nil ⟨_,rfl,S58.keep,⟨(A39,c40,A41,c42,A43,c44,A45,c46,m47),rfl,⟨bL n49 rfl (S58.atP (i:=0) rfl) rfl,bL n51 rfl (S58.atP (i:=1) rfl) rfl,bL (New.al (New.mono n53 S_.keep.size)) rfl (S58.atP (i:=2) rfl) rfl,bL (New.al (New.mono n55 S_.keep.size)) rfl (S58.atP (i:=3) rfl) rfl,bL (New.al (New.mono n57 S_.keep.size)) rfl (S58.atP (i:=4) rfl) rfl,trivial⟩,(cA (S58.atP (i:=0) rfl) (cA (S58.atP (i:=1) rfl) (cA (S58.atP (i:=2) rfl) (cA (S58.atP (i:=3) rfl) (cA (S58.atP (i:=4) rfl) nM)))))⟩⟩
 ·intro e_ w_ k_ hf_ hR_
  have S_:St w_ nF w_ [] [bl b24 [I 0] 39,bl b21 [B false] 4,bl b18 [I a1.From,I a1.To,I a1.Pence,I a1.Lost] 72,bl b15 (vB a0 A1 c2 A4 c5 A7 c8 A10 c11) 29,rd eTallyCount 7 A1 c2 a0.Tally.Counts,rd eTicketSeason 2 A4 c5 a0.Tickets,rd eTicketShow 3 A7 c8 a0.Shows,rd eTicketBox 4 A10 c11 a0.Boxes,gW0,gW2]:=S26.asP k_
  obtain ⟨_,_,_,_,⟨A39,c40,A41,c42,A43,c44,A45,c46,m47⟩,q59,p60,a61⟩:=hR_ 4 14 rfl (lE rfl) rfl
  replace q59:e_ 14=TU [AG ((vB r35.1.TicketBook A39 c40 A41 c42 A43 c44 A45 c46)++(sg r35.1.shown_ 3++[Value.map m47])),I r35.2]:=q59
  have S_:=St.addL' S_ (a61 _ (.head _)) (fun _ _ _ h_=>(nE h_))
  have S_:=St.addL' S_ (a61 _ (.tail _ (.head _))) (fun _ _ _ h_=>(nE h_))
  have S_:=St.addL' S_ (a61 _ (.tail _ (.tail _ (.head _)))) (fun _ _ _ h_=>(nE h_))
  have S_:=St.addL' S_ (a61 _ (.tail _ (.tail _ (.tail _ (.head _))))) (fun _ _ _ h_=>(nE h_))
  have S_:=St.addL' S_ (a61 _ (.tail _ (.tail _ (.tail _ (.tail _ (.head _)))))) (fun _ _ _ h_=>(nE h_))
  refine hopE [(14,TU [AG ((vB r35.1.TicketBook A39 c40 A41 c42 A43 c44 A45 c46)++(sg r35.1.shown_ 3++[Value.map m47])),I r35.2])] ⟨q59,trivial⟩ ?_
  refine p_mT rfl<|wp_nil ?_
  exact ⟨_,rfl,S_.keep,rfl⟩
 ·intro e_ w_ k_ hf_ hR_
  have S_:St w_ nF w_ [] [bl b24 [I 0] 39,bl b21 [B false] 4,bl b18 [I a1.From,I a1.To,I a1.Pence,I a1.Lost] 72,bl b15 (vB a0 A1 c2 A4 c5 A7 c8 A10 c11) 29,rd eTallyCount 7 A1 c2 a0.Tally.Counts,rd eTicketSeason 2 A4 c5 a0.Tickets,rd eTicketShow 3 A7 c8 a0.Shows,rd eTicketBox 4 A10 c11 a0.Boxes,gW0,gW2]:=S26.asP k_
  obtain ⟨_,_,_,_,⟨A39,c40,A41,c42,A43,c44,A45,c46,m47⟩,q63,p64,a65⟩:=hR_ 4 14 rfl (lE rfl) rfl
  replace q63:e_ 14=TU [AG ((vB r35.1.TicketBook A39 c40 A41 c42 A43 c44 A45 c46)++(sg r35.1.shown_ 3++[Value.map m47])),I r35.2]:=q63
  have S_:=St.addL' S_ (a65 _ (.head _)) (fun _ _ _ h_=>(nE h_))
  have S_:=St.addL' S_ (a65 _ (.tail _ (.head _))) (fun _ _ _ h_=>(nE h_))
  have S_:=St.addL' S_ (a65 _ (.tail _ (.tail _ (.head _)))) (fun _ _ _ h_=>(nE h_))
  have S_:=St.addL' S_ (a65 _ (.tail _ (.tail _ (.tail _ (.head _))))) (fun _ _ _ h_=>(nE h_))
  have S_:=St.addL' S_ (a65 _ (.tail _ (.tail _ (.tail _ (.tail _ (.head _)))))) (fun _ _ _ h_=>(nE h_))
  obtain ⟨_,_,_,_,q62⟩:=hR_ 5 9 rfl (lE rfl) rfl
  replace q62:e_ 9=TU [AG ((vB r35.1.TicketBook A39 c40 A41 c42 A43 c44 A45 c46)++(sg r35.1.shown_ 3++[Value.map m47])),I r35.2]:=(sJ ((congrArg some q63).symm.trans q62)).symm
  refine hopE [(9,TU [AG ((vB r35.1.TicketBook A39 c40 A41 c42 A43 c44 A45 c46)++(sg r35.1.shown_ 3++[Value.map m47])),I r35.2])] ⟨q62,trivial⟩ ?_
  refine p_ext rfl rfl<|wp_nil ?_
  exact ⟨_,rfl,S_.keep,rfl⟩
 ·intro e_ w_ k_ hf_ hR_
  have S_:St w_ nF w_ [] [bl b24 [I 0] 39,bl b21 [B false] 4,bl b18 [I a1.From,I a1.To,I a1.Pence,I a1.Lost] 72,bl b15 (vB a0 A1 c2 A4 c5 A7 c8 A10 c11) 29,rd eTallyCount 7 A1 c2 a0.Tally.Counts,rd eTicketSeason 2 A4 c5 a0.Tickets,rd eTicketShow 3 A7 c8 a0.Shows,rd eTicketBox 4 A10 c11 a0.Boxes,gW0,gW2]:=S26.asP k_
  obtain ⟨_,_,_,_,⟨A39,c40,A41,c42,A43,c44,A45,c46,m47⟩,q67,p68,a69⟩:=hR_ 4 14 rfl (lE rfl) rfl
  replace q67:e_ 14=TU [AG ((vB r35.1.TicketBook A39 c40 A41 c42 A43 c44 A45 c46)++(sg r35.1.shown_ 3++[Value.map m47])),I r35.2]:=q67
  have S_:=St.addL' S_ (a69 _ (.head _)) (fun _ _ _ h_=>(nE h_))
  have S_:=St.addL' S_ (a69 _ (.tail _ (.head _))) (fun _ _ _ h_=>(nE h_))
  have S_:=St.addL' S_ (a69 _ (.tail _ (.tail _ (.head _)))) (fun _ _ _ h_=>(nE h_))
  have S_:=St.addL' S_ (a69 _ (.tail _ (.tail _ (.tail _ (.head _))))) (fun _ _ _ h_=>(nE h_))
  have S_:=St.addL' S_ (a69 _ (.tail _ (.tail _ (.tail _ (.tail _ (.head _)))))) (fun _ _ _ h_=>(nE h_))
  obtain ⟨_,_,_,_,q66⟩:=hR_ 5 9 rfl (lE rfl) rfl
  replace q66:e_ 9=TU [AG ((vB r35.1.TicketBook A39 c40 A41 c42 A43 c44 A45 c46)++(sg r35.1.shown_ 3++[Value.map m47])),I r35.2]:=(sJ ((congrArg some q67).symm.trans q66)).symm
  refine hopE [(9,TU [AG ((vB r35.1.TicketBook A39 c40 A41 c42 A43 c44 A45 c46)++(sg r35.1.shown_ 3++[Value.map m47])),I r35.2])] ⟨q66,trivial⟩ ?_
  refine p_ext rfl rfl<|wp_nil ?_
  exact ⟨_,rfl,S_.keep,rfl⟩
 ·intro e_ w_ k_ hf_ hR_
  have S_:St w_ nF w_ [] [bl b24 [I 0] 39,bl b21 [B false] 4,bl b18 [I a1.From,I a1.To,I a1.Pence,I a1.Lost] 72,bl b15 (vB a0 A1 c2 A4 c5 A7 c8 A10 c11) 29,rd eTallyCount 7 A1 c2 a0.Tally.Counts,rd eTicketSeason 2 A4 c5 a0.Tickets,rd eTicketShow 3 A7 c8 a0.Shows,rd eTicketBox 4 A10 c11 a0.Boxes,gW0,gW2]:=S26.asP k_
  refine hopE [] trivial ?_
  refine p_allA in92 S_ fun b70 w71 S72=>wp_nil ?_
  exact ⟨_,rfl,S72.keep,⟨b70,rfl,⟨bL (New.al (S72.newX (i:=0) rfl)) rfl (S72.atX (i:=0) rfl) rfl,trivial⟩,(cA (S72.atX (i:=0) rfl) nM)⟩⟩
 ·intro e73 w74 lo75 hi76 k77 hf78 hR79 hd80
  have S81:=S26.call k77
  have q82:e73 10=AG (vB a0 A1 c2 A4 c5 A7 c8 A10 c11):=(hR79 0 10 (lE rfl) rfl).2.2.2
  have q83:e73 11=AG (vB a0 A1 c2 A4 c5 A7 c8 A10 c11):=(hR79 1 11 (lE rfl) rfl).2.2.2
  have q84:e73 12=AG [I a1.From,I a1.To,I a1.Pence,I a1.Lost]:=(hR79 2 12 (lE rfl) rfl).2.2.2
  have q85:e73 13=B r29:=(hR79 3 13 (lE rfl) rfl).2.2.2
  obtain ⟨h87,h88,h89,⟨A39,c40,A41,c42,A43,c44,A45,c46,m47⟩,q86,h90,h91⟩:=hR79 4 14 (lE rfl) rfl
  replace q86:e73 14=TU [AG ((vB r35.1.TicketBook A39 c40 A41 c42 A43 c44 A45 c46)++(sg r35.1.shown_ 3++[Value.map m47])),I r35.2]:=q86
  obtain ⟨p92,p93,p94,p95,p96,_⟩:=h90
  have S97:=St.addR S81 (h91 _ (.head _)) (oR p92 h87 S26 (mG [0,1,2,3] rfl))
  have S98:=St.addR S97 (h91 _ (.tail _ (.head _))) (oR p93 h87 S26 (mG [0,1,2,3] rfl))
  have S99:=St.addR S98 (h91 _ (.tail _ (.tail _ (.head _)))) (oR p94 h87 S26 (nM))
  have S100:=St.addR S99 (h91 _ (.tail _ (.tail _ (.tail _ (.head _))))) (oR p95 h87 S26 (nM))
  have S101:=St.addR S100 (h91 _ (.tail _ (.tail _ (.tail _ (.tail _ (.head _)))))) (oR p96 h87 S26 (nM))
  have q102:e73 9=TU [AG ((vB r35.1.TicketBook A39 c40 A41 c42 A43 c44 A45 c46)++(sg r35.1.shown_ 3++[Value.map m47])),I r35.2]:=(sJ ((congrArg some q86).symm.trans (hR79 5 9 (lE rfl) rfl).2.2.2)).symm
  have q103:e73 15=AG ((vB r35.1.TicketBook A39 c40 A41 c42 A43 c44 A45 c46)++(sg r35.1.shown_ 3++[Value.map m47])):=(sJ ((congrArg (exG 0) q102).symm.trans (hR79 6 15 (lE rfl) rfl).2.2.2)).symm
  have q104:e73 16=I r35.2:=(sJ ((congrArg (exG 1) q102).symm.trans (hR79 7 16 (lE rfl) rfl).2.2.2)).symm
  obtain ⟨h106,h107,h108,b70,q105,h109,h110⟩:=hR79 8 6 (lE rfl) rfl
  replace q105:e73 6=P b70 0:=q105
  obtain ⟨p111,_⟩:=h109
  have S113:=St.addO S101 (h110 _ (.head _)) (oN p111 h106 S26) (oX p111 h106 S26) (cA (oP p111 p96 h106 S26 (nM) (hd80 8 4 (lE rfl) (lE rfl) (by decide))) (cA (oP p111 p95 h106 S26 (nM) (hd80 8 4 (lE rfl) (lE rfl) (by decide))) (cA (oP p111 p94 h106 S26 (nM) (hd80 8 4 (lE rfl) (lE rfl) (by decide))) (cA (oP p111 p93 h106 S26 (mG [0,1,2,3] rfl) (hd80 8 4 (lE rfl) (lE rfl) (by decide))) (cA (oP p111 p92 h106 S26 (mG [0,1,2,3] rfl) (hd80 8 4 (lE rfl) (lE rfl) (by decide))) (oL p111 h106 S26))))))
  refine tailE [(3,P b18 0),(4,P b21 0),(5,P b24 0),(6,P b70 0),(15,AG ((vB r35.1.TicketBook A39 c40 A41 c42 A43 c44 A45 c46)++(sg r35.1.shown_ 3++[Value.map m47]))),(16,I r35.2)] ⟨((hf78 3 rfl).trans (rfl:_=P b18 0)),((hf78 4 rfl).trans (rfl:_=P b21 0)),((hf78 5 rfl).trans (rfl:_=P b24 0)),q105,q103,q104,trivial⟩ ?_
  intro g114
  refine p_stP (pre:=[]) (old:=[I 0,I 0,SL none 0 0,I 0,SL none 0 0,SL none 0 0,SL none 0 0]++(sg (List.replicate 3 0) 3++[Value.map none])) (post:=[]) (vs:=(vB r35.1.TicketBook A39 c40 A41 c42 A43 c44 A45 c46)++(sg r35.1.shown_ 3++[Value.map m47])) sz92 S113 (i:=0) rfl rfl rfl rfl (rfl:_=AG ((vB r35.1.TicketBook A39 c40 A41 c42 A43 c44 A45 c46)++(sg r35.1.shown_ 3++[Value.map m47]))) rfl rfl rfl rfl fun w115 S116=>?_
  refine p_aI rfl<|wp_nil<|c_seq<|c_seq<|reg<|p_mI rfl<|p_cmp rfl rfl rfl<|wp_nil ?_
  refine c_cond rfl (fun c117=>?_) (fun c117=>?_)
  ·replace H:=condT c117 H
   refine c_seq<|reg<|p_mI rfl<|p_st sz4 S116 (i:=2) rfl rfl (rfl:_=B false) rfl rfl fun w118 S119=>p_st sz39 S119 (i:=1) rfl rfl (rfl:_=I r35.2) rfl rfl fun w120 S121=>wp_nil ?_
   obtain rfl:=sJ H
   refine c_ret ?_; show bodyPostM (Fr none) 0 Tryd.prog Tryd.f35 _ .ret _ _
   refine ret_of (res2 rfl (rvC rfl ty4 (S121.atX (i:=2) rfl)) (rvC rfl ty39 (S121.atX (i:=1) rfl))) ?_
   exact ⟨_,rfl,rfl,S121.keep⟩
  ·replace H:=condF c117 H
   refine c_skip<|c_seq<|c_seq<|reg<|p_ldA ty92 sz92 (S116.atX (i:=0) rfl) rfl rfl ?_
   obtain ⟨r122,h123,H⟩:=bindS H
   refine p_cal (ticket_book_truths_ok h123 (S116.atP (i:=4) rfl) (S116.atP (i:=3) rfl) (S116.atP (i:=2) rfl) (S116.atP (i:=1) rfl) (S116.atP (i:=0) rfl) (S116.atP (i:=9) rfl) (S116.atP (i:=10) rfl)) fu69 rfl ?_
   rintro _ w124 ⟨b126,rfl,k125,⟨o127,n128⟩,_⟩
   have S129:=S116.addNew k125 o127 n128
   refine wp_nil<|c_block ?_
   have S130:=S129.fix (i:=0) rfl
   obtain ⟨r131,h132,H⟩:=bindS H
   have S133:=S130
   refine c_rangeG (α:=Bool) (β:=Unit) (ε:=Ticket_truth) (K:=[bl b126 ((vB r35.1.TicketBook A39 c40 A41 c42 A43 c44 A45 c46)++(sg r35.1.shown_ 3++[Value.map m47])) 92,rd eTallyCount 7 A39 c40 r35.1.TicketBook.Tally.Counts,rd eTicketSeason 2 A41 c42 r35.1.TicketBook.Tickets,rd eTicketShow 3 A43 c44 r35.1.TicketBook.Shows,rd eTicketBox 4 A45 c46 r35.1.TicketBook.Boxes,mpo ekS iE m47 r35.1.by_,gW0,gW2]) (MK:=Go.Fx.mark) (XR:=fun D134=>[]++[bx D134 (.deferred (some []))]) (it:=fun {σ} yv s_=>ticket_book_truths_1 s_ r35.1 yv) (enc:=yE0) (ticket_Fits_r1 r35 a1) [.ret] (fun z_1 y_1=>[bl b70 ((vB r35.1.TicketBook A39 c40 A41 c42 A43 c44 A45 c46)++(sg r35.1.shown_ 3++[Value.map m47])) 92,bl b24 [I 0] 39,bl b21 [B z_1] 4,bl b18 [I a1.From,I a1.To,I a1.Pence,I a1.Lost] 72,bl b15 (vB a0 A1 c2 A4 c5 A7 c8 A10 c11) 29]) false () h132 (ent_none (X0:=(fun z_1 y_1=>[bl b70 ((vB r35.1.TicketBook A39 c40 A41 c42 A43 c44 A45 c46)++(sg r35.1.shown_ 3++[Value.map m47])) 92,bl b24 [I 0] 39,bl b21 [B z_1] 4,bl b18 [I a1.From,I a1.To,I a1.Pence,I a1.Lost] 72,bl b15 (vB a0 A1 c2 A4 c5 A7 c8 A10 c11) 29]) false ()++[]) S133) rfl fu88 (fun w_ σ yv_ s_ s'_ l_ G_ A_ hH_ hG_ hk_ hd_ hy_=>(ticket_book_truths_1_ok hH_ hG_ (hk_ _ (mE (i:=0) rfl)) (hk_ _ (mE (i:=1) rfl)) (hk_ _ (mE (i:=2) rfl)) (hk_ _ (mE (i:=3) rfl)) (hk_ _ (mE (i:=4) rfl)) (hk_ _ (mE (i:=5) rfl)) (hk_ _ (mE (i:=6) rfl)) (hk_ _ (mE (i:=7) rfl)) hd_ hy_ (Link.refl _ _)).mono fun en_ w3_ ⟨u_,he_,A'_,hu_,hk2_,ho_,hf_⟩=>⟨u_,he_,hk2_,A'_,ho_,hf_⟩) (mG [0,5,4,3,2,1,10,11] rfl) (fun _=>rfl) (cA (.inl rfl) nM) ?_ ?_ ?_
   ·intro l135 oR136 oB137 Cr138 x_1 z_1 y_1 w139 b140 c141 z142 PP143 H S144 hlk145 ho146 hB147 hN148 hX149
    unfold ticket_Fits_r1 at H
    replace S144:St w139 Cr138 w139 [bx l135 oR136,bl b70 ((vB r35.1.TicketBook A39 c40 A41 c42 A43 c44 A45 c46)++(sg r35.1.shown_ 3++[Value.map m47])) 92,bl b24 [I 0] 39,bl b21 [B z_1] 4,bl b18 [I a1.From,I a1.To,I a1.Pence,I a1.Lost] 72,bl b15 (vB a0 A1 c2 A4 c5 A7 c8 A10 c11) 29] [bl b126 ((vB r35.1.TicketBook A39 c40 A41 c42 A43 c44 A45 c46)++(sg r35.1.shown_ 3++[Value.map m47])) 92,mpo ekS iE m47 r35.1.by_,rd eTicketBox 4 A45 c46 r35.1.TicketBook.Boxes,rd eTicketShow 3 A43 c44 r35.1.TicketBook.Shows,rd eTicketSeason 2 A41 c42 r35.1.TicketBook.Tickets,rd eTallyCount 7 A39 c40 r35.1.TicketBook.Tally.Counts,rd eTallyCount 7 A1 c2 a0.Tally.Counts,rd eTicketSeason 2 A4 c5 a0.Tickets,rd eTicketShow 3 A7 c8 a0.Shows,rd eTicketBox 4 A10 c11 a0.Boxes,gW0,gW2]:=S144
    refine reg<|p_allA in105 S144 fun b150 w151 S152=>p_stP (pre:=[]) (old:=sg (List.replicate 3 0) 3++sg (List.replicate 3 0) 3) (post:=[]) (vs:=sg x_1.crossed_ 3++sg x_1.used_ 3) sz105 S152 (i:=0) rfl rfl rfl rfl (rfl:_=AG (sg x_1.crossed_ 3++sg x_1.used_ 3)) rfl rfl rfl rfl fun w153 S154=>wp_nil ?_
    refine hB147 _ _ 1 _ S154 rfl fun w155 S156=>?_
    replace S156:St w139 Cr138 w155 [bl b150 (sg x_1.crossed_ 3++sg x_1.used_ 3) 105,bx l135 oB137,bl b70 ((vB r35.1.TicketBook A39 c40 A41 c42 A43 c44 A45 c46)++(sg r35.1.shown_ 3++[Value.map m47])) 92,bl b24 [I 0] 39,bl b21 [B z_1] 4,bl b18 [I a1.From,I a1.To,I a1.Pence,I a1.Lost] 72,bl b15 (vB a0 A1 c2 A4 c5 A7 c8 A10 c11) 29] [bl b126 ((vB r35.1.TicketBook A39 c40 A41 c42 A43 c44 A45 c46)++(sg r35.1.shown_ 3++[Value.map m47])) 92,mpo ekS iE m47 r35.1.by_,rd eTicketBox 4 A45 c46 r35.1.TicketBook.Boxes,rd eTicketShow 3 A43 c44 r35.1.TicketBook.Shows,rd eTicketSeason 2 A41 c42 r35.1.TicketBook.Tickets,rd eTallyCount 7 A39 c40 r35.1.TicketBook.Tally.Counts,rd eTallyCount 7 A1 c2 a0.Tally.Counts,rd eTicketSeason 2 A4 c5 a0.Tickets,rd eTicketShow 3 A7 c8 a0.Shows,rd eTicketBox 4 A10 c11 a0.Boxes,gW0,gW2]:=S156
    refine c_block<|c_seq<|reg<|p_ldA ty92 sz92 (S156.atX (i:=2) rfl) rfl rfl<|p_ldA ty105 sz105 (S156.atX (i:=0) rfl) rfl rfl<|p_ldA ty72 sz72 (S156.atX (i:=5) rfl) rfl rfl ?_
    obtain ⟨r157,h158,H⟩:=bindS H
    refine p_cv (ticket_book_fits_ok h158 (S156.atP (i:=5) rfl) (S156.atP (i:=4) rfl) (S156.atP (i:=3) rfl) (S156.atP (i:=2) rfl) (S156.atP (i:=1) rfl)) fu70 rfl S156 fun w159 S160=>wp_nil ?_
    refine c_cond rfl (fun c161=>?_) (fun c161=>?_)
    ·replace H:=condT c161 H
     refine c_seq<|reg<|p_st sz4 S160 (i:=4) rfl rfl (rfl:_=B true) rfl rfl fun w162 S163=>p_st sz39 S163 (i:=3) rfl rfl (rfl:_=I 0) rfl rfl fun w164 S165=>wp_nil ?_
     refine c_ret ?_
     have S166:=S165.pk [1,2,3,4,5,6] (by decide) [0,1,2,3,4,5,6,7,8,9,10,11] rfl rfl
     exact hX149 0 .ret _ _ true () rfl S166 (sJ H)
    ·replace H:=condF c161 H
     refine c_skip ?_
     have S166:=S160.pk [1,2,3,4,5,6] (by decide) [0,1,2,3,4,5,6,7,8,9,10,11] rfl rfl
     exact hN148 _ _ z_1 () S166 (sJ H)
   ·intro hc172
    intro l166 D167 o168 y169 w170 S171
    have S173:St w nF w170 [bl b70 ((vB r35.1.TicketBook A39 c40 A41 c42 A43 c44 A45 c46)++(sg r35.1.shown_ 3++[Value.map m47])) 92,bl b24 [I 0] 39,bl b21 [B r131.2] 4,bl b18 [I a1.From,I a1.To,I a1.Pence,I a1.Lost] 72,bl b15 (vB a0 A1 c2 A4 c5 A7 c8 A10 c11) 29,bx D167 (.deferred (some []))] [bl b126 ((vB r35.1.TicketBook A39 c40 A41 c42 A43 c44 A45 c46)++(sg r35.1.shown_ 3++[Value.map m47])) 92,mpo ekS iE m47 r35.1.by_,rd eTicketBox 4 A45 c46 r35.1.TicketBook.Boxes,rd eTicketShow 3 A43 c44 r35.1.TicketBook.Shows,rd eTicketSeason 2 A41 c42 r35.1.TicketBook.Tickets,rd eTallyCount 7 A39 c40 r35.1.TicketBook.Tally.Counts,rd eTallyCount 7 A1 c2 a0.Tally.Counts,rd eTicketSeason 2 A4 c5 a0.Tickets,rd eTicketShow 3 A7 c8 a0.Shows,rd eTicketBox 4 A10 c11 a0.Boxes,gW0,gW2]:=St.tail1 S171
    replace H:=condT (by rw [hc172]; rfl) H
    refine c_seq<|reg<|p_st sz4 S173 (i:=2) rfl rfl (rfl:_=B false) rfl rfl fun w174 S175=>p_st sz39 S175 (i:=1) rfl rfl (rfl:_=I 0) rfl rfl fun w176 S177=>wp_nil ?_
    refine c_ret ?_
    refine leave_mark S177 (i:=5) rfl fun w178 S179=>?_
    obtain rfl:=sJ H
    show bodyPostM (Fr none) 0 Tryd.prog Tryd.f35 _ .ret _ _
    refine ret_of (res2 rfl (rvC rfl ty4 (S179.atX (i:=2) rfl)) (rvC rfl ty39 (S179.atX (i:=1) rfl))) ?_
    exact ⟨_,rfl,rfl,S179.keep⟩
   ·intro k180 c181 hk182 hc183
    rcases k180 with _ | k180
    ·obtain rfl:=sJ hk182
     intro l184 D185 o186 y187 w188 S189
     have S191:St w nF w188 [bl b70 ((vB r35.1.TicketBook A39 c40 A41 c42 A43 c44 A45 c46)++(sg r35.1.shown_ 3++[Value.map m47])) 92,bl b24 [I 0] 39,bl b21 [B r131.2] 4,bl b18 [I a1.From,I a1.To,I a1.Pence,I a1.Lost] 72,bl b15 (vB a0 A1 c2 A4 c5 A7 c8 A10 c11) 29,bx D185 (.deferred (some []))] [bl b126 ((vB r35.1.TicketBook A39 c40 A41 c42 A43 c44 A45 c46)++(sg r35.1.shown_ 3++[Value.map m47])) 92,mpo ekS iE m47 r35.1.by_,rd eTicketBox 4 A45 c46 r35.1.TicketBook.Boxes,rd eTicketShow 3 A43 c44 r35.1.TicketBook.Shows,rd eTicketSeason 2 A41 c42 r35.1.TicketBook.Tickets,rd eTallyCount 7 A39 c40 r35.1.TicketBook.Tally.Counts,rd eTallyCount 7 A1 c2 a0.Tally.Counts,rd eTicketSeason 2 A4 c5 a0.Tickets,rd eTicketShow 3 A7 c8 a0.Shows,rd eTicketBox 4 A10 c11 a0.Boxes,gW0,gW2]:=St.tail1 S189
     replace H:=condF (by rw [hc183]; rfl) H
     refine c_ret ?_
     refine leave_mark S191 (i:=5) rfl fun w192 S193=>?_
     obtain rfl:=sJ H
     show bodyPostM (Fr none) 0 Tryd.prog Tryd.f35 _ .ret _ _
     refine ret_of (res2 rfl (rvC rfl ty4 (S193.atX (i:=2) rfl)) (rvC rfl ty39 (S193.atX (i:=1) rfl))) ?_
     exact ⟨_,rfl,rfl,S193.keep⟩
    ·cases hk182
 ·intro e194 w195 lo196 hi197 k198 hf199 hR200 hd201
  have S202:=S26.call k198
  have q203:e194 10=AG (vB a0 A1 c2 A4 c5 A7 c8 A10 c11):=(hR200 0 10 (lE rfl) (by decide) rfl).2.2.2
  have q204:e194 11=AG (vB a0 A1 c2 A4 c5 A7 c8 A10 c11):=(hR200 1 11 (lE rfl) (by decide) rfl).2.2.2
  have q205:e194 12=AG [I a1.From,I a1.To,I a1.Pence,I a1.Lost]:=(hR200 2 12 (lE rfl) (by decide) rfl).2.2.2
  have q206:e194 13=B r29:=(hR200 3 13 (lE rfl) (by decide) rfl).2.2.2
  obtain ⟨h208,h209,h210,⟨A39,c40,A41,c42,A43,c44,A45,c46,m47⟩,q207,h211,h212⟩:=hR200 4 14 (lE rfl) (by decide) rfl
  replace q207:e194 14=TU [AG ((vB r35.1.TicketBook A39 c40 A41 c42 A43 c44 A45 c46)++(sg r35.1.shown_ 3++[Value.map m47])),I r35.2]:=q207
  obtain ⟨p213,p214,p215,p216,p217,_⟩:=h211
  have S218:=St.addR S202 (h212 _ (.head _)) (oR p213 h208 S26 (mG [0,1,2,3] rfl))
  have S219:=St.addR S218 (h212 _ (.tail _ (.head _))) (oR p214 h208 S26 (mG [0,1,2,3] rfl))
  have S220:=St.addR S219 (h212 _ (.tail _ (.tail _ (.head _)))) (oR p215 h208 S26 (nM))
  have S221:=St.addR S220 (h212 _ (.tail _ (.tail _ (.tail _ (.head _))))) (oR p216 h208 S26 (nM))
  have S222:=St.addR S221 (h212 _ (.tail _ (.tail _ (.tail _ (.tail _ (.head _)))))) (oR p217 h208 S26 (nM))
  have q223:e194 9=TU [AG ((vB r35.1.TicketBook A39 c40 A41 c42 A43 c44 A45 c46)++(sg r35.1.shown_ 3++[Value.map m47])),I r35.2]:=(sJ ((congrArg some q207).symm.trans (hR200 5 9 (lE rfl) (by decide) rfl).2.2.2)).symm
  have q224:e194 15=AG ((vB r35.1.TicketBook A39 c40 A41 c42 A43 c44 A45 c46)++(sg r35.1.shown_ 3++[Value.map m47])):=(sJ ((congrArg (exG 0) q223).symm.trans (hR200 6 15 (lE rfl) (by decide) rfl).2.2.2)).symm
  obtain ⟨h226,h227,h228,b70,q225,h229,h230⟩:=hR200 8 6 (lE rfl) (by decide) rfl
  replace q225:e194 6=P b70 0:=q225
  obtain ⟨p231,_⟩:=h229
  have S233:=St.addO S222 (h230 _ (.head _)) (oN p231 h226 S26) (oX p231 h226 S26) (cA (oP p231 p217 h226 S26 (nM) (hd201 8 4 (lE rfl) (lE rfl) (by decide) (by decide) (by decide))) (cA (oP p231 p216 h226 S26 (nM) (hd201 8 4 (lE rfl) (lE rfl) (by decide) (by decide) (by decide))) (cA (oP p231 p215 h226 S26 (nM) (hd201 8 4 (lE rfl) (lE rfl) (by decide) (by decide) (by decide))) (cA (oP p231 p214 h226 S26 (mG [0,1,2,3] rfl) (hd201 8 4 (lE rfl) (lE rfl) (by decide) (by decide) (by decide))) (cA (oP p231 p213 h226 S26 (mG [0,1,2,3] rfl) (hd201 8 4 (lE rfl) (lE rfl) (by decide) (by decide) (by decide))) (oL p231 h226 S26))))))
  refine tailE [(3,P b18 0),(4,P b21 0),(5,P b24 0),(6,P b70 0),(9,TU [AG ((vB r35.1.TicketBook A39 c40 A41 c42 A43 c44 A45 c46)++(sg r35.1.shown_ 3++[Value.map m47])),I r35.2]),(15,AG ((vB r35.1.TicketBook A39 c40 A41 c42 A43 c44 A45 c46)++(sg r35.1.shown_ 3++[Value.map m47])))] ⟨((hf199 3 rfl).trans (rfl:_=P b18 0)),((hf199 4 rfl).trans (rfl:_=P b21 0)),((hf199 5 rfl).trans (rfl:_=P b24 0)),q225,q223,q224,trivial⟩ ?_
  intro g234
  refine p_stP (pre:=[]) (old:=[I 0,I 0,SL none 0 0,I 0,SL none 0 0,SL none 0 0,SL none 0 0]++(sg (List.replicate 3 0) 3++[Value.map none])) (post:=[]) (vs:=(vB r35.1.TicketBook A39 c40 A41 c42 A43 c44 A45 c46)++(sg r35.1.shown_ 3++[Value.map m47])) sz92 S233 (i:=0) rfl rfl rfl rfl (rfl:_=AG ((vB r35.1.TicketBook A39 c40 A41 c42 A43 c44 A45 c46)++(sg r35.1.shown_ 3++[Value.map m47]))) rfl rfl rfl rfl fun w235 S236=>?_
  refine p_ext rfl rfl<|p_aI rfl<|wp_nil<|c_seq<|c_seq<|reg<|p_mI rfl<|p_cmp rfl rfl rfl<|wp_nil ?_
  refine c_cond rfl (fun c237=>?_) (fun c237=>?_)
  ·replace H:=condT c237 H
   refine c_seq<|reg<|p_mI rfl<|p_st sz4 S236 (i:=2) rfl rfl (rfl:_=B false) rfl rfl fun w238 S239=>p_st sz39 S239 (i:=1) rfl rfl (rfl:_=I r35.2) rfl rfl fun w240 S241=>wp_nil ?_
   obtain rfl:=sJ H
   refine c_ret ?_; show bodyPostM (Fr none) 0 Tryd.prog Tryd.f35 _ .ret _ _
   refine ret_of (res2 rfl (rvC rfl ty4 (S241.atX (i:=2) rfl)) (rvC rfl ty39 (S241.atX (i:=1) rfl))) ?_
   exact ⟨_,rfl,rfl,S241.keep⟩
  ·replace H:=condF c237 H
   refine c_skip<|c_seq<|c_seq<|reg<|p_ldA ty92 sz92 (S236.atX (i:=0) rfl) rfl rfl ?_
   obtain ⟨r242,h243,H⟩:=bindS H
   refine p_cal (ticket_book_truths_ok h243 (S236.atP (i:=4) rfl) (S236.atP (i:=3) rfl) (S236.atP (i:=2) rfl) (S236.atP (i:=1) rfl) (S236.atP (i:=0) rfl) (S236.atP (i:=9) rfl) (S236.atP (i:=10) rfl)) fu69 rfl ?_
   rintro _ w244 ⟨b246,rfl,k245,⟨o247,n248⟩,_⟩
   have S249:=S236.addNew k245 o247 n248
   refine wp_nil<|c_block ?_
   have S250:=S249.fix (i:=0) rfl
   obtain ⟨r251,h252,H⟩:=bindS H
   have S253:=S250
   refine c_rangeG (α:=Bool) (β:=Unit) (ε:=Ticket_truth) (K:=[bl b246 ((vB r35.1.TicketBook A39 c40 A41 c42 A43 c44 A45 c46)++(sg r35.1.shown_ 3++[Value.map m47])) 92,rd eTallyCount 7 A39 c40 r35.1.TicketBook.Tally.Counts,rd eTicketSeason 2 A41 c42 r35.1.TicketBook.Tickets,rd eTicketShow 3 A43 c44 r35.1.TicketBook.Shows,rd eTicketBox 4 A45 c46 r35.1.TicketBook.Boxes,mpo ekS iE m47 r35.1.by_,gW0,gW2]) (MK:=Go.Fx.mark) (XR:=fun D254=>[]++[bx D254 (.deferred (some []))]) (it:=fun {σ} yv s_=>ticket_book_truths_1 s_ r35.1 yv) (enc:=yE0) (ticket_Fits_r2 r35 a1) [.ret] (fun z_1 y_1=>[bl b70 ((vB r35.1.TicketBook A39 c40 A41 c42 A43 c44 A45 c46)++(sg r35.1.shown_ 3++[Value.map m47])) 92,bl b24 [I 0] 39,bl b21 [B z_1] 4,bl b18 [I a1.From,I a1.To,I a1.Pence,I a1.Lost] 72,bl b15 (vB a0 A1 c2 A4 c5 A7 c8 A10 c11) 29]) false () h252 (ent_none (X0:=(fun z_1 y_1=>[bl b70 ((vB r35.1.TicketBook A39 c40 A41 c42 A43 c44 A45 c46)++(sg r35.1.shown_ 3++[Value.map m47])) 92,bl b24 [I 0] 39,bl b21 [B z_1] 4,bl b18 [I a1.From,I a1.To,I a1.Pence,I a1.Lost] 72,bl b15 (vB a0 A1 c2 A4 c5 A7 c8 A10 c11) 29]) false ()++[]) S253) rfl fu88 (fun w_ σ yv_ s_ s'_ l_ G_ A_ hH_ hG_ hk_ hd_ hy_=>(ticket_book_truths_1_ok hH_ hG_ (hk_ _ (mE (i:=0) rfl)) (hk_ _ (mE (i:=1) rfl)) (hk_ _ (mE (i:=2) rfl)) (hk_ _ (mE (i:=3) rfl)) (hk_ _ (mE (i:=4) rfl)) (hk_ _ (mE (i:=5) rfl)) (hk_ _ (mE (i:=6) rfl)) (hk_ _ (mE (i:=7) rfl)) hd_ hy_ (Link.refl _ _)).mono fun en_ w3_ ⟨u_,he_,A'_,hu_,hk2_,ho_,hf_⟩=>⟨u_,he_,hk2_,A'_,ho_,hf_⟩) (mG [0,5,4,3,2,1,10,11] rfl) (fun _=>rfl) (cA (.inl rfl) nM) ?_ ?_ ?_
   ·intro l255 oR256 oB257 Cr258 x_1 z_1 y_1 w259 b260 c261 z262 PP263 H S264 hlk265 ho266 hB267 hN268 hX269
    unfold ticket_Fits_r2 at H
    replace S264:St w259 Cr258 w259 [bx l255 oR256,bl b70 ((vB r35.1.TicketBook A39 c40 A41 c42 A43 c44 A45 c46)++(sg r35.1.shown_ 3++[Value.map m47])) 92,bl b24 [I 0] 39,bl b21 [B z_1] 4,bl b18 [I a1.From,I a1.To,I a1.Pence,I a1.Lost] 72,bl b15 (vB a0 A1 c2 A4 c5 A7 c8 A10 c11) 29] [bl b246 ((vB r35.1.TicketBook A39 c40 A41 c42 A43 c44 A45 c46)++(sg r35.1.shown_ 3++[Value.map m47])) 92,mpo ekS iE m47 r35.1.by_,rd eTicketBox 4 A45 c46 r35.1.TicketBook.Boxes,rd eTicketShow 3 A43 c44 r35.1.TicketBook.Shows,rd eTicketSeason 2 A41 c42 r35.1.TicketBook.Tickets,rd eTallyCount 7 A39 c40 r35.1.TicketBook.Tally.Counts,rd eTallyCount 7 A1 c2 a0.Tally.Counts,rd eTicketSeason 2 A4 c5 a0.Tickets,rd eTicketShow 3 A7 c8 a0.Shows,rd eTicketBox 4 A10 c11 a0.Boxes,gW0,gW2]:=S264
    refine reg<|p_allA in105 S264 fun b270 w271 S272=>p_stP (pre:=[]) (old:=sg (List.replicate 3 0) 3++sg (List.replicate 3 0) 3) (post:=[]) (vs:=sg x_1.crossed_ 3++sg x_1.used_ 3) sz105 S272 (i:=0) rfl rfl rfl rfl (rfl:_=AG (sg x_1.crossed_ 3++sg x_1.used_ 3)) rfl rfl rfl rfl fun w273 S274=>wp_nil ?_
    refine hB267 _ _ 1 _ S274 rfl fun w275 S276=>?_
    replace S276:St w259 Cr258 w275 [bl b270 (sg x_1.crossed_ 3++sg x_1.used_ 3) 105,bx l255 oB257,bl b70 ((vB r35.1.TicketBook A39 c40 A41 c42 A43 c44 A45 c46)++(sg r35.1.shown_ 3++[Value.map m47])) 92,bl b24 [I 0] 39,bl b21 [B z_1] 4,bl b18 [I a1.From,I a1.To,I a1.Pence,I a1.Lost] 72,bl b15 (vB a0 A1 c2 A4 c5 A7 c8 A10 c11) 29] [bl b246 ((vB r35.1.TicketBook A39 c40 A41 c42 A43 c44 A45 c46)++(sg r35.1.shown_ 3++[Value.map m47])) 92,mpo ekS iE m47 r35.1.by_,rd eTicketBox 4 A45 c46 r35.1.TicketBook.Boxes,rd eTicketShow 3 A43 c44 r35.1.TicketBook.Shows,rd eTicketSeason 2 A41 c42 r35.1.TicketBook.Tickets,rd eTallyCount 7 A39 c40 r35.1.TicketBook.Tally.Counts,rd eTallyCount 7 A1 c2 a0.Tally.Counts,rd eTicketSeason 2 A4 c5 a0.Tickets,rd eTicketShow 3 A7 c8 a0.Shows,rd eTicketBox 4 A10 c11 a0.Boxes,gW0,gW2]:=S276
    refine c_block<|c_seq<|reg<|p_ldA ty92 sz92 (S276.atX (i:=2) rfl) rfl rfl<|p_ldA ty105 sz105 (S276.atX (i:=0) rfl) rfl rfl<|p_ldA ty72 sz72 (S276.atX (i:=5) rfl) rfl rfl ?_
    obtain ⟨r277,h278,H⟩:=bindS H
    refine p_cv (ticket_book_fits_ok h278 (S276.atP (i:=5) rfl) (S276.atP (i:=4) rfl) (S276.atP (i:=3) rfl) (S276.atP (i:=2) rfl) (S276.atP (i:=1) rfl)) fu70 rfl S276 fun w279 S280=>wp_nil ?_
    refine c_cond rfl (fun c281=>?_) (fun c281=>?_)
    ·replace H:=condT c281 H
     refine c_seq<|reg<|p_st sz4 S280 (i:=4) rfl rfl (rfl:_=B true) rfl rfl fun w282 S283=>p_st sz39 S283 (i:=3) rfl rfl (rfl:_=I 0) rfl rfl fun w284 S285=>wp_nil ?_
     refine c_ret ?_
     have S286:=S285.pk [1,2,3,4,5,6] (by decide) [0,1,2,3,4,5,6,7,8,9,10,11] rfl rfl
     exact hX269 0 .ret _ _ true () rfl S286 (sJ H)
    ·replace H:=condF c281 H
     refine c_skip ?_
     have S286:=S280.pk [1,2,3,4,5,6] (by decide) [0,1,2,3,4,5,6,7,8,9,10,11] rfl rfl
     exact hN268 _ _ z_1 () S286 (sJ H)
   ·intro hc292
    intro l286 D287 o288 y289 w290 S291
    have S293:St w nF w290 [bl b70 ((vB r35.1.TicketBook A39 c40 A41 c42 A43 c44 A45 c46)++(sg r35.1.shown_ 3++[Value.map m47])) 92,bl b24 [I 0] 39,bl b21 [B r251.2] 4,bl b18 [I a1.From,I a1.To,I a1.Pence,I a1.Lost] 72,bl b15 (vB a0 A1 c2 A4 c5 A7 c8 A10 c11) 29,bx D287 (.deferred (some []))] [bl b246 ((vB r35.1.TicketBook A39 c40 A41 c42 A43 c44 A45 c46)++(sg r35.1.shown_ 3++[Value.map m47])) 92,mpo ekS iE m47 r35.1.by_,rd eTicketBox 4 A45 c46 r35.1.TicketBook.Boxes,rd eTicketShow 3 A43 c44 r35.1.TicketBook.Shows,rd eTicketSeason 2 A41 c42 r35.1.TicketBook.Tickets,rd eTallyCount 7 A39 c40 r35.1.TicketBook.Tally.Counts,rd eTallyCount 7 A1 c2 a0.Tally.Counts,rd eTicketSeason 2 A4 c5 a0.Tickets,rd eTicketShow 3 A7 c8 a0.Shows,rd eTicketBox 4 A10 c11 a0.Boxes,gW0,gW2]:=St.tail1 S291
    replace H:=condT (by rw [hc292]; rfl) H
    refine c_seq<|reg<|p_st sz4 S293 (i:=2) rfl rfl (rfl:_=B false) rfl rfl fun w294 S295=>p_st sz39 S295 (i:=1) rfl rfl (rfl:_=I 0) rfl rfl fun w296 S297=>wp_nil ?_
    refine c_ret ?_
    refine leave_mark S297 (i:=5) rfl fun w298 S299=>?_
    obtain rfl:=sJ H
    show bodyPostM (Fr none) 0 Tryd.prog Tryd.f35 _ .ret _ _
    refine ret_of (res2 rfl (rvC rfl ty4 (S299.atX (i:=2) rfl)) (rvC rfl ty39 (S299.atX (i:=1) rfl))) ?_
    exact ⟨_,rfl,rfl,S299.keep⟩
   ·intro k300 c301 hk302 hc303
    rcases k300 with _ | k300
    ·obtain rfl:=sJ hk302
     intro l304 D305 o306 y307 w308 S309
     have S311:St w nF w308 [bl b70 ((vB r35.1.TicketBook A39 c40 A41 c42 A43 c44 A45 c46)++(sg r35.1.shown_ 3++[Value.map m47])) 92,bl b24 [I 0] 39,bl b21 [B r251.2] 4,bl b18 [I a1.From,I a1.To,I a1.Pence,I a1.Lost] 72,bl b15 (vB a0 A1 c2 A4 c5 A7 c8 A10 c11) 29,bx D305 (.deferred (some []))] [bl b246 ((vB r35.1.TicketBook A39 c40 A41 c42 A43 c44 A45 c46)++(sg r35.1.shown_ 3++[Value.map m47])) 92,mpo ekS iE m47 r35.1.by_,rd eTicketBox 4 A45 c46 r35.1.TicketBook.Boxes,rd eTicketShow 3 A43 c44 r35.1.TicketBook.Shows,rd eTicketSeason 2 A41 c42 r35.1.TicketBook.Tickets,rd eTallyCount 7 A39 c40 r35.1.TicketBook.Tally.Counts,rd eTallyCount 7 A1 c2 a0.Tally.Counts,rd eTicketSeason 2 A4 c5 a0.Tickets,rd eTicketShow 3 A7 c8 a0.Shows,rd eTicketBox 4 A10 c11 a0.Boxes,gW0,gW2]:=St.tail1 S309
     replace H:=condF (by rw [hc303]; rfl) H
     refine c_ret ?_
     refine leave_mark S311 (i:=5) rfl fun w312 S313=>?_
     obtain rfl:=sJ H
     show bodyPostM (Fr none) 0 Tryd.prog Tryd.f35 _ .ret _ _
     refine ret_of (res2 rfl (rvC rfl ty4 (S313.atX (i:=2) rfl)) (rvC rfl ty39 (S313.atX (i:=1) rfl))) ?_
     exact ⟨_,rfl,rfl,S313.keep⟩
    ·cases hk302
def law_own:Option TicketBook:=
 some (TicketBook.mk (TallyBook.mk 2 5 [(TallyCount.mk 2 0 0 3 1 1 0),(TallyCount.mk 0 1 1 4 1 0 0)]) 2 [(TicketSeason.mk 0 1),(TicketSeason.mk 0 0),(TicketSeason.mk 1 1)] [(TicketShow.mk 0 0 3),(TicketShow.mk 1 0 4)] ([(TicketBox.mk 0 0 4 0)]:List TicketBox))
set_option maxRecDepth 100000 in
theorem law_own_ok {w:World}{r:TicketBook} (H:law_own=some r):Calls Tryd.prog 39 #[] w fun en w_=>∃ u_,en=.returned u_∧∃ A_1:Option Addr,∃ c_2:Nat,∃ A_3:Option Addr,∃ c_4:Nat,∃ A_5:Option Addr,∃ c_6:Nat,∃ A_7:Option Addr,∃ c_8:Nat,u_=AG (vB r A_1 c_2 A_3 c_4 A_5 c_6 A_7 c_8)∧Keep0 w w_∧((gr eTallyCount 7 81 A_1 c_2 r.Tally.Counts).ok w_∧New w.heap.size (gr eTallyCount 7 81 A_1 c_2 r.Tally.Counts))∧((gr eTicketSeason 2 65 A_3 c_4 r.Tickets).ok w_∧New w.heap.size (gr eTicketSeason 2 65 A_3 c_4 r.Tickets))∧((gr eTicketShow 3 67 A_5 c_6 r.Shows).ok w_∧New w.heap.size (gr eTicketShow 3 67 A_5 c_6 r.Shows))∧((gr eTicketBox 4 72 A_7 c_8 r.Boxes).ok w_∧New w.heap.size (gr eTicketBox 4 72 A_7 c_8 r.Boxes))∧Dj (gr eTallyCount 7 81 A_1 c_2 r.Tally.Counts) (gr eTicketSeason 2 65 A_3 c_4 r.Tickets)∧Dj (gr eTallyCount 7 81 A_1 c_2 r.Tally.Counts) (gr eTicketShow 3 67 A_5 c_6 r.Shows)∧Dj (gr eTallyCount 7 81 A_1 c_2 r.Tally.Counts) (gr eTicketBox 4 72 A_7 c_8 r.Boxes)∧Dj (gr eTicketSeason 2 65 A_3 c_4 r.Tickets) (gr eTicketShow 3 67 A_5 c_6 r.Shows)∧Dj (gr eTicketSeason 2 65 A_3 c_4 r.Tickets) (gr eTicketBox 4 72 A_7 c_8 r.Boxes)∧Dj (gr eTicketShow 3 67 A_5 c_6 r.Shows) (gr eTicketBox 4 72 A_7 c_8 r.Boxes)∧True:=by
 unfold law_own at H
 refine fn_of (n:=15) Tryd.func39 rfl rfl (lE rfl) ?_
 have S:=St.start w nF _ nM
 refine c_seq<|reg<|p_allA in29 S fun b1 w2 S3=>wp_nil<|c_seq<|reg<|p_bld (cs:=[I 2,I 0,I 0,I 3,I 1,I 1,I 0]) st81 (rfl:_=[(0,I 2),(1,I 0),(2,I 0),(3,I 3),(4,I 1),(5,I 1)]) (by kernel_rfl)<|p_bld (cs:=[I 0,I 1,I 1,I 4,I 1,I 0,I 0]) st81 (rfl:_=[(0,I 0),(1,I 1),(2,I 1),(3,I 4),(4,I 1)]) (by kernel_rfl) ?_
 refine p_bsl (enc:=eTallyCount) (l:=[(TallyCount.mk 2 0 0 3 1 1 0),(TallyCount.mk 0 1 1 4 1 0 0)]) (fun x=>AG (eTallyCount x)) (fun _=>rfl) sc22 in81 eTallyCount_len rfl (by decide) (by decide) zr81_2 S3 rfl fun A4 c5 w6 S7=>?_
 refine p_bld (cs:=[I 2,I 5,SL A4 [(TallyCount.mk 2 0 0 3 1 1 0),(TallyCount.mk 0 1 1 4 1 0 0)].length c5]) st24 (rfl:_=[(0,I 2),(1,I 5),(2,SL A4 [(TallyCount.mk 2 0 0 3 1 1 0),(TallyCount.mk 0 1 1 4 1 0 0)].length c5)]) (by kernel_rfl)<|p_bld (cs:=[I 0,I 1]) st65 (rfl:_=[(0,I 0),(1,I 1)]) (by kernel_rfl)<|p_bld (cs:=[I 0,I 0]) st65 (rfl:_=[(0,I 0),(1,I 0)]) (by kernel_rfl) ?_
 refine p_bld (cs:=[I 1,I 1]) st65 (rfl:_=[(0,I 1),(1,I 1)]) (by kernel_rfl)<|p_bsl (enc:=eTicketSeason) (l:=[(TicketSeason.mk 0 1),(TicketSeason.mk 0 0),(TicketSeason.mk 1 1)]) (fun x=>AG (eTicketSeason x)) (fun _=>rfl) sc25 in65 eTicketSeason_len rfl (by decide) (by decide) zr65_3 S7 rfl fun A9 c10 w11 S12=>?_
 refine p_bld (cs:=[I 0,I 0,I 3]) st67 (rfl:_=[(0,I 0),(1,I 0),(2,I 3)]) (by kernel_rfl)<|p_bld (cs:=[I 1,I 0,I 4]) st67 (rfl:_=[(0,I 1),(1,I 0),(2,I 4)]) (by kernel_rfl) ?_
 refine p_bsl (enc:=eTicketShow) (l:=[(TicketShow.mk 0 0 3),(TicketShow.mk 1 0 4)]) (fun x=>AG (eTicketShow x)) (fun _=>rfl) sc26 in67 eTicketShow_len rfl (by decide) (by decide) zr67_2 S12 rfl fun A14 c15 w16 S17=>p_bld (cs:=[I 0,I 0,I 4,I 0]) st72 (rfl:_=[(0,I 0),(1,I 0),(2,I 4)]) (by kernel_rfl) ?_
 refine p_bsl (enc:=eTicketBox) (l:=([(TicketBox.mk 0 0 4 0)]:List TicketBox)) (fun x=>AG (eTicketBox x)) (fun _=>rfl) sc27 in72 eTicketBox_len rfl (by decide) (by decide) zr72_1 S17 rfl fun A19 c20 w21 S22=>?_
 refine p_bld (cs:=[I 2,I 5,SL A4 [(TallyCount.mk 2 0 0 3 1 1 0),(TallyCount.mk 0 1 1 4 1 0 0)].length c5,I 2,SL A9 [(TicketSeason.mk 0 1),(TicketSeason.mk 0 0),(TicketSeason.mk 1 1)].length c10,SL A14 [(TicketShow.mk 0 0 3),(TicketShow.mk 1 0 4)].length c15,SL A19 ([(TicketBox.mk 0 0 4 0)]:List TicketBox).length c20]) st29 (rfl:_=[(0,AG [I 2,I 5,SL A4 [(TallyCount.mk 2 0 0 3 1 1 0),(TallyCount.mk 0 1 1 4 1 0 0)].length c5]),(1,I 2),(2,SL A9 [(TicketSeason.mk 0 1),(TicketSeason.mk 0 0),(TicketSeason.mk 1 1)].length c10),(3,SL A14 [(TicketShow.mk 0 0 3),(TicketShow.mk 1 0 4)].length c15),(4,SL A19 ([(TicketBox.mk 0 0 4 0)]:List TicketBox).length c20)]) (by kernel_rfl) ?_
 refine p_stP (pre:=[]) (old:=[I 0,I 0,SL none 0 0,I 0,SL none 0 0,SL none 0 0,SL none 0 0]) (post:=[]) (vs:=[I 2,I 5,SL A4 [(TallyCount.mk 2 0 0 3 1 1 0),(TallyCount.mk 0 1 1 4 1 0 0)].length c5,I 2,SL A9 [(TicketSeason.mk 0 1),(TicketSeason.mk 0 0),(TicketSeason.mk 1 1)].length c10,SL A14 [(TicketShow.mk 0 0 3),(TicketShow.mk 1 0 4)].length c15,SL A19 ([(TicketBox.mk 0 0 4 0)]:List TicketBox).length c20]) sz29 S22 (i:=4) rfl rfl rfl rfl (rfl:_=AG [I 2,I 5,SL A4 [(TallyCount.mk 2 0 0 3 1 1 0),(TallyCount.mk 0 1 1 4 1 0 0)].length c5,I 2,SL A9 [(TicketSeason.mk 0 1),(TicketSeason.mk 0 0),(TicketSeason.mk 1 1)].length c10,SL A14 [(TicketShow.mk 0 0 3),(TicketShow.mk 1 0 4)].length c15,SL A19 ([(TicketBox.mk 0 0 4 0)]:List TicketBox).length c20]) rfl rfl rfl rfl fun w24 S25=>?_
 refine wp_nil ?_
 obtain rfl:=sJ H
 refine c_ret ?_; show bodyPostM (Fr none) 0 Tryd.prog Tryd.f39 _ .ret _ _
 refine ret_of (res1 rfl (rvA rfl ty29 sz29 (S25.atX (i:=4) rfl) rfl)) ?_
 exact ⟨_,rfl,A4,c5,A9,c10,A14,c15,A19,c20,rfl,S25.keep,⟨S25.atX (i:=3) rfl,S25.newX (i:=3) rfl⟩,⟨S25.atX (i:=2) rfl,S25.newX (i:=2) rfl⟩,⟨S25.atX (i:=1) rfl,S25.newX (i:=1) rfl⟩,⟨S25.atX (i:=0) rfl,S25.newX (i:=0) rfl⟩,(S25.apXX (i:=3) (j:=2) rfl rfl (by decide)),(S25.apXX (i:=3) (j:=1) rfl rfl (by decide)),(S25.apXX (i:=3) (j:=0) rfl rfl (by decide)),(S25.apXX (i:=2) (j:=1) rfl rfl (by decide)),(S25.apXX (i:=2) (j:=0) rfl rfl (by decide)),(S25.apXX (i:=1) (j:=0) rfl rfl (by decide)),trivial⟩
def ticket_Lent_j41 (z_2:(List Int)×Int) (r61:TicketShow) (rec_z_2:((List Int)×Int)→Option ((List Int)×Int)) (z_3:Bool):Option ((List Int)×Int):=
 bif z_3 then (need (fitsL (z_2.1.length+([r61.Walker]:List Int).length) 8)<|
 rec_z_2 (z_2.1++([r61.Walker]:List Int),wr (z_2.2+1)))
 else (rec_z_2 (z_2.1,wr (z_2.2+1)))
def ticket_Lent_l42 (a0:TicketBook) (z_1:(List Int)×Int) (rec_z_1:((List Int)×Int)→Option ((List Int)×Int)) (rec_z_2:((List Int)×Int)→Option ((List Int)×Int)) (z_2:(List Int)×Int):Option ((List Int)×Int):=
 bif decide (z_2.2 < (a0.Shows.length:Int)) then ((getI a0.Shows z_2.2).bind fun r61=>
 bif (r61.Ticket==z_1.2) then ((sl_Contains_int_int z_2.1 r61.Walker).bind fun r69=>
 ticket_Lent_j41 z_2 r61 rec_z_2 (!r69))
 else (ticket_Lent_j41 z_2 r61 rec_z_2 false))
 else (bif decide ((z_2.1.length:Int) > 1) then (need (fitsL (z_1.1.length+([z_1.2]:List Int).length) 8)<|
 rec_z_1 (z_1.1++([z_1.2]:List Int),wr (z_1.2+1)))
 else (rec_z_1 (z_1.1,wr (z_1.2+1))))
def ticket_Lent_l43 (a0:TicketBook) (rec_z_1:((List Int)×Int)→Option ((List Int)×Int)) (z_1:(List Int)×Int):Option ((List Int)×Int):=
 bif decide (z_1.2 < (a0.Tickets.length:Int)) then (loopF (ticket_Lent_l42 a0 z_1 rec_z_1) big (([]:List Int),0))
 else (some (z_1.1,0))
def ticket_Lent (a0:TicketBook):Option ((List Int)×Int):=
 (ticket_asked a0 true).bind fun r18=>
 bif (r18.2 != 0) then (some (([]:List _),r18.2))
 else (loopF (ticket_Lent_l43 a0) big (([]:List Int),0))
set_option maxRecDepth 100000 in
theorem ticket_Lent_ok {a0:TicketBook}{A1:Option Addr}{c2:Nat}{A4:Option Addr}{c5:Nat}{A7:Option Addr}{c8:Nat}{A10:Option Addr}{c11:Nat}{w:World}{r:(List Int)×Int} (H:ticket_Lent a0=some r) (h3:(rd eTallyCount 7 A1 c2 a0.Tally.Counts).ok w) (h6:(rd eTicketSeason 2 A4 c5 a0.Tickets).ok w) (h9:(rd eTicketShow 3 A7 c8 a0.Shows).ok w) (h12:(rd eTicketBox 4 A10 c11 a0.Boxes).ok w) (hg13:(gW0).ok w) (hg14:(gW2).ok w):Calls Tryd.prog 40 #[AG (vB a0 A1 c2 A4 c5 A7 c8 A10 c11)] w fun en w_=>∃ u_,en=.returned u_∧∃ A_1:Option Addr,∃ c_2:Nat,u_=TU [SL A_1 r.1.length c_2,I r.2]∧Keep0 w w_∧((rd intE 1 A_1 c_2 r.1).ok w_∧New w.heap.size (rd intE 1 A_1 c_2 r.1))∧True:=by
 unfold ticket_Lent at H
 refine fn_of (n:=63) Tryd.func40 rfl rfl (lE rfl) ?_
 have S:=St.start w nF _ (cA h3 (cA h6 (cA h9 (cA h12 (cA hg13 (cA hg14 nM))))))
 refine c_seq<|reg<|p_boxA rfl S fun b15 w16 S17=>p_aS rfl<|p_aI rfl<|wp_nil<|c_seq<|c_seq<|reg<|p_ldA ty29 sz29 (S17.atX (i:=0) rfl) rfl rfl ?_
 obtain ⟨r18,h19,H⟩:=bindS H
 refine p_cal (ticket_asked_ok h19 (S17.atP (i:=0) rfl) (S17.atP (i:=1) rfl) (S17.atP (i:=2) rfl) (S17.atP (i:=3) rfl) (S17.atP (i:=4) rfl) (S17.atP (i:=5) rfl)) fu58 rfl ?_
 rintro _ w20 ⟨A22,c23,A24,c25,A26,c27,A28,c29,m30,rfl,k21,⟨o31,n32⟩,⟨o33,n34⟩,⟨o35,n36⟩,⟨o37,n38⟩,⟨o39,n40⟩,_⟩
 have S41:=S17.callN k21 [rd eTallyCount 7 A22 c23 r18.1.TicketBook.Tally.Counts,rd eTicketSeason 2 A24 c25 r18.1.TicketBook.Tickets,rd eTicketShow 3 A26 c27 r18.1.TicketBook.Shows,rd eTicketBox 4 A28 c29 r18.1.TicketBook.Boxes,mpo ekS iE m30 r18.1.by_] (cA ⟨o31,Al.inL n32 ((cA (fp_mem (i:=0) rfl) (cA (fp_mem (i:=1) rfl) (cA (fp_mem (i:=2) rfl) (cA (fp_mem (i:=3) rfl) nM)))))⟩ (cA ⟨o33,Al.inL n34 ((cA (fp_mem (i:=0) rfl) (cA (fp_mem (i:=1) rfl) (cA (fp_mem (i:=2) rfl) (cA (fp_mem (i:=3) rfl) nM)))))⟩ (cA ⟨o35,New.inL n36⟩ (cA ⟨o37,New.inL n38⟩ (cA ⟨o39,New.inL n40⟩ nM)))))
 refine p_mT rfl<|p_ext rfl rfl<|p_ext rfl rfl<|p_allA in92 S41 fun b42 w43 S44=>?_
 refine p_stP (pre:=[]) (old:=[I 0,I 0,SL none 0 0,I 0,SL none 0 0,SL none 0 0,SL none 0 0]++(sg (List.replicate 3 0) 3++[Value.map none])) (post:=[]) (vs:=(vB r18.1.TicketBook A22 c23 A24 c25 A26 c27 A28 c29)++(sg r18.1.shown_ 3++[Value.map m30])) sz92 S44 (i:=0) rfl rfl rfl rfl (rfl:_=AG ((vB r18.1.TicketBook A22 c23 A24 c25 A26 c27 A28 c29)++(sg r18.1.shown_ 3++[Value.map m30]))) rfl rfl rfl rfl fun w45 S46=>?_
 refine p_aI rfl<|wp_nil<|c_seq<|reg<|p_mI rfl<|p_cmp rfl rfl rfl<|wp_nil ?_
 refine c_cond rfl (fun c47=>?_) (fun c47=>?_)
 ·replace H:=condT c47 H
  refine c_seq<|reg<|p_mI rfl<|p_aS rfl<|p_aI rfl<|wp_nil ?_
  obtain rfl:=sJ H
  refine c_ret ?_; show bodyPostM (Fr none) 0 Tryd.prog Tryd.f40 _ .ret _ _
  refine ret_of (res2 rfl (rvT (rfl:_=SL none 0 0)) (rvT (rfl:_=I r18.2))) ?_
  exact ⟨_,rfl,none,0,rfl,S46.keep,⟨rd_nil (Nat.zero_le _),New.nil⟩,trivial⟩
 ·replace H:=condF c47 H
  refine c_skip<|c_seq<|reg<|p_aS rfl<|wp_nil<|c_seq<|c_seq<|reg<|p_fld fl29_2 rfl<|p_ld ty25 (S46.atX (i:=1) rfl) rfl rfl<|p_len rfl sc25<|p_mI rfl<|wp_nil<|c_block ?_
  have S48:=S46.nilRow intE 1 3
  have S49:=S48.pk [0,2] (by decide) [0,1,2,3,4,5,6,7,8,9,10] rfl rfl
  refine c_lop (α:=(List Int)×Int) (β:=(Option Addr)×Nat) (ticket_Lent_l43 a0) (fun z_1 y_1=>[(1,P b15 0),(6,SL y_1.1 z_1.1.length y_1.2),(21,I (a0.Tickets.length:Int)),(22,I z_1.2)]) (fun z_1 y_1 w_=>St w nF w_ [gr intE 1 3 y_1.1 y_1.2 z_1.1,bl b15 (vB a0 A1 c2 A4 c5 A7 c8 A10 c11) 29] [rd eTallyCount 7 A22 c23 r18.1.TicketBook.Tally.Counts,rd eTicketSeason 2 A24 c25 r18.1.TicketBook.Tickets,rd eTicketShow 3 A26 c27 r18.1.TicketBook.Shows,rd eTicketBox 4 A28 c29 r18.1.TicketBook.Boxes,mpo ekS iE m30 r18.1.by_,rd eTallyCount 7 A1 c2 a0.Tally.Counts,rd eTicketSeason 2 A4 c5 a0.Tickets,rd eTicketShow 3 A7 c8 a0.Shows,rd eTicketBox 4 A10 c11 a0.Boxes,gW0,gW2]) (([]:List Int),0) (none,0) H ⟨rfl,rfl,rfl,rfl,trivial⟩ S49 ?_
  intro m50 z_1 y_1 e51 w52 H S53
  unfold ticket_Lent_l43 at H
  refine c_seq<|reg<|p_cmp rfl rfl rfl<|wp_nil<|c_seq ?_
  refine c_cond rfl (fun c54=>?_) (fun c54=>?_)
  ·replace H:=condT c54 H
   refine c_skip<|c_seq<|c_block<|c_seq<|reg<|p_mI rfl<|p_aI rfl<|wp_nil<|c_seq<|reg<|p_aS rfl<|wp_nil<|c_seq<|c_seq<|reg<|p_fld fl29_3 rfl<|p_ld ty26 (S53.atX (i:=1) rfl) rfl rfl<|p_len rfl sc26<|p_mI rfl<|wp_nil<|c_block ?_
   have S55:=S53.nilRow intE 1 3
   refine c_lop (α:=(List Int)×Int) (β:=(Option Addr)×Nat) (ticket_Lent_l42 a0 z_1 (loopF (ticket_Lent_l43 a0) m50)) (fun z_2 y_2=>[(1,P b15 0),(6,SL y_1.1 z_1.1.length y_1.2),(7,I z_1.2),(8,SL y_2.1 z_2.1.length y_2.2),(21,I (a0.Tickets.length:Int)),(22,I z_1.2),(26,SL A7 a0.Shows.length c8),(27,I (a0.Shows.length:Int)),(28,I z_2.2)]) (fun z_2 y_2 w_=>St w nF w_ [gr intE 1 3 y_2.1 y_2.2 z_2.1,gr intE 1 3 y_1.1 y_1.2 z_1.1,bl b15 (vB a0 A1 c2 A4 c5 A7 c8 A10 c11) 29] [rd eTallyCount 7 A22 c23 r18.1.TicketBook.Tally.Counts,rd eTicketSeason 2 A24 c25 r18.1.TicketBook.Tickets,rd eTicketShow 3 A26 c27 r18.1.TicketBook.Shows,rd eTicketBox 4 A28 c29 r18.1.TicketBook.Boxes,mpo ekS iE m30 r18.1.by_,rd eTallyCount 7 A1 c2 a0.Tally.Counts,rd eTicketSeason 2 A4 c5 a0.Tickets,rd eTicketShow 3 A7 c8 a0.Shows,rd eTicketBox 4 A10 c11 a0.Boxes,gW0,gW2]) (([]:List Int),0) (none,0) H ⟨rfl,rfl,rfl,rfl,rfl,rfl,rfl,rfl,rfl,trivial⟩ S55 ?_
   intro m56 z_2 y_2 e57 w58 H S59
   unfold ticket_Lent_l42 at H
   refine c_seq<|reg<|p_cmp rfl rfl rfl<|wp_nil<|c_seq ?_
   refine c_cond rfl (fun c60=>?_) (fun c60=>?_)
   ·replace H:=condT c60 H
    refine c_skip<|c_seq<|c_block<|c_seq<|reg ?_
    obtain ⟨r61,h62,H⟩:=bindS H
    refine p_ixE sc26 h62 (S59.atP (i:=7) rfl).1 rfl rfl rfl<|p_ldEA ty67 sz67 rfl h62 (S59.atP (i:=7) rfl).1 rfl<|p_allA in67 S59 fun b63 w64 S65=>p_stP (pre:=[]) (old:=[I 0,I 0,I 0]) (post:=[]) (vs:=[I r61.Trip,I r61.Ticket,I r61.Walker]) sz67 S65 (i:=0) rfl rfl rfl rfl (rfl:_=AG [I r61.Trip,I r61.Ticket,I r61.Walker]) rfl rfl rfl rfl fun w66 S67=>wp_nil ?_
    refine c_join (α:=Bool) (β:=Unit) (fun z_3 y_3=>[(1,P b15 0),(6,SL y_1.1 z_1.1.length y_1.2),(7,I z_1.2),(8,SL y_2.1 z_2.1.length y_2.2),(10,P b63 0),(21,I (a0.Tickets.length:Int)),(22,I z_1.2),(26,SL A7 a0.Shows.length c8),(27,I (a0.Shows.length:Int)),(28,I z_2.2),(42,B z_3)]) (fun z_3 y_3 w_=>ticket_Lent_j41 z_2 r61 (loopF (ticket_Lent_l42 a0 z_1 (loopF (ticket_Lent_l43 a0) m50)) m56) z_3=some r∧St w nF w_ [bl b63 [I r61.Trip,I r61.Ticket,I r61.Walker] 67,gr intE 1 3 y_2.1 y_2.2 z_2.1,gr intE 1 3 y_1.1 y_1.2 z_1.1,bl b15 (vB a0 A1 c2 A4 c5 A7 c8 A10 c11) 29] [rd eTallyCount 7 A22 c23 r18.1.TicketBook.Tally.Counts,rd eTicketSeason 2 A24 c25 r18.1.TicketBook.Tickets,rd eTicketShow 3 A26 c27 r18.1.TicketBook.Shows,rd eTicketBox 4 A28 c29 r18.1.TicketBook.Boxes,mpo ekS iE m30 r18.1.by_,rd eTallyCount 7 A1 c2 a0.Tally.Counts,rd eTicketSeason 2 A4 c5 a0.Tickets,rd eTicketShow 3 A7 c8 a0.Shows,rd eTicketBox 4 A10 c11 a0.Boxes,gW0,gW2]) ?_ ?_
    ·refine reg<|p_fld fl67_1 rfl<|p_ld ty3 (S67.atX (i:=0) rfl) rfl rfl<|p_mI rfl<|p_cmp rfl rfl rfl<|p_mB rfl ?_
     rcases bE ((r61.Ticket==z_1.2)) with c68 | c68
     ·replace H:=condT c68 H
      refine eB c68 ?_
      refine gT rfl rfl (p_mS rfl ?_)
      refine gT rfl rfl (p_fld fl67_2 rfl ?_)
      refine gT rfl rfl (p_ld ty3 (S67.atX (i:=0) rfl) rfl rfl ?_)
      obtain ⟨r69,h70,H⟩:=bindS H
      refine gT rfl rfl (p_cv (sl_Contains_int_int_ok h70 (gr_rd intE_len (S67.atX (i:=1) rfl))) fu72 rfl S67 fun w71 S72=>?_)
      refine gT rfl rfl (p_not rfl ?_)
      exact p_pkT rfl (rfl:_=B (!r69))<|wp_nil ⟨!r69,(),_,rfl,⟨rfl,rfl,rfl,rfl,rfl,rfl,rfl,rfl,rfl,rfl,rfl,trivial⟩,H,S72⟩
     ·replace H:=condF c68 H
      refine eB c68<|gF rfl rfl<|gF rfl rfl<|gF rfl rfl<|gF rfl rfl<|gF rfl rfl<|p_pkF rfl (rfl:_=B false)<|wp_nil ?_
      exact ⟨false,(),_,rfl,⟨rfl,rfl,rfl,rfl,rfl,rfl,rfl,rfl,rfl,rfl,rfl,trivial⟩,H,S67⟩
    ·intro z_3 y_3 e68 w69 S70; obtain ⟨H,S70⟩:=S70
     unfold ticket_Lent_j41 at H
     refine c_cond rfl (fun c71=>?_) (fun c71=>?_)
     ·replace H:=condT c71 H
      refine reg<|p_mS rfl<|p_fld fl67_2 rfl<|p_ld ty3 (S70.atX (i:=0) rfl) rfl rfl<|p_bsl (enc:=intE) (l:=([r61.Walker]:List Int)) I (fun _=>rfl) sc30 in3 intE_len rfl (by decide) (by decide) zr3_1 S70 rfl fun A72 c73 w74 S75=>?_
      obtain ⟨h81,H⟩:=needS H
      refine p_app (enc:=intE) sc30 in3 rfl intE_len intE_one (by decide) S75 (k:=2) rfl (gr_sl intE_len (S75.atX (i:=0) rfl)) h81 (by simp) rfl rfl fun A79 c80 w77 S78=>p_aS rfl<|wp_nil<|reg<|p_add rfl rfl<|p_mI rfl<|wp_nil ?_
      have S82:=S78.pk [2,3,4] (by decide) [0,1,2,3,4,5,6,7,8,9,10] rfl rfl
      exact ⟨(z_2.1++([r61.Walker]:List Int),wr (z_2.2+1)),(A79,c80),_,rfl,⟨rfl,rfl,rfl,rfl,rfl,rfl,rfl,rfl,rfl,trivial⟩,H,S82⟩
     ·replace H:=condF c71 H
      refine c_skip<|reg<|p_add rfl rfl<|p_mI rfl<|wp_nil ?_
      have S83:=S70.pk [1,2,3] (by decide) [0,1,2,3,4,5,6,7,8,9,10] rfl rfl
      exact ⟨(z_2.1,wr (z_2.2+1)),(y_2.1,y_2.2),_,rfl,⟨rfl,rfl,rfl,rfl,rfl,rfl,rfl,rfl,rfl,trivial⟩,H,S83⟩
   ·replace H:=condF c60 H
    refine c_exit<|c_seq<|reg<|p_mS rfl<|p_len rfl sc30<|p_cmp rfl rfl rfl<|wp_nil ?_
    refine c_cond rfl (fun c73=>?_) (fun c73=>?_)
    ·replace H:=condT c73 H
     refine reg<|p_mS rfl<|p_mI rfl<|p_bsl (enc:=intE) (l:=([z_1.2]:List Int)) I (fun _=>rfl) sc30 in3 intE_len rfl (by decide) (by decide) zr3_1 S59 rfl fun A74 c75 w76 S77=>?_
     obtain ⟨h83,H⟩:=needS H
     refine p_app (enc:=intE) sc30 in3 rfl intE_len intE_one (by decide) S77 (k:=2) rfl (gr_sl intE_len (S77.atX (i:=0) rfl)) h83 (by simp) rfl rfl fun A81 c82 w79 S80=>p_aS rfl<|wp_nil<|reg<|p_add rfl rfl<|p_mI rfl<|wp_nil ?_
     have S84:=S80.pk [2,3] (by decide) [0,1,2,3,4,5,6,7,8,9,10] rfl rfl
     exact ⟨(z_1.1++([z_1.2]:List Int),wr (z_1.2+1)),(A81,c82),_,rfl,⟨rfl,rfl,rfl,rfl,trivial⟩,H,S84⟩
    ·replace H:=condF c73 H
     refine c_skip<|reg<|p_add rfl rfl<|p_mI rfl<|wp_nil ?_
     have S85:=S59.pk [1,2] (by decide) [0,1,2,3,4,5,6,7,8,9,10] rfl rfl
     exact ⟨(z_1.1,wr (z_1.2+1)),(y_1.1,y_1.2),_,rfl,⟨rfl,rfl,rfl,rfl,trivial⟩,H,S85⟩
  ·replace H:=condF c54 H
   refine c_exit<|c_seq<|reg<|p_mS rfl<|p_mS rfl<|p_len rfl sc30<|p_mS rfl<|p_len rfl sc30<|p_cut3 sc30 (gr_rd intE_len (S53.atX (i:=0) rfl)) rfl rfl rfl<|p_aS rfl<|p_aI rfl<|wp_nil ?_
   obtain rfl:=sJ H
   refine c_ret ?_; show bodyPostM (Fr none) 0 Tryd.prog Tryd.f40 _ .ret _ _
   refine ret_of (res2 rfl (rvT (rfl:_=SL y_1.1 z_1.1.length z_1.1.length)) (rvT (rfl:_=I 0))) ?_
   exact ⟨_,rfl,y_1.1,z_1.1.length,rfl,S53.keep,⟨(rd_full (gr_rd intE_len (S53.atX (i:=0) rfl))),(New.rdc (S53.newX (i:=0) rfl))⟩,trivial⟩
def law_double:Option TicketBook:=
 (law_own).bind fun r4=>
 need (fitsL (r4.Shows.length+([(TicketShow.mk 0 0 7)]:List TicketShow).length) 24)<|
 some (TicketBook.mk r4.Tally r4.Fare r4.Tickets (r4.Shows++([(TicketShow.mk 0 0 7)]:List TicketShow)) r4.Boxes)
set_option maxRecDepth 100000 in
theorem law_double_ok {w:World}{r:TicketBook} (H:law_double=some r):Calls Tryd.prog 41 #[] w fun en w_=>∃ u_,en=.returned u_∧∃ A_1:Option Addr,∃ c_2:Nat,∃ A_3:Option Addr,∃ c_4:Nat,∃ A_5:Option Addr,∃ c_6:Nat,∃ A_7:Option Addr,∃ c_8:Nat,u_=AG (vB r A_1 c_2 A_3 c_4 A_5 c_6 A_7 c_8)∧Keep0 w w_∧((gr eTallyCount 7 81 A_1 c_2 r.Tally.Counts).ok w_∧New w.heap.size (gr eTallyCount 7 81 A_1 c_2 r.Tally.Counts))∧((gr eTicketSeason 2 65 A_3 c_4 r.Tickets).ok w_∧New w.heap.size (gr eTicketSeason 2 65 A_3 c_4 r.Tickets))∧((gr eTicketShow 3 67 A_5 c_6 r.Shows).ok w_∧New w.heap.size (gr eTicketShow 3 67 A_5 c_6 r.Shows))∧((gr eTicketBox 4 72 A_7 c_8 r.Boxes).ok w_∧New w.heap.size (gr eTicketBox 4 72 A_7 c_8 r.Boxes))∧Dj (gr eTallyCount 7 81 A_1 c_2 r.Tally.Counts) (gr eTicketSeason 2 65 A_3 c_4 r.Tickets)∧Dj (gr eTallyCount 7 81 A_1 c_2 r.Tally.Counts) (gr eTicketShow 3 67 A_5 c_6 r.Shows)∧Dj (gr eTallyCount 7 81 A_1 c_2 r.Tally.Counts) (gr eTicketBox 4 72 A_7 c_8 r.Boxes)∧Dj (gr eTicketSeason 2 65 A_3 c_4 r.Tickets) (gr eTicketShow 3 67 A_5 c_6 r.Shows)∧Dj (gr eTicketSeason 2 65 A_3 c_4 r.Tickets) (gr eTicketBox 4 72 A_7 c_8 r.Boxes)∧Dj (gr eTicketShow 3 67 A_5 c_6 r.Shows) (gr eTicketBox 4 72 A_7 c_8 r.Boxes)∧True:=by
 unfold law_double at H
 refine fn_of (n:=10) Tryd.func41 rfl rfl (lE rfl) ?_
 have S:=St.start w nF _ nM
 refine c_seq<|reg<|p_allA in29 S fun b1 w2 S3=>wp_nil<|c_seq<|reg ?_
 obtain ⟨r4,h5,H⟩:=bindS H
 refine p_cal (law_own_ok h5) fu39 rfl ?_
 rintro _ w6 ⟨A8,c9,A10,c11,A12,c13,A14,c15,rfl,k7,⟨o16,n17⟩,⟨o18,n19⟩,⟨o20,n21⟩,⟨o22,n23⟩,j24,j25,j26,j27,j28,j29,_⟩
 have S34:=S3.callMo k7 [gr eTallyCount 7 81 A8 c9 r4.Tally.Counts,gr eTicketSeason 2 65 A10 c11 r4.Tickets,gr eTicketShow 3 67 A12 c13 r4.Shows,gr eTicketBox 4 72 A14 c15 r4.Boxes] [] (cA ⟨o16,n17⟩ (cA ⟨o18,n19⟩ (cA ⟨o20,n21⟩ (cA ⟨o22,n23⟩ nM)))) (pC (cA j24 (cA j25 (cA j26 nM))) (pC (cA j27 (cA j28 nM)) (pC (cA j29 nM) (pC nM List.Pairwise.nil)))) nM (cA nM (cA nM (cA nM (cA nM nM))))
 refine p_allA in29 S34 fun b35 w36 S37=>?_
 refine p_stP (pre:=[]) (old:=[I 0,I 0,SL none 0 0,I 0,SL none 0 0,SL none 0 0,SL none 0 0]) (post:=[]) (vs:=(vB r4 A8 c9 A10 c11 A12 c13 A14 c15)) sz29 S37 (i:=0) rfl rfl rfl rfl (rfl:_=AG (vB r4 A8 c9 A10 c11 A12 c13 A14 c15)) rfl rfl rfl rfl fun w38 S39=>?_
 refine wp_nil<|c_seq<|reg<|p_fld fl29_3 rfl<|p_ld ty26 (S39.atX (i:=0) rfl) rfl rfl<|p_bld (cs:=[I 0,I 0,I 7]) st67 (rfl:_=[(0,I 0),(1,I 0),(2,I 7)]) (by kernel_rfl)<|p_bsl (enc:=eTicketShow) (l:=([(TicketShow.mk 0 0 7)]:List TicketShow)) (fun x=>AG (eTicketShow x)) (fun _=>rfl) sc26 in67 eTicketShow_len rfl (by decide) (by decide) zr67_1 S39 rfl fun A40 c41 w42 S43=>?_
 obtain ⟨h49,H⟩:=needS H
 refine p_app (enc:=eTicketShow) sc26 in67 rfl eTicketShow_len eTicketShow_one (by decide) S43 (k:=4) rfl (gr_sl eTicketShow_len (S43.atX (i:=0) rfl)) h49 (by simp) rfl rfl fun A47 c48 w45 S46=>p_fld fl29_3 rfl ?_
 refine p_stP (pre:=[I r4.Tally.Trips,I r4.Tally.Room,SL A8 r4.Tally.Counts.length c9,I r4.Fare,SL A10 r4.Tickets.length c11]) (old:=[SL A12 r4.Shows.length c13]) (post:=[SL A14 r4.Boxes.length c15]) (vs:=[SL A47 (r4.Shows++([(TicketShow.mk 0 0 7)]:List TicketShow)).length c48]) sz26 S46 (i:=1) rfl rfl rfl rfl (rfl:_=SL A47 (r4.Shows++([(TicketShow.mk 0 0 7)]:List TicketShow)).length c48) rfl rfl rfl rfl fun w50 S51=>?_
 refine wp_nil<|c_seq<|reg<|p_ldA ty29 sz29 (S51.atX (i:=1) rfl) rfl rfl ?_
 refine p_stP (pre:=[]) (old:=[I 0,I 0,SL none 0 0,I 0,SL none 0 0,SL none 0 0,SL none 0 0]) (post:=[]) (vs:=[I r4.Tally.Trips,I r4.Tally.Room,SL A8 r4.Tally.Counts.length c9,I r4.Fare,SL A10 r4.Tickets.length c11,SL A47 (r4.Shows++([(TicketShow.mk 0 0 7)]:List TicketShow)).length c48,SL A14 r4.Boxes.length c15]) sz29 S51 (i:=6) rfl rfl rfl rfl (rfl:_=AG [I r4.Tally.Trips,I r4.Tally.Room,SL A8 r4.Tally.Counts.length c9,I r4.Fare,SL A10 r4.Tickets.length c11,SL A47 (r4.Shows++([(TicketShow.mk 0 0 7)]:List TicketShow)).length c48,SL A14 r4.Boxes.length c15]) rfl rfl rfl rfl fun w52 S53=>?_
 refine wp_nil ?_
 obtain rfl:=sJ H
 refine c_ret ?_; show bodyPostM (Fr none) 0 Tryd.prog Tryd.f41 _ .ret _ _
 refine ret_of (res1 rfl (rvA rfl ty29 sz29 (S53.atX (i:=6) rfl) rfl)) ?_
 exact ⟨_,rfl,A8,c9,A10,c11,A47,c48,A14,c15,rfl,S53.keep,⟨S53.atX (i:=2) rfl,S53.newX (i:=2) rfl⟩,⟨S53.atX (i:=3) rfl,S53.newX (i:=3) rfl⟩,⟨S53.atX (i:=4) rfl,S53.newX (i:=4) rfl⟩,⟨S53.atX (i:=5) rfl,S53.newX (i:=5) rfl⟩,(S53.apXX (i:=2) (j:=3) rfl rfl (by decide)),(S53.apXX (i:=2) (j:=4) rfl rfl (by decide)),(S53.apXX (i:=2) (j:=5) rfl rfl (by decide)),(S53.apXX (i:=3) (j:=4) rfl rfl (by decide)),(S53.apXX (i:=3) (j:=5) rfl rfl (by decide)),(S53.apXX (i:=4) (j:=5) rfl rfl (by decide)),trivial⟩
def law_robbed:Option TicketBook:=
 (law_own).bind fun r4=>
 (getI r4.Boxes 0).bind fun r40=>
 some (TicketBook.mk r4.Tally r4.Fare r4.Tickets r4.Shows (r4.Boxes.set (0:Int).toNat (TicketBox.mk r40.From r40.To 10 r40.Lost)))
set_option maxRecDepth 100000 in
theorem law_robbed_ok {w:World}{r:TicketBook} (H:law_robbed=some r):Calls Tryd.prog 42 #[] w fun en w_=>∃ u_,en=.returned u_∧∃ A_1:Option Addr,∃ c_2:Nat,∃ A_3:Option Addr,∃ c_4:Nat,∃ A_5:Option Addr,∃ c_6:Nat,∃ A_7:Option Addr,∃ c_8:Nat,u_=AG [I r.Tally.Trips,I r.Tally.Room,SL A_1 r.Tally.Counts.length c_2,I r.Fare,SL A_3 r.Tickets.length c_4,SL A_5 r.Shows.length c_6,SL A_7 r.Boxes.length c_8]∧Keep0 w w_∧((gr eTallyCount 7 81 A_1 c_2 r.Tally.Counts).ok w_∧New w.heap.size (gr eTallyCount 7 81 A_1 c_2 r.Tally.Counts))∧((gr eTicketSeason 2 65 A_3 c_4 r.Tickets).ok w_∧New w.heap.size (gr eTicketSeason 2 65 A_3 c_4 r.Tickets))∧((gr eTicketShow 3 67 A_5 c_6 r.Shows).ok w_∧New w.heap.size (gr eTicketShow 3 67 A_5 c_6 r.Shows))∧((gr eTicketBox 4 72 A_7 c_8 r.Boxes).ok w_∧New w.heap.size (gr eTicketBox 4 72 A_7 c_8 r.Boxes))∧Dj (gr eTallyCount 7 81 A_1 c_2 r.Tally.Counts) (gr eTicketSeason 2 65 A_3 c_4 r.Tickets)∧Dj (gr eTallyCount 7 81 A_1 c_2 r.Tally.Counts) (gr eTicketShow 3 67 A_5 c_6 r.Shows)∧Dj (gr eTallyCount 7 81 A_1 c_2 r.Tally.Counts) (gr eTicketBox 4 72 A_7 c_8 r.Boxes)∧Dj (gr eTicketSeason 2 65 A_3 c_4 r.Tickets) (gr eTicketShow 3 67 A_5 c_6 r.Shows)∧Dj (gr eTicketSeason 2 65 A_3 c_4 r.Tickets) (gr eTicketBox 4 72 A_7 c_8 r.Boxes)∧Dj (gr eTicketShow 3 67 A_5 c_6 r.Shows) (gr eTicketBox 4 72 A_7 c_8 r.Boxes)∧True:=by
 unfold law_robbed at H
 refine fn_of (n:=8) Tryd.func42 rfl rfl (lE rfl) ?_
 have S:=St.start w nF _ nM
 refine c_seq<|reg<|p_allA in29 S fun b1 w2 S3=>wp_nil<|c_seq<|reg ?_
 obtain ⟨r4,h5,H⟩:=bindS H
 refine p_cal (law_own_ok h5) fu39 rfl ?_
 rintro _ w6 ⟨A8,c9,A10,c11,A12,c13,A14,c15,rfl,k7,⟨o16,n17⟩,⟨o18,n19⟩,⟨o20,n21⟩,⟨o22,n23⟩,j24,j25,j26,j27,j28,j29,_⟩
 have S34:=S3.callMo k7 [gr eTallyCount 7 81 A8 c9 r4.Tally.Counts,gr eTicketSeason 2 65 A10 c11 r4.Tickets,gr eTicketShow 3 67 A12 c13 r4.Shows,gr eTicketBox 4 72 A14 c15 r4.Boxes] [] (cA ⟨o16,n17⟩ (cA ⟨o18,n19⟩ (cA ⟨o20,n21⟩ (cA ⟨o22,n23⟩ nM)))) (pC (cA j24 (cA j25 (cA j26 nM))) (pC (cA j27 (cA j28 nM)) (pC (cA j29 nM) (pC nM List.Pairwise.nil)))) nM (cA nM (cA nM (cA nM (cA nM nM))))
 refine p_allA in29 S34 fun b35 w36 S37=>?_
 refine p_stP (pre:=[]) (old:=[I 0,I 0,SL none 0 0,I 0,SL none 0 0,SL none 0 0,SL none 0 0]) (post:=[]) (vs:=[I r4.Tally.Trips,I r4.Tally.Room,SL A8 r4.Tally.Counts.length c9,I r4.Fare,SL A10 r4.Tickets.length c11,SL A12 r4.Shows.length c13,SL A14 r4.Boxes.length c15]) sz29 S37 (i:=0) rfl rfl rfl rfl (rfl:_=AG [I r4.Tally.Trips,I r4.Tally.Room,SL A8 r4.Tally.Counts.length c9,I r4.Fare,SL A10 r4.Tickets.length c11,SL A12 r4.Shows.length c13,SL A14 r4.Boxes.length c15]) rfl rfl rfl rfl fun w38 S39=>?_
 refine wp_nil<|c_seq<|reg<|p_fld fl29_4 rfl<|p_ld ty27 (S39.atX (i:=0) rfl) rfl rfl ?_
 obtain ⟨r40,h41,H⟩:=bindS H
 refine p_ixE sc27 h41 (gr_sl eTicketBox_len (S39.atX (i:=4) rfl)) rfl rfl rfl<|p_fldE fl72_2 (sl_here (gr_sl eTicketBox_len (S39.atX (i:=4) rfl)) h41) rfl ?_
 refine p_stE (x' :=(TicketBox.mk r40.From r40.To 10 r40.Lost)) (a:=[I r40.From,I r40.To]) (old:=[I r40.Pence]) (b:=[I r40.Lost]) (vs:=[I 10]) sz3 eTicketBox_len eTicketBox_one S39 (i:=4) rfl h41 rfl (rfl:_=I 10) rfl rfl rfl rfl rfl rfl fun l44 w45 h42 h43 S46=>?_
 obtain rfl:l44=(r4.Boxes.set (0:Int).toNat (TicketBox.mk r40.From r40.To 10 r40.Lost)):=h42
 try rw [← h43]
 try rw [← h43] at S46
 refine wp_nil<|c_seq<|reg<|p_ldA ty29 sz29 (S46.atX (i:=0) rfl) rfl rfl ?_
 refine p_stP (pre:=[]) (old:=[I 0,I 0,SL none 0 0,I 0,SL none 0 0,SL none 0 0,SL none 0 0]) (post:=[]) (vs:=[I r4.Tally.Trips,I r4.Tally.Room,SL A8 r4.Tally.Counts.length c9,I r4.Fare,SL A10 r4.Tickets.length c11,SL A12 r4.Shows.length c13,SL A14 (r4.Boxes.set (0:Int).toNat (TicketBox.mk r40.From r40.To 10 r40.Lost)).length c15]) sz29 S46 (i:=5) rfl rfl rfl rfl (rfl:_=AG [I r4.Tally.Trips,I r4.Tally.Room,SL A8 r4.Tally.Counts.length c9,I r4.Fare,SL A10 r4.Tickets.length c11,SL A12 r4.Shows.length c13,SL A14 (r4.Boxes.set (0:Int).toNat (TicketBox.mk r40.From r40.To 10 r40.Lost)).length c15]) rfl rfl rfl rfl fun w47 S48=>?_
 refine wp_nil ?_
 obtain rfl:=sJ H
 refine c_ret ?_; show bodyPostM (Fr none) 0 Tryd.prog Tryd.f42 _ .ret _ _
 refine ret_of (res1 rfl (rvA rfl ty29 sz29 (S48.atX (i:=5) rfl) rfl)) ?_
 exact ⟨_,rfl,A8,c9,A10,c11,A12,c13,A14,c15,rfl,S48.keep,⟨S48.atX (i:=1) rfl,S48.newX (i:=1) rfl⟩,⟨S48.atX (i:=2) rfl,S48.newX (i:=2) rfl⟩,⟨S48.atX (i:=3) rfl,S48.newX (i:=3) rfl⟩,⟨S48.atX (i:=4) rfl,S48.newX (i:=4) rfl⟩,(S48.apXX (i:=1) (j:=2) rfl rfl (by decide)),(S48.apXX (i:=1) (j:=3) rfl rfl (by decide)),(S48.apXX (i:=1) (j:=4) rfl rfl (by decide)),(S48.apXX (i:=2) (j:=3) rfl rfl (by decide)),(S48.apXX (i:=2) (j:=4) rfl rfl (by decide)),(S48.apXX (i:=3) (j:=4) rfl rfl (by decide)),trivial⟩
def B_Alike_l1 (a0:List Int) (a1:List Int) (rec_z_1:Int→Option Bool) (z_1:Int):Option Bool:=
 bif decide (z_1 < (a0.length:Int)) then ((getI a0 z_1).bind fun r13=>
 (getI a1 z_1).bind fun r15=>
 bif (r13 != r15) then (some false)
 else (rec_z_1 (wr (z_1+1))))
 else (some true)
def B_Alike (a0:List Int) (a1:List Int):Option Bool:=
 bif ((a0.length:Int) != (a1.length:Int)) then (some false)
 else (loopF (B_Alike_l1 a0 a1) big 0)
set_option maxRecDepth 100000 in
theorem B_Alike_ok {a0:List Int}{a1:List Int}{A1:Option Addr}{c2:Nat}{A4:Option Addr}{c5:Nat}{w:World}{r:Bool} (H:B_Alike a0 a1=some r) (h3:(rd intE 1 A1 c2 a0).ok w) (h6:(rd intE 1 A4 c5 a1).ok w):Calls Tryd.prog 43 #[SL A1 a0.length c2,SL A4 a1.length c5] w (RetV w (B r)):=by
 unfold B_Alike at H
 refine fn_of (n:=26) Tryd.func43 rfl rfl (lE rfl) ?_
 have S:=St.start w nF _ (cA h3 (cA h6 nM))
 refine c_seq<|reg<|p_aB rfl<|wp_nil<|c_seq<|c_seq<|reg<|p_mS rfl<|p_len rfl sc30<|p_mS rfl<|p_len rfl sc30<|p_cmp rfl rfl rfl<|wp_nil ?_
 refine c_cond rfl (fun c7=>?_) (fun c7=>?_)
 ·replace H:=condT c7 H
  refine c_seq<|reg<|p_aB rfl<|wp_nil ?_
  obtain rfl:=sJ H
  exact c_ret (rT Tryd.f43 S.keep rfl rfl)
 ·replace H:=condF c7 H
  refine c_skip<|c_seq<|c_seq<|reg<|p_aI rfl<|wp_nil<|c_block ?_
  refine c_lop (α:=Int) (β:=Unit) (B_Alike_l1 a0 a1) (fun z_1 y_1=>[(0,SL A1 a0.length c2),(1,SL A4 a1.length c5),(5,I z_1)]) (fun z_1 y_1 w_=>St w nF w_ [] [rd intE 1 A1 c2 a0,rd intE 1 A4 c5 a1]) 0 () H ⟨rfl,rfl,rfl,trivial⟩ S ?_
  intro m8 z_1 y_1 e9 w10 H S11
  unfold B_Alike_l1 at H
  refine c_seq<|c_seq<|reg<|p_mI rfl<|p_mS rfl<|p_len rfl sc30<|p_cmp rfl rfl rfl<|wp_nil ?_
  refine c_cond rfl (fun c12=>?_) (fun c12=>?_)
  ·replace H:=condT c12 H
   refine c_skip<|c_seq<|c_block<|c_seq ?_
   obtain ⟨r13,h14,H⟩:=bindS H
   obtain ⟨r15,h16,H⟩:=bindS H
   refine reg_q mixed 9 (by kernel_rfl) ?_
   refine dS (fun _ k_=>p_mS rfl dn)<|dS (fun _ k_=>p_mI rfl dn)<|dS (fun _ k_=>p_ixE sc30 h14 (aS (S11.atP (i:=0) rfl) k_).1 rfl rfl rfl dn)<|dS (fun _ k_=>p_ldE ty3 h14 (aS (S11.atP (i:=0) rfl) k_).1 rfl rfl dn)<|dS (fun _ k_=>p_mS rfl dn)<|dS (fun _ k_=>p_mI rfl dn)<|dS (fun _ k_=>p_ixE sc30 h16 (aS (S11.atP (i:=1) rfl) k_).1 rfl rfl rfl dn) ?_
   refine dS (fun _ k_=>p_ldE ty3 h16 (aS (S11.atP (i:=1) rfl) k_).1 rfl rfl dn)<|dS (fun _ k_=>p_cmp rfl rfl rfl dn) ?_
   intro w17 k18; have S19:=S11.call k18
   refine wp_nil ?_
   refine c_cond rfl (fun c20=>?_) (fun c20=>?_)
   ·replace H:=condT c20 H
    refine c_seq<|reg<|p_aB rfl<|wp_nil ?_
    obtain rfl:=sJ H
    exact c_ret (rT Tryd.f43 S19.keep rfl rfl)
   ·replace H:=condF c20 H
    refine c_skip<|reg<|p_mI rfl<|p_add rfl rfl<|p_aI rfl<|wp_nil ?_
    exact ⟨wr (z_1+1),(),_,rfl,⟨rfl,rfl,rfl,trivial⟩,H,S19⟩
  ·replace H:=condF c12 H
   refine c_exit<|c_seq<|reg<|p_aB rfl<|wp_nil ?_
   obtain rfl:=sJ H
   exact c_ret (rT Tryd.f43 S11.keep rfl rfl)
def law_punched:Option Bool:=
 (law_own).bind fun r4=>
 (ticket_Paid r4 0 1).bind fun r35=>
 (law_own).bind fun r45=>
 (ticket_Saved r45 0).bind fun r76=>
 (law_own).bind fun r86=>
 (ticket_Must r86 0).bind fun r117=>
 (law_own).bind fun r127=>
 (ticket_May r127 1).bind fun r158=>
 (law_own).bind fun r168=>
 (ticket_Lent r168).bind fun r199=>
 bif (r35.2 != 0) then (some false)
 else (bif (r76.2 != 0) then (some false)
 else (bif (r117.2 != 0) then (some false)
 else (bif (r158.2 != 0) then (some false)
 else (bif (r199.2 != 0) then (some false)
 else ((B_Range 4 5).bind fun r262=>
 bif !((r35.1.Low==r262.Low)&&(r35.1.High==r262.High)) then (some false)
 else ((B_Point 2).bind fun r324=>
 bif !((r76.1.Low==r324.Low)&&(r76.1.High==r324.High)) then (some false)
 else ((B_Alike r117.1 ([0]:List Int)).bind fun r388=>
 bif !r388 then (some false)
 else ((B_Alike r158.1 [0,2]).bind fun r449=>
 bif !r449 then (some false)
 else ((B_Alike r199.1 ([0]:List Int)).bind fun r508=>
 bif !r508 then (some false)
 else ((law_double).bind fun r553=>
 (ticket_Clash r553).bind fun r584=>
 (law_own).bind fun r589=>
 (ticket_Fits r589 (TicketBox.mk 0 1 8 0)).bind fun r620=>
 (law_robbed).bind fun r625=>
 (ticket_Wrong r625).bind fun r660=>
 (law_own).bind fun r670=>
 (ticket_Right r670).bind fun r701=>
 bif (r584.2.2==0) then (bif (r620.2==0) then (bif (r660.2==0) then (bif (r701.2==0) then (bif (r584.1==0) then (bif (r584.2.1==2) then (bif r620.1 then ((B_Alike r660.1 ([2]:List Int)).bind fun r718=>
 bif r718 then (some r701.1)
 else (some false))
 else (some false))
 else (some false))
 else (some false))
 else (some false))
 else (some false))
 else (some false))
 else (some false)))))))))))
end Go.Proofs.YtafhljljfglfeaaDoor
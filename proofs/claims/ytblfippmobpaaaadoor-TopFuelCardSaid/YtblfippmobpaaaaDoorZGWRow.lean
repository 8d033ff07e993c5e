/- What the functions of the program compute, and that they do, printed by a program of mine. -/
import Derived.Test.YtblfippmobpaaaaDoorZWD
import Derived.KernelRfl
import Derived.Test.YtblfippmobpaaaaDoorZGFxCopy
import Derived.OpenShut
import Derived.RowKit
import Derived.WideKeyArgs
import Derived.ChangeOld
import Derived.LaidMore
import Derived.LaidLaws
import Derived.Deep.DeepHandedRow
import Derived.ProofKit
import Derived.Test.YtblfippmobpaaaaDoorCards
import Derived.Test.YtblfippmobpaaaaDoorTie
set_option linter.unusedVariables false
set_option linter.unusedSimpArgs false
namespace Go.Proofs.YtblfippmobpaaaaDoor
open Go Go.Fx Go.Proofs
set_option maxRecDepth 100000 in
theorem chain_Thick_ok {a0:ChainBook}{a1:Int}{a2:Int}{A1:Option Addr}{c2:Nat}{A4:Option Addr}{c5:Nat}{A7:Option Addr}{c8:Nat}{w:World}{r:Span×Int} (H:chain_Thick a0 a1 a2=some r) (h3:(rd eChainSection 4 A1 c2 a0.Sections).ok w) (h6:(rd intE 1 A4 c5 a0.Turns).ok w) (h9:(rd eChainSurvey 4 A7 c8 a0.Surveys).ok w) (hg10:(gW2).ok w):Calls Tryd.prog 26 #[AG [SL A1 a0.Sections.length c2,SL A4 a0.Turns.length c5,SL A7 a0.Surveys.length c8,I a0.Rule,I a0.Days],I a1,I a2] w (RetV w (TU [AG [I r.1.Low,I r.1.High],I r.2])):=by
 unfold chain_Thick at H
 refine fn_of (n:=33) Tryd.func26 rfl rfl (lE rfl) ?_
 have S:=St.start w nF _ (cA h3 (cA h6 (cA h9 (cA hg10 nM))))
 refine c_seq<|reg<|p_boxA rfl S fun b11 w12 S13=>p_allA in23 S13 fun b14 w15 S16=>p_aI rfl<|wp_nil ?_
 refine c_join (α:=(List ChainSection)×(List Int)×(List ChainSurvey)×Int×Int×(List (Chain_spot×Span))×(List Chain_truth)×Int) (β:=Nat×(Option Addr)×Nat×(Option Addr)×Nat×(Option Addr)×Nat×(Option Nat)×(Option Addr)×Nat) (fun z_1 y_1=>[(1,I a1),(2,I a2),(3,P b11 0),(6,P b14 0),(8,P y_1.1 0),(9,I z_1.2.2.2.2.2.2.2)]) (fun z_1 y_1 w_=>chain_Thick_j1 a1 a2 a0 z_1=some r∧St w nF w_ [bl y_1.1 [SL y_1.2.1 z_1.1.length y_1.2.2.1,SL y_1.2.2.2.1 z_1.2.1.length y_1.2.2.2.2.1,SL y_1.2.2.2.2.2.1 z_1.2.2.1.length y_1.2.2.2.2.2.2.1,I z_1.2.2.2.1,I z_1.2.2.2.2.1,Value.map y_1.2.2.2.2.2.2.2.1,SL y_1.2.2.2.2.2.2.2.2.1 z_1.2.2.2.2.2.2.1.length y_1.2.2.2.2.2.2.2.2.2] 120,bl b14 [I 0,I 0] 23,bl b11 [SL A1 a0.Sections.length c2,SL A4 a0.Turns.length c5,SL A7 a0.Surveys.length c8,I a0.Rule,I a0.Days] 63] [rd eChainSection 4 y_1.2.1 y_1.2.2.1 z_1.1,rd intE 1 y_1.2.2.2.1 y_1.2.2.2.2.1 z_1.2.1,rd eChainSurvey 4 y_1.2.2.2.2.2.1 y_1.2.2.2.2.2.2.1 z_1.2.2.1,mpo ekC sE y_1.2.2.2.2.2.2.2.1 z_1.2.2.2.2.2.1,rd eChain_truth 12 y_1.2.2.2.2.2.2.2.2.1 y_1.2.2.2.2.2.2.2.2.2 z_1.2.2.2.2.2.2.1,rd eChainSection 4 A1 c2 a0.Sections,rd intE 1 A4 c5 a0.Turns,rd eChainSurvey 4 A7 c8 a0.Surveys,gW2]) ?_ ?_
 ·obtain ⟨r19,h20,H⟩:=bindS H
  rcases bE (r19) with c24 | c24
  ·replace H:=condT c24 H
   obtain ⟨r30,h31,H⟩:=bindS H
   obtain ⟨r38,h39,H⟩:=bindS H
   refine reg_fl mixed 14 12 (by kernel_rfl) [rv (AG [SL A1 a0.Sections.length c2,SL A4 a0.Turns.length c5,SL A7 a0.Surveys.length c8,I a0.Rule,I a0.Days]),rv (AG [SL A1 a0.Sections.length c2,SL A4 a0.Turns.length c5,SL A7 a0.Surveys.length c8,I a0.Rule,I a0.Days]),rv (I a1),rv (B r19),rv (B true),rv (AG [SL A1 a0.Sections.length c2,SL A4 a0.Turns.length c5,SL A7 a0.Surveys.length c8,I a0.Rule,I a0.Days]),rv (I a2),rv (B r30),rv (B r30),rx (α:=(Option Addr)×Nat×(Option Addr)×Nat×(Option Addr)×Nat×(Option Nat)×(Option Addr)×Nat) (fun ⟨A42,c43,A44,c45,A46,c47,m48,A49,c50⟩=>TU [AG [SL A42 r38.1.ChainBook.Sections.length c43,SL A44 r38.1.ChainBook.Turns.length c45,SL A46 r38.1.ChainBook.Surveys.length c47,I r38.1.ChainBook.Rule,I r38.1.ChainBook.Days,Value.map m48,SL A49 r38.1.truths_.length c50],I r38.2]) (fun ⟨A42,c43,A44,c45,A46,c47,m48,A49,c50⟩ lo hi=>BtwL lo hi [rd eChainSection 4 A1 c2 a0.Sections,rd intE 1 A4 c5 a0.Turns,rd eChainSurvey 4 A7 c8 a0.Surveys] (rd eChainSection 4 A42 c43 r38.1.ChainBook.Sections)∧BtwL lo hi [rd eChainSection 4 A1 c2 a0.Sections,rd intE 1 A4 c5 a0.Turns,rd eChainSurvey 4 A7 c8 a0.Surveys] (rd intE 1 A44 c45 r38.1.ChainBook.Turns)∧BtwL lo hi [rd eChainSection 4 A1 c2 a0.Sections,rd intE 1 A4 c5 a0.Turns,rd eChainSurvey 4 A7 c8 a0.Surveys] (rd eChainSurvey 4 A46 c47 r38.1.ChainBook.Surveys)∧BtwL lo hi [] (mpo ekC sE m48 r38.1.read_)∧BtwL lo hi [] (rd eChain_truth 12 A49 c50 r38.1.truths_)∧True) (fun ⟨A42,c43,A44,c45,A46,c47,m48,A49,c50⟩=>[rd eChainSection 4 A42 c43 r38.1.ChainBook.Sections,rd intE 1 A44 c45 r38.1.ChainBook.Turns,rd eChainSurvey 4 A46 c47 r38.1.ChainBook.Surveys,mpo ekC sE m48 r38.1.read_,rd eChain_truth 12 A49 c50 r38.1.truths_]),dv 20 some,dv 10 (exG 0),dv 10 (exG 1),rx (α:=Nat) (fun b73=>P b73 0) (fun b73 lo hi=>BtwL lo hi [] (bl b73 [SL none 0 0,SL none 0 0,SL none 0 0,I 0,I 0,Value.map none,SL none 0 0] 120)∧True) (fun b73=>[bl b73 [SL none 0 0,SL none 0 0,SL none 0 0,I 0,I 0,Value.map none,SL none 0 0] 120])] [[],[],[],[],[],[],[],[],[],[],[20],[10],[10],[]] rfl (by kernel_rfl) [[],[],[],[1,2],[1,2,3],[1,2,3,4],[1,2,3,4],[1,2,3,4,5,6],[1,2,3,4,5,6,7],[0,1,2,3,4,5,6,7,8],[0,1,2,3,4,5,6,7,8,9],[0,1,2,3,4,5,6,7,8,9,10],[0,1,2,3,4,5,6,7,8,9,10],[],[0,1,2,3,4,5,6,7,8,9,10,11,13],[0,1,2,3,4,5,6,7,8,9,10,11,12,13,14]] (by kernel_rfl) ⟨?_,?_,?_,?_,?_,?_,?_,?_,?_,?_,?_,?_,?_,?_,trivial⟩ ?_ ?_
   ·intro e_ w_ k_ hf_ hR_
    have S_:St w_ nF w_ [] [bl b14 [I 0,I 0] 23,bl b11 [SL A1 a0.Sections.length c2,SL A4 a0.Turns.length c5,SL A7 a0.Surveys.length c8,I a0.Rule,I a0.Days] 63,rd eChainSection 4 A1 c2 a0.Sections,rd intE 1 A4 c5 a0.Turns,rd eChainSurvey 4 A7 c8 a0.Surveys,gW2]:=S16.asP k_
    refine hopE [(3,P b11 0)] ⟨((hf_ 3 rfl).trans (rfl:_=P b11 0)),trivial⟩ ?_
    exact p_ldA ty63 sz63 (S_.atP (i:=1) rfl) rfl rfl<|wp_nil ⟨_,rfl,S_.keep,rfl⟩
   ·intro e_ w_ k_ hf_ hR_
    have S_:St w_ nF w_ [] [bl b14 [I 0,I 0] 23,bl b11 [SL A1 a0.Sections.length c2,SL A4 a0.Turns.length c5,SL A7 a0.Surveys.length c8,I a0.Rule,I a0.Days] 63,rd eChainSection 4 A1 c2 a0.Sections,rd intE 1 A4 c5 a0.Turns,rd eChainSurvey 4 A7 c8 a0.Surveys,gW2]:=S16.asP k_
    refine hopE [(3,P b11 0)] ⟨((hf_ 3 rfl).trans (rfl:_=P b11 0)),trivial⟩ ?_
    exact p_ldA ty63 sz63 (S_.atP (i:=1) rfl) rfl rfl<|wp_nil ⟨_,rfl,S_.keep,rfl⟩
   ·intro e_ w_ k_ hf_ hR_
    have S_:St w_ nF w_ [] [bl b14 [I 0,I 0] 23,bl b11 [SL A1 a0.Sections.length c2,SL A4 a0.Turns.length c5,SL A7 a0.Surveys.length c8,I a0.Rule,I a0.Days] 63,rd eChainSection 4 A1 c2 a0.Sections,rd intE 1 A4 c5 a0.Turns,rd eChainSurvey 4 A7 c8 a0.Surveys,gW2]:=S16.asP k_
    refine hopE [(1,I a1)] ⟨((hf_ 1 rfl).trans (rfl:_=I a1)),trivial⟩ ?_
    exact p_mI rfl<|wp_nil ⟨_,rfl,S_.keep,rfl⟩
   ·intro e_ w_ k_ hf_ hR_
    have S_:St w_ nF w_ [] [bl b14 [I 0,I 0] 23,bl b11 [SL A1 a0.Sections.length c2,SL A4 a0.Turns.length c5,SL A7 a0.Surveys.length c8,I a0.Rule,I a0.Days] 63,rd eChainSection 4 A1 c2 a0.Sections,rd intE 1 A4 c5 a0.Turns,rd eChainSurvey 4 A7 c8 a0.Surveys,gW2]:=S16.asP k_
    refine hopE [(12,AG [SL A1 a0.Sections.length c2,SL A4 a0.Turns.length c5,SL A7 a0.Surveys.length c8,I a0.Rule,I a0.Days]),(13,I a1)] ⟨rQ (hR_ 1 12 rfl (lE rfl) rfl),rQ (hR_ 2 13 rfl (lE rfl) rfl),trivial⟩ ?_
    refine p_cv (chain_isSection_ok h20 (S_.atP (i:=2) rfl) (S_.atP (i:=3) rfl) (S_.atP (i:=4) rfl)) fu58 rfl S_ fun w21 S22=>wp_nil ?_
    exact ⟨_,rfl,S22.keep,rfl⟩
   ·intro e_ w_ k_ hf_ hR_
    have S_:St w_ nF w_ [] [bl b14 [I 0,I 0] 23,bl b11 [SL A1 a0.Sections.length c2,SL A4 a0.Turns.length c5,SL A7 a0.Surveys.length c8,I a0.Rule,I a0.Days] 63,rd eChainSection 4 A1 c2 a0.Sections,rd intE 1 A4 c5 a0.Turns,rd eChainSurvey 4 A7 c8 a0.Surveys,gW2]:=S16.asP k_
    refine hopE [(14,B r19)] ⟨rQ (hR_ 3 14 rfl (lE rfl) rfl),trivial⟩ ?_
    exact p_mB rfl<|wp_nil ⟨_,rfl,S_.keep,congrArg Value.bool c24⟩
   ·intro e_ w_ k_ hf_ hR_
    have S_:St w_ nF w_ [] [bl b14 [I 0,I 0] 23,bl b11 [SL A1 a0.Sections.length c2,SL A4 a0.Turns.length c5,SL A7 a0.Surveys.length c8,I a0.Rule,I a0.Days] 63,rd eChainSection 4 A1 c2 a0.Sections,rd intE 1 A4 c5 a0.Turns,rd eChainSurvey 4 A7 c8 a0.Surveys,gW2]:=S16.asP k_
    refine hopE [(3,P b11 0),(15,B true)] ⟨((hf_ 3 rfl).trans (rfl:_=P b11 0)),rQ (hR_ 4 15 rfl (lE rfl) rfl),trivial⟩ ?_
    refine gT rfl rfl (p_ldA ty63 sz63 (S_.atP (i:=1) rfl) rfl rfl ?_)
    exact wp_nil ⟨_,rfl,S_.keep,rfl⟩
   ·intro e_ w_ k_ hf_ hR_
    have S_:St w_ nF w_ [] [bl b14 [I 0,I 0] 23,bl b11 [SL A1 a0.Sections.length c2,SL A4 a0.Turns.length c5,SL A7 a0.Surveys.length c8,I a0.Rule,I a0.Days] 63,rd eChainSection 4 A1 c2 a0.Sections,rd intE 1 A4 c5 a0.Turns,rd eChainSurvey 4 A7 c8 a0.Surveys,gW2]:=S16.asP k_
    refine hopE [(2,I a2),(15,B true)] ⟨((hf_ 2 rfl).trans (rfl:_=I a2)),rQ (hR_ 4 15 rfl (lE rfl) rfl),trivial⟩ ?_
    refine gT rfl rfl (p_mI rfl ?_)
    exact wp_nil ⟨_,rfl,S_.keep,rfl⟩
   ·intro e_ w_ k_ hf_ hR_
    have S_:St w_ nF w_ [] [bl b14 [I 0,I 0] 23,bl b11 [SL A1 a0.Sections.length c2,SL A4 a0.Turns.length c5,SL A7 a0.Surveys.length c8,I a0.Rule,I a0.Days] 63,rd eChainSection 4 A1 c2 a0.Sections,rd intE 1 A4 c5 a0.Turns,rd eChainSurvey 4 A7 c8 a0.Surveys,gW2]:=S16.asP k_
    refine hopE [(15,B true),(16,AG [SL A1 a0.Sections.length c2,SL A4 a0.Turns.length c5,SL A7 a0.Surveys.length c8,I a0.Rule,I a0.Days]),(17,I a2)] ⟨rQ (hR_ 4 15 rfl (lE rfl) rfl),rQ (hR_ 5 16 rfl (lE rfl) rfl),rQ (hR_ 6 17 rfl (lE rfl) rfl),trivial⟩ ?_
    refine gT rfl rfl (p_cv (chain_isDay_ok h31 (S_.atP (i:=2) rfl) (S_.atP (i:=3) rfl) (S_.atP (i:=4) rfl)) fu59 rfl S_ fun w32 S33=>?_)
    exact wp_nil ⟨_,rfl,S33.keep,rfl⟩
   ·intro e_ w_ k_ hf_ hR_
    have S_:St w_ nF w_ [] [bl b14 [I 0,I 0] 23,bl b11 [SL A1 a0.Sections.length c2,SL A4 a0.Turns.length c5,SL A7 a0.Surveys.length c8,I a0.Rule,I a0.Days] 63,rd eChainSection 4 A1 c2 a0.Sections,rd intE 1 A4 c5 a0.Turns,rd eChainSurvey 4 A7 c8 a0.Surveys,gW2]:=S16.asP k_
    refine hopE [(15,B true),(18,B r30)] ⟨rQ (hR_ 4 15 rfl (lE rfl) rfl),rQ (hR_ 7 18 rfl (lE rfl) rfl),trivial⟩ ?_
    exact p_pkT rfl (rfl:_=B r30)<|wp_nil ⟨_,rfl,S_.keep,rfl⟩
   ·intro e_ w_ k_ hf_ hR_
    have S_:St w_ nF w_ [] [bl b14 [I 0,I 0] 23,bl b11 [SL A1 a0.Sections.length c2,SL A4 a0.Turns.length c5,SL A7 a0.Surveys.length c8,I a0.Rule,I a0.Days] 63,rd eChainSection 4 A1 c2 a0.Sections,rd intE 1 A4 c5 a0.Turns,rd eChainSurvey 4 A7 c8 a0.Surveys,gW2]:=S16.asP k_
    refine hopE [(11,AG [SL A1 a0.Sections.length c2,SL A4 a0.Turns.length c5,SL A7 a0.Surveys.length c8,I a0.Rule,I a0.Days]),(19,B r30)] ⟨rQ (hR_ 0 11 rfl (lE rfl) rfl),rQ (hR_ 8 19 rfl (lE rfl) rfl),trivial⟩ ?_
    refine p_cal (chain_asked_ok h39 (S_.atP (i:=2) rfl) (S_.atP (i:=3) rfl) (S_.atP (i:=4) rfl) (S_.atP (i:=5) rfl)) fu57 rfl ?_
    rintro _ w40 ⟨A42,c43,A44,c45,A46,c47,m48,A49,c50,rfl,k41,⟨o51,n52⟩,⟨o53,n54⟩,⟨o55,n56⟩,⟨o57,n58⟩,⟨o59,n60⟩,_⟩
    have S61:=S_.callN k41 [rd eChainSection 4 A42 c43 r38.1.ChainBook.Sections,rd intE 1 A44 c45 r38.1.ChainBook.Turns,rd eChainSurvey 4 A46 c47 r38.1.ChainBook.Surveys,mpo ekC sE m48 r38.1.read_,rd eChain_truth 12 A49 c50 r38.1.truths_] (cA ⟨o51,Al.inL n52 ((cA (fp_mem (i:=2) rfl) (cA (fp_mem (i:=3) rfl) (cA (fp_mem (i:=4) rfl) nM))))⟩ (cA ⟨o53,Al.inL n54 ((cA (fp_mem (i:=2) rfl) (cA (fp_mem (i:=3) rfl) (cA (fp_mem (i:=4) rfl) nM))))⟩ (cA ⟨o55,Al.inL n56 ((cA (fp_mem (i:=2) rfl) (cA (fp_mem (i:=3) rfl) (cA (fp_mem (i:=4) rfl) nM))))⟩ (cA ⟨o57,New.inL n58⟩ (cA ⟨o59,New.inL n60⟩ nM)))))
    exact wp_nil ⟨_,rfl,S61.keep,⟨(A42,c43,A44,c45,A46,c47,m48,A49,c50),rfl,⟨bL n52 rfl (S61.atP (i:=0) rfl) rfl,bL n54 rfl (S61.atP (i:=1) rfl) rfl,bL n56 rfl (S61.atP (i:=2) rfl) rfl,bL (New.al (New.mono n58 S_.keep.size)) rfl (S61.atP (i:=3) rfl) rfl,bL (New.al (New.mono n60 S_.keep.size)) rfl (S61.atP (i:=4) rfl) rfl,trivial⟩,(cA (S61.atP (i:=0) rfl) (cA (S61.atP (i:=1) rfl) (cA (S61.atP (i:=2) rfl) (cA (S61.atP (i:=3) rfl) (cA (S61.atP (i:=4) rfl) nM)))))⟩⟩
   ·intro e_ w_ k_ hf_ hR_
    have S_:St w_ nF w_ [] [bl b14 [I 0,I 0] 23,bl b11 [SL A1 a0.Sections.length c2,SL A4 a0.Turns.length c5,SL A7 a0.Surveys.length c8,I a0.Rule,I a0.Days] 63,rd eChainSection 4 A1 c2 a0.Sections,rd intE 1 A4 c5 a0.Turns,rd eChainSurvey 4 A7 c8 a0.Surveys,gW2]:=S16.asP k_
    obtain ⟨_,_,_,_,⟨A42,c43,A44,c45,A46,c47,m48,A49,c50⟩,q62,p63,a64⟩:=hR_ 9 20 rfl (lE rfl) rfl
    replace q62:e_ 20=TU [AG [SL A42 r38.1.ChainBook.Sections.length c43,SL A44 r38.1.ChainBook.Turns.length c45,SL A46 r38.1.ChainBook.Surveys.length c47,I r38.1.ChainBook.Rule,I r38.1.ChainBook.Days,Value.map m48,SL A49 r38.1.truths_.length c50],I r38.2]:=q62
    have S_:=St.addL' S_ (a64 _ (.head _)) (fun _ _ _ h_=>(nE h_))
    have S_:=St.addL' S_ (a64 _ (.tail _ (.head _))) (fun _ _ _ h_=>(nE h_))
    have S_:=St.addL' S_ (a64 _ (.tail _ (.tail _ (.head _)))) (fun _ _ _ h_=>(nE h_))
    have S_:=St.addL' S_ (a64 _ (.tail _ (.tail _ (.tail _ (.head _))))) (fun _ _ _ h_=>(nE h_))
    have S_:=St.addL' S_ (a64 _ (.tail _ (.tail _ (.tail _ (.tail _ (.head _)))))) (fun _ _ _ h_=>(nE h_))
    refine hopE [(20,TU [AG [SL A42 r38.1.ChainBook.Sections.length c43,SL A44 r38.1.ChainBook.Turns.length c45,SL A46 r38.1.ChainBook.Surveys.length c47,I r38.1.ChainBook.Rule,I r38.1.ChainBook.Days,Value.map m48,SL A49 r38.1.truths_.length c50],I r38.2])] ⟨q62,trivial⟩ ?_
    refine p_mT rfl<|wp_nil ?_
    exact ⟨_,rfl,S_.keep,rfl⟩
   ·intro e_ w_ k_ hf_ hR_
    have S_:St w_ nF w_ [] [bl b14 [I 0,I 0] 23,bl b11 [SL A1 a0.Sections.length c2,SL A4 a0.Turns.length c5,SL A7 a0.Surveys.length c8,I a0.Rule,I a0.Days] 63,rd eChainSection 4 A1 c2 a0.Sections,rd intE 1 A4 c5 a0.Turns,rd eChainSurvey 4 A7 c8 a0.Surveys,gW2]:=S16.asP k_
    obtain ⟨_,_,_,_,⟨A42,c43,A44,c45,A46,c47,m48,A49,c50⟩,q66,p67,a68⟩:=hR_ 9 20 rfl (lE rfl) rfl
    replace q66:e_ 20=TU [AG [SL A42 r38.1.ChainBook.Sections.length c43,SL A44 r38.1.ChainBook.Turns.length c45,SL A46 r38.1.ChainBook.Surveys.length c47,I r38.1.ChainBook.Rule,I r38.1.ChainBook.Days,Value.map m48,SL A49 r38.1.truths_.length c50],I r38.2]:=q66
    have S_:=St.addL' S_ (a68 _ (.head _)) (fun _ _ _ h_=>(nE h_))
    have S_:=St.addL' S_ (a68 _ (.tail _ (.head _))) (fun _ _ _ h_=>(nE h_))
    have S_:=St.addL' S_ (a68 _ (.tail _ (.tail _ (.head _)))) (fun _ _ _ h_=>(nE h_))
    have S_:=St.addL' S_ (a68 _ (.tail _ (.tail _ (.tail _ (.head _))))) (fun _ _ _ h_=>(nE h_))
    have S_:=St.addL' S_ (a68 _ (.tail _ (.tail _ (.tail _ (.tail _ (.head _)))))) (fun _ _ _ h_=>(nE h_))
    obtain ⟨_,_,_,_,q65⟩:=hR_ 10 10 rfl (lE rfl) rfl
    replace q65:e_ 10=TU [AG [SL A42 r38.1.ChainBook.Sections.length c43,SL A44 r38.1.ChainBook.Turns.length c45,SL A46 r38.1.ChainBook.Surveys.length c47,I r38.1.ChainBook.Rule,I r38.1.ChainBook.Days,Value.map m48,SL A49 r38.1.truths_.length c50],I r38.2]:=(sJ ((congrArg some q66).symm.trans q65)).symm
    refine hopE [(10,TU [AG [SL A42 r38.1.ChainBook.Sections.length c43,SL A44 r38.1.ChainBook.Turns.length c45,SL A46 r38.1.ChainBook.Surveys.length c47,I r38.1.ChainBook.Rule,I r38.1.ChainBook.Days,Value.map m48,SL A49 r38.1.truths_.length c50],I r38.2])] ⟨q65,trivial⟩ ?_
    refine p_ext rfl rfl<|wp_nil ?_
    exact ⟨_,rfl,S_.keep,rfl⟩
   ·intro e_ w_ k_ hf_ hR_
    have S_:St w_ nF w_ [] [bl b14 [I 0,I 0] 23,bl b11 [SL A1 a0.Sections.length c2,SL A4 a0.Turns.length c5,SL A7 a0.Surveys.length c8,I a0.Rule,I a0.Days] 63,rd eChainSection 4 A1 c2 a0.Sections,rd intE 1 A4 c5 a0.Turns,rd eChainSurvey 4 A7 c8 a0.Surveys,gW2]:=S16.asP k_
    obtain ⟨_,_,_,_,⟨A42,c43,A44,c45,A46,c47,m48,A49,c50⟩,q70,p71,a72⟩:=hR_ 9 20 rfl (lE rfl) rfl
    replace q70:e_ 20=TU [AG [SL A42 r38.1.ChainBook.Sections.length c43,SL A44 r38.1.ChainBook.Turns.length c45,SL A46 r38.1.ChainBook.Surveys.length c47,I r38.1.ChainBook.Rule,I r38.1.ChainBook.Days,Value.map m48,SL A49 r38.1.truths_.length c50],I r38.2]:=q70
    have S_:=St.addL' S_ (a72 _ (.head _)) (fun _ _ _ h_=>(nE h_))
    have S_:=St.addL' S_ (a72 _ (.tail _ (.head _))) (fun _ _ _ h_=>(nE h_))
    have S_:=St.addL' S_ (a72 _ (.tail _ (.tail _ (.head _)))) (fun _ _ _ h_=>(nE h_))
    have S_:=St.addL' S_ (a72 _ (.tail _ (.tail _ (.tail _ (.head _))))) (fun _ _ _ h_=>(nE h_))
    have S_:=St.addL' S_ (a72 _ (.tail _ (.tail _ (.tail _ (.tail _ (.head _)))))) (fun _ _ _ h_=>(nE h_))
    obtain ⟨_,_,_,_,q69⟩:=hR_ 10 10 rfl (lE rfl) rfl
    replace q69:e_ 10=TU [AG [SL A42 r38.1.ChainBook.Sections.length c43,SL A44 r38.1.ChainBook.Turns.length c45,SL A46 r38.1.ChainBook.Surveys.length c47,I r38.1.ChainBook.Rule,I r38.1.ChainBook.Days,Value.map m48,SL A49 r38.1.truths_.length c50],I r38.2]:=(sJ ((congrArg some q70).symm.trans q69)).symm
    refine hopE [(10,TU [AG [SL A42 r38.1.ChainBook.Sections.length c43,SL A44 r38.1.ChainBook.Turns.length c45,SL A46 r38.1.ChainBook.Surveys.length c47,I r38.1.ChainBook.Rule,I r38.1.ChainBook.Days,Value.map m48,SL A49 r38.1.truths_.length c50],I r38.2])] ⟨q69,trivial⟩ ?_
    refine p_ext rfl rfl<|wp_nil ?_
    exact ⟨_,rfl,S_.keep,rfl⟩
   ·intro e_ w_ k_ hf_ hR_
    have S_:St w_ nF w_ [] [bl b14 [I 0,I 0] 23,bl b11 [SL A1 a0.Sections.length c2,SL A4 a0.Turns.length c5,SL A7 a0.Surveys.length c8,I a0.Rule,I a0.Days] 63,rd eChainSection 4 A1 c2 a0.Sections,rd intE 1 A4 c5 a0.Turns,rd eChainSurvey 4 A7 c8 a0.Surveys,gW2]:=S16.asP k_
    refine hopE [] trivial ?_
    refine p_allA in120 S_ fun b73 w74 S75=>wp_nil ?_
    exact ⟨_,rfl,S75.keep,⟨b73,rfl,⟨bL (New.al (S75.newX (i:=0) rfl)) rfl (S75.atX (i:=0) rfl) rfl,trivial⟩,(cA (S75.atX (i:=0) rfl) nM)⟩⟩
   ·intro e76 w77 lo78 hi79 k80 hf81 hR82 hd83
    have S84:=S16.call k80
    have q85:e76 11=AG [SL A1 a0.Sections.length c2,SL A4 a0.Turns.length c5,SL A7 a0.Surveys.length c8,I a0.Rule,I a0.Days]:=(hR82 0 11 (lE rfl) rfl).2.2.2
    have q86:e76 12=AG [SL A1 a0.Sections.length c2,SL A4 a0.Turns.length c5,SL A7 a0.Surveys.length c8,I a0.Rule,I a0.Days]:=(hR82 1 12 (lE rfl) rfl).2.2.2
    have q87:e76 13=I a1:=(hR82 2 13 (lE rfl) rfl).2.2.2
    have q88:e76 14=B r19:=(hR82 3 14 (lE rfl) rfl).2.2.2
    have q89:e76 15=B true:=(hR82 4 15 (lE rfl) rfl).2.2.2
    have q90:e76 16=AG [SL A1 a0.Sections.length c2,SL A4 a0.Turns.length c5,SL A7 a0.Surveys.length c8,I a0.Rule,I a0.Days]:=(hR82 5 16 (lE rfl) rfl).2.2.2
    have q91:e76 17=I a2:=(hR82 6 17 (lE rfl) rfl).2.2.2
    have q92:e76 18=B r30:=(hR82 7 18 (lE rfl) rfl).2.2.2
    have q93:e76 19=B r30:=(hR82 8 19 (lE rfl) rfl).2.2.2
    obtain ⟨h95,h96,h97,⟨A42,c43,A44,c45,A46,c47,m48,A49,c50⟩,q94,h98,h99⟩:=hR82 9 20 (lE rfl) rfl
    replace q94:e76 20=TU [AG [SL A42 r38.1.ChainBook.Sections.length c43,SL A44 r38.1.ChainBook.Turns.length c45,SL A46 r38.1.ChainBook.Surveys.length c47,I r38.1.ChainBook.Rule,I r38.1.ChainBook.Days,Value.map m48,SL A49 r38.1.truths_.length c50],I r38.2]:=q94
    obtain ⟨p100,p101,p102,p103,p104,_⟩:=h98
    have S105:=St.addR S84 (h99 _ (.head _)) (oR p100 h95 S16 (mG [0,1,2] rfl))
    have S106:=St.addR S105 (h99 _ (.tail _ (.head _))) (oR p101 h95 S16 (mG [0,1,2] rfl))
    have S107:=St.addR S106 (h99 _ (.tail _ (.tail _ (.head _)))) (oR p102 h95 S16 (mG [0,1,2] rfl))
    have S108:=St.addR S107 (h99 _ (.tail _ (.tail _ (.tail _ (.head _))))) (oR p103 h95 S16 (nM))
    have S109:=St.addR S108 (h99 _ (.tail _ (.tail _ (.tail _ (.tail _ (.head _)))))) (oR p104 h95 S16 (nM))
    have q110:e76 10=TU [AG [SL A42 r38.1.ChainBook.Sections.length c43,SL A44 r38.1.ChainBook.Turns.length c45,SL A46 r38.1.ChainBook.Surveys.length c47,I r38.1.ChainBook.Rule,I r38.1.ChainBook.Days,Value.map m48,SL A49 r38.1.truths_.length c50],I r38.2]:=(sJ ((congrArg some q94).symm.trans (hR82 10 10 (lE rfl) rfl).2.2.2)).symm
    have q111:e76 21=AG [SL A42 r38.1.ChainBook.Sections.length c43,SL A44 r38.1.ChainBook.Turns.length c45,SL A46 r38.1.ChainBook.Surveys.length c47,I r38.1.ChainBook.Rule,I r38.1.ChainBook.Days,Value.map m48,SL A49 r38.1.truths_.length c50]:=(sJ ((congrArg (exG 0) q110).symm.trans (hR82 11 21 (lE rfl) rfl).2.2.2)).symm
    have q112:e76 22=I r38.2:=(sJ ((congrArg (exG 1) q110).symm.trans (hR82 12 22 (lE rfl) rfl).2.2.2)).symm
    obtain ⟨h114,h115,h116,b73,q113,h117,h118⟩:=hR82 13 8 (lE rfl) rfl
    replace q113:e76 8=P b73 0:=q113
    obtain ⟨p119,_⟩:=h117
    have S121:=St.addO S109 (h118 _ (.head _)) (oN p119 h114 S16) (oX p119 h114 S16) (cA (oP p119 p104 h114 S16 (nM) (hd83 13 9 (lE rfl) (lE rfl) (by decide))) (cA (oP p119 p103 h114 S16 (nM) (hd83 13 9 (lE rfl) (lE rfl) (by decide))) (cA (oP p119 p102 h114 S16 (mG [0,1,2] rfl) (hd83 13 9 (lE rfl) (lE rfl) (by decide))) (cA (oP p119 p101 h114 S16 (mG [0,1,2] rfl) (hd83 13 9 (lE rfl) (lE rfl) (by decide))) (cA (oP p119 p100 h114 S16 (mG [0,1,2] rfl) (hd83 13 9 (lE rfl) (lE rfl) (by decide))) (oL p119 h114 S16))))))
    refine tailE [(1,I a1),(2,I a2),(3,P b11 0),(6,P b14 0),(8,P b73 0),(21,AG [SL A42 r38.1.ChainBook.Sections.length c43,SL A44 r38.1.ChainBook.Turns.length c45,SL A46 r38.1.ChainBook.Surveys.length c47,I r38.1.ChainBook.Rule,I r38.1.ChainBook.Days,Value.map m48,SL A49 r38.1.truths_.length c50]),(22,I r38.2)] ⟨((hf81 1 rfl).trans (rfl:_=I a1)),((hf81 2 rfl).trans (rfl:_=I a2)),((hf81 3 rfl).trans (rfl:_=P b11 0)),((hf81 6 rfl).trans (rfl:_=P b14 0)),q113,q111,q112,trivial⟩ ?_
    intro g122
    refine p_stP (pre:=[]) (old:=[SL none 0 0,SL none 0 0,SL none 0 0,I 0,I 0,Value.map none,SL none 0 0]) (post:=[]) (vs:=[SL A42 r38.1.ChainBook.Sections.length c43,SL A44 r38.1.ChainBook.Turns.length c45,SL A46 r38.1.ChainBook.Surveys.length c47,I r38.1.ChainBook.Rule,I r38.1.ChainBook.Days,Value.map m48,SL A49 r38.1.truths_.length c50]) sz120 S121 (i:=0) rfl rfl rfl rfl (rfl:_=AG [SL A42 r38.1.ChainBook.Sections.length c43,SL A44 r38.1.ChainBook.Turns.length c45,SL A46 r38.1.ChainBook.Surveys.length c47,I r38.1.ChainBook.Rule,I r38.1.ChainBook.Days,Value.map m48,SL A49 r38.1.truths_.length c50]) rfl rfl rfl rfl fun w123 S124=>?_
    refine p_aI rfl<|wp_nil ?_
    have S125:=S124.pk [0,1,2] (by decide) [4,3,2,1,0,5,6,7,8] rfl rfl
    exact ⟨(r38.1.ChainBook.Sections,r38.1.ChainBook.Turns,r38.1.ChainBook.Surveys,r38.1.ChainBook.Rule,r38.1.ChainBook.Days,r38.1.read_,r38.1.truths_,r38.2),(b73,A42,c43,A44,c45,A46,c47,m48,A49,c50),_,rfl,⟨rfl,rfl,rfl,rfl,rfl,rfl,trivial⟩,H,S125⟩
   ·intro e125 w126 lo127 hi128 k129 hf130 hR131 hd132
    have S133:=S16.call k129
    have q134:e125 11=AG [SL A1 a0.Sections.length c2,SL A4 a0.Turns.length c5,SL A7 a0.Surveys.length c8,I a0.Rule,I a0.Days]:=(hR131 0 11 (lE rfl) (by decide) rfl).2.2.2
    have q135:e125 12=AG [SL A1 a0.Sections.length c2,SL A4 a0.Turns.length c5,SL A7 a0.Surveys.length c8,I a0.Rule,I a0.Days]:=(hR131 1 12 (lE rfl) (by decide) rfl).2.2.2
    have q136:e125 13=I a1:=(hR131 2 13 (lE rfl) (by decide) rfl).2.2.2
    have q137:e125 14=B r19:=(hR131 3 14 (lE rfl) (by decide) rfl).2.2.2
    have q138:e125 15=B true:=(hR131 4 15 (lE rfl) (by decide) rfl).2.2.2
    have q139:e125 16=AG [SL A1 a0.Sections.length c2,SL A4 a0.Turns.length c5,SL A7 a0.Surveys.length c8,I a0.Rule,I a0.Days]:=(hR131 5 16 (lE rfl) (by decide) rfl).2.2.2
    have q140:e125 17=I a2:=(hR131 6 17 (lE rfl) (by decide) rfl).2.2.2
    have q141:e125 18=B r30:=(hR131 7 18 (lE rfl) (by decide) rfl).2.2.2
    have q142:e125 19=B r30:=(hR131 8 19 (lE rfl) (by decide) rfl).2.2.2
    obtain ⟨h144,h145,h146,⟨A42,c43,A44,c45,A46,c47,m48,A49,c50⟩,q143,h147,h148⟩:=hR131 9 20 (lE rfl) (by decide) rfl
    replace q143:e125 20=TU [AG [SL A42 r38.1.ChainBook.Sections.length c43,SL A44 r38.1.ChainBook.Turns.length c45,SL A46 r38.1.ChainBook.Surveys.length c47,I r38.1.ChainBook.Rule,I r38.1.ChainBook.Days,Value.map m48,SL A49 r38.1.truths_.length c50],I r38.2]:=q143
    obtain ⟨p149,p150,p151,p152,p153,_⟩:=h147
    have S154:=St.addR S133 (h148 _ (.head _)) (oR p149 h144 S16 (mG [0,1,2] rfl))
    have S155:=St.addR S154 (h148 _ (.tail _ (.head _))) (oR p150 h144 S16 (mG [0,1,2] rfl))
    have S156:=St.addR S155 (h148 _ (.tail _ (.tail _ (.head _)))) (oR p151 h144 S16 (mG [0,1,2] rfl))
    have S157:=St.addR S156 (h148 _ (.tail _ (.tail _ (.tail _ (.head _))))) (oR p152 h144 S16 (nM))
    have S158:=St.addR S157 (h148 _ (.tail _ (.tail _ (.tail _ (.tail _ (.head _)))))) (oR p153 h144 S16 (nM))
    have q159:e125 10=TU [AG [SL A42 r38.1.ChainBook.Sections.length c43,SL A44 r38.1.ChainBook.Turns.length c45,SL A46 r38.1.ChainBook.Surveys.length c47,I r38.1.ChainBook.Rule,I r38.1.ChainBook.Days,Value.map m48,SL A49 r38.1.truths_.length c50],I r38.2]:=(sJ ((congrArg some q143).symm.trans (hR131 10 10 (lE rfl) (by decide) rfl).2.2.2)).symm
    have q160:e125 21=AG [SL A42 r38.1.ChainBook.Sections.length c43,SL A44 r38.1.ChainBook.Turns.length c45,SL A46 r38.1.ChainBook.Surveys.length c47,I r38.1.ChainBook.Rule,I r38.1.ChainBook.Days,Value.map m48,SL A49 r38.1.truths_.length c50]:=(sJ ((congrArg (exG 0) q159).symm.trans (hR131 11 21 (lE rfl) (by decide) rfl).2.2.2)).symm
    obtain ⟨h162,h163,h164,b73,q161,h165,h166⟩:=hR131 13 8 (lE rfl) (by decide) rfl
    replace q161:e125 8=P b73 0:=q161
    obtain ⟨p167,_⟩:=h165
    have S169:=St.addO S158 (h166 _ (.head _)) (oN p167 h162 S16) (oX p167 h162 S16) (cA (oP p167 p153 h162 S16 (nM) (hd132 13 9 (lE rfl) (lE rfl) (by decide) (by decide) (by decide))) (cA (oP p167 p152 h162 S16 (nM) (hd132 13 9 (lE rfl) (lE rfl) (by decide) (by decide) (by decide))) (cA (oP p167 p151 h162 S16 (mG [0,1,2] rfl) (hd132 13 9 (lE rfl) (lE rfl) (by decide) (by decide) (by decide))) (cA (oP p167 p150 h162 S16 (mG [0,1,2] rfl) (hd132 13 9 (lE rfl) (lE rfl) (by decide) (by decide) (by decide))) (cA (oP p167 p149 h162 S16 (mG [0,1,2] rfl) (hd132 13 9 (lE rfl) (lE rfl) (by decide) (by decide) (by decide))) (oL p167 h162 S16))))))
    refine tailE [(1,I a1),(2,I a2),(3,P b11 0),(6,P b14 0),(8,P b73 0),(10,TU [AG [SL A42 r38.1.ChainBook.Sections.length c43,SL A44 r38.1.ChainBook.Turns.length c45,SL A46 r38.1.ChainBook.Surveys.length c47,I r38.1.ChainBook.Rule,I r38.1.ChainBook.Days,Value.map m48,SL A49 r38.1.truths_.length c50],I r38.2]),(21,AG [SL A42 r38.1.ChainBook.Sections.length c43,SL A44 r38.1.ChainBook.Turns.length c45,SL A46 r38.1.ChainBook.Surveys.length c47,I r38.1.ChainBook.Rule,I r38.1.ChainBook.Days,Value.map m48,SL A49 r38.1.truths_.length c50])] ⟨((hf130 1 rfl).trans (rfl:_=I a1)),((hf130 2 rfl).trans (rfl:_=I a2)),((hf130 3 rfl).trans (rfl:_=P b11 0)),((hf130 6 rfl).trans (rfl:_=P b14 0)),q161,q159,q160,trivial⟩ ?_
    intro g170
    refine p_stP (pre:=[]) (old:=[SL none 0 0,SL none 0 0,SL none 0 0,I 0,I 0,Value.map none,SL none 0 0]) (post:=[]) (vs:=[SL A42 r38.1.ChainBook.Sections.length c43,SL A44 r38.1.ChainBook.Turns.length c45,SL A46 r38.1.ChainBook.Surveys.length c47,I r38.1.ChainBook.Rule,I r38.1.ChainBook.Days,Value.map m48,SL A49 r38.1.truths_.length c50]) sz120 S169 (i:=0) rfl rfl rfl rfl (rfl:_=AG [SL A42 r38.1.ChainBook.Sections.length c43,SL A44 r38.1.ChainBook.Turns.length c45,SL A46 r38.1.ChainBook.Surveys.length c47,I r38.1.ChainBook.Rule,I r38.1.ChainBook.Days,Value.map m48,SL A49 r38.1.truths_.length c50]) rfl rfl rfl rfl fun w171 S172=>?_
    refine p_ext rfl rfl<|p_aI rfl<|wp_nil ?_
    have S173:=S172.pk [0,1,2] (by decide) [4,3,2,1,0,5,6,7,8] rfl rfl
    exact ⟨(r38.1.ChainBook.Sections,r38.1.ChainBook.Turns,r38.1.ChainBook.Surveys,r38.1.ChainBook.Rule,r38.1.ChainBook.Days,r38.1.read_,r38.1.truths_,r38.2),(b73,A42,c43,A44,c45,A46,c47,m48,A49,c50),_,rfl,⟨rfl,rfl,rfl,rfl,rfl,rfl,trivial⟩,H,S173⟩
  ·replace H:=condF c24 H
   obtain ⟨r182,h183,H⟩:=bindS H
   refine reg_fl mixed 14 12 (by kernel_rfl) [rv (AG [SL A1 a0.Sections.length c2,SL A4 a0.Turns.length c5,SL A7 a0.Surveys.length c8,I a0.Rule,I a0.Days]),rv (AG [SL A1 a0.Sections.length c2,SL A4 a0.Turns.length c5,SL A7 a0.Surveys.length c8,I a0.Rule,I a0.Days]),rv (I a1),rv (B r19),rv (B false),rv (undef),rv (undef),rv (undef),rv (B false),rx (α:=(Option Addr)×Nat×(Option Addr)×Nat×(Option Addr)×Nat×(Option Nat)×(Option Addr)×Nat) (fun ⟨A186,c187,A188,c189,A190,c191,m192,A193,c194⟩=>TU [AG [SL A186 r182.1.ChainBook.Sections.length c187,SL A188 r182.1.ChainBook.Turns.length c189,SL A190 r182.1.ChainBook.Surveys.length c191,I r182.1.ChainBook.Rule,I r182.1.ChainBook.Days,Value.map m192,SL A193 r182.1.truths_.length c194],I r182.2]) (fun ⟨A186,c187,A188,c189,A190,c191,m192,A193,c194⟩ lo hi=>BtwL lo hi [rd eChainSection 4 A1 c2 a0.Sections,rd intE 1 A4 c5 a0.Turns,rd eChainSurvey 4 A7 c8 a0.Surveys] (rd eChainSection 4 A186 c187 r182.1.ChainBook.Sections)∧BtwL lo hi [rd eChainSection 4 A1 c2 a0.Sections,rd intE 1 A4 c5 a0.Turns,rd eChainSurvey 4 A7 c8 a0.Surveys] (rd intE 1 A188 c189 r182.1.ChainBook.Turns)∧BtwL lo hi [rd eChainSection 4 A1 c2 a0.Sections,rd intE 1 A4 c5 a0.Turns,rd eChainSurvey 4 A7 c8 a0.Surveys] (rd eChainSurvey 4 A190 c191 r182.1.ChainBook.Surveys)∧BtwL lo hi [] (mpo ekC sE m192 r182.1.read_)∧BtwL lo hi [] (rd eChain_truth 12 A193 c194 r182.1.truths_)∧True) (fun ⟨A186,c187,A188,c189,A190,c191,m192,A193,c194⟩=>[rd eChainSection 4 A186 c187 r182.1.ChainBook.Sections,rd intE 1 A188 c189 r182.1.ChainBook.Turns,rd eChainSurvey 4 A190 c191 r182.1.ChainBook.Surveys,mpo ekC sE m192 r182.1.read_,rd eChain_truth 12 A193 c194 r182.1.truths_]),dv 20 some,dv 10 (exG 0),dv 10 (exG 1),rx (α:=Nat) (fun b217=>P b217 0) (fun b217 lo hi=>BtwL lo hi [] (bl b217 [SL none 0 0,SL none 0 0,SL none 0 0,I 0,I 0,Value.map none,SL none 0 0] 120)∧True) (fun b217=>[bl b217 [SL none 0 0,SL none 0 0,SL none 0 0,I 0,I 0,Value.map none,SL none 0 0] 120])] [[],[],[],[],[],[],[],[],[],[],[20],[10],[10],[]] rfl (by kernel_rfl) [[],[],[],[1,2],[1,2,3],[1,2,3,4],[1,2,3,4],[1,2,3,4,5,6],[1,2,3,4,5,6,7],[0,1,2,3,4,5,6,7,8],[0,1,2,3,4,5,6,7,8,9],[0,1,2,3,4,5,6,7,8,9,10],[0,1,2,3,4,5,6,7,8,9,10],[],[0,1,2,3,4,5,6,7,8,9,10,11,13],[0,1,2,3,4,5,6,7,8,9,10,11,12,13,14]] (by kernel_rfl) ⟨?_,?_,?_,?_,?_,?_,?_,?_,?_,?_,?_,?_,?_,?_,trivial⟩ ?_ ?_
   ·intro e_ w_ k_ hf_ hR_
    have S_:St w_ nF w_ [] [bl b14 [I 0,I 0] 23,bl b11 [SL A1 a0.Sections.length c2,SL A4 a0.Turns.length c5,SL A7 a0.Surveys.length c8,I a0.Rule,I a0.Days] 63,rd eChainSection 4 A1 c2 a0.Sections,rd intE 1 A4 c5 a0.Turns,rd eChainSurvey 4 A7 c8 a0.Surveys,gW2]:=S16.asP k_
    refine hopE [(3,P b11 0)] ⟨((hf_ 3 rfl).trans (rfl:_=P b11 0)),trivial⟩ ?_
    exact p_ldA ty63 sz63 (S_.atP (i:=1) rfl) rfl rfl<|wp_nil ⟨_,rfl,S_.keep,rfl⟩
   ·intro e_ w_ k_ hf_ hR_
    have S_:St w_ nF w_ [] [bl b14 [I 0,I 0] 23,bl b11 [SL A1 a0.Sections.length c2,SL A4 a0.Turns.length c5,SL A7 a0.Surveys.length c8,I a0.Rule,I a0.Days] 63,rd eChainSection 4 A1 c2 a0.Sections,rd intE 1 A4 c5 a0.Turns,rd eChainSurvey 4 A7 c8 a0.Surveys,gW2]:=S16.asP k_
    refine hopE [(3,P b11 0)] ⟨((hf_ 3 rfl).trans (rfl:_=P b11 0)),trivial⟩ ?_
    exact p_ldA ty63 sz63 (S_.atP (i:=1) rfl) rfl rfl<|wp_nil ⟨_,rfl,S_.keep,rfl⟩
   ·intro e_ w_ k_ hf_ hR_
    have S_:St w_ nF w_ [] [bl b14 [I 0,I 0] 23,bl b11 [SL A1 a0.Sections.length c2,SL A4 a0.Turns.length c5,SL A7 a0.Surveys.length c8,I a0.Rule,I a0.Days] 63,rd eChainSection 4 A1 c2 a0.Sections,rd intE 1 A4 c5 a0.Turns,rd eChainSurvey 4 A7 c8 a0.Surveys,gW2]:=S16.asP k_
    refine hopE [(1,I a1)] ⟨((hf_ 1 rfl).trans (rfl:_=I a1)),trivial⟩ ?_
    exact p_mI rfl<|wp_nil ⟨_,rfl,S_.keep,rfl⟩
   ·intro e_ w_ k_ hf_ hR_
    have S_:St w_ nF w_ [] [bl b14 [I 0,I 0] 23,bl b11 [SL A1 a0.Sections.length c2,SL A4 a0.Turns.length c5,SL A7 a0.Surveys.length c8,I a0.Rule,I a0.Days] 63,rd eChainSection 4 A1 c2 a0.Sections,rd intE 1 A4 c5 a0.Turns,rd eChainSurvey 4 A7 c8 a0.Surveys,gW2]:=S16.asP k_
    refine hopE [(12,AG [SL A1 a0.Sections.length c2,SL A4 a0.Turns.length c5,SL A7 a0.Surveys.length c8,I a0.Rule,I a0.Days]),(13,I a1)] ⟨rQ (hR_ 1 12 rfl (lE rfl) rfl),rQ (hR_ 2 13 rfl (lE rfl) rfl),trivial⟩ ?_
    refine p_cv (chain_isSection_ok h20 (S_.atP (i:=2) rfl) (S_.atP (i:=3) rfl) (S_.atP (i:=4) rfl)) fu58 rfl S_ fun w21 S22=>wp_nil ?_
    exact ⟨_,rfl,S22.keep,rfl⟩
   ·intro e_ w_ k_ hf_ hR_
    have S_:St w_ nF w_ [] [bl b14 [I 0,I 0] 23,bl b11 [SL A1 a0.Sections.length c2,SL A4 a0.Turns.length c5,SL A7 a0.Surveys.length c8,I a0.Rule,I a0.Days] 63,rd eChainSection 4 A1 c2 a0.Sections,rd intE 1 A4 c5 a0.Turns,rd eChainSurvey 4 A7 c8 a0.Surveys,gW2]:=S16.asP k_
    refine hopE [(14,B r19)] ⟨rQ (hR_ 3 14 rfl (lE rfl) rfl),trivial⟩ ?_
    exact p_mB rfl<|wp_nil ⟨_,rfl,S_.keep,congrArg Value.bool c24⟩
   ·intro e_ w_ k_ hf_ hR_
    have S_:St w_ nF w_ [] [bl b14 [I 0,I 0] 23,bl b11 [SL A1 a0.Sections.length c2,SL A4 a0.Turns.length c5,SL A7 a0.Surveys.length c8,I a0.Rule,I a0.Days] 63,rd eChainSection 4 A1 c2 a0.Sections,rd intE 1 A4 c5 a0.Turns,rd eChainSurvey 4 A7 c8 a0.Surveys,gW2]:=S16.asP k_
    refine hopE [(3,P b11 0),(15,B false)] ⟨((hf_ 3 rfl).trans (rfl:_=P b11 0)),rQ (hR_ 4 15 rfl (lE rfl) rfl),trivial⟩ ?_
    exact gF rfl rfl<|wp_nil ⟨_,rfl,S_.keep,rfl⟩
   ·intro e_ w_ k_ hf_ hR_
    have S_:St w_ nF w_ [] [bl b14 [I 0,I 0] 23,bl b11 [SL A1 a0.Sections.length c2,SL A4 a0.Turns.length c5,SL A7 a0.Surveys.length c8,I a0.Rule,I a0.Days] 63,rd eChainSection 4 A1 c2 a0.Sections,rd intE 1 A4 c5 a0.Turns,rd eChainSurvey 4 A7 c8 a0.Surveys,gW2]:=S16.asP k_
    refine hopE [(2,I a2),(15,B false)] ⟨((hf_ 2 rfl).trans (rfl:_=I a2)),rQ (hR_ 4 15 rfl (lE rfl) rfl),trivial⟩ ?_
    exact gF rfl rfl<|wp_nil ⟨_,rfl,S_.keep,rfl⟩
   ·intro e_ w_ k_ hf_ hR_
    have S_:St w_ nF w_ [] [bl b14 [I 0,I 0] 23,bl b11 [SL A1 a0.Sections.length c2,SL A4 a0.Turns.length c5,SL A7 a0.Surveys.length c8,I a0.Rule,I a0.Days] 63,rd eChainSection 4 A1 c2 a0.Sections,rd intE 1 A4 c5 a0.Turns,rd eChainSurvey 4 A7 c8 a0.Surveys,gW2]:=S16.asP k_
    refine hopE [(15,B false),(16,undef),(17,undef)] ⟨rQ (hR_ 4 15 rfl (lE rfl) rfl),rQ (hR_ 5 16 rfl (lE rfl) rfl),rQ (hR_ 6 17 rfl (lE rfl) rfl),trivial⟩ ?_
    exact gF rfl rfl<|wp_nil ⟨_,rfl,S_.keep,rfl⟩
   ·intro e_ w_ k_ hf_ hR_
    have S_:St w_ nF w_ [] [bl b14 [I 0,I 0] 23,bl b11 [SL A1 a0.Sections.length c2,SL A4 a0.Turns.length c5,SL A7 a0.Surveys.length c8,I a0.Rule,I a0.Days] 63,rd eChainSection 4 A1 c2 a0.Sections,rd intE 1 A4 c5 a0.Turns,rd eChainSurvey 4 A7 c8 a0.Surveys,gW2]:=S16.asP k_
    refine hopE [(15,B false),(18,undef)] ⟨rQ (hR_ 4 15 rfl (lE rfl) rfl),rQ (hR_ 7 18 rfl (lE rfl) rfl),trivial⟩ ?_
    exact p_pkF rfl (rfl:_=B false)<|wp_nil ⟨_,rfl,S_.keep,rfl⟩
   ·intro e_ w_ k_ hf_ hR_
    have S_:St w_ nF w_ [] [bl b14 [I 0,I 0] 23,bl b11 [SL A1 a0.Sections.length c2,SL A4 a0.Turns.length c5,SL A7 a0.Surveys.length c8,I a0.Rule,I a0.Days] 63,rd eChainSection 4 A1 c2 a0.Sections,rd intE 1 A4 c5 a0.Turns,rd eChainSurvey 4 A7 c8 a0.Surveys,gW2]:=S16.asP k_
    refine hopE [(11,AG [SL A1 a0.Sections.length c2,SL A4 a0.Turns.length c5,SL A7 a0.Surveys.length c8,I a0.Rule,I a0.Days]),(19,B false)] ⟨rQ (hR_ 0 11 rfl (lE rfl) rfl),rQ (hR_ 8 19 rfl (lE rfl) rfl),trivial⟩ ?_
    refine p_cal (chain_asked_ok h183 (S_.atP (i:=2) rfl) (S_.atP (i:=3) rfl) (S_.atP (i:=4) rfl) (S_.atP (i:=5) rfl)) fu57 rfl ?_
    rintro _ w184 ⟨A186,c187,A188,c189,A190,c191,m192,A193,c194,rfl,k185,⟨o195,n196⟩,⟨o197,n198⟩,⟨o199,n200⟩,⟨o201,n202⟩,⟨o203,n204⟩,_⟩
    have S205:=S_.callN k185 [rd eChainSection 4 A186 c187 r182.1.ChainBook.Sections,rd intE 1 A188 c189 r182.1.ChainBook.Turns,rd eChainSurvey 4 A190 c191 r182.1.ChainBook.Surveys,mpo ekC sE m192 r182.1.read_,rd eChain_truth 12 A193 c194 r182.1.truths_] (cA ⟨o195,Al.inL n196 ((cA (fp_mem (i:=2) rfl) (cA (fp_mem (i:=3) rfl) (cA (fp_mem (i:=4) rfl) nM))))⟩ (cA ⟨o197,Al.inL n198 ((cA (fp_mem (i:=2) rfl) (cA (fp_mem (i:=3) rfl) (cA (fp_mem (i:=4) rfl) nM))))⟩ (cA ⟨o199,Al.inL n200 ((cA (fp_mem (i:=2) rfl) (cA (fp_mem (i:=3) rfl) (cA (fp_mem (i:=4) rfl) nM))))⟩ (cA ⟨o201,New.inL n202⟩ (cA ⟨o203,New.inL n204⟩ nM)))))
    exact wp_nil ⟨_,rfl,S205.keep,⟨(A186,c187,A188,c189,A190,c191,m192,A193,c194),rfl,⟨bL n196 rfl (S205.atP (i:=0) rfl) rfl,bL n198 rfl (S205.atP (i:=1) rfl) rfl,bL n200 rfl (S205.atP (i:=2) rfl) rfl,bL (New.al (New.mono n202 S_.keep.size)) rfl (S205.atP (i:=3) rfl) rfl,bL (New.al (New.mono n204 S_.keep.size)) rfl (S205.atP (i:=4) rfl) rfl,trivial⟩,(cA (S205.atP (i:=0) rfl) (cA (S205.atP (i:=1) rfl) (cA (S205.atP (i:=2) rfl) (cA (S205.atP (i:=3) rfl) (cA (S205.atP (i:=4) rfl) nM)))))⟩⟩
   ·intro e_ w_ k_ hf_ hR_
    have S_:St w_ nF w_ [] [bl b14 [I 0,I 0] 23,bl b11 [SL A1 a0.Sections.length c2,SL A4 a0.Turns.length c5,SL A7 a0.Surveys.length c8,I a0.Rule,I a0.Days] 63,rd eChainSection 4 A1 c2 a0.Sections,rd intE 1 A4 c5 a0.Turns,rd eChainSurvey 4 A7 c8 a0.Surveys,gW2]:=S16.asP k_
    obtain ⟨_,_,_,_,⟨A186,c187,A188,c189,A190,c191,m192,A193,c194⟩,q206,p207,a208⟩:=hR_ 9 20 rfl (lE rfl) rfl
    replace q206:e_ 20=TU [AG [SL A186 r182.1.ChainBook.Sections.length c187,SL A188 r182.1.ChainBook.Turns.length c189,SL A190 r182.1.ChainBook.Surveys.length c191,I r182.1.ChainBook.Rule,I r182.1.ChainBook.Days,Value.map m192,SL A193 r182.1.truths_.length c194],I r182.2]:=q206
    have S_:=St.addL' S_ (a208 _ (.head _)) (fun _ _ _ h_=>(nE h_))
    have S_:=St.addL' S_ (a208 _ (.tail _ (.head _))) (fun _ _ _ h_=>(nE h_))
    have S_:=St.addL' S_ (a208 _ (.tail _ (.tail _ (.head _)))) (fun _ _ _ h_=>(nE h_))
    have S_:=St.addL' S_ (a208 _ (.tail _ (.tail _ (.tail _ (.head _))))) (fun _ _ _ h_=>(nE h_))
    have S_:=St.addL' S_ (a208 _ (.tail _ (.tail _ (.tail _ (.tail _ (.head _)))))) (fun _ _ _ h_=>(nE h_))
    refine hopE [(20,TU [AG [SL A186 r182.1.ChainBook.Sections.length c187,SL A188 r182.1.ChainBook.Turns.length c189,SL A190 r182.1.ChainBook.Surveys.length c191,I r182.1.ChainBook.Rule,I r182.1.ChainBook.Days,Value.map m192,SL A193 r182.1.truths_.length c194],I r182.2])] ⟨q206,trivial⟩ ?_
    refine p_mT rfl<|wp_nil ?_
    exact ⟨_,rfl,S_.keep,rfl⟩
   ·intro e_ w_ k_ hf_ hR_
    have S_:St w_ nF w_ [] [bl b14 [I 0,I 0] 23,bl b11 [SL A1 a0.Sections.length c2,SL A4 a0.Turns.length c5,SL A7 a0.Surveys.length c8,I a0.Rule,I a0.Days] 63,rd eChainSection 4 A1 c2 a0.Sections,rd intE 1 A4 c5 a0.Turns,rd eChainSurvey 4 A7 c8 a0.Surveys,gW2]:=S16.asP k_
    obtain ⟨_,_,_,_,⟨A186,c187,A188,c189,A190,c191,m192,A193,c194⟩,q210,p211,a212⟩:=hR_ 9 20 rfl (lE rfl) rfl
    replace q210:e_ 20=TU [AG [SL A186 r182.1.ChainBook.Sections.length c187,SL A188 r182.1.ChainBook.Turns.length c189,SL A190 r182.1.ChainBook.Surveys.length c191,I r182.1.ChainBook.Rule,I r182.1.ChainBook.Days,Value.map m192,SL A193 r182.1.truths_.length c194],I r182.2]:=q210
    have S_:=St.addL' S_ (a212 _ (.head _)) (fun _ _ _ h_=>(nE h_))
    have S_:=St.addL' S_ (a212 _ (.tail _ (.head _))) (fun _ _ _ h_=>(nE h_))
    have S_:=St.addL' S_ (a212 _ (.tail _ (.tail _ (.head _)))) (fun _ _ _ h_=>(nE h_))
    have S_:=St.addL' S_ (a212 _ (.tail _ (.tail _ (.tail _ (.head _))))) (fun _ _ _ h_=>(nE h_))
    have S_:=St.addL' S_ (a212 _ (.tail _ (.tail _ (.tail _ (.tail _ (.head _)))))) (fun _ _ _ h_=>(nE h_))
    obtain ⟨_,_,_,_,q209⟩:=hR_ 10 10 rfl (lE rfl) rfl
    replace q209:e_ 10=TU [AG [SL A186 r182.1.ChainBook.Sections.length c187,SL A188 r182.1.ChainBook.Turns.length c189,SL A190 r182.1.ChainBook.Surveys.length c191,I r182.1.ChainBook.Rule,I r182.1.ChainBook.Days,Value.map m192,SL A193 r182.1.truths_.length c194],I r182.2]:=(sJ ((congrArg some q210).symm.trans q209)).symm
    refine hopE [(10,TU [AG [SL A186 r182.1.ChainBook.Sections.length c187,SL A188 r182.1.ChainBook.Turns.length c189,SL A190 r182.1.ChainBook.Surveys.length c191,I r182.1.ChainBook.Rule,I r182.1.ChainBook.Days,Value.map m192,SL A193 r182.1.truths_.length c194],I r182.2])] ⟨q209,trivial⟩ ?_
    refine p_ext rfl rfl<|wp_nil ?_
    exact ⟨_,rfl,S_.keep,rfl⟩
   ·intro e_ w_ k_ hf_ hR_
    have S_:St w_ nF w_ [] [bl b14 [I 0,I 0] 23,bl b11 [SL A1 a0.Sections.length c2,SL A4 a0.Turns.length c5,SL A7 a0.Surveys.length c8,I a0.Rule,I a0.Days] 63,rd eChainSection 4 A1 c2 a0.Sections,rd intE 1 A4 c5 a0.Turns,rd eChainSurvey 4 A7 c8 a0.Surveys,gW2]:=S16.asP k_
    obtain ⟨_,_,_,_,⟨A186,c187,A188,c189,A190,c191,m192,A193,c194⟩,q214,p215,a216⟩:=hR_ 9 20 rfl (lE rfl) rfl
    replace q214:e_ 20=TU [AG [SL A186 r182.1.ChainBook.Sections.length c187,SL A188 r182.1.ChainBook.Turns.length c189,SL A190 r182.1.ChainBook.Surveys.length c191,I r182.1.ChainBook.Rule,I r182.1.ChainBook.Days,Value.map m192,SL A193 r182.1.truths_.length c194],I r182.2]:=q214
    have S_:=St.addL' S_ (a216 _ (.head _)) (fun _ _ _ h_=>(nE h_))
    have S_:=St.addL' S_ (a216 _ (.tail _ (.head _))) (fun _ _ _ h_=>(nE h_))
    have S_:=St.addL' S_ (a216 _ (.tail _ (.tail _ (.head _)))) (fun _ _ _ h_=>(nE h_))
    have S_:=St.addL' S_ (a216 _ (.tail _ (.tail _ (.tail _ (.head _))))) (fun _ _ _ h_=>(nE h_))
    have S_:=St.addL' S_ (a216 _ (.tail _ (.tail _ (.tail _ (.tail _ (.head _)))))) (fun _ _ _ h_=>(nE h_))
    obtain ⟨_,_,_,_,q213⟩:=hR_ 10 10 rfl (lE rfl) rfl
    replace q213:e_ 10=TU [AG [SL A186 r182.1.ChainBook.Sections.length c187,SL A188 r182.1.ChainBook.Turns.length c189,SL A190 r182.1.ChainBook.Surveys.length c191,I r182.1.ChainBook.Rule,I r182.1.ChainBook.Days,Value.map m192,SL A193 r182.1.truths_.length c194],I r182.2]:=(sJ ((congrArg some q214).symm.trans q213)).symm
    refine hopE [(10,TU [AG [SL A186 r182.1.ChainBook.Sections.length c187,SL A188 r182.1.ChainBook.Turns.length c189,SL A190 r182.1.ChainBook.Surveys.length c191,I r182.1.ChainBook.Rule,I r182.1.ChainBook.Days,Value.map m192,SL A193 r182.1.truths_.length c194],I r182.2])] ⟨q213,trivial⟩ ?_
    refine p_ext rfl rfl<|wp_nil ?_
    exact ⟨_,rfl,S_.keep,rfl⟩
   ·intro e_ w_ k_ hf_ hR_
    have S_:St w_ nF w_ [] [bl b14 [I 0,I 0] 23,bl b11 [SL A1 a0.Sections.length c2,SL A4 a0.Turns.length c5,SL A7 a0.Surveys.length c8,I a0.Rule,I a0.Days] 63,rd eChainSection 4 A1 c2 a0.Sections,rd intE 1 A4 c5 a0.Turns,rd eChainSurvey 4 A7 c8 a0.Surveys,gW2]:=S16.asP k_
    refine hopE [] trivial ?_
    refine p_allA in120 S_ fun b217 w218 S219=>wp_nil ?_
    exact ⟨_,rfl,S219.keep,⟨b217,rfl,⟨bL (New.al (S219.newX (i:=0) rfl)) rfl (S219.atX (i:=0) rfl) rfl,trivial⟩,(cA (S219.atX (i:=0) rfl) nM)⟩⟩
   ·intro e220 w221 lo222 hi223 k224 hf225 hR226 hd227
    have S228:=S16.call k224
    have q229:e220 11=AG [SL A1 a0.Sections.length c2,SL A4 a0.Turns.length c5,SL A7 a0.Surveys.length c8,I a0.Rule,I a0.Days]:=(hR226 0 11 (lE rfl) rfl).2.2.2
    have q230:e220 12=AG [SL A1 a0.Sections.length c2,SL A4 a0.Turns.length c5,SL A7 a0.Surveys.length c8,I a0.Rule,I a0.Days]:=(hR226 1 12 (lE rfl) rfl).2.2.2
    have q231:e220 13=I a1:=(hR226 2 13 (lE rfl) rfl).2.2.2
    have q232:e220 14=B r19:=(hR226 3 14 (lE rfl) rfl).2.2.2
    have q233:e220 15=B false:=(hR226 4 15 (lE rfl) rfl).2.2.2
    have q234:e220 16=undef:=(hR226 5 16 (lE rfl) rfl).2.2.2
    have q235:e220 17=undef:=(hR226 6 17 (lE rfl) rfl).2.2.2
    have q236:e220 18=undef:=(hR226 7 18 (lE rfl) rfl).2.2.2
    have q237:e220 19=B false:=(hR226 8 19 (lE rfl) rfl).2.2.2
    obtain ⟨h239,h240,h241,⟨A186,c187,A188,c189,A190,c191,m192,A193,c194⟩,q238,h242,h243⟩:=hR226 9 20 (lE rfl) rfl
    replace q238:e220 20=TU [AG [SL A186 r182.1.ChainBook.Sections.length c187,SL A188 r182.1.ChainBook.Turns.length c189,SL A190 r182.1.ChainBook.Surveys.length c191,I r182.1.ChainBook.Rule,I r182.1.ChainBook.Days,Value.map m192,SL A193 r182.1.truths_.length c194],I r182.2]:=q238
    obtain ⟨p244,p245,p246,p247,p248,_⟩:=h242
    have S249:=St.addR S228 (h243 _ (.head _)) (oR p244 h239 S16 (mG [0,1,2] rfl))
    have S250:=St.addR S249 (h243 _ (.tail _ (.head _))) (oR p245 h239 S16 (mG [0,1,2] rfl))
    have S251:=St.addR S250 (h243 _ (.tail _ (.tail _ (.head _)))) (oR p246 h239 S16 (mG [0,1,2] rfl))
    have S252:=St.addR S251 (h243 _ (.tail _ (.tail _ (.tail _ (.head _))))) (oR p247 h239 S16 (nM))
    have S253:=St.addR S252 (h243 _ (.tail _ (.tail _ (.tail _ (.tail _ (.head _)))))) (oR p248 h239 S16 (nM))
    have q254:e220 10=TU [AG [SL A186 r182.1.ChainBook.Sections.length c187,SL A188 r182.1.ChainBook.Turns.length c189,SL A190 r182.1.ChainBook.Surveys.length c191,I r182.1.ChainBook.Rule,I r182.1.ChainBook.Days,Value.map m192,SL A193 r182.1.truths_.length c194],I r182.2]:=(sJ ((congrArg some q238).symm.trans (hR226 10 10 (lE rfl) rfl).2.2.2)).symm
    have q255:e220 21=AG [SL A186 r182.1.ChainBook.Sections.length c187,SL A188 r182.1.ChainBook.Turns.length c189,SL A190 r182.1.ChainBook.Surveys.length c191,I r182.1.ChainBook.Rule,I r182.1.ChainBook.Days,Value.map m192,SL A193 r182.1.truths_.length c194]:=(sJ ((congrArg (exG 0) q254).symm.trans (hR226 11 21 (lE rfl) rfl).2.2.2)).symm
    have q256:e220 22=I r182.2:=(sJ ((congrArg (exG 1) q254).symm.trans (hR226 12 22 (lE rfl) rfl).2.2.2)).symm
    obtain ⟨h258,h259,h260,b217,q257,h261,h262⟩:=hR226 13 8 (lE rfl) rfl
    replace q257:e220 8=P b217 0:=q257
    obtain ⟨p263,_⟩:=h261
    have S265:=St.addO S253 (h262 _ (.head _)) (oN p263 h258 S16) (oX p263 h258 S16) (cA (oP p263 p248 h258 S16 (nM) (hd227 13 9 (lE rfl) (lE rfl) (by decide))) (cA (oP p263 p247 h258 S16 (nM) (hd227 13 9 (lE rfl) (lE rfl) (by decide))) (cA (oP p263 p246 h258 S16 (mG [0,1,2] rfl) (hd227 13 9 (lE rfl) (lE rfl) (by decide))) (cA (oP p263 p245 h258 S16 (mG [0,1,2] rfl) (hd227 13 9 (lE rfl) (lE rfl) (by decide))) (cA (oP p263 p244 h258 S16 (mG [0,1,2] rfl) (hd227 13 9 (lE rfl) (lE rfl) (by decide))) (oL p263 h258 S16))))))
    refine tailE [(1,I a1),(2,I a2),(3,P b11 0),(6,P b14 0),(8,P b217 0),(21,AG [SL A186 r182.1.ChainBook.Sections.length c187,SL A188 r182.1.ChainBook.Turns.length c189,SL A190 r182.1.ChainBook.Surveys.length c191,I r182.1.ChainBook.Rule,I r182.1.ChainBook.Days,Value.map m192,SL A193 r182.1.truths_.length c194]),(22,I r182.2)] ⟨((hf225 1 rfl).trans (rfl:_=I a1)),((hf225 2 rfl).trans (rfl:_=I a2)),((hf225 3 rfl).trans (rfl:_=P b11 0)),((hf225 6 rfl).trans (rfl:_=P b14 0)),q257,q255,q256,trivial⟩ ?_
    intro g266
    refine p_stP (pre:=[]) (old:=[SL none 0 0,SL none 0 0,SL none 0 0,I 0,I 0,Value.map none,SL none 0 0]) (post:=[]) (vs:=[SL A186 r182.1.ChainBook.Sections.length c187,SL A188 r182.1.ChainBook.Turns.length c189,SL A190 r182.1.ChainBook.Surveys.length c191,I r182.1.ChainBook.Rule,I r182.1.ChainBook.Days,Value.map m192,SL A193 r182.1.truths_.length c194]) sz120 S265 (i:=0) rfl rfl rfl rfl (rfl:_=AG [SL A186 r182.1.ChainBook.Sections.length c187,SL A188 r182.1.ChainBook.Turns.length c189,SL A190 r182.1.ChainBook.Surveys.length c191,I r182.1.ChainBook.Rule,I r182.1.ChainBook.Days,Value.map m192,SL A193 r182.1.truths_.length c194]) rfl rfl rfl rfl fun w267 S268=>?_
    refine p_aI rfl<|wp_nil ?_
    have S269:=S268.pk [0,1,2] (by decide) [4,3,2,1,0,5,6,7,8] rfl rfl
    exact ⟨(r182.1.ChainBook.Sections,r182.1.ChainBook.Turns,r182.1.ChainBook.Surveys,r182.1.ChainBook.Rule,r182.1.ChainBook.Days,r182.1.read_,r182.1.truths_,r182.2),(b217,A186,c187,A188,c189,A190,c191,m192,A193,c194),_,rfl,⟨rfl,rfl,rfl,rfl,rfl,rfl,trivial⟩,H,S269⟩
   ·intro e269 w270 lo271 hi272 k273 hf274 hR275 hd276
    have S277:=S16.call k273
    have q278:e269 11=AG [SL A1 a0.Sections.length c2,SL A4 a0.Turns.length c5,SL A7 a0.Surveys.length c8,I a0.Rule,I a0.Days]:=(hR275 0 11 (lE rfl) (by decide) rfl).2.2.2
    have q279:e269 12=AG [SL A1 a0.Sections.length c2,SL A4 a0.Turns.length c5,SL A7 a0.Surveys.length c8,I a0.Rule,I a0.Days]:=(hR275 1 12 (lE rfl) (by decide) rfl).2.2.2
    have q280:e269 13=I a1:=(hR275 2 13 (lE rfl) (by decide) rfl).2.2.2
    have q281:e269 14=B r19:=(hR275 3 14 (lE rfl) (by decide) rfl).2.2.2
    have q282:e269 15=B false:=(hR275 4 15 (lE rfl) (by decide) rfl).2.2.2
    have q283:e269 16=undef:=(hR275 5 16 (lE rfl) (by decide) rfl).2.2.2
    have q284:e269 17=undef:=(hR275 6 17 (lE rfl) (by decide) rfl).2.2.2
    have q285:e269 18=undef:=(hR275 7 18 (lE rfl) (by decide) rfl).2.2.2
    have q286:e269 19=B false:=(hR275 8 19 (lE rfl) (by decide) rfl).2.2.2
    obtain ⟨h288,h289,h290,⟨A186,c187,A188,c189,A190,c191,m192,A193,c194⟩,q287,h291,h292⟩:=hR275 9 20 (lE rfl) (by decide) rfl
    replace q287:e269 20=TU [AG [SL A186 r182.1.ChainBook.Sections.length c187,SL A188 r182.1.ChainBook.Turns.length c189,SL A190 r182.1.ChainBook.Surveys.length c191,I r182.1.ChainBook.Rule,I r182.1.ChainBook.Days,Value.map m192,SL A193 r182.1.truths_.length c194],I r182.2]:=q287
    obtain ⟨p293,p294,p295,p296,p297,_⟩:=h291
    have S298:=St.addR S277 (h292 _ (.head _)) (oR p293 h288 S16 (mG [0,1,2] rfl))
    have S299:=St.addR S298 (h292 _ (.tail _ (.head _))) (oR p294 h288 S16 (mG [0,1,2] rfl))
    have S300:=St.addR S299 (h292 _ (.tail _ (.tail _ (.head _)))) (oR p295 h288 S16 (mG [0,1,2] rfl))
    have S301:=St.addR S300 (h292 _ (.tail _ (.tail _ (.tail _ (.head _))))) (oR p296 h288 S16 (nM))
    have S302:=St.addR S301 (h292 _ (.tail _ (.tail _ (.tail _ (.tail _ (.head _)))))) (oR p297 h288 S16 (nM))
    have q303:e269 10=TU [AG [SL A186 r182.1.ChainBook.Sections.length c187,SL A188 r182.1.ChainBook.Turns.length c189,SL A190 r182.1.ChainBook.Surveys.length c191,I r182.1.ChainBook.Rule,I r182.1.ChainBook.Days,Value.map m192,SL A193 r182.1.truths_.length c194],I r182.2]:=(sJ ((congrArg some q287).symm.trans (hR275 10 10 (lE rfl) (by decide) rfl).2.2.2)).symm
    have q304:e269 21=AG [SL A186 r182.1.ChainBook.Sections.length c187,SL A188 r182.1.ChainBook.Turns.length c189,SL A190 r182.1.ChainBook.Surveys.length c191,I r182.1.ChainBook.Rule,I r182.1.ChainBook.Days,Value.map m192,SL A193 r182.1.truths_.length c194]:=(sJ ((congrArg (exG 0) q303).symm.trans (hR275 11 21 (lE rfl) (by decide) rfl).2.2.2)).symm
    obtain ⟨h306,h307,h308,b217,q305,h309,h310⟩:=hR275 13 8 (lE rfl) (by decide) rfl
    replace q305:e269 8=P b217 0:=q305
    obtain ⟨p311,_⟩:=h309
    have S313:=St.addO S302 (h310 _ (.head _)) (oN p311 h306 S16) (oX p311 h306 S16) (cA (oP p311 p297 h306 S16 (nM) (hd276 13 9 (lE rfl) (lE rfl) (by decide) (by decide) (by decide))) (cA (oP p311 p296 h306 S16 (nM) (hd276 13 9 (lE rfl) (lE rfl) (by decide) (by decide) (by decide))) (cA (oP p311 p295 h306 S16 (mG [0,1,2] rfl) (hd276 13 9 (lE rfl) (lE rfl) (by decide) (by decide) (by decide))) (cA (oP p311 p294 h306 S16 (mG [0,1,2] rfl) (hd276 13 9 (lE rfl) (lE rfl) (by decide) (by decide) (by decide))) (cA (oP p311 p293 h306 S16 (mG [0,1,2] rfl) (hd276 13 9 (lE rfl) (lE rfl) (by decide) (by decide) (by decide))) (oL p311 h306 S16))))))
    refine tailE [(1,I a1),(2,I a2),(3,P b11 0),(6,P b14 0),(8,P b217 0),(10,TU [AG [SL A186 r182.1.ChainBook.Sections.length c187,SL A188 r182.1.ChainBook.Turns.length c189,SL A190 r182.1.ChainBook.Surveys.length c191,I r182.1.ChainBook.Rule,I r182.1.ChainBook.Days,Value.map m192,SL A193 r182.1.truths_.length c194],I r182.2]),(21,AG [SL A186 r182.1.ChainBook.Sections.length c187,SL A188 r182.1.ChainBook.Turns.length c189,SL A190 r182.1.ChainBook.Surveys.length c191,I r182.1.ChainBook.Rule,I r182.1.ChainBook.Days,Value.map m192,SL A193 r182.1.truths_.length c194])] ⟨((hf274 1 rfl).trans (rfl:_=I a1)),((hf274 2 rfl).trans (rfl:_=I a2)),((hf274 3 rfl).trans (rfl:_=P b11 0)),((hf274 6 rfl).trans (rfl:_=P b14 0)),q305,q303,q304,trivial⟩ ?_
    intro g314
    refine p_stP (pre:=[]) (old:=[SL none 0 0,SL none 0 0,SL none 0 0,I 0,I 0,Value.map none,SL none 0 0]) (post:=[]) (vs:=[SL A186 r182.1.ChainBook.Sections.length c187,SL A188 r182.1.ChainBook.Turns.length c189,SL A190 r182.1.ChainBook.Surveys.length c191,I r182.1.ChainBook.Rule,I r182.1.ChainBook.Days,Value.map m192,SL A193 r182.1.truths_.length c194]) sz120 S313 (i:=0) rfl rfl rfl rfl (rfl:_=AG [SL A186 r182.1.ChainBook.Sections.length c187,SL A188 r182.1.ChainBook.Turns.length c189,SL A190 r182.1.ChainBook.Surveys.length c191,I r182.1.ChainBook.Rule,I r182.1.ChainBook.Days,Value.map m192,SL A193 r182.1.truths_.length c194]) rfl rfl rfl rfl fun w315 S316=>?_
    refine p_ext rfl rfl<|p_aI rfl<|wp_nil ?_
    have S317:=S316.pk [0,1,2] (by decide) [4,3,2,1,0,5,6,7,8] rfl rfl
    exact ⟨(r182.1.ChainBook.Sections,r182.1.ChainBook.Turns,r182.1.ChainBook.Surveys,r182.1.ChainBook.Rule,r182.1.ChainBook.Days,r182.1.read_,r182.1.truths_,r182.2),(b217,A186,c187,A188,c189,A190,c191,m192,A193,c194),_,rfl,⟨rfl,rfl,rfl,rfl,rfl,rfl,trivial⟩,H,S317⟩
 ·intro z_1 y_1 e17 w18 S19; obtain ⟨H,S19⟩:=S19
  unfold chain_Thick_j1 at H
  refine c_seq<|c_seq<|reg<|p_mI rfl<|p_cmp rfl rfl rfl<|wp_nil ?_
  refine c_cond rfl (fun c20=>?_) (fun c20=>?_)
  ·replace H:=condT c20 H
   refine c_seq<|reg<|p_bld (cs:=[I 0,I 0]) st23 (rfl:_=[]) (by kernel_rfl)<|p_mI rfl<|p_stP (pre:=[]) (old:=[I 0,I 0]) (post:=[]) (vs:=[I 0,I 0]) sz23 S19 (i:=1) rfl rfl rfl rfl (rfl:_=AG [I 0,I 0]) rfl rfl rfl rfl fun w21 S22=>p_aI rfl<|wp_nil ?_
   obtain rfl:=sJ H
   refine c_ret ?_; show bodyPostM (Fr none) 0 Tryd.prog Tryd.f26 _ .ret _ _
   refine ret_of (res2 rfl (rvA rfl ty23 sz23 (S22.atX (i:=1) rfl) rfl) (rvT (rfl:_=I z_1.2.2.2.2.2.2.2))) ?_
   exact ⟨_,rfl,rfl,S22.keep⟩
  ·replace H:=condF c20 H
   refine c_skip<|c_seq<|reg<|p_ldA ty120 sz120 (S19.atX (i:=0) rfl) rfl rfl<|p_mI rfl<|p_mI rfl<|p_fld fl63_1 rfl<|p_ld ty42 (S19.atX (i:=2) rfl) rfl rfl ?_
   obtain ⟨r23,h24,H⟩:=bindS H
   refine p_cv (chain_book_thick_ok h24 (S19.atP (i:=0) rfl) (S19.atP (i:=1) rfl) (S19.atP (i:=2) rfl) (S19.atP (i:=3) rfl) (S19.atP (i:=4) rfl) (S19.atP (i:=6) rfl)) fu60 rfl S19 fun w25 S26=>p_stP (pre:=[]) (old:=[I 0,I 0]) (post:=[]) (vs:=[I r23.Low,I r23.High]) sz23 S26 (i:=1) rfl rfl rfl rfl (rfl:_=AG [I r23.Low,I r23.High]) rfl rfl rfl rfl fun w27 S28=>p_aI rfl<|wp_nil ?_
   obtain rfl:=sJ H
   refine c_ret ?_; show bodyPostM (Fr none) 0 Tryd.prog Tryd.f26 _ .ret _ _
   refine ret_of (res2 rfl (rvA rfl ty23 sz23 (S28.atX (i:=1) rfl) rfl) (rvT (rfl:_=I 0))) ?_
   exact ⟨_,rfl,rfl,S28.keep⟩
def coal_eaten_1 (a0:Coal_truth) (q0:Int):Option Int:=
 need (inI q0 2)<|
 some (aget a0.eats_ q0)
set_option maxRecDepth 100000 in
theorem coal_eaten_1_ok {a0:Coal_truth}{q0:Int}{b1:Nat}{w:World}{r:Int} (H:coal_eaten_1 a0 q0=some r) (h2:(bl b1 [I q0] 3).ok w):Calls Tryd.prog 84 #[AG (sg a0.eats_ 2++([I a0.collier_]++(sg a0.winds_ 6++sg a0.coal_ 6))),P b1 0] w (RetV w (I r)):=by
 unfold coal_eaten_1 at H
 refine fn_of (n:=8) Tryd.func84 rfl rfl (lE rfl) ?_
 have S:=St.start w nF _ (cA h2 nM)
 refine c_seq<|reg<|p_boxA rfl S fun b3 w4 S5=>p_aI rfl<|wp_nil<|c_seq<|reg<|p_ld ty3 (S5.atP (i:=0) rfl) rfl rfl<|p_fld fl113_0 rfl ?_
 obtain ⟨h6,H⟩:=needS H
 refine p_ixD ar110 h6 rfl rfl<|p_ldD (pre:=[]) (post:=[I a0.collier_]++(sg a0.winds_ 6++sg a0.coal_ 6)) ty3 (S5.atX (i:=0) rfl) rfl h6 rfl rfl<|p_aI rfl<|wp_nil ?_
 obtain rfl:=sJ H
 exact c_ret (rT Tryd.f84 S5.keep rfl rfl)
def coal_eaten (a0:Int):Option Unit:=
 some ()
set_option maxRecDepth 100000 in
theorem coal_eaten_ok {a0:Int}{w:World}{r:Unit} (H:coal_eaten a0=some r):Calls Tryd.prog 62 #[I a0] w fun en w_=>∃ u_,en=.returned u_∧∃ b_1:Nat,u_=AG [vF (.func 84) #[] #[P b_1 0]]∧Keep0 w w_∧((bl b_1 [I a0] 3).ok w_∧New w.heap.size (bl b_1 [I a0] 3))∧True:=by
 unfold coal_eaten at H
 refine fn_of (n:=5) Tryd.func62 rfl rfl (lE rfl) ?_
 have S:=St.start w nF _ nM
 refine c_seq<|reg<|p_box (rfl:_=I a0) rfl S fun b1 w2 S3=>p_allA in103 S3 fun b4 w5 S6=>wp_nil<|c_seq<|reg ?_
 refine o_fun (rfl:_=[]) (rfl:_=[P b1 0]) ?_
 refine p_bld (cs:=[vF (.func 84) #[] #[P b1 0]]) st103 (rfl:_=[(0,vF (.func 84) #[] #[P b1 0])]) (by kernel_rfl)<|p_stP (pre:=[]) (old:=[Value.nilFunc]) (post:=[]) (vs:=[vF (.func 84) #[] #[P b1 0]]) sz103 S6 (i:=0) rfl rfl rfl rfl (rfl:_=AG [vF (.func 84) #[] #[P b1 0]]) rfl rfl rfl rfl fun w7 S8=>wp_nil ?_
 obtain rfl:=sJ H
 refine c_ret ?_; show bodyPostM (Fr none) 0 Tryd.prog Tryd.f62 _ .ret _ _
 refine ret_of (res1 rfl (rvA rfl ty103 sz103 (S8.atX (i:=0) rfl) rfl)) ?_
 exact ⟨_,rfl,b1,rfl,S8.keep,⟨S8.atX (i:=1) rfl,S8.newX (i:=1) rfl⟩,trivial⟩
def coal_Eats (a0:CoalBook) (a1:Int):Option (Span×Int):=
 (coal_within a1 0 1).bind fun r15=>
 (coal_asked a0 r15).bind fun r21=>
 bif (r21.2 != 0) then (some ((Span.mk 0 0),r21.2))
 else ((coal_eaten a1).bind fun r96=>
 (coal_book_span r21.1 (Coal_number.mk (fun y107=>coal_eaten_1 y107 a1))).bind fun r108=>
 some (r108,0))
set_option maxRecDepth 100000 in
theorem coal_Eats_ok {a0:CoalBook}{a1:Int}{A1:Option Addr}{c2:Nat}{A4:Option Addr}{c5:Nat}{w:World}{r:Span×Int} (H:coal_Eats a0 a1=some r) (h3:(rd eCoalDay 3 A1 c2 a0.Days).ok w) (h6:(rd eCoalDip 3 A4 c5 a0.Dips).ok w) (hg7:(gW0).ok w):Calls Tryd.prog 27 #[AG ([I a0.Heap.Low,I a0.Heap.High]++(sgE eSpan a0.Eats 2++(sg a0.Extra 3++[SL A1 a0.Days.length c2,I a0.Collier.Low,I a0.Collier.High,I a0.Brings,SL A4 a0.Dips.length c5]))),I a1] w (RetV w (TU [AG [I r.1.Low,I r.1.High],I r.2])):=by
 unfold coal_Eats at H
 refine fn_of (n:=23) Tryd.func27 rfl rfl (lE rfl) ?_
 have S:=St.start w nF _ (cA h3 (cA h6 (cA hg7 nM)))
 refine c_seq<|reg<|p_boxA rfl S fun b8 w9 S10=>p_allA in23 S10 fun b11 w12 S13=>p_aI rfl<|wp_nil<|c_seq ?_
 obtain ⟨r15,h16,H⟩:=bindS H
 obtain ⟨r21,h22,H⟩:=bindS H
 refine reg_fl mixed 8 6 (by kernel_rfl) [rv (AG ([I a0.Heap.Low,I a0.Heap.High]++(sgE eSpan a0.Eats 2++(sg a0.Extra 3++[SL A1 a0.Days.length c2,I a0.Collier.Low,I a0.Collier.High,I a0.Brings,SL A4 a0.Dips.length c5])))),rv (I a1),rv (B r15),rx (α:=(Option Addr)×Nat×(Option Addr)×Nat×(Option Nat)) (fun ⟨A25,c26,A27,c28,m29⟩=>TU [AG ([I r21.1.CoalBook.Heap.Low,I r21.1.CoalBook.Heap.High]++(sgE eSpan r21.1.CoalBook.Eats 2++(sg r21.1.CoalBook.Extra 3++[SL A25 r21.1.CoalBook.Days.length c26,I r21.1.CoalBook.Collier.Low,I r21.1.CoalBook.Collier.High,I r21.1.CoalBook.Brings,SL A27 r21.1.CoalBook.Dips.length c28,Value.map m29]))),I r21.2]) (fun ⟨A25,c26,A27,c28,m29⟩ lo hi=>BtwL lo hi [rd eCoalDay 3 A1 c2 a0.Days,rd eCoalDip 3 A4 c5 a0.Dips] (rd eCoalDay 3 A25 c26 r21.1.CoalBook.Days)∧BtwL lo hi [] (rd eCoalDip 3 A27 c28 r21.1.CoalBook.Dips)∧BtwL lo hi [] (mpo ekG iE m29 r21.1.costs_)∧True) (fun ⟨A25,c26,A27,c28,m29⟩=>[rd eCoalDay 3 A25 c26 r21.1.CoalBook.Days,rd eCoalDip 3 A27 c28 r21.1.CoalBook.Dips,mpo ekG iE m29 r21.1.costs_]),dv 12 some,dv 8 (exG 0),dv 8 (exG 1),rx (α:=Nat) (fun b48=>P b48 0) (fun b48 lo hi=>BtwL lo hi [] (bl b48 ([I 0,I 0]++(sgE eSpan (List.replicate 2 (Span.mk 0 0)) 2++(sg (List.replicate 3 0) 3++[SL none 0 0,I 0,I 0,I 0,SL none 0 0,Value.map none]))) 84)∧True) (fun b48=>[bl b48 ([I 0,I 0]++(sgE eSpan (List.replicate 2 (Span.mk 0 0)) 2++(sg (List.replicate 3 0) 3++[SL none 0 0,I 0,I 0,I 0,SL none 0 0,Value.map none]))) 84])] [[],[],[],[],[12],[8],[8],[]] rfl (by kernel_rfl) [[],[],[1],[0,1,2],[0,1,2,3],[0,1,2,3,4],[0,1,2,3,4],[],[0,1,2,3,4,5,7],[0,1,2,3,4,5,6,7,8]] (by kernel_rfl) ⟨?_,?_,?_,?_,?_,?_,?_,?_,trivial⟩ ?_ ?_
 ·intro e_ w_ k_ hf_ hR_
  have S_:St w_ nF w_ [] [bl b11 [I 0,I 0] 23,bl b8 ([I a0.Heap.Low,I a0.Heap.High]++(sgE eSpan a0.Eats 2++(sg a0.Extra 3++[SL A1 a0.Days.length c2,I a0.Collier.Low,I a0.Collier.High,I a0.Brings,SL A4 a0.Dips.length c5]))) 29,rd eCoalDay 3 A1 c2 a0.Days,rd eCoalDip 3 A4 c5 a0.Dips,gW0]:=S13.asP k_
  refine hopE [(2,P b8 0)] ⟨((hf_ 2 rfl).trans (rfl:_=P b8 0)),trivial⟩ ?_
  exact p_ldA ty29 sz29 (S_.atP (i:=1) rfl) rfl rfl<|wp_nil ⟨_,rfl,S_.keep,rfl⟩
 ·intro e_ w_ k_ hf_ hR_
  have S_:St w_ nF w_ [] [bl b11 [I 0,I 0] 23,bl b8 ([I a0.Heap.Low,I a0.Heap.High]++(sgE eSpan a0.Eats 2++(sg a0.Extra 3++[SL A1 a0.Days.length c2,I a0.Collier.Low,I a0.Collier.High,I a0.Brings,SL A4 a0.Dips.length c5]))) 29,rd eCoalDay 3 A1 c2 a0.Days,rd eCoalDip 3 A4 c5 a0.Dips,gW0]:=S13.asP k_
  refine hopE [(1,I a1)] ⟨((hf_ 1 rfl).trans (rfl:_=I a1)),trivial⟩ ?_
  exact p_mI rfl<|wp_nil ⟨_,rfl,S_.keep,rfl⟩
 ·intro e_ w_ k_ hf_ hR_
  have S_:St w_ nF w_ [] [bl b11 [I 0,I 0] 23,bl b8 ([I a0.Heap.Low,I a0.Heap.High]++(sgE eSpan a0.Eats 2++(sg a0.Extra 3++[SL A1 a0.Days.length c2,I a0.Collier.Low,I a0.Collier.High,I a0.Brings,SL A4 a0.Dips.length c5]))) 29,rd eCoalDay 3 A1 c2 a0.Days,rd eCoalDip 3 A4 c5 a0.Dips,gW0]:=S13.asP k_
  refine hopE [(10,I a1)] ⟨rQ (hR_ 1 10 rfl (lE rfl) rfl),trivial⟩ ?_
  refine p_cv (coal_within_ok h16) fu61 rfl S_ fun w17 S18=>wp_nil ?_
  exact ⟨_,rfl,S18.keep,rfl⟩
 ·intro e_ w_ k_ hf_ hR_
  have S_:St w_ nF w_ [] [bl b11 [I 0,I 0] 23,bl b8 ([I a0.Heap.Low,I a0.Heap.High]++(sgE eSpan a0.Eats 2++(sg a0.Extra 3++[SL A1 a0.Days.length c2,I a0.Collier.Low,I a0.Collier.High,I a0.Brings,SL A4 a0.Dips.length c5]))) 29,rd eCoalDay 3 A1 c2 a0.Days,rd eCoalDip 3 A4 c5 a0.Dips,gW0]:=S13.asP k_
  refine hopE [(9,AG ([I a0.Heap.Low,I a0.Heap.High]++(sgE eSpan a0.Eats 2++(sg a0.Extra 3++[SL A1 a0.Days.length c2,I a0.Collier.Low,I a0.Collier.High,I a0.Brings,SL A4 a0.Dips.length c5])))),(11,B r15)] ⟨rQ (hR_ 0 9 rfl (lE rfl) rfl),rQ (hR_ 2 11 rfl (lE rfl) rfl),trivial⟩ ?_
  refine p_cal (coal_asked_ok h22 (S_.atP (i:=2) rfl) (S_.atP (i:=3) rfl) (S_.atP (i:=4) rfl)) fu44 rfl ?_
  rintro _ w23 ⟨A25,c26,A27,c28,m29,rfl,k24,⟨o30,n31⟩,⟨o32,n33⟩,⟨o34,n35⟩,_⟩
  have S36:=S_.callN k24 [rd eCoalDay 3 A25 c26 r21.1.CoalBook.Days,rd eCoalDip 3 A27 c28 r21.1.CoalBook.Dips,mpo ekG iE m29 r21.1.costs_] (cA ⟨o30,Al.inL n31 ((cA (fp_mem (i:=2) rfl) (cA (fp_mem (i:=3) rfl) nM)))⟩ (cA ⟨o32,New.inL n33⟩ (cA ⟨o34,New.inL n35⟩ nM)))
  exact wp_nil ⟨_,rfl,S36.keep,⟨(A25,c26,A27,c28,m29),rfl,⟨bL n31 rfl (S36.atP (i:=0) rfl) rfl,bL (New.al (New.mono n33 S_.keep.size)) rfl (S36.atP (i:=1) rfl) rfl,bL (New.al (New.mono n35 S_.keep.size)) rfl (S36.atP (i:=2) rfl) rfl,trivial⟩,(cA (S36.atP (i:=0) rfl) (cA (S36.atP (i:=1) rfl) (cA (S36.atP (i:=2) rfl) nM)))⟩⟩
 ·intro e_ w_ k_ hf_ hR_
  have S_:St w_ nF w_ [] [bl b11 [I 0,I 0] 23,bl b8 ([I a0.Heap.Low,I a0.Heap.High]++(sgE eSpan a0.Eats 2++(sg a0.Extra 3++[SL A1 a0.Days.length c2,I a0.Collier.Low,I a0.Collier.High,I a0.Brings,SL A4 a0.Dips.length c5]))) 29,rd eCoalDay 3 A1 c2 a0.Days,rd eCoalDip 3 A4 c5 a0.Dips,gW0]:=S13.asP k_
  obtain ⟨_,_,_,_,⟨A25,c26,A27,c28,m29⟩,q37,p38,a39⟩:=hR_ 3 12 rfl (lE rfl) rfl
  replace q37:e_ 12=TU [AG ([I r21.1.CoalBook.Heap.Low,I r21.1.CoalBook.Heap.High]++(sgE eSpan r21.1.CoalBook.Eats 2++(sg r21.1.CoalBook.Extra 3++[SL A25 r21.1.CoalBook.Days.length c26,I r21.1.CoalBook.Collier.Low,I r21.1.CoalBook.Collier.High,I r21.1.CoalBook.Brings,SL A27 r21.1.CoalBook.Dips.length c28,Value.map m29]))),I r21.2]:=q37
  have S_:=St.addL' S_ (a39 _ (.head _)) (fun _ _ _ h_=>(nE h_))
  have S_:=St.addL' S_ (a39 _ (.tail _ (.head _))) (fun _ _ _ h_=>(nE h_))
  have S_:=St.addL' S_ (a39 _ (.tail _ (.tail _ (.head _)))) (fun _ _ _ h_=>(nE h_))
  refine hopE [(12,TU [AG ([I r21.1.CoalBook.Heap.Low,I r21.1.CoalBook.Heap.High]++(sgE eSpan r21.1.CoalBook.Eats 2++(sg r21.1.CoalBook.Extra 3++[SL A25 r21.1.CoalBook.Days.length c26,I r21.1.CoalBook.Collier.Low,I r21.1.CoalBook.Collier.High,I r21.1.CoalBook.Brings,SL A27 r21.1.CoalBook.Dips.length c28,Value.map m29]))),I r21.2])] ⟨q37,trivial⟩ ?_
  refine p_mT rfl<|wp_nil ?_
  exact ⟨_,rfl,S_.keep,rfl⟩
 ·intro e_ w_ k_ hf_ hR_
  have S_:St w_ nF w_ [] [bl b11 [I 0,I 0] 23,bl b8 ([I a0.Heap.Low,I a0.Heap.High]++(sgE eSpan a0.Eats 2++(sg a0.Extra 3++[SL A1 a0.Days.length c2,I a0.Collier.Low,I a0.Collier.High,I a0.Brings,SL A4 a0.Dips.length c5]))) 29,rd eCoalDay 3 A1 c2 a0.Days,rd eCoalDip 3 A4 c5 a0.Dips,gW0]:=S13.asP k_
  obtain ⟨_,_,_,_,⟨A25,c26,A27,c28,m29⟩,q41,p42,a43⟩:=hR_ 3 12 rfl (lE rfl) rfl
  replace q41:e_ 12=TU [AG ([I r21.1.CoalBook.Heap.Low,I r21.1.CoalBook.Heap.High]++(sgE eSpan r21.1.CoalBook.Eats 2++(sg r21.1.CoalBook.Extra 3++[SL A25 r21.1.CoalBook.Days.length c26,I r21.1.CoalBook.Collier.Low,I r21.1.CoalBook.Collier.High,I r21.1.CoalBook.Brings,SL A27 r21.1.CoalBook.Dips.length c28,Value.map m29]))),I r21.2]:=q41
  have S_:=St.addL' S_ (a43 _ (.head _)) (fun _ _ _ h_=>(nE h_))
  have S_:=St.addL' S_ (a43 _ (.tail _ (.head _))) (fun _ _ _ h_=>(nE h_))
  have S_:=St.addL' S_ (a43 _ (.tail _ (.tail _ (.head _)))) (fun _ _ _ h_=>(nE h_))
  obtain ⟨_,_,_,_,q40⟩:=hR_ 4 8 rfl (lE rfl) rfl
  replace q40:e_ 8=TU [AG ([I r21.1.CoalBook.Heap.Low,I r21.1.CoalBook.Heap.High]++(sgE eSpan r21.1.CoalBook.Eats 2++(sg r21.1.CoalBook.Extra 3++[SL A25 r21.1.CoalBook.Days.length c26,I r21.1.CoalBook.Collier.Low,I r21.1.CoalBook.Collier.High,I r21.1.CoalBook.Brings,SL A27 r21.1.CoalBook.Dips.length c28,Value.map m29]))),I r21.2]:=(sJ ((congrArg some q41).symm.trans q40)).symm
  refine hopE [(8,TU [AG ([I r21.1.CoalBook.Heap.Low,I r21.1.CoalBook.Heap.High]++(sgE eSpan r21.1.CoalBook.Eats 2++(sg r21.1.CoalBook.Extra 3++[SL A25 r21.1.CoalBook.Days.length c26,I r21.1.CoalBook.Collier.Low,I r21.1.CoalBook.Collier.High,I r21.1.CoalBook.Brings,SL A27 r21.1.CoalBook.Dips.length c28,Value.map m29]))),I r21.2])] ⟨q40,trivial⟩ ?_
  refine p_ext rfl rfl<|wp_nil ?_
  exact ⟨_,rfl,S_.keep,rfl⟩
 ·intro e_ w_ k_ hf_ hR_
  have S_:St w_ nF w_ [] [bl b11 [I 0,I 0] 23,bl b8 ([I a0.Heap.Low,I a0.Heap.High]++(sgE eSpan a0.Eats 2++(sg a0.Extra 3++[SL A1 a0.Days.length c2,I a0.Collier.Low,I a0.Collier.High,I a0.Brings,SL A4 a0.Dips.length c5]))) 29,rd eCoalDay 3 A1 c2 a0.Days,rd eCoalDip 3 A4 c5 a0.Dips,gW0]:=S13.asP k_
  obtain ⟨_,_,_,_,⟨A25,c26,A27,c28,m29⟩,q45,p46,a47⟩:=hR_ 3 12 rfl (lE rfl) rfl
  replace q45:e_ 12=TU [AG ([I r21.1.CoalBook.Heap.Low,I r21.1.CoalBook.Heap.High]++(sgE eSpan r21.1.CoalBook.Eats 2++(sg r21.1.CoalBook.Extra 3++[SL A25 r21.1.CoalBook.Days.length c26,I r21.1.CoalBook.Collier.Low,I r21.1.CoalBook.Collier.High,I r21.1.CoalBook.Brings,SL A27 r21.1.CoalBook.Dips.length c28,Value.map m29]))),I r21.2]:=q45
  have S_:=St.addL' S_ (a47 _ (.head _)) (fun _ _ _ h_=>(nE h_))
  have S_:=St.addL' S_ (a47 _ (.tail _ (.head _))) (fun _ _ _ h_=>(nE h_))
  have S_:=St.addL' S_ (a47 _ (.tail _ (.tail _ (.head _)))) (fun _ _ _ h_=>(nE h_))
  obtain ⟨_,_,_,_,q44⟩:=hR_ 4 8 rfl (lE rfl) rfl
  replace q44:e_ 8=TU [AG ([I r21.1.CoalBook.Heap.Low,I r21.1.CoalBook.Heap.High]++(sgE eSpan r21.1.CoalBook.Eats 2++(sg r21.1.CoalBook.Extra 3++[SL A25 r21.1.CoalBook.Days.length c26,I r21.1.CoalBook.Collier.Low,I r21.1.CoalBook.Collier.High,I r21.1.CoalBook.Brings,SL A27 r21.1.CoalBook.Dips.length c28,Value.map m29]))),I r21.2]:=(sJ ((congrArg some q45).symm.trans q44)).symm
  refine hopE [(8,TU [AG ([I r21.1.CoalBook.Heap.Low,I r21.1.CoalBook.Heap.High]++(sgE eSpan r21.1.CoalBook.Eats 2++(sg r21.1.CoalBook.Extra 3++[SL A25 r21.1.CoalBook.Days.length c26,I r21.1.CoalBook.Collier.Low,I r21.1.CoalBook.Collier.High,I r21.1.CoalBook.Brings,SL A27 r21.1.CoalBook.Dips.length c28,Value.map m29]))),I r21.2])] ⟨q44,trivial⟩ ?_
  refine p_ext rfl rfl<|wp_nil ?_
  exact ⟨_,rfl,S_.keep,rfl⟩
 ·intro e_ w_ k_ hf_ hR_
  have S_:St w_ nF w_ [] [bl b11 [I 0,I 0] 23,bl b8 ([I a0.Heap.Low,I a0.Heap.High]++(sgE eSpan a0.Eats 2++(sg a0.Extra 3++[SL A1 a0.Days.length c2,I a0.Collier.Low,I a0.Collier.High,I a0.Brings,SL A4 a0.Dips.length c5]))) 29,rd eCoalDay 3 A1 c2 a0.Days,rd eCoalDip 3 A4 c5 a0.Dips,gW0]:=S13.asP k_
  refine hopE [] trivial ?_
  refine p_allA in84 S_ fun b48 w49 S50=>wp_nil ?_
  exact ⟨_,rfl,S50.keep,⟨b48,rfl,⟨bL (New.al (S50.newX (i:=0) rfl)) rfl (S50.atX (i:=0) rfl) rfl,trivial⟩,(cA (S50.atX (i:=0) rfl) nM)⟩⟩
 ·intro e51 w52 lo53 hi54 k55 hf56 hR57 hd58
  have S59:=S13.call k55
  have q60:e51 9=AG ([I a0.Heap.Low,I a0.Heap.High]++(sgE eSpan a0.Eats 2++(sg a0.Extra 3++[SL A1 a0.Days.length c2,I a0.Collier.Low,I a0.Collier.High,I a0.Brings,SL A4 a0.Dips.length c5]))):=(hR57 0 9 (lE rfl) rfl).2.2.2
  have q61:e51 10=I a1:=(hR57 1 10 (lE rfl) rfl).2.2.2
  have q62:e51 11=B r15:=(hR57 2 11 (lE rfl) rfl).2.2.2
  obtain ⟨h64,h65,h66,⟨A25,c26,A27,c28,m29⟩,q63,h67,h68⟩:=hR57 3 12 (lE rfl) rfl
  replace q63:e51 12=TU [AG ([I r21.1.CoalBook.Heap.Low,I r21.1.CoalBook.Heap.High]++(sgE eSpan r21.1.CoalBook.Eats 2++(sg r21.1.CoalBook.Extra 3++[SL A25 r21.1.CoalBook.Days.length c26,I r21.1.CoalBook.Collier.Low,I r21.1.CoalBook.Collier.High,I r21.1.CoalBook.Brings,SL A27 r21.1.CoalBook.Dips.length c28,Value.map m29]))),I r21.2]:=q63
  obtain ⟨p69,p70,p71,_⟩:=h67
  have S72:=St.addR S59 (h68 _ (.head _)) (oR p69 h64 S13 (mG [0,1] rfl))
  have S73:=St.addR S72 (h68 _ (.tail _ (.head _))) (oR p70 h64 S13 (nM))
  have S74:=St.addR S73 (h68 _ (.tail _ (.tail _ (.head _)))) (oR p71 h64 S13 (nM))
  have q75:e51 8=TU [AG ([I r21.1.CoalBook.Heap.Low,I r21.1.CoalBook.Heap.High]++(sgE eSpan r21.1.CoalBook.Eats 2++(sg r21.1.CoalBook.Extra 3++[SL A25 r21.1.CoalBook.Days.length c26,I r21.1.CoalBook.Collier.Low,I r21.1.CoalBook.Collier.High,I r21.1.CoalBook.Brings,SL A27 r21.1.CoalBook.Dips.length c28,Value.map m29]))),I r21.2]:=(sJ ((congrArg some q63).symm.trans (hR57 4 8 (lE rfl) rfl).2.2.2)).symm
  have q76:e51 13=AG ([I r21.1.CoalBook.Heap.Low,I r21.1.CoalBook.Heap.High]++(sgE eSpan r21.1.CoalBook.Eats 2++(sg r21.1.CoalBook.Extra 3++[SL A25 r21.1.CoalBook.Days.length c26,I r21.1.CoalBook.Collier.Low,I r21.1.CoalBook.Collier.High,I r21.1.CoalBook.Brings,SL A27 r21.1.CoalBook.Dips.length c28,Value.map m29]))):=(sJ ((congrArg (exG 0) q75).symm.trans (hR57 5 13 (lE rfl) rfl).2.2.2)).symm
  have q77:e51 14=I r21.2:=(sJ ((congrArg (exG 1) q75).symm.trans (hR57 6 14 (lE rfl) rfl).2.2.2)).symm
  obtain ⟨h79,h80,h81,b48,q78,h82,h83⟩:=hR57 7 6 (lE rfl) rfl
  replace q78:e51 6=P b48 0:=q78
  obtain ⟨p84,_⟩:=h82
  have S86:=St.addO S74 (h83 _ (.head _)) (oN p84 h79 S13) (oX p84 h79 S13) (cA (oP p84 p71 h79 S13 (nM) (hd58 7 3 (lE rfl) (lE rfl) (by decide))) (cA (oP p84 p70 h79 S13 (nM) (hd58 7 3 (lE rfl) (lE rfl) (by decide))) (cA (oP p84 p69 h79 S13 (mG [0,1] rfl) (hd58 7 3 (lE rfl) (lE rfl) (by decide))) (oL p84 h79 S13))))
  refine tailE [(1,I a1),(4,P b11 0),(6,P b48 0),(13,AG ([I r21.1.CoalBook.Heap.Low,I r21.1.CoalBook.Heap.High]++(sgE eSpan r21.1.CoalBook.Eats 2++(sg r21.1.CoalBook.Extra 3++[SL A25 r21.1.CoalBook.Days.length c26,I r21.1.CoalBook.Collier.Low,I r21.1.CoalBook.Collier.High,I r21.1.CoalBook.Brings,SL A27 r21.1.CoalBook.Dips.length c28,Value.map m29])))),(14,I r21.2)] ⟨((hf56 1 rfl).trans (rfl:_=I a1)),((hf56 4 rfl).trans (rfl:_=P b11 0)),q78,q76,q77,trivial⟩ ?_
  intro g87
  refine p_stP (pre:=[]) (old:=[I 0,I 0]++(sgE eSpan (List.replicate 2 (Span.mk 0 0)) 2++(sg (List.replicate 3 0) 3++[SL none 0 0,I 0,I 0,I 0,SL none 0 0,Value.map none]))) (post:=[]) (vs:=[I r21.1.CoalBook.Heap.Low,I r21.1.CoalBook.Heap.High]++(sgE eSpan r21.1.CoalBook.Eats 2++(sg r21.1.CoalBook.Extra 3++[SL A25 r21.1.CoalBook.Days.length c26,I r21.1.CoalBook.Collier.Low,I r21.1.CoalBook.Collier.High,I r21.1.CoalBook.Brings,SL A27 r21.1.CoalBook.Dips.length c28,Value.map m29]))) sz84 S86 (i:=0) rfl rfl rfl rfl (rfl:_=AG ([I r21.1.CoalBook.Heap.Low,I r21.1.CoalBook.Heap.High]++(sgE eSpan r21.1.CoalBook.Eats 2++(sg r21.1.CoalBook.Extra 3++[SL A25 r21.1.CoalBook.Days.length c26,I r21.1.CoalBook.Collier.Low,I r21.1.CoalBook.Collier.High,I r21.1.CoalBook.Brings,SL A27 r21.1.CoalBook.Dips.length c28,Value.map m29])))) rfl rfl rfl rfl fun w88 S89=>?_
  refine p_aI rfl<|wp_nil<|c_seq<|c_seq<|reg<|p_mI rfl<|p_cmp rfl rfl rfl<|wp_nil ?_
  refine c_cond rfl (fun c90=>?_) (fun c90=>?_)
  ·replace H:=condT c90 H
   refine c_seq<|reg<|p_bld (cs:=[I 0,I 0]) st23 (rfl:_=[]) (by kernel_rfl)<|p_mI rfl<|p_stP (pre:=[]) (old:=[I 0,I 0]) (post:=[]) (vs:=[I 0,I 0]) sz23 S89 (i:=1) rfl rfl rfl rfl (rfl:_=AG [I 0,I 0]) rfl rfl rfl rfl fun w91 S92=>p_aI rfl<|wp_nil ?_
   obtain rfl:=sJ H
   refine c_ret ?_; show bodyPostM (Fr none) 0 Tryd.prog Tryd.f27 _ .ret _ _
   refine ret_of (res2 rfl (rvA rfl ty23 sz23 (S92.atX (i:=1) rfl) rfl) (rvT (rfl:_=I r21.2))) ?_
   exact ⟨_,rfl,rfl,S92.keep⟩
  ·replace H:=condF c90 H
   refine c_skip<|c_seq ?_
   refine reg_c mixed 4 [2,3] (by kernel_rfl) ?_
   refine kS rfl (fun _ k_=>p_ldA ty84 sz84 (aS (S89.atX (i:=0) rfl) k_) rfl rfl dn)<|kS rfl (fun _ k_=>p_mI rfl dn)<|kC rfl<|kC rfl ?_
   intro w93 k94; have S95:=S89.call k94
   obtain ⟨r96,h97,H⟩:=bindS H
   refine p_cal (coal_eaten_ok h97) fu62 rfl ?_
   rintro _ w98 ⟨b100,rfl,k99,⟨o101,n102⟩,_⟩
   have S103:=S95.addNew k99 o101 n102
   refine cN k99 fun w104 k105=>?_
   have S106:=S103.call k105
   obtain ⟨r108,h109,H⟩:=bindS H
   refine p_cal (coal_book_span_ok h109 (S106.atP (i:=2) rfl) (S106.atP (i:=1) rfl) (S106.atP (i:=0) rfl) (by kernel_rfl) (fun _ _ _ k_ hr_=>coal_eaten_1_ok hr_ (aS (S106.atX (i:=0) rfl) k_))) fu46 rfl ?_
   rintro _ w110 ⟨rfl,k111⟩; refine cN k111 fun w112 k113=>?_
   have S114:=(S106.call k111).call k113
   refine p_stP (pre:=[]) (old:=[I 0,I 0]) (post:=[]) (vs:=[I r108.Low,I r108.High]) sz23 S114 (i:=2) rfl rfl rfl rfl (rfl:_=AG [I r108.Low,I r108.High]) rfl rfl rfl rfl fun w115 S116=>p_aI rfl<|wp_nil ?_
   obtain rfl:=sJ H
   refine c_ret ?_; show bodyPostM (Fr none) 0 Tryd.prog Tryd.f27 _ .ret _ _
   refine ret_of (res2 rfl (rvA rfl ty23 sz23 (S116.atX (i:=2) rfl) rfl) (rvT (rfl:_=I 0))) ?_
   exact ⟨_,rfl,rfl,S116.keep⟩
 ·intro e117 w118 lo119 hi120 k121 hf122 hR123 hd124
  have S125:=S13.call k121
  have q126:e117 9=AG ([I a0.Heap.Low,I a0.Heap.High]++(sgE eSpan a0.Eats 2++(sg a0.Extra 3++[SL A1 a0.Days.length c2,I a0.Collier.Low,I a0.Collier.High,I a0.Brings,SL A4 a0.Dips.length c5]))):=(hR123 0 9 (lE rfl) (by decide) rfl).2.2.2
  have q127:e117 10=I a1:=(hR123 1 10 (lE rfl) (by decide) rfl).2.2.2
  have q128:e117 11=B r15:=(hR123 2 11 (lE rfl) (by decide) rfl).2.2.2
  obtain ⟨h130,h131,h132,⟨A25,c26,A27,c28,m29⟩,q129,h133,h134⟩:=hR123 3 12 (lE rfl) (by decide) rfl
  replace q129:e117 12=TU [AG ([I r21.1.CoalBook.Heap.Low,I r21.1.CoalBook.Heap.High]++(sgE eSpan r21.1.CoalBook.Eats 2++(sg r21.1.CoalBook.Extra 3++[SL A25 r21.1.CoalBook.Days.length c26,I r21.1.CoalBook.Collier.Low,I r21.1.CoalBook.Collier.High,I r21.1.CoalBook.Brings,SL A27 r21.1.CoalBook.Dips.length c28,Value.map m29]))),I r21.2]:=q129
  obtain ⟨p135,p136,p137,_⟩:=h133
  have S138:=St.addR S125 (h134 _ (.head _)) (oR p135 h130 S13 (mG [0,1] rfl))
  have S139:=St.addR S138 (h134 _ (.tail _ (.head _))) (oR p136 h130 S13 (nM))
  have S140:=St.addR S139 (h134 _ (.tail _ (.tail _ (.head _)))) (oR p137 h130 S13 (nM))
  have q141:e117 8=TU [AG ([I r21.1.CoalBook.Heap.Low,I r21.1.CoalBook.Heap.High]++(sgE eSpan r21.1.CoalBook.Eats 2++(sg r21.1.CoalBook.Extra 3++[SL A25 r21.1.CoalBook.Days.length c26,I r21.1.CoalBook.Collier.Low,I r21.1.CoalBook.Collier.High,I r21.1.CoalBook.Brings,SL A27 r21.1.CoalBook.Dips.length c28,Value.map m29]))),I r21.2]:=(sJ ((congrArg some q129).symm.trans (hR123 4 8 (lE rfl) (by decide) rfl).2.2.2)).symm
  have q142:e117 13=AG ([I r21.1.CoalBook.Heap.Low,I r21.1.CoalBook.Heap.High]++(sgE eSpan r21.1.CoalBook.Eats 2++(sg r21.1.CoalBook.Extra 3++[SL A25 r21.1.CoalBook.Days.length c26,I r21.1.CoalBook.Collier.Low,I r21.1.CoalBook.Collier.High,I r21.1.CoalBook.Brings,SL A27 r21.1.CoalBook.Dips.length c28,Value.map m29]))):=(sJ ((congrArg (exG 0) q141).symm.trans (hR123 5 13 (lE rfl) (by decide) rfl).2.2.2)).symm
  obtain ⟨h144,h145,h146,b48,q143,h147,h148⟩:=hR123 7 6 (lE rfl) (by decide) rfl
  replace q143:e117 6=P b48 0:=q143
  obtain ⟨p149,_⟩:=h147
  have S151:=St.addO S140 (h148 _ (.head _)) (oN p149 h144 S13) (oX p149 h144 S13) (cA (oP p149 p137 h144 S13 (nM) (hd124 7 3 (lE rfl) (lE rfl) (by decide) (by decide) (by decide))) (cA (oP p149 p136 h144 S13 (nM) (hd124 7 3 (lE rfl) (lE rfl) (by decide) (by decide) (by decide))) (cA (oP p149 p135 h144 S13 (mG [0,1] rfl) (hd124 7 3 (lE rfl) (lE rfl) (by decide) (by decide) (by decide))) (oL p149 h144 S13))))
  refine tailE [(1,I a1),(4,P b11 0),(6,P b48 0),(8,TU [AG ([I r21.1.CoalBook.Heap.Low,I r21.1.CoalBook.Heap.High]++(sgE eSpan r21.1.CoalBook.Eats 2++(sg r21.1.CoalBook.Extra 3++[SL A25 r21.1.CoalBook.Days.length c26,I r21.1.CoalBook.Collier.Low,I r21.1.CoalBook.Collier.High,I r21.1.CoalBook.Brings,SL A27 r21.1.CoalBook.Dips.length c28,Value.map m29]))),I r21.2]),(13,AG ([I r21.1.CoalBook.Heap.Low,I r21.1.CoalBook.Heap.High]++(sgE eSpan r21.1.CoalBook.Eats 2++(sg r21.1.CoalBook.Extra 3++[SL A25 r21.1.CoalBook.Days.length c26,I r21.1.CoalBook.Collier.Low,I r21.1.CoalBook.Collier.High,I r21.1.CoalBook.Brings,SL A27 r21.1.CoalBook.Dips.length c28,Value.map m29]))))] ⟨((hf122 1 rfl).trans (rfl:_=I a1)),((hf122 4 rfl).trans (rfl:_=P b11 0)),q143,q141,q142,trivial⟩ ?_
  intro g152
  refine p_stP (pre:=[]) (old:=[I 0,I 0]++(sgE eSpan (List.replicate 2 (Span.mk 0 0)) 2++(sg (List.replicate 3 0) 3++[SL none 0 0,I 0,I 0,I 0,SL none 0 0,Value.map none]))) (post:=[]) (vs:=[I r21.1.CoalBook.Heap.Low,I r21.1.CoalBook.Heap.High]++(sgE eSpan r21.1.CoalBook.Eats 2++(sg r21.1.CoalBook.Extra 3++[SL A25 r21.1.CoalBook.Days.length c26,I r21.1.CoalBook.Collier.Low,I r21.1.CoalBook.Collier.High,I r21.1.CoalBook.Brings,SL A27 r21.1.CoalBook.Dips.length c28,Value.map m29]))) sz84 S151 (i:=0) rfl rfl rfl rfl (rfl:_=AG ([I r21.1.CoalBook.Heap.Low,I r21.1.CoalBook.Heap.High]++(sgE eSpan r21.1.CoalBook.Eats 2++(sg r21.1.CoalBook.Extra 3++[SL A25 r21.1.CoalBook.Days.length c26,I r21.1.CoalBook.Collier.Low,I r21.1.CoalBook.Collier.High,I r21.1.CoalBook.Brings,SL A27 r21.1.CoalBook.Dips.length c28,Value.map m29])))) rfl rfl rfl rfl fun w153 S154=>?_
  refine p_ext rfl rfl<|p_aI rfl<|wp_nil<|c_seq<|c_seq<|reg<|p_mI rfl<|p_cmp rfl rfl rfl<|wp_nil ?_
  refine c_cond rfl (fun c155=>?_) (fun c155=>?_)
  ·replace H:=condT c155 H
   refine c_seq<|reg<|p_bld (cs:=[I 0,I 0]) st23 (rfl:_=[]) (by kernel_rfl)<|p_mI rfl<|p_stP (pre:=[]) (old:=[I 0,I 0]) (post:=[]) (vs:=[I 0,I 0]) sz23 S154 (i:=1) rfl rfl rfl rfl (rfl:_=AG [I 0,I 0]) rfl rfl rfl rfl fun w156 S157=>p_aI rfl<|wp_nil ?_
   obtain rfl:=sJ H
   refine c_ret ?_; show bodyPostM (Fr none) 0 Tryd.prog Tryd.f27 _ .ret _ _
   refine ret_of (res2 rfl (rvA rfl ty23 sz23 (S157.atX (i:=1) rfl) rfl) (rvT (rfl:_=I r21.2))) ?_
   exact ⟨_,rfl,rfl,S157.keep⟩
  ·replace H:=condF c155 H
   refine c_skip<|c_seq ?_
   refine reg_c mixed 4 [2,3] (by kernel_rfl) ?_
   refine kS rfl (fun _ k_=>p_ldA ty84 sz84 (aS (S154.atX (i:=0) rfl) k_) rfl rfl dn)<|kS rfl (fun _ k_=>p_mI rfl dn)<|kC rfl<|kC rfl ?_
   intro w158 k159; have S160:=S154.call k159
   obtain ⟨r161,h162,H⟩:=bindS H
   refine p_cal (coal_eaten_ok h162) fu62 rfl ?_
   rintro _ w163 ⟨b165,rfl,k164,⟨o166,n167⟩,_⟩
   have S168:=S160.addNew k164 o166 n167
   refine cN k164 fun w169 k170=>?_
   have S171:=S168.call k170
   obtain ⟨r173,h174,H⟩:=bindS H
   refine p_cal (coal_book_span_ok h174 (S171.atP (i:=2) rfl) (S171.atP (i:=1) rfl) (S171.atP (i:=0) rfl) (by kernel_rfl) (fun _ _ _ k_ hr_=>coal_eaten_1_ok hr_ (aS (S171.atX (i:=0) rfl) k_))) fu46 rfl ?_
   rintro _ w175 ⟨rfl,k176⟩; refine cN k176 fun w177 k178=>?_
   have S179:=(S171.call k176).call k178
   refine p_stP (pre:=[]) (old:=[I 0,I 0]) (post:=[]) (vs:=[I r173.Low,I r173.High]) sz23 S179 (i:=2) rfl rfl rfl rfl (rfl:_=AG [I r173.Low,I r173.High]) rfl rfl rfl rfl fun w180 S181=>p_aI rfl<|wp_nil ?_
   obtain rfl:=sJ H
   refine c_ret ?_; show bodyPostM (Fr none) 0 Tryd.prog Tryd.f27 _ .ret _ _
   refine ret_of (res2 rfl (rvA rfl ty23 sz23 (S181.atX (i:=2) rfl) rfl) (rvT (rfl:_=I 0))) ?_
   exact ⟨_,rfl,rfl,S181.keep⟩
def chain_Wear_1 (a0:Chain_truth) (q0:Int):Option Span:=
 need (inI q0 4)<|
 need (inI q0 4)<|
 some (Span.mk (aget a0.wears_ q0) (aget a0.wears_ q0))
set_option maxRecDepth 100000 in
theorem chain_Wear_1_ok {a0:Chain_truth}{q0:Int}{b1:Nat}{w:World}{r:Span} (H:chain_Wear_1 a0 q0=some r) (h2:(bl b1 [I q0] 3).ok w):Calls Tryd.prog 64 #[AG (sg a0.wears_ 4++sgE eSpan a0.first_ 4),P b1 0] w (RetV w (AG [I r.Low,I r.High])):=by
 unfold chain_Wear_1 at H
 refine fn_of (n:=13) Tryd.func64 rfl rfl (lE rfl) ?_
 have S:=St.start w nF _ (cA h2 nM)
 refine c_seq<|reg<|p_boxA rfl S fun b3 w4 S5=>p_allA in23 S5 fun b6 w7 S8=>wp_nil<|c_seq ?_
 obtain ⟨h9,H⟩:=needS H
 obtain ⟨h10,H⟩:=needS H
 refine reg_q mixed 9 (by kernel_rfl) ?_
 refine dS (fun _ k_=>p_ld ty3 (aS (S8.atP (i:=0) rfl) k_) rfl rfl dn)<|dS (fun _ k_=>p_fld fl131_0 rfl dn)<|dS (fun _ k_=>p_ixD ar128 h9 rfl rfl dn)<|dS (fun _ k_=>p_ldD (pre:=[]) (post:=sgE eSpan a0.first_ 4) ty3 (aS (S8.atX (i:=1) rfl) k_) rfl h9 rfl rfl dn)<|dS (fun _ k_=>p_ld ty3 (aS (S8.atP (i:=0) rfl) k_) rfl rfl dn)<|dS (fun _ k_=>p_fld fl131_0 rfl dn) ?_
 refine dS (fun _ k_=>p_ixD ar128 h10 rfl rfl dn)<|dS (fun _ k_=>p_ldD (pre:=[]) (post:=sgE eSpan a0.first_ 4) ty3 (aS (S8.atX (i:=1) rfl) k_) rfl h10 rfl rfl dn)<|dS (fun _ k_=>p_bld (cs:=[I (aget a0.wears_ q0),I (aget a0.wears_ q0)]) st23 (rfl:_=[(0,I (aget a0.wears_ q0)),(1,I (aget a0.wears_ q0))]) (by kernel_rfl) dn) ?_
 intro w11 k12; have S13:=S8.call k12
 refine p_stP (pre:=[]) (old:=[I 0,I 0]) (post:=[]) (vs:=[I (aget a0.wears_ q0),I (aget a0.wears_ q0)]) sz23 S13 (i:=0) rfl rfl rfl rfl (rfl:_=AG [I (aget a0.wears_ q0),I (aget a0.wears_ q0)]) rfl rfl rfl rfl fun w14 S15=>wp_nil ?_
 obtain rfl:=sJ H
 refine c_ret ?_; show bodyPostM (Fr none) 0 Tryd.prog Tryd.f64 _ .ret _ _
 refine ret_of (res1 rfl (rvA rfl ty23 sz23 (S15.atX (i:=0) rfl) rfl)) ?_
 exact ⟨_,rfl,rfl,S15.keep⟩
def chain_Wear (a0:ChainBook) (a1:Int):Option (Span×Int):=
 (chain_isSection a0 a1).bind fun r22=>
 (chain_asked a0 r22).bind fun r28=>
 bif (r28.2 != 0) then (some ((Span.mk 0 0),r28.2))
 else ((chain_book_told r28.1 (fun y113=>chain_Wear_1 y113 a1)).bind fun r114=>
 some (r114,0))
set_option maxRecDepth 100000 in
theorem chain_Wear_ok {a0:ChainBook}{a1:Int}{A1:Option Addr}{c2:Nat}{A4:Option Addr}{c5:Nat}{A7:Option Addr}{c8:Nat}{w:World}{r:Span×Int} (H:chain_Wear a0 a1=some r) (h3:(rd eChainSection 4 A1 c2 a0.Sections).ok w) (h6:(rd intE 1 A4 c5 a0.Turns).ok w) (h9:(rd eChainSurvey 4 A7 c8 a0.Surveys).ok w) (hg10:(gW2).ok w):Calls Tryd.prog 28 #[AG [SL A1 a0.Sections.length c2,SL A4 a0.Turns.length c5,SL A7 a0.Surveys.length c8,I a0.Rule,I a0.Days],I a1] w (RetV w (TU [AG [I r.1.Low,I r.1.High],I r.2])):=by
 unfold chain_Wear at H
 refine fn_of (n:=23) Tryd.func28 rfl rfl (lE rfl) ?_
 have S:=St.start w nF _ (cA h3 (cA h6 (cA h9 (cA hg10 nM))))
 refine c_seq<|reg<|p_boxA rfl S fun b11 w12 S13=>p_box (rfl:_=I a1) rfl S13 fun b14 w15 S16=>p_allA in23 S16 fun b17 w18 S19=>p_aI rfl<|wp_nil<|c_seq ?_
 obtain ⟨r22,h23,H⟩:=bindS H
 obtain ⟨r28,h29,H⟩:=bindS H
 refine reg_fl mixed 9 7 (by kernel_rfl) [rv (AG [SL A1 a0.Sections.length c2,SL A4 a0.Turns.length c5,SL A7 a0.Surveys.length c8,I a0.Rule,I a0.Days]),rv (AG [SL A1 a0.Sections.length c2,SL A4 a0.Turns.length c5,SL A7 a0.Surveys.length c8,I a0.Rule,I a0.Days]),rv (I a1),rv (B r22),rx (α:=(Option Addr)×Nat×(Option Addr)×Nat×(Option Addr)×Nat×(Option Nat)×(Option Addr)×Nat) (fun ⟨A32,c33,A34,c35,A36,c37,m38,A39,c40⟩=>TU [AG [SL A32 r28.1.ChainBook.Sections.length c33,SL A34 r28.1.ChainBook.Turns.length c35,SL A36 r28.1.ChainBook.Surveys.length c37,I r28.1.ChainBook.Rule,I r28.1.ChainBook.Days,Value.map m38,SL A39 r28.1.truths_.length c40],I r28.2]) (fun ⟨A32,c33,A34,c35,A36,c37,m38,A39,c40⟩ lo hi=>BtwL lo hi [rd eChainSection 4 A1 c2 a0.Sections,rd intE 1 A4 c5 a0.Turns,rd eChainSurvey 4 A7 c8 a0.Surveys] (rd eChainSection 4 A32 c33 r28.1.ChainBook.Sections)∧BtwL lo hi [rd eChainSection 4 A1 c2 a0.Sections,rd intE 1 A4 c5 a0.Turns,rd eChainSurvey 4 A7 c8 a0.Surveys] (rd intE 1 A34 c35 r28.1.ChainBook.Turns)∧BtwL lo hi [rd eChainSection 4 A1 c2 a0.Sections,rd intE 1 A4 c5 a0.Turns,rd eChainSurvey 4 A7 c8 a0.Surveys] (rd eChainSurvey 4 A36 c37 r28.1.ChainBook.Surveys)∧BtwL lo hi [] (mpo ekC sE m38 r28.1.read_)∧BtwL lo hi [] (rd eChain_truth 12 A39 c40 r28.1.truths_)∧True) (fun ⟨A32,c33,A34,c35,A36,c37,m38,A39,c40⟩=>[rd eChainSection 4 A32 c33 r28.1.ChainBook.Sections,rd intE 1 A34 c35 r28.1.ChainBook.Turns,rd eChainSurvey 4 A36 c37 r28.1.ChainBook.Surveys,mpo ekC sE m38 r28.1.read_,rd eChain_truth 12 A39 c40 r28.1.truths_]),dv 13 some,dv 8 (exG 0),dv 8 (exG 1),rx (α:=Nat) (fun b63=>P b63 0) (fun b63 lo hi=>BtwL lo hi [] (bl b63 [SL none 0 0,SL none 0 0,SL none 0 0,I 0,I 0,Value.map none,SL none 0 0] 120)∧True) (fun b63=>[bl b63 [SL none 0 0,SL none 0 0,SL none 0 0,I 0,I 0,Value.map none,SL none 0 0] 120])] [[],[],[],[],[],[13],[8],[8],[]] rfl (by kernel_rfl) [[],[],[],[1,2],[0,1,2,3],[0,1,2,3,4],[0,1,2,3,4,5],[0,1,2,3,4,5],[],[0,1,2,3,4,5,6,8],[0,1,2,3,4,5,6,7,8,9]] (by kernel_rfl) ⟨?_,?_,?_,?_,?_,?_,?_,?_,?_,trivial⟩ ?_ ?_
 ·intro e_ w_ k_ hf_ hR_
  have S_:St w_ nF w_ [] [bl b17 [I 0,I 0] 23,bl b14 [I a1] 3,bl b11 [SL A1 a0.Sections.length c2,SL A4 a0.Turns.length c5,SL A7 a0.Surveys.length c8,I a0.Rule,I a0.Days] 63,rd eChainSection 4 A1 c2 a0.Sections,rd intE 1 A4 c5 a0.Turns,rd eChainSurvey 4 A7 c8 a0.Surveys,gW2]:=S19.asP k_
  refine hopE [(2,P b11 0)] ⟨((hf_ 2 rfl).trans (rfl:_=P b11 0)),trivial⟩ ?_
  exact p_ldA ty63 sz63 (S_.atP (i:=2) rfl) rfl rfl<|wp_nil ⟨_,rfl,S_.keep,rfl⟩
 ·intro e_ w_ k_ hf_ hR_
  have S_:St w_ nF w_ [] [bl b17 [I 0,I 0] 23,bl b14 [I a1] 3,bl b11 [SL A1 a0.Sections.length c2,SL A4 a0.Turns.length c5,SL A7 a0.Surveys.length c8,I a0.Rule,I a0.Days] 63,rd eChainSection 4 A1 c2 a0.Sections,rd intE 1 A4 c5 a0.Turns,rd eChainSurvey 4 A7 c8 a0.Surveys,gW2]:=S19.asP k_
  refine hopE [(2,P b11 0)] ⟨((hf_ 2 rfl).trans (rfl:_=P b11 0)),trivial⟩ ?_
  exact p_ldA ty63 sz63 (S_.atP (i:=2) rfl) rfl rfl<|wp_nil ⟨_,rfl,S_.keep,rfl⟩
 ·intro e_ w_ k_ hf_ hR_
  have S_:St w_ nF w_ [] [bl b17 [I 0,I 0] 23,bl b14 [I a1] 3,bl b11 [SL A1 a0.Sections.length c2,SL A4 a0.Turns.length c5,SL A7 a0.Surveys.length c8,I a0.Rule,I a0.Days] 63,rd eChainSection 4 A1 c2 a0.Sections,rd intE 1 A4 c5 a0.Turns,rd eChainSurvey 4 A7 c8 a0.Surveys,gW2]:=S19.asP k_
  refine hopE [(3,P b14 0)] ⟨((hf_ 3 rfl).trans (rfl:_=P b14 0)),trivial⟩ ?_
  exact p_ld ty3 (S_.atP (i:=1) rfl) rfl rfl<|wp_nil ⟨_,rfl,S_.keep,rfl⟩
 ·intro e_ w_ k_ hf_ hR_
  have S_:St w_ nF w_ [] [bl b17 [I 0,I 0] 23,bl b14 [I a1] 3,bl b11 [SL A1 a0.Sections.length c2,SL A4 a0.Turns.length c5,SL A7 a0.Surveys.length c8,I a0.Rule,I a0.Days] 63,rd eChainSection 4 A1 c2 a0.Sections,rd intE 1 A4 c5 a0.Turns,rd eChainSurvey 4 A7 c8 a0.Surveys,gW2]:=S19.asP k_
  refine hopE [(10,AG [SL A1 a0.Sections.length c2,SL A4 a0.Turns.length c5,SL A7 a0.Surveys.length c8,I a0.Rule,I a0.Days]),(11,I a1)] ⟨rQ (hR_ 1 10 rfl (lE rfl) rfl),rQ (hR_ 2 11 rfl (lE rfl) rfl),trivial⟩ ?_
  refine p_cv (chain_isSection_ok h23 (S_.atP (i:=3) rfl) (S_.atP (i:=4) rfl) (S_.atP (i:=5) rfl)) fu58 rfl S_ fun w24 S25=>wp_nil ?_
  exact ⟨_,rfl,S25.keep,rfl⟩
 ·intro e_ w_ k_ hf_ hR_
  have S_:St w_ nF w_ [] [bl b17 [I 0,I 0] 23,bl b14 [I a1] 3,bl b11 [SL A1 a0.Sections.length c2,SL A4 a0.Turns.length c5,SL A7 a0.Surveys.length c8,I a0.Rule,I a0.Days] 63,rd eChainSection 4 A1 c2 a0.Sections,rd intE 1 A4 c5 a0.Turns,rd eChainSurvey 4 A7 c8 a0.Surveys,gW2]:=S19.asP k_
  refine hopE [(9,AG [SL A1 a0.Sections.length c2,SL A4 a0.Turns.length c5,SL A7 a0.Surveys.length c8,I a0.Rule,I a0.Days]),(12,B r22)] ⟨rQ (hR_ 0 9 rfl (lE rfl) rfl),rQ (hR_ 3 12 rfl (lE rfl) rfl),trivial⟩ ?_
  refine p_cal (chain_asked_ok h29 (S_.atP (i:=3) rfl) (S_.atP (i:=4) rfl) (S_.atP (i:=5) rfl) (S_.atP (i:=6) rfl)) fu57 rfl ?_
  rintro _ w30 ⟨A32,c33,A34,c35,A36,c37,m38,A39,c40,rfl,k31,⟨o41,n42⟩,⟨o43,n44⟩,⟨o45,n46⟩,⟨o47,n48⟩,⟨o49,n50⟩,_⟩
  have S51:=S_.callN k31 [rd eChainSection 4 A32 c33 r28.1.ChainBook.Sections,rd intE 1 A34 c35 r28.1.ChainBook.Turns,rd eChainSurvey 4 A36 c37 r28.1.ChainBook.Surveys,mpo ekC sE m38 r28.1.read_,rd eChain_truth 12 A39 c40 r28.1.truths_] (cA ⟨o41,Al.inL n42 ((cA (fp_mem (i:=3) rfl) (cA (fp_mem (i:=4) rfl) (cA (fp_mem (i:=5) rfl) nM))))⟩ (cA ⟨o43,Al.inL n44 ((cA (fp_mem (i:=3) rfl) (cA (fp_mem (i:=4) rfl) (cA (fp_mem (i:=5) rfl) nM))))⟩ (cA ⟨o45,Al.inL n46 ((cA (fp_mem (i:=3) rfl) (cA (fp_mem (i:=4) rfl) (cA (fp_mem (i:=5) rfl) nM))))⟩ (cA ⟨o47,New.inL n48⟩ (cA ⟨o49,New.inL n50⟩ nM)))))
  exact wp_nil ⟨_,rfl,S51.keep,⟨(A32,c33,A34,c35,A36,c37,m38,A39,c40),rfl,⟨bL n42 rfl (S51.atP (i:=0) rfl) rfl,bL n44 rfl (S51.atP (i:=1) rfl) rfl,bL n46 rfl (S51.atP (i:=2) rfl) rfl,bL (New.al (New.mono n48 S_.keep.size)) rfl (S51.atP (i:=3) rfl) rfl,bL (New.al (New.mono n50 S_.keep.size)) rfl (S51.atP (i:=4) rfl) rfl,trivial⟩,(cA (S51.atP (i:=0) rfl) (cA (S51.atP (i:=1) rfl) (cA (S51.atP (i:=2) rfl) (cA (S51.atP (i:=3) rfl) (cA (S51.atP (i:=4) rfl) nM)))))⟩⟩
 ·intro e_ w_ k_ hf_ hR_
  have S_:St w_ nF w_ [] [bl b17 [I 0,I 0] 23,bl b14 [I a1] 3,bl b11 [SL A1 a0.Sections.length c2,SL A4 a0.Turns.length c5,SL A7 a0.Surveys.length c8,I a0.Rule,I a0.Days] 63,rd eChainSection 4 A1 c2 a0.Sections,rd intE 1 A4 c5 a0.Turns,rd eChainSurvey 4 A7 c8 a0.Surveys,gW2]:=S19.asP k_
  obtain ⟨_,_,_,_,⟨A32,c33,A34,c35,A36,c37,m38,A39,c40⟩,q52,p53,a54⟩:=hR_ 4 13 rfl (lE rfl) rfl
  replace q52:e_ 13=TU [AG [SL A32 r28.1.ChainBook.Sections.length c33,SL A34 r28.1.ChainBook.Turns.length c35,SL A36 r28.1.ChainBook.Surveys.length c37,I r28.1.ChainBook.Rule,I r28.1.ChainBook.Days,Value.map m38,SL A39 r28.1.truths_.length c40],I r28.2]:=q52
  have S_:=St.addL' S_ (a54 _ (.head _)) (fun _ _ _ h_=>(nE h_))
  have S_:=St.addL' S_ (a54 _ (.tail _ (.head _))) (fun _ _ _ h_=>(nE h_))
  have S_:=St.addL' S_ (a54 _ (.tail _ (.tail _ (.head _)))) (fun _ _ _ h_=>(nE h_))
  have S_:=St.addL' S_ (a54 _ (.tail _ (.tail _ (.tail _ (.head _))))) (fun _ _ _ h_=>(nE h_))
  have S_:=St.addL' S_ (a54 _ (.tail _ (.tail _ (.tail _ (.tail _ (.head _)))))) (fun _ _ _ h_=>(nE h_))
  refine hopE [(13,TU [AG [SL A32 r28.1.ChainBook.Sections.length c33,SL A34 r28.1.ChainBook.Turns.length c35,SL A36 r28.1.ChainBook.Surveys.length c37,I r28.1.ChainBook.Rule,I r28.1.ChainBook.Days,Value.map m38,SL A39 r28.1.truths_.length c40],I r28.2])] ⟨q52,trivial⟩ ?_
  refine p_mT rfl<|wp_nil ?_
  exact ⟨_,rfl,S_.keep,rfl⟩
 ·intro e_ w_ k_ hf_ hR_
  have S_:St w_ nF w_ [] [bl b17 [I 0,I 0] 23,bl b14 [I a1] 3,bl b11 [SL A1 a0.Sections.length c2,SL A4 a0.Turns.length c5,SL A7 a0.Surveys.length c8,I a0.Rule,I a0.Days] 63,rd eChainSection 4 A1 c2 a0.Sections,rd intE 1 A4 c5 a0.Turns,rd eChainSurvey 4 A7 c8 a0.Surveys,gW2]:=S19.asP k_
  obtain ⟨_,_,_,_,⟨A32,c33,A34,c35,A36,c37,m38,A39,c40⟩,q56,p57,a58⟩:=hR_ 4 13 rfl (lE rfl) rfl
  replace q56:e_ 13=TU [AG [SL A32 r28.1.ChainBook.Sections.length c33,SL A34 r28.1.ChainBook.Turns.length c35,SL A36 r28.1.ChainBook.Surveys.length c37,I r28.1.ChainBook.Rule,I r28.1.ChainBook.Days,Value.map m38,SL A39 r28.1.truths_.length c40],I r28.2]:=q56
  have S_:=St.addL' S_ (a58 _ (.head _)) (fun _ _ _ h_=>(nE h_))
  have S_:=St.addL' S_ (a58 _ (.tail _ (.head _))) (fun _ _ _ h_=>(nE h_))
  have S_:=St.addL' S_ (a58 _ (.tail _ (.tail _ (.head _)))) (fun _ _ _ h_=>(nE h_))
  have S_:=St.addL' S_ (a58 _ (.tail _ (.tail _ (.tail _ (.head _))))) (fun _ _ _ h_=>(nE h_))
  have S_:=St.addL' S_ (a58 _ (.tail _ (.tail _ (.tail _ (.tail _ (.head _)))))) (fun _ _ _ h_=>(nE h_))
  obtain ⟨_,_,_,_,q55⟩:=hR_ 5 8 rfl (lE rfl) rfl
  replace q55:e_ 8=TU [AG [SL A32 r28.1.ChainBook.Sections.length c33,SL A34 r28.1.ChainBook.Turns.length c35,SL A36 r28.1.ChainBook.Surveys.length c37,I r28.1.ChainBook.Rule,I r28.1.ChainBook.Days,Value.map m38,SL A39 r28.1.truths_.length c40],I r28.2]:=(sJ ((congrArg some q56).symm.trans q55)).symm
  refine hopE [(8,TU [AG [SL A32 r28.1.ChainBook.Sections.length c33,SL A34 r28.1.ChainBook.Turns.length c35,SL A36 r28.1.ChainBook.Surveys.length c37,I r28.1.ChainBook.Rule,I r28.1.ChainBook.Days,Value.map m38,SL A39 r28.1.truths_.length c40],I r28.2])] ⟨q55,trivial⟩ ?_
  refine p_ext rfl rfl<|wp_nil ?_
  exact ⟨_,rfl,S_.keep,rfl⟩
 ·intro e_ w_ k_ hf_ hR_
  have S_:St w_ nF w_ [] [bl b17 [I 0,I 0] 23,bl b14 [I a1] 3,bl b11 [SL A1 a0.Sections.length c2,SL A4 a0.Turns.length c5,SL A7 a0.Surveys.length c8,I a0.Rule,I a0.Days] 63,rd eChainSection 4 A1 c2 a0.Sections,rd intE 1 A4 c5 a0.Turns,rd eChainSurvey 4 A7 c8 a0.Surveys,gW2]:=S19.asP k_
  obtain ⟨_,_,_,_,⟨A32,c33,A34,c35,A36,c37,m38,A39,c40⟩,q60,p61,a62⟩:=hR_ 4 13 rfl (lE rfl) rfl
  replace q60:e_ 13=TU [AG [SL A32 r28.1.ChainBook.Sections.length c33,SL A34 r28.1.ChainBook.Turns.length c35,SL A36 r28.1.ChainBook.Surveys.length c37,I r28.1.ChainBook.Rule,I r28.1.ChainBook.Days,Value.map m38,SL A39 r28.1.truths_.length c40],I r28.2]:=q60
  have S_:=St.addL' S_ (a62 _ (.head _)) (fun _ _ _ h_=>(nE h_))
  have S_:=St.addL' S_ (a62 _ (.tail _ (.head _))) (fun _ _ _ h_=>(nE h_))
  have S_:=St.addL' S_ (a62 _ (.tail _ (.tail _ (.head _)))) (fun _ _ _ h_=>(nE h_))
  have S_:=St.addL' S_ (a62 _ (.tail _ (.tail _ (.tail _ (.head _))))) (fun _ _ _ h_=>(nE h_))
  have S_:=St.addL' S_ (a62 _ (.tail _ (.tail _ (.tail _ (.tail _ (.head _)))))) (fun _ _ _ h_=>(nE h_))
  obtain ⟨_,_,_,_,q59⟩:=hR_ 5 8 rfl (lE rfl) rfl
  replace q59:e_ 8=TU [AG [SL A32 r28.1.ChainBook.Sections.length c33,SL A34 r28.1.ChainBook.Turns.length c35,SL A36 r28.1.ChainBook.Surveys.length c37,I r28.1.ChainBook.Rule,I r28.1.ChainBook.Days,Value.map m38,SL A39 r28.1.truths_.length c40],I r28.2]:=(sJ ((congrArg some q60).symm.trans q59)).symm
  refine hopE [(8,TU [AG [SL A32 r28.1.ChainBook.Sections.length c33,SL A34 r28.1.ChainBook.Turns.length c35,SL A36 r28.1.ChainBook.Surveys.length c37,I r28.1.ChainBook.Rule,I r28.1.ChainBook.Days,Value.map m38,SL A39 r28.1.truths_.length c40],I r28.2])] ⟨q59,trivial⟩ ?_
  refine p_ext rfl rfl<|wp_nil ?_
  exact ⟨_,rfl,S_.keep,rfl⟩
 ·intro e_ w_ k_ hf_ hR_
  have S_:St w_ nF w_ [] [bl b17 [I 0,I 0] 23,bl b14 [I a1] 3,bl b11 [SL A1 a0.Sections.length c2,SL A4 a0.Turns.length c5,SL A7 a0.Surveys.length c8,I a0.Rule,I a0.Days] 63,rd eChainSection 4 A1 c2 a0.Sections,rd intE 1 A4 c5 a0.Turns,rd eChainSurvey 4 A7 c8 a0.Surveys,gW2]:=S19.asP k_
  refine hopE [] trivial ?_
  refine p_allA in120 S_ fun b63 w64 S65=>wp_nil ?_
  exact ⟨_,rfl,S65.keep,⟨b63,rfl,⟨bL (New.al (S65.newX (i:=0) rfl)) rfl (S65.atX (i:=0) rfl) rfl,trivial⟩,(cA (S65.atX (i:=0) rfl) nM)⟩⟩
 ·intro e66 w67 lo68 hi69 k70 hf71 hR72 hd73
  have S74:=S19.call k70
  have q75:e66 9=AG [SL A1 a0.Sections.length c2,SL A4 a0.Turns.length c5,SL A7 a0.Surveys.length c8,I a0.Rule,I a0.Days]:=(hR72 0 9 (lE rfl) rfl).2.2.2
  have q76:e66 10=AG [SL A1 a0.Sections.length c2,SL A4 a0.Turns.length c5,SL A7 a0.Surveys.length c8,I a0.Rule,I a0.Days]:=(hR72 1 10 (lE rfl) rfl).2.2.2
  have q77:e66 11=I a1:=(hR72 2 11 (lE rfl) rfl).2.2.2
  have q78:e66 12=B r22:=(hR72 3 12 (lE rfl) rfl).2.2.2
  obtain ⟨h80,h81,h82,⟨A32,c33,A34,c35,A36,c37,m38,A39,c40⟩,q79,h83,h84⟩:=hR72 4 13 (lE rfl) rfl
  replace q79:e66 13=TU [AG [SL A32 r28.1.ChainBook.Sections.length c33,SL A34 r28.1.ChainBook.Turns.length c35,SL A36 r28.1.ChainBook.Surveys.length c37,I r28.1.ChainBook.Rule,I r28.1.ChainBook.Days,Value.map m38,SL A39 r28.1.truths_.length c40],I r28.2]:=q79
  obtain ⟨p85,p86,p87,p88,p89,_⟩:=h83
  have S90:=St.addR S74 (h84 _ (.head _)) (oR p85 h80 S19 (mG [0,1,2] rfl))
  have S91:=St.addR S90 (h84 _ (.tail _ (.head _))) (oR p86 h80 S19 (mG [0,1,2] rfl))
  have S92:=St.addR S91 (h84 _ (.tail _ (.tail _ (.head _)))) (oR p87 h80 S19 (mG [0,1,2] rfl))
  have S93:=St.addR S92 (h84 _ (.tail _ (.tail _ (.tail _ (.head _))))) (oR p88 h80 S19 (nM))
  have S94:=St.addR S93 (h84 _ (.tail _ (.tail _ (.tail _ (.tail _ (.head _)))))) (oR p89 h80 S19 (nM))
  have q95:e66 8=TU [AG [SL A32 r28.1.ChainBook.Sections.length c33,SL A34 r28.1.ChainBook.Turns.length c35,SL A36 r28.1.ChainBook.Surveys.length c37,I r28.1.ChainBook.Rule,I r28.1.ChainBook.Days,Value.map m38,SL A39 r28.1.truths_.length c40],I r28.2]:=(sJ ((congrArg some q79).symm.trans (hR72 5 8 (lE rfl) rfl).2.2.2)).symm
  have q96:e66 14=AG [SL A32 r28.1.ChainBook.Sections.length c33,SL A34 r28.1.ChainBook.Turns.length c35,SL A36 r28.1.ChainBook.Surveys.length c37,I r28.1.ChainBook.Rule,I r28.1.ChainBook.Days,Value.map m38,SL A39 r28.1.truths_.length c40]:=(sJ ((congrArg (exG 0) q95).symm.trans (hR72 6 14 (lE rfl) rfl).2.2.2)).symm
  have q97:e66 15=I r28.2:=(sJ ((congrArg (exG 1) q95).symm.trans (hR72 7 15 (lE rfl) rfl).2.2.2)).symm
  obtain ⟨h99,h100,h101,b63,q98,h102,h103⟩:=hR72 8 6 (lE rfl) rfl
  replace q98:e66 6=P b63 0:=q98
  obtain ⟨p104,_⟩:=h102
  have S106:=St.addO S94 (h103 _ (.head _)) (oN p104 h99 S19) (oX p104 h99 S19) (cA (oP p104 p89 h99 S19 (nM) (hd73 8 4 (lE rfl) (lE rfl) (by decide))) (cA (oP p104 p88 h99 S19 (nM) (hd73 8 4 (lE rfl) (lE rfl) (by decide))) (cA (oP p104 p87 h99 S19 (mG [0,1,2] rfl) (hd73 8 4 (lE rfl) (lE rfl) (by decide))) (cA (oP p104 p86 h99 S19 (mG [0,1,2] rfl) (hd73 8 4 (lE rfl) (lE rfl) (by decide))) (cA (oP p104 p85 h99 S19 (mG [0,1,2] rfl) (hd73 8 4 (lE rfl) (lE rfl) (by decide))) (oL p104 h99 S19))))))
  refine tailE [(3,P b14 0),(4,P b17 0),(6,P b63 0),(14,AG [SL A32 r28.1.ChainBook.Sections.length c33,SL A34 r28.1.ChainBook.Turns.length c35,SL A36 r28.1.ChainBook.Surveys.length c37,I r28.1.ChainBook.Rule,I r28.1.ChainBook.Days,Value.map m38,SL A39 r28.1.truths_.length c40]),(15,I r28.2)] ⟨((hf71 3 rfl).trans (rfl:_=P b14 0)),((hf71 4 rfl).trans (rfl:_=P b17 0)),q98,q96,q97,trivial⟩ ?_
  intro g107
  refine p_stP (pre:=[]) (old:=[SL none 0 0,SL none 0 0,SL none 0 0,I 0,I 0,Value.map none,SL none 0 0]) (post:=[]) (vs:=[SL A32 r28.1.ChainBook.Sections.length c33,SL A34 r28.1.ChainBook.Turns.length c35,SL A36 r28.1.ChainBook.Surveys.length c37,I r28.1.ChainBook.Rule,I r28.1.ChainBook.Days,Value.map m38,SL A39 r28.1.truths_.length c40]) sz120 S106 (i:=0) rfl rfl rfl rfl (rfl:_=AG [SL A32 r28.1.ChainBook.Sections.length c33,SL A34 r28.1.ChainBook.Turns.length c35,SL A36 r28.1.ChainBook.Surveys.length c37,I r28.1.ChainBook.Rule,I r28.1.ChainBook.Days,Value.map m38,SL A39 r28.1.truths_.length c40]) rfl rfl rfl rfl fun w108 S109=>?_
  refine p_aI rfl<|wp_nil<|c_seq<|c_seq<|reg<|p_mI rfl<|p_cmp rfl rfl rfl<|wp_nil ?_
  refine c_cond rfl (fun c110=>?_) (fun c110=>?_)
  ·replace H:=condT c110 H
   refine c_seq<|reg<|p_bld (cs:=[I 0,I 0]) st23 (rfl:_=[]) (by kernel_rfl)<|p_mI rfl<|p_stP (pre:=[]) (old:=[I 0,I 0]) (post:=[]) (vs:=[I 0,I 0]) sz23 S109 (i:=1) rfl rfl rfl rfl (rfl:_=AG [I 0,I 0]) rfl rfl rfl rfl fun w111 S112=>p_aI rfl<|wp_nil ?_
   obtain rfl:=sJ H
   refine c_ret ?_; show bodyPostM (Fr none) 0 Tryd.prog Tryd.f28 _ .ret _ _
   refine ret_of (res2 rfl (rvA rfl ty23 sz23 (S112.atX (i:=1) rfl) rfl) (rvT (rfl:_=I r28.2))) ?_
   exact ⟨_,rfl,rfl,S112.keep⟩
  ·replace H:=condF c110 H
   refine c_skip<|c_seq<|reg<|p_ldA ty120 sz120 (S109.atX (i:=0) rfl) rfl rfl ?_
   refine o_fun (rfl:_=[]) (rfl:_=[P b14 0]) ?_
   obtain ⟨r114,h115,H⟩:=bindS H
   refine p_cv (chain_book_told_ok h115 (S109.atP (i:=4) rfl) (S109.atP (i:=3) rfl) (S109.atP (i:=2) rfl) (S109.atP (i:=1) rfl) (S109.atP (i:=0) rfl) (by kernel_rfl) (fun _ _ _ k_ hr_=>chain_Wear_1_ok hr_ (aS (S109.atX (i:=2) rfl) k_))) fu63 rfl S109 fun w116 S117=>?_
   refine p_stP (pre:=[]) (old:=[I 0,I 0]) (post:=[]) (vs:=[I r114.Low,I r114.High]) sz23 S117 (i:=1) rfl rfl rfl rfl (rfl:_=AG [I r114.Low,I r114.High]) rfl rfl rfl rfl fun w118 S119=>p_aI rfl<|wp_nil ?_
   obtain rfl:=sJ H
   refine c_ret ?_; show bodyPostM (Fr none) 0 Tryd.prog Tryd.f28 _ .ret _ _
   refine ret_of (res2 rfl (rvA rfl ty23 sz23 (S119.atX (i:=1) rfl) rfl) (rvT (rfl:_=I 0))) ?_
   exact ⟨_,rfl,rfl,S119.keep⟩
 ·intro e120 w121 lo122 hi123 k124 hf125 hR126 hd127
  have S128:=S19.call k124
  have q129:e120 9=AG [SL A1 a0.Sections.length c2,SL A4 a0.Turns.length c5,SL A7 a0.Surveys.length c8,I a0.Rule,I a0.Days]:=(hR126 0 9 (lE rfl) (by decide) rfl).2.2.2
  have q130:e120 10=AG [SL A1 a0.Sections.length c2,SL A4 a0.Turns.length c5,SL A7 a0.Surveys.length c8,I a0.Rule,I a0.Days]:=(hR126 1 10 (lE rfl) (by decide) rfl).2.2.2
  have q131:e120 11=I a1:=(hR126 2 11 (lE rfl) (by decide) rfl).2.2.2
  have q132:e120 12=B r22:=(hR126 3 12 (lE rfl) (by decide) rfl).2.2.2
  obtain ⟨h134,h135,h136,⟨A32,c33,A34,c35,A36,c37,m38,A39,c40⟩,q133,h137,h138⟩:=hR126 4 13 (lE rfl) (by decide) rfl
  replace q133:e120 13=TU [AG [SL A32 r28.1.ChainBook.Sections.length c33,SL A34 r28.1.ChainBook.Turns.length c35,SL A36 r28.1.ChainBook.Surveys.length c37,I r28.1.ChainBook.Rule,I r28.1.ChainBook.Days,Value.map m38,SL A39 r28.1.truths_.length c40],I r28.2]:=q133
  obtain ⟨p139,p140,p141,p142,p143,_⟩:=h137
  have S144:=St.addR S128 (h138 _ (.head _)) (oR p139 h134 S19 (mG [0,1,2] rfl))
  have S145:=St.addR S144 (h138 _ (.tail _ (.head _))) (oR p140 h134 S19 (mG [0,1,2] rfl))
  have S146:=St.addR S145 (h138 _ (.tail _ (.tail _ (.head _)))) (oR p141 h134 S19 (mG [0,1,2] rfl))
  have S147:=St.addR S146 (h138 _ (.tail _ (.tail _ (.tail _ (.head _))))) (oR p142 h134 S19 (nM))
  have S148:=St.addR S147 (h138 _ (.tail _ (.tail _ (.tail _ (.tail _ (.head _)))))) (oR p143 h134 S19 (nM))
  have q149:e120 8=TU [AG [SL A32 r28.1.ChainBook.Sections.length c33,SL A34 r28.1.ChainBook.Turns.length c35,SL A36 r28.1.ChainBook.Surveys.length c37,I r28.1.ChainBook.Rule,I r28.1.ChainBook.Days,Value.map m38,SL A39 r28.1.truths_.length c40],I r28.2]:=(sJ ((congrArg some q133).symm.trans (hR126 5 8 (lE rfl) (by decide) rfl).2.2.2)).symm
  have q150:e120 14=AG [SL A32 r28.1.ChainBook.Sections.length c33,SL A34 r28.1.ChainBook.Turns.length c35,SL A36 r28.1.ChainBook.Surveys.length c37,I r28.1.ChainBook.Rule,I r28.1.ChainBook.Days,Value.map m38,SL A39 r28.1.truths_.length c40]:=(sJ ((congrArg (exG 0) q149).symm.trans (hR126 6 14 (lE rfl) (by decide) rfl).2.2.2)).symm
  obtain ⟨h152,h153,h154,b63,q151,h155,h156⟩:=hR126 8 6 (lE rfl) (by decide) rfl
  replace q151:e120 6=P b63 0:=q151
  obtain ⟨p157,_⟩:=h155
  have S159:=St.addO S148 (h156 _ (.head _)) (oN p157 h152 S19) (oX p157 h152 S19) (cA (oP p157 p143 h152 S19 (nM) (hd127 8 4 (lE rfl) (lE rfl) (by decide) (by decide) (by decide))) (cA (oP p157 p142 h152 S19 (nM) (hd127 8 4 (lE rfl) (lE rfl) (by decide) (by decide) (by decide))) (cA (oP p157 p141 h152 S19 (mG [0,1,2] rfl) (hd127 8 4 (lE rfl) (lE rfl) (by decide) (by decide) (by decide))) (cA (oP p157 p140 h152 S19 (mG [0,1,2] rfl) (hd127 8 4 (lE rfl) (lE rfl) (by decide) (by decide) (by decide))) (cA (oP p157 p139 h152 S19 (mG [0,1,2] rfl) (hd127 8 4 (lE rfl) (lE rfl) (by decide) (by decide) (by decide))) (oL p157 h152 S19))))))
  refine tailE [(3,P b14 0),(4,P b17 0),(6,P b63 0),(8,TU [AG [SL A32 r28.1.ChainBook.Sections.length c33,SL A34 r28.1.ChainBook.Turns.length c35,SL A36 r28.1.ChainBook.Surveys.length c37,I r28.1.ChainBook.Rule,I r28.1.ChainBook.Days,Value.map m38,SL A39 r28.1.truths_.length c40],I r28.2]),(14,AG [SL A32 r28.1.ChainBook.Sections.length c33,SL A34 r28.1.ChainBook.Turns.length c35,SL A36 r28.1.ChainBook.Surveys.length c37,I r28.1.ChainBook.Rule,I r28.1.ChainBook.Days,Value.map m38,SL A39 r28.1.truths_.length c40])] ⟨((hf125 3 rfl).trans (rfl:_=P b14 0)),((hf125 4 rfl).trans (rfl:_=P b17 0)),q151,q149,q150,trivial⟩ ?_
  intro g160
  refine p_stP (pre:=[]) (old:=[SL none 0 0,SL none 0 0,SL none 0 0,I 0,I 0,Value.map none,SL none 0 0]) (post:=[]) (vs:=[SL A32 r28.1.ChainBook.Sections.length c33,SL A34 r28.1.ChainBook.Turns.length c35,SL A36 r28.1.ChainBook.Surveys.length c37,I r28.1.ChainBook.Rule,I r28.1.ChainBook.Days,Value.map m38,SL A39 r28.1.truths_.length c40]) sz120 S159 (i:=0) rfl rfl rfl rfl (rfl:_=AG [SL A32 r28.1.ChainBook.Sections.length c33,SL A34 r28.1.ChainBook.Turns.length c35,SL A36 r28.1.ChainBook.Surveys.length c37,I r28.1.ChainBook.Rule,I r28.1.ChainBook.Days,Value.map m38,SL A39 r28.1.truths_.length c40]) rfl rfl rfl rfl fun w161 S162=>?_
  refine p_ext rfl rfl<|p_aI rfl<|wp_nil<|c_seq<|c_seq<|reg<|p_mI rfl<|p_cmp rfl rfl rfl<|wp_nil ?_
  refine c_cond rfl (fun c163=>?_) (fun c163=>?_)
  ·replace H:=condT c163 H
   refine c_seq<|reg<|p_bld (cs:=[I 0,I 0]) st23 (rfl:_=[]) (by kernel_rfl)<|p_mI rfl<|p_stP (pre:=[]) (old:=[I 0,I 0]) (post:=[]) (vs:=[I 0,I 0]) sz23 S162 (i:=1) rfl rfl rfl rfl (rfl:_=AG [I 0,I 0]) rfl rfl rfl rfl fun w164 S165=>p_aI rfl<|wp_nil ?_
   obtain rfl:=sJ H
   refine c_ret ?_; show bodyPostM (Fr none) 0 Tryd.prog Tryd.f28 _ .ret _ _
   refine ret_of (res2 rfl (rvA rfl ty23 sz23 (S165.atX (i:=1) rfl) rfl) (rvT (rfl:_=I r28.2))) ?_
   exact ⟨_,rfl,rfl,S165.keep⟩
  ·replace H:=condF c163 H
   refine c_skip<|c_seq<|reg<|p_ldA ty120 sz120 (S162.atX (i:=0) rfl) rfl rfl ?_
   refine o_fun (rfl:_=[]) (rfl:_=[P b14 0]) ?_
   obtain ⟨r167,h168,H⟩:=bindS H
   refine p_cv (chain_book_told_ok h168 (S162.atP (i:=4) rfl) (S162.atP (i:=3) rfl) (S162.atP (i:=2) rfl) (S162.atP (i:=1) rfl) (S162.atP (i:=0) rfl) (by kernel_rfl) (fun _ _ _ k_ hr_=>chain_Wear_1_ok hr_ (aS (S162.atX (i:=2) rfl) k_))) fu63 rfl S162 fun w169 S170=>?_
   refine p_stP (pre:=[]) (old:=[I 0,I 0]) (post:=[]) (vs:=[I r167.Low,I r167.High]) sz23 S170 (i:=1) rfl rfl rfl rfl (rfl:_=AG [I r167.Low,I r167.High]) rfl rfl rfl rfl fun w171 S172=>p_aI rfl<|wp_nil ?_
   obtain rfl:=sJ H
   refine c_ret ?_; show bodyPostM (Fr none) 0 Tryd.prog Tryd.f28 _ .ret _ _
   refine ret_of (res2 rfl (rvA rfl ty23 sz23 (S172.atX (i:=1) rfl) rfl) (rvT (rfl:_=I 0))) ?_
   exact ⟨_,rfl,rfl,S172.keep⟩
def coal_Day_l1 (a0:CoalBook) (r11:Coal_book×Int) (rec_z_1:Int→Option (Int×Int)) (z_1:Int):Option (Int×Int):=
 bif decide (z_1 < (a0.Days.length:Int)) then ((coal_coal z_1).bind fun r42=>
 (coal_book_span r11.1 (Coal_number.mk (fun y53=>coal_coal_1 y53 z_1))).bind fun r54=>
 bif decide (r54.Low < 0) then (some (z_1,0))
 else (rec_z_1 (wr (z_1+1))))
 else (some (0,4))
def coal_Day (a0:CoalBook):Option (Int×Int):=
 (coal_asked a0 true).bind fun r11=>
 bif (r11.2 != 0) then (some (0,r11.2))
 else (loopF (coal_Day_l1 a0 r11) big 0)
set_option maxRecDepth 100000 in
theorem coal_Day_ok {a0:CoalBook}{A1:Option Addr}{c2:Nat}{A4:Option Addr}{c5:Nat}{w:World}{r:Int×Int} (H:coal_Day a0=some r) (h3:(rd eCoalDay 3 A1 c2 a0.Days).ok w) (h6:(rd eCoalDip 3 A4 c5 a0.Dips).ok w) (hg7:(gW0).ok w):Calls Tryd.prog 65 #[AG ([I a0.Heap.Low,I a0.Heap.High]++(sgE eSpan a0.Eats 2++(sg a0.Extra 3++[SL A1 a0.Days.length c2,I a0.Collier.Low,I a0.Collier.High,I a0.Brings,SL A4 a0.Dips.length c5])))] w (RetV w (TU [I r.1,I r.2])):=by
 unfold coal_Day at H
 refine fn_of (n:=29) Tryd.func65 rfl rfl (lE rfl) ?_
 have S:=St.start w nF _ (cA h3 (cA h6 (cA hg7 nM)))
 refine c_seq<|reg<|p_boxA rfl S fun b8 w9 S10=>p_aI rfl<|p_aI rfl<|wp_nil<|c_seq<|reg<|p_ldA ty29 sz29 (S10.atX (i:=0) rfl) rfl rfl ?_
 obtain ⟨r11,h12,H⟩:=bindS H
 refine p_cal (coal_asked_ok h12 (S10.atP (i:=0) rfl) (S10.atP (i:=1) rfl) (S10.atP (i:=2) rfl)) fu44 rfl ?_
 rintro _ w13 ⟨A15,c16,A17,c18,m19,rfl,k14,⟨o20,n21⟩,⟨o22,n23⟩,⟨o24,n25⟩,_⟩
 have S26:=S10.callN k14 [rd eCoalDay 3 A15 c16 r11.1.CoalBook.Days,rd eCoalDip 3 A17 c18 r11.1.CoalBook.Dips,mpo ekG iE m19 r11.1.costs_] (cA ⟨o20,Al.inL n21 ((cA (fp_mem (i:=0) rfl) (cA (fp_mem (i:=1) rfl) nM)))⟩ (cA ⟨o22,New.inL n23⟩ (cA ⟨o24,New.inL n25⟩ nM)))
 refine p_mT rfl<|p_ext rfl rfl<|p_ext rfl rfl<|p_allA in84 S26 fun b27 w28 S29=>?_
 refine p_stP (pre:=[]) (old:=[I 0,I 0]++(sgE eSpan (List.replicate 2 (Span.mk 0 0)) 2++(sg (List.replicate 3 0) 3++[SL none 0 0,I 0,I 0,I 0,SL none 0 0,Value.map none]))) (post:=[]) (vs:=[I r11.1.CoalBook.Heap.Low,I r11.1.CoalBook.Heap.High]++(sgE eSpan r11.1.CoalBook.Eats 2++(sg r11.1.CoalBook.Extra 3++[SL A15 r11.1.CoalBook.Days.length c16,I r11.1.CoalBook.Collier.Low,I r11.1.CoalBook.Collier.High,I r11.1.CoalBook.Brings,SL A17 r11.1.CoalBook.Dips.length c18,Value.map m19]))) sz84 S29 (i:=0) rfl rfl rfl rfl (rfl:_=AG ([I r11.1.CoalBook.Heap.Low,I r11.1.CoalBook.Heap.High]++(sgE eSpan r11.1.CoalBook.Eats 2++(sg r11.1.CoalBook.Extra 3++[SL A15 r11.1.CoalBook.Days.length c16,I r11.1.CoalBook.Collier.Low,I r11.1.CoalBook.Collier.High,I r11.1.CoalBook.Brings,SL A17 r11.1.CoalBook.Dips.length c18,Value.map m19])))) rfl rfl rfl rfl fun w30 S31=>?_
 refine p_aI rfl<|wp_nil<|c_seq<|c_seq<|reg<|p_mI rfl<|p_cmp rfl rfl rfl<|wp_nil ?_
 refine c_cond rfl (fun c32=>?_) (fun c32=>?_)
 ·replace H:=condT c32 H
  refine c_seq<|reg<|p_mI rfl<|p_aI rfl<|p_aI rfl<|wp_nil ?_
  obtain rfl:=sJ H
  refine c_ret ?_; show bodyPostM (Fr none) 0 Tryd.prog Tryd.f65 _ .ret _ _
  refine ret_of (res2 rfl (rvT (rfl:_=I 0)) (rvT (rfl:_=I r11.2))) ?_
  exact ⟨_,rfl,rfl,S31.keep⟩
 ·replace H:=condF c32 H
  refine c_skip<|c_seq<|c_seq<|reg<|p_fld fl29_3 rfl<|p_ld ty26 (S31.atX (i:=1) rfl) rfl rfl<|p_len rfl sc26<|p_mI rfl<|wp_nil<|c_block ?_
  have S33:=S31.pk [0] (by decide) [0,1,2,3,4,5] rfl rfl
  refine c_lop (α:=Int) (β:=Unit) (coal_Day_l1 a0 r11) (fun z_1 y_1=>[(4,P b27 0),(17,I (a0.Days.length:Int)),(18,I z_1)]) (fun z_1 y_1 w_=>St w nF w_ [bl b27 ([I r11.1.CoalBook.Heap.Low,I r11.1.CoalBook.Heap.High]++(sgE eSpan r11.1.CoalBook.Eats 2++(sg r11.1.CoalBook.Extra 3++[SL A15 r11.1.CoalBook.Days.length c16,I r11.1.CoalBook.Collier.Low,I r11.1.CoalBook.Collier.High,I r11.1.CoalBook.Brings,SL A17 r11.1.CoalBook.Dips.length c18,Value.map m19]))) 84] [rd eCoalDay 3 A15 c16 r11.1.CoalBook.Days,rd eCoalDip 3 A17 c18 r11.1.CoalBook.Dips,mpo ekG iE m19 r11.1.costs_,rd eCoalDay 3 A1 c2 a0.Days,rd eCoalDip 3 A4 c5 a0.Dips,gW0]) 0 () H ⟨rfl,rfl,rfl,trivial⟩ S33 ?_
  intro m34 z_1 y_1 e35 w36 H S37
  unfold coal_Day_l1 at H
  refine c_seq<|reg<|p_cmp rfl rfl rfl<|wp_nil<|c_seq ?_
  refine c_cond rfl (fun c38=>?_) (fun c38=>?_)
  ·replace H:=condT c38 H
   refine c_skip<|c_seq<|c_block<|c_seq<|reg<|p_mI rfl<|p_aI rfl<|wp_nil<|c_seq ?_
   refine reg_c mixed 6 [2,3,4,5] (by kernel_rfl) ?_
   refine kS rfl (fun _ k_=>p_ldA ty84 sz84 (aS (S37.atX (i:=0) rfl) k_) rfl rfl dn)<|kS rfl (fun _ k_=>p_mI rfl dn)<|kC rfl<|kC rfl<|kC rfl<|kC rfl ?_
   intro w39 k40; have S41:=S37.call k40
   obtain ⟨r42,h43,H⟩:=bindS H
   refine p_cal (coal_coal_ok h43) fu47 rfl ?_
   rintro _ w44 ⟨b46,rfl,k45,⟨o47,n48⟩,_⟩
   have S49:=S41.addNew k45 o47 n48
   refine cN k45 fun w50 k51=>?_
   have S52:=S49.call k51
   obtain ⟨r54,h55,H⟩:=bindS H
   refine p_cal (coal_book_span_ok h55 (S52.atP (i:=0) rfl) (S52.atP (i:=1) rfl) (S52.atP (i:=2) rfl) (by kernel_rfl) (fun _ _ _ k_ hr_=>coal_coal_1_ok hr_ (aS (S52.atX (i:=0) rfl) k_))) fu46 rfl ?_
   rintro _ w56 ⟨rfl,k57⟩; refine cN k57 fun w58 k59=>?_
   have S60:=(S52.call k57).call k59
   refine p_fieldV ft23_0 ty3 rfl rfl (cN (kR) fun w61 k62=>?_)
   have S63:=S60.call k62
   refine p_cmp rfl rfl rfl (cN (kR) fun w64 k65=>?_)
   have S66:=S63.call k65
   refine wp_nil ?_
   refine c_cond rfl (fun c67=>?_) (fun c67=>?_)
   ·replace H:=condT c67 H
    refine c_seq<|reg<|p_mI rfl<|p_aI rfl<|p_aI rfl<|wp_nil ?_
    obtain rfl:=sJ H
    refine c_ret ?_; show bodyPostM (Fr none) 0 Tryd.prog Tryd.f65 _ .ret _ _
    refine ret_of (res2 rfl (rvT (rfl:_=I z_1)) (rvT (rfl:_=I 0))) ?_
    exact ⟨_,rfl,rfl,S66.keep⟩
   ·replace H:=condF c67 H
    refine c_skip<|reg<|p_add rfl rfl<|p_mI rfl<|wp_nil ?_
    have S68:=S66.pk [1] (by decide) [0,1,2,3,4,5] rfl rfl
    exact ⟨wr (z_1+1),(),_,rfl,⟨rfl,rfl,rfl,trivial⟩,H,S68⟩
  ·replace H:=condF c38 H
   refine c_exit<|c_seq<|reg<|p_aI rfl<|p_aI rfl<|wp_nil ?_
   obtain rfl:=sJ H
   refine c_ret ?_; show bodyPostM (Fr none) 0 Tryd.prog Tryd.f65 _ .ret _ _
   refine ret_of (res2 rfl (rvT (rfl:_=I 0)) (rvT (rfl:_=I 4))) ?_
   exact ⟨_,rfl,rfl,S37.keep⟩
def law_lower06_l2 (a0:CoalBook) (a1:Int) (r18:Span) (rec_z_1:(Int×(List CoalDip))→Option Bool) (z_1:Int×(List CoalDip)):Option Bool:=
 bif decide (z_1.1 < (a0.Dips.length:Int)) then ((getI a0.Dips z_1.1).bind fun r32=>
 bif decide ((wr (r32.Read - a1)) < 0) then (some true)
 else (need (fitsL (z_1.2.length+([(CoalDip.mk r32.Day (wr (r32.Read - a1)) r32.Error)]:List CoalDip).length) 24)<|
 rec_z_1 (wr (z_1.1+1),z_1.2++([(CoalDip.mk r32.Day (wr (r32.Read - a1)) r32.Error)]:List CoalDip))))
 else ((coal_Day (CoalBook.mk r18 a0.Eats a0.Extra a0.Days a0.Collier a0.Brings z_1.2)).bind fun r55=>
 (law_link06 a0 a1).bind fun r59=>
 (chain_Thin r59 0).bind fun r76=>
 bif (r55.2 != 0) then (bif (r55.2==4) then (some (r76.2==r55.2))
 else (some false))
 else (bif (r76.2==0) then (some (r76.1==(wr (r55.1+1))))
 else (some false)))
def law_lower06 (a0:CoalBook) (a1:Int):Option Bool:=
 (B_Range (wr (a0.Heap.Low - a1)) (wr (a0.Heap.High - a1))).bind fun r18=>
 loopF (law_lower06_l2 a0 a1 r18) big (0,([]:List CoalDip))
set_option maxRecDepth 100000 in
theorem law_lower06_ok {a0:CoalBook}{a1:Int}{A1:Option Addr}{c2:Nat}{A4:Option Addr}{c5:Nat}{w:World}{r:Bool} (H:law_lower06 a0 a1=some r) (h3:(rd eCoalDay 3 A1 c2 a0.Days).ok w) (h6:(rd eCoalDip 3 A4 c5 a0.Dips).ok w) (hg7:(gW0).ok w) (hg8:(gW2).ok w) (hg9:(gW4).ok w):Calls Tryd.prog 29 #[AG ([I a0.Heap.Low,I a0.Heap.High]++(sgE eSpan a0.Eats 2++(sg a0.Extra 3++[SL A1 a0.Days.length c2,I a0.Collier.Low,I a0.Collier.High,I a0.Brings,SL A4 a0.Dips.length c5]))),I a1] w (RetV w (B r)):=by
 unfold law_lower06 at H
 refine fn_of (n:=81) Tryd.func29 rfl rfl (lE rfl) ?_
 have S:=St.start w nF _ (cA h3 (cA h6 (cA hg7 (cA hg8 (cA hg9 nM)))))
 refine c_seq<|reg<|p_boxA rfl S fun b10 w11 S12=>p_aB rfl<|wp_nil<|c_seq<|reg<|p_ldA ty29 sz29 (S12.atX (i:=0) rfl) rfl rfl<|p_allA in29 S12 fun b13 w14 S15=>?_
 refine p_stP (pre:=[]) (old:=[I 0,I 0]++(sgE eSpan (List.replicate 2 (Span.mk 0 0)) 2++(sg (List.replicate 3 0) 3++[SL none 0 0,I 0,I 0,I 0,SL none 0 0]))) (post:=[]) (vs:=[I a0.Heap.Low,I a0.Heap.High]++(sgE eSpan a0.Eats 2++(sg a0.Extra 3++[SL A1 a0.Days.length c2,I a0.Collier.Low,I a0.Collier.High,I a0.Brings,SL A4 a0.Dips.length c5]))) sz29 S15 (i:=0) rfl rfl rfl rfl (rfl:_=AG ([I a0.Heap.Low,I a0.Heap.High]++(sgE eSpan a0.Eats 2++(sg a0.Extra 3++[SL A1 a0.Days.length c2,I a0.Collier.Low,I a0.Collier.High,I a0.Brings,SL A4 a0.Dips.length c5])))) rfl rfl rfl rfl fun w16 S17=>?_
 refine wp_nil<|c_seq<|reg<|p_fld fl29_0 rfl<|p_fld fl23_0 rfl<|p_ld ty3 (S17.atX (i:=1) rfl) rfl rfl<|p_mI rfl<|p_sub rfl rfl<|p_fld fl29_0 rfl<|p_fld fl23_1 rfl<|p_ld ty3 (S17.atX (i:=1) rfl) rfl rfl<|p_mI rfl<|p_sub rfl rfl ?_
 obtain ⟨r18,h19,H⟩:=bindS H
 refine p_cv (B_Range_ok h19) fu18 rfl S17 fun w20 S21=>p_fld fl29_0 rfl ?_
 refine p_stP (pre:=[]) (old:=[I a0.Heap.Low,I a0.Heap.High]) (post:=sgE eSpan a0.Eats 2++(sg a0.Extra 3++[SL A1 a0.Days.length c2,I a0.Collier.Low,I a0.Collier.High,I a0.Brings,SL A4 a0.Dips.length c5])) (vs:=[I r18.Low,I r18.High]) sz23 S21 (i:=0) rfl rfl rfl rfl (rfl:_=AG [I r18.Low,I r18.High]) rfl rfl rfl rfl fun w22 S23=>p_fld fl29_6 rfl ?_
 refine p_stP (pre:=[I r18.Low,I r18.High]++(sgE eSpan a0.Eats 2++(sg a0.Extra 3++[SL A1 a0.Days.length c2,I a0.Collier.Low,I a0.Collier.High,I a0.Brings]))) (old:=[SL A4 a0.Dips.length c5]) (post:=[]) (vs:=[SL none 0 0]) sz27 S23 (i:=0) rfl rfl rfl rfl (rfl:_=SL none 0 0) rfl rfl rfl rfl fun w24 S25=>wp_nil<|c_seq<|c_seq<|reg<|p_aI rfl<|wp_nil<|c_block ?_
 have S26:=S25.nilRow eCoalDip 3 75
 refine c_lop (α:=Int×(List CoalDip)) (β:=(Option Addr)×Nat) (law_lower06_l2 a0 a1 r18) (fun z_1 y_1=>[(1,I a1),(2,P b10 0),(5,P b13 0),(6,I z_1.1)]) (fun z_1 y_1 w_=>St w nF w_ [gr eCoalDip 3 75 y_1.1 y_1.2 z_1.2,bl b13 ([I r18.Low,I r18.High]++(sgE eSpan a0.Eats 2++(sg a0.Extra 3++[SL A1 a0.Days.length c2,I a0.Collier.Low,I a0.Collier.High,I a0.Brings,SL y_1.1 z_1.2.length y_1.2]))) 29,bl b10 ([I a0.Heap.Low,I a0.Heap.High]++(sgE eSpan a0.Eats 2++(sg a0.Extra 3++[SL A1 a0.Days.length c2,I a0.Collier.Low,I a0.Collier.High,I a0.Brings,SL A4 a0.Dips.length c5]))) 29] [rd eCoalDay 3 A1 c2 a0.Days,rd eCoalDip 3 A4 c5 a0.Dips,gW0,gW2,gW4]) (0,([]:List CoalDip)) (none,0) H ⟨rfl,rfl,rfl,rfl,trivial⟩ S26 ?_
 intro m27 z_1 y_1 e28 w29 H S30
 unfold law_lower06_l2 at H
 refine c_seq<|c_seq<|reg<|p_mI rfl<|p_fld fl29_6 rfl<|p_ld ty27 (S30.atX (i:=2) rfl) rfl rfl<|p_len rfl sc27<|p_cmp rfl rfl rfl<|wp_nil ?_
 refine c_cond rfl (fun c31=>?_) (fun c31=>?_)
 ·replace H:=condT c31 H
  refine c_skip<|c_seq<|c_block<|c_seq<|reg<|p_fld fl29_6 rfl<|p_ld ty27 (S30.atX (i:=2) rfl) rfl rfl<|p_mI rfl ?_
  obtain ⟨r32,h33,H⟩:=bindS H
  refine p_ixE sc27 h33 (S30.atP (i:=1) rfl).1 rfl rfl rfl<|p_ldEA ty75 sz75 rfl h33 (S30.atP (i:=1) rfl).1 rfl<|p_allA in75 S30 fun b34 w35 S36=>p_stP (pre:=[]) (old:=[I 0,I 0,I 0]) (post:=[]) (vs:=[I r32.Day,I r32.Read,I r32.Error]) sz75 S36 (i:=0) rfl rfl rfl rfl (rfl:_=AG [I r32.Day,I r32.Read,I r32.Error]) rfl rfl rfl rfl fun w37 S38=>wp_nil<|c_seq<|reg<|p_fld fl75_1 rfl ?_
  refine p_ld ty3 (S38.atX (i:=0) rfl) rfl rfl<|p_mI rfl<|p_sub rfl rfl<|p_fld fl75_1 rfl<|p_stP (pre:=[I r32.Day]) (old:=[I r32.Read]) (post:=[I r32.Error]) (vs:=[I (wr (r32.Read - a1))]) sz3 S38 (i:=0) rfl rfl rfl rfl (rfl:_=I (wr (r32.Read - a1))) rfl rfl rfl rfl fun w39 S40=>wp_nil<|c_seq<|c_seq<|reg<|p_fld fl75_1 rfl<|p_ld ty3 (S40.atX (i:=0) rfl) rfl rfl<|p_cmp rfl rfl rfl<|wp_nil ?_
  refine c_cond rfl (fun c41=>?_) (fun c41=>?_)
  ·replace H:=condT c41 H
   refine c_seq<|reg<|p_aB rfl<|wp_nil ?_
   obtain rfl:=sJ H
   exact c_ret (rT Tryd.f29 S40.keep rfl rfl)
  ·replace H:=condF c41 H
   refine c_skip<|reg<|p_fld fl29_6 rfl<|p_ld ty27 (S40.atX (i:=2) rfl) rfl rfl<|p_ldA ty75 sz75 (S40.atX (i:=0) rfl) rfl rfl<|p_bsl (enc:=eCoalDip) (l:=([(CoalDip.mk r32.Day (wr (r32.Read - a1)) r32.Error)]:List CoalDip)) (fun x=>AG (eCoalDip x)) (fun _=>rfl) sc27 in75 eCoalDip_len rfl (by decide) (by decide) zr75_1 S40 rfl fun A42 c43 w44 S45=>?_
   obtain ⟨h51,H⟩:=needS H
   refine p_app (enc:=eCoalDip) sc27 in75 rfl eCoalDip_len eCoalDip_one (by decide) S45 (k:=2) rfl (gr_sl eCoalDip_len (S45.atX (i:=0) rfl)) h51 (by simp) rfl rfl fun A49 c50 w47 S48=>p_fld fl29_6 rfl ?_
   refine p_stP (pre:=[I r18.Low,I r18.High]++(sgE eSpan a0.Eats 2++(sg a0.Extra 3++[SL A1 a0.Days.length c2,I a0.Collier.Low,I a0.Collier.High,I a0.Brings]))) (old:=[SL y_1.1 z_1.2.length y_1.2]) (post:=[]) (vs:=[SL A49 (z_1.2++([(CoalDip.mk r32.Day (wr (r32.Read - a1)) r32.Error)]:List CoalDip)).length c50]) sz27 S48 (i:=3) rfl rfl rfl rfl (rfl:_=SL A49 (z_1.2++([(CoalDip.mk r32.Day (wr (r32.Read - a1)) r32.Error)]:List CoalDip)).length c50) rfl rfl rfl rfl fun w52 S53=>?_
   refine wp_nil<|reg<|p_mI rfl<|p_add rfl rfl<|p_aI rfl<|wp_nil ?_
   have S54:=S53.pk [2,3,4] (by decide) [0,1,2,3,4] rfl rfl
   exact ⟨(wr (z_1.1+1),z_1.2++([(CoalDip.mk r32.Day (wr (r32.Read - a1)) r32.Error)]:List CoalDip)),(A49,c50),_,rfl,⟨rfl,rfl,rfl,rfl,trivial⟩,H,S54⟩
 ·replace H:=condF c31 H
  refine c_exit<|c_seq<|reg<|p_ldA ty29 sz29 (S30.atX (i:=1) rfl) rfl rfl ?_
  obtain ⟨r55,h56,H⟩:=bindS H
  refine p_cv (coal_Day_ok h56 (S30.atP (i:=0) rfl) (gr_rd eCoalDip_len (S30.atX (i:=0) rfl)) (S30.atP (i:=2) rfl)) fu65 rfl S30 fun w57 S58=>p_mT rfl<|p_ext rfl rfl<|p_ext rfl rfl<|p_aI rfl<|p_aI rfl<|wp_nil<|c_seq<|reg<|p_ldA ty29 sz29 (S58.atX (i:=2) rfl) rfl rfl<|p_mI rfl ?_
  obtain ⟨r59,h60,H⟩:=bindS H
  refine p_cal (law_link06_ok h60 (S58.atP (i:=0) rfl) (S58.atP (i:=1) rfl)) fu22 rfl ?_
  rintro _ w61 ⟨A63,c64,A65,c66,A67,c68,rfl,k62,⟨o69,n70⟩,⟨o71,n72⟩,⟨o73,n74⟩,_⟩
  have S75:=S58.callN k62 [rd eChainSection 4 A63 c64 r59.Sections,rd intE 1 A65 c66 r59.Turns,rd eChainSurvey 4 A67 c68 r59.Surveys] (cA ⟨o69,New.inL n70⟩ (cA ⟨o71,New.inL n72⟩ (cA ⟨o73,New.inL n74⟩ nM)))
  obtain ⟨r76,h77,H⟩:=bindS H
  refine p_cv (chain_Thin_ok h77 (S75.atP (i:=0) rfl) (S75.atP (i:=1) rfl) (S75.atP (i:=2) rfl) (S75.atP (i:=6) rfl) (S75.atP (i:=7) rfl)) fu34 rfl S75 fun w78 S79=>p_mT rfl<|p_ext rfl rfl<|p_ext rfl rfl<|p_aI rfl<|p_aI rfl<|wp_nil<|c_seq<|c_seq<|reg<|p_mI rfl<|p_cmp rfl rfl rfl<|wp_nil ?_
  refine c_cond rfl (fun c80=>?_) (fun c80=>?_)
  ·replace H:=condT c80 H
   refine c_seq<|reg<|p_mI rfl<|p_cmp rfl rfl rfl<|p_mB rfl ?_
   rcases bE ((r55.2==4)) with c81 | c81
   ·replace H:=condT c81 H
    refine eB c81 ?_
    refine gT rfl rfl (p_mI rfl ?_)
    refine gT rfl rfl (p_mI rfl ?_)
    refine gT rfl rfl (p_cmp rfl rfl rfl ?_)
    refine p_pkT rfl (rfl:_=B (r76.2==r55.2))<|p_aB rfl<|wp_nil ?_
    obtain rfl:=sJ H
    exact c_ret (rT Tryd.f29 S79.keep rfl rfl)
   ·replace H:=condF c81 H
    refine eB c81<|gF rfl rfl<|gF rfl rfl<|gF rfl rfl<|p_pkF rfl (rfl:_=B false)<|p_aB rfl<|wp_nil ?_
    obtain rfl:=sJ H
    exact c_ret (rT Tryd.f29 S79.keep rfl rfl)
  ·replace H:=condF c80 H
   refine c_skip<|c_seq<|reg<|p_mI rfl<|p_cmp rfl rfl rfl<|p_mB rfl ?_
   rcases bE ((r76.2==0)) with c82 | c82
   ·replace H:=condT c82 H
    refine eB c82 ?_
    refine gT rfl rfl (p_mI rfl ?_)
    refine gT rfl rfl (p_mI rfl ?_)
    refine gT rfl rfl (p_add rfl rfl ?_)
    refine gT rfl rfl (p_cmp rfl rfl rfl ?_)
    refine p_pkT rfl (rfl:_=B (r76.1==(wr (r55.1+1))))<|p_aB rfl<|wp_nil ?_
    obtain rfl:=sJ H
    exact c_ret (rT Tryd.f29 S79.keep rfl rfl)
   ·replace H:=condF c82 H
    refine eB c82<|gF rfl rfl<|gF rfl rfl<|gF rfl rfl<|gF rfl rfl<|p_pkF rfl (rfl:_=B false)<|p_aB rfl<|wp_nil ?_
    obtain rfl:=sJ H
    exact c_ret (rT Tryd.f29 S79.keep rfl rfl)
end Go.Proofs.YtblfippmobpaaaaDoor
namespace Go.Fx
open Go Go.ChangeShapes Go.WideShapes Go.ChangeAt Go.RowKit
section
variable {H:Type}{enc:TypeId×Value→H}{P:Program}
theorem Keep.kept {w w' :World} (k:Keep0 w w') (may:MemPlace→Prop):w.keptBut w' may:=by
 refine ⟨k.os,k.output,fun i hi=>?_⟩
 have:=k.block i hi (fun x=>x)
 rw [this]
 cases w.heap[i]? with
 | none=>rfl
 | some o=>cases o <;> first | exact ⟨rfl,rfl,rfl,fun _ _=>rfl⟩ | exact .inr ⟨rfl,rfl⟩ | rfl
theorem Keep.same {w w' :World} (k:Keep0 w w') {p:MemPlace} (hp:p.block < w.heap.size):w.sameAt w' p:=by
 cases p with
 | cell b off=>
   have:=k.block b hp (fun x=>x)
   exact World.cell?_of_block (w:=w) this
 | map b=>exact k.block b hp (fun x=>x)
theorem trodAll_stays (hl:laidOutB P=true) {W W' :World}{sp' :Nat→Bool}:∀ {ts:List TypeId}{vs:List Value}{ds:List (DataW H)}{ps:List MemPlace},
 (∀ t∈ts,P.readableRec t=true∧t < P.types.size)→DataW.TrodAll enc P W 0 (fun _=>true) true ts vs ds ps→(∀ p∈ps,W.sameAt W' p)→(∀ p∈ps,sp' p.block=true)→DataW.TrodAll enc P W' 0 sp' true ts vs ds ps
 | [],[],[],_,_,h,_,_=>h
 | t::ts,v::vs,d::ds,ps,ht,⟨p,q,h1,h2,e⟩,hs,hb=>by
   subst e
   exact ⟨p,q,WideElems.Trod_stays hl (ht t (List.mem_cons_self ..)).1 (ht t (List.mem_cons_self ..)).2 h1 (fun x hx=>hs x (List.mem_append_left _ hx)) (fun x hx=>hb x (List.mem_append_left _ hx)),
    trodAll_stays hl (fun t ht' =>ht t (List.mem_cons_of_mem _ ht')) h2 (fun x hx=>hs x (List.mem_append_right _ hx)) (fun x hx=>hb x (List.mem_append_right _ hx)),rfl⟩
 | [],_::_,_,_,_,h,_,_=>by cases ‹List (DataW H)› <;> exact h.elim
 | [],[],_::_,_,_,h,_,_=>h.elim
 | _::_,[],_,_,_,h,_,_=>by cases ‹List (DataW H)› <;> exact h.elim
 | _::_,_::_,[],_,_,h,_,_=>h.elim
theorem law_post {fn:Func}{spec:ChangeSpec}{W W' :World}{args:Array Value}{ds gs:List (DataW H)}{before:List MemPlace}{tb:TypeId}
 (hW:DataW.Whole enc P fn.params.toList spec.vars false W args.toList ds gs before) (hl:laidOutB P=true) (hts:(fn.params.toList.all fun t=>P.readableRec t&&decide (t < P.types.size))=true)
 (hvars:spec.vars=[]) (hfn:spec.fn H ds={ results:=[.lit (.bool true)],args:=ds }) (hres:fn.resultTypes=#[tb]) (hb:P.underlying tb=some .bool) (k:Keep0 W W'):
 spec.post enc P fn false true false false W args (.bool true) W' :=by
 have hlt:=hW.lt
 obtain ⟨p,q,hA,hV,rfl,hfz,hnd⟩:=id hW
 have hV' :=hV
 rw [hvars] at hV'
 obtain ⟨rfl,rfl⟩:=trodVars_none hV'
 rw [List.append_nil] at hlt
 have hts' :∀ t∈fn.params.toList,P.readableRec t=true∧t < P.types.size:=fun t ht=>by
  have:=List.all_eq_true.1 hts t ht
  simpa using this
 refine ⟨ds,[],p++[],[],p,[],hW,?_,?_,?_,k.kept _,fun h=>by cases h⟩
 ·rw [List.append_nil,hfn,hres]
  exact trodAll_mk1 (shut_bool hb true)
 ·rw [List.append_nil,hfn]
  exact trodAll_stays hl hts' hA (fun x hx=>k.same (hlt x hx)) (fun x hx=>by simpa using hlt x hx)
 ·rw [List.append_nil,hfn,hvars]
  rfl
def InI (n:Int):Prop:=-9223372036854775808≤n∧n≤9223372036854775807
theorem inI_of {n:Int} (h:(Lit.int .i64 n).wf=true):InI n:=bounds_i64 h
variable {w:World}{base:Nat}{spare:Nat→Bool}{held:Bool}
def FlatI (P:Program) (t:TypeId) (n:Nat):Prop:=∀ {H:Type}{enc:TypeId×Value→H}{w:World}{base:Nat}{spare:Nat→Bool}{held:Bool}{fuel:Nat}{cs:List Value}{x:DataW H×List MemPlace},
 DataW.trod enc P w base spare held fuel t cs=some x→∃ l:List Int,l.length=n∧cs=l.map I∧∀ y∈l,InI y
theorem flat_cells {cs:List Value}:∀ {n:Nat},cs.length=n→(∀ i,i < n→∃ a:Int,cs[i]? =some (I a)∧InI a)→∃ l:List Int,l.length=n∧cs=l.map I∧∀ y∈l,InI y:=by
 intro n hn h
 subst hn
 induction cs with
 | nil=>exact ⟨[],rfl,rfl,fun _ h=>(List.not_mem_nil h).elim⟩
 | cons c cs ih=>
   obtain ⟨a,ha,hi⟩:=h 0 (by simp)
   obtain ⟨l,h1,h2,h3⟩:=ih fun i hi=>by
    obtain ⟨b,hb⟩:=h (i+1) (by simp; omega)
    exact ⟨b,by simpa using hb⟩
   refine ⟨a::l,by simp [h1],by simp at ha; rw [ha,h2]; rfl,fun y hy=>?_⟩
   rcases List.mem_cons.1 hy with rfl | hy
   ·exact hi
   ·exact h3 y hy
theorem take_one {cs:List Value}{o:Nat}{v:Value} (h:(cs.drop o).take 1=[v]):cs[o]? =some v:=by
 have:=congrArg (·[0]?) h
 simpa [List.getElem?_take] using this
theorem flat_array {t e:TypeId}{n:Nat} (ht:P.underlying t=some (.array n e)) (he:P.underlying e=some (.int .i64)) (hc:P.cellsOf e=1) (hn:P.cellsOf t=n):FlatI P t n:=by
 intro _ _ _ _ _ _ _ cs _ h
 obtain ⟨xs,m,_,_,hl,hxs,hel⟩:=DataW.trod_array ht h
 refine flat_cells (hl.trans hn) fun i hi=>?_
 have:=hel i hi
 rw [hc,Nat.mul_one,List.getElem?_eq_getElem (by rw [hxs]; exact hi)] at this
 obtain ⟨a,ha,_,hw⟩:=DataW.trod_int he this
 exact ⟨a,take_one ha,inI_of hw⟩
theorem flat_struct {t:TypeId}{fs:Array Field}{n:Nat} (ht:P.underlying t=some (.struct fs)) (hn:P.cellsOf t=n) (hf:∀ i,i < n→∃ f:Field,fs[i]? =some f∧f.offset=i∧P.underlying f.type=some (.int .i64)∧P.cellsOf f.type=1) (hs:fs.size=n):FlatI P t n:=by
 intro _ _ _ _ _ _ _ cs _ h
 obtain ⟨xs,m,_,_,hl,hxs,hel⟩:=DataW.trod_struct ht h
 refine flat_cells (hl.trans hn) fun i hi=>?_
 obtain ⟨f,h1,h2,h3,h4⟩:=hf i hi
 have:=hel i f h1
 rw [h2,h4,List.getElem?_eq_getElem (by rw [hxs,hs]; exact hi)] at this
 obtain ⟨a,ha,_,hw⟩:=DataW.trod_int h3 this
 exact ⟨a,take_one ha,inI_of hw⟩
theorem mapM_get {α β:Type}{f:α→Option β}:∀ {l:List α}{r:List β},l.mapM f=some r→∀ (i:Nat) (a:α),l[i]? =some a→f a=r[i]?
 | [],_,_,i,a,ha=>by simp at ha
 | x::l,r,h,i,a,ha=>by
   simp only [List.mapM_cons,Option.bind_eq_bind,Option.bind_eq_some_iff,Option.pure_def,Option.some.injEq] at h
   obtain ⟨b,hb,r',hr',rfl⟩:=h
   cases i with
   | zero=>
     simp only [List.getElem?_cons_zero,Option.some.injEq] at ha
     subst ha
     exact hb
   | succ i=>exact mapM_get hr' i a (by simpa using ha)
theorem cell_in {w:World}{a:Addr}{v:Value} (h:w.cell? a=some v):a.block < w.heap.size:=by
 unfold World.cell? at h
 split at h
 ·rename_i hw
  exact (Array.getElem?_eq_some_iff.1 hw).1
 ·cases h
theorem add_blk (a:Addr) (n:Nat):(a.add n).block=a.block∧(a.add n).off=a.off+n:=by
 unfold Addr.add
 split
 ·rename_i h; subst h; exact ⟨rfl,rfl⟩
 ·exact ⟨rfl,rfl⟩
theorem cellN {w:World}{a:Addr}{n:Nat}{v:Value} (h:w.cell? (a.add n)=some v):w.cell? ⟨a.block,a.off+n,none⟩=some v:=by
 have h1:=World.cell?_spot h
 obtain ⟨h2,h3⟩:=add_blk a n
 have:a.add n=⟨a.block,a.off+n,none⟩:=by
  generalize a.add n=x at h1 h2 h3
  cases x
  cases h1; cases h2; cases h3; rfl
 rwa [this] at h
theorem slice_flat {t e:TypeId}{s fuel:Nat}{cs:List Value}{x:DataW H×List MemPlace} (ht:P.underlying t=some (.slice e)) (F:FlatI P e s) (hs:P.cellsOf e=s) (h0:0 < s)
 (h:DataW.trod enc P w 0 spare held fuel t cs=some x):∃ A c,∃ xs:List (List Int),cs=[SL A xs.length c]∧(∀ l∈xs,l.length=s∧∀ y∈l,InI y)∧(rd (fun l:List Int=>l.map I) s A c xs).ok w:=by
 rcases DataW.trod_slice ht h with ⟨rfl,_⟩ | ⟨a,len,cap,elems,rest,n,_,rfl,_,_,hlc,hcm,hel,hE,_,_⟩
 ·exact ⟨none,0,[],rfl,fun _ h=>(List.not_mem_nil h).elim,.inl rfl,Nat.le_refl _,Nat.zero_le _⟩
 ·have ex:∀ i,i < len→∃ l:List Int,l.length=s∧(∀ y∈l,InI y)∧∀ j v,(l.map I)[j]? =some v→w.cell? ⟨a.block,a.off+i*s+j,none⟩=some v:=by
   intro i hi
   have:=hE i hi
   rw [hs,List.getElem?_eq_getElem (by rw [hel]; exact hi)] at this
   obtain ⟨cs,hc,hd⟩:=Option.bind_eq_some_iff.1 this
   obtain ⟨l,hl,rfl,hy⟩:=F hd
   refine ⟨l,hl,hy,fun j v hj=>?_⟩
   unfold World.cells? at hc
   rw [if_pos (Nat.zero_le _)] at hc
   have hjl:j < s:=by
    have:=(List.getElem?_eq_some_iff.1 hj).1
    rw [List.length_map,hl] at this
    exact this
   have:=mapM_get hc j j (List.getElem?_range hjl)
   rw [hj] at this
   have:=cellN this
   rwa [(add_blk a (i*s)).1,(add_blk a (i*s)).2] at this
  have ch:∃ f:Nat→List Int,∀ i,i < len→(f i).length=s∧(∀ y∈f i,InI y)∧∀ j v,((f i).map I)[j]? =some v→w.cell? ⟨a.block,a.off+i*s+j,none⟩=some v:=
   ⟨fun i=>if h:i < len then Classical.choose (ex i h) else [],fun i hi=>by simp only [dif_pos hi]; exact Classical.choose_spec (ex i hi)⟩
  obtain ⟨f,hf⟩:=ch
  refine ⟨some a,cap,(List.range len).map f,by simp [SL],fun l hl=>?_,?_,by simpa using hlc,hcm⟩
  ·obtain ⟨i,hi,rfl⟩:=List.mem_map.1 hl
   have:=hf i (List.mem_range.1 hi)
   exact ⟨this.1,this.2.1⟩
  ·by_cases hz:len=0
   ·left; subst hz; rfl
   ·right
    have h00:=(hf 0 (by omega)).2.2 0 (I ((f 0)[0]'(by rw [(hf 0 (by omega)).1]; exact h0))) (by simp [(hf 0 (by omega)).1,h0])
    obtain ⟨b,o,sp⟩:=a
    have hsp:sp=none:=by
     have:=hE 0 (by omega)
     rw [hs,List.getElem?_eq_getElem (by rw [hel]; omega)] at this
     obtain ⟨cs,hc,hd⟩:=Option.bind_eq_some_iff.1 this
     obtain ⟨l,hl,rfl,hy⟩:=F hd
     unfold World.cells? at hc
     rw [if_pos (Nat.zero_le _)] at hc
     have:=mapM_get hc 0 0 (List.getElem?_range h0)
     rw [List.getElem?_eq_getElem (by rw [List.length_map,hl]; exact h0)] at this
     rw [Nat.zero_mul] at this
     exact World.cell?_spot (show w.cell? ⟨b,o,sp⟩=_ from this)
    subst hsp
    refine ⟨b,o,rfl,cell_in h00,fun i x hx j v hv=>?_⟩
    have hi:i < len:=by
     have:=(List.getElem?_eq_some_iff.1 hx).1
     simpa using this
    have hx' :x=f i:=by simpa [List.getElem?_range,hi] using hx.symm
    subst hx'
    exact (hf i hi).2.2 j v hv
theorem rd_map {α β:Type}{e1:α→List Value}{e2:β→List Value}{s c:Nat}{A:Option Addr}{xs:List α} (f:α→β) (h:∀ x∈xs,e2 (f x)=e1 x) (h1:(rd e1 s A c xs).ok w):(rd e2 s A c (xs.map f)).ok w:=by
 refine ⟨?_,by simpa using h1.2.1,h1.2.2⟩
 rcases h1.1 with rfl | ⟨b,o,e,hb,hc⟩
 ·exact .inl rfl
 ·refine .inr ⟨b,o,e,hb,fun i x hx j v hv=>?_⟩
  rw [List.getElem?_map] at hx
  obtain ⟨y,hy,rfl⟩:=Option.map_eq_some_iff.1 hx
  rw [h y (List.mem_of_getElem? hy)] at hv
  exact hc i y hy j v hv
theorem sg_self (l:List Int) {n:Nat} (h:l.length=n):sg l n=l.map I:=by
 rw [sg_ivs,sgl_eq h]; rfl
theorem okWide_cells {r:Reach}{b0:Nat}{t:TypeId}{v:Value} (ht:(match P.underlying t with | some (.struct _) | some (.array _ _)=>true | _=>false)=true) (hval:Value.okWide P w r b0 t v):∃ cs,v=.agg cs:=by
 unfold Value.okWide at hval
 split at hval
 ·obtain ⟨cs,h,_⟩:=hval; exact ⟨cs,h⟩
 ·obtain ⟨cs,h,_⟩:=hval; exact ⟨cs,h⟩
 ·rename_i h1 h2
  split at ht
  ·rename_i h; exact absurd h (h1 _)
  ·rename_i h; exact absurd h (h2 _ _)
  ·cases ht
theorem dec_flat {r:Reach}{b0 n:Nat}{t:TypeId}{v:Value}{d:DataW H}{ps:List MemPlace} (ht:(match P.underlying t with | some (.struct _) | some (.array _ _)=>true | _=>false)=true) (F:FlatI P t n) (hval:Value.okWide P w r b0 t v) (hd:DataW.Trod enc P w base spare held t v d ps):
 ∃ l:List Int,l.length=n∧v=AG (l.map I)∧∀ y∈l,InI y:=by
 obtain ⟨cs,rfl⟩:=okWide_cells ht hval
 obtain ⟨fuel,hf⟩:=hd
 obtain ⟨l,hl,hc,hy⟩:=F hf
 refine ⟨l,hl,?_,hy⟩
 have:cs.toList=l.map I:=hc
 show Value.agg cs=Value.agg (l.map I).toArray
 rw [← this]
end
end Go.Fx
namespace Go.Proofs.YtblfippmobpaaaaDoor
open Go Go.Fx Go.Proofs Go.ChangeShapes Go.WideShapes Go.ChangeAt Go.RowKit
theorem own:ownKnob Tryd.prog.godebug=none:=by kernel_rfl
theorem laidOut:laidOutB Tryd.prog=true:=by kernel_rfl
theorem u3:Tryd.prog.underlying 3=some (.int .i64):=by kernel_rfl
theorem c3:Tryd.prog.cellsOf 3=1:=by kernel_rfl
theorem var_heap {W:World}{n:String}{g:Nat}{cs c:Array Value}{t:TypeId}{fr:Nat×Nat} (hg:Tryd.prog.globalNamed n=some g) (hv:W.var? Tryd.prog n=some cs) (hh:W.heap[g]? =some (.cells c t fr)):cs=c:=by
 unfold World.var? at hv
 rw [hg] at hv
 simp only [Option.bind_some,hh] at hv
 exact (Option.some.inj hv).symm
theorem gChainNowhere : Tryd.prog.globalNamed "prow/chain.nowhere" = some 2 := by kernel_rfl
theorem tChainNowhere:(Tryd.prog.globals[2]?).map (·.type)=some 155:=by kernel_rfl
theorem cc155:Tryd.prog.cellsOf 155=2:=by kernel_rfl
theorem uu155:∃ f0 f1:Field,Tryd.prog.underlying 155=some (.struct #[f0,f1])∧f0.type=3∧f1.type=3∧f0.offset=0∧f1.offset=1:=⟨(Tryd.prog.fieldsOf 155)[0]!,(Tryd.prog.fieldsOf 155)[1]!,by kernel_rfl,by kernel_rfl,by kernel_rfl,by kernel_rfl,by kernel_rfl⟩
theorem shape2:∃ zero,(((begin Tryd.prog (fun _ _=>0) default).world.heap[2]?).bind Obj.row?)=some (zero,155):=⟨#[I 0,I 0],by kernel_rfl⟩
set_option maxRecDepth 100000 in
theorem atChainNowhere {W : World} (hS : W.ShapedOpen Tryd.prog) {g t : Nat} {cs : Array Value} {fuel : Nat} {p : List MemPlace} (hg : Tryd.prog.globalNamed "prow/chain.nowhere" = some g) (ht : (Tryd.prog.globals[g]?).map (·.type) = some t) (hv : W.var? Tryd.prog "prow/chain.nowhere" = some cs)
 (hd:DataW.trod (fun _=>()) Tryd.prog W 0 (fun _=>true) false fuel t cs.toList=some (.agg [.lit (.int .i64 (-1)),.lit (.int .i64 (-1))],p)):(bl 2 [I (-1),I (-1)] 155).ok W:=by
 obtain ⟨z,hz⟩:=shape2
 obtain ⟨cs0,h1,_⟩:=hS.1 2 z 155 (of_decide_eq_true (by kernel_rfl)) hz
 obtain rfl:=Option.some.inj (gChainNowhere.symm.trans hg)
 obtain rfl:=Option.some.inj (tChainNowhere.symm.trans ht)
 obtain rfl:=var_heap gChainNowhere hv h1
 obtain ⟨f0,f1,hu,ht0,ht1,ho0,ho1⟩:=uu155
 obtain ⟨xs,m,_,hx,hl,hxs,hel⟩:=DataW.trod_struct hu hd
 rw [cc155] at hl
 have hx' :xs.map (·.1)=[.lit (.int .i64 (-1)),.lit (.int .i64 (-1))]:=by
  have:=congrArg Prod.fst hx
  exact (DataW.agg.inj this).symm
 obtain ⟨cl⟩:=cs
 match cl,hl with
 | [v0,v1],_=>
   match xs,hx' with
   | [(_,p0),(_,p1)],hx' =>
     simp only [List.map_cons,List.map_nil,List.cons.injEq,and_true] at hx'
     obtain ⟨rfl,rfl⟩:=hx'
     have e0:=hel 0 f0 rfl
     have e1:=hel 1 f1 rfl
     rw [ho0,ht0,c3] at e0
     rw [ho1,ht1,c3] at e1
     obtain ⟨n0,a0,b0,_⟩:=DataW.trod_int u3 (show DataW.trod _ _ _ _ _ _ _ _ [v0]=some (_,p0) from e0)
     obtain ⟨n1,a1,b1,_⟩:=DataW.trod_int u3 (show DataW.trod _ _ _ _ _ _ _ _ [v1]=some (_,p1) from e1)
     cases a0; cases a1; cases b0; cases b1
     exact h1
theorem gChainThins : Tryd.prog.globalNamed "prow/chain.thins" = some 4 := by kernel_rfl
theorem tChainThins:(Tryd.prog.globals[4]?).map (·.type)=some 178:=by kernel_rfl
theorem uu178:Tryd.prog.underlying 178=some (.array 2 177):=by kernel_rfl
theorem uu177b:(match Tryd.prog.underlying 177 with | some (.func _ _ _)=>true | _=>false)=true:=by kernel_rfl
theorem uu177:∃ ps rs va,Tryd.prog.underlying 177=some (.func ps rs va):=by
 have h:=uu177b
 split at h
 ·rename_i ps rs va hu; exact ⟨ps,rs,va,hu⟩
 ·cases h
theorem cc177:Tryd.prog.cellsOf 177=1:=by kernel_rfl
theorem cc178:Tryd.prog.cellsOf 178=2:=by kernel_rfl
theorem shape4:∃ zero,(((begin Tryd.prog (fun _ _=>0) default).world.heap[4]?).bind Obj.row?)=some (zero,178):=⟨#[.nilFunc,.nilFunc],by kernel_rfl⟩
set_option maxRecDepth 100000 in
theorem atChainThins {W : World} (hS : W.ShapedOpen Tryd.prog) {laid : List (String × DataW Unit)} (h : laidMetH Tryd.prog laid W) (hm : ("prow/chain.thins", Rows.laid_prow_chain_thins) ∈ laid) : (bl 4 [Value.func (.func 125) #[] #[], Value.func (.func 128) #[] #[]] 178).ok W := by
 obtain ⟨z,hz⟩:=shape4
 obtain ⟨cs0,h0,_⟩:=hS.1 4 z 178 (of_decide_eq_true (by kernel_rfl)) hz
 obtain ⟨g, t, cs, fuel, p, hg, ht, hv, hd⟩ := h.funcs (n := "prow/chain.thins") hm
 obtain rfl:=Option.some.inj (gChainThins.symm.trans hg)
 obtain rfl:=Option.some.inj (tChainThins.symm.trans ht)
 obtain rfl:=var_heap gChainThins hv h0
 obtain ⟨xs,m,_,hx,hl,hxs,hel⟩:=DataW.trod_array uu178 hd
 rw [cc178] at hl
 have hx' :xs.map (·.1)=[.held [40,112,114,111,119,47,99,104,97,105,110,46,107,110,111,119,110,41,46,109,97,121],.held [40,112,114,111,119,47,99,104,97,105,110,46,107,110,111,119,110,41,46,115,117,114,101,108,121]]:=by
  have:=congrArg Prod.fst hx
  exact (DataW.agg.inj this).symm
 obtain ⟨ps,rs,va,hu⟩:=uu177
 obtain ⟨cl⟩:=cs
 match cl,hl with
 | [v0,v1],_=>
   match xs,hx' with
   | [(_,p0),(_,p1)],hx' =>
     simp only [List.map_cons,List.map_nil,List.cons.injEq,and_true] at hx'
     obtain ⟨rfl,rfl⟩:=hx'
     have e0:=hel 0 (by decide)
     have e1:=hel 1 (by decide)
     rw [cc177] at e0 e1
     obtain rfl:=func_of_trod (f0:=125) hu (by kernel_rfl) (show DataW.trod _ _ _ _ _ _ _ _ [v0]=some (_,p0) from e0)
     obtain rfl:=func_of_trod (f0:=128) hu (by kernel_rfl) (show DataW.trod _ _ _ _ _ _ _ _ [v1]=some (_,p1) from e1)
     exact h0
theorem gCoalStill : Tryd.prog.globalNamed "prow/coal.still" = some 0 := by kernel_rfl
theorem tCoalStill:(Tryd.prog.globals[0]?).map (·.type)=some 137:=by kernel_rfl
theorem cc137:Tryd.prog.cellsOf 137=2:=by kernel_rfl
theorem uu137:∃ f0 f1:Field,Tryd.prog.underlying 137=some (.struct #[f0,f1])∧f0.type=3∧f1.type=3∧f0.offset=0∧f1.offset=1:=⟨(Tryd.prog.fieldsOf 137)[0]!,(Tryd.prog.fieldsOf 137)[1]!,by kernel_rfl,by kernel_rfl,by kernel_rfl,by kernel_rfl,by kernel_rfl⟩
theorem shape0:∃ zero,(((begin Tryd.prog (fun _ _=>0) default).world.heap[0]?).bind Obj.row?)=some (zero,137):=⟨#[I 0,I 0],by kernel_rfl⟩
set_option maxRecDepth 100000 in
theorem atCoalStill {W : World} (hS : W.ShapedOpen Tryd.prog) {g t : Nat} {cs : Array Value} {fuel : Nat} {p : List MemPlace} (hg : Tryd.prog.globalNamed "prow/coal.still" = some g) (ht : (Tryd.prog.globals[g]?).map (·.type) = some t) (hv : W.var? Tryd.prog "prow/coal.still" = some cs)
 (hd:DataW.trod (fun _=>()) Tryd.prog W 0 (fun _=>true) false fuel t cs.toList=some (.agg [.lit (.int .i64 (-1)),.lit (.int .i64 (-1))],p)):(bl 0 [I (-1),I (-1)] 137).ok W:=by
 obtain ⟨z,hz⟩:=shape0
 obtain ⟨cs0,h1,_⟩:=hS.1 0 z 137 (of_decide_eq_true (by kernel_rfl)) hz
 obtain rfl:=Option.some.inj (gCoalStill.symm.trans hg)
 obtain rfl:=Option.some.inj (tCoalStill.symm.trans ht)
 obtain rfl:=var_heap gCoalStill hv h1
 obtain ⟨f0,f1,hu,ht0,ht1,ho0,ho1⟩:=uu137
 obtain ⟨xs,m,_,hx,hl,hxs,hel⟩:=DataW.trod_struct hu hd
 rw [cc137] at hl
 have hx' :xs.map (·.1)=[.lit (.int .i64 (-1)),.lit (.int .i64 (-1))]:=by
  have:=congrArg Prod.fst hx
  exact (DataW.agg.inj this).symm
 obtain ⟨cl⟩:=cs
 match cl,hl with
 | [v0,v1],_=>
   match xs,hx' with
   | [(_,p0),(_,p1)],hx' =>
     simp only [List.map_cons,List.map_nil,List.cons.injEq,and_true] at hx'
     obtain ⟨rfl,rfl⟩:=hx'
     have e0:=hel 0 f0 rfl
     have e1:=hel 1 f1 rfl
     rw [ho0,ht0,c3] at e0
     rw [ho1,ht1,c3] at e1
     obtain ⟨n0,a0,b0,_⟩:=DataW.trod_int u3 (show DataW.trod _ _ _ _ _ _ _ _ [v0]=some (_,p0) from e0)
     obtain ⟨n1,a1,b1,_⟩:=DataW.trod_int u3 (show DataW.trod _ _ _ _ _ _ _ _ [v1]=some (_,p1) from e1)
     cases a0; cases a1; cases b0; cases b1
     exact h1
theorem gTallyEnds : Tryd.prog.globalNamed "prow/tally.ends" = some 1 := by kernel_rfl
theorem tTallyEnds:(Tryd.prog.globals[1]?).map (·.type)=some 144:=by kernel_rfl
theorem uu144:Tryd.prog.underlying 144=some (.array 2 143):=by kernel_rfl
theorem uu143b:(match Tryd.prog.underlying 143 with | some (.func _ _ _)=>true | _=>false)=true:=by kernel_rfl
theorem uu143:∃ ps rs va,Tryd.prog.underlying 143=some (.func ps rs va):=by
 have h:=uu143b
 split at h
 ·rename_i ps rs va hu; exact ⟨ps,rs,va,hu⟩
 ·cases h
theorem cc143:Tryd.prog.cellsOf 143=1:=by kernel_rfl
theorem cc144:Tryd.prog.cellsOf 144=2:=by kernel_rfl
theorem shape1:∃ zero,(((begin Tryd.prog (fun _ _=>0) default).world.heap[1]?).bind Obj.row?)=some (zero,144):=⟨#[.nilFunc,.nilFunc],by kernel_rfl⟩
set_option maxRecDepth 100000 in
theorem atTallyEnds {W : World} (hS : W.ShapedOpen Tryd.prog) {laid : List (String × DataW Unit)} (h : laidMetH Tryd.prog laid W) (hm : ("prow/tally.ends", Rows.laid_prow_tally_ends) ∈ laid) : (bl 1 [Value.func (.func 124) #[] #[], Value.func (.func 127) #[] #[]] 144).ok W := by
 obtain ⟨z,hz⟩:=shape1
 obtain ⟨cs0,h0,_⟩:=hS.1 1 z 144 (of_decide_eq_true (by kernel_rfl)) hz
 obtain ⟨g, t, cs, fuel, p, hg, ht, hv, hd⟩ := h.funcs (n := "prow/tally.ends") hm
 obtain rfl:=Option.some.inj (gTallyEnds.symm.trans hg)
 obtain rfl:=Option.some.inj (tTallyEnds.symm.trans ht)
 obtain rfl:=var_heap gTallyEnds hv h0
 obtain ⟨xs,m,_,hx,hl,hxs,hel⟩:=DataW.trod_array uu144 hd
 rw [cc144] at hl
 have hx' :xs.map (·.1)=[.held [40,112,114,111,119,47,116,97,108,108,121,46,99,111,117,110,116,41,46,108,101,97,115,116],.held [40,112,114,111,119,47,116,97,108,108,121,46,99,111,117,110,116,41,46,109,111,115,116]]:=by
  have:=congrArg Prod.fst hx
  exact (DataW.agg.inj this).symm
 obtain ⟨ps,rs,va,hu⟩:=uu143
 obtain ⟨cl⟩:=cs
 match cl,hl with
 | [v0,v1],_=>
   match xs,hx' with
   | [(_,p0),(_,p1)],hx' =>
     simp only [List.map_cons,List.map_nil,List.cons.injEq,and_true] at hx'
     obtain ⟨rfl,rfl⟩:=hx'
     have e0:=hel 0 (by decide)
     have e1:=hel 1 (by decide)
     rw [cc143] at e0 e1
     obtain rfl:=func_of_trod (f0:=124) hu (by kernel_rfl) (show DataW.trod _ _ _ _ _ _ _ _ [v0]=some (_,p0) from e0)
     obtain rfl:=func_of_trod (f0:=127) hu (by kernel_rfl) (show DataW.trod _ _ _ _ _ _ _ _ [v1]=some (_,p1) from e1)
     exact h0
theorem gTallyNothing : Tryd.prog.globalNamed "prow/tally.nothing" = some 3 := by kernel_rfl
theorem tTallyNothing:(Tryd.prog.globals[3]?).map (·.type)=some 141:=by kernel_rfl
theorem cc141:Tryd.prog.cellsOf 141=2:=by kernel_rfl
theorem uu141:∃ f0 f1:Field,Tryd.prog.underlying 141=some (.struct #[f0,f1])∧f0.type=3∧f1.type=3∧f0.offset=0∧f1.offset=1:=⟨(Tryd.prog.fieldsOf 141)[0]!,(Tryd.prog.fieldsOf 141)[1]!,by kernel_rfl,by kernel_rfl,by kernel_rfl,by kernel_rfl,by kernel_rfl⟩
theorem shape3:∃ zero,(((begin Tryd.prog (fun _ _=>0) default).world.heap[3]?).bind Obj.row?)=some (zero,141):=⟨#[I 0,I 0],by kernel_rfl⟩
set_option maxRecDepth 100000 in
theorem atTallyNothing {W : World} (hS : W.ShapedOpen Tryd.prog) {g t : Nat} {cs : Array Value} {fuel : Nat} {p : List MemPlace} (hg : Tryd.prog.globalNamed "prow/tally.nothing" = some g) (ht : (Tryd.prog.globals[g]?).map (·.type) = some t) (hv : W.var? Tryd.prog "prow/tally.nothing" = some cs)
 (hd:DataW.trod (fun _=>()) Tryd.prog W 0 (fun _=>true) false fuel t cs.toList=some (.agg [.lit (.int .i64 (-1)),.lit (.int .i64 (-1))],p)):(bl 3 [I (-1),I (-1)] 141).ok W:=by
 obtain ⟨z,hz⟩:=shape3
 obtain ⟨cs0,h1,_⟩:=hS.1 3 z 141 (of_decide_eq_true (by kernel_rfl)) hz
 obtain rfl:=Option.some.inj (gTallyNothing.symm.trans hg)
 obtain rfl:=Option.some.inj (tTallyNothing.symm.trans ht)
 obtain rfl:=var_heap gTallyNothing hv h1
 obtain ⟨f0,f1,hu,ht0,ht1,ho0,ho1⟩:=uu141
 obtain ⟨xs,m,_,hx,hl,hxs,hel⟩:=DataW.trod_struct hu hd
 rw [cc141] at hl
 have hx' :xs.map (·.1)=[.lit (.int .i64 (-1)),.lit (.int .i64 (-1))]:=by
  have:=congrArg Prod.fst hx
  exact (DataW.agg.inj this).symm
 obtain ⟨cl⟩:=cs
 match cl,hl with
 | [v0,v1],_=>
   match xs,hx' with
   | [(_,p0),(_,p1)],hx' =>
     simp only [List.map_cons,List.map_nil,List.cons.injEq,and_true] at hx'
     obtain ⟨rfl,rfl⟩:=hx'
     have e0:=hel 0 f0 rfl
     have e1:=hel 1 f1 rfl
     rw [ho0,ht0,c3] at e0
     rw [ho1,ht1,c3] at e1
     obtain ⟨n0,a0,b0,_⟩:=DataW.trod_int u3 (show DataW.trod _ _ _ _ _ _ _ _ [v0]=some (_,p0) from e0)
     obtain ⟨n1,a1,b1,_⟩:=DataW.trod_int u3 (show DataW.trod _ _ _ _ _ _ _ _ [v1]=some (_,p1) from e1)
     cases a0; cases a1; cases b0; cases b1
     exact h1
def laidL : List (String × DataW Unit) := [("prow/chain.nowhere", Rows.laid_prow_chain_nowhere), ("prow/chain.thins", Rows.laid_prow_chain_thins), ("prow/coal.still", Rows.laid_prow_coal_still), ("prow/tally.ends", Rows.laid_prow_tally_ends), ("prow/tally.nothing", Rows.laid_prow_tally_nothing)]
theorem globals_ok {W:World} (hS:W.ShapedOpen Tryd.prog) (h:laidMetH Tryd.prog laidL W):(bl 0 [I (-1),I (-1)] 137).ok W∧(bl 1 [Value.func (.func 124) #[] #[],Value.func (.func 127) #[] #[]] 144).ok W∧(bl 2 [I (-1),I (-1)] 155).ok W∧(bl 3 [I (-1),I (-1)] 141).ok W∧(bl 4 [Value.func (.func 125) #[] #[],Value.func (.func 128) #[] #[]] 178).ok W:=by
 have h' : laidMet Tryd.prog [("prow/chain.nowhere", Rows.laid_prow_chain_nowhere), ("prow/coal.still", Rows.laid_prow_coal_still), ("prow/tally.nothing", Rows.laid_prow_tally_nothing)] W := h.1
 obtain ⟨ps,⟨g0,t0,cs0,fuel0,p0,q0,hg0,ht0,hv0,hd0,⟨g1,t1,cs1,fuel1,p1,q1,hg1,ht1,hv1,hd1,⟨g2,t2,cs2,fuel2,p2,q2,hg2,ht2,hv2,hd2,_,_⟩,_⟩,_⟩,_⟩:=h'
 exact ⟨atCoalStill hS hg1 ht1 hv1 hd1,atTallyEnds hS h (List.mem_cons_of_mem _ (List.mem_cons_of_mem _ (List.mem_cons_of_mem _ (List.mem_cons_self ..)))),atChainNowhere hS hg0 ht0 hv0 hd0,atTallyNothing hS hg2 ht2 hv2 hd2,atChainThins hS h (List.mem_cons_of_mem _ (List.mem_cons_self ..))⟩
def putCells (cs:Array Value):Obj→Obj
 | .cells _ t frozen=>.cells cs t frozen
 | o=>o
noncomputable def laidWorld (os:Os):World:=
 { World.holding Tryd.prog os ⟨#[],#[],[]⟩ with heap:=((((((World.holding Tryd.prog os ⟨#[],#[],[]⟩).heap.modify 0 (putCells #[I (-1),I (-1)])).modify 1 (putCells #[.func (.func 124) #[] #[],.func (.func 127) #[] #[]])).modify 2 (putCells #[I (-1),I (-1)])).modify 3 (putCells #[I (-1),I (-1)])).modify 4 (putCells #[.func (.func 125) #[] #[],.func (.func 128) #[] #[]])) }
end Go.Proofs.YtblfippmobpaaaaDoor
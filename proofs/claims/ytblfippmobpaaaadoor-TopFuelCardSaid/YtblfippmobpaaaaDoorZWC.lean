/- What the functions of the program compute, and that they do, printed by a program of mine. -/
import Derived.Test.YtblfippmobpaaaaDoorZWB
import Derived.KernelRfl
set_option linter.unusedVariables false
set_option linter.unusedSimpArgs false
namespace Go.Proofs.YtblfippmobpaaaaDoor
open Go Go.Fx Go.Proofs
set_option maxRecDepth 100000 in
theorem chain_isSurvey_ok {a0:ChainBook}{a1:ChainSurvey}{A1:Option Addr}{c2:Nat}{A4:Option Addr}{c5:Nat}{A7:Option Addr}{c8:Nat}{w:World}{r:Bool} (H:chain_isSurvey a0 a1=some r) (h3:(rd eChainSection 4 A1 c2 a0.Sections).ok w) (h6:(rd intE 1 A4 c5 a0.Turns).ok w) (h9:(rd eChainSurvey 4 A7 c8 a0.Surveys).ok w):Calls Tryd.prog 54 #[AG [SL A1 a0.Sections.length c2,SL A4 a0.Turns.length c5,SL A7 a0.Surveys.length c8,I a0.Rule,I a0.Days],AG [I a1.Section,I a1.Day,I a1.Read,I a1.Error]] w (RetV w (B r)):=by
 unfold chain_isSurvey at H
 refine fn_of (n:=25) Tryd.func54 rfl rfl (lE rfl) ?_
 have S:=St.start w nF _ (cA h3 (cA h6 (cA h9 nM)))
 refine c_seq<|reg<|p_boxA rfl S fun b10 w11 S12=>p_boxA rfl S12 fun b13 w14 S15=>p_aB rfl<|wp_nil<|c_seq<|reg<|p_ldA ty63 sz63 (S15.atX (i:=1) rfl) rfl rfl<|p_fld fl115_0 rfl<|p_ld ty3 (S15.atX (i:=0) rfl) rfl rfl ?_
 obtain ⟨r16,h17,H⟩:=bindS H
 refine p_cv (chain_isSection_ok h17 (S15.atP (i:=0) rfl) (S15.atP (i:=1) rfl) (S15.atP (i:=2) rfl)) fu58 rfl S15 fun w18 S19=>p_mB rfl ?_
 rcases bE (r16) with c20 | c20
 ·replace H:=condT c20 H
  refine eB c20 ?_
  refine gT rfl rfl (p_ldA ty63 sz63 (S19.atX (i:=1) rfl) rfl rfl ?_)
  refine gT rfl rfl (p_fld fl115_1 rfl ?_)
  refine gT rfl rfl (p_ld ty3 (S19.atX (i:=0) rfl) rfl rfl ?_)
  obtain ⟨r21,h22,H⟩:=bindS H
  refine gT rfl rfl (p_cv (chain_isDay_ok h22 (S19.atP (i:=0) rfl) (S19.atP (i:=1) rfl) (S19.atP (i:=2) rfl)) fu59 rfl S19 fun w23 S24=>?_)
  refine p_pkT rfl (rfl:_=B r21)<|p_mB rfl ?_
  rcases bE (r21) with c25 | c25
  ·replace H:=condT c25 H
   refine eB c25 ?_
   refine gT rfl rfl (p_fld fl115_2 rfl ?_)
   refine gT rfl rfl (p_ld ty3 (S24.atX (i:=0) rfl) rfl rfl ?_)
   obtain ⟨r26,h27,H⟩:=bindS H
   refine gT rfl rfl (p_cv (chain_within_ok h27) fu52 rfl S24 fun w28 S29=>?_)
   refine p_pkT rfl (rfl:_=B r26)<|p_mB rfl ?_
   rcases bE (r26) with c30 | c30
   ·replace H:=condT c30 H
    refine eB c30 ?_
    refine gT rfl rfl (p_fld fl115_3 rfl ?_)
    refine gT rfl rfl (p_ld ty3 (S29.atX (i:=0) rfl) rfl rfl ?_)
    obtain ⟨r31,h32,H⟩:=bindS H
    refine gT rfl rfl (p_cv (chain_within_ok h32) fu52 rfl S29 fun w33 S34=>?_)
    refine p_pkT rfl (rfl:_=B r31)<|p_aB rfl<|wp_nil ?_
    obtain rfl:=sJ H
    exact c_ret (rT Tryd.f54 S34.keep rfl rfl)
   ·replace H:=condF c30 H
    refine eB c30<|gF rfl rfl<|gF rfl rfl<|gF rfl rfl<|p_pkF rfl (rfl:_=B false)<|p_aB rfl<|wp_nil ?_
    obtain rfl:=sJ H
    exact c_ret (rT Tryd.f54 S29.keep rfl rfl)
  ·replace H:=condF c25 H
   refine eB c25<|gF rfl rfl<|gF rfl rfl<|gF rfl rfl<|p_pkF rfl (rfl:_=B false)<|p_mB rfl<|gF rfl rfl<|gF rfl rfl<|gF rfl rfl<|p_pkF rfl (rfl:_=B false)<|p_aB rfl<|wp_nil ?_
   obtain rfl:=sJ H
   exact c_ret (rT Tryd.f54 S24.keep rfl rfl)
 ·replace H:=condF c20 H
  refine eB c20<|gF rfl rfl<|gF rfl rfl<|gF rfl rfl<|gF rfl rfl<|p_pkF rfl (rfl:_=B false)<|p_mB rfl<|gF rfl rfl<|gF rfl rfl<|gF rfl rfl<|p_pkF rfl (rfl:_=B false)<|p_mB rfl<|gF rfl rfl<|gF rfl rfl<|gF rfl rfl<|p_pkF rfl (rfl:_=B false)<|p_aB rfl<|wp_nil ?_
  obtain rfl:=sJ H
  exact c_ret (rT Tryd.f54 S19.keep rfl rfl)
def chain_Check_j7 (rec_z_2:(Bool×Int×Int)→Option Int) (r21:ChainSection) (z_2:Bool×Int×Int) (z_3:Bool):Option Int:=
 rec_z_2 (z_3,(if r21.Wear.High > z_2.2.1 then r21.Wear.High else z_2.2.1),wr (z_2.2.2+1))
def chain_Check_l11 (a0:ChainBook) (rec_z_6:(Bool×Int)→Option Int) (z_6:Bool×Int):Option Int:=
 bif decide (z_6.2 < (a0.Surveys.length:Int)) then ((getI a0.Surveys z_6.2).bind fun r71=>
 bif z_6.1 then ((chain_isSurvey a0 r71).bind fun r79=>
 rec_z_6 (r79,wr (z_6.2+1)))
 else (rec_z_6 (false,wr (z_6.2+1))))
 else (bif !z_6.1 then (some 10)
 else (some 0))
def chain_Check_l12 (a0:ChainBook) (rec_z_5:(Bool×Int×Int)→Option Int) (z_5:Bool×Int×Int):Option Int:=
 bif decide (z_5.2.2 < (a0.Turns.length:Int)) then ((getI a0.Turns z_5.2.2).bind fun r59=>
 bif z_5.1 then ((chain_within r59 (wr (z_5.2.1+1)) a0.Days).bind fun r62=>
 rec_z_5 (r62,r59,wr (z_5.2.2+1)))
 else (rec_z_5 (false,r59,wr (z_5.2.2+1))))
 else (loopF (chain_Check_l11 a0) big (z_5.1,0))
def chain_Check_l13 (a0:ChainBook) (z_2:Bool×Int×Int) (rec_z_4:(Bool×Int)→Option Int) (z_4:Bool×Int):Option Int:=
 bif decide (z_4.2 < (a0.Sections.length:Int)) then ((getI a0.Sections z_4.2).bind fun r44=>
 bif z_4.1 then (rec_z_4 (decide (r44.Thick.Low≥(wr (z_2.2.1*a0.Days))),wr (z_4.2+1)))
 else (rec_z_4 (false,wr (z_4.2+1))))
 else (loopF (chain_Check_l12 a0) big (z_4.1,0,0))
def chain_Check_l14 (a0:ChainBook) (rec_z_2:(Bool×Int×Int)→Option Int) (z_2:Bool×Int×Int):Option Int:=
 bif decide (z_2.2.2 < (a0.Sections.length:Int)) then ((getI a0.Sections z_2.2.2).bind fun r21=>
 bif z_2.1 then ((chain_isSpan r21.Thick 200 3).bind fun r29=>
 bif r29 then ((chain_isSpan r21.Wear 3 2).bind fun r34=>
 chain_Check_j7 rec_z_2 r21 z_2 r34)
 else (chain_Check_j7 rec_z_2 r21 z_2 false))
 else (chain_Check_j7 rec_z_2 r21 z_2 false))
 else (bif !z_2.1 then (some 10)
 else (loopF (chain_Check_l13 a0 z_2) big (z_2.1,0)))
def chain_Check_j15 (a0:ChainBook) (z_1:Bool):Option Int:=
 loopF (chain_Check_l14 a0) big (z_1,0,0)
def chain_Check (a0:ChainBook):Option Int:=
 (chain_within (a0.Sections.length:Int) 1 4).bind fun r13=>
 bif r13 then ((chain_within a0.Days 1 30).bind fun r18=>
 bif r18 then ((chain_within a0.Rule 0 200).bind fun r23=>
 bif r23 then (bif decide ((a0.Turns.length:Int)≤4) then (chain_Check_j15 a0 (decide ((a0.Surveys.length:Int)≤8)))
 else (chain_Check_j15 a0 false))
 else (chain_Check_j15 a0 false))
 else (chain_Check_j15 a0 false))
 else (chain_Check_j15 a0 false)
set_option maxRecDepth 100000 in
theorem chain_Check_ok {a0:ChainBook}{A1:Option Addr}{c2:Nat}{A4:Option Addr}{c5:Nat}{A7:Option Addr}{c8:Nat}{w:World}{r:Int} (H:chain_Check a0=some r) (h3:(rd eChainSection 4 A1 c2 a0.Sections).ok w) (h6:(rd intE 1 A4 c5 a0.Turns).ok w) (h9:(rd eChainSurvey 4 A7 c8 a0.Surveys).ok w):Calls Tryd.prog 23 #[AG [SL A1 a0.Sections.length c2,SL A4 a0.Turns.length c5,SL A7 a0.Surveys.length c8,I a0.Rule,I a0.Days]] w (RetV w (I r)):=by
 unfold chain_Check at H
 refine fn_of (n:=119) Tryd.func23 rfl rfl (lE rfl) ?_
 have S:=St.start w nF _ (cA h3 (cA h6 (cA h9 nM)))
 refine c_seq<|reg<|p_boxA rfl S fun b10 w11 S12=>p_aI rfl<|wp_nil ?_
 refine c_join (α:=Bool) (β:=Unit) (fun z_1 y_1=>[(1,P b10 0),(3,B z_1)]) (fun z_1 y_1 w_=>chain_Check_j15 a0 z_1=some r∧St w nF w_ [bl b10 [SL A1 a0.Sections.length c2,SL A4 a0.Turns.length c5,SL A7 a0.Surveys.length c8,I a0.Rule,I a0.Days] 63] [rd eChainSection 4 A1 c2 a0.Sections,rd intE 1 A4 c5 a0.Turns,rd eChainSurvey 4 A7 c8 a0.Surveys]) ?_ ?_
 ·refine reg<|p_fld fl63_0 rfl<|p_ld ty60 (S12.atX (i:=0) rfl) rfl rfl<|p_len rfl sc60 ?_
  obtain ⟨r13,h14,H⟩:=bindS H
  refine p_cv (chain_within_ok h14) fu52 rfl S12 fun w15 S16=>p_mB rfl ?_
  rcases bE (r13) with c17 | c17
  ·replace H:=condT c17 H
   refine eB c17 ?_
   refine gT rfl rfl (p_fld fl63_4 rfl ?_)
   refine gT rfl rfl (p_ld ty3 (S16.atX (i:=0) rfl) rfl rfl ?_)
   obtain ⟨r18,h19,H⟩:=bindS H
   refine gT rfl rfl (p_cv (chain_within_ok h19) fu52 rfl S16 fun w20 S21=>?_)
   refine p_pkT rfl (rfl:_=B r18)<|p_mB rfl ?_
   rcases bE (r18) with c22 | c22
   ·replace H:=condT c22 H
    refine eB c22 ?_
    refine gT rfl rfl (p_fld fl63_3 rfl ?_)
    refine gT rfl rfl (p_ld ty3 (S21.atX (i:=0) rfl) rfl rfl ?_)
    obtain ⟨r23,h24,H⟩:=bindS H
    refine gT rfl rfl (p_cv (chain_within_ok h24) fu52 rfl S21 fun w25 S26=>?_)
    refine p_pkT rfl (rfl:_=B r23)<|p_mB rfl ?_
    rcases bE (r23) with c27 | c27
    ·replace H:=condT c27 H
     refine eB c27 ?_
     refine gT rfl rfl (p_fld fl63_1 rfl ?_)
     refine gT rfl rfl (p_ld ty42 (S26.atX (i:=0) rfl) rfl rfl ?_)
     refine gT rfl rfl (p_len rfl sc42 ?_)
     refine gT rfl rfl (p_cmp rfl rfl rfl ?_)
     refine p_pkT rfl (rfl:_=B (decide ((a0.Turns.length:Int)≤4)))<|p_mB rfl ?_
     rcases bE (decide ((a0.Turns.length:Int)≤4)) with c28 | c28
     ·replace H:=condT c28 H
      refine eB c28 ?_
      refine gT rfl rfl (p_fld fl63_2 rfl ?_)
      refine gT rfl rfl (p_ld ty61 (S26.atX (i:=0) rfl) rfl rfl ?_)
      refine gT rfl rfl (p_len rfl sc61 ?_)
      refine gT rfl rfl (p_cmp rfl rfl rfl ?_)
      exact p_pkT rfl (rfl:_=B (decide ((a0.Surveys.length:Int)≤8)))<|p_aB rfl<|wp_nil ⟨decide ((a0.Surveys.length:Int)≤8),(),_,rfl,⟨rfl,rfl,trivial⟩,H,S26⟩
     ·replace H:=condF c28 H
      refine eB c28<|gF rfl rfl<|gF rfl rfl<|gF rfl rfl<|gF rfl rfl<|p_pkF rfl (rfl:_=B false)<|p_aB rfl<|wp_nil ?_
      exact ⟨false,(),_,rfl,⟨rfl,rfl,trivial⟩,H,S26⟩
    ·replace H:=condF c27 H
     refine eB c27<|gF rfl rfl<|gF rfl rfl<|gF rfl rfl<|gF rfl rfl<|p_pkF rfl (rfl:_=B false)<|p_mB rfl<|gF rfl rfl<|gF rfl rfl<|gF rfl rfl<|gF rfl rfl<|p_pkF rfl (rfl:_=B false)<|p_aB rfl<|wp_nil ?_
     exact ⟨false,(),_,rfl,⟨rfl,rfl,trivial⟩,H,S26⟩
   ·replace H:=condF c22 H
    refine eB c22<|gF rfl rfl<|gF rfl rfl<|gF rfl rfl<|p_pkF rfl (rfl:_=B false)<|p_mB rfl<|gF rfl rfl<|gF rfl rfl<|gF rfl rfl<|gF rfl rfl<|p_pkF rfl (rfl:_=B false)<|p_mB rfl<|gF rfl rfl<|gF rfl rfl<|gF rfl rfl<|gF rfl rfl<|p_pkF rfl (rfl:_=B false)<|p_aB rfl<|wp_nil ?_
    exact ⟨false,(),_,rfl,⟨rfl,rfl,trivial⟩,H,S21⟩
  ·replace H:=condF c17 H
   refine eB c17<|gF rfl rfl<|gF rfl rfl<|gF rfl rfl<|p_pkF rfl (rfl:_=B false)<|p_mB rfl<|gF rfl rfl<|gF rfl rfl<|gF rfl rfl<|p_pkF rfl (rfl:_=B false)<|p_mB rfl<|gF rfl rfl<|gF rfl rfl<|gF rfl rfl<|gF rfl rfl<|p_pkF rfl (rfl:_=B false)<|p_mB rfl<|gF rfl rfl<|gF rfl rfl<|gF rfl rfl<|gF rfl rfl<|p_pkF rfl (rfl:_=B false)<|p_aB rfl<|wp_nil ?_
   exact ⟨false,(),_,rfl,⟨rfl,rfl,trivial⟩,H,S16⟩
 ·intro z_1 y_1 e13 w14 S15; obtain ⟨H,S15⟩:=S15
  unfold chain_Check_j15 at H
  refine c_seq<|reg<|p_aI rfl<|wp_nil<|c_seq<|c_seq<|reg<|p_fld fl63_0 rfl<|p_ld ty60 (S15.atX (i:=0) rfl) rfl rfl<|p_len rfl sc60<|p_mI rfl<|wp_nil<|c_block ?_
  refine c_lop (α:=Bool×Int×Int) (β:=Unit) (chain_Check_l14 a0) (fun z_2 y_2=>[(1,P b10 0),(3,B z_2.1),(4,I z_2.2.1),(41,SL A1 a0.Sections.length c2),(42,I (a0.Sections.length:Int)),(43,I z_2.2.2)]) (fun z_2 y_2 w_=>St w nF w_ [bl b10 [SL A1 a0.Sections.length c2,SL A4 a0.Turns.length c5,SL A7 a0.Surveys.length c8,I a0.Rule,I a0.Days] 63] [rd eChainSection 4 A1 c2 a0.Sections,rd intE 1 A4 c5 a0.Turns,rd eChainSurvey 4 A7 c8 a0.Surveys]) (z_1,0,0) () H ⟨rfl,rfl,rfl,rfl,rfl,rfl,trivial⟩ S15 ?_
  intro m16 z_2 y_2 e17 w18 H S19
  unfold chain_Check_l14 at H
  refine c_seq<|reg<|p_cmp rfl rfl rfl<|wp_nil<|c_seq ?_
  refine c_cond rfl (fun c20=>?_) (fun c20=>?_)
  ·replace H:=condT c20 H
   refine c_skip<|c_seq<|c_block<|c_seq<|reg ?_
   obtain ⟨r21,h22,H⟩:=bindS H
   refine p_ixE sc60 h22 (S19.atP (i:=0) rfl).1 rfl rfl rfl<|p_ldEA ty79 sz79 rfl h22 (S19.atP (i:=0) rfl).1 rfl<|p_allA in79 S19 fun b23 w24 S25=>?_
   refine p_stP (pre:=[]) (old:=[I 0,I 0,I 0,I 0]) (post:=[]) (vs:=[I r21.Thick.Low,I r21.Thick.High,I r21.Wear.Low,I r21.Wear.High]) sz79 S25 (i:=0) rfl rfl rfl rfl (rfl:_=AG [I r21.Thick.Low,I r21.Thick.High,I r21.Wear.Low,I r21.Wear.High]) rfl rfl rfl rfl fun w26 S27=>wp_nil ?_
   refine c_join (α:=Bool) (β:=Unit) (fun z_3 y_3=>[(1,P b10 0),(3,B z_3),(4,I z_2.2.1),(6,P b23 0),(41,SL A1 a0.Sections.length c2),(42,I (a0.Sections.length:Int)),(43,I z_2.2.2)]) (fun z_3 y_3 w_=>chain_Check_j7 (loopF (chain_Check_l14 a0) m16) r21 z_2 z_3=some r∧St w nF w_ [bl b23 [I r21.Thick.Low,I r21.Thick.High,I r21.Wear.Low,I r21.Wear.High] 79,bl b10 [SL A1 a0.Sections.length c2,SL A4 a0.Turns.length c5,SL A7 a0.Surveys.length c8,I a0.Rule,I a0.Days] 63] [rd eChainSection 4 A1 c2 a0.Sections,rd intE 1 A4 c5 a0.Turns,rd eChainSurvey 4 A7 c8 a0.Surveys]) ?_ ?_
   ·refine reg<|p_mB rfl<|p_mB rfl ?_
    rcases bE (z_2.1) with c28 | c28
    ·replace H:=condT c28 H
     refine eB c28 ?_
     refine gT rfl rfl (p_fld fl79_0 rfl ?_)
     refine gT rfl rfl (p_ldP (vs:=[I r21.Thick.Low,I r21.Thick.High]) ty23 sz23 (S27.atX (i:=0) rfl) rfl rfl rfl ?_)
     obtain ⟨r29,h30,H⟩:=bindS H
     refine gT rfl rfl (p_cv (chain_isSpan_ok h30) fu53 rfl S27 fun w31 S32=>?_)
     refine p_pkT rfl (rfl:_=B r29)<|p_mB rfl ?_
     rcases bE (r29) with c33 | c33
     ·replace H:=condT c33 H
      refine eB c33 ?_
      refine gT rfl rfl (p_fld fl79_1 rfl ?_)
      refine gT rfl rfl (p_ldP (vs:=[I r21.Wear.Low,I r21.Wear.High]) ty23 sz23 (S32.atX (i:=0) rfl) rfl rfl rfl ?_)
      obtain ⟨r34,h35,H⟩:=bindS H
      refine gT rfl rfl (p_cv (chain_isSpan_ok h35) fu53 rfl S32 fun w36 S37=>?_)
      exact p_pkT rfl (rfl:_=B r34)<|p_aB rfl<|wp_nil ⟨r34,(),_,rfl,⟨rfl,rfl,rfl,rfl,rfl,rfl,rfl,trivial⟩,H,S37⟩
     ·replace H:=condF c33 H
      refine eB c33<|gF rfl rfl<|gF rfl rfl<|gF rfl rfl<|p_pkF rfl (rfl:_=B false)<|p_aB rfl<|wp_nil ?_
      exact ⟨false,(),_,rfl,⟨rfl,rfl,rfl,rfl,rfl,rfl,rfl,trivial⟩,H,S32⟩
    ·replace H:=condF c28 H
     refine eB c28<|gF rfl rfl<|gF rfl rfl<|gF rfl rfl<|p_pkF rfl (rfl:_=B false)<|p_mB rfl<|gF rfl rfl<|gF rfl rfl<|gF rfl rfl<|p_pkF rfl (rfl:_=B false)<|p_aB rfl<|wp_nil ?_
     exact ⟨false,(),_,rfl,⟨rfl,rfl,rfl,rfl,rfl,rfl,rfl,trivial⟩,H,S27⟩
   ·intro z_3 y_3 e28 w29 S30; obtain ⟨H,S30⟩:=S30
    unfold chain_Check_j7 at H
    refine reg<|p_mI rfl<|p_fld fl79_1 rfl<|p_fld fl23_1 rfl<|p_ld ty3 (S30.atX (i:=0) rfl) rfl rfl<|p_max rfl rfl<|p_aI rfl<|wp_nil<|reg<|p_add rfl rfl<|p_mI rfl<|wp_nil ?_
    have S31:=S30.pk [1] (by decide) [0,1,2] rfl rfl
    exact ⟨(z_3,(if r21.Wear.High > z_2.2.1 then r21.Wear.High else z_2.2.1),wr (z_2.2.2+1)),(),_,rfl,⟨rfl,rfl,rfl,rfl,rfl,rfl,trivial⟩,H,S31⟩
  ·replace H:=condF c20 H
   refine c_exit<|c_seq<|c_seq<|reg<|p_mB rfl<|p_not rfl<|wp_nil ?_
   refine c_cond rfl (fun c38=>?_) (fun c38=>?_)
   ·replace H:=condT c38 H
    refine c_seq<|reg<|p_aI rfl<|wp_nil ?_
    obtain rfl:=sJ H
    exact c_ret (rT Tryd.f23 S19.keep rfl rfl)
   ·replace H:=condF c38 H
    refine c_skip<|c_seq<|c_seq<|reg<|p_fld fl63_0 rfl<|p_ld ty60 (S19.atX (i:=0) rfl) rfl rfl<|p_len rfl sc60<|p_mI rfl<|wp_nil<|c_block ?_
    refine c_lop (α:=Bool×Int) (β:=Unit) (chain_Check_l13 a0 z_2) (fun z_4 y_4=>[(1,P b10 0),(3,B z_4.1),(4,I z_2.2.1),(67,SL A1 a0.Sections.length c2),(68,I (a0.Sections.length:Int)),(69,I z_4.2)]) (fun z_4 y_4 w_=>St w nF w_ [bl b10 [SL A1 a0.Sections.length c2,SL A4 a0.Turns.length c5,SL A7 a0.Surveys.length c8,I a0.Rule,I a0.Days] 63] [rd eChainSection 4 A1 c2 a0.Sections,rd intE 1 A4 c5 a0.Turns,rd eChainSurvey 4 A7 c8 a0.Surveys]) (z_2.1,0) () H ⟨rfl,rfl,rfl,rfl,rfl,rfl,trivial⟩ S19 ?_
    intro m39 z_4 y_4 e40 w41 H S42
    unfold chain_Check_l13 at H
    refine c_seq<|reg<|p_cmp rfl rfl rfl<|wp_nil<|c_seq ?_
    refine c_cond rfl (fun c43=>?_) (fun c43=>?_)
    ·replace H:=condT c43 H
     refine c_skip<|c_seq<|c_block<|c_seq<|reg ?_
     obtain ⟨r44,h45,H⟩:=bindS H
     refine p_ixE sc60 h45 (S42.atP (i:=0) rfl).1 rfl rfl rfl<|p_ldEA ty79 sz79 rfl h45 (S42.atP (i:=0) rfl).1 rfl<|p_allA in79 S42 fun b46 w47 S48=>?_
     refine p_stP (pre:=[]) (old:=[I 0,I 0,I 0,I 0]) (post:=[]) (vs:=[I r44.Thick.Low,I r44.Thick.High,I r44.Wear.Low,I r44.Wear.High]) sz79 S48 (i:=0) rfl rfl rfl rfl (rfl:_=AG [I r44.Thick.Low,I r44.Thick.High,I r44.Wear.Low,I r44.Wear.High]) rfl rfl rfl rfl fun w49 S50=>wp_nil<|reg<|p_mB rfl<|p_mB rfl ?_
     rcases bE (z_4.1) with c51 | c51
     ·replace H:=condT c51 H
      refine eB c51 ?_
      refine gT rfl rfl (p_fld fl79_0 rfl ?_)
      refine gT rfl rfl (p_fld fl23_0 rfl ?_)
      refine gT rfl rfl (p_ld ty3 (S50.atX (i:=0) rfl) rfl rfl ?_)
      refine gT rfl rfl (p_mI rfl ?_)
      refine gT rfl rfl (p_fld fl63_4 rfl ?_)
      refine gT rfl rfl (p_ld ty3 (S50.atX (i:=1) rfl) rfl rfl ?_)
      refine gT rfl rfl (p_mul rfl rfl ?_)
      refine gT rfl rfl (p_cmp rfl rfl rfl ?_)
      refine p_pkT rfl (rfl:_=B (decide (r44.Thick.Low≥(wr (z_2.2.1*a0.Days)))))<|p_aB rfl<|wp_nil<|reg<|p_add rfl rfl<|p_mI rfl<|wp_nil ?_
      have S52:=S50.pk [1] (by decide) [0,1,2] rfl rfl
      exact ⟨(decide (r44.Thick.Low≥(wr (z_2.2.1*a0.Days))),wr (z_4.2+1)),(),_,rfl,⟨rfl,rfl,rfl,rfl,rfl,rfl,trivial⟩,H,S52⟩
     ·replace H:=condF c51 H
      refine eB c51<|gF rfl rfl<|gF rfl rfl<|gF rfl rfl<|gF rfl rfl<|gF rfl rfl<|gF rfl rfl<|gF rfl rfl<|gF rfl rfl<|p_pkF rfl (rfl:_=B false)<|p_aB rfl<|wp_nil<|reg<|p_add rfl rfl<|p_mI rfl<|wp_nil ?_
      have S53:=S50.pk [1] (by decide) [0,1,2] rfl rfl
      exact ⟨(false,wr (z_4.2+1)),(),_,rfl,⟨rfl,rfl,rfl,rfl,rfl,rfl,trivial⟩,H,S53⟩
    ·replace H:=condF c43 H
     refine c_exit<|c_seq<|reg<|p_aI rfl<|wp_nil<|c_seq<|c_seq<|reg<|p_fld fl63_1 rfl<|p_ld ty42 (S42.atX (i:=0) rfl) rfl rfl<|p_len rfl sc42<|p_mI rfl<|wp_nil<|c_block ?_
     refine c_lop (α:=Bool×Int×Int) (β:=Unit) (chain_Check_l12 a0) (fun z_5 y_5=>[(1,P b10 0),(3,B z_5.1),(9,I z_5.2.1),(86,SL A4 a0.Turns.length c5),(87,I (a0.Turns.length:Int)),(88,I z_5.2.2)]) (fun z_5 y_5 w_=>St w nF w_ [bl b10 [SL A1 a0.Sections.length c2,SL A4 a0.Turns.length c5,SL A7 a0.Surveys.length c8,I a0.Rule,I a0.Days] 63] [rd eChainSection 4 A1 c2 a0.Sections,rd intE 1 A4 c5 a0.Turns,rd eChainSurvey 4 A7 c8 a0.Surveys]) (z_4.1,0,0) () H ⟨rfl,rfl,rfl,rfl,rfl,rfl,trivial⟩ S42 ?_
     intro m54 z_5 y_5 e55 w56 H S57
     unfold chain_Check_l12 at H
     refine c_seq<|reg<|p_cmp rfl rfl rfl<|wp_nil<|c_seq ?_
     refine c_cond rfl (fun c58=>?_) (fun c58=>?_)
     ·replace H:=condT c58 H
      refine c_skip<|c_seq<|c_block<|c_seq<|reg ?_
      obtain ⟨r59,h60,H⟩:=bindS H
      refine p_ixE sc42 h60 (S57.atP (i:=1) rfl).1 rfl rfl rfl<|p_ldE ty3 h60 (S57.atP (i:=1) rfl).1 rfl rfl<|p_aI rfl<|wp_nil<|c_seq<|reg<|p_mB rfl<|p_mB rfl ?_
      rcases bE (z_5.1) with c61 | c61
      ·replace H:=condT c61 H
       refine eB c61 ?_
       refine gT rfl rfl (p_mI rfl ?_)
       refine gT rfl rfl (p_mI rfl ?_)
       refine gT rfl rfl (p_add rfl rfl ?_)
       refine gT rfl rfl (p_fld fl63_4 rfl ?_)
       refine gT rfl rfl (p_ld ty3 (S57.atX (i:=0) rfl) rfl rfl ?_)
       obtain ⟨r62,h63,H⟩:=bindS H
       refine gT rfl rfl (p_cv (chain_within_ok h63) fu52 rfl S57 fun w64 S65=>?_)
       exact p_pkT rfl (rfl:_=B r62)<|p_aB rfl<|wp_nil<|reg<|p_mI rfl<|p_aI rfl<|wp_nil<|reg<|p_add rfl rfl<|p_mI rfl<|wp_nil ⟨(r62,r59,wr (z_5.2.2+1)),(),_,rfl,⟨rfl,rfl,rfl,rfl,rfl,rfl,trivial⟩,H,S65⟩
      ·replace H:=condF c61 H
       refine eB c61<|gF rfl rfl<|gF rfl rfl<|gF rfl rfl<|gF rfl rfl<|gF rfl rfl<|gF rfl rfl<|p_pkF rfl (rfl:_=B false)<|p_aB rfl<|wp_nil<|reg<|p_mI rfl<|p_aI rfl<|wp_nil<|reg<|p_add rfl rfl<|p_mI rfl<|wp_nil ?_
       exact ⟨(false,r59,wr (z_5.2.2+1)),(),_,rfl,⟨rfl,rfl,rfl,rfl,rfl,rfl,trivial⟩,H,S57⟩
     ·replace H:=condF c58 H
      refine c_exit<|c_seq<|c_seq<|reg<|p_fld fl63_2 rfl<|p_ld ty61 (S57.atX (i:=0) rfl) rfl rfl<|p_len rfl sc61<|p_mI rfl<|wp_nil<|c_block ?_
      refine c_lop (α:=Bool×Int) (β:=Unit) (chain_Check_l11 a0) (fun z_6 y_6=>[(1,P b10 0),(3,B z_6.1),(104,SL A7 a0.Surveys.length c8),(105,I (a0.Surveys.length:Int)),(106,I z_6.2)]) (fun z_6 y_6 w_=>St w nF w_ [bl b10 [SL A1 a0.Sections.length c2,SL A4 a0.Turns.length c5,SL A7 a0.Surveys.length c8,I a0.Rule,I a0.Days] 63] [rd eChainSection 4 A1 c2 a0.Sections,rd intE 1 A4 c5 a0.Turns,rd eChainSurvey 4 A7 c8 a0.Surveys]) (z_5.1,0) () H ⟨rfl,rfl,rfl,rfl,rfl,trivial⟩ S57 ?_
      intro m66 z_6 y_6 e67 w68 H S69
      unfold chain_Check_l11 at H
      refine c_seq<|reg<|p_cmp rfl rfl rfl<|wp_nil<|c_seq ?_
      refine c_cond rfl (fun c70=>?_) (fun c70=>?_)
      ·replace H:=condT c70 H
       refine c_skip<|c_seq<|c_block<|c_seq<|reg ?_
       obtain ⟨r71,h72,H⟩:=bindS H
       refine p_ixE sc61 h72 (S69.atP (i:=2) rfl).1 rfl rfl rfl<|p_ldEA ty115 sz115 rfl h72 (S69.atP (i:=2) rfl).1 rfl<|p_allA in115 S69 fun b73 w74 S75=>p_stP (pre:=[]) (old:=[I 0,I 0,I 0,I 0]) (post:=[]) (vs:=[I r71.Section,I r71.Day,I r71.Read,I r71.Error]) sz115 S75 (i:=0) rfl rfl rfl rfl (rfl:_=AG [I r71.Section,I r71.Day,I r71.Read,I r71.Error]) rfl rfl rfl rfl fun w76 S77=>wp_nil ?_
       refine reg<|p_mB rfl<|p_mB rfl ?_
       rcases bE (z_6.1) with c78 | c78
       ·replace H:=condT c78 H
        refine eB c78 ?_
        refine gT rfl rfl (p_ldA ty63 sz63 (S77.atX (i:=1) rfl) rfl rfl ?_)
        refine gT rfl rfl (p_ldA ty115 sz115 (S77.atX (i:=0) rfl) rfl rfl ?_)
        obtain ⟨r79,h80,H⟩:=bindS H
        refine gT rfl rfl (p_cv (chain_isSurvey_ok h80 (S77.atP (i:=0) rfl) (S77.atP (i:=1) rfl) (S77.atP (i:=2) rfl)) fu54 rfl S77 fun w81 S82=>?_)
        refine p_pkT rfl (rfl:_=B r79)<|p_aB rfl<|wp_nil<|reg<|p_add rfl rfl<|p_mI rfl<|wp_nil ?_
        have S83:=S82.pk [1] (by decide) [0,1,2] rfl rfl
        exact ⟨(r79,wr (z_6.2+1)),(),_,rfl,⟨rfl,rfl,rfl,rfl,rfl,trivial⟩,H,S83⟩
       ·replace H:=condF c78 H
        refine eB c78<|gF rfl rfl<|gF rfl rfl<|gF rfl rfl<|p_pkF rfl (rfl:_=B false)<|p_aB rfl<|wp_nil<|reg<|p_add rfl rfl<|p_mI rfl<|wp_nil ?_
        have S84:=S77.pk [1] (by decide) [0,1,2] rfl rfl
        exact ⟨(false,wr (z_6.2+1)),(),_,rfl,⟨rfl,rfl,rfl,rfl,rfl,trivial⟩,H,S84⟩
      ·replace H:=condF c70 H
       refine c_exit<|c_seq<|c_seq<|reg<|p_mB rfl<|p_not rfl<|wp_nil ?_
       refine c_cond rfl (fun c85=>?_) (fun c85=>?_)
       ·replace H:=condT c85 H
        refine c_seq<|reg<|p_aI rfl<|wp_nil ?_
        obtain rfl:=sJ H
        exact c_ret (rT Tryd.f23 S69.keep rfl rfl)
       ·replace H:=condF c85 H
        refine c_skip<|c_seq<|reg<|p_aI rfl<|wp_nil ?_
        obtain rfl:=sJ H
        exact c_ret (rT Tryd.f23 S69.keep rfl rfl)
def chain_least_int_l1 (a1:List Int) (rec_z_1:(Int×Int)→Option Int) (z_1:Int×Int):Option Int:=
 bif decide (z_1.2 < (a1.length:Int)) then ((getI a1 z_1.2).bind fun r9=>
 rec_z_1 ((if r9 < z_1.1 then r9 else z_1.1),wr (z_1.2+1)))
 else (some z_1.1)
def chain_least_int (a0:Int) (a1:List Int):Option Int:=
 loopF (chain_least_int_l1 a1) big (a0,0)
set_option maxRecDepth 100000 in
theorem chain_least_int_ok {a0:Int}{a1:List Int}{A1:Option Addr}{c2:Nat}{w:World}{r:Int} (H:chain_least_int a0 a1=some r) (h3:(rd intE 1 A1 c2 a1).ok w):Calls Tryd.prog 95 #[I a0,SL A1 a1.length c2] w (RetV w (I r)):=by
 unfold chain_least_int at H
 refine fn_of (n:=18) Tryd.func95 rfl rfl (lE rfl) ?_
 have S:=St.start w nF _ (cA h3 nM)
 refine c_seq<|reg<|p_aI rfl<|wp_nil<|c_seq<|c_seq<|reg<|p_mS rfl<|p_len rfl sc42<|p_mI rfl<|wp_nil<|c_block ?_
 refine c_lop (α:=Int×Int) (β:=Unit) (chain_least_int_l1 a1) (fun z_1 y_1=>[(0,I z_1.1),(7,SL A1 a1.length c2),(8,I (a1.length:Int)),(9,I z_1.2)]) (fun z_1 y_1 w_=>St w nF w_ [] [rd intE 1 A1 c2 a1]) (a0,0) () H ⟨rfl,rfl,rfl,rfl,trivial⟩ S ?_
 intro m4 z_1 y_1 e5 w6 H S7
 unfold chain_least_int_l1 at H
 refine c_seq<|reg<|p_cmp rfl rfl rfl<|wp_nil<|c_seq ?_
 refine c_cond rfl (fun c8=>?_) (fun c8=>?_)
 ·replace H:=condT c8 H
  refine c_skip<|c_seq<|c_block<|c_seq<|reg ?_
  obtain ⟨r9,h10,H⟩:=bindS H
  refine p_ixE sc42 h10 (S7.atP (i:=0) rfl).1 rfl rfl rfl<|p_ldE ty3 h10 (S7.atP (i:=0) rfl).1 rfl rfl<|p_aI rfl<|wp_nil<|reg<|p_mI rfl<|p_mI rfl<|p_min rfl rfl<|p_aI rfl<|wp_nil<|reg<|p_add rfl rfl<|p_mI rfl<|wp_nil ?_
  exact ⟨((if r9 < z_1.1 then r9 else z_1.1),wr (z_1.2+1)),(),_,rfl,⟨rfl,rfl,rfl,rfl,trivial⟩,H,S7⟩
 ·replace H:=condF c8 H
  refine c_exit<|c_seq<|reg<|p_mI rfl<|p_aI rfl<|wp_nil ?_
  obtain rfl:=sJ H
  exact c_ret (rT Tryd.f95 S7.keep rfl rfl)
def chain_both (a0:Span) (a1:Span):Option Span:=
 (chain_least_int a0.High ([a1.High]:List Int)).bind fun r22=>
 some (Span.mk (if a1.Low > a0.Low then a1.Low else a0.Low) r22)
set_option maxRecDepth 100000 in
theorem chain_both_ok {a0:Span}{a1:Span}{w:World}{r:Span} (H:chain_both a0 a1=some r):Calls Tryd.prog 80 #[AG [I a0.Low,I a0.High],AG [I a1.Low,I a1.High]] w (RetV w (AG [I r.Low,I r.High])):=by
 unfold chain_both at H
 refine fn_of (n:=17) Tryd.func80 rfl rfl (lE rfl) ?_
 have S:=St.start w nF _ nM
 refine c_seq<|reg<|p_boxA rfl S fun b1 w2 S3=>p_boxA rfl S3 fun b4 w5 S6=>p_allA in23 S6 fun b7 w8 S9=>wp_nil<|c_seq ?_
 refine reg_c mixed 12 [9,10,11] (by kernel_rfl) ?_
 refine kS rfl (fun _ k_=>p_fld fl23_0 rfl dn)<|kS rfl (fun _ k_=>p_ld ty3 (aS (S9.atX (i:=2) rfl) k_) rfl rfl dn)<|kS rfl (fun _ k_=>p_fld fl23_0 rfl dn)<|kS rfl (fun _ k_=>p_ld ty3 (aS (S9.atX (i:=1) rfl) k_) rfl rfl dn)<|kS rfl (fun _ k_=>p_max rfl rfl dn)<|kS rfl (fun _ k_=>p_fld fl23_1 rfl dn)<|kS rfl (fun _ k_=>p_ld ty3 (aS (S9.atX (i:=2) rfl) k_) rfl rfl dn) ?_
 refine kS rfl (fun _ k_=>p_fld fl23_1 rfl dn)<|kS rfl (fun _ k_=>p_ld ty3 (aS (S9.atX (i:=1) rfl) k_) rfl rfl dn)<|kC rfl<|kC rfl<|kC rfl ?_
 intro w10 k11; have S12:=S9.call k11
 have S18:=S12.base
 refine p_bsl (enc:=intE) (l:=([a1.High]:List Int)) I (fun _=>rfl) sc42 in3 intE_len rfl (by decide) (by decide) zr3_1 S18 rfl fun A13 c14 w15 S16=>?_
 refine cN S16.keep fun w19 k20=>?_
 have S21:=(S12.fromBase S16).call k20
 obtain ⟨r22,h23,H⟩:=bindS H
 refine p_cal (chain_least_int_ok h23 (gr_rd intE_len (S21.atX (i:=0) rfl))) fu95 rfl ?_
 rintro _ w24 ⟨rfl,k25⟩; refine cN k25 fun w26 k27=>?_
 have S28:=(S21.call k25).call k27
 refine p_bld (cs:=[I (if a1.Low > a0.Low then a1.Low else a0.Low),I r22]) st23 (rfl:_=[(0,I (if a1.Low > a0.Low then a1.Low else a0.Low)),(1,I r22)]) (by kernel_rfl) (cN (kR) fun w29 k30=>?_)
 have S31:=S28.call k30
 refine p_stP (pre:=[]) (old:=[I 0,I 0]) (post:=[]) (vs:=[I (if a1.Low > a0.Low then a1.Low else a0.Low),I r22]) sz23 S31 (i:=1) rfl rfl rfl rfl (rfl:_=AG [I (if a1.Low > a0.Low then a1.Low else a0.Low),I r22]) rfl rfl rfl rfl fun w32 S33=>wp_nil ?_
 obtain rfl:=sJ H
 refine c_ret ?_; show bodyPostM (Fr none) 0 Tryd.prog Tryd.f80 _ .ret _ _
 refine ret_of (res1 rfl (rvA rfl ty23 sz23 (S33.atX (i:=1) rfl) rfl)) ?_
 exact ⟨_,rfl,rfl,S33.keep⟩
def chain_unworn:Option (List Int):=
 some (List.replicate 4 0)
set_option maxRecDepth 100000 in
theorem chain_unworn_ok {w:World}{r:(List Int)} (H:chain_unworn=some r):Calls Tryd.prog 101 #[] w (RetV w (AG (sg r 4))):=by
 unfold chain_unworn at H
 refine fn_of (n:=3) Tryd.func101 rfl rfl (lE rfl) ?_
 have S:=St.start w nF _ nM
 refine c_seq<|reg<|p_allA in128 S fun b1 w2 S3=>wp_nil<|c_seq<|reg<|p_allA in128 S3 fun b4 w5 S6=>wp_nil<|c_seq<|reg<|p_ldA ty128 sz128 (S6.atX (i:=0) rfl) rfl rfl<|p_stP (pre:=[]) (old:=sg (List.replicate 4 0) 4) (post:=[]) (vs:=sg (List.replicate 4 0) 4) sz128 S6 (i:=1) rfl rfl rfl rfl (rfl:_=AG (sg (List.replicate 4 0) 4)) rfl rfl rfl rfl fun w7 S8=>wp_nil ?_
 obtain rfl:=sJ H
 refine c_ret ?_; show bodyPostM (Fr none) 0 Tryd.prog Tryd.f101 _ .ret _ _
 refine ret_of (res1 rfl (rvA rfl ty128 sz128 (S8.atX (i:=1) rfl) rfl)) ?_
 exact ⟨_,rfl,rfl,S8.keep⟩
structure Chain_truth where
 wears_:List Int
 first_:List Span
 deriving DecidableEq,Inhabited
structure Chain_book where
 ChainBook:ChainBook
 read_:List (Chain_spot×Span)
 truths_:List Chain_truth
 deriving DecidableEq,Inhabited
def eChain_truth (x:Chain_truth):List Value:=sg x.wears_ 4++sgE eSpan x.first_ 4
theorem eChain_truth_len (x:Chain_truth):(eChain_truth x).length=12:=rfl
theorem eChain_truth_one (x:Chain_truth):∀ u∈eChain_truth x,u.oneCell' =true:=by simp [eChain_truth,sg,sgF,Value.oneCell',sgE,sgEF,eSpan]
def chain_book_place_l1 (a3:List Int) (a2:Int) (a0:Chain_book) (rec_z_1:(Int×Int)→Option Int) (z_1:Int×Int):Option Int:=
 bif decide (z_1.2 < (a3.length:Int)) then ((getI a3 z_1.2).bind fun r26=>
 bif decide (r26≤a2) then (rec_z_1 (wr ((wr ((a0.ChainBook.Sections.length:Int) - 1)) - z_1.1),wr (z_1.2+1)))
 else (rec_z_1 (z_1.1,wr (z_1.2+1))))
 else (some z_1.1)
def chain_book_place (a0:Chain_book) (a1:Int) (a2:Int) (a3:List Int):Option Int:=
 loopF (chain_book_place_l1 a3 a2 a0) big (a1,0)
set_option maxRecDepth 100000 in
theorem chain_book_place_ok {a0:Chain_book}{a1:Int}{a2:Int}{a3:List Int}{A1:Option Addr}{c2:Nat}{A4:Option Addr}{c5:Nat}{A7:Option Addr}{c8:Nat}{m10:Option Nat}{A12:Option Addr}{c13:Nat}{A15:Option Addr}{c16:Nat}{w:World}{r:Int} (H:chain_book_place a0 a1 a2 a3=some r) (h3:(rd eChainSection 4 A1 c2 a0.ChainBook.Sections).ok w) (h6:(rd intE 1 A4 c5 a0.ChainBook.Turns).ok w) (h9:(rd eChainSurvey 4 A7 c8 a0.ChainBook.Surveys).ok w) (h11:(mpo ekC sE m10 a0.read_).ok w) (h14:(rd eChain_truth 12 A12 c13 a0.truths_).ok w) (h17:(rd intE 1 A15 c16 a3).ok w):Calls Tryd.prog 102 #[AG [SL A1 a0.ChainBook.Sections.length c2,SL A4 a0.ChainBook.Turns.length c5,SL A7 a0.ChainBook.Surveys.length c8,I a0.ChainBook.Rule,I a0.ChainBook.Days,Value.map m10,SL A12 a0.truths_.length c13],I a1,I a2,SL A15 a3.length c16] w (RetV w (I r)):=by
 unfold chain_book_place at H
 refine fn_of (n:=29) Tryd.func102 rfl rfl (lE rfl) ?_
 have S:=St.start w nF _ (cA h3 (cA h6 (cA h9 (cA h11 (cA h14 (cA h17 nM))))))
 refine c_seq<|reg<|p_boxA rfl S fun b18 w19 S20=>p_aI rfl<|wp_nil<|c_seq<|c_seq<|reg<|p_mS rfl<|p_len rfl sc42<|p_mI rfl<|wp_nil<|c_block ?_
 refine c_lop (α:=Int×Int) (β:=Unit) (chain_book_place_l1 a3 a2 a0) (fun z_1 y_1=>[(1,I z_1.1),(2,I a2),(4,P b18 0),(11,SL A15 a3.length c16),(12,I (a3.length:Int)),(13,I z_1.2)]) (fun z_1 y_1 w_=>St w nF w_ [bl b18 [SL A1 a0.ChainBook.Sections.length c2,SL A4 a0.ChainBook.Turns.length c5,SL A7 a0.ChainBook.Surveys.length c8,I a0.ChainBook.Rule,I a0.ChainBook.Days,Value.map m10,SL A12 a0.truths_.length c13] 120] [rd eChainSection 4 A1 c2 a0.ChainBook.Sections,rd intE 1 A4 c5 a0.ChainBook.Turns,rd eChainSurvey 4 A7 c8 a0.ChainBook.Surveys,mpo ekC sE m10 a0.read_,rd eChain_truth 12 A12 c13 a0.truths_,rd intE 1 A15 c16 a3]) (a1,0) () H ⟨rfl,rfl,rfl,rfl,rfl,rfl,trivial⟩ S20 ?_
 intro m21 z_1 y_1 e22 w23 H S24
 unfold chain_book_place_l1 at H
 refine c_seq<|reg<|p_cmp rfl rfl rfl<|wp_nil<|c_seq ?_
 refine c_cond rfl (fun c25=>?_) (fun c25=>?_)
 ·replace H:=condT c25 H
  refine c_skip<|c_seq<|c_block<|c_seq<|reg ?_
  obtain ⟨r26,h27,H⟩:=bindS H
  refine p_ixE sc42 h27 (S24.atP (i:=5) rfl).1 rfl rfl rfl<|p_ldE ty3 h27 (S24.atP (i:=5) rfl).1 rfl rfl<|p_aI rfl<|wp_nil<|c_seq<|reg<|p_mI rfl<|p_mI rfl<|p_cmp rfl rfl rfl<|wp_nil ?_
  refine c_cond rfl (fun c28=>?_) (fun c28=>?_)
  ·replace H:=condT c28 H
   refine reg<|p_fld fl120_0 rfl<|p_fld fl63_0 rfl<|p_ld ty60 (S24.atX (i:=0) rfl) rfl rfl<|p_len rfl sc60<|p_sub rfl rfl<|p_mI rfl<|p_sub rfl rfl<|p_aI rfl<|wp_nil<|reg<|p_add rfl rfl<|p_mI rfl<|wp_nil ?_
   exact ⟨(wr ((wr ((a0.ChainBook.Sections.length:Int) - 1)) - z_1.1),wr (z_1.2+1)),(),_,rfl,⟨rfl,rfl,rfl,rfl,rfl,rfl,trivial⟩,H,S24⟩
  ·replace H:=condF c28 H
   refine c_skip<|reg<|p_add rfl rfl<|p_mI rfl<|wp_nil ?_
   exact ⟨(z_1.1,wr (z_1.2+1)),(),_,rfl,⟨rfl,rfl,rfl,rfl,rfl,rfl,trivial⟩,H,S24⟩
 ·replace H:=condF c25 H
  refine c_exit<|c_seq<|reg<|p_mI rfl<|p_aI rfl<|wp_nil ?_
  obtain rfl:=sJ H
  exact c_ret (rT Tryd.f102 S24.keep rfl rfl)
def chain_book_worn_l1 (a3:Int) (a0:Chain_book) (a2:Int) (a4:List Int) (a1:List Int) (rec_z_1:(Int×Int)→Option Int) (z_1:Int×Int):Option Int:=
 bif decide (z_1.2 < a3) then ((chain_book_place a0 a2 z_1.2 a4).bind fun r35=>
 need (inI r35 4)<|
 rec_z_1 (wr (z_1.1+(aget a1 r35)),wr (z_1.2+1)))
 else (some z_1.1)
def chain_book_worn (a0:Chain_book) (a1:List Int) (a2:Int) (a3:Int) (a4:List Int):Option Int:=
 (chain_unworn).bind fun r24=>
 bif decide (sgl a1 4=sgl r24 4) then (some 0)
 else (loopF (chain_book_worn_l1 a3 a0 a2 a4 a1) big (0,0))
set_option maxRecDepth 100000 in
theorem chain_book_worn_ok {a0:Chain_book}{a1:List Int}{a2:Int}{a3:Int}{a4:List Int}{A1:Option Addr}{c2:Nat}{A4:Option Addr}{c5:Nat}{A7:Option Addr}{c8:Nat}{m10:Option Nat}{A12:Option Addr}{c13:Nat}{A15:Option Addr}{c16:Nat}{w:World}{r:Int} (H:chain_book_worn a0 a1 a2 a3 a4=some r) (h3:(rd eChainSection 4 A1 c2 a0.ChainBook.Sections).ok w) (h6:(rd intE 1 A4 c5 a0.ChainBook.Turns).ok w) (h9:(rd eChainSurvey 4 A7 c8 a0.ChainBook.Surveys).ok w) (h11:(mpo ekC sE m10 a0.read_).ok w) (h14:(rd eChain_truth 12 A12 c13 a0.truths_).ok w) (h17:(rd intE 1 A15 c16 a4).ok w):Calls Tryd.prog 83 #[AG [SL A1 a0.ChainBook.Sections.length c2,SL A4 a0.ChainBook.Turns.length c5,SL A7 a0.ChainBook.Surveys.length c8,I a0.ChainBook.Rule,I a0.ChainBook.Days,Value.map m10,SL A12 a0.truths_.length c13],AG (sg a1 4),I a2,I a3,SL A15 a4.length c16] w (RetV w (I r)):=by
 unfold chain_book_worn at H
 refine fn_of (n:=32) Tryd.func83 rfl rfl (lE rfl) ?_
 have S:=St.start w nF _ (cA h3 (cA h6 (cA h9 (cA h11 (cA h14 (cA h17 nM))))))
 refine c_seq<|reg<|p_boxA rfl S fun b18 w19 S20=>p_boxA rfl S20 fun b21 w22 S23=>p_aI rfl<|wp_nil<|c_seq<|reg<|p_aI rfl<|wp_nil<|c_seq<|c_seq ?_
 obtain ⟨r24,h25,H⟩:=bindS H
 refine reg_q mixed 3 (by kernel_rfl) ?_
 refine dS (fun _ k_=>p_ldA ty128 sz128 (aS (S23.atX (i:=0) rfl) k_) rfl rfl dn)<|dS (fun _ k_=>p_cvD (chain_unworn_ok h25) fu101 rfl)<|dS (fun _ k_=>p_eqS (m:=4) eq128 rfl rfl dn) ?_
 intro w26 k27; have S28:=S23.call k27
 refine wp_nil ?_
 refine c_cond rfl (fun c29=>?_) (fun c29=>?_)
 ·replace H:=condT c29 H
  refine c_seq<|reg<|p_mI rfl<|p_aI rfl<|wp_nil ?_
  obtain rfl:=sJ H
  exact c_ret (rT Tryd.f83 S28.keep rfl rfl)
 ·replace H:=condF c29 H
  refine c_skip<|c_seq<|c_seq<|reg<|p_mI rfl<|p_mI rfl<|wp_nil<|c_block ?_
  refine c_lop (α:=Int×Int) (β:=Unit) (chain_book_worn_l1 a3 a0 a2 a4 a1) (fun z_1 y_1=>[(2,I a2),(4,SL A15 a4.length c16),(5,P b18 0),(6,P b21 0),(11,I z_1.1),(17,I a3),(18,I z_1.2)]) (fun z_1 y_1 w_=>St w nF w_ [bl b21 (sg a1 4) 128,bl b18 [SL A1 a0.ChainBook.Sections.length c2,SL A4 a0.ChainBook.Turns.length c5,SL A7 a0.ChainBook.Surveys.length c8,I a0.ChainBook.Rule,I a0.ChainBook.Days,Value.map m10,SL A12 a0.truths_.length c13] 120] [rd eChainSection 4 A1 c2 a0.ChainBook.Sections,rd intE 1 A4 c5 a0.ChainBook.Turns,rd eChainSurvey 4 A7 c8 a0.ChainBook.Surveys,mpo ekC sE m10 a0.read_,rd eChain_truth 12 A12 c13 a0.truths_,rd intE 1 A15 c16 a4]) (0,0) () H ⟨rfl,rfl,rfl,rfl,rfl,rfl,rfl,trivial⟩ S28 ?_
  intro m30 z_1 y_1 e31 w32 H S33
  unfold chain_book_worn_l1 at H
  refine c_seq<|reg<|p_cmp rfl rfl rfl<|wp_nil<|c_seq ?_
  refine c_cond rfl (fun c34=>?_) (fun c34=>?_)
  ·replace H:=condT c34 H
   refine c_skip<|c_seq<|c_block<|c_seq<|reg<|p_mI rfl<|p_aI rfl<|wp_nil<|reg<|p_mI rfl<|p_ldA ty120 sz120 (S33.atX (i:=1) rfl) rfl rfl<|p_mI rfl<|p_mI rfl<|p_mS rfl ?_
   obtain ⟨r35,h36,H⟩:=bindS H
   refine p_cv (chain_book_place_ok h36 (S33.atP (i:=0) rfl) (S33.atP (i:=1) rfl) (S33.atP (i:=2) rfl) (S33.atP (i:=3) rfl) (S33.atP (i:=4) rfl) (S33.atP (i:=5) rfl)) fu102 rfl S33 fun w37 S38=>?_
   obtain ⟨h39,H⟩:=needS H
   refine p_ixD ar128 h39 rfl rfl<|p_ldD (pre:=[]) (post:=[]) ty3 (S38.atX (i:=0) rfl) rfl h39 rfl rfl<|p_add rfl rfl<|p_aI rfl<|wp_nil<|reg<|p_add rfl rfl<|p_mI rfl<|wp_nil ?_
   exact ⟨(wr (z_1.1+(aget a1 r35)),wr (z_1.2+1)),(),_,rfl,⟨rfl,rfl,rfl,rfl,rfl,rfl,rfl,trivial⟩,H,S38⟩
  ·replace H:=condF c34 H
   refine c_exit<|c_seq<|reg<|p_mI rfl<|p_aI rfl<|wp_nil ?_
   obtain rfl:=sJ H
   exact c_ret (rT Tryd.f83 S33.keep rfl rfl)
def chain_high_1 (a0:Span):Option Int:=
 some a0.High
set_option maxRecDepth 100000 in
theorem chain_high_1_ok {a0:Span}{w:World}{r:Int} (H:chain_high_1 a0=some r):Calls Tryd.prog 106 #[AG [I a0.Low,I a0.High]] w (RetV w (I r)):=by
 unfold chain_high_1 at H
 refine fn_of (n:=5) Tryd.func106 rfl rfl (lE rfl) ?_
 have S:=St.start w nF _ nM
 refine c_seq<|reg<|p_boxA rfl S fun b1 w2 S3=>p_aI rfl<|wp_nil<|c_seq<|reg<|p_fld fl23_1 rfl<|p_ld ty3 (S3.atX (i:=0) rfl) rfl rfl<|p_aI rfl<|wp_nil ?_
 obtain rfl:=sJ H
 exact c_ret (rT Tryd.f106 S3.keep rfl rfl)
def chain_high:Option Unit:=
 some ()
set_option maxRecDepth 100000 in
theorem chain_high_ok {w:World}{r:Unit} (H:chain_high=some r):Calls Tryd.prog 99 #[] w (RetV w (AG [vF (.func 106) #[] #[]])):=by
 unfold chain_high at H
 refine fn_of (n:=2) Tryd.func99 rfl rfl (lE rfl) ?_
 have S:=St.start w nF _ nM
 refine c_seq<|reg<|p_allA in174 S fun b1 w2 S3=>wp_nil<|c_seq<|reg<|p_bld (cs:=[vF (.func 106) #[] #[]]) st174 (rfl:_=[(0,vF (.func 106) #[] #[])]) (by kernel_rfl)<|p_stP (pre:=[]) (old:=[Value.nilFunc]) (post:=[]) (vs:=[vF (.func 106) #[] #[]]) sz174 S3 (i:=0) rfl rfl rfl rfl (rfl:_=AG [vF (.func 106) #[] #[]]) rfl rfl rfl rfl fun w4 S5=>wp_nil ?_
 obtain rfl:=sJ H
 refine c_ret ?_; show bodyPostM (Fr none) 0 Tryd.prog Tryd.f99 _ .ret _ _
 refine ret_of (res1 rfl (rvA rfl ty174 sz174 (S5.atX (i:=0) rfl) rfl)) ?_
 exact ⟨_,rfl,rfl,S5.keep⟩
def chain_low_1 (a0:Span):Option Int:=
 some a0.Low
set_option maxRecDepth 100000 in
theorem chain_low_1_ok {a0:Span}{w:World}{r:Int} (H:chain_low_1 a0=some r):Calls Tryd.prog 107 #[AG [I a0.Low,I a0.High]] w (RetV w (I r)):=by
 unfold chain_low_1 at H
 refine fn_of (n:=5) Tryd.func107 rfl rfl (lE rfl) ?_
 have S:=St.start w nF _ nM
 refine c_seq<|reg<|p_boxA rfl S fun b1 w2 S3=>p_aI rfl<|wp_nil<|c_seq<|reg<|p_fld fl23_0 rfl<|p_ld ty3 (S3.atX (i:=0) rfl) rfl rfl<|p_aI rfl<|wp_nil ?_
 obtain rfl:=sJ H
 exact c_ret (rT Tryd.f107 S3.keep rfl rfl)
def chain_low:Option Unit:=
 some ()
set_option maxRecDepth 100000 in
theorem chain_low_ok {w:World}{r:Unit} (H:chain_low=some r):Calls Tryd.prog 100 #[] w (RetV w (AG [vF (.func 107) #[] #[]])):=by
 unfold chain_low at H
 refine fn_of (n:=2) Tryd.func100 rfl rfl (lE rfl) ?_
 have S:=St.start w nF _ nM
 refine c_seq<|reg<|p_allA in174 S fun b1 w2 S3=>wp_nil<|c_seq<|reg<|p_bld (cs:=[vF (.func 107) #[] #[]]) st174 (rfl:_=[(0,vF (.func 107) #[] #[])]) (by kernel_rfl)<|p_stP (pre:=[]) (old:=[Value.nilFunc]) (post:=[]) (vs:=[vF (.func 107) #[] #[]]) sz174 S3 (i:=0) rfl rfl rfl rfl (rfl:_=AG [vF (.func 107) #[] #[]]) rfl rfl rfl rfl fun w4 S5=>wp_nil ?_
 obtain rfl:=sJ H
 refine c_ret ?_; show bodyPostM (Fr none) 0 Tryd.prog Tryd.f100 _ .ret _ _
 refine ret_of (res1 rfl (rvA rfl ty174 sz174 (S5.atX (i:=0) rfl) rfl)) ?_
 exact ⟨_,rfl,rfl,S5.keep⟩
def chain_book_right_j7 (a0:Chain_book) (a1:List Int) (a2:Int) (e_1:Chain_spot×Span) (z_1:Int×Int) (z_2:Bool):Option (Int×Int):=
 bif z_2 then ((chain_book_worn a0 a1 a2 e_1.1.day_ a0.ChainBook.Turns).bind fun r72=>
 (chain_both (Span.mk z_1.1 z_1.2) (Span.mk (wr (e_1.2.Low+r72)) (wr (e_1.2.High+r72)))).bind fun r76=>
 some (r76.Low,r76.High))
 else (some (z_1.1,z_1.2))
def chain_book_right_m8 (a0:Chain_book) (a1:List Int) (a2:Int) (z_1:Int×Int) (e_1:Chain_spot×Span):Option (Int×Int):=
 bif !((e_1.1.section_==(-1))&&(e_1.1.day_==(-1))) then (chain_book_right_j7 a0 a1 a2 e_1 z_1 (e_1.1.section_==a2))
 else (chain_book_right_j7 a0 a1 a2 e_1 z_1 false)
theorem chain_least1 (a x:Int):chain_least_int a [x]=some (if x < a then x else a):=by
 unfold chain_least_int
 have h1:getI ([x]:List Int) 0=some x:=rfl
 have hb:big=(big - 2)+1+1:=by decide +kernel
 rw [hb]
 simp only [loopF,chain_least_int_l1,List.length_singleton]
 rw [show wr ((0:Int)+1)=1 by decide +kernel,h1]
 rfl
theorem chain_both_eq (s t:Span):chain_both s t=some ⟨if t.Low > s.Low then t.Low else s.Low,if t.High < s.High then t.High else s.High⟩:=by
 unfold chain_both
 rw [chain_least1]
 rfl
theorem chain_book_right_m8_c {a0:Chain_book}{a1:List Int}{a2:Int}:Comm (chain_book_right_m8 a0 a1 a2):=by
 have key:∀ (e:Chain_spot×Span) (z:Int×Int),(∃ n,∀ z,chain_book_right_m8 a0 a1 a2 z e=some (if wr (e.2.Low+n) > z.1 then wr (e.2.Low+n) else z.1,if wr (e.2.High+n) < z.2 then wr (e.2.High+n) else z.2))∨(∀ z,chain_book_right_m8 a0 a1 a2 z e=none)∨(∀ z,chain_book_right_m8 a0 a1 a2 z e=some z):=by
  intro e z
  have hj:∀ b,(∃ n,∀ z,chain_book_right_j7 a0 a1 a2 e z b=some (if wr (e.2.Low+n) > z.1 then wr (e.2.Low+n) else z.1,if wr (e.2.High+n) < z.2 then wr (e.2.High+n) else z.2))∨(∀ z,chain_book_right_j7 a0 a1 a2 e z b=none)∨(∀ z,chain_book_right_j7 a0 a1 a2 e z b=some z):=by
   intro b
   cases b with
   | false=>exact .inr (.inr fun z=>rfl)
   | true=>
     cases hw:chain_book_worn a0 a1 a2 e.1.day_ a0.ChainBook.Turns with
     | none=>exact .inr (.inl fun z=>by unfold chain_book_right_j7; rw [hw]; rfl)
     | some n=>exact .inl ⟨n,fun z=>by unfold chain_book_right_j7; rw [hw]; simp only [cond_true,Option.bind_some,chain_both_eq]⟩
  unfold chain_book_right_m8
  cases !((e.1.section_==(-1))&&(e.1.day_==(-1))) with
  | true=>exact hj (e.1.section_==a2)
  | false=>exact hj false
 intro z x y
 rcases key x z with ⟨n,h1⟩ | h1 | h1 <;> rcases key y z with ⟨m,h2⟩ | h2 | h2 <;> simp only [h1,h2,Option.bind_some,Option.bind_none]
 ·congr 2
  ·by_cases a:wr (x.2.Low+n) > z.1 <;> by_cases b:wr (y.2.Low+m) > z.1 <;> simp only [a,b,if_true,if_false] <;> split <;> (try split) <;> omega
  ·by_cases a:wr (x.2.High+n) < z.2 <;> by_cases b:wr (y.2.High+m) < z.2 <;> simp only [a,b,if_true,if_false] <;> split <;> (try split) <;> omega
def chain_book_right (a0:Chain_book) (a1:List Int) (a2:Int):Option (Span×Bool):=
 (getI a0.ChainBook.Sections a2).bind fun r25=>
 need (!a0.read_.isEmpty)<|
 (foldO (chain_book_right_m8 a0 a1 a2) a0.read_ (r25.Thick.Low,r25.Thick.High)).bind fun r42=>
 (chain_low).bind fun r70=>
 (chain_low_1 (Span.mk r42.1 r42.2)).bind fun r72=>
 (chain_high).bind fun r74=>
 (chain_high_1 (Span.mk r42.1 r42.2)).bind fun r76=>
 some ((Span.mk r42.1 r42.2),decide (r72≤r76))
set_option maxRecDepth 100000 in
theorem chain_book_right_ok {a0:Chain_book}{a1:List Int}{a2:Int}{A1:Option Addr}{c2:Nat}{A4:Option Addr}{c5:Nat}{A7:Option Addr}{c8:Nat}{m10:Option Nat}{A12:Option Addr}{c13:Nat}{w:World}{r:Span×Bool} (H:chain_book_right a0 a1 a2=some r) (h3:(rd eChainSection 4 A1 c2 a0.ChainBook.Sections).ok w) (h6:(rd intE 1 A4 c5 a0.ChainBook.Turns).ok w) (h9:(rd eChainSurvey 4 A7 c8 a0.ChainBook.Surveys).ok w) (h11:(mpo ekC sE m10 a0.read_).ok w) (h14:(rd eChain_truth 12 A12 c13 a0.truths_).ok w) (hg15:(gW2).ok w):Calls Tryd.prog 97 #[AG [SL A1 a0.ChainBook.Sections.length c2,SL A4 a0.ChainBook.Turns.length c5,SL A7 a0.ChainBook.Surveys.length c8,I a0.ChainBook.Rule,I a0.ChainBook.Days,Value.map m10,SL A12 a0.truths_.length c13],AG (sg a1 4),I a2] w (RetV w (TU [AG [I r.1.Low,I r.1.High],B r.2])):=by
 unfold chain_book_right at H
 refine fn_of (n:=66) Tryd.func97 rfl rfl (lE rfl) ?_
 have S:=St.start w nF _ (cA h3 (cA h6 (cA h9 (cA h11 (cA h14 (cA hg15 nM))))))
 refine c_seq<|reg<|p_boxA rfl S fun b16 w17 S18=>p_boxA rfl S18 fun b19 w20 S21=>p_allA in23 S21 fun b22 w23 S24=>p_aB rfl<|wp_nil<|c_seq<|reg<|p_fld fl120_0 rfl<|p_fld fl63_0 rfl<|p_ld ty60 (S24.atX (i:=2) rfl) rfl rfl<|p_mI rfl ?_
 obtain ⟨r25,h26,H⟩:=bindS H
 refine p_ixE sc60 h26 (S24.atP (i:=0) rfl).1 rfl rfl rfl<|p_fldE fl79_0 (sl_here (S24.atP (i:=0) rfl).1 h26) rfl<|p_ldEP (vs:=[I r25.Thick.Low,I r25.Thick.High]) ty23 sz23 rfl h26 (S24.atP (i:=0) rfl).1 rfl rfl<|p_allA in23 S24 fun b27 w28 S29=>?_
 refine p_stP (pre:=[]) (old:=[I 0,I 0]) (post:=[]) (vs:=[I r25.Thick.Low,I r25.Thick.High]) sz23 S29 (i:=0) rfl rfl rfl rfl (rfl:_=AG [I r25.Thick.Low,I r25.Thick.High]) rfl rfl rfl rfl fun w30 S31=>wp_nil<|c_seq<|c_seq<|reg<|p_fld fl120_1 rfl<|p_ld ty117 (S31.atX (i:=3) rfl) rfl rfl ?_
 obtain ⟨h32,H⟩:=needS H
 obtain ⟨m33,rfl⟩:=mpo_ne (S31.atP (i:=3) rfl) h32
 obtain ⟨es34,ck35,he36,hst37,S38⟩:=S31.openM (i:=3) rfl
 refine o_range (ek:=ekC) (ev:=sE) rfl mt117 (S38.atP (i:=0) rfl) S38 fun r40 w41 _ S39=>?_
 refine wp_nil<|c_block ?_
 obtain ⟨r42,h43,H⟩:=bindS H
 refine c_mapR (α:=Int×Int) (β:=Unit) chain_book_right_m8_c he36 hst37 (r25.Thick.Low,r25.Thick.High) () h43 (fun z_1 y_1=>[(2,I a2),(3,P b16 0),(4,P b19 0),(6,P b22 0),(8,P b27 0),(21,P r40 0)]) (fun dn_ z_1 y_1 w_=>St w nF w_ [bx r40 (itO (κ:=Chain_spot) (ν:=Span) m33 ck35 dn_),bl b27 [I z_1.1,I z_1.2] 23,bl b22 [I 0,I 0] 23,bl b19 (sg a1 4) 128,bl b16 [SL A1 a0.ChainBook.Sections.length c2,SL A4 a0.ChainBook.Turns.length c5,SL A7 a0.ChainBook.Surveys.length c8,I a0.ChainBook.Rule,I a0.ChainBook.Days,Value.map (some m33),SL A12 a0.truths_.length c13] 120] [bx m33 (mapO ekC sE es34 ck35),rd eChainSection 4 A1 c2 a0.ChainBook.Sections,rd intE 1 A4 c5 a0.ChainBook.Turns,rd eChainSurvey 4 A7 c8 a0.ChainBook.Surveys,mpo ekC sE (some m33) a0.read_,rd eChain_truth 12 A12 c13 a0.truths_,gW2]) ⟨rfl,rfl,rfl,rfl,rfl,rfl,trivial⟩ S39 ?_
 intro dn44 z_1 y_1 e45 w46 hs47 hz48 S49
 refine c_seq<|reg ?_
 refine o_next rfl (S49.atP (i:=0) rfl) hst37 S49 (k:=0) rfl (fun ⟨s_1,e_1⟩ w52 hy50 hn51 S53=>?_) (fun w54 ha55 S56=>?_)
 ·obtain ⟨r,hf57⟩:=hs47 (s_1,e_1) hy50 hn51
  have H:chain_book_right_m8 a0 a1 a2 z_1 e_1=some r:=hf57
  unfold chain_book_right_m8 at H
  replace S53:St w nF w52 [bx r40 (itO (κ:=Chain_spot) (ν:=Span) m33 ck35 (dn44++[(s_1,e_1)])),bl b27 [I z_1.1,I z_1.2] 23,bl b22 [I 0,I 0] 23,bl b19 (sg a1 4) 128,bl b16 [SL A1 a0.ChainBook.Sections.length c2,SL A4 a0.ChainBook.Turns.length c5,SL A7 a0.ChainBook.Surveys.length c8,I a0.ChainBook.Rule,I a0.ChainBook.Days,Value.map (some m33),SL A12 a0.truths_.length c13] 120] [bx m33 (mapO ekC sE es34 ck35),rd eChainSection 4 A1 c2 a0.ChainBook.Sections,rd intE 1 A4 c5 a0.ChainBook.Turns,rd eChainSurvey 4 A7 c8 a0.ChainBook.Surveys,mpo ekC sE (some m33) a0.read_,rd eChain_truth 12 A12 c13 a0.truths_,gW2]:=S53
  refine p_ext rfl rfl<|wp_nil<|c_seq<|c_true rfl<|c_skip<|c_block<|c_seq<|reg ?_
  refine o_entry rfl (S53.atP (i:=0) rfl) hst37 hy50 S53 (k:=0) rfl ?_
  refine p_ext rfl rfl<|p_ext rfl rfl<|p_allA in155 S53 fun b58 w59 S60=>p_allA in23 S60 fun b61 w62 S63=>p_stP (pre:=[]) (old:=[I 0,I 0]) (post:=[]) (vs:=[I e_1.1.section_,I e_1.1.day_]) sz155 S63 (i:=1) rfl rfl rfl rfl (rfl:_=AG [I e_1.1.section_,I e_1.1.day_]) rfl rfl rfl rfl fun w64 S65=>?_
  refine p_stP (pre:=[]) (old:=[I 0,I 0]) (post:=[]) (vs:=[I e_1.2.Low,I e_1.2.High]) sz23 S65 (i:=0) rfl rfl rfl rfl (rfl:_=AG [I e_1.2.Low,I e_1.2.High]) rfl rfl rfl rfl fun w66 S67=>wp_nil ?_
  refine c_join (α:=Bool) (β:=Unit) (fun z_2 y_2=>[(2,I a2),(3,P b16 0),(4,P b19 0),(6,P b22 0),(8,P b27 0),(9,P b58 0),(10,P b61 0),(21,P r40 0),(35,B z_2)]) (fun z_2 y_2 w_=>chain_book_right_j7 a0 a1 a2 e_1 z_1 z_2=some r∧St w nF w_ [bl b61 [I e_1.2.Low,I e_1.2.High] 23,bl b58 [I e_1.1.section_,I e_1.1.day_] 155,bl b27 [I z_1.1,I z_1.2] 23,bl b22 [I 0,I 0] 23,bl b19 (sg a1 4) 128,bl b16 [SL A1 a0.ChainBook.Sections.length c2,SL A4 a0.ChainBook.Turns.length c5,SL A7 a0.ChainBook.Surveys.length c8,I a0.ChainBook.Rule,I a0.ChainBook.Days,Value.map (some m33),SL A12 a0.truths_.length c13] 120,bx r40 (itO (κ:=Chain_spot) (ν:=Span) m33 ck35 (dn44++[(s_1,e_1)]))] [bx m33 (mapO ekC sE es34 ck35),rd eChainSection 4 A1 c2 a0.ChainBook.Sections,rd intE 1 A4 c5 a0.ChainBook.Turns,rd eChainSurvey 4 A7 c8 a0.ChainBook.Surveys,mpo ekC sE (some m33) a0.read_,rd eChain_truth 12 A12 c13 a0.truths_,gW2]) ?_ ?_
  ·refine reg<|p_ldA ty155 sz155 (S67.atX (i:=1) rfl) rfl rfl<|p_ldA ty155 sz155 (S67.atP (i:=6) rfl) rfl rfl ?_
   refine o_neA (xs:=[I e_1.1.section_,I e_1.1.day_]) (ys:=[I (-1),I (-1)]) (T:=((e_1.1.section_==(-1))&&(e_1.1.day_==(-1)))) rfl rfl eq155 ⟨⟨_,rfl⟩,⟨⟨_,rfl⟩,trivial⟩⟩ ⟨⟨_,rfl⟩,⟨⟨_,rfl⟩,trivial⟩⟩ (by simp [Bool.and_eq_true,and_assoc]) ?_
   refine p_mB rfl ?_
   rcases bE (!((e_1.1.section_==(-1))&&(e_1.1.day_==(-1)))) with c68 | c68
   ·replace H:=condT c68 H
    refine eB c68 ?_
    refine gT rfl rfl (p_fld fl155_0 rfl ?_)
    refine gT rfl rfl (p_ld ty3 (S67.atX (i:=1) rfl) rfl rfl ?_)
    refine gT rfl rfl (p_mI rfl ?_)
    refine gT rfl rfl (p_cmp rfl rfl rfl ?_)
    refine p_pkT rfl (rfl:_=B (e_1.1.section_==a2))<|wp_nil ?_
    have S69:=S67.pk [0,1,3,4,5,6,2] (by decide) [0,1,2,3,4,5,6] rfl rfl
    exact ⟨(e_1.1.section_==a2),(),_,rfl,⟨rfl,rfl,rfl,rfl,rfl,rfl,rfl,rfl,rfl,trivial⟩,H,S69⟩
   ·replace H:=condF c68 H
    refine eB c68<|gF rfl rfl<|gF rfl rfl<|gF rfl rfl<|gF rfl rfl<|p_pkF rfl (rfl:_=B false)<|wp_nil ?_
    have S69:=S67.pk [0,1,3,4,5,6,2] (by decide) [0,1,2,3,4,5,6] rfl rfl
    exact ⟨false,(),_,rfl,⟨rfl,rfl,rfl,rfl,rfl,rfl,rfl,rfl,rfl,trivial⟩,H,S69⟩
  ·intro z_2 y_2 e68 w69 S70; obtain ⟨H,S70⟩:=S70
   unfold chain_book_right_j7 at H
   refine c_cond rfl (fun c71=>?_) (fun c71=>?_)
   ·replace H:=condT c71 H
    refine c_seq<|reg<|p_ldA ty120 sz120 (S70.atX (i:=5) rfl) rfl rfl<|p_ldA ty128 sz128 (S70.atX (i:=4) rfl) rfl rfl<|p_mI rfl<|p_fld fl155_1 rfl<|p_ld ty3 (S70.atX (i:=1) rfl) rfl rfl<|p_fld fl120_0 rfl<|p_fld fl63_1 rfl<|p_ld ty42 (S70.atX (i:=5) rfl) rfl rfl ?_
    obtain ⟨r72,h73,H⟩:=bindS H
    refine p_cv (chain_book_worn_ok h73 (S70.atP (i:=1) rfl) (S70.atP (i:=2) rfl) (S70.atP (i:=3) rfl) (S70.atP (i:=4) rfl) (S70.atP (i:=5) rfl) (S70.atP (i:=2) rfl)) fu83 rfl S70 fun w74 S75=>p_aI rfl<|wp_nil<|reg<|p_ldA ty23 sz23 (S75.atX (i:=2) rfl) rfl rfl<|p_fld fl23_0 rfl<|p_ld ty3 (S75.atX (i:=0) rfl) rfl rfl<|p_mI rfl<|p_add rfl rfl<|p_fld fl23_1 rfl<|p_ld ty3 (S75.atX (i:=0) rfl) rfl rfl<|p_mI rfl ?_
    refine p_add rfl rfl<|p_bld (cs:=[I (wr (e_1.2.Low+r72)),I (wr (e_1.2.High+r72))]) st23 (rfl:_=[(0,I (wr (e_1.2.Low+r72))),(1,I (wr (e_1.2.High+r72)))]) (by kernel_rfl) ?_
    obtain ⟨r76,h77,H⟩:=bindS H
    refine p_cv (chain_both_ok h77) fu80 rfl S75 fun w78 S79=>p_stP (pre:=[]) (old:=[I z_1.1,I z_1.2]) (post:=[]) (vs:=[I r76.Low,I r76.High]) sz23 S79 (i:=2) rfl rfl rfl rfl (rfl:_=AG [I r76.Low,I r76.High]) rfl rfl rfl rfl fun w80 S81=>wp_nil ?_
    have S82:=S81.pk [6,2,3,4,5] (by decide) [0,1,2,3,4,5,6] rfl rfl
    obtain rfl:=sJ H
    exact ⟨(s_1,e_1),(r76.Low,r76.High),(),_,rfl,⟨rfl,rfl,rfl,rfl,rfl,rfl,trivial⟩,hy50,hn51,hf57,S82⟩
   ·replace H:=condF c71 H
    refine c_skip ?_
    have S83:=S70.pk [6,2,3,4,5] (by decide) [0,1,2,3,4,5,6] rfl rfl
    obtain rfl:=sJ H
    exact ⟨(s_1,e_1),(z_1.1,z_1.2),(),_,rfl,⟨rfl,rfl,rfl,rfl,rfl,rfl,trivial⟩,hy50,hn51,hf57,S83⟩
 ·have hq69:=(hz48 ha55).symm
  subst hq69
  replace S56:St w nF w54 [bx r40 (itO (κ:=Chain_spot) (ν:=Span) m33 ck35 dn44),bl b27 [I r42.1,I r42.2] 23,bl b22 [I 0,I 0] 23,bl b19 (sg a1 4) 128,bl b16 [SL A1 a0.ChainBook.Sections.length c2,SL A4 a0.ChainBook.Turns.length c5,SL A7 a0.ChainBook.Surveys.length c8,I a0.ChainBook.Rule,I a0.ChainBook.Days,Value.map (some m33),SL A12 a0.truths_.length c13] 120] [bx m33 (mapO ekC sE es34 ck35),rd eChainSection 4 A1 c2 a0.ChainBook.Sections,rd intE 1 A4 c5 a0.ChainBook.Turns,rd eChainSurvey 4 A7 c8 a0.ChainBook.Surveys,mpo ekC sE (some m33) a0.read_,rd eChain_truth 12 A12 c13 a0.truths_,gW2]:=S56
  refine p_ext rfl rfl<|wp_nil<|c_seq<|c_false rfl<|c_exit<|c_seq ?_
  obtain ⟨r70,h71,H⟩:=bindS H
  obtain ⟨r72,h73,H⟩:=bindS H
  obtain ⟨r74,h75,H⟩:=bindS H
  obtain ⟨r76,h77,H⟩:=bindS H
  refine reg_k (C:=(bl b22 [I 0,I 0] 23).fp) mixed 12 [10] (by kernel_rfl) rfl ?_
  refine lS rfl (fun _ k_=>p_ldA ty23 sz23 (S56.stX (i:=1) (j:=2) rfl rfl (by decide) k_) rfl rfl dn) ?_
  refine lS rfl (fun _ k_=>p_cvD (chain_low_ok h71) fu100 rfl) ?_
  refine lS rfl (fun _ k_=>p_fieldV ft174_0 ty172 rfl rfl dn) ?_
  refine lS rfl (fun _ k_=>p_ldA ty23 sz23 (S56.stX (i:=1) (j:=2) rfl rfl (by decide) k_) rfl rfl dn) ?_
  refine lS rfl (fun _ k_=>p_cvD (chain_low_1_ok h73) fu107 rfl) ?_
  refine lS rfl (fun _ k_=>p_cvD (chain_high_ok h75) fu99 rfl) ?_
  refine lS rfl (fun _ k_=>p_fieldV ft174_0 ty172 rfl rfl dn) ?_
  refine lS rfl (fun _ k_=>p_ldA ty23 sz23 (S56.stX (i:=1) (j:=2) rfl rfl (by decide) k_) rfl rfl dn) ?_
  refine lS rfl (fun _ k_=>p_cvD (chain_high_1_ok h77) fu106 rfl) ?_
  refine lS rfl (fun _ k_=>p_cmp rfl rfl rfl dn) ?_
  refine lC rfl ?_
  refine lS rfl (fun _ k_=>p_aB rfl dn) ?_
  have S78:=S56.baseQ (j:=2) rfl
  intro w79 k80; have S81:=S78.call k80
  intro w82 k83; have S84:=S81.call k83
  refine p_stP (pre:=[]) (old:=[I 0,I 0]) (post:=[]) (vs:=[I r42.1,I r42.2]) sz23 S84 (i:=0) rfl rfl rfl rfl (rfl:_=AG [I r42.1,I r42.2]) rfl rfl rfl rfl fun w85 S86=>?_
  refine cK0 S86.keep ?_
  intro w87 k88; have S89:=S86.call k88
  have S90:St w nF w87 [bl b22 [I r42.1,I r42.2] 23,bx r40 (itO (κ:=Chain_spot) (ν:=Span) m33 ck35 dn44),bl b27 [I r42.1,I r42.2] 23,bl b19 (sg a1 4) 128,bl b16 [SL A1 a0.ChainBook.Sections.length c2,SL A4 a0.ChainBook.Turns.length c5,SL A7 a0.ChainBook.Surveys.length c8,I a0.ChainBook.Rule,I a0.ChainBook.Days,Value.map (some m33),SL A12 a0.truths_.length c13] 120] [bx m33 (mapO ekC sE es34 ck35),rd eChainSection 4 A1 c2 a0.ChainBook.Sections,rd intE 1 A4 c5 a0.ChainBook.Turns,rd eChainSurvey 4 A7 c8 a0.ChainBook.Surveys,mpo ekC sE (some m33) a0.read_,rd eChain_truth 12 A12 c13 a0.truths_,gW2]:=S56.fromBaseQ (j:=2) rfl S89
  refine wp_nil ?_
  obtain rfl:=sJ H
  refine c_ret ?_; show bodyPostM (Fr none) 0 Tryd.prog Tryd.f97 _ .ret _ _
  refine ret_of (res2 rfl (rvA rfl ty23 sz23 (S90.atX (i:=0) rfl) rfl) (rvT (rfl:_=B (decide (r72≤r76))))) ?_
  exact ⟨_,rfl,rfl,S90.keep⟩
def yE2 (x:Chain_truth):List Value:=[AG (sg x.wears_ 4++sgE eSpan x.first_ 4)]
def chain_book_whole_1_1_l3 {σ:Type} (q0:Chain_book) (q1:Chain_book) (a0:List Int) (s_:σ) (yv:Chain_truth→σ→Option (Bool×σ)) (rec_z_1:(Int×(List Span))→Option (Bool×σ)) (z_1:Int×(List Span)):Option (Bool×σ):=
 bif decide (z_1.1 < (q0.ChainBook.Sections.length:Int)) then ((chain_book_right q1 a0 z_1.1).bind fun r52=>
 bif !r52.2 then (some (true,s_))
 else (need (inI z_1.1 4)<|
 rec_z_1 (wr (z_1.1+1),asetS z_1.2 4 z_1.1 r52.1)))
 else ((yv (Chain_truth.mk a0 z_1.2) s_).bind fun r66=>
 some (r66.1,r66.2))
def chain_book_whole_1_1_l4 {σ:Type} (r80:Int) (r71:ChainSection) (a1:Int) (rec_:(List Int)→Int→σ→Option (Bool×σ)) (rec_z_2:(Int×(List Int)×σ)→Option (Bool×σ)) (z_2:Int×(List Int)×σ):Option (Bool×σ):=
 bif decide (z_2.1 < (wr (r80+1))) then ((chain_low).bind fun r90=>
 (chain_low_1 r71.Wear).bind fun r92=>
 bif decide (z_2.1 < r92) then (rec_z_2 (wr (z_2.1+1),z_2.2.1,z_2.2.2))
 else (need (inI a1 4)<|
 (rec_ (aset z_2.2.1 4 a1 z_2.1) (wr (a1+1)) z_2.2.2).bind fun r101=>
 bif !r101.1 then (some (false,r101.2))
 else (rec_z_2 (wr (z_2.1+1),aset z_2.2.1 4 a1 z_2.1,r101.2))))
 else (some (true,z_2.2.2))
def chain_book_whole_1_1_F {σ:Type} (rec_:(List Int)→Int→σ→Option (Bool×σ)) (a0:List Int) (a1:Int) (s_:σ) (q0:Chain_book) (q1:Chain_book) (yv:Chain_truth→σ→Option (Bool×σ)):Option (Bool×σ):=
 bif (a1==(q0.ChainBook.Sections.length:Int)) then (loopF (chain_book_whole_1_1_l3 q0 q1 a0 s_ yv) big (0,(List.replicate 4 (Span.mk 0 0))))
 else ((getI q0.ChainBook.Sections a1).bind fun r71=>
 (chain_high).bind fun r78=>
 (chain_high_1 r71.Wear).bind fun r80=>
 loopF (chain_book_whole_1_1_l4 r80 r71 a1 rec_) big (0,a0,s_))
def chain_book_whole_1_1 {σ:Type}:Nat→(List Int)→Int→σ→Chain_book→Chain_book→(Chain_truth→σ→Option (Bool×σ))→Option (Bool×σ)
 | 0,_,_,_,_,_,_=>none
 | n+1,a0,a1,s_,q0,q1,yv=>chain_book_whole_1_1_F (fun x0_ x1_ x2_=>chain_book_whole_1_1 n x0_ x1_ x2_ q0 q1 yv) a0 a1 s_ q0 q1 yv
set_option maxRecDepth 100000 in
theorem chain_book_whole_1_1_ok {σ:Type}{l_:Nat}{G_:σ→Asr→Prop}{wb_:World}{C0_:Nat→Prop}{n:Nat}:∀ {A_:Asr}{a0:List Int}{a1:Int}{s_:σ}{q0:Chain_book}{q1:Chain_book}{yv:Chain_truth→σ→Option (Bool×σ)}{b1:Nat}{A5:Option Addr}{c6:Nat}{A8:Option Addr}{c9:Nat}{A11:Option Addr}{c12:Nat}{m14:Option Nat}{A16:Option Addr}{c17:Nat}{b2:Nat}{A20:Option Addr}{c21:Nat}{A23:Option Addr}{c24:Nat}{A26:Option Addr}{c27:Nat}{m29:Option Nat}{A31:Option Addr}{c32:Nat}{b3:Nat}{b4:Nat}{w:World}{r:Bool×σ} (H:chain_book_whole_1_1 n a0 a1 s_ q0 q1 yv=some r) (hG_:(ga G_ s_ A_).ok w) (h36:(bl b4 [vF (.func 98) #[] #[P b1 0,P b2 0,P b3 0,P b4 0]] 171).ok w) (h35:(bl b3 [Value.func (.yield l_) #[] #[]] 169).ok w) (h34:(bl b2 [vF (.func 97) #[AG [SL A20 q1.ChainBook.Sections.length c21,SL A23 q1.ChainBook.Turns.length c24,SL A26 q1.ChainBook.Surveys.length c27,I q1.ChainBook.Rule,I q1.ChainBook.Days,Value.map m29,SL A31 q1.truths_.length c32]] #[]] 170).ok w) (h19:(bl b1 [SL A5 q0.ChainBook.Sections.length c6,SL A8 q0.ChainBook.Turns.length c9,SL A11 q0.ChainBook.Surveys.length c12,I q0.ChainBook.Rule,I q0.ChainBook.Days,Value.map m14,SL A16 q0.truths_.length c17] 120).ok w) (h7:(rd eChainSection 4 A5 c6 q0.ChainBook.Sections).ok w) (h10:(rd intE 1 A8 c9 q0.ChainBook.Turns).ok w) (h13:(rd eChainSurvey 4 A11 c12 q0.ChainBook.Surveys).ok w) (h15:(mpo ekC sE m14 q0.read_).ok w) (h18:(rd eChain_truth 12 A16 c17 q0.truths_).ok w) (h22:(rd eChainSection 4 A20 c21 q1.ChainBook.Sections).ok w) (h25:(rd intE 1 A23 c24 q1.ChainBook.Turns).ok w) (h28:(rd eChainSurvey 4 A26 c27 q1.ChainBook.Surveys).ok w) (h30:(mpo ekC sE m29 q1.read_).ok w) (h33:(rd eChain_truth 12 A31 c32 q1.truths_).ok w) (hg37:(gW2).ok w) (hd_:∀ p∈([bl b4 [vF (.func 98) #[] #[P b1 0,P b2 0,P b3 0,P b4 0]] 171,bl b3 [Value.func (.yield l_) #[] #[]] 169,bl b2 [vF (.func 97) #[AG [SL A20 q1.ChainBook.Sections.length c21,SL A23 q1.ChainBook.Turns.length c24,SL A26 q1.ChainBook.Surveys.length c27,I q1.ChainBook.Rule,I q1.ChainBook.Days,Value.map m29,SL A31 q1.truths_.length c32]] #[]] 170,bl b1 [SL A5 q0.ChainBook.Sections.length c6,SL A8 q0.ChainBook.Turns.length c9,SL A11 q0.ChainBook.Surveys.length c12,I q0.ChainBook.Rule,I q0.ChainBook.Days,Value.map m14,SL A16 q0.truths_.length c17] 120,rd eChainSection 4 A5 c6 q0.ChainBook.Sections,rd intE 1 A8 c9 q0.ChainBook.Turns,rd eChainSurvey 4 A11 c12 q0.ChainBook.Surveys,mpo ekC sE m14 q0.read_,rd eChain_truth 12 A16 c17 q0.truths_,rd eChainSection 4 A20 c21 q1.ChainBook.Sections,rd intE 1 A23 c24 q1.ChainBook.Turns,rd eChainSurvey 4 A26 c27 q1.ChainBook.Surveys,mpo ekC sE m29 q1.read_,rd eChain_truth 12 A31 c32 q1.truths_,gW2]:List Asr),∀ b,p.fp b→¬A_.fp b) (hy_:YH Tryd.prog l_ yE2 yv G_ wb_ C0_) (hl_:Link wb_ C0_ w A_.fp),Calls Tryd.prog 98 #[AG (sg a0 4),I a1,P b1 0,P b2 0,P b3 0,P b4 0] w (fun en w_=>∃ u_,en=.returned u_∧∃ A'_:Asr,u_=B r.1∧Keep A_.fp w w_∧(ga G_ r.2 A'_).ok w_∧(∀ b_,A'_.fp b_→A_.fp b_∨w.heap.size≤b_)):=by
 induction n with
 | zero=>intro A_ a0 a1 s_ q0 q1 yv b1 A5 c6 A8 c9 A11 c12 m14 A16 c17 b2 A20 c21 A23 c24 A26 c27 m29 A31 c32 b3 b4 w r H hG_ h36 h35 h34 h19 h7 h10 h13 h15 h18 h22 h25 h28 h30 h33 hg37 hd_ hy_ hl_; cases H
 | succ n ih=>
 intro A_ a0 a1 s_ q0 q1 yv b1 A5 c6 A8 c9 A11 c12 m14 A16 c17 b2 A20 c21 A23 c24 A26 c27 m29 A31 c32 b3 b4 w r H hG_ h36 h35 h34 h19 h7 h10 h13 h15 h18 h22 h25 h28 h30 h33 hg37 hd_ hy_ hl_
 unfold chain_book_whole_1_1 chain_book_whole_1_1_F at H
 refine fn_of (n:=78) Tryd.func98 rfl rfl (lE rfl) ?_
 have S:St w A_.fp w [ga G_ s_ A_] [bl b4 [vF (.func 98) #[] #[P b1 0,P b2 0,P b3 0,P b4 0]] 171,bl b3 [Value.func (.yield l_) #[] #[]] 169,bl b2 [vF (.func 97) #[AG [SL A20 q1.ChainBook.Sections.length c21,SL A23 q1.ChainBook.Turns.length c24,SL A26 q1.ChainBook.Surveys.length c27,I q1.ChainBook.Rule,I q1.ChainBook.Days,Value.map m29,SL A31 q1.truths_.length c32]] #[]] 170,bl b1 [SL A5 q0.ChainBook.Sections.length c6,SL A8 q0.ChainBook.Turns.length c9,SL A11 q0.ChainBook.Surveys.length c12,I q0.ChainBook.Rule,I q0.ChainBook.Days,Value.map m14,SL A16 q0.truths_.length c17] 120,rd eChainSection 4 A5 c6 q0.ChainBook.Sections,rd intE 1 A8 c9 q0.ChainBook.Turns,rd eChainSurvey 4 A11 c12 q0.ChainBook.Surveys,mpo ekC sE m14 q0.read_,rd eChain_truth 12 A16 c17 q0.truths_,rd eChainSection 4 A20 c21 q1.ChainBook.Sections,rd intE 1 A23 c24 q1.ChainBook.Turns,rd eChainSurvey 4 A26 c27 q1.ChainBook.Surveys,mpo ekC sE m29 q1.read_,rd eChain_truth 12 A31 c32 q1.truths_,gW2]:=St.startX (ga G_ s_ A_) hG_ (cA h36 (cA h35 (cA h34 (cA h19 (cA h7 (cA h10 (cA h13 (cA h15 (cA h18 (cA h22 (cA h25 (cA h28 (cA h30 (cA h33 (cA hg37 nM))))))))))))))) hd_
 refine c_seq<|reg<|p_boxA rfl S fun b38 w39 S40=>p_aB rfl<|wp_nil<|c_scope<|c_seq<|c_seq<|reg<|p_mI rfl<|p_fld fl120_0 rfl<|p_fld fl63_0 rfl<|p_ld ty60 (S40.atP (i:=3) rfl) rfl rfl<|p_len rfl sc60<|p_cmp rfl rfl rfl<|wp_nil ?_
 refine c_cond rfl (fun c41=>?_) (fun c41=>?_)
 ·replace H:=condT c41 H
  refine c_seq<|reg<|p_ldA ty128 sz128 (S40.atX (i:=0) rfl) rfl rfl<|p_bld (cs:=sg a0 4++sgE eSpan (List.replicate 4 (Span.mk 0 0)) 4) st131 (rfl:_=[(0,AG (sg a0 4))]) (by kernel_rfl)<|p_allA in131 S40 fun b42 w43 S44=>?_
  refine p_stP (pre:=[]) (old:=sg (List.replicate 4 0) 4++sgE eSpan (List.replicate 4 (Span.mk 0 0)) 4) (post:=[]) (vs:=sg a0 4++sgE eSpan (List.replicate 4 (Span.mk 0 0)) 4) sz131 S44 (i:=0) rfl rfl rfl rfl (rfl:_=AG (sg a0 4++sgE eSpan (List.replicate 4 (Span.mk 0 0)) 4)) rfl rfl rfl rfl fun w45 S46=>wp_nil<|c_seq<|c_seq<|reg<|p_fld fl120_0 rfl<|p_fld fl63_0 rfl ?_
  refine p_ld ty60 (S46.atP (i:=3) rfl) rfl rfl<|p_len rfl sc60<|p_mI rfl<|wp_nil<|c_block ?_
  refine c_lop (α:=Int×(List Span)) (β:=Unit) (chain_book_whole_1_1_l3 q0 q1 a0 s_ yv) (fun z_1 y_1=>[(3,P b2 0),(4,P b3 0),(6,P b38 0),(9,P b42 0),(26,I (q0.ChainBook.Sections.length:Int)),(27,I z_1.1)]) (fun z_1 y_1 w_=>St w A_.fp w_ [bl b42 (sg a0 4++sgE eSpan z_1.2 4) 131,bl b38 (sg a0 4) 128,ga G_ s_ A_] [bl b4 [vF (.func 98) #[] #[P b1 0,P b2 0,P b3 0,P b4 0]] 171,bl b3 [Value.func (.yield l_) #[] #[]] 169,bl b2 [vF (.func 97) #[AG [SL A20 q1.ChainBook.Sections.length c21,SL A23 q1.ChainBook.Turns.length c24,SL A26 q1.ChainBook.Surveys.length c27,I q1.ChainBook.Rule,I q1.ChainBook.Days,Value.map m29,SL A31 q1.truths_.length c32]] #[]] 170,bl b1 [SL A5 q0.ChainBook.Sections.length c6,SL A8 q0.ChainBook.Turns.length c9,SL A11 q0.ChainBook.Surveys.length c12,I q0.ChainBook.Rule,I q0.ChainBook.Days,Value.map m14,SL A16 q0.truths_.length c17] 120,rd eChainSection 4 A5 c6 q0.ChainBook.Sections,rd intE 1 A8 c9 q0.ChainBook.Turns,rd eChainSurvey 4 A11 c12 q0.ChainBook.Surveys,mpo ekC sE m14 q0.read_,rd eChain_truth 12 A16 c17 q0.truths_,rd eChainSection 4 A20 c21 q1.ChainBook.Sections,rd intE 1 A23 c24 q1.ChainBook.Turns,rd eChainSurvey 4 A26 c27 q1.ChainBook.Surveys,mpo ekC sE m29 q1.read_,rd eChain_truth 12 A31 c32 q1.truths_,gW2]) (0,(List.replicate 4 (Span.mk 0 0))) () H ⟨rfl,rfl,rfl,rfl,rfl,rfl,trivial⟩ S46 ?_
  intro m47 z_1 y_1 e48 w49 H S50
  unfold chain_book_whole_1_1_l3 at H
  refine c_seq<|reg<|p_cmp rfl rfl rfl<|wp_nil<|c_seq ?_
  refine c_cond rfl (fun c51=>?_) (fun c51=>?_)
  ·replace H:=condT c51 H
   refine c_skip<|c_seq<|c_block<|c_seq<|reg<|p_mI rfl<|p_aI rfl<|wp_nil<|c_seq<|reg<|p_ld ty170 (S50.atP (i:=2) rfl) rfl rfl<|p_ldA ty128 sz128 (S50.atX (i:=1) rfl) rfl rfl<|p_mI rfl ?_
   obtain ⟨r52,h53,H⟩:=bindS H
   refine p_cv (chain_book_right_ok h53 (S50.atP (i:=9) rfl) (S50.atP (i:=10) rfl) (S50.atP (i:=11) rfl) (S50.atP (i:=12) rfl) (S50.atP (i:=13) rfl) (S50.atP (i:=14) rfl)) fu97 rfl S50 fun w54 S55=>p_mT rfl<|p_ext rfl rfl<|p_ext rfl rfl<|p_allA in23 S55 fun b56 w57 S58=>?_
   refine p_stP (pre:=[]) (old:=[I 0,I 0]) (post:=[]) (vs:=[I r52.1.Low,I r52.1.High]) sz23 S58 (i:=0) rfl rfl rfl rfl (rfl:_=AG [I r52.1.Low,I r52.1.High]) rfl rfl rfl rfl fun w59 S60=>p_aB rfl<|wp_nil<|c_seq<|c_seq<|reg<|p_mB rfl<|p_not rfl<|wp_nil ?_
   refine c_cond rfl (fun c61=>?_) (fun c61=>?_)
   ·replace H:=condT c61 H
    refine c_seq<|reg<|p_aB rfl<|wp_nil ?_
    obtain rfl:=sJ H
    refine c_ret ?_; show bodyPostM (Fr none) 0 Tryd.prog Tryd.f98 _ .ret _ _
    refine ret_of (res1 rfl (rvT (rfl:_=B true))) ?_
    exact ⟨_,rfl,_,rfl,S60.keep,S60.atX (i:=3) rfl,fun b_ h_=>(S60.own _ (mE (i:=3) rfl) b_ h_).symm⟩
   ·replace H:=condF c61 H
    refine c_skip<|reg<|p_mI rfl<|p_ldA ty23 sz23 (S60.atX (i:=0) rfl) rfl rfl<|p_fld fl131_1 rfl ?_
    obtain ⟨h62,H⟩:=needS H
    refine p_ixD ar129 h62 rfl rfl<|p_stDE (vs:=[]) (pre:=sg a0 4) (post:=[]) (x' :=r52.1) sz23 S60 (i:=1) rfl rfl eSpan_len eSpan_one h62 rfl rfl (rfl:_=AG [I r52.1.Low,I r52.1.High]) rfl fun w63 S64=>wp_nil<|reg<|p_add rfl rfl<|p_mI rfl<|wp_nil ?_
    have S65:=S64.pk [1,2,3] (by decide) [0,1,2,3,4,5,6,7,8,9,10,11,12,13,14] rfl rfl
    exact ⟨(wr (z_1.1+1),asetS z_1.2 4 z_1.1 r52.1),(),_,rfl,⟨rfl,rfl,rfl,rfl,rfl,rfl,trivial⟩,H,S65⟩
  ·replace H:=condF c51 H
   refine c_exit<|c_seq<|reg<|p_ld ty169 (S50.atP (i:=1) rfl) rfl rfl<|p_ldA ty131 sz131 (S50.atX (i:=0) rfl) rfl rfl ?_
   obtain ⟨r66,h67,H⟩:=bindS H
   refine o_yieldG (x:=(Chain_truth.mk a0 z_1.2)) (b:=r66.1) (s2:=r66.2) h67 hy_ hl_ S50 (j:=2) rfl (rfl:_=Value.func (.yield l_) #[] #[]) rfl fun A68 w69 S70=>?_
   refine p_aB rfl<|wp_nil ?_
   obtain rfl:=sJ H
   refine c_ret ?_; show bodyPostM (Fr none) 0 Tryd.prog Tryd.f98 _ .ret _ _
   refine ret_of (res1 rfl (rvT (rfl:_=B r66.1))) ?_
   exact ⟨_,rfl,_,rfl,S70.keep,S70.atX (i:=2) rfl,fun b_ h_=>(S70.own _ (mE (i:=2) rfl) b_ h_).symm⟩
 ·replace H:=condF c41 H
  refine c_skip<|c_seq<|reg<|p_fld fl120_0 rfl<|p_fld fl63_0 rfl<|p_ld ty60 (S40.atP (i:=3) rfl) rfl rfl<|p_mI rfl ?_
  obtain ⟨r71,h72,H⟩:=bindS H
  refine p_ixE sc60 h72 (S40.atP (i:=4) rfl).1 rfl rfl rfl<|p_fldE fl79_1 (sl_here (S40.atP (i:=4) rfl).1 h72) rfl<|p_ldEP (vs:=[I r71.Wear.Low,I r71.Wear.High]) ty23 sz23 rfl h72 (S40.atP (i:=4) rfl).1 rfl rfl<|p_allA in23 S40 fun b73 w74 S75=>?_
  refine p_stP (pre:=[]) (old:=[I 0,I 0]) (post:=[]) (vs:=[I r71.Wear.Low,I r71.Wear.High]) sz23 S75 (i:=0) rfl rfl rfl rfl (rfl:_=AG [I r71.Wear.Low,I r71.Wear.High]) rfl rfl rfl rfl fun w76 S77=>wp_nil<|c_seq<|c_label<|c_seq<|c_seq ?_
  obtain ⟨r78,h79,H⟩:=bindS H
  obtain ⟨r80,h81,H⟩:=bindS H
  refine reg_q mixed 6 (by kernel_rfl) ?_
  refine dS (fun _ k_=>p_cvD (chain_high_ok h79) fu99 rfl)<|dS (fun _ k_=>p_fieldV ft174_0 ty172 rfl rfl dn)<|dS (fun _ k_=>p_ldA ty23 sz23 (aS (S77.atX (i:=0) rfl) k_) rfl rfl dn)<|dS (fun _ k_=>p_cvD (chain_high_1_ok h81) fu106 rfl)<|dS (fun _ k_=>p_add rfl rfl dn)<|dS (fun _ k_=>p_mI rfl dn) ?_
  intro w82 k83; have S84:=S77.call k83
  refine wp_nil<|c_block ?_
  refine c_lop (α:=Int×(List Int)×σ) (β:=Asr) (chain_book_whole_1_1_l4 r80 r71 a1 (fun x0_ x1_ x2_=>chain_book_whole_1_1 n x0_ x1_ x2_ q0 q1 yv)) (fun z_2 y_2=>[(1,I a1),(5,P b4 0),(6,P b38 0),(13,P b73 0),(58,I (wr (r80+1))),(59,I z_2.1)]) (fun z_2 y_2 w_=>St w A_.fp w_ [bl b73 [I r71.Wear.Low,I r71.Wear.High] 23,bl b38 (sg z_2.2.1 4) 128,ga G_ z_2.2.2 y_2] [bl b4 [vF (.func 98) #[] #[P b1 0,P b2 0,P b3 0,P b4 0]] 171,bl b3 [Value.func (.yield l_) #[] #[]] 169,bl b2 [vF (.func 97) #[AG [SL A20 q1.ChainBook.Sections.length c21,SL A23 q1.ChainBook.Turns.length c24,SL A26 q1.ChainBook.Surveys.length c27,I q1.ChainBook.Rule,I q1.ChainBook.Days,Value.map m29,SL A31 q1.truths_.length c32]] #[]] 170,bl b1 [SL A5 q0.ChainBook.Sections.length c6,SL A8 q0.ChainBook.Turns.length c9,SL A11 q0.ChainBook.Surveys.length c12,I q0.ChainBook.Rule,I q0.ChainBook.Days,Value.map m14,SL A16 q0.truths_.length c17] 120,rd eChainSection 4 A5 c6 q0.ChainBook.Sections,rd intE 1 A8 c9 q0.ChainBook.Turns,rd eChainSurvey 4 A11 c12 q0.ChainBook.Surveys,mpo ekC sE m14 q0.read_,rd eChain_truth 12 A16 c17 q0.truths_,rd eChainSection 4 A20 c21 q1.ChainBook.Sections,rd intE 1 A23 c24 q1.ChainBook.Turns,rd eChainSurvey 4 A26 c27 q1.ChainBook.Surveys,mpo ekC sE m29 q1.read_,rd eChain_truth 12 A31 c32 q1.truths_,gW2]) (0,a0,s_) A_ H ⟨rfl,rfl,rfl,rfl,rfl,rfl,trivial⟩ S84 ?_
  intro m85 z_2 y_2 e86 w87 H S88
  unfold chain_book_whole_1_1_l4 at H
  refine c_seq<|reg<|p_cmp rfl rfl rfl<|wp_nil<|c_seq ?_
  refine c_cond rfl (fun c89=>?_) (fun c89=>?_)
  ·replace H:=condT c89 H
   refine c_skip<|c_seq<|c_block<|c_seq<|reg<|p_mI rfl<|p_aI rfl<|wp_nil<|c_seq<|c_seq ?_
   obtain ⟨r90,h91,H⟩:=bindS H
   obtain ⟨r92,h93,H⟩:=bindS H
   refine reg_q mixed 6 (by kernel_rfl) ?_
   refine dS (fun _ k_=>p_mI rfl dn)<|dS (fun _ k_=>p_cvD (chain_low_ok h91) fu100 rfl)<|dS (fun _ k_=>p_fieldV ft174_0 ty172 rfl rfl dn)<|dS (fun _ k_=>p_ldA ty23 sz23 (aS (S88.atX (i:=0) rfl) k_) rfl rfl dn)<|dS (fun _ k_=>p_cvD (chain_low_1_ok h93) fu107 rfl)<|dS (fun _ k_=>p_cmp rfl rfl rfl dn) ?_
   intro w94 k95; have S96:=S88.call k95
   refine wp_nil ?_
   refine c_cond rfl (fun c97=>?_) (fun c97=>?_)
   ·replace H:=condT c97 H
    refine c_exit<|reg<|p_add rfl rfl<|p_mI rfl<|wp_nil ?_
    exact ⟨(wr (z_2.1+1),z_2.2.1,z_2.2.2),y_2,_,rfl,⟨rfl,rfl,rfl,rfl,rfl,rfl,trivial⟩,H,S96⟩
   ·replace H:=condF c97 H
    refine c_skip<|c_seq<|reg<|p_mI rfl<|p_mI rfl ?_
    obtain ⟨h98,H⟩:=needS H
    refine p_ixD ar128 h98 rfl rfl<|p_stD (pre:=[]) (post:=[]) sz3 S96 (i:=1) rfl rfl h98 rfl rfl rfl fun w99 S100=>wp_nil<|c_seq<|reg<|p_ld ty171 (S100.atP (i:=0) rfl) rfl rfl<|p_ldA ty128 sz128 (S100.atX (i:=1) rfl) rfl rfl<|p_mI rfl<|p_add rfl rfl ?_
    obtain ⟨r101,h102,H⟩:=bindS H
    refine p_cal (ih h102 (S100.atX (i:=2) rfl) (S100.atP (i:=0) rfl) (S100.atP (i:=1) rfl) (S100.atP (i:=2) rfl) (S100.atP (i:=3) rfl) (S100.atP (i:=4) rfl) (S100.atP (i:=5) rfl) (S100.atP (i:=6) rfl) (S100.atP (i:=7) rfl) (S100.atP (i:=8) rfl) (S100.atP (i:=9) rfl) (S100.atP (i:=10) rfl) (S100.atP (i:=11) rfl) (S100.atP (i:=12) rfl) (S100.atP (i:=13) rfl) (S100.atP (i:=14) rfl) (cA (fun b_ h1_ h2_=>((fp_mem (i:=0) rfl) b_ h1_).elim fun q_ hq_=>(S100.apart (j:=2) rfl (fun _ h_=>h_)) q_ hq_.1 b_ hq_.2 h2_) (cA (fun b_ h1_ h2_=>((fp_mem (i:=1) rfl) b_ h1_).elim fun q_ hq_=>(S100.apart (j:=2) rfl (fun _ h_=>h_)) q_ hq_.1 b_ hq_.2 h2_) (cA (fun b_ h1_ h2_=>((fp_mem (i:=2) rfl) b_ h1_).elim fun q_ hq_=>(S100.apart (j:=2) rfl (fun _ h_=>h_)) q_ hq_.1 b_ hq_.2 h2_) (cA (fun b_ h1_ h2_=>((fp_mem (i:=3) rfl) b_ h1_).elim fun q_ hq_=>(S100.apart (j:=2) rfl (fun _ h_=>h_)) q_ hq_.1 b_ hq_.2 h2_) (cA (fun b_ h1_ h2_=>((fp_mem (i:=4) rfl) b_ h1_).elim fun q_ hq_=>(S100.apart (j:=2) rfl (fun _ h_=>h_)) q_ hq_.1 b_ hq_.2 h2_) (cA (fun b_ h1_ h2_=>((fp_mem (i:=5) rfl) b_ h1_).elim fun q_ hq_=>(S100.apart (j:=2) rfl (fun _ h_=>h_)) q_ hq_.1 b_ hq_.2 h2_) (cA (fun b_ h1_ h2_=>((fp_mem (i:=6) rfl) b_ h1_).elim fun q_ hq_=>(S100.apart (j:=2) rfl (fun _ h_=>h_)) q_ hq_.1 b_ hq_.2 h2_) (cA (fun b_ h1_ h2_=>((fp_mem (i:=7) rfl) b_ h1_).elim fun q_ hq_=>(S100.apart (j:=2) rfl (fun _ h_=>h_)) q_ hq_.1 b_ hq_.2 h2_) (cA (fun b_ h1_ h2_=>((fp_mem (i:=8) rfl) b_ h1_).elim fun q_ hq_=>(S100.apart (j:=2) rfl (fun _ h_=>h_)) q_ hq_.1 b_ hq_.2 h2_) (cA (fun b_ h1_ h2_=>((fp_mem (i:=9) rfl) b_ h1_).elim fun q_ hq_=>(S100.apart (j:=2) rfl (fun _ h_=>h_)) q_ hq_.1 b_ hq_.2 h2_) (cA (fun b_ h1_ h2_=>((fp_mem (i:=10) rfl) b_ h1_).elim fun q_ hq_=>(S100.apart (j:=2) rfl (fun _ h_=>h_)) q_ hq_.1 b_ hq_.2 h2_) (cA (fun b_ h1_ h2_=>((fp_mem (i:=11) rfl) b_ h1_).elim fun q_ hq_=>(S100.apart (j:=2) rfl (fun _ h_=>h_)) q_ hq_.1 b_ hq_.2 h2_) (cA (fun b_ h1_ h2_=>((fp_mem (i:=12) rfl) b_ h1_).elim fun q_ hq_=>(S100.apart (j:=2) rfl (fun _ h_=>h_)) q_ hq_.1 b_ hq_.2 h2_) (cA (fun b_ h1_ h2_=>((fp_mem (i:=13) rfl) b_ h1_).elim fun q_ hq_=>(S100.apart (j:=2) rfl (fun _ h_=>h_)) q_ hq_.1 b_ hq_.2 h2_) (cA (fun b_ h1_ h2_=>((fp_mem (i:=14) rfl) b_ h1_).elim fun q_ hq_=>(S100.apart (j:=2) rfl (fun _ h_=>h_)) q_ hq_.1 b_ hq_.2 h2_) nM))))))))))))))) hy_ (S100.link (j:=2) rfl hl_)) fu98 rfl ?_
    rintro _ w103 ⟨A105,rfl,k104,o106,f107⟩
    have S108:=S100.itCall (j:=2) rfl k104 o106 f107
    refine p_not rfl<|wp_nil ?_
    refine c_cond rfl (fun c109=>?_) (fun c109=>?_)
    ·replace H:=condT c109 H
     refine c_seq<|reg<|p_aB rfl<|wp_nil ?_
     obtain rfl:=sJ H
     refine c_ret ?_; show bodyPostM (Fr none) 0 Tryd.prog Tryd.f98 _ .ret _ _
     refine ret_of (res1 rfl (rvT (rfl:_=B false))) ?_
     exact ⟨_,rfl,_,rfl,S108.keep,S108.atX (i:=2) rfl,fun b_ h_=>(S108.own _ (mE (i:=2) rfl) b_ h_).symm⟩
    ·replace H:=condF c109 H
     refine c_skip<|reg<|p_add rfl rfl<|p_mI rfl<|wp_nil ?_
     exact ⟨(wr (z_2.1+1),aset z_2.2.1 4 a1 z_2.1,r101.2),A105,_,rfl,⟨rfl,rfl,rfl,rfl,rfl,rfl,trivial⟩,H,S108⟩
  ·replace H:=condF c89 H
   refine c_exit<|c_seq<|reg<|p_aB rfl<|wp_nil ?_
   obtain rfl:=sJ H
   refine c_ret ?_; show bodyPostM (Fr none) 0 Tryd.prog Tryd.f98 _ .ret _ _
   refine ret_of (res1 rfl (rvT (rfl:_=B true))) ?_
   exact ⟨_,rfl,_,rfl,S88.keep,S88.atX (i:=2) rfl,fun b_ h_=>(S88.own _ (mE (i:=2) rfl) b_ h_).symm⟩
def chain_book_whole_1 {σ:Type} (s_:σ) (q0:Chain_book) (yv:Chain_truth→σ→Option (Bool×σ)):Option σ:=
 (chain_unworn).bind fun r31=>
 (chain_book_whole_1_1 big r31 0 s_ q0 q0 yv).bind fun r39=>
 some r39.2
set_option maxRecDepth 100000 in
theorem chain_book_whole_1_ok {σ:Type}{l_:Nat}{G_:σ→Asr→Prop}{A_:Asr}{wb_:World}{C0_:Nat→Prop}{s_:σ}{q0:Chain_book}{yv:Chain_truth→σ→Option (Bool×σ)}{b1:Nat}{A2:Option Addr}{c3:Nat}{A5:Option Addr}{c6:Nat}{A8:Option Addr}{c9:Nat}{m11:Option Nat}{A13:Option Addr}{c14:Nat}{w:World}{r:σ} (H:chain_book_whole_1 s_ q0 yv=some r) (hG_:(ga G_ s_ A_).ok w) (h16:(bl b1 [SL A2 q0.ChainBook.Sections.length c3,SL A5 q0.ChainBook.Turns.length c6,SL A8 q0.ChainBook.Surveys.length c9,I q0.ChainBook.Rule,I q0.ChainBook.Days,Value.map m11,SL A13 q0.truths_.length c14] 120).ok w) (h4:(rd eChainSection 4 A2 c3 q0.ChainBook.Sections).ok w) (h7:(rd intE 1 A5 c6 q0.ChainBook.Turns).ok w) (h10:(rd eChainSurvey 4 A8 c9 q0.ChainBook.Surveys).ok w) (h12:(mpo ekC sE m11 q0.read_).ok w) (h15:(rd eChain_truth 12 A13 c14 q0.truths_).ok w) (hg17:(gW2).ok w) (hd_:∀ p∈([bl b1 [SL A2 q0.ChainBook.Sections.length c3,SL A5 q0.ChainBook.Turns.length c6,SL A8 q0.ChainBook.Surveys.length c9,I q0.ChainBook.Rule,I q0.ChainBook.Days,Value.map m11,SL A13 q0.truths_.length c14] 120,rd eChainSection 4 A2 c3 q0.ChainBook.Sections,rd intE 1 A5 c6 q0.ChainBook.Turns,rd eChainSurvey 4 A8 c9 q0.ChainBook.Surveys,mpo ekC sE m11 q0.read_,rd eChain_truth 12 A13 c14 q0.truths_,gW2]:List Asr),∀ b,p.fp b→¬A_.fp b) (hy_:YH Tryd.prog l_ yE2 yv G_ wb_ C0_) (hl_:Link wb_ C0_ w A_.fp):Calls Tryd.prog 96 #[Value.func (.yield l_) #[] #[],P b1 0] w (fun en w_=>∃ u_,en=.returned u_∧∃ A'_:Asr,u_=TU []∧Keep A_.fp w w_∧(ga G_ r A'_).ok w_∧(∀ b_,A'_.fp b_→A_.fp b_∨w.heap.size≤b_)):=by
 unfold chain_book_whole_1 at H
 refine fn_of (n:=11) Tryd.func96 rfl rfl (lE rfl) ?_
 have S:St w A_.fp w [ga G_ s_ A_] [bl b1 [SL A2 q0.ChainBook.Sections.length c3,SL A5 q0.ChainBook.Turns.length c6,SL A8 q0.ChainBook.Surveys.length c9,I q0.ChainBook.Rule,I q0.ChainBook.Days,Value.map m11,SL A13 q0.truths_.length c14] 120,rd eChainSection 4 A2 c3 q0.ChainBook.Sections,rd intE 1 A5 c6 q0.ChainBook.Turns,rd eChainSurvey 4 A8 c9 q0.ChainBook.Surveys,mpo ekC sE m11 q0.read_,rd eChain_truth 12 A13 c14 q0.truths_,gW2]:=St.startX (ga G_ s_ A_) hG_ (cA h16 (cA h4 (cA h7 (cA h10 (cA h12 (cA h15 (cA hg17 nM))))))) hd_
 refine c_seq<|reg<|p_box (rfl:_=Value.func (.yield l_) #[] #[]) rfl S fun b18 w19 S20=>wp_nil<|c_seq<|reg<|p_ldA ty120 sz120 (S20.atP (i:=0) rfl) rfl rfl ?_
 refine o_fun (rfl:_=[AG [SL A2 q0.ChainBook.Sections.length c3,SL A5 q0.ChainBook.Turns.length c6,SL A8 q0.ChainBook.Surveys.length c9,I q0.ChainBook.Rule,I q0.ChainBook.Days,Value.map m11,SL A13 q0.truths_.length c14]]) (rfl:_=[]) ?_
 refine p_all in170 rfl S20 fun b21 w22 S23=>p_st sz170 S23 (i:=0) rfl rfl (rfl:_=vF (.func 97) #[AG [SL A2 q0.ChainBook.Sections.length c3,SL A5 q0.ChainBook.Turns.length c6,SL A8 q0.ChainBook.Surveys.length c9,I q0.ChainBook.Rule,I q0.ChainBook.Days,Value.map m11,SL A13 q0.truths_.length c14]] #[]) rfl rfl fun w24 S25=>wp_nil<|c_seq<|reg<|p_all in171 rfl S25 fun b26 w27 S28=>wp_nil<|c_seq ?_
 refine reg ?_
 refine o_fun (rfl:_=[]) (rfl:_=[P b1 0,P b21 0,P b18 0,P b26 0]) ?_
 refine p_st sz171 S28 (i:=0) rfl rfl (rfl:_=vF (.func 98) #[] #[P b1 0,P b21 0,P b18 0,P b26 0]) rfl rfl fun w29 S30=>wp_nil ?_
 obtain ⟨r31,h32,H⟩:=bindS H
 refine reg_q mixed 2 (by kernel_rfl) ?_
 refine dS (fun _ k_=>p_ld ty171 (aS (S30.atX (i:=0) rfl) k_) rfl rfl dn)<|dS (fun _ k_=>p_cvD (chain_unworn_ok h32) fu101 rfl) ?_
 intro w33 k34; have S35:=S30.call k34
 have S36:=S35.fix (i:=1) rfl
 have S37:=S36.fix (i:=1) rfl
 have S38:=S37.fix (i:=0) rfl
 obtain ⟨r39,h40,H⟩:=bindS H
 refine p_cal (chain_book_whole_1_1_ok h40 (S38.atX (i:=0) rfl) (S38.atP (i:=0) rfl) (S38.atP (i:=1) rfl) (S38.atP (i:=2) rfl) (S38.atP (i:=3) rfl) (S38.atP (i:=4) rfl) (S38.atP (i:=5) rfl) (S38.atP (i:=6) rfl) (S38.atP (i:=7) rfl) (S38.atP (i:=8) rfl) (S38.atP (i:=4) rfl) (S38.atP (i:=5) rfl) (S38.atP (i:=6) rfl) (S38.atP (i:=7) rfl) (S38.atP (i:=8) rfl) (S38.atP (i:=9) rfl) (cA (fun b_ h1_ h2_=>((fp_mem (i:=0) rfl) b_ h1_).elim fun q_ hq_=>(S38.apart (j:=0) rfl (fun _ h_=>h_)) q_ hq_.1 b_ hq_.2 h2_) (cA (fun b_ h1_ h2_=>((fp_mem (i:=1) rfl) b_ h1_).elim fun q_ hq_=>(S38.apart (j:=0) rfl (fun _ h_=>h_)) q_ hq_.1 b_ hq_.2 h2_) (cA (fun b_ h1_ h2_=>((fp_mem (i:=2) rfl) b_ h1_).elim fun q_ hq_=>(S38.apart (j:=0) rfl (fun _ h_=>h_)) q_ hq_.1 b_ hq_.2 h2_) (cA (fun b_ h1_ h2_=>((fp_mem (i:=3) rfl) b_ h1_).elim fun q_ hq_=>(S38.apart (j:=0) rfl (fun _ h_=>h_)) q_ hq_.1 b_ hq_.2 h2_) (cA (fun b_ h1_ h2_=>((fp_mem (i:=4) rfl) b_ h1_).elim fun q_ hq_=>(S38.apart (j:=0) rfl (fun _ h_=>h_)) q_ hq_.1 b_ hq_.2 h2_) (cA (fun b_ h1_ h2_=>((fp_mem (i:=5) rfl) b_ h1_).elim fun q_ hq_=>(S38.apart (j:=0) rfl (fun _ h_=>h_)) q_ hq_.1 b_ hq_.2 h2_) (cA (fun b_ h1_ h2_=>((fp_mem (i:=6) rfl) b_ h1_).elim fun q_ hq_=>(S38.apart (j:=0) rfl (fun _ h_=>h_)) q_ hq_.1 b_ hq_.2 h2_) (cA (fun b_ h1_ h2_=>((fp_mem (i:=7) rfl) b_ h1_).elim fun q_ hq_=>(S38.apart (j:=0) rfl (fun _ h_=>h_)) q_ hq_.1 b_ hq_.2 h2_) (cA (fun b_ h1_ h2_=>((fp_mem (i:=8) rfl) b_ h1_).elim fun q_ hq_=>(S38.apart (j:=0) rfl (fun _ h_=>h_)) q_ hq_.1 b_ hq_.2 h2_) (cA (fun b_ h1_ h2_=>((fp_mem (i:=4) rfl) b_ h1_).elim fun q_ hq_=>(S38.apart (j:=0) rfl (fun _ h_=>h_)) q_ hq_.1 b_ hq_.2 h2_) (cA (fun b_ h1_ h2_=>((fp_mem (i:=5) rfl) b_ h1_).elim fun q_ hq_=>(S38.apart (j:=0) rfl (fun _ h_=>h_)) q_ hq_.1 b_ hq_.2 h2_) (cA (fun b_ h1_ h2_=>((fp_mem (i:=6) rfl) b_ h1_).elim fun q_ hq_=>(S38.apart (j:=0) rfl (fun _ h_=>h_)) q_ hq_.1 b_ hq_.2 h2_) (cA (fun b_ h1_ h2_=>((fp_mem (i:=7) rfl) b_ h1_).elim fun q_ hq_=>(S38.apart (j:=0) rfl (fun _ h_=>h_)) q_ hq_.1 b_ hq_.2 h2_) (cA (fun b_ h1_ h2_=>((fp_mem (i:=8) rfl) b_ h1_).elim fun q_ hq_=>(S38.apart (j:=0) rfl (fun _ h_=>h_)) q_ hq_.1 b_ hq_.2 h2_) (cA (fun b_ h1_ h2_=>((fp_mem (i:=9) rfl) b_ h1_).elim fun q_ hq_=>(S38.apart (j:=0) rfl (fun _ h_=>h_)) q_ hq_.1 b_ hq_.2 h2_) nM))))))))))))))) hy_ (S38.link (j:=0) rfl hl_)) fu98 rfl ?_
 rintro _ w41 ⟨A43,rfl,k42,o44,f45⟩
 have S46:=S38.itCall (j:=0) rfl k42 o44 f45
 refine wp_nil ?_
 obtain rfl:=sJ H
 show bodyPostM (Fr none) 0 Tryd.prog Tryd.f96 _ .normal _ _
 refine end_of (res0 rfl) ?_
 exact ⟨_,rfl,_,rfl,S46.keep,S46.atX (i:=0) rfl,fun b_ h_=>(S46.own _ (mE (i:=0) rfl) b_ h_).symm⟩
def chain_book_whole (a0:Chain_book):Option Unit:=
 some ()
set_option maxRecDepth 100000 in
theorem chain_book_whole_ok {a0:Chain_book}{A1:Option Addr}{c2:Nat}{A4:Option Addr}{c5:Nat}{A7:Option Addr}{c8:Nat}{m10:Option Nat}{A12:Option Addr}{c13:Nat}{w:World}{r:Unit} (H:chain_book_whole a0=some r) (h3:(rd eChainSection 4 A1 c2 a0.ChainBook.Sections).ok w) (h6:(rd intE 1 A4 c5 a0.ChainBook.Turns).ok w) (h9:(rd eChainSurvey 4 A7 c8 a0.ChainBook.Surveys).ok w) (h11:(mpo ekC sE m10 a0.read_).ok w) (h14:(rd eChain_truth 12 A12 c13 a0.truths_).ok w) (hg15:(gW2).ok w):Calls Tryd.prog 81 #[AG [SL A1 a0.ChainBook.Sections.length c2,SL A4 a0.ChainBook.Turns.length c5,SL A7 a0.ChainBook.Surveys.length c8,I a0.ChainBook.Rule,I a0.ChainBook.Days,Value.map m10,SL A12 a0.truths_.length c13]] w fun en w_=>∃ u_,en=.returned u_∧∃ b_1:Nat,u_=vF (.func 96) #[] #[P b_1 0]∧Keep0 w w_∧((bl b_1 [SL A1 a0.ChainBook.Sections.length c2,SL A4 a0.ChainBook.Turns.length c5,SL A7 a0.ChainBook.Surveys.length c8,I a0.ChainBook.Rule,I a0.ChainBook.Days,Value.map m10,SL A12 a0.truths_.length c13] 120).ok w_∧New w.heap.size (bl b_1 [SL A1 a0.ChainBook.Sections.length c2,SL A4 a0.ChainBook.Turns.length c5,SL A7 a0.ChainBook.Surveys.length c8,I a0.ChainBook.Rule,I a0.ChainBook.Days,Value.map m10,SL A12 a0.truths_.length c13] 120))∧True:=by
 unfold chain_book_whole at H
 refine fn_of (n:=4) Tryd.func81 rfl rfl (lE rfl) ?_
 have S:=St.start w nF _ (cA h3 (cA h6 (cA h9 (cA h11 (cA h14 (cA hg15 nM))))))
 refine c_seq<|reg<|p_boxA rfl S fun b16 w17 S18=>p_asg (rfl:_=Value.nilFunc)<|wp_nil<|c_seq<|reg ?_
 refine o_fun (rfl:_=[]) (rfl:_=[P b16 0]) ?_
 refine p_asg (rfl:_=vF (.func 96) #[] #[P b16 0])<|wp_nil ?_
 obtain rfl:=sJ H
 refine c_ret ?_; show bodyPostM (Fr none) 0 Tryd.prog Tryd.f81 _ .ret _ _
 refine ret_of (res1 rfl (rvT (rfl:_=vF (.func 96) #[] #[P b16 0]))) ?_
 exact ⟨_,rfl,b16,rfl,S18.keep,⟨S18.atX (i:=0) rfl,S18.newX (i:=0) rfl⟩,trivial⟩
def chain_opened_j39 (rec_z_1:(Int×(List (Chain_spot×Span)))→Option Chain_book) (z_1:Int×(List (Chain_spot×Span))) (r68:ChainSurvey) (z_3:Int×Int):Option Chain_book:=
 rec_z_1 (wr (z_1.1+1),putL z_1.2 (Chain_spot.mk r68.Section r68.Day) (Span.mk z_3.1 z_3.2))
def chain_opened_j40 (r68:ChainSurvey) (rec_z_1:(Int×(List (Chain_spot×Span)))→Option Chain_book) (z_1:Int×(List (Chain_spot×Span))) (z_2:Int×Int×Bool):Option Chain_book:=
 bif z_2.2.2 then ((chain_both (Span.mk z_2.1 z_2.2.1) (Span.mk (wr (r68.Read - r68.Error)) (wr (r68.Read+r68.Error)))).bind fun r119=>
 chain_opened_j39 rec_z_1 z_1 r68 (r119.Low,r119.High))
 else (chain_opened_j39 rec_z_1 z_1 r68 (wr (r68.Read - r68.Error),wr (r68.Read+r68.Error)))
def chain_opened_r41 (x_4:Chain_truth) (z_4:(List Chain_truth)):Option (Bool×Nat×(List Chain_truth)):=
 need (fitsL (z_4.length+([x_4]:List Chain_truth).length) 96)<|
 some (true,0,z_4++([x_4]:List Chain_truth))
def chain_opened_l42 (a0:ChainBook) (a1:List Int) (rec_z_1:(Int×(List (Chain_spot×Span)))→Option Chain_book) (z_1:Int×(List (Chain_spot×Span))):Option Chain_book:=
 bif decide (z_1.1 < (a0.Surveys.length:Int)) then ((getI a0.Surveys z_1.1).bind fun r68=>
 (sl_Contains_int_int a1 z_1.1).bind fun r75=>
 bif r75 then (rec_z_1 (wr (z_1.1+1),z_1.2))
 else (optC (lookL z_1.2 (Chain_spot.mk r68.Section r68.Day)) (fun v115=>chain_opened_j40 r68 rec_z_1 z_1 (v115.Low,v115.High,true)) (chain_opened_j40 r68 rec_z_1 z_1 (0,0,false))))
 else ((chain_book_whole (Chain_book.mk a0 z_1.2 ([]:List Chain_truth))).bind fun r127=>
 (chain_book_whole_1 (0,([]:List Chain_truth)) (Chain_book.mk a0 z_1.2 ([]:List Chain_truth)) (yvOf (chain_opened_r41))).bind fun r139=>
 some (Chain_book.mk a0 z_1.2 r139.2))
def chain_opened (a0:ChainBook) (a1:List Int):Option Chain_book:=
 loopF (chain_opened_l42 a0 a1) big (0,putL ([]:List (Chain_spot×Span)) (Chain_spot.mk (-1) (-1)) (Span.mk 0 0))
set_option maxRecDepth 100000 in
theorem chain_opened_ok {a0:ChainBook}{a1:List Int}{A1:Option Addr}{c2:Nat}{A4:Option Addr}{c5:Nat}{A7:Option Addr}{c8:Nat}{A10:Option Addr}{c11:Nat}{w:World}{r:Chain_book} (H:chain_opened a0 a1=some r) (h3:(rd eChainSection 4 A1 c2 a0.Sections).ok w) (h6:(rd intE 1 A4 c5 a0.Turns).ok w) (h9:(rd eChainSurvey 4 A7 c8 a0.Surveys).ok w) (h12:(rd intE 1 A10 c11 a1).ok w) (hg13:(gW2).ok w):Calls Tryd.prog 55 #[AG [SL A1 a0.Sections.length c2,SL A4 a0.Turns.length c5,SL A7 a0.Surveys.length c8,I a0.Rule,I a0.Days],SL A10 a1.length c11] w fun en w_=>∃ u_,en=.returned u_∧∃ m_1:Nat,∃ A_2:Option Addr,∃ c_3:Nat,u_=AG [SL A1 a0.Sections.length c2,SL A4 a0.Turns.length c5,SL A7 a0.Surveys.length c8,I r.ChainBook.Rule,I r.ChainBook.Days,Value.map (some m_1),SL A_2 r.truths_.length c_3]∧Keep0 w w_∧((mp ekC sE m_1 r.read_).ok w_∧New w.heap.size (mp ekC sE m_1 r.read_))∧((rd eChain_truth 12 A_2 c_3 r.truths_).ok w_∧New w.heap.size (rd eChain_truth 12 A_2 c_3 r.truths_))∧True:=by
 unfold chain_opened at H
 refine fn_of (n:=72) Tryd.func55 rfl rfl (lE rfl) ?_
 have S:=St.start w nF _ (cA h3 (cA h6 (cA h9 (cA h12 (cA hg13 nM)))))
 refine c_seq<|reg<|p_boxA rfl S fun b14 w15 S16=>p_allA in120 S16 fun b17 w18 S19=>wp_nil<|c_seq ?_
 have S20:St w nF w18 (([]++[])++[bl b17 [SL none 0 0,SL none 0 0,SL none 0 0,I 0,I 0,Value.map none,SL none 0 0] 120,bl b14 [SL A1 a0.Sections.length c2,SL A4 a0.Turns.length c5,SL A7 a0.Surveys.length c8,I a0.Rule,I a0.Days] 63]) [rd eChainSection 4 A1 c2 a0.Sections,rd intE 1 A4 c5 a0.Turns,rd eChainSurvey 4 A7 c8 a0.Surveys,rd intE 1 A10 c11 a1,gW2]:=S19.pk [0,1] (by decide) [0,1,2,3,4] rfl rfl
 refine reg_two mixed 8 [1,4,5,6] [7] [] [] (fun ec_ X_=>∃ m24:Nat,Has ec_ [(14,Value.map (some m24)),(17,Value.map (some m24)),(18,AG [SL A1 a0.Sections.length c2,SL A4 a0.Turns.length c5,SL A7 a0.Surveys.length c8,I a0.Rule,I a0.Days,Value.map (some m24),SL none 0 0])]∧X_=[mp ekC sE m24 (putL ([]:List (Chain_spot×Span)) (Chain_spot.mk (-1) (-1)) (Span.mk 0 0))]) (fun ec_ X_=>∃ b44:Nat,Has ec_ [(5,P b44 0)]∧X_=[bl b44 [SL none 0 0,SL none 0 0,SL none 0 0,I 0,I 0,Value.map none,SL none 0 0] 120]) (by kernel_rfl) rfl rfl (St.baseX S20) ?_
 refine lS rfl (fun _ k_=>p_ldA ty63 sz63 (S20.stR (i:=1) rfl k_) rfl rfl dn) ?_
 refine lC rfl ?_
 refine lS rfl (fun _ k_=>p_ldA ty155 sz155 (S20.stL (i:=4) rfl k_) rfl rfl dn) ?_
 refine lS rfl (fun _ k_=>p_bld (cs:=[I 0,I 0]) st23 (rfl:_=[]) (by kernel_rfl) dn) ?_
 refine lC rfl ?_
 refine lC rfl ?_
 refine lC rfl ?_
 refine lC rfl ?_
 refine ⟨?_,?_,?_⟩
 ·intro w21 R22 S23
  refine o_mkmap S23 ekC sE fun m24 w25 _ S26=>?_
  refine cH (X:=[mp ekC sE m24 ([]:List (Chain_spot×Span))]) S26 ?_
  intro w27 R28 S29
  refine o_ins (a:=(Chain_spot.mk (-1) (-1))) (v:=(Span.mk 0 0)) rfl rfl rfl mt117 keyC S29 (i:=0) rfl fun w30 S31=>?_
  refine cH0 (X:=[mp ekC sE m24 (putL ([]:List (Chain_spot×Span)) (Chain_spot.mk (-1) (-1)) (Span.mk 0 0))]) S31 ?_
  intro w32 R33 S34
  refine p_mov (rfl:_=Value.map (some m24)) ?_
  refine cH (X:=[mp ekC sE m24 (putL ([]:List (Chain_spot×Span)) (Chain_spot.mk (-1) (-1)) (Span.mk 0 0))]) S34 ?_
  intro w35 R36 S37
  refine p_bld (cs:=[SL A1 a0.Sections.length c2,SL A4 a0.Turns.length c5,SL A7 a0.Surveys.length c8,I a0.Rule,I a0.Days,Value.map (some m24),SL none 0 0]) st120 (rfl:_=[(0,AG [SL A1 a0.Sections.length c2,SL A4 a0.Turns.length c5,SL A7 a0.Surveys.length c8,I a0.Rule,I a0.Days]),(1,Value.map (some m24))]) (by kernel_rfl) ?_
  refine cH (X:=[mp ekC sE m24 (putL ([]:List (Chain_spot×Span)) (Chain_spot.mk (-1) (-1)) (Span.mk 0 0))]) S37 ?_
  exact chEnd ⟨m24,⟨rfl,rfl,rfl,trivial⟩,rfl⟩
 ·intro w41 R42 S43
  refine p_allA in120 S43 fun b44 w45 S46=>?_
  refine cH (X:=[bl b44 [SL none 0 0,SL none 0 0,SL none 0 0,I 0,I 0,Value.map none,SL none 0 0] 120]) S46 ?_
  exact chEnd ⟨b44,⟨rfl,trivial⟩,rfl⟩
 rintro e48 X49 e50 X51 ⟨m24,⟨q38,q39,q40,_⟩,rfl⟩ ⟨b44,⟨q47,_⟩,rfl⟩ e52 w53 f54 f55 f56 S57
 have S58:St w nF w53 [mp ekC sE m24 (putL ([]:List (Chain_spot×Span)) (Chain_spot.mk (-1) (-1)) (Span.mk 0 0)),bl b44 [SL none 0 0,SL none 0 0,SL none 0 0,I 0,I 0,Value.map none,SL none 0 0] 120,bl b17 [SL none 0 0,SL none 0 0,SL none 0 0,I 0,I 0,Value.map none,SL none 0 0] 120,bl b14 [SL A1 a0.Sections.length c2,SL A4 a0.Turns.length c5,SL A7 a0.Surveys.length c8,I a0.Rule,I a0.Days] 63] [rd eChainSection 4 A1 c2 a0.Sections,rd intE 1 A4 c5 a0.Turns,rd eChainSurvey 4 A7 c8 a0.Surveys,rd intE 1 A10 c11 a1,gW2]:=St.fromBaseX S20 S57
 refine tailE [(1,SL A10 a1.length c11),(2,P b14 0),(4,P b17 0),(5,P b44 0),(18,AG [SL A1 a0.Sections.length c2,SL A4 a0.Turns.length c5,SL A7 a0.Surveys.length c8,I a0.Rule,I a0.Days,Value.map (some m24),SL none 0 0])] ⟨((f56 1 rfl rfl).trans (rfl:_=SL A10 a1.length c11)),((f56 2 rfl rfl).trans (rfl:_=P b14 0)),((f56 4 rfl rfl).trans (rfl:_=P b17 0)),((f55 5 rfl).trans q47),((f54 18 rfl).trans q40),trivial⟩ ?_
 intro g59
 refine p_stP (pre:=[]) (old:=[SL none 0 0,SL none 0 0,SL none 0 0,I 0,I 0,Value.map none,SL none 0 0]) (post:=[]) (vs:=[SL A1 a0.Sections.length c2,SL A4 a0.Turns.length c5,SL A7 a0.Surveys.length c8,I a0.Rule,I a0.Days,Value.map (some m24),SL none 0 0]) sz120 S58 (i:=1) rfl rfl rfl rfl (rfl:_=AG [SL A1 a0.Sections.length c2,SL A4 a0.Turns.length c5,SL A7 a0.Surveys.length c8,I a0.Rule,I a0.Days,Value.map (some m24),SL none 0 0]) rfl rfl rfl rfl fun w60 S61=>?_
 refine wp_nil<|c_seq<|c_seq<|reg<|p_fld fl63_2 rfl<|p_ld ty61 (S61.atX (i:=3) rfl) rfl rfl<|p_len rfl sc61<|p_mI rfl<|wp_nil<|c_block ?_
 have S62:=S61.pk [0,1,2] (by decide) [0,1,2,3,4] rfl rfl
 refine c_lop (α:=Int×(List (Chain_spot×Span))) (β:=Unit) (chain_opened_l42 a0 a1) (fun z_1 y_1=>[(1,SL A10 a1.length c11),(4,P b17 0),(5,P b44 0),(20,SL A7 a0.Surveys.length c8),(21,I (a0.Surveys.length:Int)),(22,I z_1.1)]) (fun z_1 y_1 w_=>St w nF w_ [mp ekC sE m24 z_1.2,bl b44 [SL A1 a0.Sections.length c2,SL A4 a0.Turns.length c5,SL A7 a0.Surveys.length c8,I a0.Rule,I a0.Days,Value.map (some m24),SL none 0 0] 120,bl b17 [SL none 0 0,SL none 0 0,SL none 0 0,I 0,I 0,Value.map none,SL none 0 0] 120] [rd eChainSection 4 A1 c2 a0.Sections,rd intE 1 A4 c5 a0.Turns,rd eChainSurvey 4 A7 c8 a0.Surveys,rd intE 1 A10 c11 a1,gW2]) (0,putL ([]:List (Chain_spot×Span)) (Chain_spot.mk (-1) (-1)) (Span.mk 0 0)) () H ⟨rfl,rfl,rfl,rfl,rfl,rfl,trivial⟩ S62 ?_
 intro m63 z_1 y_1 e64 w65 H S66
 unfold chain_opened_l42 at H
 refine c_seq<|reg<|p_cmp rfl rfl rfl<|wp_nil<|c_seq ?_
 refine c_cond rfl (fun c67=>?_) (fun c67=>?_)
 ·replace H:=condT c67 H
  refine c_skip<|c_seq<|c_block<|c_seq<|reg<|p_mI rfl ?_
  obtain ⟨r68,h69,H⟩:=bindS H
  refine p_ixE sc61 h69 (S66.atP (i:=2) rfl).1 rfl rfl rfl<|p_ldEA ty115 sz115 rfl h69 (S66.atP (i:=2) rfl).1 rfl<|p_allA in115 S66 fun b70 w71 S72=>p_aI rfl ?_
  refine p_stP (pre:=[]) (old:=[I 0,I 0,I 0,I 0]) (post:=[]) (vs:=[I r68.Section,I r68.Day,I r68.Read,I r68.Error]) sz115 S72 (i:=0) rfl rfl rfl rfl (rfl:_=AG [I r68.Section,I r68.Day,I r68.Read,I r68.Error]) rfl rfl rfl rfl fun w73 S74=>wp_nil<|c_seq<|c_seq<|reg<|p_mS rfl<|p_mI rfl ?_
  obtain ⟨r75,h76,H⟩:=bindS H
  refine p_cv (sl_Contains_int_int_ok h76 (S74.atP (i:=3) rfl)) fu68 rfl S74 fun w77 S78=>wp_nil ?_
  refine c_cond rfl (fun c79=>?_) (fun c79=>?_)
  ·replace H:=condT c79 H
   refine c_exit<|reg<|p_add rfl rfl<|p_mI rfl<|wp_nil ?_
   have S80:=S78.pk [1,2,3] (by decide) [0,1,2,3,4] rfl rfl
   exact ⟨(wr (z_1.1+1),z_1.2),(),_,rfl,⟨rfl,rfl,rfl,rfl,rfl,rfl,trivial⟩,H,S80⟩
  ·replace H:=condF c79 H
   refine c_skip<|c_seq ?_
   have S81:St w nF w77 (([]++[])++[bl b70 [I r68.Section,I r68.Day,I r68.Read,I r68.Error] 115,mp ekC sE m24 z_1.2,bl b44 [SL A1 a0.Sections.length c2,SL A4 a0.Turns.length c5,SL A7 a0.Surveys.length c8,I a0.Rule,I a0.Days,Value.map (some m24),SL none 0 0] 120,bl b17 [SL none 0 0,SL none 0 0,SL none 0 0,I 0,I 0,Value.map none,SL none 0 0] 120]) [rd eChainSection 4 A1 c2 a0.Sections,rd intE 1 A4 c5 a0.Turns,rd eChainSurvey 4 A7 c8 a0.Surveys,rd intE 1 A10 c11 a1,gW2]:=S78.pk [0,1,2,3] (by decide) [0,1,2,3,4] rfl rfl
   refine reg_two mixed 19 [16,18] [17] [] [] (fun ec_ X_=>∃ b85:Nat,Has ec_ [(8,P b85 0)]∧X_=[bl b85 [I r68.Section,I r68.Day] 155]) (fun ec_ X_=>∃ b97:Nat,Has ec_ [(9,P b97 0)]∧X_=[bl b97 [I 0,I 0] 23]) (by kernel_rfl) rfl rfl (St.baseX S81) ?_
   refine lS rfl (fun _ k_=>p_fld fl115_0 rfl dn) ?_
   refine lS rfl (fun _ k_=>p_ld ty3 (S81.stR (i:=0) rfl k_) rfl rfl dn) ?_
   refine lS rfl (fun _ k_=>p_fld fl115_1 rfl dn) ?_
   refine lS rfl (fun _ k_=>p_ld ty3 (S81.stR (i:=0) rfl k_) rfl rfl dn) ?_
   refine lS rfl (fun _ k_=>p_bld (cs:=[I r68.Section,I r68.Day]) st155 (rfl:_=[(0,I r68.Section),(1,I r68.Day)]) (by kernel_rfl) dn) ?_
   refine lS rfl (fun _ k_=>p_fld fl115_2 rfl dn) ?_
   refine lS rfl (fun _ k_=>p_ld ty3 (S81.stR (i:=0) rfl k_) rfl rfl dn) ?_
   refine lS rfl (fun _ k_=>p_fld fl115_3 rfl dn) ?_
   refine lS rfl (fun _ k_=>p_ld ty3 (S81.stR (i:=0) rfl k_) rfl rfl dn) ?_
   refine lS rfl (fun _ k_=>p_sub rfl rfl dn) ?_
   refine lS rfl (fun _ k_=>p_fld fl115_2 rfl dn) ?_
   refine lS rfl (fun _ k_=>p_ld ty3 (S81.stR (i:=0) rfl k_) rfl rfl dn) ?_
   refine lS rfl (fun _ k_=>p_fld fl115_3 rfl dn) ?_
   refine lS rfl (fun _ k_=>p_ld ty3 (S81.stR (i:=0) rfl k_) rfl rfl dn) ?_
   refine lS rfl (fun _ k_=>p_add rfl rfl dn) ?_
   refine lS rfl (fun _ k_=>p_bld (cs:=[I (wr (r68.Read - r68.Error)),I (wr (r68.Read+r68.Error))]) st23 (rfl:_=[(0,I (wr (r68.Read - r68.Error))),(1,I (wr (r68.Read+r68.Error)))]) (by kernel_rfl) dn) ?_
   refine lC rfl ?_
   refine lC rfl ?_
   refine lC rfl ?_
   refine ⟨?_,?_,?_⟩
   ·intro w82 R83 S84
    refine p_allA in155 S84 fun b85 w86 S87=>?_
    refine cH (X:=[bl b85 [I 0,I 0] 155]) S87 ?_
    intro w88 R89 S90
    refine p_stP (pre:=[]) (old:=[I 0,I 0]) (post:=[]) (vs:=[I r68.Section,I r68.Day]) sz155 S90 (i:=0) rfl rfl rfl rfl (rfl:_=AG [I r68.Section,I r68.Day]) rfl rfl rfl rfl fun w91 S92=>?_
    refine cH0 (X:=[bl b85 [I r68.Section,I r68.Day] 155]) S92 ?_
    exact chEnd ⟨b85,⟨rfl,trivial⟩,rfl⟩
   ·intro w94 R95 S96
    refine p_allA in23 S96 fun b97 w98 S99=>?_
    refine cH (X:=[bl b97 [I 0,I 0] 23]) S99 ?_
    exact chEnd ⟨b97,⟨rfl,trivial⟩,rfl⟩
   rintro e101 X102 e103 X104 ⟨b85,⟨q93,_⟩,rfl⟩ ⟨b97,⟨q100,_⟩,rfl⟩ e105 w106 f107 f108 f109 S110
   have S111:St w nF w106 [bl b85 [I r68.Section,I r68.Day] 155,bl b97 [I 0,I 0] 23,bl b70 [I r68.Section,I r68.Day,I r68.Read,I r68.Error] 115,mp ekC sE m24 z_1.2,bl b44 [SL A1 a0.Sections.length c2,SL A4 a0.Turns.length c5,SL A7 a0.Surveys.length c8,I a0.Rule,I a0.Days,Value.map (some m24),SL none 0 0] 120,bl b17 [SL none 0 0,SL none 0 0,SL none 0 0,I 0,I 0,Value.map none,SL none 0 0] 120] [rd eChainSection 4 A1 c2 a0.Sections,rd intE 1 A4 c5 a0.Turns,rd eChainSurvey 4 A7 c8 a0.Surveys,rd intE 1 A10 c11 a1,gW2]:=St.fromBaseX S81 S110
   refine tailE [(1,SL A10 a1.length c11),(4,P b17 0),(5,P b44 0),(8,P b85 0),(9,P b97 0),(20,SL A7 a0.Surveys.length c8),(21,I (a0.Surveys.length:Int)),(22,I z_1.1),(45,AG [I (wr (r68.Read - r68.Error)),I (wr (r68.Read+r68.Error))])] ⟨((f109 1 rfl rfl).trans (rfl:_=SL A10 a1.length c11)),((f109 4 rfl rfl).trans (rfl:_=P b17 0)),((f109 5 rfl rfl).trans (rfl:_=P b44 0)),((f107 8 rfl).trans q93),((f108 9 rfl).trans q100),((f109 20 rfl rfl).trans (rfl:_=SL A7 a0.Surveys.length c8)),((f109 21 rfl rfl).trans (rfl:_=I (a0.Surveys.length:Int))),((f109 22 rfl rfl).trans (rfl:_=I z_1.1)),((f109 45 rfl rfl).trans (rfl:_=AG [I (wr (r68.Read - r68.Error)),I (wr (r68.Read+r68.Error))])),trivial⟩ ?_
   intro g112
   refine p_stP (pre:=[]) (old:=[I 0,I 0]) (post:=[]) (vs:=[I (wr (r68.Read - r68.Error)),I (wr (r68.Read+r68.Error))]) sz23 S111 (i:=1) rfl rfl rfl rfl (rfl:_=AG [I (wr (r68.Read - r68.Error)),I (wr (r68.Read+r68.Error))]) rfl rfl rfl rfl fun w113 S114=>wp_nil ?_
   refine c_join (α:=Int×Int) (β:=Unit) (fun z_3 y_3=>[(1,SL A10 a1.length c11),(4,P b17 0),(5,P b44 0),(8,P b85 0),(9,P b97 0),(20,SL A7 a0.Surveys.length c8),(21,I (a0.Surveys.length:Int)),(22,I z_1.1)]) (fun z_3 y_3 w_=>chain_opened_j39 (loopF (chain_opened_l42 a0 a1) m63) z_1 r68 z_3=some r∧St w nF w_ [bl b85 [I r68.Section,I r68.Day] 155,bl b97 [I z_3.1,I z_3.2] 23,mp ekC sE m24 z_1.2,bl b44 [SL A1 a0.Sections.length c2,SL A4 a0.Turns.length c5,SL A7 a0.Surveys.length c8,I a0.Rule,I a0.Days,Value.map (some m24),SL none 0 0] 120,bl b17 [SL none 0 0,SL none 0 0,SL none 0 0,I 0,I 0,Value.map none,SL none 0 0] 120] [rd eChainSection 4 A1 c2 a0.Sections,rd intE 1 A4 c5 a0.Turns,rd eChainSurvey 4 A7 c8 a0.Surveys,rd intE 1 A10 c11 a1,gW2]) ?_ ?_
   ·refine c_join (α:=Int×Int×Bool) (β:=Nat) (fun z_2 y_2=>[(1,SL A10 a1.length c11),(4,P b17 0),(5,P b44 0),(8,P b85 0),(9,P b97 0),(10,P y_2 0),(11,B z_2.2.2),(20,SL A7 a0.Surveys.length c8),(21,I (a0.Surveys.length:Int)),(22,I z_1.1)]) (fun z_2 y_2 w_=>chain_opened_j40 r68 (loopF (chain_opened_l42 a0 a1) m63) z_1 z_2=some r∧St w nF w_ [bl y_2 [I z_2.1,I z_2.2.1] 23,bl b85 [I r68.Section,I r68.Day] 155,bl b97 [I (wr (r68.Read - r68.Error)),I (wr (r68.Read+r68.Error))] 23,mp ekC sE m24 z_1.2,bl b44 [SL A1 a0.Sections.length c2,SL A4 a0.Turns.length c5,SL A7 a0.Surveys.length c8,I a0.Rule,I a0.Days,Value.map (some m24),SL none 0 0] 120,bl b17 [SL none 0 0,SL none 0 0,SL none 0 0,I 0,I 0,Value.map none,SL none 0 0] 120] [rd eChainSection 4 A1 c2 a0.Sections,rd intE 1 A4 c5 a0.Turns,rd eChainSurvey 4 A7 c8 a0.Surveys,rd intE 1 A10 c11 a1,gW2]) ?_ ?_
    ·refine reg<|p_fld fl120_1 rfl<|p_ld ty117 (S114.atX (i:=4) rfl) rfl rfl<|p_ldA ty155 sz155 (S114.atX (i:=0) rfl) rfl rfl ?_
     refine p_lookO (a:=(Chain_spot.mk r68.Section r68.Day)) mt117 keyC in23 (mpo_some (S114.atX (i:=3) rfl)) rfl rfl (fun v115 c116=>?_) (fun c116=>?_)
     ·replace H:=optS c116 H
      refine p_mT rfl<|p_ext rfl rfl<|p_ext rfl rfl<|p_allA in23 S114 fun b117 w118 S119=>p_stP (pre:=[]) (old:=[I 0,I 0]) (post:=[]) (vs:=[I v115.Low,I v115.High]) sz23 S119 (i:=0) rfl rfl rfl rfl (rfl:_=AG [I v115.Low,I v115.High]) rfl rfl rfl rfl fun w120 S121=>p_aB rfl<|wp_nil ?_
      have S122:=S121.pk [0,1,2,4,5,6] (by decide) [0,1,2,3,4] rfl rfl
      exact ⟨(v115.Low,v115.High,true),b117,_,rfl,⟨rfl,rfl,rfl,rfl,rfl,rfl,rfl,rfl,rfl,rfl,trivial⟩,H,S122⟩
     ·replace H:=optN c116 H
      refine p_mT rfl<|p_ext rfl rfl<|p_ext rfl rfl<|p_allA in23 S114 fun b122 w123 S124=>p_stP (pre:=[]) (old:=[I 0,I 0]) (post:=[]) (vs:=[I 0,I 0]) sz23 S124 (i:=0) rfl rfl rfl rfl (rfl:_=AG [I 0,I 0]) rfl rfl rfl rfl fun w125 S126=>p_aB rfl<|wp_nil ?_
      have S127:=S126.pk [0,1,2,4,5,6] (by decide) [0,1,2,3,4] rfl rfl
      exact ⟨(0,0,false),b122,_,rfl,⟨rfl,rfl,rfl,rfl,rfl,rfl,rfl,rfl,rfl,rfl,trivial⟩,H,S127⟩
    ·intro z_2 y_2 e115 w116 S117; obtain ⟨H,S117⟩:=S117
     unfold chain_opened_j40 at H
     refine c_seq<|reg<|p_mB rfl<|wp_nil ?_
     refine c_cond rfl (fun c118=>?_) (fun c118=>?_)
     ·replace H:=condT c118 H
      refine reg<|p_ldA ty23 sz23 (S117.atX (i:=0) rfl) rfl rfl<|p_ldA ty23 sz23 (S117.atX (i:=2) rfl) rfl rfl ?_
      obtain ⟨r119,h120,H⟩:=bindS H
      refine p_cv (chain_both_ok h120) fu80 rfl S117 fun w121 S122=>p_stP (pre:=[]) (old:=[I (wr (r68.Read - r68.Error)),I (wr (r68.Read+r68.Error))]) (post:=[]) (vs:=[I r119.Low,I r119.High]) sz23 S122 (i:=2) rfl rfl rfl rfl (rfl:_=AG [I r119.Low,I r119.High]) rfl rfl rfl rfl fun w123 S124=>wp_nil ?_
      have S125:=S124.pk [1,2,3,4,5] (by decide) [0,1,2,3,4] rfl rfl
      exact ⟨(r119.Low,r119.High),(),_,rfl,⟨rfl,rfl,rfl,rfl,rfl,rfl,rfl,rfl,trivial⟩,H,S125⟩
     ·replace H:=condF c118 H
      refine c_skip ?_
      have S125:=S117.pk [1,2,3,4,5] (by decide) [0,1,2,3,4] rfl rfl
      exact ⟨(wr (r68.Read - r68.Error),wr (r68.Read+r68.Error)),(),_,rfl,⟨rfl,rfl,rfl,rfl,rfl,rfl,rfl,rfl,trivial⟩,H,S125⟩
   ·intro z_3 y_3 e115 w116 S117; obtain ⟨H,S117⟩:=S117
    unfold chain_opened_j39 at H
    refine reg<|p_fld fl120_1 rfl<|p_ld ty117 (S117.atX (i:=3) rfl) rfl rfl<|p_ldA ty155 sz155 (S117.atX (i:=0) rfl) rfl rfl<|p_ldA ty23 sz23 (S117.atX (i:=1) rfl) rfl rfl ?_
    refine o_mup (a:=(Chain_spot.mk r68.Section r68.Day)) (v:=(Span.mk z_3.1 z_3.2)) rfl rfl rfl mt117 keyC S117 (i:=2) rfl fun w118 S119=>?_
    refine wp_nil<|reg<|p_add rfl rfl<|p_mI rfl<|wp_nil ?_
    have S120:=S119.pk [2,3,4] (by decide) [0,1,2,3,4] rfl rfl
    exact ⟨(wr (z_1.1+1),putL z_1.2 (Chain_spot.mk r68.Section r68.Day) (Span.mk z_3.1 z_3.2)),(),_,rfl,⟨rfl,rfl,rfl,rfl,rfl,rfl,trivial⟩,H,S120⟩
 ·replace H:=condF c67 H
  refine c_exit<|c_seq<|c_seq<|reg<|p_ldA ty120 sz120 (S66.atX (i:=1) rfl) rfl rfl ?_
  obtain ⟨r127,h128,H⟩:=bindS H
  refine p_cal (chain_book_whole_ok h128 (S66.atP (i:=0) rfl) (S66.atP (i:=1) rfl) (S66.atP (i:=2) rfl) (mpo_some (S66.atX (i:=0) rfl)) (rd_nil (Nat.zero_le _)) (S66.atP (i:=4) rfl)) fu81 rfl ?_
  rintro _ w129 ⟨b131,rfl,k130,⟨o132,n133⟩,_⟩
  have S134:=S66.addNew k130 o132 n133
  refine wp_nil<|c_block ?_
  have S135:=S134.fix (i:=1) rfl
  have S136:=S135.mpoL (i:=0) rfl
  have S137:=S136.fix (i:=0) rfl
  have S138:=S137.addL' (p:=rd eChain_truth 12 none 0 ([]:List Chain_truth)) (rd_nil (Nat.zero_le _)) (fun _ h_=>(h_.1 rfl).elim)
  obtain ⟨r139,h140,H⟩:=bindS H
  have S141:=S138.nilRow eChain_truth 12 131
  have S143:=S138.nilRow eChain_truth 12 131
  have S142:=S143
  refine c_rangeG (α:=(List Chain_truth)) (β:=(Option Addr)×Nat) (ε:=Chain_truth) (K:=[bl b131 [SL A1 a0.Sections.length c2,SL A4 a0.Turns.length c5,SL A7 a0.Surveys.length c8,I a0.Rule,I a0.Days,Value.map (some m24),SL none 0 0] 120,rd eChainSection 4 A1 c2 a0.Sections,rd intE 1 A4 c5 a0.Turns,rd eChainSurvey 4 A7 c8 a0.Surveys,mpo ekC sE (some m24) z_1.2,rd eChain_truth 12 none 0 ([]:List Chain_truth),gW2]) (MK:=Go.Fx.mark) (XR:=fun D144=>[]++[bx D144 (.deferred (some []))]) (it:=fun {σ} yv s_=>chain_book_whole_1 s_ (Chain_book.mk a0 z_1.2 ([]:List Chain_truth)) yv) (enc:=yE2) (chain_opened_r41) [] (fun z_4 y_4=>[gr eChain_truth 12 131 y_4.1 y_4.2 z_4,bl b44 [SL A1 a0.Sections.length c2,SL A4 a0.Turns.length c5,SL A7 a0.Surveys.length c8,I a0.Rule,I a0.Days,Value.map (some m24),SL y_4.1 z_4.length y_4.2] 120,bl b17 [SL none 0 0,SL none 0 0,SL none 0 0,I 0,I 0,Value.map none,SL none 0 0] 120]) ([]:List Chain_truth) (none,0) h140 (ent_none (X0:=(fun z_4 y_4=>[gr eChain_truth 12 131 y_4.1 y_4.2 z_4,bl b44 [SL A1 a0.Sections.length c2,SL A4 a0.Turns.length c5,SL A7 a0.Surveys.length c8,I a0.Rule,I a0.Days,Value.map (some m24),SL y_4.1 z_4.length y_4.2] 120,bl b17 [SL none 0 0,SL none 0 0,SL none 0 0,I 0,I 0,Value.map none,SL none 0 0] 120]) ([]:List Chain_truth) (none,0)++[]) S142) rfl fu96 (fun w_ σ yv_ s_ s'_ l_ G_ A_ hH_ hG_ hk_ hd_ hy_=>(chain_book_whole_1_ok hH_ hG_ (hk_ _ (mE (i:=0) rfl)) (hk_ _ (mE (i:=1) rfl)) (hk_ _ (mE (i:=2) rfl)) (hk_ _ (mE (i:=3) rfl)) (hk_ _ (mE (i:=4) rfl)) (hk_ _ (mE (i:=5) rfl)) (hk_ _ (mE (i:=6) rfl)) hd_ hy_ (Link.refl _ _)).mono fun en_ w3_ ⟨u_,he_,A'_,hu_,hk2_,ho_,hf_⟩=>⟨u_,he_,hk2_,A'_,ho_,hf_⟩) (mG [1,4,5,6,2,0,8] rfl) (fun _=>rfl) nM ?_ ?_ ?_
  ·intro l145 oR146 oB147 Cr148 x_4 z_4 y_4 w149 b150 c151 z152 PP153 H S154 hlk155 ho156 hB157 hN158 hX159
   unfold chain_opened_r41 at H
   replace S154:St w149 Cr148 w149 [bx l145 oR146,gr eChain_truth 12 131 y_4.1 y_4.2 z_4,bl b44 [SL A1 a0.Sections.length c2,SL A4 a0.Turns.length c5,SL A7 a0.Surveys.length c8,I a0.Rule,I a0.Days,Value.map (some m24),SL y_4.1 z_4.length y_4.2] 120,bl b17 [SL none 0 0,SL none 0 0,SL none 0 0,I 0,I 0,Value.map none,SL none 0 0] 120] [rd eChain_truth 12 none 0 ([]:List Chain_truth),bl b131 [SL A1 a0.Sections.length c2,SL A4 a0.Turns.length c5,SL A7 a0.Surveys.length c8,I a0.Rule,I a0.Days,Value.map (some m24),SL none 0 0] 120,mpo ekC sE (some m24) z_1.2,mp ekC sE m24 z_1.2,rd eChainSection 4 A1 c2 a0.Sections,rd intE 1 A4 c5 a0.Turns,rd eChainSurvey 4 A7 c8 a0.Surveys,rd intE 1 A10 c11 a1,gW2]:=S154
   refine reg<|p_allA in131 S154 fun b160 w161 S162=>p_stP (pre:=[]) (old:=sg (List.replicate 4 0) 4++sgE eSpan (List.replicate 4 (Span.mk 0 0)) 4) (post:=[]) (vs:=sg x_4.wears_ 4++sgE eSpan x_4.first_ 4) sz131 S162 (i:=0) rfl rfl rfl rfl (rfl:_=AG (sg x_4.wears_ 4++sgE eSpan x_4.first_ 4)) rfl rfl rfl rfl fun w163 S164=>wp_nil ?_
   refine hB157 _ _ 1 _ S164 rfl fun w165 S166=>?_
   replace S166:St w149 Cr148 w165 [bl b160 (sg x_4.wears_ 4++sgE eSpan x_4.first_ 4) 131,bx l145 oB147,gr eChain_truth 12 131 y_4.1 y_4.2 z_4,bl b44 [SL A1 a0.Sections.length c2,SL A4 a0.Turns.length c5,SL A7 a0.Surveys.length c8,I a0.Rule,I a0.Days,Value.map (some m24),SL y_4.1 z_4.length y_4.2] 120,bl b17 [SL none 0 0,SL none 0 0,SL none 0 0,I 0,I 0,Value.map none,SL none 0 0] 120] [rd eChain_truth 12 none 0 ([]:List Chain_truth),bl b131 [SL A1 a0.Sections.length c2,SL A4 a0.Turns.length c5,SL A7 a0.Surveys.length c8,I a0.Rule,I a0.Days,Value.map (some m24),SL none 0 0] 120,mpo ekC sE (some m24) z_1.2,mp ekC sE m24 z_1.2,rd eChainSection 4 A1 c2 a0.Sections,rd intE 1 A4 c5 a0.Turns,rd eChainSurvey 4 A7 c8 a0.Surveys,rd intE 1 A10 c11 a1,gW2]:=S166
   refine c_block<|reg<|p_fld fl120_2 rfl<|p_ld ty118 (S166.atX (i:=3) rfl) rfl rfl<|p_ldA ty131 sz131 (S166.atX (i:=0) rfl) rfl rfl<|p_bsl (enc:=eChain_truth) (l:=([x_4]:List Chain_truth)) (fun x=>AG (eChain_truth x)) (fun _=>rfl) sc118 in131 eChain_truth_len rfl (by decide) (by decide) zr131_1 S166 rfl fun A167 c168 w169 S170=>?_
   obtain ⟨h176,H⟩:=needS H
   refine p_app (enc:=eChain_truth) sc118 in131 rfl eChain_truth_len eChain_truth_one (by decide) S170 (k:=3) rfl (gr_sl eChain_truth_len (S170.atX (i:=0) rfl)) h176 (by simp) rfl rfl fun A174 c175 w172 S173=>p_fld fl120_2 rfl ?_
   refine p_stP (pre:=[SL A1 a0.Sections.length c2,SL A4 a0.Turns.length c5,SL A7 a0.Surveys.length c8,I a0.Rule,I a0.Days,Value.map (some m24)]) (old:=[SL y_4.1 z_4.length y_4.2]) (post:=[]) (vs:=[SL A174 (z_4++([x_4]:List Chain_truth)).length c175]) sz118 S173 (i:=4) rfl rfl rfl rfl (rfl:_=SL A174 (z_4++([x_4]:List Chain_truth)).length c175) rfl rfl rfl rfl fun w177 S178=>?_
   refine wp_nil ?_
   have S179:=S178.pk [2,3,4,5] (by decide) [0,1,2,3,4,5,6,7,8] rfl rfl
   exact hN158 _ _ (z_4++([x_4]:List Chain_truth)) (A174,c175) S179 (sJ H)
  ·intro hc185
   intro l179 D180 o181 y182 w183 S184
   have S186:St w nF w183 [gr eChain_truth 12 131 y182.1 y182.2 r139.2,bl b44 [SL A1 a0.Sections.length c2,SL A4 a0.Turns.length c5,SL A7 a0.Surveys.length c8,I a0.Rule,I a0.Days,Value.map (some m24),SL y182.1 r139.2.length y182.2] 120,bl b17 [SL none 0 0,SL none 0 0,SL none 0 0,I 0,I 0,Value.map none,SL none 0 0] 120,bx D180 (.deferred (some []))] [rd eChain_truth 12 none 0 ([]:List Chain_truth),bl b131 [SL A1 a0.Sections.length c2,SL A4 a0.Turns.length c5,SL A7 a0.Surveys.length c8,I a0.Rule,I a0.Days,Value.map (some m24),SL none 0 0] 120,mpo ekC sE (some m24) z_1.2,mp ekC sE m24 z_1.2,rd eChainSection 4 A1 c2 a0.Sections,rd intE 1 A4 c5 a0.Turns,rd eChainSurvey 4 A7 c8 a0.Surveys,rd intE 1 A10 c11 a1,gW2]:=St.tail1 S184
   refine c_seq<|reg<|p_ldA ty120 sz120 (S186.atX (i:=1) rfl) rfl rfl ?_
   refine p_stP (pre:=[]) (old:=[SL none 0 0,SL none 0 0,SL none 0 0,I 0,I 0,Value.map none,SL none 0 0]) (post:=[]) (vs:=[SL A1 a0.Sections.length c2,SL A4 a0.Turns.length c5,SL A7 a0.Surveys.length c8,I a0.Rule,I a0.Days,Value.map (some m24),SL y182.1 r139.2.length y182.2]) sz120 S186 (i:=2) rfl rfl rfl rfl (rfl:_=AG [SL A1 a0.Sections.length c2,SL A4 a0.Turns.length c5,SL A7 a0.Surveys.length c8,I a0.Rule,I a0.Days,Value.map (some m24),SL y182.1 r139.2.length y182.2]) rfl rfl rfl rfl fun w187 S188=>?_
   refine wp_nil ?_
   refine c_ret ?_
   refine leave_mark S188 (i:=3) rfl fun w189 S190=>?_
   obtain rfl:=sJ H
   show bodyPostM (Fr none) 0 Tryd.prog Tryd.f55 _ .ret _ _
   refine ret_of (res1 rfl (rvA rfl ty120 sz120 (S190.atX (i:=2) rfl) rfl)) ?_
   exact ⟨_,rfl,m24,y182.1,y182.2,rfl,S190.keep,⟨S190.atP (i:=3) rfl,(S134.newX (i:=1) rfl)⟩,⟨(gr_rd eChain_truth_len (S190.atX (i:=0) rfl)),(New.rd (S190.newX (i:=0) rfl))⟩,trivial⟩
  ·intro k191 c192 hk193 hc194
   cases hk193
def chain_asked (a0:ChainBook) (a1:Bool):Option (Chain_book×Int):=
 (chain_Check a0).bind fun r17=>
 bif (r17 != 0) then (some ((Chain_book.mk (ChainBook.mk ([]:List ChainSection) ([]:List Int) ([]:List ChainSurvey) 0 0) ([]:List (Chain_spot×Span)) ([]:List Chain_truth)),r17))
 else (bif !a1 then (some ((Chain_book.mk (ChainBook.mk ([]:List ChainSection) ([]:List Int) ([]:List ChainSurvey) 0 0) ([]:List (Chain_spot×Span)) ([]:List Chain_truth)),11))
 else ((chain_opened a0 ([]:List _)).bind fun r27=>
 bif ((r27.truths_.length:Int)==0) then (some ((Chain_book.mk (ChainBook.mk a0.Sections a0.Turns a0.Surveys r27.ChainBook.Rule r27.ChainBook.Days) r27.read_ r27.truths_),12))
 else (some ((Chain_book.mk (ChainBook.mk a0.Sections a0.Turns a0.Surveys r27.ChainBook.Rule r27.ChainBook.Days) r27.read_ r27.truths_),0))))
set_option maxRecDepth 100000 in
theorem chain_asked_ok {a0:ChainBook}{a1:Bool}{A1:Option Addr}{c2:Nat}{A4:Option Addr}{c5:Nat}{A7:Option Addr}{c8:Nat}{w:World}{r:Chain_book×Int} (H:chain_asked a0 a1=some r) (h3:(rd eChainSection 4 A1 c2 a0.Sections).ok w) (h6:(rd intE 1 A4 c5 a0.Turns).ok w) (h9:(rd eChainSurvey 4 A7 c8 a0.Surveys).ok w) (hg10:(gW2).ok w):Calls Tryd.prog 57 #[AG [SL A1 a0.Sections.length c2,SL A4 a0.Turns.length c5,SL A7 a0.Surveys.length c8,I a0.Rule,I a0.Days],B a1] w fun en w_=>∃ u_,en=.returned u_∧∃ A_1:Option Addr,∃ c_2:Nat,∃ A_3:Option Addr,∃ c_4:Nat,∃ A_5:Option Addr,∃ c_6:Nat,∃ m_7:Option Nat,∃ A_8:Option Addr,∃ c_9:Nat,u_=TU [AG [SL A_1 r.1.ChainBook.Sections.length c_2,SL A_3 r.1.ChainBook.Turns.length c_4,SL A_5 r.1.ChainBook.Surveys.length c_6,I r.1.ChainBook.Rule,I r.1.ChainBook.Days,Value.map m_7,SL A_8 r.1.truths_.length c_9],I r.2]∧Keep0 w w_∧((rd eChainSection 4 A_1 c_2 r.1.ChainBook.Sections).ok w_∧Al w [rd eChainSection 4 A1 c2 a0.Sections,rd intE 1 A4 c5 a0.Turns,rd eChainSurvey 4 A7 c8 a0.Surveys] (rd eChainSection 4 A_1 c_2 r.1.ChainBook.Sections))∧((rd intE 1 A_3 c_4 r.1.ChainBook.Turns).ok w_∧Al w [rd eChainSection 4 A1 c2 a0.Sections,rd intE 1 A4 c5 a0.Turns,rd eChainSurvey 4 A7 c8 a0.Surveys] (rd intE 1 A_3 c_4 r.1.ChainBook.Turns))∧((rd eChainSurvey 4 A_5 c_6 r.1.ChainBook.Surveys).ok w_∧Al w [rd eChainSection 4 A1 c2 a0.Sections,rd intE 1 A4 c5 a0.Turns,rd eChainSurvey 4 A7 c8 a0.Surveys] (rd eChainSurvey 4 A_5 c_6 r.1.ChainBook.Surveys))∧((mpo ekC sE m_7 r.1.read_).ok w_∧New w.heap.size (mpo ekC sE m_7 r.1.read_))∧((rd eChain_truth 12 A_8 c_9 r.1.truths_).ok w_∧New w.heap.size (rd eChain_truth 12 A_8 c_9 r.1.truths_))∧True:=by
 unfold chain_asked at H
 refine fn_of (n:=25) Tryd.func57 rfl rfl (lE rfl) ?_
 have S:=St.start w nF _ (cA h3 (cA h6 (cA h9 (cA hg10 nM))))
 refine c_seq<|reg<|p_boxA rfl S fun b11 w12 S13=>p_allA in120 S13 fun b14 w15 S16=>p_aI rfl<|wp_nil<|c_seq<|c_seq<|reg<|p_ldA ty63 sz63 (S16.atX (i:=1) rfl) rfl rfl ?_
 obtain ⟨r17,h18,H⟩:=bindS H
 refine p_cv (chain_Check_ok h18 (S16.atP (i:=0) rfl) (S16.atP (i:=1) rfl) (S16.atP (i:=2) rfl)) fu23 rfl S16 fun w19 S20=>p_aI rfl<|wp_nil<|c_seq<|reg<|p_mI rfl<|p_cmp rfl rfl rfl<|wp_nil ?_
 refine c_cond rfl (fun c21=>?_) (fun c21=>?_)
 ·replace H:=condT c21 H
  refine c_seq<|reg<|p_bld (cs:=[SL none 0 0,SL none 0 0,SL none 0 0,I 0,I 0,Value.map none,SL none 0 0]) st120 (rfl:_=[]) (by kernel_rfl)<|p_mI rfl ?_
  refine p_stP (pre:=[]) (old:=[SL none 0 0,SL none 0 0,SL none 0 0,I 0,I 0,Value.map none,SL none 0 0]) (post:=[]) (vs:=[SL none 0 0,SL none 0 0,SL none 0 0,I 0,I 0,Value.map none,SL none 0 0]) sz120 S20 (i:=0) rfl rfl rfl rfl (rfl:_=AG [SL none 0 0,SL none 0 0,SL none 0 0,I 0,I 0,Value.map none,SL none 0 0]) rfl rfl rfl rfl fun w22 S23=>p_aI rfl<|wp_nil ?_
  obtain rfl:=sJ H
  refine c_ret ?_; show bodyPostM (Fr none) 0 Tryd.prog Tryd.f57 _ .ret _ _
  refine ret_of (res2 rfl (rvA rfl ty120 sz120 (S23.atX (i:=0) rfl) rfl) (rvT (rfl:_=I r17))) ?_
  exact ⟨_,rfl,none,0,none,0,none,0,none,none,0,rfl,S23.keep,⟨rd_nil (Nat.zero_le _),Al.nil⟩,⟨rd_nil (Nat.zero_le _),Al.nil⟩,⟨rd_nil (Nat.zero_le _),Al.nil⟩,⟨mpo_none,New.mpoN⟩,⟨rd_nil (Nat.zero_le _),New.nil⟩,trivial⟩
 ·replace H:=condF c21 H
  refine c_skip<|c_seq<|c_seq<|reg<|p_mB rfl<|p_not rfl<|wp_nil ?_
  refine c_cond rfl (fun c24=>?_) (fun c24=>?_)
  ·replace H:=condT c24 H
   refine c_seq<|reg<|p_bld (cs:=[SL none 0 0,SL none 0 0,SL none 0 0,I 0,I 0,Value.map none,SL none 0 0]) st120 (rfl:_=[]) (by kernel_rfl) ?_
   refine p_stP (pre:=[]) (old:=[SL none 0 0,SL none 0 0,SL none 0 0,I 0,I 0,Value.map none,SL none 0 0]) (post:=[]) (vs:=[SL none 0 0,SL none 0 0,SL none 0 0,I 0,I 0,Value.map none,SL none 0 0]) sz120 S20 (i:=0) rfl rfl rfl rfl (rfl:_=AG [SL none 0 0,SL none 0 0,SL none 0 0,I 0,I 0,Value.map none,SL none 0 0]) rfl rfl rfl rfl fun w25 S26=>p_aI rfl<|wp_nil ?_
   obtain rfl:=sJ H
   refine c_ret ?_; show bodyPostM (Fr none) 0 Tryd.prog Tryd.f57 _ .ret _ _
   refine ret_of (res2 rfl (rvA rfl ty120 sz120 (S26.atX (i:=0) rfl) rfl) (rvT (rfl:_=I 11))) ?_
   exact ⟨_,rfl,none,0,none,0,none,0,none,none,0,rfl,S26.keep,⟨rd_nil (Nat.zero_le _),Al.nil⟩,⟨rd_nil (Nat.zero_le _),Al.nil⟩,⟨rd_nil (Nat.zero_le _),Al.nil⟩,⟨mpo_none,New.mpoN⟩,⟨rd_nil (Nat.zero_le _),New.nil⟩,trivial⟩
  ·replace H:=condF c24 H
   refine c_skip<|c_seq<|reg<|p_ldA ty63 sz63 (S20.atX (i:=1) rfl) rfl rfl ?_
   obtain ⟨r27,h28,H⟩:=bindS H
   refine p_cal (chain_opened_ok h28 (S20.atP (i:=0) rfl) (S20.atP (i:=1) rfl) (S20.atP (i:=2) rfl) (rd_nil (Nat.zero_le _)) (S20.atP (i:=3) rfl)) fu55 rfl ?_
   rintro _ w29 ⟨m31,A32,c33,rfl,k30,⟨o34,n35⟩,⟨o36,n37⟩,_⟩
   have S38:=S20.callN k30 [mp ekC sE m31 r27.read_,rd eChain_truth 12 A32 c33 r27.truths_] (cA ⟨o34,New.inL n35⟩ (cA ⟨o36,New.inL n37⟩ nM))
   refine p_allA in120 S38 fun b39 w40 S41=>?_
   refine p_stP (pre:=[]) (old:=[SL none 0 0,SL none 0 0,SL none 0 0,I 0,I 0,Value.map none,SL none 0 0]) (post:=[]) (vs:=[SL A1 a0.Sections.length c2,SL A4 a0.Turns.length c5,SL A7 a0.Surveys.length c8,I r27.ChainBook.Rule,I r27.ChainBook.Days,Value.map (some m31),SL A32 r27.truths_.length c33]) sz120 S41 (i:=0) rfl rfl rfl rfl (rfl:_=AG [SL A1 a0.Sections.length c2,SL A4 a0.Turns.length c5,SL A7 a0.Surveys.length c8,I r27.ChainBook.Rule,I r27.ChainBook.Days,Value.map (some m31),SL A32 r27.truths_.length c33]) rfl rfl rfl rfl fun w42 S43=>?_
   refine wp_nil<|c_seq<|c_seq<|reg<|p_fld fl120_2 rfl<|p_ld ty118 (S43.atX (i:=0) rfl) rfl rfl<|p_len rfl sc118<|p_cmp rfl rfl rfl<|wp_nil ?_
   refine c_cond rfl (fun c44=>?_) (fun c44=>?_)
   ·replace H:=condT c44 H
    refine c_seq<|reg<|p_ldA ty120 sz120 (S43.atX (i:=0) rfl) rfl rfl ?_
    refine p_stP (pre:=[]) (old:=[SL none 0 0,SL none 0 0,SL none 0 0,I 0,I 0,Value.map none,SL none 0 0]) (post:=[]) (vs:=[SL A1 a0.Sections.length c2,SL A4 a0.Turns.length c5,SL A7 a0.Surveys.length c8,I r27.ChainBook.Rule,I r27.ChainBook.Days,Value.map (some m31),SL A32 r27.truths_.length c33]) sz120 S43 (i:=1) rfl rfl rfl rfl (rfl:_=AG [SL A1 a0.Sections.length c2,SL A4 a0.Turns.length c5,SL A7 a0.Surveys.length c8,I r27.ChainBook.Rule,I r27.ChainBook.Days,Value.map (some m31),SL A32 r27.truths_.length c33]) rfl rfl rfl rfl fun w45 S46=>?_
    refine p_aI rfl<|wp_nil ?_
    obtain rfl:=sJ H
    refine c_ret ?_; show bodyPostM (Fr none) 0 Tryd.prog Tryd.f57 _ .ret _ _
    refine ret_of (res2 rfl (rvA rfl ty120 sz120 (S46.atX (i:=1) rfl) rfl) (rvT (rfl:_=I 12))) ?_
    exact ⟨_,rfl,A1,c2,A4,c5,A7,c8,(some m31),A32,c33,rfl,S46.keep,⟨(S46.atP (i:=2) rfl),Al.self (i:=0) rfl⟩,⟨(S46.atP (i:=3) rfl),Al.self (i:=1) rfl⟩,⟨(S46.atP (i:=4) rfl),Al.self (i:=2) rfl⟩,⟨mpo_some (S46.atP (i:=0) rfl),New.mpoS (New.mono n35 S20.keep.size)⟩,⟨(S46.atP (i:=1) rfl),(New.mono n37 S20.keep.size)⟩,trivial⟩
   ·replace H:=condF c44 H
    refine c_skip<|c_seq<|reg<|p_ldA ty120 sz120 (S43.atX (i:=0) rfl) rfl rfl ?_
    refine p_stP (pre:=[]) (old:=[SL none 0 0,SL none 0 0,SL none 0 0,I 0,I 0,Value.map none,SL none 0 0]) (post:=[]) (vs:=[SL A1 a0.Sections.length c2,SL A4 a0.Turns.length c5,SL A7 a0.Surveys.length c8,I r27.ChainBook.Rule,I r27.ChainBook.Days,Value.map (some m31),SL A32 r27.truths_.length c33]) sz120 S43 (i:=1) rfl rfl rfl rfl (rfl:_=AG [SL A1 a0.Sections.length c2,SL A4 a0.Turns.length c5,SL A7 a0.Surveys.length c8,I r27.ChainBook.Rule,I r27.ChainBook.Days,Value.map (some m31),SL A32 r27.truths_.length c33]) rfl rfl rfl rfl fun w47 S48=>?_
    refine p_aI rfl<|wp_nil ?_
    obtain rfl:=sJ H
    refine c_ret ?_; show bodyPostM (Fr none) 0 Tryd.prog Tryd.f57 _ .ret _ _
    refine ret_of (res2 rfl (rvA rfl ty120 sz120 (S48.atX (i:=1) rfl) rfl) (rvT (rfl:_=I 0))) ?_
    exact ⟨_,rfl,A1,c2,A4,c5,A7,c8,(some m31),A32,c33,rfl,S48.keep,⟨(S48.atP (i:=2) rfl),Al.self (i:=0) rfl⟩,⟨(S48.atP (i:=3) rfl),Al.self (i:=1) rfl⟩,⟨(S48.atP (i:=4) rfl),Al.self (i:=2) rfl⟩,⟨mpo_some (S48.atP (i:=0) rfl),New.mpoS (New.mono n35 S20.keep.size)⟩,⟨(S48.atP (i:=1) rfl),(New.mono n37 S20.keep.size)⟩,trivial⟩
def chain_hull (a0:Span) (a1:Span):Option Span:=
 (chain_least_int a0.Low ([a1.Low]:List Int)).bind fun r22=>
 some (Span.mk r22 (if a1.High > a0.High then a1.High else a0.High))
set_option maxRecDepth 100000 in
theorem chain_hull_ok {a0:Span}{a1:Span}{w:World}{r:Span} (H:chain_hull a0 a1=some r):Calls Tryd.prog 85 #[AG [I a0.Low,I a0.High],AG [I a1.Low,I a1.High]] w (RetV w (AG [I r.Low,I r.High])):=by
 unfold chain_hull at H
 refine fn_of (n:=17) Tryd.func85 rfl rfl (lE rfl) ?_
 have S:=St.start w nF _ nM
 refine c_seq<|reg<|p_boxA rfl S fun b1 w2 S3=>p_boxA rfl S3 fun b4 w5 S6=>p_allA in23 S6 fun b7 w8 S9=>wp_nil<|c_seq ?_
 refine reg_c mixed 12 [4,5,11] (by kernel_rfl) ?_
 refine kS rfl (fun _ k_=>p_fld fl23_0 rfl dn)<|kS rfl (fun _ k_=>p_ld ty3 (aS (S9.atX (i:=2) rfl) k_) rfl rfl dn)<|kS rfl (fun _ k_=>p_fld fl23_0 rfl dn)<|kS rfl (fun _ k_=>p_ld ty3 (aS (S9.atX (i:=1) rfl) k_) rfl rfl dn)<|kC rfl<|kC rfl<|kS rfl (fun _ k_=>p_fld fl23_1 rfl dn)<|kS rfl (fun _ k_=>p_ld ty3 (aS (S9.atX (i:=2) rfl) k_) rfl rfl dn) ?_
 refine kS rfl (fun _ k_=>p_fld fl23_1 rfl dn)<|kS rfl (fun _ k_=>p_ld ty3 (aS (S9.atX (i:=1) rfl) k_) rfl rfl dn)<|kS rfl (fun _ k_=>p_max rfl rfl dn)<|kC rfl ?_
 intro w10 k11; have S12:=S9.call k11
 have S18:=S12.base
 refine p_bsl (enc:=intE) (l:=([a1.Low]:List Int)) I (fun _=>rfl) sc42 in3 intE_len rfl (by decide) (by decide) zr3_1 S18 rfl fun A13 c14 w15 S16=>?_
 refine cN S16.keep fun w19 k20=>?_
 have S21:=(S12.fromBase S16).call k20
 obtain ⟨r22,h23,H⟩:=bindS H
 refine p_cal (chain_least_int_ok h23 (gr_rd intE_len (S21.atX (i:=0) rfl))) fu95 rfl ?_
 rintro _ w24 ⟨rfl,k25⟩; refine cN k25 fun w26 k27=>?_
 have S28:=(S21.call k25).call k27
 refine p_bld (cs:=[I r22,I (if a1.High > a0.High then a1.High else a0.High)]) st23 (rfl:_=[(0,I r22),(1,I (if a1.High > a0.High then a1.High else a0.High))]) (by kernel_rfl) (cN (kR) fun w29 k30=>?_)
 have S31:=S28.call k30
 refine p_stP (pre:=[]) (old:=[I 0,I 0]) (post:=[]) (vs:=[I r22,I (if a1.High > a0.High then a1.High else a0.High)]) sz23 S31 (i:=1) rfl rfl rfl rfl (rfl:_=AG [I r22,I (if a1.High > a0.High then a1.High else a0.High)]) rfl rfl rfl rfl fun w32 S33=>wp_nil ?_
 obtain rfl:=sJ H
 refine c_ret ?_; show bodyPostM (Fr none) 0 Tryd.prog Tryd.f85 _ .ret _ _
 refine ret_of (res1 rfl (rvA rfl ty23 sz23 (S33.atX (i:=1) rfl) rfl)) ?_
 exact ⟨_,rfl,rfl,S33.keep⟩
def chain_book_told_l1 (a0:Chain_book) (a1:Chain_truth→Option Span) (rec_z_1:(Int×Int×Int)→Option Span) (z_1:Int×Int×Int):Option Span:=
 bif decide (z_1.1 < (a0.truths_.length:Int)) then ((getI a0.truths_ z_1.1).bind fun r45=>
 (a1 r45).bind fun r52=>
 (chain_hull (Span.mk z_1.2.1 z_1.2.2) r52).bind fun r54=>
 rec_z_1 (wr (z_1.1+1),r54.Low,r54.High))
 else (some (Span.mk z_1.2.1 z_1.2.2))
def chain_book_told (a0:Chain_book) (a1:Chain_truth→Option Span):Option Span:=
 (getI a0.truths_ 0).bind fun r28=>
 (a1 r28).bind fun r30=>
 loopF (chain_book_told_l1 a0 a1) big (0,r30.Low,r30.High)
set_option maxRecDepth 100000 in
theorem chain_book_told_ok {a0:Chain_book}{a1:Chain_truth→Option Span}{A1:Option Addr}{c2:Nat}{A4:Option Addr}{c5:Nat}{A7:Option Addr}{c8:Nat}{m10:Option Nat}{A12:Option Addr}{c13:Nat}{f15:Nat}{cp16:List Value}{w:World}{r:Span} (H:chain_book_told a0 a1=some r) (h3:(rd eChainSection 4 A1 c2 a0.ChainBook.Sections).ok w) (h6:(rd intE 1 A4 c5 a0.ChainBook.Turns).ok w) (h9:(rd eChainSurvey 4 A7 c8 a0.ChainBook.Surveys).ok w) (h11:(mpo ekC sE m10 a0.read_).ok w) (h14:(rd eChain_truth 12 A12 c13 a0.truths_).ok w) (hF17:funOf Tryd.prog f15=true) (hw18:∀ (y19:Chain_truth) (w21:World) (y20:Span),Keep0 w w21→a1 y19=some y20→Calls Tryd.prog f15 (List.toArray ([AG (sg y19.wears_ 4++sgE eSpan y19.first_ 4)]++cp16)) w21 (RetV w21 (AG [I y20.Low,I y20.High]))):Calls Tryd.prog 63 #[AG [SL A1 a0.ChainBook.Sections.length c2,SL A4 a0.ChainBook.Turns.length c5,SL A7 a0.ChainBook.Surveys.length c8,I a0.ChainBook.Rule,I a0.ChainBook.Days,Value.map m10,SL A12 a0.truths_.length c13],vF (.func f15) #[] cp16.toArray] w (RetV w (AG [I r.Low,I r.High])):=by
 unfold chain_book_told at H
 refine fn_of (n:=28) Tryd.func63 rfl rfl (lE rfl) ?_
 have S:=St.start w nF _ (cA h3 (cA h6 (cA h9 (cA h11 (cA h14 nM)))))
 refine c_seq<|reg<|p_boxA rfl S fun b22 w23 S24=>p_allA in23 S24 fun b25 w26 S27=>wp_nil<|c_seq<|reg<|p_mov (rfl:_=vF (.func f15) #[] cp16.toArray)<|p_fld fl120_2 rfl<|p_ld ty118 (S27.atX (i:=1) rfl) rfl rfl ?_
 obtain ⟨r28,h29,H⟩:=bindS H
 refine p_ixE sc118 h29 (S27.atP (i:=4) rfl).1 rfl rfl rfl<|p_ldEA ty131 sz131 rfl h29 (S27.atP (i:=4) rfl).1 rfl ?_
 obtain ⟨r30,h31,H⟩:=bindS H
 refine p_cv (hw18 _ _ _ S27.keep h31) hF17 rfl S27 ?_
 intro w32 S33
 refine p_allA in23 S33 fun b34 w35 S36=>p_stP (pre:=[]) (old:=[I 0,I 0]) (post:=[]) (vs:=[I r30.Low,I r30.High]) sz23 S36 (i:=0) rfl rfl rfl rfl (rfl:_=AG [I r30.Low,I r30.High]) rfl rfl rfl rfl fun w37 S38=>wp_nil<|c_seq<|c_seq<|reg<|p_fld fl120_2 rfl<|p_ld ty118 (S38.atX (i:=2) rfl) rfl rfl<|p_len rfl sc118<|p_mI rfl<|wp_nil<|c_block ?_
 have S39:=S38.pk [0,1] (by decide) [0,1,2,3,4] rfl rfl
 refine c_lop (α:=Int×Int×Int) (β:=Unit) (chain_book_told_l1 a0 a1) (fun z_1 y_1=>[(1,vF (.func f15) #[] cp16.toArray),(4,P b25 0),(5,P b34 0),(15,SL A12 a0.truths_.length c13),(16,I (a0.truths_.length:Int)),(17,I z_1.1)]) (fun z_1 y_1 w_=>St w nF w_ [bl b34 [I z_1.2.1,I z_1.2.2] 23,bl b25 [I 0,I 0] 23] [rd eChainSection 4 A1 c2 a0.ChainBook.Sections,rd intE 1 A4 c5 a0.ChainBook.Turns,rd eChainSurvey 4 A7 c8 a0.ChainBook.Surveys,mpo ekC sE m10 a0.read_,rd eChain_truth 12 A12 c13 a0.truths_]) (0,r30.Low,r30.High) () H ⟨rfl,rfl,rfl,rfl,rfl,rfl,trivial⟩ S39 ?_
 intro m40 z_1 y_1 e41 w42 H S43
 unfold chain_book_told_l1 at H
 refine c_seq<|reg<|p_cmp rfl rfl rfl<|wp_nil<|c_seq ?_
 refine c_cond rfl (fun c44=>?_) (fun c44=>?_)
 ·replace H:=condT c44 H
  refine c_skip<|c_seq<|c_block<|c_seq<|reg ?_
  obtain ⟨r45,h46,H⟩:=bindS H
  refine p_ixE sc118 h46 (S43.atP (i:=4) rfl).1 rfl rfl rfl<|p_ldEA ty131 sz131 rfl h46 (S43.atP (i:=4) rfl).1 rfl<|p_allA in131 S43 fun b47 w48 S49=>?_
  refine p_stP (pre:=[]) (old:=sg (List.replicate 4 0) 4++sgE eSpan (List.replicate 4 (Span.mk 0 0)) 4) (post:=[]) (vs:=sg r45.wears_ 4++sgE eSpan r45.first_ 4) sz131 S49 (i:=0) rfl rfl rfl rfl (rfl:_=AG (sg r45.wears_ 4++sgE eSpan r45.first_ 4)) rfl rfl rfl rfl fun w50 S51=>wp_nil ?_
  obtain ⟨r52,h53,H⟩:=bindS H
  obtain ⟨r54,h55,H⟩:=bindS H
  refine reg_q mixed 5 (by kernel_rfl) ?_
  refine dS (fun _ k_=>p_ldA ty23 sz23 (aS (S51.atX (i:=1) rfl) k_) rfl rfl dn)<|dS (fun _ k_=>p_mov (rfl:_=vF (.func f15) #[] cp16.toArray) dn)<|dS (fun _ k_=>p_ldA ty131 sz131 (aS (S51.atX (i:=0) rfl) k_) rfl rfl dn)<|dS (fun _ k_=>p_cvD (hw18 _ _ _ (Keep.trans S51.keep k_) h53) hF17 rfl)<|dS (fun _ k_=>p_cvD (chain_hull_ok h55) fu85 rfl) ?_
  intro w56 k57; have S58:=S51.call k57
  refine p_stP (pre:=[]) (old:=[I z_1.2.1,I z_1.2.2]) (post:=[]) (vs:=[I r54.Low,I r54.High]) sz23 S58 (i:=1) rfl rfl rfl rfl (rfl:_=AG [I r54.Low,I r54.High]) rfl rfl rfl rfl fun w59 S60=>wp_nil<|reg<|p_add rfl rfl<|p_mI rfl<|wp_nil ?_
  have S61:=S60.pk [1,2] (by decide) [0,1,2,3,4] rfl rfl
  exact ⟨(wr (z_1.1+1),r54.Low,r54.High),(),_,rfl,⟨rfl,rfl,rfl,rfl,rfl,rfl,trivial⟩,H,S61⟩
 ·replace H:=condF c44 H
  refine c_exit<|c_seq<|reg<|p_ldA ty23 sz23 (S43.atX (i:=0) rfl) rfl rfl<|p_stP (pre:=[]) (old:=[I 0,I 0]) (post:=[]) (vs:=[I z_1.2.1,I z_1.2.2]) sz23 S43 (i:=1) rfl rfl rfl rfl (rfl:_=AG [I z_1.2.1,I z_1.2.2]) rfl rfl rfl rfl fun w62 S63=>wp_nil ?_
  obtain rfl:=sJ H
  refine c_ret ?_; show bodyPostM (Fr none) 0 Tryd.prog Tryd.f63 _ .ret _ _
  refine ret_of (res1 rfl (rvA rfl ty23 sz23 (S63.atX (i:=1) rfl) rfl)) ?_
  exact ⟨_,rfl,rfl,S63.keep⟩
def chain_book_thick_1 (a0:Chain_truth) (q0:Chain_book) (q1:Int) (q2:Int) (q3:List Int):Option Span:=
 (chain_book_worn q0 a0.wears_ q1 q2 q3).bind fun r32=>
 need (inI q1 4)<|
 some (Span.mk (wr (((agetS a0.first_ q1).Low) - r32)) (wr (((agetS a0.first_ q1).High) - r32)))
set_option maxRecDepth 100000 in
theorem chain_book_thick_1_ok {a0:Chain_truth}{q0:Chain_book}{q1:Int}{q2:Int}{q3:List Int}{b1:Nat}{A5:Option Addr}{c6:Nat}{A8:Option Addr}{c9:Nat}{A11:Option Addr}{c12:Nat}{m14:Option Nat}{A16:Option Addr}{c17:Nat}{b2:Nat}{b3:Nat}{b4:Nat}{A22:Option Addr}{c23:Nat}{w:World}{r:Span} (H:chain_book_thick_1 a0 q0 q1 q2 q3=some r) (h25:(bl b4 [SL A22 q3.length c23] 42).ok w) (h21:(bl b3 [I q2] 3).ok w) (h20:(bl b2 [I q1] 3).ok w) (h19:(bl b1 [SL A5 q0.ChainBook.Sections.length c6,SL A8 q0.ChainBook.Turns.length c9,SL A11 q0.ChainBook.Surveys.length c12,I q0.ChainBook.Rule,I q0.ChainBook.Days,Value.map m14,SL A16 q0.truths_.length c17] 120).ok w) (h7:(rd eChainSection 4 A5 c6 q0.ChainBook.Sections).ok w) (h10:(rd intE 1 A8 c9 q0.ChainBook.Turns).ok w) (h13:(rd eChainSurvey 4 A11 c12 q0.ChainBook.Surveys).ok w) (h15:(mpo ekC sE m14 q0.read_).ok w) (h18:(rd eChain_truth 12 A16 c17 q0.truths_).ok w) (h24:(rd intE 1 A22 c23 q3).ok w):Calls Tryd.prog 82 #[AG (sg a0.wears_ 4++sgE eSpan a0.first_ 4),P b1 0,P b2 0,P b3 0,P b4 0] w (RetV w (AG [I r.Low,I r.High])):=by
 unfold chain_book_thick_1 at H
 refine fn_of (n:=29) Tryd.func82 rfl rfl (lE rfl) ?_
 have S:=St.start w nF _ (cA h25 (cA h21 (cA h20 (cA h19 (cA h7 (cA h10 (cA h13 (cA h15 (cA h18 (cA h24 nM))))))))))
 refine c_seq<|reg<|p_boxA rfl S fun b26 w27 S28=>p_allA in23 S28 fun b29 w30 S31=>wp_nil<|c_seq ?_
 obtain ⟨r32,h33,H⟩:=bindS H
 obtain ⟨h34,H⟩:=needS H
 refine reg_c mixed 13 [11] (by kernel_rfl) ?_
 refine kS rfl (fun _ k_=>p_ldA ty120 sz120 (aS (S31.atP (i:=3) rfl) k_) rfl rfl dn)<|kS rfl (fun _ k_=>p_fld fl131_0 rfl dn)<|kS rfl (fun _ k_=>p_ldP (vs:=sg a0.wears_ 4) ty128 sz128 (aS (S31.atX (i:=1) rfl) k_) rfl rfl rfl dn)<|kS rfl (fun _ k_=>p_ld ty3 (aS (S31.atP (i:=2) rfl) k_) rfl rfl dn)<|kS rfl (fun _ k_=>p_ld ty3 (aS (S31.atP (i:=1) rfl) k_) rfl rfl dn) ?_
 refine kS rfl (fun _ k_=>p_ld ty42 (aS (S31.atP (i:=0) rfl) k_) rfl rfl dn)<|kS rfl (fun _ k_=>p_cvD (chain_book_worn_ok h33 (aS (S31.atP (i:=4) rfl) k_) (aS (S31.atP (i:=5) rfl) k_) (aS (S31.atP (i:=6) rfl) k_) (aS (S31.atP (i:=7) rfl) k_) (aS (S31.atP (i:=8) rfl) k_) (aS (S31.atP (i:=9) rfl) k_)) fu83 rfl) ?_
 refine kS rfl (fun _ k_=>p_ld ty3 (aS (S31.atP (i:=2) rfl) k_) rfl rfl dn)<|kS rfl (fun _ k_=>p_fld fl131_1 rfl dn)<|kS rfl (fun _ k_=>p_ixD ar129 h34 rfl rfl dn)<|kS rfl (fun _ k_=>p_ldDA (pre:=sg a0.wears_ 4) (post:=[]) ty23 sz23 (aS (S31.atX (i:=1) rfl) k_) rfl eSpan_len h34 rfl rfl dn)<|kC rfl<|kS rfl (fun _ k_=>p_aI rfl dn) ?_
 intro w35 k36; have S37:=S31.call k36
 have S41:=S37.base
 refine p_allA in23 S41 fun b38 w39 S40=>?_
 refine cN S40.keep fun w42 k43=>?_
 have S44:=(S37.fromBase S40).call k43
 refine p_stP (pre:=[]) (old:=[I 0,I 0]) (post:=[]) (vs:=[I ((agetS a0.first_ q1).Low),I ((agetS a0.first_ q1).High)]) sz23 S44 (i:=0) rfl rfl rfl rfl (rfl:_=AG [I ((agetS a0.first_ q1).Low),I ((agetS a0.first_ q1).High)]) rfl rfl rfl rfl fun w45 S46=>wp_nil<|c_seq<|reg<|p_fld fl23_0 rfl<|p_ld ty3 (S46.atX (i:=0) rfl) rfl rfl<|p_mI rfl<|p_sub rfl rfl<|p_fld fl23_1 rfl ?_
 refine p_ld ty3 (S46.atX (i:=0) rfl) rfl rfl<|p_mI rfl<|p_sub rfl rfl<|p_bld (cs:=[I (wr (((agetS a0.first_ q1).Low) - r32)),I (wr (((agetS a0.first_ q1).High) - r32))]) st23 (rfl:_=[(0,I (wr (((agetS a0.first_ q1).Low) - r32))),(1,I (wr (((agetS a0.first_ q1).High) - r32)))]) (by kernel_rfl) ?_
 refine p_stP (pre:=[]) (old:=[I 0,I 0]) (post:=[]) (vs:=[I (wr (((agetS a0.first_ q1).Low) - r32)),I (wr (((agetS a0.first_ q1).High) - r32))]) sz23 S46 (i:=1) rfl rfl rfl rfl (rfl:_=AG [I (wr (((agetS a0.first_ q1).Low) - r32)),I (wr (((agetS a0.first_ q1).High) - r32))]) rfl rfl rfl rfl fun w47 S48=>wp_nil ?_
 obtain rfl:=sJ H
 refine c_ret ?_; show bodyPostM (Fr none) 0 Tryd.prog Tryd.f82 _ .ret _ _
 refine ret_of (res1 rfl (rvA rfl ty23 sz23 (S48.atX (i:=1) rfl) rfl)) ?_
 exact ⟨_,rfl,rfl,S48.keep⟩
def chain_book_thick (a0:Chain_book) (a1:Int) (a2:Int) (a3:List Int):Option Span:=
 (chain_book_told a0 (fun y33=>chain_book_thick_1 y33 a0 a1 a2 a3)).bind fun r34=>
 some r34
set_option maxRecDepth 100000 in
theorem chain_book_thick_ok {a0:Chain_book}{a1:Int}{a2:Int}{a3:List Int}{A1:Option Addr}{c2:Nat}{A4:Option Addr}{c5:Nat}{A7:Option Addr}{c8:Nat}{m10:Option Nat}{A12:Option Addr}{c13:Nat}{A15:Option Addr}{c16:Nat}{w:World}{r:Span} (H:chain_book_thick a0 a1 a2 a3=some r) (h3:(rd eChainSection 4 A1 c2 a0.ChainBook.Sections).ok w) (h6:(rd intE 1 A4 c5 a0.ChainBook.Turns).ok w) (h9:(rd eChainSurvey 4 A7 c8 a0.ChainBook.Surveys).ok w) (h11:(mpo ekC sE m10 a0.read_).ok w) (h14:(rd eChain_truth 12 A12 c13 a0.truths_).ok w) (h17:(rd intE 1 A15 c16 a3).ok w):Calls Tryd.prog 60 #[AG [SL A1 a0.ChainBook.Sections.length c2,SL A4 a0.ChainBook.Turns.length c5,SL A7 a0.ChainBook.Surveys.length c8,I a0.ChainBook.Rule,I a0.ChainBook.Days,Value.map m10,SL A12 a0.truths_.length c13],I a1,I a2,SL A15 a3.length c16] w (RetV w (AG [I r.Low,I r.High])):=by
 unfold chain_book_thick at H
 refine fn_of (n:=12) Tryd.func60 rfl rfl (lE rfl) ?_
 have S:=St.start w nF _ (cA h3 (cA h6 (cA h9 (cA h11 (cA h14 (cA h17 nM))))))
 refine c_seq<|reg<|p_boxA rfl S fun b18 w19 S20=>p_box (rfl:_=I a1) rfl S20 fun b21 w22 S23=>p_box (rfl:_=I a2) rfl S23 fun b24 w25 S26=>p_box (rfl:_=SL A15 a3.length c16) rfl S26 fun b27 w28 S29=>p_allA in23 S29 fun b30 w31 S32=>wp_nil<|c_seq<|reg<|p_ldA ty120 sz120 (S32.atX (i:=4) rfl) rfl rfl ?_
 refine o_fun (rfl:_=[]) (rfl:_=[P b18 0,P b21 0,P b24 0,P b27 0]) ?_
 obtain ⟨r34,h35,H⟩:=bindS H
 refine p_cv (chain_book_told_ok h35 (S32.atP (i:=0) rfl) (S32.atP (i:=1) rfl) (S32.atP (i:=2) rfl) (S32.atP (i:=3) rfl) (S32.atP (i:=4) rfl) (by kernel_rfl) (fun _ _ _ k_ hr_=>chain_book_thick_1_ok hr_ (aS (S32.atX (i:=1) rfl) k_) (aS (S32.atX (i:=2) rfl) k_) (aS (S32.atX (i:=3) rfl) k_) (aS (S32.atX (i:=4) rfl) k_) (aS (S32.atP (i:=0) rfl) k_) (aS (S32.atP (i:=1) rfl) k_) (aS (S32.atP (i:=2) rfl) k_) (aS (S32.atP (i:=3) rfl) k_) (aS (S32.atP (i:=4) rfl) k_) (aS (S32.atP (i:=5) rfl) k_))) fu63 rfl S32 fun w36 S37=>?_
 refine p_stP (pre:=[]) (old:=[I 0,I 0]) (post:=[]) (vs:=[I r34.Low,I r34.High]) sz23 S37 (i:=0) rfl rfl rfl rfl (rfl:_=AG [I r34.Low,I r34.High]) rfl rfl rfl rfl fun w38 S39=>wp_nil ?_
 obtain rfl:=sJ H
 refine c_ret ?_; show bodyPostM (Fr none) 0 Tryd.prog Tryd.f60 _ .ret _ _
 refine ret_of (res1 rfl (rvA rfl ty23 sz23 (S39.atX (i:=0) rfl) rfl)) ?_
 exact ⟨_,rfl,rfl,S39.keep⟩
def chain_book_first_l2 (a0:Chain_book) (a2:Int) (a1:Int) (a3:List Int) (rec_z_1:Int→Option Int) (z_1:Int):Option Int:=
 bif decide (z_1 < (wr (a0.ChainBook.Days+1))) then (need (inI a2 2)<|
 bif a2==0 then ((chain_book_thick a0 a1 z_1 a3).bind fun r29=>
 (chain_known_may r29 a0.ChainBook.Rule).bind fun r34=>
 bif r34 then (some z_1)
 else (rec_z_1 (wr (z_1+1))))
 else ((chain_book_thick a0 a1 z_1 a3).bind fun r39=>
 (chain_known_surely r39 a0.ChainBook.Rule).bind fun r44=>
 bif r44 then (some z_1)
 else (rec_z_1 (wr (z_1+1)))))
 else (some (wr (a0.ChainBook.Days+1)))
def chain_book_first (a0:Chain_book) (a1:Int) (a2:Int) (a3:List Int):Option Int:=
 loopF (chain_book_first_l2 a0 a2 a1 a3) big 0
set_option maxRecDepth 100000 in
theorem chain_book_first_ok {a0:Chain_book}{a1:Int}{a2:Int}{a3:List Int}{A1:Option Addr}{c2:Nat}{A4:Option Addr}{c5:Nat}{A7:Option Addr}{c8:Nat}{m10:Option Nat}{A12:Option Addr}{c13:Nat}{A15:Option Addr}{c16:Nat}{w:World}{r:Int} (H:chain_book_first a0 a1 a2 a3=some r) (h3:(rd eChainSection 4 A1 c2 a0.ChainBook.Sections).ok w) (h6:(rd intE 1 A4 c5 a0.ChainBook.Turns).ok w) (h9:(rd eChainSurvey 4 A7 c8 a0.ChainBook.Surveys).ok w) (h11:(mpo ekC sE m10 a0.read_).ok w) (h14:(rd eChain_truth 12 A12 c13 a0.truths_).ok w) (h17:(rd intE 1 A15 c16 a3).ok w) (hg18:(gW4).ok w):Calls Tryd.prog 86 #[AG [SL A1 a0.ChainBook.Sections.length c2,SL A4 a0.ChainBook.Turns.length c5,SL A7 a0.ChainBook.Surveys.length c8,I a0.ChainBook.Rule,I a0.ChainBook.Days,Value.map m10,SL A12 a0.truths_.length c13],I a1,I a2,SL A15 a3.length c16] w (RetV w (I r)):=by
 unfold chain_book_first at H
 refine fn_of (n:=35) Tryd.func86 rfl rfl (lE rfl) ?_
 have S:=St.start w nF _ (cA h3 (cA h6 (cA h9 (cA h11 (cA h14 (cA h17 (cA hg18 nM)))))))
 refine c_seq<|reg<|p_boxA rfl S fun b19 w20 S21=>p_aI rfl<|wp_nil<|c_seq<|c_seq<|reg<|p_fld fl120_0 rfl<|p_fld fl63_4 rfl<|p_ld ty3 (S21.atX (i:=0) rfl) rfl rfl<|p_add rfl rfl<|p_mI rfl<|wp_nil<|c_block ?_
 refine c_lop (α:=Int) (β:=Unit) (chain_book_first_l2 a0 a2 a1 a3) (fun z_1 y_1=>[(1,I a1),(2,I a2),(3,SL A15 a3.length c16),(4,P b19 0),(13,I (wr (a0.ChainBook.Days+1))),(14,I z_1)]) (fun z_1 y_1 w_=>St w nF w_ [bl b19 [SL A1 a0.ChainBook.Sections.length c2,SL A4 a0.ChainBook.Turns.length c5,SL A7 a0.ChainBook.Surveys.length c8,I a0.ChainBook.Rule,I a0.ChainBook.Days,Value.map m10,SL A12 a0.truths_.length c13] 120] [rd eChainSection 4 A1 c2 a0.ChainBook.Sections,rd intE 1 A4 c5 a0.ChainBook.Turns,rd eChainSurvey 4 A7 c8 a0.ChainBook.Surveys,mpo ekC sE m10 a0.read_,rd eChain_truth 12 A12 c13 a0.truths_,rd intE 1 A15 c16 a3,gW4]) 0 () H ⟨rfl,rfl,rfl,rfl,rfl,rfl,trivial⟩ S21 ?_
 intro m22 z_1 y_1 e23 w24 H S25
 unfold chain_book_first_l2 at H
 refine c_seq<|reg<|p_cmp rfl rfl rfl<|wp_nil<|c_seq ?_
 refine c_cond rfl (fun c26=>?_) (fun c26=>?_)
 ·replace H:=condT c26 H
  refine c_skip<|c_seq<|c_block<|c_seq<|reg<|p_mI rfl<|p_aI rfl<|wp_nil<|c_seq ?_
  obtain ⟨h27,H⟩:=needS H
  rcases bE (a2==0) with c28 | c28
  ·replace H:=condT c28 H
   obtain ⟨r29,h30,H⟩:=bindS H
   refine reg_q mixed 11 (by kernel_rfl) ?_
   refine dS (fun _ k_=>p_mI rfl dn)<|dS (fun _ k_=>p_ixD ar178 h27 rfl rfl dn)<|dS (fun _ k_=>p_ldF (k:=0) ty177 (aS (S25.atP (i:=6) rfl) k_) (show a2=((0:Nat):Int) from by simpa using c28) rfl rfl dn)<|dS (fun _ k_=>p_ldA ty120 sz120 (aS (S25.atX (i:=0) rfl) k_) rfl rfl dn)<|dS (fun _ k_=>p_mI rfl dn)<|dS (fun _ k_=>p_mI rfl dn)<|dS (fun _ k_=>p_mS rfl dn) ?_
   refine dS (fun _ k_=>p_cvD (chain_book_thick_ok h30 (aS (S25.atP (i:=0) rfl) k_) (aS (S25.atP (i:=1) rfl) k_) (aS (S25.atP (i:=2) rfl) k_) (aS (S25.atP (i:=3) rfl) k_) (aS (S25.atP (i:=4) rfl) k_) (aS (S25.atP (i:=5) rfl) k_)) fu60 rfl)<|dS (fun _ k_=>p_fld fl120_0 rfl dn)<|dS (fun _ k_=>p_fld fl63_3 rfl dn) ?_
   refine dS (fun _ k_=>p_ld ty3 (aS (S25.atX (i:=0) rfl) k_) rfl rfl dn) ?_
   intro w31 k32; have S33:=S25.call k32
   obtain ⟨r34,h35,H⟩:=bindS H
   refine p_cv (chain_known_may_ok h35) fu125 rfl S33 fun w36 S37=>wp_nil ?_
   refine c_cond rfl (fun c38=>?_) (fun c38=>?_)
   ·replace H:=condT c38 H
    refine c_seq<|reg<|p_mI rfl<|p_aI rfl<|wp_nil ?_
    obtain rfl:=sJ H
    exact c_ret (rT Tryd.f86 S37.keep rfl rfl)
   ·replace H:=condF c38 H
    refine c_skip<|reg<|p_add rfl rfl<|p_mI rfl<|wp_nil ?_
    exact ⟨wr (z_1+1),(),_,rfl,⟨rfl,rfl,rfl,rfl,rfl,rfl,trivial⟩,H,S37⟩
  ·replace H:=condF c28 H
   obtain ⟨r39,h40,H⟩:=bindS H
   refine reg_q mixed 11 (by kernel_rfl) ?_
   refine dS (fun _ k_=>p_mI rfl dn)<|dS (fun _ k_=>p_ixD ar178 h27 rfl rfl dn)<|dS (fun _ k_=>p_ldF (k:=1) ty177 (aS (S25.atP (i:=6) rfl) k_) (two_second h27 c28) rfl rfl dn)<|dS (fun _ k_=>p_ldA ty120 sz120 (aS (S25.atX (i:=0) rfl) k_) rfl rfl dn)<|dS (fun _ k_=>p_mI rfl dn)<|dS (fun _ k_=>p_mI rfl dn)<|dS (fun _ k_=>p_mS rfl dn) ?_
   refine dS (fun _ k_=>p_cvD (chain_book_thick_ok h40 (aS (S25.atP (i:=0) rfl) k_) (aS (S25.atP (i:=1) rfl) k_) (aS (S25.atP (i:=2) rfl) k_) (aS (S25.atP (i:=3) rfl) k_) (aS (S25.atP (i:=4) rfl) k_) (aS (S25.atP (i:=5) rfl) k_)) fu60 rfl)<|dS (fun _ k_=>p_fld fl120_0 rfl dn)<|dS (fun _ k_=>p_fld fl63_3 rfl dn) ?_
   refine dS (fun _ k_=>p_ld ty3 (aS (S25.atX (i:=0) rfl) k_) rfl rfl dn) ?_
   intro w41 k42; have S43:=S25.call k42
   obtain ⟨r44,h45,H⟩:=bindS H
   refine p_cv (chain_known_surely_ok h45) fu128 rfl S43 fun w46 S47=>wp_nil ?_
   refine c_cond rfl (fun c48=>?_) (fun c48=>?_)
   ·replace H:=condT c48 H
    refine c_seq<|reg<|p_mI rfl<|p_aI rfl<|wp_nil ?_
    obtain rfl:=sJ H
    exact c_ret (rT Tryd.f86 S47.keep rfl rfl)
   ·replace H:=condF c48 H
    refine c_skip<|reg<|p_add rfl rfl<|p_mI rfl<|wp_nil ?_
    exact ⟨wr (z_1+1),(),_,rfl,⟨rfl,rfl,rfl,rfl,rfl,rfl,trivial⟩,H,S47⟩
 ·replace H:=condF c26 H
  refine c_exit<|c_seq<|reg<|p_fld fl120_0 rfl<|p_fld fl63_4 rfl<|p_ld ty3 (S25.atX (i:=0) rfl) rfl rfl<|p_add rfl rfl<|p_aI rfl<|wp_nil ?_
  obtain rfl:=sJ H
  exact c_ret (rT Tryd.f86 S25.keep rfl rfl)
def chain_day (a0:ChainBook) (a1:Int) (a2:Int):Option (Int×Int):=
 (chain_isSection a0 a1).bind fun r17=>
 (chain_asked a0 r17).bind fun r23=>
 bif (r23.2 != 0) then (some (0,r23.2))
 else ((chain_book_first r23.1 a1 a2 a0.Turns).bind fun r106=>
 bif decide (r106 > a0.Days) then (some (0,4))
 else (some (r106,0)))
set_option maxRecDepth 100000 in
theorem chain_day_ok {a0:ChainBook}{a1:Int}{a2:Int}{A1:Option Addr}{c2:Nat}{A4:Option Addr}{c5:Nat}{A7:Option Addr}{c8:Nat}{w:World}{r:Int×Int} (H:chain_day a0 a1 a2=some r) (h3:(rd eChainSection 4 A1 c2 a0.Sections).ok w) (h6:(rd intE 1 A4 c5 a0.Turns).ok w) (h9:(rd eChainSurvey 4 A7 c8 a0.Surveys).ok w) (hg10:(gW2).ok w) (hg11:(gW4).ok w):Calls Tryd.prog 67 #[AG [SL A1 a0.Sections.length c2,SL A4 a0.Turns.length c5,SL A7 a0.Surveys.length c8,I a0.Rule,I a0.Days],I a1,I a2] w (RetV w (TU [I r.1,I r.2])):=by
 unfold chain_day at H
 refine fn_of (n:=33) Tryd.func67 rfl rfl (lE rfl) ?_
 have S:=St.start w nF _ (cA h3 (cA h6 (cA h9 (cA hg10 (cA hg11 nM)))))
 refine c_seq<|reg<|p_boxA rfl S fun b12 w13 S14=>p_aI rfl<|p_aI rfl<|wp_nil<|c_seq ?_
 obtain ⟨r17,h18,H⟩:=bindS H
 obtain ⟨r23,h24,H⟩:=bindS H
 refine reg_fl mixed 9 7 (by kernel_rfl) [rv (AG [SL A1 a0.Sections.length c2,SL A4 a0.Turns.length c5,SL A7 a0.Surveys.length c8,I a0.Rule,I a0.Days]),rv (AG [SL A1 a0.Sections.length c2,SL A4 a0.Turns.length c5,SL A7 a0.Surveys.length c8,I a0.Rule,I a0.Days]),rv (I a1),rv (B r17),rx (α:=(Option Addr)×Nat×(Option Addr)×Nat×(Option Addr)×Nat×(Option Nat)×(Option Addr)×Nat) (fun ⟨A27,c28,A29,c30,A31,c32,m33,A34,c35⟩=>TU [AG [SL A27 r23.1.ChainBook.Sections.length c28,SL A29 r23.1.ChainBook.Turns.length c30,SL A31 r23.1.ChainBook.Surveys.length c32,I r23.1.ChainBook.Rule,I r23.1.ChainBook.Days,Value.map m33,SL A34 r23.1.truths_.length c35],I r23.2]) (fun ⟨A27,c28,A29,c30,A31,c32,m33,A34,c35⟩ lo hi=>BtwL lo hi [rd eChainSection 4 A1 c2 a0.Sections,rd intE 1 A4 c5 a0.Turns,rd eChainSurvey 4 A7 c8 a0.Surveys] (rd eChainSection 4 A27 c28 r23.1.ChainBook.Sections)∧BtwL lo hi [rd eChainSection 4 A1 c2 a0.Sections,rd intE 1 A4 c5 a0.Turns,rd eChainSurvey 4 A7 c8 a0.Surveys] (rd intE 1 A29 c30 r23.1.ChainBook.Turns)∧BtwL lo hi [rd eChainSection 4 A1 c2 a0.Sections,rd intE 1 A4 c5 a0.Turns,rd eChainSurvey 4 A7 c8 a0.Surveys] (rd eChainSurvey 4 A31 c32 r23.1.ChainBook.Surveys)∧BtwL lo hi [] (mpo ekC sE m33 r23.1.read_)∧BtwL lo hi [] (rd eChain_truth 12 A34 c35 r23.1.truths_)∧True) (fun ⟨A27,c28,A29,c30,A31,c32,m33,A34,c35⟩=>[rd eChainSection 4 A27 c28 r23.1.ChainBook.Sections,rd intE 1 A29 c30 r23.1.ChainBook.Turns,rd eChainSurvey 4 A31 c32 r23.1.ChainBook.Surveys,mpo ekC sE m33 r23.1.read_,rd eChain_truth 12 A34 c35 r23.1.truths_]),dv 16 some,dv 11 (exG 0),dv 11 (exG 1),rx (α:=Nat) (fun b58=>P b58 0) (fun b58 lo hi=>BtwL lo hi [] (bl b58 [SL none 0 0,SL none 0 0,SL none 0 0,I 0,I 0,Value.map none,SL none 0 0] 120)∧True) (fun b58=>[bl b58 [SL none 0 0,SL none 0 0,SL none 0 0,I 0,I 0,Value.map none,SL none 0 0] 120])] [[],[],[],[],[],[16],[11],[11],[]] rfl (by kernel_rfl) [[],[],[],[1,2],[0,1,2,3],[0,1,2,3,4],[0,1,2,3,4,5],[0,1,2,3,4,5],[],[0,1,2,3,4,5,6,8],[0,1,2,3,4,5,6,7,8,9]] (by kernel_rfl) ⟨?_,?_,?_,?_,?_,?_,?_,?_,?_,trivial⟩ ?_ ?_
 ·intro e_ w_ k_ hf_ hR_
  have S_:St w_ nF w_ [] [bl b12 [SL A1 a0.Sections.length c2,SL A4 a0.Turns.length c5,SL A7 a0.Surveys.length c8,I a0.Rule,I a0.Days] 63,rd eChainSection 4 A1 c2 a0.Sections,rd intE 1 A4 c5 a0.Turns,rd eChainSurvey 4 A7 c8 a0.Surveys,gW2,gW4]:=S14.asP k_
  refine hopE [(3,P b12 0)] ⟨((hf_ 3 rfl).trans (rfl:_=P b12 0)),trivial⟩ ?_
  exact p_ldA ty63 sz63 (S_.atP (i:=0) rfl) rfl rfl<|wp_nil ⟨_,rfl,S_.keep,rfl⟩
 ·intro e_ w_ k_ hf_ hR_
  have S_:St w_ nF w_ [] [bl b12 [SL A1 a0.Sections.length c2,SL A4 a0.Turns.length c5,SL A7 a0.Surveys.length c8,I a0.Rule,I a0.Days] 63,rd eChainSection 4 A1 c2 a0.Sections,rd intE 1 A4 c5 a0.Turns,rd eChainSurvey 4 A7 c8 a0.Surveys,gW2,gW4]:=S14.asP k_
  refine hopE [(3,P b12 0)] ⟨((hf_ 3 rfl).trans (rfl:_=P b12 0)),trivial⟩ ?_
  exact p_ldA ty63 sz63 (S_.atP (i:=0) rfl) rfl rfl<|wp_nil ⟨_,rfl,S_.keep,rfl⟩
 ·intro e_ w_ k_ hf_ hR_
  have S_:St w_ nF w_ [] [bl b12 [SL A1 a0.Sections.length c2,SL A4 a0.Turns.length c5,SL A7 a0.Surveys.length c8,I a0.Rule,I a0.Days] 63,rd eChainSection 4 A1 c2 a0.Sections,rd intE 1 A4 c5 a0.Turns,rd eChainSurvey 4 A7 c8 a0.Surveys,gW2,gW4]:=S14.asP k_
  refine hopE [(1,I a1)] ⟨((hf_ 1 rfl).trans (rfl:_=I a1)),trivial⟩ ?_
  exact p_mI rfl<|wp_nil ⟨_,rfl,S_.keep,rfl⟩
 ·intro e_ w_ k_ hf_ hR_
  have S_:St w_ nF w_ [] [bl b12 [SL A1 a0.Sections.length c2,SL A4 a0.Turns.length c5,SL A7 a0.Surveys.length c8,I a0.Rule,I a0.Days] 63,rd eChainSection 4 A1 c2 a0.Sections,rd intE 1 A4 c5 a0.Turns,rd eChainSurvey 4 A7 c8 a0.Surveys,gW2,gW4]:=S14.asP k_
  refine hopE [(13,AG [SL A1 a0.Sections.length c2,SL A4 a0.Turns.length c5,SL A7 a0.Surveys.length c8,I a0.Rule,I a0.Days]),(14,I a1)] ⟨rQ (hR_ 1 13 rfl (lE rfl) rfl),rQ (hR_ 2 14 rfl (lE rfl) rfl),trivial⟩ ?_
  refine p_cv (chain_isSection_ok h18 (S_.atP (i:=1) rfl) (S_.atP (i:=2) rfl) (S_.atP (i:=3) rfl)) fu58 rfl S_ fun w19 S20=>wp_nil ?_
  exact ⟨_,rfl,S20.keep,rfl⟩
 ·intro e_ w_ k_ hf_ hR_
  have S_:St w_ nF w_ [] [bl b12 [SL A1 a0.Sections.length c2,SL A4 a0.Turns.length c5,SL A7 a0.Surveys.length c8,I a0.Rule,I a0.Days] 63,rd eChainSection 4 A1 c2 a0.Sections,rd intE 1 A4 c5 a0.Turns,rd eChainSurvey 4 A7 c8 a0.Surveys,gW2,gW4]:=S14.asP k_
  refine hopE [(12,AG [SL A1 a0.Sections.length c2,SL A4 a0.Turns.length c5,SL A7 a0.Surveys.length c8,I a0.Rule,I a0.Days]),(15,B r17)] ⟨rQ (hR_ 0 12 rfl (lE rfl) rfl),rQ (hR_ 3 15 rfl (lE rfl) rfl),trivial⟩ ?_
  refine p_cal (chain_asked_ok h24 (S_.atP (i:=1) rfl) (S_.atP (i:=2) rfl) (S_.atP (i:=3) rfl) (S_.atP (i:=4) rfl)) fu57 rfl ?_
  rintro _ w25 ⟨A27,c28,A29,c30,A31,c32,m33,A34,c35,rfl,k26,⟨o36,n37⟩,⟨o38,n39⟩,⟨o40,n41⟩,⟨o42,n43⟩,⟨o44,n45⟩,_⟩
  have S46:=S_.callN k26 [rd eChainSection 4 A27 c28 r23.1.ChainBook.Sections,rd intE 1 A29 c30 r23.1.ChainBook.Turns,rd eChainSurvey 4 A31 c32 r23.1.ChainBook.Surveys,mpo ekC sE m33 r23.1.read_,rd eChain_truth 12 A34 c35 r23.1.truths_] (cA ⟨o36,Al.inL n37 ((cA (fp_mem (i:=1) rfl) (cA (fp_mem (i:=2) rfl) (cA (fp_mem (i:=3) rfl) nM))))⟩ (cA ⟨o38,Al.inL n39 ((cA (fp_mem (i:=1) rfl) (cA (fp_mem (i:=2) rfl) (cA (fp_mem (i:=3) rfl) nM))))⟩ (cA ⟨o40,Al.inL n41 ((cA (fp_mem (i:=1) rfl) (cA (fp_mem (i:=2) rfl) (cA (fp_mem (i:=3) rfl) nM))))⟩ (cA ⟨o42,New.inL n43⟩ (cA ⟨o44,New.inL n45⟩ nM)))))
  exact wp_nil ⟨_,rfl,S46.keep,⟨(A27,c28,A29,c30,A31,c32,m33,A34,c35),rfl,⟨bL n37 rfl (S46.atP (i:=0) rfl) rfl,bL n39 rfl (S46.atP (i:=1) rfl) rfl,bL n41 rfl (S46.atP (i:=2) rfl) rfl,bL (New.al (New.mono n43 S_.keep.size)) rfl (S46.atP (i:=3) rfl) rfl,bL (New.al (New.mono n45 S_.keep.size)) rfl (S46.atP (i:=4) rfl) rfl,trivial⟩,(cA (S46.atP (i:=0) rfl) (cA (S46.atP (i:=1) rfl) (cA (S46.atP (i:=2) rfl) (cA (S46.atP (i:=3) rfl) (cA (S46.atP (i:=4) rfl) nM)))))⟩⟩
 ·intro e_ w_ k_ hf_ hR_
  have S_:St w_ nF w_ [] [bl b12 [SL A1 a0.Sections.length c2,SL A4 a0.Turns.length c5,SL A7 a0.Surveys.length c8,I a0.Rule,I a0.Days] 63,rd eChainSection 4 A1 c2 a0.Sections,rd intE 1 A4 c5 a0.Turns,rd eChainSurvey 4 A7 c8 a0.Surveys,gW2,gW4]:=S14.asP k_
  obtain ⟨_,_,_,_,⟨A27,c28,A29,c30,A31,c32,m33,A34,c35⟩,q47,p48,a49⟩:=hR_ 4 16 rfl (lE rfl) rfl
  replace q47:e_ 16=TU [AG [SL A27 r23.1.ChainBook.Sections.length c28,SL A29 r23.1.ChainBook.Turns.length c30,SL A31 r23.1.ChainBook.Surveys.length c32,I r23.1.ChainBook.Rule,I r23.1.ChainBook.Days,Value.map m33,SL A34 r23.1.truths_.length c35],I r23.2]:=q47
  have S_:=St.addL' S_ (a49 _ (.head _)) (fun _ _ _ h_=>(nE h_))
  have S_:=St.addL' S_ (a49 _ (.tail _ (.head _))) (fun _ _ _ h_=>(nE h_))
  have S_:=St.addL' S_ (a49 _ (.tail _ (.tail _ (.head _)))) (fun _ _ _ h_=>(nE h_))
  have S_:=St.addL' S_ (a49 _ (.tail _ (.tail _ (.tail _ (.head _))))) (fun _ _ _ h_=>(nE h_))
  have S_:=St.addL' S_ (a49 _ (.tail _ (.tail _ (.tail _ (.tail _ (.head _)))))) (fun _ _ _ h_=>(nE h_))
  refine hopE [(16,TU [AG [SL A27 r23.1.ChainBook.Sections.length c28,SL A29 r23.1.ChainBook.Turns.length c30,SL A31 r23.1.ChainBook.Surveys.length c32,I r23.1.ChainBook.Rule,I r23.1.ChainBook.Days,Value.map m33,SL A34 r23.1.truths_.length c35],I r23.2])] ⟨q47,trivial⟩ ?_
  refine p_mT rfl<|wp_nil ?_
  exact ⟨_,rfl,S_.keep,rfl⟩
 ·intro e_ w_ k_ hf_ hR_
  have S_:St w_ nF w_ [] [bl b12 [SL A1 a0.Sections.length c2,SL A4 a0.Turns.length c5,SL A7 a0.Surveys.length c8,I a0.Rule,I a0.Days] 63,rd eChainSection 4 A1 c2 a0.Sections,rd intE 1 A4 c5 a0.Turns,rd eChainSurvey 4 A7 c8 a0.Surveys,gW2,gW4]:=S14.asP k_
  obtain ⟨_,_,_,_,⟨A27,c28,A29,c30,A31,c32,m33,A34,c35⟩,q51,p52,a53⟩:=hR_ 4 16 rfl (lE rfl) rfl
  replace q51:e_ 16=TU [AG [SL A27 r23.1.ChainBook.Sections.length c28,SL A29 r23.1.ChainBook.Turns.length c30,SL A31 r23.1.ChainBook.Surveys.length c32,I r23.1.ChainBook.Rule,I r23.1.ChainBook.Days,Value.map m33,SL A34 r23.1.truths_.length c35],I r23.2]:=q51
  have S_:=St.addL' S_ (a53 _ (.head _)) (fun _ _ _ h_=>(nE h_))
  have S_:=St.addL' S_ (a53 _ (.tail _ (.head _))) (fun _ _ _ h_=>(nE h_))
  have S_:=St.addL' S_ (a53 _ (.tail _ (.tail _ (.head _)))) (fun _ _ _ h_=>(nE h_))
  have S_:=St.addL' S_ (a53 _ (.tail _ (.tail _ (.tail _ (.head _))))) (fun _ _ _ h_=>(nE h_))
  have S_:=St.addL' S_ (a53 _ (.tail _ (.tail _ (.tail _ (.tail _ (.head _)))))) (fun _ _ _ h_=>(nE h_))
  obtain ⟨_,_,_,_,q50⟩:=hR_ 5 11 rfl (lE rfl) rfl
  replace q50:e_ 11=TU [AG [SL A27 r23.1.ChainBook.Sections.length c28,SL A29 r23.1.ChainBook.Turns.length c30,SL A31 r23.1.ChainBook.Surveys.length c32,I r23.1.ChainBook.Rule,I r23.1.ChainBook.Days,Value.map m33,SL A34 r23.1.truths_.length c35],I r23.2]:=(sJ ((congrArg some q51).symm.trans q50)).symm
  refine hopE [(11,TU [AG [SL A27 r23.1.ChainBook.Sections.length c28,SL A29 r23.1.ChainBook.Turns.length c30,SL A31 r23.1.ChainBook.Surveys.length c32,I r23.1.ChainBook.Rule,I r23.1.ChainBook.Days,Value.map m33,SL A34 r23.1.truths_.length c35],I r23.2])] ⟨q50,trivial⟩ ?_
  refine p_ext rfl rfl<|wp_nil ?_
  exact ⟨_,rfl,S_.keep,rfl⟩
 ·intro e_ w_ k_ hf_ hR_
  have S_:St w_ nF w_ [] [bl b12 [SL A1 a0.Sections.length c2,SL A4 a0.Turns.length c5,SL A7 a0.Surveys.length c8,I a0.Rule,I a0.Days] 63,rd eChainSection 4 A1 c2 a0.Sections,rd intE 1 A4 c5 a0.Turns,rd eChainSurvey 4 A7 c8 a0.Surveys,gW2,gW4]:=S14.asP k_
  obtain ⟨_,_,_,_,⟨A27,c28,A29,c30,A31,c32,m33,A34,c35⟩,q55,p56,a57⟩:=hR_ 4 16 rfl (lE rfl) rfl
  replace q55:e_ 16=TU [AG [SL A27 r23.1.ChainBook.Sections.length c28,SL A29 r23.1.ChainBook.Turns.length c30,SL A31 r23.1.ChainBook.Surveys.length c32,I r23.1.ChainBook.Rule,I r23.1.ChainBook.Days,Value.map m33,SL A34 r23.1.truths_.length c35],I r23.2]:=q55
  have S_:=St.addL' S_ (a57 _ (.head _)) (fun _ _ _ h_=>(nE h_))
  have S_:=St.addL' S_ (a57 _ (.tail _ (.head _))) (fun _ _ _ h_=>(nE h_))
  have S_:=St.addL' S_ (a57 _ (.tail _ (.tail _ (.head _)))) (fun _ _ _ h_=>(nE h_))
  have S_:=St.addL' S_ (a57 _ (.tail _ (.tail _ (.tail _ (.head _))))) (fun _ _ _ h_=>(nE h_))
  have S_:=St.addL' S_ (a57 _ (.tail _ (.tail _ (.tail _ (.tail _ (.head _)))))) (fun _ _ _ h_=>(nE h_))
  obtain ⟨_,_,_,_,q54⟩:=hR_ 5 11 rfl (lE rfl) rfl
  replace q54:e_ 11=TU [AG [SL A27 r23.1.ChainBook.Sections.length c28,SL A29 r23.1.ChainBook.Turns.length c30,SL A31 r23.1.ChainBook.Surveys.length c32,I r23.1.ChainBook.Rule,I r23.1.ChainBook.Days,Value.map m33,SL A34 r23.1.truths_.length c35],I r23.2]:=(sJ ((congrArg some q55).symm.trans q54)).symm
  refine hopE [(11,TU [AG [SL A27 r23.1.ChainBook.Sections.length c28,SL A29 r23.1.ChainBook.Turns.length c30,SL A31 r23.1.ChainBook.Surveys.length c32,I r23.1.ChainBook.Rule,I r23.1.ChainBook.Days,Value.map m33,SL A34 r23.1.truths_.length c35],I r23.2])] ⟨q54,trivial⟩ ?_
  refine p_ext rfl rfl<|wp_nil ?_
  exact ⟨_,rfl,S_.keep,rfl⟩
 ·intro e_ w_ k_ hf_ hR_
  have S_:St w_ nF w_ [] [bl b12 [SL A1 a0.Sections.length c2,SL A4 a0.Turns.length c5,SL A7 a0.Surveys.length c8,I a0.Rule,I a0.Days] 63,rd eChainSection 4 A1 c2 a0.Sections,rd intE 1 A4 c5 a0.Turns,rd eChainSurvey 4 A7 c8 a0.Surveys,gW2,gW4]:=S14.asP k_
  refine hopE [] trivial ?_
  refine p_allA in120 S_ fun b58 w59 S60=>wp_nil ?_
  exact ⟨_,rfl,S60.keep,⟨b58,rfl,⟨bL (New.al (S60.newX (i:=0) rfl)) rfl (S60.atX (i:=0) rfl) rfl,trivial⟩,(cA (S60.atX (i:=0) rfl) nM)⟩⟩
 ·intro e61 w62 lo63 hi64 k65 hf66 hR67 hd68
  have S69:=S14.call k65
  have q70:e61 12=AG [SL A1 a0.Sections.length c2,SL A4 a0.Turns.length c5,SL A7 a0.Surveys.length c8,I a0.Rule,I a0.Days]:=(hR67 0 12 (lE rfl) rfl).2.2.2
  have q71:e61 13=AG [SL A1 a0.Sections.length c2,SL A4 a0.Turns.length c5,SL A7 a0.Surveys.length c8,I a0.Rule,I a0.Days]:=(hR67 1 13 (lE rfl) rfl).2.2.2
  have q72:e61 14=I a1:=(hR67 2 14 (lE rfl) rfl).2.2.2
  have q73:e61 15=B r17:=(hR67 3 15 (lE rfl) rfl).2.2.2
  obtain ⟨h75,h76,h77,⟨A27,c28,A29,c30,A31,c32,m33,A34,c35⟩,q74,h78,h79⟩:=hR67 4 16 (lE rfl) rfl
  replace q74:e61 16=TU [AG [SL A27 r23.1.ChainBook.Sections.length c28,SL A29 r23.1.ChainBook.Turns.length c30,SL A31 r23.1.ChainBook.Surveys.length c32,I r23.1.ChainBook.Rule,I r23.1.ChainBook.Days,Value.map m33,SL A34 r23.1.truths_.length c35],I r23.2]:=q74
  obtain ⟨p80,p81,p82,p83,p84,_⟩:=h78
  have S85:=St.addR S69 (h79 _ (.head _)) (oR p80 h75 S14 (mG [0,1,2] rfl))
  have S86:=St.addR S85 (h79 _ (.tail _ (.head _))) (oR p81 h75 S14 (mG [0,1,2] rfl))
  have S87:=St.addR S86 (h79 _ (.tail _ (.tail _ (.head _)))) (oR p82 h75 S14 (mG [0,1,2] rfl))
  have S88:=St.addR S87 (h79 _ (.tail _ (.tail _ (.tail _ (.head _))))) (oR p83 h75 S14 (nM))
  have S89:=St.addR S88 (h79 _ (.tail _ (.tail _ (.tail _ (.tail _ (.head _)))))) (oR p84 h75 S14 (nM))
  have q90:e61 11=TU [AG [SL A27 r23.1.ChainBook.Sections.length c28,SL A29 r23.1.ChainBook.Turns.length c30,SL A31 r23.1.ChainBook.Surveys.length c32,I r23.1.ChainBook.Rule,I r23.1.ChainBook.Days,Value.map m33,SL A34 r23.1.truths_.length c35],I r23.2]:=(sJ ((congrArg some q74).symm.trans (hR67 5 11 (lE rfl) rfl).2.2.2)).symm
  have q91:e61 17=AG [SL A27 r23.1.ChainBook.Sections.length c28,SL A29 r23.1.ChainBook.Turns.length c30,SL A31 r23.1.ChainBook.Surveys.length c32,I r23.1.ChainBook.Rule,I r23.1.ChainBook.Days,Value.map m33,SL A34 r23.1.truths_.length c35]:=(sJ ((congrArg (exG 0) q90).symm.trans (hR67 6 17 (lE rfl) rfl).2.2.2)).symm
  have q92:e61 18=I r23.2:=(sJ ((congrArg (exG 1) q90).symm.trans (hR67 7 18 (lE rfl) rfl).2.2.2)).symm
  obtain ⟨h94,h95,h96,b58,q93,h97,h98⟩:=hR67 8 8 (lE rfl) rfl
  replace q93:e61 8=P b58 0:=q93
  obtain ⟨p99,_⟩:=h97
  have S101:=St.addO S89 (h98 _ (.head _)) (oN p99 h94 S14) (cA (oA p99 h94 (S14.atX (i:=0) rfl)) nM) (cA (oP p99 p84 h94 S14 (nM) (hd68 8 4 (lE rfl) (lE rfl) (by decide))) (cA (oP p99 p83 h94 S14 (nM) (hd68 8 4 (lE rfl) (lE rfl) (by decide))) (cA (oP p99 p82 h94 S14 (mG [0,1,2] rfl) (hd68 8 4 (lE rfl) (lE rfl) (by decide))) (cA (oP p99 p81 h94 S14 (mG [0,1,2] rfl) (hd68 8 4 (lE rfl) (lE rfl) (by decide))) (cA (oP p99 p80 h94 S14 (mG [0,1,2] rfl) (hd68 8 4 (lE rfl) (lE rfl) (by decide))) (oL p99 h94 S14))))))
  refine tailE [(1,I a1),(2,I a2),(3,P b12 0),(8,P b58 0),(17,AG [SL A27 r23.1.ChainBook.Sections.length c28,SL A29 r23.1.ChainBook.Turns.length c30,SL A31 r23.1.ChainBook.Surveys.length c32,I r23.1.ChainBook.Rule,I r23.1.ChainBook.Days,Value.map m33,SL A34 r23.1.truths_.length c35]),(18,I r23.2)] ⟨((hf66 1 rfl).trans (rfl:_=I a1)),((hf66 2 rfl).trans (rfl:_=I a2)),((hf66 3 rfl).trans (rfl:_=P b12 0)),q93,q91,q92,trivial⟩ ?_
  intro g102
  refine p_stP (pre:=[]) (old:=[SL none 0 0,SL none 0 0,SL none 0 0,I 0,I 0,Value.map none,SL none 0 0]) (post:=[]) (vs:=[SL A27 r23.1.ChainBook.Sections.length c28,SL A29 r23.1.ChainBook.Turns.length c30,SL A31 r23.1.ChainBook.Surveys.length c32,I r23.1.ChainBook.Rule,I r23.1.ChainBook.Days,Value.map m33,SL A34 r23.1.truths_.length c35]) sz120 S101 (i:=0) rfl rfl rfl rfl (rfl:_=AG [SL A27 r23.1.ChainBook.Sections.length c28,SL A29 r23.1.ChainBook.Turns.length c30,SL A31 r23.1.ChainBook.Surveys.length c32,I r23.1.ChainBook.Rule,I r23.1.ChainBook.Days,Value.map m33,SL A34 r23.1.truths_.length c35]) rfl rfl rfl rfl fun w103 S104=>?_
  refine p_aI rfl<|wp_nil<|c_seq<|c_seq<|reg<|p_mI rfl<|p_cmp rfl rfl rfl<|wp_nil ?_
  refine c_cond rfl (fun c105=>?_) (fun c105=>?_)
  ·replace H:=condT c105 H
   refine c_seq<|reg<|p_mI rfl<|p_aI rfl<|p_aI rfl<|wp_nil ?_
   obtain rfl:=sJ H
   refine c_ret ?_; show bodyPostM (Fr none) 0 Tryd.prog Tryd.f67 _ .ret _ _
   refine ret_of (res2 rfl (rvT (rfl:_=I 0)) (rvT (rfl:_=I r23.2))) ?_
   exact ⟨_,rfl,rfl,S104.keep⟩
  ·replace H:=condF c105 H
   refine c_skip<|c_seq<|reg<|p_ldA ty120 sz120 (S104.atX (i:=0) rfl) rfl rfl<|p_mI rfl<|p_mI rfl<|p_fld fl63_1 rfl<|p_ld ty42 (S104.atX (i:=1) rfl) rfl rfl ?_
   obtain ⟨r106,h107,H⟩:=bindS H
   refine p_cv (chain_book_first_ok h107 (S104.atP (i:=4) rfl) (S104.atP (i:=3) rfl) (S104.atP (i:=2) rfl) (S104.atP (i:=1) rfl) (S104.atP (i:=0) rfl) (S104.atP (i:=6) rfl) (S104.atP (i:=9) rfl)) fu86 rfl S104 fun w108 S109=>p_aI rfl<|wp_nil<|c_seq<|c_seq<|reg<|p_mI rfl<|p_fld fl63_4 rfl<|p_ld ty3 (S109.atX (i:=1) rfl) rfl rfl<|p_cmp rfl rfl rfl<|wp_nil ?_
   refine c_cond rfl (fun c110=>?_) (fun c110=>?_)
   ·replace H:=condT c110 H
    refine c_seq<|reg<|p_aI rfl<|p_aI rfl<|wp_nil ?_
    obtain rfl:=sJ H
    refine c_ret ?_; show bodyPostM (Fr none) 0 Tryd.prog Tryd.f67 _ .ret _ _
    refine ret_of (res2 rfl (rvT (rfl:_=I 0)) (rvT (rfl:_=I 4))) ?_
    exact ⟨_,rfl,rfl,S109.keep⟩
   ·replace H:=condF c110 H
    refine c_skip<|c_seq<|reg<|p_mI rfl<|p_aI rfl<|p_aI rfl<|wp_nil ?_
    obtain rfl:=sJ H
    refine c_ret ?_; show bodyPostM (Fr none) 0 Tryd.prog Tryd.f67 _ .ret _ _
    refine ret_of (res2 rfl (rvT (rfl:_=I r106)) (rvT (rfl:_=I 0))) ?_
    exact ⟨_,rfl,rfl,S109.keep⟩
 ·intro e111 w112 lo113 hi114 k115 hf116 hR117 hd118
  have S119:=S14.call k115
  have q120:e111 12=AG [SL A1 a0.Sections.length c2,SL A4 a0.Turns.length c5,SL A7 a0.Surveys.length c8,I a0.Rule,I a0.Days]:=(hR117 0 12 (lE rfl) (by decide) rfl).2.2.2
  have q121:e111 13=AG [SL A1 a0.Sections.length c2,SL A4 a0.Turns.length c5,SL A7 a0.Surveys.length c8,I a0.Rule,I a0.Days]:=(hR117 1 13 (lE rfl) (by decide) rfl).2.2.2
  have q122:e111 14=I a1:=(hR117 2 14 (lE rfl) (by decide) rfl).2.2.2
  have q123:e111 15=B r17:=(hR117 3 15 (lE rfl) (by decide) rfl).2.2.2
  obtain ⟨h125,h126,h127,⟨A27,c28,A29,c30,A31,c32,m33,A34,c35⟩,q124,h128,h129⟩:=hR117 4 16 (lE rfl) (by decide) rfl
  replace q124:e111 16=TU [AG [SL A27 r23.1.ChainBook.Sections.length c28,SL A29 r23.1.ChainBook.Turns.length c30,SL A31 r23.1.ChainBook.Surveys.length c32,I r23.1.ChainBook.Rule,I r23.1.ChainBook.Days,Value.map m33,SL A34 r23.1.truths_.length c35],I r23.2]:=q124
  obtain ⟨p130,p131,p132,p133,p134,_⟩:=h128
  have S135:=St.addR S119 (h129 _ (.head _)) (oR p130 h125 S14 (mG [0,1,2] rfl))
  have S136:=St.addR S135 (h129 _ (.tail _ (.head _))) (oR p131 h125 S14 (mG [0,1,2] rfl))
  have S137:=St.addR S136 (h129 _ (.tail _ (.tail _ (.head _)))) (oR p132 h125 S14 (mG [0,1,2] rfl))
  have S138:=St.addR S137 (h129 _ (.tail _ (.tail _ (.tail _ (.head _))))) (oR p133 h125 S14 (nM))
  have S139:=St.addR S138 (h129 _ (.tail _ (.tail _ (.tail _ (.tail _ (.head _)))))) (oR p134 h125 S14 (nM))
  have q140:e111 11=TU [AG [SL A27 r23.1.ChainBook.Sections.length c28,SL A29 r23.1.ChainBook.Turns.length c30,SL A31 r23.1.ChainBook.Surveys.length c32,I r23.1.ChainBook.Rule,I r23.1.ChainBook.Days,Value.map m33,SL A34 r23.1.truths_.length c35],I r23.2]:=(sJ ((congrArg some q124).symm.trans (hR117 5 11 (lE rfl) (by decide) rfl).2.2.2)).symm
  have q141:e111 17=AG [SL A27 r23.1.ChainBook.Sections.length c28,SL A29 r23.1.ChainBook.Turns.length c30,SL A31 r23.1.ChainBook.Surveys.length c32,I r23.1.ChainBook.Rule,I r23.1.ChainBook.Days,Value.map m33,SL A34 r23.1.truths_.length c35]:=(sJ ((congrArg (exG 0) q140).symm.trans (hR117 6 17 (lE rfl) (by decide) rfl).2.2.2)).symm
  obtain ⟨h143,h144,h145,b58,q142,h146,h147⟩:=hR117 8 8 (lE rfl) (by decide) rfl
  replace q142:e111 8=P b58 0:=q142
  obtain ⟨p148,_⟩:=h146
  have S150:=St.addO S139 (h147 _ (.head _)) (oN p148 h143 S14) (cA (oA p148 h143 (S14.atX (i:=0) rfl)) nM) (cA (oP p148 p134 h143 S14 (nM) (hd118 8 4 (lE rfl) (lE rfl) (by decide) (by decide) (by decide))) (cA (oP p148 p133 h143 S14 (nM) (hd118 8 4 (lE rfl) (lE rfl) (by decide) (by decide) (by decide))) (cA (oP p148 p132 h143 S14 (mG [0,1,2] rfl) (hd118 8 4 (lE rfl) (lE rfl) (by decide) (by decide) (by decide))) (cA (oP p148 p131 h143 S14 (mG [0,1,2] rfl) (hd118 8 4 (lE rfl) (lE rfl) (by decide) (by decide) (by decide))) (cA (oP p148 p130 h143 S14 (mG [0,1,2] rfl) (hd118 8 4 (lE rfl) (lE rfl) (by decide) (by decide) (by decide))) (oL p148 h143 S14))))))
  refine tailE [(1,I a1),(2,I a2),(3,P b12 0),(8,P b58 0),(11,TU [AG [SL A27 r23.1.ChainBook.Sections.length c28,SL A29 r23.1.ChainBook.Turns.length c30,SL A31 r23.1.ChainBook.Surveys.length c32,I r23.1.ChainBook.Rule,I r23.1.ChainBook.Days,Value.map m33,SL A34 r23.1.truths_.length c35],I r23.2]),(17,AG [SL A27 r23.1.ChainBook.Sections.length c28,SL A29 r23.1.ChainBook.Turns.length c30,SL A31 r23.1.ChainBook.Surveys.length c32,I r23.1.ChainBook.Rule,I r23.1.ChainBook.Days,Value.map m33,SL A34 r23.1.truths_.length c35])] ⟨((hf116 1 rfl).trans (rfl:_=I a1)),((hf116 2 rfl).trans (rfl:_=I a2)),((hf116 3 rfl).trans (rfl:_=P b12 0)),q142,q140,q141,trivial⟩ ?_
  intro g151
  refine p_stP (pre:=[]) (old:=[SL none 0 0,SL none 0 0,SL none 0 0,I 0,I 0,Value.map none,SL none 0 0]) (post:=[]) (vs:=[SL A27 r23.1.ChainBook.Sections.length c28,SL A29 r23.1.ChainBook.Turns.length c30,SL A31 r23.1.ChainBook.Surveys.length c32,I r23.1.ChainBook.Rule,I r23.1.ChainBook.Days,Value.map m33,SL A34 r23.1.truths_.length c35]) sz120 S150 (i:=0) rfl rfl rfl rfl (rfl:_=AG [SL A27 r23.1.ChainBook.Sections.length c28,SL A29 r23.1.ChainBook.Turns.length c30,SL A31 r23.1.ChainBook.Surveys.length c32,I r23.1.ChainBook.Rule,I r23.1.ChainBook.Days,Value.map m33,SL A34 r23.1.truths_.length c35]) rfl rfl rfl rfl fun w152 S153=>?_
  refine p_ext rfl rfl<|p_aI rfl<|wp_nil<|c_seq<|c_seq<|reg<|p_mI rfl<|p_cmp rfl rfl rfl<|wp_nil ?_
  refine c_cond rfl (fun c154=>?_) (fun c154=>?_)
  ·replace H:=condT c154 H
   refine c_seq<|reg<|p_mI rfl<|p_aI rfl<|p_aI rfl<|wp_nil ?_
   obtain rfl:=sJ H
   refine c_ret ?_; show bodyPostM (Fr none) 0 Tryd.prog Tryd.f67 _ .ret _ _
   refine ret_of (res2 rfl (rvT (rfl:_=I 0)) (rvT (rfl:_=I r23.2))) ?_
   exact ⟨_,rfl,rfl,S153.keep⟩
  ·replace H:=condF c154 H
   refine c_skip<|c_seq<|reg<|p_ldA ty120 sz120 (S153.atX (i:=0) rfl) rfl rfl<|p_mI rfl<|p_mI rfl<|p_fld fl63_1 rfl<|p_ld ty42 (S153.atX (i:=1) rfl) rfl rfl ?_
   obtain ⟨r155,h156,H⟩:=bindS H
   refine p_cv (chain_book_first_ok h156 (S153.atP (i:=4) rfl) (S153.atP (i:=3) rfl) (S153.atP (i:=2) rfl) (S153.atP (i:=1) rfl) (S153.atP (i:=0) rfl) (S153.atP (i:=6) rfl) (S153.atP (i:=9) rfl)) fu86 rfl S153 fun w157 S158=>p_aI rfl<|wp_nil<|c_seq<|c_seq<|reg<|p_mI rfl<|p_fld fl63_4 rfl<|p_ld ty3 (S158.atX (i:=1) rfl) rfl rfl<|p_cmp rfl rfl rfl<|wp_nil ?_
   refine c_cond rfl (fun c159=>?_) (fun c159=>?_)
   ·replace H:=condT c159 H
    refine c_seq<|reg<|p_aI rfl<|p_aI rfl<|wp_nil ?_
    obtain rfl:=sJ H
    refine c_ret ?_; show bodyPostM (Fr none) 0 Tryd.prog Tryd.f67 _ .ret _ _
    refine ret_of (res2 rfl (rvT (rfl:_=I 0)) (rvT (rfl:_=I 4))) ?_
    exact ⟨_,rfl,rfl,S158.keep⟩
   ·replace H:=condF c159 H
    refine c_skip<|c_seq<|reg<|p_mI rfl<|p_aI rfl<|p_aI rfl<|wp_nil ?_
    obtain rfl:=sJ H
    refine c_ret ?_; show bodyPostM (Fr none) 0 Tryd.prog Tryd.f67 _ .ret _ _
    refine ret_of (res2 rfl (rvT (rfl:_=I r155)) (rvT (rfl:_=I 0))) ?_
    exact ⟨_,rfl,rfl,S158.keep⟩
def chain_Thin (a0:ChainBook) (a1:Int):Option (Int×Int):=
 (chain_day a0 a1 0).bind fun r15=>
 some (r15.1,r15.2)
set_option maxRecDepth 100000 in
theorem chain_Thin_ok {a0:ChainBook}{a1:Int}{A1:Option Addr}{c2:Nat}{A4:Option Addr}{c5:Nat}{A7:Option Addr}{c8:Nat}{w:World}{r:Int×Int} (H:chain_Thin a0 a1=some r) (h3:(rd eChainSection 4 A1 c2 a0.Sections).ok w) (h6:(rd intE 1 A4 c5 a0.Turns).ok w) (h9:(rd eChainSurvey 4 A7 c8 a0.Surveys).ok w) (hg10:(gW2).ok w) (hg11:(gW4).ok w):Calls Tryd.prog 34 #[AG [SL A1 a0.Sections.length c2,SL A4 a0.Turns.length c5,SL A7 a0.Surveys.length c8,I a0.Rule,I a0.Days],I a1] w (RetV w (TU [I r.1,I r.2])):=by
 unfold chain_Thin at H
 refine fn_of (n:=11) Tryd.func34 rfl rfl (lE rfl) ?_
 have S:=St.start w nF _ (cA h3 (cA h6 (cA h9 (cA hg10 (cA hg11 nM)))))
 refine c_seq<|reg<|p_boxA rfl S fun b12 w13 S14=>p_aI rfl<|p_aI rfl<|wp_nil<|c_seq<|reg<|p_ldA ty63 sz63 (S14.atX (i:=0) rfl) rfl rfl<|p_mI rfl ?_
 obtain ⟨r15,h16,H⟩:=bindS H
 refine p_cv (chain_day_ok h16 (S14.atP (i:=0) rfl) (S14.atP (i:=1) rfl) (S14.atP (i:=2) rfl) (S14.atP (i:=3) rfl) (S14.atP (i:=4) rfl)) fu67 rfl S14 fun w17 S18=>p_ext rfl rfl<|p_ext rfl rfl<|p_aI rfl<|p_aI rfl<|wp_nil ?_
 obtain rfl:=sJ H
 refine c_ret ?_; show bodyPostM (Fr none) 0 Tryd.prog Tryd.f34 _ .ret _ _
 refine ret_of (res2 rfl (rvT (rfl:_=I r15.1)) (rvT (rfl:_=I r15.2))) ?_
 exact ⟨_,rfl,rfl,S18.keep⟩
def law_burned06:Option Bool:=
 (law_grate06 [(CoalDip.mk 1 27 0),(CoalDip.mk 2 25 1)]).bind fun r11=>
 (coal_Heap (CoalBook.mk r11.Heap r11.Eats r11.Extra r11.Days r11.Collier r11.Brings [(CoalDip.mk 1 27 0),(CoalDip.mk 2 25 1)]) 2).bind fun r26=>
 (law_trips06 (CoalBook.mk r11.Heap r11.Eats r11.Extra r11.Days r11.Collier r11.Brings [(CoalDip.mk 1 27 0),(CoalDip.mk 2 25 1)])).bind fun r35=>
 (tally_Many r35 0 2).bind fun r45=>
 (coal_Wind (CoalBook.mk r11.Heap r11.Eats r11.Extra r11.Days r11.Collier r11.Brings [(CoalDip.mk 1 27 0),(CoalDip.mk 2 25 1)]) 0).bind fun r54=>
 (B_Point 9).bind fun r58=>
 (B_Point 2).bind fun r62=>
 (chain_Thin (ChainBook.mk ([(ChainSection.mk r58 r62)]:List ChainSection) ([]:List Int) ([]:List ChainSurvey) 4 4) 0).bind fun r71=>
 (law_trips06 (CoalBook.mk r11.Heap r11.Eats r11.Extra r11.Days r11.Collier r11.Brings [(CoalDip.mk 1 27 0),(CoalDip.mk 2 25 1)])).bind fun r75=>
 (tally_Right r75).bind fun r85=>
 bif (r26.2==0) then (bif (r45.2==0) then (bif (r54.2==0) then (bif (r71.2==0) then (bif (r85.2==0) then ((B_Range 25 26).bind fun r94=>
 bif ((r26.1.Low==r94.Low)&&(r26.1.High==r94.High)) then ((B_Range 4 5).bind fun r97=>
 bif ((r45.1.Low==r97.Low)&&(r45.1.High==r97.High)) then (bif (r54.1==6) then (bif (r71.1==3) then (some r85.1)
 else (some false))
 else (some false))
 else (some false))
 else (some false))
 else (some false))
 else (some false))
 else (some false))
 else (some false))
 else (some false)
end Go.Proofs.YtblfippmobpaaaaDoor
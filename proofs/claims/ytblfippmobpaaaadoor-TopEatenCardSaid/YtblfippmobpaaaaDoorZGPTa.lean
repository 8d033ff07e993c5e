/- What the law's function computes, and that it does, printed by a program of mine. -/
import Derived.Test.YtblfippmobpaaaaDoorZGWArgs
import Derived.KernelRfl
set_option linter.unusedVariables false
set_option linter.unusedSimpArgs false
namespace Go.Proofs.YtblfippmobpaaaaDoor
open Go Go.Fx Go.Proofs
def law_TopEaten_l1 (r160:Int×Int) (r164:Span×Int) (rec_z_1:Int→Option Bool) (z_1:Int):Option Bool:=
 bif decide (z_1 < 3) then ((B_Member r160.1 z_1).bind fun r201=>
 (B_Contains r164.1 z_1).bind fun r203=>
 bif (r201 != r203) then (some false)
 else (rec_z_1 (wr (z_1+1))))
 else ((law_burned06).bind fun r209=>
 some r209)
def law_TopEaten (a0:CoalBook) (a1:Int):Option Bool:=
 (law_small06 a0).bind fun r15=>
 bif !r15 then ((law_burned06).bind fun r20=>
 some r20)
 else ((law_plain06 a0).bind fun r24=>
 (law_trips06 r24).bind fun r43=>
 (B_Mod a1 (a0.Days.length:Int)).bind fun r57=>
 (coal_Right r24).bind fun r100=>
 (tally_Right r43).bind fun r104=>
 (coal_Wrong r24).bind fun r108=>
 (tally_Wrong r43).bind fun r118=>
 bif (r100.2 != 0) then (some false)
 else (bif (r104.2 != 0) then (some false)
 else (bif (r108.2 != 0) then (some false)
 else (bif (r118.2 != 0) then (some false)
 else (bif (r100.1 != r104.1) then (some false)
 else ((B_Alike r108.1 r118.1).bind fun r132=>
 bif !r132 then (some false)
 else (bif !r100.1 then ((law_burned06).bind fun r138=>
 some r138)
 else ((coal_Heap r24 r57).bind fun r142=>
 (tally_Many r43 0 r57).bind fun r151=>
 (coal_Wind r24 r57).bind fun r160=>
 (tally_Many r43 r57 r57).bind fun r164=>
 bif (r142.2 != 0) then (some false)
 else (bif (r151.2 != 0) then (some false)
 else (bif (r160.2 != 0) then (some false)
 else (bif (r164.2 != 0) then (some false)
 else ((B_Range (wr (r24.Heap.Low - r151.1.High)) (wr (r24.Heap.Low - r151.1.Low))).bind fun r189=>
 bif !((r142.1.Low==r189.Low)&&(r142.1.High==r189.High)) then (some false)
 else (loopF (law_TopEaten_l1 r160 r164) big 0)))))))))))))
set_option maxRecDepth 100000 in
theorem law_TopEaten_ok {a0:CoalBook}{a1:Int}{A1:Option Addr}{c2:Nat}{A4:Option Addr}{c5:Nat}{w:World}{r:Bool} (H:law_TopEaten a0 a1=some r) (h3:(rd eCoalDay 3 A1 c2 a0.Days).ok w) (h6:(rd eCoalDip 3 A4 c5 a0.Dips).ok w) (hg7:(gW0).ok w) (hg8:(gW1).ok w) (hg9:(gW2).ok w) (hg10:(gW3).ok w) (hg11:(gW4).ok w):Calls Tryd.prog 3 #[AG ([I a0.Heap.Low,I a0.Heap.High]++(sgE eSpan a0.Eats 2++(sg a0.Extra 3++[SL A1 a0.Days.length c2,I a0.Collier.Low,I a0.Collier.High,I a0.Brings,SL A4 a0.Dips.length c5]))),I a1] w (RetV w (B r)):=by
 unfold law_TopEaten at H
 refine fn_of (n:=150) Tryd.func3 rfl rfl (lE rfl) ?_
 have S:=St.start w nF _ (cA h3 (cA h6 (cA hg7 (cA hg8 (cA hg9 (cA hg10 (cA hg11 nM)))))))
 refine c_seq<|reg<|p_boxA rfl S fun b12 w13 S14=>p_aB rfl<|wp_nil<|c_seq<|c_seq<|reg<|p_ldA ty29 sz29 (S14.atX (i:=0) rfl) rfl rfl ?_
 obtain ⟨r15,h16,H⟩:=bindS H
 refine p_cv (law_small06_ok h16 (S14.atP (i:=0) rfl) (S14.atP (i:=1) rfl)) fu5 rfl S14 fun w17 S18=>p_not rfl<|wp_nil ?_
 refine c_cond rfl (fun c19=>?_) (fun c19=>?_)
 ·replace H:=condT c19 H
  refine c_seq<|reg ?_
  obtain ⟨r20,h21,H⟩:=bindS H
  refine p_cv (law_burned06_ok h21 (S18.atP (i:=2) rfl) (S18.atP (i:=3) rfl) (S18.atP (i:=4) rfl) (S18.atP (i:=5) rfl) (S18.atP (i:=6) rfl)) fu6 rfl S18 fun w22 S23=>p_aB rfl<|wp_nil ?_
  obtain rfl:=sJ H
  exact c_ret (rT Tryd.f3 S23.keep rfl rfl)
 ·replace H:=condF c19 H
  refine c_skip<|c_seq<|reg<|p_ldA ty29 sz29 (S18.atX (i:=0) rfl) rfl rfl ?_
  obtain ⟨r24,h25,H⟩:=bindS H
  refine p_cal (law_plain06_ok h25 (S18.atP (i:=0) rfl) (S18.atP (i:=1) rfl)) fu7 rfl ?_
  rintro _ w26 ⟨A28,c29,A30,c31,rfl,k27,⟨o32,n33⟩,⟨o34,n35⟩,_⟩
  have S36:=S18.callN k27 [rd eCoalDay 3 A28 c29 r24.Days,rd eCoalDip 3 A30 c31 r24.Dips] (cA ⟨o32,New.inL n33⟩ (cA ⟨o34,New.inL n35⟩ nM))
  refine p_allA in29 S36 fun b37 w38 S39=>?_
  refine p_stP (pre:=[]) (old:=[I 0,I 0]++(sgE eSpan (List.replicate 2 (Span.mk 0 0)) 2++(sg (List.replicate 3 0) 3++[SL none 0 0,I 0,I 0,I 0,SL none 0 0]))) (post:=[]) (vs:=[I r24.Heap.Low,I r24.Heap.High]++(sgE eSpan r24.Eats 2++(sg r24.Extra 3++[SL A28 r24.Days.length c29,I r24.Collier.Low,I r24.Collier.High,I r24.Brings,SL A30 r24.Dips.length c31]))) sz29 S39 (i:=0) rfl rfl rfl rfl (rfl:_=AG ([I r24.Heap.Low,I r24.Heap.High]++(sgE eSpan r24.Eats 2++(sg r24.Extra 3++[SL A28 r24.Days.length c29,I r24.Collier.Low,I r24.Collier.High,I r24.Brings,SL A30 r24.Dips.length c31])))) rfl rfl rfl rfl fun w40 S41=>?_
  refine wp_nil<|c_seq ?_
  obtain ⟨r43,h44,H⟩:=bindS H
  obtain ⟨r57,h58,H⟩:=bindS H
  refine reg_any mixed 8 (by kernel_rfl) [rv (AG ([I r24.Heap.Low,I r24.Heap.High]++(sgE eSpan r24.Eats 2++(sg r24.Extra 3++[SL A28 r24.Days.length c29,I r24.Collier.Low,I r24.Collier.High,I r24.Brings,SL A30 r24.Dips.length c31])))),rx (α:=(Option Addr)×Nat) (fun ⟨A47,c48⟩=>AG [I r43.Trips,I r43.Room,SL A47 r43.Counts.length c48]) (fun ⟨A47,c48⟩ lo hi=>BtwL lo hi [] (gr eTallyCount 7 81 A47 c48 r43.Counts)∧True) (fun ⟨A47,c48⟩=>[gr eTallyCount 7 81 A47 c48 r43.Counts]),rv (I a1),rv (P b12 9),rv (SL A1 a0.Days.length c2),rv (I (a0.Days.length:Int)),rv (I r57),rx (α:=Nat) (fun b61=>P b61 0) (fun b61 lo hi=>BtwL lo hi [] (bl b61 [I 0,I 0,SL none 0 0] 35)∧True) (fun b61=>[bl b61 [I 0,I 0,SL none 0 0] 35])] [[],[],[],[],[],[],[],[]] rfl (by kernel_rfl) [[],[0],[],[],[3],[3,4],[0,1,2,3,4,5],[],[0,1,2,3,4,5,6,7],[0,1,2,3,4,5,6,7,8]] (by kernel_rfl) ⟨?_,?_,?_,?_,?_,?_,?_,?_,trivial⟩ ?_
  ·intro e_ w_ k_ hf_ hR_
   have S_:St w_ nF w_ [] [bl b37 ([I r24.Heap.Low,I r24.Heap.High]++(sgE eSpan r24.Eats 2++(sg r24.Extra 3++[SL A28 r24.Days.length c29,I r24.Collier.Low,I r24.Collier.High,I r24.Brings,SL A30 r24.Dips.length c31]))) 29,bl b12 ([I a0.Heap.Low,I a0.Heap.High]++(sgE eSpan a0.Eats 2++(sg a0.Extra 3++[SL A1 a0.Days.length c2,I a0.Collier.Low,I a0.Collier.High,I a0.Brings,SL A4 a0.Dips.length c5]))) 29,rd eCoalDay 3 A28 c29 r24.Days,rd eCoalDip 3 A30 c31 r24.Dips,rd eCoalDay 3 A1 c2 a0.Days,rd eCoalDip 3 A4 c5 a0.Dips,gW0,gW1,gW2,gW3,gW4]:=S41.asP k_
   refine hopE [(5,P b37 0)] ⟨((hf_ 5 rfl).trans (rfl:_=P b37 0)),trivial⟩ ?_
   exact p_ldA ty29 sz29 (S_.atP (i:=0) rfl) rfl rfl<|wp_nil ⟨_,rfl,S_.keep,rfl⟩
  ·intro e_ w_ k_ hf_ hR_
   have S_:St w_ nF w_ [] [bl b37 ([I r24.Heap.Low,I r24.Heap.High]++(sgE eSpan r24.Eats 2++(sg r24.Extra 3++[SL A28 r24.Days.length c29,I r24.Collier.Low,I r24.Collier.High,I r24.Brings,SL A30 r24.Dips.length c31]))) 29,bl b12 ([I a0.Heap.Low,I a0.Heap.High]++(sgE eSpan a0.Eats 2++(sg a0.Extra 3++[SL A1 a0.Days.length c2,I a0.Collier.Low,I a0.Collier.High,I a0.Brings,SL A4 a0.Dips.length c5]))) 29,rd eCoalDay 3 A28 c29 r24.Days,rd eCoalDip 3 A30 c31 r24.Dips,rd eCoalDay 3 A1 c2 a0.Days,rd eCoalDip 3 A4 c5 a0.Dips,gW0,gW1,gW2,gW3,gW4]:=S41.asP k_
   refine hopE [(27,AG ([I r24.Heap.Low,I r24.Heap.High]++(sgE eSpan r24.Eats 2++(sg r24.Extra 3++[SL A28 r24.Days.length c29,I r24.Collier.Low,I r24.Collier.High,I r24.Brings,SL A30 r24.Dips.length c31]))))] ⟨rQ (hR_ 0 27 rfl (lE rfl) rfl),trivial⟩ ?_
   refine p_cal (law_trips06_ok h44 (S_.atP (i:=2) rfl) (S_.atP (i:=3) rfl)) fu8 rfl ?_
   rintro _ w45 ⟨A47,c48,rfl,k46,⟨o49,n50⟩,_⟩
   have S52:=S_.addNew k46 o49 n50
   exact wp_nil ⟨_,rfl,S52.keep,⟨(A47,c48),rfl,⟨bL (New.al (S52.newX (i:=0) rfl)) rfl (S52.atX (i:=0) rfl) rfl,trivial⟩,(cA (S52.atX (i:=0) rfl) nM)⟩⟩
  ·intro e_ w_ k_ hf_ hR_
   have S_:St w_ nF w_ [] [bl b37 ([I r24.Heap.Low,I r24.Heap.High]++(sgE eSpan r24.Eats 2++(sg r24.Extra 3++[SL A28 r24.Days.length c29,I r24.Collier.Low,I r24.Collier.High,I r24.Brings,SL A30 r24.Dips.length c31]))) 29,bl b12 ([I a0.Heap.Low,I a0.Heap.High]++(sgE eSpan a0.Eats 2++(sg a0.Extra 3++[SL A1 a0.Days.length c2,I a0.Collier.Low,I a0.Collier.High,I a0.Brings,SL A4 a0.Dips.length c5]))) 29,rd eCoalDay 3 A28 c29 r24.Days,rd eCoalDip 3 A30 c31 r24.Dips,rd eCoalDay 3 A1 c2 a0.Days,rd eCoalDip 3 A4 c5 a0.Dips,gW0,gW1,gW2,gW3,gW4]:=S41.asP k_
   refine hopE [(1,I a1)] ⟨((hf_ 1 rfl).trans (rfl:_=I a1)),trivial⟩ ?_
   exact p_mI rfl<|wp_nil ⟨_,rfl,S_.keep,rfl⟩
  ·intro e_ w_ k_ hf_ hR_
   have S_:St w_ nF w_ [] [bl b37 ([I r24.Heap.Low,I r24.Heap.High]++(sgE eSpan r24.Eats 2++(sg r24.Extra 3++[SL A28 r24.Days.length c29,I r24.Collier.Low,I r24.Collier.High,I r24.Brings,SL A30 r24.Dips.length c31]))) 29,bl b12 ([I a0.Heap.Low,I a0.Heap.High]++(sgE eSpan a0.Eats 2++(sg a0.Extra 3++[SL A1 a0.Days.length c2,I a0.Collier.Low,I a0.Collier.High,I a0.Brings,SL A4 a0.Dips.length c5]))) 29,rd eCoalDay 3 A28 c29 r24.Days,rd eCoalDip 3 A30 c31 r24.Dips,rd eCoalDay 3 A1 c2 a0.Days,rd eCoalDip 3 A4 c5 a0.Dips,gW0,gW1,gW2,gW3,gW4]:=S41.asP k_
   refine hopE [(2,P b12 0)] ⟨((hf_ 2 rfl).trans (rfl:_=P b12 0)),trivial⟩ ?_
   refine p_fld fl29_3 rfl<|wp_nil ?_
   exact ⟨_,rfl,S_.keep,rfl⟩
  ·intro e_ w_ k_ hf_ hR_
   have S_:St w_ nF w_ [] [bl b37 ([I r24.Heap.Low,I r24.Heap.High]++(sgE eSpan r24.Eats 2++(sg r24.Extra 3++[SL A28 r24.Days.length c29,I r24.Collier.Low,I r24.Collier.High,I r24.Brings,SL A30 r24.Dips.length c31]))) 29,bl b12 ([I a0.Heap.Low,I a0.Heap.High]++(sgE eSpan a0.Eats 2++(sg a0.Extra 3++[SL A1 a0.Days.length c2,I a0.Collier.Low,I a0.Collier.High,I a0.Brings,SL A4 a0.Dips.length c5]))) 29,rd eCoalDay 3 A28 c29 r24.Days,rd eCoalDip 3 A30 c31 r24.Dips,rd eCoalDay 3 A1 c2 a0.Days,rd eCoalDip 3 A4 c5 a0.Dips,gW0,gW1,gW2,gW3,gW4]:=S41.asP k_
   refine hopE [(30,P b12 9)] ⟨rQ (hR_ 3 30 rfl (lE rfl) rfl),trivial⟩ ?_
   exact p_ld ty26 (S_.atP (i:=1) rfl) rfl rfl<|wp_nil ⟨_,rfl,S_.keep,rfl⟩
  ·intro e_ w_ k_ hf_ hR_
   have S_:St w_ nF w_ [] [bl b37 ([I r24.Heap.Low,I r24.Heap.High]++(sgE eSpan r24.Eats 2++(sg r24.Extra 3++[SL A28 r24.Days.length c29,I r24.Collier.Low,I r24.Collier.High,I r24.Brings,SL A30 r24.Dips.length c31]))) 29,bl b12 ([I a0.Heap.Low,I a0.Heap.High]++(sgE eSpan a0.Eats 2++(sg a0.Extra 3++[SL A1 a0.Days.length c2,I a0.Collier.Low,I a0.Collier.High,I a0.Brings,SL A4 a0.Dips.length c5]))) 29,rd eCoalDay 3 A28 c29 r24.Days,rd eCoalDip 3 A30 c31 r24.Dips,rd eCoalDay 3 A1 c2 a0.Days,rd eCoalDip 3 A4 c5 a0.Dips,gW0,gW1,gW2,gW3,gW4]:=S41.asP k_
   refine hopE [(31,SL A1 a0.Days.length c2)] ⟨rQ (hR_ 4 31 rfl (lE rfl) rfl),trivial⟩ ?_
   refine p_len rfl sc26<|wp_nil ?_
   exact ⟨_,rfl,S_.keep,rfl⟩
  ·intro e_ w_ k_ hf_ hR_
   have S_:St w_ nF w_ [] [bl b37 ([I r24.Heap.Low,I r24.Heap.High]++(sgE eSpan r24.Eats 2++(sg r24.Extra 3++[SL A28 r24.Days.length c29,I r24.Collier.Low,I r24.Collier.High,I r24.Brings,SL A30 r24.Dips.length c31]))) 29,bl b12 ([I a0.Heap.Low,I a0.Heap.High]++(sgE eSpan a0.Eats 2++(sg a0.Extra 3++[SL A1 a0.Days.length c2,I a0.Collier.Low,I a0.Collier.High,I a0.Brings,SL A4 a0.Dips.length c5]))) 29,rd eCoalDay 3 A28 c29 r24.Days,rd eCoalDip 3 A30 c31 r24.Dips,rd eCoalDay 3 A1 c2 a0.Days,rd eCoalDip 3 A4 c5 a0.Dips,gW0,gW1,gW2,gW3,gW4]:=S41.asP k_
   refine hopE [(29,I a1),(32,I (a0.Days.length:Int))] ⟨rQ (hR_ 2 29 rfl (lE rfl) rfl),rQ (hR_ 5 32 rfl (lE rfl) rfl),trivial⟩ ?_
   refine p_cv (B_Mod_ok h58) fu9 rfl S_ fun w59 S60=>wp_nil ?_
   exact ⟨_,rfl,S60.keep,rfl⟩
  ·intro e_ w_ k_ hf_ hR_
   have S_:St w_ nF w_ [] [bl b37 ([I r24.Heap.Low,I r24.Heap.High]++(sgE eSpan r24.Eats 2++(sg r24.Extra 3++[SL A28 r24.Days.length c29,I r24.Collier.Low,I r24.Collier.High,I r24.Brings,SL A30 r24.Dips.length c31]))) 29,bl b12 ([I a0.Heap.Low,I a0.Heap.High]++(sgE eSpan a0.Eats 2++(sg a0.Extra 3++[SL A1 a0.Days.length c2,I a0.Collier.Low,I a0.Collier.High,I a0.Brings,SL A4 a0.Dips.length c5]))) 29,rd eCoalDay 3 A28 c29 r24.Days,rd eCoalDip 3 A30 c31 r24.Dips,rd eCoalDay 3 A1 c2 a0.Days,rd eCoalDip 3 A4 c5 a0.Dips,gW0,gW1,gW2,gW3,gW4]:=S41.asP k_
   refine hopE [] trivial ?_
   refine p_allA in35 S_ fun b61 w62 S63=>wp_nil ?_
   exact ⟨_,rfl,S63.keep,⟨b61,rfl,⟨bL (New.al (S63.newX (i:=0) rfl)) rfl (S63.atX (i:=0) rfl) rfl,trivial⟩,(cA (S63.atX (i:=0) rfl) nM)⟩⟩
  intro e64 w65 lo66 hi67 k68 hf69 hR70 hd71
  have S72:=S41.call k68
  have q73:e64 27=AG ([I r24.Heap.Low,I r24.Heap.High]++(sgE eSpan r24.Eats 2++(sg r24.Extra 3++[SL A28 r24.Days.length c29,I r24.Collier.Low,I r24.Collier.High,I r24.Brings,SL A30 r24.Dips.length c31]))):=(hR70 0 27 (lE rfl) rfl).2.2.2
  obtain ⟨h75,h76,h77,⟨A47,c48⟩,q74,h78,h79⟩:=hR70 1 28 (lE rfl) rfl
  replace q74:e64 28=AG [I r43.Trips,I r43.Room,SL A47 r43.Counts.length c48]:=q74
  obtain ⟨p80,_⟩:=h78
  have q82:e64 29=I a1:=(hR70 2 29 (lE rfl) rfl).2.2.2
  have q83:e64 30=P b12 9:=(hR70 3 30 (lE rfl) rfl).2.2.2
  have q84:e64 31=SL A1 a0.Days.length c2:=(hR70 4 31 (lE rfl) rfl).2.2.2
  have q85:e64 32=I (a0.Days.length:Int):=(hR70 5 32 (lE rfl) rfl).2.2.2
  have q86:e64 33=I r57:=(hR70 6 33 (lE rfl) rfl).2.2.2
  obtain ⟨h88,h89,h90,b61,q87,h91,h92⟩:=hR70 7 6 (lE rfl) rfl
  replace q87:e64 6=P b61 0:=q87
  obtain ⟨p93,_⟩:=h91
  have S95:=St.addO S72 (h79 _ (.head _)) (oN p80 h75 S41) (oX p80 h75 S41) (oL p80 h75 S41)
  have S96:=St.addO S95 (h92 _ (.head _)) (oN p93 h88 S41) (cA (oP p93 p80 h88 S41 (nM) (hd71 7 1 (lE rfl) (lE rfl) (by decide))) (oX p93 h88 S41)) (oL p93 h88 S41)
  refine tailE [(5,P b37 0),(6,P b61 0),(28,AG [I r43.Trips,I r43.Room,SL A47 r43.Counts.length c48]),(33,I r57)] ⟨((hf69 5 rfl).trans (rfl:_=P b37 0)),q87,q74,q86,trivial⟩ ?_
  intro g97
  refine p_stP (pre:=[]) (old:=[I 0,I 0,SL none 0 0]) (post:=[]) (vs:=[I r43.Trips,I r43.Room,SL A47 r43.Counts.length c48]) sz35 S96 (i:=0) rfl rfl rfl rfl (rfl:_=AG [I r43.Trips,I r43.Room,SL A47 r43.Counts.length c48]) rfl rfl rfl rfl fun w98 S99=>p_aI rfl<|wp_nil<|c_seq<|reg<|p_ldA ty29 sz29 (S99.atX (i:=2) rfl) rfl rfl ?_
  obtain ⟨r100,h101,H⟩:=bindS H
  refine p_cv (coal_Right_ok h101 (S99.atP (i:=0) rfl) (S99.atP (i:=1) rfl) (S99.atP (i:=4) rfl)) fu10 rfl S99 fun w102 S103=>p_mT rfl<|p_ext rfl rfl<|p_ext rfl rfl<|p_aB rfl<|p_aI rfl<|wp_nil<|c_seq<|reg<|p_ldA ty35 sz35 (S103.atX (i:=0) rfl) rfl rfl ?_
  obtain ⟨r104,h105,H⟩:=bindS H
  refine p_cv (tally_Right_ok h105 (gr_rd eTallyCount_len (S103.atX (i:=1) rfl)) (S103.atP (i:=5) rfl) (S103.atP (i:=7) rfl)) fu11 rfl S103 fun w106 S107=>p_mT rfl<|p_ext rfl rfl<|p_ext rfl rfl<|p_aB rfl<|p_aI rfl<|wp_nil<|c_seq<|reg<|p_ldA ty29 sz29 (S107.atX (i:=2) rfl) rfl rfl ?_
  obtain ⟨r108,h109,H⟩:=bindS H
  refine p_cal (coal_Wrong_ok h109 (S107.atP (i:=0) rfl) (S107.atP (i:=1) rfl) (S107.atP (i:=4) rfl)) fu12 rfl ?_
  rintro _ w110 ⟨A112,c113,rfl,k111,⟨o114,n115⟩,_⟩
  have S116:=S107.callN k111 [rd intE 1 A112 c113 r108.1] (cA ⟨o114,Al.inL n115 ((cA (fp_mem (i:=0) rfl) (cA (fp_mem (i:=1) rfl) nM)))⟩ nM)
  refine p_mT rfl<|p_ext rfl rfl<|p_ext rfl rfl<|p_aS rfl<|p_aI rfl<|wp_nil<|c_seq<|reg<|p_ldA ty35 sz35 (S116.atX (i:=0) rfl) rfl rfl ?_
  have S117:=S116.fixRd eTallyCount_len (i:=1) rfl
  obtain ⟨r118,h119,H⟩:=bindS H
  refine p_cal (tally_Wrong_ok h119 (S117.atP (i:=0) rfl) (S117.atP (i:=7) rfl) (S117.atP (i:=9) rfl)) fu13 rfl ?_
  rintro _ w120 ⟨A122,c123,rfl,k121,⟨o124,n125⟩,_⟩
  have S126:=S117.callN k121 [rd intE 1 A122 c123 r118.1] (cA ⟨o124,Al.inL n125 ((cA (fp_mem (i:=0) rfl) nM))⟩ nM)
  refine p_mT rfl<|p_ext rfl rfl<|p_ext rfl rfl<|p_aS rfl<|p_aI rfl<|wp_nil<|c_seq<|c_seq<|reg<|p_mI rfl<|p_cmp rfl rfl rfl<|p_mB rfl ?_
  rcases bE ((r100.2 != 0)) with c127 | c127
  ·replace H:=condT c127 H
   refine eB c127<|gF rfl rfl<|gF rfl rfl<|p_pkT rfl (rfl:_=B true)<|p_mB rfl<|gF rfl rfl<|gF rfl rfl<|p_pkT rfl (rfl:_=B true)<|p_mB rfl<|gF rfl rfl<|gF rfl rfl<|p_pkT rfl (rfl:_=B true)<|p_mB rfl<|gF rfl rfl<|gF rfl rfl<|gF rfl rfl<|p_pkT rfl (rfl:_=B true)<|p_mB rfl<|gF rfl rfl<|gF rfl rfl<|gF rfl rfl<|gF rfl rfl<|p_pkT rfl (rfl:_=B true)<|wp_nil<|c_true rfl<|c_seq<|reg<|p_aB rfl<|wp_nil ?_
   obtain rfl:=sJ H
   exact c_ret (rT Tryd.f3 S126.keep rfl rfl)
  ·replace H:=condF c127 H
   refine eB c127 ?_
   refine gT rfl rfl (p_mI rfl ?_)
   refine gT rfl rfl (p_cmp rfl rfl rfl ?_)
   refine p_pkF rfl (rfl:_=B (r104.2 != 0))<|p_mB rfl ?_
   rcases bE ((r104.2 != 0)) with c128 | c128
   ·replace H:=condT c128 H
    refine eB c128<|gF rfl rfl<|gF rfl rfl<|p_pkT rfl (rfl:_=B true)<|p_mB rfl<|gF rfl rfl<|gF rfl rfl<|p_pkT rfl (rfl:_=B true)<|p_mB rfl<|gF rfl rfl<|gF rfl rfl<|gF rfl rfl<|p_pkT rfl (rfl:_=B true)<|p_mB rfl<|gF rfl rfl<|gF rfl rfl<|gF rfl rfl<|gF rfl rfl<|p_pkT rfl (rfl:_=B true)<|wp_nil<|c_true rfl<|c_seq<|reg<|p_aB rfl<|wp_nil ?_
    obtain rfl:=sJ H
    exact c_ret (rT Tryd.f3 S126.keep rfl rfl)
   ·replace H:=condF c128 H
    refine eB c128 ?_
    refine gT rfl rfl (p_mI rfl ?_)
    refine gT rfl rfl (p_cmp rfl rfl rfl ?_)
    refine p_pkF rfl (rfl:_=B (r108.2 != 0))<|p_mB rfl ?_
    rcases bE ((r108.2 != 0)) with c129 | c129
    ·replace H:=condT c129 H
     refine eB c129<|gF rfl rfl<|gF rfl rfl<|p_pkT rfl (rfl:_=B true)<|p_mB rfl<|gF rfl rfl<|gF rfl rfl<|gF rfl rfl<|p_pkT rfl (rfl:_=B true)<|p_mB rfl<|gF rfl rfl<|gF rfl rfl<|gF rfl rfl<|gF rfl rfl<|p_pkT rfl (rfl:_=B true)<|wp_nil<|c_true rfl<|c_seq<|reg<|p_aB rfl<|wp_nil ?_
     obtain rfl:=sJ H
     exact c_ret (rT Tryd.f3 S126.keep rfl rfl)
    ·replace H:=condF c129 H
     refine eB c129 ?_
     refine gT rfl rfl (p_mI rfl ?_)
     refine gT rfl rfl (p_cmp rfl rfl rfl ?_)
     refine p_pkF rfl (rfl:_=B (r118.2 != 0))<|p_mB rfl ?_
     rcases bE ((r118.2 != 0)) with c130 | c130
     ·replace H:=condT c130 H
      refine eB c130<|gF rfl rfl<|gF rfl rfl<|gF rfl rfl<|p_pkT rfl (rfl:_=B true)<|p_mB rfl<|gF rfl rfl<|gF rfl rfl<|gF rfl rfl<|gF rfl rfl<|p_pkT rfl (rfl:_=B true)<|wp_nil<|c_true rfl<|c_seq<|reg<|p_aB rfl<|wp_nil ?_
      obtain rfl:=sJ H
      exact c_ret (rT Tryd.f3 S126.keep rfl rfl)
     ·replace H:=condF c130 H
      refine eB c130 ?_
      refine gT rfl rfl (p_mB rfl ?_)
      refine gT rfl rfl (p_mB rfl ?_)
      refine gT rfl rfl (o_neB rfl rfl ub4 ?_)
      refine p_pkF rfl (rfl:_=B (r100.1 != r104.1))<|p_mB rfl ?_
      rcases bE ((r100.1 != r104.1)) with c131 | c131
      ·replace H:=condT c131 H
       refine eB c131<|gF rfl rfl<|gF rfl rfl<|gF rfl rfl<|gF rfl rfl<|p_pkT rfl (rfl:_=B true)<|wp_nil<|c_true rfl<|c_seq<|reg<|p_aB rfl<|wp_nil ?_
       obtain rfl:=sJ H
       exact c_ret (rT Tryd.f3 S126.keep rfl rfl)
      ·replace H:=condF c131 H
       refine eB c131 ?_
       refine gT rfl rfl (p_mS rfl ?_)
       refine gT rfl rfl (p_mS rfl ?_)
       obtain ⟨r132,h133,H⟩:=bindS H
       refine gT rfl rfl (p_cv (B_Alike_ok h133 (S126.atP (i:=2) rfl) (S126.atP (i:=0) rfl)) fu14 rfl S126 fun w134 S135=>?_)
       refine gT rfl rfl (p_not rfl ?_)
       refine p_pkF rfl (rfl:_=B (!r132))<|wp_nil ?_
       refine c_cond rfl (fun c136=>?_) (fun c136=>?_)
       ·replace H:=condT c136 H
        refine c_seq<|reg<|p_aB rfl<|wp_nil ?_
        obtain rfl:=sJ H
        exact c_ret (rT Tryd.f3 S135.keep rfl rfl)
       ·replace H:=condF c136 H
        refine c_skip<|c_seq<|c_seq<|reg<|p_mB rfl<|p_not rfl<|wp_nil ?_
        refine c_cond rfl (fun c137=>?_) (fun c137=>?_)
        ·replace H:=condT c137 H
         refine c_seq<|reg ?_
         obtain ⟨r138,h139,H⟩:=bindS H
         refine p_cv (law_burned06_ok h139 (S135.atP (i:=7) rfl) (S135.atP (i:=8) rfl) (S135.atP (i:=9) rfl) (S135.atP (i:=10) rfl) (S135.atP (i:=11) rfl)) fu6 rfl S135 fun w140 S141=>p_aB rfl<|wp_nil ?_
         obtain rfl:=sJ H
         exact c_ret (rT Tryd.f3 S141.keep rfl rfl)
        ·replace H:=condF c137 H
         refine c_skip<|c_seq<|reg<|p_ldA ty29 sz29 (S135.atX (i:=1) rfl) rfl rfl<|p_mI rfl ?_
         obtain ⟨r142,h143,H⟩:=bindS H
         refine p_cv (coal_Heap_ok h143 (S135.atP (i:=3) rfl) (S135.atP (i:=4) rfl) (S135.atP (i:=7) rfl)) fu15 rfl S135 fun w144 S145=>p_mT rfl<|p_ext rfl rfl<|p_ext rfl rfl<|p_allA in23 S145 fun b146 w147 S148=>p_stP (pre:=[]) (old:=[I 0,I 0]) (post:=[]) (vs:=[I r142.1.Low,I r142.1.High]) sz23 S148 (i:=0) rfl rfl rfl rfl (rfl:_=AG [I r142.1.Low,I r142.1.High]) rfl rfl rfl rfl fun w149 S150=>?_
         refine p_aI rfl<|wp_nil<|c_seq<|reg<|p_ldA ty35 sz35 (S150.atX (i:=1) rfl) rfl rfl<|p_mI rfl ?_
         obtain ⟨r151,h152,H⟩:=bindS H
         refine p_cv (tally_Many_ok h152 (S150.atP (i:=1) rfl) (S150.atP (i:=8) rfl) (S150.atP (i:=10) rfl)) fu16 rfl S150 fun w153 S154=>p_mT rfl<|p_ext rfl rfl<|p_ext rfl rfl<|p_allA in23 S154 fun b155 w156 S157=>?_
         refine p_stP (pre:=[]) (old:=[I 0,I 0]) (post:=[]) (vs:=[I r151.1.Low,I r151.1.High]) sz23 S157 (i:=0) rfl rfl rfl rfl (rfl:_=AG [I r151.1.Low,I r151.1.High]) rfl rfl rfl rfl fun w158 S159=>p_aI rfl<|wp_nil<|c_seq<|reg<|p_ldA ty29 sz29 (S159.atX (i:=3) rfl) rfl rfl<|p_mI rfl ?_
         obtain ⟨r160,h161,H⟩:=bindS H
         refine p_cv (coal_Wind_ok h161 (S159.atP (i:=3) rfl) (S159.atP (i:=4) rfl) (S159.atP (i:=7) rfl)) fu17 rfl S159 fun w162 S163=>p_mT rfl<|p_ext rfl rfl<|p_ext rfl rfl<|p_aI rfl<|p_aI rfl<|wp_nil<|c_seq<|reg<|p_ldA ty35 sz35 (S163.atX (i:=2) rfl) rfl rfl<|p_mI rfl<|p_mI rfl ?_
         obtain ⟨r164,h165,H⟩:=bindS H
         refine p_cv (tally_Many_ok h165 (S163.atP (i:=1) rfl) (S163.atP (i:=8) rfl) (S163.atP (i:=10) rfl)) fu16 rfl S163 fun w166 S167=>p_mT rfl<|p_ext rfl rfl<|p_ext rfl rfl<|p_allA in23 S167 fun b168 w169 S170=>?_
         refine p_stP (pre:=[]) (old:=[I 0,I 0]) (post:=[]) (vs:=[I r164.1.Low,I r164.1.High]) sz23 S170 (i:=0) rfl rfl rfl rfl (rfl:_=AG [I r164.1.Low,I r164.1.High]) rfl rfl rfl rfl fun w171 S172=>p_aI rfl<|wp_nil<|c_seq<|c_seq ?_
         rcases bE ((r142.2 != 0)) with c173 | c173
         ·replace H:=condT c173 H
          refine reg_q mixed 31 (by kernel_rfl) ?_
          refine dS (fun _ k_=>p_mI rfl dn)<|dS (fun _ k_=>p_cmp rfl rfl rfl dn)<|dS (fun _ k_=>p_mB rfl dn)<|dB c173<|dF rfl rfl<|dF rfl rfl<|dS (fun _ k_=>p_pkT rfl (rfl:_=B true) dn)<|dS (fun _ k_=>p_mB rfl dn)<|dF rfl rfl<|dF rfl rfl<|dS (fun _ k_=>p_pkT rfl (rfl:_=B true) dn)<|dS (fun _ k_=>p_mB rfl dn) ?_
          refine dF rfl rfl<|dF rfl rfl<|dS (fun _ k_=>p_pkT rfl (rfl:_=B true) dn)<|dS (fun _ k_=>p_mB rfl dn)<|dF rfl rfl<|dF rfl rfl<|dF rfl rfl<|dF rfl rfl<|dF rfl rfl<|dF rfl rfl<|dF rfl rfl<|dF rfl rfl ?_
          refine dF rfl rfl<|dF rfl rfl<|dF rfl rfl<|dF rfl rfl<|dF rfl rfl<|dF rfl rfl<|dF rfl rfl<|dS (fun _ k_=>p_pkT rfl (rfl:_=B true) dn) ?_
          intro w174 k175; have S176:=S172.call k175
          refine wp_nil<|c_true rfl<|c_seq<|reg<|p_aB rfl<|wp_nil ?_
          obtain rfl:=sJ H
          exact c_ret (rT Tryd.f3 S176.keep rfl rfl)
         ·replace H:=condF c173 H
          rcases bE ((r151.2 != 0)) with c177 | c177
          ·replace H:=condT c177 H
           refine reg_q mixed 31 (by kernel_rfl) ?_
           refine dS (fun _ k_=>p_mI rfl dn)<|dS (fun _ k_=>p_cmp rfl rfl rfl dn)<|dS (fun _ k_=>p_mB rfl dn)<|dB c173<|dS (fun _ k_=>gT rfl rfl (p_mI rfl dn))<|dS (fun _ k_=>gT rfl rfl (p_cmp rfl rfl rfl dn))<|dS (fun _ k_=>p_pkF rfl (rfl:_=B (r151.2 != 0)) dn)<|dS (fun _ k_=>p_mB rfl dn)<|dB c177<|dF rfl rfl<|dF rfl rfl<|dS (fun _ k_=>p_pkT rfl (rfl:_=B true) dn) ?_
           refine dS (fun _ k_=>p_mB rfl dn)<|dF rfl rfl<|dF rfl rfl<|dS (fun _ k_=>p_pkT rfl (rfl:_=B true) dn)<|dS (fun _ k_=>p_mB rfl dn)<|dF rfl rfl<|dF rfl rfl<|dF rfl rfl<|dF rfl rfl<|dF rfl rfl<|dF rfl rfl<|dF rfl rfl ?_
           refine dF rfl rfl<|dF rfl rfl<|dF rfl rfl<|dF rfl rfl<|dF rfl rfl<|dF rfl rfl<|dF rfl rfl<|dF rfl rfl<|dS (fun _ k_=>p_pkT rfl (rfl:_=B true) dn) ?_
           intro w178 k179; have S180:=S172.call k179
           refine wp_nil<|c_true rfl<|c_seq<|reg<|p_aB rfl<|wp_nil ?_
           obtain rfl:=sJ H
           exact c_ret (rT Tryd.f3 S180.keep rfl rfl)
          ·replace H:=condF c177 H
           rcases bE ((r160.2 != 0)) with c181 | c181
           ·replace H:=condT c181 H
            refine reg_q mixed 31 (by kernel_rfl) ?_
            refine dS (fun _ k_=>p_mI rfl dn)<|dS (fun _ k_=>p_cmp rfl rfl rfl dn)<|dS (fun _ k_=>p_mB rfl dn)<|dB c173<|dS (fun _ k_=>gT rfl rfl (p_mI rfl dn))<|dS (fun _ k_=>gT rfl rfl (p_cmp rfl rfl rfl dn))<|dS (fun _ k_=>p_pkF rfl (rfl:_=B (r151.2 != 0)) dn)<|dS (fun _ k_=>p_mB rfl dn)<|dB c177<|dS (fun _ k_=>gT rfl rfl (p_mI rfl dn))<|dS (fun _ k_=>gT rfl rfl (p_cmp rfl rfl rfl dn)) ?_
            refine dS (fun _ k_=>p_pkF rfl (rfl:_=B (r160.2 != 0)) dn)<|dS (fun _ k_=>p_mB rfl dn)<|dB c181<|dF rfl rfl<|dF rfl rfl<|dS (fun _ k_=>p_pkT rfl (rfl:_=B true) dn)<|dS (fun _ k_=>p_mB rfl dn)<|dF rfl rfl<|dF rfl rfl<|dF rfl rfl<|dF rfl rfl<|dF rfl rfl ?_
            refine dF rfl rfl<|dF rfl rfl<|dF rfl rfl<|dF rfl rfl<|dF rfl rfl<|dF rfl rfl<|dF rfl rfl<|dF rfl rfl<|dF rfl rfl<|dF rfl rfl<|dS (fun _ k_=>p_pkT rfl (rfl:_=B true) dn) ?_
            intro w182 k183; have S184:=S172.call k183
            refine wp_nil<|c_true rfl<|c_seq<|reg<|p_aB rfl<|wp_nil ?_
            obtain rfl:=sJ H
            exact c_ret (rT Tryd.f3 S184.keep rfl rfl)
           ·replace H:=condF c181 H
            rcases bE ((r164.2 != 0)) with c185 | c185
            ·replace H:=condT c185 H
             refine reg_q mixed 31 (by kernel_rfl) ?_
             refine dS (fun _ k_=>p_mI rfl dn)<|dS (fun _ k_=>p_cmp rfl rfl rfl dn)<|dS (fun _ k_=>p_mB rfl dn)<|dB c173<|dS (fun _ k_=>gT rfl rfl (p_mI rfl dn))<|dS (fun _ k_=>gT rfl rfl (p_cmp rfl rfl rfl dn))<|dS (fun _ k_=>p_pkF rfl (rfl:_=B (r151.2 != 0)) dn)<|dS (fun _ k_=>p_mB rfl dn)<|dB c177<|dS (fun _ k_=>gT rfl rfl (p_mI rfl dn))<|dS (fun _ k_=>gT rfl rfl (p_cmp rfl rfl rfl dn)) ?_
             refine dS (fun _ k_=>p_pkF rfl (rfl:_=B (r160.2 != 0)) dn)<|dS (fun _ k_=>p_mB rfl dn)<|dB c181<|dS (fun _ k_=>gT rfl rfl (p_mI rfl dn))<|dS (fun _ k_=>gT rfl rfl (p_cmp rfl rfl rfl dn))<|dS (fun _ k_=>p_pkF rfl (rfl:_=B (r164.2 != 0)) dn)<|dS (fun _ k_=>p_mB rfl dn)<|dB c185<|dF rfl rfl<|dF rfl rfl<|dF rfl rfl<|dF rfl rfl ?_
             refine dF rfl rfl<|dF rfl rfl<|dF rfl rfl<|dF rfl rfl<|dF rfl rfl<|dF rfl rfl<|dF rfl rfl<|dF rfl rfl<|dF rfl rfl<|dF rfl rfl<|dF rfl rfl<|dS (fun _ k_=>p_pkT rfl (rfl:_=B true) dn) ?_
             intro w186 k187; have S188:=S172.call k187
             refine wp_nil<|c_true rfl<|c_seq<|reg<|p_aB rfl<|wp_nil ?_
             obtain rfl:=sJ H
             exact c_ret (rT Tryd.f3 S188.keep rfl rfl)
            ·replace H:=condF c185 H
             obtain ⟨r189,h190,H⟩:=bindS H
             refine reg_q mixed 31 (by kernel_rfl) ?_
             refine dS (fun _ k_=>p_mI rfl dn)<|dS (fun _ k_=>p_cmp rfl rfl rfl dn)<|dS (fun _ k_=>p_mB rfl dn)<|dB c173<|dS (fun _ k_=>gT rfl rfl (p_mI rfl dn))<|dS (fun _ k_=>gT rfl rfl (p_cmp rfl rfl rfl dn))<|dS (fun _ k_=>p_pkF rfl (rfl:_=B (r151.2 != 0)) dn)<|dS (fun _ k_=>p_mB rfl dn)<|dB c177<|dS (fun _ k_=>gT rfl rfl (p_mI rfl dn))<|dS (fun _ k_=>gT rfl rfl (p_cmp rfl rfl rfl dn)) ?_
             refine dS (fun _ k_=>p_pkF rfl (rfl:_=B (r160.2 != 0)) dn)<|dS (fun _ k_=>p_mB rfl dn)<|dB c181<|dS (fun _ k_=>gT rfl rfl (p_mI rfl dn))<|dS (fun _ k_=>gT rfl rfl (p_cmp rfl rfl rfl dn))<|dS (fun _ k_=>p_pkF rfl (rfl:_=B (r164.2 != 0)) dn)<|dS (fun _ k_=>p_mB rfl dn)<|dB c185<|dS (fun _ k_=>gT rfl rfl (p_ldA ty23 sz23 (aS (S172.atX (i:=2) rfl) k_) rfl rfl dn)) ?_
             refine dS (fun _ k_=>gT rfl rfl (p_fld fl29_0 rfl dn))<|dS (fun _ k_=>gT rfl rfl (p_fld fl23_0 rfl dn))<|dS (fun _ k_=>gT rfl rfl (p_ld ty3 (aS (S172.atX (i:=4) rfl) k_) rfl rfl dn))<|dS (fun _ k_=>gT rfl rfl (p_fld fl23_1 rfl dn))<|dS (fun _ k_=>gT rfl rfl (p_ld ty3 (aS (S172.atX (i:=1) rfl) k_) rfl rfl dn))<|dS (fun _ k_=>gT rfl rfl (p_sub rfl rfl dn)) ?_
             refine dS (fun _ k_=>gT rfl rfl (p_fld fl29_0 rfl dn))<|dS (fun _ k_=>gT rfl rfl (p_fld fl23_0 rfl dn))<|dS (fun _ k_=>gT rfl rfl (p_ld ty3 (aS (S172.atX (i:=4) rfl) k_) rfl rfl dn))<|dS (fun _ k_=>gT rfl rfl (p_fld fl23_0 rfl dn))<|dS (fun _ k_=>gT rfl rfl (p_ld ty3 (aS (S172.atX (i:=1) rfl) k_) rfl rfl dn))<|dS (fun _ k_=>gT rfl rfl (p_sub rfl rfl dn)) ?_
             refine dS (fun _ k_=>gT rfl rfl (p_cvD (B_Range_ok h190) fu18 rfl))<|dS (fun _ k_=>gT rfl rfl (o_neA (xs:=[I r142.1.Low,I r142.1.High]) (ys:=[I r189.Low,I r189.High]) (T:=((r142.1.Low==r189.Low)&&(r142.1.High==r189.High))) rfl rfl eq23 ⟨⟨_,rfl⟩,⟨⟨_,rfl⟩,trivial⟩⟩ ⟨⟨_,rfl⟩,⟨⟨_,rfl⟩,trivial⟩⟩ (by simp [Bool.and_eq_true,and_assoc]) dn)) ?_
             refine dS (fun _ k_=>p_pkF rfl (rfl:_=B (!((r142.1.Low==r189.Low)&&(r142.1.High==r189.High)))) dn) ?_
             intro w191 k192; have S193:=S172.call k192
             refine wp_nil ?_
             refine c_cond rfl (fun c194=>?_) (fun c194=>?_)
             ·replace H:=condT c194 H
              refine c_seq<|reg<|p_aB rfl<|wp_nil ?_
              obtain rfl:=sJ H
              exact c_ret (rT Tryd.f3 S193.keep rfl rfl)
             ·replace H:=condF c194 H
              refine c_skip<|c_seq<|c_seq<|reg<|p_aI rfl<|wp_nil<|c_block ?_
              have S195:=S193.pk [0] (by decide) [0,1,2,3,4,5,6,7,8,9,10,11] rfl rfl
              refine c_lop (α:=Int) (β:=Unit) (law_TopEaten_l1 r160 r164) (fun z_1 y_1=>[(18,I r160.1),(19,P b168 0),(20,I z_1)]) (fun z_1 y_1 w_=>St w nF w_ [bl b168 [I r164.1.Low,I r164.1.High] 23] [rd intE 1 A122 c123 r118.1,rd eTallyCount 7 A47 c48 r43.Counts,rd intE 1 A112 c113 r108.1,rd eCoalDay 3 A28 c29 r24.Days,rd eCoalDip 3 A30 c31 r24.Dips,rd eCoalDay 3 A1 c2 a0.Days,rd eCoalDip 3 A4 c5 a0.Dips,gW0,gW1,gW2,gW3,gW4]) 0 () H ⟨rfl,rfl,rfl,trivial⟩ S195 ?_
              intro m196 z_1 y_1 e197 w198 H S199
              unfold law_TopEaten_l1 at H
              refine c_seq<|c_seq<|reg<|p_mI rfl<|p_cmp rfl rfl rfl<|wp_nil ?_
              refine c_cond rfl (fun c200=>?_) (fun c200=>?_)
              ·replace H:=condT c200 H
               refine c_skip<|c_seq<|c_block<|c_seq ?_
               obtain ⟨r201,h202,H⟩:=bindS H
               obtain ⟨r203,h204,H⟩:=bindS H
               refine reg_q mixed 7 (by kernel_rfl) ?_
               refine dS (fun _ k_=>p_mI rfl dn)<|dS (fun _ k_=>p_mI rfl dn)<|dS (fun _ k_=>p_cvD (B_Member_ok h202) fu19 rfl)<|dS (fun _ k_=>p_ldA ty23 sz23 (aS (S199.atX (i:=0) rfl) k_) rfl rfl dn)<|dS (fun _ k_=>p_mI rfl dn)<|dS (fun _ k_=>p_cvD (B_Contains_ok h204) fu20 rfl)<|dS (fun _ k_=>o_neB rfl rfl ub4 dn) ?_
               intro w205 k206; have S207:=S199.call k206
               refine wp_nil ?_
               refine c_cond rfl (fun c208=>?_) (fun c208=>?_)
               ·replace H:=condT c208 H
                refine c_seq<|reg<|p_aB rfl<|wp_nil ?_
                obtain rfl:=sJ H
                exact c_ret (rT Tryd.f3 S207.keep rfl rfl)
               ·replace H:=condF c208 H
                refine c_skip<|reg<|p_mI rfl<|p_add rfl rfl<|p_aI rfl<|wp_nil ?_
                exact ⟨wr (z_1+1),(),_,rfl,⟨rfl,rfl,rfl,trivial⟩,H,S207⟩
              ·replace H:=condF c200 H
               refine c_exit<|c_seq<|reg ?_
               obtain ⟨r209,h210,H⟩:=bindS H
               refine p_cv (law_burned06_ok h210 (S199.atP (i:=7) rfl) (S199.atP (i:=8) rfl) (S199.atP (i:=9) rfl) (S199.atP (i:=10) rfl) (S199.atP (i:=11) rfl)) fu6 rfl S199 fun w211 S212=>p_aB rfl<|wp_nil ?_
               obtain rfl:=sJ H
               exact c_ret (rT Tryd.f3 S212.keep rfl rfl)
end Go.Proofs.YtblfippmobpaaaaDoor
namespace Go.Proofs.YtblfippmobpaaaaDoor
open Go Go.Fx Go.Tally
theorem wrI {x:Int} (h0:-9223372036854775808≤x) (h1:x≤9223372036854775807):Fx.wr x=x:=wr_eq h0 h1
def inB (a lo hi:Int):Bool:=decide (lo≤a)&&decide (a≤hi)
theorem inB_iff {a lo hi:Int}:inB a lo hi=true↔lo≤a∧a≤hi:=by simp [inB]
theorem within_eq (a b c:Int):tally_within a b c=some (inB a b c):=by
 unfold tally_within inB
 cases decide (b≤a) <;> rfl
theorem inside_eq (a b c:Int):B_Inside a b c=some (inB a b c):=by
 unfold B_Inside inB
 rw [show decide (a≥b)=decide (b≤a) from rfl]
 cases decide (b≤a) <;> rfl
def tripsB (T f t:Int):Bool:=inB f 0 t&&decide (t < T)
theorem isTrips_eq (b:TallyBook) (f t:Int):tally_isTrips b f t=some (tripsB b.Trips f t):=by
 unfold tally_isTrips tripsB
 rw [within_eq]
 simp only [Option.bind_some]
 cases inB f 0 t <;> rfl
def cntB (T:Int) (x:TallyCount):Bool:=inB x.Who 0 2&&tripsB T x.From x.To&&inB x.Told 0 99&&inB x.Unit 1 20&&inB x.Under 0 30&&inB x.Over 0 30&&((x.Who != 1)||(x.Over==0))
theorem isCount_eq (b:TallyBook) (x:TallyCount):tally_isCount b x=some (cntB b.Trips x):=by
 unfold tally_isCount tally_isCount_j1 cntB
 simp only [within_eq,isTrips_eq,Option.bind_some]
 cases inB x.Who 0 2 <;> cases tripsB b.Trips x.From x.To <;> cases inB x.Told 0 99 <;> cases inB x.Unit 1 20 <;> cases inB x.Under 0 30 <;> cases inB x.Over 0 30 <;> cases (x.Who != 1) <;> rfl
def cntsB (T:Int) (l:List TallyCount):Bool:=l.all (cntB T)
def valB (b:TallyBook):Bool:=inB b.Trips 1 8&&inB b.Room 0 60&&decide ((b.Counts.length:Int)≤8)&&cntsB b.Trips b.Counts
theorem getI_lt {α:Type}{l:List α}{i:Int} (h0:0≤i) (h:i < l.length):∃ x,getI l i=some x∧l[i.toNat]? =some x:=by
 have hi:i.toNat < l.length:=by omega
 exact ⟨l[i.toNat],getI_of h0 (List.getElem?_eq_getElem hi),List.getElem?_eq_getElem hi⟩
theorem drop_get {α:Type}{l:List α}{k:Nat}{x:α} (h:l[k]? =some x):l.drop k=x::l.drop (k+1):=by
 obtain ⟨h1,rfl⟩:=List.getElem?_eq_some_iff.1 h
 exact List.drop_eq_getElem_cons h1
theorem check_loop (b:TallyBook) (hl:b.Counts.length≤9223372036854775807) (ok:Bool):loopF (tally_Check_l2 b) big (ok,0)=some (bif ok&&cntsB b.Trips b.Counts then 0 else 50):=by
 refine loopF_spec (fun s:Bool×Int=>0≤s.2∧s.2≤b.Counts.length) (fun s=>b.Counts.length - s.2.toNat) (fun s=>bif s.1&&cntsB b.Trips (b.Counts.drop s.2.toNat) then 0 else 50) ?_ big (ok,0) ⟨by simp,by simp⟩ (by unfold big; simp; omega)
 rintro rec ⟨ok,i⟩ ⟨h0,h1⟩ ih
 simp only at h0 h1 ih ⊢
 unfold tally_Check_l2
 simp only
 by_cases hi:i < b.Counts.length
 ·rw [decide_eq_true hi,cond_true]
  obtain ⟨x,hx,hx'⟩:=getI_lt h0 hi
  rw [hx,Option.bind_some]
  have hd:=drop_get hx'
  have hw:Fx.wr (i+1)=i+1:=wrI (by omega) (by omega)
  have e:(i+1).toNat=i.toNat+1:=by omega
  rw [hd,hw]
  cases ok with
  | true=>
    rw [cond_true,isCount_eq,Option.bind_some,ih _ ⟨by simp; omega,by simp; omega⟩ (by simp; omega)]
    simp only [e,cntsB,List.all_cons,Bool.true_and]
  | false=>
    rw [cond_false,ih _ ⟨by simp; omega,by simp; omega⟩ (by simp; omega)]
    simp
 ·rw [decide_eq_false hi,cond_false,show b.Counts.drop i.toNat=[] from List.drop_eq_nil_of_le (by omega)]
  cases ok <;> simp [cntsB]
theorem check_eq (b:TallyBook) (hl:b.Counts.length≤9223372036854775807):tally_Check b=some (bif valB b then 0 else 50):=by
 unfold tally_Check tally_Check_j3 valB
 simp only [within_eq,Option.bind_some,check_loop b hl]
 cases inB b.Trips 1 8 <;> cases inB b.Room 0 60 <;> simp
theorem mod_ok (a m:Int) (h:0 < m) (h2:m≤9223372036854775807):∃ r,B_Mod a m=some r∧0≤r∧r < m:=by
 unfold B_Mod modI
 rw [decide_eq_false (by omega),cond_false,need_of (by simp; omega)]
 have h3:=Int.tmod_lt_of_pos a h
 have h4:=Int.lt_tmod_of_pos a h
 by_cases hn:a.tmod m < 0
 ·rw [decide_eq_true hn,cond_true,wrI (by omega) (by omega)]
  exact ⟨_,rfl,by omega,by omega⟩
 ·rw [decide_eq_false hn,cond_false]
  exact ⟨_,rfl,by omega,by omega⟩
structure Val (b:TallyBook):Prop where
 t1:1≤b.Trips
 t8:b.Trips≤8
 r0:0≤b.Room
 r60:b.Room≤60
 l8:b.Counts.length≤8
 cs:∀ x∈b.Counts,cntB b.Trips x=true
structure Bk (b:TallyBook):Prop where
 t1:1≤b.Trips
 t8:b.Trips≤8
 r0:0≤b.Room
 r60:b.Room≤60
 l9:b.Counts.length≤9
 cs:∀ x∈b.Counts,cntB b.Trips x=true
theorem Val.bk {b:TallyBook} (h:Val b):Bk b:=⟨h.t1,h.t8,h.r0,h.r60,by have:=h.l8; omega,h.cs⟩
theorem val_iff {b:TallyBook}:valB b=true↔Val b:=by
 unfold valB cntsB
 simp only [Bool.and_eq_true,inB_iff,decide_eq_true_eq,List.all_eq_true]
 constructor
 ·rintro ⟨⟨⟨⟨a,b⟩,c,d⟩,e⟩,f⟩; exact ⟨a,b,c,d,by omega,f⟩
 ·rintro ⟨a,b,c,d,e,f⟩; exact ⟨⟨⟨⟨a,b⟩,c,d⟩,by omega⟩,f⟩
theorem check_ok {b:TallyBook} (h:Val b):tally_Check b=some 0:=by
 rw [check_eq b (by have:=h.l8; omega),val_iff.2 h]; rfl
structure Cnt (T:Int) (x:TallyCount):Prop where
 w0:0≤x.Who
 w2:x.Who≤2
 f0:0≤x.From
 ft:x.From≤x.To
 tT:x.To < T
 o0:0≤x.Told
 o99:x.Told≤99
 u1:1≤x.Unit
 u20:x.Unit≤20
 d0:0≤x.Under
 d30:x.Under≤30
 v0:0≤x.Over
 v30:x.Over≤30
 st:x.Who=1→x.Over=0
theorem cnt_iff {T:Int}{x:TallyCount}:cntB T x=true↔Cnt T x:=by
 unfold cntB tripsB
 simp only [Bool.and_eq_true,inB_iff,decide_eq_true_eq,Bool.or_eq_true,bne_iff_ne,beq_iff_eq]
 constructor
 ·intro h; obtain ⟨⟨⟨⟨⟨⟨⟨a,b⟩,⟨c,d⟩,e⟩,f,g⟩,h,i⟩,j,k⟩,l,m⟩,n⟩:=h
  exact ⟨a,b,c,d,e,f,g,h,i,j,k,l,m,fun h=>by omega⟩
 ·rintro ⟨a,b,c,d,e,f,g,h,i,j,k,l,m,n⟩
  exact ⟨⟨⟨⟨⟨⟨⟨a,b⟩,⟨c,d⟩,e⟩,f,g⟩,h,i⟩,j,k⟩,l,m⟩,by omega⟩
theorem Cnt.prod {T:Int}{x:TallyCount} (h:Cnt T x):0≤x.Told*x.Unit∧x.Told*x.Unit≤1980:=by
 have h1:=h.o0; have h2:=h.o99; have h3:=h.u1; have h4:=h.u20
 constructor
 ·exact Int.mul_nonneg h1 (by omega)
 ·have:x.Told*x.Unit≤99*20:=Int.mul_le_mul h2 h4 (by omega) (by omega)
  omega
def mostV (x:TallyCount):Int:=x.Told*x.Unit+x.Under
def leastV (x:TallyCount):Int:=x.Told*x.Unit - x.Over
theorem most_eq {T:Int}{x:TallyCount} (h:Cnt T x):tally_count_most x=some (mostV x):=by
 have:=h.prod; have:=h.d0; have:=h.d30
 unfold tally_count_most mostV
 rw [wrI (x:=x.Told*x.Unit) (by omega) (by omega),wrI (by omega) (by omega)]
theorem least_eq {T:Int}{x:TallyCount} (h:Cnt T x):tally_count_least x=some (leastV x):=by
 have:=h.prod; have:=h.v0; have:=h.v30
 unfold tally_count_least leastV
 rw [wrI (x:=x.Told*x.Unit) (by omega) (by omega),wrI (by omega) (by omega)]
theorem Cnt.bnds {T:Int}{x:TallyCount} (h:Cnt T x):0≤mostV x∧mostV x≤2010∧-30≤leastV x∧leastV x≤1980∧leastV x≤mostV x:=by
 have:=h.prod; have:=h.v0; have:=h.v30; have:=h.d0; have:=h.d30
 unfold mostV leastV
 omega
theorem loopF_succ {σ ρ:Type}{body:(σ→Option ρ)→σ→Option ρ}{n:Nat}{s:σ}:loopF body (n+1) s=body (loopF body n) s:=rfl
theorem least1_eq (a x:Int):tally_least_int a [x]=some (if x < a then x else a):=by
 have hb:big=18446744073709551614+1+1:=by decide
 unfold tally_least_int
 rw [hb,loopF_succ,tally_least_int_l1]
 simp only [List.length_singleton]
 rw [show getI [x] 0=some x from rfl,Option.bind_some,loopF_succ,tally_least_int_l1]
 have w:Fx.wr 1=1:=wrI (by omega) (by omega)
 simp [w]
abbrev LP:=List (Tally_pair×Int)
def noteP (m:LP) (p:Tally_pair) (n:Int):LP:=putL m p (match lookL m p with | some o=>if o < n then o else n | none=>n)
theorem note_eq (b:Tally_book) (p:Tally_pair) (n:Int):tally_book_note b p n=some (noteP b.more_ p n):=by
 unfold tally_book_note noteP optC
 cases lookL b.more_ p with
 | none=>rfl
 | some o=>
   simp only [tally_book_note_j7,cond_true,least1_eq,Option.bind_some]
   rfl
def PotP (m:LP) (q:Nat→Int):Prop:=Pot (m.map entOf) q
theorem potP_iff {m:LP}{q:Nat→Int}:PotP m q↔∀ e∈m,q e.1.to_.toNat≤q e.1.from_.toNat+e.2:=by
 unfold PotP Pot
 constructor
 ·intro h e he; exact h (entOf e) (List.mem_map_of_mem he)
 ·intro h e he
  obtain ⟨x,hx,rfl⟩:=List.mem_map.1 he
  exact h x hx
def Has (m:LP) (p:Tally_pair) (n:Int):Prop:=∃ v,v≤n∧(p,v)∈m
theorem put_cases (m:LP) (p:Tally_pair) (v:Int):(∃ (i:Nat) (o:Int),m[i]? =some (p,o)∧lookL m p=some o∧putL m p v=m.set i (p,v))∨(lookL m p=none∧putL m p v=m++[(p,v)]):=by
 unfold putL
 rw [find_look]
 cases h:(m.map (·.1)).findIdx? (·==p) with
 | none=>exact .inr ⟨rfl,rfl⟩
 | some i=>
   obtain ⟨hi,hp⟩:=List.findIdx?_eq_some_iff_getElem.1 h
   have hi' :i < m.length:=by simpa using hi
   have hp' :m[i].1=p:=by simpa using hp.1
   refine .inl ⟨i,m[i].2,?_,?_,rfl⟩
   ·rw [List.getElem?_eq_getElem hi',← hp']
   ·simp [List.getElem?_eq_getElem hi']
theorem mem_set_iff {α:Type}{l:List α}{i:Nat}{a x:α} (hi:i < l.length):x∈l.set i a↔x=a∨∃ j,j≠i∧l[j]? =some x:=by
 constructor
 ·intro h
  obtain ⟨j,hj,rfl⟩:=List.getElem_of_mem h
  by_cases hji:j=i
  ·subst hji; left; simp
  ·right; refine ⟨j,hji,?_⟩
   rw [List.getElem_set_ne (fun e=>hji e.symm)]
   exact List.getElem?_eq_getElem _
 ·rintro (rfl | ⟨j,hj,h⟩)
  ·exact List.mem_set hi ..
  ·refine List.mem_of_getElem? (i:=j) ?_
   rw [List.getElem?_set_ne (fun e=>hj e.symm)]
   exact h
structure NoteR (m m' :LP) (p:Tally_pair) (n:Int):Prop where
 pot:∀ q,PotP m' q↔PotP m q∧q p.to_.toNat≤q p.from_.toNat+n
 has:∀ p' n',Has m p' n' →Has m' p' n'
 own:Has m' p n
 len:m'.length≤m.length+1
 keys:∀ e∈m',e.1=p∨∃ e' ∈m,e.1=e'.1
 vals:∀ lo hi,lo≤n→n≤hi→(∀ e∈m,lo≤e.2∧e.2≤hi)→∀ e∈m',lo≤e.2∧e.2≤hi
theorem note_R (m:LP) (p:Tally_pair) (n:Int):NoteR m (noteP m p n) p n:=by
 unfold noteP
 generalize hv:(match lookL m p with | some o=>if o < n then o else n | none=>n)=v
 rcases put_cases m p v with ⟨i,o,h1,h2,h3⟩ | ⟨h1,h2⟩
 ·rw [h2] at hv
  simp only at hv
  have hi:i < m.length:=(List.getElem?_eq_some_iff.1 h1).1
  have hvo:v≤o∧v≤n∧(v=o∨v=n):=by rw [← hv]; split <;> omega
  have hom:=List.mem_of_getElem? h1
  rw [h3]
  refine ⟨fun q=>?_,fun p' n' h=>?_,⟨v,hvo.2.1,(mem_set_iff hi).2 (.inl rfl)⟩,by simp,fun e he=>?_,fun lo hi' hlo hhi h e he=>?_⟩
  ·rw [potP_iff,potP_iff]
   constructor
   ·intro h
    have hp:=h (p,v) ((mem_set_iff hi).2 (.inl rfl))
    simp only at hp
    refine ⟨fun e he=>?_,by omega⟩
    obtain ⟨j,hj,rfl⟩:=List.getElem_of_mem he
    by_cases hji:j=i
    ·subst hji
     rw [List.getElem?_eq_getElem hj] at h1
     rw [Option.some.inj h1]
     simp only
     omega
    ·exact h _ ((mem_set_iff hi).2 (.inr ⟨j,hji,List.getElem?_eq_getElem hj⟩))
   ·rintro ⟨h,hn⟩ e he
    rcases (mem_set_iff hi).1 he with rfl | ⟨j,_,hj⟩
    ·have:=h (p,o) hom
     simp only at this ⊢
     rcases hvo.2.2 with e | e <;> rw [e] <;> assumption
    ·exact h e (List.mem_of_getElem? hj)
  ·obtain ⟨v',hv',hm⟩:=h
   obtain ⟨j,hj,hje⟩:=List.getElem_of_mem hm
   by_cases hji:j=i
   ·subst hji
    rw [List.getElem?_eq_getElem hj,hje] at h1
    cases h1
    exact ⟨v,by omega,(mem_set_iff hi).2 (.inl rfl)⟩
   ·exact ⟨v',hv',(mem_set_iff hi).2 (.inr ⟨j,hji,by rw [List.getElem?_eq_getElem hj,hje]⟩)⟩
  ·rcases (mem_set_iff hi).1 he with rfl | ⟨j,_,hj⟩
   ·exact .inl rfl
   ·exact .inr ⟨e,List.mem_of_getElem? hj,rfl⟩
  ·rcases (mem_set_iff hi).1 he with rfl | ⟨j,_,hj⟩
   ·have:=h (p,o) hom
    simp only at this ⊢
    omega
   ·exact h e (List.mem_of_getElem? hj)
 ·rw [h1] at hv
  simp only at hv
  subst hv
  rw [h2]
  refine ⟨fun q=>?_,fun p' n' ⟨v',hv',hm⟩=>⟨v',hv',List.mem_append_left _ hm⟩,⟨n,Int.le_refl _,List.mem_append_right _ (List.mem_singleton.2 rfl)⟩,by simp,fun e he=>?_,fun lo hi' hlo hhi h e he=>?_⟩
  ·rw [potP_iff,potP_iff]
   constructor
   ·intro h
    exact ⟨fun e he=>h e (List.mem_append_left _ he),h _ (List.mem_append_right _ (List.mem_singleton.2 rfl))⟩
   ·rintro ⟨h,hn⟩ e he
    rcases List.mem_append.1 he with he | he
    ·exact h e he
    ·rw [List.mem_singleton.1 he]; exact hn
  ·rcases List.mem_append.1 he with he | he
   ·exact .inr ⟨e,he,rfl⟩
   ·exact .inl (by rw [List.mem_singleton.1 he])
  ·rcases List.mem_append.1 he with he | he
   ·exact h e he
   ·rw [List.mem_singleton.1 he]; exact ⟨hlo,hhi⟩
structure Ok (t:Int) (m:LP) (n:Nat):Prop where
 keys:∀ e∈m,0≤e.1.from_∧e.1.from_≤t∧0≤e.1.to_∧e.1.to_≤t
 vals:∀ e∈m,-10000≤e.2∧e.2≤10000
 len:m.length≤n
theorem Ok.note {t:Int}{m m' :LP}{k:Nat}{p:Tally_pair}{n:Int} (h:Ok t m k) (R:NoteR m m' p n) (hp:0≤p.from_∧p.from_≤t∧0≤p.to_∧p.to_≤t) (hn:-10000≤n∧n≤10000):Ok t m' (k+1):=
 ⟨fun e he=>by
  rcases R.keys e he with h1 | ⟨e',he',h1⟩
  ·rw [h1]; exact hp
  ·rw [h1]; exact h.keys e' he',R.vals _ _ hn.1 hn.2 h.vals,by have:=R.len; have:=h.len; omega⟩
def Steps (t r:Int) (q:Nat→Int):Prop:=∀ k:Nat,(k:Int) < t→q (k+1)≤q k+r∧q k≤q (k+1)
def CntQ (x:TallyCount) (q:Nat→Int):Prop:=leastV x≤q (x.To+1).toNat - q x.From.toNat∧q (x.To+1).toNat - q x.From.toNat≤mostV x
def CntsQ (l:List TallyCount) (out:TallyCount→Nat→Bool) (q:Nat→Int):Prop:=∀ i x,l[i]? =some x→out x i=false→CntQ x q
def Fit (b:TallyBook) (out:TallyCount→Nat→Bool) (q:Nat→Int):Prop:=Steps b.Trips b.Room q∧CntsQ b.Counts out q
theorem opened_counts {b:TallyBook} (V:Bk b) {lv:Tally_leave}{out:TallyCount→Nat→Bool} (hlv:∀ (i:Nat) x,b.Counts[i]? =some x→lv.out_ x (i:Int)=some (out x i)) {m0:LP}{k0:Nat} (h0:Ok b.Trips m0 k0):
 ∃ m,loopF (tally_opened_l4 b lv) big (0,m0)=some ⟨b,m⟩∧Ok b.Trips m (k0+2*b.Counts.length)∧(∀ p n,Has m0 p n→Has m p n)∧∀ q,PotP m q↔PotP m0 q∧CntsQ b.Counts out q:=by
 have hl:=V.l9
 refine Exists.elim (loopF_inv (body:=tally_opened_l4 b lv) (fun s:Int×LP=>∃ i:Nat,s.1=i∧i≤b.Counts.length∧Ok b.Trips s.2 (k0+2*i)∧(∀ p n,Has m0 p n→Has s.2 p n)∧∀ q,PotP s.2 q↔PotP m0 q∧∀ j x,j < i→b.Counts[j]? =some x→out x j=false→CntQ x q)
  (fun s=>b.Counts.length - s.1.toNat) (fun r=>∃ m,r=⟨b,m⟩∧Ok b.Trips m (k0+2*b.Counts.length)∧(∀ p n,Has m0 p n→Has m p n)∧∀ q,PotP m q↔PotP m0 q∧CntsQ b.Counts out q) ?_ big (0,m0) ⟨0,rfl,Nat.zero_le _,by simpa using h0,fun _ _ h=>h,fun q=>by simp⟩ (by unfold big; simp; omega)) fun r ⟨hr,m,hre,hm⟩=>⟨m,by rw [hr,hre],hm⟩
 ·rintro rec ⟨i',m⟩ ⟨i,rfl,hi,hok,hhas,hpot⟩ ih
  simp only at hok hhas hpot ih ⊢
  unfold tally_opened_l4
  simp only
  by_cases hlt:i < b.Counts.length
  ·rw [decide_eq_true (by omega),cond_true,getI_nat,List.getElem?_eq_getElem hlt,Option.bind_some]
   have hx:b.Counts[i]? =some b.Counts[i]:=List.getElem?_eq_getElem hlt
   generalize b.Counts[i]=x at hx
   have hc:=cnt_iff.1 (V.cs x (List.mem_of_getElem? hx))
   have hb:=hc.bnds
   rw [hlv i x hx,Option.bind_some]
   have hw:Fx.wr ((i:Int)+1)=((i+1:Nat):Int):=by rw [wrI (by omega) (by omega)]; omega
   have split_:∀ {Q:Nat→TallyCount→Prop},(∀ j y,j < i+1→b.Counts[j]? =some y→Q j y)↔(∀ j y,j < i→b.Counts[j]? =some y→Q j y)∧Q i x:=by
    intro Q
    constructor
    ·intro h; exact ⟨fun j y hj=>h j y (by omega),h i x (by omega) hx⟩
    ·rintro ⟨h1,h2⟩ j y hj hy
     by_cases hji:j=i
     ·subst hji; rw [hx] at hy; cases hy; exact h2
     ·exact h1 j y (by omega) hy
   cases ho:out x i with
   | true=>
     rw [cond_true,hw]
     refine ih _ ⟨i+1,rfl,by omega,⟨hok.keys,hok.vals,by have:=hok.len; simp only; omega⟩,hhas,fun q=>?_⟩ (by simp; omega)
     rw [hpot,split_ (Q:=fun j y=>out y j=false→CntQ y q)]
     simp [ho]
   | false=>
     have ht:=hc.tT; have hf:=hc.f0; have hft:=hc.ft
     have hw1:Fx.wr (x.To+1)=x.To+1:=by have:=V.t8; exact wrI (by omega) (by omega)
     rw [cond_false,most_eq hc,Option.bind_some,note_eq,Option.bind_some,least_eq hc,Option.bind_some,note_eq,Option.bind_some,hw,hw1,wrI (x:=-leastV x) (by omega) (by omega)]
     simp only
     have R1:=note_R m ⟨x.From,x.To+1⟩ (mostV x)
     have R2:=note_R (noteP m ⟨x.From,x.To+1⟩ (mostV x)) ⟨x.To+1,x.From⟩ (-leastV x)
     refine ih _ ⟨i+1,rfl,by omega,?_,fun p n h=>R2.has p n (R1.has p n (hhas p n h)),fun q=>?_⟩ (by simp; omega)
     ·have:=(hok.note R1 (by simp only; omega) (by omega)).note R2 (by simp only; omega) (by omega)
      exact ⟨this.keys,this.vals,by have:=this.len; simp only; omega⟩
     ·rw [R2.pot,R1.pot,hpot,split_ (Q:=fun j y=>out y j=false→CntQ y q)]
      simp only [ho,CntQ,forall_const]
      constructor
      ·rintro ⟨⟨⟨h1,h2⟩,h3⟩,h4⟩; exact ⟨h1,h2,by omega,by omega⟩
      ·rintro ⟨h1,h2,h3,h4⟩; exact ⟨⟨⟨h1,h2⟩,by omega⟩,by omega⟩
  ·rw [decide_eq_false (by omega),cond_false]
   have he:i=b.Counts.length:=by omega
   subst he
   refine ⟨_,rfl,m,rfl,hok,hhas,fun q=>?_⟩
   rw [hpot]
   refine and_congr_right fun _=>?_
   constructor
   ·intro h j x hx; exact h j x (List.getElem?_eq_some_iff.1 hx).1 hx
   ·intro h j x _ hx; exact h j x hx
theorem opened_eq {b:TallyBook} (V:Bk b) {lv:Tally_leave}{out:TallyCount→Nat→Bool} (hlv:∀ (i:Nat) x,b.Counts[i]? =some x→lv.out_ x (i:Int)=some (out x i)):
 ∃ m,tally_opened b lv=some ⟨b,m⟩∧Ok b.Trips m 34∧(∀ k:Nat,(k:Int) < b.Trips→Has m ⟨k,k+1⟩ b.Room∧Has m ⟨k+1,k⟩ 0)∧∀ q,PotP m q↔Fit b out q:=by
 have t8:=V.t8; have t1:=V.t1; have r0:=V.r0; have r60:=V.r60; have l8:=V.l9
 unfold tally_opened
 refine Exists.elim (loopF_inv (body:=tally_opened_l5 b lv) (fun s:Int×LP=>∃ i:Nat,s.1=i∧(i:Int)≤b.Trips∧Ok b.Trips s.2 (2*i)∧(∀ k:Nat,k < i→Has s.2 ⟨k,k+1⟩ b.Room∧Has s.2 ⟨k+1,k⟩ 0)∧∀ q,PotP s.2 q↔∀ k:Nat,k < i→q (k+1)≤q k+b.Room∧q k≤q (k+1))
  (fun s=>b.Trips.toNat - s.1.toNat) (fun r=>∃ m,r=⟨b,m⟩∧Ok b.Trips m 34∧(∀ k:Nat,(k:Int) < b.Trips→Has m ⟨k,k+1⟩ b.Room∧Has m ⟨k+1,k⟩ 0)∧∀ q,PotP m q↔Fit b out q) ?_ big (0,([]:LP))
   ⟨0,rfl,by omega,⟨fun e he=>(List.not_mem_nil he).elim,fun e he=>(List.not_mem_nil he).elim,Nat.zero_le _⟩,fun k hk=>absurd hk (Nat.not_lt_zero k),fun q=>by simp [potP_iff]⟩ (by unfold big; simp; omega)) fun r ⟨hr,m,hre,hm⟩=>⟨m,by rw [hr,hre],hm⟩
 rintro rec ⟨i',m⟩ ⟨i,rfl,hi,hok,hhas,hpot⟩ ih
 simp only at hi hok hhas hpot ih ⊢
 unfold tally_opened_l5
 simp only
 by_cases hlt:(i:Int) < b.Trips
 ·have hw:Fx.wr ((i:Int)+1)=(i:Int)+1:=wrI (by omega) (by omega)
  rw [decide_eq_true hlt,cond_true,note_eq,Option.bind_some,note_eq,Option.bind_some,hw]
  simp only
  have R1:=note_R m ⟨(i:Int),(i:Int)+1⟩ b.Room
  have R2:=note_R (noteP m ⟨(i:Int),(i:Int)+1⟩ b.Room) ⟨(i:Int)+1,(i:Int)⟩ 0
  refine ih _ ⟨i+1,by simp,by omega,?_,fun k hk=>?_,fun q=>?_⟩ (by simp; omega)
  ·have:=(hok.note R1 (by simp only; omega) (by omega)).note R2 (by simp only; omega) (by omega)
   exact ⟨this.keys,this.vals,by have:=this.len; simp only; omega⟩
  ·by_cases hki:k=i
   ·subst hki; exact ⟨R2.has _ _ R1.own,R2.own⟩
   ·have:=hhas k (by omega)
    exact ⟨R2.has _ _ (R1.has _ _ this.1),R2.has _ _ (R1.has _ _ this.2)⟩
  ·rw [R2.pot,R1.pot,hpot]
   simp only [show ((i:Int)+1).toNat=i+1 by omega,Int.toNat_natCast]
   constructor
   ·rintro ⟨⟨h1,h2⟩,h3⟩ k hk
    by_cases hki:k=i
    ·subst hki; exact ⟨h2,by omega⟩
    ·exact h1 k (by omega)
   ·intro h
    have:=h i (by omega)
    exact ⟨⟨fun k hk=>h k (by omega),this.1⟩,by omega⟩
 ·have he:(i:Int)=b.Trips:=by omega
  rw [decide_eq_false hlt,cond_false]
  obtain ⟨m',h1,h2,h3,h4⟩:=opened_counts V hlv hok
  refine ⟨_,h1,m',rfl,⟨h2.keys,h2.vals,by have:=h2.len; omega⟩,fun k hk=>?_,fun q=>?_⟩
  ·have:=hhas k (by omega)
   exact ⟨h3 _ _ this.1,h3 _ _ this.2⟩
  ·rw [h4,hpot]
   unfold Fit Steps
   refine and_congr_left fun _=>?_
   constructor
   ·intro h k hk; exact h k (by omega)
   ·intro h k hk; exact h k (by omega)
structure Opn (b:TallyBook) (out:TallyCount→Nat→Bool) (m:LP):Prop where
 val:Bk b
 ok:Ok b.Trips m 34
 has:∀ k:Nat,(k:Int) < b.Trips→Has m ⟨k,k+1⟩ b.Room∧Has m ⟨k+1,k⟩ 0
 pot:∀ q,PotP m q↔Fit b out q
theorem Opn.vd {b:TallyBook}{out:TallyCount→Nat→Bool}{m:LP} (h:Opn b out m) {s:Int} (h0:0≤s) (h1:s≤b.Trips):Vd b.Trips s (m.map entOf):=by
 have:=h.val.t1; have:=h.val.t8; have:=h.val.r60
 refine ⟨by omega,by omega,h0,h1,fun e he=>?_,fun e he=>?_,by have:=h.ok.len; simp; omega,fun k hk=>?_,fun k hk=>?_⟩
 ·obtain ⟨x,hx,rfl⟩:=List.mem_map.1 he; exact h.ok.keys x hx
 ·obtain ⟨x,hx,rfl⟩:=List.mem_map.1 he; exact h.ok.vals x hx
 ·obtain ⟨v,hv,hm⟩:=(h.has k hk).1
  exact ⟨v,by omega,List.mem_map.2 ⟨_,hm,rfl⟩⟩
 ·obtain ⟨v,hv,hm⟩:=(h.has k hk).2
  exact ⟨v,hv,List.mem_map.2 ⟨_,hm,rfl⟩⟩
theorem from_eq {b:TallyBook}{out:TallyCount→Nat→Bool}{m:LP} (h:Opn b out m) {s:Int} (h0:0≤s) (h1:s≤b.Trips) (l:List TallyCount):
 ∃ o r,tally_from ⟨⟨b.Trips,b.Room,l⟩,m⟩ s=some (o,r)∧((r=false∧o=zeros∧¬∃ q,Fit b out q)∨(r=true∧Mx b.Trips s (m.map entOf) o)):=by
 have V:=h.vd h0 h1
 have t1:=h.val.t1
 refine ⟨(fromD b.Trips s (m.map entOf)).1,(fromD b.Trips s (m.map entOf)).2,?_,?_⟩
 ·unfold tally_from
  rw [vdB_iff.2 V,decide_eq_true t1]
  rfl
 ·rcases from_pot V (fromD_R b.Trips s (m.map entOf)) with ⟨e1,e2,e3⟩ | ⟨e1,e2⟩
  ·exact .inl ⟨e1,e2,fun ⟨q,hq⟩=>e3 ⟨q,(h.pot q).2 hq⟩⟩
  ·exact .inr ⟨e1,e2⟩
theorem can_eq {b:TallyBook}{out:TallyCount→Nat→Bool}{m:LP} (h:Opn b out m) (l:List TallyCount):∃ r,tally_book_can ⟨⟨b.Trips,b.Room,l⟩,m⟩=some r∧(r=true↔∃ q,Fit b out q):=by
 have:=h.val.t1
 obtain ⟨o,r,e,hr⟩:=from_eq h (s:=0) (by omega) (by omega) l
 refine ⟨r,by unfold tally_book_can; rw [e]; rfl,?_⟩
 rcases hr with ⟨rfl,_,hn⟩ | ⟨rfl,hm⟩
 ·simp [hn]
 ·simp only [true_iff]; exact ⟨_,(h.pot _).1 hm.pot⟩
structure Spn (F:(Nat→Int)→Prop) (a c:Nat) (lo hi:Int):Prop where
 loE:∃ q,F q∧q c - q a=lo
 hiE:∃ q,F q∧q c - q a=hi
 all:∀ q,F q→lo≤q c - q a∧q c - q a≤hi
theorem mx_bnd {t s:Int}{ml:List Ent}{o:List Int} (V:Vd t s ml) (M:Mx t s ml o) (v:Nat):-480≤o.getD v 0∧o.getD v 0≤480:=by
 have:=V.t0; have:=V.t8; have:=V.s0; have:=V.st
 by_cases hv:(v:Int)≤t
 ·have h1:=pot_bnd V M.pot hv
  have hz:=M.zero
  have h2:=pot_up V M.pot
  by_cases hs:v≤s.toNat
  ·have:=h2 (s.toNat - v) v (by omega)
   rw [show v+(s.toNat - v)=s.toNat by omega] at this
   omega
  ·have:=h2 (v - s.toNat) s.toNat (by omega)
   rw [show s.toNat+(v - s.toNat)=v by omega] at this
   omega
 ·rw [M.out v (by omega)]; omega
theorem Fit.shift {b:TallyBook}{out:TallyCount→Nat→Bool}{q:Nat→Int} (h:Fit b out q) (c:Int):Fit b out (fun v=>q v - c):=by
 refine ⟨fun k hk=>?_,fun i x hx ho=>?_⟩
 ·have:=h.1 k hk; show q _ - c≤q _ - c+_∧q _ - c≤q _ - c; omega
 ·have:=h.2 i x hx ho; unfold CntQ at *; show _≤q _ - c - (q _ - c)∧q _ - c - (q _ - c)≤_; omega
theorem many_eq {b:TallyBook}{out:TallyCount→Nat→Bool}{m:LP} (h:Opn b out m) (ht:∃ q,Fit b out q) {a c:Int} (a0:0≤a) (at_:a≤b.Trips) (c0:0≤c) (ct:c≤b.Trips) (l:List TallyCount):
 ∃ lo hi,tally_book_many ⟨⟨b.Trips,b.Room,l⟩,m⟩ a c=some ⟨lo,hi⟩∧Spn (Fit b out) a.toNat c.toNat lo hi:=by
 have t1:=h.val.t1; have t8:=h.val.t8
 obtain ⟨up,r1,e1,h1⟩:=from_eq h a0 at_ l
 obtain ⟨dn,r2,e2,h2⟩:=from_eq h c0 ct l
 rcases h1 with ⟨_,_,hn⟩ | ⟨_,M1⟩
 ·exact absurd ht hn
 rcases h2 with ⟨_,_,hn⟩ | ⟨_,M2⟩
 ·exact absurd ht hn
 have V1:=h.vd a0 at_
 have V2:=h.vd c0 ct
 have b1:=mx_bnd V1 M1 c.toNat
 have b2:=mx_bnd V2 M2 a.toNat
 have S:Spn (Fit b out) a.toNat c.toNat (-(dn.getD a.toNat 0)) (up.getD c.toNat 0):=by
  refine ⟨⟨_,(h.pot _).1 M2.pot,?_⟩,⟨_,(h.pot _).1 M1.pot,?_⟩,fun q hq=>?_⟩
  ·have:=M2.zero; show dn.getD c.toNat 0 - dn.getD a.toNat 0=_; omega
  ·have:=M1.zero; show up.getD c.toNat 0 - up.getD a.toNat 0=_; omega
  ·have h1:=M1.max q ((h.pot q).2 hq) c.toNat (by omega)
   have h2:=M2.max q ((h.pot q).2 hq) a.toNat (by omega)
   omega
 have fin:tally_book_many_j1 a c (dn,r2) (up,r1) ()=some ⟨-(dn.getD a.toNat 0),up.getD c.toNat 0⟩:=by
  unfold tally_book_many_j1 aget
  rw [need_of (by simp [inI]; omega),need_of (by simp [inI]; omega),wrI (by simp only; omega) (by simp only; omega)]
 refine ⟨_,_,?_,S⟩
 unfold tally_book_many
 rw [e1,Option.bind_some,e2,Option.bind_some]
 unfold tally_none
 simp only [Option.bind_some]
 cases hd:decide (sgl dn 9=sgl (List.replicate 9 0) 9)
 ·rw [cond_false]; exact fin
 ·rw [cond_true]
  cases hu:decide (sgl up 9=sgl (List.replicate 9 0) 9)
  ·rw [cond_false]; exact fin
  ·rw [cond_true]
   have hd:=of_decide_eq_true hd
   have hu:=of_decide_eq_true hu
   rw [sgl_eq M2.len,sgl_eq (by simp)] at hd
   rw [sgl_eq M1.len,sgl_eq (by simp)] at hu
   have z:∀ v,(List.replicate 9 (0:Int)).getD v 0=0:=fun v=>by
    rw [List.getD_eq_getElem?_getD,List.getElem?_replicate]; split <;> rfl
   rw [hd,hu,z,z]; rfl
def no:TallyCount→Nat→Bool:=fun _ _=>false
def CanBe (b:TallyBook):Prop:=∃ q,Fit b no q
theorem nobody_eq {b:TallyBook} (V:Bk b):∃ m,tally_opened b (Tally_leave.mk fun y19 y20=>tally_nobody_1 y19 y20)=some ⟨b,m⟩∧Opn b no m:=by
 obtain ⟨m,h1,h2,h3,h4⟩:=opened_eq V (lv:=Tally_leave.mk fun y19 y20=>tally_nobody_1 y19 y20) (out:=no) (fun i x _=>rfl)
 exact ⟨m,h1,V,h2,h3,h4⟩
theorem right_eq {b:TallyBook} (V:Val b):∃ r,tally_Right b=some (r,0)∧(r=true↔CanBe b):=by
 obtain ⟨m,hm,O⟩:=nobody_eq V.bk
 obtain ⟨r,hr,hi⟩:=can_eq O b.Counts
 refine ⟨r,?_,hi⟩
 unfold tally_Right
 rw [check_ok V,Option.bind_some]
 simp only [bne_self_eq_false,cond_false]
 unfold tally_nobody
 rw [Option.bind_some,hm,Option.bind_some]
 simp only
 rw [hr]; rfl
theorem asked_eq {b:TallyBook} (V:Val b):∃ m e,tally_asked b true=some (⟨b,m⟩,e)∧Opn b no m∧((e=0∧CanBe b)∨(e=52∧¬CanBe b)):=by
 obtain ⟨m,hm,O⟩:=nobody_eq V.bk
 obtain ⟨r,hr,hi⟩:=can_eq O b.Counts
 refine ⟨m,if r=true then 0 else 52,?_,O,?_⟩
 ·unfold tally_asked
  rw [check_ok V,Option.bind_some]
  simp only [bne_self_eq_false,cond_false,Bool.not_true]
  unfold tally_nobody
  rw [Option.bind_some,hm,Option.bind_some]
  simp only
  rw [hr,Option.bind_some]
  cases r <;> rfl
 ·cases r
  ·right; exact ⟨rfl,fun h=>by simpa using hi.2 h⟩
  ·left; exact ⟨rfl,hi.1 rfl⟩
theorem trips_iff {T f t:Int}:tripsB T f t=true↔0≤f∧f≤t∧t < T:=by
 unfold tripsB
 rw [Bool.and_eq_true,inB_iff,decide_eq_true_eq]
 omega
theorem many_law {b:TallyBook} (V:Val b) {f t:Int} (h:0≤f∧f≤t∧t < b.Trips):
 ∃ s e,tally_Many b f t=some (s,e)∧((e=0∧CanBe b∧Spn (Fit b no) f.toNat (t+1).toNat s.Low s.High)∨(e=52∧s=⟨0,0⟩∧¬CanBe b)):=by
 have t8:=V.t8
 obtain ⟨m,e,ha,O,he⟩:=asked_eq V
 have hw:Fx.wr (t+1)=t+1:=wrI (by omega) (by omega)
 unfold tally_Many
 rw [isTrips_eq,Option.bind_some,trips_iff.2 h,ha,Option.bind_some,hw]
 rcases he with ⟨rfl,hc⟩ | ⟨rfl,hc⟩
 ·obtain ⟨lo,hi,hm,S⟩:=many_eq O hc (a:=f) (c:=t+1) (by omega) (by omega) (by omega) (by omega) b.Counts
  refine ⟨⟨lo,hi⟩,0,?_,.inl ⟨rfl,hc,S⟩⟩
  simp only [bne_self_eq_false,cond_false]
  rw [hm]; rfl
 ·exact ⟨⟨0,0⟩,52,rfl,.inr ⟨rfl,rfl,hc⟩⟩
theorem steps_bnd {t r:Int} (t8:t≤8) (r0:0≤r) (r60:r≤60) {q:Nat→Int} (h:Steps t r q):∀ (d a:Nat),((a+d:Nat):Int)≤t→0≤q (a+d) - q a∧q (a+d) - q a≤r*d:=by
 intro d
 induction d with
 | zero=>intro a _; simp
 | succ d ih=>
   intro a hk
   have h1:=ih a (by omega)
   have h2:=h (a+d) (by omega)
   rw [show a+(d+1)=a+d+1 by omega]
   have:r*((d+1:Nat):Int)=r*(d:Int)+r:=by rw [Int.natCast_add,Int.mul_add]; simp
   omega
theorem fit_bnd {b:TallyBook} (V:Bk b) {out:TallyCount→Nat→Bool}{q:Nat→Int} (h:Fit b out q) {a c:Nat} (hac:a≤c) (hc:(c:Int)≤b.Trips):0≤q c - q a∧q c - q a≤b.Room*((c:Int) - a):=by
 have:=steps_bnd V.t8 V.r0 V.r60 h.1 (c - a) a (by omega)
 rw [show a+(c - a)=c by omega] at this
 rw [show ((c:Int) - a)=((c - a:Nat):Int) by omega]
 exact this
theorem room_mul {b:TallyBook} (V:Bk b) {n:Int} (h0:0≤n) (h8:n≤8):0≤b.Room*n∧b.Room*n≤480:=by
 have:=V.r0; have:=V.r60
 constructor
 ·exact Int.mul_nonneg (by omega) h0
 ·have:b.Room*n≤60*8:=Int.mul_le_mul (by omega) h8 h0 (by omega)
  omega
theorem Spn.bnd {b:TallyBook} (V:Bk b) {out:TallyCount→Nat→Bool}{a c:Nat}{lo hi:Int} (S:Spn (Fit b out) a c lo hi) (hac:a≤c) (hc:(c:Int)≤b.Trips):0≤lo∧lo≤hi∧hi≤b.Room*((c:Int) - a)∧hi≤480:=by
 obtain ⟨q,hq,h1⟩:=S.loE
 obtain ⟨q',hq',h2⟩:=S.hiE
 have a1:=fit_bnd V hq hac hc
 have a2:=fit_bnd V hq' hac hc
 have a3:=S.all q hq
 have a4:=V.t8
 have a5:=room_mul V (n:=(c:Int) - a) (by omega) (by omega)
 omega
def plus (b:TallyBook) (x:TallyCount):TallyBook:=⟨b.Trips,b.Room,b.Counts++[x]⟩
theorem Val.plus {b:TallyBook} (V:Val b) {x:TallyCount} (hx:Cnt b.Trips x):Bk (plus b x):=by
 refine ⟨V.t1,V.t8,V.r0,V.r60,by have:=V.l8; simp [YtblfippmobpaaaaDoor.plus]; omega,fun y hy=>?_⟩
 rcases List.mem_append.1 hy with hy | hy
 ·exact V.cs y hy
 ·rw [List.mem_singleton.1 hy]; exact cnt_iff.2 hx
theorem Fit.max {b:TallyBook}{out:TallyCount→Nat→Bool}{p q:Nat→Int} (hp:Fit b out p) (hq:Fit b out q):Fit b out (fun v=>if p v≤q v then q v else p v):=by
 refine ⟨fun k hk=>?_,fun i x hx ho=>?_⟩
 ·have h1:=hp.1 k hk; have h2:=hq.1 k hk
  show (if p (k+1)≤q (k+1) then q (k+1) else p (k+1))≤(if p k≤q k then q k else p k)+b.Room∧(if p k≤q k then q k else p k)≤(if p (k+1)≤q (k+1) then q (k+1) else p (k+1))
  split <;> split <;> omega
 ·have h1:=hp.2 i x hx ho; have h2:=hq.2 i x hx ho
  unfold CntQ at*
  show leastV x≤(if p (x.To+1).toNat≤q (x.To+1).toNat then q (x.To+1).toNat else p (x.To+1).toNat) - (if p x.From.toNat≤q x.From.toNat then q x.From.toNat else p x.From.toNat)∧(if p (x.To+1).toNat≤q (x.To+1).toNat then q (x.To+1).toNat else p (x.To+1).toNat) - (if p x.From.toNat≤q x.From.toNat then q x.From.toNat else p x.From.toNat)≤mostV x
  split <;> split <;> omega
theorem Spn.mid {b:TallyBook}{out:TallyCount→Nat→Bool}{a c:Nat}{lo hi:Int} (S:Spn (Fit b out) a c lo hi) {v:Int} (h1:lo≤v) (h2:v≤hi):∃ q,Fit b out q∧q c - q a=v:=by
 obtain ⟨p,hp,ep⟩:=S.loE
 obtain ⟨q,hq,eq⟩:=S.hiE
 have P:=hp.shift (p a)
 have Q:=hq.shift (q a+(hi - v))
 refine ⟨_,P.max Q,?_⟩
 show (if p c - p a≤q c - (q a+(hi - v)) then q c - (q a+(hi - v)) else p c - p a) - (if p a - p a≤q a - (q a+(hi - v)) then q a - (q a+(hi - v)) else p a - p a)=v
 split <;> split <;> omega
theorem Spn.uniq {F:(Nat→Int)→Prop}{a c:Nat}{lo hi lo' hi' :Int} (S:Spn F a c lo hi) (S' :Spn F a c lo' hi'):lo=lo' ∧hi=hi' :=by
 obtain ⟨p,hp,ep⟩:=S.loE
 obtain ⟨q,hq,eq⟩:=S.hiE
 obtain ⟨p',hp',ep'⟩:=S'.loE
 obtain ⟨q',hq',eq'⟩:=S'.hiE
 have a1:=S.all p' hp'; have a2:=S.all q' hq'
 have a3:=S'.all p hp; have a4:=S'.all q hq
 omega
def exact_ (t v:Int):TallyCount:=⟨2,t,t,v,1,0,0⟩
def Dist (b:TallyBook) (t v d:Int):Prop:=∃ lo hi,Spn (Fit (plus b (exact_ t v)) no) 0 b.Trips.toNat lo hi∧d=hi - lo
theorem Dist.uniq {b:TallyBook}{t v d d' :Int} (h:Dist b t v d) (h' :Dist b t v d'):d=d' :=by
 obtain ⟨lo,hi,S,rfl⟩:=h
 obtain ⟨lo',hi',S',rfl⟩:=h'
 obtain ⟨rfl,rfl⟩:=S.uniq S'
 rfl
def Wst (b:TallyBook) (t lo:Int) (n:Nat) (w:Int):Prop:=0≤w∧w≤480∧(∀ i:Nat,i < n→∃ d,Dist b t (lo+i) d∧d≤w)∧(w=0∨∃ i:Nat,i < n∧Dist b t (lo+i) w)
theorem Wst.zero {b:TallyBook}{t lo:Int}:Wst b t lo 0 0:=⟨by omega,by omega,fun i h=>absurd h (Nat.not_lt_zero i),.inl rfl⟩
theorem Wst.step {b:TallyBook}{t lo w d:Int}{n:Nat} (h:Wst b t lo n w) (hd:Dist b t (lo+n) d) (h0:0≤d) (h1:d≤480):Wst b t lo (n+1) (if d > w then d else w):=by
 obtain ⟨a1,a2,a3,a4⟩:=h
 refine ⟨by split <;> omega,by split <;> omega,fun i hi=>?_,?_⟩
 ·by_cases hin:i=n
  ·subst hin; exact ⟨d,hd,by split <;> omega⟩
  ·obtain ⟨d',h1,h2⟩:=a3 i (by omega)
   exact ⟨d',h1,by split <;> omega⟩
 ·by_cases hdw:d > w
  ·rw [if_pos hdw]; exact .inr ⟨n,by omega,hd⟩
  ·rw [if_neg hdw]
   rcases a4 with h | ⟨i,hi,h⟩
   ·exact .inl h
   ·exact .inr ⟨i,by omega,h⟩
theorem Wst.uniq {b:TallyBook}{t lo w w' :Int}{n:Nat} (h:Wst b t lo n w) (h' :Wst b t lo n w'):w=w' :=by
 have le:∀ {w w' :Int},Wst b t lo n w→Wst b t lo n w' →w≤w' :=by
  intro w w' h h'
  rcases h.2.2.2 with rfl | ⟨i,hi,hd⟩
  ·exact h'.1
  ·obtain ⟨d,h1,h2⟩:=h'.2.2.1 i hi
   rw [hd.uniq h1]; exact h2
 exact Int.le_antisymm (le h h') (le h' h)
def Apart (b:TallyBook) (t w:Int):Prop:=∃ lo hi,Spn (Fit b no) t.toNat (t+1).toNat lo hi∧Wst b t lo (hi - lo+1).toNat w
theorem Apart.uniq {b:TallyBook}{t w w' :Int} (h:Apart b t w) (h' :Apart b t w'):w=w' :=by
 obtain ⟨lo,hi,S,h⟩:=h
 obtain ⟨lo',hi',S',h'⟩:=h'
 obtain ⟨rfl,rfl⟩:=S.uniq S'
 exact h.uniq h'
def outL (l:List Int):TallyCount→Nat→Bool:=fun _ i=>decide ((i:Int)∈l)
def CanO (b:TallyBook) (l:List Int):Prop:=∃ q,Fit b (outL l) q
def Clm (l:List Int) (n:Int):Prop:=∀ (k:Nat) (x:Int),l[k]? =some x→0≤x∧x < n∧∀ y,0 < k→l[k - 1]? =some y→y < x
theorem Clm.nil {n:Int}:Clm [] n:=fun k x h=>by simp at h
theorem Clm.snoc {l:List Int}{n v:Int} (h:Clm l n) (h0:0≤v) (h1:v < n) (h2:∀ y,l.getLast? =some y→y < v):Clm (l++[v]) n:=by
 intro k x hx
 by_cases hk:k < l.length
 ·rw [List.getElem?_append_left hk] at hx
  obtain ⟨a1,a2,a3⟩:=h k x hx
  refine ⟨a1,a2,fun y h0 hy=>a3 y h0 ?_⟩
  rwa [List.getElem?_append_left (by omega)] at hy
 ·rw [List.getElem?_append_right (by omega),List.getElem?_singleton] at hx
  split at hx
  ·cases hx
   refine ⟨h0,h1,fun y hk0 hy=>h2 y ?_⟩
   rw [List.getElem?_append_left (by omega)] at hy
   rw [List.getLast?_eq_getElem?,← hy]
   congr 1; omega
  ·cases hx
theorem Clm.lt {l:List Int}{n:Int} (h:Clm l n):∀ (d i:Nat) (x y:Int),l[i]? =some x→l[i+d+1]? =some y→x < y:=by
 intro d
 induction d with
 | zero=>intro i x y hx hy; exact (h (i+1) y hy).2.2 x (by omega) (by simpa using hx)
 | succ d ih=>
   intro i x y hx hy
   have hlt:i+d+1 < l.length:=by have:=(List.getElem?_eq_some_iff.1 hy).1; omega
   have h1:=ih i x _ hx (List.getElem?_eq_getElem hlt)
   have h2:=(h (i+(d+1)+1) y hy).2.2 _ (by omega) (by rw [show i+(d+1)+1 - 1=i+d+1 by omega]; exact List.getElem?_eq_getElem hlt)
   omega
theorem Clm.len {l:List Int}{n:Int} (h:Clm l n) (h0:0≤n):(l.length:Int)≤n:=by
 have:∀ (k:Nat) (x:Int),l[k]? =some x→(k:Int)≤x:=by
  intro k
  induction k with
  | zero=>intro x hx; have:=(h 0 x hx).1; omega
  | succ k ih=>
    intro x hx
    have hlt:k < l.length:=by have:=(List.getElem?_eq_some_iff.1 hx).1; omega
    have h1:=ih _ (List.getElem?_eq_getElem hlt)
    have h2:=h.lt 0 k _ x (List.getElem?_eq_getElem hlt) hx
    omega
 by_cases hl:l.length=0
 ·omega
 ·have hlt:l.length - 1 < l.length:=by omega
  have h1:=this _ _ (List.getElem?_eq_getElem hlt)
  have h2:=(h _ _ (List.getElem?_eq_getElem hlt)).2.1
  omega
theorem index_loop (l:List Int) (v:Int) (hl:l.length≤9223372036854775807):∃ r,sl_Index_int_int l v=some r∧(0≤r↔v∈l):=by
 unfold sl_Index_int_int
 refine loopF_inv (body:=sl_Index_int_int_l1 l v) (fun i:Int=>∃ k:Nat,i=k∧k≤l.length∧v ∉ l.take k) (fun i=>l.length - i.toNat) (fun r=>0≤r↔v∈l) ?_ big 0 ⟨0,rfl,Nat.zero_le _,by simp⟩ (by unfold big; simp; omega)
 rintro rec i ⟨k,rfl,hk,hn⟩ ih
 unfold sl_Index_int_int_l1
 by_cases hlt:k < l.length
 ·rw [decide_eq_true (by omega),cond_true,getI_nat,List.getElem?_eq_getElem hlt,Option.bind_some]
  by_cases he:v=l[k]
  ·rw [show (v==l[k])=true by simpa using he,cond_true]
   have hm:v∈l:=he▸List.getElem_mem hlt
   exact ⟨_,rfl,by simp [hm]⟩
  ·rw [show (v==l[k])=false by simpa using he,cond_false,wrI (by omega) (by omega)]
   refine ih _ ⟨k+1,by simp,hlt,?_⟩ (by (try simp only); omega)
   rw [List.take_succ_eq_append_getElem hlt]
   simp only [List.mem_append,List.mem_singleton,not_or]
   exact ⟨hn,he⟩
 ·rw [decide_eq_false (by omega),cond_false]
  have hm:v ∉ l:=by rwa [List.take_of_length_le (by omega)] at hn
  exact ⟨-1,rfl,by simp [hm]⟩
theorem some_eq {b:TallyBook} (V:Bk b) {l:List Int} (hl:l.length≤9223372036854775807):∃ m,tally_opened b (Tally_leave.mk fun y28 y29=>tally_some_1 y28 y29 l)=some ⟨b,m⟩∧Opn b (outL l) m:=by
 obtain ⟨m,h1,h2,h3,h4⟩:=opened_eq V (lv:=Tally_leave.mk fun y28 y29=>tally_some_1 y28 y29 l) (out:=outL l) (fun i x _=>by
  show tally_some_1 x (i:Int) l=_
  unfold tally_some_1 sl_Contains_int_int outL
  obtain ⟨r,hr,hi⟩:=index_loop l i hl
  rw [hr]
  simp only [Option.bind_some]
  congr 1
  rw [Bool.eq_iff_iff]
  simp [hi])
 exact ⟨m,h1,V,h2,h3,h4⟩
structure Ext (n:Nat) (l:List Int) (many:Nat) (o:List Int):Prop where
 len:o.length=many
 clm:Clm o n
 pre:∀ (i:Nat) (x:Int),l[i]? =some x→o[i]? =some x
def LexLt (o w:List Int):Prop:=∃ (i:Nat) (x y:Int),o[i]? =some x∧w[i]? =some y∧x < y∧∀ j,j < i→o[j]? =w[j]?
def TryOk (b:TallyBook) (l:List Int) (many:Nat) (r:List Int×Bool):Prop:=
 (r.2=true∧Ext b.Counts.length l many r.1∧CanO b r.1∧∀ o,Ext b.Counts.length l many o→CanO b o→¬LexLt o r.1)∨
 (r.2=false∧∀ o,Ext b.Counts.length l many o→¬CanO b o)
theorem Ext.more {n many:Nat}{l o:List Int}{x:Int} (h:Ext n l many o) (hx:o[l.length]? =some x):Ext n (l++[x]) many o:=by
 refine ⟨h.len,h.clm,fun i y hy=>?_⟩
 by_cases hi:i < l.length
 ·rw [List.getElem?_append_left hi] at hy; exact h.pre i y hy
 ·rw [List.getElem?_append_right (by omega),List.getElem?_singleton] at hy
  split at hy
  ·cases hy; rw [show i=l.length by omega]; exact hx
  ·cases hy
theorem Ext.less {n many:Nat}{l o:List Int}{x:Int} (h:Ext n (l++[x]) many o):Ext n l many o∧o[l.length]? =some x:=by
 refine ⟨⟨h.len,h.clm,fun i y hy=>h.pre i y ?_⟩,h.pre _ _ (by simp)⟩
 rw [List.getElem?_append_left (List.getElem?_eq_some_iff.1 hy).1]; exact hy
theorem try_loop {b:TallyBook} (V:Val b) {l:List Int}{many:Nat} (hm:many≤b.Counts.length) (hl:l.length < many) (hc:Clm l b.Counts.length) {rec_:List Int→Int→Option (List Int×Bool)}
 (hrec:∀ v:Int,Clm (l++[v]) b.Counts.length→∃ r,rec_ (l++[v]) many=some r∧TryOk b (l++[v]) many r) {s:Int} (s0:0≤s) (sn:s≤b.Counts.length) (s1:∀ y,l.getLast? =some y→y < s)
 (s2:∀ o,Ext b.Counts.length l many o→∀ x,o[l.length]? =some x→s≤x):∃ r,tally_Wrong_1_j4 b l rec_ many s=some r∧TryOk b l many r:=by
 have l8:=V.l8
 unfold tally_Wrong_1_j4
 have at_:∀ o,Ext b.Counts.length l many o→∃ x,o[l.length]? =some x:=fun o ho=>⟨_,List.getElem?_eq_getElem (by rw [ho.len]; exact hl)⟩
 refine loopF_inv (body:=tally_Wrong_1_l3 b l rec_ many) (fun z:Int=>s≤z∧z≤b.Counts.length∧∀ o,Ext b.Counts.length l many o→CanO b o→∀ x,o[l.length]? =some x→z≤x) (fun z=>b.Counts.length - z.toNat) (fun r=>TryOk b l many r) ?_ big s ⟨Int.le_refl _,sn,fun o ho _=>s2 o ho⟩ (by unfold big; simp; omega)
 rintro rec z ⟨h1,h2,h3⟩ ih
 unfold tally_Wrong_1_l3
 by_cases hz:z < b.Counts.length
 case neg=>
  rw [decide_eq_false hz,cond_false]
  refine ⟨_,rfl,.inr ⟨rfl,fun o ho hco=>?_⟩⟩
  obtain ⟨x,hx⟩:=at_ o ho
  have:=h3 o ho hco x hx
  have:=(ho.clm _ x hx).2.1
  omega
 rw [decide_eq_true hz,cond_true,need_of (by simp [fitsL]; omega)]
 have hC:Clm (l++[z]) b.Counts.length:=hc.snoc (by omega) hz (fun y hy=>by have:=s1 y hy; omega)
 obtain ⟨⟨out,c⟩,hr,hT⟩:=hrec z hC
 rw [hr,Option.bind_some]
 simp only
 rcases hT with ⟨e,hE,hO,hmin⟩ | ⟨e,hno⟩
 ·simp only at e; subst e
  rw [cond_true]
  refine ⟨_,rfl,.inl ⟨rfl,hE.less.1,hO,fun o ho hco=>?_⟩⟩
  obtain ⟨x,hx⟩:=at_ o ho
  have hzx:=h3 o ho hco x hx
  by_cases hxz:x=z
  ·subst hxz; exact hmin o (ho.more hx) hco
  ·rintro ⟨i,x',y',g1,g2,g3,g4⟩
   simp only at g2 g4
   have hoz:=hE.less.2
   simp only at hoz
   by_cases hi:i < l.length
   ·have hli:=List.getElem?_eq_getElem hi
    have a1:=ho.pre i _ hli
    have a2:=hE.less.1.pre i _ hli
    simp only at a2
    rw [g1] at a1; rw [g2] at a2
    have:=Option.some.inj a1; have:=Option.some.inj a2
    omega
   ·by_cases hil:i=l.length
    ·subst hil
     rw [hx] at g1; rw [hoz] at g2
     have:=Option.some.inj g1; have:=Option.some.inj g2
     omega
    ·have:=g4 l.length (by omega)
     rw [hx,hoz] at this
     exact hxz (Option.some.inj this)
 ·simp only at e; subst e
  rw [cond_false,wrI (by omega) (by omega)]
  refine ih _ ⟨by omega,by omega,fun o ho hco x hx=>?_⟩ (by (try simp only); omega)
  have:=h3 o ho hco x hx
  by_cases hxz:x=z
  ·subst hxz; exact absurd hco (hno o (ho.more hx))
  ·omega
theorem try_eq {b:TallyBook} (V:Val b) {many:Nat} (hm:many≤b.Counts.length):∀ (d fuel:Nat) (l:List Int),Clm l b.Counts.length→l.length+d=many→d < fuel→∃ r,tally_Wrong_1 fuel l many b=some r∧TryOk b l many r:=by
 have l8:=V.l8
 intro d
 induction d with
 | zero=>
   intro fuel l hc hl hf
   obtain ⟨f,rfl⟩:∃ f,fuel=f+1:=⟨fuel - 1,by omega⟩
   unfold tally_Wrong_1 tally_Wrong_1_F
   rw [show ((l.length:Int)==(many:Int))=true by simp; omega,cond_true]
   unfold tally_some
   rw [Option.bind_some]
   obtain ⟨m,hmm,O⟩:=some_eq V.bk (l:=l) (by omega)
   obtain ⟨r,hr,hi⟩:=can_eq O b.Counts
   rw [hmm,Option.bind_some]
   simp only
   rw [hr]
   have eq:∀ o,Ext b.Counts.length l many o→o=l:=fun o ho=>by
    refine (List.ext_getElem? fun i=>?_).symm
    by_cases hi:i < l.length
    ·rw [List.getElem?_eq_getElem hi,ho.pre i _ (List.getElem?_eq_getElem hi)]
    ·rw [List.getElem?_eq_none (by omega),List.getElem?_eq_none (by rw [ho.len]; omega)]
   refine ⟨_,rfl,?_⟩
   cases r with
   | true=>
     refine .inl ⟨rfl,⟨by simp only; omega,hc,fun i x h=>h⟩,hi.1 rfl,fun o ho _=>?_⟩
     rw [eq o ho]
     rintro ⟨i,x,y,h1,h2,h3,_⟩
     simp only at h2
     rw [h1] at h2
     have:=Option.some.inj h2
     omega
   | false=>
     refine .inr ⟨rfl,fun o ho=>?_⟩
     rw [eq o ho]
     exact fun h=>by simpa using hi.2 h
 | succ d ih=>
   intro fuel l hc hl hf
   obtain ⟨f,rfl⟩:∃ f,fuel=f+1:=⟨fuel - 1,by omega⟩
   unfold tally_Wrong_1 tally_Wrong_1_F
   rw [show ((l.length:Int)==(many:Int))=false by simp; omega,cond_false]
   have hrec:∀ v:Int,Clm (l++[v]) b.Counts.length→∃ r,tally_Wrong_1 f (l++[v]) many b=some r∧TryOk b (l++[v]) many r:=fun v hv=>ih f (l++[v]) hv (by (try simp); omega) (by omega)
   by_cases h0:0 < l.length
   ·rw [decide_eq_true (show (l.length:Int) > 0 by omega),cond_true,wrI (x:=(l.length:Int) - 1) (by omega) (by omega),show (l.length:Int) - 1=((l.length - 1:Nat):Int) by omega,getI_nat]
    have hlt:l.length - 1 < l.length:=by omega
    have hx:=List.getElem?_eq_getElem hlt
    generalize l[l.length - 1]=v at hx
    obtain ⟨v0,v1,_⟩:=hc _ _ hx
    rw [hx,Option.bind_some,wrI (x:=v+1) (by omega) (by omega)]
    refine try_loop V hm (by omega) hc hrec (by omega) (by omega) (fun y hy=>?_) (fun o ho x hox=>?_)
    ·rw [List.getLast?_eq_getElem?,hx] at hy
     have:=Option.some.inj hy; omega
    ·have:=(ho.clm _ x hox).2.2 v h0 (ho.pre _ _ hx)
     omega
   ·rw [decide_eq_false (show ¬(l.length:Int) > 0 by omega),cond_false]
    have hn:l=[]:=List.eq_nil_of_length_eq_zero (by omega)
    refine try_loop V hm (by omega) hc hrec (Int.le_refl _) (by omega) (fun y hy=>?_) (fun o ho x hox=>(ho.clm _ x hox).1)
    rw [hn] at hy; cases hy
def allL (n:Nat):List Int:=(List.range n).map Int.ofNat
theorem allL_clm (n:Nat):Clm (allL n) n:=by
 have get:∀ (k:Nat) (x:Int),(allL n)[k]? =some x→x=k∧k < n:=by
  intro k x h
  unfold allL at h
  rw [List.getElem?_map] at h
  obtain ⟨y,hy,rfl⟩:=Option.map_eq_some_iff.1 h
  have hk:k < n:=by simpa using (List.getElem?_eq_some_iff.1 hy).1
  rw [List.getElem?_range hk] at hy
  cases hy
  exact ⟨rfl,hk⟩
 intro k x h
 obtain ⟨rfl,hk⟩:=get k x h
 refine ⟨by omega,by omega,fun y h0 hy=>?_⟩
 obtain ⟨rfl,_⟩:=get _ y hy
 omega
theorem allL_can {b:TallyBook} (V:Bk b):CanO b (allL b.Counts.length):=by
 refine ⟨fun _=>0,fun k _=>?_,fun i x hx ho=>?_⟩
 ·have:=V.r0; show (0:Int)≤0+b.Room∧(0:Int)≤0; omega
 ·have hi:=(List.getElem?_eq_some_iff.1 hx).1
  have:(i:Int)∈allL b.Counts.length:=List.mem_map.2 ⟨i,List.mem_range.2 hi,rfl⟩
  unfold outL at ho
  simp [this] at ho
structure Few (b:TallyBook) (w:List Int):Prop where
 clm:Clm w b.Counts.length
 can:CanO b w
 len:∀ o,Clm o b.Counts.length→CanO b o→w.length≤o.length
 lex:∀ o,Clm o b.Counts.length→CanO b o→o.length=w.length→¬LexLt o w
theorem wrong_eq {b:TallyBook} (V:Val b):∃ w,tally_Wrong b=some (w,0)∧Few b w:=by
 have l8:=V.l8
 unfold tally_Wrong
 rw [check_ok V,Option.bind_some]
 simp only [bne_self_eq_false,cond_false]
 refine Exists.elim (loopF_inv (body:=tally_Wrong_l2 b) (fun z:Int=>∃ k:Nat,z=k∧k≤b.Counts.length+1∧∀ o,Clm o b.Counts.length→CanO b o→k≤o.length) (fun z=>b.Counts.length+1 - z.toNat) (fun r=>∃ w,r=(w,0)∧Few b w) ?_ big 0 ⟨0,rfl,by omega,fun _ _ _=>Nat.zero_le _⟩ (by unfold big; simp; omega)) fun r ⟨h1,w,h2,h3⟩=>⟨w,by rw [h1,h2],h3⟩
 rintro rec z ⟨k,rfl,hk,hmin⟩ ih
 unfold tally_Wrong_l2
 rw [wrI (x:=(b.Counts.length:Int)+1) (by omega) (by omega)]
 by_cases hlt:k < b.Counts.length+1
 ·rw [decide_eq_true (by omega),cond_true]
  obtain ⟨⟨out,c⟩,hr,hT⟩:=try_eq V (many:=k) (by omega) k big [] Clm.nil (by simp) (by unfold big; omega)
  rw [hr,Option.bind_some]
  simp only
  have ext:∀ o,Clm o b.Counts.length→o.length=k→Ext b.Counts.length [] k o:=fun o ho hl=>⟨hl,ho,fun i x h=>by simp at h⟩
  rcases hT with ⟨e,hE,hO,hm⟩ | ⟨e,hno⟩
  ·simp only at e; subst e
   rw [cond_true]
   refine ⟨_,rfl,out,rfl,hE.clm,hO,fun o h1 h2=>by rw [hE.len]; exact hmin o h1 h2,fun o h1 h2 h3=>hm o (ext o h1 (h3.trans hE.len)) h2⟩
  ·simp only at e; subst e
   rw [cond_false,wrI (by omega) (by omega)]
   refine ih _ ⟨k+1,by simp,by omega,fun o h1 h2=>?_⟩ (by (try simp only); omega)
   have:=hmin o h1 h2
   by_cases hok:o.length=k
   ·exact absurd h2 (hno o (ext o h1 hok))
   ·omega
 ·have:=hmin _ (allL_clm _) (allL_can V.bk)
  unfold allL at this
  simp at this
  omega
theorem outL_nil {b:TallyBook}{q:Nat→Int}:Fit b (outL []) q↔Fit b no q:=by
 unfold Fit CntsQ outL no
 simp
theorem canO_nil {b:TallyBook}:CanO b []↔CanBe b:=by
 unfold CanO CanBe
 simp only [outL_nil]
theorem Clm.up {l:List Int}{n m:Int} (h:Clm l n) (hm:n≤m):Clm l m:=fun k x hx=>by
 obtain ⟨a,b,c⟩:=h k x hx
 exact ⟨a,by omega,c⟩
end Go.Proofs.YtblfippmobpaaaaDoor
/- What the functions of the program compute, and that they do, printed by a program of mine. -/
import Derived.Test.YthimckediigcoaaDoorZWA
import Derived.KernelRfl
import Derived.Test.YthimckediigcoaaDoorZGFxTallyDefs
import Derived.OpenShut
import Derived.RowKit
import Derived.WideKeyArgs
import Derived.ChangeOld
import Derived.LaidMore
import Derived.LaidLaws
import Derived.Deep.DeepHandedRow
import Derived.ProofKit
import Derived.Test.YthimckediigcoaaDoorCards
import Derived.Test.YthimckediigcoaaDoorTie
set_option linter.unusedVariables false
set_option linter.unusedSimpArgs false
namespace Go.Proofs.YthimckediigcoaaDoor
open Go Go.Fx Go.Proofs
def tally_Again_l7 (r43:Span) (a0:TallyBook) (z_1:Int×Int×Int) (rec_z_1:(Int×Int×Int)→Option (Int×Int)) (rec_z_2:(Int×Int)→Option (Int×Int)) (z_2:Int×Int):Option (Int×Int):=
 bif decide (z_2.2 < (wr ((wr (r43.High - r43.Low))+1))) then ((tally_with a0 (TallyCount.mk 2 z_1.2.2 z_1.2.2 (wr (r43.Low+z_2.2)) 1 0 0)).bind fun r64=>
 (tally_nobody).bind fun r74=>
 (tally_opened r64 (Tally_leave.mk (fun y82 y83=>tally_nobody_1 y82 y83))).bind fun r84=>
 (tally_book_many (Tally_book.mk (TallyBook.mk r84.TallyBook.Trips r84.TallyBook.Room r64.Counts) r84.more_) 0 a0.Trips).bind fun r99=>
 rec_z_2 ((if (wr (r99.High - r99.Low)) > z_2.1 then (wr (r99.High - r99.Low)) else z_2.1),wr (z_2.2+1)))
 else (bif decide (z_1.1 < 0) then (tally_Again_j6 rec_z_1 z_1 z_2 true)
 else (tally_Again_j6 rec_z_1 z_1 z_2 (decide (z_2.1 < z_1.2.1))))
def tally_Again_l8 (a0:TallyBook) (r9:Tally_book×Int) (rec_z_1:(Int×Int×Int)→Option (Int×Int)) (z_1:Int×Int×Int):Option (Int×Int):=
 bif decide (z_1.2.2 < a0.Trips) then ((tally_book_many r9.1 z_1.2.2 (wr (z_1.2.2+1))).bind fun r43=>
 loopF (tally_Again_l7 r43 a0 z_1 rec_z_1) big (0,0))
 else (some (z_1.1,0))
def tally_Again (a0:TallyBook):Option (Int×Int):=
 (tally_asked a0 true).bind fun r9=>
 bif (r9.2 != 0) then (some (0,r9.2))
 else ((tally_book_many r9.1 0 a0.Trips).bind fun r27=>
 bif (r27.Low==r27.High) then (some (0,4))
 else (loopF (tally_Again_l8 a0 r9) big ((-1),0,0)))
set_option maxRecDepth 100000 in
theorem tally_Again_ok {a0:TallyBook}{A1:Option Addr}{c2:Nat}{w:World}{r:Int×Int} (H:tally_Again a0=some r) (h3:(rd eTallyCount 7 A1 c2 a0.Counts).ok w) (hg4:(gW0).ok w) (hg5:(gW1).ok w):Calls Tryd.prog 13 #[AG [I a0.Trips,I a0.Room,SL A1 a0.Counts.length c2]] w (RetV w (TU [I r.1,I r.2])):=by
 unfold tally_Again at H
 refine fn_of (n:=85) Tryd.func13 rfl rfl (lE rfl) ?_
 have S:=St.start w nF _ (cA h3 (cA hg4 (cA hg5 nM)))
 refine c_seq<|reg<|p_boxA rfl S fun b6 w7 S8=>p_aI rfl<|p_aI rfl<|wp_nil<|c_seq<|reg<|p_ldA ty24 sz24 (S8.atX (i:=0) rfl) rfl rfl ?_
 obtain ⟨r9,h10,H⟩:=bindS H
 refine p_cal (tally_asked_ok h10 (S8.atP (i:=0) rfl) (S8.atP (i:=1) rfl) (S8.atP (i:=2) rfl)) fu22 rfl ?_
 rintro _ w11 ⟨A13,c14,m15,rfl,k12,⟨o16,n17⟩,⟨o18,n19⟩,_⟩
 have S20:=S8.callN k12 [rd eTallyCount 7 A13 c14 r9.1.TallyBook.Counts,mpo ekT iE m15 r9.1.more_] (cA ⟨o16,Al.inL n17 ((cA (fp_mem (i:=0) rfl) nM))⟩ (cA ⟨o18,New.inL n19⟩ nM))
 refine p_mT rfl<|p_ext rfl rfl<|p_ext rfl rfl<|p_allA in51 S20 fun b21 w22 S23=>?_
 refine p_stP (pre:=[]) (old:=[I 0,I 0,SL none 0 0,Value.map none]) (post:=[]) (vs:=[I r9.1.TallyBook.Trips,I r9.1.TallyBook.Room,SL A13 r9.1.TallyBook.Counts.length c14,Value.map m15]) sz51 S23 (i:=0) rfl rfl rfl rfl (rfl:_=AG [I r9.1.TallyBook.Trips,I r9.1.TallyBook.Room,SL A13 r9.1.TallyBook.Counts.length c14,Value.map m15]) rfl rfl rfl rfl fun w24 S25=>p_aI rfl<|wp_nil<|c_seq<|c_seq ?_
 refine reg<|p_mI rfl<|p_cmp rfl rfl rfl<|wp_nil ?_
 refine c_cond rfl (fun c26=>?_) (fun c26=>?_)
 ·replace H:=condT c26 H
  refine c_seq<|reg<|p_mI rfl<|p_aI rfl<|p_aI rfl<|wp_nil ?_
  obtain rfl:=sJ H
  refine c_ret ?_; show bodyPostM (Fr none) 0 Tryd.prog Tryd.f13 _ .ret _ _
  refine ret_of (res2 rfl (rvT (rfl:_=I 0)) (rvT (rfl:_=I r9.2))) ?_
  exact ⟨_,rfl,rfl,S25.keep⟩
 ·replace H:=condF c26 H
  refine c_skip<|c_seq<|c_seq<|reg<|p_ldA ty51 sz51 (S25.atX (i:=0) rfl) rfl rfl<|p_fld fl24_0 rfl<|p_ld ty3 (S25.atX (i:=1) rfl) rfl rfl ?_
  obtain ⟨r27,h28,H⟩:=bindS H
  refine p_cv (tally_book_many_ok h28 (S25.atP (i:=0) rfl) (S25.atP (i:=1) rfl) (S25.atP (i:=4) rfl)) fu24 rfl S25 fun w29 S30=>p_allA in33 S30 fun b31 w32 S33=>p_stP (pre:=[]) (old:=[I 0,I 0]) (post:=[]) (vs:=[I r27.Low,I r27.High]) sz33 S33 (i:=0) rfl rfl rfl rfl (rfl:_=AG [I r27.Low,I r27.High]) rfl rfl rfl rfl fun w34 S35=>wp_nil<|c_seq<|reg<|p_fld fl33_0 rfl ?_
  refine p_ld ty3 (S35.atX (i:=0) rfl) rfl rfl<|p_fld fl33_1 rfl<|p_ld ty3 (S35.atX (i:=0) rfl) rfl rfl<|p_cmp rfl rfl rfl<|wp_nil ?_
  refine c_cond rfl (fun c36=>?_) (fun c36=>?_)
  ·replace H:=condT c36 H
   refine c_seq<|reg<|p_aI rfl<|p_aI rfl<|wp_nil ?_
   obtain rfl:=sJ H
   refine c_ret ?_; show bodyPostM (Fr none) 0 Tryd.prog Tryd.f13 _ .ret _ _
   refine ret_of (res2 rfl (rvT (rfl:_=I 0)) (rvT (rfl:_=I 4))) ?_
   exact ⟨_,rfl,rfl,S35.keep⟩
  ·replace H:=condF c36 H
   refine c_skip<|c_seq<|reg<|p_aI rfl<|p_aI rfl<|wp_nil<|c_seq<|c_seq<|reg<|p_fld fl24_0 rfl<|p_ld ty3 (S35.atX (i:=2) rfl) rfl rfl<|p_mI rfl<|wp_nil<|c_block ?_
   have S37:=S35.pk [1,2] (by decide) [0,1,2,3,4] rfl rfl
   refine c_lop (α:=Int×Int×Int) (β:=Unit) (tally_Again_l8 a0 r9) (fun z_1 y_1=>[(1,P b6 0),(4,P b21 0),(7,I z_1.1),(8,I z_1.2.1),(33,I a0.Trips),(34,I z_1.2.2)]) (fun z_1 y_1 w_=>St w nF w_ [bl b21 [I r9.1.TallyBook.Trips,I r9.1.TallyBook.Room,SL A13 r9.1.TallyBook.Counts.length c14,Value.map m15] 51,bl b6 [I a0.Trips,I a0.Room,SL A1 a0.Counts.length c2] 24] [rd eTallyCount 7 A13 c14 r9.1.TallyBook.Counts,mpo ekT iE m15 r9.1.more_,rd eTallyCount 7 A1 c2 a0.Counts,gW0,gW1]) ((-1),0,0) () H ⟨rfl,rfl,rfl,rfl,rfl,rfl,trivial⟩ S37 ?_
   intro m38 z_1 y_1 e39 w40 H S41
   unfold tally_Again_l8 at H
   refine c_seq<|reg<|p_cmp rfl rfl rfl<|wp_nil<|c_seq ?_
   refine c_cond rfl (fun c42=>?_) (fun c42=>?_)
   ·replace H:=condT c42 H
    refine c_skip<|c_seq<|c_block<|c_seq<|reg<|p_mI rfl<|p_aI rfl<|wp_nil<|c_seq<|reg<|p_ldA ty51 sz51 (S41.atX (i:=0) rfl) rfl rfl<|p_mI rfl<|p_mI rfl<|p_add rfl rfl ?_
    obtain ⟨r43,h44,H⟩:=bindS H
    refine p_cv (tally_book_many_ok h44 (S41.atP (i:=0) rfl) (S41.atP (i:=1) rfl) (S41.atP (i:=4) rfl)) fu24 rfl S41 fun w45 S46=>p_allA in33 S46 fun b47 w48 S49=>p_stP (pre:=[]) (old:=[I 0,I 0]) (post:=[]) (vs:=[I r43.Low,I r43.High]) sz33 S49 (i:=0) rfl rfl rfl rfl (rfl:_=AG [I r43.Low,I r43.High]) rfl rfl rfl rfl fun w50 S51=>p_aI rfl<|wp_nil<|c_seq<|c_seq<|reg<|p_fld fl33_1 rfl ?_
    refine p_ld ty3 (S51.atX (i:=0) rfl) rfl rfl<|p_fld fl33_0 rfl<|p_ld ty3 (S51.atX (i:=0) rfl) rfl rfl<|p_sub rfl rfl<|p_add rfl rfl<|p_mI rfl<|wp_nil<|c_block ?_
    refine c_lop (α:=Int×Int) (β:=Unit) (tally_Again_l7 r43 a0 z_1 (loopF (tally_Again_l8 a0 r9) m38)) (fun z_2 y_2=>[(1,P b6 0),(4,P b21 0),(7,I z_1.1),(8,I z_1.2.1),(9,I z_1.2.2),(10,P b47 0),(11,I z_2.1),(33,I a0.Trips),(34,I z_1.2.2),(47,I (wr ((wr (r43.High - r43.Low))+1))),(48,I z_2.2)]) (fun z_2 y_2 w_=>St w nF w_ [bl b47 [I r43.Low,I r43.High] 33,bl b21 [I r9.1.TallyBook.Trips,I r9.1.TallyBook.Room,SL A13 r9.1.TallyBook.Counts.length c14,Value.map m15] 51,bl b6 [I a0.Trips,I a0.Room,SL A1 a0.Counts.length c2] 24] [rd eTallyCount 7 A13 c14 r9.1.TallyBook.Counts,mpo ekT iE m15 r9.1.more_,rd eTallyCount 7 A1 c2 a0.Counts,gW0,gW1]) (0,0) () H ⟨rfl,rfl,rfl,rfl,rfl,rfl,rfl,rfl,rfl,rfl,rfl,trivial⟩ S51 ?_
    intro m52 z_2 y_2 e53 w54 H S55
    unfold tally_Again_l7 at H
    refine c_seq<|reg<|p_cmp rfl rfl rfl<|wp_nil<|c_seq ?_
    refine c_cond rfl (fun c56=>?_) (fun c56=>?_)
    ·replace H:=condT c56 H
     refine c_skip<|c_seq<|c_block<|c_seq<|reg<|p_mI rfl<|p_aI rfl<|wp_nil<|c_seq<|reg<|p_mI rfl<|p_mI rfl<|p_fld fl33_0 rfl<|p_ld ty3 (S55.atX (i:=0) rfl) rfl rfl<|p_mI rfl<|p_add rfl rfl<|p_bld (cs:=[I 2,I z_1.2.2,I z_1.2.2,I (wr (r43.Low+z_2.2)),I 1,I 0,I 0]) st28 (rfl:_=[(0,I 2),(1,I z_1.2.2),(2,I z_1.2.2),(3,I (wr (r43.Low+z_2.2))),(4,I 1)]) (by kernel_rfl)<|p_allA in28 S55 fun b57 w58 S59=>?_
     refine p_stP (pre:=[]) (old:=[I 0,I 0,I 0,I 0,I 0,I 0,I 0]) (post:=[]) (vs:=[I 2,I z_1.2.2,I z_1.2.2,I (wr (r43.Low+z_2.2)),I 1,I 0,I 0]) sz28 S59 (i:=0) rfl rfl rfl rfl (rfl:_=AG [I 2,I z_1.2.2,I z_1.2.2,I (wr (r43.Low+z_2.2)),I 1,I 0,I 0]) rfl rfl rfl rfl fun w60 S61=>wp_nil<|c_seq ?_
     obtain ⟨r64,h65,H⟩:=bindS H
     obtain ⟨r74,h75,H⟩:=bindS H
     obtain ⟨r84,h85,H⟩:=bindS H
     obtain ⟨r99,h100,H⟩:=bindS H
     refine reg_any mixed 9 (by kernel_rfl) [rv (AG [I a0.Trips,I a0.Room,SL A1 a0.Counts.length c2]),rv (AG [I 2,I z_1.2.2,I z_1.2.2,I (wr (r43.Low+z_2.2)),I 1,I 0,I 0]),rx (α:=(Option Addr)×Nat) (fun ⟨A68,c69⟩=>AG [I r64.Trips,I r64.Room,SL A68 r64.Counts.length c69]) (fun ⟨A68,c69⟩ lo hi=>BtwL lo hi [] (gr eTallyCount 7 28 A68 c69 r64.Counts)∧True) (fun ⟨A68,c69⟩=>[gr eTallyCount 7 28 A68 c69 r64.Counts]),rv (AG [vF (.func 33) #[] #[]]),rx (α:=(Option Addr)×Nat×Nat) (fun ⟨A92,c93,m88⟩=>AG [I r84.TallyBook.Trips,I r84.TallyBook.Room,SL A92 r64.Counts.length c93,Value.map (some m88)]) (fun ⟨A92,c93,m88⟩ lo hi=>BtwL lo hi [] (mp ekT iE m88 r84.more_)∧True) (fun ⟨A92,c93,m88⟩=>[mp ekT iE m88 r84.more_,gr eTallyCount 7 28 A92 c93 r64.Counts]),rv (P b6 0),rv (I a0.Trips),rv (AG [I r99.Low,I r99.High]),rx (α:=Nat) (fun b103=>P b103 0) (fun b103 lo hi=>BtwL lo hi [] (bl b103 [I 0,I 0] 33)∧True) (fun b103=>[bl b103 [I 0,I 0] 33])] [[],[],[],[],[],[],[],[],[]] rfl (by kernel_rfl) [[],[],[0,1],[0,1,2],[0,1,2,3],[],[5],[0,1,2,3,4,5,6],[],[0,1,2,3,4,5,6,7,8]] (by kernel_rfl) ⟨?_,?_,?_,?_,?_,?_,?_,?_,?_,trivial⟩ ?_
     ·intro e_ w_ k_ hf_ hR_
      have S_:St w_ nF w_ [] [bl b57 [I 2,I z_1.2.2,I z_1.2.2,I (wr (r43.Low+z_2.2)),I 1,I 0,I 0] 28,bl b47 [I r43.Low,I r43.High] 33,bl b21 [I r9.1.TallyBook.Trips,I r9.1.TallyBook.Room,SL A13 r9.1.TallyBook.Counts.length c14,Value.map m15] 51,bl b6 [I a0.Trips,I a0.Room,SL A1 a0.Counts.length c2] 24,rd eTallyCount 7 A13 c14 r9.1.TallyBook.Counts,mpo ekT iE m15 r9.1.more_,rd eTallyCount 7 A1 c2 a0.Counts,gW0,gW1]:=S61.asP k_
      refine hopE [(1,P b6 0)] ⟨((hf_ 1 rfl).trans (rfl:_=P b6 0)),trivial⟩ ?_
      exact p_ldA ty24 sz24 (S_.atP (i:=3) rfl) rfl rfl<|wp_nil ⟨_,rfl,S_.keep,rfl⟩
     ·intro e_ w_ k_ hf_ hR_
      have S_:St w_ nF w_ [] [bl b57 [I 2,I z_1.2.2,I z_1.2.2,I (wr (r43.Low+z_2.2)),I 1,I 0,I 0] 28,bl b47 [I r43.Low,I r43.High] 33,bl b21 [I r9.1.TallyBook.Trips,I r9.1.TallyBook.Room,SL A13 r9.1.TallyBook.Counts.length c14,Value.map m15] 51,bl b6 [I a0.Trips,I a0.Room,SL A1 a0.Counts.length c2] 24,rd eTallyCount 7 A13 c14 r9.1.TallyBook.Counts,mpo ekT iE m15 r9.1.more_,rd eTallyCount 7 A1 c2 a0.Counts,gW0,gW1]:=S61.asP k_
      refine hopE [(13,P b57 0)] ⟨((hf_ 13 rfl).trans (rfl:_=P b57 0)),trivial⟩ ?_
      exact p_ldA ty28 sz28 (S_.atP (i:=0) rfl) rfl rfl<|wp_nil ⟨_,rfl,S_.keep,rfl⟩
     ·intro e_ w_ k_ hf_ hR_
      have S_:St w_ nF w_ [] [bl b57 [I 2,I z_1.2.2,I z_1.2.2,I (wr (r43.Low+z_2.2)),I 1,I 0,I 0] 28,bl b47 [I r43.Low,I r43.High] 33,bl b21 [I r9.1.TallyBook.Trips,I r9.1.TallyBook.Room,SL A13 r9.1.TallyBook.Counts.length c14,Value.map m15] 51,bl b6 [I a0.Trips,I a0.Room,SL A1 a0.Counts.length c2] 24,rd eTallyCount 7 A13 c14 r9.1.TallyBook.Counts,mpo ekT iE m15 r9.1.more_,rd eTallyCount 7 A1 c2 a0.Counts,gW0,gW1]:=S61.asP k_
      refine hopE [(58,AG [I a0.Trips,I a0.Room,SL A1 a0.Counts.length c2]),(59,AG [I 2,I z_1.2.2,I z_1.2.2,I (wr (r43.Low+z_2.2)),I 1,I 0,I 0])] ⟨rQ (hR_ 0 58 rfl (lE rfl) rfl),rQ (hR_ 1 59 rfl (lE rfl) rfl),trivial⟩ ?_
      refine p_cal (tally_with_ok h65 (S_.atP (i:=6) rfl)) fu28 rfl ?_
      rintro _ w66 ⟨A68,c69,rfl,k67,⟨o70,n71⟩,_⟩
      have S73:=S_.addNew k67 o70 n71
      exact wp_nil ⟨_,rfl,S73.keep,⟨(A68,c69),rfl,⟨bL (New.al (S73.newX (i:=0) rfl)) rfl (S73.atX (i:=0) rfl) rfl,trivial⟩,(cA (S73.atX (i:=0) rfl) nM)⟩⟩
     ·intro e_ w_ k_ hf_ hR_
      have S_:St w_ nF w_ [] [bl b57 [I 2,I z_1.2.2,I z_1.2.2,I (wr (r43.Low+z_2.2)),I 1,I 0,I 0] 28,bl b47 [I r43.Low,I r43.High] 33,bl b21 [I r9.1.TallyBook.Trips,I r9.1.TallyBook.Room,SL A13 r9.1.TallyBook.Counts.length c14,Value.map m15] 51,bl b6 [I a0.Trips,I a0.Room,SL A1 a0.Counts.length c2] 24,rd eTallyCount 7 A13 c14 r9.1.TallyBook.Counts,mpo ekT iE m15 r9.1.more_,rd eTallyCount 7 A1 c2 a0.Counts,gW0,gW1]:=S61.asP k_
      refine hopE [] trivial ?_
      refine p_cv (tally_nobody_ok h75) fu20 rfl S_ fun w76 S77=>wp_nil ?_
      exact ⟨_,rfl,S77.keep,rfl⟩
     ·intro e_ w_ k_ hf_ hR_
      have S_:St w_ nF w_ [] [bl b57 [I 2,I z_1.2.2,I z_1.2.2,I (wr (r43.Low+z_2.2)),I 1,I 0,I 0] 28,bl b47 [I r43.Low,I r43.High] 33,bl b21 [I r9.1.TallyBook.Trips,I r9.1.TallyBook.Room,SL A13 r9.1.TallyBook.Counts.length c14,Value.map m15] 51,bl b6 [I a0.Trips,I a0.Room,SL A1 a0.Counts.length c2] 24,rd eTallyCount 7 A13 c14 r9.1.TallyBook.Counts,mpo ekT iE m15 r9.1.more_,rd eTallyCount 7 A1 c2 a0.Counts,gW0,gW1]:=S61.asP k_
      obtain ⟨_,_,_,_,⟨A68,c69⟩,q78,p79,a80⟩:=hR_ 2 60 rfl (lE rfl) rfl
      replace q78:e_ 60=AG [I r64.Trips,I r64.Room,SL A68 r64.Counts.length c69]:=q78
      have S_:=St.addL' S_ (a80 _ (.head _)) (fun _ _ _ h_=>(nE h_))
      refine hopE [(60,AG [I r64.Trips,I r64.Room,SL A68 r64.Counts.length c69]),(61,AG [vF (.func 33) #[] #[]])] ⟨q78,rQ (hR_ 3 61 rfl (lE rfl) rfl),trivial⟩ ?_
      refine p_cal (tally_opened_ok h85 (gr_rd eTallyCount_len (S_.atP (i:=0) rfl)) (by kernel_rfl) (fun _ _ _ _ k_ hr_=>tally_nobody_1_ok hr_) (S_.atP (i:=8) rfl)) fu19 rfl ?_
      rintro _ w86 ⟨m88,rfl,k87,⟨o89,n90⟩,_⟩
      have S91:=S_.addNew k87 o89 n90
      exact wp_nil ⟨_,rfl,S91.keep,⟨(A68,c69,m88),rfl,⟨bL (New.al (S91.newX (i:=0) rfl)) rfl (S91.atX (i:=0) rfl) rfl,trivial⟩,(cA (S91.atX (i:=0) rfl) (cA (S91.atP (i:=0) rfl) nM))⟩⟩
     ·intro e_ w_ k_ hf_ hR_
      have S_:St w_ nF w_ [] [bl b57 [I 2,I z_1.2.2,I z_1.2.2,I (wr (r43.Low+z_2.2)),I 1,I 0,I 0] 28,bl b47 [I r43.Low,I r43.High] 33,bl b21 [I r9.1.TallyBook.Trips,I r9.1.TallyBook.Room,SL A13 r9.1.TallyBook.Counts.length c14,Value.map m15] 51,bl b6 [I a0.Trips,I a0.Room,SL A1 a0.Counts.length c2] 24,rd eTallyCount 7 A13 c14 r9.1.TallyBook.Counts,mpo ekT iE m15 r9.1.more_,rd eTallyCount 7 A1 c2 a0.Counts,gW0,gW1]:=S61.asP k_
      refine hopE [(1,P b6 0)] ⟨((hf_ 1 rfl).trans (rfl:_=P b6 0)),trivial⟩ ?_
      refine p_fld fl24_0 rfl<|wp_nil ?_
      exact ⟨_,rfl,S_.keep,rfl⟩
     ·intro e_ w_ k_ hf_ hR_
      have S_:St w_ nF w_ [] [bl b57 [I 2,I z_1.2.2,I z_1.2.2,I (wr (r43.Low+z_2.2)),I 1,I 0,I 0] 28,bl b47 [I r43.Low,I r43.High] 33,bl b21 [I r9.1.TallyBook.Trips,I r9.1.TallyBook.Room,SL A13 r9.1.TallyBook.Counts.length c14,Value.map m15] 51,bl b6 [I a0.Trips,I a0.Room,SL A1 a0.Counts.length c2] 24,rd eTallyCount 7 A13 c14 r9.1.TallyBook.Counts,mpo ekT iE m15 r9.1.more_,rd eTallyCount 7 A1 c2 a0.Counts,gW0,gW1]:=S61.asP k_
      refine hopE [(63,P b6 0)] ⟨rQ (hR_ 5 63 rfl (lE rfl) rfl),trivial⟩ ?_
      exact p_ld ty3 (S_.atP (i:=3) rfl) rfl rfl<|wp_nil ⟨_,rfl,S_.keep,rfl⟩
     ·intro e_ w_ k_ hf_ hR_
      have S_:St w_ nF w_ [] [bl b57 [I 2,I z_1.2.2,I z_1.2.2,I (wr (r43.Low+z_2.2)),I 1,I 0,I 0] 28,bl b47 [I r43.Low,I r43.High] 33,bl b21 [I r9.1.TallyBook.Trips,I r9.1.TallyBook.Room,SL A13 r9.1.TallyBook.Counts.length c14,Value.map m15] 51,bl b6 [I a0.Trips,I a0.Room,SL A1 a0.Counts.length c2] 24,rd eTallyCount 7 A13 c14 r9.1.TallyBook.Counts,mpo ekT iE m15 r9.1.more_,rd eTallyCount 7 A1 c2 a0.Counts,gW0,gW1]:=S61.asP k_
      obtain ⟨_,_,_,_,⟨A92,c93,m88⟩,q95,p96,a97⟩:=hR_ 4 62 rfl (lE rfl) rfl
      replace q95:e_ 62=AG [I r84.TallyBook.Trips,I r84.TallyBook.Room,SL A92 r64.Counts.length c93,Value.map (some m88)]:=q95
      have S_:=St.addL' S_ (a97 _ (.head _)) (fun _ _ _ h_=>(nE h_))
      have S_:=St.addL' S_ (a97 _ (.tail _ (.head _))) (fun _ _ _ h_=>(nE h_))
      refine hopE [(62,AG [I r84.TallyBook.Trips,I r84.TallyBook.Room,SL A92 r64.Counts.length c93,Value.map (some m88)]),(64,I a0.Trips)] ⟨q95,rQ (hR_ 6 64 rfl (lE rfl) rfl),trivial⟩ ?_
      refine p_cv (tally_book_many_ok h100 (gr_rd eTallyCount_len (S_.atP (i:=0) rfl)) (mpo_some (S_.atP (i:=1) rfl)) (S_.atP (i:=10) rfl)) fu24 rfl S_ fun w101 S102=>wp_nil ?_
      exact ⟨_,rfl,S102.keep,rfl⟩
     ·intro e_ w_ k_ hf_ hR_
      have S_:St w_ nF w_ [] [bl b57 [I 2,I z_1.2.2,I z_1.2.2,I (wr (r43.Low+z_2.2)),I 1,I 0,I 0] 28,bl b47 [I r43.Low,I r43.High] 33,bl b21 [I r9.1.TallyBook.Trips,I r9.1.TallyBook.Room,SL A13 r9.1.TallyBook.Counts.length c14,Value.map m15] 51,bl b6 [I a0.Trips,I a0.Room,SL A1 a0.Counts.length c2] 24,rd eTallyCount 7 A13 c14 r9.1.TallyBook.Counts,mpo ekT iE m15 r9.1.more_,rd eTallyCount 7 A1 c2 a0.Counts,gW0,gW1]:=S61.asP k_
      refine hopE [] trivial ?_
      refine p_allA in33 S_ fun b103 w104 S105=>wp_nil ?_
      exact ⟨_,rfl,S105.keep,⟨b103,rfl,⟨bL (New.al (S105.newX (i:=0) rfl)) rfl (S105.atX (i:=0) rfl) rfl,trivial⟩,(cA (S105.atX (i:=0) rfl) nM)⟩⟩
     intro e106 w107 lo108 hi109 k110 hf111 hR112 hd113
     have S114:=S61.call k110
     have q115:e106 58=AG [I a0.Trips,I a0.Room,SL A1 a0.Counts.length c2]:=(hR112 0 58 (lE rfl) rfl).2.2.2
     have q116:e106 59=AG [I 2,I z_1.2.2,I z_1.2.2,I (wr (r43.Low+z_2.2)),I 1,I 0,I 0]:=(hR112 1 59 (lE rfl) rfl).2.2.2
     obtain ⟨h118,h119,h120,⟨A68,c69⟩,q117,h121,h122⟩:=hR112 2 60 (lE rfl) rfl
     replace q117:e106 60=AG [I r64.Trips,I r64.Room,SL A68 r64.Counts.length c69]:=q117
     obtain ⟨p123,_⟩:=h121
     have q125:e106 61=AG [vF (.func 33) #[] #[]]:=(hR112 3 61 (lE rfl) rfl).2.2.2
     obtain ⟨h127,h128,h129,⟨A92,c93,m88⟩,q126,h130,h131⟩:=hR112 4 62 (lE rfl) rfl
     replace q126:e106 62=AG [I r84.TallyBook.Trips,I r84.TallyBook.Room,SL A92 r64.Counts.length c93,Value.map (some m88)]:=q126
     obtain ⟨p132,_⟩:=h130
     have q134:e106 63=P b6 0:=(hR112 5 63 (lE rfl) rfl).2.2.2
     have q135:e106 64=I a0.Trips:=(hR112 6 64 (lE rfl) rfl).2.2.2
     have q136:e106 65=AG [I r99.Low,I r99.High]:=(hR112 7 65 (lE rfl) rfl).2.2.2
     obtain ⟨h138,h139,h140,b103,q137,h141,h142⟩:=hR112 8 14 (lE rfl) rfl
     replace q137:e106 14=P b103 0:=q137
     obtain ⟨p143,_⟩:=h141
     have S145:=St.addO S114 (h142 _ (.head _)) (oN p143 h138 S61) (oX p143 h138 S61) (oL p143 h138 S61)
     refine tailE [(1,P b6 0),(4,P b21 0),(7,I z_1.1),(8,I z_1.2.1),(9,I z_1.2.2),(10,P b47 0),(11,I z_2.1),(14,P b103 0),(33,I a0.Trips),(34,I z_1.2.2),(47,I (wr ((wr (r43.High - r43.Low))+1))),(48,I z_2.2),(65,AG [I r99.Low,I r99.High])] ⟨((hf111 1 rfl).trans (rfl:_=P b6 0)),((hf111 4 rfl).trans (rfl:_=P b21 0)),((hf111 7 rfl).trans (rfl:_=I z_1.1)),((hf111 8 rfl).trans (rfl:_=I z_1.2.1)),((hf111 9 rfl).trans (rfl:_=I z_1.2.2)),((hf111 10 rfl).trans (rfl:_=P b47 0)),((hf111 11 rfl).trans (rfl:_=I z_2.1)),q137,((hf111 33 rfl).trans (rfl:_=I a0.Trips)),((hf111 34 rfl).trans (rfl:_=I z_1.2.2)),((hf111 47 rfl).trans (rfl:_=I (wr ((wr (r43.High - r43.Low))+1)))),((hf111 48 rfl).trans (rfl:_=I z_2.2)),q136,trivial⟩ ?_
     intro g146
     refine p_stP (pre:=[]) (old:=[I 0,I 0]) (post:=[]) (vs:=[I r99.Low,I r99.High]) sz33 S145 (i:=0) rfl rfl rfl rfl (rfl:_=AG [I r99.Low,I r99.High]) rfl rfl rfl rfl fun w147 S148=>wp_nil<|reg<|p_mI rfl<|p_fld fl33_1 rfl<|p_ld ty3 (S148.atX (i:=0) rfl) rfl rfl<|p_fld fl33_0 rfl<|p_ld ty3 (S148.atX (i:=0) rfl) rfl rfl<|p_sub rfl rfl<|p_max rfl rfl<|p_aI rfl<|wp_nil<|reg<|p_add rfl rfl<|p_mI rfl<|wp_nil ?_
     have S149:=S148.pk [2,3,4] (by decide) [0,1,2,3,4] rfl rfl
     exact ⟨((if (wr (r99.High - r99.Low)) > z_2.1 then (wr (r99.High - r99.Low)) else z_2.1),wr (z_2.2+1)),(),_,rfl,⟨rfl,rfl,rfl,rfl,rfl,rfl,rfl,rfl,rfl,rfl,rfl,trivial⟩,H,S149⟩
    ·replace H:=condF c56 H
     refine c_exit ?_
     refine c_join (α:=Bool) (β:=Unit) (fun z_3 y_3=>[(1,P b6 0),(4,P b21 0),(7,I z_1.1),(8,I z_1.2.1),(9,I z_1.2.2),(11,I z_2.1),(33,I a0.Trips),(34,I z_1.2.2),(80,B z_3)]) (fun z_3 y_3 w_=>tally_Again_j6 (loopF (tally_Again_l8 a0 r9) m38) z_1 z_2 z_3=some r∧St w nF w_ [bl b21 [I r9.1.TallyBook.Trips,I r9.1.TallyBook.Room,SL A13 r9.1.TallyBook.Counts.length c14,Value.map m15] 51,bl b6 [I a0.Trips,I a0.Room,SL A1 a0.Counts.length c2] 24] [rd eTallyCount 7 A13 c14 r9.1.TallyBook.Counts,mpo ekT iE m15 r9.1.more_,rd eTallyCount 7 A1 c2 a0.Counts,gW0,gW1]) ?_ ?_
     ·refine reg<|p_mI rfl<|p_cmp rfl rfl rfl<|p_mB rfl ?_
      rcases bE (decide (z_1.1 < 0)) with c150 | c150
      ·replace H:=condT c150 H
       refine eB c150<|gF rfl rfl<|gF rfl rfl<|gF rfl rfl<|p_pkT rfl (rfl:_=B true)<|wp_nil ?_
       have S151:=S55.pk [1,2] (by decide) [0,1,2,3,4] rfl rfl
       exact ⟨true,(),_,rfl,⟨rfl,rfl,rfl,rfl,rfl,rfl,rfl,rfl,rfl,trivial⟩,H,S151⟩
      ·replace H:=condF c150 H
       refine eB c150 ?_
       refine gT rfl rfl (p_mI rfl ?_)
       refine gT rfl rfl (p_mI rfl ?_)
       refine gT rfl rfl (p_cmp rfl rfl rfl ?_)
       refine p_pkF rfl (rfl:_=B (decide (z_2.1 < z_1.2.1)))<|wp_nil ?_
       have S151:=S55.pk [1,2] (by decide) [0,1,2,3,4] rfl rfl
       exact ⟨decide (z_2.1 < z_1.2.1),(),_,rfl,⟨rfl,rfl,rfl,rfl,rfl,rfl,rfl,rfl,rfl,trivial⟩,H,S151⟩
     ·intro z_3 y_3 e150 w151 S152; obtain ⟨H,S152⟩:=S152
      unfold tally_Again_j6 at H
      refine c_cond rfl (fun c153=>?_) (fun c153=>?_)
      ·replace H:=condT c153 H
       refine reg<|p_mI rfl<|p_mI rfl<|p_aI rfl<|p_aI rfl<|wp_nil<|reg<|p_add rfl rfl<|p_mI rfl<|wp_nil ?_
       exact ⟨(z_1.2.2,z_2.1,wr (z_1.2.2+1)),(),_,rfl,⟨rfl,rfl,rfl,rfl,rfl,rfl,trivial⟩,H,S152⟩
      ·replace H:=condF c153 H
       refine c_skip<|reg<|p_add rfl rfl<|p_mI rfl<|wp_nil ?_
       exact ⟨(z_1.1,z_1.2.1,wr (z_1.2.2+1)),(),_,rfl,⟨rfl,rfl,rfl,rfl,rfl,rfl,trivial⟩,H,S152⟩
   ·replace H:=condF c42 H
    refine c_exit<|c_seq<|reg<|p_mI rfl<|p_aI rfl<|p_aI rfl<|wp_nil ?_
    obtain rfl:=sJ H
    refine c_ret ?_; show bodyPostM (Fr none) 0 Tryd.prog Tryd.f13 _ .ret _ _
    refine ret_of (res2 rfl (rvT (rfl:_=I z_1.1)) (rvT (rfl:_=I 0))) ?_
    exact ⟨_,rfl,rfl,S41.keep⟩
def law_torn:Option TallyBook:=
 (law_own).bind fun r4=>
 (law_count 2 0 3 26 1 0 0).bind fun r19=>
 need (fitsL (r4.Counts.length+([r19]:List TallyCount).length) 56)<|
 some (TallyBook.mk r4.Trips r4.Room (r4.Counts++([r19]:List TallyCount)))
set_option maxRecDepth 100000 in
theorem law_torn_ok {w:World}{r:TallyBook} (H:law_torn=some r):Calls Tryd.prog 15 #[] w fun en w_=>∃ u_,en=.returned u_∧∃ A_1:Option Addr,∃ c_2:Nat,u_=AG [I r.Trips,I r.Room,SL A_1 r.Counts.length c_2]∧Keep0 w w_∧((gr eTallyCount 7 28 A_1 c_2 r.Counts).ok w_∧New w.heap.size (gr eTallyCount 7 28 A_1 c_2 r.Counts))∧True:=by
 unfold law_torn at H
 refine fn_of (n:=10) Tryd.func15 rfl rfl (lE rfl) ?_
 have S:=St.start w nF _ nM
 refine c_seq<|reg<|p_allA in24 S fun b1 w2 S3=>wp_nil<|c_seq<|reg ?_
 obtain ⟨r4,h5,H⟩:=bindS H
 refine p_cal (law_own_ok h5) fu4 rfl ?_
 rintro _ w6 ⟨A8,c9,rfl,k7,⟨o10,n11⟩,_⟩
 have S13:=S3.addNew k7 o10 n11
 refine p_allA in24 S13 fun b14 w15 S16=>p_stP (pre:=[]) (old:=[I 0,I 0,SL none 0 0]) (post:=[]) (vs:=[I r4.Trips,I r4.Room,SL A8 r4.Counts.length c9]) sz24 S16 (i:=0) rfl rfl rfl rfl (rfl:_=AG [I r4.Trips,I r4.Room,SL A8 r4.Counts.length c9]) rfl rfl rfl rfl fun w17 S18=>wp_nil<|c_seq ?_
 obtain ⟨r19,h20,H⟩:=bindS H
 refine reg_c mixed 4 [3] (by kernel_rfl) ?_
 refine kS rfl (fun _ k_=>p_fld fl24_2 rfl dn)<|kS rfl (fun _ k_=>p_ld ty22 (aS (S18.atX (i:=0) rfl) k_) rfl rfl dn)<|kS rfl (fun _ k_=>p_cvD (law_count_ok h20) fu10 rfl)<|kC rfl ?_
 intro w21 k22; have S23:=S18.call k22
 have S29:=S23.base
 refine p_bsl (enc:=eTallyCount) (l:=([r19]:List TallyCount)) (fun x=>AG (eTallyCount x)) (fun _=>rfl) sc22 in28 eTallyCount_len rfl (by decide) (by decide) zr28_1 S29 rfl fun A24 c25 w26 S27=>?_
 refine cN S27.keep fun w30 k31=>?_
 have S32:=(S23.fromBase S27).call k31
 obtain ⟨h37,H⟩:=needS H
 refine p_app (enc:=eTallyCount) sc22 in28 rfl eTallyCount_len eTallyCount_one (by decide) S32 (k:=2) rfl (gr_sl eTallyCount_len (S32.atX (i:=0) rfl)) h37 (by simp) rfl rfl fun A35 c36 w33 S34=>p_fld fl24_2 rfl ?_
 refine p_stP (pre:=[I r4.Trips,I r4.Room]) (old:=[SL A8 r4.Counts.length c9]) (post:=[]) (vs:=[SL A35 (r4.Counts++([r19]:List TallyCount)).length c36]) sz22 S34 (i:=1) rfl rfl rfl rfl (rfl:_=SL A35 (r4.Counts++([r19]:List TallyCount)).length c36) rfl rfl rfl rfl fun w38 S39=>wp_nil<|c_seq<|reg<|p_ldA ty24 sz24 (S39.atX (i:=1) rfl) rfl rfl ?_
 refine p_stP (pre:=[]) (old:=[I 0,I 0,SL none 0 0]) (post:=[]) (vs:=[I r4.Trips,I r4.Room,SL A35 (r4.Counts++([r19]:List TallyCount)).length c36]) sz24 S39 (i:=3) rfl rfl rfl rfl (rfl:_=AG [I r4.Trips,I r4.Room,SL A35 (r4.Counts++([r19]:List TallyCount)).length c36]) rfl rfl rfl rfl fun w40 S41=>wp_nil ?_
 obtain rfl:=sJ H
 refine c_ret ?_; show bodyPostM (Fr none) 0 Tryd.prog Tryd.f15 _ .ret _ _
 refine ret_of (res1 rfl (rvA rfl ty24 sz24 (S41.atX (i:=3) rfl) rfl)) ?_
 exact ⟨_,rfl,A35,c36,rfl,S41.keep,⟨S41.atX (i:=2) rfl,S41.newX (i:=2) rfl⟩,trivial⟩
def B_Range (a0:Int) (a1:Int):Option Span:=
 some (Span.mk a0 a1)
set_option maxRecDepth 100000 in
theorem B_Range_ok {a0:Int}{a1:Int}{w:World}{r:Span} (H:B_Range a0 a1=some r):Calls Tryd.prog 16 #[I a0,I a1] w (RetV w (AG [I r.Low,I r.High])):=by
 unfold B_Range at H
 refine fn_of (n:=8) Tryd.func16 rfl rfl (lE rfl) ?_
 have S:=St.start w nF _ nM
 refine c_seq<|reg<|p_allA in33 S fun b1 w2 S3=>wp_nil<|c_seq<|reg<|p_mI rfl<|p_mI rfl<|p_bld (cs:=[I a0,I a1]) st33 (rfl:_=[(0,I a0),(1,I a1)]) (by kernel_rfl)<|p_stP (pre:=[]) (old:=[I 0,I 0]) (post:=[]) (vs:=[I a0,I a1]) sz33 S3 (i:=0) rfl rfl rfl rfl (rfl:_=AG [I a0,I a1]) rfl rfl rfl rfl fun w4 S5=>wp_nil ?_
 obtain rfl:=sJ H
 refine c_ret ?_; show bodyPostM (Fr none) 0 Tryd.prog Tryd.f16 _ .ret _ _
 refine ret_of (res1 rfl (rvA rfl ty33 sz33 (S5.atX (i:=0) rfl) rfl)) ?_
 exact ⟨_,rfl,rfl,S5.keep⟩
def B_Alike_l1 (a0:List Int) (a1:List Int) (rec_z_1:Int→Option Bool) (z_1:Int):Option Bool:=
 bif decide (z_1 < (a0.length:Int)) then ((getI a0 z_1).bind fun r13=>
 (getI a1 z_1).bind fun r15=>
 bif (r13 != r15) then (some false)
 else (rec_z_1 (wr (z_1+1))))
 else (some true)
def B_Alike (a0:List Int) (a1:List Int):Option Bool:=
 bif ((a0.length:Int) != (a1.length:Int)) then (some false)
 else (loopF (B_Alike_l1 a0 a1) big 0)
set_option maxRecDepth 100000 in
theorem B_Alike_ok {a0:List Int}{a1:List Int}{A1:Option Addr}{c2:Nat}{A4:Option Addr}{c5:Nat}{w:World}{r:Bool} (H:B_Alike a0 a1=some r) (h3:(rd intE 1 A1 c2 a0).ok w) (h6:(rd intE 1 A4 c5 a1).ok w):Calls Tryd.prog 17 #[SL A1 a0.length c2,SL A4 a1.length c5] w (RetV w (B r)):=by
 unfold B_Alike at H
 refine fn_of (n:=26) Tryd.func17 rfl rfl (lE rfl) ?_
 have S:=St.start w nF _ (cA h3 (cA h6 nM))
 refine c_seq<|reg<|p_aB rfl<|wp_nil<|c_seq<|c_seq<|reg<|p_mS rfl<|p_len rfl sc40<|p_mS rfl<|p_len rfl sc40<|p_cmp rfl rfl rfl<|wp_nil ?_
 refine c_cond rfl (fun c7=>?_) (fun c7=>?_)
 ·replace H:=condT c7 H
  refine c_seq<|reg<|p_aB rfl<|wp_nil ?_
  obtain rfl:=sJ H
  exact c_ret (rT Tryd.f17 S.keep rfl rfl)
 ·replace H:=condF c7 H
  refine c_skip<|c_seq<|c_seq<|reg<|p_aI rfl<|wp_nil<|c_block ?_
  refine c_lop (α:=Int) (β:=Unit) (B_Alike_l1 a0 a1) (fun z_1 y_1=>[(0,SL A1 a0.length c2),(1,SL A4 a1.length c5),(5,I z_1)]) (fun z_1 y_1 w_=>St w nF w_ [] [rd intE 1 A1 c2 a0,rd intE 1 A4 c5 a1]) 0 () H ⟨rfl,rfl,rfl,trivial⟩ S ?_
  intro m8 z_1 y_1 e9 w10 H S11
  unfold B_Alike_l1 at H
  refine c_seq<|c_seq<|reg<|p_mI rfl<|p_mS rfl<|p_len rfl sc40<|p_cmp rfl rfl rfl<|wp_nil ?_
  refine c_cond rfl (fun c12=>?_) (fun c12=>?_)
  ·replace H:=condT c12 H
   refine c_skip<|c_seq<|c_block<|c_seq ?_
   obtain ⟨r13,h14,H⟩:=bindS H
   obtain ⟨r15,h16,H⟩:=bindS H
   refine reg_q mixed 9 (by kernel_rfl) ?_
   refine dS (fun _ k_=>p_mS rfl dn)<|dS (fun _ k_=>p_mI rfl dn)<|dS (fun _ k_=>p_ixE sc40 h14 (aS (S11.atP (i:=0) rfl) k_).1 rfl rfl rfl dn)<|dS (fun _ k_=>p_ldE ty3 h14 (aS (S11.atP (i:=0) rfl) k_).1 rfl rfl dn)<|dS (fun _ k_=>p_mS rfl dn)<|dS (fun _ k_=>p_mI rfl dn)<|dS (fun _ k_=>p_ixE sc40 h16 (aS (S11.atP (i:=1) rfl) k_).1 rfl rfl rfl dn) ?_
   refine dS (fun _ k_=>p_ldE ty3 h16 (aS (S11.atP (i:=1) rfl) k_).1 rfl rfl dn)<|dS (fun _ k_=>p_cmp rfl rfl rfl dn) ?_
   intro w17 k18; have S19:=S11.call k18
   refine wp_nil ?_
   refine c_cond rfl (fun c20=>?_) (fun c20=>?_)
   ·replace H:=condT c20 H
    refine c_seq<|reg<|p_aB rfl<|wp_nil ?_
    obtain rfl:=sJ H
    exact c_ret (rT Tryd.f17 S19.keep rfl rfl)
   ·replace H:=condF c20 H
    refine c_skip<|reg<|p_mI rfl<|p_add rfl rfl<|p_aI rfl<|wp_nil ?_
    exact ⟨wr (z_1+1),(),_,rfl,⟨rfl,rfl,rfl,trivial⟩,H,S19⟩
  ·replace H:=condF c12 H
   refine c_exit<|c_seq<|reg<|p_aB rfl<|wp_nil ?_
   obtain rfl:=sJ H
   exact c_ret (rT Tryd.f17 S11.keep rfl rfl)
def law_counted:Option Bool:=
 (law_own).bind fun r3=>
 (tally_Many r3 0 3).bind fun r13=>
 (law_own).bind fun r22=>
 (tally_Many r22 3 3).bind fun r32=>
 (law_own).bind fun r41=>
 (tally_Can r41 [5,5,6,3]).bind fun r56=>
 (law_own).bind fun r60=>
 (tally_Pays r60 2).bind fun r70=>
 (law_torn).bind fun r79=>
 (tally_Wrong r79).bind fun r90=>
 bif (r13.2 != 0) then (some false)
 else (bif (r32.2 != 0) then (some false)
 else (bif (r56.2 != 0) then (some false)
 else (bif (r70.2 != 0) then (some false)
 else (bif (r90.2 != 0) then (some false)
 else ((B_Range 16 24).bind fun r179=>
 bif !((r13.1.Low==r179.Low)&&(r13.1.High==r179.High)) then (some false)
 else ((B_Range 0 10).bind fun r197=>
 bif !((r32.1.Low==r197.Low)&&(r32.1.High==r197.High)) then (some false)
 else (bif !r56.1 then (some false)
 else ((B_Range 32 48).bind fun r231=>
 bif !((r70.1.Low==r231.Low)&&(r70.1.High==r231.High)) then (some false)
 else ((B_Alike r90.1 ([0]:List Int)).bind fun r261=>
 bif !r261 then (some false)
 else ((law_torn).bind fun r275=>
 (tally_Whose r275).bind fun r285=>
 (law_own).bind fun r294=>
 (tally_Again r294).bind fun r304=>
 (law_own).bind fun r308=>
 (law_count 2 3 3 10 1 0 0).bind fun r318=>
 (tally_Fits r308 r318).bind fun r322=>
 (law_torn).bind fun r326=>
 (tally_Right r326).bind fun r336=>
 bif (r285.2==0) then (bif (r304.2==0) then (bif (r322.2==0) then (bif (r336.2==0) then ((B_Alike r285.1 [0,2]).bind fun r349=>
 bif r349 then (bif (r304.1==3) then (bif r322.1 then (some (!r336.1))
 else (some false))
 else (some false))
 else (some false))
 else (some false))
 else (some false))
 else (some false))
 else (some false)))))))))))
set_option maxRecDepth 100000 in
theorem law_counted_ok {w:World}{r:Bool} (H:law_counted=some r) (hg1:(gW0).ok w) (hg2:(gW1).ok w):Calls Tryd.prog 18 #[] w (RetV w (B r)):=by
 unfold law_counted at H
 refine fn_of (n:=135) Tryd.func18 rfl rfl (lE rfl) ?_
 have S:=St.start w nF _ (cA hg1 (cA hg2 nM))
 refine c_seq<|reg<|p_aB rfl<|wp_nil<|c_seq<|reg ?_
 obtain ⟨r3,h4,H⟩:=bindS H
 refine p_cal (law_own_ok h4) fu4 rfl ?_
 rintro _ w5 ⟨A7,c8,rfl,k6,⟨o9,n10⟩,_⟩
 have S12:=S.addNew k6 o9 n10
 obtain ⟨r13,h14,H⟩:=bindS H
 refine p_cv (tally_Many_ok h14 (gr_rd eTallyCount_len (S12.atX (i:=0) rfl)) (S12.atP (i:=0) rfl) (S12.atP (i:=1) rfl)) fu6 rfl S12 fun w15 S16=>p_mT rfl<|p_ext rfl rfl<|p_ext rfl rfl<|p_allA in33 S16 fun b17 w18 S19=>?_
 refine p_stP (pre:=[]) (old:=[I 0,I 0]) (post:=[]) (vs:=[I r13.1.Low,I r13.1.High]) sz33 S19 (i:=0) rfl rfl rfl rfl (rfl:_=AG [I r13.1.Low,I r13.1.High]) rfl rfl rfl rfl fun w20 S21=>p_aI rfl<|wp_nil<|c_seq<|reg ?_
 obtain ⟨r22,h23,H⟩:=bindS H
 refine p_cal (law_own_ok h23) fu4 rfl ?_
 rintro _ w24 ⟨A26,c27,rfl,k25,⟨o28,n29⟩,_⟩
 have S31:=S21.addNew k25 o28 n29
 obtain ⟨r32,h33,H⟩:=bindS H
 refine p_cv (tally_Many_ok h33 (gr_rd eTallyCount_len (S31.atX (i:=0) rfl)) (S31.atP (i:=0) rfl) (S31.atP (i:=1) rfl)) fu6 rfl S31 fun w34 S35=>p_mT rfl<|p_ext rfl rfl<|p_ext rfl rfl<|p_allA in33 S35 fun b36 w37 S38=>?_
 refine p_stP (pre:=[]) (old:=[I 0,I 0]) (post:=[]) (vs:=[I r32.1.Low,I r32.1.High]) sz33 S38 (i:=0) rfl rfl rfl rfl (rfl:_=AG [I r32.1.Low,I r32.1.High]) rfl rfl rfl rfl fun w39 S40=>p_aI rfl<|wp_nil<|c_seq<|reg ?_
 obtain ⟨r41,h42,H⟩:=bindS H
 refine p_cal (law_own_ok h42) fu4 rfl ?_
 rintro _ w43 ⟨A45,c46,rfl,k44,⟨o47,n48⟩,_⟩
 have S50:=S40.addNew k44 o47 n48
 refine p_bsl (enc:=intE) (l:=[5,5,6,3]) I (fun _=>rfl) sc40 in3 intE_len rfl (by decide) (by decide) zr3_4 S50 rfl fun A51 c52 w53 S54=>?_
 obtain ⟨r56,h57,H⟩:=bindS H
 refine p_cv (tally_Can_ok h57 (gr_rd eTallyCount_len (S54.atX (i:=1) rfl)) (gr_rd intE_len (S54.atX (i:=0) rfl)) (S54.atP (i:=0) rfl)) fu7 rfl S54 fun w58 S59=>p_mT rfl<|p_ext rfl rfl<|p_ext rfl rfl<|p_aB rfl<|p_aI rfl<|wp_nil<|c_seq<|reg ?_
 obtain ⟨r60,h61,H⟩:=bindS H
 refine p_cal (law_own_ok h61) fu4 rfl ?_
 rintro _ w62 ⟨A64,c65,rfl,k63,⟨o66,n67⟩,_⟩
 have S69:=S59.addNew k63 o66 n67
 obtain ⟨r70,h71,H⟩:=bindS H
 refine p_cv (tally_Pays_ok h71 (gr_rd eTallyCount_len (S69.atX (i:=0) rfl)) (S69.atP (i:=0) rfl) (S69.atP (i:=1) rfl)) fu8 rfl S69 fun w72 S73=>p_mT rfl<|p_ext rfl rfl<|p_ext rfl rfl<|p_allA in33 S73 fun b74 w75 S76=>?_
 refine p_stP (pre:=[]) (old:=[I 0,I 0]) (post:=[]) (vs:=[I r70.1.Low,I r70.1.High]) sz33 S76 (i:=0) rfl rfl rfl rfl (rfl:_=AG [I r70.1.Low,I r70.1.High]) rfl rfl rfl rfl fun w77 S78=>p_aI rfl<|wp_nil<|c_seq<|reg ?_
 obtain ⟨r79,h80,H⟩:=bindS H
 refine p_cal (law_torn_ok h80) fu15 rfl ?_
 rintro _ w81 ⟨A83,c84,rfl,k82,⟨o85,n86⟩,_⟩
 have S88:=S78.addNew k82 o85 n86
 have S89:=S88.fixRd eTallyCount_len (i:=0) rfl
 obtain ⟨r90,h91,H⟩:=bindS H
 refine p_cal (tally_Wrong_ok h91 (S89.atP (i:=0) rfl) (S89.atP (i:=1) rfl) (S89.atP (i:=2) rfl)) fu11 rfl ?_
 rintro _ w92 ⟨A94,c95,rfl,k93,⟨o96,n97⟩,_⟩
 have S98:=S89.callN k93 [rd intE 1 A94 c95 r90.1] (cA ⟨o96,Al.inL n97 ((cA (fp_mem (i:=0) rfl) nM))⟩ nM)
 refine p_mT rfl<|p_ext rfl rfl<|p_ext rfl rfl<|p_aS rfl<|p_aI rfl<|wp_nil<|c_seq<|c_seq ?_
 rcases bE ((r13.2 != 0)) with c99 | c99
 ·replace H:=condT c99 H
  refine reg_c mixed 43 [39,40,41,42] (by kernel_rfl) ?_
  refine kS rfl (fun _ k_=>p_mI rfl dn)<|kS rfl (fun _ k_=>p_cmp rfl rfl rfl dn)<|kS rfl (fun _ k_=>p_mB rfl dn)<|kB c99<|kS rfl (fun _ k_=>gF rfl rfl dnU)<|kS rfl (fun _ k_=>gF rfl rfl dnU)<|kS rfl (fun _ k_=>p_pkT rfl (rfl:_=B true) dn)<|kS rfl (fun _ k_=>p_mB rfl dn)<|kS rfl (fun _ k_=>gF rfl rfl dnU)<|kS rfl (fun _ k_=>gF rfl rfl dnU)<|kS rfl (fun _ k_=>p_pkT rfl (rfl:_=B true) dn) ?_
  refine kS rfl (fun _ k_=>p_mB rfl dn)<|kS rfl (fun _ k_=>gF rfl rfl dnU)<|kS rfl (fun _ k_=>gF rfl rfl dnU)<|kS rfl (fun _ k_=>p_pkT rfl (rfl:_=B true) dn)<|kS rfl (fun _ k_=>p_mB rfl dn)<|kS rfl (fun _ k_=>gF rfl rfl dnU)<|kS rfl (fun _ k_=>gF rfl rfl dnU)<|kS rfl (fun _ k_=>p_pkT rfl (rfl:_=B true) dn)<|kS rfl (fun _ k_=>p_mB rfl dn)<|kS rfl (fun _ k_=>gF rfl rfl dnU) ?_
  refine kS rfl (fun _ k_=>gF rfl rfl dnU)<|kS rfl (fun _ k_=>gF rfl rfl dnU)<|kS rfl (fun _ k_=>p_pkT rfl (rfl:_=B true) dn)<|kS rfl (fun _ k_=>p_mB rfl dn)<|kS rfl (fun _ k_=>gF rfl rfl dnU)<|kS rfl (fun _ k_=>gF rfl rfl dnU)<|kS rfl (fun _ k_=>gF rfl rfl dnU)<|kS rfl (fun _ k_=>p_pkT rfl (rfl:_=B true) dn)<|kS rfl (fun _ k_=>p_mB rfl dn)<|kS rfl (fun _ k_=>gF rfl rfl dnU) ?_
  refine kS rfl (fun _ k_=>gF rfl rfl dnU)<|kS rfl (fun _ k_=>p_pkT rfl (rfl:_=B true) dn)<|kS rfl (fun _ k_=>p_mB rfl dn)<|kS rfl (fun _ k_=>gF rfl rfl dnU)<|kS rfl (fun _ k_=>gF rfl rfl dnU)<|kS rfl (fun _ k_=>gF rfl rfl dnU)<|kS rfl (fun _ k_=>p_pkT rfl (rfl:_=B true) dn)<|kS rfl (fun _ k_=>p_mB rfl dn)<|kS rfl (fun _ k_=>gF rfl rfl dnU)<|kC rfl<|kC rfl<|kC rfl<|kC rfl ?_
  intro w100 k101; have S102:=S98.call k101
  refine gF rfl rfl (cN (kR) fun w103 k104=>?_)
  have S105:=S102.call k104
  refine gF rfl rfl (cN (kR) fun w106 k107=>?_)
  have S108:=S105.call k107
  refine gF rfl rfl (cN (kR) fun w109 k110=>?_)
  have S111:=S108.call k110
  refine p_pkT rfl (rfl:_=B true) (cN (kR) fun w112 k113=>?_)
  have S114:=S111.call k113
  refine wp_nil<|c_true rfl<|c_seq<|reg<|p_aB rfl<|wp_nil ?_
  obtain rfl:=sJ H
  exact c_ret (rT Tryd.f18 S114.keep rfl rfl)
 ·replace H:=condF c99 H
  rcases bE ((r32.2 != 0)) with c115 | c115
  ·replace H:=condT c115 H
   refine reg_c mixed 43 [39,40,41,42] (by kernel_rfl) ?_
   refine kS rfl (fun _ k_=>p_mI rfl dn)<|kS rfl (fun _ k_=>p_cmp rfl rfl rfl dn)<|kS rfl (fun _ k_=>p_mB rfl dn)<|kB c99<|kS rfl (fun _ k_=>gT rfl rfl (p_mI rfl dn))<|kS rfl (fun _ k_=>gT rfl rfl (p_cmp rfl rfl rfl dn))<|kS rfl (fun _ k_=>p_pkF rfl (rfl:_=B (r32.2 != 0)) dn)<|kS rfl (fun _ k_=>p_mB rfl dn)<|kB c115<|kS rfl (fun _ k_=>gF rfl rfl dnU)<|kS rfl (fun _ k_=>gF rfl rfl dnU) ?_
   refine kS rfl (fun _ k_=>p_pkT rfl (rfl:_=B true) dn)<|kS rfl (fun _ k_=>p_mB rfl dn)<|kS rfl (fun _ k_=>gF rfl rfl dnU)<|kS rfl (fun _ k_=>gF rfl rfl dnU)<|kS rfl (fun _ k_=>p_pkT rfl (rfl:_=B true) dn)<|kS rfl (fun _ k_=>p_mB rfl dn)<|kS rfl (fun _ k_=>gF rfl rfl dnU)<|kS rfl (fun _ k_=>gF rfl rfl dnU)<|kS rfl (fun _ k_=>p_pkT rfl (rfl:_=B true) dn)<|kS rfl (fun _ k_=>p_mB rfl dn) ?_
   refine kS rfl (fun _ k_=>gF rfl rfl dnU)<|kS rfl (fun _ k_=>gF rfl rfl dnU)<|kS rfl (fun _ k_=>gF rfl rfl dnU)<|kS rfl (fun _ k_=>p_pkT rfl (rfl:_=B true) dn)<|kS rfl (fun _ k_=>p_mB rfl dn)<|kS rfl (fun _ k_=>gF rfl rfl dnU)<|kS rfl (fun _ k_=>gF rfl rfl dnU)<|kS rfl (fun _ k_=>gF rfl rfl dnU)<|kS rfl (fun _ k_=>p_pkT rfl (rfl:_=B true) dn)<|kS rfl (fun _ k_=>p_mB rfl dn) ?_
   refine kS rfl (fun _ k_=>gF rfl rfl dnU)<|kS rfl (fun _ k_=>gF rfl rfl dnU)<|kS rfl (fun _ k_=>p_pkT rfl (rfl:_=B true) dn)<|kS rfl (fun _ k_=>p_mB rfl dn)<|kS rfl (fun _ k_=>gF rfl rfl dnU)<|kS rfl (fun _ k_=>gF rfl rfl dnU)<|kS rfl (fun _ k_=>gF rfl rfl dnU)<|kS rfl (fun _ k_=>p_pkT rfl (rfl:_=B true) dn)<|kS rfl (fun _ k_=>p_mB rfl dn)<|kS rfl (fun _ k_=>gF rfl rfl dnU)<|kC rfl<|kC rfl<|kC rfl ?_
   refine kC rfl ?_
   intro w116 k117; have S118:=S98.call k117
   refine gF rfl rfl (cN (kR) fun w119 k120=>?_)
   have S121:=S118.call k120
   refine gF rfl rfl (cN (kR) fun w122 k123=>?_)
   have S124:=S121.call k123
   refine gF rfl rfl (cN (kR) fun w125 k126=>?_)
   have S127:=S124.call k126
   refine p_pkT rfl (rfl:_=B true) (cN (kR) fun w128 k129=>?_)
   have S130:=S127.call k129
   refine wp_nil<|c_true rfl<|c_seq<|reg<|p_aB rfl<|wp_nil ?_
   obtain rfl:=sJ H
   exact c_ret (rT Tryd.f18 S130.keep rfl rfl)
  ·replace H:=condF c115 H
   rcases bE ((r56.2 != 0)) with c131 | c131
   ·replace H:=condT c131 H
    refine reg_c mixed 43 [39,40,41,42] (by kernel_rfl) ?_
    refine kS rfl (fun _ k_=>p_mI rfl dn)<|kS rfl (fun _ k_=>p_cmp rfl rfl rfl dn)<|kS rfl (fun _ k_=>p_mB rfl dn)<|kB c99<|kS rfl (fun _ k_=>gT rfl rfl (p_mI rfl dn))<|kS rfl (fun _ k_=>gT rfl rfl (p_cmp rfl rfl rfl dn))<|kS rfl (fun _ k_=>p_pkF rfl (rfl:_=B (r32.2 != 0)) dn)<|kS rfl (fun _ k_=>p_mB rfl dn)<|kB c115<|kS rfl (fun _ k_=>gT rfl rfl (p_mI rfl dn)) ?_
    refine kS rfl (fun _ k_=>gT rfl rfl (p_cmp rfl rfl rfl dn))<|kS rfl (fun _ k_=>p_pkF rfl (rfl:_=B (r56.2 != 0)) dn)<|kS rfl (fun _ k_=>p_mB rfl dn)<|kB c131<|kS rfl (fun _ k_=>gF rfl rfl dnU)<|kS rfl (fun _ k_=>gF rfl rfl dnU)<|kS rfl (fun _ k_=>p_pkT rfl (rfl:_=B true) dn)<|kS rfl (fun _ k_=>p_mB rfl dn)<|kS rfl (fun _ k_=>gF rfl rfl dnU)<|kS rfl (fun _ k_=>gF rfl rfl dnU) ?_
    refine kS rfl (fun _ k_=>p_pkT rfl (rfl:_=B true) dn)<|kS rfl (fun _ k_=>p_mB rfl dn)<|kS rfl (fun _ k_=>gF rfl rfl dnU)<|kS rfl (fun _ k_=>gF rfl rfl dnU)<|kS rfl (fun _ k_=>gF rfl rfl dnU)<|kS rfl (fun _ k_=>p_pkT rfl (rfl:_=B true) dn)<|kS rfl (fun _ k_=>p_mB rfl dn)<|kS rfl (fun _ k_=>gF rfl rfl dnU)<|kS rfl (fun _ k_=>gF rfl rfl dnU)<|kS rfl (fun _ k_=>gF rfl rfl dnU) ?_
    refine kS rfl (fun _ k_=>p_pkT rfl (rfl:_=B true) dn)<|kS rfl (fun _ k_=>p_mB rfl dn)<|kS rfl (fun _ k_=>gF rfl rfl dnU)<|kS rfl (fun _ k_=>gF rfl rfl dnU)<|kS rfl (fun _ k_=>p_pkT rfl (rfl:_=B true) dn)<|kS rfl (fun _ k_=>p_mB rfl dn)<|kS rfl (fun _ k_=>gF rfl rfl dnU)<|kS rfl (fun _ k_=>gF rfl rfl dnU)<|kS rfl (fun _ k_=>gF rfl rfl dnU)<|kS rfl (fun _ k_=>p_pkT rfl (rfl:_=B true) dn) ?_
    refine kS rfl (fun _ k_=>p_mB rfl dn)<|kS rfl (fun _ k_=>gF rfl rfl dnU)<|kC rfl<|kC rfl<|kC rfl<|kC rfl ?_
    intro w132 k133; have S134:=S98.call k133
    refine gF rfl rfl (cN (kR) fun w135 k136=>?_)
    have S137:=S134.call k136
    refine gF rfl rfl (cN (kR) fun w138 k139=>?_)
    have S140:=S137.call k139
    refine gF rfl rfl (cN (kR) fun w141 k142=>?_)
    have S143:=S140.call k142
    refine p_pkT rfl (rfl:_=B true) (cN (kR) fun w144 k145=>?_)
    have S146:=S143.call k145
    refine wp_nil<|c_true rfl<|c_seq<|reg<|p_aB rfl<|wp_nil ?_
    obtain rfl:=sJ H
    exact c_ret (rT Tryd.f18 S146.keep rfl rfl)
   ·replace H:=condF c131 H
    rcases bE ((r70.2 != 0)) with c147 | c147
    ·replace H:=condT c147 H
     refine reg_c mixed 43 [39,40,41,42] (by kernel_rfl) ?_
     refine kS rfl (fun _ k_=>p_mI rfl dn)<|kS rfl (fun _ k_=>p_cmp rfl rfl rfl dn)<|kS rfl (fun _ k_=>p_mB rfl dn)<|kB c99<|kS rfl (fun _ k_=>gT rfl rfl (p_mI rfl dn))<|kS rfl (fun _ k_=>gT rfl rfl (p_cmp rfl rfl rfl dn))<|kS rfl (fun _ k_=>p_pkF rfl (rfl:_=B (r32.2 != 0)) dn)<|kS rfl (fun _ k_=>p_mB rfl dn)<|kB c115<|kS rfl (fun _ k_=>gT rfl rfl (p_mI rfl dn)) ?_
     refine kS rfl (fun _ k_=>gT rfl rfl (p_cmp rfl rfl rfl dn))<|kS rfl (fun _ k_=>p_pkF rfl (rfl:_=B (r56.2 != 0)) dn)<|kS rfl (fun _ k_=>p_mB rfl dn)<|kB c131<|kS rfl (fun _ k_=>gT rfl rfl (p_mI rfl dn))<|kS rfl (fun _ k_=>gT rfl rfl (p_cmp rfl rfl rfl dn))<|kS rfl (fun _ k_=>p_pkF rfl (rfl:_=B (r70.2 != 0)) dn)<|kS rfl (fun _ k_=>p_mB rfl dn)<|kB c147<|kS rfl (fun _ k_=>gF rfl rfl dnU) ?_
     refine kS rfl (fun _ k_=>gF rfl rfl dnU)<|kS rfl (fun _ k_=>p_pkT rfl (rfl:_=B true) dn)<|kS rfl (fun _ k_=>p_mB rfl dn)<|kS rfl (fun _ k_=>gF rfl rfl dnU)<|kS rfl (fun _ k_=>gF rfl rfl dnU)<|kS rfl (fun _ k_=>gF rfl rfl dnU)<|kS rfl (fun _ k_=>p_pkT rfl (rfl:_=B true) dn)<|kS rfl (fun _ k_=>p_mB rfl dn)<|kS rfl (fun _ k_=>gF rfl rfl dnU)<|kS rfl (fun _ k_=>gF rfl rfl dnU) ?_
     refine kS rfl (fun _ k_=>gF rfl rfl dnU)<|kS rfl (fun _ k_=>p_pkT rfl (rfl:_=B true) dn)<|kS rfl (fun _ k_=>p_mB rfl dn)<|kS rfl (fun _ k_=>gF rfl rfl dnU)<|kS rfl (fun _ k_=>gF rfl rfl dnU)<|kS rfl (fun _ k_=>p_pkT rfl (rfl:_=B true) dn)<|kS rfl (fun _ k_=>p_mB rfl dn)<|kS rfl (fun _ k_=>gF rfl rfl dnU)<|kS rfl (fun _ k_=>gF rfl rfl dnU)<|kS rfl (fun _ k_=>gF rfl rfl dnU) ?_
     refine kS rfl (fun _ k_=>p_pkT rfl (rfl:_=B true) dn)<|kS rfl (fun _ k_=>p_mB rfl dn)<|kS rfl (fun _ k_=>gF rfl rfl dnU)<|kC rfl<|kC rfl<|kC rfl<|kC rfl ?_
     intro w148 k149; have S150:=S98.call k149
     refine gF rfl rfl (cN (kR) fun w151 k152=>?_)
     have S153:=S150.call k152
     refine gF rfl rfl (cN (kR) fun w154 k155=>?_)
     have S156:=S153.call k155
     refine gF rfl rfl (cN (kR) fun w157 k158=>?_)
     have S159:=S156.call k158
     refine p_pkT rfl (rfl:_=B true) (cN (kR) fun w160 k161=>?_)
     have S162:=S159.call k161
     refine wp_nil<|c_true rfl<|c_seq<|reg<|p_aB rfl<|wp_nil ?_
     obtain rfl:=sJ H
     exact c_ret (rT Tryd.f18 S162.keep rfl rfl)
    ·replace H:=condF c147 H
     rcases bE ((r90.2 != 0)) with c163 | c163
     ·replace H:=condT c163 H
      refine reg_c mixed 43 [39,40,41,42] (by kernel_rfl) ?_
      refine kS rfl (fun _ k_=>p_mI rfl dn)<|kS rfl (fun _ k_=>p_cmp rfl rfl rfl dn)<|kS rfl (fun _ k_=>p_mB rfl dn)<|kB c99<|kS rfl (fun _ k_=>gT rfl rfl (p_mI rfl dn))<|kS rfl (fun _ k_=>gT rfl rfl (p_cmp rfl rfl rfl dn))<|kS rfl (fun _ k_=>p_pkF rfl (rfl:_=B (r32.2 != 0)) dn)<|kS rfl (fun _ k_=>p_mB rfl dn)<|kB c115<|kS rfl (fun _ k_=>gT rfl rfl (p_mI rfl dn)) ?_
      refine kS rfl (fun _ k_=>gT rfl rfl (p_cmp rfl rfl rfl dn))<|kS rfl (fun _ k_=>p_pkF rfl (rfl:_=B (r56.2 != 0)) dn)<|kS rfl (fun _ k_=>p_mB rfl dn)<|kB c131<|kS rfl (fun _ k_=>gT rfl rfl (p_mI rfl dn))<|kS rfl (fun _ k_=>gT rfl rfl (p_cmp rfl rfl rfl dn))<|kS rfl (fun _ k_=>p_pkF rfl (rfl:_=B (r70.2 != 0)) dn)<|kS rfl (fun _ k_=>p_mB rfl dn)<|kB c147<|kS rfl (fun _ k_=>gT rfl rfl (p_mI rfl dn)) ?_
      refine kS rfl (fun _ k_=>gT rfl rfl (p_cmp rfl rfl rfl dn))<|kS rfl (fun _ k_=>p_pkF rfl (rfl:_=B (r90.2 != 0)) dn)<|kS rfl (fun _ k_=>p_mB rfl dn)<|kB c163<|kS rfl (fun _ k_=>gF rfl rfl dnU)<|kS rfl (fun _ k_=>gF rfl rfl dnU)<|kS rfl (fun _ k_=>gF rfl rfl dnU)<|kS rfl (fun _ k_=>p_pkT rfl (rfl:_=B true) dn)<|kS rfl (fun _ k_=>p_mB rfl dn)<|kS rfl (fun _ k_=>gF rfl rfl dnU) ?_
      refine kS rfl (fun _ k_=>gF rfl rfl dnU)<|kS rfl (fun _ k_=>gF rfl rfl dnU)<|kS rfl (fun _ k_=>p_pkT rfl (rfl:_=B true) dn)<|kS rfl (fun _ k_=>p_mB rfl dn)<|kS rfl (fun _ k_=>gF rfl rfl dnU)<|kS rfl (fun _ k_=>gF rfl rfl dnU)<|kS rfl (fun _ k_=>p_pkT rfl (rfl:_=B true) dn)<|kS rfl (fun _ k_=>p_mB rfl dn)<|kS rfl (fun _ k_=>gF rfl rfl dnU)<|kS rfl (fun _ k_=>gF rfl rfl dnU) ?_
      refine kS rfl (fun _ k_=>gF rfl rfl dnU)<|kS rfl (fun _ k_=>p_pkT rfl (rfl:_=B true) dn)<|kS rfl (fun _ k_=>p_mB rfl dn)<|kS rfl (fun _ k_=>gF rfl rfl dnU)<|kC rfl<|kC rfl<|kC rfl<|kC rfl ?_
      intro w164 k165; have S166:=S98.call k165
      refine gF rfl rfl (cN (kR) fun w167 k168=>?_)
      have S169:=S166.call k168
      refine gF rfl rfl (cN (kR) fun w170 k171=>?_)
      have S172:=S169.call k171
      refine gF rfl rfl (cN (kR) fun w173 k174=>?_)
      have S175:=S172.call k174
      refine p_pkT rfl (rfl:_=B true) (cN (kR) fun w176 k177=>?_)
      have S178:=S175.call k177
      refine wp_nil<|c_true rfl<|c_seq<|reg<|p_aB rfl<|wp_nil ?_
      obtain rfl:=sJ H
      exact c_ret (rT Tryd.f18 S178.keep rfl rfl)
     ·replace H:=condF c163 H
      obtain ⟨r179,h180,H⟩:=bindS H
      rcases bE (!((r13.1.Low==r179.Low)&&(r13.1.High==r179.High))) with c181 | c181
      ·replace H:=condT c181 H
       refine reg_c mixed 43 [39,40,41,42] (by kernel_rfl) ?_
       refine kS rfl (fun _ k_=>p_mI rfl dn)<|kS rfl (fun _ k_=>p_cmp rfl rfl rfl dn)<|kS rfl (fun _ k_=>p_mB rfl dn)<|kB c99<|kS rfl (fun _ k_=>gT rfl rfl (p_mI rfl dn))<|kS rfl (fun _ k_=>gT rfl rfl (p_cmp rfl rfl rfl dn))<|kS rfl (fun _ k_=>p_pkF rfl (rfl:_=B (r32.2 != 0)) dn)<|kS rfl (fun _ k_=>p_mB rfl dn)<|kB c115<|kS rfl (fun _ k_=>gT rfl rfl (p_mI rfl dn)) ?_
       refine kS rfl (fun _ k_=>gT rfl rfl (p_cmp rfl rfl rfl dn))<|kS rfl (fun _ k_=>p_pkF rfl (rfl:_=B (r56.2 != 0)) dn)<|kS rfl (fun _ k_=>p_mB rfl dn)<|kB c131<|kS rfl (fun _ k_=>gT rfl rfl (p_mI rfl dn))<|kS rfl (fun _ k_=>gT rfl rfl (p_cmp rfl rfl rfl dn))<|kS rfl (fun _ k_=>p_pkF rfl (rfl:_=B (r70.2 != 0)) dn)<|kS rfl (fun _ k_=>p_mB rfl dn)<|kB c147<|kS rfl (fun _ k_=>gT rfl rfl (p_mI rfl dn)) ?_
       refine kS rfl (fun _ k_=>gT rfl rfl (p_cmp rfl rfl rfl dn))<|kS rfl (fun _ k_=>p_pkF rfl (rfl:_=B (r90.2 != 0)) dn)<|kS rfl (fun _ k_=>p_mB rfl dn)<|kB c163<|kS rfl (fun _ k_=>gT rfl rfl (p_ldA ty33 sz33 (aS (S98.atX (i:=6) rfl) k_) rfl rfl dn))<|kS rfl (fun _ k_=>gT rfl rfl (p_cvD (B_Range_ok h180) fu16 rfl)) ?_
       refine kS rfl (fun _ k_=>gT rfl rfl (o_neA (xs:=[I r13.1.Low,I r13.1.High]) (ys:=[I r179.Low,I r179.High]) (T:=((r13.1.Low==r179.Low)&&(r13.1.High==r179.High))) rfl rfl eq33 ⟨⟨_,rfl⟩,⟨⟨_,rfl⟩,trivial⟩⟩ ⟨⟨_,rfl⟩,⟨⟨_,rfl⟩,trivial⟩⟩ (by simp [Bool.and_eq_true,and_assoc]) dn))<|kS rfl (fun _ k_=>p_pkF rfl (rfl:_=B (!((r13.1.Low==r179.Low)&&(r13.1.High==r179.High)))) dn) ?_
       refine kS rfl (fun _ k_=>p_mB rfl dn)<|kB c181<|kS rfl (fun _ k_=>gF rfl rfl dnU)<|kS rfl (fun _ k_=>gF rfl rfl dnU)<|kS rfl (fun _ k_=>gF rfl rfl dnU)<|kS rfl (fun _ k_=>p_pkT rfl (rfl:_=B true) dn)<|kS rfl (fun _ k_=>p_mB rfl dn)<|kS rfl (fun _ k_=>gF rfl rfl dnU)<|kS rfl (fun _ k_=>gF rfl rfl dnU)<|kS rfl (fun _ k_=>p_pkT rfl (rfl:_=B true) dn)<|kS rfl (fun _ k_=>p_mB rfl dn) ?_
       refine kS rfl (fun _ k_=>gF rfl rfl dnU)<|kS rfl (fun _ k_=>gF rfl rfl dnU)<|kS rfl (fun _ k_=>gF rfl rfl dnU)<|kS rfl (fun _ k_=>p_pkT rfl (rfl:_=B true) dn)<|kS rfl (fun _ k_=>p_mB rfl dn)<|kS rfl (fun _ k_=>gF rfl rfl dnU)<|kC rfl<|kC rfl<|kC rfl<|kC rfl ?_
       intro w182 k183; have S184:=S98.call k183
       refine gF rfl rfl (cN (kR) fun w185 k186=>?_)
       have S187:=S184.call k186
       refine gF rfl rfl (cN (kR) fun w188 k189=>?_)
       have S190:=S187.call k189
       refine gF rfl rfl (cN (kR) fun w191 k192=>?_)
       have S193:=S190.call k192
       refine p_pkT rfl (rfl:_=B true) (cN (kR) fun w194 k195=>?_)
       have S196:=S193.call k195
       refine wp_nil<|c_true rfl<|c_seq<|reg<|p_aB rfl<|wp_nil ?_
       obtain rfl:=sJ H
       exact c_ret (rT Tryd.f18 S196.keep rfl rfl)
      ·replace H:=condF c181 H
       obtain ⟨r197,h198,H⟩:=bindS H
       rcases bE (!((r32.1.Low==r197.Low)&&(r32.1.High==r197.High))) with c199 | c199
       ·replace H:=condT c199 H
        refine reg_c mixed 43 [39,40,41,42] (by kernel_rfl) ?_
        refine kS rfl (fun _ k_=>p_mI rfl dn)<|kS rfl (fun _ k_=>p_cmp rfl rfl rfl dn)<|kS rfl (fun _ k_=>p_mB rfl dn)<|kB c99<|kS rfl (fun _ k_=>gT rfl rfl (p_mI rfl dn))<|kS rfl (fun _ k_=>gT rfl rfl (p_cmp rfl rfl rfl dn))<|kS rfl (fun _ k_=>p_pkF rfl (rfl:_=B (r32.2 != 0)) dn)<|kS rfl (fun _ k_=>p_mB rfl dn)<|kB c115<|kS rfl (fun _ k_=>gT rfl rfl (p_mI rfl dn)) ?_
        refine kS rfl (fun _ k_=>gT rfl rfl (p_cmp rfl rfl rfl dn))<|kS rfl (fun _ k_=>p_pkF rfl (rfl:_=B (r56.2 != 0)) dn)<|kS rfl (fun _ k_=>p_mB rfl dn)<|kB c131<|kS rfl (fun _ k_=>gT rfl rfl (p_mI rfl dn))<|kS rfl (fun _ k_=>gT rfl rfl (p_cmp rfl rfl rfl dn))<|kS rfl (fun _ k_=>p_pkF rfl (rfl:_=B (r70.2 != 0)) dn)<|kS rfl (fun _ k_=>p_mB rfl dn)<|kB c147<|kS rfl (fun _ k_=>gT rfl rfl (p_mI rfl dn)) ?_
        refine kS rfl (fun _ k_=>gT rfl rfl (p_cmp rfl rfl rfl dn))<|kS rfl (fun _ k_=>p_pkF rfl (rfl:_=B (r90.2 != 0)) dn)<|kS rfl (fun _ k_=>p_mB rfl dn)<|kB c163<|kS rfl (fun _ k_=>gT rfl rfl (p_ldA ty33 sz33 (aS (S98.atX (i:=6) rfl) k_) rfl rfl dn))<|kS rfl (fun _ k_=>gT rfl rfl (p_cvD (B_Range_ok h180) fu16 rfl)) ?_
        refine kS rfl (fun _ k_=>gT rfl rfl (o_neA (xs:=[I r13.1.Low,I r13.1.High]) (ys:=[I r179.Low,I r179.High]) (T:=((r13.1.Low==r179.Low)&&(r13.1.High==r179.High))) rfl rfl eq33 ⟨⟨_,rfl⟩,⟨⟨_,rfl⟩,trivial⟩⟩ ⟨⟨_,rfl⟩,⟨⟨_,rfl⟩,trivial⟩⟩ (by simp [Bool.and_eq_true,and_assoc]) dn))<|kS rfl (fun _ k_=>p_pkF rfl (rfl:_=B (!((r13.1.Low==r179.Low)&&(r13.1.High==r179.High)))) dn) ?_
        refine kS rfl (fun _ k_=>p_mB rfl dn)<|kB c181<|kS rfl (fun _ k_=>gT rfl rfl (p_ldA ty33 sz33 (aS (S98.atX (i:=4) rfl) k_) rfl rfl dn))<|kS rfl (fun _ k_=>gT rfl rfl (p_cvD (B_Range_ok h198) fu16 rfl)) ?_
        refine kS rfl (fun _ k_=>gT rfl rfl (o_neA (xs:=[I r32.1.Low,I r32.1.High]) (ys:=[I r197.Low,I r197.High]) (T:=((r32.1.Low==r197.Low)&&(r32.1.High==r197.High))) rfl rfl eq33 ⟨⟨_,rfl⟩,⟨⟨_,rfl⟩,trivial⟩⟩ ⟨⟨_,rfl⟩,⟨⟨_,rfl⟩,trivial⟩⟩ (by simp [Bool.and_eq_true,and_assoc]) dn))<|kS rfl (fun _ k_=>p_pkF rfl (rfl:_=B (!((r32.1.Low==r197.Low)&&(r32.1.High==r197.High)))) dn) ?_
        refine kS rfl (fun _ k_=>p_mB rfl dn)<|kB c199<|kS rfl (fun _ k_=>gF rfl rfl dnU)<|kS rfl (fun _ k_=>gF rfl rfl dnU)<|kS rfl (fun _ k_=>p_pkT rfl (rfl:_=B true) dn)<|kS rfl (fun _ k_=>p_mB rfl dn)<|kS rfl (fun _ k_=>gF rfl rfl dnU)<|kS rfl (fun _ k_=>gF rfl rfl dnU)<|kS rfl (fun _ k_=>gF rfl rfl dnU)<|kS rfl (fun _ k_=>p_pkT rfl (rfl:_=B true) dn)<|kS rfl (fun _ k_=>p_mB rfl dn) ?_
        refine kS rfl (fun _ k_=>gF rfl rfl dnU)<|kC rfl<|kC rfl<|kC rfl<|kC rfl ?_
        intro w200 k201; have S202:=S98.call k201
        refine gF rfl rfl (cN (kR) fun w203 k204=>?_)
        have S205:=S202.call k204
        refine gF rfl rfl (cN (kR) fun w206 k207=>?_)
        have S208:=S205.call k207
        refine gF rfl rfl (cN (kR) fun w209 k210=>?_)
        have S211:=S208.call k210
        refine p_pkT rfl (rfl:_=B true) (cN (kR) fun w212 k213=>?_)
        have S214:=S211.call k213
        refine wp_nil<|c_true rfl<|c_seq<|reg<|p_aB rfl<|wp_nil ?_
        obtain rfl:=sJ H
        exact c_ret (rT Tryd.f18 S214.keep rfl rfl)
       ·replace H:=condF c199 H
        rcases bE (!r56.1) with c215 | c215
        ·replace H:=condT c215 H
         refine reg_c mixed 43 [39,40,41,42] (by kernel_rfl) ?_
         refine kS rfl (fun _ k_=>p_mI rfl dn)<|kS rfl (fun _ k_=>p_cmp rfl rfl rfl dn)<|kS rfl (fun _ k_=>p_mB rfl dn)<|kB c99<|kS rfl (fun _ k_=>gT rfl rfl (p_mI rfl dn))<|kS rfl (fun _ k_=>gT rfl rfl (p_cmp rfl rfl rfl dn))<|kS rfl (fun _ k_=>p_pkF rfl (rfl:_=B (r32.2 != 0)) dn)<|kS rfl (fun _ k_=>p_mB rfl dn)<|kB c115<|kS rfl (fun _ k_=>gT rfl rfl (p_mI rfl dn)) ?_
         refine kS rfl (fun _ k_=>gT rfl rfl (p_cmp rfl rfl rfl dn))<|kS rfl (fun _ k_=>p_pkF rfl (rfl:_=B (r56.2 != 0)) dn)<|kS rfl (fun _ k_=>p_mB rfl dn)<|kB c131<|kS rfl (fun _ k_=>gT rfl rfl (p_mI rfl dn))<|kS rfl (fun _ k_=>gT rfl rfl (p_cmp rfl rfl rfl dn))<|kS rfl (fun _ k_=>p_pkF rfl (rfl:_=B (r70.2 != 0)) dn)<|kS rfl (fun _ k_=>p_mB rfl dn)<|kB c147<|kS rfl (fun _ k_=>gT rfl rfl (p_mI rfl dn)) ?_
         refine kS rfl (fun _ k_=>gT rfl rfl (p_cmp rfl rfl rfl dn))<|kS rfl (fun _ k_=>p_pkF rfl (rfl:_=B (r90.2 != 0)) dn)<|kS rfl (fun _ k_=>p_mB rfl dn)<|kB c163<|kS rfl (fun _ k_=>gT rfl rfl (p_ldA ty33 sz33 (aS (S98.atX (i:=6) rfl) k_) rfl rfl dn))<|kS rfl (fun _ k_=>gT rfl rfl (p_cvD (B_Range_ok h180) fu16 rfl)) ?_
         refine kS rfl (fun _ k_=>gT rfl rfl (o_neA (xs:=[I r13.1.Low,I r13.1.High]) (ys:=[I r179.Low,I r179.High]) (T:=((r13.1.Low==r179.Low)&&(r13.1.High==r179.High))) rfl rfl eq33 ⟨⟨_,rfl⟩,⟨⟨_,rfl⟩,trivial⟩⟩ ⟨⟨_,rfl⟩,⟨⟨_,rfl⟩,trivial⟩⟩ (by simp [Bool.and_eq_true,and_assoc]) dn))<|kS rfl (fun _ k_=>p_pkF rfl (rfl:_=B (!((r13.1.Low==r179.Low)&&(r13.1.High==r179.High)))) dn) ?_
         refine kS rfl (fun _ k_=>p_mB rfl dn)<|kB c181<|kS rfl (fun _ k_=>gT rfl rfl (p_ldA ty33 sz33 (aS (S98.atX (i:=4) rfl) k_) rfl rfl dn))<|kS rfl (fun _ k_=>gT rfl rfl (p_cvD (B_Range_ok h198) fu16 rfl)) ?_
         refine kS rfl (fun _ k_=>gT rfl rfl (o_neA (xs:=[I r32.1.Low,I r32.1.High]) (ys:=[I r197.Low,I r197.High]) (T:=((r32.1.Low==r197.Low)&&(r32.1.High==r197.High))) rfl rfl eq33 ⟨⟨_,rfl⟩,⟨⟨_,rfl⟩,trivial⟩⟩ ⟨⟨_,rfl⟩,⟨⟨_,rfl⟩,trivial⟩⟩ (by simp [Bool.and_eq_true,and_assoc]) dn))<|kS rfl (fun _ k_=>p_pkF rfl (rfl:_=B (!((r32.1.Low==r197.Low)&&(r32.1.High==r197.High)))) dn) ?_
         refine kS rfl (fun _ k_=>p_mB rfl dn)<|kB c199<|kS rfl (fun _ k_=>gT rfl rfl (p_mB rfl dn))<|kS rfl (fun _ k_=>gT rfl rfl (p_not rfl dn))<|kS rfl (fun _ k_=>p_pkF rfl (rfl:_=B (!r56.1)) dn)<|kS rfl (fun _ k_=>p_mB rfl dn)<|kB c215<|kS rfl (fun _ k_=>gF rfl rfl dnU)<|kS rfl (fun _ k_=>gF rfl rfl dnU)<|kS rfl (fun _ k_=>gF rfl rfl dnU)<|kS rfl (fun _ k_=>p_pkT rfl (rfl:_=B true) dn) ?_
         refine kS rfl (fun _ k_=>p_mB rfl dn)<|kS rfl (fun _ k_=>gF rfl rfl dnU)<|kC rfl<|kC rfl<|kC rfl<|kC rfl ?_
         intro w216 k217; have S218:=S98.call k217
         refine gF rfl rfl (cN (kR) fun w219 k220=>?_)
         have S221:=S218.call k220
         refine gF rfl rfl (cN (kR) fun w222 k223=>?_)
         have S224:=S221.call k223
         refine gF rfl rfl (cN (kR) fun w225 k226=>?_)
         have S227:=S224.call k226
         refine p_pkT rfl (rfl:_=B true) (cN (kR) fun w228 k229=>?_)
         have S230:=S227.call k229
         refine wp_nil<|c_true rfl<|c_seq<|reg<|p_aB rfl<|wp_nil ?_
         obtain rfl:=sJ H
         exact c_ret (rT Tryd.f18 S230.keep rfl rfl)
        ·replace H:=condF c215 H
         obtain ⟨r231,h232,H⟩:=bindS H
         rcases bE (!((r70.1.Low==r231.Low)&&(r70.1.High==r231.High))) with c233 | c233
         ·replace H:=condT c233 H
          refine reg_c mixed 43 [39,40,41,42] (by kernel_rfl) ?_
          refine kS rfl (fun _ k_=>p_mI rfl dn)<|kS rfl (fun _ k_=>p_cmp rfl rfl rfl dn)<|kS rfl (fun _ k_=>p_mB rfl dn)<|kB c99<|kS rfl (fun _ k_=>gT rfl rfl (p_mI rfl dn))<|kS rfl (fun _ k_=>gT rfl rfl (p_cmp rfl rfl rfl dn))<|kS rfl (fun _ k_=>p_pkF rfl (rfl:_=B (r32.2 != 0)) dn)<|kS rfl (fun _ k_=>p_mB rfl dn)<|kB c115<|kS rfl (fun _ k_=>gT rfl rfl (p_mI rfl dn)) ?_
          refine kS rfl (fun _ k_=>gT rfl rfl (p_cmp rfl rfl rfl dn))<|kS rfl (fun _ k_=>p_pkF rfl (rfl:_=B (r56.2 != 0)) dn)<|kS rfl (fun _ k_=>p_mB rfl dn)<|kB c131<|kS rfl (fun _ k_=>gT rfl rfl (p_mI rfl dn))<|kS rfl (fun _ k_=>gT rfl rfl (p_cmp rfl rfl rfl dn))<|kS rfl (fun _ k_=>p_pkF rfl (rfl:_=B (r70.2 != 0)) dn)<|kS rfl (fun _ k_=>p_mB rfl dn)<|kB c147<|kS rfl (fun _ k_=>gT rfl rfl (p_mI rfl dn)) ?_
          refine kS rfl (fun _ k_=>gT rfl rfl (p_cmp rfl rfl rfl dn))<|kS rfl (fun _ k_=>p_pkF rfl (rfl:_=B (r90.2 != 0)) dn)<|kS rfl (fun _ k_=>p_mB rfl dn)<|kB c163<|kS rfl (fun _ k_=>gT rfl rfl (p_ldA ty33 sz33 (aS (S98.atX (i:=6) rfl) k_) rfl rfl dn))<|kS rfl (fun _ k_=>gT rfl rfl (p_cvD (B_Range_ok h180) fu16 rfl)) ?_
          refine kS rfl (fun _ k_=>gT rfl rfl (o_neA (xs:=[I r13.1.Low,I r13.1.High]) (ys:=[I r179.Low,I r179.High]) (T:=((r13.1.Low==r179.Low)&&(r13.1.High==r179.High))) rfl rfl eq33 ⟨⟨_,rfl⟩,⟨⟨_,rfl⟩,trivial⟩⟩ ⟨⟨_,rfl⟩,⟨⟨_,rfl⟩,trivial⟩⟩ (by simp [Bool.and_eq_true,and_assoc]) dn))<|kS rfl (fun _ k_=>p_pkF rfl (rfl:_=B (!((r13.1.Low==r179.Low)&&(r13.1.High==r179.High)))) dn) ?_
          refine kS rfl (fun _ k_=>p_mB rfl dn)<|kB c181<|kS rfl (fun _ k_=>gT rfl rfl (p_ldA ty33 sz33 (aS (S98.atX (i:=4) rfl) k_) rfl rfl dn))<|kS rfl (fun _ k_=>gT rfl rfl (p_cvD (B_Range_ok h198) fu16 rfl)) ?_
          refine kS rfl (fun _ k_=>gT rfl rfl (o_neA (xs:=[I r32.1.Low,I r32.1.High]) (ys:=[I r197.Low,I r197.High]) (T:=((r32.1.Low==r197.Low)&&(r32.1.High==r197.High))) rfl rfl eq33 ⟨⟨_,rfl⟩,⟨⟨_,rfl⟩,trivial⟩⟩ ⟨⟨_,rfl⟩,⟨⟨_,rfl⟩,trivial⟩⟩ (by simp [Bool.and_eq_true,and_assoc]) dn))<|kS rfl (fun _ k_=>p_pkF rfl (rfl:_=B (!((r32.1.Low==r197.Low)&&(r32.1.High==r197.High)))) dn) ?_
          refine kS rfl (fun _ k_=>p_mB rfl dn)<|kB c199<|kS rfl (fun _ k_=>gT rfl rfl (p_mB rfl dn))<|kS rfl (fun _ k_=>gT rfl rfl (p_not rfl dn))<|kS rfl (fun _ k_=>p_pkF rfl (rfl:_=B (!r56.1)) dn)<|kS rfl (fun _ k_=>p_mB rfl dn)<|kB c215<|kS rfl (fun _ k_=>gT rfl rfl (p_ldA ty33 sz33 (aS (S98.atX (i:=0) rfl) k_) rfl rfl dn))<|kS rfl (fun _ k_=>gT rfl rfl (p_cvD (B_Range_ok h232) fu16 rfl)) ?_
          refine kS rfl (fun _ k_=>gT rfl rfl (o_neA (xs:=[I r70.1.Low,I r70.1.High]) (ys:=[I r231.Low,I r231.High]) (T:=((r70.1.Low==r231.Low)&&(r70.1.High==r231.High))) rfl rfl eq33 ⟨⟨_,rfl⟩,⟨⟨_,rfl⟩,trivial⟩⟩ ⟨⟨_,rfl⟩,⟨⟨_,rfl⟩,trivial⟩⟩ (by simp [Bool.and_eq_true,and_assoc]) dn))<|kS rfl (fun _ k_=>p_pkF rfl (rfl:_=B (!((r70.1.Low==r231.Low)&&(r70.1.High==r231.High)))) dn) ?_
          refine kS rfl (fun _ k_=>p_mB rfl dn)<|kB c233<|kS rfl (fun _ k_=>gF rfl rfl dnU)<|kC rfl<|kC rfl<|kC rfl<|kC rfl ?_
          intro w234 k235; have S236:=S98.call k235
          refine gF rfl rfl (cN (kR) fun w237 k238=>?_)
          have S239:=S236.call k238
          refine gF rfl rfl (cN (kR) fun w240 k241=>?_)
          have S242:=S239.call k241
          refine gF rfl rfl (cN (kR) fun w243 k244=>?_)
          have S245:=S242.call k244
          refine p_pkT rfl (rfl:_=B true) (cN (kR) fun w246 k247=>?_)
          have S248:=S245.call k247
          refine wp_nil<|c_true rfl<|c_seq<|reg<|p_aB rfl<|wp_nil ?_
          obtain rfl:=sJ H
          exact c_ret (rT Tryd.f18 S248.keep rfl rfl)
         ·replace H:=condF c233 H
          refine reg_c mixed 43 [39,40,41,42] (by kernel_rfl) ?_
          refine kS rfl (fun _ k_=>p_mI rfl dn)<|kS rfl (fun _ k_=>p_cmp rfl rfl rfl dn)<|kS rfl (fun _ k_=>p_mB rfl dn)<|kB c99<|kS rfl (fun _ k_=>gT rfl rfl (p_mI rfl dn))<|kS rfl (fun _ k_=>gT rfl rfl (p_cmp rfl rfl rfl dn))<|kS rfl (fun _ k_=>p_pkF rfl (rfl:_=B (r32.2 != 0)) dn)<|kS rfl (fun _ k_=>p_mB rfl dn)<|kB c115<|kS rfl (fun _ k_=>gT rfl rfl (p_mI rfl dn)) ?_
          refine kS rfl (fun _ k_=>gT rfl rfl (p_cmp rfl rfl rfl dn))<|kS rfl (fun _ k_=>p_pkF rfl (rfl:_=B (r56.2 != 0)) dn)<|kS rfl (fun _ k_=>p_mB rfl dn)<|kB c131<|kS rfl (fun _ k_=>gT rfl rfl (p_mI rfl dn))<|kS rfl (fun _ k_=>gT rfl rfl (p_cmp rfl rfl rfl dn))<|kS rfl (fun _ k_=>p_pkF rfl (rfl:_=B (r70.2 != 0)) dn)<|kS rfl (fun _ k_=>p_mB rfl dn)<|kB c147<|kS rfl (fun _ k_=>gT rfl rfl (p_mI rfl dn)) ?_
          refine kS rfl (fun _ k_=>gT rfl rfl (p_cmp rfl rfl rfl dn))<|kS rfl (fun _ k_=>p_pkF rfl (rfl:_=B (r90.2 != 0)) dn)<|kS rfl (fun _ k_=>p_mB rfl dn)<|kB c163<|kS rfl (fun _ k_=>gT rfl rfl (p_ldA ty33 sz33 (aS (S98.atX (i:=6) rfl) k_) rfl rfl dn))<|kS rfl (fun _ k_=>gT rfl rfl (p_cvD (B_Range_ok h180) fu16 rfl)) ?_
          refine kS rfl (fun _ k_=>gT rfl rfl (o_neA (xs:=[I r13.1.Low,I r13.1.High]) (ys:=[I r179.Low,I r179.High]) (T:=((r13.1.Low==r179.Low)&&(r13.1.High==r179.High))) rfl rfl eq33 ⟨⟨_,rfl⟩,⟨⟨_,rfl⟩,trivial⟩⟩ ⟨⟨_,rfl⟩,⟨⟨_,rfl⟩,trivial⟩⟩ (by simp [Bool.and_eq_true,and_assoc]) dn))<|kS rfl (fun _ k_=>p_pkF rfl (rfl:_=B (!((r13.1.Low==r179.Low)&&(r13.1.High==r179.High)))) dn) ?_
          refine kS rfl (fun _ k_=>p_mB rfl dn)<|kB c181<|kS rfl (fun _ k_=>gT rfl rfl (p_ldA ty33 sz33 (aS (S98.atX (i:=4) rfl) k_) rfl rfl dn))<|kS rfl (fun _ k_=>gT rfl rfl (p_cvD (B_Range_ok h198) fu16 rfl)) ?_
          refine kS rfl (fun _ k_=>gT rfl rfl (o_neA (xs:=[I r32.1.Low,I r32.1.High]) (ys:=[I r197.Low,I r197.High]) (T:=((r32.1.Low==r197.Low)&&(r32.1.High==r197.High))) rfl rfl eq33 ⟨⟨_,rfl⟩,⟨⟨_,rfl⟩,trivial⟩⟩ ⟨⟨_,rfl⟩,⟨⟨_,rfl⟩,trivial⟩⟩ (by simp [Bool.and_eq_true,and_assoc]) dn))<|kS rfl (fun _ k_=>p_pkF rfl (rfl:_=B (!((r32.1.Low==r197.Low)&&(r32.1.High==r197.High)))) dn) ?_
          refine kS rfl (fun _ k_=>p_mB rfl dn)<|kB c199<|kS rfl (fun _ k_=>gT rfl rfl (p_mB rfl dn))<|kS rfl (fun _ k_=>gT rfl rfl (p_not rfl dn))<|kS rfl (fun _ k_=>p_pkF rfl (rfl:_=B (!r56.1)) dn)<|kS rfl (fun _ k_=>p_mB rfl dn)<|kB c215<|kS rfl (fun _ k_=>gT rfl rfl (p_ldA ty33 sz33 (aS (S98.atX (i:=0) rfl) k_) rfl rfl dn))<|kS rfl (fun _ k_=>gT rfl rfl (p_cvD (B_Range_ok h232) fu16 rfl)) ?_
          refine kS rfl (fun _ k_=>gT rfl rfl (o_neA (xs:=[I r70.1.Low,I r70.1.High]) (ys:=[I r231.Low,I r231.High]) (T:=((r70.1.Low==r231.Low)&&(r70.1.High==r231.High))) rfl rfl eq33 ⟨⟨_,rfl⟩,⟨⟨_,rfl⟩,trivial⟩⟩ ⟨⟨_,rfl⟩,⟨⟨_,rfl⟩,trivial⟩⟩ (by simp [Bool.and_eq_true,and_assoc]) dn))<|kS rfl (fun _ k_=>p_pkF rfl (rfl:_=B (!((r70.1.Low==r231.Low)&&(r70.1.High==r231.High)))) dn) ?_
          refine kS rfl (fun _ k_=>p_mB rfl dn)<|kB c233<|kS rfl (fun _ k_=>gT rfl rfl (p_mS rfl dn))<|kC rfl<|kC rfl<|kC rfl<|kC rfl ?_
          intro w249 k250; have S251:=S98.call k250
          refine gT rfl rfl ?_
          have S257:=S251.base
          refine p_bsl (enc:=intE) (l:=([0]:List Int)) I (fun _=>rfl) sc40 in3 intE_len rfl (by decide) (by decide) zr3_1 S257 rfl fun A252 c253 w254 S255=>?_
          refine cN S255.keep fun w258 k259=>?_
          have S260:=(S251.fromBase S255).call k259
          obtain ⟨r261,h262,H⟩:=bindS H
          refine gT rfl rfl<|p_cal (B_Alike_ok h262 (S260.atP (i:=0) rfl) (gr_rd intE_len (S260.atX (i:=0) rfl))) fu17 rfl ?_
          rintro _ w263 ⟨rfl,k264⟩; refine cN k264 fun w265 k266=>?_
          have S267:=(S260.call k264).call k266
          refine gT rfl rfl (p_not rfl (cN (kR) fun w268 k269=>?_))
          have S270:=S267.call k269
          refine p_pkF rfl (rfl:_=B (!r261)) (cN (kR) fun w271 k272=>?_)
          have S273:=S270.call k272
          refine wp_nil ?_
          refine c_cond rfl (fun c274=>?_) (fun c274=>?_)
          ·replace H:=condT c274 H
           refine c_seq<|reg<|p_aB rfl<|wp_nil ?_
           obtain rfl:=sJ H
           exact c_ret (rT Tryd.f18 S273.keep rfl rfl)
          ·replace H:=condF c274 H
           refine c_skip<|c_seq<|reg ?_
           obtain ⟨r275,h276,H⟩:=bindS H
           refine p_cal (law_torn_ok h276) fu15 rfl ?_
           rintro _ w277 ⟨A279,c280,rfl,k278,⟨o281,n282⟩,_⟩
           have S284:=S273.addNew k278 o281 n282
           obtain ⟨r285,h286,H⟩:=bindS H
           refine p_cal (tally_Whose_ok h286 (gr_rd eTallyCount_len (S284.atX (i:=0) rfl)) (S284.atP (i:=2) rfl) (S284.atP (i:=3) rfl)) fu12 rfl ?_
           rintro _ w287 ⟨A289,c290,rfl,k288,⟨o291,n292⟩,_⟩
           have S293:=S284.callN k288 [rd intE 1 A289 c290 r285.1] (cA ⟨o291,New.inL n292⟩ nM)
           refine p_mT rfl<|p_ext rfl rfl<|p_ext rfl rfl<|p_aS rfl<|p_aI rfl<|wp_nil<|c_seq<|reg ?_
           obtain ⟨r294,h295,H⟩:=bindS H
           refine p_cal (law_own_ok h295) fu4 rfl ?_
           rintro _ w296 ⟨A298,c299,rfl,k297,⟨o300,n301⟩,_⟩
           have S303:=S293.addNew k297 o300 n301
           obtain ⟨r304,h305,H⟩:=bindS H
           refine p_cv (tally_Again_ok h305 (gr_rd eTallyCount_len (S303.atX (i:=0) rfl)) (S303.atP (i:=3) rfl) (S303.atP (i:=4) rfl)) fu13 rfl S303 fun w306 S307=>p_mT rfl<|p_ext rfl rfl<|p_ext rfl rfl<|p_aI rfl<|p_aI rfl<|wp_nil<|c_seq<|reg ?_
           obtain ⟨r308,h309,H⟩:=bindS H
           refine p_cal (law_own_ok h309) fu4 rfl ?_
           rintro _ w310 ⟨A312,c313,rfl,k311,⟨o314,n315⟩,_⟩
           have S317:=S307.addNew k311 o314 n315
           obtain ⟨r318,h319,H⟩:=bindS H
           refine p_cv (law_count_ok h319) fu10 rfl S317 fun w320 S321=>?_
           obtain ⟨r322,h323,H⟩:=bindS H
           refine p_cv (tally_Fits_ok h323 (gr_rd eTallyCount_len (S321.atX (i:=0) rfl)) (S321.atP (i:=3) rfl) (S321.atP (i:=4) rfl)) fu9 rfl S321 fun w324 S325=>p_mT rfl<|p_ext rfl rfl<|p_ext rfl rfl<|p_aB rfl<|p_aI rfl<|wp_nil<|c_seq<|reg ?_
           obtain ⟨r326,h327,H⟩:=bindS H
           refine p_cal (law_torn_ok h327) fu15 rfl ?_
           rintro _ w328 ⟨A330,c331,rfl,k329,⟨o332,n333⟩,_⟩
           have S335:=S325.addNew k329 o332 n333
           obtain ⟨r336,h337,H⟩:=bindS H
           refine p_cv (tally_Right_ok h337 (gr_rd eTallyCount_len (S335.atX (i:=0) rfl)) (S335.atP (i:=3) rfl) (S335.atP (i:=4) rfl)) fu5 rfl S335 fun w338 S339=>p_mT rfl<|p_ext rfl rfl<|p_ext rfl rfl<|p_aB rfl<|p_aI rfl<|wp_nil<|c_seq<|reg<|p_mI rfl<|p_cmp rfl rfl rfl<|p_mB rfl ?_
           rcases bE ((r285.2==0)) with c340 | c340
           ·replace H:=condT c340 H
            refine eB c340 ?_
            refine gT rfl rfl (p_mI rfl ?_)
            refine gT rfl rfl (p_cmp rfl rfl rfl ?_)
            refine p_pkT rfl (rfl:_=B (r304.2==0))<|p_mB rfl ?_
            rcases bE ((r304.2==0)) with c341 | c341
            ·replace H:=condT c341 H
             refine eB c341 ?_
             refine gT rfl rfl (p_mI rfl ?_)
             refine gT rfl rfl (p_cmp rfl rfl rfl ?_)
             refine p_pkT rfl (rfl:_=B (r322.2==0))<|p_mB rfl ?_
             rcases bE ((r322.2==0)) with c342 | c342
             ·replace H:=condT c342 H
              refine eB c342 ?_
              refine gT rfl rfl (p_mI rfl ?_)
              refine gT rfl rfl (p_cmp rfl rfl rfl ?_)
              refine p_pkT rfl (rfl:_=B (r336.2==0))<|p_mB rfl ?_
              rcases bE ((r336.2==0)) with c343 | c343
              ·replace H:=condT c343 H
               refine eB c343 ?_
               refine gT rfl rfl (p_mS rfl ?_)
               refine gT rfl rfl<|p_bsl (enc:=intE) (l:=[0,2]) I (fun _=>rfl) sc40 in3 intE_len rfl (by decide) (by decide) zr3_2 S339 rfl fun A344 c345 w346 S347=>?_
               obtain ⟨r349,h350,H⟩:=bindS H
               refine gT rfl rfl (p_cv (B_Alike_ok h350 (S347.atP (i:=0) rfl) (gr_rd intE_len (S347.atX (i:=0) rfl))) fu17 rfl S347 fun w351 S352=>?_)
               refine p_pkT rfl (rfl:_=B r349)<|p_mB rfl ?_
               rcases bE (r349) with c353 | c353
               ·replace H:=condT c353 H
                refine eB c353 ?_
                refine gT rfl rfl (p_mI rfl ?_)
                refine gT rfl rfl (p_cmp rfl rfl rfl ?_)
                refine p_pkT rfl (rfl:_=B (r304.1==3))<|p_mB rfl ?_
                rcases bE ((r304.1==3)) with c354 | c354
                ·replace H:=condT c354 H
                 refine eB c354 ?_
                 refine gT rfl rfl (p_mB rfl ?_)
                 refine p_pkT rfl (rfl:_=B r322.1)<|p_mB rfl ?_
                 rcases bE (r322.1) with c355 | c355
                 ·replace H:=condT c355 H
                  refine eB c355 ?_
                  refine gT rfl rfl (p_mB rfl ?_)
                  refine gT rfl rfl (p_not rfl ?_)
                  refine p_pkT rfl (rfl:_=B (!r336.1))<|p_aB rfl<|wp_nil ?_
                  obtain rfl:=sJ H
                  exact c_ret (rT Tryd.f18 S352.keep rfl rfl)
                 ·replace H:=condF c355 H
                  refine eB c355<|gF rfl rfl<|gF rfl rfl<|p_pkF rfl (rfl:_=B false)<|p_aB rfl<|wp_nil ?_
                  obtain rfl:=sJ H
                  exact c_ret (rT Tryd.f18 S352.keep rfl rfl)
                ·replace H:=condF c354 H
                 refine eB c354<|gF rfl rfl<|p_pkF rfl (rfl:_=B false)<|p_mB rfl<|gF rfl rfl<|gF rfl rfl<|p_pkF rfl (rfl:_=B false)<|p_aB rfl<|wp_nil ?_
                 obtain rfl:=sJ H
                 exact c_ret (rT Tryd.f18 S352.keep rfl rfl)
               ·replace H:=condF c353 H
                refine eB c353<|gF rfl rfl<|gF rfl rfl<|p_pkF rfl (rfl:_=B false)<|p_mB rfl<|gF rfl rfl<|p_pkF rfl (rfl:_=B false)<|p_mB rfl<|gF rfl rfl<|gF rfl rfl<|p_pkF rfl (rfl:_=B false)<|p_aB rfl<|wp_nil ?_
                obtain rfl:=sJ H
                exact c_ret (rT Tryd.f18 S352.keep rfl rfl)
              ·replace H:=condF c343 H
               refine eB c343<|gF rfl rfl<|gF rfl rfl<|gF rfl rfl<|p_pkF rfl (rfl:_=B false)<|p_mB rfl<|gF rfl rfl<|gF rfl rfl<|p_pkF rfl (rfl:_=B false)<|p_mB rfl<|gF rfl rfl<|p_pkF rfl (rfl:_=B false)<|p_mB rfl<|gF rfl rfl<|gF rfl rfl<|p_pkF rfl (rfl:_=B false)<|p_aB rfl<|wp_nil ?_
               obtain rfl:=sJ H
               exact c_ret (rT Tryd.f18 S339.keep rfl rfl)
             ·replace H:=condF c342 H
              refine eB c342<|gF rfl rfl<|gF rfl rfl<|p_pkF rfl (rfl:_=B false)<|p_mB rfl<|gF rfl rfl<|gF rfl rfl<|gF rfl rfl<|p_pkF rfl (rfl:_=B false)<|p_mB rfl<|gF rfl rfl<|gF rfl rfl<|p_pkF rfl (rfl:_=B false)<|p_mB rfl<|gF rfl rfl<|p_pkF rfl (rfl:_=B false)<|p_mB rfl<|gF rfl rfl<|gF rfl rfl<|p_pkF rfl (rfl:_=B false)<|p_aB rfl<|wp_nil ?_
              obtain rfl:=sJ H
              exact c_ret (rT Tryd.f18 S339.keep rfl rfl)
            ·replace H:=condF c341 H
             refine eB c341<|gF rfl rfl<|gF rfl rfl<|p_pkF rfl (rfl:_=B false)<|p_mB rfl<|gF rfl rfl<|gF rfl rfl<|p_pkF rfl (rfl:_=B false)<|p_mB rfl<|gF rfl rfl<|gF rfl rfl<|gF rfl rfl<|p_pkF rfl (rfl:_=B false)<|p_mB rfl<|gF rfl rfl<|gF rfl rfl<|p_pkF rfl (rfl:_=B false)<|p_mB rfl<|gF rfl rfl<|p_pkF rfl (rfl:_=B false)<|p_mB rfl<|gF rfl rfl<|gF rfl rfl<|p_pkF rfl (rfl:_=B false)<|p_aB rfl<|wp_nil ?_
             obtain rfl:=sJ H
             exact c_ret (rT Tryd.f18 S339.keep rfl rfl)
           ·replace H:=condF c340 H
            refine eB c340<|gF rfl rfl<|gF rfl rfl<|p_pkF rfl (rfl:_=B false)<|p_mB rfl<|gF rfl rfl<|gF rfl rfl<|p_pkF rfl (rfl:_=B false)<|p_mB rfl<|gF rfl rfl<|gF rfl rfl<|p_pkF rfl (rfl:_=B false)<|p_mB rfl<|gF rfl rfl<|gF rfl rfl<|gF rfl rfl<|p_pkF rfl (rfl:_=B false)<|p_mB rfl<|gF rfl rfl<|gF rfl rfl<|p_pkF rfl (rfl:_=B false)<|p_mB rfl<|gF rfl rfl<|p_pkF rfl (rfl:_=B false)<|p_mB rfl<|gF rfl rfl<|gF rfl rfl<|p_pkF rfl (rfl:_=B false) ?_
            refine p_aB rfl<|wp_nil ?_
            obtain rfl:=sJ H
            exact c_ret (rT Tryd.f18 S339.keep rfl rfl)
def nTallyBook (h:TallyBook×(Option Addr)×Nat):List Value:=[I h.1.Trips,I h.1.Room,SL h.2.1 h.1.Counts.length h.2.2]
theorem nTallyBook_len (h:TallyBook×(Option Addr)×Nat):(nTallyBook h).length=3:=rfl
theorem nTallyBook_one (h:TallyBook×(Option Addr)×Nat):∀ u∈nTallyBook h,u.oneCell' =true:=by simp [nTallyBook,sg,sgF,Value.oneCell']
def nTallyBookI (h:TallyBook×(Option Addr)×Nat):List Asr:=[rd eTallyCount 7 h.2.1 h.2.2 h.1.Counts]
end Go.Proofs.YthimckediigcoaaDoor
namespace Go.Fx
open Go Go.ChangeShapes Go.WideShapes Go.ChangeAt Go.RowKit
section
variable {H:Type}{enc:TypeId×Value→H}{P:Program}
theorem Keep.kept {w w' :World} (k:Keep0 w w') (may:MemPlace→Prop):w.keptBut w' may:=by
 refine ⟨k.os,k.output,fun i hi=>?_⟩
 have:=k.block i hi (fun x=>x)
 rw [this]
 cases w.heap[i]? with
 | none=>rfl
 | some o=>cases o <;> first | exact ⟨rfl,rfl,rfl,fun _ _=>rfl⟩ | exact .inr ⟨rfl,rfl⟩ | rfl
theorem Keep.same {w w' :World} (k:Keep0 w w') {p:MemPlace} (hp:p.block < w.heap.size):w.sameAt w' p:=by
 cases p with
 | cell b off=>
   have:=k.block b hp (fun x=>x)
   exact World.cell?_of_block (w:=w) this
 | map b=>exact k.block b hp (fun x=>x)
theorem trodAll_stays (hl:laidOutB P=true) {W W' :World}{sp' :Nat→Bool}:∀ {ts:List TypeId}{vs:List Value}{ds:List (DataW H)}{ps:List MemPlace},
 (∀ t∈ts,P.readableRec t=true∧t < P.types.size)→DataW.TrodAll enc P W 0 (fun _=>true) true ts vs ds ps→(∀ p∈ps,W.sameAt W' p)→(∀ p∈ps,sp' p.block=true)→DataW.TrodAll enc P W' 0 sp' true ts vs ds ps
 | [],[],[],_,_,h,_,_=>h
 | t::ts,v::vs,d::ds,ps,ht,⟨p,q,h1,h2,e⟩,hs,hb=>by
   subst e
   exact ⟨p,q,WideElems.Trod_stays hl (ht t (List.mem_cons_self ..)).1 (ht t (List.mem_cons_self ..)).2 h1 (fun x hx=>hs x (List.mem_append_left _ hx)) (fun x hx=>hb x (List.mem_append_left _ hx)),
    trodAll_stays hl (fun t ht' =>ht t (List.mem_cons_of_mem _ ht')) h2 (fun x hx=>hs x (List.mem_append_right _ hx)) (fun x hx=>hb x (List.mem_append_right _ hx)),rfl⟩
 | [],_::_,_,_,_,h,_,_=>by cases ‹List (DataW H)› <;> exact h.elim
 | [],[],_::_,_,_,h,_,_=>h.elim
 | _::_,[],_,_,_,h,_,_=>by cases ‹List (DataW H)› <;> exact h.elim
 | _::_,_::_,[],_,_,h,_,_=>h.elim
theorem law_post {fn:Func}{spec:ChangeSpec}{W W' :World}{args:Array Value}{ds gs:List (DataW H)}{before:List MemPlace}{tb:TypeId}
 (hW:DataW.Whole enc P fn.params.toList spec.vars false W args.toList ds gs before) (hl:laidOutB P=true) (hts:(fn.params.toList.all fun t=>P.readableRec t&&decide (t < P.types.size))=true)
 (hvars:spec.vars=[]) (hfn:spec.fn H ds={ results:=[.lit (.bool true)],args:=ds }) (hres:fn.resultTypes=#[tb]) (hb:P.underlying tb=some .bool) (k:Keep0 W W'):
 spec.post enc P fn false true false false W args (.bool true) W' :=by
 have hlt:=hW.lt
 obtain ⟨p,q,hA,hV,rfl,hfz,hnd⟩:=id hW
 have hV' :=hV
 rw [hvars] at hV'
 obtain ⟨rfl,rfl⟩:=trodVars_none hV'
 rw [List.append_nil] at hlt
 have hts' :∀ t∈fn.params.toList,P.readableRec t=true∧t < P.types.size:=fun t ht=>by
  have:=List.all_eq_true.1 hts t ht
  simpa using this
 refine ⟨ds,[],p++[],[],p,[],hW,?_,?_,?_,k.kept _,fun h=>by cases h⟩
 ·rw [List.append_nil,hfn,hres]
  exact trodAll_mk1 (shut_bool hb true)
 ·rw [List.append_nil,hfn]
  exact trodAll_stays hl hts' hA (fun x hx=>k.same (hlt x hx)) (fun x hx=>by simpa using hlt x hx)
 ·rw [List.append_nil,hfn,hvars]
  rfl
variable {w:World}{base:Nat}{spare:Nat→Bool}{held:Bool}
end
end Go.Fx
namespace Go.Proofs.YthimckediigcoaaDoor
open Go Go.Fx Go.Proofs Go.ChangeShapes Go.WideShapes Go.ChangeAt Go.RowKit
theorem own:ownKnob Tryd.prog.godebug=none:=by kernel_rfl
theorem gEnds : Tryd.prog.globalNamed "prow/tally.ends" = some 0 := by kernel_rfl
theorem tEnds:(Tryd.prog.globals[0]?).map (·.type)=some 73:=by kernel_rfl
theorem gNothing : Tryd.prog.globalNamed "prow/tally.nothing" = some 1 := by kernel_rfl
theorem tNothing:(Tryd.prog.globals[1]?).map (·.type)=some 71:=by kernel_rfl
theorem laidOut:laidOutB Tryd.prog=true:=by kernel_rfl
theorem u117:Tryd.prog.underlying 73=some (.array 2 72):=by kernel_rfl
theorem u116b:(match Tryd.prog.underlying 72 with | some (.func _ _ _)=>true | _=>false)=true:=by kernel_rfl
theorem u116:∃ ps rs va,Tryd.prog.underlying 72=some (.func ps rs va):=by
 have h:=u116b
 split at h
 ·rename_i ps rs va hu; exact ⟨ps,rs,va,hu⟩
 ·cases h
theorem u3:Tryd.prog.underlying 3=some (.int .i64):=by kernel_rfl
theorem c116:Tryd.prog.cellsOf 72=1:=by kernel_rfl
theorem c117:Tryd.prog.cellsOf 73=2:=by kernel_rfl
theorem c115:Tryd.prog.cellsOf 71=2:=by kernel_rfl
theorem c3:Tryd.prog.cellsOf 3=1:=by kernel_rfl
theorem u115:∃ f0 f1:Field,Tryd.prog.underlying 71=some (.struct #[f0,f1])∧f0.type=3∧f1.type=3∧f0.offset=0∧f1.offset=1:=⟨(Tryd.prog.fieldsOf 71)[0]!,(Tryd.prog.fieldsOf 71)[1]!,by kernel_rfl,by kernel_rfl,by kernel_rfl,by kernel_rfl,by kernel_rfl⟩
def laidL : List (String × DataW Unit) := [("prow/tally.ends", Rows.laid_prow_tally_ends), ("prow/tally.nothing", Rows.laid_prow_tally_nothing)]
theorem var_heap {W:World}{n:String}{g:Nat}{cs c:Array Value}{t:TypeId}{fr:Nat×Nat} (hg:Tryd.prog.globalNamed n=some g) (hv:W.var? Tryd.prog n=some cs) (hh:W.heap[g]? =some (.cells c t fr)):cs=c:=by
 unfold World.var? at hv
 rw [hg] at hv
 simp only [Option.bind_some,hh] at hv
 exact (Option.some.inj hv).symm
theorem shape0:∃ zero,(((begin Tryd.prog (fun _ _=>0) default).world.heap[0]?).bind Obj.row?)=some (zero,73):=⟨#[.nilFunc,.nilFunc],by kernel_rfl⟩
theorem shape1:∃ zero,(((begin Tryd.prog (fun _ _=>0) default).world.heap[1]?).bind Obj.row?)=some (zero,71):=⟨#[I 0,I 0],by kernel_rfl⟩
set_option maxRecDepth 100000 in
theorem globals_ok {W:World} (hS:W.ShapedOpen Tryd.prog) (h:laidMetH Tryd.prog laidL W):(bl 0 [Value.func (.func 59) #[] #[],Value.func (.func 61) #[] #[]] 73).ok W∧(bl 1 [I (-1),I (-1)] 71).ok W:=by
 obtain ⟨z0,hz0⟩:=shape0
 obtain ⟨z1,hz1⟩:=shape1
 obtain ⟨cs0,h0,_⟩:=hS.1 0 z0 73 (of_decide_eq_true (by kernel_rfl)) hz0
 obtain ⟨cs1,h1,_⟩:=hS.1 1 z1 71 (of_decide_eq_true (by kernel_rfl)) hz1
 constructor
 ·obtain ⟨g, t, cs, fuel, p, hg, ht, hv, hd⟩ := h.funcs (n := "prow/tally.ends") (List.mem_cons_self ..)
  obtain rfl:=Option.some.inj (gEnds.symm.trans hg)
  obtain rfl:=Option.some.inj (tEnds.symm.trans ht)
  obtain rfl:=var_heap gEnds hv h0
  obtain ⟨xs,m,_,hx,hl,hxs,hel⟩:=DataW.trod_array u117 hd
  rw [c117] at hl
  have hx' :xs.map (·.1)=[.held [40,112,114,111,119,47,116,97,108,108,121,46,99,111,117,110,116,41,46,108,101,97,115,116],.held [40,112,114,111,119,47,116,97,108,108,121,46,99,111,117,110,116,41,46,109,111,115,116]]:=by
   have:=congrArg Prod.fst hx
   exact (DataW.agg.inj this).symm
  obtain ⟨ps,rs,va,hu⟩:=u116
  obtain ⟨cl⟩:=cs
  match cl,hl with
  | [v0,v1],_=>
    match xs,hx' with
    | [(_,p0),(_,p1)],hx' =>
      simp only [List.map_cons,List.map_nil,List.cons.injEq,and_true] at hx'
      obtain ⟨rfl,rfl⟩:=hx'
      have e0:=hel 0 (by decide)
      have e1:=hel 1 (by decide)
      rw [c116] at e0 e1
      obtain rfl:=func_of_trod (f0:=59) hu (by kernel_rfl) (show DataW.trod _ _ _ _ _ _ _ _ [v0]=some (_,p0) from e0)
      obtain rfl:=func_of_trod (f0:=61) hu (by kernel_rfl) (show DataW.trod _ _ _ _ _ _ _ _ [v1]=some (_,p1) from e1)
      exact h0
 ·have h' : laidMet Tryd.prog [("prow/tally.nothing", Rows.laid_prow_tally_nothing)] W := h.1
  obtain ⟨ps,⟨g,t,cs,fuel,p,q,hg,ht,hv,hd,_,_⟩,_⟩:=h'
  obtain rfl:=Option.some.inj (gNothing.symm.trans hg)
  obtain rfl:=Option.some.inj (tNothing.symm.trans ht)
  obtain rfl:=var_heap gNothing hv h1
  obtain ⟨f0,f1,hu,ht0,ht1,ho0,ho1⟩:=u115
  obtain ⟨xs,m,_,hx,hl,hxs,hel⟩:=DataW.trod_struct hu hd
  rw [c115] at hl
  have hx' :xs.map (·.1)=[.lit (.int .i64 (-1)),.lit (.int .i64 (-1))]:=by
   have:=congrArg Prod.fst hx
   exact (DataW.agg.inj this).symm
  obtain ⟨cl⟩:=cs
  match cl,hl with
  | [v0,v1],_=>
    match xs,hx' with
    | [(_,p0),(_,p1)],hx' =>
      simp only [List.map_cons,List.map_nil,List.cons.injEq,and_true] at hx'
      obtain ⟨rfl,rfl⟩:=hx'
      have e0:=hel 0 f0 rfl
      have e1:=hel 1 f1 rfl
      rw [ho0,ht0,c3] at e0
      rw [ho1,ht1,c3] at e1
      obtain ⟨n0,a0,b0,_⟩:=DataW.trod_int u3 (show DataW.trod _ _ _ _ _ _ _ _ [v0]=some (_,p0) from e0)
      obtain ⟨n1,a1,b1,_⟩:=DataW.trod_int u3 (show DataW.trod _ _ _ _ _ _ _ _ [v1]=some (_,p1) from e1)
      cases a0; cases a1; cases b0; cases b1
      exact h1
def putCells (cs:Array Value):Obj→Obj
 | .cells _ t frozen=>.cells cs t frozen
 | o=>o
noncomputable def laidWorld (os:Os):World:=
 { World.holding Tryd.prog os ⟨#[],#[],[]⟩ with heap:=((World.holding Tryd.prog os ⟨#[],#[],[]⟩).heap.modify 0 (putCells #[.func (.func 59) #[] #[],.func (.func 61) #[] #[]])).modify 1 (putCells #[I (-1),I (-1)]) }
end Go.Proofs.YthimckediigcoaaDoor
/- What the functions of the program compute, and that they do, printed by a program of mine. -/
import Derived.Test.YtafhljljfglfeaaDoorZWE
import Derived.KernelRfl
import Derived.Test.YtafhljljfglfeaaDoorZGFxCopy
import Derived.OpenShut
import Derived.RowKit
import Derived.WideKeyArgs
import Derived.ChangeOld
import Derived.LaidMore
import Derived.LaidLaws
import Derived.Deep.DeepHandedRow
import Derived.ProofKit
import Derived.Test.YtafhljljfglfeaaDoorCards
import Derived.Test.YtafhljljfglfeaaDoorTie
set_option linter.unusedVariables false
set_option linter.unusedSimpArgs false
namespace Go.Proofs.YtafhljljfglfeaaDoor
open Go Go.Fx Go.Proofs
def B_Within (a0:Span) (a1:Int):Option Int:=
 (B_Mod a1 (wr ((wr (a0.High - a0.Low))+1))).bind fun r4=>
 some (wr (a0.Low+r4))
set_option maxRecDepth 100000 in
theorem B_Within_ok {a0:Span}{a1:Int}{w:World}{r:Int} (H:B_Within a0 a1=some r):Calls Tryd.prog 20 #[AG [I a0.Low,I a0.High],I a1] w (RetV w (I r)):=by
 unfold B_Within at H
 refine fn_of (n:=16) Tryd.func20 rfl rfl (lE rfl) ?_
 have S:=St.start w nF _ nM
 refine c_seq<|reg<|p_boxA rfl S fun b1 w2 S3=>p_aI rfl<|wp_nil<|c_seq ?_
 obtain ⟨r4,h5,H⟩:=bindS H
 refine reg_q mixed 12 (by kernel_rfl) ?_
 refine dS (fun _ k_=>p_fld fl49_0 rfl dn)<|dS (fun _ k_=>p_ld ty3 (aS (S3.atX (i:=0) rfl) k_) rfl rfl dn)<|dS (fun _ k_=>p_mI rfl dn)<|dS (fun _ k_=>p_fld fl49_1 rfl dn)<|dS (fun _ k_=>p_ld ty3 (aS (S3.atX (i:=0) rfl) k_) rfl rfl dn)<|dS (fun _ k_=>p_fld fl49_0 rfl dn)<|dS (fun _ k_=>p_ld ty3 (aS (S3.atX (i:=0) rfl) k_) rfl rfl dn)<|dS (fun _ k_=>p_sub rfl rfl dn) ?_
 refine dS (fun _ k_=>p_add rfl rfl dn)<|dS (fun _ k_=>p_cvD (B_Mod_ok h5) fu19 rfl)<|dS (fun _ k_=>p_add rfl rfl dn)<|dS (fun _ k_=>p_aI rfl dn) ?_
 intro w6 k7; have S8:=S3.call k7
 refine wp_nil ?_
 obtain rfl:=sJ H
 exact c_ret (rT Tryd.f20 S8.keep rfl rfl)
def tally_least_int_l1 (a1:List Int) (rec_z_1:(Int×Int)→Option Int) (z_1:Int×Int):Option Int:=
 bif decide (z_1.2 < (a1.length:Int)) then ((getI a1 z_1.2).bind fun r9=>
 rec_z_1 ((if r9 < z_1.1 then r9 else z_1.1),wr (z_1.2+1)))
 else (some z_1.1)
def tally_least_int (a0:Int) (a1:List Int):Option Int:=
 loopF (tally_least_int_l1 a1) big (a0,0)
set_option maxRecDepth 100000 in
theorem tally_least_int_ok {a0:Int}{a1:List Int}{A1:Option Addr}{c2:Nat}{w:World}{r:Int} (H:tally_least_int a0 a1=some r) (h3:(rd intE 1 A1 c2 a1).ok w):Calls Tryd.prog 107 #[I a0,SL A1 a1.length c2] w (RetV w (I r)):=by
 unfold tally_least_int at H
 refine fn_of (n:=18) Tryd.func107 rfl rfl (lE rfl) ?_
 have S:=St.start w nF _ (cA h3 nM)
 refine c_seq<|reg<|p_aI rfl<|wp_nil<|c_seq<|c_seq<|reg<|p_mS rfl<|p_len rfl sc30<|p_mI rfl<|wp_nil<|c_block ?_
 refine c_lop (α:=Int×Int) (β:=Unit) (tally_least_int_l1 a1) (fun z_1 y_1=>[(0,I z_1.1),(7,SL A1 a1.length c2),(8,I (a1.length:Int)),(9,I z_1.2)]) (fun z_1 y_1 w_=>St w nF w_ [] [rd intE 1 A1 c2 a1]) (a0,0) () H ⟨rfl,rfl,rfl,rfl,trivial⟩ S ?_
 intro m4 z_1 y_1 e5 w6 H S7
 unfold tally_least_int_l1 at H
 refine c_seq<|reg<|p_cmp rfl rfl rfl<|wp_nil<|c_seq ?_
 refine c_cond rfl (fun c8=>?_) (fun c8=>?_)
 ·replace H:=condT c8 H
  refine c_skip<|c_seq<|c_block<|c_seq<|reg ?_
  obtain ⟨r9,h10,H⟩:=bindS H
  refine p_ixE sc30 h10 (S7.atP (i:=0) rfl).1 rfl rfl rfl<|p_ldE ty3 h10 (S7.atP (i:=0) rfl).1 rfl rfl<|p_aI rfl<|wp_nil<|reg<|p_mI rfl<|p_mI rfl<|p_min rfl rfl<|p_aI rfl<|wp_nil<|reg<|p_add rfl rfl<|p_mI rfl<|wp_nil ?_
  exact ⟨((if r9 < z_1.1 then r9 else z_1.1),wr (z_1.2+1)),(),_,rfl,⟨rfl,rfl,rfl,rfl,trivial⟩,H,S7⟩
 ·replace H:=condF c8 H
  refine c_exit<|c_seq<|reg<|p_mI rfl<|p_aI rfl<|wp_nil ?_
  obtain rfl:=sJ H
  exact c_ret (rT Tryd.f107 S7.keep rfl rfl)
def tally_book_note_j6 (a0:Tally_book) (a1:Tally_pair) (z_2:Int):Option (List (Tally_pair×Int)):=
 some (putL a0.more_ a1 z_2)
def tally_book_note_j7 (a2:Int) (a0:Tally_book) (a1:Tally_pair) (z_1:Int×Bool):Option (List (Tally_pair×Int)):=
 bif z_1.2 then ((tally_least_int a2 ([z_1.1]:List Int)).bind fun r20=>
 tally_book_note_j6 a0 a1 r20)
 else (tally_book_note_j6 a0 a1 a2)
def tally_book_note (a0:Tally_book) (a1:Tally_pair) (a2:Int):Option (List (Tally_pair×Int)):=
 optC (lookL a0.more_ a1) (fun v11=>tally_book_note_j7 a2 a0 a1 (v11,true)) (tally_book_note_j7 a2 a0 a1 (0,false))
set_option maxRecDepth 100000 in
theorem tally_book_note_ok {a0:Tally_book}{a1:Tally_pair}{a2:Int}{A1:Option Addr}{c2:Nat}{m3:Nat}{w:World}{r:(List (Tally_pair×Int))} (H:tally_book_note a0 a1 a2=some r) (h4:(mp ekT iE m3 a0.more_).ok w):Calls Tryd.prog 96 #[AG [I a0.TallyBook.Trips,I a0.TallyBook.Room,SL A1 a0.TallyBook.Counts.length c2,Value.map (some m3)],AG [I a1.from_,I a1.to_],I a2] w fun en w_=>∃ u_,en=.returned u_∧u_=TU []∧Keep (mp ekT iE m3 a0.more_).fp w w_∧(mp ekT iE m3 r).ok w_∧True:=by
 unfold tally_book_note at H
 refine fn_of (n:=24) Tryd.func96 rfl rfl (lE rfl) ?_
 have S:St w (mp ekT iE m3 a0.more_).fp w [mp ekT iE m3 a0.more_] []:=St.startX _ h4 nM nM
 refine c_seq<|reg<|p_boxA rfl S fun b5 w6 S7=>p_boxA rfl S7 fun b8 w9 S10=>wp_nil ?_
 refine c_join (α:=Int) (β:=Unit) (fun z_2 y_2=>[(2,I z_2),(3,P b5 0),(4,P b8 0)]) (fun z_2 y_2 w_=>tally_book_note_j6 a0 a1 z_2=some r∧St w (mp ekT iE m3 a0.more_).fp w_ [bl b8 [I a1.from_,I a1.to_] 139,bl b5 [I a0.TallyBook.Trips,I a0.TallyBook.Room,SL A1 a0.TallyBook.Counts.length c2,Value.map (some m3)] 116,mp ekT iE m3 a0.more_] []) ?_ ?_
 ·refine c_join (α:=Int×Bool) (β:=Unit) (fun z_1 y_1=>[(2,I a2),(3,P b5 0),(4,P b8 0),(6,I z_1.1),(7,B z_1.2)]) (fun z_1 y_1 w_=>tally_book_note_j7 a2 a0 a1 z_1=some r∧St w (mp ekT iE m3 a0.more_).fp w_ [bl b8 [I a1.from_,I a1.to_] 139,bl b5 [I a0.TallyBook.Trips,I a0.TallyBook.Room,SL A1 a0.TallyBook.Counts.length c2,Value.map (some m3)] 116,mp ekT iE m3 a0.more_] []) ?_ ?_
  ·refine reg<|p_fld fl116_1 rfl<|p_ld ty114 (S10.atX (i:=1) rfl) rfl rfl<|p_ldA ty139 sz139 (S10.atX (i:=0) rfl) rfl rfl ?_
   refine p_lookO (a:=a1) mt114 keyT in3 (mpo_some (S10.atX (i:=2) rfl)) rfl rfl (fun v11 c12=>?_) (fun c12=>?_)
   ·replace H:=optS c12 H
    refine p_mT rfl<|p_ext rfl rfl<|p_ext rfl rfl<|p_aI rfl<|p_aB rfl<|wp_nil ?_
    exact ⟨(v11,true),(),_,rfl,⟨rfl,rfl,rfl,rfl,rfl,trivial⟩,H,S10⟩
   ·replace H:=optN c12 H
    refine p_mT rfl<|p_ext rfl rfl<|p_ext rfl rfl<|p_aI rfl<|p_aB rfl<|wp_nil ?_
    exact ⟨(0,false),(),_,rfl,⟨rfl,rfl,rfl,rfl,rfl,trivial⟩,H,S10⟩
  ·intro z_1 y_1 e11 w12 S13; obtain ⟨H,S13⟩:=S13
   unfold tally_book_note_j7 at H
   refine c_seq<|reg<|p_mB rfl<|wp_nil ?_
   refine c_cond rfl (fun c14=>?_) (fun c14=>?_)
   ·replace H:=condT c14 H
    refine reg<|p_mI rfl<|p_mI rfl<|p_bsl (enc:=intE) (l:=([z_1.1]:List Int)) I (fun _=>rfl) sc30 in3 intE_len rfl (by decide) (by decide) zr3_1 S13 rfl fun A15 c16 w17 S18=>?_
    obtain ⟨r20,h21,H⟩:=bindS H
    refine p_cv (tally_least_int_ok h21 (gr_rd intE_len (S18.atX (i:=0) rfl))) fu107 rfl S18 fun w22 S23=>p_aI rfl<|wp_nil ?_
    have S24:=S23.pk [1,2,3] (by decide) [] rfl rfl
    exact ⟨r20,(),_,rfl,⟨rfl,rfl,rfl,trivial⟩,H,S24⟩
   ·replace H:=condF c14 H
    refine c_skip ?_
    exact ⟨a2,(),_,rfl,⟨rfl,rfl,rfl,trivial⟩,H,S13⟩
 ·intro z_2 y_2 e11 w12 S13; obtain ⟨H,S13⟩:=S13
  unfold tally_book_note_j6 at H
  refine reg<|p_fld fl116_1 rfl<|p_ld ty114 (S13.atX (i:=1) rfl) rfl rfl<|p_ldA ty139 sz139 (S13.atX (i:=0) rfl) rfl rfl<|p_mI rfl ?_
  refine o_mup (a:=a1) (v:=z_2) rfl rfl rfl mt114 keyT S13 (i:=2) rfl fun w14 S15=>?_
  refine wp_nil ?_
  obtain rfl:=sJ H
  show bodyPostM (Fr none) 0 Tryd.prog Tryd.f96 _ .normal _ _
  refine end_of (res0 rfl) ?_
  exact ⟨_,rfl,rfl,S15.keep,(S15.atX (i:=2) rfl),trivial⟩
structure Tally_leave where
 out_:TallyCount→Int→Option Bool
def tally_opened_l4 (a0:TallyBook) (a1:Tally_leave) (rec_z_2:(Int×(List (Tally_pair×Int)))→Option Tally_book) (z_2:Int×(List (Tally_pair×Int))):Option Tally_book:=
 bif decide (z_2.1 < (a0.Counts.length:Int)) then ((getI a0.Counts z_2.1).bind fun r53=>
 (a1.out_ r53 z_2.1).bind fun r60=>
 bif r60 then (rec_z_2 (wr (z_2.1+1),z_2.2))
 else ((tally_count_most r53).bind fun r71=>
 (tally_book_note (Tally_book.mk a0 z_2.2) (Tally_pair.mk r53.From (wr (r53.To+1))) r71).bind fun r76=>
 (tally_count_least r53).bind fun r82=>
 (tally_book_note (Tally_book.mk a0 r76) (Tally_pair.mk (wr (r53.To+1)) r53.From) (wr (-r82))).bind fun r87=>
 rec_z_2 (wr (z_2.1+1),r87)))
 else (some (Tally_book.mk a0 z_2.2))
def tally_opened_l5 (a0:TallyBook) (a1:Tally_leave) (rec_z_1:(Int×(List (Tally_pair×Int)))→Option Tally_book) (z_1:Int×(List (Tally_pair×Int))):Option Tally_book:=
 bif decide (z_1.1 < a0.Trips) then ((tally_book_note (Tally_book.mk a0 z_1.2) (Tally_pair.mk z_1.1 (wr (z_1.1+1))) a0.Room).bind fun r35=>
 (tally_book_note (Tally_book.mk a0 r35) (Tally_pair.mk (wr (z_1.1+1)) z_1.1) 0).bind fun r41=>
 rec_z_1 (wr (z_1.1+1),r41))
 else (loopF (tally_opened_l4 a0 a1) big (0,z_1.2))
def tally_opened (a0:TallyBook) (a1:Tally_leave):Option Tally_book:=
 loopF (tally_opened_l5 a0 a1) big (0,([]:List (Tally_pair×Int)))
set_option maxRecDepth 100000 in
theorem tally_opened_ok {a0:TallyBook}{a1:Tally_leave}{A1:Option Addr}{c2:Nat}{f4:Nat}{cp5:List Value}{w:World}{r:Tally_book} (H:tally_opened a0 a1=some r) (h3:(rd eTallyCount 7 A1 c2 a0.Counts).ok w) (hF6:funOf Tryd.prog f4=true) (hw7:∀ (y8:TallyCount) (y9:Int) (w11:World) (y10:Bool),Keep0 w w11→a1.out_ y8 y9=some y10→Calls Tryd.prog f4 (List.toArray ([AG [I y8.Who,I y8.From,I y8.To,I y8.Told,I y8.Unit,I y8.Under,I y8.Over],I y9]++cp5)) w11 (RetV w11 (B y10))) (hg12:(gW2).ok w):Calls Tryd.prog 73 #[AG [I a0.Trips,I a0.Room,SL A1 a0.Counts.length c2],AG [vF (.func f4) #[] cp5.toArray]] w fun en w_=>∃ u_,en=.returned u_∧∃ m_1:Nat,u_=AG [I r.TallyBook.Trips,I r.TallyBook.Room,SL A1 a0.Counts.length c2,Value.map (some m_1)]∧Keep0 w w_∧((mp ekT iE m_1 r.more_).ok w_∧New w.heap.size (mp ekT iE m_1 r.more_))∧True:=by
 unfold tally_opened at H
 refine fn_of (n:=74) Tryd.func73 rfl rfl (lE rfl) ?_
 have S:=St.start w nF _ (cA h3 (cA hg12 nM))
 refine c_seq<|reg<|p_boxA rfl S fun b13 w14 S15=>p_boxA rfl S15 fun b16 w17 S18=>p_allA in116 S18 fun b19 w20 S21=>wp_nil<|c_seq<|reg<|p_ldA ty24 sz24 (S21.atX (i:=2) rfl) rfl rfl ?_
 refine o_mkmap S21 ekT iE fun m22 w23 _ S24=>?_
 refine p_bld (cs:=[I a0.Trips,I a0.Room,SL A1 a0.Counts.length c2,Value.map (some m22)]) st116 (rfl:_=[(0,AG [I a0.Trips,I a0.Room,SL A1 a0.Counts.length c2]),(1,Value.map (some m22))]) (by kernel_rfl)<|p_allA in116 S24 fun b25 w26 S27=>?_
 refine p_stP (pre:=[]) (old:=[I 0,I 0,SL none 0 0,Value.map none]) (post:=[]) (vs:=[I a0.Trips,I a0.Room,SL A1 a0.Counts.length c2,Value.map (some m22)]) sz116 S27 (i:=0) rfl rfl rfl rfl (rfl:_=AG [I a0.Trips,I a0.Room,SL A1 a0.Counts.length c2,Value.map (some m22)]) rfl rfl rfl rfl fun w28 S29=>wp_nil<|c_seq<|c_seq<|reg<|p_fld fl24_0 rfl<|p_ld ty3 (S29.atX (i:=4) rfl) rfl rfl<|p_mI rfl ?_
 refine wp_nil<|c_block ?_
 refine c_lop (α:=Int×(List (Tally_pair×Int))) (β:=Unit) (tally_opened_l5 a0 a1) (fun z_1 y_1=>[(2,P b13 0),(3,P b16 0),(4,P b19 0),(5,P b25 0),(14,I a0.Trips),(15,I z_1.1)]) (fun z_1 y_1 w_=>St w nF w_ [bl b25 [I a0.Trips,I a0.Room,SL A1 a0.Counts.length c2,Value.map (some m22)] 116,mp ekT iE m22 z_1.2,bl b19 [I 0,I 0,SL none 0 0,Value.map none] 116,bl b16 [vF (.func f4) #[] cp5.toArray] 120,bl b13 [I a0.Trips,I a0.Room,SL A1 a0.Counts.length c2] 24] [rd eTallyCount 7 A1 c2 a0.Counts,gW2]) (0,([]:List (Tally_pair×Int))) () H ⟨rfl,rfl,rfl,rfl,rfl,rfl,trivial⟩ S29 ?_
 intro m30 z_1 y_1 e31 w32 H S33
 unfold tally_opened_l5 at H
 refine c_seq<|reg<|p_cmp rfl rfl rfl<|wp_nil<|c_seq ?_
 refine c_cond rfl (fun c34=>?_) (fun c34=>?_)
 ·replace H:=condT c34 H
  refine c_skip<|c_seq<|c_block<|c_seq<|reg<|p_mI rfl<|p_aI rfl<|wp_nil<|c_seq<|reg<|p_ldA ty116 sz116 (S33.atX (i:=0) rfl) rfl rfl<|p_mI rfl<|p_mI rfl<|p_add rfl rfl<|p_bld (cs:=[I z_1.1,I (wr (z_1.1+1))]) st139 (rfl:_=[(0,I z_1.1),(1,I (wr (z_1.1+1)))]) (by kernel_rfl)<|p_fld fl24_1 rfl<|p_ld ty3 (S33.atX (i:=4) rfl) rfl rfl ?_
  obtain ⟨r35,h36,H⟩:=bindS H
  refine p_cal (tally_book_note_ok h36 (S33.atX (i:=1) rfl)) fu96 rfl ?_
  rintro _ w37 ⟨rfl,k38,o39,_⟩
  have S40:=S33.turn (i:=1) rfl o39 (fun _ h_=>.inl h_) k38.os k38.tape k38.output k38.size k38.block
  refine wp_nil<|reg<|p_ldA ty116 sz116 (S40.atX (i:=0) rfl) rfl rfl<|p_mI rfl<|p_add rfl rfl<|p_mI rfl<|p_bld (cs:=[I (wr (z_1.1+1)),I z_1.1]) st139 (rfl:_=[(0,I (wr (z_1.1+1))),(1,I z_1.1)]) (by kernel_rfl) ?_
  obtain ⟨r41,h42,H⟩:=bindS H
  refine p_cal (tally_book_note_ok h42 (S40.atX (i:=1) rfl)) fu96 rfl ?_
  rintro _ w43 ⟨rfl,k44,o45,_⟩
  have S46:=S40.turn (i:=1) rfl o45 (fun _ h_=>.inl h_) k44.os k44.tape k44.output k44.size k44.block
  exact wp_nil<|reg<|p_add rfl rfl<|p_mI rfl<|wp_nil ⟨(wr (z_1.1+1),r41),(),_,rfl,⟨rfl,rfl,rfl,rfl,rfl,rfl,trivial⟩,H,S46⟩
 ·replace H:=condF c34 H
  refine c_exit<|c_seq<|c_seq<|reg<|p_fld fl24_2 rfl<|p_ld ty22 (S33.atX (i:=4) rfl) rfl rfl<|p_len rfl sc22<|p_mI rfl<|wp_nil<|c_block ?_
  have S47:=S33.pk [0,1,2,3] (by decide) [0,1] rfl rfl
  refine c_lop (α:=Int×(List (Tally_pair×Int))) (β:=Unit) (tally_opened_l4 a0 a1) (fun z_2 y_2=>[(3,P b16 0),(4,P b19 0),(5,P b25 0),(34,SL A1 a0.Counts.length c2),(35,I (a0.Counts.length:Int)),(36,I z_2.1)]) (fun z_2 y_2 w_=>St w nF w_ [bl b25 [I a0.Trips,I a0.Room,SL A1 a0.Counts.length c2,Value.map (some m22)] 116,mp ekT iE m22 z_2.2,bl b19 [I 0,I 0,SL none 0 0,Value.map none] 116,bl b16 [vF (.func f4) #[] cp5.toArray] 120] [rd eTallyCount 7 A1 c2 a0.Counts,gW2]) (0,z_1.2) () H ⟨rfl,rfl,rfl,rfl,rfl,rfl,trivial⟩ S47 ?_
  intro m48 z_2 y_2 e49 w50 H S51
  unfold tally_opened_l4 at H
  refine c_seq<|reg<|p_cmp rfl rfl rfl<|wp_nil<|c_seq ?_
  refine c_cond rfl (fun c52=>?_) (fun c52=>?_)
  ·replace H:=condT c52 H
   refine c_skip<|c_seq<|c_block<|c_seq<|reg<|p_mI rfl ?_
   obtain ⟨r53,h54,H⟩:=bindS H
   refine p_ixE sc22 h54 (S51.atP (i:=0) rfl).1 rfl rfl rfl<|p_ldEA ty81 sz81 rfl h54 (S51.atP (i:=0) rfl).1 rfl<|p_allA in81 S51 fun b55 w56 S57=>p_aI rfl ?_
   refine p_stP (pre:=[]) (old:=[I 0,I 0,I 0,I 0,I 0,I 0,I 0]) (post:=[]) (vs:=[I r53.Who,I r53.From,I r53.To,I r53.Told,I r53.Unit,I r53.Under,I r53.Over]) sz81 S57 (i:=0) rfl rfl rfl rfl (rfl:_=AG [I r53.Who,I r53.From,I r53.To,I r53.Told,I r53.Unit,I r53.Under,I r53.Over]) rfl rfl rfl rfl fun w58 S59=>wp_nil<|c_seq<|c_seq<|reg<|p_fld fl120_0 rfl ?_
   refine p_ld ty118 (S59.atX (i:=4) rfl) rfl rfl<|p_ldA ty81 sz81 (S59.atX (i:=0) rfl) rfl rfl<|p_mI rfl ?_
   obtain ⟨r60,h61,H⟩:=bindS H
   refine p_cv (hw7 _ _ _ _ S59.keep h61) hF6 rfl S59 ?_
   intro w62 S63
   refine wp_nil ?_
   refine c_cond rfl (fun c64=>?_) (fun c64=>?_)
   ·replace H:=condT c64 H
    refine c_exit<|reg<|p_add rfl rfl<|p_mI rfl<|wp_nil ?_
    have S65:=S63.pk [1,2,3,4] (by decide) [0,1] rfl rfl
    exact ⟨(wr (z_2.1+1),z_2.2),(),_,rfl,⟨rfl,rfl,rfl,rfl,rfl,rfl,trivial⟩,H,S65⟩
   ·replace H:=condF c64 H
    refine c_skip<|c_seq<|reg<|p_ldA ty81 sz81 (S63.atX (i:=0) rfl) rfl rfl<|p_allA in140 S63 fun b66 w67 S68=>?_
    refine p_stP (pre:=[]) (old:=[I 0,I 0,I 0,I 0,I 0,I 0,I 0]) (post:=[]) (vs:=[I r53.Who,I r53.From,I r53.To,I r53.Told,I r53.Unit,I r53.Under,I r53.Over]) sz140 S68 (i:=0) rfl rfl rfl rfl (rfl:_=AG [I r53.Who,I r53.From,I r53.To,I r53.Told,I r53.Unit,I r53.Under,I r53.Over]) rfl rfl rfl rfl fun w69 S70=>wp_nil<|c_seq ?_
    obtain ⟨r71,h72,H⟩:=bindS H
    refine reg_q mixed 11 (by kernel_rfl) ?_
    refine dS (fun _ k_=>p_ldA ty116 sz116 (aS (S70.atX (i:=2) rfl) k_) rfl rfl dn)<|dS (fun _ k_=>p_fld fl140_1 rfl dn)<|dS (fun _ k_=>p_ld ty3 (aS (S70.atX (i:=0) rfl) k_) rfl rfl dn)<|dS (fun _ k_=>p_fld fl140_2 rfl dn)<|dS (fun _ k_=>p_ld ty3 (aS (S70.atX (i:=0) rfl) k_) rfl rfl dn)<|dS (fun _ k_=>p_add rfl rfl dn) ?_
    refine dS (fun _ k_=>p_bld (cs:=[I r53.From,I (wr (r53.To+1))]) st139 (rfl:_=[(0,I r53.From),(1,I (wr (r53.To+1)))]) (by kernel_rfl) dn)<|dS (fun _ k_=>p_ixc ar142 rfl rfl (by decide) (by decide) dn)<|dS (fun _ k_=>p_ld ty141 (aS (S70.atP (i:=1) rfl) k_) rfl rfl dn)<|dS (fun _ k_=>p_ldA ty140 sz140 (aS (S70.atX (i:=0) rfl) k_) rfl rfl dn) ?_
    refine dS (fun _ k_=>p_cvD (tally_count_most_ok h72) fu132 rfl) ?_
    intro w73 k74; have S75:=S70.call k74
    obtain ⟨r76,h77,H⟩:=bindS H
    refine p_cal (tally_book_note_ok h77 (S75.atX (i:=3) rfl)) fu96 rfl ?_
    rintro _ w78 ⟨rfl,k79,o80,_⟩
    have S81:=S75.turn (i:=3) rfl o80 (fun _ h_=>.inl h_) k79.os k79.tape k79.output k79.size k79.block
    refine wp_nil ?_
    obtain ⟨r82,h83,H⟩:=bindS H
    refine reg_q mixed 12 (by kernel_rfl) ?_
    refine dS (fun _ k_=>p_ldA ty116 sz116 (aS (S81.atX (i:=2) rfl) k_) rfl rfl dn)<|dS (fun _ k_=>p_fld fl140_2 rfl dn)<|dS (fun _ k_=>p_ld ty3 (aS (S81.atX (i:=0) rfl) k_) rfl rfl dn)<|dS (fun _ k_=>p_add rfl rfl dn)<|dS (fun _ k_=>p_fld fl140_1 rfl dn)<|dS (fun _ k_=>p_ld ty3 (aS (S81.atX (i:=0) rfl) k_) rfl rfl dn) ?_
    refine dS (fun _ k_=>p_bld (cs:=[I (wr (r53.To+1)),I r53.From]) st139 (rfl:_=[(0,I (wr (r53.To+1))),(1,I r53.From)]) (by kernel_rfl) dn)<|dS (fun _ k_=>p_ixc ar142 rfl rfl (by decide) (by decide) dn)<|dS (fun _ k_=>p_ld ty141 (aS (S81.atP (i:=1) rfl) k_) rfl rfl dn)<|dS (fun _ k_=>p_ldA ty140 sz140 (aS (S81.atX (i:=0) rfl) k_) rfl rfl dn) ?_
    refine dS (fun _ k_=>p_cvD (tally_count_least_ok h83) fu128 rfl)<|dS (fun _ k_=>p_neg rfl dn) ?_
    intro w84 k85; have S86:=S81.call k85
    obtain ⟨r87,h88,H⟩:=bindS H
    refine p_cal (tally_book_note_ok h88 (S86.atX (i:=3) rfl)) fu96 rfl ?_
    rintro _ w89 ⟨rfl,k90,o91,_⟩
    have S92:=S86.turn (i:=3) rfl o91 (fun _ h_=>.inl h_) k90.os k90.tape k90.output k90.size k90.block
    refine wp_nil<|reg<|p_add rfl rfl<|p_mI rfl<|wp_nil ?_
    have S93:=S92.pk [2,3,4,5] (by decide) [0,1] rfl rfl
    exact ⟨(wr (z_2.1+1),r87),(),_,rfl,⟨rfl,rfl,rfl,rfl,rfl,rfl,trivial⟩,H,S93⟩
  ·replace H:=condF c52 H
   refine c_exit<|c_seq<|reg<|p_ldA ty116 sz116 (S51.atX (i:=0) rfl) rfl rfl<|p_stP (pre:=[]) (old:=[I 0,I 0,SL none 0 0,Value.map none]) (post:=[]) (vs:=[I a0.Trips,I a0.Room,SL A1 a0.Counts.length c2,Value.map (some m22)]) sz116 S51 (i:=2) rfl rfl rfl rfl (rfl:_=AG [I a0.Trips,I a0.Room,SL A1 a0.Counts.length c2,Value.map (some m22)]) rfl rfl rfl rfl fun w94 S95=>wp_nil ?_
   obtain rfl:=sJ H
   refine c_ret ?_; show bodyPostM (Fr none) 0 Tryd.prog Tryd.f73 _ .ret _ _
   refine ret_of (res1 rfl (rvA rfl ty116 sz116 (S95.atX (i:=2) rfl) rfl)) ?_
   exact ⟨_,rfl,m22,rfl,S95.keep,⟨S95.atX (i:=1) rfl,S95.newX (i:=1) rfl⟩,trivial⟩
def tally_nobody_1 (a0:TallyCount) (a1:Int):Option Bool:=
 some false
set_option maxRecDepth 100000 in
theorem tally_nobody_1_ok {a0:TallyCount}{a1:Int}{w:World}{r:Bool} (H:tally_nobody_1 a0 a1=some r):Calls Tryd.prog 97 #[AG [I a0.Who,I a0.From,I a0.To,I a0.Told,I a0.Unit,I a0.Under,I a0.Over],I a1] w (RetV w (B r)):=by
 unfold tally_nobody_1 at H
 refine fn_of (n:=5) Tryd.func97 rfl rfl (lE rfl) ?_
 have S:=St.start w nF _ nM
 refine c_seq<|reg<|p_boxA rfl S fun b1 w2 S3=>p_aB rfl<|wp_nil<|c_seq<|reg<|p_aB rfl<|wp_nil ?_
 obtain rfl:=sJ H
 exact c_ret (rT Tryd.f97 S3.keep rfl rfl)
def tally_nobody:Option Unit:=
 some ()
set_option maxRecDepth 100000 in
theorem tally_nobody_ok {w:World}{r:Unit} (H:tally_nobody=some r):Calls Tryd.prog 74 #[] w (RetV w (AG [vF (.func 97) #[] #[]])):=by
 unfold tally_nobody at H
 refine fn_of (n:=2) Tryd.func74 rfl rfl (lE rfl) ?_
 have S:=St.start w nF _ nM
 refine c_seq<|reg<|p_allA in120 S fun b1 w2 S3=>wp_nil<|c_seq<|reg<|p_bld (cs:=[vF (.func 97) #[] #[]]) st120 (rfl:_=[(0,vF (.func 97) #[] #[])]) (by kernel_rfl)<|p_stP (pre:=[]) (old:=[Value.nilFunc]) (post:=[]) (vs:=[vF (.func 97) #[] #[]]) sz120 S3 (i:=0) rfl rfl rfl rfl (rfl:_=AG [vF (.func 97) #[] #[]]) rfl rfl rfl rfl fun w4 S5=>wp_nil ?_
 obtain rfl:=sJ H
 refine c_ret ?_; show bodyPostM (Fr none) 0 Tryd.prog Tryd.f74 _ .ret _ _
 refine ret_of (res1 rfl (rvA rfl ty120 sz120 (S5.atX (i:=0) rfl) rfl)) ?_
 exact ⟨_,rfl,rfl,S5.keep⟩
def tally_none:Option (List Int):=
 some (List.replicate 9 0)
set_option maxRecDepth 100000 in
theorem tally_none_ok {w:World}{r:(List Int)} (H:tally_none=some r):Calls Tryd.prog 99 #[] w (RetV w (AG (sg r 9))):=by
 unfold tally_none at H
 refine fn_of (n:=3) Tryd.func99 rfl rfl (lE rfl) ?_
 have S:=St.start w nF _ nM
 refine c_seq<|reg<|p_allA in144 S fun b1 w2 S3=>wp_nil<|c_seq<|reg<|p_allA in144 S3 fun b4 w5 S6=>wp_nil<|c_seq<|reg<|p_ldA ty144 sz144 (S6.atX (i:=0) rfl) rfl rfl<|p_stP (pre:=[]) (old:=sg (List.replicate 9 0) 9) (post:=[]) (vs:=sg (List.replicate 9 0) 9) sz144 S6 (i:=1) rfl rfl rfl rfl (rfl:_=AG (sg (List.replicate 9 0) 9)) rfl rfl rfl rfl fun w7 S8=>wp_nil ?_
 obtain rfl:=sJ H
 refine c_ret ?_; show bodyPostM (Fr none) 0 Tryd.prog Tryd.f99 _ .ret _ _
 refine ret_of (res1 rfl (rvA rfl ty144 sz144 (S8.atX (i:=1) rfl) rfl)) ?_
 exact ⟨_,rfl,rfl,S8.keep⟩
def entOf (e:Tally_pair×Int):Go.Tally.Ent:=((e.1.from_,e.1.to_),e.2)
def tally_from (a0:Tally_book) (a1:Int):Option (List Int×Bool):=
 bif Go.Tally.vdB a0.TallyBook.Trips a1 (a0.more_.map entOf)&&decide (1≤a0.TallyBook.Trips) then some (Go.Tally.fromD a0.TallyBook.Trips a1 (a0.more_.map entOf)) else none
theorem mp_ent {m:Nat}{l:List (Tally_pair×Int)}{w:World} (h:(mp ekT iE m l).ok w):(mp ekP Go.Tally.iE m (l.map entOf)).ok w:=by
 obtain ⟨es,clock,h1,rfl,h2⟩:=h
 refine ⟨es.map fun x=>(x.1,entOf x.2),clock,h1.trans ?_,by simp [List.map_map,Function.comp_def],?_,?_⟩
 ·unfold mapO
  rw [List.map_map]
  rfl
 ·rw [List.map_map]; exact h2.1
 ·intro x hx
  obtain ⟨y,hy,rfl⟩:=List.mem_map.1 hx
  exact h2.2 y hy
theorem tally_from_ok {a0:Tally_book}{a1:Int}{A1:Option Addr}{c2:Nat}{m4:Option Nat}{w:World}{r:(List Int)×Bool} (H:tally_from a0 a1=some r) (h3:(rd eTallyCount 7 A1 c2 a0.TallyBook.Counts).ok w) (h5:(mpo ekT iE m4 a0.more_).ok w) (hg6:(gW3).ok w):Calls Tryd.prog 98 #[AG [I a0.TallyBook.Trips,I a0.TallyBook.Room,SL A1 a0.TallyBook.Counts.length c2,Value.map m4],I a1] w (RetV w (TU [AG (sg r.1 9),B r.2])):=by
 unfold tally_from at H
 cases hv:(Go.Tally.vdB a0.TallyBook.Trips a1 (a0.more_.map entOf)&&decide (1≤a0.TallyBook.Trips))
 ·rw [hv] at H; cases H
 rw [hv] at H
 obtain rfl:=sJ H
 rw [Bool.and_eq_true] at hv
 have V:=Go.Tally.vdB_iff.1 hv.1
 have ht:=of_decide_eq_true hv.2
 cases m4 with
 | none=>
   have hn:a0.more_=[]:=h5
   obtain ⟨n,_,hm⟩:=V.up 0 (by omega)
   rw [hn] at hm
   cases hm
 | some m=>
   have hm:=mp_ent (show (mp ekT iE m a0.more_).ok w from h5)
   refine (Fr.from_ok a0.TallyBook.Trips a0.TallyBook.Room a1 A1 a0.TallyBook.Counts.length c2 m _ w hm V.ks V.t0 V.t8 V.s0 V.st hg6).mono fun en w_ h=>?_
   obtain ⟨v,he,out,res,hv,hk,hF⟩:=h
   obtain ⟨e1,e2⟩:=Go.Tally.from_uniq V hF (Go.Tally.fromD_R _ _ _)
   refine ⟨v,he,?_,hk⟩
   rw [hv,← e1,← e2,sg_ivs,sgl_eq (Go.Tally.FromR_len hF)]
def tally_book_can (a0:Tally_book):Option Bool:=
 (tally_from a0 0).bind fun r10=>
 some r10.2
set_option maxRecDepth 100000 in
theorem tally_book_can_ok {a0:Tally_book}{A1:Option Addr}{c2:Nat}{m4:Option Nat}{w:World}{r:Bool} (H:tally_book_can a0=some r) (h3:(rd eTallyCount 7 A1 c2 a0.TallyBook.Counts).ok w) (h5:(mpo ekT iE m4 a0.more_).ok w) (hg6:(gW3).ok w):Calls Tryd.prog 75 #[AG [I a0.TallyBook.Trips,I a0.TallyBook.Room,SL A1 a0.TallyBook.Counts.length c2,Value.map m4]] w (RetV w (B r)):=by
 unfold tally_book_can at H
 refine fn_of (n:=11) Tryd.func75 rfl rfl (lE rfl) ?_
 have S:=St.start w nF _ (cA h3 (cA h5 (cA hg6 nM)))
 refine c_seq<|reg<|p_boxA rfl S fun b7 w8 S9=>p_aB rfl<|wp_nil<|c_seq<|reg<|p_ldA ty116 sz116 (S9.atX (i:=0) rfl) rfl rfl ?_
 obtain ⟨r10,h11,H⟩:=bindS H
 refine p_cv (tally_from_ok h11 (S9.atP (i:=0) rfl) (S9.atP (i:=1) rfl) (S9.atP (i:=2) rfl)) fu98 rfl S9 fun w12 S13=>p_mT rfl<|p_ext rfl rfl<|p_ext rfl rfl<|p_allA in144 S13 fun b14 w15 S16=>p_stP (pre:=[]) (old:=sg (List.replicate 9 0) 9) (post:=[]) (vs:=sg r10.1 9) sz144 S16 (i:=0) rfl rfl rfl rfl (rfl:_=AG (sg r10.1 9)) rfl rfl rfl rfl fun w17 S18=>p_aB rfl<|wp_nil<|c_seq<|reg<|p_mB rfl ?_
 refine p_aB rfl<|wp_nil ?_
 obtain rfl:=sJ H
 exact c_ret (rT Tryd.f75 S18.keep rfl rfl)
def tally_Right (a0:TallyBook):Option (Bool×Int):=
 (tally_Check a0).bind fun r9=>
 bif (r9 != 0) then (some (false,r9))
 else ((tally_nobody).bind fun r14=>
 (tally_opened a0 (Tally_leave.mk (fun y19 y20=>tally_nobody_1 y19 y20))).bind fun r21=>
 (tally_book_can (Tally_book.mk (TallyBook.mk r21.TallyBook.Trips r21.TallyBook.Room a0.Counts) r21.more_)).bind fun r29=>
 some (r29,0))
set_option maxRecDepth 100000 in
theorem tally_Right_ok {a0:TallyBook}{A1:Option Addr}{c2:Nat}{w:World}{r:Bool×Int} (H:tally_Right a0=some r) (h3:(rd eTallyCount 7 A1 c2 a0.Counts).ok w) (hg4:(gW2).ok w) (hg5:(gW3).ok w):Calls Tryd.prog 44 #[AG [I a0.Trips,I a0.Room,SL A1 a0.Counts.length c2]] w (RetV w (TU [B r.1,I r.2])):=by
 unfold tally_Right at H
 refine fn_of (n:=14) Tryd.func44 rfl rfl (lE rfl) ?_
 have S:=St.start w nF _ (cA h3 (cA hg4 (cA hg5 nM)))
 refine c_seq<|reg<|p_boxA rfl S fun b6 w7 S8=>p_aB rfl<|p_aI rfl<|wp_nil<|c_seq<|c_seq<|reg<|p_ldA ty24 sz24 (S8.atX (i:=0) rfl) rfl rfl ?_
 obtain ⟨r9,h10,H⟩:=bindS H
 refine p_cv (tally_Check_ok h10 (S8.atP (i:=0) rfl)) fu49 rfl S8 fun w11 S12=>p_aI rfl<|wp_nil<|c_seq<|reg<|p_mI rfl<|p_cmp rfl rfl rfl<|wp_nil ?_
 refine c_cond rfl (fun c13=>?_) (fun c13=>?_)
 ·replace H:=condT c13 H
  refine c_seq<|reg<|p_mI rfl<|p_aB rfl<|p_aI rfl<|wp_nil ?_
  obtain rfl:=sJ H
  refine c_ret ?_; show bodyPostM (Fr none) 0 Tryd.prog Tryd.f44 _ .ret _ _
  refine ret_of (res2 rfl (rvT (rfl:_=B false)) (rvT (rfl:_=I r9))) ?_
  exact ⟨_,rfl,rfl,S12.keep⟩
 ·replace H:=condF c13 H
  refine c_skip<|c_seq ?_
  obtain ⟨r14,h15,H⟩:=bindS H
  refine reg_q mixed 2 (by kernel_rfl) ?_
  refine dS (fun _ k_=>p_ldA ty24 sz24 (aS (S12.atX (i:=0) rfl) k_) rfl rfl dn)<|dS (fun _ k_=>p_cvD (tally_nobody_ok h15) fu74 rfl) ?_
  intro w16 k17; have S18:=S12.call k17
  obtain ⟨r21,h22,H⟩:=bindS H
  refine p_cal (tally_opened_ok h22 (S18.atP (i:=0) rfl) (by kernel_rfl) (fun _ _ _ _ k_ hr_=>tally_nobody_1_ok hr_) (S18.atP (i:=1) rfl)) fu73 rfl ?_
  rintro _ w23 ⟨m25,rfl,k24,⟨o26,n27⟩,_⟩
  have S28:=S18.addNew k24 o26 n27
  obtain ⟨r29,h30,H⟩:=bindS H
  refine p_cv (tally_book_can_ok h30 (S28.atP (i:=0) rfl) (mpo_some (S28.atX (i:=0) rfl)) (S28.atP (i:=2) rfl)) fu75 rfl S28 fun w31 S32=>p_aB rfl<|p_aI rfl<|wp_nil ?_
  obtain rfl:=sJ H
  refine c_ret ?_; show bodyPostM (Fr none) 0 Tryd.prog Tryd.f44 _ .ret _ _
  refine ret_of (res2 rfl (rvT (rfl:_=B r29)) (rvT (rfl:_=I 0))) ?_
  exact ⟨_,rfl,rfl,S32.keep⟩
def B_Member (a0:Int) (a1:Int):Option Bool:=
 need (decide (0≤a1))<|
 some ((andI (shrI a0 a1) 1)==1)
def tally_asked (a0:TallyBook) (a1:Bool):Option (Tally_book×Int):=
 (tally_Check a0).bind fun r12=>
 bif (r12 != 0) then (some ((Tally_book.mk (TallyBook.mk 0 0 ([]:List TallyCount)) ([]:List (Tally_pair×Int))),r12))
 else (bif !a1 then (some ((Tally_book.mk (TallyBook.mk 0 0 ([]:List TallyCount)) ([]:List (Tally_pair×Int))),51))
 else ((tally_nobody).bind fun r22=>
 (tally_opened a0 (Tally_leave.mk (fun y28 y29=>tally_nobody_1 y28 y29))).bind fun r30=>
 (tally_book_can (Tally_book.mk (TallyBook.mk r30.TallyBook.Trips r30.TallyBook.Room a0.Counts) r30.more_)).bind fun r73=>
 bif !r73 then (some ((Tally_book.mk (TallyBook.mk r30.TallyBook.Trips r30.TallyBook.Room a0.Counts) r30.more_),52))
 else (some ((Tally_book.mk (TallyBook.mk r30.TallyBook.Trips r30.TallyBook.Room a0.Counts) r30.more_),0))))
set_option maxRecDepth 100000 in
theorem tally_asked_ok {a0:TallyBook}{a1:Bool}{A1:Option Addr}{c2:Nat}{w:World}{r:Tally_book×Int} (H:tally_asked a0 a1=some r) (h3:(rd eTallyCount 7 A1 c2 a0.Counts).ok w) (hg4:(gW2).ok w) (hg5:(gW3).ok w):Calls Tryd.prog 77 #[AG [I a0.Trips,I a0.Room,SL A1 a0.Counts.length c2],B a1] w fun en w_=>∃ u_,en=.returned u_∧∃ A_1:Option Addr,∃ c_2:Nat,∃ m_3:Option Nat,u_=TU [AG [I r.1.TallyBook.Trips,I r.1.TallyBook.Room,SL A_1 r.1.TallyBook.Counts.length c_2,Value.map m_3],I r.2]∧Keep0 w w_∧((rd eTallyCount 7 A_1 c_2 r.1.TallyBook.Counts).ok w_∧Al w [rd eTallyCount 7 A1 c2 a0.Counts] (rd eTallyCount 7 A_1 c_2 r.1.TallyBook.Counts))∧((mpo ekT iE m_3 r.1.more_).ok w_∧New w.heap.size (mpo ekT iE m_3 r.1.more_))∧True:=by
 unfold tally_asked at H
 refine fn_of (n:=25) Tryd.func77 rfl rfl (lE rfl) ?_
 have S:=St.start w nF _ (cA h3 (cA hg4 (cA hg5 nM)))
 refine c_seq<|reg<|p_boxA rfl S fun b6 w7 S8=>p_allA in116 S8 fun b9 w10 S11=>p_aI rfl<|wp_nil<|c_seq<|c_seq<|reg<|p_ldA ty24 sz24 (S11.atX (i:=1) rfl) rfl rfl ?_
 obtain ⟨r12,h13,H⟩:=bindS H
 refine p_cv (tally_Check_ok h13 (S11.atP (i:=0) rfl)) fu49 rfl S11 fun w14 S15=>p_aI rfl<|wp_nil<|c_seq<|reg<|p_mI rfl<|p_cmp rfl rfl rfl<|wp_nil ?_
 refine c_cond rfl (fun c16=>?_) (fun c16=>?_)
 ·replace H:=condT c16 H
  refine c_seq<|reg<|p_bld (cs:=[I 0,I 0,SL none 0 0,Value.map none]) st116 (rfl:_=[]) (by kernel_rfl)<|p_mI rfl<|p_stP (pre:=[]) (old:=[I 0,I 0,SL none 0 0,Value.map none]) (post:=[]) (vs:=[I 0,I 0,SL none 0 0,Value.map none]) sz116 S15 (i:=0) rfl rfl rfl rfl (rfl:_=AG [I 0,I 0,SL none 0 0,Value.map none]) rfl rfl rfl rfl fun w17 S18=>p_aI rfl<|wp_nil ?_
  obtain rfl:=sJ H
  refine c_ret ?_; show bodyPostM (Fr none) 0 Tryd.prog Tryd.f77 _ .ret _ _
  refine ret_of (res2 rfl (rvA rfl ty116 sz116 (S18.atX (i:=0) rfl) rfl) (rvT (rfl:_=I r12))) ?_
  exact ⟨_,rfl,none,0,none,rfl,S18.keep,⟨rd_nil (Nat.zero_le _),Al.nil⟩,⟨mpo_none,New.mpoN⟩,trivial⟩
 ·replace H:=condF c16 H
  refine c_skip<|c_seq<|c_seq<|reg<|p_mB rfl<|p_not rfl<|wp_nil ?_
  refine c_cond rfl (fun c19=>?_) (fun c19=>?_)
  ·replace H:=condT c19 H
   refine c_seq<|reg<|p_bld (cs:=[I 0,I 0,SL none 0 0,Value.map none]) st116 (rfl:_=[]) (by kernel_rfl)<|p_stP (pre:=[]) (old:=[I 0,I 0,SL none 0 0,Value.map none]) (post:=[]) (vs:=[I 0,I 0,SL none 0 0,Value.map none]) sz116 S15 (i:=0) rfl rfl rfl rfl (rfl:_=AG [I 0,I 0,SL none 0 0,Value.map none]) rfl rfl rfl rfl fun w20 S21=>p_aI rfl<|wp_nil ?_
   obtain rfl:=sJ H
   refine c_ret ?_; show bodyPostM (Fr none) 0 Tryd.prog Tryd.f77 _ .ret _ _
   refine ret_of (res2 rfl (rvA rfl ty116 sz116 (S21.atX (i:=0) rfl) rfl) (rvT (rfl:_=I 51))) ?_
   exact ⟨_,rfl,none,0,none,rfl,S21.keep,⟨rd_nil (Nat.zero_le _),Al.nil⟩,⟨mpo_none,New.mpoN⟩,trivial⟩
  ·replace H:=condF c19 H
   refine c_skip<|c_seq ?_
   obtain ⟨r22,h23,H⟩:=bindS H
   obtain ⟨r30,h31,H⟩:=bindS H
   refine reg_any mixed 4 (by kernel_rfl) [rv (AG [I a0.Trips,I a0.Room,SL A1 a0.Counts.length c2]),rv (AG [vF (.func 97) #[] #[]]),rx (α:=Nat) (fun m34=>AG [I r30.TallyBook.Trips,I r30.TallyBook.Room,SL A1 a0.Counts.length c2,Value.map (some m34)]) (fun m34 lo hi=>BtwL lo hi [] (mp ekT iE m34 r30.more_)∧True) (fun m34=>[mp ekT iE m34 r30.more_]),rx (α:=Nat) (fun b38=>P b38 0) (fun b38 lo hi=>BtwL lo hi [] (bl b38 [I 0,I 0,SL none 0 0,Value.map none] 116)∧True) (fun b38=>[bl b38 [I 0,I 0,SL none 0 0,Value.map none] 116])] [[],[],[],[]] rfl (by kernel_rfl) [[],[],[0,1],[],[0,1,2,3]] (by kernel_rfl) ⟨?_,?_,?_,?_,trivial⟩ ?_
   ·intro e_ w_ k_ hf_ hR_
    have S_:St w_ nF w_ [] [bl b9 [I 0,I 0,SL none 0 0,Value.map none] 116,bl b6 [I a0.Trips,I a0.Room,SL A1 a0.Counts.length c2] 24,rd eTallyCount 7 A1 c2 a0.Counts,gW2,gW3]:=S15.asP k_
    refine hopE [(2,P b6 0)] ⟨((hf_ 2 rfl).trans (rfl:_=P b6 0)),trivial⟩ ?_
    exact p_ldA ty24 sz24 (S_.atP (i:=1) rfl) rfl rfl<|wp_nil ⟨_,rfl,S_.keep,rfl⟩
   ·intro e_ w_ k_ hf_ hR_
    have S_:St w_ nF w_ [] [bl b9 [I 0,I 0,SL none 0 0,Value.map none] 116,bl b6 [I a0.Trips,I a0.Room,SL A1 a0.Counts.length c2] 24,rd eTallyCount 7 A1 c2 a0.Counts,gW2,gW3]:=S15.asP k_
    refine hopE [] trivial ?_
    refine p_cv (tally_nobody_ok h23) fu74 rfl S_ fun w24 S25=>wp_nil ?_
    exact ⟨_,rfl,S25.keep,rfl⟩
   ·intro e_ w_ k_ hf_ hR_
    have S_:St w_ nF w_ [] [bl b9 [I 0,I 0,SL none 0 0,Value.map none] 116,bl b6 [I a0.Trips,I a0.Room,SL A1 a0.Counts.length c2] 24,rd eTallyCount 7 A1 c2 a0.Counts,gW2,gW3]:=S15.asP k_
    refine hopE [(17,AG [I a0.Trips,I a0.Room,SL A1 a0.Counts.length c2]),(18,AG [vF (.func 97) #[] #[]])] ⟨rQ (hR_ 0 17 rfl (lE rfl) rfl),rQ (hR_ 1 18 rfl (lE rfl) rfl),trivial⟩ ?_
    refine p_cal (tally_opened_ok h31 (S_.atP (i:=2) rfl) (by kernel_rfl) (fun _ _ _ _ k_ hr_=>tally_nobody_1_ok hr_) (S_.atP (i:=3) rfl)) fu73 rfl ?_
    rintro _ w32 ⟨m34,rfl,k33,⟨o35,n36⟩,_⟩
    have S37:=S_.addNew k33 o35 n36
    exact wp_nil ⟨_,rfl,S37.keep,⟨m34,rfl,⟨bL (New.al (S37.newX (i:=0) rfl)) rfl (S37.atX (i:=0) rfl) rfl,trivial⟩,(cA (S37.atX (i:=0) rfl) nM)⟩⟩
   ·intro e_ w_ k_ hf_ hR_
    have S_:St w_ nF w_ [] [bl b9 [I 0,I 0,SL none 0 0,Value.map none] 116,bl b6 [I a0.Trips,I a0.Room,SL A1 a0.Counts.length c2] 24,rd eTallyCount 7 A1 c2 a0.Counts,gW2,gW3]:=S15.asP k_
    refine hopE [] trivial ?_
    refine p_allA in116 S_ fun b38 w39 S40=>wp_nil ?_
    exact ⟨_,rfl,S40.keep,⟨b38,rfl,⟨bL (New.al (S40.newX (i:=0) rfl)) rfl (S40.atX (i:=0) rfl) rfl,trivial⟩,(cA (S40.atX (i:=0) rfl) nM)⟩⟩
   intro e41 w42 lo43 hi44 k45 hf46 hR47 hd48
   have S49:=S15.call k45
   have q50:e41 17=AG [I a0.Trips,I a0.Room,SL A1 a0.Counts.length c2]:=(hR47 0 17 (lE rfl) rfl).2.2.2
   have q51:e41 18=AG [vF (.func 97) #[] #[]]:=(hR47 1 18 (lE rfl) rfl).2.2.2
   obtain ⟨h53,h54,h55,m34,q52,h56,h57⟩:=hR47 2 19 (lE rfl) rfl
   replace q52:e41 19=AG [I r30.TallyBook.Trips,I r30.TallyBook.Room,SL A1 a0.Counts.length c2,Value.map (some m34)]:=q52
   obtain ⟨p58,_⟩:=h56
   obtain ⟨h61,h62,h63,b38,q60,h64,h65⟩:=hR47 3 7 (lE rfl) rfl
   replace q60:e41 7=P b38 0:=q60
   obtain ⟨p66,_⟩:=h64
   have S68:=St.addO S49 (h57 _ (.head _)) (oN p58 h53 S15) (oX p58 h53 S15) (oL p58 h53 S15)
   have S69:=St.addO S68 (h65 _ (.head _)) (oN p66 h61 S15) (cA (oP p66 p58 h61 S15 (nM) (hd48 3 2 (lE rfl) (lE rfl) (by decide))) (oX p66 h61 S15)) (oL p66 h61 S15)
   refine tailE [(4,P b9 0),(7,P b38 0),(19,AG [I r30.TallyBook.Trips,I r30.TallyBook.Room,SL A1 a0.Counts.length c2,Value.map (some m34)])] ⟨((hf46 4 rfl).trans (rfl:_=P b9 0)),q60,q52,trivial⟩ ?_
   intro g70
   refine p_stP (pre:=[]) (old:=[I 0,I 0,SL none 0 0,Value.map none]) (post:=[]) (vs:=[I r30.TallyBook.Trips,I r30.TallyBook.Room,SL A1 a0.Counts.length c2,Value.map (some m34)]) sz116 S69 (i:=0) rfl rfl rfl rfl (rfl:_=AG [I r30.TallyBook.Trips,I r30.TallyBook.Room,SL A1 a0.Counts.length c2,Value.map (some m34)]) rfl rfl rfl rfl fun w71 S72=>wp_nil<|c_seq<|c_seq<|reg ?_
   refine p_ldA ty116 sz116 (S72.atX (i:=0) rfl) rfl rfl ?_
   obtain ⟨r73,h74,H⟩:=bindS H
   refine p_cv (tally_book_can_ok h74 (S72.atP (i:=0) rfl) (mpo_some (S72.atX (i:=1) rfl)) (S72.atP (i:=2) rfl)) fu75 rfl S72 fun w75 S76=>p_not rfl<|wp_nil ?_
   refine c_cond rfl (fun c77=>?_) (fun c77=>?_)
   ·replace H:=condT c77 H
    refine c_seq<|reg<|p_ldA ty116 sz116 (S76.atX (i:=0) rfl) rfl rfl ?_
    refine p_stP (pre:=[]) (old:=[I 0,I 0,SL none 0 0,Value.map none]) (post:=[]) (vs:=[I r30.TallyBook.Trips,I r30.TallyBook.Room,SL A1 a0.Counts.length c2,Value.map (some m34)]) sz116 S76 (i:=2) rfl rfl rfl rfl (rfl:_=AG [I r30.TallyBook.Trips,I r30.TallyBook.Room,SL A1 a0.Counts.length c2,Value.map (some m34)]) rfl rfl rfl rfl fun w78 S79=>p_aI rfl<|wp_nil ?_
    obtain rfl:=sJ H
    refine c_ret ?_; show bodyPostM (Fr none) 0 Tryd.prog Tryd.f77 _ .ret _ _
    refine ret_of (res2 rfl (rvA rfl ty116 sz116 (S79.atX (i:=2) rfl) rfl) (rvT (rfl:_=I 52))) ?_
    exact ⟨_,rfl,A1,c2,(some m34),rfl,S79.keep,⟨(S79.atP (i:=0) rfl),Al.self (i:=0) rfl⟩,⟨mpo_some (S79.atX (i:=1) rfl),New.mpoS (S79.newX (i:=1) rfl)⟩,trivial⟩
   ·replace H:=condF c77 H
    refine c_skip<|c_seq<|reg<|p_ldA ty116 sz116 (S76.atX (i:=0) rfl) rfl rfl ?_
    refine p_stP (pre:=[]) (old:=[I 0,I 0,SL none 0 0,Value.map none]) (post:=[]) (vs:=[I r30.TallyBook.Trips,I r30.TallyBook.Room,SL A1 a0.Counts.length c2,Value.map (some m34)]) sz116 S76 (i:=2) rfl rfl rfl rfl (rfl:_=AG [I r30.TallyBook.Trips,I r30.TallyBook.Room,SL A1 a0.Counts.length c2,Value.map (some m34)]) rfl rfl rfl rfl fun w80 S81=>p_aI rfl<|wp_nil ?_
    obtain rfl:=sJ H
    refine c_ret ?_; show bodyPostM (Fr none) 0 Tryd.prog Tryd.f77 _ .ret _ _
    refine ret_of (res2 rfl (rvA rfl ty116 sz116 (S81.atX (i:=2) rfl) rfl) (rvT (rfl:_=I 0))) ?_
    exact ⟨_,rfl,A1,c2,(some m34),rfl,S81.keep,⟨(S81.atP (i:=0) rfl),Al.self (i:=0) rfl⟩,⟨mpo_some (S81.atX (i:=1) rfl),New.mpoS (S81.newX (i:=1) rfl)⟩,trivial⟩
def tally_book_many_j1 (a1:Int) (a2:Int) (r22:(List Int)×Bool) (r13:(List Int)×Bool) (z_1:Unit):Option Span:=
 need (inI a1 9)<|
 need (inI a2 9)<|
 some (Span.mk (wr (-(aget r22.1 a1))) (aget r13.1 a2))
def tally_book_many (a0:Tally_book) (a1:Int) (a2:Int):Option Span:=
 (tally_from a0 a1).bind fun r13=>
 (tally_from a0 a2).bind fun r22=>
 (tally_none).bind fun r31=>
 bif decide (sgl r22.1 9=sgl r31 9) then ((tally_none).bind fun r34=>
 bif decide (sgl r13.1 9=sgl r34 9) then (some (Span.mk 0 0))
 else (tally_book_many_j1 a1 a2 r22 r13 ()))
 else (tally_book_many_j1 a1 a2 r22 r13 ())
set_option maxRecDepth 100000 in
theorem tally_book_many_ok {a0:Tally_book}{a1:Int}{a2:Int}{A1:Option Addr}{c2:Nat}{m4:Option Nat}{w:World}{r:Span} (H:tally_book_many a0 a1 a2=some r) (h3:(rd eTallyCount 7 A1 c2 a0.TallyBook.Counts).ok w) (h5:(mpo ekT iE m4 a0.more_).ok w) (hg6:(gW3).ok w):Calls Tryd.prog 79 #[AG [I a0.TallyBook.Trips,I a0.TallyBook.Room,SL A1 a0.TallyBook.Counts.length c2,Value.map m4],I a1,I a2] w (RetV w (AG [I r.Low,I r.High])):=by
 unfold tally_book_many at H
 refine fn_of (n:=40) Tryd.func79 rfl rfl (lE rfl) ?_
 have S:=St.start w nF _ (cA h3 (cA h5 (cA hg6 nM)))
 refine c_seq<|reg<|p_boxA rfl S fun b7 w8 S9=>p_allA in49 S9 fun b10 w11 S12=>wp_nil<|c_seq<|reg<|p_ldA ty116 sz116 (S12.atX (i:=1) rfl) rfl rfl<|p_mI rfl ?_
 obtain ⟨r13,h14,H⟩:=bindS H
 refine p_cv (tally_from_ok h14 (S12.atP (i:=0) rfl) (S12.atP (i:=1) rfl) (S12.atP (i:=2) rfl)) fu98 rfl S12 fun w15 S16=>p_mT rfl<|p_ext rfl rfl<|p_ext rfl rfl<|p_allA in144 S16 fun b17 w18 S19=>p_stP (pre:=[]) (old:=sg (List.replicate 9 0) 9) (post:=[]) (vs:=sg r13.1 9) sz144 S19 (i:=0) rfl rfl rfl rfl (rfl:_=AG (sg r13.1 9)) rfl rfl rfl rfl fun w20 S21=>p_aB rfl<|wp_nil<|c_seq<|reg ?_
 refine p_ldA ty116 sz116 (S21.atX (i:=2) rfl) rfl rfl<|p_mI rfl ?_
 obtain ⟨r22,h23,H⟩:=bindS H
 refine p_cv (tally_from_ok h23 (S21.atP (i:=0) rfl) (S21.atP (i:=1) rfl) (S21.atP (i:=2) rfl)) fu98 rfl S21 fun w24 S25=>p_mT rfl<|p_ext rfl rfl<|p_ext rfl rfl<|p_allA in144 S25 fun b26 w27 S28=>p_stP (pre:=[]) (old:=sg (List.replicate 9 0) 9) (post:=[]) (vs:=sg r22.1 9) sz144 S28 (i:=0) rfl rfl rfl rfl (rfl:_=AG (sg r22.1 9)) rfl rfl rfl rfl fun w29 S30=>p_aB rfl<|wp_nil ?_
 refine c_join (α:=Unit) (β:=Unit) (fun z_1 y_1=>[(1,I a1),(2,I a2),(6,P b10 0),(7,P b17 0),(9,P b26 0)]) (fun z_1 y_1 w_=>tally_book_many_j1 a1 a2 r22 r13 z_1=some r∧St w nF w_ [bl b26 (sg r22.1 9) 144,bl b17 (sg r13.1 9) 144,bl b10 [I 0,I 0] 49] [rd eTallyCount 7 A1 c2 a0.TallyBook.Counts,mpo ekT iE m4 a0.more_,gW3]) ?_ ?_
 ·refine c_seq ?_
  obtain ⟨r31,h32,H⟩:=bindS H
  rcases bE (decide (sgl r22.1 9=sgl r31 9)) with c33 | c33
  ·replace H:=condT c33 H
   obtain ⟨r34,h35,H⟩:=bindS H
   refine reg_q mixed 8 (by kernel_rfl) ?_
   refine dS (fun _ k_=>p_ldA ty144 sz144 (aS (S30.atX (i:=0) rfl) k_) rfl rfl dn)<|dS (fun _ k_=>p_cvD (tally_none_ok h32) fu99 rfl)<|dS (fun _ k_=>p_eqS (m:=9) eq144 rfl rfl dn)<|dS (fun _ k_=>p_mB rfl dn)<|dB c33<|dS (fun _ k_=>gT rfl rfl (p_ldA ty144 sz144 (aS (S30.atX (i:=1) rfl) k_) rfl rfl dn))<|dS (fun _ k_=>gT rfl rfl (p_cvD (tally_none_ok h35) fu99 rfl)) ?_
   refine dS (fun _ k_=>gT rfl rfl (p_eqS (m:=9) eq144 rfl rfl dn))<|dS (fun _ k_=>p_pkT rfl (rfl:_=B (decide (sgl r13.1 9=sgl r34 9))) dn) ?_
   intro w36 k37; have S38:=S30.call k37
   refine wp_nil ?_
   refine c_cond rfl (fun c39=>?_) (fun c39=>?_)
   ·replace H:=condT c39 H
    refine c_seq<|reg<|p_bld (cs:=[I 0,I 0]) st49 (rfl:_=[]) (by kernel_rfl)<|p_stP (pre:=[]) (old:=[I 0,I 0]) (post:=[]) (vs:=[I 0,I 0]) sz49 S38 (i:=2) rfl rfl rfl rfl (rfl:_=AG [I 0,I 0]) rfl rfl rfl rfl fun w40 S41=>wp_nil ?_
    obtain rfl:=sJ H
    refine c_ret ?_; show bodyPostM (Fr none) 0 Tryd.prog Tryd.f79 _ .ret _ _
    refine ret_of (res1 rfl (rvA rfl ty49 sz49 (S41.atX (i:=2) rfl) rfl)) ?_
    exact ⟨_,rfl,rfl,S41.keep⟩
   ·replace H:=condF c39 H
    refine c_skip ?_
    have S42:=S38.pk [0,1,2] (by decide) [0,1,2] rfl rfl
    exact ⟨(),(),_,rfl,⟨rfl,rfl,rfl,rfl,rfl,trivial⟩,H,S42⟩
  ·replace H:=condF c33 H
   refine reg_q mixed 8 (by kernel_rfl) ?_
   refine dS (fun _ k_=>p_ldA ty144 sz144 (aS (S30.atX (i:=0) rfl) k_) rfl rfl dn)<|dS (fun _ k_=>p_cvD (tally_none_ok h32) fu99 rfl)<|dS (fun _ k_=>p_eqS (m:=9) eq144 rfl rfl dn)<|dS (fun _ k_=>p_mB rfl dn)<|dB c33<|dF rfl rfl<|dF rfl rfl<|dF rfl rfl<|dS (fun _ k_=>p_pkF rfl (rfl:_=B false) dn) ?_
   intro w42 k43; have S44:=S30.call k43
   refine wp_nil<|c_false rfl<|c_skip ?_
   have S45:=S44.pk [0,1,2] (by decide) [0,1,2] rfl rfl
   exact ⟨(),(),_,rfl,⟨rfl,rfl,rfl,rfl,rfl,trivial⟩,H,S45⟩
 ·intro z_1 y_1 e31 w32 S33; obtain ⟨H,S33⟩:=S33
  unfold tally_book_many_j1 at H
  refine c_seq ?_
  obtain ⟨h34,H⟩:=needS H
  obtain ⟨h35,H⟩:=needS H
  refine reg_q mixed 8 (by kernel_rfl) ?_
  refine dS (fun _ k_=>p_mI rfl dn)<|dS (fun _ k_=>p_ixD ar144 h34 rfl rfl dn)<|dS (fun _ k_=>p_ldD (pre:=[]) (post:=[]) ty3 (aS (S33.atX (i:=0) rfl) k_) rfl h34 rfl rfl dn)<|dS (fun _ k_=>p_neg rfl dn)<|dS (fun _ k_=>p_mI rfl dn)<|dS (fun _ k_=>p_ixD ar144 h35 rfl rfl dn)<|dS (fun _ k_=>p_ldD (pre:=[]) (post:=[]) ty3 (aS (S33.atX (i:=1) rfl) k_) rfl h35 rfl rfl dn) ?_
  refine dS (fun _ k_=>p_bld (cs:=[I (wr (-(aget r22.1 a1))),I (aget r13.1 a2)]) st49 (rfl:_=[(0,I (wr (-(aget r22.1 a1)))),(1,I (aget r13.1 a2))]) (by kernel_rfl) dn) ?_
  intro w36 k37; have S38:=S33.call k37
  refine p_stP (pre:=[]) (old:=[I 0,I 0]) (post:=[]) (vs:=[I (wr (-(aget r22.1 a1))),I (aget r13.1 a2)]) sz49 S38 (i:=2) rfl rfl rfl rfl (rfl:_=AG [I (wr (-(aget r22.1 a1))),I (aget r13.1 a2)]) rfl rfl rfl rfl fun w39 S40=>wp_nil ?_
  obtain rfl:=sJ H
  refine c_ret ?_; show bodyPostM (Fr none) 0 Tryd.prog Tryd.f79 _ .ret _ _
  refine ret_of (res1 rfl (rvA rfl ty49 sz49 (S40.atX (i:=2) rfl) rfl)) ?_
  exact ⟨_,rfl,rfl,S40.keep⟩
def tally_Many (a0:TallyBook) (a1:Int) (a2:Int):Option (Span×Int):=
 (tally_isTrips a0 a1 a2).bind fun r15=>
 (tally_asked a0 r15).bind fun r21=>
 bif (r21.2 != 0) then (some ((Span.mk 0 0),r21.2))
 else ((tally_book_many r21.1 a1 (wr (a2+1))).bind fun r89=>
 some (r89,0))
set_option maxRecDepth 100000 in
theorem tally_Many_ok {a0:TallyBook}{a1:Int}{a2:Int}{A1:Option Addr}{c2:Nat}{w:World}{r:Span×Int} (H:tally_Many a0 a1 a2=some r) (h3:(rd eTallyCount 7 A1 c2 a0.Counts).ok w) (hg4:(gW2).ok w) (hg5:(gW3).ok w):Calls Tryd.prog 48 #[AG [I a0.Trips,I a0.Room,SL A1 a0.Counts.length c2],I a1,I a2] w (RetV w (TU [AG [I r.1.Low,I r.1.High],I r.2])):=by
 unfold tally_Many at H
 refine fn_of (n:=28) Tryd.func48 rfl rfl (lE rfl) ?_
 have S:=St.start w nF _ (cA h3 (cA hg4 (cA hg5 nM)))
 refine c_seq<|reg<|p_boxA rfl S fun b6 w7 S8=>p_allA in49 S8 fun b9 w10 S11=>p_aI rfl<|wp_nil<|c_seq ?_
 obtain ⟨r15,h16,H⟩:=bindS H
 obtain ⟨r21,h22,H⟩:=bindS H
 refine reg_fl mixed 10 8 (by kernel_rfl) [rv (AG [I a0.Trips,I a0.Room,SL A1 a0.Counts.length c2]),rv (AG [I a0.Trips,I a0.Room,SL A1 a0.Counts.length c2]),rv (I a1),rv (I a2),rv (B r15),rx (α:=(Option Addr)×Nat×(Option Nat)) (fun ⟨A25,c26,m27⟩=>TU [AG [I r21.1.TallyBook.Trips,I r21.1.TallyBook.Room,SL A25 r21.1.TallyBook.Counts.length c26,Value.map m27],I r21.2]) (fun ⟨A25,c26,m27⟩ lo hi=>BtwL lo hi [rd eTallyCount 7 A1 c2 a0.Counts] (rd eTallyCount 7 A25 c26 r21.1.TallyBook.Counts)∧BtwL lo hi [] (mpo ekT iE m27 r21.1.more_)∧True) (fun ⟨A25,c26,m27⟩=>[rd eTallyCount 7 A25 c26 r21.1.TallyBook.Counts,mpo ekT iE m27 r21.1.more_]),dv 16 some,dv 10 (exG 0),dv 10 (exG 1),rx (α:=Nat) (fun b44=>P b44 0) (fun b44 lo hi=>BtwL lo hi [] (bl b44 [I 0,I 0,SL none 0 0,Value.map none] 116)∧True) (fun b44=>[bl b44 [I 0,I 0,SL none 0 0,Value.map none] 116])] [[],[],[],[],[],[],[16],[10],[10],[]] rfl (by kernel_rfl) [[],[],[],[],[1,2,3],[0,1,2,3,4],[0,1,2,3,4,5],[0,1,2,3,4,5,6],[0,1,2,3,4,5,6],[],[0,1,2,3,4,5,6,7,9],[0,1,2,3,4,5,6,7,8,9,10]] (by kernel_rfl) ⟨?_,?_,?_,?_,?_,?_,?_,?_,?_,?_,trivial⟩ ?_ ?_
 ·intro e_ w_ k_ hf_ hR_
  have S_:St w_ nF w_ [] [bl b9 [I 0,I 0] 49,bl b6 [I a0.Trips,I a0.Room,SL A1 a0.Counts.length c2] 24,rd eTallyCount 7 A1 c2 a0.Counts,gW2,gW3]:=S11.asP k_
  refine hopE [(3,P b6 0)] ⟨((hf_ 3 rfl).trans (rfl:_=P b6 0)),trivial⟩ ?_
  exact p_ldA ty24 sz24 (S_.atP (i:=1) rfl) rfl rfl<|wp_nil ⟨_,rfl,S_.keep,rfl⟩
 ·intro e_ w_ k_ hf_ hR_
  have S_:St w_ nF w_ [] [bl b9 [I 0,I 0] 49,bl b6 [I a0.Trips,I a0.Room,SL A1 a0.Counts.length c2] 24,rd eTallyCount 7 A1 c2 a0.Counts,gW2,gW3]:=S11.asP k_
  refine hopE [(3,P b6 0)] ⟨((hf_ 3 rfl).trans (rfl:_=P b6 0)),trivial⟩ ?_
  exact p_ldA ty24 sz24 (S_.atP (i:=1) rfl) rfl rfl<|wp_nil ⟨_,rfl,S_.keep,rfl⟩
 ·intro e_ w_ k_ hf_ hR_
  have S_:St w_ nF w_ [] [bl b9 [I 0,I 0] 49,bl b6 [I a0.Trips,I a0.Room,SL A1 a0.Counts.length c2] 24,rd eTallyCount 7 A1 c2 a0.Counts,gW2,gW3]:=S11.asP k_
  refine hopE [(1,I a1)] ⟨((hf_ 1 rfl).trans (rfl:_=I a1)),trivial⟩ ?_
  exact p_mI rfl<|wp_nil ⟨_,rfl,S_.keep,rfl⟩
 ·intro e_ w_ k_ hf_ hR_
  have S_:St w_ nF w_ [] [bl b9 [I 0,I 0] 49,bl b6 [I a0.Trips,I a0.Room,SL A1 a0.Counts.length c2] 24,rd eTallyCount 7 A1 c2 a0.Counts,gW2,gW3]:=S11.asP k_
  refine hopE [(2,I a2)] ⟨((hf_ 2 rfl).trans (rfl:_=I a2)),trivial⟩ ?_
  exact p_mI rfl<|wp_nil ⟨_,rfl,S_.keep,rfl⟩
 ·intro e_ w_ k_ hf_ hR_
  have S_:St w_ nF w_ [] [bl b9 [I 0,I 0] 49,bl b6 [I a0.Trips,I a0.Room,SL A1 a0.Counts.length c2] 24,rd eTallyCount 7 A1 c2 a0.Counts,gW2,gW3]:=S11.asP k_
  refine hopE [(12,AG [I a0.Trips,I a0.Room,SL A1 a0.Counts.length c2]),(13,I a1),(14,I a2)] ⟨rQ (hR_ 1 12 rfl (lE rfl) rfl),rQ (hR_ 2 13 rfl (lE rfl) rfl),rQ (hR_ 3 14 rfl (lE rfl) rfl),trivial⟩ ?_
  refine p_cv (tally_isTrips_ok h16 (S_.atP (i:=2) rfl)) fu78 rfl S_ fun w17 S18=>wp_nil ?_
  exact ⟨_,rfl,S18.keep,rfl⟩
 ·intro e_ w_ k_ hf_ hR_
  have S_:St w_ nF w_ [] [bl b9 [I 0,I 0] 49,bl b6 [I a0.Trips,I a0.Room,SL A1 a0.Counts.length c2] 24,rd eTallyCount 7 A1 c2 a0.Counts,gW2,gW3]:=S11.asP k_
  refine hopE [(11,AG [I a0.Trips,I a0.Room,SL A1 a0.Counts.length c2]),(15,B r15)] ⟨rQ (hR_ 0 11 rfl (lE rfl) rfl),rQ (hR_ 4 15 rfl (lE rfl) rfl),trivial⟩ ?_
  refine p_cal (tally_asked_ok h22 (S_.atP (i:=2) rfl) (S_.atP (i:=3) rfl) (S_.atP (i:=4) rfl)) fu77 rfl ?_
  rintro _ w23 ⟨A25,c26,m27,rfl,k24,⟨o28,n29⟩,⟨o30,n31⟩,_⟩
  have S32:=S_.callN k24 [rd eTallyCount 7 A25 c26 r21.1.TallyBook.Counts,mpo ekT iE m27 r21.1.more_] (cA ⟨o28,Al.inL n29 ((cA (fp_mem (i:=2) rfl) nM))⟩ (cA ⟨o30,New.inL n31⟩ nM))
  exact wp_nil ⟨_,rfl,S32.keep,⟨(A25,c26,m27),rfl,⟨bL n29 rfl (S32.atP (i:=0) rfl) rfl,bL (New.al (New.mono n31 S_.keep.size)) rfl (S32.atP (i:=1) rfl) rfl,trivial⟩,(cA (S32.atP (i:=0) rfl) (cA (S32.atP (i:=1) rfl) nM))⟩⟩
 ·intro e_ w_ k_ hf_ hR_
  have S_:St w_ nF w_ [] [bl b9 [I 0,I 0] 49,bl b6 [I a0.Trips,I a0.Room,SL A1 a0.Counts.length c2] 24,rd eTallyCount 7 A1 c2 a0.Counts,gW2,gW3]:=S11.asP k_
  obtain ⟨_,_,_,_,⟨A25,c26,m27⟩,q33,p34,a35⟩:=hR_ 5 16 rfl (lE rfl) rfl
  replace q33:e_ 16=TU [AG [I r21.1.TallyBook.Trips,I r21.1.TallyBook.Room,SL A25 r21.1.TallyBook.Counts.length c26,Value.map m27],I r21.2]:=q33
  have S_:=St.addL' S_ (a35 _ (.head _)) (fun _ _ _ h_=>(nE h_))
  have S_:=St.addL' S_ (a35 _ (.tail _ (.head _))) (fun _ _ _ h_=>(nE h_))
  refine hopE [(16,TU [AG [I r21.1.TallyBook.Trips,I r21.1.TallyBook.Room,SL A25 r21.1.TallyBook.Counts.length c26,Value.map m27],I r21.2])] ⟨q33,trivial⟩ ?_
  refine p_mT rfl<|wp_nil ?_
  exact ⟨_,rfl,S_.keep,rfl⟩
 ·intro e_ w_ k_ hf_ hR_
  have S_:St w_ nF w_ [] [bl b9 [I 0,I 0] 49,bl b6 [I a0.Trips,I a0.Room,SL A1 a0.Counts.length c2] 24,rd eTallyCount 7 A1 c2 a0.Counts,gW2,gW3]:=S11.asP k_
  obtain ⟨_,_,_,_,⟨A25,c26,m27⟩,q37,p38,a39⟩:=hR_ 5 16 rfl (lE rfl) rfl
  replace q37:e_ 16=TU [AG [I r21.1.TallyBook.Trips,I r21.1.TallyBook.Room,SL A25 r21.1.TallyBook.Counts.length c26,Value.map m27],I r21.2]:=q37
  have S_:=St.addL' S_ (a39 _ (.head _)) (fun _ _ _ h_=>(nE h_))
  have S_:=St.addL' S_ (a39 _ (.tail _ (.head _))) (fun _ _ _ h_=>(nE h_))
  obtain ⟨_,_,_,_,q36⟩:=hR_ 6 10 rfl (lE rfl) rfl
  replace q36:e_ 10=TU [AG [I r21.1.TallyBook.Trips,I r21.1.TallyBook.Room,SL A25 r21.1.TallyBook.Counts.length c26,Value.map m27],I r21.2]:=(sJ ((congrArg some q37).symm.trans q36)).symm
  refine hopE [(10,TU [AG [I r21.1.TallyBook.Trips,I r21.1.TallyBook.Room,SL A25 r21.1.TallyBook.Counts.length c26,Value.map m27],I r21.2])] ⟨q36,trivial⟩ ?_
  refine p_ext rfl rfl<|wp_nil ?_
  exact ⟨_,rfl,S_.keep,rfl⟩
 ·intro e_ w_ k_ hf_ hR_
  have S_:St w_ nF w_ [] [bl b9 [I 0,I 0] 49,bl b6 [I a0.Trips,I a0.Room,SL A1 a0.Counts.length c2] 24,rd eTallyCount 7 A1 c2 a0.Counts,gW2,gW3]:=S11.asP k_
  obtain ⟨_,_,_,_,⟨A25,c26,m27⟩,q41,p42,a43⟩:=hR_ 5 16 rfl (lE rfl) rfl
  replace q41:e_ 16=TU [AG [I r21.1.TallyBook.Trips,I r21.1.TallyBook.Room,SL A25 r21.1.TallyBook.Counts.length c26,Value.map m27],I r21.2]:=q41
  have S_:=St.addL' S_ (a43 _ (.head _)) (fun _ _ _ h_=>(nE h_))
  have S_:=St.addL' S_ (a43 _ (.tail _ (.head _))) (fun _ _ _ h_=>(nE h_))
  obtain ⟨_,_,_,_,q40⟩:=hR_ 6 10 rfl (lE rfl) rfl
  replace q40:e_ 10=TU [AG [I r21.1.TallyBook.Trips,I r21.1.TallyBook.Room,SL A25 r21.1.TallyBook.Counts.length c26,Value.map m27],I r21.2]:=(sJ ((congrArg some q41).symm.trans q40)).symm
  refine hopE [(10,TU [AG [I r21.1.TallyBook.Trips,I r21.1.TallyBook.Room,SL A25 r21.1.TallyBook.Counts.length c26,Value.map m27],I r21.2])] ⟨q40,trivial⟩ ?_
  refine p_ext rfl rfl<|wp_nil ?_
  exact ⟨_,rfl,S_.keep,rfl⟩
 ·intro e_ w_ k_ hf_ hR_
  have S_:St w_ nF w_ [] [bl b9 [I 0,I 0] 49,bl b6 [I a0.Trips,I a0.Room,SL A1 a0.Counts.length c2] 24,rd eTallyCount 7 A1 c2 a0.Counts,gW2,gW3]:=S11.asP k_
  refine hopE [] trivial ?_
  refine p_allA in116 S_ fun b44 w45 S46=>wp_nil ?_
  exact ⟨_,rfl,S46.keep,⟨b44,rfl,⟨bL (New.al (S46.newX (i:=0) rfl)) rfl (S46.atX (i:=0) rfl) rfl,trivial⟩,(cA (S46.atX (i:=0) rfl) nM)⟩⟩
 ·intro e47 w48 lo49 hi50 k51 hf52 hR53 hd54
  have S55:=S11.call k51
  have q56:e47 11=AG [I a0.Trips,I a0.Room,SL A1 a0.Counts.length c2]:=(hR53 0 11 (lE rfl) rfl).2.2.2
  have q57:e47 12=AG [I a0.Trips,I a0.Room,SL A1 a0.Counts.length c2]:=(hR53 1 12 (lE rfl) rfl).2.2.2
  have q58:e47 13=I a1:=(hR53 2 13 (lE rfl) rfl).2.2.2
  have q59:e47 14=I a2:=(hR53 3 14 (lE rfl) rfl).2.2.2
  have q60:e47 15=B r15:=(hR53 4 15 (lE rfl) rfl).2.2.2
  obtain ⟨h62,h63,h64,⟨A25,c26,m27⟩,q61,h65,h66⟩:=hR53 5 16 (lE rfl) rfl
  replace q61:e47 16=TU [AG [I r21.1.TallyBook.Trips,I r21.1.TallyBook.Room,SL A25 r21.1.TallyBook.Counts.length c26,Value.map m27],I r21.2]:=q61
  obtain ⟨p67,p68,_⟩:=h65
  have S69:=St.addR S55 (h66 _ (.head _)) (oR p67 h62 S11 (mG [0] rfl))
  have S70:=St.addR S69 (h66 _ (.tail _ (.head _))) (oR p68 h62 S11 (nM))
  have q71:e47 10=TU [AG [I r21.1.TallyBook.Trips,I r21.1.TallyBook.Room,SL A25 r21.1.TallyBook.Counts.length c26,Value.map m27],I r21.2]:=(sJ ((congrArg some q61).symm.trans (hR53 6 10 (lE rfl) rfl).2.2.2)).symm
  have q72:e47 17=AG [I r21.1.TallyBook.Trips,I r21.1.TallyBook.Room,SL A25 r21.1.TallyBook.Counts.length c26,Value.map m27]:=(sJ ((congrArg (exG 0) q71).symm.trans (hR53 7 17 (lE rfl) rfl).2.2.2)).symm
  have q73:e47 18=I r21.2:=(sJ ((congrArg (exG 1) q71).symm.trans (hR53 8 18 (lE rfl) rfl).2.2.2)).symm
  obtain ⟨h75,h76,h77,b44,q74,h78,h79⟩:=hR53 9 8 (lE rfl) rfl
  replace q74:e47 8=P b44 0:=q74
  obtain ⟨p80,_⟩:=h78
  have S82:=St.addO S70 (h79 _ (.head _)) (oN p80 h75 S11) (oX p80 h75 S11) (cA (oP p80 p68 h75 S11 (nM) (hd54 9 5 (lE rfl) (lE rfl) (by decide))) (cA (oP p80 p67 h75 S11 (mG [0] rfl) (hd54 9 5 (lE rfl) (lE rfl) (by decide))) (oL p80 h75 S11)))
  refine tailE [(1,I a1),(2,I a2),(6,P b9 0),(8,P b44 0),(17,AG [I r21.1.TallyBook.Trips,I r21.1.TallyBook.Room,SL A25 r21.1.TallyBook.Counts.length c26,Value.map m27]),(18,I r21.2)] ⟨((hf52 1 rfl).trans (rfl:_=I a1)),((hf52 2 rfl).trans (rfl:_=I a2)),((hf52 6 rfl).trans (rfl:_=P b9 0)),q74,q72,q73,trivial⟩ ?_
  intro g83
  refine p_stP (pre:=[]) (old:=[I 0,I 0,SL none 0 0,Value.map none]) (post:=[]) (vs:=[I r21.1.TallyBook.Trips,I r21.1.TallyBook.Room,SL A25 r21.1.TallyBook.Counts.length c26,Value.map m27]) sz116 S82 (i:=0) rfl rfl rfl rfl (rfl:_=AG [I r21.1.TallyBook.Trips,I r21.1.TallyBook.Room,SL A25 r21.1.TallyBook.Counts.length c26,Value.map m27]) rfl rfl rfl rfl fun w84 S85=>p_aI rfl<|wp_nil ?_
  refine c_seq<|c_seq<|reg<|p_mI rfl<|p_cmp rfl rfl rfl<|wp_nil ?_
  refine c_cond rfl (fun c86=>?_) (fun c86=>?_)
  ·replace H:=condT c86 H
   refine c_seq<|reg<|p_bld (cs:=[I 0,I 0]) st49 (rfl:_=[]) (by kernel_rfl)<|p_mI rfl<|p_stP (pre:=[]) (old:=[I 0,I 0]) (post:=[]) (vs:=[I 0,I 0]) sz49 S85 (i:=1) rfl rfl rfl rfl (rfl:_=AG [I 0,I 0]) rfl rfl rfl rfl fun w87 S88=>p_aI rfl<|wp_nil ?_
   obtain rfl:=sJ H
   refine c_ret ?_; show bodyPostM (Fr none) 0 Tryd.prog Tryd.f48 _ .ret _ _
   refine ret_of (res2 rfl (rvA rfl ty49 sz49 (S88.atX (i:=1) rfl) rfl) (rvT (rfl:_=I r21.2))) ?_
   exact ⟨_,rfl,rfl,S88.keep⟩
  ·replace H:=condF c86 H
   refine c_skip<|c_seq<|reg<|p_ldA ty116 sz116 (S85.atX (i:=0) rfl) rfl rfl<|p_mI rfl<|p_mI rfl<|p_add rfl rfl ?_
   obtain ⟨r89,h90,H⟩:=bindS H
   refine p_cv (tally_book_many_ok h90 (S85.atP (i:=1) rfl) (S85.atP (i:=0) rfl) (S85.atP (i:=4) rfl)) fu79 rfl S85 fun w91 S92=>p_stP (pre:=[]) (old:=[I 0,I 0]) (post:=[]) (vs:=[I r89.Low,I r89.High]) sz49 S92 (i:=1) rfl rfl rfl rfl (rfl:_=AG [I r89.Low,I r89.High]) rfl rfl rfl rfl fun w93 S94=>p_aI rfl<|wp_nil ?_
   obtain rfl:=sJ H
   refine c_ret ?_; show bodyPostM (Fr none) 0 Tryd.prog Tryd.f48 _ .ret _ _
   refine ret_of (res2 rfl (rvA rfl ty49 sz49 (S94.atX (i:=1) rfl) rfl) (rvT (rfl:_=I 0))) ?_
   exact ⟨_,rfl,rfl,S94.keep⟩
 ·intro e95 w96 lo97 hi98 k99 hf100 hR101 hd102
  have S103:=S11.call k99
  have q104:e95 11=AG [I a0.Trips,I a0.Room,SL A1 a0.Counts.length c2]:=(hR101 0 11 (lE rfl) (by decide) rfl).2.2.2
  have q105:e95 12=AG [I a0.Trips,I a0.Room,SL A1 a0.Counts.length c2]:=(hR101 1 12 (lE rfl) (by decide) rfl).2.2.2
  have q106:e95 13=I a1:=(hR101 2 13 (lE rfl) (by decide) rfl).2.2.2
  have q107:e95 14=I a2:=(hR101 3 14 (lE rfl) (by decide) rfl).2.2.2
  have q108:e95 15=B r15:=(hR101 4 15 (lE rfl) (by decide) rfl).2.2.2
  obtain ⟨h110,h111,h112,⟨A25,c26,m27⟩,q109,h113,h114⟩:=hR101 5 16 (lE rfl) (by decide) rfl
  replace q109:e95 16=TU [AG [I r21.1.TallyBook.Trips,I r21.1.TallyBook.Room,SL A25 r21.1.TallyBook.Counts.length c26,Value.map m27],I r21.2]:=q109
  obtain ⟨p115,p116,_⟩:=h113
  have S117:=St.addR S103 (h114 _ (.head _)) (oR p115 h110 S11 (mG [0] rfl))
  have S118:=St.addR S117 (h114 _ (.tail _ (.head _))) (oR p116 h110 S11 (nM))
  have q119:e95 10=TU [AG [I r21.1.TallyBook.Trips,I r21.1.TallyBook.Room,SL A25 r21.1.TallyBook.Counts.length c26,Value.map m27],I r21.2]:=(sJ ((congrArg some q109).symm.trans (hR101 6 10 (lE rfl) (by decide) rfl).2.2.2)).symm
  have q120:e95 17=AG [I r21.1.TallyBook.Trips,I r21.1.TallyBook.Room,SL A25 r21.1.TallyBook.Counts.length c26,Value.map m27]:=(sJ ((congrArg (exG 0) q119).symm.trans (hR101 7 17 (lE rfl) (by decide) rfl).2.2.2)).symm
  obtain ⟨h122,h123,h124,b44,q121,h125,h126⟩:=hR101 9 8 (lE rfl) (by decide) rfl
  replace q121:e95 8=P b44 0:=q121
  obtain ⟨p127,_⟩:=h125
  have S129:=St.addO S118 (h126 _ (.head _)) (oN p127 h122 S11) (oX p127 h122 S11) (cA (oP p127 p116 h122 S11 (nM) (hd102 9 5 (lE rfl) (lE rfl) (by decide) (by decide) (by decide))) (cA (oP p127 p115 h122 S11 (mG [0] rfl) (hd102 9 5 (lE rfl) (lE rfl) (by decide) (by decide) (by decide))) (oL p127 h122 S11)))
  refine tailE [(1,I a1),(2,I a2),(6,P b9 0),(8,P b44 0),(10,TU [AG [I r21.1.TallyBook.Trips,I r21.1.TallyBook.Room,SL A25 r21.1.TallyBook.Counts.length c26,Value.map m27],I r21.2]),(17,AG [I r21.1.TallyBook.Trips,I r21.1.TallyBook.Room,SL A25 r21.1.TallyBook.Counts.length c26,Value.map m27])] ⟨((hf100 1 rfl).trans (rfl:_=I a1)),((hf100 2 rfl).trans (rfl:_=I a2)),((hf100 6 rfl).trans (rfl:_=P b9 0)),q121,q119,q120,trivial⟩ ?_
  intro g130
  refine p_stP (pre:=[]) (old:=[I 0,I 0,SL none 0 0,Value.map none]) (post:=[]) (vs:=[I r21.1.TallyBook.Trips,I r21.1.TallyBook.Room,SL A25 r21.1.TallyBook.Counts.length c26,Value.map m27]) sz116 S129 (i:=0) rfl rfl rfl rfl (rfl:_=AG [I r21.1.TallyBook.Trips,I r21.1.TallyBook.Room,SL A25 r21.1.TallyBook.Counts.length c26,Value.map m27]) rfl rfl rfl rfl fun w131 S132=>p_ext rfl rfl ?_
  refine p_aI rfl<|wp_nil<|c_seq<|c_seq<|reg<|p_mI rfl<|p_cmp rfl rfl rfl<|wp_nil ?_
  refine c_cond rfl (fun c133=>?_) (fun c133=>?_)
  ·replace H:=condT c133 H
   refine c_seq<|reg<|p_bld (cs:=[I 0,I 0]) st49 (rfl:_=[]) (by kernel_rfl)<|p_mI rfl<|p_stP (pre:=[]) (old:=[I 0,I 0]) (post:=[]) (vs:=[I 0,I 0]) sz49 S132 (i:=1) rfl rfl rfl rfl (rfl:_=AG [I 0,I 0]) rfl rfl rfl rfl fun w134 S135=>p_aI rfl<|wp_nil ?_
   obtain rfl:=sJ H
   refine c_ret ?_; show bodyPostM (Fr none) 0 Tryd.prog Tryd.f48 _ .ret _ _
   refine ret_of (res2 rfl (rvA rfl ty49 sz49 (S135.atX (i:=1) rfl) rfl) (rvT (rfl:_=I r21.2))) ?_
   exact ⟨_,rfl,rfl,S135.keep⟩
  ·replace H:=condF c133 H
   refine c_skip<|c_seq<|reg<|p_ldA ty116 sz116 (S132.atX (i:=0) rfl) rfl rfl<|p_mI rfl<|p_mI rfl<|p_add rfl rfl ?_
   obtain ⟨r136,h137,H⟩:=bindS H
   refine p_cv (tally_book_many_ok h137 (S132.atP (i:=1) rfl) (S132.atP (i:=0) rfl) (S132.atP (i:=4) rfl)) fu79 rfl S132 fun w138 S139=>p_stP (pre:=[]) (old:=[I 0,I 0]) (post:=[]) (vs:=[I r136.Low,I r136.High]) sz49 S139 (i:=1) rfl rfl rfl rfl (rfl:_=AG [I r136.Low,I r136.High]) rfl rfl rfl rfl fun w140 S141=>p_aI rfl<|wp_nil ?_
   obtain rfl:=sJ H
   refine c_ret ?_; show bodyPostM (Fr none) 0 Tryd.prog Tryd.f48 _ .ret _ _
   refine ret_of (res2 rfl (rvA rfl ty49 sz49 (S141.atX (i:=1) rfl) rfl) (rvT (rfl:_=I 0))) ?_
   exact ⟨_,rfl,rfl,S141.keep⟩
end Go.Proofs.YtafhljljfglfeaaDoor
namespace Go.Fx
open Go Go.ChangeShapes Go.WideShapes Go.ChangeAt Go.RowKit
section
variable {H:Type}{enc:TypeId×Value→H}{P:Program}
theorem Keep.kept {w w' :World} (k:Keep0 w w') (may:MemPlace→Prop):w.keptBut w' may:=by
 refine ⟨k.os,k.output,fun i hi=>?_⟩
 have:=k.block i hi (fun x=>x)
 rw [this]
 cases w.heap[i]? with
 | none=>rfl
 | some o=>cases o <;> first | exact ⟨rfl,rfl,rfl,fun _ _=>rfl⟩ | exact .inr ⟨rfl,rfl⟩ | rfl
theorem Keep.same {w w' :World} (k:Keep0 w w') {p:MemPlace} (hp:p.block < w.heap.size):w.sameAt w' p:=by
 cases p with
 | cell b off=>
   have:=k.block b hp (fun x=>x)
   exact World.cell?_of_block (w:=w) this
 | map b=>exact k.block b hp (fun x=>x)
theorem trodAll_stays (hl:laidOutB P=true) {W W' :World}{sp' :Nat→Bool}:∀ {ts:List TypeId}{vs:List Value}{ds:List (DataW H)}{ps:List MemPlace},
 (∀ t∈ts,P.readableRec t=true∧t < P.types.size)→DataW.TrodAll enc P W 0 (fun _=>true) true ts vs ds ps→(∀ p∈ps,W.sameAt W' p)→(∀ p∈ps,sp' p.block=true)→DataW.TrodAll enc P W' 0 sp' true ts vs ds ps
 | [],[],[],_,_,h,_,_=>h
 | t::ts,v::vs,d::ds,ps,ht,⟨p,q,h1,h2,e⟩,hs,hb=>by
   subst e
   exact ⟨p,q,WideElems.Trod_stays hl (ht t (List.mem_cons_self ..)).1 (ht t (List.mem_cons_self ..)).2 h1 (fun x hx=>hs x (List.mem_append_left _ hx)) (fun x hx=>hb x (List.mem_append_left _ hx)),
    trodAll_stays hl (fun t ht' =>ht t (List.mem_cons_of_mem _ ht')) h2 (fun x hx=>hs x (List.mem_append_right _ hx)) (fun x hx=>hb x (List.mem_append_right _ hx)),rfl⟩
 | [],_::_,_,_,_,h,_,_=>by cases ‹List (DataW H)› <;> exact h.elim
 | [],[],_::_,_,_,h,_,_=>h.elim
 | _::_,[],_,_,_,h,_,_=>by cases ‹List (DataW H)› <;> exact h.elim
 | _::_,_::_,[],_,_,h,_,_=>h.elim
theorem law_post {fn:Func}{spec:ChangeSpec}{W W' :World}{args:Array Value}{ds gs:List (DataW H)}{before:List MemPlace}{tb:TypeId}
 (hW:DataW.Whole enc P fn.params.toList spec.vars false W args.toList ds gs before) (hl:laidOutB P=true) (hts:(fn.params.toList.all fun t=>P.readableRec t&&decide (t < P.types.size))=true)
 (hvars:spec.vars=[]) (hfn:spec.fn H ds={ results:=[.lit (.bool true)],args:=ds }) (hres:fn.resultTypes=#[tb]) (hb:P.underlying tb=some .bool) (k:Keep0 W W'):
 spec.post enc P fn false true false false W args (.bool true) W' :=by
 have hlt:=hW.lt
 obtain ⟨p,q,hA,hV,rfl,hfz,hnd⟩:=id hW
 have hV' :=hV
 rw [hvars] at hV'
 obtain ⟨rfl,rfl⟩:=trodVars_none hV'
 rw [List.append_nil] at hlt
 have hts' :∀ t∈fn.params.toList,P.readableRec t=true∧t < P.types.size:=fun t ht=>by
  have:=List.all_eq_true.1 hts t ht
  simpa using this
 refine ⟨ds,[],p++[],[],p,[],hW,?_,?_,?_,k.kept _,fun h=>by cases h⟩
 ·rw [List.append_nil,hfn,hres]
  exact trodAll_mk1 (shut_bool hb true)
 ·rw [List.append_nil,hfn]
  exact trodAll_stays hl hts' hA (fun x hx=>k.same (hlt x hx)) (fun x hx=>by simpa using hlt x hx)
 ·rw [List.append_nil,hfn,hvars]
  rfl
def InI (n:Int):Prop:=-9223372036854775808≤n∧n≤9223372036854775807
theorem inI_of {n:Int} (h:(Lit.int .i64 n).wf=true):InI n:=bounds_i64 h
variable {w:World}{base:Nat}{spare:Nat→Bool}{held:Bool}
def FlatI (P:Program) (t:TypeId) (n:Nat):Prop:=∀ {H:Type}{enc:TypeId×Value→H}{w:World}{base:Nat}{spare:Nat→Bool}{held:Bool}{fuel:Nat}{cs:List Value}{x:DataW H×List MemPlace},
 DataW.trod enc P w base spare held fuel t cs=some x→∃ l:List Int,l.length=n∧cs=l.map I∧∀ y∈l,InI y
theorem flat_cells {cs:List Value}:∀ {n:Nat},cs.length=n→(∀ i,i < n→∃ a:Int,cs[i]? =some (I a)∧InI a)→∃ l:List Int,l.length=n∧cs=l.map I∧∀ y∈l,InI y:=by
 intro n hn h
 subst hn
 induction cs with
 | nil=>exact ⟨[],rfl,rfl,fun _ h=>(List.not_mem_nil h).elim⟩
 | cons c cs ih=>
   obtain ⟨a,ha,hi⟩:=h 0 (by simp)
   obtain ⟨l,h1,h2,h3⟩:=ih fun i hi=>by
    obtain ⟨b,hb⟩:=h (i+1) (by simp; omega)
    exact ⟨b,by simpa using hb⟩
   refine ⟨a::l,by simp [h1],by simp at ha; rw [ha,h2]; rfl,fun y hy=>?_⟩
   rcases List.mem_cons.1 hy with rfl | hy
   ·exact hi
   ·exact h3 y hy
theorem take_one {cs:List Value}{o:Nat}{v:Value} (h:(cs.drop o).take 1=[v]):cs[o]? =some v:=by
 have:=congrArg (·[0]?) h
 simpa [List.getElem?_take] using this
theorem flat_array {t e:TypeId}{n:Nat} (ht:P.underlying t=some (.array n e)) (he:P.underlying e=some (.int .i64)) (hc:P.cellsOf e=1) (hn:P.cellsOf t=n):FlatI P t n:=by
 intro _ _ _ _ _ _ _ cs _ h
 obtain ⟨xs,m,_,_,hl,hxs,hel⟩:=DataW.trod_array ht h
 refine flat_cells (hl.trans hn) fun i hi=>?_
 have:=hel i hi
 rw [hc,Nat.mul_one,List.getElem?_eq_getElem (by rw [hxs]; exact hi)] at this
 obtain ⟨a,ha,_,hw⟩:=DataW.trod_int he this
 exact ⟨a,take_one ha,inI_of hw⟩
theorem flat_struct {t:TypeId}{fs:Array Field}{n:Nat} (ht:P.underlying t=some (.struct fs)) (hn:P.cellsOf t=n) (hf:∀ i,i < n→∃ f:Field,fs[i]? =some f∧f.offset=i∧P.underlying f.type=some (.int .i64)∧P.cellsOf f.type=1) (hs:fs.size=n):FlatI P t n:=by
 intro _ _ _ _ _ _ _ cs _ h
 obtain ⟨xs,m,_,_,hl,hxs,hel⟩:=DataW.trod_struct ht h
 refine flat_cells (hl.trans hn) fun i hi=>?_
 obtain ⟨f,h1,h2,h3,h4⟩:=hf i hi
 have:=hel i f h1
 rw [h2,h4,List.getElem?_eq_getElem (by rw [hxs,hs]; exact hi)] at this
 obtain ⟨a,ha,_,hw⟩:=DataW.trod_int h3 this
 exact ⟨a,take_one ha,inI_of hw⟩
theorem mapM_get {α β:Type}{f:α→Option β}:∀ {l:List α}{r:List β},l.mapM f=some r→∀ (i:Nat) (a:α),l[i]? =some a→f a=r[i]?
 | [],_,_,i,a,ha=>by simp at ha
 | x::l,r,h,i,a,ha=>by
   simp only [List.mapM_cons,Option.bind_eq_bind,Option.bind_eq_some_iff,Option.pure_def,Option.some.injEq] at h
   obtain ⟨b,hb,r',hr',rfl⟩:=h
   cases i with
   | zero=>
     simp only [List.getElem?_cons_zero,Option.some.injEq] at ha
     subst ha
     exact hb
   | succ i=>exact mapM_get hr' i a (by simpa using ha)
theorem cell_in {w:World}{a:Addr}{v:Value} (h:w.cell? a=some v):a.block < w.heap.size:=by
 unfold World.cell? at h
 split at h
 ·rename_i hw
  exact (Array.getElem?_eq_some_iff.1 hw).1
 ·cases h
theorem add_blk (a:Addr) (n:Nat):(a.add n).block=a.block∧(a.add n).off=a.off+n:=by
 unfold Addr.add
 split
 ·rename_i h; subst h; exact ⟨rfl,rfl⟩
 ·exact ⟨rfl,rfl⟩
theorem cellN {w:World}{a:Addr}{n:Nat}{v:Value} (h:w.cell? (a.add n)=some v):w.cell? ⟨a.block,a.off+n,none⟩=some v:=by
 have h1:=World.cell?_spot h
 obtain ⟨h2,h3⟩:=add_blk a n
 have:a.add n=⟨a.block,a.off+n,none⟩:=by
  generalize a.add n=x at h1 h2 h3
  cases x
  cases h1; cases h2; cases h3; rfl
 rwa [this] at h
theorem slice_flat {t e:TypeId}{s fuel:Nat}{cs:List Value}{x:DataW H×List MemPlace} (ht:P.underlying t=some (.slice e)) (F:FlatI P e s) (hs:P.cellsOf e=s) (h0:0 < s)
 (h:DataW.trod enc P w 0 spare held fuel t cs=some x):∃ A c,∃ xs:List (List Int),cs=[SL A xs.length c]∧(∀ l∈xs,l.length=s∧∀ y∈l,InI y)∧(rd (fun l:List Int=>l.map I) s A c xs).ok w:=by
 rcases DataW.trod_slice ht h with ⟨rfl,_⟩ | ⟨a,len,cap,elems,rest,n,_,rfl,_,_,hlc,hcm,hel,hE,_,_⟩
 ·exact ⟨none,0,[],rfl,fun _ h=>(List.not_mem_nil h).elim,.inl rfl,Nat.le_refl _,Nat.zero_le _⟩
 ·have ex:∀ i,i < len→∃ l:List Int,l.length=s∧(∀ y∈l,InI y)∧∀ j v,(l.map I)[j]? =some v→w.cell? ⟨a.block,a.off+i*s+j,none⟩=some v:=by
   intro i hi
   have:=hE i hi
   rw [hs,List.getElem?_eq_getElem (by rw [hel]; exact hi)] at this
   obtain ⟨cs,hc,hd⟩:=Option.bind_eq_some_iff.1 this
   obtain ⟨l,hl,rfl,hy⟩:=F hd
   refine ⟨l,hl,hy,fun j v hj=>?_⟩
   unfold World.cells? at hc
   rw [if_pos (Nat.zero_le _)] at hc
   have hjl:j < s:=by
    have:=(List.getElem?_eq_some_iff.1 hj).1
    rw [List.length_map,hl] at this
    exact this
   have:=mapM_get hc j j (List.getElem?_range hjl)
   rw [hj] at this
   have:=cellN this
   rwa [(add_blk a (i*s)).1,(add_blk a (i*s)).2] at this
  have ch:∃ f:Nat→List Int,∀ i,i < len→(f i).length=s∧(∀ y∈f i,InI y)∧∀ j v,((f i).map I)[j]? =some v→w.cell? ⟨a.block,a.off+i*s+j,none⟩=some v:=
   ⟨fun i=>if h:i < len then Classical.choose (ex i h) else [],fun i hi=>by simp only [dif_pos hi]; exact Classical.choose_spec (ex i hi)⟩
  obtain ⟨f,hf⟩:=ch
  refine ⟨some a,cap,(List.range len).map f,by simp [SL],fun l hl=>?_,?_,by simpa using hlc,hcm⟩
  ·obtain ⟨i,hi,rfl⟩:=List.mem_map.1 hl
   have:=hf i (List.mem_range.1 hi)
   exact ⟨this.1,this.2.1⟩
  ·by_cases hz:len=0
   ·left; subst hz; rfl
   ·right
    have h00:=(hf 0 (by omega)).2.2 0 (I ((f 0)[0]'(by rw [(hf 0 (by omega)).1]; exact h0))) (by simp [(hf 0 (by omega)).1,h0])
    obtain ⟨b,o,sp⟩:=a
    have hsp:sp=none:=by
     have:=hE 0 (by omega)
     rw [hs,List.getElem?_eq_getElem (by rw [hel]; omega)] at this
     obtain ⟨cs,hc,hd⟩:=Option.bind_eq_some_iff.1 this
     obtain ⟨l,hl,rfl,hy⟩:=F hd
     unfold World.cells? at hc
     rw [if_pos (Nat.zero_le _)] at hc
     have:=mapM_get hc 0 0 (List.getElem?_range h0)
     rw [List.getElem?_eq_getElem (by rw [List.length_map,hl]; exact h0)] at this
     rw [Nat.zero_mul] at this
     exact World.cell?_spot (show w.cell? ⟨b,o,sp⟩=_ from this)
    subst hsp
    refine ⟨b,o,rfl,cell_in h00,fun i x hx j v hv=>?_⟩
    have hi:i < len:=by
     have:=(List.getElem?_eq_some_iff.1 hx).1
     simpa using this
    have hx' :x=f i:=by simpa [List.getElem?_range,hi] using hx.symm
    subst hx'
    exact (hf i hi).2.2 j v hv
theorem rd_map {α β:Type}{e1:α→List Value}{e2:β→List Value}{s c:Nat}{A:Option Addr}{xs:List α} (f:α→β) (h:∀ x∈xs,e2 (f x)=e1 x) (h1:(rd e1 s A c xs).ok w):(rd e2 s A c (xs.map f)).ok w:=by
 refine ⟨?_,by simpa using h1.2.1,h1.2.2⟩
 rcases h1.1 with rfl | ⟨b,o,e,hb,hc⟩
 ·exact .inl rfl
 ·refine .inr ⟨b,o,e,hb,fun i x hx j v hv=>?_⟩
  rw [List.getElem?_map] at hx
  obtain ⟨y,hy,rfl⟩:=Option.map_eq_some_iff.1 hx
  rw [h y (List.mem_of_getElem? hy)] at hv
  exact hc i y hy j v hv
theorem sg_self (l:List Int) {n:Nat} (h:l.length=n):sg l n=l.map I:=by
 rw [sg_ivs,sgl_eq h]; rfl
theorem okWide_cells {r:Reach}{b0:Nat}{t:TypeId}{v:Value} (ht:(match P.underlying t with | some (.struct _) | some (.array _ _)=>true | _=>false)=true) (hval:Value.okWide P w r b0 t v):∃ cs,v=.agg cs:=by
 unfold Value.okWide at hval
 split at hval
 ·obtain ⟨cs,h,_⟩:=hval; exact ⟨cs,h⟩
 ·obtain ⟨cs,h,_⟩:=hval; exact ⟨cs,h⟩
 ·rename_i h1 h2
  split at ht
  ·rename_i h; exact absurd h (h1 _)
  ·rename_i h; exact absurd h (h2 _ _)
  ·cases ht
theorem dec_flat {r:Reach}{b0 n:Nat}{t:TypeId}{v:Value}{d:DataW H}{ps:List MemPlace} (ht:(match P.underlying t with | some (.struct _) | some (.array _ _)=>true | _=>false)=true) (F:FlatI P t n) (hval:Value.okWide P w r b0 t v) (hd:DataW.Trod enc P w base spare held t v d ps):
 ∃ l:List Int,l.length=n∧v=AG (l.map I)∧∀ y∈l,InI y:=by
 obtain ⟨cs,rfl⟩:=okWide_cells ht hval
 obtain ⟨fuel,hf⟩:=hd
 obtain ⟨l,hl,hc,hy⟩:=F hf
 refine ⟨l,hl,?_,hy⟩
 have:cs.toList=l.map I:=hc
 show Value.agg cs=Value.agg (l.map I).toArray
 rw [← this]
end
end Go.Fx
namespace Go.Proofs.YtafhljljfglfeaaDoor
open Go Go.Fx Go.Proofs Go.ChangeShapes Go.WideShapes Go.ChangeAt Go.RowKit
theorem own:ownKnob Tryd.prog.godebug=none:=by kernel_rfl
theorem laidOut:laidOutB Tryd.prog=true:=by kernel_rfl
theorem u3:Tryd.prog.underlying 3=some (.int .i64):=by kernel_rfl
theorem c3:Tryd.prog.cellsOf 3=1:=by kernel_rfl
theorem var_heap {W:World}{n:String}{g:Nat}{cs c:Array Value}{t:TypeId}{fr:Nat×Nat} (hg:Tryd.prog.globalNamed n=some g) (hv:W.var? Tryd.prog n=some cs) (hh:W.heap[g]? =some (.cells c t fr)):cs=c:=by
 unfold World.var? at hv
 rw [hg] at hv
 simp only [Option.bind_some,hh] at hv
 exact (Option.some.inj hv).symm
theorem gNobody : Tryd.prog.globalNamed "prow/ticket.nobody" = some 0 := by kernel_rfl
theorem tNobody:(Tryd.prog.globals[0]?).map (·.type)=some 128:=by kernel_rfl
theorem c128:Tryd.prog.cellsOf 128=2:=by kernel_rfl
theorem u128:∃ f0 f1:Field,Tryd.prog.underlying 128=some (.struct #[f0,f1])∧f0.type=3∧f1.type=3∧f0.offset=0∧f1.offset=1:=⟨(Tryd.prog.fieldsOf 128)[0]!,(Tryd.prog.fieldsOf 128)[1]!,by kernel_rfl,by kernel_rfl,by kernel_rfl,by kernel_rfl,by kernel_rfl⟩
theorem shape0:∃ zero,(((begin Tryd.prog (fun _ _=>0) default).world.heap[0]?).bind Obj.row?)=some (zero,128):=⟨#[I 0,I 0],by kernel_rfl⟩
set_option maxRecDepth 100000 in
theorem atNobody {W : World} (hS : W.ShapedOpen Tryd.prog) {g t : Nat} {cs : Array Value} {fuel : Nat} {p : List MemPlace} (hg : Tryd.prog.globalNamed "prow/ticket.nobody" = some g) (ht : (Tryd.prog.globals[g]?).map (·.type) = some t) (hv : W.var? Tryd.prog "prow/ticket.nobody" = some cs)
 (hd:DataW.trod (fun _=>()) Tryd.prog W 0 (fun _=>true) false fuel t cs.toList=some (.agg [.lit (.int .i64 (-1)),.lit (.int .i64 (-1))],p)):(bl 0 [I (-1),I (-1)] 128).ok W:=by
 obtain ⟨z,hz⟩:=shape0
 obtain ⟨cs0,h1,_⟩:=hS.1 0 z 128 (of_decide_eq_true (by kernel_rfl)) hz
 obtain rfl:=Option.some.inj (gNobody.symm.trans hg)
 obtain rfl:=Option.some.inj (tNobody.symm.trans ht)
 obtain rfl:=var_heap gNobody hv h1
 obtain ⟨f0,f1,hu,ht0,ht1,ho0,ho1⟩:=u128
 obtain ⟨xs,m,_,hx,hl,hxs,hel⟩:=DataW.trod_struct hu hd
 rw [c128] at hl
 have hx' :xs.map (·.1)=[.lit (.int .i64 (-1)),.lit (.int .i64 (-1))]:=by
  have:=congrArg Prod.fst hx
  exact (DataW.agg.inj this).symm
 obtain ⟨cl⟩:=cs
 match cl,hl with
 | [v0,v1],_=>
   match xs,hx' with
   | [(_,p0),(_,p1)],hx' =>
     simp only [List.map_cons,List.map_nil,List.cons.injEq,and_true] at hx'
     obtain ⟨rfl,rfl⟩:=hx'
     have e0:=hel 0 f0 rfl
     have e1:=hel 1 f1 rfl
     rw [ho0,ht0,c3] at e0
     rw [ho1,ht1,c3] at e1
     obtain ⟨n0,a0,b0,_⟩:=DataW.trod_int u3 (show DataW.trod _ _ _ _ _ _ _ _ [v0]=some (_,p0) from e0)
     obtain ⟨n1,a1,b1,_⟩:=DataW.trod_int u3 (show DataW.trod _ _ _ _ _ _ _ _ [v1]=some (_,p1) from e1)
     cases a0; cases a1; cases b0; cases b1
     exact h1
theorem gNothing : Tryd.prog.globalNamed "prow/tally.nothing" = some 3 := by kernel_rfl
theorem tNothing:(Tryd.prog.globals[3]?).map (·.type)=some 139:=by kernel_rfl
theorem c139:Tryd.prog.cellsOf 139=2:=by kernel_rfl
theorem u139:∃ f0 f1:Field,Tryd.prog.underlying 139=some (.struct #[f0,f1])∧f0.type=3∧f1.type=3∧f0.offset=0∧f1.offset=1:=⟨(Tryd.prog.fieldsOf 139)[0]!,(Tryd.prog.fieldsOf 139)[1]!,by kernel_rfl,by kernel_rfl,by kernel_rfl,by kernel_rfl,by kernel_rfl⟩
theorem shape3:∃ zero,(((begin Tryd.prog (fun _ _=>0) default).world.heap[3]?).bind Obj.row?)=some (zero,139):=⟨#[I 0,I 0],by kernel_rfl⟩
set_option maxRecDepth 100000 in
theorem atNothing {W : World} (hS : W.ShapedOpen Tryd.prog) {g t : Nat} {cs : Array Value} {fuel : Nat} {p : List MemPlace} (hg : Tryd.prog.globalNamed "prow/tally.nothing" = some g) (ht : (Tryd.prog.globals[g]?).map (·.type) = some t) (hv : W.var? Tryd.prog "prow/tally.nothing" = some cs)
 (hd:DataW.trod (fun _=>()) Tryd.prog W 0 (fun _=>true) false fuel t cs.toList=some (.agg [.lit (.int .i64 (-1)),.lit (.int .i64 (-1))],p)):(bl 3 [I (-1),I (-1)] 139).ok W:=by
 obtain ⟨z,hz⟩:=shape3
 obtain ⟨cs0,h1,_⟩:=hS.1 3 z 139 (of_decide_eq_true (by kernel_rfl)) hz
 obtain rfl:=Option.some.inj (gNothing.symm.trans hg)
 obtain rfl:=Option.some.inj (tNothing.symm.trans ht)
 obtain rfl:=var_heap gNothing hv h1
 obtain ⟨f0,f1,hu,ht0,ht1,ho0,ho1⟩:=u139
 obtain ⟨xs,m,_,hx,hl,hxs,hel⟩:=DataW.trod_struct hu hd
 rw [c139] at hl
 have hx' :xs.map (·.1)=[.lit (.int .i64 (-1)),.lit (.int .i64 (-1))]:=by
  have:=congrArg Prod.fst hx
  exact (DataW.agg.inj this).symm
 obtain ⟨cl⟩:=cs
 match cl,hl with
 | [v0,v1],_=>
   match xs,hx' with
   | [(_,p0),(_,p1)],hx' =>
     simp only [List.map_cons,List.map_nil,List.cons.injEq,and_true] at hx'
     obtain ⟨rfl,rfl⟩:=hx'
     have e0:=hel 0 f0 rfl
     have e1:=hel 1 f1 rfl
     rw [ho0,ht0,c3] at e0
     rw [ho1,ht1,c3] at e1
     obtain ⟨n0,a0,b0,_⟩:=DataW.trod_int u3 (show DataW.trod _ _ _ _ _ _ _ _ [v0]=some (_,p0) from e0)
     obtain ⟨n1,a1,b1,_⟩:=DataW.trod_int u3 (show DataW.trod _ _ _ _ _ _ _ _ [v1]=some (_,p1) from e1)
     cases a0; cases a1; cases b0; cases b1
     exact h1
theorem gAsks : Tryd.prog.globalNamed "prow/ticket.asks" = some 1 := by kernel_rfl
theorem tAsks:(Tryd.prog.globals[1]?).map (·.type)=some 133:=by kernel_rfl
theorem u133:Tryd.prog.underlying 133=some (.array 2 132):=by kernel_rfl
theorem u132b:(match Tryd.prog.underlying 132 with | some (.func _ _ _)=>true | _=>false)=true:=by kernel_rfl
theorem u132:∃ ps rs va,Tryd.prog.underlying 132=some (.func ps rs va):=by
 have h:=u132b
 split at h
 ·rename_i ps rs va hu; exact ⟨ps,rs,va,hu⟩
 ·cases h
theorem c132:Tryd.prog.cellsOf 132=1:=by kernel_rfl
theorem c133:Tryd.prog.cellsOf 133=2:=by kernel_rfl
theorem shape1:∃ zero,(((begin Tryd.prog (fun _ _=>0) default).world.heap[1]?).bind Obj.row?)=some (zero,133):=⟨#[.nilFunc,.nilFunc],by kernel_rfl⟩
set_option maxRecDepth 100000 in
theorem atAsks {W : World} (hS : W.ShapedOpen Tryd.prog) {laid : List (String × DataW Unit)} (h : laidMetH Tryd.prog laid W) (hm : ("prow/ticket.asks", Rows.laid_prow_ticket_asks) ∈ laid) : (bl 1 [Value.func (.func 130) #[] #[], Value.func (.func 131) #[] #[]] 133).ok W := by
 obtain ⟨z,hz⟩:=shape1
 obtain ⟨cs0,h0,_⟩:=hS.1 1 z 133 (of_decide_eq_true (by kernel_rfl)) hz
 obtain ⟨g, t, cs, fuel, p, hg, ht, hv, hd⟩ := h.funcs (n := "prow/ticket.asks") hm
 obtain rfl:=Option.some.inj (gAsks.symm.trans hg)
 obtain rfl:=Option.some.inj (tAsks.symm.trans ht)
 obtain rfl:=var_heap gAsks hv h0
 obtain ⟨xs,m,_,hx,hl,hxs,hel⟩:=DataW.trod_array u133 hd
 rw [c133] at hl
 have hx' :xs.map (·.1)=[.held [40,112,114,111,119,47,116,105,99,107,101,116,46,98,111,111,107,41,46,97,108,119,97,121,115],.held [40,112,114,111,119,47,116,105,99,107,101,116,46,98,111,111,107,41,46,115,111,109,101,116,105,109,101,115]]:=by
  have:=congrArg Prod.fst hx
  exact (DataW.agg.inj this).symm
 obtain ⟨ps,rs,va,hu⟩:=u132
 obtain ⟨cl⟩:=cs
 match cl,hl with
 | [v0,v1],_=>
   match xs,hx' with
   | [(_,p0),(_,p1)],hx' =>
     simp only [List.map_cons,List.map_nil,List.cons.injEq,and_true] at hx'
     obtain ⟨rfl,rfl⟩:=hx'
     have e0:=hel 0 (by decide)
     have e1:=hel 1 (by decide)
     rw [c132] at e0 e1
     obtain rfl:=func_of_trod (f0:=130) hu (by kernel_rfl) (show DataW.trod _ _ _ _ _ _ _ _ [v0]=some (_,p0) from e0)
     obtain rfl:=func_of_trod (f0:=131) hu (by kernel_rfl) (show DataW.trod _ _ _ _ _ _ _ _ [v1]=some (_,p1) from e1)
     exact h0
theorem gEnds : Tryd.prog.globalNamed "prow/tally.ends" = some 2 := by kernel_rfl
theorem tEnds:(Tryd.prog.globals[2]?).map (·.type)=some 142:=by kernel_rfl
theorem u142:Tryd.prog.underlying 142=some (.array 2 141):=by kernel_rfl
theorem u141b:(match Tryd.prog.underlying 141 with | some (.func _ _ _)=>true | _=>false)=true:=by kernel_rfl
theorem u141:∃ ps rs va,Tryd.prog.underlying 141=some (.func ps rs va):=by
 have h:=u141b
 split at h
 ·rename_i ps rs va hu; exact ⟨ps,rs,va,hu⟩
 ·cases h
theorem c141:Tryd.prog.cellsOf 141=1:=by kernel_rfl
theorem c142:Tryd.prog.cellsOf 142=2:=by kernel_rfl
theorem shape2:∃ zero,(((begin Tryd.prog (fun _ _=>0) default).world.heap[2]?).bind Obj.row?)=some (zero,142):=⟨#[.nilFunc,.nilFunc],by kernel_rfl⟩
set_option maxRecDepth 100000 in
theorem atEnds {W : World} (hS : W.ShapedOpen Tryd.prog) {laid : List (String × DataW Unit)} (h : laidMetH Tryd.prog laid W) (hm : ("prow/tally.ends", Rows.laid_prow_tally_ends) ∈ laid) : (bl 2 [Value.func (.func 128) #[] #[], Value.func (.func 132) #[] #[]] 142).ok W := by
 obtain ⟨z,hz⟩:=shape2
 obtain ⟨cs0,h0,_⟩:=hS.1 2 z 142 (of_decide_eq_true (by kernel_rfl)) hz
 obtain ⟨g, t, cs, fuel, p, hg, ht, hv, hd⟩ := h.funcs (n := "prow/tally.ends") hm
 obtain rfl:=Option.some.inj (gEnds.symm.trans hg)
 obtain rfl:=Option.some.inj (tEnds.symm.trans ht)
 obtain rfl:=var_heap gEnds hv h0
 obtain ⟨xs,m,_,hx,hl,hxs,hel⟩:=DataW.trod_array u142 hd
 rw [c142] at hl
 have hx' :xs.map (·.1)=[.held [40,112,114,111,119,47,116,97,108,108,121,46,99,111,117,110,116,41,46,108,101,97,115,116],.held [40,112,114,111,119,47,116,97,108,108,121,46,99,111,117,110,116,41,46,109,111,115,116]]:=by
  have:=congrArg Prod.fst hx
  exact (DataW.agg.inj this).symm
 obtain ⟨ps,rs,va,hu⟩:=u141
 obtain ⟨cl⟩:=cs
 match cl,hl with
 | [v0,v1],_=>
   match xs,hx' with
   | [(_,p0),(_,p1)],hx' =>
     simp only [List.map_cons,List.map_nil,List.cons.injEq,and_true] at hx'
     obtain ⟨rfl,rfl⟩:=hx'
     have e0:=hel 0 (by decide)
     have e1:=hel 1 (by decide)
     rw [c141] at e0 e1
     obtain rfl:=func_of_trod (f0:=128) hu (by kernel_rfl) (show DataW.trod _ _ _ _ _ _ _ _ [v0]=some (_,p0) from e0)
     obtain rfl:=func_of_trod (f0:=132) hu (by kernel_rfl) (show DataW.trod _ _ _ _ _ _ _ _ [v1]=some (_,p1) from e1)
     exact h0
def laidM : List (String × DataW Unit) := [("prow/tally.ends", Rows.laid_prow_tally_ends), ("prow/tally.nothing", Rows.laid_prow_tally_nothing), ("prow/ticket.nobody", Rows.laid_prow_ticket_nobody), ("prow/ticket.asks", Rows.laid_prow_ticket_asks)]
theorem globals_okM {W:World} (hS:W.ShapedOpen Tryd.prog) (h:laidMetH Tryd.prog laidM W):(bl 0 [I (-1),I (-1)] 128).ok W∧(bl 1 [Value.func (.func 130) #[] #[],Value.func (.func 131) #[] #[]] 133).ok W∧(bl 2 [Value.func (.func 128) #[] #[],Value.func (.func 132) #[] #[]] 142).ok W∧(bl 3 [I (-1),I (-1)] 139).ok W:=by
 have h' : laidMet Tryd.prog [("prow/tally.nothing", Rows.laid_prow_tally_nothing), ("prow/ticket.nobody", Rows.laid_prow_ticket_nobody)] W := h.1
 obtain ⟨ps,⟨g,t,cs,fuel,p,q,hg,ht,hv,hd,⟨g',t',cs',fuel',p',q',hg',ht',hv',hd',_,_⟩,_⟩,_⟩:=h'
 exact ⟨atNobody hS hg' ht' hv' hd',atAsks hS h (List.mem_cons_of_mem _ (List.mem_cons_of_mem _ (List.mem_cons_of_mem _ (List.mem_cons_self ..)))),atEnds hS h (List.mem_cons_self ..),atNothing hS hg ht hv hd⟩
def putCells (cs:Array Value):Obj→Obj
 | .cells _ t frozen=>.cells cs t frozen
 | o=>o
noncomputable def laidWorld (os:Os):World:=
 { World.holding Tryd.prog os ⟨#[],#[],[]⟩ with heap:=(((((World.holding Tryd.prog os ⟨#[],#[],[]⟩).heap.modify 0 (putCells #[I (-1),I (-1)])).modify 1 (putCells #[.func (.func 130) #[] #[],.func (.func 131) #[] #[]])).modify 2 (putCells #[.func (.func 128) #[] #[],.func (.func 132) #[] #[]])).modify 3 (putCells #[I (-1),I (-1)])) }
end Go.Proofs.YtafhljljfglfeaaDoor
set_option linter.constructorNameAsVariable false
set_option maxRecDepth 100000
namespace Go.Proofs.YtafhljljfglfeaaDoor
open Go Go.Fx Go.Proofs Go.ChangeShapes Go.WideShapes Go.ChangeAt Go.RowKit
theorem get_bang {α:Type} [Inhabited α] {a:Array α}{i:Nat} (h:i < a.size):a[i]? =some a[i]! :=by
 rw [Array.getElem?_eq_getElem h,getElem!_pos a i h]
theorem st {t n:Nat} (u:Tryd.prog.underlying t=some (.struct (Tryd.prog.fieldsOf t))) (c:Tryd.prog.cellsOf t=n) (s:(Tryd.prog.fieldsOf t).size=n)
 (b:((List.range n).all fun i=>(Tryd.prog.fieldsOf t)[i]!.offset==i&&(Tryd.prog.fieldsOf t)[i]!.type==3)=true):FlatI Tryd.prog t n:=by
 refine flat_struct u c (fun i hi=>?_) s
 refine ⟨_,get_bang (by rw [s]; exact hi),?_⟩
 have:=List.all_eq_true.1 b i (List.mem_range.2 hi)
 simp only [Bool.and_eq_true,beq_iff_eq] at this
 exact ⟨this.1,by rw [this.2]; exact u3,by rw [this.2]; exact c3⟩
theorem c81:Tryd.prog.cellsOf 81=7:=by kernel_rfl
theorem c65:Tryd.prog.cellsOf 65=2:=by kernel_rfl
theorem c67:Tryd.prog.cellsOf 67=3:=by kernel_rfl
theorem c72:Tryd.prog.cellsOf 72=4:=by kernel_rfl
theorem c29:Tryd.prog.cellsOf 29=7:=by kernel_rfl
theorem c24:Tryd.prog.cellsOf 24=3:=by kernel_rfl
theorem c22:Tryd.prog.cellsOf 22=1:=by kernel_rfl
theorem c25:Tryd.prog.cellsOf 25=1:=by kernel_rfl
theorem c26:Tryd.prog.cellsOf 26=1:=by kernel_rfl
theorem c27:Tryd.prog.cellsOf 27=1:=by kernel_rfl
theorem u22:Tryd.prog.underlying 22=some (.slice 81):=by kernel_rfl
theorem u25:Tryd.prog.underlying 25=some (.slice 65):=by kernel_rfl
theorem u26:Tryd.prog.underlying 26=some (.slice 67):=by kernel_rfl
theorem u27:Tryd.prog.underlying 27=some (.slice 72):=by kernel_rfl
theorem u29:Tryd.prog.underlying 29=some (.struct (Tryd.prog.fieldsOf 29)):=by kernel_rfl
theorem u24:Tryd.prog.underlying 24=some (.struct (Tryd.prog.fieldsOf 24)):=by kernel_rfl
theorem flat81:FlatI Tryd.prog 81 7:=st (by kernel_rfl) c81 (by kernel_rfl) (by kernel_rfl)
theorem flat65:FlatI Tryd.prog 65 2:=st (by kernel_rfl) c65 (by kernel_rfl) (by kernel_rfl)
theorem flat67:FlatI Tryd.prog 67 3:=st (by kernel_rfl) c67 (by kernel_rfl) (by kernel_rfl)
theorem flat72:FlatI Tryd.prog 72 4:=st (by kernel_rfl) c72 (by kernel_rfl) (by kernel_rfl)
theorem f29s:(Tryd.prog.fieldsOf 29).size=5:=by kernel_rfl
theorem f29b:([(0,0,24),(1,3,3),(2,4,25),(3,5,26),(4,6,27)].all fun (x:Nat×Nat×Nat)=>(Tryd.prog.fieldsOf 29)[x.1]!.offset==x.2.1&&(Tryd.prog.fieldsOf 29)[x.1]!.type==x.2.2)=true:=by kernel_rfl
theorem f24s:(Tryd.prog.fieldsOf 24).size=3:=by kernel_rfl
theorem f24b:([(0,0,3),(1,1,3),(2,2,22)].all fun (x:Nat×Nat×Nat)=>(Tryd.prog.fieldsOf 24)[x.1]!.offset==x.2.1&&(Tryd.prog.fieldsOf 24)[x.1]!.type==x.2.2)=true:=by kernel_rfl
theorem maxLen_le:maxLen≤9223372036854775807:=by decide
def cntOf (l:List Int):TallyCount:=⟨l.getD 0 0,l.getD 1 0,l.getD 2 0,l.getD 3 0,l.getD 4 0,l.getD 5 0,l.getD 6 0⟩
theorem cntOf_cells {l:List Int} (h:l.length=7):eTallyCount (cntOf l)=l.map I:=by
 match l,h with
 | [_,_,_,_,_,_,_],_=>rfl
def seasOf (l:List Int):TicketSeason:=⟨l.getD 0 0,l.getD 1 0⟩
theorem seasOf_cells {l:List Int} (h:l.length=2):eTicketSeason (seasOf l)=l.map I:=by
 match l,h with
 | [_,_],_=>rfl
def showOf (l:List Int):TicketShow:=⟨l.getD 0 0,l.getD 1 0,l.getD 2 0⟩
theorem showOf_cells {l:List Int} (h:l.length=3):eTicketShow (showOf l)=l.map I:=by
 match l,h with
 | [_,_,_],_=>rfl
def boxOf (l:List Int):TicketBox:=⟨l.getD 0 0,l.getD 1 0,l.getD 2 0,l.getD 3 0⟩
theorem boxOf_cells {l:List Int} (h:l.length=4):eTicketBox (boxOf l)=l.map I:=by
 match l,h with
 | [_,_,_,_],_=>rfl
variable {H:Type}{enc:TypeId×Value→H}{w:World}{spare:Nat→Bool}{held:Bool}{r:Reach}{b0:Nat}{v:Value}{d:DataW H}{ps:List MemPlace}
theorem tally_of {fuel:Nat}{cs:List Value}{x:DataW H×List MemPlace} (h:DataW.trod enc Tryd.prog w 0 spare held fuel 24 cs=some x):∃ A c,∃ b:TallyBook,cs=[I b.Trips,I b.Room,SL A b.Counts.length c]∧(rd eTallyCount 7 A c b.Counts).ok w∧b.Counts.length≤9223372036854775807:=by
 obtain ⟨xs,m,_,_,hl,hxs,hel⟩:=DataW.trod_struct u24 h
 rw [c24] at hl
 rw [f24s] at hxs
 have fb:=f24b
 simp only [List.all_cons,List.all_nil,Bool.and_eq_true,beq_iff_eq,and_true] at fb
 obtain ⟨⟨o0,t0⟩,⟨o1,t1⟩,⟨o2,t2⟩⟩:=fb
 have e0:=hel 0 _ (get_bang (by rw [f24s]; decide))
 have e1:=hel 1 _ (get_bang (by rw [f24s]; decide))
 have e2:=hel 2 _ (get_bang (by rw [f24s]; decide))
 rw [o0,t0,c3,List.getElem?_eq_getElem (by omega)] at e0
 rw [o1,t1,c3,List.getElem?_eq_getElem (by omega)] at e1
 rw [o2,t2,c22,List.getElem?_eq_getElem (by omega)] at e2
 obtain ⟨n0,g0,_,_⟩:=DataW.trod_int u3 e0
 obtain ⟨n1,g1,_,_⟩:=DataW.trod_int u3 e1
 obtain ⟨A,c,l,g2,h1,h2⟩:=slice_flat u22 flat81 c81 (by decide) e2
 have m2:=rd_map (e2:=eTallyCount) cntOf (fun x hx=>cntOf_cells (h1 x hx).1) h2
 refine ⟨A,c,⟨n0,n1,l.map cntOf⟩,?_,m2,?_⟩
 ·match cs,hl with
  | [y0,y1,y2],_=>
    simp at g0 g1 g2
    subst g0 g1 g2
    simp
 ·have:=maxLen_le; have:=m2.2.1; have:=m2.2.2; simp only; omega
theorem dec_book (hval:Value.okWide Tryd.prog w r b0 29 v) (hd:DataW.Trod enc Tryd.prog w 0 spare held 29 v d ps):∃ A1 c1 A2 c2 A3 c3 A4 c4,∃ b:TicketBook,v=AG [I b.Tally.Trips,I b.Tally.Room,SL A1 b.Tally.Counts.length c1,I b.Fare,SL A2 b.Tickets.length c2,SL A3 b.Shows.length c3,SL A4 b.Boxes.length c4]∧
 (rd eTallyCount 7 A1 c1 b.Tally.Counts).ok w∧(rd eTicketSeason 2 A2 c2 b.Tickets).ok w∧(rd eTicketShow 3 A3 c3 b.Shows).ok w∧(rd eTicketBox 4 A4 c4 b.Boxes).ok w∧b.Tally.Counts.length≤9223372036854775807∧b.Tickets.length≤9223372036854775807∧b.Shows.length≤9223372036854775807∧b.Boxes.length≤9223372036854775807:=by
 obtain ⟨cs,rfl⟩:=okWide_cells (by kernel_rfl) hval
 obtain ⟨fuel,hf⟩:=hd
 obtain ⟨xs,m,_,_,hl,hxs,hel⟩:=DataW.trod_struct u29 hf
 rw [c29] at hl
 rw [f29s] at hxs
 have fb:=f29b
 simp only [List.all_cons,List.all_nil,Bool.and_eq_true,beq_iff_eq,and_true] at fb
 obtain ⟨⟨o0,t0⟩,⟨o1,t1⟩,⟨o2,t2⟩,⟨o3,t3⟩,⟨o4,t4⟩⟩:=fb
 have e0:=hel 0 _ (get_bang (by rw [f29s]; decide))
 have e1:=hel 1 _ (get_bang (by rw [f29s]; decide))
 have e2:=hel 2 _ (get_bang (by rw [f29s]; decide))
 have e3:=hel 3 _ (get_bang (by rw [f29s]; decide))
 have e4:=hel 4 _ (get_bang (by rw [f29s]; decide))
 rw [o0,t0,c24,List.getElem?_eq_getElem (by omega)] at e0
 rw [o1,t1,c3,List.getElem?_eq_getElem (by omega)] at e1
 rw [o2,t2,c25,List.getElem?_eq_getElem (by omega)] at e2
 rw [o3,t3,c26,List.getElem?_eq_getElem (by omega)] at e3
 rw [o4,t4,c27,List.getElem?_eq_getElem (by omega)] at e4
 obtain ⟨A0,d0,l0,g0,m0,n0⟩:=tally_of e0
 obtain ⟨n1,g1,_,_⟩:=DataW.trod_int u3 e1
 obtain ⟨A2,c2',l2,g2,h21,h22⟩:=slice_flat u25 flat65 c65 (by decide) e2
 obtain ⟨A3,c3',l3,g3,h31,h32⟩:=slice_flat u26 flat67 c67 (by decide) e3
 obtain ⟨A4,c4',l4,g4,h41,h42⟩:=slice_flat u27 flat72 c72 (by decide) e4
 have m2:=rd_map (e2:=eTicketSeason) seasOf (fun x hx=>seasOf_cells (h21 x hx).1) h22
 have m3:=rd_map (e2:=eTicketShow) showOf (fun x hx=>showOf_cells (h31 x hx).1) h32
 have m4:=rd_map (e2:=eTicketBox) boxOf (fun x hx=>boxOf_cells (h41 x hx).1) h42
 refine ⟨A0,d0,A2,c2',A3,c3',A4,c4',⟨l0,n1,l2.map seasOf,l3.map showOf,l4.map boxOf⟩,?_,m0,m2,m3,m4,n0,?_,?_,?_⟩
 ·obtain ⟨cl⟩:=cs
  match cl,hl with
  | [y0,y1,y2,y3,y4,y5,y6],_=>
    simp [Value.cells] at g0 g1 g2 g3 g4
    obtain ⟨rfl,rfl,rfl⟩:=g0
    subst g1 g2 g3 g4
    simp
 ·have:=maxLen_le; have:=m2.2.1; have:=m2.2.2; simp only; omega
 ·have:=maxLen_le; have:=m3.2.1; have:=m3.2.2; simp only; omega
 ·have:=maxLen_le; have:=m4.2.1; have:=m4.2.2; simp only; omega
end Go.Proofs.YtafhljljfglfeaaDoor
namespace Go.Proofs.YtafhljljfglfeaaDoor
open Go Go.Fx Go.Tally
theorem wrI {x:Int} (h0:-9223372036854775808≤x) (h1:x≤9223372036854775807):Fx.wr x=x:=wr_eq h0 h1
def inB (a lo hi:Int):Bool:=decide (lo≤a)&&decide (a≤hi)
theorem inB_iff {a lo hi:Int}:inB a lo hi=true↔lo≤a∧a≤hi:=by simp [inB]
theorem within_eq (a b c:Int):tally_within a b c=some (inB a b c):=by
 unfold tally_within inB
 cases decide (b≤a) <;> rfl
theorem inside_eq (a b c:Int):B_Inside a b c=some (inB a b c):=by
 unfold B_Inside inB
 rw [show decide (a≥b)=decide (b≤a) from rfl]
 cases decide (b≤a) <;> rfl
def tripsB (T f t:Int):Bool:=inB f 0 t&&decide (t < T)
theorem isTrips_eq (b:TallyBook) (f t:Int):tally_isTrips b f t=some (tripsB b.Trips f t):=by
 unfold tally_isTrips tripsB
 rw [within_eq]
 simp only [Option.bind_some]
 cases inB f 0 t <;> rfl
def cntB (T:Int) (x:TallyCount):Bool:=inB x.Who 0 2&&tripsB T x.From x.To&&inB x.Told 0 99&&inB x.Unit 1 20&&inB x.Under 0 30&&inB x.Over 0 30&&((x.Who != 1)||(x.Over==0))
theorem isCount_eq (b:TallyBook) (x:TallyCount):tally_isCount b x=some (cntB b.Trips x):=by
 unfold tally_isCount tally_isCount_j1 cntB
 simp only [within_eq,isTrips_eq,Option.bind_some]
 cases inB x.Who 0 2 <;> cases tripsB b.Trips x.From x.To <;> cases inB x.Told 0 99 <;> cases inB x.Unit 1 20 <;> cases inB x.Under 0 30 <;> cases inB x.Over 0 30 <;> cases (x.Who != 1) <;> rfl
def cntsB (T:Int) (l:List TallyCount):Bool:=l.all (cntB T)
def valB (b:TallyBook):Bool:=inB b.Trips 1 8&&inB b.Room 0 60&&decide ((b.Counts.length:Int)≤8)&&cntsB b.Trips b.Counts
theorem getI_lt {α:Type}{l:List α}{i:Int} (h0:0≤i) (h:i < l.length):∃ x,getI l i=some x∧l[i.toNat]? =some x:=by
 have hi:i.toNat < l.length:=by omega
 exact ⟨l[i.toNat],getI_of h0 (List.getElem?_eq_getElem hi),List.getElem?_eq_getElem hi⟩
theorem drop_get {α:Type}{l:List α}{k:Nat}{x:α} (h:l[k]? =some x):l.drop k=x::l.drop (k+1):=by
 obtain ⟨h1,rfl⟩:=List.getElem?_eq_some_iff.1 h
 exact List.drop_eq_getElem_cons h1
theorem check_loop (b:TallyBook) (hl:b.Counts.length≤9223372036854775807) (ok:Bool):loopF (tally_Check_l2 b) big (ok,0)=some (bif ok&&cntsB b.Trips b.Counts then 0 else 50):=by
 refine loopF_spec (fun s:Bool×Int=>0≤s.2∧s.2≤b.Counts.length) (fun s=>b.Counts.length - s.2.toNat) (fun s=>bif s.1&&cntsB b.Trips (b.Counts.drop s.2.toNat) then 0 else 50) ?_ big (ok,0) ⟨by simp,by simp⟩ (by unfold big; simp; omega)
 rintro rec ⟨ok,i⟩ ⟨h0,h1⟩ ih
 simp only at h0 h1 ih ⊢
 unfold tally_Check_l2
 simp only
 by_cases hi:i < b.Counts.length
 ·rw [decide_eq_true hi,cond_true]
  obtain ⟨x,hx,hx'⟩:=getI_lt h0 hi
  rw [hx,Option.bind_some]
  have hd:=drop_get hx'
  have hw:Fx.wr (i+1)=i+1:=wrI (by omega) (by omega)
  have e:(i+1).toNat=i.toNat+1:=by omega
  rw [hd,hw]
  cases ok with
  | true=>
    rw [cond_true,isCount_eq,Option.bind_some,ih _ ⟨by simp; omega,by simp; omega⟩ (by simp; omega)]
    simp only [e,cntsB,List.all_cons,Bool.true_and]
  | false=>
    rw [cond_false,ih _ ⟨by simp; omega,by simp; omega⟩ (by simp; omega)]
    simp
 ·rw [decide_eq_false hi,cond_false,show b.Counts.drop i.toNat=[] from List.drop_eq_nil_of_le (by omega)]
  cases ok <;> simp [cntsB]
theorem check_eq (b:TallyBook) (hl:b.Counts.length≤9223372036854775807):tally_Check b=some (bif valB b then 0 else 50):=by
 unfold tally_Check tally_Check_j3 valB
 simp only [within_eq,Option.bind_some,check_loop b hl]
 cases inB b.Trips 1 8 <;> cases inB b.Room 0 60 <;> simp
theorem mod_ok (a m:Int) (h:0 < m) (h2:m≤9223372036854775807):∃ r,B_Mod a m=some r∧0≤r∧r < m:=by
 unfold B_Mod modI
 rw [decide_eq_false (by omega),cond_false,need_of (by simp; omega)]
 have h3:=Int.tmod_lt_of_pos a h
 have h4:=Int.lt_tmod_of_pos a h
 by_cases hn:a.tmod m < 0
 ·rw [decide_eq_true hn,cond_true,wrI (by omega) (by omega)]
  exact ⟨_,rfl,by omega,by omega⟩
 ·rw [decide_eq_false hn,cond_false]
  exact ⟨_,rfl,by omega,by omega⟩
structure Val (b:TallyBook):Prop where
 t1:1≤b.Trips
 t8:b.Trips≤8
 r0:0≤b.Room
 r60:b.Room≤60
 l8:b.Counts.length≤8
 cs:∀ x∈b.Counts,cntB b.Trips x=true
structure Bk (b:TallyBook):Prop where
 t1:1≤b.Trips
 t8:b.Trips≤8
 r0:0≤b.Room
 r60:b.Room≤60
 l9:b.Counts.length≤9
 cs:∀ x∈b.Counts,cntB b.Trips x=true
theorem Val.bk {b:TallyBook} (h:Val b):Bk b:=⟨h.t1,h.t8,h.r0,h.r60,by have:=h.l8; omega,h.cs⟩
theorem val_iff {b:TallyBook}:valB b=true↔Val b:=by
 unfold valB cntsB
 simp only [Bool.and_eq_true,inB_iff,decide_eq_true_eq,List.all_eq_true]
 constructor
 ·rintro ⟨⟨⟨⟨a,b⟩,c,d⟩,e⟩,f⟩; exact ⟨a,b,c,d,by omega,f⟩
 ·rintro ⟨a,b,c,d,e,f⟩; exact ⟨⟨⟨⟨a,b⟩,c,d⟩,by omega⟩,f⟩
theorem check_ok {b:TallyBook} (h:Val b):tally_Check b=some 0:=by
 rw [check_eq b (by have:=h.l8; omega),val_iff.2 h]; rfl
structure Cnt (T:Int) (x:TallyCount):Prop where
 w0:0≤x.Who
 w2:x.Who≤2
 f0:0≤x.From
 ft:x.From≤x.To
 tT:x.To < T
 o0:0≤x.Told
 o99:x.Told≤99
 u1:1≤x.Unit
 u20:x.Unit≤20
 d0:0≤x.Under
 d30:x.Under≤30
 v0:0≤x.Over
 v30:x.Over≤30
 st:x.Who=1→x.Over=0
theorem cnt_iff {T:Int}{x:TallyCount}:cntB T x=true↔Cnt T x:=by
 unfold cntB tripsB
 simp only [Bool.and_eq_true,inB_iff,decide_eq_true_eq,Bool.or_eq_true,bne_iff_ne,beq_iff_eq]
 constructor
 ·intro h; obtain ⟨⟨⟨⟨⟨⟨⟨a,b⟩,⟨c,d⟩,e⟩,f,g⟩,h,i⟩,j,k⟩,l,m⟩,n⟩:=h
  exact ⟨a,b,c,d,e,f,g,h,i,j,k,l,m,fun h=>by omega⟩
 ·rintro ⟨a,b,c,d,e,f,g,h,i,j,k,l,m,n⟩
  exact ⟨⟨⟨⟨⟨⟨⟨a,b⟩,⟨c,d⟩,e⟩,f,g⟩,h,i⟩,j,k⟩,l,m⟩,by omega⟩
theorem Cnt.prod {T:Int}{x:TallyCount} (h:Cnt T x):0≤x.Told*x.Unit∧x.Told*x.Unit≤1980:=by
 have h1:=h.o0; have h2:=h.o99; have h3:=h.u1; have h4:=h.u20
 constructor
 ·exact Int.mul_nonneg h1 (by omega)
 ·have:x.Told*x.Unit≤99*20:=Int.mul_le_mul h2 h4 (by omega) (by omega)
  omega
def mostV (x:TallyCount):Int:=x.Told*x.Unit+x.Under
def leastV (x:TallyCount):Int:=x.Told*x.Unit - x.Over
theorem most_eq {T:Int}{x:TallyCount} (h:Cnt T x):tally_count_most x=some (mostV x):=by
 have:=h.prod; have:=h.d0; have:=h.d30
 unfold tally_count_most mostV
 rw [wrI (x:=x.Told*x.Unit) (by omega) (by omega),wrI (by omega) (by omega)]
theorem least_eq {T:Int}{x:TallyCount} (h:Cnt T x):tally_count_least x=some (leastV x):=by
 have:=h.prod; have:=h.v0; have:=h.v30
 unfold tally_count_least leastV
 rw [wrI (x:=x.Told*x.Unit) (by omega) (by omega),wrI (by omega) (by omega)]
theorem Cnt.bnds {T:Int}{x:TallyCount} (h:Cnt T x):0≤mostV x∧mostV x≤2010∧-30≤leastV x∧leastV x≤1980∧leastV x≤mostV x:=by
 have:=h.prod; have:=h.v0; have:=h.v30; have:=h.d0; have:=h.d30
 unfold mostV leastV
 omega
theorem getI_ix {α:Type}{l:List α}{k:Nat} (h:k < l.length):getI l (k:Int)=some l[k]:=by rw [getI_nat,List.getElem?_eq_getElem h]
theorem loop_fold {σ ρ:Type}{body:(σ→Option ρ)→σ→Option ρ} (S:Nat→σ) (n:Nat) {R:Option ρ} (hs:∀ rec k,k < n→body rec (S k)=rec (S (k+1))) (he:∀ rec,body rec (S n)=R) (hn:n < big):loopF body big (S 0)=R:=by
 have key:∀ d k m,k+d=n→d < m→loopF body m (S k)=R:=by
  intro d
  induction d with
  | zero=>
    intro k m h1 h2
    obtain ⟨m,rfl⟩:∃ q,m=q+1:=⟨m - 1,by omega⟩
    obtain rfl:k=n:=by omega
    exact he _
  | succ d ih=>
    intro k m h1 h2
    obtain ⟨m,rfl⟩:∃ q,m=q+1:=⟨m - 1,by omega⟩
    show body (loopF body m) (S k)=R
    rw [hs _ k (by omega)]
    exact ih (k+1) m (by omega) (by omega)
 exact key n 0 big (by omega) hn
theorem loop_fold0 {σ ρ:Type}{body:(σ→Option ρ)→σ→Option ρ} (S:Nat→σ) (n:Nat) {s0:σ}{R:Option ρ} (hs:∀ rec k,k < n→body rec (S k)=rec (S (k+1))) (he:∀ rec,body rec (S n)=R) (hn:n < big) (h0:S 0=s0):loopF body big s0=R:=h0▸loop_fold S n hs he hn
theorem big_eq:big=18446744073709551616:=by decide
def allTo {α:Type} (p:α→Bool) (l:List α) (ok:Bool) (k:Nat):Bool:=ok&&(l.take k).all p
theorem allTo_zero {α:Type}{p:α→Bool}{l:List α}{ok:Bool}:allTo p l ok 0=ok:=by simp [allTo]
theorem allTo_succ {α:Type}{p:α→Bool}{l:List α}{ok:Bool}{k:Nat} (h:k < l.length):allTo p l ok (k+1)=(allTo p l ok k&&p l[k]):=by
 unfold allTo
 rw [← List.take_append_getElem h,List.all_append]
 simp [Bool.and_assoc]
theorem allTo_end {α:Type}{p:α→Bool}{l:List α}{ok:Bool}:allTo p l ok l.length=(ok&&l.all p):=by simp [allTo]
theorem wrN {k:Nat}{n:Nat} (h:k < n) (hn:n≤9223372036854775807):Fx.wr ((k:Int)+1)=((k+1:Nat):Int):=by rw [wrI (by omega) (by omega)]; omega
theorem loop_at {σ ρ:Type}{body:(σ→Option ρ)→σ→Option ρ}{s:σ}{R:Option ρ} (h:∀ rec,body rec s=R):loopF body big s=R:=by
 rw [big_eq]; exact h _
end Go.Proofs.YtafhljljfglfeaaDoor
namespace Go.Proofs.YtafhljljfglfeaaDoor
open Go Go.Fx Go.Tally
theorem loopF_succ {σ ρ:Type}{body:(σ→Option ρ)→σ→Option ρ}{n:Nat}{s:σ}:loopF body (n+1) s=body (loopF body n) s:=rfl
theorem least1_eq (a x:Int):tally_least_int a [x]=some (if x < a then x else a):=by
 have hb:big=18446744073709551614+1+1:=by decide
 unfold tally_least_int
 rw [hb,loopF_succ,tally_least_int_l1]
 simp only [List.length_singleton]
 rw [show getI [x] 0=some x from rfl,Option.bind_some,loopF_succ,tally_least_int_l1]
 have w:Fx.wr 1=1:=wrI (by omega) (by omega)
 simp [w]
abbrev LP:=List (Tally_pair×Int)
def noteP (m:LP) (p:Tally_pair) (n:Int):LP:=putL m p (match lookL m p with | some o=>if o < n then o else n | none=>n)
theorem note_eq (b:Tally_book) (p:Tally_pair) (n:Int):tally_book_note b p n=some (noteP b.more_ p n):=by
 unfold tally_book_note noteP optC
 cases lookL b.more_ p with
 | none=>rfl
 | some o=>
   simp only [tally_book_note_j7,cond_true,least1_eq,Option.bind_some]
   rfl
def PotP (m:LP) (q:Nat→Int):Prop:=Pot (m.map entOf) q
theorem potP_iff {m:LP}{q:Nat→Int}:PotP m q↔∀ e∈m,q e.1.to_.toNat≤q e.1.from_.toNat+e.2:=by
 unfold PotP Pot
 constructor
 ·intro h e he; exact h (entOf e) (List.mem_map_of_mem he)
 ·intro h e he
  obtain ⟨x,hx,rfl⟩:=List.mem_map.1 he
  exact h x hx
def Has (m:LP) (p:Tally_pair) (n:Int):Prop:=∃ v,v≤n∧(p,v)∈m
theorem put_cases (m:LP) (p:Tally_pair) (v:Int):(∃ (i:Nat) (o:Int),m[i]? =some (p,o)∧lookL m p=some o∧putL m p v=m.set i (p,v))∨(lookL m p=none∧putL m p v=m++[(p,v)]):=by
 unfold putL
 rw [find_look]
 cases h:(m.map (·.1)).findIdx? (·==p) with
 | none=>exact .inr ⟨rfl,rfl⟩
 | some i=>
   obtain ⟨hi,hp⟩:=List.findIdx?_eq_some_iff_getElem.1 h
   have hi' :i < m.length:=by simpa using hi
   have hp' :m[i].1=p:=by simpa using hp.1
   refine .inl ⟨i,m[i].2,?_,?_,rfl⟩
   ·rw [List.getElem?_eq_getElem hi',← hp']
   ·simp [List.getElem?_eq_getElem hi']
theorem mem_set_iff {α:Type}{l:List α}{i:Nat}{a x:α} (hi:i < l.length):x∈l.set i a↔x=a∨∃ j,j≠i∧l[j]? =some x:=by
 constructor
 ·intro h
  obtain ⟨j,hj,rfl⟩:=List.getElem_of_mem h
  by_cases hji:j=i
  ·subst hji; left; simp
  ·right; refine ⟨j,hji,?_⟩
   rw [List.getElem_set_ne (fun e=>hji e.symm)]
   exact List.getElem?_eq_getElem _
 ·rintro (rfl | ⟨j,hj,h⟩)
  ·exact List.mem_set hi ..
  ·refine List.mem_of_getElem? (i:=j) ?_
   rw [List.getElem?_set_ne (fun e=>hj e.symm)]
   exact h
structure NoteR (m m' :LP) (p:Tally_pair) (n:Int):Prop where
 pot:∀ q,PotP m' q↔PotP m q∧q p.to_.toNat≤q p.from_.toNat+n
 has:∀ p' n',Has m p' n' →Has m' p' n'
 own:Has m' p n
 len:m'.length≤m.length+1
 keys:∀ e∈m',e.1=p∨∃ e' ∈m,e.1=e'.1
 vals:∀ lo hi,lo≤n→n≤hi→(∀ e∈m,lo≤e.2∧e.2≤hi)→∀ e∈m',lo≤e.2∧e.2≤hi
theorem note_R (m:LP) (p:Tally_pair) (n:Int):NoteR m (noteP m p n) p n:=by
 unfold noteP
 generalize hv:(match lookL m p with | some o=>if o < n then o else n | none=>n)=v
 rcases put_cases m p v with ⟨i,o,h1,h2,h3⟩ | ⟨h1,h2⟩
 ·rw [h2] at hv
  simp only at hv
  have hi:i < m.length:=(List.getElem?_eq_some_iff.1 h1).1
  have hvo:v≤o∧v≤n∧(v=o∨v=n):=by rw [← hv]; split <;> omega
  have hom:=List.mem_of_getElem? h1
  rw [h3]
  refine ⟨fun q=>?_,fun p' n' h=>?_,⟨v,hvo.2.1,(mem_set_iff hi).2 (.inl rfl)⟩,by simp,fun e he=>?_,fun lo hi' hlo hhi h e he=>?_⟩
  ·rw [potP_iff,potP_iff]
   constructor
   ·intro h
    have hp:=h (p,v) ((mem_set_iff hi).2 (.inl rfl))
    simp only at hp
    refine ⟨fun e he=>?_,by omega⟩
    obtain ⟨j,hj,rfl⟩:=List.getElem_of_mem he
    by_cases hji:j=i
    ·subst hji
     rw [List.getElem?_eq_getElem hj] at h1
     rw [Option.some.inj h1]
     simp only
     omega
    ·exact h _ ((mem_set_iff hi).2 (.inr ⟨j,hji,List.getElem?_eq_getElem hj⟩))
   ·rintro ⟨h,hn⟩ e he
    rcases (mem_set_iff hi).1 he with rfl | ⟨j,_,hj⟩
    ·have:=h (p,o) hom
     simp only at this ⊢
     rcases hvo.2.2 with e | e <;> rw [e] <;> assumption
    ·exact h e (List.mem_of_getElem? hj)
  ·obtain ⟨v',hv',hm⟩:=h
   obtain ⟨j,hj,hje⟩:=List.getElem_of_mem hm
   by_cases hji:j=i
   ·subst hji
    rw [List.getElem?_eq_getElem hj,hje] at h1
    cases h1
    exact ⟨v,by omega,(mem_set_iff hi).2 (.inl rfl)⟩
   ·exact ⟨v',hv',(mem_set_iff hi).2 (.inr ⟨j,hji,by rw [List.getElem?_eq_getElem hj,hje]⟩)⟩
  ·rcases (mem_set_iff hi).1 he with rfl | ⟨j,_,hj⟩
   ·exact .inl rfl
   ·exact .inr ⟨e,List.mem_of_getElem? hj,rfl⟩
  ·rcases (mem_set_iff hi).1 he with rfl | ⟨j,_,hj⟩
   ·have:=h (p,o) hom
    simp only at this ⊢
    omega
   ·exact h e (List.mem_of_getElem? hj)
 ·rw [h1] at hv
  simp only at hv
  subst hv
  rw [h2]
  refine ⟨fun q=>?_,fun p' n' ⟨v',hv',hm⟩=>⟨v',hv',List.mem_append_left _ hm⟩,⟨n,Int.le_refl _,List.mem_append_right _ (List.mem_singleton.2 rfl)⟩,by simp,fun e he=>?_,fun lo hi' hlo hhi h e he=>?_⟩
  ·rw [potP_iff,potP_iff]
   constructor
   ·intro h
    exact ⟨fun e he=>h e (List.mem_append_left _ he),h _ (List.mem_append_right _ (List.mem_singleton.2 rfl))⟩
   ·rintro ⟨h,hn⟩ e he
    rcases List.mem_append.1 he with he | he
    ·exact h e he
    ·rw [List.mem_singleton.1 he]; exact hn
  ·rcases List.mem_append.1 he with he | he
   ·exact .inr ⟨e,he,rfl⟩
   ·exact .inl (by rw [List.mem_singleton.1 he])
  ·rcases List.mem_append.1 he with he | he
   ·exact h e he
   ·rw [List.mem_singleton.1 he]; exact ⟨hlo,hhi⟩
structure Ok (t:Int) (m:LP) (n:Nat):Prop where
 keys:∀ e∈m,0≤e.1.from_∧e.1.from_≤t∧0≤e.1.to_∧e.1.to_≤t
 vals:∀ e∈m,-10000≤e.2∧e.2≤10000
 len:m.length≤n
theorem Ok.note {t:Int}{m m' :LP}{k:Nat}{p:Tally_pair}{n:Int} (h:Ok t m k) (R:NoteR m m' p n) (hp:0≤p.from_∧p.from_≤t∧0≤p.to_∧p.to_≤t) (hn:-10000≤n∧n≤10000):Ok t m' (k+1):=
 ⟨fun e he=>by
  rcases R.keys e he with h1 | ⟨e',he',h1⟩
  ·rw [h1]; exact hp
  ·rw [h1]; exact h.keys e' he',R.vals _ _ hn.1 hn.2 h.vals,by have:=R.len; have:=h.len; omega⟩
def Steps (t r:Int) (q:Nat→Int):Prop:=∀ k:Nat,(k:Int) < t→q (k+1)≤q k+r∧q k≤q (k+1)
def CntQ (x:TallyCount) (q:Nat→Int):Prop:=leastV x≤q (x.To+1).toNat - q x.From.toNat∧q (x.To+1).toNat - q x.From.toNat≤mostV x
def CntsQ (l:List TallyCount) (out:TallyCount→Nat→Bool) (q:Nat→Int):Prop:=∀ i x,l[i]? =some x→out x i=false→CntQ x q
def Fit (b:TallyBook) (out:TallyCount→Nat→Bool) (q:Nat→Int):Prop:=Steps b.Trips b.Room q∧CntsQ b.Counts out q
theorem opened_counts {b:TallyBook} (V:Bk b) {lv:Tally_leave}{out:TallyCount→Nat→Bool} (hlv:∀ (i:Nat) x,b.Counts[i]? =some x→lv.out_ x (i:Int)=some (out x i)) {m0:LP}{k0:Nat} (h0:Ok b.Trips m0 k0):
 ∃ m,loopF (tally_opened_l4 b lv) big (0,m0)=some ⟨b,m⟩∧Ok b.Trips m (k0+2*b.Counts.length)∧(∀ p n,Has m0 p n→Has m p n)∧∀ q,PotP m q↔PotP m0 q∧CntsQ b.Counts out q:=by
 have hl:=V.l9
 refine Exists.elim (loopF_inv (body:=tally_opened_l4 b lv) (fun s:Int×LP=>∃ i:Nat,s.1=i∧i≤b.Counts.length∧Ok b.Trips s.2 (k0+2*i)∧(∀ p n,Has m0 p n→Has s.2 p n)∧∀ q,PotP s.2 q↔PotP m0 q∧∀ j x,j < i→b.Counts[j]? =some x→out x j=false→CntQ x q)
  (fun s=>b.Counts.length - s.1.toNat) (fun r=>∃ m,r=⟨b,m⟩∧Ok b.Trips m (k0+2*b.Counts.length)∧(∀ p n,Has m0 p n→Has m p n)∧∀ q,PotP m q↔PotP m0 q∧CntsQ b.Counts out q) ?_ big (0,m0) ⟨0,rfl,Nat.zero_le _,by simpa using h0,fun _ _ h=>h,fun q=>by simp⟩ (by unfold big; simp; omega)) fun r ⟨hr,m,hre,hm⟩=>⟨m,by rw [hr,hre],hm⟩
 ·rintro rec ⟨i',m⟩ ⟨i,rfl,hi,hok,hhas,hpot⟩ ih
  simp only at hok hhas hpot ih ⊢
  unfold tally_opened_l4
  simp only
  by_cases hlt:i < b.Counts.length
  ·rw [decide_eq_true (by omega),cond_true,getI_nat,List.getElem?_eq_getElem hlt,Option.bind_some]
   have hx:b.Counts[i]? =some b.Counts[i]:=List.getElem?_eq_getElem hlt
   generalize b.Counts[i]=x at hx
   have hc:=cnt_iff.1 (V.cs x (List.mem_of_getElem? hx))
   have hb:=hc.bnds
   rw [hlv i x hx,Option.bind_some]
   have hw:Fx.wr ((i:Int)+1)=((i+1:Nat):Int):=by rw [wrI (by omega) (by omega)]; omega
   have split_:∀ {Q:Nat→TallyCount→Prop},(∀ j y,j < i+1→b.Counts[j]? =some y→Q j y)↔(∀ j y,j < i→b.Counts[j]? =some y→Q j y)∧Q i x:=by
    intro Q
    constructor
    ·intro h; exact ⟨fun j y hj=>h j y (by omega),h i x (by omega) hx⟩
    ·rintro ⟨h1,h2⟩ j y hj hy
     by_cases hji:j=i
     ·subst hji; rw [hx] at hy; cases hy; exact h2
     ·exact h1 j y (by omega) hy
   cases ho:out x i with
   | true=>
     rw [cond_true,hw]
     refine ih _ ⟨i+1,rfl,by omega,⟨hok.keys,hok.vals,by have:=hok.len; simp only; omega⟩,hhas,fun q=>?_⟩ (by simp; omega)
     rw [hpot,split_ (Q:=fun j y=>out y j=false→CntQ y q)]
     simp [ho]
   | false=>
     have ht:=hc.tT; have hf:=hc.f0; have hft:=hc.ft
     have hw1:Fx.wr (x.To+1)=x.To+1:=by have:=V.t8; exact wrI (by omega) (by omega)
     rw [cond_false,most_eq hc,Option.bind_some,note_eq,Option.bind_some,least_eq hc,Option.bind_some,note_eq,Option.bind_some,hw,hw1,wrI (x:=-leastV x) (by omega) (by omega)]
     simp only
     have R1:=note_R m ⟨x.From,x.To+1⟩ (mostV x)
     have R2:=note_R (noteP m ⟨x.From,x.To+1⟩ (mostV x)) ⟨x.To+1,x.From⟩ (-leastV x)
     refine ih _ ⟨i+1,rfl,by omega,?_,fun p n h=>R2.has p n (R1.has p n (hhas p n h)),fun q=>?_⟩ (by simp; omega)
     ·have:=(hok.note R1 (by simp only; omega) (by omega)).note R2 (by simp only; omega) (by omega)
      exact ⟨this.keys,this.vals,by have:=this.len; simp only; omega⟩
     ·rw [R2.pot,R1.pot,hpot,split_ (Q:=fun j y=>out y j=false→CntQ y q)]
      simp only [ho,CntQ,forall_const]
      constructor
      ·rintro ⟨⟨⟨h1,h2⟩,h3⟩,h4⟩; exact ⟨h1,h2,by omega,by omega⟩
      ·rintro ⟨h1,h2,h3,h4⟩; exact ⟨⟨⟨h1,h2⟩,by omega⟩,by omega⟩
  ·rw [decide_eq_false (by omega),cond_false]
   have he:i=b.Counts.length:=by omega
   subst he
   refine ⟨_,rfl,m,rfl,hok,hhas,fun q=>?_⟩
   rw [hpot]
   refine and_congr_right fun _=>?_
   constructor
   ·intro h j x hx; exact h j x (List.getElem?_eq_some_iff.1 hx).1 hx
   ·intro h j x _ hx; exact h j x hx
theorem opened_eq {b:TallyBook} (V:Bk b) {lv:Tally_leave}{out:TallyCount→Nat→Bool} (hlv:∀ (i:Nat) x,b.Counts[i]? =some x→lv.out_ x (i:Int)=some (out x i)):
 ∃ m,tally_opened b lv=some ⟨b,m⟩∧Ok b.Trips m 34∧(∀ k:Nat,(k:Int) < b.Trips→Has m ⟨k,k+1⟩ b.Room∧Has m ⟨k+1,k⟩ 0)∧∀ q,PotP m q↔Fit b out q:=by
 have t8:=V.t8; have t1:=V.t1; have r0:=V.r0; have r60:=V.r60; have l8:=V.l9
 unfold tally_opened
 refine Exists.elim (loopF_inv (body:=tally_opened_l5 b lv) (fun s:Int×LP=>∃ i:Nat,s.1=i∧(i:Int)≤b.Trips∧Ok b.Trips s.2 (2*i)∧(∀ k:Nat,k < i→Has s.2 ⟨k,k+1⟩ b.Room∧Has s.2 ⟨k+1,k⟩ 0)∧∀ q,PotP s.2 q↔∀ k:Nat,k < i→q (k+1)≤q k+b.Room∧q k≤q (k+1))
  (fun s=>b.Trips.toNat - s.1.toNat) (fun r=>∃ m,r=⟨b,m⟩∧Ok b.Trips m 34∧(∀ k:Nat,(k:Int) < b.Trips→Has m ⟨k,k+1⟩ b.Room∧Has m ⟨k+1,k⟩ 0)∧∀ q,PotP m q↔Fit b out q) ?_ big (0,([]:LP))
   ⟨0,rfl,by omega,⟨fun e he=>(List.not_mem_nil he).elim,fun e he=>(List.not_mem_nil he).elim,Nat.zero_le _⟩,fun k hk=>absurd hk (Nat.not_lt_zero k),fun q=>by simp [potP_iff]⟩ (by unfold big; simp; omega)) fun r ⟨hr,m,hre,hm⟩=>⟨m,by rw [hr,hre],hm⟩
 rintro rec ⟨i',m⟩ ⟨i,rfl,hi,hok,hhas,hpot⟩ ih
 simp only at hi hok hhas hpot ih ⊢
 unfold tally_opened_l5
 simp only
 by_cases hlt:(i:Int) < b.Trips
 ·have hw:Fx.wr ((i:Int)+1)=(i:Int)+1:=wrI (by omega) (by omega)
  rw [decide_eq_true hlt,cond_true,note_eq,Option.bind_some,note_eq,Option.bind_some,hw]
  simp only
  have R1:=note_R m ⟨(i:Int),(i:Int)+1⟩ b.Room
  have R2:=note_R (noteP m ⟨(i:Int),(i:Int)+1⟩ b.Room) ⟨(i:Int)+1,(i:Int)⟩ 0
  refine ih _ ⟨i+1,by simp,by omega,?_,fun k hk=>?_,fun q=>?_⟩ (by simp; omega)
  ·have:=(hok.note R1 (by simp only; omega) (by omega)).note R2 (by simp only; omega) (by omega)
   exact ⟨this.keys,this.vals,by have:=this.len; simp only; omega⟩
  ·by_cases hki:k=i
   ·subst hki; exact ⟨R2.has _ _ R1.own,R2.own⟩
   ·have:=hhas k (by omega)
    exact ⟨R2.has _ _ (R1.has _ _ this.1),R2.has _ _ (R1.has _ _ this.2)⟩
  ·rw [R2.pot,R1.pot,hpot]
   simp only [show ((i:Int)+1).toNat=i+1 by omega,Int.toNat_natCast]
   constructor
   ·rintro ⟨⟨h1,h2⟩,h3⟩ k hk
    by_cases hki:k=i
    ·subst hki; exact ⟨h2,by omega⟩
    ·exact h1 k (by omega)
   ·intro h
    have:=h i (by omega)
    exact ⟨⟨fun k hk=>h k (by omega),this.1⟩,by omega⟩
 ·have he:(i:Int)=b.Trips:=by omega
  rw [decide_eq_false hlt,cond_false]
  obtain ⟨m',h1,h2,h3,h4⟩:=opened_counts V hlv hok
  refine ⟨_,h1,m',rfl,⟨h2.keys,h2.vals,by have:=h2.len; omega⟩,fun k hk=>?_,fun q=>?_⟩
  ·have:=hhas k (by omega)
   exact ⟨h3 _ _ this.1,h3 _ _ this.2⟩
  ·rw [h4,hpot]
   unfold Fit Steps
   refine and_congr_left fun _=>?_
   constructor
   ·intro h k hk; exact h k (by omega)
   ·intro h k hk; exact h k (by omega)
structure Opn (b:TallyBook) (out:TallyCount→Nat→Bool) (m:LP):Prop where
 val:Bk b
 ok:Ok b.Trips m 34
 has:∀ k:Nat,(k:Int) < b.Trips→Has m ⟨k,k+1⟩ b.Room∧Has m ⟨k+1,k⟩ 0
 pot:∀ q,PotP m q↔Fit b out q
theorem Opn.vd {b:TallyBook}{out:TallyCount→Nat→Bool}{m:LP} (h:Opn b out m) {s:Int} (h0:0≤s) (h1:s≤b.Trips):Vd b.Trips s (m.map entOf):=by
 have:=h.val.t1; have:=h.val.t8; have:=h.val.r60
 refine ⟨by omega,by omega,h0,h1,fun e he=>?_,fun e he=>?_,by have:=h.ok.len; simp; omega,fun k hk=>?_,fun k hk=>?_⟩
 ·obtain ⟨x,hx,rfl⟩:=List.mem_map.1 he; exact h.ok.keys x hx
 ·obtain ⟨x,hx,rfl⟩:=List.mem_map.1 he; exact h.ok.vals x hx
 ·obtain ⟨v,hv,hm⟩:=(h.has k hk).1
  exact ⟨v,by omega,List.mem_map.2 ⟨_,hm,rfl⟩⟩
 ·obtain ⟨v,hv,hm⟩:=(h.has k hk).2
  exact ⟨v,hv,List.mem_map.2 ⟨_,hm,rfl⟩⟩
theorem from_eq {b:TallyBook}{out:TallyCount→Nat→Bool}{m:LP} (h:Opn b out m) {s:Int} (h0:0≤s) (h1:s≤b.Trips) (l:List TallyCount):
 ∃ o r,tally_from ⟨⟨b.Trips,b.Room,l⟩,m⟩ s=some (o,r)∧((r=false∧o=zeros∧¬∃ q,Fit b out q)∨(r=true∧Mx b.Trips s (m.map entOf) o)):=by
 have V:=h.vd h0 h1
 have t1:=h.val.t1
 refine ⟨(fromD b.Trips s (m.map entOf)).1,(fromD b.Trips s (m.map entOf)).2,?_,?_⟩
 ·unfold tally_from
  rw [vdB_iff.2 V,decide_eq_true t1]
  rfl
 ·rcases from_pot V (fromD_R b.Trips s (m.map entOf)) with ⟨e1,e2,e3⟩ | ⟨e1,e2⟩
  ·exact .inl ⟨e1,e2,fun ⟨q,hq⟩=>e3 ⟨q,(h.pot q).2 hq⟩⟩
  ·exact .inr ⟨e1,e2⟩
theorem can_eq {b:TallyBook}{out:TallyCount→Nat→Bool}{m:LP} (h:Opn b out m) (l:List TallyCount):∃ r,tally_book_can ⟨⟨b.Trips,b.Room,l⟩,m⟩=some r∧(r=true↔∃ q,Fit b out q):=by
 have:=h.val.t1
 obtain ⟨o,r,e,hr⟩:=from_eq h (s:=0) (by omega) (by omega) l
 refine ⟨r,by unfold tally_book_can; rw [e]; rfl,?_⟩
 rcases hr with ⟨rfl,_,hn⟩ | ⟨rfl,hm⟩
 ·simp [hn]
 ·simp only [true_iff]; exact ⟨_,(h.pot _).1 hm.pot⟩
structure Spn (F:(Nat→Int)→Prop) (a c:Nat) (lo hi:Int):Prop where
 loE:∃ q,F q∧q c - q a=lo
 hiE:∃ q,F q∧q c - q a=hi
 all:∀ q,F q→lo≤q c - q a∧q c - q a≤hi
theorem mx_bnd {t s:Int}{ml:List Ent}{o:List Int} (V:Vd t s ml) (M:Mx t s ml o) (v:Nat):-480≤o.getD v 0∧o.getD v 0≤480:=by
 have:=V.t0; have:=V.t8; have:=V.s0; have:=V.st
 by_cases hv:(v:Int)≤t
 ·have h1:=pot_bnd V M.pot hv
  have hz:=M.zero
  have h2:=pot_up V M.pot
  by_cases hs:v≤s.toNat
  ·have:=h2 (s.toNat - v) v (by omega)
   rw [show v+(s.toNat - v)=s.toNat by omega] at this
   omega
  ·have:=h2 (v - s.toNat) s.toNat (by omega)
   rw [show s.toNat+(v - s.toNat)=v by omega] at this
   omega
 ·rw [M.out v (by omega)]; omega
theorem Fit.shift {b:TallyBook}{out:TallyCount→Nat→Bool}{q:Nat→Int} (h:Fit b out q) (c:Int):Fit b out (fun v=>q v - c):=by
 refine ⟨fun k hk=>?_,fun i x hx ho=>?_⟩
 ·have:=h.1 k hk; show q _ - c≤q _ - c+_∧q _ - c≤q _ - c; omega
 ·have:=h.2 i x hx ho; unfold CntQ at *; show _≤q _ - c - (q _ - c)∧q _ - c - (q _ - c)≤_; omega
theorem many_eq {b:TallyBook}{out:TallyCount→Nat→Bool}{m:LP} (h:Opn b out m) (ht:∃ q,Fit b out q) {a c:Int} (a0:0≤a) (at_:a≤b.Trips) (c0:0≤c) (ct:c≤b.Trips) (l:List TallyCount):
 ∃ lo hi,tally_book_many ⟨⟨b.Trips,b.Room,l⟩,m⟩ a c=some ⟨lo,hi⟩∧Spn (Fit b out) a.toNat c.toNat lo hi:=by
 have t1:=h.val.t1; have t8:=h.val.t8
 obtain ⟨up,r1,e1,h1⟩:=from_eq h a0 at_ l
 obtain ⟨dn,r2,e2,h2⟩:=from_eq h c0 ct l
 rcases h1 with ⟨_,_,hn⟩ | ⟨_,M1⟩
 ·exact absurd ht hn
 rcases h2 with ⟨_,_,hn⟩ | ⟨_,M2⟩
 ·exact absurd ht hn
 have V1:=h.vd a0 at_
 have V2:=h.vd c0 ct
 have b1:=mx_bnd V1 M1 c.toNat
 have b2:=mx_bnd V2 M2 a.toNat
 have S:Spn (Fit b out) a.toNat c.toNat (-(dn.getD a.toNat 0)) (up.getD c.toNat 0):=by
  refine ⟨⟨_,(h.pot _).1 M2.pot,?_⟩,⟨_,(h.pot _).1 M1.pot,?_⟩,fun q hq=>?_⟩
  ·have:=M2.zero; show dn.getD c.toNat 0 - dn.getD a.toNat 0=_; omega
  ·have:=M1.zero; show up.getD c.toNat 0 - up.getD a.toNat 0=_; omega
  ·have h1:=M1.max q ((h.pot q).2 hq) c.toNat (by omega)
   have h2:=M2.max q ((h.pot q).2 hq) a.toNat (by omega)
   omega
 have fin:tally_book_many_j1 a c (dn,r2) (up,r1) ()=some ⟨-(dn.getD a.toNat 0),up.getD c.toNat 0⟩:=by
  unfold tally_book_many_j1 aget
  rw [need_of (by simp [inI]; omega),need_of (by simp [inI]; omega),wrI (by simp only; omega) (by simp only; omega)]
 refine ⟨_,_,?_,S⟩
 unfold tally_book_many
 rw [e1,Option.bind_some,e2,Option.bind_some]
 unfold tally_none
 simp only [Option.bind_some]
 cases hd:decide (sgl dn 9=sgl (List.replicate 9 0) 9)
 ·rw [cond_false]; exact fin
 ·rw [cond_true]
  cases hu:decide (sgl up 9=sgl (List.replicate 9 0) 9)
  ·rw [cond_false]; exact fin
  ·rw [cond_true]
   have hd:=of_decide_eq_true hd
   have hu:=of_decide_eq_true hu
   rw [sgl_eq M2.len,sgl_eq (by simp)] at hd
   rw [sgl_eq M1.len,sgl_eq (by simp)] at hu
   have z:∀ v,(List.replicate 9 (0:Int)).getD v 0=0:=fun v=>by
    rw [List.getD_eq_getElem?_getD,List.getElem?_replicate]; split <;> rfl
   rw [hd,hu,z,z]; rfl
end Go.Proofs.YtafhljljfglfeaaDoor
namespace Go.Proofs.YtafhljljfglfeaaDoor
open Go Go.Fx Go.Tally
def no:TallyCount→Nat→Bool:=fun _ _=>false
def CanBe (b:TallyBook):Prop:=∃ q,Fit b no q
theorem nobody_eq {b:TallyBook} (V:Bk b):∃ m,tally_opened b (Tally_leave.mk fun y19 y20=>tally_nobody_1 y19 y20)=some ⟨b,m⟩∧Opn b no m:=by
 obtain ⟨m,h1,h2,h3,h4⟩:=opened_eq V (lv:=Tally_leave.mk fun y19 y20=>tally_nobody_1 y19 y20) (out:=no) (fun i x _=>rfl)
 exact ⟨m,h1,V,h2,h3,h4⟩
theorem right_eq {b:TallyBook} (V:Val b):∃ r,tally_Right b=some (r,0)∧(r=true↔CanBe b):=by
 obtain ⟨m,hm,O⟩:=nobody_eq V.bk
 obtain ⟨r,hr,hi⟩:=can_eq O b.Counts
 refine ⟨r,?_,hi⟩
 unfold tally_Right
 rw [check_ok V,Option.bind_some]
 simp only [bne_self_eq_false,cond_false]
 unfold tally_nobody
 rw [Option.bind_some,hm,Option.bind_some]
 simp only
 rw [hr]; rfl
theorem asked_eq {b:TallyBook} (V:Val b):∃ m e,tally_asked b true=some (⟨b,m⟩,e)∧Opn b no m∧((e=0∧CanBe b)∨(e=52∧¬CanBe b)):=by
 obtain ⟨m,hm,O⟩:=nobody_eq V.bk
 obtain ⟨r,hr,hi⟩:=can_eq O b.Counts
 refine ⟨m,if r=true then 0 else 52,?_,O,?_⟩
 ·unfold tally_asked
  rw [check_ok V,Option.bind_some]
  simp only [bne_self_eq_false,cond_false,Bool.not_true]
  unfold tally_nobody
  rw [Option.bind_some,hm,Option.bind_some]
  simp only
  rw [hr,Option.bind_some]
  cases r <;> rfl
 ·cases r
  ·right; exact ⟨rfl,fun h=>by simpa using hi.2 h⟩
  ·left; exact ⟨rfl,hi.1 rfl⟩
theorem trips_iff {T f t:Int}:tripsB T f t=true↔0≤f∧f≤t∧t < T:=by
 unfold tripsB
 rw [Bool.and_eq_true,inB_iff,decide_eq_true_eq]
 omega
theorem many_law {b:TallyBook} (V:Val b) {f t:Int} (h:0≤f∧f≤t∧t < b.Trips):
 ∃ s e,tally_Many b f t=some (s,e)∧((e=0∧CanBe b∧Spn (Fit b no) f.toNat (t+1).toNat s.Low s.High)∨(e=52∧s=⟨0,0⟩∧¬CanBe b)):=by
 have t8:=V.t8
 obtain ⟨m,e,ha,O,he⟩:=asked_eq V
 have hw:Fx.wr (t+1)=t+1:=wrI (by omega) (by omega)
 unfold tally_Many
 rw [isTrips_eq,Option.bind_some,trips_iff.2 h,ha,Option.bind_some,hw]
 rcases he with ⟨rfl,hc⟩ | ⟨rfl,hc⟩
 ·obtain ⟨lo,hi,hm,S⟩:=many_eq O hc (a:=f) (c:=t+1) (by omega) (by omega) (by omega) (by omega) b.Counts
  refine ⟨⟨lo,hi⟩,0,?_,.inl ⟨rfl,hc,S⟩⟩
  simp only [bne_self_eq_false,cond_false]
  rw [hm]; rfl
 ·exact ⟨⟨0,0⟩,52,rfl,.inr ⟨rfl,rfl,hc⟩⟩
theorem steps_bnd {t r:Int} (t8:t≤8) (r0:0≤r) (r60:r≤60) {q:Nat→Int} (h:Steps t r q):∀ (d a:Nat),((a+d:Nat):Int)≤t→0≤q (a+d) - q a∧q (a+d) - q a≤r*d:=by
 intro d
 induction d with
 | zero=>intro a _; simp
 | succ d ih=>
   intro a hk
   have h1:=ih a (by omega)
   have h2:=h (a+d) (by omega)
   rw [show a+(d+1)=a+d+1 by omega]
   have:r*((d+1:Nat):Int)=r*(d:Int)+r:=by rw [Int.natCast_add,Int.mul_add]; simp
   omega
theorem fit_bnd {b:TallyBook} (V:Bk b) {out:TallyCount→Nat→Bool}{q:Nat→Int} (h:Fit b out q) {a c:Nat} (hac:a≤c) (hc:(c:Int)≤b.Trips):0≤q c - q a∧q c - q a≤b.Room*((c:Int) - a):=by
 have:=steps_bnd V.t8 V.r0 V.r60 h.1 (c - a) a (by omega)
 rw [show a+(c - a)=c by omega] at this
 rw [show ((c:Int) - a)=((c - a:Nat):Int) by omega]
 exact this
theorem room_mul {b:TallyBook} (V:Bk b) {n:Int} (h0:0≤n) (h8:n≤8):0≤b.Room*n∧b.Room*n≤480:=by
 have:=V.r0; have:=V.r60
 constructor
 ·exact Int.mul_nonneg (by omega) h0
 ·have:b.Room*n≤60*8:=Int.mul_le_mul (by omega) h8 h0 (by omega)
  omega
theorem Spn.bnd {b:TallyBook} (V:Bk b) {out:TallyCount→Nat→Bool}{a c:Nat}{lo hi:Int} (S:Spn (Fit b out) a c lo hi) (hac:a≤c) (hc:(c:Int)≤b.Trips):0≤lo∧lo≤hi∧hi≤b.Room*((c:Int) - a)∧hi≤480:=by
 obtain ⟨q,hq,h1⟩:=S.loE
 obtain ⟨q',hq',h2⟩:=S.hiE
 have a1:=fit_bnd V hq hac hc
 have a2:=fit_bnd V hq' hac hc
 have a3:=S.all q hq
 have a4:=V.t8
 have a5:=room_mul V (n:=(c:Int) - a) (by omega) (by omega)
 omega
end Go.Proofs.YtafhljljfglfeaaDoor
namespace Go.Proofs.YtafhljljfglfeaaDoor
open Go Go.Fx Go.Tally
def pre (u:List Int) (k:Nat):Int:=(u.take k).sum
theorem pre_succ {u:List Int}{k:Nat}{x:Int} (h:u[k]? =some x):pre u (k+1)=pre u k+x:=by
 unfold pre
 obtain ⟨h1,rfl⟩:=List.getElem?_eq_some_iff.1 h
 rw [List.take_succ_eq_append_getElem h1,List.sum_append]
 simp
theorem pre_cut {u:List Int}{a c:Nat} (h:a≤c):((u.take c).drop a).sum=pre u c - pre u a:=by
 unfold pre
 have:=List.take_append_drop a (u.take c)
 have h2:=congrArg List.sum this
 rw [List.sum_append,List.take_take,Nat.min_eq_left h] at h2
 omega
theorem sum_bnd {l:List Int} (h:∀ n∈l,0≤n∧n≤60):0≤l.sum∧l.sum≤60*l.length:=by
 induction l with
 | nil=>simp
 | cons x l ih=>
   have h1:=h x (List.mem_cons_self ..)
   have h2:=ih fun n hn=>h n (List.mem_cons_of_mem _ hn)
   simp only [List.sum_cons,List.length_cons]
   omega
theorem sum_eq {l:List Int} (hl:l.length≤8) (h:∀ n∈l,0≤n∧n≤60):tally_sum l=some l.sum:=by
 unfold tally_sum
 refine loopF_spec (body:=tally_sum_l1 l) (fun z:Int×Int=>∃ k:Nat,z.2=k∧k≤l.length∧z.1=pre l k) (fun z=>l.length - z.2.toNat) (fun _=>l.sum) ?_ big (0,0) ⟨0,rfl,Nat.zero_le _,by simp [pre]⟩ (by unfold big; simp; omega)
 rintro rec ⟨s,i⟩ ⟨k,rfl,hk,rfl⟩ ih
 simp only at ih ⊢
 unfold tally_sum_l1
 simp only
 by_cases hlt:k < l.length
 ·rw [decide_eq_true (by omega),cond_true,getI_nat,List.getElem?_eq_getElem hlt,Option.bind_some]
  have hx:=List.getElem?_eq_getElem hlt
  generalize l[k]=x at hx
  have h1:=h x (List.mem_of_getElem? hx)
  have h2:=sum_bnd (l:=l.take k) fun n hn=>h n (List.mem_of_mem_take hn)
  have h3:(l.take k).length≤8:=by simp; omega
  rw [show (l.take k).sum=pre l k from rfl] at h2
  rw [wrI (x:=pre l k+x) (by omega) (by omega),wrI (by omega) (by omega)]
  exact ih _ ⟨k+1,by simp,by omega,(pre_succ hx).symm⟩ (by (try simp only); omega)
 ·rw [decide_eq_false (by omega),cond_false]
  unfold pre
  rw [List.take_of_length_le (by omega)]
theorem cutI_eq {α:Type}{l:List α}{a c:Int} (h0:0≤a) (h1:a≤c) (h2:c≤l.length):cutI l a c=some ((l.take c.toNat).drop a.toNat):=by
 unfold cutI
 simp [h0,h1,h2]
theorem mem_cut {α:Type}{l:List α}{a c:Nat}{x:α} (h:x∈(l.take c).drop a):x∈l:=List.mem_of_mem_take (List.mem_of_mem_drop h)
structure Tru (b:TallyBook) (u:List Int):Prop where
 len:(u.length:Int)=b.Trips
 bnd:∀ n∈u,0≤n∧n≤b.Room
theorem Tru.steps {b:TallyBook}{u:List Int} (h:Tru b u):Steps b.Trips b.Room (pre u):=by
 intro k hk
 have hlt:k < u.length:=by have:=h.len; omega
 have hx:=List.getElem?_eq_getElem hlt
 have:=h.bnd _ (List.mem_of_getElem? hx)
 rw [pre_succ hx]
 omega
theorem count_right {b:TallyBook} (V:Bk b) {u:List Int} (hu:Tru b u) {x:TallyCount} (hx:Cnt b.Trips x):∃ r,tally_count_right x u=some r∧(r=true↔CntQ x (pre u)):=by
 have:=hu.len; have:=V.t8; have:=V.r60; have f0:=hx.f0; have ft:=hx.ft; have tT:=hx.tT
 unfold tally_count_right
 rw [wrI (x:=x.To+1) (by omega) (by omega),cutI_eq (by omega) (by omega) (by omega),Option.bind_some]
 rw [sum_eq (by simp; omega) (fun n hn=>by have:=hu.bnd n (mem_cut hn); omega),Option.bind_some,least_eq hx,Option.bind_some,most_eq hx,Option.bind_some,within_eq]
 refine ⟨_,rfl,?_⟩
 rw [inB_iff,pre_cut (by omega)]
 rfl
theorem can_law {b:TallyBook} (V:Val b) {u:List Int} (hu:Tru b u):∃ r,tally_Can b u=some (r,0)∧(r=true↔Fit b no (pre u)):=by
 have hlen:=hu.len; have t8:=V.t8; have l8:=V.l8
 have second:∃ p,loopF (tally_Can_l2 b u) big 0=some p∧p.2=0∧(p.1=true↔Fit b no (pre u)):=by
  refine loopF_inv (body:=tally_Can_l2 b u) (fun z:Int=>∃ k:Nat,z=k∧k≤b.Counts.length∧∀ j x,j < k→b.Counts[j]? =some x→CntQ x (pre u)) (fun z=>b.Counts.length - z.toNat) (fun p=>p.2=0∧(p.1=true↔Fit b no (pre u))) ?_ big 0 ⟨0,rfl,Nat.zero_le _,fun j x h=>absurd h (Nat.not_lt_zero j)⟩ (by unfold big; simp; omega)
  rintro rec z ⟨k,rfl,hk,hq⟩ ih
  unfold tally_Can_l2
  by_cases hlt:k < b.Counts.length
  ·rw [decide_eq_true (by omega),cond_true,getI_nat,List.getElem?_eq_getElem hlt,Option.bind_some]
   have hx:=List.getElem?_eq_getElem hlt
   generalize b.Counts[k]=x at hx
   obtain ⟨r,hr,hi⟩:=count_right V.bk hu (cnt_iff.1 (V.cs x (List.mem_of_getElem? hx)))
   rw [hr,Option.bind_some]
   cases r with
   | false=>
     refine ⟨_,rfl,rfl,?_⟩
     simp only [Bool.false_eq_true,false_iff]
     intro h
     have:=hi.2 (h.2 k x hx rfl)
     cases this
   | true=>
     rw [Bool.not_true,cond_false,wrI (by omega) (by omega)]
     refine ih _ ⟨k+1,by simp,by omega,fun j y hj hy=>?_⟩ (by (try simp only); omega)
     by_cases hjk:j=k
     ·subst hjk; rw [hx] at hy; cases hy; exact hi.1 rfl
     ·exact hq j y (by omega) hy
  ·rw [decide_eq_false (by omega),cond_false]
   refine ⟨_,rfl,rfl,?_⟩
   simp only [true_iff]
   exact ⟨hu.steps,fun j x hx _=>hq j x (by have:=(List.getElem?_eq_some_iff.1 hx).1; omega) hx⟩
 obtain ⟨⟨p1,p2⟩,hp,hp0,hpi⟩:=second
 simp only at hp0 hpi
 subst hp0
 refine ⟨p1,?_,hpi⟩
 unfold tally_Can
 rw [check_ok V,Option.bind_some]
 simp only [bne_self_eq_false,cond_false]
 rw [show ((u.length:Int) != b.Trips)=false by simp [hlen],cond_false]
 refine loopF_spec (body:=tally_Can_l3 u b) (fun z:Int=>∃ k:Nat,z=k∧k≤u.length) (fun z=>u.length - z.toNat) (fun _=>(p1,0)) ?_ big 0 ⟨0,rfl,Nat.zero_le _⟩ (by unfold big; simp; omega)
 rintro rec z ⟨k,rfl,hk⟩ ih
 unfold tally_Can_l3
 by_cases hlt:k < u.length
 ·rw [decide_eq_true (by omega),cond_true,getI_nat,List.getElem?_eq_getElem hlt,Option.bind_some]
  have hx:=List.getElem?_eq_getElem hlt
  rw [within_eq,Option.bind_some,inB_iff.2 (hu.bnd _ (List.mem_of_getElem? hx)),Bool.not_true,cond_false,wrI (by omega) (by omega)]
  exact ih _ ⟨k+1,by simp,by omega⟩ (by (try simp only); omega)
 ·rw [decide_eq_false (by omega),cond_false,hp]
end Go.Proofs.YtafhljljfglfeaaDoor
namespace Go.Proofs.YtafhljljfglfeaaDoor
open Go Go.Fx Go.Tally
theorem withinT_eq (a b c:Int):ticket_within a b c=some (inB a b c):=by
 unfold ticket_within inB
 cases decide (b≤a) <;> rfl
structure ArgT (b:TicketBook):Prop where
 cl:b.Tally.Counts.length≤9223372036854775807
 tl:b.Tickets.length≤9223372036854775807
 sl:b.Shows.length≤9223372036854775807
 bl:b.Boxes.length≤9223372036854775807
def seasB (T:Int) (x:TicketSeason):Bool:=inB x.From 0 (T - 1)&&inB x.To 0 (T - 1)&&decide (x.From≤x.To)
def showB (T:Int) (m:Nat) (x:TicketShow):Bool:=inB x.Trip 0 (T - 1)&&inB x.Ticket 0 ((m:Int) - 1)&&inB x.Walker 0 9
def boxB (T:Int) (x:TicketBox):Bool:=inB x.From 0 (T - 1)&&inB x.To 0 (T - 1)&&decide (x.From≤x.To)&&inB x.Pence 0 400&&inB x.Lost 0 40
theorem isTrip_eq (b:TicketBook) (h:1≤b.Tally.Trips) (h2:b.Tally.Trips≤8) (n:Int):ticket_isTrip b n=some (inB n 0 (b.Tally.Trips - 1)):=by
 unfold ticket_isTrip
 rw [wrI (by omega) (by omega),withinT_eq]; rfl
theorem isTicket_eq (b:TicketBook) (h:b.Tickets.length≤9223372036854775807) (n:Int):ticket_isTicket b n=some (inB n 0 ((b.Tickets.length:Int) - 1)):=by
 unfold ticket_isTicket
 rw [wrI (by omega) (by omega),withinT_eq]; rfl
theorem isBox_eq (b:TicketBook) (h:1≤b.Tally.Trips) (h2:b.Tally.Trips≤8) (x:TicketBox):ticket_isBox b x=some (boxB b.Tally.Trips x):=by
 unfold ticket_isBox boxB
 simp only [isTrip_eq b h h2,withinT_eq,Option.bind_some]
 cases inB x.From 0 (b.Tally.Trips - 1) <;> cases inB x.To 0 (b.Tally.Trips - 1) <;> cases decide (x.From≤x.To) <;> cases inB x.Pence 0 400 <;> cases inB x.Lost 0 40 <;> rfl
theorem allTo_ok {α:Type}{p:α→Bool}{l:List α}{ok:Bool}{k:Nat} (h:allTo p l ok k=true):ok=true:=by
 unfold allTo at h; rw [Bool.and_eq_true] at h; exact h.1
theorem checkT_tail (b:TicketBook) (A:ArgT b) (ok:Bool) (hT:ok=true→1≤b.Tally.Trips∧b.Tally.Trips≤8):ticket_Check_j7 b ok=some (bif ok&&b.Tickets.all (seasB b.Tally.Trips)&&b.Shows.all (showB b.Tally.Trips b.Tickets.length)&&b.Boxes.all (boxB b.Tally.Trips) then 0 else 100):=by
 have h1:=A.tl; have h2:=A.sl; have h3:=A.bl
 unfold ticket_Check_j7
 refine loop_fold0 (fun k=>(allTo (seasB b.Tally.Trips) b.Tickets ok k,(k:Int))) b.Tickets.length (fun rec k hk=>?_) (fun rec=>?_) (by rw [big_eq]; omega) (by rw [allTo_zero]; rfl)
 ·unfold ticket_Check_l6
  simp only
  rw [decide_eq_true (by omega),cond_true,getI_ix hk,Option.bind_some,wrN hk h1,allTo_succ hk]
  have e:seasB b.Tally.Trips b.Tickets[k]=(inB b.Tickets[k].From 0 (b.Tally.Trips - 1)&&inB b.Tickets[k].To 0 (b.Tally.Trips - 1)&&decide (b.Tickets[k].From≤b.Tickets[k].To)):=rfl
  rw [e]
  cases ha:allTo (seasB b.Tally.Trips) b.Tickets ok k with
  | false=>rfl
  | true=>
    have:=hT (allTo_ok ha)
    simp only [isTrip_eq b this.1 this.2,Option.bind_some]
    cases inB b.Tickets[k].From 0 (b.Tally.Trips - 1) <;> cases inB b.Tickets[k].To 0 (b.Tally.Trips - 1) <;> rfl
 unfold ticket_Check_l6
 simp only
 rw [decide_eq_false (by omega),cond_false,allTo_end]
 have hT:(ok&&b.Tickets.all (seasB b.Tally.Trips))=true→1≤b.Tally.Trips∧b.Tally.Trips≤8:=fun h=>hT (by rw [Bool.and_eq_true] at h; exact h.1)
 generalize (ok&&b.Tickets.all (seasB b.Tally.Trips))=ok at hT
 refine loop_fold0 (fun k=>(allTo (showB b.Tally.Trips b.Tickets.length) b.Shows ok k,(k:Int))) b.Shows.length (fun rec k hk=>?_) (fun rec=>?_) (by rw [big_eq]; omega) (by rw [allTo_zero]; rfl)
 ·unfold ticket_Check_l5
  simp only
  rw [decide_eq_true (by omega),cond_true,getI_ix hk,Option.bind_some,wrN hk h2,allTo_succ hk]
  have e:showB b.Tally.Trips b.Tickets.length b.Shows[k]=(inB b.Shows[k].Trip 0 (b.Tally.Trips - 1)&&inB b.Shows[k].Ticket 0 ((b.Tickets.length:Int) - 1)&&inB b.Shows[k].Walker 0 9):=rfl
  rw [e]
  cases ha:allTo (showB b.Tally.Trips b.Tickets.length) b.Shows ok k with
  | false=>rfl
  | true=>
    have:=hT (allTo_ok ha)
    simp only [isTrip_eq b this.1 this.2,isTicket_eq b h1,withinT_eq,Option.bind_some]
    cases inB b.Shows[k].Trip 0 (b.Tally.Trips - 1) <;> cases inB b.Shows[k].Ticket 0 ((b.Tickets.length:Int) - 1) <;> rfl
 unfold ticket_Check_l5
 simp only
 rw [decide_eq_false (by omega),cond_false,allTo_end]
 have hT:(ok&&b.Shows.all (showB b.Tally.Trips b.Tickets.length))=true→1≤b.Tally.Trips∧b.Tally.Trips≤8:=fun h=>hT (by rw [Bool.and_eq_true] at h; exact h.1)
 generalize (ok&&b.Shows.all (showB b.Tally.Trips b.Tickets.length))=ok at hT
 refine loop_fold0 (fun k=>(allTo (boxB b.Tally.Trips) b.Boxes ok k,(k:Int))) b.Boxes.length (fun rec k hk=>?_) (fun rec=>?_) (by rw [big_eq]; omega) (by rw [allTo_zero]; rfl)
 ·unfold ticket_Check_l4
  simp only
  rw [decide_eq_true (by omega),cond_true,getI_ix hk,Option.bind_some,wrN hk h3,allTo_succ hk]
  cases ha:allTo (boxB b.Tally.Trips) b.Boxes ok k with
  | false=>rfl
  | true=>
    have:=hT (allTo_ok ha)
    rw [cond_true,isBox_eq b this.1 this.2]
    rfl
 unfold ticket_Check_l4
 simp only
 rw [decide_eq_false (by omega),cond_false,allTo_end]
 cases (ok&&b.Boxes.all (boxB b.Tally.Trips)) <;> rfl
def valT (b:TicketBook):Bool:=valB b.Tally&&decide (b.Tally.Trips≤3)&&decide (b.Tally.Room≤5)&&inB b.Fare 1 20&&decide ((b.Tickets.length:Int)≤3)&&decide ((b.Shows.length:Int)≤5)&&decide ((b.Boxes.length:Int)≤3)&&b.Tickets.all (seasB b.Tally.Trips)&&b.Shows.all (showB b.Tally.Trips b.Tickets.length)&&b.Boxes.all (boxB b.Tally.Trips)
theorem checkT_eq (b:TicketBook) (A:ArgT b):ticket_Check b=some (bif valT b then 0 else 100):=by
 unfold ticket_Check valT
 rw [check_eq _ A.cl]
 have f:=checkT_tail b A false (fun h=>by cases h)
 simp only [Bool.false_and,cond_false] at f
 cases hv:valB b.Tally with
 | false=>simp only [cond_false,Option.bind_some,Bool.false_and]; exact f
 | true=>
   have V:=val_iff.1 hv
   have t:=fun ok=>checkT_tail b A ok (fun _=>⟨V.t1,V.t8⟩)
   simp only [withinT_eq,Option.bind_some,t,cond_true,beq_self_eq_true]
   cases decide (b.Tally.Trips≤3) <;> cases decide (b.Tally.Room≤5) <;> cases inB b.Fare 1 20 <;> cases decide ((b.Tickets.length:Int)≤3) <;> cases decide ((b.Shows.length:Int)≤5) <;> rfl
structure Seas (T:Int) (x:TicketSeason):Prop where
 f0:0≤x.From
 ft:x.From≤x.To
 tT:x.To < T
structure Shw (T:Int) (m:Nat) (x:TicketShow):Prop where
 t0:0≤x.Trip
 tT:x.Trip < T
 n0:0≤x.Ticket
 nm:x.Ticket < m
 w0:0≤x.Walker
 w9:x.Walker≤9
structure Box (T:Int) (x:TicketBox):Prop where
 f0:0≤x.From
 ft:x.From≤x.To
 tT:x.To < T
 p0:0≤x.Pence
 p4:x.Pence≤400
 l0:0≤x.Lost
 l4:x.Lost≤40
theorem seas_iff {T:Int}{x:TicketSeason}:seasB T x=true↔Seas T x:=by
 unfold seasB; simp only [Bool.and_eq_true,inB_iff,decide_eq_true_eq]
 exact ⟨fun ⟨⟨⟨a,b⟩,c,d⟩,e⟩=>⟨a,e,by omega⟩,fun ⟨a,b,c⟩=>⟨⟨⟨a,by omega⟩,by omega,by omega⟩,b⟩⟩
theorem shw_iff {T:Int}{m:Nat}{x:TicketShow}:showB T m x=true↔Shw T m x:=by
 unfold showB; simp only [Bool.and_eq_true,inB_iff,decide_eq_true_eq]
 exact ⟨fun ⟨⟨⟨a,b⟩,c,d⟩,e,f⟩=>⟨a,by omega,c,by omega,e,f⟩,fun ⟨a,b,c,d,e,f⟩=>⟨⟨⟨a,by omega⟩,c,by omega⟩,e,f⟩⟩
theorem box_iff {T:Int}{x:TicketBox}:boxB T x=true↔Box T x:=by
 unfold boxB; simp only [Bool.and_eq_true,inB_iff,decide_eq_true_eq]
 exact ⟨fun ⟨⟨⟨⟨⟨a,b⟩,c,d⟩,e⟩,f,g⟩,h,i⟩=>⟨a,e,by omega,f,g,h,i⟩,fun ⟨a,b,c,d,e,f,g⟩=>⟨⟨⟨⟨⟨a,by omega⟩,by omega,by omega⟩,b⟩,d,e⟩,f,g⟩⟩
structure VT (b:TicketBook):Prop where
 ta:Val b.Tally
 t3:b.Tally.Trips≤3
 r5:b.Tally.Room≤5
 f1:1≤b.Fare
 f20:b.Fare≤20
 tn:b.Tickets.length≤3
 sn:b.Shows.length≤5
 bn:b.Boxes.length≤3
 te:∀ x∈b.Tickets,Seas b.Tally.Trips x
 sh:∀ x∈b.Shows,Shw b.Tally.Trips b.Tickets.length x
 bx:∀ x∈b.Boxes,Box b.Tally.Trips x
theorem valT_iff {b:TicketBook}:valT b=true↔VT b:=by
 unfold valT
 simp only [Bool.and_eq_true,val_iff,inB_iff,decide_eq_true_eq,List.all_eq_true,seas_iff,shw_iff,box_iff]
 exact ⟨fun ⟨⟨⟨⟨⟨⟨⟨⟨⟨a,b⟩,c⟩,d,e⟩,f⟩,g⟩,h⟩,i⟩,j⟩,k⟩=>⟨a,b,c,d,e,by omega,by omega,by omega,i,j,k⟩,fun ⟨a,b,c,d,e,f,g,h,i,j,k⟩=>⟨⟨⟨⟨⟨⟨⟨⟨⟨a,b⟩,c⟩,d,e⟩,by omega⟩,by omega⟩,by omega⟩,i⟩,j⟩,k⟩⟩
theorem VT.arg {b:TicketBook} (V:VT b):ArgT b:=⟨by have:=V.ta.l8; omega,by have:=V.tn; omega,by have:=V.sn; omega,by have:=V.bn; omega⟩
theorem checkT_ok {b:TicketBook} (V:VT b):ticket_Check b=some 0:=by
 rw [checkT_eq b V.arg,valT_iff.2 V]; rfl
theorem isSpan_eq (b:TicketBook) (f t:Int):law_isSpan b f t=some (tripsB b.Tally.Trips f t):=by
 unfold law_isSpan tripsB
 rw [inside_eq]
 cases inB f 0 t <;> rfl
theorem soundF (b:TicketBook):law_sound_j10 b false=some false:=by
 unfold law_sound_j10; refine loop_at fun rec=>?_
 show loopF (law_sound_l7 b) big (false,0)=_; refine loop_at fun rec=>?_
 show loopF (law_sound_l5 b) big (false,0)=_; refine loop_at fun rec=>?_
 rfl
theorem soundT (b:TicketBook) (V:VT b):law_sound_j10 b true=some true:=by
 have h1:=V.arg.tl; have h2:=V.arg.sl; have h3:=V.arg.bl; have t1:=V.ta.t1; have t3:=V.t3; have tn:=V.tn
 unfold law_sound_j10
 refine loop_fold (fun k=>(true,(k:Int))) b.Tickets.length (fun rec k hk=>?_) (fun rec=>?_) (by rw [big_eq]; omega)
 ·unfold law_sound_l9
  simp only
  have:=V.te b.Tickets[k] (List.getElem_mem _)
  rw [cond_true,decide_eq_true (by omega),cond_true,getI_ix hk,Option.bind_some,Option.bind_some,wrN hk h1,isSpan_eq,trips_iff.2 ⟨this.f0,this.ft,this.tT⟩]; rfl
 unfold law_sound_l9 law_sound_j8
 simp only
 rw [cond_true,decide_eq_false (by omega),cond_false]
 refine loop_fold (fun k=>(true,(k:Int))) b.Shows.length (fun rec k hk=>?_) (fun rec=>?_) (by rw [big_eq]; omega)
 ·unfold law_sound_l7
  simp only
  have:=V.sh b.Shows[k] (List.getElem_mem _)
  have e1:inB b.Shows[k].Trip 0 (b.Tally.Trips - 1)=true:=inB_iff.2 ⟨this.t0,by have:=this.tT; omega⟩
  have e2:inB b.Shows[k].Ticket 0 ((b.Tickets.length:Int) - 1)=true:=inB_iff.2 ⟨this.n0,by have:=this.nm; omega⟩
  rw [cond_true,decide_eq_true (by omega),cond_true,getI_ix hk,Option.bind_some,wrN hk h2,wrI (by omega) (by omega),wrI (by omega) (by omega)]
  simp only [inside_eq,e1,e2,Option.bind_some,cond_true]
 unfold law_sound_l7 law_sound_j6
 simp only
 rw [cond_true,decide_eq_false (by omega),cond_false]
 refine loop_fold (fun k=>(true,(k:Int))) b.Boxes.length (fun rec k hk=>?_) (fun rec=>?_) (by rw [big_eq]; omega)
 ·unfold law_sound_l5
  simp only
  have:=V.bx b.Boxes[k] (List.getElem_mem _)
  have e1:inB b.Boxes[k].Pence 0 400=true:=inB_iff.2 ⟨this.p0,this.p4⟩
  have e2:inB b.Boxes[k].Lost 0 40=true:=inB_iff.2 ⟨this.l0,this.l4⟩
  rw [cond_true,decide_eq_true (by omega),cond_true,getI_ix hk,Option.bind_some,wrN hk h3,isSpan_eq,trips_iff.2 ⟨this.f0,this.ft,this.tT⟩]
  simp only [inside_eq,e1,e2,Option.bind_some,cond_true]
 unfold law_sound_l5
 simp only
 rw [cond_true,decide_eq_false (by omega),cond_false]
theorem soundT_eq (b:TicketBook) (A:ArgT b):law_sound b=some (valT b):=by
 unfold law_sound
 rw [checkT_eq b A,Option.bind_some]
 cases h:valT b with
 | false=>rw [cond_false]; exact soundF b
 | true=>
   have V:=valT_iff.1 h
   have e3:inB b.Tally.Trips 1 3=true:=inB_iff.2 ⟨V.ta.t1,V.t3⟩
   have e4:inB b.Tally.Room 0 5=true:=inB_iff.2 ⟨V.ta.r0,V.r5⟩
   have e5:inB b.Fare 1 20=true:=inB_iff.2 ⟨V.f1,V.f20⟩
   have e6:decide ((b.Tickets.length:Int)≤3)=true:=decide_eq_true (by have:=V.tn; omega)
   have e7:decide ((b.Shows.length:Int)≤5)=true:=decide_eq_true (by have:=V.sn; omega)
   have e8:decide ((b.Boxes.length:Int)≤3)=true:=decide_eq_true (by have:=V.bn; omega)
   simp only [cond_true,beq_self_eq_true,inside_eq,check_ok V.ta,e3,e4,e5,e6,e7,e8,Option.bind_some]
   exact soundT b V
end Go.Proofs.YtafhljljfglfeaaDoor
namespace Go.Proofs.YtafhljljfglfeaaDoor
open Go Go.Fx
def Clm (l:List Int) (n:Int):Prop:=∀ (k:Nat) (x:Int),l[k]? =some x→0≤x∧x < n∧∀ y,0 < k→l[k - 1]? =some y→y < x
theorem Clm.nil {n:Int}:Clm [] n:=fun k x h=>by simp at h
theorem Clm.snoc {l:List Int}{n v:Int} (h:Clm l n) (h0:0≤v) (h1:v < n) (h2:∀ y,l.getLast? =some y→y < v):Clm (l++[v]) n:=by
 intro k x hx
 by_cases hk:k < l.length
 ·rw [List.getElem?_append_left hk] at hx
  obtain ⟨a1,a2,a3⟩:=h k x hx
  refine ⟨a1,a2,fun y h0 hy=>a3 y h0 ?_⟩
  rwa [List.getElem?_append_left (by omega)] at hy
 ·rw [List.getElem?_append_right (by omega),List.getElem?_singleton] at hx
  split at hx
  ·cases hx
   refine ⟨h0,h1,fun y hk0 hy=>h2 y ?_⟩
   rw [List.getElem?_append_left (by omega)] at hy
   rw [List.getLast?_eq_getElem?,← hy]
   congr 1; omega
  ·cases hx
theorem Clm.lt {l:List Int}{n:Int} (h:Clm l n):∀ (d i:Nat) (x y:Int),l[i]? =some x→l[i+d+1]? =some y→x < y:=by
 intro d
 induction d with
 | zero=>intro i x y hx hy; exact (h (i+1) y hy).2.2 x (by omega) (by simpa using hx)
 | succ d ih=>
   intro i x y hx hy
   have hlt:i+d+1 < l.length:=by have:=(List.getElem?_eq_some_iff.1 hy).1; omega
   have h1:=ih i x _ hx (List.getElem?_eq_getElem hlt)
   have h2:=(h (i+(d+1)+1) y hy).2.2 _ (by omega) (by rw [show i+(d+1)+1 - 1=i+d+1 by omega]; exact List.getElem?_eq_getElem hlt)
   omega
theorem Clm.len {l:List Int}{n:Int} (h:Clm l n) (h0:0≤n):(l.length:Int)≤n:=by
 have:∀ (k:Nat) (x:Int),l[k]? =some x→(k:Int)≤x:=by
  intro k
  induction k with
  | zero=>intro x hx; have:=(h 0 x hx).1; omega
  | succ k ih=>
    intro x hx
    have hlt:k < l.length:=by have:=(List.getElem?_eq_some_iff.1 hx).1; omega
    have h1:=ih _ (List.getElem?_eq_getElem hlt)
    have h2:=h.lt 0 k _ x (List.getElem?_eq_getElem hlt) hx
    omega
 by_cases hl:l.length=0
 ·omega
 ·have hlt:l.length - 1 < l.length:=by omega
  have h1:=this _ _ (List.getElem?_eq_getElem hlt)
  have h2:=(h _ _ (List.getElem?_eq_getElem hlt)).2.1
  omega
structure Ext (n:Nat) (l:List Int) (many:Nat) (o:List Int):Prop where
 len:o.length=many
 clm:Clm o n
 pre:∀ (i:Nat) (x:Int),l[i]? =some x→o[i]? =some x
def LexLt (o w:List Int):Prop:=∃ (i:Nat) (x y:Int),o[i]? =some x∧w[i]? =some y∧x < y∧∀ j,j < i→o[j]? =w[j]?
theorem Ext.more {n many:Nat}{l o:List Int}{x:Int} (h:Ext n l many o) (hx:o[l.length]? =some x):Ext n (l++[x]) many o:=by
 refine ⟨h.len,h.clm,fun i y hy=>?_⟩
 by_cases hi:i < l.length
 ·rw [List.getElem?_append_left hi] at hy; exact h.pre i y hy
 ·rw [List.getElem?_append_right (by omega),List.getElem?_singleton] at hy
  split at hy
  ·cases hy; rw [show i=l.length by omega]; exact hx
  ·cases hy
theorem Ext.less {n many:Nat}{l o:List Int}{x:Int} (h:Ext n (l++[x]) many o):Ext n l many o∧o[l.length]? =some x:=by
 refine ⟨⟨h.len,h.clm,fun i y hy=>h.pre i y ?_⟩,h.pre _ _ (by simp)⟩
 rw [List.getElem?_append_left (List.getElem?_eq_some_iff.1 hy).1]; exact hy
theorem fits_of {m bb:Nat} (h:m≤1000000000) (hb:bb≤100000):fitsL m bb=true:=by
 unfold fitsL
 refine decide_eq_true ?_
 have:m*bb≤1000000000*100000:=Nat.mul_le_mul h hb
 omega
theorem fits_small {m bb:Nat} (h:m≤1000000) (hb:bb≤1000):fitsL m bb=true:=fits_of (by omega) (by omega)
theorem shr_nat (s k:Nat) (hk:k < 64):shrI (s:Int) (k:Int)=((s / 2 ^ k:Nat):Int):=by
 unfold shrI
 rw [show min ((k:Int).toNat) 64=k by simp; omega,Int.fdiv_eq_ediv_of_nonneg _ (by exact_mod_cast Int.natCast_nonneg (2 ^ k))]
 simp
theorem and1_nat (m:Nat):andI (m:Int) 1=((m % 2:Nat):Int):=by
 unfold andI
 have h1:BitVec.ofInt 64 (m:Int)=BitVec.ofNat 64 m:=BitVec.ofInt_natCast 64 m
 have h2:BitVec.ofInt 64 1=BitVec.ofNat 64 1:=rfl
 rw [h1,h2,BitVec.toNat_and]
 simp only [BitVec.toNat_ofNat]
 have:m % 2 ^ 64 &&& 1 % 2 ^ 64=m % 2:=by
  rw [show 1 % 2 ^ 64=1 by decide,Nat.and_one_is_mod]; omega
 rw [this,wrI (by omega) (by omega)]
theorem member_nat (s k:Nat) (hk:k < 64):B_Member (s:Int) (k:Int)=some (s.testBit k):=by
 unfold B_Member
 rw [need_of (by simp),shr_nat s k hk,and1_nat,Nat.testBit_eq_decide_div_mod_eq]
 congr 1
 rw [Bool.eq_iff_iff]
 simp only [beq_iff_eq,decide_eq_true_eq]
 omega
theorem shl1_nat (k:Nat) (hk:k < 32):shlI 1 (k:Int)=((2 ^ k:Nat):Int):=by
 unfold shlI
 rw [show min ((k:Int).toNat) 64=k by simp; omega]
 have h1:2 ^ k≤2 ^ 32:=Nat.pow_le_pow_right (by omega) (by omega)
 have h2:(1:Int)*2 ^ k=((2 ^ k:Nat):Int):=by simp
 rw [h2]
 generalize 2 ^ k=m at h1
 exact wrI (by omega) (by omega)
theorem or_nat (s t:Nat) (hs:s < 2 ^ 32) (ht:t < 2 ^ 32):orI (s:Int) (t:Int)=((s ||| t:Nat):Int):=by
 unfold orI
 have h1:BitVec.ofInt 64 (s:Int)=BitVec.ofNat 64 s:=BitVec.ofInt_natCast 64 s
 have h2:BitVec.ofInt 64 (t:Int)=BitVec.ofNat 64 t:=BitVec.ofInt_natCast 64 t
 have h3:s ||| t < 2 ^ 32:=Nat.or_lt_two_pow hs ht
 rw [h1,h2,BitVec.toNat_or,BitVec.toNat_ofNat,BitVec.toNat_ofNat,Nat.mod_eq_of_lt (by omega),Nat.mod_eq_of_lt (by omega),wrI (by omega) (by omega)]
def Btr (o w:List Int):Prop:=o.length < w.length∨(o.length=w.length∧LexLt o w)
theorem LexLt.trans {a b c:List Int} (h:LexLt a b) (k:LexLt b c):LexLt a c:=by
 obtain ⟨i,x,y,h1,h2,h3,h4⟩:=h
 obtain ⟨j,u,v,k1,k2,k3,k4⟩:=k
 rcases Nat.lt_trichotomy i j with e | e | e
 ·exact ⟨i,x,y,h1,by rw [← k4 i e]; exact h2,h3,fun m hm=>by rw [h4 m hm,k4 m (by omega)]⟩
 ·subst e
  rw [h2] at k1; have:=Option.some.inj k1
  exact ⟨i,x,v,h1,k2,by omega,fun m hm=>by rw [h4 m hm,k4 m hm]⟩
 ·exact ⟨j,u,v,by rw [h4 j e]; exact k1,k2,k3,fun m hm=>by rw [h4 m (by omega),k4 m hm]⟩
theorem Btr.trans {a b c:List Int} (h:Btr a b) (k:Btr b c):Btr a c:=by
 rcases h with h | ⟨h,h'⟩ <;> rcases k with k | ⟨k,k'⟩
 ·exact .inl (by omega)
 ·exact .inl (by omega)
 ·exact .inl (by omega)
 ·exact .inr ⟨by omega,h'.trans k'⟩
end Go.Proofs.YtafhljljfglfeaaDoor
namespace Go.Proofs.YtafhljljfglfeaaDoor
open Go Go.Fx
def foldY {ε σ:Type} (yv:ε→σ→Option (Bool×σ)):List ε→σ→Option (Bool×σ)
 | [],s=>some (true,s)
 | x::l,s=>(yv x s).bind fun r=>bif r.1 then foldY yv l r.2 else some (false,r.2)
theorem foldY_app {ε σ:Type} (yv:ε→σ→Option (Bool×σ)):∀ (l m:List ε) (s:σ),foldY yv (l++m) s=(foldY yv l s).bind fun r=>bif r.1 then foldY yv m r.2 else some (false,r.2)
 | [],m,s=>rfl
 | x::l,m,s=>by
   show (yv x s).bind (fun r=>bif r.1 then foldY yv (l++m) r.2 else some (false,r.2))=Option.bind ((yv x s).bind fun r=>bif r.1 then foldY yv l r.2 else some (false,r.2)) _
   cases yv x s with
   | none=>rfl
   | some r=>
     obtain ⟨b,s2⟩:=r
     cases b with
     | true=>exact foldY_app yv l m s2
     | false=>rfl
theorem foldY_one {ε σ:Type} (yv:ε→σ→Option (Bool×σ)) (x:ε) (s:σ):foldY yv [x] s=yv x s:=by
 show (yv x s).bind (fun r=>bif r.1 then some (true,r.2) else some (false,r.2))=_
 cases yv x s with
 | none=>rfl
 | some r=>obtain ⟨b,s2⟩:=r; cases b <;> rfl
theorem foldY_find {ε σ:Type} (bd:ε→σ→Option (Bool×Nat×σ)) (p:ε→Bool) (s0 s1:σ):∀ (L:List ε),(∀ x∈L,bd x s0=some (bif p x then (false,1,s1) else (true,0,s0)))→foldY (yvOf bd) L (0,s0)=some (bif L.any p then (false,1,s1) else (true,0,s0))
 | [],_=>rfl
 | x::L,h=>by
   show (bd x s0).bind (fun r=>bif r.1 then foldY (yvOf bd) L r.2 else some (false,r.2))=_
   rw [h x (List.mem_cons_self ..),List.any_cons]
   cases hp:p x with
   | true=>rfl
   | false=>exact foldY_find bd p s0 s1 L fun x hx=>h x (List.mem_cons_of_mem _ hx)
end Go.Proofs.YtafhljljfglfeaaDoor
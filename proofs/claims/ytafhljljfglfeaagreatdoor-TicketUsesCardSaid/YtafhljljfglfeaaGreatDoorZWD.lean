/- What the functions of the program compute, and that they do, printed by a program of mine. -/
import Derived.Test.YtafhljljfglfeaaGreatDoorZWC
import Derived.KernelRfl
set_option linter.unusedVariables false
set_option linter.unusedSimpArgs false
namespace Go.Proofs.YtafhljljfglfeaaGreatDoor
open Go Go.Fx Go.Proofs
def ticket_unused:Option (List Int):=
 some (List.replicate 3 0)
set_option maxRecDepth 100000 in
theorem ticket_unused_ok {w:World}{r:(List Int)} (H:ticket_unused=some r):Calls Tryz.prog 71 #[] w (RetV w (AG (sg r 3))):=by
 unfold ticket_unused at H
 refine fn_of (n:=3) Tryz.func71 rfl rfl (lE rfl) ?_
 have S:=St.start w nF _ nM
 refine c_seq<|reg<|p_allA in101 S fun b1 w2 S3=>wp_nil<|c_seq<|reg<|p_allA in101 S3 fun b4 w5 S6=>wp_nil<|c_seq<|reg<|p_ldA ty101 sz101 (S6.atX (i:=0) rfl) rfl rfl<|p_stP (pre:=[]) (old:=sg (List.replicate 3 0) 3) (post:=[]) (vs:=sg (List.replicate 3 0) 3) sz101 S6 (i:=1) rfl rfl rfl rfl (rfl:_=AG (sg (List.replicate 3 0) 3)) rfl rfl rfl rfl fun w7 S8=>wp_nil ?_
 obtain rfl:=sJ H
 refine c_ret ?_; show bodyPostM (Fr none) 0 Tryz.prog Tryz.f71 _ .ret _ _
 refine ret_of (res1 rfl (rvA rfl ty101 sz101 (S8.atX (i:=1) rfl) rfl)) ?_
 exact ⟨_,rfl,rfl,S8.keep⟩
def ticket_truth_uses_l3 (a0:Ticket_truth) (z_1:Int×(List Int)) (rec_z_1:(Int×(List Int))→Option (List Int)) (rec_z_2:(Int×(List Int))→Option (List Int)) (z_2:Int×(List Int)):Option (List Int):=
 bif decide (z_2.1 < 3) then (need (inI z_2.1 3)<|
 need (decide (0≤z_2.1))<|
 need (inI z_2.1 3)<|
 rec_z_2 (wr (z_2.1+1),aset z_2.2 3 z_2.1 (wr ((aget z_2.2 z_2.1)+(andI (shrI (aget a0.used_ z_1.1) z_2.1) 1)))))
 else (rec_z_1 (wr (z_1.1+1),z_2.2))
def ticket_truth_uses_l4 (a0:Ticket_truth) (rec_z_1:(Int×(List Int))→Option (List Int)) (z_1:Int×(List Int)):Option (List Int):=
 bif decide (z_1.1 < 3) then (need (inI z_1.1 3)<|
 loopF (ticket_truth_uses_l3 a0 z_1 rec_z_1) big (0,z_1.2))
 else (some z_1.2)
def ticket_truth_uses (a0:Ticket_truth):Option (List Int):=
 (ticket_unused).bind fun r7=>
 loopF (ticket_truth_uses_l4 a0) big (0,r7)
set_option maxRecDepth 100000 in
theorem ticket_truth_uses_ok {a0:Ticket_truth}{w:World}{r:(List Int)} (H:ticket_truth_uses a0=some r):Calls Tryz.prog 70 #[AG (sg a0.crossed_ 3++sg a0.used_ 3)] w (RetV w (AG (sg r 3))):=by
 unfold ticket_truth_uses at H
 refine fn_of (n:=28) Tryz.func70 rfl rfl (lE rfl) ?_
 have S:=St.start w nF _ nM
 refine c_seq<|reg<|p_boxA rfl S fun b1 w2 S3=>p_allA in101 S3 fun b4 w5 S6=>wp_nil<|c_seq<|reg ?_
 obtain ⟨r7,h8,H⟩:=bindS H
 refine p_cv (ticket_unused_ok h8) fu71 rfl S6 fun w9 S10=>p_allA in101 S10 fun b11 w12 S13=>p_stP (pre:=[]) (old:=sg (List.replicate 3 0) 3) (post:=[]) (vs:=sg r7 3) sz101 S13 (i:=0) rfl rfl rfl rfl (rfl:_=AG (sg r7 3)) rfl rfl rfl rfl fun w14 S15=>wp_nil<|c_seq<|c_seq<|reg<|p_fld fl92_1 rfl<|p_ldP (vs:=sg a0.used_ 3) ty30 sz30 (S15.atX (i:=2) rfl) rfl rfl rfl<|p_mI rfl<|wp_nil<|c_block ?_
 have S16:=S15.pk [0,1] (by decide) [] rfl rfl
 refine c_lop (α:=Int×(List Int)) (β:=Unit) (ticket_truth_uses_l4 a0) (fun z_1 y_1=>[(2,P b4 0),(3,P b11 0),(9,AG (sg a0.used_ 3)),(10,I z_1.1)]) (fun z_1 y_1 w_=>St w nF w_ [bl b11 (sg z_1.2 3) 101,bl b4 (sg (List.replicate 3 0) 3) 101] []) (0,r7) () H ⟨rfl,rfl,rfl,rfl,trivial⟩ S16 ?_
 intro m17 z_1 y_1 e18 w19 H S20
 unfold ticket_truth_uses_l4 at H
 refine c_seq<|reg<|p_cmp rfl rfl rfl<|wp_nil<|c_seq ?_
 refine c_cond rfl (fun c21=>?_) (fun c21=>?_)
 ·replace H:=condT c21 H
  refine c_skip<|c_seq<|c_block<|c_seq<|reg ?_
  obtain ⟨h22,H⟩:=needS H
  refine p_idxI (l:=a0.used_) ae30 sz3 ty3 h22 rfl rfl<|p_aI rfl<|wp_nil<|c_seq<|reg<|p_mI rfl<|wp_nil<|c_block ?_
  refine c_lop (α:=Int×(List Int)) (β:=Unit) (ticket_truth_uses_l3 a0 z_1 (loopF (ticket_truth_uses_l4 a0) m17)) (fun z_2 y_2=>[(2,P b4 0),(3,P b11 0),(5,I (aget a0.used_ z_1.1)),(9,AG (sg a0.used_ 3)),(10,I z_1.1),(13,I z_2.1)]) (fun z_2 y_2 w_=>St w nF w_ [bl b11 (sg z_2.2 3) 101,bl b4 (sg (List.replicate 3 0) 3) 101] []) (0,z_1.2) () H ⟨rfl,rfl,rfl,rfl,rfl,rfl,trivial⟩ S20 ?_
  intro m23 z_2 y_2 e24 w25 H S26
  unfold ticket_truth_uses_l3 at H
  refine c_seq<|reg<|p_cmp rfl rfl rfl<|wp_nil<|c_seq ?_
  refine c_cond rfl (fun c27=>?_) (fun c27=>?_)
  ·replace H:=condT c27 H
   refine c_skip<|c_seq<|c_block<|c_seq<|reg<|p_mI rfl<|p_aI rfl<|wp_nil ?_
   obtain ⟨h28,H⟩:=needS H
   obtain ⟨h29,H⟩:=needS H
   obtain ⟨h30,H⟩:=needS H
   refine reg_q mixed 9 (by kernel_rfl) ?_
   refine dS (fun _ k_=>p_mI rfl dn)<|dS (fun _ k_=>p_ixD ar101 h28 rfl rfl dn)<|dS (fun _ k_=>p_ldD (pre:=[]) (post:=[]) ty3 (aS (S26.atX (i:=0) rfl) k_) rfl h28 rfl rfl dn)<|dS (fun _ k_=>p_mI rfl dn)<|dS (fun _ k_=>p_mI rfl dn)<|dS (fun _ k_=>p_shr h29 rfl rfl dn)<|dS (fun _ k_=>p_andI rfl rfl dn)<|dS (fun _ k_=>p_add rfl rfl dn)<|dS (fun _ k_=>p_ixD ar101 h30 rfl rfl dn) ?_
   intro w31 k32; have S33:=S26.call k32
   refine p_stD (pre:=[]) (post:=[]) sz3 S33 (i:=0) rfl rfl h30 rfl rfl rfl fun w34 S35=>wp_nil<|reg<|p_add rfl rfl<|p_mI rfl<|wp_nil ?_
   exact ⟨(wr (z_2.1+1),aset z_2.2 3 z_2.1 (wr ((aget z_2.2 z_2.1)+(andI (shrI (aget a0.used_ z_1.1) z_2.1) 1)))),(),_,rfl,⟨rfl,rfl,rfl,rfl,rfl,rfl,trivial⟩,H,S35⟩
  ·replace H:=condF c27 H
   refine c_exit<|reg<|p_add rfl rfl<|p_mI rfl<|wp_nil ?_
   exact ⟨(wr (z_1.1+1),z_2.2),(),_,rfl,⟨rfl,rfl,rfl,rfl,trivial⟩,H,S26⟩
 ·replace H:=condF c21 H
  refine c_exit<|c_seq<|reg<|p_ldA ty101 sz101 (S20.atX (i:=0) rfl) rfl rfl<|p_stP (pre:=[]) (old:=sg (List.replicate 3 0) 3) (post:=[]) (vs:=sg z_1.2 3) sz101 S20 (i:=1) rfl rfl rfl rfl (rfl:_=AG (sg z_1.2 3)) rfl rfl rfl rfl fun w36 S37=>wp_nil ?_
  obtain rfl:=sJ H
  refine c_ret ?_; show bodyPostM (Fr none) 0 Tryz.prog Tryz.f70 _ .ret _ _
  refine ret_of (res1 rfl (rvA rfl ty101 sz101 (S37.atX (i:=1) rfl) rfl)) ?_
  exact ⟨_,rfl,rfl,S37.keep⟩
def ticket_Saved_1 (a0:Ticket_truth) (q0:Int):Option Int:=
 (ticket_truth_uses a0).bind fun r6=>
 (ticket_unused).bind fun r15=>
 bif decide (sgl r6 3=sgl r15 3) then (some 0)
 else (need (inI q0 3)<|
 some (aget r6 q0))
set_option maxRecDepth 100000 in
theorem ticket_Saved_1_ok {a0:Ticket_truth}{q0:Int}{b1:Nat}{w:World}{r:Int} (H:ticket_Saved_1 a0 q0=some r) (h2:(bl b1 [I q0] 3).ok w):Calls Tryz.prog 69 #[AG (sg a0.crossed_ 3++sg a0.used_ 3),P b1 0] w (RetV w (I r)):=by
 unfold ticket_Saved_1 at H
 refine fn_of (n:=13) Tryz.func69 rfl rfl (lE rfl) ?_
 have S:=St.start w nF _ (cA h2 nM)
 refine c_seq<|reg<|p_boxA rfl S fun b3 w4 S5=>p_aI rfl<|wp_nil<|c_seq<|reg<|p_ldA ty92 sz92 (S5.atX (i:=0) rfl) rfl rfl ?_
 obtain ⟨r6,h7,H⟩:=bindS H
 refine p_cv (ticket_truth_uses_ok h7) fu70 rfl S5 fun w8 S9=>p_allA in101 S9 fun b10 w11 S12=>p_stP (pre:=[]) (old:=sg (List.replicate 3 0) 3) (post:=[]) (vs:=sg r6 3) sz101 S12 (i:=0) rfl rfl rfl rfl (rfl:_=AG (sg r6 3)) rfl rfl rfl rfl fun w13 S14=>wp_nil<|c_seq<|c_seq ?_
 obtain ⟨r15,h16,H⟩:=bindS H
 refine reg_q mixed 3 (by kernel_rfl) ?_
 refine dS (fun _ k_=>p_ldA ty101 sz101 (aS (S14.atX (i:=0) rfl) k_) rfl rfl dn)<|dS (fun _ k_=>p_cvD (ticket_unused_ok h16) fu71 rfl)<|dS (fun _ k_=>p_eqS (m:=3) eq101 rfl rfl dn) ?_
 intro w17 k18; have S19:=S14.call k18
 refine wp_nil ?_
 refine c_cond rfl (fun c20=>?_) (fun c20=>?_)
 ·replace H:=condT c20 H
  refine c_seq<|reg<|p_aI rfl<|wp_nil ?_
  obtain rfl:=sJ H
  exact c_ret (rT Tryz.f69 S19.keep rfl rfl)
 ·replace H:=condF c20 H
  refine c_skip<|c_seq<|reg<|p_ld ty3 (S19.atP (i:=0) rfl) rfl rfl ?_
  obtain ⟨h21,H⟩:=needS H
  refine p_ixD ar101 h21 rfl rfl<|p_ldD (pre:=[]) (post:=[]) ty3 (S19.atX (i:=0) rfl) rfl h21 rfl rfl<|p_aI rfl<|wp_nil ?_
  obtain rfl:=sJ H
  exact c_ret (rT Tryz.f69 S19.keep rfl rfl)
def ticket_Saved (a0:TicketBook) (a1:Int):Option (Span×Int):=
 (ticket_isTicket a0 a1).bind fun r26=>
 (ticket_asked a0 r26).bind fun r32=>
 bif (r32.2 != 0) then (some ((Span.mk 0 0),r32.2))
 else ((ticket_book_span r32.1 (fun y113=>ticket_Saved_1 y113 a1)).bind fun r114=>
 some (r114,0))
set_option maxHeartbeats 10000000 in
set_option maxRecDepth 100000 in
theorem ticket_Saved_ok {a0:TicketBook}{a1:Int}{A1:Option Addr}{c2:Nat}{A4:Option Addr}{c5:Nat}{A7:Option Addr}{c8:Nat}{A10:Option Addr}{c11:Nat}{w:World}{r:Span×Int} (H:ticket_Saved a0 a1=some r) (h3:(rd eTallyCount 7 A1 c2 a0.Tally.Counts).ok w) (h6:(rd eTicketSeason 2 A4 c5 a0.Tickets).ok w) (h9:(rd eTicketShow 3 A7 c8 a0.Shows).ok w) (h12:(rd eTicketBox 4 A10 c11 a0.Boxes).ok w) (hg13:(gW0).ok w) (hg14:(gW2).ok w):Calls Tryz.prog 22 #[AG (vB a0 A1 c2 A4 c5 A7 c8 A10 c11),I a1] w (RetV w (TU [AG [I r.1.Low,I r.1.High],I r.2])):=by
 unfold ticket_Saved at H
 refine fn_of (n:=23) Tryz.func22 rfl rfl (lE rfl) ?_
 have S:=St.start w nF _ (cA h3 (cA h6 (cA h9 (cA h12 (cA hg13 (cA hg14 nM))))))
 refine c_seq<|reg<|p_boxA rfl S fun b15 w16 S17=>p_box (rfl:_=I a1) rfl S17 fun b18 w19 S20=>?_
 try clear S17
 refine p_allA in51 S20 fun b21 w22 S23=>?_
 try clear S20
 refine p_aI rfl<|wp_nil<|c_seq ?_
 obtain ⟨r26,h27,H⟩:=bindS H
 obtain ⟨r32,h33,H⟩:=bindS H
 have A_:∀ {w_:World},Keep0 w22 w_→St w_ nF w_ [] [bl b21 [I 0,I 0] 51,bl b18 [I a1] 3,bl b15 (vB a0 A1 c2 A4 c5 A7 c8 A10 c11) 29,rd eTallyCount 7 A1 c2 a0.Tally.Counts,rd eTicketSeason 2 A4 c5 a0.Tickets,rd eTicketShow 3 A7 c8 a0.Shows,rd eTicketBox 4 A10 c11 a0.Boxes,gW0,gW2]:=fun k_=>S23.asP k_
 refine reg_fl mixed 9 7 (by kernel_rfl) [rv (AG (vB a0 A1 c2 A4 c5 A7 c8 A10 c11)),rv (AG (vB a0 A1 c2 A4 c5 A7 c8 A10 c11)),rv (I a1),rv (B r26),rx (α:=(Option Addr)×Nat×(Option Addr)×Nat×(Option Addr)×Nat×(Option Addr)×Nat×(Option Nat)) (fun ⟨A36,c37,A38,c39,A40,c41,A42,c43,m44⟩=>TU [AG ((vB r32.1.TicketBook A36 c37 A38 c39 A40 c41 A42 c43)++(sg r32.1.shown_ 3++[Value.map m44])),I r32.2]) (fun ⟨A36,c37,A38,c39,A40,c41,A42,c43,m44⟩ lo hi=>BtwL lo hi [rd eTallyCount 7 A1 c2 a0.Tally.Counts,rd eTicketSeason 2 A4 c5 a0.Tickets,rd eTicketShow 3 A7 c8 a0.Shows,rd eTicketBox 4 A10 c11 a0.Boxes] (rd eTallyCount 7 A36 c37 r32.1.TicketBook.Tally.Counts)∧BtwL lo hi [rd eTallyCount 7 A1 c2 a0.Tally.Counts,rd eTicketSeason 2 A4 c5 a0.Tickets,rd eTicketShow 3 A7 c8 a0.Shows,rd eTicketBox 4 A10 c11 a0.Boxes] (rd eTicketSeason 2 A38 c39 r32.1.TicketBook.Tickets)∧BtwL lo hi [] (rd eTicketShow 3 A40 c41 r32.1.TicketBook.Shows)∧BtwL lo hi [] (rd eTicketBox 4 A42 c43 r32.1.TicketBook.Boxes)∧BtwL lo hi [] (mpo ekS iE m44 r32.1.by_)∧True) (fun ⟨A36,c37,A38,c39,A40,c41,A42,c43,m44⟩=>[rd eTallyCount 7 A36 c37 r32.1.TicketBook.Tally.Counts,rd eTicketSeason 2 A38 c39 r32.1.TicketBook.Tickets,rd eTicketShow 3 A40 c41 r32.1.TicketBook.Shows,rd eTicketBox 4 A42 c43 r32.1.TicketBook.Boxes,mpo ekS iE m44 r32.1.by_]),dv 13 some,dv 8 (exG 0),dv 8 (exG 1),rx (α:=Nat) (fun b67=>P b67 0) (fun b67 lo hi=>BtwL lo hi [] (bl b67 ([I 0,I 0,SL none 0 0,I 0,SL none 0 0,SL none 0 0,SL none 0 0]++(sg (List.replicate 3 0) 3++[Value.map none])) 73)∧True) (fun b67=>[bl b67 ([I 0,I 0,SL none 0 0,I 0,SL none 0 0,SL none 0 0,SL none 0 0]++(sg (List.replicate 3 0) 3++[Value.map none])) 73])] [[],[],[],[],[],[13],[8],[8],[]] rfl (by kernel_rfl) [[],[],[],[1,2],[0,1,2,3],[0,1,2,3,4],[0,1,2,3,4,5],[0,1,2,3,4,5],[],[0,1,2,3,4,5,6,8],[0,1,2,3,4,5,6,7,8,9]] (by kernel_rfl) ⟨?_,?_,?_,?_,?_,?_,?_,?_,?_,trivial⟩ ?_ ?_
 ·intro e_ w_ k_ hf_ hR_
  have S_:=@A_ _ k_
  refine hopE [(2,P b15 0)] ⟨((hf_ 2 rfl).trans (rfl:_=P b15 0)),trivial⟩ ?_
  exact p_ldA ty29 sz29 (S_.atP (i:=2) rfl) rfl rfl<|wp_nil ⟨_,rfl,S_.keep,rfl⟩
 ·intro e_ w_ k_ hf_ hR_
  have S_:=@A_ _ k_
  refine hopE [(2,P b15 0)] ⟨((hf_ 2 rfl).trans (rfl:_=P b15 0)),trivial⟩ ?_
  exact p_ldA ty29 sz29 (S_.atP (i:=2) rfl) rfl rfl<|wp_nil ⟨_,rfl,S_.keep,rfl⟩
 ·intro e_ w_ k_ hf_ hR_
  have S_:=@A_ _ k_
  refine hopE [(3,P b18 0)] ⟨((hf_ 3 rfl).trans (rfl:_=P b18 0)),trivial⟩ ?_
  exact p_ld ty3 (S_.atP (i:=1) rfl) rfl rfl<|wp_nil ⟨_,rfl,S_.keep,rfl⟩
 ·intro e_ w_ k_ hf_ hR_
  have S_:=@A_ _ k_
  refine hopE [(10,AG (vB a0 A1 c2 A4 c5 A7 c8 A10 c11)),(11,I a1)] ⟨rQ (hR_ 1 10 rfl (lE rfl) rfl),rQ (hR_ 2 11 rfl (lE rfl) rfl),trivial⟩ ?_
  refine p_cv (ticket_isTicket_ok h27 (S_.atP (i:=3) rfl) (S_.atP (i:=4) rfl) (S_.atP (i:=5) rfl) (S_.atP (i:=6) rfl)) fu54 rfl S_ fun w28 S29=>wp_nil ?_
  exact ⟨_,rfl,S29.keep,rfl⟩
 ·intro e_ w_ k_ hf_ hR_
  have S_:=@A_ _ k_
  refine hopE [(9,AG (vB a0 A1 c2 A4 c5 A7 c8 A10 c11)),(12,B r26)] ⟨rQ (hR_ 0 9 rfl (lE rfl) rfl),rQ (hR_ 3 12 rfl (lE rfl) rfl),trivial⟩ ?_
  refine p_cal (ticket_asked_ok h33 (S_.atP (i:=3) rfl) (S_.atP (i:=4) rfl) (S_.atP (i:=5) rfl) (S_.atP (i:=6) rfl) (S_.atP (i:=7) rfl) (S_.atP (i:=8) rfl)) fu62 rfl ?_
  rintro _ w34 ⟨A36,c37,A38,c39,A40,c41,A42,c43,m44,rfl,k35,⟨o45,n46⟩,⟨o47,n48⟩,⟨o49,n50⟩,⟨o51,n52⟩,⟨o53,n54⟩,_⟩
  have S55:=S_.callN k35 [rd eTallyCount 7 A36 c37 r32.1.TicketBook.Tally.Counts,rd eTicketSeason 2 A38 c39 r32.1.TicketBook.Tickets,rd eTicketShow 3 A40 c41 r32.1.TicketBook.Shows,rd eTicketBox 4 A42 c43 r32.1.TicketBook.Boxes,mpo ekS iE m44 r32.1.by_] (cA ⟨o45,Al.inL n46 ((cA (fp_mem (i:=3) rfl) (cA (fp_mem (i:=4) rfl) (cA (fp_mem (i:=5) rfl) (cA (fp_mem (i:=6) rfl) nM)))))⟩ (cA ⟨o47,Al.inL n48 ((cA (fp_mem (i:=3) rfl) (cA (fp_mem (i:=4) rfl) (cA (fp_mem (i:=5) rfl) (cA (fp_mem (i:=6) rfl) nM)))))⟩ (cA ⟨o49,New.inL n50⟩ (cA ⟨o51,New.inL n52⟩ (cA ⟨o53,New.inL n54⟩ nM)))))
  exact wp_nil ⟨_,rfl,S55.keep,⟨(A36,c37,A38,c39,A40,c41,A42,c43,m44),rfl,⟨bL n46 rfl (S55.atP (i:=0) rfl) rfl,bL n48 rfl (S55.atP (i:=1) rfl) rfl,bL (New.al (New.mono n50 S_.keep.size)) rfl (S55.atP (i:=2) rfl) rfl,bL (New.al (New.mono n52 S_.keep.size)) rfl (S55.atP (i:=3) rfl) rfl,bL (New.al (New.mono n54 S_.keep.size)) rfl (S55.atP (i:=4) rfl) rfl,trivial⟩,(cA (S55.atP (i:=0) rfl) (cA (S55.atP (i:=1) rfl) (cA (S55.atP (i:=2) rfl) (cA (S55.atP (i:=3) rfl) (cA (S55.atP (i:=4) rfl) nM)))))⟩⟩
 ·intro e_ w_ k_ hf_ hR_
  have S_:=@A_ _ k_
  obtain ⟨_,_,_,_,⟨A36,c37,A38,c39,A40,c41,A42,c43,m44⟩,q56,p57,a58⟩:=hR_ 4 13 rfl (lE rfl) rfl
  replace q56:e_ 13=TU [AG ((vB r32.1.TicketBook A36 c37 A38 c39 A40 c41 A42 c43)++(sg r32.1.shown_ 3++[Value.map m44])),I r32.2]:=q56
  have S_:=St.addL' S_ (a58 _ (.head _)) (fun _ _ _ h_=>(nE h_))
  have S_:=St.addL' S_ (a58 _ (.tail _ (.head _))) (fun _ _ _ h_=>(nE h_))
  have S_:=St.addL' S_ (a58 _ (.tail _ (.tail _ (.head _)))) (fun _ _ _ h_=>(nE h_))
  have S_:=St.addL' S_ (a58 _ (.tail _ (.tail _ (.tail _ (.head _))))) (fun _ _ _ h_=>(nE h_))
  have S_:=St.addL' S_ (a58 _ (.tail _ (.tail _ (.tail _ (.tail _ (.head _)))))) (fun _ _ _ h_=>(nE h_))
  refine hopE [(13,TU [AG ((vB r32.1.TicketBook A36 c37 A38 c39 A40 c41 A42 c43)++(sg r32.1.shown_ 3++[Value.map m44])),I r32.2])] ⟨q56,trivial⟩ ?_
  refine p_mT rfl<|wp_nil ?_
  exact ⟨_,rfl,S_.keep,rfl⟩
 ·intro e_ w_ k_ hf_ hR_
  have S_:=@A_ _ k_
  obtain ⟨_,_,_,_,⟨A36,c37,A38,c39,A40,c41,A42,c43,m44⟩,q60,p61,a62⟩:=hR_ 4 13 rfl (lE rfl) rfl
  replace q60:e_ 13=TU [AG ((vB r32.1.TicketBook A36 c37 A38 c39 A40 c41 A42 c43)++(sg r32.1.shown_ 3++[Value.map m44])),I r32.2]:=q60
  have S_:=St.addL' S_ (a62 _ (.head _)) (fun _ _ _ h_=>(nE h_))
  have S_:=St.addL' S_ (a62 _ (.tail _ (.head _))) (fun _ _ _ h_=>(nE h_))
  have S_:=St.addL' S_ (a62 _ (.tail _ (.tail _ (.head _)))) (fun _ _ _ h_=>(nE h_))
  have S_:=St.addL' S_ (a62 _ (.tail _ (.tail _ (.tail _ (.head _))))) (fun _ _ _ h_=>(nE h_))
  have S_:=St.addL' S_ (a62 _ (.tail _ (.tail _ (.tail _ (.tail _ (.head _)))))) (fun _ _ _ h_=>(nE h_))
  obtain ⟨_,_,_,_,q59⟩:=hR_ 5 8 rfl (lE rfl) rfl
  replace q59:e_ 8=TU [AG ((vB r32.1.TicketBook A36 c37 A38 c39 A40 c41 A42 c43)++(sg r32.1.shown_ 3++[Value.map m44])),I r32.2]:=(sJ ((congrArg some q60).symm.trans q59)).symm
  refine hopE [(8,TU [AG ((vB r32.1.TicketBook A36 c37 A38 c39 A40 c41 A42 c43)++(sg r32.1.shown_ 3++[Value.map m44])),I r32.2])] ⟨q59,trivial⟩ ?_
  refine p_ext rfl rfl<|wp_nil ?_
  exact ⟨_,rfl,S_.keep,rfl⟩
 ·intro e_ w_ k_ hf_ hR_
  have S_:=@A_ _ k_
  obtain ⟨_,_,_,_,⟨A36,c37,A38,c39,A40,c41,A42,c43,m44⟩,q64,p65,a66⟩:=hR_ 4 13 rfl (lE rfl) rfl
  replace q64:e_ 13=TU [AG ((vB r32.1.TicketBook A36 c37 A38 c39 A40 c41 A42 c43)++(sg r32.1.shown_ 3++[Value.map m44])),I r32.2]:=q64
  have S_:=St.addL' S_ (a66 _ (.head _)) (fun _ _ _ h_=>(nE h_))
  have S_:=St.addL' S_ (a66 _ (.tail _ (.head _))) (fun _ _ _ h_=>(nE h_))
  have S_:=St.addL' S_ (a66 _ (.tail _ (.tail _ (.head _)))) (fun _ _ _ h_=>(nE h_))
  have S_:=St.addL' S_ (a66 _ (.tail _ (.tail _ (.tail _ (.head _))))) (fun _ _ _ h_=>(nE h_))
  have S_:=St.addL' S_ (a66 _ (.tail _ (.tail _ (.tail _ (.tail _ (.head _)))))) (fun _ _ _ h_=>(nE h_))
  obtain ⟨_,_,_,_,q63⟩:=hR_ 5 8 rfl (lE rfl) rfl
  replace q63:e_ 8=TU [AG ((vB r32.1.TicketBook A36 c37 A38 c39 A40 c41 A42 c43)++(sg r32.1.shown_ 3++[Value.map m44])),I r32.2]:=(sJ ((congrArg some q64).symm.trans q63)).symm
  refine hopE [(8,TU [AG ((vB r32.1.TicketBook A36 c37 A38 c39 A40 c41 A42 c43)++(sg r32.1.shown_ 3++[Value.map m44])),I r32.2])] ⟨q63,trivial⟩ ?_
  refine p_ext rfl rfl<|wp_nil ?_
  exact ⟨_,rfl,S_.keep,rfl⟩
 ·intro e_ w_ k_ hf_ hR_
  have S_:=@A_ _ k_
  refine hopE [] trivial ?_
  refine p_allA in73 S_ fun b67 w68 S69=>wp_nil ?_
  exact ⟨_,rfl,S69.keep,⟨b67,rfl,⟨bL (New.al (S69.newX (i:=0) rfl)) rfl (S69.atX (i:=0) rfl) rfl,trivial⟩,(cA (S69.atX (i:=0) rfl) nM)⟩⟩
 ·intro e70 w71 lo72 hi73 k74 hf75 hR76 hd77
  have S78:=S23.call k74
  obtain ⟨h80,h81,h82,⟨A36,c37,A38,c39,A40,c41,A42,c43,m44⟩,q79,h83,h84⟩:=hR76 4 13 (lE rfl) rfl
  replace q79:e70 13=TU [AG ((vB r32.1.TicketBook A36 c37 A38 c39 A40 c41 A42 c43)++(sg r32.1.shown_ 3++[Value.map m44])),I r32.2]:=q79
  obtain ⟨p85,p86,p87,p88,p89,_⟩:=h83
  have S90:=St.addR S78 (h84 _ (.head _)) (oR p85 h80 S23 (mG [0,1,2,3] rfl))
  try clear S78
  have S91:=St.addR S90 (h84 _ (.tail _ (.head _))) (oR p86 h80 S23 (mG [0,1,2,3] rfl))
  try clear S90
  have S92:=St.addR S91 (h84 _ (.tail _ (.tail _ (.head _)))) (oR p87 h80 S23 (nM))
  try clear S91
  have S93:=St.addR S92 (h84 _ (.tail _ (.tail _ (.tail _ (.head _))))) (oR p88 h80 S23 (nM))
  try clear S92
  have S94:=St.addR S93 (h84 _ (.tail _ (.tail _ (.tail _ (.tail _ (.head _)))))) (oR p89 h80 S23 (nM))
  try clear S93
  have q95:e70 8=TU [AG ((vB r32.1.TicketBook A36 c37 A38 c39 A40 c41 A42 c43)++(sg r32.1.shown_ 3++[Value.map m44])),I r32.2]:=(sJ ((congrArg some q79).symm.trans (hR76 5 8 (lE rfl) rfl).2.2.2)).symm
  have q96:e70 14=AG ((vB r32.1.TicketBook A36 c37 A38 c39 A40 c41 A42 c43)++(sg r32.1.shown_ 3++[Value.map m44])):=(sJ ((congrArg (exG 0) q95).symm.trans (hR76 6 14 (lE rfl) rfl).2.2.2)).symm
  have q97:e70 15=I r32.2:=(sJ ((congrArg (exG 1) q95).symm.trans (hR76 7 15 (lE rfl) rfl).2.2.2)).symm
  obtain ⟨h99,h100,h101,b67,q98,h102,h103⟩:=hR76 8 6 (lE rfl) rfl
  replace q98:e70 6=P b67 0:=q98
  obtain ⟨p104,_⟩:=h102
  have S106:=St.addO S94 (h103 _ (.head _)) (oN p104 h99 S23) (oX p104 h99 S23) (cA (oP p104 p89 h99 S23 (nM) (hd77 8 4 (lE rfl) (lE rfl) (by decide))) (cA (oP p104 p88 h99 S23 (nM) (hd77 8 4 (lE rfl) (lE rfl) (by decide))) (cA (oP p104 p87 h99 S23 (nM) (hd77 8 4 (lE rfl) (lE rfl) (by decide))) (cA (oP p104 p86 h99 S23 (mG [0,1,2,3] rfl) (hd77 8 4 (lE rfl) (lE rfl) (by decide))) (cA (oP p104 p85 h99 S23 (mG [0,1,2,3] rfl) (hd77 8 4 (lE rfl) (lE rfl) (by decide))) (oL p104 h99 S23))))))
  try clear S94
  refine tailE [(3,P b18 0),(4,P b21 0),(6,P b67 0),(14,AG ((vB r32.1.TicketBook A36 c37 A38 c39 A40 c41 A42 c43)++(sg r32.1.shown_ 3++[Value.map m44]))),(15,I r32.2)] ⟨((hf75 3 rfl).trans (rfl:_=P b18 0)),((hf75 4 rfl).trans (rfl:_=P b21 0)),q98,q96,q97,trivial⟩ ?_
  intro g107
  refine p_stP (pre:=[]) (old:=[I 0,I 0,SL none 0 0,I 0,SL none 0 0,SL none 0 0,SL none 0 0]++(sg (List.replicate 3 0) 3++[Value.map none])) (post:=[]) (vs:=(vB r32.1.TicketBook A36 c37 A38 c39 A40 c41 A42 c43)++(sg r32.1.shown_ 3++[Value.map m44])) sz73 S106 (i:=0) rfl rfl rfl rfl (rfl:_=AG ((vB r32.1.TicketBook A36 c37 A38 c39 A40 c41 A42 c43)++(sg r32.1.shown_ 3++[Value.map m44]))) rfl rfl rfl rfl fun w108 S109=>?_
  try clear S106
  refine p_aI rfl<|wp_nil<|c_seq<|c_seq<|reg<|p_mI rfl<|p_cmp rfl rfl rfl<|wp_nil ?_
  refine c_cond rfl (fun c110=>?_) (fun c110=>?_)
  ·replace H:=condT c110 H
   refine c_seq<|reg<|p_bld (cs:=[I 0,I 0]) st51 (rfl:_=[]) (by kernel_rfl)<|p_mI rfl<|p_stP (pre:=[]) (old:=[I 0,I 0]) (post:=[]) (vs:=[I 0,I 0]) sz51 S109 (i:=1) rfl rfl rfl rfl (rfl:_=AG [I 0,I 0]) rfl rfl rfl rfl fun w111 S112=>p_aI rfl<|wp_nil ?_
   obtain rfl:=sJ H
   refine c_ret ?_; show bodyPostM (Fr none) 0 Tryz.prog Tryz.f22 _ .ret _ _
   refine ret_of (res2 rfl (rvA rfl ty51 sz51 (S112.atX (i:=1) rfl) rfl) (rvT (rfl:_=I r32.2))) ?_
   exact ⟨_,rfl,rfl,S112.keep⟩
  ·replace H:=condF c110 H
   refine c_skip<|c_seq<|reg<|p_ldA ty73 sz73 (S109.atX (i:=0) rfl) rfl rfl ?_
   refine o_fun (rfl:_=[]) (rfl:_=[P b18 0]) ?_
   obtain ⟨r114,h115,H⟩:=bindS H
   refine p_cv (ticket_book_span_ok h115 (S109.atP (i:=4) rfl) (S109.atP (i:=3) rfl) (S109.atP (i:=2) rfl) (S109.atP (i:=1) rfl) (S109.atP (i:=0) rfl) (by kernel_rfl) (fun _ _ _ k_ hr_=>ticket_Saved_1_ok hr_ (aS (S109.atX (i:=2) rfl) k_)) (S109.atP (i:=9) rfl) (S109.atP (i:=10) rfl)) fu63 rfl S109 fun w116 S117=>?_
   try clear S109
   refine p_stP (pre:=[]) (old:=[I 0,I 0]) (post:=[]) (vs:=[I r114.Low,I r114.High]) sz51 S117 (i:=1) rfl rfl rfl rfl (rfl:_=AG [I r114.Low,I r114.High]) rfl rfl rfl rfl fun w118 S119=>?_
   try clear S117
   refine p_aI rfl<|wp_nil ?_
   have S120:St w nF w118 [bl b21 [I r114.Low,I r114.High] 51] [rd eTallyCount 7 A1 c2 a0.Tally.Counts,rd eTicketSeason 2 A4 c5 a0.Tickets,rd eTicketShow 3 A7 c8 a0.Shows,rd eTicketBox 4 A10 c11 a0.Boxes,gW0,gW2]:=S119.pk [1] (by decide) [5,6,7,8,9,10] rfl rfl
   try clear S119
   obtain rfl:=sJ H
   refine c_ret ?_; show bodyPostM (Fr none) 0 Tryz.prog Tryz.f22 _ .ret _ _
   refine ret_of (res2 rfl (rvA rfl ty51 sz51 (S120.atX (i:=0) rfl) rfl) (rvT (rfl:_=I 0))) ?_
   exact ⟨_,rfl,rfl,S120.keep⟩
 ·intro e121 w122 lo123 hi124 k125 hf126 hR127 hd128
  have S129:=S23.call k125
  obtain ⟨h131,h132,h133,⟨A36,c37,A38,c39,A40,c41,A42,c43,m44⟩,q130,h134,h135⟩:=hR127 4 13 (lE rfl) (by decide) rfl
  replace q130:e121 13=TU [AG ((vB r32.1.TicketBook A36 c37 A38 c39 A40 c41 A42 c43)++(sg r32.1.shown_ 3++[Value.map m44])),I r32.2]:=q130
  obtain ⟨p136,p137,p138,p139,p140,_⟩:=h134
  have S141:=St.addR S129 (h135 _ (.head _)) (oR p136 h131 S23 (mG [0,1,2,3] rfl))
  try clear S129
  have S142:=St.addR S141 (h135 _ (.tail _ (.head _))) (oR p137 h131 S23 (mG [0,1,2,3] rfl))
  try clear S141
  have S143:=St.addR S142 (h135 _ (.tail _ (.tail _ (.head _)))) (oR p138 h131 S23 (nM))
  try clear S142
  have S144:=St.addR S143 (h135 _ (.tail _ (.tail _ (.tail _ (.head _))))) (oR p139 h131 S23 (nM))
  try clear S143
  have S145:=St.addR S144 (h135 _ (.tail _ (.tail _ (.tail _ (.tail _ (.head _)))))) (oR p140 h131 S23 (nM))
  try clear S144
  have q146:e121 8=TU [AG ((vB r32.1.TicketBook A36 c37 A38 c39 A40 c41 A42 c43)++(sg r32.1.shown_ 3++[Value.map m44])),I r32.2]:=(sJ ((congrArg some q130).symm.trans (hR127 5 8 (lE rfl) (by decide) rfl).2.2.2)).symm
  have q147:e121 14=AG ((vB r32.1.TicketBook A36 c37 A38 c39 A40 c41 A42 c43)++(sg r32.1.shown_ 3++[Value.map m44])):=(sJ ((congrArg (exG 0) q146).symm.trans (hR127 6 14 (lE rfl) (by decide) rfl).2.2.2)).symm
  obtain ⟨h149,h150,h151,b67,q148,h152,h153⟩:=hR127 8 6 (lE rfl) (by decide) rfl
  replace q148:e121 6=P b67 0:=q148
  obtain ⟨p154,_⟩:=h152
  have S156:=St.addO S145 (h153 _ (.head _)) (oN p154 h149 S23) (oX p154 h149 S23) (cA (oP p154 p140 h149 S23 (nM) (hd128 8 4 (lE rfl) (lE rfl) (by decide) (by decide) (by decide))) (cA (oP p154 p139 h149 S23 (nM) (hd128 8 4 (lE rfl) (lE rfl) (by decide) (by decide) (by decide))) (cA (oP p154 p138 h149 S23 (nM) (hd128 8 4 (lE rfl) (lE rfl) (by decide) (by decide) (by decide))) (cA (oP p154 p137 h149 S23 (mG [0,1,2,3] rfl) (hd128 8 4 (lE rfl) (lE rfl) (by decide) (by decide) (by decide))) (cA (oP p154 p136 h149 S23 (mG [0,1,2,3] rfl) (hd128 8 4 (lE rfl) (lE rfl) (by decide) (by decide) (by decide))) (oL p154 h149 S23))))))
  try clear S23; try clear S145
  refine tailE [(3,P b18 0),(4,P b21 0),(6,P b67 0),(8,TU [AG ((vB r32.1.TicketBook A36 c37 A38 c39 A40 c41 A42 c43)++(sg r32.1.shown_ 3++[Value.map m44])),I r32.2]),(14,AG ((vB r32.1.TicketBook A36 c37 A38 c39 A40 c41 A42 c43)++(sg r32.1.shown_ 3++[Value.map m44])))] ⟨((hf126 3 rfl).trans (rfl:_=P b18 0)),((hf126 4 rfl).trans (rfl:_=P b21 0)),q148,q146,q147,trivial⟩ ?_
  intro g157
  refine p_stP (pre:=[]) (old:=[I 0,I 0,SL none 0 0,I 0,SL none 0 0,SL none 0 0,SL none 0 0]++(sg (List.replicate 3 0) 3++[Value.map none])) (post:=[]) (vs:=(vB r32.1.TicketBook A36 c37 A38 c39 A40 c41 A42 c43)++(sg r32.1.shown_ 3++[Value.map m44])) sz73 S156 (i:=0) rfl rfl rfl rfl (rfl:_=AG ((vB r32.1.TicketBook A36 c37 A38 c39 A40 c41 A42 c43)++(sg r32.1.shown_ 3++[Value.map m44]))) rfl rfl rfl rfl fun w158 S159=>?_
  try clear S156
  refine p_ext rfl rfl<|p_aI rfl<|wp_nil<|c_seq<|c_seq<|reg<|p_mI rfl<|p_cmp rfl rfl rfl<|wp_nil ?_
  refine c_cond rfl (fun c160=>?_) (fun c160=>?_)
  ·replace H:=condT c160 H
   refine c_seq<|reg<|p_bld (cs:=[I 0,I 0]) st51 (rfl:_=[]) (by kernel_rfl)<|p_mI rfl<|p_stP (pre:=[]) (old:=[I 0,I 0]) (post:=[]) (vs:=[I 0,I 0]) sz51 S159 (i:=1) rfl rfl rfl rfl (rfl:_=AG [I 0,I 0]) rfl rfl rfl rfl fun w161 S162=>p_aI rfl<|wp_nil ?_
   obtain rfl:=sJ H
   refine c_ret ?_; show bodyPostM (Fr none) 0 Tryz.prog Tryz.f22 _ .ret _ _
   refine ret_of (res2 rfl (rvA rfl ty51 sz51 (S162.atX (i:=1) rfl) rfl) (rvT (rfl:_=I r32.2))) ?_
   exact ⟨_,rfl,rfl,S162.keep⟩
  ·replace H:=condF c160 H
   refine c_skip<|c_seq<|reg<|p_ldA ty73 sz73 (S159.atX (i:=0) rfl) rfl rfl ?_
   refine o_fun (rfl:_=[]) (rfl:_=[P b18 0]) ?_
   obtain ⟨r164,h165,H⟩:=bindS H
   refine p_cv (ticket_book_span_ok h165 (S159.atP (i:=4) rfl) (S159.atP (i:=3) rfl) (S159.atP (i:=2) rfl) (S159.atP (i:=1) rfl) (S159.atP (i:=0) rfl) (by kernel_rfl) (fun _ _ _ k_ hr_=>ticket_Saved_1_ok hr_ (aS (S159.atX (i:=2) rfl) k_)) (S159.atP (i:=9) rfl) (S159.atP (i:=10) rfl)) fu63 rfl S159 fun w166 S167=>?_
   try clear S159
   refine p_stP (pre:=[]) (old:=[I 0,I 0]) (post:=[]) (vs:=[I r164.Low,I r164.High]) sz51 S167 (i:=1) rfl rfl rfl rfl (rfl:_=AG [I r164.Low,I r164.High]) rfl rfl rfl rfl fun w168 S169=>?_
   try clear S167
   refine p_aI rfl<|wp_nil ?_
   have S170:St w nF w168 [bl b21 [I r164.Low,I r164.High] 51] [rd eTallyCount 7 A1 c2 a0.Tally.Counts,rd eTicketSeason 2 A4 c5 a0.Tickets,rd eTicketShow 3 A7 c8 a0.Shows,rd eTicketBox 4 A10 c11 a0.Boxes,gW0,gW2]:=S169.pk [1] (by decide) [5,6,7,8,9,10] rfl rfl
   try clear S169
   obtain rfl:=sJ H
   refine c_ret ?_; show bodyPostM (Fr none) 0 Tryz.prog Tryz.f22 _ .ret _ _
   refine ret_of (res2 rfl (rvA rfl ty51 sz51 (S170.atX (i:=0) rfl) rfl) (rvT (rfl:_=I 0))) ?_
   exact ⟨_,rfl,rfl,S170.keep⟩
def B_KeptCounts_l1 (a0:List TallyCount) (a1:List TallyCount) (rec_z_1:(Bool×Int)→Option Bool) (z_1:Bool×Int):Option Bool:=
 bif z_1.1 then (bif decide (z_1.2 < (a0.length:Int)) then ((getI a0 z_1.2).bind fun r13=>
 (getI a1 z_1.2).bind fun r15=>
 rec_z_1 (((r13.Who==r15.Who)&&(r13.From==r15.From)&&(r13.To==r15.To)&&(r13.Told==r15.Told)&&(r13.Unit==r15.Unit)&&(r13.Under==r15.Under)&&(r13.Over==r15.Over)),wr (z_1.2+1)))
 else (some z_1.1))
 else (some z_1.1)
def B_KeptCounts (a0:List TallyCount) (a1:List TallyCount):Option Bool:=
 loopF (B_KeptCounts_l1 a0 a1) big (((a0.length:Int)==(a1.length:Int)),0)
set_option maxRecDepth 100000 in
theorem B_KeptCounts_ok {a0:List TallyCount}{a1:List TallyCount}{A1:Option Addr}{c2:Nat}{A4:Option Addr}{c5:Nat}{w:World}{r:Bool} (H:B_KeptCounts a0 a1=some r) (h3:(rd eTallyCount 7 A1 c2 a0).ok w) (h6:(rd eTallyCount 7 A4 c5 a1).ok w):Calls Tryz.prog 73 #[SL A1 a0.length c2,SL A4 a1.length c5] w (RetV w (B r)):=by
 unfold B_KeptCounts at H
 refine fn_of (n:=31) Tryz.func73 rfl rfl (lE rfl) ?_
 have S:=St.start w nF _ (cA h3 (cA h6 nM))
 refine c_seq<|reg<|p_aB rfl<|wp_nil<|c_seq<|reg<|p_mS rfl<|p_len rfl sc22<|p_mS rfl<|p_len rfl sc22<|p_cmp rfl rfl rfl<|p_aB rfl<|wp_nil<|c_seq<|c_seq<|reg<|p_aI rfl<|wp_nil<|c_block ?_
 refine c_lop (α:=Bool×Int) (β:=Unit) (B_KeptCounts_l1 a0 a1) (fun z_1 y_1=>[(0,SL A1 a0.length c2),(1,SL A4 a1.length c5),(5,B z_1.1),(6,I z_1.2)]) (fun z_1 y_1 w_=>St w nF w_ [] [rd eTallyCount 7 A1 c2 a0,rd eTallyCount 7 A4 c5 a1]) (((a0.length:Int)==(a1.length:Int)),0) () H ⟨rfl,rfl,rfl,rfl,trivial⟩ S ?_
 intro m7 z_1 y_1 e8 w9 H S10
 unfold B_KeptCounts_l1 at H
 refine c_seq<|c_seq<|reg<|p_mB rfl<|p_mB rfl ?_
 rcases bE (z_1.1) with c11 | c11
 ·replace H:=condT c11 H
  refine eB c11 ?_
  refine gT rfl rfl (p_mI rfl ?_)
  refine gT rfl rfl (p_mS rfl ?_)
  refine gT rfl rfl (p_len rfl sc22 ?_)
  refine gT rfl rfl (p_cmp rfl rfl rfl ?_)
  refine p_pkT rfl (rfl:_=B (decide (z_1.2 < (a0.length:Int))))<|wp_nil ?_
  refine c_cond rfl (fun c12=>?_) (fun c12=>?_)
  ·replace H:=condT c12 H
   refine c_skip<|c_seq<|c_block ?_
   obtain ⟨r13,h14,H⟩:=bindS H
   obtain ⟨r15,h16,H⟩:=bindS H
   refine reg_q mixed 10 (by kernel_rfl) ?_
   refine dS (fun _ k_=>p_mS rfl dn)<|dS (fun _ k_=>p_mI rfl dn)<|dS (fun _ k_=>p_ixE sc22 h14 (aS (S10.atP (i:=0) rfl) k_).1 rfl rfl rfl dn)<|dS (fun _ k_=>p_ldEA ty106 sz106 rfl h14 (aS (S10.atP (i:=0) rfl) k_).1 rfl dn)<|dS (fun _ k_=>p_mS rfl dn)<|dS (fun _ k_=>p_mI rfl dn)<|dS (fun _ k_=>p_ixE sc22 h16 (aS (S10.atP (i:=1) rfl) k_).1 rfl rfl rfl dn) ?_
   refine dS (fun _ k_=>p_ldEA ty106 sz106 rfl h16 (aS (S10.atP (i:=1) rfl) k_).1 rfl dn) ?_
   refine dS (fun _ k_=>o_eqA (xs:=[I r13.Who,I r13.From,I r13.To,I r13.Told,I r13.Unit,I r13.Under,I r13.Over]) (ys:=[I r15.Who,I r15.From,I r15.To,I r15.Told,I r15.Unit,I r15.Under,I r15.Over]) (T:=((r13.Who==r15.Who)&&(r13.From==r15.From)&&(r13.To==r15.To)&&(r13.Told==r15.Told)&&(r13.Unit==r15.Unit)&&(r13.Under==r15.Under)&&(r13.Over==r15.Over))) rfl rfl eq106 ⟨⟨_,rfl⟩,⟨⟨_,rfl⟩,⟨⟨_,rfl⟩,⟨⟨_,rfl⟩,⟨⟨_,rfl⟩,⟨⟨_,rfl⟩,⟨⟨_,rfl⟩,trivial⟩⟩⟩⟩⟩⟩⟩ ⟨⟨_,rfl⟩,⟨⟨_,rfl⟩,⟨⟨_,rfl⟩,⟨⟨_,rfl⟩,⟨⟨_,rfl⟩,⟨⟨_,rfl⟩,⟨⟨_,rfl⟩,trivial⟩⟩⟩⟩⟩⟩⟩ (by simp [Bool.and_eq_true,and_assoc]) dn) ?_
   refine dS (fun _ k_=>p_aB rfl dn) ?_
   intro w17 k18; have S19:=S10.call k18
   exact wp_nil<|reg<|p_mI rfl<|p_add rfl rfl<|p_aI rfl<|wp_nil ⟨(((r13.Who==r15.Who)&&(r13.From==r15.From)&&(r13.To==r15.To)&&(r13.Told==r15.Told)&&(r13.Unit==r15.Unit)&&(r13.Under==r15.Under)&&(r13.Over==r15.Over)),wr (z_1.2+1)),(),_,rfl,⟨rfl,rfl,rfl,rfl,trivial⟩,H,S19⟩
  ·replace H:=condF c12 H
   refine c_exit<|c_seq<|reg<|p_mB rfl<|p_aB rfl<|wp_nil ?_
   obtain rfl:=sJ H
   exact c_ret (rT Tryz.f73 S10.keep rfl rfl)
 ·replace H:=condF c11 H
  refine eB c11<|gF rfl rfl<|gF rfl rfl<|gF rfl rfl<|gF rfl rfl<|p_pkF rfl (rfl:_=B false)<|wp_nil<|c_false rfl<|c_exit<|c_seq<|reg<|p_mB rfl<|p_aB rfl<|wp_nil ?_
  obtain rfl:=sJ H
  exact c_ret (rT Tryz.f73 S10.keep rfl rfl)
def B_KeptTally (a0:TallyBook) (a1:TallyBook):Option Bool:=
 bif (a0.Trips==a1.Trips) then (bif (a0.Room==a1.Room) then ((B_KeptCounts a0.Counts a1.Counts).bind fun r15=>
 some r15)
 else (some false))
 else (some false)
set_option maxRecDepth 100000 in
theorem B_KeptTally_ok {a0:TallyBook}{a1:TallyBook}{A1:Option Addr}{c2:Nat}{A4:Option Addr}{c5:Nat}{w:World}{r:Bool} (H:B_KeptTally a0 a1=some r) (h3:(rd eTallyCount 7 A1 c2 a0.Counts).ok w) (h6:(rd eTallyCount 7 A4 c5 a1.Counts).ok w):Calls Tryz.prog 24 #[AG [I a0.Trips,I a0.Room,SL A1 a0.Counts.length c2],AG [I a1.Trips,I a1.Room,SL A4 a1.Counts.length c5]] w (RetV w (B r)):=by
 unfold B_KeptTally at H
 refine fn_of (n:=24) Tryz.func24 rfl rfl (lE rfl) ?_
 have S:=St.start w nF _ (cA h3 (cA h6 nM))
 refine c_seq<|reg<|p_boxA rfl S fun b7 w8 S9=>p_boxA rfl S9 fun b10 w11 S12=>p_aB rfl<|wp_nil<|c_seq<|reg<|p_fld fl24_0 rfl<|p_ld ty3 (S12.atX (i:=1) rfl) rfl rfl<|p_fld fl24_0 rfl<|p_ld ty3 (S12.atX (i:=0) rfl) rfl rfl<|p_cmp rfl rfl rfl<|p_mB rfl ?_
 rcases bE ((a0.Trips==a1.Trips)) with c13 | c13
 ·replace H:=condT c13 H
  refine eB c13 ?_
  refine gT rfl rfl (p_fld fl24_1 rfl ?_)
  refine gT rfl rfl (p_ld ty3 (S12.atX (i:=1) rfl) rfl rfl ?_)
  refine gT rfl rfl (p_fld fl24_1 rfl ?_)
  refine gT rfl rfl (p_ld ty3 (S12.atX (i:=0) rfl) rfl rfl ?_)
  refine gT rfl rfl (p_cmp rfl rfl rfl ?_)
  refine p_pkT rfl (rfl:_=B (a0.Room==a1.Room))<|p_mB rfl ?_
  rcases bE ((a0.Room==a1.Room)) with c14 | c14
  ·replace H:=condT c14 H
   refine eB c14 ?_
   refine gT rfl rfl (p_fld fl24_2 rfl ?_)
   refine gT rfl rfl (p_ld ty22 (S12.atX (i:=1) rfl) rfl rfl ?_)
   refine gT rfl rfl (p_fld fl24_2 rfl ?_)
   refine gT rfl rfl (p_ld ty22 (S12.atX (i:=0) rfl) rfl rfl ?_)
   obtain ⟨r15,h16,H⟩:=bindS H
   refine gT rfl rfl (p_cv (B_KeptCounts_ok h16 (S12.atP (i:=0) rfl) (S12.atP (i:=1) rfl)) fu73 rfl S12 fun w17 S18=>?_)
   refine p_pkT rfl (rfl:_=B r15)<|p_aB rfl<|wp_nil ?_
   obtain rfl:=sJ H
   exact c_ret (rT Tryz.f24 S18.keep rfl rfl)
  ·replace H:=condF c14 H
   refine eB c14<|gF rfl rfl<|gF rfl rfl<|gF rfl rfl<|gF rfl rfl<|gF rfl rfl<|p_pkF rfl (rfl:_=B false)<|p_aB rfl<|wp_nil ?_
   obtain rfl:=sJ H
   exact c_ret (rT Tryz.f24 S12.keep rfl rfl)
 ·replace H:=condF c13 H
  refine eB c13<|gF rfl rfl<|gF rfl rfl<|gF rfl rfl<|gF rfl rfl<|gF rfl rfl<|p_pkF rfl (rfl:_=B false)<|p_mB rfl<|gF rfl rfl<|gF rfl rfl<|gF rfl rfl<|gF rfl rfl<|gF rfl rfl<|p_pkF rfl (rfl:_=B false)<|p_aB rfl<|wp_nil ?_
  obtain rfl:=sJ H
  exact c_ret (rT Tryz.f24 S12.keep rfl rfl)
def B_KeptTickets_l1 (a0:List TicketSeason) (a1:List TicketSeason) (rec_z_1:(Bool×Int)→Option Bool) (z_1:Bool×Int):Option Bool:=
 bif z_1.1 then (bif decide (z_1.2 < (a0.length:Int)) then ((getI a0 z_1.2).bind fun r13=>
 (getI a1 z_1.2).bind fun r15=>
 rec_z_1 (((r13.From==r15.From)&&(r13.To==r15.To)),wr (z_1.2+1)))
 else (some z_1.1))
 else (some z_1.1)
def B_KeptTickets (a0:List TicketSeason) (a1:List TicketSeason):Option Bool:=
 loopF (B_KeptTickets_l1 a0 a1) big (((a0.length:Int)==(a1.length:Int)),0)
set_option maxRecDepth 100000 in
theorem B_KeptTickets_ok {a0:List TicketSeason}{a1:List TicketSeason}{A1:Option Addr}{c2:Nat}{A4:Option Addr}{c5:Nat}{w:World}{r:Bool} (H:B_KeptTickets a0 a1=some r) (h3:(rd eTicketSeason 2 A1 c2 a0).ok w) (h6:(rd eTicketSeason 2 A4 c5 a1).ok w):Calls Tryz.prog 25 #[SL A1 a0.length c2,SL A4 a1.length c5] w (RetV w (B r)):=by
 unfold B_KeptTickets at H
 refine fn_of (n:=31) Tryz.func25 rfl rfl (lE rfl) ?_
 have S:=St.start w nF _ (cA h3 (cA h6 nM))
 refine c_seq<|reg<|p_aB rfl<|wp_nil<|c_seq<|reg<|p_mS rfl<|p_len rfl sc25<|p_mS rfl<|p_len rfl sc25<|p_cmp rfl rfl rfl<|p_aB rfl<|wp_nil<|c_seq<|c_seq<|reg<|p_aI rfl<|wp_nil<|c_block ?_
 refine c_lop (α:=Bool×Int) (β:=Unit) (B_KeptTickets_l1 a0 a1) (fun z_1 y_1=>[(0,SL A1 a0.length c2),(1,SL A4 a1.length c5),(5,B z_1.1),(6,I z_1.2)]) (fun z_1 y_1 w_=>St w nF w_ [] [rd eTicketSeason 2 A1 c2 a0,rd eTicketSeason 2 A4 c5 a1]) (((a0.length:Int)==(a1.length:Int)),0) () H ⟨rfl,rfl,rfl,rfl,trivial⟩ S ?_
 intro m7 z_1 y_1 e8 w9 H S10
 unfold B_KeptTickets_l1 at H
 refine c_seq<|c_seq<|reg<|p_mB rfl<|p_mB rfl ?_
 rcases bE (z_1.1) with c11 | c11
 ·replace H:=condT c11 H
  refine eB c11 ?_
  refine gT rfl rfl (p_mI rfl ?_)
  refine gT rfl rfl (p_mS rfl ?_)
  refine gT rfl rfl (p_len rfl sc25 ?_)
  refine gT rfl rfl (p_cmp rfl rfl rfl ?_)
  refine p_pkT rfl (rfl:_=B (decide (z_1.2 < (a0.length:Int))))<|wp_nil ?_
  refine c_cond rfl (fun c12=>?_) (fun c12=>?_)
  ·replace H:=condT c12 H
   refine c_skip<|c_seq<|c_block ?_
   obtain ⟨r13,h14,H⟩:=bindS H
   obtain ⟨r15,h16,H⟩:=bindS H
   refine reg_q mixed 10 (by kernel_rfl) ?_
   refine dS (fun _ k_=>p_mS rfl dn)<|dS (fun _ k_=>p_mI rfl dn)<|dS (fun _ k_=>p_ixE sc25 h14 (aS (S10.atP (i:=0) rfl) k_).1 rfl rfl rfl dn)<|dS (fun _ k_=>p_ldEA ty84 sz84 rfl h14 (aS (S10.atP (i:=0) rfl) k_).1 rfl dn)<|dS (fun _ k_=>p_mS rfl dn)<|dS (fun _ k_=>p_mI rfl dn)<|dS (fun _ k_=>p_ixE sc25 h16 (aS (S10.atP (i:=1) rfl) k_).1 rfl rfl rfl dn) ?_
   refine dS (fun _ k_=>p_ldEA ty84 sz84 rfl h16 (aS (S10.atP (i:=1) rfl) k_).1 rfl dn)<|dS (fun _ k_=>o_eqA (xs:=[I r13.From,I r13.To]) (ys:=[I r15.From,I r15.To]) (T:=((r13.From==r15.From)&&(r13.To==r15.To))) rfl rfl eq84 ⟨⟨_,rfl⟩,⟨⟨_,rfl⟩,trivial⟩⟩ ⟨⟨_,rfl⟩,⟨⟨_,rfl⟩,trivial⟩⟩ (by simp [Bool.and_eq_true,and_assoc]) dn)<|dS (fun _ k_=>p_aB rfl dn) ?_
   intro w17 k18; have S19:=S10.call k18
   exact wp_nil<|reg<|p_mI rfl<|p_add rfl rfl<|p_aI rfl<|wp_nil ⟨(((r13.From==r15.From)&&(r13.To==r15.To)),wr (z_1.2+1)),(),_,rfl,⟨rfl,rfl,rfl,rfl,trivial⟩,H,S19⟩
  ·replace H:=condF c12 H
   refine c_exit<|c_seq<|reg<|p_mB rfl<|p_aB rfl<|wp_nil ?_
   obtain rfl:=sJ H
   exact c_ret (rT Tryz.f25 S10.keep rfl rfl)
 ·replace H:=condF c11 H
  refine eB c11<|gF rfl rfl<|gF rfl rfl<|gF rfl rfl<|gF rfl rfl<|p_pkF rfl (rfl:_=B false)<|wp_nil<|c_false rfl<|c_exit<|c_seq<|reg<|p_mB rfl<|p_aB rfl<|wp_nil ?_
  obtain rfl:=sJ H
  exact c_ret (rT Tryz.f25 S10.keep rfl rfl)
def B_KeptShows_l1 (a0:List TicketShow) (a1:List TicketShow) (rec_z_1:(Bool×Int)→Option Bool) (z_1:Bool×Int):Option Bool:=
 bif z_1.1 then (bif decide (z_1.2 < (a0.length:Int)) then ((getI a0 z_1.2).bind fun r13=>
 (getI a1 z_1.2).bind fun r15=>
 rec_z_1 (((r13.Trip==r15.Trip)&&(r13.Ticket==r15.Ticket)&&(r13.Walker==r15.Walker)),wr (z_1.2+1)))
 else (some z_1.1))
 else (some z_1.1)
def B_KeptShows (a0:List TicketShow) (a1:List TicketShow):Option Bool:=
 loopF (B_KeptShows_l1 a0 a1) big (((a0.length:Int)==(a1.length:Int)),0)
set_option maxRecDepth 100000 in
theorem B_KeptShows_ok {a0:List TicketShow}{a1:List TicketShow}{A1:Option Addr}{c2:Nat}{A4:Option Addr}{c5:Nat}{w:World}{r:Bool} (H:B_KeptShows a0 a1=some r) (h3:(rd eTicketShow 3 A1 c2 a0).ok w) (h6:(rd eTicketShow 3 A4 c5 a1).ok w):Calls Tryz.prog 26 #[SL A1 a0.length c2,SL A4 a1.length c5] w (RetV w (B r)):=by
 unfold B_KeptShows at H
 refine fn_of (n:=31) Tryz.func26 rfl rfl (lE rfl) ?_
 have S:=St.start w nF _ (cA h3 (cA h6 nM))
 refine c_seq<|reg<|p_aB rfl<|wp_nil<|c_seq<|reg<|p_mS rfl<|p_len rfl sc26<|p_mS rfl<|p_len rfl sc26<|p_cmp rfl rfl rfl<|p_aB rfl<|wp_nil<|c_seq<|c_seq<|reg<|p_aI rfl<|wp_nil<|c_block ?_
 refine c_lop (α:=Bool×Int) (β:=Unit) (B_KeptShows_l1 a0 a1) (fun z_1 y_1=>[(0,SL A1 a0.length c2),(1,SL A4 a1.length c5),(5,B z_1.1),(6,I z_1.2)]) (fun z_1 y_1 w_=>St w nF w_ [] [rd eTicketShow 3 A1 c2 a0,rd eTicketShow 3 A4 c5 a1]) (((a0.length:Int)==(a1.length:Int)),0) () H ⟨rfl,rfl,rfl,rfl,trivial⟩ S ?_
 intro m7 z_1 y_1 e8 w9 H S10
 unfold B_KeptShows_l1 at H
 refine c_seq<|c_seq<|reg<|p_mB rfl<|p_mB rfl ?_
 rcases bE (z_1.1) with c11 | c11
 ·replace H:=condT c11 H
  refine eB c11 ?_
  refine gT rfl rfl (p_mI rfl ?_)
  refine gT rfl rfl (p_mS rfl ?_)
  refine gT rfl rfl (p_len rfl sc26 ?_)
  refine gT rfl rfl (p_cmp rfl rfl rfl ?_)
  refine p_pkT rfl (rfl:_=B (decide (z_1.2 < (a0.length:Int))))<|wp_nil ?_
  refine c_cond rfl (fun c12=>?_) (fun c12=>?_)
  ·replace H:=condT c12 H
   refine c_skip<|c_seq<|c_block ?_
   obtain ⟨r13,h14,H⟩:=bindS H
   obtain ⟨r15,h16,H⟩:=bindS H
   refine reg_q mixed 10 (by kernel_rfl) ?_
   refine dS (fun _ k_=>p_mS rfl dn)<|dS (fun _ k_=>p_mI rfl dn)<|dS (fun _ k_=>p_ixE sc26 h14 (aS (S10.atP (i:=0) rfl) k_).1 rfl rfl rfl dn)<|dS (fun _ k_=>p_ldEA ty86 sz86 rfl h14 (aS (S10.atP (i:=0) rfl) k_).1 rfl dn)<|dS (fun _ k_=>p_mS rfl dn)<|dS (fun _ k_=>p_mI rfl dn)<|dS (fun _ k_=>p_ixE sc26 h16 (aS (S10.atP (i:=1) rfl) k_).1 rfl rfl rfl dn) ?_
   refine dS (fun _ k_=>p_ldEA ty86 sz86 rfl h16 (aS (S10.atP (i:=1) rfl) k_).1 rfl dn) ?_
   refine dS (fun _ k_=>o_eqA (xs:=[I r13.Trip,I r13.Ticket,I r13.Walker]) (ys:=[I r15.Trip,I r15.Ticket,I r15.Walker]) (T:=((r13.Trip==r15.Trip)&&(r13.Ticket==r15.Ticket)&&(r13.Walker==r15.Walker))) rfl rfl eq86 ⟨⟨_,rfl⟩,⟨⟨_,rfl⟩,⟨⟨_,rfl⟩,trivial⟩⟩⟩ ⟨⟨_,rfl⟩,⟨⟨_,rfl⟩,⟨⟨_,rfl⟩,trivial⟩⟩⟩ (by simp [Bool.and_eq_true,and_assoc]) dn)<|dS (fun _ k_=>p_aB rfl dn) ?_
   intro w17 k18; have S19:=S10.call k18
   exact wp_nil<|reg<|p_mI rfl<|p_add rfl rfl<|p_aI rfl<|wp_nil ⟨(((r13.Trip==r15.Trip)&&(r13.Ticket==r15.Ticket)&&(r13.Walker==r15.Walker)),wr (z_1.2+1)),(),_,rfl,⟨rfl,rfl,rfl,rfl,trivial⟩,H,S19⟩
  ·replace H:=condF c12 H
   refine c_exit<|c_seq<|reg<|p_mB rfl<|p_aB rfl<|wp_nil ?_
   obtain rfl:=sJ H
   exact c_ret (rT Tryz.f26 S10.keep rfl rfl)
 ·replace H:=condF c11 H
  refine eB c11<|gF rfl rfl<|gF rfl rfl<|gF rfl rfl<|gF rfl rfl<|p_pkF rfl (rfl:_=B false)<|wp_nil<|c_false rfl<|c_exit<|c_seq<|reg<|p_mB rfl<|p_aB rfl<|wp_nil ?_
  obtain rfl:=sJ H
  exact c_ret (rT Tryz.f26 S10.keep rfl rfl)
def B_KeptBoxes_l1 (a0:List TicketBox) (a1:List TicketBox) (rec_z_1:(Bool×Int)→Option Bool) (z_1:Bool×Int):Option Bool:=
 bif z_1.1 then (bif decide (z_1.2 < (a0.length:Int)) then ((getI a0 z_1.2).bind fun r13=>
 (getI a1 z_1.2).bind fun r15=>
 rec_z_1 (((r13.From==r15.From)&&(r13.To==r15.To)&&(r13.Pence==r15.Pence)&&(r13.Lost==r15.Lost)),wr (z_1.2+1)))
 else (some z_1.1))
 else (some z_1.1)
def B_KeptBoxes (a0:List TicketBox) (a1:List TicketBox):Option Bool:=
 loopF (B_KeptBoxes_l1 a0 a1) big (((a0.length:Int)==(a1.length:Int)),0)
set_option maxRecDepth 100000 in
theorem B_KeptBoxes_ok {a0:List TicketBox}{a1:List TicketBox}{A1:Option Addr}{c2:Nat}{A4:Option Addr}{c5:Nat}{w:World}{r:Bool} (H:B_KeptBoxes a0 a1=some r) (h3:(rd eTicketBox 4 A1 c2 a0).ok w) (h6:(rd eTicketBox 4 A4 c5 a1).ok w):Calls Tryz.prog 27 #[SL A1 a0.length c2,SL A4 a1.length c5] w (RetV w (B r)):=by
 unfold B_KeptBoxes at H
 refine fn_of (n:=31) Tryz.func27 rfl rfl (lE rfl) ?_
 have S:=St.start w nF _ (cA h3 (cA h6 nM))
 refine c_seq<|reg<|p_aB rfl<|wp_nil<|c_seq<|reg<|p_mS rfl<|p_len rfl sc27<|p_mS rfl<|p_len rfl sc27<|p_cmp rfl rfl rfl<|p_aB rfl<|wp_nil<|c_seq<|c_seq<|reg<|p_aI rfl<|wp_nil<|c_block ?_
 refine c_lop (α:=Bool×Int) (β:=Unit) (B_KeptBoxes_l1 a0 a1) (fun z_1 y_1=>[(0,SL A1 a0.length c2),(1,SL A4 a1.length c5),(5,B z_1.1),(6,I z_1.2)]) (fun z_1 y_1 w_=>St w nF w_ [] [rd eTicketBox 4 A1 c2 a0,rd eTicketBox 4 A4 c5 a1]) (((a0.length:Int)==(a1.length:Int)),0) () H ⟨rfl,rfl,rfl,rfl,trivial⟩ S ?_
 intro m7 z_1 y_1 e8 w9 H S10
 unfold B_KeptBoxes_l1 at H
 refine c_seq<|c_seq<|reg<|p_mB rfl<|p_mB rfl ?_
 rcases bE (z_1.1) with c11 | c11
 ·replace H:=condT c11 H
  refine eB c11 ?_
  refine gT rfl rfl (p_mI rfl ?_)
  refine gT rfl rfl (p_mS rfl ?_)
  refine gT rfl rfl (p_len rfl sc27 ?_)
  refine gT rfl rfl (p_cmp rfl rfl rfl ?_)
  refine p_pkT rfl (rfl:_=B (decide (z_1.2 < (a0.length:Int))))<|wp_nil ?_
  refine c_cond rfl (fun c12=>?_) (fun c12=>?_)
  ·replace H:=condT c12 H
   refine c_skip<|c_seq<|c_block ?_
   obtain ⟨r13,h14,H⟩:=bindS H
   obtain ⟨r15,h16,H⟩:=bindS H
   refine reg_q mixed 10 (by kernel_rfl) ?_
   refine dS (fun _ k_=>p_mS rfl dn)<|dS (fun _ k_=>p_mI rfl dn)<|dS (fun _ k_=>p_ixE sc27 h14 (aS (S10.atP (i:=0) rfl) k_).1 rfl rfl rfl dn)<|dS (fun _ k_=>p_ldEA ty39 sz39 rfl h14 (aS (S10.atP (i:=0) rfl) k_).1 rfl dn)<|dS (fun _ k_=>p_mS rfl dn)<|dS (fun _ k_=>p_mI rfl dn)<|dS (fun _ k_=>p_ixE sc27 h16 (aS (S10.atP (i:=1) rfl) k_).1 rfl rfl rfl dn) ?_
   refine dS (fun _ k_=>p_ldEA ty39 sz39 rfl h16 (aS (S10.atP (i:=1) rfl) k_).1 rfl dn) ?_
   refine dS (fun _ k_=>o_eqA (xs:=[I r13.From,I r13.To,I r13.Pence,I r13.Lost]) (ys:=[I r15.From,I r15.To,I r15.Pence,I r15.Lost]) (T:=((r13.From==r15.From)&&(r13.To==r15.To)&&(r13.Pence==r15.Pence)&&(r13.Lost==r15.Lost))) rfl rfl eq39 ⟨⟨_,rfl⟩,⟨⟨_,rfl⟩,⟨⟨_,rfl⟩,⟨⟨_,rfl⟩,trivial⟩⟩⟩⟩ ⟨⟨_,rfl⟩,⟨⟨_,rfl⟩,⟨⟨_,rfl⟩,⟨⟨_,rfl⟩,trivial⟩⟩⟩⟩ (by simp [Bool.and_eq_true,and_assoc]) dn) ?_
   refine dS (fun _ k_=>p_aB rfl dn) ?_
   intro w17 k18; have S19:=S10.call k18
   exact wp_nil<|reg<|p_mI rfl<|p_add rfl rfl<|p_aI rfl<|wp_nil ⟨(((r13.From==r15.From)&&(r13.To==r15.To)&&(r13.Pence==r15.Pence)&&(r13.Lost==r15.Lost)),wr (z_1.2+1)),(),_,rfl,⟨rfl,rfl,rfl,rfl,trivial⟩,H,S19⟩
  ·replace H:=condF c12 H
   refine c_exit<|c_seq<|reg<|p_mB rfl<|p_aB rfl<|wp_nil ?_
   obtain rfl:=sJ H
   exact c_ret (rT Tryz.f27 S10.keep rfl rfl)
 ·replace H:=condF c11 H
  refine eB c11<|gF rfl rfl<|gF rfl rfl<|gF rfl rfl<|gF rfl rfl<|p_pkF rfl (rfl:_=B false)<|wp_nil<|c_false rfl<|c_exit<|c_seq<|reg<|p_mB rfl<|p_aB rfl<|wp_nil ?_
  obtain rfl:=sJ H
  exact c_ret (rT Tryz.f27 S10.keep rfl rfl)
def B_KeptTicket (a0:TicketBook) (a1:TicketBook):Option Bool:=
 (B_KeptTally a0.Tally a1.Tally).bind fun r31=>
 bif r31 then (bif (a0.Fare==a1.Fare) then ((B_KeptTickets a0.Tickets a1.Tickets).bind fun r37=>
 bif r37 then ((B_KeptShows a0.Shows a1.Shows).bind fun r42=>
 bif r42 then ((B_KeptBoxes a0.Boxes a1.Boxes).bind fun r47=>
 some r47)
 else (some false))
 else (some false))
 else (some false))
 else (some false)
set_option maxRecDepth 100000 in
theorem B_KeptTicket_ok {a0:TicketBook}{a1:TicketBook}{A1:Option Addr}{c2:Nat}{A4:Option Addr}{c5:Nat}{A7:Option Addr}{c8:Nat}{A10:Option Addr}{c11:Nat}{A13:Option Addr}{c14:Nat}{A16:Option Addr}{c17:Nat}{A19:Option Addr}{c20:Nat}{A22:Option Addr}{c23:Nat}{w:World}{r:Bool} (H:B_KeptTicket a0 a1=some r) (h3:(rd eTallyCount 7 A1 c2 a0.Tally.Counts).ok w) (h6:(rd eTicketSeason 2 A4 c5 a0.Tickets).ok w) (h9:(rd eTicketShow 3 A7 c8 a0.Shows).ok w) (h12:(rd eTicketBox 4 A10 c11 a0.Boxes).ok w) (h15:(rd eTallyCount 7 A13 c14 a1.Tally.Counts).ok w) (h18:(rd eTicketSeason 2 A16 c17 a1.Tickets).ok w) (h21:(rd eTicketShow 3 A19 c20 a1.Shows).ok w) (h24:(rd eTicketBox 4 A22 c23 a1.Boxes).ok w):Calls Tryz.prog 8 #[AG (vB a0 A1 c2 A4 c5 A7 c8 A10 c11),AG (vB a1 A13 c14 A16 c17 A19 c20 A22 c23)] w (RetV w (B r)):=by
 unfold B_KeptTicket at H
 refine fn_of (n:=38) Tryz.func8 rfl rfl (lE rfl) ?_
 have S:=St.start w nF _ (cA h3 (cA h6 (cA h9 (cA h12 (cA h15 (cA h18 (cA h21 (cA h24 nM))))))))
 refine c_seq<|reg<|p_boxA rfl S fun b25 w26 S27=>p_boxA rfl S27 fun b28 w29 S30=>p_aB rfl<|wp_nil<|c_seq<|reg<|p_fld fl29_0 rfl<|p_ldP (vs:=[I a0.Tally.Trips,I a0.Tally.Room,SL A1 a0.Tally.Counts.length c2]) ty24 sz24 (S30.atX (i:=1) rfl) rfl rfl rfl<|p_fld fl29_0 rfl<|p_ldP (vs:=[I a1.Tally.Trips,I a1.Tally.Room,SL A13 a1.Tally.Counts.length c14]) ty24 sz24 (S30.atX (i:=0) rfl) rfl rfl rfl ?_
 obtain ⟨r31,h32,H⟩:=bindS H
 refine p_cv (B_KeptTally_ok h32 (S30.atP (i:=0) rfl) (S30.atP (i:=4) rfl)) fu24 rfl S30 fun w33 S34=>p_mB rfl ?_
 rcases bE (r31) with c35 | c35
 ·replace H:=condT c35 H
  refine eB c35 ?_
  refine gT rfl rfl (p_fld fl29_1 rfl ?_)
  refine gT rfl rfl (p_ld ty3 (S34.atX (i:=1) rfl) rfl rfl ?_)
  refine gT rfl rfl (p_fld fl29_1 rfl ?_)
  refine gT rfl rfl (p_ld ty3 (S34.atX (i:=0) rfl) rfl rfl ?_)
  refine gT rfl rfl (p_cmp rfl rfl rfl ?_)
  refine p_pkT rfl (rfl:_=B (a0.Fare==a1.Fare))<|p_mB rfl ?_
  rcases bE ((a0.Fare==a1.Fare)) with c36 | c36
  ·replace H:=condT c36 H
   refine eB c36 ?_
   refine gT rfl rfl (p_fld fl29_2 rfl ?_)
   refine gT rfl rfl (p_ld ty25 (S34.atX (i:=1) rfl) rfl rfl ?_)
   refine gT rfl rfl (p_fld fl29_2 rfl ?_)
   refine gT rfl rfl (p_ld ty25 (S34.atX (i:=0) rfl) rfl rfl ?_)
   obtain ⟨r37,h38,H⟩:=bindS H
   refine gT rfl rfl (p_cv (B_KeptTickets_ok h38 (S34.atP (i:=1) rfl) (S34.atP (i:=5) rfl)) fu25 rfl S34 fun w39 S40=>?_)
   refine p_pkT rfl (rfl:_=B r37)<|p_mB rfl ?_
   rcases bE (r37) with c41 | c41
   ·replace H:=condT c41 H
    refine eB c41 ?_
    refine gT rfl rfl (p_fld fl29_3 rfl ?_)
    refine gT rfl rfl (p_ld ty26 (S40.atX (i:=1) rfl) rfl rfl ?_)
    refine gT rfl rfl (p_fld fl29_3 rfl ?_)
    refine gT rfl rfl (p_ld ty26 (S40.atX (i:=0) rfl) rfl rfl ?_)
    obtain ⟨r42,h43,H⟩:=bindS H
    refine gT rfl rfl (p_cv (B_KeptShows_ok h43 (S40.atP (i:=2) rfl) (S40.atP (i:=6) rfl)) fu26 rfl S40 fun w44 S45=>?_)
    refine p_pkT rfl (rfl:_=B r42)<|p_mB rfl ?_
    rcases bE (r42) with c46 | c46
    ·replace H:=condT c46 H
     refine eB c46 ?_
     refine gT rfl rfl (p_fld fl29_4 rfl ?_)
     refine gT rfl rfl (p_ld ty27 (S45.atX (i:=1) rfl) rfl rfl ?_)
     refine gT rfl rfl (p_fld fl29_4 rfl ?_)
     refine gT rfl rfl (p_ld ty27 (S45.atX (i:=0) rfl) rfl rfl ?_)
     obtain ⟨r47,h48,H⟩:=bindS H
     refine gT rfl rfl (p_cv (B_KeptBoxes_ok h48 (S45.atP (i:=3) rfl) (S45.atP (i:=7) rfl)) fu27 rfl S45 fun w49 S50=>?_)
     refine p_pkT rfl (rfl:_=B r47)<|p_aB rfl<|wp_nil ?_
     obtain rfl:=sJ H
     exact c_ret (rT Tryz.f8 S50.keep rfl rfl)
    ·replace H:=condF c46 H
     refine eB c46<|gF rfl rfl<|gF rfl rfl<|gF rfl rfl<|gF rfl rfl<|gF rfl rfl<|p_pkF rfl (rfl:_=B false)<|p_aB rfl<|wp_nil ?_
     obtain rfl:=sJ H
     exact c_ret (rT Tryz.f8 S45.keep rfl rfl)
   ·replace H:=condF c41 H
    refine eB c41<|gF rfl rfl<|gF rfl rfl<|gF rfl rfl<|gF rfl rfl<|gF rfl rfl<|p_pkF rfl (rfl:_=B false)<|p_mB rfl<|gF rfl rfl<|gF rfl rfl<|gF rfl rfl<|gF rfl rfl<|gF rfl rfl<|p_pkF rfl (rfl:_=B false)<|p_aB rfl<|wp_nil ?_
    obtain rfl:=sJ H
    exact c_ret (rT Tryz.f8 S40.keep rfl rfl)
  ·replace H:=condF c36 H
   refine eB c36<|gF rfl rfl<|gF rfl rfl<|gF rfl rfl<|gF rfl rfl<|gF rfl rfl<|p_pkF rfl (rfl:_=B false)<|p_mB rfl<|gF rfl rfl<|gF rfl rfl<|gF rfl rfl<|gF rfl rfl<|gF rfl rfl<|p_pkF rfl (rfl:_=B false)<|p_mB rfl<|gF rfl rfl<|gF rfl rfl<|gF rfl rfl<|gF rfl rfl<|gF rfl rfl<|p_pkF rfl (rfl:_=B false)<|p_aB rfl<|wp_nil ?_
   obtain rfl:=sJ H
   exact c_ret (rT Tryz.f8 S34.keep rfl rfl)
 ·replace H:=condF c35 H
  refine eB c35<|gF rfl rfl<|gF rfl rfl<|gF rfl rfl<|gF rfl rfl<|gF rfl rfl<|p_pkF rfl (rfl:_=B false)<|p_mB rfl<|gF rfl rfl<|gF rfl rfl<|gF rfl rfl<|gF rfl rfl<|gF rfl rfl<|p_pkF rfl (rfl:_=B false)<|p_mB rfl<|gF rfl rfl<|gF rfl rfl<|gF rfl rfl<|gF rfl rfl<|gF rfl rfl<|p_pkF rfl (rfl:_=B false)<|p_mB rfl<|gF rfl rfl<|gF rfl rfl<|gF rfl rfl<|gF rfl rfl<|gF rfl rfl<|p_pkF rfl (rfl:_=B false)<|p_aB rfl<|wp_nil ?_
  obtain rfl:=sJ H
  exact c_ret (rT Tryz.f8 S34.keep rfl rfl)
def law_own:Option TicketBook:=
 some (TicketBook.mk (TallyBook.mk 2 5 [(TallyCount.mk 2 0 0 3 1 1 0),(TallyCount.mk 0 1 1 4 1 0 0)]) 2 [(TicketSeason.mk 0 1),(TicketSeason.mk 0 0),(TicketSeason.mk 1 1)] [(TicketShow.mk 0 0 3),(TicketShow.mk 1 0 4)] ([(TicketBox.mk 0 0 4 0)]:List TicketBox))
set_option maxRecDepth 100000 in
theorem law_own_ok {w:World}{r:TicketBook} (H:law_own=some r):Calls Tryz.prog 28 #[] w fun en w_=>∃ u_,en=.returned u_∧∃ A_1:Option Addr,∃ c_2:Nat,∃ A_3:Option Addr,∃ c_4:Nat,∃ A_5:Option Addr,∃ c_6:Nat,∃ A_7:Option Addr,∃ c_8:Nat,u_=AG (vB r A_1 c_2 A_3 c_4 A_5 c_6 A_7 c_8)∧Keep0 w w_∧((gr eTallyCount 7 106 A_1 c_2 r.Tally.Counts).ok w_∧New w.heap.size (gr eTallyCount 7 106 A_1 c_2 r.Tally.Counts))∧((gr eTicketSeason 2 84 A_3 c_4 r.Tickets).ok w_∧New w.heap.size (gr eTicketSeason 2 84 A_3 c_4 r.Tickets))∧((gr eTicketShow 3 86 A_5 c_6 r.Shows).ok w_∧New w.heap.size (gr eTicketShow 3 86 A_5 c_6 r.Shows))∧((gr eTicketBox 4 39 A_7 c_8 r.Boxes).ok w_∧New w.heap.size (gr eTicketBox 4 39 A_7 c_8 r.Boxes))∧Dj (gr eTallyCount 7 106 A_1 c_2 r.Tally.Counts) (gr eTicketSeason 2 84 A_3 c_4 r.Tickets)∧Dj (gr eTallyCount 7 106 A_1 c_2 r.Tally.Counts) (gr eTicketShow 3 86 A_5 c_6 r.Shows)∧Dj (gr eTallyCount 7 106 A_1 c_2 r.Tally.Counts) (gr eTicketBox 4 39 A_7 c_8 r.Boxes)∧Dj (gr eTicketSeason 2 84 A_3 c_4 r.Tickets) (gr eTicketShow 3 86 A_5 c_6 r.Shows)∧Dj (gr eTicketSeason 2 84 A_3 c_4 r.Tickets) (gr eTicketBox 4 39 A_7 c_8 r.Boxes)∧Dj (gr eTicketShow 3 86 A_5 c_6 r.Shows) (gr eTicketBox 4 39 A_7 c_8 r.Boxes)∧True:=by
 unfold law_own at H
 refine fn_of (n:=15) Tryz.func28 rfl rfl (lE rfl) ?_
 have S:=St.start w nF _ nM
 refine c_seq<|reg<|p_allA in29 S fun b1 w2 S3=>wp_nil<|c_seq<|reg<|p_bld (cs:=[I 2,I 0,I 0,I 3,I 1,I 1,I 0]) st106 (rfl:_=[(0,I 2),(1,I 0),(2,I 0),(3,I 3),(4,I 1),(5,I 1)]) (by kernel_rfl)<|p_bld (cs:=[I 0,I 1,I 1,I 4,I 1,I 0,I 0]) st106 (rfl:_=[(0,I 0),(1,I 1),(2,I 1),(3,I 4),(4,I 1)]) (by kernel_rfl) ?_
 refine p_bsl (enc:=eTallyCount) (l:=[(TallyCount.mk 2 0 0 3 1 1 0),(TallyCount.mk 0 1 1 4 1 0 0)]) (fun x=>AG (eTallyCount x)) (fun _=>rfl) sc22 in106 eTallyCount_len rfl (by decide) (by decide) zr106_2 S3 rfl fun A4 c5 w6 S7=>?_
 refine p_bld (cs:=[I 2,I 5,SL A4 [(TallyCount.mk 2 0 0 3 1 1 0),(TallyCount.mk 0 1 1 4 1 0 0)].length c5]) st24 (rfl:_=[(0,I 2),(1,I 5),(2,SL A4 [(TallyCount.mk 2 0 0 3 1 1 0),(TallyCount.mk 0 1 1 4 1 0 0)].length c5)]) (by kernel_rfl)<|p_bld (cs:=[I 0,I 1]) st84 (rfl:_=[(0,I 0),(1,I 1)]) (by kernel_rfl)<|p_bld (cs:=[I 0,I 0]) st84 (rfl:_=[(0,I 0),(1,I 0)]) (by kernel_rfl) ?_
 refine p_bld (cs:=[I 1,I 1]) st84 (rfl:_=[(0,I 1),(1,I 1)]) (by kernel_rfl)<|p_bsl (enc:=eTicketSeason) (l:=[(TicketSeason.mk 0 1),(TicketSeason.mk 0 0),(TicketSeason.mk 1 1)]) (fun x=>AG (eTicketSeason x)) (fun _=>rfl) sc25 in84 eTicketSeason_len rfl (by decide) (by decide) zr84_3 S7 rfl fun A9 c10 w11 S12=>?_
 refine p_bld (cs:=[I 0,I 0,I 3]) st86 (rfl:_=[(0,I 0),(1,I 0),(2,I 3)]) (by kernel_rfl)<|p_bld (cs:=[I 1,I 0,I 4]) st86 (rfl:_=[(0,I 1),(1,I 0),(2,I 4)]) (by kernel_rfl) ?_
 refine p_bsl (enc:=eTicketShow) (l:=[(TicketShow.mk 0 0 3),(TicketShow.mk 1 0 4)]) (fun x=>AG (eTicketShow x)) (fun _=>rfl) sc26 in86 eTicketShow_len rfl (by decide) (by decide) zr86_2 S12 rfl fun A14 c15 w16 S17=>p_bld (cs:=[I 0,I 0,I 4,I 0]) st39 (rfl:_=[(0,I 0),(1,I 0),(2,I 4)]) (by kernel_rfl) ?_
 refine p_bsl (enc:=eTicketBox) (l:=([(TicketBox.mk 0 0 4 0)]:List TicketBox)) (fun x=>AG (eTicketBox x)) (fun _=>rfl) sc27 in39 eTicketBox_len rfl (by decide) (by decide) zr39_1 S17 rfl fun A19 c20 w21 S22=>?_
 refine p_bld (cs:=[I 2,I 5,SL A4 [(TallyCount.mk 2 0 0 3 1 1 0),(TallyCount.mk 0 1 1 4 1 0 0)].length c5,I 2,SL A9 [(TicketSeason.mk 0 1),(TicketSeason.mk 0 0),(TicketSeason.mk 1 1)].length c10,SL A14 [(TicketShow.mk 0 0 3),(TicketShow.mk 1 0 4)].length c15,SL A19 ([(TicketBox.mk 0 0 4 0)]:List TicketBox).length c20]) st29 (rfl:_=[(0,AG [I 2,I 5,SL A4 [(TallyCount.mk 2 0 0 3 1 1 0),(TallyCount.mk 0 1 1 4 1 0 0)].length c5]),(1,I 2),(2,SL A9 [(TicketSeason.mk 0 1),(TicketSeason.mk 0 0),(TicketSeason.mk 1 1)].length c10),(3,SL A14 [(TicketShow.mk 0 0 3),(TicketShow.mk 1 0 4)].length c15),(4,SL A19 ([(TicketBox.mk 0 0 4 0)]:List TicketBox).length c20)]) (by kernel_rfl) ?_
 refine p_stP (pre:=[]) (old:=[I 0,I 0,SL none 0 0,I 0,SL none 0 0,SL none 0 0,SL none 0 0]) (post:=[]) (vs:=[I 2,I 5,SL A4 [(TallyCount.mk 2 0 0 3 1 1 0),(TallyCount.mk 0 1 1 4 1 0 0)].length c5,I 2,SL A9 [(TicketSeason.mk 0 1),(TicketSeason.mk 0 0),(TicketSeason.mk 1 1)].length c10,SL A14 [(TicketShow.mk 0 0 3),(TicketShow.mk 1 0 4)].length c15,SL A19 ([(TicketBox.mk 0 0 4 0)]:List TicketBox).length c20]) sz29 S22 (i:=4) rfl rfl rfl rfl (rfl:_=AG [I 2,I 5,SL A4 [(TallyCount.mk 2 0 0 3 1 1 0),(TallyCount.mk 0 1 1 4 1 0 0)].length c5,I 2,SL A9 [(TicketSeason.mk 0 1),(TicketSeason.mk 0 0),(TicketSeason.mk 1 1)].length c10,SL A14 [(TicketShow.mk 0 0 3),(TicketShow.mk 1 0 4)].length c15,SL A19 ([(TicketBox.mk 0 0 4 0)]:List TicketBox).length c20]) rfl rfl rfl rfl fun w24 S25=>?_
 refine wp_nil ?_
 obtain rfl:=sJ H
 refine c_ret ?_; show bodyPostM (Fr none) 0 Tryz.prog Tryz.f28 _ .ret _ _
 refine ret_of (res1 rfl (rvA rfl ty29 sz29 (S25.atX (i:=4) rfl) rfl)) ?_
 exact ⟨_,rfl,A4,c5,A9,c10,A14,c15,A19,c20,rfl,S25.keep,⟨S25.atX (i:=3) rfl,S25.newX (i:=3) rfl⟩,⟨S25.atX (i:=2) rfl,S25.newX (i:=2) rfl⟩,⟨S25.atX (i:=1) rfl,S25.newX (i:=1) rfl⟩,⟨S25.atX (i:=0) rfl,S25.newX (i:=0) rfl⟩,(S25.apXX (i:=3) (j:=2) rfl rfl (by decide)),(S25.apXX (i:=3) (j:=1) rfl rfl (by decide)),(S25.apXX (i:=3) (j:=0) rfl rfl (by decide)),(S25.apXX (i:=2) (j:=1) rfl rfl (by decide)),(S25.apXX (i:=2) (j:=0) rfl rfl (by decide)),(S25.apXX (i:=1) (j:=0) rfl rfl (by decide)),trivial⟩
def ticket_used_l4 (a0:TicketBook) (a2:Int) (r27:Ticket_book×Int) (a1:Int) (rec_z_1:((List Int)×Int)→Option ((List Int)×Int)) (z_1:(List Int)×Int):Option ((List Int)×Int):=
 bif decide (z_1.2 < (a0.Tickets.length:Int)) then (need (inI a2 2)<|
 bif a2==0 then ((ticket_book_always r27.1 z_1.2 a1).bind fun r115=>
 bif r115 then (need (fitsL (z_1.1.length+([z_1.2]:List Int).length) 8)<|
 rec_z_1 (z_1.1++([z_1.2]:List Int),wr (z_1.2+1)))
 else (rec_z_1 (z_1.1,wr (z_1.2+1))))
 else ((ticket_book_sometimes r27.1 z_1.2 a1).bind fun r132=>
 bif r132 then (need (fitsL (z_1.1.length+([z_1.2]:List Int).length) 8)<|
 rec_z_1 (z_1.1++([z_1.2]:List Int),wr (z_1.2+1)))
 else (rec_z_1 (z_1.1,wr (z_1.2+1)))))
 else (some (z_1.1,0))
def ticket_used_l5 (a0:TicketBook) (a2:Int) (r27:Ticket_book×Int) (a1:Int) (rec_z_1:((List Int)×Int)→Option ((List Int)×Int)) (z_1:(List Int)×Int):Option ((List Int)×Int):=
 bif decide (z_1.2 < (a0.Tickets.length:Int)) then (need (inI a2 2)<|
 bif a2==0 then ((ticket_book_always r27.1 z_1.2 a1).bind fun r199=>
 bif r199 then (need (fitsL (z_1.1.length+([z_1.2]:List Int).length) 8)<|
 rec_z_1 (z_1.1++([z_1.2]:List Int),wr (z_1.2+1)))
 else (rec_z_1 (z_1.1,wr (z_1.2+1))))
 else ((ticket_book_sometimes r27.1 z_1.2 a1).bind fun r216=>
 bif r216 then (need (fitsL (z_1.1.length+([z_1.2]:List Int).length) 8)<|
 rec_z_1 (z_1.1++([z_1.2]:List Int),wr (z_1.2+1)))
 else (rec_z_1 (z_1.1,wr (z_1.2+1)))))
 else (some (z_1.1,0))
def ticket_used (a0:TicketBook) (a1:Int) (a2:Int):Option ((List Int)×Int):=
 (ticket_isTrip a0 a1).bind fun r21=>
 (ticket_asked a0 r21).bind fun r27=>
 bif (r27.2 != 0) then (some (([]:List _),r27.2))
 else (loopF (ticket_used_l4 a0 a2 r27 a1) big (([]:List Int),0))
set_option maxHeartbeats 10000000 in
set_option maxRecDepth 100000 in
theorem ticket_used_ok {a0:TicketBook}{a1:Int}{a2:Int}{A1:Option Addr}{c2:Nat}{A4:Option Addr}{c5:Nat}{A7:Option Addr}{c8:Nat}{A10:Option Addr}{c11:Nat}{w:World}{r:(List Int)×Int} (H:ticket_used a0 a1 a2=some r) (h3:(rd eTallyCount 7 A1 c2 a0.Tally.Counts).ok w) (h6:(rd eTicketSeason 2 A4 c5 a0.Tickets).ok w) (h9:(rd eTicketShow 3 A7 c8 a0.Shows).ok w) (h12:(rd eTicketBox 4 A10 c11 a0.Boxes).ok w) (hg13:(gW0).ok w) (hg14:(gW1).ok w) (hg15:(gW2).ok w):Calls Tryz.prog 74 #[AG (vB a0 A1 c2 A4 c5 A7 c8 A10 c11),I a1,I a2] w fun en w_=>∃ u_,en=.returned u_∧∃ A_1:Option Addr,∃ c_2:Nat,u_=TU [SL A_1 r.1.length c_2,I r.2]∧Keep0 w w_∧((rd intE 1 A_1 c_2 r.1).ok w_∧New w.heap.size (rd intE 1 A_1 c_2 r.1))∧True:=by
 unfold ticket_used at H
 refine fn_of (n:=47) Tryz.func74 rfl rfl (lE rfl) ?_
 have S:=St.start w nF _ (cA h3 (cA h6 (cA h9 (cA h12 (cA hg13 (cA hg14 (cA hg15 nM)))))))
 refine c_seq<|reg<|p_boxA rfl S fun b16 w17 S18=>p_aS rfl<|p_aI rfl<|wp_nil<|c_seq ?_
 obtain ⟨r21,h22,H⟩:=bindS H
 obtain ⟨r27,h28,H⟩:=bindS H
 have A_:∀ {w_:World},Keep0 w17 w_→St w_ nF w_ [] [bl b16 (vB a0 A1 c2 A4 c5 A7 c8 A10 c11) 29,rd eTallyCount 7 A1 c2 a0.Tally.Counts,rd eTicketSeason 2 A4 c5 a0.Tickets,rd eTicketShow 3 A7 c8 a0.Shows,rd eTicketBox 4 A10 c11 a0.Boxes,gW0,gW1,gW2]:=fun k_=>S18.asP k_
 refine reg_fl mixed 9 7 (by kernel_rfl) [rv (AG (vB a0 A1 c2 A4 c5 A7 c8 A10 c11)),rv (AG (vB a0 A1 c2 A4 c5 A7 c8 A10 c11)),rv (I a1),rv (B r21),rx (α:=(Option Addr)×Nat×(Option Addr)×Nat×(Option Addr)×Nat×(Option Addr)×Nat×(Option Nat)) (fun ⟨A31,c32,A33,c34,A35,c36,A37,c38,m39⟩=>TU [AG ((vB r27.1.TicketBook A31 c32 A33 c34 A35 c36 A37 c38)++(sg r27.1.shown_ 3++[Value.map m39])),I r27.2]) (fun ⟨A31,c32,A33,c34,A35,c36,A37,c38,m39⟩ lo hi=>BtwL lo hi [rd eTallyCount 7 A1 c2 a0.Tally.Counts,rd eTicketSeason 2 A4 c5 a0.Tickets,rd eTicketShow 3 A7 c8 a0.Shows,rd eTicketBox 4 A10 c11 a0.Boxes] (rd eTallyCount 7 A31 c32 r27.1.TicketBook.Tally.Counts)∧BtwL lo hi [rd eTallyCount 7 A1 c2 a0.Tally.Counts,rd eTicketSeason 2 A4 c5 a0.Tickets,rd eTicketShow 3 A7 c8 a0.Shows,rd eTicketBox 4 A10 c11 a0.Boxes] (rd eTicketSeason 2 A33 c34 r27.1.TicketBook.Tickets)∧BtwL lo hi [] (rd eTicketShow 3 A35 c36 r27.1.TicketBook.Shows)∧BtwL lo hi [] (rd eTicketBox 4 A37 c38 r27.1.TicketBook.Boxes)∧BtwL lo hi [] (mpo ekS iE m39 r27.1.by_)∧True) (fun ⟨A31,c32,A33,c34,A35,c36,A37,c38,m39⟩=>[rd eTallyCount 7 A31 c32 r27.1.TicketBook.Tally.Counts,rd eTicketSeason 2 A33 c34 r27.1.TicketBook.Tickets,rd eTicketShow 3 A35 c36 r27.1.TicketBook.Shows,rd eTicketBox 4 A37 c38 r27.1.TicketBook.Boxes,mpo ekS iE m39 r27.1.by_]),dv 17 some,dv 12 (exG 0),dv 12 (exG 1),rx (α:=Nat) (fun b62=>P b62 0) (fun b62 lo hi=>BtwL lo hi [] (bl b62 ([I 0,I 0,SL none 0 0,I 0,SL none 0 0,SL none 0 0,SL none 0 0]++(sg (List.replicate 3 0) 3++[Value.map none])) 73)∧True) (fun b62=>[bl b62 ([I 0,I 0,SL none 0 0,I 0,SL none 0 0,SL none 0 0,SL none 0 0]++(sg (List.replicate 3 0) 3++[Value.map none])) 73])] [[],[],[],[],[],[17],[12],[12],[]] rfl (by kernel_rfl) [[],[],[],[1,2],[0,1,2,3],[0,1,2,3,4],[0,1,2,3,4,5],[0,1,2,3,4,5],[],[0,1,2,3,4,5,6,8],[0,1,2,3,4,5,6,7,8,9]] (by kernel_rfl) ⟨?_,?_,?_,?_,?_,?_,?_,?_,?_,trivial⟩ ?_ ?_
 ·intro e_ w_ k_ hf_ hR_
  have S_:=@A_ _ k_
  refine hopE [(3,P b16 0)] ⟨((hf_ 3 rfl).trans (rfl:_=P b16 0)),trivial⟩ ?_
  exact p_ldA ty29 sz29 (S_.atP (i:=0) rfl) rfl rfl<|wp_nil ⟨_,rfl,S_.keep,rfl⟩
 ·intro e_ w_ k_ hf_ hR_
  have S_:=@A_ _ k_
  refine hopE [(3,P b16 0)] ⟨((hf_ 3 rfl).trans (rfl:_=P b16 0)),trivial⟩ ?_
  exact p_ldA ty29 sz29 (S_.atP (i:=0) rfl) rfl rfl<|wp_nil ⟨_,rfl,S_.keep,rfl⟩
 ·intro e_ w_ k_ hf_ hR_
  refine hopE [(1,I a1)] ⟨((hf_ 1 rfl).trans (rfl:_=I a1)),trivial⟩ ?_
  exact p_mI rfl<|wp_nil ⟨_,rfl,kR,rfl⟩
 ·intro e_ w_ k_ hf_ hR_
  have S_:=@A_ _ k_
  refine hopE [(14,AG (vB a0 A1 c2 A4 c5 A7 c8 A10 c11)),(15,I a1)] ⟨rQ (hR_ 1 14 rfl (lE rfl) rfl),rQ (hR_ 2 15 rfl (lE rfl) rfl),trivial⟩ ?_
  refine p_cv (ticket_isTrip_ok h22 (S_.atP (i:=1) rfl) (S_.atP (i:=2) rfl) (S_.atP (i:=3) rfl) (S_.atP (i:=4) rfl)) fu53 rfl S_ fun w23 S24=>wp_nil ?_
  exact ⟨_,rfl,S24.keep,rfl⟩
 ·intro e_ w_ k_ hf_ hR_
  have S_:=@A_ _ k_
  refine hopE [(13,AG (vB a0 A1 c2 A4 c5 A7 c8 A10 c11)),(16,B r21)] ⟨rQ (hR_ 0 13 rfl (lE rfl) rfl),rQ (hR_ 3 16 rfl (lE rfl) rfl),trivial⟩ ?_
  refine p_cal (ticket_asked_ok h28 (S_.atP (i:=1) rfl) (S_.atP (i:=2) rfl) (S_.atP (i:=3) rfl) (S_.atP (i:=4) rfl) (S_.atP (i:=5) rfl) (S_.atP (i:=7) rfl)) fu62 rfl ?_
  rintro _ w29 ⟨A31,c32,A33,c34,A35,c36,A37,c38,m39,rfl,k30,⟨o40,n41⟩,⟨o42,n43⟩,⟨o44,n45⟩,⟨o46,n47⟩,⟨o48,n49⟩,_⟩
  have S50:=S_.callN k30 [rd eTallyCount 7 A31 c32 r27.1.TicketBook.Tally.Counts,rd eTicketSeason 2 A33 c34 r27.1.TicketBook.Tickets,rd eTicketShow 3 A35 c36 r27.1.TicketBook.Shows,rd eTicketBox 4 A37 c38 r27.1.TicketBook.Boxes,mpo ekS iE m39 r27.1.by_] (cA ⟨o40,Al.inL n41 ((cA (fp_mem (i:=1) rfl) (cA (fp_mem (i:=2) rfl) (cA (fp_mem (i:=3) rfl) (cA (fp_mem (i:=4) rfl) nM)))))⟩ (cA ⟨o42,Al.inL n43 ((cA (fp_mem (i:=1) rfl) (cA (fp_mem (i:=2) rfl) (cA (fp_mem (i:=3) rfl) (cA (fp_mem (i:=4) rfl) nM)))))⟩ (cA ⟨o44,New.inL n45⟩ (cA ⟨o46,New.inL n47⟩ (cA ⟨o48,New.inL n49⟩ nM)))))
  exact wp_nil ⟨_,rfl,S50.keep,⟨(A31,c32,A33,c34,A35,c36,A37,c38,m39),rfl,⟨bL n41 rfl (S50.atP (i:=0) rfl) rfl,bL n43 rfl (S50.atP (i:=1) rfl) rfl,bL (New.al (New.mono n45 S_.keep.size)) rfl (S50.atP (i:=2) rfl) rfl,bL (New.al (New.mono n47 S_.keep.size)) rfl (S50.atP (i:=3) rfl) rfl,bL (New.al (New.mono n49 S_.keep.size)) rfl (S50.atP (i:=4) rfl) rfl,trivial⟩,(cA (S50.atP (i:=0) rfl) (cA (S50.atP (i:=1) rfl) (cA (S50.atP (i:=2) rfl) (cA (S50.atP (i:=3) rfl) (cA (S50.atP (i:=4) rfl) nM)))))⟩⟩
 ·intro e_ w_ k_ hf_ hR_
  have S_:=@A_ _ k_
  obtain ⟨_,_,_,_,⟨A31,c32,A33,c34,A35,c36,A37,c38,m39⟩,q51,p52,a53⟩:=hR_ 4 17 rfl (lE rfl) rfl
  replace q51:e_ 17=TU [AG ((vB r27.1.TicketBook A31 c32 A33 c34 A35 c36 A37 c38)++(sg r27.1.shown_ 3++[Value.map m39])),I r27.2]:=q51
  have S_:=St.addL' S_ (a53 _ (.head _)) (fun _ _ _ h_=>(nE h_))
  have S_:=St.addL' S_ (a53 _ (.tail _ (.head _))) (fun _ _ _ h_=>(nE h_))
  have S_:=St.addL' S_ (a53 _ (.tail _ (.tail _ (.head _)))) (fun _ _ _ h_=>(nE h_))
  have S_:=St.addL' S_ (a53 _ (.tail _ (.tail _ (.tail _ (.head _))))) (fun _ _ _ h_=>(nE h_))
  have S_:=St.addL' S_ (a53 _ (.tail _ (.tail _ (.tail _ (.tail _ (.head _)))))) (fun _ _ _ h_=>(nE h_))
  refine hopE [(17,TU [AG ((vB r27.1.TicketBook A31 c32 A33 c34 A35 c36 A37 c38)++(sg r27.1.shown_ 3++[Value.map m39])),I r27.2])] ⟨q51,trivial⟩ ?_
  refine p_mT rfl<|wp_nil ?_
  exact ⟨_,rfl,S_.keep,rfl⟩
 ·intro e_ w_ k_ hf_ hR_
  have S_:=@A_ _ k_
  obtain ⟨_,_,_,_,⟨A31,c32,A33,c34,A35,c36,A37,c38,m39⟩,q55,p56,a57⟩:=hR_ 4 17 rfl (lE rfl) rfl
  replace q55:e_ 17=TU [AG ((vB r27.1.TicketBook A31 c32 A33 c34 A35 c36 A37 c38)++(sg r27.1.shown_ 3++[Value.map m39])),I r27.2]:=q55
  have S_:=St.addL' S_ (a57 _ (.head _)) (fun _ _ _ h_=>(nE h_))
  have S_:=St.addL' S_ (a57 _ (.tail _ (.head _))) (fun _ _ _ h_=>(nE h_))
  have S_:=St.addL' S_ (a57 _ (.tail _ (.tail _ (.head _)))) (fun _ _ _ h_=>(nE h_))
  have S_:=St.addL' S_ (a57 _ (.tail _ (.tail _ (.tail _ (.head _))))) (fun _ _ _ h_=>(nE h_))
  have S_:=St.addL' S_ (a57 _ (.tail _ (.tail _ (.tail _ (.tail _ (.head _)))))) (fun _ _ _ h_=>(nE h_))
  obtain ⟨_,_,_,_,q54⟩:=hR_ 5 12 rfl (lE rfl) rfl
  replace q54:e_ 12=TU [AG ((vB r27.1.TicketBook A31 c32 A33 c34 A35 c36 A37 c38)++(sg r27.1.shown_ 3++[Value.map m39])),I r27.2]:=(sJ ((congrArg some q55).symm.trans q54)).symm
  refine hopE [(12,TU [AG ((vB r27.1.TicketBook A31 c32 A33 c34 A35 c36 A37 c38)++(sg r27.1.shown_ 3++[Value.map m39])),I r27.2])] ⟨q54,trivial⟩ ?_
  refine p_ext rfl rfl<|wp_nil ?_
  exact ⟨_,rfl,S_.keep,rfl⟩
 ·intro e_ w_ k_ hf_ hR_
  have S_:=@A_ _ k_
  obtain ⟨_,_,_,_,⟨A31,c32,A33,c34,A35,c36,A37,c38,m39⟩,q59,p60,a61⟩:=hR_ 4 17 rfl (lE rfl) rfl
  replace q59:e_ 17=TU [AG ((vB r27.1.TicketBook A31 c32 A33 c34 A35 c36 A37 c38)++(sg r27.1.shown_ 3++[Value.map m39])),I r27.2]:=q59
  have S_:=St.addL' S_ (a61 _ (.head _)) (fun _ _ _ h_=>(nE h_))
  have S_:=St.addL' S_ (a61 _ (.tail _ (.head _))) (fun _ _ _ h_=>(nE h_))
  have S_:=St.addL' S_ (a61 _ (.tail _ (.tail _ (.head _)))) (fun _ _ _ h_=>(nE h_))
  have S_:=St.addL' S_ (a61 _ (.tail _ (.tail _ (.tail _ (.head _))))) (fun _ _ _ h_=>(nE h_))
  have S_:=St.addL' S_ (a61 _ (.tail _ (.tail _ (.tail _ (.tail _ (.head _)))))) (fun _ _ _ h_=>(nE h_))
  obtain ⟨_,_,_,_,q58⟩:=hR_ 5 12 rfl (lE rfl) rfl
  replace q58:e_ 12=TU [AG ((vB r27.1.TicketBook A31 c32 A33 c34 A35 c36 A37 c38)++(sg r27.1.shown_ 3++[Value.map m39])),I r27.2]:=(sJ ((congrArg some q59).symm.trans q58)).symm
  refine hopE [(12,TU [AG ((vB r27.1.TicketBook A31 c32 A33 c34 A35 c36 A37 c38)++(sg r27.1.shown_ 3++[Value.map m39])),I r27.2])] ⟨q58,trivial⟩ ?_
  refine p_ext rfl rfl<|wp_nil ?_
  exact ⟨_,rfl,S_.keep,rfl⟩
 ·intro e_ w_ k_ hf_ hR_
  have S_:=@A_ _ k_
  refine hopE [] trivial ?_
  refine p_allA in73 S_ fun b62 w63 S64=>wp_nil ?_
  exact ⟨_,rfl,S64.keep,⟨b62,rfl,⟨bL (New.al (S64.newX (i:=0) rfl)) rfl (S64.atX (i:=0) rfl) rfl,trivial⟩,(cA (S64.atX (i:=0) rfl) nM)⟩⟩
 ·intro e65 w66 lo67 hi68 k69 hf70 hR71 hd72
  have S73:=S18.call k69
  obtain ⟨h75,h76,h77,⟨A31,c32,A33,c34,A35,c36,A37,c38,m39⟩,q74,h78,h79⟩:=hR71 4 17 (lE rfl) rfl
  replace q74:e65 17=TU [AG ((vB r27.1.TicketBook A31 c32 A33 c34 A35 c36 A37 c38)++(sg r27.1.shown_ 3++[Value.map m39])),I r27.2]:=q74
  obtain ⟨p80,p81,p82,p83,p84,_⟩:=h78
  have S85:=St.addR S73 (h79 _ (.head _)) (oR p80 h75 S18 (mG [0,1,2,3] rfl))
  try clear S73
  have S86:=St.addR S85 (h79 _ (.tail _ (.head _))) (oR p81 h75 S18 (mG [0,1,2,3] rfl))
  try clear S85
  have S87:=St.addR S86 (h79 _ (.tail _ (.tail _ (.head _)))) (oR p82 h75 S18 (nM))
  try clear S86
  have S88:=St.addR S87 (h79 _ (.tail _ (.tail _ (.tail _ (.head _))))) (oR p83 h75 S18 (nM))
  try clear S87
  have S89:=St.addR S88 (h79 _ (.tail _ (.tail _ (.tail _ (.tail _ (.head _)))))) (oR p84 h75 S18 (nM))
  try clear S88
  have q90:e65 12=TU [AG ((vB r27.1.TicketBook A31 c32 A33 c34 A35 c36 A37 c38)++(sg r27.1.shown_ 3++[Value.map m39])),I r27.2]:=(sJ ((congrArg some q74).symm.trans (hR71 5 12 (lE rfl) rfl).2.2.2)).symm
  have q91:e65 18=AG ((vB r27.1.TicketBook A31 c32 A33 c34 A35 c36 A37 c38)++(sg r27.1.shown_ 3++[Value.map m39])):=(sJ ((congrArg (exG 0) q90).symm.trans (hR71 6 18 (lE rfl) rfl).2.2.2)).symm
  have q92:e65 19=I r27.2:=(sJ ((congrArg (exG 1) q90).symm.trans (hR71 7 19 (lE rfl) rfl).2.2.2)).symm
  obtain ⟨h94,h95,h96,b62,q93,h97,h98⟩:=hR71 8 8 (lE rfl) rfl
  replace q93:e65 8=P b62 0:=q93
  obtain ⟨p99,_⟩:=h97
  have S101:=St.addO S89 (h98 _ (.head _)) (oN p99 h94 S18) (cA (oA p99 h94 (S18.atX (i:=0) rfl)) nM) (cA (oP p99 p84 h94 S18 (nM) (hd72 8 4 (lE rfl) (lE rfl) (by decide))) (cA (oP p99 p83 h94 S18 (nM) (hd72 8 4 (lE rfl) (lE rfl) (by decide))) (cA (oP p99 p82 h94 S18 (nM) (hd72 8 4 (lE rfl) (lE rfl) (by decide))) (cA (oP p99 p81 h94 S18 (mG [0,1,2,3] rfl) (hd72 8 4 (lE rfl) (lE rfl) (by decide))) (cA (oP p99 p80 h94 S18 (mG [0,1,2,3] rfl) (hd72 8 4 (lE rfl) (lE rfl) (by decide))) (oL p99 h94 S18))))))
  try clear S89
  refine tailE [(1,I a1),(2,I a2),(3,P b16 0),(8,P b62 0),(18,AG ((vB r27.1.TicketBook A31 c32 A33 c34 A35 c36 A37 c38)++(sg r27.1.shown_ 3++[Value.map m39]))),(19,I r27.2)] ⟨((hf70 1 rfl).trans (rfl:_=I a1)),((hf70 2 rfl).trans (rfl:_=I a2)),((hf70 3 rfl).trans (rfl:_=P b16 0)),q93,q91,q92,trivial⟩ ?_
  intro g102
  refine p_stP (pre:=[]) (old:=[I 0,I 0,SL none 0 0,I 0,SL none 0 0,SL none 0 0,SL none 0 0]++(sg (List.replicate 3 0) 3++[Value.map none])) (post:=[]) (vs:=(vB r27.1.TicketBook A31 c32 A33 c34 A35 c36 A37 c38)++(sg r27.1.shown_ 3++[Value.map m39])) sz73 S101 (i:=0) rfl rfl rfl rfl (rfl:_=AG ((vB r27.1.TicketBook A31 c32 A33 c34 A35 c36 A37 c38)++(sg r27.1.shown_ 3++[Value.map m39]))) rfl rfl rfl rfl fun w103 S104=>?_
  try clear S101
  refine p_aI rfl<|wp_nil<|c_seq<|c_seq<|reg<|p_mI rfl<|p_cmp rfl rfl rfl<|wp_nil ?_
  refine c_cond rfl (fun c105=>?_) (fun c105=>?_)
  ·replace H:=condT c105 H
   refine c_seq<|reg<|p_mI rfl<|p_aS rfl<|p_aI rfl<|wp_nil ?_
   obtain rfl:=sJ H
   refine c_ret ?_; show bodyPostM (Fr none) 0 Tryz.prog Tryz.f74 _ .ret _ _
   refine ret_of (res2 rfl (rvT (rfl:_=SL none 0 0)) (rvT (rfl:_=I r27.2))) ?_
   exact ⟨_,rfl,none,0,rfl,S104.keep,⟨rd_nil (Nat.zero_le _),New.nil⟩,trivial⟩
  ·replace H:=condF c105 H
   refine c_skip<|c_seq<|reg<|p_aS rfl<|wp_nil<|c_seq<|c_seq<|reg<|p_fld fl29_2 rfl<|p_ld ty25 (S104.atX (i:=1) rfl) rfl rfl<|p_len rfl sc25<|p_mI rfl<|wp_nil<|c_block ?_
   have S106:=S104.nilRow intE 1 3
   try clear S104
   have S107:=S106.pk [0,1] (by decide) [0,1,2,3,4,5,6,7,8,9,10,11] rfl rfl
   try clear S106
   refine c_lop (α:=(List Int)×Int) (β:=(Option Addr)×Nat) (ticket_used_l4 a0 a2 r27 a1) (fun z_1 y_1=>[(1,I a1),(2,I a2),(8,P b62 0),(10,SL y_1.1 z_1.1.length y_1.2),(25,I (a0.Tickets.length:Int)),(26,I z_1.2)]) (fun z_1 y_1 w_=>St w nF w_ [gr intE 1 3 y_1.1 y_1.2 z_1.1,bl b62 ((vB r27.1.TicketBook A31 c32 A33 c34 A35 c36 A37 c38)++(sg r27.1.shown_ 3++[Value.map m39])) 73] [mpo ekS iE m39 r27.1.by_,rd eTicketBox 4 A37 c38 r27.1.TicketBook.Boxes,rd eTicketShow 3 A35 c36 r27.1.TicketBook.Shows,rd eTicketSeason 2 A33 c34 r27.1.TicketBook.Tickets,rd eTallyCount 7 A31 c32 r27.1.TicketBook.Tally.Counts,rd eTallyCount 7 A1 c2 a0.Tally.Counts,rd eTicketSeason 2 A4 c5 a0.Tickets,rd eTicketShow 3 A7 c8 a0.Shows,rd eTicketBox 4 A10 c11 a0.Boxes,gW0,gW1,gW2]) (([]:List Int),0) (none,0) H ⟨rfl,rfl,rfl,rfl,rfl,rfl,trivial⟩ S107 ?_
   try clear S107
   intro m108 z_1 y_1 e109 w110 H S111
   unfold ticket_used_l4 at H
   refine c_seq<|reg<|p_cmp rfl rfl rfl<|wp_nil<|c_seq ?_
   refine c_cond rfl (fun c112=>?_) (fun c112=>?_)
   ·replace H:=condT c112 H
    refine c_skip<|c_seq<|c_block<|c_seq<|reg<|p_mI rfl<|p_aI rfl<|wp_nil<|c_seq ?_
    obtain ⟨h113,H⟩:=needS H
    rcases bE (a2==0) with c114 | c114
    ·replace H:=condT c114 H
     obtain ⟨r115,h116,H⟩:=bindS H
     refine reg_q mixed 7 (by kernel_rfl) ?_
     refine dS (fun _ k_=>p_mI rfl dn)<|dS (fun _ k_=>p_ixD ar132 h113 rfl rfl dn)<|dS (fun _ k_=>p_ldF (k:=0) ty131 (aS (S111.atP (i:=10) rfl) k_) (show a2=((0:Nat):Int) from by simpa using c114) rfl rfl dn)<|dS (fun _ k_=>p_ldA ty73 sz73 (aS (S111.atX (i:=1) rfl) k_) rfl rfl dn)<|dS (fun _ k_=>p_mI rfl dn)<|dS (fun _ k_=>p_mI rfl dn) ?_
     refine dS (fun _ k_=>p_cvD (ticket_book_always_ok h116 (aS (S111.atP (i:=4) rfl) k_) (aS (S111.atP (i:=3) rfl) k_) (aS (S111.atP (i:=2) rfl) k_) (aS (S111.atP (i:=1) rfl) k_) (aS (S111.atP (i:=0) rfl) k_) (aS (S111.atP (i:=9) rfl) k_) (aS (S111.atP (i:=11) rfl) k_)) fu145 rfl) ?_
     intro w117 k118; have S119:=S111.call k118
     refine wp_nil ?_
     refine c_cond rfl (fun c120=>?_) (fun c120=>?_)
     ·replace H:=condT c120 H
      refine reg<|p_mS rfl<|p_mI rfl<|p_bsl (enc:=intE) (l:=([z_1.2]:List Int)) I (fun _=>rfl) sc60 in3 intE_len rfl (by decide) (by decide) zr3_1 S119 rfl fun A121 c122 w123 S124=>?_
      obtain ⟨h130,H⟩:=needS H
      refine p_app (enc:=intE) sc60 in3 rfl intE_len intE_one (by decide) S124 (k:=1) rfl (gr_sl intE_len (S124.atX (i:=0) rfl)) h130 (by simp) rfl rfl fun A128 c129 w126 S127=>?_
      try clear S124
      refine p_aS rfl<|wp_nil<|reg<|p_add rfl rfl<|p_mI rfl<|wp_nil ?_
      have S131:=S127.pk [1,2] (by decide) [0,1,2,3,4,5,6,7,8,9,10,11] rfl rfl
      try clear S127
      exact ⟨(z_1.1++([z_1.2]:List Int),wr (z_1.2+1)),(A128,c129),_,rfl,⟨rfl,rfl,rfl,rfl,rfl,rfl,trivial⟩,H,S131⟩
     ·replace H:=condF c120 H
      refine c_skip<|reg<|p_add rfl rfl<|p_mI rfl<|wp_nil ?_
      exact ⟨(z_1.1,wr (z_1.2+1)),(y_1.1,y_1.2),_,rfl,⟨rfl,rfl,rfl,rfl,rfl,rfl,trivial⟩,H,S119⟩
    ·replace H:=condF c114 H
     obtain ⟨r132,h133,H⟩:=bindS H
     refine reg_q mixed 7 (by kernel_rfl) ?_
     refine dS (fun _ k_=>p_mI rfl dn)<|dS (fun _ k_=>p_ixD ar132 h113 rfl rfl dn)<|dS (fun _ k_=>p_ldF (k:=1) ty131 (aS (S111.atP (i:=10) rfl) k_) (two_second h113 c114) rfl rfl dn)<|dS (fun _ k_=>p_ldA ty73 sz73 (aS (S111.atX (i:=1) rfl) k_) rfl rfl dn)<|dS (fun _ k_=>p_mI rfl dn)<|dS (fun _ k_=>p_mI rfl dn) ?_
     refine dS (fun _ k_=>p_cvD (ticket_book_sometimes_ok h133 (aS (S111.atP (i:=4) rfl) k_) (aS (S111.atP (i:=3) rfl) k_) (aS (S111.atP (i:=2) rfl) k_) (aS (S111.atP (i:=1) rfl) k_) (aS (S111.atP (i:=0) rfl) k_) (aS (S111.atP (i:=9) rfl) k_) (aS (S111.atP (i:=11) rfl) k_)) fu146 rfl) ?_
     intro w134 k135; have S136:=S111.call k135
     refine wp_nil ?_
     refine c_cond rfl (fun c137=>?_) (fun c137=>?_)
     ·replace H:=condT c137 H
      refine reg<|p_mS rfl<|p_mI rfl<|p_bsl (enc:=intE) (l:=([z_1.2]:List Int)) I (fun _=>rfl) sc60 in3 intE_len rfl (by decide) (by decide) zr3_1 S136 rfl fun A138 c139 w140 S141=>?_
      obtain ⟨h147,H⟩:=needS H
      refine p_app (enc:=intE) sc60 in3 rfl intE_len intE_one (by decide) S141 (k:=1) rfl (gr_sl intE_len (S141.atX (i:=0) rfl)) h147 (by simp) rfl rfl fun A145 c146 w143 S144=>?_
      try clear S141
      refine p_aS rfl<|wp_nil<|reg<|p_add rfl rfl<|p_mI rfl<|wp_nil ?_
      have S148:=S144.pk [1,2] (by decide) [0,1,2,3,4,5,6,7,8,9,10,11] rfl rfl
      try clear S144
      exact ⟨(z_1.1++([z_1.2]:List Int),wr (z_1.2+1)),(A145,c146),_,rfl,⟨rfl,rfl,rfl,rfl,rfl,rfl,trivial⟩,H,S148⟩
     ·replace H:=condF c137 H
      refine c_skip<|reg<|p_add rfl rfl<|p_mI rfl<|wp_nil ?_
      exact ⟨(z_1.1,wr (z_1.2+1)),(y_1.1,y_1.2),_,rfl,⟨rfl,rfl,rfl,rfl,rfl,rfl,trivial⟩,H,S136⟩
   ·replace H:=condF c112 H
    refine c_exit ?_
    have S149:St w nF w110 [gr intE 1 3 y_1.1 y_1.2 z_1.1] [gW0,gW1,gW2]:=S111.pk [0] (by decide) [9,10,11] rfl rfl
    try clear S111
    refine c_seq<|reg<|p_mS rfl<|p_mS rfl<|p_len rfl sc60<|p_mS rfl<|p_len rfl sc60<|p_cut3 sc60 (gr_rd intE_len (S149.atX (i:=0) rfl)) rfl rfl rfl<|p_aS rfl<|p_aI rfl<|wp_nil ?_
    obtain rfl:=sJ H
    refine c_ret ?_; show bodyPostM (Fr none) 0 Tryz.prog Tryz.f74 _ .ret _ _
    refine ret_of (res2 rfl (rvT (rfl:_=SL y_1.1 z_1.1.length z_1.1.length)) (rvT (rfl:_=I 0))) ?_
    exact ⟨_,rfl,y_1.1,z_1.1.length,rfl,S149.keep,⟨(rd_full (gr_rd intE_len (S149.atX (i:=0) rfl))),(New.rdc (S149.newX (i:=0) rfl))⟩,trivial⟩
 ·intro e150 w151 lo152 hi153 k154 hf155 hR156 hd157
  have S158:=S18.call k154
  obtain ⟨h160,h161,h162,⟨A31,c32,A33,c34,A35,c36,A37,c38,m39⟩,q159,h163,h164⟩:=hR156 4 17 (lE rfl) (by decide) rfl
  replace q159:e150 17=TU [AG ((vB r27.1.TicketBook A31 c32 A33 c34 A35 c36 A37 c38)++(sg r27.1.shown_ 3++[Value.map m39])),I r27.2]:=q159
  obtain ⟨p165,p166,p167,p168,p169,_⟩:=h163
  have S170:=St.addR S158 (h164 _ (.head _)) (oR p165 h160 S18 (mG [0,1,2,3] rfl))
  try clear S158
  have S171:=St.addR S170 (h164 _ (.tail _ (.head _))) (oR p166 h160 S18 (mG [0,1,2,3] rfl))
  try clear S170
  have S172:=St.addR S171 (h164 _ (.tail _ (.tail _ (.head _)))) (oR p167 h160 S18 (nM))
  try clear S171
  have S173:=St.addR S172 (h164 _ (.tail _ (.tail _ (.tail _ (.head _))))) (oR p168 h160 S18 (nM))
  try clear S172
  have S174:=St.addR S173 (h164 _ (.tail _ (.tail _ (.tail _ (.tail _ (.head _)))))) (oR p169 h160 S18 (nM))
  try clear S173
  have q175:e150 12=TU [AG ((vB r27.1.TicketBook A31 c32 A33 c34 A35 c36 A37 c38)++(sg r27.1.shown_ 3++[Value.map m39])),I r27.2]:=(sJ ((congrArg some q159).symm.trans (hR156 5 12 (lE rfl) (by decide) rfl).2.2.2)).symm
  have q176:e150 18=AG ((vB r27.1.TicketBook A31 c32 A33 c34 A35 c36 A37 c38)++(sg r27.1.shown_ 3++[Value.map m39])):=(sJ ((congrArg (exG 0) q175).symm.trans (hR156 6 18 (lE rfl) (by decide) rfl).2.2.2)).symm
  obtain ⟨h178,h179,h180,b62,q177,h181,h182⟩:=hR156 8 8 (lE rfl) (by decide) rfl
  replace q177:e150 8=P b62 0:=q177
  obtain ⟨p183,_⟩:=h181
  have S185:=St.addO S174 (h182 _ (.head _)) (oN p183 h178 S18) (cA (oA p183 h178 (S18.atX (i:=0) rfl)) nM) (cA (oP p183 p169 h178 S18 (nM) (hd157 8 4 (lE rfl) (lE rfl) (by decide) (by decide) (by decide))) (cA (oP p183 p168 h178 S18 (nM) (hd157 8 4 (lE rfl) (lE rfl) (by decide) (by decide) (by decide))) (cA (oP p183 p167 h178 S18 (nM) (hd157 8 4 (lE rfl) (lE rfl) (by decide) (by decide) (by decide))) (cA (oP p183 p166 h178 S18 (mG [0,1,2,3] rfl) (hd157 8 4 (lE rfl) (lE rfl) (by decide) (by decide) (by decide))) (cA (oP p183 p165 h178 S18 (mG [0,1,2,3] rfl) (hd157 8 4 (lE rfl) (lE rfl) (by decide) (by decide) (by decide))) (oL p183 h178 S18))))))
  try clear S18; try clear S174
  refine tailE [(1,I a1),(2,I a2),(3,P b16 0),(8,P b62 0),(12,TU [AG ((vB r27.1.TicketBook A31 c32 A33 c34 A35 c36 A37 c38)++(sg r27.1.shown_ 3++[Value.map m39])),I r27.2]),(18,AG ((vB r27.1.TicketBook A31 c32 A33 c34 A35 c36 A37 c38)++(sg r27.1.shown_ 3++[Value.map m39])))] ⟨((hf155 1 rfl).trans (rfl:_=I a1)),((hf155 2 rfl).trans (rfl:_=I a2)),((hf155 3 rfl).trans (rfl:_=P b16 0)),q177,q175,q176,trivial⟩ ?_
  intro g186
  refine p_stP (pre:=[]) (old:=[I 0,I 0,SL none 0 0,I 0,SL none 0 0,SL none 0 0,SL none 0 0]++(sg (List.replicate 3 0) 3++[Value.map none])) (post:=[]) (vs:=(vB r27.1.TicketBook A31 c32 A33 c34 A35 c36 A37 c38)++(sg r27.1.shown_ 3++[Value.map m39])) sz73 S185 (i:=0) rfl rfl rfl rfl (rfl:_=AG ((vB r27.1.TicketBook A31 c32 A33 c34 A35 c36 A37 c38)++(sg r27.1.shown_ 3++[Value.map m39]))) rfl rfl rfl rfl fun w187 S188=>?_
  try clear S185
  refine p_ext rfl rfl<|p_aI rfl<|wp_nil<|c_seq<|c_seq<|reg<|p_mI rfl<|p_cmp rfl rfl rfl<|wp_nil ?_
  refine c_cond rfl (fun c189=>?_) (fun c189=>?_)
  ·replace H:=condT c189 H
   refine c_seq<|reg<|p_mI rfl<|p_aS rfl<|p_aI rfl<|wp_nil ?_
   obtain rfl:=sJ H
   refine c_ret ?_; show bodyPostM (Fr none) 0 Tryz.prog Tryz.f74 _ .ret _ _
   refine ret_of (res2 rfl (rvT (rfl:_=SL none 0 0)) (rvT (rfl:_=I r27.2))) ?_
   exact ⟨_,rfl,none,0,rfl,S188.keep,⟨rd_nil (Nat.zero_le _),New.nil⟩,trivial⟩
  ·replace H:=condF c189 H
   refine c_skip<|c_seq<|reg<|p_aS rfl<|wp_nil<|c_seq<|c_seq<|reg<|p_fld fl29_2 rfl<|p_ld ty25 (S188.atX (i:=1) rfl) rfl rfl<|p_len rfl sc25<|p_mI rfl<|wp_nil<|c_block ?_
   have S190:=S188.nilRow intE 1 3
   try clear S188
   have S191:=S190.pk [0,1] (by decide) [0,1,2,3,4,5,6,7,8,9,10,11] rfl rfl
   try clear S190
   refine c_lop (α:=(List Int)×Int) (β:=(Option Addr)×Nat) (ticket_used_l5 a0 a2 r27 a1) (fun z_1 y_1=>[(1,I a1),(2,I a2),(8,P b62 0),(10,SL y_1.1 z_1.1.length y_1.2),(25,I (a0.Tickets.length:Int)),(26,I z_1.2)]) (fun z_1 y_1 w_=>St w nF w_ [gr intE 1 3 y_1.1 y_1.2 z_1.1,bl b62 ((vB r27.1.TicketBook A31 c32 A33 c34 A35 c36 A37 c38)++(sg r27.1.shown_ 3++[Value.map m39])) 73] [mpo ekS iE m39 r27.1.by_,rd eTicketBox 4 A37 c38 r27.1.TicketBook.Boxes,rd eTicketShow 3 A35 c36 r27.1.TicketBook.Shows,rd eTicketSeason 2 A33 c34 r27.1.TicketBook.Tickets,rd eTallyCount 7 A31 c32 r27.1.TicketBook.Tally.Counts,rd eTallyCount 7 A1 c2 a0.Tally.Counts,rd eTicketSeason 2 A4 c5 a0.Tickets,rd eTicketShow 3 A7 c8 a0.Shows,rd eTicketBox 4 A10 c11 a0.Boxes,gW0,gW1,gW2]) (([]:List Int),0) (none,0) H ⟨rfl,rfl,rfl,rfl,rfl,rfl,trivial⟩ S191 ?_
   try clear S191
   intro m192 z_1 y_1 e193 w194 H S195
   unfold ticket_used_l5 at H
   refine c_seq<|reg<|p_cmp rfl rfl rfl<|wp_nil<|c_seq ?_
   refine c_cond rfl (fun c196=>?_) (fun c196=>?_)
   ·replace H:=condT c196 H
    refine c_skip<|c_seq<|c_block<|c_seq<|reg<|p_mI rfl<|p_aI rfl<|wp_nil<|c_seq ?_
    obtain ⟨h197,H⟩:=needS H
    rcases bE (a2==0) with c198 | c198
    ·replace H:=condT c198 H
     obtain ⟨r199,h200,H⟩:=bindS H
     refine reg_q mixed 7 (by kernel_rfl) ?_
     refine dS (fun _ k_=>p_mI rfl dn)<|dS (fun _ k_=>p_ixD ar132 h197 rfl rfl dn)<|dS (fun _ k_=>p_ldF (k:=0) ty131 (aS (S195.atP (i:=10) rfl) k_) (show a2=((0:Nat):Int) from by simpa using c198) rfl rfl dn)<|dS (fun _ k_=>p_ldA ty73 sz73 (aS (S195.atX (i:=1) rfl) k_) rfl rfl dn)<|dS (fun _ k_=>p_mI rfl dn)<|dS (fun _ k_=>p_mI rfl dn) ?_
     refine dS (fun _ k_=>p_cvD (ticket_book_always_ok h200 (aS (S195.atP (i:=4) rfl) k_) (aS (S195.atP (i:=3) rfl) k_) (aS (S195.atP (i:=2) rfl) k_) (aS (S195.atP (i:=1) rfl) k_) (aS (S195.atP (i:=0) rfl) k_) (aS (S195.atP (i:=9) rfl) k_) (aS (S195.atP (i:=11) rfl) k_)) fu145 rfl) ?_
     intro w201 k202; have S203:=S195.call k202
     refine wp_nil ?_
     refine c_cond rfl (fun c204=>?_) (fun c204=>?_)
     ·replace H:=condT c204 H
      refine reg<|p_mS rfl<|p_mI rfl<|p_bsl (enc:=intE) (l:=([z_1.2]:List Int)) I (fun _=>rfl) sc60 in3 intE_len rfl (by decide) (by decide) zr3_1 S203 rfl fun A205 c206 w207 S208=>?_
      obtain ⟨h214,H⟩:=needS H
      refine p_app (enc:=intE) sc60 in3 rfl intE_len intE_one (by decide) S208 (k:=1) rfl (gr_sl intE_len (S208.atX (i:=0) rfl)) h214 (by simp) rfl rfl fun A212 c213 w210 S211=>?_
      try clear S208
      refine p_aS rfl<|wp_nil<|reg<|p_add rfl rfl<|p_mI rfl<|wp_nil ?_
      have S215:=S211.pk [1,2] (by decide) [0,1,2,3,4,5,6,7,8,9,10,11] rfl rfl
      try clear S211
      exact ⟨(z_1.1++([z_1.2]:List Int),wr (z_1.2+1)),(A212,c213),_,rfl,⟨rfl,rfl,rfl,rfl,rfl,rfl,trivial⟩,H,S215⟩
     ·replace H:=condF c204 H
      refine c_skip<|reg<|p_add rfl rfl<|p_mI rfl<|wp_nil ?_
      exact ⟨(z_1.1,wr (z_1.2+1)),(y_1.1,y_1.2),_,rfl,⟨rfl,rfl,rfl,rfl,rfl,rfl,trivial⟩,H,S203⟩
    ·replace H:=condF c198 H
     obtain ⟨r216,h217,H⟩:=bindS H
     refine reg_q mixed 7 (by kernel_rfl) ?_
     refine dS (fun _ k_=>p_mI rfl dn)<|dS (fun _ k_=>p_ixD ar132 h197 rfl rfl dn)<|dS (fun _ k_=>p_ldF (k:=1) ty131 (aS (S195.atP (i:=10) rfl) k_) (two_second h197 c198) rfl rfl dn)<|dS (fun _ k_=>p_ldA ty73 sz73 (aS (S195.atX (i:=1) rfl) k_) rfl rfl dn)<|dS (fun _ k_=>p_mI rfl dn)<|dS (fun _ k_=>p_mI rfl dn) ?_
     refine dS (fun _ k_=>p_cvD (ticket_book_sometimes_ok h217 (aS (S195.atP (i:=4) rfl) k_) (aS (S195.atP (i:=3) rfl) k_) (aS (S195.atP (i:=2) rfl) k_) (aS (S195.atP (i:=1) rfl) k_) (aS (S195.atP (i:=0) rfl) k_) (aS (S195.atP (i:=9) rfl) k_) (aS (S195.atP (i:=11) rfl) k_)) fu146 rfl) ?_
     intro w218 k219; have S220:=S195.call k219
     refine wp_nil ?_
     refine c_cond rfl (fun c221=>?_) (fun c221=>?_)
     ·replace H:=condT c221 H
      refine reg<|p_mS rfl<|p_mI rfl<|p_bsl (enc:=intE) (l:=([z_1.2]:List Int)) I (fun _=>rfl) sc60 in3 intE_len rfl (by decide) (by decide) zr3_1 S220 rfl fun A222 c223 w224 S225=>?_
      obtain ⟨h231,H⟩:=needS H
      refine p_app (enc:=intE) sc60 in3 rfl intE_len intE_one (by decide) S225 (k:=1) rfl (gr_sl intE_len (S225.atX (i:=0) rfl)) h231 (by simp) rfl rfl fun A229 c230 w227 S228=>?_
      try clear S225
      refine p_aS rfl<|wp_nil<|reg<|p_add rfl rfl<|p_mI rfl<|wp_nil ?_
      have S232:=S228.pk [1,2] (by decide) [0,1,2,3,4,5,6,7,8,9,10,11] rfl rfl
      try clear S228
      exact ⟨(z_1.1++([z_1.2]:List Int),wr (z_1.2+1)),(A229,c230),_,rfl,⟨rfl,rfl,rfl,rfl,rfl,rfl,trivial⟩,H,S232⟩
     ·replace H:=condF c221 H
      refine c_skip<|reg<|p_add rfl rfl<|p_mI rfl<|wp_nil ?_
      exact ⟨(z_1.1,wr (z_1.2+1)),(y_1.1,y_1.2),_,rfl,⟨rfl,rfl,rfl,rfl,rfl,rfl,trivial⟩,H,S220⟩
   ·replace H:=condF c196 H
    refine c_exit ?_
    have S233:St w nF w194 [gr intE 1 3 y_1.1 y_1.2 z_1.1] [gW0,gW1,gW2]:=S195.pk [0] (by decide) [9,10,11] rfl rfl
    try clear S195
    refine c_seq<|reg<|p_mS rfl<|p_mS rfl<|p_len rfl sc60<|p_mS rfl<|p_len rfl sc60<|p_cut3 sc60 (gr_rd intE_len (S233.atX (i:=0) rfl)) rfl rfl rfl<|p_aS rfl<|p_aI rfl<|wp_nil ?_
    obtain rfl:=sJ H
    refine c_ret ?_; show bodyPostM (Fr none) 0 Tryz.prog Tryz.f74 _ .ret _ _
    refine ret_of (res2 rfl (rvT (rfl:_=SL y_1.1 z_1.1.length z_1.1.length)) (rvT (rfl:_=I 0))) ?_
    exact ⟨_,rfl,y_1.1,z_1.1.length,rfl,S233.keep,⟨(rd_full (gr_rd intE_len (S233.atX (i:=0) rfl))),(New.rdc (S233.newX (i:=0) rfl))⟩,trivial⟩
def ticket_Must (a0:TicketBook) (a1:Int):Option ((List Int)×Int):=
 (ticket_used a0 a1 0).bind fun r19=>
 some (r19.1,r19.2)
set_option maxRecDepth 100000 in
theorem ticket_Must_ok {a0:TicketBook}{a1:Int}{A1:Option Addr}{c2:Nat}{A4:Option Addr}{c5:Nat}{A7:Option Addr}{c8:Nat}{A10:Option Addr}{c11:Nat}{w:World}{r:(List Int)×Int} (H:ticket_Must a0 a1=some r) (h3:(rd eTallyCount 7 A1 c2 a0.Tally.Counts).ok w) (h6:(rd eTicketSeason 2 A4 c5 a0.Tickets).ok w) (h9:(rd eTicketShow 3 A7 c8 a0.Shows).ok w) (h12:(rd eTicketBox 4 A10 c11 a0.Boxes).ok w) (hg13:(gW0).ok w) (hg14:(gW1).ok w) (hg15:(gW2).ok w):Calls Tryz.prog 29 #[AG (vB a0 A1 c2 A4 c5 A7 c8 A10 c11),I a1] w fun en w_=>∃ u_,en=.returned u_∧∃ A_1:Option Addr,∃ c_2:Nat,u_=TU [SL A_1 r.1.length c_2,I r.2]∧Keep0 w w_∧((rd intE 1 A_1 c_2 r.1).ok w_∧New w.heap.size (rd intE 1 A_1 c_2 r.1))∧True:=by
 unfold ticket_Must at H
 refine fn_of (n:=11) Tryz.func29 rfl rfl (lE rfl) ?_
 have S:=St.start w nF _ (cA h3 (cA h6 (cA h9 (cA h12 (cA hg13 (cA hg14 (cA hg15 nM)))))))
 refine c_seq<|reg<|p_boxA rfl S fun b16 w17 S18=>p_aS rfl<|p_aI rfl<|wp_nil<|c_seq<|reg<|p_ldA ty29 sz29 (S18.atX (i:=0) rfl) rfl rfl<|p_mI rfl ?_
 obtain ⟨r19,h20,H⟩:=bindS H
 refine p_cal (ticket_used_ok h20 (S18.atP (i:=0) rfl) (S18.atP (i:=1) rfl) (S18.atP (i:=2) rfl) (S18.atP (i:=3) rfl) (S18.atP (i:=4) rfl) (S18.atP (i:=5) rfl) (S18.atP (i:=6) rfl)) fu74 rfl ?_
 rintro _ w21 ⟨A23,c24,rfl,k22,⟨o25,n26⟩,_⟩
 have S27:=S18.callN k22 [rd intE 1 A23 c24 r19.1] (cA ⟨o25,New.inL n26⟩ nM)
 refine p_ext rfl rfl<|p_ext rfl rfl<|p_aS rfl<|p_aI rfl<|wp_nil ?_
 obtain rfl:=sJ H
 refine c_ret ?_; show bodyPostM (Fr none) 0 Tryz.prog Tryz.f29 _ .ret _ _
 refine ret_of (res2 rfl (rvT (rfl:_=SL A23 r19.1.length c24)) (rvT (rfl:_=I r19.2))) ?_
 exact ⟨_,rfl,A23,c24,rfl,S27.keep,⟨(S27.atP (i:=0) rfl),(New.mono n26 S18.keep.size)⟩,trivial⟩
def ticket_May (a0:TicketBook) (a1:Int):Option ((List Int)×Int):=
 (ticket_used a0 a1 1).bind fun r19=>
 some (r19.1,r19.2)
set_option maxRecDepth 100000 in
theorem ticket_May_ok {a0:TicketBook}{a1:Int}{A1:Option Addr}{c2:Nat}{A4:Option Addr}{c5:Nat}{A7:Option Addr}{c8:Nat}{A10:Option Addr}{c11:Nat}{w:World}{r:(List Int)×Int} (H:ticket_May a0 a1=some r) (h3:(rd eTallyCount 7 A1 c2 a0.Tally.Counts).ok w) (h6:(rd eTicketSeason 2 A4 c5 a0.Tickets).ok w) (h9:(rd eTicketShow 3 A7 c8 a0.Shows).ok w) (h12:(rd eTicketBox 4 A10 c11 a0.Boxes).ok w) (hg13:(gW0).ok w) (hg14:(gW1).ok w) (hg15:(gW2).ok w):Calls Tryz.prog 30 #[AG (vB a0 A1 c2 A4 c5 A7 c8 A10 c11),I a1] w fun en w_=>∃ u_,en=.returned u_∧∃ A_1:Option Addr,∃ c_2:Nat,u_=TU [SL A_1 r.1.length c_2,I r.2]∧Keep0 w w_∧((rd intE 1 A_1 c_2 r.1).ok w_∧New w.heap.size (rd intE 1 A_1 c_2 r.1))∧True:=by
 unfold ticket_May at H
 refine fn_of (n:=11) Tryz.func30 rfl rfl (lE rfl) ?_
 have S:=St.start w nF _ (cA h3 (cA h6 (cA h9 (cA h12 (cA hg13 (cA hg14 (cA hg15 nM)))))))
 refine c_seq<|reg<|p_boxA rfl S fun b16 w17 S18=>p_aS rfl<|p_aI rfl<|wp_nil<|c_seq<|reg<|p_ldA ty29 sz29 (S18.atX (i:=0) rfl) rfl rfl<|p_mI rfl ?_
 obtain ⟨r19,h20,H⟩:=bindS H
 refine p_cal (ticket_used_ok h20 (S18.atP (i:=0) rfl) (S18.atP (i:=1) rfl) (S18.atP (i:=2) rfl) (S18.atP (i:=3) rfl) (S18.atP (i:=4) rfl) (S18.atP (i:=5) rfl) (S18.atP (i:=6) rfl)) fu74 rfl ?_
 rintro _ w21 ⟨A23,c24,rfl,k22,⟨o25,n26⟩,_⟩
 have S27:=S18.callN k22 [rd intE 1 A23 c24 r19.1] (cA ⟨o25,New.inL n26⟩ nM)
 refine p_ext rfl rfl<|p_ext rfl rfl<|p_aS rfl<|p_aI rfl<|wp_nil ?_
 obtain rfl:=sJ H
 refine c_ret ?_; show bodyPostM (Fr none) 0 Tryz.prog Tryz.f30 _ .ret _ _
 refine ret_of (res2 rfl (rvT (rfl:_=SL A23 r19.1.length c24)) (rvT (rfl:_=I r19.2))) ?_
 exact ⟨_,rfl,A23,c24,rfl,S27.keep,⟨(S27.atP (i:=0) rfl),(New.mono n26 S18.keep.size)⟩,trivial⟩
def ticket_Lent_j41 (z_2:(List Int)×Int) (r61:TicketShow) (rec_z_2:((List Int)×Int)→Option ((List Int)×Int)) (z_3:Bool):Option ((List Int)×Int):=
 bif z_3 then (need (fitsL (z_2.1.length+([r61.Walker]:List Int).length) 8)<|
 rec_z_2 (z_2.1++([r61.Walker]:List Int),wr (z_2.2+1)))
 else (rec_z_2 (z_2.1,wr (z_2.2+1)))
def ticket_Lent_l42 (a0:TicketBook) (z_1:(List Int)×Int) (rec_z_1:((List Int)×Int)→Option ((List Int)×Int)) (rec_z_2:((List Int)×Int)→Option ((List Int)×Int)) (z_2:(List Int)×Int):Option ((List Int)×Int):=
 bif decide (z_2.2 < (a0.Shows.length:Int)) then ((getI a0.Shows z_2.2).bind fun r61=>
 bif (r61.Ticket==z_1.2) then ((sl_Contains_int_int z_2.1 r61.Walker).bind fun r69=>
 ticket_Lent_j41 z_2 r61 rec_z_2 (!r69))
 else (ticket_Lent_j41 z_2 r61 rec_z_2 false))
 else (bif decide ((z_2.1.length:Int) > 1) then (need (fitsL (z_1.1.length+([z_1.2]:List Int).length) 8)<|
 rec_z_1 (z_1.1++([z_1.2]:List Int),wr (z_1.2+1)))
 else (rec_z_1 (z_1.1,wr (z_1.2+1))))
def ticket_Lent_l43 (a0:TicketBook) (rec_z_1:((List Int)×Int)→Option ((List Int)×Int)) (z_1:(List Int)×Int):Option ((List Int)×Int):=
 bif decide (z_1.2 < (a0.Tickets.length:Int)) then (loopF (ticket_Lent_l42 a0 z_1 rec_z_1) big (([]:List Int),0))
 else (some (z_1.1,0))
def ticket_Lent (a0:TicketBook):Option ((List Int)×Int):=
 (ticket_asked a0 true).bind fun r18=>
 bif (r18.2 != 0) then (some (([]:List _),r18.2))
 else (loopF (ticket_Lent_l43 a0) big (([]:List Int),0))
set_option maxRecDepth 100000 in
theorem ticket_Lent_ok {a0:TicketBook}{A1:Option Addr}{c2:Nat}{A4:Option Addr}{c5:Nat}{A7:Option Addr}{c8:Nat}{A10:Option Addr}{c11:Nat}{w:World}{r:(List Int)×Int} (H:ticket_Lent a0=some r) (h3:(rd eTallyCount 7 A1 c2 a0.Tally.Counts).ok w) (h6:(rd eTicketSeason 2 A4 c5 a0.Tickets).ok w) (h9:(rd eTicketShow 3 A7 c8 a0.Shows).ok w) (h12:(rd eTicketBox 4 A10 c11 a0.Boxes).ok w) (hg13:(gW0).ok w) (hg14:(gW2).ok w):Calls Tryz.prog 31 #[AG (vB a0 A1 c2 A4 c5 A7 c8 A10 c11)] w fun en w_=>∃ u_,en=.returned u_∧∃ A_1:Option Addr,∃ c_2:Nat,u_=TU [SL A_1 r.1.length c_2,I r.2]∧Keep0 w w_∧((rd intE 1 A_1 c_2 r.1).ok w_∧New w.heap.size (rd intE 1 A_1 c_2 r.1))∧True:=by
 unfold ticket_Lent at H
 refine fn_of (n:=63) Tryz.func31 rfl rfl (lE rfl) ?_
 have S:=St.start w nF _ (cA h3 (cA h6 (cA h9 (cA h12 (cA hg13 (cA hg14 nM))))))
 refine c_seq<|reg<|p_boxA rfl S fun b15 w16 S17=>p_aS rfl<|p_aI rfl<|wp_nil<|c_seq<|c_seq<|reg<|p_ldA ty29 sz29 (S17.atX (i:=0) rfl) rfl rfl ?_
 obtain ⟨r18,h19,H⟩:=bindS H
 refine p_cal (ticket_asked_ok h19 (S17.atP (i:=0) rfl) (S17.atP (i:=1) rfl) (S17.atP (i:=2) rfl) (S17.atP (i:=3) rfl) (S17.atP (i:=4) rfl) (S17.atP (i:=5) rfl)) fu62 rfl ?_
 rintro _ w20 ⟨A22,c23,A24,c25,A26,c27,A28,c29,m30,rfl,k21,⟨o31,n32⟩,⟨o33,n34⟩,⟨o35,n36⟩,⟨o37,n38⟩,⟨o39,n40⟩,_⟩
 have S41:=S17.callN k21 [rd eTallyCount 7 A22 c23 r18.1.TicketBook.Tally.Counts,rd eTicketSeason 2 A24 c25 r18.1.TicketBook.Tickets,rd eTicketShow 3 A26 c27 r18.1.TicketBook.Shows,rd eTicketBox 4 A28 c29 r18.1.TicketBook.Boxes,mpo ekS iE m30 r18.1.by_] (cA ⟨o31,Al.inL n32 ((cA (fp_mem (i:=0) rfl) (cA (fp_mem (i:=1) rfl) (cA (fp_mem (i:=2) rfl) (cA (fp_mem (i:=3) rfl) nM)))))⟩ (cA ⟨o33,Al.inL n34 ((cA (fp_mem (i:=0) rfl) (cA (fp_mem (i:=1) rfl) (cA (fp_mem (i:=2) rfl) (cA (fp_mem (i:=3) rfl) nM)))))⟩ (cA ⟨o35,New.inL n36⟩ (cA ⟨o37,New.inL n38⟩ (cA ⟨o39,New.inL n40⟩ nM)))))
 refine p_mT rfl<|p_ext rfl rfl<|p_ext rfl rfl<|p_allA in73 S41 fun b42 w43 S44=>?_
 refine p_stP (pre:=[]) (old:=[I 0,I 0,SL none 0 0,I 0,SL none 0 0,SL none 0 0,SL none 0 0]++(sg (List.replicate 3 0) 3++[Value.map none])) (post:=[]) (vs:=(vB r18.1.TicketBook A22 c23 A24 c25 A26 c27 A28 c29)++(sg r18.1.shown_ 3++[Value.map m30])) sz73 S44 (i:=0) rfl rfl rfl rfl (rfl:_=AG ((vB r18.1.TicketBook A22 c23 A24 c25 A26 c27 A28 c29)++(sg r18.1.shown_ 3++[Value.map m30]))) rfl rfl rfl rfl fun w45 S46=>?_
 refine p_aI rfl<|wp_nil<|c_seq<|reg<|p_mI rfl<|p_cmp rfl rfl rfl<|wp_nil ?_
 refine c_cond rfl (fun c47=>?_) (fun c47=>?_)
 ·replace H:=condT c47 H
  refine c_seq<|reg<|p_mI rfl<|p_aS rfl<|p_aI rfl<|wp_nil ?_
  obtain rfl:=sJ H
  refine c_ret ?_; show bodyPostM (Fr none) 0 Tryz.prog Tryz.f31 _ .ret _ _
  refine ret_of (res2 rfl (rvT (rfl:_=SL none 0 0)) (rvT (rfl:_=I r18.2))) ?_
  exact ⟨_,rfl,none,0,rfl,S46.keep,⟨rd_nil (Nat.zero_le _),New.nil⟩,trivial⟩
 ·replace H:=condF c47 H
  refine c_skip<|c_seq<|reg<|p_aS rfl<|wp_nil<|c_seq<|c_seq<|reg<|p_fld fl29_2 rfl<|p_ld ty25 (S46.atX (i:=1) rfl) rfl rfl<|p_len rfl sc25<|p_mI rfl<|wp_nil<|c_block ?_
  have S48:=S46.nilRow intE 1 3
  have S49:=S48.pk [0,2] (by decide) [0,1,2,3,4,5,6,7,8,9,10] rfl rfl
  refine c_lop (α:=(List Int)×Int) (β:=(Option Addr)×Nat) (ticket_Lent_l43 a0) (fun z_1 y_1=>[(1,P b15 0),(6,SL y_1.1 z_1.1.length y_1.2),(21,I (a0.Tickets.length:Int)),(22,I z_1.2)]) (fun z_1 y_1 w_=>St w nF w_ [gr intE 1 3 y_1.1 y_1.2 z_1.1,bl b15 (vB a0 A1 c2 A4 c5 A7 c8 A10 c11) 29] [rd eTallyCount 7 A22 c23 r18.1.TicketBook.Tally.Counts,rd eTicketSeason 2 A24 c25 r18.1.TicketBook.Tickets,rd eTicketShow 3 A26 c27 r18.1.TicketBook.Shows,rd eTicketBox 4 A28 c29 r18.1.TicketBook.Boxes,mpo ekS iE m30 r18.1.by_,rd eTallyCount 7 A1 c2 a0.Tally.Counts,rd eTicketSeason 2 A4 c5 a0.Tickets,rd eTicketShow 3 A7 c8 a0.Shows,rd eTicketBox 4 A10 c11 a0.Boxes,gW0,gW2]) (([]:List Int),0) (none,0) H ⟨rfl,rfl,rfl,rfl,trivial⟩ S49 ?_
  intro m50 z_1 y_1 e51 w52 H S53
  unfold ticket_Lent_l43 at H
  refine c_seq<|reg<|p_cmp rfl rfl rfl<|wp_nil<|c_seq ?_
  refine c_cond rfl (fun c54=>?_) (fun c54=>?_)
  ·replace H:=condT c54 H
   refine c_skip<|c_seq<|c_block<|c_seq<|reg<|p_mI rfl<|p_aI rfl<|wp_nil<|c_seq<|reg<|p_aS rfl<|wp_nil<|c_seq<|c_seq<|reg<|p_fld fl29_3 rfl<|p_ld ty26 (S53.atX (i:=1) rfl) rfl rfl<|p_len rfl sc26<|p_mI rfl<|wp_nil<|c_block ?_
   have S55:=S53.nilRow intE 1 3
   refine c_lop (α:=(List Int)×Int) (β:=(Option Addr)×Nat) (ticket_Lent_l42 a0 z_1 (loopF (ticket_Lent_l43 a0) m50)) (fun z_2 y_2=>[(1,P b15 0),(6,SL y_1.1 z_1.1.length y_1.2),(7,I z_1.2),(8,SL y_2.1 z_2.1.length y_2.2),(21,I (a0.Tickets.length:Int)),(22,I z_1.2),(26,SL A7 a0.Shows.length c8),(27,I (a0.Shows.length:Int)),(28,I z_2.2)]) (fun z_2 y_2 w_=>St w nF w_ [gr intE 1 3 y_2.1 y_2.2 z_2.1,gr intE 1 3 y_1.1 y_1.2 z_1.1,bl b15 (vB a0 A1 c2 A4 c5 A7 c8 A10 c11) 29] [rd eTallyCount 7 A22 c23 r18.1.TicketBook.Tally.Counts,rd eTicketSeason 2 A24 c25 r18.1.TicketBook.Tickets,rd eTicketShow 3 A26 c27 r18.1.TicketBook.Shows,rd eTicketBox 4 A28 c29 r18.1.TicketBook.Boxes,mpo ekS iE m30 r18.1.by_,rd eTallyCount 7 A1 c2 a0.Tally.Counts,rd eTicketSeason 2 A4 c5 a0.Tickets,rd eTicketShow 3 A7 c8 a0.Shows,rd eTicketBox 4 A10 c11 a0.Boxes,gW0,gW2]) (([]:List Int),0) (none,0) H ⟨rfl,rfl,rfl,rfl,rfl,rfl,rfl,rfl,rfl,trivial⟩ S55 ?_
   intro m56 z_2 y_2 e57 w58 H S59
   unfold ticket_Lent_l42 at H
   refine c_seq<|reg<|p_cmp rfl rfl rfl<|wp_nil<|c_seq ?_
   refine c_cond rfl (fun c60=>?_) (fun c60=>?_)
   ·replace H:=condT c60 H
    refine c_skip<|c_seq<|c_block<|c_seq<|reg ?_
    obtain ⟨r61,h62,H⟩:=bindS H
    refine p_ixE sc26 h62 (S59.atP (i:=7) rfl).1 rfl rfl rfl<|p_ldEA ty86 sz86 rfl h62 (S59.atP (i:=7) rfl).1 rfl<|p_allA in86 S59 fun b63 w64 S65=>p_stP (pre:=[]) (old:=[I 0,I 0,I 0]) (post:=[]) (vs:=[I r61.Trip,I r61.Ticket,I r61.Walker]) sz86 S65 (i:=0) rfl rfl rfl rfl (rfl:_=AG [I r61.Trip,I r61.Ticket,I r61.Walker]) rfl rfl rfl rfl fun w66 S67=>wp_nil ?_
    refine c_join (α:=Bool) (β:=Unit) (fun z_3 y_3=>[(1,P b15 0),(6,SL y_1.1 z_1.1.length y_1.2),(7,I z_1.2),(8,SL y_2.1 z_2.1.length y_2.2),(10,P b63 0),(21,I (a0.Tickets.length:Int)),(22,I z_1.2),(26,SL A7 a0.Shows.length c8),(27,I (a0.Shows.length:Int)),(28,I z_2.2),(42,B z_3)]) (fun z_3 y_3 w_=>ticket_Lent_j41 z_2 r61 (loopF (ticket_Lent_l42 a0 z_1 (loopF (ticket_Lent_l43 a0) m50)) m56) z_3=some r∧St w nF w_ [bl b63 [I r61.Trip,I r61.Ticket,I r61.Walker] 86,gr intE 1 3 y_2.1 y_2.2 z_2.1,gr intE 1 3 y_1.1 y_1.2 z_1.1,bl b15 (vB a0 A1 c2 A4 c5 A7 c8 A10 c11) 29] [rd eTallyCount 7 A22 c23 r18.1.TicketBook.Tally.Counts,rd eTicketSeason 2 A24 c25 r18.1.TicketBook.Tickets,rd eTicketShow 3 A26 c27 r18.1.TicketBook.Shows,rd eTicketBox 4 A28 c29 r18.1.TicketBook.Boxes,mpo ekS iE m30 r18.1.by_,rd eTallyCount 7 A1 c2 a0.Tally.Counts,rd eTicketSeason 2 A4 c5 a0.Tickets,rd eTicketShow 3 A7 c8 a0.Shows,rd eTicketBox 4 A10 c11 a0.Boxes,gW0,gW2]) ?_ ?_
    ·refine reg<|p_fld fl86_1 rfl<|p_ld ty3 (S67.atX (i:=0) rfl) rfl rfl<|p_mI rfl<|p_cmp rfl rfl rfl<|p_mB rfl ?_
     rcases bE ((r61.Ticket==z_1.2)) with c68 | c68
     ·replace H:=condT c68 H
      refine eB c68 ?_
      refine gT rfl rfl (p_mS rfl ?_)
      refine gT rfl rfl (p_fld fl86_2 rfl ?_)
      refine gT rfl rfl (p_ld ty3 (S67.atX (i:=0) rfl) rfl rfl ?_)
      obtain ⟨r69,h70,H⟩:=bindS H
      refine gT rfl rfl (p_cv (sl_Contains_int_int_ok h70 (gr_rd intE_len (S67.atX (i:=1) rfl))) fu75 rfl S67 fun w71 S72=>?_)
      refine gT rfl rfl (p_not rfl ?_)
      exact p_pkT rfl (rfl:_=B (!r69))<|wp_nil ⟨!r69,(),_,rfl,⟨rfl,rfl,rfl,rfl,rfl,rfl,rfl,rfl,rfl,rfl,rfl,trivial⟩,H,S72⟩
     ·replace H:=condF c68 H
      refine eB c68<|gF rfl rfl<|gF rfl rfl<|gF rfl rfl<|gF rfl rfl<|gF rfl rfl<|p_pkF rfl (rfl:_=B false)<|wp_nil ?_
      exact ⟨false,(),_,rfl,⟨rfl,rfl,rfl,rfl,rfl,rfl,rfl,rfl,rfl,rfl,rfl,trivial⟩,H,S67⟩
    ·intro z_3 y_3 e68 w69 S70; obtain ⟨H,S70⟩:=S70
     unfold ticket_Lent_j41 at H
     refine c_cond rfl (fun c71=>?_) (fun c71=>?_)
     ·replace H:=condT c71 H
      refine reg<|p_mS rfl<|p_fld fl86_2 rfl<|p_ld ty3 (S70.atX (i:=0) rfl) rfl rfl<|p_bsl (enc:=intE) (l:=([r61.Walker]:List Int)) I (fun _=>rfl) sc60 in3 intE_len rfl (by decide) (by decide) zr3_1 S70 rfl fun A72 c73 w74 S75=>?_
      obtain ⟨h81,H⟩:=needS H
      refine p_app (enc:=intE) sc60 in3 rfl intE_len intE_one (by decide) S75 (k:=2) rfl (gr_sl intE_len (S75.atX (i:=0) rfl)) h81 (by simp) rfl rfl fun A79 c80 w77 S78=>p_aS rfl<|wp_nil<|reg<|p_add rfl rfl<|p_mI rfl<|wp_nil ?_
      have S82:=S78.pk [2,3,4] (by decide) [0,1,2,3,4,5,6,7,8,9,10] rfl rfl
      exact ⟨(z_2.1++([r61.Walker]:List Int),wr (z_2.2+1)),(A79,c80),_,rfl,⟨rfl,rfl,rfl,rfl,rfl,rfl,rfl,rfl,rfl,trivial⟩,H,S82⟩
     ·replace H:=condF c71 H
      refine c_skip<|reg<|p_add rfl rfl<|p_mI rfl<|wp_nil ?_
      have S83:=S70.pk [1,2,3] (by decide) [0,1,2,3,4,5,6,7,8,9,10] rfl rfl
      exact ⟨(z_2.1,wr (z_2.2+1)),(y_2.1,y_2.2),_,rfl,⟨rfl,rfl,rfl,rfl,rfl,rfl,rfl,rfl,rfl,trivial⟩,H,S83⟩
   ·replace H:=condF c60 H
    refine c_exit<|c_seq<|reg<|p_mS rfl<|p_len rfl sc60<|p_cmp rfl rfl rfl<|wp_nil ?_
    refine c_cond rfl (fun c73=>?_) (fun c73=>?_)
    ·replace H:=condT c73 H
     refine reg<|p_mS rfl<|p_mI rfl<|p_bsl (enc:=intE) (l:=([z_1.2]:List Int)) I (fun _=>rfl) sc60 in3 intE_len rfl (by decide) (by decide) zr3_1 S59 rfl fun A74 c75 w76 S77=>?_
     obtain ⟨h83,H⟩:=needS H
     refine p_app (enc:=intE) sc60 in3 rfl intE_len intE_one (by decide) S77 (k:=2) rfl (gr_sl intE_len (S77.atX (i:=0) rfl)) h83 (by simp) rfl rfl fun A81 c82 w79 S80=>p_aS rfl<|wp_nil<|reg<|p_add rfl rfl<|p_mI rfl<|wp_nil ?_
     have S84:=S80.pk [2,3] (by decide) [0,1,2,3,4,5,6,7,8,9,10] rfl rfl
     exact ⟨(z_1.1++([z_1.2]:List Int),wr (z_1.2+1)),(A81,c82),_,rfl,⟨rfl,rfl,rfl,rfl,trivial⟩,H,S84⟩
    ·replace H:=condF c73 H
     refine c_skip<|reg<|p_add rfl rfl<|p_mI rfl<|wp_nil ?_
     have S85:=S59.pk [1,2] (by decide) [0,1,2,3,4,5,6,7,8,9,10] rfl rfl
     exact ⟨(z_1.1,wr (z_1.2+1)),(y_1.1,y_1.2),_,rfl,⟨rfl,rfl,rfl,rfl,trivial⟩,H,S85⟩
  ·replace H:=condF c54 H
   refine c_exit<|c_seq<|reg<|p_mS rfl<|p_mS rfl<|p_len rfl sc60<|p_mS rfl<|p_len rfl sc60<|p_cut3 sc60 (gr_rd intE_len (S53.atX (i:=0) rfl)) rfl rfl rfl<|p_aS rfl<|p_aI rfl<|wp_nil ?_
   obtain rfl:=sJ H
   refine c_ret ?_; show bodyPostM (Fr none) 0 Tryz.prog Tryz.f31 _ .ret _ _
   refine ret_of (res2 rfl (rvT (rfl:_=SL y_1.1 z_1.1.length z_1.1.length)) (rvT (rfl:_=I 0))) ?_
   exact ⟨_,rfl,y_1.1,z_1.1.length,rfl,S53.keep,⟨(rd_full (gr_rd intE_len (S53.atX (i:=0) rfl))),(New.rdc (S53.newX (i:=0) rfl))⟩,trivial⟩
def B_Alike_l1 (a0:List Int) (a1:List Int) (rec_z_1:Int→Option Bool) (z_1:Int):Option Bool:=
 bif decide (z_1 < (a0.length:Int)) then ((getI a0 z_1).bind fun r13=>
 (getI a1 z_1).bind fun r15=>
 bif (r13 != r15) then (some false)
 else (rec_z_1 (wr (z_1+1))))
 else (some true)
def B_Alike (a0:List Int) (a1:List Int):Option Bool:=
 bif ((a0.length:Int) != (a1.length:Int)) then (some false)
 else (loopF (B_Alike_l1 a0 a1) big 0)
end Go.Proofs.YtafhljljfglfeaaGreatDoor
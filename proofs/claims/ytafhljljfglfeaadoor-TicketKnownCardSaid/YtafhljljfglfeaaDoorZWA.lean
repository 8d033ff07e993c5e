/- What the functions of the program compute, and that they do, printed by a program of mine. -/
import Derived.Test.YtafhljljfglfeaaDoorZGFxFrom
import Derived.KernelRfl
set_option linter.unusedVariables false
set_option linter.unusedSimpArgs false
namespace Go.Proofs.YtafhljljfglfeaaDoor
open Go Go.Fx Go.Proofs
def iE (x:Int):Value:=I x
structure Tally_pair where
 from_:Int
 to_:Int
 deriving DecidableEq,Inhabited
structure Ticket_seat where
 trip_:Int
 walker_:Int
 deriving DecidableEq,Inhabited
def ekS (p:Ticket_seat):Value:=AG [I p.trip_,I p.walker_]
theorem keySr:KeyL Tryd.prog 128 ekP:=keyPair (ft:=3) (f0:=(Tryd.prog.fieldsOf 128)[0]!) (f1:=(Tryd.prog.fieldsOf 128)[1]!) (by kernel_rfl) (by decide +kernel) (by decide +kernel) (by kernel_rfl) (by kernel_rfl) (by kernel_rfl) (by kernel_rfl) (by kernel_rfl) (by kernel_rfl)
theorem keyS:KeyL Tryd.prog 128 ekS:=KeyL.comp keySr (fun p:Ticket_seat=>(p.trip_,p.walker_)) fun a b h=>by
 cases a; cases b; cases h; rfl
structure TallyCount where
 Who:Int
 From:Int
 To:Int
 Told:Int
 Unit:Int
 Under:Int
 Over:Int
 deriving DecidableEq,Inhabited
structure TallyBook where
 Trips:Int
 Room:Int
 Counts:List TallyCount
 deriving DecidableEq,Inhabited
structure Tally_book where
 TallyBook:TallyBook
 more_:List (Tally_pair×Int)
 deriving DecidableEq,Inhabited
def eTallyCount (x:TallyCount):List Value:=[I x.Who,I x.From,I x.To,I x.Told,I x.Unit,I x.Under,I x.Over]
theorem eTallyCount_len (x:TallyCount):(eTallyCount x).length=7:=rfl
theorem eTallyCount_one (x:TallyCount):∀ u∈eTallyCount x,u.oneCell' =true:=by simp [eTallyCount,sg,sgF,Value.oneCell']
def tally_count_least (a0:TallyCount):Option Int:=
 some (wr ((wr (a0.Told*a0.Unit)) - a0.Over))
set_option maxRecDepth 100000 in
theorem tally_count_least_ok {a0:TallyCount}{w:World}{r:Int} (H:tally_count_least a0=some r):Calls Tryd.prog 128 #[AG [I a0.Who,I a0.From,I a0.To,I a0.Told,I a0.Unit,I a0.Under,I a0.Over]] w (RetV w (I r)):=by
 unfold tally_count_least at H
 refine fn_of (n:=11) Tryd.func128 rfl rfl (lE rfl) ?_
 have S:=St.start w nF _ nM
 refine c_seq<|reg<|p_boxA rfl S fun b1 w2 S3=>p_aI rfl<|wp_nil<|c_seq<|reg<|p_fld fl140_3 rfl<|p_ld ty3 (S3.atX (i:=0) rfl) rfl rfl<|p_fld fl140_4 rfl<|p_ld ty3 (S3.atX (i:=0) rfl) rfl rfl<|p_mul rfl rfl<|p_fld fl140_6 rfl<|p_ld ty3 (S3.atX (i:=0) rfl) rfl rfl<|p_sub rfl rfl<|p_aI rfl<|wp_nil ?_
 obtain rfl:=sJ H
 exact c_ret (rT Tryd.f128 S3.keep rfl rfl)
def tally_count_most (a0:TallyCount):Option Int:=
 some (wr ((wr (a0.Told*a0.Unit))+a0.Under))
set_option maxRecDepth 100000 in
theorem tally_count_most_ok {a0:TallyCount}{w:World}{r:Int} (H:tally_count_most a0=some r):Calls Tryd.prog 132 #[AG [I a0.Who,I a0.From,I a0.To,I a0.Told,I a0.Unit,I a0.Under,I a0.Over]] w (RetV w (I r)):=by
 unfold tally_count_most at H
 refine fn_of (n:=11) Tryd.func132 rfl rfl (lE rfl) ?_
 have S:=St.start w nF _ nM
 refine c_seq<|reg<|p_boxA rfl S fun b1 w2 S3=>p_aI rfl<|wp_nil<|c_seq<|reg<|p_fld fl140_3 rfl<|p_ld ty3 (S3.atX (i:=0) rfl) rfl rfl<|p_fld fl140_4 rfl<|p_ld ty3 (S3.atX (i:=0) rfl) rfl rfl<|p_mul rfl rfl<|p_fld fl140_5 rfl<|p_ld ty3 (S3.atX (i:=0) rfl) rfl rfl<|p_add rfl rfl<|p_aI rfl<|wp_nil ?_
 obtain rfl:=sJ H
 exact c_ret (rT Tryd.f132 S3.keep rfl rfl)
structure TicketShow where
 Trip:Int
 Ticket:Int
 Walker:Int
 deriving DecidableEq,Inhabited
def eTicketShow (x:TicketShow):List Value:=[I x.Trip,I x.Ticket,I x.Walker]
theorem eTicketShow_len (x:TicketShow):(eTicketShow x).length=3:=rfl
theorem eTicketShow_one (x:TicketShow):∀ u∈eTicketShow x,u.oneCell' =true:=by simp [eTicketShow,sg,sgF,Value.oneCell']
def sl_IndexFunc_api_TicketShow_api_TicketShow_l1 (a0:List TicketShow) (a1:TicketShow→Option Bool) (rec_z_1:Int→Option Int) (z_1:Int):Option Int:=
 bif decide (z_1 < (a0.length:Int)) then ((getI a0 z_1).bind fun r16=>
 (a1 r16).bind fun r18=>
 bif r18 then (some z_1)
 else (rec_z_1 (wr (z_1+1))))
 else (some (-1))
def sl_IndexFunc_api_TicketShow_api_TicketShow (a0:List TicketShow) (a1:TicketShow→Option Bool):Option Int:=
 loopF (sl_IndexFunc_api_TicketShow_api_TicketShow_l1 a0 a1) big 0
set_option maxRecDepth 100000 in
theorem sl_IndexFunc_api_TicketShow_api_TicketShow_ok {a0:List TicketShow}{a1:TicketShow→Option Bool}{A1:Option Addr}{c2:Nat}{f4:Nat}{cp5:List Value}{w:World}{r:Int} (H:sl_IndexFunc_api_TicketShow_api_TicketShow a0 a1=some r) (h3:(rd eTicketShow 3 A1 c2 a0).ok w) (hF6:funOf Tryd.prog f4=true) (hw7:∀ (y8:TicketShow) (w10:World) (y9:Bool),Keep0 w w10→a1 y8=some y9→Calls Tryd.prog f4 (List.toArray ([AG [I y8.Trip,I y8.Ticket,I y8.Walker]]++cp5)) w10 (RetV w10 (B y9))):Calls Tryd.prog 109 #[SL A1 a0.length c2,vF (.func f4) #[] cp5.toArray] w (RetV w (I r)):=by
 unfold sl_IndexFunc_api_TicketShow_api_TicketShow at H
 refine fn_of (n:=19) Tryd.func109 rfl rfl (lE rfl) ?_
 have S:=St.start w nF _ (cA h3 nM)
 refine c_seq<|reg<|p_aI rfl<|wp_nil<|c_seq<|c_seq<|reg<|p_mS rfl<|p_len rfl sc26<|p_mI rfl<|wp_nil<|c_block ?_
 refine c_lop (α:=Int) (β:=Unit) (sl_IndexFunc_api_TicketShow_api_TicketShow_l1 a0 a1) (fun z_1 y_1=>[(0,SL A1 a0.length c2),(1,vF (.func f4) #[] cp5.toArray),(7,I (a0.length:Int)),(8,I z_1)]) (fun z_1 y_1 w_=>St w nF w_ [] [rd eTicketShow 3 A1 c2 a0]) 0 () H ⟨rfl,rfl,rfl,rfl,trivial⟩ S ?_
 intro m11 z_1 y_1 e12 w13 H S14
 unfold sl_IndexFunc_api_TicketShow_api_TicketShow_l1 at H
 refine c_seq<|reg<|p_cmp rfl rfl rfl<|wp_nil<|c_seq ?_
 refine c_cond rfl (fun c15=>?_) (fun c15=>?_)
 ·replace H:=condT c15 H
  refine c_skip<|c_seq<|c_block<|c_seq<|reg<|p_mI rfl<|p_aI rfl<|wp_nil<|c_seq<|reg<|p_mov (rfl:_=vF (.func f4) #[] cp5.toArray)<|p_mS rfl<|p_mI rfl ?_
  obtain ⟨r16,h17,H⟩:=bindS H
  refine p_ixE sc26 h17 (S14.atP (i:=0) rfl).1 rfl rfl rfl<|p_ldEA ty67 sz67 rfl h17 (S14.atP (i:=0) rfl).1 rfl ?_
  obtain ⟨r18,h19,H⟩:=bindS H
  refine p_cv (hw7 _ _ _ S14.keep h19) hF6 rfl S14 ?_
  intro w20 S21
  refine wp_nil ?_
  refine c_cond rfl (fun c22=>?_) (fun c22=>?_)
  ·replace H:=condT c22 H
   refine c_seq<|reg<|p_mI rfl<|p_aI rfl<|wp_nil ?_
   obtain rfl:=sJ H
   exact c_ret (rT Tryd.f109 S21.keep rfl rfl)
  ·replace H:=condF c22 H
   refine c_skip<|reg<|p_add rfl rfl<|p_mI rfl<|wp_nil ?_
   exact ⟨wr (z_1+1),(),_,rfl,⟨rfl,rfl,rfl,rfl,trivial⟩,H,S21⟩
 ·replace H:=condF c15 H
  refine c_exit<|c_seq<|reg<|p_aI rfl<|wp_nil ?_
  obtain rfl:=sJ H
  exact c_ret (rT Tryd.f109 S14.keep rfl rfl)
def sl_ContainsFunc_api_TicketShow_api_TicketShow (a0:List TicketShow) (a1:TicketShow→Option Bool):Option Bool:=
 (sl_IndexFunc_api_TicketShow_api_TicketShow a0 a1).bind fun r11=>
 some (decide (r11≥0))
set_option maxRecDepth 100000 in
theorem sl_ContainsFunc_api_TicketShow_api_TicketShow_ok {a0:List TicketShow}{a1:TicketShow→Option Bool}{A1:Option Addr}{c2:Nat}{f4:Nat}{cp5:List Value}{w:World}{r:Bool} (H:sl_ContainsFunc_api_TicketShow_api_TicketShow a0 a1=some r) (h3:(rd eTicketShow 3 A1 c2 a0).ok w) (hF6:funOf Tryd.prog f4=true) (hw7:∀ (y8:TicketShow) (w10:World) (y9:Bool),Keep0 w w10→a1 y8=some y9→Calls Tryd.prog f4 (List.toArray ([AG [I y8.Trip,I y8.Ticket,I y8.Walker]]++cp5)) w10 (RetV w10 (B y9))):Calls Tryd.prog 102 #[SL A1 a0.length c2,vF (.func f4) #[] cp5.toArray] w (RetV w (B r)):=by
 unfold sl_ContainsFunc_api_TicketShow_api_TicketShow at H
 refine fn_of (n:=9) Tryd.func102 rfl rfl (lE rfl) ?_
 have S:=St.start w nF _ (cA h3 nM)
 refine c_seq<|reg<|p_aB rfl<|wp_nil<|c_seq<|reg<|p_mS rfl<|p_mov (rfl:_=vF (.func f4) #[] cp5.toArray) ?_
 obtain ⟨r11,h12,H⟩:=bindS H
 refine p_cv (sl_IndexFunc_api_TicketShow_api_TicketShow_ok h12 (S.atP (i:=0) rfl) hF6 hw7) fu109 rfl S fun w13 S14=>p_cmp rfl rfl rfl<|p_aB rfl<|wp_nil ?_
 obtain rfl:=sJ H
 exact c_ret (rT Tryd.f102 S14.keep rfl rfl)
def ticket_clash (a0:TicketShow) (a1:TicketShow):Option Bool:=
 bif (a0.Trip==a1.Trip) then (some ((a0.Ticket==a1.Ticket) != (a0.Walker==a1.Walker)))
 else (some false)
set_option maxRecDepth 100000 in
theorem ticket_clash_ok {a0:TicketShow}{a1:TicketShow}{w:World}{r:Bool} (H:ticket_clash a0 a1=some r):Calls Tryd.prog 57 #[AG [I a0.Trip,I a0.Ticket,I a0.Walker],AG [I a1.Trip,I a1.Ticket,I a1.Walker]] w (RetV w (B r)):=by
 unfold ticket_clash at H
 refine fn_of (n:=23) Tryd.func57 rfl rfl (lE rfl) ?_
 have S:=St.start w nF _ nM
 refine c_seq<|reg<|p_boxA rfl S fun b1 w2 S3=>p_boxA rfl S3 fun b4 w5 S6=>p_aB rfl<|wp_nil<|c_seq<|reg<|p_fld fl67_0 rfl<|p_ld ty3 (S6.atX (i:=1) rfl) rfl rfl<|p_fld fl67_0 rfl<|p_ld ty3 (S6.atX (i:=0) rfl) rfl rfl<|p_cmp rfl rfl rfl<|p_mB rfl ?_
 rcases bE ((a0.Trip==a1.Trip)) with c7 | c7
 ·replace H:=condT c7 H
  refine eB c7 ?_
  refine gT rfl rfl (p_fld fl67_1 rfl ?_)
  refine gT rfl rfl (p_ld ty3 (S6.atX (i:=1) rfl) rfl rfl ?_)
  refine gT rfl rfl (p_fld fl67_1 rfl ?_)
  refine gT rfl rfl (p_ld ty3 (S6.atX (i:=0) rfl) rfl rfl ?_)
  refine gT rfl rfl (p_cmp rfl rfl rfl ?_)
  refine gT rfl rfl (p_fld fl67_2 rfl ?_)
  refine gT rfl rfl (p_ld ty3 (S6.atX (i:=1) rfl) rfl rfl ?_)
  refine gT rfl rfl (p_fld fl67_2 rfl ?_)
  refine gT rfl rfl (p_ld ty3 (S6.atX (i:=0) rfl) rfl rfl ?_)
  refine gT rfl rfl (p_cmp rfl rfl rfl ?_)
  refine gT rfl rfl (o_neB rfl rfl ub4 ?_)
  refine p_pkT rfl (rfl:_=B ((a0.Ticket==a1.Ticket) != (a0.Walker==a1.Walker)))<|p_aB rfl<|wp_nil ?_
  obtain rfl:=sJ H
  exact c_ret (rT Tryd.f57 S6.keep rfl rfl)
 ·replace H:=condF c7 H
  refine eB c7<|gF rfl rfl<|gF rfl rfl<|gF rfl rfl<|gF rfl rfl<|gF rfl rfl<|gF rfl rfl<|gF rfl rfl<|gF rfl rfl<|gF rfl rfl<|gF rfl rfl<|gF rfl rfl<|p_pkF rfl (rfl:_=B false)<|p_aB rfl<|wp_nil ?_
  obtain rfl:=sJ H
  exact c_ret (rT Tryd.f57 S6.keep rfl rfl)
def ticket_book_clear_1 (a0:TicketShow) (q0:TicketShow):Option Bool:=
 (ticket_clash q0 a0).bind fun r6=>
 some r6
set_option maxRecDepth 100000 in
theorem ticket_book_clear_1_ok {a0:TicketShow}{q0:TicketShow}{b1:Nat}{w:World}{r:Bool} (H:ticket_book_clear_1 a0 q0=some r) (h2:(bl b1 [I q0.Trip,I q0.Ticket,I q0.Walker] 67).ok w):Calls Tryd.prog 103 #[AG [I a0.Trip,I a0.Ticket,I a0.Walker],P b1 0] w (RetV w (B r)):=by
 unfold ticket_book_clear_1 at H
 refine fn_of (n:=7) Tryd.func103 rfl rfl (lE rfl) ?_
 have S:=St.start w nF _ (cA h2 nM)
 refine c_seq<|reg<|p_boxA rfl S fun b3 w4 S5=>p_aB rfl<|wp_nil<|c_seq<|reg<|p_ldA ty67 sz67 (S5.atP (i:=0) rfl) rfl rfl<|p_ldA ty67 sz67 (S5.atX (i:=0) rfl) rfl rfl ?_
 obtain ⟨r6,h7,H⟩:=bindS H
 refine p_cv (ticket_clash_ok h7) fu57 rfl S5 fun w8 S9=>p_aB rfl<|wp_nil ?_
 obtain rfl:=sJ H
 exact c_ret (rT Tryd.f103 S9.keep rfl rfl)
structure TicketSeason where
 From:Int
 To:Int
 deriving DecidableEq,Inhabited
structure TicketBox where
 From:Int
 To:Int
 Pence:Int
 Lost:Int
 deriving DecidableEq,Inhabited
structure TicketBook where
 Tally:TallyBook
 Fare:Int
 Tickets:List TicketSeason
 Shows:List TicketShow
 Boxes:List TicketBox
 deriving DecidableEq,Inhabited
abbrev vB (x:TicketBook) (A:Option Addr) (a:Nat) (B:Option Addr) (b:Nat) (C:Option Addr) (c:Nat) (D:Option Addr) (d:Nat):List Value:=[I x.Tally.Trips,I x.Tally.Room,SL A x.Tally.Counts.length a,I x.Fare,SL B x.Tickets.length b,SL C x.Shows.length c,SL D x.Boxes.length d]
structure Ticket_book where
 TicketBook:TicketBook
 shown_:List Int
 by_:List (Ticket_seat×Int)
 deriving DecidableEq,Inhabited
def eTicketSeason (x:TicketSeason):List Value:=[I x.From,I x.To]
theorem eTicketSeason_len (x:TicketSeason):(eTicketSeason x).length=2:=rfl
theorem eTicketSeason_one (x:TicketSeason):∀ u∈eTicketSeason x,u.oneCell' =true:=by simp [eTicketSeason,sg,sgF,Value.oneCell']
def eTicketBox (x:TicketBox):List Value:=[I x.From,I x.To,I x.Pence,I x.Lost]
theorem eTicketBox_len (x:TicketBox):(eTicketBox x).length=4:=rfl
theorem eTicketBox_one (x:TicketBox):∀ u∈eTicketBox x,u.oneCell' =true:=by simp [eTicketBox,sg,sgF,Value.oneCell']
def ticket_book_clear_l1 (a0:Ticket_book) (rec_z_1:Int→Option Bool) (z_1:Int):Option Bool:=
 bif decide (z_1 < (a0.TicketBook.Shows.length:Int)) then ((getI a0.TicketBook.Shows z_1).bind fun r24=>
 bif ((r24.Trip==(-1))&&(r24.Walker==(-1))) then (some false)
 else (need (decide (0≤r24.Ticket))<|
 bif (((lookL a0.by_ (Ticket_seat.mk r24.Trip r24.Walker)).getD 0) != (shlI 1 r24.Ticket)) then (some false)
 else ((cutI a0.TicketBook.Shows 0 z_1).bind fun r45=>
 (sl_ContainsFunc_api_TicketShow_api_TicketShow r45 (fun y47=>ticket_book_clear_1 y47 r24)).bind fun r48=>
 bif r48 then (some false)
 else (rec_z_1 (wr (z_1+1))))))
 else (some true)
def ticket_book_clear (a0:Ticket_book):Option Bool:=
 loopF (ticket_book_clear_l1 a0) big 0
set_option maxRecDepth 100000 in
theorem ticket_book_clear_ok {a0:Ticket_book}{A1:Option Addr}{c2:Nat}{A4:Option Addr}{c5:Nat}{A7:Option Addr}{c8:Nat}{A10:Option Addr}{c11:Nat}{m13:Option Nat}{w:World}{r:Bool} (H:ticket_book_clear a0=some r) (h3:(rd eTallyCount 7 A1 c2 a0.TicketBook.Tally.Counts).ok w) (h6:(rd eTicketSeason 2 A4 c5 a0.TicketBook.Tickets).ok w) (h9:(rd eTicketShow 3 A7 c8 a0.TicketBook.Shows).ok w) (h12:(rd eTicketBox 4 A10 c11 a0.TicketBook.Boxes).ok w) (h14:(mpo ekS iE m13 a0.by_).ok w) (hg15:(gW0).ok w):Calls Tryd.prog 89 #[AG ((vB a0.TicketBook A1 c2 A4 c5 A7 c8 A10 c11)++(sg a0.shown_ 3++[Value.map m13]))] w (RetV w (B r)):=by
 unfold ticket_book_clear at H
 refine fn_of (n:=41) Tryd.func89 rfl rfl (lE rfl) ?_
 have S:=St.start w nF _ (cA h3 (cA h6 (cA h9 (cA h12 (cA h14 (cA hg15 nM))))))
 refine c_seq<|reg<|p_boxA rfl S fun b16 w17 S18=>p_aB rfl<|wp_nil<|c_seq<|c_seq<|reg<|p_fld fl92_0 rfl<|p_fld fl29_3 rfl<|p_ld ty26 (S18.atX (i:=0) rfl) rfl rfl<|p_len rfl sc26<|p_mI rfl<|wp_nil<|c_block ?_
 refine c_lop (α:=Int) (β:=Unit) (ticket_book_clear_l1 a0) (fun z_1 y_1=>[(1,P b16 0),(8,SL A7 a0.TicketBook.Shows.length c8),(9,I (a0.TicketBook.Shows.length:Int)),(10,I z_1)]) (fun z_1 y_1 w_=>St w nF w_ [bl b16 ((vB a0.TicketBook A1 c2 A4 c5 A7 c8 A10 c11)++(sg a0.shown_ 3++[Value.map m13])) 92] [rd eTallyCount 7 A1 c2 a0.TicketBook.Tally.Counts,rd eTicketSeason 2 A4 c5 a0.TicketBook.Tickets,rd eTicketShow 3 A7 c8 a0.TicketBook.Shows,rd eTicketBox 4 A10 c11 a0.TicketBook.Boxes,mpo ekS iE m13 a0.by_,gW0]) 0 () H ⟨rfl,rfl,rfl,rfl,trivial⟩ S18 ?_
 intro m19 z_1 y_1 e20 w21 H S22
 unfold ticket_book_clear_l1 at H
 refine c_seq<|reg<|p_cmp rfl rfl rfl<|wp_nil<|c_seq ?_
 refine c_cond rfl (fun c23=>?_) (fun c23=>?_)
 ·replace H:=condT c23 H
  refine c_skip<|c_seq<|c_block<|c_seq<|reg<|p_mI rfl ?_
  obtain ⟨r24,h25,H⟩:=bindS H
  refine p_ixE sc26 h25 (S22.atP (i:=2) rfl).1 rfl rfl rfl<|p_ldEA ty67 sz67 rfl h25 (S22.atP (i:=2) rfl).1 rfl<|p_allA in67 S22 fun b26 w27 S28=>p_aI rfl<|p_stP (pre:=[]) (old:=[I 0,I 0,I 0]) (post:=[]) (vs:=[I r24.Trip,I r24.Ticket,I r24.Walker]) sz67 S28 (i:=0) rfl rfl rfl rfl (rfl:_=AG [I r24.Trip,I r24.Ticket,I r24.Walker]) rfl rfl rfl rfl fun w29 S30=>wp_nil<|c_seq<|c_seq<|reg ?_
  refine p_fld fl67_0 rfl<|p_ld ty3 (S30.atX (i:=0) rfl) rfl rfl<|p_fld fl67_2 rfl<|p_ld ty3 (S30.atX (i:=0) rfl) rfl rfl<|p_bld (cs:=[I r24.Trip,I r24.Walker]) st128 (rfl:_=[(0,I r24.Trip),(1,I r24.Walker)]) (by kernel_rfl)<|p_allA in128 S30 fun b31 w32 S33=>?_
  refine p_stP (pre:=[]) (old:=[I 0,I 0]) (post:=[]) (vs:=[I r24.Trip,I r24.Walker]) sz128 S33 (i:=0) rfl rfl rfl rfl (rfl:_=AG [I r24.Trip,I r24.Walker]) rfl rfl rfl rfl fun w34 S35=>wp_nil<|c_seq ?_
  rcases bE (((r24.Trip==(-1))&&(r24.Walker==(-1)))) with c36 | c36
  ·replace H:=condT c36 H
   refine reg_q mixed 13 (by kernel_rfl) ?_
   refine dS (fun _ k_=>p_ldA ty128 sz128 (aS (S35.atX (i:=0) rfl) k_) rfl rfl dn)<|dS (fun _ k_=>p_ldA ty128 sz128 (aS (S35.atP (i:=5) rfl) k_) rfl rfl dn) ?_
   refine dS (fun _ k_=>o_eqA (xs:=[I r24.Trip,I r24.Walker]) (ys:=[I (-1),I (-1)]) (T:=((r24.Trip==(-1))&&(r24.Walker==(-1)))) rfl rfl eq128 ⟨⟨_,rfl⟩,⟨⟨_,rfl⟩,trivial⟩⟩ ⟨⟨_,rfl⟩,⟨⟨_,rfl⟩,trivial⟩⟩ (by simp [Bool.and_eq_true,and_assoc]) dn)<|dS (fun _ k_=>p_mB rfl dn)<|dB c36<|dF rfl rfl<|dF rfl rfl<|dF rfl rfl ?_
   refine dF rfl rfl<|dF rfl rfl<|dF rfl rfl<|dF rfl rfl<|dF rfl rfl<|dS (fun _ k_=>p_pkT rfl (rfl:_=B true) dn) ?_
   intro w37 k38; have S39:=S35.call k38
   refine wp_nil<|c_true rfl<|c_seq<|reg<|p_aB rfl<|wp_nil ?_
   obtain rfl:=sJ H
   exact c_ret (rT Tryd.f89 S39.keep rfl rfl)
  ·replace H:=condF c36 H
   obtain ⟨h40,H⟩:=needS H
   refine reg_q mixed 13 (by kernel_rfl) ?_
   refine dS (fun _ k_=>p_ldA ty128 sz128 (aS (S35.atX (i:=0) rfl) k_) rfl rfl dn)<|dS (fun _ k_=>p_ldA ty128 sz128 (aS (S35.atP (i:=5) rfl) k_) rfl rfl dn) ?_
   refine dS (fun _ k_=>o_eqA (xs:=[I r24.Trip,I r24.Walker]) (ys:=[I (-1),I (-1)]) (T:=((r24.Trip==(-1))&&(r24.Walker==(-1)))) rfl rfl eq128 ⟨⟨_,rfl⟩,⟨⟨_,rfl⟩,trivial⟩⟩ ⟨⟨_,rfl⟩,⟨⟨_,rfl⟩,trivial⟩⟩ (by simp [Bool.and_eq_true,and_assoc]) dn)<|dS (fun _ k_=>p_mB rfl dn)<|dB c36<|dS (fun _ k_=>gT rfl rfl (p_fld fl92_2 rfl dn)) ?_
   refine dS (fun _ k_=>gT rfl rfl (p_ld ty90 (aS (S35.atX (i:=2) rfl) k_) rfl rfl dn))<|dS (fun _ k_=>gT rfl rfl (p_ldA ty128 sz128 (aS (S35.atX (i:=0) rfl) k_) rfl rfl dn))<|dS (fun _ k_=>gT rfl rfl (o_lookV (a:=(Ticket_seat.mk r24.Trip r24.Walker)) (0:Int) mt90 keyS in3 (aS (S35.atP (i:=4) rfl) k_) rfl rfl rfl dn))<|dS (fun _ k_=>gT rfl rfl (p_fld fl67_1 rfl dn)) ?_
   refine dS (fun _ k_=>gT rfl rfl (p_ld ty3 (aS (S35.atX (i:=1) rfl) k_) rfl rfl dn))<|dS (fun _ k_=>gT rfl rfl (p_shl h40 rfl rfl dn))<|dS (fun _ k_=>gT rfl rfl (p_cmp rfl rfl rfl dn))<|dS (fun _ k_=>p_pkF rfl (rfl:_=B (((lookL a0.by_ (Ticket_seat.mk r24.Trip r24.Walker)).getD 0) != (shlI 1 r24.Ticket))) dn) ?_
   intro w41 k42; have S43:=S35.call k42
   refine wp_nil ?_
   refine c_cond rfl (fun c44=>?_) (fun c44=>?_)
   ·replace H:=condT c44 H
    refine c_seq<|reg<|p_aB rfl<|wp_nil ?_
    obtain rfl:=sJ H
    exact c_ret (rT Tryd.f89 S43.keep rfl rfl)
   ·replace H:=condF c44 H
    refine c_skip<|c_seq<|reg<|p_fld fl92_0 rfl<|p_fld fl29_3 rfl<|p_ld ty26 (S43.atX (i:=2) rfl) rfl rfl<|p_mI rfl ?_
    obtain ⟨r45,h46,H⟩:=bindS H
    refine p_cutH sc26 h46 (S43.atP (i:=2) rfl) rfl rfl ?_
    refine o_fun (rfl:_=[]) (rfl:_=[P b26 0]) ?_
    obtain ⟨r48,h49,H⟩:=bindS H
    refine p_cv (sl_ContainsFunc_api_TicketShow_api_TicketShow_ok h49 (rd_cutH h46 (S43.atP (i:=2) rfl)) (by kernel_rfl) (fun _ _ _ k_ hr_=>ticket_book_clear_1_ok hr_ (aS (S43.atX (i:=1) rfl) k_))) fu102 rfl S43 fun w50 S51=>wp_nil ?_
    refine c_cond rfl (fun c52=>?_) (fun c52=>?_)
    ·replace H:=condT c52 H
     refine c_seq<|reg<|p_aB rfl<|wp_nil ?_
     obtain rfl:=sJ H
     exact c_ret (rT Tryd.f89 S51.keep rfl rfl)
    ·replace H:=condF c52 H
     refine c_skip<|reg<|p_add rfl rfl<|p_mI rfl<|wp_nil ?_
     have S53:=S51.pk [2] (by decide) [0,1,2,3,4,5] rfl rfl
     exact ⟨wr (z_1+1),(),_,rfl,⟨rfl,rfl,rfl,rfl,trivial⟩,H,S53⟩
 ·replace H:=condF c23 H
  refine c_exit<|c_seq<|reg<|p_aB rfl<|wp_nil ?_
  obtain rfl:=sJ H
  exact c_ret (rT Tryd.f89 S22.keep rfl rfl)
def sl_IndexFunc_api_TicketBox_api_TicketBox_l1 (a0:List TicketBox) (a1:TicketBox→Option Bool) (rec_z_1:Int→Option Int) (z_1:Int):Option Int:=
 bif decide (z_1 < (a0.length:Int)) then ((getI a0 z_1).bind fun r16=>
 (a1 r16).bind fun r18=>
 bif r18 then (some z_1)
 else (rec_z_1 (wr (z_1+1))))
 else (some (-1))
def sl_IndexFunc_api_TicketBox_api_TicketBox (a0:List TicketBox) (a1:TicketBox→Option Bool):Option Int:=
 loopF (sl_IndexFunc_api_TicketBox_api_TicketBox_l1 a0 a1) big 0
set_option maxRecDepth 100000 in
theorem sl_IndexFunc_api_TicketBox_api_TicketBox_ok {a0:List TicketBox}{a1:TicketBox→Option Bool}{A1:Option Addr}{c2:Nat}{f4:Nat}{cp5:List Value}{w:World}{r:Int} (H:sl_IndexFunc_api_TicketBox_api_TicketBox a0 a1=some r) (h3:(rd eTicketBox 4 A1 c2 a0).ok w) (hF6:funOf Tryd.prog f4=true) (hw7:∀ (y8:TicketBox) (w10:World) (y9:Bool),Keep0 w w10→a1 y8=some y9→Calls Tryd.prog f4 (List.toArray ([AG [I y8.From,I y8.To,I y8.Pence,I y8.Lost]]++cp5)) w10 (RetV w10 (B y9))):Calls Tryd.prog 110 #[SL A1 a0.length c2,vF (.func f4) #[] cp5.toArray] w (RetV w (I r)):=by
 unfold sl_IndexFunc_api_TicketBox_api_TicketBox at H
 refine fn_of (n:=19) Tryd.func110 rfl rfl (lE rfl) ?_
 have S:=St.start w nF _ (cA h3 nM)
 refine c_seq<|reg<|p_aI rfl<|wp_nil<|c_seq<|c_seq<|reg<|p_mS rfl<|p_len rfl sc27<|p_mI rfl<|wp_nil<|c_block ?_
 refine c_lop (α:=Int) (β:=Unit) (sl_IndexFunc_api_TicketBox_api_TicketBox_l1 a0 a1) (fun z_1 y_1=>[(0,SL A1 a0.length c2),(1,vF (.func f4) #[] cp5.toArray),(7,I (a0.length:Int)),(8,I z_1)]) (fun z_1 y_1 w_=>St w nF w_ [] [rd eTicketBox 4 A1 c2 a0]) 0 () H ⟨rfl,rfl,rfl,rfl,trivial⟩ S ?_
 intro m11 z_1 y_1 e12 w13 H S14
 unfold sl_IndexFunc_api_TicketBox_api_TicketBox_l1 at H
 refine c_seq<|reg<|p_cmp rfl rfl rfl<|wp_nil<|c_seq ?_
 refine c_cond rfl (fun c15=>?_) (fun c15=>?_)
 ·replace H:=condT c15 H
  refine c_skip<|c_seq<|c_block<|c_seq<|reg<|p_mI rfl<|p_aI rfl<|wp_nil<|c_seq<|reg<|p_mov (rfl:_=vF (.func f4) #[] cp5.toArray)<|p_mS rfl<|p_mI rfl ?_
  obtain ⟨r16,h17,H⟩:=bindS H
  refine p_ixE sc27 h17 (S14.atP (i:=0) rfl).1 rfl rfl rfl<|p_ldEA ty72 sz72 rfl h17 (S14.atP (i:=0) rfl).1 rfl ?_
  obtain ⟨r18,h19,H⟩:=bindS H
  refine p_cv (hw7 _ _ _ S14.keep h19) hF6 rfl S14 ?_
  intro w20 S21
  refine wp_nil ?_
  refine c_cond rfl (fun c22=>?_) (fun c22=>?_)
  ·replace H:=condT c22 H
   refine c_seq<|reg<|p_mI rfl<|p_aI rfl<|wp_nil ?_
   obtain rfl:=sJ H
   exact c_ret (rT Tryd.f110 S21.keep rfl rfl)
  ·replace H:=condF c22 H
   refine c_skip<|reg<|p_add rfl rfl<|p_mI rfl<|wp_nil ?_
   exact ⟨wr (z_1+1),(),_,rfl,⟨rfl,rfl,rfl,rfl,trivial⟩,H,S21⟩
 ·replace H:=condF c15 H
  refine c_exit<|c_seq<|reg<|p_aI rfl<|wp_nil ?_
  obtain rfl:=sJ H
  exact c_ret (rT Tryd.f110 S14.keep rfl rfl)
def sl_ContainsFunc_api_TicketBox_api_TicketBox (a0:List TicketBox) (a1:TicketBox→Option Bool):Option Bool:=
 (sl_IndexFunc_api_TicketBox_api_TicketBox a0 a1).bind fun r11=>
 some (decide (r11≥0))
set_option maxRecDepth 100000 in
theorem sl_ContainsFunc_api_TicketBox_api_TicketBox_ok {a0:List TicketBox}{a1:TicketBox→Option Bool}{A1:Option Addr}{c2:Nat}{f4:Nat}{cp5:List Value}{w:World}{r:Bool} (H:sl_ContainsFunc_api_TicketBox_api_TicketBox a0 a1=some r) (h3:(rd eTicketBox 4 A1 c2 a0).ok w) (hF6:funOf Tryd.prog f4=true) (hw7:∀ (y8:TicketBox) (w10:World) (y9:Bool),Keep0 w w10→a1 y8=some y9→Calls Tryd.prog f4 (List.toArray ([AG [I y8.From,I y8.To,I y8.Pence,I y8.Lost]]++cp5)) w10 (RetV w10 (B y9))):Calls Tryd.prog 104 #[SL A1 a0.length c2,vF (.func f4) #[] cp5.toArray] w (RetV w (B r)):=by
 unfold sl_ContainsFunc_api_TicketBox_api_TicketBox at H
 refine fn_of (n:=9) Tryd.func104 rfl rfl (lE rfl) ?_
 have S:=St.start w nF _ (cA h3 nM)
 refine c_seq<|reg<|p_aB rfl<|wp_nil<|c_seq<|reg<|p_mS rfl<|p_mov (rfl:_=vF (.func f4) #[] cp5.toArray) ?_
 obtain ⟨r11,h12,H⟩:=bindS H
 refine p_cv (sl_IndexFunc_api_TicketBox_api_TicketBox_ok h12 (S.atP (i:=0) rfl) hF6 hw7) fu110 rfl S fun w13 S14=>p_cmp rfl rfl rfl<|p_aB rfl<|wp_nil ?_
 obtain rfl:=sJ H
 exact c_ret (rT Tryd.f104 S14.keep rfl rfl)
def bits_OnesCount64 (a0:Int):Option Int:=
 need (decide (0≤1))<|
 need (decide (0≤2))<|
 need (decide (0≤4))<|
 need (decide (0≤8))<|
 need (decide (0≤16))<|
 need (decide (0≤32))<|
 some (andI (wrK .i64 (wrK .u64 ((wrK .u64 ((wrK .u64 ((andK .u64 (wrK .u64 ((shrK .u64 (wrK .u64 ((andK .u64 (shrK .u64 (wrK .u64 ((andK .u64 (shrK .u64 a0 1) 6148914691236517205)+(andK .u64 a0 6148914691236517205))) 2) 3689348814741910323)+(andK .u64 (wrK .u64 ((andK .u64 (shrK .u64 a0 1) 6148914691236517205)+(andK .u64 a0 6148914691236517205))) 3689348814741910323))) 4)+(wrK .u64 ((andK .u64 (shrK .u64 (wrK .u64 ((andK .u64 (shrK .u64 a0 1) 6148914691236517205)+(andK .u64 a0 6148914691236517205))) 2) 3689348814741910323)+(andK .u64 (wrK .u64 ((andK .u64 (shrK .u64 a0 1) 6148914691236517205)+(andK .u64 a0 6148914691236517205))) 3689348814741910323))))) 1085102592571150095)+(shrK .u64 (andK .u64 (wrK .u64 ((shrK .u64 (wrK .u64 ((andK .u64 (shrK .u64 (wrK .u64 ((andK .u64 (shrK .u64 a0 1) 6148914691236517205)+(andK .u64 a0 6148914691236517205))) 2) 3689348814741910323)+(andK .u64 (wrK .u64 ((andK .u64 (shrK .u64 a0 1) 6148914691236517205)+(andK .u64 a0 6148914691236517205))) 3689348814741910323))) 4)+(wrK .u64 ((andK .u64 (shrK .u64 (wrK .u64 ((andK .u64 (shrK .u64 a0 1) 6148914691236517205)+(andK .u64 a0 6148914691236517205))) 2) 3689348814741910323)+(andK .u64 (wrK .u64 ((andK .u64 (shrK .u64 a0 1) 6148914691236517205)+(andK .u64 a0 6148914691236517205))) 3689348814741910323))))) 1085102592571150095) 8)))+(shrK .u64 (wrK .u64 ((andK .u64 (wrK .u64 ((shrK .u64 (wrK .u64 ((andK .u64 (shrK .u64 (wrK .u64 ((andK .u64 (shrK .u64 a0 1) 6148914691236517205)+(andK .u64 a0 6148914691236517205))) 2) 3689348814741910323)+(andK .u64 (wrK .u64 ((andK .u64 (shrK .u64 a0 1) 6148914691236517205)+(andK .u64 a0 6148914691236517205))) 3689348814741910323))) 4)+(wrK .u64 ((andK .u64 (shrK .u64 (wrK .u64 ((andK .u64 (shrK .u64 a0 1) 6148914691236517205)+(andK .u64 a0 6148914691236517205))) 2) 3689348814741910323)+(andK .u64 (wrK .u64 ((andK .u64 (shrK .u64 a0 1) 6148914691236517205)+(andK .u64 a0 6148914691236517205))) 3689348814741910323))))) 1085102592571150095)+(shrK .u64 (andK .u64 (wrK .u64 ((shrK .u64 (wrK .u64 ((andK .u64 (shrK .u64 (wrK .u64 ((andK .u64 (shrK .u64 a0 1) 6148914691236517205)+(andK .u64 a0 6148914691236517205))) 2) 3689348814741910323)+(andK .u64 (wrK .u64 ((andK .u64 (shrK .u64 a0 1) 6148914691236517205)+(andK .u64 a0 6148914691236517205))) 3689348814741910323))) 4)+(wrK .u64 ((andK .u64 (shrK .u64 (wrK .u64 ((andK .u64 (shrK .u64 a0 1) 6148914691236517205)+(andK .u64 a0 6148914691236517205))) 2) 3689348814741910323)+(andK .u64 (wrK .u64 ((andK .u64 (shrK .u64 a0 1) 6148914691236517205)+(andK .u64 a0 6148914691236517205))) 3689348814741910323))))) 1085102592571150095) 8))) 16)))+(shrK .u64 (wrK .u64 ((wrK .u64 ((andK .u64 (wrK .u64 ((shrK .u64 (wrK .u64 ((andK .u64 (shrK .u64 (wrK .u64 ((andK .u64 (shrK .u64 a0 1) 6148914691236517205)+(andK .u64 a0 6148914691236517205))) 2) 3689348814741910323)+(andK .u64 (wrK .u64 ((andK .u64 (shrK .u64 a0 1) 6148914691236517205)+(andK .u64 a0 6148914691236517205))) 3689348814741910323))) 4)+(wrK .u64 ((andK .u64 (shrK .u64 (wrK .u64 ((andK .u64 (shrK .u64 a0 1) 6148914691236517205)+(andK .u64 a0 6148914691236517205))) 2) 3689348814741910323)+(andK .u64 (wrK .u64 ((andK .u64 (shrK .u64 a0 1) 6148914691236517205)+(andK .u64 a0 6148914691236517205))) 3689348814741910323))))) 1085102592571150095)+(shrK .u64 (andK .u64 (wrK .u64 ((shrK .u64 (wrK .u64 ((andK .u64 (shrK .u64 (wrK .u64 ((andK .u64 (shrK .u64 a0 1) 6148914691236517205)+(andK .u64 a0 6148914691236517205))) 2) 3689348814741910323)+(andK .u64 (wrK .u64 ((andK .u64 (shrK .u64 a0 1) 6148914691236517205)+(andK .u64 a0 6148914691236517205))) 3689348814741910323))) 4)+(wrK .u64 ((andK .u64 (shrK .u64 (wrK .u64 ((andK .u64 (shrK .u64 a0 1) 6148914691236517205)+(andK .u64 a0 6148914691236517205))) 2) 3689348814741910323)+(andK .u64 (wrK .u64 ((andK .u64 (shrK .u64 a0 1) 6148914691236517205)+(andK .u64 a0 6148914691236517205))) 3689348814741910323))))) 1085102592571150095) 8)))+(shrK .u64 (wrK .u64 ((andK .u64 (wrK .u64 ((shrK .u64 (wrK .u64 ((andK .u64 (shrK .u64 (wrK .u64 ((andK .u64 (shrK .u64 a0 1) 6148914691236517205)+(andK .u64 a0 6148914691236517205))) 2) 3689348814741910323)+(andK .u64 (wrK .u64 ((andK .u64 (shrK .u64 a0 1) 6148914691236517205)+(andK .u64 a0 6148914691236517205))) 3689348814741910323))) 4)+(wrK .u64 ((andK .u64 (shrK .u64 (wrK .u64 ((andK .u64 (shrK .u64 a0 1) 6148914691236517205)+(andK .u64 a0 6148914691236517205))) 2) 3689348814741910323)+(andK .u64 (wrK .u64 ((andK .u64 (shrK .u64 a0 1) 6148914691236517205)+(andK .u64 a0 6148914691236517205))) 3689348814741910323))))) 1085102592571150095)+(shrK .u64 (andK .u64 (wrK .u64 ((shrK .u64 (wrK .u64 ((andK .u64 (shrK .u64 (wrK .u64 ((andK .u64 (shrK .u64 a0 1) 6148914691236517205)+(andK .u64 a0 6148914691236517205))) 2) 3689348814741910323)+(andK .u64 (wrK .u64 ((andK .u64 (shrK .u64 a0 1) 6148914691236517205)+(andK .u64 a0 6148914691236517205))) 3689348814741910323))) 4)+(wrK .u64 ((andK .u64 (shrK .u64 (wrK .u64 ((andK .u64 (shrK .u64 a0 1) 6148914691236517205)+(andK .u64 a0 6148914691236517205))) 2) 3689348814741910323)+(andK .u64 (wrK .u64 ((andK .u64 (shrK .u64 a0 1) 6148914691236517205)+(andK .u64 a0 6148914691236517205))) 3689348814741910323))))) 1085102592571150095) 8))) 16))) 32)))) 127)
set_option maxRecDepth 100000 in
theorem bits_OnesCount64_ok {a0:Int}{w:World}{r:Int} (H:bits_OnesCount64 a0=some r):Calls Tryd.prog 101 #[Value.int .u64 a0] w (RetV w (I r)):=by
 unfold bits_OnesCount64 at H
 refine fn_of (n:=35) Tryd.func101 rfl rfl (lE rfl) ?_
 have S:=St.start w nF _ nM
 refine c_seq<|reg<|p_aI rfl<|wp_nil<|c_seq<|reg<|p_mI rfl ?_
 obtain ⟨h1,H⟩:=needS H
 refine p_shrK h1 rfl rfl<|p_andK rfl rfl<|p_mI rfl<|p_andK rfl rfl<|p_addK rfl rfl<|p_aI rfl<|wp_nil<|c_seq<|reg<|p_mI rfl ?_
 obtain ⟨h2,H⟩:=needS H
 refine p_shrK h2 rfl rfl<|p_andK rfl rfl<|p_mI rfl<|p_andK rfl rfl<|p_addK rfl rfl<|p_aI rfl<|wp_nil<|c_seq<|reg<|p_mI rfl ?_
 obtain ⟨h3,H⟩:=needS H
 refine p_shrK h3 rfl rfl<|p_mI rfl<|p_addK rfl rfl<|p_andK rfl rfl<|p_aI rfl<|wp_nil<|c_seq<|reg<|p_mI rfl<|p_mI rfl ?_
 obtain ⟨h4,H⟩:=needS H
 refine p_shrK h4 rfl rfl<|p_addK rfl rfl<|p_aI rfl<|wp_nil<|c_seq<|reg<|p_mI rfl<|p_mI rfl ?_
 obtain ⟨h5,H⟩:=needS H
 refine p_shrK h5 rfl rfl<|p_addK rfl rfl<|p_aI rfl<|wp_nil<|c_seq<|reg<|p_mI rfl<|p_mI rfl ?_
 obtain ⟨h6,H⟩:=needS H
 refine p_shrK h6 rfl rfl<|p_addK rfl rfl<|p_aI rfl<|wp_nil<|c_seq<|reg<|p_mI rfl<|p_conv un151 un3 rfl<|p_andI rfl rfl<|p_aI rfl<|wp_nil ?_
 obtain rfl:=sJ H
 exact c_ret (rT Tryd.f101 S.keep rfl rfl)
def bits_OnesCount (a0:Int):Option Int:=
 (bits_OnesCount64 a0).bind fun r1=>
 some r1
set_option maxRecDepth 100000 in
theorem bits_OnesCount_ok {a0:Int}{w:World}{r:Int} (H:bits_OnesCount a0=some r):Calls Tryd.prog 86 #[Value.int .u64 a0] w (RetV w (I r)):=by
 unfold bits_OnesCount at H
 refine fn_of (n:=8) Tryd.func86 rfl rfl (lE rfl) ?_
 have S:=St.start w nF _ nM
 refine c_seq<|reg<|p_aI rfl<|wp_nil<|c_seq<|c_false rfl<|c_skip<|c_seq<|reg<|p_mI rfl ?_
 obtain ⟨r1,h2,H⟩:=bindS H
 refine p_cv (bits_OnesCount64_ok h2) fu101 rfl S fun w3 S4=>p_aI rfl<|wp_nil ?_
 obtain rfl:=sJ H
 exact c_ret (rT Tryd.f86 S4.keep rfl rfl)
def ticket_sum_int_l1 (a0:List Int) (rec_z_1:(Int×Int)→Option Int) (z_1:Int×Int):Option Int:=
 bif decide (z_1.2 < (a0.length:Int)) then ((getI a0 z_1.2).bind fun r9=>
 rec_z_1 (wr (z_1.1+r9),wr (z_1.2+1)))
 else (some z_1.1)
def ticket_sum_int (a0:List Int):Option Int:=
 loopF (ticket_sum_int_l1 a0) big (0,0)
set_option maxRecDepth 100000 in
theorem ticket_sum_int_ok {a0:List Int}{A1:Option Addr}{c2:Nat}{w:World}{r:Int} (H:ticket_sum_int a0=some r) (h3:(rd intE 1 A1 c2 a0).ok w):Calls Tryd.prog 87 #[SL A1 a0.length c2] w (RetV w (I r)):=by
 unfold ticket_sum_int at H
 refine fn_of (n:=17) Tryd.func87 rfl rfl (lE rfl) ?_
 have S:=St.start w nF _ (cA h3 nM)
 refine c_seq<|reg<|p_aI rfl<|wp_nil<|c_seq<|reg<|p_aI rfl<|wp_nil<|c_seq<|c_seq<|reg<|p_mS rfl<|p_len rfl sc30<|p_mI rfl<|wp_nil<|c_block ?_
 refine c_lop (α:=Int×Int) (β:=Unit) (ticket_sum_int_l1 a0) (fun z_1 y_1=>[(3,I z_1.1),(6,SL A1 a0.length c2),(7,I (a0.length:Int)),(8,I z_1.2)]) (fun z_1 y_1 w_=>St w nF w_ [] [rd intE 1 A1 c2 a0]) (0,0) () H ⟨rfl,rfl,rfl,rfl,trivial⟩ S ?_
 intro m4 z_1 y_1 e5 w6 H S7
 unfold ticket_sum_int_l1 at H
 refine c_seq<|reg<|p_cmp rfl rfl rfl<|wp_nil<|c_seq ?_
 refine c_cond rfl (fun c8=>?_) (fun c8=>?_)
 ·replace H:=condT c8 H
  refine c_skip<|c_seq<|c_block<|c_seq<|reg ?_
  obtain ⟨r9,h10,H⟩:=bindS H
  refine p_ixE sc30 h10 (S7.atP (i:=0) rfl).1 rfl rfl rfl<|p_ldE ty3 h10 (S7.atP (i:=0) rfl).1 rfl rfl<|p_aI rfl<|wp_nil<|reg<|p_mI rfl<|p_mI rfl<|p_add rfl rfl<|p_aI rfl<|wp_nil<|reg<|p_add rfl rfl<|p_mI rfl<|wp_nil ?_
  exact ⟨(wr (z_1.1+r9),wr (z_1.2+1)),(),_,rfl,⟨rfl,rfl,rfl,rfl,trivial⟩,H,S7⟩
 ·replace H:=condF c8 H
  refine c_exit<|c_seq<|reg<|p_mI rfl<|p_aI rfl<|wp_nil ?_
  obtain rfl:=sJ H
  exact c_ret (rT Tryd.f87 S7.keep rfl rfl)
structure Ticket_truth where
 crossed_:List Int
 used_:List Int
 deriving DecidableEq,Inhabited
def ticket_truth_paid_l1 (a2:Int) (a0:Ticket_truth) (rec_z_1:((List Int)×Int)→Option Int) (z_1:(List Int)×Int):Option Int:=
 bif decide (z_1.2≤a2) then (need (inI z_1.2 3)<|
 need (inI z_1.2 3)<|
 (bits_OnesCount (wrK .u64 (aget a0.used_ z_1.2))).bind fun r12=>
 need (fitsL (z_1.1.length+([wr ((aget a0.crossed_ z_1.2) - r12)]:List Int).length) 8)<|
 rec_z_1 (z_1.1++([wr ((aget a0.crossed_ z_1.2) - r12)]:List Int),wr (z_1.2+1)))
 else ((ticket_sum_int z_1.1).bind fun r32=>
 some r32)
def ticket_truth_paid (a0:Ticket_truth) (a1:Int) (a2:Int):Option Int:=
 loopF (ticket_truth_paid_l1 a2 a0) big (([]:List Int),a1)
set_option maxRecDepth 100000 in
theorem ticket_truth_paid_ok {a0:Ticket_truth}{a1:Int}{a2:Int}{w:World}{r:Int} (H:ticket_truth_paid a0 a1 a2=some r):Calls Tryd.prog 62 #[AG (sg a0.crossed_ 3++sg a0.used_ 3),I a1,I a2] w (RetV w (I r)):=by
 unfold ticket_truth_paid at H
 refine fn_of (n:=31) Tryd.func62 rfl rfl (lE rfl) ?_
 have S:=St.start w nF _ nM
 refine c_seq<|reg<|p_boxA rfl S fun b1 w2 S3=>p_aI rfl<|wp_nil<|c_seq<|reg<|p_aS rfl<|wp_nil<|c_seq<|c_seq<|reg<|p_mI rfl<|p_aI rfl<|wp_nil<|c_block ?_
 have S4:=S3.nilRow intE 1 3
 refine c_lop (α:=(List Int)×Int) (β:=(Option Addr)×Nat) (ticket_truth_paid_l1 a2 a0) (fun z_1 y_1=>[(2,I a2),(3,P b1 0),(7,SL y_1.1 z_1.1.length y_1.2),(8,I z_1.2)]) (fun z_1 y_1 w_=>St w nF w_ [gr intE 1 3 y_1.1 y_1.2 z_1.1,bl b1 (sg a0.crossed_ 3++sg a0.used_ 3) 105] []) (([]:List Int),a1) (none,0) H ⟨rfl,rfl,rfl,rfl,trivial⟩ S4 ?_
 intro m5 z_1 y_1 e6 w7 H S8
 unfold ticket_truth_paid_l1 at H
 refine c_seq<|c_seq<|reg<|p_mI rfl<|p_mI rfl<|p_cmp rfl rfl rfl<|wp_nil ?_
 refine c_cond rfl (fun c9=>?_) (fun c9=>?_)
 ·replace H:=condT c9 H
  refine c_skip<|c_seq<|c_block ?_
  obtain ⟨h10,H⟩:=needS H
  obtain ⟨h11,H⟩:=needS H
  obtain ⟨r12,h13,H⟩:=bindS H
  refine reg_c mixed 13 [12] (by kernel_rfl) ?_
  refine kS rfl (fun _ k_=>p_mS rfl dn)<|kS rfl (fun _ k_=>p_mI rfl dn)<|kS rfl (fun _ k_=>p_fld fl105_0 rfl dn)<|kS rfl (fun _ k_=>p_ixD ar31 h10 rfl rfl dn)<|kS rfl (fun _ k_=>p_ldD (pre:=[]) (post:=sg a0.used_ 3) ty3 (aS (S8.atX (i:=1) rfl) k_) rfl h10 rfl rfl dn)<|kS rfl (fun _ k_=>p_mI rfl dn)<|kS rfl (fun _ k_=>p_fld fl105_1 rfl dn)<|kS rfl (fun _ k_=>p_ixD ar31 h11 rfl rfl dn) ?_
  refine kS rfl (fun _ k_=>p_ldD (pre:=sg a0.crossed_ 3) (post:=[]) ty3 (aS (S8.atX (i:=1) rfl) k_) rfl h11 rfl rfl dn)<|kS rfl (fun _ k_=>p_conv un3 un130 rfl dn)<|kS rfl (fun _ k_=>p_cvD (bits_OnesCount_ok h13) fu86 rfl)<|kS rfl (fun _ k_=>p_sub rfl rfl dn)<|kC rfl ?_
  intro w14 k15; have S16:=S8.call k15
  have S22:=S16.base
  refine p_bsl (enc:=intE) (l:=([wr ((aget a0.crossed_ z_1.2) - r12)]:List Int)) I (fun _=>rfl) sc30 in3 intE_len rfl (by decide) (by decide) zr3_1 S22 rfl fun A17 c18 w19 S20=>?_
  refine cN S20.keep fun w23 k24=>?_
  have S25:=(S16.fromBase S20).call k24
  obtain ⟨h30,H⟩:=needS H
  refine p_app (enc:=intE) sc30 in3 rfl intE_len intE_one (by decide) S25 (k:=1) rfl (gr_sl intE_len (S25.atX (i:=0) rfl)) h30 (by simp) rfl rfl fun A28 c29 w26 S27=>p_aS rfl<|wp_nil<|reg<|p_mI rfl<|p_add rfl rfl<|p_aI rfl<|wp_nil ?_
  have S31:=S27.pk [1,2] (by decide) [] rfl rfl
  exact ⟨(z_1.1++([wr ((aget a0.crossed_ z_1.2) - r12)]:List Int),wr (z_1.2+1)),(A28,c29),_,rfl,⟨rfl,rfl,rfl,rfl,trivial⟩,H,S31⟩
 ·replace H:=condF c9 H
  refine c_exit<|c_seq<|reg<|p_mS rfl ?_
  obtain ⟨r32,h33,H⟩:=bindS H
  refine p_cv (ticket_sum_int_ok h33 (gr_rd intE_len (S8.atX (i:=0) rfl))) fu87 rfl S8 fun w34 S35=>p_aI rfl<|wp_nil ?_
  obtain rfl:=sJ H
  exact c_ret (rT Tryd.f62 S35.keep rfl rfl)
def ticket_within (a0:Int) (a1:Int) (a2:Int):Option Bool:=
 bif decide (a1≤a0) then (some (decide (a0≤a2)))
 else (some false)
set_option maxRecDepth 100000 in
theorem ticket_within_ok {a0:Int}{a1:Int}{a2:Int}{w:World}{r:Bool} (H:ticket_within a0 a1 a2=some r):Calls Tryd.prog 71 #[I a0,I a1,I a2] w (RetV w (B r)):=by
 unfold ticket_within at H
 refine fn_of (n:=15) Tryd.func71 rfl rfl (lE rfl) ?_
 have S:=St.start w nF _ nM
 refine c_seq<|reg<|p_aB rfl<|wp_nil<|c_seq<|reg<|p_mI rfl<|p_mI rfl<|p_cmp rfl rfl rfl<|p_mB rfl ?_
 rcases bE (decide (a1≤a0)) with c1 | c1
 ·replace H:=condT c1 H
  refine eB c1 ?_
  refine gT rfl rfl (p_mI rfl ?_)
  refine gT rfl rfl (p_mI rfl ?_)
  refine gT rfl rfl (p_cmp rfl rfl rfl ?_)
  refine p_pkT rfl (rfl:_=B (decide (a0≤a2)))<|p_aB rfl<|wp_nil ?_
  obtain rfl:=sJ H
  exact c_ret (rT Tryd.f71 S.keep rfl rfl)
 ·replace H:=condF c1 H
  refine eB c1<|gF rfl rfl<|gF rfl rfl<|gF rfl rfl<|p_pkF rfl (rfl:_=B false)<|p_aB rfl<|wp_nil ?_
  obtain rfl:=sJ H
  exact c_ret (rT Tryd.f71 S.keep rfl rfl)
def ticket_book_fits (a0:Ticket_book) (a1:Ticket_truth) (a2:TicketBox):Option Bool:=
 (ticket_truth_paid a1 a2.From a2.To).bind fun r24=>
 (ticket_within (wr (r24*a0.TicketBook.Fare)) a2.Pence (wr (a2.Pence+a2.Lost))).bind fun r26=>
 some r26
set_option maxRecDepth 100000 in
theorem ticket_book_fits_ok {a0:Ticket_book}{a1:Ticket_truth}{a2:TicketBox}{A1:Option Addr}{c2:Nat}{A4:Option Addr}{c5:Nat}{A7:Option Addr}{c8:Nat}{A10:Option Addr}{c11:Nat}{m13:Option Nat}{w:World}{r:Bool} (H:ticket_book_fits a0 a1 a2=some r) (h3:(rd eTallyCount 7 A1 c2 a0.TicketBook.Tally.Counts).ok w) (h6:(rd eTicketSeason 2 A4 c5 a0.TicketBook.Tickets).ok w) (h9:(rd eTicketShow 3 A7 c8 a0.TicketBook.Shows).ok w) (h12:(rd eTicketBox 4 A10 c11 a0.TicketBook.Boxes).ok w) (h14:(mpo ekS iE m13 a0.by_).ok w):Calls Tryd.prog 70 #[AG ((vB a0.TicketBook A1 c2 A4 c5 A7 c8 A10 c11)++(sg a0.shown_ 3++[Value.map m13])),AG (sg a1.crossed_ 3++sg a1.used_ 3),AG [I a2.From,I a2.To,I a2.Pence,I a2.Lost]] w (RetV w (B r)):=by
 unfold ticket_book_fits at H
 refine fn_of (n:=25) Tryd.func70 rfl rfl (lE rfl) ?_
 have S:=St.start w nF _ (cA h3 (cA h6 (cA h9 (cA h12 (cA h14 nM)))))
 refine c_seq<|reg<|p_boxA rfl S fun b15 w16 S17=>p_boxA rfl S17 fun b18 w19 S20=>p_boxA rfl S20 fun b21 w22 S23=>p_aB rfl<|wp_nil<|c_seq ?_
 obtain ⟨r24,h25,H⟩:=bindS H
 obtain ⟨r26,h27,H⟩:=bindS H
 refine reg_q mixed 19 (by kernel_rfl) ?_
 refine dS (fun _ k_=>p_ldA ty105 sz105 (aS (S23.atX (i:=1) rfl) k_) rfl rfl dn)<|dS (fun _ k_=>p_fld fl72_0 rfl dn)<|dS (fun _ k_=>p_ld ty3 (aS (S23.atX (i:=0) rfl) k_) rfl rfl dn)<|dS (fun _ k_=>p_fld fl72_1 rfl dn)<|dS (fun _ k_=>p_ld ty3 (aS (S23.atX (i:=0) rfl) k_) rfl rfl dn)<|dS (fun _ k_=>p_cvD (ticket_truth_paid_ok h25) fu62 rfl)<|dS (fun _ k_=>p_fld fl92_0 rfl dn) ?_
 refine dS (fun _ k_=>p_fld fl29_1 rfl dn)<|dS (fun _ k_=>p_ld ty3 (aS (S23.atX (i:=2) rfl) k_) rfl rfl dn)<|dS (fun _ k_=>p_mul rfl rfl dn)<|dS (fun _ k_=>p_fld fl72_2 rfl dn)<|dS (fun _ k_=>p_ld ty3 (aS (S23.atX (i:=0) rfl) k_) rfl rfl dn)<|dS (fun _ k_=>p_fld fl72_2 rfl dn)<|dS (fun _ k_=>p_ld ty3 (aS (S23.atX (i:=0) rfl) k_) rfl rfl dn)<|dS (fun _ k_=>p_fld fl72_3 rfl dn) ?_
 refine dS (fun _ k_=>p_ld ty3 (aS (S23.atX (i:=0) rfl) k_) rfl rfl dn)<|dS (fun _ k_=>p_add rfl rfl dn)<|dS (fun _ k_=>p_cvD (ticket_within_ok h27) fu71 rfl)<|dS (fun _ k_=>p_aB rfl dn) ?_
 intro w28 k29; have S30:=S23.call k29
 refine wp_nil ?_
 obtain rfl:=sJ H
 exact c_ret (rT Tryd.f70 S30.keep rfl rfl)
def ticket_book_right_1 (a0:TicketBox) (q0:Int) (q1:Ticket_book) (q2:Ticket_truth):Option Bool:=
 bif (a0.To==q0) then ((ticket_book_fits q1 q2 a0).bind fun r25=>
 some (!r25))
 else (some false)
set_option maxRecDepth 100000 in
theorem ticket_book_right_1_ok {a0:TicketBox}{q0:Int}{q1:Ticket_book}{q2:Ticket_truth}{b1:Nat}{b2:Nat}{A5:Option Addr}{c6:Nat}{A8:Option Addr}{c9:Nat}{A11:Option Addr}{c12:Nat}{A14:Option Addr}{c15:Nat}{m17:Option Nat}{b3:Nat}{w:World}{r:Bool} (H:ticket_book_right_1 a0 q0 q1 q2=some r) (h20:(bl b3 (sg q2.crossed_ 3++sg q2.used_ 3) 105).ok w) (h19:(bl b2 ((vB q1.TicketBook A5 c6 A8 c9 A11 c12 A14 c15)++(sg q1.shown_ 3++[Value.map m17])) 92).ok w) (h4:(bl b1 [I q0] 3).ok w) (h7:(rd eTallyCount 7 A5 c6 q1.TicketBook.Tally.Counts).ok w) (h10:(rd eTicketSeason 2 A8 c9 q1.TicketBook.Tickets).ok w) (h13:(rd eTicketShow 3 A11 c12 q1.TicketBook.Shows).ok w) (h16:(rd eTicketBox 4 A14 c15 q1.TicketBook.Boxes).ok w) (h18:(mpo ekS iE m17 q1.by_).ok w):Calls Tryd.prog 105 #[AG [I a0.From,I a0.To,I a0.Pence,I a0.Lost],P b1 0,P b2 0,P b3 0] w (RetV w (B r)):=by
 unfold ticket_book_right_1 at H
 refine fn_of (n:=17) Tryd.func105 rfl rfl (lE rfl) ?_
 have S:=St.start w nF _ (cA h20 (cA h19 (cA h4 (cA h7 (cA h10 (cA h13 (cA h16 (cA h18 nM))))))))
 refine c_seq<|reg<|p_boxA rfl S fun b21 w22 S23=>p_aB rfl<|wp_nil<|c_seq<|reg<|p_fld fl72_1 rfl<|p_ld ty3 (S23.atX (i:=0) rfl) rfl rfl<|p_ld ty3 (S23.atP (i:=2) rfl) rfl rfl<|p_cmp rfl rfl rfl<|p_mB rfl ?_
 rcases bE ((a0.To==q0)) with c24 | c24
 ·replace H:=condT c24 H
  refine eB c24 ?_
  refine gT rfl rfl (p_ldA ty92 sz92 (S23.atP (i:=1) rfl) rfl rfl ?_)
  refine gT rfl rfl (p_ldA ty105 sz105 (S23.atP (i:=0) rfl) rfl rfl ?_)
  refine gT rfl rfl (p_ldA ty72 sz72 (S23.atX (i:=0) rfl) rfl rfl ?_)
  obtain ⟨r25,h26,H⟩:=bindS H
  refine gT rfl rfl (p_cv (ticket_book_fits_ok h26 (S23.atP (i:=3) rfl) (S23.atP (i:=4) rfl) (S23.atP (i:=5) rfl) (S23.atP (i:=6) rfl) (S23.atP (i:=7) rfl)) fu70 rfl S23 fun w27 S28=>?_)
  refine gT rfl rfl (p_not rfl ?_)
  refine p_pkT rfl (rfl:_=B (!r25))<|p_aB rfl<|wp_nil ?_
  obtain rfl:=sJ H
  exact c_ret (rT Tryd.f105 S28.keep rfl rfl)
 ·replace H:=condF c24 H
  refine eB c24<|gF rfl rfl<|gF rfl rfl<|gF rfl rfl<|gF rfl rfl<|gF rfl rfl<|p_pkF rfl (rfl:_=B false)<|p_aB rfl<|wp_nil ?_
  obtain rfl:=sJ H
  exact c_ret (rT Tryd.f105 S23.keep rfl rfl)
def ticket_book_right (a0:Ticket_book) (a1:Ticket_truth) (a2:Int):Option Bool:=
 (sl_ContainsFunc_api_TicketBox_api_TicketBox a0.TicketBook.Boxes (fun y24=>ticket_book_right_1 y24 a2 a0 a1)).bind fun r25=>
 some (!r25)
set_option maxRecDepth 100000 in
theorem ticket_book_right_ok {a0:Ticket_book}{a1:Ticket_truth}{a2:Int}{A1:Option Addr}{c2:Nat}{A4:Option Addr}{c5:Nat}{A7:Option Addr}{c8:Nat}{A10:Option Addr}{c11:Nat}{m13:Option Nat}{w:World}{r:Bool} (H:ticket_book_right a0 a1 a2=some r) (h3:(rd eTallyCount 7 A1 c2 a0.TicketBook.Tally.Counts).ok w) (h6:(rd eTicketSeason 2 A4 c5 a0.TicketBook.Tickets).ok w) (h9:(rd eTicketShow 3 A7 c8 a0.TicketBook.Shows).ok w) (h12:(rd eTicketBox 4 A10 c11 a0.TicketBook.Boxes).ok w) (h14:(mpo ekS iE m13 a0.by_).ok w):Calls Tryd.prog 90 #[AG ((vB a0.TicketBook A1 c2 A4 c5 A7 c8 A10 c11)++(sg a0.shown_ 3++[Value.map m13])),AG (sg a1.crossed_ 3++sg a1.used_ 3),I a2] w (RetV w (B r)):=by
 unfold ticket_book_right at H
 refine fn_of (n:=13) Tryd.func90 rfl rfl (lE rfl) ?_
 have S:=St.start w nF _ (cA h3 (cA h6 (cA h9 (cA h12 (cA h14 nM)))))
 refine c_seq<|reg<|p_boxA rfl S fun b15 w16 S17=>p_boxA rfl S17 fun b18 w19 S20=>p_box (rfl:_=I a2) rfl S20 fun b21 w22 S23=>p_aB rfl<|wp_nil<|c_seq<|reg<|p_fld fl92_0 rfl<|p_fld fl29_4 rfl<|p_ld ty27 (S23.atX (i:=2) rfl) rfl rfl ?_
 refine o_fun (rfl:_=[]) (rfl:_=[P b21 0,P b15 0,P b18 0]) ?_
 obtain ⟨r25,h26,H⟩:=bindS H
 refine p_cv (sl_ContainsFunc_api_TicketBox_api_TicketBox_ok h26 (S23.atP (i:=3) rfl) (by kernel_rfl) (fun _ _ _ k_ hr_=>ticket_book_right_1_ok hr_ (aS (S23.atX (i:=1) rfl) k_) (aS (S23.atX (i:=2) rfl) k_) (aS (S23.atX (i:=0) rfl) k_) (aS (S23.atP (i:=0) rfl) k_) (aS (S23.atP (i:=1) rfl) k_) (aS (S23.atP (i:=2) rfl) k_) (aS (S23.atP (i:=3) rfl) k_) (aS (S23.atP (i:=4) rfl) k_))) fu104 rfl S23 fun w27 S28=>?_
 refine p_not rfl<|p_aB rfl<|wp_nil ?_
 obtain rfl:=sJ H
 exact c_ret (rT Tryd.f90 S28.keep rfl rfl)
def ticket_book_valid_l2 (a0:Ticket_book) (a1:Int) (a2:Int) (rec_z_1:Int→Option Bool) (z_1:Int):Option Bool:=
 bif decide (z_1 < (a0.TicketBook.Tickets.length:Int)) then ((getI a0.TicketBook.Tickets z_1).bind fun r23=>
 need (decide (0≤z_1))<|
 bif ((andI (shrI a1 z_1) 1)==1) then ((ticket_within a2 r23.From r23.To).bind fun r32=>
 bif !r32 then (some false)
 else (rec_z_1 (wr (z_1+1))))
 else (rec_z_1 (wr (z_1+1))))
 else (need (decide (0≤(a0.TicketBook.Tickets.length:Int)))<|
 some ((shrI a1 (a0.TicketBook.Tickets.length:Int))==0))
def ticket_book_valid (a0:Ticket_book) (a1:Int) (a2:Int):Option Bool:=
 loopF (ticket_book_valid_l2 a0 a1 a2) big 0
set_option maxRecDepth 100000 in
theorem ticket_book_valid_ok {a0:Ticket_book}{a1:Int}{a2:Int}{A1:Option Addr}{c2:Nat}{A4:Option Addr}{c5:Nat}{A7:Option Addr}{c8:Nat}{A10:Option Addr}{c11:Nat}{m13:Option Nat}{w:World}{r:Bool} (H:ticket_book_valid a0 a1 a2=some r) (h3:(rd eTallyCount 7 A1 c2 a0.TicketBook.Tally.Counts).ok w) (h6:(rd eTicketSeason 2 A4 c5 a0.TicketBook.Tickets).ok w) (h9:(rd eTicketShow 3 A7 c8 a0.TicketBook.Shows).ok w) (h12:(rd eTicketBox 4 A10 c11 a0.TicketBook.Boxes).ok w) (h14:(mpo ekS iE m13 a0.by_).ok w):Calls Tryd.prog 92 #[AG ((vB a0.TicketBook A1 c2 A4 c5 A7 c8 A10 c11)++(sg a0.shown_ 3++[Value.map m13])),I a1,I a2] w (RetV w (B r)):=by
 unfold ticket_book_valid at H
 refine fn_of (n:=40) Tryd.func92 rfl rfl (lE rfl) ?_
 have S:=St.start w nF _ (cA h3 (cA h6 (cA h9 (cA h12 (cA h14 nM)))))
 refine c_seq<|reg<|p_boxA rfl S fun b15 w16 S17=>p_aB rfl<|wp_nil<|c_seq<|c_seq<|reg<|p_fld fl92_0 rfl<|p_fld fl29_2 rfl<|p_ld ty25 (S17.atX (i:=0) rfl) rfl rfl<|p_len rfl sc25<|p_mI rfl<|wp_nil<|c_block ?_
 refine c_lop (α:=Int) (β:=Unit) (ticket_book_valid_l2 a0 a1 a2) (fun z_1 y_1=>[(1,I a1),(2,I a2),(3,P b15 0),(11,SL A4 a0.TicketBook.Tickets.length c5),(12,I (a0.TicketBook.Tickets.length:Int)),(13,I z_1)]) (fun z_1 y_1 w_=>St w nF w_ [bl b15 ((vB a0.TicketBook A1 c2 A4 c5 A7 c8 A10 c11)++(sg a0.shown_ 3++[Value.map m13])) 92] [rd eTallyCount 7 A1 c2 a0.TicketBook.Tally.Counts,rd eTicketSeason 2 A4 c5 a0.TicketBook.Tickets,rd eTicketShow 3 A7 c8 a0.TicketBook.Shows,rd eTicketBox 4 A10 c11 a0.TicketBook.Boxes,mpo ekS iE m13 a0.by_]) 0 () H ⟨rfl,rfl,rfl,rfl,rfl,rfl,trivial⟩ S17 ?_
 intro m18 z_1 y_1 e19 w20 H S21
 unfold ticket_book_valid_l2 at H
 refine c_seq<|reg<|p_cmp rfl rfl rfl<|wp_nil<|c_seq ?_
 refine c_cond rfl (fun c22=>?_) (fun c22=>?_)
 ·replace H:=condT c22 H
  refine c_skip<|c_seq<|c_block<|c_seq<|reg<|p_mI rfl ?_
  obtain ⟨r23,h24,H⟩:=bindS H
  refine p_ixE sc25 h24 (S21.atP (i:=1) rfl).1 rfl rfl rfl<|p_ldEA ty65 sz65 rfl h24 (S21.atP (i:=1) rfl).1 rfl<|p_allA in65 S21 fun b25 w26 S27=>p_aI rfl<|p_stP (pre:=[]) (old:=[I 0,I 0]) (post:=[]) (vs:=[I r23.From,I r23.To]) sz65 S27 (i:=0) rfl rfl rfl rfl (rfl:_=AG [I r23.From,I r23.To]) rfl rfl rfl rfl fun w28 S29=>wp_nil<|c_seq<|reg<|p_mI rfl<|p_mI rfl ?_
  obtain ⟨h30,H⟩:=needS H
  refine p_shr h30 rfl rfl<|p_andI rfl rfl<|p_cmp rfl rfl rfl<|p_mB rfl ?_
  rcases bE (((andI (shrI a1 z_1) 1)==1)) with c31 | c31
  ·replace H:=condT c31 H
   refine eB c31 ?_
   refine gT rfl rfl (p_mI rfl ?_)
   refine gT rfl rfl (p_fld fl65_0 rfl ?_)
   refine gT rfl rfl (p_ld ty3 (S29.atX (i:=0) rfl) rfl rfl ?_)
   refine gT rfl rfl (p_fld fl65_1 rfl ?_)
   refine gT rfl rfl (p_ld ty3 (S29.atX (i:=0) rfl) rfl rfl ?_)
   obtain ⟨r32,h33,H⟩:=bindS H
   refine gT rfl rfl (p_cv (ticket_within_ok h33) fu71 rfl S29 fun w34 S35=>?_)
   refine gT rfl rfl (p_not rfl ?_)
   refine p_pkT rfl (rfl:_=B (!r32))<|wp_nil ?_
   refine c_cond rfl (fun c36=>?_) (fun c36=>?_)
   ·replace H:=condT c36 H
    refine c_seq<|reg<|p_aB rfl<|wp_nil ?_
    obtain rfl:=sJ H
    exact c_ret (rT Tryd.f92 S35.keep rfl rfl)
   ·replace H:=condF c36 H
    refine c_skip<|reg<|p_add rfl rfl<|p_mI rfl<|wp_nil ?_
    have S37:=S35.pk [1] (by decide) [0,1,2,3,4] rfl rfl
    exact ⟨wr (z_1+1),(),_,rfl,⟨rfl,rfl,rfl,rfl,rfl,rfl,trivial⟩,H,S37⟩
  ·replace H:=condF c31 H
   refine eB c31<|gF rfl rfl<|gF rfl rfl<|gF rfl rfl<|gF rfl rfl<|gF rfl rfl<|gF rfl rfl<|gF rfl rfl<|p_pkF rfl (rfl:_=B false)<|wp_nil<|c_false rfl<|c_skip<|reg<|p_add rfl rfl<|p_mI rfl<|wp_nil ?_
   have S38:=S29.pk [1] (by decide) [0,1,2,3,4] rfl rfl
   exact ⟨wr (z_1+1),(),_,rfl,⟨rfl,rfl,rfl,rfl,rfl,rfl,trivial⟩,H,S38⟩
 ·replace H:=condF c22 H
  refine c_exit<|c_seq<|reg<|p_mI rfl<|p_fld fl92_0 rfl<|p_fld fl29_2 rfl<|p_ld ty25 (S21.atX (i:=0) rfl) rfl rfl<|p_len rfl sc25 ?_
  obtain ⟨h39,H⟩:=needS H
  refine p_shr h39 rfl rfl<|p_cmp rfl rfl rfl<|p_aB rfl<|wp_nil ?_
  obtain rfl:=sJ H
  exact c_ret (rT Tryd.f92 S21.keep rfl rfl)
def yE0 (x:Ticket_truth):List Value:=[AG (sg x.crossed_ 3++sg x.used_ 3)]
def ticket_book_truths_1_1_l1 {σ:Type} (a1:Int) (q0:Ticket_book) (a0:Ticket_truth) (q2:Ticket_book) (rec_:Ticket_truth→Int→σ→Option (Bool×σ)) (rec_z_1:(Int×(List Int)×σ)→Option (Bool×σ)) (z_1:Int×(List Int)×σ):Option (Bool×σ):=
 bif decide (z_1.1 < 8) then (need (inI a1 3)<|
 (ticket_book_valid q0 z_1.1 a1).bind fun r54=>
 bif !r54 then (rec_z_1 (wr (z_1.1+1),aset z_1.2.1 3 a1 z_1.1,z_1.2.2))
 else (need (inI a1 3)<|
 need (inI a1 3)<|
 bif ((andI z_1.1 (aget q0.shown_ a1)) != (aget q0.shown_ a1)) then (rec_z_1 (wr (z_1.1+1),aset z_1.2.1 3 a1 z_1.1,z_1.2.2))
 else ((bits_OnesCount (wrK .u64 z_1.1)).bind fun r66=>
 need (inI a1 3)<|
 bif decide (r66 > (aget a0.crossed_ a1)) then (rec_z_1 (wr (z_1.1+1),aset z_1.2.1 3 a1 z_1.1,z_1.2.2))
 else ((ticket_book_right q2 (Ticket_truth.mk a0.crossed_ (aset z_1.2.1 3 a1 z_1.1)) a1).bind fun r73=>
 bif !r73 then (rec_z_1 (wr (z_1.1+1),aset z_1.2.1 3 a1 z_1.1,z_1.2.2))
 else ((rec_ (Ticket_truth.mk a0.crossed_ (aset z_1.2.1 3 a1 z_1.1)) (wr (a1+1)) z_1.2.2).bind fun r79=>
 bif !r79.1 then (some (false,r79.2))
 else (rec_z_1 (wr (z_1.1+1),aset z_1.2.1 3 a1 z_1.1,r79.2)))))))
 else (some (true,z_1.2.2))
def ticket_book_truths_1_1_F {σ:Type} (rec_:Ticket_truth→Int→σ→Option (Bool×σ)) (a0:Ticket_truth) (a1:Int) (s_:σ) (q0:Ticket_book) (q2:Ticket_book) (yv:Ticket_truth→σ→Option (Bool×σ)):Option (Bool×σ):=
 bif (a1==q0.TicketBook.Tally.Trips) then ((yv a0 s_).bind fun r41=>
 some (r41.1,r41.2))
 else (loopF (ticket_book_truths_1_1_l1 a1 q0 a0 q2 rec_) big (0,a0.used_,s_))
def ticket_book_truths_1_1 {σ:Type}:Nat→Ticket_truth→Int→σ→Ticket_book→Ticket_book→(Ticket_truth→σ→Option (Bool×σ))→Option (Bool×σ)
 | 0,_,_,_,_,_,_=>none
 | n+1,a0,a1,s_,q0,q2,yv=>ticket_book_truths_1_1_F (fun x0_ x1_ x2_=>ticket_book_truths_1_1 n x0_ x1_ x2_ q0 q2 yv) a0 a1 s_ q0 q2 yv
set_option maxRecDepth 100000 in
theorem ticket_book_truths_1_1_ok {σ:Type}{l_:Nat}{G_:σ→Asr→Prop}{wb_:World}{C0_:Nat→Prop}{n:Nat}:∀ {A_:Asr}{a0:Ticket_truth}{a1:Int}{s_:σ}{q0:Ticket_book}{q2:Ticket_book}{yv:Ticket_truth→σ→Option (Bool×σ)}{b1:Nat}{A5:Option Addr}{c6:Nat}{A8:Option Addr}{c9:Nat}{A11:Option Addr}{c12:Nat}{A14:Option Addr}{c15:Nat}{m17:Option Nat}{b2:Nat}{b3:Nat}{A21:Option Addr}{c22:Nat}{A24:Option Addr}{c25:Nat}{A27:Option Addr}{c28:Nat}{A30:Option Addr}{c31:Nat}{m33:Option Nat}{b4:Nat}{w:World}{r:Bool×σ} (H:ticket_book_truths_1_1 n a0 a1 s_ q0 q2 yv=some r) (hG_:(ga G_ s_ A_).ok w) (h36:(bl b4 [vF (.func 91) #[] #[P b1 0,P b2 0,P b3 0,P b4 0]] 135).ok w) (h35:(bl b3 [vF (.func 90) #[AG ((vB q2.TicketBook A21 c22 A24 c25 A27 c28 A30 c31)++(sg q2.shown_ 3++[Value.map m33]))] #[]] 135).ok w) (h20:(bl b2 [Value.func (.yield l_) #[] #[]] 134).ok w) (h19:(bl b1 ((vB q0.TicketBook A5 c6 A8 c9 A11 c12 A14 c15)++(sg q0.shown_ 3++[Value.map m17])) 92).ok w) (h7:(rd eTallyCount 7 A5 c6 q0.TicketBook.Tally.Counts).ok w) (h10:(rd eTicketSeason 2 A8 c9 q0.TicketBook.Tickets).ok w) (h13:(rd eTicketShow 3 A11 c12 q0.TicketBook.Shows).ok w) (h16:(rd eTicketBox 4 A14 c15 q0.TicketBook.Boxes).ok w) (h18:(mpo ekS iE m17 q0.by_).ok w) (h23:(rd eTallyCount 7 A21 c22 q2.TicketBook.Tally.Counts).ok w) (h26:(rd eTicketSeason 2 A24 c25 q2.TicketBook.Tickets).ok w) (h29:(rd eTicketShow 3 A27 c28 q2.TicketBook.Shows).ok w) (h32:(rd eTicketBox 4 A30 c31 q2.TicketBook.Boxes).ok w) (h34:(mpo ekS iE m33 q2.by_).ok w) (hd_:∀ p∈([bl b4 [vF (.func 91) #[] #[P b1 0,P b2 0,P b3 0,P b4 0]] 135,bl b3 [vF (.func 90) #[AG ((vB q2.TicketBook A21 c22 A24 c25 A27 c28 A30 c31)++(sg q2.shown_ 3++[Value.map m33]))] #[]] 135,bl b2 [Value.func (.yield l_) #[] #[]] 134,bl b1 ((vB q0.TicketBook A5 c6 A8 c9 A11 c12 A14 c15)++(sg q0.shown_ 3++[Value.map m17])) 92,rd eTallyCount 7 A5 c6 q0.TicketBook.Tally.Counts,rd eTicketSeason 2 A8 c9 q0.TicketBook.Tickets,rd eTicketShow 3 A11 c12 q0.TicketBook.Shows,rd eTicketBox 4 A14 c15 q0.TicketBook.Boxes,mpo ekS iE m17 q0.by_,rd eTallyCount 7 A21 c22 q2.TicketBook.Tally.Counts,rd eTicketSeason 2 A24 c25 q2.TicketBook.Tickets,rd eTicketShow 3 A27 c28 q2.TicketBook.Shows,rd eTicketBox 4 A30 c31 q2.TicketBook.Boxes,mpo ekS iE m33 q2.by_]:List Asr),∀ b,p.fp b→¬A_.fp b) (hy_:YH Tryd.prog l_ yE0 yv G_ wb_ C0_) (hl_:Link wb_ C0_ w A_.fp),Calls Tryd.prog 91 #[AG (sg a0.crossed_ 3++sg a0.used_ 3),I a1,P b1 0,P b2 0,P b3 0,P b4 0] w (fun en w_=>∃ u_,en=.returned u_∧∃ A'_:Asr,u_=B r.1∧Keep A_.fp w w_∧(ga G_ r.2 A'_).ok w_∧(∀ b_,A'_.fp b_→A_.fp b_∨w.heap.size≤b_)):=by
 induction n with
 | zero=>intro A_ a0 a1 s_ q0 q2 yv b1 A5 c6 A8 c9 A11 c12 A14 c15 m17 b2 b3 A21 c22 A24 c25 A27 c28 A30 c31 m33 b4 w r H hG_ h36 h35 h20 h19 h7 h10 h13 h16 h18 h23 h26 h29 h32 h34 hd_ hy_ hl_; cases H
 | succ n ih=>
 intro A_ a0 a1 s_ q0 q2 yv b1 A5 c6 A8 c9 A11 c12 A14 c15 m17 b2 b3 A21 c22 A24 c25 A27 c28 A30 c31 m33 b4 w r H hG_ h36 h35 h20 h19 h7 h10 h13 h16 h18 h23 h26 h29 h32 h34 hd_ hy_ hl_
 unfold ticket_book_truths_1_1 ticket_book_truths_1_1_F at H
 refine fn_of (n:=68) Tryd.func91 rfl rfl (lE rfl) ?_
 have S:St w A_.fp w [ga G_ s_ A_] [bl b4 [vF (.func 91) #[] #[P b1 0,P b2 0,P b3 0,P b4 0]] 135,bl b3 [vF (.func 90) #[AG ((vB q2.TicketBook A21 c22 A24 c25 A27 c28 A30 c31)++(sg q2.shown_ 3++[Value.map m33]))] #[]] 135,bl b2 [Value.func (.yield l_) #[] #[]] 134,bl b1 ((vB q0.TicketBook A5 c6 A8 c9 A11 c12 A14 c15)++(sg q0.shown_ 3++[Value.map m17])) 92,rd eTallyCount 7 A5 c6 q0.TicketBook.Tally.Counts,rd eTicketSeason 2 A8 c9 q0.TicketBook.Tickets,rd eTicketShow 3 A11 c12 q0.TicketBook.Shows,rd eTicketBox 4 A14 c15 q0.TicketBook.Boxes,mpo ekS iE m17 q0.by_,rd eTallyCount 7 A21 c22 q2.TicketBook.Tally.Counts,rd eTicketSeason 2 A24 c25 q2.TicketBook.Tickets,rd eTicketShow 3 A27 c28 q2.TicketBook.Shows,rd eTicketBox 4 A30 c31 q2.TicketBook.Boxes,mpo ekS iE m33 q2.by_]:=St.startX (ga G_ s_ A_) hG_ (cA h36 (cA h35 (cA h20 (cA h19 (cA h7 (cA h10 (cA h13 (cA h16 (cA h18 (cA h23 (cA h26 (cA h29 (cA h32 (cA h34 nM)))))))))))))) hd_
 refine c_seq<|reg<|p_boxA rfl S fun b37 w38 S39=>p_aB rfl<|wp_nil<|c_scope<|c_seq<|c_seq<|reg<|p_mI rfl<|p_fld fl92_0 rfl<|p_fld fl29_0 rfl<|p_fld fl24_0 rfl<|p_ld ty3 (S39.atP (i:=3) rfl) rfl rfl<|p_cmp rfl rfl rfl<|wp_nil ?_
 refine c_cond rfl (fun c40=>?_) (fun c40=>?_)
 ·replace H:=condT c40 H
  refine c_seq<|reg<|p_ld ty134 (S39.atP (i:=2) rfl) rfl rfl<|p_ldA ty105 sz105 (S39.atX (i:=0) rfl) rfl rfl ?_
  obtain ⟨r41,h42,H⟩:=bindS H
  refine o_yieldG (x:=a0) (b:=r41.1) (s2:=r41.2) h42 hy_ hl_ S39 (j:=1) rfl (rfl:_=Value.func (.yield l_) #[] #[]) rfl fun A43 w44 S45=>?_
  refine p_aB rfl<|wp_nil ?_
  obtain rfl:=sJ H
  refine c_ret ?_; show bodyPostM (Fr none) 0 Tryd.prog Tryd.f91 _ .ret _ _
  refine ret_of (res1 rfl (rvT (rfl:_=B r41.1))) ?_
  exact ⟨_,rfl,_,rfl,S45.keep,S45.atX (i:=1) rfl,fun b_ h_=>(S45.own _ (mE (i:=1) rfl) b_ h_).symm⟩
 ·replace H:=condF c40 H
  refine c_skip<|c_seq<|c_label<|c_seq<|c_seq<|reg<|p_mI rfl<|wp_nil<|c_block ?_
  refine c_lop (α:=Int×(List Int)×σ) (β:=Asr) (ticket_book_truths_1_1_l1 a1 q0 a0 q2 (fun x0_ x1_ x2_=>ticket_book_truths_1_1 n x0_ x1_ x2_ q0 q2 yv)) (fun z_1 y_1=>[(1,I a1),(2,P b1 0),(4,P b3 0),(5,P b4 0),(6,P b37 0),(19,I z_1.1)]) (fun z_1 y_1 w_=>St w A_.fp w_ [bl b37 (sg a0.crossed_ 3++sg z_1.2.1 3) 105,ga G_ z_1.2.2 y_1] [bl b4 [vF (.func 91) #[] #[P b1 0,P b2 0,P b3 0,P b4 0]] 135,bl b3 [vF (.func 90) #[AG ((vB q2.TicketBook A21 c22 A24 c25 A27 c28 A30 c31)++(sg q2.shown_ 3++[Value.map m33]))] #[]] 135,bl b2 [Value.func (.yield l_) #[] #[]] 134,bl b1 ((vB q0.TicketBook A5 c6 A8 c9 A11 c12 A14 c15)++(sg q0.shown_ 3++[Value.map m17])) 92,rd eTallyCount 7 A5 c6 q0.TicketBook.Tally.Counts,rd eTicketSeason 2 A8 c9 q0.TicketBook.Tickets,rd eTicketShow 3 A11 c12 q0.TicketBook.Shows,rd eTicketBox 4 A14 c15 q0.TicketBook.Boxes,mpo ekS iE m17 q0.by_,rd eTallyCount 7 A21 c22 q2.TicketBook.Tally.Counts,rd eTicketSeason 2 A24 c25 q2.TicketBook.Tickets,rd eTicketShow 3 A27 c28 q2.TicketBook.Shows,rd eTicketBox 4 A30 c31 q2.TicketBook.Boxes,mpo ekS iE m33 q2.by_]) (0,a0.used_,s_) A_ H ⟨rfl,rfl,rfl,rfl,rfl,rfl,trivial⟩ S39 ?_
  intro m46 z_1 y_1 e47 w48 H S49
  unfold ticket_book_truths_1_1_l1 at H
  refine c_seq<|reg<|p_cmp rfl rfl rfl<|wp_nil<|c_seq ?_
  refine c_cond rfl (fun c50=>?_) (fun c50=>?_)
  ·replace H:=condT c50 H
   refine c_skip<|c_seq<|c_block<|c_seq<|reg<|p_mI rfl<|p_aI rfl<|wp_nil<|c_seq<|reg<|p_mI rfl<|p_mI rfl<|p_fld fl105_1 rfl ?_
   obtain ⟨h51,H⟩:=needS H
   refine p_ixD ar31 h51 rfl rfl<|p_stD (pre:=sg a0.crossed_ 3) (post:=[]) sz3 S49 (i:=0) rfl rfl h51 rfl rfl rfl fun w52 S53=>wp_nil<|c_seq<|c_seq ?_
   obtain ⟨r54,h55,H⟩:=bindS H
   rcases bE (!r54) with c56 | c56
   ·replace H:=condT c56 H
    refine reg_q mixed 35 (by kernel_rfl) ?_
    refine dS (fun _ k_=>p_ldA ty92 sz92 (aS (S53.atP (i:=3) rfl) k_) rfl rfl dn)<|dS (fun _ k_=>p_mI rfl dn)<|dS (fun _ k_=>p_mI rfl dn)<|dS (fun _ k_=>p_cvD (ticket_book_valid_ok h55 (aS (S53.atP (i:=4) rfl) k_) (aS (S53.atP (i:=5) rfl) k_) (aS (S53.atP (i:=6) rfl) k_) (aS (S53.atP (i:=7) rfl) k_) (aS (S53.atP (i:=8) rfl) k_)) fu92 rfl) ?_
    refine dS (fun _ k_=>p_not rfl dn)<|dS (fun _ k_=>p_mB rfl dn)<|dB c56<|dF rfl rfl<|dF rfl rfl<|dF rfl rfl<|dF rfl rfl<|dF rfl rfl<|dF rfl rfl<|dF rfl rfl<|dF rfl rfl<|dF rfl rfl<|dF rfl rfl ?_
    refine dF rfl rfl<|dS (fun _ k_=>p_pkT rfl (rfl:_=B true) dn)<|dS (fun _ k_=>p_mB rfl dn)<|dF rfl rfl<|dF rfl rfl<|dF rfl rfl<|dF rfl rfl<|dF rfl rfl<|dF rfl rfl<|dF rfl rfl<|dF rfl rfl ?_
    refine dS (fun _ k_=>p_pkT rfl (rfl:_=B true) dn)<|dS (fun _ k_=>p_mB rfl dn)<|dF rfl rfl<|dF rfl rfl<|dF rfl rfl<|dF rfl rfl<|dF rfl rfl<|dS (fun _ k_=>p_pkT rfl (rfl:_=B true) dn) ?_
    intro w57 k58; have S59:=S53.call k58
    exact wp_nil<|c_true rfl<|c_exit<|reg<|p_add rfl rfl<|p_mI rfl<|wp_nil ⟨(wr (z_1.1+1),aset z_1.2.1 3 a1 z_1.1,z_1.2.2),y_1,_,rfl,⟨rfl,rfl,rfl,rfl,rfl,rfl,trivial⟩,H,S59⟩
   ·replace H:=condF c56 H
    obtain ⟨h60,H⟩:=needS H
    obtain ⟨h61,H⟩:=needS H
    rcases bE (((andI z_1.1 (aget q0.shown_ a1)) != (aget q0.shown_ a1))) with c62 | c62
    ·replace H:=condT c62 H
     refine reg_q mixed 35 (by kernel_rfl) ?_
     refine dS (fun _ k_=>p_ldA ty92 sz92 (aS (S53.atP (i:=3) rfl) k_) rfl rfl dn)<|dS (fun _ k_=>p_mI rfl dn)<|dS (fun _ k_=>p_mI rfl dn)<|dS (fun _ k_=>p_cvD (ticket_book_valid_ok h55 (aS (S53.atP (i:=4) rfl) k_) (aS (S53.atP (i:=5) rfl) k_) (aS (S53.atP (i:=6) rfl) k_) (aS (S53.atP (i:=7) rfl) k_) (aS (S53.atP (i:=8) rfl) k_)) fu92 rfl) ?_
     refine dS (fun _ k_=>p_not rfl dn)<|dS (fun _ k_=>p_mB rfl dn)<|dB c56<|dS (fun _ k_=>gT rfl rfl (p_mI rfl dn))<|dS (fun _ k_=>gT rfl rfl (p_mI rfl dn))<|dS (fun _ k_=>gT rfl rfl (p_fld fl92_1 rfl dn))<|dS (fun _ k_=>gT rfl rfl (p_ixD ar31 h60 rfl rfl dn)) ?_
     refine dS (fun _ k_=>gT rfl rfl (p_ldD (pre:=(vB q0.TicketBook A5 c6 A8 c9 A11 c12 A14 c15)) (post:=[Value.map m17]) ty3 (aS (S53.atP (i:=3) rfl) k_) rfl h60 rfl rfl dn)) ?_
     refine dS (fun _ k_=>gT rfl rfl (p_andI rfl rfl dn))<|dS (fun _ k_=>gT rfl rfl (p_mI rfl dn))<|dS (fun _ k_=>gT rfl rfl (p_fld fl92_1 rfl dn))<|dS (fun _ k_=>gT rfl rfl (p_ixD ar31 h61 rfl rfl dn)) ?_
     refine dS (fun _ k_=>gT rfl rfl (p_ldD (pre:=(vB q0.TicketBook A5 c6 A8 c9 A11 c12 A14 c15)) (post:=[Value.map m17]) ty3 (aS (S53.atP (i:=3) rfl) k_) rfl h61 rfl rfl dn)) ?_
     refine dS (fun _ k_=>gT rfl rfl (p_cmp rfl rfl rfl dn))<|dS (fun _ k_=>p_pkF rfl (rfl:_=B ((andI z_1.1 (aget q0.shown_ a1)) != (aget q0.shown_ a1))) dn)<|dS (fun _ k_=>p_mB rfl dn)<|dB c62<|dF rfl rfl<|dF rfl rfl<|dF rfl rfl<|dF rfl rfl<|dF rfl rfl<|dF rfl rfl ?_
     refine dF rfl rfl<|dF rfl rfl<|dS (fun _ k_=>p_pkT rfl (rfl:_=B true) dn)<|dS (fun _ k_=>p_mB rfl dn)<|dF rfl rfl<|dF rfl rfl<|dF rfl rfl<|dF rfl rfl<|dF rfl rfl<|dS (fun _ k_=>p_pkT rfl (rfl:_=B true) dn) ?_
     intro w63 k64; have S65:=S53.call k64
     exact wp_nil<|c_true rfl<|c_exit<|reg<|p_add rfl rfl<|p_mI rfl<|wp_nil ⟨(wr (z_1.1+1),aset z_1.2.1 3 a1 z_1.1,z_1.2.2),y_1,_,rfl,⟨rfl,rfl,rfl,rfl,rfl,rfl,trivial⟩,H,S65⟩
    ·replace H:=condF c62 H
     obtain ⟨r66,h67,H⟩:=bindS H
     obtain ⟨h68,H⟩:=needS H
     rcases bE (decide (r66 > (aget a0.crossed_ a1))) with c69 | c69
     ·replace H:=condT c69 H
      refine reg_q mixed 35 (by kernel_rfl) ?_
      refine dS (fun _ k_=>p_ldA ty92 sz92 (aS (S53.atP (i:=3) rfl) k_) rfl rfl dn)<|dS (fun _ k_=>p_mI rfl dn)<|dS (fun _ k_=>p_mI rfl dn)<|dS (fun _ k_=>p_cvD (ticket_book_valid_ok h55 (aS (S53.atP (i:=4) rfl) k_) (aS (S53.atP (i:=5) rfl) k_) (aS (S53.atP (i:=6) rfl) k_) (aS (S53.atP (i:=7) rfl) k_) (aS (S53.atP (i:=8) rfl) k_)) fu92 rfl) ?_
      refine dS (fun _ k_=>p_not rfl dn)<|dS (fun _ k_=>p_mB rfl dn)<|dB c56<|dS (fun _ k_=>gT rfl rfl (p_mI rfl dn))<|dS (fun _ k_=>gT rfl rfl (p_mI rfl dn))<|dS (fun _ k_=>gT rfl rfl (p_fld fl92_1 rfl dn))<|dS (fun _ k_=>gT rfl rfl (p_ixD ar31 h60 rfl rfl dn)) ?_
      refine dS (fun _ k_=>gT rfl rfl (p_ldD (pre:=(vB q0.TicketBook A5 c6 A8 c9 A11 c12 A14 c15)) (post:=[Value.map m17]) ty3 (aS (S53.atP (i:=3) rfl) k_) rfl h60 rfl rfl dn)) ?_
      refine dS (fun _ k_=>gT rfl rfl (p_andI rfl rfl dn))<|dS (fun _ k_=>gT rfl rfl (p_mI rfl dn))<|dS (fun _ k_=>gT rfl rfl (p_fld fl92_1 rfl dn))<|dS (fun _ k_=>gT rfl rfl (p_ixD ar31 h61 rfl rfl dn)) ?_
      refine dS (fun _ k_=>gT rfl rfl (p_ldD (pre:=(vB q0.TicketBook A5 c6 A8 c9 A11 c12 A14 c15)) (post:=[Value.map m17]) ty3 (aS (S53.atP (i:=3) rfl) k_) rfl h61 rfl rfl dn)) ?_
      refine dS (fun _ k_=>gT rfl rfl (p_cmp rfl rfl rfl dn))<|dS (fun _ k_=>p_pkF rfl (rfl:_=B ((andI z_1.1 (aget q0.shown_ a1)) != (aget q0.shown_ a1))) dn)<|dS (fun _ k_=>p_mB rfl dn)<|dB c62<|dS (fun _ k_=>gT rfl rfl (p_mI rfl dn))<|dS (fun _ k_=>gT rfl rfl (p_conv un3 un130 rfl dn))<|dS (fun _ k_=>gT rfl rfl (p_cvD (bits_OnesCount_ok h67) fu86 rfl))<|dS (fun _ k_=>gT rfl rfl (p_mI rfl dn)) ?_
      refine dS (fun _ k_=>gT rfl rfl (p_fld fl105_0 rfl dn))<|dS (fun _ k_=>gT rfl rfl (p_ixD ar31 h68 rfl rfl dn))<|dS (fun _ k_=>gT rfl rfl (p_ldD (pre:=[]) (post:=sg (aset z_1.2.1 3 a1 z_1.1) 3) ty3 (aS (S53.atX (i:=0) rfl) k_) rfl h68 rfl rfl dn))<|dS (fun _ k_=>gT rfl rfl (p_cmp rfl rfl rfl dn))<|dS (fun _ k_=>p_pkF rfl (rfl:_=B (decide (r66 > (aget a0.crossed_ a1)))) dn) ?_
      refine dS (fun _ k_=>p_mB rfl dn)<|dB c69<|dF rfl rfl<|dF rfl rfl<|dF rfl rfl<|dF rfl rfl<|dF rfl rfl<|dS (fun _ k_=>p_pkT rfl (rfl:_=B true) dn) ?_
      intro w70 k71; have S72:=S53.call k71
      exact wp_nil<|c_true rfl<|c_exit<|reg<|p_add rfl rfl<|p_mI rfl<|wp_nil ⟨(wr (z_1.1+1),aset z_1.2.1 3 a1 z_1.1,z_1.2.2),y_1,_,rfl,⟨rfl,rfl,rfl,rfl,rfl,rfl,trivial⟩,H,S72⟩
     ·replace H:=condF c69 H
      obtain ⟨r73,h74,H⟩:=bindS H
      refine reg_q mixed 35 (by kernel_rfl) ?_
      refine dS (fun _ k_=>p_ldA ty92 sz92 (aS (S53.atP (i:=3) rfl) k_) rfl rfl dn)<|dS (fun _ k_=>p_mI rfl dn)<|dS (fun _ k_=>p_mI rfl dn)<|dS (fun _ k_=>p_cvD (ticket_book_valid_ok h55 (aS (S53.atP (i:=4) rfl) k_) (aS (S53.atP (i:=5) rfl) k_) (aS (S53.atP (i:=6) rfl) k_) (aS (S53.atP (i:=7) rfl) k_) (aS (S53.atP (i:=8) rfl) k_)) fu92 rfl) ?_
      refine dS (fun _ k_=>p_not rfl dn)<|dS (fun _ k_=>p_mB rfl dn)<|dB c56<|dS (fun _ k_=>gT rfl rfl (p_mI rfl dn))<|dS (fun _ k_=>gT rfl rfl (p_mI rfl dn))<|dS (fun _ k_=>gT rfl rfl (p_fld fl92_1 rfl dn))<|dS (fun _ k_=>gT rfl rfl (p_ixD ar31 h60 rfl rfl dn)) ?_
      refine dS (fun _ k_=>gT rfl rfl (p_ldD (pre:=(vB q0.TicketBook A5 c6 A8 c9 A11 c12 A14 c15)) (post:=[Value.map m17]) ty3 (aS (S53.atP (i:=3) rfl) k_) rfl h60 rfl rfl dn)) ?_
      refine dS (fun _ k_=>gT rfl rfl (p_andI rfl rfl dn))<|dS (fun _ k_=>gT rfl rfl (p_mI rfl dn))<|dS (fun _ k_=>gT rfl rfl (p_fld fl92_1 rfl dn))<|dS (fun _ k_=>gT rfl rfl (p_ixD ar31 h61 rfl rfl dn)) ?_
      refine dS (fun _ k_=>gT rfl rfl (p_ldD (pre:=(vB q0.TicketBook A5 c6 A8 c9 A11 c12 A14 c15)) (post:=[Value.map m17]) ty3 (aS (S53.atP (i:=3) rfl) k_) rfl h61 rfl rfl dn)) ?_
      refine dS (fun _ k_=>gT rfl rfl (p_cmp rfl rfl rfl dn))<|dS (fun _ k_=>p_pkF rfl (rfl:_=B ((andI z_1.1 (aget q0.shown_ a1)) != (aget q0.shown_ a1))) dn)<|dS (fun _ k_=>p_mB rfl dn)<|dB c62<|dS (fun _ k_=>gT rfl rfl (p_mI rfl dn))<|dS (fun _ k_=>gT rfl rfl (p_conv un3 un130 rfl dn))<|dS (fun _ k_=>gT rfl rfl (p_cvD (bits_OnesCount_ok h67) fu86 rfl))<|dS (fun _ k_=>gT rfl rfl (p_mI rfl dn)) ?_
      refine dS (fun _ k_=>gT rfl rfl (p_fld fl105_0 rfl dn))<|dS (fun _ k_=>gT rfl rfl (p_ixD ar31 h68 rfl rfl dn))<|dS (fun _ k_=>gT rfl rfl (p_ldD (pre:=[]) (post:=sg (aset z_1.2.1 3 a1 z_1.1) 3) ty3 (aS (S53.atX (i:=0) rfl) k_) rfl h68 rfl rfl dn))<|dS (fun _ k_=>gT rfl rfl (p_cmp rfl rfl rfl dn))<|dS (fun _ k_=>p_pkF rfl (rfl:_=B (decide (r66 > (aget a0.crossed_ a1)))) dn) ?_
      refine dS (fun _ k_=>p_mB rfl dn)<|dB c69<|dS (fun _ k_=>gT rfl rfl (p_ld ty135 (aS (S53.atP (i:=1) rfl) k_) rfl rfl dn))<|dS (fun _ k_=>gT rfl rfl (p_ldA ty105 sz105 (aS (S53.atX (i:=0) rfl) k_) rfl rfl dn))<|dS (fun _ k_=>gT rfl rfl (p_mI rfl dn)) ?_
      refine dS (fun _ k_=>gT rfl rfl (p_cvD (ticket_book_right_ok h74 (aS (S53.atP (i:=9) rfl) k_) (aS (S53.atP (i:=10) rfl) k_) (aS (S53.atP (i:=11) rfl) k_) (aS (S53.atP (i:=12) rfl) k_) (aS (S53.atP (i:=13) rfl) k_)) fu90 rfl))<|dS (fun _ k_=>gT rfl rfl (p_not rfl dn))<|dS (fun _ k_=>p_pkF rfl (rfl:_=B (!r73)) dn) ?_
      intro w75 k76; have S77:=S53.call k76
      refine wp_nil ?_
      refine c_cond rfl (fun c78=>?_) (fun c78=>?_)
      ·replace H:=condT c78 H
       refine c_exit<|reg<|p_add rfl rfl<|p_mI rfl<|wp_nil ?_
       exact ⟨(wr (z_1.1+1),aset z_1.2.1 3 a1 z_1.1,z_1.2.2),y_1,_,rfl,⟨rfl,rfl,rfl,rfl,rfl,rfl,trivial⟩,H,S77⟩
      ·replace H:=condF c78 H
       refine c_skip<|c_seq<|reg<|p_ld ty135 (S77.atP (i:=0) rfl) rfl rfl<|p_ldA ty105 sz105 (S77.atX (i:=0) rfl) rfl rfl<|p_mI rfl<|p_add rfl rfl ?_
       obtain ⟨r79,h80,H⟩:=bindS H
       refine p_cal (ih h80 (S77.atX (i:=1) rfl) (S77.atP (i:=0) rfl) (S77.atP (i:=1) rfl) (S77.atP (i:=2) rfl) (S77.atP (i:=3) rfl) (S77.atP (i:=4) rfl) (S77.atP (i:=5) rfl) (S77.atP (i:=6) rfl) (S77.atP (i:=7) rfl) (S77.atP (i:=8) rfl) (S77.atP (i:=9) rfl) (S77.atP (i:=10) rfl) (S77.atP (i:=11) rfl) (S77.atP (i:=12) rfl) (S77.atP (i:=13) rfl) (cA (fun b_ h1_ h2_=>((fp_mem (i:=0) rfl) b_ h1_).elim fun q_ hq_=>(S77.apart (j:=1) rfl (fun _ h_=>h_)) q_ hq_.1 b_ hq_.2 h2_) (cA (fun b_ h1_ h2_=>((fp_mem (i:=1) rfl) b_ h1_).elim fun q_ hq_=>(S77.apart (j:=1) rfl (fun _ h_=>h_)) q_ hq_.1 b_ hq_.2 h2_) (cA (fun b_ h1_ h2_=>((fp_mem (i:=2) rfl) b_ h1_).elim fun q_ hq_=>(S77.apart (j:=1) rfl (fun _ h_=>h_)) q_ hq_.1 b_ hq_.2 h2_) (cA (fun b_ h1_ h2_=>((fp_mem (i:=3) rfl) b_ h1_).elim fun q_ hq_=>(S77.apart (j:=1) rfl (fun _ h_=>h_)) q_ hq_.1 b_ hq_.2 h2_) (cA (fun b_ h1_ h2_=>((fp_mem (i:=4) rfl) b_ h1_).elim fun q_ hq_=>(S77.apart (j:=1) rfl (fun _ h_=>h_)) q_ hq_.1 b_ hq_.2 h2_) (cA (fun b_ h1_ h2_=>((fp_mem (i:=5) rfl) b_ h1_).elim fun q_ hq_=>(S77.apart (j:=1) rfl (fun _ h_=>h_)) q_ hq_.1 b_ hq_.2 h2_) (cA (fun b_ h1_ h2_=>((fp_mem (i:=6) rfl) b_ h1_).elim fun q_ hq_=>(S77.apart (j:=1) rfl (fun _ h_=>h_)) q_ hq_.1 b_ hq_.2 h2_) (cA (fun b_ h1_ h2_=>((fp_mem (i:=7) rfl) b_ h1_).elim fun q_ hq_=>(S77.apart (j:=1) rfl (fun _ h_=>h_)) q_ hq_.1 b_ hq_.2 h2_) (cA (fun b_ h1_ h2_=>((fp_mem (i:=8) rfl) b_ h1_).elim fun q_ hq_=>(S77.apart (j:=1) rfl (fun _ h_=>h_)) q_ hq_.1 b_ hq_.2 h2_) (cA (fun b_ h1_ h2_=>((fp_mem (i:=9) rfl) b_ h1_).elim fun q_ hq_=>(S77.apart (j:=1) rfl (fun _ h_=>h_)) q_ hq_.1 b_ hq_.2 h2_) (cA (fun b_ h1_ h2_=>((fp_mem (i:=10) rfl) b_ h1_).elim fun q_ hq_=>(S77.apart (j:=1) rfl (fun _ h_=>h_)) q_ hq_.1 b_ hq_.2 h2_) (cA (fun b_ h1_ h2_=>((fp_mem (i:=11) rfl) b_ h1_).elim fun q_ hq_=>(S77.apart (j:=1) rfl (fun _ h_=>h_)) q_ hq_.1 b_ hq_.2 h2_) (cA (fun b_ h1_ h2_=>((fp_mem (i:=12) rfl) b_ h1_).elim fun q_ hq_=>(S77.apart (j:=1) rfl (fun _ h_=>h_)) q_ hq_.1 b_ hq_.2 h2_) (cA (fun b_ h1_ h2_=>((fp_mem (i:=13) rfl) b_ h1_).elim fun q_ hq_=>(S77.apart (j:=1) rfl (fun _ h_=>h_)) q_ hq_.1 b_ hq_.2 h2_) nM)))))))))))))) hy_ (S77.link (j:=1) rfl hl_)) fu91 rfl ?_
       rintro _ w81 ⟨A83,rfl,k82,o84,f85⟩
       have S86:=S77.itCall (j:=1) rfl k82 o84 f85
       refine p_not rfl<|wp_nil ?_
       refine c_cond rfl (fun c87=>?_) (fun c87=>?_)
       ·replace H:=condT c87 H
        refine c_seq<|reg<|p_aB rfl<|wp_nil ?_
        obtain rfl:=sJ H
        refine c_ret ?_; show bodyPostM (Fr none) 0 Tryd.prog Tryd.f91 _ .ret _ _
        refine ret_of (res1 rfl (rvT (rfl:_=B false))) ?_
        exact ⟨_,rfl,_,rfl,S86.keep,S86.atX (i:=1) rfl,fun b_ h_=>(S86.own _ (mE (i:=1) rfl) b_ h_).symm⟩
       ·replace H:=condF c87 H
        refine c_skip<|reg<|p_add rfl rfl<|p_mI rfl<|wp_nil ?_
        exact ⟨(wr (z_1.1+1),aset z_1.2.1 3 a1 z_1.1,r79.2),A83,_,rfl,⟨rfl,rfl,rfl,rfl,rfl,rfl,trivial⟩,H,S86⟩
  ·replace H:=condF c50 H
   refine c_exit<|c_seq<|reg<|p_aB rfl<|wp_nil ?_
   obtain rfl:=sJ H
   refine c_ret ?_; show bodyPostM (Fr none) 0 Tryd.prog Tryd.f91 _ .ret _ _
   refine ret_of (res1 rfl (rvT (rfl:_=B true))) ?_
   exact ⟨_,rfl,_,rfl,S49.keep,S49.atX (i:=1) rfl,fun b_ h_=>(S49.own _ (mE (i:=1) rfl) b_ h_).symm⟩
def tally_within (a0:Int) (a1:Int) (a2:Int):Option Bool:=
 bif decide (a1≤a0) then (some (decide (a0≤a2)))
 else (some false)
set_option maxRecDepth 100000 in
theorem tally_within_ok {a0:Int}{a1:Int}{a2:Int}{w:World}{r:Bool} (H:tally_within a0 a1 a2=some r):Calls Tryd.prog 80 #[I a0,I a1,I a2] w (RetV w (B r)):=by
 unfold tally_within at H
 refine fn_of (n:=15) Tryd.func80 rfl rfl (lE rfl) ?_
 have S:=St.start w nF _ nM
 refine c_seq<|reg<|p_aB rfl<|wp_nil<|c_seq<|reg<|p_mI rfl<|p_mI rfl<|p_cmp rfl rfl rfl<|p_mB rfl ?_
 rcases bE (decide (a1≤a0)) with c1 | c1
 ·replace H:=condT c1 H
  refine eB c1 ?_
  refine gT rfl rfl (p_mI rfl ?_)
  refine gT rfl rfl (p_mI rfl ?_)
  refine gT rfl rfl (p_cmp rfl rfl rfl ?_)
  refine p_pkT rfl (rfl:_=B (decide (a0≤a2)))<|p_aB rfl<|wp_nil ?_
  obtain rfl:=sJ H
  exact c_ret (rT Tryd.f80 S.keep rfl rfl)
 ·replace H:=condF c1 H
  refine eB c1<|gF rfl rfl<|gF rfl rfl<|gF rfl rfl<|p_pkF rfl (rfl:_=B false)<|p_aB rfl<|wp_nil ?_
  obtain rfl:=sJ H
  exact c_ret (rT Tryd.f80 S.keep rfl rfl)
def tally_isTrips (a0:TallyBook) (a1:Int) (a2:Int):Option Bool:=
 (tally_within a1 0 a2).bind fun r7=>
 bif r7 then (some (decide (a2 < a0.Trips)))
 else (some false)
set_option maxRecDepth 100000 in
theorem tally_isTrips_ok {a0:TallyBook}{a1:Int}{a2:Int}{A1:Option Addr}{c2:Nat}{w:World}{r:Bool} (H:tally_isTrips a0 a1 a2=some r) (h3:(rd eTallyCount 7 A1 c2 a0.Counts).ok w):Calls Tryd.prog 78 #[AG [I a0.Trips,I a0.Room,SL A1 a0.Counts.length c2],I a1,I a2] w (RetV w (B r)):=by
 unfold tally_isTrips at H
 refine fn_of (n:=16) Tryd.func78 rfl rfl (lE rfl) ?_
 have S:=St.start w nF _ (cA h3 nM)
 refine c_seq<|reg<|p_boxA rfl S fun b4 w5 S6=>p_aB rfl<|wp_nil<|c_seq<|reg<|p_mI rfl<|p_mI rfl ?_
 obtain ⟨r7,h8,H⟩:=bindS H
 refine p_cv (tally_within_ok h8) fu80 rfl S6 fun w9 S10=>p_mB rfl ?_
 rcases bE (r7) with c11 | c11
 ·replace H:=condT c11 H
  refine eB c11 ?_
  refine gT rfl rfl (p_mI rfl ?_)
  refine gT rfl rfl (p_fld fl24_0 rfl ?_)
  refine gT rfl rfl (p_ld ty3 (S10.atX (i:=0) rfl) rfl rfl ?_)
  refine gT rfl rfl (p_cmp rfl rfl rfl ?_)
  refine p_pkT rfl (rfl:_=B (decide (a2 < a0.Trips)))<|p_aB rfl<|wp_nil ?_
  obtain rfl:=sJ H
  exact c_ret (rT Tryd.f78 S10.keep rfl rfl)
 ·replace H:=condF c11 H
  refine eB c11<|gF rfl rfl<|gF rfl rfl<|gF rfl rfl<|gF rfl rfl<|p_pkF rfl (rfl:_=B false)<|p_aB rfl<|wp_nil ?_
  obtain rfl:=sJ H
  exact c_ret (rT Tryd.f78 S10.keep rfl rfl)
def tally_isCount_j1 (a1:TallyCount) (z_1:Bool):Option Bool:=
 bif z_1 then ((tally_within a1.Under 0 30).bind fun r14=>
 bif r14 then ((tally_within a1.Over 0 30).bind fun r19=>
 bif r19 then (bif (a1.Who != 1) then (some true)
 else (some (a1.Over==0)))
 else (some false))
 else (some false))
 else (some false)
def tally_isCount (a0:TallyBook) (a1:TallyCount):Option Bool:=
 (tally_within a1.Who 0 2).bind fun r10=>
 bif r10 then ((tally_isTrips a0 a1.From a1.To).bind fun r15=>
 bif r15 then ((tally_within a1.Told 0 99).bind fun r20=>
 bif r20 then ((tally_within a1.Unit 1 20).bind fun r25=>
 tally_isCount_j1 a1 r25)
 else (tally_isCount_j1 a1 false))
 else (tally_isCount_j1 a1 false))
 else (tally_isCount_j1 a1 false)
set_option maxRecDepth 100000 in
theorem tally_isCount_ok {a0:TallyBook}{a1:TallyCount}{A1:Option Addr}{c2:Nat}{w:World}{r:Bool} (H:tally_isCount a0 a1=some r) (h3:(rd eTallyCount 7 A1 c2 a0.Counts).ok w):Calls Tryd.prog 81 #[AG [I a0.Trips,I a0.Room,SL A1 a0.Counts.length c2],AG [I a1.Who,I a1.From,I a1.To,I a1.Told,I a1.Unit,I a1.Under,I a1.Over]] w (RetV w (B r)):=by
 unfold tally_isCount at H
 refine fn_of (n:=48) Tryd.func81 rfl rfl (lE rfl) ?_
 have S:=St.start w nF _ (cA h3 nM)
 refine c_seq<|reg<|p_boxA rfl S fun b4 w5 S6=>p_boxA rfl S6 fun b7 w8 S9=>p_aB rfl<|wp_nil ?_
 refine c_join (α:=Bool) (β:=Unit) (fun z_1 y_1=>[(3,P b7 0),(5,B z_1)]) (fun z_1 y_1 w_=>tally_isCount_j1 a1 z_1=some r∧St w nF w_ [bl b7 [I a1.Who,I a1.From,I a1.To,I a1.Told,I a1.Unit,I a1.Under,I a1.Over] 81] [rd eTallyCount 7 A1 c2 a0.Counts]) ?_ ?_
 ·refine reg<|p_fld fl81_0 rfl<|p_ld ty3 (S9.atX (i:=0) rfl) rfl rfl ?_
  obtain ⟨r10,h11,H⟩:=bindS H
  refine p_cv (tally_within_ok h11) fu80 rfl S9 fun w12 S13=>p_mB rfl ?_
  rcases bE (r10) with c14 | c14
  ·replace H:=condT c14 H
   refine eB c14 ?_
   refine gT rfl rfl (p_ldA ty24 sz24 (S13.atX (i:=1) rfl) rfl rfl ?_)
   refine gT rfl rfl (p_fld fl81_1 rfl ?_)
   refine gT rfl rfl (p_ld ty3 (S13.atX (i:=0) rfl) rfl rfl ?_)
   refine gT rfl rfl (p_fld fl81_2 rfl ?_)
   refine gT rfl rfl (p_ld ty3 (S13.atX (i:=0) rfl) rfl rfl ?_)
   obtain ⟨r15,h16,H⟩:=bindS H
   refine gT rfl rfl (p_cv (tally_isTrips_ok h16 (S13.atP (i:=0) rfl)) fu78 rfl S13 fun w17 S18=>?_)
   refine p_pkT rfl (rfl:_=B r15)<|p_mB rfl ?_
   rcases bE (r15) with c19 | c19
   ·replace H:=condT c19 H
    refine eB c19 ?_
    refine gT rfl rfl (p_fld fl81_3 rfl ?_)
    refine gT rfl rfl (p_ld ty3 (S18.atX (i:=0) rfl) rfl rfl ?_)
    obtain ⟨r20,h21,H⟩:=bindS H
    refine gT rfl rfl (p_cv (tally_within_ok h21) fu80 rfl S18 fun w22 S23=>?_)
    refine p_pkT rfl (rfl:_=B r20)<|p_mB rfl ?_
    rcases bE (r20) with c24 | c24
    ·replace H:=condT c24 H
     refine eB c24 ?_
     refine gT rfl rfl (p_fld fl81_4 rfl ?_)
     refine gT rfl rfl (p_ld ty3 (S23.atX (i:=0) rfl) rfl rfl ?_)
     obtain ⟨r25,h26,H⟩:=bindS H
     refine gT rfl rfl (p_cv (tally_within_ok h26) fu80 rfl S23 fun w27 S28=>?_)
     refine p_pkT rfl (rfl:_=B r25)<|p_aB rfl<|wp_nil ?_
     have S29:=S28.pk [0] (by decide) [0] rfl rfl
     exact ⟨r25,(),_,rfl,⟨rfl,rfl,trivial⟩,H,S29⟩
    ·replace H:=condF c24 H
     refine eB c24<|gF rfl rfl<|gF rfl rfl<|gF rfl rfl<|p_pkF rfl (rfl:_=B false)<|p_aB rfl<|wp_nil ?_
     have S29:=S23.pk [0] (by decide) [0] rfl rfl
     exact ⟨false,(),_,rfl,⟨rfl,rfl,trivial⟩,H,S29⟩
   ·replace H:=condF c19 H
    refine eB c19<|gF rfl rfl<|gF rfl rfl<|gF rfl rfl<|p_pkF rfl (rfl:_=B false)<|p_mB rfl<|gF rfl rfl<|gF rfl rfl<|gF rfl rfl<|p_pkF rfl (rfl:_=B false)<|p_aB rfl<|wp_nil ?_
    have S29:=S18.pk [0] (by decide) [0] rfl rfl
    exact ⟨false,(),_,rfl,⟨rfl,rfl,trivial⟩,H,S29⟩
  ·replace H:=condF c14 H
   refine eB c14<|gF rfl rfl<|gF rfl rfl<|gF rfl rfl<|gF rfl rfl<|gF rfl rfl<|gF rfl rfl<|p_pkF rfl (rfl:_=B false)<|p_mB rfl<|gF rfl rfl<|gF rfl rfl<|gF rfl rfl<|p_pkF rfl (rfl:_=B false)<|p_mB rfl<|gF rfl rfl<|gF rfl rfl<|gF rfl rfl<|p_pkF rfl (rfl:_=B false)<|p_aB rfl<|wp_nil ?_
   have S29:=S13.pk [0] (by decide) [0] rfl rfl
   exact ⟨false,(),_,rfl,⟨rfl,rfl,trivial⟩,H,S29⟩
 ·intro z_1 y_1 e10 w11 S12; obtain ⟨H,S12⟩:=S12
  unfold tally_isCount_j1 at H
  refine c_seq<|reg<|p_mB rfl<|p_mB rfl ?_
  rcases bE (z_1) with c13 | c13
  ·replace H:=condT c13 H
   refine eB c13 ?_
   refine gT rfl rfl (p_fld fl81_5 rfl ?_)
   refine gT rfl rfl (p_ld ty3 (S12.atX (i:=0) rfl) rfl rfl ?_)
   obtain ⟨r14,h15,H⟩:=bindS H
   refine gT rfl rfl (p_cv (tally_within_ok h15) fu80 rfl S12 fun w16 S17=>?_)
   refine p_pkT rfl (rfl:_=B r14)<|p_mB rfl ?_
   rcases bE (r14) with c18 | c18
   ·replace H:=condT c18 H
    refine eB c18 ?_
    refine gT rfl rfl (p_fld fl81_6 rfl ?_)
    refine gT rfl rfl (p_ld ty3 (S17.atX (i:=0) rfl) rfl rfl ?_)
    obtain ⟨r19,h20,H⟩:=bindS H
    refine gT rfl rfl (p_cv (tally_within_ok h20) fu80 rfl S17 fun w21 S22=>?_)
    refine p_pkT rfl (rfl:_=B r19)<|p_mB rfl ?_
    rcases bE (r19) with c23 | c23
    ·replace H:=condT c23 H
     refine eB c23 ?_
     refine gT rfl rfl (p_fld fl81_0 rfl ?_)
     refine gT rfl rfl (p_ld ty3 (S22.atX (i:=0) rfl) rfl rfl ?_)
     refine gT rfl rfl (p_cmp rfl rfl rfl ?_)
     refine gT rfl rfl (p_mB rfl ?_)
     rcases bE ((a1.Who != 1)) with c24 | c24
     ·replace H:=condT c24 H
      refine eB c24<|gF rfl rfl<|gF rfl rfl<|gF rfl rfl ?_
      refine gT rfl rfl (p_pkT rfl (rfl:_=B true) ?_)
      refine p_pkT rfl (rfl:_=B true)<|p_aB rfl<|wp_nil ?_
      obtain rfl:=sJ H
      exact c_ret (rT Tryd.f81 S22.keep rfl rfl)
     ·replace H:=condF c24 H
      refine eB c24 ?_
      refine gT rfl rfl (p_fld fl81_6 rfl ?_)
      refine gT rfl rfl (p_ld ty3 (S22.atX (i:=0) rfl) rfl rfl ?_)
      refine gT rfl rfl (p_cmp rfl rfl rfl ?_)
      refine gT rfl rfl (p_pkF rfl (rfl:_=B (a1.Over==0)) ?_)
      refine p_pkT rfl (rfl:_=B (a1.Over==0))<|p_aB rfl<|wp_nil ?_
      obtain rfl:=sJ H
      exact c_ret (rT Tryd.f81 S22.keep rfl rfl)
    ·replace H:=condF c23 H
     refine eB c23<|gF rfl rfl<|gF rfl rfl<|gF rfl rfl<|gF rfl rfl ?_
     refine o_guardU rfl rfl ?_
     refine o_guardU rfl rfl ?_
     refine o_guardU rfl rfl ?_
     refine gF rfl rfl<|p_pkF rfl (rfl:_=B false)<|p_aB rfl<|wp_nil ?_
     obtain rfl:=sJ H
     exact c_ret (rT Tryd.f81 S22.keep rfl rfl)
   ·replace H:=condF c18 H
    refine eB c18<|gF rfl rfl<|gF rfl rfl<|gF rfl rfl<|p_pkF rfl (rfl:_=B false)<|p_mB rfl<|gF rfl rfl<|gF rfl rfl<|gF rfl rfl<|gF rfl rfl ?_
    refine o_guardU rfl rfl ?_
    refine o_guardU rfl rfl ?_
    refine o_guardU rfl rfl ?_
    refine gF rfl rfl<|p_pkF rfl (rfl:_=B false)<|p_aB rfl<|wp_nil ?_
    obtain rfl:=sJ H
    exact c_ret (rT Tryd.f81 S17.keep rfl rfl)
  ·replace H:=condF c13 H
   refine eB c13<|gF rfl rfl<|gF rfl rfl<|gF rfl rfl<|p_pkF rfl (rfl:_=B false)<|p_mB rfl<|gF rfl rfl<|gF rfl rfl<|gF rfl rfl<|p_pkF rfl (rfl:_=B false)<|p_mB rfl<|gF rfl rfl<|gF rfl rfl<|gF rfl rfl<|gF rfl rfl ?_
   refine o_guardU rfl rfl ?_
   refine o_guardU rfl rfl ?_
   refine o_guardU rfl rfl ?_
   refine gF rfl rfl<|p_pkF rfl (rfl:_=B false)<|p_aB rfl<|wp_nil ?_
   obtain rfl:=sJ H
   exact c_ret (rT Tryd.f81 S12.keep rfl rfl)
def tally_Check_l2 (a0:TallyBook) (rec_z_2:(Bool×Int)→Option Int) (z_2:Bool×Int):Option Int:=
 bif decide (z_2.2 < (a0.Counts.length:Int)) then ((getI a0.Counts z_2.2).bind fun r15=>
 bif z_2.1 then ((tally_isCount a0 r15).bind fun r23=>
 rec_z_2 (r23,wr (z_2.2+1)))
 else (rec_z_2 (false,wr (z_2.2+1))))
 else (bif !z_2.1 then (some 50)
 else (some 0))
def tally_Check_j3 (a0:TallyBook) (z_1:Bool):Option Int:=
 loopF (tally_Check_l2 a0) big (z_1,0)
def tally_Check (a0:TallyBook):Option Int:=
 (tally_within a0.Trips 1 8).bind fun r7=>
 bif r7 then ((tally_within a0.Room 0 60).bind fun r12=>
 bif r12 then (tally_Check_j3 a0 (decide ((a0.Counts.length:Int)≤8)))
 else (tally_Check_j3 a0 false))
 else (tally_Check_j3 a0 false)
set_option maxRecDepth 100000 in
theorem tally_Check_ok {a0:TallyBook}{A1:Option Addr}{c2:Nat}{w:World}{r:Int} (H:tally_Check a0=some r) (h3:(rd eTallyCount 7 A1 c2 a0.Counts).ok w):Calls Tryd.prog 49 #[AG [I a0.Trips,I a0.Room,SL A1 a0.Counts.length c2]] w (RetV w (I r)):=by
 unfold tally_Check at H
 refine fn_of (n:=36) Tryd.func49 rfl rfl (lE rfl) ?_
 have S:=St.start w nF _ (cA h3 nM)
 refine c_seq<|reg<|p_boxA rfl S fun b4 w5 S6=>p_aI rfl<|wp_nil ?_
 refine c_join (α:=Bool) (β:=Unit) (fun z_1 y_1=>[(1,P b4 0),(3,B z_1)]) (fun z_1 y_1 w_=>tally_Check_j3 a0 z_1=some r∧St w nF w_ [bl b4 [I a0.Trips,I a0.Room,SL A1 a0.Counts.length c2] 24] [rd eTallyCount 7 A1 c2 a0.Counts]) ?_ ?_
 ·refine reg<|p_fld fl24_0 rfl<|p_ld ty3 (S6.atX (i:=0) rfl) rfl rfl ?_
  obtain ⟨r7,h8,H⟩:=bindS H
  refine p_cv (tally_within_ok h8) fu80 rfl S6 fun w9 S10=>p_mB rfl ?_
  rcases bE (r7) with c11 | c11
  ·replace H:=condT c11 H
   refine eB c11 ?_
   refine gT rfl rfl (p_fld fl24_1 rfl ?_)
   refine gT rfl rfl (p_ld ty3 (S10.atX (i:=0) rfl) rfl rfl ?_)
   obtain ⟨r12,h13,H⟩:=bindS H
   refine gT rfl rfl (p_cv (tally_within_ok h13) fu80 rfl S10 fun w14 S15=>?_)
   refine p_pkT rfl (rfl:_=B r12)<|p_mB rfl ?_
   rcases bE (r12) with c16 | c16
   ·replace H:=condT c16 H
    refine eB c16 ?_
    refine gT rfl rfl (p_fld fl24_2 rfl ?_)
    refine gT rfl rfl (p_ld ty22 (S15.atX (i:=0) rfl) rfl rfl ?_)
    refine gT rfl rfl (p_len rfl sc22 ?_)
    refine gT rfl rfl (p_cmp rfl rfl rfl ?_)
    exact p_pkT rfl (rfl:_=B (decide ((a0.Counts.length:Int)≤8)))<|p_aB rfl<|wp_nil ⟨decide ((a0.Counts.length:Int)≤8),(),_,rfl,⟨rfl,rfl,trivial⟩,H,S15⟩
   ·replace H:=condF c16 H
    refine eB c16<|gF rfl rfl<|gF rfl rfl<|gF rfl rfl<|gF rfl rfl<|p_pkF rfl (rfl:_=B false)<|p_aB rfl<|wp_nil ?_
    exact ⟨false,(),_,rfl,⟨rfl,rfl,trivial⟩,H,S15⟩
  ·replace H:=condF c11 H
   refine eB c11<|gF rfl rfl<|gF rfl rfl<|gF rfl rfl<|p_pkF rfl (rfl:_=B false)<|p_mB rfl<|gF rfl rfl<|gF rfl rfl<|gF rfl rfl<|gF rfl rfl<|p_pkF rfl (rfl:_=B false)<|p_aB rfl<|wp_nil ?_
   exact ⟨false,(),_,rfl,⟨rfl,rfl,trivial⟩,H,S10⟩
 ·intro z_1 y_1 e7 w8 S9; obtain ⟨H,S9⟩:=S9
  unfold tally_Check_j3 at H
  refine c_seq<|c_seq<|reg<|p_fld fl24_2 rfl<|p_ld ty22 (S9.atX (i:=0) rfl) rfl rfl<|p_len rfl sc22<|p_mI rfl<|wp_nil<|c_block ?_
  refine c_lop (α:=Bool×Int) (β:=Unit) (tally_Check_l2 a0) (fun z_2 y_2=>[(1,P b4 0),(3,B z_2.1),(21,SL A1 a0.Counts.length c2),(22,I (a0.Counts.length:Int)),(23,I z_2.2)]) (fun z_2 y_2 w_=>St w nF w_ [bl b4 [I a0.Trips,I a0.Room,SL A1 a0.Counts.length c2] 24] [rd eTallyCount 7 A1 c2 a0.Counts]) (z_1,0) () H ⟨rfl,rfl,rfl,rfl,rfl,trivial⟩ S9 ?_
  intro m10 z_2 y_2 e11 w12 H S13
  unfold tally_Check_l2 at H
  refine c_seq<|reg<|p_cmp rfl rfl rfl<|wp_nil<|c_seq ?_
  refine c_cond rfl (fun c14=>?_) (fun c14=>?_)
  ·replace H:=condT c14 H
   refine c_skip<|c_seq<|c_block<|c_seq<|reg ?_
   obtain ⟨r15,h16,H⟩:=bindS H
   refine p_ixE sc22 h16 (S13.atP (i:=0) rfl).1 rfl rfl rfl<|p_ldEA ty81 sz81 rfl h16 (S13.atP (i:=0) rfl).1 rfl<|p_allA in81 S13 fun b17 w18 S19=>?_
   refine p_stP (pre:=[]) (old:=[I 0,I 0,I 0,I 0,I 0,I 0,I 0]) (post:=[]) (vs:=[I r15.Who,I r15.From,I r15.To,I r15.Told,I r15.Unit,I r15.Under,I r15.Over]) sz81 S19 (i:=0) rfl rfl rfl rfl (rfl:_=AG [I r15.Who,I r15.From,I r15.To,I r15.Told,I r15.Unit,I r15.Under,I r15.Over]) rfl rfl rfl rfl fun w20 S21=>wp_nil<|reg<|p_mB rfl<|p_mB rfl ?_
   rcases bE (z_2.1) with c22 | c22
   ·replace H:=condT c22 H
    refine eB c22 ?_
    refine gT rfl rfl (p_ldA ty24 sz24 (S21.atX (i:=1) rfl) rfl rfl ?_)
    refine gT rfl rfl (p_ldA ty81 sz81 (S21.atX (i:=0) rfl) rfl rfl ?_)
    obtain ⟨r23,h24,H⟩:=bindS H
    refine gT rfl rfl (p_cv (tally_isCount_ok h24 (S21.atP (i:=0) rfl)) fu81 rfl S21 fun w25 S26=>?_)
    refine p_pkT rfl (rfl:_=B r23)<|p_aB rfl<|wp_nil<|reg<|p_add rfl rfl<|p_mI rfl<|wp_nil ?_
    have S27:=S26.pk [1] (by decide) [0] rfl rfl
    exact ⟨(r23,wr (z_2.2+1)),(),_,rfl,⟨rfl,rfl,rfl,rfl,rfl,trivial⟩,H,S27⟩
   ·replace H:=condF c22 H
    refine eB c22<|gF rfl rfl<|gF rfl rfl<|gF rfl rfl<|p_pkF rfl (rfl:_=B false)<|p_aB rfl<|wp_nil<|reg<|p_add rfl rfl<|p_mI rfl<|wp_nil ?_
    have S28:=S21.pk [1] (by decide) [0] rfl rfl
    exact ⟨(false,wr (z_2.2+1)),(),_,rfl,⟨rfl,rfl,rfl,rfl,rfl,trivial⟩,H,S28⟩
  ·replace H:=condF c14 H
   refine c_exit<|c_seq<|c_seq<|reg<|p_mB rfl<|p_not rfl<|wp_nil ?_
   refine c_cond rfl (fun c29=>?_) (fun c29=>?_)
   ·replace H:=condT c29 H
    refine c_seq<|reg<|p_aI rfl<|wp_nil ?_
    obtain rfl:=sJ H
    exact c_ret (rT Tryd.f49 S13.keep rfl rfl)
   ·replace H:=condF c29 H
    refine c_skip<|c_seq<|reg<|p_aI rfl<|wp_nil ?_
    obtain rfl:=sJ H
    exact c_ret (rT Tryd.f49 S13.keep rfl rfl)
def tally_sum_l1 (a0:List Int) (rec_z_1:(Int×Int)→Option Int) (z_1:Int×Int):Option Int:=
 bif decide (z_1.2 < (a0.length:Int)) then ((getI a0 z_1.2).bind fun r9=>
 rec_z_1 (wr (z_1.1+r9),wr (z_1.2+1)))
 else (some z_1.1)
def tally_sum (a0:List Int):Option Int:=
 loopF (tally_sum_l1 a0) big (0,0)
set_option maxRecDepth 100000 in
theorem tally_sum_ok {a0:List Int}{A1:Option Addr}{c2:Nat}{w:World}{r:Int} (H:tally_sum a0=some r) (h3:(rd intE 1 A1 c2 a0).ok w):Calls Tryd.prog 111 #[SL A1 a0.length c2] w (RetV w (I r)):=by
 unfold tally_sum at H
 refine fn_of (n:=17) Tryd.func111 rfl rfl (lE rfl) ?_
 have S:=St.start w nF _ (cA h3 nM)
 refine c_seq<|reg<|p_aI rfl<|wp_nil<|c_seq<|reg<|p_aI rfl<|wp_nil<|c_seq<|c_seq<|reg<|p_mS rfl<|p_len rfl sc30<|p_mI rfl<|wp_nil<|c_block ?_
 refine c_lop (α:=Int×Int) (β:=Unit) (tally_sum_l1 a0) (fun z_1 y_1=>[(3,I z_1.1),(6,SL A1 a0.length c2),(7,I (a0.length:Int)),(8,I z_1.2)]) (fun z_1 y_1 w_=>St w nF w_ [] [rd intE 1 A1 c2 a0]) (0,0) () H ⟨rfl,rfl,rfl,rfl,trivial⟩ S ?_
 intro m4 z_1 y_1 e5 w6 H S7
 unfold tally_sum_l1 at H
 refine c_seq<|reg<|p_cmp rfl rfl rfl<|wp_nil<|c_seq ?_
 refine c_cond rfl (fun c8=>?_) (fun c8=>?_)
 ·replace H:=condT c8 H
  refine c_skip<|c_seq<|c_block<|c_seq<|reg ?_
  obtain ⟨r9,h10,H⟩:=bindS H
  refine p_ixE sc30 h10 (S7.atP (i:=0) rfl).1 rfl rfl rfl<|p_ldE ty3 h10 (S7.atP (i:=0) rfl).1 rfl rfl<|p_aI rfl<|wp_nil<|reg<|p_mI rfl<|p_mI rfl<|p_add rfl rfl<|p_aI rfl<|wp_nil<|reg<|p_add rfl rfl<|p_mI rfl<|wp_nil ?_
  exact ⟨(wr (z_1.1+r9),wr (z_1.2+1)),(),_,rfl,⟨rfl,rfl,rfl,rfl,trivial⟩,H,S7⟩
 ·replace H:=condF c8 H
  refine c_exit<|c_seq<|reg<|p_mI rfl<|p_aI rfl<|wp_nil ?_
  obtain rfl:=sJ H
  exact c_ret (rT Tryd.f111 S7.keep rfl rfl)
def tally_count_right (a0:TallyCount) (a1:List Int):Option Bool:=
 (cutI a1 a0.From (wr (a0.To+1))).bind fun r8=>
 (tally_sum r8).bind fun r10=>
 (tally_count_least a0).bind fun r12=>
 (tally_count_most a0).bind fun r14=>
 (tally_within r10 r12 r14).bind fun r16=>
 some r16
set_option maxRecDepth 100000 in
theorem tally_count_right_ok {a0:TallyCount}{a1:List Int}{A1:Option Addr}{c2:Nat}{w:World}{r:Bool} (H:tally_count_right a0 a1=some r) (h3:(rd intE 1 A1 c2 a1).ok w) (hg4:(gW2).ok w):Calls Tryd.prog 106 #[AG [I a0.Who,I a0.From,I a0.To,I a0.Told,I a0.Unit,I a0.Under,I a0.Over],SL A1 a1.length c2] w (RetV w (B r)):=by
 unfold tally_count_right at H
 refine fn_of (n:=22) Tryd.func106 rfl rfl (lE rfl) ?_
 have S:=St.start w nF _ (cA h3 (cA hg4 nM))
 refine c_seq<|reg<|p_boxA rfl S fun b5 w6 S7=>p_aB rfl<|wp_nil<|c_seq ?_
 obtain ⟨r8,h9,H⟩:=bindS H
 obtain ⟨r10,h11,H⟩:=bindS H
 obtain ⟨r12,h13,H⟩:=bindS H
 obtain ⟨r14,h15,H⟩:=bindS H
 obtain ⟨r16,h17,H⟩:=bindS H
 refine reg_q mixed 18 (by kernel_rfl) ?_
 refine dS (fun _ k_=>p_mS rfl dn)<|dS (fun _ k_=>p_fld fl140_1 rfl dn)<|dS (fun _ k_=>p_ld ty3 (aS (S7.atX (i:=0) rfl) k_) rfl rfl dn)<|dS (fun _ k_=>p_fld fl140_2 rfl dn)<|dS (fun _ k_=>p_ld ty3 (aS (S7.atX (i:=0) rfl) k_) rfl rfl dn)<|dS (fun _ k_=>p_add rfl rfl dn)<|dS (fun _ k_=>p_cut sc30 h9 (aS (S7.atP (i:=0) rfl) k_) rfl rfl rfl dn) ?_
 refine dS (fun _ k_=>p_cvD (tally_sum_ok h11 (rd_cut h9 (aS (S7.atP (i:=0) rfl) k_))) fu111 rfl)<|dS (fun _ k_=>p_ixc ar142 rfl rfl (by decide) (by decide) dn)<|dS (fun _ k_=>p_ld ty141 (aS (S7.atP (i:=1) rfl) k_) rfl rfl dn)<|dS (fun _ k_=>p_ldA ty140 sz140 (aS (S7.atX (i:=0) rfl) k_) rfl rfl dn)<|dS (fun _ k_=>p_cvD (tally_count_least_ok h13) fu128 rfl) ?_
 refine dS (fun _ k_=>p_ixc ar142 rfl rfl (by decide) (by decide) dn)<|dS (fun _ k_=>p_ld ty141 (aS (S7.atP (i:=1) rfl) k_) rfl rfl dn)<|dS (fun _ k_=>p_ldA ty140 sz140 (aS (S7.atX (i:=0) rfl) k_) rfl rfl dn)<|dS (fun _ k_=>p_cvD (tally_count_most_ok h15) fu132 rfl)<|dS (fun _ k_=>p_cvD (tally_within_ok h17) fu80 rfl)<|dS (fun _ k_=>p_aB rfl dn) ?_
 intro w18 k19; have S20:=S7.call k19
 refine wp_nil ?_
 obtain rfl:=sJ H
 exact c_ret (rT Tryd.f106 S20.keep rfl rfl)
def tally_Can_l2 (a0:TallyBook) (a1:List Int) (rec_z_2:Int→Option (Bool×Int)) (z_2:Int):Option (Bool×Int):=
 bif decide (z_2 < (a0.Counts.length:Int)) then ((getI a0.Counts z_2).bind fun r34=>
 (tally_count_right r34 a1).bind fun r36=>
 bif !r36 then (some (false,0))
 else (rec_z_2 (wr (z_2+1))))
 else (some (true,0))
def tally_Can_l3 (a1:List Int) (a0:TallyBook) (rec_z_1:Int→Option (Bool×Int)) (z_1:Int):Option (Bool×Int):=
 bif decide (z_1 < (a1.length:Int)) then ((getI a1 z_1).bind fun r22=>
 (tally_within r22 0 a0.Room).bind fun r24=>
 bif !r24 then (some (false,0))
 else (rec_z_1 (wr (z_1+1))))
 else (loopF (tally_Can_l2 a0 a1) big 0)
def tally_Can (a0:TallyBook) (a1:List Int):Option (Bool×Int):=
 (tally_Check a0).bind fun r11=>
 bif (r11 != 0) then (some (false,r11))
 else (bif ((a1.length:Int) != a0.Trips) then (some (false,51))
 else (loopF (tally_Can_l3 a1 a0) big 0))
set_option maxRecDepth 100000 in
theorem tally_Can_ok {a0:TallyBook}{a1:List Int}{A1:Option Addr}{c2:Nat}{A4:Option Addr}{c5:Nat}{w:World}{r:Bool×Int} (H:tally_Can a0 a1=some r) (h3:(rd eTallyCount 7 A1 c2 a0.Counts).ok w) (h6:(rd intE 1 A4 c5 a1).ok w) (hg7:(gW2).ok w):Calls Tryd.prog 94 #[AG [I a0.Trips,I a0.Room,SL A1 a0.Counts.length c2],SL A4 a1.length c5] w (RetV w (TU [B r.1,I r.2])):=by
 unfold tally_Can at H
 refine fn_of (n:=50) Tryd.func94 rfl rfl (lE rfl) ?_
 have S:=St.start w nF _ (cA h3 (cA h6 (cA hg7 nM)))
 refine c_seq<|reg<|p_boxA rfl S fun b8 w9 S10=>p_aB rfl<|p_aI rfl<|wp_nil<|c_seq<|c_seq<|reg<|p_ldA ty24 sz24 (S10.atX (i:=0) rfl) rfl rfl ?_
 obtain ⟨r11,h12,H⟩:=bindS H
 refine p_cv (tally_Check_ok h12 (S10.atP (i:=0) rfl)) fu49 rfl S10 fun w13 S14=>p_aI rfl<|wp_nil<|c_seq<|reg<|p_mI rfl<|p_cmp rfl rfl rfl<|wp_nil ?_
 refine c_cond rfl (fun c15=>?_) (fun c15=>?_)
 ·replace H:=condT c15 H
  refine c_seq<|reg<|p_mI rfl<|p_aB rfl<|p_aI rfl<|wp_nil ?_
  obtain rfl:=sJ H
  refine c_ret ?_; show bodyPostM (Fr none) 0 Tryd.prog Tryd.f94 _ .ret _ _
  refine ret_of (res2 rfl (rvT (rfl:_=B false)) (rvT (rfl:_=I r11))) ?_
  exact ⟨_,rfl,rfl,S14.keep⟩
 ·replace H:=condF c15 H
  refine c_skip<|c_seq<|c_seq<|reg<|p_mS rfl<|p_len rfl sc30<|p_fld fl24_0 rfl<|p_ld ty3 (S14.atX (i:=0) rfl) rfl rfl<|p_cmp rfl rfl rfl<|wp_nil ?_
  refine c_cond rfl (fun c16=>?_) (fun c16=>?_)
  ·replace H:=condT c16 H
   refine c_seq<|reg<|p_aB rfl<|p_aI rfl<|wp_nil ?_
   obtain rfl:=sJ H
   refine c_ret ?_; show bodyPostM (Fr none) 0 Tryd.prog Tryd.f94 _ .ret _ _
   refine ret_of (res2 rfl (rvT (rfl:_=B false)) (rvT (rfl:_=I 51))) ?_
   exact ⟨_,rfl,rfl,S14.keep⟩
  ·replace H:=condF c16 H
   refine c_skip<|c_seq<|c_seq<|reg<|p_mS rfl<|p_len rfl sc30<|p_mI rfl<|wp_nil<|c_block ?_
   refine c_lop (α:=Int) (β:=Unit) (tally_Can_l3 a1 a0) (fun z_1 y_1=>[(1,SL A4 a1.length c5),(2,P b8 0),(21,SL A4 a1.length c5),(22,I (a1.length:Int)),(23,I z_1)]) (fun z_1 y_1 w_=>St w nF w_ [bl b8 [I a0.Trips,I a0.Room,SL A1 a0.Counts.length c2] 24] [rd eTallyCount 7 A1 c2 a0.Counts,rd intE 1 A4 c5 a1,gW2]) 0 () H ⟨rfl,rfl,rfl,rfl,rfl,trivial⟩ S14 ?_
   intro m17 z_1 y_1 e18 w19 H S20
   unfold tally_Can_l3 at H
   refine c_seq<|reg<|p_cmp rfl rfl rfl<|wp_nil<|c_seq ?_
   refine c_cond rfl (fun c21=>?_) (fun c21=>?_)
   ·replace H:=condT c21 H
    refine c_skip<|c_seq<|c_block<|c_seq<|reg ?_
    obtain ⟨r22,h23,H⟩:=bindS H
    refine p_ixE sc30 h23 (S20.atP (i:=1) rfl).1 rfl rfl rfl<|p_ldE ty3 h23 (S20.atP (i:=1) rfl).1 rfl rfl<|p_aI rfl<|wp_nil<|c_seq<|reg<|p_mI rfl<|p_fld fl24_1 rfl<|p_ld ty3 (S20.atX (i:=0) rfl) rfl rfl ?_
    obtain ⟨r24,h25,H⟩:=bindS H
    refine p_cv (tally_within_ok h25) fu80 rfl S20 fun w26 S27=>p_not rfl<|wp_nil ?_
    refine c_cond rfl (fun c28=>?_) (fun c28=>?_)
    ·replace H:=condT c28 H
     refine c_seq<|reg<|p_aB rfl<|p_aI rfl<|wp_nil ?_
     obtain rfl:=sJ H
     refine c_ret ?_; show bodyPostM (Fr none) 0 Tryd.prog Tryd.f94 _ .ret _ _
     refine ret_of (res2 rfl (rvT (rfl:_=B false)) (rvT (rfl:_=I 0))) ?_
     exact ⟨_,rfl,rfl,S27.keep⟩
    ·replace H:=condF c28 H
     refine c_skip<|reg<|p_add rfl rfl<|p_mI rfl<|wp_nil ?_
     exact ⟨wr (z_1+1),(),_,rfl,⟨rfl,rfl,rfl,rfl,rfl,trivial⟩,H,S27⟩
   ·replace H:=condF c21 H
    refine c_exit<|c_seq<|c_seq<|reg<|p_fld fl24_2 rfl<|p_ld ty22 (S20.atX (i:=0) rfl) rfl rfl<|p_len rfl sc22<|p_mI rfl<|wp_nil<|c_block ?_
    refine c_lop (α:=Int) (β:=Unit) (tally_Can_l2 a0 a1) (fun z_2 y_2=>[(1,SL A4 a1.length c5),(2,P b8 0),(35,I (a0.Counts.length:Int)),(36,I z_2)]) (fun z_2 y_2 w_=>St w nF w_ [bl b8 [I a0.Trips,I a0.Room,SL A1 a0.Counts.length c2] 24] [rd eTallyCount 7 A1 c2 a0.Counts,rd intE 1 A4 c5 a1,gW2]) 0 () H ⟨rfl,rfl,rfl,rfl,trivial⟩ S20 ?_
    intro m29 z_2 y_2 e30 w31 H S32
    unfold tally_Can_l2 at H
    refine c_seq<|reg<|p_cmp rfl rfl rfl<|wp_nil<|c_seq ?_
    refine c_cond rfl (fun c33=>?_) (fun c33=>?_)
    ·replace H:=condT c33 H
     refine c_skip<|c_seq<|c_block<|c_seq<|reg<|p_mI rfl<|p_aI rfl<|wp_nil<|c_seq<|reg<|p_fld fl24_2 rfl<|p_ld ty22 (S32.atX (i:=0) rfl) rfl rfl<|p_mI rfl ?_
     obtain ⟨r34,h35,H⟩:=bindS H
     refine p_ixE sc22 h35 (S32.atP (i:=0) rfl).1 rfl rfl rfl<|p_ldEA ty81 sz81 rfl h35 (S32.atP (i:=0) rfl).1 rfl ?_
     refine o_fun (rfl:_=[AG [I r34.Who,I r34.From,I r34.To,I r34.Told,I r34.Unit,I r34.Under,I r34.Over]]) (rfl:_=[]) ?_
     refine p_asg (rfl:_=vF (.func 106) #[AG [I r34.Who,I r34.From,I r34.To,I r34.Told,I r34.Unit,I r34.Under,I r34.Over]] #[])<|wp_nil<|c_seq<|reg<|p_mov (rfl:_=vF (.func 106) #[AG [I r34.Who,I r34.From,I r34.To,I r34.Told,I r34.Unit,I r34.Under,I r34.Over]] #[])<|p_mS rfl ?_
     obtain ⟨r36,h37,H⟩:=bindS H
     refine p_cv (tally_count_right_ok h37 (S32.atP (i:=1) rfl) (S32.atP (i:=2) rfl)) fu106 rfl S32 fun w38 S39=>p_not rfl<|wp_nil ?_
     refine c_cond rfl (fun c40=>?_) (fun c40=>?_)
     ·replace H:=condT c40 H
      refine c_seq<|reg<|p_aB rfl<|p_aI rfl<|wp_nil ?_
      obtain rfl:=sJ H
      refine c_ret ?_; show bodyPostM (Fr none) 0 Tryd.prog Tryd.f94 _ .ret _ _
      refine ret_of (res2 rfl (rvT (rfl:_=B false)) (rvT (rfl:_=I 0))) ?_
      exact ⟨_,rfl,rfl,S39.keep⟩
     ·replace H:=condF c40 H
      refine c_skip<|reg<|p_add rfl rfl<|p_mI rfl<|wp_nil ?_
      exact ⟨wr (z_2+1),(),_,rfl,⟨rfl,rfl,rfl,rfl,trivial⟩,H,S39⟩
    ·replace H:=condF c33 H
     refine c_exit<|c_seq<|reg<|p_aB rfl<|p_aI rfl<|wp_nil ?_
     obtain rfl:=sJ H
     refine c_ret ?_; show bodyPostM (Fr none) 0 Tryd.prog Tryd.f94 _ .ret _ _
     refine ret_of (res2 rfl (rvT (rfl:_=B true)) (rvT (rfl:_=I 0))) ?_
     exact ⟨_,rfl,rfl,S32.keep⟩
def ticket_book_truths_1_2_l1 {σ:Type} (q0:Ticket_book) (a1:Int) (rec_:Ticket_truth→Int→σ→Option (Bool×σ)) (a0:Ticket_truth) (rec_z_1:(Int×(List Int)×σ)→Option (Bool×σ)) (z_1:Int×(List Int)×σ):Option (Bool×σ):=
 bif decide (z_1.1 < (wr (q0.TicketBook.Tally.Room+1))) then (need (inI a1 3)<|
 (rec_ (Ticket_truth.mk (aset z_1.2.1 3 a1 z_1.1) a0.used_) (wr (a1+1)) z_1.2.2).bind fun r70=>
 bif !r70.1 then (some (false,r70.2))
 else (rec_z_1 (wr (z_1.1+1),aset z_1.2.1 3 a1 z_1.1,r70.2)))
 else (some (true,z_1.2.2))
def ticket_book_truths_1_2_F {σ:Type} (rec_:Ticket_truth→Int→σ→Option (Bool×σ)) (a0:Ticket_truth) (a1:Int) (s_:σ) (q0:Ticket_book) (q1_2:Ticket_book) (yv:Ticket_truth→σ→Option (Bool×σ)):Option (Bool×σ):=
 bif (a1==q0.TicketBook.Tally.Trips) then ((cutI (sgl a0.crossed_ 3) 0 a1).bind fun r45=>
 (tally_Can q0.TicketBook.Tally r45).bind fun r48=>
 bif !r48.1 then (some (true,s_))
 else ((ticket_book_truths_1_1 big a0 0 s_ q0 q1_2 yv).bind fun r54=>
 some (r54.1,r54.2)))
 else (loopF (ticket_book_truths_1_2_l1 q0 a1 rec_ a0) big (0,a0.crossed_,s_))
def ticket_book_truths_1_2 {σ:Type}:Nat→Ticket_truth→Int→σ→Ticket_book→Ticket_book→(Ticket_truth→σ→Option (Bool×σ))→Option (Bool×σ)
 | 0,_,_,_,_,_,_=>none
 | n+1,a0,a1,s_,q0,q1_2,yv=>ticket_book_truths_1_2_F (fun x0_ x1_ x2_=>ticket_book_truths_1_2 n x0_ x1_ x2_ q0 q1_2 yv) a0 a1 s_ q0 q1_2 yv
set_option maxRecDepth 100000 in
theorem ticket_book_truths_1_2_ok {σ:Type}{l_:Nat}{G_:σ→Asr→Prop}{wb_:World}{C0_:Nat→Prop}{n:Nat}:∀ {A_:Asr}{a0:Ticket_truth}{a1:Int}{s_:σ}{q0:Ticket_book}{q1_2:Ticket_book}{yv:Ticket_truth→σ→Option (Bool×σ)}{b1:Nat}{A4:Option Addr}{c5:Nat}{A7:Option Addr}{c8:Nat}{A10:Option Addr}{c11:Nat}{A13:Option Addr}{c14:Nat}{m16:Option Nat}{b19:Nat}{b21:Nat}{A22:Option Addr}{c23:Nat}{A25:Option Addr}{c26:Nat}{A28:Option Addr}{c29:Nat}{A31:Option Addr}{c32:Nat}{m34:Option Nat}{b2:Nat}{b3:Nat}{w:World}{r:Bool×σ} (H:ticket_book_truths_1_2 n a0 a1 s_ q0 q1_2 yv=some r) (hG_:(ga G_ s_ A_).ok w) (h38:(bl b3 [vF (.func 93) #[] #[P b1 0,P b2 0,P b3 0]] 135).ok w) (h37:(bl b2 [vF (.func 91) #[] #[P b1 0,P b19 0,P b21 0,P b2 0]] 135).ok w) (h36:(bl b21 [vF (.func 90) #[AG ((vB q1_2.TicketBook A22 c23 A25 c26 A28 c29 A31 c32)++(sg q1_2.shown_ 3++[Value.map m34]))] #[]] 135).ok w) (h20:(bl b19 [Value.func (.yield l_) #[] #[]] 134).ok w) (h18:(bl b1 ((vB q0.TicketBook A4 c5 A7 c8 A10 c11 A13 c14)++(sg q0.shown_ 3++[Value.map m16])) 92).ok w) (h6:(rd eTallyCount 7 A4 c5 q0.TicketBook.Tally.Counts).ok w) (h9:(rd eTicketSeason 2 A7 c8 q0.TicketBook.Tickets).ok w) (h12:(rd eTicketShow 3 A10 c11 q0.TicketBook.Shows).ok w) (h15:(rd eTicketBox 4 A13 c14 q0.TicketBook.Boxes).ok w) (h17:(mpo ekS iE m16 q0.by_).ok w) (h24:(rd eTallyCount 7 A22 c23 q1_2.TicketBook.Tally.Counts).ok w) (h27:(rd eTicketSeason 2 A25 c26 q1_2.TicketBook.Tickets).ok w) (h30:(rd eTicketShow 3 A28 c29 q1_2.TicketBook.Shows).ok w) (h33:(rd eTicketBox 4 A31 c32 q1_2.TicketBook.Boxes).ok w) (h35:(mpo ekS iE m34 q1_2.by_).ok w) (hg39:(gW2).ok w) (hd_:∀ p∈([bl b3 [vF (.func 93) #[] #[P b1 0,P b2 0,P b3 0]] 135,bl b2 [vF (.func 91) #[] #[P b1 0,P b19 0,P b21 0,P b2 0]] 135,bl b21 [vF (.func 90) #[AG ((vB q1_2.TicketBook A22 c23 A25 c26 A28 c29 A31 c32)++(sg q1_2.shown_ 3++[Value.map m34]))] #[]] 135,bl b19 [Value.func (.yield l_) #[] #[]] 134,bl b1 ((vB q0.TicketBook A4 c5 A7 c8 A10 c11 A13 c14)++(sg q0.shown_ 3++[Value.map m16])) 92,rd eTallyCount 7 A4 c5 q0.TicketBook.Tally.Counts,rd eTicketSeason 2 A7 c8 q0.TicketBook.Tickets,rd eTicketShow 3 A10 c11 q0.TicketBook.Shows,rd eTicketBox 4 A13 c14 q0.TicketBook.Boxes,mpo ekS iE m16 q0.by_,rd eTallyCount 7 A22 c23 q1_2.TicketBook.Tally.Counts,rd eTicketSeason 2 A25 c26 q1_2.TicketBook.Tickets,rd eTicketShow 3 A28 c29 q1_2.TicketBook.Shows,rd eTicketBox 4 A31 c32 q1_2.TicketBook.Boxes,mpo ekS iE m34 q1_2.by_,gW2]:List Asr),∀ b,p.fp b→¬A_.fp b) (hy_:YH Tryd.prog l_ yE0 yv G_ wb_ C0_) (hl_:Link wb_ C0_ w A_.fp),Calls Tryd.prog 93 #[AG (sg a0.crossed_ 3++sg a0.used_ 3),I a1,P b1 0,P b2 0,P b3 0] w (fun en w_=>∃ u_,en=.returned u_∧∃ A'_:Asr,u_=B r.1∧Keep A_.fp w w_∧(ga G_ r.2 A'_).ok w_∧(∀ b_,A'_.fp b_→A_.fp b_∨w.heap.size≤b_)):=by
 induction n with
 | zero=>intro A_ a0 a1 s_ q0 q1_2 yv b1 A4 c5 A7 c8 A10 c11 A13 c14 m16 b19 b21 A22 c23 A25 c26 A28 c29 A31 c32 m34 b2 b3 w r H hG_ h38 h37 h36 h20 h18 h6 h9 h12 h15 h17 h24 h27 h30 h33 h35 hg39 hd_ hy_ hl_; cases H
 | succ n ih=>
 intro A_ a0 a1 s_ q0 q1_2 yv b1 A4 c5 A7 c8 A10 c11 A13 c14 m16 b19 b21 A22 c23 A25 c26 A28 c29 A31 c32 m34 b2 b3 w r H hG_ h38 h37 h36 h20 h18 h6 h9 h12 h15 h17 h24 h27 h30 h33 h35 hg39 hd_ hy_ hl_
 unfold ticket_book_truths_1_2 ticket_book_truths_1_2_F at H
 refine fn_of (n:=54) Tryd.func93 rfl rfl (lE rfl) ?_
 have S:St w A_.fp w [ga G_ s_ A_] [bl b3 [vF (.func 93) #[] #[P b1 0,P b2 0,P b3 0]] 135,bl b2 [vF (.func 91) #[] #[P b1 0,P b19 0,P b21 0,P b2 0]] 135,bl b21 [vF (.func 90) #[AG ((vB q1_2.TicketBook A22 c23 A25 c26 A28 c29 A31 c32)++(sg q1_2.shown_ 3++[Value.map m34]))] #[]] 135,bl b19 [Value.func (.yield l_) #[] #[]] 134,bl b1 ((vB q0.TicketBook A4 c5 A7 c8 A10 c11 A13 c14)++(sg q0.shown_ 3++[Value.map m16])) 92,rd eTallyCount 7 A4 c5 q0.TicketBook.Tally.Counts,rd eTicketSeason 2 A7 c8 q0.TicketBook.Tickets,rd eTicketShow 3 A10 c11 q0.TicketBook.Shows,rd eTicketBox 4 A13 c14 q0.TicketBook.Boxes,mpo ekS iE m16 q0.by_,rd eTallyCount 7 A22 c23 q1_2.TicketBook.Tally.Counts,rd eTicketSeason 2 A25 c26 q1_2.TicketBook.Tickets,rd eTicketShow 3 A28 c29 q1_2.TicketBook.Shows,rd eTicketBox 4 A31 c32 q1_2.TicketBook.Boxes,mpo ekS iE m34 q1_2.by_,gW2]:=St.startX (ga G_ s_ A_) hG_ (cA h38 (cA h37 (cA h36 (cA h20 (cA h18 (cA h6 (cA h9 (cA h12 (cA h15 (cA h17 (cA h24 (cA h27 (cA h30 (cA h33 (cA h35 (cA hg39 nM)))))))))))))))) hd_
 refine c_seq<|reg<|p_boxA rfl S fun b40 w41 S42=>p_aB rfl<|wp_nil<|c_seq<|c_seq<|reg<|p_mI rfl<|p_fld fl92_0 rfl<|p_fld fl29_0 rfl<|p_fld fl24_0 rfl<|p_ld ty3 (S42.atP (i:=4) rfl) rfl rfl<|p_cmp rfl rfl rfl<|wp_nil ?_
 refine c_cond rfl (fun c43=>?_) (fun c43=>?_)
 ·replace H:=condT c43 H
  refine c_seq ?_
  have S44:=S42.fix (i:=0) rfl
  obtain ⟨r45,h46,H⟩:=bindS H
  have S47:=S44.arrRd3 (i:=0) (pre:=[]) (post:=sg a0.used_ 3) (o:=0) rfl rfl rfl h46 (by decide)
  obtain ⟨r48,h49,H⟩:=bindS H
  refine reg_q mixed 13 (by kernel_rfl) ?_
  refine dS (fun _ k_=>p_fld fl92_0 rfl dn)<|dS (fun _ k_=>p_fld fl29_0 rfl dn)<|dS (fun _ k_=>p_ldP (vs:=[I q0.TicketBook.Tally.Trips,I q0.TicketBook.Tally.Room,SL A4 q0.TicketBook.Tally.Counts.length c5]) ty24 sz24 (aS (S42.atP (i:=4) rfl) k_) rfl rfl rfl dn)<|dS (fun _ k_=>p_fld fl105_0 rfl dn)<|dS (fun _ k_=>p_mI rfl dn)<|dS (fun _ k_=>p_mI rfl dn) ?_
  refine dS (fun _ k_=>p_cutA3 ae31 sz3 h46 rfl rfl rfl dn)<|dS (fun _ k_=>p_cvD (tally_Can_ok h49 (aS (S47.atP (i:=7) rfl) k_) (aS (S47.atP (i:=0) rfl) k_) (aS (S47.atP (i:=17) rfl) k_)) fu94 rfl)<|dS (fun _ k_=>p_mT rfl dn)<|dS (fun _ k_=>p_ext rfl rfl dn)<|dS (fun _ k_=>p_ext rfl rfl dn)<|dS (fun _ k_=>p_aB rfl dn)<|dS (fun _ k_=>p_aI rfl dn) ?_
  intro w50 k51; have S52:=S47.call k51
  refine wp_nil<|c_seq<|reg<|p_mB rfl<|p_not rfl<|p_mB rfl ?_
  rcases bE (!r48.1) with c53 | c53
  ·replace H:=condT c53 H
   refine eB c53<|gF rfl rfl<|gF rfl rfl<|gF rfl rfl<|p_pkT rfl (rfl:_=B true)<|p_aB rfl<|wp_nil ?_
   obtain rfl:=sJ H
   refine c_ret ?_; show bodyPostM (Fr none) 0 Tryd.prog Tryd.f93 _ .ret _ _
   refine ret_of (res1 rfl (rvT (rfl:_=B true))) ?_
   exact ⟨_,rfl,_,rfl,S52.keep,S52.atX (i:=0) rfl,fun b_ h_=>(S52.own _ (mE (i:=0) rfl) b_ h_).symm⟩
  ·replace H:=condF c53 H
   refine eB c53 ?_
   refine gT rfl rfl (p_ld ty135 (S52.atP (i:=3) rfl) rfl rfl ?_)
   refine gT rfl rfl (p_ldA ty105 sz105 (S52.atP (i:=1) rfl) rfl rfl ?_)
   obtain ⟨r54,h55,H⟩:=bindS H
   refine gT rfl rfl<|p_cal (ticket_book_truths_1_1_ok h55 (S52.atX (i:=0) rfl) (S52.atP (i:=3) rfl) (S52.atP (i:=4) rfl) (S52.atP (i:=5) rfl) (S52.atP (i:=6) rfl) (S52.atP (i:=7) rfl) (S52.atP (i:=8) rfl) (S52.atP (i:=9) rfl) (S52.atP (i:=10) rfl) (S52.atP (i:=11) rfl) (S52.atP (i:=12) rfl) (S52.atP (i:=13) rfl) (S52.atP (i:=14) rfl) (S52.atP (i:=15) rfl) (S52.atP (i:=16) rfl) (cA (fun b_ h1_ h2_=>((fp_mem (i:=3) rfl) b_ h1_).elim fun q_ hq_=>(S52.apart (j:=0) rfl (fun _ h_=>h_)) q_ hq_.1 b_ hq_.2 h2_) (cA (fun b_ h1_ h2_=>((fp_mem (i:=4) rfl) b_ h1_).elim fun q_ hq_=>(S52.apart (j:=0) rfl (fun _ h_=>h_)) q_ hq_.1 b_ hq_.2 h2_) (cA (fun b_ h1_ h2_=>((fp_mem (i:=5) rfl) b_ h1_).elim fun q_ hq_=>(S52.apart (j:=0) rfl (fun _ h_=>h_)) q_ hq_.1 b_ hq_.2 h2_) (cA (fun b_ h1_ h2_=>((fp_mem (i:=6) rfl) b_ h1_).elim fun q_ hq_=>(S52.apart (j:=0) rfl (fun _ h_=>h_)) q_ hq_.1 b_ hq_.2 h2_) (cA (fun b_ h1_ h2_=>((fp_mem (i:=7) rfl) b_ h1_).elim fun q_ hq_=>(S52.apart (j:=0) rfl (fun _ h_=>h_)) q_ hq_.1 b_ hq_.2 h2_) (cA (fun b_ h1_ h2_=>((fp_mem (i:=8) rfl) b_ h1_).elim fun q_ hq_=>(S52.apart (j:=0) rfl (fun _ h_=>h_)) q_ hq_.1 b_ hq_.2 h2_) (cA (fun b_ h1_ h2_=>((fp_mem (i:=9) rfl) b_ h1_).elim fun q_ hq_=>(S52.apart (j:=0) rfl (fun _ h_=>h_)) q_ hq_.1 b_ hq_.2 h2_) (cA (fun b_ h1_ h2_=>((fp_mem (i:=10) rfl) b_ h1_).elim fun q_ hq_=>(S52.apart (j:=0) rfl (fun _ h_=>h_)) q_ hq_.1 b_ hq_.2 h2_) (cA (fun b_ h1_ h2_=>((fp_mem (i:=11) rfl) b_ h1_).elim fun q_ hq_=>(S52.apart (j:=0) rfl (fun _ h_=>h_)) q_ hq_.1 b_ hq_.2 h2_) (cA (fun b_ h1_ h2_=>((fp_mem (i:=12) rfl) b_ h1_).elim fun q_ hq_=>(S52.apart (j:=0) rfl (fun _ h_=>h_)) q_ hq_.1 b_ hq_.2 h2_) (cA (fun b_ h1_ h2_=>((fp_mem (i:=13) rfl) b_ h1_).elim fun q_ hq_=>(S52.apart (j:=0) rfl (fun _ h_=>h_)) q_ hq_.1 b_ hq_.2 h2_) (cA (fun b_ h1_ h2_=>((fp_mem (i:=14) rfl) b_ h1_).elim fun q_ hq_=>(S52.apart (j:=0) rfl (fun _ h_=>h_)) q_ hq_.1 b_ hq_.2 h2_) (cA (fun b_ h1_ h2_=>((fp_mem (i:=15) rfl) b_ h1_).elim fun q_ hq_=>(S52.apart (j:=0) rfl (fun _ h_=>h_)) q_ hq_.1 b_ hq_.2 h2_) (cA (fun b_ h1_ h2_=>((fp_mem (i:=16) rfl) b_ h1_).elim fun q_ hq_=>(S52.apart (j:=0) rfl (fun _ h_=>h_)) q_ hq_.1 b_ hq_.2 h2_) nM)))))))))))))) hy_ (S52.link (j:=0) rfl hl_)) fu91 rfl ?_
   rintro _ w56 ⟨A58,rfl,k57,o59,f60⟩
   have S61:=S52.itCall (j:=0) rfl k57 o59 f60
   refine p_pkF rfl (rfl:_=B r54.1)<|p_aB rfl<|wp_nil ?_
   obtain rfl:=sJ H
   refine c_ret ?_; show bodyPostM (Fr none) 0 Tryd.prog Tryd.f93 _ .ret _ _
   refine ret_of (res1 rfl (rvT (rfl:_=B r54.1))) ?_
   exact ⟨_,rfl,_,rfl,S61.keep,S61.atX (i:=0) rfl,fun b_ h_=>(S61.own _ (mE (i:=0) rfl) b_ h_).symm⟩
 ·replace H:=condF c43 H
  refine c_skip<|c_seq<|c_seq<|reg<|p_fld fl92_0 rfl<|p_fld fl29_0 rfl<|p_fld fl24_1 rfl<|p_ld ty3 (S42.atP (i:=4) rfl) rfl rfl<|p_add rfl rfl<|p_mI rfl<|wp_nil<|c_block ?_
  refine c_lop (α:=Int×(List Int)×σ) (β:=Asr) (ticket_book_truths_1_2_l1 q0 a1 (fun x0_ x1_ x2_=>ticket_book_truths_1_2 n x0_ x1_ x2_ q0 q1_2 yv) a0) (fun z_1 y_1=>[(1,I a1),(4,P b3 0),(5,P b40 0),(39,I (wr (q0.TicketBook.Tally.Room+1))),(40,I z_1.1)]) (fun z_1 y_1 w_=>St w A_.fp w_ [bl b40 (sg z_1.2.1 3++sg a0.used_ 3) 105,ga G_ z_1.2.2 y_1] [bl b3 [vF (.func 93) #[] #[P b1 0,P b2 0,P b3 0]] 135,bl b2 [vF (.func 91) #[] #[P b1 0,P b19 0,P b21 0,P b2 0]] 135,bl b21 [vF (.func 90) #[AG ((vB q1_2.TicketBook A22 c23 A25 c26 A28 c29 A31 c32)++(sg q1_2.shown_ 3++[Value.map m34]))] #[]] 135,bl b19 [Value.func (.yield l_) #[] #[]] 134,bl b1 ((vB q0.TicketBook A4 c5 A7 c8 A10 c11 A13 c14)++(sg q0.shown_ 3++[Value.map m16])) 92,rd eTallyCount 7 A4 c5 q0.TicketBook.Tally.Counts,rd eTicketSeason 2 A7 c8 q0.TicketBook.Tickets,rd eTicketShow 3 A10 c11 q0.TicketBook.Shows,rd eTicketBox 4 A13 c14 q0.TicketBook.Boxes,mpo ekS iE m16 q0.by_,rd eTallyCount 7 A22 c23 q1_2.TicketBook.Tally.Counts,rd eTicketSeason 2 A25 c26 q1_2.TicketBook.Tickets,rd eTicketShow 3 A28 c29 q1_2.TicketBook.Shows,rd eTicketBox 4 A31 c32 q1_2.TicketBook.Boxes,mpo ekS iE m34 q1_2.by_,gW2]) (0,a0.crossed_,s_) A_ H ⟨rfl,rfl,rfl,rfl,rfl,trivial⟩ S42 ?_
  intro m62 z_1 y_1 e63 w64 H S65
  unfold ticket_book_truths_1_2_l1 at H
  refine c_seq<|reg<|p_cmp rfl rfl rfl<|wp_nil<|c_seq ?_
  refine c_cond rfl (fun c66=>?_) (fun c66=>?_)
  ·replace H:=condT c66 H
   refine c_skip<|c_seq<|c_block<|c_seq<|reg<|p_mI rfl<|p_aI rfl<|wp_nil<|c_seq<|reg<|p_mI rfl<|p_mI rfl<|p_fld fl105_0 rfl ?_
   obtain ⟨h67,H⟩:=needS H
   refine p_ixD ar31 h67 rfl rfl<|p_stD (pre:=[]) (post:=sg a0.used_ 3) sz3 S65 (i:=0) rfl rfl h67 rfl rfl rfl fun w68 S69=>wp_nil<|c_seq<|reg<|p_ld ty135 (S69.atP (i:=0) rfl) rfl rfl<|p_ldA ty105 sz105 (S69.atX (i:=0) rfl) rfl rfl<|p_mI rfl<|p_add rfl rfl ?_
   obtain ⟨r70,h71,H⟩:=bindS H
   refine p_cal (ih h71 (S69.atX (i:=1) rfl) (S69.atP (i:=0) rfl) (S69.atP (i:=1) rfl) (S69.atP (i:=2) rfl) (S69.atP (i:=3) rfl) (S69.atP (i:=4) rfl) (S69.atP (i:=5) rfl) (S69.atP (i:=6) rfl) (S69.atP (i:=7) rfl) (S69.atP (i:=8) rfl) (S69.atP (i:=9) rfl) (S69.atP (i:=10) rfl) (S69.atP (i:=11) rfl) (S69.atP (i:=12) rfl) (S69.atP (i:=13) rfl) (S69.atP (i:=14) rfl) (S69.atP (i:=15) rfl) (cA (fun b_ h1_ h2_=>((fp_mem (i:=0) rfl) b_ h1_).elim fun q_ hq_=>(S69.apart (j:=1) rfl (fun _ h_=>h_)) q_ hq_.1 b_ hq_.2 h2_) (cA (fun b_ h1_ h2_=>((fp_mem (i:=1) rfl) b_ h1_).elim fun q_ hq_=>(S69.apart (j:=1) rfl (fun _ h_=>h_)) q_ hq_.1 b_ hq_.2 h2_) (cA (fun b_ h1_ h2_=>((fp_mem (i:=2) rfl) b_ h1_).elim fun q_ hq_=>(S69.apart (j:=1) rfl (fun _ h_=>h_)) q_ hq_.1 b_ hq_.2 h2_) (cA (fun b_ h1_ h2_=>((fp_mem (i:=3) rfl) b_ h1_).elim fun q_ hq_=>(S69.apart (j:=1) rfl (fun _ h_=>h_)) q_ hq_.1 b_ hq_.2 h2_) (cA (fun b_ h1_ h2_=>((fp_mem (i:=4) rfl) b_ h1_).elim fun q_ hq_=>(S69.apart (j:=1) rfl (fun _ h_=>h_)) q_ hq_.1 b_ hq_.2 h2_) (cA (fun b_ h1_ h2_=>((fp_mem (i:=5) rfl) b_ h1_).elim fun q_ hq_=>(S69.apart (j:=1) rfl (fun _ h_=>h_)) q_ hq_.1 b_ hq_.2 h2_) (cA (fun b_ h1_ h2_=>((fp_mem (i:=6) rfl) b_ h1_).elim fun q_ hq_=>(S69.apart (j:=1) rfl (fun _ h_=>h_)) q_ hq_.1 b_ hq_.2 h2_) (cA (fun b_ h1_ h2_=>((fp_mem (i:=7) rfl) b_ h1_).elim fun q_ hq_=>(S69.apart (j:=1) rfl (fun _ h_=>h_)) q_ hq_.1 b_ hq_.2 h2_) (cA (fun b_ h1_ h2_=>((fp_mem (i:=8) rfl) b_ h1_).elim fun q_ hq_=>(S69.apart (j:=1) rfl (fun _ h_=>h_)) q_ hq_.1 b_ hq_.2 h2_) (cA (fun b_ h1_ h2_=>((fp_mem (i:=9) rfl) b_ h1_).elim fun q_ hq_=>(S69.apart (j:=1) rfl (fun _ h_=>h_)) q_ hq_.1 b_ hq_.2 h2_) (cA (fun b_ h1_ h2_=>((fp_mem (i:=10) rfl) b_ h1_).elim fun q_ hq_=>(S69.apart (j:=1) rfl (fun _ h_=>h_)) q_ hq_.1 b_ hq_.2 h2_) (cA (fun b_ h1_ h2_=>((fp_mem (i:=11) rfl) b_ h1_).elim fun q_ hq_=>(S69.apart (j:=1) rfl (fun _ h_=>h_)) q_ hq_.1 b_ hq_.2 h2_) (cA (fun b_ h1_ h2_=>((fp_mem (i:=12) rfl) b_ h1_).elim fun q_ hq_=>(S69.apart (j:=1) rfl (fun _ h_=>h_)) q_ hq_.1 b_ hq_.2 h2_) (cA (fun b_ h1_ h2_=>((fp_mem (i:=13) rfl) b_ h1_).elim fun q_ hq_=>(S69.apart (j:=1) rfl (fun _ h_=>h_)) q_ hq_.1 b_ hq_.2 h2_) (cA (fun b_ h1_ h2_=>((fp_mem (i:=14) rfl) b_ h1_).elim fun q_ hq_=>(S69.apart (j:=1) rfl (fun _ h_=>h_)) q_ hq_.1 b_ hq_.2 h2_) (cA (fun b_ h1_ h2_=>((fp_mem (i:=15) rfl) b_ h1_).elim fun q_ hq_=>(S69.apart (j:=1) rfl (fun _ h_=>h_)) q_ hq_.1 b_ hq_.2 h2_) nM)))))))))))))))) hy_ (S69.link (j:=1) rfl hl_)) fu93 rfl ?_
   rintro _ w72 ⟨A74,rfl,k73,o75,f76⟩
   have S77:=S69.itCall (j:=1) rfl k73 o75 f76
   refine p_not rfl<|wp_nil ?_
   refine c_cond rfl (fun c78=>?_) (fun c78=>?_)
   ·replace H:=condT c78 H
    refine c_seq<|reg<|p_aB rfl<|wp_nil ?_
    obtain rfl:=sJ H
    refine c_ret ?_; show bodyPostM (Fr none) 0 Tryd.prog Tryd.f93 _ .ret _ _
    refine ret_of (res1 rfl (rvT (rfl:_=B false))) ?_
    exact ⟨_,rfl,_,rfl,S77.keep,S77.atX (i:=1) rfl,fun b_ h_=>(S77.own _ (mE (i:=1) rfl) b_ h_).symm⟩
   ·replace H:=condF c78 H
    refine c_skip<|reg<|p_add rfl rfl<|p_mI rfl<|wp_nil ?_
    exact ⟨(wr (z_1.1+1),aset z_1.2.1 3 a1 z_1.1,r70.2),A74,_,rfl,⟨rfl,rfl,rfl,rfl,rfl,trivial⟩,H,S77⟩
  ·replace H:=condF c66 H
   refine c_exit<|c_seq<|reg<|p_aB rfl<|wp_nil ?_
   obtain rfl:=sJ H
   refine c_ret ?_; show bodyPostM (Fr none) 0 Tryd.prog Tryd.f93 _ .ret _ _
   refine ret_of (res1 rfl (rvT (rfl:_=B true))) ?_
   exact ⟨_,rfl,_,rfl,S65.keep,S65.atX (i:=1) rfl,fun b_ h_=>(S65.own _ (mE (i:=1) rfl) b_ h_).symm⟩
def ticket_book_truths_1 {σ:Type} (s_:σ) (q0:Ticket_book) (yv:Ticket_truth→σ→Option (Bool×σ)):Option σ:=
 (ticket_book_clear q0).bind fun r22=>
 bif !r22 then (some s_)
 else ((ticket_book_truths_1_2 big (Ticket_truth.mk (List.replicate 3 0) (List.replicate 3 0)) 0 s_ q0 q0 yv).bind fun r46=>
 some r46.2)
set_option maxRecDepth 100000 in
theorem ticket_book_truths_1_ok {σ:Type}{l_:Nat}{G_:σ→Asr→Prop}{A_:Asr}{wb_:World}{C0_:Nat→Prop}{s_:σ}{q0:Ticket_book}{yv:Ticket_truth→σ→Option (Bool×σ)}{b1:Nat}{A2:Option Addr}{c3:Nat}{A5:Option Addr}{c6:Nat}{A8:Option Addr}{c9:Nat}{A11:Option Addr}{c12:Nat}{m14:Option Nat}{w:World}{r:σ} (H:ticket_book_truths_1 s_ q0 yv=some r) (hG_:(ga G_ s_ A_).ok w) (h16:(bl b1 ((vB q0.TicketBook A2 c3 A5 c6 A8 c9 A11 c12)++(sg q0.shown_ 3++[Value.map m14])) 92).ok w) (h4:(rd eTallyCount 7 A2 c3 q0.TicketBook.Tally.Counts).ok w) (h7:(rd eTicketSeason 2 A5 c6 q0.TicketBook.Tickets).ok w) (h10:(rd eTicketShow 3 A8 c9 q0.TicketBook.Shows).ok w) (h13:(rd eTicketBox 4 A11 c12 q0.TicketBook.Boxes).ok w) (h15:(mpo ekS iE m14 q0.by_).ok w) (hg17:(gW0).ok w) (hg18:(gW2).ok w) (hd_:∀ p∈([bl b1 ((vB q0.TicketBook A2 c3 A5 c6 A8 c9 A11 c12)++(sg q0.shown_ 3++[Value.map m14])) 92,rd eTallyCount 7 A2 c3 q0.TicketBook.Tally.Counts,rd eTicketSeason 2 A5 c6 q0.TicketBook.Tickets,rd eTicketShow 3 A8 c9 q0.TicketBook.Shows,rd eTicketBox 4 A11 c12 q0.TicketBook.Boxes,mpo ekS iE m14 q0.by_,gW0,gW2]:List Asr),∀ b,p.fp b→¬A_.fp b) (hy_:YH Tryd.prog l_ yE0 yv G_ wb_ C0_) (hl_:Link wb_ C0_ w A_.fp):Calls Tryd.prog 88 #[Value.func (.yield l_) #[] #[],P b1 0] w (fun en w_=>∃ u_,en=.returned u_∧∃ A'_:Asr,u_=TU []∧Keep A_.fp w w_∧(ga G_ r A'_).ok w_∧(∀ b_,A'_.fp b_→A_.fp b_∨w.heap.size≤b_)):=by
 unfold ticket_book_truths_1 at H
 refine fn_of (n:=16) Tryd.func88 rfl rfl (lE rfl) ?_
 have S:St w A_.fp w [ga G_ s_ A_] [bl b1 ((vB q0.TicketBook A2 c3 A5 c6 A8 c9 A11 c12)++(sg q0.shown_ 3++[Value.map m14])) 92,rd eTallyCount 7 A2 c3 q0.TicketBook.Tally.Counts,rd eTicketSeason 2 A5 c6 q0.TicketBook.Tickets,rd eTicketShow 3 A8 c9 q0.TicketBook.Shows,rd eTicketBox 4 A11 c12 q0.TicketBook.Boxes,mpo ekS iE m14 q0.by_,gW0,gW2]:=St.startX (ga G_ s_ A_) hG_ (cA h16 (cA h4 (cA h7 (cA h10 (cA h13 (cA h15 (cA hg17 (cA hg18 nM)))))))) hd_
 refine c_seq<|reg<|p_box (rfl:_=Value.func (.yield l_) #[] #[]) rfl S fun b19 w20 S21=>wp_nil<|c_seq<|c_seq<|reg<|p_ldA ty92 sz92 (S21.atP (i:=0) rfl) rfl rfl ?_
 obtain ⟨r22,h23,H⟩:=bindS H
 refine p_cv (ticket_book_clear_ok h23 (S21.atP (i:=1) rfl) (S21.atP (i:=2) rfl) (S21.atP (i:=3) rfl) (S21.atP (i:=4) rfl) (S21.atP (i:=5) rfl) (S21.atP (i:=6) rfl)) fu89 rfl S21 fun w24 S25=>p_not rfl<|wp_nil ?_
 refine c_cond rfl (fun c26=>?_) (fun c26=>?_)
 ·replace H:=condT c26 H
  obtain rfl:=sJ H
  refine c_ret ?_; show bodyPostM (Fr none) 0 Tryd.prog Tryd.f88 _ .ret _ _
  refine ret_of (res0 rfl) ?_
  exact ⟨_,rfl,_,rfl,S25.keep,S25.atX (i:=1) rfl,fun b_ h_=>(S25.own _ (mE (i:=1) rfl) b_ h_).symm⟩
 ·replace H:=condF c26 H
  refine c_skip<|c_seq<|reg<|p_ldA ty92 sz92 (S25.atP (i:=0) rfl) rfl rfl ?_
  refine o_fun (rfl:_=[AG ((vB q0.TicketBook A2 c3 A5 c6 A8 c9 A11 c12)++(sg q0.shown_ 3++[Value.map m14]))]) (rfl:_=[]) ?_
  refine p_all in135 rfl S25 fun b27 w28 S29=>?_
  refine p_st sz135 S29 (i:=0) rfl rfl (rfl:_=vF (.func 90) #[AG ((vB q0.TicketBook A2 c3 A5 c6 A8 c9 A11 c12)++(sg q0.shown_ 3++[Value.map m14]))] #[]) rfl rfl fun w30 S31=>wp_nil<|c_seq<|reg ?_
  refine p_all in135 rfl S31 fun b32 w33 S34=>wp_nil<|c_seq<|reg ?_
  refine o_fun (rfl:_=[]) (rfl:_=[P b1 0,P b19 0,P b27 0,P b32 0]) ?_
  refine p_st sz135 S34 (i:=0) rfl rfl (rfl:_=vF (.func 91) #[] #[P b1 0,P b19 0,P b27 0,P b32 0]) rfl rfl fun w35 S36=>wp_nil<|c_seq<|reg<|p_all in135 rfl S36 fun b37 w38 S39=>wp_nil<|c_seq<|reg ?_
  refine o_fun (rfl:_=[]) (rfl:_=[P b1 0,P b32 0,P b37 0]) ?_
  refine p_st sz135 S39 (i:=0) rfl rfl (rfl:_=vF (.func 93) #[] #[P b1 0,P b32 0,P b37 0]) rfl rfl fun w40 S41=>wp_nil<|reg<|p_ld ty135 (S41.atX (i:=0) rfl) rfl rfl<|p_bld (cs:=sg (List.replicate 3 0) 3++sg (List.replicate 3 0) 3) st105 (rfl:_=[]) (by kernel_rfl) ?_
  have S42:=S41.fix (i:=3) rfl
  have S43:=S42.fix (i:=2) rfl
  have S44:=S43.fix (i:=1) rfl
  have S45:=S44.fix (i:=0) rfl
  obtain ⟨r46,h47,H⟩:=bindS H
  refine p_cal (ticket_book_truths_1_2_ok h47 (S45.atX (i:=0) rfl) (S45.atP (i:=0) rfl) (S45.atP (i:=1) rfl) (S45.atP (i:=2) rfl) (S45.atP (i:=3) rfl) (S45.atP (i:=4) rfl) (S45.atP (i:=5) rfl) (S45.atP (i:=6) rfl) (S45.atP (i:=7) rfl) (S45.atP (i:=8) rfl) (S45.atP (i:=9) rfl) (S45.atP (i:=5) rfl) (S45.atP (i:=6) rfl) (S45.atP (i:=7) rfl) (S45.atP (i:=8) rfl) (S45.atP (i:=9) rfl) (S45.atP (i:=11) rfl) (cA (fun b_ h1_ h2_=>((fp_mem (i:=0) rfl) b_ h1_).elim fun q_ hq_=>(S45.apart (j:=0) rfl (fun _ h_=>h_)) q_ hq_.1 b_ hq_.2 h2_) (cA (fun b_ h1_ h2_=>((fp_mem (i:=1) rfl) b_ h1_).elim fun q_ hq_=>(S45.apart (j:=0) rfl (fun _ h_=>h_)) q_ hq_.1 b_ hq_.2 h2_) (cA (fun b_ h1_ h2_=>((fp_mem (i:=2) rfl) b_ h1_).elim fun q_ hq_=>(S45.apart (j:=0) rfl (fun _ h_=>h_)) q_ hq_.1 b_ hq_.2 h2_) (cA (fun b_ h1_ h2_=>((fp_mem (i:=3) rfl) b_ h1_).elim fun q_ hq_=>(S45.apart (j:=0) rfl (fun _ h_=>h_)) q_ hq_.1 b_ hq_.2 h2_) (cA (fun b_ h1_ h2_=>((fp_mem (i:=4) rfl) b_ h1_).elim fun q_ hq_=>(S45.apart (j:=0) rfl (fun _ h_=>h_)) q_ hq_.1 b_ hq_.2 h2_) (cA (fun b_ h1_ h2_=>((fp_mem (i:=5) rfl) b_ h1_).elim fun q_ hq_=>(S45.apart (j:=0) rfl (fun _ h_=>h_)) q_ hq_.1 b_ hq_.2 h2_) (cA (fun b_ h1_ h2_=>((fp_mem (i:=6) rfl) b_ h1_).elim fun q_ hq_=>(S45.apart (j:=0) rfl (fun _ h_=>h_)) q_ hq_.1 b_ hq_.2 h2_) (cA (fun b_ h1_ h2_=>((fp_mem (i:=7) rfl) b_ h1_).elim fun q_ hq_=>(S45.apart (j:=0) rfl (fun _ h_=>h_)) q_ hq_.1 b_ hq_.2 h2_) (cA (fun b_ h1_ h2_=>((fp_mem (i:=8) rfl) b_ h1_).elim fun q_ hq_=>(S45.apart (j:=0) rfl (fun _ h_=>h_)) q_ hq_.1 b_ hq_.2 h2_) (cA (fun b_ h1_ h2_=>((fp_mem (i:=9) rfl) b_ h1_).elim fun q_ hq_=>(S45.apart (j:=0) rfl (fun _ h_=>h_)) q_ hq_.1 b_ hq_.2 h2_) (cA (fun b_ h1_ h2_=>((fp_mem (i:=5) rfl) b_ h1_).elim fun q_ hq_=>(S45.apart (j:=0) rfl (fun _ h_=>h_)) q_ hq_.1 b_ hq_.2 h2_) (cA (fun b_ h1_ h2_=>((fp_mem (i:=6) rfl) b_ h1_).elim fun q_ hq_=>(S45.apart (j:=0) rfl (fun _ h_=>h_)) q_ hq_.1 b_ hq_.2 h2_) (cA (fun b_ h1_ h2_=>((fp_mem (i:=7) rfl) b_ h1_).elim fun q_ hq_=>(S45.apart (j:=0) rfl (fun _ h_=>h_)) q_ hq_.1 b_ hq_.2 h2_) (cA (fun b_ h1_ h2_=>((fp_mem (i:=8) rfl) b_ h1_).elim fun q_ hq_=>(S45.apart (j:=0) rfl (fun _ h_=>h_)) q_ hq_.1 b_ hq_.2 h2_) (cA (fun b_ h1_ h2_=>((fp_mem (i:=9) rfl) b_ h1_).elim fun q_ hq_=>(S45.apart (j:=0) rfl (fun _ h_=>h_)) q_ hq_.1 b_ hq_.2 h2_) (cA (fun b_ h1_ h2_=>((fp_mem (i:=11) rfl) b_ h1_).elim fun q_ hq_=>(S45.apart (j:=0) rfl (fun _ h_=>h_)) q_ hq_.1 b_ hq_.2 h2_) nM)))))))))))))))) hy_ (S45.link (j:=0) rfl hl_)) fu93 rfl ?_
  rintro _ w48 ⟨A50,rfl,k49,o51,f52⟩
  have S53:=S45.itCall (j:=0) rfl k49 o51 f52
  refine wp_nil ?_
  obtain rfl:=sJ H
  show bodyPostM (Fr none) 0 Tryd.prog Tryd.f88 _ .normal _ _
  refine end_of (res0 rfl) ?_
  exact ⟨_,rfl,_,rfl,S53.keep,S53.atX (i:=0) rfl,fun b_ h_=>(S53.own _ (mE (i:=0) rfl) b_ h_).symm⟩
def ticket_book_truths (a0:Ticket_book):Option Unit:=
 some ()
set_option maxRecDepth 100000 in
theorem ticket_book_truths_ok {a0:Ticket_book}{A1:Option Addr}{c2:Nat}{A4:Option Addr}{c5:Nat}{A7:Option Addr}{c8:Nat}{A10:Option Addr}{c11:Nat}{m13:Option Nat}{w:World}{r:Unit} (H:ticket_book_truths a0=some r) (h3:(rd eTallyCount 7 A1 c2 a0.TicketBook.Tally.Counts).ok w) (h6:(rd eTicketSeason 2 A4 c5 a0.TicketBook.Tickets).ok w) (h9:(rd eTicketShow 3 A7 c8 a0.TicketBook.Shows).ok w) (h12:(rd eTicketBox 4 A10 c11 a0.TicketBook.Boxes).ok w) (h14:(mpo ekS iE m13 a0.by_).ok w) (hg15:(gW0).ok w) (hg16:(gW2).ok w):Calls Tryd.prog 69 #[AG ((vB a0.TicketBook A1 c2 A4 c5 A7 c8 A10 c11)++(sg a0.shown_ 3++[Value.map m13]))] w fun en w_=>∃ u_,en=.returned u_∧∃ b_1:Nat,u_=vF (.func 88) #[] #[P b_1 0]∧Keep0 w w_∧((bl b_1 ((vB a0.TicketBook A1 c2 A4 c5 A7 c8 A10 c11)++(sg a0.shown_ 3++[Value.map m13])) 92).ok w_∧New w.heap.size (bl b_1 ((vB a0.TicketBook A1 c2 A4 c5 A7 c8 A10 c11)++(sg a0.shown_ 3++[Value.map m13])) 92))∧True:=by
 unfold ticket_book_truths at H
 refine fn_of (n:=4) Tryd.func69 rfl rfl (lE rfl) ?_
 have S:=St.start w nF _ (cA h3 (cA h6 (cA h9 (cA h12 (cA h14 (cA hg15 (cA hg16 nM)))))))
 refine c_seq<|reg<|p_boxA rfl S fun b17 w18 S19=>p_asg (rfl:_=Value.nilFunc)<|wp_nil<|c_seq<|reg ?_
 refine o_fun (rfl:_=[]) (rfl:_=[P b17 0]) ?_
 refine p_asg (rfl:_=vF (.func 88) #[] #[P b17 0])<|wp_nil ?_
 obtain rfl:=sJ H
 refine c_ret ?_; show bodyPostM (Fr none) 0 Tryd.prog Tryd.f69 _ .ret _ _
 refine ret_of (res1 rfl (rvT (rfl:_=vF (.func 88) #[] #[P b17 0]))) ?_
 exact ⟨_,rfl,b17,rfl,S19.keep,⟨S19.atX (i:=0) rfl,S19.newX (i:=0) rfl⟩,trivial⟩
def ticket_book_always_r1 (a2:Int) (a1:Int) (x_1:Ticket_truth) (z_1:Unit):Option (Bool×Nat×Unit):=
 need (inI a2 3)<|
 need (decide (0≤a1))<|
 bif ((andI (shrI (aget x_1.used_ a2) a1) 1)==0) then (some (false,1,()))
 else (some (true,0,()))
def ticket_book_always (a0:Ticket_book) (a1:Int) (a2:Int):Option Bool:=
 (ticket_book_truths a0).bind fun r29=>
 (ticket_book_truths_1 (0,()) a0 (yvOf (ticket_book_always_r1 a2 a1))).bind fun r38=>
 bif (r38.1==0) then (some true)
 else (some false)
set_option maxRecDepth 100000 in
theorem ticket_book_always_ok {a0:Ticket_book}{a1:Int}{a2:Int}{A1:Option Addr}{c2:Nat}{A4:Option Addr}{c5:Nat}{A7:Option Addr}{c8:Nat}{A10:Option Addr}{c11:Nat}{m13:Option Nat}{w:World}{r:Bool} (H:ticket_book_always a0 a1 a2=some r) (h3:(rd eTallyCount 7 A1 c2 a0.TicketBook.Tally.Counts).ok w) (h6:(rd eTicketSeason 2 A4 c5 a0.TicketBook.Tickets).ok w) (h9:(rd eTicketShow 3 A7 c8 a0.TicketBook.Shows).ok w) (h12:(rd eTicketBox 4 A10 c11 a0.TicketBook.Boxes).ok w) (h14:(mpo ekS iE m13 a0.by_).ok w) (hg15:(gW0).ok w) (hg16:(gW2).ok w):Calls Tryd.prog 130 #[AG ((vB a0.TicketBook A1 c2 A4 c5 A7 c8 A10 c11)++(sg a0.shown_ 3++[Value.map m13])),I a1,I a2] w (RetV w (B r)):=by
 unfold ticket_book_always at H
 refine fn_of (n:=19) Tryd.func130 rfl rfl (lE rfl) ?_
 have S:=St.start w nF _ (cA h3 (cA h6 (cA h9 (cA h12 (cA h14 (cA hg15 (cA hg16 nM)))))))
 refine c_seq<|reg<|p_boxA rfl S fun b17 w18 S19=>p_box (rfl:_=I a1) rfl S19 fun b20 w21 S22=>p_box (rfl:_=I a2) rfl S22 fun b23 w24 S25=>p_all in4 rfl S25 fun b26 w27 S28=>wp_nil<|c_seq<|c_seq<|reg<|p_ldA ty92 sz92 (S28.atX (i:=3) rfl) rfl rfl ?_
 obtain ⟨r29,h30,H⟩:=bindS H
 refine p_cal (ticket_book_truths_ok h30 (S28.atP (i:=0) rfl) (S28.atP (i:=1) rfl) (S28.atP (i:=2) rfl) (S28.atP (i:=3) rfl) (S28.atP (i:=4) rfl) (S28.atP (i:=5) rfl) (S28.atP (i:=6) rfl)) fu69 rfl ?_
 rintro _ w31 ⟨b33,rfl,k32,⟨o34,n35⟩,_⟩
 have S36:=S28.addNew k32 o34 n35
 refine wp_nil<|c_block ?_
 have S37:=S36.fix (i:=0) rfl
 obtain ⟨r38,h39,H⟩:=bindS H
 have S40:=S37
 refine c_rangeG (α:=Unit) (β:=Unit) (ε:=Ticket_truth) (K:=[bl b33 ((vB a0.TicketBook A1 c2 A4 c5 A7 c8 A10 c11)++(sg a0.shown_ 3++[Value.map m13])) 92,rd eTallyCount 7 A1 c2 a0.TicketBook.Tally.Counts,rd eTicketSeason 2 A4 c5 a0.TicketBook.Tickets,rd eTicketShow 3 A7 c8 a0.TicketBook.Shows,rd eTicketBox 4 A10 c11 a0.TicketBook.Boxes,mpo ekS iE m13 a0.by_,gW0,gW2]) (MK:=Go.Fx.mark) (XR:=fun D41=>[]++[bx D41 (.deferred (some []))]) (it:=fun {σ} yv s_=>ticket_book_truths_1 s_ a0 yv) (enc:=yE0) (ticket_book_always_r1 a2 a1) [.ret] (fun z_1 y_1=>[bl b26 [B false] 4,bl b23 [I a2] 3,bl b20 [I a1] 3,bl b17 ((vB a0.TicketBook A1 c2 A4 c5 A7 c8 A10 c11)++(sg a0.shown_ 3++[Value.map m13])) 92]) () () h39 (ent_none (X0:=(fun z_1 y_1=>[bl b26 [B false] 4,bl b23 [I a2] 3,bl b20 [I a1] 3,bl b17 ((vB a0.TicketBook A1 c2 A4 c5 A7 c8 A10 c11)++(sg a0.shown_ 3++[Value.map m13])) 92]) () ()++[]) S40) rfl fu88 (fun w_ σ yv_ s_ s'_ l_ G_ A_ hH_ hG_ hk_ hd_ hy_=>(ticket_book_truths_1_ok hH_ hG_ (hk_ _ (mE (i:=0) rfl)) (hk_ _ (mE (i:=1) rfl)) (hk_ _ (mE (i:=2) rfl)) (hk_ _ (mE (i:=3) rfl)) (hk_ _ (mE (i:=4) rfl)) (hk_ _ (mE (i:=5) rfl)) (hk_ _ (mE (i:=6) rfl)) (hk_ _ (mE (i:=7) rfl)) hd_ hy_ (Link.refl _ _)).mono fun en_ w3_ ⟨u_,he_,A'_,hu_,hk2_,ho_,hf_⟩=>⟨u_,he_,hk2_,A'_,ho_,hf_⟩) (mG [0,1,2,3,4,5,6,7] rfl) (fun _=>rfl) (cA (.inl rfl) nM) ?_ ?_ ?_
 ·intro l42 oR43 oB44 Cr45 x_1 z_1 y_1 w46 b47 c48 z49 PP50 H S51 hlk52 ho53 hB54 hN55 hX56
  unfold ticket_book_always_r1 at H
  replace S51:St w46 Cr45 w46 [bx l42 oR43,bl b26 [B false] 4,bl b23 [I a2] 3,bl b20 [I a1] 3,bl b17 ((vB a0.TicketBook A1 c2 A4 c5 A7 c8 A10 c11)++(sg a0.shown_ 3++[Value.map m13])) 92] [bl b33 ((vB a0.TicketBook A1 c2 A4 c5 A7 c8 A10 c11)++(sg a0.shown_ 3++[Value.map m13])) 92,rd eTallyCount 7 A1 c2 a0.TicketBook.Tally.Counts,rd eTicketSeason 2 A4 c5 a0.TicketBook.Tickets,rd eTicketShow 3 A7 c8 a0.TicketBook.Shows,rd eTicketBox 4 A10 c11 a0.TicketBook.Boxes,mpo ekS iE m13 a0.by_,gW0,gW2]:=S51
  refine reg<|p_allA in105 S51 fun b57 w58 S59=>p_stP (pre:=[]) (old:=sg (List.replicate 3 0) 3++sg (List.replicate 3 0) 3) (post:=[]) (vs:=sg x_1.crossed_ 3++sg x_1.used_ 3) sz105 S59 (i:=0) rfl rfl rfl rfl (rfl:_=AG (sg x_1.crossed_ 3++sg x_1.used_ 3)) rfl rfl rfl rfl fun w60 S61=>wp_nil ?_
  refine hB54 _ _ 1 _ S61 rfl fun w62 S63=>?_
  replace S63:St w46 Cr45 w62 [bl b57 (sg x_1.crossed_ 3++sg x_1.used_ 3) 105,bx l42 oB44,bl b26 [B false] 4,bl b23 [I a2] 3,bl b20 [I a1] 3,bl b17 ((vB a0.TicketBook A1 c2 A4 c5 A7 c8 A10 c11)++(sg a0.shown_ 3++[Value.map m13])) 92] [bl b33 ((vB a0.TicketBook A1 c2 A4 c5 A7 c8 A10 c11)++(sg a0.shown_ 3++[Value.map m13])) 92,rd eTallyCount 7 A1 c2 a0.TicketBook.Tally.Counts,rd eTicketSeason 2 A4 c5 a0.TicketBook.Tickets,rd eTicketShow 3 A7 c8 a0.TicketBook.Shows,rd eTicketBox 4 A10 c11 a0.TicketBook.Boxes,mpo ekS iE m13 a0.by_,gW0,gW2]:=S63
  refine c_block<|c_seq ?_
  obtain ⟨h64,H⟩:=needS H
  obtain ⟨h65,H⟩:=needS H
  refine reg_q mixed 8 (by kernel_rfl) ?_
  refine dS (fun _ k_=>p_ld ty3 (aS (S63.atX (i:=3) rfl) k_) rfl rfl dn)<|dS (fun _ k_=>p_fld fl105_1 rfl dn)<|dS (fun _ k_=>p_ixD ar31 h64 rfl rfl dn)<|dS (fun _ k_=>p_ldD (pre:=sg x_1.crossed_ 3) (post:=[]) ty3 (aS (S63.atX (i:=0) rfl) k_) rfl h64 rfl rfl dn)<|dS (fun _ k_=>p_ld ty3 (aS (S63.atX (i:=4) rfl) k_) rfl rfl dn)<|dS (fun _ k_=>p_shr h65 rfl rfl dn) ?_
  refine dS (fun _ k_=>p_andI rfl rfl dn)<|dS (fun _ k_=>p_cmp rfl rfl rfl dn) ?_
  intro w66 k67; have S68:=S63.call k67
  refine wp_nil ?_
  refine c_cond rfl (fun c69=>?_) (fun c69=>?_)
  ·replace H:=condT c69 H
   refine c_seq<|reg<|p_st sz4 S68 (i:=2) rfl rfl (rfl:_=B false) rfl rfl fun w70 S71=>wp_nil ?_
   refine c_ret ?_
   have S72:=S71.pk [1,2,3,4,5] (by decide) [0,1,2,3,4,5,6,7] rfl rfl
   exact hX56 0 .ret _ _ () () rfl S72 (sJ H)
  ·replace H:=condF c69 H
   refine c_skip ?_
   have S72:=S68.pk [1,2,3,4,5] (by decide) [0,1,2,3,4,5,6,7] rfl rfl
   exact hN55 _ _ () () S72 (sJ H)
 ·intro hc78
  intro l72 D73 o74 y75 w76 S77
  have S79:St w nF w76 [bl b26 [B false] 4,bl b23 [I a2] 3,bl b20 [I a1] 3,bl b17 ((vB a0.TicketBook A1 c2 A4 c5 A7 c8 A10 c11)++(sg a0.shown_ 3++[Value.map m13])) 92,bx D73 (.deferred (some []))] [bl b33 ((vB a0.TicketBook A1 c2 A4 c5 A7 c8 A10 c11)++(sg a0.shown_ 3++[Value.map m13])) 92,rd eTallyCount 7 A1 c2 a0.TicketBook.Tally.Counts,rd eTicketSeason 2 A4 c5 a0.TicketBook.Tickets,rd eTicketShow 3 A7 c8 a0.TicketBook.Shows,rd eTicketBox 4 A10 c11 a0.TicketBook.Boxes,mpo ekS iE m13 a0.by_,gW0,gW2]:=St.tail1 S77
  replace H:=condT (by rw [hc78]; rfl) H
  refine c_seq<|reg<|p_st sz4 S79 (i:=0) rfl rfl (rfl:_=B true) rfl rfl fun w80 S81=>wp_nil ?_
  refine c_ret ?_
  refine leave_mark S81 (i:=4) rfl fun w82 S83=>?_
  obtain rfl:=sJ H
  show bodyPostM (Fr none) 0 Tryd.prog Tryd.f130 _ .ret _ _
  refine ret_of (res1 rfl (rvC rfl ty4 (S83.atX (i:=0) rfl))) ?_
  exact ⟨_,rfl,rfl,S83.keep⟩
 ·intro k84 c85 hk86 hc87
  rcases k84 with _ | k84
  ·obtain rfl:=sJ hk86
   intro l88 D89 o90 y91 w92 S93
   have S95:St w nF w92 [bl b26 [B false] 4,bl b23 [I a2] 3,bl b20 [I a1] 3,bl b17 ((vB a0.TicketBook A1 c2 A4 c5 A7 c8 A10 c11)++(sg a0.shown_ 3++[Value.map m13])) 92,bx D89 (.deferred (some []))] [bl b33 ((vB a0.TicketBook A1 c2 A4 c5 A7 c8 A10 c11)++(sg a0.shown_ 3++[Value.map m13])) 92,rd eTallyCount 7 A1 c2 a0.TicketBook.Tally.Counts,rd eTicketSeason 2 A4 c5 a0.TicketBook.Tickets,rd eTicketShow 3 A7 c8 a0.TicketBook.Shows,rd eTicketBox 4 A10 c11 a0.TicketBook.Boxes,mpo ekS iE m13 a0.by_,gW0,gW2]:=St.tail1 S93
   replace H:=condF (by rw [hc87]; rfl) H
   refine c_ret ?_
   refine leave_mark S95 (i:=4) rfl fun w96 S97=>?_
   obtain rfl:=sJ H
   show bodyPostM (Fr none) 0 Tryd.prog Tryd.f130 _ .ret _ _
   refine ret_of (res1 rfl (rvC rfl ty4 (S97.atX (i:=0) rfl))) ?_
   exact ⟨_,rfl,rfl,S97.keep⟩
  ·cases hk86
def ticket_book_sometimes_r1 (a2:Int) (a1:Int) (x_1:Ticket_truth) (z_1:Bool):Option (Bool×Nat×Bool):=
 need (inI a2 3)<|
 need (decide (0≤a1))<|
 bif ((andI (shrI (aget x_1.used_ a2) a1) 1)==1) then (some (false,1,true))
 else (some (true,0,z_1))
def ticket_book_sometimes (a0:Ticket_book) (a1:Int) (a2:Int):Option Bool:=
 (ticket_book_truths a0).bind fun r29=>
 (ticket_book_truths_1 (0,false) a0 (yvOf (ticket_book_sometimes_r1 a2 a1))).bind fun r38=>
 bif (r38.1==0) then (some false)
 else (some r38.2)
set_option maxRecDepth 100000 in
theorem ticket_book_sometimes_ok {a0:Ticket_book}{a1:Int}{a2:Int}{A1:Option Addr}{c2:Nat}{A4:Option Addr}{c5:Nat}{A7:Option Addr}{c8:Nat}{A10:Option Addr}{c11:Nat}{m13:Option Nat}{w:World}{r:Bool} (H:ticket_book_sometimes a0 a1 a2=some r) (h3:(rd eTallyCount 7 A1 c2 a0.TicketBook.Tally.Counts).ok w) (h6:(rd eTicketSeason 2 A4 c5 a0.TicketBook.Tickets).ok w) (h9:(rd eTicketShow 3 A7 c8 a0.TicketBook.Shows).ok w) (h12:(rd eTicketBox 4 A10 c11 a0.TicketBook.Boxes).ok w) (h14:(mpo ekS iE m13 a0.by_).ok w) (hg15:(gW0).ok w) (hg16:(gW2).ok w):Calls Tryd.prog 131 #[AG ((vB a0.TicketBook A1 c2 A4 c5 A7 c8 A10 c11)++(sg a0.shown_ 3++[Value.map m13])),I a1,I a2] w (RetV w (B r)):=by
 unfold ticket_book_sometimes at H
 refine fn_of (n:=19) Tryd.func131 rfl rfl (lE rfl) ?_
 have S:=St.start w nF _ (cA h3 (cA h6 (cA h9 (cA h12 (cA h14 (cA hg15 (cA hg16 nM)))))))
 refine c_seq<|reg<|p_boxA rfl S fun b17 w18 S19=>p_box (rfl:_=I a1) rfl S19 fun b20 w21 S22=>p_box (rfl:_=I a2) rfl S22 fun b23 w24 S25=>p_all in4 rfl S25 fun b26 w27 S28=>wp_nil<|c_seq<|c_seq<|reg<|p_ldA ty92 sz92 (S28.atX (i:=3) rfl) rfl rfl ?_
 obtain ⟨r29,h30,H⟩:=bindS H
 refine p_cal (ticket_book_truths_ok h30 (S28.atP (i:=0) rfl) (S28.atP (i:=1) rfl) (S28.atP (i:=2) rfl) (S28.atP (i:=3) rfl) (S28.atP (i:=4) rfl) (S28.atP (i:=5) rfl) (S28.atP (i:=6) rfl)) fu69 rfl ?_
 rintro _ w31 ⟨b33,rfl,k32,⟨o34,n35⟩,_⟩
 have S36:=S28.addNew k32 o34 n35
 refine wp_nil<|c_block ?_
 have S37:=S36.fix (i:=0) rfl
 obtain ⟨r38,h39,H⟩:=bindS H
 have S40:=S37
 refine c_rangeG (α:=Bool) (β:=Unit) (ε:=Ticket_truth) (K:=[bl b33 ((vB a0.TicketBook A1 c2 A4 c5 A7 c8 A10 c11)++(sg a0.shown_ 3++[Value.map m13])) 92,rd eTallyCount 7 A1 c2 a0.TicketBook.Tally.Counts,rd eTicketSeason 2 A4 c5 a0.TicketBook.Tickets,rd eTicketShow 3 A7 c8 a0.TicketBook.Shows,rd eTicketBox 4 A10 c11 a0.TicketBook.Boxes,mpo ekS iE m13 a0.by_,gW0,gW2]) (MK:=Go.Fx.mark) (XR:=fun D41=>[]++[bx D41 (.deferred (some []))]) (it:=fun {σ} yv s_=>ticket_book_truths_1 s_ a0 yv) (enc:=yE0) (ticket_book_sometimes_r1 a2 a1) [.ret] (fun z_1 y_1=>[bl b26 [B z_1] 4,bl b23 [I a2] 3,bl b20 [I a1] 3,bl b17 ((vB a0.TicketBook A1 c2 A4 c5 A7 c8 A10 c11)++(sg a0.shown_ 3++[Value.map m13])) 92]) false () h39 (ent_none (X0:=(fun z_1 y_1=>[bl b26 [B z_1] 4,bl b23 [I a2] 3,bl b20 [I a1] 3,bl b17 ((vB a0.TicketBook A1 c2 A4 c5 A7 c8 A10 c11)++(sg a0.shown_ 3++[Value.map m13])) 92]) false ()++[]) S40) rfl fu88 (fun w_ σ yv_ s_ s'_ l_ G_ A_ hH_ hG_ hk_ hd_ hy_=>(ticket_book_truths_1_ok hH_ hG_ (hk_ _ (mE (i:=0) rfl)) (hk_ _ (mE (i:=1) rfl)) (hk_ _ (mE (i:=2) rfl)) (hk_ _ (mE (i:=3) rfl)) (hk_ _ (mE (i:=4) rfl)) (hk_ _ (mE (i:=5) rfl)) (hk_ _ (mE (i:=6) rfl)) (hk_ _ (mE (i:=7) rfl)) hd_ hy_ (Link.refl _ _)).mono fun en_ w3_ ⟨u_,he_,A'_,hu_,hk2_,ho_,hf_⟩=>⟨u_,he_,hk2_,A'_,ho_,hf_⟩) (mG [0,1,2,3,4,5,6,7] rfl) (fun _=>rfl) (cA (.inl rfl) nM) ?_ ?_ ?_
 ·intro l42 oR43 oB44 Cr45 x_1 z_1 y_1 w46 b47 c48 z49 PP50 H S51 hlk52 ho53 hB54 hN55 hX56
  unfold ticket_book_sometimes_r1 at H
  replace S51:St w46 Cr45 w46 [bx l42 oR43,bl b26 [B z_1] 4,bl b23 [I a2] 3,bl b20 [I a1] 3,bl b17 ((vB a0.TicketBook A1 c2 A4 c5 A7 c8 A10 c11)++(sg a0.shown_ 3++[Value.map m13])) 92] [bl b33 ((vB a0.TicketBook A1 c2 A4 c5 A7 c8 A10 c11)++(sg a0.shown_ 3++[Value.map m13])) 92,rd eTallyCount 7 A1 c2 a0.TicketBook.Tally.Counts,rd eTicketSeason 2 A4 c5 a0.TicketBook.Tickets,rd eTicketShow 3 A7 c8 a0.TicketBook.Shows,rd eTicketBox 4 A10 c11 a0.TicketBook.Boxes,mpo ekS iE m13 a0.by_,gW0,gW2]:=S51
  refine reg<|p_allA in105 S51 fun b57 w58 S59=>p_stP (pre:=[]) (old:=sg (List.replicate 3 0) 3++sg (List.replicate 3 0) 3) (post:=[]) (vs:=sg x_1.crossed_ 3++sg x_1.used_ 3) sz105 S59 (i:=0) rfl rfl rfl rfl (rfl:_=AG (sg x_1.crossed_ 3++sg x_1.used_ 3)) rfl rfl rfl rfl fun w60 S61=>wp_nil ?_
  refine hB54 _ _ 1 _ S61 rfl fun w62 S63=>?_
  replace S63:St w46 Cr45 w62 [bl b57 (sg x_1.crossed_ 3++sg x_1.used_ 3) 105,bx l42 oB44,bl b26 [B z_1] 4,bl b23 [I a2] 3,bl b20 [I a1] 3,bl b17 ((vB a0.TicketBook A1 c2 A4 c5 A7 c8 A10 c11)++(sg a0.shown_ 3++[Value.map m13])) 92] [bl b33 ((vB a0.TicketBook A1 c2 A4 c5 A7 c8 A10 c11)++(sg a0.shown_ 3++[Value.map m13])) 92,rd eTallyCount 7 A1 c2 a0.TicketBook.Tally.Counts,rd eTicketSeason 2 A4 c5 a0.TicketBook.Tickets,rd eTicketShow 3 A7 c8 a0.TicketBook.Shows,rd eTicketBox 4 A10 c11 a0.TicketBook.Boxes,mpo ekS iE m13 a0.by_,gW0,gW2]:=S63
  refine c_block<|c_seq ?_
  obtain ⟨h64,H⟩:=needS H
  obtain ⟨h65,H⟩:=needS H
  refine reg_q mixed 8 (by kernel_rfl) ?_
  refine dS (fun _ k_=>p_ld ty3 (aS (S63.atX (i:=3) rfl) k_) rfl rfl dn)<|dS (fun _ k_=>p_fld fl105_1 rfl dn)<|dS (fun _ k_=>p_ixD ar31 h64 rfl rfl dn)<|dS (fun _ k_=>p_ldD (pre:=sg x_1.crossed_ 3) (post:=[]) ty3 (aS (S63.atX (i:=0) rfl) k_) rfl h64 rfl rfl dn)<|dS (fun _ k_=>p_ld ty3 (aS (S63.atX (i:=4) rfl) k_) rfl rfl dn)<|dS (fun _ k_=>p_shr h65 rfl rfl dn) ?_
  refine dS (fun _ k_=>p_andI rfl rfl dn)<|dS (fun _ k_=>p_cmp rfl rfl rfl dn) ?_
  intro w66 k67; have S68:=S63.call k67
  refine wp_nil ?_
  refine c_cond rfl (fun c69=>?_) (fun c69=>?_)
  ·replace H:=condT c69 H
   refine c_seq<|reg<|p_st sz4 S68 (i:=2) rfl rfl (rfl:_=B true) rfl rfl fun w70 S71=>wp_nil ?_
   refine c_ret ?_
   have S72:=S71.pk [1,2,3,4,5] (by decide) [0,1,2,3,4,5,6,7] rfl rfl
   exact hX56 0 .ret _ _ true () rfl S72 (sJ H)
  ·replace H:=condF c69 H
   refine c_skip ?_
   have S72:=S68.pk [1,2,3,4,5] (by decide) [0,1,2,3,4,5,6,7] rfl rfl
   exact hN55 _ _ z_1 () S72 (sJ H)
 ·intro hc78
  intro l72 D73 o74 y75 w76 S77
  have S79:St w nF w76 [bl b26 [B r38.2] 4,bl b23 [I a2] 3,bl b20 [I a1] 3,bl b17 ((vB a0.TicketBook A1 c2 A4 c5 A7 c8 A10 c11)++(sg a0.shown_ 3++[Value.map m13])) 92,bx D73 (.deferred (some []))] [bl b33 ((vB a0.TicketBook A1 c2 A4 c5 A7 c8 A10 c11)++(sg a0.shown_ 3++[Value.map m13])) 92,rd eTallyCount 7 A1 c2 a0.TicketBook.Tally.Counts,rd eTicketSeason 2 A4 c5 a0.TicketBook.Tickets,rd eTicketShow 3 A7 c8 a0.TicketBook.Shows,rd eTicketBox 4 A10 c11 a0.TicketBook.Boxes,mpo ekS iE m13 a0.by_,gW0,gW2]:=St.tail1 S77
  replace H:=condT (by rw [hc78]; rfl) H
  refine c_seq<|reg<|p_st sz4 S79 (i:=0) rfl rfl (rfl:_=B false) rfl rfl fun w80 S81=>wp_nil ?_
  refine c_ret ?_
  refine leave_mark S81 (i:=4) rfl fun w82 S83=>?_
  obtain rfl:=sJ H
  show bodyPostM (Fr none) 0 Tryd.prog Tryd.f131 _ .ret _ _
  refine ret_of (res1 rfl (rvC rfl ty4 (S83.atX (i:=0) rfl))) ?_
  exact ⟨_,rfl,rfl,S83.keep⟩
 ·intro k84 c85 hk86 hc87
  rcases k84 with _ | k84
  ·obtain rfl:=sJ hk86
   intro l88 D89 o90 y91 w92 S93
   have S95:St w nF w92 [bl b26 [B r38.2] 4,bl b23 [I a2] 3,bl b20 [I a1] 3,bl b17 ((vB a0.TicketBook A1 c2 A4 c5 A7 c8 A10 c11)++(sg a0.shown_ 3++[Value.map m13])) 92,bx D89 (.deferred (some []))] [bl b33 ((vB a0.TicketBook A1 c2 A4 c5 A7 c8 A10 c11)++(sg a0.shown_ 3++[Value.map m13])) 92,rd eTallyCount 7 A1 c2 a0.TicketBook.Tally.Counts,rd eTicketSeason 2 A4 c5 a0.TicketBook.Tickets,rd eTicketShow 3 A7 c8 a0.TicketBook.Shows,rd eTicketBox 4 A10 c11 a0.TicketBook.Boxes,mpo ekS iE m13 a0.by_,gW0,gW2]:=St.tail1 S93
   replace H:=condF (by rw [hc87]; rfl) H
   refine c_ret ?_
   refine leave_mark S95 (i:=4) rfl fun w96 S97=>?_
   obtain rfl:=sJ H
   show bodyPostM (Fr none) 0 Tryd.prog Tryd.f131 _ .ret _ _
   refine ret_of (res1 rfl (rvC rfl ty4 (S97.atX (i:=0) rfl))) ?_
   exact ⟨_,rfl,rfl,S97.keep⟩
  ·cases hk86
def ticket_isTrip (a0:TicketBook) (a1:Int):Option Bool:=
 (ticket_within a1 0 (wr (a0.Tally.Trips - 1))).bind fun r16=>
 some r16
set_option maxRecDepth 100000 in
theorem ticket_isTrip_ok {a0:TicketBook}{a1:Int}{A1:Option Addr}{c2:Nat}{A4:Option Addr}{c5:Nat}{A7:Option Addr}{c8:Nat}{A10:Option Addr}{c11:Nat}{w:World}{r:Bool} (H:ticket_isTrip a0 a1=some r) (h3:(rd eTallyCount 7 A1 c2 a0.Tally.Counts).ok w) (h6:(rd eTicketSeason 2 A4 c5 a0.Tickets).ok w) (h9:(rd eTicketShow 3 A7 c8 a0.Shows).ok w) (h12:(rd eTicketBox 4 A10 c11 a0.Boxes).ok w):Calls Tryd.prog 59 #[AG (vB a0 A1 c2 A4 c5 A7 c8 A10 c11),I a1] w (RetV w (B r)):=by
 unfold ticket_isTrip at H
 refine fn_of (n:=11) Tryd.func59 rfl rfl (lE rfl) ?_
 have S:=St.start w nF _ (cA h3 (cA h6 (cA h9 (cA h12 nM))))
 refine c_seq<|reg<|p_boxA rfl S fun b13 w14 S15=>p_aB rfl<|wp_nil<|c_seq<|reg<|p_mI rfl<|p_fld fl29_0 rfl<|p_fld fl24_0 rfl<|p_ld ty3 (S15.atX (i:=0) rfl) rfl rfl<|p_sub rfl rfl ?_
 obtain ⟨r16,h17,H⟩:=bindS H
 refine p_cv (ticket_within_ok h17) fu71 rfl S15 fun w18 S19=>p_aB rfl<|wp_nil ?_
 obtain rfl:=sJ H
 exact c_ret (rT Tryd.f59 S19.keep rfl rfl)
def ticket_isTicket (a0:TicketBook) (a1:Int):Option Bool:=
 (ticket_within a1 0 (wr ((a0.Tickets.length:Int) - 1))).bind fun r16=>
 some r16
set_option maxRecDepth 100000 in
theorem ticket_isTicket_ok {a0:TicketBook}{a1:Int}{A1:Option Addr}{c2:Nat}{A4:Option Addr}{c5:Nat}{A7:Option Addr}{c8:Nat}{A10:Option Addr}{c11:Nat}{w:World}{r:Bool} (H:ticket_isTicket a0 a1=some r) (h3:(rd eTallyCount 7 A1 c2 a0.Tally.Counts).ok w) (h6:(rd eTicketSeason 2 A4 c5 a0.Tickets).ok w) (h9:(rd eTicketShow 3 A7 c8 a0.Shows).ok w) (h12:(rd eTicketBox 4 A10 c11 a0.Boxes).ok w):Calls Tryd.prog 64 #[AG (vB a0 A1 c2 A4 c5 A7 c8 A10 c11),I a1] w (RetV w (B r)):=by
 unfold ticket_isTicket at H
 refine fn_of (n:=11) Tryd.func64 rfl rfl (lE rfl) ?_
 have S:=St.start w nF _ (cA h3 (cA h6 (cA h9 (cA h12 nM))))
 refine c_seq<|reg<|p_boxA rfl S fun b13 w14 S15=>p_aB rfl<|wp_nil<|c_seq<|reg<|p_mI rfl<|p_fld fl29_2 rfl<|p_ld ty25 (S15.atX (i:=0) rfl) rfl rfl<|p_len rfl sc25<|p_sub rfl rfl ?_
 obtain ⟨r16,h17,H⟩:=bindS H
 refine p_cv (ticket_within_ok h17) fu71 rfl S15 fun w18 S19=>p_aB rfl<|wp_nil ?_
 obtain rfl:=sJ H
 exact c_ret (rT Tryd.f64 S19.keep rfl rfl)
def ticket_isBox (a0:TicketBook) (a1:TicketBox):Option Bool:=
 (ticket_isTrip a0 a1.From).bind fun r19=>
 bif r19 then ((ticket_isTrip a0 a1.To).bind fun r24=>
 bif r24 then (bif decide (a1.From≤a1.To) then ((ticket_within a1.Pence 0 400).bind fun r30=>
 bif r30 then ((ticket_within a1.Lost 0 40).bind fun r35=>
 some r35)
 else (some false))
 else (some false))
 else (some false))
 else (some false)
set_option maxRecDepth 100000 in
theorem ticket_isBox_ok {a0:TicketBook}{a1:TicketBox}{A1:Option Addr}{c2:Nat}{A4:Option Addr}{c5:Nat}{A7:Option Addr}{c8:Nat}{A10:Option Addr}{c11:Nat}{w:World}{r:Bool} (H:ticket_isBox a0 a1=some r) (h3:(rd eTallyCount 7 A1 c2 a0.Tally.Counts).ok w) (h6:(rd eTicketSeason 2 A4 c5 a0.Tickets).ok w) (h9:(rd eTicketShow 3 A7 c8 a0.Shows).ok w) (h12:(rd eTicketBox 4 A10 c11 a0.Boxes).ok w):Calls Tryd.prog 68 #[AG (vB a0 A1 c2 A4 c5 A7 c8 A10 c11),AG [I a1.From,I a1.To,I a1.Pence,I a1.Lost]] w (RetV w (B r)):=by
 unfold ticket_isBox at H
 refine fn_of (n:=32) Tryd.func68 rfl rfl (lE rfl) ?_
 have S:=St.start w nF _ (cA h3 (cA h6 (cA h9 (cA h12 nM))))
 refine c_seq<|reg<|p_boxA rfl S fun b13 w14 S15=>p_boxA rfl S15 fun b16 w17 S18=>p_aB rfl<|wp_nil<|c_seq<|reg<|p_ldA ty29 sz29 (S18.atX (i:=1) rfl) rfl rfl<|p_fld fl72_0 rfl<|p_ld ty3 (S18.atX (i:=0) rfl) rfl rfl ?_
 obtain ⟨r19,h20,H⟩:=bindS H
 refine p_cv (ticket_isTrip_ok h20 (S18.atP (i:=0) rfl) (S18.atP (i:=1) rfl) (S18.atP (i:=2) rfl) (S18.atP (i:=3) rfl)) fu59 rfl S18 fun w21 S22=>p_mB rfl ?_
 rcases bE (r19) with c23 | c23
 ·replace H:=condT c23 H
  refine eB c23 ?_
  refine gT rfl rfl (p_ldA ty29 sz29 (S22.atX (i:=1) rfl) rfl rfl ?_)
  refine gT rfl rfl (p_fld fl72_1 rfl ?_)
  refine gT rfl rfl (p_ld ty3 (S22.atX (i:=0) rfl) rfl rfl ?_)
  obtain ⟨r24,h25,H⟩:=bindS H
  refine gT rfl rfl (p_cv (ticket_isTrip_ok h25 (S22.atP (i:=0) rfl) (S22.atP (i:=1) rfl) (S22.atP (i:=2) rfl) (S22.atP (i:=3) rfl)) fu59 rfl S22 fun w26 S27=>?_)
  refine p_pkT rfl (rfl:_=B r24)<|p_mB rfl ?_
  rcases bE (r24) with c28 | c28
  ·replace H:=condT c28 H
   refine eB c28 ?_
   refine gT rfl rfl (p_fld fl72_0 rfl ?_)
   refine gT rfl rfl (p_ld ty3 (S27.atX (i:=0) rfl) rfl rfl ?_)
   refine gT rfl rfl (p_fld fl72_1 rfl ?_)
   refine gT rfl rfl (p_ld ty3 (S27.atX (i:=0) rfl) rfl rfl ?_)
   refine gT rfl rfl (p_cmp rfl rfl rfl ?_)
   refine p_pkT rfl (rfl:_=B (decide (a1.From≤a1.To)))<|p_mB rfl ?_
   rcases bE (decide (a1.From≤a1.To)) with c29 | c29
   ·replace H:=condT c29 H
    refine eB c29 ?_
    refine gT rfl rfl (p_fld fl72_2 rfl ?_)
    refine gT rfl rfl (p_ld ty3 (S27.atX (i:=0) rfl) rfl rfl ?_)
    obtain ⟨r30,h31,H⟩:=bindS H
    refine gT rfl rfl (p_cv (ticket_within_ok h31) fu71 rfl S27 fun w32 S33=>?_)
    refine p_pkT rfl (rfl:_=B r30)<|p_mB rfl ?_
    rcases bE (r30) with c34 | c34
    ·replace H:=condT c34 H
     refine eB c34 ?_
     refine gT rfl rfl (p_fld fl72_3 rfl ?_)
     refine gT rfl rfl (p_ld ty3 (S33.atX (i:=0) rfl) rfl rfl ?_)
     obtain ⟨r35,h36,H⟩:=bindS H
     refine gT rfl rfl (p_cv (ticket_within_ok h36) fu71 rfl S33 fun w37 S38=>?_)
     refine p_pkT rfl (rfl:_=B r35)<|p_aB rfl<|wp_nil ?_
     obtain rfl:=sJ H
     exact c_ret (rT Tryd.f68 S38.keep rfl rfl)
    ·replace H:=condF c34 H
     refine eB c34<|gF rfl rfl<|gF rfl rfl<|gF rfl rfl<|p_pkF rfl (rfl:_=B false)<|p_aB rfl<|wp_nil ?_
     obtain rfl:=sJ H
     exact c_ret (rT Tryd.f68 S33.keep rfl rfl)
   ·replace H:=condF c29 H
    refine eB c29<|gF rfl rfl<|gF rfl rfl<|gF rfl rfl<|p_pkF rfl (rfl:_=B false)<|p_mB rfl<|gF rfl rfl<|gF rfl rfl<|gF rfl rfl<|p_pkF rfl (rfl:_=B false)<|p_aB rfl<|wp_nil ?_
    obtain rfl:=sJ H
    exact c_ret (rT Tryd.f68 S27.keep rfl rfl)
  ·replace H:=condF c28 H
   refine eB c28<|gF rfl rfl<|gF rfl rfl<|gF rfl rfl<|gF rfl rfl<|gF rfl rfl<|p_pkF rfl (rfl:_=B false)<|p_mB rfl<|gF rfl rfl<|gF rfl rfl<|gF rfl rfl<|p_pkF rfl (rfl:_=B false)<|p_mB rfl<|gF rfl rfl<|gF rfl rfl<|gF rfl rfl<|p_pkF rfl (rfl:_=B false)<|p_aB rfl<|wp_nil ?_
   obtain rfl:=sJ H
   exact c_ret (rT Tryd.f68 S27.keep rfl rfl)
 ·replace H:=condF c23 H
  refine eB c23<|gF rfl rfl<|gF rfl rfl<|gF rfl rfl<|gF rfl rfl<|p_pkF rfl (rfl:_=B false)<|p_mB rfl<|gF rfl rfl<|gF rfl rfl<|gF rfl rfl<|gF rfl rfl<|gF rfl rfl<|p_pkF rfl (rfl:_=B false)<|p_mB rfl<|gF rfl rfl<|gF rfl rfl<|gF rfl rfl<|p_pkF rfl (rfl:_=B false)<|p_mB rfl<|gF rfl rfl<|gF rfl rfl<|gF rfl rfl<|p_pkF rfl (rfl:_=B false)<|p_aB rfl<|wp_nil ?_
  obtain rfl:=sJ H
  exact c_ret (rT Tryd.f68 S22.keep rfl rfl)
def ticket_Check_l4 (a0:TicketBook) (rec_z_4:(Bool×Int)→Option Int) (z_4:Bool×Int):Option Int:=
 bif decide (z_4.2 < (a0.Boxes.length:Int)) then ((getI a0.Boxes z_4.2).bind fun r82=>
 bif z_4.1 then ((ticket_isBox a0 r82).bind fun r90=>
 rec_z_4 (r90,wr (z_4.2+1)))
 else (rec_z_4 (false,wr (z_4.2+1))))
 else (bif !z_4.1 then (some 100)
 else (some 0))
def ticket_Check_l5 (a0:TicketBook) (rec_z_3:(Bool×Int)→Option Int) (z_3:Bool×Int):Option Int:=
 bif decide (z_3.2 < (a0.Shows.length:Int)) then ((getI a0.Shows z_3.2).bind fun r51=>
 bif z_3.1 then ((ticket_isTrip a0 r51.Trip).bind fun r59=>
 bif r59 then ((ticket_isTicket a0 r51.Ticket).bind fun r64=>
 bif r64 then ((ticket_within r51.Walker 0 9).bind fun r69=>
 rec_z_3 (r69,wr (z_3.2+1)))
 else (rec_z_3 (false,wr (z_3.2+1))))
 else (rec_z_3 (false,wr (z_3.2+1))))
 else (rec_z_3 (false,wr (z_3.2+1))))
 else (loopF (ticket_Check_l4 a0) big (z_3.1,0))
def ticket_Check_l6 (a0:TicketBook) (rec_z_2:(Bool×Int)→Option Int) (z_2:Bool×Int):Option Int:=
 bif decide (z_2.2 < (a0.Tickets.length:Int)) then ((getI a0.Tickets z_2.2).bind fun r24=>
 bif z_2.1 then ((ticket_isTrip a0 r24.From).bind fun r32=>
 bif r32 then ((ticket_isTrip a0 r24.To).bind fun r37=>
 bif r37 then (rec_z_2 (decide (r24.From≤r24.To),wr (z_2.2+1)))
 else (rec_z_2 (false,wr (z_2.2+1))))
 else (rec_z_2 (false,wr (z_2.2+1))))
 else (rec_z_2 (false,wr (z_2.2+1))))
 else (loopF (ticket_Check_l5 a0) big (z_2.1,0))
def ticket_Check_j7 (a0:TicketBook) (z_1:Bool):Option Int:=
 loopF (ticket_Check_l6 a0) big (z_1,0)
def ticket_Check (a0:TicketBook):Option Int:=
 (tally_Check a0.Tally).bind fun r16=>
 bif (r16==0) then (bif decide (a0.Tally.Trips≤3) then (bif decide (a0.Tally.Room≤5) then ((ticket_within a0.Fare 1 20).bind fun r23=>
 bif r23 then (bif decide ((a0.Tickets.length:Int)≤3) then (bif decide ((a0.Shows.length:Int)≤5) then (ticket_Check_j7 a0 (decide ((a0.Boxes.length:Int)≤3)))
 else (ticket_Check_j7 a0 false))
 else (ticket_Check_j7 a0 false))
 else (ticket_Check_j7 a0 false))
 else (ticket_Check_j7 a0 false))
 else (ticket_Check_j7 a0 false))
 else (ticket_Check_j7 a0 false)
end Go.Proofs.YtafhljljfglfeaaDoor
/- What the functions of the program compute, and that they do, printed by a program of mine. -/
import Derived.Test.YtblfippmobpaaaaDoorZGWFacts
import Derived.Test.YtblfippmobpaaaaDoorZWFrom
import Derived.Test.YtblfippmobpaaaaDoorZFxFrom
import Derived.KernelRfl
set_option linter.unusedVariables false
set_option linter.unusedSimpArgs false
namespace Go.Proofs.YtblfippmobpaaaaDoor
open Go Go.Fx Go.Proofs
def iE (x:Int):Value:=I x
structure Coal_gust where
 day_:Int
 wind_:Int
 deriving DecidableEq,Inhabited
def ekG (p:Coal_gust):Value:=AG [I p.day_,I p.wind_]
theorem keyGr:KeyL Tryd.prog 137 ekP:=keyPair (ft:=3) (f0:=(Tryd.prog.fieldsOf 137)[0]!) (f1:=(Tryd.prog.fieldsOf 137)[1]!) (by kernel_rfl) (by decide +kernel) (by decide +kernel) (by kernel_rfl) (by kernel_rfl) (by kernel_rfl) (by kernel_rfl) (by kernel_rfl) (by kernel_rfl)
theorem keyG:KeyL Tryd.prog 137 ekG:=KeyL.comp keyGr (fun p:Coal_gust=>(p.day_,p.wind_)) fun a b h=>by
 cases a; cases b; cases h; rfl
structure Tally_pair where
 from_:Int
 to_:Int
 deriving DecidableEq,Inhabited
def ekT (p:Tally_pair):Value:=AG [I p.from_,I p.to_]
theorem keyTr:KeyL Tryd.prog 141 ekP:=keyPair (ft:=3) (f0:=(Tryd.prog.fieldsOf 141)[0]!) (f1:=(Tryd.prog.fieldsOf 141)[1]!) (by kernel_rfl) (by decide +kernel) (by decide +kernel) (by kernel_rfl) (by kernel_rfl) (by kernel_rfl) (by kernel_rfl) (by kernel_rfl) (by kernel_rfl)
theorem keyT:KeyL Tryd.prog 141 ekT:=KeyL.comp keyTr (fun p:Tally_pair=>(p.from_,p.to_)) fun a b h=>by
 cases a; cases b; cases h; rfl
structure Chain_spot where
 section_:Int
 day_:Int
 deriving DecidableEq,Inhabited
def ekC (p:Chain_spot):Value:=AG [I p.section_,I p.day_]
theorem keyCr:KeyL Tryd.prog 155 ekP:=keyPair (ft:=3) (f0:=(Tryd.prog.fieldsOf 155)[0]!) (f1:=(Tryd.prog.fieldsOf 155)[1]!) (by kernel_rfl) (by decide +kernel) (by decide +kernel) (by kernel_rfl) (by kernel_rfl) (by kernel_rfl) (by kernel_rfl) (by kernel_rfl) (by kernel_rfl)
theorem keyC:KeyL Tryd.prog 155 ekC:=KeyL.comp keyCr (fun p:Chain_spot=>(p.section_,p.day_)) fun a b h=>by
 cases a; cases b; cases h; rfl
structure Span where
 Low:Int
 High:Int
 deriving DecidableEq,Inhabited
def sE (x:Span):Value:=AG [I x.Low,I x.High]
structure TallyCount where
 Who:Int
 From:Int
 To:Int
 Told:Int
 Unit:Int
 Under:Int
 Over:Int
 deriving DecidableEq,Inhabited
structure TallyBook where
 Trips:Int
 Room:Int
 Counts:List TallyCount
 deriving DecidableEq,Inhabited
structure Tally_book where
 TallyBook:TallyBook
 more_:List (Tally_pair×Int)
 deriving DecidableEq,Inhabited
def eTallyCount (x:TallyCount):List Value:=[I x.Who,I x.From,I x.To,I x.Told,I x.Unit,I x.Under,I x.Over]
theorem eTallyCount_len (x:TallyCount):(eTallyCount x).length=7:=rfl
theorem eTallyCount_one (x:TallyCount):∀ u∈eTallyCount x,u.oneCell' =true:=by simp [eTallyCount,sg,sgF,Value.oneCell']
def tally_count_least (a0:TallyCount):Option Int:=
 some (wr ((wr (a0.Told*a0.Unit)) - a0.Over))
set_option maxRecDepth 100000 in
theorem tally_count_least_ok {a0:TallyCount}{w:World}{r:Int} (H:tally_count_least a0=some r):Calls Tryd.prog 124 #[AG [I a0.Who,I a0.From,I a0.To,I a0.Told,I a0.Unit,I a0.Under,I a0.Over]] w (RetV w (I r)):=by
 unfold tally_count_least at H
 refine fn_of (n:=11) Tryd.func124 rfl rfl (lE rfl) ?_
 have S:=St.start w nF _ nM
 refine c_seq<|reg<|p_boxA rfl S fun b1 w2 S3=>p_aI rfl<|wp_nil<|c_seq<|reg<|p_fld fl142_3 rfl<|p_ld ty3 (S3.atX (i:=0) rfl) rfl rfl<|p_fld fl142_4 rfl<|p_ld ty3 (S3.atX (i:=0) rfl) rfl rfl<|p_mul rfl rfl<|p_fld fl142_6 rfl<|p_ld ty3 (S3.atX (i:=0) rfl) rfl rfl<|p_sub rfl rfl<|p_aI rfl<|wp_nil ?_
 obtain rfl:=sJ H
 exact c_ret (rT Tryd.f124 S3.keep rfl rfl)
def tally_count_most (a0:TallyCount):Option Int:=
 some (wr ((wr (a0.Told*a0.Unit))+a0.Under))
set_option maxRecDepth 100000 in
theorem tally_count_most_ok {a0:TallyCount}{w:World}{r:Int} (H:tally_count_most a0=some r):Calls Tryd.prog 127 #[AG [I a0.Who,I a0.From,I a0.To,I a0.Told,I a0.Unit,I a0.Under,I a0.Over]] w (RetV w (I r)):=by
 unfold tally_count_most at H
 refine fn_of (n:=11) Tryd.func127 rfl rfl (lE rfl) ?_
 have S:=St.start w nF _ nM
 refine c_seq<|reg<|p_boxA rfl S fun b1 w2 S3=>p_aI rfl<|wp_nil<|c_seq<|reg<|p_fld fl142_3 rfl<|p_ld ty3 (S3.atX (i:=0) rfl) rfl rfl<|p_fld fl142_4 rfl<|p_ld ty3 (S3.atX (i:=0) rfl) rfl rfl<|p_mul rfl rfl<|p_fld fl142_5 rfl<|p_ld ty3 (S3.atX (i:=0) rfl) rfl rfl<|p_add rfl rfl<|p_aI rfl<|wp_nil ?_
 obtain rfl:=sJ H
 exact c_ret (rT Tryd.f127 S3.keep rfl rfl)
def chain_known_may (a0:Span) (a1:Int):Option Bool:=
 some (decide (a0.Low < a1))
set_option maxRecDepth 100000 in
theorem chain_known_may_ok {a0:Span}{a1:Int}{w:World}{r:Bool} (H:chain_known_may a0 a1=some r):Calls Tryd.prog 125 #[AG [I a0.Low,I a0.High],I a1] w (RetV w (B r)):=by
 unfold chain_known_may at H
 refine fn_of (n:=9) Tryd.func125 rfl rfl (lE rfl) ?_
 have S:=St.start w nF _ nM
 refine c_seq<|reg<|p_boxA rfl S fun b1 w2 S3=>p_aB rfl<|wp_nil<|c_seq<|reg<|p_fld fl179_0 rfl<|p_ld ty3 (S3.atX (i:=0) rfl) rfl rfl<|p_mI rfl<|p_cmp rfl rfl rfl<|p_aB rfl<|wp_nil ?_
 obtain rfl:=sJ H
 exact c_ret (rT Tryd.f125 S3.keep rfl rfl)
def chain_known_surely (a0:Span) (a1:Int):Option Bool:=
 some (decide (a0.High < a1))
set_option maxRecDepth 100000 in
theorem chain_known_surely_ok {a0:Span}{a1:Int}{w:World}{r:Bool} (H:chain_known_surely a0 a1=some r):Calls Tryd.prog 128 #[AG [I a0.Low,I a0.High],I a1] w (RetV w (B r)):=by
 unfold chain_known_surely at H
 refine fn_of (n:=9) Tryd.func128 rfl rfl (lE rfl) ?_
 have S:=St.start w nF _ nM
 refine c_seq<|reg<|p_boxA rfl S fun b1 w2 S3=>p_aB rfl<|wp_nil<|c_seq<|reg<|p_fld fl179_1 rfl<|p_ld ty3 (S3.atX (i:=0) rfl) rfl rfl<|p_mI rfl<|p_cmp rfl rfl rfl<|p_aB rfl<|wp_nil ?_
 obtain rfl:=sJ H
 exact c_ret (rT Tryd.f128 S3.keep rfl rfl)
def coal_within (a0:Int) (a1:Int) (a2:Int):Option Bool:=
 bif decide (a1≤a0) then (some (decide (a0≤a2)))
 else (some false)
set_option maxRecDepth 100000 in
theorem coal_within_ok {a0:Int}{a1:Int}{a2:Int}{w:World}{r:Bool} (H:coal_within a0 a1 a2=some r):Calls Tryd.prog 61 #[I a0,I a1,I a2] w (RetV w (B r)):=by
 unfold coal_within at H
 refine fn_of (n:=15) Tryd.func61 rfl rfl (lE rfl) ?_
 have S:=St.start w nF _ nM
 refine c_seq<|reg<|p_aB rfl<|wp_nil<|c_seq<|reg<|p_mI rfl<|p_mI rfl<|p_cmp rfl rfl rfl<|p_mB rfl ?_
 rcases bE (decide (a1≤a0)) with c1 | c1
 ·replace H:=condT c1 H
  refine eB c1 ?_
  refine gT rfl rfl (p_mI rfl ?_)
  refine gT rfl rfl (p_mI rfl ?_)
  refine gT rfl rfl (p_cmp rfl rfl rfl ?_)
  refine p_pkT rfl (rfl:_=B (decide (a0≤a2)))<|p_aB rfl<|wp_nil ?_
  obtain rfl:=sJ H
  exact c_ret (rT Tryd.f61 S.keep rfl rfl)
 ·replace H:=condF c1 H
  refine eB c1<|gF rfl rfl<|gF rfl rfl<|gF rfl rfl<|p_pkF rfl (rfl:_=B false)<|p_aB rfl<|wp_nil ?_
  obtain rfl:=sJ H
  exact c_ret (rT Tryd.f61 S.keep rfl rfl)
structure CoalDay where
 Crosses:Int
 Engines:Int
 Winds:Int
 deriving DecidableEq,Inhabited
structure CoalDip where
 Day:Int
 Read:Int
 Error:Int
 deriving DecidableEq,Inhabited
structure CoalBook where
 Heap:Span
 Eats:List Span
 Extra:List Int
 Days:List CoalDay
 Collier:Span
 Brings:Int
 Dips:List CoalDip
 deriving DecidableEq,Inhabited
def eSpan (x:Span):List Value:=[I x.Low,I x.High]
theorem eSpan_len (x:Span):(eSpan x).length=2:=rfl
theorem eSpan_one (x:Span):∀ u∈eSpan x,u.oneCell' =true:=by simp [eSpan,sg,sgF,Value.oneCell']
def eCoalDay (x:CoalDay):List Value:=[I x.Crosses,I x.Engines,I x.Winds]
theorem eCoalDay_len (x:CoalDay):(eCoalDay x).length=3:=rfl
theorem eCoalDay_one (x:CoalDay):∀ u∈eCoalDay x,u.oneCell' =true:=by simp [eCoalDay,sg,sgF,Value.oneCell']
def eCoalDip (x:CoalDip):List Value:=[I x.Day,I x.Read,I x.Error]
theorem eCoalDip_len (x:CoalDip):(eCoalDip x).length=3:=rfl
theorem eCoalDip_one (x:CoalDip):∀ u∈eCoalDip x,u.oneCell' =true:=by simp [eCoalDip,sg,sgF,Value.oneCell']
def coal_isDay (a0:CoalBook) (a1:Int):Option Bool:=
 (coal_within a1 0 (wr ((a0.Days.length:Int) - 1))).bind fun r10=>
 some r10
set_option maxRecDepth 100000 in
theorem coal_isDay_ok {a0:CoalBook}{a1:Int}{A1:Option Addr}{c2:Nat}{A4:Option Addr}{c5:Nat}{w:World}{r:Bool} (H:coal_isDay a0 a1=some r) (h3:(rd eCoalDay 3 A1 c2 a0.Days).ok w) (h6:(rd eCoalDip 3 A4 c5 a0.Dips).ok w):Calls Tryd.prog 45 #[AG ([I a0.Heap.Low,I a0.Heap.High]++(sgE eSpan a0.Eats 2++(sg a0.Extra 3++[SL A1 a0.Days.length c2,I a0.Collier.Low,I a0.Collier.High,I a0.Brings,SL A4 a0.Dips.length c5]))),I a1] w (RetV w (B r)):=by
 unfold coal_isDay at H
 refine fn_of (n:=11) Tryd.func45 rfl rfl (lE rfl) ?_
 have S:=St.start w nF _ (cA h3 (cA h6 nM))
 refine c_seq<|reg<|p_boxA rfl S fun b7 w8 S9=>p_aB rfl<|wp_nil<|c_seq<|reg<|p_mI rfl<|p_fld fl29_3 rfl<|p_ld ty26 (S9.atX (i:=0) rfl) rfl rfl<|p_len rfl sc26<|p_sub rfl rfl ?_
 obtain ⟨r10,h11,H⟩:=bindS H
 refine p_cv (coal_within_ok h11) fu61 rfl S9 fun w12 S13=>p_aB rfl<|wp_nil ?_
 obtain rfl:=sJ H
 exact c_ret (rT Tryd.f45 S13.keep rfl rfl)
def coal_isSpan (a0:Span) (a1:Int) (a2:Int):Option Bool:=
 bif decide (0≤a0.Low) then (bif decide (a0.Low≤a0.High) then (bif decide (a0.High≤a1) then (some (decide ((wr (a0.High - a0.Low))≤a2)))
 else (some false))
 else (some false))
 else (some false)
set_option maxRecDepth 100000 in
theorem coal_isSpan_ok {a0:Span}{a1:Int}{a2:Int}{w:World}{r:Bool} (H:coal_isSpan a0 a1 a2=some r):Calls Tryd.prog 66 #[AG [I a0.Low,I a0.High],I a1,I a2] w (RetV w (B r)):=by
 unfold coal_isSpan at H
 refine fn_of (n:=32) Tryd.func66 rfl rfl (lE rfl) ?_
 have S:=St.start w nF _ nM
 refine c_seq<|reg<|p_boxA rfl S fun b1 w2 S3=>p_aB rfl<|wp_nil<|c_seq<|reg<|p_fld fl23_0 rfl<|p_ld ty3 (S3.atX (i:=0) rfl) rfl rfl<|p_cmp rfl rfl rfl<|p_mB rfl ?_
 rcases bE (decide (0≤a0.Low)) with c4 | c4
 ·replace H:=condT c4 H
  refine eB c4 ?_
  refine gT rfl rfl (p_fld fl23_0 rfl ?_)
  refine gT rfl rfl (p_ld ty3 (S3.atX (i:=0) rfl) rfl rfl ?_)
  refine gT rfl rfl (p_fld fl23_1 rfl ?_)
  refine gT rfl rfl (p_ld ty3 (S3.atX (i:=0) rfl) rfl rfl ?_)
  refine gT rfl rfl (p_cmp rfl rfl rfl ?_)
  refine p_pkT rfl (rfl:_=B (decide (a0.Low≤a0.High)))<|p_mB rfl ?_
  rcases bE (decide (a0.Low≤a0.High)) with c5 | c5
  ·replace H:=condT c5 H
   refine eB c5 ?_
   refine gT rfl rfl (p_fld fl23_1 rfl ?_)
   refine gT rfl rfl (p_ld ty3 (S3.atX (i:=0) rfl) rfl rfl ?_)
   refine gT rfl rfl (p_mI rfl ?_)
   refine gT rfl rfl (p_cmp rfl rfl rfl ?_)
   refine p_pkT rfl (rfl:_=B (decide (a0.High≤a1)))<|p_mB rfl ?_
   rcases bE (decide (a0.High≤a1)) with c6 | c6
   ·replace H:=condT c6 H
    refine eB c6 ?_
    refine gT rfl rfl (p_fld fl23_1 rfl ?_)
    refine gT rfl rfl (p_ld ty3 (S3.atX (i:=0) rfl) rfl rfl ?_)
    refine gT rfl rfl (p_fld fl23_0 rfl ?_)
    refine gT rfl rfl (p_ld ty3 (S3.atX (i:=0) rfl) rfl rfl ?_)
    refine gT rfl rfl (p_sub rfl rfl ?_)
    refine gT rfl rfl (p_mI rfl ?_)
    refine gT rfl rfl (p_cmp rfl rfl rfl ?_)
    refine p_pkT rfl (rfl:_=B (decide ((wr (a0.High - a0.Low))≤a2)))<|p_aB rfl<|wp_nil ?_
    obtain rfl:=sJ H
    exact c_ret (rT Tryd.f66 S3.keep rfl rfl)
   ·replace H:=condF c6 H
    refine eB c6<|gF rfl rfl<|gF rfl rfl<|gF rfl rfl<|gF rfl rfl<|gF rfl rfl<|gF rfl rfl<|gF rfl rfl<|p_pkF rfl (rfl:_=B false)<|p_aB rfl<|wp_nil ?_
    obtain rfl:=sJ H
    exact c_ret (rT Tryd.f66 S3.keep rfl rfl)
  ·replace H:=condF c5 H
   refine eB c5<|gF rfl rfl<|gF rfl rfl<|gF rfl rfl<|gF rfl rfl<|p_pkF rfl (rfl:_=B false)<|p_mB rfl<|gF rfl rfl<|gF rfl rfl<|gF rfl rfl<|gF rfl rfl<|gF rfl rfl<|gF rfl rfl<|gF rfl rfl<|p_pkF rfl (rfl:_=B false)<|p_aB rfl<|wp_nil ?_
   obtain rfl:=sJ H
   exact c_ret (rT Tryd.f66 S3.keep rfl rfl)
 ·replace H:=condF c4 H
  refine eB c4<|gF rfl rfl<|gF rfl rfl<|gF rfl rfl<|gF rfl rfl<|gF rfl rfl<|p_pkF rfl (rfl:_=B false)<|p_mB rfl<|gF rfl rfl<|gF rfl rfl<|gF rfl rfl<|gF rfl rfl<|p_pkF rfl (rfl:_=B false)<|p_mB rfl<|gF rfl rfl<|gF rfl rfl<|gF rfl rfl<|gF rfl rfl<|gF rfl rfl<|gF rfl rfl<|gF rfl rfl<|p_pkF rfl (rfl:_=B false)<|p_aB rfl<|wp_nil ?_
  obtain rfl:=sJ H
  exact c_ret (rT Tryd.f66 S3.keep rfl rfl)
def coal_Check_l5 (a0:CoalBook) (rec_z_5:(Bool×Int)→Option Int) (z_5:Bool×Int):Option Int:=
 bif decide (z_5.2 < (a0.Dips.length:Int)) then ((getI a0.Dips z_5.2).bind fun r78=>
 bif z_5.1 then ((coal_isDay a0 r78.Day).bind fun r86=>
 bif r86 then ((coal_within r78.Read 0 800).bind fun r91=>
 bif r91 then ((coal_within r78.Error 0 9).bind fun r96=>
 rec_z_5 (r96,wr (z_5.2+1)))
 else (rec_z_5 (false,wr (z_5.2+1))))
 else (rec_z_5 (false,wr (z_5.2+1))))
 else (rec_z_5 (false,wr (z_5.2+1))))
 else (bif !z_5.1 then (some 60)
 else (some 0))
def coal_Check_l6 (a0:CoalBook) (rec_z_4:(Bool×Int)→Option Int) (z_4:Bool×Int):Option Int:=
 bif decide (z_4.2 < (a0.Days.length:Int)) then ((getI a0.Days z_4.2).bind fun r47=>
 bif z_4.1 then ((coal_within r47.Crosses 0 9).bind fun r55=>
 bif r55 then ((coal_within r47.Engines 1 3).bind fun r60=>
 bif r60 then ((coal_within r47.Winds 1 7).bind fun r65=>
 rec_z_4 (r65,wr (z_4.2+1)))
 else (rec_z_4 (false,wr (z_4.2+1))))
 else (rec_z_4 (false,wr (z_4.2+1))))
 else (rec_z_4 (false,wr (z_4.2+1))))
 else (loopF (coal_Check_l5 a0) big (z_4.1,0))
def coal_Check_l7 (a0:CoalBook) (rec_z_3:(Bool×Int)→Option Int) (z_3:Bool×Int):Option Int:=
 bif decide (z_3.2 < 3) then (need (inI z_3.2 3)<|
 bif z_3.1 then ((coal_within (aget a0.Extra z_3.2) 0 9).bind fun r38=>
 rec_z_3 (r38,wr (z_3.2+1)))
 else (rec_z_3 (false,wr (z_3.2+1))))
 else (loopF (coal_Check_l6 a0) big (z_3.1,0))
def coal_Check_l8 (a0:CoalBook) (rec_z_2:(Bool×Int)→Option Int) (z_2:Bool×Int):Option Int:=
 bif decide (z_2.2 < 2) then (need (inI z_2.2 2)<|
 bif z_2.1 then ((coal_isSpan (agetS a0.Eats z_2.2) 9 2).bind fun r25=>
 rec_z_2 (r25,wr (z_2.2+1)))
 else (rec_z_2 (false,wr (z_2.2+1))))
 else (loopF (coal_Check_l7 a0) big (z_2.1,0))
def coal_Check_j9 (a0:CoalBook) (z_1:Bool):Option Int:=
 loopF (coal_Check_l8 a0) big (z_1,0)
def coal_Check (a0:CoalBook):Option Int:=
 (coal_isSpan a0.Heap 400 4).bind fun r10=>
 bif r10 then ((coal_within (a0.Days.length:Int) 1 6).bind fun r15=>
 bif r15 then ((coal_isSpan a0.Collier (a0.Days.length:Int) 3).bind fun r20=>
 bif r20 then ((coal_within a0.Brings 0 400).bind fun r25=>
 bif r25 then (coal_Check_j9 a0 (decide ((a0.Dips.length:Int)≤4)))
 else (coal_Check_j9 a0 false))
 else (coal_Check_j9 a0 false))
 else (coal_Check_j9 a0 false))
 else (coal_Check_j9 a0 false)
set_option maxRecDepth 100000 in
theorem coal_Check_ok {a0:CoalBook}{A1:Option Addr}{c2:Nat}{A4:Option Addr}{c5:Nat}{w:World}{r:Int} (H:coal_Check a0=some r) (h3:(rd eCoalDay 3 A1 c2 a0.Days).ok w) (h6:(rd eCoalDip 3 A4 c5 a0.Dips).ok w):Calls Tryd.prog 30 #[AG ([I a0.Heap.Low,I a0.Heap.High]++(sgE eSpan a0.Eats 2++(sg a0.Extra 3++[SL A1 a0.Days.length c2,I a0.Collier.Low,I a0.Collier.High,I a0.Brings,SL A4 a0.Dips.length c5])))] w (RetV w (I r)):=by
 unfold coal_Check at H
 refine fn_of (n:=113) Tryd.func30 rfl rfl (lE rfl) ?_
 have S:=St.start w nF _ (cA h3 (cA h6 nM))
 refine c_seq<|reg<|p_boxA rfl S fun b7 w8 S9=>p_aI rfl<|wp_nil ?_
 refine c_join (α:=Bool) (β:=Unit) (fun z_1 y_1=>[(1,P b7 0),(3,B z_1)]) (fun z_1 y_1 w_=>coal_Check_j9 a0 z_1=some r∧St w nF w_ [bl b7 ([I a0.Heap.Low,I a0.Heap.High]++(sgE eSpan a0.Eats 2++(sg a0.Extra 3++[SL A1 a0.Days.length c2,I a0.Collier.Low,I a0.Collier.High,I a0.Brings,SL A4 a0.Dips.length c5]))) 29] [rd eCoalDay 3 A1 c2 a0.Days,rd eCoalDip 3 A4 c5 a0.Dips]) ?_ ?_
 ·refine reg<|p_fld fl29_0 rfl<|p_ldP (vs:=[I a0.Heap.Low,I a0.Heap.High]) ty23 sz23 (S9.atX (i:=0) rfl) rfl rfl rfl ?_
  obtain ⟨r10,h11,H⟩:=bindS H
  refine p_cv (coal_isSpan_ok h11) fu66 rfl S9 fun w12 S13=>p_mB rfl ?_
  rcases bE (r10) with c14 | c14
  ·replace H:=condT c14 H
   refine eB c14 ?_
   refine gT rfl rfl (p_fld fl29_3 rfl ?_)
   refine gT rfl rfl (p_ld ty26 (S13.atX (i:=0) rfl) rfl rfl ?_)
   refine gT rfl rfl (p_len rfl sc26 ?_)
   obtain ⟨r15,h16,H⟩:=bindS H
   refine gT rfl rfl (p_cv (coal_within_ok h16) fu61 rfl S13 fun w17 S18=>?_)
   refine p_pkT rfl (rfl:_=B r15)<|p_mB rfl ?_
   rcases bE (r15) with c19 | c19
   ·replace H:=condT c19 H
    refine eB c19 ?_
    refine gT rfl rfl (p_fld fl29_4 rfl ?_)
    refine gT rfl rfl (p_ldP (vs:=[I a0.Collier.Low,I a0.Collier.High]) ty23 sz23 (S18.atX (i:=0) rfl) rfl rfl rfl ?_)
    refine gT rfl rfl (p_fld fl29_3 rfl ?_)
    refine gT rfl rfl (p_ld ty26 (S18.atX (i:=0) rfl) rfl rfl ?_)
    refine gT rfl rfl (p_len rfl sc26 ?_)
    obtain ⟨r20,h21,H⟩:=bindS H
    refine gT rfl rfl (p_cv (coal_isSpan_ok h21) fu66 rfl S18 fun w22 S23=>?_)
    refine p_pkT rfl (rfl:_=B r20)<|p_mB rfl ?_
    rcases bE (r20) with c24 | c24
    ·replace H:=condT c24 H
     refine eB c24 ?_
     refine gT rfl rfl (p_fld fl29_5 rfl ?_)
     refine gT rfl rfl (p_ld ty3 (S23.atX (i:=0) rfl) rfl rfl ?_)
     obtain ⟨r25,h26,H⟩:=bindS H
     refine gT rfl rfl (p_cv (coal_within_ok h26) fu61 rfl S23 fun w27 S28=>?_)
     refine p_pkT rfl (rfl:_=B r25)<|p_mB rfl ?_
     rcases bE (r25) with c29 | c29
     ·replace H:=condT c29 H
      refine eB c29 ?_
      refine gT rfl rfl (p_fld fl29_6 rfl ?_)
      refine gT rfl rfl (p_ld ty27 (S28.atX (i:=0) rfl) rfl rfl ?_)
      refine gT rfl rfl (p_len rfl sc27 ?_)
      refine gT rfl rfl (p_cmp rfl rfl rfl ?_)
      exact p_pkT rfl (rfl:_=B (decide ((a0.Dips.length:Int)≤4)))<|p_aB rfl<|wp_nil ⟨decide ((a0.Dips.length:Int)≤4),(),_,rfl,⟨rfl,rfl,trivial⟩,H,S28⟩
     ·replace H:=condF c29 H
      refine eB c29<|gF rfl rfl<|gF rfl rfl<|gF rfl rfl<|gF rfl rfl<|p_pkF rfl (rfl:_=B false)<|p_aB rfl<|wp_nil ?_
      exact ⟨false,(),_,rfl,⟨rfl,rfl,trivial⟩,H,S28⟩
    ·replace H:=condF c24 H
     refine eB c24<|gF rfl rfl<|gF rfl rfl<|gF rfl rfl<|p_pkF rfl (rfl:_=B false)<|p_mB rfl<|gF rfl rfl<|gF rfl rfl<|gF rfl rfl<|gF rfl rfl<|p_pkF rfl (rfl:_=B false)<|p_aB rfl<|wp_nil ?_
     exact ⟨false,(),_,rfl,⟨rfl,rfl,trivial⟩,H,S23⟩
   ·replace H:=condF c19 H
    refine eB c19<|gF rfl rfl<|gF rfl rfl<|gF rfl rfl<|gF rfl rfl<|gF rfl rfl<|gF rfl rfl<|p_pkF rfl (rfl:_=B false)<|p_mB rfl<|gF rfl rfl<|gF rfl rfl<|gF rfl rfl<|p_pkF rfl (rfl:_=B false)<|p_mB rfl<|gF rfl rfl<|gF rfl rfl<|gF rfl rfl<|gF rfl rfl<|p_pkF rfl (rfl:_=B false)<|p_aB rfl<|wp_nil ?_
    exact ⟨false,(),_,rfl,⟨rfl,rfl,trivial⟩,H,S18⟩
  ·replace H:=condF c14 H
   refine eB c14<|gF rfl rfl<|gF rfl rfl<|gF rfl rfl<|gF rfl rfl<|p_pkF rfl (rfl:_=B false)<|p_mB rfl<|gF rfl rfl<|gF rfl rfl<|gF rfl rfl<|gF rfl rfl<|gF rfl rfl<|gF rfl rfl<|p_pkF rfl (rfl:_=B false)<|p_mB rfl<|gF rfl rfl<|gF rfl rfl<|gF rfl rfl<|p_pkF rfl (rfl:_=B false)<|p_mB rfl<|gF rfl rfl<|gF rfl rfl<|gF rfl rfl<|gF rfl rfl<|p_pkF rfl (rfl:_=B false)<|p_aB rfl<|wp_nil ?_
   exact ⟨false,(),_,rfl,⟨rfl,rfl,trivial⟩,H,S13⟩
 ·intro z_1 y_1 e10 w11 S12; obtain ⟨H,S12⟩:=S12
  unfold coal_Check_j9 at H
  refine c_seq<|c_seq<|reg<|p_fld fl29_1 rfl<|p_ldP (vs:=sgE eSpan a0.Eats 2) ty24 sz24 (S12.atX (i:=0) rfl) rfl rfl rfl<|p_mI rfl<|wp_nil<|c_block ?_
  refine c_lop (α:=Bool×Int) (β:=Unit) (coal_Check_l8 a0) (fun z_2 y_2=>[(1,P b7 0),(3,B z_2.1),(41,AG (sgE eSpan a0.Eats 2)),(42,I z_2.2)]) (fun z_2 y_2 w_=>St w nF w_ [bl b7 ([I a0.Heap.Low,I a0.Heap.High]++(sgE eSpan a0.Eats 2++(sg a0.Extra 3++[SL A1 a0.Days.length c2,I a0.Collier.Low,I a0.Collier.High,I a0.Brings,SL A4 a0.Dips.length c5]))) 29] [rd eCoalDay 3 A1 c2 a0.Days,rd eCoalDip 3 A4 c5 a0.Dips]) (z_1,0) () H ⟨rfl,rfl,rfl,rfl,trivial⟩ S12 ?_
  intro m13 z_2 y_2 e14 w15 H S16
  unfold coal_Check_l8 at H
  refine c_seq<|reg<|p_cmp rfl rfl rfl<|wp_nil<|c_seq ?_
  refine c_cond rfl (fun c17=>?_) (fun c17=>?_)
  ·replace H:=condT c17 H
   refine c_skip<|c_seq<|c_block<|c_seq<|reg ?_
   obtain ⟨h18,H⟩:=needS H
   refine p_idxS (enc:=eSpan) (l:=a0.Eats) ae24 sz23 ty23 eSpan_len h18 rfl rfl<|p_allA in23 S16 fun b19 w20 S21=>p_stP (pre:=[]) (old:=[I 0,I 0]) (post:=[]) (vs:=[I ((agetS a0.Eats z_2.2).Low),I ((agetS a0.Eats z_2.2).High)]) sz23 S21 (i:=0) rfl rfl rfl rfl (rfl:_=AG [I ((agetS a0.Eats z_2.2).Low),I ((agetS a0.Eats z_2.2).High)]) rfl rfl rfl rfl fun w22 S23=>wp_nil<|reg<|p_mB rfl<|p_mB rfl ?_
   rcases bE (z_2.1) with c24 | c24
   ·replace H:=condT c24 H
    refine eB c24 ?_
    refine gT rfl rfl (p_ldA ty23 sz23 (S23.atX (i:=0) rfl) rfl rfl ?_)
    obtain ⟨r25,h26,H⟩:=bindS H
    refine gT rfl rfl (p_cv (coal_isSpan_ok h26) fu66 rfl S23 fun w27 S28=>?_)
    refine p_pkT rfl (rfl:_=B r25)<|p_aB rfl<|wp_nil<|reg<|p_add rfl rfl<|p_mI rfl<|wp_nil ?_
    have S29:=S28.pk [1] (by decide) [0,1] rfl rfl
    exact ⟨(r25,wr (z_2.2+1)),(),_,rfl,⟨rfl,rfl,rfl,rfl,trivial⟩,H,S29⟩
   ·replace H:=condF c24 H
    refine eB c24<|gF rfl rfl<|gF rfl rfl<|p_pkF rfl (rfl:_=B false)<|p_aB rfl<|wp_nil<|reg<|p_add rfl rfl<|p_mI rfl<|wp_nil ?_
    have S30:=S23.pk [1] (by decide) [0,1] rfl rfl
    exact ⟨(false,wr (z_2.2+1)),(),_,rfl,⟨rfl,rfl,rfl,rfl,trivial⟩,H,S30⟩
  ·replace H:=condF c17 H
   refine c_exit<|c_seq<|c_seq<|reg<|p_fld fl29_2 rfl<|p_ldP (vs:=sg a0.Extra 3) ty25 sz25 (S16.atX (i:=0) rfl) rfl rfl rfl<|p_mI rfl<|wp_nil<|c_block ?_
   refine c_lop (α:=Bool×Int) (β:=Unit) (coal_Check_l7 a0) (fun z_3 y_3=>[(1,P b7 0),(3,B z_3.1),(52,AG (sg a0.Extra 3)),(53,I z_3.2)]) (fun z_3 y_3 w_=>St w nF w_ [bl b7 ([I a0.Heap.Low,I a0.Heap.High]++(sgE eSpan a0.Eats 2++(sg a0.Extra 3++[SL A1 a0.Days.length c2,I a0.Collier.Low,I a0.Collier.High,I a0.Brings,SL A4 a0.Dips.length c5]))) 29] [rd eCoalDay 3 A1 c2 a0.Days,rd eCoalDip 3 A4 c5 a0.Dips]) (z_2.1,0) () H ⟨rfl,rfl,rfl,rfl,trivial⟩ S16 ?_
   intro m31 z_3 y_3 e32 w33 H S34
   unfold coal_Check_l7 at H
   refine c_seq<|reg<|p_cmp rfl rfl rfl<|wp_nil<|c_seq ?_
   refine c_cond rfl (fun c35=>?_) (fun c35=>?_)
   ·replace H:=condT c35 H
    refine c_skip<|c_seq<|c_block<|c_seq<|reg ?_
    obtain ⟨h36,H⟩:=needS H
    refine p_idxI (l:=a0.Extra) ae25 sz3 ty3 h36 rfl rfl<|p_aI rfl<|wp_nil<|reg<|p_mB rfl<|p_mB rfl ?_
    rcases bE (z_3.1) with c37 | c37
    ·replace H:=condT c37 H
     refine eB c37 ?_
     refine gT rfl rfl (p_mI rfl ?_)
     obtain ⟨r38,h39,H⟩:=bindS H
     refine gT rfl rfl (p_cv (coal_within_ok h39) fu61 rfl S34 fun w40 S41=>?_)
     exact p_pkT rfl (rfl:_=B r38)<|p_aB rfl<|wp_nil<|reg<|p_add rfl rfl<|p_mI rfl<|wp_nil ⟨(r38,wr (z_3.2+1)),(),_,rfl,⟨rfl,rfl,rfl,rfl,trivial⟩,H,S41⟩
    ·replace H:=condF c37 H
     refine eB c37<|gF rfl rfl<|gF rfl rfl<|p_pkF rfl (rfl:_=B false)<|p_aB rfl<|wp_nil<|reg<|p_add rfl rfl<|p_mI rfl<|wp_nil ?_
     exact ⟨(false,wr (z_3.2+1)),(),_,rfl,⟨rfl,rfl,rfl,rfl,trivial⟩,H,S34⟩
   ·replace H:=condF c35 H
    refine c_exit<|c_seq<|c_seq<|reg<|p_fld fl29_3 rfl<|p_ld ty26 (S34.atX (i:=0) rfl) rfl rfl<|p_len rfl sc26<|p_mI rfl<|wp_nil<|c_block ?_
    refine c_lop (α:=Bool×Int) (β:=Unit) (coal_Check_l6 a0) (fun z_4 y_4=>[(1,P b7 0),(3,B z_4.1),(63,SL A1 a0.Days.length c2),(64,I (a0.Days.length:Int)),(65,I z_4.2)]) (fun z_4 y_4 w_=>St w nF w_ [bl b7 ([I a0.Heap.Low,I a0.Heap.High]++(sgE eSpan a0.Eats 2++(sg a0.Extra 3++[SL A1 a0.Days.length c2,I a0.Collier.Low,I a0.Collier.High,I a0.Brings,SL A4 a0.Dips.length c5]))) 29] [rd eCoalDay 3 A1 c2 a0.Days,rd eCoalDip 3 A4 c5 a0.Dips]) (z_3.1,0) () H ⟨rfl,rfl,rfl,rfl,rfl,trivial⟩ S34 ?_
    intro m42 z_4 y_4 e43 w44 H S45
    unfold coal_Check_l6 at H
    refine c_seq<|reg<|p_cmp rfl rfl rfl<|wp_nil<|c_seq ?_
    refine c_cond rfl (fun c46=>?_) (fun c46=>?_)
    ·replace H:=condT c46 H
     refine c_skip<|c_seq<|c_block<|c_seq<|reg ?_
     obtain ⟨r47,h48,H⟩:=bindS H
     refine p_ixE sc26 h48 (S45.atP (i:=0) rfl).1 rfl rfl rfl<|p_ldEA ty59 sz59 rfl h48 (S45.atP (i:=0) rfl).1 rfl<|p_allA in59 S45 fun b49 w50 S51=>p_stP (pre:=[]) (old:=[I 0,I 0,I 0]) (post:=[]) (vs:=[I r47.Crosses,I r47.Engines,I r47.Winds]) sz59 S51 (i:=0) rfl rfl rfl rfl (rfl:_=AG [I r47.Crosses,I r47.Engines,I r47.Winds]) rfl rfl rfl rfl fun w52 S53=>wp_nil<|reg<|p_mB rfl<|p_mB rfl ?_
     rcases bE (z_4.1) with c54 | c54
     ·replace H:=condT c54 H
      refine eB c54 ?_
      refine gT rfl rfl (p_fld fl59_0 rfl ?_)
      refine gT rfl rfl (p_ld ty3 (S53.atX (i:=0) rfl) rfl rfl ?_)
      obtain ⟨r55,h56,H⟩:=bindS H
      refine gT rfl rfl (p_cv (coal_within_ok h56) fu61 rfl S53 fun w57 S58=>?_)
      refine p_pkT rfl (rfl:_=B r55)<|p_mB rfl ?_
      rcases bE (r55) with c59 | c59
      ·replace H:=condT c59 H
       refine eB c59 ?_
       refine gT rfl rfl (p_fld fl59_1 rfl ?_)
       refine gT rfl rfl (p_ld ty3 (S58.atX (i:=0) rfl) rfl rfl ?_)
       obtain ⟨r60,h61,H⟩:=bindS H
       refine gT rfl rfl (p_cv (coal_within_ok h61) fu61 rfl S58 fun w62 S63=>?_)
       refine p_pkT rfl (rfl:_=B r60)<|p_mB rfl ?_
       rcases bE (r60) with c64 | c64
       ·replace H:=condT c64 H
        refine eB c64 ?_
        refine gT rfl rfl (p_fld fl59_2 rfl ?_)
        refine gT rfl rfl (p_ld ty3 (S63.atX (i:=0) rfl) rfl rfl ?_)
        obtain ⟨r65,h66,H⟩:=bindS H
        refine gT rfl rfl (p_cv (coal_within_ok h66) fu61 rfl S63 fun w67 S68=>?_)
        refine p_pkT rfl (rfl:_=B r65)<|p_aB rfl<|wp_nil<|reg<|p_add rfl rfl<|p_mI rfl<|wp_nil ?_
        have S69:=S68.pk [1] (by decide) [0,1] rfl rfl
        exact ⟨(r65,wr (z_4.2+1)),(),_,rfl,⟨rfl,rfl,rfl,rfl,rfl,trivial⟩,H,S69⟩
       ·replace H:=condF c64 H
        refine eB c64<|gF rfl rfl<|gF rfl rfl<|gF rfl rfl<|p_pkF rfl (rfl:_=B false)<|p_aB rfl<|wp_nil<|reg<|p_add rfl rfl<|p_mI rfl<|wp_nil ?_
        have S70:=S63.pk [1] (by decide) [0,1] rfl rfl
        exact ⟨(false,wr (z_4.2+1)),(),_,rfl,⟨rfl,rfl,rfl,rfl,rfl,trivial⟩,H,S70⟩
      ·replace H:=condF c59 H
       refine eB c59<|gF rfl rfl<|gF rfl rfl<|gF rfl rfl<|p_pkF rfl (rfl:_=B false)<|p_mB rfl<|gF rfl rfl<|gF rfl rfl<|gF rfl rfl<|p_pkF rfl (rfl:_=B false)<|p_aB rfl<|wp_nil<|reg<|p_add rfl rfl<|p_mI rfl<|wp_nil ?_
       have S71:=S58.pk [1] (by decide) [0,1] rfl rfl
       exact ⟨(false,wr (z_4.2+1)),(),_,rfl,⟨rfl,rfl,rfl,rfl,rfl,trivial⟩,H,S71⟩
     ·replace H:=condF c54 H
      refine eB c54<|gF rfl rfl<|gF rfl rfl<|gF rfl rfl<|p_pkF rfl (rfl:_=B false)<|p_mB rfl<|gF rfl rfl<|gF rfl rfl<|gF rfl rfl<|p_pkF rfl (rfl:_=B false)<|p_mB rfl<|gF rfl rfl<|gF rfl rfl<|gF rfl rfl<|p_pkF rfl (rfl:_=B false)<|p_aB rfl<|wp_nil<|reg<|p_add rfl rfl<|p_mI rfl<|wp_nil ?_
      have S72:=S53.pk [1] (by decide) [0,1] rfl rfl
      exact ⟨(false,wr (z_4.2+1)),(),_,rfl,⟨rfl,rfl,rfl,rfl,rfl,trivial⟩,H,S72⟩
    ·replace H:=condF c46 H
     refine c_exit<|c_seq<|c_seq<|reg<|p_fld fl29_6 rfl<|p_ld ty27 (S45.atX (i:=0) rfl) rfl rfl<|p_len rfl sc27<|p_mI rfl<|wp_nil<|c_block ?_
     refine c_lop (α:=Bool×Int) (β:=Unit) (coal_Check_l5 a0) (fun z_5 y_5=>[(1,P b7 0),(3,B z_5.1),(87,SL A4 a0.Dips.length c5),(88,I (a0.Dips.length:Int)),(89,I z_5.2)]) (fun z_5 y_5 w_=>St w nF w_ [bl b7 ([I a0.Heap.Low,I a0.Heap.High]++(sgE eSpan a0.Eats 2++(sg a0.Extra 3++[SL A1 a0.Days.length c2,I a0.Collier.Low,I a0.Collier.High,I a0.Brings,SL A4 a0.Dips.length c5]))) 29] [rd eCoalDay 3 A1 c2 a0.Days,rd eCoalDip 3 A4 c5 a0.Dips]) (z_4.1,0) () H ⟨rfl,rfl,rfl,rfl,rfl,trivial⟩ S45 ?_
     intro m73 z_5 y_5 e74 w75 H S76
     unfold coal_Check_l5 at H
     refine c_seq<|reg<|p_cmp rfl rfl rfl<|wp_nil<|c_seq ?_
     refine c_cond rfl (fun c77=>?_) (fun c77=>?_)
     ·replace H:=condT c77 H
      refine c_skip<|c_seq<|c_block<|c_seq<|reg ?_
      obtain ⟨r78,h79,H⟩:=bindS H
      refine p_ixE sc27 h79 (S76.atP (i:=1) rfl).1 rfl rfl rfl<|p_ldEA ty75 sz75 rfl h79 (S76.atP (i:=1) rfl).1 rfl<|p_allA in75 S76 fun b80 w81 S82=>p_stP (pre:=[]) (old:=[I 0,I 0,I 0]) (post:=[]) (vs:=[I r78.Day,I r78.Read,I r78.Error]) sz75 S82 (i:=0) rfl rfl rfl rfl (rfl:_=AG [I r78.Day,I r78.Read,I r78.Error]) rfl rfl rfl rfl fun w83 S84=>wp_nil<|reg<|p_mB rfl<|p_mB rfl ?_
      rcases bE (z_5.1) with c85 | c85
      ·replace H:=condT c85 H
       refine eB c85 ?_
       refine gT rfl rfl (p_ldA ty29 sz29 (S84.atX (i:=1) rfl) rfl rfl ?_)
       refine gT rfl rfl (p_fld fl75_0 rfl ?_)
       refine gT rfl rfl (p_ld ty3 (S84.atX (i:=0) rfl) rfl rfl ?_)
       obtain ⟨r86,h87,H⟩:=bindS H
       refine gT rfl rfl (p_cv (coal_isDay_ok h87 (S84.atP (i:=0) rfl) (S84.atP (i:=1) rfl)) fu45 rfl S84 fun w88 S89=>?_)
       refine p_pkT rfl (rfl:_=B r86)<|p_mB rfl ?_
       rcases bE (r86) with c90 | c90
       ·replace H:=condT c90 H
        refine eB c90 ?_
        refine gT rfl rfl (p_fld fl75_1 rfl ?_)
        refine gT rfl rfl (p_ld ty3 (S89.atX (i:=0) rfl) rfl rfl ?_)
        obtain ⟨r91,h92,H⟩:=bindS H
        refine gT rfl rfl (p_cv (coal_within_ok h92) fu61 rfl S89 fun w93 S94=>?_)
        refine p_pkT rfl (rfl:_=B r91)<|p_mB rfl ?_
        rcases bE (r91) with c95 | c95
        ·replace H:=condT c95 H
         refine eB c95 ?_
         refine gT rfl rfl (p_fld fl75_2 rfl ?_)
         refine gT rfl rfl (p_ld ty3 (S94.atX (i:=0) rfl) rfl rfl ?_)
         obtain ⟨r96,h97,H⟩:=bindS H
         refine gT rfl rfl (p_cv (coal_within_ok h97) fu61 rfl S94 fun w98 S99=>?_)
         refine p_pkT rfl (rfl:_=B r96)<|p_aB rfl<|wp_nil<|reg<|p_add rfl rfl<|p_mI rfl<|wp_nil ?_
         have S100:=S99.pk [1] (by decide) [0,1] rfl rfl
         exact ⟨(r96,wr (z_5.2+1)),(),_,rfl,⟨rfl,rfl,rfl,rfl,rfl,trivial⟩,H,S100⟩
        ·replace H:=condF c95 H
         refine eB c95<|gF rfl rfl<|gF rfl rfl<|gF rfl rfl<|p_pkF rfl (rfl:_=B false)<|p_aB rfl<|wp_nil<|reg<|p_add rfl rfl<|p_mI rfl<|wp_nil ?_
         have S101:=S94.pk [1] (by decide) [0,1] rfl rfl
         exact ⟨(false,wr (z_5.2+1)),(),_,rfl,⟨rfl,rfl,rfl,rfl,rfl,trivial⟩,H,S101⟩
       ·replace H:=condF c90 H
        refine eB c90<|gF rfl rfl<|gF rfl rfl<|gF rfl rfl<|p_pkF rfl (rfl:_=B false)<|p_mB rfl<|gF rfl rfl<|gF rfl rfl<|gF rfl rfl<|p_pkF rfl (rfl:_=B false)<|p_aB rfl<|wp_nil<|reg<|p_add rfl rfl<|p_mI rfl<|wp_nil ?_
        have S102:=S89.pk [1] (by decide) [0,1] rfl rfl
        exact ⟨(false,wr (z_5.2+1)),(),_,rfl,⟨rfl,rfl,rfl,rfl,rfl,trivial⟩,H,S102⟩
      ·replace H:=condF c85 H
       refine eB c85<|gF rfl rfl<|gF rfl rfl<|gF rfl rfl<|gF rfl rfl<|p_pkF rfl (rfl:_=B false)<|p_mB rfl<|gF rfl rfl<|gF rfl rfl<|gF rfl rfl<|p_pkF rfl (rfl:_=B false)<|p_mB rfl<|gF rfl rfl<|gF rfl rfl<|gF rfl rfl<|p_pkF rfl (rfl:_=B false)<|p_aB rfl<|wp_nil<|reg<|p_add rfl rfl<|p_mI rfl<|wp_nil ?_
       have S103:=S84.pk [1] (by decide) [0,1] rfl rfl
       exact ⟨(false,wr (z_5.2+1)),(),_,rfl,⟨rfl,rfl,rfl,rfl,rfl,trivial⟩,H,S103⟩
     ·replace H:=condF c77 H
      refine c_exit<|c_seq<|c_seq<|reg<|p_mB rfl<|p_not rfl<|wp_nil ?_
      refine c_cond rfl (fun c104=>?_) (fun c104=>?_)
      ·replace H:=condT c104 H
       refine c_seq<|reg<|p_aI rfl<|wp_nil ?_
       obtain rfl:=sJ H
       exact c_ret (rT Tryd.f30 S76.keep rfl rfl)
      ·replace H:=condF c104 H
       refine c_skip<|c_seq<|reg<|p_aI rfl<|wp_nil ?_
       obtain rfl:=sJ H
       exact c_ret (rT Tryd.f30 S76.keep rfl rfl)
def B_Valid (a0:Span) (a1:Int) (a2:Int):Option Bool:=
 bif decide (a0.Low≥a1) then (bif decide (a0.Low≤a0.High) then (some (decide (a0.High≤a2)))
 else (some false))
 else (some false)
set_option maxRecDepth 100000 in
theorem B_Valid_ok {a0:Span}{a1:Int}{a2:Int}{w:World}{r:Bool} (H:B_Valid a0 a1 a2=some r):Calls Tryd.prog 31 #[AG [I a0.Low,I a0.High],I a1,I a2] w (RetV w (B r)):=by
 unfold B_Valid at H
 refine fn_of (n:=24) Tryd.func31 rfl rfl (lE rfl) ?_
 have S:=St.start w nF _ nM
 refine c_seq<|reg<|p_boxA rfl S fun b1 w2 S3=>p_aB rfl<|wp_nil<|c_seq<|reg<|p_fld fl23_0 rfl<|p_ld ty3 (S3.atX (i:=0) rfl) rfl rfl<|p_mI rfl<|p_cmp rfl rfl rfl<|p_mB rfl ?_
 rcases bE (decide (a0.Low≥a1)) with c4 | c4
 ·replace H:=condT c4 H
  refine eB c4 ?_
  refine gT rfl rfl (p_fld fl23_0 rfl ?_)
  refine gT rfl rfl (p_ld ty3 (S3.atX (i:=0) rfl) rfl rfl ?_)
  refine gT rfl rfl (p_fld fl23_1 rfl ?_)
  refine gT rfl rfl (p_ld ty3 (S3.atX (i:=0) rfl) rfl rfl ?_)
  refine gT rfl rfl (p_cmp rfl rfl rfl ?_)
  refine p_pkT rfl (rfl:_=B (decide (a0.Low≤a0.High)))<|p_mB rfl ?_
  rcases bE (decide (a0.Low≤a0.High)) with c5 | c5
  ·replace H:=condT c5 H
   refine eB c5 ?_
   refine gT rfl rfl (p_fld fl23_1 rfl ?_)
   refine gT rfl rfl (p_ld ty3 (S3.atX (i:=0) rfl) rfl rfl ?_)
   refine gT rfl rfl (p_mI rfl ?_)
   refine gT rfl rfl (p_cmp rfl rfl rfl ?_)
   refine p_pkT rfl (rfl:_=B (decide (a0.High≤a2)))<|p_aB rfl<|wp_nil ?_
   obtain rfl:=sJ H
   exact c_ret (rT Tryd.f31 S3.keep rfl rfl)
  ·replace H:=condF c5 H
   refine eB c5<|gF rfl rfl<|gF rfl rfl<|gF rfl rfl<|gF rfl rfl<|p_pkF rfl (rfl:_=B false)<|p_aB rfl<|wp_nil ?_
   obtain rfl:=sJ H
   exact c_ret (rT Tryd.f31 S3.keep rfl rfl)
 ·replace H:=condF c4 H
  refine eB c4<|gF rfl rfl<|gF rfl rfl<|gF rfl rfl<|gF rfl rfl<|gF rfl rfl<|p_pkF rfl (rfl:_=B false)<|p_mB rfl<|gF rfl rfl<|gF rfl rfl<|gF rfl rfl<|gF rfl rfl<|p_pkF rfl (rfl:_=B false)<|p_aB rfl<|wp_nil ?_
  obtain rfl:=sJ H
  exact c_ret (rT Tryd.f31 S3.keep rfl rfl)
def B_Inside (a0:Int) (a1:Int) (a2:Int):Option Bool:=
 bif decide (a0≥a1) then (some (decide (a0≤a2)))
 else (some false)
set_option maxRecDepth 100000 in
theorem B_Inside_ok {a0:Int}{a1:Int}{a2:Int}{w:World}{r:Bool} (H:B_Inside a0 a1 a2=some r):Calls Tryd.prog 32 #[I a0,I a1,I a2] w (RetV w (B r)):=by
 unfold B_Inside at H
 refine fn_of (n:=15) Tryd.func32 rfl rfl (lE rfl) ?_
 have S:=St.start w nF _ nM
 refine c_seq<|reg<|p_aB rfl<|wp_nil<|c_seq<|reg<|p_mI rfl<|p_mI rfl<|p_cmp rfl rfl rfl<|p_mB rfl ?_
 rcases bE (decide (a0≥a1)) with c1 | c1
 ·replace H:=condT c1 H
  refine eB c1 ?_
  refine gT rfl rfl (p_mI rfl ?_)
  refine gT rfl rfl (p_mI rfl ?_)
  refine gT rfl rfl (p_cmp rfl rfl rfl ?_)
  refine p_pkT rfl (rfl:_=B (decide (a0≤a2)))<|p_aB rfl<|wp_nil ?_
  obtain rfl:=sJ H
  exact c_ret (rT Tryd.f32 S.keep rfl rfl)
 ·replace H:=condF c1 H
  refine eB c1<|gF rfl rfl<|gF rfl rfl<|gF rfl rfl<|p_pkF rfl (rfl:_=B false)<|p_aB rfl<|wp_nil ?_
  obtain rfl:=sJ H
  exact c_ret (rT Tryd.f32 S.keep rfl rfl)
def law_small06_l2 (a0:CoalBook) (rec_z_3:(Bool×Int)→Option Bool) (z_3:Bool×Int):Option Bool:=
 bif z_3.1 then (bif decide (z_3.2 < (a0.Dips.length:Int)) then ((getI a0.Dips z_3.2).bind fun r30=>
 (B_Inside r30.Day 0 (wr ((a0.Days.length:Int) - 1))).bind fun r37=>
 bif r37 then ((B_Inside r30.Error 0 9).bind fun r42=>
 bif r42 then ((B_Inside r30.Read 0 800).bind fun r47=>
 rec_z_3 (r47,wr (z_3.2+1)))
 else (rec_z_3 (false,wr (z_3.2+1))))
 else (rec_z_3 (false,wr (z_3.2+1))))
 else (some z_3.1))
 else (some z_3.1)
def law_small06_l3 (a0:CoalBook) (rec_z_2:(Bool×Int)→Option Bool) (z_2:Bool×Int):Option Bool:=
 bif decide (z_2.2 < 2) then (bif z_2.1 then (need (inI z_2.2 2)<|
 (B_Valid (agetS a0.Eats z_2.2) 0 9).bind fun r20=>
 rec_z_2 (r20,wr (z_2.2+1)))
 else (rec_z_2 (false,wr (z_2.2+1))))
 else (loopF (law_small06_l2 a0) big (z_2.1,0))
def law_small06_j4 (a0:CoalBook) (z_1:Bool):Option Bool:=
 loopF (law_small06_l3 a0) big (z_1,0)
def law_small06 (a0:CoalBook):Option Bool:=
 (coal_Check a0).bind fun r10=>
 bif (r10==0) then ((B_Valid a0.Heap 0 400).bind fun r15=>
 bif r15 then ((B_Inside (a0.Days.length:Int) 1 6).bind fun r20=>
 bif r20 then (law_small06_j4 a0 (decide ((a0.Dips.length:Int)≤4)))
 else (law_small06_j4 a0 false))
 else (law_small06_j4 a0 false))
 else (law_small06_j4 a0 false)
set_option maxRecDepth 100000 in
theorem law_small06_ok {a0:CoalBook}{A1:Option Addr}{c2:Nat}{A4:Option Addr}{c5:Nat}{w:World}{r:Bool} (H:law_small06 a0=some r) (h3:(rd eCoalDay 3 A1 c2 a0.Days).ok w) (h6:(rd eCoalDip 3 A4 c5 a0.Dips).ok w):Calls Tryd.prog 5 #[AG ([I a0.Heap.Low,I a0.Heap.High]++(sgE eSpan a0.Eats 2++(sg a0.Extra 3++[SL A1 a0.Days.length c2,I a0.Collier.Low,I a0.Collier.High,I a0.Brings,SL A4 a0.Dips.length c5])))] w (RetV w (B r)):=by
 unfold law_small06 at H
 refine fn_of (n:=72) Tryd.func5 rfl rfl (lE rfl) ?_
 have S:=St.start w nF _ (cA h3 (cA h6 nM))
 refine c_seq<|reg<|p_boxA rfl S fun b7 w8 S9=>p_aB rfl<|wp_nil ?_
 refine c_join (α:=Bool) (β:=Unit) (fun z_1 y_1=>[(1,P b7 0),(3,B z_1)]) (fun z_1 y_1 w_=>law_small06_j4 a0 z_1=some r∧St w nF w_ [bl b7 ([I a0.Heap.Low,I a0.Heap.High]++(sgE eSpan a0.Eats 2++(sg a0.Extra 3++[SL A1 a0.Days.length c2,I a0.Collier.Low,I a0.Collier.High,I a0.Brings,SL A4 a0.Dips.length c5]))) 29] [rd eCoalDay 3 A1 c2 a0.Days,rd eCoalDip 3 A4 c5 a0.Dips]) ?_ ?_
 ·refine reg<|p_ldA ty29 sz29 (S9.atX (i:=0) rfl) rfl rfl ?_
  obtain ⟨r10,h11,H⟩:=bindS H
  refine p_cv (coal_Check_ok h11 (S9.atP (i:=0) rfl) (S9.atP (i:=1) rfl)) fu30 rfl S9 fun w12 S13=>p_cmp rfl rfl rfl<|p_mB rfl ?_
  rcases bE ((r10==0)) with c14 | c14
  ·replace H:=condT c14 H
   refine eB c14 ?_
   refine gT rfl rfl (p_fld fl29_0 rfl ?_)
   refine gT rfl rfl (p_ldP (vs:=[I a0.Heap.Low,I a0.Heap.High]) ty23 sz23 (S13.atX (i:=0) rfl) rfl rfl rfl ?_)
   obtain ⟨r15,h16,H⟩:=bindS H
   refine gT rfl rfl (p_cv (B_Valid_ok h16) fu31 rfl S13 fun w17 S18=>?_)
   refine p_pkT rfl (rfl:_=B r15)<|p_mB rfl ?_
   rcases bE (r15) with c19 | c19
   ·replace H:=condT c19 H
    refine eB c19 ?_
    refine gT rfl rfl (p_fld fl29_3 rfl ?_)
    refine gT rfl rfl (p_ld ty26 (S18.atX (i:=0) rfl) rfl rfl ?_)
    refine gT rfl rfl (p_len rfl sc26 ?_)
    obtain ⟨r20,h21,H⟩:=bindS H
    refine gT rfl rfl (p_cv (B_Inside_ok h21) fu32 rfl S18 fun w22 S23=>?_)
    refine p_pkT rfl (rfl:_=B r20)<|p_mB rfl ?_
    rcases bE (r20) with c24 | c24
    ·replace H:=condT c24 H
     refine eB c24 ?_
     refine gT rfl rfl (p_fld fl29_6 rfl ?_)
     refine gT rfl rfl (p_ld ty27 (S23.atX (i:=0) rfl) rfl rfl ?_)
     refine gT rfl rfl (p_len rfl sc27 ?_)
     refine gT rfl rfl (p_cmp rfl rfl rfl ?_)
     exact p_pkT rfl (rfl:_=B (decide ((a0.Dips.length:Int)≤4)))<|p_aB rfl<|wp_nil ⟨decide ((a0.Dips.length:Int)≤4),(),_,rfl,⟨rfl,rfl,trivial⟩,H,S23⟩
    ·replace H:=condF c24 H
     refine eB c24<|gF rfl rfl<|gF rfl rfl<|gF rfl rfl<|gF rfl rfl<|p_pkF rfl (rfl:_=B false)<|p_aB rfl<|wp_nil ?_
     exact ⟨false,(),_,rfl,⟨rfl,rfl,trivial⟩,H,S23⟩
   ·replace H:=condF c19 H
    refine eB c19<|gF rfl rfl<|gF rfl rfl<|gF rfl rfl<|gF rfl rfl<|p_pkF rfl (rfl:_=B false)<|p_mB rfl<|gF rfl rfl<|gF rfl rfl<|gF rfl rfl<|gF rfl rfl<|p_pkF rfl (rfl:_=B false)<|p_aB rfl<|wp_nil ?_
    exact ⟨false,(),_,rfl,⟨rfl,rfl,trivial⟩,H,S18⟩
  ·replace H:=condF c14 H
   refine eB c14<|gF rfl rfl<|gF rfl rfl<|gF rfl rfl<|p_pkF rfl (rfl:_=B false)<|p_mB rfl<|gF rfl rfl<|gF rfl rfl<|gF rfl rfl<|gF rfl rfl<|p_pkF rfl (rfl:_=B false)<|p_mB rfl<|gF rfl rfl<|gF rfl rfl<|gF rfl rfl<|gF rfl rfl<|p_pkF rfl (rfl:_=B false)<|p_aB rfl<|wp_nil ?_
   exact ⟨false,(),_,rfl,⟨rfl,rfl,trivial⟩,H,S13⟩
 ·intro z_1 y_1 e10 w11 S12; obtain ⟨H,S12⟩:=S12
  unfold law_small06_j4 at H
  refine c_seq<|c_seq<|reg<|p_aI rfl<|wp_nil<|c_block ?_
  refine c_lop (α:=Bool×Int) (β:=Unit) (law_small06_l3 a0) (fun z_2 y_2=>[(1,P b7 0),(3,B z_2.1),(4,I z_2.2)]) (fun z_2 y_2 w_=>St w nF w_ [bl b7 ([I a0.Heap.Low,I a0.Heap.High]++(sgE eSpan a0.Eats 2++(sg a0.Extra 3++[SL A1 a0.Days.length c2,I a0.Collier.Low,I a0.Collier.High,I a0.Brings,SL A4 a0.Dips.length c5]))) 29] [rd eCoalDay 3 A1 c2 a0.Days,rd eCoalDip 3 A4 c5 a0.Dips]) (z_1,0) () H ⟨rfl,rfl,rfl,trivial⟩ S12 ?_
  intro m13 z_2 y_2 e14 w15 H S16
  unfold law_small06_l3 at H
  refine c_seq<|c_seq<|reg<|p_mI rfl<|p_cmp rfl rfl rfl<|wp_nil ?_
  refine c_cond rfl (fun c17=>?_) (fun c17=>?_)
  ·replace H:=condT c17 H
   refine c_skip<|c_seq<|c_block<|reg<|p_mB rfl<|p_mB rfl ?_
   rcases bE (z_2.1) with c18 | c18
   ·replace H:=condT c18 H
    refine eB c18 ?_
    refine gT rfl rfl (p_mI rfl ?_)
    refine gT rfl rfl (p_fld fl29_1 rfl ?_)
    obtain ⟨h19,H⟩:=needS H
    refine gT rfl rfl (p_ixD ar24 h19 rfl rfl ?_)
    refine gT rfl rfl (p_ldDA (pre:=[I a0.Heap.Low,I a0.Heap.High]) (post:=sg a0.Extra 3++[SL A1 a0.Days.length c2,I a0.Collier.Low,I a0.Collier.High,I a0.Brings,SL A4 a0.Dips.length c5]) ty23 sz23 (S16.atX (i:=0) rfl) rfl eSpan_len h19 rfl rfl ?_)
    obtain ⟨r20,h21,H⟩:=bindS H
    refine gT rfl rfl (p_cv (B_Valid_ok h21) fu31 rfl S16 fun w22 S23=>?_)
    exact p_pkT rfl (rfl:_=B r20)<|p_aB rfl<|wp_nil<|reg<|p_mI rfl<|p_add rfl rfl<|p_aI rfl<|wp_nil ⟨(r20,wr (z_2.2+1)),(),_,rfl,⟨rfl,rfl,rfl,trivial⟩,H,S23⟩
   ·replace H:=condF c18 H
    refine eB c18<|gF rfl rfl<|gF rfl rfl<|gF rfl rfl<|gF rfl rfl<|gF rfl rfl<|p_pkF rfl (rfl:_=B false)<|p_aB rfl<|wp_nil<|reg<|p_mI rfl<|p_add rfl rfl<|p_aI rfl<|wp_nil ?_
    exact ⟨(false,wr (z_2.2+1)),(),_,rfl,⟨rfl,rfl,rfl,trivial⟩,H,S16⟩
  ·replace H:=condF c17 H
   refine c_exit<|c_seq<|c_seq<|reg<|p_aI rfl<|wp_nil<|c_block ?_
   refine c_lop (α:=Bool×Int) (β:=Unit) (law_small06_l2 a0) (fun z_3 y_3=>[(1,P b7 0),(3,B z_3.1),(5,I z_3.2)]) (fun z_3 y_3 w_=>St w nF w_ [bl b7 ([I a0.Heap.Low,I a0.Heap.High]++(sgE eSpan a0.Eats 2++(sg a0.Extra 3++[SL A1 a0.Days.length c2,I a0.Collier.Low,I a0.Collier.High,I a0.Brings,SL A4 a0.Dips.length c5]))) 29] [rd eCoalDay 3 A1 c2 a0.Days,rd eCoalDip 3 A4 c5 a0.Dips]) (z_2.1,0) () H ⟨rfl,rfl,rfl,trivial⟩ S16 ?_
   intro m24 z_3 y_3 e25 w26 H S27
   unfold law_small06_l2 at H
   refine c_seq<|c_seq<|reg<|p_mB rfl<|p_mB rfl ?_
   rcases bE (z_3.1) with c28 | c28
   ·replace H:=condT c28 H
    refine eB c28 ?_
    refine gT rfl rfl (p_mI rfl ?_)
    refine gT rfl rfl (p_fld fl29_6 rfl ?_)
    refine gT rfl rfl (p_ld ty27 (S27.atX (i:=0) rfl) rfl rfl ?_)
    refine gT rfl rfl (p_len rfl sc27 ?_)
    refine gT rfl rfl (p_cmp rfl rfl rfl ?_)
    refine p_pkT rfl (rfl:_=B (decide (z_3.2 < (a0.Dips.length:Int))))<|wp_nil ?_
    refine c_cond rfl (fun c29=>?_) (fun c29=>?_)
    ·replace H:=condT c29 H
     refine c_skip<|c_seq<|c_block<|c_seq<|reg<|p_fld fl29_6 rfl<|p_ld ty27 (S27.atX (i:=0) rfl) rfl rfl<|p_mI rfl ?_
     obtain ⟨r30,h31,H⟩:=bindS H
     refine p_ixE sc27 h31 (S27.atP (i:=1) rfl).1 rfl rfl rfl<|p_ldEA ty75 sz75 rfl h31 (S27.atP (i:=1) rfl).1 rfl<|p_allA in75 S27 fun b32 w33 S34=>p_stP (pre:=[]) (old:=[I 0,I 0,I 0]) (post:=[]) (vs:=[I r30.Day,I r30.Read,I r30.Error]) sz75 S34 (i:=0) rfl rfl rfl rfl (rfl:_=AG [I r30.Day,I r30.Read,I r30.Error]) rfl rfl rfl rfl fun w35 S36=>wp_nil<|reg<|p_fld fl75_0 rfl ?_
     refine p_ld ty3 (S36.atX (i:=0) rfl) rfl rfl<|p_fld fl29_3 rfl<|p_ld ty26 (S36.atX (i:=1) rfl) rfl rfl<|p_len rfl sc26<|p_sub rfl rfl ?_
     obtain ⟨r37,h38,H⟩:=bindS H
     refine p_cv (B_Inside_ok h38) fu32 rfl S36 fun w39 S40=>p_mB rfl ?_
     rcases bE (r37) with c41 | c41
     ·replace H:=condT c41 H
      refine eB c41 ?_
      refine gT rfl rfl (p_fld fl75_2 rfl ?_)
      refine gT rfl rfl (p_ld ty3 (S40.atX (i:=0) rfl) rfl rfl ?_)
      obtain ⟨r42,h43,H⟩:=bindS H
      refine gT rfl rfl (p_cv (B_Inside_ok h43) fu32 rfl S40 fun w44 S45=>?_)
      refine p_pkT rfl (rfl:_=B r42)<|p_mB rfl ?_
      rcases bE (r42) with c46 | c46
      ·replace H:=condT c46 H
       refine eB c46 ?_
       refine gT rfl rfl (p_fld fl75_1 rfl ?_)
       refine gT rfl rfl (p_ld ty3 (S45.atX (i:=0) rfl) rfl rfl ?_)
       obtain ⟨r47,h48,H⟩:=bindS H
       refine gT rfl rfl (p_cv (B_Inside_ok h48) fu32 rfl S45 fun w49 S50=>?_)
       refine p_pkT rfl (rfl:_=B r47)<|p_aB rfl<|wp_nil<|reg<|p_mI rfl<|p_add rfl rfl<|p_aI rfl<|wp_nil ?_
       have S51:=S50.pk [1] (by decide) [0,1] rfl rfl
       exact ⟨(r47,wr (z_3.2+1)),(),_,rfl,⟨rfl,rfl,rfl,trivial⟩,H,S51⟩
      ·replace H:=condF c46 H
       refine eB c46<|gF rfl rfl<|gF rfl rfl<|gF rfl rfl<|p_pkF rfl (rfl:_=B false)<|p_aB rfl<|wp_nil<|reg<|p_mI rfl<|p_add rfl rfl<|p_aI rfl<|wp_nil ?_
       have S52:=S45.pk [1] (by decide) [0,1] rfl rfl
       exact ⟨(false,wr (z_3.2+1)),(),_,rfl,⟨rfl,rfl,rfl,trivial⟩,H,S52⟩
     ·replace H:=condF c41 H
      refine eB c41<|gF rfl rfl<|gF rfl rfl<|gF rfl rfl<|p_pkF rfl (rfl:_=B false)<|p_mB rfl<|gF rfl rfl<|gF rfl rfl<|gF rfl rfl<|p_pkF rfl (rfl:_=B false)<|p_aB rfl<|wp_nil<|reg<|p_mI rfl<|p_add rfl rfl<|p_aI rfl<|wp_nil ?_
      have S53:=S40.pk [1] (by decide) [0,1] rfl rfl
      exact ⟨(false,wr (z_3.2+1)),(),_,rfl,⟨rfl,rfl,rfl,trivial⟩,H,S53⟩
    ·replace H:=condF c29 H
     refine c_exit<|c_seq<|reg<|p_mB rfl<|p_aB rfl<|wp_nil ?_
     obtain rfl:=sJ H
     exact c_ret (rT Tryd.f5 S27.keep rfl rfl)
   ·replace H:=condF c28 H
    refine eB c28<|gF rfl rfl<|gF rfl rfl<|gF rfl rfl<|gF rfl rfl<|gF rfl rfl<|p_pkF rfl (rfl:_=B false)<|wp_nil<|c_false rfl<|c_exit<|c_seq<|reg<|p_mB rfl<|p_aB rfl<|wp_nil ?_
    obtain rfl:=sJ H
    exact c_ret (rT Tryd.f5 S27.keep rfl rfl)
def law_trips06_l2 (a0:CoalBook) (rec_z_1:(Int×(List TallyCount))→Option TallyBook) (z_1:Int×(List TallyCount)):Option TallyBook:=
 bif decide (z_1.1 < (a0.Dips.length:Int)) then ((getI a0.Dips z_1.1).bind fun r24=>
 need (fitsL (z_1.2.length+([(TallyCount.mk 2 0 r24.Day (wr (a0.Heap.Low - r24.Read)) 1 r24.Error r24.Error)]:List TallyCount).length) 56)<|
 rec_z_1 (wr (z_1.1+1),z_1.2++([(TallyCount.mk 2 0 r24.Day (wr (a0.Heap.Low - r24.Read)) 1 r24.Error r24.Error)]:List TallyCount)))
 else (some (TallyBook.mk (a0.Days.length:Int) 2 z_1.2))
def law_trips06 (a0:CoalBook):Option TallyBook:=
 loopF (law_trips06_l2 a0) big (0,([]:List TallyCount))
set_option maxRecDepth 100000 in
theorem law_trips06_ok {a0:CoalBook}{A1:Option Addr}{c2:Nat}{A4:Option Addr}{c5:Nat}{w:World}{r:TallyBook} (H:law_trips06 a0=some r) (h3:(rd eCoalDay 3 A1 c2 a0.Days).ok w) (h6:(rd eCoalDip 3 A4 c5 a0.Dips).ok w):Calls Tryd.prog 8 #[AG ([I a0.Heap.Low,I a0.Heap.High]++(sgE eSpan a0.Eats 2++(sg a0.Extra 3++[SL A1 a0.Days.length c2,I a0.Collier.Low,I a0.Collier.High,I a0.Brings,SL A4 a0.Dips.length c5])))] w fun en w_=>∃ u_,en=.returned u_∧∃ A_1:Option Addr,∃ c_2:Nat,u_=AG [I r.Trips,I r.Room,SL A_1 r.Counts.length c_2]∧Keep0 w w_∧((gr eTallyCount 7 81 A_1 c_2 r.Counts).ok w_∧New w.heap.size (gr eTallyCount 7 81 A_1 c_2 r.Counts))∧True:=by
 unfold law_trips06 at H
 refine fn_of (n:=41) Tryd.func8 rfl rfl (lE rfl) ?_
 have S:=St.start w nF _ (cA h3 (cA h6 nM))
 refine c_seq<|reg<|p_boxA rfl S fun b7 w8 S9=>p_allA in35 S9 fun b10 w11 S12=>wp_nil<|c_seq<|reg<|p_fld fl29_3 rfl<|p_ld ty26 (S12.atX (i:=1) rfl) rfl rfl<|p_len rfl sc26<|p_bld (cs:=[I (a0.Days.length:Int),I 2,SL none 0 0]) st35 (rfl:_=[(0,I (a0.Days.length:Int)),(1,I 2)]) (by kernel_rfl)<|p_allA in35 S12 fun b13 w14 S15=>?_
 refine p_stP (pre:=[]) (old:=[I 0,I 0,SL none 0 0]) (post:=[]) (vs:=[I (a0.Days.length:Int),I 2,SL none 0 0]) sz35 S15 (i:=0) rfl rfl rfl rfl (rfl:_=AG [I (a0.Days.length:Int),I 2,SL none 0 0]) rfl rfl rfl rfl fun w16 S17=>wp_nil<|c_seq<|c_seq<|reg<|p_aI rfl<|wp_nil<|c_block ?_
 have S18:=S17.nilRow eTallyCount 7 81
 refine c_lop (α:=Int×(List TallyCount)) (β:=(Option Addr)×Nat) (law_trips06_l2 a0) (fun z_1 y_1=>[(1,P b7 0),(2,P b10 0),(3,P b13 0),(4,I z_1.1)]) (fun z_1 y_1 w_=>St w nF w_ [gr eTallyCount 7 81 y_1.1 y_1.2 z_1.2,bl b13 [I (a0.Days.length:Int),I 2,SL y_1.1 z_1.2.length y_1.2] 35,bl b10 [I 0,I 0,SL none 0 0] 35,bl b7 ([I a0.Heap.Low,I a0.Heap.High]++(sgE eSpan a0.Eats 2++(sg a0.Extra 3++[SL A1 a0.Days.length c2,I a0.Collier.Low,I a0.Collier.High,I a0.Brings,SL A4 a0.Dips.length c5]))) 29] [rd eCoalDay 3 A1 c2 a0.Days,rd eCoalDip 3 A4 c5 a0.Dips]) (0,([]:List TallyCount)) (none,0) H ⟨rfl,rfl,rfl,rfl,trivial⟩ S18 ?_
 intro m19 z_1 y_1 e20 w21 H S22
 unfold law_trips06_l2 at H
 refine c_seq<|c_seq<|reg<|p_mI rfl<|p_fld fl29_6 rfl<|p_ld ty27 (S22.atX (i:=3) rfl) rfl rfl<|p_len rfl sc27<|p_cmp rfl rfl rfl<|wp_nil ?_
 refine c_cond rfl (fun c23=>?_) (fun c23=>?_)
 ·replace H:=condT c23 H
  refine c_skip<|c_seq<|c_block<|c_seq<|reg<|p_fld fl29_6 rfl<|p_ld ty27 (S22.atX (i:=3) rfl) rfl rfl<|p_mI rfl ?_
  obtain ⟨r24,h25,H⟩:=bindS H
  refine p_ixE sc27 h25 (S22.atP (i:=1) rfl).1 rfl rfl rfl<|p_ldEA ty75 sz75 rfl h25 (S22.atP (i:=1) rfl).1 rfl<|p_allA in75 S22 fun b26 w27 S28=>p_stP (pre:=[]) (old:=[I 0,I 0,I 0]) (post:=[]) (vs:=[I r24.Day,I r24.Read,I r24.Error]) sz75 S28 (i:=0) rfl rfl rfl rfl (rfl:_=AG [I r24.Day,I r24.Read,I r24.Error]) rfl rfl rfl rfl fun w29 S30=>wp_nil<|reg<|p_fld fl35_2 rfl ?_
  refine p_ld ty33 (S30.atX (i:=2) rfl) rfl rfl<|p_fld fl75_0 rfl<|p_ld ty3 (S30.atX (i:=0) rfl) rfl rfl<|p_fld fl29_0 rfl<|p_fld fl23_0 rfl<|p_ld ty3 (S30.atX (i:=4) rfl) rfl rfl<|p_fld fl75_1 rfl<|p_ld ty3 (S30.atX (i:=0) rfl) rfl rfl<|p_sub rfl rfl<|p_fld fl75_2 rfl<|p_ld ty3 (S30.atX (i:=0) rfl) rfl rfl<|p_fld fl75_2 rfl<|p_ld ty3 (S30.atX (i:=0) rfl) rfl rfl ?_
  refine p_bld (cs:=[I 2,I 0,I r24.Day,I (wr (a0.Heap.Low - r24.Read)),I 1,I r24.Error,I r24.Error]) st81 (rfl:_=[(0,I 2),(2,I r24.Day),(3,I (wr (a0.Heap.Low - r24.Read))),(4,I 1),(5,I r24.Error),(6,I r24.Error)]) (by kernel_rfl) ?_
  refine p_bsl (enc:=eTallyCount) (l:=([(TallyCount.mk 2 0 r24.Day (wr (a0.Heap.Low - r24.Read)) 1 r24.Error r24.Error)]:List TallyCount)) (fun x=>AG (eTallyCount x)) (fun _=>rfl) sc33 in81 eTallyCount_len rfl (by decide) (by decide) zr81_1 S30 rfl fun A31 c32 w33 S34=>?_
  obtain ⟨h40,H⟩:=needS H
  refine p_app (enc:=eTallyCount) sc33 in81 rfl eTallyCount_len eTallyCount_one (by decide) S34 (k:=2) rfl (gr_sl eTallyCount_len (S34.atX (i:=0) rfl)) h40 (by simp) rfl rfl fun A38 c39 w36 S37=>p_fld fl35_2 rfl ?_
  refine p_stP (pre:=[I (a0.Days.length:Int),I 2]) (old:=[SL y_1.1 z_1.2.length y_1.2]) (post:=[]) (vs:=[SL A38 (z_1.2++([(TallyCount.mk 2 0 r24.Day (wr (a0.Heap.Low - r24.Read)) 1 r24.Error r24.Error)]:List TallyCount)).length c39]) sz33 S37 (i:=3) rfl rfl rfl rfl (rfl:_=SL A38 (z_1.2++([(TallyCount.mk 2 0 r24.Day (wr (a0.Heap.Low - r24.Read)) 1 r24.Error r24.Error)]:List TallyCount)).length c39) rfl rfl rfl rfl fun w41 S42=>?_
  refine wp_nil<|reg<|p_mI rfl<|p_add rfl rfl<|p_aI rfl<|wp_nil ?_
  have S43:=S42.pk [2,3,4,5] (by decide) [0,1] rfl rfl
  exact ⟨(wr (z_1.1+1),z_1.2++([(TallyCount.mk 2 0 r24.Day (wr (a0.Heap.Low - r24.Read)) 1 r24.Error r24.Error)]:List TallyCount)),(A38,c39),_,rfl,⟨rfl,rfl,rfl,rfl,trivial⟩,H,S43⟩
 ·replace H:=condF c23 H
  refine c_exit<|c_seq<|reg<|p_ldA ty35 sz35 (S22.atX (i:=1) rfl) rfl rfl<|p_stP (pre:=[]) (old:=[I 0,I 0,SL none 0 0]) (post:=[]) (vs:=[I (a0.Days.length:Int),I 2,SL y_1.1 z_1.2.length y_1.2]) sz35 S22 (i:=2) rfl rfl rfl rfl (rfl:_=AG [I (a0.Days.length:Int),I 2,SL y_1.1 z_1.2.length y_1.2]) rfl rfl rfl rfl fun w44 S45=>wp_nil ?_
  obtain rfl:=sJ H
  refine c_ret ?_; show bodyPostM (Fr none) 0 Tryd.prog Tryd.f8 _ .ret _ _
  refine ret_of (res1 rfl (rvA rfl ty35 sz35 (S45.atX (i:=2) rfl) rfl)) ?_
  exact ⟨_,rfl,y_1.1,y_1.2,rfl,S45.keep,⟨S45.atX (i:=0) rfl,S45.newX (i:=0) rfl⟩,trivial⟩
def tally_within (a0:Int) (a1:Int) (a2:Int):Option Bool:=
 bif decide (a1≤a0) then (some (decide (a0≤a2)))
 else (some false)
set_option maxRecDepth 100000 in
theorem tally_within_ok {a0:Int}{a1:Int}{a2:Int}{w:World}{r:Bool} (H:tally_within a0 a1 a2=some r):Calls Tryd.prog 69 #[I a0,I a1,I a2] w (RetV w (B r)):=by
 unfold tally_within at H
 refine fn_of (n:=15) Tryd.func69 rfl rfl (lE rfl) ?_
 have S:=St.start w nF _ nM
 refine c_seq<|reg<|p_aB rfl<|wp_nil<|c_seq<|reg<|p_mI rfl<|p_mI rfl<|p_cmp rfl rfl rfl<|p_mB rfl ?_
 rcases bE (decide (a1≤a0)) with c1 | c1
 ·replace H:=condT c1 H
  refine eB c1 ?_
  refine gT rfl rfl (p_mI rfl ?_)
  refine gT rfl rfl (p_mI rfl ?_)
  refine gT rfl rfl (p_cmp rfl rfl rfl ?_)
  refine p_pkT rfl (rfl:_=B (decide (a0≤a2)))<|p_aB rfl<|wp_nil ?_
  obtain rfl:=sJ H
  exact c_ret (rT Tryd.f69 S.keep rfl rfl)
 ·replace H:=condF c1 H
  refine eB c1<|gF rfl rfl<|gF rfl rfl<|gF rfl rfl<|p_pkF rfl (rfl:_=B false)<|p_aB rfl<|wp_nil ?_
  obtain rfl:=sJ H
  exact c_ret (rT Tryd.f69 S.keep rfl rfl)
def tally_isTrips (a0:TallyBook) (a1:Int) (a2:Int):Option Bool:=
 (tally_within a1 0 a2).bind fun r7=>
 bif r7 then (some (decide (a2 < a0.Trips)))
 else (some false)
set_option maxRecDepth 100000 in
theorem tally_isTrips_ok {a0:TallyBook}{a1:Int}{a2:Int}{A1:Option Addr}{c2:Nat}{w:World}{r:Bool} (H:tally_isTrips a0 a1 a2=some r) (h3:(rd eTallyCount 7 A1 c2 a0.Counts).ok w):Calls Tryd.prog 49 #[AG [I a0.Trips,I a0.Room,SL A1 a0.Counts.length c2],I a1,I a2] w (RetV w (B r)):=by
 unfold tally_isTrips at H
 refine fn_of (n:=16) Tryd.func49 rfl rfl (lE rfl) ?_
 have S:=St.start w nF _ (cA h3 nM)
 refine c_seq<|reg<|p_boxA rfl S fun b4 w5 S6=>p_aB rfl<|wp_nil<|c_seq<|reg<|p_mI rfl<|p_mI rfl ?_
 obtain ⟨r7,h8,H⟩:=bindS H
 refine p_cv (tally_within_ok h8) fu69 rfl S6 fun w9 S10=>p_mB rfl ?_
 rcases bE (r7) with c11 | c11
 ·replace H:=condT c11 H
  refine eB c11 ?_
  refine gT rfl rfl (p_mI rfl ?_)
  refine gT rfl rfl (p_fld fl35_0 rfl ?_)
  refine gT rfl rfl (p_ld ty3 (S10.atX (i:=0) rfl) rfl rfl ?_)
  refine gT rfl rfl (p_cmp rfl rfl rfl ?_)
  refine p_pkT rfl (rfl:_=B (decide (a2 < a0.Trips)))<|p_aB rfl<|wp_nil ?_
  obtain rfl:=sJ H
  exact c_ret (rT Tryd.f49 S10.keep rfl rfl)
 ·replace H:=condF c11 H
  refine eB c11<|gF rfl rfl<|gF rfl rfl<|gF rfl rfl<|gF rfl rfl<|p_pkF rfl (rfl:_=B false)<|p_aB rfl<|wp_nil ?_
  obtain rfl:=sJ H
  exact c_ret (rT Tryd.f49 S10.keep rfl rfl)
def tally_isCount_j1 (a1:TallyCount) (z_1:Bool):Option Bool:=
 bif z_1 then ((tally_within a1.Under 0 30).bind fun r14=>
 bif r14 then ((tally_within a1.Over 0 30).bind fun r19=>
 bif r19 then (bif (a1.Who != 1) then (some true)
 else (some (a1.Over==0)))
 else (some false))
 else (some false))
 else (some false)
def tally_isCount (a0:TallyBook) (a1:TallyCount):Option Bool:=
 (tally_within a1.Who 0 2).bind fun r10=>
 bif r10 then ((tally_isTrips a0 a1.From a1.To).bind fun r15=>
 bif r15 then ((tally_within a1.Told 0 99).bind fun r20=>
 bif r20 then ((tally_within a1.Unit 1 20).bind fun r25=>
 tally_isCount_j1 a1 r25)
 else (tally_isCount_j1 a1 false))
 else (tally_isCount_j1 a1 false))
 else (tally_isCount_j1 a1 false)
set_option maxRecDepth 100000 in
theorem tally_isCount_ok {a0:TallyBook}{a1:TallyCount}{A1:Option Addr}{c2:Nat}{w:World}{r:Bool} (H:tally_isCount a0 a1=some r) (h3:(rd eTallyCount 7 A1 c2 a0.Counts).ok w):Calls Tryd.prog 70 #[AG [I a0.Trips,I a0.Room,SL A1 a0.Counts.length c2],AG [I a1.Who,I a1.From,I a1.To,I a1.Told,I a1.Unit,I a1.Under,I a1.Over]] w (RetV w (B r)):=by
 unfold tally_isCount at H
 refine fn_of (n:=48) Tryd.func70 rfl rfl (lE rfl) ?_
 have S:=St.start w nF _ (cA h3 nM)
 refine c_seq<|reg<|p_boxA rfl S fun b4 w5 S6=>p_boxA rfl S6 fun b7 w8 S9=>p_aB rfl<|wp_nil ?_
 refine c_join (α:=Bool) (β:=Unit) (fun z_1 y_1=>[(3,P b7 0),(5,B z_1)]) (fun z_1 y_1 w_=>tally_isCount_j1 a1 z_1=some r∧St w nF w_ [bl b7 [I a1.Who,I a1.From,I a1.To,I a1.Told,I a1.Unit,I a1.Under,I a1.Over] 81] [rd eTallyCount 7 A1 c2 a0.Counts]) ?_ ?_
 ·refine reg<|p_fld fl81_0 rfl<|p_ld ty3 (S9.atX (i:=0) rfl) rfl rfl ?_
  obtain ⟨r10,h11,H⟩:=bindS H
  refine p_cv (tally_within_ok h11) fu69 rfl S9 fun w12 S13=>p_mB rfl ?_
  rcases bE (r10) with c14 | c14
  ·replace H:=condT c14 H
   refine eB c14 ?_
   refine gT rfl rfl (p_ldA ty35 sz35 (S13.atX (i:=1) rfl) rfl rfl ?_)
   refine gT rfl rfl (p_fld fl81_1 rfl ?_)
   refine gT rfl rfl (p_ld ty3 (S13.atX (i:=0) rfl) rfl rfl ?_)
   refine gT rfl rfl (p_fld fl81_2 rfl ?_)
   refine gT rfl rfl (p_ld ty3 (S13.atX (i:=0) rfl) rfl rfl ?_)
   obtain ⟨r15,h16,H⟩:=bindS H
   refine gT rfl rfl (p_cv (tally_isTrips_ok h16 (S13.atP (i:=0) rfl)) fu49 rfl S13 fun w17 S18=>?_)
   refine p_pkT rfl (rfl:_=B r15)<|p_mB rfl ?_
   rcases bE (r15) with c19 | c19
   ·replace H:=condT c19 H
    refine eB c19 ?_
    refine gT rfl rfl (p_fld fl81_3 rfl ?_)
    refine gT rfl rfl (p_ld ty3 (S18.atX (i:=0) rfl) rfl rfl ?_)
    obtain ⟨r20,h21,H⟩:=bindS H
    refine gT rfl rfl (p_cv (tally_within_ok h21) fu69 rfl S18 fun w22 S23=>?_)
    refine p_pkT rfl (rfl:_=B r20)<|p_mB rfl ?_
    rcases bE (r20) with c24 | c24
    ·replace H:=condT c24 H
     refine eB c24 ?_
     refine gT rfl rfl (p_fld fl81_4 rfl ?_)
     refine gT rfl rfl (p_ld ty3 (S23.atX (i:=0) rfl) rfl rfl ?_)
     obtain ⟨r25,h26,H⟩:=bindS H
     refine gT rfl rfl (p_cv (tally_within_ok h26) fu69 rfl S23 fun w27 S28=>?_)
     refine p_pkT rfl (rfl:_=B r25)<|p_aB rfl<|wp_nil ?_
     have S29:=S28.pk [0] (by decide) [0] rfl rfl
     exact ⟨r25,(),_,rfl,⟨rfl,rfl,trivial⟩,H,S29⟩
    ·replace H:=condF c24 H
     refine eB c24<|gF rfl rfl<|gF rfl rfl<|gF rfl rfl<|p_pkF rfl (rfl:_=B false)<|p_aB rfl<|wp_nil ?_
     have S29:=S23.pk [0] (by decide) [0] rfl rfl
     exact ⟨false,(),_,rfl,⟨rfl,rfl,trivial⟩,H,S29⟩
   ·replace H:=condF c19 H
    refine eB c19<|gF rfl rfl<|gF rfl rfl<|gF rfl rfl<|p_pkF rfl (rfl:_=B false)<|p_mB rfl<|gF rfl rfl<|gF rfl rfl<|gF rfl rfl<|p_pkF rfl (rfl:_=B false)<|p_aB rfl<|wp_nil ?_
    have S29:=S18.pk [0] (by decide) [0] rfl rfl
    exact ⟨false,(),_,rfl,⟨rfl,rfl,trivial⟩,H,S29⟩
  ·replace H:=condF c14 H
   refine eB c14<|gF rfl rfl<|gF rfl rfl<|gF rfl rfl<|gF rfl rfl<|gF rfl rfl<|gF rfl rfl<|p_pkF rfl (rfl:_=B false)<|p_mB rfl<|gF rfl rfl<|gF rfl rfl<|gF rfl rfl<|p_pkF rfl (rfl:_=B false)<|p_mB rfl<|gF rfl rfl<|gF rfl rfl<|gF rfl rfl<|p_pkF rfl (rfl:_=B false)<|p_aB rfl<|wp_nil ?_
   have S29:=S13.pk [0] (by decide) [0] rfl rfl
   exact ⟨false,(),_,rfl,⟨rfl,rfl,trivial⟩,H,S29⟩
 ·intro z_1 y_1 e10 w11 S12; obtain ⟨H,S12⟩:=S12
  unfold tally_isCount_j1 at H
  refine c_seq<|reg<|p_mB rfl<|p_mB rfl ?_
  rcases bE (z_1) with c13 | c13
  ·replace H:=condT c13 H
   refine eB c13 ?_
   refine gT rfl rfl (p_fld fl81_5 rfl ?_)
   refine gT rfl rfl (p_ld ty3 (S12.atX (i:=0) rfl) rfl rfl ?_)
   obtain ⟨r14,h15,H⟩:=bindS H
   refine gT rfl rfl (p_cv (tally_within_ok h15) fu69 rfl S12 fun w16 S17=>?_)
   refine p_pkT rfl (rfl:_=B r14)<|p_mB rfl ?_
   rcases bE (r14) with c18 | c18
   ·replace H:=condT c18 H
    refine eB c18 ?_
    refine gT rfl rfl (p_fld fl81_6 rfl ?_)
    refine gT rfl rfl (p_ld ty3 (S17.atX (i:=0) rfl) rfl rfl ?_)
    obtain ⟨r19,h20,H⟩:=bindS H
    refine gT rfl rfl (p_cv (tally_within_ok h20) fu69 rfl S17 fun w21 S22=>?_)
    refine p_pkT rfl (rfl:_=B r19)<|p_mB rfl ?_
    rcases bE (r19) with c23 | c23
    ·replace H:=condT c23 H
     refine eB c23 ?_
     refine gT rfl rfl (p_fld fl81_0 rfl ?_)
     refine gT rfl rfl (p_ld ty3 (S22.atX (i:=0) rfl) rfl rfl ?_)
     refine gT rfl rfl (p_cmp rfl rfl rfl ?_)
     refine gT rfl rfl (p_mB rfl ?_)
     rcases bE ((a1.Who != 1)) with c24 | c24
     ·replace H:=condT c24 H
      refine eB c24<|gF rfl rfl<|gF rfl rfl<|gF rfl rfl ?_
      refine gT rfl rfl (p_pkT rfl (rfl:_=B true) ?_)
      refine p_pkT rfl (rfl:_=B true)<|p_aB rfl<|wp_nil ?_
      obtain rfl:=sJ H
      exact c_ret (rT Tryd.f70 S22.keep rfl rfl)
     ·replace H:=condF c24 H
      refine eB c24 ?_
      refine gT rfl rfl (p_fld fl81_6 rfl ?_)
      refine gT rfl rfl (p_ld ty3 (S22.atX (i:=0) rfl) rfl rfl ?_)
      refine gT rfl rfl (p_cmp rfl rfl rfl ?_)
      refine gT rfl rfl (p_pkF rfl (rfl:_=B (a1.Over==0)) ?_)
      refine p_pkT rfl (rfl:_=B (a1.Over==0))<|p_aB rfl<|wp_nil ?_
      obtain rfl:=sJ H
      exact c_ret (rT Tryd.f70 S22.keep rfl rfl)
    ·replace H:=condF c23 H
     refine eB c23<|gF rfl rfl<|gF rfl rfl<|gF rfl rfl<|gF rfl rfl ?_
     refine o_guardU rfl rfl ?_
     refine o_guardU rfl rfl ?_
     refine o_guardU rfl rfl ?_
     refine gF rfl rfl<|p_pkF rfl (rfl:_=B false)<|p_aB rfl<|wp_nil ?_
     obtain rfl:=sJ H
     exact c_ret (rT Tryd.f70 S22.keep rfl rfl)
   ·replace H:=condF c18 H
    refine eB c18<|gF rfl rfl<|gF rfl rfl<|gF rfl rfl<|p_pkF rfl (rfl:_=B false)<|p_mB rfl<|gF rfl rfl<|gF rfl rfl<|gF rfl rfl<|gF rfl rfl ?_
    refine o_guardU rfl rfl ?_
    refine o_guardU rfl rfl ?_
    refine o_guardU rfl rfl ?_
    refine gF rfl rfl<|p_pkF rfl (rfl:_=B false)<|p_aB rfl<|wp_nil ?_
    obtain rfl:=sJ H
    exact c_ret (rT Tryd.f70 S17.keep rfl rfl)
  ·replace H:=condF c13 H
   refine eB c13<|gF rfl rfl<|gF rfl rfl<|gF rfl rfl<|p_pkF rfl (rfl:_=B false)<|p_mB rfl<|gF rfl rfl<|gF rfl rfl<|gF rfl rfl<|p_pkF rfl (rfl:_=B false)<|p_mB rfl<|gF rfl rfl<|gF rfl rfl<|gF rfl rfl<|gF rfl rfl ?_
   refine o_guardU rfl rfl ?_
   refine o_guardU rfl rfl ?_
   refine o_guardU rfl rfl ?_
   refine gF rfl rfl<|p_pkF rfl (rfl:_=B false)<|p_aB rfl<|wp_nil ?_
   obtain rfl:=sJ H
   exact c_ret (rT Tryd.f70 S12.keep rfl rfl)
def tally_Check_l2 (a0:TallyBook) (rec_z_2:(Bool×Int)→Option Int) (z_2:Bool×Int):Option Int:=
 bif decide (z_2.2 < (a0.Counts.length:Int)) then ((getI a0.Counts z_2.2).bind fun r15=>
 bif z_2.1 then ((tally_isCount a0 r15).bind fun r23=>
 rec_z_2 (r23,wr (z_2.2+1)))
 else (rec_z_2 (false,wr (z_2.2+1))))
 else (bif !z_2.1 then (some 50)
 else (some 0))
def tally_Check_j3 (a0:TallyBook) (z_1:Bool):Option Int:=
 loopF (tally_Check_l2 a0) big (z_1,0)
def tally_Check (a0:TallyBook):Option Int:=
 (tally_within a0.Trips 1 8).bind fun r7=>
 bif r7 then ((tally_within a0.Room 0 60).bind fun r12=>
 bif r12 then (tally_Check_j3 a0 (decide ((a0.Counts.length:Int)≤8)))
 else (tally_Check_j3 a0 false))
 else (tally_Check_j3 a0 false)
set_option maxRecDepth 100000 in
theorem tally_Check_ok {a0:TallyBook}{A1:Option Addr}{c2:Nat}{w:World}{r:Int} (H:tally_Check a0=some r) (h3:(rd eTallyCount 7 A1 c2 a0.Counts).ok w):Calls Tryd.prog 37 #[AG [I a0.Trips,I a0.Room,SL A1 a0.Counts.length c2]] w (RetV w (I r)):=by
 unfold tally_Check at H
 refine fn_of (n:=36) Tryd.func37 rfl rfl (lE rfl) ?_
 have S:=St.start w nF _ (cA h3 nM)
 refine c_seq<|reg<|p_boxA rfl S fun b4 w5 S6=>p_aI rfl<|wp_nil ?_
 refine c_join (α:=Bool) (β:=Unit) (fun z_1 y_1=>[(1,P b4 0),(3,B z_1)]) (fun z_1 y_1 w_=>tally_Check_j3 a0 z_1=some r∧St w nF w_ [bl b4 [I a0.Trips,I a0.Room,SL A1 a0.Counts.length c2] 35] [rd eTallyCount 7 A1 c2 a0.Counts]) ?_ ?_
 ·refine reg<|p_fld fl35_0 rfl<|p_ld ty3 (S6.atX (i:=0) rfl) rfl rfl ?_
  obtain ⟨r7,h8,H⟩:=bindS H
  refine p_cv (tally_within_ok h8) fu69 rfl S6 fun w9 S10=>p_mB rfl ?_
  rcases bE (r7) with c11 | c11
  ·replace H:=condT c11 H
   refine eB c11 ?_
   refine gT rfl rfl (p_fld fl35_1 rfl ?_)
   refine gT rfl rfl (p_ld ty3 (S10.atX (i:=0) rfl) rfl rfl ?_)
   obtain ⟨r12,h13,H⟩:=bindS H
   refine gT rfl rfl (p_cv (tally_within_ok h13) fu69 rfl S10 fun w14 S15=>?_)
   refine p_pkT rfl (rfl:_=B r12)<|p_mB rfl ?_
   rcases bE (r12) with c16 | c16
   ·replace H:=condT c16 H
    refine eB c16 ?_
    refine gT rfl rfl (p_fld fl35_2 rfl ?_)
    refine gT rfl rfl (p_ld ty33 (S15.atX (i:=0) rfl) rfl rfl ?_)
    refine gT rfl rfl (p_len rfl sc33 ?_)
    refine gT rfl rfl (p_cmp rfl rfl rfl ?_)
    exact p_pkT rfl (rfl:_=B (decide ((a0.Counts.length:Int)≤8)))<|p_aB rfl<|wp_nil ⟨decide ((a0.Counts.length:Int)≤8),(),_,rfl,⟨rfl,rfl,trivial⟩,H,S15⟩
   ·replace H:=condF c16 H
    refine eB c16<|gF rfl rfl<|gF rfl rfl<|gF rfl rfl<|gF rfl rfl<|p_pkF rfl (rfl:_=B false)<|p_aB rfl<|wp_nil ?_
    exact ⟨false,(),_,rfl,⟨rfl,rfl,trivial⟩,H,S15⟩
  ·replace H:=condF c11 H
   refine eB c11<|gF rfl rfl<|gF rfl rfl<|gF rfl rfl<|p_pkF rfl (rfl:_=B false)<|p_mB rfl<|gF rfl rfl<|gF rfl rfl<|gF rfl rfl<|gF rfl rfl<|p_pkF rfl (rfl:_=B false)<|p_aB rfl<|wp_nil ?_
   exact ⟨false,(),_,rfl,⟨rfl,rfl,trivial⟩,H,S10⟩
 ·intro z_1 y_1 e7 w8 S9; obtain ⟨H,S9⟩:=S9
  unfold tally_Check_j3 at H
  refine c_seq<|c_seq<|reg<|p_fld fl35_2 rfl<|p_ld ty33 (S9.atX (i:=0) rfl) rfl rfl<|p_len rfl sc33<|p_mI rfl<|wp_nil<|c_block ?_
  refine c_lop (α:=Bool×Int) (β:=Unit) (tally_Check_l2 a0) (fun z_2 y_2=>[(1,P b4 0),(3,B z_2.1),(21,SL A1 a0.Counts.length c2),(22,I (a0.Counts.length:Int)),(23,I z_2.2)]) (fun z_2 y_2 w_=>St w nF w_ [bl b4 [I a0.Trips,I a0.Room,SL A1 a0.Counts.length c2] 35] [rd eTallyCount 7 A1 c2 a0.Counts]) (z_1,0) () H ⟨rfl,rfl,rfl,rfl,rfl,trivial⟩ S9 ?_
  intro m10 z_2 y_2 e11 w12 H S13
  unfold tally_Check_l2 at H
  refine c_seq<|reg<|p_cmp rfl rfl rfl<|wp_nil<|c_seq ?_
  refine c_cond rfl (fun c14=>?_) (fun c14=>?_)
  ·replace H:=condT c14 H
   refine c_skip<|c_seq<|c_block<|c_seq<|reg ?_
   obtain ⟨r15,h16,H⟩:=bindS H
   refine p_ixE sc33 h16 (S13.atP (i:=0) rfl).1 rfl rfl rfl<|p_ldEA ty81 sz81 rfl h16 (S13.atP (i:=0) rfl).1 rfl<|p_allA in81 S13 fun b17 w18 S19=>?_
   refine p_stP (pre:=[]) (old:=[I 0,I 0,I 0,I 0,I 0,I 0,I 0]) (post:=[]) (vs:=[I r15.Who,I r15.From,I r15.To,I r15.Told,I r15.Unit,I r15.Under,I r15.Over]) sz81 S19 (i:=0) rfl rfl rfl rfl (rfl:_=AG [I r15.Who,I r15.From,I r15.To,I r15.Told,I r15.Unit,I r15.Under,I r15.Over]) rfl rfl rfl rfl fun w20 S21=>wp_nil<|reg<|p_mB rfl<|p_mB rfl ?_
   rcases bE (z_2.1) with c22 | c22
   ·replace H:=condT c22 H
    refine eB c22 ?_
    refine gT rfl rfl (p_ldA ty35 sz35 (S21.atX (i:=1) rfl) rfl rfl ?_)
    refine gT rfl rfl (p_ldA ty81 sz81 (S21.atX (i:=0) rfl) rfl rfl ?_)
    obtain ⟨r23,h24,H⟩:=bindS H
    refine gT rfl rfl (p_cv (tally_isCount_ok h24 (S21.atP (i:=0) rfl)) fu70 rfl S21 fun w25 S26=>?_)
    refine p_pkT rfl (rfl:_=B r23)<|p_aB rfl<|wp_nil<|reg<|p_add rfl rfl<|p_mI rfl<|wp_nil ?_
    have S27:=S26.pk [1] (by decide) [0] rfl rfl
    exact ⟨(r23,wr (z_2.2+1)),(),_,rfl,⟨rfl,rfl,rfl,rfl,rfl,trivial⟩,H,S27⟩
   ·replace H:=condF c22 H
    refine eB c22<|gF rfl rfl<|gF rfl rfl<|gF rfl rfl<|p_pkF rfl (rfl:_=B false)<|p_aB rfl<|wp_nil<|reg<|p_add rfl rfl<|p_mI rfl<|wp_nil ?_
    have S28:=S21.pk [1] (by decide) [0] rfl rfl
    exact ⟨(false,wr (z_2.2+1)),(),_,rfl,⟨rfl,rfl,rfl,rfl,rfl,trivial⟩,H,S28⟩
  ·replace H:=condF c14 H
   refine c_exit<|c_seq<|c_seq<|reg<|p_mB rfl<|p_not rfl<|wp_nil ?_
   refine c_cond rfl (fun c29=>?_) (fun c29=>?_)
   ·replace H:=condT c29 H
    refine c_seq<|reg<|p_aI rfl<|wp_nil ?_
    obtain rfl:=sJ H
    exact c_ret (rT Tryd.f37 S13.keep rfl rfl)
   ·replace H:=condF c29 H
    refine c_skip<|c_seq<|reg<|p_aI rfl<|wp_nil ?_
    obtain rfl:=sJ H
    exact c_ret (rT Tryd.f37 S13.keep rfl rfl)
def tally_least_int_l1 (a1:List Int) (rec_z_1:(Int×Int)→Option Int) (z_1:Int×Int):Option Int:=
 bif decide (z_1.2 < (a1.length:Int)) then ((getI a1 z_1.2).bind fun r9=>
 rec_z_1 ((if r9 < z_1.1 then r9 else z_1.1),wr (z_1.2+1)))
 else (some z_1.1)
def tally_least_int (a0:Int) (a1:List Int):Option Int:=
 loopF (tally_least_int_l1 a1) big (a0,0)
set_option maxRecDepth 100000 in
theorem tally_least_int_ok {a0:Int}{a1:List Int}{A1:Option Addr}{c2:Nat}{w:World}{r:Int} (H:tally_least_int a0 a1=some r) (h3:(rd intE 1 A1 c2 a1).ok w):Calls Tryd.prog 88 #[I a0,SL A1 a1.length c2] w (RetV w (I r)):=by
 unfold tally_least_int at H
 refine fn_of (n:=18) Tryd.func88 rfl rfl (lE rfl) ?_
 have S:=St.start w nF _ (cA h3 nM)
 refine c_seq<|reg<|p_aI rfl<|wp_nil<|c_seq<|c_seq<|reg<|p_mS rfl<|p_len rfl sc42<|p_mI rfl<|wp_nil<|c_block ?_
 refine c_lop (α:=Int×Int) (β:=Unit) (tally_least_int_l1 a1) (fun z_1 y_1=>[(0,I z_1.1),(7,SL A1 a1.length c2),(8,I (a1.length:Int)),(9,I z_1.2)]) (fun z_1 y_1 w_=>St w nF w_ [] [rd intE 1 A1 c2 a1]) (a0,0) () H ⟨rfl,rfl,rfl,rfl,trivial⟩ S ?_
 intro m4 z_1 y_1 e5 w6 H S7
 unfold tally_least_int_l1 at H
 refine c_seq<|reg<|p_cmp rfl rfl rfl<|wp_nil<|c_seq ?_
 refine c_cond rfl (fun c8=>?_) (fun c8=>?_)
 ·replace H:=condT c8 H
  refine c_skip<|c_seq<|c_block<|c_seq<|reg ?_
  obtain ⟨r9,h10,H⟩:=bindS H
  refine p_ixE sc42 h10 (S7.atP (i:=0) rfl).1 rfl rfl rfl<|p_ldE ty3 h10 (S7.atP (i:=0) rfl).1 rfl rfl<|p_aI rfl<|wp_nil<|reg<|p_mI rfl<|p_mI rfl<|p_min rfl rfl<|p_aI rfl<|wp_nil<|reg<|p_add rfl rfl<|p_mI rfl<|wp_nil ?_
  exact ⟨((if r9 < z_1.1 then r9 else z_1.1),wr (z_1.2+1)),(),_,rfl,⟨rfl,rfl,rfl,rfl,trivial⟩,H,S7⟩
 ·replace H:=condF c8 H
  refine c_exit<|c_seq<|reg<|p_mI rfl<|p_aI rfl<|wp_nil ?_
  obtain rfl:=sJ H
  exact c_ret (rT Tryd.f88 S7.keep rfl rfl)
def tally_book_note_j6 (a0:Tally_book) (a1:Tally_pair) (z_2:Int):Option (List (Tally_pair×Int)):=
 some (putL a0.more_ a1 z_2)
def tally_book_note_j7 (a2:Int) (a0:Tally_book) (a1:Tally_pair) (z_1:Int×Bool):Option (List (Tally_pair×Int)):=
 bif z_1.2 then ((tally_least_int a2 ([z_1.1]:List Int)).bind fun r20=>
 tally_book_note_j6 a0 a1 r20)
 else (tally_book_note_j6 a0 a1 a2)
def tally_book_note (a0:Tally_book) (a1:Tally_pair) (a2:Int):Option (List (Tally_pair×Int)):=
 optC (lookL a0.more_ a1) (fun v11=>tally_book_note_j7 a2 a0 a1 (v11,true)) (tally_book_note_j7 a2 a0 a1 (0,false))
set_option maxRecDepth 100000 in
theorem tally_book_note_ok {a0:Tally_book}{a1:Tally_pair}{a2:Int}{A1:Option Addr}{c2:Nat}{m3:Nat}{w:World}{r:(List (Tally_pair×Int))} (H:tally_book_note a0 a1 a2=some r) (h4:(mp ekT iE m3 a0.more_).ok w):Calls Tryd.prog 71 #[AG [I a0.TallyBook.Trips,I a0.TallyBook.Room,SL A1 a0.TallyBook.Counts.length c2,Value.map (some m3)],AG [I a1.from_,I a1.to_],I a2] w fun en w_=>∃ u_,en=.returned u_∧u_=TU []∧Keep (mp ekT iE m3 a0.more_).fp w w_∧(mp ekT iE m3 r).ok w_∧True:=by
 unfold tally_book_note at H
 refine fn_of (n:=24) Tryd.func71 rfl rfl (lE rfl) ?_
 have S:St w (mp ekT iE m3 a0.more_).fp w [mp ekT iE m3 a0.more_] []:=St.startX _ h4 nM nM
 refine c_seq<|reg<|p_boxA rfl S fun b5 w6 S7=>p_boxA rfl S7 fun b8 w9 S10=>wp_nil ?_
 refine c_join (α:=Int) (β:=Unit) (fun z_2 y_2=>[(2,I z_2),(3,P b5 0),(4,P b8 0)]) (fun z_2 y_2 w_=>tally_book_note_j6 a0 a1 z_2=some r∧St w (mp ekT iE m3 a0.more_).fp w_ [bl b8 [I a1.from_,I a1.to_] 141,bl b5 [I a0.TallyBook.Trips,I a0.TallyBook.Room,SL A1 a0.TallyBook.Counts.length c2,Value.map (some m3)] 89,mp ekT iE m3 a0.more_] []) ?_ ?_
 ·refine c_join (α:=Int×Bool) (β:=Unit) (fun z_1 y_1=>[(2,I a2),(3,P b5 0),(4,P b8 0),(6,I z_1.1),(7,B z_1.2)]) (fun z_1 y_1 w_=>tally_book_note_j7 a2 a0 a1 z_1=some r∧St w (mp ekT iE m3 a0.more_).fp w_ [bl b8 [I a1.from_,I a1.to_] 141,bl b5 [I a0.TallyBook.Trips,I a0.TallyBook.Room,SL A1 a0.TallyBook.Counts.length c2,Value.map (some m3)] 89,mp ekT iE m3 a0.more_] []) ?_ ?_
  ·refine reg<|p_fld fl89_1 rfl<|p_ld ty87 (S10.atX (i:=1) rfl) rfl rfl<|p_ldA ty141 sz141 (S10.atX (i:=0) rfl) rfl rfl ?_
   refine p_lookO (a:=a1) mt87 keyT in3 (mpo_some (S10.atX (i:=2) rfl)) rfl rfl (fun v11 c12=>?_) (fun c12=>?_)
   ·replace H:=optS c12 H
    refine p_mT rfl<|p_ext rfl rfl<|p_ext rfl rfl<|p_aI rfl<|p_aB rfl<|wp_nil ?_
    exact ⟨(v11,true),(),_,rfl,⟨rfl,rfl,rfl,rfl,rfl,trivial⟩,H,S10⟩
   ·replace H:=optN c12 H
    refine p_mT rfl<|p_ext rfl rfl<|p_ext rfl rfl<|p_aI rfl<|p_aB rfl<|wp_nil ?_
    exact ⟨(0,false),(),_,rfl,⟨rfl,rfl,rfl,rfl,rfl,trivial⟩,H,S10⟩
  ·intro z_1 y_1 e11 w12 S13; obtain ⟨H,S13⟩:=S13
   unfold tally_book_note_j7 at H
   refine c_seq<|reg<|p_mB rfl<|wp_nil ?_
   refine c_cond rfl (fun c14=>?_) (fun c14=>?_)
   ·replace H:=condT c14 H
    refine reg<|p_mI rfl<|p_mI rfl<|p_bsl (enc:=intE) (l:=([z_1.1]:List Int)) I (fun _=>rfl) sc42 in3 intE_len rfl (by decide) (by decide) zr3_1 S13 rfl fun A15 c16 w17 S18=>?_
    obtain ⟨r20,h21,H⟩:=bindS H
    refine p_cv (tally_least_int_ok h21 (gr_rd intE_len (S18.atX (i:=0) rfl))) fu88 rfl S18 fun w22 S23=>p_aI rfl<|wp_nil ?_
    have S24:=S23.pk [1,2,3] (by decide) [] rfl rfl
    exact ⟨r20,(),_,rfl,⟨rfl,rfl,rfl,trivial⟩,H,S24⟩
   ·replace H:=condF c14 H
    refine c_skip ?_
    exact ⟨a2,(),_,rfl,⟨rfl,rfl,rfl,trivial⟩,H,S13⟩
 ·intro z_2 y_2 e11 w12 S13; obtain ⟨H,S13⟩:=S13
  unfold tally_book_note_j6 at H
  refine reg<|p_fld fl89_1 rfl<|p_ld ty87 (S13.atX (i:=1) rfl) rfl rfl<|p_ldA ty141 sz141 (S13.atX (i:=0) rfl) rfl rfl<|p_mI rfl ?_
  refine o_mup (a:=a1) (v:=z_2) rfl rfl rfl mt87 keyT S13 (i:=2) rfl fun w14 S15=>?_
  refine wp_nil ?_
  obtain rfl:=sJ H
  show bodyPostM (Fr none) 0 Tryd.prog Tryd.f71 _ .normal _ _
  refine end_of (res0 rfl) ?_
  exact ⟨_,rfl,rfl,S15.keep,(S15.atX (i:=2) rfl),trivial⟩
structure Tally_leave where
 out_:TallyCount→Int→Option Bool
def tally_opened_l4 (a0:TallyBook) (a1:Tally_leave) (rec_z_2:(Int×(List (Tally_pair×Int)))→Option Tally_book) (z_2:Int×(List (Tally_pair×Int))):Option Tally_book:=
 bif decide (z_2.1 < (a0.Counts.length:Int)) then ((getI a0.Counts z_2.1).bind fun r53=>
 (a1.out_ r53 z_2.1).bind fun r60=>
 bif r60 then (rec_z_2 (wr (z_2.1+1),z_2.2))
 else ((tally_count_most r53).bind fun r71=>
 (tally_book_note (Tally_book.mk a0 z_2.2) (Tally_pair.mk r53.From (wr (r53.To+1))) r71).bind fun r76=>
 (tally_count_least r53).bind fun r82=>
 (tally_book_note (Tally_book.mk a0 r76) (Tally_pair.mk (wr (r53.To+1)) r53.From) (wr (-r82))).bind fun r87=>
 rec_z_2 (wr (z_2.1+1),r87)))
 else (some (Tally_book.mk a0 z_2.2))
def tally_opened_l5 (a0:TallyBook) (a1:Tally_leave) (rec_z_1:(Int×(List (Tally_pair×Int)))→Option Tally_book) (z_1:Int×(List (Tally_pair×Int))):Option Tally_book:=
 bif decide (z_1.1 < a0.Trips) then ((tally_book_note (Tally_book.mk a0 z_1.2) (Tally_pair.mk z_1.1 (wr (z_1.1+1))) a0.Room).bind fun r35=>
 (tally_book_note (Tally_book.mk a0 r35) (Tally_pair.mk (wr (z_1.1+1)) z_1.1) 0).bind fun r41=>
 rec_z_1 (wr (z_1.1+1),r41))
 else (loopF (tally_opened_l4 a0 a1) big (0,z_1.2))
def tally_opened (a0:TallyBook) (a1:Tally_leave):Option Tally_book:=
 loopF (tally_opened_l5 a0 a1) big (0,([]:List (Tally_pair×Int)))
set_option maxRecDepth 100000 in
theorem tally_opened_ok {a0:TallyBook}{a1:Tally_leave}{A1:Option Addr}{c2:Nat}{f4:Nat}{cp5:List Value}{w:World}{r:Tally_book} (H:tally_opened a0 a1=some r) (h3:(rd eTallyCount 7 A1 c2 a0.Counts).ok w) (hF6:funOf Tryd.prog f4=true) (hw7:∀ (y8:TallyCount) (y9:Int) (w11:World) (y10:Bool),Keep0 w w11→a1.out_ y8 y9=some y10→Calls Tryd.prog f4 (List.toArray ([AG [I y8.Who,I y8.From,I y8.To,I y8.Told,I y8.Unit,I y8.Under,I y8.Over],I y9]++cp5)) w11 (RetV w11 (B y10))) (hg12:(gW1).ok w):Calls Tryd.prog 38 #[AG [I a0.Trips,I a0.Room,SL A1 a0.Counts.length c2],AG [vF (.func f4) #[] cp5.toArray]] w fun en w_=>∃ u_,en=.returned u_∧∃ m_1:Nat,u_=AG [I r.TallyBook.Trips,I r.TallyBook.Room,SL A1 a0.Counts.length c2,Value.map (some m_1)]∧Keep0 w w_∧((mp ekT iE m_1 r.more_).ok w_∧New w.heap.size (mp ekT iE m_1 r.more_))∧True:=by
 unfold tally_opened at H
 refine fn_of (n:=74) Tryd.func38 rfl rfl (lE rfl) ?_
 have S:=St.start w nF _ (cA h3 (cA hg12 nM))
 refine c_seq<|reg<|p_boxA rfl S fun b13 w14 S15=>p_boxA rfl S15 fun b16 w17 S18=>p_allA in89 S18 fun b19 w20 S21=>wp_nil<|c_seq<|reg<|p_ldA ty35 sz35 (S21.atX (i:=2) rfl) rfl rfl ?_
 refine o_mkmap S21 ekT iE fun m22 w23 _ S24=>?_
 refine p_bld (cs:=[I a0.Trips,I a0.Room,SL A1 a0.Counts.length c2,Value.map (some m22)]) st89 (rfl:_=[(0,AG [I a0.Trips,I a0.Room,SL A1 a0.Counts.length c2]),(1,Value.map (some m22))]) (by kernel_rfl)<|p_allA in89 S24 fun b25 w26 S27=>?_
 refine p_stP (pre:=[]) (old:=[I 0,I 0,SL none 0 0,Value.map none]) (post:=[]) (vs:=[I a0.Trips,I a0.Room,SL A1 a0.Counts.length c2,Value.map (some m22)]) sz89 S27 (i:=0) rfl rfl rfl rfl (rfl:_=AG [I a0.Trips,I a0.Room,SL A1 a0.Counts.length c2,Value.map (some m22)]) rfl rfl rfl rfl fun w28 S29=>wp_nil<|c_seq<|c_seq<|reg<|p_fld fl35_0 rfl<|p_ld ty3 (S29.atX (i:=4) rfl) rfl rfl<|p_mI rfl ?_
 refine wp_nil<|c_block ?_
 refine c_lop (α:=Int×(List (Tally_pair×Int))) (β:=Unit) (tally_opened_l5 a0 a1) (fun z_1 y_1=>[(2,P b13 0),(3,P b16 0),(4,P b19 0),(5,P b25 0),(14,I a0.Trips),(15,I z_1.1)]) (fun z_1 y_1 w_=>St w nF w_ [bl b25 [I a0.Trips,I a0.Room,SL A1 a0.Counts.length c2,Value.map (some m22)] 89,mp ekT iE m22 z_1.2,bl b19 [I 0,I 0,SL none 0 0,Value.map none] 89,bl b16 [vF (.func f4) #[] cp5.toArray] 93,bl b13 [I a0.Trips,I a0.Room,SL A1 a0.Counts.length c2] 35] [rd eTallyCount 7 A1 c2 a0.Counts,gW1]) (0,([]:List (Tally_pair×Int))) () H ⟨rfl,rfl,rfl,rfl,rfl,rfl,trivial⟩ S29 ?_
 intro m30 z_1 y_1 e31 w32 H S33
 unfold tally_opened_l5 at H
 refine c_seq<|reg<|p_cmp rfl rfl rfl<|wp_nil<|c_seq ?_
 refine c_cond rfl (fun c34=>?_) (fun c34=>?_)
 ·replace H:=condT c34 H
  refine c_skip<|c_seq<|c_block<|c_seq<|reg<|p_mI rfl<|p_aI rfl<|wp_nil<|c_seq<|reg<|p_ldA ty89 sz89 (S33.atX (i:=0) rfl) rfl rfl<|p_mI rfl<|p_mI rfl<|p_add rfl rfl<|p_bld (cs:=[I z_1.1,I (wr (z_1.1+1))]) st141 (rfl:_=[(0,I z_1.1),(1,I (wr (z_1.1+1)))]) (by kernel_rfl)<|p_fld fl35_1 rfl<|p_ld ty3 (S33.atX (i:=4) rfl) rfl rfl ?_
  obtain ⟨r35,h36,H⟩:=bindS H
  refine p_cal (tally_book_note_ok h36 (S33.atX (i:=1) rfl)) fu71 rfl ?_
  rintro _ w37 ⟨rfl,k38,o39,_⟩
  have S40:=S33.turn (i:=1) rfl o39 (fun _ h_=>.inl h_) k38.os k38.tape k38.output k38.size k38.block
  refine wp_nil<|reg<|p_ldA ty89 sz89 (S40.atX (i:=0) rfl) rfl rfl<|p_mI rfl<|p_add rfl rfl<|p_mI rfl<|p_bld (cs:=[I (wr (z_1.1+1)),I z_1.1]) st141 (rfl:_=[(0,I (wr (z_1.1+1))),(1,I z_1.1)]) (by kernel_rfl) ?_
  obtain ⟨r41,h42,H⟩:=bindS H
  refine p_cal (tally_book_note_ok h42 (S40.atX (i:=1) rfl)) fu71 rfl ?_
  rintro _ w43 ⟨rfl,k44,o45,_⟩
  have S46:=S40.turn (i:=1) rfl o45 (fun _ h_=>.inl h_) k44.os k44.tape k44.output k44.size k44.block
  exact wp_nil<|reg<|p_add rfl rfl<|p_mI rfl<|wp_nil ⟨(wr (z_1.1+1),r41),(),_,rfl,⟨rfl,rfl,rfl,rfl,rfl,rfl,trivial⟩,H,S46⟩
 ·replace H:=condF c34 H
  refine c_exit<|c_seq<|c_seq<|reg<|p_fld fl35_2 rfl<|p_ld ty33 (S33.atX (i:=4) rfl) rfl rfl<|p_len rfl sc33<|p_mI rfl<|wp_nil<|c_block ?_
  have S47:=S33.pk [0,1,2,3] (by decide) [0,1] rfl rfl
  refine c_lop (α:=Int×(List (Tally_pair×Int))) (β:=Unit) (tally_opened_l4 a0 a1) (fun z_2 y_2=>[(3,P b16 0),(4,P b19 0),(5,P b25 0),(34,SL A1 a0.Counts.length c2),(35,I (a0.Counts.length:Int)),(36,I z_2.1)]) (fun z_2 y_2 w_=>St w nF w_ [bl b25 [I a0.Trips,I a0.Room,SL A1 a0.Counts.length c2,Value.map (some m22)] 89,mp ekT iE m22 z_2.2,bl b19 [I 0,I 0,SL none 0 0,Value.map none] 89,bl b16 [vF (.func f4) #[] cp5.toArray] 93] [rd eTallyCount 7 A1 c2 a0.Counts,gW1]) (0,z_1.2) () H ⟨rfl,rfl,rfl,rfl,rfl,rfl,trivial⟩ S47 ?_
  intro m48 z_2 y_2 e49 w50 H S51
  unfold tally_opened_l4 at H
  refine c_seq<|reg<|p_cmp rfl rfl rfl<|wp_nil<|c_seq ?_
  refine c_cond rfl (fun c52=>?_) (fun c52=>?_)
  ·replace H:=condT c52 H
   refine c_skip<|c_seq<|c_block<|c_seq<|reg<|p_mI rfl ?_
   obtain ⟨r53,h54,H⟩:=bindS H
   refine p_ixE sc33 h54 (S51.atP (i:=0) rfl).1 rfl rfl rfl<|p_ldEA ty81 sz81 rfl h54 (S51.atP (i:=0) rfl).1 rfl<|p_allA in81 S51 fun b55 w56 S57=>p_aI rfl ?_
   refine p_stP (pre:=[]) (old:=[I 0,I 0,I 0,I 0,I 0,I 0,I 0]) (post:=[]) (vs:=[I r53.Who,I r53.From,I r53.To,I r53.Told,I r53.Unit,I r53.Under,I r53.Over]) sz81 S57 (i:=0) rfl rfl rfl rfl (rfl:_=AG [I r53.Who,I r53.From,I r53.To,I r53.Told,I r53.Unit,I r53.Under,I r53.Over]) rfl rfl rfl rfl fun w58 S59=>wp_nil<|c_seq<|c_seq<|reg<|p_fld fl93_0 rfl ?_
   refine p_ld ty91 (S59.atX (i:=4) rfl) rfl rfl<|p_ldA ty81 sz81 (S59.atX (i:=0) rfl) rfl rfl<|p_mI rfl ?_
   obtain ⟨r60,h61,H⟩:=bindS H
   refine p_cv (hw7 _ _ _ _ S59.keep h61) hF6 rfl S59 ?_
   intro w62 S63
   refine wp_nil ?_
   refine c_cond rfl (fun c64=>?_) (fun c64=>?_)
   ·replace H:=condT c64 H
    refine c_exit<|reg<|p_add rfl rfl<|p_mI rfl<|wp_nil ?_
    have S65:=S63.pk [1,2,3,4] (by decide) [0,1] rfl rfl
    exact ⟨(wr (z_2.1+1),z_2.2),(),_,rfl,⟨rfl,rfl,rfl,rfl,rfl,rfl,trivial⟩,H,S65⟩
   ·replace H:=condF c64 H
    refine c_skip<|c_seq<|reg<|p_ldA ty81 sz81 (S63.atX (i:=0) rfl) rfl rfl<|p_allA in142 S63 fun b66 w67 S68=>?_
    refine p_stP (pre:=[]) (old:=[I 0,I 0,I 0,I 0,I 0,I 0,I 0]) (post:=[]) (vs:=[I r53.Who,I r53.From,I r53.To,I r53.Told,I r53.Unit,I r53.Under,I r53.Over]) sz142 S68 (i:=0) rfl rfl rfl rfl (rfl:_=AG [I r53.Who,I r53.From,I r53.To,I r53.Told,I r53.Unit,I r53.Under,I r53.Over]) rfl rfl rfl rfl fun w69 S70=>wp_nil<|c_seq ?_
    obtain ⟨r71,h72,H⟩:=bindS H
    refine reg_q mixed 11 (by kernel_rfl) ?_
    refine dS (fun _ k_=>p_ldA ty89 sz89 (aS (S70.atX (i:=2) rfl) k_) rfl rfl dn)<|dS (fun _ k_=>p_fld fl142_1 rfl dn)<|dS (fun _ k_=>p_ld ty3 (aS (S70.atX (i:=0) rfl) k_) rfl rfl dn)<|dS (fun _ k_=>p_fld fl142_2 rfl dn)<|dS (fun _ k_=>p_ld ty3 (aS (S70.atX (i:=0) rfl) k_) rfl rfl dn)<|dS (fun _ k_=>p_add rfl rfl dn) ?_
    refine dS (fun _ k_=>p_bld (cs:=[I r53.From,I (wr (r53.To+1))]) st141 (rfl:_=[(0,I r53.From),(1,I (wr (r53.To+1)))]) (by kernel_rfl) dn)<|dS (fun _ k_=>p_ixc ar144 rfl rfl (by decide) (by decide) dn)<|dS (fun _ k_=>p_ld ty143 (aS (S70.atP (i:=1) rfl) k_) rfl rfl dn)<|dS (fun _ k_=>p_ldA ty142 sz142 (aS (S70.atX (i:=0) rfl) k_) rfl rfl dn) ?_
    refine dS (fun _ k_=>p_cvD (tally_count_most_ok h72) fu127 rfl) ?_
    intro w73 k74; have S75:=S70.call k74
    obtain ⟨r76,h77,H⟩:=bindS H
    refine p_cal (tally_book_note_ok h77 (S75.atX (i:=3) rfl)) fu71 rfl ?_
    rintro _ w78 ⟨rfl,k79,o80,_⟩
    have S81:=S75.turn (i:=3) rfl o80 (fun _ h_=>.inl h_) k79.os k79.tape k79.output k79.size k79.block
    refine wp_nil ?_
    obtain ⟨r82,h83,H⟩:=bindS H
    refine reg_q mixed 12 (by kernel_rfl) ?_
    refine dS (fun _ k_=>p_ldA ty89 sz89 (aS (S81.atX (i:=2) rfl) k_) rfl rfl dn)<|dS (fun _ k_=>p_fld fl142_2 rfl dn)<|dS (fun _ k_=>p_ld ty3 (aS (S81.atX (i:=0) rfl) k_) rfl rfl dn)<|dS (fun _ k_=>p_add rfl rfl dn)<|dS (fun _ k_=>p_fld fl142_1 rfl dn)<|dS (fun _ k_=>p_ld ty3 (aS (S81.atX (i:=0) rfl) k_) rfl rfl dn) ?_
    refine dS (fun _ k_=>p_bld (cs:=[I (wr (r53.To+1)),I r53.From]) st141 (rfl:_=[(0,I (wr (r53.To+1))),(1,I r53.From)]) (by kernel_rfl) dn)<|dS (fun _ k_=>p_ixc ar144 rfl rfl (by decide) (by decide) dn)<|dS (fun _ k_=>p_ld ty143 (aS (S81.atP (i:=1) rfl) k_) rfl rfl dn)<|dS (fun _ k_=>p_ldA ty142 sz142 (aS (S81.atX (i:=0) rfl) k_) rfl rfl dn) ?_
    refine dS (fun _ k_=>p_cvD (tally_count_least_ok h83) fu124 rfl)<|dS (fun _ k_=>p_neg rfl dn) ?_
    intro w84 k85; have S86:=S81.call k85
    obtain ⟨r87,h88,H⟩:=bindS H
    refine p_cal (tally_book_note_ok h88 (S86.atX (i:=3) rfl)) fu71 rfl ?_
    rintro _ w89 ⟨rfl,k90,o91,_⟩
    have S92:=S86.turn (i:=3) rfl o91 (fun _ h_=>.inl h_) k90.os k90.tape k90.output k90.size k90.block
    refine wp_nil<|reg<|p_add rfl rfl<|p_mI rfl<|wp_nil ?_
    have S93:=S92.pk [2,3,4,5] (by decide) [0,1] rfl rfl
    exact ⟨(wr (z_2.1+1),r87),(),_,rfl,⟨rfl,rfl,rfl,rfl,rfl,rfl,trivial⟩,H,S93⟩
  ·replace H:=condF c52 H
   refine c_exit<|c_seq<|reg<|p_ldA ty89 sz89 (S51.atX (i:=0) rfl) rfl rfl<|p_stP (pre:=[]) (old:=[I 0,I 0,SL none 0 0,Value.map none]) (post:=[]) (vs:=[I a0.Trips,I a0.Room,SL A1 a0.Counts.length c2,Value.map (some m22)]) sz89 S51 (i:=2) rfl rfl rfl rfl (rfl:_=AG [I a0.Trips,I a0.Room,SL A1 a0.Counts.length c2,Value.map (some m22)]) rfl rfl rfl rfl fun w94 S95=>wp_nil ?_
   obtain rfl:=sJ H
   refine c_ret ?_; show bodyPostM (Fr none) 0 Tryd.prog Tryd.f38 _ .ret _ _
   refine ret_of (res1 rfl (rvA rfl ty89 sz89 (S95.atX (i:=2) rfl) rfl)) ?_
   exact ⟨_,rfl,m22,rfl,S95.keep,⟨S95.atX (i:=1) rfl,S95.newX (i:=1) rfl⟩,trivial⟩
def tally_nobody_1 (a0:TallyCount) (a1:Int):Option Bool:=
 some false
set_option maxRecDepth 100000 in
theorem tally_nobody_1_ok {a0:TallyCount}{a1:Int}{w:World}{r:Bool} (H:tally_nobody_1 a0 a1=some r):Calls Tryd.prog 72 #[AG [I a0.Who,I a0.From,I a0.To,I a0.Told,I a0.Unit,I a0.Under,I a0.Over],I a1] w (RetV w (B r)):=by
 unfold tally_nobody_1 at H
 refine fn_of (n:=5) Tryd.func72 rfl rfl (lE rfl) ?_
 have S:=St.start w nF _ nM
 refine c_seq<|reg<|p_boxA rfl S fun b1 w2 S3=>p_aB rfl<|wp_nil<|c_seq<|reg<|p_aB rfl<|wp_nil ?_
 obtain rfl:=sJ H
 exact c_ret (rT Tryd.f72 S3.keep rfl rfl)
def tally_nobody:Option Unit:=
 some ()
set_option maxRecDepth 100000 in
theorem tally_nobody_ok {w:World}{r:Unit} (H:tally_nobody=some r):Calls Tryd.prog 39 #[] w (RetV w (AG [vF (.func 72) #[] #[]])):=by
 unfold tally_nobody at H
 refine fn_of (n:=2) Tryd.func39 rfl rfl (lE rfl) ?_
 have S:=St.start w nF _ nM
 refine c_seq<|reg<|p_allA in93 S fun b1 w2 S3=>wp_nil<|c_seq<|reg<|p_bld (cs:=[vF (.func 72) #[] #[]]) st93 (rfl:_=[(0,vF (.func 72) #[] #[])]) (by kernel_rfl)<|p_stP (pre:=[]) (old:=[Value.nilFunc]) (post:=[]) (vs:=[vF (.func 72) #[] #[]]) sz93 S3 (i:=0) rfl rfl rfl rfl (rfl:_=AG [vF (.func 72) #[] #[]]) rfl rfl rfl rfl fun w4 S5=>wp_nil ?_
 obtain rfl:=sJ H
 refine c_ret ?_; show bodyPostM (Fr none) 0 Tryd.prog Tryd.f39 _ .ret _ _
 refine ret_of (res1 rfl (rvA rfl ty93 sz93 (S5.atX (i:=0) rfl) rfl)) ?_
 exact ⟨_,rfl,rfl,S5.keep⟩
def tally_none:Option (List Int):=
 some (List.replicate 9 0)
set_option maxRecDepth 100000 in
theorem tally_none_ok {w:World}{r:(List Int)} (H:tally_none=some r):Calls Tryd.prog 76 #[] w (RetV w (AG (sg r 9))):=by
 unfold tally_none at H
 refine fn_of (n:=3) Tryd.func76 rfl rfl (lE rfl) ?_
 have S:=St.start w nF _ nM
 refine c_seq<|reg<|p_allA in146 S fun b1 w2 S3=>wp_nil<|c_seq<|reg<|p_allA in146 S3 fun b4 w5 S6=>wp_nil<|c_seq<|reg<|p_ldA ty146 sz146 (S6.atX (i:=0) rfl) rfl rfl<|p_stP (pre:=[]) (old:=sg (List.replicate 9 0) 9) (post:=[]) (vs:=sg (List.replicate 9 0) 9) sz146 S6 (i:=1) rfl rfl rfl rfl (rfl:_=AG (sg (List.replicate 9 0) 9)) rfl rfl rfl rfl fun w7 S8=>wp_nil ?_
 obtain rfl:=sJ H
 refine c_ret ?_; show bodyPostM (Fr none) 0 Tryd.prog Tryd.f76 _ .ret _ _
 refine ret_of (res1 rfl (rvA rfl ty146 sz146 (S8.atX (i:=1) rfl) rfl)) ?_
 exact ⟨_,rfl,rfl,S8.keep⟩
def entOf (e:Tally_pair×Int):Go.Tally.Ent:=((e.1.from_,e.1.to_),e.2)
def tally_from (a0:Tally_book) (a1:Int):Option (List Int×Bool):=
 bif Go.Tally.vdB a0.TallyBook.Trips a1 (a0.more_.map entOf)&&decide (1≤a0.TallyBook.Trips) then some (Go.Tally.fromD a0.TallyBook.Trips a1 (a0.more_.map entOf)) else none
theorem mp_ent {m:Nat}{l:List (Tally_pair×Int)}{w:World} (h:(mp ekT iE m l).ok w):(mp ekP Go.Tally.iE m (l.map entOf)).ok w:=by
 obtain ⟨es,clock,h1,rfl,h2⟩:=h
 refine ⟨es.map fun x=>(x.1,entOf x.2),clock,h1.trans ?_,by simp [List.map_map,Function.comp_def],?_,?_⟩
 ·unfold mapO
  rw [List.map_map]
  rfl
 ·rw [List.map_map]; exact h2.1
 ·intro x hx
  obtain ⟨y,hy,rfl⟩:=List.mem_map.1 hx
  exact h2.2 y hy
theorem tally_from_ok {a0:Tally_book}{a1:Int}{A1:Option Addr}{c2:Nat}{m4:Option Nat}{w:World}{r:(List Int)×Bool} (H:tally_from a0 a1=some r) (h3:(rd eTallyCount 7 A1 c2 a0.TallyBook.Counts).ok w) (h5:(mpo ekT iE m4 a0.more_).ok w) (hg6:(gW3).ok w):Calls Tryd.prog 73 #[AG [I a0.TallyBook.Trips,I a0.TallyBook.Room,SL A1 a0.TallyBook.Counts.length c2,Value.map m4],I a1] w (RetV w (TU [AG (sg r.1 9),B r.2])):=by
 unfold tally_from at H
 cases hv:(Go.Tally.vdB a0.TallyBook.Trips a1 (a0.more_.map entOf)&&decide (1≤a0.TallyBook.Trips))
 ·rw [hv] at H; cases H
 rw [hv] at H
 obtain rfl:=sJ H
 rw [Bool.and_eq_true] at hv
 have V:=Go.Tally.vdB_iff.1 hv.1
 have ht:=of_decide_eq_true hv.2
 cases m4 with
 | none=>
   have hn:a0.more_=[]:=h5
   obtain ⟨n,_,hm⟩:=V.up 0 (by omega)
   rw [hn] at hm
   cases hm
 | some m=>
   have hm:=mp_ent (show (mp ekT iE m a0.more_).ok w from h5)
   refine (Fr.from_ok a0.TallyBook.Trips a0.TallyBook.Room a1 A1 a0.TallyBook.Counts.length c2 m _ w hm V.ks V.t0 V.t8 V.s0 V.st hg6).mono fun en w_ h=>?_
   obtain ⟨v,he,out,res,hv,hk,hF⟩:=h
   obtain ⟨e1,e2⟩:=Go.Tally.from_uniq V hF (Go.Tally.fromD_R _ _ _)
   refine ⟨v,he,?_,hk⟩
   rw [hv,← e1,← e2,sg_ivs,sgl_eq (Go.Tally.FromR_len hF)]
def tally_book_can (a0:Tally_book):Option Bool:=
 (tally_from a0 0).bind fun r10=>
 some r10.2
set_option maxRecDepth 100000 in
theorem tally_book_can_ok {a0:Tally_book}{A1:Option Addr}{c2:Nat}{m4:Option Nat}{w:World}{r:Bool} (H:tally_book_can a0=some r) (h3:(rd eTallyCount 7 A1 c2 a0.TallyBook.Counts).ok w) (h5:(mpo ekT iE m4 a0.more_).ok w) (hg6:(gW3).ok w):Calls Tryd.prog 40 #[AG [I a0.TallyBook.Trips,I a0.TallyBook.Room,SL A1 a0.TallyBook.Counts.length c2,Value.map m4]] w (RetV w (B r)):=by
 unfold tally_book_can at H
 refine fn_of (n:=11) Tryd.func40 rfl rfl (lE rfl) ?_
 have S:=St.start w nF _ (cA h3 (cA h5 (cA hg6 nM)))
 refine c_seq<|reg<|p_boxA rfl S fun b7 w8 S9=>p_aB rfl<|wp_nil<|c_seq<|reg<|p_ldA ty89 sz89 (S9.atX (i:=0) rfl) rfl rfl ?_
 obtain ⟨r10,h11,H⟩:=bindS H
 refine p_cv (tally_from_ok h11 (S9.atP (i:=0) rfl) (S9.atP (i:=1) rfl) (S9.atP (i:=2) rfl)) fu73 rfl S9 fun w12 S13=>p_mT rfl<|p_ext rfl rfl<|p_ext rfl rfl<|p_allA in146 S13 fun b14 w15 S16=>p_stP (pre:=[]) (old:=sg (List.replicate 9 0) 9) (post:=[]) (vs:=sg r10.1 9) sz146 S16 (i:=0) rfl rfl rfl rfl (rfl:_=AG (sg r10.1 9)) rfl rfl rfl rfl fun w17 S18=>p_aB rfl<|wp_nil<|c_seq<|reg<|p_mB rfl ?_
 refine p_aB rfl<|wp_nil ?_
 obtain rfl:=sJ H
 exact c_ret (rT Tryd.f40 S18.keep rfl rfl)
def tally_Right (a0:TallyBook):Option (Bool×Int):=
 (tally_Check a0).bind fun r9=>
 bif (r9 != 0) then (some (false,r9))
 else ((tally_nobody).bind fun r14=>
 (tally_opened a0 (Tally_leave.mk (fun y19 y20=>tally_nobody_1 y19 y20))).bind fun r21=>
 (tally_book_can (Tally_book.mk (TallyBook.mk r21.TallyBook.Trips r21.TallyBook.Room a0.Counts) r21.more_)).bind fun r29=>
 some (r29,0))
set_option maxRecDepth 100000 in
theorem tally_Right_ok {a0:TallyBook}{A1:Option Addr}{c2:Nat}{w:World}{r:Bool×Int} (H:tally_Right a0=some r) (h3:(rd eTallyCount 7 A1 c2 a0.Counts).ok w) (hg4:(gW1).ok w) (hg5:(gW3).ok w):Calls Tryd.prog 11 #[AG [I a0.Trips,I a0.Room,SL A1 a0.Counts.length c2]] w (RetV w (TU [B r.1,I r.2])):=by
 unfold tally_Right at H
 refine fn_of (n:=14) Tryd.func11 rfl rfl (lE rfl) ?_
 have S:=St.start w nF _ (cA h3 (cA hg4 (cA hg5 nM)))
 refine c_seq<|reg<|p_boxA rfl S fun b6 w7 S8=>p_aB rfl<|p_aI rfl<|wp_nil<|c_seq<|c_seq<|reg<|p_ldA ty35 sz35 (S8.atX (i:=0) rfl) rfl rfl ?_
 obtain ⟨r9,h10,H⟩:=bindS H
 refine p_cv (tally_Check_ok h10 (S8.atP (i:=0) rfl)) fu37 rfl S8 fun w11 S12=>p_aI rfl<|wp_nil<|c_seq<|reg<|p_mI rfl<|p_cmp rfl rfl rfl<|wp_nil ?_
 refine c_cond rfl (fun c13=>?_) (fun c13=>?_)
 ·replace H:=condT c13 H
  refine c_seq<|reg<|p_mI rfl<|p_aB rfl<|p_aI rfl<|wp_nil ?_
  obtain rfl:=sJ H
  refine c_ret ?_; show bodyPostM (Fr none) 0 Tryd.prog Tryd.f11 _ .ret _ _
  refine ret_of (res2 rfl (rvT (rfl:_=B false)) (rvT (rfl:_=I r9))) ?_
  exact ⟨_,rfl,rfl,S12.keep⟩
 ·replace H:=condF c13 H
  refine c_skip<|c_seq ?_
  obtain ⟨r14,h15,H⟩:=bindS H
  refine reg_q mixed 2 (by kernel_rfl) ?_
  refine dS (fun _ k_=>p_ldA ty35 sz35 (aS (S12.atX (i:=0) rfl) k_) rfl rfl dn)<|dS (fun _ k_=>p_cvD (tally_nobody_ok h15) fu39 rfl) ?_
  intro w16 k17; have S18:=S12.call k17
  obtain ⟨r21,h22,H⟩:=bindS H
  refine p_cal (tally_opened_ok h22 (S18.atP (i:=0) rfl) (by kernel_rfl) (fun _ _ _ _ k_ hr_=>tally_nobody_1_ok hr_) (S18.atP (i:=1) rfl)) fu38 rfl ?_
  rintro _ w23 ⟨m25,rfl,k24,⟨o26,n27⟩,_⟩
  have S28:=S18.addNew k24 o26 n27
  obtain ⟨r29,h30,H⟩:=bindS H
  refine p_cv (tally_book_can_ok h30 (S28.atP (i:=0) rfl) (mpo_some (S28.atX (i:=0) rfl)) (S28.atP (i:=2) rfl)) fu40 rfl S28 fun w31 S32=>p_aB rfl<|p_aI rfl<|wp_nil ?_
  obtain rfl:=sJ H
  refine c_ret ?_; show bodyPostM (Fr none) 0 Tryd.prog Tryd.f11 _ .ret _ _
  refine ret_of (res2 rfl (rvT (rfl:_=B r29)) (rvT (rfl:_=I 0))) ?_
  exact ⟨_,rfl,rfl,S32.keep⟩
def sl_Index_int_int_l1 (a0:List Int) (a1:Int) (rec_z_1:Int→Option Int) (z_1:Int):Option Int:=
 bif decide (z_1 < (a0.length:Int)) then ((getI a0 z_1).bind fun r9=>
 bif (a1==r9) then (some z_1)
 else (rec_z_1 (wr (z_1+1))))
 else (some (-1))
def sl_Index_int_int (a0:List Int) (a1:Int):Option Int:=
 loopF (sl_Index_int_int_l1 a0 a1) big 0
set_option maxRecDepth 100000 in
theorem sl_Index_int_int_ok {a0:List Int}{a1:Int}{A1:Option Addr}{c2:Nat}{w:World}{r:Int} (H:sl_Index_int_int a0 a1=some r) (h3:(rd intE 1 A1 c2 a0).ok w):Calls Tryd.prog 87 #[SL A1 a0.length c2,I a1] w (RetV w (I r)):=by
 unfold sl_Index_int_int at H
 refine fn_of (n:=19) Tryd.func87 rfl rfl (lE rfl) ?_
 have S:=St.start w nF _ (cA h3 nM)
 refine c_seq<|reg<|p_aI rfl<|wp_nil<|c_seq<|c_seq<|reg<|p_mS rfl<|p_len rfl sc42<|p_mI rfl<|wp_nil<|c_block ?_
 refine c_lop (α:=Int) (β:=Unit) (sl_Index_int_int_l1 a0 a1) (fun z_1 y_1=>[(0,SL A1 a0.length c2),(1,I a1),(7,I (a0.length:Int)),(8,I z_1)]) (fun z_1 y_1 w_=>St w nF w_ [] [rd intE 1 A1 c2 a0]) 0 () H ⟨rfl,rfl,rfl,rfl,trivial⟩ S ?_
 intro m4 z_1 y_1 e5 w6 H S7
 unfold sl_Index_int_int_l1 at H
 refine c_seq<|reg<|p_cmp rfl rfl rfl<|wp_nil<|c_seq ?_
 refine c_cond rfl (fun c8=>?_) (fun c8=>?_)
 ·replace H:=condT c8 H
  refine c_skip<|c_seq<|c_block<|c_seq<|reg<|p_mI rfl<|p_aI rfl<|wp_nil<|c_seq<|reg<|p_mI rfl<|p_mS rfl<|p_mI rfl ?_
  obtain ⟨r9,h10,H⟩:=bindS H
  refine p_ixE sc42 h10 (S7.atP (i:=0) rfl).1 rfl rfl rfl<|p_ldE ty3 h10 (S7.atP (i:=0) rfl).1 rfl rfl<|p_cmp rfl rfl rfl<|wp_nil ?_
  refine c_cond rfl (fun c11=>?_) (fun c11=>?_)
  ·replace H:=condT c11 H
   refine c_seq<|reg<|p_mI rfl<|p_aI rfl<|wp_nil ?_
   obtain rfl:=sJ H
   exact c_ret (rT Tryd.f87 S7.keep rfl rfl)
  ·replace H:=condF c11 H
   refine c_skip<|reg<|p_add rfl rfl<|p_mI rfl<|wp_nil ?_
   exact ⟨wr (z_1+1),(),_,rfl,⟨rfl,rfl,rfl,rfl,trivial⟩,H,S7⟩
 ·replace H:=condF c8 H
  refine c_exit<|c_seq<|reg<|p_aI rfl<|wp_nil ?_
  obtain rfl:=sJ H
  exact c_ret (rT Tryd.f87 S7.keep rfl rfl)
def sl_Contains_int_int (a0:List Int) (a1:Int):Option Bool:=
 (sl_Index_int_int a0 a1).bind fun r4=>
 some (decide (r4≥0))
set_option maxRecDepth 100000 in
theorem sl_Contains_int_int_ok {a0:List Int}{a1:Int}{A1:Option Addr}{c2:Nat}{w:World}{r:Bool} (H:sl_Contains_int_int a0 a1=some r) (h3:(rd intE 1 A1 c2 a0).ok w):Calls Tryd.prog 68 #[SL A1 a0.length c2,I a1] w (RetV w (B r)):=by
 unfold sl_Contains_int_int at H
 refine fn_of (n:=9) Tryd.func68 rfl rfl (lE rfl) ?_
 have S:=St.start w nF _ (cA h3 nM)
 refine c_seq<|reg<|p_aB rfl<|wp_nil<|c_seq<|reg<|p_mS rfl<|p_mI rfl ?_
 obtain ⟨r4,h5,H⟩:=bindS H
 refine p_cv (sl_Index_int_int_ok h5 (S.atP (i:=0) rfl)) fu87 rfl S fun w6 S7=>p_cmp rfl rfl rfl<|p_aB rfl<|wp_nil ?_
 obtain rfl:=sJ H
 exact c_ret (rT Tryd.f68 S7.keep rfl rfl)
structure Coal_book where
 CoalBook:CoalBook
 costs_:List (Coal_gust×Int)
 deriving DecidableEq,Inhabited
def coal_opened_j26 (rec_z_3:(Int×(List (Coal_gust×Int)))→Option Coal_book) (z_3:Int×(List (Coal_gust×Int))) (z_2:Int×(List (Coal_gust×Int))) (r64:CoalDay) (a0:CoalBook) (z_4:Bool):Option Coal_book:=
 bif z_4 then (rec_z_3 (wr (z_3.1+1),putL z_3.2 (Coal_gust.mk z_2.1 z_3.1) (wr (r64.Crosses*(aget a0.Extra z_3.1)))))
 else (rec_z_3 (wr (z_3.1+1),z_3.2))
def coal_opened_l27 (z_2:Int×(List (Coal_gust×Int))) (r64:CoalDay) (a0:CoalBook) (rec_z_2:(Int×(List (Coal_gust×Int)))→Option Coal_book) (rec_z_3:(Int×(List (Coal_gust×Int)))→Option Coal_book) (z_3:Int×(List (Coal_gust×Int))):Option Coal_book:=
 bif decide (z_3.1 < 3) then (need (inI z_3.1 3)<|
 bif !((z_2.1==(-1))&&(z_3.1==(-1))) then (need (decide (0≤z_3.1))<|
 coal_opened_j26 rec_z_3 z_3 z_2 r64 a0 ((andI (shrI r64.Winds z_3.1) 1)==1))
 else (coal_opened_j26 rec_z_3 z_3 z_2 r64 a0 false))
 else (rec_z_2 (wr (z_2.1+1),z_3.2))
def coal_opened_l28 (a0:CoalBook) (z_1:Int×(List CoalDip)) (rec_z_2:(Int×(List (Coal_gust×Int)))→Option Coal_book) (z_2:Int×(List (Coal_gust×Int))):Option Coal_book:=
 bif decide (z_2.1 < (a0.Days.length:Int)) then ((getI a0.Days z_2.1).bind fun r64=>
 loopF (coal_opened_l27 z_2 r64 a0 rec_z_2) big (0,z_2.2))
 else (some (Coal_book.mk (CoalBook.mk a0.Heap a0.Eats a0.Extra a0.Days a0.Collier a0.Brings z_1.2) z_2.2))
def coal_opened_l29 (a0:CoalBook) (a1:List Int) (rec_z_1:(Int×(List CoalDip))→Option Coal_book) (z_1:Int×(List CoalDip)):Option Coal_book:=
 bif decide (z_1.1 < (a0.Dips.length:Int)) then ((getI a0.Dips z_1.1).bind fun r33=>
 (sl_Contains_int_int a1 z_1.1).bind fun r40=>
 bif !r40 then (need (fitsL (z_1.2.length+([r33]:List CoalDip).length) 24)<|
 rec_z_1 (wr (z_1.1+1),z_1.2++([r33]:List CoalDip)))
 else (rec_z_1 (wr (z_1.1+1),z_1.2)))
 else (loopF (coal_opened_l28 a0 z_1) big (0,([]:List (Coal_gust×Int))))
def coal_opened (a0:CoalBook) (a1:List Int):Option Coal_book:=
 loopF (coal_opened_l29 a0 a1) big (0,([]:List CoalDip))
set_option maxRecDepth 100000 in
theorem coal_opened_ok {a0:CoalBook}{a1:List Int}{A1:Option Addr}{c2:Nat}{A4:Option Addr}{c5:Nat}{A7:Option Addr}{c8:Nat}{w:World}{r:Coal_book} (H:coal_opened a0 a1=some r) (h3:(rd eCoalDay 3 A1 c2 a0.Days).ok w) (h6:(rd eCoalDip 3 A4 c5 a0.Dips).ok w) (h9:(rd intE 1 A7 c8 a1).ok w) (hg10:(gW0).ok w):Calls Tryd.prog 35 #[AG ([I a0.Heap.Low,I a0.Heap.High]++(sgE eSpan a0.Eats 2++(sg a0.Extra 3++[SL A1 a0.Days.length c2,I a0.Collier.Low,I a0.Collier.High,I a0.Brings,SL A4 a0.Dips.length c5]))),SL A7 a1.length c8] w fun en w_=>∃ u_,en=.returned u_∧∃ A_1:Option Addr,∃ c_2:Nat,∃ m_3:Nat,u_=AG ([I r.CoalBook.Heap.Low,I r.CoalBook.Heap.High]++(sgE eSpan r.CoalBook.Eats 2++(sg r.CoalBook.Extra 3++[SL A1 a0.Days.length c2,I r.CoalBook.Collier.Low,I r.CoalBook.Collier.High,I r.CoalBook.Brings,SL A_1 r.CoalBook.Dips.length c_2,Value.map (some m_3)])))∧Keep0 w w_∧((rd eCoalDip 3 A_1 c_2 r.CoalBook.Dips).ok w_∧New w.heap.size (rd eCoalDip 3 A_1 c_2 r.CoalBook.Dips))∧((mp ekG iE m_3 r.costs_).ok w_∧New w.heap.size (mp ekG iE m_3 r.costs_))∧True:=by
 unfold coal_opened at H
 refine fn_of (n:=77) Tryd.func35 rfl rfl (lE rfl) ?_
 have S:=St.start w nF _ (cA h3 (cA h6 (cA h9 (cA hg10 nM))))
 refine c_seq<|reg<|p_boxA rfl S fun b11 w12 S13=>p_allA in84 S13 fun b14 w15 S16=>wp_nil<|c_seq<|reg<|p_ldA ty29 sz29 (S16.atX (i:=1) rfl) rfl rfl ?_
 refine o_mkmap S16 ekG iE fun m17 w18 _ S19=>?_
 refine p_bld (cs:=[I a0.Heap.Low,I a0.Heap.High]++(sgE eSpan a0.Eats 2++(sg a0.Extra 3++[SL A1 a0.Days.length c2,I a0.Collier.Low,I a0.Collier.High,I a0.Brings,SL A4 a0.Dips.length c5,Value.map (some m17)]))) st84 (rfl:_=[(0,AG ([I a0.Heap.Low,I a0.Heap.High]++(sgE eSpan a0.Eats 2++(sg a0.Extra 3++[SL A1 a0.Days.length c2,I a0.Collier.Low,I a0.Collier.High,I a0.Brings,SL A4 a0.Dips.length c5])))),(1,Value.map (some m17))]) (by kernel_rfl) ?_
 refine p_allA in84 S19 fun b20 w21 S22=>?_
 refine p_stP (pre:=[]) (old:=[I 0,I 0]++(sgE eSpan (List.replicate 2 (Span.mk 0 0)) 2++(sg (List.replicate 3 0) 3++[SL none 0 0,I 0,I 0,I 0,SL none 0 0,Value.map none]))) (post:=[]) (vs:=[I a0.Heap.Low,I a0.Heap.High]++(sgE eSpan a0.Eats 2++(sg a0.Extra 3++[SL A1 a0.Days.length c2,I a0.Collier.Low,I a0.Collier.High,I a0.Brings,SL A4 a0.Dips.length c5,Value.map (some m17)]))) sz84 S22 (i:=0) rfl rfl rfl rfl (rfl:_=AG ([I a0.Heap.Low,I a0.Heap.High]++(sgE eSpan a0.Eats 2++(sg a0.Extra 3++[SL A1 a0.Days.length c2,I a0.Collier.Low,I a0.Collier.High,I a0.Brings,SL A4 a0.Dips.length c5,Value.map (some m17)])))) rfl rfl rfl rfl fun w23 S24=>?_
 refine wp_nil<|c_seq<|reg<|p_fld fl84_0 rfl<|p_fld fl29_6 rfl<|p_stP (pre:=[I a0.Heap.Low,I a0.Heap.High]++(sgE eSpan a0.Eats 2++(sg a0.Extra 3++[SL A1 a0.Days.length c2,I a0.Collier.Low,I a0.Collier.High,I a0.Brings]))) (old:=[SL A4 a0.Dips.length c5]) (post:=[Value.map (some m17)]) (vs:=[SL none 0 0]) sz27 S24 (i:=0) rfl rfl rfl rfl (rfl:_=SL none 0 0) rfl rfl rfl rfl fun w25 S26=>wp_nil ?_
 refine c_seq<|c_seq<|reg<|p_fld fl29_6 rfl<|p_ld ty27 (S26.atX (i:=3) rfl) rfl rfl<|p_len rfl sc27<|p_mI rfl<|wp_nil<|c_block ?_
 have S27:=S26.nilRow eCoalDip 3 75
 refine c_lop (α:=Int×(List CoalDip)) (β:=(Option Addr)×Nat) (coal_opened_l29 a0 a1) (fun z_1 y_1=>[(1,SL A7 a1.length c8),(2,P b11 0),(4,P b14 0),(5,P b20 0),(19,SL A4 a0.Dips.length c5),(20,I (a0.Dips.length:Int)),(21,I z_1.1)]) (fun z_1 y_1 w_=>St w nF w_ [gr eCoalDip 3 75 y_1.1 y_1.2 z_1.2,bl b20 ([I a0.Heap.Low,I a0.Heap.High]++(sgE eSpan a0.Eats 2++(sg a0.Extra 3++[SL A1 a0.Days.length c2,I a0.Collier.Low,I a0.Collier.High,I a0.Brings,SL y_1.1 z_1.2.length y_1.2,Value.map (some m17)]))) 84,mp ekG iE m17 ([]:List (Coal_gust×Int)),bl b14 ([I 0,I 0]++(sgE eSpan (List.replicate 2 (Span.mk 0 0)) 2++(sg (List.replicate 3 0) 3++[SL none 0 0,I 0,I 0,I 0,SL none 0 0,Value.map none]))) 84,bl b11 ([I a0.Heap.Low,I a0.Heap.High]++(sgE eSpan a0.Eats 2++(sg a0.Extra 3++[SL A1 a0.Days.length c2,I a0.Collier.Low,I a0.Collier.High,I a0.Brings,SL A4 a0.Dips.length c5]))) 29] [rd eCoalDay 3 A1 c2 a0.Days,rd eCoalDip 3 A4 c5 a0.Dips,rd intE 1 A7 c8 a1,gW0]) (0,([]:List CoalDip)) (none,0) H ⟨rfl,rfl,rfl,rfl,rfl,rfl,rfl,trivial⟩ S27 ?_
 intro m28 z_1 y_1 e29 w30 H S31
 unfold coal_opened_l29 at H
 refine c_seq<|reg<|p_cmp rfl rfl rfl<|wp_nil<|c_seq ?_
 refine c_cond rfl (fun c32=>?_) (fun c32=>?_)
 ·replace H:=condT c32 H
  refine c_skip<|c_seq<|c_block<|c_seq<|reg<|p_mI rfl ?_
  obtain ⟨r33,h34,H⟩:=bindS H
  refine p_ixE sc27 h34 (S31.atP (i:=1) rfl).1 rfl rfl rfl<|p_ldEA ty75 sz75 rfl h34 (S31.atP (i:=1) rfl).1 rfl<|p_allA in75 S31 fun b35 w36 S37=>p_aI rfl<|p_stP (pre:=[]) (old:=[I 0,I 0,I 0]) (post:=[]) (vs:=[I r33.Day,I r33.Read,I r33.Error]) sz75 S37 (i:=0) rfl rfl rfl rfl (rfl:_=AG [I r33.Day,I r33.Read,I r33.Error]) rfl rfl rfl rfl fun w38 S39=>wp_nil<|c_seq<|reg<|p_mS rfl<|p_mI rfl ?_
  obtain ⟨r40,h41,H⟩:=bindS H
  refine p_cv (sl_Contains_int_int_ok h41 (S39.atP (i:=2) rfl)) fu68 rfl S39 fun w42 S43=>p_not rfl<|wp_nil ?_
  refine c_cond rfl (fun c44=>?_) (fun c44=>?_)
  ·replace H:=condT c44 H
   refine reg<|p_fld fl84_0 rfl<|p_fld fl29_6 rfl<|p_ld ty27 (S43.atX (i:=2) rfl) rfl rfl<|p_ldA ty75 sz75 (S43.atX (i:=0) rfl) rfl rfl<|p_bsl (enc:=eCoalDip) (l:=([r33]:List CoalDip)) (fun x=>AG (eCoalDip x)) (fun _=>rfl) sc27 in75 eCoalDip_len rfl (by decide) (by decide) zr75_1 S43 rfl fun A45 c46 w47 S48=>?_
   obtain ⟨h54,H⟩:=needS H
   refine p_app (enc:=eCoalDip) sc27 in75 rfl eCoalDip_len eCoalDip_one (by decide) S48 (k:=2) rfl (gr_sl eCoalDip_len (S48.atX (i:=0) rfl)) h54 (by simp) rfl rfl fun A52 c53 w50 S51=>p_fld fl84_0 rfl<|p_fld fl29_6 rfl ?_
   refine p_stP (pre:=[I a0.Heap.Low,I a0.Heap.High]++(sgE eSpan a0.Eats 2++(sg a0.Extra 3++[SL A1 a0.Days.length c2,I a0.Collier.Low,I a0.Collier.High,I a0.Brings]))) (old:=[SL y_1.1 z_1.2.length y_1.2]) (post:=[Value.map (some m17)]) (vs:=[SL A52 (z_1.2++([r33]:List CoalDip)).length c53]) sz27 S51 (i:=3) rfl rfl rfl rfl (rfl:_=SL A52 (z_1.2++([r33]:List CoalDip)).length c53) rfl rfl rfl rfl fun w55 S56=>?_
   refine wp_nil<|reg<|p_add rfl rfl<|p_mI rfl<|wp_nil ?_
   have S57:=S56.pk [2,3,4,5,6] (by decide) [0,1,2,3] rfl rfl
   exact ⟨(wr (z_1.1+1),z_1.2++([r33]:List CoalDip)),(A52,c53),_,rfl,⟨rfl,rfl,rfl,rfl,rfl,rfl,rfl,trivial⟩,H,S57⟩
  ·replace H:=condF c44 H
   refine c_skip<|reg<|p_add rfl rfl<|p_mI rfl<|wp_nil ?_
   have S58:=S43.pk [1,2,3,4,5] (by decide) [0,1,2,3] rfl rfl
   exact ⟨(wr (z_1.1+1),z_1.2),(y_1.1,y_1.2),_,rfl,⟨rfl,rfl,rfl,rfl,rfl,rfl,rfl,trivial⟩,H,S58⟩
 ·replace H:=condF c32 H
  refine c_exit<|c_seq<|c_seq<|reg<|p_fld fl29_3 rfl<|p_ld ty26 (S31.atX (i:=4) rfl) rfl rfl<|p_len rfl sc26<|p_mI rfl<|wp_nil<|c_block ?_
  refine c_lop (α:=Int×(List (Coal_gust×Int))) (β:=Unit) (coal_opened_l28 a0 z_1) (fun z_2 y_2=>[(2,P b11 0),(4,P b14 0),(5,P b20 0),(40,SL A1 a0.Days.length c2),(41,I (a0.Days.length:Int)),(42,I z_2.1)]) (fun z_2 y_2 w_=>St w nF w_ [gr eCoalDip 3 75 y_1.1 y_1.2 z_1.2,bl b20 ([I a0.Heap.Low,I a0.Heap.High]++(sgE eSpan a0.Eats 2++(sg a0.Extra 3++[SL A1 a0.Days.length c2,I a0.Collier.Low,I a0.Collier.High,I a0.Brings,SL y_1.1 z_1.2.length y_1.2,Value.map (some m17)]))) 84,mp ekG iE m17 z_2.2,bl b14 ([I 0,I 0]++(sgE eSpan (List.replicate 2 (Span.mk 0 0)) 2++(sg (List.replicate 3 0) 3++[SL none 0 0,I 0,I 0,I 0,SL none 0 0,Value.map none]))) 84,bl b11 ([I a0.Heap.Low,I a0.Heap.High]++(sgE eSpan a0.Eats 2++(sg a0.Extra 3++[SL A1 a0.Days.length c2,I a0.Collier.Low,I a0.Collier.High,I a0.Brings,SL A4 a0.Dips.length c5]))) 29] [rd eCoalDay 3 A1 c2 a0.Days,rd eCoalDip 3 A4 c5 a0.Dips,rd intE 1 A7 c8 a1,gW0]) (0,([]:List (Coal_gust×Int))) () H ⟨rfl,rfl,rfl,rfl,rfl,rfl,trivial⟩ S31 ?_
  intro m59 z_2 y_2 e60 w61 H S62
  unfold coal_opened_l28 at H
  refine c_seq<|reg<|p_cmp rfl rfl rfl<|wp_nil<|c_seq ?_
  refine c_cond rfl (fun c63=>?_) (fun c63=>?_)
  ·replace H:=condT c63 H
   refine c_skip<|c_seq<|c_block<|c_seq<|reg<|p_mI rfl ?_
   obtain ⟨r64,h65,H⟩:=bindS H
   refine p_ixE sc26 h65 (S62.atP (i:=0) rfl).1 rfl rfl rfl<|p_ldEA ty59 sz59 rfl h65 (S62.atP (i:=0) rfl).1 rfl<|p_allA in59 S62 fun b66 w67 S68=>p_aI rfl<|p_stP (pre:=[]) (old:=[I 0,I 0,I 0]) (post:=[]) (vs:=[I r64.Crosses,I r64.Engines,I r64.Winds]) sz59 S68 (i:=0) rfl rfl rfl rfl (rfl:_=AG [I r64.Crosses,I r64.Engines,I r64.Winds]) rfl rfl rfl rfl fun w69 S70=>wp_nil<|c_seq<|reg ?_
   refine p_fld fl29_2 rfl<|p_ldP (vs:=sg a0.Extra 3) ty25 sz25 (S70.atX (i:=5) rfl) rfl rfl rfl<|p_mI rfl<|wp_nil<|c_block ?_
   refine c_lop (α:=Int×(List (Coal_gust×Int))) (β:=Unit) (coal_opened_l27 z_2 r64 a0 (loopF (coal_opened_l28 a0 z_1) m59)) (fun z_3 y_3=>[(2,P b11 0),(4,P b14 0),(5,P b20 0),(8,I z_2.1),(9,P b66 0),(40,SL A1 a0.Days.length c2),(41,I (a0.Days.length:Int)),(42,I z_2.1),(48,AG (sg a0.Extra 3)),(49,I z_3.1)]) (fun z_3 y_3 w_=>St w nF w_ [bl b66 [I r64.Crosses,I r64.Engines,I r64.Winds] 59,gr eCoalDip 3 75 y_1.1 y_1.2 z_1.2,bl b20 ([I a0.Heap.Low,I a0.Heap.High]++(sgE eSpan a0.Eats 2++(sg a0.Extra 3++[SL A1 a0.Days.length c2,I a0.Collier.Low,I a0.Collier.High,I a0.Brings,SL y_1.1 z_1.2.length y_1.2,Value.map (some m17)]))) 84,mp ekG iE m17 z_3.2,bl b14 ([I 0,I 0]++(sgE eSpan (List.replicate 2 (Span.mk 0 0)) 2++(sg (List.replicate 3 0) 3++[SL none 0 0,I 0,I 0,I 0,SL none 0 0,Value.map none]))) 84,bl b11 ([I a0.Heap.Low,I a0.Heap.High]++(sgE eSpan a0.Eats 2++(sg a0.Extra 3++[SL A1 a0.Days.length c2,I a0.Collier.Low,I a0.Collier.High,I a0.Brings,SL A4 a0.Dips.length c5]))) 29] [rd eCoalDay 3 A1 c2 a0.Days,rd eCoalDip 3 A4 c5 a0.Dips,rd intE 1 A7 c8 a1,gW0]) (0,z_2.2) () H ⟨rfl,rfl,rfl,rfl,rfl,rfl,rfl,rfl,rfl,rfl,trivial⟩ S70 ?_
   intro m71 z_3 y_3 e72 w73 H S74
   unfold coal_opened_l27 at H
   refine c_seq<|reg<|p_cmp rfl rfl rfl<|wp_nil<|c_seq ?_
   refine c_cond rfl (fun c75=>?_) (fun c75=>?_)
   ·replace H:=condT c75 H
    refine c_skip<|c_seq<|c_block<|c_seq<|reg<|p_mI rfl ?_
    obtain ⟨h76,H⟩:=needS H
    refine p_idxI (l:=a0.Extra) ae25 sz3 ty3 h76 rfl rfl<|p_aI rfl<|p_aI rfl<|wp_nil<|c_seq<|reg<|p_mI rfl<|p_mI rfl<|p_bld (cs:=[I z_2.1,I z_3.1]) st137 (rfl:_=[(0,I z_2.1),(1,I z_3.1)]) (by kernel_rfl)<|p_allA in137 S74 fun b77 w78 S79=>p_stP (pre:=[]) (old:=[I 0,I 0]) (post:=[]) (vs:=[I z_2.1,I z_3.1]) sz137 S79 (i:=0) rfl rfl rfl rfl (rfl:_=AG [I z_2.1,I z_3.1]) rfl rfl rfl rfl fun w80 S81=>?_
    refine wp_nil ?_
    refine c_join (α:=Bool) (β:=Unit) (fun z_4 y_4=>[(2,P b11 0),(4,P b14 0),(5,P b20 0),(8,I z_2.1),(9,P b66 0),(11,I (aget a0.Extra z_3.1)),(12,P b77 0),(40,SL A1 a0.Days.length c2),(41,I (a0.Days.length:Int)),(42,I z_2.1),(48,AG (sg a0.Extra 3)),(49,I z_3.1),(66,B z_4)]) (fun z_4 y_4 w_=>coal_opened_j26 (loopF (coal_opened_l27 z_2 r64 a0 (loopF (coal_opened_l28 a0 z_1) m59)) m71) z_3 z_2 r64 a0 z_4=some r∧St w nF w_ [bl b77 [I z_2.1,I z_3.1] 137,bl b66 [I r64.Crosses,I r64.Engines,I r64.Winds] 59,gr eCoalDip 3 75 y_1.1 y_1.2 z_1.2,bl b20 ([I a0.Heap.Low,I a0.Heap.High]++(sgE eSpan a0.Eats 2++(sg a0.Extra 3++[SL A1 a0.Days.length c2,I a0.Collier.Low,I a0.Collier.High,I a0.Brings,SL y_1.1 z_1.2.length y_1.2,Value.map (some m17)]))) 84,mp ekG iE m17 z_3.2,bl b14 ([I 0,I 0]++(sgE eSpan (List.replicate 2 (Span.mk 0 0)) 2++(sg (List.replicate 3 0) 3++[SL none 0 0,I 0,I 0,I 0,SL none 0 0,Value.map none]))) 84,bl b11 ([I a0.Heap.Low,I a0.Heap.High]++(sgE eSpan a0.Eats 2++(sg a0.Extra 3++[SL A1 a0.Days.length c2,I a0.Collier.Low,I a0.Collier.High,I a0.Brings,SL A4 a0.Dips.length c5]))) 29] [rd eCoalDay 3 A1 c2 a0.Days,rd eCoalDip 3 A4 c5 a0.Dips,rd intE 1 A7 c8 a1,gW0]) ?_ ?_
    ·refine reg<|p_ldA ty137 sz137 (S81.atX (i:=0) rfl) rfl rfl<|p_ldA ty137 sz137 (S81.atP (i:=3) rfl) rfl rfl ?_
     refine o_neA (xs:=[I z_2.1,I z_3.1]) (ys:=[I (-1),I (-1)]) (T:=((z_2.1==(-1))&&(z_3.1==(-1)))) rfl rfl eq137 ⟨⟨_,rfl⟩,⟨⟨_,rfl⟩,trivial⟩⟩ ⟨⟨_,rfl⟩,⟨⟨_,rfl⟩,trivial⟩⟩ (by simp [Bool.and_eq_true,and_assoc]) ?_
     refine p_mB rfl ?_
     rcases bE (!((z_2.1==(-1))&&(z_3.1==(-1)))) with c82 | c82
     ·replace H:=condT c82 H
      refine eB c82 ?_
      refine gT rfl rfl (p_fld fl59_2 rfl ?_)
      refine gT rfl rfl (p_ld ty3 (S81.atX (i:=1) rfl) rfl rfl ?_)
      refine gT rfl rfl (p_mI rfl ?_)
      obtain ⟨h83,H⟩:=needS H
      refine gT rfl rfl (p_shr h83 rfl rfl ?_)
      refine gT rfl rfl (p_andI rfl rfl ?_)
      refine gT rfl rfl (p_cmp rfl rfl rfl ?_)
      exact p_pkT rfl (rfl:_=B ((andI (shrI r64.Winds z_3.1) 1)==1))<|wp_nil ⟨((andI (shrI r64.Winds z_3.1) 1)==1),(),_,rfl,⟨rfl,rfl,rfl,rfl,rfl,rfl,rfl,rfl,rfl,rfl,rfl,rfl,rfl,trivial⟩,H,S81⟩
     ·replace H:=condF c82 H
      refine eB c82<|gF rfl rfl<|gF rfl rfl<|gF rfl rfl<|gF rfl rfl<|gF rfl rfl<|gF rfl rfl<|p_pkF rfl (rfl:_=B false)<|wp_nil ?_
      exact ⟨false,(),_,rfl,⟨rfl,rfl,rfl,rfl,rfl,rfl,rfl,rfl,rfl,rfl,rfl,rfl,rfl,trivial⟩,H,S81⟩
    ·intro z_4 y_4 e82 w83 S84; obtain ⟨H,S84⟩:=S84
     unfold coal_opened_j26 at H
     refine c_cond rfl (fun c85=>?_) (fun c85=>?_)
     ·replace H:=condT c85 H
      refine reg<|p_fld fl84_1 rfl<|p_ld ty82 (S84.atX (i:=3) rfl) rfl rfl<|p_ldA ty137 sz137 (S84.atX (i:=0) rfl) rfl rfl<|p_fld fl59_0 rfl<|p_ld ty3 (S84.atX (i:=1) rfl) rfl rfl<|p_mI rfl<|p_mul rfl rfl ?_
      refine o_mup (a:=(Coal_gust.mk z_2.1 z_3.1)) (v:=wr (r64.Crosses*(aget a0.Extra z_3.1))) rfl rfl rfl mt82 keyG S84 (i:=4) rfl fun w86 S87=>?_
      refine wp_nil<|reg<|p_add rfl rfl<|p_mI rfl<|wp_nil ?_
      have S88:=S87.pk [1,2,3,4,5,6] (by decide) [0,1,2,3] rfl rfl
      exact ⟨(wr (z_3.1+1),putL z_3.2 (Coal_gust.mk z_2.1 z_3.1) (wr (r64.Crosses*(aget a0.Extra z_3.1)))),(),_,rfl,⟨rfl,rfl,rfl,rfl,rfl,rfl,rfl,rfl,rfl,rfl,trivial⟩,H,S88⟩
     ·replace H:=condF c85 H
      refine c_skip<|reg<|p_add rfl rfl<|p_mI rfl<|wp_nil ?_
      have S89:=S84.pk [1,2,3,4,5,6] (by decide) [0,1,2,3] rfl rfl
      exact ⟨(wr (z_3.1+1),z_3.2),(),_,rfl,⟨rfl,rfl,rfl,rfl,rfl,rfl,rfl,rfl,rfl,rfl,trivial⟩,H,S89⟩
   ·replace H:=condF c75 H
    refine c_exit<|reg<|p_add rfl rfl<|p_mI rfl<|wp_nil ?_
    have S84:=S74.pk [1,2,3,4,5] (by decide) [0,1,2,3] rfl rfl
    exact ⟨(wr (z_2.1+1),z_3.2),(),_,rfl,⟨rfl,rfl,rfl,rfl,rfl,rfl,trivial⟩,H,S84⟩
  ·replace H:=condF c63 H
   refine c_exit<|c_seq<|reg<|p_ldA ty84 sz84 (S62.atX (i:=1) rfl) rfl rfl ?_
   refine p_stP (pre:=[]) (old:=[I 0,I 0]++(sgE eSpan (List.replicate 2 (Span.mk 0 0)) 2++(sg (List.replicate 3 0) 3++[SL none 0 0,I 0,I 0,I 0,SL none 0 0,Value.map none]))) (post:=[]) (vs:=[I a0.Heap.Low,I a0.Heap.High]++(sgE eSpan a0.Eats 2++(sg a0.Extra 3++[SL A1 a0.Days.length c2,I a0.Collier.Low,I a0.Collier.High,I a0.Brings,SL y_1.1 z_1.2.length y_1.2,Value.map (some m17)]))) sz84 S62 (i:=3) rfl rfl rfl rfl (rfl:_=AG ([I a0.Heap.Low,I a0.Heap.High]++(sgE eSpan a0.Eats 2++(sg a0.Extra 3++[SL A1 a0.Days.length c2,I a0.Collier.Low,I a0.Collier.High,I a0.Brings,SL y_1.1 z_1.2.length y_1.2,Value.map (some m17)])))) rfl rfl rfl rfl fun w85 S86=>?_
   refine wp_nil ?_
   obtain rfl:=sJ H
   refine c_ret ?_; show bodyPostM (Fr none) 0 Tryd.prog Tryd.f35 _ .ret _ _
   refine ret_of (res1 rfl (rvA rfl ty84 sz84 (S86.atX (i:=3) rfl) rfl)) ?_
   exact ⟨_,rfl,y_1.1,y_1.2,m17,rfl,S86.keep,⟨(gr_rd eCoalDip_len (S86.atX (i:=0) rfl)),(New.rd (S86.newX (i:=0) rfl))⟩,⟨S86.atX (i:=2) rfl,S86.newX (i:=2) rfl⟩,trivial⟩
def yE0 (x:Int):List Value:=[I x]
def coal_all_1_l1 {σ:Type} (q0:Span) (yv:Int→σ→Option (Bool×σ)) (rec_z_1:(Int×σ)→Option σ) (z_1:Int×σ):Option σ:=
 bif decide (z_1.1 < (wr ((wr (q0.High - q0.Low))+1))) then ((yv (wr (q0.Low+z_1.1)) z_1.2).bind fun r8=>
 bif !r8.1 then (some r8.2)
 else (rec_z_1 (wr (z_1.1+1),r8.2)))
 else (some z_1.2)
def coal_all_1 {σ:Type} (s_:σ) (q0:Span) (yv:Int→σ→Option (Bool×σ)):Option σ:=
 loopF (coal_all_1_l1 q0 yv) big (0,s_)
set_option maxRecDepth 100000 in
theorem coal_all_1_ok {σ:Type}{l_:Nat}{G_:σ→Asr→Prop}{A_:Asr}{wb_:World}{C0_:Nat→Prop}{s_:σ}{q0:Span}{yv:Int→σ→Option (Bool×σ)}{b1:Nat}{w:World}{r:σ} (H:coal_all_1 s_ q0 yv=some r) (hG_:(ga G_ s_ A_).ok w) (h2:(bl b1 [I q0.Low,I q0.High] 23).ok w) (hd_:∀ p∈([bl b1 [I q0.Low,I q0.High] 23]:List Asr),∀ b,p.fp b→¬A_.fp b) (hy_:YH Tryd.prog l_ yE0 yv G_ wb_ C0_) (hl_:Link wb_ C0_ w A_.fp):Calls Tryd.prog 90 #[Value.func (.yield l_) #[] #[],P b1 0] w (fun en w_=>∃ u_,en=.returned u_∧∃ A'_:Asr,u_=TU []∧Keep A_.fp w w_∧(ga G_ r A'_).ok w_∧(∀ b_,A'_.fp b_→A_.fp b_∨w.heap.size≤b_)):=by
 unfold coal_all_1 at H
 refine fn_of (n:=21) Tryd.func90 rfl rfl (lE rfl) ?_
 have S:St w A_.fp w [ga G_ s_ A_] [bl b1 [I q0.Low,I q0.High] 23]:=St.startX (ga G_ s_ A_) hG_ (cA h2 nM) hd_
 refine c_seq<|reg<|p_fld fl23_1 rfl<|p_ld ty3 (S.atP (i:=0) rfl) rfl rfl<|p_fld fl23_0 rfl<|p_ld ty3 (S.atP (i:=0) rfl) rfl rfl<|p_sub rfl rfl<|p_add rfl rfl<|p_mI rfl<|wp_nil<|c_block ?_
 refine c_lop (α:=Int×σ) (β:=Asr) (coal_all_1_l1 q0 yv) (fun z_1 y_1=>[(0,Value.func (.yield l_) #[] #[]),(1,P b1 0),(9,I (wr ((wr (q0.High - q0.Low))+1))),(10,I z_1.1)]) (fun z_1 y_1 w_=>St w A_.fp w_ [ga G_ z_1.2 y_1] [bl b1 [I q0.Low,I q0.High] 23]) (0,s_) A_ H ⟨rfl,rfl,rfl,rfl,trivial⟩ S ?_
 intro m3 z_1 y_1 e4 w5 H S6
 unfold coal_all_1_l1 at H
 refine c_seq<|reg<|p_cmp rfl rfl rfl<|wp_nil<|c_seq ?_
 refine c_cond rfl (fun c7=>?_) (fun c7=>?_)
 ·replace H:=condT c7 H
  refine c_skip<|c_seq<|c_block<|c_seq<|reg<|p_mI rfl<|p_aI rfl<|wp_nil<|c_seq<|reg<|p_mov (rfl:_=Value.func (.yield l_) #[] #[])<|p_fld fl23_0 rfl<|p_ld ty3 (S6.atP (i:=0) rfl) rfl rfl<|p_mI rfl<|p_add rfl rfl ?_
  obtain ⟨r8,h9,H⟩:=bindS H
  refine o_yieldG (x:=wr (q0.Low+z_1.1)) (b:=r8.1) (s2:=r8.2) h9 hy_ hl_ S6 (j:=0) rfl (rfl:_=Value.func (.yield l_) #[] #[]) rfl fun A10 w11 S12=>?_
  refine p_not rfl<|wp_nil ?_
  refine c_cond rfl (fun c13=>?_) (fun c13=>?_)
  ·replace H:=condT c13 H
   obtain rfl:=sJ H
   refine c_ret ?_; show bodyPostM (Fr none) 0 Tryd.prog Tryd.f90 _ .ret _ _
   refine ret_of (res0 rfl) ?_
   exact ⟨_,rfl,_,rfl,S12.keep,S12.atX (i:=0) rfl,fun b_ h_=>(S12.own _ (mE (i:=0) rfl) b_ h_).symm⟩
  ·replace H:=condF c13 H
   refine c_skip<|reg<|p_add rfl rfl<|p_mI rfl<|wp_nil ?_
   exact ⟨(wr (z_1.1+1),r8.2),A10,_,rfl,⟨rfl,rfl,rfl,rfl,trivial⟩,H,S12⟩
 ·replace H:=condF c7 H
  refine c_exit ?_
  obtain rfl:=sJ H
  show bodyPostM (Fr none) 0 Tryd.prog Tryd.f90 _ .normal _ _
  refine end_of (res0 rfl) ?_
  exact ⟨_,rfl,_,rfl,S6.keep,S6.atX (i:=0) rfl,fun b_ h_=>(S6.own _ (mE (i:=0) rfl) b_ h_).symm⟩
def coal_all (a0:Span):Option Unit:=
 some ()
set_option maxRecDepth 100000 in
theorem coal_all_ok {a0:Span}{w:World}{r:Unit} (H:coal_all a0=some r):Calls Tryd.prog 78 #[AG [I a0.Low,I a0.High]] w fun en w_=>∃ u_,en=.returned u_∧∃ b_1:Nat,u_=vF (.func 90) #[] #[P b_1 0]∧Keep0 w w_∧((bl b_1 [I a0.Low,I a0.High] 23).ok w_∧New w.heap.size (bl b_1 [I a0.Low,I a0.High] 23))∧True:=by
 unfold coal_all at H
 refine fn_of (n:=4) Tryd.func78 rfl rfl (lE rfl) ?_
 have S:=St.start w nF _ nM
 refine c_seq<|reg<|p_boxA rfl S fun b1 w2 S3=>p_asg (rfl:_=Value.nilFunc)<|wp_nil<|c_seq<|reg ?_
 refine o_fun (rfl:_=[]) (rfl:_=[P b1 0]) ?_
 refine p_asg (rfl:_=vF (.func 90) #[] #[P b1 0])<|wp_nil ?_
 obtain rfl:=sJ H
 refine c_ret ?_; show bodyPostM (Fr none) 0 Tryd.prog Tryd.f78 _ .ret _ _
 refine ret_of (res1 rfl (rvT (rfl:_=vF (.func 90) #[] #[P b1 0]))) ?_
 exact ⟨_,rfl,b1,rfl,S3.keep,⟨S3.atX (i:=0) rfl,S3.newX (i:=0) rfl⟩,trivial⟩
def coal_book_right_l1 (a0:Coal_book) (a1:Int) (a2:Int) (rec_z_1:Int→Option Bool) (z_1:Int):Option Bool:=
 bif decide (z_1 < (a0.CoalBook.Dips.length:Int)) then ((getI a0.CoalBook.Dips z_1).bind fun r18=>
 bif (r18.Day==a1) then ((coal_within (wr (a2 - r18.Read)) (wr (-r18.Error)) r18.Error).bind fun r26=>
 bif !r26 then (some false)
 else (rec_z_1 (wr (z_1+1))))
 else (rec_z_1 (wr (z_1+1))))
 else (some true)
def coal_book_right (a0:Coal_book) (a1:Int) (a2:Int):Option Bool:=
 loopF (coal_book_right_l1 a0 a1 a2) big 0
set_option maxRecDepth 100000 in
theorem coal_book_right_ok {a0:Coal_book}{a1:Int}{a2:Int}{A1:Option Addr}{c2:Nat}{A4:Option Addr}{c5:Nat}{m7:Option Nat}{w:World}{r:Bool} (H:coal_book_right a0 a1 a2=some r) (h3:(rd eCoalDay 3 A1 c2 a0.CoalBook.Days).ok w) (h6:(rd eCoalDip 3 A4 c5 a0.CoalBook.Dips).ok w) (h8:(mpo ekG iE m7 a0.costs_).ok w):Calls Tryd.prog 92 #[AG ([I a0.CoalBook.Heap.Low,I a0.CoalBook.Heap.High]++(sgE eSpan a0.CoalBook.Eats 2++(sg a0.CoalBook.Extra 3++[SL A1 a0.CoalBook.Days.length c2,I a0.CoalBook.Collier.Low,I a0.CoalBook.Collier.High,I a0.CoalBook.Brings,SL A4 a0.CoalBook.Dips.length c5,Value.map m7]))),I a1,I a2] w (RetV w (B r)):=by
 unfold coal_book_right at H
 refine fn_of (n:=35) Tryd.func92 rfl rfl (lE rfl) ?_
 have S:=St.start w nF _ (cA h3 (cA h6 (cA h8 nM)))
 refine c_seq<|reg<|p_boxA rfl S fun b9 w10 S11=>p_aB rfl<|wp_nil<|c_seq<|c_seq<|reg<|p_fld fl84_0 rfl<|p_fld fl29_6 rfl<|p_ld ty27 (S11.atX (i:=0) rfl) rfl rfl<|p_len rfl sc27<|p_mI rfl<|wp_nil<|c_block ?_
 have S12:=S11.pk [] (by decide) [0,1,2] rfl rfl
 refine c_lop (α:=Int) (β:=Unit) (coal_book_right_l1 a0 a1 a2) (fun z_1 y_1=>[(1,I a1),(2,I a2),(11,SL A4 a0.CoalBook.Dips.length c5),(12,I (a0.CoalBook.Dips.length:Int)),(13,I z_1)]) (fun z_1 y_1 w_=>St w nF w_ [] [rd eCoalDay 3 A1 c2 a0.CoalBook.Days,rd eCoalDip 3 A4 c5 a0.CoalBook.Dips,mpo ekG iE m7 a0.costs_]) 0 () H ⟨rfl,rfl,rfl,rfl,rfl,trivial⟩ S12 ?_
 intro m13 z_1 y_1 e14 w15 H S16
 unfold coal_book_right_l1 at H
 refine c_seq<|reg<|p_cmp rfl rfl rfl<|wp_nil<|c_seq ?_
 refine c_cond rfl (fun c17=>?_) (fun c17=>?_)
 ·replace H:=condT c17 H
  refine c_skip<|c_seq<|c_block<|c_seq<|reg ?_
  obtain ⟨r18,h19,H⟩:=bindS H
  refine p_ixE sc27 h19 (S16.atP (i:=1) rfl).1 rfl rfl rfl<|p_ldEA ty75 sz75 rfl h19 (S16.atP (i:=1) rfl).1 rfl<|p_allA in75 S16 fun b20 w21 S22=>p_stP (pre:=[]) (old:=[I 0,I 0,I 0]) (post:=[]) (vs:=[I r18.Day,I r18.Read,I r18.Error]) sz75 S22 (i:=0) rfl rfl rfl rfl (rfl:_=AG [I r18.Day,I r18.Read,I r18.Error]) rfl rfl rfl rfl fun w23 S24=>wp_nil<|c_seq<|reg<|p_fld fl75_0 rfl ?_
  refine p_ld ty3 (S24.atX (i:=0) rfl) rfl rfl<|p_mI rfl<|p_cmp rfl rfl rfl<|p_mB rfl ?_
  rcases bE ((r18.Day==a1)) with c25 | c25
  ·replace H:=condT c25 H
   refine eB c25 ?_
   refine gT rfl rfl (p_mI rfl ?_)
   refine gT rfl rfl (p_fld fl75_1 rfl ?_)
   refine gT rfl rfl (p_ld ty3 (S24.atX (i:=0) rfl) rfl rfl ?_)
   refine gT rfl rfl (p_sub rfl rfl ?_)
   refine gT rfl rfl (p_fld fl75_2 rfl ?_)
   refine gT rfl rfl (p_ld ty3 (S24.atX (i:=0) rfl) rfl rfl ?_)
   refine gT rfl rfl (p_neg rfl ?_)
   refine gT rfl rfl (p_fld fl75_2 rfl ?_)
   refine gT rfl rfl (p_ld ty3 (S24.atX (i:=0) rfl) rfl rfl ?_)
   obtain ⟨r26,h27,H⟩:=bindS H
   refine gT rfl rfl (p_cv (coal_within_ok h27) fu61 rfl S24 fun w28 S29=>?_)
   refine gT rfl rfl (p_not rfl ?_)
   refine p_pkT rfl (rfl:_=B (!r26))<|wp_nil ?_
   refine c_cond rfl (fun c30=>?_) (fun c30=>?_)
   ·replace H:=condT c30 H
    refine c_seq<|reg<|p_aB rfl<|wp_nil ?_
    obtain rfl:=sJ H
    exact c_ret (rT Tryd.f92 S29.keep rfl rfl)
   ·replace H:=condF c30 H
    refine c_skip<|reg<|p_add rfl rfl<|p_mI rfl<|wp_nil ?_
    have S31:=S29.pk [] (by decide) [0,1,2] rfl rfl
    exact ⟨wr (z_1+1),(),_,rfl,⟨rfl,rfl,rfl,rfl,rfl,trivial⟩,H,S31⟩
  ·replace H:=condF c25 H
   refine eB c25<|gF rfl rfl<|gF rfl rfl<|gF rfl rfl<|gF rfl rfl<|gF rfl rfl<|gF rfl rfl<|gF rfl rfl<|gF rfl rfl<|gF rfl rfl<|gF rfl rfl<|gF rfl rfl<|p_pkF rfl (rfl:_=B false)<|wp_nil<|c_false rfl<|c_skip<|reg<|p_add rfl rfl<|p_mI rfl<|wp_nil ?_
   have S32:=S24.pk [] (by decide) [0,1,2] rfl rfl
   exact ⟨wr (z_1+1),(),_,rfl,⟨rfl,rfl,rfl,rfl,rfl,trivial⟩,H,S32⟩
 ·replace H:=condF c17 H
  refine c_exit<|c_seq<|reg<|p_aB rfl<|wp_nil ?_
  obtain rfl:=sJ H
  exact c_ret (rT Tryd.f92 S16.keep rfl rfl)
def coal_nothing:Option (List Int):=
 some (List.replicate 2 0)
set_option maxRecDepth 100000 in
theorem coal_nothing_ok {w:World}{r:(List Int)} (H:coal_nothing=some r):Calls Tryd.prog 104 #[] w (RetV w (AG (sg r 2))):=by
 unfold coal_nothing at H
 refine fn_of (n:=3) Tryd.func104 rfl rfl (lE rfl) ?_
 have S:=St.start w nF _ nM
 refine c_seq<|reg<|p_allA in110 S fun b1 w2 S3=>wp_nil<|c_seq<|reg<|p_allA in110 S3 fun b4 w5 S6=>wp_nil<|c_seq<|reg<|p_ldA ty110 sz110 (S6.atX (i:=0) rfl) rfl rfl<|p_stP (pre:=[]) (old:=sg (List.replicate 2 0) 2) (post:=[]) (vs:=sg (List.replicate 2 0) 2) sz110 S6 (i:=1) rfl rfl rfl rfl (rfl:_=AG (sg (List.replicate 2 0) 2)) rfl rfl rfl rfl fun w7 S8=>wp_nil ?_
 obtain rfl:=sJ H
 refine c_ret ?_; show bodyPostM (Fr none) 0 Tryd.prog Tryd.f104 _ .ret _ _
 refine ret_of (res1 rfl (rvA rfl ty110 sz110 (S8.atX (i:=1) rfl) rfl)) ?_
 exact ⟨_,rfl,rfl,S8.keep⟩
def coal_sum_int_l1 (a0:List Int) (rec_z_1:(Int×Int)→Option Int) (z_1:Int×Int):Option Int:=
 bif decide (z_1.2 < (a0.length:Int)) then ((getI a0 z_1.2).bind fun r9=>
 rec_z_1 (wr (z_1.1+r9),wr (z_1.2+1)))
 else (some z_1.1)
def coal_sum_int (a0:List Int):Option Int:=
 loopF (coal_sum_int_l1 a0) big (0,0)
set_option maxRecDepth 100000 in
theorem coal_sum_int_ok {a0:List Int}{A1:Option Addr}{c2:Nat}{w:World}{r:Int} (H:coal_sum_int a0=some r) (h3:(rd intE 1 A1 c2 a0).ok w):Calls Tryd.prog 105 #[SL A1 a0.length c2] w (RetV w (I r)):=by
 unfold coal_sum_int at H
 refine fn_of (n:=17) Tryd.func105 rfl rfl (lE rfl) ?_
 have S:=St.start w nF _ (cA h3 nM)
 refine c_seq<|reg<|p_aI rfl<|wp_nil<|c_seq<|reg<|p_aI rfl<|wp_nil<|c_seq<|c_seq<|reg<|p_mS rfl<|p_len rfl sc42<|p_mI rfl<|wp_nil<|c_block ?_
 refine c_lop (α:=Int×Int) (β:=Unit) (coal_sum_int_l1 a0) (fun z_1 y_1=>[(3,I z_1.1),(6,SL A1 a0.length c2),(7,I (a0.length:Int)),(8,I z_1.2)]) (fun z_1 y_1 w_=>St w nF w_ [] [rd intE 1 A1 c2 a0]) (0,0) () H ⟨rfl,rfl,rfl,rfl,trivial⟩ S ?_
 intro m4 z_1 y_1 e5 w6 H S7
 unfold coal_sum_int_l1 at H
 refine c_seq<|reg<|p_cmp rfl rfl rfl<|wp_nil<|c_seq ?_
 refine c_cond rfl (fun c8=>?_) (fun c8=>?_)
 ·replace H:=condT c8 H
  refine c_skip<|c_seq<|c_block<|c_seq<|reg ?_
  obtain ⟨r9,h10,H⟩:=bindS H
  refine p_ixE sc42 h10 (S7.atP (i:=0) rfl).1 rfl rfl rfl<|p_ldE ty3 h10 (S7.atP (i:=0) rfl).1 rfl rfl<|p_aI rfl<|wp_nil<|reg<|p_mI rfl<|p_mI rfl<|p_add rfl rfl<|p_aI rfl<|wp_nil<|reg<|p_add rfl rfl<|p_mI rfl<|wp_nil ?_
  exact ⟨(wr (z_1.1+r9),wr (z_1.2+1)),(),_,rfl,⟨rfl,rfl,rfl,rfl,trivial⟩,H,S7⟩
 ·replace H:=condF c8 H
  refine c_exit<|c_seq<|reg<|p_mI rfl<|p_aI rfl<|wp_nil ?_
  obtain rfl:=sJ H
  exact c_ret (rT Tryd.f105 S7.keep rfl rfl)
def coal_book_engines_l1 (a0:Coal_book) (a1:Int) (a2:List Int) (rec_z_1:((List Int)×Int)→Option Int) (z_1:(List Int)×Int):Option Int:=
 bif decide (z_1.2 < 2) then (need (inI z_1.2 2)<|
 (getI a0.CoalBook.Days a1).bind fun r29=>
 need (decide (0≤z_1.2))<|
 bif ((andI (shrI r29.Engines z_1.2) 1)==1) then ((getI a0.CoalBook.Days a1).bind fun r33=>
 need (fitsL (z_1.1.length+([wr ((aget a2 z_1.2)*r33.Crosses)]:List Int).length) 8)<|
 rec_z_1 (z_1.1++([wr ((aget a2 z_1.2)*r33.Crosses)]:List Int),wr (z_1.2+1)))
 else (rec_z_1 (z_1.1,wr (z_1.2+1))))
 else ((coal_sum_int z_1.1).bind fun r46=>
 some r46)
def coal_book_engines (a0:Coal_book) (a1:Int) (a2:List Int):Option Int:=
 (coal_nothing).bind fun r15=>
 bif decide (sgl a2 2=sgl r15 2) then (some 0)
 else (loopF (coal_book_engines_l1 a0 a1 a2) big (([]:List Int),0))
set_option maxRecDepth 100000 in
theorem coal_book_engines_ok {a0:Coal_book}{a1:Int}{a2:List Int}{A1:Option Addr}{c2:Nat}{A4:Option Addr}{c5:Nat}{m7:Option Nat}{w:World}{r:Int} (H:coal_book_engines a0 a1 a2=some r) (h3:(rd eCoalDay 3 A1 c2 a0.CoalBook.Days).ok w) (h6:(rd eCoalDip 3 A4 c5 a0.CoalBook.Dips).ok w) (h8:(mpo ekG iE m7 a0.costs_).ok w):Calls Tryd.prog 94 #[AG ([I a0.CoalBook.Heap.Low,I a0.CoalBook.Heap.High]++(sgE eSpan a0.CoalBook.Eats 2++(sg a0.CoalBook.Extra 3++[SL A1 a0.CoalBook.Days.length c2,I a0.CoalBook.Collier.Low,I a0.CoalBook.Collier.High,I a0.CoalBook.Brings,SL A4 a0.CoalBook.Dips.length c5,Value.map m7]))),I a1,AG (sg a2 2)] w (RetV w (I r)):=by
 unfold coal_book_engines at H
 refine fn_of (n:=44) Tryd.func94 rfl rfl (lE rfl) ?_
 have S:=St.start w nF _ (cA h3 (cA h6 (cA h8 nM)))
 refine c_seq<|reg<|p_boxA rfl S fun b9 w10 S11=>p_boxA rfl S11 fun b12 w13 S14=>p_aI rfl<|wp_nil<|c_seq<|c_seq ?_
 obtain ⟨r15,h16,H⟩:=bindS H
 refine reg_q mixed 3 (by kernel_rfl) ?_
 refine dS (fun _ k_=>p_ldA ty110 sz110 (aS (S14.atX (i:=0) rfl) k_) rfl rfl dn)<|dS (fun _ k_=>p_cvD (coal_nothing_ok h16) fu104 rfl)<|dS (fun _ k_=>p_eqS (m:=2) eq110 rfl rfl dn) ?_
 intro w17 k18; have S19:=S14.call k18
 refine wp_nil ?_
 refine c_cond rfl (fun c20=>?_) (fun c20=>?_)
 ·replace H:=condT c20 H
  refine c_seq<|reg<|p_aI rfl<|wp_nil ?_
  obtain rfl:=sJ H
  exact c_ret (rT Tryd.f94 S19.keep rfl rfl)
 ·replace H:=condF c20 H
  refine c_skip<|c_seq<|reg<|p_aS rfl<|wp_nil<|c_seq<|c_seq<|reg<|p_ldA ty110 sz110 (S19.atX (i:=0) rfl) rfl rfl<|p_mI rfl<|wp_nil<|c_block ?_
  have S21:=S19.nilRow intE 1 3
  have S22:=S21.pk [0,2] (by decide) [0,1,2] rfl rfl
  refine c_lop (α:=(List Int)×Int) (β:=(Option Addr)×Nat) (coal_book_engines_l1 a0 a1 a2) (fun z_1 y_1=>[(1,I a1),(3,P b9 0),(7,SL y_1.1 z_1.1.length y_1.2),(13,AG (sg a2 2)),(14,I z_1.2)]) (fun z_1 y_1 w_=>St w nF w_ [gr intE 1 3 y_1.1 y_1.2 z_1.1,bl b9 ([I a0.CoalBook.Heap.Low,I a0.CoalBook.Heap.High]++(sgE eSpan a0.CoalBook.Eats 2++(sg a0.CoalBook.Extra 3++[SL A1 a0.CoalBook.Days.length c2,I a0.CoalBook.Collier.Low,I a0.CoalBook.Collier.High,I a0.CoalBook.Brings,SL A4 a0.CoalBook.Dips.length c5,Value.map m7]))) 84] [rd eCoalDay 3 A1 c2 a0.CoalBook.Days,rd eCoalDip 3 A4 c5 a0.CoalBook.Dips,mpo ekG iE m7 a0.costs_]) (([]:List Int),0) (none,0) H ⟨rfl,rfl,rfl,rfl,rfl,trivial⟩ S22 ?_
  intro m23 z_1 y_1 e24 w25 H S26
  unfold coal_book_engines_l1 at H
  refine c_seq<|reg<|p_cmp rfl rfl rfl<|wp_nil<|c_seq ?_
  refine c_cond rfl (fun c27=>?_) (fun c27=>?_)
  ·replace H:=condT c27 H
   refine c_skip<|c_seq<|c_block<|c_seq<|reg<|p_mI rfl ?_
   obtain ⟨h28,H⟩:=needS H
   refine p_idxI (l:=a2) ae110 sz3 ty3 h28 rfl rfl<|p_aI rfl<|p_aI rfl<|wp_nil<|c_seq<|reg<|p_fld fl84_0 rfl<|p_fld fl29_3 rfl<|p_ld ty26 (S26.atX (i:=1) rfl) rfl rfl<|p_mI rfl ?_
   obtain ⟨r29,h30,H⟩:=bindS H
   refine p_ixE sc26 h30 (S26.atP (i:=0) rfl).1 rfl rfl rfl<|p_fldE fl59_1 (sl_here (S26.atP (i:=0) rfl).1 h30) rfl<|p_ldE ty3 h30 (S26.atP (i:=0) rfl).1 rfl rfl<|p_mI rfl ?_
   obtain ⟨h31,H⟩:=needS H
   refine p_shr h31 rfl rfl<|p_andI rfl rfl<|p_cmp rfl rfl rfl<|wp_nil ?_
   refine c_cond rfl (fun c32=>?_) (fun c32=>?_)
   ·replace H:=condT c32 H
    refine reg<|p_mS rfl<|p_mI rfl<|p_fld fl84_0 rfl<|p_fld fl29_3 rfl<|p_ld ty26 (S26.atX (i:=1) rfl) rfl rfl<|p_mI rfl ?_
    obtain ⟨r33,h34,H⟩:=bindS H
    refine p_ixE sc26 h34 (S26.atP (i:=0) rfl).1 rfl rfl rfl<|p_fldE fl59_0 (sl_here (S26.atP (i:=0) rfl).1 h34) rfl<|p_ldE ty3 h34 (S26.atP (i:=0) rfl).1 rfl rfl<|p_mul rfl rfl<|p_bsl (enc:=intE) (l:=([wr ((aget a2 z_1.2)*r33.Crosses)]:List Int)) I (fun _=>rfl) sc42 in3 intE_len rfl (by decide) (by decide) zr3_1 S26 rfl fun A35 c36 w37 S38=>?_
    obtain ⟨h44,H⟩:=needS H
    refine p_app (enc:=intE) sc42 in3 rfl intE_len intE_one (by decide) S38 (k:=1) rfl (gr_sl intE_len (S38.atX (i:=0) rfl)) h44 (by simp) rfl rfl fun A42 c43 w40 S41=>p_aS rfl<|wp_nil<|reg<|p_add rfl rfl<|p_mI rfl<|wp_nil ?_
    have S45:=S41.pk [1,2] (by decide) [0,1,2] rfl rfl
    exact ⟨(z_1.1++([wr ((aget a2 z_1.2)*r33.Crosses)]:List Int),wr (z_1.2+1)),(A42,c43),_,rfl,⟨rfl,rfl,rfl,rfl,rfl,trivial⟩,H,S45⟩
   ·replace H:=condF c32 H
    refine c_skip<|reg<|p_add rfl rfl<|p_mI rfl<|wp_nil ?_
    exact ⟨(z_1.1,wr (z_1.2+1)),(y_1.1,y_1.2),_,rfl,⟨rfl,rfl,rfl,rfl,rfl,trivial⟩,H,S26⟩
  ·replace H:=condF c27 H
   refine c_exit<|c_seq<|reg<|p_mS rfl ?_
   obtain ⟨r46,h47,H⟩:=bindS H
   refine p_cv (coal_sum_int_ok h47 (gr_rd intE_len (S26.atX (i:=0) rfl))) fu105 rfl S26 fun w48 S49=>p_aI rfl<|wp_nil ?_
   obtain rfl:=sJ H
   exact c_ret (rT Tryd.f94 S49.keep rfl rfl)
structure Coal_truth where
 eats_:List Int
 collier_:Int
 winds_:List Int
 coal_:List Int
 deriving DecidableEq,Inhabited
def yE1 (x:Coal_truth):List Value:=[AG (sg x.eats_ 2++([I x.collier_]++(sg x.winds_ 6++sg x.coal_ 6)))]
def coal_book_blown_1_1_j4 {σ:Type} (rec_z_2:(Int×(List Int)×(List Int)×σ)→Option (Bool×σ)) (z_2:Int×(List Int)×(List Int)×σ) (q2:Coal_book) (a1:Int) (z_1:Int) (r37:Int) (rec_:Coal_truth→Int→Int→σ→Option (Bool×σ)) (a0:Coal_truth) (z_3:Int×Bool):Option (Bool×σ):=
 bif !z_3.2 then (rec_z_2 (wr (z_2.1+1),z_2.2.1,z_2.2.2.1,z_2.2.2.2))
 else ((coal_book_right q2 a1 (wr ((wr (z_1 - r37)) - z_3.1))).bind fun r50=>
 bif !r50 then (rec_z_2 (wr (z_2.1+1),z_2.2.1,z_2.2.2.1,z_2.2.2.2))
 else (need (inI a1 6)<|
 need (inI a1 6)<|
 (rec_ (Coal_truth.mk a0.eats_ a0.collier_ (aset z_2.2.1 6 a1 z_2.1) (aset z_2.2.2.1 6 a1 (wr ((wr (z_1 - r37)) - z_3.1)))) (wr (a1+1)) (wr ((wr (z_1 - r37)) - z_3.1)) z_2.2.2.2).bind fun r61=>
 bif !r61.1 then (some (false,r61.2))
 else (rec_z_2 (wr (z_2.1+1),aset z_2.2.1 6 a1 z_2.1,aset z_2.2.2.1 6 a1 (wr ((wr (z_1 - r37)) - z_3.1)),r61.2))))
def coal_book_blown_1_1_l5 {σ:Type} (q0:Coal_book) (a1:Int) (q2:Coal_book) (z_1:Int) (r37:Int) (rec_:Coal_truth→Int→Int→σ→Option (Bool×σ)) (a0:Coal_truth) (rec_z_2:(Int×(List Int)×(List Int)×σ)→Option (Bool×σ)) (z_2:Int×(List Int)×(List Int)×σ):Option (Bool×σ):=
 bif decide (z_2.1 < 3) then (optC (lookL q0.costs_ (Coal_gust.mk a1 z_2.1)) (fun v46=>coal_book_blown_1_1_j4 rec_z_2 z_2 q2 a1 z_1 r37 rec_ a0 (v46,true)) (coal_book_blown_1_1_j4 rec_z_2 z_2 q2 a1 z_1 r37 rec_ a0 (0,false)))
 else (some (true,z_2.2.2.2))
def coal_book_blown_1_1_j6 {σ:Type} (q0:Coal_book) (a1:Int) (a0:Coal_truth) (q2:Coal_book) (rec_:Coal_truth→Int→Int→σ→Option (Bool×σ)) (s_:σ) (z_1:Int):Option (Bool×σ):=
 (coal_book_engines q0 a1 a0.eats_).bind fun r37=>
 loopF (coal_book_blown_1_1_l5 q0 a1 q2 z_1 r37 rec_ a0) big (0,a0.winds_,a0.coal_,s_)
def coal_book_blown_1_1_F {σ:Type} (rec_:Coal_truth→Int→Int→σ→Option (Bool×σ)) (a0:Coal_truth) (a1:Int) (a2:Int) (s_:σ) (q0:Coal_book) (q2:Coal_book) (yv:Coal_truth→σ→Option (Bool×σ)):Option (Bool×σ):=
 bif (a1==(q0.CoalBook.Days.length:Int)) then ((yv a0 s_).bind fun r29=>
 some (r29.1,r29.2))
 else (bif (a0.collier_==a1) then (coal_book_blown_1_1_j6 q0 a1 a0 q2 rec_ s_ (wr (a2+q0.CoalBook.Brings)))
 else (coal_book_blown_1_1_j6 q0 a1 a0 q2 rec_ s_ a2))
def coal_book_blown_1_1 {σ:Type}:Nat→Coal_truth→Int→Int→σ→Coal_book→Coal_book→(Coal_truth→σ→Option (Bool×σ))→Option (Bool×σ)
 | 0,_,_,_,_,_,_,_=>none
 | n+1,a0,a1,a2,s_,q0,q2,yv=>coal_book_blown_1_1_F (fun x0_ x1_ x2_ x3_=>coal_book_blown_1_1 n x0_ x1_ x2_ x3_ q0 q2 yv) a0 a1 a2 s_ q0 q2 yv
set_option maxRecDepth 100000 in
theorem coal_book_blown_1_1_ok {σ:Type}{l_:Nat}{G_:σ→Asr→Prop}{wb_:World}{C0_:Nat→Prop}{n:Nat}:∀ {A_:Asr}{a0:Coal_truth}{a1:Int}{a2:Int}{s_:σ}{q0:Coal_book}{q2:Coal_book}{yv:Coal_truth→σ→Option (Bool×σ)}{b1:Nat}{A5:Option Addr}{c6:Nat}{A8:Option Addr}{c9:Nat}{m11:Option Nat}{b2:Nat}{b3:Nat}{A15:Option Addr}{c16:Nat}{A18:Option Addr}{c19:Nat}{m21:Option Nat}{b4:Nat}{w:World}{r:Bool×σ} (H:coal_book_blown_1_1 n a0 a1 a2 s_ q0 q2 yv=some r) (hG_:(ga G_ s_ A_).ok w) (h24:(bl b4 [vF (.func 93) #[] #[P b1 0,P b2 0,P b3 0,P b4 0]] 167).ok w) (h23:(bl b3 [vF (.func 92) #[AG ([I q2.CoalBook.Heap.Low,I q2.CoalBook.Heap.High]++(sgE eSpan q2.CoalBook.Eats 2++(sg q2.CoalBook.Extra 3++[SL A15 q2.CoalBook.Days.length c16,I q2.CoalBook.Collier.Low,I q2.CoalBook.Collier.High,I q2.CoalBook.Brings,SL A18 q2.CoalBook.Dips.length c19,Value.map m21])))] #[]] 53).ok w) (h14:(bl b2 [Value.func (.yield l_) #[] #[]] 150).ok w) (h13:(bl b1 ([I q0.CoalBook.Heap.Low,I q0.CoalBook.Heap.High]++(sgE eSpan q0.CoalBook.Eats 2++(sg q0.CoalBook.Extra 3++[SL A5 q0.CoalBook.Days.length c6,I q0.CoalBook.Collier.Low,I q0.CoalBook.Collier.High,I q0.CoalBook.Brings,SL A8 q0.CoalBook.Dips.length c9,Value.map m11]))) 84).ok w) (h7:(rd eCoalDay 3 A5 c6 q0.CoalBook.Days).ok w) (h10:(rd eCoalDip 3 A8 c9 q0.CoalBook.Dips).ok w) (h12:(mpo ekG iE m11 q0.costs_).ok w) (h17:(rd eCoalDay 3 A15 c16 q2.CoalBook.Days).ok w) (h20:(rd eCoalDip 3 A18 c19 q2.CoalBook.Dips).ok w) (h22:(mpo ekG iE m21 q2.costs_).ok w) (hd_:∀ p∈([bl b4 [vF (.func 93) #[] #[P b1 0,P b2 0,P b3 0,P b4 0]] 167,bl b3 [vF (.func 92) #[AG ([I q2.CoalBook.Heap.Low,I q2.CoalBook.Heap.High]++(sgE eSpan q2.CoalBook.Eats 2++(sg q2.CoalBook.Extra 3++[SL A15 q2.CoalBook.Days.length c16,I q2.CoalBook.Collier.Low,I q2.CoalBook.Collier.High,I q2.CoalBook.Brings,SL A18 q2.CoalBook.Dips.length c19,Value.map m21])))] #[]] 53,bl b2 [Value.func (.yield l_) #[] #[]] 150,bl b1 ([I q0.CoalBook.Heap.Low,I q0.CoalBook.Heap.High]++(sgE eSpan q0.CoalBook.Eats 2++(sg q0.CoalBook.Extra 3++[SL A5 q0.CoalBook.Days.length c6,I q0.CoalBook.Collier.Low,I q0.CoalBook.Collier.High,I q0.CoalBook.Brings,SL A8 q0.CoalBook.Dips.length c9,Value.map m11]))) 84,rd eCoalDay 3 A5 c6 q0.CoalBook.Days,rd eCoalDip 3 A8 c9 q0.CoalBook.Dips,mpo ekG iE m11 q0.costs_,rd eCoalDay 3 A15 c16 q2.CoalBook.Days,rd eCoalDip 3 A18 c19 q2.CoalBook.Dips,mpo ekG iE m21 q2.costs_]:List Asr),∀ b,p.fp b→¬A_.fp b) (hy_:YH Tryd.prog l_ yE1 yv G_ wb_ C0_) (hl_:Link wb_ C0_ w A_.fp),Calls Tryd.prog 93 #[AG (sg a0.eats_ 2++([I a0.collier_]++(sg a0.winds_ 6++sg a0.coal_ 6))),I a1,I a2,P b1 0,P b2 0,P b3 0,P b4 0] w (fun en w_=>∃ u_,en=.returned u_∧∃ A'_:Asr,u_=B r.1∧Keep A_.fp w w_∧(ga G_ r.2 A'_).ok w_∧(∀ b_,A'_.fp b_→A_.fp b_∨w.heap.size≤b_)):=by
 induction n with
 | zero=>intro A_ a0 a1 a2 s_ q0 q2 yv b1 A5 c6 A8 c9 m11 b2 b3 A15 c16 A18 c19 m21 b4 w r H hG_ h24 h23 h14 h13 h7 h10 h12 h17 h20 h22 hd_ hy_ hl_; cases H
 | succ n ih=>
 intro A_ a0 a1 a2 s_ q0 q2 yv b1 A5 c6 A8 c9 m11 b2 b3 A15 c16 A18 c19 m21 b4 w r H hG_ h24 h23 h14 h13 h7 h10 h12 h17 h20 h22 hd_ hy_ hl_
 unfold coal_book_blown_1_1 coal_book_blown_1_1_F at H
 refine fn_of (n:=82) Tryd.func93 rfl rfl (lE rfl) ?_
 have S:St w A_.fp w [ga G_ s_ A_] [bl b4 [vF (.func 93) #[] #[P b1 0,P b2 0,P b3 0,P b4 0]] 167,bl b3 [vF (.func 92) #[AG ([I q2.CoalBook.Heap.Low,I q2.CoalBook.Heap.High]++(sgE eSpan q2.CoalBook.Eats 2++(sg q2.CoalBook.Extra 3++[SL A15 q2.CoalBook.Days.length c16,I q2.CoalBook.Collier.Low,I q2.CoalBook.Collier.High,I q2.CoalBook.Brings,SL A18 q2.CoalBook.Dips.length c19,Value.map m21])))] #[]] 53,bl b2 [Value.func (.yield l_) #[] #[]] 150,bl b1 ([I q0.CoalBook.Heap.Low,I q0.CoalBook.Heap.High]++(sgE eSpan q0.CoalBook.Eats 2++(sg q0.CoalBook.Extra 3++[SL A5 q0.CoalBook.Days.length c6,I q0.CoalBook.Collier.Low,I q0.CoalBook.Collier.High,I q0.CoalBook.Brings,SL A8 q0.CoalBook.Dips.length c9,Value.map m11]))) 84,rd eCoalDay 3 A5 c6 q0.CoalBook.Days,rd eCoalDip 3 A8 c9 q0.CoalBook.Dips,mpo ekG iE m11 q0.costs_,rd eCoalDay 3 A15 c16 q2.CoalBook.Days,rd eCoalDip 3 A18 c19 q2.CoalBook.Dips,mpo ekG iE m21 q2.costs_]:=St.startX (ga G_ s_ A_) hG_ (cA h24 (cA h23 (cA h14 (cA h13 (cA h7 (cA h10 (cA h12 (cA h17 (cA h20 (cA h22 nM)))))))))) hd_
 refine c_seq<|reg<|p_boxA rfl S fun b25 w26 S27=>p_aB rfl<|wp_nil<|c_scope<|c_seq<|c_seq<|reg<|p_mI rfl<|p_fld fl84_0 rfl<|p_fld fl29_3 rfl<|p_ld ty26 (S27.atP (i:=3) rfl) rfl rfl<|p_len rfl sc26<|p_cmp rfl rfl rfl<|wp_nil ?_
 refine c_cond rfl (fun c28=>?_) (fun c28=>?_)
 ·replace H:=condT c28 H
  refine c_seq<|reg<|p_ld ty150 (S27.atP (i:=2) rfl) rfl rfl<|p_ldA ty113 sz113 (S27.atX (i:=0) rfl) rfl rfl ?_
  obtain ⟨r29,h30,H⟩:=bindS H
  refine o_yieldG (x:=a0) (b:=r29.1) (s2:=r29.2) h30 hy_ hl_ S27 (j:=1) rfl (rfl:_=Value.func (.yield l_) #[] #[]) rfl fun A31 w32 S33=>?_
  refine p_aB rfl<|wp_nil ?_
  obtain rfl:=sJ H
  refine c_ret ?_; show bodyPostM (Fr none) 0 Tryd.prog Tryd.f93 _ .ret _ _
  refine ret_of (res1 rfl (rvT (rfl:_=B r29.1))) ?_
  exact ⟨_,rfl,_,rfl,S33.keep,S33.atX (i:=1) rfl,fun b_ h_=>(S33.own _ (mE (i:=1) rfl) b_ h_).symm⟩
 ·replace H:=condF c28 H
  refine c_skip ?_
  refine c_join (α:=Int) (β:=Unit) (fun z_1 y_1=>[(1,I a1),(2,I z_1),(3,P b1 0),(5,P b3 0),(6,P b4 0),(7,P b25 0)]) (fun z_1 y_1 w_=>coal_book_blown_1_1_j6 q0 a1 a0 q2 (fun x0_ x1_ x2_ x3_=>coal_book_blown_1_1 n x0_ x1_ x2_ x3_ q0 q2 yv) s_ z_1=some r∧St w A_.fp w_ [bl b25 (sg a0.eats_ 2++([I a0.collier_]++(sg a0.winds_ 6++sg a0.coal_ 6))) 113,ga G_ s_ A_] [bl b4 [vF (.func 93) #[] #[P b1 0,P b2 0,P b3 0,P b4 0]] 167,bl b3 [vF (.func 92) #[AG ([I q2.CoalBook.Heap.Low,I q2.CoalBook.Heap.High]++(sgE eSpan q2.CoalBook.Eats 2++(sg q2.CoalBook.Extra 3++[SL A15 q2.CoalBook.Days.length c16,I q2.CoalBook.Collier.Low,I q2.CoalBook.Collier.High,I q2.CoalBook.Brings,SL A18 q2.CoalBook.Dips.length c19,Value.map m21])))] #[]] 53,bl b2 [Value.func (.yield l_) #[] #[]] 150,bl b1 ([I q0.CoalBook.Heap.Low,I q0.CoalBook.Heap.High]++(sgE eSpan q0.CoalBook.Eats 2++(sg q0.CoalBook.Extra 3++[SL A5 q0.CoalBook.Days.length c6,I q0.CoalBook.Collier.Low,I q0.CoalBook.Collier.High,I q0.CoalBook.Brings,SL A8 q0.CoalBook.Dips.length c9,Value.map m11]))) 84,rd eCoalDay 3 A5 c6 q0.CoalBook.Days,rd eCoalDip 3 A8 c9 q0.CoalBook.Dips,mpo ekG iE m11 q0.costs_,rd eCoalDay 3 A15 c16 q2.CoalBook.Days,rd eCoalDip 3 A18 c19 q2.CoalBook.Dips,mpo ekG iE m21 q2.costs_]) ?_ ?_
  ·refine c_seq<|reg<|p_fld fl113_1 rfl<|p_ld ty3 (S27.atX (i:=0) rfl) rfl rfl<|p_mI rfl<|p_cmp rfl rfl rfl<|wp_nil ?_
   refine c_cond rfl (fun c34=>?_) (fun c34=>?_)
   ·replace H:=condT c34 H
    refine reg<|p_mI rfl<|p_fld fl84_0 rfl<|p_fld fl29_5 rfl<|p_ld ty3 (S27.atP (i:=3) rfl) rfl rfl<|p_add rfl rfl<|p_aI rfl<|wp_nil ?_
    exact ⟨wr (a2+q0.CoalBook.Brings),(),_,rfl,⟨rfl,rfl,rfl,rfl,rfl,rfl,trivial⟩,H,S27⟩
   ·replace H:=condF c34 H
    refine c_skip ?_
    exact ⟨a2,(),_,rfl,⟨rfl,rfl,rfl,rfl,rfl,rfl,trivial⟩,H,S27⟩
  ·intro z_1 y_1 e34 w35 S36; obtain ⟨H,S36⟩:=S36
   unfold coal_book_blown_1_1_j6 at H
   refine c_seq<|reg<|p_mI rfl<|p_ldA ty84 sz84 (S36.atP (i:=3) rfl) rfl rfl<|p_mI rfl<|p_fld fl113_0 rfl<|p_ldP (vs:=sg a0.eats_ 2) ty110 sz110 (S36.atX (i:=0) rfl) rfl rfl rfl ?_
   obtain ⟨r37,h38,H⟩:=bindS H
   refine p_cv (coal_book_engines_ok h38 (S36.atP (i:=4) rfl) (S36.atP (i:=5) rfl) (S36.atP (i:=6) rfl)) fu94 rfl S36 fun w39 S40=>p_sub rfl rfl<|p_aI rfl<|wp_nil<|c_seq<|c_label<|c_seq<|c_seq<|reg<|p_mI rfl<|wp_nil<|c_block ?_
   refine c_lop (α:=Int×(List Int)×(List Int)×σ) (β:=Asr) (coal_book_blown_1_1_l5 q0 a1 q2 z_1 r37 (fun x0_ x1_ x2_ x3_=>coal_book_blown_1_1 n x0_ x1_ x2_ x3_ q0 q2 yv) a0) (fun z_2 y_2=>[(1,I a1),(2,I (wr (z_1 - r37))),(3,P b1 0),(5,P b3 0),(6,P b4 0),(7,P b25 0),(39,I z_2.1)]) (fun z_2 y_2 w_=>St w A_.fp w_ [bl b25 (sg a0.eats_ 2++([I a0.collier_]++(sg z_2.2.1 6++sg z_2.2.2.1 6))) 113,ga G_ z_2.2.2.2 y_2] [bl b4 [vF (.func 93) #[] #[P b1 0,P b2 0,P b3 0,P b4 0]] 167,bl b3 [vF (.func 92) #[AG ([I q2.CoalBook.Heap.Low,I q2.CoalBook.Heap.High]++(sgE eSpan q2.CoalBook.Eats 2++(sg q2.CoalBook.Extra 3++[SL A15 q2.CoalBook.Days.length c16,I q2.CoalBook.Collier.Low,I q2.CoalBook.Collier.High,I q2.CoalBook.Brings,SL A18 q2.CoalBook.Dips.length c19,Value.map m21])))] #[]] 53,bl b2 [Value.func (.yield l_) #[] #[]] 150,bl b1 ([I q0.CoalBook.Heap.Low,I q0.CoalBook.Heap.High]++(sgE eSpan q0.CoalBook.Eats 2++(sg q0.CoalBook.Extra 3++[SL A5 q0.CoalBook.Days.length c6,I q0.CoalBook.Collier.Low,I q0.CoalBook.Collier.High,I q0.CoalBook.Brings,SL A8 q0.CoalBook.Dips.length c9,Value.map m11]))) 84,rd eCoalDay 3 A5 c6 q0.CoalBook.Days,rd eCoalDip 3 A8 c9 q0.CoalBook.Dips,mpo ekG iE m11 q0.costs_,rd eCoalDay 3 A15 c16 q2.CoalBook.Days,rd eCoalDip 3 A18 c19 q2.CoalBook.Dips,mpo ekG iE m21 q2.costs_]) (0,a0.winds_,a0.coal_,s_) A_ H ⟨rfl,rfl,rfl,rfl,rfl,rfl,rfl,trivial⟩ S40 ?_
   intro m41 z_2 y_2 e42 w43 H S44
   unfold coal_book_blown_1_1_l5 at H
   refine c_seq<|reg<|p_cmp rfl rfl rfl<|wp_nil<|c_seq ?_
   refine c_cond rfl (fun c45=>?_) (fun c45=>?_)
   ·replace H:=condT c45 H
    refine c_skip<|c_seq<|c_block<|c_seq<|reg<|p_mI rfl<|p_aI rfl<|wp_nil ?_
    refine c_join (α:=Int×Bool) (β:=Unit) (fun z_3 y_3=>[(1,I a1),(2,I (wr (z_1 - r37))),(3,P b1 0),(5,P b3 0),(6,P b4 0),(7,P b25 0),(11,I z_2.1),(12,I z_3.1),(13,B z_3.2),(39,I z_2.1)]) (fun z_3 y_3 w_=>coal_book_blown_1_1_j4 (loopF (coal_book_blown_1_1_l5 q0 a1 q2 z_1 r37 (fun x0_ x1_ x2_ x3_=>coal_book_blown_1_1 n x0_ x1_ x2_ x3_ q0 q2 yv) a0) m41) z_2 q2 a1 z_1 r37 (fun x0_ x1_ x2_ x3_=>coal_book_blown_1_1 n x0_ x1_ x2_ x3_ q0 q2 yv) a0 z_3=some r∧St w A_.fp w_ [bl b25 (sg a0.eats_ 2++([I a0.collier_]++(sg z_2.2.1 6++sg z_2.2.2.1 6))) 113,ga G_ z_2.2.2.2 y_2] [bl b4 [vF (.func 93) #[] #[P b1 0,P b2 0,P b3 0,P b4 0]] 167,bl b3 [vF (.func 92) #[AG ([I q2.CoalBook.Heap.Low,I q2.CoalBook.Heap.High]++(sgE eSpan q2.CoalBook.Eats 2++(sg q2.CoalBook.Extra 3++[SL A15 q2.CoalBook.Days.length c16,I q2.CoalBook.Collier.Low,I q2.CoalBook.Collier.High,I q2.CoalBook.Brings,SL A18 q2.CoalBook.Dips.length c19,Value.map m21])))] #[]] 53,bl b2 [Value.func (.yield l_) #[] #[]] 150,bl b1 ([I q0.CoalBook.Heap.Low,I q0.CoalBook.Heap.High]++(sgE eSpan q0.CoalBook.Eats 2++(sg q0.CoalBook.Extra 3++[SL A5 q0.CoalBook.Days.length c6,I q0.CoalBook.Collier.Low,I q0.CoalBook.Collier.High,I q0.CoalBook.Brings,SL A8 q0.CoalBook.Dips.length c9,Value.map m11]))) 84,rd eCoalDay 3 A5 c6 q0.CoalBook.Days,rd eCoalDip 3 A8 c9 q0.CoalBook.Dips,mpo ekG iE m11 q0.costs_,rd eCoalDay 3 A15 c16 q2.CoalBook.Days,rd eCoalDip 3 A18 c19 q2.CoalBook.Dips,mpo ekG iE m21 q2.costs_]) ?_ ?_
    ·refine reg<|p_fld fl84_1 rfl<|p_ld ty82 (S44.atP (i:=3) rfl) rfl rfl<|p_mI rfl<|p_mI rfl<|p_bld (cs:=[I a1,I z_2.1]) st137 (rfl:_=[(0,I a1),(1,I z_2.1)]) (by kernel_rfl) ?_
     refine p_lookO (a:=(Coal_gust.mk a1 z_2.1)) mt82 keyG in3 (S44.atP (i:=6) rfl) rfl rfl (fun v46 c47=>?_) (fun c47=>?_)
     ·replace H:=optS c47 H
      refine p_mT rfl<|p_ext rfl rfl<|p_ext rfl rfl<|p_aI rfl<|p_aB rfl<|wp_nil ?_
      exact ⟨(v46,true),(),_,rfl,⟨rfl,rfl,rfl,rfl,rfl,rfl,rfl,rfl,rfl,rfl,trivial⟩,H,S44⟩
     ·replace H:=optN c47 H
      refine p_mT rfl<|p_ext rfl rfl<|p_ext rfl rfl<|p_aI rfl<|p_aB rfl<|wp_nil ?_
      exact ⟨(0,false),(),_,rfl,⟨rfl,rfl,rfl,rfl,rfl,rfl,rfl,rfl,rfl,rfl,trivial⟩,H,S44⟩
    ·intro z_3 y_3 e46 w47 S48; obtain ⟨H,S48⟩:=S48
     unfold coal_book_blown_1_1_j4 at H
     refine c_seq<|c_seq<|reg<|p_mB rfl<|p_not rfl<|p_mB rfl ?_
     rcases bE (!z_3.2) with c49 | c49
     ·replace H:=condT c49 H
      refine eB c49<|gF rfl rfl<|gF rfl rfl<|gF rfl rfl<|gF rfl rfl<|gF rfl rfl<|gF rfl rfl<|gF rfl rfl<|p_pkT rfl (rfl:_=B true)<|wp_nil<|c_true rfl<|c_exit<|reg<|p_add rfl rfl<|p_mI rfl<|wp_nil ?_
      exact ⟨(wr (z_2.1+1),z_2.2.1,z_2.2.2.1,z_2.2.2.2),y_2,_,rfl,⟨rfl,rfl,rfl,rfl,rfl,rfl,rfl,trivial⟩,H,S48⟩
     ·replace H:=condF c49 H
      refine eB c49 ?_
      refine gT rfl rfl (p_ld ty53 (S48.atP (i:=1) rfl) rfl rfl ?_)
      refine gT rfl rfl (p_mI rfl ?_)
      refine gT rfl rfl (p_mI rfl ?_)
      refine gT rfl rfl (p_mI rfl ?_)
      refine gT rfl rfl (p_sub rfl rfl ?_)
      obtain ⟨r50,h51,H⟩:=bindS H
      refine gT rfl rfl (p_cv (coal_book_right_ok h51 (S48.atP (i:=7) rfl) (S48.atP (i:=8) rfl) (S48.atP (i:=9) rfl)) fu92 rfl S48 fun w52 S53=>?_)
      refine gT rfl rfl (p_not rfl ?_)
      refine p_pkF rfl (rfl:_=B (!r50))<|wp_nil ?_
      refine c_cond rfl (fun c54=>?_) (fun c54=>?_)
      ·replace H:=condT c54 H
       refine c_exit<|reg<|p_add rfl rfl<|p_mI rfl<|wp_nil ?_
       exact ⟨(wr (z_2.1+1),z_2.2.1,z_2.2.2.1,z_2.2.2.2),y_2,_,rfl,⟨rfl,rfl,rfl,rfl,rfl,rfl,rfl,trivial⟩,H,S53⟩
      ·replace H:=condF c54 H
       refine c_skip<|c_seq<|reg<|p_mI rfl<|p_mI rfl<|p_mI rfl<|p_mI rfl<|p_mI rfl<|p_sub rfl rfl<|p_fld fl113_2 rfl ?_
       obtain ⟨h55,H⟩:=needS H
       refine p_ixD ar111 h55 rfl rfl<|p_stD (pre:=sg a0.eats_ 2++[I a0.collier_]) (post:=sg z_2.2.2.1 6) sz3 S53 (i:=0) rfl rfl h55 rfl rfl rfl fun w56 S57=>p_fld fl113_3 rfl ?_
       obtain ⟨h58,H⟩:=needS H
       refine p_ixD ar111 h58 rfl rfl<|p_stD (pre:=sg a0.eats_ 2++([I a0.collier_]++sg (aset z_2.2.1 6 a1 z_2.1) 6)) (post:=[]) sz3 S57 (i:=0) rfl rfl h58 rfl rfl rfl fun w59 S60=>wp_nil<|c_seq<|reg<|p_ld ty167 (S60.atP (i:=0) rfl) rfl rfl<|p_ldA ty113 sz113 (S60.atX (i:=0) rfl) rfl rfl<|p_mI rfl<|p_add rfl rfl<|p_mI rfl<|p_mI rfl<|p_sub rfl rfl ?_
       obtain ⟨r61,h62,H⟩:=bindS H
       refine p_cal (ih h62 (S60.atX (i:=1) rfl) (S60.atP (i:=0) rfl) (S60.atP (i:=1) rfl) (S60.atP (i:=2) rfl) (S60.atP (i:=3) rfl) (S60.atP (i:=4) rfl) (S60.atP (i:=5) rfl) (S60.atP (i:=6) rfl) (S60.atP (i:=7) rfl) (S60.atP (i:=8) rfl) (S60.atP (i:=9) rfl) (cA (fun b_ h1_ h2_=>((fp_mem (i:=0) rfl) b_ h1_).elim fun q_ hq_=>(S60.apart (j:=1) rfl (fun _ h_=>h_)) q_ hq_.1 b_ hq_.2 h2_) (cA (fun b_ h1_ h2_=>((fp_mem (i:=1) rfl) b_ h1_).elim fun q_ hq_=>(S60.apart (j:=1) rfl (fun _ h_=>h_)) q_ hq_.1 b_ hq_.2 h2_) (cA (fun b_ h1_ h2_=>((fp_mem (i:=2) rfl) b_ h1_).elim fun q_ hq_=>(S60.apart (j:=1) rfl (fun _ h_=>h_)) q_ hq_.1 b_ hq_.2 h2_) (cA (fun b_ h1_ h2_=>((fp_mem (i:=3) rfl) b_ h1_).elim fun q_ hq_=>(S60.apart (j:=1) rfl (fun _ h_=>h_)) q_ hq_.1 b_ hq_.2 h2_) (cA (fun b_ h1_ h2_=>((fp_mem (i:=4) rfl) b_ h1_).elim fun q_ hq_=>(S60.apart (j:=1) rfl (fun _ h_=>h_)) q_ hq_.1 b_ hq_.2 h2_) (cA (fun b_ h1_ h2_=>((fp_mem (i:=5) rfl) b_ h1_).elim fun q_ hq_=>(S60.apart (j:=1) rfl (fun _ h_=>h_)) q_ hq_.1 b_ hq_.2 h2_) (cA (fun b_ h1_ h2_=>((fp_mem (i:=6) rfl) b_ h1_).elim fun q_ hq_=>(S60.apart (j:=1) rfl (fun _ h_=>h_)) q_ hq_.1 b_ hq_.2 h2_) (cA (fun b_ h1_ h2_=>((fp_mem (i:=7) rfl) b_ h1_).elim fun q_ hq_=>(S60.apart (j:=1) rfl (fun _ h_=>h_)) q_ hq_.1 b_ hq_.2 h2_) (cA (fun b_ h1_ h2_=>((fp_mem (i:=8) rfl) b_ h1_).elim fun q_ hq_=>(S60.apart (j:=1) rfl (fun _ h_=>h_)) q_ hq_.1 b_ hq_.2 h2_) (cA (fun b_ h1_ h2_=>((fp_mem (i:=9) rfl) b_ h1_).elim fun q_ hq_=>(S60.apart (j:=1) rfl (fun _ h_=>h_)) q_ hq_.1 b_ hq_.2 h2_) nM)))))))))) hy_ (S60.link (j:=1) rfl hl_)) fu93 rfl ?_
       rintro _ w63 ⟨A65,rfl,k64,o66,f67⟩
       have S68:=S60.itCall (j:=1) rfl k64 o66 f67
       refine p_not rfl<|wp_nil ?_
       refine c_cond rfl (fun c69=>?_) (fun c69=>?_)
       ·replace H:=condT c69 H
        refine c_seq<|reg<|p_aB rfl<|wp_nil ?_
        obtain rfl:=sJ H
        refine c_ret ?_; show bodyPostM (Fr none) 0 Tryd.prog Tryd.f93 _ .ret _ _
        refine ret_of (res1 rfl (rvT (rfl:_=B false))) ?_
        exact ⟨_,rfl,_,rfl,S68.keep,S68.atX (i:=1) rfl,fun b_ h_=>(S68.own _ (mE (i:=1) rfl) b_ h_).symm⟩
       ·replace H:=condF c69 H
        refine c_skip<|reg<|p_add rfl rfl<|p_mI rfl<|wp_nil ?_
        exact ⟨(wr (z_2.1+1),aset z_2.2.1 6 a1 z_2.1,aset z_2.2.2.1 6 a1 (wr ((wr (z_1 - r37)) - z_3.1)),r61.2),A65,_,rfl,⟨rfl,rfl,rfl,rfl,rfl,rfl,rfl,trivial⟩,H,S68⟩
   ·replace H:=condF c45 H
    refine c_exit<|c_seq<|reg<|p_aB rfl<|wp_nil ?_
    obtain rfl:=sJ H
    refine c_ret ?_; show bodyPostM (Fr none) 0 Tryd.prog Tryd.f93 _ .ret _ _
    refine ret_of (res1 rfl (rvT (rfl:_=B true))) ?_
    exact ⟨_,rfl,_,rfl,S44.keep,S44.atX (i:=1) rfl,fun b_ h_=>(S44.own _ (mE (i:=1) rfl) b_ h_).symm⟩
def coal_book_blown_1 {σ:Type} (s_:σ) (q0:Coal_book) (q1:Coal_truth) (q2:Int) (yv:Coal_truth→σ→Option (Bool×σ)):Option σ:=
 (coal_book_blown_1_1 big q1 0 q2 s_ q0 q0 yv).bind fun r31=>
 some r31.2
set_option maxRecDepth 100000 in
theorem coal_book_blown_1_ok {σ:Type}{l_:Nat}{G_:σ→Asr→Prop}{A_:Asr}{wb_:World}{C0_:Nat→Prop}{s_:σ}{q0:Coal_book}{q1:Coal_truth}{q2:Int}{yv:Coal_truth→σ→Option (Bool×σ)}{b1:Nat}{A4:Option Addr}{c5:Nat}{A7:Option Addr}{c8:Nat}{m10:Option Nat}{b2:Nat}{b3:Nat}{w:World}{r:σ} (H:coal_book_blown_1 s_ q0 q1 q2 yv=some r) (hG_:(ga G_ s_ A_).ok w) (h14:(bl b3 [I q2] 3).ok w) (h13:(bl b2 (sg q1.eats_ 2++([I q1.collier_]++(sg q1.winds_ 6++sg q1.coal_ 6))) 113).ok w) (h12:(bl b1 ([I q0.CoalBook.Heap.Low,I q0.CoalBook.Heap.High]++(sgE eSpan q0.CoalBook.Eats 2++(sg q0.CoalBook.Extra 3++[SL A4 q0.CoalBook.Days.length c5,I q0.CoalBook.Collier.Low,I q0.CoalBook.Collier.High,I q0.CoalBook.Brings,SL A7 q0.CoalBook.Dips.length c8,Value.map m10]))) 84).ok w) (h6:(rd eCoalDay 3 A4 c5 q0.CoalBook.Days).ok w) (h9:(rd eCoalDip 3 A7 c8 q0.CoalBook.Dips).ok w) (h11:(mpo ekG iE m10 q0.costs_).ok w) (hd_:∀ p∈([bl b3 [I q2] 3,bl b2 (sg q1.eats_ 2++([I q1.collier_]++(sg q1.winds_ 6++sg q1.coal_ 6))) 113,bl b1 ([I q0.CoalBook.Heap.Low,I q0.CoalBook.Heap.High]++(sgE eSpan q0.CoalBook.Eats 2++(sg q0.CoalBook.Extra 3++[SL A4 q0.CoalBook.Days.length c5,I q0.CoalBook.Collier.Low,I q0.CoalBook.Collier.High,I q0.CoalBook.Brings,SL A7 q0.CoalBook.Dips.length c8,Value.map m10]))) 84,rd eCoalDay 3 A4 c5 q0.CoalBook.Days,rd eCoalDip 3 A7 c8 q0.CoalBook.Dips,mpo ekG iE m10 q0.costs_]:List Asr),∀ b,p.fp b→¬A_.fp b) (hy_:YH Tryd.prog l_ yE1 yv G_ wb_ C0_) (hl_:Link wb_ C0_ w A_.fp):Calls Tryd.prog 91 #[Value.func (.yield l_) #[] #[],P b1 0,P b2 0,P b3 0] w (fun en w_=>∃ u_,en=.returned u_∧∃ A'_:Asr,u_=TU []∧Keep A_.fp w w_∧(ga G_ r A'_).ok w_∧(∀ b_,A'_.fp b_→A_.fp b_∨w.heap.size≤b_)):=by
 unfold coal_book_blown_1 at H
 refine fn_of (n:=14) Tryd.func91 rfl rfl (lE rfl) ?_
 have S:St w A_.fp w [ga G_ s_ A_] [bl b3 [I q2] 3,bl b2 (sg q1.eats_ 2++([I q1.collier_]++(sg q1.winds_ 6++sg q1.coal_ 6))) 113,bl b1 ([I q0.CoalBook.Heap.Low,I q0.CoalBook.Heap.High]++(sgE eSpan q0.CoalBook.Eats 2++(sg q0.CoalBook.Extra 3++[SL A4 q0.CoalBook.Days.length c5,I q0.CoalBook.Collier.Low,I q0.CoalBook.Collier.High,I q0.CoalBook.Brings,SL A7 q0.CoalBook.Dips.length c8,Value.map m10]))) 84,rd eCoalDay 3 A4 c5 q0.CoalBook.Days,rd eCoalDip 3 A7 c8 q0.CoalBook.Dips,mpo ekG iE m10 q0.costs_]:=St.startX (ga G_ s_ A_) hG_ (cA h14 (cA h13 (cA h12 (cA h6 (cA h9 (cA h11 nM)))))) hd_
 refine c_seq<|reg<|p_box (rfl:_=Value.func (.yield l_) #[] #[]) rfl S fun b15 w16 S17=>wp_nil<|c_seq<|reg<|p_ldA ty84 sz84 (S17.atP (i:=2) rfl) rfl rfl ?_
 refine o_fun (rfl:_=[AG ([I q0.CoalBook.Heap.Low,I q0.CoalBook.Heap.High]++(sgE eSpan q0.CoalBook.Eats 2++(sg q0.CoalBook.Extra 3++[SL A4 q0.CoalBook.Days.length c5,I q0.CoalBook.Collier.Low,I q0.CoalBook.Collier.High,I q0.CoalBook.Brings,SL A7 q0.CoalBook.Dips.length c8,Value.map m10])))]) (rfl:_=[]) ?_
 refine p_all in53 rfl S17 fun b18 w19 S20=>?_
 refine p_st sz53 S20 (i:=0) rfl rfl (rfl:_=vF (.func 92) #[AG ([I q0.CoalBook.Heap.Low,I q0.CoalBook.Heap.High]++(sgE eSpan q0.CoalBook.Eats 2++(sg q0.CoalBook.Extra 3++[SL A4 q0.CoalBook.Days.length c5,I q0.CoalBook.Collier.Low,I q0.CoalBook.Collier.High,I q0.CoalBook.Brings,SL A7 q0.CoalBook.Dips.length c8,Value.map m10])))] #[]) rfl rfl fun w21 S22=>wp_nil<|c_seq<|reg ?_
 refine p_all in167 rfl S22 fun b23 w24 S25=>wp_nil<|c_seq<|reg ?_
 refine o_fun (rfl:_=[]) (rfl:_=[P b1 0,P b15 0,P b18 0,P b23 0]) ?_
 refine p_st sz167 S25 (i:=0) rfl rfl (rfl:_=vF (.func 93) #[] #[P b1 0,P b15 0,P b18 0,P b23 0]) rfl rfl fun w26 S27=>wp_nil<|reg<|p_ld ty167 (S27.atX (i:=0) rfl) rfl rfl<|p_ldA ty113 sz113 (S27.atP (i:=1) rfl) rfl rfl<|p_ld ty3 (S27.atP (i:=0) rfl) rfl rfl ?_
 have S28:=S27.fix (i:=2) rfl
 have S29:=S28.fix (i:=1) rfl
 have S30:=S29.fix (i:=0) rfl
 obtain ⟨r31,h32,H⟩:=bindS H
 refine p_cal (coal_book_blown_1_1_ok h32 (S30.atX (i:=0) rfl) (S30.atP (i:=0) rfl) (S30.atP (i:=1) rfl) (S30.atP (i:=2) rfl) (S30.atP (i:=5) rfl) (S30.atP (i:=6) rfl) (S30.atP (i:=7) rfl) (S30.atP (i:=8) rfl) (S30.atP (i:=6) rfl) (S30.atP (i:=7) rfl) (S30.atP (i:=8) rfl) (cA (fun b_ h1_ h2_=>((fp_mem (i:=0) rfl) b_ h1_).elim fun q_ hq_=>(S30.apart (j:=0) rfl (fun _ h_=>h_)) q_ hq_.1 b_ hq_.2 h2_) (cA (fun b_ h1_ h2_=>((fp_mem (i:=1) rfl) b_ h1_).elim fun q_ hq_=>(S30.apart (j:=0) rfl (fun _ h_=>h_)) q_ hq_.1 b_ hq_.2 h2_) (cA (fun b_ h1_ h2_=>((fp_mem (i:=2) rfl) b_ h1_).elim fun q_ hq_=>(S30.apart (j:=0) rfl (fun _ h_=>h_)) q_ hq_.1 b_ hq_.2 h2_) (cA (fun b_ h1_ h2_=>((fp_mem (i:=5) rfl) b_ h1_).elim fun q_ hq_=>(S30.apart (j:=0) rfl (fun _ h_=>h_)) q_ hq_.1 b_ hq_.2 h2_) (cA (fun b_ h1_ h2_=>((fp_mem (i:=6) rfl) b_ h1_).elim fun q_ hq_=>(S30.apart (j:=0) rfl (fun _ h_=>h_)) q_ hq_.1 b_ hq_.2 h2_) (cA (fun b_ h1_ h2_=>((fp_mem (i:=7) rfl) b_ h1_).elim fun q_ hq_=>(S30.apart (j:=0) rfl (fun _ h_=>h_)) q_ hq_.1 b_ hq_.2 h2_) (cA (fun b_ h1_ h2_=>((fp_mem (i:=8) rfl) b_ h1_).elim fun q_ hq_=>(S30.apart (j:=0) rfl (fun _ h_=>h_)) q_ hq_.1 b_ hq_.2 h2_) (cA (fun b_ h1_ h2_=>((fp_mem (i:=6) rfl) b_ h1_).elim fun q_ hq_=>(S30.apart (j:=0) rfl (fun _ h_=>h_)) q_ hq_.1 b_ hq_.2 h2_) (cA (fun b_ h1_ h2_=>((fp_mem (i:=7) rfl) b_ h1_).elim fun q_ hq_=>(S30.apart (j:=0) rfl (fun _ h_=>h_)) q_ hq_.1 b_ hq_.2 h2_) (cA (fun b_ h1_ h2_=>((fp_mem (i:=8) rfl) b_ h1_).elim fun q_ hq_=>(S30.apart (j:=0) rfl (fun _ h_=>h_)) q_ hq_.1 b_ hq_.2 h2_) nM)))))))))) hy_ (S30.link (j:=0) rfl hl_)) fu93 rfl ?_
 rintro _ w33 ⟨A35,rfl,k34,o36,f37⟩
 have S38:=S30.itCall (j:=0) rfl k34 o36 f37
 refine wp_nil ?_
 obtain rfl:=sJ H
 show bodyPostM (Fr none) 0 Tryd.prog Tryd.f91 _ .normal _ _
 refine end_of (res0 rfl) ?_
 exact ⟨_,rfl,_,rfl,S38.keep,S38.atX (i:=0) rfl,fun b_ h_=>(S38.own _ (mE (i:=0) rfl) b_ h_).symm⟩
def coal_book_blown (a0:Coal_book) (a1:Coal_truth) (a2:Int):Option Unit:=
 some ()
set_option maxRecDepth 100000 in
theorem coal_book_blown_ok {a0:Coal_book}{a1:Coal_truth}{a2:Int}{A1:Option Addr}{c2:Nat}{A4:Option Addr}{c5:Nat}{m7:Option Nat}{w:World}{r:Unit} (H:coal_book_blown a0 a1 a2=some r) (h3:(rd eCoalDay 3 A1 c2 a0.CoalBook.Days).ok w) (h6:(rd eCoalDip 3 A4 c5 a0.CoalBook.Dips).ok w) (h8:(mpo ekG iE m7 a0.costs_).ok w):Calls Tryd.prog 79 #[AG ([I a0.CoalBook.Heap.Low,I a0.CoalBook.Heap.High]++(sgE eSpan a0.CoalBook.Eats 2++(sg a0.CoalBook.Extra 3++[SL A1 a0.CoalBook.Days.length c2,I a0.CoalBook.Collier.Low,I a0.CoalBook.Collier.High,I a0.CoalBook.Brings,SL A4 a0.CoalBook.Dips.length c5,Value.map m7]))),AG (sg a1.eats_ 2++([I a1.collier_]++(sg a1.winds_ 6++sg a1.coal_ 6))),I a2] w fun en w_=>∃ u_,en=.returned u_∧∃ b_1:Nat,∃ b_2:Nat,∃ b_3:Nat,u_=vF (.func 91) #[] #[P b_1 0,P b_2 0,P b_3 0]∧Keep0 w w_∧((bl b_1 ([I a0.CoalBook.Heap.Low,I a0.CoalBook.Heap.High]++(sgE eSpan a0.CoalBook.Eats 2++(sg a0.CoalBook.Extra 3++[SL A1 a0.CoalBook.Days.length c2,I a0.CoalBook.Collier.Low,I a0.CoalBook.Collier.High,I a0.CoalBook.Brings,SL A4 a0.CoalBook.Dips.length c5,Value.map m7]))) 84).ok w_∧New w.heap.size (bl b_1 ([I a0.CoalBook.Heap.Low,I a0.CoalBook.Heap.High]++(sgE eSpan a0.CoalBook.Eats 2++(sg a0.CoalBook.Extra 3++[SL A1 a0.CoalBook.Days.length c2,I a0.CoalBook.Collier.Low,I a0.CoalBook.Collier.High,I a0.CoalBook.Brings,SL A4 a0.CoalBook.Dips.length c5,Value.map m7]))) 84))∧((bl b_2 (sg a1.eats_ 2++([I a1.collier_]++(sg a1.winds_ 6++sg a1.coal_ 6))) 113).ok w_∧New w.heap.size (bl b_2 (sg a1.eats_ 2++([I a1.collier_]++(sg a1.winds_ 6++sg a1.coal_ 6))) 113))∧((bl b_3 [I a2] 3).ok w_∧New w.heap.size (bl b_3 [I a2] 3))∧True:=by
 unfold coal_book_blown at H
 refine fn_of (n:=8) Tryd.func79 rfl rfl (lE rfl) ?_
 have S:=St.start w nF _ (cA h3 (cA h6 (cA h8 nM)))
 refine c_seq<|reg<|p_boxA rfl S fun b9 w10 S11=>p_boxA rfl S11 fun b12 w13 S14=>p_box (rfl:_=I a2) rfl S14 fun b15 w16 S17=>p_asg (rfl:_=Value.nilFunc)<|wp_nil<|c_seq<|reg ?_
 refine o_fun (rfl:_=[]) (rfl:_=[P b9 0,P b12 0,P b15 0]) ?_
 refine p_asg (rfl:_=vF (.func 91) #[] #[P b9 0,P b12 0,P b15 0])<|wp_nil ?_
 obtain rfl:=sJ H
 refine c_ret ?_; show bodyPostM (Fr none) 0 Tryd.prog Tryd.f79 _ .ret _ _
 refine ret_of (res1 rfl (rvT (rfl:_=vF (.func 91) #[] #[P b9 0,P b12 0,P b15 0]))) ?_
 exact ⟨_,rfl,b9,b12,b15,rfl,S17.keep,⟨S17.atX (i:=2) rfl,S17.newX (i:=2) rfl⟩,⟨S17.atX (i:=1) rfl,S17.newX (i:=1) rfl⟩,⟨S17.atX (i:=0) rfl,S17.newX (i:=0) rfl⟩,trivial⟩
def coal_book_truths_1_r117 {σ:Type} (yv:Coal_truth→σ→Option (Bool×σ)) (x_5:Coal_truth) (z_5:σ):Option (Bool×Nat×σ):=
 (yv x_5 z_5).bind fun r189=>
 bif !r189.1 then (some (false,1,r189.2))
 else (some (true,0,r189.2))
def coal_book_truths_1_r118 {σ:Type} (q0:Coal_book) (x_2:Int) (x_3:Int) (x_1:Int) (yv:Coal_truth→σ→Option (Bool×σ)) (x_4:Int) (z_4:σ):Option (Bool×Nat×σ):=
 (coal_book_blown q0 (Coal_truth.mk [x_2,x_3] x_4 (List.replicate 6 0) (List.replicate 6 0)) x_1).bind fun r149=>
 (coal_book_blown_1 (0,z_4) q0 (Coal_truth.mk [x_2,x_3] x_4 (List.replicate 6 0) (List.replicate 6 0)) x_1 (yvOf (coal_book_truths_1_r117 yv))).bind fun r163=>
 bif (r163.1==0) then (some (true,0,r163.2))
 else (some (false,1,r163.2))
def coal_book_truths_1_r119 {σ:Type} (q0:Coal_book) (x_2:Int) (x_1:Int) (yv:Coal_truth→σ→Option (Bool×σ)) (x_3:Int) (z_3:σ):Option (Bool×Nat×σ):=
 (coal_all q0.CoalBook.Collier).bind fun r119=>
 (coal_all_1 (0,z_3) q0.CoalBook.Collier (yvOf (coal_book_truths_1_r118 q0 x_2 x_3 x_1 yv))).bind fun r128=>
 bif (r128.1==0) then (some (true,0,r128.2))
 else (some (false,1,r128.2))
def coal_book_truths_1_r120 {σ:Type} (q0:Coal_book) (x_1:Int) (yv:Coal_truth→σ→Option (Bool×σ)) (x_2:Int) (z_2:σ):Option (Bool×Nat×σ):=
 (coal_all (agetS q0.CoalBook.Eats (1:Int))).bind fun r84=>
 (coal_all_1 (0,z_2) (agetS q0.CoalBook.Eats (1:Int)) (yvOf (coal_book_truths_1_r119 q0 x_2 x_1 yv))).bind fun r93=>
 bif (r93.1==0) then (some (true,0,r93.2))
 else (some (false,1,r93.2))
def coal_book_truths_1_r121 {σ:Type} (q0:Coal_book) (yv:Coal_truth→σ→Option (Bool×σ)) (x_1:Int) (z_1:σ):Option (Bool×Nat×σ):=
 (coal_all (agetS q0.CoalBook.Eats (0:Int))).bind fun r49=>
 (coal_all_1 (0,z_1) (agetS q0.CoalBook.Eats (0:Int)) (yvOf (coal_book_truths_1_r120 q0 x_1 yv))).bind fun r58=>
 bif (r58.1==0) then (some (true,0,r58.2))
 else (some (false,1,r58.2))
def coal_book_truths_1 {σ:Type} (s_:σ) (q0:Coal_book) (yv:Coal_truth→σ→Option (Bool×σ)):Option σ:=
 (coal_all q0.CoalBook.Heap).bind fun r14=>
 (coal_all_1 (0,s_) q0.CoalBook.Heap (yvOf (coal_book_truths_1_r121 q0 yv))).bind fun r23=>
 bif (r23.1==0) then (some r23.2)
 else (some r23.2)
end Go.Proofs.YtblfippmobpaaaaDoor
/- What the functions of the program compute, and that they do, printed by a program of mine. -/
import Derived.Test.YthimckediigcoaaDoorZGFxTallyDefs
import Derived.Test.YthimckediigcoaaDoorZWFrom
import Derived.Test.YthimckediigcoaaDoorZFxFrom
import Derived.KernelRfl
set_option linter.unusedVariables false
set_option linter.unusedSimpArgs false
namespace Go.Proofs.YthimckediigcoaaDoor
open Go Go.Fx Go.Proofs
def iE (x:Int):Value:=I x
structure Tally_pair where
 from_:Int
 to_:Int
 deriving DecidableEq,Inhabited
def ekT (p:Tally_pair):Value:=AG [I p.from_,I p.to_]
theorem keyT:KeyL Tryd.prog 71 ekT:=KeyL.comp Fr.keyPr (fun p:Tally_pair=>(p.from_,p.to_)) fun a b h=>by
 cases a; cases b; cases h; rfl
structure TallyCount where
 Who:Int
 From:Int
 To:Int
 Told:Int
 Unit:Int
 Under:Int
 Over:Int
 deriving DecidableEq,Inhabited
structure TallyBook where
 Trips:Int
 Room:Int
 Counts:List TallyCount
 deriving DecidableEq,Inhabited
structure Tally_book where
 TallyBook:TallyBook
 more_:List (Tally_pair×Int)
 deriving DecidableEq,Inhabited
def eTallyCount (x:TallyCount):List Value:=[I x.Who,I x.From,I x.To,I x.Told,I x.Unit,I x.Under,I x.Over]
theorem eTallyCount_len (x:TallyCount):(eTallyCount x).length=7:=rfl
theorem eTallyCount_one (x:TallyCount):∀ u∈eTallyCount x,u.oneCell' =true:=by simp [eTallyCount,sg,sgF,Value.oneCell']
def tally_count_least (a0:TallyCount):Option Int:=
 some (wr ((wr (a0.Told*a0.Unit)) - a0.Over))
set_option maxRecDepth 100000 in
theorem tally_count_least_ok {a0:TallyCount}{w:World}{r:Int} (H:tally_count_least a0=some r):Calls Tryd.prog 59 #[AG [I a0.Who,I a0.From,I a0.To,I a0.Told,I a0.Unit,I a0.Under,I a0.Over]] w (RetV w (I r)):=by
 unfold tally_count_least at H
 refine fn_of (n:=11) Tryd.func59 rfl rfl (lE rfl) ?_
 have S:=St.start w nF _ nM
 refine c_seq<|reg<|p_boxA rfl S fun b1 w2 S3=>p_aI rfl<|wp_nil<|c_seq<|reg<|p_fld fl62_3 rfl<|p_ld ty3 (S3.atX (i:=0) rfl) rfl rfl<|p_fld fl62_4 rfl<|p_ld ty3 (S3.atX (i:=0) rfl) rfl rfl<|p_mul rfl rfl<|p_fld fl62_6 rfl<|p_ld ty3 (S3.atX (i:=0) rfl) rfl rfl<|p_sub rfl rfl<|p_aI rfl<|wp_nil ?_
 obtain rfl:=sJ H
 exact c_ret (rT Tryd.f59 S3.keep rfl rfl)
def tally_count_most (a0:TallyCount):Option Int:=
 some (wr ((wr (a0.Told*a0.Unit))+a0.Under))
set_option maxRecDepth 100000 in
theorem tally_count_most_ok {a0:TallyCount}{w:World}{r:Int} (H:tally_count_most a0=some r):Calls Tryd.prog 61 #[AG [I a0.Who,I a0.From,I a0.To,I a0.Told,I a0.Unit,I a0.Under,I a0.Over]] w (RetV w (I r)):=by
 unfold tally_count_most at H
 refine fn_of (n:=11) Tryd.func61 rfl rfl (lE rfl) ?_
 have S:=St.start w nF _ nM
 refine c_seq<|reg<|p_boxA rfl S fun b1 w2 S3=>p_aI rfl<|wp_nil<|c_seq<|reg<|p_fld fl62_3 rfl<|p_ld ty3 (S3.atX (i:=0) rfl) rfl rfl<|p_fld fl62_4 rfl<|p_ld ty3 (S3.atX (i:=0) rfl) rfl rfl<|p_mul rfl rfl<|p_fld fl62_5 rfl<|p_ld ty3 (S3.atX (i:=0) rfl) rfl rfl<|p_add rfl rfl<|p_aI rfl<|wp_nil ?_
 obtain rfl:=sJ H
 exact c_ret (rT Tryd.f61 S3.keep rfl rfl)
def law_count (a0:Int) (a1:Int) (a2:Int) (a3:Int) (a4:Int) (a5:Int) (a6:Int):Option TallyCount:=
 some (TallyCount.mk a0 a1 a2 a3 a4 a5 a6)
set_option maxRecDepth 100000 in
theorem law_count_ok {a0:Int}{a1:Int}{a2:Int}{a3:Int}{a4:Int}{a5:Int}{a6:Int}{w:World}{r:TallyCount} (H:law_count a0 a1 a2 a3 a4 a5 a6=some r):Calls Tryd.prog 10 #[I a0,I a1,I a2,I a3,I a4,I a5,I a6] w (RetV w (AG [I r.Who,I r.From,I r.To,I r.Told,I r.Unit,I r.Under,I r.Over])):=by
 unfold law_count at H
 refine fn_of (n:=23) Tryd.func10 rfl rfl (lE rfl) ?_
 have S:=St.start w nF _ nM
 refine c_seq<|reg<|p_allA in28 S fun b1 w2 S3=>wp_nil<|c_seq<|reg<|p_mI rfl<|p_mI rfl<|p_mI rfl<|p_mI rfl<|p_mI rfl<|p_mI rfl<|p_mI rfl<|p_bld (cs:=[I a0,I a1,I a2,I a3,I a4,I a5,I a6]) st28 (rfl:_=[(0,I a0),(1,I a1),(2,I a2),(3,I a3),(4,I a4),(5,I a5),(6,I a6)]) (by kernel_rfl) ?_
 refine p_stP (pre:=[]) (old:=[I 0,I 0,I 0,I 0,I 0,I 0,I 0]) (post:=[]) (vs:=[I a0,I a1,I a2,I a3,I a4,I a5,I a6]) sz28 S3 (i:=0) rfl rfl rfl rfl (rfl:_=AG [I a0,I a1,I a2,I a3,I a4,I a5,I a6]) rfl rfl rfl rfl fun w4 S5=>wp_nil ?_
 obtain rfl:=sJ H
 refine c_ret ?_; show bodyPostM (Fr none) 0 Tryd.prog Tryd.f10 _ .ret _ _
 refine ret_of (res1 rfl (rvA rfl ty28 sz28 (S5.atX (i:=0) rfl) rfl)) ?_
 exact ⟨_,rfl,rfl,S5.keep⟩
def law_own:Option TallyBook:=
 (law_count 0 0 3 1 20 4 4).bind fun r4=>
 (law_count 1 0 1 9 1 2 0).bind fun r8=>
 (law_count 2 2 2 6 1 0 1).bind fun r12=>
 some (TallyBook.mk 4 10 [r4,r8,r12])
set_option maxRecDepth 100000 in
theorem law_own_ok {w:World}{r:TallyBook} (H:law_own=some r):Calls Tryd.prog 4 #[] w fun en w_=>∃ u_,en=.returned u_∧∃ A_1:Option Addr,∃ c_2:Nat,u_=AG [I r.Trips,I r.Room,SL A_1 r.Counts.length c_2]∧Keep0 w w_∧((gr eTallyCount 7 28 A_1 c_2 r.Counts).ok w_∧New w.heap.size (gr eTallyCount 7 28 A_1 c_2 r.Counts))∧True:=by
 unfold law_own at H
 refine fn_of (n:=6) Tryd.func4 rfl rfl (lE rfl) ?_
 have S:=St.start w nF _ nM
 refine c_seq<|reg<|p_allA in24 S fun b1 w2 S3=>wp_nil<|c_seq<|reg ?_
 obtain ⟨r4,h5,H⟩:=bindS H
 refine p_cv (law_count_ok h5) fu10 rfl S3 fun w6 S7=>?_
 obtain ⟨r8,h9,H⟩:=bindS H
 refine p_cv (law_count_ok h9) fu10 rfl S7 fun w10 S11=>?_
 obtain ⟨r12,h13,H⟩:=bindS H
 refine p_cv (law_count_ok h13) fu10 rfl S11 fun w14 S15=>p_bsl (enc:=eTallyCount) (l:=[r4,r8,r12]) (fun x=>AG (eTallyCount x)) (fun _=>rfl) sc22 in28 eTallyCount_len rfl (by decide) (by decide) zr28_3 S15 rfl fun A16 c17 w18 S19=>p_bld (cs:=[I 4,I 10,SL A16 [r4,r8,r12].length c17]) st24 (rfl:_=[(0,I 4),(1,I 10),(2,SL A16 [r4,r8,r12].length c17)]) (by kernel_rfl) ?_
 refine p_stP (pre:=[]) (old:=[I 0,I 0,SL none 0 0]) (post:=[]) (vs:=[I 4,I 10,SL A16 [r4,r8,r12].length c17]) sz24 S19 (i:=1) rfl rfl rfl rfl (rfl:_=AG [I 4,I 10,SL A16 [r4,r8,r12].length c17]) rfl rfl rfl rfl fun w21 S22=>wp_nil ?_
 obtain rfl:=sJ H
 refine c_ret ?_; show bodyPostM (Fr none) 0 Tryd.prog Tryd.f4 _ .ret _ _
 refine ret_of (res1 rfl (rvA rfl ty24 sz24 (S22.atX (i:=1) rfl) rfl)) ?_
 exact ⟨_,rfl,A16,c17,rfl,S22.keep,⟨S22.atX (i:=0) rfl,S22.newX (i:=0) rfl⟩,trivial⟩
def tally_within (a0:Int) (a1:Int) (a2:Int):Option Bool:=
 bif decide (a1≤a0) then (some (decide (a0≤a2)))
 else (some false)
set_option maxRecDepth 100000 in
theorem tally_within_ok {a0:Int}{a1:Int}{a2:Int}{w:World}{r:Bool} (H:tally_within a0 a1 a2=some r):Calls Tryd.prog 25 #[I a0,I a1,I a2] w (RetV w (B r)):=by
 unfold tally_within at H
 refine fn_of (n:=15) Tryd.func25 rfl rfl (lE rfl) ?_
 have S:=St.start w nF _ nM
 refine c_seq<|reg<|p_aB rfl<|wp_nil<|c_seq<|reg<|p_mI rfl<|p_mI rfl<|p_cmp rfl rfl rfl<|p_mB rfl ?_
 rcases bE (decide (a1≤a0)) with c1 | c1
 ·replace H:=condT c1 H
  refine eB c1 ?_
  refine gT rfl rfl (p_mI rfl ?_)
  refine gT rfl rfl (p_mI rfl ?_)
  refine gT rfl rfl (p_cmp rfl rfl rfl ?_)
  refine p_pkT rfl (rfl:_=B (decide (a0≤a2)))<|p_aB rfl<|wp_nil ?_
  obtain rfl:=sJ H
  exact c_ret (rT Tryd.f25 S.keep rfl rfl)
 ·replace H:=condF c1 H
  refine eB c1<|gF rfl rfl<|gF rfl rfl<|gF rfl rfl<|p_pkF rfl (rfl:_=B false)<|p_aB rfl<|wp_nil ?_
  obtain rfl:=sJ H
  exact c_ret (rT Tryd.f25 S.keep rfl rfl)
def tally_isTrips (a0:TallyBook) (a1:Int) (a2:Int):Option Bool:=
 (tally_within a1 0 a2).bind fun r7=>
 bif r7 then (some (decide (a2 < a0.Trips)))
 else (some false)
set_option maxRecDepth 100000 in
theorem tally_isTrips_ok {a0:TallyBook}{a1:Int}{a2:Int}{A1:Option Addr}{c2:Nat}{w:World}{r:Bool} (H:tally_isTrips a0 a1 a2=some r) (h3:(rd eTallyCount 7 A1 c2 a0.Counts).ok w):Calls Tryd.prog 23 #[AG [I a0.Trips,I a0.Room,SL A1 a0.Counts.length c2],I a1,I a2] w (RetV w (B r)):=by
 unfold tally_isTrips at H
 refine fn_of (n:=16) Tryd.func23 rfl rfl (lE rfl) ?_
 have S:=St.start w nF _ (cA h3 nM)
 refine c_seq<|reg<|p_boxA rfl S fun b4 w5 S6=>p_aB rfl<|wp_nil<|c_seq<|reg<|p_mI rfl<|p_mI rfl ?_
 obtain ⟨r7,h8,H⟩:=bindS H
 refine p_cv (tally_within_ok h8) fu25 rfl S6 fun w9 S10=>p_mB rfl ?_
 rcases bE (r7) with c11 | c11
 ·replace H:=condT c11 H
  refine eB c11 ?_
  refine gT rfl rfl (p_mI rfl ?_)
  refine gT rfl rfl (p_fld fl24_0 rfl ?_)
  refine gT rfl rfl (p_ld ty3 (S10.atX (i:=0) rfl) rfl rfl ?_)
  refine gT rfl rfl (p_cmp rfl rfl rfl ?_)
  refine p_pkT rfl (rfl:_=B (decide (a2 < a0.Trips)))<|p_aB rfl<|wp_nil ?_
  obtain rfl:=sJ H
  exact c_ret (rT Tryd.f23 S10.keep rfl rfl)
 ·replace H:=condF c11 H
  refine eB c11<|gF rfl rfl<|gF rfl rfl<|gF rfl rfl<|gF rfl rfl<|p_pkF rfl (rfl:_=B false)<|p_aB rfl<|wp_nil ?_
  obtain rfl:=sJ H
  exact c_ret (rT Tryd.f23 S10.keep rfl rfl)
def tally_isCount_j1 (a1:TallyCount) (z_1:Bool):Option Bool:=
 bif z_1 then ((tally_within a1.Under 0 30).bind fun r14=>
 bif r14 then ((tally_within a1.Over 0 30).bind fun r19=>
 bif r19 then (bif (a1.Who != 1) then (some true)
 else (some (a1.Over==0)))
 else (some false))
 else (some false))
 else (some false)
def tally_isCount (a0:TallyBook) (a1:TallyCount):Option Bool:=
 (tally_within a1.Who 0 2).bind fun r10=>
 bif r10 then ((tally_isTrips a0 a1.From a1.To).bind fun r15=>
 bif r15 then ((tally_within a1.Told 0 99).bind fun r20=>
 bif r20 then ((tally_within a1.Unit 1 20).bind fun r25=>
 tally_isCount_j1 a1 r25)
 else (tally_isCount_j1 a1 false))
 else (tally_isCount_j1 a1 false))
 else (tally_isCount_j1 a1 false)
set_option maxRecDepth 100000 in
theorem tally_isCount_ok {a0:TallyBook}{a1:TallyCount}{A1:Option Addr}{c2:Nat}{w:World}{r:Bool} (H:tally_isCount a0 a1=some r) (h3:(rd eTallyCount 7 A1 c2 a0.Counts).ok w):Calls Tryd.prog 27 #[AG [I a0.Trips,I a0.Room,SL A1 a0.Counts.length c2],AG [I a1.Who,I a1.From,I a1.To,I a1.Told,I a1.Unit,I a1.Under,I a1.Over]] w (RetV w (B r)):=by
 unfold tally_isCount at H
 refine fn_of (n:=48) Tryd.func27 rfl rfl (lE rfl) ?_
 have S:=St.start w nF _ (cA h3 nM)
 refine c_seq<|reg<|p_boxA rfl S fun b4 w5 S6=>p_boxA rfl S6 fun b7 w8 S9=>p_aB rfl<|wp_nil ?_
 refine c_join (α:=Bool) (β:=Unit) (fun z_1 y_1=>[(3,P b7 0),(5,B z_1)]) (fun z_1 y_1 w_=>tally_isCount_j1 a1 z_1=some r∧St w nF w_ [bl b7 [I a1.Who,I a1.From,I a1.To,I a1.Told,I a1.Unit,I a1.Under,I a1.Over] 28] [rd eTallyCount 7 A1 c2 a0.Counts]) ?_ ?_
 ·refine reg<|p_fld fl28_0 rfl<|p_ld ty3 (S9.atX (i:=0) rfl) rfl rfl ?_
  obtain ⟨r10,h11,H⟩:=bindS H
  refine p_cv (tally_within_ok h11) fu25 rfl S9 fun w12 S13=>p_mB rfl ?_
  rcases bE (r10) with c14 | c14
  ·replace H:=condT c14 H
   refine eB c14 ?_
   refine gT rfl rfl (p_ldA ty24 sz24 (S13.atX (i:=1) rfl) rfl rfl ?_)
   refine gT rfl rfl (p_fld fl28_1 rfl ?_)
   refine gT rfl rfl (p_ld ty3 (S13.atX (i:=0) rfl) rfl rfl ?_)
   refine gT rfl rfl (p_fld fl28_2 rfl ?_)
   refine gT rfl rfl (p_ld ty3 (S13.atX (i:=0) rfl) rfl rfl ?_)
   obtain ⟨r15,h16,H⟩:=bindS H
   refine gT rfl rfl (p_cv (tally_isTrips_ok h16 (S13.atP (i:=0) rfl)) fu23 rfl S13 fun w17 S18=>?_)
   refine p_pkT rfl (rfl:_=B r15)<|p_mB rfl ?_
   rcases bE (r15) with c19 | c19
   ·replace H:=condT c19 H
    refine eB c19 ?_
    refine gT rfl rfl (p_fld fl28_3 rfl ?_)
    refine gT rfl rfl (p_ld ty3 (S18.atX (i:=0) rfl) rfl rfl ?_)
    obtain ⟨r20,h21,H⟩:=bindS H
    refine gT rfl rfl (p_cv (tally_within_ok h21) fu25 rfl S18 fun w22 S23=>?_)
    refine p_pkT rfl (rfl:_=B r20)<|p_mB rfl ?_
    rcases bE (r20) with c24 | c24
    ·replace H:=condT c24 H
     refine eB c24 ?_
     refine gT rfl rfl (p_fld fl28_4 rfl ?_)
     refine gT rfl rfl (p_ld ty3 (S23.atX (i:=0) rfl) rfl rfl ?_)
     obtain ⟨r25,h26,H⟩:=bindS H
     refine gT rfl rfl (p_cv (tally_within_ok h26) fu25 rfl S23 fun w27 S28=>?_)
     refine p_pkT rfl (rfl:_=B r25)<|p_aB rfl<|wp_nil ?_
     have S29:=S28.pk [0] (by decide) [0] rfl rfl
     exact ⟨r25,(),_,rfl,⟨rfl,rfl,trivial⟩,H,S29⟩
    ·replace H:=condF c24 H
     refine eB c24<|gF rfl rfl<|gF rfl rfl<|gF rfl rfl<|p_pkF rfl (rfl:_=B false)<|p_aB rfl<|wp_nil ?_
     have S29:=S23.pk [0] (by decide) [0] rfl rfl
     exact ⟨false,(),_,rfl,⟨rfl,rfl,trivial⟩,H,S29⟩
   ·replace H:=condF c19 H
    refine eB c19<|gF rfl rfl<|gF rfl rfl<|gF rfl rfl<|p_pkF rfl (rfl:_=B false)<|p_mB rfl<|gF rfl rfl<|gF rfl rfl<|gF rfl rfl<|p_pkF rfl (rfl:_=B false)<|p_aB rfl<|wp_nil ?_
    have S29:=S18.pk [0] (by decide) [0] rfl rfl
    exact ⟨false,(),_,rfl,⟨rfl,rfl,trivial⟩,H,S29⟩
  ·replace H:=condF c14 H
   refine eB c14<|gF rfl rfl<|gF rfl rfl<|gF rfl rfl<|gF rfl rfl<|gF rfl rfl<|gF rfl rfl<|p_pkF rfl (rfl:_=B false)<|p_mB rfl<|gF rfl rfl<|gF rfl rfl<|gF rfl rfl<|p_pkF rfl (rfl:_=B false)<|p_mB rfl<|gF rfl rfl<|gF rfl rfl<|gF rfl rfl<|p_pkF rfl (rfl:_=B false)<|p_aB rfl<|wp_nil ?_
   have S29:=S13.pk [0] (by decide) [0] rfl rfl
   exact ⟨false,(),_,rfl,⟨rfl,rfl,trivial⟩,H,S29⟩
 ·intro z_1 y_1 e10 w11 S12; obtain ⟨H,S12⟩:=S12
  unfold tally_isCount_j1 at H
  refine c_seq<|reg<|p_mB rfl<|p_mB rfl ?_
  rcases bE (z_1) with c13 | c13
  ·replace H:=condT c13 H
   refine eB c13 ?_
   refine gT rfl rfl (p_fld fl28_5 rfl ?_)
   refine gT rfl rfl (p_ld ty3 (S12.atX (i:=0) rfl) rfl rfl ?_)
   obtain ⟨r14,h15,H⟩:=bindS H
   refine gT rfl rfl (p_cv (tally_within_ok h15) fu25 rfl S12 fun w16 S17=>?_)
   refine p_pkT rfl (rfl:_=B r14)<|p_mB rfl ?_
   rcases bE (r14) with c18 | c18
   ·replace H:=condT c18 H
    refine eB c18 ?_
    refine gT rfl rfl (p_fld fl28_6 rfl ?_)
    refine gT rfl rfl (p_ld ty3 (S17.atX (i:=0) rfl) rfl rfl ?_)
    obtain ⟨r19,h20,H⟩:=bindS H
    refine gT rfl rfl (p_cv (tally_within_ok h20) fu25 rfl S17 fun w21 S22=>?_)
    refine p_pkT rfl (rfl:_=B r19)<|p_mB rfl ?_
    rcases bE (r19) with c23 | c23
    ·replace H:=condT c23 H
     refine eB c23 ?_
     refine gT rfl rfl (p_fld fl28_0 rfl ?_)
     refine gT rfl rfl (p_ld ty3 (S22.atX (i:=0) rfl) rfl rfl ?_)
     refine gT rfl rfl (p_cmp rfl rfl rfl ?_)
     refine gT rfl rfl (p_mB rfl ?_)
     rcases bE ((a1.Who != 1)) with c24 | c24
     ·replace H:=condT c24 H
      refine eB c24<|gF rfl rfl<|gF rfl rfl<|gF rfl rfl ?_
      refine gT rfl rfl (p_pkT rfl (rfl:_=B true) ?_)
      refine p_pkT rfl (rfl:_=B true)<|p_aB rfl<|wp_nil ?_
      obtain rfl:=sJ H
      exact c_ret (rT Tryd.f27 S22.keep rfl rfl)
     ·replace H:=condF c24 H
      refine eB c24 ?_
      refine gT rfl rfl (p_fld fl28_6 rfl ?_)
      refine gT rfl rfl (p_ld ty3 (S22.atX (i:=0) rfl) rfl rfl ?_)
      refine gT rfl rfl (p_cmp rfl rfl rfl ?_)
      refine gT rfl rfl (p_pkF rfl (rfl:_=B (a1.Over==0)) ?_)
      refine p_pkT rfl (rfl:_=B (a1.Over==0))<|p_aB rfl<|wp_nil ?_
      obtain rfl:=sJ H
      exact c_ret (rT Tryd.f27 S22.keep rfl rfl)
    ·replace H:=condF c23 H
     refine eB c23<|gF rfl rfl<|gF rfl rfl<|gF rfl rfl<|gF rfl rfl ?_
     refine o_guardU rfl rfl ?_
     refine o_guardU rfl rfl ?_
     refine o_guardU rfl rfl ?_
     refine gF rfl rfl<|p_pkF rfl (rfl:_=B false)<|p_aB rfl<|wp_nil ?_
     obtain rfl:=sJ H
     exact c_ret (rT Tryd.f27 S22.keep rfl rfl)
   ·replace H:=condF c18 H
    refine eB c18<|gF rfl rfl<|gF rfl rfl<|gF rfl rfl<|p_pkF rfl (rfl:_=B false)<|p_mB rfl<|gF rfl rfl<|gF rfl rfl<|gF rfl rfl<|gF rfl rfl ?_
    refine o_guardU rfl rfl ?_
    refine o_guardU rfl rfl ?_
    refine o_guardU rfl rfl ?_
    refine gF rfl rfl<|p_pkF rfl (rfl:_=B false)<|p_aB rfl<|wp_nil ?_
    obtain rfl:=sJ H
    exact c_ret (rT Tryd.f27 S17.keep rfl rfl)
  ·replace H:=condF c13 H
   refine eB c13<|gF rfl rfl<|gF rfl rfl<|gF rfl rfl<|p_pkF rfl (rfl:_=B false)<|p_mB rfl<|gF rfl rfl<|gF rfl rfl<|gF rfl rfl<|p_pkF rfl (rfl:_=B false)<|p_mB rfl<|gF rfl rfl<|gF rfl rfl<|gF rfl rfl<|gF rfl rfl ?_
   refine o_guardU rfl rfl ?_
   refine o_guardU rfl rfl ?_
   refine o_guardU rfl rfl ?_
   refine gF rfl rfl<|p_pkF rfl (rfl:_=B false)<|p_aB rfl<|wp_nil ?_
   obtain rfl:=sJ H
   exact c_ret (rT Tryd.f27 S12.keep rfl rfl)
def tally_Check_l2 (a0:TallyBook) (rec_z_2:(Bool×Int)→Option Int) (z_2:Bool×Int):Option Int:=
 bif decide (z_2.2 < (a0.Counts.length:Int)) then ((getI a0.Counts z_2.2).bind fun r15=>
 bif z_2.1 then ((tally_isCount a0 r15).bind fun r23=>
 rec_z_2 (r23,wr (z_2.2+1)))
 else (rec_z_2 (false,wr (z_2.2+1))))
 else (bif !z_2.1 then (some 50)
 else (some 0))
def tally_Check_j3 (a0:TallyBook) (z_1:Bool):Option Int:=
 loopF (tally_Check_l2 a0) big (z_1,0)
def tally_Check (a0:TallyBook):Option Int:=
 (tally_within a0.Trips 1 8).bind fun r7=>
 bif r7 then ((tally_within a0.Room 0 60).bind fun r12=>
 bif r12 then (tally_Check_j3 a0 (decide ((a0.Counts.length:Int)≤8)))
 else (tally_Check_j3 a0 false))
 else (tally_Check_j3 a0 false)
set_option maxRecDepth 100000 in
theorem tally_Check_ok {a0:TallyBook}{A1:Option Addr}{c2:Nat}{w:World}{r:Int} (H:tally_Check a0=some r) (h3:(rd eTallyCount 7 A1 c2 a0.Counts).ok w):Calls Tryd.prog 14 #[AG [I a0.Trips,I a0.Room,SL A1 a0.Counts.length c2]] w (RetV w (I r)):=by
 unfold tally_Check at H
 refine fn_of (n:=36) Tryd.func14 rfl rfl (lE rfl) ?_
 have S:=St.start w nF _ (cA h3 nM)
 refine c_seq<|reg<|p_boxA rfl S fun b4 w5 S6=>p_aI rfl<|wp_nil ?_
 refine c_join (α:=Bool) (β:=Unit) (fun z_1 y_1=>[(1,P b4 0),(3,B z_1)]) (fun z_1 y_1 w_=>tally_Check_j3 a0 z_1=some r∧St w nF w_ [bl b4 [I a0.Trips,I a0.Room,SL A1 a0.Counts.length c2] 24] [rd eTallyCount 7 A1 c2 a0.Counts]) ?_ ?_
 ·refine reg<|p_fld fl24_0 rfl<|p_ld ty3 (S6.atX (i:=0) rfl) rfl rfl ?_
  obtain ⟨r7,h8,H⟩:=bindS H
  refine p_cv (tally_within_ok h8) fu25 rfl S6 fun w9 S10=>p_mB rfl ?_
  rcases bE (r7) with c11 | c11
  ·replace H:=condT c11 H
   refine eB c11 ?_
   refine gT rfl rfl (p_fld fl24_1 rfl ?_)
   refine gT rfl rfl (p_ld ty3 (S10.atX (i:=0) rfl) rfl rfl ?_)
   obtain ⟨r12,h13,H⟩:=bindS H
   refine gT rfl rfl (p_cv (tally_within_ok h13) fu25 rfl S10 fun w14 S15=>?_)
   refine p_pkT rfl (rfl:_=B r12)<|p_mB rfl ?_
   rcases bE (r12) with c16 | c16
   ·replace H:=condT c16 H
    refine eB c16 ?_
    refine gT rfl rfl (p_fld fl24_2 rfl ?_)
    refine gT rfl rfl (p_ld ty22 (S15.atX (i:=0) rfl) rfl rfl ?_)
    refine gT rfl rfl (p_len rfl sc22 ?_)
    refine gT rfl rfl (p_cmp rfl rfl rfl ?_)
    exact p_pkT rfl (rfl:_=B (decide ((a0.Counts.length:Int)≤8)))<|p_aB rfl<|wp_nil ⟨decide ((a0.Counts.length:Int)≤8),(),_,rfl,⟨rfl,rfl,trivial⟩,H,S15⟩
   ·replace H:=condF c16 H
    refine eB c16<|gF rfl rfl<|gF rfl rfl<|gF rfl rfl<|gF rfl rfl<|p_pkF rfl (rfl:_=B false)<|p_aB rfl<|wp_nil ?_
    exact ⟨false,(),_,rfl,⟨rfl,rfl,trivial⟩,H,S15⟩
  ·replace H:=condF c11 H
   refine eB c11<|gF rfl rfl<|gF rfl rfl<|gF rfl rfl<|p_pkF rfl (rfl:_=B false)<|p_mB rfl<|gF rfl rfl<|gF rfl rfl<|gF rfl rfl<|gF rfl rfl<|p_pkF rfl (rfl:_=B false)<|p_aB rfl<|wp_nil ?_
   exact ⟨false,(),_,rfl,⟨rfl,rfl,trivial⟩,H,S10⟩
 ·intro z_1 y_1 e7 w8 S9; obtain ⟨H,S9⟩:=S9
  unfold tally_Check_j3 at H
  refine c_seq<|c_seq<|reg<|p_fld fl24_2 rfl<|p_ld ty22 (S9.atX (i:=0) rfl) rfl rfl<|p_len rfl sc22<|p_mI rfl<|wp_nil<|c_block ?_
  refine c_lop (α:=Bool×Int) (β:=Unit) (tally_Check_l2 a0) (fun z_2 y_2=>[(1,P b4 0),(3,B z_2.1),(21,SL A1 a0.Counts.length c2),(22,I (a0.Counts.length:Int)),(23,I z_2.2)]) (fun z_2 y_2 w_=>St w nF w_ [bl b4 [I a0.Trips,I a0.Room,SL A1 a0.Counts.length c2] 24] [rd eTallyCount 7 A1 c2 a0.Counts]) (z_1,0) () H ⟨rfl,rfl,rfl,rfl,rfl,trivial⟩ S9 ?_
  intro m10 z_2 y_2 e11 w12 H S13
  unfold tally_Check_l2 at H
  refine c_seq<|reg<|p_cmp rfl rfl rfl<|wp_nil<|c_seq ?_
  refine c_cond rfl (fun c14=>?_) (fun c14=>?_)
  ·replace H:=condT c14 H
   refine c_skip<|c_seq<|c_block<|c_seq<|reg ?_
   obtain ⟨r15,h16,H⟩:=bindS H
   refine p_ixE sc22 h16 (S13.atP (i:=0) rfl).1 rfl rfl rfl<|p_ldEA ty28 sz28 rfl h16 (S13.atP (i:=0) rfl).1 rfl<|p_allA in28 S13 fun b17 w18 S19=>?_
   refine p_stP (pre:=[]) (old:=[I 0,I 0,I 0,I 0,I 0,I 0,I 0]) (post:=[]) (vs:=[I r15.Who,I r15.From,I r15.To,I r15.Told,I r15.Unit,I r15.Under,I r15.Over]) sz28 S19 (i:=0) rfl rfl rfl rfl (rfl:_=AG [I r15.Who,I r15.From,I r15.To,I r15.Told,I r15.Unit,I r15.Under,I r15.Over]) rfl rfl rfl rfl fun w20 S21=>wp_nil<|reg<|p_mB rfl<|p_mB rfl ?_
   rcases bE (z_2.1) with c22 | c22
   ·replace H:=condT c22 H
    refine eB c22 ?_
    refine gT rfl rfl (p_ldA ty24 sz24 (S21.atX (i:=1) rfl) rfl rfl ?_)
    refine gT rfl rfl (p_ldA ty28 sz28 (S21.atX (i:=0) rfl) rfl rfl ?_)
    obtain ⟨r23,h24,H⟩:=bindS H
    refine gT rfl rfl (p_cv (tally_isCount_ok h24 (S21.atP (i:=0) rfl)) fu27 rfl S21 fun w25 S26=>?_)
    refine p_pkT rfl (rfl:_=B r23)<|p_aB rfl<|wp_nil<|reg<|p_add rfl rfl<|p_mI rfl<|wp_nil ?_
    have S27:=S26.pk [1] (by decide) [0] rfl rfl
    exact ⟨(r23,wr (z_2.2+1)),(),_,rfl,⟨rfl,rfl,rfl,rfl,rfl,trivial⟩,H,S27⟩
   ·replace H:=condF c22 H
    refine eB c22<|gF rfl rfl<|gF rfl rfl<|gF rfl rfl<|p_pkF rfl (rfl:_=B false)<|p_aB rfl<|wp_nil<|reg<|p_add rfl rfl<|p_mI rfl<|wp_nil ?_
    have S28:=S21.pk [1] (by decide) [0] rfl rfl
    exact ⟨(false,wr (z_2.2+1)),(),_,rfl,⟨rfl,rfl,rfl,rfl,rfl,trivial⟩,H,S28⟩
  ·replace H:=condF c14 H
   refine c_exit<|c_seq<|c_seq<|reg<|p_mB rfl<|p_not rfl<|wp_nil ?_
   refine c_cond rfl (fun c29=>?_) (fun c29=>?_)
   ·replace H:=condT c29 H
    refine c_seq<|reg<|p_aI rfl<|wp_nil ?_
    obtain rfl:=sJ H
    exact c_ret (rT Tryd.f14 S13.keep rfl rfl)
   ·replace H:=condF c29 H
    refine c_skip<|c_seq<|reg<|p_aI rfl<|wp_nil ?_
    obtain rfl:=sJ H
    exact c_ret (rT Tryd.f14 S13.keep rfl rfl)
def tally_least_int_l1 (a1:List Int) (rec_z_1:(Int×Int)→Option Int) (z_1:Int×Int):Option Int:=
 bif decide (z_1.2 < (a1.length:Int)) then ((getI a1 z_1.2).bind fun r9=>
 rec_z_1 ((if r9 < z_1.1 then r9 else z_1.1),wr (z_1.2+1)))
 else (some z_1.1)
def tally_least_int (a0:Int) (a1:List Int):Option Int:=
 loopF (tally_least_int_l1 a1) big (a0,0)
set_option maxRecDepth 100000 in
theorem tally_least_int_ok {a0:Int}{a1:List Int}{A1:Option Addr}{c2:Nat}{w:World}{r:Int} (H:tally_least_int a0 a1=some r) (h3:(rd intE 1 A1 c2 a1).ok w):Calls Tryd.prog 40 #[I a0,SL A1 a1.length c2] w (RetV w (I r)):=by
 unfold tally_least_int at H
 refine fn_of (n:=18) Tryd.func40 rfl rfl (lE rfl) ?_
 have S:=St.start w nF _ (cA h3 nM)
 refine c_seq<|reg<|p_aI rfl<|wp_nil<|c_seq<|c_seq<|reg<|p_mS rfl<|p_len rfl sc40<|p_mI rfl<|wp_nil<|c_block ?_
 refine c_lop (α:=Int×Int) (β:=Unit) (tally_least_int_l1 a1) (fun z_1 y_1=>[(0,I z_1.1),(7,SL A1 a1.length c2),(8,I (a1.length:Int)),(9,I z_1.2)]) (fun z_1 y_1 w_=>St w nF w_ [] [rd intE 1 A1 c2 a1]) (a0,0) () H ⟨rfl,rfl,rfl,rfl,trivial⟩ S ?_
 intro m4 z_1 y_1 e5 w6 H S7
 unfold tally_least_int_l1 at H
 refine c_seq<|reg<|p_cmp rfl rfl rfl<|wp_nil<|c_seq ?_
 refine c_cond rfl (fun c8=>?_) (fun c8=>?_)
 ·replace H:=condT c8 H
  refine c_skip<|c_seq<|c_block<|c_seq<|reg ?_
  obtain ⟨r9,h10,H⟩:=bindS H
  refine p_ixE sc40 h10 (S7.atP (i:=0) rfl).1 rfl rfl rfl<|p_ldE ty3 h10 (S7.atP (i:=0) rfl).1 rfl rfl<|p_aI rfl<|wp_nil<|reg<|p_mI rfl<|p_mI rfl<|p_min rfl rfl<|p_aI rfl<|wp_nil<|reg<|p_add rfl rfl<|p_mI rfl<|wp_nil ?_
  exact ⟨((if r9 < z_1.1 then r9 else z_1.1),wr (z_1.2+1)),(),_,rfl,⟨rfl,rfl,rfl,rfl,trivial⟩,H,S7⟩
 ·replace H:=condF c8 H
  refine c_exit<|c_seq<|reg<|p_mI rfl<|p_aI rfl<|wp_nil ?_
  obtain rfl:=sJ H
  exact c_ret (rT Tryd.f40 S7.keep rfl rfl)
def tally_book_note_j6 (a0:Tally_book) (a1:Tally_pair) (z_2:Int):Option (List (Tally_pair×Int)):=
 some (putL a0.more_ a1 z_2)
def tally_book_note_j7 (a2:Int) (a0:Tally_book) (a1:Tally_pair) (z_1:Int×Bool):Option (List (Tally_pair×Int)):=
 bif z_1.2 then ((tally_least_int a2 ([z_1.1]:List Int)).bind fun r20=>
 tally_book_note_j6 a0 a1 r20)
 else (tally_book_note_j6 a0 a1 a2)
def tally_book_note (a0:Tally_book) (a1:Tally_pair) (a2:Int):Option (List (Tally_pair×Int)):=
 optC (lookL a0.more_ a1) (fun v11=>tally_book_note_j7 a2 a0 a1 (v11,true)) (tally_book_note_j7 a2 a0 a1 (0,false))
set_option maxRecDepth 100000 in
theorem tally_book_note_ok {a0:Tally_book}{a1:Tally_pair}{a2:Int}{A1:Option Addr}{c2:Nat}{m3:Nat}{w:World}{r:(List (Tally_pair×Int))} (H:tally_book_note a0 a1 a2=some r) (h4:(mp ekT iE m3 a0.more_).ok w):Calls Tryd.prog 32 #[AG [I a0.TallyBook.Trips,I a0.TallyBook.Room,SL A1 a0.TallyBook.Counts.length c2,Value.map (some m3)],AG [I a1.from_,I a1.to_],I a2] w fun en w_=>∃ u_,en=.returned u_∧u_=TU []∧Keep (mp ekT iE m3 a0.more_).fp w w_∧(mp ekT iE m3 r).ok w_∧True:=by
 unfold tally_book_note at H
 refine fn_of (n:=24) Tryd.func32 rfl rfl (lE rfl) ?_
 have S:St w (mp ekT iE m3 a0.more_).fp w [mp ekT iE m3 a0.more_] []:=St.startX _ h4 nM nM
 refine c_seq<|reg<|p_boxA rfl S fun b5 w6 S7=>p_boxA rfl S7 fun b8 w9 S10=>wp_nil ?_
 refine c_join (α:=Int) (β:=Unit) (fun z_2 y_2=>[(2,I z_2),(3,P b5 0),(4,P b8 0)]) (fun z_2 y_2 w_=>tally_book_note_j6 a0 a1 z_2=some r∧St w (mp ekT iE m3 a0.more_).fp w_ [bl b8 [I a1.from_,I a1.to_] 71,bl b5 [I a0.TallyBook.Trips,I a0.TallyBook.Room,SL A1 a0.TallyBook.Counts.length c2,Value.map (some m3)] 51,mp ekT iE m3 a0.more_] []) ?_ ?_
 ·refine c_join (α:=Int×Bool) (β:=Unit) (fun z_1 y_1=>[(2,I a2),(3,P b5 0),(4,P b8 0),(6,I z_1.1),(7,B z_1.2)]) (fun z_1 y_1 w_=>tally_book_note_j7 a2 a0 a1 z_1=some r∧St w (mp ekT iE m3 a0.more_).fp w_ [bl b8 [I a1.from_,I a1.to_] 71,bl b5 [I a0.TallyBook.Trips,I a0.TallyBook.Room,SL A1 a0.TallyBook.Counts.length c2,Value.map (some m3)] 51,mp ekT iE m3 a0.more_] []) ?_ ?_
  ·refine reg<|p_fld fl51_1 rfl<|p_ld ty49 (S10.atX (i:=1) rfl) rfl rfl<|p_ldA ty71 sz71 (S10.atX (i:=0) rfl) rfl rfl ?_
   refine p_lookO (a:=a1) mt49 keyT in3 (mpo_some (S10.atX (i:=2) rfl)) rfl rfl (fun v11 c12=>?_) (fun c12=>?_)
   ·replace H:=optS c12 H
    refine p_mT rfl<|p_ext rfl rfl<|p_ext rfl rfl<|p_aI rfl<|p_aB rfl<|wp_nil ?_
    exact ⟨(v11,true),(),_,rfl,⟨rfl,rfl,rfl,rfl,rfl,trivial⟩,H,S10⟩
   ·replace H:=optN c12 H
    refine p_mT rfl<|p_ext rfl rfl<|p_ext rfl rfl<|p_aI rfl<|p_aB rfl<|wp_nil ?_
    exact ⟨(0,false),(),_,rfl,⟨rfl,rfl,rfl,rfl,rfl,trivial⟩,H,S10⟩
  ·intro z_1 y_1 e11 w12 S13; obtain ⟨H,S13⟩:=S13
   unfold tally_book_note_j7 at H
   refine c_seq<|reg<|p_mB rfl<|wp_nil ?_
   refine c_cond rfl (fun c14=>?_) (fun c14=>?_)
   ·replace H:=condT c14 H
    refine reg<|p_mI rfl<|p_mI rfl<|p_bsl (enc:=intE) (l:=([z_1.1]:List Int)) I (fun _=>rfl) sc40 in3 intE_len rfl (by decide) (by decide) zr3_1 S13 rfl fun A15 c16 w17 S18=>?_
    obtain ⟨r20,h21,H⟩:=bindS H
    refine p_cv (tally_least_int_ok h21 (gr_rd intE_len (S18.atX (i:=0) rfl))) fu40 rfl S18 fun w22 S23=>p_aI rfl<|wp_nil ?_
    have S24:=S23.pk [1,2,3] (by decide) [] rfl rfl
    exact ⟨r20,(),_,rfl,⟨rfl,rfl,rfl,trivial⟩,H,S24⟩
   ·replace H:=condF c14 H
    refine c_skip ?_
    exact ⟨a2,(),_,rfl,⟨rfl,rfl,rfl,trivial⟩,H,S13⟩
 ·intro z_2 y_2 e11 w12 S13; obtain ⟨H,S13⟩:=S13
  unfold tally_book_note_j6 at H
  refine reg<|p_fld fl51_1 rfl<|p_ld ty49 (S13.atX (i:=1) rfl) rfl rfl<|p_ldA ty71 sz71 (S13.atX (i:=0) rfl) rfl rfl<|p_mI rfl ?_
  refine o_mup (a:=a1) (v:=z_2) rfl rfl rfl mt49 keyT S13 (i:=2) rfl fun w14 S15=>?_
  refine wp_nil ?_
  obtain rfl:=sJ H
  show bodyPostM (Fr none) 0 Tryd.prog Tryd.f32 _ .normal _ _
  refine end_of (res0 rfl) ?_
  exact ⟨_,rfl,rfl,S15.keep,(S15.atX (i:=2) rfl),trivial⟩
structure Tally_leave where
 out_:TallyCount→Int→Option Bool
def tally_opened_l4 (a0:TallyBook) (a1:Tally_leave) (rec_z_2:(Int×(List (Tally_pair×Int)))→Option Tally_book) (z_2:Int×(List (Tally_pair×Int))):Option Tally_book:=
 bif decide (z_2.1 < (a0.Counts.length:Int)) then ((getI a0.Counts z_2.1).bind fun r53=>
 (a1.out_ r53 z_2.1).bind fun r60=>
 bif r60 then (rec_z_2 (wr (z_2.1+1),z_2.2))
 else ((tally_count_most r53).bind fun r71=>
 (tally_book_note (Tally_book.mk a0 z_2.2) (Tally_pair.mk r53.From (wr (r53.To+1))) r71).bind fun r76=>
 (tally_count_least r53).bind fun r82=>
 (tally_book_note (Tally_book.mk a0 r76) (Tally_pair.mk (wr (r53.To+1)) r53.From) (wr (-r82))).bind fun r87=>
 rec_z_2 (wr (z_2.1+1),r87)))
 else (some (Tally_book.mk a0 z_2.2))
def tally_opened_l5 (a0:TallyBook) (a1:Tally_leave) (rec_z_1:(Int×(List (Tally_pair×Int)))→Option Tally_book) (z_1:Int×(List (Tally_pair×Int))):Option Tally_book:=
 bif decide (z_1.1 < a0.Trips) then ((tally_book_note (Tally_book.mk a0 z_1.2) (Tally_pair.mk z_1.1 (wr (z_1.1+1))) a0.Room).bind fun r35=>
 (tally_book_note (Tally_book.mk a0 r35) (Tally_pair.mk (wr (z_1.1+1)) z_1.1) 0).bind fun r41=>
 rec_z_1 (wr (z_1.1+1),r41))
 else (loopF (tally_opened_l4 a0 a1) big (0,z_1.2))
def tally_opened (a0:TallyBook) (a1:Tally_leave):Option Tally_book:=
 loopF (tally_opened_l5 a0 a1) big (0,([]:List (Tally_pair×Int)))
set_option maxRecDepth 100000 in
theorem tally_opened_ok {a0:TallyBook}{a1:Tally_leave}{A1:Option Addr}{c2:Nat}{f4:Nat}{cp5:List Value}{w:World}{r:Tally_book} (H:tally_opened a0 a1=some r) (h3:(rd eTallyCount 7 A1 c2 a0.Counts).ok w) (hF6:funOf Tryd.prog f4=true) (hw7:∀ (y8:TallyCount) (y9:Int) (w11:World) (y10:Bool),Keep0 w w11→a1.out_ y8 y9=some y10→Calls Tryd.prog f4 (List.toArray ([AG [I y8.Who,I y8.From,I y8.To,I y8.Told,I y8.Unit,I y8.Under,I y8.Over],I y9]++cp5)) w11 (RetV w11 (B y10))) (hg12:(gW0).ok w):Calls Tryd.prog 19 #[AG [I a0.Trips,I a0.Room,SL A1 a0.Counts.length c2],AG [vF (.func f4) #[] cp5.toArray]] w fun en w_=>∃ u_,en=.returned u_∧∃ m_1:Nat,u_=AG [I r.TallyBook.Trips,I r.TallyBook.Room,SL A1 a0.Counts.length c2,Value.map (some m_1)]∧Keep0 w w_∧((mp ekT iE m_1 r.more_).ok w_∧New w.heap.size (mp ekT iE m_1 r.more_))∧True:=by
 unfold tally_opened at H
 refine fn_of (n:=74) Tryd.func19 rfl rfl (lE rfl) ?_
 have S:=St.start w nF _ (cA h3 (cA hg12 nM))
 refine c_seq<|reg<|p_boxA rfl S fun b13 w14 S15=>p_boxA rfl S15 fun b16 w17 S18=>p_allA in51 S18 fun b19 w20 S21=>wp_nil<|c_seq<|reg<|p_ldA ty24 sz24 (S21.atX (i:=2) rfl) rfl rfl ?_
 refine o_mkmap S21 ekT iE fun m22 w23 _ S24=>?_
 refine p_bld (cs:=[I a0.Trips,I a0.Room,SL A1 a0.Counts.length c2,Value.map (some m22)]) st51 (rfl:_=[(0,AG [I a0.Trips,I a0.Room,SL A1 a0.Counts.length c2]),(1,Value.map (some m22))]) (by kernel_rfl)<|p_allA in51 S24 fun b25 w26 S27=>?_
 refine p_stP (pre:=[]) (old:=[I 0,I 0,SL none 0 0,Value.map none]) (post:=[]) (vs:=[I a0.Trips,I a0.Room,SL A1 a0.Counts.length c2,Value.map (some m22)]) sz51 S27 (i:=0) rfl rfl rfl rfl (rfl:_=AG [I a0.Trips,I a0.Room,SL A1 a0.Counts.length c2,Value.map (some m22)]) rfl rfl rfl rfl fun w28 S29=>wp_nil<|c_seq<|c_seq<|reg<|p_fld fl24_0 rfl<|p_ld ty3 (S29.atX (i:=4) rfl) rfl rfl<|p_mI rfl ?_
 refine wp_nil<|c_block ?_
 refine c_lop (α:=Int×(List (Tally_pair×Int))) (β:=Unit) (tally_opened_l5 a0 a1) (fun z_1 y_1=>[(2,P b13 0),(3,P b16 0),(4,P b19 0),(5,P b25 0),(14,I a0.Trips),(15,I z_1.1)]) (fun z_1 y_1 w_=>St w nF w_ [bl b25 [I a0.Trips,I a0.Room,SL A1 a0.Counts.length c2,Value.map (some m22)] 51,mp ekT iE m22 z_1.2,bl b19 [I 0,I 0,SL none 0 0,Value.map none] 51,bl b16 [vF (.func f4) #[] cp5.toArray] 55,bl b13 [I a0.Trips,I a0.Room,SL A1 a0.Counts.length c2] 24] [rd eTallyCount 7 A1 c2 a0.Counts,gW0]) (0,([]:List (Tally_pair×Int))) () H ⟨rfl,rfl,rfl,rfl,rfl,rfl,trivial⟩ S29 ?_
 intro m30 z_1 y_1 e31 w32 H S33
 unfold tally_opened_l5 at H
 refine c_seq<|reg<|p_cmp rfl rfl rfl<|wp_nil<|c_seq ?_
 refine c_cond rfl (fun c34=>?_) (fun c34=>?_)
 ·replace H:=condT c34 H
  refine c_skip<|c_seq<|c_block<|c_seq<|reg<|p_mI rfl<|p_aI rfl<|wp_nil<|c_seq<|reg<|p_ldA ty51 sz51 (S33.atX (i:=0) rfl) rfl rfl<|p_mI rfl<|p_mI rfl<|p_add rfl rfl<|p_bld (cs:=[I z_1.1,I (wr (z_1.1+1))]) st71 (rfl:_=[(0,I z_1.1),(1,I (wr (z_1.1+1)))]) (by kernel_rfl)<|p_fld fl24_1 rfl<|p_ld ty3 (S33.atX (i:=4) rfl) rfl rfl ?_
  obtain ⟨r35,h36,H⟩:=bindS H
  refine p_cal (tally_book_note_ok h36 (S33.atX (i:=1) rfl)) fu32 rfl ?_
  rintro _ w37 ⟨rfl,k38,o39,_⟩
  have S40:=S33.turn (i:=1) rfl o39 (fun _ h_=>.inl h_) k38.os k38.tape k38.output k38.size k38.block
  refine wp_nil<|reg<|p_ldA ty51 sz51 (S40.atX (i:=0) rfl) rfl rfl<|p_mI rfl<|p_add rfl rfl<|p_mI rfl<|p_bld (cs:=[I (wr (z_1.1+1)),I z_1.1]) st71 (rfl:_=[(0,I (wr (z_1.1+1))),(1,I z_1.1)]) (by kernel_rfl) ?_
  obtain ⟨r41,h42,H⟩:=bindS H
  refine p_cal (tally_book_note_ok h42 (S40.atX (i:=1) rfl)) fu32 rfl ?_
  rintro _ w43 ⟨rfl,k44,o45,_⟩
  have S46:=S40.turn (i:=1) rfl o45 (fun _ h_=>.inl h_) k44.os k44.tape k44.output k44.size k44.block
  exact wp_nil<|reg<|p_add rfl rfl<|p_mI rfl<|wp_nil ⟨(wr (z_1.1+1),r41),(),_,rfl,⟨rfl,rfl,rfl,rfl,rfl,rfl,trivial⟩,H,S46⟩
 ·replace H:=condF c34 H
  refine c_exit<|c_seq<|c_seq<|reg<|p_fld fl24_2 rfl<|p_ld ty22 (S33.atX (i:=4) rfl) rfl rfl<|p_len rfl sc22<|p_mI rfl<|wp_nil<|c_block ?_
  have S47:=S33.pk [0,1,2,3] (by decide) [0,1] rfl rfl
  refine c_lop (α:=Int×(List (Tally_pair×Int))) (β:=Unit) (tally_opened_l4 a0 a1) (fun z_2 y_2=>[(3,P b16 0),(4,P b19 0),(5,P b25 0),(34,SL A1 a0.Counts.length c2),(35,I (a0.Counts.length:Int)),(36,I z_2.1)]) (fun z_2 y_2 w_=>St w nF w_ [bl b25 [I a0.Trips,I a0.Room,SL A1 a0.Counts.length c2,Value.map (some m22)] 51,mp ekT iE m22 z_2.2,bl b19 [I 0,I 0,SL none 0 0,Value.map none] 51,bl b16 [vF (.func f4) #[] cp5.toArray] 55] [rd eTallyCount 7 A1 c2 a0.Counts,gW0]) (0,z_1.2) () H ⟨rfl,rfl,rfl,rfl,rfl,rfl,trivial⟩ S47 ?_
  intro m48 z_2 y_2 e49 w50 H S51
  unfold tally_opened_l4 at H
  refine c_seq<|reg<|p_cmp rfl rfl rfl<|wp_nil<|c_seq ?_
  refine c_cond rfl (fun c52=>?_) (fun c52=>?_)
  ·replace H:=condT c52 H
   refine c_skip<|c_seq<|c_block<|c_seq<|reg<|p_mI rfl ?_
   obtain ⟨r53,h54,H⟩:=bindS H
   refine p_ixE sc22 h54 (S51.atP (i:=0) rfl).1 rfl rfl rfl<|p_ldEA ty28 sz28 rfl h54 (S51.atP (i:=0) rfl).1 rfl<|p_allA in28 S51 fun b55 w56 S57=>p_aI rfl ?_
   refine p_stP (pre:=[]) (old:=[I 0,I 0,I 0,I 0,I 0,I 0,I 0]) (post:=[]) (vs:=[I r53.Who,I r53.From,I r53.To,I r53.Told,I r53.Unit,I r53.Under,I r53.Over]) sz28 S57 (i:=0) rfl rfl rfl rfl (rfl:_=AG [I r53.Who,I r53.From,I r53.To,I r53.Told,I r53.Unit,I r53.Under,I r53.Over]) rfl rfl rfl rfl fun w58 S59=>wp_nil<|c_seq<|c_seq<|reg<|p_fld fl55_0 rfl ?_
   refine p_ld ty53 (S59.atX (i:=4) rfl) rfl rfl<|p_ldA ty28 sz28 (S59.atX (i:=0) rfl) rfl rfl<|p_mI rfl ?_
   obtain ⟨r60,h61,H⟩:=bindS H
   refine p_cv (hw7 _ _ _ _ S59.keep h61) hF6 rfl S59 ?_
   intro w62 S63
   refine wp_nil ?_
   refine c_cond rfl (fun c64=>?_) (fun c64=>?_)
   ·replace H:=condT c64 H
    refine c_exit<|reg<|p_add rfl rfl<|p_mI rfl<|wp_nil ?_
    have S65:=S63.pk [1,2,3,4] (by decide) [0,1] rfl rfl
    exact ⟨(wr (z_2.1+1),z_2.2),(),_,rfl,⟨rfl,rfl,rfl,rfl,rfl,rfl,trivial⟩,H,S65⟩
   ·replace H:=condF c64 H
    refine c_skip<|c_seq<|reg<|p_ldA ty28 sz28 (S63.atX (i:=0) rfl) rfl rfl<|p_allA in62 S63 fun b66 w67 S68=>?_
    refine p_stP (pre:=[]) (old:=[I 0,I 0,I 0,I 0,I 0,I 0,I 0]) (post:=[]) (vs:=[I r53.Who,I r53.From,I r53.To,I r53.Told,I r53.Unit,I r53.Under,I r53.Over]) sz62 S68 (i:=0) rfl rfl rfl rfl (rfl:_=AG [I r53.Who,I r53.From,I r53.To,I r53.Told,I r53.Unit,I r53.Under,I r53.Over]) rfl rfl rfl rfl fun w69 S70=>wp_nil<|c_seq ?_
    obtain ⟨r71,h72,H⟩:=bindS H
    refine reg_q mixed 11 (by kernel_rfl) ?_
    refine dS (fun _ k_=>p_ldA ty51 sz51 (aS (S70.atX (i:=2) rfl) k_) rfl rfl dn)<|dS (fun _ k_=>p_fld fl62_1 rfl dn)<|dS (fun _ k_=>p_ld ty3 (aS (S70.atX (i:=0) rfl) k_) rfl rfl dn)<|dS (fun _ k_=>p_fld fl62_2 rfl dn)<|dS (fun _ k_=>p_ld ty3 (aS (S70.atX (i:=0) rfl) k_) rfl rfl dn)<|dS (fun _ k_=>p_add rfl rfl dn) ?_
    refine dS (fun _ k_=>p_bld (cs:=[I r53.From,I (wr (r53.To+1))]) st71 (rfl:_=[(0,I r53.From),(1,I (wr (r53.To+1)))]) (by kernel_rfl) dn)<|dS (fun _ k_=>p_ixc ar73 rfl rfl (by decide) (by decide) dn)<|dS (fun _ k_=>p_ld ty72 (aS (S70.atP (i:=1) rfl) k_) rfl rfl dn)<|dS (fun _ k_=>p_ldA ty62 sz62 (aS (S70.atX (i:=0) rfl) k_) rfl rfl dn) ?_
    refine dS (fun _ k_=>p_cvD (tally_count_most_ok h72) fu61 rfl) ?_
    intro w73 k74; have S75:=S70.call k74
    obtain ⟨r76,h77,H⟩:=bindS H
    refine p_cal (tally_book_note_ok h77 (S75.atX (i:=3) rfl)) fu32 rfl ?_
    rintro _ w78 ⟨rfl,k79,o80,_⟩
    have S81:=S75.turn (i:=3) rfl o80 (fun _ h_=>.inl h_) k79.os k79.tape k79.output k79.size k79.block
    refine wp_nil ?_
    obtain ⟨r82,h83,H⟩:=bindS H
    refine reg_q mixed 12 (by kernel_rfl) ?_
    refine dS (fun _ k_=>p_ldA ty51 sz51 (aS (S81.atX (i:=2) rfl) k_) rfl rfl dn)<|dS (fun _ k_=>p_fld fl62_2 rfl dn)<|dS (fun _ k_=>p_ld ty3 (aS (S81.atX (i:=0) rfl) k_) rfl rfl dn)<|dS (fun _ k_=>p_add rfl rfl dn)<|dS (fun _ k_=>p_fld fl62_1 rfl dn)<|dS (fun _ k_=>p_ld ty3 (aS (S81.atX (i:=0) rfl) k_) rfl rfl dn) ?_
    refine dS (fun _ k_=>p_bld (cs:=[I (wr (r53.To+1)),I r53.From]) st71 (rfl:_=[(0,I (wr (r53.To+1))),(1,I r53.From)]) (by kernel_rfl) dn)<|dS (fun _ k_=>p_ixc ar73 rfl rfl (by decide) (by decide) dn)<|dS (fun _ k_=>p_ld ty72 (aS (S81.atP (i:=1) rfl) k_) rfl rfl dn)<|dS (fun _ k_=>p_ldA ty62 sz62 (aS (S81.atX (i:=0) rfl) k_) rfl rfl dn) ?_
    refine dS (fun _ k_=>p_cvD (tally_count_least_ok h83) fu59 rfl)<|dS (fun _ k_=>p_neg rfl dn) ?_
    intro w84 k85; have S86:=S81.call k85
    obtain ⟨r87,h88,H⟩:=bindS H
    refine p_cal (tally_book_note_ok h88 (S86.atX (i:=3) rfl)) fu32 rfl ?_
    rintro _ w89 ⟨rfl,k90,o91,_⟩
    have S92:=S86.turn (i:=3) rfl o91 (fun _ h_=>.inl h_) k90.os k90.tape k90.output k90.size k90.block
    refine wp_nil<|reg<|p_add rfl rfl<|p_mI rfl<|wp_nil ?_
    have S93:=S92.pk [2,3,4,5] (by decide) [0,1] rfl rfl
    exact ⟨(wr (z_2.1+1),r87),(),_,rfl,⟨rfl,rfl,rfl,rfl,rfl,rfl,trivial⟩,H,S93⟩
  ·replace H:=condF c52 H
   refine c_exit<|c_seq<|reg<|p_ldA ty51 sz51 (S51.atX (i:=0) rfl) rfl rfl<|p_stP (pre:=[]) (old:=[I 0,I 0,SL none 0 0,Value.map none]) (post:=[]) (vs:=[I a0.Trips,I a0.Room,SL A1 a0.Counts.length c2,Value.map (some m22)]) sz51 S51 (i:=2) rfl rfl rfl rfl (rfl:_=AG [I a0.Trips,I a0.Room,SL A1 a0.Counts.length c2,Value.map (some m22)]) rfl rfl rfl rfl fun w94 S95=>wp_nil ?_
   obtain rfl:=sJ H
   refine c_ret ?_; show bodyPostM (Fr none) 0 Tryd.prog Tryd.f19 _ .ret _ _
   refine ret_of (res1 rfl (rvA rfl ty51 sz51 (S95.atX (i:=2) rfl) rfl)) ?_
   exact ⟨_,rfl,m22,rfl,S95.keep,⟨S95.atX (i:=1) rfl,S95.newX (i:=1) rfl⟩,trivial⟩
def tally_nobody_1 (a0:TallyCount) (a1:Int):Option Bool:=
 some false
set_option maxRecDepth 100000 in
theorem tally_nobody_1_ok {a0:TallyCount}{a1:Int}{w:World}{r:Bool} (H:tally_nobody_1 a0 a1=some r):Calls Tryd.prog 33 #[AG [I a0.Who,I a0.From,I a0.To,I a0.Told,I a0.Unit,I a0.Under,I a0.Over],I a1] w (RetV w (B r)):=by
 unfold tally_nobody_1 at H
 refine fn_of (n:=5) Tryd.func33 rfl rfl (lE rfl) ?_
 have S:=St.start w nF _ nM
 refine c_seq<|reg<|p_boxA rfl S fun b1 w2 S3=>p_aB rfl<|wp_nil<|c_seq<|reg<|p_aB rfl<|wp_nil ?_
 obtain rfl:=sJ H
 exact c_ret (rT Tryd.f33 S3.keep rfl rfl)
def tally_nobody:Option Unit:=
 some ()
set_option maxRecDepth 100000 in
theorem tally_nobody_ok {w:World}{r:Unit} (H:tally_nobody=some r):Calls Tryd.prog 20 #[] w (RetV w (AG [vF (.func 33) #[] #[]])):=by
 unfold tally_nobody at H
 refine fn_of (n:=2) Tryd.func20 rfl rfl (lE rfl) ?_
 have S:=St.start w nF _ nM
 refine c_seq<|reg<|p_allA in55 S fun b1 w2 S3=>wp_nil<|c_seq<|reg<|p_bld (cs:=[vF (.func 33) #[] #[]]) st55 (rfl:_=[(0,vF (.func 33) #[] #[])]) (by kernel_rfl)<|p_stP (pre:=[]) (old:=[Value.nilFunc]) (post:=[]) (vs:=[vF (.func 33) #[] #[]]) sz55 S3 (i:=0) rfl rfl rfl rfl (rfl:_=AG [vF (.func 33) #[] #[]]) rfl rfl rfl rfl fun w4 S5=>wp_nil ?_
 obtain rfl:=sJ H
 refine c_ret ?_; show bodyPostM (Fr none) 0 Tryd.prog Tryd.f20 _ .ret _ _
 refine ret_of (res1 rfl (rvA rfl ty55 sz55 (S5.atX (i:=0) rfl) rfl)) ?_
 exact ⟨_,rfl,rfl,S5.keep⟩
def tally_none:Option (List Int):=
 some (List.replicate 9 0)
set_option maxRecDepth 100000 in
theorem tally_none_ok {w:World}{r:(List Int)} (H:tally_none=some r):Calls Tryd.prog 35 #[] w (RetV w (AG (sg r 9))):=by
 unfold tally_none at H
 refine fn_of (n:=3) Tryd.func35 rfl rfl (lE rfl) ?_
 have S:=St.start w nF _ nM
 refine c_seq<|reg<|p_allA in75 S fun b1 w2 S3=>wp_nil<|c_seq<|reg<|p_allA in75 S3 fun b4 w5 S6=>wp_nil<|c_seq<|reg<|p_ldA ty75 sz75 (S6.atX (i:=0) rfl) rfl rfl<|p_stP (pre:=[]) (old:=sg (List.replicate 9 0) 9) (post:=[]) (vs:=sg (List.replicate 9 0) 9) sz75 S6 (i:=1) rfl rfl rfl rfl (rfl:_=AG (sg (List.replicate 9 0) 9)) rfl rfl rfl rfl fun w7 S8=>wp_nil ?_
 obtain rfl:=sJ H
 refine c_ret ?_; show bodyPostM (Fr none) 0 Tryd.prog Tryd.f35 _ .ret _ _
 refine ret_of (res1 rfl (rvA rfl ty75 sz75 (S8.atX (i:=1) rfl) rfl)) ?_
 exact ⟨_,rfl,rfl,S8.keep⟩
def entOf (e:Tally_pair×Int):Go.Tally.Ent:=((e.1.from_,e.1.to_),e.2)
def tally_from (a0:Tally_book) (a1:Int):Option (List Int×Bool):=
 bif Go.Tally.vdB a0.TallyBook.Trips a1 (a0.more_.map entOf)&&decide (1≤a0.TallyBook.Trips) then some (Go.Tally.fromD a0.TallyBook.Trips a1 (a0.more_.map entOf)) else none
theorem mp_ent {m:Nat}{l:List (Tally_pair×Int)}{w:World} (h:(mp ekT iE m l).ok w):(mp ekP Go.Tally.iE m (l.map entOf)).ok w:=by
 obtain ⟨es,clock,h1,rfl,h2⟩:=h
 refine ⟨es.map fun x=>(x.1,entOf x.2),clock,h1.trans ?_,by simp [List.map_map,Function.comp_def],?_,?_⟩
 ·unfold mapO
  rw [List.map_map]
  rfl
 ·rw [List.map_map]; exact h2.1
 ·intro x hx
  obtain ⟨y,hy,rfl⟩:=List.mem_map.1 hx
  exact h2.2 y hy
theorem tally_from_ok {a0:Tally_book}{a1:Int}{A1:Option Addr}{c2:Nat}{m4:Option Nat}{w:World}{r:(List Int)×Bool} (H:tally_from a0 a1=some r) (h3:(rd eTallyCount 7 A1 c2 a0.TallyBook.Counts).ok w) (h5:(mpo ekT iE m4 a0.more_).ok w) (hg6:(gW1).ok w):Calls Tryd.prog 34 #[AG [I a0.TallyBook.Trips,I a0.TallyBook.Room,SL A1 a0.TallyBook.Counts.length c2,Value.map m4],I a1] w (RetV w (TU [AG (sg r.1 9),B r.2])):=by
 unfold tally_from at H
 cases hv:(Go.Tally.vdB a0.TallyBook.Trips a1 (a0.more_.map entOf)&&decide (1≤a0.TallyBook.Trips))
 ·rw [hv] at H; cases H
 rw [hv] at H
 obtain rfl:=sJ H
 rw [Bool.and_eq_true] at hv
 have V:=Go.Tally.vdB_iff.1 hv.1
 have ht:=of_decide_eq_true hv.2
 cases m4 with
 | none=>
   have hn:a0.more_=[]:=h5
   obtain ⟨n,_,hm⟩:=V.up 0 (by omega)
   rw [hn] at hm
   cases hm
 | some m=>
   have hm:=mp_ent (show (mp ekT iE m a0.more_).ok w from h5)
   refine (Fr.from_ok a0.TallyBook.Trips a0.TallyBook.Room a1 A1 a0.TallyBook.Counts.length c2 m _ w hm V.ks V.t0 V.t8 V.s0 V.st hg6).mono fun en w_ h=>?_
   obtain ⟨v,he,out,res,hv,hk,hF⟩:=h
   obtain ⟨e1,e2⟩:=Go.Tally.from_uniq V hF (Go.Tally.fromD_R _ _ _)
   refine ⟨v,he,?_,hk⟩
   rw [hv,← e1,← e2,sg_ivs,sgl_eq (Go.Tally.FromR_len hF)]
def tally_book_can (a0:Tally_book):Option Bool:=
 (tally_from a0 0).bind fun r10=>
 some r10.2
set_option maxRecDepth 100000 in
theorem tally_book_can_ok {a0:Tally_book}{A1:Option Addr}{c2:Nat}{m4:Option Nat}{w:World}{r:Bool} (H:tally_book_can a0=some r) (h3:(rd eTallyCount 7 A1 c2 a0.TallyBook.Counts).ok w) (h5:(mpo ekT iE m4 a0.more_).ok w) (hg6:(gW1).ok w):Calls Tryd.prog 21 #[AG [I a0.TallyBook.Trips,I a0.TallyBook.Room,SL A1 a0.TallyBook.Counts.length c2,Value.map m4]] w (RetV w (B r)):=by
 unfold tally_book_can at H
 refine fn_of (n:=11) Tryd.func21 rfl rfl (lE rfl) ?_
 have S:=St.start w nF _ (cA h3 (cA h5 (cA hg6 nM)))
 refine c_seq<|reg<|p_boxA rfl S fun b7 w8 S9=>p_aB rfl<|wp_nil<|c_seq<|reg<|p_ldA ty51 sz51 (S9.atX (i:=0) rfl) rfl rfl ?_
 obtain ⟨r10,h11,H⟩:=bindS H
 refine p_cv (tally_from_ok h11 (S9.atP (i:=0) rfl) (S9.atP (i:=1) rfl) (S9.atP (i:=2) rfl)) fu34 rfl S9 fun w12 S13=>p_mT rfl<|p_ext rfl rfl<|p_ext rfl rfl<|p_allA in75 S13 fun b14 w15 S16=>p_stP (pre:=[]) (old:=sg (List.replicate 9 0) 9) (post:=[]) (vs:=sg r10.1 9) sz75 S16 (i:=0) rfl rfl rfl rfl (rfl:_=AG (sg r10.1 9)) rfl rfl rfl rfl fun w17 S18=>p_aB rfl<|wp_nil<|c_seq<|reg<|p_mB rfl<|p_aB rfl ?_
 refine wp_nil ?_
 obtain rfl:=sJ H
 exact c_ret (rT Tryd.f21 S18.keep rfl rfl)
def tally_Right (a0:TallyBook):Option (Bool×Int):=
 (tally_Check a0).bind fun r9=>
 bif (r9 != 0) then (some (false,r9))
 else ((tally_nobody).bind fun r14=>
 (tally_opened a0 (Tally_leave.mk (fun y19 y20=>tally_nobody_1 y19 y20))).bind fun r21=>
 (tally_book_can (Tally_book.mk (TallyBook.mk r21.TallyBook.Trips r21.TallyBook.Room a0.Counts) r21.more_)).bind fun r29=>
 some (r29,0))
set_option maxRecDepth 100000 in
theorem tally_Right_ok {a0:TallyBook}{A1:Option Addr}{c2:Nat}{w:World}{r:Bool×Int} (H:tally_Right a0=some r) (h3:(rd eTallyCount 7 A1 c2 a0.Counts).ok w) (hg4:(gW0).ok w) (hg5:(gW1).ok w):Calls Tryd.prog 5 #[AG [I a0.Trips,I a0.Room,SL A1 a0.Counts.length c2]] w (RetV w (TU [B r.1,I r.2])):=by
 unfold tally_Right at H
 refine fn_of (n:=14) Tryd.func5 rfl rfl (lE rfl) ?_
 have S:=St.start w nF _ (cA h3 (cA hg4 (cA hg5 nM)))
 refine c_seq<|reg<|p_boxA rfl S fun b6 w7 S8=>p_aB rfl<|p_aI rfl<|wp_nil<|c_seq<|c_seq<|reg<|p_ldA ty24 sz24 (S8.atX (i:=0) rfl) rfl rfl ?_
 obtain ⟨r9,h10,H⟩:=bindS H
 refine p_cv (tally_Check_ok h10 (S8.atP (i:=0) rfl)) fu14 rfl S8 fun w11 S12=>p_aI rfl<|wp_nil<|c_seq<|reg<|p_mI rfl<|p_cmp rfl rfl rfl<|wp_nil ?_
 refine c_cond rfl (fun c13=>?_) (fun c13=>?_)
 ·replace H:=condT c13 H
  refine c_seq<|reg<|p_mI rfl<|p_aB rfl<|p_aI rfl<|wp_nil ?_
  obtain rfl:=sJ H
  refine c_ret ?_; show bodyPostM (Fr none) 0 Tryd.prog Tryd.f5 _ .ret _ _
  refine ret_of (res2 rfl (rvT (rfl:_=B false)) (rvT (rfl:_=I r9))) ?_
  exact ⟨_,rfl,rfl,S12.keep⟩
 ·replace H:=condF c13 H
  refine c_skip<|c_seq ?_
  obtain ⟨r14,h15,H⟩:=bindS H
  refine reg_q mixed 2 (by kernel_rfl) ?_
  refine dS (fun _ k_=>p_ldA ty24 sz24 (aS (S12.atX (i:=0) rfl) k_) rfl rfl dn)<|dS (fun _ k_=>p_cvD (tally_nobody_ok h15) fu20 rfl) ?_
  intro w16 k17; have S18:=S12.call k17
  obtain ⟨r21,h22,H⟩:=bindS H
  refine p_cal (tally_opened_ok h22 (S18.atP (i:=0) rfl) (by kernel_rfl) (fun _ _ _ _ k_ hr_=>tally_nobody_1_ok hr_) (S18.atP (i:=1) rfl)) fu19 rfl ?_
  rintro _ w23 ⟨m25,rfl,k24,⟨o26,n27⟩,_⟩
  have S28:=S18.addNew k24 o26 n27
  obtain ⟨r29,h30,H⟩:=bindS H
  refine p_cv (tally_book_can_ok h30 (S28.atP (i:=0) rfl) (mpo_some (S28.atX (i:=0) rfl)) (S28.atP (i:=2) rfl)) fu21 rfl S28 fun w31 S32=>p_aB rfl<|p_aI rfl<|wp_nil ?_
  obtain rfl:=sJ H
  refine c_ret ?_; show bodyPostM (Fr none) 0 Tryd.prog Tryd.f5 _ .ret _ _
  refine ret_of (res2 rfl (rvT (rfl:_=B r29)) (rvT (rfl:_=I 0))) ?_
  exact ⟨_,rfl,rfl,S32.keep⟩
def tally_asked (a0:TallyBook) (a1:Bool):Option (Tally_book×Int):=
 (tally_Check a0).bind fun r12=>
 bif (r12 != 0) then (some ((Tally_book.mk (TallyBook.mk 0 0 ([]:List TallyCount)) ([]:List (Tally_pair×Int))),r12))
 else (bif !a1 then (some ((Tally_book.mk (TallyBook.mk 0 0 ([]:List TallyCount)) ([]:List (Tally_pair×Int))),51))
 else ((tally_nobody).bind fun r22=>
 (tally_opened a0 (Tally_leave.mk (fun y28 y29=>tally_nobody_1 y28 y29))).bind fun r30=>
 (tally_book_can (Tally_book.mk (TallyBook.mk r30.TallyBook.Trips r30.TallyBook.Room a0.Counts) r30.more_)).bind fun r73=>
 bif !r73 then (some ((Tally_book.mk (TallyBook.mk r30.TallyBook.Trips r30.TallyBook.Room a0.Counts) r30.more_),52))
 else (some ((Tally_book.mk (TallyBook.mk r30.TallyBook.Trips r30.TallyBook.Room a0.Counts) r30.more_),0))))
set_option maxRecDepth 100000 in
theorem tally_asked_ok {a0:TallyBook}{a1:Bool}{A1:Option Addr}{c2:Nat}{w:World}{r:Tally_book×Int} (H:tally_asked a0 a1=some r) (h3:(rd eTallyCount 7 A1 c2 a0.Counts).ok w) (hg4:(gW0).ok w) (hg5:(gW1).ok w):Calls Tryd.prog 22 #[AG [I a0.Trips,I a0.Room,SL A1 a0.Counts.length c2],B a1] w fun en w_=>∃ u_,en=.returned u_∧∃ A_1:Option Addr,∃ c_2:Nat,∃ m_3:Option Nat,u_=TU [AG [I r.1.TallyBook.Trips,I r.1.TallyBook.Room,SL A_1 r.1.TallyBook.Counts.length c_2,Value.map m_3],I r.2]∧Keep0 w w_∧((rd eTallyCount 7 A_1 c_2 r.1.TallyBook.Counts).ok w_∧Al w [rd eTallyCount 7 A1 c2 a0.Counts] (rd eTallyCount 7 A_1 c_2 r.1.TallyBook.Counts))∧((mpo ekT iE m_3 r.1.more_).ok w_∧New w.heap.size (mpo ekT iE m_3 r.1.more_))∧True:=by
 unfold tally_asked at H
 refine fn_of (n:=25) Tryd.func22 rfl rfl (lE rfl) ?_
 have S:=St.start w nF _ (cA h3 (cA hg4 (cA hg5 nM)))
 refine c_seq<|reg<|p_boxA rfl S fun b6 w7 S8=>p_allA in51 S8 fun b9 w10 S11=>p_aI rfl<|wp_nil<|c_seq<|c_seq<|reg<|p_ldA ty24 sz24 (S11.atX (i:=1) rfl) rfl rfl ?_
 obtain ⟨r12,h13,H⟩:=bindS H
 refine p_cv (tally_Check_ok h13 (S11.atP (i:=0) rfl)) fu14 rfl S11 fun w14 S15=>p_aI rfl<|wp_nil<|c_seq<|reg<|p_mI rfl<|p_cmp rfl rfl rfl<|wp_nil ?_
 refine c_cond rfl (fun c16=>?_) (fun c16=>?_)
 ·replace H:=condT c16 H
  refine c_seq<|reg<|p_bld (cs:=[I 0,I 0,SL none 0 0,Value.map none]) st51 (rfl:_=[]) (by kernel_rfl)<|p_mI rfl<|p_stP (pre:=[]) (old:=[I 0,I 0,SL none 0 0,Value.map none]) (post:=[]) (vs:=[I 0,I 0,SL none 0 0,Value.map none]) sz51 S15 (i:=0) rfl rfl rfl rfl (rfl:_=AG [I 0,I 0,SL none 0 0,Value.map none]) rfl rfl rfl rfl fun w17 S18=>p_aI rfl<|wp_nil ?_
  obtain rfl:=sJ H
  refine c_ret ?_; show bodyPostM (Fr none) 0 Tryd.prog Tryd.f22 _ .ret _ _
  refine ret_of (res2 rfl (rvA rfl ty51 sz51 (S18.atX (i:=0) rfl) rfl) (rvT (rfl:_=I r12))) ?_
  exact ⟨_,rfl,none,0,none,rfl,S18.keep,⟨rd_nil (Nat.zero_le _),Al.nil⟩,⟨mpo_none,New.mpoN⟩,trivial⟩
 ·replace H:=condF c16 H
  refine c_skip<|c_seq<|c_seq<|reg<|p_mB rfl<|p_not rfl<|wp_nil ?_
  refine c_cond rfl (fun c19=>?_) (fun c19=>?_)
  ·replace H:=condT c19 H
   refine c_seq<|reg<|p_bld (cs:=[I 0,I 0,SL none 0 0,Value.map none]) st51 (rfl:_=[]) (by kernel_rfl)<|p_stP (pre:=[]) (old:=[I 0,I 0,SL none 0 0,Value.map none]) (post:=[]) (vs:=[I 0,I 0,SL none 0 0,Value.map none]) sz51 S15 (i:=0) rfl rfl rfl rfl (rfl:_=AG [I 0,I 0,SL none 0 0,Value.map none]) rfl rfl rfl rfl fun w20 S21=>p_aI rfl<|wp_nil ?_
   obtain rfl:=sJ H
   refine c_ret ?_; show bodyPostM (Fr none) 0 Tryd.prog Tryd.f22 _ .ret _ _
   refine ret_of (res2 rfl (rvA rfl ty51 sz51 (S21.atX (i:=0) rfl) rfl) (rvT (rfl:_=I 51))) ?_
   exact ⟨_,rfl,none,0,none,rfl,S21.keep,⟨rd_nil (Nat.zero_le _),Al.nil⟩,⟨mpo_none,New.mpoN⟩,trivial⟩
  ·replace H:=condF c19 H
   refine c_skip<|c_seq ?_
   obtain ⟨r22,h23,H⟩:=bindS H
   obtain ⟨r30,h31,H⟩:=bindS H
   refine reg_any mixed 4 (by kernel_rfl) [rv (AG [I a0.Trips,I a0.Room,SL A1 a0.Counts.length c2]),rv (AG [vF (.func 33) #[] #[]]),rx (α:=Nat) (fun m34=>AG [I r30.TallyBook.Trips,I r30.TallyBook.Room,SL A1 a0.Counts.length c2,Value.map (some m34)]) (fun m34 lo hi=>BtwL lo hi [] (mp ekT iE m34 r30.more_)∧True) (fun m34=>[mp ekT iE m34 r30.more_]),rx (α:=Nat) (fun b38=>P b38 0) (fun b38 lo hi=>BtwL lo hi [] (bl b38 [I 0,I 0,SL none 0 0,Value.map none] 51)∧True) (fun b38=>[bl b38 [I 0,I 0,SL none 0 0,Value.map none] 51])] [[],[],[],[]] rfl (by kernel_rfl) [[],[],[0,1],[],[0,1,2,3]] (by kernel_rfl) ⟨?_,?_,?_,?_,trivial⟩ ?_
   ·intro e_ w_ k_ hf_ hR_
    have S_:St w_ nF w_ [] [bl b9 [I 0,I 0,SL none 0 0,Value.map none] 51,bl b6 [I a0.Trips,I a0.Room,SL A1 a0.Counts.length c2] 24,rd eTallyCount 7 A1 c2 a0.Counts,gW0,gW1]:=S15.asP k_
    refine hopE [(2,P b6 0)] ⟨((hf_ 2 rfl).trans (rfl:_=P b6 0)),trivial⟩ ?_
    exact p_ldA ty24 sz24 (S_.atP (i:=1) rfl) rfl rfl<|wp_nil ⟨_,rfl,S_.keep,rfl⟩
   ·intro e_ w_ k_ hf_ hR_
    have S_:St w_ nF w_ [] [bl b9 [I 0,I 0,SL none 0 0,Value.map none] 51,bl b6 [I a0.Trips,I a0.Room,SL A1 a0.Counts.length c2] 24,rd eTallyCount 7 A1 c2 a0.Counts,gW0,gW1]:=S15.asP k_
    refine hopE [] trivial ?_
    refine p_cv (tally_nobody_ok h23) fu20 rfl S_ fun w24 S25=>wp_nil ?_
    exact ⟨_,rfl,S25.keep,rfl⟩
   ·intro e_ w_ k_ hf_ hR_
    have S_:St w_ nF w_ [] [bl b9 [I 0,I 0,SL none 0 0,Value.map none] 51,bl b6 [I a0.Trips,I a0.Room,SL A1 a0.Counts.length c2] 24,rd eTallyCount 7 A1 c2 a0.Counts,gW0,gW1]:=S15.asP k_
    refine hopE [(17,AG [I a0.Trips,I a0.Room,SL A1 a0.Counts.length c2]),(18,AG [vF (.func 33) #[] #[]])] ⟨rQ (hR_ 0 17 rfl (lE rfl) rfl),rQ (hR_ 1 18 rfl (lE rfl) rfl),trivial⟩ ?_
    refine p_cal (tally_opened_ok h31 (S_.atP (i:=2) rfl) (by kernel_rfl) (fun _ _ _ _ k_ hr_=>tally_nobody_1_ok hr_) (S_.atP (i:=3) rfl)) fu19 rfl ?_
    rintro _ w32 ⟨m34,rfl,k33,⟨o35,n36⟩,_⟩
    have S37:=S_.addNew k33 o35 n36
    exact wp_nil ⟨_,rfl,S37.keep,⟨m34,rfl,⟨bL (New.al (S37.newX (i:=0) rfl)) rfl (S37.atX (i:=0) rfl) rfl,trivial⟩,(cA (S37.atX (i:=0) rfl) nM)⟩⟩
   ·intro e_ w_ k_ hf_ hR_
    have S_:St w_ nF w_ [] [bl b9 [I 0,I 0,SL none 0 0,Value.map none] 51,bl b6 [I a0.Trips,I a0.Room,SL A1 a0.Counts.length c2] 24,rd eTallyCount 7 A1 c2 a0.Counts,gW0,gW1]:=S15.asP k_
    refine hopE [] trivial ?_
    refine p_allA in51 S_ fun b38 w39 S40=>wp_nil ?_
    exact ⟨_,rfl,S40.keep,⟨b38,rfl,⟨bL (New.al (S40.newX (i:=0) rfl)) rfl (S40.atX (i:=0) rfl) rfl,trivial⟩,(cA (S40.atX (i:=0) rfl) nM)⟩⟩
   intro e41 w42 lo43 hi44 k45 hf46 hR47 hd48
   have S49:=S15.call k45
   have q50:e41 17=AG [I a0.Trips,I a0.Room,SL A1 a0.Counts.length c2]:=(hR47 0 17 (lE rfl) rfl).2.2.2
   have q51:e41 18=AG [vF (.func 33) #[] #[]]:=(hR47 1 18 (lE rfl) rfl).2.2.2
   obtain ⟨h53,h54,h55,m34,q52,h56,h57⟩:=hR47 2 19 (lE rfl) rfl
   replace q52:e41 19=AG [I r30.TallyBook.Trips,I r30.TallyBook.Room,SL A1 a0.Counts.length c2,Value.map (some m34)]:=q52
   obtain ⟨p58,_⟩:=h56
   obtain ⟨h61,h62,h63,b38,q60,h64,h65⟩:=hR47 3 7 (lE rfl) rfl
   replace q60:e41 7=P b38 0:=q60
   obtain ⟨p66,_⟩:=h64
   have S68:=St.addO S49 (h57 _ (.head _)) (oN p58 h53 S15) (oX p58 h53 S15) (oL p58 h53 S15)
   have S69:=St.addO S68 (h65 _ (.head _)) (oN p66 h61 S15) (cA (oP p66 p58 h61 S15 (nM) (hd48 3 2 (lE rfl) (lE rfl) (by decide))) (oX p66 h61 S15)) (oL p66 h61 S15)
   refine tailE [(4,P b9 0),(7,P b38 0),(19,AG [I r30.TallyBook.Trips,I r30.TallyBook.Room,SL A1 a0.Counts.length c2,Value.map (some m34)])] ⟨((hf46 4 rfl).trans (rfl:_=P b9 0)),q60,q52,trivial⟩ ?_
   intro g70
   refine p_stP (pre:=[]) (old:=[I 0,I 0,SL none 0 0,Value.map none]) (post:=[]) (vs:=[I r30.TallyBook.Trips,I r30.TallyBook.Room,SL A1 a0.Counts.length c2,Value.map (some m34)]) sz51 S69 (i:=0) rfl rfl rfl rfl (rfl:_=AG [I r30.TallyBook.Trips,I r30.TallyBook.Room,SL A1 a0.Counts.length c2,Value.map (some m34)]) rfl rfl rfl rfl fun w71 S72=>wp_nil<|c_seq<|c_seq<|reg ?_
   refine p_ldA ty51 sz51 (S72.atX (i:=0) rfl) rfl rfl ?_
   obtain ⟨r73,h74,H⟩:=bindS H
   refine p_cv (tally_book_can_ok h74 (S72.atP (i:=0) rfl) (mpo_some (S72.atX (i:=1) rfl)) (S72.atP (i:=2) rfl)) fu21 rfl S72 fun w75 S76=>p_not rfl<|wp_nil ?_
   refine c_cond rfl (fun c77=>?_) (fun c77=>?_)
   ·replace H:=condT c77 H
    refine c_seq<|reg<|p_ldA ty51 sz51 (S76.atX (i:=0) rfl) rfl rfl ?_
    refine p_stP (pre:=[]) (old:=[I 0,I 0,SL none 0 0,Value.map none]) (post:=[]) (vs:=[I r30.TallyBook.Trips,I r30.TallyBook.Room,SL A1 a0.Counts.length c2,Value.map (some m34)]) sz51 S76 (i:=2) rfl rfl rfl rfl (rfl:_=AG [I r30.TallyBook.Trips,I r30.TallyBook.Room,SL A1 a0.Counts.length c2,Value.map (some m34)]) rfl rfl rfl rfl fun w78 S79=>p_aI rfl<|wp_nil ?_
    obtain rfl:=sJ H
    refine c_ret ?_; show bodyPostM (Fr none) 0 Tryd.prog Tryd.f22 _ .ret _ _
    refine ret_of (res2 rfl (rvA rfl ty51 sz51 (S79.atX (i:=2) rfl) rfl) (rvT (rfl:_=I 52))) ?_
    exact ⟨_,rfl,A1,c2,(some m34),rfl,S79.keep,⟨(S79.atP (i:=0) rfl),Al.self (i:=0) rfl⟩,⟨mpo_some (S79.atX (i:=1) rfl),New.mpoS (S79.newX (i:=1) rfl)⟩,trivial⟩
   ·replace H:=condF c77 H
    refine c_skip<|c_seq<|reg<|p_ldA ty51 sz51 (S76.atX (i:=0) rfl) rfl rfl ?_
    refine p_stP (pre:=[]) (old:=[I 0,I 0,SL none 0 0,Value.map none]) (post:=[]) (vs:=[I r30.TallyBook.Trips,I r30.TallyBook.Room,SL A1 a0.Counts.length c2,Value.map (some m34)]) sz51 S76 (i:=2) rfl rfl rfl rfl (rfl:_=AG [I r30.TallyBook.Trips,I r30.TallyBook.Room,SL A1 a0.Counts.length c2,Value.map (some m34)]) rfl rfl rfl rfl fun w80 S81=>p_aI rfl<|wp_nil ?_
    obtain rfl:=sJ H
    refine c_ret ?_; show bodyPostM (Fr none) 0 Tryd.prog Tryd.f22 _ .ret _ _
    refine ret_of (res2 rfl (rvA rfl ty51 sz51 (S81.atX (i:=2) rfl) rfl) (rvT (rfl:_=I 0))) ?_
    exact ⟨_,rfl,A1,c2,(some m34),rfl,S81.keep,⟨(S81.atP (i:=0) rfl),Al.self (i:=0) rfl⟩,⟨mpo_some (S81.atX (i:=1) rfl),New.mpoS (S81.newX (i:=1) rfl)⟩,trivial⟩
structure Span where
 Low:Int
 High:Int
 deriving DecidableEq,Inhabited
def tally_book_many_j1 (a1:Int) (a2:Int) (r22:(List Int)×Bool) (r13:(List Int)×Bool) (z_1:Unit):Option Span:=
 need (inI a1 9)<|
 need (inI a2 9)<|
 some (Span.mk (wr (-(aget r22.1 a1))) (aget r13.1 a2))
def tally_book_many (a0:Tally_book) (a1:Int) (a2:Int):Option Span:=
 (tally_from a0 a1).bind fun r13=>
 (tally_from a0 a2).bind fun r22=>
 (tally_none).bind fun r31=>
 bif decide (sgl r22.1 9=sgl r31 9) then ((tally_none).bind fun r34=>
 bif decide (sgl r13.1 9=sgl r34 9) then (some (Span.mk 0 0))
 else (tally_book_many_j1 a1 a2 r22 r13 ()))
 else (tally_book_many_j1 a1 a2 r22 r13 ())
set_option maxRecDepth 100000 in
theorem tally_book_many_ok {a0:Tally_book}{a1:Int}{a2:Int}{A1:Option Addr}{c2:Nat}{m4:Option Nat}{w:World}{r:Span} (H:tally_book_many a0 a1 a2=some r) (h3:(rd eTallyCount 7 A1 c2 a0.TallyBook.Counts).ok w) (h5:(mpo ekT iE m4 a0.more_).ok w) (hg6:(gW1).ok w):Calls Tryd.prog 24 #[AG [I a0.TallyBook.Trips,I a0.TallyBook.Room,SL A1 a0.TallyBook.Counts.length c2,Value.map m4],I a1,I a2] w (RetV w (AG [I r.Low,I r.High])):=by
 unfold tally_book_many at H
 refine fn_of (n:=40) Tryd.func24 rfl rfl (lE rfl) ?_
 have S:=St.start w nF _ (cA h3 (cA h5 (cA hg6 nM)))
 refine c_seq<|reg<|p_boxA rfl S fun b7 w8 S9=>p_allA in33 S9 fun b10 w11 S12=>wp_nil<|c_seq<|reg<|p_ldA ty51 sz51 (S12.atX (i:=1) rfl) rfl rfl<|p_mI rfl ?_
 obtain ⟨r13,h14,H⟩:=bindS H
 refine p_cv (tally_from_ok h14 (S12.atP (i:=0) rfl) (S12.atP (i:=1) rfl) (S12.atP (i:=2) rfl)) fu34 rfl S12 fun w15 S16=>p_mT rfl<|p_ext rfl rfl<|p_ext rfl rfl<|p_allA in75 S16 fun b17 w18 S19=>p_stP (pre:=[]) (old:=sg (List.replicate 9 0) 9) (post:=[]) (vs:=sg r13.1 9) sz75 S19 (i:=0) rfl rfl rfl rfl (rfl:_=AG (sg r13.1 9)) rfl rfl rfl rfl fun w20 S21=>p_aB rfl<|wp_nil<|c_seq<|reg ?_
 refine p_ldA ty51 sz51 (S21.atX (i:=2) rfl) rfl rfl<|p_mI rfl ?_
 obtain ⟨r22,h23,H⟩:=bindS H
 refine p_cv (tally_from_ok h23 (S21.atP (i:=0) rfl) (S21.atP (i:=1) rfl) (S21.atP (i:=2) rfl)) fu34 rfl S21 fun w24 S25=>p_mT rfl<|p_ext rfl rfl<|p_ext rfl rfl<|p_allA in75 S25 fun b26 w27 S28=>p_stP (pre:=[]) (old:=sg (List.replicate 9 0) 9) (post:=[]) (vs:=sg r22.1 9) sz75 S28 (i:=0) rfl rfl rfl rfl (rfl:_=AG (sg r22.1 9)) rfl rfl rfl rfl fun w29 S30=>p_aB rfl<|wp_nil ?_
 refine c_join (α:=Unit) (β:=Unit) (fun z_1 y_1=>[(1,I a1),(2,I a2),(6,P b10 0),(7,P b17 0),(9,P b26 0)]) (fun z_1 y_1 w_=>tally_book_many_j1 a1 a2 r22 r13 z_1=some r∧St w nF w_ [bl b26 (sg r22.1 9) 75,bl b17 (sg r13.1 9) 75,bl b10 [I 0,I 0] 33] [rd eTallyCount 7 A1 c2 a0.TallyBook.Counts,mpo ekT iE m4 a0.more_,gW1]) ?_ ?_
 ·refine c_seq ?_
  obtain ⟨r31,h32,H⟩:=bindS H
  rcases bE (decide (sgl r22.1 9=sgl r31 9)) with c33 | c33
  ·replace H:=condT c33 H
   obtain ⟨r34,h35,H⟩:=bindS H
   refine reg_q mixed 8 (by kernel_rfl) ?_
   refine dS (fun _ k_=>p_ldA ty75 sz75 (aS (S30.atX (i:=0) rfl) k_) rfl rfl dn)<|dS (fun _ k_=>p_cvD (tally_none_ok h32) fu35 rfl)<|dS (fun _ k_=>p_eqS (m:=9) eq75 rfl rfl dn)<|dS (fun _ k_=>p_mB rfl dn)<|dB c33<|dS (fun _ k_=>gT rfl rfl (p_ldA ty75 sz75 (aS (S30.atX (i:=1) rfl) k_) rfl rfl dn))<|dS (fun _ k_=>gT rfl rfl (p_cvD (tally_none_ok h35) fu35 rfl)) ?_
   refine dS (fun _ k_=>gT rfl rfl (p_eqS (m:=9) eq75 rfl rfl dn))<|dS (fun _ k_=>p_pkT rfl (rfl:_=B (decide (sgl r13.1 9=sgl r34 9))) dn) ?_
   intro w36 k37; have S38:=S30.call k37
   refine wp_nil ?_
   refine c_cond rfl (fun c39=>?_) (fun c39=>?_)
   ·replace H:=condT c39 H
    refine c_seq<|reg<|p_bld (cs:=[I 0,I 0]) st33 (rfl:_=[]) (by kernel_rfl)<|p_stP (pre:=[]) (old:=[I 0,I 0]) (post:=[]) (vs:=[I 0,I 0]) sz33 S38 (i:=2) rfl rfl rfl rfl (rfl:_=AG [I 0,I 0]) rfl rfl rfl rfl fun w40 S41=>wp_nil ?_
    obtain rfl:=sJ H
    refine c_ret ?_; show bodyPostM (Fr none) 0 Tryd.prog Tryd.f24 _ .ret _ _
    refine ret_of (res1 rfl (rvA rfl ty33 sz33 (S41.atX (i:=2) rfl) rfl)) ?_
    exact ⟨_,rfl,rfl,S41.keep⟩
   ·replace H:=condF c39 H
    refine c_skip ?_
    have S42:=S38.pk [0,1,2] (by decide) [0,1,2] rfl rfl
    exact ⟨(),(),_,rfl,⟨rfl,rfl,rfl,rfl,rfl,trivial⟩,H,S42⟩
  ·replace H:=condF c33 H
   refine reg_q mixed 8 (by kernel_rfl) ?_
   refine dS (fun _ k_=>p_ldA ty75 sz75 (aS (S30.atX (i:=0) rfl) k_) rfl rfl dn)<|dS (fun _ k_=>p_cvD (tally_none_ok h32) fu35 rfl)<|dS (fun _ k_=>p_eqS (m:=9) eq75 rfl rfl dn)<|dS (fun _ k_=>p_mB rfl dn)<|dB c33<|dF rfl rfl<|dF rfl rfl<|dF rfl rfl<|dS (fun _ k_=>p_pkF rfl (rfl:_=B false) dn) ?_
   intro w42 k43; have S44:=S30.call k43
   refine wp_nil<|c_false rfl<|c_skip ?_
   have S45:=S44.pk [0,1,2] (by decide) [0,1,2] rfl rfl
   exact ⟨(),(),_,rfl,⟨rfl,rfl,rfl,rfl,rfl,trivial⟩,H,S45⟩
 ·intro z_1 y_1 e31 w32 S33; obtain ⟨H,S33⟩:=S33
  unfold tally_book_many_j1 at H
  refine c_seq ?_
  obtain ⟨h34,H⟩:=needS H
  obtain ⟨h35,H⟩:=needS H
  refine reg_q mixed 8 (by kernel_rfl) ?_
  refine dS (fun _ k_=>p_mI rfl dn)<|dS (fun _ k_=>p_ixD ar75 h34 rfl rfl dn)<|dS (fun _ k_=>p_ldD (pre:=[]) (post:=[]) ty3 (aS (S33.atX (i:=0) rfl) k_) rfl h34 rfl rfl dn)<|dS (fun _ k_=>p_neg rfl dn)<|dS (fun _ k_=>p_mI rfl dn)<|dS (fun _ k_=>p_ixD ar75 h35 rfl rfl dn)<|dS (fun _ k_=>p_ldD (pre:=[]) (post:=[]) ty3 (aS (S33.atX (i:=1) rfl) k_) rfl h35 rfl rfl dn) ?_
  refine dS (fun _ k_=>p_bld (cs:=[I (wr (-(aget r22.1 a1))),I (aget r13.1 a2)]) st33 (rfl:_=[(0,I (wr (-(aget r22.1 a1)))),(1,I (aget r13.1 a2))]) (by kernel_rfl) dn) ?_
  intro w36 k37; have S38:=S33.call k37
  refine p_stP (pre:=[]) (old:=[I 0,I 0]) (post:=[]) (vs:=[I (wr (-(aget r22.1 a1))),I (aget r13.1 a2)]) sz33 S38 (i:=2) rfl rfl rfl rfl (rfl:_=AG [I (wr (-(aget r22.1 a1))),I (aget r13.1 a2)]) rfl rfl rfl rfl fun w39 S40=>wp_nil ?_
  obtain rfl:=sJ H
  refine c_ret ?_; show bodyPostM (Fr none) 0 Tryd.prog Tryd.f24 _ .ret _ _
  refine ret_of (res1 rfl (rvA rfl ty33 sz33 (S40.atX (i:=2) rfl) rfl)) ?_
  exact ⟨_,rfl,rfl,S40.keep⟩
def tally_Many (a0:TallyBook) (a1:Int) (a2:Int):Option (Span×Int):=
 (tally_isTrips a0 a1 a2).bind fun r15=>
 (tally_asked a0 r15).bind fun r21=>
 bif (r21.2 != 0) then (some ((Span.mk 0 0),r21.2))
 else ((tally_book_many r21.1 a1 (wr (a2+1))).bind fun r89=>
 some (r89,0))
set_option maxRecDepth 100000 in
theorem tally_Many_ok {a0:TallyBook}{a1:Int}{a2:Int}{A1:Option Addr}{c2:Nat}{w:World}{r:Span×Int} (H:tally_Many a0 a1 a2=some r) (h3:(rd eTallyCount 7 A1 c2 a0.Counts).ok w) (hg4:(gW0).ok w) (hg5:(gW1).ok w):Calls Tryd.prog 6 #[AG [I a0.Trips,I a0.Room,SL A1 a0.Counts.length c2],I a1,I a2] w (RetV w (TU [AG [I r.1.Low,I r.1.High],I r.2])):=by
 unfold tally_Many at H
 refine fn_of (n:=28) Tryd.func6 rfl rfl (lE rfl) ?_
 have S:=St.start w nF _ (cA h3 (cA hg4 (cA hg5 nM)))
 refine c_seq<|reg<|p_boxA rfl S fun b6 w7 S8=>p_allA in33 S8 fun b9 w10 S11=>p_aI rfl<|wp_nil<|c_seq ?_
 obtain ⟨r15,h16,H⟩:=bindS H
 obtain ⟨r21,h22,H⟩:=bindS H
 refine reg_fl mixed 10 8 (by kernel_rfl) [rv (AG [I a0.Trips,I a0.Room,SL A1 a0.Counts.length c2]),rv (AG [I a0.Trips,I a0.Room,SL A1 a0.Counts.length c2]),rv (I a1),rv (I a2),rv (B r15),rx (α:=(Option Addr)×Nat×(Option Nat)) (fun ⟨A25,c26,m27⟩=>TU [AG [I r21.1.TallyBook.Trips,I r21.1.TallyBook.Room,SL A25 r21.1.TallyBook.Counts.length c26,Value.map m27],I r21.2]) (fun ⟨A25,c26,m27⟩ lo hi=>BtwL lo hi [rd eTallyCount 7 A1 c2 a0.Counts] (rd eTallyCount 7 A25 c26 r21.1.TallyBook.Counts)∧BtwL lo hi [] (mpo ekT iE m27 r21.1.more_)∧True) (fun ⟨A25,c26,m27⟩=>[rd eTallyCount 7 A25 c26 r21.1.TallyBook.Counts,mpo ekT iE m27 r21.1.more_]),dv 16 some,dv 10 (exG 0),dv 10 (exG 1),rx (α:=Nat) (fun b44=>P b44 0) (fun b44 lo hi=>BtwL lo hi [] (bl b44 [I 0,I 0,SL none 0 0,Value.map none] 51)∧True) (fun b44=>[bl b44 [I 0,I 0,SL none 0 0,Value.map none] 51])] [[],[],[],[],[],[],[16],[10],[10],[]] rfl (by kernel_rfl) [[],[],[],[],[1,2,3],[0,1,2,3,4],[0,1,2,3,4,5],[0,1,2,3,4,5,6],[0,1,2,3,4,5,6],[],[0,1,2,3,4,5,6,7,9],[0,1,2,3,4,5,6,7,8,9,10]] (by kernel_rfl) ⟨?_,?_,?_,?_,?_,?_,?_,?_,?_,?_,trivial⟩ ?_ ?_
 ·intro e_ w_ k_ hf_ hR_
  have S_:St w_ nF w_ [] [bl b9 [I 0,I 0] 33,bl b6 [I a0.Trips,I a0.Room,SL A1 a0.Counts.length c2] 24,rd eTallyCount 7 A1 c2 a0.Counts,gW0,gW1]:=S11.asP k_
  refine hopE [(3,P b6 0)] ⟨((hf_ 3 rfl).trans (rfl:_=P b6 0)),trivial⟩ ?_
  exact p_ldA ty24 sz24 (S_.atP (i:=1) rfl) rfl rfl<|wp_nil ⟨_,rfl,S_.keep,rfl⟩
 ·intro e_ w_ k_ hf_ hR_
  have S_:St w_ nF w_ [] [bl b9 [I 0,I 0] 33,bl b6 [I a0.Trips,I a0.Room,SL A1 a0.Counts.length c2] 24,rd eTallyCount 7 A1 c2 a0.Counts,gW0,gW1]:=S11.asP k_
  refine hopE [(3,P b6 0)] ⟨((hf_ 3 rfl).trans (rfl:_=P b6 0)),trivial⟩ ?_
  exact p_ldA ty24 sz24 (S_.atP (i:=1) rfl) rfl rfl<|wp_nil ⟨_,rfl,S_.keep,rfl⟩
 ·intro e_ w_ k_ hf_ hR_
  have S_:St w_ nF w_ [] [bl b9 [I 0,I 0] 33,bl b6 [I a0.Trips,I a0.Room,SL A1 a0.Counts.length c2] 24,rd eTallyCount 7 A1 c2 a0.Counts,gW0,gW1]:=S11.asP k_
  refine hopE [(1,I a1)] ⟨((hf_ 1 rfl).trans (rfl:_=I a1)),trivial⟩ ?_
  exact p_mI rfl<|wp_nil ⟨_,rfl,S_.keep,rfl⟩
 ·intro e_ w_ k_ hf_ hR_
  have S_:St w_ nF w_ [] [bl b9 [I 0,I 0] 33,bl b6 [I a0.Trips,I a0.Room,SL A1 a0.Counts.length c2] 24,rd eTallyCount 7 A1 c2 a0.Counts,gW0,gW1]:=S11.asP k_
  refine hopE [(2,I a2)] ⟨((hf_ 2 rfl).trans (rfl:_=I a2)),trivial⟩ ?_
  exact p_mI rfl<|wp_nil ⟨_,rfl,S_.keep,rfl⟩
 ·intro e_ w_ k_ hf_ hR_
  have S_:St w_ nF w_ [] [bl b9 [I 0,I 0] 33,bl b6 [I a0.Trips,I a0.Room,SL A1 a0.Counts.length c2] 24,rd eTallyCount 7 A1 c2 a0.Counts,gW0,gW1]:=S11.asP k_
  refine hopE [(12,AG [I a0.Trips,I a0.Room,SL A1 a0.Counts.length c2]),(13,I a1),(14,I a2)] ⟨rQ (hR_ 1 12 rfl (lE rfl) rfl),rQ (hR_ 2 13 rfl (lE rfl) rfl),rQ (hR_ 3 14 rfl (lE rfl) rfl),trivial⟩ ?_
  refine p_cv (tally_isTrips_ok h16 (S_.atP (i:=2) rfl)) fu23 rfl S_ fun w17 S18=>wp_nil ?_
  exact ⟨_,rfl,S18.keep,rfl⟩
 ·intro e_ w_ k_ hf_ hR_
  have S_:St w_ nF w_ [] [bl b9 [I 0,I 0] 33,bl b6 [I a0.Trips,I a0.Room,SL A1 a0.Counts.length c2] 24,rd eTallyCount 7 A1 c2 a0.Counts,gW0,gW1]:=S11.asP k_
  refine hopE [(11,AG [I a0.Trips,I a0.Room,SL A1 a0.Counts.length c2]),(15,B r15)] ⟨rQ (hR_ 0 11 rfl (lE rfl) rfl),rQ (hR_ 4 15 rfl (lE rfl) rfl),trivial⟩ ?_
  refine p_cal (tally_asked_ok h22 (S_.atP (i:=2) rfl) (S_.atP (i:=3) rfl) (S_.atP (i:=4) rfl)) fu22 rfl ?_
  rintro _ w23 ⟨A25,c26,m27,rfl,k24,⟨o28,n29⟩,⟨o30,n31⟩,_⟩
  have S32:=S_.callN k24 [rd eTallyCount 7 A25 c26 r21.1.TallyBook.Counts,mpo ekT iE m27 r21.1.more_] (cA ⟨o28,Al.inL n29 ((cA (fp_mem (i:=2) rfl) nM))⟩ (cA ⟨o30,New.inL n31⟩ nM))
  exact wp_nil ⟨_,rfl,S32.keep,⟨(A25,c26,m27),rfl,⟨bL n29 rfl (S32.atP (i:=0) rfl) rfl,bL (New.al (New.mono n31 S_.keep.size)) rfl (S32.atP (i:=1) rfl) rfl,trivial⟩,(cA (S32.atP (i:=0) rfl) (cA (S32.atP (i:=1) rfl) nM))⟩⟩
 ·intro e_ w_ k_ hf_ hR_
  have S_:St w_ nF w_ [] [bl b9 [I 0,I 0] 33,bl b6 [I a0.Trips,I a0.Room,SL A1 a0.Counts.length c2] 24,rd eTallyCount 7 A1 c2 a0.Counts,gW0,gW1]:=S11.asP k_
  obtain ⟨_,_,_,_,⟨A25,c26,m27⟩,q33,p34,a35⟩:=hR_ 5 16 rfl (lE rfl) rfl
  replace q33:e_ 16=TU [AG [I r21.1.TallyBook.Trips,I r21.1.TallyBook.Room,SL A25 r21.1.TallyBook.Counts.length c26,Value.map m27],I r21.2]:=q33
  have S_:=St.addL' S_ (a35 _ (.head _)) (fun _ _ _ h_=>(nE h_))
  have S_:=St.addL' S_ (a35 _ (.tail _ (.head _))) (fun _ _ _ h_=>(nE h_))
  refine hopE [(16,TU [AG [I r21.1.TallyBook.Trips,I r21.1.TallyBook.Room,SL A25 r21.1.TallyBook.Counts.length c26,Value.map m27],I r21.2])] ⟨q33,trivial⟩ ?_
  refine p_mT rfl<|wp_nil ?_
  exact ⟨_,rfl,S_.keep,rfl⟩
 ·intro e_ w_ k_ hf_ hR_
  have S_:St w_ nF w_ [] [bl b9 [I 0,I 0] 33,bl b6 [I a0.Trips,I a0.Room,SL A1 a0.Counts.length c2] 24,rd eTallyCount 7 A1 c2 a0.Counts,gW0,gW1]:=S11.asP k_
  obtain ⟨_,_,_,_,⟨A25,c26,m27⟩,q37,p38,a39⟩:=hR_ 5 16 rfl (lE rfl) rfl
  replace q37:e_ 16=TU [AG [I r21.1.TallyBook.Trips,I r21.1.TallyBook.Room,SL A25 r21.1.TallyBook.Counts.length c26,Value.map m27],I r21.2]:=q37
  have S_:=St.addL' S_ (a39 _ (.head _)) (fun _ _ _ h_=>(nE h_))
  have S_:=St.addL' S_ (a39 _ (.tail _ (.head _))) (fun _ _ _ h_=>(nE h_))
  obtain ⟨_,_,_,_,q36⟩:=hR_ 6 10 rfl (lE rfl) rfl
  replace q36:e_ 10=TU [AG [I r21.1.TallyBook.Trips,I r21.1.TallyBook.Room,SL A25 r21.1.TallyBook.Counts.length c26,Value.map m27],I r21.2]:=(sJ ((congrArg some q37).symm.trans q36)).symm
  refine hopE [(10,TU [AG [I r21.1.TallyBook.Trips,I r21.1.TallyBook.Room,SL A25 r21.1.TallyBook.Counts.length c26,Value.map m27],I r21.2])] ⟨q36,trivial⟩ ?_
  refine p_ext rfl rfl<|wp_nil ?_
  exact ⟨_,rfl,S_.keep,rfl⟩
 ·intro e_ w_ k_ hf_ hR_
  have S_:St w_ nF w_ [] [bl b9 [I 0,I 0] 33,bl b6 [I a0.Trips,I a0.Room,SL A1 a0.Counts.length c2] 24,rd eTallyCount 7 A1 c2 a0.Counts,gW0,gW1]:=S11.asP k_
  obtain ⟨_,_,_,_,⟨A25,c26,m27⟩,q41,p42,a43⟩:=hR_ 5 16 rfl (lE rfl) rfl
  replace q41:e_ 16=TU [AG [I r21.1.TallyBook.Trips,I r21.1.TallyBook.Room,SL A25 r21.1.TallyBook.Counts.length c26,Value.map m27],I r21.2]:=q41
  have S_:=St.addL' S_ (a43 _ (.head _)) (fun _ _ _ h_=>(nE h_))
  have S_:=St.addL' S_ (a43 _ (.tail _ (.head _))) (fun _ _ _ h_=>(nE h_))
  obtain ⟨_,_,_,_,q40⟩:=hR_ 6 10 rfl (lE rfl) rfl
  replace q40:e_ 10=TU [AG [I r21.1.TallyBook.Trips,I r21.1.TallyBook.Room,SL A25 r21.1.TallyBook.Counts.length c26,Value.map m27],I r21.2]:=(sJ ((congrArg some q41).symm.trans q40)).symm
  refine hopE [(10,TU [AG [I r21.1.TallyBook.Trips,I r21.1.TallyBook.Room,SL A25 r21.1.TallyBook.Counts.length c26,Value.map m27],I r21.2])] ⟨q40,trivial⟩ ?_
  refine p_ext rfl rfl<|wp_nil ?_
  exact ⟨_,rfl,S_.keep,rfl⟩
 ·intro e_ w_ k_ hf_ hR_
  have S_:St w_ nF w_ [] [bl b9 [I 0,I 0] 33,bl b6 [I a0.Trips,I a0.Room,SL A1 a0.Counts.length c2] 24,rd eTallyCount 7 A1 c2 a0.Counts,gW0,gW1]:=S11.asP k_
  refine hopE [] trivial ?_
  refine p_allA in51 S_ fun b44 w45 S46=>wp_nil ?_
  exact ⟨_,rfl,S46.keep,⟨b44,rfl,⟨bL (New.al (S46.newX (i:=0) rfl)) rfl (S46.atX (i:=0) rfl) rfl,trivial⟩,(cA (S46.atX (i:=0) rfl) nM)⟩⟩
 ·intro e47 w48 lo49 hi50 k51 hf52 hR53 hd54
  have S55:=S11.call k51
  have q56:e47 11=AG [I a0.Trips,I a0.Room,SL A1 a0.Counts.length c2]:=(hR53 0 11 (lE rfl) rfl).2.2.2
  have q57:e47 12=AG [I a0.Trips,I a0.Room,SL A1 a0.Counts.length c2]:=(hR53 1 12 (lE rfl) rfl).2.2.2
  have q58:e47 13=I a1:=(hR53 2 13 (lE rfl) rfl).2.2.2
  have q59:e47 14=I a2:=(hR53 3 14 (lE rfl) rfl).2.2.2
  have q60:e47 15=B r15:=(hR53 4 15 (lE rfl) rfl).2.2.2
  obtain ⟨h62,h63,h64,⟨A25,c26,m27⟩,q61,h65,h66⟩:=hR53 5 16 (lE rfl) rfl
  replace q61:e47 16=TU [AG [I r21.1.TallyBook.Trips,I r21.1.TallyBook.Room,SL A25 r21.1.TallyBook.Counts.length c26,Value.map m27],I r21.2]:=q61
  obtain ⟨p67,p68,_⟩:=h65
  have S69:=St.addR S55 (h66 _ (.head _)) (oR p67 h62 S11 (mG [0] rfl))
  have S70:=St.addR S69 (h66 _ (.tail _ (.head _))) (oR p68 h62 S11 (nM))
  have q71:e47 10=TU [AG [I r21.1.TallyBook.Trips,I r21.1.TallyBook.Room,SL A25 r21.1.TallyBook.Counts.length c26,Value.map m27],I r21.2]:=(sJ ((congrArg some q61).symm.trans (hR53 6 10 (lE rfl) rfl).2.2.2)).symm
  have q72:e47 17=AG [I r21.1.TallyBook.Trips,I r21.1.TallyBook.Room,SL A25 r21.1.TallyBook.Counts.length c26,Value.map m27]:=(sJ ((congrArg (exG 0) q71).symm.trans (hR53 7 17 (lE rfl) rfl).2.2.2)).symm
  have q73:e47 18=I r21.2:=(sJ ((congrArg (exG 1) q71).symm.trans (hR53 8 18 (lE rfl) rfl).2.2.2)).symm
  obtain ⟨h75,h76,h77,b44,q74,h78,h79⟩:=hR53 9 8 (lE rfl) rfl
  replace q74:e47 8=P b44 0:=q74
  obtain ⟨p80,_⟩:=h78
  have S82:=St.addO S70 (h79 _ (.head _)) (oN p80 h75 S11) (oX p80 h75 S11) (cA (oP p80 p68 h75 S11 (nM) (hd54 9 5 (lE rfl) (lE rfl) (by decide))) (cA (oP p80 p67 h75 S11 (mG [0] rfl) (hd54 9 5 (lE rfl) (lE rfl) (by decide))) (oL p80 h75 S11)))
  refine tailE [(1,I a1),(2,I a2),(6,P b9 0),(8,P b44 0),(17,AG [I r21.1.TallyBook.Trips,I r21.1.TallyBook.Room,SL A25 r21.1.TallyBook.Counts.length c26,Value.map m27]),(18,I r21.2)] ⟨((hf52 1 rfl).trans (rfl:_=I a1)),((hf52 2 rfl).trans (rfl:_=I a2)),((hf52 6 rfl).trans (rfl:_=P b9 0)),q74,q72,q73,trivial⟩ ?_
  intro g83
  refine p_stP (pre:=[]) (old:=[I 0,I 0,SL none 0 0,Value.map none]) (post:=[]) (vs:=[I r21.1.TallyBook.Trips,I r21.1.TallyBook.Room,SL A25 r21.1.TallyBook.Counts.length c26,Value.map m27]) sz51 S82 (i:=0) rfl rfl rfl rfl (rfl:_=AG [I r21.1.TallyBook.Trips,I r21.1.TallyBook.Room,SL A25 r21.1.TallyBook.Counts.length c26,Value.map m27]) rfl rfl rfl rfl fun w84 S85=>p_aI rfl<|wp_nil<|c_seq ?_
  refine c_seq<|reg<|p_mI rfl<|p_cmp rfl rfl rfl<|wp_nil ?_
  refine c_cond rfl (fun c86=>?_) (fun c86=>?_)
  ·replace H:=condT c86 H
   refine c_seq<|reg<|p_bld (cs:=[I 0,I 0]) st33 (rfl:_=[]) (by kernel_rfl)<|p_mI rfl<|p_stP (pre:=[]) (old:=[I 0,I 0]) (post:=[]) (vs:=[I 0,I 0]) sz33 S85 (i:=1) rfl rfl rfl rfl (rfl:_=AG [I 0,I 0]) rfl rfl rfl rfl fun w87 S88=>p_aI rfl<|wp_nil ?_
   obtain rfl:=sJ H
   refine c_ret ?_; show bodyPostM (Fr none) 0 Tryd.prog Tryd.f6 _ .ret _ _
   refine ret_of (res2 rfl (rvA rfl ty33 sz33 (S88.atX (i:=1) rfl) rfl) (rvT (rfl:_=I r21.2))) ?_
   exact ⟨_,rfl,rfl,S88.keep⟩
  ·replace H:=condF c86 H
   refine c_skip<|c_seq<|reg<|p_ldA ty51 sz51 (S85.atX (i:=0) rfl) rfl rfl<|p_mI rfl<|p_mI rfl<|p_add rfl rfl ?_
   obtain ⟨r89,h90,H⟩:=bindS H
   refine p_cv (tally_book_many_ok h90 (S85.atP (i:=1) rfl) (S85.atP (i:=0) rfl) (S85.atP (i:=4) rfl)) fu24 rfl S85 fun w91 S92=>p_stP (pre:=[]) (old:=[I 0,I 0]) (post:=[]) (vs:=[I r89.Low,I r89.High]) sz33 S92 (i:=1) rfl rfl rfl rfl (rfl:_=AG [I r89.Low,I r89.High]) rfl rfl rfl rfl fun w93 S94=>p_aI rfl<|wp_nil ?_
   obtain rfl:=sJ H
   refine c_ret ?_; show bodyPostM (Fr none) 0 Tryd.prog Tryd.f6 _ .ret _ _
   refine ret_of (res2 rfl (rvA rfl ty33 sz33 (S94.atX (i:=1) rfl) rfl) (rvT (rfl:_=I 0))) ?_
   exact ⟨_,rfl,rfl,S94.keep⟩
 ·intro e95 w96 lo97 hi98 k99 hf100 hR101 hd102
  have S103:=S11.call k99
  have q104:e95 11=AG [I a0.Trips,I a0.Room,SL A1 a0.Counts.length c2]:=(hR101 0 11 (lE rfl) (by decide) rfl).2.2.2
  have q105:e95 12=AG [I a0.Trips,I a0.Room,SL A1 a0.Counts.length c2]:=(hR101 1 12 (lE rfl) (by decide) rfl).2.2.2
  have q106:e95 13=I a1:=(hR101 2 13 (lE rfl) (by decide) rfl).2.2.2
  have q107:e95 14=I a2:=(hR101 3 14 (lE rfl) (by decide) rfl).2.2.2
  have q108:e95 15=B r15:=(hR101 4 15 (lE rfl) (by decide) rfl).2.2.2
  obtain ⟨h110,h111,h112,⟨A25,c26,m27⟩,q109,h113,h114⟩:=hR101 5 16 (lE rfl) (by decide) rfl
  replace q109:e95 16=TU [AG [I r21.1.TallyBook.Trips,I r21.1.TallyBook.Room,SL A25 r21.1.TallyBook.Counts.length c26,Value.map m27],I r21.2]:=q109
  obtain ⟨p115,p116,_⟩:=h113
  have S117:=St.addR S103 (h114 _ (.head _)) (oR p115 h110 S11 (mG [0] rfl))
  have S118:=St.addR S117 (h114 _ (.tail _ (.head _))) (oR p116 h110 S11 (nM))
  have q119:e95 10=TU [AG [I r21.1.TallyBook.Trips,I r21.1.TallyBook.Room,SL A25 r21.1.TallyBook.Counts.length c26,Value.map m27],I r21.2]:=(sJ ((congrArg some q109).symm.trans (hR101 6 10 (lE rfl) (by decide) rfl).2.2.2)).symm
  have q120:e95 17=AG [I r21.1.TallyBook.Trips,I r21.1.TallyBook.Room,SL A25 r21.1.TallyBook.Counts.length c26,Value.map m27]:=(sJ ((congrArg (exG 0) q119).symm.trans (hR101 7 17 (lE rfl) (by decide) rfl).2.2.2)).symm
  obtain ⟨h122,h123,h124,b44,q121,h125,h126⟩:=hR101 9 8 (lE rfl) (by decide) rfl
  replace q121:e95 8=P b44 0:=q121
  obtain ⟨p127,_⟩:=h125
  have S129:=St.addO S118 (h126 _ (.head _)) (oN p127 h122 S11) (oX p127 h122 S11) (cA (oP p127 p116 h122 S11 (nM) (hd102 9 5 (lE rfl) (lE rfl) (by decide) (by decide) (by decide))) (cA (oP p127 p115 h122 S11 (mG [0] rfl) (hd102 9 5 (lE rfl) (lE rfl) (by decide) (by decide) (by decide))) (oL p127 h122 S11)))
  refine tailE [(1,I a1),(2,I a2),(6,P b9 0),(8,P b44 0),(10,TU [AG [I r21.1.TallyBook.Trips,I r21.1.TallyBook.Room,SL A25 r21.1.TallyBook.Counts.length c26,Value.map m27],I r21.2]),(17,AG [I r21.1.TallyBook.Trips,I r21.1.TallyBook.Room,SL A25 r21.1.TallyBook.Counts.length c26,Value.map m27])] ⟨((hf100 1 rfl).trans (rfl:_=I a1)),((hf100 2 rfl).trans (rfl:_=I a2)),((hf100 6 rfl).trans (rfl:_=P b9 0)),q121,q119,q120,trivial⟩ ?_
  intro g130
  refine p_stP (pre:=[]) (old:=[I 0,I 0,SL none 0 0,Value.map none]) (post:=[]) (vs:=[I r21.1.TallyBook.Trips,I r21.1.TallyBook.Room,SL A25 r21.1.TallyBook.Counts.length c26,Value.map m27]) sz51 S129 (i:=0) rfl rfl rfl rfl (rfl:_=AG [I r21.1.TallyBook.Trips,I r21.1.TallyBook.Room,SL A25 r21.1.TallyBook.Counts.length c26,Value.map m27]) rfl rfl rfl rfl fun w131 S132=>p_ext rfl rfl ?_
  refine p_aI rfl<|wp_nil<|c_seq<|c_seq<|reg<|p_mI rfl<|p_cmp rfl rfl rfl<|wp_nil ?_
  refine c_cond rfl (fun c133=>?_) (fun c133=>?_)
  ·replace H:=condT c133 H
   refine c_seq<|reg<|p_bld (cs:=[I 0,I 0]) st33 (rfl:_=[]) (by kernel_rfl)<|p_mI rfl<|p_stP (pre:=[]) (old:=[I 0,I 0]) (post:=[]) (vs:=[I 0,I 0]) sz33 S132 (i:=1) rfl rfl rfl rfl (rfl:_=AG [I 0,I 0]) rfl rfl rfl rfl fun w134 S135=>p_aI rfl<|wp_nil ?_
   obtain rfl:=sJ H
   refine c_ret ?_; show bodyPostM (Fr none) 0 Tryd.prog Tryd.f6 _ .ret _ _
   refine ret_of (res2 rfl (rvA rfl ty33 sz33 (S135.atX (i:=1) rfl) rfl) (rvT (rfl:_=I r21.2))) ?_
   exact ⟨_,rfl,rfl,S135.keep⟩
  ·replace H:=condF c133 H
   refine c_skip<|c_seq<|reg<|p_ldA ty51 sz51 (S132.atX (i:=0) rfl) rfl rfl<|p_mI rfl<|p_mI rfl<|p_add rfl rfl ?_
   obtain ⟨r136,h137,H⟩:=bindS H
   refine p_cv (tally_book_many_ok h137 (S132.atP (i:=1) rfl) (S132.atP (i:=0) rfl) (S132.atP (i:=4) rfl)) fu24 rfl S132 fun w138 S139=>p_stP (pre:=[]) (old:=[I 0,I 0]) (post:=[]) (vs:=[I r136.Low,I r136.High]) sz33 S139 (i:=1) rfl rfl rfl rfl (rfl:_=AG [I r136.Low,I r136.High]) rfl rfl rfl rfl fun w140 S141=>p_aI rfl<|wp_nil ?_
   obtain rfl:=sJ H
   refine c_ret ?_; show bodyPostM (Fr none) 0 Tryd.prog Tryd.f6 _ .ret _ _
   refine ret_of (res2 rfl (rvA rfl ty33 sz33 (S141.atX (i:=1) rfl) rfl) (rvT (rfl:_=I 0))) ?_
   exact ⟨_,rfl,rfl,S141.keep⟩
def tally_sum_l1 (a0:List Int) (rec_z_1:(Int×Int)→Option Int) (z_1:Int×Int):Option Int:=
 bif decide (z_1.2 < (a0.length:Int)) then ((getI a0 z_1.2).bind fun r9=>
 rec_z_1 (wr (z_1.1+r9),wr (z_1.2+1)))
 else (some z_1.1)
def tally_sum (a0:List Int):Option Int:=
 loopF (tally_sum_l1 a0) big (0,0)
set_option maxRecDepth 100000 in
theorem tally_sum_ok {a0:List Int}{A1:Option Addr}{c2:Nat}{w:World}{r:Int} (H:tally_sum a0=some r) (h3:(rd intE 1 A1 c2 a0).ok w):Calls Tryd.prog 36 #[SL A1 a0.length c2] w (RetV w (I r)):=by
 unfold tally_sum at H
 refine fn_of (n:=17) Tryd.func36 rfl rfl (lE rfl) ?_
 have S:=St.start w nF _ (cA h3 nM)
 refine c_seq<|reg<|p_aI rfl<|wp_nil<|c_seq<|reg<|p_aI rfl<|wp_nil<|c_seq<|c_seq<|reg<|p_mS rfl<|p_len rfl sc40<|p_mI rfl<|wp_nil<|c_block ?_
 refine c_lop (α:=Int×Int) (β:=Unit) (tally_sum_l1 a0) (fun z_1 y_1=>[(3,I z_1.1),(6,SL A1 a0.length c2),(7,I (a0.length:Int)),(8,I z_1.2)]) (fun z_1 y_1 w_=>St w nF w_ [] [rd intE 1 A1 c2 a0]) (0,0) () H ⟨rfl,rfl,rfl,rfl,trivial⟩ S ?_
 intro m4 z_1 y_1 e5 w6 H S7
 unfold tally_sum_l1 at H
 refine c_seq<|reg<|p_cmp rfl rfl rfl<|wp_nil<|c_seq ?_
 refine c_cond rfl (fun c8=>?_) (fun c8=>?_)
 ·replace H:=condT c8 H
  refine c_skip<|c_seq<|c_block<|c_seq<|reg ?_
  obtain ⟨r9,h10,H⟩:=bindS H
  refine p_ixE sc40 h10 (S7.atP (i:=0) rfl).1 rfl rfl rfl<|p_ldE ty3 h10 (S7.atP (i:=0) rfl).1 rfl rfl<|p_aI rfl<|wp_nil<|reg<|p_mI rfl<|p_mI rfl<|p_add rfl rfl<|p_aI rfl<|wp_nil<|reg<|p_add rfl rfl<|p_mI rfl<|wp_nil ?_
  exact ⟨(wr (z_1.1+r9),wr (z_1.2+1)),(),_,rfl,⟨rfl,rfl,rfl,rfl,trivial⟩,H,S7⟩
 ·replace H:=condF c8 H
  refine c_exit<|c_seq<|reg<|p_mI rfl<|p_aI rfl<|wp_nil ?_
  obtain rfl:=sJ H
  exact c_ret (rT Tryd.f36 S7.keep rfl rfl)
def tally_count_right (a0:TallyCount) (a1:List Int):Option Bool:=
 (cutI a1 a0.From (wr (a0.To+1))).bind fun r8=>
 (tally_sum r8).bind fun r10=>
 (tally_count_least a0).bind fun r12=>
 (tally_count_most a0).bind fun r14=>
 (tally_within r10 r12 r14).bind fun r16=>
 some r16
set_option maxRecDepth 100000 in
theorem tally_count_right_ok {a0:TallyCount}{a1:List Int}{A1:Option Addr}{c2:Nat}{w:World}{r:Bool} (H:tally_count_right a0 a1=some r) (h3:(rd intE 1 A1 c2 a1).ok w) (hg4:(gW0).ok w):Calls Tryd.prog 26 #[AG [I a0.Who,I a0.From,I a0.To,I a0.Told,I a0.Unit,I a0.Under,I a0.Over],SL A1 a1.length c2] w (RetV w (B r)):=by
 unfold tally_count_right at H
 refine fn_of (n:=22) Tryd.func26 rfl rfl (lE rfl) ?_
 have S:=St.start w nF _ (cA h3 (cA hg4 nM))
 refine c_seq<|reg<|p_boxA rfl S fun b5 w6 S7=>p_aB rfl<|wp_nil<|c_seq ?_
 obtain ⟨r8,h9,H⟩:=bindS H
 obtain ⟨r10,h11,H⟩:=bindS H
 obtain ⟨r12,h13,H⟩:=bindS H
 obtain ⟨r14,h15,H⟩:=bindS H
 obtain ⟨r16,h17,H⟩:=bindS H
 refine reg_q mixed 18 (by kernel_rfl) ?_
 refine dS (fun _ k_=>p_mS rfl dn)<|dS (fun _ k_=>p_fld fl62_1 rfl dn)<|dS (fun _ k_=>p_ld ty3 (aS (S7.atX (i:=0) rfl) k_) rfl rfl dn)<|dS (fun _ k_=>p_fld fl62_2 rfl dn)<|dS (fun _ k_=>p_ld ty3 (aS (S7.atX (i:=0) rfl) k_) rfl rfl dn)<|dS (fun _ k_=>p_add rfl rfl dn)<|dS (fun _ k_=>p_cut sc40 h9 (aS (S7.atP (i:=0) rfl) k_) rfl rfl rfl dn) ?_
 refine dS (fun _ k_=>p_cvD (tally_sum_ok h11 (rd_cut h9 (aS (S7.atP (i:=0) rfl) k_))) fu36 rfl)<|dS (fun _ k_=>p_ixc ar73 rfl rfl (by decide) (by decide) dn)<|dS (fun _ k_=>p_ld ty72 (aS (S7.atP (i:=1) rfl) k_) rfl rfl dn)<|dS (fun _ k_=>p_ldA ty62 sz62 (aS (S7.atX (i:=0) rfl) k_) rfl rfl dn)<|dS (fun _ k_=>p_cvD (tally_count_least_ok h13) fu59 rfl) ?_
 refine dS (fun _ k_=>p_ixc ar73 rfl rfl (by decide) (by decide) dn)<|dS (fun _ k_=>p_ld ty72 (aS (S7.atP (i:=1) rfl) k_) rfl rfl dn)<|dS (fun _ k_=>p_ldA ty62 sz62 (aS (S7.atX (i:=0) rfl) k_) rfl rfl dn)<|dS (fun _ k_=>p_cvD (tally_count_most_ok h15) fu61 rfl)<|dS (fun _ k_=>p_cvD (tally_within_ok h17) fu25 rfl)<|dS (fun _ k_=>p_aB rfl dn) ?_
 intro w18 k19; have S20:=S7.call k19
 refine wp_nil ?_
 obtain rfl:=sJ H
 exact c_ret (rT Tryd.f26 S20.keep rfl rfl)
def tally_Can_l2 (a0:TallyBook) (a1:List Int) (rec_z_2:Int→Option (Bool×Int)) (z_2:Int):Option (Bool×Int):=
 bif decide (z_2 < (a0.Counts.length:Int)) then ((getI a0.Counts z_2).bind fun r34=>
 (tally_count_right r34 a1).bind fun r36=>
 bif !r36 then (some (false,0))
 else (rec_z_2 (wr (z_2+1))))
 else (some (true,0))
def tally_Can_l3 (a1:List Int) (a0:TallyBook) (rec_z_1:Int→Option (Bool×Int)) (z_1:Int):Option (Bool×Int):=
 bif decide (z_1 < (a1.length:Int)) then ((getI a1 z_1).bind fun r22=>
 (tally_within r22 0 a0.Room).bind fun r24=>
 bif !r24 then (some (false,0))
 else (rec_z_1 (wr (z_1+1))))
 else (loopF (tally_Can_l2 a0 a1) big 0)
def tally_Can (a0:TallyBook) (a1:List Int):Option (Bool×Int):=
 (tally_Check a0).bind fun r11=>
 bif (r11 != 0) then (some (false,r11))
 else (bif ((a1.length:Int) != a0.Trips) then (some (false,51))
 else (loopF (tally_Can_l3 a1 a0) big 0))
set_option maxRecDepth 100000 in
theorem tally_Can_ok {a0:TallyBook}{a1:List Int}{A1:Option Addr}{c2:Nat}{A4:Option Addr}{c5:Nat}{w:World}{r:Bool×Int} (H:tally_Can a0 a1=some r) (h3:(rd eTallyCount 7 A1 c2 a0.Counts).ok w) (h6:(rd intE 1 A4 c5 a1).ok w) (hg7:(gW0).ok w):Calls Tryd.prog 7 #[AG [I a0.Trips,I a0.Room,SL A1 a0.Counts.length c2],SL A4 a1.length c5] w (RetV w (TU [B r.1,I r.2])):=by
 unfold tally_Can at H
 refine fn_of (n:=50) Tryd.func7 rfl rfl (lE rfl) ?_
 have S:=St.start w nF _ (cA h3 (cA h6 (cA hg7 nM)))
 refine c_seq<|reg<|p_boxA rfl S fun b8 w9 S10=>p_aB rfl<|p_aI rfl<|wp_nil<|c_seq<|c_seq<|reg<|p_ldA ty24 sz24 (S10.atX (i:=0) rfl) rfl rfl ?_
 obtain ⟨r11,h12,H⟩:=bindS H
 refine p_cv (tally_Check_ok h12 (S10.atP (i:=0) rfl)) fu14 rfl S10 fun w13 S14=>p_aI rfl<|wp_nil<|c_seq<|reg<|p_mI rfl<|p_cmp rfl rfl rfl<|wp_nil ?_
 refine c_cond rfl (fun c15=>?_) (fun c15=>?_)
 ·replace H:=condT c15 H
  refine c_seq<|reg<|p_mI rfl<|p_aB rfl<|p_aI rfl<|wp_nil ?_
  obtain rfl:=sJ H
  refine c_ret ?_; show bodyPostM (Fr none) 0 Tryd.prog Tryd.f7 _ .ret _ _
  refine ret_of (res2 rfl (rvT (rfl:_=B false)) (rvT (rfl:_=I r11))) ?_
  exact ⟨_,rfl,rfl,S14.keep⟩
 ·replace H:=condF c15 H
  refine c_skip<|c_seq<|c_seq<|reg<|p_mS rfl<|p_len rfl sc40<|p_fld fl24_0 rfl<|p_ld ty3 (S14.atX (i:=0) rfl) rfl rfl<|p_cmp rfl rfl rfl<|wp_nil ?_
  refine c_cond rfl (fun c16=>?_) (fun c16=>?_)
  ·replace H:=condT c16 H
   refine c_seq<|reg<|p_aB rfl<|p_aI rfl<|wp_nil ?_
   obtain rfl:=sJ H
   refine c_ret ?_; show bodyPostM (Fr none) 0 Tryd.prog Tryd.f7 _ .ret _ _
   refine ret_of (res2 rfl (rvT (rfl:_=B false)) (rvT (rfl:_=I 51))) ?_
   exact ⟨_,rfl,rfl,S14.keep⟩
  ·replace H:=condF c16 H
   refine c_skip<|c_seq<|c_seq<|reg<|p_mS rfl<|p_len rfl sc40<|p_mI rfl<|wp_nil<|c_block ?_
   refine c_lop (α:=Int) (β:=Unit) (tally_Can_l3 a1 a0) (fun z_1 y_1=>[(1,SL A4 a1.length c5),(2,P b8 0),(21,SL A4 a1.length c5),(22,I (a1.length:Int)),(23,I z_1)]) (fun z_1 y_1 w_=>St w nF w_ [bl b8 [I a0.Trips,I a0.Room,SL A1 a0.Counts.length c2] 24] [rd eTallyCount 7 A1 c2 a0.Counts,rd intE 1 A4 c5 a1,gW0]) 0 () H ⟨rfl,rfl,rfl,rfl,rfl,trivial⟩ S14 ?_
   intro m17 z_1 y_1 e18 w19 H S20
   unfold tally_Can_l3 at H
   refine c_seq<|reg<|p_cmp rfl rfl rfl<|wp_nil<|c_seq ?_
   refine c_cond rfl (fun c21=>?_) (fun c21=>?_)
   ·replace H:=condT c21 H
    refine c_skip<|c_seq<|c_block<|c_seq<|reg ?_
    obtain ⟨r22,h23,H⟩:=bindS H
    refine p_ixE sc40 h23 (S20.atP (i:=1) rfl).1 rfl rfl rfl<|p_ldE ty3 h23 (S20.atP (i:=1) rfl).1 rfl rfl<|p_aI rfl<|wp_nil<|c_seq<|reg<|p_mI rfl<|p_fld fl24_1 rfl<|p_ld ty3 (S20.atX (i:=0) rfl) rfl rfl ?_
    obtain ⟨r24,h25,H⟩:=bindS H
    refine p_cv (tally_within_ok h25) fu25 rfl S20 fun w26 S27=>p_not rfl<|wp_nil ?_
    refine c_cond rfl (fun c28=>?_) (fun c28=>?_)
    ·replace H:=condT c28 H
     refine c_seq<|reg<|p_aB rfl<|p_aI rfl<|wp_nil ?_
     obtain rfl:=sJ H
     refine c_ret ?_; show bodyPostM (Fr none) 0 Tryd.prog Tryd.f7 _ .ret _ _
     refine ret_of (res2 rfl (rvT (rfl:_=B false)) (rvT (rfl:_=I 0))) ?_
     exact ⟨_,rfl,rfl,S27.keep⟩
    ·replace H:=condF c28 H
     refine c_skip<|reg<|p_add rfl rfl<|p_mI rfl<|wp_nil ?_
     exact ⟨wr (z_1+1),(),_,rfl,⟨rfl,rfl,rfl,rfl,rfl,trivial⟩,H,S27⟩
   ·replace H:=condF c21 H
    refine c_exit<|c_seq<|c_seq<|reg<|p_fld fl24_2 rfl<|p_ld ty22 (S20.atX (i:=0) rfl) rfl rfl<|p_len rfl sc22<|p_mI rfl<|wp_nil<|c_block ?_
    refine c_lop (α:=Int) (β:=Unit) (tally_Can_l2 a0 a1) (fun z_2 y_2=>[(1,SL A4 a1.length c5),(2,P b8 0),(35,I (a0.Counts.length:Int)),(36,I z_2)]) (fun z_2 y_2 w_=>St w nF w_ [bl b8 [I a0.Trips,I a0.Room,SL A1 a0.Counts.length c2] 24] [rd eTallyCount 7 A1 c2 a0.Counts,rd intE 1 A4 c5 a1,gW0]) 0 () H ⟨rfl,rfl,rfl,rfl,trivial⟩ S20 ?_
    intro m29 z_2 y_2 e30 w31 H S32
    unfold tally_Can_l2 at H
    refine c_seq<|reg<|p_cmp rfl rfl rfl<|wp_nil<|c_seq ?_
    refine c_cond rfl (fun c33=>?_) (fun c33=>?_)
    ·replace H:=condT c33 H
     refine c_skip<|c_seq<|c_block<|c_seq<|reg<|p_mI rfl<|p_aI rfl<|wp_nil<|c_seq<|reg<|p_fld fl24_2 rfl<|p_ld ty22 (S32.atX (i:=0) rfl) rfl rfl<|p_mI rfl ?_
     obtain ⟨r34,h35,H⟩:=bindS H
     refine p_ixE sc22 h35 (S32.atP (i:=0) rfl).1 rfl rfl rfl<|p_ldEA ty28 sz28 rfl h35 (S32.atP (i:=0) rfl).1 rfl ?_
     refine o_fun (rfl:_=[AG [I r34.Who,I r34.From,I r34.To,I r34.Told,I r34.Unit,I r34.Under,I r34.Over]]) (rfl:_=[]) ?_
     refine p_asg (rfl:_=vF (.func 26) #[AG [I r34.Who,I r34.From,I r34.To,I r34.Told,I r34.Unit,I r34.Under,I r34.Over]] #[])<|wp_nil<|c_seq<|reg<|p_mov (rfl:_=vF (.func 26) #[AG [I r34.Who,I r34.From,I r34.To,I r34.Told,I r34.Unit,I r34.Under,I r34.Over]] #[])<|p_mS rfl ?_
     obtain ⟨r36,h37,H⟩:=bindS H
     refine p_cv (tally_count_right_ok h37 (S32.atP (i:=1) rfl) (S32.atP (i:=2) rfl)) fu26 rfl S32 fun w38 S39=>p_not rfl<|wp_nil ?_
     refine c_cond rfl (fun c40=>?_) (fun c40=>?_)
     ·replace H:=condT c40 H
      refine c_seq<|reg<|p_aB rfl<|p_aI rfl<|wp_nil ?_
      obtain rfl:=sJ H
      refine c_ret ?_; show bodyPostM (Fr none) 0 Tryd.prog Tryd.f7 _ .ret _ _
      refine ret_of (res2 rfl (rvT (rfl:_=B false)) (rvT (rfl:_=I 0))) ?_
      exact ⟨_,rfl,rfl,S39.keep⟩
     ·replace H:=condF c40 H
      refine c_skip<|reg<|p_add rfl rfl<|p_mI rfl<|wp_nil ?_
      exact ⟨wr (z_2+1),(),_,rfl,⟨rfl,rfl,rfl,rfl,trivial⟩,H,S39⟩
    ·replace H:=condF c33 H
     refine c_exit<|c_seq<|reg<|p_aB rfl<|p_aI rfl<|wp_nil ?_
     obtain rfl:=sJ H
     refine c_ret ?_; show bodyPostM (Fr none) 0 Tryd.prog Tryd.f7 _ .ret _ _
     refine ret_of (res2 rfl (rvT (rfl:_=B true)) (rvT (rfl:_=I 0))) ?_
     exact ⟨_,rfl,rfl,S32.keep⟩
def tally_Pays (a0:TallyBook) (a1:Int):Option (Span×Int):=
 (tally_within a1 0 99).bind fun r13=>
 (tally_asked a0 r13).bind fun r19=>
 bif (r19.2 != 0) then (some ((Span.mk 0 0),r19.2))
 else ((tally_book_many r19.1 0 a0.Trips).bind fun r85=>
 some ((Span.mk (wr (r85.Low*a1)) (wr (r85.High*a1))),0))
set_option maxRecDepth 100000 in
theorem tally_Pays_ok {a0:TallyBook}{a1:Int}{A1:Option Addr}{c2:Nat}{w:World}{r:Span×Int} (H:tally_Pays a0 a1=some r) (h3:(rd eTallyCount 7 A1 c2 a0.Counts).ok w) (hg4:(gW0).ok w) (hg5:(gW1).ok w):Calls Tryd.prog 8 #[AG [I a0.Trips,I a0.Room,SL A1 a0.Counts.length c2],I a1] w (RetV w (TU [AG [I r.1.Low,I r.1.High],I r.2])):=by
 unfold tally_Pays at H
 refine fn_of (n:=33) Tryd.func8 rfl rfl (lE rfl) ?_
 have S:=St.start w nF _ (cA h3 (cA hg4 (cA hg5 nM)))
 refine c_seq<|reg<|p_boxA rfl S fun b6 w7 S8=>p_allA in33 S8 fun b9 w10 S11=>p_aI rfl<|wp_nil<|c_seq ?_
 obtain ⟨r13,h14,H⟩:=bindS H
 obtain ⟨r19,h20,H⟩:=bindS H
 refine reg_fl mixed 8 6 (by kernel_rfl) [rv (AG [I a0.Trips,I a0.Room,SL A1 a0.Counts.length c2]),rv (I a1),rv (B r13),rx (α:=(Option Addr)×Nat×(Option Nat)) (fun ⟨A23,c24,m25⟩=>TU [AG [I r19.1.TallyBook.Trips,I r19.1.TallyBook.Room,SL A23 r19.1.TallyBook.Counts.length c24,Value.map m25],I r19.2]) (fun ⟨A23,c24,m25⟩ lo hi=>BtwL lo hi [rd eTallyCount 7 A1 c2 a0.Counts] (rd eTallyCount 7 A23 c24 r19.1.TallyBook.Counts)∧BtwL lo hi [] (mpo ekT iE m25 r19.1.more_)∧True) (fun ⟨A23,c24,m25⟩=>[rd eTallyCount 7 A23 c24 r19.1.TallyBook.Counts,mpo ekT iE m25 r19.1.more_]),dv 13 some,dv 9 (exG 0),dv 9 (exG 1),rx (α:=Nat) (fun b42=>P b42 0) (fun b42 lo hi=>BtwL lo hi [] (bl b42 [I 0,I 0,SL none 0 0,Value.map none] 51)∧True) (fun b42=>[bl b42 [I 0,I 0,SL none 0 0,Value.map none] 51])] [[],[],[],[],[13],[9],[9],[]] rfl (by kernel_rfl) [[],[],[1],[0,1,2],[0,1,2,3],[0,1,2,3,4],[0,1,2,3,4],[],[0,1,2,3,4,5,7],[0,1,2,3,4,5,6,7,8]] (by kernel_rfl) ⟨?_,?_,?_,?_,?_,?_,?_,?_,trivial⟩ ?_ ?_
 ·intro e_ w_ k_ hf_ hR_
  have S_:St w_ nF w_ [] [bl b9 [I 0,I 0] 33,bl b6 [I a0.Trips,I a0.Room,SL A1 a0.Counts.length c2] 24,rd eTallyCount 7 A1 c2 a0.Counts,gW0,gW1]:=S11.asP k_
  refine hopE [(2,P b6 0)] ⟨((hf_ 2 rfl).trans (rfl:_=P b6 0)),trivial⟩ ?_
  exact p_ldA ty24 sz24 (S_.atP (i:=1) rfl) rfl rfl<|wp_nil ⟨_,rfl,S_.keep,rfl⟩
 ·intro e_ w_ k_ hf_ hR_
  have S_:St w_ nF w_ [] [bl b9 [I 0,I 0] 33,bl b6 [I a0.Trips,I a0.Room,SL A1 a0.Counts.length c2] 24,rd eTallyCount 7 A1 c2 a0.Counts,gW0,gW1]:=S11.asP k_
  refine hopE [(1,I a1)] ⟨((hf_ 1 rfl).trans (rfl:_=I a1)),trivial⟩ ?_
  exact p_mI rfl<|wp_nil ⟨_,rfl,S_.keep,rfl⟩
 ·intro e_ w_ k_ hf_ hR_
  have S_:St w_ nF w_ [] [bl b9 [I 0,I 0] 33,bl b6 [I a0.Trips,I a0.Room,SL A1 a0.Counts.length c2] 24,rd eTallyCount 7 A1 c2 a0.Counts,gW0,gW1]:=S11.asP k_
  refine hopE [(11,I a1)] ⟨rQ (hR_ 1 11 rfl (lE rfl) rfl),trivial⟩ ?_
  refine p_cv (tally_within_ok h14) fu25 rfl S_ fun w15 S16=>wp_nil ?_
  exact ⟨_,rfl,S16.keep,rfl⟩
 ·intro e_ w_ k_ hf_ hR_
  have S_:St w_ nF w_ [] [bl b9 [I 0,I 0] 33,bl b6 [I a0.Trips,I a0.Room,SL A1 a0.Counts.length c2] 24,rd eTallyCount 7 A1 c2 a0.Counts,gW0,gW1]:=S11.asP k_
  refine hopE [(10,AG [I a0.Trips,I a0.Room,SL A1 a0.Counts.length c2]),(12,B r13)] ⟨rQ (hR_ 0 10 rfl (lE rfl) rfl),rQ (hR_ 2 12 rfl (lE rfl) rfl),trivial⟩ ?_
  refine p_cal (tally_asked_ok h20 (S_.atP (i:=2) rfl) (S_.atP (i:=3) rfl) (S_.atP (i:=4) rfl)) fu22 rfl ?_
  rintro _ w21 ⟨A23,c24,m25,rfl,k22,⟨o26,n27⟩,⟨o28,n29⟩,_⟩
  have S30:=S_.callN k22 [rd eTallyCount 7 A23 c24 r19.1.TallyBook.Counts,mpo ekT iE m25 r19.1.more_] (cA ⟨o26,Al.inL n27 ((cA (fp_mem (i:=2) rfl) nM))⟩ (cA ⟨o28,New.inL n29⟩ nM))
  exact wp_nil ⟨_,rfl,S30.keep,⟨(A23,c24,m25),rfl,⟨bL n27 rfl (S30.atP (i:=0) rfl) rfl,bL (New.al (New.mono n29 S_.keep.size)) rfl (S30.atP (i:=1) rfl) rfl,trivial⟩,(cA (S30.atP (i:=0) rfl) (cA (S30.atP (i:=1) rfl) nM))⟩⟩
 ·intro e_ w_ k_ hf_ hR_
  have S_:St w_ nF w_ [] [bl b9 [I 0,I 0] 33,bl b6 [I a0.Trips,I a0.Room,SL A1 a0.Counts.length c2] 24,rd eTallyCount 7 A1 c2 a0.Counts,gW0,gW1]:=S11.asP k_
  obtain ⟨_,_,_,_,⟨A23,c24,m25⟩,q31,p32,a33⟩:=hR_ 3 13 rfl (lE rfl) rfl
  replace q31:e_ 13=TU [AG [I r19.1.TallyBook.Trips,I r19.1.TallyBook.Room,SL A23 r19.1.TallyBook.Counts.length c24,Value.map m25],I r19.2]:=q31
  have S_:=St.addL' S_ (a33 _ (.head _)) (fun _ _ _ h_=>(nE h_))
  have S_:=St.addL' S_ (a33 _ (.tail _ (.head _))) (fun _ _ _ h_=>(nE h_))
  refine hopE [(13,TU [AG [I r19.1.TallyBook.Trips,I r19.1.TallyBook.Room,SL A23 r19.1.TallyBook.Counts.length c24,Value.map m25],I r19.2])] ⟨q31,trivial⟩ ?_
  refine p_mT rfl<|wp_nil ?_
  exact ⟨_,rfl,S_.keep,rfl⟩
 ·intro e_ w_ k_ hf_ hR_
  have S_:St w_ nF w_ [] [bl b9 [I 0,I 0] 33,bl b6 [I a0.Trips,I a0.Room,SL A1 a0.Counts.length c2] 24,rd eTallyCount 7 A1 c2 a0.Counts,gW0,gW1]:=S11.asP k_
  obtain ⟨_,_,_,_,⟨A23,c24,m25⟩,q35,p36,a37⟩:=hR_ 3 13 rfl (lE rfl) rfl
  replace q35:e_ 13=TU [AG [I r19.1.TallyBook.Trips,I r19.1.TallyBook.Room,SL A23 r19.1.TallyBook.Counts.length c24,Value.map m25],I r19.2]:=q35
  have S_:=St.addL' S_ (a37 _ (.head _)) (fun _ _ _ h_=>(nE h_))
  have S_:=St.addL' S_ (a37 _ (.tail _ (.head _))) (fun _ _ _ h_=>(nE h_))
  obtain ⟨_,_,_,_,q34⟩:=hR_ 4 9 rfl (lE rfl) rfl
  replace q34:e_ 9=TU [AG [I r19.1.TallyBook.Trips,I r19.1.TallyBook.Room,SL A23 r19.1.TallyBook.Counts.length c24,Value.map m25],I r19.2]:=(sJ ((congrArg some q35).symm.trans q34)).symm
  refine hopE [(9,TU [AG [I r19.1.TallyBook.Trips,I r19.1.TallyBook.Room,SL A23 r19.1.TallyBook.Counts.length c24,Value.map m25],I r19.2])] ⟨q34,trivial⟩ ?_
  refine p_ext rfl rfl<|wp_nil ?_
  exact ⟨_,rfl,S_.keep,rfl⟩
 ·intro e_ w_ k_ hf_ hR_
  have S_:St w_ nF w_ [] [bl b9 [I 0,I 0] 33,bl b6 [I a0.Trips,I a0.Room,SL A1 a0.Counts.length c2] 24,rd eTallyCount 7 A1 c2 a0.Counts,gW0,gW1]:=S11.asP k_
  obtain ⟨_,_,_,_,⟨A23,c24,m25⟩,q39,p40,a41⟩:=hR_ 3 13 rfl (lE rfl) rfl
  replace q39:e_ 13=TU [AG [I r19.1.TallyBook.Trips,I r19.1.TallyBook.Room,SL A23 r19.1.TallyBook.Counts.length c24,Value.map m25],I r19.2]:=q39
  have S_:=St.addL' S_ (a41 _ (.head _)) (fun _ _ _ h_=>(nE h_))
  have S_:=St.addL' S_ (a41 _ (.tail _ (.head _))) (fun _ _ _ h_=>(nE h_))
  obtain ⟨_,_,_,_,q38⟩:=hR_ 4 9 rfl (lE rfl) rfl
  replace q38:e_ 9=TU [AG [I r19.1.TallyBook.Trips,I r19.1.TallyBook.Room,SL A23 r19.1.TallyBook.Counts.length c24,Value.map m25],I r19.2]:=(sJ ((congrArg some q39).symm.trans q38)).symm
  refine hopE [(9,TU [AG [I r19.1.TallyBook.Trips,I r19.1.TallyBook.Room,SL A23 r19.1.TallyBook.Counts.length c24,Value.map m25],I r19.2])] ⟨q38,trivial⟩ ?_
  refine p_ext rfl rfl<|wp_nil ?_
  exact ⟨_,rfl,S_.keep,rfl⟩
 ·intro e_ w_ k_ hf_ hR_
  have S_:St w_ nF w_ [] [bl b9 [I 0,I 0] 33,bl b6 [I a0.Trips,I a0.Room,SL A1 a0.Counts.length c2] 24,rd eTallyCount 7 A1 c2 a0.Counts,gW0,gW1]:=S11.asP k_
  refine hopE [] trivial ?_
  refine p_allA in51 S_ fun b42 w43 S44=>wp_nil ?_
  exact ⟨_,rfl,S44.keep,⟨b42,rfl,⟨bL (New.al (S44.newX (i:=0) rfl)) rfl (S44.atX (i:=0) rfl) rfl,trivial⟩,(cA (S44.atX (i:=0) rfl) nM)⟩⟩
 ·intro e45 w46 lo47 hi48 k49 hf50 hR51 hd52
  have S53:=S11.call k49
  have q54:e45 10=AG [I a0.Trips,I a0.Room,SL A1 a0.Counts.length c2]:=(hR51 0 10 (lE rfl) rfl).2.2.2
  have q55:e45 11=I a1:=(hR51 1 11 (lE rfl) rfl).2.2.2
  have q56:e45 12=B r13:=(hR51 2 12 (lE rfl) rfl).2.2.2
  obtain ⟨h58,h59,h60,⟨A23,c24,m25⟩,q57,h61,h62⟩:=hR51 3 13 (lE rfl) rfl
  replace q57:e45 13=TU [AG [I r19.1.TallyBook.Trips,I r19.1.TallyBook.Room,SL A23 r19.1.TallyBook.Counts.length c24,Value.map m25],I r19.2]:=q57
  obtain ⟨p63,p64,_⟩:=h61
  have S65:=St.addR S53 (h62 _ (.head _)) (oR p63 h58 S11 (mG [0] rfl))
  have S66:=St.addR S65 (h62 _ (.tail _ (.head _))) (oR p64 h58 S11 (nM))
  have q67:e45 9=TU [AG [I r19.1.TallyBook.Trips,I r19.1.TallyBook.Room,SL A23 r19.1.TallyBook.Counts.length c24,Value.map m25],I r19.2]:=(sJ ((congrArg some q57).symm.trans (hR51 4 9 (lE rfl) rfl).2.2.2)).symm
  have q68:e45 14=AG [I r19.1.TallyBook.Trips,I r19.1.TallyBook.Room,SL A23 r19.1.TallyBook.Counts.length c24,Value.map m25]:=(sJ ((congrArg (exG 0) q67).symm.trans (hR51 5 14 (lE rfl) rfl).2.2.2)).symm
  have q69:e45 15=I r19.2:=(sJ ((congrArg (exG 1) q67).symm.trans (hR51 6 15 (lE rfl) rfl).2.2.2)).symm
  obtain ⟨h71,h72,h73,b42,q70,h74,h75⟩:=hR51 7 6 (lE rfl) rfl
  replace q70:e45 6=P b42 0:=q70
  obtain ⟨p76,_⟩:=h74
  have S78:=St.addO S66 (h75 _ (.head _)) (oN p76 h71 S11) (oX p76 h71 S11) (cA (oP p76 p64 h71 S11 (nM) (hd52 7 3 (lE rfl) (lE rfl) (by decide))) (cA (oP p76 p63 h71 S11 (mG [0] rfl) (hd52 7 3 (lE rfl) (lE rfl) (by decide))) (oL p76 h71 S11)))
  refine tailE [(1,I a1),(2,P b6 0),(4,P b9 0),(6,P b42 0),(14,AG [I r19.1.TallyBook.Trips,I r19.1.TallyBook.Room,SL A23 r19.1.TallyBook.Counts.length c24,Value.map m25]),(15,I r19.2)] ⟨((hf50 1 rfl).trans (rfl:_=I a1)),((hf50 2 rfl).trans (rfl:_=P b6 0)),((hf50 4 rfl).trans (rfl:_=P b9 0)),q70,q68,q69,trivial⟩ ?_
  intro g79
  refine p_stP (pre:=[]) (old:=[I 0,I 0,SL none 0 0,Value.map none]) (post:=[]) (vs:=[I r19.1.TallyBook.Trips,I r19.1.TallyBook.Room,SL A23 r19.1.TallyBook.Counts.length c24,Value.map m25]) sz51 S78 (i:=0) rfl rfl rfl rfl (rfl:_=AG [I r19.1.TallyBook.Trips,I r19.1.TallyBook.Room,SL A23 r19.1.TallyBook.Counts.length c24,Value.map m25]) rfl rfl rfl rfl fun w80 S81=>p_aI rfl<|wp_nil<|c_seq ?_
  refine c_seq<|reg<|p_mI rfl<|p_cmp rfl rfl rfl<|wp_nil ?_
  refine c_cond rfl (fun c82=>?_) (fun c82=>?_)
  ·replace H:=condT c82 H
   refine c_seq<|reg<|p_bld (cs:=[I 0,I 0]) st33 (rfl:_=[]) (by kernel_rfl)<|p_mI rfl<|p_stP (pre:=[]) (old:=[I 0,I 0]) (post:=[]) (vs:=[I 0,I 0]) sz33 S81 (i:=1) rfl rfl rfl rfl (rfl:_=AG [I 0,I 0]) rfl rfl rfl rfl fun w83 S84=>p_aI rfl<|wp_nil ?_
   obtain rfl:=sJ H
   refine c_ret ?_; show bodyPostM (Fr none) 0 Tryd.prog Tryd.f8 _ .ret _ _
   refine ret_of (res2 rfl (rvA rfl ty33 sz33 (S84.atX (i:=1) rfl) rfl) (rvT (rfl:_=I r19.2))) ?_
   exact ⟨_,rfl,rfl,S84.keep⟩
  ·replace H:=condF c82 H
   refine c_skip<|c_seq<|reg<|p_ldA ty51 sz51 (S81.atX (i:=0) rfl) rfl rfl<|p_fld fl24_0 rfl<|p_ld ty3 (S81.atX (i:=2) rfl) rfl rfl ?_
   obtain ⟨r85,h86,H⟩:=bindS H
   refine p_cv (tally_book_many_ok h86 (S81.atP (i:=1) rfl) (S81.atP (i:=0) rfl) (S81.atP (i:=4) rfl)) fu24 rfl S81 fun w87 S88=>p_allA in33 S88 fun b89 w90 S91=>p_stP (pre:=[]) (old:=[I 0,I 0]) (post:=[]) (vs:=[I r85.Low,I r85.High]) sz33 S91 (i:=0) rfl rfl rfl rfl (rfl:_=AG [I r85.Low,I r85.High]) rfl rfl rfl rfl fun w92 S93=>wp_nil<|c_seq<|reg<|p_fld fl33_0 rfl ?_
   refine p_ld ty3 (S93.atX (i:=0) rfl) rfl rfl<|p_mI rfl<|p_mul rfl rfl<|p_fld fl33_1 rfl<|p_ld ty3 (S93.atX (i:=0) rfl) rfl rfl<|p_mI rfl<|p_mul rfl rfl<|p_bld (cs:=[I (wr (r85.Low*a1)),I (wr (r85.High*a1))]) st33 (rfl:_=[(0,I (wr (r85.Low*a1))),(1,I (wr (r85.High*a1)))]) (by kernel_rfl) ?_
   refine p_stP (pre:=[]) (old:=[I 0,I 0]) (post:=[]) (vs:=[I (wr (r85.Low*a1)),I (wr (r85.High*a1))]) sz33 S93 (i:=2) rfl rfl rfl rfl (rfl:_=AG [I (wr (r85.Low*a1)),I (wr (r85.High*a1))]) rfl rfl rfl rfl fun w94 S95=>p_aI rfl<|wp_nil ?_
   obtain rfl:=sJ H
   refine c_ret ?_; show bodyPostM (Fr none) 0 Tryd.prog Tryd.f8 _ .ret _ _
   refine ret_of (res2 rfl (rvA rfl ty33 sz33 (S95.atX (i:=2) rfl) rfl) (rvT (rfl:_=I 0))) ?_
   exact ⟨_,rfl,rfl,S95.keep⟩
 ·intro e96 w97 lo98 hi99 k100 hf101 hR102 hd103
  have S104:=S11.call k100
  have q105:e96 10=AG [I a0.Trips,I a0.Room,SL A1 a0.Counts.length c2]:=(hR102 0 10 (lE rfl) (by decide) rfl).2.2.2
  have q106:e96 11=I a1:=(hR102 1 11 (lE rfl) (by decide) rfl).2.2.2
  have q107:e96 12=B r13:=(hR102 2 12 (lE rfl) (by decide) rfl).2.2.2
  obtain ⟨h109,h110,h111,⟨A23,c24,m25⟩,q108,h112,h113⟩:=hR102 3 13 (lE rfl) (by decide) rfl
  replace q108:e96 13=TU [AG [I r19.1.TallyBook.Trips,I r19.1.TallyBook.Room,SL A23 r19.1.TallyBook.Counts.length c24,Value.map m25],I r19.2]:=q108
  obtain ⟨p114,p115,_⟩:=h112
  have S116:=St.addR S104 (h113 _ (.head _)) (oR p114 h109 S11 (mG [0] rfl))
  have S117:=St.addR S116 (h113 _ (.tail _ (.head _))) (oR p115 h109 S11 (nM))
  have q118:e96 9=TU [AG [I r19.1.TallyBook.Trips,I r19.1.TallyBook.Room,SL A23 r19.1.TallyBook.Counts.length c24,Value.map m25],I r19.2]:=(sJ ((congrArg some q108).symm.trans (hR102 4 9 (lE rfl) (by decide) rfl).2.2.2)).symm
  have q119:e96 14=AG [I r19.1.TallyBook.Trips,I r19.1.TallyBook.Room,SL A23 r19.1.TallyBook.Counts.length c24,Value.map m25]:=(sJ ((congrArg (exG 0) q118).symm.trans (hR102 5 14 (lE rfl) (by decide) rfl).2.2.2)).symm
  obtain ⟨h121,h122,h123,b42,q120,h124,h125⟩:=hR102 7 6 (lE rfl) (by decide) rfl
  replace q120:e96 6=P b42 0:=q120
  obtain ⟨p126,_⟩:=h124
  have S128:=St.addO S117 (h125 _ (.head _)) (oN p126 h121 S11) (oX p126 h121 S11) (cA (oP p126 p115 h121 S11 (nM) (hd103 7 3 (lE rfl) (lE rfl) (by decide) (by decide) (by decide))) (cA (oP p126 p114 h121 S11 (mG [0] rfl) (hd103 7 3 (lE rfl) (lE rfl) (by decide) (by decide) (by decide))) (oL p126 h121 S11)))
  refine tailE [(1,I a1),(2,P b6 0),(4,P b9 0),(6,P b42 0),(9,TU [AG [I r19.1.TallyBook.Trips,I r19.1.TallyBook.Room,SL A23 r19.1.TallyBook.Counts.length c24,Value.map m25],I r19.2]),(14,AG [I r19.1.TallyBook.Trips,I r19.1.TallyBook.Room,SL A23 r19.1.TallyBook.Counts.length c24,Value.map m25])] ⟨((hf101 1 rfl).trans (rfl:_=I a1)),((hf101 2 rfl).trans (rfl:_=P b6 0)),((hf101 4 rfl).trans (rfl:_=P b9 0)),q120,q118,q119,trivial⟩ ?_
  intro g129
  refine p_stP (pre:=[]) (old:=[I 0,I 0,SL none 0 0,Value.map none]) (post:=[]) (vs:=[I r19.1.TallyBook.Trips,I r19.1.TallyBook.Room,SL A23 r19.1.TallyBook.Counts.length c24,Value.map m25]) sz51 S128 (i:=0) rfl rfl rfl rfl (rfl:_=AG [I r19.1.TallyBook.Trips,I r19.1.TallyBook.Room,SL A23 r19.1.TallyBook.Counts.length c24,Value.map m25]) rfl rfl rfl rfl fun w130 S131=>p_ext rfl rfl ?_
  refine p_aI rfl<|wp_nil<|c_seq<|c_seq<|reg<|p_mI rfl<|p_cmp rfl rfl rfl<|wp_nil ?_
  refine c_cond rfl (fun c132=>?_) (fun c132=>?_)
  ·replace H:=condT c132 H
   refine c_seq<|reg<|p_bld (cs:=[I 0,I 0]) st33 (rfl:_=[]) (by kernel_rfl)<|p_mI rfl<|p_stP (pre:=[]) (old:=[I 0,I 0]) (post:=[]) (vs:=[I 0,I 0]) sz33 S131 (i:=1) rfl rfl rfl rfl (rfl:_=AG [I 0,I 0]) rfl rfl rfl rfl fun w133 S134=>p_aI rfl<|wp_nil ?_
   obtain rfl:=sJ H
   refine c_ret ?_; show bodyPostM (Fr none) 0 Tryd.prog Tryd.f8 _ .ret _ _
   refine ret_of (res2 rfl (rvA rfl ty33 sz33 (S134.atX (i:=1) rfl) rfl) (rvT (rfl:_=I r19.2))) ?_
   exact ⟨_,rfl,rfl,S134.keep⟩
  ·replace H:=condF c132 H
   refine c_skip<|c_seq<|reg<|p_ldA ty51 sz51 (S131.atX (i:=0) rfl) rfl rfl<|p_fld fl24_0 rfl<|p_ld ty3 (S131.atX (i:=2) rfl) rfl rfl ?_
   obtain ⟨r135,h136,H⟩:=bindS H
   refine p_cv (tally_book_many_ok h136 (S131.atP (i:=1) rfl) (S131.atP (i:=0) rfl) (S131.atP (i:=4) rfl)) fu24 rfl S131 fun w137 S138=>p_allA in33 S138 fun b139 w140 S141=>p_stP (pre:=[]) (old:=[I 0,I 0]) (post:=[]) (vs:=[I r135.Low,I r135.High]) sz33 S141 (i:=0) rfl rfl rfl rfl (rfl:_=AG [I r135.Low,I r135.High]) rfl rfl rfl rfl fun w142 S143=>wp_nil<|c_seq<|reg<|p_fld fl33_0 rfl ?_
   refine p_ld ty3 (S143.atX (i:=0) rfl) rfl rfl<|p_mI rfl<|p_mul rfl rfl<|p_fld fl33_1 rfl<|p_ld ty3 (S143.atX (i:=0) rfl) rfl rfl<|p_mI rfl<|p_mul rfl rfl<|p_bld (cs:=[I (wr (r135.Low*a1)),I (wr (r135.High*a1))]) st33 (rfl:_=[(0,I (wr (r135.Low*a1))),(1,I (wr (r135.High*a1)))]) (by kernel_rfl) ?_
   refine p_stP (pre:=[]) (old:=[I 0,I 0]) (post:=[]) (vs:=[I (wr (r135.Low*a1)),I (wr (r135.High*a1))]) sz33 S143 (i:=2) rfl rfl rfl rfl (rfl:_=AG [I (wr (r135.Low*a1)),I (wr (r135.High*a1))]) rfl rfl rfl rfl fun w144 S145=>p_aI rfl<|wp_nil ?_
   obtain rfl:=sJ H
   refine c_ret ?_; show bodyPostM (Fr none) 0 Tryd.prog Tryd.f8 _ .ret _ _
   refine ret_of (res2 rfl (rvA rfl ty33 sz33 (S145.atX (i:=2) rfl) rfl) (rvT (rfl:_=I 0))) ?_
   exact ⟨_,rfl,rfl,S145.keep⟩
def tally_with (a0:TallyBook) (a1:TallyCount):Option TallyBook:=
 need (fitsL (a0.Counts.length+([a1]:List TallyCount).length) 56)<|
 some (TallyBook.mk a0.Trips a0.Room (a0.Counts++([a1]:List TallyCount)))
set_option maxRecDepth 100000 in
theorem tally_with_ok {a0:TallyBook}{a1:TallyCount}{A1:Option Addr}{c2:Nat}{w:World}{r:TallyBook} (H:tally_with a0 a1=some r) (h3:(rd eTallyCount 7 A1 c2 a0.Counts).ok w):Calls Tryd.prog 28 #[AG [I a0.Trips,I a0.Room,SL A1 a0.Counts.length c2],AG [I a1.Who,I a1.From,I a1.To,I a1.Told,I a1.Unit,I a1.Under,I a1.Over]] w fun en w_=>∃ u_,en=.returned u_∧∃ A_1:Option Addr,∃ c_2:Nat,u_=AG [I r.Trips,I r.Room,SL A_1 r.Counts.length c_2]∧Keep0 w w_∧((gr eTallyCount 7 28 A_1 c_2 r.Counts).ok w_∧New w.heap.size (gr eTallyCount 7 28 A_1 c_2 r.Counts))∧True:=by
 unfold tally_with at H
 refine fn_of (n:=19) Tryd.func28 rfl rfl (lE rfl) ?_
 have S:=St.start w nF _ (cA h3 nM)
 refine c_seq<|reg<|p_boxA rfl S fun b4 w5 S6=>p_boxA rfl S6 fun b7 w8 S9=>p_allA in24 S9 fun b10 w11 S12=>wp_nil<|c_seq ?_
 refine reg_c mixed 11 [10] (by kernel_rfl) ?_
 refine kS rfl (fun _ k_=>p_fld fl24_2 rfl dn)<|kS rfl (fun _ k_=>p_ld ty22 (aS (S12.atX (i:=2) rfl) k_) rfl rfl dn)<|kS rfl (fun _ k_=>p_fld fl24_2 rfl dn)<|kS rfl (fun _ k_=>p_ld ty22 (aS (S12.atX (i:=2) rfl) k_) rfl rfl dn)<|kS rfl (fun _ k_=>p_len rfl sc22 dn)<|kS rfl (fun _ k_=>p_fld fl24_2 rfl dn)<|kS rfl (fun _ k_=>p_ld ty22 (aS (S12.atX (i:=2) rfl) k_) rfl rfl dn) ?_
 refine kS rfl (fun _ k_=>p_len rfl sc22 dn)<|kS rfl (fun _ k_=>p_cut3 sc22 (aS (S12.atP (i:=0) rfl) k_) rfl rfl rfl dn)<|kS rfl (fun _ k_=>p_ldA ty28 sz28 (aS (S12.atX (i:=1) rfl) k_) rfl rfl dn)<|kC rfl ?_
 intro w13 k14; have S15:=S12.call k14
 have S21:=S15.base
 refine p_bsl (enc:=eTallyCount) (l:=([a1]:List TallyCount)) (fun x=>AG (eTallyCount x)) (fun _=>rfl) sc22 in28 eTallyCount_len rfl (by decide) (by decide) zr28_1 S21 rfl fun A16 c17 w18 S19=>?_
 refine cN S19.keep fun w22 k23=>?_
 have S24:=(S15.fromBase S19).call k23
 obtain ⟨h29,H⟩:=needS H
 refine p_appN (enc:=eTallyCount) sc22 in28 rfl eTallyCount_len (by decide) S24 (rd_full (S24.atP (i:=0) rfl)).1 rfl (gr_sl eTallyCount_len (S24.atX (i:=0) rfl)) h29 (by simp) rfl rfl fun A27 c28 w25 S26=>p_fld fl24_2 rfl ?_
 refine p_stP (pre:=[I a0.Trips,I a0.Room]) (old:=[SL A1 a0.Counts.length c2]) (post:=[]) (vs:=[SL A27 (a0.Counts++([a1]:List TallyCount)).length c28]) sz22 S26 (i:=4) rfl rfl rfl rfl (rfl:_=SL A27 (a0.Counts++([a1]:List TallyCount)).length c28) rfl rfl rfl rfl fun w31 S32=>wp_nil<|c_seq<|reg<|p_ldA ty24 sz24 (S32.atX (i:=4) rfl) rfl rfl ?_
 refine p_stP (pre:=[]) (old:=[I 0,I 0,SL none 0 0]) (post:=[]) (vs:=[I a0.Trips,I a0.Room,SL A27 (a0.Counts++([a1]:List TallyCount)).length c28]) sz24 S32 (i:=2) rfl rfl rfl rfl (rfl:_=AG [I a0.Trips,I a0.Room,SL A27 (a0.Counts++([a1]:List TallyCount)).length c28]) rfl rfl rfl rfl fun w33 S34=>wp_nil ?_
 obtain rfl:=sJ H
 refine c_ret ?_; show bodyPostM (Fr none) 0 Tryd.prog Tryd.f28 _ .ret _ _
 refine ret_of (res1 rfl (rvA rfl ty24 sz24 (S34.atX (i:=2) rfl) rfl)) ?_
 exact ⟨_,rfl,A27,c28,rfl,S34.keep,⟨S34.atX (i:=0) rfl,S34.newX (i:=0) rfl⟩,trivial⟩
def tally_Fits_j1 (a0:TallyBook) (a1:TallyCount) (z_1:Unit):Option (Bool×Int):=
 (tally_with a0 a1).bind fun r15=>
 (tally_nobody).bind fun r25=>
 (tally_opened r15 (Tally_leave.mk (fun y29 y30=>tally_nobody_1 y29 y30))).bind fun r31=>
 (tally_book_can (Tally_book.mk (TallyBook.mk r31.TallyBook.Trips r31.TallyBook.Room r15.Counts) r31.more_)).bind fun r39=>
 some (r39,0)
def tally_Fits (a0:TallyBook) (a1:TallyCount):Option (Bool×Int):=
 (tally_isCount a0 a1).bind fun r14=>
 (tally_asked a0 r14).bind fun r20=>
 bif (r20.2 != 0) then (some (false,r20.2))
 else (tally_Fits_j1 a0 a1 ())
set_option maxRecDepth 100000 in
theorem tally_Fits_ok {a0:TallyBook}{a1:TallyCount}{A1:Option Addr}{c2:Nat}{w:World}{r:Bool×Int} (H:tally_Fits a0 a1=some r) (h3:(rd eTallyCount 7 A1 c2 a0.Counts).ok w) (hg4:(gW0).ok w) (hg5:(gW1).ok w):Calls Tryd.prog 9 #[AG [I a0.Trips,I a0.Room,SL A1 a0.Counts.length c2],AG [I a1.Who,I a1.From,I a1.To,I a1.Told,I a1.Unit,I a1.Under,I a1.Over]] w (RetV w (TU [B r.1,I r.2])):=by
 unfold tally_Fits at H
 refine fn_of (n:=25) Tryd.func9 rfl rfl (lE rfl) ?_
 have S:=St.start w nF _ (cA h3 (cA hg4 (cA hg5 nM)))
 refine c_seq<|reg<|p_boxA rfl S fun b6 w7 S8=>p_boxA rfl S8 fun b9 w10 S11=>p_aB rfl<|p_aI rfl<|wp_nil ?_
 refine c_join (α:=Unit) (β:=Unit) (fun z_1 y_1=>[(2,P b6 0),(3,P b9 0)]) (fun z_1 y_1 w_=>tally_Fits_j1 a0 a1 z_1=some r∧St w nF w_ [bl b9 [I a1.Who,I a1.From,I a1.To,I a1.Told,I a1.Unit,I a1.Under,I a1.Over] 28,bl b6 [I a0.Trips,I a0.Room,SL A1 a0.Counts.length c2] 24] [rd eTallyCount 7 A1 c2 a0.Counts,gW0,gW1]) ?_ ?_
 ·refine c_seq ?_
  obtain ⟨r14,h15,H⟩:=bindS H
  obtain ⟨r20,h21,H⟩:=bindS H
  refine reg_fl mixed 9 7 (by kernel_rfl) [rv (AG [I a0.Trips,I a0.Room,SL A1 a0.Counts.length c2]),rv (AG [I a0.Trips,I a0.Room,SL A1 a0.Counts.length c2]),rv (AG [I a1.Who,I a1.From,I a1.To,I a1.Told,I a1.Unit,I a1.Under,I a1.Over]),rv (B r14),rx (α:=(Option Addr)×Nat×(Option Nat)) (fun ⟨A24,c25,m26⟩=>TU [AG [I r20.1.TallyBook.Trips,I r20.1.TallyBook.Room,SL A24 r20.1.TallyBook.Counts.length c25,Value.map m26],I r20.2]) (fun ⟨A24,c25,m26⟩ lo hi=>BtwL lo hi [rd eTallyCount 7 A1 c2 a0.Counts] (rd eTallyCount 7 A24 c25 r20.1.TallyBook.Counts)∧BtwL lo hi [] (mpo ekT iE m26 r20.1.more_)∧True) (fun ⟨A24,c25,m26⟩=>[rd eTallyCount 7 A24 c25 r20.1.TallyBook.Counts,mpo ekT iE m26 r20.1.more_]),dv 13 some,dv 8 (exG 0),dv 8 (exG 1),rx (α:=Nat) (fun b43=>P b43 0) (fun b43 lo hi=>BtwL lo hi [] (bl b43 [I 0,I 0,SL none 0 0,Value.map none] 51)∧True) (fun b43=>[bl b43 [I 0,I 0,SL none 0 0,Value.map none] 51])] [[],[],[],[],[],[13],[8],[8],[]] rfl (by kernel_rfl) [[],[],[],[1,2],[0,1,2,3],[0,1,2,3,4],[0,1,2,3,4,5],[0,1,2,3,4,5],[],[0,1,2,3,4,5,6,8],[0,1,2,3,4,5,6,7,8,9]] (by kernel_rfl) ⟨?_,?_,?_,?_,?_,?_,?_,?_,?_,trivial⟩ ?_ ?_
  ·intro e_ w_ k_ hf_ hR_
   have S_:St w_ nF w_ [] [bl b9 [I a1.Who,I a1.From,I a1.To,I a1.Told,I a1.Unit,I a1.Under,I a1.Over] 28,bl b6 [I a0.Trips,I a0.Room,SL A1 a0.Counts.length c2] 24,rd eTallyCount 7 A1 c2 a0.Counts,gW0,gW1]:=S11.asP k_
   refine hopE [(2,P b6 0)] ⟨((hf_ 2 rfl).trans (rfl:_=P b6 0)),trivial⟩ ?_
   exact p_ldA ty24 sz24 (S_.atP (i:=1) rfl) rfl rfl<|wp_nil ⟨_,rfl,S_.keep,rfl⟩
  ·intro e_ w_ k_ hf_ hR_
   have S_:St w_ nF w_ [] [bl b9 [I a1.Who,I a1.From,I a1.To,I a1.Told,I a1.Unit,I a1.Under,I a1.Over] 28,bl b6 [I a0.Trips,I a0.Room,SL A1 a0.Counts.length c2] 24,rd eTallyCount 7 A1 c2 a0.Counts,gW0,gW1]:=S11.asP k_
   refine hopE [(2,P b6 0)] ⟨((hf_ 2 rfl).trans (rfl:_=P b6 0)),trivial⟩ ?_
   exact p_ldA ty24 sz24 (S_.atP (i:=1) rfl) rfl rfl<|wp_nil ⟨_,rfl,S_.keep,rfl⟩
  ·intro e_ w_ k_ hf_ hR_
   have S_:St w_ nF w_ [] [bl b9 [I a1.Who,I a1.From,I a1.To,I a1.Told,I a1.Unit,I a1.Under,I a1.Over] 28,bl b6 [I a0.Trips,I a0.Room,SL A1 a0.Counts.length c2] 24,rd eTallyCount 7 A1 c2 a0.Counts,gW0,gW1]:=S11.asP k_
   refine hopE [(3,P b9 0)] ⟨((hf_ 3 rfl).trans (rfl:_=P b9 0)),trivial⟩ ?_
   exact p_ldA ty28 sz28 (S_.atP (i:=0) rfl) rfl rfl<|wp_nil ⟨_,rfl,S_.keep,rfl⟩
  ·intro e_ w_ k_ hf_ hR_
   have S_:St w_ nF w_ [] [bl b9 [I a1.Who,I a1.From,I a1.To,I a1.Told,I a1.Unit,I a1.Under,I a1.Over] 28,bl b6 [I a0.Trips,I a0.Room,SL A1 a0.Counts.length c2] 24,rd eTallyCount 7 A1 c2 a0.Counts,gW0,gW1]:=S11.asP k_
   refine hopE [(10,AG [I a0.Trips,I a0.Room,SL A1 a0.Counts.length c2]),(11,AG [I a1.Who,I a1.From,I a1.To,I a1.Told,I a1.Unit,I a1.Under,I a1.Over])] ⟨rQ (hR_ 1 10 rfl (lE rfl) rfl),rQ (hR_ 2 11 rfl (lE rfl) rfl),trivial⟩ ?_
   refine p_cv (tally_isCount_ok h15 (S_.atP (i:=2) rfl)) fu27 rfl S_ fun w16 S17=>wp_nil ?_
   exact ⟨_,rfl,S17.keep,rfl⟩
  ·intro e_ w_ k_ hf_ hR_
   have S_:St w_ nF w_ [] [bl b9 [I a1.Who,I a1.From,I a1.To,I a1.Told,I a1.Unit,I a1.Under,I a1.Over] 28,bl b6 [I a0.Trips,I a0.Room,SL A1 a0.Counts.length c2] 24,rd eTallyCount 7 A1 c2 a0.Counts,gW0,gW1]:=S11.asP k_
   refine hopE [(9,AG [I a0.Trips,I a0.Room,SL A1 a0.Counts.length c2]),(12,B r14)] ⟨rQ (hR_ 0 9 rfl (lE rfl) rfl),rQ (hR_ 3 12 rfl (lE rfl) rfl),trivial⟩ ?_
   refine p_cal (tally_asked_ok h21 (S_.atP (i:=2) rfl) (S_.atP (i:=3) rfl) (S_.atP (i:=4) rfl)) fu22 rfl ?_
   rintro _ w22 ⟨A24,c25,m26,rfl,k23,⟨o27,n28⟩,⟨o29,n30⟩,_⟩
   have S31:=S_.callN k23 [rd eTallyCount 7 A24 c25 r20.1.TallyBook.Counts,mpo ekT iE m26 r20.1.more_] (cA ⟨o27,Al.inL n28 ((cA (fp_mem (i:=2) rfl) nM))⟩ (cA ⟨o29,New.inL n30⟩ nM))
   exact wp_nil ⟨_,rfl,S31.keep,⟨(A24,c25,m26),rfl,⟨bL n28 rfl (S31.atP (i:=0) rfl) rfl,bL (New.al (New.mono n30 S_.keep.size)) rfl (S31.atP (i:=1) rfl) rfl,trivial⟩,(cA (S31.atP (i:=0) rfl) (cA (S31.atP (i:=1) rfl) nM))⟩⟩
  ·intro e_ w_ k_ hf_ hR_
   have S_:St w_ nF w_ [] [bl b9 [I a1.Who,I a1.From,I a1.To,I a1.Told,I a1.Unit,I a1.Under,I a1.Over] 28,bl b6 [I a0.Trips,I a0.Room,SL A1 a0.Counts.length c2] 24,rd eTallyCount 7 A1 c2 a0.Counts,gW0,gW1]:=S11.asP k_
   obtain ⟨_,_,_,_,⟨A24,c25,m26⟩,q32,p33,a34⟩:=hR_ 4 13 rfl (lE rfl) rfl
   replace q32:e_ 13=TU [AG [I r20.1.TallyBook.Trips,I r20.1.TallyBook.Room,SL A24 r20.1.TallyBook.Counts.length c25,Value.map m26],I r20.2]:=q32
   have S_:=St.addL' S_ (a34 _ (.head _)) (fun _ _ _ h_=>(nE h_))
   have S_:=St.addL' S_ (a34 _ (.tail _ (.head _))) (fun _ _ _ h_=>(nE h_))
   refine hopE [(13,TU [AG [I r20.1.TallyBook.Trips,I r20.1.TallyBook.Room,SL A24 r20.1.TallyBook.Counts.length c25,Value.map m26],I r20.2])] ⟨q32,trivial⟩ ?_
   refine p_mT rfl<|wp_nil ?_
   exact ⟨_,rfl,S_.keep,rfl⟩
  ·intro e_ w_ k_ hf_ hR_
   have S_:St w_ nF w_ [] [bl b9 [I a1.Who,I a1.From,I a1.To,I a1.Told,I a1.Unit,I a1.Under,I a1.Over] 28,bl b6 [I a0.Trips,I a0.Room,SL A1 a0.Counts.length c2] 24,rd eTallyCount 7 A1 c2 a0.Counts,gW0,gW1]:=S11.asP k_
   obtain ⟨_,_,_,_,⟨A24,c25,m26⟩,q36,p37,a38⟩:=hR_ 4 13 rfl (lE rfl) rfl
   replace q36:e_ 13=TU [AG [I r20.1.TallyBook.Trips,I r20.1.TallyBook.Room,SL A24 r20.1.TallyBook.Counts.length c25,Value.map m26],I r20.2]:=q36
   have S_:=St.addL' S_ (a38 _ (.head _)) (fun _ _ _ h_=>(nE h_))
   have S_:=St.addL' S_ (a38 _ (.tail _ (.head _))) (fun _ _ _ h_=>(nE h_))
   obtain ⟨_,_,_,_,q35⟩:=hR_ 5 8 rfl (lE rfl) rfl
   replace q35:e_ 8=TU [AG [I r20.1.TallyBook.Trips,I r20.1.TallyBook.Room,SL A24 r20.1.TallyBook.Counts.length c25,Value.map m26],I r20.2]:=(sJ ((congrArg some q36).symm.trans q35)).symm
   refine hopE [(8,TU [AG [I r20.1.TallyBook.Trips,I r20.1.TallyBook.Room,SL A24 r20.1.TallyBook.Counts.length c25,Value.map m26],I r20.2])] ⟨q35,trivial⟩ ?_
   refine p_ext rfl rfl<|wp_nil ?_
   exact ⟨_,rfl,S_.keep,rfl⟩
  ·intro e_ w_ k_ hf_ hR_
   have S_:St w_ nF w_ [] [bl b9 [I a1.Who,I a1.From,I a1.To,I a1.Told,I a1.Unit,I a1.Under,I a1.Over] 28,bl b6 [I a0.Trips,I a0.Room,SL A1 a0.Counts.length c2] 24,rd eTallyCount 7 A1 c2 a0.Counts,gW0,gW1]:=S11.asP k_
   obtain ⟨_,_,_,_,⟨A24,c25,m26⟩,q40,p41,a42⟩:=hR_ 4 13 rfl (lE rfl) rfl
   replace q40:e_ 13=TU [AG [I r20.1.TallyBook.Trips,I r20.1.TallyBook.Room,SL A24 r20.1.TallyBook.Counts.length c25,Value.map m26],I r20.2]:=q40
   have S_:=St.addL' S_ (a42 _ (.head _)) (fun _ _ _ h_=>(nE h_))
   have S_:=St.addL' S_ (a42 _ (.tail _ (.head _))) (fun _ _ _ h_=>(nE h_))
   obtain ⟨_,_,_,_,q39⟩:=hR_ 5 8 rfl (lE rfl) rfl
   replace q39:e_ 8=TU [AG [I r20.1.TallyBook.Trips,I r20.1.TallyBook.Room,SL A24 r20.1.TallyBook.Counts.length c25,Value.map m26],I r20.2]:=(sJ ((congrArg some q40).symm.trans q39)).symm
   refine hopE [(8,TU [AG [I r20.1.TallyBook.Trips,I r20.1.TallyBook.Room,SL A24 r20.1.TallyBook.Counts.length c25,Value.map m26],I r20.2])] ⟨q39,trivial⟩ ?_
   refine p_ext rfl rfl<|wp_nil ?_
   exact ⟨_,rfl,S_.keep,rfl⟩
  ·intro e_ w_ k_ hf_ hR_
   have S_:St w_ nF w_ [] [bl b9 [I a1.Who,I a1.From,I a1.To,I a1.Told,I a1.Unit,I a1.Under,I a1.Over] 28,bl b6 [I a0.Trips,I a0.Room,SL A1 a0.Counts.length c2] 24,rd eTallyCount 7 A1 c2 a0.Counts,gW0,gW1]:=S11.asP k_
   refine hopE [] trivial ?_
   refine p_allA in51 S_ fun b43 w44 S45=>wp_nil ?_
   exact ⟨_,rfl,S45.keep,⟨b43,rfl,⟨bL (New.al (S45.newX (i:=0) rfl)) rfl (S45.atX (i:=0) rfl) rfl,trivial⟩,(cA (S45.atX (i:=0) rfl) nM)⟩⟩
  ·intro e46 w47 lo48 hi49 k50 hf51 hR52 hd53
   have S54:=S11.call k50
   have q55:e46 9=AG [I a0.Trips,I a0.Room,SL A1 a0.Counts.length c2]:=(hR52 0 9 (lE rfl) rfl).2.2.2
   have q56:e46 10=AG [I a0.Trips,I a0.Room,SL A1 a0.Counts.length c2]:=(hR52 1 10 (lE rfl) rfl).2.2.2
   have q57:e46 11=AG [I a1.Who,I a1.From,I a1.To,I a1.Told,I a1.Unit,I a1.Under,I a1.Over]:=(hR52 2 11 (lE rfl) rfl).2.2.2
   have q58:e46 12=B r14:=(hR52 3 12 (lE rfl) rfl).2.2.2
   obtain ⟨h60,h61,h62,⟨A24,c25,m26⟩,q59,h63,h64⟩:=hR52 4 13 (lE rfl) rfl
   replace q59:e46 13=TU [AG [I r20.1.TallyBook.Trips,I r20.1.TallyBook.Room,SL A24 r20.1.TallyBook.Counts.length c25,Value.map m26],I r20.2]:=q59
   obtain ⟨p65,p66,_⟩:=h63
   have S67:=St.addR S54 (h64 _ (.head _)) (oR p65 h60 S11 (mG [0] rfl))
   have S68:=St.addR S67 (h64 _ (.tail _ (.head _))) (oR p66 h60 S11 (nM))
   have q69:e46 8=TU [AG [I r20.1.TallyBook.Trips,I r20.1.TallyBook.Room,SL A24 r20.1.TallyBook.Counts.length c25,Value.map m26],I r20.2]:=(sJ ((congrArg some q59).symm.trans (hR52 5 8 (lE rfl) rfl).2.2.2)).symm
   have q70:e46 14=AG [I r20.1.TallyBook.Trips,I r20.1.TallyBook.Room,SL A24 r20.1.TallyBook.Counts.length c25,Value.map m26]:=(sJ ((congrArg (exG 0) q69).symm.trans (hR52 6 14 (lE rfl) rfl).2.2.2)).symm
   have q71:e46 15=I r20.2:=(sJ ((congrArg (exG 1) q69).symm.trans (hR52 7 15 (lE rfl) rfl).2.2.2)).symm
   obtain ⟨h73,h74,h75,b43,q72,h76,h77⟩:=hR52 8 6 (lE rfl) rfl
   replace q72:e46 6=P b43 0:=q72
   obtain ⟨p78,_⟩:=h76
   have S80:=St.addO S68 (h77 _ (.head _)) (oN p78 h73 S11) (oX p78 h73 S11) (cA (oP p78 p66 h73 S11 (nM) (hd53 8 4 (lE rfl) (lE rfl) (by decide))) (cA (oP p78 p65 h73 S11 (mG [0] rfl) (hd53 8 4 (lE rfl) (lE rfl) (by decide))) (oL p78 h73 S11)))
   refine tailE [(2,P b6 0),(3,P b9 0),(6,P b43 0),(14,AG [I r20.1.TallyBook.Trips,I r20.1.TallyBook.Room,SL A24 r20.1.TallyBook.Counts.length c25,Value.map m26]),(15,I r20.2)] ⟨((hf51 2 rfl).trans (rfl:_=P b6 0)),((hf51 3 rfl).trans (rfl:_=P b9 0)),q72,q70,q71,trivial⟩ ?_
   intro g81
   refine p_stP (pre:=[]) (old:=[I 0,I 0,SL none 0 0,Value.map none]) (post:=[]) (vs:=[I r20.1.TallyBook.Trips,I r20.1.TallyBook.Room,SL A24 r20.1.TallyBook.Counts.length c25,Value.map m26]) sz51 S80 (i:=0) rfl rfl rfl rfl (rfl:_=AG [I r20.1.TallyBook.Trips,I r20.1.TallyBook.Room,SL A24 r20.1.TallyBook.Counts.length c25,Value.map m26]) rfl rfl rfl rfl fun w82 S83=>p_aI rfl<|wp_nil<|c_seq ?_
   refine reg<|p_mI rfl<|p_cmp rfl rfl rfl<|wp_nil ?_
   refine c_cond rfl (fun c84=>?_) (fun c84=>?_)
   ·replace H:=condT c84 H
    refine c_seq<|reg<|p_mI rfl<|p_aB rfl<|p_aI rfl<|wp_nil ?_
    obtain rfl:=sJ H
    refine c_ret ?_; show bodyPostM (Fr none) 0 Tryd.prog Tryd.f9 _ .ret _ _
    refine ret_of (res2 rfl (rvT (rfl:_=B false)) (rvT (rfl:_=I r20.2))) ?_
    exact ⟨_,rfl,rfl,S83.keep⟩
   ·replace H:=condF c84 H
    refine c_skip ?_
    have S85:=S83.pk [1,2] (by decide) [2,3,4] rfl rfl
    exact ⟨(),(),_,rfl,⟨rfl,rfl,trivial⟩,H,S85⟩
  ·intro e85 w86 lo87 hi88 k89 hf90 hR91 hd92
   have S93:=S11.call k89
   have q94:e85 9=AG [I a0.Trips,I a0.Room,SL A1 a0.Counts.length c2]:=(hR91 0 9 (lE rfl) (by decide) rfl).2.2.2
   have q95:e85 10=AG [I a0.Trips,I a0.Room,SL A1 a0.Counts.length c2]:=(hR91 1 10 (lE rfl) (by decide) rfl).2.2.2
   have q96:e85 11=AG [I a1.Who,I a1.From,I a1.To,I a1.Told,I a1.Unit,I a1.Under,I a1.Over]:=(hR91 2 11 (lE rfl) (by decide) rfl).2.2.2
   have q97:e85 12=B r14:=(hR91 3 12 (lE rfl) (by decide) rfl).2.2.2
   obtain ⟨h99,h100,h101,⟨A24,c25,m26⟩,q98,h102,h103⟩:=hR91 4 13 (lE rfl) (by decide) rfl
   replace q98:e85 13=TU [AG [I r20.1.TallyBook.Trips,I r20.1.TallyBook.Room,SL A24 r20.1.TallyBook.Counts.length c25,Value.map m26],I r20.2]:=q98
   obtain ⟨p104,p105,_⟩:=h102
   have S106:=St.addR S93 (h103 _ (.head _)) (oR p104 h99 S11 (mG [0] rfl))
   have S107:=St.addR S106 (h103 _ (.tail _ (.head _))) (oR p105 h99 S11 (nM))
   have q108:e85 8=TU [AG [I r20.1.TallyBook.Trips,I r20.1.TallyBook.Room,SL A24 r20.1.TallyBook.Counts.length c25,Value.map m26],I r20.2]:=(sJ ((congrArg some q98).symm.trans (hR91 5 8 (lE rfl) (by decide) rfl).2.2.2)).symm
   have q109:e85 14=AG [I r20.1.TallyBook.Trips,I r20.1.TallyBook.Room,SL A24 r20.1.TallyBook.Counts.length c25,Value.map m26]:=(sJ ((congrArg (exG 0) q108).symm.trans (hR91 6 14 (lE rfl) (by decide) rfl).2.2.2)).symm
   obtain ⟨h111,h112,h113,b43,q110,h114,h115⟩:=hR91 8 6 (lE rfl) (by decide) rfl
   replace q110:e85 6=P b43 0:=q110
   obtain ⟨p116,_⟩:=h114
   have S118:=St.addO S107 (h115 _ (.head _)) (oN p116 h111 S11) (oX p116 h111 S11) (cA (oP p116 p105 h111 S11 (nM) (hd92 8 4 (lE rfl) (lE rfl) (by decide) (by decide) (by decide))) (cA (oP p116 p104 h111 S11 (mG [0] rfl) (hd92 8 4 (lE rfl) (lE rfl) (by decide) (by decide) (by decide))) (oL p116 h111 S11)))
   refine tailE [(2,P b6 0),(3,P b9 0),(6,P b43 0),(8,TU [AG [I r20.1.TallyBook.Trips,I r20.1.TallyBook.Room,SL A24 r20.1.TallyBook.Counts.length c25,Value.map m26],I r20.2]),(14,AG [I r20.1.TallyBook.Trips,I r20.1.TallyBook.Room,SL A24 r20.1.TallyBook.Counts.length c25,Value.map m26])] ⟨((hf90 2 rfl).trans (rfl:_=P b6 0)),((hf90 3 rfl).trans (rfl:_=P b9 0)),q110,q108,q109,trivial⟩ ?_
   intro g119
   refine p_stP (pre:=[]) (old:=[I 0,I 0,SL none 0 0,Value.map none]) (post:=[]) (vs:=[I r20.1.TallyBook.Trips,I r20.1.TallyBook.Room,SL A24 r20.1.TallyBook.Counts.length c25,Value.map m26]) sz51 S118 (i:=0) rfl rfl rfl rfl (rfl:_=AG [I r20.1.TallyBook.Trips,I r20.1.TallyBook.Room,SL A24 r20.1.TallyBook.Counts.length c25,Value.map m26]) rfl rfl rfl rfl fun w120 S121=>p_ext rfl rfl ?_
   refine p_aI rfl<|wp_nil<|c_seq<|reg<|p_mI rfl<|p_cmp rfl rfl rfl<|wp_nil ?_
   refine c_cond rfl (fun c122=>?_) (fun c122=>?_)
   ·replace H:=condT c122 H
    refine c_seq<|reg<|p_mI rfl<|p_aB rfl<|p_aI rfl<|wp_nil ?_
    obtain rfl:=sJ H
    refine c_ret ?_; show bodyPostM (Fr none) 0 Tryd.prog Tryd.f9 _ .ret _ _
    refine ret_of (res2 rfl (rvT (rfl:_=B false)) (rvT (rfl:_=I r20.2))) ?_
    exact ⟨_,rfl,rfl,S121.keep⟩
   ·replace H:=condF c122 H
    refine c_skip ?_
    have S123:=S121.pk [1,2] (by decide) [2,3,4] rfl rfl
    exact ⟨(),(),_,rfl,⟨rfl,rfl,trivial⟩,H,S123⟩
 ·intro z_1 y_1 e12 w13 S14; obtain ⟨H,S14⟩:=S14
  unfold tally_Fits_j1 at H
  refine c_seq<|reg<|p_ldA ty24 sz24 (S14.atX (i:=1) rfl) rfl rfl<|p_ldA ty28 sz28 (S14.atX (i:=0) rfl) rfl rfl ?_
  obtain ⟨r15,h16,H⟩:=bindS H
  refine p_cal (tally_with_ok h16 (S14.atP (i:=0) rfl)) fu28 rfl ?_
  rintro _ w17 ⟨A19,c20,rfl,k18,⟨o21,n22⟩,_⟩
  have S24:=S14.addNew k18 o21 n22
  obtain ⟨r25,h26,H⟩:=bindS H
  refine p_cv (tally_nobody_ok h26) fu20 rfl S24 fun w27 S28=>?_
  obtain ⟨r31,h32,H⟩:=bindS H
  refine p_cal (tally_opened_ok h32 (gr_rd eTallyCount_len (S28.atX (i:=0) rfl)) (by kernel_rfl) (fun _ _ _ _ k_ hr_=>tally_nobody_1_ok hr_) (S28.atP (i:=1) rfl)) fu19 rfl ?_
  rintro _ w33 ⟨m35,rfl,k34,⟨o36,n37⟩,_⟩
  have S38:=S28.addNew k34 o36 n37
  obtain ⟨r39,h40,H⟩:=bindS H
  refine p_cv (tally_book_can_ok h40 (gr_rd eTallyCount_len (S38.atX (i:=1) rfl)) (mpo_some (S38.atX (i:=0) rfl)) (S38.atP (i:=2) rfl)) fu21 rfl S38 fun w41 S42=>p_aB rfl<|p_aI rfl<|wp_nil ?_
  obtain rfl:=sJ H
  refine c_ret ?_; show bodyPostM (Fr none) 0 Tryd.prog Tryd.f9 _ .ret _ _
  refine ret_of (res2 rfl (rvT (rfl:_=B r39)) (rvT (rfl:_=I 0))) ?_
  exact ⟨_,rfl,rfl,S42.keep⟩
def sl_Index_int_int_l1 (a0:List Int) (a1:Int) (rec_z_1:Int→Option Int) (z_1:Int):Option Int:=
 bif decide (z_1 < (a0.length:Int)) then ((getI a0 z_1).bind fun r9=>
 bif (a1==r9) then (some z_1)
 else (rec_z_1 (wr (z_1+1))))
 else (some (-1))
def sl_Index_int_int (a0:List Int) (a1:Int):Option Int:=
 loopF (sl_Index_int_int_l1 a0 a1) big 0
set_option maxRecDepth 100000 in
theorem sl_Index_int_int_ok {a0:List Int}{a1:Int}{A1:Option Addr}{c2:Nat}{w:World}{r:Int} (H:sl_Index_int_int a0 a1=some r) (h3:(rd intE 1 A1 c2 a0).ok w):Calls Tryd.prog 42 #[SL A1 a0.length c2,I a1] w (RetV w (I r)):=by
 unfold sl_Index_int_int at H
 refine fn_of (n:=19) Tryd.func42 rfl rfl (lE rfl) ?_
 have S:=St.start w nF _ (cA h3 nM)
 refine c_seq<|reg<|p_aI rfl<|wp_nil<|c_seq<|c_seq<|reg<|p_mS rfl<|p_len rfl sc40<|p_mI rfl<|wp_nil<|c_block ?_
 refine c_lop (α:=Int) (β:=Unit) (sl_Index_int_int_l1 a0 a1) (fun z_1 y_1=>[(0,SL A1 a0.length c2),(1,I a1),(7,I (a0.length:Int)),(8,I z_1)]) (fun z_1 y_1 w_=>St w nF w_ [] [rd intE 1 A1 c2 a0]) 0 () H ⟨rfl,rfl,rfl,rfl,trivial⟩ S ?_
 intro m4 z_1 y_1 e5 w6 H S7
 unfold sl_Index_int_int_l1 at H
 refine c_seq<|reg<|p_cmp rfl rfl rfl<|wp_nil<|c_seq ?_
 refine c_cond rfl (fun c8=>?_) (fun c8=>?_)
 ·replace H:=condT c8 H
  refine c_skip<|c_seq<|c_block<|c_seq<|reg<|p_mI rfl<|p_aI rfl<|wp_nil<|c_seq<|reg<|p_mI rfl<|p_mS rfl<|p_mI rfl ?_
  obtain ⟨r9,h10,H⟩:=bindS H
  refine p_ixE sc40 h10 (S7.atP (i:=0) rfl).1 rfl rfl rfl<|p_ldE ty3 h10 (S7.atP (i:=0) rfl).1 rfl rfl<|p_cmp rfl rfl rfl<|wp_nil ?_
  refine c_cond rfl (fun c11=>?_) (fun c11=>?_)
  ·replace H:=condT c11 H
   refine c_seq<|reg<|p_mI rfl<|p_aI rfl<|wp_nil ?_
   obtain rfl:=sJ H
   exact c_ret (rT Tryd.f42 S7.keep rfl rfl)
  ·replace H:=condF c11 H
   refine c_skip<|reg<|p_add rfl rfl<|p_mI rfl<|wp_nil ?_
   exact ⟨wr (z_1+1),(),_,rfl,⟨rfl,rfl,rfl,rfl,trivial⟩,H,S7⟩
 ·replace H:=condF c8 H
  refine c_exit<|c_seq<|reg<|p_aI rfl<|wp_nil ?_
  obtain rfl:=sJ H
  exact c_ret (rT Tryd.f42 S7.keep rfl rfl)
def sl_Contains_int_int (a0:List Int) (a1:Int):Option Bool:=
 (sl_Index_int_int a0 a1).bind fun r4=>
 some (decide (r4≥0))
set_option maxRecDepth 100000 in
theorem sl_Contains_int_int_ok {a0:List Int}{a1:Int}{A1:Option Addr}{c2:Nat}{w:World}{r:Bool} (H:sl_Contains_int_int a0 a1=some r) (h3:(rd intE 1 A1 c2 a0).ok w):Calls Tryd.prog 38 #[SL A1 a0.length c2,I a1] w (RetV w (B r)):=by
 unfold sl_Contains_int_int at H
 refine fn_of (n:=9) Tryd.func38 rfl rfl (lE rfl) ?_
 have S:=St.start w nF _ (cA h3 nM)
 refine c_seq<|reg<|p_aB rfl<|wp_nil<|c_seq<|reg<|p_mS rfl<|p_mI rfl ?_
 obtain ⟨r4,h5,H⟩:=bindS H
 refine p_cv (sl_Index_int_int_ok h5 (S.atP (i:=0) rfl)) fu42 rfl S fun w6 S7=>p_cmp rfl rfl rfl<|p_aB rfl<|wp_nil ?_
 obtain rfl:=sJ H
 exact c_ret (rT Tryd.f38 S7.keep rfl rfl)
def tally_some_1 (a0:TallyCount) (a1:Int) (q0:List Int):Option Bool:=
 (sl_Contains_int_int q0 a1).bind fun r9=>
 some r9
set_option maxRecDepth 100000 in
theorem tally_some_1_ok {a0:TallyCount}{a1:Int}{q0:List Int}{b1:Nat}{A2:Option Addr}{c3:Nat}{w:World}{r:Bool} (H:tally_some_1 a0 a1 q0=some r) (h5:(bl b1 [SL A2 q0.length c3] 40).ok w) (h4:(rd intE 1 A2 c3 q0).ok w):Calls Tryd.prog 37 #[AG [I a0.Who,I a0.From,I a0.To,I a0.Told,I a0.Unit,I a0.Under,I a0.Over],I a1,P b1 0] w (RetV w (B r)):=by
 unfold tally_some_1 at H
 refine fn_of (n:=9) Tryd.func37 rfl rfl (lE rfl) ?_
 have S:=St.start w nF _ (cA h5 (cA h4 nM))
 refine c_seq<|reg<|p_boxA rfl S fun b6 w7 S8=>p_aB rfl<|wp_nil<|c_seq<|reg<|p_ld ty40 (S8.atP (i:=0) rfl) rfl rfl<|p_mI rfl ?_
 obtain ⟨r9,h10,H⟩:=bindS H
 refine p_cv (sl_Contains_int_int_ok h10 (S8.atP (i:=1) rfl)) fu38 rfl S8 fun w11 S12=>p_aB rfl<|wp_nil ?_
 obtain rfl:=sJ H
 exact c_ret (rT Tryd.f37 S12.keep rfl rfl)
def tally_some (a0:List Int):Option Unit:=
 some ()
set_option maxRecDepth 100000 in
theorem tally_some_ok {a0:List Int}{A1:Option Addr}{c2:Nat}{w:World}{r:Unit} (H:tally_some a0=some r) (h3:(rd intE 1 A1 c2 a0).ok w):Calls Tryd.prog 30 #[SL A1 a0.length c2] w fun en w_=>∃ u_,en=.returned u_∧∃ b_1:Nat,u_=AG [vF (.func 37) #[] #[P b_1 0]]∧Keep0 w w_∧((bl b_1 [SL A1 a0.length c2] 40).ok w_∧New w.heap.size (bl b_1 [SL A1 a0.length c2] 40))∧True:=by
 unfold tally_some at H
 refine fn_of (n:=5) Tryd.func30 rfl rfl (lE rfl) ?_
 have S:=St.start w nF _ (cA h3 nM)
 refine c_seq<|reg<|p_box (rfl:_=SL A1 a0.length c2) rfl S fun b4 w5 S6=>p_allA in55 S6 fun b7 w8 S9=>wp_nil<|c_seq<|reg ?_
 refine o_fun (rfl:_=[]) (rfl:_=[P b4 0]) ?_
 refine p_bld (cs:=[vF (.func 37) #[] #[P b4 0]]) st55 (rfl:_=[(0,vF (.func 37) #[] #[P b4 0])]) (by kernel_rfl)<|p_stP (pre:=[]) (old:=[Value.nilFunc]) (post:=[]) (vs:=[vF (.func 37) #[] #[P b4 0]]) sz55 S9 (i:=0) rfl rfl rfl rfl (rfl:_=AG [vF (.func 37) #[] #[P b4 0]]) rfl rfl rfl rfl fun w10 S11=>wp_nil ?_
 obtain rfl:=sJ H
 refine c_ret ?_; show bodyPostM (Fr none) 0 Tryd.prog Tryd.f30 _ .ret _ _
 refine ret_of (res1 rfl (rvA rfl ty55 sz55 (S11.atX (i:=0) rfl) rfl)) ?_
 exact ⟨_,rfl,b4,rfl,S11.keep,⟨S11.atX (i:=1) rfl,S11.newX (i:=1) rfl⟩,trivial⟩
def tally_Wrong_1_l3 (q0:TallyBook) (a0:List Int) (rec_:(List Int)→Int→Option ((List Int)×Bool)) (a1:Int) (rec_z_2:Int→Option ((List Int)×Bool)) (z_2:Int):Option ((List Int)×Bool):=
 bif decide (z_2 < (q0.Counts.length:Int)) then (need (fitsL (a0.length+([z_2]:List Int).length) 8)<|
 (rec_ (a0++([z_2]:List Int)) a1).bind fun r83=>
 bif r83.2 then (some (r83.1,true))
 else (rec_z_2 (wr (z_2+1))))
 else (some (([]:List _),false))
def tally_Wrong_1_j4 (q0:TallyBook) (a0:List Int) (rec_:(List Int)→Int→Option ((List Int)×Bool)) (a1:Int) (z_1:Int):Option ((List Int)×Bool):=
 loopF (tally_Wrong_1_l3 q0 a0 rec_ a1) big z_1
def tally_Wrong_1_F (rec_:(List Int)→Int→Option ((List Int)×Bool)) (a0:List Int) (a1:Int) (q0:TallyBook):Option ((List Int)×Bool):=
 bif ((a0.length:Int)==a1) then ((tally_some a0).bind fun r17=>
 (tally_opened q0 (Tally_leave.mk (fun y28 y29=>tally_some_1 y28 y29 a0))).bind fun r30=>
 (tally_book_can (Tally_book.mk (TallyBook.mk r30.TallyBook.Trips r30.TallyBook.Room q0.Counts) r30.more_)).bind fun r41=>
 some (a0,r41))
 else (bif decide ((a0.length:Int) > 0) then ((getI a0 (wr ((a0.length:Int) - 1))).bind fun r52=>
 tally_Wrong_1_j4 q0 a0 rec_ a1 (wr (r52+1)))
 else (tally_Wrong_1_j4 q0 a0 rec_ a1 0))
def tally_Wrong_1:Nat→(List Int)→Int→TallyBook→Option ((List Int)×Bool)
 | 0,_,_,_=>none
 | n+1,a0,a1,q0=>tally_Wrong_1_F (fun x0_ x1_=>tally_Wrong_1 n x0_ x1_ q0) a0 a1 q0
set_option maxRecDepth 100000 in
theorem tally_Wrong_1_ok {n:Nat}:∀ {a0:List Int}{a1:Int}{q0:TallyBook}{A1:Option Addr}{c2:Nat}{b4:Nat}{A6:Option Addr}{c7:Nat}{b5:Nat}{w:World}{r:(List Int)×Bool} (H:tally_Wrong_1 n a0 a1 q0=some r) (h10:(bl b5 [vF (.func 29) #[] #[P b4 0,P b5 0]] 65).ok w) (h9:(bl b4 [I q0.Trips,I q0.Room,SL A6 q0.Counts.length c7] 24).ok w) (h3:(rd intE 1 A1 c2 a0).ok w) (h8:(rd eTallyCount 7 A6 c7 q0.Counts).ok w) (hg11:(gW0).ok w) (hg12:(gW1).ok w),Calls Tryd.prog 29 #[SL A1 a0.length c2,I a1,P b4 0,P b5 0] w fun en w_=>∃ u_,en=.returned u_∧∃ A_1:Option Addr,∃ c_2:Nat,u_=TU [SL A_1 r.1.length c_2,B r.2]∧Keep0 w w_∧((rd intE 1 A_1 c_2 r.1).ok w_∧Al w [rd intE 1 A1 c2 a0,rd eTallyCount 7 A6 c7 q0.Counts] (rd intE 1 A_1 c_2 r.1))∧True:=by
 induction n with
 | zero=>intro a0 a1 q0 A1 c2 b4 A6 c7 b5 w r H h10 h9 h3 h8 hg11 hg12; cases H
 | succ n ih=>
 intro a0 a1 q0 A1 c2 b4 A6 c7 b5 w r H h10 h9 h3 h8 hg11 hg12
 unfold tally_Wrong_1 tally_Wrong_1_F at H
 refine fn_of (n:=55) Tryd.func29 rfl rfl (lE rfl) ?_
 have S:=St.start w nF _ (cA h10 (cA h9 (cA h3 (cA h8 (cA hg11 (cA hg12 nM))))))
 refine c_seq<|reg<|p_aS rfl<|p_aB rfl<|wp_nil<|c_seq<|reg<|p_mS rfl<|p_len rfl sc40<|p_aI rfl<|wp_nil<|c_seq<|c_seq<|reg<|p_mI rfl<|p_mI rfl<|p_cmp rfl rfl rfl<|wp_nil ?_
 refine c_cond rfl (fun c13=>?_) (fun c13=>?_)
 ·replace H:=condT c13 H
  refine c_seq ?_
  refine reg_c mixed 8 [3,4,5,7] (by kernel_rfl) ?_
  refine kS rfl (fun _ k_=>p_mS rfl dn)<|kS rfl (fun _ k_=>p_ldA ty24 sz24 (aS (S.atP (i:=1) rfl) k_) rfl rfl dn)<|kS rfl (fun _ k_=>p_mS rfl dn)<|kC rfl<|kC rfl<|kC rfl<|kS rfl (fun _ k_=>p_aS rfl dn)<|kC rfl ?_
  intro w14 k15; have S16:=S.call k15
  obtain ⟨r17,h18,H⟩:=bindS H
  refine p_cal (tally_some_ok h18 (S16.atP (i:=2) rfl)) fu30 rfl ?_
  rintro _ w19 ⟨b21,rfl,k20,⟨o22,n23⟩,_⟩
  have S24:=S16.addNew k20 o22 n23
  refine cN k20 fun w25 k26=>?_
  have S27:=S24.call k26
  obtain ⟨r30,h31,H⟩:=bindS H
  refine p_cal (tally_opened_ok h31 (S27.atP (i:=3) rfl) (by kernel_rfl) (fun _ _ _ _ k_ hr_=>tally_some_1_ok hr_ (aS (S27.atX (i:=0) rfl) k_) (aS (S27.atP (i:=2) rfl) k_)) (S27.atP (i:=4) rfl)) fu19 rfl ?_
  rintro _ w32 ⟨m34,rfl,k33,⟨o35,n36⟩,_⟩
  have S37:=S27.addNew k33 o35 n36
  refine cN k33 fun w38 k39=>?_
  have S40:=S37.call k39
  obtain ⟨r41,h42,H⟩:=bindS H
  refine p_cal (tally_book_can_ok h42 (S40.atP (i:=3) rfl) (mpo_some (S40.atX (i:=0) rfl)) (S40.atP (i:=5) rfl)) fu21 rfl ?_
  rintro _ w43 ⟨rfl,k44⟩; refine cN k44 fun w45 k46=>?_
  have S47:=(S40.call k44).call k46
  refine p_aB rfl (cN (kR) fun w48 k49=>?_)
  have S50:=S47.call k49
  refine wp_nil ?_
  obtain rfl:=sJ H
  refine c_ret ?_; show bodyPostM (Fr none) 0 Tryd.prog Tryd.f29 _ .ret _ _
  refine ret_of (res2 rfl (rvT (rfl:_=SL A1 a0.length c2)) (rvT (rfl:_=B r41))) ?_
  exact ⟨_,rfl,A1,c2,rfl,S50.keep,⟨(S50.atP (i:=2) rfl),Al.self (i:=0) rfl⟩,trivial⟩
 ·replace H:=condF c13 H
  refine c_skip<|c_seq<|reg<|p_aI rfl<|wp_nil ?_
  refine c_join (α:=Int) (β:=Unit) (fun z_1 y_1=>[(0,SL A1 a0.length c2),(1,I a1),(2,P b4 0),(3,P b5 0),(8,I (a0.length:Int)),(9,I z_1)]) (fun z_1 y_1 w_=>tally_Wrong_1_j4 q0 a0 (fun x0_ x1_=>tally_Wrong_1 n x0_ x1_ q0) a1 z_1=some r∧St w nF w_ [] [bl b5 [vF (.func 29) #[] #[P b4 0,P b5 0]] 65,bl b4 [I q0.Trips,I q0.Room,SL A6 q0.Counts.length c7] 24,rd intE 1 A1 c2 a0,rd eTallyCount 7 A6 c7 q0.Counts,gW0,gW1]) ?_ ?_
  ·refine c_seq<|reg<|p_mI rfl<|p_cmp rfl rfl rfl<|wp_nil ?_
   refine c_cond rfl (fun c51=>?_) (fun c51=>?_)
   ·replace H:=condT c51 H
    refine reg<|p_mS rfl<|p_mI rfl<|p_sub rfl rfl ?_
    obtain ⟨r52,h53,H⟩:=bindS H
    refine p_ixE sc40 h53 (S.atP (i:=2) rfl).1 rfl rfl rfl<|p_ldE ty3 h53 (S.atP (i:=2) rfl).1 rfl rfl<|p_add rfl rfl<|p_aI rfl<|wp_nil ?_
    exact ⟨wr (r52+1),(),_,rfl,⟨rfl,rfl,rfl,rfl,rfl,rfl,trivial⟩,H,S⟩
   ·replace H:=condF c51 H
    refine c_skip ?_
    exact ⟨0,(),_,rfl,⟨rfl,rfl,rfl,rfl,rfl,rfl,trivial⟩,H,S⟩
  ·intro z_1 y_1 e51 w52 S53; obtain ⟨H,S53⟩:=S53
   unfold tally_Wrong_1_j4 at H
   refine c_seq<|c_seq<|reg<|p_mI rfl<|p_aI rfl<|wp_nil<|c_block ?_
   refine c_lop (α:=Int) (β:=Unit) (tally_Wrong_1_l3 q0 a0 (fun x0_ x1_=>tally_Wrong_1 n x0_ x1_ q0) a1) (fun z_2 y_2=>[(0,SL A1 a0.length c2),(1,I a1),(2,P b4 0),(3,P b5 0),(8,I (a0.length:Int)),(10,I z_2)]) (fun z_2 y_2 w_=>St w nF w_ [] [bl b5 [vF (.func 29) #[] #[P b4 0,P b5 0]] 65,bl b4 [I q0.Trips,I q0.Room,SL A6 q0.Counts.length c7] 24,rd intE 1 A1 c2 a0,rd eTallyCount 7 A6 c7 q0.Counts,gW0,gW1]) z_1 () H ⟨rfl,rfl,rfl,rfl,rfl,rfl,trivial⟩ S53 ?_
   intro m54 z_2 y_2 e55 w56 H S57
   unfold tally_Wrong_1_l3 at H
   refine c_seq<|c_seq<|reg<|p_mI rfl<|p_fld fl24_2 rfl<|p_ld ty22 (S57.atP (i:=1) rfl) rfl rfl<|p_len rfl sc22<|p_cmp rfl rfl rfl<|wp_nil ?_
   refine c_cond rfl (fun c58=>?_) (fun c58=>?_)
   ·replace H:=condT c58 H
    refine c_skip<|c_seq<|c_block<|c_seq ?_
    obtain ⟨h76,H⟩:=needS H
    obtain ⟨r83,h84,H⟩:=bindS H
    refine reg_any mixed 15 (by kernel_rfl) [rv (vF (.func 29) #[] #[P b4 0,P b5 0]),rv (SL A1 a0.length c2),rv (I (a0.length:Int)),rv (I (a0.length:Int)),rv (SL A1 a0.length a0.length),rv (I z_2),rx (α:=(Option Addr)×Nat) (fun ⟨A63,c64⟩=>SL A63 ([z_2]:List Int).length c64) (fun ⟨A63,c64⟩ lo hi=>BtwL lo hi [] (gr intE 1 3 A63 c64 ([z_2]:List Int))∧True) (fun ⟨A63,c64⟩=>[gr intE 1 3 A63 c64 ([z_2]:List Int)]),rx (α:=(Option Addr)×Nat) (fun ⟨A74,c75⟩=>SL A74 (a0++([z_2]:List Int)).length c75) (fun ⟨A74,c75⟩ lo hi=>BtwL lo hi [] (gr intE 1 3 A74 c75 (a0++([z_2]:List Int)))∧True) (fun ⟨A74,c75⟩=>[gr intE 1 3 A74 c75 (a0++([z_2]:List Int))]),rv (I a1),rxd 48 (α:=(Option Addr)×Nat) (fun ⟨A87,c88⟩=>TU [SL A87 r83.1.length c88,B r83.2]) (fun ⟨A87,c88⟩ lo hi ev=>BtwV lo hi [rd eTallyCount 7 A6 c7 q0.Counts] ev (rd intE 1 A87 c88 r83.1)∧True) (fun ⟨A87,c88⟩=>[rd intE 1 A87 c88 r83.1]),dv 50 some,dv 40 (exG 0),dv 40 (exG 1),dv 51 some,rv (B r83.2)] [[],[],[],[],[],[],[],[],[],[48],[50],[40],[40],[51],[]] rfl (by kernel_rfl) [[],[],[],[],[1,2,3],[],[5],[1,2,3,4,5,6],[],[0,1,2,3,4,5,6,7,8],[0,1,2,3,4,5,6,7,8,9],[0,1,2,3,4,5,6,7,8,9,10],[0,1,2,3,4,5,6,7,8,9,10],[0,1,2,3,4,5,6,7,8,9,10,11],[0,1,2,3,4,5,6,7,8,9,10,11,12,13]] (by kernel_rfl) ⟨?_,?_,?_,?_,?_,?_,?_,?_,?_,?_,?_,?_,?_,?_,?_,trivial⟩ ?_
    ·intro e_ w_ k_ hf_ hR_
     have S_:St w_ nF w_ [] [bl b5 [vF (.func 29) #[] #[P b4 0,P b5 0]] 65,bl b4 [I q0.Trips,I q0.Room,SL A6 q0.Counts.length c7] 24,rd intE 1 A1 c2 a0,rd eTallyCount 7 A6 c7 q0.Counts,gW0,gW1]:=S57.asP k_
     refine hopE [(3,P b5 0)] ⟨((hf_ 3 rfl).trans (rfl:_=P b5 0)),trivial⟩ ?_
     exact p_ld ty65 (S_.atP (i:=0) rfl) rfl rfl<|wp_nil ⟨_,rfl,S_.keep,rfl⟩
    ·intro e_ w_ k_ hf_ hR_
     have S_:St w_ nF w_ [] [bl b5 [vF (.func 29) #[] #[P b4 0,P b5 0]] 65,bl b4 [I q0.Trips,I q0.Room,SL A6 q0.Counts.length c7] 24,rd intE 1 A1 c2 a0,rd eTallyCount 7 A6 c7 q0.Counts,gW0,gW1]:=S57.asP k_
     refine hopE [(0,SL A1 a0.length c2)] ⟨((hf_ 0 rfl).trans (rfl:_=SL A1 a0.length c2)),trivial⟩ ?_
     refine p_mS rfl<|wp_nil ?_
     exact ⟨_,rfl,S_.keep,rfl⟩
    ·intro e_ w_ k_ hf_ hR_
     have S_:St w_ nF w_ [] [bl b5 [vF (.func 29) #[] #[P b4 0,P b5 0]] 65,bl b4 [I q0.Trips,I q0.Room,SL A6 q0.Counts.length c7] 24,rd intE 1 A1 c2 a0,rd eTallyCount 7 A6 c7 q0.Counts,gW0,gW1]:=S57.asP k_
     refine hopE [(8,I (a0.length:Int))] ⟨((hf_ 8 rfl).trans (rfl:_=I (a0.length:Int))),trivial⟩ ?_
     exact p_mI rfl<|wp_nil ⟨_,rfl,S_.keep,rfl⟩
    ·intro e_ w_ k_ hf_ hR_
     have S_:St w_ nF w_ [] [bl b5 [vF (.func 29) #[] #[P b4 0,P b5 0]] 65,bl b4 [I q0.Trips,I q0.Room,SL A6 q0.Counts.length c7] 24,rd intE 1 A1 c2 a0,rd eTallyCount 7 A6 c7 q0.Counts,gW0,gW1]:=S57.asP k_
     refine hopE [(8,I (a0.length:Int))] ⟨((hf_ 8 rfl).trans (rfl:_=I (a0.length:Int))),trivial⟩ ?_
     exact p_mI rfl<|wp_nil ⟨_,rfl,S_.keep,rfl⟩
    ·intro e_ w_ k_ hf_ hR_
     have S_:St w_ nF w_ [] [bl b5 [vF (.func 29) #[] #[P b4 0,P b5 0]] 65,bl b4 [I q0.Trips,I q0.Room,SL A6 q0.Counts.length c7] 24,rd intE 1 A1 c2 a0,rd eTallyCount 7 A6 c7 q0.Counts,gW0,gW1]:=S57.asP k_
     refine hopE [(42,SL A1 a0.length c2),(43,I (a0.length:Int)),(44,I (a0.length:Int))] ⟨rQ (hR_ 1 42 rfl (lE rfl) rfl),rQ (hR_ 2 43 rfl (lE rfl) rfl),rQ (hR_ 3 44 rfl (lE rfl) rfl),trivial⟩ ?_
     refine p_cut3 sc40 (S_.atP (i:=2) rfl) rfl rfl rfl<|wp_nil ?_
     exact ⟨_,rfl,S_.keep,rfl⟩
    ·intro e_ w_ k_ hf_ hR_
     have S_:St w_ nF w_ [] [bl b5 [vF (.func 29) #[] #[P b4 0,P b5 0]] 65,bl b4 [I q0.Trips,I q0.Room,SL A6 q0.Counts.length c7] 24,rd intE 1 A1 c2 a0,rd eTallyCount 7 A6 c7 q0.Counts,gW0,gW1]:=S57.asP k_
     refine hopE [(10,I z_2)] ⟨((hf_ 10 rfl).trans (rfl:_=I z_2)),trivial⟩ ?_
     exact p_mI rfl<|wp_nil ⟨_,rfl,S_.keep,rfl⟩
    ·intro e_ w_ k_ hf_ hR_
     have S_:St w_ nF w_ [] [bl b5 [vF (.func 29) #[] #[P b4 0,P b5 0]] 65,bl b4 [I q0.Trips,I q0.Room,SL A6 q0.Counts.length c7] 24,rd intE 1 A1 c2 a0,rd eTallyCount 7 A6 c7 q0.Counts,gW0,gW1]:=S57.asP k_
     refine hopE [(46,I z_2)] ⟨rQ (hR_ 5 46 rfl (lE rfl) rfl),trivial⟩ ?_
     refine p_bsl (enc:=intE) (l:=([z_2]:List Int)) I (fun _=>rfl) sc40 in3 intE_len rfl (by decide) (by decide) zr3_1 S_ rfl fun A63 c64 w65 S66=>wp_nil ?_
     exact ⟨_,rfl,S66.keep,⟨(A63,c64),rfl,⟨bL (New.al (S66.newX (i:=0) rfl)) rfl (S66.atX (i:=0) rfl) rfl,trivial⟩,(cA (S66.atX (i:=0) rfl) nM)⟩⟩
    ·intro e_ w_ k_ hf_ hR_
     have S_:St w_ nF w_ [] [bl b5 [vF (.func 29) #[] #[P b4 0,P b5 0]] 65,bl b4 [I q0.Trips,I q0.Room,SL A6 q0.Counts.length c7] 24,rd intE 1 A1 c2 a0,rd eTallyCount 7 A6 c7 q0.Counts,gW0,gW1]:=S57.asP k_
     obtain ⟨_,_,_,_,q68⟩:=hR_ 4 45 rfl (lE rfl) rfl
     obtain ⟨_,_,_,_,⟨A63,c64⟩,q69,p70,a71⟩:=hR_ 6 47 rfl (lE rfl) rfl
     replace q69:e_ 47=SL A63 ([z_2]:List Int).length c64:=q69
     have S_:=St.addL' S_ (a71 _ (.head _)) (fun _ _ _ h_=>(nE h_))
     refine hopE [(45,SL A1 a0.length a0.length),(47,SL A63 ([z_2]:List Int).length c64)] ⟨q68,q69,trivial⟩ ?_
     refine p_appN (enc:=intE) sc40 in3 rfl intE_len (by decide) S_ (rd_full (S_.atP (i:=3) rfl)).1 rfl (gr_sl intE_len (S_.atP (i:=0) rfl)) h76 (by simp) rfl rfl fun A74 c75 w72 S73=>wp_nil ?_
     exact ⟨_,rfl,S73.keep,⟨(A74,c75),rfl,⟨bL (New.al (S73.newX (i:=0) rfl)) rfl (S73.atX (i:=0) rfl) rfl,trivial⟩,(cA (S73.atX (i:=0) rfl) nM)⟩⟩
    ·intro e_ w_ k_ hf_ hR_
     have S_:St w_ nF w_ [] [bl b5 [vF (.func 29) #[] #[P b4 0,P b5 0]] 65,bl b4 [I q0.Trips,I q0.Room,SL A6 q0.Counts.length c7] 24,rd intE 1 A1 c2 a0,rd eTallyCount 7 A6 c7 q0.Counts,gW0,gW1]:=S57.asP k_
     refine hopE [(1,I a1)] ⟨((hf_ 1 rfl).trans (rfl:_=I a1)),trivial⟩ ?_
     exact p_mI rfl<|wp_nil ⟨_,rfl,S_.keep,rfl⟩
    ·intro e_ w_ k_ hf_ hR_
     have S_:St w_ nF w_ [] [bl b5 [vF (.func 29) #[] #[P b4 0,P b5 0]] 65,bl b4 [I q0.Trips,I q0.Room,SL A6 q0.Counts.length c7] 24,rd intE 1 A1 c2 a0,rd eTallyCount 7 A6 c7 q0.Counts,gW0,gW1]:=S57.asP k_
     obtain ⟨_,_,_,_,q78⟩:=hR_ 0 41 rfl (lE rfl) rfl
     obtain ⟨_,_,_,_,⟨A74,c75⟩,q79,p80,a81⟩:=hR_ 7 48 rfl (lE rfl) rfl
     replace q79:e_ 48=SL A74 (a0++([z_2]:List Int)).length c75:=q79
     have S_:=St.addL' S_ (a81 _ (.head _)) (fun _ _ _ h_=>(nE h_))
     refine hopE [(41,vF (.func 29) #[] #[P b4 0,P b5 0]),(48,SL A74 (a0++([z_2]:List Int)).length c75),(49,I a1)] ⟨q78,q79,rQ (hR_ 8 49 rfl (lE rfl) rfl),trivial⟩ ?_
     refine p_cal (ih h84 (S_.atP (i:=1) rfl) (S_.atP (i:=2) rfl) (gr_rd intE_len (S_.atP (i:=0) rfl)) (S_.atP (i:=4) rfl) (S_.atP (i:=5) rfl) (S_.atP (i:=6) rfl)) fu29 rfl ?_
     rintro _ w85 ⟨A87,c88,rfl,k86,⟨o89,n90⟩,_⟩
     have S91:=S_.callN k86 [rd intE 1 A87 c88 r83.1] (cA ⟨o89,Al.inL n90 ((cA (fp_gr (i:=0) rfl) (cA (fp_mem (i:=4) rfl) nM)))⟩ nM)
     exact wp_nil ⟨_,rfl,S91.keep,⟨(A87,c88),rfl,⟨BtwV.of n90 rfl (S91.atP (i:=0) rfl) rfl (cA (fun b_ h_=>.inl (vblk_sl h_)) (cA (fun b_ h_=>.inr ⟨_,mE (i:=0) rfl,h_⟩) nM)),trivial⟩,(cA (S91.atP (i:=0) rfl) nM)⟩⟩
    ·intro e_ w_ k_ hf_ hR_
     have S_:St w_ nF w_ [] [bl b5 [vF (.func 29) #[] #[P b4 0,P b5 0]] 65,bl b4 [I q0.Trips,I q0.Room,SL A6 q0.Counts.length c7] 24,rd intE 1 A1 c2 a0,rd eTallyCount 7 A6 c7 q0.Counts,gW0,gW1]:=S57.asP k_
     obtain ⟨_,_,_,_,⟨A87,c88⟩,q92,p93,a94⟩:=hR_ 9 50 rfl (lE rfl) rfl
     replace q92:e_ 50=TU [SL A87 r83.1.length c88,B r83.2]:=q92
     have S_:=St.addL' S_ (a94 _ (.head _)) (fun _ _ _ h_=>(nE h_))
     refine hopE [(50,TU [SL A87 r83.1.length c88,B r83.2])] ⟨q92,trivial⟩ ?_
     refine p_mT rfl<|wp_nil ?_
     exact ⟨_,rfl,S_.keep,rfl⟩
    ·intro e_ w_ k_ hf_ hR_
     have S_:St w_ nF w_ [] [bl b5 [vF (.func 29) #[] #[P b4 0,P b5 0]] 65,bl b4 [I q0.Trips,I q0.Room,SL A6 q0.Counts.length c7] 24,rd intE 1 A1 c2 a0,rd eTallyCount 7 A6 c7 q0.Counts,gW0,gW1]:=S57.asP k_
     obtain ⟨_,_,_,_,⟨A87,c88⟩,q96,p97,a98⟩:=hR_ 9 50 rfl (lE rfl) rfl
     replace q96:e_ 50=TU [SL A87 r83.1.length c88,B r83.2]:=q96
     have S_:=St.addL' S_ (a98 _ (.head _)) (fun _ _ _ h_=>(nE h_))
     obtain ⟨_,_,_,_,q95⟩:=hR_ 10 40 rfl (lE rfl) rfl
     replace q95:e_ 40=TU [SL A87 r83.1.length c88,B r83.2]:=(sJ ((congrArg some q96).symm.trans q95)).symm
     refine hopE [(40,TU [SL A87 r83.1.length c88,B r83.2])] ⟨q95,trivial⟩ ?_
     refine p_ext rfl rfl<|wp_nil ?_
     exact ⟨_,rfl,S_.keep,rfl⟩
    ·intro e_ w_ k_ hf_ hR_
     have S_:St w_ nF w_ [] [bl b5 [vF (.func 29) #[] #[P b4 0,P b5 0]] 65,bl b4 [I q0.Trips,I q0.Room,SL A6 q0.Counts.length c7] 24,rd intE 1 A1 c2 a0,rd eTallyCount 7 A6 c7 q0.Counts,gW0,gW1]:=S57.asP k_
     obtain ⟨_,_,_,_,⟨A87,c88⟩,q100,p101,a102⟩:=hR_ 9 50 rfl (lE rfl) rfl
     replace q100:e_ 50=TU [SL A87 r83.1.length c88,B r83.2]:=q100
     have S_:=St.addL' S_ (a102 _ (.head _)) (fun _ _ _ h_=>(nE h_))
     obtain ⟨_,_,_,_,q99⟩:=hR_ 10 40 rfl (lE rfl) rfl
     replace q99:e_ 40=TU [SL A87 r83.1.length c88,B r83.2]:=(sJ ((congrArg some q100).symm.trans q99)).symm
     refine hopE [(40,TU [SL A87 r83.1.length c88,B r83.2])] ⟨q99,trivial⟩ ?_
     refine p_ext rfl rfl<|wp_nil ?_
     exact ⟨_,rfl,S_.keep,rfl⟩
    ·intro e_ w_ k_ hf_ hR_
     have S_:St w_ nF w_ [] [bl b5 [vF (.func 29) #[] #[P b4 0,P b5 0]] 65,bl b4 [I q0.Trips,I q0.Room,SL A6 q0.Counts.length c7] 24,rd intE 1 A1 c2 a0,rd eTallyCount 7 A6 c7 q0.Counts,gW0,gW1]:=S57.asP k_
     obtain ⟨_,_,_,_,⟨A87,c88⟩,q105,p106,a107⟩:=hR_ 9 50 rfl (lE rfl) rfl
     replace q105:e_ 50=TU [SL A87 r83.1.length c88,B r83.2]:=q105
     have S_:=St.addL' S_ (a107 _ (.head _)) (fun _ _ _ h_=>(nE h_))
     obtain ⟨_,_,_,_,q104⟩:=hR_ 10 40 rfl (lE rfl) rfl
     replace q104:e_ 40=TU [SL A87 r83.1.length c88,B r83.2]:=(sJ ((congrArg some q105).symm.trans q104)).symm
     obtain ⟨_,_,_,_,q103⟩:=hR_ 11 51 rfl (lE rfl) rfl
     replace q103:e_ 51=SL A87 r83.1.length c88:=(sJ ((congrArg (exG 0) q104).symm.trans q103)).symm
     refine hopE [(51,SL A87 r83.1.length c88)] ⟨q103,trivial⟩ ?_
     refine p_aS rfl<|wp_nil ?_
     exact ⟨_,rfl,S_.keep,rfl⟩
    ·intro e_ w_ k_ hf_ hR_
     have S_:St w_ nF w_ [] [bl b5 [vF (.func 29) #[] #[P b4 0,P b5 0]] 65,bl b4 [I q0.Trips,I q0.Room,SL A6 q0.Counts.length c7] 24,rd intE 1 A1 c2 a0,rd eTallyCount 7 A6 c7 q0.Counts,gW0,gW1]:=S57.asP k_
     obtain ⟨_,_,_,_,⟨A87,c88⟩,q110,p111,a112⟩:=hR_ 9 50 rfl (lE rfl) rfl
     replace q110:e_ 50=TU [SL A87 r83.1.length c88,B r83.2]:=q110
     have S_:=St.addL' S_ (a112 _ (.head _)) (fun _ _ _ h_=>(nE h_))
     obtain ⟨_,_,_,_,q109⟩:=hR_ 10 40 rfl (lE rfl) rfl
     replace q109:e_ 40=TU [SL A87 r83.1.length c88,B r83.2]:=(sJ ((congrArg some q110).symm.trans q109)).symm
     obtain ⟨_,_,_,_,q108⟩:=hR_ 12 52 rfl (lE rfl) rfl
     replace q108:e_ 52=B r83.2:=(sJ ((congrArg (exG 1) q109).symm.trans q108)).symm
     refine hopE [(52,B r83.2)] ⟨q108,trivial⟩ ?_
     refine p_aB rfl<|wp_nil ?_
     exact ⟨_,rfl,S_.keep,rfl⟩
    intro e113 w114 lo115 hi116 k117 hf118 hR119 hd120
    have S121:=S57.call k117
    have q122:e113 41=vF (.func 29) #[] #[P b4 0,P b5 0]:=(hR119 0 41 (lE rfl) rfl).2.2.2
    have q123:e113 42=SL A1 a0.length c2:=(hR119 1 42 (lE rfl) rfl).2.2.2
    have q124:e113 43=I (a0.length:Int):=(hR119 2 43 (lE rfl) rfl).2.2.2
    have q125:e113 44=I (a0.length:Int):=(hR119 3 44 (lE rfl) rfl).2.2.2
    have q126:e113 45=SL A1 a0.length a0.length:=(hR119 4 45 (lE rfl) rfl).2.2.2
    have q127:e113 46=I z_2:=(hR119 5 46 (lE rfl) rfl).2.2.2
    obtain ⟨h129,h130,h131,⟨A63,c64⟩,q128,h132,h133⟩:=hR119 6 47 (lE rfl) rfl
    replace q128:e113 47=SL A63 ([z_2]:List Int).length c64:=q128
    obtain ⟨p134,_⟩:=h132
    obtain ⟨h137,h138,h139,⟨A74,c75⟩,q136,h140,h141⟩:=hR119 7 48 (lE rfl) rfl
    replace q136:e113 48=SL A74 (a0++([z_2]:List Int)).length c75:=q136
    obtain ⟨p142,_⟩:=h140
    have q144:e113 49=I a1:=(hR119 8 49 (lE rfl) rfl).2.2.2
    obtain ⟨h146,h147,h148,⟨A87,c88⟩,q145,h149,h150⟩:=hR119 9 50 (lE rfl) rfl
    replace q145:e113 50=TU [SL A87 r83.1.length c88,B r83.2]:=q145
    obtain ⟨p151,_⟩:=h149
    have q153:Al w56 [rd eTallyCount 7 A6 c7 q0.Counts] (rd intE 1 A87 c88 r83.1):=BtwV.al p151 h146 (fun b_ h_=>by rw [q136] at h_; exact Nat.le_trans h137 ((p142 b_ (vblk_gr h_)).elim (fun q_=>q_.1) (fun ⟨_,hq_,_⟩=>(List.not_mem_nil hq_).elim)))
    have S152:=St.addR S121 (h150 _ (.head _)) (oQ q153 S57 (mG [3] rfl))
    have q154:e113 40=TU [SL A87 r83.1.length c88,B r83.2]:=(sJ ((congrArg some q145).symm.trans (hR119 10 40 (lE rfl) rfl).2.2.2)).symm
    have q155:e113 51=SL A87 r83.1.length c88:=(sJ ((congrArg (exG 0) q154).symm.trans (hR119 11 51 (lE rfl) rfl).2.2.2)).symm
    have q156:e113 52=B r83.2:=(sJ ((congrArg (exG 1) q154).symm.trans (hR119 12 52 (lE rfl) rfl).2.2.2)).symm
    have q157:e113 11=SL A87 r83.1.length c88:=(sJ ((congrArg some q155).symm.trans (hR119 13 11 (lE rfl) rfl).2.2.2)).symm
    have q158:e113 12=B r83.2:=(hR119 14 12 (lE rfl) rfl).2.2.2
    refine tailE [(0,SL A1 a0.length c2),(1,I a1),(2,P b4 0),(3,P b5 0),(8,I (a0.length:Int)),(10,I z_2),(11,SL A87 r83.1.length c88),(12,B r83.2)] ⟨((hf118 0 rfl).trans (rfl:_=SL A1 a0.length c2)),((hf118 1 rfl).trans (rfl:_=I a1)),((hf118 2 rfl).trans (rfl:_=P b4 0)),((hf118 3 rfl).trans (rfl:_=P b5 0)),((hf118 8 rfl).trans (rfl:_=I (a0.length:Int))),((hf118 10 rfl).trans (rfl:_=I z_2)),q157,q158,trivial⟩ ?_
    intro g159
    refine wp_nil<|c_seq<|reg<|p_mB rfl<|wp_nil ?_
    refine c_cond rfl (fun c160=>?_) (fun c160=>?_)
    ·replace H:=condT c160 H
     refine c_seq<|reg<|p_mS rfl<|p_aS rfl<|p_aB rfl<|wp_nil ?_
     obtain rfl:=sJ H
     refine c_ret ?_; show bodyPostM (Fr none) 0 Tryd.prog Tryd.f29 _ .ret _ _
     refine ret_of (res2 rfl (rvT (rfl:_=SL A87 r83.1.length c88)) (rvT (rfl:_=B true))) ?_
     exact ⟨_,rfl,A87,c88,rfl,S152.keep,⟨(S152.atP (i:=0) rfl),(Al.up q153 S57.keep.size (cA (Al.self (i:=1) rfl) nM))⟩,trivial⟩
    ·replace H:=condF c160 H
     refine c_skip<|reg<|p_mI rfl<|p_add rfl rfl<|p_aI rfl<|wp_nil ?_
     have S161:=S152.pk [] (by decide) [1,2,3,4,5,6] rfl rfl
     exact ⟨wr (z_2+1),(),_,rfl,⟨rfl,rfl,rfl,rfl,rfl,rfl,trivial⟩,H,S161⟩
   ·replace H:=condF c58 H
    refine c_exit<|c_seq<|reg<|p_aS rfl<|p_aB rfl<|wp_nil ?_
    obtain rfl:=sJ H
    refine c_ret ?_; show bodyPostM (Fr none) 0 Tryd.prog Tryd.f29 _ .ret _ _
    refine ret_of (res2 rfl (rvT (rfl:_=SL none 0 0)) (rvT (rfl:_=B false))) ?_
    exact ⟨_,rfl,none,0,rfl,S57.keep,⟨rd_nil (Nat.zero_le _),Al.nil⟩,trivial⟩
def tally_Wrong_l2 (a0:TallyBook) (rec_z_1:Int→Option ((List Int)×Int)) (z_1:Int):Option ((List Int)×Int):=
 bif decide (z_1 < (wr ((a0.Counts.length:Int)+1))) then ((tally_Wrong_1 big ([]:List _) z_1 a0).bind fun r24=>
 bif r24.2 then (some (r24.1,0))
 else (rec_z_1 (wr (z_1+1))))
 else (some (([]:List _),0))
def tally_Wrong (a0:TallyBook):Option ((List Int)×Int):=
 (tally_Check a0).bind fun r9=>
 bif (r9 != 0) then (some (([]:List _),r9))
 else (loopF (tally_Wrong_l2 a0) big 0)
set_option maxRecDepth 100000 in
theorem tally_Wrong_ok {a0:TallyBook}{A1:Option Addr}{c2:Nat}{w:World}{r:(List Int)×Int} (H:tally_Wrong a0=some r) (h3:(rd eTallyCount 7 A1 c2 a0.Counts).ok w) (hg4:(gW0).ok w) (hg5:(gW1).ok w):Calls Tryd.prog 11 #[AG [I a0.Trips,I a0.Room,SL A1 a0.Counts.length c2]] w fun en w_=>∃ u_,en=.returned u_∧∃ A_1:Option Addr,∃ c_2:Nat,u_=TU [SL A_1 r.1.length c_2,I r.2]∧Keep0 w w_∧((rd intE 1 A_1 c_2 r.1).ok w_∧Al w [rd eTallyCount 7 A1 c2 a0.Counts] (rd intE 1 A_1 c_2 r.1))∧True:=by
 unfold tally_Wrong at H
 refine fn_of (n:=36) Tryd.func11 rfl rfl (lE rfl) ?_
 have S:=St.start w nF _ (cA h3 (cA hg4 (cA hg5 nM)))
 refine c_seq<|reg<|p_boxA rfl S fun b6 w7 S8=>p_aS rfl<|p_aI rfl<|wp_nil<|c_seq<|c_seq<|reg<|p_ldA ty24 sz24 (S8.atX (i:=0) rfl) rfl rfl ?_
 obtain ⟨r9,h10,H⟩:=bindS H
 refine p_cv (tally_Check_ok h10 (S8.atP (i:=0) rfl)) fu14 rfl S8 fun w11 S12=>p_aI rfl<|wp_nil<|c_seq<|reg<|p_mI rfl<|p_cmp rfl rfl rfl<|wp_nil ?_
 refine c_cond rfl (fun c13=>?_) (fun c13=>?_)
 ·replace H:=condT c13 H
  refine c_seq<|reg<|p_mI rfl<|p_aS rfl<|p_aI rfl<|wp_nil ?_
  obtain rfl:=sJ H
  refine c_ret ?_; show bodyPostM (Fr none) 0 Tryd.prog Tryd.f11 _ .ret _ _
  refine ret_of (res2 rfl (rvT (rfl:_=SL none 0 0)) (rvT (rfl:_=I r9))) ?_
  exact ⟨_,rfl,none,0,rfl,S12.keep,⟨rd_nil (Nat.zero_le _),Al.nil⟩,trivial⟩
 ·replace H:=condF c13 H
  refine c_skip<|c_seq<|reg<|p_all in65 rfl S12 fun b14 w15 S16=>wp_nil<|c_seq<|reg ?_
  refine o_fun (rfl:_=[]) (rfl:_=[P b6 0,P b14 0]) ?_
  refine p_st sz65 S16 (i:=0) rfl rfl (rfl:_=vF (.func 29) #[] #[P b6 0,P b14 0]) rfl rfl fun w17 S18=>wp_nil<|c_seq<|c_seq<|reg<|p_fld fl24_2 rfl<|p_ld ty22 (S18.atX (i:=1) rfl) rfl rfl<|p_len rfl sc22<|p_add rfl rfl<|p_mI rfl<|wp_nil<|c_block ?_
  refine c_lop (α:=Int) (β:=Unit) (tally_Wrong_l2 a0) (fun z_1 y_1=>[(5,P b14 0),(18,I (wr ((a0.Counts.length:Int)+1))),(19,I z_1)]) (fun z_1 y_1 w_=>St w nF w_ [bl b14 [vF (.func 29) #[] #[P b6 0,P b14 0]] 65,bl b6 [I a0.Trips,I a0.Room,SL A1 a0.Counts.length c2] 24] [rd eTallyCount 7 A1 c2 a0.Counts,gW0,gW1]) 0 () H ⟨rfl,rfl,rfl,trivial⟩ S18 ?_
  intro m19 z_1 y_1 e20 w21 H S22
  unfold tally_Wrong_l2 at H
  refine c_seq<|reg<|p_cmp rfl rfl rfl<|wp_nil<|c_seq ?_
  refine c_cond rfl (fun c23=>?_) (fun c23=>?_)
  ·replace H:=condT c23 H
   refine c_skip<|c_seq<|c_block<|c_seq<|reg<|p_mI rfl<|p_aI rfl<|wp_nil<|c_seq<|reg<|p_ld ty65 (S22.atX (i:=0) rfl) rfl rfl<|p_mI rfl ?_
   obtain ⟨r24,h25,H⟩:=bindS H
   refine p_cal (tally_Wrong_1_ok h25 (S22.atX (i:=0) rfl) (S22.atX (i:=1) rfl) (rd_nil (Nat.zero_le _)) (S22.atP (i:=0) rfl) (S22.atP (i:=1) rfl) (S22.atP (i:=2) rfl)) fu29 rfl ?_
   rintro _ w26 ⟨A28,c29,rfl,k27,⟨o30,n31⟩,_⟩
   have S32:=S22.callN k27 [rd intE 1 A28 c29 r24.1] (cA ⟨o30,Al.inL n31 ((cA fp_nil (cA (fp_mem (i:=0) rfl) nM)))⟩ nM)
   refine p_mT rfl<|p_ext rfl rfl<|p_ext rfl rfl<|p_aS rfl<|p_aB rfl<|wp_nil<|c_seq<|reg<|p_mB rfl<|wp_nil ?_
   refine c_cond rfl (fun c33=>?_) (fun c33=>?_)
   ·replace H:=condT c33 H
    refine c_seq<|reg<|p_mS rfl<|p_mS rfl<|p_len rfl sc40<|p_mS rfl<|p_len rfl sc40<|p_cut3 sc40 (S32.atP (i:=0) rfl) rfl rfl rfl<|p_aS rfl<|p_aI rfl<|wp_nil ?_
    obtain rfl:=sJ H
    refine c_ret ?_; show bodyPostM (Fr none) 0 Tryd.prog Tryd.f11 _ .ret _ _
    refine ret_of (res2 rfl (rvT (rfl:_=SL A28 r24.1.length r24.1.length)) (rvT (rfl:_=I 0))) ?_
    exact ⟨_,rfl,A28,r24.1.length,rfl,S32.keep,⟨(rd_full (S32.atP (i:=0) rfl)),Al.rdr (Al.up n31 S22.keep.size (cA Al.nil (cA (Al.self (i:=0) rfl) nM)))⟩,trivial⟩
   ·replace H:=condF c33 H
    refine c_skip<|reg<|p_add rfl rfl<|p_mI rfl<|wp_nil ?_
    have S34:=S32.pk [0,1] (by decide) [1,2,3] rfl rfl
    exact ⟨wr (z_1+1),(),_,rfl,⟨rfl,rfl,rfl,trivial⟩,H,S34⟩
  ·replace H:=condF c23 H
   refine c_exit<|c_seq<|reg<|p_aS rfl<|p_aI rfl<|wp_nil ?_
   obtain rfl:=sJ H
   refine c_ret ?_; show bodyPostM (Fr none) 0 Tryd.prog Tryd.f11 _ .ret _ _
   refine ret_of (res2 rfl (rvT (rfl:_=SL none 0 0)) (rvT (rfl:_=I 0))) ?_
   exact ⟨_,rfl,none,0,rfl,S22.keep,⟨rd_nil (Nat.zero_le _),Al.nil⟩,trivial⟩
def tally_whose_1 (a0:TallyCount) (a1:Int) (q0:Int):Option Bool:=
 some (a0.Who==q0)
set_option maxRecDepth 100000 in
theorem tally_whose_1_ok {a0:TallyCount}{a1:Int}{q0:Int}{b1:Nat}{w:World}{r:Bool} (H:tally_whose_1 a0 a1 q0=some r) (h2:(bl b1 [I q0] 3).ok w):Calls Tryd.prog 39 #[AG [I a0.Who,I a0.From,I a0.To,I a0.Told,I a0.Unit,I a0.Under,I a0.Over],I a1,P b1 0] w (RetV w (B r)):=by
 unfold tally_whose_1 at H
 refine fn_of (n:=10) Tryd.func39 rfl rfl (lE rfl) ?_
 have S:=St.start w nF _ (cA h2 nM)
 refine c_seq<|reg<|p_boxA rfl S fun b3 w4 S5=>p_aB rfl<|wp_nil<|c_seq<|reg<|p_fld fl28_0 rfl<|p_ld ty3 (S5.atX (i:=0) rfl) rfl rfl<|p_ld ty3 (S5.atP (i:=0) rfl) rfl rfl<|p_cmp rfl rfl rfl<|p_aB rfl<|wp_nil ?_
 obtain rfl:=sJ H
 exact c_ret (rT Tryd.f39 S5.keep rfl rfl)
def tally_whose (a0:Int):Option Unit:=
 some ()
set_option maxRecDepth 100000 in
theorem tally_whose_ok {a0:Int}{w:World}{r:Unit} (H:tally_whose a0=some r):Calls Tryd.prog 31 #[I a0] w fun en w_=>∃ u_,en=.returned u_∧∃ b_1:Nat,u_=AG [vF (.func 39) #[] #[P b_1 0]]∧Keep0 w w_∧((bl b_1 [I a0] 3).ok w_∧New w.heap.size (bl b_1 [I a0] 3))∧True:=by
 unfold tally_whose at H
 refine fn_of (n:=5) Tryd.func31 rfl rfl (lE rfl) ?_
 have S:=St.start w nF _ nM
 refine c_seq<|reg<|p_box (rfl:_=I a0) rfl S fun b1 w2 S3=>p_allA in55 S3 fun b4 w5 S6=>wp_nil<|c_seq<|reg ?_
 refine o_fun (rfl:_=[]) (rfl:_=[P b1 0]) ?_
 refine p_bld (cs:=[vF (.func 39) #[] #[P b1 0]]) st55 (rfl:_=[(0,vF (.func 39) #[] #[P b1 0])]) (by kernel_rfl)<|p_stP (pre:=[]) (old:=[Value.nilFunc]) (post:=[]) (vs:=[vF (.func 39) #[] #[P b1 0]]) sz55 S6 (i:=0) rfl rfl rfl rfl (rfl:_=AG [vF (.func 39) #[] #[P b1 0]]) rfl rfl rfl rfl fun w7 S8=>wp_nil ?_
 obtain rfl:=sJ H
 refine c_ret ?_; show bodyPostM (Fr none) 0 Tryd.prog Tryd.f31 _ .ret _ _
 refine ret_of (res1 rfl (rvA rfl ty55 sz55 (S8.atX (i:=0) rfl) rfl)) ?_
 exact ⟨_,rfl,b1,rfl,S8.keep,⟨S8.atX (i:=1) rfl,S8.newX (i:=1) rfl⟩,trivial⟩
def tally_Whose_l3 (a0:TallyBook) (rec_z_1:((List Int)×Int)→Option ((List Int)×Int)) (z_1:(List Int)×Int):Option ((List Int)×Int):=
 bif decide (z_1.2 < 3) then ((tally_whose z_1.2).bind fun r23=>
 (tally_opened a0 (Tally_leave.mk (fun y34 y35=>tally_whose_1 y34 y35 z_1.2))).bind fun r36=>
 (tally_book_can (Tally_book.mk (TallyBook.mk r36.TallyBook.Trips r36.TallyBook.Room a0.Counts) r36.more_)).bind fun r44=>
 bif r44 then (need (fitsL (z_1.1.length+([z_1.2]:List Int).length) 8)<|
 rec_z_1 (z_1.1++([z_1.2]:List Int),wr (z_1.2+1)))
 else (rec_z_1 (z_1.1,wr (z_1.2+1))))
 else (some (z_1.1,0))
def tally_Whose (a0:TallyBook):Option ((List Int)×Int):=
 (tally_Check a0).bind fun r9=>
 bif (r9 != 0) then (some (([]:List _),r9))
 else (loopF (tally_Whose_l3 a0) big (([]:List Int),0))
set_option maxRecDepth 100000 in
theorem tally_Whose_ok {a0:TallyBook}{A1:Option Addr}{c2:Nat}{w:World}{r:(List Int)×Int} (H:tally_Whose a0=some r) (h3:(rd eTallyCount 7 A1 c2 a0.Counts).ok w) (hg4:(gW0).ok w) (hg5:(gW1).ok w):Calls Tryd.prog 12 #[AG [I a0.Trips,I a0.Room,SL A1 a0.Counts.length c2]] w fun en w_=>∃ u_,en=.returned u_∧∃ A_1:Option Addr,∃ c_2:Nat,u_=TU [SL A_1 r.1.length c_2,I r.2]∧Keep0 w w_∧((rd intE 1 A_1 c_2 r.1).ok w_∧New w.heap.size (rd intE 1 A_1 c_2 r.1))∧True:=by
 unfold tally_Whose at H
 refine fn_of (n:=31) Tryd.func12 rfl rfl (lE rfl) ?_
 have S:=St.start w nF _ (cA h3 (cA hg4 (cA hg5 nM)))
 refine c_seq<|reg<|p_boxA rfl S fun b6 w7 S8=>p_aS rfl<|p_aI rfl<|wp_nil<|c_seq<|c_seq<|reg<|p_ldA ty24 sz24 (S8.atX (i:=0) rfl) rfl rfl ?_
 obtain ⟨r9,h10,H⟩:=bindS H
 refine p_cv (tally_Check_ok h10 (S8.atP (i:=0) rfl)) fu14 rfl S8 fun w11 S12=>p_aI rfl<|wp_nil<|c_seq<|reg<|p_mI rfl<|p_cmp rfl rfl rfl<|wp_nil ?_
 refine c_cond rfl (fun c13=>?_) (fun c13=>?_)
 ·replace H:=condT c13 H
  refine c_seq<|reg<|p_mI rfl<|p_aS rfl<|p_aI rfl<|wp_nil ?_
  obtain rfl:=sJ H
  refine c_ret ?_; show bodyPostM (Fr none) 0 Tryd.prog Tryd.f12 _ .ret _ _
  refine ret_of (res2 rfl (rvT (rfl:_=SL none 0 0)) (rvT (rfl:_=I r9))) ?_
  exact ⟨_,rfl,none,0,rfl,S12.keep,⟨rd_nil (Nat.zero_le _),New.nil⟩,trivial⟩
 ·replace H:=condF c13 H
  refine c_skip<|c_seq<|reg<|p_aS rfl<|wp_nil<|c_seq<|c_seq<|reg<|p_mI rfl<|wp_nil<|c_block ?_
  have S14:=S12.nilRow intE 1 3
  refine c_lop (α:=(List Int)×Int) (β:=(Option Addr)×Nat) (tally_Whose_l3 a0) (fun z_1 y_1=>[(1,P b6 0),(5,SL y_1.1 z_1.1.length y_1.2),(12,I z_1.2)]) (fun z_1 y_1 w_=>St w nF w_ [gr intE 1 3 y_1.1 y_1.2 z_1.1,bl b6 [I a0.Trips,I a0.Room,SL A1 a0.Counts.length c2] 24] [rd eTallyCount 7 A1 c2 a0.Counts,gW0,gW1]) (([]:List Int),0) (none,0) H ⟨rfl,rfl,rfl,trivial⟩ S14 ?_
  intro m15 z_1 y_1 e16 w17 H S18
  unfold tally_Whose_l3 at H
  refine c_seq<|reg<|p_cmp rfl rfl rfl<|wp_nil<|c_seq ?_
  refine c_cond rfl (fun c19=>?_) (fun c19=>?_)
  ·replace H:=condT c19 H
   refine c_skip<|c_seq<|c_block<|c_seq<|reg<|p_mI rfl<|p_aI rfl<|wp_nil<|c_seq ?_
   refine reg_c mixed 3 [2] (by kernel_rfl) ?_
   refine kS rfl (fun _ k_=>p_ldA ty24 sz24 (aS (S18.atX (i:=1) rfl) k_) rfl rfl dn)<|kS rfl (fun _ k_=>p_mI rfl dn)<|kC rfl ?_
   intro w20 k21; have S22:=S18.call k21
   obtain ⟨r23,h24,H⟩:=bindS H
   refine p_cal (tally_whose_ok h24) fu31 rfl ?_
   rintro _ w25 ⟨b27,rfl,k26,⟨o28,n29⟩,_⟩
   have S30:=S22.addNew k26 o28 n29
   refine cN k26 fun w31 k32=>?_
   have S33:=S30.call k32
   obtain ⟨r36,h37,H⟩:=bindS H
   refine p_cal (tally_opened_ok h37 (S33.atP (i:=0) rfl) (by kernel_rfl) (fun _ _ _ _ k_ hr_=>tally_whose_1_ok hr_ (aS (S33.atX (i:=0) rfl) k_)) (S33.atP (i:=1) rfl)) fu19 rfl ?_
   rintro _ w38 ⟨m40,rfl,k39,⟨o41,n42⟩,_⟩
   have S43:=S33.addNew k39 o41 n42
   obtain ⟨r44,h45,H⟩:=bindS H
   refine p_cv (tally_book_can_ok h45 (S43.atP (i:=0) rfl) (mpo_some (S43.atX (i:=0) rfl)) (S43.atP (i:=2) rfl)) fu21 rfl S43 fun w46 S47=>wp_nil ?_
   refine c_cond rfl (fun c48=>?_) (fun c48=>?_)
   ·replace H:=condT c48 H
    refine reg<|p_mS rfl<|p_mI rfl<|p_bsl (enc:=intE) (l:=([z_1.2]:List Int)) I (fun _=>rfl) sc40 in3 intE_len rfl (by decide) (by decide) zr3_1 S47 rfl fun A49 c50 w51 S52=>?_
    obtain ⟨h58,H⟩:=needS H
    refine p_app (enc:=intE) sc40 in3 rfl intE_len intE_one (by decide) S52 (k:=3) rfl (gr_sl intE_len (S52.atX (i:=0) rfl)) h58 (by simp) rfl rfl fun A56 c57 w54 S55=>p_aS rfl<|wp_nil<|reg<|p_add rfl rfl<|p_mI rfl<|wp_nil ?_
    have S59:=S55.pk [3,4] (by decide) [0,1,2] rfl rfl
    exact ⟨(z_1.1++([z_1.2]:List Int),wr (z_1.2+1)),(A56,c57),_,rfl,⟨rfl,rfl,rfl,trivial⟩,H,S59⟩
   ·replace H:=condF c48 H
    refine c_skip<|reg<|p_add rfl rfl<|p_mI rfl<|wp_nil ?_
    have S60:=S47.pk [2,3] (by decide) [0,1,2] rfl rfl
    exact ⟨(z_1.1,wr (z_1.2+1)),(y_1.1,y_1.2),_,rfl,⟨rfl,rfl,rfl,trivial⟩,H,S60⟩
  ·replace H:=condF c19 H
   refine c_exit<|c_seq<|reg<|p_mS rfl<|p_mS rfl<|p_len rfl sc40<|p_mS rfl<|p_len rfl sc40<|p_cut3 sc40 (gr_rd intE_len (S18.atX (i:=0) rfl)) rfl rfl rfl<|p_aS rfl<|p_aI rfl<|wp_nil ?_
   obtain rfl:=sJ H
   refine c_ret ?_; show bodyPostM (Fr none) 0 Tryd.prog Tryd.f12 _ .ret _ _
   refine ret_of (res2 rfl (rvT (rfl:_=SL y_1.1 z_1.1.length z_1.1.length)) (rvT (rfl:_=I 0))) ?_
   exact ⟨_,rfl,y_1.1,z_1.1.length,rfl,S18.keep,⟨(rd_full (gr_rd intE_len (S18.atX (i:=0) rfl))),(New.rdc (S18.newX (i:=0) rfl))⟩,trivial⟩
def tally_Again_j6 (rec_z_1:(Int×Int×Int)→Option (Int×Int)) (z_1:Int×Int×Int) (z_2:Int×Int) (z_3:Bool):Option (Int×Int):=
 bif z_3 then (rec_z_1 (z_1.2.2,z_2.1,wr (z_1.2.2+1)))
 else (rec_z_1 (z_1.1,z_1.2.1,wr (z_1.2.2+1)))
end Go.Proofs.YthimckediigcoaaDoor
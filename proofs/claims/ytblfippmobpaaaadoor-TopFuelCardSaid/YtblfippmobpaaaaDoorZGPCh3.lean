/- How a book, a measure and a list of numbers that a caller hands over are read. -/
import Derived.Test.YtblfippmobpaaaaDoorZGWRow
import Derived.KernelRfl
set_option linter.unusedVariables false
set_option linter.constructorNameAsVariable false
set_option maxRecDepth 100000
namespace Go.Proofs.YtblfippmobpaaaaDoor
open Go Go.Fx Go.Proofs Go.ChangeShapes Go.WideShapes Go.ChangeAt Go.RowKit
theorem get_bang {α:Type} [Inhabited α] {a:Array α}{i:Nat} (h:i < a.size):a[i]? =some a[i]! :=by
 rw [Array.getElem?_eq_getElem h,getElem!_pos a i h]
theorem st {t n:Nat} (u:Tryd.prog.underlying t=some (.struct (Tryd.prog.fieldsOf t))) (c:Tryd.prog.cellsOf t=n) (s:(Tryd.prog.fieldsOf t).size=n)
 (b:((List.range n).all fun i=>(Tryd.prog.fieldsOf t)[i]!.offset==i&&(Tryd.prog.fieldsOf t)[i]!.type==3)=true):FlatI Tryd.prog t n:=by
 refine flat_struct u c (fun i hi=>?_) s
 refine ⟨_,get_bang (by rw [s]; exact hi),?_⟩
 have:=List.all_eq_true.1 b i (List.mem_range.2 hi)
 simp only [Bool.and_eq_true,beq_iff_eq] at this
 exact ⟨this.1,by rw [this.2]; exact u3,by rw [this.2]; exact c3⟩
theorem c23:Tryd.prog.cellsOf 23=2:=by kernel_rfl
theorem c59:Tryd.prog.cellsOf 59=3:=by kernel_rfl
theorem c75:Tryd.prog.cellsOf 75=3:=by kernel_rfl
theorem c29:Tryd.prog.cellsOf 29=14:=by kernel_rfl
theorem c24:Tryd.prog.cellsOf 24=4:=by kernel_rfl
theorem c25:Tryd.prog.cellsOf 25=3:=by kernel_rfl
theorem c26:Tryd.prog.cellsOf 26=1:=by kernel_rfl
theorem c27:Tryd.prog.cellsOf 27=1:=by kernel_rfl
theorem u24:Tryd.prog.underlying 24=some (.array 2 23):=by kernel_rfl
theorem u25:Tryd.prog.underlying 25=some (.array 3 3):=by kernel_rfl
theorem u26:Tryd.prog.underlying 26=some (.slice 59):=by kernel_rfl
theorem u27:Tryd.prog.underlying 27=some (.slice 75):=by kernel_rfl
theorem u29:Tryd.prog.underlying 29=some (.struct (Tryd.prog.fieldsOf 29)):=by kernel_rfl
theorem flat23:FlatI Tryd.prog 23 2:=st (by kernel_rfl) c23 (by kernel_rfl) (by kernel_rfl)
theorem flat59:FlatI Tryd.prog 59 3:=st (by kernel_rfl) c59 (by kernel_rfl) (by kernel_rfl)
theorem flat75:FlatI Tryd.prog 75 3:=st (by kernel_rfl) c75 (by kernel_rfl) (by kernel_rfl)
theorem flat25:FlatI Tryd.prog 25 3:=flat_array u25 u3 c3 c25
theorem f29s:(Tryd.prog.fieldsOf 29).size=7:=by kernel_rfl
theorem f29b:([(0,0,23),(1,2,24),(2,6,25),(3,9,26),(4,10,23),(5,12,3),(6,13,27)].all fun (x:Nat×Nat×Nat)=>(Tryd.prog.fieldsOf 29)[x.1]!.offset==x.2.1&&(Tryd.prog.fieldsOf 29)[x.1]!.type==x.2.2)=true:=by kernel_rfl
theorem maxLen_le:maxLen≤9223372036854775807:=by decide
def dayOf (l:List Int):CoalDay:=⟨l.getD 0 0,l.getD 1 0,l.getD 2 0⟩
theorem dayOf_cells {l:List Int} (h:l.length=3):eCoalDay (dayOf l)=l.map I:=by
 match l,h with
 | [_,_,_],_=>rfl
def dipOf (l:List Int):CoalDip:=⟨l.getD 0 0,l.getD 1 0,l.getD 2 0⟩
theorem dipOf_cells {l:List Int} (h:l.length=3):eCoalDip (dipOf l)=l.map I:=by
 match l,h with
 | [_,_,_],_=>rfl
variable {H:Type}{enc:TypeId×Value→H}{w:World}{spare:Nat→Bool}{held:Bool}{r:Reach}{b0:Nat}{v:Value}{d:DataW H}{ps:List MemPlace}
theorem two_of {fuel:Nat}{cs:List Value}{x:DataW H×List MemPlace} (h:DataW.trod enc Tryd.prog w 0 spare held fuel 23 cs=some x):∃ s:Span,cs=eSpan s:=by
 obtain ⟨l,hl,rfl,_⟩:=flat23 h
 match l,hl with
 | [a,b],_=>exact ⟨⟨a,b⟩,rfl⟩
theorem four_of {fuel:Nat}{cs:List Value}{x:DataW H×List MemPlace} (h:DataW.trod enc Tryd.prog w 0 spare held fuel 24 cs=some x):∃ l:List Span,l.length=2∧cs=sgE eSpan l 2:=by
 obtain ⟨xs,m,_,_,hl,hxs,hel⟩:=DataW.trod_array u24 h
 rw [c24] at hl
 have e0:=hel 0 (by decide)
 have e1:=hel 1 (by decide)
 rw [c23,List.getElem?_eq_getElem (by omega)] at e0 e1
 obtain ⟨s0,h0⟩:=two_of e0
 obtain ⟨s1,h1⟩:=two_of e1
 refine ⟨[s0,s1],rfl,?_⟩
 match cs,hl with
 | [a,b,c,d],_=>
   simp [eSpan] at h0 h1
   obtain ⟨rfl,rfl⟩:=h0
   obtain ⟨rfl,rfl⟩:=h1
   rfl
theorem dec_book (hval:Value.okWide Tryd.prog w r b0 29 v) (hd:DataW.Trod enc Tryd.prog w 0 spare held 29 v d ps):∃ A1 c1 A2 c2,∃ b:CoalBook,v=AG ([I b.Heap.Low,I b.Heap.High]++(sgE eSpan b.Eats 2++(sg b.Extra 3++[SL A1 b.Days.length c1,I b.Collier.Low,I b.Collier.High,I b.Brings,SL A2 b.Dips.length c2])))∧
 (rd eCoalDay 3 A1 c1 b.Days).ok w∧(rd eCoalDip 3 A2 c2 b.Dips).ok w∧b.Days.length≤9223372036854775807∧b.Dips.length≤9223372036854775807∧b.Eats.length=2∧b.Extra.length=3:=by
 obtain ⟨cs,rfl⟩:=okWide_cells (by kernel_rfl) hval
 obtain ⟨fuel,hf⟩:=hd
 obtain ⟨xs,m,_,_,hl,hxs,hel⟩:=DataW.trod_struct u29 hf
 rw [c29] at hl
 rw [f29s] at hxs
 have fb:=f29b
 simp only [List.all_cons,List.all_nil,Bool.and_eq_true,beq_iff_eq,and_true] at fb
 obtain ⟨⟨o0,t0⟩,⟨o1,t1⟩,⟨o2,t2⟩,⟨o3,t3⟩,⟨o4,t4⟩,⟨o5,t5⟩,⟨o6,t6⟩⟩:=fb
 have e0:=hel 0 _ (get_bang (by rw [f29s]; decide))
 have e1:=hel 1 _ (get_bang (by rw [f29s]; decide))
 have e2:=hel 2 _ (get_bang (by rw [f29s]; decide))
 have e3:=hel 3 _ (get_bang (by rw [f29s]; decide))
 have e4:=hel 4 _ (get_bang (by rw [f29s]; decide))
 have e5:=hel 5 _ (get_bang (by rw [f29s]; decide))
 have e6:=hel 6 _ (get_bang (by rw [f29s]; decide))
 rw [o0,t0,c23,List.getElem?_eq_getElem (by omega)] at e0
 rw [o1,t1,c24,List.getElem?_eq_getElem (by omega)] at e1
 rw [o2,t2,c25,List.getElem?_eq_getElem (by omega)] at e2
 rw [o3,t3,c26,List.getElem?_eq_getElem (by omega)] at e3
 rw [o4,t4,c23,List.getElem?_eq_getElem (by omega)] at e4
 rw [o5,t5,c3,List.getElem?_eq_getElem (by omega)] at e5
 rw [o6,t6,c27,List.getElem?_eq_getElem (by omega)] at e6
 obtain ⟨s0,g0⟩:=two_of e0
 obtain ⟨l1,k1,g1⟩:=four_of e1
 obtain ⟨l2,k2,g2,_⟩:=flat25 e2
 obtain ⟨A3,c3',l3,g3,h31,h32⟩:=slice_flat u26 flat59 c59 (by decide) e3
 obtain ⟨s4,g4⟩:=two_of e4
 obtain ⟨n5,g5,_,_⟩:=DataW.trod_int u3 e5
 obtain ⟨A6,c6',l6,g6,h61,h62⟩:=slice_flat u27 flat75 c75 (by decide) e6
 have m3:=rd_map (e2:=eCoalDay) dayOf (fun x hx=>dayOf_cells (h31 x hx).1) h32
 have m6:=rd_map (e2:=eCoalDip) dipOf (fun x hx=>dipOf_cells (h61 x hx).1) h62
 refine ⟨A3,c3',A6,c6',⟨s0,l1,l2,l3.map dayOf,s4,n5,l6.map dipOf⟩,?_,m3,m6,?_,?_,k1,k2⟩
 ·obtain ⟨cl⟩:=cs
  match l1,k1,l2,k2 with
  | [p,q],_,[x,y,z],_=>
    match cl,hl with
    | [y0,y1,y2,y3,y4,y5,y6,y7,y8,y9,y10,y11,y12,y13],_=>
      simp [Value.cells,eSpan,sgE,sgEF] at g0 g1 g2 g3 g4 g5 g6
      obtain ⟨rfl,rfl⟩:=g0
      obtain ⟨rfl,rfl,rfl,rfl⟩:=g1
      obtain ⟨rfl,rfl,rfl⟩:=g2
      obtain ⟨rfl,rfl⟩:=g4
      subst g3 g5 g6
      simp [sgE,sgEF,sg,sgF,eSpan]
 ·have:=maxLen_le; have:=m3.2.1; have:=m3.2.2; simp only; omega
 ·have:=maxLen_le; have:=m6.2.1; have:=m6.2.2; simp only; omega
end Go.Proofs.YtblfippmobpaaaaDoor
set_option linter.unusedSimpArgs false
namespace Go.Proofs.YtblfippmobpaaaaDoor
open Go Go.Fx Go.Proofs
def law_TopFuel_l2 (a0:CoalBook) (a1:List Int) (r32:Span) (rec_z_1:(Int×(List CoalDay))→Option Bool) (z_1:Int×(List CoalDay)):Option Bool:=
 bif decide (z_1.1 < (a0.Days.length:Int)) then (need (fitsL (z_1.2.length+([(CoalDay.mk 1 1 1)]:List CoalDay).length) 24)<|
 rec_z_1 (wr (z_1.1+1),z_1.2++([(CoalDay.mk 1 1 1)]:List CoalDay)))
 else ((B_Mod (aget a1 0) (wr (a0.Heap.Low+1))).bind fun r63=>
 (B_Mod (aget a1 1) (a0.Days.length:Int)).bind fun r65=>
 (law_link06 (CoalBook.mk a0.Heap a0.Eats [0,0,0] z_1.2 r32 0 a0.Dips) r63).bind fun r70=>
 (chain_Check r70).bind fun r92=>
 bif (r92 != 0) then ((law_burned06).bind fun r97=>
 some r97)
 else ((coal_Right (CoalBook.mk a0.Heap a0.Eats [0,0,0] z_1.2 r32 0 a0.Dips)).bind fun r101=>
 (chain_Right r70).bind fun r105=>
 (coal_Wrong (CoalBook.mk a0.Heap a0.Eats [0,0,0] z_1.2 r32 0 a0.Dips)).bind fun r110=>
 (chain_Wrong r70).bind fun r119=>
 bif (r101.2 != 0) then (some false)
 else (bif (r105.2 != 0) then (some false)
 else (bif (r110.2 != 0) then (some false)
 else (bif (r119.2 != 0) then (some false)
 else (bif (r101.1 != r105.1) then (some false)
 else ((B_Alike r110.1 r119.1).bind fun r133=>
 bif !r133 then (some false)
 else (bif !r101.1 then ((law_burned06).bind fun r139=>
 some r139)
 else ((coal_Heap (CoalBook.mk a0.Heap a0.Eats [0,0,0] z_1.2 r32 0 a0.Dips) r65).bind fun r143=>
 (chain_Thick r70 0 (wr (r65+1))).bind fun r152=>
 (coal_Eats (CoalBook.mk a0.Heap a0.Eats [0,0,0] z_1.2 r32 0 a0.Dips) 0).bind fun r161=>
 (chain_Wear r70 0).bind fun r170=>
 bif (r143.2 != 0) then (some false)
 else (bif (r152.2 != 0) then (some false)
 else (bif (r161.2 != 0) then (some false)
 else (bif (r170.2 != 0) then (some false)
 else (bif !((r143.1.Low==r152.1.Low)&&(r143.1.High==r152.1.High)) then (some false)
 else (bif !((r161.1.Low==r170.1.Low)&&(r161.1.High==r170.1.High)) then (some false)
 else ((law_lower06 (CoalBook.mk a0.Heap a0.Eats [0,0,0] z_1.2 r32 0 a0.Dips) r63).bind fun r185=>
 bif r185 then ((law_burned06).bind fun r190=>
 some r190)
 else (some false))))))))))))))))
def law_TopFuel (a0:CoalBook) (a1:List Int):Option Bool:=
 (law_small06 a0).bind fun r18=>
 bif !r18 then ((law_burned06).bind fun r23=>
 some r23)
 else ((B_Point (a0.Days.length:Int)).bind fun r32=>
 loopF (law_TopFuel_l2 a0 a1 r32) big (0,([]:List CoalDay)))
set_option maxRecDepth 100000 in
theorem law_TopFuel_ok {a0:CoalBook}{a1:List Int}{A1:Option Addr}{c2:Nat}{A4:Option Addr}{c5:Nat}{w:World}{r:Bool} (H:law_TopFuel a0 a1=some r) (h3:(rd eCoalDay 3 A1 c2 a0.Days).ok w) (h6:(rd eCoalDip 3 A4 c5 a0.Dips).ok w) (hg7:(gW0).ok w) (hg8:(gW1).ok w) (hg9:(gW2).ok w) (hg10:(gW3).ok w) (hg11:(gW4).ok w):Calls Tryd.prog 4 #[AG ([I a0.Heap.Low,I a0.Heap.High]++(sgE eSpan a0.Eats 2++(sg a0.Extra 3++[SL A1 a0.Days.length c2,I a0.Collier.Low,I a0.Collier.High,I a0.Brings,SL A4 a0.Dips.length c5]))),AG (sg a1 2)] w (RetV w (B r)):=by
 unfold law_TopFuel at H
 refine fn_of (n:=170) Tryd.func4 rfl rfl (lE rfl) ?_
 have S:=St.start w nF _ (cA h3 (cA h6 (cA hg7 (cA hg8 (cA hg9 (cA hg10 (cA hg11 nM)))))))
 refine c_seq<|reg<|p_boxA rfl S fun b12 w13 S14=>p_boxA rfl S14 fun b15 w16 S17=>p_aB rfl<|wp_nil<|c_seq<|c_seq<|reg<|p_ldA ty29 sz29 (S17.atX (i:=1) rfl) rfl rfl ?_
 obtain ⟨r18,h19,H⟩:=bindS H
 refine p_cv (law_small06_ok h19 (S17.atP (i:=0) rfl) (S17.atP (i:=1) rfl)) fu5 rfl S17 fun w20 S21=>p_not rfl<|wp_nil ?_
 refine c_cond rfl (fun c22=>?_) (fun c22=>?_)
 ·replace H:=condT c22 H
  refine c_seq<|reg ?_
  obtain ⟨r23,h24,H⟩:=bindS H
  refine p_cv (law_burned06_ok h24 (S21.atP (i:=2) rfl) (S21.atP (i:=3) rfl) (S21.atP (i:=4) rfl) (S21.atP (i:=5) rfl) (S21.atP (i:=6) rfl)) fu6 rfl S21 fun w25 S26=>p_aB rfl<|wp_nil ?_
  obtain rfl:=sJ H
  exact c_ret (rT Tryd.f4 S26.keep rfl rfl)
 ·replace H:=condF c22 H
  refine c_skip<|c_seq<|reg<|p_ldA ty29 sz29 (S21.atX (i:=1) rfl) rfl rfl<|p_allA in29 S21 fun b27 w28 S29=>?_
  refine p_stP (pre:=[]) (old:=[I 0,I 0]++(sgE eSpan (List.replicate 2 (Span.mk 0 0)) 2++(sg (List.replicate 3 0) 3++[SL none 0 0,I 0,I 0,I 0,SL none 0 0]))) (post:=[]) (vs:=[I a0.Heap.Low,I a0.Heap.High]++(sgE eSpan a0.Eats 2++(sg a0.Extra 3++[SL A1 a0.Days.length c2,I a0.Collier.Low,I a0.Collier.High,I a0.Brings,SL A4 a0.Dips.length c5]))) sz29 S29 (i:=0) rfl rfl rfl rfl (rfl:_=AG ([I a0.Heap.Low,I a0.Heap.High]++(sgE eSpan a0.Eats 2++(sg a0.Extra 3++[SL A1 a0.Days.length c2,I a0.Collier.Low,I a0.Collier.High,I a0.Brings,SL A4 a0.Dips.length c5])))) rfl rfl rfl rfl fun w30 S31=>?_
  refine wp_nil<|c_seq<|reg<|p_bldA (z:=[I 0,I 0,I 0]) (cs:=[I 0,I 0,I 0]) ba25 (rfl:_=[]) (by kernel_rfl)<|p_fld fl29_3 rfl<|p_ld ty26 (S31.atX (i:=2) rfl) rfl rfl<|p_len rfl sc26 ?_
  obtain ⟨r32,h33,H⟩:=bindS H
  refine p_cv (B_Point_ok h33) fu21 rfl S31 fun w34 S35=>p_fld fl29_2 rfl<|p_stP (pre:=[I a0.Heap.Low,I a0.Heap.High]++sgE eSpan a0.Eats 2) (old:=sg a0.Extra 3) (post:=[SL A1 a0.Days.length c2,I a0.Collier.Low,I a0.Collier.High,I a0.Brings,SL A4 a0.Dips.length c5]) (vs:=[I 0,I 0,I 0]) sz25 S35 (i:=0) rfl rfl rfl rfl (rfl:_=AG [I 0,I 0,I 0]) rfl rfl rfl rfl fun w36 S37=>?_
  refine p_fld fl29_3 rfl<|p_stP (pre:=[I a0.Heap.Low,I a0.Heap.High]++(sgE eSpan a0.Eats 2++[I 0,I 0,I 0])) (old:=[SL A1 a0.Days.length c2]) (post:=[I a0.Collier.Low,I a0.Collier.High,I a0.Brings,SL A4 a0.Dips.length c5]) (vs:=[SL none 0 0]) sz26 S37 (i:=0) rfl rfl rfl rfl (rfl:_=SL none 0 0) rfl rfl rfl rfl fun w38 S39=>p_fld fl29_5 rfl ?_
  refine p_stP (pre:=[I a0.Heap.Low,I a0.Heap.High]++(sgE eSpan a0.Eats 2++[I 0,I 0,I 0,SL none 0 0,I a0.Collier.Low,I a0.Collier.High])) (old:=[I a0.Brings]) (post:=[SL A4 a0.Dips.length c5]) (vs:=[I 0]) sz3 S39 (i:=0) rfl rfl rfl rfl (rfl:_=I 0) rfl rfl rfl rfl fun w40 S41=>p_fld fl29_4 rfl ?_
  refine p_stP (pre:=[I a0.Heap.Low,I a0.Heap.High]++(sgE eSpan a0.Eats 2++[I 0,I 0,I 0,SL none 0 0])) (old:=[I a0.Collier.Low,I a0.Collier.High]) (post:=[I 0,SL A4 a0.Dips.length c5]) (vs:=[I r32.Low,I r32.High]) sz23 S41 (i:=0) rfl rfl rfl rfl (rfl:_=AG [I r32.Low,I r32.High]) rfl rfl rfl rfl fun w42 S43=>wp_nil<|c_seq<|c_seq<|reg<|p_aI rfl<|wp_nil<|c_block ?_
  have S44:=S43.nilRow eCoalDay 3 59
  refine c_lop (α:=Int×(List CoalDay)) (β:=(Option Addr)×Nat) (law_TopFuel_l2 a0 a1 r32) (fun z_1 y_1=>[(2,P b12 0),(3,P b15 0),(5,P b27 0),(6,I z_1.1)]) (fun z_1 y_1 w_=>St w nF w_ [gr eCoalDay 3 59 y_1.1 y_1.2 z_1.2,bl b27 ([I a0.Heap.Low,I a0.Heap.High]++(sgE eSpan a0.Eats 2++[I 0,I 0,I 0,SL y_1.1 z_1.2.length y_1.2,I r32.Low,I r32.High,I 0,SL A4 a0.Dips.length c5])) 29,bl b15 (sg a1 2) 56,bl b12 ([I a0.Heap.Low,I a0.Heap.High]++(sgE eSpan a0.Eats 2++(sg a0.Extra 3++[SL A1 a0.Days.length c2,I a0.Collier.Low,I a0.Collier.High,I a0.Brings,SL A4 a0.Dips.length c5]))) 29] [rd eCoalDay 3 A1 c2 a0.Days,rd eCoalDip 3 A4 c5 a0.Dips,gW0,gW1,gW2,gW3,gW4]) (0,([]:List CoalDay)) (none,0) H ⟨rfl,rfl,rfl,rfl,trivial⟩ S44 ?_
  intro m45 z_1 y_1 e46 w47 H S48
  unfold law_TopFuel_l2 at H
  refine c_seq<|c_seq<|reg<|p_mI rfl<|p_fld fl29_3 rfl<|p_ld ty26 (S48.atX (i:=3) rfl) rfl rfl<|p_len rfl sc26<|p_cmp rfl rfl rfl<|wp_nil ?_
  refine c_cond rfl (fun c49=>?_) (fun c49=>?_)
  ·replace H:=condT c49 H
   refine c_skip<|c_seq<|c_block<|reg<|p_fld fl29_3 rfl<|p_ld ty26 (S48.atX (i:=1) rfl) rfl rfl<|p_bld (cs:=[I 1,I 1,I 1]) st59 (rfl:_=[(0,I 1),(1,I 1),(2,I 1)]) (by kernel_rfl)<|p_bsl (enc:=eCoalDay) (l:=([(CoalDay.mk 1 1 1)]:List CoalDay)) (fun x=>AG (eCoalDay x)) (fun _=>rfl) sc26 in59 eCoalDay_len rfl (by decide) (by decide) zr59_1 S48 rfl fun A50 c51 w52 S53=>?_
   obtain ⟨h59,H⟩:=needS H
   refine p_app (enc:=eCoalDay) sc26 in59 rfl eCoalDay_len eCoalDay_one (by decide) S53 (k:=1) rfl (gr_sl eCoalDay_len (S53.atX (i:=0) rfl)) h59 (by simp) rfl rfl fun A57 c58 w55 S56=>p_fld fl29_3 rfl ?_
   refine p_stP (pre:=[I a0.Heap.Low,I a0.Heap.High]++(sgE eSpan a0.Eats 2++[I 0,I 0,I 0])) (old:=[SL y_1.1 z_1.2.length y_1.2]) (post:=[I r32.Low,I r32.High,I 0,SL A4 a0.Dips.length c5]) (vs:=[SL A57 (z_1.2++([(CoalDay.mk 1 1 1)]:List CoalDay)).length c58]) sz26 S56 (i:=2) rfl rfl rfl rfl (rfl:_=SL A57 (z_1.2++([(CoalDay.mk 1 1 1)]:List CoalDay)).length c58) rfl rfl rfl rfl fun w60 S61=>?_
   refine wp_nil<|reg<|p_mI rfl<|p_add rfl rfl<|p_aI rfl<|wp_nil ?_
   have S62:=S61.pk [1,2,3,4] (by decide) [0,1,2,3,4,5,6] rfl rfl
   exact ⟨(wr (z_1.1+1),z_1.2++([(CoalDay.mk 1 1 1)]:List CoalDay)),(A57,c58),_,rfl,⟨rfl,rfl,rfl,rfl,trivial⟩,H,S62⟩
  ·replace H:=condF c49 H
   refine c_exit<|c_seq ?_
   obtain ⟨r63,h64,H⟩:=bindS H
   obtain ⟨r65,h66,H⟩:=bindS H
   refine reg_q mixed 15 (by kernel_rfl) ?_
   refine dS (fun _ k_=>p_ixc ar56 rfl rfl (by decide) (by decide) dn)<|dS (fun _ k_=>p_ld ty3 (aS (S48.atX (i:=2) rfl) k_) rfl rfl dn)<|dS (fun _ k_=>p_fld fl29_0 rfl dn)<|dS (fun _ k_=>p_fld fl23_0 rfl dn)<|dS (fun _ k_=>p_ld ty3 (aS (S48.atX (i:=3) rfl) k_) rfl rfl dn)<|dS (fun _ k_=>p_add rfl rfl dn)<|dS (fun _ k_=>p_cvD (B_Mod_ok h64) fu9 rfl) ?_
   refine dS (fun _ k_=>p_ixc ar56 rfl rfl (by decide) (by decide) dn)<|dS (fun _ k_=>p_ld ty3 (aS (S48.atX (i:=2) rfl) k_) rfl rfl dn)<|dS (fun _ k_=>p_fld fl29_3 rfl dn)<|dS (fun _ k_=>p_ld ty26 (aS (S48.atX (i:=3) rfl) k_) rfl rfl dn)<|dS (fun _ k_=>p_len rfl sc26 dn)<|dS (fun _ k_=>p_cvD (B_Mod_ok h66) fu9 rfl)<|dS (fun _ k_=>p_aI rfl dn)<|dS (fun _ k_=>p_aI rfl dn) ?_
   intro w67 k68; have S69:=S48.call k68
   refine wp_nil<|c_seq<|reg<|p_ldA ty29 sz29 (S69.atX (i:=1) rfl) rfl rfl<|p_mI rfl ?_
   obtain ⟨r70,h71,H⟩:=bindS H
   refine p_cal (law_link06_ok h71 (gr_rd eCoalDay_len (S69.atX (i:=0) rfl)) (S69.atP (i:=1) rfl)) fu22 rfl ?_
   rintro _ w72 ⟨A74,c75,A76,c77,A78,c79,rfl,k73,⟨o80,n81⟩,⟨o82,n83⟩,⟨o84,n85⟩,_⟩
   have S86:=S69.callN k73 [rd eChainSection 4 A74 c75 r70.Sections,rd intE 1 A76 c77 r70.Turns,rd eChainSurvey 4 A78 c79 r70.Surveys] (cA ⟨o80,New.inL n81⟩ (cA ⟨o82,New.inL n83⟩ (cA ⟨o84,New.inL n85⟩ nM)))
   refine p_allA in63 S86 fun b87 w88 S89=>?_
   refine p_stP (pre:=[]) (old:=[SL none 0 0,SL none 0 0,SL none 0 0,I 0,I 0]) (post:=[]) (vs:=[SL A74 r70.Sections.length c75,SL A76 r70.Turns.length c77,SL A78 r70.Surveys.length c79,I r70.Rule,I r70.Days]) sz63 S89 (i:=0) rfl rfl rfl rfl (rfl:_=AG [SL A74 r70.Sections.length c75,SL A76 r70.Turns.length c77,SL A78 r70.Surveys.length c79,I r70.Rule,I r70.Days]) rfl rfl rfl rfl fun w90 S91=>?_
   refine wp_nil<|c_seq<|c_seq<|reg<|p_ldA ty63 sz63 (S91.atX (i:=0) rfl) rfl rfl ?_
   obtain ⟨r92,h93,H⟩:=bindS H
   refine p_cv (chain_Check_ok h93 (S91.atP (i:=0) rfl) (S91.atP (i:=1) rfl) (S91.atP (i:=2) rfl)) fu23 rfl S91 fun w94 S95=>p_cmp rfl rfl rfl<|wp_nil ?_
   refine c_cond rfl (fun c96=>?_) (fun c96=>?_)
   ·replace H:=condT c96 H
    refine c_seq<|reg ?_
    obtain ⟨r97,h98,H⟩:=bindS H
    refine p_cv (law_burned06_ok h98 (S95.atP (i:=5) rfl) (S95.atP (i:=6) rfl) (S95.atP (i:=7) rfl) (S95.atP (i:=8) rfl) (S95.atP (i:=9) rfl)) fu6 rfl S95 fun w99 S100=>p_aB rfl<|wp_nil ?_
    obtain rfl:=sJ H
    exact c_ret (rT Tryd.f4 S100.keep rfl rfl)
   ·replace H:=condF c96 H
    refine c_skip<|c_seq<|reg<|p_ldA ty29 sz29 (S95.atX (i:=2) rfl) rfl rfl ?_
    obtain ⟨r101,h102,H⟩:=bindS H
    refine p_cv (coal_Right_ok h102 (gr_rd eCoalDay_len (S95.atX (i:=1) rfl)) (S95.atP (i:=4) rfl) (S95.atP (i:=5) rfl)) fu10 rfl S95 fun w103 S104=>p_mT rfl<|p_ext rfl rfl<|p_ext rfl rfl<|p_aB rfl<|p_aI rfl<|wp_nil<|c_seq<|reg<|p_ldA ty63 sz63 (S104.atX (i:=0) rfl) rfl rfl ?_
    obtain ⟨r105,h106,H⟩:=bindS H
    refine p_cv (chain_Right_ok h106 (S104.atP (i:=0) rfl) (S104.atP (i:=1) rfl) (S104.atP (i:=2) rfl) (S104.atP (i:=7) rfl)) fu24 rfl S104 fun w107 S108=>p_mT rfl<|p_ext rfl rfl<|p_ext rfl rfl<|p_aB rfl<|p_aI rfl<|wp_nil<|c_seq<|reg<|p_ldA ty29 sz29 (S108.atX (i:=2) rfl) rfl rfl ?_
    have S109:=S108.fixRd eCoalDay_len (i:=1) rfl
    obtain ⟨r110,h111,H⟩:=bindS H
    refine p_cal (coal_Wrong_ok h111 (S109.atP (i:=0) rfl) (S109.atP (i:=5) rfl) (S109.atP (i:=6) rfl)) fu12 rfl ?_
    rintro _ w112 ⟨A114,c115,rfl,k113,⟨o116,n117⟩,_⟩
    have S118:=S109.callN k113 [rd intE 1 A114 c115 r110.1] (cA ⟨o116,Al.inL n117 ((cA (fp_mem (i:=0) rfl) (cA (fp_mem (i:=5) rfl) nM)))⟩ nM)
    refine p_mT rfl<|p_ext rfl rfl<|p_ext rfl rfl<|p_aS rfl<|p_aI rfl<|wp_nil<|c_seq<|reg<|p_ldA ty63 sz63 (S118.atX (i:=0) rfl) rfl rfl ?_
    obtain ⟨r119,h120,H⟩:=bindS H
    refine p_cal (chain_Wrong_ok h120 (S118.atP (i:=2) rfl) (S118.atP (i:=3) rfl) (S118.atP (i:=4) rfl) (S118.atP (i:=9) rfl)) fu25 rfl ?_
    rintro _ w121 ⟨A123,c124,rfl,k122,⟨o125,n126⟩,_⟩
    have S127:=S118.callN k122 [rd intE 1 A123 c124 r119.1] (cA ⟨o125,Al.inL n126 ((cA (fp_mem (i:=2) rfl) (cA (fp_mem (i:=3) rfl) (cA (fp_mem (i:=4) rfl) nM))))⟩ nM)
    refine p_mT rfl<|p_ext rfl rfl<|p_ext rfl rfl<|p_aS rfl<|p_aI rfl<|wp_nil<|c_seq<|c_seq<|reg<|p_mI rfl<|p_cmp rfl rfl rfl<|p_mB rfl ?_
    rcases bE ((r101.2 != 0)) with c128 | c128
    ·replace H:=condT c128 H
     refine eB c128<|gF rfl rfl<|gF rfl rfl<|p_pkT rfl (rfl:_=B true)<|p_mB rfl<|gF rfl rfl<|gF rfl rfl<|p_pkT rfl (rfl:_=B true)<|p_mB rfl<|gF rfl rfl<|gF rfl rfl<|p_pkT rfl (rfl:_=B true)<|p_mB rfl<|gF rfl rfl<|gF rfl rfl<|gF rfl rfl<|p_pkT rfl (rfl:_=B true)<|p_mB rfl<|gF rfl rfl<|gF rfl rfl<|gF rfl rfl<|gF rfl rfl<|p_pkT rfl (rfl:_=B true)<|wp_nil<|c_true rfl<|c_seq<|reg<|p_aB rfl<|wp_nil ?_
     obtain rfl:=sJ H
     exact c_ret (rT Tryd.f4 S127.keep rfl rfl)
    ·replace H:=condF c128 H
     refine eB c128 ?_
     refine gT rfl rfl (p_mI rfl ?_)
     refine gT rfl rfl (p_cmp rfl rfl rfl ?_)
     refine p_pkF rfl (rfl:_=B (r105.2 != 0))<|p_mB rfl ?_
     rcases bE ((r105.2 != 0)) with c129 | c129
     ·replace H:=condT c129 H
      refine eB c129<|gF rfl rfl<|gF rfl rfl<|p_pkT rfl (rfl:_=B true)<|p_mB rfl<|gF rfl rfl<|gF rfl rfl<|p_pkT rfl (rfl:_=B true)<|p_mB rfl<|gF rfl rfl<|gF rfl rfl<|gF rfl rfl<|p_pkT rfl (rfl:_=B true)<|p_mB rfl<|gF rfl rfl<|gF rfl rfl<|gF rfl rfl<|gF rfl rfl<|p_pkT rfl (rfl:_=B true)<|wp_nil<|c_true rfl<|c_seq<|reg<|p_aB rfl<|wp_nil ?_
      obtain rfl:=sJ H
      exact c_ret (rT Tryd.f4 S127.keep rfl rfl)
     ·replace H:=condF c129 H
      refine eB c129 ?_
      refine gT rfl rfl (p_mI rfl ?_)
      refine gT rfl rfl (p_cmp rfl rfl rfl ?_)
      refine p_pkF rfl (rfl:_=B (r110.2 != 0))<|p_mB rfl ?_
      rcases bE ((r110.2 != 0)) with c130 | c130
      ·replace H:=condT c130 H
       refine eB c130<|gF rfl rfl<|gF rfl rfl<|p_pkT rfl (rfl:_=B true)<|p_mB rfl<|gF rfl rfl<|gF rfl rfl<|gF rfl rfl<|p_pkT rfl (rfl:_=B true)<|p_mB rfl<|gF rfl rfl<|gF rfl rfl<|gF rfl rfl<|gF rfl rfl<|p_pkT rfl (rfl:_=B true)<|wp_nil<|c_true rfl<|c_seq<|reg<|p_aB rfl<|wp_nil ?_
       obtain rfl:=sJ H
       exact c_ret (rT Tryd.f4 S127.keep rfl rfl)
      ·replace H:=condF c130 H
       refine eB c130 ?_
       refine gT rfl rfl (p_mI rfl ?_)
       refine gT rfl rfl (p_cmp rfl rfl rfl ?_)
       refine p_pkF rfl (rfl:_=B (r119.2 != 0))<|p_mB rfl ?_
       rcases bE ((r119.2 != 0)) with c131 | c131
       ·replace H:=condT c131 H
        refine eB c131<|gF rfl rfl<|gF rfl rfl<|gF rfl rfl<|p_pkT rfl (rfl:_=B true)<|p_mB rfl<|gF rfl rfl<|gF rfl rfl<|gF rfl rfl<|gF rfl rfl<|p_pkT rfl (rfl:_=B true)<|wp_nil<|c_true rfl<|c_seq<|reg<|p_aB rfl<|wp_nil ?_
        obtain rfl:=sJ H
        exact c_ret (rT Tryd.f4 S127.keep rfl rfl)
       ·replace H:=condF c131 H
        refine eB c131 ?_
        refine gT rfl rfl (p_mB rfl ?_)
        refine gT rfl rfl (p_mB rfl ?_)
        refine gT rfl rfl (o_neB rfl rfl ub4 ?_)
        refine p_pkF rfl (rfl:_=B (r101.1 != r105.1))<|p_mB rfl ?_
        rcases bE ((r101.1 != r105.1)) with c132 | c132
        ·replace H:=condT c132 H
         refine eB c132<|gF rfl rfl<|gF rfl rfl<|gF rfl rfl<|gF rfl rfl<|p_pkT rfl (rfl:_=B true)<|wp_nil<|c_true rfl<|c_seq<|reg<|p_aB rfl<|wp_nil ?_
         obtain rfl:=sJ H
         exact c_ret (rT Tryd.f4 S127.keep rfl rfl)
        ·replace H:=condF c132 H
         refine eB c132 ?_
         refine gT rfl rfl (p_mS rfl ?_)
         refine gT rfl rfl (p_mS rfl ?_)
         obtain ⟨r133,h134,H⟩:=bindS H
         refine gT rfl rfl (p_cv (B_Alike_ok h134 (S127.atP (i:=1) rfl) (S127.atP (i:=0) rfl)) fu14 rfl S127 fun w135 S136=>?_)
         refine gT rfl rfl (p_not rfl ?_)
         refine p_pkF rfl (rfl:_=B (!r133))<|wp_nil ?_
         refine c_cond rfl (fun c137=>?_) (fun c137=>?_)
         ·replace H:=condT c137 H
          refine c_seq<|reg<|p_aB rfl<|wp_nil ?_
          obtain rfl:=sJ H
          exact c_ret (rT Tryd.f4 S136.keep rfl rfl)
         ·replace H:=condF c137 H
          refine c_skip<|c_seq<|c_seq<|reg<|p_mB rfl<|p_not rfl<|wp_nil ?_
          refine c_cond rfl (fun c138=>?_) (fun c138=>?_)
          ·replace H:=condT c138 H
           refine c_seq<|reg ?_
           obtain ⟨r139,h140,H⟩:=bindS H
           refine p_cv (law_burned06_ok h140 (S136.atP (i:=8) rfl) (S136.atP (i:=9) rfl) (S136.atP (i:=10) rfl) (S136.atP (i:=11) rfl) (S136.atP (i:=12) rfl)) fu6 rfl S136 fun w141 S142=>p_aB rfl<|wp_nil ?_
           obtain rfl:=sJ H
           exact c_ret (rT Tryd.f4 S142.keep rfl rfl)
          ·replace H:=condF c138 H
           refine c_skip<|c_seq<|reg<|p_ldA ty29 sz29 (S136.atX (i:=1) rfl) rfl rfl<|p_mI rfl ?_
           obtain ⟨r143,h144,H⟩:=bindS H
           refine p_cv (coal_Heap_ok h144 (S136.atP (i:=2) rfl) (S136.atP (i:=7) rfl) (S136.atP (i:=8) rfl)) fu15 rfl S136 fun w145 S146=>p_mT rfl<|p_ext rfl rfl<|p_ext rfl rfl<|p_allA in23 S146 fun b147 w148 S149=>p_stP (pre:=[]) (old:=[I 0,I 0]) (post:=[]) (vs:=[I r143.1.Low,I r143.1.High]) sz23 S149 (i:=0) rfl rfl rfl rfl (rfl:_=AG [I r143.1.Low,I r143.1.High]) rfl rfl rfl rfl fun w150 S151=>?_
           refine p_aI rfl<|wp_nil<|c_seq<|reg<|p_ldA ty63 sz63 (S151.atX (i:=1) rfl) rfl rfl<|p_mI rfl<|p_add rfl rfl ?_
           obtain ⟨r152,h153,H⟩:=bindS H
           refine p_cv (chain_Thick_ok h153 (S151.atP (i:=3) rfl) (S151.atP (i:=4) rfl) (S151.atP (i:=5) rfl) (S151.atP (i:=10) rfl)) fu26 rfl S151 fun w154 S155=>p_mT rfl<|p_ext rfl rfl<|p_ext rfl rfl<|p_allA in23 S155 fun b156 w157 S158=>?_
           refine p_stP (pre:=[]) (old:=[I 0,I 0]) (post:=[]) (vs:=[I r152.1.Low,I r152.1.High]) sz23 S158 (i:=0) rfl rfl rfl rfl (rfl:_=AG [I r152.1.Low,I r152.1.High]) rfl rfl rfl rfl fun w159 S160=>p_aI rfl<|wp_nil<|c_seq<|reg<|p_ldA ty29 sz29 (S160.atX (i:=3) rfl) rfl rfl ?_
           obtain ⟨r161,h162,H⟩:=bindS H
           refine p_cv (coal_Eats_ok h162 (S160.atP (i:=2) rfl) (S160.atP (i:=7) rfl) (S160.atP (i:=8) rfl)) fu27 rfl S160 fun w163 S164=>p_mT rfl<|p_ext rfl rfl<|p_ext rfl rfl<|p_allA in23 S164 fun b165 w166 S167=>p_stP (pre:=[]) (old:=[I 0,I 0]) (post:=[]) (vs:=[I r161.1.Low,I r161.1.High]) sz23 S167 (i:=0) rfl rfl rfl rfl (rfl:_=AG [I r161.1.Low,I r161.1.High]) rfl rfl rfl rfl fun w168 S169=>?_
           refine p_aI rfl<|wp_nil<|c_seq<|reg<|p_ldA ty63 sz63 (S169.atX (i:=3) rfl) rfl rfl ?_
           obtain ⟨r170,h171,H⟩:=bindS H
           refine p_cv (chain_Wear_ok h171 (S169.atP (i:=3) rfl) (S169.atP (i:=4) rfl) (S169.atP (i:=5) rfl) (S169.atP (i:=10) rfl)) fu28 rfl S169 fun w172 S173=>p_mT rfl<|p_ext rfl rfl<|p_ext rfl rfl<|p_allA in23 S173 fun b174 w175 S176=>?_
           refine p_stP (pre:=[]) (old:=[I 0,I 0]) (post:=[]) (vs:=[I r170.1.Low,I r170.1.High]) sz23 S176 (i:=0) rfl rfl rfl rfl (rfl:_=AG [I r170.1.Low,I r170.1.High]) rfl rfl rfl rfl fun w177 S178=>p_aI rfl<|wp_nil<|c_seq<|c_seq<|reg<|p_mI rfl<|p_cmp rfl rfl rfl<|p_mB rfl ?_
           rcases bE ((r143.2 != 0)) with c179 | c179
           ·replace H:=condT c179 H
            refine eB c179<|gF rfl rfl<|gF rfl rfl<|p_pkT rfl (rfl:_=B true)<|p_mB rfl<|gF rfl rfl<|gF rfl rfl<|p_pkT rfl (rfl:_=B true)<|p_mB rfl<|gF rfl rfl<|gF rfl rfl<|p_pkT rfl (rfl:_=B true)<|p_mB rfl<|gF rfl rfl<|gF rfl rfl<|gF rfl rfl<|p_pkT rfl (rfl:_=B true)<|p_mB rfl<|gF rfl rfl<|gF rfl rfl<|gF rfl rfl<|p_pkT rfl (rfl:_=B true)<|wp_nil<|c_true rfl<|c_seq<|reg<|p_aB rfl<|wp_nil ?_
            obtain rfl:=sJ H
            exact c_ret (rT Tryd.f4 S178.keep rfl rfl)
           ·replace H:=condF c179 H
            refine eB c179 ?_
            refine gT rfl rfl (p_mI rfl ?_)
            refine gT rfl rfl (p_cmp rfl rfl rfl ?_)
            refine p_pkF rfl (rfl:_=B (r152.2 != 0))<|p_mB rfl ?_
            rcases bE ((r152.2 != 0)) with c180 | c180
            ·replace H:=condT c180 H
             refine eB c180<|gF rfl rfl<|gF rfl rfl<|p_pkT rfl (rfl:_=B true)<|p_mB rfl<|gF rfl rfl<|gF rfl rfl<|p_pkT rfl (rfl:_=B true)<|p_mB rfl<|gF rfl rfl<|gF rfl rfl<|gF rfl rfl<|p_pkT rfl (rfl:_=B true)<|p_mB rfl<|gF rfl rfl<|gF rfl rfl<|gF rfl rfl<|p_pkT rfl (rfl:_=B true)<|wp_nil<|c_true rfl<|c_seq<|reg<|p_aB rfl<|wp_nil ?_
             obtain rfl:=sJ H
             exact c_ret (rT Tryd.f4 S178.keep rfl rfl)
            ·replace H:=condF c180 H
             refine eB c180 ?_
             refine gT rfl rfl (p_mI rfl ?_)
             refine gT rfl rfl (p_cmp rfl rfl rfl ?_)
             refine p_pkF rfl (rfl:_=B (r161.2 != 0))<|p_mB rfl ?_
             rcases bE ((r161.2 != 0)) with c181 | c181
             ·replace H:=condT c181 H
              refine eB c181<|gF rfl rfl<|gF rfl rfl<|p_pkT rfl (rfl:_=B true)<|p_mB rfl<|gF rfl rfl<|gF rfl rfl<|gF rfl rfl<|p_pkT rfl (rfl:_=B true)<|p_mB rfl<|gF rfl rfl<|gF rfl rfl<|gF rfl rfl<|p_pkT rfl (rfl:_=B true)<|wp_nil<|c_true rfl<|c_seq<|reg<|p_aB rfl<|wp_nil ?_
              obtain rfl:=sJ H
              exact c_ret (rT Tryd.f4 S178.keep rfl rfl)
             ·replace H:=condF c181 H
              refine eB c181 ?_
              refine gT rfl rfl (p_mI rfl ?_)
              refine gT rfl rfl (p_cmp rfl rfl rfl ?_)
              refine p_pkF rfl (rfl:_=B (r170.2 != 0))<|p_mB rfl ?_
              rcases bE ((r170.2 != 0)) with c182 | c182
              ·replace H:=condT c182 H
               refine eB c182<|gF rfl rfl<|gF rfl rfl<|gF rfl rfl<|p_pkT rfl (rfl:_=B true)<|p_mB rfl<|gF rfl rfl<|gF rfl rfl<|gF rfl rfl<|p_pkT rfl (rfl:_=B true)<|wp_nil<|c_true rfl<|c_seq<|reg<|p_aB rfl<|wp_nil ?_
               obtain rfl:=sJ H
               exact c_ret (rT Tryd.f4 S178.keep rfl rfl)
              ·replace H:=condF c182 H
               refine eB c182 ?_
               refine gT rfl rfl (p_ldA ty23 sz23 (S178.atX (i:=3) rfl) rfl rfl ?_)
               refine gT rfl rfl (p_ldA ty23 sz23 (S178.atX (i:=2) rfl) rfl rfl ?_)
               refine gT rfl rfl (o_neA (xs:=[I r143.1.Low,I r143.1.High]) (ys:=[I r152.1.Low,I r152.1.High]) (T:=((r143.1.Low==r152.1.Low)&&(r143.1.High==r152.1.High))) rfl rfl eq23 ⟨⟨_,rfl⟩,⟨⟨_,rfl⟩,trivial⟩⟩ ⟨⟨_,rfl⟩,⟨⟨_,rfl⟩,trivial⟩⟩ (by simp [Bool.and_eq_true,and_assoc]) ?_)
               refine p_pkF rfl (rfl:_=B (!((r143.1.Low==r152.1.Low)&&(r143.1.High==r152.1.High))))<|p_mB rfl ?_
               rcases bE (!((r143.1.Low==r152.1.Low)&&(r143.1.High==r152.1.High))) with c183 | c183
               ·replace H:=condT c183 H
                refine eB c183<|gF rfl rfl<|gF rfl rfl<|gF rfl rfl<|p_pkT rfl (rfl:_=B true)<|wp_nil<|c_true rfl<|c_seq<|reg<|p_aB rfl<|wp_nil ?_
                obtain rfl:=sJ H
                exact c_ret (rT Tryd.f4 S178.keep rfl rfl)
               ·replace H:=condF c183 H
                refine eB c183 ?_
                refine gT rfl rfl (p_ldA ty23 sz23 (S178.atX (i:=1) rfl) rfl rfl ?_)
                refine gT rfl rfl (p_ldA ty23 sz23 (S178.atX (i:=0) rfl) rfl rfl ?_)
                refine gT rfl rfl (o_neA (xs:=[I r161.1.Low,I r161.1.High]) (ys:=[I r170.1.Low,I r170.1.High]) (T:=((r161.1.Low==r170.1.Low)&&(r161.1.High==r170.1.High))) rfl rfl eq23 ⟨⟨_,rfl⟩,⟨⟨_,rfl⟩,trivial⟩⟩ ⟨⟨_,rfl⟩,⟨⟨_,rfl⟩,trivial⟩⟩ (by simp [Bool.and_eq_true,and_assoc]) ?_)
                refine p_pkF rfl (rfl:_=B (!((r161.1.Low==r170.1.Low)&&(r161.1.High==r170.1.High))))<|wp_nil ?_
                refine c_cond rfl (fun c184=>?_) (fun c184=>?_)
                ·replace H:=condT c184 H
                 refine c_seq<|reg<|p_aB rfl<|wp_nil ?_
                 obtain rfl:=sJ H
                 exact c_ret (rT Tryd.f4 S178.keep rfl rfl)
                ·replace H:=condF c184 H
                 refine c_skip<|c_seq<|reg<|p_ldA ty29 sz29 (S178.atX (i:=5) rfl) rfl rfl<|p_mI rfl ?_
                 obtain ⟨r185,h186,H⟩:=bindS H
                 refine p_cv (law_lower06_ok h186 (S178.atP (i:=2) rfl) (S178.atP (i:=7) rfl) (S178.atP (i:=8) rfl) (S178.atP (i:=10) rfl) (S178.atP (i:=12) rfl)) fu29 rfl S178 fun w187 S188=>p_mB rfl ?_
                 rcases bE (r185) with c189 | c189
                 ·replace H:=condT c189 H
                  refine eB c189 ?_
                  obtain ⟨r190,h191,H⟩:=bindS H
                  refine gT rfl rfl (p_cv (law_burned06_ok h191 (S188.atP (i:=8) rfl) (S188.atP (i:=9) rfl) (S188.atP (i:=10) rfl) (S188.atP (i:=11) rfl) (S188.atP (i:=12) rfl)) fu6 rfl S188 fun w192 S193=>?_)
                  refine p_pkT rfl (rfl:_=B r190)<|p_aB rfl<|wp_nil ?_
                  obtain rfl:=sJ H
                  exact c_ret (rT Tryd.f4 S193.keep rfl rfl)
                 ·replace H:=condF c189 H
                  refine eB c189<|gF rfl rfl<|p_pkF rfl (rfl:_=B false)<|p_aB rfl<|wp_nil ?_
                  obtain rfl:=sJ H
                  exact c_ret (rT Tryd.f4 S188.keep rfl rfl)
end Go.Proofs.YtblfippmobpaaaaDoor
namespace Go.Proofs.YtblfippmobpaaaaDoor
open Go Go.Fx Go.Tally
theorem wrI {x:Int} (h0:-9223372036854775808≤x) (h1:x≤9223372036854775807):Fx.wr x=x:=wr_eq h0 h1
def inB (a lo hi:Int):Bool:=decide (lo≤a)&&decide (a≤hi)
theorem inB_iff {a lo hi:Int}:inB a lo hi=true↔lo≤a∧a≤hi:=by simp [inB]
theorem inside_eq (a b c:Int):B_Inside a b c=some (inB a b c):=by
 unfold B_Inside inB
 rw [show decide (a≥b)=decide (b≤a) from rfl]
 cases decide (b≤a) <;> rfl
theorem mod_ok (a m:Int) (h:0 < m) (h2:m≤9223372036854775807):∃ r,B_Mod a m=some r∧0≤r∧r < m:=by
 unfold B_Mod modI
 rw [decide_eq_false (by omega),cond_false,need_of (by simp; omega)]
 have h3:=Int.tmod_lt_of_pos a h
 have h4:=Int.lt_tmod_of_pos a h
 by_cases hn:a.tmod m < 0
 ·rw [decide_eq_true hn,cond_true,wrI (by omega) (by omega)]
  exact ⟨_,rfl,by omega,by omega⟩
 ·rw [decide_eq_false hn,cond_false]
  exact ⟨_,rfl,by omega,by omega⟩
abbrev LP:=List (Tally_pair×Int)
def Has (m:LP) (p:Tally_pair) (n:Int):Prop:=∃ v,v≤n∧(p,v)∈m
theorem mem_set_iff {α:Type}{l:List α}{i:Nat}{a x:α} (hi:i < l.length):x∈l.set i a↔x=a∨∃ j,j≠i∧l[j]? =some x:=by
 constructor
 ·intro h
  obtain ⟨j,hj,rfl⟩:=List.getElem_of_mem h
  by_cases hji:j=i
  ·subst hji; left; simp
  ·right; refine ⟨j,hji,?_⟩
   rw [List.getElem_set_ne (fun e=>hji e.symm)]
   exact List.getElem?_eq_getElem _
 ·rintro (rfl | ⟨j,hj,h⟩)
  ·exact List.mem_set hi ..
  ·refine List.mem_of_getElem? (i:=j) ?_
   rw [List.getElem?_set_ne (fun e=>hj e.symm)]
   exact h
def no:TallyCount→Nat→Bool:=fun _ _=>false
def Clm (l:List Int) (n:Int):Prop:=∀ (k:Nat) (x:Int),l[k]? =some x→0≤x∧x < n∧∀ y,0 < k→l[k - 1]? =some y→y < x
theorem Clm.nil {n:Int}:Clm [] n:=fun k x h=>by simp at h
theorem Clm.snoc {l:List Int}{n v:Int} (h:Clm l n) (h0:0≤v) (h1:v < n) (h2:∀ y,l.getLast? =some y→y < v):Clm (l++[v]) n:=by
 intro k x hx
 by_cases hk:k < l.length
 ·rw [List.getElem?_append_left hk] at hx
  obtain ⟨a1,a2,a3⟩:=h k x hx
  refine ⟨a1,a2,fun y h0 hy=>a3 y h0 ?_⟩
  rwa [List.getElem?_append_left (by omega)] at hy
 ·rw [List.getElem?_append_right (by omega),List.getElem?_singleton] at hx
  split at hx
  ·cases hx
   refine ⟨h0,h1,fun y hk0 hy=>h2 y ?_⟩
   rw [List.getElem?_append_left (by omega)] at hy
   rw [List.getLast?_eq_getElem?,← hy]
   congr 1; omega
  ·cases hx
theorem Clm.lt {l:List Int}{n:Int} (h:Clm l n):∀ (d i:Nat) (x y:Int),l[i]? =some x→l[i+d+1]? =some y→x < y:=by
 intro d
 induction d with
 | zero=>intro i x y hx hy; exact (h (i+1) y hy).2.2 x (by omega) (by simpa using hx)
 | succ d ih=>
   intro i x y hx hy
   have hlt:i+d+1 < l.length:=by have:=(List.getElem?_eq_some_iff.1 hy).1; omega
   have h1:=ih i x _ hx (List.getElem?_eq_getElem hlt)
   have h2:=(h (i+(d+1)+1) y hy).2.2 _ (by omega) (by rw [show i+(d+1)+1 - 1=i+d+1 by omega]; exact List.getElem?_eq_getElem hlt)
   omega
theorem Clm.len {l:List Int}{n:Int} (h:Clm l n) (h0:0≤n):(l.length:Int)≤n:=by
 have:∀ (k:Nat) (x:Int),l[k]? =some x→(k:Int)≤x:=by
  intro k
  induction k with
  | zero=>intro x hx; have:=(h 0 x hx).1; omega
  | succ k ih=>
    intro x hx
    have hlt:k < l.length:=by have:=(List.getElem?_eq_some_iff.1 hx).1; omega
    have h1:=ih _ (List.getElem?_eq_getElem hlt)
    have h2:=h.lt 0 k _ x (List.getElem?_eq_getElem hlt) hx
    omega
 by_cases hl:l.length=0
 ·omega
 ·have hlt:l.length - 1 < l.length:=by omega
  have h1:=this _ _ (List.getElem?_eq_getElem hlt)
  have h2:=(h _ _ (List.getElem?_eq_getElem hlt)).2.1
  omega
structure Ext (n:Nat) (l:List Int) (many:Nat) (o:List Int):Prop where
 len:o.length=many
 clm:Clm o n
 pre:∀ (i:Nat) (x:Int),l[i]? =some x→o[i]? =some x
def LexLt (o w:List Int):Prop:=∃ (i:Nat) (x y:Int),o[i]? =some x∧w[i]? =some y∧x < y∧∀ j,j < i→o[j]? =w[j]?
theorem Ext.more {n many:Nat}{l o:List Int}{x:Int} (h:Ext n l many o) (hx:o[l.length]? =some x):Ext n (l++[x]) many o:=by
 refine ⟨h.len,h.clm,fun i y hy=>?_⟩
 by_cases hi:i < l.length
 ·rw [List.getElem?_append_left hi] at hy; exact h.pre i y hy
 ·rw [List.getElem?_append_right (by omega),List.getElem?_singleton] at hy
  split at hy
  ·cases hy; rw [show i=l.length by omega]; exact hx
  ·cases hy
theorem Ext.less {n many:Nat}{l o:List Int}{x:Int} (h:Ext n (l++[x]) many o):Ext n l many o∧o[l.length]? =some x:=by
 refine ⟨⟨h.len,h.clm,fun i y hy=>h.pre i y ?_⟩,h.pre _ _ (by simp)⟩
 rw [List.getElem?_append_left (List.getElem?_eq_some_iff.1 hy).1]; exact hy
def allL (n:Nat):List Int:=(List.range n).map Int.ofNat
theorem allL_clm (n:Nat):Clm (allL n) n:=by
 have get:∀ (k:Nat) (x:Int),(allL n)[k]? =some x→x=k∧k < n:=by
  intro k x h
  unfold allL at h
  rw [List.getElem?_map] at h
  obtain ⟨y,hy,rfl⟩:=Option.map_eq_some_iff.1 h
  have hk:k < n:=by simpa using (List.getElem?_eq_some_iff.1 hy).1
  rw [List.getElem?_range hk] at hy
  cases hy
  exact ⟨rfl,hk⟩
 intro k x h
 obtain ⟨rfl,hk⟩:=get k x h
 refine ⟨by omega,by omega,fun y h0 hy=>?_⟩
 obtain ⟨rfl,_⟩:=get _ y hy
 omega
theorem Clm.up {l:List Int}{n m:Int} (h:Clm l n) (hm:n≤m):Clm l m:=fun k x hx=>by
 obtain ⟨a,b,c⟩:=h k x hx
 exact ⟨a,by omega,c⟩
theorem Clm.last {l:List Int}{n y:Int} (h:Clm l n) (hy:l.getLast? =some y):y < n:=by
 rw [List.getLast?_eq_getElem?] at hy
 exact (h _ _ hy).2.1
end Go.Proofs.YtblfippmobpaaaaDoor
namespace Go.Proofs.YtblfippmobpaaaaDoor
open Go Go.Fx
theorem within_eqC (a b c:Int):coal_within a b c=some (inB a b c):=by
 unfold coal_within inB
 cases decide (b≤a) <;> rfl
theorem getI_ix {α:Type}{l:List α}{k:Nat} (h:k < l.length):getI l (k:Int)=some l[k]:=by rw [getI_nat,List.getElem?_eq_getElem h]
theorem loop_fold {σ ρ:Type}{body:(σ→Option ρ)→σ→Option ρ} (S:Nat→σ) (n:Nat) {R:Option ρ} (hs:∀ rec k,k < n→body rec (S k)=rec (S (k+1))) (he:∀ rec,body rec (S n)=R) (hn:n < big):loopF body big (S 0)=R:=by
 have key:∀ d k m,k+d=n→d < m→loopF body m (S k)=R:=by
  intro d
  induction d with
  | zero=>
    intro k m h1 h2
    obtain ⟨m,rfl⟩:∃ q,m=q+1:=⟨m - 1,by omega⟩
    obtain rfl:k=n:=by omega
    exact he _
  | succ d ih=>
    intro k m h1 h2
    obtain ⟨m,rfl⟩:∃ q,m=q+1:=⟨m - 1,by omega⟩
    show body (loopF body m) (S k)=R
    rw [hs _ k (by omega)]
    exact ih (k+1) m (by omega) (by omega)
 exact key n 0 big (by omega) hn
theorem loop_fold0 {σ ρ:Type}{body:(σ→Option ρ)→σ→Option ρ} (S:Nat→σ) (n:Nat) {s0:σ}{R:Option ρ} (hs:∀ rec k,k < n→body rec (S k)=rec (S (k+1))) (he:∀ rec,body rec (S n)=R) (hn:n < big) (h0:S 0=s0):loopF body big s0=R:=h0▸loop_fold S n hs he hn
theorem big_eq:big=18446744073709551616:=by decide
def allTo {α:Type} (p:α→Bool) (l:List α) (ok:Bool) (k:Nat):Bool:=ok&&(l.take k).all p
theorem allTo_zero {α:Type}{p:α→Bool}{l:List α}{ok:Bool}:allTo p l ok 0=ok:=by simp [allTo]
theorem allTo_succ {α:Type}{p:α→Bool}{l:List α}{ok:Bool}{k:Nat} (h:k < l.length):allTo p l ok (k+1)=(allTo p l ok k&&p l[k]):=by
 unfold allTo
 rw [← List.take_append_getElem h,List.all_append]
 simp [Bool.and_assoc]
theorem allTo_end {α:Type}{p:α→Bool}{l:List α}{ok:Bool}:allTo p l ok l.length=(ok&&l.all p):=by simp [allTo]
theorem wrN {k:Nat}{n:Nat} (h:k < n) (hn:n≤9223372036854775807):Fx.wr ((k:Int)+1)=((k+1:Nat):Int):=by rw [wrI (by omega) (by omega)]; omega
structure Arg (b:CoalBook):Prop where
 dl:b.Days.length≤9223372036854775807
 pl:b.Dips.length≤9223372036854775807
 el:b.Eats.length=2
 xl:b.Extra.length=3
def spB (s:Span) (hi wide:Int):Bool:=decide (0≤s.Low)&&decide (s.Low≤s.High)&&decide (s.High≤hi)&&decide (s.High - s.Low≤wide)
theorem isSpan_eq (s:Span) (hi wide:Int) (hh:hi≤9223372036854775807):coal_isSpan s hi wide=some (spB s hi wide):=by
 unfold coal_isSpan spB
 by_cases h1:0≤s.Low <;> by_cases h2:s.Low≤s.High <;> by_cases h3:s.High≤hi <;> simp only [h1,h2,h3,decide_true,decide_false,cond_true,cond_false,Bool.true_and,Bool.false_and,Bool.and_false]
 rw [wrI (by omega) (by omega)]
theorem spB_valid {s:Span}{hi wide:Int} (h:spB s hi wide=true):B_Valid s 0 hi=some true:=by
 unfold spB at h
 simp only [Bool.and_eq_true,decide_eq_true_eq] at h
 unfold B_Valid
 simp [h.1.1.1,h.1.1.2,h.1.2]
def dayB (x:CoalDay):Bool:=inB x.Crosses 0 9&&inB x.Engines 1 3&&inB x.Winds 1 7
def dipB (n:Nat) (x:CoalDip):Bool:=inB x.Day 0 ((n:Int) - 1)&&inB x.Read 0 800&&inB x.Error 0 9
theorem isDay_eq (b:CoalBook) (A:Arg b) (n:Int):coal_isDay b n=some (inB n 0 ((b.Days.length:Int) - 1)):=by
 unfold coal_isDay
 have:=A.dl
 rw [wrI (by omega) (by omega),within_eqC]; rfl
def valBC (b:CoalBook):Bool:=spB b.Heap 400 4&&inB b.Days.length 1 6&&spB b.Collier b.Days.length 3&&inB b.Brings 0 400&&decide ((b.Dips.length:Int)≤4)&&b.Eats.all (spB · 9 2)&&b.Extra.all (inB · 0 9)&&b.Days.all dayB&&b.Dips.all (dipB b.Days.length)
theorem check_tail (b:CoalBook) (A:Arg b) (ok:Bool):coal_Check_j9 b ok=some (bif ok&&b.Eats.all (spB · 9 2)&&b.Extra.all (inB · 0 9)&&b.Days.all dayB&&b.Dips.all (dipB b.Days.length) then 0 else 60):=by
 have h1:=A.dl; have h2:=A.pl; have h3:=A.el; have h4:=A.xl
 unfold coal_Check_j9
 refine loop_fold0 (fun k=>(allTo (spB · 9 2) b.Eats ok k,(k:Int))) 2 (fun rec k hk=>?_) (fun rec=>?_) (by rw [big_eq]; omega) (by rw [allTo_zero]; rfl)
 ·unfold coal_Check_l8
  simp only
  rw [decide_eq_true (by omega),cond_true,need_of (by simp [inI]; omega),wrN hk (by omega),allTo_succ (by omega)]
  rw [isSpan_eq _ _ _ (by omega),show agetS b.Eats (k:Int)=b.Eats[k]'(by omega) by simp [agetS,List.getD_eq_getElem?_getD,List.getElem?_eq_getElem (show k < b.Eats.length by omega)]]
  cases allTo (spB · 9 2) b.Eats ok k <;> simp
 unfold coal_Check_l8
 simp only
 rw [decide_eq_false (by omega),cond_false,show allTo (spB · 9 2) b.Eats ok 2=(ok&&b.Eats.all (spB · 9 2)) by rw [← h3,allTo_end]]
 generalize (ok&&b.Eats.all (spB · 9 2))=ok
 refine loop_fold0 (fun k=>(allTo (inB · 0 9) b.Extra ok k,(k:Int))) 3 (fun rec k hk=>?_) (fun rec=>?_) (by rw [big_eq]; omega) (by rw [allTo_zero]; rfl)
 ·unfold coal_Check_l7
  simp only
  rw [decide_eq_true (by omega),cond_true,need_of (by simp [inI]; omega),wrN hk (by omega),allTo_succ (by omega),within_eqC]
  rw [show aget b.Extra (k:Int)=b.Extra[k]'(by omega) by simp [aget,List.getD_eq_getElem?_getD,List.getElem?_eq_getElem (show k < b.Extra.length by omega)]]
  cases allTo (inB · 0 9) b.Extra ok k <;> simp
 unfold coal_Check_l7
 simp only
 rw [decide_eq_false (by omega),cond_false,show allTo (inB · 0 9) b.Extra ok 3=(ok&&b.Extra.all (inB · 0 9)) by rw [← h4,allTo_end]]
 generalize (ok&&b.Extra.all (inB · 0 9))=ok
 refine loop_fold0 (fun k=>(allTo dayB b.Days ok k,(k:Int))) b.Days.length (fun rec k hk=>?_) (fun rec=>?_) (by rw [big_eq]; omega) (by rw [allTo_zero]; rfl)
 ·unfold coal_Check_l6
  simp only
  rw [decide_eq_true (by omega),cond_true,getI_ix hk,Option.bind_some,wrN hk h1,allTo_succ hk]
  simp only [within_eqC,Option.bind_some]
  have e:dayB b.Days[k]=(inB b.Days[k].Crosses 0 9&&inB b.Days[k].Engines 1 3&&inB b.Days[k].Winds 1 7):=rfl
  rw [e]
  cases allTo dayB b.Days ok k <;> cases inB b.Days[k].Crosses 0 9 <;> cases inB b.Days[k].Engines 1 3 <;> cases inB b.Days[k].Winds 1 7 <;> rfl
 unfold coal_Check_l6
 simp only
 rw [decide_eq_false (by omega),cond_false,allTo_end]
 generalize (ok&&b.Days.all dayB)=ok
 refine loop_fold0 (fun k=>(allTo (dipB b.Days.length) b.Dips ok k,(k:Int))) b.Dips.length (fun rec k hk=>?_) (fun rec=>?_) (by rw [big_eq]; omega) (by rw [allTo_zero]; rfl)
 ·unfold coal_Check_l5
  simp only
  rw [decide_eq_true (by omega),cond_true,getI_ix hk,Option.bind_some,wrN hk h2,allTo_succ hk]
  simp only [within_eqC,isDay_eq b A,Option.bind_some]
  have e:dipB b.Days.length b.Dips[k]=(inB b.Dips[k].Day 0 ((b.Days.length:Int) - 1)&&inB b.Dips[k].Read 0 800&&inB b.Dips[k].Error 0 9):=rfl
  rw [e]
  cases allTo (dipB b.Days.length) b.Dips ok k <;> cases inB b.Dips[k].Day 0 ((b.Days.length:Int) - 1) <;> cases inB b.Dips[k].Read 0 800 <;> cases inB b.Dips[k].Error 0 9 <;> rfl
 unfold coal_Check_l5
 simp only
 rw [decide_eq_false (by omega),cond_false,allTo_end]
 cases (ok&&b.Dips.all (dipB b.Days.length)) <;> rfl
theorem check_eqC (b:CoalBook) (A:Arg b):coal_Check b=some (bif valBC b then 0 else 60):=by
 have h1:=A.dl; have h2:=A.pl
 unfold coal_Check valBC
 simp only [within_eqC,isSpan_eq _ _ _ (show (400:Int)≤9223372036854775807 by omega),isSpan_eq _ _ _ (show (b.Days.length:Int)≤9223372036854775807 by omega),Option.bind_some,check_tail b A]
 cases spB b.Heap 400 4 <;> cases inB b.Days.length 1 6 <;> cases spB b.Collier b.Days.length 3 <;> cases inB b.Brings 0 400 <;> rfl
theorem loop_at {σ ρ:Type}{body:(σ→Option ρ)→σ→Option ρ}{s:σ}{R:Option ρ} (h:∀ rec,body rec s=R):loopF body big s=R:=by
 rw [big_eq]; exact h _
structure ValC (b:CoalBook):Prop where
 hp:spB b.Heap 400 4=true
 dn:1≤b.Days.length∧b.Days.length≤6
 co:spB b.Collier b.Days.length 3=true
 br:0≤b.Brings∧b.Brings≤400
 pn:b.Dips.length≤4
 ea:∀ s∈b.Eats,spB s 9 2=true
 ex:∀ x∈b.Extra,0≤x∧x≤9
 da:∀ x∈b.Days,dayB x=true
 di:∀ x∈b.Dips,dipB b.Days.length x=true
theorem val_iffC {b:CoalBook}:valBC b=true↔ValC b:=by
 unfold valBC
 simp only [Bool.and_eq_true,List.all_eq_true,inB_iff,decide_eq_true_eq]
 constructor
 ·rintro ⟨⟨⟨⟨⟨⟨⟨⟨a,b1,b2⟩,c⟩,d⟩,e⟩,f⟩,g⟩,h⟩,i⟩; exact ⟨a,⟨by omega,by omega⟩,c,d,by omega,f,g,h,i⟩
 ·rintro ⟨a,b,c,d,e,f,g,h,i⟩; exact ⟨⟨⟨⟨⟨⟨⟨⟨a,by omega,by omega⟩,c⟩,d⟩,by omega⟩,f⟩,g⟩,h⟩,i⟩
theorem ValC.arg {b:CoalBook} (V:ValC b) (el:b.Eats.length=2) (xl:b.Extra.length=3):Arg b:=⟨by have:=V.dn; omega,by have:=V.pn; omega,el,xl⟩
def foldY {ε σ:Type} (yv:ε→σ→Option (Bool×σ)):List ε→σ→Option (Bool×σ)
 | [],s=>some (true,s)
 | x::l,s=>(yv x s).bind fun r=>bif r.1 then foldY yv l r.2 else some (false,r.2)
theorem foldY_app {ε σ:Type} (yv:ε→σ→Option (Bool×σ)):∀ (l m:List ε) (s:σ),foldY yv (l++m) s=(foldY yv l s).bind fun r=>bif r.1 then foldY yv m r.2 else some (false,r.2)
 | [],m,s=>rfl
 | x::l,m,s=>by
   show (yv x s).bind (fun r=>bif r.1 then foldY yv (l++m) r.2 else some (false,r.2))=Option.bind ((yv x s).bind fun r=>bif r.1 then foldY yv l r.2 else some (false,r.2)) _
   cases yv x s with
   | none=>rfl
   | some r=>
     obtain ⟨b,s2⟩:=r
     cases b with
     | true=>exact foldY_app yv l m s2
     | false=>rfl
def codeOf {σ:Type} (r:Bool×σ):Bool×Nat×σ:=(r.1,bif r.1 then 0 else 1,r.2)
theorem foldY_nest {ε δ σ:Type} (yv:δ→σ→Option (Bool×σ)) (f:ε→List δ) (bd:ε→σ→Option (Bool×Nat×σ)) (L:List ε) (hb:∀ x∈L,∀ z,bd x z=(foldY yv (f x) z).map codeOf):∀ z,foldY (yvOf bd) L (0,z)=(foldY yv (L.flatMap f) z).map codeOf:=by
 induction L with
 | nil=>intro z; rfl
 | cons x L ih=>
   intro z
   rw [List.flatMap_cons,foldY_app]
   show (yvOf bd x (0,z)).bind (fun r=>bif r.1 then foldY (yvOf bd) L r.2 else some (false,r.2))=_
   rw [show yvOf bd x (0,z)=bd x z from rfl,hb x (List.mem_cons_self ..) z]
   cases foldY yv (f x) z with
   | none=>rfl
   | some r=>
     obtain ⟨b,s2⟩:=r
     cases b with
     | true=>exact ih (fun x hx=>hb x (List.mem_cons_of_mem _ hx)) s2
     | false=>rfl
theorem foldY_one {ε σ:Type} (yv:ε→σ→Option (Bool×σ)) (x:ε) (s:σ):foldY yv [x] s=yv x s:=by
 show (yv x s).bind (fun r=>bif r.1 then some (true,r.2) else some (false,r.2))=_
 cases yv x s with
 | none=>rfl
 | some r=>obtain ⟨b,s2⟩:=r; cases b <;> rfl
theorem foldY_all {ε σ:Type} (bd:ε→σ→Option (Bool×Nat×σ)) (g:σ→ε→σ):∀ (L:List ε),(∀ x∈L,∀ z,bd x z=some (true,0,g z x))→∀ z,foldY (yvOf bd) L (0,z)=some (true,0,L.foldl g z)
 | [],_,z=>rfl
 | x::L,h,z=>by
   show (bd x z).bind (fun r=>bif r.1 then foldY (yvOf bd) L r.2 else some (false,r.2))=_
   rw [h x (List.mem_cons_self ..) z]
   exact foldY_all bd g L (fun x hx=>h x (List.mem_cons_of_mem _ hx)) _
theorem foldY_find {ε σ:Type} (bd:ε→σ→Option (Bool×Nat×σ)) (p:ε→Bool) (s0 s1:σ):∀ (L:List ε),(∀ x∈L,bd x s0=some (bif p x then (false,1,s1) else (true,0,s0)))→foldY (yvOf bd) L (0,s0)=some (bif L.any p then (false,1,s1) else (true,0,s0))
 | [],_=>rfl
 | x::L,h=>by
   show (bd x s0).bind (fun r=>bif r.1 then foldY (yvOf bd) L r.2 else some (false,r.2))=_
   rw [h x (List.mem_cons_self ..),List.any_cons]
   cases hp:p x with
   | true=>rfl
   | false=>exact foldY_find bd p s0 s1 L fun x hx=>h x (List.mem_cons_of_mem _ hx)
def rng (s:Span):List Int:=(List.range' 0 (s.High - s.Low+1).toNat).map fun (k:Nat)=>s.Low+k
theorem rng_mem {s:Span}{n:Int}:n∈rng s↔s.Low≤n∧n≤s.High:=by
 unfold rng
 simp only [List.mem_map,List.mem_range'_1]
 constructor
 ·rintro ⟨k,hk,rfl⟩; omega
 ·rintro ⟨h1,h2⟩; exact ⟨(n - s.Low).toNat,by omega,by omega⟩
structure Sp (s:Span):Prop where
 l0:0≤s.Low
 lh:s.Low≤s.High
 hi:s.High≤1000
theorem sp_of {s:Span}{hi wide:Int} (h:spB s hi wide=true) (hh:hi≤1000):Sp s:=by
 unfold spB at h
 simp only [Bool.and_eq_true,decide_eq_true_eq] at h
 exact ⟨h.1.1.1,h.1.1.2,by omega⟩
theorem all_eq {σ:Type} (s:Span) (S:Sp s) (yv:Int→σ→Option (Bool×σ)) (z:σ):coal_all_1 z s yv=(foldY yv (rng s) z).map (·.2):=by
 have h1:=S.l0; have h2:=S.lh; have h3:=S.hi
 have key:∀ (d k m:Nat) (z:σ),k+d=(s.High - s.Low+1).toNat→d < m→loopF (coal_all_1_l1 s yv) m ((k:Int),z)=(foldY yv ((List.range' k d).map fun (k:Nat)=>s.Low+k) z).map (·.2):=by
  intro d
  induction d with
  | zero=>
    intro k m z h4 h5
    obtain ⟨m,rfl⟩:∃ q,m=q+1:=⟨m - 1,by omega⟩
    show coal_all_1_l1 s yv (loopF (coal_all_1_l1 s yv) m) ((k:Int),z)=_
    unfold coal_all_1_l1
    simp only
    rw [wrI (x:=s.High - s.Low) (by omega) (by omega),wrI (x:=s.High - s.Low+1) (by omega) (by omega),decide_eq_false (by omega),cond_false]
    rfl
  | succ d ih=>
    intro k m z h4 h5
    obtain ⟨m,rfl⟩:∃ q,m=q+1:=⟨m - 1,by omega⟩
    suffices H:∀ rec:(Int×σ)→Option σ,(∀ z2,rec (((k+1:Nat):Int),z2)=(foldY yv ((List.range' (k+1) d).map fun (k:Nat)=>s.Low+k) z2).map (·.2))→coal_all_1_l1 s yv rec ((k:Int),z)=(foldY yv ((List.range' k (d+1)).map fun (k:Nat)=>s.Low+k) z).map (·.2) from H _ fun z2=>ih (k+1) m z2 (by omega) (by omega)
    intro rec hrec
    rw [List.range'_succ,List.map_cons]
    show _=Option.map _ ((yv (s.Low+(k:Int)) z).bind fun r=>bif r.1 then foldY yv _ r.2 else some (false,r.2))
    unfold coal_all_1_l1
    simp only
    rw [wrI (x:=s.High - s.Low) (by omega) (by omega),wrI (x:=s.High - s.Low+1) (by omega) (by omega),decide_eq_true (by omega),cond_true,wrI (x:=s.Low+k) (by omega) (by omega)]
    cases yv (s.Low+(k:Int)) z with
    | none=>rfl
    | some r=>
      obtain ⟨b,z2⟩:=r
      cases b with
      | false=>rfl
      | true=>
        show rec (Fx.wr ((k:Int)+1),z2)=Option.map _ (foldY yv _ z2)
        rw [wrI (by omega) (by omega),show (k:Int)+1=((k+1:Nat):Int) by omega]
        exact hrec z2
 exact key (s.High - s.Low+1).toNat 0 big z (by omega) (by rw [big_eq]; omega)
theorem all_nest {δ σ:Type} (s:Span) (S:Sp s) (yv:δ→σ→Option (Bool×σ)) (f:Int→List δ) (bd:Int→σ→Option (Bool×Nat×σ)) (hb:∀ x∈rng s,∀ z,bd x z=(foldY yv (f x) z).map codeOf) (z:σ):
 coal_all_1 (0,z) s (yvOf bd)=(foldY yv ((rng s).flatMap f) z).map fun r=>(bif r.1 then 0 else 1,r.2):=by
 rw [all_eq s S,foldY_nest yv f bd _ hb,Option.map_map]; rfl
def rightB (q:Coal_book) (day n:Int):Bool:=q.CoalBook.Dips.all fun x=>!(x.Day==day)||inB (n - x.Read) (-x.Error) x.Error
structure Op (q:Coal_book):Prop where
 hp:Sp q.CoalBook.Heap
 co:Sp q.CoalBook.Collier
 el:q.CoalBook.Eats.length=2
 ea:∀ s∈q.CoalBook.Eats,Sp s∧s.High≤9
 dn:q.CoalBook.Days.length≤6
 da:∀ x∈q.CoalBook.Days,0≤x.Crosses∧x.Crosses≤9
 br:0≤q.CoalBook.Brings∧q.CoalBook.Brings≤400
 pn:q.CoalBook.Dips.length≤10
 di:∀ x∈q.CoalBook.Dips,0≤x.Read∧x.Read≤2000∧0≤x.Error∧x.Error≤9
 cs:∀ p∈q.costs_,0≤p.2∧p.2≤81
theorem right_eqC (q:Coal_book) (Q:Op q) (day n:Int) (h1:-100000≤n) (h2:n≤100000):coal_book_right q day n=some (rightB q day n):=by
 have hn:=Q.pn
 have key:∀ (d k m:Nat),k+d=q.CoalBook.Dips.length→d < m→loopF (coal_book_right_l1 q day n) m (k:Int)=some ((q.CoalBook.Dips.drop k).all fun x=>!(x.Day==day)||inB (n - x.Read) (-x.Error) x.Error):=by
  intro d
  induction d with
  | zero=>
    intro k m h4 h5
    obtain ⟨m,rfl⟩:∃ q,m=q+1:=⟨m - 1,by omega⟩
    show coal_book_right_l1 q day n (loopF (coal_book_right_l1 q day n) m) (k:Int)=_
    unfold coal_book_right_l1
    rw [decide_eq_false (by omega),cond_false,List.drop_eq_nil_of_le (by omega)]
    rfl
  | succ d ih=>
    intro k m h4 h5
    obtain ⟨m,rfl⟩:∃ q,m=q+1:=⟨m - 1,by omega⟩
    suffices H:∀ rec:Int→Option Bool,rec ((k+1:Nat):Int)=some ((q.CoalBook.Dips.drop (k+1)).all fun x=>!(x.Day==day)||inB (n - x.Read) (-x.Error) x.Error)→coal_book_right_l1 q day n rec (k:Int)=some ((q.CoalBook.Dips.drop k).all fun x=>!(x.Day==day)||inB (n - x.Read) (-x.Error) x.Error) from H _ (ih (k+1) m (by omega) (by omega))
    intro rec hrec
    have hk:k < q.CoalBook.Dips.length:=by omega
    obtain ⟨g1,g2,g3,g4⟩:=Q.di _ (List.getElem_mem hk)
    unfold coal_book_right_l1
    rw [decide_eq_true (by omega),cond_true,getI_ix hk,Option.bind_some,List.drop_eq_getElem_cons hk,List.all_cons,wrI (x:=n - _) (by omega) (by omega),wrI (x:=-_) (by omega) (by omega),within_eqC,Option.bind_some,wrI (x:=(k:Int)+1) (by omega) (by omega),show (k:Int)+1=((k+1:Nat):Int) by omega,hrec]
    cases (q.CoalBook.Dips[k].Day==day) <;> cases inB (n - q.CoalBook.Dips[k].Read) (-q.CoalBook.Dips[k].Error) q.CoalBook.Dips[k].Error <;> rfl
 have:=key q.CoalBook.Dips.length 0 big (by omega) (by rw [big_eq]; omega)
 exact this
def eng (q:Coal_book) (day:Int) (e:List Int):Int:=
 match q.CoalBook.Days[day.toNat]? with
 | none=>0
 | some x=>(bif (andI (shrI x.Engines 0) 1)==1 then e.getD 0 0*x.Crosses else 0)+(bif (andI (shrI x.Engines 1) 1)==1 then e.getD 1 0*x.Crosses else 0)
theorem sum_bd:∀ (l:List Int),(∀ x∈l,0≤x∧x≤81)→0≤l.sum∧l.sum≤81*(l.length:Int)
 | [],_=>by simp
 | a::l,h=>by
   have h1:=h a (List.mem_cons_self ..)
   have h2:=sum_bd l fun x hx=>h x (List.mem_cons_of_mem _ hx)
   simp only [List.sum_cons,List.length_cons]
   omega
theorem sum_eq (l:List Int) (hl:l.length≤2) (hb:∀ x∈l,0≤x∧x≤81):coal_sum_int l=some l.sum:=by
 unfold coal_sum_int
 refine loop_fold0 (fun k=>((l.take k).sum,(k:Int))) l.length (fun rec k hk=>?_) (fun rec=>?_) (by rw [big_eq]; omega) rfl
 ·unfold coal_sum_int_l1
  simp only
  have h1:=sum_bd (l.take k) fun x hx=>hb x (List.mem_of_mem_take hx)
  have h2:=hb _ (List.getElem_mem hk)
  have h3:(l.take k).length≤2:=by rw [List.length_take]; omega
  rw [decide_eq_true (by omega),cond_true,getI_ix hk,Option.bind_some,wrI (by omega) (by omega),wrI (by omega) (by omega),← List.take_append_getElem hk,List.sum_append]
  simp
 ·unfold coal_sum_int_l1
  simp only
  rw [decide_eq_false (by omega),cond_false,List.take_length]
theorem engines_eq (q:Coal_book) (Q:Op q) (d:Nat) (hd:d < q.CoalBook.Days.length) (e:List Int) (he:e.length=2) (hb:∀ x∈e,0≤x∧x≤9):coal_book_engines q d e=some (eng q d e)∧0≤eng q d e∧eng q d e≤162:=by
 have hx:=Q.da _ (List.getElem_mem hd)
 match e,he with
 | [a,b],_=>
   have ha:=hb a (by simp); have hb' :=hb b (by simp)
   have eE:eng q d [a,b]=(bif (andI (shrI q.CoalBook.Days[d].Engines 0) 1)==1 then a*q.CoalBook.Days[d].Crosses else 0)+(bif (andI (shrI q.CoalBook.Days[d].Engines 1) 1)==1 then b*q.CoalBook.Days[d].Crosses else 0):=by
    unfold eng
    rw [show ((d:Int)).toNat=d from rfl,List.getElem?_eq_getElem hd]; rfl
   generalize hX:q.CoalBook.Days[d]=X at*
   have m1:0≤a*X.Crosses:=Int.mul_nonneg ha.1 hx.1
   have m2:0≤b*X.Crosses:=Int.mul_nonneg hb'.1 hx.1
   have m3:a*X.Crosses≤9*9:=Int.mul_le_mul ha.2 hx.2 hx.1 (by omega)
   have m4:b*X.Crosses≤9*9:=Int.mul_le_mul hb'.2 hx.2 hx.1 (by omega)
   have hg:getI q.CoalBook.Days (d:Int)=some X:=by rw [getI_ix hd,hX]
   refine ⟨?_,?_⟩
   ·rw [eE]
    unfold coal_book_engines coal_nothing
    rw [Option.bind_some]
    by_cases hz:sgl [a,b] 2=sgl (List.replicate 2 0) 2
    ·rw [decide_eq_true hz,cond_true]
     have:a=0∧b=0:=by simpa [sgl,List.range_succ] using hz
     obtain ⟨rfl,rfl⟩:=this
     simp
    ·rw [decide_eq_false hz,cond_false]
     generalize hp0:(andI (shrI X.Engines 0) 1==1)=c0
     generalize hp1:(andI (shrI X.Engines 1) 1==1)=c1
     have w1:wr (a*X.Crosses)=a*X.Crosses:=wrI (by omega) (by omega)
     have w2:wr (b*X.Crosses)=b*X.Crosses:=wrI (by omega) (by omega)
     refine loop_fold0 (fun k=>((bif decide (1≤k)&&c0 then [a*X.Crosses] else [])++(bif decide (2≤k)&&c1 then [b*X.Crosses] else []),(k:Int))) 2 (fun rec k hk=>?_) (fun rec=>?_) (by rw [big_eq]; omega) rfl
     ·unfold coal_book_engines_l1
      match k,hk with
      | 0,_=>
        simp only [show decide (((0:Nat):Int) < 2)=true by decide,cond_true,hg,Option.bind_some,show inI ((0:Nat):Int) 2=true by decide,need_true,show decide ((0:Int)≤((0:Nat):Int))=true by decide,show aget [a,b] ((0:Nat):Int)=a from rfl,w1]
        rw [show ((0:Nat):Int)=0 from rfl,hp0]
        cases c0 with
        | true=>rw [cond_true,need_of (by simp [fitsL])]; rfl
        | false=>rfl
      | 1,_=>
        simp only [show decide (((1:Nat):Int) < 2)=true by decide,cond_true,hg,Option.bind_some,show inI ((1:Nat):Int) 2=true by decide,need_true,show decide ((0:Int)≤((1:Nat):Int))=true by decide,show aget [a,b] ((1:Nat):Int)=b from rfl,w2]
        rw [show ((1:Nat):Int)=1 from rfl,hp1]
        cases c1 with
        | true=>cases c0 <;> (rw [cond_true,need_of (by simp [fitsL])]; rfl)
        | false=>cases c0 <;> rfl
     ·unfold coal_book_engines_l1
      simp only [show decide (((2:Nat):Int) < 2)=false by decide,cond_false,show decide (1≤2)=true by decide,show decide (2≤2)=true by decide,Bool.true_and]
      rw [sum_eq _ (by cases c0 <;> cases c1 <;> simp) (fun x hx=>by cases c0 <;> cases c1 <;> simp at hx <;> omega)]
      cases c0 <;> cases c1 <;> simp
   ·rw [eE]
    cases (andI (shrI X.Engines 0) 1==1) <;> cases (andI (shrI X.Engines 1) 1==1) <;> simp only [cond_true,cond_false] <;> omega
def blown (q:Coal_book):Nat→Coal_truth→Int→Int→List Coal_truth
 | 0,t,_,_=>[t]
 | r+1,t,d,c=>(List.range' 0 3).flatMap fun (w:Nat)=>optL (lookL q.costs_ (Coal_gust.mk d (w:Int))) fun cost=>
    bif rightB q d ((bif t.collier_==d then c+q.CoalBook.Brings else c) - eng q d t.eats_ - cost) then
     blown q r (Coal_truth.mk t.eats_ t.collier_ (aset t.winds_ 6 d (w:Int)) (aset t.coal_ 6 d ((bif t.collier_==d then c+q.CoalBook.Brings else c) - eng q d t.eats_ - cost))) (d+1) ((bif t.collier_==d then c+q.CoalBook.Brings else c) - eng q d t.eats_ - cost)
    else []
where optL {α β:Type} (o:Option α) (f:α→List β):List β:=match o with | none=>[] | some a=>f a
theorem aset_aset {l:List Int}{n:Nat}{i x y:Int}:aset (aset l n i x) n i y=aset l n i y:=by
 unfold aset
 refine List.map_congr_left fun k hk=>?_
 have hk:=List.mem_range.1 hk
 by_cases h:k=i.toNat
 ·simp [h]
 ·simp [h,List.getD_eq_getElem?_getD,hk]
theorem look_mem {q:Coal_book}{g:Coal_gust}{c:Int} (h:lookL q.costs_ g=some c):∃ p∈q.costs_,p.2=c:=by
 unfold lookL at h
 obtain ⟨p,hp,rfl⟩:=Option.map_eq_some_iff.1 h
 exact ⟨p,List.mem_of_find?_eq_some hp,rfl⟩
theorem blown_eq (q:Coal_book) (Q:Op q) {σ:Type} (yv:Coal_truth→σ→Option (Bool×σ)):∀ (r:Nat) (t:Coal_truth) (d:Nat) (c:Int) (s:σ) (n:Nat),d+r=q.CoalBook.Days.length→r < n→-(1000*((d:Int)+1))≤c→c≤1000*((d:Int)+1)→t.eats_.length=2→(∀ x∈t.eats_,0≤x∧x≤9)→
 coal_book_blown_1_1 n t d c s q q yv=foldY yv (blown q r t d c) s:=by
 have hdn:=Q.dn; have hbr:=Q.br
 intro r
 induction r with
 | zero=>
   intro t d c s n h1 h2 h3 h4 h5 h6
   obtain ⟨n,rfl⟩:∃ m,n=m+1:=⟨n - 1,by omega⟩
   show coal_book_blown_1_1_F _ t d c s q q yv=foldY yv [t] s
   rw [foldY_one]
   unfold coal_book_blown_1_1_F
   rw [show ((d:Int)==(q.CoalBook.Days.length:Int))=true by rw [beq_iff_eq]; omega,cond_true]
   cases yv t s <;> rfl
 | succ r ih=>
   intro t d c s n h1 h2 h3 h4 h5 h6
   obtain ⟨n,rfl⟩:∃ m,n=m+1:=⟨n - 1,by omega⟩
   show coal_book_blown_1_1_F _ t d c s q q yv=_
   obtain ⟨e1,e2,e3⟩:=engines_eq q Q d (by omega) t.eats_ h5 h6
   have j6:∀ z:Int,-(1000*((d:Int)+1))≤z→z≤1000*((d:Int)+1)+400→z=(bif t.collier_==(d:Int) then c+q.CoalBook.Brings else c)→coal_book_blown_1_1_j6 q d t q (fun x0 x1 x2 x3=>coal_book_blown_1_1 n x0 x1 x2 x3 q q yv) s z=foldY yv (blown q (r+1) t d c) s:=by
    intro z z1 z2 hz
    unfold coal_book_blown_1_1_j6
    rw [e1,Option.bind_some,blown,← hz]
    have key:∀ (e k m:Nat) (W C:List Int) (s:σ),k+e=3→e < m→(∀ x,aset W 6 d x=aset t.winds_ 6 d x)→(∀ x,aset C 6 d x=aset t.coal_ 6 d x)→
     loopF (coal_book_blown_1_1_l5 q d q z (eng q d t.eats_) (fun x0 x1 x2 x3=>coal_book_blown_1_1 n x0 x1 x2 x3 q q yv) t) m ((k:Int),W,C,s)=foldY yv ((List.range' k e).flatMap fun (w:Nat)=>blown.optL (lookL q.costs_ (Coal_gust.mk d (w:Int))) fun cost=>
      bif rightB q d (z - eng q d t.eats_ - cost) then blown q r (Coal_truth.mk t.eats_ t.collier_ (aset t.winds_ 6 d (w:Int)) (aset t.coal_ 6 d (z - eng q d t.eats_ - cost))) (d+1) (z - eng q d t.eats_ - cost) else []) s:=by
     intro e
     induction e with
     | zero=>
       intro k m W C s h7 h8 hW hC
       obtain ⟨m,rfl⟩:∃ q,m=q+1:=⟨m - 1,by omega⟩
       show coal_book_blown_1_1_l5 q d q z _ _ t _ ((k:Int),W,C,s)=_
       unfold coal_book_blown_1_1_l5
       simp only
       rw [decide_eq_false (by omega),cond_false]
       rfl
     | succ e ih2=>
       intro k m W C s h7 h8 hW hC
       obtain ⟨m,rfl⟩:∃ q,m=q+1:=⟨m - 1,by omega⟩
       show coal_book_blown_1_1_l5 q d q z _ _ t (loopF _ m) ((k:Int),W,C,s)=_
       have ih3:=fun W C s=>ih2 (k+1) m W C s (by omega) (by omega)
       generalize loopF (coal_book_blown_1_1_l5 q d q z (eng q d t.eats_) (fun x0 x1 x2 x3=>coal_book_blown_1_1 n x0 x1 x2 x3 q q yv) t) m=rec at ih3
       rw [List.range'_succ,List.flatMap_cons,foldY_app]
       have w0:wr ((k:Int)+1)=((k+1:Nat):Int):=by rw [wrI (by omega) (by omega)]; omega
       unfold coal_book_blown_1_1_l5
       simp only
       rw [decide_eq_true (by omega),cond_true]
       cases hl:lookL q.costs_ (Coal_gust.mk d (k:Int)) with
       | none=>
         simp only [optC,blown.optL]
         unfold coal_book_blown_1_1_j4
         simp only [Bool.not_false,cond_true]
         rw [w0,ih3 W C s hW hC]
         rfl
       | some cost=>
         obtain ⟨p,hp,rfl⟩:=look_mem hl
         obtain ⟨p1,p2⟩:=Q.cs p hp
         simp only [optC,blown.optL]
         unfold coal_book_blown_1_1_j4
         simp only [Bool.not_true,cond_false]
         rw [wrI (x:=z - eng q d t.eats_) (by omega) (by omega),wrI (x:=z - eng q d t.eats_ - p.2) (by omega) (by omega),right_eqC q Q d _ (by omega) (by omega),Option.bind_some]
         cases hr:rightB q d (z - eng q d t.eats_ - p.2) with
         | false=>
           simp only [Bool.not_false,cond_true,cond_false]
           rw [w0,ih3 W C s hW hC]
           rfl
         | true=>
           simp only [Bool.not_true,cond_true,cond_false]
           rw [need_of (by simp [inI]; omega),need_of (by simp [inI]; omega),hW,hC,show wr ((d:Int)+1)=((d+1:Nat):Int) by rw [wrI (by omega) (by omega)]; omega]
           rw [ih (Coal_truth.mk t.eats_ t.collier_ (aset t.winds_ 6 d (k:Int)) (aset t.coal_ 6 d (z - eng q d t.eats_ - p.2))) (d+1) (z - eng q d t.eats_ - p.2) s n (by omega) (by omega) (by omega) (by omega) h5 h6,show ((d+1:Nat):Int)=(d:Int)+1 by omega]
           cases foldY yv (blown q r _ ((d:Int)+1) _) s with
           | none=>rfl
           | some x=>
             obtain ⟨b,s2⟩:=x
             cases b with
             | false=>rfl
             | true=>
               show rec (wr ((k:Int)+1),_,_,s2)=foldY yv _ s2
               exact (congrArg (fun x=>rec (x,_,_,s2)) w0).trans (ih3 _ _ s2 (fun x=>aset_aset) (fun x=>aset_aset))
    exact key 3 0 big _ _ s (by omega) (by rw [big_eq]; omega) (fun _=>rfl) (fun _=>rfl)
   unfold coal_book_blown_1_1_F
   rw [show ((d:Int)==(q.CoalBook.Days.length:Int))=false by rw [beq_eq_false_iff_ne]; omega,cond_false]
   cases hc:(t.collier_==(d:Int)) with
   | true=>
     rw [cond_true,wrI (by omega) (by omega)]
     exact j6 _ (by omega) (by omega) (by rw [hc]; rfl)
   | false=>
     rw [cond_false]
     exact j6 _ (by omega) (by omega) (by rw [hc]; rfl)
def init (o p c:Int):Coal_truth:=Coal_truth.mk [o,p] c (List.replicate 6 0) (List.replicate 6 0)
def truths (q:Coal_book):List Coal_truth:=
 (rng q.CoalBook.Heap).flatMap fun h=>(rng (agetS q.CoalBook.Eats (0:Int))).flatMap fun o=>(rng (agetS q.CoalBook.Eats (1:Int))).flatMap fun p=>(rng q.CoalBook.Collier).flatMap fun c=>blown q q.CoalBook.Days.length (init o p c) 0 h
theorem truth_mem {q:Coal_book}{t:Coal_truth}:t∈truths q↔∃ h∈rng q.CoalBook.Heap,∃ o∈rng (agetS q.CoalBook.Eats (0:Int)),∃ p∈rng (agetS q.CoalBook.Eats (1:Int)),∃ c∈rng q.CoalBook.Collier,t∈blown q q.CoalBook.Days.length (init o p c) 0 h:=by
 simp only [truths,List.mem_flatMap]
theorem tail_eq {σ:Type} (x:Option (Bool×σ)):(x.map fun r=>((bif r.1 then 0 else 1:Nat),r.2)).bind (fun r=>bif (r.1==0) then some (true,0,r.2) else some (false,1,r.2))=x.map codeOf:=by
 cases x with
 | none=>rfl
 | some r=>obtain ⟨b,s⟩:=r; cases b <;> rfl
theorem agetS_mem {l:List Span}{i:Int} (h:i.toNat < l.length):agetS l i∈l:=by
 unfold agetS
 rw [List.getD_eq_getElem?_getD,List.getElem?_eq_getElem h]
 exact List.getElem_mem _
theorem truths_eq (q:Coal_book) (Q:Op q) {σ:Type} (yv:Coal_truth→σ→Option (Bool×σ)) (z:σ):coal_book_truths_1 z q yv=(foldY yv (truths q) z).map (·.2):=by
 have he0:=Q.ea _ (agetS_mem (i:=0) (by rw [Q.el]; decide))
 have he1:=Q.ea _ (agetS_mem (i:=1) (by rw [Q.el]; decide))
 have q1:∀ (o p:Int),0≤o→o≤9→0≤p→p≤9→∀ h∈rng q.CoalBook.Heap,∀ c z,coal_book_truths_1_r118 q o p h yv c z=(foldY yv (blown q q.CoalBook.Days.length (init o p c) 0 h) z).map codeOf:=by
  intro o p o1 o2 p1 p2 h hh c z
  have hh:=rng_mem.1 hh
  have:=Q.hp.l0; have:=Q.hp.hi
  unfold coal_book_truths_1_r118 coal_book_blown coal_book_blown_1
  rw [Option.bind_some]
  rw [show Coal_truth.mk [o,p] c (List.replicate 6 0) (List.replicate 6 0)=init o p c from rfl]
  have:=blown_eq q Q (yvOf (coal_book_truths_1_r117 yv)) q.CoalBook.Days.length (init o p c) 0 h (0,z) big (by omega) (by have:=Q.dn; rw [big_eq]; omega) (by omega) (by omega) rfl (fun x hx=>by
   simp [init] at hx
   rcases hx with rfl | rfl <;> omega)
  rw [show coal_book_blown_1_1 big (init o p c) 0 h (0,z) q q (yvOf (coal_book_truths_1_r117 yv))=_ from this]
  rw [foldY_nest yv (fun x=>[x]) (coal_book_truths_1_r117 yv) _ (fun x _ z=>by
   rw [foldY_one]
   unfold coal_book_truths_1_r117
   cases yv x z with
   | none=>rfl
   | some r=>obtain ⟨b,s⟩:=r; cases b <;> rfl),show ∀ l:List Coal_truth,(l.flatMap fun x=>[x])=l from fun l=>by induction l <;> simp_all]
  show _=Option.map codeOf (foldY yv (blown q q.CoalBook.Days.length (init o p c) ((0:Nat):Int) h) z)
  cases foldY yv (blown q q.CoalBook.Days.length (init o p c) ((0:Nat):Int) h) z with
  | none=>rfl
  | some r=>obtain ⟨b,s⟩:=r; cases b <;> rfl
 have q2:∀ (o p:Int),0≤o→o≤9→0≤p→p≤9→∀ h∈rng q.CoalBook.Heap,∀ z,coal_book_truths_1_r119 q o h yv p z=(foldY yv ((rng q.CoalBook.Collier).flatMap fun c=>blown q q.CoalBook.Days.length (init o p c) 0 h) z).map codeOf:=by
  intro o p o1 o2 p1 p2 h hh z
  unfold coal_book_truths_1_r119 coal_all
  rw [Option.bind_some,all_nest _ Q.co yv _ _ (fun x hx z=>q1 o p o1 o2 p1 p2 h hh x z),tail_eq]
 have q3:∀ (o:Int),0≤o→o≤9→∀ h∈rng q.CoalBook.Heap,∀ z,coal_book_truths_1_r120 q h yv o z=(foldY yv ((rng (agetS q.CoalBook.Eats (1:Int))).flatMap fun p=>(rng q.CoalBook.Collier).flatMap fun c=>blown q q.CoalBook.Days.length (init o p c) 0 h) z).map codeOf:=by
  intro o o1 o2 h hh z
  unfold coal_book_truths_1_r120 coal_all
  rw [Option.bind_some,all_nest _ he1.1 yv _ _ (fun x hx z=>q2 o x o1 o2 (by have:=rng_mem.1 hx; have:=he1.1.l0; omega) (by have:=rng_mem.1 hx; have:=he1.2; omega) h hh z),tail_eq]
 have q4:∀ h∈rng q.CoalBook.Heap,∀ z,coal_book_truths_1_r121 q yv h z=(foldY yv ((rng (agetS q.CoalBook.Eats (0:Int))).flatMap fun o=>(rng (agetS q.CoalBook.Eats (1:Int))).flatMap fun p=>(rng q.CoalBook.Collier).flatMap fun c=>blown q q.CoalBook.Days.length (init o p c) 0 h) z).map codeOf:=by
  intro h hh z
  unfold coal_book_truths_1_r121 coal_all
  rw [Option.bind_some,all_nest _ he0.1 yv _ _ (fun x hx z=>q3 x (by have:=rng_mem.1 hx; have:=he0.1.l0; omega) (by have:=rng_mem.1 hx; have:=he0.2; omega) h hh z),tail_eq]
 unfold coal_book_truths_1 coal_all
 rw [Option.bind_some,all_nest _ Q.hp yv _ _ q4]
 show _=Option.map _ (foldY yv (truths q) z)
 unfold truths
 cases foldY yv _ z with
 | none=>rfl
 | some r=>obtain ⟨b,s⟩:=r; cases b <;> rfl
def keepD (l:List CoalDip) (but:List Int):Nat→List CoalDip
 | 0=>[]
 | k+1=>bif but.contains (k:Int) then keepD l but k else keepD l but k++(l[k]?).toList
def costW (x:CoalDay) (ex:List Int) (d:Int) (m:List (Coal_gust×Int)):Nat→List (Coal_gust×Int)
 | 0=>m
 | k+1=>bif (andI (shrI x.Winds (k:Int)) 1)==1 then putL (costW x ex d m k) (Coal_gust.mk d (k:Int)) (wr (x.Crosses*aget ex (k:Int))) else costW x ex d m k
def costD (ds:List CoalDay) (ex:List Int):Nat→List (Coal_gust×Int)
 | 0=>[]
 | k+1=>match ds[k]? with | some x=>costW x ex (k:Int) (costD ds ex k) 3 | none=>costD ds ex k
def opn (b:CoalBook) (but:List Int):Coal_book:=Coal_book.mk (CoalBook.mk b.Heap b.Eats b.Extra b.Days b.Collier b.Brings (keepD b.Dips but b.Dips.length)) (costD b.Days b.Extra b.Days.length)
theorem keepD_len (l:List CoalDip) (but:List Int):∀ k,(keepD l but k).length≤k
 | 0=>Nat.le_refl 0
 | k+1=>by
   have:=keepD_len l but k
   unfold keepD
   cases but.contains (k:Int) with
   | true=>rw [cond_true]; omega
   | false=>
     rw [cond_false,List.length_append]
     have:(l[k]?).toList.length≤1:=by cases l[k]? <;> simp
     omega
theorem keepD_mem {l:List CoalDip}{but:List Int}{x:CoalDip}:∀ {k},x∈keepD l but k→x∈l
 | 0,h=>by cases h
 | k+1,h=>by
   unfold keepD at h
   cases hc:but.contains (k:Int) with
   | true=>rw [hc,cond_true] at h; exact keepD_mem h
   | false=>
     rw [hc,cond_false] at h
     rcases List.mem_append.1 h with h | h
     ·exact keepD_mem h
     ·cases hk:l[k]? with
      | none=>rw [hk] at h; cases h
      | some y=>
        rw [hk] at h
        obtain rfl:=List.mem_singleton.1 h
        exact List.mem_of_getElem? hk
theorem putL_mem {m:List (Coal_gust×Int)}{g:Coal_gust}{v:Int}{x:Coal_gust×Int} (h:x∈putL m g v):x=(g,v)∨x∈m:=by
 unfold putL at h
 split at h
 ·rcases List.mem_or_eq_of_mem_set h with h | h
  ·exact .inr h
  ·exact .inl h
 ·rcases List.mem_append.1 h with h | h
  ·exact .inr h
  ·exact .inl (List.mem_singleton.1 h)
theorem costW_bd {x:CoalDay}{ex:List Int}{d:Int}{m:List (Coal_gust×Int)} (hx:0≤x.Crosses∧x.Crosses≤9) (he:∀ y∈ex,0≤y∧y≤9) (hm:∀ p∈m,0≤p.2∧p.2≤81):∀ k,∀ p∈costW x ex d m k,0≤p.2∧p.2≤81
 | 0=>hm
 | k+1=>by
   intro p hp
   unfold costW at hp
   cases hc:(andI (shrI x.Winds (k:Int)) 1)==1 with
   | false=>rw [hc,cond_false] at hp; exact costW_bd hx he hm k p hp
   | true=>
     rw [hc,cond_true] at hp
     rcases putL_mem hp with rfl | hp
     ·have h1:0≤aget ex (k:Int)∧aget ex (k:Int)≤9:=by
       unfold aget
       rw [List.getD_eq_getElem?_getD]
       cases hk:ex[((k:Int)).toNat]? with
       | none=>simp
       | some y=>exact he y (List.mem_of_getElem? hk)
      have m1:0≤x.Crosses*aget ex (k:Int):=Int.mul_nonneg hx.1 h1.1
      have m3:x.Crosses*aget ex (k:Int)≤9*9:=Int.mul_le_mul hx.2 h1.2 h1.1 (by omega)
      simp only
      rw [wrI (by omega) (by omega)]
      omega
     ·exact costW_bd hx he hm k p hp
theorem costD_bd {ds:List CoalDay}{ex:List Int} (hd:∀ x∈ds,0≤x.Crosses∧x.Crosses≤9) (he:∀ y∈ex,0≤y∧y≤9):∀ k,∀ p∈costD ds ex k,0≤p.2∧p.2≤81
 | 0=>fun p h=>by cases h
 | k+1=>by
   unfold costD
   cases hk:ds[k]? with
   | none=>exact costD_bd hd he k
   | some x=>exact costW_bd (hd x (List.mem_of_getElem? hk)) he (costD_bd hd he k) 3
theorem dayB_iff {x:CoalDay} (h:dayB x=true):(0≤x.Crosses∧x.Crosses≤9)∧(1≤x.Engines∧x.Engines≤3)∧1≤x.Winds∧x.Winds≤7:=by
 unfold dayB at h
 simp only [Bool.and_eq_true,inB_iff] at h
 exact ⟨h.1.1,h.1.2,h.2⟩
theorem dipB_iff {n:Nat}{x:CoalDip} (h:dipB n x=true):(0≤x.Day∧x.Day≤(n:Int) - 1)∧(0≤x.Read∧x.Read≤800)∧0≤x.Error∧x.Error≤9:=by
 unfold dipB at h
 simp only [Bool.and_eq_true,inB_iff] at h
 exact ⟨h.1.1,h.1.2,h.2⟩
theorem opn_op {b:CoalBook} (V:ValC b) (A:Arg b) (but:List Int):Op (opn b but) where
 hp:=sp_of V.hp (by omega)
 co:=sp_of V.co (by have:=V.dn; omega)
 el:=A.el
 ea s hs:=by
  have:=V.ea s hs
  refine ⟨sp_of this (by omega),?_⟩
  unfold spB at this
  simp only [Bool.and_eq_true,decide_eq_true_eq] at this
  exact this.1.2
 dn:=V.dn.2
 da x hx:=(dayB_iff (V.da x hx)).1
 br:=V.br
 pn:=by
  have h1:=keepD_len b.Dips but b.Dips.length
  have:=V.pn
  show (keepD b.Dips but b.Dips.length).length≤10
  omega
 di x hx:=by
  obtain ⟨_,h1,h2⟩:=dipB_iff (V.di x (keepD_mem hx))
  omega
 cs:=costD_bd (fun x hx=>(dayB_iff (V.da x hx)).1) V.ex _
theorem index_eq (l:List Int) (a:Int) (hl:l.length≤1000):sl_Contains_int_int l a=some (l.contains a):=by
 have key:∀ (d k m:Nat),k+d=l.length→d < m→∃ j,loopF (sl_Index_int_int_l1 l a) m (k:Int)=some j∧decide (j≥0)=(l.drop k).contains a:=by
  intro d
  induction d with
  | zero=>
    intro k m h1 h2
    obtain ⟨m,rfl⟩:∃ q,m=q+1:=⟨m - 1,by omega⟩
    refine ⟨-1,?_,by rw [List.drop_eq_nil_of_le (by omega)]; rfl⟩
    show sl_Index_int_int_l1 l a _ _=_
    unfold sl_Index_int_int_l1
    rw [decide_eq_false (by omega),cond_false]
  | succ d ih=>
    intro k m h1 h2
    obtain ⟨m,rfl⟩:∃ q,m=q+1:=⟨m - 1,by omega⟩
    have hk:k < l.length:=by omega
    obtain ⟨j,hj,hj2⟩:=ih (k+1) m (by omega) (by omega)
    show ∃ j,sl_Index_int_int_l1 l a (loopF (sl_Index_int_int_l1 l a) m) _=some j∧_
    generalize loopF (sl_Index_int_int_l1 l a) m=rec at hj
    unfold sl_Index_int_int_l1
    rw [decide_eq_true (by omega),cond_true,getI_ix hk,Option.bind_some,List.drop_eq_getElem_cons hk,List.contains_cons]
    cases hc:(a==l[k]) with
    | true=>exact ⟨k,by rw [cond_true],by simp⟩
    | false=>
      refine ⟨j,?_,by rw [hj2,Bool.false_or]⟩
      rw [cond_false,wrI (by omega) (by omega),show (k:Int)+1=((k+1:Nat):Int) by omega,hj]
 obtain ⟨j,hj,hj2⟩:=key l.length 0 big (by omega) (by rw [big_eq]; omega)
 unfold sl_Contains_int_int sl_Index_int_int
 rw [show loopF (sl_Index_int_int_l1 l a) big 0=some j from hj,Option.bind_some,hj2]; rfl
theorem opened_eqC {b:CoalBook} (V:ValC b) (A:Arg b) (but:List Int) (hb:but.length≤1000):coal_opened b but=some (opn b but):=by
 have hp:=V.pn; have hd:=V.dn
 unfold coal_opened
 refine loop_fold0 (fun k=>((k:Int),keepD b.Dips but k)) b.Dips.length (fun rec k hk=>?_) (fun rec=>?_) (by rw [big_eq]; omega) rfl
 ·unfold coal_opened_l29
  simp only
  rw [decide_eq_true (by omega),cond_true,getI_ix hk,Option.bind_some,index_eq _ _ hb,Option.bind_some,wrN hk (by omega),keepD,List.getElem?_eq_getElem hk]
  cases but.contains (k:Int) with
  | true=>rfl
  | false=>
    simp only [Bool.not_false,cond_true,cond_false]
    rw [need_of (by have:=keepD_len b.Dips but k; unfold fitsL; simp; omega)]
    rfl
 unfold coal_opened_l29
 simp only
 rw [decide_eq_false (by omega),cond_false]
 refine loop_fold0 (fun k=>((k:Int),costD b.Days b.Extra k)) b.Days.length (fun rec k hk=>?_) (fun rec=>?_) (by rw [big_eq]; omega) rfl
 ·unfold coal_opened_l28
  simp only
  rw [decide_eq_true (by omega),cond_true,getI_ix hk,Option.bind_some,costD,List.getElem?_eq_getElem hk]
  refine loop_fold0 (fun j=>((j:Int),costW b.Days[k] b.Extra (k:Int) (costD b.Days b.Extra k) j)) 3 (fun rec' j hj=>?_) (fun rec' =>?_) (by rw [big_eq]; omega) rfl
  ·unfold coal_opened_l27 coal_opened_j26
   simp only
   rw [decide_eq_true (by omega),cond_true,need_of (by simp [inI]; omega),show ((k:Int)==(-1))=false by rw [beq_eq_false_iff_ne]; omega]
   simp only [Bool.false_and,Bool.not_false,cond_true]
   rw [need_of (by simp),wrN hj (by omega),costW]
   cases (andI (shrI b.Days[k].Winds (j:Int)) 1==1) <;> rfl
  ·unfold coal_opened_l27
   simp only
   rw [decide_eq_false (by omega),cond_false,wrN hk (by omega)]
 ·unfold coal_opened_l28
  simp only
  rw [decide_eq_false (by omega),cond_false]
  rfl
theorem isTrue_eq (q:Coal_book) (Q:Op q):coal_book_isTrue q=some (!(truths q).isEmpty):=by
 unfold coal_book_isTrue coal_book_truths
 rw [Option.bind_some,truths_eq q Q,foldY_find coal_book_isTrue_r1 (fun _=>true) false true _ (fun x _=>rfl)]
 cases truths q <;> rfl
structure SpanOf (f:Coal_truth→Int) (L:List Coal_truth) (s:Span):Prop where
 nil:L=[]→s=⟨0,0⟩
 low:L≠[]→∃ t∈L,f t=s.Low
 high:L≠[]→∃ t∈L,f t=s.High
 le:∀ t∈L,s.Low≤f t
 ge:∀ t∈L,f t≤s.High
def spanG (f:Coal_truth→Int) (z:Int×Int×Bool) (t:Coal_truth):Int×Int×Bool:=
 bif z.2.2 then (f t,f t,false) else ((if f t < z.1 then f t else z.1),(if f t > z.2.1 then f t else z.2.1),false)
theorem spanG_fold (f:Coal_truth→Int):∀ (L:List Coal_truth) (lo hi:Int),∃ lo' hi',L.foldl (spanG f) (lo,hi,false)=(lo',hi',false)∧(lo' =lo∨∃ t∈L,f t=lo')∧(hi' =hi∨∃ t∈L,f t=hi')∧lo' ≤lo∧hi≤hi' ∧∀ t∈L,lo' ≤f t∧f t≤hi'
 | [],lo,hi=>⟨lo,hi,rfl,.inl rfl,.inl rfl,Int.le_refl _,Int.le_refl _,fun t h=>by cases h⟩
 | x::L,lo,hi=>by
   obtain ⟨lo',hi',h1,h2,h3,h4,h5,h6⟩:=spanG_fold f L (if f x < lo then f x else lo) (if f x > hi then f x else hi)
   refine ⟨lo',hi',h1,?_,?_,?_,?_,?_⟩
   ·rcases h2 with h2 | ⟨t,ht,h⟩
    ·split at h2
     ·exact .inr ⟨x,List.mem_cons_self ..,h2.symm⟩
     ·exact .inl h2
    ·exact .inr ⟨t,List.mem_cons_of_mem _ ht,h⟩
   ·rcases h3 with h3 | ⟨t,ht,h⟩
    ·split at h3
     ·exact .inr ⟨x,List.mem_cons_self ..,h3.symm⟩
     ·exact .inl h3
    ·exact .inr ⟨t,List.mem_cons_of_mem _ ht,h⟩
   ·split at h4 <;> omega
   ·split at h5 <;> omega
   ·intro t ht
    rcases List.mem_cons.1 ht with rfl | ht
    ·constructor
     ·split at h4 <;> omega
     ·split at h5 <;> omega
    ·exact h6 t ht
theorem span_ex (q:Coal_book) (Q:Op q) (x:Coal_number) (f:Coal_truth→Int) (hx:∀ t∈truths q,x.of_ t=some (f t)):∃ s,coal_book_span q x=some s∧SpanOf f (truths q) s:=by
 unfold coal_book_span coal_book_truths
 rw [Option.bind_some,truths_eq q Q,foldY_all (coal_book_span_r1 x) (spanG f) _ (fun t ht z=>by
  unfold coal_book_span_r1 spanG
  rw [hx t ht,Option.bind_some]
  obtain ⟨a,b,c⟩:=z
  cases c <;> simp)]
 generalize truths q=L
 refine ⟨_,rfl,?_⟩
 cases L with
 | nil=>exact ⟨fun _=>rfl,fun h=>(h rfl).elim,fun h=>(h rfl).elim,fun t h=>(by cases h),fun t h=>(by cases h)⟩
 | cons t L=>
   obtain ⟨lo,hi,h1,h2,h3,h4,h5,h6⟩:=spanG_fold f L (f t) (f t)
   have e:(t::L).foldl (spanG f) (0,0,true)=(lo,hi,false):=h1
   simp only [e,Option.map_some]
   refine ⟨fun h=>(by cases h),fun _=>?_,fun _=>?_,?_,?_⟩
   ·rcases h2 with h2 | ⟨u,hu,h⟩
    ·exact ⟨t,List.mem_cons_self ..,h2.symm⟩
    ·exact ⟨u,List.mem_cons_of_mem _ hu,h⟩
   ·rcases h3 with h3 | ⟨u,hu,h⟩
    ·exact ⟨t,List.mem_cons_self ..,h3.symm⟩
    ·exact ⟨u,List.mem_cons_of_mem _ hu,h⟩
   ·intro u hu
    rcases List.mem_cons.1 hu with rfl | hu
    ·exact h4
    ·exact (h6 u hu).1
   ·intro u hu
    rcases List.mem_cons.1 hu with rfl | hu
    ·exact h5
    ·exact (h6 u hu).2
def coalAt (d:Nat) (t:Coal_truth):Int:=t.coal_.getD d 0
theorem getD_aset {l:List Int}{n k:Nat}{i x:Int} (hk:k < n):(aset l n i x).getD k 0=if k=i.toNat then x else l.getD k 0:=by
 simp [aset,List.getD_eq_getElem?_getD,hk]
theorem blown_step {q:Coal_book}{r:Nat}{t u:Coal_truth}{d c:Int} (h:u∈blown q (r+1) t d c):∃ (w:Nat) (cost:Int),w < 3∧lookL q.costs_ (Coal_gust.mk d (w:Int))=some cost∧rightB q d ((bif t.collier_==d then c+q.CoalBook.Brings else c) - eng q d t.eats_ - cost)=true∧
 u∈blown q r (Coal_truth.mk t.eats_ t.collier_ (aset t.winds_ 6 d (w:Int)) (aset t.coal_ 6 d ((bif t.collier_==d then c+q.CoalBook.Brings else c) - eng q d t.eats_ - cost))) (d+1) ((bif t.collier_==d then c+q.CoalBook.Brings else c) - eng q d t.eats_ - cost):=by
 rw [blown] at h
 obtain ⟨w,hw,h⟩:=List.mem_flatMap.1 h
 cases hl:lookL q.costs_ (Coal_gust.mk d (w:Int)) with
 | none=>rw [hl] at h; cases h
 | some cost=>
   rw [hl] at h
   have h:u∈(bif rightB q d ((bif t.collier_==d then c+q.CoalBook.Brings else c) - eng q d t.eats_ - cost) then _ else []):=h
   refine ⟨w,cost,by have:=List.mem_range'_1.1 hw; omega,hl,?_,?_⟩
   ·cases hr:rightB q d ((bif t.collier_==d then c+q.CoalBook.Brings else c) - eng q d t.eats_ - cost) with
    | true=>rfl
    | false=>rw [hr] at h; cases h
   ·cases hr:rightB q d ((bif t.collier_==d then c+q.CoalBook.Brings else c) - eng q d t.eats_ - cost) with
    | true=>rw [hr] at h; exact h
    | false=>rw [hr] at h; cases h
abbrev TT (b:CoalBook):List Coal_truth:=truths (opn b [])
theorem asked_eqC {b:CoalBook} (V:ValC b) (A:Arg b):coal_asked b true=some (opn b [],bif (TT b).isEmpty then 62 else 0):=by
 unfold coal_asked
 rw [check_eqC b A,val_iffC.2 V,Option.bind_some,opened_eqC V A [] (by simp),Option.bind_some]
 rw [show (Coal_book.mk (CoalBook.mk (opn b []).CoalBook.Heap (opn b []).CoalBook.Eats (opn b []).CoalBook.Extra b.Days (opn b []).CoalBook.Collier (opn b []).CoalBook.Brings (opn b []).CoalBook.Dips) (opn b []).costs_)=opn b [] from rfl]
 rw [isTrue_eq _ (opn_op V A []),Option.bind_some]
 cases (TT b).isEmpty <;> rfl
theorem right_law {b:CoalBook} (V:ValC b) (A:Arg b):coal_Right b=some (!(TT b).isEmpty,0):=by
 unfold coal_Right
 rw [check_eqC b A,val_iffC.2 V,Option.bind_some,opened_eqC V A [] (by simp),Option.bind_some]
 rw [show (Coal_book.mk (CoalBook.mk (opn b []).CoalBook.Heap (opn b []).CoalBook.Eats (opn b []).CoalBook.Extra b.Days (opn b []).CoalBook.Collier (opn b []).CoalBook.Brings (opn b []).CoalBook.Dips) (opn b []).costs_)=opn b [] from rfl]
 rw [isTrue_eq _ (opn_op V A []),Option.bind_some]
 rfl
theorem dayIn {b:CoalBook}{d:Nat} (hd:d < b.Days.length):inB (d:Int) 0 ((b.Days.length:Int) - 1)=true:=inB_iff.2 (by omega)
theorem coal_of {q:Coal_book} (Q:Op q) {d:Nat} (hd:d < q.CoalBook.Days.length):∃ s,coal_book_span q (Coal_number.mk fun y=>coal_coal_1 y (d:Int))=some s∧SpanOf (coalAt d) (truths q) s:=
 span_ex q Q _ (coalAt d) fun t ht=>by
  have:=Q.dn
  show coal_coal_1 t (d:Int)=_
  unfold coal_coal_1
  rw [need_of (by simp [inI]; omega)]
  rfl
theorem heap_law {b:CoalBook} (V:ValC b) (A:Arg b) {d:Nat} (hd:d < b.Days.length):∃ s,coal_Heap b d=some (s,bif (TT b).isEmpty then 62 else 0)∧SpanOf (coalAt d) (TT b) s:=by
 obtain ⟨s,hs,S⟩:=coal_of (opn_op V A []) (d:=d) hd
 refine ⟨s,?_,S⟩
 unfold coal_Heap coal_coal
 rw [isDay_eq b A,Option.bind_some,dayIn hd,asked_eqC V A,Option.bind_some]
 cases h:(TT b).isEmpty with
 | true=>
   have:=S.nil (List.isEmpty_iff.1 h)
   subst this
   rfl
 | false=>
   simp only [cond_false,bne_self_eq_false,Option.bind_some,hs]
theorem day_law {b:CoalBook} (V:ValC b) (A:Arg b):∃ r,coal_Day b=some r∧(TT b=[]→r=(0,62))∧(TT b≠[]→(∃ d:Nat,d < b.Days.length∧r=((d:Int),0)∧(∃ t∈TT b,coalAt d t < 0)∧∀ k,k < d→∀ t∈TT b,0≤coalAt k t)∨(r=(0,4)∧∀ k,k < b.Days.length→∀ t∈TT b,0≤coalAt k t)):=by
 unfold coal_Day
 have hdn:=V.dn
 rw [asked_eqC V A,Option.bind_some]
 cases h:(TT b).isEmpty with
 | true=>exact ⟨_,rfl,fun _=>rfl,fun h2=>(h2 (List.isEmpty_iff.1 h)).elim⟩
 | false=>
   have hne:TT b≠[]:=fun h2=>by rw [h2] at h; cases h
   simp only [cond_false,bne_self_eq_false]
   have key:∀ (e k m:Nat),k+e=b.Days.length→e < m→(∀ j,j < k→∀ t∈TT b,0≤coalAt j t)→∃ r,loopF (coal_Day_l1 b (opn b [],0)) m (k:Int)=some r∧((∃ d:Nat,d < b.Days.length∧r=((d:Int),0)∧(∃ t∈TT b,coalAt d t < 0)∧∀ k,k < d→∀ t∈TT b,0≤coalAt k t)∨(r=(0,4)∧∀ k,k < b.Days.length→∀ t∈TT b,0≤coalAt k t)):=by
    intro e
    induction e with
    | zero=>
      intro k m h1 h2 h3
      obtain ⟨m,rfl⟩:∃ q,m=q+1:=⟨m - 1,by omega⟩
      refine ⟨(0,4),?_,.inr ⟨rfl,fun j hj=>h3 j (by omega)⟩⟩
      show coal_Day_l1 b (opn b [],0) _ (k:Int)=_
      unfold coal_Day_l1
      rw [decide_eq_false (by omega),cond_false]
    | succ e ih=>
      intro k m h1 h2 h3
      obtain ⟨m,rfl⟩:∃ q,m=q+1:=⟨m - 1,by omega⟩
      have ih2:=ih (k+1) m (by omega) (by omega)
      show ∃ r,coal_Day_l1 b (opn b [],0) (loopF (coal_Day_l1 b (opn b [],0)) m) (k:Int)=some r∧_
      generalize loopF (coal_Day_l1 b (opn b [],0)) m=rec at ih2
      obtain ⟨s,hs,S⟩:=coal_of (opn_op V A []) (d:=k) (show k < b.Days.length by omega)
      unfold coal_Day_l1 coal_coal
      rw [decide_eq_true (by omega),cond_true]
      simp only [Option.bind_some,hs]
      by_cases hl:s.Low < 0
      ·refine ⟨((k:Int),0),by rw [decide_eq_true hl,cond_true],.inl ⟨k,by omega,rfl,?_,h3⟩⟩
       obtain ⟨t,ht,e⟩:=S.low hne
       exact ⟨t,ht,by omega⟩
      ·rw [decide_eq_false hl,cond_false,wrI (by omega) (by omega),show (k:Int)+1=((k+1:Nat):Int) by omega]
       refine ih2 fun j hj t ht=>?_
       by_cases hj2:j=k
       ·subst hj2; have:=S.le t ht; omega
       ·exact h3 j (by omega) t ht
   obtain ⟨r,hr,hr2⟩:=key b.Days.length 0 big (by omega) (by rw [big_eq]; omega) (fun j hj=>by omega)
   exact ⟨r,hr,fun h2=>(hne h2).elim,fun _=>hr2⟩
theorem modN (a:Int) {n:Nat} (h:0 < n) (h2:n≤1000):∃ r:Nat,B_Mod a n=some (r:Int)∧r < n:=by
 obtain ⟨r,h1,h3,h4⟩:=mod_ok a n (by omega) (by omega)
 exact ⟨r.toNat,by rw [h1,Int.toNat_of_nonneg h3],by omega⟩
theorem blown_keep {q:Coal_book}:∀ {r:Nat}{t u:Coal_truth}{d c:Int},u∈blown q r t d c→u.collier_=t.collier_∧u.eats_=t.eats_
 | 0,t,u,d,c,h=>by obtain rfl:=List.mem_singleton.1 h; exact ⟨rfl,rfl⟩
 | r+1,t,u,d,c,h=>by
   obtain ⟨w,cost,_,_,_,h⟩:=blown_step h
   have:=blown_keep h
   exact ⟨this.1,this.2⟩
def eatAt (e:Nat) (t:Coal_truth):Int:=t.eats_.getD e 0
theorem eats_law {b:CoalBook} (V:ValC b) (A:Arg b) {e:Nat} (he:e < 2):∃ s,coal_Eats b e=some (s,bif (TT b).isEmpty then 62 else 0)∧SpanOf (eatAt e) (TT b) s:=by
 obtain ⟨s,hs,S⟩:=span_ex _ (opn_op V A []) (Coal_number.mk fun y=>coal_eaten_1 y (e:Int)) (eatAt e) (fun t ht=>by
  show coal_eaten_1 t (e:Int)=_
  unfold coal_eaten_1
  rw [need_of (by simp [inI]; omega)]
  rfl)
 refine ⟨s,?_,S⟩
 unfold coal_Eats coal_eaten
 rw [within_eqC,Option.bind_some,inB_iff.2 (show 0≤(e:Int)∧(e:Int)≤1 by omega),asked_eqC V A,Option.bind_some]
 cases h:(TT b).isEmpty with
 | true=>
   have:=S.nil (List.isEmpty_iff.1 h)
   subst this
   rfl
 | false=>
   simp only [cond_false,bne_self_eq_false,Option.bind_some,hs]
def windAt (d:Nat) (t:Coal_truth):Nat:=(t.winds_.getD d 0).toNat
def dipUp (n:Int) (y:CoalDip):CoalDip:=CoalDip.mk y.Day (y.Read+n) y.Error
def hiB (b:CoalBook) (n:Int):CoalBook:=CoalBook.mk ⟨b.Heap.Low+n,b.Heap.High+n⟩ b.Eats b.Extra b.Days b.Collier b.Brings (b.Dips.map (dipUp n))
theorem keepD_map (f:CoalDip→CoalDip) (l:List CoalDip) (but:List Int):∀ k,keepD (l.map f) but k=(keepD l but k).map f
 | 0=>rfl
 | k+1=>by
   unfold keepD
   rw [keepD_map f l but k,List.getElem?_map]
   cases but.contains (k:Int) with
   | true=>rfl
   | false=>cases l[k]? <;> simp
def shT (n:Int) (m:Nat) (t:Coal_truth):Coal_truth:=Coal_truth.mk t.eats_ t.collier_ t.winds_ ((List.range 6).map fun k=>if k < m then t.coal_.getD k 0+n else t.coal_.getD k 0)
theorem blown_shift {q q' :Coal_book} (n:Int) (h1:q'.CoalBook.Days=q.CoalBook.Days) (h2:q'.CoalBook.Brings=q.CoalBook.Brings) (h3:q'.CoalBook.Dips=q.CoalBook.Dips.map (dipUp n)) (h4:q'.costs_=q.costs_):
 ∀ (r:Nat) (t:Coal_truth) (d:Nat) (c:Int),d+r≤6→blown q' r (shT n d t) d (c+n)=(blown q r t d c).map (shT n (d+r)):=by
 have he:eng q' =eng q:=by funext d e; unfold eng; rw [h1]
 have hr:∀ d x:Int,rightB q' d (x+n)=rightB q d x:=by
  intro d x
  unfold rightB
  rw [h3,List.all_map]
  congr 1
  funext y
  simp only [Function.comp,dipUp]
  rw [show x+n - (y.Read+n)=x - y.Read by omega]
 intro r
 induction r with
 | zero=>intro t d c hd; rfl
 | succ r ih=>
   intro t d c hd
   rw [blown,blown,List.map_flatMap]
   congr 1
   funext w
   rw [h4,he,h2]
   cases lookL q.costs_ (Coal_gust.mk d (w:Int)) with
   | none=>rfl
   | some cost=>
     have hz:(bif (shT n d t).collier_==(d:Int) then c+n+q.CoalBook.Brings else c+n) - eng q d (shT n d t).eats_ - cost=(bif t.collier_==(d:Int) then c+q.CoalBook.Brings else c) - eng q d t.eats_ - cost+n:=by
      show (bif t.collier_==(d:Int) then c+n+q.CoalBook.Brings else c+n) - eng q d t.eats_ - cost=_
      cases (t.collier_==(d:Int)) <;> simp only [cond_true,cond_false] <;> omega
     simp only [blown.optL]
     rw [hz]
     generalize (bif t.collier_==(d:Int) then c+q.CoalBook.Brings else c) - eng q d t.eats_ - cost=x
     rw [hr]
     cases rightB q d x with
     | false=>rfl
     | true=>
       simp only [cond_true]
       have:=ih (Coal_truth.mk t.eats_ t.collier_ (aset t.winds_ 6 d (w:Int)) (aset t.coal_ 6 d x)) (d+1) x (by omega)
       rw [show ((d+1:Nat):Int)=(d:Int)+1 by omega] at this
       rw [show d+(r+1)=d+1+r by omega,← this]
       congr 1
       unfold shT
       simp only
       congr 1
       unfold aset
       refine List.map_congr_left fun k hk=>?_
       have hk:=List.mem_range.1 hk
       simp only [List.getD_eq_getElem?_getD,List.getElem?_map,List.getElem?_range hk,Option.map_some,Option.getD_some,Int.toNat_natCast]
       by_cases h5:k=d
       ·subst h5; simp
       ·rw [if_neg h5,if_neg h5]
        by_cases h6:k < d
        ·rw [if_pos h6,if_pos (by omega)]
        ·rw [if_neg h6,if_neg (by omega)]
theorem rng_shift (s:Span) (n:Int):rng ⟨s.Low+n,s.High+n⟩=(rng s).map (·+n):=by
 unfold rng
 simp only [List.map_map]
 rw [show s.High+n - (s.Low+n)+1=s.High - s.Low+1 by omega]
 refine List.map_congr_left fun k _=>?_
 show s.Low+n+(k:Int)=s.Low+k+n
 omega
theorem truths_shift {b:CoalBook} (hd:b.Days.length≤6) (n:Int) (but:List Int):truths (opn (hiB b n) but)=(truths (opn b but)).map (shT n b.Days.length):=by
 unfold truths
 show (rng ⟨b.Heap.Low+n,b.Heap.High+n⟩).flatMap _=_
 rw [rng_shift,List.flatMap_map,List.map_flatMap]
 congr 1; funext h
 rw [List.map_flatMap]; congr 1; funext o
 rw [List.map_flatMap]; congr 1; funext p
 rw [List.map_flatMap]; congr 1; funext c
 have:=blown_shift (q:=opn b but) (q' :=opn (hiB b n) but) n rfl rfl (by
  show keepD (b.Dips.map (dipUp n)) but (b.Dips.map (dipUp n)).length=(keepD b.Dips but b.Dips.length).map (dipUp n)
  rw [List.length_map,keepD_map]) rfl b.Days.length (init o p c) 0 h (by omega)
 rw [Nat.zero_add,show ((0:Nat):Int)=0 from rfl] at this
 rw [show (opn b but).CoalBook.Days.length=b.Days.length from rfl,← this]
 rfl
theorem coal_shift {n:Int}{m k:Nat}{t:Coal_truth} (hk:k < m) (hm:m≤6):coalAt k (shT n m t)=coalAt k t+n:=by
 unfold coalAt shT
 simp only [List.getD_eq_getElem?_getD,List.getElem?_map,List.getElem?_range (show k < 6 by omega),Option.map_some,Option.getD_some]
 rw [if_pos hk]
theorem blown_mk {q:Coal_book}{r w:Nat}{t u:Coal_truth}{d c cost:Int} (hw:w < 3) (hl:lookL q.costs_ (Coal_gust.mk d (w:Int))=some cost) (hr:rightB q d ((bif t.collier_==d then c+q.CoalBook.Brings else c) - eng q d t.eats_ - cost)=true)
 (hu:u∈blown q r (Coal_truth.mk t.eats_ t.collier_ (aset t.winds_ 6 d (w:Int)) (aset t.coal_ 6 d ((bif t.collier_==d then c+q.CoalBook.Brings else c) - eng q d t.eats_ - cost))) (d+1) ((bif t.collier_==d then c+q.CoalBook.Brings else c) - eng q d t.eats_ - cost)):u∈blown q (r+1) t d c:=by
 rw [blown]
 refine List.mem_flatMap.2 ⟨w,List.mem_range'_1.2 (by omega),?_⟩
 rw [hl]
 simp only [blown.optL]
 rw [hr,cond_true]
 exact hu
def CanOC (b:CoalBook) (l:List Int):Prop:=truths (opn b l)≠[]
theorem can_o {b:CoalBook} (V:ValC b) (A:Arg b) {l:List Int} (hl:l.length≤1000):∃ r,(coal_opened b l).bind (fun r16=>(coal_book_isTrue (Coal_book.mk (CoalBook.mk r16.CoalBook.Heap r16.CoalBook.Eats r16.CoalBook.Extra b.Days r16.CoalBook.Collier r16.CoalBook.Brings r16.CoalBook.Dips) r16.costs_)).bind fun r28=>some (l,r28))=some (l,r)∧(r=true↔CanOC b l):=by
 refine ⟨!(truths (opn b l)).isEmpty,?_,?_⟩
 ·rw [opened_eqC V A l hl,Option.bind_some]
  rw [show (Coal_book.mk (CoalBook.mk (opn b l).CoalBook.Heap (opn b l).CoalBook.Eats (opn b l).CoalBook.Extra b.Days (opn b l).CoalBook.Collier (opn b l).CoalBook.Brings (opn b l).CoalBook.Dips) (opn b l).costs_)=opn b l from rfl]
  rw [isTrue_eq _ (opn_op V A l),Option.bind_some]
 ·unfold CanOC
  cases truths (opn b l) <;> simp
def TryOkC (b:CoalBook) (l:List Int) (many:Nat) (r:List Int×Bool):Prop:=
 (r.2=true∧Ext b.Dips.length l many r.1∧CanOC b r.1∧∀ o,Ext b.Dips.length l many o→CanOC b o→¬LexLt o r.1)∨
 (r.2=false∧∀ o,Ext b.Dips.length l many o→¬CanOC b o)
theorem try_loopC {b:CoalBook} (V:ValC b) {l:List Int}{many:Nat} (hm:many≤b.Dips.length) (hl:l.length < many) (hc:Clm l b.Dips.length) {rec_:List Int→Int→Option (List Int×Bool)}
 (hrec:∀ v:Int,Clm (l++[v]) b.Dips.length→∃ r,rec_ (l++[v]) many=some r∧TryOkC b (l++[v]) many r) {s:Int} (s0:0≤s) (sn:s≤b.Dips.length) (s1:∀ y,l.getLast? =some y→y < s)
 (s2:∀ o,Ext b.Dips.length l many o→∀ x,o[l.length]? =some x→s≤x):∃ r,coal_Wrong_1_j4 b l rec_ many s=some r∧TryOkC b l many r:=by
 have l8:=V.pn
 unfold coal_Wrong_1_j4
 have at_:∀ o,Ext b.Dips.length l many o→∃ x,o[l.length]? =some x:=fun o ho=>⟨_,List.getElem?_eq_getElem (by rw [ho.len]; exact hl)⟩
 refine loopF_inv (body:=coal_Wrong_1_l3 b l rec_ many) (fun z:Int=>s≤z∧z≤b.Dips.length∧∀ o,Ext b.Dips.length l many o→CanOC b o→∀ x,o[l.length]? =some x→z≤x) (fun z=>b.Dips.length - z.toNat) (fun r=>TryOkC b l many r) ?_ big s ⟨Int.le_refl _,sn,fun o ho _=>s2 o ho⟩ (by unfold big; simp; omega)
 rintro rec z ⟨h1,h2,h3⟩ ih
 unfold coal_Wrong_1_l3
 by_cases hz:z < b.Dips.length
 case neg=>
  rw [decide_eq_false hz,cond_false]
  refine ⟨_,rfl,.inr ⟨rfl,fun o ho hco=>?_⟩⟩
  obtain ⟨x,hx⟩:=at_ o ho
  have:=h3 o ho hco x hx
  have:=(ho.clm _ x hx).2.1
  omega
 rw [decide_eq_true hz,cond_true,need_of (by simp [fitsL]; omega)]
 have hC:Clm (l++[z]) b.Dips.length:=hc.snoc (by omega) hz (fun y hy=>by have:=s1 y hy; omega)
 obtain ⟨⟨out,c⟩,hr,hT⟩:=hrec z hC
 rw [hr,Option.bind_some]
 simp only
 rcases hT with ⟨e,hE,hO,hmin⟩ | ⟨e,hno⟩
 ·simp only at e; subst e
  rw [cond_true]
  refine ⟨_,rfl,.inl ⟨rfl,hE.less.1,hO,fun o ho hco=>?_⟩⟩
  obtain ⟨x,hx⟩:=at_ o ho
  have hzx:=h3 o ho hco x hx
  by_cases hxz:x=z
  ·subst hxz; exact hmin o (ho.more hx) hco
  ·rintro ⟨i,x',y',g1,g2,g3,g4⟩
   simp only at g2 g4
   have hoz:=hE.less.2
   simp only at hoz
   by_cases hi:i < l.length
   ·have hli:=List.getElem?_eq_getElem hi
    have a1:=ho.pre i _ hli
    have a2:=hE.less.1.pre i _ hli
    simp only at a2
    rw [g1] at a1; rw [g2] at a2
    have:=Option.some.inj a1; have:=Option.some.inj a2
    omega
   ·by_cases hil:i=l.length
    ·subst hil
     rw [hx] at g1; rw [hoz] at g2
     have:=Option.some.inj g1; have:=Option.some.inj g2
     omega
    ·have:=g4 l.length (by omega)
     rw [hx,hoz] at this
     exact hxz (Option.some.inj this)
 ·simp only at e; subst e
  rw [cond_false,wrI (by omega) (by omega)]
  refine ih _ ⟨by omega,by omega,fun o ho hco x hx=>?_⟩ (by (try simp only); omega)
  have:=h3 o ho hco x hx
  by_cases hxz:x=z
  ·subst hxz; exact absurd hco (hno o (ho.more hx))
  ·omega
theorem try_eqC {b:CoalBook} (V:ValC b) (A:Arg b) {many:Nat} (hm:many≤b.Dips.length):∀ (d fuel:Nat) (l:List Int),Clm l b.Dips.length→l.length+d=many→d < fuel→∃ r,coal_Wrong_1 fuel l many b=some r∧TryOkC b l many r:=by
 have l8:=V.pn
 intro d
 induction d with
 | zero=>
   intro fuel l hc hl hf
   obtain ⟨f,rfl⟩:∃ f,fuel=f+1:=⟨fuel - 1,by omega⟩
   unfold coal_Wrong_1 coal_Wrong_1_F
   rw [show ((l.length:Int)==(many:Int))=true by simp; omega,cond_true]
   obtain ⟨r,hr,hi⟩:=can_o V A (l:=l) (by omega)
   rw [hr]
   have eq:∀ o,Ext b.Dips.length l many o→o=l:=fun o ho=>by
    refine (List.ext_getElem? fun i=>?_).symm
    by_cases hi:i < l.length
    ·rw [List.getElem?_eq_getElem hi,ho.pre i _ (List.getElem?_eq_getElem hi)]
    ·rw [List.getElem?_eq_none (by omega),List.getElem?_eq_none (by rw [ho.len]; omega)]
   refine ⟨_,rfl,?_⟩
   cases r with
   | true=>
     refine .inl ⟨rfl,⟨by simp only; omega,hc,fun i x h=>h⟩,hi.1 rfl,fun o ho _=>?_⟩
     rw [eq o ho]
     rintro ⟨i,x,y,h1,h2,h3,_⟩
     simp only at h2
     rw [h1] at h2
     have:=Option.some.inj h2
     omega
   | false=>
     refine .inr ⟨rfl,fun o ho=>?_⟩
     rw [eq o ho]
     exact fun h=>by simpa using hi.2 h
 | succ d ih=>
   intro fuel l hc hl hf
   obtain ⟨f,rfl⟩:∃ f,fuel=f+1:=⟨fuel - 1,by omega⟩
   unfold coal_Wrong_1 coal_Wrong_1_F
   rw [show ((l.length:Int)==(many:Int))=false by simp; omega,cond_false]
   have hrec:∀ v:Int,Clm (l++[v]) b.Dips.length→∃ r,coal_Wrong_1 f (l++[v]) many b=some r∧TryOkC b (l++[v]) many r:=fun v hv=>ih f (l++[v]) hv (by (try simp); omega) (by omega)
   by_cases h0:0 < l.length
   ·rw [decide_eq_true (show (l.length:Int) > 0 by omega),cond_true,wrI (x:=(l.length:Int) - 1) (by omega) (by omega),show (l.length:Int) - 1=((l.length - 1:Nat):Int) by omega,getI_nat]
    have hlt:l.length - 1 < l.length:=by omega
    have hx:=List.getElem?_eq_getElem hlt
    generalize l[l.length - 1]=v at hx
    obtain ⟨v0,v1,_⟩:=hc _ _ hx
    rw [hx,Option.bind_some,wrI (x:=v+1) (by omega) (by omega)]
    refine try_loopC V hm (by omega) hc hrec (by omega) (by omega) (fun y hy=>?_) (fun o ho x hox=>?_)
    ·rw [List.getLast?_eq_getElem?,hx] at hy
     have:=Option.some.inj hy; omega
    ·have:=(ho.clm _ x hox).2.2 v h0 (ho.pre _ _ hx)
     omega
   ·rw [decide_eq_false (show ¬(l.length:Int) > 0 by omega),cond_false]
    have hn:l=[]:=List.eq_nil_of_length_eq_zero (by omega)
    refine try_loopC V hm (by omega) hc hrec (Int.le_refl _) (by omega) (fun y hy=>?_) (fun o ho x hox=>(ho.clm _ x hox).1)
    rw [hn] at hy; cases hy
structure FewC (b:CoalBook) (w:List Int):Prop where
 clm:Clm w b.Dips.length
 can:CanOC b w
 len:∀ o,Clm o b.Dips.length→CanOC b o→w.length≤o.length
 lex:∀ o,Clm o b.Dips.length→CanOC b o→o.length=w.length→¬LexLt o w
theorem wrong_eqC {b:CoalBook} (V:ValC b) (A:Arg b) (hall:CanOC b (allL b.Dips.length)):∃ w,coal_Wrong b=some (w,0)∧FewC b w:=by
 have l8:=V.pn
 unfold coal_Wrong
 rw [check_eqC b A,val_iffC.2 V,Option.bind_some]
 simp only [cond_true,bne_self_eq_false,cond_false]
 refine Exists.elim (loopF_inv (body:=coal_Wrong_l2 b) (fun z:Int=>∃ k:Nat,z=k∧k≤b.Dips.length+1∧∀ o,Clm o b.Dips.length→CanOC b o→k≤o.length) (fun z=>b.Dips.length+1 - z.toNat) (fun r=>∃ w,r=(w,0)∧FewC b w) ?_ big 0 ⟨0,rfl,by omega,fun _ _ _=>Nat.zero_le _⟩ (by unfold big; simp; omega)) fun r ⟨h1,w,h2,h3⟩=>⟨w,by rw [h1,h2],h3⟩
 rintro rec z ⟨k,rfl,hk,hmin⟩ ih
 unfold coal_Wrong_l2
 rw [wrI (x:=(b.Dips.length:Int)+1) (by omega) (by omega)]
 by_cases hlt:k < b.Dips.length+1
 ·rw [decide_eq_true (by omega),cond_true]
  obtain ⟨⟨out,c⟩,hr,hT⟩:=try_eqC V A (many:=k) (by omega) k big [] Clm.nil (by simp) (by unfold big; omega)
  rw [hr,Option.bind_some]
  simp only
  have ext:∀ o,Clm o b.Dips.length→o.length=k→Ext b.Dips.length [] k o:=fun o ho hl=>⟨hl,ho,fun i x h=>by simp at h⟩
  rcases hT with ⟨e,hE,hO,hm⟩ | ⟨e,hno⟩
  ·simp only at e; subst e
   rw [cond_true]
   refine ⟨_,rfl,out,rfl,hE.clm,hO,fun o h1 h2=>by rw [hE.len]; exact hmin o h1 h2,fun o h1 h2 h3=>hm o (ext o h1 (h3.trans hE.len)) h2⟩
  ·simp only at e; subst e
   rw [cond_false,wrI (by omega) (by omega)]
   refine ih _ ⟨k+1,by simp,by omega,fun o h1 h2=>?_⟩ (by (try simp only); omega)
   have:=hmin o h1 h2
   by_cases hok:o.length=k
   ·exact absurd h2 (hno o (ext o h1 hok))
   ·omega
 ·have:=hmin _ (allL_clm _) hall
  unfold allL at this
  simp at this
  omega
def HasC (m:List (Coal_gust×Int)) (g:Coal_gust):Prop:=∃ p∈m,p.1=g
theorem has_look {m:List (Coal_gust×Int)}{g:Coal_gust} (h:HasC m g):∃ v,lookL m g=some v:=by
 obtain ⟨p,hp,rfl⟩:=h
 unfold lookL
 cases hf:m.find? (·.1==p.1) with
 | some x=>exact ⟨x.2,rfl⟩
 | none=>
   have:=List.find?_eq_none.1 hf p hp
   simp at this
theorem has_put {m:List (Coal_gust×Int)}{g g' :Coal_gust}{v:Int} (h:HasC m g'):HasC (putL m g v) g' :=by
 obtain ⟨p,hp,rfl⟩:=h
 unfold putL
 split
 ·rename_i i hi
  obtain ⟨j,hj,rfl⟩:=List.getElem_of_mem hp
  obtain ⟨hi1,hi2,_⟩:=List.findIdx?_eq_some_iff_getElem.1 hi
  by_cases hij:i=j
  ·subst hij
   refine ⟨(g,v),List.mem_set (by simpa using hi1) _,?_⟩
   have:=hi2
   simp at this
   exact this.symm
  ·refine ⟨m[j],?_,rfl⟩
   have h2:j < (m.set i (g,v)).length:=by simpa using hj
   have:=List.getElem_mem h2
   rwa [List.getElem_set_ne hij] at this
 ·exact ⟨p,List.mem_append_left _ hp,rfl⟩
theorem put_has {m:List (Coal_gust×Int)}{g:Coal_gust}{v:Int}:HasC (putL m g v) g:=by
 unfold putL
 split
 ·rename_i i hi
  obtain ⟨hi1,hi2,_⟩:=List.findIdx?_eq_some_iff_getElem.1 hi
  exact ⟨(g,v),List.mem_set (by simpa using hi1) _,rfl⟩
 ·exact ⟨(g,v),List.mem_append_right _ (List.mem_singleton.2 rfl),rfl⟩
theorem costW_keep {x:CoalDay}{ex:List Int}{d:Int}{m:List (Coal_gust×Int)}{g:Coal_gust} (h:HasC m g):∀ k,HasC (costW x ex d m k) g
 | 0=>h
 | k+1=>by
   unfold costW
   cases (andI (shrI x.Winds (k:Int)) 1)==1 with
   | false=>exact costW_keep h k
   | true=>exact has_put (costW_keep h k)
theorem costW_has {x:CoalDay}{ex:List Int}{d:Int}{m:List (Coal_gust×Int)}{j:Nat} (hb:((andI (shrI x.Winds (j:Int)) 1)==1)=true):∀ k,j < k→HasC (costW x ex d m k) (Coal_gust.mk d (j:Int))
 | 0,h=>by omega
 | k+1,h=>by
   unfold costW
   by_cases hjk:j=k
   ·subst hjk; rw [hb]; exact put_has
   ·have:=costW_has (x:=x) (ex:=ex) (d:=d) (m:=m) hb k (by omega)
    cases (andI (shrI x.Winds (k:Int)) 1)==1 with
    | false=>exact this
    | true=>exact has_put this
theorem costD_has {ds:List CoalDay}{ex:List Int}{d j:Nat}{x:CoalDay} (hx:ds[d]? =some x) (hj:j < 3) (hb:((andI (shrI x.Winds (j:Int)) 1)==1)=true):∀ k,d < k→HasC (costD ds ex k) (Coal_gust.mk (d:Int) (j:Int))
 | 0,h=>by omega
 | k+1,h=>by
   unfold costD
   by_cases hdk:d=k
   ·subst hdk; rw [hx]; exact costW_has hb 3 hj
   ·have:=costD_has (ex:=ex) hx hj hb k (by omega)
    cases ds[k]? with
    | none=>exact this
    | some y=>exact costW_keep this 3
theorem wind_some:∀ w:Fin 8,1≤w.val→∃ j:Fin 3,((andI (shrI (w.val:Int) (j.val:Int)) 1)==1)=true:=by decide +kernel
theorem blown_ne {b:CoalBook} (V:ValC b) {but:List Int} (hk:keepD b.Dips but b.Dips.length=[]):∀ (r:Nat) (t:Coal_truth) (d:Nat) (c:Int),d+r=b.Days.length→blown (opn b but) r t d c≠[]:=by
 intro r
 induction r with
 | zero=>intro t d c _ h; cases h
 | succ r ih=>
   intro t d c hd
   have hdl:d < b.Days.length:=by omega
   obtain ⟨_,_,w1,w2⟩:=dayB_iff (V.da _ (List.getElem_mem hdl))
   obtain ⟨j,hj⟩:=wind_some ⟨b.Days[d].Winds.toNat,by omega⟩ (by simp only; omega)
   simp only [show ((b.Days[d].Winds.toNat:Nat):Int)=b.Days[d].Winds by omega] at hj
   obtain ⟨v,hv⟩:=has_look (costD_has (ex:=b.Extra) (List.getElem?_eq_getElem hdl) j.isLt hj b.Days.length hdl)
   have hr:∀ x,rightB (opn b but) d x=true:=fun x=>by
    unfold rightB
    rw [show (opn b but).CoalBook.Dips=[] from hk]; rfl
   rw [blown]
   intro h
   have:=List.flatMap_eq_nil_iff.1 h j.val (List.mem_range'_1.2 (by have:=j.isLt; omega))
   rw [show (opn b but).costs_=costD b.Days b.Extra b.Days.length from rfl,hv] at this
   simp only [blown.optL,hr,cond_true] at this
   have e:=ih (Coal_truth.mk t.eats_ t.collier_ (aset t.winds_ 6 d (j.val:Int)) (aset t.coal_ 6 d ((bif t.collier_==(d:Int) then c+(opn b but).CoalBook.Brings else c) - eng (opn b but) d t.eats_ - v))) (d+1) ((bif t.collier_==(d:Int) then c+(opn b but).CoalBook.Brings else c) - eng (opn b but) d t.eats_ - v) (by omega)
   rw [show ((d+1:Nat):Int)=(d:Int)+1 by omega] at e
   exact e this
theorem truths_ne {b:CoalBook} (V:ValC b) (A:Arg b) {but:List Int} (hk:keepD b.Dips but b.Dips.length=[]):truths (opn b but)≠[]:=by
 have Q:=opn_op V A but
 have e0:=(Q.ea _ (agetS_mem (i:=0) (by rw [Q.el]; decide))).1
 have e1:=(Q.ea _ (agetS_mem (i:=1) (by rw [Q.el]; decide))).1
 have:=blown_ne V hk b.Days.length (init (agetS (opn b but).CoalBook.Eats (0:Int)).Low (agetS (opn b but).CoalBook.Eats (1:Int)).Low b.Collier.Low) 0 b.Heap.Low (by omega)
 obtain ⟨t,ht⟩:=List.exists_mem_of_ne_nil _ this
 refine List.ne_nil_of_mem (truth_mem.2 ⟨b.Heap.Low,rng_mem.2 ⟨Int.le_refl _,Q.hp.lh⟩,_,rng_mem.2 ⟨Int.le_refl _,e0.lh⟩,_,rng_mem.2 ⟨Int.le_refl _,e1.lh⟩,b.Collier.Low,rng_mem.2 ⟨Int.le_refl _,Q.co.lh⟩,ht⟩)
theorem keepD_none {l:List CoalDip}{but:List Int}:∀ k,(∀ j:Nat,j < k→(j:Int)∈but)→keepD l but k=[]
 | 0,_=>rfl
 | k+1,h=>by
   unfold keepD
   rw [show but.contains (k:Int)=true by simpa using h k (by omega),cond_true]
   exact keepD_none k fun j hj=>h j (by omega)
theorem hall {b:CoalBook} (V:ValC b) (A:Arg b):CanOC b (allL b.Dips.length):=by
 refine truths_ne V A (keepD_none _ fun j hj=>?_)
 exact List.mem_map.2 ⟨j,List.mem_range.2 hj,rfl⟩
theorem wrong_law {b:CoalBook} (V:ValC b) (A:Arg b):∃ w,coal_Wrong b=some (w,0)∧FewC b w:=wrong_eqC V A (hall V A)
theorem lex_same {o w:List Int} (hl:o.length=w.length) (h1:¬LexLt o w) (h2:¬LexLt w o):o=w:=by
 have key:∀ j:Nat,(∀ i,i < j→o[i]? =w[i]?)→o[j]? =w[j]? :=by
  intro j hj
  by_cases h:j < o.length
  ·have e1:=List.getElem?_eq_getElem h
   have e2:=List.getElem?_eq_getElem (show j < w.length by omega)
   by_cases hx:o[j] < w[j]
   ·exact absurd ⟨j,_,_,e1,e2,hx,hj⟩ h1
   ·by_cases hy:w[j] < o[j]
    ·exact absurd ⟨j,_,_,e2,e1,hy,fun i hi=>(hj i hi).symm⟩ h2
    ·rw [e1,e2]; congr 1; omega
  ·rw [List.getElem?_eq_none (by omega),List.getElem?_eq_none (by omega)]
 have all:∀ n j:Nat,j < n→o[j]? =w[j]? :=by
  intro n
  induction n with
  | zero=>intro j h; omega
  | succ n ih=>
    intro j h
    by_cases hj:j < n
    ·exact ih j hj
    ·obtain rfl:j=n:=by omega
     exact key j fun i hi=>ih i hi
 exact List.ext_getElem? fun j=>all (j+1) j (by omega)
def bitB (x:CoalDay) (j:Nat):Bool:=(andI (shrI x.Winds (j:Int)) 1)==1
def Ent (ds:List CoalDay) (ex:List Int) (p:Coal_gust×Int):Prop:=∃ (k j:Nat) (x:CoalDay),p.1=Coal_gust.mk (k:Int) (j:Int)∧ds[k]? =some x∧bitB x j=true∧j < 3∧p.2=wr (x.Crosses*aget ex (j:Int))
theorem costW_ent {ds:List CoalDay}{ex:List Int}{d:Nat}{x:CoalDay}{m:List (Coal_gust×Int)} (hx:ds[d]? =some x) (hm:∀ p∈m,Ent ds ex p):∀ k,k≤3→∀ p∈costW x ex (d:Int) m k,Ent ds ex p
 | 0,_=>hm
 | k+1,hk=>by
   intro p hp
   unfold costW at hp
   cases hc:(andI (shrI x.Winds (k:Int)) 1)==1 with
   | false=>rw [hc,cond_false] at hp; exact costW_ent hx hm k (by omega) p hp
   | true=>
     rw [hc,cond_true] at hp
     rcases putL_mem hp with rfl | hp
     ·exact ⟨d,k,x,rfl,hx,hc,by omega,rfl⟩
     ·exact costW_ent hx hm k (by omega) p hp
theorem costD_ent {ds:List CoalDay}{ex:List Int}:∀ k,∀ p∈costD ds ex k,Ent ds ex p
 | 0=>fun p h=>by cases h
 | k+1=>by
   unfold costD
   cases hk:ds[k]? with
   | none=>exact costD_ent k
   | some x=>exact costW_ent hk (costD_ent k) 3 (by omega)
theorem look_val {ds:List CoalDay}{ex:List Int}{n d j:Nat}{c:Int} (h:lookL (costD ds ex n) (Coal_gust.mk (d:Int) (j:Int))=some c):∃ x,ds[d]? =some x∧bitB x j=true∧j < 3∧c=wr (x.Crosses*aget ex (j:Int)):=by
 unfold lookL at h
 obtain ⟨p,hp,rfl⟩:=Option.map_eq_some_iff.1 h
 have hk:=List.find?_some hp
 have hk:p.1=Coal_gust.mk (d:Int) (j:Int):=by simpa using hk
 obtain ⟨k,i,x,h1,h2,h3,h4,h5⟩:=costD_ent n p (List.mem_of_find?_eq_some hp)
 rw [h1] at hk
 have h6:=congrArg Coal_gust.day_ hk
 have h7:=congrArg Coal_gust.wind_ hk
 simp only at h6 h7
 obtain rfl:k=d:=by omega
 obtain rfl:i=j:=by omega
 exact ⟨x,h2,h3,h4,h5⟩
theorem val_look {ds:List CoalDay}{ex:List Int}{n d j:Nat}{x:CoalDay} (hx:ds[d]? =some x) (hb:bitB x j=true) (hj:j < 3) (hd:d < n):lookL (costD ds ex n) (Coal_gust.mk (d:Int) (j:Int))=some (wr (x.Crosses*aget ex (j:Int))):=by
 obtain ⟨v,hv⟩:=has_look (costD_has (ex:=ex) hx hj hb n hd)
 obtain ⟨y,h1,_,_,h4⟩:=look_val hv
 rw [hx] at h1
 obtain rfl:=Option.some.inj h1
 rw [hv,h4]
theorem blown_low {q:Coal_book}:∀ (r:Nat) (t u:Coal_truth) (d:Nat) (c:Int),d+r≤6→u∈blown q r t d c→∀ k,k < d→coalAt k u=coalAt k t∧windAt k u=windAt k t:=by
 intro r
 induction r with
 | zero=>
   intro t u d c _ h k _
   obtain rfl:=List.mem_singleton.1 h
   exact ⟨rfl,rfl⟩
 | succ r ih=>
   intro t u d c hd h k hk
   obtain ⟨w,cost,hw,hl,hr,hu⟩:=blown_step h
   rw [show (d:Int)+1=((d+1:Nat):Int) by omega] at hu
   obtain ⟨h1,h2⟩:=ih _ u (d+1) _ (by omega) hu k (by omega)
   rw [h1,h2]
   unfold coalAt windAt
   simp only
   rw [getD_aset (by omega),getD_aset (by omega),if_neg (by omega),if_neg (by omega)]
   exact ⟨rfl,rfl⟩
theorem blown_at {q:Coal_book}{r w:Nat}{t u:Coal_truth}{d:Nat}{c x:Int} (hd:d+r+1≤6) (h:u∈blown q r (Coal_truth.mk t.eats_ t.collier_ (aset t.winds_ 6 d (w:Int)) (aset t.coal_ 6 d x)) ((d:Int)+1) c):coalAt d u=x∧windAt d u=w:=by
 rw [show (d:Int)+1=((d+1:Nat):Int) by omega] at h
 obtain ⟨h1,h2⟩:=blown_low r _ u (d+1) c (by omega) h d (by omega)
 rw [h1,h2]
 unfold coalAt windAt
 simp only
 rw [getD_aset (by omega),getD_aset (by omega),if_pos (by omega),if_pos (by omega)]
 exact ⟨rfl,by omega⟩
theorem truth_eats {q:Coal_book}{u:Coal_truth} (h:u∈truths q):eatAt 0 u∈rng (agetS q.CoalBook.Eats (0:Int))∧eatAt 1 u∈rng (agetS q.CoalBook.Eats (1:Int)):=by
 obtain ⟨hp,h1,o,h2,p,h3,c,h4,h⟩:=truth_mem.1 h
 have e:=(blown_keep h).2
 unfold eatAt
 rw [e]
 exact ⟨h2,h3⟩
end Go.Proofs.YtblfippmobpaaaaDoor
namespace Go.Proofs.YtblfippmobpaaaaDoor
open Go Go.Fx
structure ArgK (b:ChainBook):Prop where
 sl:b.Sections.length≤9223372036854775807
 tl:b.Turns.length≤9223372036854775807
 ul:b.Surveys.length≤9223372036854775807
theorem within_k (a b c:Int):chain_within a b c=some (inB a b c):=by
 unfold chain_within inB
 cases decide (b≤a) <;> rfl
theorem isSpan_k (s:Span) (hi wide:Int) (hh:hi≤9223372036854775807):chain_isSpan s hi wide=some (spB s hi wide):=by
 unfold chain_isSpan spB
 by_cases h1:0≤s.Low <;> by_cases h2:s.Low≤s.High <;> by_cases h3:s.High≤hi <;> simp only [h1,h2,h3,decide_true,decide_false,cond_true,cond_false,Bool.true_and,Bool.false_and,Bool.and_false]
 rw [wrI (by omega) (by omega)]
theorem isSection_k (b:ChainBook) (A:ArgK b) (n:Int):chain_isSection b n=some (inB n 0 ((b.Sections.length:Int) - 1)):=by
 unfold chain_isSection
 have:=A.sl
 rw [wrI (by omega) (by omega),within_k]; rfl
theorem isDay_k (b:ChainBook) (n:Int):chain_isDay b n=some (inB n 0 b.Days):=by
 unfold chain_isDay
 rw [within_k]; rfl
def surB (n:Nat) (days:Int) (x:ChainSurvey):Bool:=inB x.Section 0 ((n:Int) - 1)&&inB x.Day 0 days&&inB x.Read 0 200&&inB x.Error 0 5
theorem isSurvey_k (b:ChainBook) (A:ArgK b) (x:ChainSurvey):chain_isSurvey b x=some (surB b.Sections.length b.Days x):=by
 unfold chain_isSurvey surB
 simp only [isSection_k b A,isDay_k,within_k,Option.bind_some]
 cases inB x.Section 0 ((b.Sections.length:Int) - 1) <;> cases inB x.Day 0 b.Days <;> cases inB x.Read 0 200 <;> cases inB x.Error 0 5 <;> rfl
def secB (x:ChainSection):Bool:=spB x.Thick 200 3&&spB x.Wear 3 2
def mostK (l:List ChainSection):Int:=l.foldl (fun m x=>if x.Wear.High > m then x.Wear.High else m) 0
def turnsB (days:Int):Int→List Int→Bool
 | _,[]=>true
 | last,d::l=>inB d (last+1) days&&turnsB days d l
def valK (b:ChainBook):Bool:=inB b.Sections.length 1 4&&inB b.Days 1 30&&inB b.Rule 0 200&&decide ((b.Turns.length:Int)≤4)&&decide ((b.Surveys.length:Int)≤8)&&
 b.Sections.all secB&&b.Sections.all (fun x=>decide (mostK b.Sections*b.Days≤x.Thick.Low))&&turnsB b.Days 0 b.Turns&&b.Surveys.all (surB b.Sections.length b.Days)
theorem check_l11 (b:ChainBook) (A:ArgK b) (ok:Bool):loopF (chain_Check_l11 b) big (ok,0)=some (bif ok&&b.Surveys.all (surB b.Sections.length b.Days) then 0 else 10):=by
 have h:=A.ul
 refine loop_fold0 (fun k=>(allTo (surB b.Sections.length b.Days) b.Surveys ok k,(k:Int))) b.Surveys.length (fun rec k hk=>?_) (fun rec=>?_) (by rw [big_eq]; omega) (by rw [allTo_zero]; rfl)
 ·unfold chain_Check_l11
  simp only
  rw [decide_eq_true (by omega),cond_true,getI_ix hk,Option.bind_some,wrN hk h,allTo_succ hk]
  cases allTo (surB b.Sections.length b.Days) b.Surveys ok k with
  | true=>rw [cond_true,isSurvey_k b A]; rfl
  | false=>rw [cond_false]; rfl
 ·unfold chain_Check_l11
  simp only
  rw [decide_eq_false (by omega),cond_false,allTo_end]
  cases ok&&b.Surveys.all (surB b.Sections.length b.Days) <;> rfl
theorem check_l12 (b:ChainBook) (A:ArgK b) (hd:b.Days≤1000) (ok:Bool):loopF (chain_Check_l12 b) big (ok,0,0)=some (bif ok&&turnsB b.Days 0 b.Turns&&b.Surveys.all (surB b.Sections.length b.Days) then 0 else 10):=by
 have h:=A.tl
 have key:∀ (n k m:Nat) (ok:Bool) (last:Int),k+n=b.Turns.length→n < m→(ok=true→-1≤last∧last≤1000)→loopF (chain_Check_l12 b) m (ok,last,(k:Int))=some (bif ok&&turnsB b.Days last (b.Turns.drop k)&&b.Surveys.all (surB b.Sections.length b.Days) then 0 else 10):=by
  intro n
  induction n with
  | zero=>
    intro k m ok last hk hm hb
    obtain ⟨m,rfl⟩:∃ j,m=j+1:=⟨m - 1,by omega⟩
    show chain_Check_l12 b _ _=_
    unfold chain_Check_l12
    simp only
    rw [decide_eq_false (by omega),cond_false,List.drop_of_length_le (by omega),check_l11 b A]
    simp [turnsB]
  | succ n ih=>
    intro k m ok last hk hm hb
    obtain ⟨m,rfl⟩:∃ j,m=j+1:=⟨m - 1,by omega⟩
    have hlt:k < b.Turns.length:=by omega
    have ih' :=fun ok last hb=>ih (k+1) m ok last (by omega) (by omega) hb
    show chain_Check_l12 b (loopF (chain_Check_l12 b) m) _=_
    generalize loopF (chain_Check_l12 b) m=rec at ih' ⊢
    unfold chain_Check_l12
    simp only
    rw [decide_eq_true (by omega),cond_true,getI_ix hlt,Option.bind_some,wrN hlt h,List.drop_eq_getElem_cons hlt]
    cases ok with
    | false=>
      rw [cond_false,ih' _ _ (fun h=>by cases h)]
      rfl
    | true=>
      obtain ⟨b1,b2⟩:=hb rfl
      rw [cond_true,wrI (x:=last+1) (by omega) (by omega),within_k,Option.bind_some,ih' _ _ (fun hh=>by have:=inB_iff.1 hh; omega)]
      rfl
 have:=key b.Turns.length 0 big ok 0 (by omega) (by rw [big_eq]; omega) (fun _=>by omega)
 simpa using this
theorem most_go (b:Int) (hb:0≤b):∀ (l:List ChainSection) (m:Int),(∀ x∈l,x.Wear.High≤b)→0≤m→m≤b→0≤l.foldl (fun m x=>if x.Wear.High > m then x.Wear.High else m) m∧l.foldl (fun m x=>if x.Wear.High > m then x.Wear.High else m) m≤b
 | [],m,_,h0,h1=>⟨h0,h1⟩
 | x::l,m,h,h0,h1=>by
   rw [List.foldl_cons]
   have:=h x (List.mem_cons_self ..)
   refine most_go b hb l _ (fun y hy=>h y (List.mem_cons_of_mem _ hy)) ?_ ?_ <;> split <;> omega
theorem check_l13 (b:ChainBook) (A:ArgK b) (hd:1≤b.Days∧b.Days≤30) (z:Bool×Int×Int) (hz:0≤z.2.1∧z.2.1≤3) (ok:Bool):loopF (chain_Check_l13 b z) big (ok,0)=some (bif ok&&b.Sections.all (fun x=>decide (z.2.1*b.Days≤x.Thick.Low))&&turnsB b.Days 0 b.Turns&&b.Surveys.all (surB b.Sections.length b.Days) then 0 else 10):=by
 have h:=A.sl
 have hp:0≤z.2.1*b.Days∧z.2.1*b.Days≤90:=⟨Int.mul_nonneg hz.1 (by omega),by
  have:z.2.1*b.Days≤3*30:=Int.mul_le_mul hz.2 hd.2 (by omega) (by omega)
  omega⟩
 refine loop_fold0 (fun k=>(allTo (fun x=>decide (z.2.1*b.Days≤x.Thick.Low)) b.Sections ok k,(k:Int))) b.Sections.length (fun rec k hk=>?_) (fun rec=>?_) (by rw [big_eq]; omega) (by rw [allTo_zero]; rfl)
 ·unfold chain_Check_l13
  simp only
  rw [decide_eq_true (by omega),cond_true,getI_ix hk,Option.bind_some,wrN hk h,wrI (x:=z.2.1*b.Days) (by omega) (by omega),allTo_succ hk]
  cases allTo (fun x=>decide (z.2.1*b.Days≤x.Thick.Low)) b.Sections ok k with
  | true=>rw [cond_true]; rfl
  | false=>rw [cond_false]; rfl
 ·unfold chain_Check_l13
  simp only
  rw [decide_eq_false (by omega),cond_false,allTo_end,check_l12 b A (by omega)]
theorem check_j15 (b:ChainBook) (A:ArgK b) (hd:1≤b.Days∧b.Days≤30) (ok:Bool):chain_Check_j15 b ok=some (bif ok&&b.Sections.all secB&&b.Sections.all (fun x=>decide (mostK b.Sections*b.Days≤x.Thick.Low))&&turnsB b.Days 0 b.Turns&&b.Surveys.all (surB b.Sections.length b.Days) then 0 else 10):=by
 have h:=A.sl
 unfold chain_Check_j15
 refine loop_fold0 (fun k=>(allTo secB b.Sections ok k,(b.Sections.take k).foldl (fun m x=>if x.Wear.High > m then x.Wear.High else m) 0,(k:Int))) b.Sections.length (fun rec k hk=>?_) (fun rec=>?_) (by rw [big_eq]; omega) (by rw [allTo_zero]; rfl)
 ·unfold chain_Check_l14 chain_Check_j7
  simp only
  rw [decide_eq_true (by omega),cond_true,getI_ix hk,Option.bind_some,wrN hk h,allTo_succ hk,← List.take_append_getElem hk,List.foldl_append,List.foldl_cons,List.foldl_nil]
  cases allTo secB b.Sections ok k with
  | false=>rw [cond_false]; rfl
  | true=>
    rw [cond_true,isSpan_k _ _ _ (by omega),Option.bind_some,isSpan_k _ _ _ (by omega)]
    unfold secB
    cases spB b.Sections[k].Thick 200 3 <;> rfl
 ·unfold chain_Check_l14
  simp only
  rw [decide_eq_false (by omega),cond_false,allTo_end,List.take_length]
  cases hc:ok&&b.Sections.all secB with
  | false=>rfl
  | true=>
    rw [Bool.and_eq_true,List.all_eq_true] at hc
    rw [Bool.not_true,cond_false,check_l13 b A hd _ (most_go 3 (by omega) b.Sections 0 (fun x hx=>by
     have:=hc.2 x hx
     unfold secB spB at this
     simp only [Bool.and_eq_true,decide_eq_true_eq] at this
     omega) (by omega) (by omega))]
    simp only [Bool.true_and]
    rfl
theorem check_k (b:ChainBook) (A:ArgK b):chain_Check b=some (bif valK b then 0 else 10):=by
 have h1:=A.sl; have h2:=A.tl; have h3:=A.ul
 unfold chain_Check valK
 simp only [within_k,Option.bind_some]
 have hf:∀ c,chain_Check_j15 b false=some (bif false&&c then 0 else 10):=by
  intro c
  unfold chain_Check_j15
  refine loop_fold0 (fun k=>(false,(b.Sections.take k).foldl (fun m x=>if x.Wear.High > m then x.Wear.High else m) 0,(k:Int))) b.Sections.length (fun rec k hk=>?_) (fun rec=>?_) (by rw [big_eq]; omega) rfl
  ·unfold chain_Check_l14 chain_Check_j7
   simp only
   rw [decide_eq_true (by omega),cond_true,getI_ix hk,Option.bind_some,wrN hk h1,← List.take_append_getElem hk,List.foldl_append]
   rfl
  ·unfold chain_Check_l14
   simp only
   rw [decide_eq_false (by omega),cond_false]
   rfl
 cases e1:inB b.Sections.length 1 4 with
 | false=>rw [cond_false,hf true]; rfl
 | true=>
   cases e2:inB b.Days 1 30 with
   | false=>rw [cond_true,cond_false,hf true]; rfl
   | true=>
     have hd:=inB_iff.1 e2
     cases inB b.Rule 0 200 with
     | false=>rw [cond_true,cond_true,cond_false,hf true]; rfl
     | true=>
       cases decide ((b.Turns.length:Int)≤4) with
       | false=>rw [cond_true,cond_true,cond_true,cond_false,hf true]; rfl
       | true=>
         rw [cond_true,cond_true,cond_true,cond_true,check_j15 b A hd]
         simp only [Bool.true_and]
structure ValK (b:ChainBook):Prop where
 sn:1≤b.Sections.length∧b.Sections.length≤4
 dn:1≤b.Days∧b.Days≤30
 ru:0≤b.Rule∧b.Rule≤200
 tn:b.Turns.length≤4
 un:b.Surveys.length≤8
 se:∀ x∈b.Sections,secB x=true
 mo:∀ x∈b.Sections,mostK b.Sections*b.Days≤x.Thick.Low
 tu:turnsB b.Days 0 b.Turns=true
 su:∀ x∈b.Surveys,surB b.Sections.length b.Days x=true
theorem valK_iff {b:ChainBook}:valK b=true↔ValK b:=by
 unfold valK
 simp only [Bool.and_eq_true,List.all_eq_true,inB_iff,decide_eq_true_eq]
 constructor
 ·rintro ⟨⟨⟨⟨⟨⟨⟨⟨a,c⟩,d⟩,e⟩,f⟩,g⟩,h⟩,i⟩,j⟩; exact ⟨⟨by omega,by omega⟩,c,d,by omega,by omega,g,h,i,j⟩
 ·rintro ⟨a,c,d,e,f,g,h,i,j⟩; exact ⟨⟨⟨⟨⟨⟨⟨⟨⟨by omega,by omega⟩,c⟩,d⟩,by omega⟩,by omega⟩,g⟩,h⟩,i⟩,j⟩
theorem ValK.arg {b:ChainBook} (V:ValK b):ArgK b:=⟨by have:=V.sn; omega,by have:=V.tn; omega,by have:=V.un; omega⟩
structure SecK (x:ChainSection):Prop where
 t0:0≤x.Thick.Low
 th:x.Thick.Low≤x.Thick.High
 t2:x.Thick.High≤200
 w0:0≤x.Wear.Low
 wh:x.Wear.Low≤x.Wear.High
 w3:x.Wear.High≤3
theorem secK_of {x:ChainSection} (h:secB x=true):SecK x:=by
 unfold secB spB at h
 simp only [Bool.and_eq_true,decide_eq_true_eq] at h
 exact ⟨h.1.1.1.1,h.1.1.1.2,h.1.1.2,h.2.1.1.1,h.2.1.1.2,h.2.1.2⟩
theorem surK_of {n:Nat}{days:Int}{x:ChainSurvey} (h:surB n days x=true):(0≤x.Section∧x.Section≤(n:Int) - 1)∧(0≤x.Day∧x.Day≤days)∧(0≤x.Read∧x.Read≤200)∧0≤x.Error∧x.Error≤5:=by
 unfold surB at h
 simp only [Bool.and_eq_true,inB_iff] at h
 exact ⟨h.1.1.1,h.1.1.2,h.1.2,h.2⟩
end Go.Proofs.YtblfippmobpaaaaDoor
namespace Go.Proofs.YtblfippmobpaaaaDoor
open Go Go.Fx
def plc (n:Nat) (turns:List Int) (s d:Int):Int:=turns.foldl (fun s t=>if t≤d then (n:Int) - 1 - s else s) s
theorem plc_bd {n:Nat}{d:Int}:∀ (turns:List Int) (s:Int),0≤s→s < n→0≤plc n turns s d∧plc n turns s d < n
 | [],s,h0,h1=>⟨h0,h1⟩
 | t::l,s,h0,h1=>by
   unfold plc
   rw [List.foldl_cons]
   exact plc_bd l _ (by split <;> omega) (by split <;> omega)
theorem place_k (q:Chain_book) (hn:q.ChainBook.Sections.length≤4) (turns:List Int) (ht:turns.length≤1000) (s d:Int) (h0:0≤s) (h1:s < q.ChainBook.Sections.length):chain_book_place q s d turns=some (plc q.ChainBook.Sections.length turns s d):=by
 unfold chain_book_place
 refine loop_fold0 (fun k=>(plc q.ChainBook.Sections.length (turns.take k) s d,(k:Int))) turns.length (fun rec k hk=>?_) (fun rec=>?_) (by rw [big_eq]; omega) rfl
 ·unfold chain_book_place_l1
  simp only
  have hb:=plc_bd (n:=q.ChainBook.Sections.length) (d:=d) (turns.take k) s h0 h1
  rw [decide_eq_true (by omega),cond_true,getI_ix hk,Option.bind_some,wrN hk (by omega),wrI (x:=(q.ChainBook.Sections.length:Int) - 1) (by omega) (by omega),wrI (by omega) (by omega),← List.take_append_getElem hk]
  have e:plc q.ChainBook.Sections.length (turns.take k++[turns[k]]) s d=if turns[k]≤d then (q.ChainBook.Sections.length:Int) - 1 - plc q.ChainBook.Sections.length (turns.take k) s d else plc q.ChainBook.Sections.length (turns.take k) s d:=by
   unfold plc; rw [List.foldl_append]; rfl
  rw [e]
  by_cases h:turns[k]≤d
  ·rw [decide_eq_true h,cond_true,if_pos h]
  ·rw [decide_eq_false h,cond_false,if_neg h]
 ·unfold chain_book_place_l1
  simp only
  rw [decide_eq_false (by omega),cond_false,List.take_length]
def wornF (n:Nat) (turns:List Int) (w:List Int) (s:Int):Nat→Int
 | 0=>0
 | d+1=>wornF n turns w s d+w.getD (plc n turns s d).toNat 0
structure Wrs (w:List Int):Prop where
 len:w.length=4
 bd:∀ k:Nat,0≤w.getD k 0∧w.getD k 0≤3
theorem wornF_bd {n:Nat}{turns w:List Int}{s:Int} (hw:Wrs w):∀ d,0≤wornF n turns w s d∧wornF n turns w s d≤3*d
 | 0=>by simp [wornF]
 | d+1=>by
   have h1:=wornF_bd (n:=n) (turns:=turns) (s:=s) hw d
   have h2:=hw.bd (plc n turns s d).toNat
   unfold wornF; omega
theorem worn_k (q:Chain_book) (hn:q.ChainBook.Sections.length≤4) (turns:List Int) (ht:turns.length≤1000) {w:List Int} (hw:Wrs w) (s:Int) (h0:0≤s) (h1:s < q.ChainBook.Sections.length) (day:Nat) (hd:day≤100000):
 chain_book_worn q w s day turns=some (wornF q.ChainBook.Sections.length turns w s day):=by
 unfold chain_book_worn chain_unworn
 rw [Option.bind_some]
 by_cases hz:sgl w 4=sgl (List.replicate 4 0) 4
 ·rw [decide_eq_true hz,cond_true]
  have h4:∀ k:Nat,w.getD k 0=0:=by
   intro k
   by_cases hk:k < 4
   ·have:=congrArg (fun l:List Int=>l[k]?) hz
    simp [sgl,hk] at this
    simp [List.getD_eq_getElem?_getD,this]
    try (match k,hk with | 0,_=>rfl | 1,_=>rfl | 2,_=>rfl | 3,_=>rfl)
   ·rw [List.getD_eq_getElem?_getD,List.getElem?_eq_none (by rw [hw.len]; omega)]; rfl
  have:∀ d,wornF q.ChainBook.Sections.length turns w s d=0:=by
   intro d
   induction d with
   | zero=>rfl
   | succ d ih=>unfold wornF; rw [ih,h4]; rfl
  rw [this]
 ·rw [decide_eq_false hz,cond_false]
  refine loop_fold0 (fun k=>(wornF q.ChainBook.Sections.length turns w s k,(k:Int))) day (fun rec k hk=>?_) (fun rec=>?_) (by rw [big_eq]; omega) rfl
  ·unfold chain_book_worn_l1
   simp only
   have hb:=plc_bd (n:=q.ChainBook.Sections.length) (d:=(k:Int)) turns s h0 h1
   have hf:=wornF_bd (n:=q.ChainBook.Sections.length) (turns:=turns) (s:=s) hw k
   have hg:=hw.bd (plc q.ChainBook.Sections.length turns s k).toNat
   rw [decide_eq_true (by omega),cond_true,place_k q hn turns ht s k h0 h1,Option.bind_some,need_of (by simp [inI]; omega),wrN hk (by omega)]
   have e:aget w (plc q.ChainBook.Sections.length turns s k)=w.getD (plc q.ChainBook.Sections.length turns s k).toNat 0:=rfl
   rw [e,wrI (by omega) (by omega)]
   rfl
  ·unfold chain_book_worn_l1
   simp only
   rw [decide_eq_false (by omega),cond_false]
def SatM (f:Nat→Int) (sec:Int) (m:List (Chain_spot×Span)) (x:Int):Prop:=
 ∀ e∈m,e.1≠Chain_spot.mk (-1) (-1)→e.1.section_=sec→e.2.Low+f e.1.day_.toNat≤x∧x≤e.2.High+f e.1.day_.toNat
structure RdM (m:List (Chain_spot×Span)):Prop where
 ne:m≠[]
 bd:∀ e∈m,e.1≠Chain_spot.mk (-1) (-1)→0≤e.1.day_∧e.1.day_≤30∧-1000≤e.2.Low∧e.2.Low≤1000∧-1000≤e.2.High∧e.2.High≤1000
theorem nowB (p:Chain_spot):(!((p.section_==(-1))&&(p.day_==(-1))))=true↔p≠Chain_spot.mk (-1) (-1):=by
 obtain ⟨a,b⟩:=p
 simp only [Bool.not_eq_true',Bool.and_eq_false_iff,beq_eq_false_iff_ne,ne_eq,Chain_spot.mk.injEq,not_and]
 constructor
 ·rintro (h | h) h1 h2
  ·exact h h1
  ·exact h h2
 ·intro h
  by_cases h1:a=-1
  ·exact .inr (h h1)
  ·exact .inl h1
theorem right_fold (q:Chain_book) (hn:q.ChainBook.Sections.length≤4) (ht:q.ChainBook.Turns.length≤1000) {w:List Int} (hw:Wrs w) (s:Int) (h0:0≤s) (h1:s < q.ChainBook.Sections.length):
 ∀ (m:List (Chain_spot×Span)) (z:Int×Int),(∀ e∈m,e.1≠Chain_spot.mk (-1) (-1)→0≤e.1.day_∧e.1.day_≤30∧-1000≤e.2.Low∧e.2.Low≤1000∧-1000≤e.2.High∧e.2.High≤1000)→-3000≤z.1∧z.1≤3000∧-3000≤z.2∧z.2≤3000→
   ∃ z' :Int×Int,foldO (chain_book_right_m8 q w s) m z=some z' ∧(-3000≤z'.1∧z'.1≤3000∧-3000≤z'.2∧z'.2≤3000)∧∀ x,(z'.1≤x∧x≤z'.2)↔(z.1≤x∧x≤z.2)∧SatM (wornF q.ChainBook.Sections.length q.ChainBook.Turns w s) s m x
 | [],z,_,hz=>⟨z,rfl,hz,fun x=>by simp [SatM]⟩
 | e::m,z,hm,hz=>by
   have hrest:=fun z' hz' =>right_fold q hn ht hw s h0 h1 m z' (fun y hy=>hm y (List.mem_cons_of_mem _ hy)) hz'
   have sat_cons:∀ x,SatM (wornF q.ChainBook.Sections.length q.ChainBook.Turns w s) s (e::m) x↔((e.1≠Chain_spot.mk (-1) (-1)→e.1.section_=s→e.2.Low+wornF q.ChainBook.Sections.length q.ChainBook.Turns w s e.1.day_.toNat≤x∧x≤e.2.High+wornF q.ChainBook.Sections.length q.ChainBook.Turns w s e.1.day_.toNat)∧SatM (wornF q.ChainBook.Sections.length q.ChainBook.Turns w s) s m x):=by
    intro x; unfold SatM; simp only [List.mem_cons,forall_eq_or_imp]
   have skip:chain_book_right_m8 q w s z e=some z→(∀ x,(e.1≠Chain_spot.mk (-1) (-1)→e.1.section_=s→e.2.Low+wornF q.ChainBook.Sections.length q.ChainBook.Turns w s e.1.day_.toNat≤x∧x≤e.2.High+wornF q.ChainBook.Sections.length q.ChainBook.Turns w s e.1.day_.toNat))→∃ z' :Int×Int,foldO (chain_book_right_m8 q w s) (e::m) z=some z' ∧(-3000≤z'.1∧z'.1≤3000∧-3000≤z'.2∧z'.2≤3000)∧∀ x,(z'.1≤x∧x≤z'.2)↔(z.1≤x∧x≤z.2)∧SatM (wornF q.ChainBook.Sections.length q.ChainBook.Turns w s) s (e::m) x:=by
    intro h hx
    obtain ⟨z',g1,g2,g3⟩:=hrest z hz
    refine ⟨z',by show (chain_book_right_m8 q w s z e).bind _=_; rw [h]; exact g1,g2,fun x=>?_⟩
    rw [g3,sat_cons]
    exact ⟨fun ⟨a,b⟩=>⟨a,hx x,b⟩,fun ⟨a,_,b⟩=>⟨a,b⟩⟩
   cases hb:(!((e.1.section_==(-1))&&(e.1.day_==(-1)))) with
   | false=>
     refine skip ?_ (fun x hne=>?_)
     ·unfold chain_book_right_m8; rw [hb,cond_false]; rfl
     ·have:=(nowB e.1).2 hne
      rw [hb] at this; cases this
   | true=>
     have hne:=(nowB e.1).1 hb
     by_cases hs:e.1.section_=s
     case neg=>
      refine skip ?_ (fun x _ h=>absurd h hs)
      unfold chain_book_right_m8
      rw [hb,cond_true,show (e.1.section_==s)=false by simpa using hs]; rfl
     have hm' :=hm e (List.mem_cons_self ..) hne
     have hday:((e.1.day_.toNat:Nat):Int)=e.1.day_:=by omega
     have hf:=wornF_bd (n:=q.ChainBook.Sections.length) (turns:=q.ChainBook.Turns) (s:=s) hw e.1.day_.toNat
     have hstep:chain_book_right_m8 q w s z e=some (if wr (e.2.Low+wornF q.ChainBook.Sections.length q.ChainBook.Turns w s e.1.day_.toNat) > z.1 then wr (e.2.Low+wornF q.ChainBook.Sections.length q.ChainBook.Turns w s e.1.day_.toNat) else z.1,if wr (e.2.High+wornF q.ChainBook.Sections.length q.ChainBook.Turns w s e.1.day_.toNat) < z.2 then wr (e.2.High+wornF q.ChainBook.Sections.length q.ChainBook.Turns w s e.1.day_.toNat) else z.2):=by
      have hwk:=worn_k q hn q.ChainBook.Turns ht hw s h0 h1 e.1.day_.toNat (by omega)
      rw [hday] at hwk
      unfold chain_book_right_m8 chain_book_right_j7
      rw [hb,cond_true,show (e.1.section_==s)=true by simp [hs],cond_true,hwk,Option.bind_some,chain_both_eq]
      rfl
     rw [wrI (x:=e.2.Low+_) (by omega) (by omega),wrI (x:=e.2.High+_) (by omega) (by omega)] at hstep
     generalize hnn:wornF q.ChainBook.Sections.length q.ChainBook.Turns w s e.1.day_.toNat=nn at hstep hf sat_cons
     obtain ⟨z',g1,g2,g3⟩:=hrest (if e.2.Low+nn > z.1 then e.2.Low+nn else z.1,if e.2.High+nn < z.2 then e.2.High+nn else z.2) (by
      refine ⟨?_,?_,?_,?_⟩ <;> simp only <;> split <;> omega)
     refine ⟨z',by show (chain_book_right_m8 q w s z e).bind _=_; rw [hstep]; exact g1,g2,fun x=>?_⟩
     rw [g3,sat_cons]
     simp only
     constructor
     ·rintro ⟨⟨a1,a2⟩,b⟩
      refine ⟨⟨?_,?_⟩,fun _ _=>⟨?_,?_⟩,b⟩ <;> (split at a1 <;> split at a2 <;> omega)
     ·rintro ⟨⟨a1,a2⟩,c,b⟩
      obtain ⟨c1,c2⟩:=c hne hs
      refine ⟨⟨?_,?_⟩,b⟩ <;> (split <;> omega)
def rightS (q:Chain_book) (w:List Int) (s:Int):Span:=match chain_book_right q w s with | some r=>r.1 | none=>⟨0,0⟩
def secAt (q:Chain_book) (s:Int):ChainSection:=q.ChainBook.Sections.getD s.toNat default
structure OpK (q:Chain_book):Prop where
 sn:1≤q.ChainBook.Sections.length∧q.ChainBook.Sections.length≤4
 tn:q.ChainBook.Turns.length≤4
 se:∀ x∈q.ChainBook.Sections,SecK x
 rd:RdM q.read_
theorem right_k {q:Chain_book} (Q:OpK q) {w:List Int} (hw:Wrs w) (s:Nat) (h1:s < q.ChainBook.Sections.length):
 chain_book_right q w s=some (rightS q w s,decide ((rightS q w s).Low≤(rightS q w s).High))∧(-3000≤(rightS q w s).Low∧(rightS q w s).High≤3000)∧
 ∀ x,((rightS q w s).Low≤x∧x≤(rightS q w s).High)↔((q.ChainBook.Sections[s].Thick.Low≤x∧x≤q.ChainBook.Sections[s].Thick.High)∧SatM (wornF q.ChainBook.Sections.length q.ChainBook.Turns w s) s q.read_ x):=by
 have hs:=Q.se _ (List.getElem_mem h1)
 have t0:=hs.t0; have th:=hs.th; have t2:=hs.t2
 obtain ⟨z',g1,g2,g3⟩:=right_fold q Q.sn.2 (by have:=Q.tn; omega) hw s (by omega) (by omega) q.read_ (q.ChainBook.Sections[s].Thick.Low,q.ChainBook.Sections[s].Thick.High) Q.rd.bd (by simp only; omega)
 have e:chain_book_right q w s=some (⟨z'.1,z'.2⟩,decide (z'.1≤z'.2)):=by
  unfold chain_book_right
  rw [getI_ix h1,Option.bind_some,need_of (by have:=Q.rd.ne; cases hq:q.read_ with | nil=>exact absurd hq this | cons _ _=>rfl),g1]
  rfl
 have e2:rightS q w s=⟨z'.1,z'.2⟩:=by unfold rightS; rw [e]
 rw [e2]
 exact ⟨e,⟨g2.1,g2.2.2.2⟩,g3⟩
end Go.Proofs.YtblfippmobpaaaaDoor
namespace Go.Proofs.YtblfippmobpaaaaDoor
open Go Go.Fx
theorem put_casesG {κ ν:Type} [DecidableEq κ] (m:List (κ×ν)) (p:κ) (v:ν):(∃ (i:Nat) (o:ν),m[i]? =some (p,o)∧lookL m p=some o∧putL m p v=m.set i (p,v))∨(lookL m p=none∧putL m p v=m++[(p,v)]):=by
 unfold putL
 rw [find_look]
 cases h:(m.map (·.1)).findIdx? (·==p) with
 | none=>exact .inr ⟨rfl,rfl⟩
 | some i=>
   obtain ⟨hi,h1,_⟩:=List.findIdx?_eq_some_iff_getElem.1 h
   rw [List.length_map] at hi
   rw [List.getElem_map] at h1
   have hp:m[i].1=p:=by simpa using h1
   refine .inl ⟨i,m[i].2,?_,?_,rfl⟩
   ·rw [List.getElem?_eq_getElem hi,← hp]
   ·simp [List.getElem?_eq_getElem hi]
def spanK (y:ChainSurvey):Span:=⟨y.Read - y.Error,y.Read+y.Error⟩
def bothS (s t:Span):Span:=⟨if t.Low > s.Low then t.Low else s.Low,if t.High < s.High then t.High else s.High⟩
def spotK (y:ChainSurvey):Chain_spot:=Chain_spot.mk y.Section y.Day
def readK (l:List ChainSurvey) (but:List Int):Nat→List (Chain_spot×Span)
 | 0=>putL [] (Chain_spot.mk (-1) (-1)) ⟨0,0⟩
 | k+1=>bif but.contains (k:Int) then readK l but k else match l[k]? with
   | none=>readK l but k
   | some y=>putL (readK l but k) (spotK y) (match lookL (readK l but k) (spotK y) with | some o=>bothS o (spanK y) | none=>spanK y)
def SurOk (y:ChainSurvey):Prop:=0≤y.Section∧0≤y.Day∧y.Day≤30∧0≤y.Read∧y.Read≤200∧0≤y.Error∧y.Error≤5
def Says (f:Nat→Int) (y:ChainSurvey) (x:Int):Prop:=y.Read - y.Error+f y.Day.toNat≤x∧x≤y.Read+y.Error+f y.Day.toNat
theorem read_k {l:List ChainSurvey} (hl:∀ y∈l,SurOk y) (but:List Int):∀ k,RdM (readK l but k)∧∀ (f:Nat→Int) (sec x:Int),SatM f sec (readK l but k) x↔∀ i,i < k→(i:Int) ∉ but→∀ y,l[i]? =some y→y.Section=sec→Says f y x
 | 0=>by
   refine ⟨⟨by simp [readK,putL],fun e he hne=>?_⟩,fun f sec x=>?_⟩
   ·have:e=(Chain_spot.mk (-1) (-1),⟨0,0⟩):=by simpa [readK,putL] using he
    rw [this] at hne; exact absurd rfl hne
   ·constructor
    ·intro _ i hi; omega
    ·intro _ e he hne
     have:e=(Chain_spot.mk (-1) (-1),⟨0,0⟩):=by simpa [readK,putL] using he
     rw [this] at hne; exact absurd rfl hne
 | k+1=>by
   obtain ⟨h1,h2⟩:=read_k hl but k
   unfold readK
   have tail:∀ (f:Nat→Int) (sec x:Int),(∀ i,i < k+1→(i:Int) ∉ but→∀ y,l[i]? =some y→y.Section=sec→Says f y x)↔(∀ i,i < k→(i:Int) ∉ but→∀ y,l[i]? =some y→y.Section=sec→Says f y x)∧((k:Int) ∉ but→∀ y,l[k]? =some y→y.Section=sec→Says f y x):=by
    intro f sec x
    constructor
    ·intro h; exact ⟨fun i hi=>h i (by omega),h k (by omega)⟩
    ·rintro ⟨ha,hb⟩ i hi
     by_cases hik:i=k
     ·subst hik; exact hb
     ·exact ha i (by omega)
   cases hc:but.contains (k:Int) with
   | true=>
     rw [cond_true]
     have hm:(k:Int)∈but:=by simpa using hc
     exact ⟨h1,fun f sec x=>by rw [h2,tail]; exact ⟨fun h=>⟨h,fun hn=>absurd hm hn⟩,fun h=>h.1⟩⟩
   | false=>
     rw [cond_false]
     have hm:(k:Int) ∉ but:=by simpa using hc
     cases hk:l[k]? with
     | none=>exact ⟨h1,fun f sec x=>by rw [h2,tail]; exact ⟨fun h=>⟨h,fun _ y hy=>by rw [hk] at hy; cases hy⟩,fun h=>h.1⟩⟩
     | some y=>
       simp only
       obtain ⟨s0,d0,d30,r0,r200,e0,e5⟩:=hl y (List.mem_of_getElem? hk)
       have hsp:spotK y≠Chain_spot.mk (-1) (-1):=by
        unfold spotK; intro h; have:=congrArg Chain_spot.section_ h; simp at this; omega
       have one:∀ (f:Nat→Int) (sec x:Int),((k:Int) ∉ but→∀ y',some y=some y' →y'.Section=sec→Says f y' x)↔(y.Section=sec→Says f y x):=by
        intro f sec x
        exact ⟨fun h=>h hm y rfl,fun h _ y' hy=>by cases hy; exact h⟩
       rcases put_casesG (readK l but k) (spotK y) (match lookL (readK l but k) (spotK y) with | some o=>bothS o (spanK y) | none=>spanK y) with ⟨i,o,g1,g2,g3⟩ | ⟨g2,g3⟩
       ·rw [g3,g2]
        simp only
        obtain ⟨hi,gi⟩:=List.getElem?_eq_some_iff.1 g1
        have ob:=h1.bd _ (List.mem_of_getElem? g1) hsp
        simp only at ob
        refine ⟨⟨fun h=>?_,fun e he hne=>?_⟩,fun f sec x=>?_⟩
        ·have:=congrArg List.length h
         simp at this
         rw [this] at hi; simp at hi
        ·rcases (mem_set_iff hi).1 he with rfl | ⟨j,hj,hje⟩
         ·refine ⟨ob.1,ob.2.1,?_⟩
          unfold bothS spanK
          simp only
          refine ⟨?_,?_,?_,?_⟩ <;> split <;> omega
         ·exact h1.bd e (List.mem_of_getElem? hje) hne
        ·rw [tail,← h2,hk,one]
         unfold SatM
         constructor
         ·intro h
          have h0:=h _ ((mem_set_iff hi).2 (.inl rfl)) hsp
          refine ⟨fun e he hne hes=>?_,fun hs=>?_⟩
          ·obtain ⟨j,hj,rfl⟩:=List.getElem_of_mem he
           by_cases hji:j=i
           ·subst hji
            rw [gi] at hes ⊢
            have:=h0 hes
            unfold bothS at this
            simp only at this ⊢
            constructor
            ·have:=this.1; split at this <;> omega
            ·have:=this.2; split at this <;> omega
           ·exact h _ ((mem_set_iff hi).2 (.inr ⟨j,hji,List.getElem?_eq_getElem hj⟩)) hne hes
          ·have:=h0 hs
           unfold bothS spanK spotK at this
           unfold Says
           simp only at this
           constructor
           ·have:=this.1; split at this <;> omega
           ·have:=this.2; split at this <;> omega
         ·rintro ⟨ha,hb⟩ e he hne hes
          rcases (mem_set_iff hi).1 he with rfl | ⟨j,hj,hje⟩
          ·have h3:=ha _ (List.mem_of_getElem? g1) hsp hes
           have h4:=hb hes
           unfold Says at h4
           unfold bothS spanK spotK
           unfold spotK at h3
           simp only at h3 ⊢
           constructor <;> split <;> omega
          ·exact ha e (List.mem_of_getElem? hje) hne hes
       ·rw [g3,g2]
        simp only
        refine ⟨⟨by simp,fun e he hne=>?_⟩,fun f sec x=>?_⟩
        ·rcases List.mem_append.1 he with he | he
         ·exact h1.bd e he hne
         ·rw [List.mem_singleton.1 he]
          unfold spanK spotK
          simp only; omega
        ·rw [tail,← h2,hk,one]
         unfold SatM
         constructor
         ·intro h
          refine ⟨fun e he=>h e (List.mem_append.2 (.inl he)),fun hs=>?_⟩
          have:=h _ (List.mem_append.2 (.inr (List.mem_singleton.2 rfl))) hsp hs
          unfold spanK spotK at this
          exact this
         ·rintro ⟨ha,hb⟩ e he hne hes
          rcases List.mem_append.1 he with he | he
          ·exact ha e he hne hes
          ·rw [List.mem_singleton.1 he] at hes ⊢
           exact hb hes
def firstsK (q:Chain_book) (w:List Int):Nat→Option (List Span)
 | 0=>some (List.replicate 4 ⟨0,0⟩)
 | k+1=>(firstsK q w k).bind fun l=>bif decide ((rightS q w k).Low≤(rightS q w k).High) then some (asetS l 4 k (rightS q w k)) else none
def oneK (q:Chain_book) (w:List Int):List Chain_truth:=match firstsK q w q.ChainBook.Sections.length with | none=>[] | some f=>[⟨w,f⟩]
def trK (q:Chain_book):Nat→Nat→List Int→List Chain_truth
 | 0,_,w=>oneK q w
 | r+1,p,w=>(rng (secAt q p).Wear).flatMap fun v=>trK q r (p+1) (aset w 4 p v)
def truthsK (q:Chain_book):List Chain_truth:=trK q q.ChainBook.Sections.length 0 (List.replicate 4 0)
theorem firsts_none {q:Chain_book}{w:List Int}{k:Nat} (h:firstsK q w k=none):∀ d,firstsK q w (k+d)=none
 | 0=>h
 | d+1=>by
   show (firstsK q w (k+d)).bind _=none
   rw [firsts_none h d]; rfl
theorem one_k {q:Chain_book} (Q:OpK q) {w:List Int} (hw:Wrs w) {σ:Type} (yv:Chain_truth→σ→Option (Bool×σ)) (s:σ):loopF (chain_book_whole_1_1_l3 q q w s yv) big (0,List.replicate 4 (Span.mk 0 0))=foldY yv (oneK q w) s:=by
 have hn:=Q.sn
 have key:∀ (d k m:Nat) (l:List Span),k+d=q.ChainBook.Sections.length→d < m→firstsK q w k=some l→loopF (chain_book_whole_1_1_l3 q q w s yv) m ((k:Int),l)=foldY yv (oneK q w) s:=by
  intro d
  induction d with
  | zero=>
    intro k m l hk hm hl
    obtain ⟨m,rfl⟩:∃ j,m=j+1:=⟨m - 1,by omega⟩
    show chain_book_whole_1_1_l3 q q w s yv _ _=_
    unfold chain_book_whole_1_1_l3 oneK
    simp only
    rw [decide_eq_false (by omega),cond_false,show q.ChainBook.Sections.length=k by omega,hl]
    simp only
    rw [foldY_one]
    cases yv ⟨w,l⟩ s with
    | none=>rfl
    | some r=>rfl
  | succ d ih=>
    intro k m l hk hm hl
    obtain ⟨m,rfl⟩:∃ j,m=j+1:=⟨m - 1,by omega⟩
    have ih' :=fun l' =>ih (k+1) m l' (by omega) (by omega)
    show chain_book_whole_1_1_l3 q q w s yv (loopF (chain_book_whole_1_1_l3 q q w s yv) m) _=_
    generalize loopF (chain_book_whole_1_1_l3 q q w s yv) m=rec at ih' ⊢
    have hlt:k < q.ChainBook.Sections.length:=by omega
    unfold chain_book_whole_1_1_l3
    simp only
    rw [decide_eq_true (by omega),cond_true,(right_k Q hw k hlt).1,Option.bind_some]
    simp only
    have hf:firstsK q w (k+1)=bif decide ((rightS q w k).Low≤(rightS q w k).High) then some (asetS l 4 k (rightS q w k)) else none:=by
     show (firstsK q w k).bind _=_
     rw [hl]; rfl
    cases hc:decide ((rightS q w k).Low≤(rightS q w k).High) with
    | false=>
      rw [Bool.not_false,cond_true]
      rw [hc,cond_false] at hf
      have:=firsts_none hf d
      rw [show k+1+d=q.ChainBook.Sections.length by omega] at this
      unfold oneK
      rw [this]; rfl
    | true=>
      rw [Bool.not_true,cond_false,need_of (by simp [inI]; omega),wrN hlt (by omega)]
      rw [hc,cond_true] at hf
      exact ih' _ hf
 exact key q.ChainBook.Sections.length 0 big _ (by omega) (by rw [big_eq]; omega) rfl
theorem wrs_set {w:List Int} (h:Wrs w) {p:Nat}{v:Int} (h0:0≤v) (h3:v≤3):Wrs (aset w 4 p v):=by
 refine ⟨by simp [aset],fun k=>?_⟩
 by_cases hk:k < 4
 ·rw [getD_aset hk]; split
  ·exact ⟨h0,h3⟩
  ·exact h.bd k
 ·rw [List.getD_eq_getElem?_getD,List.getElem?_eq_none (by simp [aset]; omega)]
  exact ⟨Int.le_refl _,by decide⟩
theorem secAt_get {q:Chain_book}{p:Nat} (h:p < q.ChainBook.Sections.length):secAt q p=q.ChainBook.Sections[p]:=by
 unfold secAt
 rw [List.getD_eq_getElem?_getD,Int.toNat_natCast,List.getElem?_eq_getElem h]; rfl
theorem whole_k {q:Chain_book} (Q:OpK q) {σ:Type} (yv:Chain_truth→σ→Option (Bool×σ)):∀ (r p fuel:Nat) (w:List Int) (s:σ),p+r=q.ChainBook.Sections.length→r < fuel→Wrs w→chain_book_whole_1_1 fuel w p s q q yv=foldY yv (trK q r p w) s:=by
 have hn:=Q.sn
 intro r
 induction r with
 | zero=>
   intro p fuel w s hp hf hw
   obtain ⟨f,rfl⟩:∃ f,fuel=f+1:=⟨fuel - 1,by omega⟩
   show chain_book_whole_1_1_F _ _ _ _ _ _ _=_
   unfold chain_book_whole_1_1_F
   rw [show ((p:Int)==(q.ChainBook.Sections.length:Int))=true by simp; omega,cond_true,one_k Q hw]
   rfl
 | succ r ih=>
   intro p fuel w s hp hf hw
   obtain ⟨f,rfl⟩:∃ f,fuel=f+1:=⟨fuel - 1,by omega⟩
   have hlt:p < q.ChainBook.Sections.length:=by omega
   have S:=Q.se _ (List.getElem_mem hlt)
   have w0:=S.w0; have wh:=S.wh; have w3:=S.w3
   show chain_book_whole_1_1_F _ _ _ _ _ _ _=_
   unfold chain_book_whole_1_1_F
   rw [show ((p:Int)==(q.ChainBook.Sections.length:Int))=false by simp; omega,cond_false,getI_ix hlt,Option.bind_some]
   show loopF (chain_book_whole_1_1_l4 (q.ChainBook.Sections[p]).Wear.High q.ChainBook.Sections[p] p _) big (0,w,s)=_
   have hrec:∀ (w' :List Int) (s' :σ),Wrs w' →chain_book_whole_1_1 f w' (Fx.wr ((p:Int)+1)) s' q q yv=foldY yv (trK q r (p+1) w') s' :=by
    intro w' s' hw'
    rw [wrN hlt (by omega)]
    exact ih (p+1) f w' s' (by omega) (by omega) hw'
   have key:∀ (d:Nat) (i:Int) (m:Nat) (w' :List Int) (s' :σ),i+d=q.ChainBook.Sections[p].Wear.High+1→0≤i→d < m→(∀ v,aset w' 4 p v=aset w 4 p v)→
    loopF (chain_book_whole_1_1_l4 (q.ChainBook.Sections[p]).Wear.High q.ChainBook.Sections[p] p (fun x0_ x1_ x2_=>chain_book_whole_1_1 f x0_ x1_ x2_ q q yv)) m (i,w',s')=foldY yv ((rng ⟨if i < q.ChainBook.Sections[p].Wear.Low then q.ChainBook.Sections[p].Wear.Low else i,q.ChainBook.Sections[p].Wear.High⟩).flatMap fun v=>trK q r (p+1) (aset w 4 p v)) s' :=by
    intro d
    induction d with
    | zero=>
      intro i m w' s' hi h0 hm hw'
      obtain ⟨m,rfl⟩:∃ j,m=j+1:=⟨m - 1,by omega⟩
      show chain_book_whole_1_1_l4 _ _ _ _ _ _=_
      unfold chain_book_whole_1_1_l4
      simp only
      rw [wrI (x:=q.ChainBook.Sections[p].Wear.High+1) (by omega) (by omega),decide_eq_false (by omega),cond_false,if_neg (by omega)]
      rw [show rng ⟨i,q.ChainBook.Sections[p].Wear.High⟩=[] by unfold rng; simp only; rw [show (q.ChainBook.Sections[p].Wear.High - i+1).toNat=0 by omega]; rfl]
      rfl
    | succ d ihd=>
      intro i m w' s' hi h0 hm hw'
      obtain ⟨m,rfl⟩:∃ j,m=j+1:=⟨m - 1,by omega⟩
      have ih' :=fun w' s' hw' =>ihd (i+1) m w' s' (by omega) (by omega) (by omega) hw'
      show chain_book_whole_1_1_l4 _ _ _ _ (loopF _ m) _=_
      generalize loopF (chain_book_whole_1_1_l4 (q.ChainBook.Sections[p]).Wear.High q.ChainBook.Sections[p] p (fun x0_ x1_ x2_=>chain_book_whole_1_1 f x0_ x1_ x2_ q q yv)) m=rec at ih' ⊢
      unfold chain_book_whole_1_1_l4
      simp only
      rw [wrI (x:=q.ChainBook.Sections[p].Wear.High+1) (by omega) (by omega),decide_eq_true (by omega),cond_true,wrI (x:=i+1) (by omega) (by omega)]
      show (bif decide (i < q.ChainBook.Sections[p].Wear.Low) then _ else _)=_
      by_cases hl:i < q.ChainBook.Sections[p].Wear.Low
      ·rw [decide_eq_true hl,cond_true,ih' w' s' hw',if_pos hl]
       split
       ·rfl
       ·rw [show i+1=q.ChainBook.Sections[p].Wear.Low by omega]
      ·rw [decide_eq_false hl,cond_false,if_neg hl,need_of (by simp [inI]; omega),hw' i,hrec _ _ (wrs_set hw (by omega) (by omega))]
       have hr:rng ⟨i,q.ChainBook.Sections[p].Wear.High⟩=i::rng ⟨i+1,q.ChainBook.Sections[p].Wear.High⟩:=by
        unfold rng
        simp only
        rw [show (q.ChainBook.Sections[p].Wear.High - i+1).toNat=(q.ChainBook.Sections[p].Wear.High - (i+1)+1).toNat+1 by omega,List.range'_succ,List.map_cons]
        rw [List.range'_eq_map_range,List.range'_eq_map_range,List.map_map,List.map_map]
        congr 1
        ·simp
        ·refine List.map_congr_left fun k _=>?_
         simp only [Function.comp]; omega
       rw [hr,List.flatMap_cons,foldY_app]
       cases foldY yv (trK q r (p+1) (aset w 4 p i)) s' with
       | none=>rfl
       | some r2=>
         rw [Option.bind_some,Option.bind_some]
         obtain ⟨b,s2⟩:=r2
         cases b with
         | false=>rfl
         | true=>
           simp only [Bool.not_true,cond_false,cond_true]
           rw [ih' _ _ (fun v=>by rw [aset_aset]),if_neg (by omega)]
   have hd:0≤q.ChainBook.Sections[p].Wear.High+1:=by omega
   have:=key (q.ChainBook.Sections[p].Wear.High+1).toNat 0 big w s (by omega) (by omega) (by rw [big_eq]; omega) (fun _=>rfl)
   rw [this]
   show _=foldY yv ((rng (secAt q p).Wear).flatMap _) s
   rw [secAt_get hlt]
   congr 2
   split
   ·rfl
   ·rw [show (0:Int)=q.ChainBook.Sections[p].Wear.Low by omega]
end Go.Proofs.YtblfippmobpaaaaDoor
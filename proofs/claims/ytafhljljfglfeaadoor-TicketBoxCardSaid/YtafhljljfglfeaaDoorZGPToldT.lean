/- Part of a logic of my own for walks: rules by which a proof steps through code, proved once. -/
import Derived.Test.YtafhljljfglfeaaDoorZGFxLook
import Derived.OpenShut
import Derived.RowKit
import Derived.WideKeyArgs
import Derived.ChangeOld
import Derived.LaidMore
import Derived.LaidLaws
import Derived.Deep.DeepHandedRow
import Derived.ProofKit
import Derived.Test.YtafhljljfglfeaaDoorCards
import Derived.Test.YtafhljljfglfeaaDoorTie
import Derived.Test.YtafhljljfglfeaaDoorZGWAll
set_option linter.unusedSimpArgs false
set_option linter.unusedVariables false
namespace Go.Fx
open Go Go.ChangeShapes Go.WideShapes Go.ChangeAt Go.RowKit
section
variable {H:Type}{enc:TypeId×Value→H}{P:Program}
theorem Keep.kept {w w' :World} (k:Keep0 w w') (may:MemPlace→Prop):w.keptBut w' may:=by
 refine ⟨k.os,k.output,fun i hi=>?_⟩
 have:=k.block i hi (fun x=>x)
 rw [this]
 cases w.heap[i]? with
 | none=>rfl
 | some o=>cases o <;> first | exact ⟨rfl,rfl,rfl,fun _ _=>rfl⟩ | exact .inr ⟨rfl,rfl⟩ | rfl
theorem Keep.same {w w' :World} (k:Keep0 w w') {p:MemPlace} (hp:p.block < w.heap.size):w.sameAt w' p:=by
 cases p with
 | cell b off=>
   have:=k.block b hp (fun x=>x)
   exact World.cell?_of_block (w:=w) this
 | map b=>exact k.block b hp (fun x=>x)
theorem trodAll_stays (hl:laidOutB P=true) {W W' :World}{sp' :Nat→Bool}:∀ {ts:List TypeId}{vs:List Value}{ds:List (DataW H)}{ps:List MemPlace},
 (∀ t∈ts,P.readableRec t=true∧t < P.types.size)→DataW.TrodAll enc P W 0 (fun _=>true) true ts vs ds ps→(∀ p∈ps,W.sameAt W' p)→(∀ p∈ps,sp' p.block=true)→DataW.TrodAll enc P W' 0 sp' true ts vs ds ps
 | [],[],[],_,_,h,_,_=>h
 | t::ts,v::vs,d::ds,ps,ht,⟨p,q,h1,h2,e⟩,hs,hb=>by
   subst e
   exact ⟨p,q,WideElems.Trod_stays hl (ht t (List.mem_cons_self ..)).1 (ht t (List.mem_cons_self ..)).2 h1 (fun x hx=>hs x (List.mem_append_left _ hx)) (fun x hx=>hb x (List.mem_append_left _ hx)),
    trodAll_stays hl (fun t ht' =>ht t (List.mem_cons_of_mem _ ht')) h2 (fun x hx=>hs x (List.mem_append_right _ hx)) (fun x hx=>hb x (List.mem_append_right _ hx)),rfl⟩
 | [],_::_,_,_,_,h,_,_=>by cases ‹List (DataW H)› <;> exact h.elim
 | [],[],_::_,_,_,h,_,_=>h.elim
 | _::_,[],_,_,_,h,_,_=>by cases ‹List (DataW H)› <;> exact h.elim
 | _::_,_::_,[],_,_,h,_,_=>h.elim
theorem law_post {fn:Func}{spec:ChangeSpec}{W W' :World}{args:Array Value}{ds gs:List (DataW H)}{before:List MemPlace}{tb:TypeId}
 (hW:DataW.Whole enc P fn.params.toList spec.vars false W args.toList ds gs before) (hl:laidOutB P=true) (hts:(fn.params.toList.all fun t=>P.readableRec t&&decide (t < P.types.size))=true)
 (hvars:spec.vars=[]) (hfn:spec.fn H ds={ results:=[.lit (.bool true)],args:=ds }) (hres:fn.resultTypes=#[tb]) (hb:P.underlying tb=some .bool) (k:Keep0 W W'):
 spec.post enc P fn false true false false W args (.bool true) W' :=by
 have hlt:=hW.lt
 obtain ⟨p,q,hA,hV,rfl,hfz,hnd⟩:=id hW
 have hV' :=hV
 rw [hvars] at hV'
 obtain ⟨rfl,rfl⟩:=trodVars_none hV'
 rw [List.append_nil] at hlt
 have hts' :∀ t∈fn.params.toList,P.readableRec t=true∧t < P.types.size:=fun t ht=>by
  have:=List.all_eq_true.1 hts t ht
  simpa using this
 refine ⟨ds,[],p++[],[],p,[],hW,?_,?_,?_,k.kept _,fun h=>by cases h⟩
 ·rw [List.append_nil,hfn,hres]
  exact trodAll_mk1 (shut_bool hb true)
 ·rw [List.append_nil,hfn]
  exact trodAll_stays hl hts' hA (fun x hx=>k.same (hlt x hx)) (fun x hx=>by simpa using hlt x hx)
 ·rw [List.append_nil,hfn,hvars]
  rfl
def InI (n:Int):Prop:=-9223372036854775808≤n∧n≤9223372036854775807
theorem inI_of {n:Int} (h:(Lit.int .i64 n).wf=true):InI n:=bounds_i64 h
variable {w:World}{base:Nat}{spare:Nat→Bool}{held:Bool}
def FlatI (P:Program) (t:TypeId) (n:Nat):Prop:=∀ {H:Type}{enc:TypeId×Value→H}{w:World}{base:Nat}{spare:Nat→Bool}{held:Bool}{fuel:Nat}{cs:List Value}{x:DataW H×List MemPlace},
 DataW.trod enc P w base spare held fuel t cs=some x→∃ l:List Int,l.length=n∧cs=l.map I∧∀ y∈l,InI y
theorem flat_cells {cs:List Value}:∀ {n:Nat},cs.length=n→(∀ i,i < n→∃ a:Int,cs[i]? =some (I a)∧InI a)→∃ l:List Int,l.length=n∧cs=l.map I∧∀ y∈l,InI y:=by
 intro n hn h
 subst hn
 induction cs with
 | nil=>exact ⟨[],rfl,rfl,fun _ h=>(List.not_mem_nil h).elim⟩
 | cons c cs ih=>
   obtain ⟨a,ha,hi⟩:=h 0 (by simp)
   obtain ⟨l,h1,h2,h3⟩:=ih fun i hi=>by
    obtain ⟨b,hb⟩:=h (i+1) (by simp; omega)
    exact ⟨b,by simpa using hb⟩
   refine ⟨a::l,by simp [h1],by simp at ha; rw [ha,h2]; rfl,fun y hy=>?_⟩
   rcases List.mem_cons.1 hy with rfl | hy
   ·exact hi
   ·exact h3 y hy
theorem take_one {cs:List Value}{o:Nat}{v:Value} (h:(cs.drop o).take 1=[v]):cs[o]? =some v:=by
 have:=congrArg (·[0]?) h
 simpa [List.getElem?_take] using this
theorem flat_array {t e:TypeId}{n:Nat} (ht:P.underlying t=some (.array n e)) (he:P.underlying e=some (.int .i64)) (hc:P.cellsOf e=1) (hn:P.cellsOf t=n):FlatI P t n:=by
 intro _ _ _ _ _ _ _ cs _ h
 obtain ⟨xs,m,_,_,hl,hxs,hel⟩:=DataW.trod_array ht h
 refine flat_cells (hl.trans hn) fun i hi=>?_
 have:=hel i hi
 rw [hc,Nat.mul_one,List.getElem?_eq_getElem (by rw [hxs]; exact hi)] at this
 obtain ⟨a,ha,_,hw⟩:=DataW.trod_int he this
 exact ⟨a,take_one ha,inI_of hw⟩
theorem flat_struct {t:TypeId}{fs:Array Field}{n:Nat} (ht:P.underlying t=some (.struct fs)) (hn:P.cellsOf t=n) (hf:∀ i,i < n→∃ f:Field,fs[i]? =some f∧f.offset=i∧P.underlying f.type=some (.int .i64)∧P.cellsOf f.type=1) (hs:fs.size=n):FlatI P t n:=by
 intro _ _ _ _ _ _ _ cs _ h
 obtain ⟨xs,m,_,_,hl,hxs,hel⟩:=DataW.trod_struct ht h
 refine flat_cells (hl.trans hn) fun i hi=>?_
 obtain ⟨f,h1,h2,h3,h4⟩:=hf i hi
 have:=hel i f h1
 rw [h2,h4,List.getElem?_eq_getElem (by rw [hxs,hs]; exact hi)] at this
 obtain ⟨a,ha,_,hw⟩:=DataW.trod_int h3 this
 exact ⟨a,take_one ha,inI_of hw⟩
theorem mapM_get {α β:Type}{f:α→Option β}:∀ {l:List α}{r:List β},l.mapM f=some r→∀ (i:Nat) (a:α),l[i]? =some a→f a=r[i]?
 | [],_,_,i,a,ha=>by simp at ha
 | x::l,r,h,i,a,ha=>by
   simp only [List.mapM_cons,Option.bind_eq_bind,Option.bind_eq_some_iff,Option.pure_def,Option.some.injEq] at h
   obtain ⟨b,hb,r',hr',rfl⟩:=h
   cases i with
   | zero=>
     simp only [List.getElem?_cons_zero,Option.some.injEq] at ha
     subst ha
     exact hb
   | succ i=>exact mapM_get hr' i a (by simpa using ha)
theorem cell_in {w:World}{a:Addr}{v:Value} (h:w.cell? a=some v):a.block < w.heap.size:=by
 unfold World.cell? at h
 split at h
 ·rename_i hw
  exact (Array.getElem?_eq_some_iff.1 hw).1
 ·cases h
theorem add_blk (a:Addr) (n:Nat):(a.add n).block=a.block∧(a.add n).off=a.off+n:=by
 unfold Addr.add
 split
 ·rename_i h; subst h; exact ⟨rfl,rfl⟩
 ·exact ⟨rfl,rfl⟩
theorem cellN {w:World}{a:Addr}{n:Nat}{v:Value} (h:w.cell? (a.add n)=some v):w.cell? ⟨a.block,a.off+n,none⟩=some v:=by
 have h1:=World.cell?_spot h
 obtain ⟨h2,h3⟩:=add_blk a n
 have:a.add n=⟨a.block,a.off+n,none⟩:=by
  generalize a.add n=x at h1 h2 h3
  cases x
  cases h1; cases h2; cases h3; rfl
 rwa [this] at h
theorem slice_flat {t e:TypeId}{s fuel:Nat}{cs:List Value}{x:DataW H×List MemPlace} (ht:P.underlying t=some (.slice e)) (F:FlatI P e s) (hs:P.cellsOf e=s) (h0:0 < s)
 (h:DataW.trod enc P w 0 spare held fuel t cs=some x):∃ A c,∃ xs:List (List Int),cs=[SL A xs.length c]∧(∀ l∈xs,l.length=s∧∀ y∈l,InI y)∧(rd (fun l:List Int=>l.map I) s A c xs).ok w:=by
 rcases DataW.trod_slice ht h with ⟨rfl,_⟩ | ⟨a,len,cap,elems,rest,n,_,rfl,_,_,hlc,hcm,hel,hE,_,_⟩
 ·exact ⟨none,0,[],rfl,fun _ h=>(List.not_mem_nil h).elim,.inl rfl,Nat.le_refl _,Nat.zero_le _⟩
 ·have ex:∀ i,i < len→∃ l:List Int,l.length=s∧(∀ y∈l,InI y)∧∀ j v,(l.map I)[j]? =some v→w.cell? ⟨a.block,a.off+i*s+j,none⟩=some v:=by
   intro i hi
   have:=hE i hi
   rw [hs,List.getElem?_eq_getElem (by rw [hel]; exact hi)] at this
   obtain ⟨cs,hc,hd⟩:=Option.bind_eq_some_iff.1 this
   obtain ⟨l,hl,rfl,hy⟩:=F hd
   refine ⟨l,hl,hy,fun j v hj=>?_⟩
   unfold World.cells? at hc
   rw [if_pos (Nat.zero_le _)] at hc
   have hjl:j < s:=by
    have:=(List.getElem?_eq_some_iff.1 hj).1
    rw [List.length_map,hl] at this
    exact this
   have:=mapM_get hc j j (List.getElem?_range hjl)
   rw [hj] at this
   have:=cellN this
   rwa [(add_blk a (i*s)).1,(add_blk a (i*s)).2] at this
  have ch:∃ f:Nat→List Int,∀ i,i < len→(f i).length=s∧(∀ y∈f i,InI y)∧∀ j v,((f i).map I)[j]? =some v→w.cell? ⟨a.block,a.off+i*s+j,none⟩=some v:=
   ⟨fun i=>if h:i < len then Classical.choose (ex i h) else [],fun i hi=>by simp only [dif_pos hi]; exact Classical.choose_spec (ex i hi)⟩
  obtain ⟨f,hf⟩:=ch
  refine ⟨some a,cap,(List.range len).map f,by simp [SL],fun l hl=>?_,?_,by simpa using hlc,hcm⟩
  ·obtain ⟨i,hi,rfl⟩:=List.mem_map.1 hl
   have:=hf i (List.mem_range.1 hi)
   exact ⟨this.1,this.2.1⟩
  ·by_cases hz:len=0
   ·left; subst hz; rfl
   ·right
    have h00:=(hf 0 (by omega)).2.2 0 (I ((f 0)[0]'(by rw [(hf 0 (by omega)).1]; exact h0))) (by simp [(hf 0 (by omega)).1,h0])
    obtain ⟨b,o,sp⟩:=a
    have hsp:sp=none:=by
     have:=hE 0 (by omega)
     rw [hs,List.getElem?_eq_getElem (by rw [hel]; omega)] at this
     obtain ⟨cs,hc,hd⟩:=Option.bind_eq_some_iff.1 this
     obtain ⟨l,hl,rfl,hy⟩:=F hd
     unfold World.cells? at hc
     rw [if_pos (Nat.zero_le _)] at hc
     have:=mapM_get hc 0 0 (List.getElem?_range h0)
     rw [List.getElem?_eq_getElem (by rw [List.length_map,hl]; exact h0)] at this
     rw [Nat.zero_mul] at this
     exact World.cell?_spot (show w.cell? ⟨b,o,sp⟩=_ from this)
    subst hsp
    refine ⟨b,o,rfl,cell_in h00,fun i x hx j v hv=>?_⟩
    have hi:i < len:=by
     have:=(List.getElem?_eq_some_iff.1 hx).1
     simpa using this
    have hx' :x=f i:=by simpa [List.getElem?_range,hi] using hx.symm
    subst hx'
    exact (hf i hi).2.2 j v hv
theorem rd_map {α β:Type}{e1:α→List Value}{e2:β→List Value}{s c:Nat}{A:Option Addr}{xs:List α} (f:α→β) (h:∀ x∈xs,e2 (f x)=e1 x) (h1:(rd e1 s A c xs).ok w):(rd e2 s A c (xs.map f)).ok w:=by
 refine ⟨?_,by simpa using h1.2.1,h1.2.2⟩
 rcases h1.1 with rfl | ⟨b,o,e,hb,hc⟩
 ·exact .inl rfl
 ·refine .inr ⟨b,o,e,hb,fun i x hx j v hv=>?_⟩
  rw [List.getElem?_map] at hx
  obtain ⟨y,hy,rfl⟩:=Option.map_eq_some_iff.1 hx
  rw [h y (List.mem_of_getElem? hy)] at hv
  exact hc i y hy j v hv
theorem sg_self (l:List Int) {n:Nat} (h:l.length=n):sg l n=l.map I:=by
 rw [sg_ivs,sgl_eq h]; rfl
theorem okWide_cells {r:Reach}{b0:Nat}{t:TypeId}{v:Value} (ht:(match P.underlying t with | some (.struct _) | some (.array _ _)=>true | _=>false)=true) (hval:Value.okWide P w r b0 t v):∃ cs,v=.agg cs:=by
 unfold Value.okWide at hval
 split at hval
 ·obtain ⟨cs,h,_⟩:=hval; exact ⟨cs,h⟩
 ·obtain ⟨cs,h,_⟩:=hval; exact ⟨cs,h⟩
 ·rename_i h1 h2
  split at ht
  ·rename_i h; exact absurd h (h1 _)
  ·rename_i h; exact absurd h (h2 _ _)
  ·cases ht
theorem dec_flat {r:Reach}{b0 n:Nat}{t:TypeId}{v:Value}{d:DataW H}{ps:List MemPlace} (ht:(match P.underlying t with | some (.struct _) | some (.array _ _)=>true | _=>false)=true) (F:FlatI P t n) (hval:Value.okWide P w r b0 t v) (hd:DataW.Trod enc P w base spare held t v d ps):
 ∃ l:List Int,l.length=n∧v=AG (l.map I)∧∀ y∈l,InI y:=by
 obtain ⟨cs,rfl⟩:=okWide_cells ht hval
 obtain ⟨fuel,hf⟩:=hd
 obtain ⟨l,hl,hc,hy⟩:=F hf
 refine ⟨l,hl,?_,hy⟩
 have:cs.toList=l.map I:=hc
 show Value.agg cs=Value.agg (l.map I).toArray
 rw [← this]
end
end Go.Fx
namespace Go.Proofs.YtafhljljfglfeaaDoor
open Go Go.Fx Go.Proofs Go.ChangeShapes Go.WideShapes Go.ChangeAt Go.RowKit
theorem own:ownKnob Tryd.prog.godebug=none:=by kernel_rfl
theorem laidOut:laidOutB Tryd.prog=true:=by kernel_rfl
theorem u3:Tryd.prog.underlying 3=some (.int .i64):=by kernel_rfl
theorem c3:Tryd.prog.cellsOf 3=1:=by kernel_rfl
theorem var_heap {W:World}{n:String}{g:Nat}{cs c:Array Value}{t:TypeId}{fr:Nat×Nat} (hg:Tryd.prog.globalNamed n=some g) (hv:W.var? Tryd.prog n=some cs) (hh:W.heap[g]? =some (.cells c t fr)):cs=c:=by
 unfold World.var? at hv
 rw [hg] at hv
 simp only [Option.bind_some,hh] at hv
 exact (Option.some.inj hv).symm
theorem gNobody : Tryd.prog.globalNamed "prow/ticket.nobody" = some 0 := by kernel_rfl
theorem tNobody:(Tryd.prog.globals[0]?).map (·.type)=some 128:=by kernel_rfl
theorem c128:Tryd.prog.cellsOf 128=2:=by kernel_rfl
theorem u128:∃ f0 f1:Field,Tryd.prog.underlying 128=some (.struct #[f0,f1])∧f0.type=3∧f1.type=3∧f0.offset=0∧f1.offset=1:=⟨(Tryd.prog.fieldsOf 128)[0]!,(Tryd.prog.fieldsOf 128)[1]!,by kernel_rfl,by kernel_rfl,by kernel_rfl,by kernel_rfl,by kernel_rfl⟩
theorem shape0:∃ zero,(((begin Tryd.prog (fun _ _=>0) default).world.heap[0]?).bind Obj.row?)=some (zero,128):=⟨#[I 0,I 0],by kernel_rfl⟩
set_option maxRecDepth 100000 in
theorem atNobody {W : World} (hS : W.ShapedOpen Tryd.prog) {g t : Nat} {cs : Array Value} {fuel : Nat} {p : List MemPlace} (hg : Tryd.prog.globalNamed "prow/ticket.nobody" = some g) (ht : (Tryd.prog.globals[g]?).map (·.type) = some t) (hv : W.var? Tryd.prog "prow/ticket.nobody" = some cs)
 (hd:DataW.trod (fun _=>()) Tryd.prog W 0 (fun _=>true) false fuel t cs.toList=some (.agg [.lit (.int .i64 (-1)),.lit (.int .i64 (-1))],p)):(bl 0 [I (-1),I (-1)] 128).ok W:=by
 obtain ⟨z,hz⟩:=shape0
 obtain ⟨cs0,h1,_⟩:=hS.1 0 z 128 (of_decide_eq_true (by kernel_rfl)) hz
 obtain rfl:=Option.some.inj (gNobody.symm.trans hg)
 obtain rfl:=Option.some.inj (tNobody.symm.trans ht)
 obtain rfl:=var_heap gNobody hv h1
 obtain ⟨f0,f1,hu,ht0,ht1,ho0,ho1⟩:=u128
 obtain ⟨xs,m,_,hx,hl,hxs,hel⟩:=DataW.trod_struct hu hd
 rw [c128] at hl
 have hx' :xs.map (·.1)=[.lit (.int .i64 (-1)),.lit (.int .i64 (-1))]:=by
  have:=congrArg Prod.fst hx
  exact (DataW.agg.inj this).symm
 obtain ⟨cl⟩:=cs
 match cl,hl with
 | [v0,v1],_=>
   match xs,hx' with
   | [(_,p0),(_,p1)],hx' =>
     simp only [List.map_cons,List.map_nil,List.cons.injEq,and_true] at hx'
     obtain ⟨rfl,rfl⟩:=hx'
     have e0:=hel 0 f0 rfl
     have e1:=hel 1 f1 rfl
     rw [ho0,ht0,c3] at e0
     rw [ho1,ht1,c3] at e1
     obtain ⟨n0,a0,b0,_⟩:=DataW.trod_int u3 (show DataW.trod _ _ _ _ _ _ _ _ [v0]=some (_,p0) from e0)
     obtain ⟨n1,a1,b1,_⟩:=DataW.trod_int u3 (show DataW.trod _ _ _ _ _ _ _ _ [v1]=some (_,p1) from e1)
     cases a0; cases a1; cases b0; cases b1
     exact h1
theorem c139:Tryd.prog.cellsOf 139=2:=by kernel_rfl
theorem gAsks : Tryd.prog.globalNamed "prow/ticket.asks" = some 1 := by kernel_rfl
theorem tAsks:(Tryd.prog.globals[1]?).map (·.type)=some 133:=by kernel_rfl
theorem u133:Tryd.prog.underlying 133=some (.array 2 132):=by kernel_rfl
theorem u132b:(match Tryd.prog.underlying 132 with | some (.func _ _ _)=>true | _=>false)=true:=by kernel_rfl
theorem u132:∃ ps rs va,Tryd.prog.underlying 132=some (.func ps rs va):=by
 have h:=u132b
 split at h
 ·rename_i ps rs va hu; exact ⟨ps,rs,va,hu⟩
 ·cases h
theorem c132:Tryd.prog.cellsOf 132=1:=by kernel_rfl
theorem c133:Tryd.prog.cellsOf 133=2:=by kernel_rfl
theorem shape1:∃ zero,(((begin Tryd.prog (fun _ _=>0) default).world.heap[1]?).bind Obj.row?)=some (zero,133):=⟨#[.nilFunc,.nilFunc],by kernel_rfl⟩
set_option maxRecDepth 100000 in
theorem atAsks {W : World} (hS : W.ShapedOpen Tryd.prog) {laid : List (String × DataW Unit)} (h : laidMetH Tryd.prog laid W) (hm : ("prow/ticket.asks", Rows.laid_prow_ticket_asks) ∈ laid) : (bl 1 [Value.func (.func 130) #[] #[], Value.func (.func 131) #[] #[]] 133).ok W := by
 obtain ⟨z,hz⟩:=shape1
 obtain ⟨cs0,h0,_⟩:=hS.1 1 z 133 (of_decide_eq_true (by kernel_rfl)) hz
 obtain ⟨g, t, cs, fuel, p, hg, ht, hv, hd⟩ := h.funcs (n := "prow/ticket.asks") hm
 obtain rfl:=Option.some.inj (gAsks.symm.trans hg)
 obtain rfl:=Option.some.inj (tAsks.symm.trans ht)
 obtain rfl:=var_heap gAsks hv h0
 obtain ⟨xs,m,_,hx,hl,hxs,hel⟩:=DataW.trod_array u133 hd
 rw [c133] at hl
 have hx' :xs.map (·.1)=[.held [40,112,114,111,119,47,116,105,99,107,101,116,46,98,111,111,107,41,46,97,108,119,97,121,115],.held [40,112,114,111,119,47,116,105,99,107,101,116,46,98,111,111,107,41,46,115,111,109,101,116,105,109,101,115]]:=by
  have:=congrArg Prod.fst hx
  exact (DataW.agg.inj this).symm
 obtain ⟨ps,rs,va,hu⟩:=u132
 obtain ⟨cl⟩:=cs
 match cl,hl with
 | [v0,v1],_=>
   match xs,hx' with
   | [(_,p0),(_,p1)],hx' =>
     simp only [List.map_cons,List.map_nil,List.cons.injEq,and_true] at hx'
     obtain ⟨rfl,rfl⟩:=hx'
     have e0:=hel 0 (by decide)
     have e1:=hel 1 (by decide)
     rw [c132] at e0 e1
     obtain rfl:=func_of_trod (f0:=130) hu (by kernel_rfl) (show DataW.trod _ _ _ _ _ _ _ _ [v0]=some (_,p0) from e0)
     obtain rfl:=func_of_trod (f0:=131) hu (by kernel_rfl) (show DataW.trod _ _ _ _ _ _ _ _ [v1]=some (_,p1) from e1)
     exact h0
theorem gEnds : Tryd.prog.globalNamed "prow/tally.ends" = some 2 := by kernel_rfl
theorem tEnds:(Tryd.prog.globals[2]?).map (·.type)=some 142:=by kernel_rfl
theorem u142:Tryd.prog.underlying 142=some (.array 2 141):=by kernel_rfl
theorem u141b:(match Tryd.prog.underlying 141 with | some (.func _ _ _)=>true | _=>false)=true:=by kernel_rfl
theorem u141:∃ ps rs va,Tryd.prog.underlying 141=some (.func ps rs va):=by
 have h:=u141b
 split at h
 ·rename_i ps rs va hu; exact ⟨ps,rs,va,hu⟩
 ·cases h
theorem c141:Tryd.prog.cellsOf 141=1:=by kernel_rfl
theorem c142:Tryd.prog.cellsOf 142=2:=by kernel_rfl
theorem shape2:∃ zero,(((begin Tryd.prog (fun _ _=>0) default).world.heap[2]?).bind Obj.row?)=some (zero,142):=⟨#[.nilFunc,.nilFunc],by kernel_rfl⟩
set_option maxRecDepth 100000 in
theorem atEnds {W : World} (hS : W.ShapedOpen Tryd.prog) {laid : List (String × DataW Unit)} (h : laidMetH Tryd.prog laid W) (hm : ("prow/tally.ends", Rows.laid_prow_tally_ends) ∈ laid) : (bl 2 [Value.func (.func 128) #[] #[], Value.func (.func 132) #[] #[]] 142).ok W := by
 obtain ⟨z,hz⟩:=shape2
 obtain ⟨cs0,h0,_⟩:=hS.1 2 z 142 (of_decide_eq_true (by kernel_rfl)) hz
 obtain ⟨g, t, cs, fuel, p, hg, ht, hv, hd⟩ := h.funcs (n := "prow/tally.ends") hm
 obtain rfl:=Option.some.inj (gEnds.symm.trans hg)
 obtain rfl:=Option.some.inj (tEnds.symm.trans ht)
 obtain rfl:=var_heap gEnds hv h0
 obtain ⟨xs,m,_,hx,hl,hxs,hel⟩:=DataW.trod_array u142 hd
 rw [c142] at hl
 have hx' :xs.map (·.1)=[.held [40,112,114,111,119,47,116,97,108,108,121,46,99,111,117,110,116,41,46,108,101,97,115,116],.held [40,112,114,111,119,47,116,97,108,108,121,46,99,111,117,110,116,41,46,109,111,115,116]]:=by
  have:=congrArg Prod.fst hx
  exact (DataW.agg.inj this).symm
 obtain ⟨ps,rs,va,hu⟩:=u141
 obtain ⟨cl⟩:=cs
 match cl,hl with
 | [v0,v1],_=>
   match xs,hx' with
   | [(_,p0),(_,p1)],hx' =>
     simp only [List.map_cons,List.map_nil,List.cons.injEq,and_true] at hx'
     obtain ⟨rfl,rfl⟩:=hx'
     have e0:=hel 0 (by decide)
     have e1:=hel 1 (by decide)
     rw [c141] at e0 e1
     obtain rfl:=func_of_trod (f0:=128) hu (by kernel_rfl) (show DataW.trod _ _ _ _ _ _ _ _ [v0]=some (_,p0) from e0)
     obtain rfl:=func_of_trod (f0:=132) hu (by kernel_rfl) (show DataW.trod _ _ _ _ _ _ _ _ [v1]=some (_,p1) from e1)
     exact h0
def laidL : List (String × DataW Unit) := [("prow/tally.ends", Rows.laid_prow_tally_ends), ("prow/ticket.nobody", Rows.laid_prow_ticket_nobody), ("prow/ticket.asks", Rows.laid_prow_ticket_asks)]
theorem globals_ok {W:World} (hS:W.ShapedOpen Tryd.prog) (h:laidMetH Tryd.prog laidL W):(bl 0 [I (-1),I (-1)] 128).ok W∧(bl 1 [Value.func (.func 130) #[] #[],Value.func (.func 131) #[] #[]] 133).ok W∧(bl 2 [Value.func (.func 128) #[] #[],Value.func (.func 132) #[] #[]] 142).ok W:=by
 refine ⟨?_,atAsks hS h (List.mem_cons_of_mem _ (List.mem_cons_of_mem _ (List.mem_cons_self ..))),atEnds hS h (List.mem_cons_self ..)⟩
 have h' : laidMet Tryd.prog [("prow/ticket.nobody", Rows.laid_prow_ticket_nobody)] W := h.1
 obtain ⟨ps,⟨g,t,cs,fuel,p,q,hg,ht,hv,hd,_,_⟩,_⟩:=h'
 exact atNobody hS hg ht hv hd
def putCells (cs:Array Value):Obj→Obj
 | .cells _ t frozen=>.cells cs t frozen
 | o=>o
noncomputable def laidWorld (os:Os):World:=
 { World.holding Tryd.prog os ⟨#[],#[],[]⟩ with heap:=(((((World.holding Tryd.prog os ⟨#[],#[],[]⟩).heap.modify 0 (putCells #[I (-1),I (-1)])).modify 1 (putCells #[.func (.func 130) #[] #[],.func (.func 131) #[] #[]])).modify 2 (putCells #[.func (.func 128) #[] #[],.func (.func 132) #[] #[]])).modify 3 (putCells #[I (-1),I (-1)])) }
end Go.Proofs.YtafhljljfglfeaaDoor
set_option linter.constructorNameAsVariable false
set_option maxRecDepth 100000
namespace Go.Proofs.YtafhljljfglfeaaDoor
open Go Go.Fx Go.Proofs Go.ChangeShapes Go.WideShapes Go.ChangeAt Go.RowKit
theorem get_bang {α:Type} [Inhabited α] {a:Array α}{i:Nat} (h:i < a.size):a[i]? =some a[i]! :=by
 rw [Array.getElem?_eq_getElem h,getElem!_pos a i h]
theorem st {t n:Nat} (u:Tryd.prog.underlying t=some (.struct (Tryd.prog.fieldsOf t))) (c:Tryd.prog.cellsOf t=n) (s:(Tryd.prog.fieldsOf t).size=n)
 (b:((List.range n).all fun i=>(Tryd.prog.fieldsOf t)[i]!.offset==i&&(Tryd.prog.fieldsOf t)[i]!.type==3)=true):FlatI Tryd.prog t n:=by
 refine flat_struct u c (fun i hi=>?_) s
 refine ⟨_,get_bang (by rw [s]; exact hi),?_⟩
 have:=List.all_eq_true.1 b i (List.mem_range.2 hi)
 simp only [Bool.and_eq_true,beq_iff_eq] at this
 exact ⟨this.1,by rw [this.2]; exact u3,by rw [this.2]; exact c3⟩
theorem c81:Tryd.prog.cellsOf 81=7:=by kernel_rfl
theorem c65:Tryd.prog.cellsOf 65=2:=by kernel_rfl
theorem c67:Tryd.prog.cellsOf 67=3:=by kernel_rfl
theorem c72:Tryd.prog.cellsOf 72=4:=by kernel_rfl
theorem c29:Tryd.prog.cellsOf 29=7:=by kernel_rfl
theorem c24:Tryd.prog.cellsOf 24=3:=by kernel_rfl
theorem c22:Tryd.prog.cellsOf 22=1:=by kernel_rfl
theorem c25:Tryd.prog.cellsOf 25=1:=by kernel_rfl
theorem c26:Tryd.prog.cellsOf 26=1:=by kernel_rfl
theorem c27:Tryd.prog.cellsOf 27=1:=by kernel_rfl
theorem u22:Tryd.prog.underlying 22=some (.slice 81):=by kernel_rfl
theorem u25:Tryd.prog.underlying 25=some (.slice 65):=by kernel_rfl
theorem u26:Tryd.prog.underlying 26=some (.slice 67):=by kernel_rfl
theorem u27:Tryd.prog.underlying 27=some (.slice 72):=by kernel_rfl
theorem u29:Tryd.prog.underlying 29=some (.struct (Tryd.prog.fieldsOf 29)):=by kernel_rfl
theorem u24:Tryd.prog.underlying 24=some (.struct (Tryd.prog.fieldsOf 24)):=by kernel_rfl
theorem flat81:FlatI Tryd.prog 81 7:=st (by kernel_rfl) c81 (by kernel_rfl) (by kernel_rfl)
theorem flat65:FlatI Tryd.prog 65 2:=st (by kernel_rfl) c65 (by kernel_rfl) (by kernel_rfl)
theorem flat67:FlatI Tryd.prog 67 3:=st (by kernel_rfl) c67 (by kernel_rfl) (by kernel_rfl)
theorem flat72:FlatI Tryd.prog 72 4:=st (by kernel_rfl) c72 (by kernel_rfl) (by kernel_rfl)
theorem f29s:(Tryd.prog.fieldsOf 29).size=5:=by kernel_rfl
theorem f29b:([(0,0,24),(1,3,3),(2,4,25),(3,5,26),(4,6,27)].all fun (x:Nat×Nat×Nat)=>(Tryd.prog.fieldsOf 29)[x.1]!.offset==x.2.1&&(Tryd.prog.fieldsOf 29)[x.1]!.type==x.2.2)=true:=by kernel_rfl
theorem f24s:(Tryd.prog.fieldsOf 24).size=3:=by kernel_rfl
theorem f24b:([(0,0,3),(1,1,3),(2,2,22)].all fun (x:Nat×Nat×Nat)=>(Tryd.prog.fieldsOf 24)[x.1]!.offset==x.2.1&&(Tryd.prog.fieldsOf 24)[x.1]!.type==x.2.2)=true:=by kernel_rfl
theorem maxLen_le:maxLen≤9223372036854775807:=by decide
def cntOf (l:List Int):TallyCount:=⟨l.getD 0 0,l.getD 1 0,l.getD 2 0,l.getD 3 0,l.getD 4 0,l.getD 5 0,l.getD 6 0⟩
theorem cntOf_cells {l:List Int} (h:l.length=7):eTallyCount (cntOf l)=l.map I:=by
 match l,h with
 | [_,_,_,_,_,_,_],_=>rfl
def seasOf (l:List Int):TicketSeason:=⟨l.getD 0 0,l.getD 1 0⟩
theorem seasOf_cells {l:List Int} (h:l.length=2):eTicketSeason (seasOf l)=l.map I:=by
 match l,h with
 | [_,_],_=>rfl
def showOf (l:List Int):TicketShow:=⟨l.getD 0 0,l.getD 1 0,l.getD 2 0⟩
theorem showOf_cells {l:List Int} (h:l.length=3):eTicketShow (showOf l)=l.map I:=by
 match l,h with
 | [_,_,_],_=>rfl
def boxOf (l:List Int):TicketBox:=⟨l.getD 0 0,l.getD 1 0,l.getD 2 0,l.getD 3 0⟩
theorem boxOf_cells {l:List Int} (h:l.length=4):eTicketBox (boxOf l)=l.map I:=by
 match l,h with
 | [_,_,_,_],_=>rfl
variable {H:Type}{enc:TypeId×Value→H}{w:World}{spare:Nat→Bool}{held:Bool}{r:Reach}{b0:Nat}{v:Value}{d:DataW H}{ps:List MemPlace}
theorem dec_box (hval:Value.okWide Tryd.prog w r b0 72 v) (hd:DataW.Trod enc Tryd.prog w 0 spare held 72 v d ps):∃ x:TicketBox,v=AG [I x.From,I x.To,I x.Pence,I x.Lost]∧InI x.From∧InI x.To∧InI x.Pence∧InI x.Lost:=by
 obtain ⟨l,hl,rfl,hy⟩:=dec_flat (by kernel_rfl) flat72 hval hd
 match l,hl with
 | [a,b,c,e],_=>exact ⟨⟨a,b,c,e⟩,rfl,hy a (by simp),hy b (by simp),hy c (by simp),hy e (by simp)⟩
theorem tally_of {fuel:Nat}{cs:List Value}{x:DataW H×List MemPlace} (h:DataW.trod enc Tryd.prog w 0 spare held fuel 24 cs=some x):∃ A c,∃ b:TallyBook,cs=[I b.Trips,I b.Room,SL A b.Counts.length c]∧(rd eTallyCount 7 A c b.Counts).ok w∧b.Counts.length≤9223372036854775807:=by
 obtain ⟨xs,m,_,_,hl,hxs,hel⟩:=DataW.trod_struct u24 h
 rw [c24] at hl
 rw [f24s] at hxs
 have fb:=f24b
 simp only [List.all_cons,List.all_nil,Bool.and_eq_true,beq_iff_eq,and_true] at fb
 obtain ⟨⟨o0,t0⟩,⟨o1,t1⟩,⟨o2,t2⟩⟩:=fb
 have e0:=hel 0 _ (get_bang (by rw [f24s]; decide))
 have e1:=hel 1 _ (get_bang (by rw [f24s]; decide))
 have e2:=hel 2 _ (get_bang (by rw [f24s]; decide))
 rw [o0,t0,c3,List.getElem?_eq_getElem (by omega)] at e0
 rw [o1,t1,c3,List.getElem?_eq_getElem (by omega)] at e1
 rw [o2,t2,c22,List.getElem?_eq_getElem (by omega)] at e2
 obtain ⟨n0,g0,_,_⟩:=DataW.trod_int u3 e0
 obtain ⟨n1,g1,_,_⟩:=DataW.trod_int u3 e1
 obtain ⟨A,c,l,g2,h1,h2⟩:=slice_flat u22 flat81 c81 (by decide) e2
 have m2:=rd_map (e2:=eTallyCount) cntOf (fun x hx=>cntOf_cells (h1 x hx).1) h2
 refine ⟨A,c,⟨n0,n1,l.map cntOf⟩,?_,m2,?_⟩
 ·match cs,hl with
  | [y0,y1,y2],_=>
    simp at g0 g1 g2
    subst g0 g1 g2
    simp
 ·have:=maxLen_le; have:=m2.2.1; have:=m2.2.2; simp only; omega
theorem dec_book (hval:Value.okWide Tryd.prog w r b0 29 v) (hd:DataW.Trod enc Tryd.prog w 0 spare held 29 v d ps):∃ A1 c1 A2 c2 A3 c3 A4 c4,∃ b:TicketBook,v=AG [I b.Tally.Trips,I b.Tally.Room,SL A1 b.Tally.Counts.length c1,I b.Fare,SL A2 b.Tickets.length c2,SL A3 b.Shows.length c3,SL A4 b.Boxes.length c4]∧
 (rd eTallyCount 7 A1 c1 b.Tally.Counts).ok w∧(rd eTicketSeason 2 A2 c2 b.Tickets).ok w∧(rd eTicketShow 3 A3 c3 b.Shows).ok w∧(rd eTicketBox 4 A4 c4 b.Boxes).ok w∧b.Tally.Counts.length≤9223372036854775807∧b.Tickets.length≤9223372036854775807∧b.Shows.length≤9223372036854775807∧b.Boxes.length≤9223372036854775807:=by
 obtain ⟨cs,rfl⟩:=okWide_cells (by kernel_rfl) hval
 obtain ⟨fuel,hf⟩:=hd
 obtain ⟨xs,m,_,_,hl,hxs,hel⟩:=DataW.trod_struct u29 hf
 rw [c29] at hl
 rw [f29s] at hxs
 have fb:=f29b
 simp only [List.all_cons,List.all_nil,Bool.and_eq_true,beq_iff_eq,and_true] at fb
 obtain ⟨⟨o0,t0⟩,⟨o1,t1⟩,⟨o2,t2⟩,⟨o3,t3⟩,⟨o4,t4⟩⟩:=fb
 have e0:=hel 0 _ (get_bang (by rw [f29s]; decide))
 have e1:=hel 1 _ (get_bang (by rw [f29s]; decide))
 have e2:=hel 2 _ (get_bang (by rw [f29s]; decide))
 have e3:=hel 3 _ (get_bang (by rw [f29s]; decide))
 have e4:=hel 4 _ (get_bang (by rw [f29s]; decide))
 rw [o0,t0,c24,List.getElem?_eq_getElem (by omega)] at e0
 rw [o1,t1,c3,List.getElem?_eq_getElem (by omega)] at e1
 rw [o2,t2,c25,List.getElem?_eq_getElem (by omega)] at e2
 rw [o3,t3,c26,List.getElem?_eq_getElem (by omega)] at e3
 rw [o4,t4,c27,List.getElem?_eq_getElem (by omega)] at e4
 obtain ⟨A0,d0,l0,g0,m0,n0⟩:=tally_of e0
 obtain ⟨n1,g1,_,_⟩:=DataW.trod_int u3 e1
 obtain ⟨A2,c2',l2,g2,h21,h22⟩:=slice_flat u25 flat65 c65 (by decide) e2
 obtain ⟨A3,c3',l3,g3,h31,h32⟩:=slice_flat u26 flat67 c67 (by decide) e3
 obtain ⟨A4,c4',l4,g4,h41,h42⟩:=slice_flat u27 flat72 c72 (by decide) e4
 have m2:=rd_map (e2:=eTicketSeason) seasOf (fun x hx=>seasOf_cells (h21 x hx).1) h22
 have m3:=rd_map (e2:=eTicketShow) showOf (fun x hx=>showOf_cells (h31 x hx).1) h32
 have m4:=rd_map (e2:=eTicketBox) boxOf (fun x hx=>boxOf_cells (h41 x hx).1) h42
 refine ⟨A0,d0,A2,c2',A3,c3',A4,c4',⟨l0,n1,l2.map seasOf,l3.map showOf,l4.map boxOf⟩,?_,m0,m2,m3,m4,n0,?_,?_,?_⟩
 ·obtain ⟨cl⟩:=cs
  match cl,hl with
  | [y0,y1,y2,y3,y4,y5,y6],_=>
    simp [Value.cells] at g0 g1 g2 g3 g4
    obtain ⟨rfl,rfl,rfl⟩:=g0
    subst g1 g2 g3 g4
    simp
 ·have:=maxLen_le; have:=m2.2.1; have:=m2.2.2; simp only; omega
 ·have:=maxLen_le; have:=m3.2.1; have:=m3.2.2; simp only; omega
 ·have:=maxLen_le; have:=m4.2.1; have:=m4.2.2; simp only; omega
end Go.Proofs.YtafhljljfglfeaaDoor
namespace Go.Proofs.YtafhljljfglfeaaDoor
open Go Go.Fx Go.Tally
theorem wrI {x:Int} (h0:-9223372036854775808≤x) (h1:x≤9223372036854775807):Fx.wr x=x:=wr_eq h0 h1
def inB (a lo hi:Int):Bool:=decide (lo≤a)&&decide (a≤hi)
theorem inB_iff {a lo hi:Int}:inB a lo hi=true↔lo≤a∧a≤hi:=by simp [inB]
theorem within_eq (a b c:Int):tally_within a b c=some (inB a b c):=by
 unfold tally_within inB
 cases decide (b≤a) <;> rfl
theorem inside_eq (a b c:Int):B_Inside a b c=some (inB a b c):=by
 unfold B_Inside inB
 rw [show decide (a≥b)=decide (b≤a) from rfl]
 cases decide (b≤a) <;> rfl
def tripsB (T f t:Int):Bool:=inB f 0 t&&decide (t < T)
theorem isTrips_eq (b:TallyBook) (f t:Int):tally_isTrips b f t=some (tripsB b.Trips f t):=by
 unfold tally_isTrips tripsB
 rw [within_eq]
 simp only [Option.bind_some]
 cases inB f 0 t <;> rfl
def cntB (T:Int) (x:TallyCount):Bool:=inB x.Who 0 2&&tripsB T x.From x.To&&inB x.Told 0 99&&inB x.Unit 1 20&&inB x.Under 0 30&&inB x.Over 0 30&&((x.Who != 1)||(x.Over==0))
theorem isCount_eq (b:TallyBook) (x:TallyCount):tally_isCount b x=some (cntB b.Trips x):=by
 unfold tally_isCount tally_isCount_j1 cntB
 simp only [within_eq,isTrips_eq,Option.bind_some]
 cases inB x.Who 0 2 <;> cases tripsB b.Trips x.From x.To <;> cases inB x.Told 0 99 <;> cases inB x.Unit 1 20 <;> cases inB x.Under 0 30 <;> cases inB x.Over 0 30 <;> cases (x.Who != 1) <;> rfl
def cntsB (T:Int) (l:List TallyCount):Bool:=l.all (cntB T)
def valB (b:TallyBook):Bool:=inB b.Trips 1 8&&inB b.Room 0 60&&decide ((b.Counts.length:Int)≤8)&&cntsB b.Trips b.Counts
theorem getI_lt {α:Type}{l:List α}{i:Int} (h0:0≤i) (h:i < l.length):∃ x,getI l i=some x∧l[i.toNat]? =some x:=by
 have hi:i.toNat < l.length:=by omega
 exact ⟨l[i.toNat],getI_of h0 (List.getElem?_eq_getElem hi),List.getElem?_eq_getElem hi⟩
theorem drop_get {α:Type}{l:List α}{k:Nat}{x:α} (h:l[k]? =some x):l.drop k=x::l.drop (k+1):=by
 obtain ⟨h1,rfl⟩:=List.getElem?_eq_some_iff.1 h
 exact List.drop_eq_getElem_cons h1
theorem check_loop (b:TallyBook) (hl:b.Counts.length≤9223372036854775807) (ok:Bool):loopF (tally_Check_l2 b) big (ok,0)=some (bif ok&&cntsB b.Trips b.Counts then 0 else 50):=by
 refine loopF_spec (fun s:Bool×Int=>0≤s.2∧s.2≤b.Counts.length) (fun s=>b.Counts.length - s.2.toNat) (fun s=>bif s.1&&cntsB b.Trips (b.Counts.drop s.2.toNat) then 0 else 50) ?_ big (ok,0) ⟨by simp,by simp⟩ (by unfold big; simp; omega)
 rintro rec ⟨ok,i⟩ ⟨h0,h1⟩ ih
 simp only at h0 h1 ih ⊢
 unfold tally_Check_l2
 simp only
 by_cases hi:i < b.Counts.length
 ·rw [decide_eq_true hi,cond_true]
  obtain ⟨x,hx,hx'⟩:=getI_lt h0 hi
  rw [hx,Option.bind_some]
  have hd:=drop_get hx'
  have hw:Fx.wr (i+1)=i+1:=wrI (by omega) (by omega)
  have e:(i+1).toNat=i.toNat+1:=by omega
  rw [hd,hw]
  cases ok with
  | true=>
    rw [cond_true,isCount_eq,Option.bind_some,ih _ ⟨by simp; omega,by simp; omega⟩ (by simp; omega)]
    simp only [e,cntsB,List.all_cons,Bool.true_and]
  | false=>
    rw [cond_false,ih _ ⟨by simp; omega,by simp; omega⟩ (by simp; omega)]
    simp
 ·rw [decide_eq_false hi,cond_false,show b.Counts.drop i.toNat=[] from List.drop_eq_nil_of_le (by omega)]
  cases ok <;> simp [cntsB]
theorem check_eq (b:TallyBook) (hl:b.Counts.length≤9223372036854775807):tally_Check b=some (bif valB b then 0 else 50):=by
 unfold tally_Check tally_Check_j3 valB
 simp only [within_eq,Option.bind_some,check_loop b hl]
 cases inB b.Trips 1 8 <;> cases inB b.Room 0 60 <;> simp
theorem mod_ok (a m:Int) (h:0 < m) (h2:m≤9223372036854775807):∃ r,B_Mod a m=some r∧0≤r∧r < m:=by
 unfold B_Mod modI
 rw [decide_eq_false (by omega),cond_false,need_of (by simp; omega)]
 have h3:=Int.tmod_lt_of_pos a h
 have h4:=Int.lt_tmod_of_pos a h
 by_cases hn:a.tmod m < 0
 ·rw [decide_eq_true hn,cond_true,wrI (by omega) (by omega)]
  exact ⟨_,rfl,by omega,by omega⟩
 ·rw [decide_eq_false hn,cond_false]
  exact ⟨_,rfl,by omega,by omega⟩
structure Val (b:TallyBook):Prop where
 t1:1≤b.Trips
 t8:b.Trips≤8
 r0:0≤b.Room
 r60:b.Room≤60
 l8:b.Counts.length≤8
 cs:∀ x∈b.Counts,cntB b.Trips x=true
structure Bk (b:TallyBook):Prop where
 t1:1≤b.Trips
 t8:b.Trips≤8
 r0:0≤b.Room
 r60:b.Room≤60
 l9:b.Counts.length≤9
 cs:∀ x∈b.Counts,cntB b.Trips x=true
theorem Val.bk {b:TallyBook} (h:Val b):Bk b:=⟨h.t1,h.t8,h.r0,h.r60,by have:=h.l8; omega,h.cs⟩
theorem val_iff {b:TallyBook}:valB b=true↔Val b:=by
 unfold valB cntsB
 simp only [Bool.and_eq_true,inB_iff,decide_eq_true_eq,List.all_eq_true]
 constructor
 ·rintro ⟨⟨⟨⟨a,b⟩,c,d⟩,e⟩,f⟩; exact ⟨a,b,c,d,by omega,f⟩
 ·rintro ⟨a,b,c,d,e,f⟩; exact ⟨⟨⟨⟨a,b⟩,c,d⟩,by omega⟩,f⟩
theorem check_ok {b:TallyBook} (h:Val b):tally_Check b=some 0:=by
 rw [check_eq b (by have:=h.l8; omega),val_iff.2 h]; rfl
structure Cnt (T:Int) (x:TallyCount):Prop where
 w0:0≤x.Who
 w2:x.Who≤2
 f0:0≤x.From
 ft:x.From≤x.To
 tT:x.To < T
 o0:0≤x.Told
 o99:x.Told≤99
 u1:1≤x.Unit
 u20:x.Unit≤20
 d0:0≤x.Under
 d30:x.Under≤30
 v0:0≤x.Over
 v30:x.Over≤30
 st:x.Who=1→x.Over=0
theorem cnt_iff {T:Int}{x:TallyCount}:cntB T x=true↔Cnt T x:=by
 unfold cntB tripsB
 simp only [Bool.and_eq_true,inB_iff,decide_eq_true_eq,Bool.or_eq_true,bne_iff_ne,beq_iff_eq]
 constructor
 ·intro h; obtain ⟨⟨⟨⟨⟨⟨⟨a,b⟩,⟨c,d⟩,e⟩,f,g⟩,h,i⟩,j,k⟩,l,m⟩,n⟩:=h
  exact ⟨a,b,c,d,e,f,g,h,i,j,k,l,m,fun h=>by omega⟩
 ·rintro ⟨a,b,c,d,e,f,g,h,i,j,k,l,m,n⟩
  exact ⟨⟨⟨⟨⟨⟨⟨a,b⟩,⟨c,d⟩,e⟩,f,g⟩,h,i⟩,j,k⟩,l,m⟩,by omega⟩
theorem Cnt.prod {T:Int}{x:TallyCount} (h:Cnt T x):0≤x.Told*x.Unit∧x.Told*x.Unit≤1980:=by
 have h1:=h.o0; have h2:=h.o99; have h3:=h.u1; have h4:=h.u20
 constructor
 ·exact Int.mul_nonneg h1 (by omega)
 ·have:x.Told*x.Unit≤99*20:=Int.mul_le_mul h2 h4 (by omega) (by omega)
  omega
def mostV (x:TallyCount):Int:=x.Told*x.Unit+x.Under
def leastV (x:TallyCount):Int:=x.Told*x.Unit - x.Over
theorem most_eq {T:Int}{x:TallyCount} (h:Cnt T x):tally_count_most x=some (mostV x):=by
 have:=h.prod; have:=h.d0; have:=h.d30
 unfold tally_count_most mostV
 rw [wrI (x:=x.Told*x.Unit) (by omega) (by omega),wrI (by omega) (by omega)]
theorem least_eq {T:Int}{x:TallyCount} (h:Cnt T x):tally_count_least x=some (leastV x):=by
 have:=h.prod; have:=h.v0; have:=h.v30
 unfold tally_count_least leastV
 rw [wrI (x:=x.Told*x.Unit) (by omega) (by omega),wrI (by omega) (by omega)]
theorem getI_ix {α:Type}{l:List α}{k:Nat} (h:k < l.length):getI l (k:Int)=some l[k]:=by rw [getI_nat,List.getElem?_eq_getElem h]
theorem loop_fold {σ ρ:Type}{body:(σ→Option ρ)→σ→Option ρ} (S:Nat→σ) (n:Nat) {R:Option ρ} (hs:∀ rec k,k < n→body rec (S k)=rec (S (k+1))) (he:∀ rec,body rec (S n)=R) (hn:n < big):loopF body big (S 0)=R:=by
 have key:∀ d k m,k+d=n→d < m→loopF body m (S k)=R:=by
  intro d
  induction d with
  | zero=>
    intro k m h1 h2
    obtain ⟨m,rfl⟩:∃ q,m=q+1:=⟨m - 1,by omega⟩
    obtain rfl:k=n:=by omega
    exact he _
  | succ d ih=>
    intro k m h1 h2
    obtain ⟨m,rfl⟩:∃ q,m=q+1:=⟨m - 1,by omega⟩
    show body (loopF body m) (S k)=R
    rw [hs _ k (by omega)]
    exact ih (k+1) m (by omega) (by omega)
 exact key n 0 big (by omega) hn
theorem loop_fold0 {σ ρ:Type}{body:(σ→Option ρ)→σ→Option ρ} (S:Nat→σ) (n:Nat) {s0:σ}{R:Option ρ} (hs:∀ rec k,k < n→body rec (S k)=rec (S (k+1))) (he:∀ rec,body rec (S n)=R) (hn:n < big) (h0:S 0=s0):loopF body big s0=R:=h0▸loop_fold S n hs he hn
theorem big_eq:big=18446744073709551616:=by decide
def allTo {α:Type} (p:α→Bool) (l:List α) (ok:Bool) (k:Nat):Bool:=ok&&(l.take k).all p
theorem allTo_zero {α:Type}{p:α→Bool}{l:List α}{ok:Bool}:allTo p l ok 0=ok:=by simp [allTo]
theorem allTo_succ {α:Type}{p:α→Bool}{l:List α}{ok:Bool}{k:Nat} (h:k < l.length):allTo p l ok (k+1)=(allTo p l ok k&&p l[k]):=by
 unfold allTo
 rw [← List.take_append_getElem h,List.all_append]
 simp [Bool.and_assoc]
theorem allTo_end {α:Type}{p:α→Bool}{l:List α}{ok:Bool}:allTo p l ok l.length=(ok&&l.all p):=by simp [allTo]
theorem wrN {k:Nat}{n:Nat} (h:k < n) (hn:n≤9223372036854775807):Fx.wr ((k:Int)+1)=((k+1:Nat):Int):=by rw [wrI (by omega) (by omega)]; omega
theorem loop_at {σ ρ:Type}{body:(σ→Option ρ)→σ→Option ρ}{s:σ}{R:Option ρ} (h:∀ rec,body rec s=R):loopF body big s=R:=by
 rw [big_eq]; exact h _
end Go.Proofs.YtafhljljfglfeaaDoor
namespace Go.Proofs.YtafhljljfglfeaaDoor
open Go Go.Fx Go.Tally
abbrev LP:=List (Tally_pair×Int)
def PotP (m:LP) (q:Nat→Int):Prop:=Pot (m.map entOf) q
def Has (m:LP) (p:Tally_pair) (n:Int):Prop:=∃ v,v≤n∧(p,v)∈m
structure NoteR (m m' :LP) (p:Tally_pair) (n:Int):Prop where
 pot:∀ q,PotP m' q↔PotP m q∧q p.to_.toNat≤q p.from_.toNat+n
 has:∀ p' n',Has m p' n' →Has m' p' n'
 own:Has m' p n
 len:m'.length≤m.length+1
 keys:∀ e∈m',e.1=p∨∃ e' ∈m,e.1=e'.1
 vals:∀ lo hi,lo≤n→n≤hi→(∀ e∈m,lo≤e.2∧e.2≤hi)→∀ e∈m',lo≤e.2∧e.2≤hi
structure Ok (t:Int) (m:LP) (n:Nat):Prop where
 keys:∀ e∈m,0≤e.1.from_∧e.1.from_≤t∧0≤e.1.to_∧e.1.to_≤t
 vals:∀ e∈m,-10000≤e.2∧e.2≤10000
 len:m.length≤n
def Steps (t r:Int) (q:Nat→Int):Prop:=∀ k:Nat,(k:Int) < t→q (k+1)≤q k+r∧q k≤q (k+1)
def CntQ (x:TallyCount) (q:Nat→Int):Prop:=leastV x≤q (x.To+1).toNat - q x.From.toNat∧q (x.To+1).toNat - q x.From.toNat≤mostV x
def CntsQ (l:List TallyCount) (out:TallyCount→Nat→Bool) (q:Nat→Int):Prop:=∀ i x,l[i]? =some x→out x i=false→CntQ x q
def Fit (b:TallyBook) (out:TallyCount→Nat→Bool) (q:Nat→Int):Prop:=Steps b.Trips b.Room q∧CntsQ b.Counts out q
structure Opn (b:TallyBook) (out:TallyCount→Nat→Bool) (m:LP):Prop where
 val:Bk b
 ok:Ok b.Trips m 34
 has:∀ k:Nat,(k:Int) < b.Trips→Has m ⟨k,k+1⟩ b.Room∧Has m ⟨k+1,k⟩ 0
 pot:∀ q,PotP m q↔Fit b out q
structure Spn (F:(Nat→Int)→Prop) (a c:Nat) (lo hi:Int):Prop where
 loE:∃ q,F q∧q c - q a=lo
 hiE:∃ q,F q∧q c - q a=hi
 all:∀ q,F q→lo≤q c - q a∧q c - q a≤hi
theorem Fit.shift {b:TallyBook}{out:TallyCount→Nat→Bool}{q:Nat→Int} (h:Fit b out q) (c:Int):Fit b out (fun v=>q v - c):=by
 refine ⟨fun k hk=>?_,fun i x hx ho=>?_⟩
 ·have:=h.1 k hk; show q _ - c≤q _ - c+_∧q _ - c≤q _ - c; omega
 ·have:=h.2 i x hx ho; unfold CntQ at *; show _≤q _ - c - (q _ - c)∧q _ - c - (q _ - c)≤_; omega
end Go.Proofs.YtafhljljfglfeaaDoor
namespace Go.Proofs.YtafhljljfglfeaaDoor
open Go Go.Fx Go.Tally
def no:TallyCount→Nat→Bool:=fun _ _=>false
theorem trips_iff {T f t:Int}:tripsB T f t=true↔0≤f∧f≤t∧t < T:=by
 unfold tripsB
 rw [Bool.and_eq_true,inB_iff,decide_eq_true_eq]
 omega
theorem steps_bnd {t r:Int} (t8:t≤8) (r0:0≤r) (r60:r≤60) {q:Nat→Int} (h:Steps t r q):∀ (d a:Nat),((a+d:Nat):Int)≤t→0≤q (a+d) - q a∧q (a+d) - q a≤r*d:=by
 intro d
 induction d with
 | zero=>intro a _; simp
 | succ d ih=>
   intro a hk
   have h1:=ih a (by omega)
   have h2:=h (a+d) (by omega)
   rw [show a+(d+1)=a+d+1 by omega]
   have:r*((d+1:Nat):Int)=r*(d:Int)+r:=by rw [Int.natCast_add,Int.mul_add]; simp
   omega
theorem fit_bnd {b:TallyBook} (V:Bk b) {out:TallyCount→Nat→Bool}{q:Nat→Int} (h:Fit b out q) {a c:Nat} (hac:a≤c) (hc:(c:Int)≤b.Trips):0≤q c - q a∧q c - q a≤b.Room*((c:Int) - a):=by
 have:=steps_bnd V.t8 V.r0 V.r60 h.1 (c - a) a (by omega)
 rw [show a+(c - a)=c by omega] at this
 rw [show ((c:Int) - a)=((c - a:Nat):Int) by omega]
 exact this
theorem room_mul {b:TallyBook} (V:Bk b) {n:Int} (h0:0≤n) (h8:n≤8):0≤b.Room*n∧b.Room*n≤480:=by
 have:=V.r0; have:=V.r60
 constructor
 ·exact Int.mul_nonneg (by omega) h0
 ·have:b.Room*n≤60*8:=Int.mul_le_mul (by omega) h8 h0 (by omega)
  omega
theorem Spn.bnd {b:TallyBook} (V:Bk b) {out:TallyCount→Nat→Bool}{a c:Nat}{lo hi:Int} (S:Spn (Fit b out) a c lo hi) (hac:a≤c) (hc:(c:Int)≤b.Trips):0≤lo∧lo≤hi∧hi≤b.Room*((c:Int) - a)∧hi≤480:=by
 obtain ⟨q,hq,h1⟩:=S.loE
 obtain ⟨q',hq',h2⟩:=S.hiE
 have a1:=fit_bnd V hq hac hc
 have a2:=fit_bnd V hq' hac hc
 have a3:=S.all q hq
 have a4:=V.t8
 have a5:=room_mul V (n:=(c:Int) - a) (by omega) (by omega)
 omega
end Go.Proofs.YtafhljljfglfeaaDoor
namespace Go.Proofs.YtafhljljfglfeaaDoor
open Go Go.Fx Go.Tally
def pre (u:List Int) (k:Nat):Int:=(u.take k).sum
theorem pre_succ {u:List Int}{k:Nat}{x:Int} (h:u[k]? =some x):pre u (k+1)=pre u k+x:=by
 unfold pre
 obtain ⟨h1,rfl⟩:=List.getElem?_eq_some_iff.1 h
 rw [List.take_succ_eq_append_getElem h1,List.sum_append]
 simp
theorem pre_cut {u:List Int}{a c:Nat} (h:a≤c):((u.take c).drop a).sum=pre u c - pre u a:=by
 unfold pre
 have:=List.take_append_drop a (u.take c)
 have h2:=congrArg List.sum this
 rw [List.sum_append,List.take_take,Nat.min_eq_left h] at h2
 omega
theorem sum_bnd {l:List Int} (h:∀ n∈l,0≤n∧n≤60):0≤l.sum∧l.sum≤60*l.length:=by
 induction l with
 | nil=>simp
 | cons x l ih=>
   have h1:=h x (List.mem_cons_self ..)
   have h2:=ih fun n hn=>h n (List.mem_cons_of_mem _ hn)
   simp only [List.sum_cons,List.length_cons]
   omega
theorem sum_eq {l:List Int} (hl:l.length≤8) (h:∀ n∈l,0≤n∧n≤60):tally_sum l=some l.sum:=by
 unfold tally_sum
 refine loopF_spec (body:=tally_sum_l1 l) (fun z:Int×Int=>∃ k:Nat,z.2=k∧k≤l.length∧z.1=pre l k) (fun z=>l.length - z.2.toNat) (fun _=>l.sum) ?_ big (0,0) ⟨0,rfl,Nat.zero_le _,by simp [pre]⟩ (by unfold big; simp; omega)
 rintro rec ⟨s,i⟩ ⟨k,rfl,hk,rfl⟩ ih
 simp only at ih ⊢
 unfold tally_sum_l1
 simp only
 by_cases hlt:k < l.length
 ·rw [decide_eq_true (by omega),cond_true,getI_nat,List.getElem?_eq_getElem hlt,Option.bind_some]
  have hx:=List.getElem?_eq_getElem hlt
  generalize l[k]=x at hx
  have h1:=h x (List.mem_of_getElem? hx)
  have h2:=sum_bnd (l:=l.take k) fun n hn=>h n (List.mem_of_mem_take hn)
  have h3:(l.take k).length≤8:=by simp; omega
  rw [show (l.take k).sum=pre l k from rfl] at h2
  rw [wrI (x:=pre l k+x) (by omega) (by omega),wrI (by omega) (by omega)]
  exact ih _ ⟨k+1,by simp,by omega,(pre_succ hx).symm⟩ (by (try simp only); omega)
 ·rw [decide_eq_false (by omega),cond_false]
  unfold pre
  rw [List.take_of_length_le (by omega)]
theorem cutI_eq {α:Type}{l:List α}{a c:Int} (h0:0≤a) (h1:a≤c) (h2:c≤l.length):cutI l a c=some ((l.take c.toNat).drop a.toNat):=by
 unfold cutI
 simp [h0,h1,h2]
theorem mem_cut {α:Type}{l:List α}{a c:Nat}{x:α} (h:x∈(l.take c).drop a):x∈l:=List.mem_of_mem_take (List.mem_of_mem_drop h)
structure Tru (b:TallyBook) (u:List Int):Prop where
 len:(u.length:Int)=b.Trips
 bnd:∀ n∈u,0≤n∧n≤b.Room
theorem Tru.steps {b:TallyBook}{u:List Int} (h:Tru b u):Steps b.Trips b.Room (pre u):=by
 intro k hk
 have hlt:k < u.length:=by have:=h.len; omega
 have hx:=List.getElem?_eq_getElem hlt
 have:=h.bnd _ (List.mem_of_getElem? hx)
 rw [pre_succ hx]
 omega
theorem count_right {b:TallyBook} (V:Bk b) {u:List Int} (hu:Tru b u) {x:TallyCount} (hx:Cnt b.Trips x):∃ r,tally_count_right x u=some r∧(r=true↔CntQ x (pre u)):=by
 have:=hu.len; have:=V.t8; have:=V.r60; have f0:=hx.f0; have ft:=hx.ft; have tT:=hx.tT
 unfold tally_count_right
 rw [wrI (x:=x.To+1) (by omega) (by omega),cutI_eq (by omega) (by omega) (by omega),Option.bind_some]
 rw [sum_eq (by simp; omega) (fun n hn=>by have:=hu.bnd n (mem_cut hn); omega),Option.bind_some,least_eq hx,Option.bind_some,most_eq hx,Option.bind_some,within_eq]
 refine ⟨_,rfl,?_⟩
 rw [inB_iff,pre_cut (by omega)]
 rfl
theorem can_law {b:TallyBook} (V:Val b) {u:List Int} (hu:Tru b u):∃ r,tally_Can b u=some (r,0)∧(r=true↔Fit b no (pre u)):=by
 have hlen:=hu.len; have t8:=V.t8; have l8:=V.l8
 have second:∃ p,loopF (tally_Can_l2 b u) big 0=some p∧p.2=0∧(p.1=true↔Fit b no (pre u)):=by
  refine loopF_inv (body:=tally_Can_l2 b u) (fun z:Int=>∃ k:Nat,z=k∧k≤b.Counts.length∧∀ j x,j < k→b.Counts[j]? =some x→CntQ x (pre u)) (fun z=>b.Counts.length - z.toNat) (fun p=>p.2=0∧(p.1=true↔Fit b no (pre u))) ?_ big 0 ⟨0,rfl,Nat.zero_le _,fun j x h=>absurd h (Nat.not_lt_zero j)⟩ (by unfold big; simp; omega)
  rintro rec z ⟨k,rfl,hk,hq⟩ ih
  unfold tally_Can_l2
  by_cases hlt:k < b.Counts.length
  ·rw [decide_eq_true (by omega),cond_true,getI_nat,List.getElem?_eq_getElem hlt,Option.bind_some]
   have hx:=List.getElem?_eq_getElem hlt
   generalize b.Counts[k]=x at hx
   obtain ⟨r,hr,hi⟩:=count_right V.bk hu (cnt_iff.1 (V.cs x (List.mem_of_getElem? hx)))
   rw [hr,Option.bind_some]
   cases r with
   | false=>
     refine ⟨_,rfl,rfl,?_⟩
     simp only [Bool.false_eq_true,false_iff]
     intro h
     have:=hi.2 (h.2 k x hx rfl)
     cases this
   | true=>
     rw [Bool.not_true,cond_false,wrI (by omega) (by omega)]
     refine ih _ ⟨k+1,by simp,by omega,fun j y hj hy=>?_⟩ (by (try simp only); omega)
     by_cases hjk:j=k
     ·subst hjk; rw [hx] at hy; cases hy; exact hi.1 rfl
     ·exact hq j y (by omega) hy
  ·rw [decide_eq_false (by omega),cond_false]
   refine ⟨_,rfl,rfl,?_⟩
   simp only [true_iff]
   exact ⟨hu.steps,fun j x hx _=>hq j x (by have:=(List.getElem?_eq_some_iff.1 hx).1; omega) hx⟩
 obtain ⟨⟨p1,p2⟩,hp,hp0,hpi⟩:=second
 simp only at hp0 hpi
 subst hp0
 refine ⟨p1,?_,hpi⟩
 unfold tally_Can
 rw [check_ok V,Option.bind_some]
 simp only [bne_self_eq_false,cond_false]
 rw [show ((u.length:Int) != b.Trips)=false by simp [hlen],cond_false]
 refine loopF_spec (body:=tally_Can_l3 u b) (fun z:Int=>∃ k:Nat,z=k∧k≤u.length) (fun z=>u.length - z.toNat) (fun _=>(p1,0)) ?_ big 0 ⟨0,rfl,Nat.zero_le _⟩ (by unfold big; simp; omega)
 rintro rec z ⟨k,rfl,hk⟩ ih
 unfold tally_Can_l3
 by_cases hlt:k < u.length
 ·rw [decide_eq_true (by omega),cond_true,getI_nat,List.getElem?_eq_getElem hlt,Option.bind_some]
  have hx:=List.getElem?_eq_getElem hlt
  rw [within_eq,Option.bind_some,inB_iff.2 (hu.bnd _ (List.mem_of_getElem? hx)),Bool.not_true,cond_false,wrI (by omega) (by omega)]
  exact ih _ ⟨k+1,by simp,by omega⟩ (by (try simp only); omega)
 ·rw [decide_eq_false (by omega),cond_false,hp]
end Go.Proofs.YtafhljljfglfeaaDoor
namespace Go.Proofs.YtafhljljfglfeaaDoor
open Go Go.Fx Go.Tally
theorem withinT_eq (a b c:Int):ticket_within a b c=some (inB a b c):=by
 unfold ticket_within inB
 cases decide (b≤a) <;> rfl
structure ArgT (b:TicketBook):Prop where
 cl:b.Tally.Counts.length≤9223372036854775807
 tl:b.Tickets.length≤9223372036854775807
 sl:b.Shows.length≤9223372036854775807
 bl:b.Boxes.length≤9223372036854775807
def seasB (T:Int) (x:TicketSeason):Bool:=inB x.From 0 (T - 1)&&inB x.To 0 (T - 1)&&decide (x.From≤x.To)
def showB (T:Int) (m:Nat) (x:TicketShow):Bool:=inB x.Trip 0 (T - 1)&&inB x.Ticket 0 ((m:Int) - 1)&&inB x.Walker 0 9
def boxB (T:Int) (x:TicketBox):Bool:=inB x.From 0 (T - 1)&&inB x.To 0 (T - 1)&&decide (x.From≤x.To)&&inB x.Pence 0 400&&inB x.Lost 0 40
theorem isTrip_eq (b:TicketBook) (h:1≤b.Tally.Trips) (h2:b.Tally.Trips≤8) (n:Int):ticket_isTrip b n=some (inB n 0 (b.Tally.Trips - 1)):=by
 unfold ticket_isTrip
 rw [wrI (by omega) (by omega),withinT_eq]; rfl
theorem isTicket_eq (b:TicketBook) (h:b.Tickets.length≤9223372036854775807) (n:Int):ticket_isTicket b n=some (inB n 0 ((b.Tickets.length:Int) - 1)):=by
 unfold ticket_isTicket
 rw [wrI (by omega) (by omega),withinT_eq]; rfl
theorem isBox_eq (b:TicketBook) (h:1≤b.Tally.Trips) (h2:b.Tally.Trips≤8) (x:TicketBox):ticket_isBox b x=some (boxB b.Tally.Trips x):=by
 unfold ticket_isBox boxB
 simp only [isTrip_eq b h h2,withinT_eq,Option.bind_some]
 cases inB x.From 0 (b.Tally.Trips - 1) <;> cases inB x.To 0 (b.Tally.Trips - 1) <;> cases decide (x.From≤x.To) <;> cases inB x.Pence 0 400 <;> cases inB x.Lost 0 40 <;> rfl
theorem allTo_ok {α:Type}{p:α→Bool}{l:List α}{ok:Bool}{k:Nat} (h:allTo p l ok k=true):ok=true:=by
 unfold allTo at h; rw [Bool.and_eq_true] at h; exact h.1
theorem checkT_tail (b:TicketBook) (A:ArgT b) (ok:Bool) (hT:ok=true→1≤b.Tally.Trips∧b.Tally.Trips≤8):ticket_Check_j7 b ok=some (bif ok&&b.Tickets.all (seasB b.Tally.Trips)&&b.Shows.all (showB b.Tally.Trips b.Tickets.length)&&b.Boxes.all (boxB b.Tally.Trips) then 0 else 100):=by
 have h1:=A.tl; have h2:=A.sl; have h3:=A.bl
 unfold ticket_Check_j7
 refine loop_fold0 (fun k=>(allTo (seasB b.Tally.Trips) b.Tickets ok k,(k:Int))) b.Tickets.length (fun rec k hk=>?_) (fun rec=>?_) (by rw [big_eq]; omega) (by rw [allTo_zero]; rfl)
 ·unfold ticket_Check_l6
  simp only
  rw [decide_eq_true (by omega),cond_true,getI_ix hk,Option.bind_some,wrN hk h1,allTo_succ hk]
  have e:seasB b.Tally.Trips b.Tickets[k]=(inB b.Tickets[k].From 0 (b.Tally.Trips - 1)&&inB b.Tickets[k].To 0 (b.Tally.Trips - 1)&&decide (b.Tickets[k].From≤b.Tickets[k].To)):=rfl
  rw [e]
  cases ha:allTo (seasB b.Tally.Trips) b.Tickets ok k with
  | false=>rfl
  | true=>
    have:=hT (allTo_ok ha)
    simp only [isTrip_eq b this.1 this.2,Option.bind_some]
    cases inB b.Tickets[k].From 0 (b.Tally.Trips - 1) <;> cases inB b.Tickets[k].To 0 (b.Tally.Trips - 1) <;> rfl
 unfold ticket_Check_l6
 simp only
 rw [decide_eq_false (by omega),cond_false,allTo_end]
 have hT:(ok&&b.Tickets.all (seasB b.Tally.Trips))=true→1≤b.Tally.Trips∧b.Tally.Trips≤8:=fun h=>hT (by rw [Bool.and_eq_true] at h; exact h.1)
 generalize (ok&&b.Tickets.all (seasB b.Tally.Trips))=ok at hT
 refine loop_fold0 (fun k=>(allTo (showB b.Tally.Trips b.Tickets.length) b.Shows ok k,(k:Int))) b.Shows.length (fun rec k hk=>?_) (fun rec=>?_) (by rw [big_eq]; omega) (by rw [allTo_zero]; rfl)
 ·unfold ticket_Check_l5
  simp only
  rw [decide_eq_true (by omega),cond_true,getI_ix hk,Option.bind_some,wrN hk h2,allTo_succ hk]
  have e:showB b.Tally.Trips b.Tickets.length b.Shows[k]=(inB b.Shows[k].Trip 0 (b.Tally.Trips - 1)&&inB b.Shows[k].Ticket 0 ((b.Tickets.length:Int) - 1)&&inB b.Shows[k].Walker 0 9):=rfl
  rw [e]
  cases ha:allTo (showB b.Tally.Trips b.Tickets.length) b.Shows ok k with
  | false=>rfl
  | true=>
    have:=hT (allTo_ok ha)
    simp only [isTrip_eq b this.1 this.2,isTicket_eq b h1,withinT_eq,Option.bind_some]
    cases inB b.Shows[k].Trip 0 (b.Tally.Trips - 1) <;> cases inB b.Shows[k].Ticket 0 ((b.Tickets.length:Int) - 1) <;> rfl
 unfold ticket_Check_l5
 simp only
 rw [decide_eq_false (by omega),cond_false,allTo_end]
 have hT:(ok&&b.Shows.all (showB b.Tally.Trips b.Tickets.length))=true→1≤b.Tally.Trips∧b.Tally.Trips≤8:=fun h=>hT (by rw [Bool.and_eq_true] at h; exact h.1)
 generalize (ok&&b.Shows.all (showB b.Tally.Trips b.Tickets.length))=ok at hT
 refine loop_fold0 (fun k=>(allTo (boxB b.Tally.Trips) b.Boxes ok k,(k:Int))) b.Boxes.length (fun rec k hk=>?_) (fun rec=>?_) (by rw [big_eq]; omega) (by rw [allTo_zero]; rfl)
 ·unfold ticket_Check_l4
  simp only
  rw [decide_eq_true (by omega),cond_true,getI_ix hk,Option.bind_some,wrN hk h3,allTo_succ hk]
  cases ha:allTo (boxB b.Tally.Trips) b.Boxes ok k with
  | false=>rfl
  | true=>
    have:=hT (allTo_ok ha)
    rw [cond_true,isBox_eq b this.1 this.2]
    rfl
 unfold ticket_Check_l4
 simp only
 rw [decide_eq_false (by omega),cond_false,allTo_end]
 cases (ok&&b.Boxes.all (boxB b.Tally.Trips)) <;> rfl
def valT (b:TicketBook):Bool:=valB b.Tally&&decide (b.Tally.Trips≤3)&&decide (b.Tally.Room≤5)&&inB b.Fare 1 20&&decide ((b.Tickets.length:Int)≤3)&&decide ((b.Shows.length:Int)≤5)&&decide ((b.Boxes.length:Int)≤3)&&b.Tickets.all (seasB b.Tally.Trips)&&b.Shows.all (showB b.Tally.Trips b.Tickets.length)&&b.Boxes.all (boxB b.Tally.Trips)
theorem checkT_eq (b:TicketBook) (A:ArgT b):ticket_Check b=some (bif valT b then 0 else 100):=by
 unfold ticket_Check valT
 rw [check_eq _ A.cl]
 have f:=checkT_tail b A false (fun h=>by cases h)
 simp only [Bool.false_and,cond_false] at f
 cases hv:valB b.Tally with
 | false=>simp only [cond_false,Option.bind_some,Bool.false_and]; exact f
 | true=>
   have V:=val_iff.1 hv
   have t:=fun ok=>checkT_tail b A ok (fun _=>⟨V.t1,V.t8⟩)
   simp only [withinT_eq,Option.bind_some,t,cond_true,beq_self_eq_true]
   cases decide (b.Tally.Trips≤3) <;> cases decide (b.Tally.Room≤5) <;> cases inB b.Fare 1 20 <;> cases decide ((b.Tickets.length:Int)≤3) <;> cases decide ((b.Shows.length:Int)≤5) <;> rfl
structure Seas (T:Int) (x:TicketSeason):Prop where
 f0:0≤x.From
 ft:x.From≤x.To
 tT:x.To < T
structure Shw (T:Int) (m:Nat) (x:TicketShow):Prop where
 t0:0≤x.Trip
 tT:x.Trip < T
 n0:0≤x.Ticket
 nm:x.Ticket < m
 w0:0≤x.Walker
 w9:x.Walker≤9
structure Box (T:Int) (x:TicketBox):Prop where
 f0:0≤x.From
 ft:x.From≤x.To
 tT:x.To < T
 p0:0≤x.Pence
 p4:x.Pence≤400
 l0:0≤x.Lost
 l4:x.Lost≤40
theorem seas_iff {T:Int}{x:TicketSeason}:seasB T x=true↔Seas T x:=by
 unfold seasB; simp only [Bool.and_eq_true,inB_iff,decide_eq_true_eq]
 exact ⟨fun ⟨⟨⟨a,b⟩,c,d⟩,e⟩=>⟨a,e,by omega⟩,fun ⟨a,b,c⟩=>⟨⟨⟨a,by omega⟩,by omega,by omega⟩,b⟩⟩
theorem shw_iff {T:Int}{m:Nat}{x:TicketShow}:showB T m x=true↔Shw T m x:=by
 unfold showB; simp only [Bool.and_eq_true,inB_iff,decide_eq_true_eq]
 exact ⟨fun ⟨⟨⟨a,b⟩,c,d⟩,e,f⟩=>⟨a,by omega,c,by omega,e,f⟩,fun ⟨a,b,c,d,e,f⟩=>⟨⟨⟨a,by omega⟩,c,by omega⟩,e,f⟩⟩
theorem box_iff {T:Int}{x:TicketBox}:boxB T x=true↔Box T x:=by
 unfold boxB; simp only [Bool.and_eq_true,inB_iff,decide_eq_true_eq]
 exact ⟨fun ⟨⟨⟨⟨⟨a,b⟩,c,d⟩,e⟩,f,g⟩,h,i⟩=>⟨a,e,by omega,f,g,h,i⟩,fun ⟨a,b,c,d,e,f,g⟩=>⟨⟨⟨⟨⟨a,by omega⟩,by omega,by omega⟩,b⟩,d,e⟩,f,g⟩⟩
structure VT (b:TicketBook):Prop where
 ta:Val b.Tally
 t3:b.Tally.Trips≤3
 r5:b.Tally.Room≤5
 f1:1≤b.Fare
 f20:b.Fare≤20
 tn:b.Tickets.length≤3
 sn:b.Shows.length≤5
 bn:b.Boxes.length≤3
 te:∀ x∈b.Tickets,Seas b.Tally.Trips x
 sh:∀ x∈b.Shows,Shw b.Tally.Trips b.Tickets.length x
 bx:∀ x∈b.Boxes,Box b.Tally.Trips x
theorem valT_iff {b:TicketBook}:valT b=true↔VT b:=by
 unfold valT
 simp only [Bool.and_eq_true,val_iff,inB_iff,decide_eq_true_eq,List.all_eq_true,seas_iff,shw_iff,box_iff]
 exact ⟨fun ⟨⟨⟨⟨⟨⟨⟨⟨⟨a,b⟩,c⟩,d,e⟩,f⟩,g⟩,h⟩,i⟩,j⟩,k⟩=>⟨a,b,c,d,e,by omega,by omega,by omega,i,j,k⟩,fun ⟨a,b,c,d,e,f,g,h,i,j,k⟩=>⟨⟨⟨⟨⟨⟨⟨⟨⟨a,b⟩,c⟩,d,e⟩,by omega⟩,by omega⟩,by omega⟩,i⟩,j⟩,k⟩⟩
theorem VT.arg {b:TicketBook} (V:VT b):ArgT b:=⟨by have:=V.ta.l8; omega,by have:=V.tn; omega,by have:=V.sn; omega,by have:=V.bn; omega⟩
theorem checkT_ok {b:TicketBook} (V:VT b):ticket_Check b=some 0:=by
 rw [checkT_eq b V.arg,valT_iff.2 V]; rfl
theorem isSpan_eq (b:TicketBook) (f t:Int):law_isSpan b f t=some (tripsB b.Tally.Trips f t):=by
 unfold law_isSpan tripsB
 rw [inside_eq]
 cases inB f 0 t <;> rfl
theorem soundF (b:TicketBook):law_sound_j10 b false=some false:=by
 unfold law_sound_j10; refine loop_at fun rec=>?_
 show loopF (law_sound_l7 b) big (false,0)=_; refine loop_at fun rec=>?_
 show loopF (law_sound_l5 b) big (false,0)=_; refine loop_at fun rec=>?_
 rfl
theorem soundT (b:TicketBook) (V:VT b):law_sound_j10 b true=some true:=by
 have h1:=V.arg.tl; have h2:=V.arg.sl; have h3:=V.arg.bl; have t1:=V.ta.t1; have t3:=V.t3; have tn:=V.tn
 unfold law_sound_j10
 refine loop_fold (fun k=>(true,(k:Int))) b.Tickets.length (fun rec k hk=>?_) (fun rec=>?_) (by rw [big_eq]; omega)
 ·unfold law_sound_l9
  simp only
  have:=V.te b.Tickets[k] (List.getElem_mem _)
  rw [cond_true,decide_eq_true (by omega),cond_true,getI_ix hk,Option.bind_some,Option.bind_some,wrN hk h1,isSpan_eq,trips_iff.2 ⟨this.f0,this.ft,this.tT⟩]; rfl
 unfold law_sound_l9 law_sound_j8
 simp only
 rw [cond_true,decide_eq_false (by omega),cond_false]
 refine loop_fold (fun k=>(true,(k:Int))) b.Shows.length (fun rec k hk=>?_) (fun rec=>?_) (by rw [big_eq]; omega)
 ·unfold law_sound_l7
  simp only
  have:=V.sh b.Shows[k] (List.getElem_mem _)
  have e1:inB b.Shows[k].Trip 0 (b.Tally.Trips - 1)=true:=inB_iff.2 ⟨this.t0,by have:=this.tT; omega⟩
  have e2:inB b.Shows[k].Ticket 0 ((b.Tickets.length:Int) - 1)=true:=inB_iff.2 ⟨this.n0,by have:=this.nm; omega⟩
  rw [cond_true,decide_eq_true (by omega),cond_true,getI_ix hk,Option.bind_some,wrN hk h2,wrI (by omega) (by omega),wrI (by omega) (by omega)]
  simp only [inside_eq,e1,e2,Option.bind_some,cond_true]
 unfold law_sound_l7 law_sound_j6
 simp only
 rw [cond_true,decide_eq_false (by omega),cond_false]
 refine loop_fold (fun k=>(true,(k:Int))) b.Boxes.length (fun rec k hk=>?_) (fun rec=>?_) (by rw [big_eq]; omega)
 ·unfold law_sound_l5
  simp only
  have:=V.bx b.Boxes[k] (List.getElem_mem _)
  have e1:inB b.Boxes[k].Pence 0 400=true:=inB_iff.2 ⟨this.p0,this.p4⟩
  have e2:inB b.Boxes[k].Lost 0 40=true:=inB_iff.2 ⟨this.l0,this.l4⟩
  rw [cond_true,decide_eq_true (by omega),cond_true,getI_ix hk,Option.bind_some,wrN hk h3,isSpan_eq,trips_iff.2 ⟨this.f0,this.ft,this.tT⟩]
  simp only [inside_eq,e1,e2,Option.bind_some,cond_true]
 unfold law_sound_l5
 simp only
 rw [cond_true,decide_eq_false (by omega),cond_false]
theorem soundT_eq (b:TicketBook) (A:ArgT b):law_sound b=some (valT b):=by
 unfold law_sound
 rw [checkT_eq b A,Option.bind_some]
 cases h:valT b with
 | false=>rw [cond_false]; exact soundF b
 | true=>
   have V:=valT_iff.1 h
   have e3:inB b.Tally.Trips 1 3=true:=inB_iff.2 ⟨V.ta.t1,V.t3⟩
   have e4:inB b.Tally.Room 0 5=true:=inB_iff.2 ⟨V.ta.r0,V.r5⟩
   have e5:inB b.Fare 1 20=true:=inB_iff.2 ⟨V.f1,V.f20⟩
   have e6:decide ((b.Tickets.length:Int)≤3)=true:=decide_eq_true (by have:=V.tn; omega)
   have e7:decide ((b.Shows.length:Int)≤5)=true:=decide_eq_true (by have:=V.sn; omega)
   have e8:decide ((b.Boxes.length:Int)≤3)=true:=decide_eq_true (by have:=V.bn; omega)
   simp only [cond_true,beq_self_eq_true,inside_eq,check_ok V.ta,e3,e4,e5,e6,e7,e8,Option.bind_some]
   exact soundT b V
end Go.Proofs.YtafhljljfglfeaaDoor
namespace Go.Proofs.YtafhljljfglfeaaDoor
open Go Go.Fx
def Clm (l:List Int) (n:Int):Prop:=∀ (k:Nat) (x:Int),l[k]? =some x→0≤x∧x < n∧∀ y,0 < k→l[k - 1]? =some y→y < x
theorem Clm.nil {n:Int}:Clm [] n:=fun k x h=>by simp at h
theorem Clm.snoc {l:List Int}{n v:Int} (h:Clm l n) (h0:0≤v) (h1:v < n) (h2:∀ y,l.getLast? =some y→y < v):Clm (l++[v]) n:=by
 intro k x hx
 by_cases hk:k < l.length
 ·rw [List.getElem?_append_left hk] at hx
  obtain ⟨a1,a2,a3⟩:=h k x hx
  refine ⟨a1,a2,fun y h0 hy=>a3 y h0 ?_⟩
  rwa [List.getElem?_append_left (by omega)] at hy
 ·rw [List.getElem?_append_right (by omega),List.getElem?_singleton] at hx
  split at hx
  ·cases hx
   refine ⟨h0,h1,fun y hk0 hy=>h2 y ?_⟩
   rw [List.getElem?_append_left (by omega)] at hy
   rw [List.getLast?_eq_getElem?,← hy]
   congr 1; omega
  ·cases hx
theorem Clm.lt {l:List Int}{n:Int} (h:Clm l n):∀ (d i:Nat) (x y:Int),l[i]? =some x→l[i+d+1]? =some y→x < y:=by
 intro d
 induction d with
 | zero=>intro i x y hx hy; exact (h (i+1) y hy).2.2 x (by omega) (by simpa using hx)
 | succ d ih=>
   intro i x y hx hy
   have hlt:i+d+1 < l.length:=by have:=(List.getElem?_eq_some_iff.1 hy).1; omega
   have h1:=ih i x _ hx (List.getElem?_eq_getElem hlt)
   have h2:=(h (i+(d+1)+1) y hy).2.2 _ (by omega) (by rw [show i+(d+1)+1 - 1=i+d+1 by omega]; exact List.getElem?_eq_getElem hlt)
   omega
theorem Clm.len {l:List Int}{n:Int} (h:Clm l n) (h0:0≤n):(l.length:Int)≤n:=by
 have:∀ (k:Nat) (x:Int),l[k]? =some x→(k:Int)≤x:=by
  intro k
  induction k with
  | zero=>intro x hx; have:=(h 0 x hx).1; omega
  | succ k ih=>
    intro x hx
    have hlt:k < l.length:=by have:=(List.getElem?_eq_some_iff.1 hx).1; omega
    have h1:=ih _ (List.getElem?_eq_getElem hlt)
    have h2:=h.lt 0 k _ x (List.getElem?_eq_getElem hlt) hx
    omega
 by_cases hl:l.length=0
 ·omega
 ·have hlt:l.length - 1 < l.length:=by omega
  have h1:=this _ _ (List.getElem?_eq_getElem hlt)
  have h2:=(h _ _ (List.getElem?_eq_getElem hlt)).2.1
  omega
structure Ext (n:Nat) (l:List Int) (many:Nat) (o:List Int):Prop where
 len:o.length=many
 clm:Clm o n
 pre:∀ (i:Nat) (x:Int),l[i]? =some x→o[i]? =some x
def LexLt (o w:List Int):Prop:=∃ (i:Nat) (x y:Int),o[i]? =some x∧w[i]? =some y∧x < y∧∀ j,j < i→o[j]? =w[j]?
theorem Ext.more {n many:Nat}{l o:List Int}{x:Int} (h:Ext n l many o) (hx:o[l.length]? =some x):Ext n (l++[x]) many o:=by
 refine ⟨h.len,h.clm,fun i y hy=>?_⟩
 by_cases hi:i < l.length
 ·rw [List.getElem?_append_left hi] at hy; exact h.pre i y hy
 ·rw [List.getElem?_append_right (by omega),List.getElem?_singleton] at hy
  split at hy
  ·cases hy; rw [show i=l.length by omega]; exact hx
  ·cases hy
theorem Ext.less {n many:Nat}{l o:List Int}{x:Int} (h:Ext n (l++[x]) many o):Ext n l many o∧o[l.length]? =some x:=by
 refine ⟨⟨h.len,h.clm,fun i y hy=>h.pre i y ?_⟩,h.pre _ _ (by simp)⟩
 rw [List.getElem?_append_left (List.getElem?_eq_some_iff.1 hy).1]; exact hy
theorem fits_of {m bb:Nat} (h:m≤1000000000) (hb:bb≤100000):fitsL m bb=true:=by
 unfold fitsL
 refine decide_eq_true ?_
 have:m*bb≤1000000000*100000:=Nat.mul_le_mul h hb
 omega
theorem fits_small {m bb:Nat} (h:m≤1000000) (hb:bb≤1000):fitsL m bb=true:=fits_of (by omega) (by omega)
theorem shr_nat (s k:Nat) (hk:k < 64):shrI (s:Int) (k:Int)=((s / 2 ^ k:Nat):Int):=by
 unfold shrI
 rw [show min ((k:Int).toNat) 64=k by simp; omega,Int.fdiv_eq_ediv_of_nonneg _ (by exact_mod_cast Int.natCast_nonneg (2 ^ k))]
 simp
theorem and1_nat (m:Nat):andI (m:Int) 1=((m % 2:Nat):Int):=by
 unfold andI
 have h1:BitVec.ofInt 64 (m:Int)=BitVec.ofNat 64 m:=BitVec.ofInt_natCast 64 m
 have h2:BitVec.ofInt 64 1=BitVec.ofNat 64 1:=rfl
 rw [h1,h2,BitVec.toNat_and]
 simp only [BitVec.toNat_ofNat]
 have:m % 2 ^ 64 &&& 1 % 2 ^ 64=m % 2:=by
  rw [show 1 % 2 ^ 64=1 by decide,Nat.and_one_is_mod]; omega
 rw [this,wrI (by omega) (by omega)]
theorem member_nat (s k:Nat) (hk:k < 64):B_Member (s:Int) (k:Int)=some (s.testBit k):=by
 unfold B_Member
 rw [need_of (by simp),shr_nat s k hk,and1_nat,Nat.testBit_eq_decide_div_mod_eq]
 congr 1
 rw [Bool.eq_iff_iff]
 simp only [beq_iff_eq,decide_eq_true_eq]
 omega
theorem shl1_nat (k:Nat) (hk:k < 32):shlI 1 (k:Int)=((2 ^ k:Nat):Int):=by
 unfold shlI
 rw [show min ((k:Int).toNat) 64=k by simp; omega]
 have h1:2 ^ k≤2 ^ 32:=Nat.pow_le_pow_right (by omega) (by omega)
 have h2:(1:Int)*2 ^ k=((2 ^ k:Nat):Int):=by simp
 rw [h2]
 generalize 2 ^ k=m at h1
 exact wrI (by omega) (by omega)
theorem or_nat (s t:Nat) (hs:s < 2 ^ 32) (ht:t < 2 ^ 32):orI (s:Int) (t:Int)=((s ||| t:Nat):Int):=by
 unfold orI
 have h1:BitVec.ofInt 64 (s:Int)=BitVec.ofNat 64 s:=BitVec.ofInt_natCast 64 s
 have h2:BitVec.ofInt 64 (t:Int)=BitVec.ofNat 64 t:=BitVec.ofInt_natCast 64 t
 have h3:s ||| t < 2 ^ 32:=Nat.or_lt_two_pow hs ht
 rw [h1,h2,BitVec.toNat_or,BitVec.toNat_ofNat,BitVec.toNat_ofNat,Nat.mod_eq_of_lt (by omega),Nat.mod_eq_of_lt (by omega),wrI (by omega) (by omega)]
def Btr (o w:List Int):Prop:=o.length < w.length∨(o.length=w.length∧LexLt o w)
theorem LexLt.trans {a b c:List Int} (h:LexLt a b) (k:LexLt b c):LexLt a c:=by
 obtain ⟨i,x,y,h1,h2,h3,h4⟩:=h
 obtain ⟨j,u,v,k1,k2,k3,k4⟩:=k
 rcases Nat.lt_trichotomy i j with e | e | e
 ·exact ⟨i,x,y,h1,by rw [← k4 i e]; exact h2,h3,fun m hm=>by rw [h4 m hm,k4 m (by omega)]⟩
 ·subst e
  rw [h2] at k1; have:=Option.some.inj k1
  exact ⟨i,x,v,h1,k2,by omega,fun m hm=>by rw [h4 m hm,k4 m hm]⟩
 ·exact ⟨j,u,v,by rw [h4 j e]; exact k1,k2,k3,fun m hm=>by rw [h4 m (by omega),k4 m hm]⟩
theorem Btr.trans {a b c:List Int} (h:Btr a b) (k:Btr b c):Btr a c:=by
 rcases h with h | ⟨h,h'⟩ <;> rcases k with k | ⟨k,k'⟩
 ·exact .inl (by omega)
 ·exact .inl (by omega)
 ·exact .inl (by omega)
 ·exact .inr ⟨by omega,h'.trans k'⟩
end Go.Proofs.YtafhljljfglfeaaDoor
namespace Go.Proofs.YtafhljljfglfeaaDoor
open Go Go.Fx
def foldY {ε σ:Type} (yv:ε→σ→Option (Bool×σ)):List ε→σ→Option (Bool×σ)
 | [],s=>some (true,s)
 | x::l,s=>(yv x s).bind fun r=>bif r.1 then foldY yv l r.2 else some (false,r.2)
theorem foldY_app {ε σ:Type} (yv:ε→σ→Option (Bool×σ)):∀ (l m:List ε) (s:σ),foldY yv (l++m) s=(foldY yv l s).bind fun r=>bif r.1 then foldY yv m r.2 else some (false,r.2)
 | [],m,s=>rfl
 | x::l,m,s=>by
   show (yv x s).bind (fun r=>bif r.1 then foldY yv (l++m) r.2 else some (false,r.2))=Option.bind ((yv x s).bind fun r=>bif r.1 then foldY yv l r.2 else some (false,r.2)) _
   cases yv x s with
   | none=>rfl
   | some r=>
     obtain ⟨b,s2⟩:=r
     cases b with
     | true=>exact foldY_app yv l m s2
     | false=>rfl
theorem foldY_one {ε σ:Type} (yv:ε→σ→Option (Bool×σ)) (x:ε) (s:σ):foldY yv [x] s=yv x s:=by
 show (yv x s).bind (fun r=>bif r.1 then some (true,r.2) else some (false,r.2))=_
 cases yv x s with
 | none=>rfl
 | some r=>obtain ⟨b,s2⟩:=r; cases b <;> rfl
theorem foldY_find {ε σ:Type} (bd:ε→σ→Option (Bool×Nat×σ)) (p:ε→Bool) (s0 s1:σ):∀ (L:List ε),(∀ x∈L,bd x s0=some (bif p x then (false,1,s1) else (true,0,s0)))→foldY (yvOf bd) L (0,s0)=some (bif L.any p then (false,1,s1) else (true,0,s0))
 | [],_=>rfl
 | x::L,h=>by
   show (bd x s0).bind (fun r=>bif r.1 then foldY (yvOf bd) L r.2 else some (false,r.2))=_
   rw [h x (List.mem_cons_self ..),List.any_cons]
   cases hp:p x with
   | true=>rfl
   | false=>exact foldY_find bd p s0 s1 L fun x hx=>h x (List.mem_cons_of_mem _ hx)
end Go.Proofs.YtafhljljfglfeaaDoor
namespace Go.Proofs.YtafhljljfglfeaaDoor
open Go Go.Fx Go.Tally
theorem loop_all {ρ:Type}{body:(Int→Option ρ)→Int→Option ρ} (n:Nat) (p:Nat→Bool) {Rf Rt:Option ρ} (hs:∀ rec k,k < n→body rec (k:Int)=bif p k then rec ((k+1:Nat):Int) else Rf) (he:∀ rec,body rec (n:Int)=Rt) (hn:n < big):loopF body big 0=bif (List.range n).all p then Rt else Rf:=by
 have key:∀ d k m,k+d=n→d < m→loopF body m (k:Int)=bif (List.range' k d).all p then Rt else Rf:=by
  intro d
  induction d with
  | zero=>
    intro k m h1 h2
    obtain ⟨m,rfl⟩:∃ q,m=q+1:=⟨m - 1,by omega⟩
    obtain rfl:k=n:=by omega
    exact he _
  | succ d ih=>
    intro k m h1 h2
    obtain ⟨m,rfl⟩:∃ q,m=q+1:=⟨m - 1,by omega⟩
    show body (loopF body m) (k:Int)=_
    rw [hs _ k (by omega),List.range'_succ,List.all_cons,ih (k+1) m (by omega) (by omega)]
    cases p k <;> rfl
 rw [List.range_eq_range']
 exact key n 0 big (by omega) hn
theorem idx_show (l:List TicketShow) (a:TicketShow→Option Bool) (g:TicketShow→Bool) (h:∀ x∈l,a x=some (g x)) (hl:l.length≤1000):∃ r,sl_IndexFunc_api_TicketShow_api_TicketShow l a=some r∧(0≤r↔l.any g=true):=by
 unfold sl_IndexFunc_api_TicketShow_api_TicketShow
 refine loopF_inv (body:=sl_IndexFunc_api_TicketShow_api_TicketShow_l1 l a) (fun i:Int=>∃ k:Nat,i=k∧k≤l.length∧(l.take k).any g=false) (fun i=>l.length - i.toNat) (fun r=>(0≤r↔l.any g=true)) ?_ big 0 ⟨0,rfl,Nat.zero_le _,by simp⟩ (by unfold big; simp; omega)
 rintro rec i ⟨k,rfl,hk,hn⟩ ih
 unfold sl_IndexFunc_api_TicketShow_api_TicketShow_l1
 by_cases hlt:k < l.length
 ·rw [decide_eq_true (by omega),cond_true,getI_ix hlt,Option.bind_some,h _ (List.getElem_mem hlt),Option.bind_some]
  cases hg:g l[k] with
  | true=>exact ⟨_,rfl,⟨fun _=>List.any_eq_true.2 ⟨_,List.getElem_mem hlt,hg⟩,fun _=>by omega⟩⟩
  | false=>
    rw [cond_false,wrI (by omega) (by omega)]
    refine ih _ ⟨k+1,by simp,hlt,?_⟩ (by (try simp only); omega)
    rw [List.take_succ_eq_append_getElem hlt,List.any_append,hn]
    simp [hg]
 ·rw [decide_eq_false (by omega),cond_false]
  rw [List.take_of_length_le (by omega)] at hn
  exact ⟨-1,rfl,by simp [hn]⟩
theorem has_show (l:List TicketShow) (a:TicketShow→Option Bool) (g:TicketShow→Bool) (h:∀ x∈l,a x=some (g x)) (hl:l.length≤1000):sl_ContainsFunc_api_TicketShow_api_TicketShow l a=some (l.any g):=by
 obtain ⟨r,hr,hi⟩:=idx_show l a g h hl
 unfold sl_ContainsFunc_api_TicketShow_api_TicketShow
 rw [hr,Option.bind_some]
 congr 1
 rw [Bool.eq_iff_iff,decide_eq_true_eq]
 exact hi
theorem idx_box (l:List TicketBox) (a:TicketBox→Option Bool) (g:TicketBox→Bool) (h:∀ x∈l,a x=some (g x)) (hl:l.length≤1000):∃ r,sl_IndexFunc_api_TicketBox_api_TicketBox l a=some r∧(0≤r↔l.any g=true):=by
 unfold sl_IndexFunc_api_TicketBox_api_TicketBox
 refine loopF_inv (body:=sl_IndexFunc_api_TicketBox_api_TicketBox_l1 l a) (fun i:Int=>∃ k:Nat,i=k∧k≤l.length∧(l.take k).any g=false) (fun i=>l.length - i.toNat) (fun r=>(0≤r↔l.any g=true)) ?_ big 0 ⟨0,rfl,Nat.zero_le _,by simp⟩ (by unfold big; simp; omega)
 rintro rec i ⟨k,rfl,hk,hn⟩ ih
 unfold sl_IndexFunc_api_TicketBox_api_TicketBox_l1
 by_cases hlt:k < l.length
 ·rw [decide_eq_true (by omega),cond_true,getI_ix hlt,Option.bind_some,h _ (List.getElem_mem hlt),Option.bind_some]
  cases hg:g l[k] with
  | true=>exact ⟨_,rfl,⟨fun _=>List.any_eq_true.2 ⟨_,List.getElem_mem hlt,hg⟩,fun _=>by omega⟩⟩
  | false=>
    rw [cond_false,wrI (by omega) (by omega)]
    refine ih _ ⟨k+1,by simp,hlt,?_⟩ (by (try simp only); omega)
    rw [List.take_succ_eq_append_getElem hlt,List.any_append,hn]
    simp [hg]
 ·rw [decide_eq_false (by omega),cond_false]
  rw [List.take_of_length_le (by omega)] at hn
  exact ⟨-1,rfl,by simp [hn]⟩
theorem has_box (l:List TicketBox) (a:TicketBox→Option Bool) (g:TicketBox→Bool) (h:∀ x∈l,a x=some (g x)) (hl:l.length≤1000):sl_ContainsFunc_api_TicketBox_api_TicketBox l a=some (l.any g):=by
 obtain ⟨r,hr,hi⟩:=idx_box l a g h hl
 unfold sl_ContainsFunc_api_TicketBox_api_TicketBox
 rw [hr,Option.bind_some]
 congr 1
 rw [Bool.eq_iff_iff,decide_eq_true_eq]
 exact hi
theorem has_int (l:List Int) (v:Int) (hl:l.length≤1000000):sl_Contains_int_int l v=some (decide (v∈l)):=by
 have:∃ r,sl_Index_int_int l v=some r∧(0≤r↔v∈l):=by
  unfold sl_Index_int_int
  refine loopF_inv (body:=sl_Index_int_int_l1 l v) (fun i:Int=>∃ k:Nat,i=k∧k≤l.length∧v ∉ l.take k) (fun i=>l.length - i.toNat) (fun r=>(0≤r↔v∈l)) ?_ big 0 ⟨0,rfl,Nat.zero_le _,by simp⟩ (by unfold big; simp; omega)
  rintro rec i ⟨k,rfl,hk,hn⟩ ih
  unfold sl_Index_int_int_l1
  by_cases hlt:k < l.length
  ·rw [decide_eq_true (by omega),cond_true,getI_ix hlt,Option.bind_some]
   by_cases he:v=l[k]
   ·rw [show (v==l[k])=true by simpa using he,cond_true]
    have hm:v∈l:=he▸List.getElem_mem hlt
    exact ⟨_,rfl,by simp [hm]⟩
   ·rw [show (v==l[k])=false by simpa using he,cond_false,wrI (by omega) (by omega)]
    refine ih _ ⟨k+1,by simp,hlt,?_⟩ (by (try simp only); omega)
    rw [List.take_succ_eq_append_getElem hlt]
    simp only [List.mem_append,List.mem_singleton,not_or]
    exact ⟨hn,he⟩
  ·rw [decide_eq_false (by omega),cond_false]
   have hm:v ∉ l:=by rwa [List.take_of_length_le (by omega)] at hn
   exact ⟨-1,rfl,by simp [hm]⟩
 obtain ⟨r,hr,hi⟩:=this
 unfold sl_Contains_int_int
 rw [hr,Option.bind_some]
 congr 1
 exact decide_eq_decide.2 hi
def popN (s:Nat):Int:=(if s.testBit 0 then 1 else 0)+(if s.testBit 1 then 1 else 0)+(if s.testBit 2 then 1 else 0)
theorem pop_bd (s:Nat):0≤popN s∧popN s≤3:=by
 unfold popN
 cases s.testBit 0 <;> cases s.testBit 1 <;> cases s.testBit 2 <;> decide
theorem pop_all:((List.range 8).all fun s=>decide (bits_OnesCount (wrK .u64 ((s:Nat):Int))=some (popN s)))=true:=by kernel_rfl
theorem pop_eq {s:Nat} (h:s < 8):bits_OnesCount (wrK .u64 (s:Int))=some (popN s):=of_decide_eq_true (List.all_eq_true.1 pop_all s (List.mem_range.2 h))
theorem and_all:((List.range 8).all fun s=>(List.range 8).all fun t=>decide (andI ((s:Nat):Int) ((t:Nat):Int)=((s &&& t:Nat):Int)))=true:=by kernel_rfl
theorem and_nat {s t:Nat} (h:s < 8) (k:t < 8):andI (s:Int) (t:Int)=((s &&& t:Nat):Int):=of_decide_eq_true (List.all_eq_true.1 (List.all_eq_true.1 and_all s (List.mem_range.2 h)) t (List.mem_range.2 k))
theorem and_sub {s t:Nat}:s &&& t=t↔∀ n,t.testBit n=true→s.testBit n=true:=by
 constructor
 ·intro h n hn
  rw [← h,Nat.testBit_and,Bool.and_eq_true] at hn
  exact hn.1
 ·intro h
  refine Nat.eq_of_testBit_eq fun n=>?_
  rw [Nat.testBit_and]
  cases ht:t.testBit n with
  | false=>simp
  | true=>simp [h n ht]
def pv (c u:List Int) (d:Nat):Int:=c.getD d 0 - popN (u.getD d 0).toNat
def paidN (c u:List Int) (f n:Nat):Int:=((List.range' f n).map (pv c u)).sum
theorem paidN_add (c u:List Int) (f n m:Nat):paidN c u f (n+m)=paidN c u f n+paidN c u (f+n) m:=by
 unfold paidN
 rw [← List.range'_append_1,List.map_append,List.sum_append]
theorem paidN_succ (c u:List Int) (f n:Nat):paidN c u f (n+1)=paidN c u f n+pv c u (f+n):=by
 rw [paidN_add]; simp [paidN]
structure Small (c u:List Int):Prop where
 c3:c.length=3
 u3:u.length=3
 cb:∀ d,0≤c.getD d 0∧c.getD d 0≤5
 ub:∀ d,0≤u.getD d 0∧u.getD d 0 < 8
theorem Small.pv {c u:List Int} (h:Small c u) (d:Nat):-3≤pv c u d∧YtafhljljfglfeaaDoor.pv c u d≤5:=by
 have h1:=h.cb d; have h2:=pop_bd (u.getD d 0).toNat
 unfold YtafhljljfglfeaaDoor.pv; omega
theorem Small.paid {c u:List Int} (h:Small c u) (f:Nat):∀ n:Nat,-3*(n:Int)≤paidN c u f n∧paidN c u f n≤5*(n:Int):=by
 intro n
 induction n with
 | zero=>simp [paidN]
 | succ n ih=>
   rw [paidN_succ]
   have:=h.pv (f+n)
   omega
theorem sumI_eq (l:List Int) (hl:l.length≤8) (hb:∀ x∈l,-3≤x∧x≤5):ticket_sum_int l=some l.sum:=by
 have sum_bd:∀ (l:List Int),(∀ x∈l,-3≤x∧x≤5)→-3*(l.length:Int)≤l.sum∧l.sum≤5*(l.length:Int):=by
  intro l
  induction l with
  | nil=>simp
  | cons x l ih=>
    intro h
    have h1:=h x (List.mem_cons_self ..)
    have h2:=ih fun n hn=>h n (List.mem_cons_of_mem _ hn)
    simp only [List.sum_cons,List.length_cons]
    omega
 unfold ticket_sum_int
 refine loop_fold0 (fun k=>((l.take k).sum,(k:Int))) l.length (fun rec k hk=>?_) (fun rec=>?_) (by rw [big_eq]; omega) rfl
 ·unfold ticket_sum_int_l1
  simp only
  have h1:=sum_bd (l.take k) fun x hx=>hb x (List.mem_of_mem_take hx)
  have h2:=hb _ (List.getElem_mem hk)
  have h3:(l.take k).length≤8:=by rw [List.length_take]; omega
  rw [decide_eq_true (by omega),cond_true,getI_ix hk,Option.bind_some,wrI (by omega) (by omega),wrI (by omega) (by omega),← List.take_append_getElem hk,List.sum_append]
  simp
 ·unfold ticket_sum_int_l1
  simp only
  rw [decide_eq_false (by omega),cond_false,List.take_length]
theorem agetN (l:List Int) (k:Nat):aget l (k:Int)=l.getD k 0:=rfl
theorem usedN {c u:List Int} (h:Small c u) (d:Nat):((u.getD d 0).toNat:Int)=u.getD d 0∧(u.getD d 0).toNat < 8:=by
 have:=h.ub d; omega
theorem paid_eq {c u:List Int} (h:Small c u) {f t:Int} (f0:0≤f) (ft:f≤t) (t3:t < 3):ticket_truth_paid ⟨c,u⟩ f t=some (paidN c u f.toNat (t+1 - f).toNat):=by
 unfold ticket_truth_paid
 refine loop_fold0 (fun k=>((List.range' f.toNat k).map (pv c u),f+k)) (t+1 - f).toNat (fun rec k hk=>?_) (fun rec=>?_) (by rw [big_eq]; omega) (by simp)
 ·unfold ticket_truth_paid_l1
  simp only
  have e:f+(k:Int)=((f.toNat+k:Nat):Int):=by omega
  have hu:=usedN h (f.toNat+k)
  have hp:=pop_eq hu.2
  rw [hu.1] at hp
  have hv:=h.pv (f.toNat+k)
  have hb:=h.cb (f.toNat+k)
  have hq:=pop_bd (u.getD (f.toNat+k) 0).toNat
  rw [decide_eq_true (by omega),cond_true,need_of (by simp [inI]; omega),need_of (by simp [inI]; omega),e,agetN,agetN,hp,Option.bind_some,wrI (x:=_ - popN _) (by omega) (by omega),need_of (fits_small (by simp; omega) (by omega)),wrI (by omega) (by omega)]
  rw [List.range'_1_concat,List.map_append]
  refine congrArg rec ?_
  refine Prod.ext rfl ?_
  show ((f.toNat+k:Nat):Int)+1=f+((k+1:Nat):Int)
  omega
 ·unfold ticket_truth_paid_l1
  simp only
  rw [decide_eq_false (by omega),cond_false,sumI_eq _ (by simp; omega) (fun x hx=>by
   obtain ⟨k,_,rfl⟩:=List.mem_map.1 hx
   exact h.pv k)]
  rfl
end Go.Proofs.YtafhljljfglfeaaDoor
namespace Go.Proofs.YtafhljljfglfeaaDoor
open Go Go.Fx
structure OpT (q:Ticket_book):Prop where
 ta:Val q.TicketBook.Tally
 t3:q.TicketBook.Tally.Trips≤3
 r5:q.TicketBook.Tally.Room≤5
 f1:1≤q.TicketBook.Fare
 f20:q.TicketBook.Fare≤20
 tn:q.TicketBook.Tickets.length≤3
 te:∀ x∈q.TicketBook.Tickets,Seas q.TicketBook.Tally.Trips x
 sn:q.TicketBook.Shows.length≤5
 bn:q.TicketBook.Boxes.length≤3
 bx:∀ x∈q.TicketBook.Boxes,Box q.TicketBook.Tally.Trips x
 s3:q.shown_.length=3
 sb:∀ d,0≤q.shown_.getD d 0∧q.shown_.getD d 0 < 8
def fitsN (fare:Int) (c u:List Int) (x:TicketBox):Bool:=inB (paidN c u x.From.toNat (x.To+1 - x.From).toNat*fare) x.Pence (x.Pence+x.Lost)
theorem mul_bd {r f:Int} (h1:-9≤r) (h2:r≤15) (f1:1≤f) (f20:f≤20):-180≤r*f∧r*f≤300:=by
 have a:r*f≤15*f:=Int.mul_le_mul_of_nonneg_right h2 (by omega)
 have b:-9*f≤r*f:=Int.mul_le_mul_of_nonneg_right h1 (by omega)
 omega
theorem fits_eq (q:Ticket_book) (f1:1≤q.TicketBook.Fare) (f20:q.TicketBook.Fare≤20) {c u:List Int} (h:Small c u) {T:Int} (T3:T≤3) {x:TicketBox} (hx:Box T x):ticket_book_fits q ⟨c,u⟩ x=some (fitsN q.TicketBook.Fare c u x):=by
 have h0:=hx.f0; have h1:=hx.ft; have h2:=hx.tT; have h3:=hx.p0; have h4:=hx.p4; have h5:=hx.l0; have h6:=hx.l4
 unfold ticket_book_fits
 rw [paid_eq h h0 h1 (by omega),Option.bind_some]
 have hp:=h.paid x.From.toNat (x.To+1 - x.From).toNat
 have hm:=mul_bd (r:=paidN c u x.From.toNat (x.To+1 - x.From).toNat) (by omega) (by omega) f1 f20
 rw [wrI (x:=_*_) (by omega) (by omega),wrI (x:=x.Pence+x.Lost) (by omega) (by omega),withinT_eq]
 rfl
def rightN (q:Ticket_book) (c u:List Int) (d:Nat):Bool:=q.TicketBook.Boxes.all fun x=>!(x.To==(d:Int))||fitsN q.TicketBook.Fare c u x
theorem rightT_eq (q:Ticket_book) (Q:OpT q) {c u:List Int} (h:Small c u) (d:Nat):ticket_book_right q ⟨c,u⟩ d=some (rightN q c u d):=by
 unfold ticket_book_right
 rw [has_box q.TicketBook.Boxes _ (fun x=>(x.To==(d:Int))&&!fitsN q.TicketBook.Fare c u x) (fun x hx=>?_) (by have:=Q.bn; omega),Option.bind_some]
 ·congr 1
  unfold rightN
  rw [Bool.eq_iff_iff,Bool.not_eq_true',List.any_eq_false,List.all_eq_true]
  refine forall_congr' fun x=>forall_congr' fun _=>?_
  cases (x.To==(d:Int)) <;> cases fitsN q.TicketBook.Fare c u x <;> simp
 ·unfold ticket_book_right_1
  cases hd:(x.To==(d:Int)) with
  | false=>rfl
  | true=>rw [cond_true,fits_eq q Q.f1 Q.f20 h Q.t3 (Q.bx x hx),Option.bind_some]; rfl
def validN (q:Ticket_book) (s d:Nat):Bool:=(List.range q.TicketBook.Tickets.length).all (fun k=>(q.TicketBook.Tickets[k]?).all fun x=>!s.testBit k||inB d x.From x.To)&&s / 2 ^ q.TicketBook.Tickets.length==0
theorem bitI (s k:Nat) (hk:k < 64):(andI (shrI (s:Int) (k:Int)) 1==1)=s.testBit k:=by
 have:=member_nat s k hk
 unfold B_Member at this
 rw [need_of (by simp)] at this
 exact Option.some.inj this
theorem valid_eq (q:Ticket_book) (Q:OpT q) (s d:Nat):ticket_book_valid q s d=some (validN q s d):=by
 have hn:=Q.tn
 unfold ticket_book_valid
 rw [loop_all (body:=ticket_book_valid_l2 q s d) q.TicketBook.Tickets.length (fun k=>(q.TicketBook.Tickets[k]?).all fun x=>!s.testBit k||inB d x.From x.To) (Rf:=some false) (Rt:=some (s / 2 ^ q.TicketBook.Tickets.length==0)) (fun rec k hk=>?_) (fun rec=>?_) (by rw [big_eq]; omega)]
 ·unfold validN
  generalize (List.range q.TicketBook.Tickets.length).all (fun k=>(q.TicketBook.Tickets[k]?).all fun x=>!s.testBit k||inB d x.From x.To)=A
  cases A <;> rfl
 ·unfold ticket_book_valid_l2
  rw [decide_eq_true (by omega),cond_true,getI_ix hk,Option.bind_some,need_of (by simp),bitI s k (by omega),List.getElem?_eq_getElem hk,withinT_eq,wrI (by omega) (by omega),show (k:Int)+1=((k+1:Nat):Int) by omega]
  simp only [Option.all_some]
  cases s.testBit k <;> cases inB (d:Int) q.TicketBook.Tickets[k].From q.TicketBook.Tickets[k].To <;> rfl
 ·unfold ticket_book_valid_l2
  rw [decide_eq_false (by omega),cond_false,need_of (by simp),shr_nat s _ (by omega)]
  congr 1
  rw [Bool.eq_iff_iff,beq_iff_eq,beq_iff_eq]
  omega
def okN (q:Ticket_book) (c u:List Int) (s d:Nat):Bool:=validN q s d&&(s &&& (q.shown_.getD d 0).toNat==(q.shown_.getD d 0).toNat)&&decide (popN s≤c.getD d 0)&&rightN q c u d
def usesL (q:Ticket_book):Nat→List Int→List Int→Nat→List Ticket_truth
 | 0,c,u,_=>[⟨c,u⟩]
 | r+1,c,u,d=>(List.range' 0 8).flatMap fun (s:Nat)=>bif okN q c (u.set d (s:Int)) s d then usesL q r c (u.set d (s:Int)) (d+1) else []
theorem Small.setU {c u:List Int} (h:Small c u) {d:Nat}{s:Nat} (hs:s < 8):Small c (u.set d (s:Int)):=by
 refine ⟨h.c3,by simp [h.u3],h.cb,fun i=>?_⟩
 have:=h.ub i
 rw [List.getD_eq_getElem?_getD] at this ⊢
 rw [List.getElem?_set]
 split
 ·split
  ·simp; omega
  ·simp
 ·exact this
theorem use_eq (q:Ticket_book) (Q:OpT q) {σ:Type} (yv:Ticket_truth→σ→Option (Bool×σ)):∀ (r:Nat) (c u:List Int) (d:Nat) (s:σ) (n:Nat),((d+r:Nat):Int)=q.TicketBook.Tally.Trips→r < n→Small c u→
 ticket_book_truths_1_1 n ⟨c,u⟩ d s q q yv=foldY yv (usesL q r c u d) s:=by
 have T3:=Q.t3
 intro r
 induction r with
 | zero=>
   intro c u d s n h1 h2 h3
   obtain ⟨n,rfl⟩:∃ m,n=m+1:=⟨n - 1,by omega⟩
   show ticket_book_truths_1_1_F _ ⟨c,u⟩ d s q q yv=foldY yv [⟨c,u⟩] s
   rw [foldY_one]
   unfold ticket_book_truths_1_1_F
   rw [show ((d:Int)==q.TicketBook.Tally.Trips)=true by rw [beq_iff_eq]; omega,cond_true]
   cases yv ⟨c,u⟩ s <;> rfl
 | succ r ih=>
   intro c u d s n h1 h2 h3
   obtain ⟨n,rfl⟩:∃ m,n=m+1:=⟨n - 1,by omega⟩
   show ticket_book_truths_1_1_F _ ⟨c,u⟩ d s q q yv=_
   unfold ticket_book_truths_1_1_F
   rw [show ((d:Int)==q.TicketBook.Tally.Trips)=false by rw [beq_eq_false_iff_ne]; omega,cond_false]
   have key:∀ (e k m:Nat) (U:List Int) (s:σ),k+e=8→e < m→U.length=3→(∀ x,U.set d x=u.set d x)→
    loopF (ticket_book_truths_1_1_l1 d q ⟨c,u⟩ q (fun x0 x1 x2=>ticket_book_truths_1_1 n x0 x1 x2 q q yv)) m ((k:Int),U,s)=foldY yv ((List.range' k e).flatMap fun (s:Nat)=>bif okN q c (u.set d (s:Int)) s d then usesL q r c (u.set d (s:Int)) (d+1) else []) s:=by
    intro e
    induction e with
    | zero=>
      intro k m U s h4 h5 h6 h7
      obtain ⟨m,rfl⟩:∃ q,m=q+1:=⟨m - 1,by omega⟩
      show ticket_book_truths_1_1_l1 d q ⟨c,u⟩ q _ _ ((k:Int),U,s)=_
      unfold ticket_book_truths_1_1_l1
      simp only
      rw [decide_eq_false (by omega),cond_false]
      rfl
    | succ e ih2=>
      intro k m U s h4 h5 h6 h7
      obtain ⟨m,rfl⟩:∃ q,m=q+1:=⟨m - 1,by omega⟩
      show ticket_book_truths_1_1_l1 d q ⟨c,u⟩ q _ (loopF _ m) ((k:Int),U,s)=_
      have ih3:=fun s=>ih2 (k+1) m (u.set d (k:Int)) s (by omega) (by omega) (by simp [h3.u3]) (fun x=>by simp)
      generalize loopF (ticket_book_truths_1_1_l1 d q ⟨c,u⟩ q (fun x0 x1 x2=>ticket_book_truths_1_1 n x0 x1 x2 q q yv)) m=rec at ih3
      rw [List.range'_succ,List.flatMap_cons,foldY_app]
      have w0:wr ((k:Int)+1)=((k+1:Nat):Int):=by rw [wrI (by omega) (by omega)]; omega
      have wd:wr ((d:Int)+1)=((d+1:Nat):Int):=by rw [wrI (by omega) (by omega)]; omega
      have hk:k < 8:=by omega
      have hS:=h3.setU (d:=d) hk
      have nd:need (inI (d:Int) 3)=fun x:Option (Bool×σ)=>x:=by funext x; exact need_of (by simp [inI]; omega)
      have hsh:((q.shown_.getD d 0).toNat:Int)=q.shown_.getD d 0:=by have:=Q.sb d; omega
      have hand:=and_nat hk (show (q.shown_.getD d 0).toNat < 8 by have:=Q.sb d; omega)
      rw [hsh] at hand
      unfold ticket_book_truths_1_1_l1
      simp only
      rw [decide_eq_true (by omega),cond_true]
      simp only [nd]
      rw [valid_eq q Q,Option.bind_some,w0,aset_eq h6,show ((d:Int)).toNat=d from rfl,h7,agetN,agetN,hand]
      unfold okN
      cases validN q k d with
      | false=>
        simp only [Bool.not_false,cond_true,Bool.false_and,cond_false]
        rw [ih3 s]; rfl
      | true=>
        simp only [Bool.not_true,cond_false,Bool.true_and]
        rw [show (((k &&& (q.shown_.getD d 0).toNat:Nat):Int) != q.shown_.getD d 0)=!(k &&& (q.shown_.getD d 0).toNat==(q.shown_.getD d 0).toNat) by
         rw [Bool.eq_iff_iff,bne_iff_ne,Bool.not_eq_true',beq_eq_false_iff_ne]; omega]
        cases (k &&& (q.shown_.getD d 0).toNat==(q.shown_.getD d 0).toNat) with
        | false=>
          simp only [Bool.not_false,cond_true,Bool.false_and,cond_false]
          rw [ih3 s]; rfl
        | true=>
          simp only [Bool.not_true,cond_false,Bool.true_and]
          rw [pop_eq hk,Option.bind_some]
          by_cases hp:popN k≤c.getD d 0
          ·rw [decide_eq_false (show ¬popN k > c.getD d 0 by omega),cond_false,decide_eq_true hp,Bool.true_and,rightT_eq q Q hS,Option.bind_some]
           cases rightN q c (u.set d (k:Int)) d with
           | false=>
             simp only [Bool.not_false,cond_true,cond_false]
             rw [ih3 s]; rfl
           | true=>
             simp only [Bool.not_true,cond_false,cond_true]
             rw [wd,ih c (u.set d (k:Int)) (d+1) s n (by omega) (by omega) hS]
             cases foldY yv (usesL q r c (u.set d (k:Int)) (d+1)) s with
             | none=>rfl
             | some x=>
               obtain ⟨b,s2⟩:=x
               cases b with
               | false=>rfl
               | true=>exact ih3 s2
          ·rw [decide_eq_true (show popN k > c.getD d 0 by omega),cond_true,decide_eq_false hp,Bool.false_and,cond_false,ih3 s]; rfl
   exact key 8 0 big u s (by omega) (by rw [big_eq]; omega) h3.u3 (fun _=>rfl)
def canB (b:TallyBook) (c:List Int):Bool:=((tally_Can b (c.take b.Trips.toNat)).map (·.1)).getD false
def zer:List Int:=List.replicate 3 0
def crossL (q:Ticket_book):Nat→List Int→Nat→List Ticket_truth
 | 0,c,_=>bif canB q.TicketBook.Tally c then usesL q q.TicketBook.Tally.Trips.toNat c zer 0 else []
 | r+1,c,d=>(List.range' 0 (q.TicketBook.Tally.Room+1).toNat).flatMap fun (n:Nat)=>crossL q r (c.set d (n:Int)) (d+1)
theorem Small.setC {c u:List Int} (h:Small c u) {d:Nat}{s:Nat} (hs:s≤5):Small (c.set d (s:Int)) u:=by
 refine ⟨by simp [h.c3],h.u3,fun i=>?_,h.ub⟩
 have:=h.cb i
 rw [List.getD_eq_getElem?_getD] at this ⊢
 rw [List.getElem?_set]
 split
 ·split
  ·simp; omega
  ·simp
 ·exact this
theorem take_all {l:List Int}{n:Nat}{p:Int→Prop} (h:∀ i,i < n→p (l.getD i 0)):∀ x∈l.take n,p x:=by
 intro x hx
 obtain ⟨i,hi,rfl⟩:=List.getElem_of_mem hx
 have h1:i < n:=by rw [List.length_take] at hi; omega
 have h2:i < l.length:=by rw [List.length_take] at hi; omega
 have:=h i h1
 rw [List.getElem_take]
 rwa [List.getD_eq_getElem?_getD,List.getElem?_eq_getElem h2] at this
theorem tru_of {b:TallyBook} (V:Val b) (t3:b.Trips≤3) {c:List Int} (c3:c.length=3) (h:∀ i,i < b.Trips.toNat→0≤c.getD i 0∧c.getD i 0≤b.Room):Tru b (c.take b.Trips.toNat):=by
 have:=V.t1
 exact ⟨by rw [List.length_take]; omega,take_all (p:=fun n=>0≤n∧n≤b.Room) h⟩
theorem canB_eq {b:TallyBook} (V:Val b) {c:List Int} (hu:Tru b (c.take b.Trips.toNat)):tally_Can b (c.take b.Trips.toNat)=some (canB b c,0)∧(canB b c=true↔Fit b no (pre (c.take b.Trips.toNat))):=by
 obtain ⟨r,hr,hi⟩:=can_law V hu
 have:canB b c=r:=by unfold canB; rw [hr]; rfl
 rw [this]; exact ⟨hr,hi⟩
theorem cross_eq (q:Ticket_book) (Q:OpT q) {σ:Type} (yv:Ticket_truth→σ→Option (Bool×σ)):∀ (r:Nat) (c:List Int) (d:Nat) (s:σ) (n:Nat),((d+r:Nat):Int)=q.TicketBook.Tally.Trips→r < n→Small c zer→(∀ i,i < d→0≤c.getD i 0∧c.getD i 0≤q.TicketBook.Tally.Room)→
 ticket_book_truths_1_2 n ⟨c,zer⟩ d s q q yv=foldY yv (crossL q r c d) s:=by
 have T3:=Q.t3; have r0:=Q.ta.r0; have r5:=Q.r5
 intro r
 induction r with
 | zero=>
   intro c d s n h1 h2 h3 h4
   obtain ⟨n,rfl⟩:∃ m,n=m+1:=⟨n - 1,by omega⟩
   show ticket_book_truths_1_2_F _ ⟨c,zer⟩ d s q q yv=_
   unfold ticket_book_truths_1_2_F
   have hd:d=q.TicketBook.Tally.Trips.toNat:=by omega
   have hc:=h3.c3
   obtain ⟨e1,_⟩:=canB_eq Q.ta (tru_of Q.ta T3 h3.c3 (by rw [← hd]; exact h4))
   rw [show ((d:Int)==q.TicketBook.Tally.Trips)=true by rw [beq_iff_eq]; omega,cond_true]
   simp only
   rw [sgl_eq h3.c3,cutI_eq (by omega) (by omega) (by omega),Option.bind_some,show ((0:Int)).toNat=0 from rfl,List.drop_zero,show ((d:Int)).toNat=q.TicketBook.Tally.Trips.toNat by omega,e1,Option.bind_some,crossL]
   simp only
   cases canB q.TicketBook.Tally c with
   | false=>rfl
   | true=>
     rw [Bool.not_true,cond_false,cond_true]
     have:=use_eq q Q yv q.TicketBook.Tally.Trips.toNat c zer 0 s big (by omega) (by rw [big_eq]; omega) h3
     rw [show ticket_book_truths_1_1 big ⟨c,zer⟩ 0 s q q yv=_ from this]
     cases foldY yv (usesL q q.TicketBook.Tally.Trips.toNat c zer 0) s <;> rfl
 | succ r ih=>
   intro c d s n h1 h2 h3 h4
   obtain ⟨n,rfl⟩:∃ m,n=m+1:=⟨n - 1,by omega⟩
   show ticket_book_truths_1_2_F _ ⟨c,zer⟩ d s q q yv=_
   unfold ticket_book_truths_1_2_F
   rw [show ((d:Int)==q.TicketBook.Tally.Trips)=false by rw [beq_eq_false_iff_ne]; omega,cond_false]
   have wR:wr (q.TicketBook.Tally.Room+1)=(((q.TicketBook.Tally.Room+1).toNat:Nat):Int):=by rw [wrI (by omega) (by omega)]; omega
   have key:∀ (e k m:Nat) (U:List Int) (s:σ),k+e=(q.TicketBook.Tally.Room+1).toNat→e < m→U.length=3→(∀ x,U.set d x=c.set d x)→
    loopF (ticket_book_truths_1_2_l1 q d (fun x0 x1 x2=>ticket_book_truths_1_2 n x0 x1 x2 q q yv) ⟨c,zer⟩) m ((k:Int),U,s)=foldY yv ((List.range' k e).flatMap fun (n:Nat)=>crossL q r (c.set d (n:Int)) (d+1)) s:=by
    intro e
    induction e with
    | zero=>
      intro k m U s h4 h5 h6 h7
      obtain ⟨m,rfl⟩:∃ q,m=q+1:=⟨m - 1,by omega⟩
      show ticket_book_truths_1_2_l1 q d _ ⟨c,zer⟩ _ ((k:Int),U,s)=_
      unfold ticket_book_truths_1_2_l1
      simp only
      rw [wR,decide_eq_false (by omega),cond_false]
      rfl
    | succ e ih2=>
      intro k m U s h5 h6 h7 h8
      obtain ⟨m,rfl⟩:∃ q,m=q+1:=⟨m - 1,by omega⟩
      show ticket_book_truths_1_2_l1 q d _ ⟨c,zer⟩ (loopF _ m) ((k:Int),U,s)=_
      have ih3:=fun s=>ih2 (k+1) m (c.set d (k:Int)) s (by omega) (by omega) (by simp [h3.c3]) (fun x=>by simp)
      generalize loopF (ticket_book_truths_1_2_l1 q d (fun x0 x1 x2=>ticket_book_truths_1_2 n x0 x1 x2 q q yv) ⟨c,zer⟩) m=rec at ih3
      rw [List.range'_succ,List.flatMap_cons,foldY_app]
      have w0:wr ((k:Int)+1)=((k+1:Nat):Int):=by rw [wrI (by omega) (by omega)]; omega
      have wd:wr ((d:Int)+1)=((d+1:Nat):Int):=by rw [wrI (by omega) (by omega)]; omega
      unfold ticket_book_truths_1_2_l1
      simp only
      rw [wR,decide_eq_true (by omega),cond_true,need_of (by simp [inI]; omega),aset_eq h7,show ((d:Int)).toNat=d from rfl,h8,wd,w0,ih (c.set d (k:Int)) (d+1) s n (by omega) (by omega) (h3.setC (by omega)) (fun i hi=>by
       rw [List.getD_eq_getElem?_getD,List.getElem?_set]
       split
       ·split
        ·simp; omega
        ·simp; omega
       ·rw [← List.getD_eq_getElem?_getD]; exact h4 i (by omega))]
      cases foldY yv (crossL q r (c.set d (k:Int)) (d+1)) s with
      | none=>rfl
      | some x=>
        obtain ⟨b,s2⟩:=x
        cases b with
        | false=>rfl
        | true=>exact ih3 s2
   exact key _ 0 big c s (by omega) (by rw [big_eq]; omega) h3.c3 (fun _=>rfl)
theorem small0:Small zer zer:=by
 have:∀ d,zer.getD d 0=0:=fun d=>by
  unfold zer; rw [List.getD_eq_getElem?_getD,List.getElem?_replicate]; split <;> rfl
 exact ⟨rfl,rfl,fun d=>by rw [this]; omega,fun d=>by rw [this]; omega⟩
def truths (q:Ticket_book) (cl:Bool):List Ticket_truth:=bif cl then crossL q q.TicketBook.Tally.Trips.toNat zer 0 else []
theorem truths_eq (q:Ticket_book) (Q:OpT q) {cl:Bool} (hc:ticket_book_clear q=some cl) {σ:Type} (yv:Ticket_truth→σ→Option (Bool×σ)) (s:σ):ticket_book_truths_1 s q yv=(foldY yv (truths q cl) s).map (·.2):=by
 have T3:=Q.t3; have T1:=Q.ta.t1
 unfold ticket_book_truths_1 truths
 rw [hc,Option.bind_some]
 cases cl with
 | false=>rfl
 | true=>
   rw [Bool.not_true,cond_false,cond_true]
   have:=cross_eq q Q yv q.TicketBook.Tally.Trips.toNat zer 0 s big (by omega) (by rw [big_eq]; omega) small0 (fun i h=>absurd h (Nat.not_lt_zero i))
   rw [show ticket_book_truths_1_2 big (Ticket_truth.mk (List.replicate 3 0) (List.replicate 3 0)) 0 s q q yv=_ from this]
   cases foldY yv (crossL q q.TicketBook.Tally.Trips.toNat zer 0) s <;> rfl
end Go.Proofs.YtafhljljfglfeaaDoor
namespace Go.Proofs.YtafhljljfglfeaaDoor
open Go Go.Fx
def kept {α:Type} (l:List α) (o:Nat→Bool) (k:Nat):List α:=(List.range k).filterMap fun i=>bif o i then none else l[i]?
theorem kept_succ {α:Type}{l:List α}{o:Nat→Bool}{k:Nat} (h:k < l.length):kept l o (k+1)=kept l o k++(bif o k then [] else [l[k]]):=by
 unfold kept
 rw [List.range_succ,List.filterMap_append]
 congr 1
 simp only [List.filterMap_cons,List.filterMap_nil,List.getElem?_eq_getElem h]
 cases o k <;> rfl
theorem kept_len {α:Type}{l:List α}{o:Nat→Bool}{k:Nat}:(kept l o k).length≤k:=by
 have:=List.length_filterMap_le (fun i=>bif o i then none else l[i]?) (List.range k)
 simpa [kept] using this
theorem kept_all {α:Type} (l:List α):kept l (fun _=>false) l.length=l:=by
 have:∀ k,k≤l.length→kept l (fun _=>false) k=l.take k:=by
  intro k
  induction k with
  | zero=>intro _; rfl
  | succ k ih=>
    intro h
    rw [kept_succ (by omega),ih (by omega),List.take_succ_eq_append_getElem (by omega)]; rfl
 rw [this _ (Nat.le_refl _),List.take_length]
def shownStep (s:List Int) (x:TicketShow):List Int:=aset s 3 x.Trip (orI (aget s x.Trip) (shlI 1 x.Ticket))
def shownOf (l:List TicketShow):List Int:=l.foldl shownStep zer
def byStep (m:List (Ticket_seat×Int)) (x:TicketShow):List (Ticket_seat×Int):=putL m (Ticket_seat.mk x.Trip x.Walker) (orI ((lookL m (Ticket_seat.mk x.Trip x.Walker)).getD 0) (shlI 1 x.Ticket))
def byOf (l:List TicketShow):List (Ticket_seat×Int):=l.foldl byStep (putL ([]:List (Ticket_seat×Int)) (Ticket_seat.mk (-1) (-1)) 0)
def qOf (b:TicketBook) (sh:List TicketShow) (bx:List TicketBox):Ticket_book:=⟨⟨b.Tally,b.Fare,b.Tickets,sh,bx⟩,shownOf sh,byOf sh⟩
def outS (b:TicketBook) (o:Nat→Bool):List TicketShow:=kept b.Shows o b.Shows.length
def outX (b:TicketBook) (o:Nat→Bool):List TicketBox:=kept b.Boxes (fun i=>o (b.Shows.length+i)) b.Boxes.length
theorem openedT_eq {b:TicketBook} (V:VT b) (ch:Ticket_choice) (o:Nat→Bool) (h:∀ k,k < b.Shows.length+b.Boxes.length→ch.out_ (k:Int)=some (o k)):ticket_opened b ch=some (qOf b (outS b o) (outX b o)):=by
 have sn:=V.sn; have bn:=V.bn
 unfold ticket_opened
 refine loop_fold0 (fun k=>((k:Int),(kept b.Shows o k).foldl byStep (putL ([]:List (Ticket_seat×Int)) (Ticket_seat.mk (-1) (-1)) 0),kept b.Shows o k,(kept b.Shows o k).foldl shownStep zer)) b.Shows.length (fun rec k hk=>?_) (fun rec=>?_) (by rw [big_eq]; omega) rfl
 ·unfold ticket_opened_l5
  simp only
  have hx:=V.sh _ (List.getElem_mem hk)
  have t3:=V.t3; have h0:=hx.t0; have h1:=hx.tT; have h2:=hx.n0
  have hl:=kept_len (l:=b.Shows) (o:=o) (k:=k)
  rw [decide_eq_true (by omega),cond_true,getI_ix hk,Option.bind_some,h k (by omega),Option.bind_some,kept_succ hk,wrI (by omega) (by omega),show (k:Int)+1=((k+1:Nat):Int) by omega]
  cases o k with
  | true=>
    rw [Bool.not_true,cond_false,cond_true,List.append_nil]
  | false=>
    rw [Bool.not_false,cond_true,cond_false,need_of (fits_small (by simp; omega) (by omega)),need_of (by simp [inI]; omega),need_of (by simp; omega),need_of (by simp [inI]; omega),need_of (by simp; omega),List.foldl_append,List.foldl_append]
    rfl
 ·unfold ticket_opened_l5
  simp only
  rw [decide_eq_false (by omega),cond_false]
  refine loop_fold0 (fun k=>((k:Int),kept b.Boxes (fun i=>o (b.Shows.length+i)) k)) b.Boxes.length (fun rec k hk=>?_) (fun rec=>?_) (by rw [big_eq]; omega) rfl
  ·unfold ticket_opened_l4
   simp only
   have hl:=kept_len (l:=b.Boxes) (o:=fun i=>o (b.Shows.length+i)) (k:=k)
   rw [decide_eq_true (by omega),cond_true,getI_ix hk,Option.bind_some,wrI (x:=(b.Shows.length:Int)+(k:Int)) (by omega) (by omega),show (b.Shows.length:Int)+(k:Int)=((b.Shows.length+k:Nat):Int) by omega,h _ (by omega),Option.bind_some,kept_succ hk,wrI (x:=(k:Int)+1) (by omega) (by omega),show (k:Int)+1=((k+1:Nat):Int) by omega]
   cases o (b.Shows.length+k) with
   | true=>rw [Bool.not_true,cond_false,cond_true,List.append_nil]
   | false=>rw [Bool.not_false,cond_true,cond_false,need_of (fits_small (by simp; omega) (by omega))]
  ·unfold ticket_opened_l4
   simp only
   rw [decide_eq_false (by omega),cond_false]
   rfl
structure Pc (b:TicketBook) (sh:List TicketShow) (bx:List TicketBox):Prop where
 sn:sh.length≤5
 bn:bx.length≤3
 sh:∀ x∈sh,Shw b.Tally.Trips b.Tickets.length x
 bx:∀ x∈bx,Box b.Tally.Trips x
theorem VT.pc {b:TicketBook} (V:VT b):Pc b b.Shows b.Boxes:=⟨V.sn,V.bn,V.sh,V.bx⟩
theorem list_rev {α:Type}{p:List α→Prop} (h0:p []) (h1:∀ l x,p l→p (l++[x])):∀ l,p l:=by
 intro l
 have:∀ n,n≤l.length→p (l.take n):=by
  intro n
  induction n with
  | zero=>intro _; exact h0
  | succ n ih=>
    intro h
    rw [List.take_succ_eq_append_getElem (by omega)]
    exact h1 _ _ (ih (by omega))
 have:=this _ (Nat.le_refl _)
 rwa [List.take_length] at this
theorem or_small {s t:Nat} (h:s < 8) (k:t < 3):orI (s:Int) (shlI 1 (t:Int))=((s ||| 2 ^ t:Nat):Int)∧s ||| 2 ^ t < 8:=by
 have h2:2 ^ t < 8:=by
  match t,k with
  | 0,_=>decide
  | 1,_=>decide
  | 2,_=>decide
 refine ⟨?_,Nat.or_lt_two_pow (n:=3) h h2⟩
 rw [shl1_nat t (by omega),or_nat s _ (by omega) (by omega)]
theorem shown_ok {b:TicketBook} (t3:b.Tally.Trips≤3) (tn:b.Tickets.length≤3):∀ (sh:List TicketShow),(∀ x∈sh,Shw b.Tally.Trips b.Tickets.length x)→(shownOf sh).length=3∧(∀ d,0≤(shownOf sh).getD d 0∧(shownOf sh).getD d 0 < 8)∧∀ d n:Nat,((shownOf sh).getD d 0).toNat.testBit n=true↔∃ x∈sh,x.Trip=d∧x.Ticket=n:=by
 refine list_rev (fun _=>?_) (fun l x ih h=>?_)
 ·have hz:∀ d,zer.getD d 0=0:=fun d=>by
   unfold zer; rw [List.getD_eq_getElem?_getD,List.getElem?_replicate]; split <;> rfl
  refine ⟨rfl,fun d=>?_,fun d n=>?_⟩
  ·show 0≤zer.getD d 0∧zer.getD d 0 < 8; rw [hz]; omega
  ·show (zer.getD d 0).toNat.testBit n=true↔_; rw [hz]; simp
 ·obtain ⟨i1,i2,i3⟩:=ih fun y hy=>h y (List.mem_append_left _ hy)
  have hx:=h x (List.mem_append_right _ (List.mem_singleton.2 rfl))
  have h0:=hx.t0; have h1:=hx.tT; have h2:=hx.n0; have h3:=hx.nm
  have hd:=i2 x.Trip.toNat
  have e:shownOf (l++[x])=(shownOf l).set x.Trip.toNat ((((shownOf l).getD x.Trip.toNat 0).toNat ||| 2 ^ x.Ticket.toNat:Nat):Int):=by
   have e0:shownOf (l++[x])=shownStep (shownOf l) x:=by unfold shownOf; rw [List.foldl_append]; rfl
   rw [e0]
   unfold shownStep
   rw [aset_eq i1]
   congr 1
   have:=or_small (s:=((shownOf l).getD x.Trip.toNat 0).toNat) (t:=x.Ticket.toNat) (by omega) (by omega)
   rw [← this.1,show ((((shownOf l).getD x.Trip.toNat 0).toNat:Nat):Int)=(shownOf l).getD x.Trip.toNat 0 by omega,show ((x.Ticket.toNat:Nat):Int)=x.Ticket by omega]
   rfl
  have lt:=(or_small (s:=((shownOf l).getD x.Trip.toNat 0).toNat) (t:=x.Ticket.toNat) (by omega) (by omega)).2
  have get:∀ d,(shownOf (l++[x])).getD d 0=if x.Trip.toNat=d then ((((shownOf l).getD x.Trip.toNat 0).toNat ||| 2 ^ x.Ticket.toNat:Nat):Int) else (shownOf l).getD d 0:=fun d=>by
   rw [e,List.getD_eq_getElem?_getD,List.getElem?_set]
   by_cases hd:x.Trip.toNat=d
   ·rw [if_pos hd,if_pos hd,if_pos (by rw [i1]; omega)]; rfl
   ·rw [if_neg hd,if_neg hd,List.getD_eq_getElem?_getD]
  refine ⟨by rw [e,List.length_set,i1],fun d=>?_,fun d n=>?_⟩
  ·rw [get]
   split
   ·omega
   ·exact i2 d
  ·rw [get]
   by_cases hd:x.Trip.toNat=d
   ·rw [if_pos hd,Int.toNat_natCast,Nat.testBit_or,Bool.or_eq_true,hd,i3,Nat.testBit_two_pow]
    constructor
    ·rintro (⟨y,hy,h⟩ | h)
     ·exact ⟨y,List.mem_append_left _ hy,h⟩
     ·have:=of_decide_eq_true h
      exact ⟨x,List.mem_append_right _ (List.mem_singleton.2 rfl),by omega,by omega⟩
    ·rintro ⟨y,hy,h⟩
     rcases List.mem_append.1 hy with hy | hy
     ·exact .inl ⟨y,hy,h⟩
     ·rw [List.mem_singleton.1 hy] at h
      exact .inr (decide_eq_true (by omega))
   ·rw [if_neg hd,i3]
    constructor
    ·rintro ⟨y,hy,h⟩; exact ⟨y,List.mem_append_left _ hy,h⟩
    ·rintro ⟨y,hy,h⟩
     rcases List.mem_append.1 hy with hy | hy
     ·exact ⟨y,hy,h⟩
     ·rw [List.mem_singleton.1 hy] at h; omega
theorem look_put_ne {κ ν:Type} [DecidableEq κ] (l:List (κ×ν)) {a c:κ} (x:ν) (h:c≠a):lookL (putL l a x) c=lookL l c:=by
 unfold putL
 cases hf:(l.map (·.1)).findIdx? (·==a) with
 | none=>
   simp only
   unfold lookL
   rw [List.find?_append]
   cases l.find? (·.1==c) with
   | some y=>rfl
   | none=>
     have e:(a==c)=false:=by simpa using fun e:a=c=>h e.symm
     simp [List.find?_cons,e]
 | some i=>
   simp only
   obtain ⟨hi,hp⟩:=List.findIdx?_eq_some_iff_getElem.1 hf
   have hi' :i < l.length:=by simpa using hi
   have hp' :l[i].1=a:=by simpa using hp.1
   clear hf hp
   unfold lookL
   congr 1
   induction l generalizing i with
   | nil=>rfl
   | cons y l ih=>
     cases i with
     | zero=>
       have hy:y.1=a:=hp'
       have n1:(y.1==c)=false:=by rw [hy]; simpa using fun e=>h e.symm
       have n2:(a==c)=false:=by simpa using fun e=>h e.symm
       rw [List.set_cons_zero,List.find?_cons,List.find?_cons]
       simp only [n1,n2]
     | succ i=>
       rw [List.set_cons_succ,List.find?_cons,List.find?_cons]
       cases (y.1==c) with
       | true=>rfl
       | false=>exact ih i (by simpa using hi) (by simpa using hi') (by simpa using hp')
def seatOf (x:TicketShow):Ticket_seat:=⟨x.Trip,x.Walker⟩
theorem by_ok {b:TicketBook} (t3:b.Tally.Trips≤3) (tn:b.Tickets.length≤3):∀ (sh:List TicketShow),(∀ x∈sh,Shw b.Tally.Trips b.Tickets.length x)→∀ s:Ticket_seat,∃ v:Nat,v < 8∧(lookL (byOf sh) s).getD 0=(v:Int)∧∀ n:Nat,v.testBit n=true↔∃ x∈sh,seatOf x=s∧x.Ticket=n:=by
 refine list_rev (fun _ s=>?_) (fun l x ih h s=>?_)
 ·refine ⟨0,by decide,?_,fun n=>by simp⟩
  unfold byOf
  by_cases hs:s=Ticket_seat.mk (-1) (-1)
  ·rw [hs]; rfl
  ·show (lookL (putL ([]:List (Ticket_seat×Int)) (Ticket_seat.mk (-1) (-1)) 0) s).getD 0=_
   rw [look_put_ne _ _ hs]; rfl
 ·have hx:=h x (List.mem_append_right _ (List.mem_singleton.2 rfl))
  have h2:=hx.n0; have h3:=hx.nm
  have e:byOf (l++[x])=byStep (byOf l) x:=by unfold byOf; rw [List.foldl_append]; rfl
  have ih:=ih fun y hy=>h y (List.mem_append_left _ hy)
  by_cases hs:s=seatOf x
  ·subst hs
   obtain ⟨v,v8,hv,hb⟩:=ih (seatOf x)
   have ho:=or_small (s:=v) (t:=x.Ticket.toNat) v8 (by omega)
   refine ⟨v ||| 2 ^ x.Ticket.toNat,ho.2,?_,fun n=>?_⟩
   ·rw [e]; unfold byStep
    show (lookL (putL (byOf l) (seatOf x) (orI ((lookL (byOf l) (seatOf x)).getD 0) _)) (seatOf x)).getD 0=_
    rw [look_put,hv,Option.getD_some,← ho.1,show ((x.Ticket.toNat:Nat):Int)=x.Ticket by omega]
   ·rw [Nat.testBit_or,Bool.or_eq_true,hb,Nat.testBit_two_pow]
    constructor
    ·rintro (⟨y,hy,h⟩ | h)
     ·exact ⟨y,List.mem_append_left _ hy,h⟩
     ·have:=of_decide_eq_true h
      exact ⟨x,List.mem_append_right _ (List.mem_singleton.2 rfl),rfl,by omega⟩
    ·rintro ⟨y,hy,h⟩
     rcases List.mem_append.1 hy with hy | hy
     ·exact .inl ⟨y,hy,h⟩
     ·rw [List.mem_singleton.1 hy] at h
      exact .inr (decide_eq_true (by omega))
  ·obtain ⟨v,v8,hv,hb⟩:=ih s
   refine ⟨v,v8,?_,fun n=>?_⟩
   ·rw [e]; unfold byStep
    show (lookL (putL (byOf l) (seatOf x) _) s).getD 0=_
    rw [look_put_ne _ _ hs,hv]
   ·rw [hb]
    constructor
    ·rintro ⟨y,hy,h⟩; exact ⟨y,List.mem_append_left _ hy,h⟩
    ·rintro ⟨y,hy,h⟩
     rcases List.mem_append.1 hy with hy | hy
     ·exact ⟨y,hy,h⟩
     ·rw [List.mem_singleton.1 hy] at h; exact absurd h.1.symm hs
def Cl (sh:List TicketShow):Prop:=∀ x∈sh,∀ y∈sh,x.Trip=y.Trip→(x.Ticket=y.Ticket↔x.Walker=y.Walker)
def clashN (x y:TicketShow):Bool:=(x.Trip==y.Trip)&&((x.Ticket==y.Ticket) != (x.Walker==y.Walker))
theorem clash_eq (x y:TicketShow):ticket_clash x y=some (clashN x y):=by
 unfold ticket_clash clashN
 cases (x.Trip==y.Trip) <;> rfl
theorem clashN_iff {x y:TicketShow}:clashN x y=true↔x.Trip=y.Trip∧¬(x.Ticket=y.Ticket↔x.Walker=y.Walker):=by
 unfold clashN
 rw [Bool.and_eq_true,beq_iff_eq,bne_iff_ne]
 refine and_congr_right fun _=>?_
 rw [Ne,Bool.eq_iff_iff,beq_iff_eq,beq_iff_eq]
theorem clashN_comm (x y:TicketShow):clashN x y=clashN y x:=by
 rw [Bool.eq_iff_iff,clashN_iff,clashN_iff,eq_comm (a:=x.Trip),eq_comm (a:=x.Ticket),eq_comm (a:=x.Walker)]
theorem cl_iff {sh:List TicketShow}:Cl sh↔∀ x∈sh,∀ y∈sh,clashN x y=false:=by
 unfold Cl
 refine forall_congr' fun x=>forall_congr' fun _=>forall_congr' fun y=>forall_congr' fun _=>?_
 rw [← Bool.not_eq_true,clashN_iff]
 constructor
 ·intro h ⟨h1,h2⟩; exact h2 (h h1)
 ·intro h h1; exact Classical.byContradiction fun h2=>h ⟨h1,h2⟩
theorem clear_eq {b:TicketBook} (V:VT b) {sh:List TicketShow}{bx:List TicketBox} (P:Pc b sh bx):∃ cl,ticket_book_clear (qOf b sh bx)=some cl∧(cl=true↔Cl sh):=by
 have t3:=V.t3; have tn:=V.tn; have sn:=P.sn
 have B:=by_ok t3 tn sh P.sh
 unfold ticket_book_clear
 have L:=loop_all (body:=ticket_book_clear_l1 (qOf b sh bx)) sh.length (fun k=>(sh[k]?).all fun x=>((lookL (byOf sh) (seatOf x)).getD 0==shlI 1 x.Ticket)&&!(sh.take k).any (fun y=>clashN x y)) (Rf:=some false) (Rt:=some true) (fun rec k hk=>?_) (fun rec=>?_) (by rw [big_eq]; omega)
 rotate_left
 ·unfold ticket_book_clear_l1
  have hx:=P.sh _ (List.getElem_mem hk)
  have w0:=hx.w0; have n0:=hx.n0
  show (bif decide ((k:Int) < (sh.length:Int)) then _ else _)=_
  rw [decide_eq_true (by omega),cond_true]
  show (getI sh (k:Int)).bind _=_
  rw [getI_ix hk,Option.bind_some,List.getElem?_eq_getElem hk,Option.all_some]
  generalize sh[k]=x at hx w0 n0
  rw [show (x.Walker==(-1))=false by rw [beq_eq_false_iff_ne]; omega,Bool.and_false,cond_false,need_of (by simpa using n0)]
  show (bif (lookL (byOf sh) (seatOf x)).getD 0 != shlI 1 x.Ticket then some false else _)=_
  rw [bne]
  cases ((lookL (byOf sh) (seatOf x)).getD 0==shlI 1 x.Ticket) with
  | false=>rfl
  | true=>
    rw [Bool.not_true,cond_false,Bool.true_and]
    show (cutI sh 0 (k:Int)).bind _=_
    rw [cutI_eq (by omega) (by omega) (by omega),Option.bind_some,has_show _ _ (fun y=>clashN x y) (fun y _=>by
     unfold ticket_book_clear_1
     rw [clash_eq]; rfl) (by rw [List.length_drop,List.length_take]; omega),Option.bind_some,show ((0:Int)).toNat=0 from rfl,List.drop_zero,show ((k:Int)).toNat=k from rfl,wrI (by omega) (by omega),show (k:Int)+1=((k+1:Nat):Int) by omega]
    cases (sh.take k).any (fun y=>clashN x y) <;> rfl
 ·unfold ticket_book_clear_l1
  show (bif decide ((sh.length:Int) < (sh.length:Int)) then _ else _)=_
  rw [decide_eq_false (by omega),cond_false]
 rw [L]
 refine ⟨(List.range sh.length).all (fun k=>(sh[k]?).all fun x=>((lookL (byOf sh) (seatOf x)).getD 0==shlI 1 x.Ticket)&&!(sh.take k).any (fun y=>clashN x y)),?_,?_⟩
 ·generalize ((List.range sh.length).all fun k=>_)=A
  cases A <;> rfl
 ·rw [List.all_eq_true]
  constructor
  ·intro h
   rw [cl_iff]
   have key:∀ (i k:Nat),i < k→∀ x y,sh[i]? =some x→sh[k]? =some y→clashN y x=false:=by
    intro i k hik x y hx hy
    have hk:=(List.getElem?_eq_some_iff.1 hy).1
    have:=h k (List.mem_range.2 hk)
    rw [hy,Option.all_some,Bool.and_eq_true,Bool.not_eq_true',List.any_eq_false] at this
    have:=this.2 x (List.mem_of_getElem? (i:=i) (by rw [List.getElem?_take_of_lt hik]; exact hx))
    simpa using this
   intro x hx y hy
   obtain ⟨i,hi,rfl⟩:=List.getElem_of_mem hx
   obtain ⟨k,hk,rfl⟩:=List.getElem_of_mem hy
   rcases Nat.lt_trichotomy i k with hik | hik | hik
   ·rw [clashN_comm]; exact key i k hik _ _ (List.getElem?_eq_getElem hi) (List.getElem?_eq_getElem hk)
   ·subst hik
    rw [← Bool.not_eq_true,clashN_iff]
    rintro ⟨_,h⟩
    exact h ⟨fun _=>rfl,fun _=>rfl⟩
   ·exact key k i hik _ _ (List.getElem?_eq_getElem hk) (List.getElem?_eq_getElem hi)
  ·intro h k hk
   have hk:=List.mem_range.1 hk
   rw [List.getElem?_eq_getElem hk,Option.all_some,Bool.and_eq_true,Bool.not_eq_true',List.any_eq_false,beq_iff_eq]
   have hx:=P.sh _ (List.getElem_mem hk)
   have n0:=hx.n0; have nm:=hx.nm
   refine ⟨?_,fun y hy=>?_⟩
   ·obtain ⟨v,v8,hv,hb⟩:=B (seatOf sh[k])
    rw [hv,show sh[k].Ticket=((sh[k].Ticket.toNat:Nat):Int) by omega,shl1_nat _ (by omega)]
    congr 1
    refine Nat.eq_of_testBit_eq fun n=>?_
    rw [Bool.eq_iff_iff,hb,Nat.testBit_two_pow,decide_eq_true_eq]
    constructor
    ·rintro ⟨y,hy,hs,ht⟩
     have e1:y.Trip=sh[k].Trip:=congrArg Ticket_seat.trip_ hs
     have e2:y.Walker=sh[k].Walker:=congrArg Ticket_seat.walker_ hs
     have:=(h y hy _ (List.getElem_mem hk) e1).2 e2
     omega
    ·intro hn
     exact ⟨_,List.getElem_mem hk,rfl,by omega⟩
   ·have:=cl_iff.1 h _ (List.getElem_mem hk) y (List.mem_of_mem_take hy)
    simp [this]
theorem qOf_op {b:TicketBook} (V:VT b) {sh:List TicketShow}{bx:List TicketBox} (P:Pc b sh bx):OpT (qOf b sh bx):=by
 have S:=shown_ok V.t3 V.tn sh P.sh
 exact ⟨V.ta,V.t3,V.r5,V.f1,V.f20,V.tn,V.te,P.sn,P.bn,P.bx,S.1,S.2.1⟩
end Go.Proofs.YtafhljljfglfeaaDoor
namespace Go.Proofs.YtafhljljfglfeaaDoor
open Go Go.Fx
theorem ext3 {l m:List Int} (hl:l.length=3) (hm:m.length=3) (h:∀ i,i < 3→l.getD i 0=m.getD i 0):l=m:=by
 refine List.ext_getElem? fun i=>?_
 by_cases hi:i < 3
 ·have:=h i hi
  rw [List.getD_eq_getElem?_getD,List.getD_eq_getElem?_getD,List.getElem?_eq_getElem (by omega),List.getElem?_eq_getElem (by omega)] at this
  rw [List.getElem?_eq_getElem (by omega),List.getElem?_eq_getElem (by omega)]
  exact congrArg some this
 ·rw [List.getElem?_eq_none (by omega),List.getElem?_eq_none (by omega)]
theorem getD_set {l:List Int}{d i:Nat}{x:Int} (hd:d < l.length):(l.set d x).getD i 0=if d=i then x else l.getD i 0:=by
 rw [List.getD_eq_getElem?_getD,List.getElem?_set]
 by_cases h:d=i
 ·rw [if_pos h,if_pos h,if_pos hd]; rfl
 ·rw [if_neg h,if_neg h,List.getD_eq_getElem?_getD]
theorem paidN_congr {c u u' :List Int}{f n:Nat} (h:∀ i,f≤i→i < f+n→u.getD i 0=u'.getD i 0):paidN c u f n=paidN c u' f n:=by
 unfold paidN
 congr 1
 refine List.map_congr_left fun i hi=>?_
 have:=List.mem_range'_1.1 hi
 unfold pv
 rw [h i this.1 this.2]
theorem rightN_congr {q:Ticket_book} (Q:OpT q) {c u u' :List Int}{d:Nat} (h:∀ i,i≤d→u.getD i 0=u'.getD i 0):rightN q c u d=rightN q c u' d:=by
 unfold rightN
 rw [Bool.eq_iff_iff,List.all_eq_true,List.all_eq_true]
 refine forall_congr' fun x=>forall_congr' fun hx=>?_
 have B:=Q.bx x hx
 have f0:=B.f0; have ft:=B.ft
 by_cases hd:x.To=d
 ·unfold fitsN
  rw [paidN_congr (u:=u) (u' :=u') fun i h1 h2=>h i (by omega)]
 ·rw [show (x.To==(d:Int))=false by rw [beq_eq_false_iff_ne]; exact hd]
  simp
theorem okN_congr {q:Ticket_book} (Q:OpT q) {c u u' :List Int}{s d:Nat} (h:∀ i,i≤d→u.getD i 0=u'.getD i 0):okN q c u s d=okN q c u' s d:=by
 unfold okN
 rw [rightN_congr Q h]
theorem mem_uses {q:Ticket_book} (Q:OpT q) {t:Ticket_truth}:∀ (r:Nat) (c u:List Int) (d:Nat),u.length=3→d+r≤3→(t∈usesL q r c u d↔t.crossed_=c∧t.used_.length=3∧(∀ i,(i < d∨d+r≤i)→t.used_.getD i 0=u.getD i 0)∧∀ i,d≤i→i < d+r→∃ s:Nat,s < 8∧t.used_.getD i 0=(s:Int)∧okN q c t.used_ s i=true):=by
 intro r
 induction r with
 | zero=>
   intro c u d hu hd
   unfold usesL
   rw [List.mem_singleton]
   constructor
   ·rintro rfl
    exact ⟨rfl,hu,fun _ _=>rfl,fun i h1 h2=>by omega⟩
   ·rintro ⟨h1,h2,h3,_⟩
    obtain ⟨tc,tu⟩:=t
    simp only at h1 h2 h3
    rw [h1,ext3 h2 hu fun i _=>h3 i (by omega)]
 | succ r ih=>
   intro c u d hu hd
   unfold usesL
   rw [List.mem_flatMap]
   constructor
   ·rintro ⟨s,hs,ht⟩
    have hs:=(List.mem_range'_1.1 hs).2
    cases ho:okN q c (u.set d (s:Int)) s d with
    | false=>rw [ho] at ht; cases ht
    | true=>
      rw [ho,cond_true,ih c _ (d+1) (by rw [List.length_set]; exact hu) (by omega)] at ht
      obtain ⟨h1,h2,h3,h4⟩:=ht
      refine ⟨h1,h2,fun i hi=>?_,fun i h5 h6=>?_⟩
      ·rw [h3 i (by omega),getD_set (by omega),if_neg (by omega)]
      ·by_cases hid:i=d
       ·subst hid
        refine ⟨s,by omega,?_,?_⟩
        ·rw [h3 i (by omega),getD_set (by omega),if_pos rfl]
        ·rw [okN_congr Q (u' :=u.set i (s:Int)) fun j hj=>h3 j (by omega)]; exact ho
       ·exact h4 i (by omega) (by omega)
   ·rintro ⟨h1,h2,h3,h4⟩
    obtain ⟨s,hs,hv,ho⟩:=h4 d (Nat.le_refl _) (by omega)
    have hg:∀ j,j≤d→t.used_.getD j 0=(u.set d (s:Int)).getD j 0:=fun j hj=>by
     rw [getD_set (by omega)]
     split
     ·next h=>rw [← h]; exact hv
     ·exact h3 j (by omega)
    refine ⟨s,List.mem_range'_1.2 (by omega),?_⟩
    rw [← okN_congr Q hg,ho,cond_true,ih c _ (d+1) (by rw [List.length_set]; exact hu) (by omega)]
    refine ⟨h1,h2,fun i hi=>?_,fun i h5 h6=>h4 i (by omega) (by omega)⟩
    by_cases hid:i≤d
    ·exact hg i hid
    ·rw [getD_set (by omega),if_neg (by omega)]; exact h3 i (by omega)
theorem mem_cross {q:Ticket_book}{t:Ticket_truth}:∀ (r:Nat) (c:List Int) (d:Nat),c.length=3→d+r≤3→0≤q.TicketBook.Tally.Room→(t∈crossL q r c d↔∃ c' :List Int,c'.length=3∧(∀ i,(i < d∨d+r≤i)→c'.getD i 0=c.getD i 0)∧(∀ i,d≤i→i < d+r→0≤c'.getD i 0∧c'.getD i 0≤q.TicketBook.Tally.Room)∧canB q.TicketBook.Tally c' =true∧t∈usesL q q.TicketBook.Tally.Trips.toNat c' zer 0):=by
 intro r
 induction r with
 | zero=>
   intro c d hc hd hr
   unfold crossL
   constructor
   ·intro h
    cases hb:canB q.TicketBook.Tally c with
    | false=>rw [hb] at h; cases h
    | true=>rw [hb] at h; exact ⟨c,hc,fun _ _=>rfl,fun i h1 h2=>by omega,hb,h⟩
   ·rintro ⟨c',h1,h2,_,h3,h4⟩
    rw [ext3 h1 hc fun i _=>h2 i (by omega)] at h3 h4
    rw [h3]; exact h4
 | succ r ih=>
   intro c d hc hd hr
   unfold crossL
   rw [List.mem_flatMap]
   constructor
   ·rintro ⟨n,hn,ht⟩
    have hn:=(List.mem_range'_1.1 hn).2
    rw [ih _ (d+1) (by rw [List.length_set]; exact hc) (by omega) hr] at ht
    obtain ⟨c',h1,h2,h3,h4,h5⟩:=ht
    refine ⟨c',h1,fun i hi=>?_,fun i h6 h7=>?_,h4,h5⟩
    ·rw [h2 i (by omega),getD_set (by omega),if_neg (by omega)]
    ·by_cases hid:i=d
     ·subst hid
      rw [h2 i (by omega),getD_set (by omega),if_pos rfl]; omega
     ·exact h3 i (by omega) (by omega)
   ·rintro ⟨c',h1,h2,h3,h4,h5⟩
    have hb:=h3 d (Nat.le_refl _) (by omega)
    refine ⟨(c'.getD d 0).toNat,List.mem_range'_1.2 (by omega),?_⟩
    rw [ih _ (d+1) (by rw [List.length_set]; exact hc) (by omega) hr]
    refine ⟨c',h1,fun i hi=>?_,fun i h6 h7=>h3 i (by omega) (by omega),h4,h5⟩
    rw [getD_set (by omega)]
    split
    ·next h=>rw [← h]; omega
    ·exact h2 i (by omega)
def Use (b:TicketBook) (s d:Nat):Prop:=∀ n:Nat,s.testBit n=true→∃ x,b.Tickets[n]? =some x∧x.From≤d∧(d:Int)≤x.To
structure Tr (b:TicketBook) (sh:List TicketShow) (bx:List TicketBox) (t:Ticket_truth):Prop where
 cl:Cl sh
 c3:t.crossed_.length=3
 u3:t.used_.length=3
 cr:∀ d:Nat,(d:Int) < b.Tally.Trips→0≤t.crossed_.getD d 0∧t.crossed_.getD d 0≤b.Tally.Room
 cz:∀ d:Nat,b.Tally.Trips≤d→t.crossed_.getD d 0=0
 uz:∀ d:Nat,b.Tally.Trips≤d→t.used_.getD d 0=0
 ub:∀ d:Nat,0≤t.used_.getD d 0∧t.used_.getD d 0 < 8
 us:∀ d:Nat,(d:Int) < b.Tally.Trips→Use b (t.used_.getD d 0).toNat d
 pc:∀ d:Nat,(d:Int) < b.Tally.Trips→popN (t.used_.getD d 0).toNat≤t.crossed_.getD d 0
 sw:∀ x∈sh,(t.used_.getD x.Trip.toNat 0).toNat.testBit x.Ticket.toNat=true
 can:Fit b.Tally no (pre (t.crossed_.take b.Tally.Trips.toNat))
 bx:∀ x∈bx,fitsN b.Fare t.crossed_ t.used_ x=true
theorem valid_iff {b:TicketBook} (V:VT b) {sh:List TicketShow}{bx:List TicketBox}{s d:Nat} (hs:s < 8):validN (qOf b sh bx) s d=true↔Use b s d:=by
 have tn:=V.tn
 unfold validN Use
 show ((List.range b.Tickets.length).all (fun k=>(b.Tickets[k]?).all fun x=>!s.testBit k||inB d x.From x.To)&&s / 2 ^ b.Tickets.length==0)=true↔_
 rw [Bool.and_eq_true,List.all_eq_true,beq_iff_eq]
 constructor
 ·rintro ⟨h1,h2⟩ n hn
  have hlt:n < b.Tickets.length:=by
   refine Nat.lt_of_not_le fun hle=>?_
   have hp:0 < 2 ^ b.Tickets.length:=Nat.two_pow_pos _
   have h3:s < 2 ^ b.Tickets.length:=by
    rcases Nat.div_eq_zero_iff.1 h2 with h | h
    ·omega
    ·exact h
   have:s < 2 ^ n:=Nat.lt_of_lt_of_le h3 (Nat.pow_le_pow_right (by omega) hle)
   rw [Nat.testBit_lt_two_pow this] at hn
   cases hn
  have:=h1 n (List.mem_range.2 hlt)
  rw [List.getElem?_eq_getElem hlt,Option.all_some,hn,Bool.not_true,Bool.false_or,inB_iff] at this
  exact ⟨_,List.getElem?_eq_getElem hlt,this⟩
 ·intro h
  refine ⟨fun k hk=>?_,?_⟩
  ·have hk:=List.mem_range.1 hk
   rw [List.getElem?_eq_getElem hk,Option.all_some]
   cases hb:s.testBit k with
   | false=>rfl
   | true=>
     obtain ⟨x,hx,h1⟩:=h k hb
     rw [List.getElem?_eq_getElem hk] at hx
     cases hx
     rw [Bool.not_true,Bool.false_or,inB_iff]
     exact h1
  ·refine Nat.div_eq_of_lt (Nat.lt_pow_two_of_testBit s fun n hn=>?_)
   refine Bool.eq_false_iff.2 fun hb=>?_
   obtain ⟨x,hx,_⟩:=h n hb
   have:=(List.getElem?_eq_some_iff.1 hx).1
   omega
theorem Tr.small {b:TicketBook} (V:VT b) {sh:List TicketShow}{bx:List TicketBox}{t:Ticket_truth} (h:Tr b sh bx t):Small t.crossed_ t.used_:=by
 refine ⟨h.c3,h.u3,fun d=>?_,h.ub⟩
 by_cases hd:(d:Int) < b.Tally.Trips
 ·have:=h.cr d hd; have:=V.r5; omega
 ·rw [h.cz d (by omega)]; omega
theorem mem_truths {b:TicketBook} (V:VT b) {sh:List TicketShow}{bx:List TicketBox} (P:Pc b sh bx) {cl:Bool} (hc:cl=true↔Cl sh) {t:Ticket_truth}:t∈truths (qOf b sh bx) cl↔Tr b sh bx t:=by
 have Q:=qOf_op V P
 have t1:=V.ta.t1; have t3:=V.t3
 have S:=shown_ok V.t3 V.tn sh P.sh
 have hz:∀ i,zer.getD i 0=0:=fun d=>by
  unfold zer; rw [List.getD_eq_getElem?_getD,List.getElem?_replicate]; split <;> rfl
 unfold truths
 constructor
 ·intro h
  cases cl with
  | false=>cases h
  | true=>
    rw [cond_true,mem_cross _ _ _ rfl (by show 0+b.Tally.Trips.toNat≤3; omega) V.ta.r0] at h
    obtain ⟨c,h1,h2,h3,h4,h5⟩:=h
    rw [mem_uses Q _ _ _ _ rfl (by show 0+b.Tally.Trips.toNat≤3; omega)] at h5
    obtain ⟨h6,h7,h8,h9⟩:=h5
    subst h6
    have h2:∀ i,b.Tally.Trips.toNat≤i→t.crossed_.getD i 0=0:=fun i hi=>(h2 i (by right; show 0+b.Tally.Trips.toNat≤i; omega)).trans (hz i)
    have h8:∀ i,b.Tally.Trips.toNat≤i→t.used_.getD i 0=0:=fun i hi=>(h8 i (by right; show 0+b.Tally.Trips.toNat≤i; omega)).trans (hz i)
    have h3:∀ i,i < b.Tally.Trips.toNat→0≤t.crossed_.getD i 0∧t.crossed_.getD i 0≤b.Tally.Room:=fun i hi=>h3 i (Nat.zero_le _) (by show i < 0+b.Tally.Trips.toNat; omega)
    have h9:∀ i,i < b.Tally.Trips.toNat→∃ s:Nat,s < 8∧t.used_.getD i 0=(s:Int)∧okN (qOf b sh bx) t.crossed_ t.used_ s i=true:=fun i hi=>h9 i (Nat.zero_le _) (by show i < 0+b.Tally.Trips.toNat; omega)
    have h9' :∀ i,i < b.Tally.Trips.toNat→(0≤t.used_.getD i 0∧t.used_.getD i 0 < 8)∧Use b (t.used_.getD i 0).toNat i∧(∀ n:Nat,((shownOf sh).getD i 0).toNat.testBit n=true→(t.used_.getD i 0).toNat.testBit n=true)∧popN (t.used_.getD i 0).toNat≤t.crossed_.getD i 0∧rightN (qOf b sh bx) t.crossed_ t.used_ i=true:=fun i hi=>by
     obtain ⟨s,hs,hv,ho⟩:=h9 i hi
     unfold okN at ho
     simp only [Bool.and_eq_true,beq_iff_eq,decide_eq_true_eq] at ho
     rw [hv,Int.toNat_natCast]
     exact ⟨by omega,(valid_iff V hs).1 ho.1.1.1,and_sub.1 ho.1.1.2,ho.1.2,ho.2⟩
    refine ⟨hc.1 rfl,h1,h7,fun d hd=>h3 d (by omega),fun d hd=>h2 d (by omega),fun d hd=>h8 d (by omega),fun d=>?_,fun d hd=>(h9' d (by omega)).2.1,fun d hd=>(h9' d (by omega)).2.2.2.1,fun x hx=>?_,((canB_eq V.ta (tru_of V.ta t3 h1 h3)).2).1 h4,fun x hx=>?_⟩
    ·by_cases hd:d < b.Tally.Trips.toNat
     ·exact (h9' d hd).1
     ·rw [h8 d (by omega)]; omega
    ·have B:=P.sh x hx
     have:=B.t0; have:=B.tT; have:=B.n0
     exact (h9' x.Trip.toNat (by omega)).2.2.1 _ ((S.2.2 _ _).2 ⟨x,hx,by omega,by omega⟩)
    ·have B:=P.bx x hx
     have:=B.f0; have:=B.ft; have:=B.tT
     have:=List.all_eq_true.1 (h9' x.To.toNat (by omega)).2.2.2.2 x hx
     rw [show (x.To==((x.To.toNat:Nat):Int))=true by rw [beq_iff_eq]; omega,Bool.not_true,Bool.false_or] at this
     exact this
 ·intro h
  rw [hc.2 h.cl,cond_true,mem_cross _ _ _ rfl (by show 0+b.Tally.Trips.toNat≤3; omega) V.ta.r0]
  have hcr:∀ i,i < b.Tally.Trips.toNat→0≤t.crossed_.getD i 0∧t.crossed_.getD i 0≤b.Tally.Room:=fun i hi=>h.cr i (by omega)
  refine ⟨t.crossed_,h.c3,fun i hi=>?_,fun i _ hi=>hcr i (by have:i < 0+b.Tally.Trips.toNat:=hi; omega),(canB_eq V.ta (tru_of V.ta t3 h.c3 hcr)).2.2 h.can,?_⟩
  ·have hi:i < 0∨0+b.Tally.Trips.toNat≤i:=hi
   rw [hz]; exact h.cz i (by omega)
  rw [mem_uses Q _ _ _ _ rfl (by show 0+b.Tally.Trips.toNat≤3; omega)]
  refine ⟨rfl,h.u3,fun i hi=>?_,fun i _ hi=>?_⟩
  ·have hi:i < 0∨0+b.Tally.Trips.toNat≤i:=hi
   rw [hz]; exact h.uz i (by omega)
  ·have hi:i < 0+b.Tally.Trips.toNat:=hi
   have hu:=h.ub i
   refine ⟨(t.used_.getD i 0).toNat,by omega,by omega,?_⟩
   unfold okN
   simp only [Bool.and_eq_true,beq_iff_eq,decide_eq_true_eq]
   refine ⟨⟨⟨(valid_iff V (by omega)).2 (h.us i (by omega)),and_sub.2 fun n hn=>?_⟩,h.pc i (by omega)⟩,?_⟩
   ·obtain ⟨x,hx,e1,e2⟩:=(S.2.2 i n).1 hn
    have:=h.sw x hx
    rw [show x.Trip.toNat=i by omega,show x.Ticket.toNat=n by omega] at this
    exact this
   ·refine List.all_eq_true.2 fun x hx=>?_
    have:=h.bx x hx
    rw [show fitsN (qOf b sh bx).TicketBook.Fare t.crossed_ t.used_ x=true from this,Bool.or_true]
end Go.Proofs.YtafhljljfglfeaaDoor
namespace Go.Proofs.YtafhljljfglfeaaDoor
open Go Go.Fx
def CanT (b:TicketBook) (sh:List TicketShow) (bx:List TicketBox):Prop:=∃ t,Tr b sh bx t
theorem isTrueT_eq {b:TicketBook} (V:VT b) {sh:List TicketShow}{bx:List TicketBox} (P:Pc b sh bx):∃ r,ticket_book_isTrue (qOf b sh bx)=some r∧(r=true↔CanT b sh bx):=by
 obtain ⟨cl,hc,hi⟩:=clear_eq V P
 unfold ticket_book_isTrue ticket_book_truths
 rw [Option.bind_some,truths_eq _ (qOf_op V P) hc,foldY_find ticket_book_isTrue_r1 (fun _=>true) false true (truths (qOf b sh bx) cl) (fun _ _=>rfl)]
 have hm:=fun t=>mem_truths V P hi (t:=t)
 unfold CanT
 cases hL:truths (qOf b sh bx) cl with
 | nil=>
   refine ⟨false,rfl,?_⟩
   simp only [Bool.false_eq_true,false_iff]
   rintro ⟨t,ht⟩
   have:=(hm t).2 ht
   rw [hL] at this; cases this
 | cons x l=>
   refine ⟨true,rfl,?_⟩
   simp only [true_iff]
   exact ⟨x,(hm x).1 (by rw [hL]; exact List.mem_cons_self ..)⟩
theorem outS_no (b:TicketBook):outS b (fun _=>false)=b.Shows:=kept_all _
theorem outX_no (b:TicketBook):outX b (fun _=>false)=b.Boxes:=kept_all _
theorem nobodyT {b:TicketBook} (V:VT b):ticket_opened b (Ticket_choice.mk (fun y28=>ticket_nothing_1 y28))=some (qOf b b.Shows b.Boxes):=by
 have:=openedT_eq V (Ticket_choice.mk (fun y28=>ticket_nothing_1 y28)) (fun _=>false) (fun k _=>rfl)
 rw [outS_no,outX_no] at this
 exact this
def Can (b:TicketBook):Prop:=CanT b b.Shows b.Boxes
theorem right_law {b:TicketBook} (V:VT b):∃ r,ticket_Right b=some (r,0)∧(r=true↔Can b):=by
 obtain ⟨r,hr,hi⟩:=isTrueT_eq V V.pc
 refine ⟨r,?_,hi⟩
 unfold ticket_Right
 rw [checkT_ok V,Option.bind_some]
 simp only [bne_self_eq_false,cond_false]
 unfold ticket_nothing
 rw [Option.bind_some,nobodyT V,Option.bind_some]
 show (ticket_book_isTrue (qOf b b.Shows b.Boxes)).bind _=_
 rw [hr]; rfl
theorem askedT {b:TicketBook} (V:VT b):∃ e,ticket_asked b true=some (qOf b b.Shows b.Boxes,e)∧((e=0∧Can b)∨(e=102∧¬Can b)):=by
 obtain ⟨r,hr,hi⟩:=isTrueT_eq V V.pc
 refine ⟨if r=true then 0 else 102,?_,?_⟩
 ·unfold ticket_asked
  rw [checkT_ok V,Option.bind_some]
  simp only [bne_self_eq_false,cond_false,Bool.not_true]
  unfold ticket_nothing
  rw [Option.bind_some,nobodyT V,Option.bind_some]
  show (ticket_book_isTrue (qOf b b.Shows b.Boxes)).bind _=_
  rw [hr,Option.bind_some]
  cases r <;> rfl
 ·cases r
  ·right; exact ⟨rfl,fun h=>by simpa using hi.2 h⟩
  ·left; exact ⟨rfl,hi.1 rfl⟩
theorem askedF {b:TicketBook} (V:VT b):∃ x,ticket_asked b false=some (x,101):=by
 unfold ticket_asked
 rw [checkT_ok V,Option.bind_some]
 exact ⟨_,rfl⟩
theorem len_flat {α β:Type}{l:List α}{f:α→List β}{k:Nat} (h:∀ x∈l,(f x).length≤k):(l.flatMap f).length≤l.length*k:=by
 induction l with
 | nil=>simp
 | cons x l ih=>
   rw [List.flatMap_cons,List.length_append,List.length_cons,Nat.add_mul,Nat.one_mul]
   have h1:=h x (List.mem_cons_self ..)
   have h2:=ih fun y hy=>h y (List.mem_cons_of_mem _ hy)
   omega
theorem uses_len (q:Ticket_book):∀ (r:Nat) (c u:List Int) (d:Nat),(usesL q r c u d).length≤8 ^ r
 | 0,_,_,_=>Nat.le_refl _
 | r+1,c,u,d=>by
   unfold usesL
   refine Nat.le_trans (len_flat (k:=8 ^ r) fun s _=>?_) ?_
   ·cases okN q c (u.set d (s:Int)) s d with
    | false=>exact Nat.zero_le _
    | true=>exact uses_len q r _ _ _
   ·rw [List.length_range',Nat.pow_succ,Nat.mul_comm]; exact Nat.le_refl _
theorem cross_len (q:Ticket_book) (t3:q.TicketBook.Tally.Trips≤3) (r5:q.TicketBook.Tally.Room≤5):∀ (r:Nat) (c:List Int) (d:Nat),(crossL q r c d).length≤6 ^ r*512
 | 0,c,d=>by
   unfold crossL
   cases canB q.TicketBook.Tally c with
   | false=>exact Nat.zero_le _
   | true=>
     refine Nat.le_trans (uses_len q _ _ _ _) ?_
     have:(8:Nat) ^ q.TicketBook.Tally.Trips.toNat≤8 ^ 3:=Nat.pow_le_pow_right (by omega) (by omega)
     omega
 | r+1,c,d=>by
   unfold crossL
   refine Nat.le_trans (len_flat (k:=6 ^ r*512) fun s _=>cross_len q t3 r5 r _ _) ?_
   rw [List.length_range',Nat.pow_succ,Nat.mul_comm (6 ^ r) 6,Nat.mul_assoc]
   exact Nat.mul_le_mul_right _ (by omega)
theorem truths_len (q:Ticket_book) (t3:q.TicketBook.Tally.Trips≤3) (r5:q.TicketBook.Tally.Room≤5) (cl:Bool):(truths q cl).length≤110592:=by
 unfold truths
 cases cl with
 | false=>exact Nat.zero_le _
 | true=>
   refine Nat.le_trans (cross_len q t3 r5 _ _ _) ?_
   have:(6:Nat) ^ q.TicketBook.Tally.Trips.toNat≤6 ^ 3:=Nat.pow_le_pow_right (by omega) (by omega)
   omega
theorem foldY_span {a:Ticket_truth→Option Int} (g:Ticket_truth→Int):∀ (L:List Ticket_truth) (z:List Int),(∀ x∈L,a x=some (g x))→z.length+L.length≤200000→∃ z',foldY (yvOf (ticket_book_span_r2 a)) L (0,z)=some (true,0,z')∧z'.length≤200000∧∀ v,v∈z' ↔v∈z∨∃ x∈L,g x=v
 | [],z,_,h=>⟨z,rfl,by simpa using h,fun v=>by simp⟩
 | x::L,z,h,hl=>by
   rw [List.length_cons] at hl
   have step:∃ z1:List Int,ticket_book_span_r2 a x z=some (true,0,z1)∧z1.length≤z.length+1∧∀ v,v∈z1↔v∈z∨g x=v:=by
    unfold ticket_book_span_r2
    rw [h x (List.mem_cons_self ..),Option.bind_some,has_int _ _ (by omega),Option.bind_some]
    by_cases hm:g x∈z
    ·rw [decide_eq_true hm]
     exact ⟨z,rfl,by omega,fun v=>⟨.inl,fun h=>h.elim id fun h=>h▸hm⟩⟩
    ·rw [decide_eq_false hm,Bool.not_false,cond_true,need_of (fits_of (by simp; omega) (by omega))]
     exact ⟨_,rfl,by simp,fun v=>by simp [eq_comm]⟩
   obtain ⟨z1,e1,e2,e3⟩:=step
   obtain ⟨z',e4,e6,e5⟩:=foldY_span g L z1 (fun y hy=>h y (List.mem_cons_of_mem _ hy)) (by omega)
   refine ⟨z',?_,e6,fun v=>?_⟩
   ·show (ticket_book_span_r2 a x z).bind (fun r=>bif r.1 then foldY (yvOf (ticket_book_span_r2 a)) L r.2 else some (false,r.2))=_
    rw [e1]; exact e4
   ·rw [e5,e3,or_assoc]; simp
theorem min_eq {l:List Int} (hn:l≠[]) (hl:l.length≤1000000):∃ m,sl_Min_int_int l=some m∧m∈l∧∀ x∈l,m≤x:=by
 have h0:0 < l.length:=List.length_pos_iff.2 hn
 unfold sl_Min_int_int
 rw [decide_eq_false (by omega),cond_false,show (0:Int)=((0:Nat):Int) from rfl,getI_ix h0,Option.bind_some]
 refine loopF_inv (body:=sl_Min_int_int_l1 l) (fun z:Int×Int=>∃ k:Nat,z.2=k∧1≤k∧k≤l.length∧z.1∈l∧∀ x∈l.take k,z.1≤x) (fun z=>l.length - z.2.toNat) (fun m=>m∈l∧∀ x∈l,m≤x) ?_ big (l[0],1) ⟨1,rfl,by omega,by omega,List.getElem_mem _,fun x hx=>?_⟩ (by unfold big; simp only; omega)
 ·rintro rec ⟨m,i⟩ ⟨k,h1,h2,h3,h4,h5⟩ ih
  simp only at h1 h4 h5 ih ⊢
  subst h1
  unfold sl_Min_int_int_l1
  simp only
  by_cases hlt:k < l.length
  ·rw [decide_eq_true (by omega),cond_true,getI_ix hlt,Option.bind_some,wrI (by omega) (by omega)]
   refine ih _ ⟨k+1,by simp,by omega,by omega,?_,fun x hx=>?_⟩ (by simp only; omega)
   ·simp only; split
    ·exact List.getElem_mem _
    ·exact h4
   ·rw [List.take_succ_eq_append_getElem hlt,List.mem_append,List.mem_singleton] at hx
    simp only
    rcases hx with hx | rfl
    ·have:=h5 x hx; split <;> omega
    ·split <;> omega
  ·rw [decide_eq_false (by omega),cond_false]
   rw [List.take_of_length_le (by omega)] at h5
   exact ⟨m,rfl,h4,h5⟩
 ·match l,h0 with
  | y::l,_=>simp at hx ⊢; omega
theorem max_eq {l:List Int} (hn:l≠[]) (hl:l.length≤1000000):∃ m,sl_Max_int_int l=some m∧m∈l∧∀ x∈l,x≤m:=by
 have h0:0 < l.length:=List.length_pos_iff.2 hn
 unfold sl_Max_int_int
 rw [decide_eq_false (by omega),cond_false,show (0:Int)=((0:Nat):Int) from rfl,getI_ix h0,Option.bind_some]
 refine loopF_inv (body:=sl_Max_int_int_l1 l) (fun z:Int×Int=>∃ k:Nat,z.2=k∧1≤k∧k≤l.length∧z.1∈l∧∀ x∈l.take k,x≤z.1) (fun z=>l.length - z.2.toNat) (fun m=>m∈l∧∀ x∈l,x≤m) ?_ big (l[0],1) ⟨1,rfl,by omega,by omega,List.getElem_mem _,fun x hx=>?_⟩ (by unfold big; simp only; omega)
 ·rintro rec ⟨m,i⟩ ⟨k,h1,h2,h3,h4,h5⟩ ih
  simp only at h1 h4 h5 ih ⊢
  subst h1
  unfold sl_Max_int_int_l1
  simp only
  by_cases hlt:k < l.length
  ·rw [decide_eq_true (by omega),cond_true,getI_ix hlt,Option.bind_some,wrI (by omega) (by omega)]
   refine ih _ ⟨k+1,by simp,by omega,by omega,?_,fun x hx=>?_⟩ (by simp only; omega)
   ·simp only; split
    ·exact List.getElem_mem _
    ·exact h4
   ·rw [List.take_succ_eq_append_getElem hlt,List.mem_append,List.mem_singleton] at hx
    simp only
    rcases hx with hx | rfl
    ·have:=h5 x hx; split <;> omega
    ·split <;> omega
  ·rw [decide_eq_false (by omega),cond_false]
   rw [List.take_of_length_le (by omega)] at h5
   exact ⟨m,rfl,h4,h5⟩
 ·match l,h0 with
  | y::l,_=>simp at hx ⊢; omega
structure SpT (b:TicketBook) (sh:List TicketShow) (bx:List TicketBox) (g:Ticket_truth→Int) (s:Span):Prop where
 loE:∃ t,Tr b sh bx t∧g t=s.Low
 hiE:∃ t,Tr b sh bx t∧g t=s.High
 all:∀ t,Tr b sh bx t→s.Low≤g t∧g t≤s.High
theorem span_law {b:TicketBook} (V:VT b) {sh:List TicketShow}{bx:List TicketBox} (P:Pc b sh bx) (C:CanT b sh bx) {a:Ticket_truth→Option Int}{g:Ticket_truth→Int} (h:∀ t,Tr b sh bx t→a t=some (g t)):∃ s,ticket_book_span (qOf b sh bx) a=some s∧SpT b sh bx g s:=by
 obtain ⟨cl,hc,hi⟩:=clear_eq V P
 have hm:=fun t=>mem_truths V P hi (t:=t)
 have hlen:=truths_len (qOf b sh bx) V.t3 V.r5 cl
 obtain ⟨z,e1,e3,e2⟩:=foldY_span (a:=a) g (truths (qOf b sh bx) cl) [] (fun x hx=>h x ((hm x).1 hx)) (by simp; omega)
 have mem:∀ v,v∈z↔∃ t,Tr b sh bx t∧g t=v:=fun v=>by
  rw [e2]
  constructor
  ·rintro (h | ⟨x,hx,h⟩)
   ·cases h
   ·exact ⟨x,(hm x).1 hx,h⟩
  ·rintro ⟨x,hx,h⟩
   exact .inr ⟨x,(hm x).2 hx,h⟩
 have hz:z≠[]:=by
  obtain ⟨t,ht⟩:=C
  exact List.ne_nil_of_mem ((mem _).2 ⟨t,ht,rfl⟩)
 obtain ⟨lo,a1,a2,a3⟩:=min_eq hz (by omega)
 obtain ⟨hi',b1,b2,b3⟩:=max_eq hz (by omega)
 refine ⟨⟨lo,hi'⟩,?_,(mem _).1 a2,(mem _).1 b2,fun t ht=>⟨a3 _ ((mem _).2 ⟨t,ht,rfl⟩),b3 _ ((mem _).2 ⟨t,ht,rfl⟩)⟩⟩
 unfold ticket_book_span ticket_book_truths
 rw [Option.bind_some,truths_eq _ (qOf_op V P) hc,e1]
 show (sl_Min_int_int z).bind (fun r102=>(sl_Max_int_int z).bind fun r104=>some (Span.mk r102 r104))=_
 rw [a1,Option.bind_some,b1,Option.bind_some]
theorem trip_iff {T n:Int}:inB n 0 (T - 1)=true↔0≤n∧n < T:=by rw [inB_iff]; omega
def paidT (f t:Int) (x:Ticket_truth):Int:=paidN x.crossed_ x.used_ f.toNat (t+1 - f).toNat
theorem paid_law {b:TicketBook} (V:VT b) {f t:Int} (h:0≤f∧f≤t∧t < b.Tally.Trips):∃ s e,ticket_Paid b f t=some (s,e)∧((e=0∧Can b∧SpT b b.Shows b.Boxes (paidT f t) s)∨(e=102∧s=⟨0,0⟩∧¬Can b)):=by
 have t3:=V.t3
 obtain ⟨e,he,hc⟩:=askedT V
 unfold ticket_Paid
 rw [isTrip_eq b V.ta.t1 V.ta.t8,Option.bind_some,trip_iff.2 (by omega),cond_true,isTrip_eq b V.ta.t1 V.ta.t8,Option.bind_some,trip_iff.2 (by omega),cond_true,decide_eq_true h.2.1,he,Option.bind_some]
 rcases hc with ⟨rfl,C⟩ | ⟨rfl,C⟩
 ·obtain ⟨s,hs,S⟩:=span_law V V.pc C (a:=fun y33=>ticket_Paid_1 y33 f t) (g:=paidT f t) (fun x hx=>by
   unfold ticket_Paid_1
   obtain ⟨xc,xu⟩:=x
   rw [paid_eq (hx.small V) h.1 h.2.1 (by omega)]; rfl)
  refine ⟨s,0,?_,.inl ⟨rfl,C,S⟩⟩
  unfold ticket_Paid_j1
  show (ticket_book_span (qOf b b.Shows b.Boxes) _).bind _=_
  rw [hs]; rfl
 ·exact ⟨⟨0,0⟩,102,rfl,.inr ⟨rfl,rfl,C⟩⟩
def useC (n:Nat) (x:Ticket_truth):Int:=(if (x.used_.getD 0 0).toNat.testBit n then 1 else 0)+(if (x.used_.getD 1 0).toNat.testBit n then 1 else 0)+(if (x.used_.getD 2 0).toNat.testBit n then 1 else 0)
theorem bitV (s k:Nat) (hk:k < 64):andI (shrI (s:Int) (k:Int)) 1=if s.testBit k then 1 else 0:=by
 rw [shr_nat s k hk,and1_nat,Nat.testBit_eq_decide_div_mod_eq]
 by_cases h:s / 2 ^ k % 2=1
 ·simp [h]
 ·have:s / 2 ^ k % 2=0:=by omega
  simp [this]
def bitC (u:List Int) (d n:Nat):Int:=if (u.getD d 0).toNat.testBit n then 1 else 0
theorem uses_inner {u:List Int} (hu:∀ d,0≤u.getD d 0∧u.getD d 0 < 8) {c:List Int} (d:Nat) (a0 a1 a2:Int) (h0:0≤a0∧a0≤10) (h1:0≤a1∧a1≤10) (h2:0≤a2∧a2≤10) (z:Int×List Int) (hz:z.1=d) (rec:(Int×List Int)→Option (List Int)) (hd:d < 3):loopF (ticket_truth_uses_l3 ⟨c,u⟩ z rec) big (0,[a0,a1,a2])=rec (((d+1:Nat):Int),[a0+bitC u d 0,a1+bitC u d 1,a2+bitC u d 2]):=by
 have hb:∀ n,0≤bitC u d n∧bitC u d n≤1:=fun n=>by unfold bitC; split <;> omega
 have b0:=hb 0; have b1:=hb 1; have b2:=hb 2
 have hud:=hu d
 have ud:((u.getD d 0).toNat:Int)=u.getD d 0:=by omega
 have key:∀ k:Nat,k < 3→andI (shrI (aget u z.1) (k:Int)) 1=bitC u d k:=fun k hk=>by
  rw [hz,agetN,← ud]; exact bitV _ k (by omega)
 refine loop_fold0 (fun k=>((k:Int),match k with | 0=>[a0,a1,a2] | 1=>[a0+bitC u d 0,a1,a2] | 2=>[a0+bitC u d 0,a1+bitC u d 1,a2] | _=>[a0+bitC u d 0,a1+bitC u d 1,a2+bitC u d 2])) 3 (fun rec k hk=>?_) (fun rec=>?_) (by rw [big_eq]; omega) rfl
 ·unfold ticket_truth_uses_l3
  simp only
  rw [decide_eq_true (by omega),cond_true,need_of (by simp [inI]; omega),need_of (by simp),need_of (by simp [inI]; omega),key k hk,wrI (x:=(k:Int)+1) (by omega) (by omega),show (k:Int)+1=((k+1:Nat):Int) by omega]
  match k,hk with
  | 0,_=>exact congrArg rec (Prod.ext rfl (by show aset [a0,a1,a2] 3 0 (Fx.wr (a0+bitC u d 0))=_; rw [wrI (by omega) (by omega)]; rfl))
  | 1,_=>exact congrArg rec (Prod.ext rfl (by show aset [a0+bitC u d 0,a1,a2] 3 1 (Fx.wr (a1+bitC u d 1))=_; rw [wrI (by omega) (by omega)]; rfl))
  | 2,_=>exact congrArg rec (Prod.ext rfl (by show aset [a0+bitC u d 0,a1+bitC u d 1,a2] 3 2 (Fx.wr (a2+bitC u d 2))=_; rw [wrI (by omega) (by omega)]; rfl))
 ·unfold ticket_truth_uses_l3
  simp only
  rw [decide_eq_false (by omega),cond_false,hz,wrI (by omega) (by omega),show (d:Int)+1=((d+1:Nat):Int) by omega]
theorem uses_eq {t:Ticket_truth} (hu:∀ d,0≤t.used_.getD d 0∧t.used_.getD d 0 < 8):ticket_truth_uses t=some [useC 0 t,useC 1 t,useC 2 t]:=by
 obtain ⟨c,u⟩:=t
 have hb:∀ d n,0≤bitC u d n∧bitC u d n≤1:=fun d n=>by unfold bitC; split <;> omega
 have e:∀ n,useC n ⟨c,u⟩=0+bitC u 0 n+bitC u 1 n+bitC u 2 n:=fun n=>by unfold useC bitC; simp only; omega
 unfold ticket_truth_uses ticket_unused
 rw [Option.bind_some,e,e,e]
 have a:=hb 0 0; have a' :=hb 0 1; have a'' :=hb 0 2; have c1:=hb 1 0; have c2:=hb 1 1; have c3:=hb 1 2
 refine loop_fold0 (fun k=>((k:Int),match k with | 0=>[0,0,0] | 1=>[0+bitC u 0 0,0+bitC u 0 1,0+bitC u 0 2] | 2=>[0+bitC u 0 0+bitC u 1 0,0+bitC u 0 1+bitC u 1 1,0+bitC u 0 2+bitC u 1 2] | _=>[0+bitC u 0 0+bitC u 1 0+bitC u 2 0,0+bitC u 0 1+bitC u 1 1+bitC u 2 1,0+bitC u 0 2+bitC u 1 2+bitC u 2 2])) 3 (fun rec k hk=>?_) (fun rec=>?_) (by rw [big_eq]; omega) rfl
 ·unfold ticket_truth_uses_l4
  simp only
  rw [decide_eq_true (by omega),cond_true,need_of (by simp [inI]; omega)]
  match k,hk with
  | 0,_=>exact uses_inner hu 0 0 0 0 (by omega) (by omega) (by omega) _ rfl rec (by omega)
  | 1,_=>exact uses_inner hu 1 _ _ _ (by omega) (by omega) (by omega) _ rfl rec (by omega)
  | 2,_=>exact uses_inner hu 2 _ _ _ (by omega) (by omega) (by omega) _ rfl rec (by omega)
 ·unfold ticket_truth_uses_l4
  simp only
  rw [decide_eq_false (by omega),cond_false]
theorem saved_law {b:TicketBook} (V:VT b) {n:Nat} (h:n < b.Tickets.length):∃ s e,ticket_Saved b n=some (s,e)∧((e=0∧Can b∧SpT b b.Shows b.Boxes (useC n) s)∨(e=102∧s=⟨0,0⟩∧¬Can b)):=by
 have tn:=V.tn
 obtain ⟨e,he,hc⟩:=askedT V
 unfold ticket_Saved
 rw [isTicket_eq b V.arg.tl,Option.bind_some,trip_iff.2 (by omega),he,Option.bind_some]
 rcases hc with ⟨rfl,C⟩ | ⟨rfl,C⟩
 ·obtain ⟨s,hs,S⟩:=span_law V V.pc C (a:=fun y117=>ticket_Saved_1 y117 n) (g:=useC n) (fun x hx=>by
   unfold ticket_Saved_1 ticket_unused
   rw [uses_eq hx.ub,Option.bind_some,Option.bind_some]
   by_cases hz:sgl [useC 0 x,useC 1 x,useC 2 x] 3=sgl (List.replicate 3 0) 3
   ·rw [decide_eq_true hz,cond_true]
    have:useC 0 x=0∧useC 1 x=0∧useC 2 x=0:=by simpa [sgl,List.range_succ] using hz
    match n,h with
    | 0,_=>rw [this.1]
    | 1,_=>rw [this.2.1]
    | 2,_=>rw [this.2.2]
    | n+3,h=>omega
   ·rw [decide_eq_false hz,cond_false,need_of (by simp [inI]; omega),agetN]
    match n,h with
    | 0,_=>rfl
    | 1,_=>rfl
    | 2,_=>rfl
    | n+3,h=>omega)
  refine ⟨s,0,?_,.inl ⟨rfl,C,S⟩⟩
  simp only [bne_self_eq_false,cond_false]
  rw [hs]; rfl
 ·exact ⟨⟨0,0⟩,102,rfl,.inr ⟨rfl,rfl,C⟩⟩
def usedB (x:Ticket_truth) (n d:Nat):Bool:=(x.used_.getD d 0).toNat.testBit n
theorem always_eq {b:TicketBook} (V:VT b) {sh:List TicketShow}{bx:List TicketBox} (P:Pc b sh bx) {n d:Nat} (hn:n < 3) (hd:d < 3):∃ r,ticket_book_always (qOf b sh bx) n d=some r∧(r=true↔∀ t,Tr b sh bx t→usedB t n d=true):=by
 obtain ⟨cl,hc,hi⟩:=clear_eq V P
 have hm:=fun t=>mem_truths V P hi (t:=t)
 have F:=foldY_find (ticket_book_always_r1 d n) (fun x=>!usedB x n d) () () (truths (qOf b sh bx) cl) (fun x hx=>by
  have hu:=((hm x).1 hx).ub d
  unfold ticket_book_always_r1
  rw [need_of (by simp [inI]; omega),need_of (by simp),agetN,show x.used_.getD d 0=(((x.used_.getD d 0).toNat:Nat):Int) by omega,bitV _ n (by omega)]
  unfold usedB
  cases (x.used_.getD d 0).toNat.testBit n <;> rfl)
 refine ⟨!(truths (qOf b sh bx) cl).any fun x=>!usedB x n d,?_,?_⟩
 ·unfold ticket_book_always ticket_book_truths
  rw [Option.bind_some,truths_eq _ (qOf_op V P) hc,F]
  cases (truths (qOf b sh bx) cl).any fun x=>!usedB x n d <;> rfl
 ·rw [Bool.not_eq_true',List.any_eq_false]
  refine forall_congr' fun x=>?_
  rw [hm]
  simp
theorem sometimes_eq {b:TicketBook} (V:VT b) {sh:List TicketShow}{bx:List TicketBox} (P:Pc b sh bx) {n d:Nat} (hn:n < 3) (hd:d < 3):∃ r,ticket_book_sometimes (qOf b sh bx) n d=some r∧(r=true↔∃ t,Tr b sh bx t∧usedB t n d=true):=by
 obtain ⟨cl,hc,hi⟩:=clear_eq V P
 have hm:=fun t=>mem_truths V P hi (t:=t)
 have F:=foldY_find (ticket_book_sometimes_r1 d n) (fun x=>usedB x n d) false true (truths (qOf b sh bx) cl) (fun x hx=>by
  have hu:=((hm x).1 hx).ub d
  unfold ticket_book_sometimes_r1
  rw [need_of (by simp [inI]; omega),need_of (by simp),agetN,show x.used_.getD d 0=(((x.used_.getD d 0).toNat:Nat):Int) by omega,bitV _ n (by omega)]
  unfold usedB
  cases (x.used_.getD d 0).toNat.testBit n <;> rfl)
 refine ⟨(truths (qOf b sh bx) cl).any fun x=>usedB x n d,?_,?_⟩
 ·unfold ticket_book_sometimes ticket_book_truths
  rw [Option.bind_some,truths_eq _ (qOf_op V P) hc,F]
  cases (truths (qOf b sh bx) cl).any fun x=>usedB x n d <;> rfl
 ·rw [List.any_eq_true]
  exact exists_congr fun x=>and_congr_left fun _=>hm x
structure Lst (n:Nat) (p:Nat→Prop) (l:List Int):Prop where
 clm:Clm l n
 mem:∀ k:Nat,(k:Int)∈l↔k < n∧p k
theorem lst_loop {body:(List Int×Int→Option (List Int×Int))→List Int×Int→Option (List Int×Int)} (n:Nat) (hn:n≤1000) (p:Nat→Prop) (hs:∀ rec (l:List Int) k,k < n→l.length≤k→∃ r:Bool,(r=true↔p k)∧body rec (l,(k:Int))=rec (bif r then l++[(k:Int)] else l,((k+1:Nat):Int))) (he:∀ rec l,body rec (l,(n:Int))=some (l,0)):∃ l,loopF body big ([],0)=some (l,0)∧Lst n p l:=by
 refine Exists.elim (loopF_inv (body:=body) (fun z:List Int×Int=>∃ k:Nat,z.2=k∧k≤n∧z.1.length≤k∧Clm z.1 k∧∀ j:Nat,(j:Int)∈z.1↔j < k∧p j) (fun z=>n - z.2.toNat) (fun r=>∃ l,r=(l,0)∧Lst n p l) ?_ big ([],0) ⟨0,rfl,Nat.zero_le _,Nat.le_refl _,Clm.nil,fun j=>by simp⟩ (by unfold big; simp; omega)) fun r ⟨h1,l,h2,h3⟩=>⟨l,by rw [h1,h2],h3⟩
 rintro rec ⟨l,i⟩ ⟨k,h1,h2,h3,h4,h5⟩ ih
 simp only at h1 h3 h4 h5 ih
 subst h1
 by_cases hk:k < n
 ·obtain ⟨r,hr,hb⟩:=hs rec l k hk h3
  rw [hb]
  have up:Clm l ((k+1:Nat):Int):=fun i x hx=>by
   have:=h4 i x hx
   exact ⟨this.1,by omega,this.2.2⟩
  cases r with
  | true=>
    refine ih _ ⟨k+1,rfl,hk,by simp; omega,up.snoc (by omega) (by omega) (fun y hy=>?_),fun j=>?_⟩ (by simp only; omega)
    ·rw [List.getLast?_eq_getElem?] at hy
     exact (h4 _ _ hy).2.1
    ·simp only [cond_true,List.mem_append,List.mem_singleton,h5]
     constructor
     ·rintro (⟨a,b⟩ | a)
      ·exact ⟨by omega,b⟩
      ·have:j=k:=by omega
       subst this; exact ⟨by omega,hr.1 rfl⟩
     ·rintro ⟨a,b⟩
      by_cases hj:j=k
      ·right; rw [hj]
      ·left; exact ⟨by omega,b⟩
  | false=>
    refine ih _ ⟨k+1,rfl,hk,by simp; omega,up,fun j=>?_⟩ (by simp only; omega)
    simp only [cond_false,h5]
    constructor
    ·rintro ⟨a,b⟩; exact ⟨by omega,b⟩
    ·rintro ⟨a,b⟩
     refine ⟨?_,b⟩
     by_cases hj:j=k
     ·subst hj; have:=hr.2 b; cases this
     ·omega
 ·obtain rfl:k=n:=by omega
  rw [he]
  exact ⟨_,rfl,l,rfl,h4,h5⟩
theorem must_law {b:TicketBook} (V:VT b) {d:Nat} (h:(d:Int) < b.Tally.Trips):∃ l e,ticket_Must b d=some (l,e)∧((e=0∧Can b∧Lst b.Tickets.length (fun n=>∀ t,Tr b b.Shows b.Boxes t→usedB t n d=true) l)∨(e=102∧l=[]∧¬Can b)):=by
 have tn:=V.tn; have t3:=V.t3
 obtain ⟨e,he,hc⟩:=askedT V
 unfold ticket_Must ticket_used
 rw [isTrip_eq b V.ta.t1 V.ta.t8,Option.bind_some,trip_iff.2 (by omega),he,Option.bind_some]
 rcases hc with ⟨rfl,C⟩ | ⟨rfl,C⟩
 ·obtain ⟨l,hl,L⟩:=lst_loop (body:=ticket_used_l4 b 0 (qOf b b.Shows b.Boxes,0) d) b.Tickets.length (by omega) (fun n=>∀ t,Tr b b.Shows b.Boxes t→usedB t n d=true) (fun rec l k hk hl=>by
   obtain ⟨r,hr,hi⟩:=always_eq V V.pc (n:=k) (d:=d) (by omega) (by omega)
   refine ⟨r,hi,?_⟩
   unfold ticket_used_l4
   simp only
   rw [decide_eq_true (by omega),cond_true,need_of (by decide),show ((0:Int)==0)=true from rfl,cond_true,hr,Option.bind_some,wrI (by omega) (by omega),show (k:Int)+1=((k+1:Nat):Int) by omega]
   cases r with
   | true=>rw [cond_true,need_of (fits_small (by simp; omega) (by omega))]; rfl
   | false=>rfl) (fun rec l=>by
   unfold ticket_used_l4
   simp only
   rw [decide_eq_false (by omega),cond_false])
  refine ⟨l,0,?_,.inl ⟨rfl,C,L⟩⟩
  simp only [bne_self_eq_false,cond_false]
  rw [hl]; rfl
 ·exact ⟨[],102,rfl,.inr ⟨rfl,rfl,C⟩⟩
theorem may_law {b:TicketBook} (V:VT b) {d:Nat} (h:(d:Int) < b.Tally.Trips):∃ l e,ticket_May b d=some (l,e)∧((e=0∧Can b∧Lst b.Tickets.length (fun n=>∃ t,Tr b b.Shows b.Boxes t∧usedB t n d=true) l)∨(e=102∧l=[]∧¬Can b)):=by
 have tn:=V.tn; have t3:=V.t3
 obtain ⟨e,he,hc⟩:=askedT V
 unfold ticket_May ticket_used
 rw [isTrip_eq b V.ta.t1 V.ta.t8,Option.bind_some,trip_iff.2 (by omega),he,Option.bind_some]
 rcases hc with ⟨rfl,C⟩ | ⟨rfl,C⟩
 ·obtain ⟨l,hl,L⟩:=lst_loop (body:=ticket_used_l4 b 1 (qOf b b.Shows b.Boxes,0) d) b.Tickets.length (by omega) (fun n=>∃ t,Tr b b.Shows b.Boxes t∧usedB t n d=true) (fun rec l k hk hl=>by
   obtain ⟨r,hr,hi⟩:=sometimes_eq V V.pc (n:=k) (d:=d) (by omega) (by omega)
   refine ⟨r,hi,?_⟩
   unfold ticket_used_l4
   simp only
   rw [decide_eq_true (by omega),cond_true,need_of (by decide),show ((1:Int)==0)=false from rfl,cond_false,hr,Option.bind_some,wrI (by omega) (by omega),show (k:Int)+1=((k+1:Nat):Int) by omega]
   cases r with
   | true=>rw [cond_true,need_of (fits_small (by simp; omega) (by omega))]; rfl
   | false=>rfl) (fun rec l=>by
   unfold ticket_used_l4
   simp only
   rw [decide_eq_false (by omega),cond_false])
  refine ⟨l,0,?_,.inl ⟨rfl,C,L⟩⟩
  simp only [bne_self_eq_false,cond_false]
  rw [hl]; rfl
 ·exact ⟨[],102,rfl,.inr ⟨rfl,rfl,C⟩⟩
theorem fitsT_no {b:TicketBook} (V:VT b) {x:TicketBox} (h:boxB b.Tally.Trips x=false):ticket_Fits b x=some (false,101):=by
 obtain ⟨y,hy⟩:=askedF V
 unfold ticket_Fits
 rw [isBox_eq b V.ta.t1 V.ta.t8,Option.bind_some,h,hy]; rfl
theorem fits_law {b:TicketBook} (V:VT b) {x:TicketBox} (h:Box b.Tally.Trips x):∃ r e,ticket_Fits b x=some (r,e)∧((e=0∧Can b∧(r=true↔∃ t,Tr b b.Shows b.Boxes t∧fitsN b.Fare t.crossed_ t.used_ x=true))∨(e=102∧r=false∧¬Can b)):=by
 obtain ⟨e,he,hc⟩:=askedT V
 unfold ticket_Fits
 rw [isBox_eq b V.ta.t1 V.ta.t8,Option.bind_some,box_iff.2 h,he,Option.bind_some]
 rcases hc with ⟨rfl,C⟩ | ⟨rfl,C⟩
 ·obtain ⟨cl,hc,hi⟩:=clear_eq V V.pc
  have hm:=fun t=>mem_truths V V.pc hi (t:=t)
  have F:=foldY_find (ticket_Fits_r1 (qOf b b.Shows b.Boxes,0) x) (fun t=>fitsN b.Fare t.crossed_ t.used_ x) false true (truths (qOf b b.Shows b.Boxes) cl) (fun t ht=>by
   unfold ticket_Fits_r1
   have:=fits_eq (qOf b b.Shows b.Boxes) V.f1 V.f20 (((hm t).1 ht).small V) V.t3 h
   rw [show ticket_book_fits (qOf b b.Shows b.Boxes,(0:Int)).1 t x=_ from this,Option.bind_some]
   show (bif fitsN b.Fare t.crossed_ t.used_ x then _ else _)=_
   cases fitsN b.Fare t.crossed_ t.used_ x <;> rfl)
  refine ⟨(truths (qOf b b.Shows b.Boxes) cl).any fun t=>fitsN b.Fare t.crossed_ t.used_ x,0,?_,.inl ⟨rfl,C,?_⟩⟩
  ·simp only [bne_self_eq_false,cond_false]
   unfold ticket_book_truths
   rw [Option.bind_some,truths_eq _ (qOf_op V V.pc) hc,F]
   cases (truths (qOf b b.Shows b.Boxes) cl).any fun t=>fitsN b.Fare t.crossed_ t.used_ x <;> rfl
  ·rw [List.any_eq_true]
   exact exists_congr fun x=>and_congr_left fun _=>hm x
 ·exact ⟨false,102,rfl,.inr ⟨rfl,rfl,C⟩⟩
end Go.Proofs.YtafhljljfglfeaaDoor
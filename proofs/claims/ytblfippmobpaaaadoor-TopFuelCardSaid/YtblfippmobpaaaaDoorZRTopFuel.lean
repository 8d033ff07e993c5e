/- The row of the law: its walk, its witness, its statement and its card. -/
import Derived.Test.YtblfippmobpaaaaDoorZGPCh3
import Derived.Test.YtblfippmobpaaaaDoorZGPTopFuel
set_option linter.unusedVariables false
namespace Go.Proofs.YtblfippmobpaaaaDoor.topFuel
open Go Go.Fx Go.Proofs Go.ChangeShapes Go.WideShapes Go.ChangeAt Go.RowKit
theorem u56:Tryd.prog.underlying 56=some (.array 2 3):=by kernel_rfl
theorem c56:Tryd.prog.cellsOf 56=2:=by kernel_rfl
set_option maxRecDepth 100000 in
theorem contract (H:Type) (enc:TypeId×Value→H) (W:World) (base:Nat) (args:Array Value) (ds gs:List (DataW H)) (before:List MemPlace)
 (hval:∀ (j:Nat) t v,Tryd.f4.params[j]? =some t→args[j]? =some v→Value.okWide Tryd.prog W .any base t v)
 (hW:DataW.Whole enc Tryd.prog Tryd.f4.params.toList Rows.topFuelSpec.vars false W args.toList ds gs before) (hL:laidMetH Tryd.prog Rows.topFuelRow.laid W) (hS:W.ShapedOpen Tryd.prog):
 Calls Tryd.prog 4 args W fun e W' =>∃ v,e=.returned v∧Rows.topFuelSpec.post enc Tryd.prog Tryd.f4 false true false false W args v W' :=by
 obtain ⟨g0,g1,g2,g3,g4⟩:=globals_ok hS hL
 have hW' :=hW
 obtain ⟨p,q,hA0,hV,rfl,hfz,hnd⟩:=hW
 have hA:DataW.TrodAll enc Tryd.prog W 0 (fun _=>true) true Tryd.f4.params.toList args.toList ds p:=hA0
 rw [Tryd.params4] at hA hval
 obtain ⟨v0,vs0,d0,ds0,p0,q0,hargs,rfl,rfl,h0,r0⟩:=trodAll_cons hA
 obtain ⟨v1,vs1,d1,ds1,p1,q1,rfl,rfl,rfl,h1,r1⟩:=trodAll_cons r0
 obtain ⟨rfl,rfl,rfl⟩:=trodAll_nil r1
 obtain rfl:args=#[v0,v1]:=by cases args; simp_all
 obtain ⟨A0,c0,A0',c0',b0,rfl,m0,m0',l0,l0',x0,y0⟩:=dec_book (hval 0 29 v0 rfl rfl) h0
 obtain ⟨b1,l1,rfl,y1⟩:=dec_flat (by kernel_rfl) (flat_array u56 u3 c3 c56) (hval 1 56 v1 rfl rfl) h1
 have walk:=law_TopFuel_ok (law_topFuel b0 ⟨l0,l0',x0,y0⟩ b1) m0 m0' g0 g1 g2 g3 g4
 rw [sg_self b1 l1] at walk
 refine walk.mono fun e W' ⟨u,he,hu,hk⟩=>?_
 subst hu
 exact ⟨_,he,law_post (tb:=4) hW' laidOut (by kernel_rfl) rfl rfl (by kernel_rfl) (by kernel_rfl) hk⟩
theorem laid_met (os:Os):laidMetH Tryd.prog laidL ((laidWorld os).forCall (fun _ _=>0) ⟨#[],#[AG [I 0,I 0,I 0,I 0,I 0,I 0,I 0,I 0,I 0,SL none 0 0,I 0,I 0,I 0,SL none 0 0],AG [I 0,I 0]],[]⟩).memory:=
 laidMetH_of_parts3 (fuel:=8) (laidMet_of_run' 8 (by kernel_rfl) (by kernel_rfl)) (by kernel_rfl) (by kernel_rfl)
theorem reads (os:Os) {H:Type} (enc:TypeId×Value→H):∃ x,DataW.whole enc Tryd.prog ((laidWorld os).forCall (fun _ _=>0) ⟨#[],#[AG [I 0,I 0,I 0,I 0,I 0,I 0,I 0,I 0,I 0,SL none 0 0,I 0,I 0,I 0,SL none 0 0],AG [I 0,I 0]],[]⟩).memory Tryd.f4.params.toList Rows.topFuelSpec.vars false (#[AG [I 0,I 0,I 0,I 0,I 0,I 0,I 0,I 0,I 0,SL none 0 0,I 0,I 0,I 0,SL none 0 0],AG [I 0,I 0]]:Array Value).toList 8=some x:=
 ⟨([.agg [.agg [.lit (.int .i64 0),.lit (.int .i64 0)],.agg [.agg [.lit (.int .i64 0),.lit (.int .i64 0)],.agg [.lit (.int .i64 0),.lit (.int .i64 0)]],.agg [.lit (.int .i64 0),.lit (.int .i64 0),.lit (.int .i64 0)],.nil,.agg [.lit (.int .i64 0),.lit (.int .i64 0)],.lit (.int .i64 0),.nil],.agg [.lit (.int .i64 0),.lit (.int .i64 0)]],[],[]),by kernel_rfl⟩
set_option maxRecDepth 100000 in
theorem lifted (os:Os) (started:os.Started) (H:Type) (enc:TypeId×Value→H) (F:Stop.Interp):
 ReturnsInHanded {} Tryd.checked os 4 .any ((OpenSpec.ofChange Rows.topFuelSpec).preRow enc Tryd.prog Tryd.f4 Rows.topFuelRow.domain false Rows.topFuelRow.laid) (((OpenSpec.ofChange Rows.topFuelSpec).at F).post enc Tryd.prog Tryd.f4 false true false false):=by
 obtain ⟨x,hx⟩:=reads os enc
 refine returnsInHanded_of_row (C:=Tryd.checked) (s:=OpenSpec.ofChange Rows.topFuelSpec) own started (by kernel_rfl) Tryd.func4
  (witness_row_at (enc:=enc) (C:=Tryd.checked) false (laidWorld os) #[AG [I 0,I 0,I 0,I 0,I 0,I 0,I 0,I 0,I 0,SL none 0 0,I 0,I 0,I 0,SL none 0 0],AG [I 0,I 0]] rfl (by kernel_rfl) (by kernel_rfl) (by kernel_rfl)
   (OpenSpec.preRow_of_cond 8 hx rfl (fun k hk=>by cases hk) (by kernel_rfl) (laid_met os))) ?_
 intro W base args ds gs before hval hW _ _ hz hL hS _
 exact contract H enc W base args ds gs before hval hW hL hS
theorem said:Rows.TopFuelSaid:=
 OpenClaim.holds_of_cond 4 Tryd.f4 rfl rfl rfl rfl rfl rfl rfl ⟨rfl,rfl,rfl,rfl,rfl⟩ rfl rfl rfl rfl rfl (by kernel_rfl) Tryd.func4 (by kernel_rfl)
  (of_decide_eq_true (by kernel_rfl)) (by unfold Func.isWrapper; first | (rw [if_pos (by decide +kernel)]; kernel_rfl) | (rw [if_neg (by decide +kernel)]; exact ⟨rfl,rfl⟩))
  (fun os started H enc _ F=>by rw [OpenClaim.pre_eq_preRow]; exact lifted os started H enc F)
theorem plain (f : FuncId) (fn : Func) (hf : Tryd.pinned.checked.prog.funcNamed "prow/prowtop.TopFuel" = some f) (hfn : Tryd.pinned.checked.prog.funcs[f]? = some fn) :
 false=Tryd.pinned.checked.prog.looks []∧∀ (j:Nat) t,fn.params[j]? =some t→Tryd.pinned.checked.prog.wantsStandIn t=false:=by
 obtain rfl : f = 4 := Option.some.inj ((show Tryd.prog.funcNamed "prow/prowtop.TopFuel" = some 4 by kernel_rfl).symm.trans hf) |>.symm
 obtain rfl:fn=Tryd.f4:=(Option.some.inj (Tryd.func4.symm.trans hfn)).symm
 refine ⟨by kernel_rfl,fun j t ht=>?_⟩
 rw [Tryd.params4] at ht
 have hm:t∈[29,56]:=by simpa using Array.mem_of_getElem? ht
 have hall:([29,56].all fun t=>!Tryd.prog.wantsStandIn t)=true:=by kernel_rfl
 have:=List.all_eq_true.1 hall t hm
 show Tryd.prog.wantsStandIn t=false
 simpa using this
theorem card:Rows.TopFuelCardSaid:=
 Claim7.holds_tied_plain_at .later [] _ _ _ _ said (fun _ h=>by cases h) (by kernel_rfl) (fun _ h=>by cases h) topFuel_row_tie rfl ⟨rfl,rfl⟩ (by kernel_rfl) rfl plain (by kernel_rfl)
#print axioms card
end Go.Proofs.YtblfippmobpaaaaDoor.topFuel
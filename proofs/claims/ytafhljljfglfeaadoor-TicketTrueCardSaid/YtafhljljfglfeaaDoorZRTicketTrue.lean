/- The row of the law: its walk, its witness, its statement and its card. -/
import Derived.Test.YtafhljljfglfeaaDoorZGPSets
import Derived.Test.YtafhljljfglfeaaDoorZPTicketTrue
set_option linter.unusedVariables false
namespace Go.Proofs.YtafhljljfglfeaaDoor.ticketTrue
open Go Go.Fx Go.Proofs Go.ChangeShapes Go.WideShapes Go.ChangeAt Go.RowKit
theorem u31:Tryd.prog.underlying 31=some (.array 3 3):=by kernel_rfl
theorem c31:Tryd.prog.cellsOf 31=3:=by kernel_rfl
set_option maxRecDepth 100000 in
theorem contract (H:Type) (enc:TypeId×Value→H) (W:World) (base:Nat) (args:Array Value) (ds gs:List (DataW H)) (before:List MemPlace)
 (hval:∀ (j:Nat) t v,Tryd.f3.params[j]? =some t→args[j]? =some v→Value.okWide Tryd.prog W .any base t v)
 (hW:DataW.Whole enc Tryd.prog Tryd.f3.params.toList Rows.ticketTrueSpec.vars false W args.toList ds gs before) (hL:laidMetH Tryd.prog Rows.ticketTrueRow.laid W) (hS:W.ShapedOpen Tryd.prog):
 Calls Tryd.prog 3 args W fun e W' =>∃ v,e=.returned v∧Rows.ticketTrueSpec.post enc Tryd.prog Tryd.f3 false true false false W args v W' :=by
 obtain ⟨g0,g1,g2⟩:=globals_ok hS hL
 have hW' :=hW
 obtain ⟨p,q,hA0,hV,rfl,hfz,hnd⟩:=hW
 have hA:DataW.TrodAll enc Tryd.prog W 0 (fun _=>true) true Tryd.f3.params.toList args.toList ds p:=hA0
 rw [Tryd.params3] at hA hval
 obtain ⟨v0,vs0,d0,ds0,p0,q0,hargs,rfl,rfl,h0,r0⟩:=trodAll_cons hA
 obtain ⟨v1,vs1,d1,ds1,p1,q1,rfl,rfl,rfl,h1,r1⟩:=trodAll_cons r0
 obtain ⟨v2,vs2,d2,ds2,p2,q2,rfl,rfl,rfl,h2,r2⟩:=trodAll_cons r1
 obtain ⟨rfl,rfl,rfl⟩:=trodAll_nil r2
 obtain rfl:args=#[v0,v1,v2]:=by cases args; simp_all
 obtain ⟨A0,c0,A0',c0',B0,e0,B0',e0',b0,rfl,m0,m0',n0,n0',l0,l0',x0,y0⟩:=dec_book (hval 0 29 v0 rfl rfl) h0
 obtain ⟨A1,c1,b1,rfl,m1,l1,y1⟩:=dec_ints (hval 1 30 v1 rfl rfl) h1
 obtain ⟨b2,l2,rfl,y2⟩:=dec_flat (by kernel_rfl) (flat_array u31 u3 c3 c31) (hval 2 31 v2 rfl rfl) h2
 have walk:=law_TicketTrue_ok (law_ticketTrue b0 ⟨l0,l0',x0,y0⟩ b1 l1 b2) m0 m0' n0 n0' m1 g0 g1 g2
 rw [sg_self b2 l2] at walk
 refine walk.mono fun e W' ⟨u,he,hu,hk⟩=>?_
 subst hu
 exact ⟨_,he,law_post (tb:=4) hW' laidOut (by kernel_rfl) rfl rfl (by kernel_rfl) (by kernel_rfl) hk⟩
theorem laid_met (os:Os):laidMetH Tryd.prog laidL ((laidWorld os).forCall (fun _ _=>0) ⟨#[],#[AG [I 0,I 0,SL none 0 0,I 0,SL none 0 0,SL none 0 0,SL none 0 0],SL none 0 0,AG [I 0,I 0,I 0]],[]⟩).memory:=
 laidMetH_of_parts3 (fuel:=8) (laidMet_of_run' 8 (by kernel_rfl) (by kernel_rfl)) (by kernel_rfl) (by kernel_rfl)
theorem reads (os:Os) {H:Type} (enc:TypeId×Value→H):∃ x,DataW.whole enc Tryd.prog ((laidWorld os).forCall (fun _ _=>0) ⟨#[],#[AG [I 0,I 0,SL none 0 0,I 0,SL none 0 0,SL none 0 0,SL none 0 0],SL none 0 0,AG [I 0,I 0,I 0]],[]⟩).memory Tryd.f3.params.toList Rows.ticketTrueSpec.vars false (#[AG [I 0,I 0,SL none 0 0,I 0,SL none 0 0,SL none 0 0,SL none 0 0],SL none 0 0,AG [I 0,I 0,I 0]]:Array Value).toList 8=some x:=
 ⟨([.agg [.agg [.lit (.int .i64 0),.lit (.int .i64 0),.nil],.lit (.int .i64 0),.nil,.nil,.nil],.nil,.agg [.lit (.int .i64 0),.lit (.int .i64 0),.lit (.int .i64 0)]],[],[]),by kernel_rfl⟩
set_option maxRecDepth 100000 in
theorem lifted (os:Os) (started:os.Started) (H:Type) (enc:TypeId×Value→H) (F:Stop.Interp):
 ReturnsInHanded {} Tryd.checked os 3 .any ((OpenSpec.ofChange Rows.ticketTrueSpec).preRow enc Tryd.prog Tryd.f3 Rows.ticketTrueRow.domain false Rows.ticketTrueRow.laid) (((OpenSpec.ofChange Rows.ticketTrueSpec).at F).post enc Tryd.prog Tryd.f3 false true false false):=by
 obtain ⟨x,hx⟩:=reads os enc
 refine returnsInHanded_of_row (C:=Tryd.checked) (s:=OpenSpec.ofChange Rows.ticketTrueSpec) own started (by kernel_rfl) Tryd.func3
  (witness_row_at (enc:=enc) (C:=Tryd.checked) false (laidWorld os) #[AG [I 0,I 0,SL none 0 0,I 0,SL none 0 0,SL none 0 0,SL none 0 0],SL none 0 0,AG [I 0,I 0,I 0]] rfl (by kernel_rfl) (by kernel_rfl) (by kernel_rfl)
   (OpenSpec.preRow_of_cond 8 hx rfl (fun k hk=>by cases hk) (by kernel_rfl) (laid_met os))) ?_
 intro W base args ds gs before hval hW _ _ hz hL hS _
 exact contract H enc W base args ds gs before hval hW hL hS
theorem said:Rows.TicketTrueSaid:=
 OpenClaim.holds_of_cond 3 Tryd.f3 rfl rfl rfl rfl rfl rfl rfl ⟨rfl,rfl,rfl,rfl,rfl⟩ rfl rfl rfl rfl rfl (by kernel_rfl) Tryd.func3 (by kernel_rfl)
  (of_decide_eq_true (by kernel_rfl)) (by unfold Func.isWrapper; first | (rw [if_pos (by decide +kernel)]; kernel_rfl) | (rw [if_neg (by decide +kernel)]; exact ⟨rfl,rfl⟩))
  (fun os started H enc _ F=>by rw [OpenClaim.pre_eq_preRow]; exact lifted os started H enc F)
theorem plain (f : FuncId) (fn : Func) (hf : Tryd.pinned.checked.prog.funcNamed "prow/prowlaw10.TicketTrue" = some f) (hfn : Tryd.pinned.checked.prog.funcs[f]? = some fn) :
 false=Tryd.pinned.checked.prog.looks []∧∀ (j:Nat) t,fn.params[j]? =some t→Tryd.pinned.checked.prog.wantsStandIn t=false:=by
 obtain rfl : f = 3 := Option.some.inj ((show Tryd.prog.funcNamed "prow/prowlaw10.TicketTrue" = some 3 by kernel_rfl).symm.trans hf) |>.symm
 obtain rfl:fn=Tryd.f3:=(Option.some.inj (Tryd.func3.symm.trans hfn)).symm
 refine ⟨by kernel_rfl,fun j t ht=>?_⟩
 rw [Tryd.params3] at ht
 have hm:t∈[29,30,31]:=by simpa using Array.mem_of_getElem? ht
 have hall:([29,30,31].all fun t=>!Tryd.prog.wantsStandIn t)=true:=by kernel_rfl
 have:=List.all_eq_true.1 hall t hm
 show Tryd.prog.wantsStandIn t=false
 simpa using this
theorem card:Rows.TicketTrueCardSaid:=
 Claim7.holds_tied_plain_at .later [] _ _ _ _ said (fun _ h=>by cases h) (by kernel_rfl) (fun _ h=>by cases h) ticketTrue_row_tie rfl ⟨rfl,rfl⟩ (by kernel_rfl) rfl plain (by kernel_rfl)
#print axioms card
end Go.Proofs.YtafhljljfglfeaaDoor.ticketTrue
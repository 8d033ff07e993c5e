/- The row of the law: its walk, its witness, its statement and its card. -/
import Derived.Test.YtafhljljfglfeaaDoorZGWArgs
import Derived.Test.YtafhljljfglfeaaDoorZPTicketKnown
set_option linter.unusedVariables false
namespace Go.Proofs.YtafhljljfglfeaaDoor.ticketKnown
open Go Go.Fx Go.Proofs Go.ChangeShapes Go.WideShapes Go.ChangeAt Go.RowKit
set_option maxRecDepth 100000 in
theorem contract (H:Type) (enc:TypeId×Value→H) (W:World) (base:Nat) (args:Array Value) (ds gs:List (DataW H)) (before:List MemPlace)
 (hval:∀ (j:Nat) t v,Tryd.f8.params[j]? =some t→args[j]? =some v→Value.okWide Tryd.prog W .any base t v)
 (hW:DataW.Whole enc Tryd.prog Tryd.f8.params.toList Rows.ticketKnownSpec.vars false W args.toList ds gs before) (hL:laidMetH Tryd.prog Rows.ticketKnownRow.laid W) (hS:W.ShapedOpen Tryd.prog):
 Calls Tryd.prog 8 args W fun e W' =>∃ v,e=.returned v∧Rows.ticketKnownSpec.post enc Tryd.prog Tryd.f8 false true false false W args v W' :=by
 obtain ⟨g0,g1,g2⟩:=globals_ok hS hL
 have hW' :=hW
 obtain ⟨p,q,hA0,hV,rfl,hfz,hnd⟩:=hW
 have hA:DataW.TrodAll enc Tryd.prog W 0 (fun _=>true) true Tryd.f8.params.toList args.toList ds p:=hA0
 rw [Tryd.params8] at hA hval
 obtain ⟨ha,rfl,rfl⟩:=trodAll_nil hA
 obtain ⟨la⟩:=args
 obtain rfl:la=[]:=ha
 have walk:=law_TicketKnown_ok (law_ticketKnown ) g0 g1 g2
 refine walk.mono fun e W' ⟨u,he,hu,hk⟩=>?_
 subst hu
 exact ⟨_,he,law_post (tb:=4) hW' laidOut (by kernel_rfl) rfl rfl (by kernel_rfl) (by kernel_rfl) hk⟩
theorem laid_met (os:Os):laidMetH Tryd.prog laidL ((laidWorld os).forCall (fun _ _=>0) ⟨#[],#[],[]⟩).memory:=
 laidMetH_of_parts3 (fuel:=8) (laidMet_of_run' 8 (by kernel_rfl) (by kernel_rfl)) (by kernel_rfl) (by kernel_rfl)
theorem reads (os:Os) {H:Type} (enc:TypeId×Value→H):∃ x,DataW.whole enc Tryd.prog ((laidWorld os).forCall (fun _ _=>0) ⟨#[],#[],[]⟩).memory Tryd.f8.params.toList Rows.ticketKnownSpec.vars false (#[]:Array Value).toList 8=some x:=
 ⟨([],[],[]),by kernel_rfl⟩
set_option maxRecDepth 100000 in
theorem lifted (os:Os) (started:os.Started) (H:Type) (enc:TypeId×Value→H) (F:Stop.Interp):
 ReturnsInHanded {} Tryd.checked os 8 .any ((OpenSpec.ofChange Rows.ticketKnownSpec).preRow enc Tryd.prog Tryd.f8 Rows.ticketKnownRow.domain false Rows.ticketKnownRow.laid) (((OpenSpec.ofChange Rows.ticketKnownSpec).at F).post enc Tryd.prog Tryd.f8 false true false false):=by
 obtain ⟨x,hx⟩:=reads os enc
 refine returnsInHanded_of_row (C:=Tryd.checked) (s:=OpenSpec.ofChange Rows.ticketKnownSpec) own started (by kernel_rfl) Tryd.func8
  (witness_row_at (enc:=enc) (C:=Tryd.checked) false (laidWorld os) #[] rfl (by kernel_rfl) (by kernel_rfl) (by kernel_rfl)
   (OpenSpec.preRow_of_cond 8 hx rfl (fun k hk=>by cases hk) (by kernel_rfl) (laid_met os))) ?_
 intro W base args ds gs before hval hW _ _ hz hL hS _
 exact contract H enc W base args ds gs before hval hW hL hS
theorem said:Rows.TicketKnownSaid:=
 OpenClaim.holds_of_cond 8 Tryd.f8 rfl rfl rfl rfl rfl rfl rfl ⟨rfl,rfl,rfl,rfl,rfl⟩ rfl rfl rfl rfl rfl (by kernel_rfl) Tryd.func8 (by kernel_rfl)
  (of_decide_eq_true (by kernel_rfl)) (by unfold Func.isWrapper; first | (rw [if_pos (by decide +kernel)]; kernel_rfl) | (rw [if_neg (by decide +kernel)]; exact ⟨rfl,rfl⟩))
  (fun os started H enc _ F=>by rw [OpenClaim.pre_eq_preRow]; exact lifted os started H enc F)
theorem plain (f : FuncId) (fn : Func) (hf : Tryd.pinned.checked.prog.funcNamed "prow/prowlaw10.TicketKnown" = some f) (hfn : Tryd.pinned.checked.prog.funcs[f]? = some fn) :
 false=Tryd.pinned.checked.prog.looks []∧∀ (j:Nat) t,fn.params[j]? =some t→Tryd.pinned.checked.prog.wantsStandIn t=false:=by
 obtain rfl : f = 8 := Option.some.inj ((show Tryd.prog.funcNamed "prow/prowlaw10.TicketKnown" = some 8 by kernel_rfl).symm.trans hf) |>.symm
 obtain rfl:fn=Tryd.f8:=(Option.some.inj (Tryd.func8.symm.trans hfn)).symm
 refine ⟨by kernel_rfl,fun j t ht=>?_⟩
 rw [Tryd.params8] at ht
 have hm:t∈[]:=by simpa using Array.mem_of_getElem? ht
 have hall:([].all fun t=>!Tryd.prog.wantsStandIn t)=true:=by kernel_rfl
 have:=List.all_eq_true.1 hall t hm
 show Tryd.prog.wantsStandIn t=false
 simpa using this
theorem card:Rows.TicketKnownCardSaid:=
 Claim7.holds_tied_plain_at .later [] _ _ _ _ said (fun _ h=>by cases h) (by kernel_rfl) (fun _ h=>by cases h) ticketKnown_row_tie rfl ⟨rfl,rfl⟩ (by kernel_rfl) rfl plain (by kernel_rfl)
#print axioms card
end Go.Proofs.YtafhljljfglfeaaDoor.ticketKnown
/- The row of the law: its walk, its witness, its statement and its card. -/
import Derived.Test.YtafhljljfglfeaaGreatDoorZGPOpenT
import Derived.Test.YtafhljljfglfeaaGreatDoorZGWWt
set_option linter.unusedVariables false
namespace Go.Proofs.YtafhljljfglfeaaGreatDoor.ticketUses
open Go Go.Fx Go.Proofs Go.ChangeShapes Go.WideShapes Go.ChangeAt Go.RowKit
set_option maxRecDepth 100000 in
theorem contract (H:Type) (enc:TypeId×Value→H) (W:World) (base:Nat) (args:Array Value) (ds gs:List (DataW H)) (before:List MemPlace)
 (hval:∀ (j:Nat) t v,Tryz.f4.params[j]? =some t→args[j]? =some v→Value.okWide Tryz.prog W .any base t v)
 (hW:DataW.Whole enc Tryz.prog Tryz.f4.params.toList Rows.ticketUsesSpec.vars false W args.toList ds gs before) (hL:laidMetH Tryz.prog Rows.ticketUsesRow.laid W) (hS:W.ShapedOpen Tryz.prog)
 (hz:(DataW.weightsEach Tryz.prog (Tryz.f4.params.toList++(OpenSpec.ofChange Rows.ticketUsesSpec).bare.plain.varTypes Tryz.prog) (ds++gs)).all (·≤reachBytes)=true):
 Calls Tryz.prog 4 args W fun e W' =>∃ v,e=.returned v∧Rows.ticketUsesSpec.post enc Tryz.prog Tryz.f4 false true false false W args v W' :=by
 obtain ⟨g0,g1,g2⟩:=globals_ok hS hL
 have hW' :=hW
 obtain ⟨p,q,hA0,hV,rfl,hfz,hnd⟩:=hW
 have hA:DataW.TrodAll enc Tryz.prog W 0 (fun _=>true) true Tryz.f4.params.toList args.toList ds p:=hA0
 rw [Tryz.params4] at hA hval hz
 obtain ⟨v0,vs0,d0,ds0,p0,q0,hargs,rfl,rfl,h0,r0⟩:=trodAll_cons hA
 obtain ⟨v1,vs1,d1,ds1,p1,q1,rfl,rfl,rfl,h1,r1⟩:=trodAll_cons r0
 obtain ⟨rfl,rfl,rfl⟩:=trodAll_nil r1
 obtain rfl:args=#[v0,v1]:=by cases args; simp_all
 obtain ⟨A0,c0,A0',c0',B0,e0,B0',e0',b0,rfl,m0,m0',n0,n0',l0,l0',x0,y0⟩:=dec_book (hval 0 29 v0 rfl rfl) h0
 have w0:=wt_book h0 (wt_at hz (i:=0) rfl rfl)
 obtain ⟨b1,rfl,y1⟩:=dec_int u3 (hval 1 3 v1 rfl rfl) h1
 have walk:=law_TicketUses_ok (law_ticketUses_t b0 w0.1 w0.2.1 w0.2.2.1 w0.2.2.2 b1) m0 m0' n0 n0' g0 g1 g2
 refine walk.mono fun e W' ⟨u,he,hu,hk⟩=>?_
 subst hu
 exact ⟨_,he,law_post (tb:=4) hW' laidOut (by kernel_rfl) rfl rfl (by kernel_rfl) (by kernel_rfl) hk⟩
theorem laid_met (os:Os):laidMetH Tryz.prog laidL ((laidWorld os).forCall (fun _ _=>0) ⟨#[],#[AG [I 0,I 0,SL none 0 0,I 0,SL none 0 0,SL none 0 0,SL none 0 0],I 0],[]⟩).memory:=
 laidMetH_of_parts3 (fuel:=8) (laidMet_of_run' 8 (by kernel_rfl) (by kernel_rfl)) (by kernel_rfl) (by kernel_rfl)
theorem reads (os:Os) {H:Type} (enc:TypeId×Value→H):∃ x,DataW.whole enc Tryz.prog ((laidWorld os).forCall (fun _ _=>0) ⟨#[],#[AG [I 0,I 0,SL none 0 0,I 0,SL none 0 0,SL none 0 0,SL none 0 0],I 0],[]⟩).memory Tryz.f4.params.toList Rows.ticketUsesSpec.vars false (#[AG [I 0,I 0,SL none 0 0,I 0,SL none 0 0,SL none 0 0,SL none 0 0],I 0]:Array Value).toList 8=some x:=
 ⟨([.agg [.agg [.lit (.int .i64 0),.lit (.int .i64 0),.nil],.lit (.int .i64 0),.nil,.nil,.nil],.lit (.int .i64 0)],[],[]),by kernel_rfl⟩
set_option maxRecDepth 100000 in
theorem lifted (os:Os) (started:os.Started) (H:Type) (enc:TypeId×Value→H) (F:Stop.Interp):
 ReturnsInHanded {} Tryz.checked os 4 .any ((OpenSpec.ofChange Rows.ticketUsesSpec).preRow enc Tryz.prog Tryz.f4 Rows.ticketUsesRow.domain false Rows.ticketUsesRow.laid) (((OpenSpec.ofChange Rows.ticketUsesSpec).at F).post enc Tryz.prog Tryz.f4 false true false false):=by
 obtain ⟨x,hx⟩:=reads os enc
 refine returnsInHanded_of_row (C:=Tryz.checked) (s:=OpenSpec.ofChange Rows.ticketUsesSpec) own started (by kernel_rfl) Tryz.func4
  (witness_row_at (enc:=enc) (C:=Tryz.checked) false (laidWorld os) #[AG [I 0,I 0,SL none 0 0,I 0,SL none 0 0,SL none 0 0,SL none 0 0],I 0] rfl (by kernel_rfl) (by kernel_rfl) (by kernel_rfl)
   (OpenSpec.preRow_of_cond 8 hx rfl (fun k hk=>by cases hk) (by kernel_rfl) (laid_met os))) ?_
 intro W base args ds gs before hval hW _ _ hz hL hS _
 exact contract H enc W base args ds gs before hval hW hL hS hz
theorem said:Rows.TicketUsesSaid:=
 OpenClaim.holds_of_cond 4 Tryz.f4 rfl rfl rfl rfl rfl rfl rfl ⟨rfl,rfl,rfl,rfl,rfl⟩ rfl rfl rfl rfl rfl (by kernel_rfl) Tryz.func4 (by kernel_rfl)
  (of_decide_eq_true (by kernel_rfl)) (by unfold Func.isWrapper; first | (rw [if_pos (by decide +kernel)]; kernel_rfl) | (rw [if_neg (by decide +kernel)]; exact ⟨rfl,rfl⟩))
  (fun os started H enc _ F=>by rw [OpenClaim.pre_eq_preRow]; exact lifted os started H enc F)
theorem plain (f : FuncId) (fn : Func) (hf : Tryz.pinned.checked.prog.funcNamed "prow/prowlaw10.TicketUses" = some f) (hfn : Tryz.pinned.checked.prog.funcs[f]? = some fn) :
 false=Tryz.pinned.checked.prog.looks []∧∀ (j:Nat) t,fn.params[j]? =some t→Tryz.pinned.checked.prog.wantsStandIn t=false:=by
 obtain rfl : f = 4 := Option.some.inj ((show Tryz.prog.funcNamed "prow/prowlaw10.TicketUses" = some 4 by kernel_rfl).symm.trans hf) |>.symm
 obtain rfl:fn=Tryz.f4:=(Option.some.inj (Tryz.func4.symm.trans hfn)).symm
 refine ⟨by kernel_rfl,fun j t ht=>?_⟩
 rw [Tryz.params4] at ht
 have hm:t∈[29,3]:=by simpa using Array.mem_of_getElem? ht
 have hall:([29,3].all fun t=>!Tryz.prog.wantsStandIn t)=true:=by kernel_rfl
 have:=List.all_eq_true.1 hall t hm
 show Tryz.prog.wantsStandIn t=false
 simpa using this
theorem card:Rows.TicketUsesCardSaid:=
 Claim7.holds_tied_plain_at .later [] _ _ _ _ said (fun _ h=>by cases h) (by kernel_rfl) (fun _ h=>by cases h) ticketUses_row_tie rfl ⟨rfl,rfl⟩ (by kernel_rfl) rfl plain (by kernel_rfl)
#print axioms card
end Go.Proofs.YtafhljljfglfeaaGreatDoor.ticketUses
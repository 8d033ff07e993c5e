/- What the functions of the program compute, and that they do, printed by a program of mine. -/
import Derived.Test.YtblfippmobpaaaaDoorZWA
import Derived.KernelRfl
set_option linter.unusedVariables false
set_option linter.unusedSimpArgs false
namespace Go.Proofs.YtblfippmobpaaaaDoor
open Go Go.Fx Go.Proofs
set_option maxRecDepth 100000 in
theorem coal_book_truths_1_ok {σ:Type}{l_:Nat}{G_:σ→Asr→Prop}{A_:Asr}{wb_:World}{C0_:Nat→Prop}{s_:σ}{q0:Coal_book}{yv:Coal_truth→σ→Option (Bool×σ)}{b1:Nat}{A2:Option Addr}{c3:Nat}{A5:Option Addr}{c6:Nat}{m8:Option Nat}{w:World}{r:σ} (H:coal_book_truths_1 s_ q0 yv=some r) (hG_:(ga G_ s_ A_).ok w) (h10:(bl b1 ([I q0.CoalBook.Heap.Low,I q0.CoalBook.Heap.High]++(sgE eSpan q0.CoalBook.Eats 2++(sg q0.CoalBook.Extra 3++[SL A2 q0.CoalBook.Days.length c3,I q0.CoalBook.Collier.Low,I q0.CoalBook.Collier.High,I q0.CoalBook.Brings,SL A5 q0.CoalBook.Dips.length c6,Value.map m8]))) 84).ok w) (h4:(rd eCoalDay 3 A2 c3 q0.CoalBook.Days).ok w) (h7:(rd eCoalDip 3 A5 c6 q0.CoalBook.Dips).ok w) (h9:(mpo ekG iE m8 q0.costs_).ok w) (hd_:∀ p∈([bl b1 ([I q0.CoalBook.Heap.Low,I q0.CoalBook.Heap.High]++(sgE eSpan q0.CoalBook.Eats 2++(sg q0.CoalBook.Extra 3++[SL A2 q0.CoalBook.Days.length c3,I q0.CoalBook.Collier.Low,I q0.CoalBook.Collier.High,I q0.CoalBook.Brings,SL A5 q0.CoalBook.Dips.length c6,Value.map m8]))) 84,rd eCoalDay 3 A2 c3 q0.CoalBook.Days,rd eCoalDip 3 A5 c6 q0.CoalBook.Dips,mpo ekG iE m8 q0.costs_]:List Asr),∀ b,p.fp b→¬A_.fp b) (hy_:YH Tryd.prog l_ yE1 yv G_ wb_ C0_) (hl_:Link wb_ C0_ w A_.fp):Calls Tryd.prog 77 #[Value.func (.yield l_) #[] #[],P b1 0] w (fun en w_=>∃ u_,en=.returned u_∧∃ A'_:Asr,u_=TU []∧Keep A_.fp w w_∧(ga G_ r A'_).ok w_∧(∀ b_,A'_.fp b_→A_.fp b_∨w.heap.size≤b_)):=by
 unfold coal_book_truths_1 at H
 refine fn_of (n:=43) Tryd.func77 rfl rfl (lE rfl) ?_
 have S:St w A_.fp w [ga G_ s_ A_] [bl b1 ([I q0.CoalBook.Heap.Low,I q0.CoalBook.Heap.High]++(sgE eSpan q0.CoalBook.Eats 2++(sg q0.CoalBook.Extra 3++[SL A2 q0.CoalBook.Days.length c3,I q0.CoalBook.Collier.Low,I q0.CoalBook.Collier.High,I q0.CoalBook.Brings,SL A5 q0.CoalBook.Dips.length c6,Value.map m8]))) 84,rd eCoalDay 3 A2 c3 q0.CoalBook.Days,rd eCoalDip 3 A5 c6 q0.CoalBook.Dips,mpo ekG iE m8 q0.costs_]:=St.startX (ga G_ s_ A_) hG_ (cA h10 (cA h4 (cA h7 (cA h9 nM)))) hd_
 refine c_seq<|reg<|p_box (rfl:_=Value.func (.yield l_) #[] #[]) rfl S fun b11 w12 S13=>wp_nil<|c_seq<|reg<|p_fld fl84_0 rfl<|p_fld fl29_0 rfl<|p_ldP (vs:=[I q0.CoalBook.Heap.Low,I q0.CoalBook.Heap.High]) ty23 sz23 (S13.atP (i:=0) rfl) rfl rfl rfl ?_
 obtain ⟨r14,h15,H⟩:=bindS H
 refine p_cal (coal_all_ok h15) fu78 rfl ?_
 rintro _ w16 ⟨b18,rfl,k17,⟨o19,n20⟩,_⟩
 have S21:=S13.addNew k17 o19 n20
 refine wp_nil<|c_block ?_
 have S22:=S21.fix (i:=0) rfl
 obtain ⟨r23,h24,H⟩:=bindS H
 have S25:=S22
 refine c_rangeG (α:=σ) (β:=Asr) (ε:=Int) (K:=[bl b18 [I q0.CoalBook.Heap.Low,I q0.CoalBook.Heap.High] 23]) (MK:=Go.Fx.mark) (XR:=fun D26=>[]++[bx D26 (.deferred (some []))]) (it:=fun {σ} yv s_=>coal_all_1 s_ q0.CoalBook.Heap yv) (enc:=yE0) (coal_book_truths_1_r121 q0 yv) [.ret] (fun z_1 y_1=>[bl b11 [Value.func (.yield l_) #[] #[]] 150,ga G_ z_1 y_1]) s_ A_ h24 (ent_none (X0:=(fun z_1 y_1=>[bl b11 [Value.func (.yield l_) #[] #[]] 150,ga G_ z_1 y_1]) s_ A_++[]) S25) rfl fu90 (fun w_ σ yv_ s_ s'_ l_ G_ A_ hH_ hG_ hk_ hd_ hy_=>(coal_all_1_ok hH_ hG_ (hk_ _ (mE (i:=0) rfl)) hd_ hy_ (Link.refl _ _)).mono fun en_ w3_ ⟨u_,he_,A'_,hu_,hk2_,ho_,hf_⟩=>⟨u_,he_,hk2_,A'_,ho_,hf_⟩) (mG [0] rfl) (fun _=>rfl) (cA (.inl rfl) nM) ?_ ?_ ?_
 ·intro l27 oR28 oB29 Cr30 x_1 z_1 y_1 w31 b32 c33 z34 PP35 H S36 hlk37 ho38 hB39 hN40 hX41
  unfold coal_book_truths_1_r121 at H
  replace S36:St w31 Cr30 w31 [bx l27 oR28,bl b11 [Value.func (.yield l_) #[] #[]] 150,ga G_ z_1 y_1] [bl b18 [I q0.CoalBook.Heap.Low,I q0.CoalBook.Heap.High] 23,bl b1 ([I q0.CoalBook.Heap.Low,I q0.CoalBook.Heap.High]++(sgE eSpan q0.CoalBook.Eats 2++(sg q0.CoalBook.Extra 3++[SL A2 q0.CoalBook.Days.length c3,I q0.CoalBook.Collier.Low,I q0.CoalBook.Collier.High,I q0.CoalBook.Brings,SL A5 q0.CoalBook.Dips.length c6,Value.map m8]))) 84,rd eCoalDay 3 A2 c3 q0.CoalBook.Days,rd eCoalDip 3 A5 c6 q0.CoalBook.Dips,mpo ekG iE m8 q0.costs_]:=S36
  refine reg<|p_all in3 rfl S36 fun b42 w43 S44=>p_st sz3 S44 (i:=0) rfl rfl (rfl:_=I x_1) rfl rfl fun w45 S46=>wp_nil ?_
  refine hB39 _ _ 1 _ S46 rfl fun w47 S48=>?_
  replace S48:St w31 Cr30 w47 [bl b42 [I x_1] 3,bx l27 oB29,bl b11 [Value.func (.yield l_) #[] #[]] 150,ga G_ z_1 y_1] [bl b18 [I q0.CoalBook.Heap.Low,I q0.CoalBook.Heap.High] 23,bl b1 ([I q0.CoalBook.Heap.Low,I q0.CoalBook.Heap.High]++(sgE eSpan q0.CoalBook.Eats 2++(sg q0.CoalBook.Extra 3++[SL A2 q0.CoalBook.Days.length c3,I q0.CoalBook.Collier.Low,I q0.CoalBook.Collier.High,I q0.CoalBook.Brings,SL A5 q0.CoalBook.Dips.length c6,Value.map m8]))) 84,rd eCoalDay 3 A2 c3 q0.CoalBook.Days,rd eCoalDip 3 A5 c6 q0.CoalBook.Dips,mpo ekG iE m8 q0.costs_]:=S48
  refine c_block<|c_seq<|reg<|p_fld fl84_0 rfl<|p_fld fl29_1 rfl<|p_ixc ar24 rfl rfl (by decide) (by decide)<|p_ldP (vs:=[I ((agetS q0.CoalBook.Eats (0:Int)).Low),I ((agetS q0.CoalBook.Eats (0:Int)).High)]) ty23 sz23 (S48.atP (i:=1) rfl) rfl rfl rfl ?_
  obtain ⟨r49,h50,H⟩:=bindS H
  refine p_cal (coal_all_ok h50) fu78 rfl ?_
  rintro _ w51 ⟨b53,rfl,k52,⟨o54,n55⟩,_⟩
  have S56:=S48.addNew k52 o54 n55
  refine wp_nil<|c_block ?_
  have S57:=S56.fix (i:=0) rfl
  obtain ⟨r58,h59,H⟩:=bindS H
  have S61:=S57.pk [0,2,3,1] (by decide) [0,1,2,3,4,5] rfl rfl
  have S60:=S61
  refine c_rangeG (α:=σ) (β:=Asr) (ε:=Int) (K:=[bl b53 [I ((agetS q0.CoalBook.Eats (0:Int)).Low),I ((agetS q0.CoalBook.Eats (0:Int)).High)] 23]) (MK:=fun _=>[]) (XR:=fun _=>[bx l27 oB29]) (it:=fun {σ} yv s_=>coal_all_1 s_ (agetS q0.CoalBook.Eats (0:Int)) yv) (enc:=yE0) (coal_book_truths_1_r120 q0 x_1 yv) [.ret] (fun z_2 y_2=>[bl b42 [I x_1] 3,bl b11 [Value.func (.yield l_) #[] #[]] 150,ga G_ z_2 y_2]) z_1 y_1 h59 (ent_some ho38 (X0:=(fun z_2 y_2=>[bl b42 [I x_1] 3,bl b11 [Value.func (.yield l_) #[] #[]] 150,ga G_ z_2 y_2]) z_1 y_1++[]) S60) rfl fu90 (fun w_ σ yv_ s_ s'_ l_ G_ A_ hH_ hG_ hk_ hd_ hy_=>(coal_all_1_ok hH_ hG_ (hk_ _ (mE (i:=0) rfl)) hd_ hy_ (Link.refl _ _)).mono fun en_ w3_ ⟨u_,he_,A'_,hu_,hk2_,ho_,hf_⟩=>⟨u_,he_,hk2_,A'_,ho_,hf_⟩) (mG [0] rfl) (fun _=>rfl) (cA (.inl rfl) nM) ?_ ?_ ?_
  ·intro l62 oR63 oB64 Cr65 x_2 z_2 y_2 w66 b67 c68 z69 PP70 H S71 hlk72 ho73 hB74 hN75 hX76
   unfold coal_book_truths_1_r120 at H
   replace S71:St w66 Cr65 w66 [bx l62 oR63,bl b42 [I x_1] 3,bl b11 [Value.func (.yield l_) #[] #[]] 150,ga G_ z_2 y_2] [bl b53 [I ((agetS q0.CoalBook.Eats (0:Int)).Low),I ((agetS q0.CoalBook.Eats (0:Int)).High)] 23,bl b18 [I q0.CoalBook.Heap.Low,I q0.CoalBook.Heap.High] 23,bl b1 ([I q0.CoalBook.Heap.Low,I q0.CoalBook.Heap.High]++(sgE eSpan q0.CoalBook.Eats 2++(sg q0.CoalBook.Extra 3++[SL A2 q0.CoalBook.Days.length c3,I q0.CoalBook.Collier.Low,I q0.CoalBook.Collier.High,I q0.CoalBook.Brings,SL A5 q0.CoalBook.Dips.length c6,Value.map m8]))) 84,rd eCoalDay 3 A2 c3 q0.CoalBook.Days,rd eCoalDip 3 A5 c6 q0.CoalBook.Dips,mpo ekG iE m8 q0.costs_]:=S71
   refine reg<|p_all in3 rfl S71 fun b77 w78 S79=>p_st sz3 S79 (i:=0) rfl rfl (rfl:_=I x_2) rfl rfl fun w80 S81=>wp_nil ?_
   refine hB74 _ _ 1 _ S81 rfl fun w82 S83=>?_
   replace S83:St w66 Cr65 w82 [bl b77 [I x_2] 3,bx l62 oB64,bl b42 [I x_1] 3,bl b11 [Value.func (.yield l_) #[] #[]] 150,ga G_ z_2 y_2] [bl b53 [I ((agetS q0.CoalBook.Eats (0:Int)).Low),I ((agetS q0.CoalBook.Eats (0:Int)).High)] 23,bl b18 [I q0.CoalBook.Heap.Low,I q0.CoalBook.Heap.High] 23,bl b1 ([I q0.CoalBook.Heap.Low,I q0.CoalBook.Heap.High]++(sgE eSpan q0.CoalBook.Eats 2++(sg q0.CoalBook.Extra 3++[SL A2 q0.CoalBook.Days.length c3,I q0.CoalBook.Collier.Low,I q0.CoalBook.Collier.High,I q0.CoalBook.Brings,SL A5 q0.CoalBook.Dips.length c6,Value.map m8]))) 84,rd eCoalDay 3 A2 c3 q0.CoalBook.Days,rd eCoalDip 3 A5 c6 q0.CoalBook.Dips,mpo ekG iE m8 q0.costs_]:=S83
   refine c_block<|c_seq<|reg<|p_fld fl84_0 rfl<|p_fld fl29_1 rfl<|p_ixc ar24 rfl rfl (by decide) (by decide)<|p_ldP (vs:=[I ((agetS q0.CoalBook.Eats (1:Int)).Low),I ((agetS q0.CoalBook.Eats (1:Int)).High)]) ty23 sz23 (S83.atP (i:=2) rfl) rfl rfl rfl ?_
   obtain ⟨r84,h85,H⟩:=bindS H
   refine p_cal (coal_all_ok h85) fu78 rfl ?_
   rintro _ w86 ⟨b88,rfl,k87,⟨o89,n90⟩,_⟩
   have S91:=S83.addNew k87 o89 n90
   refine wp_nil<|c_block ?_
   have S92:=S91.fix (i:=0) rfl
   obtain ⟨r93,h94,H⟩:=bindS H
   have S96:=S92.pk [0,2,3,4,1] (by decide) [0,1,2,3,4,5,6] rfl rfl
   have S95:=S96
   refine c_rangeG (α:=σ) (β:=Asr) (ε:=Int) (K:=[bl b88 [I ((agetS q0.CoalBook.Eats (1:Int)).Low),I ((agetS q0.CoalBook.Eats (1:Int)).High)] 23]) (MK:=fun _=>[]) (XR:=fun _=>[bx l62 oB64]) (it:=fun {σ} yv s_=>coal_all_1 s_ (agetS q0.CoalBook.Eats (1:Int)) yv) (enc:=yE0) (coal_book_truths_1_r119 q0 x_2 x_1 yv) [.ret] (fun z_3 y_3=>[bl b77 [I x_2] 3,bl b42 [I x_1] 3,bl b11 [Value.func (.yield l_) #[] #[]] 150,ga G_ z_3 y_3]) z_2 y_2 h94 (ent_some ho73 (X0:=(fun z_3 y_3=>[bl b77 [I x_2] 3,bl b42 [I x_1] 3,bl b11 [Value.func (.yield l_) #[] #[]] 150,ga G_ z_3 y_3]) z_2 y_2++[]) S95) rfl fu90 (fun w_ σ yv_ s_ s'_ l_ G_ A_ hH_ hG_ hk_ hd_ hy_=>(coal_all_1_ok hH_ hG_ (hk_ _ (mE (i:=0) rfl)) hd_ hy_ (Link.refl _ _)).mono fun en_ w3_ ⟨u_,he_,A'_,hu_,hk2_,ho_,hf_⟩=>⟨u_,he_,hk2_,A'_,ho_,hf_⟩) (mG [0] rfl) (fun _=>rfl) (cA (.inl rfl) nM) ?_ ?_ ?_
   ·intro l97 oR98 oB99 Cr100 x_3 z_3 y_3 w101 b102 c103 z104 PP105 H S106 hlk107 ho108 hB109 hN110 hX111
    unfold coal_book_truths_1_r119 at H
    replace S106:St w101 Cr100 w101 [bx l97 oR98,bl b77 [I x_2] 3,bl b42 [I x_1] 3,bl b11 [Value.func (.yield l_) #[] #[]] 150,ga G_ z_3 y_3] [bl b88 [I ((agetS q0.CoalBook.Eats (1:Int)).Low),I ((agetS q0.CoalBook.Eats (1:Int)).High)] 23,bl b53 [I ((agetS q0.CoalBook.Eats (0:Int)).Low),I ((agetS q0.CoalBook.Eats (0:Int)).High)] 23,bl b18 [I q0.CoalBook.Heap.Low,I q0.CoalBook.Heap.High] 23,bl b1 ([I q0.CoalBook.Heap.Low,I q0.CoalBook.Heap.High]++(sgE eSpan q0.CoalBook.Eats 2++(sg q0.CoalBook.Extra 3++[SL A2 q0.CoalBook.Days.length c3,I q0.CoalBook.Collier.Low,I q0.CoalBook.Collier.High,I q0.CoalBook.Brings,SL A5 q0.CoalBook.Dips.length c6,Value.map m8]))) 84,rd eCoalDay 3 A2 c3 q0.CoalBook.Days,rd eCoalDip 3 A5 c6 q0.CoalBook.Dips,mpo ekG iE m8 q0.costs_]:=S106
    refine reg<|p_all in3 rfl S106 fun b112 w113 S114=>p_st sz3 S114 (i:=0) rfl rfl (rfl:_=I x_3) rfl rfl fun w115 S116=>wp_nil ?_
    refine hB109 _ _ 1 _ S116 rfl fun w117 S118=>?_
    replace S118:St w101 Cr100 w117 [bl b112 [I x_3] 3,bx l97 oB99,bl b77 [I x_2] 3,bl b42 [I x_1] 3,bl b11 [Value.func (.yield l_) #[] #[]] 150,ga G_ z_3 y_3] [bl b88 [I ((agetS q0.CoalBook.Eats (1:Int)).Low),I ((agetS q0.CoalBook.Eats (1:Int)).High)] 23,bl b53 [I ((agetS q0.CoalBook.Eats (0:Int)).Low),I ((agetS q0.CoalBook.Eats (0:Int)).High)] 23,bl b18 [I q0.CoalBook.Heap.Low,I q0.CoalBook.Heap.High] 23,bl b1 ([I q0.CoalBook.Heap.Low,I q0.CoalBook.Heap.High]++(sgE eSpan q0.CoalBook.Eats 2++(sg q0.CoalBook.Extra 3++[SL A2 q0.CoalBook.Days.length c3,I q0.CoalBook.Collier.Low,I q0.CoalBook.Collier.High,I q0.CoalBook.Brings,SL A5 q0.CoalBook.Dips.length c6,Value.map m8]))) 84,rd eCoalDay 3 A2 c3 q0.CoalBook.Days,rd eCoalDip 3 A5 c6 q0.CoalBook.Dips,mpo ekG iE m8 q0.costs_]:=S118
    refine c_block<|c_seq<|reg<|p_fld fl84_0 rfl<|p_fld fl29_4 rfl<|p_ldP (vs:=[I q0.CoalBook.Collier.Low,I q0.CoalBook.Collier.High]) ty23 sz23 (S118.atP (i:=3) rfl) rfl rfl rfl ?_
    obtain ⟨r119,h120,H⟩:=bindS H
    refine p_cal (coal_all_ok h120) fu78 rfl ?_
    rintro _ w121 ⟨b123,rfl,k122,⟨o124,n125⟩,_⟩
    have S126:=S118.addNew k122 o124 n125
    refine wp_nil<|c_block ?_
    have S127:=S126.fix (i:=0) rfl
    obtain ⟨r128,h129,H⟩:=bindS H
    have S131:=S127.pk [0,2,3,4,5,1] (by decide) [0,1,2,3,4,5,6,7] rfl rfl
    have S130:=S131
    refine c_rangeG (α:=σ) (β:=Asr) (ε:=Int) (K:=[bl b123 [I q0.CoalBook.Collier.Low,I q0.CoalBook.Collier.High] 23]) (MK:=fun _=>[]) (XR:=fun _=>[bx l97 oB99]) (it:=fun {σ} yv s_=>coal_all_1 s_ q0.CoalBook.Collier yv) (enc:=yE0) (coal_book_truths_1_r118 q0 x_2 x_3 x_1 yv) [.ret] (fun z_4 y_4=>[bl b112 [I x_3] 3,bl b77 [I x_2] 3,bl b42 [I x_1] 3,bl b11 [Value.func (.yield l_) #[] #[]] 150,ga G_ z_4 y_4]) z_3 y_3 h129 (ent_some ho108 (X0:=(fun z_4 y_4=>[bl b112 [I x_3] 3,bl b77 [I x_2] 3,bl b42 [I x_1] 3,bl b11 [Value.func (.yield l_) #[] #[]] 150,ga G_ z_4 y_4]) z_3 y_3++[]) S130) rfl fu90 (fun w_ σ yv_ s_ s'_ l_ G_ A_ hH_ hG_ hk_ hd_ hy_=>(coal_all_1_ok hH_ hG_ (hk_ _ (mE (i:=0) rfl)) hd_ hy_ (Link.refl _ _)).mono fun en_ w3_ ⟨u_,he_,A'_,hu_,hk2_,ho_,hf_⟩=>⟨u_,he_,hk2_,A'_,ho_,hf_⟩) (mG [0] rfl) (fun _=>rfl) (cA (.inl rfl) nM) ?_ ?_ ?_
    ·intro l132 oR133 oB134 Cr135 x_4 z_4 y_4 w136 b137 c138 z139 PP140 H S141 hlk142 ho143 hB144 hN145 hX146
     unfold coal_book_truths_1_r118 at H
     replace S141:St w136 Cr135 w136 [bx l132 oR133,bl b112 [I x_3] 3,bl b77 [I x_2] 3,bl b42 [I x_1] 3,bl b11 [Value.func (.yield l_) #[] #[]] 150,ga G_ z_4 y_4] [bl b123 [I q0.CoalBook.Collier.Low,I q0.CoalBook.Collier.High] 23,bl b88 [I ((agetS q0.CoalBook.Eats (1:Int)).Low),I ((agetS q0.CoalBook.Eats (1:Int)).High)] 23,bl b53 [I ((agetS q0.CoalBook.Eats (0:Int)).Low),I ((agetS q0.CoalBook.Eats (0:Int)).High)] 23,bl b18 [I q0.CoalBook.Heap.Low,I q0.CoalBook.Heap.High] 23,bl b1 ([I q0.CoalBook.Heap.Low,I q0.CoalBook.Heap.High]++(sgE eSpan q0.CoalBook.Eats 2++(sg q0.CoalBook.Extra 3++[SL A2 q0.CoalBook.Days.length c3,I q0.CoalBook.Collier.Low,I q0.CoalBook.Collier.High,I q0.CoalBook.Brings,SL A5 q0.CoalBook.Dips.length c6,Value.map m8]))) 84,rd eCoalDay 3 A2 c3 q0.CoalBook.Days,rd eCoalDip 3 A5 c6 q0.CoalBook.Dips,mpo ekG iE m8 q0.costs_]:=S141
     refine reg<|p_aI rfl<|wp_nil ?_
     refine hB144 _ _ 0 _ S141 rfl fun w147 S148=>?_
     replace S148:St w136 Cr135 w147 [bx l132 oB134,bl b112 [I x_3] 3,bl b77 [I x_2] 3,bl b42 [I x_1] 3,bl b11 [Value.func (.yield l_) #[] #[]] 150,ga G_ z_4 y_4] [bl b123 [I q0.CoalBook.Collier.Low,I q0.CoalBook.Collier.High] 23,bl b88 [I ((agetS q0.CoalBook.Eats (1:Int)).Low),I ((agetS q0.CoalBook.Eats (1:Int)).High)] 23,bl b53 [I ((agetS q0.CoalBook.Eats (0:Int)).Low),I ((agetS q0.CoalBook.Eats (0:Int)).High)] 23,bl b18 [I q0.CoalBook.Heap.Low,I q0.CoalBook.Heap.High] 23,bl b1 ([I q0.CoalBook.Heap.Low,I q0.CoalBook.Heap.High]++(sgE eSpan q0.CoalBook.Eats 2++(sg q0.CoalBook.Extra 3++[SL A2 q0.CoalBook.Days.length c3,I q0.CoalBook.Collier.Low,I q0.CoalBook.Collier.High,I q0.CoalBook.Brings,SL A5 q0.CoalBook.Dips.length c6,Value.map m8]))) 84,rd eCoalDay 3 A2 c3 q0.CoalBook.Days,rd eCoalDip 3 A5 c6 q0.CoalBook.Dips,mpo ekG iE m8 q0.costs_]:=S148
     refine c_block<|c_seq<|reg<|p_ldA ty84 sz84 (S148.atP (i:=4) rfl) rfl rfl<|p_ld ty3 (S148.atX (i:=2) rfl) rfl rfl<|p_ld ty3 (S148.atX (i:=1) rfl) rfl rfl<|p_bldA (z:=[I 0,I 0]) (cs:=[I x_2,I x_3]) ba110 (rfl:_=[(0,I x_2),(1,I x_3)]) (by kernel_rfl)<|p_mI rfl ?_
     refine p_bld (cs:=[I x_2,I x_3,I x_4]++(sg (List.replicate 6 0) 6++sg (List.replicate 6 0) 6)) st113 (rfl:_=[(0,AG [I x_2,I x_3]),(1,I x_4)]) (by kernel_rfl)<|p_ld ty3 (S148.atX (i:=3) rfl) rfl rfl ?_
     obtain ⟨r149,h150,H⟩:=bindS H
     refine p_cal (coal_book_blown_ok h150 (S148.atP (i:=5) rfl) (S148.atP (i:=6) rfl) (S148.atP (i:=7) rfl)) fu79 rfl ?_
     rintro _ w151 ⟨b153,b154,b155,rfl,k152,⟨o156,n157⟩,⟨o158,n159⟩,⟨o160,n161⟩,_⟩
     have S162:=S148.callN k152 [bl b153 ([I q0.CoalBook.Heap.Low,I q0.CoalBook.Heap.High]++(sgE eSpan q0.CoalBook.Eats 2++(sg q0.CoalBook.Extra 3++[SL A2 q0.CoalBook.Days.length c3,I q0.CoalBook.Collier.Low,I q0.CoalBook.Collier.High,I q0.CoalBook.Brings,SL A5 q0.CoalBook.Dips.length c6,Value.map m8]))) 84,bl b154 (sg [x_2,x_3] 2++([I x_4]++(sg (List.replicate 6 0) 6++sg (List.replicate 6 0) 6))) 113,bl b155 [I x_1] 3] (cA ⟨o156,New.inL n157⟩ (cA ⟨o158,New.inL n159⟩ (cA ⟨o160,New.inL n161⟩ nM)))
     refine wp_nil<|c_block ?_
     obtain ⟨r163,h164,H⟩:=bindS H
     have S166:=S162.pk [1,2,3,4,5,0] (by decide) [0,1,2,3,4,5,6,7,8,9,10] rfl rfl
     have S165:=S166
     refine c_rangeG (α:=σ) (β:=Asr) (ε:=Coal_truth) (K:=[bl b155 [I x_1] 3,bl b154 (sg [x_2,x_3] 2++([I x_4]++(sg (List.replicate 6 0) 6++sg (List.replicate 6 0) 6))) 113,bl b153 ([I q0.CoalBook.Heap.Low,I q0.CoalBook.Heap.High]++(sgE eSpan q0.CoalBook.Eats 2++(sg q0.CoalBook.Extra 3++[SL A2 q0.CoalBook.Days.length c3,I q0.CoalBook.Collier.Low,I q0.CoalBook.Collier.High,I q0.CoalBook.Brings,SL A5 q0.CoalBook.Dips.length c6,Value.map m8]))) 84,rd eCoalDay 3 A2 c3 q0.CoalBook.Days,rd eCoalDip 3 A5 c6 q0.CoalBook.Dips,mpo ekG iE m8 q0.costs_]) (MK:=fun _=>[]) (XR:=fun _=>[bx l132 oB134]) (it:=fun {σ} yv s_=>coal_book_blown_1 s_ q0 (Coal_truth.mk [x_2,x_3] x_4 (List.replicate 6 0) (List.replicate 6 0)) x_1 yv) (enc:=yE1) (coal_book_truths_1_r117 yv) [.ret] (fun z_5 y_5=>[bl b112 [I x_3] 3,bl b77 [I x_2] 3,bl b42 [I x_1] 3,bl b11 [Value.func (.yield l_) #[] #[]] 150,ga G_ z_5 y_5]) z_4 y_4 h164 (ent_some ho143 (X0:=(fun z_5 y_5=>[bl b112 [I x_3] 3,bl b77 [I x_2] 3,bl b42 [I x_1] 3,bl b11 [Value.func (.yield l_) #[] #[]] 150,ga G_ z_5 y_5]) z_4 y_4++[]) S165) rfl fu91 (fun w_ σ yv_ s_ s'_ l_ G_ A_ hH_ hG_ hk_ hd_ hy_=>(coal_book_blown_1_ok hH_ hG_ (hk_ _ (mE (i:=0) rfl)) (hk_ _ (mE (i:=1) rfl)) (hk_ _ (mE (i:=2) rfl)) (hk_ _ (mE (i:=3) rfl)) (hk_ _ (mE (i:=4) rfl)) (hk_ _ (mE (i:=5) rfl)) hd_ hy_ (Link.refl _ _)).mono fun en_ w3_ ⟨u_,he_,A'_,hu_,hk2_,ho_,hf_⟩=>⟨u_,he_,hk2_,A'_,ho_,hf_⟩) (mG [2,1,0,8,9,10] rfl) (fun _=>rfl) (cA (.inl rfl) nM) ?_ ?_ ?_
     ·intro l167 oR168 oB169 Cr170 x_5 z_5 y_5 w171 b172 c173 z174 PP175 H S176 hlk177 ho178 hB179 hN180 hX181
      unfold coal_book_truths_1_r117 at H
      replace S176:St w171 Cr170 w171 [bx l167 oR168,bl b112 [I x_3] 3,bl b77 [I x_2] 3,bl b42 [I x_1] 3,bl b11 [Value.func (.yield l_) #[] #[]] 150,ga G_ z_5 y_5] [bl b153 ([I q0.CoalBook.Heap.Low,I q0.CoalBook.Heap.High]++(sgE eSpan q0.CoalBook.Eats 2++(sg q0.CoalBook.Extra 3++[SL A2 q0.CoalBook.Days.length c3,I q0.CoalBook.Collier.Low,I q0.CoalBook.Collier.High,I q0.CoalBook.Brings,SL A5 q0.CoalBook.Dips.length c6,Value.map m8]))) 84,bl b154 (sg [x_2,x_3] 2++([I x_4]++(sg (List.replicate 6 0) 6++sg (List.replicate 6 0) 6))) 113,bl b155 [I x_1] 3,bl b123 [I q0.CoalBook.Collier.Low,I q0.CoalBook.Collier.High] 23,bl b88 [I ((agetS q0.CoalBook.Eats (1:Int)).Low),I ((agetS q0.CoalBook.Eats (1:Int)).High)] 23,bl b53 [I ((agetS q0.CoalBook.Eats (0:Int)).Low),I ((agetS q0.CoalBook.Eats (0:Int)).High)] 23,bl b18 [I q0.CoalBook.Heap.Low,I q0.CoalBook.Heap.High] 23,bl b1 ([I q0.CoalBook.Heap.Low,I q0.CoalBook.Heap.High]++(sgE eSpan q0.CoalBook.Eats 2++(sg q0.CoalBook.Extra 3++[SL A2 q0.CoalBook.Days.length c3,I q0.CoalBook.Collier.Low,I q0.CoalBook.Collier.High,I q0.CoalBook.Brings,SL A5 q0.CoalBook.Dips.length c6,Value.map m8]))) 84,rd eCoalDay 3 A2 c3 q0.CoalBook.Days,rd eCoalDip 3 A5 c6 q0.CoalBook.Dips,mpo ekG iE m8 q0.costs_]:=S176
      refine reg<|p_allA in113 S176 fun b182 w183 S184=>?_
      refine p_stP (pre:=[]) (old:=sg (List.replicate 2 0) 2++([I 0]++(sg (List.replicate 6 0) 6++sg (List.replicate 6 0) 6))) (post:=[]) (vs:=sg x_5.eats_ 2++([I x_5.collier_]++(sg x_5.winds_ 6++sg x_5.coal_ 6))) sz113 S184 (i:=0) rfl rfl rfl rfl (rfl:_=AG (sg x_5.eats_ 2++([I x_5.collier_]++(sg x_5.winds_ 6++sg x_5.coal_ 6)))) rfl rfl rfl rfl fun w185 S186=>wp_nil ?_
      refine hB179 _ _ 1 _ S186 rfl fun w187 S188=>?_
      replace S188:St w171 Cr170 w187 [bl b182 (sg x_5.eats_ 2++([I x_5.collier_]++(sg x_5.winds_ 6++sg x_5.coal_ 6))) 113,bx l167 oB169,bl b112 [I x_3] 3,bl b77 [I x_2] 3,bl b42 [I x_1] 3,bl b11 [Value.func (.yield l_) #[] #[]] 150,ga G_ z_5 y_5] [bl b153 ([I q0.CoalBook.Heap.Low,I q0.CoalBook.Heap.High]++(sgE eSpan q0.CoalBook.Eats 2++(sg q0.CoalBook.Extra 3++[SL A2 q0.CoalBook.Days.length c3,I q0.CoalBook.Collier.Low,I q0.CoalBook.Collier.High,I q0.CoalBook.Brings,SL A5 q0.CoalBook.Dips.length c6,Value.map m8]))) 84,bl b154 (sg [x_2,x_3] 2++([I x_4]++(sg (List.replicate 6 0) 6++sg (List.replicate 6 0) 6))) 113,bl b155 [I x_1] 3,bl b123 [I q0.CoalBook.Collier.Low,I q0.CoalBook.Collier.High] 23,bl b88 [I ((agetS q0.CoalBook.Eats (1:Int)).Low),I ((agetS q0.CoalBook.Eats (1:Int)).High)] 23,bl b53 [I ((agetS q0.CoalBook.Eats (0:Int)).Low),I ((agetS q0.CoalBook.Eats (0:Int)).High)] 23,bl b18 [I q0.CoalBook.Heap.Low,I q0.CoalBook.Heap.High] 23,bl b1 ([I q0.CoalBook.Heap.Low,I q0.CoalBook.Heap.High]++(sgE eSpan q0.CoalBook.Eats 2++(sg q0.CoalBook.Extra 3++[SL A2 q0.CoalBook.Days.length c3,I q0.CoalBook.Collier.Low,I q0.CoalBook.Collier.High,I q0.CoalBook.Brings,SL A5 q0.CoalBook.Dips.length c6,Value.map m8]))) 84,rd eCoalDay 3 A2 c3 q0.CoalBook.Days,rd eCoalDip 3 A5 c6 q0.CoalBook.Dips,mpo ekG iE m8 q0.costs_]:=S188
      refine c_block<|c_seq<|reg<|p_ld ty150 (S188.atX (i:=5) rfl) rfl rfl<|p_ldA ty113 sz113 (S188.atX (i:=0) rfl) rfl rfl ?_
      obtain ⟨r189,h190,H⟩:=bindS H
      refine o_yieldG (x:=x_5) (b:=r189.1) (s2:=r189.2) h190 hy_ (Link.trans (Link.trans (Link.trans (Link.trans (Link.trans hl_ hlk37) hlk72) hlk107) hlk142) hlk177) S188 (j:=6) rfl (rfl:_=Value.func (.yield l_) #[] #[]) rfl fun A191 w192 S193=>?_
      refine p_not rfl<|wp_nil ?_
      refine c_cond rfl (fun c194=>?_) (fun c194=>?_)
      ·replace H:=condT c194 H
       refine c_ret ?_
       have S195:=S193.pk [1,2,3,4,5,6] (by decide) [0,1,2,3,4,5,6,7,8,9,10] rfl rfl
       exact hX181 0 .ret _ _ r189.2 A191 rfl S195 (sJ H)
      ·replace H:=condF c194 H
       refine c_skip ?_
       have S195:=S193.pk [1,2,3,4,5,6] (by decide) [0,1,2,3,4,5,6,7,8,9,10] rfl rfl
       exact hN180 _ _ r189.2 A191 S195 (sJ H)
     ·intro hc201
      intro l195 D196 o197 y198 w199 S200
      have S202:St w136 Cr135 w199 [bl b112 [I x_3] 3,bl b77 [I x_2] 3,bl b42 [I x_1] 3,bl b11 [Value.func (.yield l_) #[] #[]] 150,ga G_ r163.2 y198,bx l132 oB134] [bl b153 ([I q0.CoalBook.Heap.Low,I q0.CoalBook.Heap.High]++(sgE eSpan q0.CoalBook.Eats 2++(sg q0.CoalBook.Extra 3++[SL A2 q0.CoalBook.Days.length c3,I q0.CoalBook.Collier.Low,I q0.CoalBook.Collier.High,I q0.CoalBook.Brings,SL A5 q0.CoalBook.Dips.length c6,Value.map m8]))) 84,bl b154 (sg [x_2,x_3] 2++([I x_4]++(sg (List.replicate 6 0) 6++sg (List.replicate 6 0) 6))) 113,bl b155 [I x_1] 3,bl b123 [I q0.CoalBook.Collier.Low,I q0.CoalBook.Collier.High] 23,bl b88 [I ((agetS q0.CoalBook.Eats (1:Int)).Low),I ((agetS q0.CoalBook.Eats (1:Int)).High)] 23,bl b53 [I ((agetS q0.CoalBook.Eats (0:Int)).Low),I ((agetS q0.CoalBook.Eats (0:Int)).High)] 23,bl b18 [I q0.CoalBook.Heap.Low,I q0.CoalBook.Heap.High] 23,bl b1 ([I q0.CoalBook.Heap.Low,I q0.CoalBook.Heap.High]++(sgE eSpan q0.CoalBook.Eats 2++(sg q0.CoalBook.Extra 3++[SL A2 q0.CoalBook.Days.length c3,I q0.CoalBook.Collier.Low,I q0.CoalBook.Collier.High,I q0.CoalBook.Brings,SL A5 q0.CoalBook.Dips.length c6,Value.map m8]))) 84,rd eCoalDay 3 A2 c3 q0.CoalBook.Days,rd eCoalDip 3 A5 c6 q0.CoalBook.Dips,mpo ekG iE m8 q0.costs_]:=St.tail1 S200
      replace H:=condT (by rw [hc201]; rfl) H
      have S203:=S202.pk [5,0,1,2,3,4] (by decide) [3,4,5,6,7,8,9,10] rfl rfl
      exact hN145 _ _ r163.2 y198 S203 (sJ H)
     ·intro k203 c204 hk205 hc206
      rcases k203 with _ | k203
      ·obtain rfl:=sJ hk205
       intro l207 D208 o209 y210 w211 S212
       have S214:St w136 Cr135 w211 [bl b112 [I x_3] 3,bl b77 [I x_2] 3,bl b42 [I x_1] 3,bl b11 [Value.func (.yield l_) #[] #[]] 150,ga G_ r163.2 y210,bx l132 oB134] [bl b153 ([I q0.CoalBook.Heap.Low,I q0.CoalBook.Heap.High]++(sgE eSpan q0.CoalBook.Eats 2++(sg q0.CoalBook.Extra 3++[SL A2 q0.CoalBook.Days.length c3,I q0.CoalBook.Collier.Low,I q0.CoalBook.Collier.High,I q0.CoalBook.Brings,SL A5 q0.CoalBook.Dips.length c6,Value.map m8]))) 84,bl b154 (sg [x_2,x_3] 2++([I x_4]++(sg (List.replicate 6 0) 6++sg (List.replicate 6 0) 6))) 113,bl b155 [I x_1] 3,bl b123 [I q0.CoalBook.Collier.Low,I q0.CoalBook.Collier.High] 23,bl b88 [I ((agetS q0.CoalBook.Eats (1:Int)).Low),I ((agetS q0.CoalBook.Eats (1:Int)).High)] 23,bl b53 [I ((agetS q0.CoalBook.Eats (0:Int)).Low),I ((agetS q0.CoalBook.Eats (0:Int)).High)] 23,bl b18 [I q0.CoalBook.Heap.Low,I q0.CoalBook.Heap.High] 23,bl b1 ([I q0.CoalBook.Heap.Low,I q0.CoalBook.Heap.High]++(sgE eSpan q0.CoalBook.Eats 2++(sg q0.CoalBook.Extra 3++[SL A2 q0.CoalBook.Days.length c3,I q0.CoalBook.Collier.Low,I q0.CoalBook.Collier.High,I q0.CoalBook.Brings,SL A5 q0.CoalBook.Dips.length c6,Value.map m8]))) 84,rd eCoalDay 3 A2 c3 q0.CoalBook.Days,rd eCoalDip 3 A5 c6 q0.CoalBook.Dips,mpo ekG iE m8 q0.costs_]:=St.tail1 S212
       replace H:=condF (by rw [hc206]; rfl) H
       refine c_ret ?_
       have S215:=S214.pk [5,0,1,2,3,4] (by decide) [3,4,5,6,7,8,9,10] rfl rfl
       exact hX146 0 .ret _ _ r163.2 y210 rfl S215 (sJ H)
      ·cases hk205
    ·intro hc221
     intro l215 D216 o217 y218 w219 S220
     have S222:St w101 Cr100 w219 [bl b112 [I x_3] 3,bl b77 [I x_2] 3,bl b42 [I x_1] 3,bl b11 [Value.func (.yield l_) #[] #[]] 150,ga G_ r128.2 y218,bx l97 oB99] [bl b123 [I q0.CoalBook.Collier.Low,I q0.CoalBook.Collier.High] 23,bl b88 [I ((agetS q0.CoalBook.Eats (1:Int)).Low),I ((agetS q0.CoalBook.Eats (1:Int)).High)] 23,bl b53 [I ((agetS q0.CoalBook.Eats (0:Int)).Low),I ((agetS q0.CoalBook.Eats (0:Int)).High)] 23,bl b18 [I q0.CoalBook.Heap.Low,I q0.CoalBook.Heap.High] 23,bl b1 ([I q0.CoalBook.Heap.Low,I q0.CoalBook.Heap.High]++(sgE eSpan q0.CoalBook.Eats 2++(sg q0.CoalBook.Extra 3++[SL A2 q0.CoalBook.Days.length c3,I q0.CoalBook.Collier.Low,I q0.CoalBook.Collier.High,I q0.CoalBook.Brings,SL A5 q0.CoalBook.Dips.length c6,Value.map m8]))) 84,rd eCoalDay 3 A2 c3 q0.CoalBook.Days,rd eCoalDip 3 A5 c6 q0.CoalBook.Dips,mpo ekG iE m8 q0.costs_]:=St.tail1 S220
     replace H:=condT (by rw [hc221]; rfl) H
     have S223:=S222.pk [5,1,2,3,4] (by decide) [1,2,3,4,5,6,7] rfl rfl
     exact hN110 _ _ r128.2 y218 S223 (sJ H)
    ·intro k223 c224 hk225 hc226
     rcases k223 with _ | k223
     ·obtain rfl:=sJ hk225
      intro l227 D228 o229 y230 w231 S232
      have S234:St w101 Cr100 w231 [bl b112 [I x_3] 3,bl b77 [I x_2] 3,bl b42 [I x_1] 3,bl b11 [Value.func (.yield l_) #[] #[]] 150,ga G_ r128.2 y230,bx l97 oB99] [bl b123 [I q0.CoalBook.Collier.Low,I q0.CoalBook.Collier.High] 23,bl b88 [I ((agetS q0.CoalBook.Eats (1:Int)).Low),I ((agetS q0.CoalBook.Eats (1:Int)).High)] 23,bl b53 [I ((agetS q0.CoalBook.Eats (0:Int)).Low),I ((agetS q0.CoalBook.Eats (0:Int)).High)] 23,bl b18 [I q0.CoalBook.Heap.Low,I q0.CoalBook.Heap.High] 23,bl b1 ([I q0.CoalBook.Heap.Low,I q0.CoalBook.Heap.High]++(sgE eSpan q0.CoalBook.Eats 2++(sg q0.CoalBook.Extra 3++[SL A2 q0.CoalBook.Days.length c3,I q0.CoalBook.Collier.Low,I q0.CoalBook.Collier.High,I q0.CoalBook.Brings,SL A5 q0.CoalBook.Dips.length c6,Value.map m8]))) 84,rd eCoalDay 3 A2 c3 q0.CoalBook.Days,rd eCoalDip 3 A5 c6 q0.CoalBook.Dips,mpo ekG iE m8 q0.costs_]:=St.tail1 S232
      replace H:=condF (by rw [hc226]; rfl) H
      refine c_ret ?_
      have S235:=S234.pk [5,1,2,3,4] (by decide) [1,2,3,4,5,6,7] rfl rfl
      exact hX111 0 .ret _ _ r128.2 y230 rfl S235 (sJ H)
     ·cases hk225
   ·intro hc241
    intro l235 D236 o237 y238 w239 S240
    have S242:St w66 Cr65 w239 [bl b77 [I x_2] 3,bl b42 [I x_1] 3,bl b11 [Value.func (.yield l_) #[] #[]] 150,ga G_ r93.2 y238,bx l62 oB64] [bl b88 [I ((agetS q0.CoalBook.Eats (1:Int)).Low),I ((agetS q0.CoalBook.Eats (1:Int)).High)] 23,bl b53 [I ((agetS q0.CoalBook.Eats (0:Int)).Low),I ((agetS q0.CoalBook.Eats (0:Int)).High)] 23,bl b18 [I q0.CoalBook.Heap.Low,I q0.CoalBook.Heap.High] 23,bl b1 ([I q0.CoalBook.Heap.Low,I q0.CoalBook.Heap.High]++(sgE eSpan q0.CoalBook.Eats 2++(sg q0.CoalBook.Extra 3++[SL A2 q0.CoalBook.Days.length c3,I q0.CoalBook.Collier.Low,I q0.CoalBook.Collier.High,I q0.CoalBook.Brings,SL A5 q0.CoalBook.Dips.length c6,Value.map m8]))) 84,rd eCoalDay 3 A2 c3 q0.CoalBook.Days,rd eCoalDip 3 A5 c6 q0.CoalBook.Dips,mpo ekG iE m8 q0.costs_]:=St.tail1 S240
    replace H:=condT (by rw [hc241]; rfl) H
    have S243:=S242.pk [4,1,2,3] (by decide) [1,2,3,4,5,6] rfl rfl
    exact hN75 _ _ r93.2 y238 S243 (sJ H)
   ·intro k243 c244 hk245 hc246
    rcases k243 with _ | k243
    ·obtain rfl:=sJ hk245
     intro l247 D248 o249 y250 w251 S252
     have S254:St w66 Cr65 w251 [bl b77 [I x_2] 3,bl b42 [I x_1] 3,bl b11 [Value.func (.yield l_) #[] #[]] 150,ga G_ r93.2 y250,bx l62 oB64] [bl b88 [I ((agetS q0.CoalBook.Eats (1:Int)).Low),I ((agetS q0.CoalBook.Eats (1:Int)).High)] 23,bl b53 [I ((agetS q0.CoalBook.Eats (0:Int)).Low),I ((agetS q0.CoalBook.Eats (0:Int)).High)] 23,bl b18 [I q0.CoalBook.Heap.Low,I q0.CoalBook.Heap.High] 23,bl b1 ([I q0.CoalBook.Heap.Low,I q0.CoalBook.Heap.High]++(sgE eSpan q0.CoalBook.Eats 2++(sg q0.CoalBook.Extra 3++[SL A2 q0.CoalBook.Days.length c3,I q0.CoalBook.Collier.Low,I q0.CoalBook.Collier.High,I q0.CoalBook.Brings,SL A5 q0.CoalBook.Dips.length c6,Value.map m8]))) 84,rd eCoalDay 3 A2 c3 q0.CoalBook.Days,rd eCoalDip 3 A5 c6 q0.CoalBook.Dips,mpo ekG iE m8 q0.costs_]:=St.tail1 S252
     replace H:=condF (by rw [hc246]; rfl) H
     refine c_ret ?_
     have S255:=S254.pk [4,1,2,3] (by decide) [1,2,3,4,5,6] rfl rfl
     exact hX76 0 .ret _ _ r93.2 y250 rfl S255 (sJ H)
    ·cases hk245
  ·intro hc261
   intro l255 D256 o257 y258 w259 S260
   have S262:St w31 Cr30 w259 [bl b42 [I x_1] 3,bl b11 [Value.func (.yield l_) #[] #[]] 150,ga G_ r58.2 y258,bx l27 oB29] [bl b53 [I ((agetS q0.CoalBook.Eats (0:Int)).Low),I ((agetS q0.CoalBook.Eats (0:Int)).High)] 23,bl b18 [I q0.CoalBook.Heap.Low,I q0.CoalBook.Heap.High] 23,bl b1 ([I q0.CoalBook.Heap.Low,I q0.CoalBook.Heap.High]++(sgE eSpan q0.CoalBook.Eats 2++(sg q0.CoalBook.Extra 3++[SL A2 q0.CoalBook.Days.length c3,I q0.CoalBook.Collier.Low,I q0.CoalBook.Collier.High,I q0.CoalBook.Brings,SL A5 q0.CoalBook.Dips.length c6,Value.map m8]))) 84,rd eCoalDay 3 A2 c3 q0.CoalBook.Days,rd eCoalDip 3 A5 c6 q0.CoalBook.Dips,mpo ekG iE m8 q0.costs_]:=St.tail1 S260
   replace H:=condT (by rw [hc261]; rfl) H
   have S263:=S262.pk [3,1,2] (by decide) [1,2,3,4,5] rfl rfl
   exact hN40 _ _ r58.2 y258 S263 (sJ H)
  ·intro k263 c264 hk265 hc266
   rcases k263 with _ | k263
   ·obtain rfl:=sJ hk265
    intro l267 D268 o269 y270 w271 S272
    have S274:St w31 Cr30 w271 [bl b42 [I x_1] 3,bl b11 [Value.func (.yield l_) #[] #[]] 150,ga G_ r58.2 y270,bx l27 oB29] [bl b53 [I ((agetS q0.CoalBook.Eats (0:Int)).Low),I ((agetS q0.CoalBook.Eats (0:Int)).High)] 23,bl b18 [I q0.CoalBook.Heap.Low,I q0.CoalBook.Heap.High] 23,bl b1 ([I q0.CoalBook.Heap.Low,I q0.CoalBook.Heap.High]++(sgE eSpan q0.CoalBook.Eats 2++(sg q0.CoalBook.Extra 3++[SL A2 q0.CoalBook.Days.length c3,I q0.CoalBook.Collier.Low,I q0.CoalBook.Collier.High,I q0.CoalBook.Brings,SL A5 q0.CoalBook.Dips.length c6,Value.map m8]))) 84,rd eCoalDay 3 A2 c3 q0.CoalBook.Days,rd eCoalDip 3 A5 c6 q0.CoalBook.Dips,mpo ekG iE m8 q0.costs_]:=St.tail1 S272
    replace H:=condF (by rw [hc266]; rfl) H
    refine c_ret ?_
    have S275:=S274.pk [3,1,2] (by decide) [1,2,3,4,5] rfl rfl
    exact hX41 0 .ret _ _ r58.2 y270 rfl S275 (sJ H)
   ·cases hk265
 ·intro hc281
  intro l275 D276 o277 y278 w279 S280
  have S282:St w A_.fp w279 [bl b11 [Value.func (.yield l_) #[] #[]] 150,ga G_ r23.2 y278,bx D276 (.deferred (some []))] [bl b18 [I q0.CoalBook.Heap.Low,I q0.CoalBook.Heap.High] 23,bl b1 ([I q0.CoalBook.Heap.Low,I q0.CoalBook.Heap.High]++(sgE eSpan q0.CoalBook.Eats 2++(sg q0.CoalBook.Extra 3++[SL A2 q0.CoalBook.Days.length c3,I q0.CoalBook.Collier.Low,I q0.CoalBook.Collier.High,I q0.CoalBook.Brings,SL A5 q0.CoalBook.Dips.length c6,Value.map m8]))) 84,rd eCoalDay 3 A2 c3 q0.CoalBook.Days,rd eCoalDip 3 A5 c6 q0.CoalBook.Dips,mpo ekG iE m8 q0.costs_]:=St.tail1 S280
  replace H:=condT (by rw [hc281]; rfl) H
  obtain rfl:=sJ H
  refine leave_markN S282 (i:=2) rfl fun w283 S284=>?_
  show bodyPostM (Fr none) 0 Tryd.prog Tryd.f77 _ .normal _ _
  refine end_of (res0 rfl) ?_
  exact ⟨_,rfl,_,rfl,S284.keep,S284.atX (i:=1) rfl,fun b_ h_=>(S284.own _ (mE (i:=1) rfl) b_ h_).symm⟩
 ·intro k285 c286 hk287 hc288
  rcases k285 with _ | k285
  ·obtain rfl:=sJ hk287
   intro l289 D290 o291 y292 w293 S294
   have S296:St w A_.fp w293 [bl b11 [Value.func (.yield l_) #[] #[]] 150,ga G_ r23.2 y292,bx D290 (.deferred (some []))] [bl b18 [I q0.CoalBook.Heap.Low,I q0.CoalBook.Heap.High] 23,bl b1 ([I q0.CoalBook.Heap.Low,I q0.CoalBook.Heap.High]++(sgE eSpan q0.CoalBook.Eats 2++(sg q0.CoalBook.Extra 3++[SL A2 q0.CoalBook.Days.length c3,I q0.CoalBook.Collier.Low,I q0.CoalBook.Collier.High,I q0.CoalBook.Brings,SL A5 q0.CoalBook.Dips.length c6,Value.map m8]))) 84,rd eCoalDay 3 A2 c3 q0.CoalBook.Days,rd eCoalDip 3 A5 c6 q0.CoalBook.Dips,mpo ekG iE m8 q0.costs_]:=St.tail1 S294
   replace H:=condF (by rw [hc288]; rfl) H
   refine c_ret ?_
   refine leave_mark S296 (i:=2) rfl fun w297 S298=>?_
   obtain rfl:=sJ H
   show bodyPostM (Fr none) 0 Tryd.prog Tryd.f77 _ .ret _ _
   refine ret_of (res0 rfl) ?_
   exact ⟨_,rfl,_,rfl,S298.keep,S298.atX (i:=1) rfl,fun b_ h_=>(S298.own _ (mE (i:=1) rfl) b_ h_).symm⟩
  ·cases hk287
def coal_book_truths (a0:Coal_book):Option Unit:=
 some ()
set_option maxRecDepth 100000 in
theorem coal_book_truths_ok {a0:Coal_book}{A1:Option Addr}{c2:Nat}{A4:Option Addr}{c5:Nat}{m7:Option Nat}{w:World}{r:Unit} (H:coal_book_truths a0=some r) (h3:(rd eCoalDay 3 A1 c2 a0.CoalBook.Days).ok w) (h6:(rd eCoalDip 3 A4 c5 a0.CoalBook.Dips).ok w) (h8:(mpo ekG iE m7 a0.costs_).ok w):Calls Tryd.prog 51 #[AG ([I a0.CoalBook.Heap.Low,I a0.CoalBook.Heap.High]++(sgE eSpan a0.CoalBook.Eats 2++(sg a0.CoalBook.Extra 3++[SL A1 a0.CoalBook.Days.length c2,I a0.CoalBook.Collier.Low,I a0.CoalBook.Collier.High,I a0.CoalBook.Brings,SL A4 a0.CoalBook.Dips.length c5,Value.map m7])))] w fun en w_=>∃ u_,en=.returned u_∧∃ b_1:Nat,u_=vF (.func 77) #[] #[P b_1 0]∧Keep0 w w_∧((bl b_1 ([I a0.CoalBook.Heap.Low,I a0.CoalBook.Heap.High]++(sgE eSpan a0.CoalBook.Eats 2++(sg a0.CoalBook.Extra 3++[SL A1 a0.CoalBook.Days.length c2,I a0.CoalBook.Collier.Low,I a0.CoalBook.Collier.High,I a0.CoalBook.Brings,SL A4 a0.CoalBook.Dips.length c5,Value.map m7]))) 84).ok w_∧New w.heap.size (bl b_1 ([I a0.CoalBook.Heap.Low,I a0.CoalBook.Heap.High]++(sgE eSpan a0.CoalBook.Eats 2++(sg a0.CoalBook.Extra 3++[SL A1 a0.CoalBook.Days.length c2,I a0.CoalBook.Collier.Low,I a0.CoalBook.Collier.High,I a0.CoalBook.Brings,SL A4 a0.CoalBook.Dips.length c5,Value.map m7]))) 84))∧True:=by
 unfold coal_book_truths at H
 refine fn_of (n:=4) Tryd.func51 rfl rfl (lE rfl) ?_
 have S:=St.start w nF _ (cA h3 (cA h6 (cA h8 nM)))
 refine c_seq<|reg<|p_boxA rfl S fun b9 w10 S11=>p_asg (rfl:_=Value.nilFunc)<|wp_nil<|c_seq<|reg ?_
 refine o_fun (rfl:_=[]) (rfl:_=[P b9 0]) ?_
 refine p_asg (rfl:_=vF (.func 77) #[] #[P b9 0])<|wp_nil ?_
 obtain rfl:=sJ H
 refine c_ret ?_; show bodyPostM (Fr none) 0 Tryd.prog Tryd.f51 _ .ret _ _
 refine ret_of (res1 rfl (rvT (rfl:_=vF (.func 77) #[] #[P b9 0]))) ?_
 exact ⟨_,rfl,b9,rfl,S11.keep,⟨S11.atX (i:=0) rfl,S11.newX (i:=0) rfl⟩,trivial⟩
def coal_book_isTrue_r1 (x_1:Coal_truth) (z_1:Bool):Option (Bool×Nat×Bool):=
 some (false,1,true)
def coal_book_isTrue (a0:Coal_book):Option Bool:=
 (coal_book_truths a0).bind fun r15=>
 (coal_book_truths_1 (0,false) a0 (yvOf (coal_book_isTrue_r1))).bind fun r24=>
 bif (r24.1==0) then (some false)
 else (some r24.2)
set_option maxRecDepth 100000 in
theorem coal_book_isTrue_ok {a0:Coal_book}{A1:Option Addr}{c2:Nat}{A4:Option Addr}{c5:Nat}{m7:Option Nat}{w:World}{r:Bool} (H:coal_book_isTrue a0=some r) (h3:(rd eCoalDay 3 A1 c2 a0.CoalBook.Days).ok w) (h6:(rd eCoalDip 3 A4 c5 a0.CoalBook.Dips).ok w) (h8:(mpo ekG iE m7 a0.costs_).ok w):Calls Tryd.prog 36 #[AG ([I a0.CoalBook.Heap.Low,I a0.CoalBook.Heap.High]++(sgE eSpan a0.CoalBook.Eats 2++(sg a0.CoalBook.Extra 3++[SL A1 a0.CoalBook.Days.length c2,I a0.CoalBook.Collier.Low,I a0.CoalBook.Collier.High,I a0.CoalBook.Brings,SL A4 a0.CoalBook.Dips.length c5,Value.map m7])))] w (RetV w (B r)):=by
 unfold coal_book_isTrue at H
 refine fn_of (n:=6) Tryd.func36 rfl rfl (lE rfl) ?_
 have S:=St.start w nF _ (cA h3 (cA h6 (cA h8 nM)))
 refine c_seq<|reg<|p_boxA rfl S fun b9 w10 S11=>p_all in4 rfl S11 fun b12 w13 S14=>wp_nil<|c_seq<|c_seq<|reg<|p_ldA ty84 sz84 (S14.atX (i:=1) rfl) rfl rfl ?_
 obtain ⟨r15,h16,H⟩:=bindS H
 refine p_cal (coal_book_truths_ok h16 (S14.atP (i:=0) rfl) (S14.atP (i:=1) rfl) (S14.atP (i:=2) rfl)) fu51 rfl ?_
 rintro _ w17 ⟨b19,rfl,k18,⟨o20,n21⟩,_⟩
 have S22:=S14.addNew k18 o20 n21
 refine wp_nil<|c_block ?_
 have S23:=S22.fix (i:=0) rfl
 obtain ⟨r24,h25,H⟩:=bindS H
 have S26:=S23
 refine c_rangeG (α:=Bool) (β:=Unit) (ε:=Coal_truth) (K:=[bl b19 ([I a0.CoalBook.Heap.Low,I a0.CoalBook.Heap.High]++(sgE eSpan a0.CoalBook.Eats 2++(sg a0.CoalBook.Extra 3++[SL A1 a0.CoalBook.Days.length c2,I a0.CoalBook.Collier.Low,I a0.CoalBook.Collier.High,I a0.CoalBook.Brings,SL A4 a0.CoalBook.Dips.length c5,Value.map m7]))) 84,rd eCoalDay 3 A1 c2 a0.CoalBook.Days,rd eCoalDip 3 A4 c5 a0.CoalBook.Dips,mpo ekG iE m7 a0.costs_]) (MK:=Go.Fx.mark) (XR:=fun D27=>[]++[bx D27 (.deferred (some []))]) (it:=fun {σ} yv s_=>coal_book_truths_1 s_ a0 yv) (enc:=yE1) (coal_book_isTrue_r1) [.ret] (fun z_1 y_1=>[bl b12 [B z_1] 4,bl b9 ([I a0.CoalBook.Heap.Low,I a0.CoalBook.Heap.High]++(sgE eSpan a0.CoalBook.Eats 2++(sg a0.CoalBook.Extra 3++[SL A1 a0.CoalBook.Days.length c2,I a0.CoalBook.Collier.Low,I a0.CoalBook.Collier.High,I a0.CoalBook.Brings,SL A4 a0.CoalBook.Dips.length c5,Value.map m7]))) 84]) false () h25 (ent_none (X0:=(fun z_1 y_1=>[bl b12 [B z_1] 4,bl b9 ([I a0.CoalBook.Heap.Low,I a0.CoalBook.Heap.High]++(sgE eSpan a0.CoalBook.Eats 2++(sg a0.CoalBook.Extra 3++[SL A1 a0.CoalBook.Days.length c2,I a0.CoalBook.Collier.Low,I a0.CoalBook.Collier.High,I a0.CoalBook.Brings,SL A4 a0.CoalBook.Dips.length c5,Value.map m7]))) 84]) false ()++[]) S26) rfl fu77 (fun w_ σ yv_ s_ s'_ l_ G_ A_ hH_ hG_ hk_ hd_ hy_=>(coal_book_truths_1_ok hH_ hG_ (hk_ _ (mE (i:=0) rfl)) (hk_ _ (mE (i:=1) rfl)) (hk_ _ (mE (i:=2) rfl)) (hk_ _ (mE (i:=3) rfl)) hd_ hy_ (Link.refl _ _)).mono fun en_ w3_ ⟨u_,he_,A'_,hu_,hk2_,ho_,hf_⟩=>⟨u_,he_,hk2_,A'_,ho_,hf_⟩) (mG [0,1,2,3] rfl) (fun _=>rfl) (cA (.inl rfl) nM) ?_ ?_ ?_
 ·intro l28 oR29 oB30 Cr31 x_1 z_1 y_1 w32 b33 c34 z35 PP36 H S37 hlk38 ho39 hB40 hN41 hX42
  unfold coal_book_isTrue_r1 at H
  replace S37:St w32 Cr31 w32 [bx l28 oR29,bl b12 [B z_1] 4,bl b9 ([I a0.CoalBook.Heap.Low,I a0.CoalBook.Heap.High]++(sgE eSpan a0.CoalBook.Eats 2++(sg a0.CoalBook.Extra 3++[SL A1 a0.CoalBook.Days.length c2,I a0.CoalBook.Collier.Low,I a0.CoalBook.Collier.High,I a0.CoalBook.Brings,SL A4 a0.CoalBook.Dips.length c5,Value.map m7]))) 84] [bl b19 ([I a0.CoalBook.Heap.Low,I a0.CoalBook.Heap.High]++(sgE eSpan a0.CoalBook.Eats 2++(sg a0.CoalBook.Extra 3++[SL A1 a0.CoalBook.Days.length c2,I a0.CoalBook.Collier.Low,I a0.CoalBook.Collier.High,I a0.CoalBook.Brings,SL A4 a0.CoalBook.Dips.length c5,Value.map m7]))) 84,rd eCoalDay 3 A1 c2 a0.CoalBook.Days,rd eCoalDip 3 A4 c5 a0.CoalBook.Dips,mpo ekG iE m7 a0.costs_]:=S37
  refine c_skip ?_
  refine hB40 _ _ 0 _ S37 rfl fun w43 S44=>?_
  replace S44:St w32 Cr31 w43 [bx l28 oB30,bl b12 [B z_1] 4,bl b9 ([I a0.CoalBook.Heap.Low,I a0.CoalBook.Heap.High]++(sgE eSpan a0.CoalBook.Eats 2++(sg a0.CoalBook.Extra 3++[SL A1 a0.CoalBook.Days.length c2,I a0.CoalBook.Collier.Low,I a0.CoalBook.Collier.High,I a0.CoalBook.Brings,SL A4 a0.CoalBook.Dips.length c5,Value.map m7]))) 84] [bl b19 ([I a0.CoalBook.Heap.Low,I a0.CoalBook.Heap.High]++(sgE eSpan a0.CoalBook.Eats 2++(sg a0.CoalBook.Extra 3++[SL A1 a0.CoalBook.Days.length c2,I a0.CoalBook.Collier.Low,I a0.CoalBook.Collier.High,I a0.CoalBook.Brings,SL A4 a0.CoalBook.Dips.length c5,Value.map m7]))) 84,rd eCoalDay 3 A1 c2 a0.CoalBook.Days,rd eCoalDip 3 A4 c5 a0.CoalBook.Dips,mpo ekG iE m7 a0.costs_]:=S44
  refine c_block<|c_seq<|reg<|p_st sz4 S44 (i:=1) rfl rfl (rfl:_=B true) rfl rfl fun w45 S46=>wp_nil ?_
  refine c_ret ?_
  exact hX42 0 .ret _ _ true () rfl S46 (sJ H)
 ·intro hc53
  intro l47 D48 o49 y50 w51 S52
  have S54:St w nF w51 [bl b12 [B r24.2] 4,bl b9 ([I a0.CoalBook.Heap.Low,I a0.CoalBook.Heap.High]++(sgE eSpan a0.CoalBook.Eats 2++(sg a0.CoalBook.Extra 3++[SL A1 a0.CoalBook.Days.length c2,I a0.CoalBook.Collier.Low,I a0.CoalBook.Collier.High,I a0.CoalBook.Brings,SL A4 a0.CoalBook.Dips.length c5,Value.map m7]))) 84,bx D48 (.deferred (some []))] [bl b19 ([I a0.CoalBook.Heap.Low,I a0.CoalBook.Heap.High]++(sgE eSpan a0.CoalBook.Eats 2++(sg a0.CoalBook.Extra 3++[SL A1 a0.CoalBook.Days.length c2,I a0.CoalBook.Collier.Low,I a0.CoalBook.Collier.High,I a0.CoalBook.Brings,SL A4 a0.CoalBook.Dips.length c5,Value.map m7]))) 84,rd eCoalDay 3 A1 c2 a0.CoalBook.Days,rd eCoalDip 3 A4 c5 a0.CoalBook.Dips,mpo ekG iE m7 a0.costs_]:=St.tail1 S52
  replace H:=condT (by rw [hc53]; rfl) H
  refine c_seq<|reg<|p_st sz4 S54 (i:=0) rfl rfl (rfl:_=B false) rfl rfl fun w55 S56=>wp_nil ?_
  refine c_ret ?_
  refine leave_mark S56 (i:=2) rfl fun w57 S58=>?_
  obtain rfl:=sJ H
  show bodyPostM (Fr none) 0 Tryd.prog Tryd.f36 _ .ret _ _
  refine ret_of (res1 rfl (rvC rfl ty4 (S58.atX (i:=0) rfl))) ?_
  exact ⟨_,rfl,rfl,S58.keep⟩
 ·intro k59 c60 hk61 hc62
  rcases k59 with _ | k59
  ·obtain rfl:=sJ hk61
   intro l63 D64 o65 y66 w67 S68
   have S70:St w nF w67 [bl b12 [B r24.2] 4,bl b9 ([I a0.CoalBook.Heap.Low,I a0.CoalBook.Heap.High]++(sgE eSpan a0.CoalBook.Eats 2++(sg a0.CoalBook.Extra 3++[SL A1 a0.CoalBook.Days.length c2,I a0.CoalBook.Collier.Low,I a0.CoalBook.Collier.High,I a0.CoalBook.Brings,SL A4 a0.CoalBook.Dips.length c5,Value.map m7]))) 84,bx D64 (.deferred (some []))] [bl b19 ([I a0.CoalBook.Heap.Low,I a0.CoalBook.Heap.High]++(sgE eSpan a0.CoalBook.Eats 2++(sg a0.CoalBook.Extra 3++[SL A1 a0.CoalBook.Days.length c2,I a0.CoalBook.Collier.Low,I a0.CoalBook.Collier.High,I a0.CoalBook.Brings,SL A4 a0.CoalBook.Dips.length c5,Value.map m7]))) 84,rd eCoalDay 3 A1 c2 a0.CoalBook.Days,rd eCoalDip 3 A4 c5 a0.CoalBook.Dips,mpo ekG iE m7 a0.costs_]:=St.tail1 S68
   replace H:=condF (by rw [hc62]; rfl) H
   refine c_ret ?_
   refine leave_mark S70 (i:=2) rfl fun w71 S72=>?_
   obtain rfl:=sJ H
   show bodyPostM (Fr none) 0 Tryd.prog Tryd.f36 _ .ret _ _
   refine ret_of (res1 rfl (rvC rfl ty4 (S72.atX (i:=0) rfl))) ?_
   exact ⟨_,rfl,rfl,S72.keep⟩
  ·cases hk61
def coal_asked (a0:CoalBook) (a1:Bool):Option (Coal_book×Int):=
 (coal_Check a0).bind fun r14=>
 bif (r14 != 0) then (some ((Coal_book.mk (CoalBook.mk (Span.mk 0 0) (List.replicate 2 (Span.mk 0 0)) (List.replicate 3 0) ([]:List CoalDay) (Span.mk 0 0) 0 ([]:List CoalDip)) ([]:List (Coal_gust×Int))),r14))
 else (bif !a1 then (some ((Coal_book.mk (CoalBook.mk (Span.mk 0 0) (List.replicate 2 (Span.mk 0 0)) (List.replicate 3 0) ([]:List CoalDay) (Span.mk 0 0) 0 ([]:List CoalDip)) ([]:List (Coal_gust×Int))),61))
 else ((coal_opened a0 ([]:List _)).bind fun r24=>
 (coal_book_isTrue (Coal_book.mk (CoalBook.mk r24.CoalBook.Heap r24.CoalBook.Eats r24.CoalBook.Extra a0.Days r24.CoalBook.Collier r24.CoalBook.Brings r24.CoalBook.Dips) r24.costs_)).bind fun r41=>
 bif !r41 then (some ((Coal_book.mk (CoalBook.mk r24.CoalBook.Heap r24.CoalBook.Eats r24.CoalBook.Extra a0.Days r24.CoalBook.Collier r24.CoalBook.Brings r24.CoalBook.Dips) r24.costs_),62))
 else (some ((Coal_book.mk (CoalBook.mk r24.CoalBook.Heap r24.CoalBook.Eats r24.CoalBook.Extra a0.Days r24.CoalBook.Collier r24.CoalBook.Brings r24.CoalBook.Dips) r24.costs_),0))))
set_option maxRecDepth 100000 in
theorem coal_asked_ok {a0:CoalBook}{a1:Bool}{A1:Option Addr}{c2:Nat}{A4:Option Addr}{c5:Nat}{w:World}{r:Coal_book×Int} (H:coal_asked a0 a1=some r) (h3:(rd eCoalDay 3 A1 c2 a0.Days).ok w) (h6:(rd eCoalDip 3 A4 c5 a0.Dips).ok w) (hg7:(gW0).ok w):Calls Tryd.prog 44 #[AG ([I a0.Heap.Low,I a0.Heap.High]++(sgE eSpan a0.Eats 2++(sg a0.Extra 3++[SL A1 a0.Days.length c2,I a0.Collier.Low,I a0.Collier.High,I a0.Brings,SL A4 a0.Dips.length c5]))),B a1] w fun en w_=>∃ u_,en=.returned u_∧∃ A_1:Option Addr,∃ c_2:Nat,∃ A_3:Option Addr,∃ c_4:Nat,∃ m_5:Option Nat,u_=TU [AG ([I r.1.CoalBook.Heap.Low,I r.1.CoalBook.Heap.High]++(sgE eSpan r.1.CoalBook.Eats 2++(sg r.1.CoalBook.Extra 3++[SL A_1 r.1.CoalBook.Days.length c_2,I r.1.CoalBook.Collier.Low,I r.1.CoalBook.Collier.High,I r.1.CoalBook.Brings,SL A_3 r.1.CoalBook.Dips.length c_4,Value.map m_5]))),I r.2]∧Keep0 w w_∧((rd eCoalDay 3 A_1 c_2 r.1.CoalBook.Days).ok w_∧Al w [rd eCoalDay 3 A1 c2 a0.Days,rd eCoalDip 3 A4 c5 a0.Dips] (rd eCoalDay 3 A_1 c_2 r.1.CoalBook.Days))∧((rd eCoalDip 3 A_3 c_4 r.1.CoalBook.Dips).ok w_∧New w.heap.size (rd eCoalDip 3 A_3 c_4 r.1.CoalBook.Dips))∧((mpo ekG iE m_5 r.1.costs_).ok w_∧New w.heap.size (mpo ekG iE m_5 r.1.costs_))∧True:=by
 unfold coal_asked at H
 refine fn_of (n:=24) Tryd.func44 rfl rfl (lE rfl) ?_
 have S:=St.start w nF _ (cA h3 (cA h6 (cA hg7 nM)))
 refine c_seq<|reg<|p_boxA rfl S fun b8 w9 S10=>p_allA in84 S10 fun b11 w12 S13=>p_aI rfl<|wp_nil<|c_seq<|c_seq<|reg<|p_ldA ty29 sz29 (S13.atX (i:=1) rfl) rfl rfl ?_
 obtain ⟨r14,h15,H⟩:=bindS H
 refine p_cv (coal_Check_ok h15 (S13.atP (i:=0) rfl) (S13.atP (i:=1) rfl)) fu30 rfl S13 fun w16 S17=>p_aI rfl<|wp_nil<|c_seq<|reg<|p_mI rfl<|p_cmp rfl rfl rfl<|wp_nil ?_
 refine c_cond rfl (fun c18=>?_) (fun c18=>?_)
 ·replace H:=condT c18 H
  refine c_seq<|reg<|p_bld (cs:=[I 0,I 0]++(sgE eSpan (List.replicate 2 (Span.mk 0 0)) 2++(sg (List.replicate 3 0) 3++[SL none 0 0,I 0,I 0,I 0,SL none 0 0,Value.map none]))) st84 (rfl:_=[]) (by kernel_rfl)<|p_mI rfl ?_
  refine p_stP (pre:=[]) (old:=[I 0,I 0]++(sgE eSpan (List.replicate 2 (Span.mk 0 0)) 2++(sg (List.replicate 3 0) 3++[SL none 0 0,I 0,I 0,I 0,SL none 0 0,Value.map none]))) (post:=[]) (vs:=[I 0,I 0]++(sgE eSpan (List.replicate 2 (Span.mk 0 0)) 2++(sg (List.replicate 3 0) 3++[SL none 0 0,I 0,I 0,I 0,SL none 0 0,Value.map none]))) sz84 S17 (i:=0) rfl rfl rfl rfl (rfl:_=AG ([I 0,I 0]++(sgE eSpan (List.replicate 2 (Span.mk 0 0)) 2++(sg (List.replicate 3 0) 3++[SL none 0 0,I 0,I 0,I 0,SL none 0 0,Value.map none])))) rfl rfl rfl rfl fun w19 S20=>?_
  refine p_aI rfl<|wp_nil ?_
  obtain rfl:=sJ H
  refine c_ret ?_; show bodyPostM (Fr none) 0 Tryd.prog Tryd.f44 _ .ret _ _
  refine ret_of (res2 rfl (rvA rfl ty84 sz84 (S20.atX (i:=0) rfl) rfl) (rvT (rfl:_=I r14))) ?_
  exact ⟨_,rfl,none,0,none,0,none,rfl,S20.keep,⟨rd_nil (Nat.zero_le _),Al.nil⟩,⟨rd_nil (Nat.zero_le _),New.nil⟩,⟨mpo_none,New.mpoN⟩,trivial⟩
 ·replace H:=condF c18 H
  refine c_skip<|c_seq<|c_seq<|reg<|p_mB rfl<|p_not rfl<|wp_nil ?_
  refine c_cond rfl (fun c21=>?_) (fun c21=>?_)
  ·replace H:=condT c21 H
   refine c_seq<|reg<|p_bld (cs:=[I 0,I 0]++(sgE eSpan (List.replicate 2 (Span.mk 0 0)) 2++(sg (List.replicate 3 0) 3++[SL none 0 0,I 0,I 0,I 0,SL none 0 0,Value.map none]))) st84 (rfl:_=[]) (by kernel_rfl) ?_
   refine p_stP (pre:=[]) (old:=[I 0,I 0]++(sgE eSpan (List.replicate 2 (Span.mk 0 0)) 2++(sg (List.replicate 3 0) 3++[SL none 0 0,I 0,I 0,I 0,SL none 0 0,Value.map none]))) (post:=[]) (vs:=[I 0,I 0]++(sgE eSpan (List.replicate 2 (Span.mk 0 0)) 2++(sg (List.replicate 3 0) 3++[SL none 0 0,I 0,I 0,I 0,SL none 0 0,Value.map none]))) sz84 S17 (i:=0) rfl rfl rfl rfl (rfl:_=AG ([I 0,I 0]++(sgE eSpan (List.replicate 2 (Span.mk 0 0)) 2++(sg (List.replicate 3 0) 3++[SL none 0 0,I 0,I 0,I 0,SL none 0 0,Value.map none])))) rfl rfl rfl rfl fun w22 S23=>?_
   refine p_aI rfl<|wp_nil ?_
   obtain rfl:=sJ H
   refine c_ret ?_; show bodyPostM (Fr none) 0 Tryd.prog Tryd.f44 _ .ret _ _
   refine ret_of (res2 rfl (rvA rfl ty84 sz84 (S23.atX (i:=0) rfl) rfl) (rvT (rfl:_=I 61))) ?_
   exact ⟨_,rfl,none,0,none,0,none,rfl,S23.keep,⟨rd_nil (Nat.zero_le _),Al.nil⟩,⟨rd_nil (Nat.zero_le _),New.nil⟩,⟨mpo_none,New.mpoN⟩,trivial⟩
  ·replace H:=condF c21 H
   refine c_skip<|c_seq<|reg<|p_ldA ty29 sz29 (S17.atX (i:=1) rfl) rfl rfl ?_
   obtain ⟨r24,h25,H⟩:=bindS H
   refine p_cal (coal_opened_ok h25 (S17.atP (i:=0) rfl) (S17.atP (i:=1) rfl) (rd_nil (Nat.zero_le _)) (S17.atP (i:=2) rfl)) fu35 rfl ?_
   rintro _ w26 ⟨A28,c29,m30,rfl,k27,⟨o31,n32⟩,⟨o33,n34⟩,_⟩
   have S35:=S17.callN k27 [rd eCoalDip 3 A28 c29 r24.CoalBook.Dips,mp ekG iE m30 r24.costs_] (cA ⟨o31,New.inL n32⟩ (cA ⟨o33,New.inL n34⟩ nM))
   refine p_allA in84 S35 fun b36 w37 S38=>?_
   refine p_stP (pre:=[]) (old:=[I 0,I 0]++(sgE eSpan (List.replicate 2 (Span.mk 0 0)) 2++(sg (List.replicate 3 0) 3++[SL none 0 0,I 0,I 0,I 0,SL none 0 0,Value.map none]))) (post:=[]) (vs:=[I r24.CoalBook.Heap.Low,I r24.CoalBook.Heap.High]++(sgE eSpan r24.CoalBook.Eats 2++(sg r24.CoalBook.Extra 3++[SL A1 a0.Days.length c2,I r24.CoalBook.Collier.Low,I r24.CoalBook.Collier.High,I r24.CoalBook.Brings,SL A28 r24.CoalBook.Dips.length c29,Value.map (some m30)]))) sz84 S38 (i:=0) rfl rfl rfl rfl (rfl:_=AG ([I r24.CoalBook.Heap.Low,I r24.CoalBook.Heap.High]++(sgE eSpan r24.CoalBook.Eats 2++(sg r24.CoalBook.Extra 3++[SL A1 a0.Days.length c2,I r24.CoalBook.Collier.Low,I r24.CoalBook.Collier.High,I r24.CoalBook.Brings,SL A28 r24.CoalBook.Dips.length c29,Value.map (some m30)])))) rfl rfl rfl rfl fun w39 S40=>?_
   refine wp_nil<|c_seq<|c_seq<|reg<|p_ldA ty84 sz84 (S40.atX (i:=0) rfl) rfl rfl ?_
   obtain ⟨r41,h42,H⟩:=bindS H
   refine p_cv (coal_book_isTrue_ok h42 (S40.atP (i:=2) rfl) (S40.atP (i:=0) rfl) (mpo_some (S40.atP (i:=1) rfl))) fu36 rfl S40 fun w43 S44=>p_not rfl<|wp_nil ?_
   refine c_cond rfl (fun c45=>?_) (fun c45=>?_)
   ·replace H:=condT c45 H
    refine c_seq<|reg<|p_ldA ty84 sz84 (S44.atX (i:=0) rfl) rfl rfl ?_
    refine p_stP (pre:=[]) (old:=[I 0,I 0]++(sgE eSpan (List.replicate 2 (Span.mk 0 0)) 2++(sg (List.replicate 3 0) 3++[SL none 0 0,I 0,I 0,I 0,SL none 0 0,Value.map none]))) (post:=[]) (vs:=[I r24.CoalBook.Heap.Low,I r24.CoalBook.Heap.High]++(sgE eSpan r24.CoalBook.Eats 2++(sg r24.CoalBook.Extra 3++[SL A1 a0.Days.length c2,I r24.CoalBook.Collier.Low,I r24.CoalBook.Collier.High,I r24.CoalBook.Brings,SL A28 r24.CoalBook.Dips.length c29,Value.map (some m30)]))) sz84 S44 (i:=1) rfl rfl rfl rfl (rfl:_=AG ([I r24.CoalBook.Heap.Low,I r24.CoalBook.Heap.High]++(sgE eSpan r24.CoalBook.Eats 2++(sg r24.CoalBook.Extra 3++[SL A1 a0.Days.length c2,I r24.CoalBook.Collier.Low,I r24.CoalBook.Collier.High,I r24.CoalBook.Brings,SL A28 r24.CoalBook.Dips.length c29,Value.map (some m30)])))) rfl rfl rfl rfl fun w46 S47=>?_
    refine p_aI rfl<|wp_nil ?_
    obtain rfl:=sJ H
    refine c_ret ?_; show bodyPostM (Fr none) 0 Tryd.prog Tryd.f44 _ .ret _ _
    refine ret_of (res2 rfl (rvA rfl ty84 sz84 (S47.atX (i:=1) rfl) rfl) (rvT (rfl:_=I 62))) ?_
    exact ⟨_,rfl,A1,c2,A28,c29,(some m30),rfl,S47.keep,⟨(S47.atP (i:=2) rfl),Al.self (i:=0) rfl⟩,⟨(S47.atP (i:=0) rfl),(New.mono n32 S17.keep.size)⟩,⟨mpo_some (S47.atP (i:=1) rfl),New.mpoS (New.mono n34 S17.keep.size)⟩,trivial⟩
   ·replace H:=condF c45 H
    refine c_skip<|c_seq<|reg<|p_ldA ty84 sz84 (S44.atX (i:=0) rfl) rfl rfl ?_
    refine p_stP (pre:=[]) (old:=[I 0,I 0]++(sgE eSpan (List.replicate 2 (Span.mk 0 0)) 2++(sg (List.replicate 3 0) 3++[SL none 0 0,I 0,I 0,I 0,SL none 0 0,Value.map none]))) (post:=[]) (vs:=[I r24.CoalBook.Heap.Low,I r24.CoalBook.Heap.High]++(sgE eSpan r24.CoalBook.Eats 2++(sg r24.CoalBook.Extra 3++[SL A1 a0.Days.length c2,I r24.CoalBook.Collier.Low,I r24.CoalBook.Collier.High,I r24.CoalBook.Brings,SL A28 r24.CoalBook.Dips.length c29,Value.map (some m30)]))) sz84 S44 (i:=1) rfl rfl rfl rfl (rfl:_=AG ([I r24.CoalBook.Heap.Low,I r24.CoalBook.Heap.High]++(sgE eSpan r24.CoalBook.Eats 2++(sg r24.CoalBook.Extra 3++[SL A1 a0.Days.length c2,I r24.CoalBook.Collier.Low,I r24.CoalBook.Collier.High,I r24.CoalBook.Brings,SL A28 r24.CoalBook.Dips.length c29,Value.map (some m30)])))) rfl rfl rfl rfl fun w48 S49=>?_
    refine p_aI rfl<|wp_nil ?_
    obtain rfl:=sJ H
    refine c_ret ?_; show bodyPostM (Fr none) 0 Tryd.prog Tryd.f44 _ .ret _ _
    refine ret_of (res2 rfl (rvA rfl ty84 sz84 (S49.atX (i:=1) rfl) rfl) (rvT (rfl:_=I 0))) ?_
    exact ⟨_,rfl,A1,c2,A28,c29,(some m30),rfl,S49.keep,⟨(S49.atP (i:=2) rfl),Al.self (i:=0) rfl⟩,⟨(S49.atP (i:=0) rfl),(New.mono n32 S17.keep.size)⟩,⟨mpo_some (S49.atP (i:=1) rfl),New.mpoS (New.mono n34 S17.keep.size)⟩,trivial⟩
structure Coal_number where
 of_:Coal_truth→Option Int
def coal_book_span_r1 (a1:Coal_number) (x_1:Coal_truth) (z_1:Int×Int×Bool):Option (Bool×Nat×(Int×Int×Bool)):=
 (a1.of_ x_1).bind fun r68=>
 bif z_1.2.2 then (some (true,0,((if r68 < r68 then r68 else r68),(if r68 > r68 then r68 else r68),false)))
 else (some (true,0,((if r68 < z_1.1 then r68 else z_1.1),(if r68 > z_1.2.1 then r68 else z_1.2.1),z_1.2.2)))
def coal_book_span (a0:Coal_book) (a1:Coal_number):Option Span:=
 (coal_book_truths a0).bind fun r33=>
 (coal_book_truths_1 (0,(0,0,true)) a0 (yvOf (coal_book_span_r1 a1))).bind fun r42=>
 some (Span.mk r42.2.1 r42.2.2.1)
set_option maxRecDepth 100000 in
theorem coal_book_span_ok {a0:Coal_book}{a1:Coal_number}{A1:Option Addr}{c2:Nat}{A4:Option Addr}{c5:Nat}{m7:Option Nat}{f9:Nat}{cp10:List Value}{w:World}{r:Span} (H:coal_book_span a0 a1=some r) (h3:(rd eCoalDay 3 A1 c2 a0.CoalBook.Days).ok w) (h6:(rd eCoalDip 3 A4 c5 a0.CoalBook.Dips).ok w) (h8:(mpo ekG iE m7 a0.costs_).ok w) (hF11:funOf Tryd.prog f9=true) (hw12:∀ (y13:Coal_truth) (w15:World) (y14:Int),Keep0 w w15→a1.of_ y13=some y14→Calls Tryd.prog f9 (List.toArray ([AG (sg y13.eats_ 2++([I y13.collier_]++(sg y13.winds_ 6++sg y13.coal_ 6)))]++cp10)) w15 (RetV w15 (I y14))):Calls Tryd.prog 46 #[AG ([I a0.CoalBook.Heap.Low,I a0.CoalBook.Heap.High]++(sgE eSpan a0.CoalBook.Eats 2++(sg a0.CoalBook.Extra 3++[SL A1 a0.CoalBook.Days.length c2,I a0.CoalBook.Collier.Low,I a0.CoalBook.Collier.High,I a0.CoalBook.Brings,SL A4 a0.CoalBook.Dips.length c5,Value.map m7]))),AG [vF (.func f9) #[] cp10.toArray]] w (RetV w (AG [I r.Low,I r.High])):=by
 unfold coal_book_span at H
 refine fn_of (n:=30) Tryd.func46 rfl rfl (lE rfl) ?_
 have S:=St.start w nF _ (cA h3 (cA h6 (cA h8 nM)))
 refine c_seq<|reg<|p_boxA rfl S fun b16 w17 S18=>p_boxA rfl S18 fun b19 w20 S21=>p_allA in23 S21 fun b22 w23 S24=>wp_nil<|c_seq<|reg<|p_all in4 rfl S24 fun b25 w26 S27=>p_st sz4 S27 (i:=0) rfl rfl (rfl:_=B true) rfl rfl fun w28 S29=>wp_nil<|c_seq<|reg<|p_allA in23 S29 fun b30 w31 S32=>wp_nil<|c_seq<|c_seq<|reg<|p_ldA ty84 sz84 (S32.atX (i:=4) rfl) rfl rfl ?_
 obtain ⟨r33,h34,H⟩:=bindS H
 refine p_cal (coal_book_truths_ok h34 (S32.atP (i:=0) rfl) (S32.atP (i:=1) rfl) (S32.atP (i:=2) rfl)) fu51 rfl ?_
 rintro _ w35 ⟨b37,rfl,k36,⟨o38,n39⟩,_⟩
 have S40:=S32.addNew k36 o38 n39
 refine wp_nil<|c_block ?_
 have S41:=S40.fix (i:=0) rfl
 obtain ⟨r42,h43,H⟩:=bindS H
 have S44:=S41
 refine c_rangeG (α:=Int×Int×Bool) (β:=Unit) (ε:=Coal_truth) (K:=[bl b37 ([I a0.CoalBook.Heap.Low,I a0.CoalBook.Heap.High]++(sgE eSpan a0.CoalBook.Eats 2++(sg a0.CoalBook.Extra 3++[SL A1 a0.CoalBook.Days.length c2,I a0.CoalBook.Collier.Low,I a0.CoalBook.Collier.High,I a0.CoalBook.Brings,SL A4 a0.CoalBook.Dips.length c5,Value.map m7]))) 84,rd eCoalDay 3 A1 c2 a0.CoalBook.Days,rd eCoalDip 3 A4 c5 a0.CoalBook.Dips,mpo ekG iE m7 a0.costs_]) (MK:=Go.Fx.mark) (XR:=fun D45=>[]++[bx D45 (.deferred (some []))]) (it:=fun {σ} yv s_=>coal_book_truths_1 s_ a0 yv) (enc:=yE1) (coal_book_span_r1 a1) [] (fun z_1 y_1=>[bl b30 [I z_1.1,I z_1.2.1] 23,bl b25 [B z_1.2.2] 4,bl b22 [I 0,I 0] 23,bl b19 [vF (.func f9) #[] cp10.toArray] 103,bl b16 ([I a0.CoalBook.Heap.Low,I a0.CoalBook.Heap.High]++(sgE eSpan a0.CoalBook.Eats 2++(sg a0.CoalBook.Extra 3++[SL A1 a0.CoalBook.Days.length c2,I a0.CoalBook.Collier.Low,I a0.CoalBook.Collier.High,I a0.CoalBook.Brings,SL A4 a0.CoalBook.Dips.length c5,Value.map m7]))) 84]) (0,0,true) () h43 (ent_none (X0:=(fun z_1 y_1=>[bl b30 [I z_1.1,I z_1.2.1] 23,bl b25 [B z_1.2.2] 4,bl b22 [I 0,I 0] 23,bl b19 [vF (.func f9) #[] cp10.toArray] 103,bl b16 ([I a0.CoalBook.Heap.Low,I a0.CoalBook.Heap.High]++(sgE eSpan a0.CoalBook.Eats 2++(sg a0.CoalBook.Extra 3++[SL A1 a0.CoalBook.Days.length c2,I a0.CoalBook.Collier.Low,I a0.CoalBook.Collier.High,I a0.CoalBook.Brings,SL A4 a0.CoalBook.Dips.length c5,Value.map m7]))) 84]) (0,0,true) ()++[]) S44) rfl fu77 (fun w_ σ yv_ s_ s'_ l_ G_ A_ hH_ hG_ hk_ hd_ hy_=>(coal_book_truths_1_ok hH_ hG_ (hk_ _ (mE (i:=0) rfl)) (hk_ _ (mE (i:=1) rfl)) (hk_ _ (mE (i:=2) rfl)) (hk_ _ (mE (i:=3) rfl)) hd_ hy_ (Link.refl _ _)).mono fun en_ w3_ ⟨u_,he_,A'_,hu_,hk2_,ho_,hf_⟩=>⟨u_,he_,hk2_,A'_,ho_,hf_⟩) (mG [0,1,2,3] rfl) (fun _=>rfl) nM ?_ ?_ ?_
 ·intro l46 oR47 oB48 Cr49 x_1 z_1 y_1 w50 b51 c52 z53 PP54 H S55 hlk56 ho57 hB58 hN59 hX60
  unfold coal_book_span_r1 at H
  replace S55:St w50 Cr49 w50 [bx l46 oR47,bl b30 [I z_1.1,I z_1.2.1] 23,bl b25 [B z_1.2.2] 4,bl b22 [I 0,I 0] 23,bl b19 [vF (.func f9) #[] cp10.toArray] 103,bl b16 ([I a0.CoalBook.Heap.Low,I a0.CoalBook.Heap.High]++(sgE eSpan a0.CoalBook.Eats 2++(sg a0.CoalBook.Extra 3++[SL A1 a0.CoalBook.Days.length c2,I a0.CoalBook.Collier.Low,I a0.CoalBook.Collier.High,I a0.CoalBook.Brings,SL A4 a0.CoalBook.Dips.length c5,Value.map m7]))) 84] [bl b37 ([I a0.CoalBook.Heap.Low,I a0.CoalBook.Heap.High]++(sgE eSpan a0.CoalBook.Eats 2++(sg a0.CoalBook.Extra 3++[SL A1 a0.CoalBook.Days.length c2,I a0.CoalBook.Collier.Low,I a0.CoalBook.Collier.High,I a0.CoalBook.Brings,SL A4 a0.CoalBook.Dips.length c5,Value.map m7]))) 84,rd eCoalDay 3 A1 c2 a0.CoalBook.Days,rd eCoalDip 3 A4 c5 a0.CoalBook.Dips,mpo ekG iE m7 a0.costs_]:=S55
  refine reg<|p_allA in113 S55 fun b61 w62 S63=>?_
  refine p_stP (pre:=[]) (old:=sg (List.replicate 2 0) 2++([I 0]++(sg (List.replicate 6 0) 6++sg (List.replicate 6 0) 6))) (post:=[]) (vs:=sg x_1.eats_ 2++([I x_1.collier_]++(sg x_1.winds_ 6++sg x_1.coal_ 6))) sz113 S63 (i:=0) rfl rfl rfl rfl (rfl:_=AG (sg x_1.eats_ 2++([I x_1.collier_]++(sg x_1.winds_ 6++sg x_1.coal_ 6)))) rfl rfl rfl rfl fun w64 S65=>wp_nil ?_
  refine hB58 _ _ 1 _ S65 rfl fun w66 S67=>?_
  replace S67:St w50 Cr49 w66 [bl b61 (sg x_1.eats_ 2++([I x_1.collier_]++(sg x_1.winds_ 6++sg x_1.coal_ 6))) 113,bx l46 oB48,bl b30 [I z_1.1,I z_1.2.1] 23,bl b25 [B z_1.2.2] 4,bl b22 [I 0,I 0] 23,bl b19 [vF (.func f9) #[] cp10.toArray] 103,bl b16 ([I a0.CoalBook.Heap.Low,I a0.CoalBook.Heap.High]++(sgE eSpan a0.CoalBook.Eats 2++(sg a0.CoalBook.Extra 3++[SL A1 a0.CoalBook.Days.length c2,I a0.CoalBook.Collier.Low,I a0.CoalBook.Collier.High,I a0.CoalBook.Brings,SL A4 a0.CoalBook.Dips.length c5,Value.map m7]))) 84] [bl b37 ([I a0.CoalBook.Heap.Low,I a0.CoalBook.Heap.High]++(sgE eSpan a0.CoalBook.Eats 2++(sg a0.CoalBook.Extra 3++[SL A1 a0.CoalBook.Days.length c2,I a0.CoalBook.Collier.Low,I a0.CoalBook.Collier.High,I a0.CoalBook.Brings,SL A4 a0.CoalBook.Dips.length c5,Value.map m7]))) 84,rd eCoalDay 3 A1 c2 a0.CoalBook.Days,rd eCoalDip 3 A4 c5 a0.CoalBook.Dips,mpo ekG iE m7 a0.costs_]:=S67
  refine c_block<|c_seq<|reg<|p_fld fl103_0 rfl<|p_ld ty101 (S67.atX (i:=5) rfl) rfl rfl<|p_ldA ty113 sz113 (S67.atX (i:=0) rfl) rfl rfl ?_
  obtain ⟨r68,h69,H⟩:=bindS H
  refine p_cv (hw12 _ _ _ (Link.of (Link.trans (Link.refl _ _) hlk56) S67.keep) h69) hF11 rfl S67 ?_
  intro w70 S71
  refine p_aI rfl<|wp_nil<|c_seq<|c_seq<|reg<|p_ld ty4 (S71.atX (i:=3) rfl) rfl rfl<|wp_nil ?_
  refine c_cond rfl (fun c72=>?_) (fun c72=>?_)
  ·replace H:=condT c72 H
   refine reg<|p_mI rfl<|p_mI rfl<|p_bld (cs:=[I r68,I r68]) st23 (rfl:_=[(0,I r68),(1,I r68)]) (by kernel_rfl)<|p_stP (pre:=[]) (old:=[I z_1.1,I z_1.2.1]) (post:=[]) (vs:=[I r68,I r68]) sz23 S71 (i:=2) rfl rfl rfl rfl (rfl:_=AG [I r68,I r68]) rfl rfl rfl rfl fun w73 S74=>p_st sz4 S74 (i:=3) rfl rfl (rfl:_=B false) rfl rfl fun w75 S76=>wp_nil<|reg<|p_fld fl23_0 rfl ?_
   refine p_ld ty3 (S76.atX (i:=2) rfl) rfl rfl<|p_mI rfl<|p_min rfl rfl<|p_fld fl23_1 rfl<|p_ld ty3 (S76.atX (i:=2) rfl) rfl rfl<|p_mI rfl<|p_max rfl rfl<|p_bld (cs:=[I (if r68 < r68 then r68 else r68),I (if r68 > r68 then r68 else r68)]) st23 (rfl:_=[(0,I (if r68 < r68 then r68 else r68)),(1,I (if r68 > r68 then r68 else r68))]) (by kernel_rfl) ?_
   refine p_stP (pre:=[]) (old:=[I r68,I r68]) (post:=[]) (vs:=[I (if r68 < r68 then r68 else r68),I (if r68 > r68 then r68 else r68)]) sz23 S76 (i:=2) rfl rfl rfl rfl (rfl:_=AG [I (if r68 < r68 then r68 else r68),I (if r68 > r68 then r68 else r68)]) rfl rfl rfl rfl fun w77 S78=>wp_nil ?_
   have S79:=S78.pk [1,2,3,4,5,6] (by decide) [0,1,2,3] rfl rfl
   exact hN59 _ _ ((if r68 < r68 then r68 else r68),(if r68 > r68 then r68 else r68),false) () S79 (sJ H)
  ·replace H:=condF c72 H
   refine c_skip<|reg<|p_fld fl23_0 rfl<|p_ld ty3 (S71.atX (i:=2) rfl) rfl rfl<|p_mI rfl<|p_min rfl rfl<|p_fld fl23_1 rfl<|p_ld ty3 (S71.atX (i:=2) rfl) rfl rfl<|p_mI rfl<|p_max rfl rfl<|p_bld (cs:=[I (if r68 < z_1.1 then r68 else z_1.1),I (if r68 > z_1.2.1 then r68 else z_1.2.1)]) st23 (rfl:_=[(0,I (if r68 < z_1.1 then r68 else z_1.1)),(1,I (if r68 > z_1.2.1 then r68 else z_1.2.1))]) (by kernel_rfl) ?_
   refine p_stP (pre:=[]) (old:=[I z_1.1,I z_1.2.1]) (post:=[]) (vs:=[I (if r68 < z_1.1 then r68 else z_1.1),I (if r68 > z_1.2.1 then r68 else z_1.2.1)]) sz23 S71 (i:=2) rfl rfl rfl rfl (rfl:_=AG [I (if r68 < z_1.1 then r68 else z_1.1),I (if r68 > z_1.2.1 then r68 else z_1.2.1)]) rfl rfl rfl rfl fun w79 S80=>wp_nil ?_
   have S81:=S80.pk [1,2,3,4,5,6] (by decide) [0,1,2,3] rfl rfl
   exact hN59 _ _ ((if r68 < z_1.1 then r68 else z_1.1),(if r68 > z_1.2.1 then r68 else z_1.2.1),z_1.2.2) () S81 (sJ H)
 ·intro hc87
  intro l81 D82 o83 y84 w85 S86
  have S88:St w nF w85 [bl b30 [I r42.2.1,I r42.2.2.1] 23,bl b25 [B r42.2.2.2] 4,bl b22 [I 0,I 0] 23,bl b19 [vF (.func f9) #[] cp10.toArray] 103,bl b16 ([I a0.CoalBook.Heap.Low,I a0.CoalBook.Heap.High]++(sgE eSpan a0.CoalBook.Eats 2++(sg a0.CoalBook.Extra 3++[SL A1 a0.CoalBook.Days.length c2,I a0.CoalBook.Collier.Low,I a0.CoalBook.Collier.High,I a0.CoalBook.Brings,SL A4 a0.CoalBook.Dips.length c5,Value.map m7]))) 84,bx D82 (.deferred (some []))] [bl b37 ([I a0.CoalBook.Heap.Low,I a0.CoalBook.Heap.High]++(sgE eSpan a0.CoalBook.Eats 2++(sg a0.CoalBook.Extra 3++[SL A1 a0.CoalBook.Days.length c2,I a0.CoalBook.Collier.Low,I a0.CoalBook.Collier.High,I a0.CoalBook.Brings,SL A4 a0.CoalBook.Dips.length c5,Value.map m7]))) 84,rd eCoalDay 3 A1 c2 a0.CoalBook.Days,rd eCoalDip 3 A4 c5 a0.CoalBook.Dips,mpo ekG iE m7 a0.costs_]:=St.tail1 S86
  refine c_seq<|reg<|p_ldA ty23 sz23 (S88.atX (i:=0) rfl) rfl rfl<|p_stP (pre:=[]) (old:=[I 0,I 0]) (post:=[]) (vs:=[I r42.2.1,I r42.2.2.1]) sz23 S88 (i:=2) rfl rfl rfl rfl (rfl:_=AG [I r42.2.1,I r42.2.2.1]) rfl rfl rfl rfl fun w89 S90=>wp_nil ?_
  refine c_ret ?_
  refine leave_mark S90 (i:=5) rfl fun w91 S92=>?_
  obtain rfl:=sJ H
  show bodyPostM (Fr none) 0 Tryd.prog Tryd.f46 _ .ret _ _
  refine ret_of (res1 rfl (rvA rfl ty23 sz23 (S92.atX (i:=2) rfl) rfl)) ?_
  exact ⟨_,rfl,rfl,S92.keep⟩
 ·intro k93 c94 hk95 hc96
  cases hk95
def coal_coal_1 (a0:Coal_truth) (q0:Int):Option Int:=
 need (inI q0 6)<|
 some (aget a0.coal_ q0)
set_option maxRecDepth 100000 in
theorem coal_coal_1_ok {a0:Coal_truth}{q0:Int}{b1:Nat}{w:World}{r:Int} (H:coal_coal_1 a0 q0=some r) (h2:(bl b1 [I q0] 3).ok w):Calls Tryd.prog 75 #[AG (sg a0.eats_ 2++([I a0.collier_]++(sg a0.winds_ 6++sg a0.coal_ 6))),P b1 0] w (RetV w (I r)):=by
 unfold coal_coal_1 at H
 refine fn_of (n:=8) Tryd.func75 rfl rfl (lE rfl) ?_
 have S:=St.start w nF _ (cA h2 nM)
 refine c_seq<|reg<|p_boxA rfl S fun b3 w4 S5=>p_aI rfl<|wp_nil<|c_seq<|reg<|p_ld ty3 (S5.atP (i:=0) rfl) rfl rfl<|p_fld fl113_3 rfl ?_
 obtain ⟨h6,H⟩:=needS H
 refine p_ixD ar111 h6 rfl rfl<|p_ldD (pre:=sg a0.eats_ 2++([I a0.collier_]++sg a0.winds_ 6)) (post:=[]) ty3 (S5.atX (i:=0) rfl) rfl h6 rfl rfl<|p_aI rfl<|wp_nil ?_
 obtain rfl:=sJ H
 exact c_ret (rT Tryd.f75 S5.keep rfl rfl)
def coal_coal (a0:Int):Option Unit:=
 some ()
set_option maxRecDepth 100000 in
theorem coal_coal_ok {a0:Int}{w:World}{r:Unit} (H:coal_coal a0=some r):Calls Tryd.prog 47 #[I a0] w fun en w_=>∃ u_,en=.returned u_∧∃ b_1:Nat,u_=AG [vF (.func 75) #[] #[P b_1 0]]∧Keep0 w w_∧((bl b_1 [I a0] 3).ok w_∧New w.heap.size (bl b_1 [I a0] 3))∧True:=by
 unfold coal_coal at H
 refine fn_of (n:=5) Tryd.func47 rfl rfl (lE rfl) ?_
 have S:=St.start w nF _ nM
 refine c_seq<|reg<|p_box (rfl:_=I a0) rfl S fun b1 w2 S3=>p_allA in103 S3 fun b4 w5 S6=>wp_nil<|c_seq<|reg ?_
 refine o_fun (rfl:_=[]) (rfl:_=[P b1 0]) ?_
 refine p_bld (cs:=[vF (.func 75) #[] #[P b1 0]]) st103 (rfl:_=[(0,vF (.func 75) #[] #[P b1 0])]) (by kernel_rfl)<|p_stP (pre:=[]) (old:=[Value.nilFunc]) (post:=[]) (vs:=[vF (.func 75) #[] #[P b1 0]]) sz103 S6 (i:=0) rfl rfl rfl rfl (rfl:_=AG [vF (.func 75) #[] #[P b1 0]]) rfl rfl rfl rfl fun w7 S8=>wp_nil ?_
 obtain rfl:=sJ H
 refine c_ret ?_; show bodyPostM (Fr none) 0 Tryd.prog Tryd.f47 _ .ret _ _
 refine ret_of (res1 rfl (rvA rfl ty103 sz103 (S8.atX (i:=0) rfl) rfl)) ?_
 exact ⟨_,rfl,b1,rfl,S8.keep,⟨S8.atX (i:=1) rfl,S8.newX (i:=1) rfl⟩,trivial⟩
def coal_Heap (a0:CoalBook) (a1:Int):Option (Span×Int):=
 (coal_isDay a0 a1).bind fun r16=>
 (coal_asked a0 r16).bind fun r22=>
 bif (r22.2 != 0) then (some ((Span.mk 0 0),r22.2))
 else ((coal_coal a1).bind fun r98=>
 (coal_book_span r22.1 (Coal_number.mk (fun y109=>coal_coal_1 y109 a1))).bind fun r110=>
 some (r110,0))
set_option maxRecDepth 100000 in
theorem coal_Heap_ok {a0:CoalBook}{a1:Int}{A1:Option Addr}{c2:Nat}{A4:Option Addr}{c5:Nat}{w:World}{r:Span×Int} (H:coal_Heap a0 a1=some r) (h3:(rd eCoalDay 3 A1 c2 a0.Days).ok w) (h6:(rd eCoalDip 3 A4 c5 a0.Dips).ok w) (hg7:(gW0).ok w):Calls Tryd.prog 15 #[AG ([I a0.Heap.Low,I a0.Heap.High]++(sgE eSpan a0.Eats 2++(sg a0.Extra 3++[SL A1 a0.Days.length c2,I a0.Collier.Low,I a0.Collier.High,I a0.Brings,SL A4 a0.Dips.length c5]))),I a1] w (RetV w (TU [AG [I r.1.Low,I r.1.High],I r.2])):=by
 unfold coal_Heap at H
 refine fn_of (n:=24) Tryd.func15 rfl rfl (lE rfl) ?_
 have S:=St.start w nF _ (cA h3 (cA h6 (cA hg7 nM)))
 refine c_seq<|reg<|p_boxA rfl S fun b8 w9 S10=>p_allA in23 S10 fun b11 w12 S13=>p_aI rfl<|wp_nil<|c_seq ?_
 obtain ⟨r16,h17,H⟩:=bindS H
 obtain ⟨r22,h23,H⟩:=bindS H
 refine reg_fl mixed 9 7 (by kernel_rfl) [rv (AG ([I a0.Heap.Low,I a0.Heap.High]++(sgE eSpan a0.Eats 2++(sg a0.Extra 3++[SL A1 a0.Days.length c2,I a0.Collier.Low,I a0.Collier.High,I a0.Brings,SL A4 a0.Dips.length c5])))),rv (AG ([I a0.Heap.Low,I a0.Heap.High]++(sgE eSpan a0.Eats 2++(sg a0.Extra 3++[SL A1 a0.Days.length c2,I a0.Collier.Low,I a0.Collier.High,I a0.Brings,SL A4 a0.Dips.length c5])))),rv (I a1),rv (B r16),rx (α:=(Option Addr)×Nat×(Option Addr)×Nat×(Option Nat)) (fun ⟨A26,c27,A28,c29,m30⟩=>TU [AG ([I r22.1.CoalBook.Heap.Low,I r22.1.CoalBook.Heap.High]++(sgE eSpan r22.1.CoalBook.Eats 2++(sg r22.1.CoalBook.Extra 3++[SL A26 r22.1.CoalBook.Days.length c27,I r22.1.CoalBook.Collier.Low,I r22.1.CoalBook.Collier.High,I r22.1.CoalBook.Brings,SL A28 r22.1.CoalBook.Dips.length c29,Value.map m30]))),I r22.2]) (fun ⟨A26,c27,A28,c29,m30⟩ lo hi=>BtwL lo hi [rd eCoalDay 3 A1 c2 a0.Days,rd eCoalDip 3 A4 c5 a0.Dips] (rd eCoalDay 3 A26 c27 r22.1.CoalBook.Days)∧BtwL lo hi [] (rd eCoalDip 3 A28 c29 r22.1.CoalBook.Dips)∧BtwL lo hi [] (mpo ekG iE m30 r22.1.costs_)∧True) (fun ⟨A26,c27,A28,c29,m30⟩=>[rd eCoalDay 3 A26 c27 r22.1.CoalBook.Days,rd eCoalDip 3 A28 c29 r22.1.CoalBook.Dips,mpo ekG iE m30 r22.1.costs_]),dv 13 some,dv 8 (exG 0),dv 8 (exG 1),rx (α:=Nat) (fun b49=>P b49 0) (fun b49 lo hi=>BtwL lo hi [] (bl b49 ([I 0,I 0]++(sgE eSpan (List.replicate 2 (Span.mk 0 0)) 2++(sg (List.replicate 3 0) 3++[SL none 0 0,I 0,I 0,I 0,SL none 0 0,Value.map none]))) 84)∧True) (fun b49=>[bl b49 ([I 0,I 0]++(sgE eSpan (List.replicate 2 (Span.mk 0 0)) 2++(sg (List.replicate 3 0) 3++[SL none 0 0,I 0,I 0,I 0,SL none 0 0,Value.map none]))) 84])] [[],[],[],[],[],[13],[8],[8],[]] rfl (by kernel_rfl) [[],[],[],[1,2],[0,1,2,3],[0,1,2,3,4],[0,1,2,3,4,5],[0,1,2,3,4,5],[],[0,1,2,3,4,5,6,8],[0,1,2,3,4,5,6,7,8,9]] (by kernel_rfl) ⟨?_,?_,?_,?_,?_,?_,?_,?_,?_,trivial⟩ ?_ ?_
 ·intro e_ w_ k_ hf_ hR_
  have S_:St w_ nF w_ [] [bl b11 [I 0,I 0] 23,bl b8 ([I a0.Heap.Low,I a0.Heap.High]++(sgE eSpan a0.Eats 2++(sg a0.Extra 3++[SL A1 a0.Days.length c2,I a0.Collier.Low,I a0.Collier.High,I a0.Brings,SL A4 a0.Dips.length c5]))) 29,rd eCoalDay 3 A1 c2 a0.Days,rd eCoalDip 3 A4 c5 a0.Dips,gW0]:=S13.asP k_
  refine hopE [(2,P b8 0)] ⟨((hf_ 2 rfl).trans (rfl:_=P b8 0)),trivial⟩ ?_
  exact p_ldA ty29 sz29 (S_.atP (i:=1) rfl) rfl rfl<|wp_nil ⟨_,rfl,S_.keep,rfl⟩
 ·intro e_ w_ k_ hf_ hR_
  have S_:St w_ nF w_ [] [bl b11 [I 0,I 0] 23,bl b8 ([I a0.Heap.Low,I a0.Heap.High]++(sgE eSpan a0.Eats 2++(sg a0.Extra 3++[SL A1 a0.Days.length c2,I a0.Collier.Low,I a0.Collier.High,I a0.Brings,SL A4 a0.Dips.length c5]))) 29,rd eCoalDay 3 A1 c2 a0.Days,rd eCoalDip 3 A4 c5 a0.Dips,gW0]:=S13.asP k_
  refine hopE [(2,P b8 0)] ⟨((hf_ 2 rfl).trans (rfl:_=P b8 0)),trivial⟩ ?_
  exact p_ldA ty29 sz29 (S_.atP (i:=1) rfl) rfl rfl<|wp_nil ⟨_,rfl,S_.keep,rfl⟩
 ·intro e_ w_ k_ hf_ hR_
  have S_:St w_ nF w_ [] [bl b11 [I 0,I 0] 23,bl b8 ([I a0.Heap.Low,I a0.Heap.High]++(sgE eSpan a0.Eats 2++(sg a0.Extra 3++[SL A1 a0.Days.length c2,I a0.Collier.Low,I a0.Collier.High,I a0.Brings,SL A4 a0.Dips.length c5]))) 29,rd eCoalDay 3 A1 c2 a0.Days,rd eCoalDip 3 A4 c5 a0.Dips,gW0]:=S13.asP k_
  refine hopE [(1,I a1)] ⟨((hf_ 1 rfl).trans (rfl:_=I a1)),trivial⟩ ?_
  exact p_mI rfl<|wp_nil ⟨_,rfl,S_.keep,rfl⟩
 ·intro e_ w_ k_ hf_ hR_
  have S_:St w_ nF w_ [] [bl b11 [I 0,I 0] 23,bl b8 ([I a0.Heap.Low,I a0.Heap.High]++(sgE eSpan a0.Eats 2++(sg a0.Extra 3++[SL A1 a0.Days.length c2,I a0.Collier.Low,I a0.Collier.High,I a0.Brings,SL A4 a0.Dips.length c5]))) 29,rd eCoalDay 3 A1 c2 a0.Days,rd eCoalDip 3 A4 c5 a0.Dips,gW0]:=S13.asP k_
  refine hopE [(10,AG ([I a0.Heap.Low,I a0.Heap.High]++(sgE eSpan a0.Eats 2++(sg a0.Extra 3++[SL A1 a0.Days.length c2,I a0.Collier.Low,I a0.Collier.High,I a0.Brings,SL A4 a0.Dips.length c5])))),(11,I a1)] ⟨rQ (hR_ 1 10 rfl (lE rfl) rfl),rQ (hR_ 2 11 rfl (lE rfl) rfl),trivial⟩ ?_
  refine p_cv (coal_isDay_ok h17 (S_.atP (i:=2) rfl) (S_.atP (i:=3) rfl)) fu45 rfl S_ fun w18 S19=>wp_nil ?_
  exact ⟨_,rfl,S19.keep,rfl⟩
 ·intro e_ w_ k_ hf_ hR_
  have S_:St w_ nF w_ [] [bl b11 [I 0,I 0] 23,bl b8 ([I a0.Heap.Low,I a0.Heap.High]++(sgE eSpan a0.Eats 2++(sg a0.Extra 3++[SL A1 a0.Days.length c2,I a0.Collier.Low,I a0.Collier.High,I a0.Brings,SL A4 a0.Dips.length c5]))) 29,rd eCoalDay 3 A1 c2 a0.Days,rd eCoalDip 3 A4 c5 a0.Dips,gW0]:=S13.asP k_
  refine hopE [(9,AG ([I a0.Heap.Low,I a0.Heap.High]++(sgE eSpan a0.Eats 2++(sg a0.Extra 3++[SL A1 a0.Days.length c2,I a0.Collier.Low,I a0.Collier.High,I a0.Brings,SL A4 a0.Dips.length c5])))),(12,B r16)] ⟨rQ (hR_ 0 9 rfl (lE rfl) rfl),rQ (hR_ 3 12 rfl (lE rfl) rfl),trivial⟩ ?_
  refine p_cal (coal_asked_ok h23 (S_.atP (i:=2) rfl) (S_.atP (i:=3) rfl) (S_.atP (i:=4) rfl)) fu44 rfl ?_
  rintro _ w24 ⟨A26,c27,A28,c29,m30,rfl,k25,⟨o31,n32⟩,⟨o33,n34⟩,⟨o35,n36⟩,_⟩
  have S37:=S_.callN k25 [rd eCoalDay 3 A26 c27 r22.1.CoalBook.Days,rd eCoalDip 3 A28 c29 r22.1.CoalBook.Dips,mpo ekG iE m30 r22.1.costs_] (cA ⟨o31,Al.inL n32 ((cA (fp_mem (i:=2) rfl) (cA (fp_mem (i:=3) rfl) nM)))⟩ (cA ⟨o33,New.inL n34⟩ (cA ⟨o35,New.inL n36⟩ nM)))
  exact wp_nil ⟨_,rfl,S37.keep,⟨(A26,c27,A28,c29,m30),rfl,⟨bL n32 rfl (S37.atP (i:=0) rfl) rfl,bL (New.al (New.mono n34 S_.keep.size)) rfl (S37.atP (i:=1) rfl) rfl,bL (New.al (New.mono n36 S_.keep.size)) rfl (S37.atP (i:=2) rfl) rfl,trivial⟩,(cA (S37.atP (i:=0) rfl) (cA (S37.atP (i:=1) rfl) (cA (S37.atP (i:=2) rfl) nM)))⟩⟩
 ·intro e_ w_ k_ hf_ hR_
  have S_:St w_ nF w_ [] [bl b11 [I 0,I 0] 23,bl b8 ([I a0.Heap.Low,I a0.Heap.High]++(sgE eSpan a0.Eats 2++(sg a0.Extra 3++[SL A1 a0.Days.length c2,I a0.Collier.Low,I a0.Collier.High,I a0.Brings,SL A4 a0.Dips.length c5]))) 29,rd eCoalDay 3 A1 c2 a0.Days,rd eCoalDip 3 A4 c5 a0.Dips,gW0]:=S13.asP k_
  obtain ⟨_,_,_,_,⟨A26,c27,A28,c29,m30⟩,q38,p39,a40⟩:=hR_ 4 13 rfl (lE rfl) rfl
  replace q38:e_ 13=TU [AG ([I r22.1.CoalBook.Heap.Low,I r22.1.CoalBook.Heap.High]++(sgE eSpan r22.1.CoalBook.Eats 2++(sg r22.1.CoalBook.Extra 3++[SL A26 r22.1.CoalBook.Days.length c27,I r22.1.CoalBook.Collier.Low,I r22.1.CoalBook.Collier.High,I r22.1.CoalBook.Brings,SL A28 r22.1.CoalBook.Dips.length c29,Value.map m30]))),I r22.2]:=q38
  have S_:=St.addL' S_ (a40 _ (.head _)) (fun _ _ _ h_=>(nE h_))
  have S_:=St.addL' S_ (a40 _ (.tail _ (.head _))) (fun _ _ _ h_=>(nE h_))
  have S_:=St.addL' S_ (a40 _ (.tail _ (.tail _ (.head _)))) (fun _ _ _ h_=>(nE h_))
  refine hopE [(13,TU [AG ([I r22.1.CoalBook.Heap.Low,I r22.1.CoalBook.Heap.High]++(sgE eSpan r22.1.CoalBook.Eats 2++(sg r22.1.CoalBook.Extra 3++[SL A26 r22.1.CoalBook.Days.length c27,I r22.1.CoalBook.Collier.Low,I r22.1.CoalBook.Collier.High,I r22.1.CoalBook.Brings,SL A28 r22.1.CoalBook.Dips.length c29,Value.map m30]))),I r22.2])] ⟨q38,trivial⟩ ?_
  refine p_mT rfl<|wp_nil ?_
  exact ⟨_,rfl,S_.keep,rfl⟩
 ·intro e_ w_ k_ hf_ hR_
  have S_:St w_ nF w_ [] [bl b11 [I 0,I 0] 23,bl b8 ([I a0.Heap.Low,I a0.Heap.High]++(sgE eSpan a0.Eats 2++(sg a0.Extra 3++[SL A1 a0.Days.length c2,I a0.Collier.Low,I a0.Collier.High,I a0.Brings,SL A4 a0.Dips.length c5]))) 29,rd eCoalDay 3 A1 c2 a0.Days,rd eCoalDip 3 A4 c5 a0.Dips,gW0]:=S13.asP k_
  obtain ⟨_,_,_,_,⟨A26,c27,A28,c29,m30⟩,q42,p43,a44⟩:=hR_ 4 13 rfl (lE rfl) rfl
  replace q42:e_ 13=TU [AG ([I r22.1.CoalBook.Heap.Low,I r22.1.CoalBook.Heap.High]++(sgE eSpan r22.1.CoalBook.Eats 2++(sg r22.1.CoalBook.Extra 3++[SL A26 r22.1.CoalBook.Days.length c27,I r22.1.CoalBook.Collier.Low,I r22.1.CoalBook.Collier.High,I r22.1.CoalBook.Brings,SL A28 r22.1.CoalBook.Dips.length c29,Value.map m30]))),I r22.2]:=q42
  have S_:=St.addL' S_ (a44 _ (.head _)) (fun _ _ _ h_=>(nE h_))
  have S_:=St.addL' S_ (a44 _ (.tail _ (.head _))) (fun _ _ _ h_=>(nE h_))
  have S_:=St.addL' S_ (a44 _ (.tail _ (.tail _ (.head _)))) (fun _ _ _ h_=>(nE h_))
  obtain ⟨_,_,_,_,q41⟩:=hR_ 5 8 rfl (lE rfl) rfl
  replace q41:e_ 8=TU [AG ([I r22.1.CoalBook.Heap.Low,I r22.1.CoalBook.Heap.High]++(sgE eSpan r22.1.CoalBook.Eats 2++(sg r22.1.CoalBook.Extra 3++[SL A26 r22.1.CoalBook.Days.length c27,I r22.1.CoalBook.Collier.Low,I r22.1.CoalBook.Collier.High,I r22.1.CoalBook.Brings,SL A28 r22.1.CoalBook.Dips.length c29,Value.map m30]))),I r22.2]:=(sJ ((congrArg some q42).symm.trans q41)).symm
  refine hopE [(8,TU [AG ([I r22.1.CoalBook.Heap.Low,I r22.1.CoalBook.Heap.High]++(sgE eSpan r22.1.CoalBook.Eats 2++(sg r22.1.CoalBook.Extra 3++[SL A26 r22.1.CoalBook.Days.length c27,I r22.1.CoalBook.Collier.Low,I r22.1.CoalBook.Collier.High,I r22.1.CoalBook.Brings,SL A28 r22.1.CoalBook.Dips.length c29,Value.map m30]))),I r22.2])] ⟨q41,trivial⟩ ?_
  refine p_ext rfl rfl<|wp_nil ?_
  exact ⟨_,rfl,S_.keep,rfl⟩
 ·intro e_ w_ k_ hf_ hR_
  have S_:St w_ nF w_ [] [bl b11 [I 0,I 0] 23,bl b8 ([I a0.Heap.Low,I a0.Heap.High]++(sgE eSpan a0.Eats 2++(sg a0.Extra 3++[SL A1 a0.Days.length c2,I a0.Collier.Low,I a0.Collier.High,I a0.Brings,SL A4 a0.Dips.length c5]))) 29,rd eCoalDay 3 A1 c2 a0.Days,rd eCoalDip 3 A4 c5 a0.Dips,gW0]:=S13.asP k_
  obtain ⟨_,_,_,_,⟨A26,c27,A28,c29,m30⟩,q46,p47,a48⟩:=hR_ 4 13 rfl (lE rfl) rfl
  replace q46:e_ 13=TU [AG ([I r22.1.CoalBook.Heap.Low,I r22.1.CoalBook.Heap.High]++(sgE eSpan r22.1.CoalBook.Eats 2++(sg r22.1.CoalBook.Extra 3++[SL A26 r22.1.CoalBook.Days.length c27,I r22.1.CoalBook.Collier.Low,I r22.1.CoalBook.Collier.High,I r22.1.CoalBook.Brings,SL A28 r22.1.CoalBook.Dips.length c29,Value.map m30]))),I r22.2]:=q46
  have S_:=St.addL' S_ (a48 _ (.head _)) (fun _ _ _ h_=>(nE h_))
  have S_:=St.addL' S_ (a48 _ (.tail _ (.head _))) (fun _ _ _ h_=>(nE h_))
  have S_:=St.addL' S_ (a48 _ (.tail _ (.tail _ (.head _)))) (fun _ _ _ h_=>(nE h_))
  obtain ⟨_,_,_,_,q45⟩:=hR_ 5 8 rfl (lE rfl) rfl
  replace q45:e_ 8=TU [AG ([I r22.1.CoalBook.Heap.Low,I r22.1.CoalBook.Heap.High]++(sgE eSpan r22.1.CoalBook.Eats 2++(sg r22.1.CoalBook.Extra 3++[SL A26 r22.1.CoalBook.Days.length c27,I r22.1.CoalBook.Collier.Low,I r22.1.CoalBook.Collier.High,I r22.1.CoalBook.Brings,SL A28 r22.1.CoalBook.Dips.length c29,Value.map m30]))),I r22.2]:=(sJ ((congrArg some q46).symm.trans q45)).symm
  refine hopE [(8,TU [AG ([I r22.1.CoalBook.Heap.Low,I r22.1.CoalBook.Heap.High]++(sgE eSpan r22.1.CoalBook.Eats 2++(sg r22.1.CoalBook.Extra 3++[SL A26 r22.1.CoalBook.Days.length c27,I r22.1.CoalBook.Collier.Low,I r22.1.CoalBook.Collier.High,I r22.1.CoalBook.Brings,SL A28 r22.1.CoalBook.Dips.length c29,Value.map m30]))),I r22.2])] ⟨q45,trivial⟩ ?_
  refine p_ext rfl rfl<|wp_nil ?_
  exact ⟨_,rfl,S_.keep,rfl⟩
 ·intro e_ w_ k_ hf_ hR_
  have S_:St w_ nF w_ [] [bl b11 [I 0,I 0] 23,bl b8 ([I a0.Heap.Low,I a0.Heap.High]++(sgE eSpan a0.Eats 2++(sg a0.Extra 3++[SL A1 a0.Days.length c2,I a0.Collier.Low,I a0.Collier.High,I a0.Brings,SL A4 a0.Dips.length c5]))) 29,rd eCoalDay 3 A1 c2 a0.Days,rd eCoalDip 3 A4 c5 a0.Dips,gW0]:=S13.asP k_
  refine hopE [] trivial ?_
  refine p_allA in84 S_ fun b49 w50 S51=>wp_nil ?_
  exact ⟨_,rfl,S51.keep,⟨b49,rfl,⟨bL (New.al (S51.newX (i:=0) rfl)) rfl (S51.atX (i:=0) rfl) rfl,trivial⟩,(cA (S51.atX (i:=0) rfl) nM)⟩⟩
 ·intro e52 w53 lo54 hi55 k56 hf57 hR58 hd59
  have S60:=S13.call k56
  have q61:e52 9=AG ([I a0.Heap.Low,I a0.Heap.High]++(sgE eSpan a0.Eats 2++(sg a0.Extra 3++[SL A1 a0.Days.length c2,I a0.Collier.Low,I a0.Collier.High,I a0.Brings,SL A4 a0.Dips.length c5]))):=(hR58 0 9 (lE rfl) rfl).2.2.2
  have q62:e52 10=AG ([I a0.Heap.Low,I a0.Heap.High]++(sgE eSpan a0.Eats 2++(sg a0.Extra 3++[SL A1 a0.Days.length c2,I a0.Collier.Low,I a0.Collier.High,I a0.Brings,SL A4 a0.Dips.length c5]))):=(hR58 1 10 (lE rfl) rfl).2.2.2
  have q63:e52 11=I a1:=(hR58 2 11 (lE rfl) rfl).2.2.2
  have q64:e52 12=B r16:=(hR58 3 12 (lE rfl) rfl).2.2.2
  obtain ⟨h66,h67,h68,⟨A26,c27,A28,c29,m30⟩,q65,h69,h70⟩:=hR58 4 13 (lE rfl) rfl
  replace q65:e52 13=TU [AG ([I r22.1.CoalBook.Heap.Low,I r22.1.CoalBook.Heap.High]++(sgE eSpan r22.1.CoalBook.Eats 2++(sg r22.1.CoalBook.Extra 3++[SL A26 r22.1.CoalBook.Days.length c27,I r22.1.CoalBook.Collier.Low,I r22.1.CoalBook.Collier.High,I r22.1.CoalBook.Brings,SL A28 r22.1.CoalBook.Dips.length c29,Value.map m30]))),I r22.2]:=q65
  obtain ⟨p71,p72,p73,_⟩:=h69
  have S74:=St.addR S60 (h70 _ (.head _)) (oR p71 h66 S13 (mG [0,1] rfl))
  have S75:=St.addR S74 (h70 _ (.tail _ (.head _))) (oR p72 h66 S13 (nM))
  have S76:=St.addR S75 (h70 _ (.tail _ (.tail _ (.head _)))) (oR p73 h66 S13 (nM))
  have q77:e52 8=TU [AG ([I r22.1.CoalBook.Heap.Low,I r22.1.CoalBook.Heap.High]++(sgE eSpan r22.1.CoalBook.Eats 2++(sg r22.1.CoalBook.Extra 3++[SL A26 r22.1.CoalBook.Days.length c27,I r22.1.CoalBook.Collier.Low,I r22.1.CoalBook.Collier.High,I r22.1.CoalBook.Brings,SL A28 r22.1.CoalBook.Dips.length c29,Value.map m30]))),I r22.2]:=(sJ ((congrArg some q65).symm.trans (hR58 5 8 (lE rfl) rfl).2.2.2)).symm
  have q78:e52 14=AG ([I r22.1.CoalBook.Heap.Low,I r22.1.CoalBook.Heap.High]++(sgE eSpan r22.1.CoalBook.Eats 2++(sg r22.1.CoalBook.Extra 3++[SL A26 r22.1.CoalBook.Days.length c27,I r22.1.CoalBook.Collier.Low,I r22.1.CoalBook.Collier.High,I r22.1.CoalBook.Brings,SL A28 r22.1.CoalBook.Dips.length c29,Value.map m30]))):=(sJ ((congrArg (exG 0) q77).symm.trans (hR58 6 14 (lE rfl) rfl).2.2.2)).symm
  have q79:e52 15=I r22.2:=(sJ ((congrArg (exG 1) q77).symm.trans (hR58 7 15 (lE rfl) rfl).2.2.2)).symm
  obtain ⟨h81,h82,h83,b49,q80,h84,h85⟩:=hR58 8 6 (lE rfl) rfl
  replace q80:e52 6=P b49 0:=q80
  obtain ⟨p86,_⟩:=h84
  have S88:=St.addO S76 (h85 _ (.head _)) (oN p86 h81 S13) (oX p86 h81 S13) (cA (oP p86 p73 h81 S13 (nM) (hd59 8 4 (lE rfl) (lE rfl) (by decide))) (cA (oP p86 p72 h81 S13 (nM) (hd59 8 4 (lE rfl) (lE rfl) (by decide))) (cA (oP p86 p71 h81 S13 (mG [0,1] rfl) (hd59 8 4 (lE rfl) (lE rfl) (by decide))) (oL p86 h81 S13))))
  refine tailE [(1,I a1),(4,P b11 0),(6,P b49 0),(14,AG ([I r22.1.CoalBook.Heap.Low,I r22.1.CoalBook.Heap.High]++(sgE eSpan r22.1.CoalBook.Eats 2++(sg r22.1.CoalBook.Extra 3++[SL A26 r22.1.CoalBook.Days.length c27,I r22.1.CoalBook.Collier.Low,I r22.1.CoalBook.Collier.High,I r22.1.CoalBook.Brings,SL A28 r22.1.CoalBook.Dips.length c29,Value.map m30])))),(15,I r22.2)] ⟨((hf57 1 rfl).trans (rfl:_=I a1)),((hf57 4 rfl).trans (rfl:_=P b11 0)),q80,q78,q79,trivial⟩ ?_
  intro g89
  refine p_stP (pre:=[]) (old:=[I 0,I 0]++(sgE eSpan (List.replicate 2 (Span.mk 0 0)) 2++(sg (List.replicate 3 0) 3++[SL none 0 0,I 0,I 0,I 0,SL none 0 0,Value.map none]))) (post:=[]) (vs:=[I r22.1.CoalBook.Heap.Low,I r22.1.CoalBook.Heap.High]++(sgE eSpan r22.1.CoalBook.Eats 2++(sg r22.1.CoalBook.Extra 3++[SL A26 r22.1.CoalBook.Days.length c27,I r22.1.CoalBook.Collier.Low,I r22.1.CoalBook.Collier.High,I r22.1.CoalBook.Brings,SL A28 r22.1.CoalBook.Dips.length c29,Value.map m30]))) sz84 S88 (i:=0) rfl rfl rfl rfl (rfl:_=AG ([I r22.1.CoalBook.Heap.Low,I r22.1.CoalBook.Heap.High]++(sgE eSpan r22.1.CoalBook.Eats 2++(sg r22.1.CoalBook.Extra 3++[SL A26 r22.1.CoalBook.Days.length c27,I r22.1.CoalBook.Collier.Low,I r22.1.CoalBook.Collier.High,I r22.1.CoalBook.Brings,SL A28 r22.1.CoalBook.Dips.length c29,Value.map m30])))) rfl rfl rfl rfl fun w90 S91=>?_
  refine p_aI rfl<|wp_nil<|c_seq<|c_seq<|reg<|p_mI rfl<|p_cmp rfl rfl rfl<|wp_nil ?_
  refine c_cond rfl (fun c92=>?_) (fun c92=>?_)
  ·replace H:=condT c92 H
   refine c_seq<|reg<|p_bld (cs:=[I 0,I 0]) st23 (rfl:_=[]) (by kernel_rfl)<|p_mI rfl<|p_stP (pre:=[]) (old:=[I 0,I 0]) (post:=[]) (vs:=[I 0,I 0]) sz23 S91 (i:=1) rfl rfl rfl rfl (rfl:_=AG [I 0,I 0]) rfl rfl rfl rfl fun w93 S94=>p_aI rfl<|wp_nil ?_
   obtain rfl:=sJ H
   refine c_ret ?_; show bodyPostM (Fr none) 0 Tryd.prog Tryd.f15 _ .ret _ _
   refine ret_of (res2 rfl (rvA rfl ty23 sz23 (S94.atX (i:=1) rfl) rfl) (rvT (rfl:_=I r22.2))) ?_
   exact ⟨_,rfl,rfl,S94.keep⟩
  ·replace H:=condF c92 H
   refine c_skip<|c_seq ?_
   refine reg_c mixed 4 [2,3] (by kernel_rfl) ?_
   refine kS rfl (fun _ k_=>p_ldA ty84 sz84 (aS (S91.atX (i:=0) rfl) k_) rfl rfl dn)<|kS rfl (fun _ k_=>p_mI rfl dn)<|kC rfl<|kC rfl ?_
   intro w95 k96; have S97:=S91.call k96
   obtain ⟨r98,h99,H⟩:=bindS H
   refine p_cal (coal_coal_ok h99) fu47 rfl ?_
   rintro _ w100 ⟨b102,rfl,k101,⟨o103,n104⟩,_⟩
   have S105:=S97.addNew k101 o103 n104
   refine cN k101 fun w106 k107=>?_
   have S108:=S105.call k107
   obtain ⟨r110,h111,H⟩:=bindS H
   refine p_cal (coal_book_span_ok h111 (S108.atP (i:=2) rfl) (S108.atP (i:=1) rfl) (S108.atP (i:=0) rfl) (by kernel_rfl) (fun _ _ _ k_ hr_=>coal_coal_1_ok hr_ (aS (S108.atX (i:=0) rfl) k_))) fu46 rfl ?_
   rintro _ w112 ⟨rfl,k113⟩; refine cN k113 fun w114 k115=>?_
   have S116:=(S108.call k113).call k115
   refine p_stP (pre:=[]) (old:=[I 0,I 0]) (post:=[]) (vs:=[I r110.Low,I r110.High]) sz23 S116 (i:=2) rfl rfl rfl rfl (rfl:_=AG [I r110.Low,I r110.High]) rfl rfl rfl rfl fun w117 S118=>p_aI rfl<|wp_nil ?_
   obtain rfl:=sJ H
   refine c_ret ?_; show bodyPostM (Fr none) 0 Tryd.prog Tryd.f15 _ .ret _ _
   refine ret_of (res2 rfl (rvA rfl ty23 sz23 (S118.atX (i:=2) rfl) rfl) (rvT (rfl:_=I 0))) ?_
   exact ⟨_,rfl,rfl,S118.keep⟩
 ·intro e119 w120 lo121 hi122 k123 hf124 hR125 hd126
  have S127:=S13.call k123
  have q128:e119 9=AG ([I a0.Heap.Low,I a0.Heap.High]++(sgE eSpan a0.Eats 2++(sg a0.Extra 3++[SL A1 a0.Days.length c2,I a0.Collier.Low,I a0.Collier.High,I a0.Brings,SL A4 a0.Dips.length c5]))):=(hR125 0 9 (lE rfl) (by decide) rfl).2.2.2
  have q129:e119 10=AG ([I a0.Heap.Low,I a0.Heap.High]++(sgE eSpan a0.Eats 2++(sg a0.Extra 3++[SL A1 a0.Days.length c2,I a0.Collier.Low,I a0.Collier.High,I a0.Brings,SL A4 a0.Dips.length c5]))):=(hR125 1 10 (lE rfl) (by decide) rfl).2.2.2
  have q130:e119 11=I a1:=(hR125 2 11 (lE rfl) (by decide) rfl).2.2.2
  have q131:e119 12=B r16:=(hR125 3 12 (lE rfl) (by decide) rfl).2.2.2
  obtain ⟨h133,h134,h135,⟨A26,c27,A28,c29,m30⟩,q132,h136,h137⟩:=hR125 4 13 (lE rfl) (by decide) rfl
  replace q132:e119 13=TU [AG ([I r22.1.CoalBook.Heap.Low,I r22.1.CoalBook.Heap.High]++(sgE eSpan r22.1.CoalBook.Eats 2++(sg r22.1.CoalBook.Extra 3++[SL A26 r22.1.CoalBook.Days.length c27,I r22.1.CoalBook.Collier.Low,I r22.1.CoalBook.Collier.High,I r22.1.CoalBook.Brings,SL A28 r22.1.CoalBook.Dips.length c29,Value.map m30]))),I r22.2]:=q132
  obtain ⟨p138,p139,p140,_⟩:=h136
  have S141:=St.addR S127 (h137 _ (.head _)) (oR p138 h133 S13 (mG [0,1] rfl))
  have S142:=St.addR S141 (h137 _ (.tail _ (.head _))) (oR p139 h133 S13 (nM))
  have S143:=St.addR S142 (h137 _ (.tail _ (.tail _ (.head _)))) (oR p140 h133 S13 (nM))
  have q144:e119 8=TU [AG ([I r22.1.CoalBook.Heap.Low,I r22.1.CoalBook.Heap.High]++(sgE eSpan r22.1.CoalBook.Eats 2++(sg r22.1.CoalBook.Extra 3++[SL A26 r22.1.CoalBook.Days.length c27,I r22.1.CoalBook.Collier.Low,I r22.1.CoalBook.Collier.High,I r22.1.CoalBook.Brings,SL A28 r22.1.CoalBook.Dips.length c29,Value.map m30]))),I r22.2]:=(sJ ((congrArg some q132).symm.trans (hR125 5 8 (lE rfl) (by decide) rfl).2.2.2)).symm
  have q145:e119 14=AG ([I r22.1.CoalBook.Heap.Low,I r22.1.CoalBook.Heap.High]++(sgE eSpan r22.1.CoalBook.Eats 2++(sg r22.1.CoalBook.Extra 3++[SL A26 r22.1.CoalBook.Days.length c27,I r22.1.CoalBook.Collier.Low,I r22.1.CoalBook.Collier.High,I r22.1.CoalBook.Brings,SL A28 r22.1.CoalBook.Dips.length c29,Value.map m30]))):=(sJ ((congrArg (exG 0) q144).symm.trans (hR125 6 14 (lE rfl) (by decide) rfl).2.2.2)).symm
  obtain ⟨h147,h148,h149,b49,q146,h150,h151⟩:=hR125 8 6 (lE rfl) (by decide) rfl
  replace q146:e119 6=P b49 0:=q146
  obtain ⟨p152,_⟩:=h150
  have S154:=St.addO S143 (h151 _ (.head _)) (oN p152 h147 S13) (oX p152 h147 S13) (cA (oP p152 p140 h147 S13 (nM) (hd126 8 4 (lE rfl) (lE rfl) (by decide) (by decide) (by decide))) (cA (oP p152 p139 h147 S13 (nM) (hd126 8 4 (lE rfl) (lE rfl) (by decide) (by decide) (by decide))) (cA (oP p152 p138 h147 S13 (mG [0,1] rfl) (hd126 8 4 (lE rfl) (lE rfl) (by decide) (by decide) (by decide))) (oL p152 h147 S13))))
  refine tailE [(1,I a1),(4,P b11 0),(6,P b49 0),(8,TU [AG ([I r22.1.CoalBook.Heap.Low,I r22.1.CoalBook.Heap.High]++(sgE eSpan r22.1.CoalBook.Eats 2++(sg r22.1.CoalBook.Extra 3++[SL A26 r22.1.CoalBook.Days.length c27,I r22.1.CoalBook.Collier.Low,I r22.1.CoalBook.Collier.High,I r22.1.CoalBook.Brings,SL A28 r22.1.CoalBook.Dips.length c29,Value.map m30]))),I r22.2]),(14,AG ([I r22.1.CoalBook.Heap.Low,I r22.1.CoalBook.Heap.High]++(sgE eSpan r22.1.CoalBook.Eats 2++(sg r22.1.CoalBook.Extra 3++[SL A26 r22.1.CoalBook.Days.length c27,I r22.1.CoalBook.Collier.Low,I r22.1.CoalBook.Collier.High,I r22.1.CoalBook.Brings,SL A28 r22.1.CoalBook.Dips.length c29,Value.map m30]))))] ⟨((hf124 1 rfl).trans (rfl:_=I a1)),((hf124 4 rfl).trans (rfl:_=P b11 0)),q146,q144,q145,trivial⟩ ?_
  intro g155
  refine p_stP (pre:=[]) (old:=[I 0,I 0]++(sgE eSpan (List.replicate 2 (Span.mk 0 0)) 2++(sg (List.replicate 3 0) 3++[SL none 0 0,I 0,I 0,I 0,SL none 0 0,Value.map none]))) (post:=[]) (vs:=[I r22.1.CoalBook.Heap.Low,I r22.1.CoalBook.Heap.High]++(sgE eSpan r22.1.CoalBook.Eats 2++(sg r22.1.CoalBook.Extra 3++[SL A26 r22.1.CoalBook.Days.length c27,I r22.1.CoalBook.Collier.Low,I r22.1.CoalBook.Collier.High,I r22.1.CoalBook.Brings,SL A28 r22.1.CoalBook.Dips.length c29,Value.map m30]))) sz84 S154 (i:=0) rfl rfl rfl rfl (rfl:_=AG ([I r22.1.CoalBook.Heap.Low,I r22.1.CoalBook.Heap.High]++(sgE eSpan r22.1.CoalBook.Eats 2++(sg r22.1.CoalBook.Extra 3++[SL A26 r22.1.CoalBook.Days.length c27,I r22.1.CoalBook.Collier.Low,I r22.1.CoalBook.Collier.High,I r22.1.CoalBook.Brings,SL A28 r22.1.CoalBook.Dips.length c29,Value.map m30])))) rfl rfl rfl rfl fun w156 S157=>?_
  refine p_ext rfl rfl<|p_aI rfl<|wp_nil<|c_seq<|c_seq<|reg<|p_mI rfl<|p_cmp rfl rfl rfl<|wp_nil ?_
  refine c_cond rfl (fun c158=>?_) (fun c158=>?_)
  ·replace H:=condT c158 H
   refine c_seq<|reg<|p_bld (cs:=[I 0,I 0]) st23 (rfl:_=[]) (by kernel_rfl)<|p_mI rfl<|p_stP (pre:=[]) (old:=[I 0,I 0]) (post:=[]) (vs:=[I 0,I 0]) sz23 S157 (i:=1) rfl rfl rfl rfl (rfl:_=AG [I 0,I 0]) rfl rfl rfl rfl fun w159 S160=>p_aI rfl<|wp_nil ?_
   obtain rfl:=sJ H
   refine c_ret ?_; show bodyPostM (Fr none) 0 Tryd.prog Tryd.f15 _ .ret _ _
   refine ret_of (res2 rfl (rvA rfl ty23 sz23 (S160.atX (i:=1) rfl) rfl) (rvT (rfl:_=I r22.2))) ?_
   exact ⟨_,rfl,rfl,S160.keep⟩
  ·replace H:=condF c158 H
   refine c_skip<|c_seq ?_
   refine reg_c mixed 4 [2,3] (by kernel_rfl) ?_
   refine kS rfl (fun _ k_=>p_ldA ty84 sz84 (aS (S157.atX (i:=0) rfl) k_) rfl rfl dn)<|kS rfl (fun _ k_=>p_mI rfl dn)<|kC rfl<|kC rfl ?_
   intro w161 k162; have S163:=S157.call k162
   obtain ⟨r164,h165,H⟩:=bindS H
   refine p_cal (coal_coal_ok h165) fu47 rfl ?_
   rintro _ w166 ⟨b168,rfl,k167,⟨o169,n170⟩,_⟩
   have S171:=S163.addNew k167 o169 n170
   refine cN k167 fun w172 k173=>?_
   have S174:=S171.call k173
   obtain ⟨r176,h177,H⟩:=bindS H
   refine p_cal (coal_book_span_ok h177 (S174.atP (i:=2) rfl) (S174.atP (i:=1) rfl) (S174.atP (i:=0) rfl) (by kernel_rfl) (fun _ _ _ k_ hr_=>coal_coal_1_ok hr_ (aS (S174.atX (i:=0) rfl) k_))) fu46 rfl ?_
   rintro _ w178 ⟨rfl,k179⟩; refine cN k179 fun w180 k181=>?_
   have S182:=(S174.call k179).call k181
   refine p_stP (pre:=[]) (old:=[I 0,I 0]) (post:=[]) (vs:=[I r176.Low,I r176.High]) sz23 S182 (i:=2) rfl rfl rfl rfl (rfl:_=AG [I r176.Low,I r176.High]) rfl rfl rfl rfl fun w183 S184=>p_aI rfl<|wp_nil ?_
   obtain rfl:=sJ H
   refine c_ret ?_; show bodyPostM (Fr none) 0 Tryd.prog Tryd.f15 _ .ret _ _
   refine ret_of (res2 rfl (rvA rfl ty23 sz23 (S184.atX (i:=2) rfl) rfl) (rvT (rfl:_=I 0))) ?_
   exact ⟨_,rfl,rfl,S184.keep⟩
def tally_asked (a0:TallyBook) (a1:Bool):Option (Tally_book×Int):=
 (tally_Check a0).bind fun r12=>
 bif (r12 != 0) then (some ((Tally_book.mk (TallyBook.mk 0 0 ([]:List TallyCount)) ([]:List (Tally_pair×Int))),r12))
 else (bif !a1 then (some ((Tally_book.mk (TallyBook.mk 0 0 ([]:List TallyCount)) ([]:List (Tally_pair×Int))),51))
 else ((tally_nobody).bind fun r22=>
 (tally_opened a0 (Tally_leave.mk (fun y28 y29=>tally_nobody_1 y28 y29))).bind fun r30=>
 (tally_book_can (Tally_book.mk (TallyBook.mk r30.TallyBook.Trips r30.TallyBook.Room a0.Counts) r30.more_)).bind fun r73=>
 bif !r73 then (some ((Tally_book.mk (TallyBook.mk r30.TallyBook.Trips r30.TallyBook.Room a0.Counts) r30.more_),52))
 else (some ((Tally_book.mk (TallyBook.mk r30.TallyBook.Trips r30.TallyBook.Room a0.Counts) r30.more_),0))))
set_option maxRecDepth 100000 in
theorem tally_asked_ok {a0:TallyBook}{a1:Bool}{A1:Option Addr}{c2:Nat}{w:World}{r:Tally_book×Int} (H:tally_asked a0 a1=some r) (h3:(rd eTallyCount 7 A1 c2 a0.Counts).ok w) (hg4:(gW1).ok w) (hg5:(gW3).ok w):Calls Tryd.prog 48 #[AG [I a0.Trips,I a0.Room,SL A1 a0.Counts.length c2],B a1] w fun en w_=>∃ u_,en=.returned u_∧∃ A_1:Option Addr,∃ c_2:Nat,∃ m_3:Option Nat,u_=TU [AG [I r.1.TallyBook.Trips,I r.1.TallyBook.Room,SL A_1 r.1.TallyBook.Counts.length c_2,Value.map m_3],I r.2]∧Keep0 w w_∧((rd eTallyCount 7 A_1 c_2 r.1.TallyBook.Counts).ok w_∧Al w [rd eTallyCount 7 A1 c2 a0.Counts] (rd eTallyCount 7 A_1 c_2 r.1.TallyBook.Counts))∧((mpo ekT iE m_3 r.1.more_).ok w_∧New w.heap.size (mpo ekT iE m_3 r.1.more_))∧True:=by
 unfold tally_asked at H
 refine fn_of (n:=25) Tryd.func48 rfl rfl (lE rfl) ?_
 have S:=St.start w nF _ (cA h3 (cA hg4 (cA hg5 nM)))
 refine c_seq<|reg<|p_boxA rfl S fun b6 w7 S8=>p_allA in89 S8 fun b9 w10 S11=>p_aI rfl<|wp_nil<|c_seq<|c_seq<|reg<|p_ldA ty35 sz35 (S11.atX (i:=1) rfl) rfl rfl ?_
 obtain ⟨r12,h13,H⟩:=bindS H
 refine p_cv (tally_Check_ok h13 (S11.atP (i:=0) rfl)) fu37 rfl S11 fun w14 S15=>p_aI rfl<|wp_nil<|c_seq<|reg<|p_mI rfl<|p_cmp rfl rfl rfl<|wp_nil ?_
 refine c_cond rfl (fun c16=>?_) (fun c16=>?_)
 ·replace H:=condT c16 H
  refine c_seq<|reg<|p_bld (cs:=[I 0,I 0,SL none 0 0,Value.map none]) st89 (rfl:_=[]) (by kernel_rfl)<|p_mI rfl<|p_stP (pre:=[]) (old:=[I 0,I 0,SL none 0 0,Value.map none]) (post:=[]) (vs:=[I 0,I 0,SL none 0 0,Value.map none]) sz89 S15 (i:=0) rfl rfl rfl rfl (rfl:_=AG [I 0,I 0,SL none 0 0,Value.map none]) rfl rfl rfl rfl fun w17 S18=>p_aI rfl<|wp_nil ?_
  obtain rfl:=sJ H
  refine c_ret ?_; show bodyPostM (Fr none) 0 Tryd.prog Tryd.f48 _ .ret _ _
  refine ret_of (res2 rfl (rvA rfl ty89 sz89 (S18.atX (i:=0) rfl) rfl) (rvT (rfl:_=I r12))) ?_
  exact ⟨_,rfl,none,0,none,rfl,S18.keep,⟨rd_nil (Nat.zero_le _),Al.nil⟩,⟨mpo_none,New.mpoN⟩,trivial⟩
 ·replace H:=condF c16 H
  refine c_skip<|c_seq<|c_seq<|reg<|p_mB rfl<|p_not rfl<|wp_nil ?_
  refine c_cond rfl (fun c19=>?_) (fun c19=>?_)
  ·replace H:=condT c19 H
   refine c_seq<|reg<|p_bld (cs:=[I 0,I 0,SL none 0 0,Value.map none]) st89 (rfl:_=[]) (by kernel_rfl)<|p_stP (pre:=[]) (old:=[I 0,I 0,SL none 0 0,Value.map none]) (post:=[]) (vs:=[I 0,I 0,SL none 0 0,Value.map none]) sz89 S15 (i:=0) rfl rfl rfl rfl (rfl:_=AG [I 0,I 0,SL none 0 0,Value.map none]) rfl rfl rfl rfl fun w20 S21=>p_aI rfl<|wp_nil ?_
   obtain rfl:=sJ H
   refine c_ret ?_; show bodyPostM (Fr none) 0 Tryd.prog Tryd.f48 _ .ret _ _
   refine ret_of (res2 rfl (rvA rfl ty89 sz89 (S21.atX (i:=0) rfl) rfl) (rvT (rfl:_=I 51))) ?_
   exact ⟨_,rfl,none,0,none,rfl,S21.keep,⟨rd_nil (Nat.zero_le _),Al.nil⟩,⟨mpo_none,New.mpoN⟩,trivial⟩
  ·replace H:=condF c19 H
   refine c_skip<|c_seq ?_
   obtain ⟨r22,h23,H⟩:=bindS H
   obtain ⟨r30,h31,H⟩:=bindS H
   refine reg_any mixed 4 (by kernel_rfl) [rv (AG [I a0.Trips,I a0.Room,SL A1 a0.Counts.length c2]),rv (AG [vF (.func 72) #[] #[]]),rx (α:=Nat) (fun m34=>AG [I r30.TallyBook.Trips,I r30.TallyBook.Room,SL A1 a0.Counts.length c2,Value.map (some m34)]) (fun m34 lo hi=>BtwL lo hi [] (mp ekT iE m34 r30.more_)∧True) (fun m34=>[mp ekT iE m34 r30.more_]),rx (α:=Nat) (fun b38=>P b38 0) (fun b38 lo hi=>BtwL lo hi [] (bl b38 [I 0,I 0,SL none 0 0,Value.map none] 89)∧True) (fun b38=>[bl b38 [I 0,I 0,SL none 0 0,Value.map none] 89])] [[],[],[],[]] rfl (by kernel_rfl) [[],[],[0,1],[],[0,1,2,3]] (by kernel_rfl) ⟨?_,?_,?_,?_,trivial⟩ ?_
   ·intro e_ w_ k_ hf_ hR_
    have S_:St w_ nF w_ [] [bl b9 [I 0,I 0,SL none 0 0,Value.map none] 89,bl b6 [I a0.Trips,I a0.Room,SL A1 a0.Counts.length c2] 35,rd eTallyCount 7 A1 c2 a0.Counts,gW1,gW3]:=S15.asP k_
    refine hopE [(2,P b6 0)] ⟨((hf_ 2 rfl).trans (rfl:_=P b6 0)),trivial⟩ ?_
    exact p_ldA ty35 sz35 (S_.atP (i:=1) rfl) rfl rfl<|wp_nil ⟨_,rfl,S_.keep,rfl⟩
   ·intro e_ w_ k_ hf_ hR_
    have S_:St w_ nF w_ [] [bl b9 [I 0,I 0,SL none 0 0,Value.map none] 89,bl b6 [I a0.Trips,I a0.Room,SL A1 a0.Counts.length c2] 35,rd eTallyCount 7 A1 c2 a0.Counts,gW1,gW3]:=S15.asP k_
    refine hopE [] trivial ?_
    refine p_cv (tally_nobody_ok h23) fu39 rfl S_ fun w24 S25=>wp_nil ?_
    exact ⟨_,rfl,S25.keep,rfl⟩
   ·intro e_ w_ k_ hf_ hR_
    have S_:St w_ nF w_ [] [bl b9 [I 0,I 0,SL none 0 0,Value.map none] 89,bl b6 [I a0.Trips,I a0.Room,SL A1 a0.Counts.length c2] 35,rd eTallyCount 7 A1 c2 a0.Counts,gW1,gW3]:=S15.asP k_
    refine hopE [(17,AG [I a0.Trips,I a0.Room,SL A1 a0.Counts.length c2]),(18,AG [vF (.func 72) #[] #[]])] ⟨rQ (hR_ 0 17 rfl (lE rfl) rfl),rQ (hR_ 1 18 rfl (lE rfl) rfl),trivial⟩ ?_
    refine p_cal (tally_opened_ok h31 (S_.atP (i:=2) rfl) (by kernel_rfl) (fun _ _ _ _ k_ hr_=>tally_nobody_1_ok hr_) (S_.atP (i:=3) rfl)) fu38 rfl ?_
    rintro _ w32 ⟨m34,rfl,k33,⟨o35,n36⟩,_⟩
    have S37:=S_.addNew k33 o35 n36
    exact wp_nil ⟨_,rfl,S37.keep,⟨m34,rfl,⟨bL (New.al (S37.newX (i:=0) rfl)) rfl (S37.atX (i:=0) rfl) rfl,trivial⟩,(cA (S37.atX (i:=0) rfl) nM)⟩⟩
   ·intro e_ w_ k_ hf_ hR_
    have S_:St w_ nF w_ [] [bl b9 [I 0,I 0,SL none 0 0,Value.map none] 89,bl b6 [I a0.Trips,I a0.Room,SL A1 a0.Counts.length c2] 35,rd eTallyCount 7 A1 c2 a0.Counts,gW1,gW3]:=S15.asP k_
    refine hopE [] trivial ?_
    refine p_allA in89 S_ fun b38 w39 S40=>wp_nil ?_
    exact ⟨_,rfl,S40.keep,⟨b38,rfl,⟨bL (New.al (S40.newX (i:=0) rfl)) rfl (S40.atX (i:=0) rfl) rfl,trivial⟩,(cA (S40.atX (i:=0) rfl) nM)⟩⟩
   intro e41 w42 lo43 hi44 k45 hf46 hR47 hd48
   have S49:=S15.call k45
   have q50:e41 17=AG [I a0.Trips,I a0.Room,SL A1 a0.Counts.length c2]:=(hR47 0 17 (lE rfl) rfl).2.2.2
   have q51:e41 18=AG [vF (.func 72) #[] #[]]:=(hR47 1 18 (lE rfl) rfl).2.2.2
   obtain ⟨h53,h54,h55,m34,q52,h56,h57⟩:=hR47 2 19 (lE rfl) rfl
   replace q52:e41 19=AG [I r30.TallyBook.Trips,I r30.TallyBook.Room,SL A1 a0.Counts.length c2,Value.map (some m34)]:=q52
   obtain ⟨p58,_⟩:=h56
   obtain ⟨h61,h62,h63,b38,q60,h64,h65⟩:=hR47 3 7 (lE rfl) rfl
   replace q60:e41 7=P b38 0:=q60
   obtain ⟨p66,_⟩:=h64
   have S68:=St.addO S49 (h57 _ (.head _)) (oN p58 h53 S15) (oX p58 h53 S15) (oL p58 h53 S15)
   have S69:=St.addO S68 (h65 _ (.head _)) (oN p66 h61 S15) (cA (oP p66 p58 h61 S15 (nM) (hd48 3 2 (lE rfl) (lE rfl) (by decide))) (oX p66 h61 S15)) (oL p66 h61 S15)
   refine tailE [(4,P b9 0),(7,P b38 0),(19,AG [I r30.TallyBook.Trips,I r30.TallyBook.Room,SL A1 a0.Counts.length c2,Value.map (some m34)])] ⟨((hf46 4 rfl).trans (rfl:_=P b9 0)),q60,q52,trivial⟩ ?_
   intro g70
   refine p_stP (pre:=[]) (old:=[I 0,I 0,SL none 0 0,Value.map none]) (post:=[]) (vs:=[I r30.TallyBook.Trips,I r30.TallyBook.Room,SL A1 a0.Counts.length c2,Value.map (some m34)]) sz89 S69 (i:=0) rfl rfl rfl rfl (rfl:_=AG [I r30.TallyBook.Trips,I r30.TallyBook.Room,SL A1 a0.Counts.length c2,Value.map (some m34)]) rfl rfl rfl rfl fun w71 S72=>wp_nil<|c_seq<|c_seq<|reg ?_
   refine p_ldA ty89 sz89 (S72.atX (i:=0) rfl) rfl rfl ?_
   obtain ⟨r73,h74,H⟩:=bindS H
   refine p_cv (tally_book_can_ok h74 (S72.atP (i:=0) rfl) (mpo_some (S72.atX (i:=1) rfl)) (S72.atP (i:=2) rfl)) fu40 rfl S72 fun w75 S76=>p_not rfl<|wp_nil ?_
   refine c_cond rfl (fun c77=>?_) (fun c77=>?_)
   ·replace H:=condT c77 H
    refine c_seq<|reg<|p_ldA ty89 sz89 (S76.atX (i:=0) rfl) rfl rfl ?_
    refine p_stP (pre:=[]) (old:=[I 0,I 0,SL none 0 0,Value.map none]) (post:=[]) (vs:=[I r30.TallyBook.Trips,I r30.TallyBook.Room,SL A1 a0.Counts.length c2,Value.map (some m34)]) sz89 S76 (i:=2) rfl rfl rfl rfl (rfl:_=AG [I r30.TallyBook.Trips,I r30.TallyBook.Room,SL A1 a0.Counts.length c2,Value.map (some m34)]) rfl rfl rfl rfl fun w78 S79=>p_aI rfl<|wp_nil ?_
    obtain rfl:=sJ H
    refine c_ret ?_; show bodyPostM (Fr none) 0 Tryd.prog Tryd.f48 _ .ret _ _
    refine ret_of (res2 rfl (rvA rfl ty89 sz89 (S79.atX (i:=2) rfl) rfl) (rvT (rfl:_=I 52))) ?_
    exact ⟨_,rfl,A1,c2,(some m34),rfl,S79.keep,⟨(S79.atP (i:=0) rfl),Al.self (i:=0) rfl⟩,⟨mpo_some (S79.atX (i:=1) rfl),New.mpoS (S79.newX (i:=1) rfl)⟩,trivial⟩
   ·replace H:=condF c77 H
    refine c_skip<|c_seq<|reg<|p_ldA ty89 sz89 (S76.atX (i:=0) rfl) rfl rfl ?_
    refine p_stP (pre:=[]) (old:=[I 0,I 0,SL none 0 0,Value.map none]) (post:=[]) (vs:=[I r30.TallyBook.Trips,I r30.TallyBook.Room,SL A1 a0.Counts.length c2,Value.map (some m34)]) sz89 S76 (i:=2) rfl rfl rfl rfl (rfl:_=AG [I r30.TallyBook.Trips,I r30.TallyBook.Room,SL A1 a0.Counts.length c2,Value.map (some m34)]) rfl rfl rfl rfl fun w80 S81=>p_aI rfl<|wp_nil ?_
    obtain rfl:=sJ H
    refine c_ret ?_; show bodyPostM (Fr none) 0 Tryd.prog Tryd.f48 _ .ret _ _
    refine ret_of (res2 rfl (rvA rfl ty89 sz89 (S81.atX (i:=2) rfl) rfl) (rvT (rfl:_=I 0))) ?_
    exact ⟨_,rfl,A1,c2,(some m34),rfl,S81.keep,⟨(S81.atP (i:=0) rfl),Al.self (i:=0) rfl⟩,⟨mpo_some (S81.atX (i:=1) rfl),New.mpoS (S81.newX (i:=1) rfl)⟩,trivial⟩
def tally_book_many_j1 (a1:Int) (a2:Int) (r22:(List Int)×Bool) (r13:(List Int)×Bool) (z_1:Unit):Option Span:=
 need (inI a1 9)<|
 need (inI a2 9)<|
 some (Span.mk (wr (-(aget r22.1 a1))) (aget r13.1 a2))
def tally_book_many (a0:Tally_book) (a1:Int) (a2:Int):Option Span:=
 (tally_from a0 a1).bind fun r13=>
 (tally_from a0 a2).bind fun r22=>
 (tally_none).bind fun r31=>
 bif decide (sgl r22.1 9=sgl r31 9) then ((tally_none).bind fun r34=>
 bif decide (sgl r13.1 9=sgl r34 9) then (some (Span.mk 0 0))
 else (tally_book_many_j1 a1 a2 r22 r13 ()))
 else (tally_book_many_j1 a1 a2 r22 r13 ())
set_option maxRecDepth 100000 in
theorem tally_book_many_ok {a0:Tally_book}{a1:Int}{a2:Int}{A1:Option Addr}{c2:Nat}{m4:Option Nat}{w:World}{r:Span} (H:tally_book_many a0 a1 a2=some r) (h3:(rd eTallyCount 7 A1 c2 a0.TallyBook.Counts).ok w) (h5:(mpo ekT iE m4 a0.more_).ok w) (hg6:(gW3).ok w):Calls Tryd.prog 50 #[AG [I a0.TallyBook.Trips,I a0.TallyBook.Room,SL A1 a0.TallyBook.Counts.length c2,Value.map m4],I a1,I a2] w (RetV w (AG [I r.Low,I r.High])):=by
 unfold tally_book_many at H
 refine fn_of (n:=40) Tryd.func50 rfl rfl (lE rfl) ?_
 have S:=St.start w nF _ (cA h3 (cA h5 (cA hg6 nM)))
 refine c_seq<|reg<|p_boxA rfl S fun b7 w8 S9=>p_allA in23 S9 fun b10 w11 S12=>wp_nil<|c_seq<|reg<|p_ldA ty89 sz89 (S12.atX (i:=1) rfl) rfl rfl<|p_mI rfl ?_
 obtain ⟨r13,h14,H⟩:=bindS H
 refine p_cv (tally_from_ok h14 (S12.atP (i:=0) rfl) (S12.atP (i:=1) rfl) (S12.atP (i:=2) rfl)) fu73 rfl S12 fun w15 S16=>p_mT rfl<|p_ext rfl rfl<|p_ext rfl rfl<|p_allA in146 S16 fun b17 w18 S19=>p_stP (pre:=[]) (old:=sg (List.replicate 9 0) 9) (post:=[]) (vs:=sg r13.1 9) sz146 S19 (i:=0) rfl rfl rfl rfl (rfl:_=AG (sg r13.1 9)) rfl rfl rfl rfl fun w20 S21=>p_aB rfl<|wp_nil<|c_seq<|reg ?_
 refine p_ldA ty89 sz89 (S21.atX (i:=2) rfl) rfl rfl<|p_mI rfl ?_
 obtain ⟨r22,h23,H⟩:=bindS H
 refine p_cv (tally_from_ok h23 (S21.atP (i:=0) rfl) (S21.atP (i:=1) rfl) (S21.atP (i:=2) rfl)) fu73 rfl S21 fun w24 S25=>p_mT rfl<|p_ext rfl rfl<|p_ext rfl rfl<|p_allA in146 S25 fun b26 w27 S28=>p_stP (pre:=[]) (old:=sg (List.replicate 9 0) 9) (post:=[]) (vs:=sg r22.1 9) sz146 S28 (i:=0) rfl rfl rfl rfl (rfl:_=AG (sg r22.1 9)) rfl rfl rfl rfl fun w29 S30=>p_aB rfl<|wp_nil ?_
 refine c_join (α:=Unit) (β:=Unit) (fun z_1 y_1=>[(1,I a1),(2,I a2),(6,P b10 0),(7,P b17 0),(9,P b26 0)]) (fun z_1 y_1 w_=>tally_book_many_j1 a1 a2 r22 r13 z_1=some r∧St w nF w_ [bl b26 (sg r22.1 9) 146,bl b17 (sg r13.1 9) 146,bl b10 [I 0,I 0] 23] [rd eTallyCount 7 A1 c2 a0.TallyBook.Counts,mpo ekT iE m4 a0.more_,gW3]) ?_ ?_
 ·refine c_seq ?_
  obtain ⟨r31,h32,H⟩:=bindS H
  rcases bE (decide (sgl r22.1 9=sgl r31 9)) with c33 | c33
  ·replace H:=condT c33 H
   obtain ⟨r34,h35,H⟩:=bindS H
   refine reg_q mixed 8 (by kernel_rfl) ?_
   refine dS (fun _ k_=>p_ldA ty146 sz146 (aS (S30.atX (i:=0) rfl) k_) rfl rfl dn)<|dS (fun _ k_=>p_cvD (tally_none_ok h32) fu76 rfl)<|dS (fun _ k_=>p_eqS (m:=9) eq146 rfl rfl dn)<|dS (fun _ k_=>p_mB rfl dn)<|dB c33<|dS (fun _ k_=>gT rfl rfl (p_ldA ty146 sz146 (aS (S30.atX (i:=1) rfl) k_) rfl rfl dn))<|dS (fun _ k_=>gT rfl rfl (p_cvD (tally_none_ok h35) fu76 rfl)) ?_
   refine dS (fun _ k_=>gT rfl rfl (p_eqS (m:=9) eq146 rfl rfl dn))<|dS (fun _ k_=>p_pkT rfl (rfl:_=B (decide (sgl r13.1 9=sgl r34 9))) dn) ?_
   intro w36 k37; have S38:=S30.call k37
   refine wp_nil ?_
   refine c_cond rfl (fun c39=>?_) (fun c39=>?_)
   ·replace H:=condT c39 H
    refine c_seq<|reg<|p_bld (cs:=[I 0,I 0]) st23 (rfl:_=[]) (by kernel_rfl)<|p_stP (pre:=[]) (old:=[I 0,I 0]) (post:=[]) (vs:=[I 0,I 0]) sz23 S38 (i:=2) rfl rfl rfl rfl (rfl:_=AG [I 0,I 0]) rfl rfl rfl rfl fun w40 S41=>wp_nil ?_
    obtain rfl:=sJ H
    refine c_ret ?_; show bodyPostM (Fr none) 0 Tryd.prog Tryd.f50 _ .ret _ _
    refine ret_of (res1 rfl (rvA rfl ty23 sz23 (S41.atX (i:=2) rfl) rfl)) ?_
    exact ⟨_,rfl,rfl,S41.keep⟩
   ·replace H:=condF c39 H
    refine c_skip ?_
    have S42:=S38.pk [0,1,2] (by decide) [0,1,2] rfl rfl
    exact ⟨(),(),_,rfl,⟨rfl,rfl,rfl,rfl,rfl,trivial⟩,H,S42⟩
  ·replace H:=condF c33 H
   refine reg_q mixed 8 (by kernel_rfl) ?_
   refine dS (fun _ k_=>p_ldA ty146 sz146 (aS (S30.atX (i:=0) rfl) k_) rfl rfl dn)<|dS (fun _ k_=>p_cvD (tally_none_ok h32) fu76 rfl)<|dS (fun _ k_=>p_eqS (m:=9) eq146 rfl rfl dn)<|dS (fun _ k_=>p_mB rfl dn)<|dB c33<|dF rfl rfl<|dF rfl rfl<|dF rfl rfl<|dS (fun _ k_=>p_pkF rfl (rfl:_=B false) dn) ?_
   intro w42 k43; have S44:=S30.call k43
   refine wp_nil<|c_false rfl<|c_skip ?_
   have S45:=S44.pk [0,1,2] (by decide) [0,1,2] rfl rfl
   exact ⟨(),(),_,rfl,⟨rfl,rfl,rfl,rfl,rfl,trivial⟩,H,S45⟩
 ·intro z_1 y_1 e31 w32 S33; obtain ⟨H,S33⟩:=S33
  unfold tally_book_many_j1 at H
  refine c_seq ?_
  obtain ⟨h34,H⟩:=needS H
  obtain ⟨h35,H⟩:=needS H
  refine reg_q mixed 8 (by kernel_rfl) ?_
  refine dS (fun _ k_=>p_mI rfl dn)<|dS (fun _ k_=>p_ixD ar146 h34 rfl rfl dn)<|dS (fun _ k_=>p_ldD (pre:=[]) (post:=[]) ty3 (aS (S33.atX (i:=0) rfl) k_) rfl h34 rfl rfl dn)<|dS (fun _ k_=>p_neg rfl dn)<|dS (fun _ k_=>p_mI rfl dn)<|dS (fun _ k_=>p_ixD ar146 h35 rfl rfl dn)<|dS (fun _ k_=>p_ldD (pre:=[]) (post:=[]) ty3 (aS (S33.atX (i:=1) rfl) k_) rfl h35 rfl rfl dn) ?_
  refine dS (fun _ k_=>p_bld (cs:=[I (wr (-(aget r22.1 a1))),I (aget r13.1 a2)]) st23 (rfl:_=[(0,I (wr (-(aget r22.1 a1)))),(1,I (aget r13.1 a2))]) (by kernel_rfl) dn) ?_
  intro w36 k37; have S38:=S33.call k37
  refine p_stP (pre:=[]) (old:=[I 0,I 0]) (post:=[]) (vs:=[I (wr (-(aget r22.1 a1))),I (aget r13.1 a2)]) sz23 S38 (i:=2) rfl rfl rfl rfl (rfl:_=AG [I (wr (-(aget r22.1 a1))),I (aget r13.1 a2)]) rfl rfl rfl rfl fun w39 S40=>wp_nil ?_
  obtain rfl:=sJ H
  refine c_ret ?_; show bodyPostM (Fr none) 0 Tryd.prog Tryd.f50 _ .ret _ _
  refine ret_of (res1 rfl (rvA rfl ty23 sz23 (S40.atX (i:=2) rfl) rfl)) ?_
  exact ⟨_,rfl,rfl,S40.keep⟩
def tally_Many (a0:TallyBook) (a1:Int) (a2:Int):Option (Span×Int):=
 (tally_isTrips a0 a1 a2).bind fun r15=>
 (tally_asked a0 r15).bind fun r21=>
 bif (r21.2 != 0) then (some ((Span.mk 0 0),r21.2))
 else ((tally_book_many r21.1 a1 (wr (a2+1))).bind fun r89=>
 some (r89,0))
set_option maxRecDepth 100000 in
theorem tally_Many_ok {a0:TallyBook}{a1:Int}{a2:Int}{A1:Option Addr}{c2:Nat}{w:World}{r:Span×Int} (H:tally_Many a0 a1 a2=some r) (h3:(rd eTallyCount 7 A1 c2 a0.Counts).ok w) (hg4:(gW1).ok w) (hg5:(gW3).ok w):Calls Tryd.prog 16 #[AG [I a0.Trips,I a0.Room,SL A1 a0.Counts.length c2],I a1,I a2] w (RetV w (TU [AG [I r.1.Low,I r.1.High],I r.2])):=by
 unfold tally_Many at H
 refine fn_of (n:=28) Tryd.func16 rfl rfl (lE rfl) ?_
 have S:=St.start w nF _ (cA h3 (cA hg4 (cA hg5 nM)))
 refine c_seq<|reg<|p_boxA rfl S fun b6 w7 S8=>p_allA in23 S8 fun b9 w10 S11=>p_aI rfl<|wp_nil<|c_seq ?_
 obtain ⟨r15,h16,H⟩:=bindS H
 obtain ⟨r21,h22,H⟩:=bindS H
 refine reg_fl mixed 10 8 (by kernel_rfl) [rv (AG [I a0.Trips,I a0.Room,SL A1 a0.Counts.length c2]),rv (AG [I a0.Trips,I a0.Room,SL A1 a0.Counts.length c2]),rv (I a1),rv (I a2),rv (B r15),rx (α:=(Option Addr)×Nat×(Option Nat)) (fun ⟨A25,c26,m27⟩=>TU [AG [I r21.1.TallyBook.Trips,I r21.1.TallyBook.Room,SL A25 r21.1.TallyBook.Counts.length c26,Value.map m27],I r21.2]) (fun ⟨A25,c26,m27⟩ lo hi=>BtwL lo hi [rd eTallyCount 7 A1 c2 a0.Counts] (rd eTallyCount 7 A25 c26 r21.1.TallyBook.Counts)∧BtwL lo hi [] (mpo ekT iE m27 r21.1.more_)∧True) (fun ⟨A25,c26,m27⟩=>[rd eTallyCount 7 A25 c26 r21.1.TallyBook.Counts,mpo ekT iE m27 r21.1.more_]),dv 16 some,dv 10 (exG 0),dv 10 (exG 1),rx (α:=Nat) (fun b44=>P b44 0) (fun b44 lo hi=>BtwL lo hi [] (bl b44 [I 0,I 0,SL none 0 0,Value.map none] 89)∧True) (fun b44=>[bl b44 [I 0,I 0,SL none 0 0,Value.map none] 89])] [[],[],[],[],[],[],[16],[10],[10],[]] rfl (by kernel_rfl) [[],[],[],[],[1,2,3],[0,1,2,3,4],[0,1,2,3,4,5],[0,1,2,3,4,5,6],[0,1,2,3,4,5,6],[],[0,1,2,3,4,5,6,7,9],[0,1,2,3,4,5,6,7,8,9,10]] (by kernel_rfl) ⟨?_,?_,?_,?_,?_,?_,?_,?_,?_,?_,trivial⟩ ?_ ?_
 ·intro e_ w_ k_ hf_ hR_
  have S_:St w_ nF w_ [] [bl b9 [I 0,I 0] 23,bl b6 [I a0.Trips,I a0.Room,SL A1 a0.Counts.length c2] 35,rd eTallyCount 7 A1 c2 a0.Counts,gW1,gW3]:=S11.asP k_
  refine hopE [(3,P b6 0)] ⟨((hf_ 3 rfl).trans (rfl:_=P b6 0)),trivial⟩ ?_
  exact p_ldA ty35 sz35 (S_.atP (i:=1) rfl) rfl rfl<|wp_nil ⟨_,rfl,S_.keep,rfl⟩
 ·intro e_ w_ k_ hf_ hR_
  have S_:St w_ nF w_ [] [bl b9 [I 0,I 0] 23,bl b6 [I a0.Trips,I a0.Room,SL A1 a0.Counts.length c2] 35,rd eTallyCount 7 A1 c2 a0.Counts,gW1,gW3]:=S11.asP k_
  refine hopE [(3,P b6 0)] ⟨((hf_ 3 rfl).trans (rfl:_=P b6 0)),trivial⟩ ?_
  exact p_ldA ty35 sz35 (S_.atP (i:=1) rfl) rfl rfl<|wp_nil ⟨_,rfl,S_.keep,rfl⟩
 ·intro e_ w_ k_ hf_ hR_
  have S_:St w_ nF w_ [] [bl b9 [I 0,I 0] 23,bl b6 [I a0.Trips,I a0.Room,SL A1 a0.Counts.length c2] 35,rd eTallyCount 7 A1 c2 a0.Counts,gW1,gW3]:=S11.asP k_
  refine hopE [(1,I a1)] ⟨((hf_ 1 rfl).trans (rfl:_=I a1)),trivial⟩ ?_
  exact p_mI rfl<|wp_nil ⟨_,rfl,S_.keep,rfl⟩
 ·intro e_ w_ k_ hf_ hR_
  have S_:St w_ nF w_ [] [bl b9 [I 0,I 0] 23,bl b6 [I a0.Trips,I a0.Room,SL A1 a0.Counts.length c2] 35,rd eTallyCount 7 A1 c2 a0.Counts,gW1,gW3]:=S11.asP k_
  refine hopE [(2,I a2)] ⟨((hf_ 2 rfl).trans (rfl:_=I a2)),trivial⟩ ?_
  exact p_mI rfl<|wp_nil ⟨_,rfl,S_.keep,rfl⟩
 ·intro e_ w_ k_ hf_ hR_
  have S_:St w_ nF w_ [] [bl b9 [I 0,I 0] 23,bl b6 [I a0.Trips,I a0.Room,SL A1 a0.Counts.length c2] 35,rd eTallyCount 7 A1 c2 a0.Counts,gW1,gW3]:=S11.asP k_
  refine hopE [(12,AG [I a0.Trips,I a0.Room,SL A1 a0.Counts.length c2]),(13,I a1),(14,I a2)] ⟨rQ (hR_ 1 12 rfl (lE rfl) rfl),rQ (hR_ 2 13 rfl (lE rfl) rfl),rQ (hR_ 3 14 rfl (lE rfl) rfl),trivial⟩ ?_
  refine p_cv (tally_isTrips_ok h16 (S_.atP (i:=2) rfl)) fu49 rfl S_ fun w17 S18=>wp_nil ?_
  exact ⟨_,rfl,S18.keep,rfl⟩
 ·intro e_ w_ k_ hf_ hR_
  have S_:St w_ nF w_ [] [bl b9 [I 0,I 0] 23,bl b6 [I a0.Trips,I a0.Room,SL A1 a0.Counts.length c2] 35,rd eTallyCount 7 A1 c2 a0.Counts,gW1,gW3]:=S11.asP k_
  refine hopE [(11,AG [I a0.Trips,I a0.Room,SL A1 a0.Counts.length c2]),(15,B r15)] ⟨rQ (hR_ 0 11 rfl (lE rfl) rfl),rQ (hR_ 4 15 rfl (lE rfl) rfl),trivial⟩ ?_
  refine p_cal (tally_asked_ok h22 (S_.atP (i:=2) rfl) (S_.atP (i:=3) rfl) (S_.atP (i:=4) rfl)) fu48 rfl ?_
  rintro _ w23 ⟨A25,c26,m27,rfl,k24,⟨o28,n29⟩,⟨o30,n31⟩,_⟩
  have S32:=S_.callN k24 [rd eTallyCount 7 A25 c26 r21.1.TallyBook.Counts,mpo ekT iE m27 r21.1.more_] (cA ⟨o28,Al.inL n29 ((cA (fp_mem (i:=2) rfl) nM))⟩ (cA ⟨o30,New.inL n31⟩ nM))
  exact wp_nil ⟨_,rfl,S32.keep,⟨(A25,c26,m27),rfl,⟨bL n29 rfl (S32.atP (i:=0) rfl) rfl,bL (New.al (New.mono n31 S_.keep.size)) rfl (S32.atP (i:=1) rfl) rfl,trivial⟩,(cA (S32.atP (i:=0) rfl) (cA (S32.atP (i:=1) rfl) nM))⟩⟩
 ·intro e_ w_ k_ hf_ hR_
  have S_:St w_ nF w_ [] [bl b9 [I 0,I 0] 23,bl b6 [I a0.Trips,I a0.Room,SL A1 a0.Counts.length c2] 35,rd eTallyCount 7 A1 c2 a0.Counts,gW1,gW3]:=S11.asP k_
  obtain ⟨_,_,_,_,⟨A25,c26,m27⟩,q33,p34,a35⟩:=hR_ 5 16 rfl (lE rfl) rfl
  replace q33:e_ 16=TU [AG [I r21.1.TallyBook.Trips,I r21.1.TallyBook.Room,SL A25 r21.1.TallyBook.Counts.length c26,Value.map m27],I r21.2]:=q33
  have S_:=St.addL' S_ (a35 _ (.head _)) (fun _ _ _ h_=>(nE h_))
  have S_:=St.addL' S_ (a35 _ (.tail _ (.head _))) (fun _ _ _ h_=>(nE h_))
  refine hopE [(16,TU [AG [I r21.1.TallyBook.Trips,I r21.1.TallyBook.Room,SL A25 r21.1.TallyBook.Counts.length c26,Value.map m27],I r21.2])] ⟨q33,trivial⟩ ?_
  refine p_mT rfl<|wp_nil ?_
  exact ⟨_,rfl,S_.keep,rfl⟩
 ·intro e_ w_ k_ hf_ hR_
  have S_:St w_ nF w_ [] [bl b9 [I 0,I 0] 23,bl b6 [I a0.Trips,I a0.Room,SL A1 a0.Counts.length c2] 35,rd eTallyCount 7 A1 c2 a0.Counts,gW1,gW3]:=S11.asP k_
  obtain ⟨_,_,_,_,⟨A25,c26,m27⟩,q37,p38,a39⟩:=hR_ 5 16 rfl (lE rfl) rfl
  replace q37:e_ 16=TU [AG [I r21.1.TallyBook.Trips,I r21.1.TallyBook.Room,SL A25 r21.1.TallyBook.Counts.length c26,Value.map m27],I r21.2]:=q37
  have S_:=St.addL' S_ (a39 _ (.head _)) (fun _ _ _ h_=>(nE h_))
  have S_:=St.addL' S_ (a39 _ (.tail _ (.head _))) (fun _ _ _ h_=>(nE h_))
  obtain ⟨_,_,_,_,q36⟩:=hR_ 6 10 rfl (lE rfl) rfl
  replace q36:e_ 10=TU [AG [I r21.1.TallyBook.Trips,I r21.1.TallyBook.Room,SL A25 r21.1.TallyBook.Counts.length c26,Value.map m27],I r21.2]:=(sJ ((congrArg some q37).symm.trans q36)).symm
  refine hopE [(10,TU [AG [I r21.1.TallyBook.Trips,I r21.1.TallyBook.Room,SL A25 r21.1.TallyBook.Counts.length c26,Value.map m27],I r21.2])] ⟨q36,trivial⟩ ?_
  refine p_ext rfl rfl<|wp_nil ?_
  exact ⟨_,rfl,S_.keep,rfl⟩
 ·intro e_ w_ k_ hf_ hR_
  have S_:St w_ nF w_ [] [bl b9 [I 0,I 0] 23,bl b6 [I a0.Trips,I a0.Room,SL A1 a0.Counts.length c2] 35,rd eTallyCount 7 A1 c2 a0.Counts,gW1,gW3]:=S11.asP k_
  obtain ⟨_,_,_,_,⟨A25,c26,m27⟩,q41,p42,a43⟩:=hR_ 5 16 rfl (lE rfl) rfl
  replace q41:e_ 16=TU [AG [I r21.1.TallyBook.Trips,I r21.1.TallyBook.Room,SL A25 r21.1.TallyBook.Counts.length c26,Value.map m27],I r21.2]:=q41
  have S_:=St.addL' S_ (a43 _ (.head _)) (fun _ _ _ h_=>(nE h_))
  have S_:=St.addL' S_ (a43 _ (.tail _ (.head _))) (fun _ _ _ h_=>(nE h_))
  obtain ⟨_,_,_,_,q40⟩:=hR_ 6 10 rfl (lE rfl) rfl
  replace q40:e_ 10=TU [AG [I r21.1.TallyBook.Trips,I r21.1.TallyBook.Room,SL A25 r21.1.TallyBook.Counts.length c26,Value.map m27],I r21.2]:=(sJ ((congrArg some q41).symm.trans q40)).symm
  refine hopE [(10,TU [AG [I r21.1.TallyBook.Trips,I r21.1.TallyBook.Room,SL A25 r21.1.TallyBook.Counts.length c26,Value.map m27],I r21.2])] ⟨q40,trivial⟩ ?_
  refine p_ext rfl rfl<|wp_nil ?_
  exact ⟨_,rfl,S_.keep,rfl⟩
 ·intro e_ w_ k_ hf_ hR_
  have S_:St w_ nF w_ [] [bl b9 [I 0,I 0] 23,bl b6 [I a0.Trips,I a0.Room,SL A1 a0.Counts.length c2] 35,rd eTallyCount 7 A1 c2 a0.Counts,gW1,gW3]:=S11.asP k_
  refine hopE [] trivial ?_
  refine p_allA in89 S_ fun b44 w45 S46=>wp_nil ?_
  exact ⟨_,rfl,S46.keep,⟨b44,rfl,⟨bL (New.al (S46.newX (i:=0) rfl)) rfl (S46.atX (i:=0) rfl) rfl,trivial⟩,(cA (S46.atX (i:=0) rfl) nM)⟩⟩
 ·intro e47 w48 lo49 hi50 k51 hf52 hR53 hd54
  have S55:=S11.call k51
  have q56:e47 11=AG [I a0.Trips,I a0.Room,SL A1 a0.Counts.length c2]:=(hR53 0 11 (lE rfl) rfl).2.2.2
  have q57:e47 12=AG [I a0.Trips,I a0.Room,SL A1 a0.Counts.length c2]:=(hR53 1 12 (lE rfl) rfl).2.2.2
  have q58:e47 13=I a1:=(hR53 2 13 (lE rfl) rfl).2.2.2
  have q59:e47 14=I a2:=(hR53 3 14 (lE rfl) rfl).2.2.2
  have q60:e47 15=B r15:=(hR53 4 15 (lE rfl) rfl).2.2.2
  obtain ⟨h62,h63,h64,⟨A25,c26,m27⟩,q61,h65,h66⟩:=hR53 5 16 (lE rfl) rfl
  replace q61:e47 16=TU [AG [I r21.1.TallyBook.Trips,I r21.1.TallyBook.Room,SL A25 r21.1.TallyBook.Counts.length c26,Value.map m27],I r21.2]:=q61
  obtain ⟨p67,p68,_⟩:=h65
  have S69:=St.addR S55 (h66 _ (.head _)) (oR p67 h62 S11 (mG [0] rfl))
  have S70:=St.addR S69 (h66 _ (.tail _ (.head _))) (oR p68 h62 S11 (nM))
  have q71:e47 10=TU [AG [I r21.1.TallyBook.Trips,I r21.1.TallyBook.Room,SL A25 r21.1.TallyBook.Counts.length c26,Value.map m27],I r21.2]:=(sJ ((congrArg some q61).symm.trans (hR53 6 10 (lE rfl) rfl).2.2.2)).symm
  have q72:e47 17=AG [I r21.1.TallyBook.Trips,I r21.1.TallyBook.Room,SL A25 r21.1.TallyBook.Counts.length c26,Value.map m27]:=(sJ ((congrArg (exG 0) q71).symm.trans (hR53 7 17 (lE rfl) rfl).2.2.2)).symm
  have q73:e47 18=I r21.2:=(sJ ((congrArg (exG 1) q71).symm.trans (hR53 8 18 (lE rfl) rfl).2.2.2)).symm
  obtain ⟨h75,h76,h77,b44,q74,h78,h79⟩:=hR53 9 8 (lE rfl) rfl
  replace q74:e47 8=P b44 0:=q74
  obtain ⟨p80,_⟩:=h78
  have S82:=St.addO S70 (h79 _ (.head _)) (oN p80 h75 S11) (oX p80 h75 S11) (cA (oP p80 p68 h75 S11 (nM) (hd54 9 5 (lE rfl) (lE rfl) (by decide))) (cA (oP p80 p67 h75 S11 (mG [0] rfl) (hd54 9 5 (lE rfl) (lE rfl) (by decide))) (oL p80 h75 S11)))
  refine tailE [(1,I a1),(2,I a2),(6,P b9 0),(8,P b44 0),(17,AG [I r21.1.TallyBook.Trips,I r21.1.TallyBook.Room,SL A25 r21.1.TallyBook.Counts.length c26,Value.map m27]),(18,I r21.2)] ⟨((hf52 1 rfl).trans (rfl:_=I a1)),((hf52 2 rfl).trans (rfl:_=I a2)),((hf52 6 rfl).trans (rfl:_=P b9 0)),q74,q72,q73,trivial⟩ ?_
  intro g83
  refine p_stP (pre:=[]) (old:=[I 0,I 0,SL none 0 0,Value.map none]) (post:=[]) (vs:=[I r21.1.TallyBook.Trips,I r21.1.TallyBook.Room,SL A25 r21.1.TallyBook.Counts.length c26,Value.map m27]) sz89 S82 (i:=0) rfl rfl rfl rfl (rfl:_=AG [I r21.1.TallyBook.Trips,I r21.1.TallyBook.Room,SL A25 r21.1.TallyBook.Counts.length c26,Value.map m27]) rfl rfl rfl rfl fun w84 S85=>p_aI rfl<|wp_nil<|c_seq ?_
  refine c_seq<|reg<|p_mI rfl<|p_cmp rfl rfl rfl<|wp_nil ?_
  refine c_cond rfl (fun c86=>?_) (fun c86=>?_)
  ·replace H:=condT c86 H
   refine c_seq<|reg<|p_bld (cs:=[I 0,I 0]) st23 (rfl:_=[]) (by kernel_rfl)<|p_mI rfl<|p_stP (pre:=[]) (old:=[I 0,I 0]) (post:=[]) (vs:=[I 0,I 0]) sz23 S85 (i:=1) rfl rfl rfl rfl (rfl:_=AG [I 0,I 0]) rfl rfl rfl rfl fun w87 S88=>p_aI rfl<|wp_nil ?_
   obtain rfl:=sJ H
   refine c_ret ?_; show bodyPostM (Fr none) 0 Tryd.prog Tryd.f16 _ .ret _ _
   refine ret_of (res2 rfl (rvA rfl ty23 sz23 (S88.atX (i:=1) rfl) rfl) (rvT (rfl:_=I r21.2))) ?_
   exact ⟨_,rfl,rfl,S88.keep⟩
  ·replace H:=condF c86 H
   refine c_skip<|c_seq<|reg<|p_ldA ty89 sz89 (S85.atX (i:=0) rfl) rfl rfl<|p_mI rfl<|p_mI rfl<|p_add rfl rfl ?_
   obtain ⟨r89,h90,H⟩:=bindS H
   refine p_cv (tally_book_many_ok h90 (S85.atP (i:=1) rfl) (S85.atP (i:=0) rfl) (S85.atP (i:=4) rfl)) fu50 rfl S85 fun w91 S92=>p_stP (pre:=[]) (old:=[I 0,I 0]) (post:=[]) (vs:=[I r89.Low,I r89.High]) sz23 S92 (i:=1) rfl rfl rfl rfl (rfl:_=AG [I r89.Low,I r89.High]) rfl rfl rfl rfl fun w93 S94=>p_aI rfl<|wp_nil ?_
   obtain rfl:=sJ H
   refine c_ret ?_; show bodyPostM (Fr none) 0 Tryd.prog Tryd.f16 _ .ret _ _
   refine ret_of (res2 rfl (rvA rfl ty23 sz23 (S94.atX (i:=1) rfl) rfl) (rvT (rfl:_=I 0))) ?_
   exact ⟨_,rfl,rfl,S94.keep⟩
 ·intro e95 w96 lo97 hi98 k99 hf100 hR101 hd102
  have S103:=S11.call k99
  have q104:e95 11=AG [I a0.Trips,I a0.Room,SL A1 a0.Counts.length c2]:=(hR101 0 11 (lE rfl) (by decide) rfl).2.2.2
  have q105:e95 12=AG [I a0.Trips,I a0.Room,SL A1 a0.Counts.length c2]:=(hR101 1 12 (lE rfl) (by decide) rfl).2.2.2
  have q106:e95 13=I a1:=(hR101 2 13 (lE rfl) (by decide) rfl).2.2.2
  have q107:e95 14=I a2:=(hR101 3 14 (lE rfl) (by decide) rfl).2.2.2
  have q108:e95 15=B r15:=(hR101 4 15 (lE rfl) (by decide) rfl).2.2.2
  obtain ⟨h110,h111,h112,⟨A25,c26,m27⟩,q109,h113,h114⟩:=hR101 5 16 (lE rfl) (by decide) rfl
  replace q109:e95 16=TU [AG [I r21.1.TallyBook.Trips,I r21.1.TallyBook.Room,SL A25 r21.1.TallyBook.Counts.length c26,Value.map m27],I r21.2]:=q109
  obtain ⟨p115,p116,_⟩:=h113
  have S117:=St.addR S103 (h114 _ (.head _)) (oR p115 h110 S11 (mG [0] rfl))
  have S118:=St.addR S117 (h114 _ (.tail _ (.head _))) (oR p116 h110 S11 (nM))
  have q119:e95 10=TU [AG [I r21.1.TallyBook.Trips,I r21.1.TallyBook.Room,SL A25 r21.1.TallyBook.Counts.length c26,Value.map m27],I r21.2]:=(sJ ((congrArg some q109).symm.trans (hR101 6 10 (lE rfl) (by decide) rfl).2.2.2)).symm
  have q120:e95 17=AG [I r21.1.TallyBook.Trips,I r21.1.TallyBook.Room,SL A25 r21.1.TallyBook.Counts.length c26,Value.map m27]:=(sJ ((congrArg (exG 0) q119).symm.trans (hR101 7 17 (lE rfl) (by decide) rfl).2.2.2)).symm
  obtain ⟨h122,h123,h124,b44,q121,h125,h126⟩:=hR101 9 8 (lE rfl) (by decide) rfl
  replace q121:e95 8=P b44 0:=q121
  obtain ⟨p127,_⟩:=h125
  have S129:=St.addO S118 (h126 _ (.head _)) (oN p127 h122 S11) (oX p127 h122 S11) (cA (oP p127 p116 h122 S11 (nM) (hd102 9 5 (lE rfl) (lE rfl) (by decide) (by decide) (by decide))) (cA (oP p127 p115 h122 S11 (mG [0] rfl) (hd102 9 5 (lE rfl) (lE rfl) (by decide) (by decide) (by decide))) (oL p127 h122 S11)))
  refine tailE [(1,I a1),(2,I a2),(6,P b9 0),(8,P b44 0),(10,TU [AG [I r21.1.TallyBook.Trips,I r21.1.TallyBook.Room,SL A25 r21.1.TallyBook.Counts.length c26,Value.map m27],I r21.2]),(17,AG [I r21.1.TallyBook.Trips,I r21.1.TallyBook.Room,SL A25 r21.1.TallyBook.Counts.length c26,Value.map m27])] ⟨((hf100 1 rfl).trans (rfl:_=I a1)),((hf100 2 rfl).trans (rfl:_=I a2)),((hf100 6 rfl).trans (rfl:_=P b9 0)),q121,q119,q120,trivial⟩ ?_
  intro g130
  refine p_stP (pre:=[]) (old:=[I 0,I 0,SL none 0 0,Value.map none]) (post:=[]) (vs:=[I r21.1.TallyBook.Trips,I r21.1.TallyBook.Room,SL A25 r21.1.TallyBook.Counts.length c26,Value.map m27]) sz89 S129 (i:=0) rfl rfl rfl rfl (rfl:_=AG [I r21.1.TallyBook.Trips,I r21.1.TallyBook.Room,SL A25 r21.1.TallyBook.Counts.length c26,Value.map m27]) rfl rfl rfl rfl fun w131 S132=>p_ext rfl rfl ?_
  refine p_aI rfl<|wp_nil<|c_seq<|c_seq<|reg<|p_mI rfl<|p_cmp rfl rfl rfl<|wp_nil ?_
  refine c_cond rfl (fun c133=>?_) (fun c133=>?_)
  ·replace H:=condT c133 H
   refine c_seq<|reg<|p_bld (cs:=[I 0,I 0]) st23 (rfl:_=[]) (by kernel_rfl)<|p_mI rfl<|p_stP (pre:=[]) (old:=[I 0,I 0]) (post:=[]) (vs:=[I 0,I 0]) sz23 S132 (i:=1) rfl rfl rfl rfl (rfl:_=AG [I 0,I 0]) rfl rfl rfl rfl fun w134 S135=>p_aI rfl<|wp_nil ?_
   obtain rfl:=sJ H
   refine c_ret ?_; show bodyPostM (Fr none) 0 Tryd.prog Tryd.f16 _ .ret _ _
   refine ret_of (res2 rfl (rvA rfl ty23 sz23 (S135.atX (i:=1) rfl) rfl) (rvT (rfl:_=I r21.2))) ?_
   exact ⟨_,rfl,rfl,S135.keep⟩
  ·replace H:=condF c133 H
   refine c_skip<|c_seq<|reg<|p_ldA ty89 sz89 (S132.atX (i:=0) rfl) rfl rfl<|p_mI rfl<|p_mI rfl<|p_add rfl rfl ?_
   obtain ⟨r136,h137,H⟩:=bindS H
   refine p_cv (tally_book_many_ok h137 (S132.atP (i:=1) rfl) (S132.atP (i:=0) rfl) (S132.atP (i:=4) rfl)) fu50 rfl S132 fun w138 S139=>p_stP (pre:=[]) (old:=[I 0,I 0]) (post:=[]) (vs:=[I r136.Low,I r136.High]) sz23 S139 (i:=1) rfl rfl rfl rfl (rfl:_=AG [I r136.Low,I r136.High]) rfl rfl rfl rfl fun w140 S141=>p_aI rfl<|wp_nil ?_
   obtain rfl:=sJ H
   refine c_ret ?_; show bodyPostM (Fr none) 0 Tryd.prog Tryd.f16 _ .ret _ _
   refine ret_of (res2 rfl (rvA rfl ty23 sz23 (S141.atX (i:=1) rfl) rfl) (rvT (rfl:_=I 0))) ?_
   exact ⟨_,rfl,rfl,S141.keep⟩
def coal_Wind_r1 (a1:Int) (x_1:Coal_truth) (z_1:Int):Option (Bool×Nat×Int):=
 need (inI a1 6)<|
 need (decide (0≤(aget x_1.winds_ a1)))<|
 some (true,0,orI z_1 (shlI 1 (aget x_1.winds_ a1)))
def coal_Wind_r2 (a1:Int) (x_1:Coal_truth) (z_1:Int):Option (Bool×Nat×Int):=
 need (inI a1 6)<|
 need (decide (0≤(aget x_1.winds_ a1)))<|
 some (true,0,orI z_1 (shlI 1 (aget x_1.winds_ a1)))
def coal_Wind (a0:CoalBook) (a1:Int):Option (Int×Int):=
 (coal_isDay a0 a1).bind fun r16=>
 (coal_asked a0 r16).bind fun r22=>
 bif (r22.2 != 0) then (some (0,r22.2))
 else ((coal_book_truths r22.1).bind fun r98=>
 (coal_book_truths_1 (0,0) r22.1 (yvOf (coal_Wind_r1 a1))).bind fun r107=>
 some (r107.2,0))
set_option maxRecDepth 100000 in
theorem coal_Wind_ok {a0:CoalBook}{a1:Int}{A1:Option Addr}{c2:Nat}{A4:Option Addr}{c5:Nat}{w:World}{r:Int×Int} (H:coal_Wind a0 a1=some r) (h3:(rd eCoalDay 3 A1 c2 a0.Days).ok w) (h6:(rd eCoalDip 3 A4 c5 a0.Dips).ok w) (hg7:(gW0).ok w):Calls Tryd.prog 17 #[AG ([I a0.Heap.Low,I a0.Heap.High]++(sgE eSpan a0.Eats 2++(sg a0.Extra 3++[SL A1 a0.Days.length c2,I a0.Collier.Low,I a0.Collier.High,I a0.Brings,SL A4 a0.Dips.length c5]))),I a1] w (RetV w (TU [I r.1,I r.2])):=by
 unfold coal_Wind at H
 refine fn_of (n:=32) Tryd.func17 rfl rfl (lE rfl) ?_
 have S:=St.start w nF _ (cA h3 (cA h6 (cA hg7 nM)))
 refine c_seq<|reg<|p_boxA rfl S fun b8 w9 S10=>p_box (rfl:_=I a1) rfl S10 fun b11 w12 S13=>p_aI rfl<|p_aI rfl<|wp_nil<|c_seq ?_
 obtain ⟨r16,h17,H⟩:=bindS H
 obtain ⟨r22,h23,H⟩:=bindS H
 refine reg_fl mixed 9 7 (by kernel_rfl) [rv (AG ([I a0.Heap.Low,I a0.Heap.High]++(sgE eSpan a0.Eats 2++(sg a0.Extra 3++[SL A1 a0.Days.length c2,I a0.Collier.Low,I a0.Collier.High,I a0.Brings,SL A4 a0.Dips.length c5])))),rv (AG ([I a0.Heap.Low,I a0.Heap.High]++(sgE eSpan a0.Eats 2++(sg a0.Extra 3++[SL A1 a0.Days.length c2,I a0.Collier.Low,I a0.Collier.High,I a0.Brings,SL A4 a0.Dips.length c5])))),rv (I a1),rv (B r16),rx (α:=(Option Addr)×Nat×(Option Addr)×Nat×(Option Nat)) (fun ⟨A26,c27,A28,c29,m30⟩=>TU [AG ([I r22.1.CoalBook.Heap.Low,I r22.1.CoalBook.Heap.High]++(sgE eSpan r22.1.CoalBook.Eats 2++(sg r22.1.CoalBook.Extra 3++[SL A26 r22.1.CoalBook.Days.length c27,I r22.1.CoalBook.Collier.Low,I r22.1.CoalBook.Collier.High,I r22.1.CoalBook.Brings,SL A28 r22.1.CoalBook.Dips.length c29,Value.map m30]))),I r22.2]) (fun ⟨A26,c27,A28,c29,m30⟩ lo hi=>BtwL lo hi [rd eCoalDay 3 A1 c2 a0.Days,rd eCoalDip 3 A4 c5 a0.Dips] (rd eCoalDay 3 A26 c27 r22.1.CoalBook.Days)∧BtwL lo hi [] (rd eCoalDip 3 A28 c29 r22.1.CoalBook.Dips)∧BtwL lo hi [] (mpo ekG iE m30 r22.1.costs_)∧True) (fun ⟨A26,c27,A28,c29,m30⟩=>[rd eCoalDay 3 A26 c27 r22.1.CoalBook.Days,rd eCoalDip 3 A28 c29 r22.1.CoalBook.Dips,mpo ekG iE m30 r22.1.costs_]),dv 15 some,dv 10 (exG 0),dv 10 (exG 1),rx (α:=Nat) (fun b49=>P b49 0) (fun b49 lo hi=>BtwL lo hi [] (bl b49 ([I 0,I 0]++(sgE eSpan (List.replicate 2 (Span.mk 0 0)) 2++(sg (List.replicate 3 0) 3++[SL none 0 0,I 0,I 0,I 0,SL none 0 0,Value.map none]))) 84)∧True) (fun b49=>[bl b49 ([I 0,I 0]++(sgE eSpan (List.replicate 2 (Span.mk 0 0)) 2++(sg (List.replicate 3 0) 3++[SL none 0 0,I 0,I 0,I 0,SL none 0 0,Value.map none]))) 84])] [[],[],[],[],[],[15],[10],[10],[]] rfl (by kernel_rfl) [[],[],[],[1,2],[0,1,2,3],[0,1,2,3,4],[0,1,2,3,4,5],[0,1,2,3,4,5],[],[0,1,2,3,4,5,6,8],[0,1,2,3,4,5,6,7,8,9]] (by kernel_rfl) ⟨?_,?_,?_,?_,?_,?_,?_,?_,?_,trivial⟩ ?_ ?_
 ·intro e_ w_ k_ hf_ hR_
  have S_:St w_ nF w_ [] [bl b11 [I a1] 3,bl b8 ([I a0.Heap.Low,I a0.Heap.High]++(sgE eSpan a0.Eats 2++(sg a0.Extra 3++[SL A1 a0.Days.length c2,I a0.Collier.Low,I a0.Collier.High,I a0.Brings,SL A4 a0.Dips.length c5]))) 29,rd eCoalDay 3 A1 c2 a0.Days,rd eCoalDip 3 A4 c5 a0.Dips,gW0]:=S13.asP k_
  refine hopE [(2,P b8 0)] ⟨((hf_ 2 rfl).trans (rfl:_=P b8 0)),trivial⟩ ?_
  exact p_ldA ty29 sz29 (S_.atP (i:=1) rfl) rfl rfl<|wp_nil ⟨_,rfl,S_.keep,rfl⟩
 ·intro e_ w_ k_ hf_ hR_
  have S_:St w_ nF w_ [] [bl b11 [I a1] 3,bl b8 ([I a0.Heap.Low,I a0.Heap.High]++(sgE eSpan a0.Eats 2++(sg a0.Extra 3++[SL A1 a0.Days.length c2,I a0.Collier.Low,I a0.Collier.High,I a0.Brings,SL A4 a0.Dips.length c5]))) 29,rd eCoalDay 3 A1 c2 a0.Days,rd eCoalDip 3 A4 c5 a0.Dips,gW0]:=S13.asP k_
  refine hopE [(2,P b8 0)] ⟨((hf_ 2 rfl).trans (rfl:_=P b8 0)),trivial⟩ ?_
  exact p_ldA ty29 sz29 (S_.atP (i:=1) rfl) rfl rfl<|wp_nil ⟨_,rfl,S_.keep,rfl⟩
 ·intro e_ w_ k_ hf_ hR_
  have S_:St w_ nF w_ [] [bl b11 [I a1] 3,bl b8 ([I a0.Heap.Low,I a0.Heap.High]++(sgE eSpan a0.Eats 2++(sg a0.Extra 3++[SL A1 a0.Days.length c2,I a0.Collier.Low,I a0.Collier.High,I a0.Brings,SL A4 a0.Dips.length c5]))) 29,rd eCoalDay 3 A1 c2 a0.Days,rd eCoalDip 3 A4 c5 a0.Dips,gW0]:=S13.asP k_
  refine hopE [(3,P b11 0)] ⟨((hf_ 3 rfl).trans (rfl:_=P b11 0)),trivial⟩ ?_
  exact p_ld ty3 (S_.atP (i:=0) rfl) rfl rfl<|wp_nil ⟨_,rfl,S_.keep,rfl⟩
 ·intro e_ w_ k_ hf_ hR_
  have S_:St w_ nF w_ [] [bl b11 [I a1] 3,bl b8 ([I a0.Heap.Low,I a0.Heap.High]++(sgE eSpan a0.Eats 2++(sg a0.Extra 3++[SL A1 a0.Days.length c2,I a0.Collier.Low,I a0.Collier.High,I a0.Brings,SL A4 a0.Dips.length c5]))) 29,rd eCoalDay 3 A1 c2 a0.Days,rd eCoalDip 3 A4 c5 a0.Dips,gW0]:=S13.asP k_
  refine hopE [(12,AG ([I a0.Heap.Low,I a0.Heap.High]++(sgE eSpan a0.Eats 2++(sg a0.Extra 3++[SL A1 a0.Days.length c2,I a0.Collier.Low,I a0.Collier.High,I a0.Brings,SL A4 a0.Dips.length c5])))),(13,I a1)] ⟨rQ (hR_ 1 12 rfl (lE rfl) rfl),rQ (hR_ 2 13 rfl (lE rfl) rfl),trivial⟩ ?_
  refine p_cv (coal_isDay_ok h17 (S_.atP (i:=2) rfl) (S_.atP (i:=3) rfl)) fu45 rfl S_ fun w18 S19=>wp_nil ?_
  exact ⟨_,rfl,S19.keep,rfl⟩
 ·intro e_ w_ k_ hf_ hR_
  have S_:St w_ nF w_ [] [bl b11 [I a1] 3,bl b8 ([I a0.Heap.Low,I a0.Heap.High]++(sgE eSpan a0.Eats 2++(sg a0.Extra 3++[SL A1 a0.Days.length c2,I a0.Collier.Low,I a0.Collier.High,I a0.Brings,SL A4 a0.Dips.length c5]))) 29,rd eCoalDay 3 A1 c2 a0.Days,rd eCoalDip 3 A4 c5 a0.Dips,gW0]:=S13.asP k_
  refine hopE [(11,AG ([I a0.Heap.Low,I a0.Heap.High]++(sgE eSpan a0.Eats 2++(sg a0.Extra 3++[SL A1 a0.Days.length c2,I a0.Collier.Low,I a0.Collier.High,I a0.Brings,SL A4 a0.Dips.length c5])))),(14,B r16)] ⟨rQ (hR_ 0 11 rfl (lE rfl) rfl),rQ (hR_ 3 14 rfl (lE rfl) rfl),trivial⟩ ?_
  refine p_cal (coal_asked_ok h23 (S_.atP (i:=2) rfl) (S_.atP (i:=3) rfl) (S_.atP (i:=4) rfl)) fu44 rfl ?_
  rintro _ w24 ⟨A26,c27,A28,c29,m30,rfl,k25,⟨o31,n32⟩,⟨o33,n34⟩,⟨o35,n36⟩,_⟩
  have S37:=S_.callN k25 [rd eCoalDay 3 A26 c27 r22.1.CoalBook.Days,rd eCoalDip 3 A28 c29 r22.1.CoalBook.Dips,mpo ekG iE m30 r22.1.costs_] (cA ⟨o31,Al.inL n32 ((cA (fp_mem (i:=2) rfl) (cA (fp_mem (i:=3) rfl) nM)))⟩ (cA ⟨o33,New.inL n34⟩ (cA ⟨o35,New.inL n36⟩ nM)))
  exact wp_nil ⟨_,rfl,S37.keep,⟨(A26,c27,A28,c29,m30),rfl,⟨bL n32 rfl (S37.atP (i:=0) rfl) rfl,bL (New.al (New.mono n34 S_.keep.size)) rfl (S37.atP (i:=1) rfl) rfl,bL (New.al (New.mono n36 S_.keep.size)) rfl (S37.atP (i:=2) rfl) rfl,trivial⟩,(cA (S37.atP (i:=0) rfl) (cA (S37.atP (i:=1) rfl) (cA (S37.atP (i:=2) rfl) nM)))⟩⟩
 ·intro e_ w_ k_ hf_ hR_
  have S_:St w_ nF w_ [] [bl b11 [I a1] 3,bl b8 ([I a0.Heap.Low,I a0.Heap.High]++(sgE eSpan a0.Eats 2++(sg a0.Extra 3++[SL A1 a0.Days.length c2,I a0.Collier.Low,I a0.Collier.High,I a0.Brings,SL A4 a0.Dips.length c5]))) 29,rd eCoalDay 3 A1 c2 a0.Days,rd eCoalDip 3 A4 c5 a0.Dips,gW0]:=S13.asP k_
  obtain ⟨_,_,_,_,⟨A26,c27,A28,c29,m30⟩,q38,p39,a40⟩:=hR_ 4 15 rfl (lE rfl) rfl
  replace q38:e_ 15=TU [AG ([I r22.1.CoalBook.Heap.Low,I r22.1.CoalBook.Heap.High]++(sgE eSpan r22.1.CoalBook.Eats 2++(sg r22.1.CoalBook.Extra 3++[SL A26 r22.1.CoalBook.Days.length c27,I r22.1.CoalBook.Collier.Low,I r22.1.CoalBook.Collier.High,I r22.1.CoalBook.Brings,SL A28 r22.1.CoalBook.Dips.length c29,Value.map m30]))),I r22.2]:=q38
  have S_:=St.addL' S_ (a40 _ (.head _)) (fun _ _ _ h_=>(nE h_))
  have S_:=St.addL' S_ (a40 _ (.tail _ (.head _))) (fun _ _ _ h_=>(nE h_))
  have S_:=St.addL' S_ (a40 _ (.tail _ (.tail _ (.head _)))) (fun _ _ _ h_=>(nE h_))
  refine hopE [(15,TU [AG ([I r22.1.CoalBook.Heap.Low,I r22.1.CoalBook.Heap.High]++(sgE eSpan r22.1.CoalBook.Eats 2++(sg r22.1.CoalBook.Extra 3++[SL A26 r22.1.CoalBook.Days.length c27,I r22.1.CoalBook.Collier.Low,I r22.1.CoalBook.Collier.High,I r22.1.CoalBook.Brings,SL A28 r22.1.CoalBook.Dips.length c29,Value.map m30]))),I r22.2])] ⟨q38,trivial⟩ ?_
  refine p_mT rfl<|wp_nil ?_
  exact ⟨_,rfl,S_.keep,rfl⟩
 ·intro e_ w_ k_ hf_ hR_
  have S_:St w_ nF w_ [] [bl b11 [I a1] 3,bl b8 ([I a0.Heap.Low,I a0.Heap.High]++(sgE eSpan a0.Eats 2++(sg a0.Extra 3++[SL A1 a0.Days.length c2,I a0.Collier.Low,I a0.Collier.High,I a0.Brings,SL A4 a0.Dips.length c5]))) 29,rd eCoalDay 3 A1 c2 a0.Days,rd eCoalDip 3 A4 c5 a0.Dips,gW0]:=S13.asP k_
  obtain ⟨_,_,_,_,⟨A26,c27,A28,c29,m30⟩,q42,p43,a44⟩:=hR_ 4 15 rfl (lE rfl) rfl
  replace q42:e_ 15=TU [AG ([I r22.1.CoalBook.Heap.Low,I r22.1.CoalBook.Heap.High]++(sgE eSpan r22.1.CoalBook.Eats 2++(sg r22.1.CoalBook.Extra 3++[SL A26 r22.1.CoalBook.Days.length c27,I r22.1.CoalBook.Collier.Low,I r22.1.CoalBook.Collier.High,I r22.1.CoalBook.Brings,SL A28 r22.1.CoalBook.Dips.length c29,Value.map m30]))),I r22.2]:=q42
  have S_:=St.addL' S_ (a44 _ (.head _)) (fun _ _ _ h_=>(nE h_))
  have S_:=St.addL' S_ (a44 _ (.tail _ (.head _))) (fun _ _ _ h_=>(nE h_))
  have S_:=St.addL' S_ (a44 _ (.tail _ (.tail _ (.head _)))) (fun _ _ _ h_=>(nE h_))
  obtain ⟨_,_,_,_,q41⟩:=hR_ 5 10 rfl (lE rfl) rfl
  replace q41:e_ 10=TU [AG ([I r22.1.CoalBook.Heap.Low,I r22.1.CoalBook.Heap.High]++(sgE eSpan r22.1.CoalBook.Eats 2++(sg r22.1.CoalBook.Extra 3++[SL A26 r22.1.CoalBook.Days.length c27,I r22.1.CoalBook.Collier.Low,I r22.1.CoalBook.Collier.High,I r22.1.CoalBook.Brings,SL A28 r22.1.CoalBook.Dips.length c29,Value.map m30]))),I r22.2]:=(sJ ((congrArg some q42).symm.trans q41)).symm
  refine hopE [(10,TU [AG ([I r22.1.CoalBook.Heap.Low,I r22.1.CoalBook.Heap.High]++(sgE eSpan r22.1.CoalBook.Eats 2++(sg r22.1.CoalBook.Extra 3++[SL A26 r22.1.CoalBook.Days.length c27,I r22.1.CoalBook.Collier.Low,I r22.1.CoalBook.Collier.High,I r22.1.CoalBook.Brings,SL A28 r22.1.CoalBook.Dips.length c29,Value.map m30]))),I r22.2])] ⟨q41,trivial⟩ ?_
  refine p_ext rfl rfl<|wp_nil ?_
  exact ⟨_,rfl,S_.keep,rfl⟩
 ·intro e_ w_ k_ hf_ hR_
  have S_:St w_ nF w_ [] [bl b11 [I a1] 3,bl b8 ([I a0.Heap.Low,I a0.Heap.High]++(sgE eSpan a0.Eats 2++(sg a0.Extra 3++[SL A1 a0.Days.length c2,I a0.Collier.Low,I a0.Collier.High,I a0.Brings,SL A4 a0.Dips.length c5]))) 29,rd eCoalDay 3 A1 c2 a0.Days,rd eCoalDip 3 A4 c5 a0.Dips,gW0]:=S13.asP k_
  obtain ⟨_,_,_,_,⟨A26,c27,A28,c29,m30⟩,q46,p47,a48⟩:=hR_ 4 15 rfl (lE rfl) rfl
  replace q46:e_ 15=TU [AG ([I r22.1.CoalBook.Heap.Low,I r22.1.CoalBook.Heap.High]++(sgE eSpan r22.1.CoalBook.Eats 2++(sg r22.1.CoalBook.Extra 3++[SL A26 r22.1.CoalBook.Days.length c27,I r22.1.CoalBook.Collier.Low,I r22.1.CoalBook.Collier.High,I r22.1.CoalBook.Brings,SL A28 r22.1.CoalBook.Dips.length c29,Value.map m30]))),I r22.2]:=q46
  have S_:=St.addL' S_ (a48 _ (.head _)) (fun _ _ _ h_=>(nE h_))
  have S_:=St.addL' S_ (a48 _ (.tail _ (.head _))) (fun _ _ _ h_=>(nE h_))
  have S_:=St.addL' S_ (a48 _ (.tail _ (.tail _ (.head _)))) (fun _ _ _ h_=>(nE h_))
  obtain ⟨_,_,_,_,q45⟩:=hR_ 5 10 rfl (lE rfl) rfl
  replace q45:e_ 10=TU [AG ([I r22.1.CoalBook.Heap.Low,I r22.1.CoalBook.Heap.High]++(sgE eSpan r22.1.CoalBook.Eats 2++(sg r22.1.CoalBook.Extra 3++[SL A26 r22.1.CoalBook.Days.length c27,I r22.1.CoalBook.Collier.Low,I r22.1.CoalBook.Collier.High,I r22.1.CoalBook.Brings,SL A28 r22.1.CoalBook.Dips.length c29,Value.map m30]))),I r22.2]:=(sJ ((congrArg some q46).symm.trans q45)).symm
  refine hopE [(10,TU [AG ([I r22.1.CoalBook.Heap.Low,I r22.1.CoalBook.Heap.High]++(sgE eSpan r22.1.CoalBook.Eats 2++(sg r22.1.CoalBook.Extra 3++[SL A26 r22.1.CoalBook.Days.length c27,I r22.1.CoalBook.Collier.Low,I r22.1.CoalBook.Collier.High,I r22.1.CoalBook.Brings,SL A28 r22.1.CoalBook.Dips.length c29,Value.map m30]))),I r22.2])] ⟨q45,trivial⟩ ?_
  refine p_ext rfl rfl<|wp_nil ?_
  exact ⟨_,rfl,S_.keep,rfl⟩
 ·intro e_ w_ k_ hf_ hR_
  have S_:St w_ nF w_ [] [bl b11 [I a1] 3,bl b8 ([I a0.Heap.Low,I a0.Heap.High]++(sgE eSpan a0.Eats 2++(sg a0.Extra 3++[SL A1 a0.Days.length c2,I a0.Collier.Low,I a0.Collier.High,I a0.Brings,SL A4 a0.Dips.length c5]))) 29,rd eCoalDay 3 A1 c2 a0.Days,rd eCoalDip 3 A4 c5 a0.Dips,gW0]:=S13.asP k_
  refine hopE [] trivial ?_
  refine p_allA in84 S_ fun b49 w50 S51=>wp_nil ?_
  exact ⟨_,rfl,S51.keep,⟨b49,rfl,⟨bL (New.al (S51.newX (i:=0) rfl)) rfl (S51.atX (i:=0) rfl) rfl,trivial⟩,(cA (S51.atX (i:=0) rfl) nM)⟩⟩
 ·intro e52 w53 lo54 hi55 k56 hf57 hR58 hd59
  have S60:=S13.call k56
  have q61:e52 11=AG ([I a0.Heap.Low,I a0.Heap.High]++(sgE eSpan a0.Eats 2++(sg a0.Extra 3++[SL A1 a0.Days.length c2,I a0.Collier.Low,I a0.Collier.High,I a0.Brings,SL A4 a0.Dips.length c5]))):=(hR58 0 11 (lE rfl) rfl).2.2.2
  have q62:e52 12=AG ([I a0.Heap.Low,I a0.Heap.High]++(sgE eSpan a0.Eats 2++(sg a0.Extra 3++[SL A1 a0.Days.length c2,I a0.Collier.Low,I a0.Collier.High,I a0.Brings,SL A4 a0.Dips.length c5]))):=(hR58 1 12 (lE rfl) rfl).2.2.2
  have q63:e52 13=I a1:=(hR58 2 13 (lE rfl) rfl).2.2.2
  have q64:e52 14=B r16:=(hR58 3 14 (lE rfl) rfl).2.2.2
  obtain ⟨h66,h67,h68,⟨A26,c27,A28,c29,m30⟩,q65,h69,h70⟩:=hR58 4 15 (lE rfl) rfl
  replace q65:e52 15=TU [AG ([I r22.1.CoalBook.Heap.Low,I r22.1.CoalBook.Heap.High]++(sgE eSpan r22.1.CoalBook.Eats 2++(sg r22.1.CoalBook.Extra 3++[SL A26 r22.1.CoalBook.Days.length c27,I r22.1.CoalBook.Collier.Low,I r22.1.CoalBook.Collier.High,I r22.1.CoalBook.Brings,SL A28 r22.1.CoalBook.Dips.length c29,Value.map m30]))),I r22.2]:=q65
  obtain ⟨p71,p72,p73,_⟩:=h69
  have S74:=St.addR S60 (h70 _ (.head _)) (oR p71 h66 S13 (mG [0,1] rfl))
  have S75:=St.addR S74 (h70 _ (.tail _ (.head _))) (oR p72 h66 S13 (nM))
  have S76:=St.addR S75 (h70 _ (.tail _ (.tail _ (.head _)))) (oR p73 h66 S13 (nM))
  have q77:e52 10=TU [AG ([I r22.1.CoalBook.Heap.Low,I r22.1.CoalBook.Heap.High]++(sgE eSpan r22.1.CoalBook.Eats 2++(sg r22.1.CoalBook.Extra 3++[SL A26 r22.1.CoalBook.Days.length c27,I r22.1.CoalBook.Collier.Low,I r22.1.CoalBook.Collier.High,I r22.1.CoalBook.Brings,SL A28 r22.1.CoalBook.Dips.length c29,Value.map m30]))),I r22.2]:=(sJ ((congrArg some q65).symm.trans (hR58 5 10 (lE rfl) rfl).2.2.2)).symm
  have q78:e52 16=AG ([I r22.1.CoalBook.Heap.Low,I r22.1.CoalBook.Heap.High]++(sgE eSpan r22.1.CoalBook.Eats 2++(sg r22.1.CoalBook.Extra 3++[SL A26 r22.1.CoalBook.Days.length c27,I r22.1.CoalBook.Collier.Low,I r22.1.CoalBook.Collier.High,I r22.1.CoalBook.Brings,SL A28 r22.1.CoalBook.Dips.length c29,Value.map m30]))):=(sJ ((congrArg (exG 0) q77).symm.trans (hR58 6 16 (lE rfl) rfl).2.2.2)).symm
  have q79:e52 17=I r22.2:=(sJ ((congrArg (exG 1) q77).symm.trans (hR58 7 17 (lE rfl) rfl).2.2.2)).symm
  obtain ⟨h81,h82,h83,b49,q80,h84,h85⟩:=hR58 8 6 (lE rfl) rfl
  replace q80:e52 6=P b49 0:=q80
  obtain ⟨p86,_⟩:=h84
  have S88:=St.addO S76 (h85 _ (.head _)) (oN p86 h81 S13) (oX p86 h81 S13) (cA (oP p86 p73 h81 S13 (nM) (hd59 8 4 (lE rfl) (lE rfl) (by decide))) (cA (oP p86 p72 h81 S13 (nM) (hd59 8 4 (lE rfl) (lE rfl) (by decide))) (cA (oP p86 p71 h81 S13 (mG [0,1] rfl) (hd59 8 4 (lE rfl) (lE rfl) (by decide))) (oL p86 h81 S13))))
  refine tailE [(3,P b11 0),(6,P b49 0),(16,AG ([I r22.1.CoalBook.Heap.Low,I r22.1.CoalBook.Heap.High]++(sgE eSpan r22.1.CoalBook.Eats 2++(sg r22.1.CoalBook.Extra 3++[SL A26 r22.1.CoalBook.Days.length c27,I r22.1.CoalBook.Collier.Low,I r22.1.CoalBook.Collier.High,I r22.1.CoalBook.Brings,SL A28 r22.1.CoalBook.Dips.length c29,Value.map m30])))),(17,I r22.2)] ⟨((hf57 3 rfl).trans (rfl:_=P b11 0)),q80,q78,q79,trivial⟩ ?_
  intro g89
  refine p_stP (pre:=[]) (old:=[I 0,I 0]++(sgE eSpan (List.replicate 2 (Span.mk 0 0)) 2++(sg (List.replicate 3 0) 3++[SL none 0 0,I 0,I 0,I 0,SL none 0 0,Value.map none]))) (post:=[]) (vs:=[I r22.1.CoalBook.Heap.Low,I r22.1.CoalBook.Heap.High]++(sgE eSpan r22.1.CoalBook.Eats 2++(sg r22.1.CoalBook.Extra 3++[SL A26 r22.1.CoalBook.Days.length c27,I r22.1.CoalBook.Collier.Low,I r22.1.CoalBook.Collier.High,I r22.1.CoalBook.Brings,SL A28 r22.1.CoalBook.Dips.length c29,Value.map m30]))) sz84 S88 (i:=0) rfl rfl rfl rfl (rfl:_=AG ([I r22.1.CoalBook.Heap.Low,I r22.1.CoalBook.Heap.High]++(sgE eSpan r22.1.CoalBook.Eats 2++(sg r22.1.CoalBook.Extra 3++[SL A26 r22.1.CoalBook.Days.length c27,I r22.1.CoalBook.Collier.Low,I r22.1.CoalBook.Collier.High,I r22.1.CoalBook.Brings,SL A28 r22.1.CoalBook.Dips.length c29,Value.map m30])))) rfl rfl rfl rfl fun w90 S91=>?_
  refine p_aI rfl<|wp_nil<|c_seq<|c_seq<|reg<|p_mI rfl<|p_cmp rfl rfl rfl<|wp_nil ?_
  refine c_cond rfl (fun c92=>?_) (fun c92=>?_)
  ·replace H:=condT c92 H
   refine c_seq<|reg<|p_mI rfl<|p_aI rfl<|p_aI rfl<|wp_nil ?_
   obtain rfl:=sJ H
   refine c_ret ?_; show bodyPostM (Fr none) 0 Tryd.prog Tryd.f17 _ .ret _ _
   refine ret_of (res2 rfl (rvT (rfl:_=I 0)) (rvT (rfl:_=I r22.2))) ?_
   exact ⟨_,rfl,rfl,S91.keep⟩
  ·replace H:=condF c92 H
   refine c_skip<|c_seq<|reg<|p_all in3 rfl S91 fun b93 w94 S95=>p_st sz3 S95 (i:=0) rfl rfl (rfl:_=I 0) rfl rfl fun w96 S97=>wp_nil<|c_seq<|c_seq<|reg<|p_ldA ty84 sz84 (S97.atX (i:=1) rfl) rfl rfl ?_
   obtain ⟨r98,h99,H⟩:=bindS H
   refine p_cal (coal_book_truths_ok h99 (S97.atP (i:=2) rfl) (S97.atP (i:=1) rfl) (S97.atP (i:=0) rfl)) fu51 rfl ?_
   rintro _ w100 ⟨b102,rfl,k101,⟨o103,n104⟩,_⟩
   have S105:=S97.addNew k101 o103 n104
   refine wp_nil<|c_block ?_
   have S106:=S105.fix (i:=0) rfl
   obtain ⟨r107,h108,H⟩:=bindS H
   have S109:=S106
   refine c_rangeG (α:=Int) (β:=Unit) (ε:=Coal_truth) (K:=[bl b102 ([I r22.1.CoalBook.Heap.Low,I r22.1.CoalBook.Heap.High]++(sgE eSpan r22.1.CoalBook.Eats 2++(sg r22.1.CoalBook.Extra 3++[SL A26 r22.1.CoalBook.Days.length c27,I r22.1.CoalBook.Collier.Low,I r22.1.CoalBook.Collier.High,I r22.1.CoalBook.Brings,SL A28 r22.1.CoalBook.Dips.length c29,Value.map m30]))) 84,rd eCoalDay 3 A26 c27 r22.1.CoalBook.Days,rd eCoalDip 3 A28 c29 r22.1.CoalBook.Dips,mpo ekG iE m30 r22.1.costs_]) (MK:=Go.Fx.mark) (XR:=fun D110=>[]++[bx D110 (.deferred (some []))]) (it:=fun {σ} yv s_=>coal_book_truths_1 s_ r22.1 yv) (enc:=yE1) (coal_Wind_r1 a1) [] (fun z_1 y_1=>[bl b93 [I z_1] 3,bl b49 ([I r22.1.CoalBook.Heap.Low,I r22.1.CoalBook.Heap.High]++(sgE eSpan r22.1.CoalBook.Eats 2++(sg r22.1.CoalBook.Extra 3++[SL A26 r22.1.CoalBook.Days.length c27,I r22.1.CoalBook.Collier.Low,I r22.1.CoalBook.Collier.High,I r22.1.CoalBook.Brings,SL A28 r22.1.CoalBook.Dips.length c29,Value.map m30]))) 84,bl b11 [I a1] 3,bl b8 ([I a0.Heap.Low,I a0.Heap.High]++(sgE eSpan a0.Eats 2++(sg a0.Extra 3++[SL A1 a0.Days.length c2,I a0.Collier.Low,I a0.Collier.High,I a0.Brings,SL A4 a0.Dips.length c5]))) 29]) 0 () h108 (ent_none (X0:=(fun z_1 y_1=>[bl b93 [I z_1] 3,bl b49 ([I r22.1.CoalBook.Heap.Low,I r22.1.CoalBook.Heap.High]++(sgE eSpan r22.1.CoalBook.Eats 2++(sg r22.1.CoalBook.Extra 3++[SL A26 r22.1.CoalBook.Days.length c27,I r22.1.CoalBook.Collier.Low,I r22.1.CoalBook.Collier.High,I r22.1.CoalBook.Brings,SL A28 r22.1.CoalBook.Dips.length c29,Value.map m30]))) 84,bl b11 [I a1] 3,bl b8 ([I a0.Heap.Low,I a0.Heap.High]++(sgE eSpan a0.Eats 2++(sg a0.Extra 3++[SL A1 a0.Days.length c2,I a0.Collier.Low,I a0.Collier.High,I a0.Brings,SL A4 a0.Dips.length c5]))) 29]) 0 ()++[]) S109) rfl fu77 (fun w_ σ yv_ s_ s'_ l_ G_ A_ hH_ hG_ hk_ hd_ hy_=>(coal_book_truths_1_ok hH_ hG_ (hk_ _ (mE (i:=0) rfl)) (hk_ _ (mE (i:=1) rfl)) (hk_ _ (mE (i:=2) rfl)) (hk_ _ (mE (i:=3) rfl)) hd_ hy_ (Link.refl _ _)).mono fun en_ w3_ ⟨u_,he_,A'_,hu_,hk2_,ho_,hf_⟩=>⟨u_,he_,hk2_,A'_,ho_,hf_⟩) (mG [0,3,2,1] rfl) (fun _=>rfl) nM ?_ ?_ ?_
   ·intro l111 oR112 oB113 Cr114 x_1 z_1 y_1 w115 b116 c117 z118 PP119 H S120 hlk121 ho122 hB123 hN124 hX125
    unfold coal_Wind_r1 at H
    replace S120:St w115 Cr114 w115 [bx l111 oR112,bl b93 [I z_1] 3,bl b49 ([I r22.1.CoalBook.Heap.Low,I r22.1.CoalBook.Heap.High]++(sgE eSpan r22.1.CoalBook.Eats 2++(sg r22.1.CoalBook.Extra 3++[SL A26 r22.1.CoalBook.Days.length c27,I r22.1.CoalBook.Collier.Low,I r22.1.CoalBook.Collier.High,I r22.1.CoalBook.Brings,SL A28 r22.1.CoalBook.Dips.length c29,Value.map m30]))) 84,bl b11 [I a1] 3,bl b8 ([I a0.Heap.Low,I a0.Heap.High]++(sgE eSpan a0.Eats 2++(sg a0.Extra 3++[SL A1 a0.Days.length c2,I a0.Collier.Low,I a0.Collier.High,I a0.Brings,SL A4 a0.Dips.length c5]))) 29] [bl b102 ([I r22.1.CoalBook.Heap.Low,I r22.1.CoalBook.Heap.High]++(sgE eSpan r22.1.CoalBook.Eats 2++(sg r22.1.CoalBook.Extra 3++[SL A26 r22.1.CoalBook.Days.length c27,I r22.1.CoalBook.Collier.Low,I r22.1.CoalBook.Collier.High,I r22.1.CoalBook.Brings,SL A28 r22.1.CoalBook.Dips.length c29,Value.map m30]))) 84,mpo ekG iE m30 r22.1.costs_,rd eCoalDip 3 A28 c29 r22.1.CoalBook.Dips,rd eCoalDay 3 A26 c27 r22.1.CoalBook.Days,rd eCoalDay 3 A1 c2 a0.Days,rd eCoalDip 3 A4 c5 a0.Dips,gW0]:=S120
    refine reg<|p_allA in113 S120 fun b126 w127 S128=>?_
    refine p_stP (pre:=[]) (old:=sg (List.replicate 2 0) 2++([I 0]++(sg (List.replicate 6 0) 6++sg (List.replicate 6 0) 6))) (post:=[]) (vs:=sg x_1.eats_ 2++([I x_1.collier_]++(sg x_1.winds_ 6++sg x_1.coal_ 6))) sz113 S128 (i:=0) rfl rfl rfl rfl (rfl:_=AG (sg x_1.eats_ 2++([I x_1.collier_]++(sg x_1.winds_ 6++sg x_1.coal_ 6)))) rfl rfl rfl rfl fun w129 S130=>wp_nil ?_
    refine hB123 _ _ 1 _ S130 rfl fun w131 S132=>?_
    replace S132:St w115 Cr114 w131 [bl b126 (sg x_1.eats_ 2++([I x_1.collier_]++(sg x_1.winds_ 6++sg x_1.coal_ 6))) 113,bx l111 oB113,bl b93 [I z_1] 3,bl b49 ([I r22.1.CoalBook.Heap.Low,I r22.1.CoalBook.Heap.High]++(sgE eSpan r22.1.CoalBook.Eats 2++(sg r22.1.CoalBook.Extra 3++[SL A26 r22.1.CoalBook.Days.length c27,I r22.1.CoalBook.Collier.Low,I r22.1.CoalBook.Collier.High,I r22.1.CoalBook.Brings,SL A28 r22.1.CoalBook.Dips.length c29,Value.map m30]))) 84,bl b11 [I a1] 3,bl b8 ([I a0.Heap.Low,I a0.Heap.High]++(sgE eSpan a0.Eats 2++(sg a0.Extra 3++[SL A1 a0.Days.length c2,I a0.Collier.Low,I a0.Collier.High,I a0.Brings,SL A4 a0.Dips.length c5]))) 29] [bl b102 ([I r22.1.CoalBook.Heap.Low,I r22.1.CoalBook.Heap.High]++(sgE eSpan r22.1.CoalBook.Eats 2++(sg r22.1.CoalBook.Extra 3++[SL A26 r22.1.CoalBook.Days.length c27,I r22.1.CoalBook.Collier.Low,I r22.1.CoalBook.Collier.High,I r22.1.CoalBook.Brings,SL A28 r22.1.CoalBook.Dips.length c29,Value.map m30]))) 84,mpo ekG iE m30 r22.1.costs_,rd eCoalDip 3 A28 c29 r22.1.CoalBook.Dips,rd eCoalDay 3 A26 c27 r22.1.CoalBook.Days,rd eCoalDay 3 A1 c2 a0.Days,rd eCoalDip 3 A4 c5 a0.Dips,gW0]:=S132
    refine c_block ?_
    obtain ⟨h133,H⟩:=needS H
    obtain ⟨h134,H⟩:=needS H
    refine reg_q mixed 7 (by kernel_rfl) ?_
    refine dS (fun _ k_=>p_ld ty3 (aS (S132.atX (i:=2) rfl) k_) rfl rfl dn)<|dS (fun _ k_=>p_ld ty3 (aS (S132.atX (i:=4) rfl) k_) rfl rfl dn)<|dS (fun _ k_=>p_fld fl113_2 rfl dn)<|dS (fun _ k_=>p_ixD ar111 h133 rfl rfl dn)<|dS (fun _ k_=>p_ldD (pre:=sg x_1.eats_ 2++[I x_1.collier_]) (post:=sg x_1.coal_ 6) ty3 (aS (S132.atX (i:=0) rfl) k_) rfl h133 rfl rfl dn) ?_
    refine dS (fun _ k_=>p_shl h134 rfl rfl dn)<|dS (fun _ k_=>p_orI rfl rfl dn) ?_
    intro w135 k136; have S137:=S132.call k136
    refine p_st sz3 S137 (i:=2) rfl rfl (rfl:_=I (orI z_1 (shlI 1 (aget x_1.winds_ a1)))) rfl rfl fun w138 S139=>wp_nil ?_
    have S140:=S139.pk [1,2,3,4,5] (by decide) [0,1,2,3,4,5,6] rfl rfl
    exact hN124 _ _ (orI z_1 (shlI 1 (aget x_1.winds_ a1))) () S140 (sJ H)
   ·intro hc146
    intro l140 D141 o142 y143 w144 S145
    have S147:St w nF w144 [bl b93 [I r107.2] 3,bl b49 ([I r22.1.CoalBook.Heap.Low,I r22.1.CoalBook.Heap.High]++(sgE eSpan r22.1.CoalBook.Eats 2++(sg r22.1.CoalBook.Extra 3++[SL A26 r22.1.CoalBook.Days.length c27,I r22.1.CoalBook.Collier.Low,I r22.1.CoalBook.Collier.High,I r22.1.CoalBook.Brings,SL A28 r22.1.CoalBook.Dips.length c29,Value.map m30]))) 84,bl b11 [I a1] 3,bl b8 ([I a0.Heap.Low,I a0.Heap.High]++(sgE eSpan a0.Eats 2++(sg a0.Extra 3++[SL A1 a0.Days.length c2,I a0.Collier.Low,I a0.Collier.High,I a0.Brings,SL A4 a0.Dips.length c5]))) 29,bx D141 (.deferred (some []))] [bl b102 ([I r22.1.CoalBook.Heap.Low,I r22.1.CoalBook.Heap.High]++(sgE eSpan r22.1.CoalBook.Eats 2++(sg r22.1.CoalBook.Extra 3++[SL A26 r22.1.CoalBook.Days.length c27,I r22.1.CoalBook.Collier.Low,I r22.1.CoalBook.Collier.High,I r22.1.CoalBook.Brings,SL A28 r22.1.CoalBook.Dips.length c29,Value.map m30]))) 84,mpo ekG iE m30 r22.1.costs_,rd eCoalDip 3 A28 c29 r22.1.CoalBook.Dips,rd eCoalDay 3 A26 c27 r22.1.CoalBook.Days,rd eCoalDay 3 A1 c2 a0.Days,rd eCoalDip 3 A4 c5 a0.Dips,gW0]:=St.tail1 S145
    refine c_seq<|reg<|p_ld ty3 (S147.atX (i:=0) rfl) rfl rfl<|p_aI rfl<|p_aI rfl<|wp_nil ?_
    refine c_ret ?_
    refine leave_mark S147 (i:=4) rfl fun w148 S149=>?_
    obtain rfl:=sJ H
    show bodyPostM (Fr none) 0 Tryd.prog Tryd.f17 _ .ret _ _
    refine ret_of (res2 rfl (rvT (rfl:_=I r107.2)) (rvT (rfl:_=I 0))) ?_
    exact ⟨_,rfl,rfl,S149.keep⟩
   ·intro k150 c151 hk152 hc153
    cases hk152
 ·intro e154 w155 lo156 hi157 k158 hf159 hR160 hd161
  have S162:=S13.call k158
  have q163:e154 11=AG ([I a0.Heap.Low,I a0.Heap.High]++(sgE eSpan a0.Eats 2++(sg a0.Extra 3++[SL A1 a0.Days.length c2,I a0.Collier.Low,I a0.Collier.High,I a0.Brings,SL A4 a0.Dips.length c5]))):=(hR160 0 11 (lE rfl) (by decide) rfl).2.2.2
  have q164:e154 12=AG ([I a0.Heap.Low,I a0.Heap.High]++(sgE eSpan a0.Eats 2++(sg a0.Extra 3++[SL A1 a0.Days.length c2,I a0.Collier.Low,I a0.Collier.High,I a0.Brings,SL A4 a0.Dips.length c5]))):=(hR160 1 12 (lE rfl) (by decide) rfl).2.2.2
  have q165:e154 13=I a1:=(hR160 2 13 (lE rfl) (by decide) rfl).2.2.2
  have q166:e154 14=B r16:=(hR160 3 14 (lE rfl) (by decide) rfl).2.2.2
  obtain ⟨h168,h169,h170,⟨A26,c27,A28,c29,m30⟩,q167,h171,h172⟩:=hR160 4 15 (lE rfl) (by decide) rfl
  replace q167:e154 15=TU [AG ([I r22.1.CoalBook.Heap.Low,I r22.1.CoalBook.Heap.High]++(sgE eSpan r22.1.CoalBook.Eats 2++(sg r22.1.CoalBook.Extra 3++[SL A26 r22.1.CoalBook.Days.length c27,I r22.1.CoalBook.Collier.Low,I r22.1.CoalBook.Collier.High,I r22.1.CoalBook.Brings,SL A28 r22.1.CoalBook.Dips.length c29,Value.map m30]))),I r22.2]:=q167
  obtain ⟨p173,p174,p175,_⟩:=h171
  have S176:=St.addR S162 (h172 _ (.head _)) (oR p173 h168 S13 (mG [0,1] rfl))
  have S177:=St.addR S176 (h172 _ (.tail _ (.head _))) (oR p174 h168 S13 (nM))
  have S178:=St.addR S177 (h172 _ (.tail _ (.tail _ (.head _)))) (oR p175 h168 S13 (nM))
  have q179:e154 10=TU [AG ([I r22.1.CoalBook.Heap.Low,I r22.1.CoalBook.Heap.High]++(sgE eSpan r22.1.CoalBook.Eats 2++(sg r22.1.CoalBook.Extra 3++[SL A26 r22.1.CoalBook.Days.length c27,I r22.1.CoalBook.Collier.Low,I r22.1.CoalBook.Collier.High,I r22.1.CoalBook.Brings,SL A28 r22.1.CoalBook.Dips.length c29,Value.map m30]))),I r22.2]:=(sJ ((congrArg some q167).symm.trans (hR160 5 10 (lE rfl) (by decide) rfl).2.2.2)).symm
  have q180:e154 16=AG ([I r22.1.CoalBook.Heap.Low,I r22.1.CoalBook.Heap.High]++(sgE eSpan r22.1.CoalBook.Eats 2++(sg r22.1.CoalBook.Extra 3++[SL A26 r22.1.CoalBook.Days.length c27,I r22.1.CoalBook.Collier.Low,I r22.1.CoalBook.Collier.High,I r22.1.CoalBook.Brings,SL A28 r22.1.CoalBook.Dips.length c29,Value.map m30]))):=(sJ ((congrArg (exG 0) q179).symm.trans (hR160 6 16 (lE rfl) (by decide) rfl).2.2.2)).symm
  obtain ⟨h182,h183,h184,b49,q181,h185,h186⟩:=hR160 8 6 (lE rfl) (by decide) rfl
  replace q181:e154 6=P b49 0:=q181
  obtain ⟨p187,_⟩:=h185
  have S189:=St.addO S178 (h186 _ (.head _)) (oN p187 h182 S13) (oX p187 h182 S13) (cA (oP p187 p175 h182 S13 (nM) (hd161 8 4 (lE rfl) (lE rfl) (by decide) (by decide) (by decide))) (cA (oP p187 p174 h182 S13 (nM) (hd161 8 4 (lE rfl) (lE rfl) (by decide) (by decide) (by decide))) (cA (oP p187 p173 h182 S13 (mG [0,1] rfl) (hd161 8 4 (lE rfl) (lE rfl) (by decide) (by decide) (by decide))) (oL p187 h182 S13))))
  refine tailE [(3,P b11 0),(6,P b49 0),(10,TU [AG ([I r22.1.CoalBook.Heap.Low,I r22.1.CoalBook.Heap.High]++(sgE eSpan r22.1.CoalBook.Eats 2++(sg r22.1.CoalBook.Extra 3++[SL A26 r22.1.CoalBook.Days.length c27,I r22.1.CoalBook.Collier.Low,I r22.1.CoalBook.Collier.High,I r22.1.CoalBook.Brings,SL A28 r22.1.CoalBook.Dips.length c29,Value.map m30]))),I r22.2]),(16,AG ([I r22.1.CoalBook.Heap.Low,I r22.1.CoalBook.Heap.High]++(sgE eSpan r22.1.CoalBook.Eats 2++(sg r22.1.CoalBook.Extra 3++[SL A26 r22.1.CoalBook.Days.length c27,I r22.1.CoalBook.Collier.Low,I r22.1.CoalBook.Collier.High,I r22.1.CoalBook.Brings,SL A28 r22.1.CoalBook.Dips.length c29,Value.map m30]))))] ⟨((hf159 3 rfl).trans (rfl:_=P b11 0)),q181,q179,q180,trivial⟩ ?_
  intro g190
  refine p_stP (pre:=[]) (old:=[I 0,I 0]++(sgE eSpan (List.replicate 2 (Span.mk 0 0)) 2++(sg (List.replicate 3 0) 3++[SL none 0 0,I 0,I 0,I 0,SL none 0 0,Value.map none]))) (post:=[]) (vs:=[I r22.1.CoalBook.Heap.Low,I r22.1.CoalBook.Heap.High]++(sgE eSpan r22.1.CoalBook.Eats 2++(sg r22.1.CoalBook.Extra 3++[SL A26 r22.1.CoalBook.Days.length c27,I r22.1.CoalBook.Collier.Low,I r22.1.CoalBook.Collier.High,I r22.1.CoalBook.Brings,SL A28 r22.1.CoalBook.Dips.length c29,Value.map m30]))) sz84 S189 (i:=0) rfl rfl rfl rfl (rfl:_=AG ([I r22.1.CoalBook.Heap.Low,I r22.1.CoalBook.Heap.High]++(sgE eSpan r22.1.CoalBook.Eats 2++(sg r22.1.CoalBook.Extra 3++[SL A26 r22.1.CoalBook.Days.length c27,I r22.1.CoalBook.Collier.Low,I r22.1.CoalBook.Collier.High,I r22.1.CoalBook.Brings,SL A28 r22.1.CoalBook.Dips.length c29,Value.map m30])))) rfl rfl rfl rfl fun w191 S192=>?_
  refine p_ext rfl rfl<|p_aI rfl<|wp_nil<|c_seq<|c_seq<|reg<|p_mI rfl<|p_cmp rfl rfl rfl<|wp_nil ?_
  refine c_cond rfl (fun c193=>?_) (fun c193=>?_)
  ·replace H:=condT c193 H
   refine c_seq<|reg<|p_mI rfl<|p_aI rfl<|p_aI rfl<|wp_nil ?_
   obtain rfl:=sJ H
   refine c_ret ?_; show bodyPostM (Fr none) 0 Tryd.prog Tryd.f17 _ .ret _ _
   refine ret_of (res2 rfl (rvT (rfl:_=I 0)) (rvT (rfl:_=I r22.2))) ?_
   exact ⟨_,rfl,rfl,S192.keep⟩
  ·replace H:=condF c193 H
   refine c_skip<|c_seq<|reg<|p_all in3 rfl S192 fun b194 w195 S196=>p_st sz3 S196 (i:=0) rfl rfl (rfl:_=I 0) rfl rfl fun w197 S198=>wp_nil<|c_seq<|c_seq<|reg<|p_ldA ty84 sz84 (S198.atX (i:=1) rfl) rfl rfl ?_
   obtain ⟨r199,h200,H⟩:=bindS H
   refine p_cal (coal_book_truths_ok h200 (S198.atP (i:=2) rfl) (S198.atP (i:=1) rfl) (S198.atP (i:=0) rfl)) fu51 rfl ?_
   rintro _ w201 ⟨b203,rfl,k202,⟨o204,n205⟩,_⟩
   have S206:=S198.addNew k202 o204 n205
   refine wp_nil<|c_block ?_
   have S207:=S206.fix (i:=0) rfl
   obtain ⟨r208,h209,H⟩:=bindS H
   have S210:=S207
   refine c_rangeG (α:=Int) (β:=Unit) (ε:=Coal_truth) (K:=[bl b203 ([I r22.1.CoalBook.Heap.Low,I r22.1.CoalBook.Heap.High]++(sgE eSpan r22.1.CoalBook.Eats 2++(sg r22.1.CoalBook.Extra 3++[SL A26 r22.1.CoalBook.Days.length c27,I r22.1.CoalBook.Collier.Low,I r22.1.CoalBook.Collier.High,I r22.1.CoalBook.Brings,SL A28 r22.1.CoalBook.Dips.length c29,Value.map m30]))) 84,rd eCoalDay 3 A26 c27 r22.1.CoalBook.Days,rd eCoalDip 3 A28 c29 r22.1.CoalBook.Dips,mpo ekG iE m30 r22.1.costs_]) (MK:=Go.Fx.mark) (XR:=fun D211=>[]++[bx D211 (.deferred (some []))]) (it:=fun {σ} yv s_=>coal_book_truths_1 s_ r22.1 yv) (enc:=yE1) (coal_Wind_r2 a1) [] (fun z_1 y_1=>[bl b194 [I z_1] 3,bl b49 ([I r22.1.CoalBook.Heap.Low,I r22.1.CoalBook.Heap.High]++(sgE eSpan r22.1.CoalBook.Eats 2++(sg r22.1.CoalBook.Extra 3++[SL A26 r22.1.CoalBook.Days.length c27,I r22.1.CoalBook.Collier.Low,I r22.1.CoalBook.Collier.High,I r22.1.CoalBook.Brings,SL A28 r22.1.CoalBook.Dips.length c29,Value.map m30]))) 84,bl b11 [I a1] 3,bl b8 ([I a0.Heap.Low,I a0.Heap.High]++(sgE eSpan a0.Eats 2++(sg a0.Extra 3++[SL A1 a0.Days.length c2,I a0.Collier.Low,I a0.Collier.High,I a0.Brings,SL A4 a0.Dips.length c5]))) 29]) 0 () h209 (ent_none (X0:=(fun z_1 y_1=>[bl b194 [I z_1] 3,bl b49 ([I r22.1.CoalBook.Heap.Low,I r22.1.CoalBook.Heap.High]++(sgE eSpan r22.1.CoalBook.Eats 2++(sg r22.1.CoalBook.Extra 3++[SL A26 r22.1.CoalBook.Days.length c27,I r22.1.CoalBook.Collier.Low,I r22.1.CoalBook.Collier.High,I r22.1.CoalBook.Brings,SL A28 r22.1.CoalBook.Dips.length c29,Value.map m30]))) 84,bl b11 [I a1] 3,bl b8 ([I a0.Heap.Low,I a0.Heap.High]++(sgE eSpan a0.Eats 2++(sg a0.Extra 3++[SL A1 a0.Days.length c2,I a0.Collier.Low,I a0.Collier.High,I a0.Brings,SL A4 a0.Dips.length c5]))) 29]) 0 ()++[]) S210) rfl fu77 (fun w_ σ yv_ s_ s'_ l_ G_ A_ hH_ hG_ hk_ hd_ hy_=>(coal_book_truths_1_ok hH_ hG_ (hk_ _ (mE (i:=0) rfl)) (hk_ _ (mE (i:=1) rfl)) (hk_ _ (mE (i:=2) rfl)) (hk_ _ (mE (i:=3) rfl)) hd_ hy_ (Link.refl _ _)).mono fun en_ w3_ ⟨u_,he_,A'_,hu_,hk2_,ho_,hf_⟩=>⟨u_,he_,hk2_,A'_,ho_,hf_⟩) (mG [0,3,2,1] rfl) (fun _=>rfl) nM ?_ ?_ ?_
   ·intro l212 oR213 oB214 Cr215 x_1 z_1 y_1 w216 b217 c218 z219 PP220 H S221 hlk222 ho223 hB224 hN225 hX226
    unfold coal_Wind_r2 at H
    replace S221:St w216 Cr215 w216 [bx l212 oR213,bl b194 [I z_1] 3,bl b49 ([I r22.1.CoalBook.Heap.Low,I r22.1.CoalBook.Heap.High]++(sgE eSpan r22.1.CoalBook.Eats 2++(sg r22.1.CoalBook.Extra 3++[SL A26 r22.1.CoalBook.Days.length c27,I r22.1.CoalBook.Collier.Low,I r22.1.CoalBook.Collier.High,I r22.1.CoalBook.Brings,SL A28 r22.1.CoalBook.Dips.length c29,Value.map m30]))) 84,bl b11 [I a1] 3,bl b8 ([I a0.Heap.Low,I a0.Heap.High]++(sgE eSpan a0.Eats 2++(sg a0.Extra 3++[SL A1 a0.Days.length c2,I a0.Collier.Low,I a0.Collier.High,I a0.Brings,SL A4 a0.Dips.length c5]))) 29] [bl b203 ([I r22.1.CoalBook.Heap.Low,I r22.1.CoalBook.Heap.High]++(sgE eSpan r22.1.CoalBook.Eats 2++(sg r22.1.CoalBook.Extra 3++[SL A26 r22.1.CoalBook.Days.length c27,I r22.1.CoalBook.Collier.Low,I r22.1.CoalBook.Collier.High,I r22.1.CoalBook.Brings,SL A28 r22.1.CoalBook.Dips.length c29,Value.map m30]))) 84,mpo ekG iE m30 r22.1.costs_,rd eCoalDip 3 A28 c29 r22.1.CoalBook.Dips,rd eCoalDay 3 A26 c27 r22.1.CoalBook.Days,rd eCoalDay 3 A1 c2 a0.Days,rd eCoalDip 3 A4 c5 a0.Dips,gW0]:=S221
    refine reg<|p_allA in113 S221 fun b227 w228 S229=>?_
    refine p_stP (pre:=[]) (old:=sg (List.replicate 2 0) 2++([I 0]++(sg (List.replicate 6 0) 6++sg (List.replicate 6 0) 6))) (post:=[]) (vs:=sg x_1.eats_ 2++([I x_1.collier_]++(sg x_1.winds_ 6++sg x_1.coal_ 6))) sz113 S229 (i:=0) rfl rfl rfl rfl (rfl:_=AG (sg x_1.eats_ 2++([I x_1.collier_]++(sg x_1.winds_ 6++sg x_1.coal_ 6)))) rfl rfl rfl rfl fun w230 S231=>wp_nil ?_
    refine hB224 _ _ 1 _ S231 rfl fun w232 S233=>?_
    replace S233:St w216 Cr215 w232 [bl b227 (sg x_1.eats_ 2++([I x_1.collier_]++(sg x_1.winds_ 6++sg x_1.coal_ 6))) 113,bx l212 oB214,bl b194 [I z_1] 3,bl b49 ([I r22.1.CoalBook.Heap.Low,I r22.1.CoalBook.Heap.High]++(sgE eSpan r22.1.CoalBook.Eats 2++(sg r22.1.CoalBook.Extra 3++[SL A26 r22.1.CoalBook.Days.length c27,I r22.1.CoalBook.Collier.Low,I r22.1.CoalBook.Collier.High,I r22.1.CoalBook.Brings,SL A28 r22.1.CoalBook.Dips.length c29,Value.map m30]))) 84,bl b11 [I a1] 3,bl b8 ([I a0.Heap.Low,I a0.Heap.High]++(sgE eSpan a0.Eats 2++(sg a0.Extra 3++[SL A1 a0.Days.length c2,I a0.Collier.Low,I a0.Collier.High,I a0.Brings,SL A4 a0.Dips.length c5]))) 29] [bl b203 ([I r22.1.CoalBook.Heap.Low,I r22.1.CoalBook.Heap.High]++(sgE eSpan r22.1.CoalBook.Eats 2++(sg r22.1.CoalBook.Extra 3++[SL A26 r22.1.CoalBook.Days.length c27,I r22.1.CoalBook.Collier.Low,I r22.1.CoalBook.Collier.High,I r22.1.CoalBook.Brings,SL A28 r22.1.CoalBook.Dips.length c29,Value.map m30]))) 84,mpo ekG iE m30 r22.1.costs_,rd eCoalDip 3 A28 c29 r22.1.CoalBook.Dips,rd eCoalDay 3 A26 c27 r22.1.CoalBook.Days,rd eCoalDay 3 A1 c2 a0.Days,rd eCoalDip 3 A4 c5 a0.Dips,gW0]:=S233
    refine c_block ?_
    obtain ⟨h234,H⟩:=needS H
    obtain ⟨h235,H⟩:=needS H
    refine reg_q mixed 7 (by kernel_rfl) ?_
    refine dS (fun _ k_=>p_ld ty3 (aS (S233.atX (i:=2) rfl) k_) rfl rfl dn)<|dS (fun _ k_=>p_ld ty3 (aS (S233.atX (i:=4) rfl) k_) rfl rfl dn)<|dS (fun _ k_=>p_fld fl113_2 rfl dn)<|dS (fun _ k_=>p_ixD ar111 h234 rfl rfl dn)<|dS (fun _ k_=>p_ldD (pre:=sg x_1.eats_ 2++[I x_1.collier_]) (post:=sg x_1.coal_ 6) ty3 (aS (S233.atX (i:=0) rfl) k_) rfl h234 rfl rfl dn) ?_
    refine dS (fun _ k_=>p_shl h235 rfl rfl dn)<|dS (fun _ k_=>p_orI rfl rfl dn) ?_
    intro w236 k237; have S238:=S233.call k237
    refine p_st sz3 S238 (i:=2) rfl rfl (rfl:_=I (orI z_1 (shlI 1 (aget x_1.winds_ a1)))) rfl rfl fun w239 S240=>wp_nil ?_
    have S241:=S240.pk [1,2,3,4,5] (by decide) [0,1,2,3,4,5,6] rfl rfl
    exact hN225 _ _ (orI z_1 (shlI 1 (aget x_1.winds_ a1))) () S241 (sJ H)
   ·intro hc247
    intro l241 D242 o243 y244 w245 S246
    have S248:St w nF w245 [bl b194 [I r208.2] 3,bl b49 ([I r22.1.CoalBook.Heap.Low,I r22.1.CoalBook.Heap.High]++(sgE eSpan r22.1.CoalBook.Eats 2++(sg r22.1.CoalBook.Extra 3++[SL A26 r22.1.CoalBook.Days.length c27,I r22.1.CoalBook.Collier.Low,I r22.1.CoalBook.Collier.High,I r22.1.CoalBook.Brings,SL A28 r22.1.CoalBook.Dips.length c29,Value.map m30]))) 84,bl b11 [I a1] 3,bl b8 ([I a0.Heap.Low,I a0.Heap.High]++(sgE eSpan a0.Eats 2++(sg a0.Extra 3++[SL A1 a0.Days.length c2,I a0.Collier.Low,I a0.Collier.High,I a0.Brings,SL A4 a0.Dips.length c5]))) 29,bx D242 (.deferred (some []))] [bl b203 ([I r22.1.CoalBook.Heap.Low,I r22.1.CoalBook.Heap.High]++(sgE eSpan r22.1.CoalBook.Eats 2++(sg r22.1.CoalBook.Extra 3++[SL A26 r22.1.CoalBook.Days.length c27,I r22.1.CoalBook.Collier.Low,I r22.1.CoalBook.Collier.High,I r22.1.CoalBook.Brings,SL A28 r22.1.CoalBook.Dips.length c29,Value.map m30]))) 84,mpo ekG iE m30 r22.1.costs_,rd eCoalDip 3 A28 c29 r22.1.CoalBook.Dips,rd eCoalDay 3 A26 c27 r22.1.CoalBook.Days,rd eCoalDay 3 A1 c2 a0.Days,rd eCoalDip 3 A4 c5 a0.Dips,gW0]:=St.tail1 S246
    refine c_seq<|reg<|p_ld ty3 (S248.atX (i:=0) rfl) rfl rfl<|p_aI rfl<|p_aI rfl<|wp_nil ?_
    refine c_ret ?_
    refine leave_mark S248 (i:=4) rfl fun w249 S250=>?_
    obtain rfl:=sJ H
    show bodyPostM (Fr none) 0 Tryd.prog Tryd.f17 _ .ret _ _
    refine ret_of (res2 rfl (rvT (rfl:_=I r208.2)) (rvT (rfl:_=I 0))) ?_
    exact ⟨_,rfl,rfl,S250.keep⟩
   ·intro k251 c252 hk253 hc254
    cases hk253
def B_Range (a0:Int) (a1:Int):Option Span:=
 some (Span.mk a0 a1)
set_option maxRecDepth 100000 in
theorem B_Range_ok {a0:Int}{a1:Int}{w:World}{r:Span} (H:B_Range a0 a1=some r):Calls Tryd.prog 18 #[I a0,I a1] w (RetV w (AG [I r.Low,I r.High])):=by
 unfold B_Range at H
 refine fn_of (n:=8) Tryd.func18 rfl rfl (lE rfl) ?_
 have S:=St.start w nF _ nM
 refine c_seq<|reg<|p_allA in23 S fun b1 w2 S3=>wp_nil<|c_seq<|reg<|p_mI rfl<|p_mI rfl<|p_bld (cs:=[I a0,I a1]) st23 (rfl:_=[(0,I a0),(1,I a1)]) (by kernel_rfl)<|p_stP (pre:=[]) (old:=[I 0,I 0]) (post:=[]) (vs:=[I a0,I a1]) sz23 S3 (i:=0) rfl rfl rfl rfl (rfl:_=AG [I a0,I a1]) rfl rfl rfl rfl fun w4 S5=>wp_nil ?_
 obtain rfl:=sJ H
 refine c_ret ?_; show bodyPostM (Fr none) 0 Tryd.prog Tryd.f18 _ .ret _ _
 refine ret_of (res1 rfl (rvA rfl ty23 sz23 (S5.atX (i:=0) rfl) rfl)) ?_
 exact ⟨_,rfl,rfl,S5.keep⟩
def B_Point (a0:Int):Option Span:=
 (B_Range a0 a0).bind fun r4=>
 some r4
set_option maxRecDepth 100000 in
theorem B_Point_ok {a0:Int}{w:World}{r:Span} (H:B_Point a0=some r):Calls Tryd.prog 21 #[I a0] w (RetV w (AG [I r.Low,I r.High])):=by
 unfold B_Point at H
 refine fn_of (n:=6) Tryd.func21 rfl rfl (lE rfl) ?_
 have S:=St.start w nF _ nM
 refine c_seq<|reg<|p_allA in23 S fun b1 w2 S3=>wp_nil<|c_seq<|reg<|p_mI rfl<|p_mI rfl ?_
 obtain ⟨r4,h5,H⟩:=bindS H
 refine p_cv (B_Range_ok h5) fu18 rfl S3 fun w6 S7=>p_stP (pre:=[]) (old:=[I 0,I 0]) (post:=[]) (vs:=[I r4.Low,I r4.High]) sz23 S7 (i:=0) rfl rfl rfl rfl (rfl:_=AG [I r4.Low,I r4.High]) rfl rfl rfl rfl fun w8 S9=>wp_nil ?_
 obtain rfl:=sJ H
 refine c_ret ?_; show bodyPostM (Fr none) 0 Tryd.prog Tryd.f21 _ .ret _ _
 refine ret_of (res1 rfl (rvA rfl ty23 sz23 (S9.atX (i:=0) rfl) rfl)) ?_
 exact ⟨_,rfl,rfl,S9.keep⟩
def law_grate06 (a0:List CoalDip):Option CoalBook:=
 (B_Point 30).bind fun r12=>
 (B_Point 3).bind fun r14=>
 some (CoalBook.mk r12 (List.replicate 2 (Span.mk 0 0)) [0,1,2] [(CoalDay.mk 1 1 7),(CoalDay.mk 1 1 7),(CoalDay.mk 1 1 7)] r14 0 a0)
set_option maxRecDepth 100000 in
theorem law_grate06_ok {a0:List CoalDip}{A1:Option Addr}{c2:Nat}{w:World}{r:CoalBook} (H:law_grate06 a0=some r) (h3:(rd eCoalDip 3 A1 c2 a0).ok w):Calls Tryd.prog 33 #[SL A1 a0.length c2] w fun en w_=>∃ u_,en=.returned u_∧∃ A_1:Option Addr,∃ c_2:Nat,u_=AG ([I r.Heap.Low,I r.Heap.High]++(sgE eSpan r.Eats 2++(sg r.Extra 3++[SL A_1 r.Days.length c_2,I r.Collier.Low,I r.Collier.High,I r.Brings,SL A1 a0.length c2])))∧Keep0 w w_∧((gr eCoalDay 3 59 A_1 c_2 r.Days).ok w_∧New w.heap.size (gr eCoalDay 3 59 A_1 c_2 r.Days))∧True:=by
 unfold law_grate06 at H
 refine fn_of (n:=14) Tryd.func33 rfl rfl (lE rfl) ?_
 have S:=St.start w nF _ (cA h3 nM)
 refine c_seq<|reg<|p_allA in29 S fun b4 w5 S6=>wp_nil<|c_seq<|reg<|p_bld (cs:=[I 1,I 1,I 7]) st59 (rfl:_=[(0,I 1),(1,I 1),(2,I 7)]) (by kernel_rfl)<|p_allA in59 S6 fun b7 w8 S9=>p_stP (pre:=[]) (old:=[I 0,I 0,I 0]) (post:=[]) (vs:=[I 1,I 1,I 7]) sz59 S9 (i:=0) rfl rfl rfl rfl (rfl:_=AG [I 1,I 1,I 7]) rfl rfl rfl rfl fun w10 S11=>wp_nil<|c_seq ?_
 obtain ⟨r12,h13,H⟩:=bindS H
 obtain ⟨r14,h15,H⟩:=bindS H
 refine reg_c mixed 9 [5,8] (by kernel_rfl) ?_
 refine kS rfl (fun _ k_=>p_cvD (B_Point_ok h13) fu21 rfl)<|kS rfl (fun _ k_=>p_bldA (z:=[I 0,I 0,I 0]) (cs:=[I 0,I 1,I 2]) ba25 (rfl:_=[(0,I 0),(1,I 1),(2,I 2)]) (by kernel_rfl) dn)<|kS rfl (fun _ k_=>p_ldA ty59 sz59 (aS (S11.atX (i:=0) rfl) k_) rfl rfl dn)<|kS rfl (fun _ k_=>p_ldA ty59 sz59 (aS (S11.atX (i:=0) rfl) k_) rfl rfl dn) ?_
 refine kS rfl (fun _ k_=>p_ldA ty59 sz59 (aS (S11.atX (i:=0) rfl) k_) rfl rfl dn)<|kC rfl<|kS rfl (fun _ k_=>p_cvD (B_Point_ok h15) fu21 rfl)<|kS rfl (fun _ k_=>p_mS rfl dn)<|kC rfl ?_
 intro w16 k17; have S18:=S11.call k17
 have S24:=S18.base
 refine p_bsl (enc:=eCoalDay) (l:=[(CoalDay.mk 1 1 7),(CoalDay.mk 1 1 7),(CoalDay.mk 1 1 7)]) (fun x=>AG (eCoalDay x)) (fun _=>rfl) sc26 in59 eCoalDay_len rfl (by decide) (by decide) zr59_3 S24 rfl fun A19 c20 w21 S22=>?_
 refine cN S22.keep fun w25 k26=>?_
 have S27:=(S18.fromBase S22).call k26
 refine p_bld (cs:=[I r12.Low,I r12.High]++(sgE eSpan (List.replicate 2 (Span.mk 0 0)) 2++[I 0,I 1,I 2,SL A19 [(CoalDay.mk 1 1 7),(CoalDay.mk 1 1 7),(CoalDay.mk 1 1 7)].length c20,I r14.Low,I r14.High,I 0,SL A1 a0.length c2])) st29 (rfl:_=[(0,AG [I r12.Low,I r12.High]),(2,AG [I 0,I 1,I 2]),(3,SL A19 [(CoalDay.mk 1 1 7),(CoalDay.mk 1 1 7),(CoalDay.mk 1 1 7)].length c20),(4,AG [I r14.Low,I r14.High]),(6,SL A1 a0.length c2)]) (by kernel_rfl) (cN (kR) fun w28 k29=>?_)
 have S30:=S27.call k29
 refine p_stP (pre:=[]) (old:=[I 0,I 0]++(sgE eSpan (List.replicate 2 (Span.mk 0 0)) 2++(sg (List.replicate 3 0) 3++[SL none 0 0,I 0,I 0,I 0,SL none 0 0]))) (post:=[]) (vs:=[I r12.Low,I r12.High]++(sgE eSpan (List.replicate 2 (Span.mk 0 0)) 2++[I 0,I 1,I 2,SL A19 [(CoalDay.mk 1 1 7),(CoalDay.mk 1 1 7),(CoalDay.mk 1 1 7)].length c20,I r14.Low,I r14.High,I 0,SL A1 a0.length c2])) sz29 S30 (i:=2) rfl rfl rfl rfl (rfl:_=AG ([I r12.Low,I r12.High]++(sgE eSpan (List.replicate 2 (Span.mk 0 0)) 2++[I 0,I 1,I 2,SL A19 [(CoalDay.mk 1 1 7),(CoalDay.mk 1 1 7),(CoalDay.mk 1 1 7)].length c20,I r14.Low,I r14.High,I 0,SL A1 a0.length c2]))) rfl rfl rfl rfl fun w31 S32=>?_
 refine wp_nil ?_
 obtain rfl:=sJ H
 refine c_ret ?_; show bodyPostM (Fr none) 0 Tryd.prog Tryd.f33 _ .ret _ _
 refine ret_of (res1 rfl (rvA rfl ty29 sz29 (S32.atX (i:=2) rfl) rfl)) ?_
 exact ⟨_,rfl,A19,c20,rfl,S32.keep,⟨S32.atX (i:=0) rfl,S32.newX (i:=0) rfl⟩,trivial⟩
def chain_within (a0:Int) (a1:Int) (a2:Int):Option Bool:=
 bif decide (a1≤a0) then (some (decide (a0≤a2)))
 else (some false)
set_option maxRecDepth 100000 in
theorem chain_within_ok {a0:Int}{a1:Int}{a2:Int}{w:World}{r:Bool} (H:chain_within a0 a1 a2=some r):Calls Tryd.prog 52 #[I a0,I a1,I a2] w (RetV w (B r)):=by
 unfold chain_within at H
 refine fn_of (n:=15) Tryd.func52 rfl rfl (lE rfl) ?_
 have S:=St.start w nF _ nM
 refine c_seq<|reg<|p_aB rfl<|wp_nil<|c_seq<|reg<|p_mI rfl<|p_mI rfl<|p_cmp rfl rfl rfl<|p_mB rfl ?_
 rcases bE (decide (a1≤a0)) with c1 | c1
 ·replace H:=condT c1 H
  refine eB c1 ?_
  refine gT rfl rfl (p_mI rfl ?_)
  refine gT rfl rfl (p_mI rfl ?_)
  refine gT rfl rfl (p_cmp rfl rfl rfl ?_)
  refine p_pkT rfl (rfl:_=B (decide (a0≤a2)))<|p_aB rfl<|wp_nil ?_
  obtain rfl:=sJ H
  exact c_ret (rT Tryd.f52 S.keep rfl rfl)
 ·replace H:=condF c1 H
  refine eB c1<|gF rfl rfl<|gF rfl rfl<|gF rfl rfl<|p_pkF rfl (rfl:_=B false)<|p_aB rfl<|wp_nil ?_
  obtain rfl:=sJ H
  exact c_ret (rT Tryd.f52 S.keep rfl rfl)
def chain_isSpan (a0:Span) (a1:Int) (a2:Int):Option Bool:=
 bif decide (0≤a0.Low) then (bif decide (a0.Low≤a0.High) then (bif decide (a0.High≤a1) then (some (decide ((wr (a0.High - a0.Low))≤a2)))
 else (some false))
 else (some false))
 else (some false)
set_option maxRecDepth 100000 in
theorem chain_isSpan_ok {a0:Span}{a1:Int}{a2:Int}{w:World}{r:Bool} (H:chain_isSpan a0 a1 a2=some r):Calls Tryd.prog 53 #[AG [I a0.Low,I a0.High],I a1,I a2] w (RetV w (B r)):=by
 unfold chain_isSpan at H
 refine fn_of (n:=32) Tryd.func53 rfl rfl (lE rfl) ?_
 have S:=St.start w nF _ nM
 refine c_seq<|reg<|p_boxA rfl S fun b1 w2 S3=>p_aB rfl<|wp_nil<|c_seq<|reg<|p_fld fl23_0 rfl<|p_ld ty3 (S3.atX (i:=0) rfl) rfl rfl<|p_cmp rfl rfl rfl<|p_mB rfl ?_
 rcases bE (decide (0≤a0.Low)) with c4 | c4
 ·replace H:=condT c4 H
  refine eB c4 ?_
  refine gT rfl rfl (p_fld fl23_0 rfl ?_)
  refine gT rfl rfl (p_ld ty3 (S3.atX (i:=0) rfl) rfl rfl ?_)
  refine gT rfl rfl (p_fld fl23_1 rfl ?_)
  refine gT rfl rfl (p_ld ty3 (S3.atX (i:=0) rfl) rfl rfl ?_)
  refine gT rfl rfl (p_cmp rfl rfl rfl ?_)
  refine p_pkT rfl (rfl:_=B (decide (a0.Low≤a0.High)))<|p_mB rfl ?_
  rcases bE (decide (a0.Low≤a0.High)) with c5 | c5
  ·replace H:=condT c5 H
   refine eB c5 ?_
   refine gT rfl rfl (p_fld fl23_1 rfl ?_)
   refine gT rfl rfl (p_ld ty3 (S3.atX (i:=0) rfl) rfl rfl ?_)
   refine gT rfl rfl (p_mI rfl ?_)
   refine gT rfl rfl (p_cmp rfl rfl rfl ?_)
   refine p_pkT rfl (rfl:_=B (decide (a0.High≤a1)))<|p_mB rfl ?_
   rcases bE (decide (a0.High≤a1)) with c6 | c6
   ·replace H:=condT c6 H
    refine eB c6 ?_
    refine gT rfl rfl (p_fld fl23_1 rfl ?_)
    refine gT rfl rfl (p_ld ty3 (S3.atX (i:=0) rfl) rfl rfl ?_)
    refine gT rfl rfl (p_fld fl23_0 rfl ?_)
    refine gT rfl rfl (p_ld ty3 (S3.atX (i:=0) rfl) rfl rfl ?_)
    refine gT rfl rfl (p_sub rfl rfl ?_)
    refine gT rfl rfl (p_mI rfl ?_)
    refine gT rfl rfl (p_cmp rfl rfl rfl ?_)
    refine p_pkT rfl (rfl:_=B (decide ((wr (a0.High - a0.Low))≤a2)))<|p_aB rfl<|wp_nil ?_
    obtain rfl:=sJ H
    exact c_ret (rT Tryd.f53 S3.keep rfl rfl)
   ·replace H:=condF c6 H
    refine eB c6<|gF rfl rfl<|gF rfl rfl<|gF rfl rfl<|gF rfl rfl<|gF rfl rfl<|gF rfl rfl<|gF rfl rfl<|p_pkF rfl (rfl:_=B false)<|p_aB rfl<|wp_nil ?_
    obtain rfl:=sJ H
    exact c_ret (rT Tryd.f53 S3.keep rfl rfl)
  ·replace H:=condF c5 H
   refine eB c5<|gF rfl rfl<|gF rfl rfl<|gF rfl rfl<|gF rfl rfl<|p_pkF rfl (rfl:_=B false)<|p_mB rfl<|gF rfl rfl<|gF rfl rfl<|gF rfl rfl<|gF rfl rfl<|gF rfl rfl<|gF rfl rfl<|gF rfl rfl<|p_pkF rfl (rfl:_=B false)<|p_aB rfl<|wp_nil ?_
   obtain rfl:=sJ H
   exact c_ret (rT Tryd.f53 S3.keep rfl rfl)
 ·replace H:=condF c4 H
  refine eB c4<|gF rfl rfl<|gF rfl rfl<|gF rfl rfl<|gF rfl rfl<|gF rfl rfl<|p_pkF rfl (rfl:_=B false)<|p_mB rfl<|gF rfl rfl<|gF rfl rfl<|gF rfl rfl<|gF rfl rfl<|p_pkF rfl (rfl:_=B false)<|p_mB rfl<|gF rfl rfl<|gF rfl rfl<|gF rfl rfl<|gF rfl rfl<|gF rfl rfl<|gF rfl rfl<|gF rfl rfl<|p_pkF rfl (rfl:_=B false)<|p_aB rfl<|wp_nil ?_
  obtain rfl:=sJ H
  exact c_ret (rT Tryd.f53 S3.keep rfl rfl)
structure ChainSection where
 Thick:Span
 Wear:Span
 deriving DecidableEq,Inhabited
structure ChainSurvey where
 Section:Int
 Day:Int
 Read:Int
 Error:Int
 deriving DecidableEq,Inhabited
structure ChainBook where
 Sections:List ChainSection
 Turns:List Int
 Surveys:List ChainSurvey
 Rule:Int
 Days:Int
 deriving DecidableEq,Inhabited
def eChainSection (x:ChainSection):List Value:=[I x.Thick.Low,I x.Thick.High,I x.Wear.Low,I x.Wear.High]
theorem eChainSection_len (x:ChainSection):(eChainSection x).length=4:=rfl
def eChainSurvey (x:ChainSurvey):List Value:=[I x.Section,I x.Day,I x.Read,I x.Error]
theorem eChainSurvey_len (x:ChainSurvey):(eChainSurvey x).length=4:=rfl
theorem eChainSurvey_one (x:ChainSurvey):∀ u∈eChainSurvey x,u.oneCell' =true:=by simp [eChainSurvey,sg,sgF,Value.oneCell']
def chain_isSection (a0:ChainBook) (a1:Int):Option Bool:=
 (chain_within a1 0 (wr ((a0.Sections.length:Int) - 1))).bind fun r13=>
 some r13
set_option maxRecDepth 100000 in
theorem chain_isSection_ok {a0:ChainBook}{a1:Int}{A1:Option Addr}{c2:Nat}{A4:Option Addr}{c5:Nat}{A7:Option Addr}{c8:Nat}{w:World}{r:Bool} (H:chain_isSection a0 a1=some r) (h3:(rd eChainSection 4 A1 c2 a0.Sections).ok w) (h6:(rd intE 1 A4 c5 a0.Turns).ok w) (h9:(rd eChainSurvey 4 A7 c8 a0.Surveys).ok w):Calls Tryd.prog 58 #[AG [SL A1 a0.Sections.length c2,SL A4 a0.Turns.length c5,SL A7 a0.Surveys.length c8,I a0.Rule,I a0.Days],I a1] w (RetV w (B r)):=by
 unfold chain_isSection at H
 refine fn_of (n:=11) Tryd.func58 rfl rfl (lE rfl) ?_
 have S:=St.start w nF _ (cA h3 (cA h6 (cA h9 nM)))
 refine c_seq<|reg<|p_boxA rfl S fun b10 w11 S12=>p_aB rfl<|wp_nil<|c_seq<|reg<|p_mI rfl<|p_fld fl63_0 rfl<|p_ld ty60 (S12.atX (i:=0) rfl) rfl rfl<|p_len rfl sc60<|p_sub rfl rfl ?_
 obtain ⟨r13,h14,H⟩:=bindS H
 refine p_cv (chain_within_ok h14) fu52 rfl S12 fun w15 S16=>p_aB rfl<|wp_nil ?_
 obtain rfl:=sJ H
 exact c_ret (rT Tryd.f58 S16.keep rfl rfl)
def chain_isDay (a0:ChainBook) (a1:Int):Option Bool:=
 (chain_within a1 0 a0.Days).bind fun r13=>
 some r13
set_option maxRecDepth 100000 in
theorem chain_isDay_ok {a0:ChainBook}{a1:Int}{A1:Option Addr}{c2:Nat}{A4:Option Addr}{c5:Nat}{A7:Option Addr}{c8:Nat}{w:World}{r:Bool} (H:chain_isDay a0 a1=some r) (h3:(rd eChainSection 4 A1 c2 a0.Sections).ok w) (h6:(rd intE 1 A4 c5 a0.Turns).ok w) (h9:(rd eChainSurvey 4 A7 c8 a0.Surveys).ok w):Calls Tryd.prog 59 #[AG [SL A1 a0.Sections.length c2,SL A4 a0.Turns.length c5,SL A7 a0.Surveys.length c8,I a0.Rule,I a0.Days],I a1] w (RetV w (B r)):=by
 unfold chain_isDay at H
 refine fn_of (n:=9) Tryd.func59 rfl rfl (lE rfl) ?_
 have S:=St.start w nF _ (cA h3 (cA h6 (cA h9 nM)))
 refine c_seq<|reg<|p_boxA rfl S fun b10 w11 S12=>p_aB rfl<|wp_nil<|c_seq<|reg<|p_mI rfl<|p_fld fl63_4 rfl<|p_ld ty3 (S12.atX (i:=0) rfl) rfl rfl ?_
 obtain ⟨r13,h14,H⟩:=bindS H
 refine p_cv (chain_within_ok h14) fu52 rfl S12 fun w15 S16=>p_aB rfl<|wp_nil ?_
 obtain rfl:=sJ H
 exact c_ret (rT Tryd.f59 S16.keep rfl rfl)
def chain_isSurvey (a0:ChainBook) (a1:ChainSurvey):Option Bool:=
 (chain_isSection a0 a1.Section).bind fun r16=>
 bif r16 then ((chain_isDay a0 a1.Day).bind fun r21=>
 bif r21 then ((chain_within a1.Read 0 200).bind fun r26=>
 bif r26 then ((chain_within a1.Error 0 5).bind fun r31=>
 some r31)
 else (some false))
 else (some false))
 else (some false)
end Go.Proofs.YtblfippmobpaaaaDoor
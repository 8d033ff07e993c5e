/- Part of a logic of my own for walks: rules by which a proof steps through code, proved once. -/
import Derived.Test.YtafhljljfglfeaaDoorZGFxLook
import Derived.Test.YtafhljljfglfeaaDoorProg
import Derived.KernelRfl
import Derived.Test.YtafhljljfglfeaaDoorZGFxOpt
set_option linter.unusedSimpArgs false
set_option linter.unusedVariables false
namespace Go.Fx
open Go
def ga {σ:Type} (G:σ→Asr→Prop) (s:σ) (A:Asr):Asr where
 fp:=A.fp
 ok w:=G s A∧A.ok w
 mono w w' h k:=⟨h.1,A.mono _ _ h.2 k⟩
 inb w b h hb:=A.inb _ _ h.2 hb
structure Link (w:World) (C0:Nat→Prop) (w0:World) (C:Nat→Prop):Prop where
 keep:Keep C0 w w0
 fp:∀ b,C b→C0 b∨w.heap.size≤b
theorem Link.refl (w:World) (C:Nat→Prop):Link w C w C:=⟨Keep.refl _ _,fun _ h=>.inl h⟩
theorem Link.trans {w w0 w1:World}{C0 C C1:Nat→Prop} (h:Link w C0 w0 C) (k:Link w0 C w1 C1):Link w C0 w1 C1:=by
 refine ⟨⟨k.keep.os.trans h.keep.os,k.keep.tape.trans h.keep.tape,k.keep.output.trans h.keep.output,Nat.le_trans h.keep.size k.keep.size,fun b hb hn=>?_⟩,fun b hb=>?_⟩
 ·refine (k.keep.block b (Nat.lt_of_lt_of_le hb h.keep.size) fun hc=>?_).trans (h.keep.block b hb hn)
  rcases h.fp b hc with h' | h'
  ·exact hn h'
  ·omega
 ·rcases k.fp b hb with h' | h'
  ·exact h.fp b h'
  ·exact .inr (Nat.le_trans h.keep.size h')
theorem Link.of {w w0 w1:World}{C0 C:Nat→Prop} (h:Link w C0 w0 C) (k:Keep C w0 w1):Keep C0 w w1:=(h.trans ⟨k,fun _ h=>.inl h⟩:Link w C0 w1 C).keep
def YH (P:Program) (l:Nat) {ε σ:Type} (enc:ε→List Value) (yv:ε→σ→Option (Bool×σ)) (G:σ→Asr→Prop) (w:World) (C0:Nat→Prop):Prop:=
 ∀ x s b s2 A w2,yv x s=some (b,s2)→G s A→A.ok w2→Keep C0 w w2→(∀ b,A.fp b→C0 b∨w.heap.size≤b)→
   YieldsTo P l (enc x).toArray w2 fun r w3=>r=b∧Keep A.fp w2 w3∧∃ A',A'.ok w3∧(∀ b,A'.fp b→A.fp b∨w2.heap.size≤b)∧G s2 A'
def IterG (P:Program) (f:Nat) (first caps:Array Value) {ε:Type} (enc:ε→List Value) (it:∀ {σ:Type},(ε→σ→Option (Bool×σ))→σ→Option σ) (w:World) (K:List Asr):Prop:=
 ∀ (σ:Type) (yv:ε→σ→Option (Bool×σ)) (s s' :σ) (l:Nat) (G:σ→Asr→Prop) (A0:Asr),it yv s=some s' →(ga G s A0).ok w→(∀ p∈K,p.ok w)→(∀ p∈K,∀ b,p.fp b→¬A0.fp b)→YH P l enc yv G w A0.fp→
   Calls P f (first++#[.func (.yield l) #[] #[]]++caps) w fun en w' =>∃ v,en=.returned v∧Keep A0.fp w w' ∧∃ A',(ga G s' A').ok w' ∧(∀ b,A'.fp b→A0.fp b∨w.heap.size≤b)
def yvOf {ε α:Type} (bd:ε→α→Option (Bool×Nat×α)) (x:ε) (s:Nat×α):Option (Bool×Nat×α):=bif s.1==0 then bd x s.2 else none
theorem yvOf_some {ε α:Type}{bd:ε→α→Option (Bool×Nat×α)}{x:ε}{s:Nat×α}{r:Bool×Nat×α} (h:yvOf bd x s=some r):s.1=0∧bd x s.2=some r:=by
 unfold yvOf at h
 cases hs:(s.1==0)
 ·rw [hs] at h; cases h
 ·rw [hs] at h; exact ⟨by simpa using hs,h⟩
def exOf:Code→Exit
 | .ret=>.ret
 | .exit id=>.exit id
 | _=>.normal
section
variable {P:Program}{w0 w:World}{C:Nat→Prop}{X L:List Asr}
theorem o_yieldG {ro:Option Nat}{full:Array Oper}{Q:Exit→Act→World→Prop}{n:Nat}{d:List Deferred}{e:Env}{rest:List Oper}{ty:TypeId}{ps:String}{af:Array Edge}
 {ε σ:Type}{enc:ε→List Value}{yv:ε→σ→Option (Bool×σ)}{G:σ→Asr→Prop}{s s2:σ}{A:Asr}{wb:World}{C0:Nat→Prop}{x:ε}{b:Bool}{i l j:Nat}{g:Operand}{aa:Array Operand}{ts:Array TypeId}
 (hb:yv x s=some (b,s2)) (hy:YH P l enc yv G wb C0) (hl:Link wb C0 w0 C) (S:St w0 C w X L) (hj:X[j]? =some (ga G s A)) (hg:evn n e g=.func (.yield l) #[] #[]) (ha:aa.toList.map (evn n e)=enc x)
 (h:∀ A' w',St w0 C w' (X.set j (ga G s2 A')) L→wpA ro P full Q rest (E n (upd e i (.bool b)) d) w'):wpA ro P full Q (⟨some i,.call ⟨.value g,aa,ts⟩,ty,ps,af,none⟩::rest) (E n e d) w:=by
 have hA:(ga G s A).ok w:=S.atX hj
 have hf:∀ b,A.fp b→C0 b∨wb.heap.size≤b:=fun b hb=>by
  rcases S.own _ (List.mem_of_getElem? hj) b hb with h | h
  ·exact .inr (Nat.le_trans hl.keep.size h)
  ·exact hl.fp b h
 refine o_yield hg ha (hy x s b s2 A w hb hA.1 hA.2 (hl.of S.keep) hf) fun r w' ⟨hr,hk,A',hok,hfp,hG⟩=>?_
 subst hr
 exact h A' w' (S.turn hj (y:=ga G s2 A') ⟨hG,hok⟩ hfp hk.os hk.tape hk.output hk.size fun b hb hne=>hk.block b hb hne)
theorem St.itCall {σ:Type}{G:σ→Asr→Prop}{s s2:σ}{A A' :Asr}{w' :World} (S:St w0 C w X L) {j:Nat} (hj:X[j]? =some (ga G s A)) (hk:Keep A.fp w w') (hok:(ga G s2 A').ok w') (hf:∀ b,A'.fp b→A.fp b∨w.heap.size≤b):St w0 C w' (X.set j (ga G s2 A')) L:=
 S.turn hj hok hf hk.os hk.tape hk.output hk.size fun b hb hne=>hk.block b hb hne
theorem St.link {σ:Type}{G:σ→Asr→Prop}{s:σ}{A:Asr}{wb:World}{C0:Nat→Prop} (S:St w0 C w X L) {j:Nat} (hj:X[j]? =some (ga G s A)) (hl:Link wb C0 w0 C):Link wb C0 w A.fp:=
 hl.trans ⟨S.keep,fun b hb=>(S.own _ (List.mem_of_getElem? hj) b hb).symm⟩
theorem St.apart {A:Asr} (S:St w0 C w X L) {j:Nat}{p:Asr} (hj:X[j]? =some p) (hp:∀ b,A.fp b→p.fp b):∀ q∈L,∀ b,q.fp b→¬A.fp b:=fun q hq b h1 h2=>S.dp _ (List.mem_of_getElem? hj) q hq b (hp b h2) h1
end
section
variable {ro:Option Nat}{P:Program}{Q:Exit→Act→World→Prop}{n:Nat}{d:List Deferred}{e:Env}{w w0:World}{C:Nat→Prop}{L:List Asr}
variable {α β ε:Type}
theorem ent_none {X0:List Asr}{tm:Array Value}{ps:Array Tmp}{assign body:Code} (S:St w0 C w X0 L):∀ fn,∃ l D w1,(Instr.enterLoop fn tm ps assign body none).run P w=.ok (l,mark D) w1∧
 St w0 C w1 (bx l (.loop (recL fn tm ps assign body D .ready none))::(X0++[bx D (.deferred (some []))])) L:=by
 intro fn
 refine ⟨(w.alloc (.deferred (some []))).heap.size,w.heap.size,(w.alloc (.deferred (some []))).alloc (.loop (recL fn tm ps assign body w.heap.size .ready none)),?_,(((S.alloc (.deferred (some []))).alloc (.loop (recL fn tm ps assign body w.heap.size .ready none))).perm (List.Perm.cons _ (List.perm_append_singleton _ _).symm))⟩
 simp only [Instr.enterLoop,newObj]
 rfl
theorem c_rangeG {g:Operand}{ps:Array Tmp}{assign body:Code}{f:Nat}{first caps:Array Value}{K:List Asr}{MK:Nat→List Deferred}{XR:Nat→List Asr}{it:∀ {σ:Type},(ε→σ→Option (Bool×σ))→σ→Option σ}{enc:ε→List Value}
 (bd:ε→α→Option (Bool×Nat×α)) (codes:List Code) (X:α→β→List Asr) (z0:α) (y0:β) {r:Nat×α} (H:it (yvOf bd) (0,z0)=some r)
 (hent:∀ fn,∃ l D w1,(Instr.enterLoop fn (E n e d).tmps ps assign body ro).run P w=.ok (l,MK D) w1∧St w0 C w1 (bx l (.loop (recL fn (E n e d).tmps ps assign body D .ready none))::(X z0 y0++XR D)) L)
 (hg:evn n e g=.func (.func f) first caps) (hF:funOf P f=true) (hit:∀ w',IterG P f first caps enc it w' K) (hK:∀ p∈K,p∈L) (hlen:∀ x,(enc x).length=ps.size) (hcodes:∀ c∈codes,c=.ret∨∃ id,c=.exit id)
 (round:∀ (l:Nat) (oR oB:Obj) (Cr:Nat→Prop) (x:ε) (z:α) (y:β) (w2:World) (b:Bool) (c2:Nat) (z2:α) (PP:Exit→Act→World→Prop),bd x z=some (b,c2,z2)→St w2 Cr w2 (bx l oR::X z y) L→Link w0 C w2 Cr→(∃ r,oB=.loop r)→
  (∀ (w1:World) (XX:List Asr) (k:Nat) (Kt:World→Prop),St w2 Cr w1 XX L→XX[k]? =some (bx l oR)→(∀ w',St w2 Cr w' (XX.set k (bx l oB)) L→Kt w')→∃ w',(Instr.beginRound l).run P w1=.ok () w' ∧Kt w')→
  (∀ a w3 z' y',St w2 Cr w3 (bx l oB::X z' y') L→(true,0,z')=(b,c2,z2)→PP .normal a w3)→
  (∀ (k:Nat) (c:Code) a w3 z' y',codes[k]? =some c→St w2 Cr w3 (bx l oB::X z' y') L→(false,k+1,z')=(b,c2,z2)→PP (exOf c) a w3)→
  assign.wpIn (Fr (some l)) 0 P (Exit.then (fun a₁ w₁=>∃ w₂,(Instr.beginRound l).run P w₁=.ok () w₂∧body.wpIn (Fr (some l)) 0 P PP a₁ w₂) (fun _ _ _=>False)) (E n (upl e ps.toList (enc x)) []) w2)
 (done:r.1=0→∀ (l D:Nat) (o:Obj) (y:β) (w' :World),St w0 C w' (bx l o::(X r.2 y++XR D)) L→Q .normal (E n e (MK D++d)) w')
 (jump:∀ (k:Nat) (c:Code),codes[k]? =some c→r.1=k+1→∀ (l D:Nat) (o:Obj) (y:β) (w' :World),St w0 C w' (bx l o::(X r.2 y++XR D)) L→c.wpIn (Fr ro) 0 P Q (E n e (MK D++d)) w'):
 (Code.rangeFunc g ps assign body).wpIn (Fr ro) 0 P Q (E n e d) w:=by
 refine wpIn_rangeFunc fun fn _=>?_
 obtain ⟨l,D,w1,hrun,S1⟩:=hent fn
 let rc:=recL fn (E n e d).tmps ps assign body D
 have S2:St w0 C w1 ((bx l (.loop (rc .ready none))::X z0 y0)++XR D) L:=S1
 let A0:=all (bx l (.loop (rc .ready none))::X z0 y0)
 have hA0:A0.ok w1:=⟨fun x hx=>S2.xs x (List.mem_append_left _ hx),(List.pairwise_append.1 S2.dx).1⟩
 have hdA:∀ p∈L,∀ b,p.fp b→¬A0.fp b:=fun p hp b hb ⟨x,hx,hxb⟩=>S2.dp x (List.mem_append_left _ hx) p hp b hxb hb
 have hev:(E n e d).eval g=.func (.func f) first caps:=by rw [E_eval]; exact hg
 let G:Nat×α→Asr→Prop:=fun s A=>(s.1=0∧∃ y,A=all (bx l (.loop (rc .ready none))::X s.2 y))∨(∃ k c y,s.1=k+1∧codes[k]? =some c∧A=all (bx l (.loop (rc .done (some c)))::X s.2 y))
 have hown0:∀ b,A0.fp b→C b∨w0.heap.size≤b:=fun b ⟨x,hx,hb⟩=>(S2.own x (List.mem_append_left _ hx) b hb).symm
 refine ⟨l,MK D,w1,{ target:=.fn (.func f) caps,args:=first++#[.func (.yield l) #[] #[]] },w1,f,first++#[.func (.yield l) #[] #[]]++caps,w1,hrun,?_,fun _ _=>trivial,run_invoke hF _,fun h=>by simp at h,?_⟩
 ·have hcn:∀ v,(E n e d).eval (.const v)=v:=fun _=>rfl
  simp [resolve,rangeCall,hev,hcn,Deferred.ofValue]
 refine callsIn_of (fun _=>trivial) rfl rfl ?_
 refine (hit w1 _ (yvOf bd) (0,z0) r l G A0 H ⟨.inl ⟨rfl,y0,rfl⟩,hA0⟩ (fun p hp=>S2.ps p (hK p hp)) (fun p hp=>hdA p (hK p hp)) ?_).mono ?_
 ·rintro x ⟨c,z⟩ b ⟨c2,z2⟩ A w2 hyv hG hok hkp hfp
  obtain ⟨hc0,hbd⟩:=yvOf_some hyv
  simp only at hc0 hbd
  subst hc0
  rcases hG with ⟨_,y,rfl⟩ | ⟨k,_,_,hk,_⟩
  case inr=>simp at hk
  have SL:St w2 (all (bx l (.loop (rc .ready none))::X z y)).fp w2 (bx l (.loop (rc .ready none))::X z y) L:=by
   refine ⟨Keep.refl _ _,hok.1,fun p hp=>p.mono _ _ (S2.ps p hp) fun b hb=>hkp.block b (p.inb _ _ (S2.ps p hp) hb) (hdA p hp b hb),hok.2,fun x hx p hp b hxb hpb=>?_,fun x hx b hb=>.inr ⟨x,hx,hb⟩⟩
   rcases hfp b ⟨x,hx,hxb⟩ with h | h
   ·exact hdA p hp b hpb h
   ·have:=p.inb _ _ (S2.ps p hp) hpb; omega
  have hlink:Link w0 C w2 (all (bx l (.loop (rc .ready none))::X z y)).fp:=
   (⟨S2.keep,hown0⟩:Link w0 C w1 A0.fp).trans ⟨hkp,fun b hb=>hfp b hb⟩
  have hw:=round l (.loop (rc .ready none)) (.loop (rc .busy none)) _ x z y w2 b c2 z2
   (roundPost P l (RR l rc (fun _ (p:α×β)=>(true,0,p.1)=(b,c2,z2)) (fun cd (p:α×β)=>∃ k,codes[k]? =some cd∧(false,k+1,p.1)=(b,c2,z2)) (fun p=>X p.1 p.2) 0 w2 (all (bx l (.loop (rc .ready none))::X z y))))
   hbd SL hlink ⟨_,rfl⟩ (fun w1 XX k Kt S hk hKt=>rr_begin S hk hKt)
   (fun a w3 z' y' S hz=>rr_next (y' :=(z',y')) S hz)
   (fun k c a w3 z' y' hk S hz=>by
    rcases hcodes c (List.mem_of_getElem? hk) with rfl | ⟨id,rfl⟩
    ·exact rr_ret (y' :=(z',y')) S ⟨k,hk,hz⟩
    ·exact rr_exit (y' :=(z',y')) S ⟨k,hk,hz⟩)
  refine ⟨fn,(E n (upl e ps.toList (enc x)) d).tmps,assign,body,?_,?_⟩
  ·have h1:w2.heap[l]? =some (.loop (rc .ready none)):=SL.at (i:=0) rfl
   have hz:(Array.foldl (fun (t:Array Value) (p:Nat×Value)=>t.setIfInBounds p.1 p.2) (E n e d).tmps (ps.zip (enc x).toArray))=(E n (upl e ps.toList (enc x)) d).tmps:=by
    rw [← upl_E,← Array.foldl_toList,Array.toList_zip]
   have hsz:(enc x).toArray.size=ps.size:=by simpa using hlen x
   have hrun:(Instr.yield l (enc x).toArray).run P w2=.ok (.round l fn (Array.foldl (fun (t:Array Value) (p:Nat×Value)=>t.setIfInBounds p.1 p.2) (E n e d).tmps (ps.zip (enc x).toArray)) assign body) w2:=by
    have hsz2:(enc x).length=ps.size:=hlen x
    simp [Instr.yield,run_getLoop h1,rc,recL,hsz2]
   rw [hrun,hz]
  ·have hri:RoundIn (Fr none) 0 P l fn (E n (upl e ps.toList (enc x)) d).tmps assign body w2 (RR l rc (fun _ (p:α×β)=>(true,0,p.1)=(b,c2,z2)) (fun cd (p:α×β)=>∃ k,codes[k]? =some cd∧(false,k+1,p.1)=(b,c2,z2)) (fun p=>X p.1 p.2) 0 w2 (all (bx l (.loop (rc .ready none))::X z y))):=roundIn_of_wpIn trivial hw
   refine RoundIn.mono hri ?_
   rintro en w3 ⟨q,he,hk,A',hok',hfp',hG⟩
   rcases hG with ⟨rfl,⟨z',y'⟩,hI,rfl⟩ | ⟨rfl,⟨z',y'⟩,cd,⟨k,hck,hI⟩,rfl⟩
   ·injection hI with h1 h2; injection h2 with h2 h3
    subst h1 h2 h3
    exact ⟨true,he,rfl,hk,_,hok',hfp',.inl ⟨rfl,y',rfl⟩⟩
   ·injection hI with h1 h2; injection h2 with h2 h3
    subst h1 h2 h3
    exact ⟨false,he,rfl,hk,_,hok',hfp',.inr ⟨k,cd,y',rfl,hck,rfl⟩⟩
 ·rintro en w3 ⟨v,rfl,hkp,A',⟨hG,hok⟩,hfp⟩
  rcases hG with ⟨hr,y,rfl⟩ | ⟨k,c,y,hr,hk,rfl⟩
  ·have S3:=S2.frame hkp hok hfp
   refine ⟨none,_,run_endLoop (S3.at (i:=0) rfl) (by simp [rc,recL]),?_⟩
   exact done hr l D _ y _ (S3.setB (i:=0) rfl)
  ·have S3:=S2.frame hkp hok hfp
   refine ⟨some c,_,run_endLoop (S3.at (i:=0) rfl) (by simp [rc,recL]),?_⟩
   exact jump k c hk hr l D _ y _ (S3.setB (i:=0) rfl)
end
end Go.Fx
namespace Go.Fx
end Go.Fx
namespace Go.Fx
open Go
section
variable {α:Type} [Inhabited α] {enc:α→List Value}{s:Nat}
variable {ro:Option Nat}{P:Program}{full:Array Oper}{Q:Exit→Act→World→Prop}{n:Nat}{d:List Deferred}{e:Env}{w w0:World}{C:Nat→Prop}{X L:List Asr}
variable {rest:List Oper}{ty:TypeId}{ps:String}{af:Array Edge}
end
end Go.Fx
namespace Go.Fx
section
def arrElOf (P:Program) (t:TypeId):Option (Nat×TypeId):=match P.underlying t with | some (.array n el)=>some (n,el) | _=>none
variable {ro:Option Nat}{P:Program}{full:Array Oper}{Q:Exit→Act→World→Prop}{n:Nat}{d:List Deferred}{e:Env}{w w0:World}{C:Nat→Prop}{X L:List Asr}
variable {rest:List Oper}{ty:TypeId}{ps:String}{af:Array Edge}
theorem arrEl_und {t m el:Nat} (h:arrElOf P t=some (m,el)):P.underlying t=some (.array m el):=by
 unfold arrElOf at h
 split at h
 ·rename_i hu; cases h; exact hu
 ·cases h
theorem p_idxI {t i el m:Nat}{x y:Operand}{l:List Int}{k:IntKind}{j:Int} (hT:arrElOf P t=some (m,el)) (hs:sizOf P el=some 1) (hA:aggOf P el=some false) (hj:inI j m=true) (hx:evn n e x=AG (sg l m)) (hy:evn n e y=.int k j)
 (h:wpA ro P full Q rest (E n (upd e i (I (aget l j))) d) w):wpA ro P full Q (⟨some i,.index t x y,ty,ps,af,none⟩::rest) (E n e d) w:=by
 obtain ⟨h0,h1⟩:=inI_spec hj
 have hg:(sg l m)[j.toNat]? =some (I (aget l j)):=sg_get l (by omega)
 have hj' :j < (m:Int):=h1
 refine op_val (v:=I (aget l j)) rfl (fun _ h=>by cases h) ?_ h
 have hx' :evn n e x=.agg (sg l m).toArray:=hx
 simp [execOp,Instr.index,hx',hy,asIntOf,run_und (arrEl_und hT),h0,h1,run_sizeOf hs,part,run_isAgg hA,hg]
end
end Go.Fx
namespace Go.Fx
section
variable {κ ν:Type}{ek:κ→Value}{ev:ν→Value}{w w0:World}{C:Nat→Prop}{X L:List Asr}
theorem St.mpoN (S:St w0 C w X L) (ek:κ→Value) (ev:ν→Value):St w0 C w X (mpo ek ev none ([]:List (κ×ν))::L):=S.addL' mpo_none fun b hb=>by cases hb
end
end Go.Fx
namespace Go.Fx
section
variable {ro:Option Nat}{P:Program}{full:Array Oper}{Q:Exit→Act→World→Prop}{n:Nat}{d:List Deferred}{e:Env}{w w0:World}{C:Nat→Prop}{X L:List Asr}
variable {rest:List Oper}{ty:TypeId}{ps:String}{af:Array Edge}
theorem two_second {j:Int} (h:inI j 2=true) (h0:(j==0)=false):j=1:=by
 have:=inI_spec h
 have:j≠0:=by simpa using h0
 omega
theorem St.arrRd {b m o:Nat}{pre post cs:List Value}{l r:List Int}{ct:TypeId}{a:Int} (S:St w0 C w X L) {i:Nat} (hi:L[i]? =some (bl b cs ct)) (hcs:cs=pre++(sg l m++post)) (ho:pre.length=o) (hc:cutI (sgl l m) 0 a=some r) (hm:m≤1000):St w0 C w X (rd intE 1 (some ⟨b,o,none⟩) m r::L):=by
 obtain ⟨h0,h1,h2,hr⟩:=cutI_some hc
 rw [sgl_len] at h2
 have hw:w.heap[b]? =some (.cells cs.toArray ct (0,0)):=S.atP hi
 have hb:=(Array.getElem?_eq_some_iff.1 hw).1
 refine S.addL' ⟨.inr ⟨b,o,rfl,hb,fun k x hk j v hj=>?_⟩,by have:=sgl_len l m; rw [hr]; simp only [List.length_drop,List.length_take]; omega,by rw [maxLen_eq]; omega⟩ fun b' hb' x hx hxb=>S.dp x hx _ (List.mem_of_getElem? hi) b' hxb ?_
 ·have hkr:k < r.length:=(List.getElem?_eq_some_iff.1 hk).1
  have hkm:k < m:=by have:=sgl_len l m; rw [hr] at hkr; simp only [List.length_drop,List.length_take] at hkr; omega
  have hj0:j=0:=by
   have:=(List.getElem?_eq_some_iff.1 hj).1
   rw [intE_len] at this; omega
  subst hj0
  have hv:v=.int .i64 x:=by simpa [intE] using hj.symm
  subst hv
  have hx' :x=l.getD k 0:=by
   rw [hr,show (0:Int).toNat=0 from rfl,List.drop_zero,List.getElem?_take] at hk
   split at hk
   ·unfold sgl at hk
    rw [List.getElem?_map,List.getElem?_range hkm] at hk
    exact (Option.some.inj hk).symm
   ·cases hk
  subst hx'
  rw [cell_of hw,hcs]
  simp only [List.getElem?_toArray]
  rw [List.getElem?_append_right (by omega),List.getElem?_append_left (by rw [sg_len]; omega),show o+k*1+0 - pre.length=k by omega]
  exact sg_get l hkm
 ·obtain ⟨_,a',ha,rfl⟩:=hb'
  have:=Option.some.inj ha
  subst this
  rfl
end
end Go.Fx
namespace Go.Fx
section
variable {ro:Option Nat}{P:Program}{full:Array Oper}{Q:Exit→Act→World→Prop}{n:Nat}{d:List Deferred}{e:Env}{w w0:World}{C:Nat→Prop}{X L:List Asr}
variable {rest:List Oper}{ty:TypeId}{ps:String}{af:Array Edge}
end
end Go.Fx
namespace Go.Fx
open Go
section
variable {ro:Option Nat}{P:Program}{full:Array Oper}{Q:Exit→Act→World→Prop}{n:Nat}{d:List Deferred}{e:Env}{w w0:World}{C:Nat→Prop}{X L:List Asr}
variable {rest:List Oper}{ty:TypeId}{ps:String}{af:Array Edge}
theorem p_cutA3 {t i el m o b:Nat}{x hi mx:Operand}{l r:List Int}{a:Int} (hT:arrElOf P t=some (m,el)) (hs:sizOf P el=some 1) (hc:cutI (sgl l m) 0 a=some r) (hx:evn n e x=.pointer (some ⟨b,o,none⟩)) (hhi:evn n e hi=I a) (hmx:evn n e mx=I a)
 (h:wpA ro P full Q rest (E n (upd e i (SL (some ⟨b,o,none⟩) r.length r.length)) d) w):wpA ro P full Q (⟨some i,.slice t x none (some hi) (some mx),ty,ps,af,none⟩::rest) (E n e d) w:=by
 obtain ⟨h0,h1,h2,hr⟩:=cutI_some hc
 rw [sgl_len] at h2
 have hlen:r.length=a.toNat:=by have:=sgl_len l m; rw [hr]; simp only [List.length_drop,List.length_take]; omega
 rw [hlen] at h
 refine op_val (v:=SL (some ⟨b,o,none⟩) a.toNat a.toNat) rfl (fun _ h=>by cases h) ?_ h
 have hhi' :evn n e hi=.int .i64 a:=hhi
 have hmx' :evn n e mx=.int .i64 a:=hmx
 simp [execOp,Instr.sliceAt,Instr.sureAddr,run_und (arrEl_und hT),hx,hhi',hmx',Instr.sliceBounds,run_bound rfl h1 h2,run_bound (y:=a.toNat) rfl h1 (show a≤(a.toNat:Int) by omega),run_sizeOf hs]
 intro _
 simp [Addr.add]
theorem St.arrRd3 {b m o:Nat}{pre post cs:List Value}{l r:List Int}{ct:TypeId}{a:Int} (S:St w0 C w X L) {i:Nat} (hi:L[i]? =some (bl b cs ct)) (hcs:cs=pre++(sg l m++post)) (ho:pre.length=o) (hc:cutI (sgl l m) 0 a=some r) (hm:m≤1000):St w0 C w X (rd intE 1 (some ⟨b,o,none⟩) r.length r::L):=by
 have S1:=S.arrRd hi hcs ho hc hm
 have hp:=rd_full (S1.atP (i:=0) rfl)
 have S2:=S1.addL' (p:=rd intE 1 (some ⟨b,o,none⟩) r.length r) hp fun b' hb' x hx hxb=>S1.dp x hx _ (List.mem_of_getElem? (i:=0) rfl) b' hxb hb'
 exact S2.less (List.Sublist.refl _) fun p hp=>by
  rcases List.mem_cons.1 hp with rfl | h
  ·exact List.mem_cons_self ..
  ·exact List.mem_cons_of_mem _ (List.mem_cons_of_mem _ h)
end
end Go.Fx
namespace Go.Fx
open Go
def Dj (p q:Asr):Prop:=∀ b,p.fp b→¬q.fp b
theorem Dj.symm {p q:Asr} (h:Dj p q):Dj q p:=fun b h1 h2=>h b h2 h1
section
variable {w0 w w' :World}{C:Nat→Prop}{X L:List Asr}
theorem St.apXX (S:St w0 C w X L) {i j:Nat}{p q:Asr} (hi:X[i]? =some p) (hj:X[j]? =some q) (hne:i≠j):Dj p q:=by
 obtain ⟨h1,rfl⟩:=List.getElem?_eq_some_iff.1 hi
 obtain ⟨h2,rfl⟩:=List.getElem?_eq_some_iff.1 hj
 rcases Nat.lt_or_gt_of_ne hne with h | h
 ·exact List.pairwise_iff_getElem.1 S.dx i j h1 h2 h
 ·exact Dj.symm (List.pairwise_iff_getElem.1 S.dx j i h2 h1 h)
theorem St.callMo (S:St w0 C w X L) (k:Keep0 w w') (O N:List Asr) (hO:∀ x∈O,x.ok w' ∧New w.heap.size x) (hp:O.Pairwise Dj) (hN:∀ p∈N,p.ok w' ∧∀ b,p.fp b→w.heap.size≤b∨∃ q∈L,q.fp b) (hd:∀ x∈O,∀ p∈N,Dj x p):St w0 C w' (O++X) (N++L):=by
 have S1:=S.callN k N hN
 refine ⟨S1.keep,fun x hx=>?_,S1.ps,?_,fun x hx p hpp b h1 h2=>?_,fun x hx b h1=>?_⟩
 ·rcases List.mem_append.1 hx with h | h
  ·exact (hO x h).1
  ·exact S1.xs x h
 ·refine List.pairwise_append.2 ⟨hp,S1.dx,fun x hx y hy b h1 h2=>?_⟩
  have:=y.inb _ _ (S.xs y hy) h2
  have:=(hO x hx).2 b h1
  omega
 ·rcases List.mem_append.1 hx with h | h
  ·rcases List.mem_append.1 hpp with h' | h'
   ·exact hd x h p h' b h1 h2
   ·have:=p.inb _ _ (S.ps p h') h2
    have:=(hO x h).2 b h1
    omega
  ·exact S1.dp x h p hpp b h1 h2
 ·rcases List.mem_append.1 hx with h | h
  ·exact .inl (Nat.le_trans S.keep.size ((hO x h).2 b h1))
  ·exact S1.own x h b h1
end
section
variable {ro:Option Nat}{P:Program}{full:Array Oper}{Q:Exit→Act→World→Prop}{n:Nat}{d:List Deferred}{e:Env}{w w0:World}{C:Nat→Prop}{X L:List Asr}
variable {rest:List Oper}{ty:TypeId}{ps:String}{af:Array Edge}
theorem sl_take {α:Type}{enc:α→List Value}{s:Nat}{A:Option Addr}{xs:List α} (h:(sl enc s A xs).ok w) (k:Nat):(sl enc s A (xs.take k)).ok w:=by
 rcases h with h | ⟨b,o,h1,h2,h3⟩
 ·subst h; exact .inl (by simp)
 ·refine .inr ⟨b,o,h1,h2,fun i x hi j v hj=>h3 i x ?_ j v hj⟩
  rw [List.getElem?_take] at hi
  split at hi
  ·exact hi
  ·cases hi
theorem rd_cutH {α:Type}{enc:α→List Value}{s c:Nat}{A:Option Addr}{l l' :List α}{b:Int} (hc:cutI l 0 b=some l') (hw:(rd enc s A c l).ok w):(rd enc s A c l').ok w:=by
 obtain ⟨h0,h1,h2,rfl⟩:=cutI_some hc
 obtain ⟨q1,q2,q3⟩:=hw
 refine ⟨?_,by simp; omega,q3⟩
 rw [show (0:Int).toNat=0 from rfl,List.drop_zero]
 exact sl_take q1 _
theorem p_cutH {α:Type}{enc:α→List Value}{t i el s c:Nat}{x hi:Operand}{A:Option Addr}{l l' :List α}{b:Int} (hT:slcOf P t=some (el,s)) (hc:cutI l 0 b=some l') (hw:(rd enc s A c l).ok w) (hx:evn n e x=.slice A l.length c) (hhi:evn n e hi=I b)
 (h:wpA ro P full Q rest (E n (upd e i (SL A l'.length c)) d) w):wpA ro P full Q (⟨some i,.slice t x none (some hi) none,ty,ps,af,none⟩::rest) (E n e d) w:=by
 obtain ⟨h0,h1,h2,rfl⟩:=cutI_some hc
 have hl:=hw.2.1
 unfold slcOf at hT
 split at hT
 ·rename_i el' hu
  obtain ⟨D,hD1,hD2⟩:=Option.map_eq_some_iff.1 hT
  injection hD2 with e1 e2
  subst e1 e2
  refine op_val (v:=SL A b.toNat c) rfl (fun _ h=>by cases h) ?_ (by
   have:((l.take b.toNat).drop (0:Int).toNat).length=b.toNat:=by simp; omega
   rw [this] at h
   exact h)
  have hhi' :evn n e hi=.int .i64 b:=hhi
  simp [execOp,Instr.sliceAt,run_und hu,Instr.slice,hx,hhi',Instr.sliceBounds,run_bound (y:=c) rfl h1 (by omega),run_sizeOf hD1]
  intro _
  cases A <;> simp [Addr.add]
 ·cases hT
end
end Go.Fx
namespace Go.Fx
open Go
section
variable {κ ν:Type} [DecidableEq κ] {ek:κ→Value}{ev:ν→Value}
theorem putL_putL (l:List (κ×ν)) (a:κ) (x v:ν):putL (putL l a x) a v=putL l a v:=by
 unfold putL
 cases hfi:(l.map (·.1)).findIdx? (·==a) with
 | none=>
   simp only
   have hn:∀ y∈l,(y.1==a)=false:=fun y hy=>by
    have:=List.findIdx?_eq_none_iff.1 hfi y.1 (List.mem_map_of_mem hy)
    simpa using this
   have:((l++[(a,x)]).map (·.1)).findIdx? (·==a)=some l.length:=by
    rw [List.findIdx?_eq_some_iff_getElem]
    refine ⟨by simp,by simp,fun k hk=>?_⟩
    simp only [List.getElem_map]
    rw [List.getElem_append_left hk]
    simp [hn _ (List.getElem_mem hk)]
   rw [this]
   simp
 | some j=>
   obtain ⟨h1,h2,h3⟩:=List.findIdx?_eq_some_iff_getElem.1 hfi
   have h1' :j < l.length:=by simpa using h1
   have:((l.set j (a,x)).map (·.1)).findIdx? (·==a)=some j:=by
    rw [List.findIdx?_eq_some_iff_getElem]
    refine ⟨by simpa using h1',by simp,fun k hk=>?_⟩
    have:=h3 k hk
    simp only [List.getElem_map] at this ⊢
    rw [List.getElem_set_ne (by omega)]
    exact this
   simp only [this,List.set_set]
theorem look_put (l:List (κ×ν)) (a:κ) (x:ν):lookL (putL l a x) a=some x:=by
 rw [find_look]
 unfold putL
 cases hfi:(l.map (·.1)).findIdx? (·==a) with
 | none=>
   simp only
   have hn:∀ y∈l,(y.1==a)=false:=fun y hy=>by
    have:=List.findIdx?_eq_none_iff.1 hfi y.1 (List.mem_map_of_mem hy)
    simpa using this
   have:((l++[(a,x)]).map (·.1)).findIdx? (·==a)=some l.length:=by
    rw [List.findIdx?_eq_some_iff_getElem]
    refine ⟨by simp,by simp,fun k hk=>?_⟩
    simp only [List.getElem_map]
    rw [List.getElem_append_left hk]
    simp [hn _ (List.getElem_mem hk)]
   rw [this]
   simp
 | some j=>
   obtain ⟨h1,h2,h3⟩:=List.findIdx?_eq_some_iff_getElem.1 hfi
   have h1' :j < l.length:=by simpa using h1
   have:((l.set j (a,x)).map (·.1)).findIdx? (·==a)=some j:=by
    rw [List.findIdx?_eq_some_iff_getElem]
    refine ⟨by simpa using h1',by simp,fun k hk=>?_⟩
    have:=h3 k hk
    simp only [List.getElem_map] at this ⊢
    rw [List.getElem_set_ne (by omega)]
    exact this
   simp only [this,Option.bind_some]
   simp [h1']
def mpS (ek:κ→Value) (ev:ν→Value) (m:Nat) (l:List (κ×ν)) (a:κ) (st:Nat):Asr where
 fp b:=b=m
 ok w:=∃ es clock,w.heap[m]? =some (mapO ek ev es clock)∧es.map (·.2)=l∧Stamped es clock∧∃ (j:Nat) (x:ν),es[j]? =some (st,a,x)∧(l.map (·.1)).findIdx? (·==a)=some j
 mono w w' :=fun ⟨es,clock,h,r⟩ k=>⟨es,clock,(k m rfl).trans h,r⟩
 inb w b:=fun ⟨es,clock,h,_⟩ hb=>by subst hb; exact (Array.getElem?_eq_some_iff.1 h).1
theorem mpS_mp {m st:Nat}{l:List (κ×ν)}{a:κ}{w:World} (h:(mpS ek ev m l a st).ok w):(mp ek ev m l).ok w:=by
 obtain ⟨es,clock,h1,h2,h3,_⟩:=h
 exact ⟨es,clock,h1,h2,h3⟩
def Rds (ek:κ→Value) (ev:ν→Value) (m:Nat) (l:List (κ×ν)) (a:κ) (z0:ν) (w:World):Prop:=∃ l1,(mp ek ev m l1).ok w∧(lookL l1 a).getD z0=(lookL l a).getD z0
theorem Rds.of {m:Nat}{l:List (κ×ν)}{a:κ}{z0:ν}{w:World} (h:(mp ek ev m l).ok w):Rds ek ev m l a z0 w:=⟨l,h,rfl⟩
theorem Rds.ofS {m st:Nat}{l:List (κ×ν)}{a:κ}{z0:ν}{w:World} (h:(mpS ek ev m (putL l a ((lookL l a).getD z0)) a st).ok w):Rds ek ev m l a z0 w:=⟨_,mpS_mp h,by rw [look_put]; rfl⟩
theorem Rds.stays {m:Nat}{l:List (κ×ν)}{a:κ}{z0:ν}{w w' :World} (h:Rds ek ev m l a z0 w) (k:Keep0 w w'):Rds ek ev m l a z0 w' :=by
 obtain ⟨l1,h1,h2⟩:=h
 exact ⟨l1,Asr.stays h1 k,h2⟩
variable {ro:Option Nat}{P:Program}{full:Array Oper}{Q:Exit→Act→World→Prop}{n:Nat}{d:List Deferred}{e:Env}{w w0:World}{C:Nat→Prop}{X L:List Asr}
variable {rest:List Oper}{ty:TypeId}{ps:String}{af:Array Edge}
theorem o_lookP {t kt el i s bb m:Nat}{x y:Operand}{a:κ}{l:List (κ×ν)}{z:Value} (z0:ν) (hT:mptOf P t=some (kt,el)) (K:KeyL P kt ek) (hz:infoOf P el=some (some z,s,bb)) (hm:Rds ek ev m l a z0 w) (hx:evn n e x=.map (some m)) (hy:evn n e y=ek a) (hz0:ev z0=z)
 (h:wpA ro P full Q rest (E n (upd e i (ev ((lookL l a).getD z0))) d) w):
 wpA ro P full Q (⟨some i,.lookup t x y false,ty,ps,af,none⟩::rest) (E n e d) w:=by
 obtain ⟨l1,h1,h2⟩:=hm
 refine o_lookV (l:=l1) z0 hT K hz (mpo_some h1) hx hy hz0 ?_
 rw [h2]; exact h
theorem o_ment1 {t kt el i m s bb:Nat}{x y:Operand}{a:κ}{l:List (κ×ν)}{zv:Value} (z0:ν) (hT:mptOf P t=some (kt,el)) (K:KeyL P kt ek) (hzv:infoOf P el=some (some zv,s,bb)) (hx:evn n e x=.map (some m)) (hy:evn n e y=ek a) (hz0:ev z0=zv)
 (S:St w0 C w X L) {k:Nat} (hk:X[k]? =some (mp ek ev m l))
 (h:∀ st w',St w0 C w' (X.set k (mpS ek ev m (putL l a ((lookL l a).getD z0)) a st)) L→wpA ro P full Q rest (E n (upd e i (TU [ev ((lookL l a).getD z0),I (st:Int)])) d) w'):
 wpA ro P full Q (⟨some i,.mapEntry t x y,ty,ps,af,none⟩::rest) (E n e d) w:=by
 obtain ⟨es,clock,hh,hl,hst⟩:=S.atX hk
 have hkeys:((es.map (mkE ek ev)).toArray.toList).map (·.key)=(l.map (·.1)).map ek:=by
  rw [← hl]; simp [mkE,Function.comp_def]
 have hf:=K.find a _ _ hkeys w
 have hgo:(getObj m).run P w=.ok (mapO ek ev es clock) w:=by
  simp only [getObj,Sem.run,hh,mapO]
 have hlt:=(Array.getElem?_eq_some_iff.1 hh).1
 have hset:∀ o,(setObj m o).run P w=.ok () (setB w m o):=by
  intro o
  simp only [setObj,Sem.run,hh,mapO]
  rfl
 have hzr:∀ w:World,(zeroValue el).run P w=.ok zv w:=fun w=>by
  obtain ⟨it,h2,h3,_⟩:=info_of hzv
  simp [zeroValue,typeInfo,h2,h3]
 have fin:∀ (st:Nat) (es' :List (Nat×κ×ν)) (c' :Nat),es'.map (·.2)=putL l a ((lookL l a).getD z0)→Stamped es' c' →(∃ (j:Nat) (x:ν),es'[j]? =some (st,a,x)∧((putL l a ((lookL l a).getD z0)).map (·.1)).findIdx? (·==a)=some j)→
  (execOp (evn n e) ⟨some i,.mapEntry t x y,ty,ps,af,none⟩).run P w=.ok (.value (TU [ev ((lookL l a).getD z0),I (st:Int)])) (setB w m (mapO ek ev es' c'))→wpA ro P full Q (⟨some i,.mapEntry t x y,ty,ps,af,none⟩::rest) (E n e d) w:=by
  intro st es' c' h1 h2 h3 h4
  refine op_val rfl (fun _ h=>by cases h) h4 (h st _ (S.turn hk (y:=mpS ek ev m (putL l a ((lookL l a).getD z0)) a st) ⟨es',c',?_,h1,h2,h3⟩ (fun b hb=>.inl hb) rfl rfl rfl (by simp [setB]) (fun b hb hne=>?_)))
  ·simp [setB,hlt]
  ·have hne' :b≠m:=hne
   show (w.heap.setIfInBounds m _)[b]? =_
   rw [Array.getElem?_setIfInBounds_ne (fun h=>hne' h.symm)]
 cases hfi:(l.map (·.1)).findIdx? (·==a) with
 | none=>
   have hn:lookL l a=none:=by rw [find_look,hfi]; rfl
   rw [hfi] at hf
   refine fin clock (es++[(clock,a,z0)]) (clock+1) (by rw [hn,putL_none hfi]; simp [hl]) ⟨?_,?_⟩ ⟨es.length,z0,by simp,?_⟩ ?_
   ·rw [List.map_append,List.nodup_append]
    refine ⟨hst.1,by simp,fun x hx y hy=>?_⟩
    simp at hy; subst hy
    obtain ⟨z,hz,rfl⟩:=List.mem_map.1 hx
    have:=hst.2 z hz
    omega
   ·intro x hx
    rcases List.mem_append.1 hx with h | h
    ·have:=hst.2 x h; omega
    ·simp at h; subst h; simp
   ·rw [hn,putL_none hfi]
    have hlen:es.length=l.length:=by rw [← hl]; simp
    have hnn:∀ y∈l,(y.1==a)=false:=fun y hy=>by
     have:=List.findIdx?_eq_none_iff.1 hfi y.1 (List.mem_map_of_mem hy)
     simpa using this
    rw [List.findIdx?_eq_some_iff_getElem]
    refine ⟨by simp [hlen],by simp [hlen],fun k hk=>?_⟩
    simp only [List.getElem_map]
    rw [List.getElem_append_left (by omega)]
    simp [hnn _ (List.getElem_mem (show k < l.length by omega))]
   ·simp only [execOp,hx,hy,Instr.mapEntry,Sem.run_bind,run_und (mpt_und hT),Result.andThen_ok,hgo,mapO,K.check]
    simp at hf ⊢
    simp [hf,hset,hzr,hn,hz0,goInt,mkE]
 | some j=>
   have hj:j < l.length:=by
    have:=List.findIdx?_eq_some_iff_findIdx_eq.1 hfi
    simpa using this.1
   have hje:j < es.length:=by rw [← hl] at hj; simpa using hj
   have hkj:l[j].1=a:=by
    have:=(List.findIdx?_eq_some_iff_getElem.1 hfi).2.1
    simpa using this
   have hke:es[j].2.1=a:=by subst hl; simpa using hkj
   have hlk:lookL l a=some l[j].2:=by rw [find_look,hfi]; simp [hj]
   have hlv:l[j].2=es[j].2.2:=by subst hl; simp
   rw [hfi] at hf
   have hput:putL l a ((lookL l a).getD z0)=l:=by
    rw [hlk,putL_some hfi,Option.getD_some]
    have:(a,l[j].2)=l[j]:=by rw [← hkj]
    rw [this,List.set_getElem_self]
   have hkey:(((es.map (mkE ek ev)).toArray[j]?).map (·.key)).getD (ek a)=ek a:=by
    simp [hje,mkE,hke]
   have hmod:((es.map (mkE ek ev)).toArray.modify j fun x=>{ x with key:=ek a })=(es.map (mkE ek ev)).toArray:=by
    refine Array.ext (by simp) fun i h1 h2=>?_
    simp only [Array.getElem_modify,List.getElem_toArray,List.getElem_map]
    split
    ·rename_i hh; subst hh; simp [mkE,hke]
    ·rfl
   have hborn:(((es.map (mkE ek ev)).toArray[j]?).map (fun x=>(x.born:Int))).getD 0=(es[j].1:Int):=by
    simp [hje,mkE]
   have hval:((es.map (mkE ek ev)).toArray.toList.getD j default).val=ev es[j].2.2:=by
    simp [hje,mkE]
   refine fin es[j].1 es clock (by rw [hput,hl]) hst ⟨j,es[j].2.2,by rw [List.getElem?_eq_getElem hje,← hke],by rw [hput]; exact hfi⟩ ?_
   simp only [execOp,hx,hy,Instr.mapEntry,Sem.run_bind,run_und (mpt_und hT),Result.andThen_ok,hgo,mapO,K.check]
   simp only [Option.map_some] at hf
   rw [hf]
   simp only [Result.andThen_ok,hkey,Instr.keyThatStays,K.bits,if_true,Sem.run_pure,hmod,hset,Sem.run_bind,hborn,hval,hlk,hlv,Option.getD_some]
   rfl
theorem o_est {t m st:Nat}{x y z:Operand}{a:κ}{v z0:ν}{l:List (κ×ν)} (hx:evn n e x=.map (some m)) (hy:evn n e y=I (st:Int)) (hz:evn n e z=ev v) (S:St w0 C w X L) {k:Nat} (hk:X[k]? =some (mpS ek ev m (putL l a z0) a st))
 (h:∀ w',St w0 C w' (X.set k (mp ek ev m (putL l a v))) L→wpA ro P full Q rest (E n e d) w'):
 wpA ro P full Q (⟨none,.entryStore t x y z,ty,ps,af,none⟩::rest) (E n e d) w:=by
 obtain ⟨es,clock,hh,hl,hst,j,x0,hj,hfi⟩:=S.atX hk
 have hlt:=(Array.getElem?_eq_some_iff.1 hh).1
 have hgo:(getObj m).run P w=.ok (mapO ek ev es clock) w:=by
  simp only [getObj,Sem.run,hh,mapO]
 have hset:∀ o,(setObj m o).run P w=.ok () (setB w m o):=by
  intro o
  simp only [setObj,Sem.run,hh,mapO]
  rfl
 obtain ⟨hje,hjv⟩:=List.getElem?_eq_some_iff.1 hj
 have hidx:(es.map (mkE ek ev)).toArray.findIdx? (fun e=>(e.born:Int)==(st:Int))=some j:=by
  rw [Array.findIdx?_eq_some_iff_getElem]
  refine ⟨by simpa using hje,by simp [mkE,hjv],fun k hk=>?_⟩
  simp only [List.getElem_toArray,List.getElem_map,mkE]
  have hke' :k < es.length:=by omega
  intro hc
  have hc:es[k].1=st:=by
   have:=of_decide_eq_true hc
   omega
  have:=List.pairwise_iff_getElem.1 hst.1 k j (by simpa using hke') (by simpa using hje) hk
  simp [hjv] at this
  exact this hc
 have hmod:((es.map (mkE ek ev)).toArray.modify j fun x=>{ x with val:=ev v })=((es.set j (st,a,v)).map (mkE ek ev)).toArray:=by
  refine Array.ext (by simp) fun i h1 h2=>?_
  simp only [Array.getElem_modify,List.getElem_toArray,List.getElem_map,List.getElem_set]
  split
  ·rename_i hh; subst hh; simp [mkE,hjv]
  ·rfl
 have hstm:(es.set j (st,a,v)).map (·.1)=es.map (·.1):=by
  rw [List.map_set]
  exact List.ext_getElem (by simp) fun i h1 h2=>by
   rw [List.getElem_set]; split
   ·rename_i hh; subst hh; simp [hjv]
   ·rfl
 have hai:∀ w:World,(asInt (I (st:Int))).run P w=.ok (st:Int) w:=fun _=>rfl
 refine op_skip (w' :=setB w m (mapO ek ev (es.set j (st,a,v)) clock)) rfl (fun _ h=>by cases h) ?_ (h _ (S.turn hk (y:=mp ek ev m (putL l a v)) ⟨es.set j (st,a,v),clock,?_,?_,?_,?_⟩ (fun b hb=>.inl hb) rfl rfl rfl (by simp [setB]) (fun b hb hne=>?_)))
 ·simp only [execOp,hx,hy,hz,Instr.entryStore,Sem.run_bind,Result.andThen_ok,hgo,mapO,hai,hidx,hset,hmod]
  rfl
 ·simp [setB,hlt]
 ·rw [← putL_putL l a z0 v,List.map_set,hl,putL_some hfi]
 ·rw [hstm]; exact hst.1
 ·intro y hy
  rcases List.mem_or_eq_of_mem_set hy with h | h
  ·exact hst.2 y h
  ·subst h
   have:=hst.2 es[j] (List.getElem_mem hje)
   rw [hjv] at this
   exact this
 ·have hne' :b≠m:=hne
  show (w.heap.setIfInBounds m _)[b]? =_
  rw [Array.getElem?_setIfInBounds_ne (fun h=>hne' h.symm)]
end
section
variable {ro:Option Nat}{P:Program}{n:Nat}{d:List Deferred}{w:World}{Q:Exit→Act→World→Prop}{CC:Nat→Prop}{Base:List Asr}{Ψ:World→Prop}
def Cg (ro:Option Nat) (P:Program) (full:Array Oper) (n:Nat) (d:List Deferred) (w:World) (CC:Nat→Prop) (Base:List Asr) (Ψ:World→Prop) (Fin:Env→List Asr→Prop):List Oper→Env→List Asr→Prop
 | [],ec,X=>Fin ec X
 | o::os,ec,X=>∀ w',St w CC w' X Base→wpA ro P full (Ends1 fun a w2=>∃ v X',a=E n (updo ec o.dst v) d∧St w CC w2 X' Base∧Ψ w2∧Cg ro P full n d w CC Base Ψ Fin os (updo ec o.dst v) X') [o] (E n ec d) w'
def DSg (ro:Option Nat) (P:Program) (full:Array Oper) (n:Nat) (d:List Deferred) (C:Nat→Prop) (Ψ:World→Prop) (w:World) (cs:List Nat):Nat→List Oper→Env→(Env→Prop)→Prop
 | _,[],e,K=>K e
 | i,o::os,e,K=>bif cs.contains i then DSg ro P full n d C Ψ w cs (i+1) os e K else ∃ v,(∀ w',Keep C w w' ∧Ψ w' →wpA ro P full (Done n d e w' o.dst (rv v)) [o] (E n e d) w')∧DSg ro P full n d C Ψ w cs (i+1) os (updo e o.dst v) K
theorem gS {C:Nat→Prop}{full:Array Oper}{cs:List Nat}{i:Nat}{o:Oper}{os:List Oper}{e:Env}{K:Env→Prop}{v:Value} (hc:cs.contains i=false) (h:∀ w',Keep C w w' ∧Ψ w' →wpA ro P full (Done n d e w' o.dst (rv v)) [o] (E n e d) w') (hk:DSg ro P full n d C Ψ w cs (i+1) os (updo e o.dst v) K):DSg ro P full n d C Ψ w cs i (o::os) e K:=by
 unfold DSg; rw [hc]; exact ⟨v,h,hk⟩
theorem gC {C:Nat→Prop}{full:Array Oper}{cs:List Nat}{i:Nat}{o:Oper}{os:List Oper}{e:Env}{K:Env→Prop} (hc:cs.contains i=true) (hk:DSg ro P full n d C Ψ w cs (i+1) os e K):DSg ro P full n d C Ψ w cs i (o::os) e K:=by
 unfold DSg; rw [hc]; exact hk
theorem dsg_vals {C:Nat→Prop}{full:Array Oper}{cs:List Nat}{K:Env→Prop}:∀ {os:List Oper}{k:Nat}{e:Env},DSg ro P full n d C Ψ w cs k os e K→∃ vs:List Value,vs.length=os.length∧(∀ i o v,os[i]? =some o→vs[i]? =some v→cs.contains (k+i)=false→∀ w',Keep C w w' ∧Ψ w' →wpA ro P full (Done n d (seqE e (((msk cs k os).zip vs).take i)) w' o.dst (rv v)) [o] (E n (seqE e (((msk cs k os).zip vs).take i)) d) w')∧K (seqE e ((msk cs k os).zip vs))
 | [],k,e,h=>⟨[],rfl,fun i o v h1=>by simp at h1,h⟩
 | o::os,k,e,h=>by
   unfold DSg at h
   cases hc:cs.contains k with
   | true=>
     rw [hc] at h
     obtain ⟨vs,hl,hh,hK⟩:=dsg_vals h
     refine ⟨undef::vs,by simp [hl],fun i o' v' ho hv hci=>?_,by rw [msk_t hc]; exact hK⟩
     cases i with
     | zero=>rw [Nat.add_zero,hc] at hci; cases hci
     | succ i=>
       have:=hh i o' v' (by simpa using ho) (by simpa using hv) (by rw [show k+1+i=k+(i+1) by omega]; exact hci)
       rw [msk_t hc]; exact this
   | false=>
     rw [hc] at h
     obtain ⟨v,h1,h2⟩:=h
     obtain ⟨vs,hl,hh,hK⟩:=dsg_vals h2
     refine ⟨v::vs,by simp [hl],fun i o' v' ho hv hci=>?_,by rw [msk_f hc]; exact hK⟩
     cases i with
     | zero=>
       simp at ho hv
       subst ho hv
       exact h1
     | succ i=>
       have:=hh i o' v' (by simpa using ho) (by simpa using hv) (by rw [show k+1+i=k+(i+1) by omega]; exact hci)
       rw [msk_f hc]; exact this
theorem reg_one {e:Env}{l:List Oper}{id:Nat} (hm:P.follows .mixedOrders=true) (m:Nat) (ca:List Nat) (XA0:List Asr) (FA:Env→List Asr→Prop) (Ψ:World→Prop) (hΨ:∀ w w',Ψ w→Keep0 w w' →Ψ w') (hok:okT l m ca []=true) (hca:ca=(List.range m).filter (ca.contains ·)) (S0:St w CC w XA0 Base) (h0:Ψ w)
 (h:DSg ro P l.toArray n d CC Ψ w ca 0 (l.take m) e fun ek=>Cg ro P l.toArray n d w CC Base Ψ FA (ca.filterMap (l[·]?)) ek XA0∧
  ∀ ea XA,FA ea XA→∀ e' w',(∀ s,dIn l ca s=true→e' s=ea s)→(∀ s,dIn l ca s=false→e' s=ek s)→St w CC w' XA Base→wpA ro P l.toArray Q (l.drop m) (E n e' d) w'):
 (Code.region id l.toArray true).wpIn (Fr ro) 0 P Q (E n e d) w:=by
 obtain ⟨vs,hl,hh,hKA,hT⟩:=dsg_vals h
 obtain ⟨hd,hq,hccA,_,_⟩:=okT_spec hok
 obtain ⟨_,_,hml,hdst,_,_⟩:=okDraw_spec hd
 have hlm:(l.take m).length=m:=by simp; omega
 have hlv:vs.length=m:=by omega
 obtain ⟨cs,hcs⟩:∃ cs,cs=ca:=⟨_,rfl⟩
 have hcc:∀ j,cs.contains j=ca.contains j:=fun j=>by rw [hcs]
 have hmk:msk ca 0 (l.take m)=msk cs 0 (l.take m):=by rw [hcs]
 rw [hmk] at hh hKA hT
 generalize hek:seqE e ((msk cs 0 (l.take m)).zip vs)=ek at hKA hT
 have hr0:∀ cs:List Nat,cs=(List.range m).filter (cs.contains ·)→cs.filterMap (l[·]?)=rem l m cs (fun _=>false):=fun cs hcs=>by
  unfold rem
  conv=>lhs; rw [hcs]
  congr 2
  funext i
  simp
 rw [hr0 ca hca] at hKA
 have hps:∀ k i p,(((msk cs 0 (l.take m)).zip vs).take k)[i]? =some p→i < k∧i < m∧vs[i]? =some p.2∧∃ o,l[i]? =some o∧p.1=(bif cs.contains i then { o with dst:=none } else o):=by
  intro k i p hp
  rw [List.getElem?_take] at hp
  split at hp
  ·rename_i hik
   rw [List.getElem?_zip_eq_some,msk_get,List.getElem?_take] at hp
   obtain ⟨h1,h2⟩:=hp
   split at h1
   ·rename_i him
    obtain ⟨o,ho,h1⟩:=Option.map_eq_some_iff.1 h1
    rw [Nat.zero_add] at h1
    exact ⟨hik,him,h2,o,ho,h1.symm⟩
   ·simp at h1
  ·cases hp
 have F1:∀ k j s v,j < k→j < m→cs.contains j=false→dstAt l j=some s→vs[j]? =some v→seqE e (((msk cs 0 (l.take m)).zip vs).take k) s=v:=by
  intro k j s v hjk hjm hjc hds hv
  have hoj:∃ o,l[j]? =some o:=⟨l[j]'(by omega),List.getElem?_eq_getElem _⟩
  obtain ⟨o,ho⟩:=hoj
  refine seqE_at (j:=j) (o:=o) (v:=v) _ e ?_ (by simpa [dstAt,ho] using hds) fun i p hp hpd=>?_
  ·rw [List.getElem?_take,if_pos hjk,List.getElem?_zip_eq_some,msk_get,List.getElem?_take,if_pos hjm,ho,Nat.zero_add,hjc]
   exact ⟨rfl,hv⟩
  ·obtain ⟨a1,a2,a3,o',ho',hp1⟩:=hps k i p hp
   cases hci:cs.contains i with
   | true=>rw [hci] at hp1; rw [hp1] at hpd; cases hpd
   | false=>
     rw [hci] at hp1
     rw [hp1] at hpd
     exact hdst i j s a2 hjm (by simp [dstAt,ho']; exact hpd) hds
 have F2:∀ k s,(∀ j,j < m→cs.contains j=false→dstAt l j≠some s)→seqE e (((msk cs 0 (l.take m)).zip vs).take k) s=e s:=by
  intro k s hs
  refine seqE_not _ e fun p hp hpd=>?_
  obtain ⟨i,hi,rfl⟩:=List.getElem_of_mem hp
  obtain ⟨a1,a2,a3,o',ho',hp1⟩:=hps k i _ (List.getElem?_eq_getElem hi)
  cases hci:cs.contains i with
  | true=>rw [hci] at hp1; rw [hp1] at hpd; cases hpd
  | false=>
    rw [hci] at hp1
    rw [hp1] at hpd
    exact hs i a2 hci (by simp [dstAt,ho']; exact hpd)
 have hall:((msk cs 0 (l.take m)).zip vs).take m=(msk cs 0 (l.take m)).zip vs:=List.take_of_length_le (by simp [msk_len]; omega)
 have F1m:∀ j s v,j < m→cs.contains j=false→dstAt l j=some s→vs[j]? =some v→ek s=v:=fun j s v h1 h2 h3 h4=>by
  rw [← hek,← hall]; exact F1 m j s v h1 h1 h2 h3 h4
 have F2m:∀ s,(∀ j,j < m→cs.contains j=false→dstAt l j≠some s)→ek s=e s:=fun s hs=>by
  rw [← hek,← hall]; exact F2 m s hs
 have hvj:∀ j,j < m→∃ v,vs[j]? =some v:=fun j hj=>⟨vs[j]'(by omega),List.getElem?_eq_getElem _⟩
 have cm:∀ {j},ca.contains j=true→cs.contains j=true:=fun {j} h=>by rw [hcc,h]
 have cf:∀ {j},ca.contains j=false→cs.contains j=false:=fun {j} h=>by rw [hcc,h]
 have cf1:∀ {j},cs.contains j=false→ca.contains j=false:=fun {j} h=>by rw [hcc] at h; exact h
 let At:List Nat→(Nat→Bool)→Env→Env→Prop:=fun c S e' ea=>(∀ j s,j < m→S j=true→c.contains j=true→dstAt l j=some s→e' s=ea s)∧(∀ s,(∀ j,j < m→S j=true→c.contains j=true→dstAt l j≠some s)→ea s=ek s)
 have AtStay:∀ (c:List Nat) (S:Nat→Bool) (e' ea:Env) (i:Nat) (o:Oper) (v:Value),i < m→l[i]? =some o→c.contains i=false→At c S e' ea→At c (fun j=>S j||j==i) (updo e' o.dst v) ea:=by
  intro c S e' ea i o v him ho hci ⟨qA,qB⟩
  have hup:∀ (f:Env) v s,o.dst≠some s→updo f o.dst v s=f s:=fun f v s hne' =>by
   cases hod:o.dst with
   | none=>rfl
   | some t=>
     have:s≠t:=fun h=>hne' (by rw [hod,h])
     simp [updo,upd,nbeq this]
  refine ⟨fun j s hj hSj hcj hds=>?_,fun s hs=>qB s fun j hj hSj=>hs j hj (by simp [hSj])⟩
  have hji:j≠i:=fun h=>by rw [h,hci] at hcj; cases hcj
  rw [hup _ _ s (fun hod=>hji (hdst j i s hj him hds (by simp [dstAt,ho,hod])))]
  exact qA j s hj (by simpa [hji] using hSj) hcj hds
 have AtStep:∀ (c:List Nat) (S:Nat→Bool) (e' ea:Env) (i:Nat) (o:Oper) (v:Value),i < m→l[i]? =some o→c.contains i=true→At c S e' ea→At c (fun j=>S j||j==i) (updo e' o.dst v) (updo ea o.dst v):=by
  intro c S e' ea i o v him ho hci ⟨qA,qB⟩
  have hup:∀ (f:Env) v s,o.dst≠some s→updo f o.dst v s=f s:=fun f v s hne' =>by
   cases hod:o.dst with
   | none=>rfl
   | some t=>
     have:s≠t:=fun h=>hne' (by rw [hod,h])
     simp [updo,upd,nbeq this]
  refine ⟨fun j s hj hSj hcj hds=>?_,fun s hs=>?_⟩
  ·by_cases hji:j=i
   ·subst hji
    have hod:o.dst=some s:=by simpa [dstAt,ho] using hds
    rw [hod]; simp [updo,upd]
   ·have hne:o.dst≠some s:=fun hod=>hji (hdst j i s hj him hds (by simp [dstAt,ho,hod]))
    rw [hup _ _ s hne,hup _ _ s hne]
    exact qA j s hj (by simpa [hji] using hSj) hcj hds
  ·rw [hup _ _ s (fun hod=>hs i him (by simp) hci (by simp [dstAt,ho,hod]))]
   exact qB s fun j hj hSj=>hs j hj (by simp [hSj])
 have Rd:∀ (c:List Nat) (S:Nat→Bool) (i:Nat) (o:Oper) (e' ea:Env),(∀ s,(∀ j,j < m→dstAt l j≠some s)→e' s=e s)→(∀ j s v,j < m→S j=true→cs.contains j=false→dstAt l j=some s→vs[j]? =some v→e' s=v)→At c S e' ea→(∀ j,c.contains j=true→cs.contains j=true)→
  (∀ s∈reads l.toArray o,∀ j,j < m→dstAt l j=some s→S j=true∧(c.contains j=true∨cs.contains j=false))→∀ s∈reads l.toArray o,e' s=ea s:=by
  intro c S i o e' ea hfr hqv ⟨qA,qB⟩ hcm hr s hs
  by_cases hx:∃ j,j < m∧dstAt l j=some s
  ·obtain ⟨j,hj,hds⟩:=hx
   obtain ⟨hS,hc⟩:=hr s hs j hj hds
   rcases hc with hc | hc
   ·exact qA j s hj hS hc hds
   ·obtain ⟨u,hu⟩:=hvj j hj
    rw [hqv j s u hj hS hc hds hu,qB s fun c' hc' hSc hcc3 hds2=>?_,F1m j s u hj hc hds hu]
    have:=hdst c' j s hc' hj hds2 hds
    rw [this] at hcc3
    rw [hcm j hcc3] at hc; cases hc
  ·have hx' :∀ j,j < m→dstAt l j≠some s:=fun j hj hds=>hx ⟨j,hj,hds⟩
   rw [hfr s hx',qB s fun c' hc' _ _=>hx' c' hc',F2m s fun j hj _=>hx' j hj]
 refine reg_inv hm m hd (fun S e' w' =>(∀ s,(∀ j,j < m→dstAt l j≠some s)→e' s=e s)∧(∀ j s v,j < m→S j=true→cs.contains j=false→dstAt l j=some s→vs[j]? =some v→e' s=v)∧
  ∃ (ea:Env) (XA:List Asr),At ca S e' ea∧Cg ro P l.toArray n d w CC Base Ψ FA (rem l m ca S) ea XA∧St w CC w' XA Base∧Ψ w') ?_ ?_ ?_
 ·intro w1 k1
  exact ⟨fun _ _=>rfl,fun _ _ _ _ h=>by (cases h),ek,XA0,⟨fun _ _ _ h=>by (cases h),fun _ _=>rfl⟩,hKA,S0.call k1,hΨ _ _ h0 k1⟩
 ·rintro S i o e' w' ho him hSi hwait hlt hclosed ⟨hfr,hqv,ea,XA,hA,qA,hS,hP⟩
  obtain ⟨hpl,hrd⟩:=hq i o him ho
  have hne:∀ j s,j < m→j≠i→dstAt l j=some s→o.dst≠some s:=fun j s hj hji hds hod=>hji (hdst j i s hj him hds (by simp [dstAt,ho,hod]))
  have hup:∀ (f:Env) v s,o.dst≠some s→updo f o.dst v s=f s:=fun f v s hne' =>by
   cases hod:o.dst with
   | none=>rfl
   | some t=>
     have:s≠t:=fun h=>hne' (by rw [hod,h])
     simp [updo,upd,nbeq this]
  have frS:∀ v s,(∀ j,j < m→dstAt l j≠some s)→updo e' o.dst v s=e s:=fun v s hs=>by
   rw [hup _ _ s (fun hod=>hs i him (by simp [dstAt,ho,hod]))]; exact hfr s hs
  have qvS:∀ v,(cs.contains i=false→∀ x,vs[i]? =some x→v=x)→∀ j s x,j < m→(S j||j==i)=true→cs.contains j=false→dstAt l j=some s→vs[j]? =some x→updo e' o.dst v s=x:=fun v hv j s x hj hSj hcj hds hx=>by
   by_cases hji:j=i
   ·subst hji
    have hod:o.dst=some s:=by simpa [dstAt,ho] using hds
    have:=hv hcj x hx
    subst this
    rw [hod]; simp [updo,upd]
   ·rw [hup _ _ s (hne j s hj hji hds)]
    exact hqv j s x hj (by simpa [hji] using hSj) hcj hds hx
  cases hci:cs.contains i with
  | false=>
    obtain ⟨v,hv⟩:=hvj i him
    have q1:=wp1_congr (e' :=e') (R:=rv v) (fun _ _ _ _ _ _ h=>h) hpl (fun s hs=>?_) (hh i o v (by rw [List.getElem?_take,if_pos him]; exact ho) hv (by rw [Nat.zero_add,← hcc]; exact hci) w' ⟨hS.keep,hP⟩)
    ·refine wp1_mono (fun ex a w2 hq2=>?_) q1
     cases ex with
     | normal=>
       obtain ⟨u,rfl,hk2,hu⟩:=hq2
       have hu:u=v:=hu
       subst hu
       refine ⟨_,rfl,frS u,qvS u (fun _ x hx=>by rw [hv] at hx; exact Option.some.inj hx),ea,XA,AtStay ca S e' ea i o u him ho (cf1 hci) hA,?_,hS.call hk2,hΨ _ _ hP hk2⟩
       rw [rem_same (cf1 hci)]; exact qA
     | _=>exact hq2.elim
    ·by_cases hx:∃ j,j < m∧dstAt l j=some s
     ·obtain ⟨j,hj,hds⟩:=hx
      obtain ⟨ha,hc1,_⟩:=hrd s hs j hj hds
      have hcj:=cf (hc1 (cf1 hci))
      obtain ⟨u,hu⟩:=hvj j hj
      have hil:i < l.length:=(List.getElem?_eq_some_iff.1 ho).1
      have:=F1 i j s u (anc_lt hd hil ha) hj hcj hds hu
      rw [hqv j s u hj (hwait j ha) hcj hds hu,this]
     ·have hx' :∀ j,j < m→dstAt l j≠some s:=fun j hj hds=>hx ⟨j,hj,hds⟩
      have:=F2 i s fun j hj _=>hx' j hj
      rw [hfr s hx',this]
  | true=>
    have hia:ca.contains i=true:=by rw [← hcc]; exact hci
    rw [rem_cons him ho hia hSi (fun j hj hcj=>hwait j (hccA i him hia j hj hcj))] at qA
    have q1:=wp1_congrV (e' :=e') (Ψ:=fun v w2=>∃ X',St w CC w2 X' Base∧Ψ w2∧Cg ro P l.toArray n d w CC Base Ψ FA (rem l m ca fun j=>S j||j==i) (updo ea o.dst v) X') hpl (Rd ca S i o e' ea hfr hqv hA (fun _ h=>cm h) fun s hs j hj hds=>?_) (wp1_mono (fun ex a w2 hq2=>?_) (qA w' hS))
    ·refine wp1_mono (fun ex a w2 hq2=>?_) q1
     cases ex with
     | normal=>
       obtain ⟨v,rfl,X',hS2,hP2,hC⟩:=hq2
       exact ⟨_,rfl,frS v,qvS v (fun h=>by rw [hci] at h; cases h),updo ea o.dst v,X',AtStep ca S e' ea i o v him ho hia hA,hC,hS2,hP2⟩
     | _=>exact hq2.elim
    ·obtain ⟨ha,_,_⟩:=hrd s hs j hj hds
     refine ⟨hwait j ha,?_⟩
     cases hcj:ca.contains j with
     | true=>exact .inl rfl
     | false=>exact .inr (cf hcj)
    ·cases ex with
     | normal=>obtain ⟨v,X',hu,h1,h2,h3⟩:=hq2; exact ⟨v,hu,X',h1,h2,h3⟩
     | _=>exact hq2.elim
 ·rintro S e' w' hall2 ⟨hfr,hqv,ea,XA,hA,qA,hS,hP⟩
  have hr:rem l m ca S=[]:=by
   unfold rem
   rw [List.filter_eq_nil_iff.2]
   ·rfl
   ·intro j hj
    simp [hall2 j (List.mem_range.1 hj)]
  rw [hr] at qA
  refine hT ea XA qA e' w' (fun s hs=>?_) (fun s h1=>?_) hS
  ·obtain ⟨j,hj,hd2⟩:=List.any_eq_true.1 hs
   rw [hca] at hj
   obtain ⟨g1,g2⟩:=List.mem_filter.1 hj
   exact hA.1 j s (List.mem_range.1 g1) (hall2 j (List.mem_range.1 g1)) g2 (by simpa using hd2)
  ·by_cases hx:∃ j,j < m∧dstAt l j=some s
   ·obtain ⟨j,hj,hds⟩:=hx
    obtain ⟨u,hu⟩:=hvj j hj
    have hcj:cs.contains j=false:=by
     refine cf ?_
     cases hc:ca.contains j with
     | false=>rfl
     | true=>exact absurd hds (dIn_not h1 hc)
    rw [hqv j s u hj (hall2 j hj) hcj hds hu,F1m j s u hj hcj hds hu]
   ·have hx' :∀ j,j < m→dstAt l j≠some s:=fun j hj hds=>hx ⟨j,hj,hds⟩
    rw [hfr s hx',F2m s fun j hj _=>hx' j hj]
theorem cG {full:Array Oper}{Fin:Env→List Asr→Prop}{os:List Oper}{e:Env}{w2:World}{i:Nat}{v:Value}{X:List Asr} (hS:St w CC w2 X Base) (hP:Ψ w2) (h:Cg ro P full n d w CC Base Ψ Fin os (upd e i v) X):
 wpA ro P full (Ends1 fun a w2=>∃ v X',a=E n (updo e (some i) v) d∧St w CC w2 X' Base∧Ψ w2∧Cg ro P full n d w CC Base Ψ Fin os (updo e (some i) v) X') [] (E n (upd e i v) d) w2:=wp_nil ⟨v,X,rfl,hS,hP,h⟩
theorem cgEnd {full:Array Oper}{Fin:Env→List Asr→Prop}{e:Env}{X:List Asr} (h:Fin e X):Cg ro P full n d w CC Base Ψ Fin [] e X:=h
end
section
variable {ro:Option Nat}{P:Program}{full:Array Oper}{Q:Exit→Act→World→Prop}{n:Nat}{d:List Deferred}{e:Env}{w:World}
variable {rest:List Oper}{ty:TypeId}{ps:String}{af:Array Edge}
theorem p_ldF {t i b o k:Nat}{x:Operand}{cs:List Value}{ct:TypeId}{v:Value}{j:Int} (hT:aggOf P t=some false) (hw:w.heap[b]? =some (.cells cs.toArray ct)) (hj:j=(k:Int)) (hx:evn n e x=.pointer (some ⟨b,o+j.toNat*1,none⟩)) (hv:nth cs (o+k)=some v)
 (h:wpA ro P full Q rest (E n (upd e i v) d) w):wpA ro P full Q (⟨some i,.load t x,ty,ps,af,none⟩::rest) (E n e d) w:=by
 subst hj
 exact p_ld hT hw (by rw [hx]; simp) hv h
end
end Go.Fx
namespace Go.Proofs.YtafhljljfglfeaaDoor
open Go Go.Fx Go.Proofs
theorem fl140_3:fldOf Tryd.prog 140 3=some 3:=by kernel_rfl
theorem ty3:aggOf Tryd.prog 3=some false:=by kernel_rfl
theorem fl140_4:fldOf Tryd.prog 140 4=some 4:=by kernel_rfl
theorem fl140_6:fldOf Tryd.prog 140 6=some 6:=by kernel_rfl
theorem fl140_5:fldOf Tryd.prog 140 5=some 5:=by kernel_rfl
theorem sc26:slcOf Tryd.prog 26=some (67,3):=by kernel_rfl
theorem ty67:aggOf Tryd.prog 67=some true:=by kernel_rfl
theorem sz67:sizOf Tryd.prog 67=some 3:=by kernel_rfl
theorem fu109:funOf Tryd.prog 109=true:=by kernel_rfl
theorem fl67_0:fldOf Tryd.prog 67 0=some 0:=by kernel_rfl
theorem fl67_1:fldOf Tryd.prog 67 1=some 1:=by kernel_rfl
theorem fl67_2:fldOf Tryd.prog 67 2=some 2:=by kernel_rfl
theorem ub4:Tryd.prog.underlying 4=some .bool:=by kernel_rfl
theorem fu57:funOf Tryd.prog 57=true:=by kernel_rfl
theorem fl92_0:fldOf Tryd.prog 92 0=some 0:=by kernel_rfl
theorem fl29_3:fldOf Tryd.prog 29 3=some 5:=by kernel_rfl
theorem ty26:aggOf Tryd.prog 26=some false:=by kernel_rfl
theorem in67:infoOf Tryd.prog 67=some (some (Value.agg #[I 0,I 0,I 0]),3,24):=by kernel_rfl
theorem st128:strOf Tryd.prog 128=some (#[I 0,I 0],#[(0,1),(1,1)]):=by kernel_rfl
theorem in128:infoOf Tryd.prog 128=some (some (Value.agg #[I 0,I 0]),2,16):=by kernel_rfl
theorem sz128:sizOf Tryd.prog 128=some 2:=by kernel_rfl
theorem mixed:Tryd.prog.follows .mixedOrders=true:=by kernel_rfl
theorem ty128:aggOf Tryd.prog 128=some true:=by kernel_rfl
theorem eq128:eqOk Tryd.prog 128 [.int .i64,.int .i64]:=⟨by kernel_rfl,by kernel_rfl,by kernel_rfl⟩
theorem fl92_2:fldOf Tryd.prog 92 2=some 10:=by kernel_rfl
theorem ty90:aggOf Tryd.prog 90=some false:=by kernel_rfl
theorem mt90:mptOf Tryd.prog 90=some (128,3):=by kernel_rfl
theorem in3:infoOf Tryd.prog 3=some (some (I 0),1,8):=by kernel_rfl
theorem fu102:funOf Tryd.prog 102=true:=by kernel_rfl
theorem sc27:slcOf Tryd.prog 27=some (72,4):=by kernel_rfl
theorem ty72:aggOf Tryd.prog 72=some true:=by kernel_rfl
theorem sz72:sizOf Tryd.prog 72=some 4:=by kernel_rfl
theorem fu110:funOf Tryd.prog 110=true:=by kernel_rfl
theorem un151:Tryd.prog.underlying 151=some (.int .u64):=by kernel_rfl
theorem un3:Tryd.prog.underlying 3=some (.int .i64):=by kernel_rfl
theorem fu101:funOf Tryd.prog 101=true:=by kernel_rfl
theorem sc30:slcOf Tryd.prog 30=some (3,1):=by kernel_rfl
theorem fl105_0:fldOf Tryd.prog 105 0=some 0:=by kernel_rfl
theorem ar31:arrOf Tryd.prog 31=some (3,1):=by kernel_rfl
theorem fl105_1:fldOf Tryd.prog 105 1=some 3:=by kernel_rfl
theorem un130:Tryd.prog.underlying 130=some (.int .u64):=by kernel_rfl
theorem fu86:funOf Tryd.prog 86=true:=by kernel_rfl
theorem zr3_1:zrow (I 0) (1*1)=#[I 0]:=by kernel_rfl
theorem fu87:funOf Tryd.prog 87=true:=by kernel_rfl
theorem ty105:aggOf Tryd.prog 105=some true:=by kernel_rfl
theorem sz105:sizOf Tryd.prog 105=some 6:=by kernel_rfl
theorem fl72_0:fldOf Tryd.prog 72 0=some 0:=by kernel_rfl
theorem fl72_1:fldOf Tryd.prog 72 1=some 1:=by kernel_rfl
theorem fu62:funOf Tryd.prog 62=true:=by kernel_rfl
theorem fl29_1:fldOf Tryd.prog 29 1=some 3:=by kernel_rfl
theorem fl72_2:fldOf Tryd.prog 72 2=some 2:=by kernel_rfl
theorem fl72_3:fldOf Tryd.prog 72 3=some 3:=by kernel_rfl
theorem fu71:funOf Tryd.prog 71=true:=by kernel_rfl
theorem ty92:aggOf Tryd.prog 92=some true:=by kernel_rfl
theorem sz92:sizOf Tryd.prog 92=some 11:=by kernel_rfl
theorem fu70:funOf Tryd.prog 70=true:=by kernel_rfl
theorem fl29_4:fldOf Tryd.prog 29 4=some 6:=by kernel_rfl
theorem ty27:aggOf Tryd.prog 27=some false:=by kernel_rfl
theorem fu104:funOf Tryd.prog 104=true:=by kernel_rfl
theorem fl29_2:fldOf Tryd.prog 29 2=some 4:=by kernel_rfl
theorem ty25:aggOf Tryd.prog 25=some false:=by kernel_rfl
theorem sc25:slcOf Tryd.prog 25=some (65,2):=by kernel_rfl
theorem ty65:aggOf Tryd.prog 65=some true:=by kernel_rfl
theorem sz65:sizOf Tryd.prog 65=some 2:=by kernel_rfl
theorem in65:infoOf Tryd.prog 65=some (some (Value.agg #[I 0,I 0]),2,16):=by kernel_rfl
theorem fl65_0:fldOf Tryd.prog 65 0=some 0:=by kernel_rfl
theorem fl65_1:fldOf Tryd.prog 65 1=some 1:=by kernel_rfl
theorem fl29_0:fldOf Tryd.prog 29 0=some 0:=by kernel_rfl
theorem fl24_0:fldOf Tryd.prog 24 0=some 0:=by kernel_rfl
theorem ty134:aggOf Tryd.prog 134=some false:=by kernel_rfl
theorem sz3:sizOf Tryd.prog 3=some 1:=by kernel_rfl
theorem fu92:funOf Tryd.prog 92=true:=by kernel_rfl
theorem fl92_1:fldOf Tryd.prog 92 1=some 7:=by kernel_rfl
theorem ty135:aggOf Tryd.prog 135=some false:=by kernel_rfl
theorem fu90:funOf Tryd.prog 90=true:=by kernel_rfl
theorem fu91:funOf Tryd.prog 91=true:=by kernel_rfl
theorem fu80:funOf Tryd.prog 80=true:=by kernel_rfl
theorem fl81_0:fldOf Tryd.prog 81 0=some 0:=by kernel_rfl
theorem ty24:aggOf Tryd.prog 24=some true:=by kernel_rfl
theorem sz24:sizOf Tryd.prog 24=some 3:=by kernel_rfl
theorem fl81_1:fldOf Tryd.prog 81 1=some 1:=by kernel_rfl
theorem fl81_2:fldOf Tryd.prog 81 2=some 2:=by kernel_rfl
theorem fu78:funOf Tryd.prog 78=true:=by kernel_rfl
theorem fl81_3:fldOf Tryd.prog 81 3=some 3:=by kernel_rfl
theorem fl81_4:fldOf Tryd.prog 81 4=some 4:=by kernel_rfl
theorem fl81_5:fldOf Tryd.prog 81 5=some 5:=by kernel_rfl
theorem fl81_6:fldOf Tryd.prog 81 6=some 6:=by kernel_rfl
theorem fl24_1:fldOf Tryd.prog 24 1=some 1:=by kernel_rfl
theorem fl24_2:fldOf Tryd.prog 24 2=some 2:=by kernel_rfl
theorem ty22:aggOf Tryd.prog 22=some false:=by kernel_rfl
theorem sc22:slcOf Tryd.prog 22=some (81,7):=by kernel_rfl
theorem ty81:aggOf Tryd.prog 81=some true:=by kernel_rfl
theorem sz81:sizOf Tryd.prog 81=some 7:=by kernel_rfl
theorem in81:infoOf Tryd.prog 81=some (some (Value.agg #[I 0,I 0,I 0,I 0,I 0,I 0,I 0]),7,56):=by kernel_rfl
theorem fu81:funOf Tryd.prog 81=true:=by kernel_rfl
theorem fl140_1:fldOf Tryd.prog 140 1=some 1:=by kernel_rfl
theorem fl140_2:fldOf Tryd.prog 140 2=some 2:=by kernel_rfl
theorem fu111:funOf Tryd.prog 111=true:=by kernel_rfl
theorem ar142:arrOf Tryd.prog 142=some (2,1):=by kernel_rfl
theorem ty141:aggOf Tryd.prog 141=some false:=by kernel_rfl
theorem ty140:aggOf Tryd.prog 140=some true:=by kernel_rfl
theorem sz140:sizOf Tryd.prog 140=some 7:=by kernel_rfl
theorem fu128:funOf Tryd.prog 128=true:=by kernel_rfl
theorem fu132:funOf Tryd.prog 132=true:=by kernel_rfl
theorem fu49:funOf Tryd.prog 49=true:=by kernel_rfl
theorem fu106:funOf Tryd.prog 106=true:=by kernel_rfl
theorem ae31:arrElOf Tryd.prog 31=some (3,3):=by kernel_rfl
theorem fu94:funOf Tryd.prog 94=true:=by kernel_rfl
theorem fu93:funOf Tryd.prog 93=true:=by kernel_rfl
theorem fu89:funOf Tryd.prog 89=true:=by kernel_rfl
theorem in135:infoOf Tryd.prog 135=some (some (Value.nilFunc),1,8):=by kernel_rfl
theorem sz135:sizOf Tryd.prog 135=some 1:=by kernel_rfl
theorem st105:strOf Tryd.prog 105=some (#[I 0,I 0,I 0,I 0,I 0,I 0],#[(0,3),(3,3)]):=by kernel_rfl
theorem in4:infoOf Tryd.prog 4=some (some (B false),1,1):=by kernel_rfl
theorem fu69:funOf Tryd.prog 69=true:=by kernel_rfl
theorem in105:infoOf Tryd.prog 105=some (some (Value.agg #[I 0,I 0,I 0,I 0,I 0,I 0]),6,48):=by kernel_rfl
theorem sz4:sizOf Tryd.prog 4=some 1:=by kernel_rfl
theorem fu88:funOf Tryd.prog 88=true:=by kernel_rfl
theorem ty4:aggOf Tryd.prog 4=some false:=by kernel_rfl
theorem ty29:aggOf Tryd.prog 29=some true:=by kernel_rfl
theorem sz29:sizOf Tryd.prog 29=some 7:=by kernel_rfl
theorem fu59:funOf Tryd.prog 59=true:=by kernel_rfl
theorem fu64:funOf Tryd.prog 64=true:=by kernel_rfl
theorem in72:infoOf Tryd.prog 72=some (some (Value.agg #[I 0,I 0,I 0,I 0]),4,32):=by kernel_rfl
theorem fu68:funOf Tryd.prog 68=true:=by kernel_rfl
theorem fu37:funOf Tryd.prog 37=true:=by kernel_rfl
theorem in92:infoOf Tryd.prog 92=some (some (Value.agg #[I 0,I 0,Value.slice none 0 0,I 0,Value.slice none 0 0,Value.slice none 0 0,Value.slice none 0 0,I 0,I 0,I 0,Value.map none]),11,152):=by kernel_rfl
theorem st92:strOf Tryd.prog 92=some (#[I 0,I 0,Value.slice none 0 0,I 0,Value.slice none 0 0,Value.slice none 0 0,Value.slice none 0 0,I 0,I 0,I 0,Value.map none],#[(0,7),(7,3),(10,1)]):=by kernel_rfl
theorem sz26:sizOf Tryd.prog 26=some 1:=by kernel_rfl
theorem sz27:sizOf Tryd.prog 27=some 1:=by kernel_rfl
theorem fl96_0:fldOf Tryd.prog 96 0=some 0:=by kernel_rfl
theorem ty94:aggOf Tryd.prog 94=some false:=by kernel_rfl
theorem zr67_1:zrow (Value.agg #[I 0,I 0,I 0]) (1*3)=#[I 0,I 0,I 0]:=by kernel_rfl
theorem zr72_1:zrow (Value.agg #[I 0,I 0,I 0,I 0]) (1*4)=#[I 0,I 0,I 0,I 0]:=by kernel_rfl
theorem in96:infoOf Tryd.prog 96=some (some (Value.agg #[Value.nilFunc]),1,8):=by kernel_rfl
theorem st96:strOf Tryd.prog 96=some (#[Value.nilFunc],#[(0,1)]):=by kernel_rfl
theorem sz96:sizOf Tryd.prog 96=some 1:=by kernel_rfl
theorem ty96:aggOf Tryd.prog 96=some true:=by kernel_rfl
theorem fu53:funOf Tryd.prog 53=true:=by kernel_rfl
theorem fu52:funOf Tryd.prog 52=true:=by kernel_rfl
theorem fu54:funOf Tryd.prog 54=true:=by kernel_rfl
theorem fu95:funOf Tryd.prog 95=true:=by kernel_rfl
theorem ty30:aggOf Tryd.prog 30=some false:=by kernel_rfl
theorem fu72:funOf Tryd.prog 72=true:=by kernel_rfl
theorem fu56:funOf Tryd.prog 56=true:=by kernel_rfl
theorem ty98:aggOf Tryd.prog 98=some false:=by kernel_rfl
theorem fu55:funOf Tryd.prog 55=true:=by kernel_rfl
theorem in98:infoOf Tryd.prog 98=some (some (Value.nilFunc),1,8):=by kernel_rfl
theorem sz98:sizOf Tryd.prog 98=some 1:=by kernel_rfl
theorem in49:infoOf Tryd.prog 49=some (some (Value.agg #[I 0,I 0]),2,16):=by kernel_rfl
theorem st49:strOf Tryd.prog 49=some (#[I 0,I 0],#[(0,1),(1,1)]):=by kernel_rfl
theorem sz49:sizOf Tryd.prog 49=some 2:=by kernel_rfl
theorem ty49:aggOf Tryd.prog 49=some true:=by kernel_rfl
theorem in30:infoOf Tryd.prog 30=some (some (Value.slice none 0 0),1,24):=by kernel_rfl
theorem ty106:aggOf Tryd.prog 106=some false:=by kernel_rfl
theorem sz30:sizOf Tryd.prog 30=some 1:=by kernel_rfl
theorem fu84:funOf Tryd.prog 84=true:=by kernel_rfl
theorem fu85:funOf Tryd.prog 85=true:=by kernel_rfl
theorem fu58:funOf Tryd.prog 58=true:=by kernel_rfl
theorem fu60:funOf Tryd.prog 60=true:=by kernel_rfl
theorem ar133:arrOf Tryd.prog 133=some (2,1):=by kernel_rfl
theorem ty132:aggOf Tryd.prog 132=some false:=by kernel_rfl
theorem fu130:funOf Tryd.prog 130=true:=by kernel_rfl
theorem fu131:funOf Tryd.prog 131=true:=by kernel_rfl
theorem fu63:funOf Tryd.prog 63=true:=by kernel_rfl
theorem in108:infoOf Tryd.prog 108=some (some (Value.agg #[I 0,I 0,I 0]),3,24):=by kernel_rfl
theorem ty108:aggOf Tryd.prog 108=some true:=by kernel_rfl
theorem sz108:sizOf Tryd.prog 108=some 3:=by kernel_rfl
theorem fu67:funOf Tryd.prog 67=true:=by kernel_rfl
theorem ty31:aggOf Tryd.prog 31=some true:=by kernel_rfl
theorem sz31:sizOf Tryd.prog 31=some 3:=by kernel_rfl
theorem ar108:arrOf Tryd.prog 108=some (3,1):=by kernel_rfl
theorem fu66:funOf Tryd.prog 66=true:=by kernel_rfl
theorem eq108:eqOk Tryd.prog 108 [.int .i64,.int .i64,.int .i64]:=⟨by kernel_rfl,by kernel_rfl,by kernel_rfl⟩
theorem fu21:funOf Tryd.prog 21=true:=by kernel_rfl
theorem in39:infoOf Tryd.prog 39=some (some (I 0),1,8):=by kernel_rfl
theorem sz39:sizOf Tryd.prog 39=some 1:=by kernel_rfl
theorem ty39:aggOf Tryd.prog 39=some false:=by kernel_rfl
theorem in29:infoOf Tryd.prog 29=some (some (Value.agg #[I 0,I 0,Value.slice none 0 0,I 0,Value.slice none 0 0,Value.slice none 0 0,Value.slice none 0 0]),7,120):=by kernel_rfl
theorem st81:strOf Tryd.prog 81=some (#[I 0,I 0,I 0,I 0,I 0,I 0,I 0],#[(0,1),(1,1),(2,1),(3,1),(4,1),(5,1),(6,1)]):=by kernel_rfl
theorem zr81_2:zrow (Value.agg #[I 0,I 0,I 0,I 0,I 0,I 0,I 0]) (2*7)=#[I 0,I 0,I 0,I 0,I 0,I 0,I 0,I 0,I 0,I 0,I 0,I 0,I 0,I 0]:=by kernel_rfl
theorem st24:strOf Tryd.prog 24=some (#[I 0,I 0,Value.slice none 0 0],#[(0,1),(1,1),(2,1)]):=by kernel_rfl
theorem st65:strOf Tryd.prog 65=some (#[I 0,I 0],#[(0,1),(1,1)]):=by kernel_rfl
theorem zr65_3:zrow (Value.agg #[I 0,I 0]) (3*2)=#[I 0,I 0,I 0,I 0,I 0,I 0]:=by kernel_rfl
theorem st67:strOf Tryd.prog 67=some (#[I 0,I 0,I 0],#[(0,1),(1,1),(2,1)]):=by kernel_rfl
theorem zr67_2:zrow (Value.agg #[I 0,I 0,I 0]) (2*3)=#[I 0,I 0,I 0,I 0,I 0,I 0]:=by kernel_rfl
theorem st72:strOf Tryd.prog 72=some (#[I 0,I 0,I 0,I 0],#[(0,1),(1,1),(2,1),(3,1)]):=by kernel_rfl
theorem st29:strOf Tryd.prog 29=some (#[I 0,I 0,Value.slice none 0 0,I 0,Value.slice none 0 0,Value.slice none 0 0,Value.slice none 0 0],#[(0,3),(3,1),(4,1),(5,1),(6,1)]):=by kernel_rfl
theorem fu39:funOf Tryd.prog 39=true:=by kernel_rfl
theorem fu22:funOf Tryd.prog 22=true:=by kernel_rfl
theorem fu29:funOf Tryd.prog 29=true:=by kernel_rfl
theorem fu23:funOf Tryd.prog 23=true:=by kernel_rfl
theorem fu24:funOf Tryd.prog 24=true:=by kernel_rfl
theorem fu40:funOf Tryd.prog 40=true:=by kernel_rfl
theorem eq49:eqOk Tryd.prog 49 [.int .i64,.int .i64]:=⟨by kernel_rfl,by kernel_rfl,by kernel_rfl⟩
theorem fu30:funOf Tryd.prog 30=true:=by kernel_rfl
theorem fu43:funOf Tryd.prog 43=true:=by kernel_rfl
theorem zr3_2:zrow (I 0) (2*1)=#[I 0,I 0]:=by kernel_rfl
theorem fu41:funOf Tryd.prog 41=true:=by kernel_rfl
theorem fu18:funOf Tryd.prog 18=true:=by kernel_rfl
theorem fu35:funOf Tryd.prog 35=true:=by kernel_rfl
theorem fu42:funOf Tryd.prog 42=true:=by kernel_rfl
theorem fu17:funOf Tryd.prog 17=true:=by kernel_rfl
theorem fu16:funOf Tryd.prog 16=true:=by kernel_rfl
theorem sz22:sizOf Tryd.prog 22=some 1:=by kernel_rfl
theorem zr81_1:zrow (Value.agg #[I 0,I 0,I 0,I 0,I 0,I 0,I 0]) (1*7)=#[I 0,I 0,I 0,I 0,I 0,I 0,I 0]:=by kernel_rfl
theorem fu13:funOf Tryd.prog 13=true:=by kernel_rfl
theorem zr29_12:zrow (Value.agg #[I 0,I 0,Value.slice none 0 0,I 0,Value.slice none 0 0,Value.slice none 0 0,Value.slice none 0 0]) (12*7)=#[I 0,I 0,Value.slice none 0 0,I 0,Value.slice none 0 0,Value.slice none 0 0,Value.slice none 0 0,I 0,I 0,Value.slice none 0 0,I 0,Value.slice none 0 0,Value.slice none 0 0,Value.slice none 0 0,I 0,I 0,Value.slice none 0 0,I 0,Value.slice none 0 0,Value.slice none 0 0,Value.slice none 0 0,I 0,I 0,Value.slice none 0 0,I 0,Value.slice none 0 0,Value.slice none 0 0,Value.slice none 0 0,I 0,I 0,Value.slice none 0 0,I 0,Value.slice none 0 0,Value.slice none 0 0,Value.slice none 0 0,I 0,I 0,Value.slice none 0 0,I 0,Value.slice none 0 0,Value.slice none 0 0,Value.slice none 0 0,I 0,I 0,Value.slice none 0 0,I 0,Value.slice none 0 0,Value.slice none 0 0,Value.slice none 0 0,I 0,I 0,Value.slice none 0 0,I 0,Value.slice none 0 0,Value.slice none 0 0,Value.slice none 0 0,I 0,I 0,Value.slice none 0 0,I 0,Value.slice none 0 0,Value.slice none 0 0,Value.slice none 0 0,I 0,I 0,Value.slice none 0 0,I 0,Value.slice none 0 0,Value.slice none 0 0,Value.slice none 0 0,I 0,I 0,Value.slice none 0 0,I 0,Value.slice none 0 0,Value.slice none 0 0,Value.slice none 0 0,I 0,I 0,Value.slice none 0 0,I 0,Value.slice none 0 0,Value.slice none 0 0,Value.slice none 0 0]:=by kernel_rfl
theorem sc79:slcOf Tryd.prog 79=some (29,7):=by kernel_rfl
theorem zr65_1:zrow (Value.agg #[I 0,I 0]) (1*2)=#[I 0,I 0]:=by kernel_rfl
theorem sz25:sizOf Tryd.prog 25=some 1:=by kernel_rfl
abbrev gW0:Asr:=bl 0 [I (-1),I (-1)] 128
abbrev gW1:Asr:=bl 1 [Value.func (.func 130) #[] #[],Value.func (.func 131) #[] #[]] 133
abbrev gW2:Asr:=bl 2 [Value.func (.func 128) #[] #[],Value.func (.func 132) #[] #[]] 142
theorem rQ {a b:Nat→Nat→Prop}{Q:Prop} (h:∃ lo hi,a lo hi∧b lo hi∧Q):Q:=by
 obtain ⟨_,_,_,_,h⟩:=h
 exact h
theorem lE {n m:Nat} (h:Nat.ble n m=true):n≤m:=Nat.le_of_ble_eq_true h
theorem rT {P:Program} (fn:Func) {n:Nat}{e:Env}{w w0:World}{t:Nat}{v:Value} (k:Keep0 w0 w) (hf:fn.results=#[.tmp t]) (h:evn n e (.tmp t)=v):bodyPostM (Fr none) 0 P fn (RetV w0 v) .ret (E n e []) w:=ret_of (res1 hf (rvT h)) ⟨_,rfl,rfl,k⟩
theorem dF {ro:Option Nat}{P:Program}{full:Array Oper}{n:Nat}{d:List Deferred}{w:World}{i:Nat}{op:Op}{ty:TypeId}{ps:String}{af:Array Edge}{j s:Nat}{want:Bool}{os:List Oper}{e:Env}{K:Env→Prop} (hj:(full[j]?).bind (·.dst)=some s) (hs:evn n e (.tmp s)=.bool (!want)) (hk:DSk ro P full n d w os (updo e (some i) undef) K):DSk ro P full n d w (⟨some i,op,ty,ps,af,some (j,want)⟩::os) e K:=dS (fun _ _=>gF hj hs dnU) hk
theorem bE (b:Bool):b=true∨b=false:=Bool.eq_false_or_eq_true b
theorem sJ {α:Type}{a b:α} (h:some a=some b):a=b:=Option.some.inj h
theorem mE {α:Type}{l:List α}{i:Nat}{a:α} (h:l[i]? =some a):a∈l:=List.mem_of_getElem? h
abbrev aS:=@Asr.stays
theorem kR {C:Nat→Prop}{w:World}:Keep C w w:=Keep.refl _ _
theorem nE {α:Type}{a:α}{p:Prop} (h:a∈([]:List α)):p:=(List.not_mem_nil h).elim
theorem pC {α:Type}{R:α→α→Prop}{a:α}{l:List α} (h:∀ x∈l,R a x) (t:l.Pairwise R):(a::l).Pairwise R:=List.Pairwise.cons h t
abbrev bL:=@BtwL.of
abbrev vF:=@Value.func
abbrev nF:Nat→Prop:=fun _=>False
end Go.Proofs.YtafhljljfglfeaaDoor
namespace Go.Tally
open Go Go.Fx
structure TC where
 (who fro to told unit under over:Int)
 deriving DecidableEq,Inhabited
def iE (x:Int):Value:=.int .i64 x
abbrev wr (x:Int):Int:=IntKind.i64.wrap x
def leastI (x:TC):Int:=wr (wr (x.told*x.unit) - x.over)
def mostI (x:TC):Int:=wr (wr (x.told*x.unit)+x.under)
def minI (a b:Int):Int:=if b < a then b else a
def noteL (m:List ((Int×Int)×Int)) (p:Int×Int) (n:Int):List ((Int×Int)×Int):=putL m p (match lookL m p with | some o=>minI n o | none=>n)
def tripsL (r:Int):Nat→List ((Int×Int)×Int)
 | 0=>[]
 | k+1=>noteL (noteL (tripsL r k) ((k:Int),(k:Int)+1) r) ((k:Int)+1,(k:Int)) 0
def countsL (out:TC→Nat→Bool) (l:List TC) (m:List ((Int×Int)×Int)):Nat→List ((Int×Int)×Int)
 | 0=>m
 | k+1=>match l[k]? with
   | some x=>if out x k then countsL out l m k else noteL (noteL (countsL out l m k) (x.fro,x.to+1) (mostI x)) (x.to+1,x.fro) (wr (-(leastI x)))
   | none=>countsL out l m k
def openedL (out:TC→Nat→Bool) (t r:Int) (l:List TC):List ((Int×Int)×Int):=countsL out l (tripsL r t.toNat) l.length
def zeros:List Int:=List.replicate 9 0
def initO (start:Int) (k:Nat):List Int:=(List.range 9).map fun j=>if j < k∧(j:Int)≠start then 481 else 0
abbrev Ent:=(Int×Int)×Int
def viol (o:List Int) (e:Ent):Bool:=decide (wr (o.getD e.1.1.toNat 0+e.2) < o.getD e.1.2.toNat 0)
def relax (s:List Int×Bool) (e:Ent):List Int×Bool:=
 if (e.1 != (-1,-1))&&viol s.1 e then (s.1.set e.1.2.toNat (wr (s.1.getD e.1.1.toNat 0+e.2)),true) else s
def relaxL (o:List Int) (l:List Ent):List Int×Bool:=l.foldl relax (o,false)
def RoundR (l:List Ent) (o o' :List Int) (ch:Bool):Prop:=∃ p:List Ent,p.Perm l∧relaxL o p=(o',ch)
inductive RoundsR (start:Nat) (l:List Ent):Nat→List Int→Option (List Int)→Prop
 | stop {o}:RoundsR start l 0 o (some o)
 | calm {k o o'}:RoundR l o o' false→RoundsR start l (k+1) o (some o')
 | neg {k o o'}:RoundR l o o' true→o'.getD start 0 < 0→RoundsR start l (k+1) o none
 | go {k o o' r}:RoundR l o o' true→¬o'.getD start 0 < 0→RoundsR start l k o' r→RoundsR start l (k+1) o r
def FromR (t start:Int) (l:List Ent) (out:List Int) (r:Bool):Prop:=
 (RoundsR start.toNat l (t+2).toNat (initO start (t+1).toNat) none∧r=false∧out=zeros)∨
 ∃ o,RoundsR start.toNat l (t+2).toNat (initO start (t+1).toNat) (some o)∧((l.any (viol o)=true∧r=false∧out=zeros)∨(l.any (viol o)=false∧r=true∧out=o))
def mlOf (t r:Int) (l:List TC):List Ent:=openedL (fun _ _=>false) t r l
def ManyR (t a b:Int) (ml:List Ent) (lo hi:Int):Prop:=
 ∃ up ur dn dr,FromR t a ml up ur∧FromR t b ml dn dr∧((dn=zeros∧up=zeros∧lo=0∧hi=0)∨(¬(dn=zeros∧up=zeros)∧lo=wr (-(dn.getD a.toNat 0))∧hi=up.getD b.toNat 0))
def WhoF (t r:Int) (l:List TC) (k:Nat) (f:Nat→Bool):Prop:=∀ w,w < k→∃ o,FromR t 0 (openedL (fun x _=>x.who==(w:Int)) t r l) o (f w)
theorem WhoF.step {t r:Int}{l:List TC}{k:Nat}{f:Nat→Bool}{b:Bool}{o:List Int} (h:WhoF t r l k f) (hb:FromR t 0 (openedL (fun x _=>x.who==(k:Int)) t r l) o b):WhoF t r l (k+1) (fun w=>if w=k then b else f w):=by
 intro w hw
 by_cases hk:w=k
 ·subst hk; exact ⟨o,by simpa using hb⟩
 ·simp only [if_neg hk]; exact h w (by omega)
def exactC (k:Int) (n:Int):TC:=⟨2,k,k,n,1,0,0⟩
inductive WorstR (t r:Int) (l:List TC) (k lo:Int):Nat→Int→Prop
 | zero:WorstR t r l k lo 0 0
 | succ {n w lo2 hi2}:WorstR t r l k lo n w→ManyR t 0 t (mlOf t r (l++[exactC k (wr (lo+(n:Int)))])) lo2 hi2→WorstR t r l k lo (n+1) (if wr (hi2 - lo2) > w then wr (hi2 - lo2) else w)
inductive OuterR (t r:Int) (l:List TC):Nat→Int→Int→Prop
 | zero:OuterR t r l 0 (-1) 0
 | yes {k b a lo hi w}:OuterR t r l k b a→ManyR t (k:Int) ((k:Int)+1) (mlOf t r l) lo hi→WorstR t r l k lo (wr (wr (hi - lo)+1)).toNat w→(decide (b < 0)||decide (w < a))=true→OuterR t r l (k+1) k w
 | no {k b a lo hi w}:OuterR t r l k b a→ManyR t (k:Int) ((k:Int)+1) (mlOf t r l) lo hi→WorstR t r l k lo (wr (wr (hi - lo)+1)).toNat w→(decide (b < 0)||decide (w < a))=false→OuterR t r l (k+1) b a
def KeysIn (t:Int) (m:List Ent):Prop:=∀ x∈m,0≤x.1.1∧x.1.1≤t∧0≤x.1.2∧x.1.2≤t
end Go.Tally
namespace Go.Proofs.YtafhljljfglfeaaDoor.Fr
open Go Go.Fx Go.Proofs Go.Tally
theorem fl24_0:fldOf Tryd.prog 24 0=some 0:=by kernel_rfl
theorem ty3:aggOf Tryd.prog 3=some false:=by kernel_rfl
theorem sz3:sizOf Tryd.prog 3=some 1:=by kernel_rfl
theorem mixed:Tryd.prog.follows .mixedOrders=true:=by kernel_rfl
end Go.Proofs.YtafhljljfglfeaaDoor.Fr
namespace Go.Tally
open Go Go.Fx
def Pot (ml:List Ent) (q:Nat→Int):Prop:=∀ e∈ml,q e.1.2.toNat≤q e.1.1.toNat+e.2
structure Vd (t:Int) (s:Int) (ml:List Ent):Prop where
 t0:0≤t
 t8:t≤8
 s0:0≤s
 st:s≤t
 ks:KeysIn t ml
 bd:∀ e∈ml,-10000≤e.2∧e.2≤10000
 ln:ml.length≤1000
 up:∀ k:Nat,(k:Int) < t→∃ n:Int,n≤60∧(((k:Int),(k:Int)+1),n)∈ml
 dn:∀ k:Nat,(k:Int) < t→∃ n:Int,n≤0∧(((k:Int)+1,(k:Int)),n)∈ml
def Bnd (b:Int) (o:List Int):Prop:=∀ v,-b≤o.getD v 0∧o.getD v 0≤481
structure Rx (T:Nat) (b:Int) (o:List Int) (l:List Ent) (s:List Int×Bool):Prop where
 len:s.1.length=o.length
 mono:∀ v,s.1.getD v 0≤o.getD v 0
 bnd:Bnd (b+10000*l.length) s.1
 out:∀ v,T < v→s.1.getD v 0=o.getD v 0
 low:∀ q:Nat→Int,Pot l q→(∀ v,v≤T→q v≤o.getD v 0)→∀ v,v≤T→q v≤s.1.getD v 0
 done:∀ e∈l,s.1.getD e.1.2.toNat 0≤o.getD e.1.1.toNat 0+e.2
 calm:s.2=false→s.1=o
theorem Pot.perm {p l:List Ent} (h:p.Perm l) {q:Nat→Int} (hq:Pot l q):Pot p q:=fun e he=>hq e (h.mem_iff.1 he)
structure Iv (t s:Int) (ml:List Ent) (b:Int) (o:List Int):Prop where
 len:o.length=9
 bnd:Bnd b o
 out:∀ v,t.toNat < v→o.getD v 0=0
 top:o.getD s.toNat 0≤0
 low:∀ q,Pot ml q→q s.toNat=0→∀ v,v≤t.toNat→q v≤o.getD v 0
structure Mx (t s:Int) (ml:List Ent) (out:List Int):Prop where
 len:out.length=9
 pot:Pot ml (fun v=>out.getD v 0)
 zero:out.getD s.toNat 0=0
 max:∀ q,Pot ml q→∀ v:Nat,(v:Int)≤t→q v - q s.toNat≤out.getD v 0
 out:∀ v,t.toNat < v→out.getD v 0=0
end Go.Tally
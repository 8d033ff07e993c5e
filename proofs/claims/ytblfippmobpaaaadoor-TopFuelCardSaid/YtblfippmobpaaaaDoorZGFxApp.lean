/- Part of a logic of my own for walks: rules by which a proof steps through code, proved once. -/
import Derived.CallsIn
import Derived.RangeFuncIn
import Derived.RangeFuncLeaves
import Derived.RangeFuncOwn
import Derived.Laws.World
import Derived.Laws.Sem
import Derived.Laws.Cells
import Derived.Below
import Derived.Laws.Tables
import Derived.OrdersIn
import Derived.Laws.AppendOwn
import Derived.Laws.AppendOwnNone
set_option linter.unusedSimpArgs false
set_option linter.unusedVariables false
namespace Go.Fx
open Go
abbrev Fr (ro:Option Nat):Fence:={ fn:=fun _=>True,depth:=none,alive:=false,round:=ro }
abbrev Env:=Nat→Value
def upd (e:Env) (i:Nat) (v:Value):Env:=fun j=>bif Nat.beq j i then v else e j
def updo (e:Env):Option Nat→Value→Env
 | some i,v=>upd e i v
 | none,_=>e
def E (n:Nat) (e:Env) (d:List Deferred):Act:={ tmps:=Array.ofFn (fun i:Fin n=>e i.val),defers:=d }
def evn (n:Nat) (e:Env):Operand→Value
 | .tmp t=>bif Nat.ble (t+1) n then e t else undef
 | .const v=>v
 | .global g=>.pointer (some ⟨g,0,none⟩)
 | .func f=>.func (.func f) #[] #[]
theorem nbeq {i j:Nat} (h:i≠j):Nat.beq i j=false:=Bool.eq_false_iff.2 (by rw [ne_eq,Nat.beq_eq]; exact h)
theorem E_eval (n:Nat) (e:Env) (d:List Deferred):(E n e d).eval=evn n e:=by
 funext x
 cases x with
 | tmp t=>
   simp only [Act.eval,evn,E,Array.getD_eq_getD_getElem?,Array.getElem?_ofFn]
   by_cases h:t < n
   ·have hb:Nat.ble (t+1) n=true:=by rw [Nat.ble_eq]; exact h
    simp [h,hb]
   ·have hb:Nat.ble (t+1) n=false:=Bool.eq_false_iff.2 (by rw [ne_eq,Nat.ble_eq]; exact h)
    simp [h,hb]
 | _=>rfl
theorem E_put (n:Nat) (e:Env) (d:List Deferred) (o:Option Nat) (v:Value):(E n e d).put o v=E n (updo e o v) d:=by
 cases o with
 | none=>rfl
 | some i=>
   simp only [Act.put,E,updo,Act.mk.injEq,and_true]
   refine Array.ext (by simp) fun j h1 h2=>?_
   simp only [Array.getElem_ofFn,upd]
   by_cases h:i=j
   ·subst h; simp
   ·have:Nat.beq j i=false:=nbeq (fun h' =>h h'.symm)
    rw [Array.getElem_setIfInBounds_ne (by simpa using h1) h]
    simp [this]
theorem E_enter (args:Array Value) (n:Nat) (h:args.size≤n):
 ({ tmps:=args++Array.replicate (n - args.size) undef,defers:=[] }:Act)=E n (fun i=>args.toList.getD i undef) []:=by
 simp only [E,Act.mk.injEq,and_true]
 refine Array.ext (by simp; omega) fun j h1 h2=>?_
 simp only [Array.getElem_ofFn,Array.getElem_append,Array.getElem_replicate]
 split
 ·rename_i hj
  simp [List.getD,List.getElem?_eq_getElem (l:=args.toList) (by simpa using hj)]
 ·rename_i hj
  simp [List.getD,List.getElem?_eq_none (l:=args.toList) (by simpa using hj)]
section
variable {ro:Option Nat}{P:Program}{full:Array Oper}{Q:Exit→Act→World→Prop}{n:Nat}{d:List Deferred}{e:Env}{w:World}
def wpA (ro:Option Nat) (P:Program) (full:Array Oper) (Q:Exit→Act→World→Prop):List Oper→Act→World→Prop
 | [],a,w=>Q .normal a w
 | o::rest,a,w=>if Region.wanted o (yielded full a.tmps) then o.wpIn (Fr ro) 0 P a w (wpA ro P full Q rest) Q else wpA ro P full Q rest (a.put o.dst undef) w
theorem wpA_ops (full:Array Oper):∀ (l:List Nat) (a:Act) (w:World),wpA ro P full Q (l.filterMap (full[·]?)) a w→wpOpsIn (Fr ro) 0 P full Q l a w
 | [],_,_,h=>h
 | i::l,a,w,h=>by
   unfold wpOpsIn
   cases ho:full[i]? with
   | none=>
     simp only [List.filterMap_cons,ho] at h
     exact wpA_ops full l a w h
   | some o=>
     simp only [List.filterMap_cons,ho,wpA] at h
     simp only
     split at h
     ·rename_i hw
      rw [if_pos hw]
      refine ⟨fun _ _=>trivial,?_⟩
      obtain ⟨_,h⟩:=h
      revert h
      generalize (o.semAt (Fr ro).round a.eval).run P w=r
      intro h
      have key:∀ (a:Act) (w:World),wpA ro P full Q (l.filterMap (full[·]?)) a w→wpOpsIn (Fr ro) 0 P full Q l a w:=wpA_ops full l
      unfold Oper.uponIn at h ⊢
      split at h
      ·exact key _ _ h
      ·exact key _ _ h
      ·exact key _ _ h
      ·refine ⟨h.1,h.2.mono fun e w' he=>?_⟩
       cases e with
       | returned v=>exact key _ _ he
       | panicked c=>exact he
       | outgrown=>exact he
      ·exact ⟨h.1,h.2.mono fun v w' he=>key _ _ he⟩
      ·refine ⟨h.1,h.2.mono fun e w' he=>?_⟩
       cases e with
       | returned v=>exact key _ _ he
       | panicked c=>exact he
       | outgrown=>exact he
      ·exact h
      ·exact h.elim
     ·rename_i hw
      rw [if_neg hw]
      exact ⟨fun _ _=>trivial,wpA_ops full l _ w h⟩
theorem range_filterMap (full:Array Oper):(List.range full.size).filterMap (full[·]?)=full.toList:=by
 have:∀ l:List Oper,(List.range l.length).filterMap (l.toArray[·]?)=l:=by
  intro l
  induction l with
  | nil=>rfl
  | cons x l ih=>
    simp only [List.length_cons,List.range_succ_eq_map,List.filterMap_cons,List.filterMap_map]
    simp only [List.getElem?_toArray] at ih ⊢
    simpa [Function.comp_def] using ih
 simpa using this full.toList
theorem reg {id:Nat}{l:List Oper} (h:wpA ro P l.toArray Q l (E n e d) w):(Code.region id l.toArray false).wpIn (Fr ro) 0 P Q (E n e d) w:=by
 refine wpIn_region (wpA_ops _ _ _ _ ?_)
 rw [range_filterMap]
 exact h
theorem op_val {o:Oper}{rest:List Oper}{v:Value}{w' :World} (hg:o.guard=none) (hd:∀ c,o.op≠.defer c) (hr:(execOp (evn n e) o).run P w=.ok (.value v) w')
 (h:wpA ro P full Q rest (E n (updo e o.dst v) d) w'):wpA ro P full Q (o::rest) (E n e d) w:=by
 unfold wpA
 rw [if_pos (by simp [Region.wanted,hg])]
 refine ⟨fun _ _=>trivial,?_⟩
 rw [Oper.semAt_eq _ _ _ hd,E_eval,hr,Oper.uponIn_value,E_put]
 exact h
theorem op_skip {o:Oper}{rest:List Oper}{w' :World} (hg:o.guard=none) (hd:∀ c,o.op≠.defer c) (hr:(execOp (evn n e) o).run P w=.ok .skip w')
 (h:wpA ro P full Q rest (E n (updo e o.dst undef) d) w'):wpA ro P full Q (o::rest) (E n e d) w:=by
 unfold wpA
 rw [if_pos (by simp [Region.wanted,hg])]
 refine ⟨fun _ _=>trivial,?_⟩
 rw [Oper.semAt_eq _ _ _ hd,E_eval,hr,Oper.uponIn_skip,E_put]
 exact h
theorem callsIn_of {F:Fence} (hF:∀ f,F.fn f) (hd:F.depth=none) (ha:F.alive=false) {k:Nat}{f:FuncId}{args:Array Value}{w:World}{R:Ending→World→Prop} (h:Calls P f args w R):CallsIn F k P f args w R:=by
 refine ⟨hF f,fun cs _=>?_⟩
 obtain ⟨e,w',fr,r,s,x⟩:=h cs
 refine ⟨e,w',fr,r,?_,x⟩
 have hfen:∀ m:Machine,Machine.fenced P F m:=by
  intro m g _
  refine ⟨fun h=>by simp [ha] at h,Or.inl (hF _),fun _ _=>hF _,fun _ h=>by simp [hd] at h⟩
 cases e with
 | returned v=>exact (StepsIn.of_steps s).mono fun m _=>hfen m
 | panicked c=>exact (StepsIn.of_steps s).mono fun m _=>hfen m
 | outgrown=>exact s
theorem op_enter {o:Oper}{rest:List Oper}{f:FuncId}{args:Array Value}{w' :World} (hg:o.guard=none) (hd:∀ c,o.op≠.defer c) (hr:(execOp (evn n e) o).run P w=.ok (.enter f args) w')
 {R:Value→World→Prop} (hc:Calls P f args w' fun en w2=>∃ v,en=.returned v∧R v w2)
 (h:∀ v w2,R v w2→wpA ro P full Q rest (E n (updo e o.dst v) d) w2):wpA ro P full Q (o::rest) (E n e d) w:=by
 unfold wpA
 rw [if_pos (by simp [Region.wanted,hg])]
 refine ⟨fun _ _=>trivial,?_⟩
 rw [Oper.semAt_eq _ _ _ hd,E_eval,hr,Oper.uponIn_enter]
 refine ⟨fun h=>by simp at h,(callsIn_of (fun _=>trivial) rfl rfl hc).mono ?_⟩
 rintro en w2 ⟨v,rfl,hR⟩
 have:=h v w2 hR
 rw [← E_put] at this
 exact this
theorem c_seq {x y:Code} (h:x.wpIn (Fr ro) 0 P (Exit.then (y.wpIn (Fr ro) 0 P Q) Q) (E n e d) w):(Code.seq x y).wpIn (Fr ro) 0 P Q (E n e d) w:=wpIn_seq h
theorem c_skip (h:Q .normal (E n e d) w):Code.skip.wpIn (Fr ro) 0 P Q (E n e d) w:=wpIn_skip h
theorem c_ret (h:Q .ret (E n e d) w):Code.ret.wpIn (Fr ro) 0 P Q (E n e d) w:=wpIn_ret h
theorem c_exit {id:Nat} (h:Q (.exit id) (E n e d) w):(Code.exit id).wpIn (Fr ro) 0 P Q (E n e d) w:=wpIn_exit h
theorem c_label {l:Nat} (h:Q .normal (E n e d) w):(Code.label l).wpIn (Fr ro) 0 P Q (E n e d) w:=wpIn_label h
theorem c_block {id:Nat}{c:Code} (h:c.wpIn (Fr ro) 0 P (Exit.inBlock id Q) (E n e d) w):(Code.block id c).wpIn (Fr ro) 0 P Q (E n e d) w:=wpIn_block h
theorem c_cond {c:Operand}{x y:Code}{t:Bool} (hc:evn n e c=.bool t) (ht:t=true→x.wpIn (Fr ro) 0 P Q (E n e d) w)
 (hf:t=false→y.wpIn (Fr ro) 0 P Q (E n e d) w):(Code.cond c x y).wpIn (Fr ro) 0 P Q (E n e d) w:=
 wpIn_cond_split (by rw [E_eval]; exact hc) ht hf
theorem c_true {c:Operand}{x y:Code} (hc:evn n e c=.bool true) (ht:x.wpIn (Fr ro) 0 P Q (E n e d) w):(Code.cond c x y).wpIn (Fr ro) 0 P Q (E n e d) w:=
 wpIn_cond_true (by rw [E_eval]; exact hc) ht
theorem c_false {c:Operand}{x y:Code} (hc:evn n e c=.bool false) (hf:y.wpIn (Fr ro) 0 P Q (E n e d) w):(Code.cond c x y).wpIn (Fr ro) 0 P Q (E n e d) w:=
 wpIn_cond_false (by rw [E_eval]; exact hc) hf
def noGo (Q:Exit→Act→World→Prop):Exit→Act→World→Prop
 | .goto _,_,_=>False
 | e,a,w=>Q e a w
theorem c_scope {c:Code} (h:c.wpIn (Fr ro) 0 P (noGo Q) (E n e d) w):(Code.scope c).wpIn (Fr ro) 0 P Q (E n e d) w:=by
 intro b k cs hro hb hr
 have h0:(lone (b.atR (E n e d) (.code (.scope c)::k)) cs w).fenced P (Fr ro):=fenced_calm hb hr rfl
 have s1:step P (lone (b.atR (E n e d) (.code (.scope c)::k)) cs w)=.next (lone (b.atR (E n e d) (.code c:: .inScope c::k)) cs w):=step_lone_go (by simp [stepG,stepG.exec,Frame.atR])
 have s2:∀ a w,step P (lone (b.atR a (.inScope c::k)) cs w)=.next (lone (b.atR a k) cs w):=fun a w=>step_lone_go (by simp [stepG,stepG.exec,Frame.atR])
 obtain ⟨e,a₁,w₁,hq,harr⟩:=h b (.inScope c::k) cs hro hb hr
 cases e with
 | normal=>exact ⟨.normal,a₁,w₁,hq,.head h0 s1 (StepsIn.trans harr (.one (fenced_calm hb hr rfl) (s2 _ _)))⟩
 | exit id' =>
   have hx:exitTo id' (.inScope c::k)=exitTo id' k:=by simp [exitTo]
   exact ⟨.exit id',a₁,w₁,hq,fun k' hk=>.head h0 s1 (harr.1 k' (by rw [hx]; exact hk)),
    fun hr' hk=>let ⟨k₁,h1,h2⟩:=harr.2 hr' (by rw [hx]; exact hk); ⟨k₁,h1,.head h0 s1 h2⟩⟩
 | goto l=>exact hq.elim
 | ret=>exact ⟨_,a₁,w₁,hq,.of_steps (.one h0 s1) harr⟩
 | panic ch=>exact ⟨_,a₁,w₁,hq,.of_steps (.one h0 s1) harr⟩
 | outgrown=>exact ⟨_,a₁,w₁,hq,.of_steps (.one h0 s1) harr⟩
def ups (g:Env):List (Nat×Value)→Env
 | []=>g
 | (i,v)::l=>upd (ups g l) i v
def Has (e:Env):List (Nat×Value)→Prop
 | []=>True
 | (i,v)::l=>e i=v∧Has e l
theorem ups_has {e:Env}:∀ {L:List (Nat×Value)},Has e L→ups e L=e
 | [],_=>rfl
 | (i,v)::l,h=>by
   have ih:=ups_has h.2
   simp only [ups,ih]
   funext j
   simp only [upd]
   by_cases hj:j=i
   ·subst hj; simp [h.1]
   ·simp [nbeq hj]
theorem c_loop {c:Code}{α:Type} (L:α→List (Nat×Value)) (I:α→World→Prop) (μ:α→Nat) (x:α) (hL:Has e (L x)) (h0:I x w)
 (round:∀ (x:α) (g:Env) (w:World),I x w→
  c.wpIn (Fr ro) 0 P (Exit.then (fun a w' =>∃ (y:α) (e' :Env),a=E n e' d∧Has e' (L y)∧I y w' ∧μ y < μ x) Q) (E n (ups g (L x)) d) w):
 (Code.loop c).wpIn (Fr ro) 0 P Q (E n e d) w:=by
 let J:Nat→Act→World→Prop:=fun m a w=>∃ (y:α) (e' :Env),a=E n e' d∧Has e' (L y)∧I y w∧μ y=m
 have key:∀ (m:Nat) (a:Act) (w:World),J m a w→(Code.loop c).wpIn (Fr ro) 0 P Q a w:=by
  intro m a w hJ
  classical
  refine wpIn_loop (fun a w=>∃ m,J m a w) (fun a w=>if h:∃ m,J m a w then Classical.epsilon (fun k=>J k a w∧∀ k',J k' a w→k≤k') else 0) ⟨m,hJ⟩ ?_
  intro a w hex
  have hleast:∃ k,J k a w∧∀ k',J k' a w→k≤k' :=by
   obtain ⟨m,hm⟩:=hex
   induction m using Nat.strongRecOn with
   | _ m ih=>
     by_cases hh:∃ k,k < m∧J k a w
     ·obtain ⟨k,hk,hj⟩:=hh
      exact ih k hk hj
     ·exact ⟨m,hm,fun k' hk' =>Nat.le_of_not_lt fun hlt=>hh ⟨k',hlt,hk'⟩⟩
  have heps:=Classical.epsilon_spec hleast
  obtain ⟨⟨y,e',rfl,hh,hI,hy⟩,hmin⟩:=heps
  have hr:=round y e' w hI
  rw [ups_has hh] at hr
  refine wpIn_mono hr ?_
  intro ex a' w' hq
  cases ex with
  | normal=>
    obtain ⟨z,e2,rfl,hz,hIz,hlt⟩:=hq
    refine ⟨⟨μ z,z,e2,rfl,hz,hIz,rfl⟩,?_⟩
    rw [dif_pos hex]
    have hexz:∃ m,J m (E n e2 d) w' :=⟨μ z,z,e2,rfl,hz,hIz,rfl⟩
    rw [dif_pos hexz]
    have hleastz:∃ k,J k (E n e2 d) w' ∧∀ k',J k' (E n e2 d) w' →k≤k' :=by
     obtain ⟨m,hm⟩:=hexz
     induction m using Nat.strongRecOn with
     | _ m ih=>
       by_cases hh:∃ k,k < m∧J k (E n e2 d) w'
       ·obtain ⟨k,hk,hj⟩:=hh
        exact ih k hk hj
       ·exact ⟨m,hm,fun k' hk' =>Nat.le_of_not_lt fun hlt=>hh ⟨k',hlt,hk'⟩⟩
    have hz2:=(Classical.epsilon_spec hleastz).2 (μ z) ⟨z,e2,rfl,hz,hIz,rfl⟩
    omega
  | exit id=>exact hq
  | goto l=>exact hq
  | ret=>exact hq
  | panic c=>exact hq
  | outgrown=>exact hq
 exact key (μ x) _ w ⟨x,e,rfl,hL,h0,rfl⟩
end
theorem wp_nil {ro:Option Nat}{P:Program}{full:Array Oper}{Q:Exit→Act→World→Prop}{a:Act}{w:World} (h:Q .normal a w):wpA ro P full Q [] a w:=by
 unfold wpA
 exact h
attribute [irreducible] wpA
end Go.Fx
namespace Go.Fx
open Go
structure Keep (C:Nat→Prop) (w w' :World):Prop where
 os:w'.os=w.os
 tape:w'.tape=w.tape
 output:w'.output=w.output
 size:w.heap.size≤w'.heap.size
 block:∀ b,b < w.heap.size→¬C b→w'.heap[b]? =w.heap[b]?
abbrev Keep0:World→World→Prop:=Keep (fun _=>False)
theorem Keep.refl (C:Nat→Prop) (w:World):Keep C w w:=⟨rfl,rfl,rfl,Nat.le_refl _,fun _ _ _=>rfl⟩
theorem Keep.trans {C:Nat→Prop}{a b c:World} (h:Keep C a b) (k:Keep C b c):Keep C a c:=
 ⟨k.os.trans h.os,k.tape.trans h.tape,k.output.trans h.output,Nat.le_trans h.size k.size,fun i hi hC=>(k.block i (Nat.lt_of_lt_of_le hi h.size) hC).trans (h.block i hi hC)⟩
theorem Keep.weak {C C' :Nat→Prop}{a b:World} (h:Keep C a b) (hC:∀ i,i < a.heap.size→C i→C' i):Keep C' a b:=
 ⟨h.os,h.tape,h.output,h.size,fun i hi hn=>h.block i hi fun hc=>hn (hC i hi hc)⟩
structure Asr where
 fp:Nat→Prop
 ok:World→Prop
 mono:∀ w w',ok w→(∀ b,fp b→w'.heap[b]? =w.heap[b]?)→ok w'
 inb:∀ w b,ok w→fp b→b < w.heap.size
def bx (b:Nat) (o:Obj):Asr where
 fp i:=i=b
 ok w:=w.heap[b]? =some o
 mono w w' h k:=(k b rfl).trans h
 inb w i h hi:=by subst hi; exact (Array.getElem?_eq_some_iff.1 h).1
structure St (w0:World) (C:Nat→Prop) (w:World) (X P:List Asr):Prop where
 keep:Keep C w0 w
 xs:∀ x∈X,x.ok w
 ps:∀ p∈P,p.ok w
 dx:X.Pairwise (fun p q=>∀ b,p.fp b→¬q.fp b)
 dp:∀ x∈X,∀ p∈P,∀ b,x.fp b→¬p.fp b
 own:∀ x∈X,∀ b,x.fp b→w0.heap.size≤b∨C b
section
variable {w0 w w' :World}{C:Nat→Prop}{X P:List Asr}
theorem St.start (w:World) (C:Nat→Prop) (P:List Asr) (h:∀ p∈P,p.ok w):St w C w [] P:=
 ⟨Keep.refl _ _,(fun _ h=>(List.not_mem_nil h).elim),h,List.Pairwise.nil,(fun _ h=>(List.not_mem_nil h).elim),(fun _ h=>(List.not_mem_nil h).elim)⟩
theorem St.same (S:St w0 C w X P) (hk:Keep C w0 w') (h:∀ b,b < w.heap.size→w'.heap[b]? =w.heap[b]?):St w0 C w' X P:=
 ⟨hk,fun x hx=>x.mono _ _ (S.xs x hx) fun b hb=>h b (x.inb _ _ (S.xs x hx) hb),fun x hx=>x.mono _ _ (S.ps x hx) fun b hb=>h b (x.inb _ _ (S.ps x hx) hb),S.dx,S.dp,S.own⟩
theorem St.call (S:St w0 C w X P) (hk:Keep0 w w'):St w0 C w' X P:=
 S.same (S.keep.trans (hk.weak fun _ _ h=>h.elim)) fun b hb=>hk.block b hb (fun x=>x)
theorem St.drew (S:St w0 C w X P):St w0 C w.drew X P:=S.same ⟨S.keep.os,S.keep.tape,S.keep.output,S.keep.size,S.keep.block⟩ fun _ _=>rfl
theorem St.more (S:St w0 C w X P) {N:List Asr} (hN:∀ p∈N,p.ok w) (hd:∀ p∈N,∀ b,p.fp b→∀ x∈X,¬x.fp b):St w0 C w X (N++P):=
 ⟨S.keep,S.xs,fun p hp=>(List.mem_append.1 hp).elim (hN p) (S.ps p),S.dx,
  fun x hx p hp b hb=>(List.mem_append.1 hp).elim (fun h hq=>hd p h b hq x hx hb) (fun h=>S.dp x hx p h b hb),S.own⟩
theorem St.callMore (S:St w0 C w X P) (hk:Keep0 w w') {N:List Asr} (hN:∀ p∈N,p.ok w') (hf:∀ p∈N,∀ b,p.fp b→w.heap.size≤b∨∃ q∈P,q.fp b):St w0 C w' X (N++P):=by
 refine (S.call hk).more hN fun p hp b hb x hx hxb=>?_
 rcases hf p hp b hb with h | ⟨q,hq,hqb⟩
 ·have:=x.inb _ _ (S.xs x hx) hxb
  omega
 ·exact S.dp x hx q hq b hxb hqb
theorem St.alloc (S:St w0 C w X P) (o:Obj):St w0 C (w.alloc o) (bx w.heap.size o::X) P:=by
 have hs:∀ b,b < w.heap.size→(w.alloc o).heap[b]? =w.heap[b]? :=fun b hb=>RowKit.Below.heap_alloc w o b hb
 have hk:Keep C w0 (w.alloc o):=S.keep.trans ⟨rfl,rfl,rfl,by simp,fun b hb _=>hs b hb⟩
 have S' :=S.same hk hs
 refine ⟨hk,fun x hx=>?_,S'.ps,List.Pairwise.cons (fun q hq b hb hqb=>?_) S'.dx,fun x hx p hp b hb hpb=>?_,fun x hx b hb=>?_⟩
 ·rcases List.mem_cons.1 hx with rfl | h
  ·show (w.heap.push o)[w.heap.size]? =some o
   simp
  ·exact S'.xs x h
 ·have h1:=q.inb _ _ (S.xs q hq) hqb
  change b=w.heap.size at hb
  omega
 ·rcases List.mem_cons.1 hx with rfl | h
  ·have h1:=p.inb _ _ (S.ps p hp) hpb
   change b=w.heap.size at hb
   omega
  ·exact S'.dp x h p hp b hb hpb
 ·rcases List.mem_cons.1 hx with rfl | h
  ·change b=w.heap.size at hb
   exact .inl (by have:=S.keep.size; omega)
  ·exact S'.own x h b hb
theorem St.turn (S:St w0 C w X P) {i:Nat}{x y:Asr} (hi:X[i]? =some x) (hy:y.ok w') (hf:∀ b,y.fp b→x.fp b∨w.heap.size≤b)
 (hos:w'.os=w.os) (htape:w'.tape=w.tape) (hout:w'.output=w.output) (hsize:w.heap.size≤w'.heap.size) (hb:∀ b,b < w.heap.size→¬x.fp b→w'.heap[b]? =w.heap[b]?):St w0 C w' (X.set i y) P:=by
 obtain ⟨hlt,rfl⟩:=List.getElem?_eq_some_iff.1 hi
 have hxm:X[i]∈X:=List.getElem_mem hlt
 have hk:Keep C w0 w' :=by
  refine ⟨hos.trans S.keep.os,htape.trans S.keep.tape,hout.trans S.keep.output,Nat.le_trans S.keep.size hsize,fun b hbl hC=>?_⟩
  have hne:¬X[i].fp b:=fun hx=>by
   rcases S.own _ hxm b hx with h | h
   ·omega
   ·exact hC h
  exact (hb b (Nat.lt_of_lt_of_le hbl S.keep.size) hne).trans (S.keep.block b hbl hC)
 have hother:∀ j (hj:j < X.length),j≠i→∀ b,X[j].fp b→¬X[i].fp b:=by
  intro j hj hne b h1 h2
  rcases Nat.lt_or_gt_of_ne hne with h | h
  ·exact List.pairwise_iff_getElem.1 S.dx j i hj hlt h b h1 h2
  ·exact List.pairwise_iff_getElem.1 S.dx i j hlt hj h b h2 h1
 have keepx:∀ (z:Asr),z.ok w→(∀ b,z.fp b→¬X[i].fp b)→z.ok w' :=fun z hz hd=>z.mono _ _ hz fun b hbz=>hb b (z.inb _ _ hz hbz) (hd b hbz)
 refine ⟨hk,fun x hx=>?_,fun p hp=>keepx p (S.ps p hp) fun b h1 h2=>S.dp _ hxm p hp b h2 h1,?_,fun x hx p hp b hxb hpb=>?_,fun x hx b hxb=>?_⟩
 ·obtain ⟨j,hj,rfl⟩:=List.getElem_of_mem hx
  rw [List.length_set] at hj
  rw [List.getElem_set]
  split
  ·exact hy
  ·rename_i hne
   exact keepx _ (S.xs _ (List.getElem_mem hj)) (hother j hj (fun h=>hne h.symm))
 ·rw [List.pairwise_iff_getElem]
  intro j k hj hk hjk b h1 h2
  rw [List.length_set] at hj hk
  rw [List.getElem_set] at h1 h2
  split at h1
  ·rename_i he
   subst he
   rw [if_neg (by omega)] at h2
   rcases hf b h1 with h | h
   ·exact hother k hk (by omega) b h2 h
   ·have:=(X[k]).inb _ _ (S.xs _ (List.getElem_mem hk)) h2
    omega
  ·split at h2
   ·rename_i he
    subst he
    rcases hf b h2 with h | h
    ·exact hother j hj (by omega) b h1 h
    ·have:=(X[j]).inb _ _ (S.xs _ (List.getElem_mem hj)) h1
     omega
   ·exact List.pairwise_iff_getElem.1 S.dx j k hj hk hjk b h1 h2
 ·obtain ⟨j,hj,rfl⟩:=List.getElem_of_mem hx
  rw [List.length_set] at hj
  rw [List.getElem_set] at hxb
  split at hxb
  ·rcases hf b hxb with h | h
   ·exact S.dp _ hxm p hp b h hpb
   ·have:=p.inb _ _ (S.ps p hp) hpb
    omega
  ·exact S.dp _ (List.getElem_mem hj) p hp b hxb hpb
 ·obtain ⟨j,hj,rfl⟩:=List.getElem_of_mem hx
  rw [List.length_set] at hj
  rw [List.getElem_set] at hxb
  split at hxb
  ·rcases hf b hxb with h | h
   ·exact S.own _ hxm b h
   ·exact .inl (Nat.le_trans S.keep.size h)
  ·exact S.own _ (List.getElem_mem hj) b hxb
def setB (w:World) (b:Nat) (o:Obj):World:={ w with heap:=w.heap.setIfInBounds b o }
theorem St.setB (S:St w0 C w X P) {i b:Nat}{o o' :Obj} (hi:X[i]? =some (bx b o)):St w0 C (setB w b o') (X.set i (bx b o')) P:=by
 obtain ⟨hlt,hx⟩:=List.getElem?_eq_some_iff.1 hi
 have hxok:w.heap[b]? =some o:=by
  have:=S.xs _ (List.getElem_mem hlt)
  rw [hx] at this
  exact this
 have hb:=(Array.getElem?_eq_some_iff.1 hxok).1
 refine S.turn hi (y:=bx b o') ?_ (fun c hc=>.inl hc) rfl rfl rfl (by simp [Fx.setB]) (fun c hc hne=>?_)
 ·show (Fx.setB w b o').heap[b]? =some o'
  simp [Fx.setB,hb]
 ·have hne' :c≠b:=hne
  show (w.heap.setIfInBounds b o')[c]? =_
  rw [Array.getElem?_setIfInBounds_ne (fun h=>hne' h.symm)]
theorem St.at (S:St w0 C w X P) {i b:Nat}{o:Obj} (hi:X[i]? =some (bx b o)):w.heap[b]? =some o:=by
 obtain ⟨hlt,hx⟩:=List.getElem?_eq_some_iff.1 hi
 have:=S.xs _ (List.getElem_mem hlt)
 rw [hx] at this
 exact this
theorem St.atX (S:St w0 C w X P) {i:Nat}{p:Asr} (hi:X[i]? =some p):p.ok w:=S.xs _ (List.mem_of_getElem? hi)
theorem St.atP (S:St w0 C w X P) {i:Nat}{p:Asr} (hi:P[i]? =some p):p.ok w:=S.ps _ (List.mem_of_getElem? hi)
theorem St.fix (S:St w0 C w X P) {i:Nat}{p:Asr} (hi:X[i]? =some p):St w0 C w (X.eraseIdx i) (p::P):=by
 obtain ⟨hlt,rfl⟩:=List.getElem?_eq_some_iff.1 hi
 refine ⟨S.keep,fun x hx=>S.xs x (List.mem_of_mem_eraseIdx hx),fun p hp=>?_,S.dx.sublist (List.eraseIdx_sublist _ _),fun x hx p hp b hxb hpb=>?_,fun x hx=>S.own x (List.mem_of_mem_eraseIdx hx)⟩
 ·rcases List.mem_cons.1 hp with rfl | h
  ·exact S.xs _ (List.getElem_mem hlt)
  ·exact S.ps p h
 ·rcases List.mem_cons.1 hp with rfl | h
  ·obtain ⟨j,hji,hj'⟩:=List.mem_eraseIdx_iff_getElem?.1 hx
   obtain ⟨hj,rfl⟩:=List.getElem?_eq_some_iff.1 hj'
   rcases Nat.lt_or_gt_of_ne hji with h | h
   ·exact List.pairwise_iff_getElem.1 S.dx j i hj hlt h b hxb hpb
   ·exact List.pairwise_iff_getElem.1 S.dx i j hlt hj h b hpb hxb
  ·exact S.dp x (List.mem_of_mem_eraseIdx hx) p h b hxb hpb
theorem St.reX {X' :List Asr} (S:St w0 C w X P) (h:X=X'):St w0 C w X' P:=h▸S
theorem St.less (S:St w0 C w X P) {X' P' :List Asr} (hX:X'.Sublist X) (hP:∀ p∈P',p∈P):St w0 C w X' P' :=
 ⟨S.keep,fun x hx=>S.xs x (hX.subset hx),fun p hp=>S.ps p (hP p hp),S.dx.sublist hX,fun x hx p hp=>S.dp x (hX.subset hx) p (hP p hp),fun x hx=>S.own x (hX.subset hx)⟩
end
end Go.Fx
namespace Go.Fx
open Go
def aggOf (P:Program) (t:TypeId):Option Bool:=(P.underlying t).map fun | .struct _ | .array _ _=>true | _=>false
def infoOf (P:Program) (t:TypeId):Option (Option Value×Nat×Nat):=(P.info? t).map fun i=>(i.zero,i.size,i.bytes)
def sizOf (P:Program) (t:TypeId):Option Nat:=(P.info? t).map (·.size)
def fldOf (P:Program) (t:TypeId) (f:Nat):Option Nat:=
 match P.underlying t with
 | some (.struct fs)=>(fs[f]?).bind fun fl=>(sizOf P fl.type).bind fun s=>if s=0 then none else some fl.offset
 | _=>none
def arrOf (P:Program) (t:TypeId):Option (Nat×Nat):=
 match P.underlying t with
 | some (.array n el)=>(sizOf P el).map fun s=>(n,s)
 | _=>none
def slcOf (P:Program) (t:TypeId):Option (TypeId×Nat):=
 match P.underlying t with
 | some (.slice el)=>(sizOf P el).map fun s=>(el,s)
 | _=>none
def strOf (P:Program) (t:TypeId):Option (Array Value×Array (Nat×Nat)):=
 match P.info? t,P.underlying t with
 | some it,some (.struct fields)=>
   match it.zero,fields.toList.mapM (fun f=>(P.info? f.type).map fun i=>(f.offset,i.size)) with
   | some z,some places=>some (z.cells,places.toArray)
   | _,_=>none
 | _,_=>none
def funOf (P : Program) (f : Nat) : Bool := match P.funcs[f]? with | some fn => fn.body.isSome && !(fn.name == "runtime.NumGoroutine") | none => false
section
variable {ro:Option Nat}{P:Program}{full:Array Oper}{Q:Exit→Act→World→Prop}{n:Nat}{d:List Deferred}{e:Env}{w:World}
variable {rest:List Oper}{ty:TypeId}{ps:String}{af:Array Edge}
theorem run_und {t:TypeId}{D:TypeDesc} (h:P.underlying t=some D):(underlying t).run P w=.ok D w:=by
 simp [underlying,h]
theorem run_isAgg {t:TypeId}{a:Bool} (h:aggOf P t=some a):(isAgg t).run P w=.ok a w:=by
 unfold aggOf at h
 cases hu:P.underlying t with
 | none=>simp [hu] at h
 | some D=>
   simp only [hu,Option.map_some,Option.some.injEq] at h
   simp only [isAgg,Sem.run_bind,run_und hu,Result.andThen]
   subst h
   cases D <;> rfl
theorem run_sizeOf {t:TypeId}{s:Nat} (h:sizOf P t=some s):(sizeOf t).run P w=.ok s w:=by
 unfold sizOf at h
 cases hu:P.info? t with
 | none=>simp [hu] at h
 | some D=>
   simp only [hu,Option.map_some,Option.some.injEq] at h
   simp [sizeOf,typeInfo,hu,h]
theorem o_mov {x:Operand}{i:Nat}{v:Value} (hv:evn n e x=v) (h:wpA ro P full Q rest (E n (upd e i v) d) w):
 wpA ro P full Q (⟨some i,.move x,ty,ps,af,none⟩::rest) (E n e d) w:=
 op_val (v:=v) rfl (fun _ h=>by cases h) (by simp [execOp,hv]) h
theorem o_asg {x:Operand}{i:Nat}{v:Value} (hv:evn n e x=v) (h:wpA ro P full Q rest (E n (upd e i v) d) w):
 wpA ro P full Q (⟨some i,.assign x,ty,ps,af,none⟩::rest) (E n e d) w:=
 op_val (v:=v) rfl (fun _ h=>by cases h) (by simp [execOp,hv]) h
theorem o_add {x y:Operand}{i xt yt:Nat}{a b:Int}{r:Int} (hx:evn n e x=.int .i64 a) (hy:evn n e y=.int .i64 b) (hr:IntKind.i64.wrap (a+b)=r)
 (h:wpA ro P full Q rest (E n (upd e i (.int .i64 r)) d) w):wpA ro P full Q (⟨some i,.binOp .add xt x y yt,ty,ps,af,none⟩::rest) (E n e d) w:=
 op_val (v:=.int .i64 r) rfl (fun _ h=>by cases h) (by simp [execOp,hx,hy,eqGuard,binOp,Op.intArith,hr]) h
theorem o_sub {x y:Operand}{i xt yt:Nat}{a b:Int}{r:Int} (hx:evn n e x=.int .i64 a) (hy:evn n e y=.int .i64 b) (hr:IntKind.i64.wrap (a - b)=r)
 (h:wpA ro P full Q rest (E n (upd e i (.int .i64 r)) d) w):wpA ro P full Q (⟨some i,.binOp .sub xt x y yt,ty,ps,af,none⟩::rest) (E n e d) w:=
 op_val (v:=.int .i64 r) rfl (fun _ h=>by cases h) (by simp [execOp,hx,hy,eqGuard,binOp,Op.intArith,hr]) h
theorem o_mul {x y:Operand}{i xt yt:Nat}{a b:Int}{r:Int} (hx:evn n e x=.int .i64 a) (hy:evn n e y=.int .i64 b) (hr:IntKind.i64.wrap (a*b)=r)
 (h:wpA ro P full Q rest (E n (upd e i (.int .i64 r)) d) w):wpA ro P full Q (⟨some i,.binOp .mul xt x y yt,ty,ps,af,none⟩::rest) (E n e d) w:=
 op_val (v:=.int .i64 r) rfl (fun _ h=>by cases h) (by simp [execOp,hx,hy,eqGuard,binOp,Op.intArith,hr]) h
theorem o_neg {x:Operand}{i xt:Nat}{a r:Int} (hx:evn n e x=.int .i64 a) (hr:IntKind.i64.wrap (-a)=r)
 (h:wpA ro P full Q rest (E n (upd e i (.int .i64 r)) d) w):wpA ro P full Q (⟨some i,.unOp .neg xt x,ty,ps,af,none⟩::rest) (E n e d) w:=
 op_val (v:=.int .i64 r) rfl (fun _ h=>by cases h) (by simp only [execOp,hx,Op.unary,Op.intArith]; simp [hr]) h
def cmpI:BinOp→Int→Int→Option Bool
 | .eql,a,b=>some (a==b)
 | .neq,a,b=>some (a != b)
 | .lss,a,b=>some (decide (a < b))
 | .leq,a,b=>some (decide (a≤b))
 | .gtr,a,b=>some (decide (a > b))
 | .geq,a,b=>some (decide (a≥b))
 | _,_,_=>none
theorem o_cmp {op:BinOp}{x y:Operand}{i xt yt:Nat}{k:IntKind}{a b:Int}{r:Bool} (hx:evn n e x=.int k a) (hy:evn n e y=.int k b) (hr:cmpI op a b=some r)
 (h:wpA ro P full Q rest (E n (upd e i (.bool r)) d) w):wpA ro P full Q (⟨some i,.binOp op xt x y yt,ty,ps,af,none⟩::rest) (E n e d) w:=by
 refine op_val (v:=.bool r) rfl (fun _ h=>by cases h) ?_ h
 cases op <;> simp only [cmpI,reduceCtorEq,Option.some.injEq] at hr <;> subst hr <;> simp [execOp,hx,hy,eqGuard,binOp,Op.intCmp]
theorem o_not {x:Operand}{i xt:Nat}{b:Bool} (hx:evn n e x=.bool b)
 (h:wpA ro P full Q rest (E n (upd e i (.bool (!b))) d) w):wpA ro P full Q (⟨some i,.unOp .not xt x,ty,ps,af,none⟩::rest) (E n e d) w:=
 op_val (v:=.bool (!b)) rfl (fun _ h=>by cases h) (by simp [execOp,hx,Op.unary]) h
theorem o_pick {c x y:Operand}{i:Nat}{b:Bool}{v:Value} (hc:evn n e c=.bool b) (hv:evn n e (bif b then x else y)=v)
 (h:wpA ro P full Q rest (E n (upd e i v) d) w):wpA ro P full Q (⟨some i,.pick c x y,ty,ps,af,none⟩::rest) (E n e d) w:=by
 refine op_val (v:=v) rfl (fun _ h=>by cases h) ?_ h
 cases b <;> simp_all [execOp,asBool]
theorem o_pickT {c x y:Operand}{i:Nat}{b:Bool}{v:Value} (hc:evn n e c=.bool b) (hb:b=true) (hv:evn n e x=v)
 (h:wpA ro P full Q rest (E n (upd e i v) d) w):wpA ro P full Q (⟨some i,.pick c x y,ty,ps,af,none⟩::rest) (E n e d) w:=by
 subst hb; exact o_pick hc hv h
theorem o_pickF {c x y:Operand}{i:Nat}{b:Bool}{v:Value} (hc:evn n e c=.bool b) (hb:b=false) (hv:evn n e y=v)
 (h:wpA ro P full Q rest (E n (upd e i v) d) w):wpA ro P full Q (⟨some i,.pick c x y,ty,ps,af,none⟩::rest) (E n e d) w:=by
 subst hb; exact o_pick hc hv h
theorem o_ext {x:Operand}{i k:Nat}{vs:Array Value}{v:Value} (hx:evn n e x=.tuple vs) (hv:vs[k]? =some v)
 (h:wpA ro P full Q rest (E n (upd e i v) d) w):wpA ro P full Q (⟨some i,.extract x k,ty,ps,af,none⟩::rest) (E n e d) w:=
 op_val (v:=v) rfl (fun _ h=>by cases h) (by simp [execOp,hx,Instr.extract,hv]) h
theorem o_build {t i:Nat}{parts:Array (Nat×Operand)}{vals:List (Nat×Value)}{z:Array Value}{pl:Array (Nat×Nat)}{cs:Array Value} (hT:strOf P t=some (z,pl))
 (hv:parts.toList.map (fun (i,x)=>(i,evn n e x))=vals) (hf:Instr.fill (pl[·]?) z vals=some cs)
 (h:wpA ro P full Q rest (E n (upd e i (.agg cs)) d) w):wpA ro P full Q (⟨some i,.build t parts,ty,ps,af,none⟩::rest) (E n e d) w:=by
 refine op_val (v:=.agg cs) rfl (fun _ h=>by cases h) ?_ h
 have hb:P.built t vals=some cs:=by
  unfold strOf at hT
  unfold Program.built
  split at hT
  ·rename_i it fields h1 h2
   simp only [h1,h2]
   split at hT
   ·rename_i z' places hz hp
    simp only [hz,hp]
    simp only [Option.some.injEq,Prod.mk.injEq] at hT
    obtain ⟨rfl,rfl⟩:=hT
    exact hf
   ·cases hT
  ·cases hT
 have hb' :P.built t (parts.map fun (i,x)=>(i,evn n e x)).toList=some cs:=by rw [Array.toList_map,hv]; exact hb
 simp [execOp,run_build (P:=P) w t (parts.map fun (i,x)=>(i,evn n e x)) cs hb']
theorem o_fun {fn:Fn}{fi ca:Array Operand}{i:Nat}{f1 c1:List Value} (h1:fi.toList.map (evn n e)=f1) (h2:ca.toList.map (evn n e)=c1)
 (h:wpA ro P full Q rest (E n (upd e i (.func fn f1.toArray c1.toArray)) d) w):wpA ro P full Q (⟨some i,.makeFunc fn fi ca,ty,ps,af,none⟩::rest) (E n e d) w:=
 op_val (v:=.func fn f1.toArray c1.toArray) rfl (fun _ h=>by cases h) (by
  have k1:fi.map (evn n e)=f1.toArray:=by rw [← h1]; exact Array.ext' (by simp)
  have k2:ca.map (evn n e)=c1.toArray:=by rw [← h2]; exact Array.ext' (by simp)
  simp [execOp,Instr.makeFunc,k1,k2]) h
variable {w0:World}{C:Nat→Prop}{X L:List Asr}
theorem o_box {t i:Nat}{x:Operand}{v:Value}{cs:Array Value} (hv:evn n e x=v) (hc:v.cells=cs) (S:St w0 C w X L)
 (h:∀ b w',b=w.heap.size→St w0 C w' (bx b (.cells cs t)::X) L→wpA ro P full Q rest (E n (upd e i (.pointer (some ⟨b,0,none⟩))) d) w'):
 wpA ro P full Q (⟨some i,.box t x,ty,ps,af,none⟩::rest) (E n e d) w:=
 op_val (v:=.pointer (some ⟨w.heap.size,0,none⟩)) (w' :=w.alloc (.cells cs t)) rfl (fun _ h=>by cases h)
  (by simp [execOp,Instr.box,newVar,newRow,hv,hc]) (h _ _ rfl (S.alloc _))
theorem o_alloc {t i:Nat}{z:Value}{cs:Array Value}{s b:Nat} (hT:infoOf P t=some (some z,s,b)) (hc:z.cells=cs) (S:St w0 C w X L)
 (h:∀ b w',b=w.heap.size→St w0 C w' (bx b (.cells cs t)::X) L→wpA ro P full Q rest (E n (upd e i (.pointer (some ⟨b,0,none⟩))) d) w'):
 wpA ro P full Q (⟨some i,.alloc t,ty,ps,af,none⟩::rest) (E n e d) w:=by
 refine op_val (v:=.pointer (some ⟨w.heap.size,0,none⟩)) (w' :=w.alloc (.cells cs t)) rfl (fun _ h=>by cases h) ?_ (h _ _ rfl (S.alloc _))
 unfold infoOf at hT
 cases hu:P.info? t with
 | none=>simp [hu] at hT
 | some D=>
   simp only [hu,Option.map_some,Option.some.injEq,Prod.mk.injEq] at hT
   simp [execOp,Instr.alloc,zeroValue,typeInfo,hu,hT.1,newVar,newRow,hc]
theorem o_fld {s f i:Nat}{x:Operand}{b o k r:Nat} (hx:evn n e x=.pointer (some ⟨b,o,none⟩)) (hf:fldOf P s f=some k) (hr:o+k=r)
 (h:wpA ro P full Q rest (E n (upd e i (.pointer (some ⟨b,r,none⟩))) d) w):wpA ro P full Q (⟨some i,.fieldAddr s x f,ty,ps,af,none⟩::rest) (E n e d) w:=by
 refine op_val (v:=.pointer (some ⟨b,r,none⟩)) rfl (fun _ h=>by cases h) ?_ h
 subst hr
 unfold fldOf at hf
 split at hf
 ·rename_i fs hu
  obtain ⟨fl,hfl,hf⟩:=Option.bind_eq_some_iff.1 hf
  obtain ⟨s',hs,hf⟩:=Option.bind_eq_some_iff.1 hf
  split at hf
  ·cases hf
  ·rename_i h0
   cases hf
   simp [execOp,Instr.fieldAt,run_und hu,hfl,hx,Instr.sureAddr,fieldPlace,run_sizeOf hs,h0,Addr.add]
 ·cases hf
theorem o_ixA {t i:Nat}{x y:Operand}{b o len s:Nat}{k:IntKind}{j:Int}{r:Nat} (hx:evn n e x=.pointer (some ⟨b,o,none⟩)) (hy:evn n e y=.int k j) (hT:arrOf P t=some (len,s))
 (h0:0≤j) (h1:j < len) (hr:o+j.toNat*s=r)
 (h:wpA ro P full Q rest (E n (upd e i (.pointer (some ⟨b,r,none⟩))) d) w):wpA ro P full Q (⟨some i,.indexAddr t x y,ty,ps,af,none⟩::rest) (E n e d) w:=by
 refine op_val (v:=.pointer (some ⟨b,r,none⟩)) rfl (fun _ h=>by cases h) ?_ h
 subst hr
 unfold arrOf at hT
 split at hT
 ·rename_i m el hu
  obtain ⟨s',hs,hT⟩:=Option.map_eq_some_iff.1 hT
  cases hT
  simp [execOp,Instr.indexAt,asIntOf,hx,hy,run_und hu,Instr.sureAddr,h0,h1,run_sizeOf hs,Addr.add]
 ·cases hT
theorem o_ixS {t i:Nat}{x y:Operand}{b o len cp el s:Nat}{k:IntKind}{j:Int}{r:Nat} (hx:evn n e x=.slice (some ⟨b,o,none⟩) len cp) (hy:evn n e y=.int k j) (hT:slcOf P t=some (el,s))
 (h0:0≤j) (h1:j < len) (hr:o+j.toNat*s=r)
 (h:wpA ro P full Q rest (E n (upd e i (.pointer (some ⟨b,r,none⟩))) d) w):wpA ro P full Q (⟨some i,.indexAddr t x y,ty,ps,af,none⟩::rest) (E n e d) w:=by
 refine op_val (v:=.pointer (some ⟨b,r,none⟩)) rfl (fun _ h=>by cases h) ?_ h
 subst hr
 unfold slcOf at hT
 split at hT
 ·rename_i el hu
  obtain ⟨s',hs,hT⟩:=Option.map_eq_some_iff.1 hT
  cases hT
  simp [execOp,Instr.indexAt,asIntOf,hx,hy,run_und hu,h0,h1,run_sizeOf hs,Addr.add]
 ·cases hT
theorem cell_of {b:Nat}{c:Array Value}{t:TypeId}{z:Nat×Nat} (hB:w.heap[b]? =some (.cells c t z)) (o:Nat):w.cell? ⟨b,o,none⟩=c[o]? :=by
 simp [World.cell?,hB]
theorem o_ld1 {t i:Nat}{x:Operand}{b o:Nat}{v:Value} (hx:evn n e x=.pointer (some ⟨b,o,none⟩)) (hT:aggOf P t=some false) (hv:w.cell? ⟨b,o,none⟩=some v)
 (h:wpA ro P full Q rest (E n (upd e i v) d) w):wpA ro P full Q (⟨some i,.load t x,ty,ps,af,none⟩::rest) (E n e d) w:=
 op_val (v:=v) rfl (fun _ h=>by cases h) (by simp [execOp,Instr.loadAt,hx,Instr.sureAddr,loadVar,run_isAgg hT,hv]) h
theorem o_ldN {t i s:Nat}{x:Operand}{b o:Nat}{cs:List Value} (hx:evn n e x=.pointer (some ⟨b,o,none⟩)) (hT:aggOf P t=some true) (hs:sizOf P t=some s) (hl:cs.length=s)
 (hv:∀ j v,cs[j]? =some v→w.cell? ⟨b,o+j,none⟩=some v)
 (h:wpA ro P full Q rest (E n (upd e i (.agg cs.toArray)) d) w):wpA ro P full Q (⟨some i,.load t x,ty,ps,af,none⟩::rest) (E n e d) w:=by
 refine op_val (v:=.agg cs.toArray) rfl (fun _ h=>by cases h) ?_ h
 subst hl
 have h1:(loadCells ⟨b,o,none⟩ cs.length).run P w=.ok cs.toArray w:=by
  refine run_loadCells_list (P:=P) (w:=w) ⟨b,o,none⟩ cs fun j v hj=>?_
  have:=hv j v hj
  unfold Addr.add
  split
  ·rename_i h0; subst h0; exact this
  ·exact this
 simp [execOp,Instr.loadAt,hx,Instr.sureAddr,loadVar,run_isAgg hT,run_sizeOf hs,h1]
def putAt (c:Array Value) (o:Nat):List Value→Array Value
 | []=>c
 | v::vs=>putAt (c.setIfInBounds o v) (o+1) vs
theorem setB_setB (w:World) (b:Nat) (o o' :Obj):setB (setB w b o) b o' =setB w b o' :=by
 simp [setB]
theorem setB_self {w:World}{b:Nat}{o:Obj} (h:w.heap[b]? =some o):setB w b o=w:=by
 obtain ⟨hb,rfl⟩:=Array.getElem?_eq_some_iff.1 h
 unfold setB
 have:w.heap.setIfInBounds b w.heap[b]=w.heap:=by
  refine Array.ext (by simp) fun j h1 h2=>?_
  rw [Array.getElem_setIfInBounds]
  split
  ·rename_i h; subst h; rfl
  ·rfl
 rw [this]
theorem setCell_setB {w:World}{b o:Nat}{c:Array Value}{t:TypeId}{z:Nat×Nat} (h:w.heap[b]? =some (.cells c t z)) (v:Value):
 w.setCell ⟨b,o,none⟩ v=setB w b (.cells (c.setIfInBounds o v) t z):=by
 obtain ⟨hb,hx⟩:=Array.getElem?_eq_some_iff.1 h
 unfold World.setCell setB
 congr 1
 refine Array.ext (by simp) fun j h1 h2=>?_
 rw [Array.getElem_modify,Array.getElem_setIfInBounds]
 split
 ·rename_i hj; subst hj; simp [hx]
 ·rfl
theorem run_storeCells {b off:Nat}{t:TypeId}:∀ (vs:List Value) (i:Nat) (w:World) (c:Array Value),w.heap[b]? =some (.cells c t (0,0))→vs.all Value.oneCell' =true→off+i+vs.length≤c.size→
 (storeCells ⟨b,off,none⟩ vs i).run P w=.ok () (setB w b (.cells (putAt c (off+i) vs) t (0,0)))
 | [],i,w,c,h,_,_=>by simp [storeCells,putAt,setB_self h]
 | v::vs,i,w,c,h,h1,h2=>by
   simp only [List.all_cons,Bool.and_eq_true] at h1
   simp only [List.length_cons] at h2
   have ha:(Addr.add ⟨b,off,none⟩ i)=⟨b,off+i,none⟩:=by unfold Addr.add; split <;> simp_all
   have hlt:off+i < c.size:=by omega
   have hc:w.cell? ⟨b,off+i,none⟩=some c[off+i]:=by rw [cell_of h]; simp [hlt]
   have hfz:w.frozen? ⟨b,off+i,none⟩=false:=by simp [World.frozen?,h]
   have hs:(store ⟨b,off+i,none⟩ v).run P w=.ok () (setB w b (.cells (c.setIfInBounds (off+i) v) t (0,0))):=by
    rw [run_store P w _ v _ h1.1,hc]
    simp [hfz,setCell_setB h]
   obtain ⟨hb,_⟩:=Array.getElem?_eq_some_iff.1 h
   have hn:(setB w b (.cells (c.setIfInBounds (off+i) v) t (0,0))).heap[b]? =some (.cells (c.setIfInBounds (off+i) v) t (0,0)):=by simp [setB,hb]
   have ih:=run_storeCells (off:=off) vs (i+1) _ _ hn h1.2 (by simp; omega)
   simp only [storeCells,Sem.run_bind,ha,hs,Result.andThen_ok,ih,setB_setB]
   rfl
theorem o_sto {t s b o i:Nat}{x y:Operand}{v:Value}{vs:List Value}{c c' :Array Value}{ct:TypeId} (hx:evn n e x=.pointer (some ⟨b,o,none⟩)) (hy:evn n e y=v) (hv:v.cells.toList=vs)
 (hs:sizOf P t=some s) (hl:vs.length=s) (h1:vs.all Value.oneCell' =true) (S:St w0 C w X L) (hi:X[i]? =some (bx b (.cells c ct (0,0)))) (hb:o+vs.length≤c.size) (hc:putAt c o vs=c')
 (h:∀ w',St w0 C w' (X.set i (bx b (.cells c' ct (0,0)))) L→wpA ro P full Q rest (E n e d) w'):wpA ro P full Q (⟨none,.store t x y,ty,ps,af,none⟩::rest) (E n e d) w:=by
 subst hc
 refine op_skip (w' :=setB w b (.cells (putAt c o vs) ct (0,0))) rfl (fun _ h=>by cases h) ?_ (h _ (S.setB hi))
 have hsz:v.cells.size=s:=by rw [← hl,← hv]; simp
 have:=run_storeCells (P:=P) (off:=o) vs 0 w c (S.at hi) h1 (by simpa using hb)
 simp only [Nat.add_zero] at this
 simp [execOp,Instr.storeAt,hx,hy,Instr.sureAddr,storeVar,run_sizeOf hs,hsz,hv,this]
theorem run_invoke {f:Nat}{first caps args:Array Value} (hF:funOf P f=true):∀ w,(invoke (.fn (.func f) caps) (first++args)).run P w=.ok (.enter f (first++args++caps)) w:=by
 intro w
 unfold funOf at hF
 cases hf:P.funcs[f]? with
 | none=>simp [hf] at hF
 | some fn=>
   simp only [hf,Bool.and_eq_true,Bool.not_eq_true',beq_eq_false_iff_ne] at hF
   obtain ⟨h1,h2⟩:=hF
   cases hb:fn.body with
   | none=>simp [hb] at h1
   | some c=>simp [invoke,callFunc,hf,h2,hb]
theorem o_call {i f:Nat}{g:Operand}{aa:Array Operand}{ts:Array TypeId}{first caps vs:Array Value}{args:List Value} (hg:evn n e g=.func (.func f) first caps) (ha:aa.toList.map (evn n e)=args) (hF:funOf P f=true)
 (hv:first++args.toArray++caps=vs) {R:Value→World→Prop} (hc:Calls P f vs w fun en w2=>∃ v,en=.returned v∧R v w2)
 (h:∀ v w2,R v w2→wpA ro P full Q rest (E n (upd e i v) d) w2):wpA ro P full Q (⟨some i,.call ⟨.value g,aa,ts⟩,ty,ps,af,none⟩::rest) (E n e d) w:=by
 subst hv
 refine op_enter rfl (fun _ h=>by cases h) (w' :=w) (f:=f) (args:=first++args.toArray++caps) ?_ hc h
 have ha' :aa.map (evn n e)=args.toArray:=by rw [← ha]; exact Array.ext' (by simp)
 simp [execOp,resolve,hg,ha',Deferred.ofValue,run_invoke hF]
theorem o_len {i st:Nat}{x:Operand}{A:Option Addr}{len cp el s:Nat} (hx:evn n e x=.slice A len cp) (hT:slcOf P st=some (el,s))
 (h:wpA ro P full Q rest (E n (upd e i (.int .i64 (len:Int))) d) w):wpA ro P full Q (⟨some i,.call ⟨.builtin .len,#[x],#[st]⟩,ty,ps,af,none⟩::rest) (E n e d) w:=by
 refine op_val (v:=.int .i64 (len:Int)) rfl (fun _ h=>by cases h) ?_ h
 unfold slcOf at hT
 split at hT
 ·rename_i el hu
  simp [execOp,resolve,hx,invoke,builtin,Builtin.len_,run_und hu,goInt]
 ·cases hT
theorem o_min {i t1 t2:Nat}{x y:Operand}{k:IntKind}{a b r:Int} (hx:evn n e x=.int k a) (hy:evn n e y=.int k b) (hr:(if b < a then b else a)=r)
 (h:wpA ro P full Q rest (E n (upd e i (.int k r)) d) w):wpA ro P full Q (⟨some i,.call ⟨.builtin .min,#[x,y],#[t1,t2]⟩,ty,ps,af,none⟩::rest) (E n e d) w:=by
 refine op_val (v:=.int k r) rfl (fun _ h=>by cases h) ?_ h
 simp [execOp,resolve,hx,hy,invoke,builtin,Builtin.min_,Builtin.min2,hr]
theorem o_max {i t1 t2:Nat}{x y:Operand}{k:IntKind}{a b r:Int} (hx:evn n e x=.int k a) (hy:evn n e y=.int k b) (hr:(if b > a then b else a)=r)
 (h:wpA ro P full Q rest (E n (upd e i (.int k r)) d) w):wpA ro P full Q (⟨some i,.call ⟨.builtin .max,#[x,y],#[t1,t2]⟩,ty,ps,af,none⟩::rest) (E n e d) w:=by
 refine op_val (v:=.int k r) rfl (fun _ h=>by cases h) ?_ h
 simp [execOp,resolve,hx,hy,invoke,builtin,Builtin.max_,Builtin.max2,hr]
theorem o_guard {dst:Option Nat}{op:Op}{j s:Nat}{want t:Bool} (hj:(full[j]?).bind (·.dst)=some s) (hs:evn n e (.tmp s)=.bool t)
 (ht:t=want→wpA ro P full Q (⟨dst,op,ty,ps,af,none⟩::rest) (E n e d) w) (hf:t=(!want)→wpA ro P full Q rest (E n (updo e dst undef) d) w):
 wpA ro P full Q (⟨dst,op,ty,ps,af,some (j,want)⟩::rest) (E n e d) w:=by
 have hsn:s < n:=by
  rcases Nat.lt_or_ge s n with h | h
  ·exact h
  ·have:Nat.ble (s+1) n=false:=Bool.eq_false_iff.2 (by rw [ne_eq,Nat.ble_eq]; omega)
   simp [evn,this,undef] at hs
 have hev:e s=.bool t:=by
  have:Nat.ble (s+1) n=true:=by rw [Nat.ble_eq]; exact hsn
  simpa [evn,this] using hs
 have hy:yielded full (E n e d).tmps j=some t:=by
  simp [yielded,hj,E,hsn,hev]
 by_cases hw:t=want
 ·have:=ht hw
  unfold wpA at this ⊢
  rw [if_pos (by simp [Region.wanted])] at this
  rw [if_pos (by simp [Region.wanted,hy,hw])]
  exact this
 ·have:=hf (by cases t <;> cases want <;> simp_all)
  unfold wpA
  rw [if_neg (by simp [Region.wanted,hy,hw]),E_put]
  exact this
theorem o_guardU {dst:Option Nat}{op:Op}{j s:Nat}{want:Bool} (hj:(full[j]?).bind (·.dst)=some s) (hs:evn n e (.tmp s)=undef)
 (hf:wpA ro P full Q rest (E n (updo e dst undef) d) w):
 wpA ro P full Q (⟨dst,op,ty,ps,af,some (j,want)⟩::rest) (E n e d) w:=by
 have hy:yielded full (E n e d).tmps j=none:=by
  by_cases hsn:s < n
  ·have hev:e s=undef:=by
    have:Nat.ble (s+1) n=true:=by rw [Nat.ble_eq]; exact hsn
    simpa [evn,this] using hs
   simp [yielded,hj,E,hsn,hev,undef]
  ·simp [yielded,hj,E,hsn]
 unfold wpA
 rw [if_neg (by simp [Region.wanted,hy]),E_put]
 exact hf
end
theorem fn_of {P:Program}{f:FuncId}{fn:Func}{c:Code}{args:Array Value}{w:World}{R:Ending→World→Prop} (hf:P.funcs[f]? =some fn) (hb:fn.body=some c) {n:Nat} (hn:fn.ntmps=n) (hs:args.size≤n)
 (h:c.wpIn (Fr none) 0 P (bodyPostM (Fr none) 0 P fn R) (E n (fun i=>args.toList.getD i undef) []) w):Calls P f args w R:=by
 refine (callsIn_wide (n:=0)).1 (callsIn_of_wp_marks hf hb trivial ?_ rfl)
 subst hn
 rw [E_enter args _ hs]
 exact h
def Rv (P:Program) (n:Nat) (e:Env) (w:World):ResultVar→Value→Prop
 | .tmp t,v=>evn n e (.tmp t)=v
 | .cell a t,v=>∃ b,evn n e (.tmp a)=.pointer (some ⟨b,0,none⟩)∧(loadVar t ⟨b,0,none⟩).run P w=.ok v w
theorem rvT {P:Program}{n:Nat}{e:Env}{w:World}{t:Nat}{v:Value} (h:evn n e (.tmp t)=v):Rv P n e w (.tmp t) v:=h
theorem rv1 {P:Program}{n:Nat}{e:Env}{w:World}{a t b:Nat}{v:Value} (hx:evn n e (.tmp a)=.pointer (some ⟨b,0,none⟩)) (hT:aggOf P t=some false) (hv:w.cell? ⟨b,0,none⟩=some v):Rv P n e w (.cell a t) v:=
 ⟨b,hx,by simp [loadVar,run_isAgg hT,hv]⟩
theorem rvN {P:Program}{n:Nat}{e:Env}{w:World}{a t b s:Nat}{cs:List Value} (hx:evn n e (.tmp a)=.pointer (some ⟨b,0,none⟩)) (hT:aggOf P t=some true) (hs:sizOf P t=some s) (hl:cs.length=s)
 (hv:∀ j v,cs[j]? =some v→w.cell? ⟨b,0+j,none⟩=some v):Rv P n e w (.cell a t) (.agg cs.toArray):=by
 refine ⟨b,hx,?_⟩
 subst hl
 have h1:(loadCells ⟨b,0,none⟩ cs.length).run P w=.ok cs.toArray w:=by
  refine run_loadCells_list (P:=P) (w:=w) ⟨b,0,none⟩ cs fun j v hj=>?_
  have:=hv j v hj
  unfold Addr.add
  split
  ·rename_i h0; subst h0; exact this
  ·exact this
 simp [loadVar,run_isAgg hT,run_sizeOf hs,h1]
def oneRes (tmps:Array Value):ResultVar→Sem Value
 | .tmp t=>pure (tmps.getD t undef)
 | .cell a t=>do loadVar t (← asAddr (tmps.getD a undef))
theorem results_eq (fn:Func) (tmps:Array Value):results fn tmps=(do let vs ← fn.results.mapM (oneRes tmps); pure (if h:vs.size=1 then vs[0] else .tuple vs)):=by
 unfold results
 congr 1
theorem rv_run {P:Program}{n:Nat}{e:Env}{d:List Deferred}{w:World}{rv:ResultVar}{v:Value} (h:Rv P n e w rv v):(oneRes (E n e d).tmps rv).run P w=.ok v w:=by
 have hev:∀ t,(E n e d).tmps.getD t undef=evn n e (.tmp t):=fun t=>by
  have:=congrFun (E_eval n e d) (.tmp t)
  exact this
 cases rv with
 | tmp t=>simp only [oneRes,hev]; simp only [Rv] at h; simp [h]
 | cell a t=>
   obtain ⟨b,h1,h2⟩:=h
   simp only [oneRes,hev,h1]
   simp [asAddr,h2]
theorem res0 {P:Program}{fn:Func}{n:Nat}{e:Env}{d:List Deferred}{w:World} (hf:fn.results=#[]):(results fn (E n e d).tmps).run P w=.ok (.tuple #[]) w:=by
 simp [results,hf]
theorem res1 {P:Program}{fn:Func}{n:Nat}{e:Env}{d:List Deferred}{w:World}{r1:ResultVar}{v1:Value} (hf:fn.results=#[r1]) (h1:Rv P n e w r1 v1):(results fn (E n e d).tmps).run P w=.ok v1 w:=by
 simp [results_eq,hf,Array.mapM_eq_mapM_toList,rv_run (d:=d) h1]
theorem res2 {P:Program}{fn:Func}{n:Nat}{e:Env}{d:List Deferred}{w:World}{r1 r2:ResultVar}{v1 v2:Value} (hf:fn.results=#[r1,r2]) (h1:Rv P n e w r1 v1) (h2:Rv P n e w r2 v2):
 (results fn (E n e d).tmps).run P w=.ok (.tuple #[v1,v2]) w:=by
 simp [results_eq,hf,Array.mapM_eq_mapM_toList,rv_run (d:=d) h1,rv_run (d:=d) h2]
theorem ret_of {P:Program}{fn:Func}{R:Ending→World→Prop}{n:Nat}{e:Env}{w:World}{v:Value} (hr:(results fn (E n e []).tmps).run P w=.ok v w) (h:R (.returned v) w):
 bodyPostM (Fr none) 0 P fn R .ret (E n e []) w:=⟨v,hr,h⟩
theorem end_of {P:Program}{fn:Func}{R:Ending→World→Prop}{n:Nat}{e:Env}{w:World}{v:Value} (hr:(results fn (E n e []).tmps).run P w=.ok v w) (h:R (.returned v) w):
 bodyPostM (Fr none) 0 P fn R .normal (E n e []) w:=⟨v,hr,h⟩
end Go.Fx
namespace Go.Fx
open Go
theorem Oper.wpIn_both {F:Fence}{k:Nat}{P:Program}{o:Oper}{a:Act}{w:World}{K K' :Act→World→Prop}{Q Q' :Exit→Act→World→Prop} (h:∀ a w,K a w→K' a w) (hq:∀ e a w,e≠.normal→Q e a w→Q' e a w)
 (hh:o.wpIn F k P a w K Q):o.wpIn F k P a w K' Q' :=by
 refine ⟨hh.1,?_⟩
 have h2:=hh.2
 revert h2
 generalize (o.semAt F.round a.eval).run P w=r
 intro h2
 have hl:LetsOut Q→LetsOut Q' :=fun ⟨a,w,h⟩=>⟨a,w,hq _ _ _ (by simp) h⟩
 unfold Oper.uponIn at h2 ⊢
 split at h2
 ·exact h _ _ h2
 ·exact h _ _ h2
 ·exact h _ _ h2
 ·refine ⟨h2.1,h2.2.mono fun e w' he=>?_⟩
  cases e with
  | returned v=>exact h _ _ he
  | panicked c=>exact hq _ _ _ (by simp) he
  | outgrown=>exact hl he
 ·exact ⟨h2.1,h2.2.mono fun v w' he=>h _ _ he⟩
 ·refine ⟨h2.1,h2.2.mono fun e w' he=>?_⟩
  cases e with
  | returned v=>exact h _ _ he
  | panicked c=>exact hq _ _ _ (by simp) he
  | outgrown=>exact hl he
 ·exact hq _ _ _ (by simp) h2
 ·exact h2.elim
structure Rx where
 ok:Env→Value→Nat→Nat→World→Prop
 deps:List Nat
 loc:∀ e e' v lo hi w,(∀ s∈deps,e' s=e s)→ok e v lo hi w→ok e' v lo hi w
 st:∀ e v lo hi w1 w2,ok e v lo hi w1→Keep0 w1 w2→ok e v lo hi w2
instance:Inhabited Rx:=⟨⟨fun _ _ _ _ _=>True,[],fun _ _ _ _ _ _ _ _=>trivial,fun _ _ _ _ _ _ _ _=>trivial⟩⟩
theorem Asr.stays {p:Asr}{w w' :World} (h:p.ok w) (k:Keep0 w w'):p.ok w' :=p.mono _ _ h fun b hb=>k.block b (p.inb _ _ h hb) (fun x=>x)
def rx {α:Type} (val:α→Value) (pr:α→Nat→Nat→Prop) (aa:α→List Asr):Rx where
 ok _ v lo hi w:=∃ x,v=val x∧pr x lo hi∧∀ p∈aa x,p.ok w
 deps:=[]
 loc _ _ _ _ _ _ _ h:=h
 st _ _ _ _ _ _:=fun ⟨x,h1,h2,h3⟩ k=>⟨x,h1,h2,fun p hp=>Asr.stays (h3 p hp) k⟩
def rv (v0:Value):Rx where
 ok _ v _ _ _:=v=v0
 deps:=[]
 loc _ _ _ _ _ _ _ h:=h
 st _ _ _ _ _ _ h _:=h
def dv (s:Nat) (g:Value→Option Value):Rx where
 ok e v _ _ _:=g (e s)=some v
 deps:=[s]
 loc _ _ _ _ _ _ h k:=by rw [h s (List.mem_cons_self ..)]; exact k
 st _ _ _ _ _ _ h _:=h
def exG (k:Nat):Value→Option Value
 | .tuple vs=>vs[k]?
 | _=>none
def Done (n:Nat) (d:List Deferred) (e:Env) (w:World) (dst:Option Nat) (R:Rx):Exit→Act→World→Prop
 | .normal,a,w' =>∃ v,a=E n (updo e dst v) d∧Keep0 w w' ∧R.ok e v w.heap.size w'.heap.size w'
 | _,_,_=>False
def edges (o:Oper):List Nat:=(o.after.toList.filter (Region.binds .any ·)).map (·.on)
def anc:List Oper→List (List Nat)
 | l=>l.foldl (fun acc o=>acc++[(List.range acc.length).filter fun j=>(edges o).any fun k=>k==j||(acc.getD k []).contains j]) []
def dstAt (l:List Oper) (i:Nat):Option Nat:=(l[i]?).bind (·.dst)
def okDraw (l:List Oper) (m:Nat) (fl:Option Nat):Bool:=
 (l.zipIdx.all fun (o,i)=>(edges o).all fun j=>Nat.blt j i)&&
 (((anc l).zipIdx.drop m).all fun (s,i)=>(List.range i).all fun j=>s.contains j||(i==m&&fl==some j))&&
 Nat.ble m l.length&&
 ((List.range m).all fun i=>(List.range m).all fun j=>i==j||(dstAt l i).isNone||dstAt l i != dstAt l j)&&
 (match fl with | some f=>Nat.blt f m&&Nat.blt m l.length | none=>true)&&
 ((anc l).zipIdx.all fun (s,i)=>s.all fun j=>Nat.blt j i)
def notDst (l:List Oper) (m s:Nat):Bool:=(l.take m).all fun o=>!(o.dst==some s)
def waits (l:List Oper) (i j:Nat):Bool:=((anc l).getD i []).contains j
def depOk (l:List Oper) (m:Nat) (ds:List (List Nat)):Bool:=
 (List.range m).all fun i=>(ds.getD i []).all fun s=>(List.range m).any fun j=>dstAt l j==some s&&waits l i j
theorem anc_aux:∀ (l:List Oper) (acc:List (List Nat)),(l.foldl (fun acc o=>acc++[(List.range acc.length).filter fun j=>(edges o).any fun k=>k==j||(acc.getD k []).contains j]) acc).length=acc.length+l.length∧
 ∀ (S:Nat→Prop),(∀ i s,acc[i]? =some s→S i→∀ j∈s,S j)→(∀ i o,l[i]? =some o→S (acc.length+i)→∀ j∈edges o,S j)→
   ∀ i s,(l.foldl (fun acc o=>acc++[(List.range acc.length).filter fun j=>(edges o).any fun k=>k==j||(acc.getD k []).contains j]) acc)[i]? =some s→S i→∀ j∈s,S j
 | [],acc=>⟨by simp,fun S h _=>h⟩
 | o::l,acc=>by
   have ih:=anc_aux l (acc++[(List.range acc.length).filter fun j=>(edges o).any fun k=>k==j||(acc.getD k []).contains j])
   refine ⟨by rw [List.foldl_cons,ih.1]; simp; omega,fun S h1 h2=>?_⟩
   rw [List.foldl_cons]
   refine ih.2 S ?_ ?_
   ·intro i s hi hS j hj
    rcases Nat.lt_or_ge i acc.length with hlt | hge
    ·rw [List.getElem?_append_left hlt] at hi
     exact h1 i s hi hS j hj
    ·rw [List.getElem?_append_right hge] at hi
     have h0:i=acc.length:=by
      rcases Nat.eq_or_lt_of_le hge with h | h
      ·exact h.symm
      ·rw [List.getElem?_eq_none (by simp; omega)] at hi; cases hi
     subst h0
     simp only [Nat.sub_self,List.getElem?_cons_zero,Option.some.injEq] at hi
     subst hi
     obtain ⟨k,hk,hjk⟩:=List.any_eq_true.1 (List.mem_filter.1 hj).2
     have hSk:S k:=h2 0 o rfl (by simpa using hS) k hk
     simp only [Bool.or_eq_true,beq_iff_eq,List.contains_iff_mem] at hjk
     rcases hjk with rfl | hjk
     ·exact hSk
     ·cases hg:acc[k]? with
      | none=>simp [hg] at hjk
      | some t=>
        simp [hg] at hjk
        exact h1 k t hg hSk j hjk
   ·intro i o' hi hS
    refine h2 (i+1) o' (by simpa using hi) ?_
    have:acc.length+(i+1)=(acc++[(List.range acc.length).filter fun j=>(edges o).any fun k=>k==j||(acc.getD k []).contains j]).length+i:=by simp; omega
    rw [this]; exact hS
section
variable {ro:Option Nat}{P:Program}{Q:Exit→Act→World→Prop}{n:Nat}{d:List Deferred}{e:Env}{w:World}{l:List Oper}{m:Nat}
theorem okDraw_spec {fl:Option Nat} (h:okDraw l m fl=true):(∀ (i:Nat) (o:Oper),l[i]? =some o→∀ x∈o.after,Region.binds .any x=true→x.on < i)∧
 (∀ (S:Nat→Prop),(∀ i o,l[i]? =some o→S i→∀ j∈edges o,S j)→∀ i,m≤i→i < l.length→S i→∀ j,j < i→(i=m∧fl=some j)∨S j)∧m≤l.length∧
 (∀ i j s,i < m→j < m→dstAt l i=some s→dstAt l j=some s→i=j)∧(∀ f,fl=some f→f < m∧m < l.length)∧
 ∀ (S:Nat→Prop),(∀ i o,l[i]? =some o→S i→∀ j∈edges o,S j)→∀ i j,i < l.length→S i→((anc l).getD i []).contains j=true→j < i∧S j:=by
 simp only [okDraw,Bool.and_eq_true] at h
 obtain ⟨⟨⟨⟨⟨h1,h2⟩,h3⟩,h4⟩,h5⟩,h6⟩:=h
 refine ⟨?_,?_,?_,?_,?_,?_⟩
 ·intro i o hi x hx hb
  rw [List.all_eq_true] at h1
  have:=h1 (o,i) (by rw [List.mem_zipIdx_iff_getElem?]; simpa using hi)
  simp only [List.all_eq_true] at this
  have:=this x.on (List.mem_map.2 ⟨x,List.mem_filter.2 ⟨Array.mem_def.1 hx,hb⟩,rfl⟩)
  rwa [Nat.blt_eq] at this
 ·intro S hS i hm hi hSi j hj
  rw [List.all_eq_true] at h2
  have hlen:=(anc_aux l []).1
  have hA:=(anc_aux l []).2 S (by simp) (by simpa using hS)
  have hi' :i < (anc l).length:=by unfold anc; rw [hlen]; simpa using hi
  have:=h2 ((anc l)[i],i) (by
   have:((anc l).zipIdx.drop m)[i - m]? =some ((anc l)[i],i):=by
    rw [List.getElem?_drop,show m+(i - m)=i by omega,List.getElem?_zipIdx]
    simp [hi']
   exact List.mem_of_getElem? this)
  simp only [List.all_eq_true,List.mem_range] at this
  have hm:=this j hj
  simp only [Bool.or_eq_true,Bool.and_eq_true,beq_iff_eq,List.contains_iff_mem] at hm
  rcases hm with hm | hm
  ·exact .inr (hA i _ (List.getElem?_eq_getElem hi') hSi j hm)
  ·exact .inl hm
 ·exact Nat.le_of_ble_eq_true h3
 ·intro i j s hi hj hsi hsj
  simp only [List.all_eq_true,List.mem_range] at h4
  have:=h4 i hi j hj
  simp [hsi,hsj] at this
  exact this
 ·rintro f rfl
  simp only [Bool.and_eq_true,Nat.blt_eq] at h5
  exact h5
 ·intro S hS i j hi hSi hj
  have hlen:=(anc_aux l []).1
  have hA:=(anc_aux l []).2 S (by simp) (by simpa using hS)
  have hi' :i < (anc l).length:=by unfold anc; rw [hlen]; simpa using hi
  rw [List.getD_eq_getElem?_getD,List.getElem?_eq_getElem hi',Option.getD_some,List.contains_iff_mem] at hj
  refine ⟨?_,hA i _ (List.getElem?_eq_getElem hi') hSi j hj⟩
  rw [List.all_eq_true] at h6
  have:=h6 ((anc l)[i],i) (by rw [List.mem_zipIdx_iff_getElem?]; simp [hi'])
  simp only [List.all_eq_true] at this
  have:=this j hj
  rwa [Nat.blt_eq] at this
theorem wpA_one {full:Array Oper}{o:Oper}{a:Act}{w:World}{K:Act→World→Prop}{Q Q' :Exit→Act→World→Prop}{i:Nat} (hi:full[i]? =some o) (hK:∀ a w,Q .normal a w→K a w) (hQ:∀ e a w,e≠.normal→Q e a w→Q' e a w)
 (h:wpA ro P full Q [o] a w):wpOpIn (Fr ro) 0 P full Q' i K a w:=by
 unfold wpOpIn
 simp only [hi]
 simp only [wpA] at h
 split at h
 ·rename_i hw
  rw [if_pos hw]
  exact Oper.wpIn_both (fun a w h=>hK a w (by unfold wpA at h; exact h)) hQ h
 ·rename_i hw
  rw [if_neg hw]
  exact ⟨fun _ _=>trivial,hK _ _ h⟩
theorem wpA_head {full:Array Oper}{o:Oper}{rest:List Oper}{a:Act}{w:World}{Q:Exit→Act→World→Prop}{K:Act→World→Prop}{i:Nat} (hi:full[i]? =some o) (hK:∀ a w,wpA ro P full Q rest a w→K a w)
 (h:wpA ro P full Q (o::rest) a w):wpOpIn (Fr ro) 0 P full Q i K a w:=by
 unfold wpOpIn
 simp only [hi]
 simp only [wpA] at h
 split at h
 ·rename_i hw
  rw [if_pos hw]
  exact Oper.wpIn_both hK (fun _ _ _ _ h=>h) h
 ·rename_i hw
  rw [if_neg hw]
  exact ⟨fun _ _=>trivial,hK _ _ h⟩
def left (listed:Array Bool):Nat:=(listed.toList.filter (! ·)).length
theorem left_set {listed:Array Bool}{i:Nat} (hi:i < listed.size) (h:listed.getD i true=false):left (listed.setIfInBounds i true)+1=left listed:=by
 obtain ⟨l⟩:=listed
 simp only [left,List.setIfInBounds_toArray,List.size_toArray] at*
 have h' :l[i]? =some false:=by
  rw [List.getElem?_eq_getElem hi]
  simpa [Array.getD,hi] using h
 clear h
 induction l generalizing i with
 | nil=>simp at hi
 | cons x l ih=>
   cases i with
   | zero=>simp at h'; subst h'; simp
   | succ i=>
     simp only [List.length_cons] at hi
     have:=ih (i:=i) (by omega) (by simpa using h')
     simp only [List.set_cons_succ,List.filter_cons]
     split <;> simp_all
theorem left_zero {listed:Array Bool} (h:left listed=0):∀ i,i < listed.size→listed.getD i false=true:=by
 intro i hi
 unfold left at h
 rw [List.length_eq_zero_iff,List.filter_eq_nil_iff] at h
 have:=h listed[i] (by simp)
 simpa [Array.getD,hi] using this
theorem left_pos {listed:Array Bool} (h:left listed≠0):∃ i,i < listed.size∧listed.getD i false=false:=by
 unfold left at h
 obtain ⟨x,hx⟩:=List.exists_mem_of_length_pos (Nat.pos_of_ne_zero h)
 obtain ⟨h1,h2⟩:=List.mem_filter.1 hx
 obtain ⟨i,hi,rfl⟩:=List.getElem_of_mem h1
 have hi' :i < listed.size:=by simpa using hi
 exact ⟨i,hi',by simpa [Array.getD,hi'] using h2⟩
theorem reg_draw {id:Nat} (hm:P.follows .mixedOrders=true) (m:Nat) (fl:Option Nat) (hok:okDraw l m fl=true) (Rs:List Rx) (ds:List (List Nat)) (hds:Rs.map (·.deps)=ds) (hdep:depOk l m ds=true) (A:List (List Nat)) (hA:anc l=A)
 (hop:∀ i o,l[i]? =some o→i < m→∀ (e' :Env) (w' :World),Keep0 w w' →(∀ s,notDst l m s=true→e' s=e s)→(∀ j s,(A.getD i []).contains j=true→j < m→dstAt l j=some s→∃ lo hi,w.heap.size≤lo∧hi≤w'.heap.size∧(Rs.getD j default).ok e' (e' s) lo hi w')→
  wpA ro P l.toArray (Done n d e' w' o.dst (Rs.getD i default)) [o] (E n e' d) w')
 (htail:∀ (e' :Env) (w' :World),Keep0 w w' →(∀ s,notDst l m s=true→e' s=e s)→(∃ lo hi:Nat→Nat,(∀ j s,j < m→dstAt l j=some s→w.heap.size≤lo j∧lo j≤hi j∧hi j≤w'.heap.size∧(Rs.getD j default).ok e' (e' s) (lo j) (hi j) w')∧∀ i j,i < m→j < m→i≠j→hi i≤lo j∨hi j≤lo i)→wpA ro P l.toArray Q (l.drop m) (E n e' d) w')
 (hlate:∀ f,fl=some f→∀ (e' :Env) (w' :World),Keep0 w w' →(∀ s,notDst l m s=true→e' s=e s)→(∃ lo hi:Nat→Nat,(∀ j s,j < m→j≠f→dstAt l j=some s→w.heap.size≤lo j∧lo j≤hi j∧hi j≤w'.heap.size∧(Rs.getD j default).ok e' (e' s) (lo j) (hi j) w')∧∀ i j,i < m→j < m→i≠f→j≠f→i≠j→hi i≤lo j∨hi j≤lo i)→
  wpA ro P l.toArray Q ((l.drop m).take 1++((l.drop f).take 1++l.drop (m+1))) (E n e' d) w'):
 (Code.region id l.toArray true).wpIn (Fr ro) 0 P Q (E n e d) w:=by
 obtain ⟨hback,hanc,hml,hdst,hfl,hanc2⟩:=okDraw_spec hok
 have hdeps:∀ i s o,i < m→l[i]? =some o→s∈(Rs.getD i default).deps→∃ j,j < m∧dstAt l j=some s∧waits l i j=true:=by
  intro i s o hi ho hs
  have h1:=List.all_eq_true.1 hdep i (List.mem_range.2 hi)
  have h2:(ds.getD i [])=(Rs.getD i default).deps:=by
   subst hds
   simp only [List.getD,List.getElem?_map]
   cases Rs[i]? <;> rfl
  rw [h2] at h1
  obtain ⟨j,hj,h3⟩:=List.any_eq_true.1 (List.all_eq_true.1 h1 s hs)
  simp only [Bool.and_eq_true,beq_iff_eq] at h3
  exact ⟨j,List.mem_range.1 hj,h3.1,h3.2⟩
 refine wpIn_region_any hm ?_
 have tail:∀ (k:Nat) (fuel:Nat) (listed:Array Bool) (a:Act) (w' :World),m≤k→k≤l.length→fuel=left listed→listed.size=l.length→(∀ i,i < l.length→(listed.getD i false=true↔i < k))→
  wpA ro P l.toArray Q (l.drop k) a w' →wpAnyIn (Fr ro) 0 P .any l.toArray Q fuel listed a w' :=by
  intro k fuel
  induction fuel generalizing k with
  | zero=>
    intro listed a w' hmk hk hf hsz hl h
    have hkl:k=l.length:=by
     rcases Nat.eq_or_lt_of_le hk with h | h
     ·exact h
     ·have:=(hl k h).1 (left_zero hf.symm k (by omega)); omega
    subst hkl
    refine ⟨?_,by simpa [wpA] using h⟩
    refine List.eq_nil_iff_forall_not_mem.2 fun i hi=>?_
    obtain ⟨h1,o,h2,_⟩:=mem_ready.1 hi
    have hi' :i < l.length:=by
     obtain ⟨hh,_⟩:=Array.getElem?_eq_some_iff.1 h2
     simpa using hh
    have:=(hl i hi').2 hi'
    simp [Array.getD,hsz,hi'] at this h1
    rw [this] at h1; cases h1
  | succ fuel ih=>
    intro listed a w' hmk hk hf hsz hl h
    have hkl:k < l.length:=by
     obtain ⟨i,h1,h2⟩:=left_pos (listed:=listed) (by omega)
     have:=hl i (by omega)
     rcases Nat.lt_or_ge i k with h | h
     ·rw [this.2 h] at h2; cases h2
     ·omega
    refine ⟨fun hnil=>?_,fun i hi=>?_⟩
    ·exfalso
     have:k∈Region.ready .any l.toArray listed:=by
      refine mem_ready.2 ⟨?_,l[k],by simp [hkl],fun x hx hb=>?_⟩
      ·have:¬listed.getD k false=true:=fun h=>by have:=(hl k hkl).1 h; omega
       simp [Array.getD,hsz,hkl] at this ⊢
       exact this
      ·exact (hl x.on (by have:=hback k l[k] (List.getElem?_eq_getElem hkl) x hx hb; omega)).2 (hback k l[k] (List.getElem?_eq_getElem hkl) x hx hb)
     rw [hnil] at this; cases this
    ·obtain ⟨h1,o,h2,h3⟩:=mem_ready.1 hi
     have hi' :i < l.length:=by
      obtain ⟨hh,_⟩:=Array.getElem?_eq_some_iff.1 h2
      simpa using hh
     have hnk:¬i < k:=fun hlt=>by
      have:=(hl i hi').2 hlt
      simp [Array.getD,hsz,hi'] at this h1
      rw [this] at h1; cases h1
     have hik:i=k:=by
      rcases Nat.eq_or_lt_of_le (Nat.le_of_not_lt hnk) with h | h
      ·exact h.symm
      ·exfalso
       let S:Nat→Prop:=fun j=>j=i∨listed.getD j false=true
       have hS:=hanc S (fun j oj hj hSj x hx=>by
        have hxo:∃ y∈oj.after,Region.binds .any y=true∧y.on=x:=by
         simp only [edges,List.mem_map,List.mem_filter] at hx
         obtain ⟨y,⟨hy1,hy2⟩,rfl⟩:=hx
         exact ⟨y,Array.mem_def.2 hy1,hy2,rfl⟩
        obtain ⟨y,hy,hb,rfl⟩:=hxo
        rcases hSj with rfl | hSj
        ·have:oj=o:=by
          have h2' :l[j]? =some o:=by simpa using h2
          rw [hj] at h2'; exact Option.some.inj h2'
         subst this
         exact .inr (h3 y hy hb)
        ·have hjl:j < l.length:=(List.getElem?_eq_some_iff.1 hj).1
         have:=hback j oj hj y hy hb
         exact .inr ((hl y.on (by omega)).2 (by have:=(hl j hjl).1 hSj; omega))) i (by omega) hi' (.inl rfl) k h
       rcases hS.resolve_left (fun h=>by omega) with h4 | h4
       ·omega
       ·have:=(hl k hkl).1 h4; omega
     subst hik
     have hd:l.drop i=o::l.drop (i+1):=by
      have h2' :l[i]? =some o:=by simpa using h2
      rw [List.drop_eq_getElem_cons hi']
      rw [List.getElem?_eq_getElem hi'] at h2'
      rw [Option.some.inj h2']
     rw [hd] at h
     refine wpA_head h2 (fun a w h=>?_) h
     refine ih (i+1) _ a w (by omega) (by omega) (by have:=left_set (by omega) h1; omega) (by simpa using hsz) (fun j hj=>?_) h
     by_cases hji:j=i
     ·subst hji
      have:(listed.setIfInBounds j true).getD j false=true:=by simp [Array.getD,hsz,hj]
      simp [this]
     ·have h6:=hl j hj
      have h5:(listed.setIfInBounds i true).getD j false=listed.getD j false:=getD_set_ne false (fun h=>hji h.symm)
      rw [h5,h6]; omega
 have late:∀ (f:Nat) (o2:Oper) (fuel:Nat) (listed:Array Bool) (a:Act) (w' :World),fl=some f→l[f]? =some o2→fuel=left listed→listed.size=l.length→(∀ i,i < l.length→(listed.getD i false=true↔(i≤m∧i≠f)))→
  (∀ i o,l[i]? =some o→listed.getD i false=true→∀ x∈o.after,Region.binds .any x=true→listed.getD x.on false=true)→
  wpA ro P l.toArray Q (o2::l.drop (m+1)) a w' →wpAnyIn (Fr ro) 0 P .any l.toArray Q fuel listed a w' :=by
  intro f o2 fuel listed a w' hff ho2 hf hsz hl hcl h
  obtain ⟨hfm,hml'⟩:=hfl f hff
  have hf0:listed.getD f false=false:=by
   cases hc:listed.getD f false with
   | false=>rfl
   | true=>exact absurd rfl ((hl f (by omega)).1 hc).2
  cases fuel with
  | zero=>
    have:=left_zero hf.symm f (by omega)
    rw [hf0] at this; cases this
  | succ fuel=>
    refine ⟨fun hnil=>?_,fun i hi=>?_⟩
    ·exfalso
     have:f∈Region.ready .any l.toArray listed:=by
      have hfs:f < listed.size:=by omega
      refine mem_ready.2 ⟨?_,o2,by simpa using ho2,fun x hx hb=>?_⟩
      ·simp [Array.getD,hfs] at hf0 ⊢
       exact hf0
      ·have:=hback f o2 ho2 x hx hb
       exact (hl x.on (by omega)).2 ⟨by omega,by omega⟩
     rw [hnil] at this; cases this
    ·obtain ⟨h1,o,h2,h3⟩:=mem_ready.1 hi
     have h2' :l[i]? =some o:=by simpa using h2
     have hi' :i < l.length:=(List.getElem?_eq_some_iff.1 h2').1
     have h1f:¬listed.getD i false=true:=fun h=>by
      simp [Array.getD,hsz,hi'] at h h1
      rw [h] at h1; cases h1
     have hif:i=f:=by
      by_cases hle:i≤m
      ·by_cases hif:i=f
       ·exact hif
       ·exact absurd ((hl i hi').2 ⟨hle,hif⟩) h1f
      ·exfalso
       let S:Nat→Prop:=fun j=>j=i∨listed.getD j false=true
       have hS:=hanc S (fun j oj hj hSj x hx=>by
        simp only [edges,List.mem_map,List.mem_filter] at hx
        obtain ⟨y,⟨hy1,hy2⟩,rfl⟩:=hx
        rcases hSj with rfl | hSj
        ·have:oj=o:=by rw [hj] at h2'; exact Option.some.inj h2'
         subst this
         exact .inr (h3 y (Array.mem_def.2 hy1) hy2)
        ·exact .inr (hcl j oj hj hSj y (Array.mem_def.2 hy1) hy2)) i (by omega) hi' (.inl rfl) f (by omega)
       rcases hS.resolve_left (fun h=>by omega) with h4 | h4
       ·omega
       ·rw [hf0] at h4; cases h4
     subst hif
     have:o2=o:=by rw [ho2] at h2'; exact Option.some.inj h2'
     subst this
     refine wpA_head h2 (fun a w h=>tail (m+1) fuel _ a w (by omega) (by omega) (by have:=left_set (by omega) h1; omega) (by simpa using hsz) (fun j hj=>?_) h) h
     by_cases hji:j=i
     ·subst hji
      have:(listed.setIfInBounds j true).getD j false=true:=by simp [Array.getD,hsz,hj]
      simp [this]; omega
     ·have h6:=hl j hj
      have h5:(listed.setIfInBounds i true).getD j false=listed.getD j false:=getD_set_ne false (fun h=>hji h.symm)
      rw [h5,h6]; omega
 have head:∀ (fuel:Nat) (listed:Array Bool) (e' :Env) (w' :World),fuel=left listed→listed.size=l.length→(∀ i,i < l.length→listed.getD i false=true→i < m)→
  (∀ i o,l[i]? =some o→listed.getD i false=true→∀ x∈o.after,Region.binds .any x=true→listed.getD x.on false=true)→
  Keep0 w w' →(∀ s,notDst l m s=true→e' s=e s)→(∃ lo hi:Nat→Nat,(∀ j s,listed.getD j false=true→j < m→dstAt l j=some s→(Rs.getD j default).ok e' (e' s) (lo j) (hi j) w')∧(∀ j,listed.getD j false=true→w.heap.size≤lo j∧lo j≤hi j∧hi j≤w'.heap.size)∧∀ i j,listed.getD i false=true→listed.getD j false=true→i≠j→hi i≤lo j∨hi j≤lo i)→wpAnyIn (Fr ro) 0 P .any l.toArray Q fuel listed (E n e' d) w' :=by
  intro fuel
  induction fuel with
  | zero=>
    intro listed e' w' hf hsz hlm _ hk hfr hR
    have hall:=left_zero hf.symm
    have hmm:m=l.length:=by
     rcases Nat.eq_or_lt_of_le hml with h | h
     ·exact h
     ·have:=hlm m h (hall m (by omega)); omega
    refine ⟨List.eq_nil_iff_forall_not_mem.2 fun i hi=>?_,?_⟩
    ·obtain ⟨h1,o,h2,_⟩:=mem_ready.1 hi
     have hi' :i < l.length:=by
      obtain ⟨hh,_⟩:=Array.getElem?_eq_some_iff.1 h2
      simpa using hh
     have:=hall i (by omega)
     simp [Array.getD,hsz,hi'] at this h1
     rw [this] at h1; cases h1
    ·obtain ⟨lo,hi,hR,hb,hdj⟩:=hR
     have:=htail e' w' hk hfr ⟨lo,hi,fun j s hj hs=>⟨(hb j (hall j (by omega))).1,(hb j (hall j (by omega))).2.1,(hb j (hall j (by omega))).2.2,hR j s (hall j (by omega)) hj hs⟩,fun i j hi hj hne=>hdj i j (hall i (by omega)) (hall j (by omega)) hne⟩
     rw [hmm] at this
     simpa [wpA] using this
  | succ fuel ih=>
    intro listed e' w' hf hsz hlm hcl hk hfr hR
    refine ⟨fun hnil=>?_,fun i hi=>?_⟩
    ·exfalso
     obtain ⟨i,h1,h2⟩:=left_pos (listed:=listed) (by omega)
     induction i using Nat.strongRecOn with
     | _ i ihi=>
       by_cases hh:∃ j,j < i∧listed.getD j false=false
       ·obtain ⟨j,hj,hj2⟩:=hh
        exact ihi j hj (by omega) hj2
       ·have hil:i < l.length:=by omega
        have:i∈Region.ready .any l.toArray listed:=by
         refine mem_ready.2 ⟨?_,l[i],by simp [hil],fun x hx hb=>?_⟩
         ·simp [Array.getD,h1] at h2 ⊢
          exact h2
         ·have hxi:=hback i l[i] (List.getElem?_eq_getElem hil) x hx hb
          cases hc:listed.getD x.on false with
          | true=>rfl
          | false=>exact absurd ⟨x.on,hxi,hc⟩ hh
        rw [hnil] at this; cases this
    ·have hi'2:=hi
     obtain ⟨h1,o,h2,h3⟩:=mem_ready.1 hi
     have h2' :l[i]? =some o:=by simpa using h2
     have hi' :i < l.length:=(List.getElem?_eq_some_iff.1 h2').1
     have h1f:¬listed.getD i false=true:=fun h=>by
      simp [Array.getD,hsz,hi'] at h h1
      rw [h] at h1; cases h1
     rcases Nat.lt_or_ge i m with him | hmi
     ·refine wpA_one h2 (fun a w2 hd=>?_) (fun ex a w2 hne hd=>?_) (hop i o h2' him e' w' hk hfr fun j s hw hj hs=>?_)
      ·obtain ⟨v,rfl,hk2,hRv⟩:=hd
       obtain ⟨lo,hi,hR,hb,hdj⟩:=hR
       refine ih _ _ _ (by have:=left_set (by omega) h1; omega) (by simpa using hsz) (fun j hj hjl=>?_) (fun j oj hj hjl x hx hb=>?_) (hk.trans hk2) (fun s hs=>?_) ⟨fun j=>if j=i then w'.heap.size else lo j,fun j=>if j=i then w2.heap.size else hi j,fun j s hjl hj hs=>?_,fun j hjl=>?_,fun j k hjl hkl hne=>?_⟩
       ·by_cases hji:j=i
        ·subst hji; exact him
        ·rw [getD_set_ne false (fun h=>hji h.symm)] at hjl
         exact hlm j hj hjl
       ·by_cases hji:j=i
        ·subst hji
         have:oj=o:=by rw [hj] at h2'; exact Option.some.inj h2'
         subst this
         exact getD_set_true (h3 x hx hb)
        ·rw [getD_set_ne false (fun h=>hji h.symm)] at hjl
         exact getD_set_true (hcl j oj hj hjl x hx hb)
       ·rw [← hfr s hs]
        cases hds:o.dst with
        | none=>rfl
        | some t=>
          have hst:s≠t:=fun h=>by
           subst h
           have:=List.all_eq_true.1 hs o (List.mem_take_iff_getElem.2 ⟨i,by omega,by rw [List.getElem?_eq_getElem hi'] at h2'; exact Option.some.inj h2'⟩)
           simp [hds] at this
          simp [updo,upd,nbeq hst]
       ·have hkeep:∀ (j:Nat) (oj:Oper),j < m→l[j]? =some oj→(∀ k,waits l j k=true→k≠i)→∀ s' ∈(Rs.getD j default).deps,updo e' o.dst v s' =e' s' :=by
         intro j oj hjm hoj hne s' hs'
         obtain ⟨k,hk1,hk2,hk3⟩:=hdeps j s' oj hjm hoj hs'
         cases hds:o.dst with
         | none=>rfl
         | some t=>
           have hst:s' ≠t:=fun h=>by
            subst h
            exact hne k hk3 (hdst k i s' hk1 him hk2 (by simp [dstAt,h2',hds]))
           simp [updo,upd,nbeq hst]
        by_cases hji:j=i
        ·subst hji
         have hds:o.dst=some s:=by simpa [dstAt,h2'] using hs
         have:=(Rs.getD j default).loc _ (updo e' o.dst v) _ _ _ _ (hkeep j o him h2' fun k hw=>by
          have:=(hanc2 (fun _=>True) (fun _ _ _ _ _ _=>trivial) j k hi' trivial hw).1
          omega) hRv
         have hev:updo e' o.dst v s=v:=by simp [hds,updo,upd]
         rw [hev]
         simpa using this
        ·rw [getD_set_ne false (fun h=>hji h.symm)] at hjl
         have hold:=(Rs.getD j default).st _ _ _ _ _ _ (hR j s hjl hj hs) hk2
         simp only [if_neg hji]
         have hjlen:j < l.length:=by omega
         have hold2:=(Rs.getD j default).loc _ (updo e' o.dst v) _ _ _ _ (hkeep j l[j] hj (List.getElem?_eq_getElem hjlen) fun k hw=>by
          intro hki
          have h7:=(hanc2 (fun x=>listed.getD x false=true) (fun x ox hx hSx y hy=>by
           simp only [edges,List.mem_map,List.mem_filter] at hy
           obtain ⟨z,⟨hz1,hz2⟩,rfl⟩:=hy
           exact hcl x ox hx hSx z (Array.mem_def.2 hz1) hz2) j k hjlen hjl hw).2
          rw [hki] at h7
          exact h1f h7) hold
         have hev:updo e' o.dst v s=e' s:=by
          cases hds:o.dst with
          | none=>rfl
          | some t=>
            have hst:s≠t:=fun h=>by
             subst h
             exact hji (hdst j i s hj him hs (by simp [dstAt,h2',hds]))
            simp [updo,upd,nbeq hst]
         rw [hev]
         exact hold2
       ·by_cases hji:j=i
        ·subst hji
         simp only [if_pos]
         exact ⟨hk.size,hk2.size,Nat.le_refl _⟩
        ·rw [getD_set_ne false (fun h=>hji h.symm)] at hjl
         simp only [if_neg hji]
         have:=hb j hjl
         exact ⟨this.1,this.2.1,Nat.le_trans this.2.2 hk2.size⟩
       ·by_cases hji:j=i
        ·subst hji
         rw [getD_set_ne false (fun h=>hne h)] at hkl
         simp only [if_neg (fun h=>hne (Eq.symm h):¬k=j),if_pos]
         exact .inr (hb k hkl).2.2
        ·rw [getD_set_ne false (fun h=>hji h.symm)] at hjl
         by_cases hki:k=i
         ·subst hki
          simp only [if_neg hji,if_pos]
          exact .inl (hb j hjl).2.2
         ·rw [getD_set_ne false (fun h=>hki h.symm)] at hkl
          simp only [if_neg hji,if_neg hki]
          exact hdj j k hjl hkl hne
      ·cases ex with
       | normal=>exact absurd rfl hne
       | _=>exact hd.elim
      ·obtain ⟨lo,hi,hR,hb,hdj⟩:=hR
       have hjl:listed.getD j false=true:=?_
       exact ⟨lo j,hi j,(hb j hjl).1,(hb j hjl).2.2,hR j s hjl hj hs⟩
       let S:Nat→Prop:=fun j=>j=i∨listed.getD j false=true
       have hS:=hanc2 S (fun j oj hj hSj x hx=>by
        simp only [edges,List.mem_map,List.mem_filter] at hx
        obtain ⟨y,⟨hy1,hy2⟩,rfl⟩:=hx
        rcases hSj with rfl | hSj
        ·have:oj=o:=by rw [hj] at h2'; exact Option.some.inj h2'
         subst this
         exact .inr (h3 y (Array.mem_def.2 hy1) hy2)
        ·exact .inr (hcl j oj hj hSj y (Array.mem_def.2 hy1) hy2)) i j hi' (.inl rfl) (by rw [hA]; exact hw)
       rcases hS.2 with h4 | h4
       ·exact absurd h4 (by omega)
       ·exact h4
     ·
      let S:Nat→Prop:=fun j=>j=i∨listed.getD j false=true
      have hS:=hanc S (fun j oj hj hSj x hx=>by
       simp only [edges,List.mem_map,List.mem_filter] at hx
       obtain ⟨y,⟨hy1,hy2⟩,rfl⟩:=hx
       rcases hSj with rfl | hSj
       ·have:oj=o:=by rw [hj] at h2'; exact Option.some.inj h2'
        subst this
        exact .inr (h3 y (Array.mem_def.2 hy1) hy2)
       ·exact .inr (hcl j oj hj hSj y (Array.mem_def.2 hy1) hy2)) i hmi hi' (.inl rfl)
      have hbef' :∀ j,j < i→(i=m∧fl=some j)∨listed.getD j false=true:=fun j hj=>by
       rcases hS j hj with h | h | h
       ·exact .inl h
       ·omega
       ·exact .inr h
      have him:i=m:=by
       rcases Nat.eq_or_lt_of_le hmi with h | h
       ·exact h.symm
       ·rcases hbef' m h with h' | h'
        ·exact h'.1
        ·have:=hlm m (by omega) h'; omega
      subst him
      obtain ⟨lo,hi,hR,hb,hdj⟩:=hR
      rcases Classical.em (∃ f,fl=some f∧listed.getD f false=false) with ⟨f,hff,hf0⟩ | hnone
      ·obtain ⟨hfm,hml'⟩:=hfl f hff
       have hbefj:∀ j,j < i→j≠f→listed.getD j false=true:=fun j hj hne=>(hbef' j hj).elim (fun h=>absurd (Option.some.inj (h.2.symm.trans hff)) hne) (fun h=>h)
       have hfl' :f < l.length:=by omega
       have hL:=hlate f hff e' w' hk hfr ⟨lo,hi,fun j s hj hne hs=>⟨(hb j (hbefj j hj hne)).1,(hb j (hbefj j hj hne)).2.1,(hb j (hbefj j hj hne)).2.2,hR j s (hbefj j hj hne) hj hs⟩,fun a b ha hb' hna hnb hne=>hdj a b (hbefj a ha hna) (hbefj b hb' hnb) hne⟩
       have e1:(l.drop i).take 1=[o]:=by
        have ho:l[i]=o:=by rw [List.getElem?_eq_getElem hi'] at h2'; exact Option.some.inj h2'
        rw [List.drop_eq_getElem_cons hi',List.take_succ_cons,List.take_zero,ho]
       have e2:(l.drop f).take 1=[l[f]]:=by
        rw [List.drop_eq_getElem_cons hfl',List.take_succ_cons,List.take_zero]
       rw [e1,e2] at hL
       have hL2:wpA ro P l.toArray Q (o::l[f]::l.drop (i+1)) (E n e' d) w' :=by simpa using hL
       refine wpA_head h2 (fun a w h=>late f l[f] fuel _ a w hff (List.getElem?_eq_getElem hfl') (by have:=left_set (by omega) h1; omega) (by simpa using hsz) (fun j hj=>?_) (fun j oj hj hjl x hx hb=>?_) h) hL2
       ·by_cases hji:j=i
        ·subst hji
         have:(listed.setIfInBounds j true).getD j false=true:=by simp [Array.getD,hsz,hj]
         simp [this]; omega
        ·have h5:(listed.setIfInBounds i true).getD j false=listed.getD j false:=getD_set_ne false (fun h=>hji h.symm)
         rw [h5]
         constructor
         ·intro h9
          have:=hlm j hj h9
          exact ⟨by omega,fun h' =>by rw [h',hf0] at h9; cases h9⟩
         ·rintro ⟨h7,h8⟩
          exact hbefj j (by omega) h8
       ·by_cases hji:j=i
        ·subst hji
         have:oj=o:=by rw [hj] at h2'; exact Option.some.inj h2'
         subst this
         exact getD_set_true (h3 x hx hb)
        ·rw [getD_set_ne false (fun h=>hji h.symm)] at hjl
         exact getD_set_true (hcl j oj hj hjl x hx hb)
      ·have hbef:∀ j,j < i→listed.getD j false=true:=fun j hj=>(hbef' j hj).elim (fun h=>by
        cases hc:listed.getD j false with
        | true=>rfl
        | false=>exact absurd ⟨j,h.2,hc⟩ hnone) (fun h=>h)
       have hT:=tail i (fuel+1) listed (E n e' d) w' (Nat.le_refl _) hml hf hsz (fun j hj=>⟨fun h=>hlm j hj h,fun h=>hbef j h⟩)
        (htail e' w' hk hfr ⟨lo,hi,fun j s hj hs=>⟨(hb j (hbef j hj)).1,(hb j (hbef j hj)).2.1,(hb j (hbef j hj)).2.2,hR j s (hbef j hj) hj hs⟩,fun a b ha hb' hne=>hdj a b (hbef a ha) (hbef b hb') hne⟩)
       exact hT.2 i hi'2
 refine head _ _ e w.drew ?_ (by simp) (fun i hi h=>?_) (fun i o hi h=>?_) ⟨rfl,rfl,rfl,Nat.le_refl _,fun _ _ _=>rfl⟩ (fun _ _=>rfl) ⟨fun _=>0,fun _=>0,fun j s h=>?_,fun j h=>?_,fun i j h=>?_⟩
 ·simp [left]
 ·simp [Array.getD] at h
 ·simp [Array.getD] at h
 ·simp [Array.getD] at h
 ·simp [Array.getD] at h
 ·simp [Array.getD] at h
def New (k:Nat) (p:Asr):Prop:=∀ b,p.fp b→k≤b
theorem New.bx {k b:Nat}{o:Obj} (h:k≤b):New k (bx b o):=fun _ hb=>hb▸h
theorem New.mono {k k' :Nat}{p:Asr} (h:New k p) (hk:k' ≤k):New k' p:=fun b hb=>Nat.le_trans hk (h b hb)
theorem St.addL {w0:World}{C:Nat→Prop}{w w' :World}{X L:List Asr} (S:St w0 C w X L) (k:Keep0 w w') {p:Asr} (hp:p.ok w') (hn:New w.heap.size p):St w0 C w' X (p::L):=
 S.callMore k (N:=[p]) (fun q hq=>by rw [List.mem_singleton.1 hq]; exact hp) (fun q hq b hb=>by rw [List.mem_singleton.1 hq] at hb; exact .inl (hn b hb))
theorem St.addL' {w0:World}{C:Nat→Prop}{w:World}{X L:List Asr} (S:St w0 C w X L) {p:Asr} (hp:p.ok w) (hd:∀ b,p.fp b→∀ x∈X,¬x.fp b):St w0 C w X (p::L):=
 S.more (N:=[p]) (fun q hq=>by rw [List.mem_singleton.1 hq]; exact hp) (fun q hq b hb x hx=>by rw [List.mem_singleton.1 hq] at hb; exact hd b hb x hx)
section
variable {ro:Option Nat}{P:Program}{n:Nat}{d:List Deferred}{e:Env}{w:World}{l:List Oper}{m:Nat}
def Hop1 (ro:Option Nat) (P:Program) (n:Nat) (d:List Deferred) (e:Env) (w:World) (l:List Oper) (m:Nat) (Rs:List Rx) (A:List (List Nat)) (i:Nat) (o:Oper) (R:Rx):Prop:=
 ∀ (e' :Env) (w' :World),Keep0 w w' →(∀ s,notDst l m s=true→e' s=e s)→(∀ j s,(A.getD i []).contains j=true→j < m→dstAt l j=some s→∃ lo hi,w.heap.size≤lo∧hi≤w'.heap.size∧(Rs.getD j default).ok e' (e' s) lo hi w')→
  wpA ro P l.toArray (Done n d e' w' o.dst R) [o] (E n e' d) w'
def Hops (ro:Option Nat) (P:Program) (n:Nat) (d:List Deferred) (e:Env) (w:World) (l:List Oper) (m:Nat) (Rs:List Rx) (A:List (List Nat)):Nat→List Oper→List Rx→Prop
 | k,o::os,R::rs=>Hop1 ro P n d e w l m Rs A k o R∧Hops ro P n d e w l m Rs A (k+1) os rs
 | k,o::os,[]=>Hop1 ro P n d e w l m Rs A k o default∧Hops ro P n d e w l m Rs A (k+1) os []
 | _,[],_=>True
theorem hops_at {Rs:List Rx}{A:List (List Nat)}:∀ {k:Nat}{os:List Oper}{rs:List Rx},Hops ro P n d e w l m Rs A k os rs→∀ i o,os[i]? =some o→Hop1 ro P n d e w l m Rs A (k+i) o (rs.getD i default)
 | _,[],_,_,i,o,h=>by simp at h
 | _,o' ::os,R::rs,hh,0,o,h=>by simp at h; subst h; exact hh.1
 | k,o' ::os,R::rs,hh,i+1,o,h=>by
   have:=hops_at hh.2 i o (by simpa using h)
   rw [show k+(i+1)=k+1+i by omega]
   simpa using this
 | _,o' ::os,[],hh,0,o,h=>by simp at h; subst h; exact hh.1
 | k,o' ::os,[],hh,i+1,o,h=>by
   have:=hops_at hh.2 i o (by simpa using h)
   rw [show k+(i+1)=k+1+i by omega]
   simpa using this
theorem reg_any {Q:Exit→Act→World→Prop}{id:Nat} (hm:P.follows .mixedOrders=true) (m:Nat) (hok:okDraw l m none=true) (Rs:List Rx) (ds:List (List Nat)) (hds:Rs.map (·.deps)=ds) (hdep:depOk l m ds=true) (A:List (List Nat)) (hA:anc l=A) (hop:Hops ro P n d e w l m Rs A 0 (l.take m) Rs)
 (htail:∀ (e' :Env) (w' :World) (lo hi:Nat→Nat),Keep0 w w' →(∀ s,notDst l m s=true→e' s=e s)→(∀ j s,j < m→dstAt l j=some s→w.heap.size≤lo j∧lo j≤hi j∧hi j≤w'.heap.size∧(Rs.getD j default).ok e' (e' s) (lo j) (hi j) w')→
  (∀ i j,i < m→j < m→i≠j→hi i≤lo j∨hi j≤lo i)→wpA ro P l.toArray Q (l.drop m) (E n e' d) w'):
 (Code.region id l.toArray true).wpIn (Fr ro) 0 P Q (E n e d) w:=
 reg_draw hm m none hok Rs ds hds hdep A hA (fun i o hi him=>by have:=hops_at hop i o (by rw [List.getElem?_take,if_pos him]; exact hi); rwa [Nat.zero_add] at this) (fun e' w' hk hfr ⟨lo,hi,h1,h2⟩=>htail e' w' lo hi hk hfr h1 h2) (fun f hf=>by cases hf)
theorem reg_fl {Q:Exit→Act→World→Prop}{id:Nat} (hm:P.follows .mixedOrders=true) (m f:Nat) (hok:okDraw l m (some f)=true) (Rs:List Rx) (ds:List (List Nat)) (hds:Rs.map (·.deps)=ds) (hdep:depOk l m ds=true) (A:List (List Nat)) (hA:anc l=A) (hop:Hops ro P n d e w l m Rs A 0 (l.take m) Rs)
 (htail:∀ (e' :Env) (w' :World) (lo hi:Nat→Nat),Keep0 w w' →(∀ s,notDst l m s=true→e' s=e s)→(∀ j s,j < m→dstAt l j=some s→w.heap.size≤lo j∧lo j≤hi j∧hi j≤w'.heap.size∧(Rs.getD j default).ok e' (e' s) (lo j) (hi j) w')→
  (∀ i j,i < m→j < m→i≠j→hi i≤lo j∨hi j≤lo i)→wpA ro P l.toArray Q (l.drop m) (E n e' d) w')
 (hlate:∀ (e' :Env) (w' :World) (lo hi:Nat→Nat),Keep0 w w' →(∀ s,notDst l m s=true→e' s=e s)→(∀ j s,j < m→j≠f→dstAt l j=some s→w.heap.size≤lo j∧lo j≤hi j∧hi j≤w'.heap.size∧(Rs.getD j default).ok e' (e' s) (lo j) (hi j) w')→
  (∀ i j,i < m→j < m→i≠f→j≠f→i≠j→hi i≤lo j∨hi j≤lo i)→wpA ro P l.toArray Q ((l.drop m).take 1++((l.drop f).take 1++l.drop (m+1))) (E n e' d) w'):
 (Code.region id l.toArray true).wpIn (Fr ro) 0 P Q (E n e d) w:=
 reg_draw hm m (some f) hok Rs ds hds hdep A hA (fun i o hi him=>by have:=hops_at hop i o (by rw [List.getElem?_take,if_pos him]; exact hi); rwa [Nat.zero_add] at this) (fun e' w' hk hfr ⟨lo,hi,h1,h2⟩=>htail e' w' lo hi hk hfr h1 h2)
  (fun f' hf e' w' hk hfr ⟨lo,hi,h1,h2⟩=>by cases hf; exact hlate e' w' lo hi hk hfr h1 h2)
theorem hopE {full:Array Oper}{o:Oper}{e' :Env}{w' :World}{R:Rx} (L:List (Nat×Value)) (hL:Has e' L) (h:wpA ro P full (Done n d (ups e' L) w' o.dst R) [o] (E n (ups e' L) d) w'):wpA ro P full (Done n d e' w' o.dst R) [o] (E n e' d) w' :=by
 rwa [ups_has hL] at h
theorem tailE {full:Array Oper}{Q:Exit→Act→World→Prop}{os:List Oper}{e' :Env}{w' :World} (L:List (Nat×Value)) (hL:Has e' L) (h:∀ g,wpA ro P full Q os (E n (ups g L) d) w'):wpA ro P full Q os (E n e' d) w' :=by
 have:=h e'
 rwa [ups_has hL] at this
end
theorem St.addX' {w0:World}{C:Nat→Prop}{w:World}{X L:List Asr} (S:St w0 C w X L) {x:Asr} (hx:x.ok w) (hf:∀ b,x.fp b→w0.heap.size≤b) (hX:∀ y∈X,∀ b,x.fp b→¬y.fp b) (hL:∀ y∈L,∀ b,x.fp b→¬y.fp b):St w0 C w (x::X) L:=by
 refine ⟨S.keep,fun y hy=>?_,S.ps,List.Pairwise.cons (fun y hy b h1 h2=>hX y hy b h1 h2) S.dx,fun y hy p hp b h1 h2=>?_,fun y hy b h1=>?_⟩
 ·rcases List.mem_cons.1 hy with rfl | h
  ·exact hx
  ·exact S.xs y h
 ·rcases List.mem_cons.1 hy with rfl | h
  ·exact hL p hp b h1 h2
  ·exact S.dp y h p hp b h1 h2
 ·rcases List.mem_cons.1 hy with rfl | h
  ·exact .inl (hf b h1)
  ·exact S.own y h b h1
theorem St.asP {w0:World}{C:Nat→Prop}{w w' :World}{X L:List Asr} (S:St w0 C w X L) (k:Keep0 w w'):St w' (fun _=>False) w' [] (X++L):=
 St.start w' _ _ fun p hp=>(List.mem_append.1 hp).elim (fun h=>Asr.stays (S.xs p h) k) (fun h=>Asr.stays (S.ps p h) k)
theorem St.addX {w0:World}{C:Nat→Prop}{w w' :World}{X L:List Asr} (S:St w0 C w X L) (k:Keep0 w w') {x:Asr} (hx:x.ok w') (hf:∀ b,x.fp b→w.heap.size≤b) (hX:∀ y∈X,∀ b,x.fp b→¬y.fp b) (hL:∀ y∈L,∀ b,x.fp b→¬y.fp b):St w0 C w' (x::X) L:=by
 have S' :=S.call k
 refine ⟨S'.keep,fun y hy=>?_,S'.ps,List.Pairwise.cons (fun y hy b h1 h2=>hX y hy b h1 h2) S'.dx,fun y hy p hp b h1 h2=>?_,fun y hy b h1=>?_⟩
 ·rcases List.mem_cons.1 hy with rfl | h
  ·exact hx
  ·exact S'.xs y h
 ·rcases List.mem_cons.1 hy with rfl | h
  ·exact hL p hp b h1 h2
  ·exact S'.dp y h p hp b h1 h2
 ·rcases List.mem_cons.1 hy with rfl | h
  ·exact .inl (Nat.le_trans S.keep.size (hf b h1))
  ·exact S'.own y h b h1
end
end Go.Fx
namespace Go.Fx
open Go
theorem notT {b:Bool} (h:(!b)=true):b=false:=by cases b <;> simp_all
theorem notF {b:Bool} (h:(!b)=false):b=true:=by cases b <;> simp_all
theorem w64 {x:Int} (h0:-9223372036854775808≤x) (h1:x≤9223372036854775807):IntKind.i64.wrap x=x:=by
 simp only [IntKind.wrap,IntKind.bits,IntKind.signed]
 simp
 omega
theorem box_cells {w:World}{b:Nat}{c:Array Value}{t:TypeId}{z:Nat×Nat} (hB:w.heap[b]? =some (.cells c t z)) {o:Nat}{cs:List Value} (h:(c.toList.drop o).take cs.length=cs):∀ j v,cs[j]? =some v→w.cell? ⟨b,o+j,none⟩=some v:=by
 intro j v hj
 rw [cell_of hB]
 rw [← h] at hj
 rw [List.getElem?_take] at hj
 split at hj
 ·rw [List.getElem?_drop] at hj
  simpa using hj
 ·cases hj
section
variable {α:Type}
def sl (enc:α→List Value) (s:Nat) (A:Option Addr) (xs:List α):Asr where
 fp b:=xs≠[]∧∃ a,A=some a∧a.block=b
 ok w:=xs=[]∨∃ b o,A=some ⟨b,o,none⟩∧b < w.heap.size∧∀ i x,xs[i]? =some x→∀ j v,(enc x)[j]? =some v→w.cell? ⟨b,o+i*s+j,none⟩=some v
 mono w w' h k:=by
  rcases h with h | ⟨b,o,rfl,hb,h⟩
  ·exact .inl h
  ·by_cases hx:xs=[]
   ·exact .inl hx
   ·have hk:=k b ⟨hx,_,rfl,rfl⟩
    refine .inr ⟨b,o,rfl,?_,fun i x hi j v hj=>?_⟩
    ·rw [Array.getElem?_eq_getElem hb] at hk
     exact (Array.getElem?_eq_some_iff.1 hk).1
    ·rw [← h i x hi j v hj]
     exact World.cell?_of_block (w:=w) hk
 inb w b h hf:=by
  obtain ⟨hx,a,rfl,rfl⟩:=hf
  rcases h with h | ⟨b,o,h1,hb,_⟩
  ·exact absurd h hx
  ·cases h1; exact hb
theorem sl_at {enc:α→List Value}{s:Nat}{A:Option Addr}{xs:List α}{w:World}{k:Nat}{x:α} (h:(sl enc s A xs).ok w) (hk:xs[k]? =some x):
 ∃ b o,A=some ⟨b,o,none⟩∧∀ j v,(enc x)[j]? =some v→w.cell? ⟨b,o+k*s+j,none⟩=some v:=by
 rcases h with h | ⟨b,o,h1,_,h⟩
 ·subst h; simp at hk
 ·exact ⟨b,o,h1,h k x hk⟩
theorem sl_nil {enc:α→List Value}{s:Nat}{A:Option Addr}{w:World}:(sl enc s A []).ok w:=.inl rfl
end
section
variable {ro:Option Nat}{P:Program}{full:Array Oper}{Q:Exit→Act→World→Prop}{n:Nat}{d:List Deferred}{e:Env}{w:World}
variable {rest:List Oper}{ty:TypeId}{ps:String}{af:Array Edge}
theorem run_bound {x:Value}{k:IntKind}{i:Int}{y:Nat}{c:BoundsCode} (hx:x=.int k i) (h0:0≤i) (h1:i≤y):(Instr.sliceBound x y c).run P w=.ok i.toNat w:=by
 subst hx
 simp [Instr.sliceBound,asIntOf,h0,h1]
theorem o_cut3 {t i:Nat}{x hi mx:Operand}{A:Option Addr}{len cp el s:Nat}{k1 k2:IntKind}{a b:Int} (hx:evn n e x=.slice A len cp) (hT:slcOf P t=some (el,s)) (hhi:evn n e hi=.int k1 a) (hmx:evn n e mx=.int k2 b)
 (h0:0≤a) (h1:a≤b) (h2:b≤cp)
 (h:wpA ro P full Q rest (E n (upd e i (.slice A a.toNat b.toNat)) d) w):
 wpA ro P full Q (⟨some i,.slice t x none (some hi) (some mx),ty,ps,af,none⟩::rest) (E n e d) w:=by
 refine op_val (v:=.slice A a.toNat b.toNat) rfl (fun _ h=>by cases h) ?_ h
 unfold slcOf at hT
 split at hT
 ·rename_i el' hu
  obtain ⟨s',hs,hT⟩:=Option.map_eq_some_iff.1 hT
  cases hT
  have hb0:0≤b:=by omega
  have hab:a≤(b.toNat:Int):=by omega
  have hadd:(A.map (·.add (0*s)))=A:=by cases A <;> simp [Addr.add]
  simp [execOp,Instr.sliceAt,run_und hu,Instr.slice,hx,hhi,hmx,Instr.sliceBounds,run_bound rfl hb0 h2,run_bound (y:=b.toNat) rfl h0 hab,run_sizeOf hs]
  intro _
  cases A <;> simp [Addr.add]
 ·cases hT
theorem o_cut3E {t i:Nat}{x hi mx:Operand}{A:Option Addr}{len cp el s:Nat}{k1 k2:IntKind}{a b:Int}{n1 n2:Nat} (hx:evn n e x=.slice A len cp) (hT:slcOf P t=some (el,s)) (hhi:evn n e hi=.int k1 a) (hmx:evn n e mx=.int k2 b)
 (h0:0≤a) (h1:a≤b) (h2:b≤cp) (e1:a.toNat=n1) (e2:b.toNat=n2)
 (h:wpA ro P full Q rest (E n (upd e i (.slice A n1 n2)) d) w):
 wpA ro P full Q (⟨some i,.slice t x none (some hi) (some mx),ty,ps,af,none⟩::rest) (E n e d) w:=by
 subst e1 e2
 exact o_cut3 hx hT hhi hmx h0 h1 h2 h
theorem sl_none0 {α:Type}{enc:α→List Value}{s:Nat}{A:Option Addr}{xs:List α}{w:World} (h:(sl enc s A xs).ok w) (hA:A=none):xs.length=0:=by
 rcases h with h | ⟨b,o,h1,_⟩
 ·subst h; rfl
 ·rw [hA] at h1; cases h1
end
end Go.Fx
namespace Go.Fx
open Go
section
variable {κ ν:Type}
def mkE (ek:κ→Value) (ev:ν→Value) (x:Nat×κ×ν):MapEntry:={ key:=ek x.2.1,val:=ev x.2.2,born:=x.1 }
def mapO (ek:κ→Value) (ev:ν→Value) (l:List (Nat×κ×ν)) (clock:Nat):Obj:=.map (l.map (mkE ek ev)).toArray clock
def Stamped (l:List (Nat×κ×ν)) (clock:Nat):Prop:=(l.map (·.1)).Nodup∧∀ x∈l,x.1 < clock
def mp (ek:κ→Value) (ev:ν→Value) (m:Nat) (l:List (κ×ν)):Asr where
 fp b:=b=m
 ok w:=∃ es clock,w.heap[m]? =some (mapO ek ev es clock)∧es.map (·.2)=l∧Stamped es clock
 mono w w' :=fun ⟨es,clock,h,r⟩ k=>⟨es,clock,(k m rfl).trans h,r⟩
 inb w b:=fun ⟨es,clock,h,_⟩ hb=>by subst hb; exact (Array.getElem?_eq_some_iff.1 h).1
structure KeyL (P:Program) (kt:TypeId) (ek:κ→Value) [DecidableEq κ]:Prop where
 check:∀ (b:Bool) (a:κ) (w:World),(Instr.checkKey b 10000 kt (ek a)).run P w=.ok () w
 find:∀ (a:κ) (l:List MapEntry) (ks:List κ),l.map (·.key)=ks.map ek→∀ w:World,(Instr.findKey kt (ek a) l).run P w=.ok ((ks.findIdx? (·==a)).map fun i=>(i,(l.getD i default).val)) w
 bits:∀ a:κ,Instr.sameBits 10000 (ek a) (ek a)=true
variable [DecidableEq κ]
def lookL (l:List (κ×ν)) (a:κ):Option ν:=(l.find? (·.1==a)).map (·.2)
def putL (l:List (κ×ν)) (a:κ) (v:ν):List (κ×ν):=match (l.map (·.1)).findIdx? (·==a) with | some i=>l.set i (a,v) | none=>l++[(a,v)]
end
section
variable {κ ν:Type} [DecidableEq κ] {ek:κ→Value}{ev:ν→Value}
variable {ro:Option Nat}{P:Program}{full:Array Oper}{Q:Exit→Act→World→Prop}{n:Nat}{d:List Deferred}{e:Env}{w w0:World}{C:Nat→Prop}{X L:List Asr}
variable {rest:List Oper}{ty:TypeId}{ps:String}{af:Array Edge}
def mptOf (P:Program) (t:TypeId):Option (TypeId×TypeId):=match P.underlying t with | some (.map k el)=>some (k,el) | _=>none
theorem mpt_und {t k el:TypeId} (h:mptOf P t=some (k,el)):P.underlying t=some (.map k el):=by
 unfold mptOf at h
 split at h
 ·cases h; assumption
 ·cases h
omit [DecidableEq κ] in
theorem o_mkmap {t i:Nat} (S:St w0 C w X L) (ek:κ→Value) (ev:ν→Value)
 (h:∀ m w',m=w.heap.size→St w0 C w' (mp ek ev m []::X) L→wpA ro P full Q rest (E n (upd e i (.map (some m))) d) w'):
 wpA ro P full Q (⟨some i,.makeMap t none,ty,ps,af,none⟩::rest) (E n e d) w:=by
 have S1:=S.alloc (.map #[] 0)
 have S2:St w0 C (w.alloc (.map #[] 0)) (mp ek ev w.heap.size []::X) L:=by
  have:=S1.turn (w' :=w.alloc (.map #[] 0)) (i:=0) (x:=bx w.heap.size (.map #[] 0)) (y:=mp ek ev w.heap.size []) rfl ⟨[],0,S1.at (i:=0) rfl,rfl,by simp [Stamped]⟩ (fun b hb=>.inl hb) rfl rfl rfl (Nat.le_refl _) (fun _ _ _=>rfl)
  simpa using this
 exact op_val (v:=.map (some w.heap.size)) (w' :=w.alloc (.map #[] 0)) rfl (fun _ h=>by cases h) (by simp [execOp,Instr.makeMap]) (h _ _ rfl S2)
theorem find_look {l:List (κ×ν)}{a:κ}:lookL l a=((l.map (·.1)).findIdx? (·==a)).bind fun i=>(l[i]?).map (·.2):=by
 induction l with
 | nil=>rfl
 | cons x l ih=>
   by_cases h:x.1==a
   ·simp [lookL,List.findIdx?_cons,h]
   ·have h' :(x.1==a)=false:=by simpa using h
    simp only [lookL,List.find?_cons,List.map_cons,List.findIdx?_cons,h'] at ih ⊢
    rw [ih]
    cases (l.map (·.1)).findIdx? (·==a) <;> simp
theorem o_look {t kt el i m s bb:Nat}{x y:Operand}{a:κ}{l:List (κ×ν)}{z:Value} (hx:evn n e x=.map (some m)) (hy:evn n e y=ek a) (hT:mptOf P t=some (kt,el)) (K:KeyL P kt ek) (hz:infoOf P el=some (some z,s,bb))
 (hm:(mp ek ev m l).ok w) (h1:∀ v,lookL l a=some v→wpA ro P full Q rest (E n (upd e i (.tuple #[ev v,.bool true])) d) w) (h0:lookL l a=none→wpA ro P full Q rest (E n (upd e i (.tuple #[z,.bool false])) d) w):
 wpA ro P full Q (⟨some i,.lookup t x y true,ty,ps,af,none⟩::rest) (E n e d) w:=by
 obtain ⟨es,clock,hh,hl,hst⟩:=hm
 have hkeys:((es.map (mkE ek ev)).toArray.toList).map (·.key)=(l.map (·.1)).map ek:=by
  rw [← hl]; simp [mkE,Function.comp_def]
 have hf:=K.find a _ _ hkeys w
 have hzr:(zeroValue el).run P w=.ok z w:=by
  unfold infoOf at hz
  cases hu:P.info? el with
  | none=>simp [hu] at hz
  | some D=>
    simp only [hu,Option.map_some,Option.some.injEq,Prod.mk.injEq] at hz
    simp [zeroValue,typeInfo,hu,hz.1]
 have hgo:(getObj m).run P w=.ok (mapO ek ev es clock) w:=by
  simp only [getObj,Sem.run,hh,mapO]
 cases hfi:(l.map (·.1)).findIdx? (·==a) with
 | none=>
   have hn:lookL l a=none:=by rw [find_look,hfi]; rfl
   refine op_val (v:=.tuple #[z,.bool false]) rfl (fun _ h=>by cases h) ?_ (h0 hn)
   rw [hfi] at hf
   simp only [execOp,hx,hy,Instr.lookup,Sem.run_bind,run_und (mpt_und hT),Result.andThen_ok,hgo,mapO,K.check,Sem.run_pure]
   simp at hf ⊢
   simp [hf,hzr]
 | some j=>
   have hj:j < l.length:=by
    have:=List.findIdx?_eq_some_iff_findIdx_eq.1 hfi
    simpa using this.1
   have hlk:lookL l a=some l[j].2:=by rw [find_look,hfi]; simp [hj]
   refine op_val (v:=.tuple #[ev l[j].2,.bool true]) rfl (fun _ h=>by cases h) ?_ (h1 _ hlk)
   rw [hfi] at hf
   have hje:j < es.length:=by rw [← hl] at hj; simpa using hj
   have hval:((es.map (mkE ek ev)).toArray.toList.getD j default).val=ev l[j].2:=by
    subst hl
    simp [hje,mkE]
   simp only [execOp,hx,hy,Instr.lookup,Sem.run_bind,run_und (mpt_und hT),Result.andThen_ok,hgo,mapO,K.check,Sem.run_pure]
   rw [Option.map_some,hval] at hf
   simp at hf ⊢
   simp [hf]
theorem putL_some {l:List (κ×ν)}{a:κ}{v:ν}{j:Nat} (h:(l.map (·.1)).findIdx? (·==a)=some j):putL l a v=l.set j (a,v):=by simp [putL,h]
theorem putL_none {l:List (κ×ν)}{a:κ}{v:ν} (h:(l.map (·.1)).findIdx? (·==a)=none):putL l a v=l++[(a,v)]:=by simp [putL,h]
theorem o_mup {t kt el i m:Nat}{x y z:Operand}{a:κ}{v:ν}{l:List (κ×ν)} (hx:evn n e x=.map (some m)) (hy:evn n e y=ek a) (hz:evn n e z=ev v) (hT:mptOf P t=some (kt,el)) (K:KeyL P kt ek)
 (S:St w0 C w X L) (hi:X[i]? =some (mp ek ev m l))
 (h:∀ w',St w0 C w' (X.set i (mp ek ev m (putL l a v))) L→wpA ro P full Q rest (E n e d) w'):
 wpA ro P full Q (⟨none,.mapUpdate t x y z,ty,ps,af,none⟩::rest) (E n e d) w:=by
 obtain ⟨es,clock,hh,hl,hst⟩:=S.atX hi
 have hkeys:((es.map (mkE ek ev)).toArray.toList).map (·.key)=(l.map (·.1)).map ek:=by
  rw [← hl]; simp [mkE,Function.comp_def]
 have hf:=K.find a _ _ hkeys w
 have hgo:(getObj m).run P w=.ok (mapO ek ev es clock) w:=by
  simp only [getObj,Sem.run,hh,mapO]
 have hlt:=(Array.getElem?_eq_some_iff.1 hh).1
 have hset:∀ o,(setObj m o).run P w=.ok () (setB w m o):=by
  intro o
  simp only [setObj,Sem.run,hh,mapO]
  rfl
 have fin:∀ (es' :List (Nat×κ×ν)) (c' :Nat),es'.map (·.2)=putL l a v→Stamped es' c' →(execOp (evn n e) ⟨none,.mapUpdate t x y z,ty,ps,af,none⟩).run P w=.ok .skip (setB w m (mapO ek ev es' c'))→
  wpA ro P full Q (⟨none,.mapUpdate t x y z,ty,ps,af,none⟩::rest) (E n e d) w:=by
  intro es' c' h1 h2 h3
  refine op_skip rfl (fun _ h=>by cases h) h3 (h _ (S.turn hi (y:=mp ek ev m (putL l a v)) ⟨es',c',?_,h1,h2⟩ (fun b hb=>.inl hb) rfl rfl rfl (by simp [setB]) (fun b hb hne=>?_)))
  ·simp [setB,hlt]
  ·have hne' :b≠m:=hne
   show (w.heap.setIfInBounds m _)[b]? =_
   rw [Array.getElem?_setIfInBounds_ne (fun h=>hne' h.symm)]
 cases hfi:(l.map (·.1)).findIdx? (·==a) with
 | none=>
   rw [hfi] at hf
   refine fin (es++[(clock,a,v)]) (clock+1) (by rw [putL_none hfi]; simp [hl]) ⟨?_,?_⟩ ?_
   ·rw [List.map_append,List.nodup_append]
    refine ⟨hst.1,by simp,fun x hx y hy=>?_⟩
    simp at hy; subst hy
    obtain ⟨z,hz,rfl⟩:=List.mem_map.1 hx
    have:=hst.2 z hz
    omega
   ·intro x hx
    rcases List.mem_append.1 hx with h | h
    ·have:=hst.2 x h; omega
    ·simp at h; subst h; simp
   ·simp only [execOp,hx,hy,hz,Instr.mapUpdate,Sem.run_bind,run_und (mpt_und hT),Result.andThen_ok,hgo,mapO,K.check]
    simp at hf ⊢
    simp [hf,hset,mkE]
 | some j=>
   have hj:j < l.length:=by
    have:=List.findIdx?_eq_some_iff_findIdx_eq.1 hfi
    simpa using this.1
   have hje:j < es.length:=by rw [← hl] at hj; simpa using hj
   have hkj:l[j].1=a:=by
    have:=(List.findIdx?_eq_some_iff_getElem.1 hfi).2.1
    simpa using this
   have hke:es[j].2.1=a:=by subst hl; simpa using hkj
   rw [hfi] at hf
   refine fin (es.set j (es[j].1,a,v)) clock (by rw [putL_some hfi,← hl]; simp [List.map_set]) ⟨?_,?_⟩ ?_
   ·have:(es.set j (es[j].1,a,v)).map (·.1)=es.map (·.1):=by
     rw [List.map_set]
     exact List.ext_getElem (by simp) fun i h1 h2=>by
      rw [List.getElem_set]; split
      ·rename_i hh; subst hh; simp
      ·rfl
    rw [this]; exact hst.1
   ·intro x hx
    rcases List.mem_or_eq_of_mem_set hx with h | h
    ·exact hst.2 x h
    ·subst h; exact hst.2 es[j] (List.getElem_mem hje)
   ·have hkey:(((es.map (mkE ek ev)).toArray[j]?).map (·.key)).getD (ek a)=ek a:=by
     simp [hje,mkE,hke]
    have hmod:((es.map (mkE ek ev)).toArray.modify j fun x=>{ x with key:=ek a,val:=ev v })=((es.set j (es[j].1,a,v)).map (mkE ek ev)).toArray:=by
     refine Array.ext (by simp) fun i h1 h2=>?_
     simp only [Array.getElem_modify,List.getElem_toArray,List.getElem_map,List.getElem_set]
     split
     ·rename_i hh; subst hh; rfl
     ·rfl
    simp only [execOp,hx,hy,hz,Instr.mapUpdate,Sem.run_bind,run_und (mpt_und hT),Result.andThen_ok,hgo,mapO,K.check]
    simp only [Option.map_some] at hf
    rw [hf]
    simp only [Result.andThen_ok,hkey,Instr.keyThatStays,K.bits,if_true,Sem.run_pure,hmod,hset,Sem.run_bind]
def itO (m clock:Nat) (done:List (Nat×κ×ν)):Obj:=.mapIter (some m) clock (done.map (·.1)).toArray clock
omit [DecidableEq κ] in
theorem o_range {t kt el i m clock:Nat}{x:Operand}{es:List (Nat×κ×ν)} (hx:evn n e x=.map (some m)) (hT:mptOf P t=some (kt,el)) (hm:w.heap[m]? =some (mapO ek ev es clock)) (S:St w0 C w X L)
 (h:∀ r w',r=w.heap.size→St w0 C w' (bx r (itO m clock ([]:List (Nat×κ×ν)))::X) L→wpA ro P full Q rest (E n (upd e i (.pointer (some ⟨r,0,none⟩))) d) w'):
 wpA ro P full Q (⟨some i,.range t x,ty,ps,af,none⟩::rest) (E n e d) w:=by
 have hgo:(getObj m).run P w=.ok (mapO ek ev es clock) w:=by
  simp only [getObj,Sem.run,hm,mapO]
 refine op_val (v:=.pointer (some ⟨w.heap.size,0,none⟩)) (w' :=w.alloc (itO m clock ([]:List (Nat×κ×ν)))) rfl (fun _ h=>by cases h) ?_ (h _ _ rfl (S.alloc _))
 simp [execOp,Instr.range,hx,run_und (mpt_und hT),hgo,mapO,itO]
theorem run_pick {P:Program}{w:World} (n:Nat) (h:0 < n):∃ k w',k < n∧(w' =w∨w' =w.drew)∧(choose (.mapNext n)).run P w=.ok k w' :=by
 rw [run_choose]
 by_cases h1:n≤1
 ·exact ⟨0,w,h,.inl rfl,by simp [Question.forced,h1]⟩
 ·exact ⟨w.tape w.drawn (.mapNext n) % n,w.drew,Nat.mod_lt _ h,.inr rfl,by simp [Question.forced,h1,Question.cut]⟩
omit [DecidableEq κ] in
theorem next_left {es done:List (Nat×κ×ν)}{clock:Nat} (hst:Stamped es clock):
 ((es.map (mkE ek ev)).toArray.filter fun x=>!(done.map (·.1)).toArray.contains x.born)=((es.filter fun y=>!(done.map (·.1)).contains y.1).map (mkE ek ev)).toArray∧
 ((((es.filter fun y=>!(done.map (·.1)).contains y.1).map (mkE ek ev)).toArray.filter fun x=>decide (x.born < clock))=((es.filter fun y=>!(done.map (·.1)).contains y.1).map (mkE ek ev)).toArray)∧
 ((((es.filter fun y=>!(done.map (·.1)).contains y.1).map (mkE ek ev)).toArray.filter fun x=>decide (x.born≥clock))=#[]):=by
 refine ⟨?_,?_,?_⟩
 ·simp only [List.filter_toArray,List.filter_map]
  congr 2
  refine List.filter_congr fun y _=>?_
  simp only [Function.comp,mkE,List.contains_toArray]
 ·simp only [List.filter_toArray,List.filter_map]
  congr 2
  refine List.filter_eq_self.2 fun y hy=>?_
  exact decide_eq_true (hst.2 y (List.mem_filter.1 hy).1)
 ·simp only [List.filter_toArray,List.filter_map]
  rw [List.filter_eq_nil_iff.2]
  ·rfl
  ·intro y hy
   have:=hst.2 y (List.mem_filter.1 hy).1
   show ¬(decide (y.1≥clock)=true)
   rw [decide_eq_true_iff]
   omega
omit [DecidableEq κ] in
theorem o_next {i r m clock k:Nat}{x:Operand}{es done:List (Nat×κ×ν)} (hx:evn n e x=.pointer (some ⟨r,0,none⟩)) (hm:w.heap[m]? =some (mapO ek ev es clock)) (hst:Stamped es clock)
 (S:St w0 C w X L) (hi:X[k]? =some (bx r (itO m clock done)))
 (h1:∀ (y:Nat×κ×ν) (w' :World),y∈es→y.1 ∉ done.map (·.1)→St w0 C w' (X.set k (bx r (itO m clock (done++[y])))) L→wpA ro P full Q rest (E n (upd e i (.tuple #[.bool true,ek y.2.1,ev y.2.2])) d) w')
 (h0:∀ w',(∀ y∈es,y.1∈done.map (·.1))→St w0 C w' X L→wpA ro P full Q rest (E n (upd e i (.tuple #[.bool false])) d) w'):
 wpA ro P full Q (⟨some i,.next x false,ty,ps,af,none⟩::rest) (E n e d) w:=by
 have hgr:(getObj r).run P w=.ok (itO m clock done) w:=by
  have:=S.at hi
  simp only [getObj,Sem.run,this,itO]
 have hgm:(getObj m).run P w=.ok (mapO ek ev es clock) w:=by
  simp only [getObj,Sem.run,hm,mapO]
 obtain ⟨e1,e2,e3⟩:=next_left (ek:=ek) (ev:=ev) (done:=done) hst
 have hall:(!(done.map (·.1)).toArray.isEmpty&&!((es.map (mkE ek ev)).toArray).isEmpty&&((es.map (mkE ek ev)).toArray).all fun x=>decide (x.born≥clock))=false:=by
  cases es with
  | nil=>simp
  | cons y es=>
    have hy:=hst.2 y (List.mem_cons_self ..)
    have:((((y::es).map (mkE ek ev)).toArray).all fun x=>decide (x.born≥clock))=false:=by
     simp [mkE]; intro h; omega
    rw [this]; simp
 rcases hlf:es.filter (fun y=>!(done.map (·.1)).contains y.1) with _ | ⟨z,lf⟩
 ·rw [hlf] at e1 e2 e3
  refine op_val (v:=.tuple #[.bool false]) rfl (fun _ h=>by cases h) ?_ (h0 w (fun y hy=>?_) S)
  ·simp only [execOp,hx,Instr.next,Sem.run_bind,hgr,Result.andThen_ok,itO,hgm,mapO,hall,e1,e2,e3]
   simp [Question.forced]
  ·have:=List.filter_eq_nil_iff.1 hlf y hy
   simpa using this
 ·have hlen:0 < (((z::lf).map fun y=>some (mkE ek ev y)).toArray).size:=by simp
  obtain ⟨j,w',hj0,hw',hrun⟩:=run_pick (P:=P) (w:=w) _ hlen
  have hj:j < (z::lf).length:=by simpa using hj0
  have hzm:(z::lf)[j]∈es.filter (fun y=>!(done.map (·.1)).contains y.1):=by rw [hlf]; exact List.getElem_mem hj
  obtain ⟨hy1,hy2⟩:=List.mem_filter.1 hzm
  have S' :St w0 C w' X L:=by
   rcases hw' with rfl | rfl
   ·exact S
   ·exact S.drew
  have hset:(setObj r (itO m clock (done++[(z::lf)[j]]))).run P w' =.ok () (setB w' r (itO m clock (done++[(z::lf)[j]]))):=by
   have:=S'.at hi
   simp only [setObj,Sem.run,this,itO]
   rfl
  refine op_val (v:=.tuple #[.bool true,ek (z::lf)[j].2.1,ev (z::lf)[j].2.2]) (w' :=setB w' r (itO m clock (done++[(z::lf)[j]]))) rfl (fun _ h=>by cases h) ?_ (h1 _ _ hy1 (by simpa using hy2) (S'.setB hi))
  rw [hlf] at e1 e2 e3
  have hcand:((if ((List.map (mkE ek ev) (z::lf)).toArray).isEmpty=true then #[none] else #[])++((List.map (mkE ek ev) (z::lf)).toArray++#[]).map some:Array (Option MapEntry))=((z::lf).map fun y=>some (mkE ek ev y)).toArray:=by simp
  have hseen:(List.map (fun x=>x.1) done).toArray.push (z::lf)[j].1=(List.map (fun x=>x.1) (done++[(z::lf)[j]])).toArray:=by simp
  simp only [execOp,hx,Instr.next,Sem.run_bind,hgr,Result.andThen_ok,itO,hgm,mapO,hall,e1,e2,e3,hcand,hrun,Bool.false_eq_true,if_false]
  have hget:((z::lf).map fun y=>some (mkE ek ev y)).toArray[j]? =some (some (mkE ek ev (z::lf)[j])):=by
   rw [List.getElem?_toArray,List.getElem?_map,List.getElem?_eq_getElem hj]; rfl
  have hset' :(setObj r (.mapIter (some m) clock ((List.map (fun x=>x.1) done).toArray.push (mkE ek ev (z::lf)[j]).born) clock)).run P w' =.ok () (setB w' r (itO m clock (done++[(z::lf)[j]]))):=by
   rw [show (mkE ek ev (z::lf)[j]).born=(z::lf)[j].1 from rfl,hseen]; exact hset
  rw [hget]
  simp only [Sem.run_bind,hset',Result.andThen_ok,Sem.run_pure]
  rfl
omit [DecidableEq κ] in
theorem o_entry {i r m clock k:Nat}{x:Operand}{es done:List (Nat×κ×ν)}{y:Nat×κ×ν} (hx:evn n e x=.pointer (some ⟨r,0,none⟩)) (hm:w.heap[m]? =some (mapO ek ev es clock)) (hst:Stamped es clock) (hy:y∈es)
 (S:St w0 C w X L) (hi:X[k]? =some (bx r (itO m clock (done++[y]))))
 (h:wpA ro P full Q rest (E n (upd e i (.tuple #[ek y.2.1,ev y.2.2])) d) w):
 wpA ro P full Q (⟨some i,.entry x,ty,ps,af,none⟩::rest) (E n e d) w:=by
 have hgr:(getObj r).run P w=.ok (itO m clock (done++[y])) w:=by
  have:=S.at hi
  simp only [getObj,Sem.run,this,itO]
 have hgm:(getObj m).run P w=.ok (mapO ek ev es clock) w:=by
  simp only [getObj,Sem.run,hm,mapO]
 have hfind:(es.map (mkE ek ev)).toArray.find? (fun x=>x.born==y.1)=some (mkE ek ev y):=by
  rw [List.find?_toArray]
  have hnd:=hst.1
  clear hm hst hgm
  induction es with
  | nil=>cases hy
  | cons z es ih=>
    simp only [List.map_cons,List.nodup_cons] at hnd
    rcases List.mem_cons.1 hy with rfl | h
    ·simp [mkE]
    ·have hne:(z.1==y.1)=false:=by
      rw [beq_eq_false_iff_ne]
      intro hh
      exact hnd.1 (hh▸List.mem_map.2 ⟨y,h,rfl⟩)
     simp only [List.map_cons,List.find?_cons]
     have:((mkE ek ev z).born==y.1)=false:=hne
     simp only [this]
     exact ih h hnd.2
 refine op_val (v:=.tuple #[ek y.2.1,ev y.2.2]) rfl (fun _ h=>by cases h) ?_ h
 have hback:(List.map (fun x=>x.1) (done++[y])).toArray.back? =some y.1:=by simp
 simp only [execOp,hx,Instr.entry,Sem.run_bind,hgr,Result.andThen_ok,itO,hback,hgm,mapO]
 simp [hfind,mkE]
end
end Go.Fx
namespace Go.Fx
open Go
section
variable {P:Program}
theorem run_part1 {t:TypeId}{cs:Array Value}{o:Nat}{v:Value} (hT:aggOf P t=some false) (hv:cs[o]? =some v) (w:World):(part t cs o).run P w=.ok v w:=by
 simp [part,run_isAgg hT,hv]
theorem run_checkKey_int {t:TypeId}{b:Bool}{k:Nat} (hi:P.underlying t=some (.int .i64)) (x:Int) (w:World):(Instr.checkKey b (k+1) t (.int .i64 x)).run P w=.ok () w:=by
 simp [Instr.checkKey,run_und hi]
theorem run_equalIn_int {t:TypeId}{k:Nat} (hi:P.underlying t=some (.int .i64)) (x y:Int) (w:World):(Op.equalIn (k+1) t (.int .i64 x) (.int .i64 y)).run P w=.ok (x==y) w:=by
 simp [Op.equalIn,run_und hi]
def ekP (p:Int×Int):Value:=.agg #[.int .i64 p.1,.int .i64 p.2]
theorem run_equal_pair {kt ft : TypeId} {f0 f1 : Field} (hu : P.underlying kt = some (.struct #[f0, f1])) (n0 : f0.name ≠ "_") (n1 : f1.name ≠ "_") (t0 : f0.type = ft) (t1 : f1.type = ft) (o0 : f0.offset = 0) (o1 : f1.offset = 1)
 (hi:P.underlying ft=some (.int .i64)) (hs:P.stoodInHeld kt=false) (p q:Int×Int) (w:World):(Op.equal kt (ekP p) (ekP q)).run P w=.ok (p.1==q.1&&p.2==q.2) w:=by
 have hag:aggOf P ft=some false:=by simp [aggOf,hi]
 simp only [Op.equal,Op.maxDepth,ekP]
 unfold Op.equalIn
 have q1:∀ (a b:Int) (w:World),(Op.equalIn 9999 ft (.int .i64 a) (.int .i64 b)).run P w=.ok (a==b) w:=run_equalIn_int (k:=9998) hi
 have q2:∀ (a b:Int) (w:World),(part ft #[.int .i64 a,.int .i64 b] 0).run P w=.ok (.int .i64 a) w:=fun a b w=>run_part1 hag rfl w
 have q3:∀ (a b:Int) (w:World),(part ft #[.int .i64 a,.int .i64 b] 1).run P w=.ok (.int .i64 b) w:=fun a b w=>run_part1 hag rfl w
 simp [run_und hu,hs,n0,n1,t0,t1,o0,o1,q1,q2,q3]
 by_cases h1:p.1=q.1 <;> by_cases h2:p.2=q.2 <;> simp [h1,h2]
theorem run_findAsk {κ:Type} [DecidableEq κ] {kt:TypeId}{ek:κ→Value} (heq:∀ (a b:κ) (w:World),(Op.equal kt (ek a) (ek b)).run P w=.ok (decide (a=b)) w) (a:κ):∀ (l:List MapEntry) (ks:List κ) (i:Nat),l.map (·.key)=ks.map ek→∀ w:World,
 (Instr.findAsking kt (ek a) l i).run P w=.ok ((ks.findIdx? (·==a)).map fun j=>(j+i,(l.getD j default).val)) w
 | [],[],i,_,w=>by simp [Instr.findAsking]
 | [],k::ks,i,h,w=>by simp at h
 | x::l,[],i,h,w=>by simp at h
 | x::l,k::ks,i,h,w=>by
   simp only [List.map_cons,List.cons.injEq] at h
   have ih:=run_findAsk heq a l ks (i+1) h.2 w
   simp only [Instr.findAsking,Sem.run_bind,h.1,heq,Result.andThen_ok]
   by_cases hk:a=k
   ·subst hk
    simp [List.findIdx?_cons]
   ·have hk' :(k==a)=false:=beq_eq_false_iff_ne.2 fun h=>hk h.symm
    simp only [hk,decide_false,Bool.false_eq_true,if_false,ih,List.findIdx?_cons,hk']
    cases ks.findIdx? (·==a) <;> simp [Nat.add_assoc,Nat.add_comm 1 i]
theorem keyPair {kt ft : TypeId} {f0 f1 : Field} (hu : P.underlying kt = some (.struct #[f0, f1])) (n0 : f0.name ≠ "_") (n1 : f1.name ≠ "_") (t0 : f0.type = ft) (t1 : f1.type = ft) (o0 : f0.offset = 0) (o1 : f1.offset = 1)
 (hi:P.underlying ft=some (.int .i64)) (hs:P.stoodInHeld kt=false):KeyL P kt ekP where
 check b a w:=by
  have hag:aggOf P ft=some false:=by simp [aggOf,hi]
  have q0:∀ (a:Int) (w:World),(Instr.checkKey b 9999 ft (.int .i64 a)).run P w=.ok () w:=fun a w=>run_checkKey_int (k:=9998) hi a w
  have q2:∀ (a b:Int) (w:World),(part ft #[.int .i64 a,.int .i64 b] 0).run P w=.ok (.int .i64 a) w:=fun a b w=>run_part1 hag rfl w
  have q3:∀ (a b:Int) (w:World),(part ft #[.int .i64 a,.int .i64 b] 1).run P w=.ok (.int .i64 b) w:=fun a b w=>run_part1 hag rfl w
  unfold Instr.checkKey
  simp [run_und hu,ekP,n0,n1,t0,t1,o0,o1,q0,q2,q3]
 find a l ks h w:=by
  have heq:∀ (a b:Int×Int) (w:World),(Op.equal kt (ekP a) (ekP b)).run P w=.ok (decide (a=b)) w:=fun a b w=>by
   rw [run_equal_pair hu n0 n1 t0 t1 o0 o1 hi hs]
   congr 1
   obtain ⟨a1,a2⟩:=a
   obtain ⟨b1,b2⟩:=b
   by_cases h1:a1=b1 <;> by_cases h2:a2=b2 <;> simp [h1,h2]
  have hf:=run_findAsk heq a l ks 0 h w
  unfold Instr.findKey
  simp only [Sem.run_bind,run_und hu,Result.andThen_ok]
  cases l with
  | nil=>
    cases ks with
    | nil=>simp [Instr.findNow]
    | cons k ks=>simp at h
  | cons x l=>
    have:Instr.findNow (.struct #[f0,f1]) (ekP a) (x::l) 0=none:=by simp [Instr.findNow,Instr.sameNow]
    rw [this]
    simpa using hf
 bits a:=by
  unfold Instr.sameBits ekP
  simp [Instr.sameBits]
end
end Go.Fx
namespace Go.Fx
open Go
def YieldsTo (P:Program) (l:Nat) (args:Array Value) (w:World) (R:Bool→World→Prop):Prop:=
 YieldAt (Fr none) 0 P l args w fun en w' =>∃ r,en=.returned (.bool r)∧R r w'
def all (X:List Asr):Asr where
 fp b:=∃ x∈X,x.fp b
 ok w:=(∀ x∈X,x.ok w)∧X.Pairwise (fun (p q:Asr)=>∀ b,p.fp b→¬q.fp b)
 mono w w' h k:=⟨fun x hx=>x.mono _ _ (h.1 x hx) fun b hb=>k b ⟨x,hx,hb⟩,h.2⟩
 inb w b h hb:=by obtain ⟨x,hx,hb⟩:=hb; exact x.inb _ _ (h.1 x hx) hb
def IterAt (P:Program) (f:Nat) (first caps:Array Value) (xs:List (Array Value)) (w:World) (K:List Asr):Prop:=
 ∀ (l:Nat) (G:Nat→Asr→Prop) (Gx:Asr→Prop) (A0:Asr),G 0 A0→A0.ok w→(∀ p∈K,p.ok w)→(∀ p∈K,∀ b,p.fp b→¬A0.fp b)→
   (∀ i xa A w2,xs[i]? =some xa→G i A→A.ok w2→Keep A0.fp w w2→(∀ b,A.fp b→A0.fp b∨w.heap.size≤b)→
    YieldsTo P l xa w2 fun r w3=>Keep A.fp w2 w3∧∃ A',A'.ok w3∧(∀ b,A'.fp b→A.fp b∨w2.heap.size≤b)∧((r=true∧G (i+1) A')∨(r=false∧Gx A')))→
   Calls P f (first++#[.func (.yield l) #[] #[]]++caps) w fun en w' =>∃ v,en=.returned v∧Keep A0.fp w w' ∧∃ A',A'.ok w' ∧(∀ b,A'.fp b→A0.fp b∨w.heap.size≤b)∧(G xs.length A' ∨Gx A')
section
variable {w0 w w' :World}{C:Nat→Prop}{X L:List Asr}
theorem St.pick (S:St w0 C w X L) (is:List Nat) (hn:is.Nodup) {X' :List Asr} (hX:is.filterMap (X[·]?)=X') {k:Nat}{L' :List Asr} (hL:L.drop k=L'):St w0 C w X' L' :=by
 subst hX hL
 have hmem:∀ x∈is.filterMap (X[·]?),x∈X:=fun x hx=>by
  obtain ⟨i,_,hi⟩:=List.mem_filterMap.1 hx
  exact List.mem_of_getElem? hi
 refine ⟨S.keep,fun x hx=>S.xs x (hmem x hx),fun p hp=>S.ps p (List.mem_of_mem_drop hp),?_,fun x hx p hp=>S.dp x (hmem x hx) p (List.mem_of_mem_drop hp),fun x hx=>S.own x (hmem x hx)⟩
 have hdx:=S.dx
 clear hmem
 induction is with
 | nil=>exact List.Pairwise.nil
 | cons i is ih=>
   rw [List.nodup_cons] at hn
   rw [List.filterMap_cons]
   cases hi:X[i]? with
   | none=>exact ih hn.2
   | some x=>
     refine List.Pairwise.cons (fun y hy b h1 h2=>?_) (ih hn.2)
     obtain ⟨j,hj,hjy⟩:=List.mem_filterMap.1 hy
     obtain ⟨hil,rfl⟩:=List.getElem?_eq_some_iff.1 hi
     obtain ⟨hjl,rfl⟩:=List.getElem?_eq_some_iff.1 hjy
     rcases Nat.lt_trichotomy i j with h | h | h
     ·exact List.pairwise_iff_getElem.1 hdx i j hil hjl h b h1 h2
     ·exact hn.1 (h▸hj)
     ·exact List.pairwise_iff_getElem.1 hdx j i hjl hil h b h2 h1
theorem St.allX (S:St w0 C w X L):(all X).ok w:=⟨S.xs,S.dx⟩
theorem St.startX (A:Asr) (hA:A.ok w) (hL:∀ p∈L,p.ok w) (hd:∀ p∈L,∀ b,p.fp b→¬A.fp b):St w A.fp w [A] L:=
 ⟨Keep.refl _ _,fun x hx=>by rw [List.mem_singleton.1 hx]; exact hA,hL,List.pairwise_singleton _ _,fun x hx p hp b h1 h2=>by rw [List.mem_singleton.1 hx] at h1; exact hd p hp b h2 h1,fun x hx b hb=>by rw [List.mem_singleton.1 hx] at hb; exact .inr hb⟩
theorem St.perm (S:St w0 C w X L) {X' :List Asr} (h:X.Perm X'):St w0 C w X' L:=
 ⟨S.keep,fun x hx=>S.xs x (h.mem_iff.2 hx),S.ps,(h.pairwise_iff (fun {x y} hxy b h1 h2=>hxy b h2 h1)).1 S.dx,fun x hx=>S.dp x (h.mem_iff.2 hx),fun x hx=>S.own x (h.mem_iff.2 hx)⟩
theorem St.frame {X1 X2:List Asr} (S:St w0 C w (X1++X2) L) {X' :List Asr} (hk:Keep (all X1).fp w w') (hok:(all X').ok w') (hf:∀ b,(all X').fp b→(all X1).fp b∨w.heap.size≤b):St w0 C w' (X' ++X2) L:=by
 have hdx:=List.pairwise_append.1 S.dx
 have hne:∀ z∈X2,∀ b,z.fp b→¬(all X1).fp b:=fun z hz b hb ⟨x,hx,hxb⟩=>hdx.2.2 x hx z hz b hxb hb
 have hnp:∀ p∈L,∀ b,p.fp b→¬(all X1).fp b:=fun p hp b hb ⟨x,hx,hxb⟩=>S.dp x (List.mem_append_left _ hx) p hp b hxb hb
 refine ⟨⟨hk.os.trans S.keep.os,hk.tape.trans S.keep.tape,hk.output.trans S.keep.output,Nat.le_trans S.keep.size hk.size,fun b hb hC=>?_⟩,fun x hx=>?_,fun p hp=>?_,List.pairwise_append.2 ⟨hok.2,hdx.2.1,fun x hx z hz b h1 h2=>?_⟩,fun x hx p hp b hxb hpb=>?_,fun x hx b hxb=>?_⟩
 ·refine (hk.block b (Nat.lt_of_lt_of_le hb S.keep.size) fun ⟨x,hx,hxb⟩=>?_).trans (S.keep.block b hb hC)
  rcases S.own x (List.mem_append_left _ hx) b hxb with h | h
  ·omega
  ·exact hC h
 ·rcases List.mem_append.1 hx with h | h
  ·exact hok.1 x h
  ·exact x.mono _ _ (S.xs x (List.mem_append_right _ h)) fun b hb=>hk.block b (x.inb _ _ (S.xs x (List.mem_append_right _ h)) hb) (hne x h b hb)
 ·exact p.mono _ _ (S.ps p hp) fun b hb=>hk.block b (p.inb _ _ (S.ps p hp) hb) (hnp p hp b hb)
 ·rcases hf b ⟨x,hx,h1⟩ with h | h
  ·exact hne z hz b h2 h
  ·have:=z.inb _ _ (S.xs z (List.mem_append_right _ hz)) h2; omega
 ·rcases List.mem_append.1 hx with h | h
  ·rcases hf b ⟨x,h,hxb⟩ with h | h
   ·exact hnp p hp b hpb h
   ·have:=p.inb _ _ (S.ps p hp) hpb; omega
  ·exact S.dp x (List.mem_append_right _ h) p hp b hxb hpb
 ·rcases List.mem_append.1 hx with h | h
  ·rcases hf b ⟨x,h,hxb⟩ with ⟨y,hy,hyb⟩ | h
   ·exact S.own y (List.mem_append_left _ hy) b hyb
   ·exact .inl (Nat.le_trans S.keep.size h)
  ·exact S.own x (List.mem_append_right _ h) b hxb
theorem St.whole (S:St w0 C w X L) {X' :List Asr} (hk:Keep (all X).fp w w') (hok:(all X').ok w') (hf:∀ b,(all X').fp b→(all X).fp b∨w.heap.size≤b):St w0 C w' X' L:=by
 refine ⟨⟨hk.os.trans S.keep.os,hk.tape.trans S.keep.tape,hk.output.trans S.keep.output,Nat.le_trans S.keep.size hk.size,fun b hb hC=>?_⟩,hok.1,fun p hp=>?_,hok.2,fun x hx p hp b hxb hpb=>?_,fun x hx b hxb=>?_⟩
 ·refine (hk.block b (Nat.lt_of_lt_of_le hb S.keep.size) fun ⟨x,hx,hxb⟩=>?_).trans (S.keep.block b hb hC)
  rcases S.own x hx b hxb with h | h
  ·omega
  ·exact hC h
 ·refine p.mono _ _ (S.ps p hp) fun b hb=>hk.block b (p.inb _ _ (S.ps p hp) hb) fun ⟨x,hx,hxb⟩=>S.dp x hx p hp b hxb hb
 ·rcases hf b ⟨x,hx,hxb⟩ with ⟨y,hy,hyb⟩ | h
  ·exact S.dp y hy p hp b hyb hpb
  ·have:=p.inb _ _ (S.ps p hp) hpb; omega
 ·rcases hf b ⟨x,hx,hxb⟩ with ⟨y,hy,hyb⟩ | h
  ·exact S.own y hy b hyb
  ·exact .inl (Nat.le_trans S.keep.size h)
end
section
variable {ro:Option Nat}{P:Program}{full:Array Oper}{Q:Exit→Act→World→Prop}{n:Nat}{d:List Deferred}{e:Env}{w w0:World}{C:Nat→Prop}{X L:List Asr}
variable {rest:List Oper}{ty:TypeId}{ps:String}{af:Array Edge}
theorem roundIn_of {F F' :Fence} (h1:∀ f,F'.fn f) (h2:F'.depth=none) (h3:F'.alive=false) {k:Nat}{l f:Nat}{tmps:Array Value}{assign body:Code}{w:World}{R:Ending→World→Prop} (hF:F.depth=none) (h:RoundIn F k P l f tmps assign body w R):RoundIn F' k P l f tmps assign body w R:=by
 refine ⟨h1 f,fun c cs _=>?_⟩
 obtain ⟨e,w',r,s⟩:=h.2 c cs (fun d hd=>by rw [hF] at hd; cases hd)
 refine ⟨e,w',r,?_⟩
 have hfen:∀ m:Machine,Machine.fenced P F' m:=by
  intro m g _
  exact ⟨fun h=>by simp [h3] at h,Or.inl (h1 _),fun _ _=>h1 _,fun _ h=>by simp [h2] at h⟩
 cases e with
 | returned v=>exact StepsIn.mono (fun m _=>hfen m) s
 | panicked c=>exact StepsIn.mono (fun m _=>hfen m) s
 | outgrown=>exact s
theorem o_yield {i l:Nat}{g:Operand}{aa:Array Operand}{ts:Array TypeId}{args:List Value}{R:Bool→World→Prop} (hg:evn n e g=.func (.yield l) #[] #[]) (ha:aa.toList.map (evn n e)=args) (hy:YieldsTo P l args.toArray w R)
 (h:∀ r w',R r w' →wpA ro P full Q rest (E n (upd e i (.bool r)) d) w'):wpA ro P full Q (⟨some i,.call ⟨.value g,aa,ts⟩,ty,ps,af,none⟩::rest) (E n e d) w:=by
 obtain ⟨fn,tmps,assign,body,hrun,hR⟩:=hy
 have ha' :aa.map (evn n e)=args.toArray:=by rw [← ha]; exact Array.ext' (by simp)
 have hr:(execOp (evn n e) ⟨some i,.call ⟨.value g,aa,ts⟩,ty,ps,af,none⟩).run P w=.ok (.round l fn tmps assign body) w:=by
  simp [execOp,resolve,hg,ha',Deferred.ofValue,invoke,hrun]
 unfold wpA
 rw [if_pos (by simp [Region.wanted])]
 refine ⟨fun _ _=>trivial,?_⟩
 rw [Oper.semAt_eq _ _ _ (fun _ h=>by cases h),E_eval,hr,Oper.uponIn_round]
 refine ⟨fun h=>by simp at h,(roundIn_of (fun _=>trivial) rfl rfl rfl hR).mono ?_⟩
 rintro en w2 ⟨r,rfl,hR⟩
 have:=h r w2 hR
 rw [show upd e i (.bool r)=updo e (some i) (.bool r) from rfl,← E_put] at this
 exact this
theorem o_yieldX {i l k j:Nat}{g:Operand}{aa:Array Operand}{ts:Array TypeId}{args:List Value}{G:Nat→Asr→Prop}{Gx:Asr→Prop}{A:Asr} (hg:evn n e g=.func (.yield l) #[] #[]) (ha:aa.toList.map (evn n e)=args)
 (S:St w0 C w X L) (hj:X[j]? =some A)
 (hy:YieldsTo P l args.toArray w fun r w3=>Keep A.fp w w3∧∃ A',A'.ok w3∧(∀ b,A'.fp b→A.fp b∨w.heap.size≤b)∧((r=true∧G (k+1) A')∨(r=false∧Gx A')))
 (h1:∀ A' w',G (k+1) A' →St w0 C w' (X.set j A') L→wpA ro P full Q rest (E n (upd e i (.bool true)) d) w')
 (h0:∀ A' w',Gx A' →St w0 C w' (X.set j A') L→wpA ro P full Q rest (E n (upd e i (.bool false)) d) w'):wpA ro P full Q (⟨some i,.call ⟨.value g,aa,ts⟩,ty,ps,af,none⟩::rest) (E n e d) w:=by
 refine o_yield hg ha hy fun r w' ⟨hk,A',hok,hf,hr⟩=>?_
 have S' :St w0 C w' (X.set j A') L:=S.turn hj hok hf hk.os hk.tape hk.output hk.size fun b hb hne=>hk.block b hb hne
 rcases hr with ⟨rfl,hG'⟩ | ⟨rfl,hG'⟩
 ·exact h1 A' w' hG' S'
 ·exact h0 A' w' hG' S'
end
section
variable {ro:Option Nat}{P:Program}{Q:Exit→Act→World→Prop}{n:Nat}{d:List Deferred}{e:Env}{w w0:World}{C:Nat→Prop}{L:List Asr}
variable {α:Type}
def recL (fn:Nat) (tmps:Array Value) (params:Array Tmp) (assign body:Code) (D:Nat) (s:LoopState) (p:Option Code):Loop:={ state:=s,pending:=p,fn,tmps,params,assign,body,defers:=D }
def upl (e:Env) (ps:List Nat) (xs:List Value):Env:=(ps.zip xs).foldl (fun e p=>upd e p.1 p.2) e
theorem upl_E (n:Nat) (d:List Deferred) (ps:List Nat):∀ (xs:List Value) (e:Env),((ps.zip xs).foldl (fun (t:Array Value) (p:Nat×Value)=>t.setIfInBounds p.1 p.2) (E n e d).tmps)=(E n (upl e ps xs) d).tmps:=by
 induction ps with
 | nil=>intro xs e; rfl
 | cons p ps ih=>
   intro xs e
   cases xs with
   | nil=>rfl
   | cons x xs=>
     have h:=congrArg Act.tmps (E_put n e d (some p) x)
     simp only [Act.put,updo] at h
     simp only [List.zip_cons_cons,List.foldl_cons,upl]
     rw [h]
     exact ih xs (upd e p x)
def Gn (l:Nat) (rc:LoopState→Option Code→Loop) (I:Nat→α→Prop) (X:α→List Asr) (i:Nat) (A:Asr):Prop:=∃ y,I i y∧A=all (bx l (.loop (rc .ready none))::X y)
def Gj (l:Nat) (rc:LoopState→Option Code→Loop) (Ix:Code→α→Prop) (X:α→List Asr) (A:Asr):Prop:=∃ y c,Ix c y∧A=all (bx l (.loop (rc .done (some c)))::X y)
def RR (l:Nat) (rc:LoopState→Option Code→Loop) (I:Nat→α→Prop) (Ix:Code→α→Prop) (X:α→List Asr) (i:Nat) (w2:World) (A:Asr):Ending→World→Prop:=fun en w3=>
 ∃ r,en=.returned (.bool r)∧Keep A.fp w2 w3∧∃ A',A'.ok w3∧(∀ b,A'.fp b→A.fp b∨w2.heap.size≤b)∧((r=true∧Gn l rc I X (i+1) A')∨(r=false∧Gj l rc Ix X A'))
variable {l:Nat}{rc:LoopState→Option Code→Loop}{I:Nat→α→Prop}{Ix:Code→α→Prop}{X:α→List Asr}{i:Nat}{w2 w3:World}{A:Asr}{a:Act}
theorem run_getLoop {r:Loop} (h:w.heap[l]? =some (.loop r)):(Instr.getLoop l).run P w=.ok r w:=by
 have:(getObj l).run P w=.ok (.loop r) w:=by simp only [getObj,Sem.run,h]
 simp [Instr.getLoop,this]
theorem run_setLoop {r r' :Loop} (h:w.heap[l]? =some (.loop r)):(setObj l (.loop r')).run P w=.ok () (setB w l (.loop r')):=by
 simp only [setObj,Sem.run,h]; rfl
theorem rr_aux {y' :α}{o:Obj} (S:St w2 A.fp w3 (bx l o::X y') L) (o' :Obj):Keep A.fp w2 (setB w3 l o')∧(all (bx l o' ::X y')).ok (setB w3 l o')∧(∀ b,(all (bx l o' ::X y')).fp b→A.fp b∨w2.heap.size≤b):=by
 have S' :St w2 A.fp (setB w3 l o') (bx l o' ::X y') L:=S.setB (i:=0) rfl
 exact ⟨S'.keep,S'.allX,fun b ⟨x,hx,hb⟩=>(S'.own x hx b hb).symm⟩
theorem rr_next {fn D:Nat}{tmps:Array Value}{params:Array Tmp}{assign body:Code}{y' :α}{q:Option Code} (S:St w2 A.fp w3 (bx l (.loop (recL fn tmps params assign body D .busy q))::X y') L) (hI:I (i+1) y'):
 roundPost P l (RR l (recL fn tmps params assign body D) I Ix X i w2 A) .normal a w3:=by
 obtain ⟨h1,h2,h3⟩:=rr_aux S (.loop (recL fn tmps params assign body D .ready none))
 refine ⟨.bool true,setB w3 l (.loop (recL fn tmps params assign body D .ready none)),?_,true,rfl,h1,_,h2,h3,.inl ⟨rfl,y',hI,rfl⟩⟩
 simp [Instr.endRound,run_getLoop (S.at (i:=0) rfl),run_setLoop (S.at (i:=0) rfl),recL]
theorem rr_ret {fn D:Nat}{tmps:Array Value}{params:Array Tmp}{assign body:Code}{y' :α}{q:Option Code} (S:St w2 A.fp w3 (bx l (.loop (recL fn tmps params assign body D .busy q))::X y') L) (hI:Ix .ret y'):
 roundPost P l (RR l (recL fn tmps params assign body D) I Ix X i w2 A) .ret a w3:=by
 obtain ⟨h1,h2,h3⟩:=rr_aux S (.loop (recL fn tmps params assign body D .done (some .ret)))
 refine ⟨.bool false,setB w3 l (.loop (recL fn tmps params assign body D .done (some .ret))),?_,false,rfl,h1,_,h2,h3,.inr ⟨rfl,y',.ret,hI,rfl⟩⟩
 simp [Instr.endRound,run_getLoop (S.at (i:=0) rfl),run_setLoop (S.at (i:=0) rfl),recL]
theorem rr_exit {fn D id:Nat}{tmps:Array Value}{params:Array Tmp}{assign body:Code}{y' :α}{q:Option Code} (S:St w2 A.fp w3 (bx l (.loop (recL fn tmps params assign body D .busy q))::X y') L) (hI:Ix (.exit id) y'):
 roundPost P l (RR l (recL fn tmps params assign body D) I Ix X i w2 A) (.exit id) a w3:=by
 obtain ⟨h1,h2,h3⟩:=rr_aux S (.loop (recL fn tmps params assign body D .done (some (.exit id))))
 refine ⟨.bool false,setB w3 l (.loop (recL fn tmps params assign body D .done (some (.exit id)))),?_,false,rfl,h1,_,h2,h3,.inr ⟨rfl,y',.exit id,hI,rfl⟩⟩
 simp [Instr.endRound,run_getLoop (S.at (i:=0) rfl),run_setLoop (S.at (i:=0) rfl),recL]
theorem rr_begin {fn D k:Nat}{tmps:Array Value}{params:Array Tmp}{assign body:Code}{XX:List Asr}{q:Option Code}{K:World→Prop} (S:St w0 C w XX L) (hi:XX[k]? =some (bx l (.loop (recL fn tmps params assign body D .ready q))))
 (h:∀ w',St w0 C w' (XX.set k (bx l (.loop (recL fn tmps params assign body D .busy q)))) L→K w'):∃ w',(Instr.beginRound l).run P w=.ok () w' ∧K w' :=by
 refine ⟨setB w l (.loop (recL fn tmps params assign body D .busy q)),?_,h _ (S.setB hi)⟩
 simp [Instr.beginRound,run_getLoop (S.at hi),run_setLoop (S.at hi),recL]
def mark (D:Nat):List Deferred:=[{ target:=.collected D,args:=#[] }]
theorem run_endLoop {r:Loop} (h:w.heap[l]? =some (.loop r)) (hb:r.state≠.busy):(Instr.endLoop l).run P w=.ok r.pending (setB w l (.loop { r with state:=.exhausted })):=by
 have:(r.state==.busy)=false:=by cases hr:r.state <;> simp_all <;> rfl
 simp [Instr.endLoop,run_getLoop h,run_setLoop h]
 exact fun h=>absurd h hb
theorem c_range {g:Operand}{ps:Array Tmp}{assign body:Code}{f:Nat}{first caps:Array Value}{xs:List (Array Value)}{K X0:List Asr}
 (I:Nat→α→Prop) (Ix:Code→α→Prop) (X:α→List Asr) (y0:α) (hg:evn n e g=.func (.func f) first caps) (hF:funOf P f=true)
 (S:St w0 C w X0 L) (h0:I 0 y0) (hX:X y0=X0) (hit:∀ w',IterAt P f first caps xs w' K) (hK:∀ p∈K,p∈L)
 (round:∀ (fn l D i:Nat) (xa:Array Value) (y:α) (w2:World),xs[i]? =some xa→I i y→
  St w2 (all (bx l (.loop (recL fn (E n e d).tmps ps assign body D .ready none))::X y)).fp w2 (bx l (.loop (recL fn (E n e d).tmps ps assign body D .ready none))::X y) L→xa.size=ps.size∧
  assign.wpIn (Fr (some l)) 0 P (Exit.then (fun a₁ w₁=>∃ w₂,(Instr.beginRound l).run P w₁=.ok () w₂∧body.wpIn (Fr (some l)) 0 P
   (roundPost P l (RR l (recL fn (E n e d).tmps ps assign body D) I Ix X i w2 (all (bx l (.loop (recL fn (E n e d).tmps ps assign body D .ready none))::X y)))) a₁ w₂) (fun _ _ _=>False)) (E n (upl e ps.toList xa.toList) []) w2)
 (done:∀ (l D:Nat) (o:Obj) (y:α) (w' :World),I xs.length y→St w0 C w' (bx l o::bx D (.deferred (some []))::X y) L→Q .normal (E n e (mark D++d)) w')
 (jump:∀ (c:Code) (l D:Nat) (o:Obj) (y:α) (w' :World),Ix c y→St w0 C w' (bx l o::bx D (.deferred (some []))::X y) L→c.wpIn (Fr none) 0 P Q (E n e (mark D++d)) w'):
 (Code.rangeFunc g ps assign body).wpIn (Fr none) 0 P Q (E n e d) w:=by
 refine wpIn_rangeFunc fun fn _=>?_
 let rc:=recL fn (E n e d).tmps ps assign body w.heap.size
 let w1:=(w.alloc (.deferred (some []))).alloc (.loop (rc .ready none))
 let l:=(w.alloc (.deferred (some []))).heap.size
 have S1:St w0 C w1 (bx l (.loop (rc .ready none))::bx w.heap.size (.deferred (some []))::X0) L:=(S.alloc _).alloc _
 have S2:St w0 C w1 ((bx l (.loop (rc .ready none))::X y0)++[bx w.heap.size (.deferred (some []))]) L:=by
  rw [hX]
  exact S1.perm (List.Perm.cons _ (List.perm_append_singleton _ _).symm)
 have hA0:(all (bx l (.loop (rc .ready none))::X y0)).ok w1:=⟨fun x hx=>S2.xs x (List.mem_append_left _ hx),(List.pairwise_append.1 S2.dx).1⟩
 have hdA:∀ p∈L,∀ b,p.fp b→¬(all (bx l (.loop (rc .ready none))::X y0)).fp b:=fun p hp b hb ⟨x,hx,hxb⟩=>S2.dp x (List.mem_append_left _ hx) p hp b hxb hb
 have hev:(E n e d).eval g=.func (.func f) first caps:=by rw [E_eval]; exact hg
 refine ⟨l,mark w.heap.size,w1,{ target:=.fn (.func f) caps,args:=first++#[.func (.yield l) #[] #[]] },w1,f,first++#[.func (.yield l) #[] #[]]++caps,w1,?_,?_,fun _ _=>trivial,run_invoke hF _,fun h=>by simp at h,?_⟩
 ·simp [Instr.enterLoop,newObj]
  rfl
 ·have hcn:∀ v,(E n e d).eval (.const v)=v:=fun _=>rfl
  simp [resolve,rangeCall,hev,hcn,Deferred.ofValue]
 ·refine callsIn_of (fun _=>trivial) rfl rfl ?_
  refine (hit w1 l (Gn l rc I X) (Gj l rc Ix X) (all (bx l (.loop (rc .ready none))::X y0)) ⟨y0,h0,rfl⟩ hA0 (fun p hp=>S1.ps p (hK p hp)) (fun p hp=>hdA p (hK p hp)) ?_).mono ?_
  ·rintro i xa A w2 hxa ⟨y,hI,rfl⟩ hok hkp hfp
   have SL:St w2 (all (bx l (.loop (rc .ready none))::X y)).fp w2 (bx l (.loop (rc .ready none))::X y) L:=by
    refine ⟨Keep.refl _ _,hok.1,fun p hp=>p.mono _ _ (S1.ps p hp) fun b hb=>hkp.block b (p.inb _ _ (S1.ps p hp) hb) (hdA p hp b hb),hok.2,fun x hx p hp b hxb hpb=>?_,fun x hx b hb=>.inr ⟨x,hx,hb⟩⟩
    rcases hfp b ⟨x,hx,hxb⟩ with h | h
    ·exact hdA p hp b hpb h
    ·have:=p.inb _ _ (S1.ps p hp) hpb; omega
   obtain ⟨hsz,hw⟩:=round fn l w.heap.size i xa y w2 hxa hI SL
   refine ⟨fn,(E n (upl e ps.toList xa.toList) d).tmps,assign,body,?_,?_⟩
   ·have:w2.heap[l]? =some (.loop (rc .ready none)):=SL.at (i:=0) rfl
    have hz:(Array.foldl (fun (t:Array Value) (p:Nat×Value)=>t.setIfInBounds p.1 p.2) (E n e d).tmps (ps.zip xa))=(E n (upl e ps.toList xa.toList) d).tmps:=by
     rw [← upl_E,← Array.foldl_toList,Array.toList_zip]
    have hrun:(Instr.yield l xa).run P w2=.ok (.round l fn (Array.foldl (fun (t:Array Value) (p:Nat×Value)=>t.setIfInBounds p.1 p.2) (E n e d).tmps (ps.zip xa)) assign body) w2:=by
     simp [Instr.yield,run_getLoop this,rc,recL,hsz]
    rw [hrun,hz]
   ·refine roundIn_of_wpIn trivial ?_
    exact hw
  ·rintro en w3 ⟨v,rfl,hkp,A',hok,hfp,hG⟩
   rcases hG with ⟨y,hI,rfl⟩ | ⟨y,c,hI,rfl⟩
   ·have S3:=(S2.frame hkp hok hfp).perm (X' :=bx l (.loop (rc .ready none))::bx w.heap.size (.deferred (some []))::X y) (List.Perm.cons _ (List.perm_append_singleton _ _))
    refine ⟨none,_,run_endLoop (S3.at (i:=0) rfl) (by simp [rc,recL]),?_⟩
    exact done l w.heap.size _ y _ hI (S3.setB (i:=0) rfl)
   ·have S3:=(S2.frame hkp hok hfp).perm (X' :=bx l (.loop (rc .done (some c)))::bx w.heap.size (.deferred (some []))::X y) (List.Perm.cons _ (List.perm_append_singleton _ _))
    refine ⟨some c,_,run_endLoop (S3.at (i:=0) rfl) (by simp [rc,recL]),?_⟩
    exact jump c l w.heap.size _ y _ hI (S3.setB (i:=0) rfl)
theorem leave_mark {fn:Func}{R:Ending→World→Prop}{XX:List Asr}{i D:Nat} (S:St w0 C w XX L) (hi:XX[i]? =some (bx D (.deferred (some [])))) (h:∀ w',St w0 C w' (XX.set i (bx D (.deferred none))) L→bodyPostM (Fr none) 0 P fn R .ret (E n e d) w'):
 bodyPostM (Fr none) 0 P fn R .ret (E n e (mark D++d)) w:=by
 refine ⟨by simp,.inl ⟨D,setB w D (.deferred none),rfl,?_,h _ (S.setB hi)⟩⟩
 have h1:=S.at hi
 have h2:(getObj D).run P w=.ok (.deferred (some [])) w:=by simp only [getObj,Sem.run,h1]
 have h3:(setObj D (.deferred none)).run P w=.ok () (setB w D (.deferred none)):=by simp only [setObj,Sem.run,h1]; rfl
 simp [Instr.takeDeferred,h2,h3]
end
end Go.Fx
namespace Go.Fx
open Go
def intE (x:Int):List Value:=[.int .i64 x]
theorem intE_len (x:Int):(intE x).length=1:=rfl
theorem intE_one (x:Int):∀ u∈intE x,u.oneCell' =true:=by simp [intE,Value.oneCell']
section
variable {α:Type}{enc:α→List Value}{s:Nat}
theorem flat_len (he:∀ x,(enc x).length=s):∀ l:List α,(l.flatMap enc).length=l.length*s
 | []=>by simp
 | x::l=>by rw [List.flatMap_cons,List.length_append,flat_len he l,he,List.length_cons,Nat.succ_mul]; omega
theorem flat_get (he:∀ x,(enc x).length=s):∀ (l:List α) (i:Nat) (x:α) (j:Nat),l[i]? =some x→j < s→(l.flatMap enc)[i*s+j]? =(enc x)[j]?
 | [],_,_,_,h,_=>by simp at h
 | y::l,0,x,j,h,hj=>by
   simp at h; subst h
   rw [List.flatMap_cons,Nat.zero_mul,Nat.zero_add,List.getElem?_append_left (by rw [he]; exact hj)]
 | y::l,i+1,x,j,h,hj=>by
   rw [List.flatMap_cons,Nat.succ_mul,List.getElem?_append_right (by rw [he]; omega),he,show i*s+s+j - s=i*s+j by omega]
   exact flat_get he l i x j (by simpa using h) hj
theorem flat_inv (he:∀ x,(enc x).length=s):∀ (l:List α) (k:Nat) (u:Value),(l.flatMap enc)[k]? =some u→∃ i x j,l[i]? =some x∧(enc x)[j]? =some u∧k=i*s+j
 | [],_,_,h=>by simp at h
 | y::l,k,u,h=>by
   rw [List.flatMap_cons] at h
   rcases Nat.lt_or_ge k s with hk | hk
   ·rw [List.getElem?_append_left (by rw [he]; exact hk)] at h
    exact ⟨0,y,k,rfl,h,by omega⟩
   ·rw [List.getElem?_append_right (by rw [he]; exact hk),he] at h
    obtain ⟨i,x,j,h1,h2,h3⟩:=flat_inv he l _ u h
    exact ⟨i+1,x,j,by simpa using h1,h2,by rw [Nat.succ_mul]; omega⟩
theorem sl_flat (he:∀ x,(enc x).length=s) {b:Nat}{o:Nat}{l:List α}{w:World} (h:(sl enc s (some ⟨b,o,none⟩) l).ok w):∀ k u,(l.flatMap enc)[k]? =some u→w.cell? ((⟨b,o,none⟩:Addr).add k)=some u:=by
 intro k u hu
 obtain ⟨i,x,j,h1,h2,rfl⟩:=flat_inv he l k u hu
 rcases h with h | ⟨b',o',e,_,h⟩
 ·subst h; simp at h1
 ·cases e
  have:=h i x h1 j u h2
  unfold Addr.add
  split
  ·rename_i h0
   simp only [show o+i*s+j=o from by omega] at this
   exact this
  ·simpa [Nat.add_assoc] using this
theorem sl_some {A:Option Addr}{l:List α}{w:World} (h:(sl enc s A l).ok w) (hl:l≠[]):∃ b o,A=some ⟨b,o,none⟩∧b < w.heap.size:=by
 rcases h with h | ⟨b,o,e,hb,_⟩
 ·exact absurd h hl
 ·exact ⟨b,o,e,hb⟩
def gr (enc:α→List Value) (s:Nat) (e:TypeId) (A:Option Addr) (c:Nat) (l:List α):Asr where
 fp b:=Value.ownBlock (.slice A l.length c)=some b
 ok w:=w.ownsRow 0 e s (.slice A l.length c) l.length (l.flatMap enc)
 mono w w' h k:=by
  refine ⟨h.1,?_⟩
  rcases h.2 with h | ⟨g,cap,cur,h1,h2,h3,h4⟩
  ·exact .inl h
  ·refine .inr ⟨g,cap,cur,h1,h2,?_,h4⟩
   rw [← h3]
   exact k g (by rw [h1]; rfl)
 inb w b h hb:=(World.ownsRow.lt h b hb).2
theorem gr_nil {enc:α→List Value}{s e:Nat}{w:World}:(gr enc s e none 0 ([]:List α)).ok w:=⟨by simp,.inl ⟨rfl,rfl⟩⟩
theorem gr_sl (he:∀ x,(enc x).length=s) {e c:Nat}{A:Option Addr}{l:List α}{w:World} (h:(gr enc s e A c l).ok w):(sl enc s A l).ok w:=by
 rcases h.2 with ⟨h1,h2⟩ | ⟨g,cap,cur,h1,h2,h3,h4,h5,h6,h7⟩
 ·exact .inl (List.eq_nil_of_length_eq_zero h2)
 ·cases h1
  refine .inr ⟨g,0,rfl,(Array.getElem?_eq_some_iff.1 h3).1,fun i x hi j v hj=>?_⟩
  have hjs:j < s:=by
   have:=(List.getElem?_eq_some_iff.1 hj).1
   rwa [he] at this
  have:=flat_get he l i x j hi hjs
  rw [hj,← h7,List.getElem?_take] at this
  split at this
  ·rw [cell_of h3]; simpa using this
  ·cases this
theorem gr_le {enc:α→List Value}{s e c:Nat}{A:Option Addr}{l:List α}{w:World} (h:(gr enc s e A c l).ok w):l.length≤c:=by
 rcases h.2 with ⟨q1,q2⟩ | ⟨g,cap,cur,q1,q2,q3,q4,_⟩
 ·omega
 ·simp at q1; omega
theorem gr_fp {enc:α→List Value}{s e c:Nat}{A:Option Addr}{l:List α}:∀ b,(sl enc s A l).fp b→(gr enc s e A c l).fp b:=by
 rintro b ⟨_,a,rfl,rfl⟩; rfl
end
section
variable {α:Type}{enc:α→List Value}{s:Nat}
variable {ro:Option Nat}{P:Program}{full:Array Oper}{Q:Exit→Act→World→Prop}{n:Nat}{d:List Deferred}{e:Env}{w w0:World}{C:Nat→Prop}{X L:List Asr}
variable {rest:List Oper}{ty:TypeId}{ps:String}{af:Array Edge}
theorem slc_und {t el s:Nat} (h:slcOf P t=some (el,s)):P.underlying t=some (.slice el)∧sizOf P el=some s:=by
 unfold slcOf at h
 split at h
 ·rename_i el' hu
  obtain ⟨s',hs,h⟩:=Option.map_eq_some_iff.1 h
  cases h
  exact ⟨hu,hs⟩
 ·cases h
theorem info_of {t z s b:_} (h:infoOf P t=some (some z,s,b)):∃ i,P.info? t=some i∧i.zero=some z∧i.size=s∧i.bytes=b:=by
 unfold infoOf at h
 cases hi:P.info? t with
 | none=>simp [hi] at h
 | some i=>simp only [hi,Option.map_some,Option.some.injEq,Prod.mk.injEq] at h; exact ⟨i,rfl,h⟩
theorem St.addNil (S:St w0 C w X L) (enc:α→List Value) (s e:Nat):St w0 C w (gr enc s e none 0 []::X) L:=by
 have hf:∀ b,¬(gr enc s e none 0 ([]:List α)).fp b:=fun b h=>by cases h
 exact S.addX' gr_nil (fun b h=>(hf b h).elim) (fun _ _ b h=>(hf b h).elim) (fun _ _ b h=>(hf b h).elim)
def zrow (z:Value) (k:Nat):Array Value:=((List.range k).map (fun j=>z.cells.toList.getD (j % z.cells.size) default)).toArray
theorem o_bsl {t i len el s bb:Nat}{zs:Array Value}{parts:Array (Nat×Operand)}{vals:List (Nat×Value)}{z:Value}{cs:Array Value} (hT:slcOf P t=some (el,s)) (hz:infoOf P el=some (some z,s,bb))
 (hv:parts.toList.map (fun (i,x)=>(i,evn n e x))=vals) (h0:0 < len*s) (h1:len*s≤2 ^ 24)
 (hzs:zrow z (len*s)=zs) (hf:Instr.fill (fun i=>some (i*s,s)) zs vals=some cs) (S:St w0 C w X L)
 (h:∀ b w',b=w.heap.size→St w0 C w' (bx b (.cells cs el)::X) L→wpA ro P full Q rest (E n (upd e i (.slice (some ⟨b,0,none⟩) len len)) d) w'):
 wpA ro P full Q (⟨some i,.buildSlice t len parts,ty,ps,af,none⟩::rest) (E n e d) w:=by
 obtain ⟨hu,hs⟩:=slc_und hT
 obtain ⟨it,h2,h3,h4,h5⟩:=info_of hz
 refine op_val (v:=.slice (some ⟨w.heap.size,0,none⟩) len len) (w' :=w.alloc (.cells cs el)) rfl (fun _ h=>by cases h) ?_ (h _ _ rfl (S.alloc _))
 have hv' :(parts.map fun (i,x)=>(i,evn n e x)).toList=vals:=by rw [Array.toList_map,hv]
 have hne:¬(len*s=0):=by omega
 have hle:¬(len*s > 2 ^ 24):=by omega
 have hzr:(zeroValue el).run P w=.ok z w:=by simp [zeroValue,typeInfo,h2,h3]
 have hq:(Array.range (len*s)).map (fun k=>z.cells[k % z.cells.size]!)=((List.range (len*s)).map (fun k=>z.cells.toList.getD (k % z.cells.size) default)).toArray:=by
  apply Array.ext'
  simp [Array.toList_range]
  intro a _
  rw [getElem!_def]
  cases z.cells[a % z.cells.size]? <;> rfl
 rw [← hzs,zrow,← hq] at hf
 simp only [execOp,Instr.buildSlice,Sem.run_bind,run_und hu,Result.andThen_ok,run_sizeOf hs,if_neg hle,if_neg hne,hzr,hv',Sem.run_pure,hf]
 simp [newRow,hf]
theorem run_append {st i:Nat}{x y:Operand}{vx vy v:Value}{w' :World} (hx:evn n e x=vx) (hy:evn n e y=vy) (hr:(Builtin.append_ #[st,st] ty #[vx,vy]).run P w=.ok v w'):
 (execOp (evn n e) ⟨some i,.call ⟨.builtin .append,#[x,y],#[st,st]⟩,ty,ps,af,none⟩).run P w=.ok (.value v) w' :=by
 simp [execOp,resolve,hx,hy,invoke,builtin,hr]
theorem grown_row {el bb need old:Nat}{z:Value}{l:List α} (he:∀ x,(enc x).length=s) (hzs:z.cells.size=s) (hl:l.length=need) (hbig:need≤maxLen) (pre:Array Value) (hp:pre.toList=l.flatMap enc):
 (gr enc s el (some ⟨w.heap.size,0,none⟩) (grownCap w need old el) l).ok (w.drew.alloc (.cells (pre++Builtin.zeroCells z.cells (grownCap w need old el - need)) el)):=by
 subst hl
 have hge:=grownCap_ge w l.length old el
 have hsz:pre.size=l.length*s:=by rw [← flat_len he l,← hp]; simp
 refine ⟨flat_len he l,.inr ⟨w.heap.size,_,_,rfl,Nat.zero_le _,heap_alloc_new w.drew _,hge,grownCap_le_maxLen w _ old el hbig,?_,?_⟩⟩
 ·simp only [Array.size_append,size_zeroCells,hzs,hsz,← Nat.add_mul]
  congr 1
  omega
 ·rw [Array.toList_append,hp,← flat_len he l]
  exact List.take_left
theorem small_of {m bb:Nat} (h:m*bb≤140737488355328) (hb:0 < bb):m≤140737488355328∧m*bb≤140737488355328:=
 ⟨Nat.le_trans (Nat.le_mul_of_pos_right m hb) h,h⟩
theorem o_app {st i el s bb k:Nat}{x y:Operand}{A B:Option Addr}{c nl m c2:Nat}{z:Value}{enc:α→List Value}{l ys:List α} (hx:evn n e x=.slice A nl c) (hy:evn n e y=.slice B m c2) (hT:slcOf P st=some (el,s)) (hz:infoOf P el=some (some z,s,bb)) (hzs:z.cells.size=s)
 (he:∀ x,(enc x).length=s) (h1:∀ x,∀ u∈enc x,u.oneCell' =true) (S:St w0 C w X L) (hi:X[k]? =some (gr enc s el A c l)) (hnl:nl=l.length) (hm:m=ys.length) (hys:(sl enc s B ys).ok w) (hne:ys≠[])
 (hbig:(l.length+ys.length)*bb≤140737488355328) (hbb:0 < bb)
 (h:∀ A' c' w',St w0 C w' (X.set k (gr enc s el (some A') c' (l++ys))) L→wpA ro P full Q rest (E n (upd e i (.slice (some A') (nl+m) c')) d) w'):
 wpA ro P full Q (⟨some i,.call ⟨.builtin .append,#[x,y],#[st,st]⟩,ty,ps,af,none⟩::rest) (E n e d) w:=by
 subst hnl hm
 obtain ⟨b,o,rfl,hb⟩:=sl_some hys hne
 obtain ⟨hu,hs⟩:=slc_und hT
 obtain ⟨it,h2,h3,h4,h5⟩:=info_of hz
 subst h4 h5
 have hown:w.ownsRow 0 el it.size (.slice A l.length c) l.length (l.flatMap enc):=S.atX hi
 obtain ⟨hb1,hb2⟩:=small_of hbig hbb
 have hlen:l.length+ys.length=(l++ys).length:=by simp
 have hyp:0 < ys.length:=List.length_pos_iff.2 hne
 have hfy:=sl_flat he hys
 have hly:=flat_len he ys
 have fin:∀ (old:Nat) (pre:Array Value),pre.toList=(l++ys).flatMap enc→(Builtin.append_ #[st,st] ty #[.slice A l.length c,.slice (some ⟨b,o,none⟩) ys.length c2]).run P w=
  .ok (.slice (some ⟨w.heap.size,0,none⟩) (l.length+ys.length) (grownCap w (l.length+ys.length) old el)) (w.drew.alloc (.cells (pre++Builtin.zeroCells z.cells (grownCap w (l.length+ys.length) old el - (l.length+ys.length))) el))→
  wpA ro P full Q (⟨some i,.call ⟨.builtin .append,#[x,y],#[st,st]⟩,ty,ps,af,none⟩::rest) (E n e d) w:=by
  intro old pre hp hr
  have hg:=grown_row (w:=w) (el:=el) (bb:=it.bytes) (old:=old) (z:=z) he hzs hlen.symm (by simp only [maxLen]; omega) pre hp
  refine op_val rfl (fun _ h=>by cases h) (run_append hx hy hr) (h _ _ _ (S.turn hi hg (fun b' hb' =>.inr ?_) rfl rfl rfl (by simp) fun b' hb' _=>heap_alloc_old w.drew _ _ hb'))
  have:w.heap.size=b' :=by simpa [gr,Value.ownBlock] using hb'
  omega
 rcases hown.2 with ⟨q1,q2⟩ | ⟨g,cap,cur,q1,q2,q3,q4,q5,q6,q7⟩
 ·have hA:A=none∧c=0:=by simp at q1; exact ⟨q1.1,q1.2.2⟩
  have hl:l=[]:=List.eq_nil_of_length_eq_zero q2
  obtain ⟨rfl,rfl⟩:=hA
  subst hl
  have hr:=run_append_nil (P:=P) w st ty el it z hu h2 h3 ⟨b,o,none⟩ ys.length c2 (ys.flatMap enc) hly hfy hyp (by simp at hb1; omega) (by simp at hb2; omega)
  exact fin 0 (ys.flatMap enc).toArray (by simp) (by simpa using hr)
 ·have hA:A=some ⟨g,0,none⟩∧c=cap:=by simp at q1; exact q1
  obtain ⟨rfl,rfl⟩:=hA
  by_cases hroom:l.length+ys.length≤c
  ·have hfit:l.length*it.size+(ys.flatMap enc).length≤cur.size:=by rw [hly,q6,← Nat.add_mul]; exact Nat.mul_le_mul_right _ hroom
   have hr:=run_append_room (P:=P) w st ty el it hu h2 g l.length c cur q3 ⟨b,o,none⟩ ys.length c2 (ys.flatMap enc) hly hfy (fun u hu=>by
    obtain ⟨x,_,hx⟩:=List.mem_flatMap.1 hu
    exact h1 x u hx) hroom hfit
   refine op_val rfl (fun _ h=>by cases h) (run_append hx hy hr) (h _ _ _ (S.turn hi (y:=gr enc it.size el (some ⟨g,0,none⟩) c (l++ys)) ⟨flat_len he _,.inr ⟨g,c,_,rfl,Nat.zero_le _,setRow_heap w g cur _ el _ q3,by omega,q5,?_,?_⟩⟩ (fun b' hb' =>.inl ?_) rfl rfl rfl (by simp) fun b' hb' hn=>setRow_other w g b' _ fun hh=>hn (by subst hh; rfl)))
   ·simp only [List.size_toArray,List.length_append,List.length_take,List.length_drop,Array.length_toList]
    omega
   ·have:(l++ys).length*it.size=(l.flatMap enc++ys.flatMap enc).length:=by rw [← hlen,Nat.add_mul,← flat_len he l,← hly,List.length_append]
    rw [q7,this,List.flatMap_append]
    exact List.take_left
   ·have:g=b' :=by simpa [gr,Value.ownBlock] using hb'
    subst this; rfl
  ·have hr:=run_append_grow (P:=P) w st ty el it z hu h2 h3 ⟨g,0,none⟩ l.length c (l.flatMap enc) hown.1 (hown.cells (g:=g) rfl) ⟨b,o,none⟩ ys.length c2 (ys.flatMap enc) hly hfy (by omega) (by omega) (growslice_fits (by omega) hb2)
   exact fin c ((l.flatMap enc).toArray++(ys.flatMap enc).toArray) (by simp) hr
theorem o_appN {st i el s bb:Nat}{x y:Operand}{A B:Option Addr}{c nl m c2:Nat}{z:Value}{enc:α→List Value}{l ys:List α} (hx:evn n e x=.slice A nl c) (hy:evn n e y=.slice B m c2) (hT:slcOf P st=some (el,s)) (hz:infoOf P el=some (some z,s,bb)) (hzs:z.cells.size=s)
 (he:∀ x,(enc x).length=s) (S:St w0 C w X L) (hl:(sl enc s A l).ok w) (hA:A=none→c=0) (hnl:nl=l.length) (hc:c=l.length) (hm:m=ys.length) (hys:(sl enc s B ys).ok w) (hne:ys≠[])
 (hbig:(l.length+ys.length)*bb≤140737488355328) (hbb:0 < bb)
 (h:∀ b c' w',b=w.heap.size→St w0 C w' (gr enc s el (some ⟨b,0,none⟩) c' (l++ys)::X) L→wpA ro P full Q rest (E n (upd e i (.slice (some ⟨b,0,none⟩) (nl+m) c')) d) w'):
 wpA ro P full Q (⟨some i,.call ⟨.builtin .append,#[x,y],#[st,st]⟩,ty,ps,af,none⟩::rest) (E n e d) w:=by
 subst hnl hm
 obtain ⟨b,o,rfl,hb⟩:=sl_some hys hne
 obtain ⟨hu,hs⟩:=slc_und hT
 obtain ⟨it,h2,h3,h4,h5⟩:=info_of hz
 subst h4 h5
 obtain ⟨hb1,hb2⟩:=small_of hbig hbb
 have hlen:l.length+ys.length=(l++ys).length:=by simp
 have hyp:0 < ys.length:=List.length_pos_iff.2 hne
 have hfy:=sl_flat he hys
 have hly:=flat_len he ys
 have fin:∀ (old:Nat) (pre:Array Value),pre.toList=(l++ys).flatMap enc→(Builtin.append_ #[st,st] ty #[.slice A l.length c,.slice (some ⟨b,o,none⟩) ys.length c2]).run P w=
  .ok (.slice (some ⟨w.heap.size,0,none⟩) (l.length+ys.length) (grownCap w (l.length+ys.length) old el)) (w.drew.alloc (.cells (pre++Builtin.zeroCells z.cells (grownCap w (l.length+ys.length) old el - (l.length+ys.length))) el))→
  wpA ro P full Q (⟨some i,.call ⟨.builtin .append,#[x,y],#[st,st]⟩,ty,ps,af,none⟩::rest) (E n e d) w:=by
  intro old pre hp hr
  have hg:=grown_row (w:=w) (el:=el) (bb:=it.bytes) (old:=old) (z:=z) he hzs hlen.symm (by simp only [maxLen]; omega) pre hp
  have S1:=S.drew.alloc (.cells (pre++Builtin.zeroCells z.cells (grownCap w (l.length+ys.length) old el - (l.length+ys.length))) el)
  have S2:=S1.turn (i:=0) rfl hg (fun b' hb' =>.inl (by
   have:w.heap.size=b' :=by simpa [gr,Value.ownBlock] using hb'
   exact this.symm)) rfl rfl rfl (Nat.le_refl _) (fun _ _ _=>rfl)
  exact op_val rfl (fun _ h=>by cases h) (run_append hx hy hr) (h _ _ _ rfl S2)
 cases A with
 | none=>
   have hl0:l=[]:=by
    rcases hl with h | ⟨_,_,h,_⟩
    ·exact h
    ·cases h
   have hc0:=hA rfl
   subst hl0 hc0
   have hr:=run_append_nil (P:=P) w st ty el it z hu h2 h3 ⟨b,o,none⟩ ys.length c2 (ys.flatMap enc) hly hfy hyp (by simp at hb1; omega) (by simp at hb2; omega)
   exact fin 0 (ys.flatMap enc).toArray (by simp) (by simpa using hr)
 | some a=>
   have hcell:∀ j v,(l.flatMap enc)[j]? =some v→w.cell? (a.add j)=some v:=by
    by_cases h0:l=[]
    ·subst h0; intro j v hj; simp at hj
    ·obtain ⟨b1,o1,h1,_⟩:=sl_some hl h0
     cases h1
     exact sl_flat he hl
   subst hc
   have hr:=run_append_grow (P:=P) w st ty el it z hu h2 h3 a l.length l.length (l.flatMap enc) (flat_len he l) hcell ⟨b,o,none⟩ ys.length c2 (ys.flatMap enc) hly hfy (by omega) (by omega) (growslice_fits (by omega) hb2)
   exact fin l.length ((l.flatMap enc).toArray++(ys.flatMap enc).toArray) (by simp) hr
end
end Go.Fx
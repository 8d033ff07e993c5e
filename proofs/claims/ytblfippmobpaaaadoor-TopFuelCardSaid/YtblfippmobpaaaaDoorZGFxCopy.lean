/- Part of a logic of my own for walks: rules by which a proof steps through code, proved once. -/
import Derived.Test.YtblfippmobpaaaaDoorZGFxApp
import Derived.Laws.StructEq
import Derived.ChangeKeysEq
import Derived.Laws.MakeOwn
import Derived.Laws.CopyRow
set_option linter.unusedSimpArgs false
set_option linter.unusedVariables false
namespace Go.Fx
open Go
inductive Lf where | int (k:IntKind) | bool | str
def Lf.fit:Lf→Value→Prop
 | .int k,v=>∃ n,v=.int k n
 | .bool,v=>∃ b,v=.bool b
 | .str,v=>∃ s,v=.string s
def fits:List Lf→List Value→Prop
 | [],[]=>True
 | l::ls,v::vs=>l.fit v∧fits ls vs
 | _,_=>False
theorem fits_len:∀ {ls:List Lf}{vs:List Value},fits ls vs→ls.length=vs.length
 | [],[],_=>rfl
 | _::_,_::_,h=>by simp [fits_len h.2]
 | [],_::_,h=>h.elim
 | _::_,[],h=>h.elim
theorem fits_split:∀ {l1 l2:List Lf}{vs:List Value},fits (l1++l2) vs→∃ a b,vs=a++b∧fits l1 a∧fits l2 b
 | [],_,vs,h=>⟨[],vs,rfl,trivial,h⟩
 | l::l1,l2,v::vs,h=>by
   obtain ⟨a,b,rfl,h1,h2⟩:=fits_split (l1:=l1) h.2
   exact ⟨v::a,b,rfl,⟨h.1,h1⟩,h2⟩
 | _::_,_,[],h=>h.elim
theorem fits_ints:∀ (o:List Int),fits (List.replicate o.length (.int .i64)) (o.map (Value.int .i64))
 | []=>trivial
 | x::o=>⟨⟨x,rfl⟩,fits_ints o⟩
def shF (P:Program) (g:TypeId→Option (List Lf)):List Field→Nat→Option (List Lf)
 | [],_=>some []
 | f :: fs, o => if f.name != "_" && f.offset == o then
     match g f.type with
     | some l=>if sizOf P f.type==some l.length then (shF P g fs (o+l.length)).map (l++·) else none
     | none=>none
   else none
def shT (P:Program):Nat→TypeId→Option (List Lf)
 | 0,_=>none
 | m+1,t=>
   match P.underlying t with
   | some (.int q)=>some [.int q]
   | some .bool=>some [.bool]
   | some .string=>some [.str]
   | some (.array n e)=>match shT P m e with
     | some l=>if sizOf P e==some l.length then some (List.replicate n l).flatten else none
     | none=>none
   | some (.struct fs)=>if P.stoodInHeld t then none else shF P (shT P m) fs.toList 0
   | _=>none
def mkV (P:Program) (t:TypeId) (cs:List Value):Value:=if aggOf P t=some true then .agg cs.toArray else cs.headD undef
section
variable {P:Program}
theorem shT_agg {m:Nat}{t:TypeId}{ls:List Lf} (h:shT P m t=some ls):aggOf P t=some true∨(aggOf P t=some false∧∃ l,ls=[l]):=by
 cases m with
 | zero=>simp [shT] at h
 | succ m=>
   unfold shT at h
   split at h
   ·rename_i hu; right; simp at h; exact ⟨by simp [aggOf,hu],_,h.symm⟩
   ·rename_i hu; right; simp at h; exact ⟨by simp [aggOf,hu],_,h.symm⟩
   ·rename_i hu; right; simp at h; exact ⟨by simp [aggOf,hu],_,h.symm⟩
   ·rename_i hu; left; simp [aggOf,hu]
   ·rename_i hu; left; simp [aggOf,hu]
   ·cases h
theorem run_partV {m:Nat}{t:TypeId}{ls:List Lf} (h:shT P m t=some ls) (hs:sizOf P t=some ls.length) {pre a post:List Value} (hf:fits ls a) (w:World):
 (part t (pre++a++post).toArray pre.length).run P w=.ok (mkV P t a) w:=by
 have hlen:=fits_len hf
 rcases shT_agg h with hA | ⟨hA,l,rfl⟩
 ·have:((pre++a++post).toArray.extract pre.length (pre.length+ls.length))=a.toArray:=by
   rw [hlen]
   apply Array.ext'
   simp [List.append_assoc]
  simp only [part,Sem.run_bind,run_isAgg hA,Result.andThen_ok,if_true,run_sizeOf hs,Sem.run_pure,mkV,hA,this]
 ·obtain ⟨v,rfl⟩:∃ v,a=[v]:=by
   cases a with
   | nil=>simp at hlen
   | cons v a=>cases a with
     | nil=>exact ⟨v,rfl⟩
     | cons _ _=>simp at hlen
  simp [part,run_isAgg hA,mkV,hA]
def EqV (P:Program) (dd:Nat) (t:TypeId) (ls:List Lf):Prop:=∀ (w:World) (xs ys:List Value),fits ls xs→fits ls ys→∃ r:Bool,(Op.equalIn dd t (mkV P t xs) (mkV P t ys)).run P w=.ok r w∧(r=true↔xs=ys)
theorem app_inj {a b c d:List Value} (h:a.length=c.length):a++b=c++d↔a=c∧b=d:=by
 constructor
 ·intro he; exact List.append_inj he h
 ·rintro ⟨rfl,rfl⟩; rfl
theorem run_eqFieldsV {m dd:Nat} (IH:∀ t ls,shT P m t=some ls→EqV P dd t ls) (w:World):∀ (fs:List Field) (o:Nat) (ls:List Lf),shF P (shT P m) fs o=some ls→∀ (px py xs ys:List Value),px.length=o→py.length=o→fits ls xs→fits ls ys→
 ∃ r:Bool,(Op.eqFields dd (px++xs).toArray (py++ys).toArray fs).run P w=.ok r w∧(r=true↔xs=ys)
 | [],o,ls,h,px,py,xs,ys,h1,h2,h3,h4=>by
   simp [shF] at h; subst h
   have e1:=fits_len h3; have e2:=fits_len h4
   have:xs=[]:=List.eq_nil_of_length_eq_zero e1.symm
   have:ys=[]:=List.eq_nil_of_length_eq_zero e2.symm
   subst xs ys
   exact ⟨true,by simp [Op.eqFields],by simp⟩
 | f::fs,o,ls,h,px,py,xs,ys,h1,h2,h3,h4=>by
   unfold shF at h
   split at h
   ·rename_i hn
    simp only [Bool.and_eq_true,bne_iff_ne,beq_iff_eq] at hn
    obtain ⟨hn,ho⟩:=hn
    split at h
    ·rename_i l hl
     split at h
     ·rename_i hs
      have hs' :sizOf P f.type=some l.length:=by simpa using hs
      obtain ⟨l2,hl2,rfl⟩:=Option.map_eq_some_iff.1 h
      obtain ⟨a,xs',rfl,fa,fx⟩:=fits_split h3
      obtain ⟨b,ys',rfl,fb,fy⟩:=fits_split h4
      obtain ⟨r,hr,hiff⟩:=IH _ _ hl w a b fa fb
      have la:=fits_len fa; have lb:=fits_len fb
      obtain ⟨r',hr',hiff'⟩:=run_eqFieldsV IH w fs (o+l.length) l2 hl2 (px++a) (py++b) xs' ys' (by simp [h1,la]) (by simp [h2,lb]) fx fy
      have p1:=run_partV (P:=P) hl hs' (pre:=px) (post:=xs') fa w
      have p2:=run_partV (P:=P) hl hs' (pre:=py) (post:=ys') fb w
      rw [h1,← ho,List.append_assoc] at p1
      rw [h2,← ho,List.append_assoc] at p2
      rw [List.append_assoc,List.append_assoc] at hr'
      simp only [Op.eqFields,hn,ne_eq,not_false_eq_true,if_true,Sem.run_bind,p1,p2,hr,Result.andThen_ok,app_inj (la.symm.trans lb)]
      cases r
      ·exact ⟨false,by simp,by simp; intro e; exact absurd (hiff.2 e) (by simp)⟩
      ·refine ⟨r',by simpa using hr',?_⟩
       rw [hiff']
       simp [hiff.1 rfl]
     ·cases h
    ·cases h
   ·cases h
theorem run_eqItemsV {m dd k:Nat}{e:TypeId}{l:List Lf} (IH:EqV P dd e l) (hl:shT P m e=some l) (hs:sizOf P e=some l.length) (hk:P.cellsOf e=k) (w:World):∀ (n i:Nat) (px py xs ys:List Value),px.length=i*l.length→py.length=i*l.length→
 fits (List.replicate n l).flatten xs→fits (List.replicate n l).flatten ys→
 ∃ r:Bool,(Op.eqItems dd e l.length (px++xs).toArray (py++ys).toArray (List.range' i n)).run P w=.ok r w∧(r=true↔xs=ys)
 | 0,i,px,py,xs,ys,h1,h2,h3,h4=>by
   have e1:=fits_len h3; have e2:=fits_len h4
   have:xs=[]:=List.eq_nil_of_length_eq_zero (by simpa using e1.symm)
   have:ys=[]:=List.eq_nil_of_length_eq_zero (by simpa using e2.symm)
   subst xs ys
   exact ⟨true,by simp [Op.eqItems],by simp⟩
 | n+1,i,px,py,xs,ys,h1,h2,h3,h4=>by
   rw [List.replicate_succ,List.flatten_cons] at h3 h4
   obtain ⟨a,xs',rfl,fa,fx⟩:=fits_split h3
   obtain ⟨b,ys',rfl,fb,fy⟩:=fits_split h4
   obtain ⟨r,hr,hiff⟩:=IH w a b fa fb
   have la:=fits_len fa; have lb:=fits_len fb
   obtain ⟨r',hr',hiff'⟩:=run_eqItemsV IH hl hs hk w n (i+1) (px++a) (py++b) xs' ys' (by simp [h1,la,Nat.succ_mul]) (by simp [h2,lb,Nat.succ_mul]) fx fy
   have p1:=run_partV (P:=P) hl hs (pre:=px) (post:=xs') fa w
   have p2:=run_partV (P:=P) hl hs (pre:=py) (post:=ys') fb w
   rw [h1,List.append_assoc] at p1
   rw [h2,List.append_assoc] at p2
   rw [List.append_assoc,List.append_assoc] at hr'
   simp only [List.range'_succ,Op.eqItems,Sem.run_bind,p1,p2,hr,Result.andThen_ok,app_inj (la.symm.trans lb)]
   cases r
   ·exact ⟨false,by simp,by simp; intro e; exact absurd (hiff.2 e) (by simp)⟩
   ·refine ⟨r',by simpa using hr',?_⟩
    rw [hiff']
    simp [hiff.1 rfl]
theorem cellsOf_of {t s:Nat} (h:sizOf P t=some s):P.cellsOf t=s:=by
 unfold sizOf at h
 unfold Program.cellsOf
 cases hi:P.info? t with
 | none=>simp [hi] at h
 | some i=>simpa [hi] using h
theorem run_equalV (d:Nat):∀ (m:Nat) (t:TypeId) (ls:List Lf),shT P m t=some ls→EqV P (d+m) t ls
 | 0,_,_,h=>by simp [shT] at h
 | m+1,t,ls,h=>by
   intro w xs ys hx hy
   have h' :=h
   unfold shT at h
   have one:∀ l,ls=[l]→∃ a b,xs=[a]∧ys=[b]∧l.fit a∧l.fit b:=by
    rintro l rfl
    cases xs with
    | nil=>exact hx.elim
    | cons a xs=>cases xs with
      | cons _ _=>exact hx.2.elim
      | nil=>cases ys with
        | nil=>exact hy.elim
        | cons b ys=>cases ys with
          | cons _ _=>exact hy.2.elim
          | nil=>exact ⟨a,b,rfl,rfl,hx.1,hy.1⟩
   rw [← Nat.add_assoc]
   split at h
   ·rename_i q hu
    simp at h; obtain ⟨a,b,rfl,rfl,⟨p,rfl⟩,⟨p',rfl⟩⟩:=one _ h.symm
    have hA:aggOf P t=some false:=by simp [aggOf,hu]
    exact ⟨p==p',by simpa [mkV,hA] using Go.run_equalIn_int w (d+m) t q q p p' hu,by simp⟩
   ·rename_i hu
    simp at h; obtain ⟨a,b,rfl,rfl,⟨p,rfl⟩,⟨p',rfl⟩⟩:=one _ h.symm
    have hA:aggOf P t=some false:=by simp [aggOf,hu]
    exact ⟨p==p',by simpa [mkV,hA] using run_equalIn_bool' w (d+m) t p p' hu,by simp⟩
   ·rename_i hu
    simp at h; obtain ⟨a,b,rfl,rfl,⟨p,rfl⟩,⟨p',rfl⟩⟩:=one _ h.symm
    have hA:aggOf P t=some false:=by simp [aggOf,hu]
    refine ⟨p.toList==p'.toList,by simpa [mkV,hA] using run_equalIn_string w (d+m) t p p' hu,?_⟩
    rw [beq_iff_eq,ByteArray.toList_eq,ByteArray.toList_eq]
    obtain ⟨⟨p⟩⟩:=p
    obtain ⟨⟨p'⟩⟩:=p'
    simp
   ·rename_i n e hu
    split at h
    ·rename_i l hl
     split at h
     ·rename_i hs
      have hs' :sizOf P e=some l.length:=by simpa using hs
      have hA:aggOf P t=some true:=by simp [aggOf,hu]
      cases h
      obtain ⟨i,hi⟩:∃ i,P.info? e=some i:=by
       unfold sizOf at hs'
       cases hi:P.info? e with
       | none=>simp [hi] at hs'
       | some i=>exact ⟨i,rfl⟩
      have:=run_eqItemsV (run_equalV d m e l hl) hl hs' (cellsOf_of hs') w n 0 [] [] xs ys (by simp) (by simp) hx hy
      simpa [mkV,hA,run_equalIn_array w (d+m) _ _ hu hi,cellsOf_of hs',List.range_eq_range'] using this
     ·cases h
    ·cases h
   ·rename_i fs hu
    split at h
    ·cases h
    ·rename_i hst
     have hA:aggOf P t=some true:=by simp [aggOf,hu]
     have hfo:P.fieldsOf t=fs:=by simp [Program.fieldsOf,hu]
     have:=run_eqFieldsV (fun t ls h=>run_equalV d m t ls h) w fs.toList 0 ls h [] [] xs ys rfl rfl hx hy
     simpa [mkV,hA,run_equalIn_struct w (d+m) t _ _ (by rw [hfo]; exact hu) (by simpa using hst),hfo] using this
   ·cases h
end
section
variable {ro:Option Nat}{P:Program}{full:Array Oper}{Q:Exit→Act→World→Prop}{n:Nat}{d:List Deferred}{e:Env}{w:World}
variable {rest:List Oper}{ty:TypeId}{ps:String}{af:Array Edge}
def eqOk (P:Program) (t:TypeId) (ls:List Lf):Prop:=shT P 8 t=some ls∧aggOf P t=some true∧P.eqGuardType P.depth t=false
theorem run_equal_ok {t:TypeId}{ls:List Lf}{xs ys:List Value} (hT:eqOk P t ls) (fx:fits ls xs) (fy:fits ls ys) {T:Bool} (h:T=true↔xs=ys) (w:World):(Op.equal t (.agg xs.toArray) (.agg ys.toArray)).run P w=.ok T w:=by
 obtain ⟨h1,h2,h3⟩:=hT
 obtain ⟨r,hr,hiff⟩:=run_equalV 9992 8 t ls h1 w xs ys fx fy
 have:r=T:=by
  cases r <;> cases T <;> simp_all
 subst this
 simpa [mkV,h2,Op.equal,Op.maxDepth] using hr
theorem o_eqA {t yt i:Nat}{x y:Operand}{ls:List Lf}{xs ys:List Value}{T:Bool} (hx:evn n e x=.agg xs.toArray) (hy:evn n e y=.agg ys.toArray) (hT:eqOk P t ls) (fx:fits ls xs) (fy:fits ls ys) (hR:T=true↔xs=ys)
 (h:wpA ro P full Q rest (E n (upd e i (.bool T)) d) w):wpA ro P full Q (⟨some i,.binOp .eql t x y yt,ty,ps,af,none⟩::rest) (E n e d) w:=by
 refine op_val (v:=.bool T) rfl (fun _ h=>by cases h) ?_ h
 have hg:=run_eqGuard_agg (P:=P) w .eql t x y xs.toArray ys.toArray hT.2.2
 have he:=run_equal_ok hT fx fy hR w
 simp only [execOp,hx,hy,Sem.run_bind,hg,Result.andThen_ok]
 simp [binOp,he]
theorem o_neA {t yt i:Nat}{x y:Operand}{ls:List Lf}{xs ys:List Value}{T:Bool} (hx:evn n e x=.agg xs.toArray) (hy:evn n e y=.agg ys.toArray) (hT:eqOk P t ls) (fx:fits ls xs) (fy:fits ls ys) (hR:T=true↔xs=ys)
 (h:wpA ro P full Q rest (E n (upd e i (.bool (!T))) d) w):wpA ro P full Q (⟨some i,.binOp .neq t x y yt,ty,ps,af,none⟩::rest) (E n e d) w:=by
 refine op_val (v:=.bool (!T)) rfl (fun _ h=>by cases h) ?_ h
 have hg:=run_eqGuard_agg (P:=P) w .neq t x y xs.toArray ys.toArray hT.2.2
 have he:=run_equal_ok hT fx fy hR w
 simp only [execOp,hx,hy,Sem.run_bind,hg,Result.andThen_ok]
 simp [binOp,he]
theorem o_neB {t yt i:Nat}{x y:Operand}{a b:Bool} (hx:evn n e x=.bool a) (hy:evn n e y=.bool b) (hT:P.underlying t=some .bool)
 (h:wpA ro P full Q rest (E n (upd e i (.bool (a != b))) d) w):wpA ro P full Q (⟨some i,.binOp .neq t x y yt,ty,ps,af,none⟩::rest) (E n e d) w:=by
 refine op_val (v:=.bool (a != b)) rfl (fun _ h=>by cases h) ?_ h
 have he:=run_equal_bool (P:=P) w t a b hT
 simp [execOp,hx,hy,eqGuard,binOp,he]
 cases a <;> cases b <;> rfl
def ivs (o:List Int):List Value:=o.map (Value.int .i64)
theorem ivs_len (o:List Int):(ivs o).length=o.length:=by simp [ivs]
theorem ivs_inj {a b:List Int}:ivs a=ivs b↔a=b:=by
 unfold ivs
 exact List.map_inj_right fun x y h=>by injection h
theorem ivs_fits {k:Nat}{o:List Int} (h:o.length=k):fits (List.replicate k (.int .i64)) (ivs o):=by subst h; exact fits_ints o
theorem ivs_cell {b t:Nat}{z:Nat×Nat}{o:List Int}{k:Nat}{x:Int} (h:w.heap[b]? =some (.cells (ivs o).toArray t z)) (hk:o[k]? =some x):w.cell? ⟨b,k,none⟩=some (.int .i64 x):=by
 rw [cell_of h]; simp [ivs,hk]
theorem getD_in {o:List Int}{k:Nat} (h:k < o.length):o[k]? =some (o.getD k 0):=by simp [List.getD,h]
theorem ivs_cells {b t:Nat}{z:Nat×Nat}{o:List Int} (h:w.heap[b]? =some (.cells (ivs o).toArray t z)):∀ j v,(ivs o)[j]? =some v→w.cell? ⟨b,0+j,none⟩=some v:=fun j v hj=>by
 rw [cell_of h]; simpa using hj
theorem ivs_set {o:List Int}{k:Nat}{x:Int}:putAt (ivs o).toArray k [.int .i64 x]=(ivs (o.set k x)).toArray:=by
 simp [putAt,ivs,List.map_set]
theorem putAt_all:∀ (vs pre old:List Value),old.length=vs.length→putAt (pre++old).toArray pre.length vs=(pre++vs).toArray
 | [],pre,old,h=>by simp at h; subst h; rfl
 | v::vs,pre,[],h=>by simp at h
 | v::vs,pre,u::old,h=>by
   have ih:=putAt_all vs (pre++[v]) old (by simpa using h)
   simp only [List.length_append,List.length_cons,List.length_nil,Nat.zero_add,List.append_assoc,List.cons_append,List.nil_append] at ih
   rw [putAt,← ih]
   congr 1
   simp
theorem ivs_put {o o' :List Int} (h:o.length=o'.length):putAt (ivs o).toArray 0 (ivs o')=(ivs o').toArray:=by
 simpa using putAt_all (ivs o') [] (ivs o) (by simp [ivs,h])
theorem ivs_one {o:List Int}:(ivs o).all Value.oneCell' =true:=by
 simp [ivs,List.all_eq_true,Value.oneCell']
end
end Go.Fx
namespace Go.Fx
open Go
section
variable {ro:Option Nat}{P:Program}{full:Array Oper}{Q:Exit→Act→World→Prop}{n:Nat}{d:List Deferred}{e:Env}{w w0:World}{C:Nat→Prop}{X L:List Asr}
variable {rest:List Oper}{ty:TypeId}{ps:String}{af:Array Edge}
end
end Go.Fx
namespace Go.Fx
open Go
section
variable {α β γ:Type}
theorem bindS {x:Option α}{f:α→Option β}{r:β} (H:x.bind f=some r):∃ a,x=some a∧f a=some r:=by
 cases x with
 | none=>cases H
 | some a=>exact ⟨a,rfl,H⟩
theorem condT {c:Bool}{a b:Option α}{r:α} (h:c=true) (H:(bif c then a else b)=some r):a=some r:=by subst h; exact H
theorem condF {c:Bool}{a b:Option α}{r:α} (h:c=false) (H:(bif c then a else b)=some r):b=some r:=by subst h; exact H
def need (b:Bool) (k:Option α):Option α:=bif b then k else none
theorem needS {b:Bool}{k:Option α}{r:α} (H:need b k=some r):b=true∧k=some r:=by
 cases b with
 | false=>cases H
 | true=>exact ⟨rfl,H⟩
theorem need_true {k:Option α}:need true k=k:=rfl
theorem need_of {b:Bool}{k:Option α} (h:b=true):need b k=k:=by subst h; rfl
def getI (l:List α) (i:Int):Option α:=bif decide (0≤i) then l[i.toNat]? else none
theorem getI_some {l:List α}{i:Int}{x:α} (h:getI l i=some x):0≤i∧l[i.toNat]? =some x:=by
 unfold getI at h
 by_cases hi:0≤i
 ·simp only [hi,decide_true,cond_true] at h; exact ⟨hi,h⟩
 ·simp only [hi,decide_false,cond_false] at h; cases h
theorem getI_nat {l:List α}{k:Nat}:getI l (k:Int)=l[k]? :=by simp [getI]
def optC (o:Option α) (f:α→Option β) (g:Option β):Option β:=match o with | some v=>f v | none=>g
theorem optS {o:Option α}{f:α→Option β}{g:Option β}{v:α}{r:β} (h:o=some v) (H:optC o f g=some r):f v=some r:=by subst h; exact H
theorem optN {o:Option α}{f:α→Option β}{g:Option β}{r:β} (h:o=none) (H:optC o f g=some r):g=some r:=by subst h; exact H
def loopF {σ ρ:Type} (body:(σ→Option ρ)→σ→Option ρ):Nat→σ→Option ρ
 | 0,_=>none
 | n+1,s=>body (loopF body n) s
theorem loopS {σ ρ:Type}{body:(σ→Option ρ)→σ→Option ρ}{n:Nat}{s:σ}{r:ρ} (H:loopF body n s=some r):∃ m,n=m+1∧body (loopF body m) s=some r:=by
 cases n with
 | zero=>cases H
 | succ m=>exact ⟨m,rfl,H⟩
def big:Nat:=2 ^ 64
theorem loopF_inv {σ ρ:Type}{body:(σ→Option ρ)→σ→Option ρ} (Inv:σ→Prop) (μ:σ→Nat) (R:ρ→Prop)
 (step:∀ (rec:σ→Option ρ) (s:σ),Inv s→(∀ s',Inv s' →μ s' < μ s→∃ r,rec s' =some r∧R r)→∃ r,body rec s=some r∧R r):
 ∀ (n:Nat) (s:σ),Inv s→μ s < n→∃ r,loopF body n s=some r∧R r:=by
 intro n
 induction n with
 | zero=>intro s _ h; omega
 | succ n ih=>intro s hs hn; exact step _ s hs fun s' h1 h2=>ih s' h1 (by omega)
end
abbrev wr (x:Int):Int:=IntKind.i64.wrap x
theorem wr_eq {x:Int} (h0:-9223372036854775808≤x) (h1:x≤9223372036854775807):wr x=x:=w64 h0 h1
abbrev I (x:Int):Value:=.int .i64 x
abbrev B (b:Bool):Value:=.bool b
abbrev P (b o:Nat):Value:=.pointer (some ⟨b,o,none⟩)
def offA (A:Option Addr) (o:Nat):Option Addr:=A.map fun a=>⟨a.block,a.off+o,none⟩
abbrev PE (A:Option Addr) (o:Nat):Value:=.pointer (offA A o)
abbrev SL (A:Option Addr) (n c:Nat):Value:=.slice A n c
abbrev AG (l:List Value):Value:=.agg l.toArray
abbrev TU (l:List Value):Value:=.tuple l.toArray
abbrev bl (b:Nat) (cs:List Value) (t:TypeId):Asr:=bx b (.cells cs.toArray t)
def nth:List Value→Nat→Option Value
 | [],_=>none
 | x::_,0=>some x
 | _::l,n+1=>nth l n
theorem nth_eq:∀ (l:List Value) (k:Nat),nth l k=l[k]?
 | [],_=>rfl
 | _::_,0=>rfl
 | _::l,k+1=>by simpa [nth] using nth_eq l k
def sgF (l:List Int) (k:Nat):Nat→List Value
 | 0=>[]
 | n+1=>I (l.getD k 0)::sgF l (k+1) n
def sg (l:List Int) (n:Nat):List Value:=sgF l 0 n
theorem sgF_get (l:List Int):∀ (n k j:Nat),j < n→(sgF l k n)[j]? =some (I (l.getD (k+j) 0))
 | 0,_,_,h=>by omega
 | n+1,k,0,_=>rfl
 | n+1,k,j+1,h=>by
   have:=sgF_get l n (k+1) j (by omega)
   simp only [sgF,List.getElem?_cons_succ]
   rw [this,show k+1+j=k+(j+1) by omega]
theorem sgF_len (l:List Int):∀ (n k:Nat),(sgF l k n).length=n
 | 0,_=>rfl
 | n+1,k=>by simp [sgF,sgF_len l n]
theorem sg_len (l:List Int) (n:Nat):(sg l n).length=n:=sgF_len l n 0
theorem sg_get (l:List Int) {n j:Nat} (h:j < n):(sg l n)[j]? =some (I (l.getD j 0)):=by
 have:=sgF_get l n 0 j h
 simpa [sg] using this
def asetI (l:List Int) (n:Nat) (i:Int) (x:Int):Option (List Int):=bif decide (0≤i)&&decide (i < n) then some ((List.range n).map fun k=>if k=i.toNat then x else l.getD k 0) else none
theorem asetI_some {l l' :List Int}{n:Nat}{i x:Int} (h:asetI l n i x=some l'):0≤i∧i.toNat < n∧l' =(List.range n).map fun k=>if k=i.toNat then x else l.getD k 0:=by
 unfold asetI at h
 by_cases h1:0≤i <;> by_cases h2:i < n <;> simp only [h1,h2,decide_true,decide_false,Bool.and_true,Bool.and_false,Bool.and_self,cond_true,cond_false,reduceCtorEq,Option.some.injEq] at h
 exact ⟨h1,by omega,h.symm⟩
end Go.Fx
namespace Go.Fx
open Go
def RetV (w:World) (v:Value):Ending→World→Prop:=fun en w' =>∃ u,en=.returned u∧u=v∧Keep0 w w'
def rd {α:Type} (enc:α→List Value) (s:Nat) (A:Option Addr) (c:Nat) (xs:List α):Asr where
 fp:=(sl enc s A xs).fp
 ok w:=(sl enc s A xs).ok w∧xs.length≤c∧c≤maxLen
 mono w w' h k:=⟨(sl enc s A xs).mono w w' h.1 k,h.2⟩
 inb w b h hb:=(sl enc s A xs).inb w b h.1 hb
theorem rd_nil {α:Type}{enc:α→List Value}{s c:Nat}{A:Option Addr}{w:World} (h:c≤maxLen):(rd enc s A c []).ok w:=⟨sl_nil,Nat.zero_le _,h⟩
theorem gr_cmax {α:Type}{enc:α→List Value}{s e c:Nat}{A:Option Addr}{l:List α}{w:World} (h:(gr enc s e A c l).ok w):c≤maxLen:=by
 rcases h.2 with ⟨q1,q2⟩ | ⟨g,cap,cur,q1,q2,q3,q4,q5,_⟩
 ·simp at q1; rw [q1.2.2]; exact Nat.zero_le _
 ·simp at q1; rw [q1.2]; exact q5
theorem gr_rd {α:Type}{enc:α→List Value}{s e c:Nat}{A:Option Addr}{l:List α}{w:World} (he:∀ x,(enc x).length=s) (h:(gr enc s e A c l).ok w):(rd enc s A c l).ok w:=⟨gr_sl he h,gr_le h,gr_cmax h⟩
theorem maxLen_eq:maxLen=9223372036854775807:=rfl
section
variable {ro:Option Nat}{P:Program}{full:Array Oper}{Q:Exit→Act→World→Prop}{n:Nat}{d:List Deferred}{e:Env}{w w0:World}{C:Nat→Prop}{X L:List Asr}
variable {rest:List Oper}{ty:TypeId}{ps:String}{af:Array Edge}
theorem p_mov {x:Operand}{i:Nat}{v:Value} (hv:evn n e x=v) (h:wpA ro P full Q rest (E n (upd e i v) d) w):wpA ro P full Q (⟨some i,.move x,ty,ps,af,none⟩::rest) (E n e d) w:=o_mov hv h
theorem p_mI {x:Operand}{i:Nat}{k:IntKind}{v:Int} (hv:evn n e x=.int k v) (h:wpA ro P full Q rest (E n (upd e i (.int k v)) d) w):wpA ro P full Q (⟨some i,.move x,ty,ps,af,none⟩::rest) (E n e d) w:=o_mov hv h
theorem p_mB {x:Operand}{i:Nat}{v:Bool} (hv:evn n e x=.bool v) (h:wpA ro P full Q rest (E n (upd e i (.bool v)) d) w):wpA ro P full Q (⟨some i,.move x,ty,ps,af,none⟩::rest) (E n e d) w:=o_mov hv h
theorem p_mS {x:Operand}{i:Nat}{A:Option Addr}{l c:Nat} (hv:evn n e x=.slice A l c) (h:wpA ro P full Q rest (E n (upd e i (.slice A l c)) d) w):wpA ro P full Q (⟨some i,.move x,ty,ps,af,none⟩::rest) (E n e d) w:=o_mov hv h
theorem p_mT {x:Operand}{i:Nat}{v:Array Value} (hv:evn n e x=.tuple v) (h:wpA ro P full Q rest (E n (upd e i (.tuple v)) d) w):wpA ro P full Q (⟨some i,.move x,ty,ps,af,none⟩::rest) (E n e d) w:=o_mov hv h
theorem p_asg {x:Operand}{i:Nat}{v:Value} (hv:evn n e x=v) (h:wpA ro P full Q rest (E n (upd e i v) d) w):wpA ro P full Q (⟨some i,.assign x,ty,ps,af,none⟩::rest) (E n e d) w:=o_asg hv h
theorem p_aI {x:Operand}{i:Nat}{k:IntKind}{v:Int} (hv:evn n e x=.int k v) (h:wpA ro P full Q rest (E n (upd e i (.int k v)) d) w):wpA ro P full Q (⟨some i,.assign x,ty,ps,af,none⟩::rest) (E n e d) w:=o_asg hv h
theorem p_aB {x:Operand}{i:Nat}{v:Bool} (hv:evn n e x=.bool v) (h:wpA ro P full Q rest (E n (upd e i (.bool v)) d) w):wpA ro P full Q (⟨some i,.assign x,ty,ps,af,none⟩::rest) (E n e d) w:=o_asg hv h
theorem p_aS {x:Operand}{i:Nat}{A:Option Addr}{l c:Nat} (hv:evn n e x=.slice A l c) (h:wpA ro P full Q rest (E n (upd e i (.slice A l c)) d) w):wpA ro P full Q (⟨some i,.assign x,ty,ps,af,none⟩::rest) (E n e d) w:=o_asg hv h
theorem p_add {x y:Operand}{i xt yt:Nat}{a b:Int} (hx:evn n e x=.int .i64 a) (hy:evn n e y=.int .i64 b) (h:wpA ro P full Q rest (E n (upd e i (I (wr (a+b)))) d) w):wpA ro P full Q (⟨some i,.binOp .add xt x y yt,ty,ps,af,none⟩::rest) (E n e d) w:=o_add hx hy rfl h
theorem p_sub {x y:Operand}{i xt yt:Nat}{a b:Int} (hx:evn n e x=.int .i64 a) (hy:evn n e y=.int .i64 b) (h:wpA ro P full Q rest (E n (upd e i (I (wr (a - b)))) d) w):wpA ro P full Q (⟨some i,.binOp .sub xt x y yt,ty,ps,af,none⟩::rest) (E n e d) w:=o_sub hx hy rfl h
theorem p_mul {x y:Operand}{i xt yt:Nat}{a b:Int} (hx:evn n e x=.int .i64 a) (hy:evn n e y=.int .i64 b) (h:wpA ro P full Q rest (E n (upd e i (I (wr (a*b)))) d) w):wpA ro P full Q (⟨some i,.binOp .mul xt x y yt,ty,ps,af,none⟩::rest) (E n e d) w:=o_mul hx hy rfl h
theorem p_neg {x:Operand}{i xt:Nat}{a:Int} (hx:evn n e x=.int .i64 a) (h:wpA ro P full Q rest (E n (upd e i (I (wr (-a)))) d) w):wpA ro P full Q (⟨some i,.unOp .neg xt x,ty,ps,af,none⟩::rest) (E n e d) w:=o_neg hx rfl h
theorem p_cmp {op:BinOp}{x y:Operand}{i xt yt:Nat}{k:IntKind}{a b:Int}{r:Bool} (hx:evn n e x=.int k a) (hy:evn n e y=.int k b) (hr:cmpI op a b=some r)
 (h:wpA ro P full Q rest (E n (upd e i (.bool r)) d) w):wpA ro P full Q (⟨some i,.binOp op xt x y yt,ty,ps,af,none⟩::rest) (E n e d) w:=o_cmp hx hy hr h
theorem p_not {x:Operand}{i xt:Nat}{b:Bool} (hx:evn n e x=.bool b) (h:wpA ro P full Q rest (E n (upd e i (.bool (!b))) d) w):wpA ro P full Q (⟨some i,.unOp .not xt x,ty,ps,af,none⟩::rest) (E n e d) w:=o_not hx h
theorem p_pkT {c x y:Operand}{i:Nat}{v:Value} (hc:evn n e c=.bool true) (hv:evn n e x=v) (h:wpA ro P full Q rest (E n (upd e i v) d) w):wpA ro P full Q (⟨some i,.pick c x y,ty,ps,af,none⟩::rest) (E n e d) w:=o_pickT hc rfl hv h
theorem p_pkF {c x y:Operand}{i:Nat}{v:Value} (hc:evn n e c=.bool false) (hv:evn n e y=v) (h:wpA ro P full Q rest (E n (upd e i v) d) w):wpA ro P full Q (⟨some i,.pick c x y,ty,ps,af,none⟩::rest) (E n e d) w:=o_pickF hc rfl hv h
theorem p_ext {x:Operand}{i k:Nat}{vs:List Value}{v:Value} (hx:evn n e x=.tuple vs.toArray) (hv:nth vs k=some v) (h:wpA ro P full Q rest (E n (upd e i v) d) w):wpA ro P full Q (⟨some i,.extract x k,ty,ps,af,none⟩::rest) (E n e d) w:=
 o_ext hx (by rw [nth_eq] at hv; simpa using hv) h
theorem p_bld {t i:Nat}{parts:Array (Nat×Operand)}{vals:List (Nat×Value)}{z cs:List Value}{pl:Array (Nat×Nat)} (hT:strOf P t=some (z.toArray,pl))
 (hv:parts.toList.map (fun (i,x)=>(i,evn n e x))=vals) (hf:Instr.fill (pl[·]?) z.toArray vals=some cs.toArray) (h:wpA ro P full Q rest (E n (upd e i (AG cs)) d) w):wpA ro P full Q (⟨some i,.build t parts,ty,ps,af,none⟩::rest) (E n e d) w:=o_build hT hv hf h
theorem p_len {i st:Nat}{x:Operand}{A:Option Addr}{len cp el s:Nat} (hx:evn n e x=.slice A len cp) (hT:slcOf P st=some (el,s)) (h:wpA ro P full Q rest (E n (upd e i (I (len:Int))) d) w):wpA ro P full Q (⟨some i,.call ⟨.builtin .len,#[x],#[st]⟩,ty,ps,af,none⟩::rest) (E n e d) w:=o_len hx hT h
theorem p_min {i t1 t2:Nat}{x y:Operand}{k:IntKind}{a b:Int} (hx:evn n e x=.int k a) (hy:evn n e y=.int k b) (h:wpA ro P full Q rest (E n (upd e i (.int k (if b < a then b else a))) d) w):wpA ro P full Q (⟨some i,.call ⟨.builtin .min,#[x,y],#[t1,t2]⟩,ty,ps,af,none⟩::rest) (E n e d) w:=o_min hx hy rfl h
theorem p_max {i t1 t2:Nat}{x y:Operand}{k:IntKind}{a b:Int} (hx:evn n e x=.int k a) (hy:evn n e y=.int k b) (h:wpA ro P full Q rest (E n (upd e i (.int k (if b > a then b else a))) d) w):wpA ro P full Q (⟨some i,.call ⟨.builtin .max,#[x,y],#[t1,t2]⟩,ty,ps,af,none⟩::rest) (E n e d) w:=o_max hx hy rfl h
theorem p_fld {s f i:Nat}{x:Operand}{b o k:Nat} (hf:fldOf P s f=some k) (hx:evn n e x=.pointer (some ⟨b,o,none⟩)) (h:wpA ro P full Q rest (E n (upd e i (Fx.P b (o+k))) d) w):wpA ro P full Q (⟨some i,.fieldAddr s x f,ty,ps,af,none⟩::rest) (E n e d) w:=o_fld hx hf rfl h
theorem p_ixc {t i:Nat}{x y:Operand}{b o len s:Nat}{k:IntKind}{j:Int} (hT:arrOf P t=some (len,s)) (hx:evn n e x=.pointer (some ⟨b,o,none⟩)) (hy:evn n e y=.int k j)
 (h0:0≤j) (h1:j < len) (h:wpA ro P full Q rest (E n (upd e i (Fx.P b (o+j.toNat*s))) d) w):wpA ro P full Q (⟨some i,.indexAddr t x y,ty,ps,af,none⟩::rest) (E n e d) w:=o_ixA hx hy hT h0 h1 rfl h
theorem p_ixE {α:Type}{enc:α→List Value}{s t i el len cp:Nat}{x y:Operand}{A:Option Addr}{k:IntKind}{j:Int}{l:List α}{z:α} (hT:slcOf P t=some (el,s)) (hg:getI l j=some z) (hw:(sl enc s A l).ok w) (hn:len=l.length)
 (hx:evn n e x=.slice A len cp) (hy:evn n e y=.int k j) (h:wpA ro P full Q rest (E n (upd e i (PE A (j.toNat*s+0))) d) w):wpA ro P full Q (⟨some i,.indexAddr t x y,ty,ps,af,none⟩::rest) (E n e d) w:=by
 obtain ⟨h0,hz⟩:=getI_some hg
 obtain ⟨b,o,rfl,_⟩:=sl_at hw hz
 have hlt:=(List.getElem?_eq_some_iff.1 hz).1
 exact o_ixS hx hy hT h0 (by omega) rfl h
theorem p_fldE {s f i:Nat}{x:Operand}{A:Option Addr}{o k:Nat} (hf:fldOf P s f=some k) (ha:∃ b q,A=some ⟨b,q,none⟩) (hx:evn n e x=PE A o) (h:wpA ro P full Q rest (E n (upd e i (PE A (o+k))) d) w):wpA ro P full Q (⟨some i,.fieldAddr s x f,ty,ps,af,none⟩::rest) (E n e d) w:=by
 obtain ⟨b,q,rfl⟩:=ha
 exact o_fld (by rw [hx]; rfl) hf rfl (by simpa [PE,offA,Nat.add_assoc] using h)
theorem sl_here {α:Type}{enc:α→List Value}{s:Nat}{A:Option Addr}{l:List α}{j:Int}{z:α} (hw:(sl enc s A l).ok w) (hg:getI l j=some z):∃ b q,A=some ⟨b,q,none⟩:=by
 obtain ⟨b,o,h,_⟩:=sl_at hw (getI_some hg).2
 exact ⟨b,o,h⟩
theorem p_ldE {α:Type}{enc:α→List Value}{s t i o:Nat}{x:Operand}{A:Option Addr}{j:Int}{l:List α}{z:α}{v:Value} (hT:aggOf P t=some false) (hg:getI l j=some z) (hw:(sl enc s A l).ok w) (hx:evn n e x=PE A (j.toNat*s+o)) (hv:nth (enc z) o=some v)
 (h:wpA ro P full Q rest (E n (upd e i v) d) w):wpA ro P full Q (⟨some i,.load t x,ty,ps,af,none⟩::rest) (E n e d) w:=by
 obtain ⟨h0,hz⟩:=getI_some hg
 obtain ⟨b,q,rfl,hc⟩:=sl_at hw hz
 refine o_ld1 (b:=b) (o:=q+(j.toNat*s+o)) (by rw [hx]; rfl) hT ?_ h
 rw [← Nat.add_assoc]
 exact hc o v (by rw [← nth_eq]; exact hv)
theorem p_ldEA {α:Type}{enc:α→List Value}{s t i:Nat}{x:Operand}{A:Option Addr}{j:Int}{l:List α}{z:α} (hT:aggOf P t=some true) (hs:sizOf P t=some s) (hl:(enc z).length=s) (hg:getI l j=some z) (hw:(sl enc s A l).ok w) (hx:evn n e x=PE A (j.toNat*s+0))
 (h:wpA ro P full Q rest (E n (upd e i (AG (enc z))) d) w):wpA ro P full Q (⟨some i,.load t x,ty,ps,af,none⟩::rest) (E n e d) w:=by
 obtain ⟨h0,hz⟩:=getI_some hg
 obtain ⟨b,q,rfl,hc⟩:=sl_at hw hz
 refine o_ldN (b:=b) (o:=q+(j.toNat*s+0)) (by rw [hx]; rfl) hT hs hl (fun k v hk=>?_) h
 rw [Nat.add_zero]
 exact hc k v hk
theorem p_ld {t i b o:Nat}{x:Operand}{cs:List Value}{ct:TypeId}{v:Value} (hT:aggOf P t=some false) (hw:w.heap[b]? =some (.cells cs.toArray ct)) (hx:evn n e x=.pointer (some ⟨b,o,none⟩)) (hv:nth cs o=some v)
 (h:wpA ro P full Q rest (E n (upd e i v) d) w):wpA ro P full Q (⟨some i,.load t x,ty,ps,af,none⟩::rest) (E n e d) w:=
 o_ld1 hx hT ((cell_of hw o).trans (by rw [nth_eq] at hv; simpa using hv)) h
theorem p_ldS {t i b o k m:Nat}{x:Operand}{pre post:List Value}{l:List Int}{ct:TypeId}{cs:List Value} (hT:aggOf P t=some false) (hw:w.heap[b]? =some (.cells cs.toArray ct)) (hc:cs=pre++sg l m++post) (hx:evn n e x=.pointer (some ⟨b,o+k*1,none⟩)) (ho:o=pre.length) (hk:k < m)
 (h:wpA ro P full Q rest (E n (upd e i (I (l.getD k 0))) d) w):wpA ro P full Q (⟨some i,.load t x,ty,ps,af,none⟩::rest) (E n e d) w:=by
 refine o_ld1 hx hT ((cell_of hw _).trans ?_) h
 subst hc ho
 rw [List.getElem?_toArray,List.append_assoc,List.getElem?_append_right (by omega),Nat.mul_one,Nat.add_sub_cancel_left,List.getElem?_append_left (by rw [sg_len]; exact hk),sg_get _ hk]
theorem p_ldA {t i s b:Nat}{x:Operand}{cs:List Value}{ct:TypeId} (hT:aggOf P t=some true) (hs:sizOf P t=some s) (hw:w.heap[b]? =some (.cells cs.toArray ct)) (hx:evn n e x=.pointer (some ⟨b,0,none⟩)) (hl:cs.length=s)
 (h:wpA ro P full Q rest (E n (upd e i (AG cs)) d) w):wpA ro P full Q (⟨some i,.load t x,ty,ps,af,none⟩::rest) (E n e d) w:=
 o_ldN hx hT hs hl (box_cells hw (by simp)) h
theorem p_ldP {t i s b o:Nat}{x:Operand}{cs vs:List Value}{ct:TypeId} (hT:aggOf P t=some true) (hs:sizOf P t=some s) (hw:w.heap[b]? =some (.cells cs.toArray ct)) (hx:evn n e x=.pointer (some ⟨b,o,none⟩)) (hl:vs.length=s) (hv:(cs.drop o).take s=vs)
 (h:wpA ro P full Q rest (E n (upd e i (AG vs)) d) w):wpA ro P full Q (⟨some i,.load t x,ty,ps,af,none⟩::rest) (E n e d) w:=
 o_ldN hx hT hs hl (box_cells hw (by subst hl; simpa using hv)) h
theorem p_box {t i:Nat}{x:Operand}{v:Value} (hv:evn n e x=v) (hc:v.cells=#[v]) (S:St w0 C w X L) (h:∀ b w',St w0 C w' (bl b [v] t::X) L→wpA ro P full Q rest (E n (upd e i (Fx.P b 0)) d) w'):wpA ro P full Q (⟨some i,.box t x,ty,ps,af,none⟩::rest) (E n e d) w:=
 o_box hv hc S fun b w' _ S' =>h b w' S'
theorem p_boxA {t i:Nat}{x:Operand}{cs:List Value} (hv:evn n e x=.agg cs.toArray) (S:St w0 C w X L) (h:∀ b w',St w0 C w' (bl b cs t::X) L→wpA ro P full Q rest (E n (upd e i (Fx.P b 0)) d) w'):wpA ro P full Q (⟨some i,.box t x,ty,ps,af,none⟩::rest) (E n e d) w:=
 o_box hv rfl S fun b w' _ S' =>h b w' S'
theorem p_all {t i:Nat}{z:Value}{s bb:Nat} (hT:infoOf P t=some (some z,s,bb)) (hc:z.cells=#[z]) (S:St w0 C w X L) (h:∀ b w',St w0 C w' (bl b [z] t::X) L→wpA ro P full Q rest (E n (upd e i (Fx.P b 0)) d) w'):wpA ro P full Q (⟨some i,.alloc t,ty,ps,af,none⟩::rest) (E n e d) w:=
 o_alloc hT hc S fun b w' _ S' =>h b w' S'
theorem p_allA {t i:Nat}{cs:List Value}{s bb:Nat} (hT:infoOf P t=some (some (.agg cs.toArray),s,bb)) (S:St w0 C w X L) (h:∀ b w',St w0 C w' (bl b cs t::X) L→wpA ro P full Q rest (E n (upd e i (Fx.P b 0)) d) w'):wpA ro P full Q (⟨some i,.alloc t,ty,ps,af,none⟩::rest) (E n e d) w:=
 o_alloc hT rfl S fun b w' _ S' =>h b w' S'
theorem putAt_toArray:∀ (vs pre old post:List Value),old.length=vs.length→putAt (pre++old++post).toArray pre.length vs=(pre++vs++post).toArray
 | [],pre,old,post,h=>by simp at h; subst h; rfl
 | v::vs,pre,[],post,h=>by simp at h
 | v::vs,pre,u::old,post,h=>by
   have ih:=putAt_toArray vs (pre++[v]) old post (by simpa using h)
   simp only [List.length_append,List.length_cons,List.length_nil,Nat.zero_add,List.append_assoc,List.cons_append,List.nil_append] at ih ⊢
   rw [putAt,← ih]
   congr 1
   simp
theorem p_st {t b i:Nat}{x y:Operand}{v u:Value}{ct:TypeId} (hs:sizOf P t=some 1) (S:St w0 C w X L) (hi:X[i]? =some (bl b [u] ct)) (hx:evn n e x=.pointer (some ⟨b,0,none⟩)) (hy:evn n e y=v) (hc:v.cells.toList=[v]) (h1:v.oneCell' =true)
 (h:∀ w',St w0 C w' (X.set i (bl b [v] ct)) L→wpA ro P full Q rest (E n e d) w'):wpA ro P full Q (⟨none,.store t x y,ty,ps,af,none⟩::rest) (E n e d) w:=
 o_sto hx hy hc hs rfl (by simp [h1]) S hi (by simp) (putAt_toArray [v] [] [u] [] rfl) h
theorem p_stP {t s b i o:Nat}{x y:Operand}{vs cs pre old post:List Value}{v:Value}{ct:TypeId} (hs:sizOf P t=some s) (S:St w0 C w X L) (hi:X[i]? =some (bl b cs ct)) (hcs:cs=pre++old++post) (hx:evn n e x=.pointer (some ⟨b,o,none⟩)) (ho:pre.length=o) (hy:evn n e y=v) (hc:v.cells.toList=vs) (hl:vs.length=s) (hl2:old.length=s) (h1:vs.all Value.oneCell' =true)
 (h:∀ w',St w0 C w' (X.set i (bl b (pre++vs++post) ct)) L→wpA ro P full Q rest (E n e d) w'):wpA ro P full Q (⟨none,.store t x y,ty,ps,af,none⟩::rest) (E n e d) w:=by
 subst hcs ho
 exact o_sto hx hy hc hs hl h1 S hi (by simp; omega) (putAt_toArray vs pre old post (by omega)) h
theorem putAt_one {pre post:List Value}{l l' :List Int}{m:Nat}{j x:Int} (hg:asetI l m j x=some l'):putAt (pre++sg l m++post).toArray (pre.length+j.toNat*1) [I x]=(pre++sg l' m++post).toArray:=by
 obtain ⟨h0,h1,rfl⟩:=asetI_some hg
 simp only [putAt,Nat.mul_one,List.append_assoc]
 rw [List.setIfInBounds_toArray]
 congr 1
 refine List.ext_getElem? fun q=>?_
 rw [List.getElem?_set]
 rcases Nat.lt_or_ge q pre.length with hq | hq
 ·rw [if_neg (by omega),List.getElem?_append_left hq,List.getElem?_append_left hq]
 ·rw [List.getElem?_append_right hq,List.getElem?_append_right hq]
  rcases Nat.lt_or_ge (q - pre.length) m with hm | hm
  ·rw [List.getElem?_append_left (by rw [sg_len]; exact hm),List.getElem?_append_left (by rw [sg_len]; exact hm),sg_get _ hm,sg_get _ hm]
   by_cases hj:pre.length+j.toNat=q
   ·rw [if_pos hj]
    have hlt:q - pre.length < m:=hm
    have:q - pre.length=j.toNat:=by omega
    simp [this,h1,sg_len]; omega
   ·rw [if_neg hj]
    have:¬q - pre.length=j.toNat:=by omega
    simp [List.getD,hm,this]
  ·rw [if_neg (by omega),List.getElem?_append_right (by rw [sg_len]; exact hm),List.getElem?_append_right (by rw [sg_len]; exact hm),sg_len,sg_len]
theorem p_stS {t b i o m:Nat}{x y:Operand}{cs pre post:List Value}{l l' :List Int}{j v:Int}{ct:TypeId} (hs:sizOf P t=some 1) (hg:asetI l m j v=some l') (S:St w0 C w X L) (hi:X[i]? =some (bl b cs ct)) (hcs:cs=pre++sg l m++post) (hx:evn n e x=.pointer (some ⟨b,o+j.toNat*1,none⟩)) (ho:pre.length=o) (hy:evn n e y=.int .i64 v)
 (h:∀ w',St w0 C w' (X.set i (bl b (pre++sg l' m++post) ct)) L→wpA ro P full Q rest (E n e d) w'):wpA ro P full Q (⟨none,.store t x y,ty,ps,af,none⟩::rest) (E n e d) w:=by
 subst hcs ho
 obtain ⟨h0,h1,_⟩:=asetI_some hg
 exact o_sto (vs:=[I v]) hx hy rfl hs rfl rfl S hi (by simp [sg_len]; omega) (putAt_one hg) h
def argsOf (n:Nat) (e:Env) (g:Operand) (aa:Array Operand):Option (Nat×List Value):=match evn n e g with | .func (.func f) first caps=>some (f,first.toList++(aa.toList.map (evn n e)++caps.toList)) | _=>none
theorem p_cal {i f:Nat}{g:Operand}{aa:Array Operand}{ts:Array TypeId}{vs:List Value}{R:Value→World→Prop} (hc:Calls P f vs.toArray w fun en w2=>∃ v,en=.returned v∧R v w2) (hF:funOf P f=true) (hv:argsOf n e g aa=some (f,vs))
 (h:∀ v w2,R v w2→wpA ro P full Q rest (E n (upd e i v) d) w2):wpA ro P full Q (⟨some i,.call ⟨.value g,aa,ts⟩,ty,ps,af,none⟩::rest) (E n e d) w:=by
 unfold argsOf at hv
 split at hv
 ·rename_i f' first caps hg
  simp only [Option.some.injEq,Prod.mk.injEq] at hv
  obtain ⟨rfl,rfl⟩:=hv
  refine o_call (first:=first) (caps:=caps) (args:=aa.toList.map (evn n e)) hg rfl hF ?_ hc h
  apply Array.ext'; simp
 ·cases hv
theorem p_cv {i f:Nat}{g:Operand}{aa:Array Operand}{ts:Array TypeId}{vs:List Value}{v:Value} (hc:Calls P f vs.toArray w (RetV w v)) (hF:funOf P f=true) (hv:argsOf n e g aa=some (f,vs)) (S:St w0 C w X L)
 (h:∀ w2,St w0 C w2 X L→wpA ro P full Q rest (E n (upd e i v) d) w2):wpA ro P full Q (⟨some i,.call ⟨.value g,aa,ts⟩,ty,ps,af,none⟩::rest) (E n e d) w:=
 p_cal (R:=fun u w2=>u=v∧Keep0 w w2) hc hF hv fun u w2 ⟨hu,hk⟩=>hu▸h w2 (S.call hk)
theorem gT {dst:Option Nat}{op:Op}{j s:Nat}{want:Bool} (hj:(full[j]?).bind (·.dst)=some s) (hs:evn n e (.tmp s)=.bool want)
 (h:wpA ro P full Q (⟨dst,op,ty,ps,af,none⟩::rest) (E n e d) w):wpA ro P full Q (⟨dst,op,ty,ps,af,some (j,want)⟩::rest) (E n e d) w:=
 o_guard (t:=want) hj hs (fun _=>h) (fun h' =>by cases want <;> cases h')
theorem gF {dst:Option Nat}{op:Op}{j s:Nat}{want:Bool} (hj:(full[j]?).bind (·.dst)=some s) (hs:evn n e (.tmp s)=.bool (!want))
 (h:wpA ro P full Q rest (E n (updo e dst undef) d) w):wpA ro P full Q (⟨dst,op,ty,ps,af,some (j,want)⟩::rest) (E n e d) w:=
 o_guard (t:=!want) hj hs (fun h' =>by cases want <;> cases h') (fun _=>h)
end
end Go.Fx
namespace Go.Fx
open Go
def reads (full:Array Oper) (o:Oper):List Nat:=(o.op.operands.toList.filterMap fun | .tmp t=>some t | _=>none)++(match o.guard with | some (j,_)=>((full[j]?).bind (·.dst)).toList | none=>[])
def plainOp (o:Oper):Bool:=match o.op with | .select _ _=>false | .defer _=>false | _=>true
section
variable {ro:Option Nat}{P:Program}{n:Nat}{d:List Deferred}{w:World}
theorem evn_congr {e e' :Env}{full:Array Oper}{o:Oper} (ha:∀ s∈reads full o,e' s=e s):∀ x∈o.op.operands,evn n e' x=evn n e x:=by
 intro x hx
 cases x with
 | tmp t=>
   have:e' t=e t:=ha t (List.mem_append_left _ (List.mem_filterMap.2 ⟨.tmp t,by simpa using hx,rfl⟩))
   simp only [evn,this]
 | _=>rfl
theorem wanted_congr {e e' :Env}{full:Array Oper}{o:Oper} (ha:∀ s∈reads full o,e' s=e s):Region.wanted o (yielded full (E n e' d).tmps)=Region.wanted o (yielded full (E n e d).tmps):=by
 unfold Region.wanted
 cases hg:o.guard with
 | none=>rfl
 | some gw=>
   obtain ⟨j,want⟩:=gw
   have hy:yielded full (E n e' d).tmps j=yielded full (E n e d).tmps j:=by
    unfold yielded
    cases ht:(full[j]?).bind (·.dst) with
    | none=>rfl
    | some t=>
      have:e' t=e t:=ha t (List.mem_append_right _ (by simp [hg,ht]))
      simp only [E,Array.getElem?_ofFn]
      by_cases h:t < n <;> simp [h,this]
   simp only [hy]
theorem E_ext {e e' :Env} (h:∀ j,j < n→e j=e' j):E n e d=E n e' d:=by
 unfold E
 congr 1
 refine Array.ext (by simp) fun j h1 h2=>?_
 simp only [Array.getElem_ofFn]
 exact h j (by simpa using h1)
theorem done_put {e e' :Env}{full:Array Oper}{dst:Option Nat}{R:Rx} (hR:∀ e e' v lo hi w,R.ok e v lo hi w→R.ok e' v lo hi w) {v' :Value}{w' :World} (h:wpA ro P full (Done n d e w dst R) [] ((E n e d).put dst v') w'):wpA ro P full (Done n d e' w dst R) [] ((E n e' d).put dst v') w' :=by
 unfold wpA at h ⊢
 rw [E_put] at h ⊢
 obtain ⟨v,hu,hk,hv⟩:=h
 refine ⟨v,E_ext fun j hj=>?_,hk,hR _ _ _ _ _ _ hv⟩
 cases dst with
 | none=>rfl
 | some i=>
   simp only [updo,upd]
   by_cases hji:j=i
   ·subst hji
    have h1:=congrArg (fun a:Act=>a.tmps[j]?) hu
    simp [E,hj,updo,upd] at h1
    simp [h1]
   ·simp [nbeq hji]
theorem letsOut_done {e:Env}{dst:Option Nat}{R:Rx} (h:LetsOut (Done n d e w dst R)):False:=by
 obtain ⟨a,w,h⟩:=h
 exact h
theorem wp1_congr {e e' :Env}{full:Array Oper}{o:Oper}{R:Rx} (hR:∀ e e' v lo hi w,R.ok e v lo hi w→R.ok e' v lo hi w) (hp:plainOp o=true) (ha:∀ s∈reads full o,e' s=e s) (h:wpA ro P full (Done n d e w o.dst R) [o] (E n e d) w):wpA ro P full (Done n d e' w o.dst R) [o] (E n e' d) w:=by
 have hd:∀ c,o.op≠.defer c:=fun c hc=>by simp [plainOp,hc] at hp
 have hs:∀ cs b,o.op≠.select cs b:=fun cs b hc=>by simp [plainOp,hc] at hp
 unfold wpA at h ⊢
 rw [wanted_congr (d:=d) (n:=n) ha]
 split at h
 ·rename_i hw
  rw [if_pos hw]
  obtain ⟨_,h⟩:=h
  refine ⟨fun _ _=>trivial,?_⟩
  rw [Oper.semAt_eq _ _ _ hd,E_eval] at h ⊢
  rw [execOp_congr o hs (evn_congr ha)]
  have fin:∀ v' w',wpA ro P full (Done n d e w o.dst R) [] ((E n e d).put o.dst v') w' →wpA ro P full (Done n d e' w o.dst R) [] ((E n e' d).put o.dst v') w' :=fun _ _ h=>done_put hR h
  revert h
  generalize (execOp (evn n e) o).run P w=r
  intro h
  unfold Oper.uponIn at h ⊢
  split at h
  ·exact fin _ _ h
  ·exact fin _ _ h
  ·exfalso
   unfold wpA at h
   obtain ⟨u,hu,_⟩:=h
   have:=congrArg Act.defers hu
   cases hdst:o.dst <;> simp [hdst,Act.put,E] at this
  ·refine ⟨h.1,h.2.mono fun en w' he=>?_⟩
   cases en with
   | returned v=>exact fin _ _ he
   | panicked c=>exact he.elim
   | outgrown=>exact (letsOut_done he).elim
  ·exact ⟨h.1,h.2.mono fun v w' he=>fin _ _ he⟩
  ·refine ⟨h.1,h.2.mono fun en w' he=>?_⟩
   cases en with
   | returned v=>exact fin _ _ he
   | panicked c=>exact he.elim
   | outgrown=>exact (letsOut_done he).elim
  ·exact h.elim
  ·exact h.elim
 ·rename_i hw
  rw [if_neg hw]
  exact done_put hR h
def DSk (ro:Option Nat) (P:Program) (full:Array Oper) (n:Nat) (d:List Deferred) (w:World):List Oper→Env→(Env→Prop)→Prop
 | [],e,K=>K e
 | o::os,e,K=>∃ v,(∀ w',Keep0 w w' →wpA ro P full (Done n d e w' o.dst (rv v)) [o] (E n e d) w')∧DSk ro P full n d w os (updo e o.dst v) K
theorem dS {full:Array Oper}{o:Oper}{os:List Oper}{e:Env}{K:Env→Prop}{v:Value} (h:∀ w',Keep0 w w' →wpA ro P full (Done n d e w' o.dst (rv v)) [o] (E n e d) w') (hk:DSk ro P full n d w os (updo e o.dst v) K):DSk ro P full n d w (o::os) e K:=⟨v,h,hk⟩
theorem dn {full:Array Oper}{e:Env}{i:Nat}{v:Value}:wpA ro P full (Done n d e w (some i) (rv v)) [] (E n (upd e i v) d) w:=wp_nil ⟨v,rfl,Keep.refl _ _,rfl⟩
theorem dnU {full:Array Oper}{e:Env}{i:Nat}:wpA ro P full (Done n d e w (some i) (rv undef)) [] (E n (updo e (some i) undef) d) w:=wp_nil ⟨undef,rfl,Keep.refl _ _,rfl⟩
def seqE (e:Env) (ps:List (Oper×Value)):Env:=ps.foldl (fun e p=>updo e p.1.dst p.2) e
theorem dsk_vals {full:Array Oper}{K:Env→Prop}:∀ {os:List Oper}{e:Env},DSk ro P full n d w os e K→∃ vs:List Value,vs.length=os.length∧(∀ i o v,os[i]? =some o→vs[i]? =some v→∀ w',Keep0 w w' →wpA ro P full (Done n d (seqE e ((os.zip vs).take i)) w' o.dst (rv v)) [o] (E n (seqE e ((os.zip vs).take i)) d) w')∧K (seqE e (os.zip vs))
 | [],e,h=>⟨[],rfl,fun i o v h1=>by simp at h1,h⟩
 | o::os,e,⟨v,h1,h2⟩=>by
   obtain ⟨vs,hl,hh,hK⟩:=dsk_vals h2
   refine ⟨v::vs,by simp [hl],fun i o' v' ho hv=>?_,hK⟩
   cases i with
   | zero=>
     simp at ho hv
     subst ho hv
     exact h1
   | succ i=>
     have:=hh i o' v' (by simpa using ho) (by simpa using hv)
     simpa [seqE] using this
theorem seqE_not {s:Nat}:∀ (ps:List (Oper×Value)) (e:Env),(∀ p∈ps,p.1.dst≠some s)→seqE e ps s=e s
 | [],_,_=>rfl
 | p::ps,e,h=>by
   have ih:=seqE_not ps (updo e p.1.dst p.2) fun q hq=>h q (List.mem_cons_of_mem _ hq)
   have hp:=h p (List.mem_cons_self ..)
   simp only [seqE,List.foldl_cons] at ih ⊢
   rw [ih]
   cases hd:p.1.dst with
   | none=>rfl
   | some i=>
     have:s≠i:=fun hh=>hp (by rw [hd,hh])
     simp [updo,upd,nbeq this]
theorem seqE_at {s j:Nat}{o:Oper}{v:Value}:∀ (ps:List (Oper×Value)) (e:Env),ps[j]? =some (o,v)→o.dst=some s→(∀ i p,ps[i]? =some p→p.1.dst=some s→i=j)→seqE e ps s=v:=by
 intro ps
 induction ps generalizing j with
 | nil=>intro e h; simp at h
 | cons p ps ih=>
   intro e h ho hu
   cases j with
   | zero=>
     simp at h
     subst h
     have:=seqE_not (s:=s) ps (updo e o.dst v) fun q hq=>by
      obtain ⟨i,hi,rfl⟩:=List.getElem_of_mem hq
      intro hd
      have:=hu (i+1) ps[i] (by simp [hi]) hd
      omega
     simp only [seqE,List.foldl_cons] at this ⊢
     rw [this,ho]
     simp [updo,upd]
   | succ j=>
     have:=ih (j:=j) (updo e p.1.dst p.2) (by simpa using h) ho fun i q hq hd=>by
      have:=hu (i+1) q (by simpa using hq) hd
      omega
     simpa [seqE] using this
def okQ (l:List Oper) (m:Nat) (fl:Option Nat):Bool:=
 okDraw l m fl&&(List.range m).all fun i=>match l[i]? with
  | none=>true
  | some o=>plainOp o&&(reads l.toArray o).all fun s=>(List.range m).all fun j=>dstAt l j != some s||((anc l).getD i []).contains j
theorem okQ_spec {l:List Oper}{m:Nat}{fl:Option Nat} (h:okQ l m fl=true):okDraw l m fl=true∧∀ i o,i < m→l[i]? =some o→plainOp o=true∧∀ s∈reads l.toArray o,∀ j,j < m→dstAt l j=some s→((anc l).getD i []).contains j=true:=by
 simp only [okQ,Bool.and_eq_true] at h
 refine ⟨h.1,fun i o hi ho=>?_⟩
 have:=List.all_eq_true.1 h.2 i (List.mem_range.2 hi)
 rw [ho] at this
 simp only [Bool.and_eq_true] at this
 refine ⟨this.1,fun s hs j hj hd=>?_⟩
 have:=List.all_eq_true.1 (List.all_eq_true.1 this.2 s hs) j (List.mem_range.2 hj)
 simpa [hd] using this
section
variable {Q:Exit→Act→World→Prop}{e:Env}{l:List Oper}{id:Nat}
theorem q_env {m:Nat}{fl:Option Nat}{vs:List Value} (hok:okDraw l m fl=true) (hl:vs.length=(l.take m).length) {e' :Env}{k:Nat} (hk:k≤m) {s:Nat} (hfr:notDst l m s=true→e' s=e s) (hv:∀ j v,j < m→dstAt l j=some s→vs[j]? =some v→e' s=v∧j < k):
 e' s=seqE e (((l.take m).zip vs).take k) s:=by
 obtain ⟨_,_,hml,hdst,_,_⟩:=okDraw_spec hok
 have hlm:(l.take m).length=m:=by simp; omega
 have hat:∀ i p,(((l.take m).zip vs).take k)[i]? =some p→i < k∧i < m∧l[i]? =some p.1∧vs[i]? =some p.2:=by
  intro i p hp
  rw [List.getElem?_take] at hp
  split at hp
  ·rename_i hik
   rw [List.getElem?_zip_eq_some] at hp
   have h1:=hp.1
   rw [List.getElem?_take] at h1
   split at h1
   ·exact ⟨hik,by omega,h1,hp.2⟩
   ·cases h1
  ·cases hp
 by_cases hh:∃ j o,j < m∧l[j]? =some o∧o.dst=some s
 ·obtain ⟨j,o,hj,ho,hd⟩:=hh
  have hvj:∃ v,vs[j]? =some v:=⟨vs[j]'(by omega),List.getElem?_eq_getElem _⟩
  obtain ⟨v,hvj⟩:=hvj
  have hds:dstAt l j=some s:=by simp [dstAt,ho,hd]
  obtain ⟨h1,h2⟩:=hv j v hj hds hvj
  rw [h1]
  refine (seqE_at (j:=j) (o:=o) (v:=v) _ e ?_ hd fun i p hp hpd=>?_).symm
  ·rw [List.getElem?_take,if_pos h2,List.getElem?_zip_eq_some]
   exact ⟨by rw [List.getElem?_take,if_pos hj]; exact ho,hvj⟩
  ·obtain ⟨a1,a2,a3,a4⟩:=hat i p hp
   exact hdst i j s a2 hj (by simp [dstAt,a3,hpd]) hds
 ·rw [seqE_not _ e fun p hp hpd=>?_]
  ·refine hfr (List.all_eq_true.2 fun o ho=>?_)
   obtain ⟨j,hj,rfl⟩:=List.getElem_of_mem ho
   have hjm:j < m:=by rw [hlm] at hj; exact hj
   have:¬(l.take m)[j].dst=some s:=fun hd=>hh ⟨j,_,hjm,by rw [List.getElem_take]; exact List.getElem?_eq_getElem _,hd⟩
   simpa using this
  ·obtain ⟨i,hi,rfl⟩:=List.getElem_of_mem hp
   obtain ⟨a1,a2,a3,a4⟩:=hat i _ (List.getElem?_eq_getElem hi)
   exact hh ⟨i,_,a2,a3,hpd⟩
theorem anc_lt {m:Nat}{fl:Option Nat} (hok:okDraw l m fl=true) {i j:Nat} (hi:i < l.length) (h:((anc l).getD i []).contains j=true):j < i:=by
 obtain ⟨_,_,_,_,_,h6⟩:=okDraw_spec hok
 exact (h6 (fun _=>True) (fun _ _ _ _ _ _=>trivial) i j hi trivial h).1
theorem q_hop {m:Nat}{fl:Option Nat}{vs:List Value} (hok:okQ l m fl=true) (hl:vs.length=(l.take m).length)
 (hh:∀ i o v,(l.take m)[i]? =some o→vs[i]? =some v→∀ w',Keep0 w w' →wpA ro P l.toArray (Done n d (seqE e (((l.take m).zip vs).take i)) w' o.dst (rv v)) [o] (E n (seqE e (((l.take m).zip vs).take i)) d) w')
 {i:Nat}{o:Oper} (ho:l[i]? =some o) (him:i < m) {e' :Env}{w' :World} (hk:Keep0 w w') (hfr:∀ s,notDst l m s=true→e' s=e s) (hR:∀ j s,((anc l).getD i []).contains j=true→j < m→dstAt l j=some s→∃ lo hi,w.heap.size≤lo∧hi≤w'.heap.size∧((vs.map rv).getD j default).ok e' (e' s) lo hi w'):
 wpA ro P l.toArray (Done n d e' w' o.dst ((vs.map rv).getD i default)) [o] (E n e' d) w' :=by
 obtain ⟨hd,hq⟩:=okQ_spec hok
 obtain ⟨_,_,hml,_,_,_⟩:=okDraw_spec hd
 have hlm:(l.take m).length=m:=by simp; omega
 have hvi:vs[i]? =some (vs[i]'(by omega)):=List.getElem?_eq_getElem _
 have hRi:(vs.map rv).getD i default=rv (vs[i]'(by omega)):=by simp [List.getD,hvi]
 rw [hRi]
 refine wp1_congr (R:=rv _) (fun _ _ _ _ _ _ h=>h) (hq i o him ho).1 (fun s hs=>?_) (hh i o _ (by rw [List.getElem?_take,if_pos him]; exact ho) hvi w' hk)
 refine q_env hd hl (Nat.le_of_lt him) (hfr s) fun j v hj hds hv=>?_
 have hc:=(hq i o him ho).2 s hs j hj hds
 obtain ⟨lo,hi,_,_,hok2⟩:=hR j s hc hj hds
 have hRj:(vs.map rv).getD j default=rv v:=by simp [List.getD,hv]
 rw [hRj] at hok2
 exact ⟨hok2,anc_lt hd (by have:=(List.getElem?_eq_some_iff.1 ho).1; omega) hc⟩
theorem dep_rv {m:Nat} (vs:List Value):depOk l m ((vs.map rv).map (·.deps))=true:=by
 unfold depOk
 refine List.all_eq_true.2 fun i _=>?_
 have:((vs.map rv).map (·.deps)).getD i []=[]:=by
  simp only [List.getD,List.getElem?_map]
  cases vs[i]? <;> rfl
 rw [this]
 rfl
theorem reg_q (hm:P.follows .mixedOrders=true) (m:Nat) (hok:okQ l m none=true) (h:DSk ro P l.toArray n d w (l.take m) e fun e' =>∀ w',Keep0 w w' →wpA ro P l.toArray Q (l.drop m) (E n e' d) w'):
 (Code.region id l.toArray true).wpIn (Fr ro) 0 P Q (E n e d) w:=by
 obtain ⟨vs,hl,hh,hK⟩:=dsk_vals h
 obtain ⟨hd,hq⟩:=okQ_spec hok
 have hlm:(l.take m).length=m:=by have:=(okDraw_spec hd).2.2.1; simp; omega
 refine reg_draw hm m none hd (vs.map rv) _ rfl (dep_rv vs) _ rfl (fun i o ho him e' w' hk hfr hR=>q_hop hok hl hh ho him hk hfr hR) (fun e' w' hk hfr ⟨lo,hi,h1,_⟩=>?_) (fun f hf=>by cases hf)
 have he:e' =seqE e ((l.take m).zip vs):=by
  funext s
  have:=q_env (e:=e) (e' :=e') hd hl (Nat.le_refl m) (hfr s) fun j v hj hds hv=>by
   have h2:=(h1 j s hj hds).2.2.2
   have hRj:(vs.map rv).getD j default=rv v:=by simp [List.getD,hv]
   rw [hRj] at h2
   exact ⟨h2,hj⟩
  rwa [List.take_of_length_le (by simp; omega)] at this
 rw [he]
 exact hK w' hk
end
end
end Go.Fx
namespace Go.Fx
open Go
section
variable {ro:Option Nat}{P:Program}{full:Array Oper}{Q:Exit→Act→World→Prop}{n:Nat}{d:List Deferred}{e:Env}{w w0:World}{C:Nat→Prop}{X L:List Asr}
variable {rest:List Oper}{ty:TypeId}{ps:String}{af:Array Edge}
theorem p_cvD {i f:Nat}{g:Operand}{aa:Array Operand}{ts:Array TypeId}{vs:List Value}{v:Value} (hc:Calls P f vs.toArray w (RetV w v)) (hF:funOf P f=true) (hv:argsOf n e g aa=some (f,vs)):
 wpA ro P full (Done n d e w (some i) (rv v)) [⟨some i,.call ⟨.value g,aa,ts⟩,ty,ps,af,none⟩] (E n e d) w:=
 p_cal (R:=fun u w2=>u=v∧Keep0 w w2) hc hF hv fun u w2 ⟨hu,hk⟩=>wp_nil ⟨u,rfl,hk,hu⟩
end
end Go.Fx
namespace Go.Fx
open Go
section
variable {ro:Option Nat}{P:Program}{full:Array Oper}{Q:Exit→Act→World→Prop}{n:Nat}{d:List Deferred}{e:Env}{w w0 w' :World}{C:Nat→Prop}{X L:List Asr}
variable {rest:List Oper}{ty:TypeId}{ps:String}{af:Array Edge}
theorem c_join {x y:Code}{α β:Type} (L:α→β→List (Nat×Value)) (I:α→β→World→Prop)
 (hx:x.wpIn (Fr ro) 0 P (Exit.then (fun a w' =>∃ (z:α) (b:β) (e' :Env),a=E n e' d∧Has e' (L z b)∧I z b w') Q) (E n e d) w)
 (hy:∀ (z:α) (b:β) (g:Env) (w:World),I z b w→y.wpIn (Fr ro) 0 P Q (E n (ups g (L z b)) d) w):(Code.seq x y).wpIn (Fr ro) 0 P Q (E n e d) w:=by
 refine wpIn_seq (wpIn_mono hx ?_)
 intro ex a' w' hq
 cases ex with
 | normal=>
   obtain ⟨z,b,e',rfl,hh,hI⟩:=hq
   have:=hy z b e' w' hI
   rwa [ups_has hh] at this
 | exit id=>exact hq
 | goto l=>exact hq
 | ret=>exact hq
 | panic c=>exact hq
 | outgrown=>exact hq
theorem c_lop {c:Code}{α β ρ:Type} (body:(α→Option ρ)→α→Option ρ) {r:ρ} (L:α→β→List (Nat×Value)) (I:α→β→World→Prop) {m:Nat} (x:α) (y:β) (H:loopF body m x=some r) (hL:Has e (L x y)) (h0:I x y w)
 (round:∀ (m:Nat) (x:α) (y:β) (g:Env) (w:World),body (loopF body m) x=some r→I x y w→
  c.wpIn (Fr ro) 0 P (Exit.then (fun a w' =>∃ (x' :α) (y' :β) (e' :Env),a=E n e' d∧Has e' (L x' y')∧loopF body m x' =some r∧I x' y' w') Q) (E n (ups g (L x y)) d) w):
 (Code.loop c).wpIn (Fr ro) 0 P Q (E n e d) w:=by
 refine c_loop (α:=Nat×α×β) (fun z=>L z.2.1 z.2.2) (fun z w=>loopF body z.1 z.2.1=some r∧I z.2.1 z.2.2 w) (fun z=>z.1) (m,x,y) hL ⟨H,h0⟩ ?_
 rintro ⟨m,x,y⟩ g w ⟨H,hI⟩
 obtain ⟨k,rfl,H⟩:=loopS H
 refine wpIn_mono (round k x y g w H hI) ?_
 intro ex a' w' hq
 cases ex with
 | normal=>
   obtain ⟨x',y',e',rfl,hh,hH,hI'⟩:=hq
   exact ⟨(k,x',y'),e',rfl,hh,⟨hH,hI'⟩,Nat.lt_succ_self _⟩
 | exit id=>exact hq
 | goto l=>exact hq
 | ret=>exact hq
 | panic c=>exact hq
 | outgrown=>exact hq
theorem eB {i:Nat}{r v:Bool} (h:r=v) (k:wpA ro P full Q rest (E n (upd e i (B v)) d) w):wpA ro P full Q rest (E n (upd e i (.bool r)) d) w:=by subst h; exact k
theorem dB {os:List Oper}{i:Nat}{r v:Bool}{K:Env→Prop} (h:r=v) (k:DSk ro P full n d w os (updo e (some i) (B v)) K):DSk ro P full n d w os (updo e (some i) (.bool r)) K:=by subst h; exact k
theorem St.addNew (S:St w0 C w X L) (k:Keep0 w w') {x:Asr} (hx:x.ok w') (hn:New w.heap.size x):St w0 C w' (x::X) L:=
 S.addX k hx hn (fun y hy b h1 h2=>by have:=y.inb _ _ (S.xs y hy) h2; have:=hn b h1; omega) (fun y hy b h1 h2=>by have:=y.inb _ _ (S.ps y hy) h2; have:=hn b h1; omega)
theorem St.pk (S:St w0 C w X L) (is:List Nat) (hn:is.Nodup) (js:List Nat) {X' L' :List Asr} (hX:is.filterMap (X[·]?)=X') (hL:js.filterMap (L[·]?)=L'):St w0 C w X' L' :=by
 have S' :=S.pick is hn hX (k:=0) rfl
 refine ⟨S'.keep,S'.xs,fun p hp=>?_,S'.dx,fun x hx p hp=>?_,S'.own⟩
 ·subst hL
  obtain ⟨i,_,hi⟩:=List.mem_filterMap.1 hp
  exact S.ps p (List.mem_of_getElem? hi)
 ·subst hL
  obtain ⟨i,_,hi⟩:=List.mem_filterMap.1 hp
  exact S'.dp x hx p (List.mem_of_getElem? (i:=i) (by simpa using hi))
theorem St.fixRd {α:Type}{enc:α→List Value}{s el c:Nat}{A:Option Addr}{l:List α} (S:St w0 C w X L) {i:Nat} (he:∀ x,(enc x).length=s) (hi:X[i]? =some (gr enc s el A c l)):St w0 C w (X.eraseIdx i) (rd enc s A c l::L):=by
 have S' :=S.fix hi
 have hg:(gr enc s el A c l).ok w:=S.atX hi
 refine ⟨S'.keep,S'.xs,fun p hp=>?_,S'.dx,fun x hx p hp b h1 h2=>?_,S'.own⟩
 ·rcases List.mem_cons.1 hp with rfl | h
  ·exact gr_rd he hg
  ·exact S'.ps p (List.mem_cons_of_mem _ h)
 ·rcases List.mem_cons.1 hp with rfl | h
  ·exact S'.dp x hx _ (List.mem_cons_self ..) b h1 (gr_fp b h2)
  ·exact S'.dp x hx p (List.mem_cons_of_mem _ h) b h1 h2
def inI (j:Int) (n:Nat):Bool:=decide (0≤j)&&decide (j < n)
theorem inI_spec {j:Int}{n:Nat} (h:inI j n=true):0≤j∧j < n:=by simpa [inI] using h
def aget (l:List Int) (j:Int):Int:=l.getD j.toNat 0
def aset (l:List Int) (n:Nat) (i x:Int):List Int:=(List.range n).map fun k=>if k=i.toNat then x else l.getD k 0
theorem p_ixD {t i:Nat}{x y:Operand}{b o len s:Nat}{k:IntKind}{j:Int} (hT:arrOf P t=some (len,s)) (hj:inI j len=true) (hx:evn n e x=.pointer (some ⟨b,o,none⟩)) (hy:evn n e y=.int k j)
 (h:wpA ro P full Q rest (E n (upd e i (Fx.P b (o+j.toNat*s))) d) w):wpA ro P full Q (⟨some i,.indexAddr t x y,ty,ps,af,none⟩::rest) (E n e d) w:=o_ixA hx hy hT (inI_spec hj).1 (inI_spec hj).2 rfl h
theorem p_ldD {t i b o m:Nat}{x:Operand}{pre post cs:List Value}{l:List Int}{j:Int}{ct:TypeId} (hT:aggOf P t=some false) (hw:w.heap[b]? =some (.cells cs.toArray ct)) (hc:cs=pre++(sg l m++post)) (hj:inI j m=true) (hx:evn n e x=.pointer (some ⟨b,o+j.toNat*1,none⟩)) (ho:o=pre.length)
 (h:wpA ro P full Q rest (E n (upd e i (I (aget l j))) d) w):wpA ro P full Q (⟨some i,.load t x,ty,ps,af,none⟩::rest) (E n e d) w:=by
 obtain ⟨h0,h1⟩:=inI_spec hj
 exact p_ldS hT hw (by rw [hc,List.append_assoc]) hx ho (by omega) h
theorem p_stD {t b i o m:Nat}{x y:Operand}{cs pre post:List Value}{l:List Int}{j v:Int}{ct:TypeId} (hs:sizOf P t=some 1) (S:St w0 C w X L) (hi:X[i]? =some (bl b cs ct)) (hcs:cs=pre++(sg l m++post)) (hj:inI j m=true) (hx:evn n e x=.pointer (some ⟨b,o+j.toNat*1,none⟩)) (ho:pre.length=o) (hy:evn n e y=.int .i64 v)
 (h:∀ w',St w0 C w' (X.set i (bl b (pre++(sg (aset l m j v) m++post)) ct)) L→wpA ro P full Q rest (E n e d) w'):wpA ro P full Q (⟨none,.store t x y,ty,ps,af,none⟩::rest) (E n e d) w:=by
 obtain ⟨h0,h1⟩:=inI_spec hj
 refine p_stS (l' :=aset l m j v) hs ?_ S hi (by rw [hcs,List.append_assoc]) hx ho hy fun w' S' =>h w' (by rwa [List.append_assoc] at S')
 simp [asetI,aset,h0,h1]
theorem p_cut3 {α:Type}{enc:α→List Value}{t i el s c:Nat}{x hi mx:Operand}{A:Option Addr}{l:List α} (hT:slcOf P t=some (el,s)) (hw:(rd enc s A c l).ok w) (hx:evn n e x=.slice A l.length c) (hhi:evn n e hi=I (l.length:Int)) (hmx:evn n e mx=I (l.length:Int))
 (h:wpA ro P full Q rest (E n (upd e i (SL A l.length l.length)) d) w):wpA ro P full Q (⟨some i,.slice t x none (some hi) (some mx),ty,ps,af,none⟩::rest) (E n e d) w:=
 o_cut3E hx hT hhi hmx (by omega) (Int.le_refl _) (by have:=hw.2.1; omega) (by simp) (by simp) h
theorem rd_full {α:Type}{enc:α→List Value}{s c:Nat}{A:Option Addr}{l:List α} (hw:(rd enc s A c l).ok w):(rd enc s A l.length l).ok w:=⟨hw.1,Nat.le_refl _,Nat.le_trans hw.2.1 hw.2.2⟩
def fitsL (m bb:Nat):Bool:=decide (m*bb≤140737488355328)
theorem fitsL_spec {m bb:Nat} (h:fitsL m bb=true):m*bb≤140737488355328:=by simpa [fitsL] using h
section
variable {α:Type}{enc:α→List Value}{s:Nat}
theorem p_app {st i el bb k:Nat}{x y:Operand}{A B:Option Addr}{c c2:Nat}{z:Value}{l ys:List α} (hT:slcOf P st=some (el,s)) (hz:infoOf P el=some (some z,s,bb)) (hzs:z.cells.size=s) (he:∀ x,(enc x).length=s) (h1:∀ x,∀ u∈enc x,u.oneCell' =true) (hbb:0 < bb)
 (S:St w0 C w X L) (hi:X[k]? =some (gr enc s el A c l)) (hys:(sl enc s B ys).ok w) (hbig:fitsL (l.length+ys.length) bb=true) (hne:ys≠[]) (hx:evn n e x=.slice A l.length c) (hy:evn n e y=.slice B ys.length c2)
 (h:∀ A' c' w',St w0 C w' (X.set k (gr enc s el A' c' (l++ys))) L→wpA ro P full Q rest (E n (upd e i (SL A' (l++ys).length c')) d) w'):
 wpA ro P full Q (⟨some i,.call ⟨.builtin .append,#[x,y],#[st,st]⟩,ty,ps,af,none⟩::rest) (E n e d) w:=
 o_app hx hy hT hz hzs he h1 S hi rfl rfl hys hne (fitsL_spec hbig) hbb fun A' c' w' S' =>by
  have:=h (some A') c' w' S'
  rwa [List.length_append] at this
theorem p_appN {st i el bb:Nat}{x y:Operand}{A B:Option Addr}{c c2:Nat}{z:Value}{l ys:List α} (hT:slcOf P st=some (el,s)) (hz:infoOf P el=some (some z,s,bb)) (hzs:z.cells.size=s) (he:∀ x,(enc x).length=s) (hbb:0 < bb)
 (S:St w0 C w X L) (hl:(sl enc s A l).ok w) (hc:c=l.length) (hys:(sl enc s B ys).ok w) (hbig:fitsL (l.length+ys.length) bb=true) (hne:ys≠[]) (hx:evn n e x=.slice A l.length c) (hy:evn n e y=.slice B ys.length c2)
 (h:∀ A' c' w',St w0 C w' (gr enc s el A' c' (l++ys)::X) L→wpA ro P full Q rest (E n (upd e i (SL A' (l++ys).length c')) d) w'):
 wpA ro P full Q (⟨some i,.call ⟨.builtin .append,#[x,y],#[st,st]⟩,ty,ps,af,none⟩::rest) (E n e d) w:=
 o_appN hx hy hT hz hzs he S hl (fun hA=>by rw [hc]; exact sl_none0 hl hA) rfl hc rfl hys hne (fitsL_spec hbig) hbb fun b c' w' _ S' =>by
  have:=h (some ⟨b,0,none⟩) c' w' S'
  rwa [List.length_append] at this
theorem St.nilRow (S:St w0 C w X L) (enc:α→List Value) (s el:Nat):St w0 C w (gr enc s el none 0 []::X) L:=S.addNil enc s el
theorem fold_putAt (off:Nat):∀ (vs:List Value) (j:Nat) (c:Array Value),((vs.zipIdx j).foldl (fun (cs:Array Value) (p:Value×Nat)=>cs.setIfInBounds (off+p.2) p.1) c)=putAt c (off+j) vs
 | [],_,_=>rfl
 | v::vs,j,c=>by
   rw [List.zipIdx_cons,List.foldl_cons,fold_putAt off vs (j+1)]
   rfl
theorem fill_step {place:Nat→Option (Nat×Nat)}{c:Array Value}{i off m:Nat}{v:Value}{vs:List Value}{rest:List (Nat×Value)} (hp:place i=some (off,m)) (hv:v.cells=vs.toArray) (hl:vs.length=m) (hs:off+m≤c.size):
 Instr.fill place c ((i,v)::rest)=Instr.fill place (putAt c off vs) rest:=by
 subst hl
 have hsz:v.cells.size=vs.length:=by rw [hv]; simp
 have hn:¬(off+vs.length > c.size):=by omega
 have hf:=fold_putAt off vs 0 c
 rw [Nat.add_zero] at hf
 simp only [Instr.fill,hp,hsz,ne_eq,not_true_eq_false,decide_false,Bool.false_or,decide_eq_true_eq,if_neg hn]
 rw [hv,← hf,← Array.foldl_toList,Array.toList_zipIdx]
def numv {α:Type} (vl:α→Value):Nat→List α→List (Nat×Value)
 | _,[]=>[]
 | k,x::l=>(k,vl x)::numv vl (k+1) l
theorem fill_all {vl:α→Value} (hvl:∀ x,(vl x).cells=(enc x).toArray) (he:∀ x,(enc x).length=s):∀ (l:List α) (k:Nat) (pre old:List Value),pre.length=k*s→old.length=l.length*s→Instr.fill (fun i=>some (i*s,s)) (pre++old).toArray (numv vl k l)=some (pre++l.flatMap enc).toArray
 | [],k,pre,old,h1,h2=>by
   simp at h2; subst h2; rfl
 | x::l,k,pre,old,h1,h2=>by
   rw [List.length_cons,Nat.succ_mul] at h2
   rw [numv,fill_step rfl (hvl x) (he x) (by simp; omega),← h1]
   have h3:=putAt_toArray (enc x) pre (old.take s) (old.drop s) (by rw [he]; simp; omega)
   rw [List.append_assoc,List.take_append_drop] at h3
   rw [h3,fill_all hvl he l (k+1) (pre++enc x) (old.drop s) (by rw [List.length_append,he,Nat.succ_mul]; omega) (by simp; omega)]
   simp [List.flatMap_cons]
theorem p_bsl {t i len el bb:Nat}{zs:List Value}{parts:Array (Nat×Operand)}{z:Value}{l:List α} (vl:α→Value) (hvl:∀ x,(vl x).cells=(enc x).toArray) (hT:slcOf P t=some (el,s)) (hz:infoOf P el=some (some z,s,bb)) (he:∀ x,(enc x).length=s) (hl:l.length=len)
 (h0:0 < len*s) (h1:len*s≤2 ^ 24) (hzs:zrow z (len*s)=zs.toArray) (S:St w0 C w X L) (hv:parts.toList.map (fun (i,x)=>(i,evn n e x))=numv vl 0 l)
 (h:∀ A c w',St w0 C w' (gr enc s el A c l::X) L→wpA ro P full Q rest (E n (upd e i (SL A l.length c)) d) w'):
 wpA ro P full Q (⟨some i,.buildSlice t len parts,ty,ps,af,none⟩::rest) (E n e d) w:=by
 subst hl
 have hzl:zs.length=l.length*s:=by
  have:=congrArg Array.size hzs
  simp [zrow] at this
  exact this.symm
 refine o_bsl hT hz hv h0 h1 hzs (cs:=(l.flatMap enc).toArray) (by simpa using fill_all hvl he l 0 [] zs (by simp) hzl) S fun b w' hb S' =>h (some ⟨b,0,none⟩) l.length w' ?_
 have hc:w'.heap[b]? =some (.cells (l.flatMap enc).toArray el):=S'.at (i:=0) rfl
 have hlen:l.length≤maxLen:=by
  have:l.length≤l.length*s:=Nat.le_mul_of_pos_right _ (Nat.pos_of_mul_pos_left h0)
  rw [maxLen_eq]; omega
 have S2:=S'.turn (i:=0) rfl (y:=gr enc s el (some ⟨b,0,none⟩) l.length l) ⟨flat_len he l,.inr ⟨b,l.length,(l.flatMap enc).toArray,rfl,Nat.zero_le _,hc,Nat.le_refl _,hlen,by simp [flat_len he l],by show (l.flatMap enc).take _=_; rw [← flat_len he l]; exact List.take_length⟩⟩ (fun b' hb' =>.inl (by simp [gr,Value.ownBlock] at hb'; exact hb'.symm)) rfl rfl rfl (Nat.le_refl _) (fun _ _ _=>rfl)
 simpa using S2
end
end
end Go.Fx
namespace Go.Fx
open Go
theorem rvA {P:Program}{n:Nat}{e:Env}{w:World}{a t b s:Nat}{cs:List Value}{ct:TypeId} (hx:evn n e (.tmp a)=.pointer (some ⟨b,0,none⟩)) (hT:aggOf P t=some true) (hs:sizOf P t=some s) (hw:w.heap[b]? =some (.cells cs.toArray ct)) (hl:cs.length=s):Rv P n e w (.cell a t) (AG cs):=
 rvN hx hT hs hl (box_cells hw (by simp))
theorem rvC {P:Program}{n:Nat}{e:Env}{w:World}{a t b:Nat}{v:Value}{ct:TypeId} (hx:evn n e (.tmp a)=.pointer (some ⟨b,0,none⟩)) (hT:aggOf P t=some false) (hw:w.heap[b]? =some (.cells #[v] ct)):Rv P n e w (.cell a t) v:=
 rv1 hx hT ((cell_of hw 0).trans rfl)
end Go.Fx
namespace Go.Fx
open Go
def modI (x y:Int):Int:=x.tmod y
def andI (x y:Int):Int:=wr ((BitVec.ofInt 64 x &&& BitVec.ofInt 64 y).toNat:Int)
def orI (x y:Int):Int:=wr ((BitVec.ofInt 64 x ||| BitVec.ofInt 64 y).toNat:Int)
def shlI (x y:Int):Int:=wr (x*2 ^ (min y.toNat 64))
def shrI (x y:Int):Int:=x.fdiv (2 ^ (min y.toNat 64))
section
variable {ro:Option Nat}{P:Program}{full:Array Oper}{Q:Exit→Act→World→Prop}{n:Nat}{d:List Deferred}{e:Env}{w:World}
variable {rest:List Oper}{ty:TypeId}{ps:String}{af:Array Edge}{x y:Operand}{i xt yt:Nat}{a b:Int}
theorem p_rem (hb:(b != 0)=true) (hx:evn n e x=.int .i64 a) (hy:evn n e y=.int .i64 b) (h:wpA ro P full Q rest (E n (upd e i (I (modI a b))) d) w):wpA ro P full Q (⟨some i,.binOp .rem xt x y yt,ty,ps,af,none⟩::rest) (E n e d) w:=
 op_val (v:=I (modI a b)) rfl (fun _ h=>by cases h) (by have hb' :b≠0:=by simpa using hb
                                                        simp [execOp,hx,hy,eqGuard,binOp,Op.intDiv,hb',modI]) h
theorem p_andI (hx:evn n e x=.int .i64 a) (hy:evn n e y=.int .i64 b) (h:wpA ro P full Q rest (E n (upd e i (I (andI a b))) d) w):wpA ro P full Q (⟨some i,.binOp .and xt x y yt,ty,ps,af,none⟩::rest) (E n e d) w:=
 op_val (v:=I (andI a b)) rfl (fun _ h=>by cases h) (by simp only [execOp,hx,hy,eqGuard,binOp,Op.intBits]; rfl) h
theorem p_orI (hx:evn n e x=.int .i64 a) (hy:evn n e y=.int .i64 b) (h:wpA ro P full Q rest (E n (upd e i (I (orI a b))) d) w):wpA ro P full Q (⟨some i,.binOp .or xt x y yt,ty,ps,af,none⟩::rest) (E n e d) w:=
 op_val (v:=I (orI a b)) rfl (fun _ h=>by cases h) (by simp only [execOp,hx,hy,eqGuard,binOp,Op.intBits]; rfl) h
theorem p_shl (hb:decide (0≤b)=true) {k:IntKind} (hx:evn n e x=.int .i64 a) (hy:evn n e y=.int k b) (h:wpA ro P full Q rest (E n (upd e i (I (shlI a b))) d) w):wpA ro P full Q (⟨some i,.binOp .shl xt x y yt,ty,ps,af,none⟩::rest) (E n e d) w:=
 op_val (v:=I (shlI a b)) rfl (fun _ h=>by cases h) (by have hb' :¬b < 0:=by simpa using hb
                                                        simp [execOp,hx,hy,eqGuard,binOp,Op.shift,hb',shlI]; rfl) h
theorem p_shr (hb:decide (0≤b)=true) {k:IntKind} (hx:evn n e x=.int .i64 a) (hy:evn n e y=.int k b) (h:wpA ro P full Q rest (E n (upd e i (I (shrI a b))) d) w):wpA ro P full Q (⟨some i,.binOp .shr xt x y yt,ty,ps,af,none⟩::rest) (E n e d) w:=
 op_val (v:=I (shrI a b)) rfl (fun _ h=>by cases h) (by have hb' :¬b < 0:=by simpa using hb
                                                        simp [execOp,hx,hy,eqGuard,binOp,Op.shift,hb',shrI]; rfl) h
end
end Go.Fx
namespace Go.Fx
open Go
section
variable {ro:Option Nat}{P:Program}{n:Nat}{d:List Deferred}{w:World}{Q:Exit→Act→World→Prop}
def DSc (ro:Option Nat) (P:Program) (full:Array Oper) (n:Nat) (d:List Deferred) (w:World) (cs:List Nat):Nat→List Oper→Env→(Env→Prop)→Prop
 | _,[],e,K=>K e
 | i,o::os,e,K=>bif cs.contains i then DSc ro P full n d w cs (i+1) os e K else ∃ v,(∀ w',Keep0 w w' →wpA ro P full (Done n d e w' o.dst (rv v)) [o] (E n e d) w')∧DSc ro P full n d w cs (i+1) os (updo e o.dst v) K
theorem kS {full:Array Oper}{cs:List Nat}{i:Nat}{o:Oper}{os:List Oper}{e:Env}{K:Env→Prop}{v:Value} (hc:cs.contains i=false) (h:∀ w',Keep0 w w' →wpA ro P full (Done n d e w' o.dst (rv v)) [o] (E n e d) w') (hk:DSc ro P full n d w cs (i+1) os (updo e o.dst v) K):DSc ro P full n d w cs i (o::os) e K:=by
 unfold DSc; rw [hc]; exact ⟨v,h,hk⟩
theorem kC {full:Array Oper}{cs:List Nat}{i:Nat}{o:Oper}{os:List Oper}{e:Env}{K:Env→Prop} (hc:cs.contains i=true) (hk:DSc ro P full n d w cs (i+1) os e K):DSc ro P full n d w cs i (o::os) e K:=by
 unfold DSc; rw [hc]; exact hk
def cxx (Ψ:Value→World→Prop):Rx where
 ok _ v _ _ w:=∀ w3,Keep0 w w3→Ψ v w3
 deps:=[]
 loc _ _ _ _ _ _ _ h:=h
 st _ _ _ _ _ _ h k w3 k3:=h w3 (k.trans k3)
def CSeq (ro:Option Nat) (P:Program) (full:Array Oper) (Q:Exit→Act→World→Prop) (n:Nat) (d:List Deferred) (tail:List Oper):List Oper→Env→World→Prop
 | [],e,w=>wpA ro P full Q tail (E n e d) w
 | o::os,e,w=>wpA ro P full (Done n d e w o.dst (cxx fun v w3=>CSeq ro P full Q n d tail os (updo e o.dst v) w3)) [o] (E n e d) w
theorem cN {full:Array Oper}{e:Env}{w2:World}{i:Nat}{v:Value}{Ψ:Value→World→Prop} (hk:Keep0 w w2) (h:∀ w3,Keep0 w2 w3→Ψ v w3):wpA ro P full (Done n d e w (some i) (cxx Ψ)) [] (E n (upd e i v) d) w2:=wp_nil ⟨v,rfl,hk,h⟩
def msk (cs:List Nat):Nat→List Oper→List Oper
 | _,[]=>[]
 | i,o::os=>(bif cs.contains i then { o with dst:=none } else o)::msk cs (i+1) os
theorem msk_get (cs:List Nat):∀ (l:List Oper) (k i:Nat),(msk cs k l)[i]? =(l[i]?).map fun o=>bif cs.contains (k+i) then { o with dst:=none } else o
 | [],k,i=>by simp [msk]
 | o::os,k,0=>by simp [msk]
 | o::os,k,i+1=>by
   have:=msk_get cs os (k+1) i
   simp only [msk,List.getElem?_cons_succ,this]
   rw [show k+1+i=k+(i+1) by omega]
theorem msk_len (cs:List Nat):∀ (l:List Oper) (k:Nat),(msk cs k l).length=l.length
 | [],_=>rfl
 | o::os,k=>by simp [msk,msk_len cs os]
theorem msk_t {cs:List Nat}{k:Nat}{o:Oper}{os:List Oper} (h:cs.contains k=true):msk cs k (o::os)={ o with dst:=none }::msk cs (k+1) os:=by
 show (bif cs.contains k then _ else _)::_=_
 rw [h]; rfl
theorem msk_f {cs:List Nat}{k:Nat}{o:Oper}{os:List Oper} (h:cs.contains k=false):msk cs k (o::os)=o::msk cs (k+1) os:=by
 show (bif cs.contains k then _ else _)::_=_
 rw [h]; rfl
theorem dsc_vals {full:Array Oper}{cs:List Nat}{K:Env→Prop}:∀ {os:List Oper}{k:Nat}{e:Env},DSc ro P full n d w cs k os e K→∃ vs:List Value,vs.length=os.length∧(∀ i o v,os[i]? =some o→vs[i]? =some v→cs.contains (k+i)=false→∀ w',Keep0 w w' →wpA ro P full (Done n d (seqE e (((msk cs k os).zip vs).take i)) w' o.dst (rv v)) [o] (E n (seqE e (((msk cs k os).zip vs).take i)) d) w')∧K (seqE e ((msk cs k os).zip vs))
 | [],k,e,h=>⟨[],rfl,fun i o v h1=>by simp at h1,h⟩
 | o::os,k,e,h=>by
   unfold DSc at h
   cases hc:cs.contains k with
   | true=>
     rw [hc] at h
     obtain ⟨vs,hl,hh,hK⟩:=dsc_vals h
     refine ⟨undef::vs,by simp [hl],fun i o' v' ho hv hci=>?_,by rw [msk_t hc]; exact hK⟩
     cases i with
     | zero=>rw [Nat.add_zero,hc] at hci; cases hci
     | succ i=>
       have:=hh i o' v' (by simpa using ho) (by simpa using hv) (by rw [show k+1+i=k+(i+1) by omega]; exact hci)
       rw [msk_t hc]; exact this
   | false=>
     rw [hc] at h
     obtain ⟨v,h1,h2⟩:=h
     obtain ⟨vs,hl,hh,hK⟩:=dsc_vals h2
     refine ⟨v::vs,by simp [hl],fun i o' v' ho hv hci=>?_,by rw [msk_f hc]; exact hK⟩
     cases i with
     | zero=>
       simp at ho hv
       subst ho hv
       exact h1
     | succ i=>
       have:=hh i o' v' (by simpa using ho) (by simpa using hv) (by rw [show k+1+i=k+(i+1) by omega]; exact hci)
       rw [msk_f hc]; exact this
def okC (l:List Oper) (m:Nat) (cs:List Nat):Bool:=
 okDraw l m none&&((List.range m).all fun i=>match l[i]? with
  | none=>true
  | some o=>plainOp o&&(reads l.toArray o).all fun s=>(List.range m).all fun j=>dstAt l j != some s||(((anc l).getD i []).contains j&&(cs.contains i||!cs.contains j)))&&
 ((List.range m).all fun i=>!cs.contains i||(dstAt l i).isSome&&(List.range i).all fun j=>!cs.contains j||((anc l).getD i []).contains j)&&cs==(List.range m).filter (cs.contains ·)
def cOps (l:List Oper) (m:Nat) (cs:List Nat) (k:Nat):List Oper:=((List.range m).filter fun i=>cs.contains i&&Nat.ble k i).filterMap (l[·]?)
theorem okC_spec {l:List Oper}{m:Nat}{cs:List Nat} (h:okC l m cs=true):okDraw l m none=true∧(∀ i o,i < m→l[i]? =some o→plainOp o=true∧∀ s∈reads l.toArray o,∀ j,j < m→dstAt l j=some s→((anc l).getD i []).contains j=true∧(cs.contains i=false→cs.contains j=false))∧
 (∀ i,i < m→cs.contains i=true→(dstAt l i).isSome=true∧∀ j,j < i→cs.contains j=true→((anc l).getD i []).contains j=true)∧cs=(List.range m).filter (cs.contains ·):=by
 simp only [okC,Bool.and_eq_true] at h
 obtain ⟨⟨⟨h1,h2⟩,h3⟩,h4⟩:=h
 refine ⟨h1,fun i o hi ho=>?_,fun i hi hci=>?_,by simpa using h4⟩
 ·have:=List.all_eq_true.1 h2 i (List.mem_range.2 hi)
  rw [ho] at this
  simp only [Bool.and_eq_true] at this
  refine ⟨this.1,fun s hs j hj hd=>?_⟩
  have:=List.all_eq_true.1 (List.all_eq_true.1 this.2 s hs) j (List.mem_range.2 hj)
  rw [hd] at this
  simp only [bne_self_eq_false,Bool.false_or,Bool.and_eq_true,Bool.or_eq_true,Bool.not_eq_true'] at this
  exact ⟨this.1,fun hc=>this.2.resolve_left (by rw [hc]; simp)⟩
 ·have:=List.all_eq_true.1 h3 i (List.mem_range.2 hi)
  rw [hci] at this
  simp only [Bool.not_true,Bool.false_or,Bool.and_eq_true] at this
  refine ⟨this.1,fun j hji hcj=>?_⟩
  have:=List.all_eq_true.1 this.2 j (List.mem_range.2 hji)
  rw [hcj] at this
  simpa using this
theorem cOps_cons {l:List Oper}{m i:Nat}{cs:List Nat}{o:Oper} (hi:i < m) (ho:l[i]? =some o) (hc:cs.contains i=true):cOps l m cs i=o::cOps l m cs (i+1):=by
 have key:∀ (q:Nat),q≤i→(List.range' q (m - q)).filter (fun j=>cs.contains j&&Nat.ble i j)=i::(List.range' q (m - q)).filter (fun j=>cs.contains j&&Nat.ble (i+1) j):=by
  intro q hq
  obtain ⟨k,rfl⟩:∃ k,i=q+k:=⟨i - q,by omega⟩
  induction k generalizing q with
  | zero=>
    have hmq:m - q=(m - q - 1)+1:=by omega
    rw [hmq,List.range'_succ,List.filter_cons,List.filter_cons]
    have h1:Nat.ble (q+0) q=true:=by simp
    have h2:Nat.ble (q+0+1) q=false:=Bool.eq_false_iff.2 (by simp)
    rw [h1,h2]
    have hc' :cs.contains q=true:=hc
    simp only [hc',Bool.and_self,if_true,Bool.and_false,Bool.false_eq_true,if_false]
    congr 1
    refine List.filter_congr fun j hj=>?_
    have:=(List.mem_range'.1 hj)
    obtain ⟨_,_,rfl⟩:=this
    congr 1
    rw [Bool.eq_iff_iff]
    simp only [Nat.ble_eq]
    omega
  | succ k ih=>
    have hmq:m - q=(m - q - 1)+1:=by omega
    rw [hmq,List.range'_succ,List.filter_cons,List.filter_cons]
    have h1:Nat.ble (q+(k+1)) q=false:=Bool.eq_false_iff.2 (by simp)
    have h2:Nat.ble (q+(k+1)+1) q=false:=Bool.eq_false_iff.2 (by simp; omega)
    rw [h1,h2]
    simp only [Bool.and_false,Bool.false_eq_true,if_false]
    have:=ih (q+1) (by rw [show q+1+k=q+(k+1) by omega]; exact hi) (by rw [show q+1+k=q+(k+1) by omega]; exact ho) (by rw [show q+1+k=q+(k+1) by omega]; exact hc) (by omega)
    rw [show m - (q+1)=m - q - 1 by omega,show q+1+k=q+(k+1) by omega] at this
    exact this
 unfold cOps
 have h0:=key 0 (Nat.zero_le _)
 rw [List.range_eq_range',show m=m - 0 by omega,h0]
 simp [ho]
theorem cOps_skip {l:List Oper}{m i:Nat}{cs:List Nat} (hc:cs.contains i=false):cOps l m cs i=cOps l m cs (i+1):=by
 unfold cOps
 congr 1
 refine List.filter_congr fun j _=>?_
 by_cases hj:j=i
 ·subst hj; rw [hc]; rfl
 ·congr 1
  rw [Bool.eq_iff_iff]
  simp only [Nat.ble_eq]
  omega
theorem cOps_end {l:List Oper}{m:Nat}{cs:List Nat}:cOps l m cs m=[]:=by
 unfold cOps
 rw [List.filter_eq_nil_iff.2]
 ·rfl
 ·intro j hj
  have:=List.mem_range.1 hj
  simp
  omega
theorem cOps_to {l:List Oper}{m:Nat}{cs:List Nat}:∀ (k i:Nat),(∀ j,i≤j→j < i+k→cs.contains j=false)→cOps l m cs i=cOps l m cs (i+k)
 | 0,_,_=>rfl
 | k+1,i,h=>by
   rw [cOps_skip (h i (Nat.le_refl _) (by omega)),cOps_to k (i+1) fun j h1 h2=>h j (by omega) (by omega)]
   congr 1; omega
theorem wp1_mono {full:Array Oper}{o:Oper}{a:Act}{w:World}{Q Q' :Exit→Act→World→Prop} (h:∀ ex a w,Q ex a w→Q' ex a w) (hh:wpA ro P full Q [o] a w):wpA ro P full Q' [o] a w:=by
 unfold wpA at hh ⊢
 split at hh
 ·rename_i hw
  rw [if_pos hw]
  exact Oper.wpIn_both (fun a w h1=>by unfold wpA at h1 ⊢; exact h _ _ _ h1) (fun e a w _ h1=>h _ _ _ h1) hh
 ·rename_i hw
  rw [if_neg hw]
  unfold wpA at hh ⊢
  exact h _ _ _ hh
def Rc (ro:Option Nat) (P:Program) (Q:Exit→Act→World→Prop) (n:Nat) (d:List Deferred) (l:List Oper) (m:Nat) (cs:List Nat) (ek:Env) (i:Nat):Rx where
 ok e' v _ _ w' :=∃ ec:Env,(∀ c s,c < i→cs.contains c=true→dstAt l c=some s→e' s=ec s)∧(∀ s,dstAt l i=some s→v=ec s)∧(∀ s,(∀ c,c≤i→cs.contains c=true→dstAt l c≠some s)→ec s=ek s)∧
  ∀ w3,Keep0 w' w3→CSeq ro P l.toArray Q n d (l.drop m) (cOps l m cs (i+1)) ec w3
 deps:=((List.range i).filter (cs.contains ·)).filterMap (dstAt l)
 loc e e' v lo hi w h:=fun ⟨ec,h1,h2,h3,h4⟩=>⟨ec,fun c s hc hcc hd=>by
  rw [h s (List.mem_filterMap.2 ⟨c,List.mem_filter.2 ⟨List.mem_range.2 hc,hcc⟩,hd⟩)]; exact h1 c s hc hcc hd,h2,h3,h4⟩
 st _ _ _ _ _ _:=fun ⟨ec,h1,h2,h3,h4⟩ k=>⟨ec,h1,h2,h3,fun w3 k3=>h4 w3 (k.trans k3)⟩
theorem last_c (cs:List Nat):∀ i,(∀ j,j < i→cs.contains j=false)∨∃ c,c < i∧cs.contains c=true∧∀ j,c < j→j < i→cs.contains j=false
 | 0=>.inl fun j h=>by omega
 | i+1=>by
   cases hc:cs.contains i with
   | true=>exact .inr ⟨i,by omega,hc,fun j h1 h2=>by omega⟩
   | false=>
     rcases last_c cs i with h | ⟨c,h1,h2,h3⟩
     ·exact .inl fun j hj=>by
       rcases Nat.lt_or_ge j i with h' | h'
       ·exact h j h'
       ·have:j=i:=by omega
        rw [this]; exact hc
     ·exact .inr ⟨c,by omega,h2,fun j hj1 hj2=>by
       rcases Nat.lt_or_ge j i with h' | h'
       ·exact h3 j hj1 h'
       ·have:j=i:=by omega
        rw [this]; exact hc⟩
theorem reg_c {e:Env}{l:List Oper}{id:Nat} (hm:P.follows .mixedOrders=true) (m:Nat) (cs:List Nat) (hok:okC l m cs=true) (h:DSc ro P l.toArray n d w cs 0 (l.take m) e fun ek=>∀ w',Keep0 w w' →CSeq ro P l.toArray Q n d (l.drop m) (cs.filterMap (l[·]?)) ek w'):
 (Code.region id l.toArray true).wpIn (Fr ro) 0 P Q (E n e d) w:=by
 obtain ⟨vs,hl,hh,hK⟩:=dsc_vals h
 obtain ⟨hd,hq,hcc,hcs⟩:=okC_spec hok
 obtain ⟨_,_,hml,hdst,_,_⟩:=okDraw_spec hd
 have hlm:(l.take m).length=m:=by simp; omega
 have hlv:vs.length=m:=by omega
 rw [show cs.filterMap (l[·]?)=cOps l m cs 0 by unfold cOps; conv=>lhs; rw [hcs]
                                                congr 2
                                                funext i
                                                show cs.contains i=(cs.contains i&&true)
                                                rw [Bool.and_true]] at hK
 generalize hek:seqE e ((msk cs 0 (l.take m)).zip vs)=ek at hK
 have hps:∀ k i p,(((msk cs 0 (l.take m)).zip vs).take k)[i]? =some p→i < k∧i < m∧vs[i]? =some p.2∧∃ o,l[i]? =some o∧p.1=(bif cs.contains i then { o with dst:=none } else o):=by
  intro k i p hp
  rw [List.getElem?_take] at hp
  split at hp
  ·rename_i hik
   rw [List.getElem?_zip_eq_some,msk_get,List.getElem?_take] at hp
   obtain ⟨h1,h2⟩:=hp
   split at h1
   ·rename_i him
    obtain ⟨o,ho,h1⟩:=Option.map_eq_some_iff.1 h1
    rw [Nat.zero_add] at h1
    exact ⟨hik,him,h2,o,ho,h1.symm⟩
   ·simp at h1
  ·cases hp
 have F1:∀ k j s v,j < k→j < m→cs.contains j=false→dstAt l j=some s→vs[j]? =some v→seqE e (((msk cs 0 (l.take m)).zip vs).take k) s=v:=by
  intro k j s v hjk hjm hjc hds hv
  have hoj:∃ o,l[j]? =some o:=⟨l[j]'(by omega),List.getElem?_eq_getElem _⟩
  obtain ⟨o,ho⟩:=hoj
  refine seqE_at (j:=j) (o:=o) (v:=v) _ e ?_ (by simpa [dstAt,ho] using hds) fun i p hp hpd=>?_
  ·rw [List.getElem?_take,if_pos hjk,List.getElem?_zip_eq_some,msk_get,List.getElem?_take,if_pos hjm,ho,Nat.zero_add,hjc]
   exact ⟨rfl,hv⟩
  ·obtain ⟨a1,a2,a3,o',ho',hp1⟩:=hps k i p hp
   cases hci:cs.contains i with
   | true=>rw [hci] at hp1; rw [hp1] at hpd; cases hpd
   | false=>
     rw [hci] at hp1
     rw [hp1] at hpd
     exact hdst i j s a2 hjm (by simp [dstAt,ho']; exact hpd) hds
 have F2:∀ k s,(∀ j,j < m→cs.contains j=false→dstAt l j≠some s)→seqE e (((msk cs 0 (l.take m)).zip vs).take k) s=e s:=by
  intro k s hs
  refine seqE_not _ e fun p hp hpd=>?_
  obtain ⟨i,hi,rfl⟩:=List.getElem_of_mem hp
  obtain ⟨a1,a2,a3,o',ho',hp1⟩:=hps k i _ (List.getElem?_eq_getElem hi)
  cases hci:cs.contains i with
  | true=>rw [hci] at hp1; rw [hp1] at hpd; cases hpd
  | false=>
    rw [hci] at hp1
    rw [hp1] at hpd
    exact hs i a2 hci (by simp [dstAt,ho']; exact hpd)
 have hall:((msk cs 0 (l.take m)).zip vs).take m=(msk cs 0 (l.take m)).zip vs:=List.take_of_length_le (by simp [msk_len]; omega)
 have F1m:∀ j s v,j < m→cs.contains j=false→dstAt l j=some s→vs[j]? =some v→ek s=v:=fun j s v h1 h2 h3 h4=>by
  rw [← hek,← hall]; exact F1 m j s v h1 h1 h2 h3 h4
 have F2m:∀ s,(∀ j,j < m→cs.contains j=false→dstAt l j≠some s)→ek s=e s:=fun s hs=>by
  rw [← hek,← hall]; exact F2 m s hs
 have hvj:∀ j,j < m→∃ v,vs[j]? =some v:=fun j hj=>⟨vs[j]'(by omega),List.getElem?_eq_getElem _⟩
 let Rs:=(List.range m).map fun i=>bif cs.contains i then Rc ro P Q n d l m cs ek i else rv (vs.getD i undef)
 have hRs:∀ i,i < m→Rs.getD i default=(bif cs.contains i then Rc ro P Q n d l m cs ek i else rv (vs.getD i undef)):=fun i hi=>by simp [Rs,List.getD,hi]
 have hnot:∀ s,(∀ j,j < m→dstAt l j≠some s)→notDst l m s=true:=fun s hs=>List.all_eq_true.2 fun o ho=>by
  obtain ⟨j,hj,rfl⟩:=List.getElem_of_mem ho
  have hjm:j < m:=by rw [hlm] at hj; exact hj
  have:=hs j hjm
  have:¬(l.take m)[j].dst=some s:=fun hd=>this (by simp only [dstAt]; rw [List.getElem?_eq_getElem (by omega)]; rw [List.getElem_take] at hd; exact hd)
  simpa using this
 refine reg_draw hm m none hd Rs _ rfl ?_ _ rfl ?_ ?_ (fun f hf=>by cases hf)
 ·
  unfold depOk
  refine List.all_eq_true.2 fun i hi=>List.all_eq_true.2 fun s hs=>?_
  have him:=List.mem_range.1 hi
  have hsd:(Rs.map (·.deps)).getD i []=(Rs.getD i default).deps:=by simp [Rs,List.getD,him]
  rw [hsd,hRs i him] at hs
  cases hci:cs.contains i with
  | false=>rw [hci] at hs; cases hs
  | true=>
    rw [hci] at hs
    obtain ⟨c,hc,hds⟩:=List.mem_filterMap.1 hs
    obtain ⟨hc1,hc2⟩:=List.mem_filter.1 hc
    have hc1' :=List.mem_range.1 hc1
    refine List.any_eq_true.2 ⟨c,List.mem_range.2 (by omega),?_⟩
    simp only [Bool.and_eq_true]
    exact ⟨by simp [hds],(hcc i him hci).2 c hc1' hc2⟩
 ·
  intro i o ho him e' w' hk hfr hR
  have hil:i < l.length:=(List.getElem?_eq_some_iff.1 ho).1
  obtain ⟨hpl,hrd⟩:=hq i o him ho
  rw [hRs i him]
  have hkv:∀ j s,j < m→cs.contains j=false→dstAt l j=some s→((anc l).getD i []).contains j=true→∀ v,vs[j]? =some v→e' s=v:=by
   intro j s hj hjc hds ha v hv
   obtain ⟨lo,hi,_,_,hok2⟩:=hR j s ha hj hds
   rw [hRs j hj,hjc] at hok2
   have:e' s=vs.getD j undef:=hok2
   rw [this]; simp [List.getD,hv]
  cases hci:cs.contains i with
  | false=>
    obtain ⟨v,hv⟩:=hvj i him
    have hgv:vs.getD i undef=v:=by simp [List.getD,hv]
    rw [hgv]
    refine wp1_congr (R:=rv v) (fun _ _ _ _ _ _ h=>h) hpl (fun s hs=>?_) (hh i o v (by rw [List.getElem?_take,if_pos him]; exact ho) hv (by rw [Nat.zero_add]; exact hci) w' hk)
    by_cases hx:∃ j,j < m∧dstAt l j=some s
    ·obtain ⟨j,hj,hds⟩:=hx
     obtain ⟨ha,hcj⟩:=hrd s hs j hj hds
     obtain ⟨u,hu⟩:=hvj j hj
     rw [hkv j s hj (hcj hci) hds ha u hu,F1 i j s u (anc_lt hd hil ha) hj (hcj hci) hds hu]
    ·have hx' :∀ j,j < m→dstAt l j≠some s:=fun j hj hds=>hx ⟨j,hj,hds⟩
     rw [hfr s (hnot s hx'),F2 i s fun j hj _=>hx' j hj]
  | true=>
    have hec:∃ ec:Env,(∀ c s,c < i→cs.contains c=true→dstAt l c=some s→e' s=ec s)∧(∀ s,(∀ c,c < i→cs.contains c=true→dstAt l c≠some s)→ec s=ek s)∧CSeq ro P l.toArray Q n d (l.drop m) (cOps l m cs i) ec w' :=by
     rcases last_c cs i with hno | ⟨c,hc1,hc2,hc3⟩
     ·refine ⟨ek,fun c s hc hcc=>?_,fun _ _=>rfl,?_⟩
      ·rw [hno c hc] at hcc; cases hcc
      ·have:=hK w' hk
       rw [cOps_to i 0 fun j _ hj=>hno j (by omega),Nat.zero_add] at this
       exact this
     ·obtain ⟨sc,hsc⟩:=Option.isSome_iff_exists.1 (hcc c (by omega) hc2).1
      obtain ⟨lo,hi,_,_,hok2⟩:=hR c sc ((hcc i him hci).2 c hc1 hc2) (by omega) hsc
      rw [hRs c (by omega),hc2] at hok2
      obtain ⟨ec,q1,q2,q3,q4⟩:=hok2
      refine ⟨ec,fun c' s hc' hcc' hds=>?_,fun s hs=>q3 s fun c' hc' =>hs c' (by omega),?_⟩
      ·rcases Nat.lt_trichotomy c' c with hlt | heq | hgt
       ·exact q1 c' s hlt hcc' hds
       ·subst heq
        have:s=sc:=by rw [hds] at hsc; exact Option.some.inj hsc
        subst this
        exact q2 s hds
       ·rw [hc3 c' hgt hc'] at hcc'; cases hcc'
      ·have:=q4 w' (Keep.refl _ _)
       rw [cOps_to (i - (c+1)) (c+1) fun j h1 h2=>hc3 j (by omega) (by omega),show c+1+(i - (c+1))=i by omega] at this
       exact this
    obtain ⟨ec,qA,qB,qC⟩:=hec
    rw [cOps_cons him ho hci] at qC
    have hds_ne:∀ c s,c < m→c≠i→dstAt l c=some s→o.dst≠some s:=fun c s hc hne hds hod=>hne (hdst c i s hc him hds (by simp [dstAt,ho,hod]))
    have q1:=wp1_congr (e' :=e') (R:=cxx _) (fun _ _ _ _ _ _ h=>h) hpl (fun s hs=>?_) qC
    ·refine wp1_mono (fun ex a w2 hq=>?_) q1
     cases ex with
     | normal=>
       obtain ⟨v,ha,hk2,hΨ⟩:=hq
       refine ⟨v,ha,hk2,updo ec o.dst v,fun c s hc hcc hds=>?_,fun s hs=>?_,fun s hs=>?_,hΨ⟩
       ·rw [qA c s hc hcc hds]
        have:=hds_ne c s (by omega) (by omega) hds
        cases hod:o.dst with
        | none=>rfl
        | some t=>
          have:s≠t:=fun h=>this (by rw [hod,h])
          simp [updo,upd,nbeq this]
       ·have hod:o.dst=some s:=by simpa [dstAt,ho] using hs
        rw [hod]; simp [updo,upd]
       ·have hne:o.dst≠some s:=fun hod=>hs i (Nat.le_refl _) hci (by simp [dstAt,ho,hod])
        have:updo ec o.dst v s=ec s:=by
         cases hod:o.dst with
         | none=>rfl
         | some t=>
           have:s≠t:=fun h=>hne (by rw [hod,h])
           simp [updo,upd,nbeq this]
        rw [this]
        exact qB s fun c hc=>hs c (by omega)
     | _=>exact hq
    ·by_cases hx:∃ j,j < m∧dstAt l j=some s
     ·obtain ⟨j,hj,hds⟩:=hx
      obtain ⟨ha,_⟩:=hrd s hs j hj hds
      have hji:=anc_lt hd hil ha
      cases hcj:cs.contains j with
      | true=>exact qA j s hji hcj hds
      | false=>
        obtain ⟨u,hu⟩:=hvj j hj
        rw [hkv j s hj hcj hds ha u hu,qB s fun c hc hcc hds2=>?_,F1m j s u hj hcj hds hu]
        have:=hdst c j s (by omega) hj hds2 hds
        rw [this,hcj] at hcc; cases hcc
     ·have hx' :∀ j,j < m→dstAt l j≠some s:=fun j hj hds=>hx ⟨j,hj,hds⟩
      rw [hfr s (hnot s hx'),qB s fun c hc _=>hx' c (by omega),F2m s fun j hj _=>hx' j hj]
 ·
  rintro e' w' hk hfr ⟨lo,hi,h1,_⟩
  have hkv:∀ j s,j < m→cs.contains j=false→dstAt l j=some s→∀ v,vs[j]? =some v→e' s=v:=by
   intro j s hj hjc hds v hv
   have hok2:=(h1 j s hj hds).2.2.2
   rw [hRs j hj,hjc] at hok2
   have:e' s=vs.getD j undef:=hok2
   rw [this]; simp [List.getD,hv]
  have hec:∃ ec:Env,(∀ c s,c < m→cs.contains c=true→dstAt l c=some s→e' s=ec s)∧(∀ s,(∀ c,c < m→cs.contains c=true→dstAt l c≠some s)→ec s=ek s)∧CSeq ro P l.toArray Q n d (l.drop m) (cOps l m cs m) ec w' :=by
   rcases last_c cs m with hno | ⟨c,hc1,hc2,hc3⟩
   ·refine ⟨ek,fun c s hc hcc=>?_,fun _ _=>rfl,?_⟩
    ·rw [hno c hc] at hcc; cases hcc
    ·have:=hK w' hk
     rw [cOps_to m 0 fun j _ hj=>hno j (by omega),Nat.zero_add] at this
     exact this
   ·obtain ⟨sc,hsc⟩:=Option.isSome_iff_exists.1 (hcc c (by omega) hc2).1
    have hok2:=(h1 c sc hc1 hsc).2.2.2
    rw [hRs c hc1,hc2] at hok2
    obtain ⟨ec,q1,q2,q3,q4⟩:=hok2
    refine ⟨ec,fun c' s hc' hcc' hds=>?_,fun s hs=>q3 s fun c' hc' =>hs c' (by omega),?_⟩
    ·rcases Nat.lt_trichotomy c' c with hlt | heq | hgt
     ·exact q1 c' s hlt hcc' hds
     ·subst heq
      have:s=sc:=by rw [hds] at hsc; exact Option.some.inj hsc
      subst this
      exact q2 s hds
     ·rw [hc3 c' hgt hc'] at hcc'; cases hcc'
    ·have:=q4 w' (Keep.refl _ _)
     rw [cOps_to (m - (c+1)) (c+1) fun j h1 h2=>hc3 j (by omega) (by omega),show c+1+(m - (c+1))=m by omega] at this
     exact this
  obtain ⟨ec,qA,qB,qC⟩:=hec
  rw [cOps_end] at qC
  have he:e' =ec:=by
   funext s
   by_cases hx:∃ j,j < m∧dstAt l j=some s
   ·obtain ⟨j,hj,hds⟩:=hx
    cases hcj:cs.contains j with
    | true=>exact qA j s hj hcj hds
    | false=>
      obtain ⟨u,hu⟩:=hvj j hj
      rw [hkv j s hj hcj hds u hu,qB s fun c hc hcc hds2=>?_,F1m j s u hj hcj hds hu]
      have:=hdst c j s hc hj hds2 hds
      rw [this,hcj] at hcc; cases hcc
   ·have hx' :∀ j,j < m→dstAt l j≠some s:=fun j hj hds=>hx ⟨j,hj,hds⟩
    rw [hfr s (hnot s hx'),qB s fun c hc _=>hx' c (by omega),F2m s fun j hj _=>hx' j hj]
  rw [he]
  exact qC
end
end Go.Fx
namespace Go.Fx
open Go
def Al (w:World) (Ls:List Asr) (p:Asr):Prop:=∀ b,p.fp b→w.heap.size≤b∨∃ q∈Ls,q.fp b
theorem New.al {w:World}{Ls:List Asr}{p:Asr} (h:New w.heap.size p):Al w Ls p:=fun b hb=>.inl (h b hb)
theorem Al.self {w:World}{Ls:List Asr}{p:Asr}{i:Nat} (h:Ls[i]? =some p):Al w Ls p:=fun b hb=>.inr ⟨p,List.mem_of_getElem? h,hb⟩
theorem Al.nil {α:Type}{enc:α→List Value}{s c:Nat}{A:Option Addr}{w:World}{Ls:List Asr}:Al w Ls (rd enc s A c []):=fun b hb=>(hb.1 rfl).elim
theorem New.nil {α:Type}{enc:α→List Value}{s c k:Nat}{A:Option Addr}:New k (rd enc s A c []):=fun b hb=>(hb.1 rfl).elim
theorem New.rd {α:Type}{enc:α→List Value}{s el c k:Nat}{A:Option Addr}{l:List α} (h:New k (gr enc s el A c l)):New k (rd enc s A c l):=fun b hb=>h b (gr_fp b hb)
section
variable {w0 w w' :World}{C:Nat→Prop}{X L:List Asr}
theorem St.newX {p:Asr} (S:St w0 (fun _=>False) w X L) {i:Nat} (hi:X[i]? =some p):New w0.heap.size p:=fun b hb=>(S.own p (List.mem_of_getElem? hi) b hb).resolve_right id
theorem St.callN (S:St w0 C w X L) (hk:Keep0 w w') (N:List Asr) (hN:∀ p∈N,p.ok w' ∧∀ b,p.fp b→w.heap.size≤b∨∃ q∈L,q.fp b):St w0 C w' X (N++L):=
 S.callMore hk (fun p hp=>(hN p hp).1) fun p hp b hb=>(hN p hp).2 b hb
theorem New.inL {p:Asr} (h:New w.heap.size p):∀ b,p.fp b→w.heap.size≤b∨∃ q∈L,q.fp b:=fun b hb=>.inl (h b hb)
theorem Al.inL {p:Asr}{Ls:List Asr} (h:Al w Ls p) (hL:∀ q∈Ls,∀ b,q.fp b→∃ q' ∈L,q'.fp b):∀ b,p.fp b→w.heap.size≤b∨∃ q∈L,q.fp b:=fun b hb=>
 (h b hb).imp id fun ⟨q,hq,hqb⟩=>hL q hq b hqb
theorem fp_mem {q:Asr}{i:Nat} (h:L[i]? =some q):∀ b,q.fp b→∃ q' ∈L,q'.fp b:=fun b hb=>⟨q,List.mem_of_getElem? h,hb⟩
theorem fp_nil {α:Type}{enc:α→List Value}{s c:Nat}{A:Option Addr}:∀ b,(rd enc s A c []).fp b→∃ q' ∈L,q'.fp b:=fun b hb=>(hb.1 rfl).elim
end
end Go.Fx
namespace Go.Fx
open Go
section
variable {w0 w w' :World}{C:Nat→Prop}{X L:List Asr}
theorem St.base (S:St w0 C w X L):St w (fun _=>False) w [] (X++L):=S.asP (Keep.refl _ _)
theorem St.fromBase (S:St w0 C w X L) {x:Asr}{L' :List Asr} (S' :St w (fun _=>False) w' (x::[]) L'):St w0 C w' (x::X) L:=S.addNew S'.keep (S'.atX (i:=0) rfl) (S'.newX (i:=0) rfl)
end
end Go.Fx
namespace Go.Fx
open Go
def BtwL (lo hi:Nat) (Ls:List Asr) (p:Asr):Prop:=∀ b,p.fp b→(lo≤b∧b < hi)∨∃ q∈Ls,q.fp b
theorem BtwL.of {lo hi:Nat}{Ls:List Asr}{p:Asr}{w0 w:World} (h:Al w0 Ls p) (e0:w0.heap.size=lo) (ok:p.ok w) (e:w.heap.size=hi):BtwL lo hi Ls p:=fun b hb=>
 (h b hb).imp (fun h=>⟨e0▸h,e▸p.inb _ _ ok hb⟩) id
section
variable {w0 w w' :World}{C:Nat→Prop}{X L:List Asr}
theorem St.addR (S:St w0 C w X L) {p:Asr} (hp:p.ok w) (hd:∀ b,p.fp b→∀ x∈X,¬x.fp b):St w0 C w X (p::L):=S.addL' hp hd
theorem St.addO (S:St w0 C w X L) {x:Asr} (hx:x.ok w) (hf:∀ b,x.fp b→w0.heap.size≤b) (hX:∀ y∈X,∀ b,x.fp b→¬y.fp b) (hL:∀ y∈L,∀ b,x.fp b→¬y.fp b):St w0 C w (x::X) L:=S.addX' hx hf hX hL
theorem St.tail1 {x:Asr} (S:St w0 C w (x::X) L):St w0 C w X L:=S.less (List.sublist_cons_self ..) fun _ h=>h
end
end Go.Fx
namespace Go.Fx
open Go
section
variable {α:Type}{enc:α→List Value}{s:Nat}
variable {ro:Option Nat}{P:Program}{full:Array Oper}{Q:Exit→Act→World→Prop}{n:Nat}{d:List Deferred}{e:Env}{w:World}
variable {rest:List Oper}{ty:TypeId}{ps:String}{af:Array Edge}
end
theorem KeyL.comp {κ κ' :Type} [DecidableEq κ] [DecidableEq κ'] {P:Program}{kt:TypeId}{ek:κ' →Value} (K:KeyL P kt ek) (f:κ→κ') (hf:∀ a b,f a=f b→a=b):KeyL P kt (fun a=>ek (f a)) where
 check b a w:=K.check b (f a) w
 find a l ks h w:=by
  have:=K.find (f a) l (ks.map f) (by rw [h,List.map_map]; rfl) w
  rw [this]
  congr 2
  have hq:(ks.map f).findIdx? (·==f a)=ks.findIdx? (·==a):=by
   rw [List.findIdx?_map]
   congr 1
   funext x
   simp only [Function.comp]
   rw [Bool.eq_iff_iff]
   simp only [beq_iff_eq]
   exact ⟨hf x a,fun h=>by rw [h]⟩
  rw [hq]
 bits a:=K.bits (f a)
end Go.Fx
namespace Go.Fx
open Go
theorem Al.up {w0 w1:World}{Ls Ls0:List Asr}{p:Asr} (h:Al w1 Ls p) (k:w0.heap.size≤w1.heap.size) (hq:∀ q∈Ls,Al w0 Ls0 q):Al w0 Ls0 p:=fun b hb=>
 (h b hb).elim (fun h=>.inl (Nat.le_trans k h)) fun ⟨q,h1,h2⟩=>hq q h1 b h2
theorem Al.gr {α:Type}{enc:α→List Value}{s el c c' :Nat}{A:Option Addr}{l:List α}{w:World}{Ls:List Asr} (h:Al w Ls (gr enc s el A c l)):Al w Ls (rd enc s A c' l):=fun b hb=>h b (gr_fp b hb)
theorem BtwL.al {lo hi:Nat}{Ls:List Asr}{p:Asr}{w:World} (h:BtwL lo hi Ls p) (k:w.heap.size≤lo):Al w Ls p:=fun b hb=>(h b hb).imp (fun h=>Nat.le_trans k h.1) id
theorem Al.sub {w:World}{Ls Ls' :List Asr}{p:Asr} (h:Al w Ls p) (hs:∀ q∈Ls,q∈Ls'):Al w Ls' p:=fun b hb=>(h b hb).imp id fun ⟨q,h1,h2⟩=>⟨q,hs q h1,h2⟩
theorem fp_gr {α:Type}{enc:α→List Value}{s el c c' :Nat}{A:Option Addr}{l:List α}{L:List Asr}{i:Nat} (h:L[i]? =some (gr enc s el A c l)):∀ b,(rd enc s A c' l).fp b→∃ q' ∈L,q'.fp b:=fun b hb=>⟨_,List.mem_of_getElem? h,gr_fp b hb⟩
end Go.Fx
namespace Go.Fx
open Go
section
variable {κ ν:Type}
def mpo (ek:κ→Value) (ev:ν→Value) (mm:Option Nat) (l:List (κ×ν)):Asr where
 fp b:=mm=some b
 ok w:=match mm with
  | none=>l=[]
  | some m=>(mp ek ev m l).ok w
 mono w w' h k:=by
  cases mm with
  | none=>exact h
  | some q=>exact (mp ek ev q l).mono w w' h fun b hb=>k b (by rw [show b=q from hb])
 inb w b h hb:=by
  cases mm with
  | none=>cases hb
  | some q=>exact (mp ek ev q l).inb w b h (Option.some.inj hb).symm
theorem mpo_some {ek:κ→Value}{ev:ν→Value}{m:Nat}{l:List (κ×ν)}{w:World} (h:(mp ek ev m l).ok w):(mpo ek ev (some m) l).ok w:=h
theorem mpo_none {ek:κ→Value}{ev:ν→Value}{w:World}:(mpo ek ev none []).ok w:=rfl
theorem New.mpoS {ek:κ→Value}{ev:ν→Value}{m k:Nat}{l:List (κ×ν)} (h:New k (mp ek ev m l)):New k (Fx.mpo ek ev (some m) l):=fun b hb=>by cases hb; exact h m rfl
theorem New.mpoN {ek:κ→Value}{ev:ν→Value}{k:Nat}:New k (Fx.mpo ek ev none []):=fun b hb=>by cases hb
theorem Al.mpo {ek:κ→Value}{ev:ν→Value}{m:Nat}{l:List (κ×ν)}{w:World}{Ls:List Asr} (h:Al w Ls (mp ek ev m l)):Al w Ls (Fx.mpo ek ev (some m) l):=fun b hb=>by cases hb; exact h m rfl
theorem Al.mpoN {ek:κ→Value}{ev:ν→Value}{w:World}{Ls:List Asr}:Al w Ls (Fx.mpo ek ev none []):=fun b hb=>by cases hb
variable [DecidableEq κ] {ek:κ→Value}{ev:ν→Value}
variable {ro:Option Nat}{P:Program}{full:Array Oper}{Q:Exit→Act→World→Prop}{n:Nat}{d:List Deferred}{e:Env}{w:World}
variable {rest:List Oper}{ty:TypeId}{ps:String}{af:Array Edge}
theorem p_lookO {t kt el i s bb:Nat}{mm:Option Nat}{x y:Operand}{a:κ}{l:List (κ×ν)}{z:Value} (hT:mptOf P t=some (kt,el)) (K:KeyL P kt ek) (hz:infoOf P el=some (some z,s,bb)) (hm:(mpo ek ev mm l).ok w) (hx:evn n e x=.map mm) (hy:evn n e y=ek a)
 (h1:∀ v,lookL l a=some v→wpA ro P full Q rest (E n (upd e i (.tuple #[ev v,.bool true])) d) w) (h0:lookL l a=none→wpA ro P full Q rest (E n (upd e i (.tuple #[z,.bool false])) d) w):
 wpA ro P full Q (⟨some i,.lookup t x y true,ty,ps,af,none⟩::rest) (E n e d) w:=by
 cases mm with
 | some m=>exact o_look hx hy hT K hz hm h1 h0
 | none=>
   have hl:l=[]:=hm
   subst hl
   have hzr:(zeroValue el).run P w=.ok z w:=by
    obtain ⟨it,h2,h3,_⟩:=info_of hz
    simp [zeroValue,typeInfo,h2,h3]
   refine op_val (v:=.tuple #[z,.bool false]) rfl (fun _ h=>by cases h) ?_ (h0 rfl)
   have hf:=K.find a [] [] rfl w
   simp at hf
   simp [execOp,hx,hy,Instr.lookup,run_und (mpt_und hT),K.check,hf,hzr]
end
theorem New.rdr {α:Type}{enc:α→List Value}{s c c' k:Nat}{A:Option Addr}{l:List α} (h:New k (Fx.rd enc s A c l)):New k (Fx.rd enc s A c' l):=h
theorem Al.rdr {α:Type}{enc:α→List Value}{s c c' :Nat}{A:Option Addr}{l:List α}{w:World}{Ls:List Asr} (h:Al w Ls (rd enc s A c l)):Al w Ls (rd enc s A c' l):=h
def sgl (l:List Int) (n:Nat):List Int:=(List.range n).map fun k=>l.getD k 0
theorem sgF_map (l:List Int):∀ (n k:Nat),sgF l k n=((List.range' k n).map fun j=>l.getD j 0).map (Value.int .i64)
 | 0,_=>rfl
 | n+1,k=>by simp [sgF,List.range'_succ,sgF_map l n (k+1)]
theorem sg_ivs (l:List Int) (n:Nat):sg l n=ivs (sgl l n):=by
 unfold sg ivs sgl
 rw [sgF_map,List.range_eq_range']
theorem sgl_len (l:List Int) (n:Nat):(sgl l n).length=n:=by simp [sgl]
theorem sgl_eq {l:List Int}{n:Nat} (h:l.length=n):sgl l n=l:=by
 subst h
 refine List.ext_getElem (by simp [sgl]) fun k h1 h2=>?_
 simp [sgl,List.getD,h2]
section
variable {ro:Option Nat}{P:Program}{full:Array Oper}{Q:Exit→Act→World→Prop}{n:Nat}{d:List Deferred}{e:Env}{w:World}
variable {rest:List Oper}{ty:TypeId}{ps:String}{af:Array Edge}
theorem p_eqS {t yt i m:Nat}{x y:Operand}{a b:List Int} (hT:eqOk P t (List.replicate m (.int .i64))) (hx:evn n e x=AG (sg a m)) (hy:evn n e y=AG (sg b m))
 (h:wpA ro P full Q rest (E n (upd e i (.bool (decide (sgl a m=sgl b m)))) d) w):wpA ro P full Q (⟨some i,.binOp .eql t x y yt,ty,ps,af,none⟩::rest) (E n e d) w:=
 o_eqA (xs:=sg a m) (ys:=sg b m) hx hy hT (by rw [sg_ivs]; exact ivs_fits (sgl_len a m)) (by rw [sg_ivs]; exact ivs_fits (sgl_len b m)) (by rw [sg_ivs,sg_ivs,ivs_inj,decide_eq_true_iff]) h
end
end Go.Fx
namespace Go.Fx
open Go
def vblk (v:Value) (b:Nat):Prop:=match v with
 | .agg cs=>∃ c∈cs,Value.ownBlock c=some b
 | v=>Value.ownBlock v=some b
theorem vblk_sl {α:Type}{enc:α→List Value}{s c c' k:Nat}{A:Option Addr}{l:List α}{b:Nat} (h:(rd enc s A c l).fp b):vblk (SL A k c') b:=by
 obtain ⟨_,a,rfl,rfl⟩:=h
 rfl
theorem vblk_gr {α:Type}{enc:α→List Value}{s el c c' k:Nat}{A:Option Addr}{l:List α}{b:Nat} (h:vblk (SL A k c') b):(gr enc s el A c l).fp b:=by
 cases A with
 | none=>cases h
 | some a=>exact h
def BtwV (lo hi:Nat) (Ls:List Asr) (v:Value) (p:Asr):Prop:=∀ b,p.fp b→(lo≤b∧b < hi)∨vblk v b∨∃ q∈Ls,q.fp b
theorem BtwV.of {lo hi:Nat}{Ls Ls' :List Asr}{v:Value}{p:Asr}{w0 w:World} (h:Al w0 Ls' p) (e0:w0.heap.size=lo) (ok:p.ok w) (e:w.heap.size=hi) (hq:∀ q∈Ls',∀ b,q.fp b→vblk v b∨∃ q∈Ls,q.fp b):BtwV lo hi Ls v p:=fun b hb=>
 (h b hb).elim (fun h=>.inl ⟨e0▸h,e▸p.inb _ _ ok hb⟩) fun ⟨q,h1,h2⟩=>.inr (hq q h1 b h2)
theorem BtwV.al {lo hi:Nat}{Ls:List Asr}{v:Value}{p:Asr}{w:World} (h:BtwV lo hi Ls v p) (k:w.heap.size≤lo) (hv:∀ b,vblk v b→w.heap.size≤b):Al w Ls p:=fun b hb=>
 (h b hb).elim (fun h=>.inl (Nat.le_trans k h.1)) fun h=>h.elim (fun h=>.inl (hv b h)) .inr
def rxd (s:Nat) {α:Type} (val:α→Value) (pr:α→Nat→Nat→Value→Prop) (aa:α→List Asr):Rx where
 ok e v lo hi w:=∃ x,v=val x∧pr x lo hi (e s)∧∀ p∈aa x,p.ok w
 deps:=[s]
 loc e e' v lo hi w h:=fun ⟨x,h1,h2,h3⟩=>⟨x,h1,by rw [h s (List.mem_cons_self ..)]; exact h2,h3⟩
 st _ _ _ _ _ _:=fun ⟨x,h1,h2,h3⟩ k=>⟨x,h1,h2,fun p hp=>Asr.stays (h3 p hp) k⟩
end Go.Fx
namespace Go.Fx
open Go
section
variable {w0 w w' :World}{C:Nat→Prop}{X L:List Asr}
theorem nM {α:Type}{p:α→Prop}:∀ x∈([]:List α),p x:=fun _ h=>(List.not_mem_nil h).elim
theorem cA {α:Type}{p:α→Prop}{a:α}{l:List α} (h:p a) (t:∀ x∈l,p x):∀ x∈a::l,p x:=List.forall_mem_cons.2 ⟨h,t⟩
theorem mG {α:Type}{M N:List α} (is:List Nat) (h:is.map (fun i=>M[i]?)=N.map some):∀ q∈N,q∈M:=fun q hq=>by
 have:some q∈N.map some:=List.mem_map.2 ⟨q,hq,rfl⟩
 rw [← h] at this
 obtain ⟨i,_,hi⟩:=List.mem_map.1 this
 exact List.mem_of_getElem? hi
theorem oA {lo hi:Nat}{x y:Asr} (p:BtwL lo hi [] x) (h:w.heap.size≤lo) (T:y.ok w):∀ b,x.fp b→¬y.fp b:=fun b h1 h2=>
 (p b h1).elim (fun q2=>by have q1:=y.inb _ _ T h2; omega) fun ⟨_,hq,_⟩=>(List.not_mem_nil hq).elim
theorem oX {lo hi:Nat}{x:Asr} (p:BtwL lo hi [] x) (h:w.heap.size≤lo) (S:St w0 C w X L):∀ y∈X,∀ b,x.fp b→¬y.fp b:=fun y hy=>oA p h (S.xs y hy)
theorem oL {lo hi:Nat}{x:Asr} (p:BtwL lo hi [] x) (h:w.heap.size≤lo) (S:St w0 C w X L):∀ y∈L,∀ b,x.fp b→¬y.fp b:=fun y hy=>oA p h (S.ps y hy)
theorem oP {lo hi lo' hi' :Nat}{Lz:List Asr}{x y:Asr} (p:BtwL lo hi [] x) (p' :BtwL lo' hi' Lz y) (h:w.heap.size≤lo) (S:St w0 C w X L) (m:∀ q∈Lz,q∈L) (hd:hi≤lo' ∨hi' ≤lo):∀ b,x.fp b→¬y.fp b:=fun b h1 h2=>
 (p b h1).elim (fun q1=>(p' b h2).elim (fun q2=>by omega) fun ⟨q,hq,hqb⟩=>by have q4:=q.inb _ _ (S.ps q (m q hq)) hqb; omega) fun ⟨_,hq,_⟩=>(List.not_mem_nil hq).elim
theorem oN {lo hi:Nat}{x:Asr} (p:BtwL lo hi [] x) (h:w.heap.size≤lo) (S:St w0 C w X L):∀ b,x.fp b→w0.heap.size≤b:=fun b hb=>
 (p b hb).elim (fun q=>Nat.le_trans S.keep.size (Nat.le_trans h q.1)) fun ⟨_,hq,_⟩=>(List.not_mem_nil hq).elim
theorem oR {lo hi:Nat}{Lz:List Asr}{x:Asr} (p:BtwL lo hi Lz x) (h:w.heap.size≤lo) (S:St w0 C w X L) (m:∀ q∈Lz,q∈L):∀ b,x.fp b→∀ y∈X,¬y.fp b:=fun b hb y hy hyb=>
 (p b hb).elim (fun q=>by have:=y.inb _ _ (S.xs y hy) hyb; omega) fun ⟨q,hq,hqb⟩=>S.dp y hy q (m q hq) b hyb hqb
theorem oQ {Lz:List Asr}{x:Asr} (p:Al w Lz x) (S:St w0 C w X L) (m:∀ q∈Lz,q∈L):∀ b,x.fp b→∀ y∈X,¬y.fp b:=fun b hb y hy hyb=>
 (p b hb).elim (fun q=>by have:=y.inb _ _ (S.xs y hy) hyb; omega) fun ⟨q,hq,hqb⟩=>S.dp y hy q (m q hq) b hyb hqb
end
end Go.Fx
namespace Go.Fx
open Go
section
variable {ro:Option Nat}{P:Program}{n:Nat}{d:List Deferred}{w:World}{Q:Exit→Act→World→Prop}
def Ends1 (K:Act→World→Prop):Exit→Act→World→Prop
 | .normal,a,w' =>K a w'
 | _,_,_=>False
theorem any_tail {l:List Oper}{m:Nat}{fl:Option Nat} (hok:okDraw l m fl=true) (hnf:fl=none):∀ (fuel k:Nat) (listed:Array Bool) (a:Act) (w' :World),m≤k→k≤l.length→fuel=left listed→listed.size=l.length→(∀ i,i < l.length→(listed.getD i false=true↔i < k))→
 wpA ro P l.toArray Q (l.drop k) a w' →wpAnyIn (Fr ro) 0 P .any l.toArray Q fuel listed a w' :=by
 obtain ⟨hback,hanc,hml,hdst,hfl,hanc2⟩:=okDraw_spec hok
 subst hnf
 intro fuel
 induction fuel with
 | zero=>
   intro k listed a w' hmk hk hf hsz hl h
   have hkl:k=l.length:=by
    rcases Nat.eq_or_lt_of_le hk with h | h
    ·exact h
    ·have:=(hl k h).1 (left_zero hf.symm k (by omega)); omega
   subst hkl
   refine ⟨?_,by simpa [wpA] using h⟩
   refine List.eq_nil_iff_forall_not_mem.2 fun i hi=>?_
   obtain ⟨h1,o,h2,_⟩:=mem_ready.1 hi
   have hi' :i < l.length:=by
    obtain ⟨hh,_⟩:=Array.getElem?_eq_some_iff.1 h2
    simpa using hh
   have:=(hl i hi').2 hi'
   simp [Array.getD,hsz,hi'] at this h1
   rw [this] at h1; cases h1
 | succ fuel ih=>
   intro k listed a w' hmk hk hf hsz hl h
   have hkl:k < l.length:=by
    obtain ⟨i,h1,h2⟩:=left_pos (listed:=listed) (by omega)
    have:=hl i (by omega)
    rcases Nat.lt_or_ge i k with h | h
    ·rw [this.2 h] at h2; cases h2
    ·omega
   refine ⟨fun hnil=>?_,fun i hi=>?_⟩
   ·exfalso
    have:k∈Region.ready .any l.toArray listed:=by
     refine mem_ready.2 ⟨?_,l[k],by simp [hkl],fun x hx hb=>?_⟩
     ·have:¬listed.getD k false=true:=fun h=>by have:=(hl k hkl).1 h; omega
      simp [Array.getD,hsz,hkl] at this ⊢
      exact this
     ·exact (hl x.on (by have:=hback k l[k] (List.getElem?_eq_getElem hkl) x hx hb; omega)).2 (hback k l[k] (List.getElem?_eq_getElem hkl) x hx hb)
    rw [hnil] at this; cases this
   ·obtain ⟨h1,o,h2,h3⟩:=mem_ready.1 hi
    have hi' :i < l.length:=by
     obtain ⟨hh,_⟩:=Array.getElem?_eq_some_iff.1 h2
     simpa using hh
    have hnk:¬i < k:=fun hlt=>by
     have:=(hl i hi').2 hlt
     simp [Array.getD,hsz,hi'] at this h1
     rw [this] at h1; cases h1
    have hik:i=k:=by
     rcases Nat.eq_or_lt_of_le (Nat.le_of_not_lt hnk) with h | h
     ·exact h.symm
     ·exfalso
      let S:Nat→Prop:=fun j=>j=i∨listed.getD j false=true
      have hS:=hanc S (fun j oj hj hSj x hx=>by
       have hxo:∃ y∈oj.after,Region.binds .any y=true∧y.on=x:=by
        simp only [edges,List.mem_map,List.mem_filter] at hx
        obtain ⟨y,⟨hy1,hy2⟩,rfl⟩:=hx
        exact ⟨y,Array.mem_def.2 hy1,hy2,rfl⟩
       obtain ⟨y,hy,hb,rfl⟩:=hxo
       rcases hSj with rfl | hSj
       ·have:oj=o:=by
         have h2' :l[j]? =some o:=by simpa using h2
         rw [hj] at h2'; exact Option.some.inj h2'
        subst this
        exact .inr (h3 y hy hb)
       ·have hjl:j < l.length:=(List.getElem?_eq_some_iff.1 hj).1
        have:=hback j oj hj y hy hb
        exact .inr ((hl y.on (by omega)).2 (by have:=(hl j hjl).1 hSj; omega))) i (by omega) hi' (.inl rfl) k h
      rcases hS.resolve_left (fun h=>by omega) with h4 | h4
      ·omega
      ·have:=(hl k hkl).1 h4; omega
    subst hik
    have hd:l.drop i=o::l.drop (i+1):=by
     have h2' :l[i]? =some o:=by simpa using h2
     rw [List.drop_eq_getElem_cons hi']
     rw [List.getElem?_eq_getElem hi'] at h2'
     rw [Option.some.inj h2']
    rw [hd] at h
    refine wpA_head h2 (fun a w h=>?_) h
    refine ih (i+1) _ a w (by omega) (by omega) (by have:=left_set (by omega) h1; omega) (by simpa using hsz) (fun j hj=>?_) h
    by_cases hji:j=i
    ·subst hji
     have:(listed.setIfInBounds j true).getD j false=true:=by simp [Array.getD,hsz,hj]
     simp [this]
    ·have h6:=hl j hj
     have h5:(listed.setIfInBounds i true).getD j false=listed.getD j false:=getD_set_ne false (fun h=>hji h.symm)
     rw [h5,h6]; omega
theorem reg_inv {e:Env}{l:List Oper}{id:Nat} (hm:P.follows .mixedOrders=true) (m:Nat) (hok:okDraw l m none=true) (Inv:(Nat→Bool)→Env→World→Prop)
 (h0:∀ w1,Keep0 w w1→Inv (fun _=>false) e w1)
 (hstep:∀ (S:Nat→Bool) (i:Nat) (o:Oper) (e' :Env) (w' :World),l[i]? =some o→i < m→S i=false→(∀ j,((anc l).getD i []).contains j=true→S j=true)→(∀ j,S j=true→j < m)→
  (∀ j k,S j=true→((anc l).getD j []).contains k=true→S k=true)→Inv S e' w' →wpA ro P l.toArray (Ends1 fun a w2=>∃ e2,a=E n e2 d∧Inv (fun j=>S j||j==i) e2 w2) [o] (E n e' d) w')
 (hend:∀ (S:Nat→Bool) (e' :Env) (w' :World),(∀ j,j < m→S j=true)→Inv S e' w' →wpA ro P l.toArray Q (l.drop m) (E n e' d) w'):
 (Code.region id l.toArray true).wpIn (Fr ro) 0 P Q (E n e d) w:=by
 obtain ⟨hback,hanc,hml,hdst,hfl,hanc2⟩:=okDraw_spec hok
 refine wpIn_region_any hm ?_
 have head:∀ (fuel:Nat) (listed:Array Bool) (e' :Env) (w' :World),fuel=left listed→listed.size=l.length→(∀ i,listed.getD i false=true→i < m)→
  (∀ i o,l[i]? =some o→listed.getD i false=true→∀ x∈o.after,Region.binds .any x=true→listed.getD x.on false=true)→Inv (fun i=>listed.getD i false) e' w' →
  wpAnyIn (Fr ro) 0 P .any l.toArray Q fuel listed (E n e' d) w' :=by
  intro fuel
  induction fuel with
  | zero=>
    intro listed e' w' hf hsz hlm _ hI
    have hall:=left_zero hf.symm
    have hmm:m=l.length:=by
     rcases Nat.eq_or_lt_of_le hml with h | h
     ·exact h
     ·have:=hlm m (hall m (by omega)); omega
    refine any_tail hok rfl 0 m listed _ w' (Nat.le_refl _) hml hf hsz (fun i hi=>⟨fun h=>hlm i h,fun _=>hall i (by omega)⟩) (hend _ e' w' (fun j hj=>hall j (by omega)) hI)
  | succ fuel ih=>
    intro listed e' w' hf hsz hlm hcl hI
    by_cases hfull:∀ j,j < m→listed.getD j false=true
    ·exact any_tail hok rfl (fuel+1) m listed _ w' (Nat.le_refl _) hml hf hsz (fun i hi=>⟨fun h=>hlm i h,fun h=>hfull i h⟩) (hend _ e' w' hfull hI)
    refine ⟨fun hnil=>?_,fun i hi=>?_⟩
    ·exfalso
     obtain ⟨i,h1,h2⟩:=left_pos (listed:=listed) (by omega)
     induction i using Nat.strongRecOn with
     | _ i ihi=>
       by_cases hh:∃ j,j < i∧listed.getD j false=false
       ·obtain ⟨j,hj,hj2⟩:=hh
        exact ihi j hj (by omega) hj2
       ·have hil:i < l.length:=by omega
        have:i∈Region.ready .any l.toArray listed:=by
         refine mem_ready.2 ⟨?_,l[i],by simp [hil],fun x hx hb=>?_⟩
         ·simp [Array.getD,h1] at h2 ⊢
          exact h2
         ·have hxi:=hback i l[i] (List.getElem?_eq_getElem hil) x hx hb
          cases hc:listed.getD x.on false with
          | true=>rfl
          | false=>exact absurd ⟨x.on,hxi,hc⟩ hh
        rw [hnil] at this; cases this
    ·obtain ⟨h1,o,h2,h3⟩:=mem_ready.1 hi
     have h2' :l[i]? =some o:=by simpa using h2
     have hi' :i < l.length:=(List.getElem?_eq_some_iff.1 h2').1
     have h1f:listed.getD i false=false:=by
      cases hc:listed.getD i false with
      | false=>rfl
      | true=>
        simp [Array.getD,hsz,hi'] at hc h1
        rw [hc] at h1; cases h1
     have hedge:∀ j oj,l[j]? =some oj→listed.getD j false=true→∀ x∈edges oj,listed.getD x false=true:=fun j oj hj hjl x hx=>by
      simp only [edges,List.mem_map,List.mem_filter] at hx
      obtain ⟨y,⟨hy1,hy2⟩,rfl⟩:=hx
      exact hcl j oj hj hjl y (Array.mem_def.2 hy1) hy2
     have hclosed:∀ j k,listed.getD j false=true→((anc l).getD j []).contains k=true→listed.getD k false=true:=fun j k hj hk=>by
      have hjl:j < l.length:=by have:=hlm j hj; omega
      exact (hanc2 (fun x=>listed.getD x false=true) (fun x ox hx hSx y hy=>hedge x ox hx hSx y hy) j k hjl hj hk).2
     have hwait:∀ j,((anc l).getD i []).contains j=true→listed.getD j false=true:=fun j hj=>by
      have hS:=hanc2 (fun x=>x=i∨listed.getD x false=true) (fun x ox hx hSx y hy=>by
       rcases hSx with rfl | hSx
       ·have:ox=o:=by rw [hx] at h2'; exact Option.some.inj h2'
        subst this
        simp only [edges,List.mem_map,List.mem_filter] at hy
        obtain ⟨z,⟨hz1,hz2⟩,rfl⟩:=hy
        exact .inr (h3 z (Array.mem_def.2 hz1) hz2)
       ·exact .inr (hedge x ox hx hSx y hy)) i j hi' (.inl rfl) hj
      rcases hS.2 with h | h
      ·have:=hS.1; omega
      ·exact h
     have him:i < m:=by
      rcases Nat.lt_or_ge i m with h | h
      ·exact h
      ·exfalso
       refine hfull fun j hj=>?_
       let S:Nat→Prop:=fun x=>x=i∨listed.getD x false=true
       have hS:=hanc S (fun x ox hx hSx y hy=>by
        rcases hSx with rfl | hSx
        ·have:ox=o:=by rw [hx] at h2'; exact Option.some.inj h2'
         subst this
         simp only [edges,List.mem_map,List.mem_filter] at hy
         obtain ⟨z,⟨hz1,hz2⟩,rfl⟩:=hy
         exact .inr (h3 z (Array.mem_def.2 hz1) hz2)
        ·exact .inr (hedge x ox hx hSx y hy)) i h hi' (.inl rfl) j (by omega)
       rcases hS.resolve_left (fun h=>by cases h.2) with h4 | h4
       ·omega
       ·exact h4
     refine wpA_one h2 (fun a w2 hd=>?_) (fun ex a w2 hne hd=>?_) (hstep _ i o e' w' h2' him h1f hwait hlm hclosed hI)
     ·obtain ⟨e2,rfl,hI2⟩:=hd
      refine ih _ _ _ (by have:=left_set (by omega) h1; omega) (by simpa using hsz) (fun j hjl=>?_) (fun j oj hj hjl x hx hb=>?_) ?_
      ·by_cases hji:j=i
       ·subst hji; exact him
       ·rw [getD_set_ne false (fun h=>hji h.symm)] at hjl
        exact hlm j hjl
      ·by_cases hji:j=i
       ·subst hji
        have:oj=o:=by rw [hj] at h2'; exact Option.some.inj h2'
        subst this
        exact getD_set_true (h3 x hx hb)
       ·rw [getD_set_ne false (fun h=>hji h.symm)] at hjl
        exact getD_set_true (hcl j oj hj hjl x hx hb)
      ·have:(fun j=>(listed.setIfInBounds i true).getD j false)=fun j=>listed.getD j false||j==i:=by
        funext j
        by_cases hji:j=i
        ·subst hji
         have:(listed.setIfInBounds j true).getD j false=true:=by simp [Array.getD,hsz,hi']
         rw [this]; simp
        ·rw [getD_set_ne false (fun h=>hji h.symm),show (j==i)=false by simpa using hji,Bool.or_false]
       rw [this]; exact hI2
     ·cases ex with
      | normal=>exact absurd rfl hne
      | _=>exact hd.elim
 refine head _ _ _ _ ?_ (by simp) (fun i h=>?_) (fun i o hi h=>?_) ?_
 ·simp [left]
 ·simp [Array.getD] at h
 ·simp [Array.getD] at h
 ·have:(fun i=>(Array.replicate l.toArray.size false).getD i false)=fun _=>false:=by
   funext i
   simp [Array.getD]
  rw [this]
  exact h0 _ ⟨rfl,rfl,rfl,Nat.le_refl _,fun _ _ _=>rfl⟩
def EndV (n:Nat) (d:List Deferred) (e:Env) (dst:Option Nat) (Ψ:Value→World→Prop):Exit→Act→World→Prop:=Ends1 fun a w2=>∃ v,a=E n (updo e dst v) d∧Ψ v w2
theorem endv_put {e e' :Env}{full:Array Oper}{dst:Option Nat}{Ψ:Value→World→Prop}{v' :Value}{w' :World} (h:wpA ro P full (EndV n d e dst Ψ) [] ((E n e d).put dst v') w'):wpA ro P full (EndV n d e' dst Ψ) [] ((E n e' d).put dst v') w' :=by
 unfold wpA at h ⊢
 rw [E_put] at h ⊢
 obtain ⟨v,hu,hv⟩:=h
 refine ⟨v,E_ext fun j hj=>?_,hv⟩
 cases dst with
 | none=>rfl
 | some i=>
   simp only [updo,upd]
   by_cases hji:j=i
   ·subst hji
    have h1:=congrArg (fun a:Act=>a.tmps[j]?) hu
    simp [E,hj,updo,upd] at h1
    simp [h1]
   ·simp [nbeq hji]
theorem letsOut_endv {e:Env}{dst:Option Nat}{Ψ:Value→World→Prop} (h:LetsOut (EndV n d e dst Ψ)):False:=by
 obtain ⟨a,w,h⟩:=h
 exact h
theorem wp1_congrV {e e' :Env}{full:Array Oper}{o:Oper}{Ψ:Value→World→Prop} (hp:plainOp o=true) (ha:∀ s∈reads full o,e' s=e s) (h:wpA ro P full (EndV n d e o.dst Ψ) [o] (E n e d) w):wpA ro P full (EndV n d e' o.dst Ψ) [o] (E n e' d) w:=by
 have hd:∀ c,o.op≠.defer c:=fun c hc=>by simp [plainOp,hc] at hp
 have hs:∀ cs b,o.op≠.select cs b:=fun cs b hc=>by simp [plainOp,hc] at hp
 unfold wpA at h ⊢
 rw [wanted_congr (d:=d) (n:=n) ha]
 split at h
 ·rename_i hw
  rw [if_pos hw]
  obtain ⟨_,h⟩:=h
  refine ⟨fun _ _=>trivial,?_⟩
  rw [Oper.semAt_eq _ _ _ hd,E_eval] at h ⊢
  rw [execOp_congr o hs (evn_congr ha)]
  have fin:∀ v' w',wpA ro P full (EndV n d e o.dst Ψ) [] ((E n e d).put o.dst v') w' →wpA ro P full (EndV n d e' o.dst Ψ) [] ((E n e' d).put o.dst v') w' :=fun _ _ h=>endv_put h
  revert h
  generalize (execOp (evn n e) o).run P w=r
  intro h
  unfold Oper.uponIn at h ⊢
  split at h
  ·exact fin _ _ h
  ·exact fin _ _ h
  ·exfalso
   unfold wpA at h
   obtain ⟨u,hu,_⟩:=h
   have:=congrArg Act.defers hu
   cases hdst:o.dst <;> simp [hdst,Act.put,E] at this
  ·refine ⟨h.1,h.2.mono fun en w' he=>?_⟩
   cases en with
   | returned v=>exact fin _ _ he
   | panicked c=>exact he.elim
   | outgrown=>exact (letsOut_endv he).elim
  ·exact ⟨h.1,h.2.mono fun v w' he=>fin _ _ he⟩
  ·refine ⟨h.1,h.2.mono fun en w' he=>?_⟩
   cases en with
   | returned v=>exact fin _ _ he
   | panicked c=>exact he.elim
   | outgrown=>exact (letsOut_endv he).elim
  ·exact h.elim
  ·exact h.elim
 ·rename_i hw
  rw [if_neg hw]
  exact endv_put h
def DSd (ro:Option Nat) (P:Program) (full:Array Oper) (n:Nat) (d:List Deferred) (C:Nat→Prop) (w:World) (cs:List Nat):Nat→List Oper→Env→(Env→Prop)→Prop
 | _,[],e,K=>K e
 | i,o::os,e,K=>bif cs.contains i then DSd ro P full n d C w cs (i+1) os e K else ∃ v,(∀ w',Keep C w w' →wpA ro P full (Done n d e w' o.dst (rv v)) [o] (E n e d) w')∧DSd ro P full n d C w cs (i+1) os (updo e o.dst v) K
variable {C:Nat→Prop}
theorem lS {full:Array Oper}{cs:List Nat}{i:Nat}{o:Oper}{os:List Oper}{e:Env}{K:Env→Prop}{v:Value} (hc:cs.contains i=false) (h:∀ w',Keep C w w' →wpA ro P full (Done n d e w' o.dst (rv v)) [o] (E n e d) w') (hk:DSd ro P full n d C w cs (i+1) os (updo e o.dst v) K):DSd ro P full n d C w cs i (o::os) e K:=by
 unfold DSd; rw [hc]; exact ⟨v,h,hk⟩
theorem lC {full:Array Oper}{cs:List Nat}{i:Nat}{o:Oper}{os:List Oper}{e:Env}{K:Env→Prop} (hc:cs.contains i=true) (hk:DSd ro P full n d C w cs (i+1) os e K):DSd ro P full n d C w cs i (o::os) e K:=by
 unfold DSd; rw [hc]; exact hk
theorem dsd_vals {full:Array Oper}{cs:List Nat}{K:Env→Prop}:∀ {os:List Oper}{k:Nat}{e:Env},DSd ro P full n d C w cs k os e K→∃ vs:List Value,vs.length=os.length∧(∀ i o v,os[i]? =some o→vs[i]? =some v→cs.contains (k+i)=false→∀ w',Keep C w w' →wpA ro P full (Done n d (seqE e (((msk cs k os).zip vs).take i)) w' o.dst (rv v)) [o] (E n (seqE e (((msk cs k os).zip vs).take i)) d) w')∧K (seqE e ((msk cs k os).zip vs))
 | [],k,e,h=>⟨[],rfl,fun i o v h1=>by simp at h1,h⟩
 | o::os,k,e,h=>by
   unfold DSd at h
   cases hc:cs.contains k with
   | true=>
     rw [hc] at h
     obtain ⟨vs,hl,hh,hK⟩:=dsd_vals h
     refine ⟨undef::vs,by simp [hl],fun i o' v' ho hv hci=>?_,by rw [msk_t hc]; exact hK⟩
     cases i with
     | zero=>rw [Nat.add_zero,hc] at hci; cases hci
     | succ i=>
       have:=hh i o' v' (by simpa using ho) (by simpa using hv) (by rw [show k+1+i=k+(i+1) by omega]; exact hci)
       rw [msk_t hc]; exact this
   | false=>
     rw [hc] at h
     obtain ⟨v,h1,h2⟩:=h
     obtain ⟨vs,hl,hh,hK⟩:=dsd_vals h2
     refine ⟨v::vs,by simp [hl],fun i o' v' ho hv hci=>?_,by rw [msk_f hc]; exact hK⟩
     cases i with
     | zero=>
       simp at ho hv
       subst ho hv
       exact h1
     | succ i=>
       have:=hh i o' v' (by simpa using ho) (by simpa using hv) (by rw [show k+1+i=k+(i+1) by omega]; exact hci)
       rw [msk_f hc]; exact this
theorem Keep.any {C:Nat→Prop}{w w' :World} (k:Keep0 w w'):Keep C w w' :=k.weak fun _ _ h=>h.elim
def CK (ro:Option Nat) (P:Program) (full:Array Oper) (Q:Exit→Act→World→Prop) (n:Nat) (d:List Deferred) (C:Nat→Prop) (w:World) (tail:List Oper):List Oper→Env→World→Prop
 | [],ec,w' =>∀ w3,Keep0 w' w3→wpA ro P full Q tail (E n ec d) w3
 | o::os,ec,w' =>∀ w3,Keep0 w' w3→wpA ro P full (Ends1 fun a w2=>∃ v,a=E n (updo ec o.dst v) d∧Keep C w w2∧CK ro P full Q n d C w tail os (updo ec o.dst v) w2) [o] (E n ec d) w3
theorem CK.stays {full:Array Oper}{tail os:List Oper}{ec:Env}{w' w2:World} (h:CK ro P full Q n d C w tail os ec w') (k:Keep0 w' w2):CK ro P full Q n d C w tail os ec w2:=by
 cases os with
 | nil=>exact fun w3 k3=>h w3 (k.trans k3)
 | cons o os=>exact fun w3 k3=>h w3 (k.trans k3)
def okK (l:List Oper) (m:Nat) (cs:List Nat):Bool:=
 okDraw l m none&&((List.range m).all fun i=>match l[i]? with
  | none=>true
  | some o=>plainOp o&&(reads l.toArray o).all fun s=>(List.range m).all fun j=>dstAt l j != some s||(((anc l).getD i []).contains j&&(cs.contains i||!cs.contains j)))&&
 ((List.range m).all fun i=>!cs.contains i||(List.range i).all fun j=>!cs.contains j||((anc l).getD i []).contains j)
theorem okK_spec {l:List Oper}{m:Nat}{cs:List Nat} (h:okK l m cs=true):okDraw l m none=true∧(∀ i o,i < m→l[i]? =some o→plainOp o=true∧∀ s∈reads l.toArray o,∀ j,j < m→dstAt l j=some s→((anc l).getD i []).contains j=true∧(cs.contains i=false→cs.contains j=false))∧
 (∀ i,i < m→cs.contains i=true→∀ j,j < i→cs.contains j=true→((anc l).getD i []).contains j=true):=by
 simp only [okK,Bool.and_eq_true] at h
 obtain ⟨⟨h1,h2⟩,h3⟩:=h
 refine ⟨h1,fun i o hi ho=>?_,fun i hi hci j hji hcj=>?_⟩
 ·have:=List.all_eq_true.1 h2 i (List.mem_range.2 hi)
  rw [ho] at this
  simp only [Bool.and_eq_true] at this
  refine ⟨this.1,fun s hs j hj hd=>?_⟩
  have:=List.all_eq_true.1 (List.all_eq_true.1 this.2 s hs) j (List.mem_range.2 hj)
  rw [hd] at this
  simp only [bne_self_eq_false,Bool.false_or,Bool.and_eq_true,Bool.or_eq_true,Bool.not_eq_true'] at this
  exact ⟨this.1,fun hc=>this.2.resolve_left (by rw [hc]; simp)⟩
 ·have:=List.all_eq_true.1 h3 i (List.mem_range.2 hi)
  rw [hci] at this
  simp only [Bool.not_true,Bool.false_or] at this
  have:=List.all_eq_true.1 this j (List.mem_range.2 hji)
  rw [hcj] at this
  simpa using this
def rem (l:List Oper) (m:Nat) (cs:List Nat) (S:Nat→Bool):List Oper:=((List.range m).filter fun i=>cs.contains i&&!S i).filterMap (l[·]?)
theorem rem_cons {l:List Oper}{m i:Nat}{cs:List Nat}{S:Nat→Bool}{o:Oper} (hi:i < m) (ho:l[i]? =some o) (hc:cs.contains i=true) (hS:S i=false) (hp:∀ j,j < i→cs.contains j=true→S j=true):rem l m cs S=o::rem l m cs (fun j=>S j||j==i):=by
 have hr:List.range m=List.range i++i::(List.range (m - i - 1)).map (·+(i+1)):=by
  have h1:m=i+(1+(m - i - 1)):=by omega
  conv=>lhs; rw [h1,List.range_add,List.range_add]
  simp [List.map_map,Function.comp_def,Nat.add_assoc,Nat.add_comm,Nat.add_left_comm]
 unfold rem
 rw [hr,List.filter_append,List.filter_append,List.filter_cons,List.filter_cons]
 have z1:(List.range i).filter (fun j=>cs.contains j&&!S j)=[]:=List.filter_eq_nil_iff.2 fun j hj=>by
  have hj:=List.mem_range.1 hj
  cases hcj:cs.contains j with
  | false=>simp
  | true=>simp [hp j hj hcj]
 have z2:(List.range i).filter (fun j=>cs.contains j&&!(S j||j==i))=[]:=List.filter_eq_nil_iff.2 fun j hj=>by
  have hj:=List.mem_range.1 hj
  cases hcj:cs.contains j with
  | false=>simp
  | true=>simp [hp j hj hcj]
 have z3:((List.range (m - i - 1)).map (·+(i+1))).filter (fun j=>cs.contains j&&!(S j||j==i))=((List.range (m - i - 1)).map (·+(i+1))).filter (fun j=>cs.contains j&&!S j):=List.filter_congr fun j hj=>by
  obtain ⟨x,_,rfl⟩:=List.mem_map.1 hj
  rw [show (x+(i+1)==i)=false by simp; omega,Bool.or_false]
 have g1:(cs.contains i&&!S i)=true:=by rw [hc,hS]; rfl
 have g2:(cs.contains i&&!(S i||i==i))=false:=by simp
 rw [z1,z2,z3,if_pos g1,if_neg (by rw [g2]; simp),List.nil_append,List.nil_append,List.filterMap_cons,ho]
theorem rem_same {l:List Oper}{m i:Nat}{cs:List Nat}{S:Nat→Bool} (hc:cs.contains i=false):rem l m cs (fun j=>S j||j==i)=rem l m cs S:=by
 unfold rem
 congr 1
 refine List.filter_congr fun j _=>?_
 by_cases hj:j=i
 ·subst hj; rw [hc]; rfl
 ·show (cs.contains j&&!(S j||j==i))=(cs.contains j&&!S j)
  rw [show (j==i)=false by simpa using hj,Bool.or_false]
theorem reg_k {e:Env}{l:List Oper}{id:Nat} (hm:P.follows .mixedOrders=true) (m:Nat) (cs:List Nat) (hok:okK l m cs=true) (hcs:cs=(List.range m).filter (cs.contains ·)) (h:DSd ro P l.toArray n d C w cs 0 (l.take m) e fun ek=>∀ w',Keep0 w w' →CK ro P l.toArray Q n d C w (l.drop m) (cs.filterMap (l[·]?)) ek w'):
 (Code.region id l.toArray true).wpIn (Fr ro) 0 P Q (E n e d) w:=by
 obtain ⟨vs,hl,hh,hK⟩:=dsd_vals h
 obtain ⟨hd,hq,hcc⟩:=okK_spec hok
 obtain ⟨_,_,hml,hdst,_,_⟩:=okDraw_spec hd
 have hlm:(l.take m).length=m:=by simp; omega
 have hlv:vs.length=m:=by omega
 generalize hek:seqE e ((msk cs 0 (l.take m)).zip vs)=ek at hK
 have hrem0:cs.filterMap (l[·]?)=rem l m cs (fun _=>false):=by
  unfold rem
  conv=>lhs; rw [hcs]
  congr 2
  funext i
  simp
 rw [hrem0] at hK
 have hps:∀ k i p,(((msk cs 0 (l.take m)).zip vs).take k)[i]? =some p→i < k∧i < m∧vs[i]? =some p.2∧∃ o,l[i]? =some o∧p.1=(bif cs.contains i then { o with dst:=none } else o):=by
  intro k i p hp
  rw [List.getElem?_take] at hp
  split at hp
  ·rename_i hik
   rw [List.getElem?_zip_eq_some,msk_get,List.getElem?_take] at hp
   obtain ⟨h1,h2⟩:=hp
   split at h1
   ·rename_i him
    obtain ⟨o,ho,h1⟩:=Option.map_eq_some_iff.1 h1
    rw [Nat.zero_add] at h1
    exact ⟨hik,him,h2,o,ho,h1.symm⟩
   ·simp at h1
  ·cases hp
 have F1:∀ k j s v,j < k→j < m→cs.contains j=false→dstAt l j=some s→vs[j]? =some v→seqE e (((msk cs 0 (l.take m)).zip vs).take k) s=v:=by
  intro k j s v hjk hjm hjc hds hv
  have hoj:∃ o,l[j]? =some o:=⟨l[j]'(by omega),List.getElem?_eq_getElem _⟩
  obtain ⟨o,ho⟩:=hoj
  refine seqE_at (j:=j) (o:=o) (v:=v) _ e ?_ (by simpa [dstAt,ho] using hds) fun i p hp hpd=>?_
  ·rw [List.getElem?_take,if_pos hjk,List.getElem?_zip_eq_some,msk_get,List.getElem?_take,if_pos hjm,ho,Nat.zero_add,hjc]
   exact ⟨rfl,hv⟩
  ·obtain ⟨a1,a2,a3,o',ho',hp1⟩:=hps k i p hp
   cases hci:cs.contains i with
   | true=>rw [hci] at hp1; rw [hp1] at hpd; cases hpd
   | false=>
     rw [hci] at hp1
     rw [hp1] at hpd
     exact hdst i j s a2 hjm (by simp [dstAt,ho']; exact hpd) hds
 have F2:∀ k s,(∀ j,j < m→cs.contains j=false→dstAt l j≠some s)→seqE e (((msk cs 0 (l.take m)).zip vs).take k) s=e s:=by
  intro k s hs
  refine seqE_not _ e fun p hp hpd=>?_
  obtain ⟨i,hi,rfl⟩:=List.getElem_of_mem hp
  obtain ⟨a1,a2,a3,o',ho',hp1⟩:=hps k i _ (List.getElem?_eq_getElem hi)
  cases hci:cs.contains i with
  | true=>rw [hci] at hp1; rw [hp1] at hpd; cases hpd
  | false=>
    rw [hci] at hp1
    rw [hp1] at hpd
    exact hs i a2 hci (by simp [dstAt,ho']; exact hpd)
 have hall:((msk cs 0 (l.take m)).zip vs).take m=(msk cs 0 (l.take m)).zip vs:=List.take_of_length_le (by simp [msk_len]; omega)
 have F1m:∀ j s v,j < m→cs.contains j=false→dstAt l j=some s→vs[j]? =some v→ek s=v:=fun j s v h1 h2 h3 h4=>by
  rw [← hek,← hall]; exact F1 m j s v h1 h1 h2 h3 h4
 have F2m:∀ s,(∀ j,j < m→cs.contains j=false→dstAt l j≠some s)→ek s=e s:=fun s hs=>by
  rw [← hek,← hall]; exact F2 m s hs
 have hvj:∀ j,j < m→∃ v,vs[j]? =some v:=fun j hj=>⟨vs[j]'(by omega),List.getElem?_eq_getElem _⟩
 refine reg_inv hm m hd (fun S e' w' =>Keep C w w' ∧(∀ s,(∀ j,j < m→dstAt l j≠some s)→e' s=e s)∧(∀ j s v,j < m→S j=true→cs.contains j=false→dstAt l j=some s→vs[j]? =some v→e' s=v)∧
  ∃ ec:Env,(∀ c s,c < m→S c=true→cs.contains c=true→dstAt l c=some s→e' s=ec s)∧(∀ s,(∀ c,c < m→S c=true→cs.contains c=true→dstAt l c≠some s)→ec s=ek s)∧CK ro P l.toArray Q n d C w (l.drop m) (rem l m cs S) ec w') ?_ ?_ ?_
 ·intro w1 k1
  exact ⟨k1.any,fun _ _=>rfl,fun _ _ _ _ h=>by (cases h),ek,fun _ _ _ h=>by (cases h),fun _ _=>rfl,hK w1 k1⟩
 ·rintro S i o e' w' ho him hSi hwait hlt hclosed ⟨hk,hfr,hqv,ec,qA,qB,qC⟩
  obtain ⟨hpl,hrd⟩:=hq i o him ho
  have hne:∀ j s,j < m→j≠i→dstAt l j=some s→o.dst≠some s:=fun j s hj hji hds hod=>hji (hdst j i s hj him hds (by simp [dstAt,ho,hod]))
  have hup:∀ (f:Env) v s,o.dst≠some s→updo f o.dst v s=f s:=fun f v s hne' =>by
   cases hod:o.dst with
   | none=>rfl
   | some t=>
     have:s≠t:=fun h=>hne' (by rw [hod,h])
     simp [updo,upd,nbeq this]
  cases hci:cs.contains i with
  | false=>
    obtain ⟨v,hv⟩:=hvj i him
    have q1:=wp1_congr (e' :=e') (R:=rv v) (fun _ _ _ _ _ _ h=>h) hpl (fun s hs=>?_) (hh i o v (by rw [List.getElem?_take,if_pos him]; exact ho) hv (by rw [Nat.zero_add]; exact hci) w' hk)
    ·refine wp1_mono (fun ex a w2 hq2=>?_) q1
     cases ex with
     | normal=>
       obtain ⟨u,rfl,hk2,hu⟩:=hq2
       have hu:u=v:=hu
       subst hu
       refine ⟨_,rfl,hk.trans hk2.any,fun s hs=>?_,fun j s x hj hSj hcj hds hx=>?_,ec,fun c s hc hSc hcc2 hds=>?_,fun s hs=>qB s fun c hc hSc=>hs c hc (by simp [hSc]),?_⟩
       ·rw [hup _ _ s (fun hod=>hs i him (by simp [dstAt,ho,hod]))]; exact hfr s hs
       ·by_cases hji:j=i
        ·subst hji
         have hod:o.dst=some s:=by simpa [dstAt,ho] using hds
         rw [hv] at hx; cases hx
         rw [hod]; simp [updo,upd]
        ·rw [hup _ _ s (hne j s hj hji hds)]
         exact hqv j s x hj (by simpa [hji] using hSj) hcj hds hx
       ·have hci' :c≠i:=fun h=>by rw [h,hci] at hcc2; cases hcc2
        rw [hup _ _ s (hne c s hc hci' hds)]
        exact qA c s hc (by simpa [hci'] using hSc) hcc2 hds
       ·rw [rem_same hci]; exact qC.stays hk2
     | _=>exact hq2.elim
    ·by_cases hx:∃ j,j < m∧dstAt l j=some s
     ·obtain ⟨j,hj,hds⟩:=hx
      obtain ⟨ha,hcj⟩:=hrd s hs j hj hds
      obtain ⟨u,hu⟩:=hvj j hj
      have hil:i < l.length:=(List.getElem?_eq_some_iff.1 ho).1
      rw [hqv j s u hj (hwait j ha) (hcj hci) hds hu,F1 i j s u (anc_lt hd hil ha) hj (hcj hci) hds hu]
     ·have hx' :∀ j,j < m→dstAt l j≠some s:=fun j hj hds=>hx ⟨j,hj,hds⟩
      rw [hfr s hx',F2 i s fun j hj _=>hx' j hj]
  | true=>
    have hprev:∀ j,j < i→cs.contains j=true→S j=true:=fun j hj hcj=>hwait j (hcc i him hci j hj hcj)
    have hlater:∀ j,i < j→j < m→cs.contains j=true→S j=false:=fun j hij hjm hcj=>by
     cases hS:S j with
     | false=>rfl
     | true=>
       have:=hclosed j i hS (hcc j hjm hcj i hij hci)
       rw [hSi] at this; cases this
    rw [rem_cons him ho hci hSi hprev] at qC
    have q1:=wp1_congrV (e' :=e') (Ψ:=fun v w2=>Keep C w w2∧CK ro P l.toArray Q n d C w (l.drop m) (rem l m cs fun j=>S j||j==i) (updo ec o.dst v) w2) hpl (fun s hs=>?_) (qC w' (Keep.refl _ _))
    ·refine wp1_mono (fun ex a w2 hq2=>?_) q1
     cases ex with
     | normal=>
       obtain ⟨v,rfl,hk2,hC⟩:=hq2
       refine ⟨_,rfl,hk2,fun s hs=>?_,fun j s x hj hSj hcj hds hx=>?_,updo ec o.dst v,fun c s hc hSc hcc2 hds=>?_,fun s hs=>?_,hC⟩
       ·rw [hup _ _ s (fun hod=>hs i him (by simp [dstAt,ho,hod]))]; exact hfr s hs
       ·have hji:j≠i:=fun h=>by rw [h,hci] at hcj; cases hcj
        rw [hup _ _ s (hne j s hj hji hds)]
        exact hqv j s x hj (by simpa [hji] using hSj) hcj hds hx
       ·by_cases hci2:c=i
        ·subst hci2
         have hod:o.dst=some s:=by simpa [dstAt,ho] using hds
         rw [hod]; simp [updo,upd]
        ·rw [hup _ _ s (hne c s hc hci2 hds),hup _ _ s (hne c s hc hci2 hds)]
         exact qA c s hc (by simpa [hci2] using hSc) hcc2 hds
       ·rw [hup _ _ s (fun hod=>hs i him (by simp) hci (by simp [dstAt,ho,hod]))]
        exact qB s fun c hc hSc=>hs c hc (by simp [hSc])
     | _=>exact hq2.elim
    ·by_cases hx:∃ j,j < m∧dstAt l j=some s
     ·obtain ⟨j,hj,hds⟩:=hx
      obtain ⟨ha,_⟩:=hrd s hs j hj hds
      cases hcj:cs.contains j with
      | true=>exact qA j s hj (hwait j ha) hcj hds
      | false=>
        obtain ⟨u,hu⟩:=hvj j hj
        rw [hqv j s u hj (hwait j ha) hcj hds hu,qB s fun c hc hSc hcc3 hds2=>?_,F1m j s u hj hcj hds hu]
        have:=hdst c j s hc hj hds2 hds
        rw [this,hcj] at hcc3; cases hcc3
     ·have hx' :∀ j,j < m→dstAt l j≠some s:=fun j hj hds=>hx ⟨j,hj,hds⟩
      rw [hfr s hx',qB s fun c hc _ _=>hx' c hc,F2m s fun j hj _=>hx' j hj]
 ·rintro S e' w' hall2 ⟨hk,hfr,hqv,ec,qA,qB,qC⟩
  have hr:rem l m cs S=[]:=by
   unfold rem
   rw [List.filter_eq_nil_iff.2]
   ·rfl
   ·intro j hj
    simp [hall2 j (List.mem_range.1 hj)]
  rw [hr] at qC
  have he:e' =ec:=by
   funext s
   by_cases hx:∃ j,j < m∧dstAt l j=some s
   ·obtain ⟨j,hj,hds⟩:=hx
    cases hcj:cs.contains j with
    | true=>exact qA j s hj (hall2 j hj) hcj hds
    | false=>
      obtain ⟨u,hu⟩:=hvj j hj
      rw [hqv j s u hj (hall2 j hj) hcj hds hu,qB s fun c hc hSc hcc3 hds2=>?_,F1m j s u hj hcj hds hu]
      have:=hdst c j s hc hj hds2 hds
      rw [this,hcj] at hcc3; cases hcc3
   ·have hx' :∀ j,j < m→dstAt l j≠some s:=fun j hj hds=>hx ⟨j,hj,hds⟩
    rw [hfr s hx',qB s fun c hc _ _=>hx' c hc,F2m s fun j hj _=>hx' j hj]
  rw [he]
  exact qC w' (Keep.refl _ _)
theorem cK0 {full:Array Oper}{tail os:List Oper}{e:Env}{w2:World} (hk:Keep C w w2) (h:CK ro P full Q n d C w tail os e w2):
 wpA ro P full (Ends1 fun a w2=>∃ v,a=E n (updo e none v) d∧Keep C w w2∧CK ro P full Q n d C w tail os (updo e none v) w2) [] (E n e d) w2:=wp_nil ⟨undef,rfl,hk,h⟩
theorem St.stX {w0 w w' :World}{C0:Nat→Prop}{X L:List Asr} (S:St w0 C0 w X L) {i j:Nat}{p q:Asr} (hi:X[i]? =some p) (hj:X[j]? =some q) (hne:i≠j) (k:Keep q.fp w w'):p.ok w' :=by
 refine p.mono _ _ (S.xs p (List.mem_of_getElem? hi)) fun b hb=>k.block b (p.inb _ _ (S.xs p (List.mem_of_getElem? hi)) hb) fun hq=>?_
 obtain ⟨h1,rfl⟩:=List.getElem?_eq_some_iff.1 hi
 obtain ⟨h2,rfl⟩:=List.getElem?_eq_some_iff.1 hj
 rcases Nat.lt_or_ge i j with h | h
 ·exact List.pairwise_iff_getElem.1 S.dx i j h1 h2 h b hb hq
 ·exact List.pairwise_iff_getElem.1 S.dx j i h2 h1 (by omega) b hq hb
theorem St.baseQ {w0 w:World}{C0:Nat→Prop}{X L:List Asr} (S:St w0 C0 w X L) {j:Nat}{q:Asr} (hj:X[j]? =some q):St w q.fp w [q] (X.eraseIdx j++L):=by
 have hq:=List.mem_of_getElem? hj
 have he:∀ p∈X.eraseIdx j,∃ i,i≠j∧X[i]? =some p:=fun p hp=>by
  obtain ⟨i,hi,rfl⟩:=List.getElem_of_mem hp
  rw [List.getElem_eraseIdx]
  split
  ·rename_i h; exact ⟨i,by omega,List.getElem?_eq_getElem _⟩
  ·rename_i h; exact ⟨i+1,by omega,List.getElem?_eq_getElem _⟩
 refine ⟨Keep.refl _ _,fun x hx=>by rw [List.mem_singleton.1 hx]; exact S.xs q hq,fun p hp=>?_,List.pairwise_singleton ..,fun x hx p hp b h1 h2=>?_,fun x hx b hb=>.inr (by rw [List.mem_singleton.1 hx] at hb; exact hb)⟩
 ·rcases List.mem_append.1 hp with h | h
  ·exact S.xs p (List.mem_of_mem_eraseIdx h)
  ·exact S.ps p h
 ·rw [List.mem_singleton.1 hx] at h1
  rcases List.mem_append.1 hp with h | h
  ·obtain ⟨i,hij,hi⟩:=he p h
   obtain ⟨g1,rfl⟩:=List.getElem?_eq_some_iff.1 hi
   obtain ⟨g2,rfl⟩:=List.getElem?_eq_some_iff.1 hj
   rcases Nat.lt_or_ge i j with h' | h'
   ·exact List.pairwise_iff_getElem.1 S.dx i j g1 g2 h' b h2 h1
   ·exact List.pairwise_iff_getElem.1 S.dx j i g2 g1 (by omega) b h1 h2
  ·exact S.dp q hq p h b h1 h2
theorem St.fromBaseQ {w0 w w' :World}{C0:Nat→Prop}{X L Xn:List Asr} (S:St w0 C0 w X L) {j:Nat}{q:Asr} (hj:X[j]? =some q) (S' :St w q.fp w' Xn (X.eraseIdx j++L)):St w0 C0 w' (Xn++X.eraseIdx j) L:=by
 have hq:=List.mem_of_getElem? hj
 have sub:List.Sublist (X.eraseIdx j) X:=List.eraseIdx_sublist ..
 have hown:∀ b,q.fp b→w0.heap.size≤b∨C0 b:=S.own q hq
 refine ⟨⟨S'.keep.os.trans S.keep.os,S'.keep.tape.trans S.keep.tape,S'.keep.output.trans S.keep.output,Nat.le_trans S.keep.size S'.keep.size,fun b hb hC=>?_⟩,fun x hx=>?_,fun p hp=>S'.ps p (List.mem_append_right _ hp),?_,fun x hx p hp=>?_,fun x hx b hb=>?_⟩
 ·rw [S'.keep.block b (Nat.lt_of_lt_of_le hb S.keep.size) fun hf=>?_]
  ·exact S.keep.block b hb hC
  ·rcases hown b hf with h | h
   ·omega
   ·exact hC h
 ·rcases List.mem_append.1 hx with h | h
  ·exact S'.xs x h
  ·exact S'.ps x (List.mem_append_left _ h)
 ·exact List.pairwise_append.2 ⟨S'.dx,S.dx.sublist sub,fun a ha b hb=>S'.dp a ha b (List.mem_append_left _ hb)⟩
 ·rcases List.mem_append.1 hx with h | h
  ·exact S'.dp x h p (List.mem_append_right _ hp)
  ·exact S.dp x (sub.subset h) p hp
 ·rcases List.mem_append.1 hx with h | h
  ·rcases S'.own x h b hb with h' | h'
   ·exact .inl (Nat.le_trans S.keep.size h')
   ·exact hown b h'
  ·exact S.own x (sub.subset h) b hb
end
end Go.Fx
namespace Go.Fx
open Go
section
variable {α δ:Type}
def ri (inner:α×δ→List Asr) (hl:List (α×δ)) (xs:List α):Asr where
 fp b:=∃ h∈hl,∃ q∈inner h,q.fp b
 ok w:=hl.map Prod.fst=xs∧∀ h∈hl,∀ q∈inner h,q.ok w
 mono w w' h k:=⟨h.1,fun x hx q hq=>q.mono _ _ (h.2 x hx q hq) fun b hb=>k b ⟨x,hx,q,hq,hb⟩⟩
 inb w b h hb:=by obtain ⟨x,hx,q,hq,hb⟩:=hb; exact q.inb _ _ (h.2 x hx q hq) hb
variable {inner:α×δ→List Asr}{hl hl' :List (α×δ)}{xs xs' :List α}{w0 w w' :World}{C:Nat→Prop}{X L:List Asr}
end
abbrev RowH:=List Int×Option Addr×Nat
def rowI (h:RowH):List Asr:=[rd intE 1 h.2.1 h.2.2 h.1]
def rowG (e:TypeId) (h:RowH):Asr:=gr intE 1 e h.2.1 h.2.2 h.1
def rx' (e:TypeId) (hl:List RowH) (xs:List (List Int)):Asr where
 fp b:=∃ h∈hl,(rowG e h).fp b
 ok w:=hl.map Prod.fst=xs∧(∀ h∈hl,(rowG e h).ok w)∧hl.Pairwise fun p q=>∀ b,(rowG e p).fp b→¬(rowG e q).fp b
 mono w w' h k:=⟨h.1,fun p hp=>(rowG e p).mono _ _ (h.2.1 p hp) fun b hb=>k b ⟨p,hp,hb⟩,h.2.2⟩
 inb w b h hb:=by obtain ⟨p,hp,hb⟩:=hb; exact (rowG e p).inb _ _ (h.2.1 p hp) hb
section
variable {w0 w w' :World}{C:Nat→Prop}{X L:List Asr}{t:TypeId}{hl:List RowH}{xs:List (List Int)}
theorem rx_fp:∀ b,(ri rowI hl xs).fp b→(rx' t hl xs).fp b:=fun b ⟨x,hx,q,hq,hb⟩=>⟨x,hx,gr_fp b (by rw [show q=_ from List.mem_singleton.1 hq] at hb; exact hb)⟩
theorem New.rx {k:Nat} (h:New k (rx' t hl xs)):New k (ri rowI hl xs):=fun b hb=>h b (rx_fp b hb)
end
section
variable {ro:Option Nat}{P:Program}{full:Array Oper}{Q:Exit→Act→World→Prop}{n:Nat}{d:List Deferred}{e:Env}{w w0:World}{C:Nat→Prop}{X L:List Asr}
variable {rest:List Oper}{ty:TypeId}{ps:String}{af:Array Edge}
end
end Go.Fx
namespace Go.Fx
end Go.Fx
namespace Go.Fx
open Go
section
variable {α:Type}{enc:α→List Value}{s:Nat}
variable {ro:Option Nat}{P:Program}{full:Array Oper}{Q:Exit→Act→World→Prop}{n:Nat}{d:List Deferred}{e:Env}{w w0:World}{C:Nat→Prop}{X L:List Asr}
variable {rest:List Oper}{ty:TypeId}{ps:String}{af:Array Edge}
end
end Go.Fx
namespace Go.Fx
open Go
section
variable {ro:Option Nat}{P:Program}{full:Array Oper}{Q:Exit→Act→World→Prop}{n:Nat}{d:List Deferred}{e:Env}{w w0:World}{C:Nat→Prop}{X L:List Asr}
variable {rest:List Oper}{ty:TypeId}{ps:String}{af:Array Edge}
end
end Go.Fx
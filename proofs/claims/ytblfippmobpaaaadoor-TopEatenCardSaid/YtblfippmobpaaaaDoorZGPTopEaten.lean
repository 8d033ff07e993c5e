/- Plain facts about coal. -/
import Derived.Test.YtblfippmobpaaaaDoorZGPTa
import Derived.KernelRfl
set_option linter.unusedVariables false
set_option linter.unusedSimpArgs false
namespace Go.Proofs.YtblfippmobpaaaaDoor
open Go Go.Fx
theorem within_eqC (a b c:Int):coal_within a b c=some (inB a b c):=by
 unfold coal_within inB
 cases decide (b≤a) <;> rfl
theorem getI_ix {α:Type}{l:List α}{k:Nat} (h:k < l.length):getI l (k:Int)=some l[k]:=by rw [getI_nat,List.getElem?_eq_getElem h]
theorem loop_fold {σ ρ:Type}{body:(σ→Option ρ)→σ→Option ρ} (S:Nat→σ) (n:Nat) {R:Option ρ} (hs:∀ rec k,k < n→body rec (S k)=rec (S (k+1))) (he:∀ rec,body rec (S n)=R) (hn:n < big):loopF body big (S 0)=R:=by
 have key:∀ d k m,k+d=n→d < m→loopF body m (S k)=R:=by
  intro d
  induction d with
  | zero=>
    intro k m h1 h2
    obtain ⟨m,rfl⟩:∃ q,m=q+1:=⟨m - 1,by omega⟩
    obtain rfl:k=n:=by omega
    exact he _
  | succ d ih=>
    intro k m h1 h2
    obtain ⟨m,rfl⟩:∃ q,m=q+1:=⟨m - 1,by omega⟩
    show body (loopF body m) (S k)=R
    rw [hs _ k (by omega)]
    exact ih (k+1) m (by omega) (by omega)
 exact key n 0 big (by omega) hn
theorem loop_fold0 {σ ρ:Type}{body:(σ→Option ρ)→σ→Option ρ} (S:Nat→σ) (n:Nat) {s0:σ}{R:Option ρ} (hs:∀ rec k,k < n→body rec (S k)=rec (S (k+1))) (he:∀ rec,body rec (S n)=R) (hn:n < big) (h0:S 0=s0):loopF body big s0=R:=h0▸loop_fold S n hs he hn
theorem big_eq:big=18446744073709551616:=by decide
def allTo {α:Type} (p:α→Bool) (l:List α) (ok:Bool) (k:Nat):Bool:=ok&&(l.take k).all p
theorem allTo_zero {α:Type}{p:α→Bool}{l:List α}{ok:Bool}:allTo p l ok 0=ok:=by simp [allTo]
theorem allTo_succ {α:Type}{p:α→Bool}{l:List α}{ok:Bool}{k:Nat} (h:k < l.length):allTo p l ok (k+1)=(allTo p l ok k&&p l[k]):=by
 unfold allTo
 rw [← List.take_append_getElem h,List.all_append]
 simp [Bool.and_assoc]
theorem allTo_end {α:Type}{p:α→Bool}{l:List α}{ok:Bool}:allTo p l ok l.length=(ok&&l.all p):=by simp [allTo]
theorem wrN {k:Nat}{n:Nat} (h:k < n) (hn:n≤9223372036854775807):Fx.wr ((k:Int)+1)=((k+1:Nat):Int):=by rw [wrI (by omega) (by omega)]; omega
structure Arg (b:CoalBook):Prop where
 dl:b.Days.length≤9223372036854775807
 pl:b.Dips.length≤9223372036854775807
 el:b.Eats.length=2
 xl:b.Extra.length=3
def spB (s:Span) (hi wide:Int):Bool:=decide (0≤s.Low)&&decide (s.Low≤s.High)&&decide (s.High≤hi)&&decide (s.High - s.Low≤wide)
theorem isSpan_eq (s:Span) (hi wide:Int) (hh:hi≤9223372036854775807):coal_isSpan s hi wide=some (spB s hi wide):=by
 unfold coal_isSpan spB
 by_cases h1:0≤s.Low <;> by_cases h2:s.Low≤s.High <;> by_cases h3:s.High≤hi <;> simp only [h1,h2,h3,decide_true,decide_false,cond_true,cond_false,Bool.true_and,Bool.false_and,Bool.and_false]
 rw [wrI (by omega) (by omega)]
theorem spB_valid {s:Span}{hi wide:Int} (h:spB s hi wide=true):B_Valid s 0 hi=some true:=by
 unfold spB at h
 simp only [Bool.and_eq_true,decide_eq_true_eq] at h
 unfold B_Valid
 simp [h.1.1.1,h.1.1.2,h.1.2]
def dayB (x:CoalDay):Bool:=inB x.Crosses 0 9&&inB x.Engines 1 3&&inB x.Winds 1 7
def dipB (n:Nat) (x:CoalDip):Bool:=inB x.Day 0 ((n:Int) - 1)&&inB x.Read 0 800&&inB x.Error 0 9
theorem isDay_eq (b:CoalBook) (A:Arg b) (n:Int):coal_isDay b n=some (inB n 0 ((b.Days.length:Int) - 1)):=by
 unfold coal_isDay
 have:=A.dl
 rw [wrI (by omega) (by omega),within_eqC]; rfl
def valBC (b:CoalBook):Bool:=spB b.Heap 400 4&&inB b.Days.length 1 6&&spB b.Collier b.Days.length 3&&inB b.Brings 0 400&&decide ((b.Dips.length:Int)≤4)&&b.Eats.all (spB · 9 2)&&b.Extra.all (inB · 0 9)&&b.Days.all dayB&&b.Dips.all (dipB b.Days.length)
theorem check_tail (b:CoalBook) (A:Arg b) (ok:Bool):coal_Check_j9 b ok=some (bif ok&&b.Eats.all (spB · 9 2)&&b.Extra.all (inB · 0 9)&&b.Days.all dayB&&b.Dips.all (dipB b.Days.length) then 0 else 60):=by
 have h1:=A.dl; have h2:=A.pl; have h3:=A.el; have h4:=A.xl
 unfold coal_Check_j9
 refine loop_fold0 (fun k=>(allTo (spB · 9 2) b.Eats ok k,(k:Int))) 2 (fun rec k hk=>?_) (fun rec=>?_) (by rw [big_eq]; omega) (by rw [allTo_zero]; rfl)
 ·unfold coal_Check_l8
  simp only
  rw [decide_eq_true (by omega),cond_true,need_of (by simp [inI]; omega),wrN hk (by omega),allTo_succ (by omega)]
  rw [isSpan_eq _ _ _ (by omega),show agetS b.Eats (k:Int)=b.Eats[k]'(by omega) by simp [agetS,List.getD_eq_getElem?_getD,List.getElem?_eq_getElem (show k < b.Eats.length by omega)]]
  cases allTo (spB · 9 2) b.Eats ok k <;> simp
 unfold coal_Check_l8
 simp only
 rw [decide_eq_false (by omega),cond_false,show allTo (spB · 9 2) b.Eats ok 2=(ok&&b.Eats.all (spB · 9 2)) by rw [← h3,allTo_end]]
 generalize (ok&&b.Eats.all (spB · 9 2))=ok
 refine loop_fold0 (fun k=>(allTo (inB · 0 9) b.Extra ok k,(k:Int))) 3 (fun rec k hk=>?_) (fun rec=>?_) (by rw [big_eq]; omega) (by rw [allTo_zero]; rfl)
 ·unfold coal_Check_l7
  simp only
  rw [decide_eq_true (by omega),cond_true,need_of (by simp [inI]; omega),wrN hk (by omega),allTo_succ (by omega),within_eqC]
  rw [show aget b.Extra (k:Int)=b.Extra[k]'(by omega) by simp [aget,List.getD_eq_getElem?_getD,List.getElem?_eq_getElem (show k < b.Extra.length by omega)]]
  cases allTo (inB · 0 9) b.Extra ok k <;> simp
 unfold coal_Check_l7
 simp only
 rw [decide_eq_false (by omega),cond_false,show allTo (inB · 0 9) b.Extra ok 3=(ok&&b.Extra.all (inB · 0 9)) by rw [← h4,allTo_end]]
 generalize (ok&&b.Extra.all (inB · 0 9))=ok
 refine loop_fold0 (fun k=>(allTo dayB b.Days ok k,(k:Int))) b.Days.length (fun rec k hk=>?_) (fun rec=>?_) (by rw [big_eq]; omega) (by rw [allTo_zero]; rfl)
 ·unfold coal_Check_l6
  simp only
  rw [decide_eq_true (by omega),cond_true,getI_ix hk,Option.bind_some,wrN hk h1,allTo_succ hk]
  simp only [within_eqC,Option.bind_some]
  have e:dayB b.Days[k]=(inB b.Days[k].Crosses 0 9&&inB b.Days[k].Engines 1 3&&inB b.Days[k].Winds 1 7):=rfl
  rw [e]
  cases allTo dayB b.Days ok k <;> cases inB b.Days[k].Crosses 0 9 <;> cases inB b.Days[k].Engines 1 3 <;> cases inB b.Days[k].Winds 1 7 <;> rfl
 unfold coal_Check_l6
 simp only
 rw [decide_eq_false (by omega),cond_false,allTo_end]
 generalize (ok&&b.Days.all dayB)=ok
 refine loop_fold0 (fun k=>(allTo (dipB b.Days.length) b.Dips ok k,(k:Int))) b.Dips.length (fun rec k hk=>?_) (fun rec=>?_) (by rw [big_eq]; omega) (by rw [allTo_zero]; rfl)
 ·unfold coal_Check_l5
  simp only
  rw [decide_eq_true (by omega),cond_true,getI_ix hk,Option.bind_some,wrN hk h2,allTo_succ hk]
  simp only [within_eqC,isDay_eq b A,Option.bind_some]
  have e:dipB b.Days.length b.Dips[k]=(inB b.Dips[k].Day 0 ((b.Days.length:Int) - 1)&&inB b.Dips[k].Read 0 800&&inB b.Dips[k].Error 0 9):=rfl
  rw [e]
  cases allTo (dipB b.Days.length) b.Dips ok k <;> cases inB b.Dips[k].Day 0 ((b.Days.length:Int) - 1) <;> cases inB b.Dips[k].Read 0 800 <;> cases inB b.Dips[k].Error 0 9 <;> rfl
 unfold coal_Check_l5
 simp only
 rw [decide_eq_false (by omega),cond_false,allTo_end]
 cases (ok&&b.Dips.all (dipB b.Days.length)) <;> rfl
theorem check_eqC (b:CoalBook) (A:Arg b):coal_Check b=some (bif valBC b then 0 else 60):=by
 have h1:=A.dl; have h2:=A.pl
 unfold coal_Check valBC
 simp only [within_eqC,isSpan_eq _ _ _ (show (400:Int)≤9223372036854775807 by omega),isSpan_eq _ _ _ (show (b.Days.length:Int)≤9223372036854775807 by omega),Option.bind_some,check_tail b A]
 cases spB b.Heap 400 4 <;> cases inB b.Days.length 1 6 <;> cases spB b.Collier b.Days.length 3 <;> cases inB b.Brings 0 400 <;> rfl
theorem loop_at {σ ρ:Type}{body:(σ→Option ρ)→σ→Option ρ}{s:σ}{R:Option ρ} (h:∀ rec,body rec s=R):loopF body big s=R:=by
 rw [big_eq]; exact h _
structure ValC (b:CoalBook):Prop where
 hp:spB b.Heap 400 4=true
 dn:1≤b.Days.length∧b.Days.length≤6
 co:spB b.Collier b.Days.length 3=true
 br:0≤b.Brings∧b.Brings≤400
 pn:b.Dips.length≤4
 ea:∀ s∈b.Eats,spB s 9 2=true
 ex:∀ x∈b.Extra,0≤x∧x≤9
 da:∀ x∈b.Days,dayB x=true
 di:∀ x∈b.Dips,dipB b.Days.length x=true
theorem val_iffC {b:CoalBook}:valBC b=true↔ValC b:=by
 unfold valBC
 simp only [Bool.and_eq_true,List.all_eq_true,inB_iff,decide_eq_true_eq]
 constructor
 ·rintro ⟨⟨⟨⟨⟨⟨⟨⟨a,b1,b2⟩,c⟩,d⟩,e⟩,f⟩,g⟩,h⟩,i⟩; exact ⟨a,⟨by omega,by omega⟩,c,d,by omega,f,g,h,i⟩
 ·rintro ⟨a,b,c,d,e,f,g,h,i⟩; exact ⟨⟨⟨⟨⟨⟨⟨⟨a,by omega,by omega⟩,c⟩,d⟩,by omega⟩,f⟩,g⟩,h⟩,i⟩
theorem ValC.arg {b:CoalBook} (V:ValC b) (el:b.Eats.length=2) (xl:b.Extra.length=3):Arg b:=⟨by have:=V.dn; omega,by have:=V.pn; omega,el,xl⟩
def foldY {ε σ:Type} (yv:ε→σ→Option (Bool×σ)):List ε→σ→Option (Bool×σ)
 | [],s=>some (true,s)
 | x::l,s=>(yv x s).bind fun r=>bif r.1 then foldY yv l r.2 else some (false,r.2)
theorem foldY_app {ε σ:Type} (yv:ε→σ→Option (Bool×σ)):∀ (l m:List ε) (s:σ),foldY yv (l++m) s=(foldY yv l s).bind fun r=>bif r.1 then foldY yv m r.2 else some (false,r.2)
 | [],m,s=>rfl
 | x::l,m,s=>by
   show (yv x s).bind (fun r=>bif r.1 then foldY yv (l++m) r.2 else some (false,r.2))=Option.bind ((yv x s).bind fun r=>bif r.1 then foldY yv l r.2 else some (false,r.2)) _
   cases yv x s with
   | none=>rfl
   | some r=>
     obtain ⟨b,s2⟩:=r
     cases b with
     | true=>exact foldY_app yv l m s2
     | false=>rfl
def codeOf {σ:Type} (r:Bool×σ):Bool×Nat×σ:=(r.1,bif r.1 then 0 else 1,r.2)
theorem foldY_nest {ε δ σ:Type} (yv:δ→σ→Option (Bool×σ)) (f:ε→List δ) (bd:ε→σ→Option (Bool×Nat×σ)) (L:List ε) (hb:∀ x∈L,∀ z,bd x z=(foldY yv (f x) z).map codeOf):∀ z,foldY (yvOf bd) L (0,z)=(foldY yv (L.flatMap f) z).map codeOf:=by
 induction L with
 | nil=>intro z; rfl
 | cons x L ih=>
   intro z
   rw [List.flatMap_cons,foldY_app]
   show (yvOf bd x (0,z)).bind (fun r=>bif r.1 then foldY (yvOf bd) L r.2 else some (false,r.2))=_
   rw [show yvOf bd x (0,z)=bd x z from rfl,hb x (List.mem_cons_self ..) z]
   cases foldY yv (f x) z with
   | none=>rfl
   | some r=>
     obtain ⟨b,s2⟩:=r
     cases b with
     | true=>exact ih (fun x hx=>hb x (List.mem_cons_of_mem _ hx)) s2
     | false=>rfl
theorem foldY_one {ε σ:Type} (yv:ε→σ→Option (Bool×σ)) (x:ε) (s:σ):foldY yv [x] s=yv x s:=by
 show (yv x s).bind (fun r=>bif r.1 then some (true,r.2) else some (false,r.2))=_
 cases yv x s with
 | none=>rfl
 | some r=>obtain ⟨b,s2⟩:=r; cases b <;> rfl
theorem foldY_all {ε σ:Type} (bd:ε→σ→Option (Bool×Nat×σ)) (g:σ→ε→σ):∀ (L:List ε),(∀ x∈L,∀ z,bd x z=some (true,0,g z x))→∀ z,foldY (yvOf bd) L (0,z)=some (true,0,L.foldl g z)
 | [],_,z=>rfl
 | x::L,h,z=>by
   show (bd x z).bind (fun r=>bif r.1 then foldY (yvOf bd) L r.2 else some (false,r.2))=_
   rw [h x (List.mem_cons_self ..) z]
   exact foldY_all bd g L (fun x hx=>h x (List.mem_cons_of_mem _ hx)) _
theorem foldY_find {ε σ:Type} (bd:ε→σ→Option (Bool×Nat×σ)) (p:ε→Bool) (s0 s1:σ):∀ (L:List ε),(∀ x∈L,bd x s0=some (bif p x then (false,1,s1) else (true,0,s0)))→foldY (yvOf bd) L (0,s0)=some (bif L.any p then (false,1,s1) else (true,0,s0))
 | [],_=>rfl
 | x::L,h=>by
   show (bd x s0).bind (fun r=>bif r.1 then foldY (yvOf bd) L r.2 else some (false,r.2))=_
   rw [h x (List.mem_cons_self ..),List.any_cons]
   cases hp:p x with
   | true=>rfl
   | false=>exact foldY_find bd p s0 s1 L fun x hx=>h x (List.mem_cons_of_mem _ hx)
def rng (s:Span):List Int:=(List.range' 0 (s.High - s.Low+1).toNat).map fun (k:Nat)=>s.Low+k
theorem rng_mem {s:Span}{n:Int}:n∈rng s↔s.Low≤n∧n≤s.High:=by
 unfold rng
 simp only [List.mem_map,List.mem_range'_1]
 constructor
 ·rintro ⟨k,hk,rfl⟩; omega
 ·rintro ⟨h1,h2⟩; exact ⟨(n - s.Low).toNat,by omega,by omega⟩
structure Sp (s:Span):Prop where
 l0:0≤s.Low
 lh:s.Low≤s.High
 hi:s.High≤1000
theorem sp_of {s:Span}{hi wide:Int} (h:spB s hi wide=true) (hh:hi≤1000):Sp s:=by
 unfold spB at h
 simp only [Bool.and_eq_true,decide_eq_true_eq] at h
 exact ⟨h.1.1.1,h.1.1.2,by omega⟩
theorem all_eq {σ:Type} (s:Span) (S:Sp s) (yv:Int→σ→Option (Bool×σ)) (z:σ):coal_all_1 z s yv=(foldY yv (rng s) z).map (·.2):=by
 have h1:=S.l0; have h2:=S.lh; have h3:=S.hi
 have key:∀ (d k m:Nat) (z:σ),k+d=(s.High - s.Low+1).toNat→d < m→loopF (coal_all_1_l1 s yv) m ((k:Int),z)=(foldY yv ((List.range' k d).map fun (k:Nat)=>s.Low+k) z).map (·.2):=by
  intro d
  induction d with
  | zero=>
    intro k m z h4 h5
    obtain ⟨m,rfl⟩:∃ q,m=q+1:=⟨m - 1,by omega⟩
    show coal_all_1_l1 s yv (loopF (coal_all_1_l1 s yv) m) ((k:Int),z)=_
    unfold coal_all_1_l1
    simp only
    rw [wrI (x:=s.High - s.Low) (by omega) (by omega),wrI (x:=s.High - s.Low+1) (by omega) (by omega),decide_eq_false (by omega),cond_false]
    rfl
  | succ d ih=>
    intro k m z h4 h5
    obtain ⟨m,rfl⟩:∃ q,m=q+1:=⟨m - 1,by omega⟩
    suffices H:∀ rec:(Int×σ)→Option σ,(∀ z2,rec (((k+1:Nat):Int),z2)=(foldY yv ((List.range' (k+1) d).map fun (k:Nat)=>s.Low+k) z2).map (·.2))→coal_all_1_l1 s yv rec ((k:Int),z)=(foldY yv ((List.range' k (d+1)).map fun (k:Nat)=>s.Low+k) z).map (·.2) from H _ fun z2=>ih (k+1) m z2 (by omega) (by omega)
    intro rec hrec
    rw [List.range'_succ,List.map_cons]
    show _=Option.map _ ((yv (s.Low+(k:Int)) z).bind fun r=>bif r.1 then foldY yv _ r.2 else some (false,r.2))
    unfold coal_all_1_l1
    simp only
    rw [wrI (x:=s.High - s.Low) (by omega) (by omega),wrI (x:=s.High - s.Low+1) (by omega) (by omega),decide_eq_true (by omega),cond_true,wrI (x:=s.Low+k) (by omega) (by omega)]
    cases yv (s.Low+(k:Int)) z with
    | none=>rfl
    | some r=>
      obtain ⟨b,z2⟩:=r
      cases b with
      | false=>rfl
      | true=>
        show rec (Fx.wr ((k:Int)+1),z2)=Option.map _ (foldY yv _ z2)
        rw [wrI (by omega) (by omega),show (k:Int)+1=((k+1:Nat):Int) by omega]
        exact hrec z2
 exact key (s.High - s.Low+1).toNat 0 big z (by omega) (by rw [big_eq]; omega)
theorem all_nest {δ σ:Type} (s:Span) (S:Sp s) (yv:δ→σ→Option (Bool×σ)) (f:Int→List δ) (bd:Int→σ→Option (Bool×Nat×σ)) (hb:∀ x∈rng s,∀ z,bd x z=(foldY yv (f x) z).map codeOf) (z:σ):
 coal_all_1 (0,z) s (yvOf bd)=(foldY yv ((rng s).flatMap f) z).map fun r=>(bif r.1 then 0 else 1,r.2):=by
 rw [all_eq s S,foldY_nest yv f bd _ hb,Option.map_map]; rfl
def rightB (q:Coal_book) (day n:Int):Bool:=q.CoalBook.Dips.all fun x=>!(x.Day==day)||inB (n - x.Read) (-x.Error) x.Error
structure Op (q:Coal_book):Prop where
 hp:Sp q.CoalBook.Heap
 co:Sp q.CoalBook.Collier
 el:q.CoalBook.Eats.length=2
 ea:∀ s∈q.CoalBook.Eats,Sp s∧s.High≤9
 dn:q.CoalBook.Days.length≤6
 da:∀ x∈q.CoalBook.Days,0≤x.Crosses∧x.Crosses≤9
 br:0≤q.CoalBook.Brings∧q.CoalBook.Brings≤400
 pn:q.CoalBook.Dips.length≤10
 di:∀ x∈q.CoalBook.Dips,0≤x.Read∧x.Read≤2000∧0≤x.Error∧x.Error≤9
 cs:∀ p∈q.costs_,0≤p.2∧p.2≤81
theorem right_eqC (q:Coal_book) (Q:Op q) (day n:Int) (h1:-100000≤n) (h2:n≤100000):coal_book_right q day n=some (rightB q day n):=by
 have hn:=Q.pn
 have key:∀ (d k m:Nat),k+d=q.CoalBook.Dips.length→d < m→loopF (coal_book_right_l1 q day n) m (k:Int)=some ((q.CoalBook.Dips.drop k).all fun x=>!(x.Day==day)||inB (n - x.Read) (-x.Error) x.Error):=by
  intro d
  induction d with
  | zero=>
    intro k m h4 h5
    obtain ⟨m,rfl⟩:∃ q,m=q+1:=⟨m - 1,by omega⟩
    show coal_book_right_l1 q day n (loopF (coal_book_right_l1 q day n) m) (k:Int)=_
    unfold coal_book_right_l1
    rw [decide_eq_false (by omega),cond_false,List.drop_eq_nil_of_le (by omega)]
    rfl
  | succ d ih=>
    intro k m h4 h5
    obtain ⟨m,rfl⟩:∃ q,m=q+1:=⟨m - 1,by omega⟩
    suffices H:∀ rec:Int→Option Bool,rec ((k+1:Nat):Int)=some ((q.CoalBook.Dips.drop (k+1)).all fun x=>!(x.Day==day)||inB (n - x.Read) (-x.Error) x.Error)→coal_book_right_l1 q day n rec (k:Int)=some ((q.CoalBook.Dips.drop k).all fun x=>!(x.Day==day)||inB (n - x.Read) (-x.Error) x.Error) from H _ (ih (k+1) m (by omega) (by omega))
    intro rec hrec
    have hk:k < q.CoalBook.Dips.length:=by omega
    obtain ⟨g1,g2,g3,g4⟩:=Q.di _ (List.getElem_mem hk)
    unfold coal_book_right_l1
    rw [decide_eq_true (by omega),cond_true,getI_ix hk,Option.bind_some,List.drop_eq_getElem_cons hk,List.all_cons,wrI (x:=n - _) (by omega) (by omega),wrI (x:=-_) (by omega) (by omega),within_eqC,Option.bind_some,wrI (x:=(k:Int)+1) (by omega) (by omega),show (k:Int)+1=((k+1:Nat):Int) by omega,hrec]
    cases (q.CoalBook.Dips[k].Day==day) <;> cases inB (n - q.CoalBook.Dips[k].Read) (-q.CoalBook.Dips[k].Error) q.CoalBook.Dips[k].Error <;> rfl
 have:=key q.CoalBook.Dips.length 0 big (by omega) (by rw [big_eq]; omega)
 exact this
def eng (q:Coal_book) (day:Int) (e:List Int):Int:=
 match q.CoalBook.Days[day.toNat]? with
 | none=>0
 | some x=>(bif (andI (shrI x.Engines 0) 1)==1 then e.getD 0 0*x.Crosses else 0)+(bif (andI (shrI x.Engines 1) 1)==1 then e.getD 1 0*x.Crosses else 0)
theorem sum_bd:∀ (l:List Int),(∀ x∈l,0≤x∧x≤81)→0≤l.sum∧l.sum≤81*(l.length:Int)
 | [],_=>by simp
 | a::l,h=>by
   have h1:=h a (List.mem_cons_self ..)
   have h2:=sum_bd l fun x hx=>h x (List.mem_cons_of_mem _ hx)
   simp only [List.sum_cons,List.length_cons]
   omega
theorem sum_eq (l:List Int) (hl:l.length≤2) (hb:∀ x∈l,0≤x∧x≤81):coal_sum_int l=some l.sum:=by
 unfold coal_sum_int
 refine loop_fold0 (fun k=>((l.take k).sum,(k:Int))) l.length (fun rec k hk=>?_) (fun rec=>?_) (by rw [big_eq]; omega) rfl
 ·unfold coal_sum_int_l1
  simp only
  have h1:=sum_bd (l.take k) fun x hx=>hb x (List.mem_of_mem_take hx)
  have h2:=hb _ (List.getElem_mem hk)
  have h3:(l.take k).length≤2:=by rw [List.length_take]; omega
  rw [decide_eq_true (by omega),cond_true,getI_ix hk,Option.bind_some,wrI (by omega) (by omega),wrI (by omega) (by omega),← List.take_append_getElem hk,List.sum_append]
  simp
 ·unfold coal_sum_int_l1
  simp only
  rw [decide_eq_false (by omega),cond_false,List.take_length]
theorem engines_eq (q:Coal_book) (Q:Op q) (d:Nat) (hd:d < q.CoalBook.Days.length) (e:List Int) (he:e.length=2) (hb:∀ x∈e,0≤x∧x≤9):coal_book_engines q d e=some (eng q d e)∧0≤eng q d e∧eng q d e≤162:=by
 have hx:=Q.da _ (List.getElem_mem hd)
 match e,he with
 | [a,b],_=>
   have ha:=hb a (by simp); have hb' :=hb b (by simp)
   have eE:eng q d [a,b]=(bif (andI (shrI q.CoalBook.Days[d].Engines 0) 1)==1 then a*q.CoalBook.Days[d].Crosses else 0)+(bif (andI (shrI q.CoalBook.Days[d].Engines 1) 1)==1 then b*q.CoalBook.Days[d].Crosses else 0):=by
    unfold eng
    rw [show ((d:Int)).toNat=d from rfl,List.getElem?_eq_getElem hd]; rfl
   generalize hX:q.CoalBook.Days[d]=X at*
   have m1:0≤a*X.Crosses:=Int.mul_nonneg ha.1 hx.1
   have m2:0≤b*X.Crosses:=Int.mul_nonneg hb'.1 hx.1
   have m3:a*X.Crosses≤9*9:=Int.mul_le_mul ha.2 hx.2 hx.1 (by omega)
   have m4:b*X.Crosses≤9*9:=Int.mul_le_mul hb'.2 hx.2 hx.1 (by omega)
   have hg:getI q.CoalBook.Days (d:Int)=some X:=by rw [getI_ix hd,hX]
   refine ⟨?_,?_⟩
   ·rw [eE]
    unfold coal_book_engines coal_nothing
    rw [Option.bind_some]
    by_cases hz:sgl [a,b] 2=sgl (List.replicate 2 0) 2
    ·rw [decide_eq_true hz,cond_true]
     have:a=0∧b=0:=by simpa [sgl,List.range_succ] using hz
     obtain ⟨rfl,rfl⟩:=this
     simp
    ·rw [decide_eq_false hz,cond_false]
     generalize hp0:(andI (shrI X.Engines 0) 1==1)=c0
     generalize hp1:(andI (shrI X.Engines 1) 1==1)=c1
     have w1:wr (a*X.Crosses)=a*X.Crosses:=wrI (by omega) (by omega)
     have w2:wr (b*X.Crosses)=b*X.Crosses:=wrI (by omega) (by omega)
     refine loop_fold0 (fun k=>((bif decide (1≤k)&&c0 then [a*X.Crosses] else [])++(bif decide (2≤k)&&c1 then [b*X.Crosses] else []),(k:Int))) 2 (fun rec k hk=>?_) (fun rec=>?_) (by rw [big_eq]; omega) rfl
     ·unfold coal_book_engines_l1
      match k,hk with
      | 0,_=>
        simp only [show decide (((0:Nat):Int) < 2)=true by decide,cond_true,hg,Option.bind_some,show inI ((0:Nat):Int) 2=true by decide,need_true,show decide ((0:Int)≤((0:Nat):Int))=true by decide,show aget [a,b] ((0:Nat):Int)=a from rfl,w1]
        rw [show ((0:Nat):Int)=0 from rfl,hp0]
        cases c0 with
        | true=>rw [cond_true,need_of (by simp [fitsL])]; rfl
        | false=>rfl
      | 1,_=>
        simp only [show decide (((1:Nat):Int) < 2)=true by decide,cond_true,hg,Option.bind_some,show inI ((1:Nat):Int) 2=true by decide,need_true,show decide ((0:Int)≤((1:Nat):Int))=true by decide,show aget [a,b] ((1:Nat):Int)=b from rfl,w2]
        rw [show ((1:Nat):Int)=1 from rfl,hp1]
        cases c1 with
        | true=>cases c0 <;> (rw [cond_true,need_of (by simp [fitsL])]; rfl)
        | false=>cases c0 <;> rfl
     ·unfold coal_book_engines_l1
      simp only [show decide (((2:Nat):Int) < 2)=false by decide,cond_false,show decide (1≤2)=true by decide,show decide (2≤2)=true by decide,Bool.true_and]
      rw [sum_eq _ (by cases c0 <;> cases c1 <;> simp) (fun x hx=>by cases c0 <;> cases c1 <;> simp at hx <;> omega)]
      cases c0 <;> cases c1 <;> simp
   ·rw [eE]
    cases (andI (shrI X.Engines 0) 1==1) <;> cases (andI (shrI X.Engines 1) 1==1) <;> simp only [cond_true,cond_false] <;> omega
def blown (q:Coal_book):Nat→Coal_truth→Int→Int→List Coal_truth
 | 0,t,_,_=>[t]
 | r+1,t,d,c=>(List.range' 0 3).flatMap fun (w:Nat)=>optL (lookL q.costs_ (Coal_gust.mk d (w:Int))) fun cost=>
    bif rightB q d ((bif t.collier_==d then c+q.CoalBook.Brings else c) - eng q d t.eats_ - cost) then
     blown q r (Coal_truth.mk t.eats_ t.collier_ (aset t.winds_ 6 d (w:Int)) (aset t.coal_ 6 d ((bif t.collier_==d then c+q.CoalBook.Brings else c) - eng q d t.eats_ - cost))) (d+1) ((bif t.collier_==d then c+q.CoalBook.Brings else c) - eng q d t.eats_ - cost)
    else []
where optL {α β:Type} (o:Option α) (f:α→List β):List β:=match o with | none=>[] | some a=>f a
theorem aset_aset {l:List Int}{n:Nat}{i x y:Int}:aset (aset l n i x) n i y=aset l n i y:=by
 unfold aset
 refine List.map_congr_left fun k hk=>?_
 have hk:=List.mem_range.1 hk
 by_cases h:k=i.toNat
 ·simp [h]
 ·simp [h,List.getD_eq_getElem?_getD,hk]
theorem look_mem {q:Coal_book}{g:Coal_gust}{c:Int} (h:lookL q.costs_ g=some c):∃ p∈q.costs_,p.2=c:=by
 unfold lookL at h
 obtain ⟨p,hp,rfl⟩:=Option.map_eq_some_iff.1 h
 exact ⟨p,List.mem_of_find?_eq_some hp,rfl⟩
theorem blown_eq (q:Coal_book) (Q:Op q) {σ:Type} (yv:Coal_truth→σ→Option (Bool×σ)):∀ (r:Nat) (t:Coal_truth) (d:Nat) (c:Int) (s:σ) (n:Nat),d+r=q.CoalBook.Days.length→r < n→-(1000*((d:Int)+1))≤c→c≤1000*((d:Int)+1)→t.eats_.length=2→(∀ x∈t.eats_,0≤x∧x≤9)→
 coal_book_blown_1_1 n t d c s q q yv=foldY yv (blown q r t d c) s:=by
 have hdn:=Q.dn; have hbr:=Q.br
 intro r
 induction r with
 | zero=>
   intro t d c s n h1 h2 h3 h4 h5 h6
   obtain ⟨n,rfl⟩:∃ m,n=m+1:=⟨n - 1,by omega⟩
   show coal_book_blown_1_1_F _ t d c s q q yv=foldY yv [t] s
   rw [foldY_one]
   unfold coal_book_blown_1_1_F
   rw [show ((d:Int)==(q.CoalBook.Days.length:Int))=true by rw [beq_iff_eq]; omega,cond_true]
   cases yv t s <;> rfl
 | succ r ih=>
   intro t d c s n h1 h2 h3 h4 h5 h6
   obtain ⟨n,rfl⟩:∃ m,n=m+1:=⟨n - 1,by omega⟩
   show coal_book_blown_1_1_F _ t d c s q q yv=_
   obtain ⟨e1,e2,e3⟩:=engines_eq q Q d (by omega) t.eats_ h5 h6
   have j6:∀ z:Int,-(1000*((d:Int)+1))≤z→z≤1000*((d:Int)+1)+400→z=(bif t.collier_==(d:Int) then c+q.CoalBook.Brings else c)→coal_book_blown_1_1_j6 q d t q (fun x0 x1 x2 x3=>coal_book_blown_1_1 n x0 x1 x2 x3 q q yv) s z=foldY yv (blown q (r+1) t d c) s:=by
    intro z z1 z2 hz
    unfold coal_book_blown_1_1_j6
    rw [e1,Option.bind_some,blown,← hz]
    have key:∀ (e k m:Nat) (W C:List Int) (s:σ),k+e=3→e < m→(∀ x,aset W 6 d x=aset t.winds_ 6 d x)→(∀ x,aset C 6 d x=aset t.coal_ 6 d x)→
     loopF (coal_book_blown_1_1_l5 q d q z (eng q d t.eats_) (fun x0 x1 x2 x3=>coal_book_blown_1_1 n x0 x1 x2 x3 q q yv) t) m ((k:Int),W,C,s)=foldY yv ((List.range' k e).flatMap fun (w:Nat)=>blown.optL (lookL q.costs_ (Coal_gust.mk d (w:Int))) fun cost=>
      bif rightB q d (z - eng q d t.eats_ - cost) then blown q r (Coal_truth.mk t.eats_ t.collier_ (aset t.winds_ 6 d (w:Int)) (aset t.coal_ 6 d (z - eng q d t.eats_ - cost))) (d+1) (z - eng q d t.eats_ - cost) else []) s:=by
     intro e
     induction e with
     | zero=>
       intro k m W C s h7 h8 hW hC
       obtain ⟨m,rfl⟩:∃ q,m=q+1:=⟨m - 1,by omega⟩
       show coal_book_blown_1_1_l5 q d q z _ _ t _ ((k:Int),W,C,s)=_
       unfold coal_book_blown_1_1_l5
       simp only
       rw [decide_eq_false (by omega),cond_false]
       rfl
     | succ e ih2=>
       intro k m W C s h7 h8 hW hC
       obtain ⟨m,rfl⟩:∃ q,m=q+1:=⟨m - 1,by omega⟩
       show coal_book_blown_1_1_l5 q d q z _ _ t (loopF _ m) ((k:Int),W,C,s)=_
       have ih3:=fun W C s=>ih2 (k+1) m W C s (by omega) (by omega)
       generalize loopF (coal_book_blown_1_1_l5 q d q z (eng q d t.eats_) (fun x0 x1 x2 x3=>coal_book_blown_1_1 n x0 x1 x2 x3 q q yv) t) m=rec at ih3
       rw [List.range'_succ,List.flatMap_cons,foldY_app]
       have w0:wr ((k:Int)+1)=((k+1:Nat):Int):=by rw [wrI (by omega) (by omega)]; omega
       unfold coal_book_blown_1_1_l5
       simp only
       rw [decide_eq_true (by omega),cond_true]
       cases hl:lookL q.costs_ (Coal_gust.mk d (k:Int)) with
       | none=>
         simp only [optC,blown.optL]
         unfold coal_book_blown_1_1_j4
         simp only [Bool.not_false,cond_true]
         rw [w0,ih3 W C s hW hC]
         rfl
       | some cost=>
         obtain ⟨p,hp,rfl⟩:=look_mem hl
         obtain ⟨p1,p2⟩:=Q.cs p hp
         simp only [optC,blown.optL]
         unfold coal_book_blown_1_1_j4
         simp only [Bool.not_true,cond_false]
         rw [wrI (x:=z - eng q d t.eats_) (by omega) (by omega),wrI (x:=z - eng q d t.eats_ - p.2) (by omega) (by omega),right_eqC q Q d _ (by omega) (by omega),Option.bind_some]
         cases hr:rightB q d (z - eng q d t.eats_ - p.2) with
         | false=>
           simp only [Bool.not_false,cond_true,cond_false]
           rw [w0,ih3 W C s hW hC]
           rfl
         | true=>
           simp only [Bool.not_true,cond_true,cond_false]
           rw [need_of (by simp [inI]; omega),need_of (by simp [inI]; omega),hW,hC,show wr ((d:Int)+1)=((d+1:Nat):Int) by rw [wrI (by omega) (by omega)]; omega]
           rw [ih (Coal_truth.mk t.eats_ t.collier_ (aset t.winds_ 6 d (k:Int)) (aset t.coal_ 6 d (z - eng q d t.eats_ - p.2))) (d+1) (z - eng q d t.eats_ - p.2) s n (by omega) (by omega) (by omega) (by omega) h5 h6,show ((d+1:Nat):Int)=(d:Int)+1 by omega]
           cases foldY yv (blown q r _ ((d:Int)+1) _) s with
           | none=>rfl
           | some x=>
             obtain ⟨b,s2⟩:=x
             cases b with
             | false=>rfl
             | true=>
               show rec (wr ((k:Int)+1),_,_,s2)=foldY yv _ s2
               exact (congrArg (fun x=>rec (x,_,_,s2)) w0).trans (ih3 _ _ s2 (fun x=>aset_aset) (fun x=>aset_aset))
    exact key 3 0 big _ _ s (by omega) (by rw [big_eq]; omega) (fun _=>rfl) (fun _=>rfl)
   unfold coal_book_blown_1_1_F
   rw [show ((d:Int)==(q.CoalBook.Days.length:Int))=false by rw [beq_eq_false_iff_ne]; omega,cond_false]
   cases hc:(t.collier_==(d:Int)) with
   | true=>
     rw [cond_true,wrI (by omega) (by omega)]
     exact j6 _ (by omega) (by omega) (by rw [hc]; rfl)
   | false=>
     rw [cond_false]
     exact j6 _ (by omega) (by omega) (by rw [hc]; rfl)
def init (o p c:Int):Coal_truth:=Coal_truth.mk [o,p] c (List.replicate 6 0) (List.replicate 6 0)
def truths (q:Coal_book):List Coal_truth:=
 (rng q.CoalBook.Heap).flatMap fun h=>(rng (agetS q.CoalBook.Eats (0:Int))).flatMap fun o=>(rng (agetS q.CoalBook.Eats (1:Int))).flatMap fun p=>(rng q.CoalBook.Collier).flatMap fun c=>blown q q.CoalBook.Days.length (init o p c) 0 h
theorem truth_mem {q:Coal_book}{t:Coal_truth}:t∈truths q↔∃ h∈rng q.CoalBook.Heap,∃ o∈rng (agetS q.CoalBook.Eats (0:Int)),∃ p∈rng (agetS q.CoalBook.Eats (1:Int)),∃ c∈rng q.CoalBook.Collier,t∈blown q q.CoalBook.Days.length (init o p c) 0 h:=by
 simp only [truths,List.mem_flatMap]
theorem tail_eq {σ:Type} (x:Option (Bool×σ)):(x.map fun r=>((bif r.1 then 0 else 1:Nat),r.2)).bind (fun r=>bif (r.1==0) then some (true,0,r.2) else some (false,1,r.2))=x.map codeOf:=by
 cases x with
 | none=>rfl
 | some r=>obtain ⟨b,s⟩:=r; cases b <;> rfl
theorem agetS_mem {l:List Span}{i:Int} (h:i.toNat < l.length):agetS l i∈l:=by
 unfold agetS
 rw [List.getD_eq_getElem?_getD,List.getElem?_eq_getElem h]
 exact List.getElem_mem _
theorem truths_eq (q:Coal_book) (Q:Op q) {σ:Type} (yv:Coal_truth→σ→Option (Bool×σ)) (z:σ):coal_book_truths_1 z q yv=(foldY yv (truths q) z).map (·.2):=by
 have he0:=Q.ea _ (agetS_mem (i:=0) (by rw [Q.el]; decide))
 have he1:=Q.ea _ (agetS_mem (i:=1) (by rw [Q.el]; decide))
 have q1:∀ (o p:Int),0≤o→o≤9→0≤p→p≤9→∀ h∈rng q.CoalBook.Heap,∀ c z,coal_book_truths_1_r118 q o p h yv c z=(foldY yv (blown q q.CoalBook.Days.length (init o p c) 0 h) z).map codeOf:=by
  intro o p o1 o2 p1 p2 h hh c z
  have hh:=rng_mem.1 hh
  have:=Q.hp.l0; have:=Q.hp.hi
  unfold coal_book_truths_1_r118 coal_book_blown coal_book_blown_1
  rw [Option.bind_some]
  rw [show Coal_truth.mk [o,p] c (List.replicate 6 0) (List.replicate 6 0)=init o p c from rfl]
  have:=blown_eq q Q (yvOf (coal_book_truths_1_r117 yv)) q.CoalBook.Days.length (init o p c) 0 h (0,z) big (by omega) (by have:=Q.dn; rw [big_eq]; omega) (by omega) (by omega) rfl (fun x hx=>by
   simp [init] at hx
   rcases hx with rfl | rfl <;> omega)
  rw [show coal_book_blown_1_1 big (init o p c) 0 h (0,z) q q (yvOf (coal_book_truths_1_r117 yv))=_ from this]
  rw [foldY_nest yv (fun x=>[x]) (coal_book_truths_1_r117 yv) _ (fun x _ z=>by
   rw [foldY_one]
   unfold coal_book_truths_1_r117
   cases yv x z with
   | none=>rfl
   | some r=>obtain ⟨b,s⟩:=r; cases b <;> rfl),show ∀ l:List Coal_truth,(l.flatMap fun x=>[x])=l from fun l=>by induction l <;> simp_all]
  show _=Option.map codeOf (foldY yv (blown q q.CoalBook.Days.length (init o p c) ((0:Nat):Int) h) z)
  cases foldY yv (blown q q.CoalBook.Days.length (init o p c) ((0:Nat):Int) h) z with
  | none=>rfl
  | some r=>obtain ⟨b,s⟩:=r; cases b <;> rfl
 have q2:∀ (o p:Int),0≤o→o≤9→0≤p→p≤9→∀ h∈rng q.CoalBook.Heap,∀ z,coal_book_truths_1_r119 q o h yv p z=(foldY yv ((rng q.CoalBook.Collier).flatMap fun c=>blown q q.CoalBook.Days.length (init o p c) 0 h) z).map codeOf:=by
  intro o p o1 o2 p1 p2 h hh z
  unfold coal_book_truths_1_r119 coal_all
  rw [Option.bind_some,all_nest _ Q.co yv _ _ (fun x hx z=>q1 o p o1 o2 p1 p2 h hh x z),tail_eq]
 have q3:∀ (o:Int),0≤o→o≤9→∀ h∈rng q.CoalBook.Heap,∀ z,coal_book_truths_1_r120 q h yv o z=(foldY yv ((rng (agetS q.CoalBook.Eats (1:Int))).flatMap fun p=>(rng q.CoalBook.Collier).flatMap fun c=>blown q q.CoalBook.Days.length (init o p c) 0 h) z).map codeOf:=by
  intro o o1 o2 h hh z
  unfold coal_book_truths_1_r120 coal_all
  rw [Option.bind_some,all_nest _ he1.1 yv _ _ (fun x hx z=>q2 o x o1 o2 (by have:=rng_mem.1 hx; have:=he1.1.l0; omega) (by have:=rng_mem.1 hx; have:=he1.2; omega) h hh z),tail_eq]
 have q4:∀ h∈rng q.CoalBook.Heap,∀ z,coal_book_truths_1_r121 q yv h z=(foldY yv ((rng (agetS q.CoalBook.Eats (0:Int))).flatMap fun o=>(rng (agetS q.CoalBook.Eats (1:Int))).flatMap fun p=>(rng q.CoalBook.Collier).flatMap fun c=>blown q q.CoalBook.Days.length (init o p c) 0 h) z).map codeOf:=by
  intro h hh z
  unfold coal_book_truths_1_r121 coal_all
  rw [Option.bind_some,all_nest _ he0.1 yv _ _ (fun x hx z=>q3 x (by have:=rng_mem.1 hx; have:=he0.1.l0; omega) (by have:=rng_mem.1 hx; have:=he0.2; omega) h hh z),tail_eq]
 unfold coal_book_truths_1 coal_all
 rw [Option.bind_some,all_nest _ Q.hp yv _ _ q4]
 show _=Option.map _ (foldY yv (truths q) z)
 unfold truths
 cases foldY yv _ z with
 | none=>rfl
 | some r=>obtain ⟨b,s⟩:=r; cases b <;> rfl
def keepD (l:List CoalDip) (but:List Int):Nat→List CoalDip
 | 0=>[]
 | k+1=>bif but.contains (k:Int) then keepD l but k else keepD l but k++(l[k]?).toList
def costW (x:CoalDay) (ex:List Int) (d:Int) (m:List (Coal_gust×Int)):Nat→List (Coal_gust×Int)
 | 0=>m
 | k+1=>bif (andI (shrI x.Winds (k:Int)) 1)==1 then putL (costW x ex d m k) (Coal_gust.mk d (k:Int)) (wr (x.Crosses*aget ex (k:Int))) else costW x ex d m k
def costD (ds:List CoalDay) (ex:List Int):Nat→List (Coal_gust×Int)
 | 0=>[]
 | k+1=>match ds[k]? with | some x=>costW x ex (k:Int) (costD ds ex k) 3 | none=>costD ds ex k
def opn (b:CoalBook) (but:List Int):Coal_book:=Coal_book.mk (CoalBook.mk b.Heap b.Eats b.Extra b.Days b.Collier b.Brings (keepD b.Dips but b.Dips.length)) (costD b.Days b.Extra b.Days.length)
theorem keepD_len (l:List CoalDip) (but:List Int):∀ k,(keepD l but k).length≤k
 | 0=>Nat.le_refl 0
 | k+1=>by
   have:=keepD_len l but k
   unfold keepD
   cases but.contains (k:Int) with
   | true=>rw [cond_true]; omega
   | false=>
     rw [cond_false,List.length_append]
     have:(l[k]?).toList.length≤1:=by cases l[k]? <;> simp
     omega
theorem keepD_mem {l:List CoalDip}{but:List Int}{x:CoalDip}:∀ {k},x∈keepD l but k→x∈l
 | 0,h=>by cases h
 | k+1,h=>by
   unfold keepD at h
   cases hc:but.contains (k:Int) with
   | true=>rw [hc,cond_true] at h; exact keepD_mem h
   | false=>
     rw [hc,cond_false] at h
     rcases List.mem_append.1 h with h | h
     ·exact keepD_mem h
     ·cases hk:l[k]? with
      | none=>rw [hk] at h; cases h
      | some y=>
        rw [hk] at h
        obtain rfl:=List.mem_singleton.1 h
        exact List.mem_of_getElem? hk
theorem putL_mem {m:List (Coal_gust×Int)}{g:Coal_gust}{v:Int}{x:Coal_gust×Int} (h:x∈putL m g v):x=(g,v)∨x∈m:=by
 unfold putL at h
 split at h
 ·rcases List.mem_or_eq_of_mem_set h with h | h
  ·exact .inr h
  ·exact .inl h
 ·rcases List.mem_append.1 h with h | h
  ·exact .inr h
  ·exact .inl (List.mem_singleton.1 h)
theorem costW_bd {x:CoalDay}{ex:List Int}{d:Int}{m:List (Coal_gust×Int)} (hx:0≤x.Crosses∧x.Crosses≤9) (he:∀ y∈ex,0≤y∧y≤9) (hm:∀ p∈m,0≤p.2∧p.2≤81):∀ k,∀ p∈costW x ex d m k,0≤p.2∧p.2≤81
 | 0=>hm
 | k+1=>by
   intro p hp
   unfold costW at hp
   cases hc:(andI (shrI x.Winds (k:Int)) 1)==1 with
   | false=>rw [hc,cond_false] at hp; exact costW_bd hx he hm k p hp
   | true=>
     rw [hc,cond_true] at hp
     rcases putL_mem hp with rfl | hp
     ·have h1:0≤aget ex (k:Int)∧aget ex (k:Int)≤9:=by
       unfold aget
       rw [List.getD_eq_getElem?_getD]
       cases hk:ex[((k:Int)).toNat]? with
       | none=>simp
       | some y=>exact he y (List.mem_of_getElem? hk)
      have m1:0≤x.Crosses*aget ex (k:Int):=Int.mul_nonneg hx.1 h1.1
      have m3:x.Crosses*aget ex (k:Int)≤9*9:=Int.mul_le_mul hx.2 h1.2 h1.1 (by omega)
      simp only
      rw [wrI (by omega) (by omega)]
      omega
     ·exact costW_bd hx he hm k p hp
theorem costD_bd {ds:List CoalDay}{ex:List Int} (hd:∀ x∈ds,0≤x.Crosses∧x.Crosses≤9) (he:∀ y∈ex,0≤y∧y≤9):∀ k,∀ p∈costD ds ex k,0≤p.2∧p.2≤81
 | 0=>fun p h=>by cases h
 | k+1=>by
   unfold costD
   cases hk:ds[k]? with
   | none=>exact costD_bd hd he k
   | some x=>exact costW_bd (hd x (List.mem_of_getElem? hk)) he (costD_bd hd he k) 3
theorem dayB_iff {x:CoalDay} (h:dayB x=true):(0≤x.Crosses∧x.Crosses≤9)∧(1≤x.Engines∧x.Engines≤3)∧1≤x.Winds∧x.Winds≤7:=by
 unfold dayB at h
 simp only [Bool.and_eq_true,inB_iff] at h
 exact ⟨h.1.1,h.1.2,h.2⟩
theorem dipB_iff {n:Nat}{x:CoalDip} (h:dipB n x=true):(0≤x.Day∧x.Day≤(n:Int) - 1)∧(0≤x.Read∧x.Read≤800)∧0≤x.Error∧x.Error≤9:=by
 unfold dipB at h
 simp only [Bool.and_eq_true,inB_iff] at h
 exact ⟨h.1.1,h.1.2,h.2⟩
theorem opn_op {b:CoalBook} (V:ValC b) (A:Arg b) (but:List Int):Op (opn b but) where
 hp:=sp_of V.hp (by omega)
 co:=sp_of V.co (by have:=V.dn; omega)
 el:=A.el
 ea s hs:=by
  have:=V.ea s hs
  refine ⟨sp_of this (by omega),?_⟩
  unfold spB at this
  simp only [Bool.and_eq_true,decide_eq_true_eq] at this
  exact this.1.2
 dn:=V.dn.2
 da x hx:=(dayB_iff (V.da x hx)).1
 br:=V.br
 pn:=by
  have h1:=keepD_len b.Dips but b.Dips.length
  have:=V.pn
  show (keepD b.Dips but b.Dips.length).length≤10
  omega
 di x hx:=by
  obtain ⟨_,h1,h2⟩:=dipB_iff (V.di x (keepD_mem hx))
  omega
 cs:=costD_bd (fun x hx=>(dayB_iff (V.da x hx)).1) V.ex _
theorem index_eq (l:List Int) (a:Int) (hl:l.length≤1000):sl_Contains_int_int l a=some (l.contains a):=by
 have key:∀ (d k m:Nat),k+d=l.length→d < m→∃ j,loopF (sl_Index_int_int_l1 l a) m (k:Int)=some j∧decide (j≥0)=(l.drop k).contains a:=by
  intro d
  induction d with
  | zero=>
    intro k m h1 h2
    obtain ⟨m,rfl⟩:∃ q,m=q+1:=⟨m - 1,by omega⟩
    refine ⟨-1,?_,by rw [List.drop_eq_nil_of_le (by omega)]; rfl⟩
    show sl_Index_int_int_l1 l a _ _=_
    unfold sl_Index_int_int_l1
    rw [decide_eq_false (by omega),cond_false]
  | succ d ih=>
    intro k m h1 h2
    obtain ⟨m,rfl⟩:∃ q,m=q+1:=⟨m - 1,by omega⟩
    have hk:k < l.length:=by omega
    obtain ⟨j,hj,hj2⟩:=ih (k+1) m (by omega) (by omega)
    show ∃ j,sl_Index_int_int_l1 l a (loopF (sl_Index_int_int_l1 l a) m) _=some j∧_
    generalize loopF (sl_Index_int_int_l1 l a) m=rec at hj
    unfold sl_Index_int_int_l1
    rw [decide_eq_true (by omega),cond_true,getI_ix hk,Option.bind_some,List.drop_eq_getElem_cons hk,List.contains_cons]
    cases hc:(a==l[k]) with
    | true=>exact ⟨k,by rw [cond_true],by simp⟩
    | false=>
      refine ⟨j,?_,by rw [hj2,Bool.false_or]⟩
      rw [cond_false,wrI (by omega) (by omega),show (k:Int)+1=((k+1:Nat):Int) by omega,hj]
 obtain ⟨j,hj,hj2⟩:=key l.length 0 big (by omega) (by rw [big_eq]; omega)
 unfold sl_Contains_int_int sl_Index_int_int
 rw [show loopF (sl_Index_int_int_l1 l a) big 0=some j from hj,Option.bind_some,hj2]; rfl
theorem opened_eqC {b:CoalBook} (V:ValC b) (A:Arg b) (but:List Int) (hb:but.length≤1000):coal_opened b but=some (opn b but):=by
 have hp:=V.pn; have hd:=V.dn
 unfold coal_opened
 refine loop_fold0 (fun k=>((k:Int),keepD b.Dips but k)) b.Dips.length (fun rec k hk=>?_) (fun rec=>?_) (by rw [big_eq]; omega) rfl
 ·unfold coal_opened_l29
  simp only
  rw [decide_eq_true (by omega),cond_true,getI_ix hk,Option.bind_some,index_eq _ _ hb,Option.bind_some,wrN hk (by omega),keepD,List.getElem?_eq_getElem hk]
  cases but.contains (k:Int) with
  | true=>rfl
  | false=>
    simp only [Bool.not_false,cond_true,cond_false]
    rw [need_of (by have:=keepD_len b.Dips but k; unfold fitsL; simp; omega)]
    rfl
 unfold coal_opened_l29
 simp only
 rw [decide_eq_false (by omega),cond_false]
 refine loop_fold0 (fun k=>((k:Int),costD b.Days b.Extra k)) b.Days.length (fun rec k hk=>?_) (fun rec=>?_) (by rw [big_eq]; omega) rfl
 ·unfold coal_opened_l28
  simp only
  rw [decide_eq_true (by omega),cond_true,getI_ix hk,Option.bind_some,costD,List.getElem?_eq_getElem hk]
  refine loop_fold0 (fun j=>((j:Int),costW b.Days[k] b.Extra (k:Int) (costD b.Days b.Extra k) j)) 3 (fun rec' j hj=>?_) (fun rec' =>?_) (by rw [big_eq]; omega) rfl
  ·unfold coal_opened_l27 coal_opened_j26
   simp only
   rw [decide_eq_true (by omega),cond_true,need_of (by simp [inI]; omega),show ((k:Int)==(-1))=false by rw [beq_eq_false_iff_ne]; omega]
   simp only [Bool.false_and,Bool.not_false,cond_true]
   rw [need_of (by simp),wrN hj (by omega),costW]
   cases (andI (shrI b.Days[k].Winds (j:Int)) 1==1) <;> rfl
  ·unfold coal_opened_l27
   simp only
   rw [decide_eq_false (by omega),cond_false,wrN hk (by omega)]
 ·unfold coal_opened_l28
  simp only
  rw [decide_eq_false (by omega),cond_false]
  rfl
theorem isTrue_eq (q:Coal_book) (Q:Op q):coal_book_isTrue q=some (!(truths q).isEmpty):=by
 unfold coal_book_isTrue coal_book_truths
 rw [Option.bind_some,truths_eq q Q,foldY_find coal_book_isTrue_r1 (fun _=>true) false true _ (fun x _=>rfl)]
 cases truths q <;> rfl
structure SpanOf (f:Coal_truth→Int) (L:List Coal_truth) (s:Span):Prop where
 nil:L=[]→s=⟨0,0⟩
 low:L≠[]→∃ t∈L,f t=s.Low
 high:L≠[]→∃ t∈L,f t=s.High
 le:∀ t∈L,s.Low≤f t
 ge:∀ t∈L,f t≤s.High
def spanG (f:Coal_truth→Int) (z:Int×Int×Bool) (t:Coal_truth):Int×Int×Bool:=
 bif z.2.2 then (f t,f t,false) else ((if f t < z.1 then f t else z.1),(if f t > z.2.1 then f t else z.2.1),false)
theorem spanG_fold (f:Coal_truth→Int):∀ (L:List Coal_truth) (lo hi:Int),∃ lo' hi',L.foldl (spanG f) (lo,hi,false)=(lo',hi',false)∧(lo' =lo∨∃ t∈L,f t=lo')∧(hi' =hi∨∃ t∈L,f t=hi')∧lo' ≤lo∧hi≤hi' ∧∀ t∈L,lo' ≤f t∧f t≤hi'
 | [],lo,hi=>⟨lo,hi,rfl,.inl rfl,.inl rfl,Int.le_refl _,Int.le_refl _,fun t h=>by cases h⟩
 | x::L,lo,hi=>by
   obtain ⟨lo',hi',h1,h2,h3,h4,h5,h6⟩:=spanG_fold f L (if f x < lo then f x else lo) (if f x > hi then f x else hi)
   refine ⟨lo',hi',h1,?_,?_,?_,?_,?_⟩
   ·rcases h2 with h2 | ⟨t,ht,h⟩
    ·split at h2
     ·exact .inr ⟨x,List.mem_cons_self ..,h2.symm⟩
     ·exact .inl h2
    ·exact .inr ⟨t,List.mem_cons_of_mem _ ht,h⟩
   ·rcases h3 with h3 | ⟨t,ht,h⟩
    ·split at h3
     ·exact .inr ⟨x,List.mem_cons_self ..,h3.symm⟩
     ·exact .inl h3
    ·exact .inr ⟨t,List.mem_cons_of_mem _ ht,h⟩
   ·split at h4 <;> omega
   ·split at h5 <;> omega
   ·intro t ht
    rcases List.mem_cons.1 ht with rfl | ht
    ·constructor
     ·split at h4 <;> omega
     ·split at h5 <;> omega
    ·exact h6 t ht
theorem span_ex (q:Coal_book) (Q:Op q) (x:Coal_number) (f:Coal_truth→Int) (hx:∀ t∈truths q,x.of_ t=some (f t)):∃ s,coal_book_span q x=some s∧SpanOf f (truths q) s:=by
 unfold coal_book_span coal_book_truths
 rw [Option.bind_some,truths_eq q Q,foldY_all (coal_book_span_r1 x) (spanG f) _ (fun t ht z=>by
  unfold coal_book_span_r1 spanG
  rw [hx t ht,Option.bind_some]
  obtain ⟨a,b,c⟩:=z
  cases c <;> simp)]
 generalize truths q=L
 refine ⟨_,rfl,?_⟩
 cases L with
 | nil=>exact ⟨fun _=>rfl,fun h=>(h rfl).elim,fun h=>(h rfl).elim,fun t h=>(by cases h),fun t h=>(by cases h)⟩
 | cons t L=>
   obtain ⟨lo,hi,h1,h2,h3,h4,h5,h6⟩:=spanG_fold f L (f t) (f t)
   have e:(t::L).foldl (spanG f) (0,0,true)=(lo,hi,false):=h1
   simp only [e,Option.map_some]
   refine ⟨fun h=>(by cases h),fun _=>?_,fun _=>?_,?_,?_⟩
   ·rcases h2 with h2 | ⟨u,hu,h⟩
    ·exact ⟨t,List.mem_cons_self ..,h2.symm⟩
    ·exact ⟨u,List.mem_cons_of_mem _ hu,h⟩
   ·rcases h3 with h3 | ⟨u,hu,h⟩
    ·exact ⟨t,List.mem_cons_self ..,h3.symm⟩
    ·exact ⟨u,List.mem_cons_of_mem _ hu,h⟩
   ·intro u hu
    rcases List.mem_cons.1 hu with rfl | hu
    ·exact h4
    ·exact (h6 u hu).1
   ·intro u hu
    rcases List.mem_cons.1 hu with rfl | hu
    ·exact h5
    ·exact (h6 u hu).2
def coalAt (d:Nat) (t:Coal_truth):Int:=t.coal_.getD d 0
structure Tru (q:Coal_book) (t:Coal_truth):Prop where
 el:t.eats_.length=2
 wl:t.winds_.length=6
 cl:t.coal_.length=6
 wi:∀ k,k < q.CoalBook.Days.length→0≤t.winds_.getD k 0∧t.winds_.getD k 0≤2
 co:∀ k,k < q.CoalBook.Days.length→-100000≤coalAt k t∧coalAt k t≤100000
theorem getD_aset {l:List Int}{n k:Nat}{i x:Int} (hk:k < n):(aset l n i x).getD k 0=if k=i.toNat then x else l.getD k 0:=by
 simp [aset,List.getD_eq_getElem?_getD,hk]
theorem blown_step {q:Coal_book}{r:Nat}{t u:Coal_truth}{d c:Int} (h:u∈blown q (r+1) t d c):∃ (w:Nat) (cost:Int),w < 3∧lookL q.costs_ (Coal_gust.mk d (w:Int))=some cost∧rightB q d ((bif t.collier_==d then c+q.CoalBook.Brings else c) - eng q d t.eats_ - cost)=true∧
 u∈blown q r (Coal_truth.mk t.eats_ t.collier_ (aset t.winds_ 6 d (w:Int)) (aset t.coal_ 6 d ((bif t.collier_==d then c+q.CoalBook.Brings else c) - eng q d t.eats_ - cost))) (d+1) ((bif t.collier_==d then c+q.CoalBook.Brings else c) - eng q d t.eats_ - cost):=by
 rw [blown] at h
 obtain ⟨w,hw,h⟩:=List.mem_flatMap.1 h
 cases hl:lookL q.costs_ (Coal_gust.mk d (w:Int)) with
 | none=>rw [hl] at h; cases h
 | some cost=>
   rw [hl] at h
   have h:u∈(bif rightB q d ((bif t.collier_==d then c+q.CoalBook.Brings else c) - eng q d t.eats_ - cost) then _ else []):=h
   refine ⟨w,cost,by have:=List.mem_range'_1.1 hw; omega,hl,?_,?_⟩
   ·cases hr:rightB q d ((bif t.collier_==d then c+q.CoalBook.Brings else c) - eng q d t.eats_ - cost) with
    | true=>rfl
    | false=>rw [hr] at h; cases h
   ·cases hr:rightB q d ((bif t.collier_==d then c+q.CoalBook.Brings else c) - eng q d t.eats_ - cost) with
    | true=>rw [hr] at h; exact h
    | false=>rw [hr] at h; cases h
theorem blown_tru (q:Coal_book) (Q:Op q):∀ (r:Nat) (t:Coal_truth) (d:Nat) (c:Int) (u:Coal_truth),d+r=q.CoalBook.Days.length→-(1000*((d:Int)+1))≤c→c≤1000*((d:Int)+1)→t.eats_.length=2→(∀ x∈t.eats_,0≤x∧x≤9)→t.winds_.length=6→t.coal_.length=6→
 (∀ k,k < d→0≤t.winds_.getD k 0∧t.winds_.getD k 0≤2)→(∀ k,k < d→-100000≤coalAt k t∧coalAt k t≤100000)→u∈blown q r t d c→Tru q u∧u.eats_=t.eats_∧u.collier_=t.collier_:=by
 have hdn:=Q.dn; have hbr:=Q.br
 intro r
 induction r with
 | zero=>
   intro t d c u h1 h2 h3 h4 h5 h6 h7 h8 h9 hu
   obtain rfl:=List.mem_singleton.1 hu
   exact ⟨⟨h4,h6,h7,fun k hk=>h8 k (by omega),fun k hk=>h9 k (by omega)⟩,rfl,rfl⟩
 | succ r ih=>
   intro t d c u h1 h2 h3 h4 h5 h6 h7 h8 h9 hu
   obtain ⟨w,cost,hw,hl,hr,hu⟩:=blown_step hu
   obtain ⟨_,e2,e3⟩:=engines_eq q Q d (by omega) t.eats_ h4 h5
   obtain ⟨p,hp,rfl⟩:=look_mem hl
   obtain ⟨p1,p2⟩:=Q.cs p hp
   have hz:-(1000*((d:Int)+1))≤(bif t.collier_==(d:Int) then c+q.CoalBook.Brings else c)∧(bif t.collier_==(d:Int) then c+q.CoalBook.Brings else c)≤1000*((d:Int)+1)+400:=by
    cases (t.collier_==(d:Int)) <;> simp only [cond_true,cond_false] <;> omega
   generalize (bif t.collier_==(d:Int) then c+q.CoalBook.Brings else c)=z at hz hu hr
   have:=ih (Coal_truth.mk t.eats_ t.collier_ (aset t.winds_ 6 d (w:Int)) (aset t.coal_ 6 d (z - eng q d t.eats_ - p.2))) (d+1) (z - eng q d t.eats_ - p.2) u (by omega) (by omega) (by omega) h4 h5 (by simp [aset_len]) (by simp [aset_len])
    (fun k hk=>by
     simp only
     rw [getD_aset (by omega)]
     split
     ·omega
     ·exact h8 k (by simp at *; omega))
    (fun k hk=>by
     unfold coalAt
     simp only
     rw [getD_aset (by omega)]
     split
     ·omega
     ·exact h9 k (by simp at *; omega)) hu
   exact this
theorem truths_tru {q:Coal_book} (Q:Op q) {t:Coal_truth} (h:t∈truths q):Tru q t∧(∀ x∈t.eats_,0≤x∧x≤9)∧t.collier_∈rng q.CoalBook.Collier:=by
 obtain ⟨hp,h1,o,h2,p,h3,c,h4,h⟩:=truth_mem.1 h
 have g1:=rng_mem.1 h1; have g2:=rng_mem.1 h2; have g3:=rng_mem.1 h3
 have:=Q.hp.l0; have:=Q.hp.hi
 have he0:=Q.ea _ (agetS_mem (i:=0) (by rw [Q.el]; decide))
 have he1:=Q.ea _ (agetS_mem (i:=1) (by rw [Q.el]; decide))
 have m0:=he0.1.l0; have m1:=he0.2; have m2:=he1.1.l0; have m3:=he1.2
 have hb:∀ x∈(init o p c).eats_,0≤x∧x≤9:=fun x hx=>by
  simp [init] at hx
  rcases hx with rfl | rfl <;> omega
 obtain ⟨T,e1,e2⟩:=blown_tru q Q q.CoalBook.Days.length (init o p c) 0 hp t (by omega) (by simp only [Int.natCast_zero]; omega) (by simp only [Int.natCast_zero]; omega) rfl hb rfl rfl (fun k hk=>by omega) (fun k hk=>by omega) h
 refine ⟨T,by rw [e1]; exact hb,by rw [e2]; exact h4⟩
abbrev TT (b:CoalBook):List Coal_truth:=truths (opn b [])
theorem asked_eqC {b:CoalBook} (V:ValC b) (A:Arg b):coal_asked b true=some (opn b [],bif (TT b).isEmpty then 62 else 0):=by
 unfold coal_asked
 rw [check_eqC b A,val_iffC.2 V,Option.bind_some,opened_eqC V A [] (by simp),Option.bind_some]
 rw [show (Coal_book.mk (CoalBook.mk (opn b []).CoalBook.Heap (opn b []).CoalBook.Eats (opn b []).CoalBook.Extra b.Days (opn b []).CoalBook.Collier (opn b []).CoalBook.Brings (opn b []).CoalBook.Dips) (opn b []).costs_)=opn b [] from rfl]
 rw [isTrue_eq _ (opn_op V A []),Option.bind_some]
 cases (TT b).isEmpty <;> rfl
theorem right_law {b:CoalBook} (V:ValC b) (A:Arg b):coal_Right b=some (!(TT b).isEmpty,0):=by
 unfold coal_Right
 rw [check_eqC b A,val_iffC.2 V,Option.bind_some,opened_eqC V A [] (by simp),Option.bind_some]
 rw [show (Coal_book.mk (CoalBook.mk (opn b []).CoalBook.Heap (opn b []).CoalBook.Eats (opn b []).CoalBook.Extra b.Days (opn b []).CoalBook.Collier (opn b []).CoalBook.Brings (opn b []).CoalBook.Dips) (opn b []).costs_)=opn b [] from rfl]
 rw [isTrue_eq _ (opn_op V A []),Option.bind_some]
 rfl
theorem dayIn {b:CoalBook}{d:Nat} (hd:d < b.Days.length):inB (d:Int) 0 ((b.Days.length:Int) - 1)=true:=inB_iff.2 (by omega)
theorem coal_of {q:Coal_book} (Q:Op q) {d:Nat} (hd:d < q.CoalBook.Days.length):∃ s,coal_book_span q (Coal_number.mk fun y=>coal_coal_1 y (d:Int))=some s∧SpanOf (coalAt d) (truths q) s:=
 span_ex q Q _ (coalAt d) fun t ht=>by
  have:=Q.dn
  show coal_coal_1 t (d:Int)=_
  unfold coal_coal_1
  rw [need_of (by simp [inI]; omega)]
  rfl
theorem heap_law {b:CoalBook} (V:ValC b) (A:Arg b) {d:Nat} (hd:d < b.Days.length):∃ s,coal_Heap b d=some (s,bif (TT b).isEmpty then 62 else 0)∧SpanOf (coalAt d) (TT b) s:=by
 obtain ⟨s,hs,S⟩:=coal_of (opn_op V A []) (d:=d) hd
 refine ⟨s,?_,S⟩
 unfold coal_Heap coal_coal
 rw [isDay_eq b A,Option.bind_some,dayIn hd,asked_eqC V A,Option.bind_some]
 cases h:(TT b).isEmpty with
 | true=>
   have:=S.nil (List.isEmpty_iff.1 h)
   subst this
   rfl
 | false=>
   simp only [cond_false,bne_self_eq_false,Option.bind_some,hs]
theorem modN (a:Int) {n:Nat} (h:0 < n) (h2:n≤1000):∃ r:Nat,B_Mod a n=some (r:Int)∧r < n:=by
 obtain ⟨r,h1,h3,h4⟩:=mod_ok a n (by omega) (by omega)
 exact ⟨r.toNat,by rw [h1,Int.toNat_of_nonneg h3],by omega⟩
structure OrderOf (len:Nat) (L:List Coal_truth) (n:Int):Prop where
 n0:0≤n
 hi:n≤100000
 ge:∀ k,k < len→∀ t∈L,-coalAt k t≤n
 is:n=0∨∃ k,k < len∧∃ t∈L,n=-coalAt k t
def windAt (d:Nat) (t:Coal_truth):Nat:=(t.winds_.getD d 0).toNat
def windSet (d:Nat) (L:List Coal_truth):Nat:=L.foldl (fun s t=>s ||| 2 ^ windAt d t) 0
theorem or_small:∀ (s:Fin 8) (w:Fin 3),orI (s.val:Int) (shlI 1 (w.val:Int))=((s.val ||| 2 ^ w.val:Nat):Int)∧(s.val ||| 2 ^ w.val) < 8:=by decide +kernel
theorem windSet_lt {q:Coal_book}{d:Nat}:∀ (L:List Coal_truth) (s:Nat),s < 8→(∀ t∈L,windAt d t < 3)→L.foldl (fun s t=>s ||| 2 ^ windAt d t) s < 8
 | [],s,hs,_=>hs
 | t::L,s,hs,h=>windSet_lt (q:=q) L _ (or_small ⟨s,hs⟩ ⟨windAt d t,h t (List.mem_cons_self ..)⟩).2 fun t ht=>h t (List.mem_cons_of_mem _ ht)
theorem foldY_wind (d:Nat) (hd:d < 6):∀ (L:List Coal_truth) (s:Nat),s < 8→(∀ t∈L,0≤t.winds_.getD d 0∧t.winds_.getD d 0≤2)→foldY (yvOf (coal_Wind_r1 (d:Int))) L (0,(s:Int))=some (true,0,((L.foldl (fun s t=>s ||| 2 ^ windAt d t) s:Nat):Int))
 | [],s,hs,_=>rfl
 | t::L,s,hs,h=>by
   have ht:=h t (List.mem_cons_self ..)
   have hw:((windAt d t:Nat):Int)=t.winds_.getD d 0:=by unfold windAt; omega
   have:=or_small ⟨s,hs⟩ ⟨windAt d t,by omega⟩
   show (coal_Wind_r1 (d:Int) t (s:Int)).bind (fun r=>bif r.1 then foldY (yvOf (coal_Wind_r1 (d:Int))) L r.2 else some (false,r.2))=_
   have e:coal_Wind_r1 (d:Int) t (s:Int)=some (true,0,((s ||| 2 ^ windAt d t:Nat):Int)):=by
    unfold coal_Wind_r1
    have e2:aget t.winds_ (d:Int)=((windAt d t:Nat):Int):=by rw [hw]; rfl
    rw [need_of (by simp [inI]; omega),e2,need_of (by simp),this.1]
   rw [e,Option.bind_some]
   exact foldY_wind d hd L _ this.2 fun t ht=>h t (List.mem_cons_of_mem _ ht)
theorem wind_law {b:CoalBook} (V:ValC b) (A:Arg b) {d:Nat} (hd:d < b.Days.length):coal_Wind b d=some (bif (TT b).isEmpty then (0,62) else ((windSet d (TT b):Int),0)):=by
 have hdn:=V.dn
 unfold coal_Wind coal_book_truths
 rw [isDay_eq b A,Option.bind_some,dayIn hd,asked_eqC V A,Option.bind_some]
 cases h:(TT b).isEmpty with
 | true=>rfl
 | false=>
   simp only [cond_false,bne_self_eq_false,Option.bind_some]
   rw [truths_eq _ (opn_op V A []),show ((0:Nat),(0:Int))=((0:Nat),((0:Nat):Int)) from rfl,foldY_wind d (by omega) _ 0 (by omega) (fun t ht=>(truths_tru (opn_op V A []) ht).1.wi d hd)]
   rfl
theorem windSet_bit {d:Nat}:∀ (L:List Coal_truth) (s k:Nat),(L.foldl (fun s t=>s ||| 2 ^ windAt d t) s).testBit k=true↔s.testBit k=true∨∃ t∈L,windAt d t=k
 | [],s,k=>by simp
 | t::L,s,k=>by
   rw [List.foldl_cons,windSet_bit L,Nat.testBit_or,Nat.testBit_two_pow,Bool.or_eq_true,decide_eq_true_eq]
   simp only [List.mem_cons,exists_eq_or_imp,or_assoc]
def shT (n:Int) (m:Nat) (t:Coal_truth):Coal_truth:=Coal_truth.mk t.eats_ t.collier_ t.winds_ ((List.range 6).map fun k=>if k < m then t.coal_.getD k 0+n else t.coal_.getD k 0)
theorem blown_mk {q:Coal_book}{r w:Nat}{t u:Coal_truth}{d c cost:Int} (hw:w < 3) (hl:lookL q.costs_ (Coal_gust.mk d (w:Int))=some cost) (hr:rightB q d ((bif t.collier_==d then c+q.CoalBook.Brings else c) - eng q d t.eats_ - cost)=true)
 (hu:u∈blown q r (Coal_truth.mk t.eats_ t.collier_ (aset t.winds_ 6 d (w:Int)) (aset t.coal_ 6 d ((bif t.collier_==d then c+q.CoalBook.Brings else c) - eng q d t.eats_ - cost))) (d+1) ((bif t.collier_==d then c+q.CoalBook.Brings else c) - eng q d t.eats_ - cost)):u∈blown q (r+1) t d c:=by
 rw [blown]
 refine List.mem_flatMap.2 ⟨w,List.mem_range'_1.2 (by omega),?_⟩
 rw [hl]
 simp only [blown.optL]
 rw [hr,cond_true]
 exact hu
structure Less (L' L:List Coal_truth):Prop where
 ne:L' ≠[]
 sub:∀ t∈L',t∈L
theorem Less.order {L' L:List Coal_truth} (h:Less L' L) {len:Nat}{o p:Int} (O:OrderOf len L o) (P:OrderOf len L' p):p≤o:=by
 have:=O.n0
 rcases P.is with e | ⟨k,hk,t,ht,e⟩
 ·omega
 ·have:=O.ge k hk t (h.sub t ht); omega
def CanOC (b:CoalBook) (l:List Int):Prop:=truths (opn b l)≠[]
theorem can_o {b:CoalBook} (V:ValC b) (A:Arg b) {l:List Int} (hl:l.length≤1000):∃ r,(coal_opened b l).bind (fun r16=>(coal_book_isTrue (Coal_book.mk (CoalBook.mk r16.CoalBook.Heap r16.CoalBook.Eats r16.CoalBook.Extra b.Days r16.CoalBook.Collier r16.CoalBook.Brings r16.CoalBook.Dips) r16.costs_)).bind fun r28=>some (l,r28))=some (l,r)∧(r=true↔CanOC b l):=by
 refine ⟨!(truths (opn b l)).isEmpty,?_,?_⟩
 ·rw [opened_eqC V A l hl,Option.bind_some]
  rw [show (Coal_book.mk (CoalBook.mk (opn b l).CoalBook.Heap (opn b l).CoalBook.Eats (opn b l).CoalBook.Extra b.Days (opn b l).CoalBook.Collier (opn b l).CoalBook.Brings (opn b l).CoalBook.Dips) (opn b l).costs_)=opn b l from rfl]
  rw [isTrue_eq _ (opn_op V A l),Option.bind_some]
 ·unfold CanOC
  cases truths (opn b l) <;> simp
def TryOkC (b:CoalBook) (l:List Int) (many:Nat) (r:List Int×Bool):Prop:=
 (r.2=true∧Ext b.Dips.length l many r.1∧CanOC b r.1∧∀ o,Ext b.Dips.length l many o→CanOC b o→¬LexLt o r.1)∨
 (r.2=false∧∀ o,Ext b.Dips.length l many o→¬CanOC b o)
theorem try_loopC {b:CoalBook} (V:ValC b) {l:List Int}{many:Nat} (hm:many≤b.Dips.length) (hl:l.length < many) (hc:Clm l b.Dips.length) {rec_:List Int→Int→Option (List Int×Bool)}
 (hrec:∀ v:Int,Clm (l++[v]) b.Dips.length→∃ r,rec_ (l++[v]) many=some r∧TryOkC b (l++[v]) many r) {s:Int} (s0:0≤s) (sn:s≤b.Dips.length) (s1:∀ y,l.getLast? =some y→y < s)
 (s2:∀ o,Ext b.Dips.length l many o→∀ x,o[l.length]? =some x→s≤x):∃ r,coal_Wrong_1_j4 b l rec_ many s=some r∧TryOkC b l many r:=by
 have l8:=V.pn
 unfold coal_Wrong_1_j4
 have at_:∀ o,Ext b.Dips.length l many o→∃ x,o[l.length]? =some x:=fun o ho=>⟨_,List.getElem?_eq_getElem (by rw [ho.len]; exact hl)⟩
 refine loopF_inv (body:=coal_Wrong_1_l3 b l rec_ many) (fun z:Int=>s≤z∧z≤b.Dips.length∧∀ o,Ext b.Dips.length l many o→CanOC b o→∀ x,o[l.length]? =some x→z≤x) (fun z=>b.Dips.length - z.toNat) (fun r=>TryOkC b l many r) ?_ big s ⟨Int.le_refl _,sn,fun o ho _=>s2 o ho⟩ (by unfold big; simp; omega)
 rintro rec z ⟨h1,h2,h3⟩ ih
 unfold coal_Wrong_1_l3
 by_cases hz:z < b.Dips.length
 case neg=>
  rw [decide_eq_false hz,cond_false]
  refine ⟨_,rfl,.inr ⟨rfl,fun o ho hco=>?_⟩⟩
  obtain ⟨x,hx⟩:=at_ o ho
  have:=h3 o ho hco x hx
  have:=(ho.clm _ x hx).2.1
  omega
 rw [decide_eq_true hz,cond_true,need_of (by simp [fitsL]; omega)]
 have hC:Clm (l++[z]) b.Dips.length:=hc.snoc (by omega) hz (fun y hy=>by have:=s1 y hy; omega)
 obtain ⟨⟨out,c⟩,hr,hT⟩:=hrec z hC
 rw [hr,Option.bind_some]
 simp only
 rcases hT with ⟨e,hE,hO,hmin⟩ | ⟨e,hno⟩
 ·simp only at e; subst e
  rw [cond_true]
  refine ⟨_,rfl,.inl ⟨rfl,hE.less.1,hO,fun o ho hco=>?_⟩⟩
  obtain ⟨x,hx⟩:=at_ o ho
  have hzx:=h3 o ho hco x hx
  by_cases hxz:x=z
  ·subst hxz; exact hmin o (ho.more hx) hco
  ·rintro ⟨i,x',y',g1,g2,g3,g4⟩
   simp only at g2 g4
   have hoz:=hE.less.2
   simp only at hoz
   by_cases hi:i < l.length
   ·have hli:=List.getElem?_eq_getElem hi
    have a1:=ho.pre i _ hli
    have a2:=hE.less.1.pre i _ hli
    simp only at a2
    rw [g1] at a1; rw [g2] at a2
    have:=Option.some.inj a1; have:=Option.some.inj a2
    omega
   ·by_cases hil:i=l.length
    ·subst hil
     rw [hx] at g1; rw [hoz] at g2
     have:=Option.some.inj g1; have:=Option.some.inj g2
     omega
    ·have:=g4 l.length (by omega)
     rw [hx,hoz] at this
     exact hxz (Option.some.inj this)
 ·simp only at e; subst e
  rw [cond_false,wrI (by omega) (by omega)]
  refine ih _ ⟨by omega,by omega,fun o ho hco x hx=>?_⟩ (by (try simp only); omega)
  have:=h3 o ho hco x hx
  by_cases hxz:x=z
  ·subst hxz; exact absurd hco (hno o (ho.more hx))
  ·omega
theorem try_eqC {b:CoalBook} (V:ValC b) (A:Arg b) {many:Nat} (hm:many≤b.Dips.length):∀ (d fuel:Nat) (l:List Int),Clm l b.Dips.length→l.length+d=many→d < fuel→∃ r,coal_Wrong_1 fuel l many b=some r∧TryOkC b l many r:=by
 have l8:=V.pn
 intro d
 induction d with
 | zero=>
   intro fuel l hc hl hf
   obtain ⟨f,rfl⟩:∃ f,fuel=f+1:=⟨fuel - 1,by omega⟩
   unfold coal_Wrong_1 coal_Wrong_1_F
   rw [show ((l.length:Int)==(many:Int))=true by simp; omega,cond_true]
   obtain ⟨r,hr,hi⟩:=can_o V A (l:=l) (by omega)
   rw [hr]
   have eq:∀ o,Ext b.Dips.length l many o→o=l:=fun o ho=>by
    refine (List.ext_getElem? fun i=>?_).symm
    by_cases hi:i < l.length
    ·rw [List.getElem?_eq_getElem hi,ho.pre i _ (List.getElem?_eq_getElem hi)]
    ·rw [List.getElem?_eq_none (by omega),List.getElem?_eq_none (by rw [ho.len]; omega)]
   refine ⟨_,rfl,?_⟩
   cases r with
   | true=>
     refine .inl ⟨rfl,⟨by simp only; omega,hc,fun i x h=>h⟩,hi.1 rfl,fun o ho _=>?_⟩
     rw [eq o ho]
     rintro ⟨i,x,y,h1,h2,h3,_⟩
     simp only at h2
     rw [h1] at h2
     have:=Option.some.inj h2
     omega
   | false=>
     refine .inr ⟨rfl,fun o ho=>?_⟩
     rw [eq o ho]
     exact fun h=>by simpa using hi.2 h
 | succ d ih=>
   intro fuel l hc hl hf
   obtain ⟨f,rfl⟩:∃ f,fuel=f+1:=⟨fuel - 1,by omega⟩
   unfold coal_Wrong_1 coal_Wrong_1_F
   rw [show ((l.length:Int)==(many:Int))=false by simp; omega,cond_false]
   have hrec:∀ v:Int,Clm (l++[v]) b.Dips.length→∃ r,coal_Wrong_1 f (l++[v]) many b=some r∧TryOkC b (l++[v]) many r:=fun v hv=>ih f (l++[v]) hv (by (try simp); omega) (by omega)
   by_cases h0:0 < l.length
   ·rw [decide_eq_true (show (l.length:Int) > 0 by omega),cond_true,wrI (x:=(l.length:Int) - 1) (by omega) (by omega),show (l.length:Int) - 1=((l.length - 1:Nat):Int) by omega,getI_nat]
    have hlt:l.length - 1 < l.length:=by omega
    have hx:=List.getElem?_eq_getElem hlt
    generalize l[l.length - 1]=v at hx
    obtain ⟨v0,v1,_⟩:=hc _ _ hx
    rw [hx,Option.bind_some,wrI (x:=v+1) (by omega) (by omega)]
    refine try_loopC V hm (by omega) hc hrec (by omega) (by omega) (fun y hy=>?_) (fun o ho x hox=>?_)
    ·rw [List.getLast?_eq_getElem?,hx] at hy
     have:=Option.some.inj hy; omega
    ·have:=(ho.clm _ x hox).2.2 v h0 (ho.pre _ _ hx)
     omega
   ·rw [decide_eq_false (show ¬(l.length:Int) > 0 by omega),cond_false]
    have hn:l=[]:=List.eq_nil_of_length_eq_zero (by omega)
    refine try_loopC V hm (by omega) hc hrec (Int.le_refl _) (by omega) (fun y hy=>?_) (fun o ho x hox=>(ho.clm _ x hox).1)
    rw [hn] at hy; cases hy
structure FewC (b:CoalBook) (w:List Int):Prop where
 clm:Clm w b.Dips.length
 can:CanOC b w
 len:∀ o,Clm o b.Dips.length→CanOC b o→w.length≤o.length
 lex:∀ o,Clm o b.Dips.length→CanOC b o→o.length=w.length→¬LexLt o w
theorem wrong_eqC {b:CoalBook} (V:ValC b) (A:Arg b) (hall:CanOC b (allL b.Dips.length)):∃ w,coal_Wrong b=some (w,0)∧FewC b w:=by
 have l8:=V.pn
 unfold coal_Wrong
 rw [check_eqC b A,val_iffC.2 V,Option.bind_some]
 simp only [cond_true,bne_self_eq_false,cond_false]
 refine Exists.elim (loopF_inv (body:=coal_Wrong_l2 b) (fun z:Int=>∃ k:Nat,z=k∧k≤b.Dips.length+1∧∀ o,Clm o b.Dips.length→CanOC b o→k≤o.length) (fun z=>b.Dips.length+1 - z.toNat) (fun r=>∃ w,r=(w,0)∧FewC b w) ?_ big 0 ⟨0,rfl,by omega,fun _ _ _=>Nat.zero_le _⟩ (by unfold big; simp; omega)) fun r ⟨h1,w,h2,h3⟩=>⟨w,by rw [h1,h2],h3⟩
 rintro rec z ⟨k,rfl,hk,hmin⟩ ih
 unfold coal_Wrong_l2
 rw [wrI (x:=(b.Dips.length:Int)+1) (by omega) (by omega)]
 by_cases hlt:k < b.Dips.length+1
 ·rw [decide_eq_true (by omega),cond_true]
  obtain ⟨⟨out,c⟩,hr,hT⟩:=try_eqC V A (many:=k) (by omega) k big [] Clm.nil (by simp) (by unfold big; omega)
  rw [hr,Option.bind_some]
  simp only
  have ext:∀ o,Clm o b.Dips.length→o.length=k→Ext b.Dips.length [] k o:=fun o ho hl=>⟨hl,ho,fun i x h=>by simp at h⟩
  rcases hT with ⟨e,hE,hO,hm⟩ | ⟨e,hno⟩
  ·simp only at e; subst e
   rw [cond_true]
   refine ⟨_,rfl,out,rfl,hE.clm,hO,fun o h1 h2=>by rw [hE.len]; exact hmin o h1 h2,fun o h1 h2 h3=>hm o (ext o h1 (h3.trans hE.len)) h2⟩
  ·simp only at e; subst e
   rw [cond_false,wrI (by omega) (by omega)]
   refine ih _ ⟨k+1,by simp,by omega,fun o h1 h2=>?_⟩ (by (try simp only); omega)
   have:=hmin o h1 h2
   by_cases hok:o.length=k
   ·exact absurd h2 (hno o (ext o h1 hok))
   ·omega
 ·have:=hmin _ (allL_clm _) hall
  unfold allL at this
  simp at this
  omega
def HasC (m:List (Coal_gust×Int)) (g:Coal_gust):Prop:=∃ p∈m,p.1=g
theorem has_look {m:List (Coal_gust×Int)}{g:Coal_gust} (h:HasC m g):∃ v,lookL m g=some v:=by
 obtain ⟨p,hp,rfl⟩:=h
 unfold lookL
 cases hf:m.find? (·.1==p.1) with
 | some x=>exact ⟨x.2,rfl⟩
 | none=>
   have:=List.find?_eq_none.1 hf p hp
   simp at this
theorem has_put {m:List (Coal_gust×Int)}{g g' :Coal_gust}{v:Int} (h:HasC m g'):HasC (putL m g v) g' :=by
 obtain ⟨p,hp,rfl⟩:=h
 unfold putL
 split
 ·rename_i i hi
  obtain ⟨j,hj,rfl⟩:=List.getElem_of_mem hp
  obtain ⟨hi1,hi2,_⟩:=List.findIdx?_eq_some_iff_getElem.1 hi
  by_cases hij:i=j
  ·subst hij
   refine ⟨(g,v),List.mem_set (by simpa using hi1) _,?_⟩
   have:=hi2
   simp at this
   exact this.symm
  ·refine ⟨m[j],?_,rfl⟩
   have h2:j < (m.set i (g,v)).length:=by simpa using hj
   have:=List.getElem_mem h2
   rwa [List.getElem_set_ne hij] at this
 ·exact ⟨p,List.mem_append_left _ hp,rfl⟩
theorem put_has {m:List (Coal_gust×Int)}{g:Coal_gust}{v:Int}:HasC (putL m g v) g:=by
 unfold putL
 split
 ·rename_i i hi
  obtain ⟨hi1,hi2,_⟩:=List.findIdx?_eq_some_iff_getElem.1 hi
  exact ⟨(g,v),List.mem_set (by simpa using hi1) _,rfl⟩
 ·exact ⟨(g,v),List.mem_append_right _ (List.mem_singleton.2 rfl),rfl⟩
theorem costW_keep {x:CoalDay}{ex:List Int}{d:Int}{m:List (Coal_gust×Int)}{g:Coal_gust} (h:HasC m g):∀ k,HasC (costW x ex d m k) g
 | 0=>h
 | k+1=>by
   unfold costW
   cases (andI (shrI x.Winds (k:Int)) 1)==1 with
   | false=>exact costW_keep h k
   | true=>exact has_put (costW_keep h k)
theorem costW_has {x:CoalDay}{ex:List Int}{d:Int}{m:List (Coal_gust×Int)}{j:Nat} (hb:((andI (shrI x.Winds (j:Int)) 1)==1)=true):∀ k,j < k→HasC (costW x ex d m k) (Coal_gust.mk d (j:Int))
 | 0,h=>by omega
 | k+1,h=>by
   unfold costW
   by_cases hjk:j=k
   ·subst hjk; rw [hb]; exact put_has
   ·have:=costW_has (x:=x) (ex:=ex) (d:=d) (m:=m) hb k (by omega)
    cases (andI (shrI x.Winds (k:Int)) 1)==1 with
    | false=>exact this
    | true=>exact has_put this
theorem costD_has {ds:List CoalDay}{ex:List Int}{d j:Nat}{x:CoalDay} (hx:ds[d]? =some x) (hj:j < 3) (hb:((andI (shrI x.Winds (j:Int)) 1)==1)=true):∀ k,d < k→HasC (costD ds ex k) (Coal_gust.mk (d:Int) (j:Int))
 | 0,h=>by omega
 | k+1,h=>by
   unfold costD
   by_cases hdk:d=k
   ·subst hdk; rw [hx]; exact costW_has hb 3 hj
   ·have:=costD_has (ex:=ex) hx hj hb k (by omega)
    cases ds[k]? with
    | none=>exact this
    | some y=>exact costW_keep this 3
theorem wind_some:∀ w:Fin 8,1≤w.val→∃ j:Fin 3,((andI (shrI (w.val:Int) (j.val:Int)) 1)==1)=true:=by decide +kernel
theorem blown_ne {b:CoalBook} (V:ValC b) {but:List Int} (hk:keepD b.Dips but b.Dips.length=[]):∀ (r:Nat) (t:Coal_truth) (d:Nat) (c:Int),d+r=b.Days.length→blown (opn b but) r t d c≠[]:=by
 intro r
 induction r with
 | zero=>intro t d c _ h; cases h
 | succ r ih=>
   intro t d c hd
   have hdl:d < b.Days.length:=by omega
   obtain ⟨_,_,w1,w2⟩:=dayB_iff (V.da _ (List.getElem_mem hdl))
   obtain ⟨j,hj⟩:=wind_some ⟨b.Days[d].Winds.toNat,by omega⟩ (by simp only; omega)
   simp only [show ((b.Days[d].Winds.toNat:Nat):Int)=b.Days[d].Winds by omega] at hj
   obtain ⟨v,hv⟩:=has_look (costD_has (ex:=b.Extra) (List.getElem?_eq_getElem hdl) j.isLt hj b.Days.length hdl)
   have hr:∀ x,rightB (opn b but) d x=true:=fun x=>by
    unfold rightB
    rw [show (opn b but).CoalBook.Dips=[] from hk]; rfl
   rw [blown]
   intro h
   have:=List.flatMap_eq_nil_iff.1 h j.val (List.mem_range'_1.2 (by have:=j.isLt; omega))
   rw [show (opn b but).costs_=costD b.Days b.Extra b.Days.length from rfl,hv] at this
   simp only [blown.optL,hr,cond_true] at this
   have e:=ih (Coal_truth.mk t.eats_ t.collier_ (aset t.winds_ 6 d (j.val:Int)) (aset t.coal_ 6 d ((bif t.collier_==(d:Int) then c+(opn b but).CoalBook.Brings else c) - eng (opn b but) d t.eats_ - v))) (d+1) ((bif t.collier_==(d:Int) then c+(opn b but).CoalBook.Brings else c) - eng (opn b but) d t.eats_ - v) (by omega)
   rw [show ((d+1:Nat):Int)=(d:Int)+1 by omega] at e
   exact e this
theorem truths_ne {b:CoalBook} (V:ValC b) (A:Arg b) {but:List Int} (hk:keepD b.Dips but b.Dips.length=[]):truths (opn b but)≠[]:=by
 have Q:=opn_op V A but
 have e0:=(Q.ea _ (agetS_mem (i:=0) (by rw [Q.el]; decide))).1
 have e1:=(Q.ea _ (agetS_mem (i:=1) (by rw [Q.el]; decide))).1
 have:=blown_ne V hk b.Days.length (init (agetS (opn b but).CoalBook.Eats (0:Int)).Low (agetS (opn b but).CoalBook.Eats (1:Int)).Low b.Collier.Low) 0 b.Heap.Low (by omega)
 obtain ⟨t,ht⟩:=List.exists_mem_of_ne_nil _ this
 refine List.ne_nil_of_mem (truth_mem.2 ⟨b.Heap.Low,rng_mem.2 ⟨Int.le_refl _,Q.hp.lh⟩,_,rng_mem.2 ⟨Int.le_refl _,e0.lh⟩,_,rng_mem.2 ⟨Int.le_refl _,e1.lh⟩,b.Collier.Low,rng_mem.2 ⟨Int.le_refl _,Q.co.lh⟩,ht⟩)
theorem keepD_none {l:List CoalDip}{but:List Int}:∀ k,(∀ j:Nat,j < k→(j:Int)∈but)→keepD l but k=[]
 | 0,_=>rfl
 | k+1,h=>by
   unfold keepD
   rw [show but.contains (k:Int)=true by simpa using h k (by omega),cond_true]
   exact keepD_none k fun j hj=>h j (by omega)
theorem hall {b:CoalBook} (V:ValC b) (A:Arg b):CanOC b (allL b.Dips.length):=by
 refine truths_ne V A (keepD_none _ fun j hj=>?_)
 exact List.mem_map.2 ⟨j,List.mem_range.2 hj,rfl⟩
theorem lex_same {o w:List Int} (hl:o.length=w.length) (h1:¬LexLt o w) (h2:¬LexLt w o):o=w:=by
 have key:∀ j:Nat,(∀ i,i < j→o[i]? =w[i]?)→o[j]? =w[j]? :=by
  intro j hj
  by_cases h:j < o.length
  ·have e1:=List.getElem?_eq_getElem h
   have e2:=List.getElem?_eq_getElem (show j < w.length by omega)
   by_cases hx:o[j] < w[j]
   ·exact absurd ⟨j,_,_,e1,e2,hx,hj⟩ h1
   ·by_cases hy:w[j] < o[j]
    ·exact absurd ⟨j,_,_,e2,e1,hy,fun i hi=>(hj i hi).symm⟩ h2
    ·rw [e1,e2]; congr 1; omega
  ·rw [List.getElem?_eq_none (by omega),List.getElem?_eq_none (by omega)]
 have all:∀ n j:Nat,j < n→o[j]? =w[j]? :=by
  intro n
  induction n with
  | zero=>intro j h; omega
  | succ n ih=>
    intro j h
    by_cases hj:j < n
    ·exact ih j hj
    ·obtain rfl:j=n:=by omega
     exact key j fun i hi=>ih i hi
 exact List.ext_getElem? fun j=>all (j+1) j (by omega)
def bitB (x:CoalDay) (j:Nat):Bool:=(andI (shrI x.Winds (j:Int)) 1)==1
def Ent (ds:List CoalDay) (ex:List Int) (p:Coal_gust×Int):Prop:=∃ (k j:Nat) (x:CoalDay),p.1=Coal_gust.mk (k:Int) (j:Int)∧ds[k]? =some x∧bitB x j=true∧j < 3∧p.2=wr (x.Crosses*aget ex (j:Int))
theorem costW_ent {ds:List CoalDay}{ex:List Int}{d:Nat}{x:CoalDay}{m:List (Coal_gust×Int)} (hx:ds[d]? =some x) (hm:∀ p∈m,Ent ds ex p):∀ k,k≤3→∀ p∈costW x ex (d:Int) m k,Ent ds ex p
 | 0,_=>hm
 | k+1,hk=>by
   intro p hp
   unfold costW at hp
   cases hc:(andI (shrI x.Winds (k:Int)) 1)==1 with
   | false=>rw [hc,cond_false] at hp; exact costW_ent hx hm k (by omega) p hp
   | true=>
     rw [hc,cond_true] at hp
     rcases putL_mem hp with rfl | hp
     ·exact ⟨d,k,x,rfl,hx,hc,by omega,rfl⟩
     ·exact costW_ent hx hm k (by omega) p hp
theorem costD_ent {ds:List CoalDay}{ex:List Int}:∀ k,∀ p∈costD ds ex k,Ent ds ex p
 | 0=>fun p h=>by cases h
 | k+1=>by
   unfold costD
   cases hk:ds[k]? with
   | none=>exact costD_ent k
   | some x=>exact costW_ent hk (costD_ent k) 3 (by omega)
theorem look_val {ds:List CoalDay}{ex:List Int}{n d j:Nat}{c:Int} (h:lookL (costD ds ex n) (Coal_gust.mk (d:Int) (j:Int))=some c):∃ x,ds[d]? =some x∧bitB x j=true∧j < 3∧c=wr (x.Crosses*aget ex (j:Int)):=by
 unfold lookL at h
 obtain ⟨p,hp,rfl⟩:=Option.map_eq_some_iff.1 h
 have hk:=List.find?_some hp
 have hk:p.1=Coal_gust.mk (d:Int) (j:Int):=by simpa using hk
 obtain ⟨k,i,x,h1,h2,h3,h4,h5⟩:=costD_ent n p (List.mem_of_find?_eq_some hp)
 rw [h1] at hk
 have h6:=congrArg Coal_gust.day_ hk
 have h7:=congrArg Coal_gust.wind_ hk
 simp only at h6 h7
 obtain rfl:k=d:=by omega
 obtain rfl:i=j:=by omega
 exact ⟨x,h2,h3,h4,h5⟩
theorem val_look {ds:List CoalDay}{ex:List Int}{n d j:Nat}{x:CoalDay} (hx:ds[d]? =some x) (hb:bitB x j=true) (hj:j < 3) (hd:d < n):lookL (costD ds ex n) (Coal_gust.mk (d:Int) (j:Int))=some (wr (x.Crosses*aget ex (j:Int))):=by
 obtain ⟨v,hv⟩:=has_look (costD_has (ex:=ex) hx hj hb n hd)
 obtain ⟨y,h1,_,_,h4⟩:=look_val hv
 rw [hx] at h1
 obtain rfl:=Option.some.inj h1
 rw [hv,h4]
def E2 (e:List Int):Prop:=e.length=2∧∀ x∈e,0≤x∧x≤9
theorem blown_mk0 {q:Coal_book}{r w:Nat}{t u:Coal_truth}{d c cost:Int} (hw:w < 3) (hl:lookL q.costs_ (Coal_gust.mk d (w:Int))=some cost) (hr:rightB q d ((bif t.collier_==d then c+q.CoalBook.Brings else c) - eng q d t.eats_ - cost)=true)
 (hu:u∈blown q r (Coal_truth.mk t.eats_ t.collier_ (aset t.winds_ 6 d (w:Int)) (aset t.coal_ 6 d ((bif t.collier_==d then c+q.CoalBook.Brings else c) - eng q d t.eats_ - cost))) (d+1) ((bif t.collier_==d then c+q.CoalBook.Brings else c) - eng q d t.eats_ - cost)):u∈blown q (r+1) t d c:=by
 rw [blown]
 refine List.mem_flatMap.2 ⟨w,List.mem_range'_1.2 (by omega),?_⟩
 rw [hl]
 simp only [blown.optL]
 rw [hr,cond_true]
 exact hu
theorem blown_rel {q q' :Coal_book}{n:Nat} (R:Int→Int→Prop) (hR:∀ z z' c,R z z' →R (z+c) (z' +c)) (hB:q.CoalBook.Brings=q'.CoalBook.Brings) (d2:q'.CoalBook.Dips=[])
 (step:∀ d:Nat,d < n→∀ (w:Nat) (cost:Int),lookL q.costs_ (Coal_gust.mk (d:Int) (w:Int))=some cost→∃ (w' :Nat) (cost' :Int),w' < 3∧lookL q'.costs_ (Coal_gust.mk (d:Int) (w' :Int))=some cost' ∧∀ e,E2 e→∀ z z',R z z' →R (z - eng q d e - cost) (z' - eng q' d e - cost')):
 ∀ (r:Nat) (t t' :Coal_truth) (d:Nat) (c c' :Int) (u:Coal_truth),d+r=n→n≤6→t.collier_=t'.collier_→t.eats_=t'.eats_→E2 t.eats_→R c c' →(∀ k,k < d→R (coalAt k t) (coalAt k t'))→u∈blown q r t d c→∃ u' ∈blown q' r t' d c',∀ k,k < n→R (coalAt k u) (coalAt k u'):=by
 have hr:∀ d x:Int,rightB q' d x=true:=fun d x=>by unfold rightB; rw [d2]; rfl
 intro r
 induction r with
 | zero=>
   intro t t' d c c' u h1 h2 h3 h4 h5 h6 h7 hu
   obtain rfl:=List.mem_singleton.1 hu
   exact ⟨t',List.mem_singleton.2 rfl,fun k hk=>h7 k (by omega)⟩
 | succ r ih=>
   intro t t' d c c' u h1 h2 h3 h4 h5 h6 h7 hu
   obtain ⟨w,cost,hw,hl,_,hu⟩:=blown_step hu
   obtain ⟨w',cost',hw',hl',hs⟩:=step d (by omega) w cost hl
   have hz:R (bif t.collier_==(d:Int) then c+q.CoalBook.Brings else c) (bif t'.collier_==(d:Int) then c' +q'.CoalBook.Brings else c'):=by
    rw [h3,hB]
    cases (t'.collier_==(d:Int)) with
    | true=>exact hR _ _ _ h6
    | false=>exact h6
   have hn:=hs t.eats_ h5 _ _ hz
   generalize (bif t.collier_==(d:Int) then c+q.CoalBook.Brings else c) - eng q d t.eats_ - cost=x at hn hu
   obtain ⟨u',hu',hk⟩:=ih (Coal_truth.mk t.eats_ t.collier_ (aset t.winds_ 6 d (w:Int)) (aset t.coal_ 6 d x)) (Coal_truth.mk t'.eats_ t'.collier_ (aset t'.winds_ 6 d (w' :Int)) (aset t'.coal_ 6 d ((bif t'.collier_==(d:Int) then c' +q'.CoalBook.Brings else c') - eng q' d t'.eats_ - cost'))) (d+1) x ((bif t'.collier_==(d:Int) then c' +q'.CoalBook.Brings else c') - eng q' d t'.eats_ - cost') u (by omega) h2 h3 h4 h5 (by rw [← h4]; exact hn) (fun k hk=>by
    unfold coalAt
    simp only
    rw [getD_aset (by omega),getD_aset (by omega)]
    by_cases hkd:k=d
    ·rw [if_pos (by omega),if_pos (by omega),← h4]; exact hn
    ·rw [if_neg (by omega),if_neg (by omega)]; exact h7 k (by omega)) (by rw [show ((d+1:Nat):Int)=(d:Int)+1 by omega]; exact hu)
   refine ⟨u',?_,hk⟩
   rw [show ((d+1:Nat):Int)=(d:Int)+1 by omega] at hu'
   exact blown_mk0 hw' hl' (hr _ _) hu'
theorem truths_rel {q q' :Coal_book} (Q:Op q) (R:Int→Int→Prop) (hR:∀ z z' c,R z z' →R (z+c) (z' +c)) (h0:∀ z,R z z) (hH:q.CoalBook.Heap=q'.CoalBook.Heap) (hE:q.CoalBook.Eats=q'.CoalBook.Eats) (hC:q.CoalBook.Collier=q'.CoalBook.Collier) (hD:q.CoalBook.Days.length=q'.CoalBook.Days.length) (hB:q.CoalBook.Brings=q'.CoalBook.Brings) (d2:q'.CoalBook.Dips=[])
 (step:∀ d:Nat,d < q.CoalBook.Days.length→∀ (w:Nat) (cost:Int),lookL q.costs_ (Coal_gust.mk (d:Int) (w:Int))=some cost→∃ (w' :Nat) (cost' :Int),w' < 3∧lookL q'.costs_ (Coal_gust.mk (d:Int) (w' :Int))=some cost' ∧∀ e,E2 e→∀ z z',R z z' →R (z - eng q d e - cost) (z' - eng q' d e - cost'))
 {u:Coal_truth} (h:u∈truths q):∃ u' ∈truths q',∀ k,k < q.CoalBook.Days.length→R (coalAt k u) (coalAt k u'):=by
 obtain ⟨hp,h1,o,h2,p,h3,c,h4,h⟩:=truth_mem.1 h
 have g2:=rng_mem.1 h2; have g3:=rng_mem.1 h3
 have he0:=Q.ea _ (agetS_mem (i:=0) (by rw [Q.el]; decide))
 have he1:=Q.ea _ (agetS_mem (i:=1) (by rw [Q.el]; decide))
 have m0:=he0.1.l0; have m1:=he0.2; have m2:=he1.1.l0; have m3:=he1.2
 obtain ⟨u',hu',hk⟩:=blown_rel R hR hB d2 step q.CoalBook.Days.length (init o p c) (init o p c) 0 hp hp u (by omega) Q.dn rfl rfl ⟨rfl,fun x hx=>by
  simp [init] at hx
  rcases hx with rfl | rfl <;> omega⟩ (h0 _) (fun k hk=>by omega) h
 refine ⟨u',truth_mem.2 ⟨hp,hH▸h1,o,hE▸h2,p,hE▸h3,c,hC▸h4,hD▸hu'⟩,hk⟩
def dayEng (x:CoalDay) (e:List Int):Int:=(bif (andI (shrI x.Engines 0) 1)==1 then e.getD 0 0*x.Crosses else 0)+(bif (andI (shrI x.Engines 1) 1)==1 then e.getD 1 0*x.Crosses else 0)
theorem eng_day {q:Coal_book}{d:Nat}{x:CoalDay} (h:q.CoalBook.Days[d]? =some x) (e:List Int):eng q (d:Int) e=dayEng x e:=by
 unfold eng
 rw [show ((d:Int)).toNat=d from rfl,h]; rfl
structure Easy (x y:CoalDay):Prop where
 c0:0≤y.Crosses
 cx:y.Crosses≤x.Crosses
 c9:x.Crosses≤9
 en:y.Engines=x.Engines
 wi:y.Winds=x.Winds∨y.Winds=1
 wx:1≤x.Winds∧x.Winds≤7
theorem eng_easy {x y:CoalDay} (h:Easy x y) {e:List Int} (he:E2 e):dayEng y e≤dayEng x e:=by
 obtain ⟨hl,hb⟩:=he
 match e,hl with
 | [a,b],_=>
   have ha:=hb a (by simp); have hb' :=hb b (by simp)
   have m1:a*y.Crosses≤a*x.Crosses:=Int.mul_le_mul_of_nonneg_left h.cx ha.1
   have m2:b*y.Crosses≤b*x.Crosses:=Int.mul_le_mul_of_nonneg_left h.cx hb'.1
   unfold dayEng
   rw [h.en]
   simp only [show [a,b].getD 0 0=a from rfl,show [a,b].getD 1 0=b from rfl]
   cases (andI (shrI x.Engines 0) 1==1) <;> cases (andI (shrI x.Engines 1) 1==1) <;> simp only [cond_true,cond_false] <;> omega
theorem cost_easy {ex:List Int} (hex:∀ j:Nat,j < 3→0≤aget ex (j:Int)∧aget ex (j:Int)≤9) {x y:CoalDay} (h:Easy x y) {j i:Nat} (hj:j < 3) (hi:i < 3) (hle:aget ex (j:Int)≤aget ex (i:Int)):wr (y.Crosses*aget ex (j:Int))≤wr (x.Crosses*aget ex (i:Int)):=by
 have h1:=hex j hj; have h2:=hex i hi
 have c0:=h.c0; have cx:=h.cx; have c9:=h.c9
 have m1:0≤y.Crosses*aget ex (j:Int):=Int.mul_nonneg c0 h1.1
 have m2:y.Crosses*aget ex (j:Int)≤x.Crosses*aget ex (i:Int):=Int.mul_le_mul cx hle h1.1 (by omega)
 have m3:x.Crosses*aget ex (i:Int)≤9*9:=Int.mul_le_mul c9 h2.2 h2.1 (by omega)
 rw [wrI (by omega) (by omega),wrI (by omega) (by omega)]
 exact m2
theorem bit_zero {y:CoalDay} (h:y.Winds=1):bitB y 0=true:=by
 unfold bitB; rw [h]; decide
structure EasyB (b b' :CoalBook):Prop where
 hH:b.Heap=b'.Heap
 hE:b.Eats=b'.Eats
 hC:b.Collier=b'.Collier
 hB:b.Brings=b'.Brings
 hX:b.Extra=b'.Extra
 d1:b.Dips=[]
 d2:b'.Dips=[]
 hD:b.Days.length=b'.Days.length
 ex:∀ j:Nat,j < 3→0≤aget b.Extra (j:Int)∧aget b.Extra (j:Int)≤9
 e0:∀ j:Nat,j < 3→aget b.Extra ((0:Nat):Int)≤aget b.Extra (j:Int)
 da:∀ (d:Nat) (x:CoalDay),b.Days[d]? =some x→∃ y,b'.Days[d]? =some y∧Easy x y
theorem EasyB.up {b b' :CoalBook} (h:EasyB b b') (V:ValC b) (A:Arg b) {u:Coal_truth} (hu:u∈TT b):∃ u' ∈TT b',∀ k,k < b.Days.length→coalAt k u≤coalAt k u' :=by
 refine truths_rel (q:=opn b []) (q' :=opn b' []) (opn_op V A []) (fun z z' =>z≤z') (fun z z' c hz=>by show z+c≤z' +c; have:z≤z' :=hz; omega) (fun z=>Int.le_refl z) h.hH h.hE h.hC h.hD h.hB (by show keepD b'.Dips [] b'.Dips.length=[]; rw [h.d2]; rfl) (fun d hd w cost hl=>?_) hu
 obtain ⟨x,hx,hb,hw,rfl⟩:=look_val hl
 obtain ⟨y,hy,E⟩:=h.da d x hx
 have hlen:d < b'.Days.length:=by have:d < b.Days.length:=hd; have:=h.hD; omega
 have fin:∀ j:Nat,j < 3→bitB y j=true→aget b.Extra (j:Int)≤aget b.Extra (w:Int)→∃ (w' :Nat) (cost' :Int),w' < 3∧lookL (opn b' []).costs_ (Coal_gust.mk (d:Int) (w' :Int))=some cost' ∧∀ e,E2 e→∀ z z',z≤z' →z - eng (opn b []) d e - wr (x.Crosses*aget b.Extra (w:Int))≤z' - eng (opn b' []) d e - cost' :=by
  intro j hj hbj hle
  refine ⟨j,_,hj,val_look (ex:=b'.Extra) (n:=b'.Days.length) hy hbj hj hlen,fun e he z z' hz=>?_⟩
  rw [eng_day (q:=opn b []) hx e,eng_day (q:=opn b' []) hy e,← h.hX]
  have h1:=eng_easy E he
  have h2:=cost_easy h.ex E hj hw hle
  omega
 rcases E.wi with hw' | hw'
 ·exact fin w hw (by unfold bitB at *; rw [hw']; exact hb) (Int.le_refl _)
 ·exact fin 0 (by omega) (bit_zero hw') (h.e0 w hw)
theorem blown_low {q:Coal_book}:∀ (r:Nat) (t u:Coal_truth) (d:Nat) (c:Int),d+r≤6→u∈blown q r t d c→∀ k,k < d→coalAt k u=coalAt k t∧windAt k u=windAt k t:=by
 intro r
 induction r with
 | zero=>
   intro t u d c _ h k _
   obtain rfl:=List.mem_singleton.1 h
   exact ⟨rfl,rfl⟩
 | succ r ih=>
   intro t u d c hd h k hk
   obtain ⟨w,cost,hw,hl,hr,hu⟩:=blown_step h
   rw [show (d:Int)+1=((d+1:Nat):Int) by omega] at hu
   obtain ⟨h1,h2⟩:=ih _ u (d+1) _ (by omega) hu k (by omega)
   rw [h1,h2]
   unfold coalAt windAt
   simp only
   rw [getD_aset (by omega),getD_aset (by omega),if_neg (by omega),if_neg (by omega)]
   exact ⟨rfl,rfl⟩
theorem blown_at {q:Coal_book}{r w:Nat}{t u:Coal_truth}{d:Nat}{c x:Int} (hd:d+r+1≤6) (h:u∈blown q r (Coal_truth.mk t.eats_ t.collier_ (aset t.winds_ 6 d (w:Int)) (aset t.coal_ 6 d x)) ((d:Int)+1) c):coalAt d u=x∧windAt d u=w:=by
 rw [show (d:Int)+1=((d+1:Nat):Int) by omega] at h
 obtain ⟨h1,h2⟩:=blown_low r _ u (d+1) c (by omega) h d (by omega)
 rw [h1,h2]
 unfold coalAt windAt
 simp only
 rw [getD_aset (by omega),getD_aset (by omega),if_pos (by omega),if_pos (by omega)]
 exact ⟨rfl,by omega⟩
end Go.Proofs.YtblfippmobpaaaaDoor
namespace Go.Proofs.YtblfippmobpaaaaDoor
open Go Go.Fx
def dayC (q:Coal_book) (col:Int) (e:List Int) (k:Nat) (c cost:Int):Int:=(bif col==(k:Int) then c+q.CoalBook.Brings else c) - eng q k e - cost
def DayR (q:Coal_book) (col:Int) (e:List Int) (W:Nat→Nat) (K:Nat→Int) (k:Nat):Prop:=
 W k < 3∧∃ cost,lookL q.costs_ (Coal_gust.mk (k:Int) ((W k:Nat):Int))=some cost∧K (k+1)=dayC q col e k (K k) cost∧rightB q k (K (k+1))=true
theorem blown_run {q:Coal_book}:∀ (r:Nat) (t u:Coal_truth) (d:Nat) (c:Int),d+r≤6→u∈blown q r t d c→
 ∃ K:Nat→Int,K d=c∧∀ k,d≤k→k < d+r→DayR q t.collier_ t.eats_ (fun k=>windAt k u) K k∧coalAt k u=K (k+1):=by
 intro r
 induction r with
 | zero=>intro t u d c _ _; exact ⟨fun _=>c,rfl,fun k h1 h2=>by omega⟩
 | succ r ih=>
   intro t u d c hd h
   obtain ⟨w,cost,hw,hl,hr,hu⟩:=blown_step h
   obtain ⟨a1,a2⟩:=blown_at (by omega) hu
   rw [show (d:Int)+1=((d+1:Nat):Int) by omega] at hu
   obtain ⟨K,hK,hs⟩:=ih _ u (d+1) _ (by omega) hu
   refine ⟨fun k=>if k≤d then c else K k,by simp,fun k h1 h2=>?_⟩
   by_cases hk:k=d
   ·subst hk
    refine ⟨⟨by simp only [a2]; exact hw,cost,by simp only [a2]; exact hl,?_,?_⟩,?_⟩
    ·simp only [Nat.le_refl,if_true,show ¬k+1≤k by omega,if_false]
     rw [hK]; rfl
    ·simp only [show ¬k+1≤k by omega,if_false]
     rw [hK]; exact hr
    ·simp only [show ¬k+1≤k by omega,if_false]
     rw [hK]; exact a1
   ·obtain ⟨⟨b1,co,b2,b3,b4⟩,b5⟩:=hs k (by omega) (by omega)
    simp only at b1 b2 b3
    refine ⟨⟨b1,co,b2,?_,?_⟩,?_⟩
    ·simp only [show ¬k+1≤d by omega,show ¬k≤d by omega,if_false]; exact b3
    ·simp only [show ¬k+1≤d by omega,if_false]; exact b4
    ·simp only [show ¬k+1≤d by omega,if_false]; exact b5
theorem blown_of {q:Coal_book}{W:Nat→Nat}{K:Nat→Int}:∀ (r:Nat) (t:Coal_truth) (d:Nat),d+r≤6→(∀ k,d≤k→k < d+r→DayR q t.collier_ t.eats_ W K k)→
 ∃ u∈blown q r t d (K d),∀ k,d≤k→k < d+r→windAt k u=W k∧coalAt k u=K (k+1):=by
 intro r
 induction r with
 | zero=>intro t d _ _; exact ⟨t,List.mem_singleton.2 rfl,fun k h1 h2=>by omega⟩
 | succ r ih=>
   intro t d hd h
   obtain ⟨hw,cost,hl,he,hr⟩:=h d (by omega) (by omega)
   obtain ⟨u,hu,hs⟩:=ih (Coal_truth.mk t.eats_ t.collier_ (aset t.winds_ 6 d ((W d:Nat):Int)) (aset t.coal_ 6 d (K (d+1)))) (d+1) (by omega) (fun k h1 h2=>h k (by omega) (by omega))
   rw [he] at hu hr
   rw [show ((d+1:Nat):Int)=(d:Int)+1 by omega] at hu
   have a:=blown_at (by omega) hu
   refine ⟨u,blown_mk hw hl hr hu,fun k h1 h2=>?_⟩
   by_cases hk:k=d
   ·subst hk; exact ⟨a.2,by rw [a.1,he]⟩
   ·exact hs k (by omega) (by omega)
end Go.Proofs.YtblfippmobpaaaaDoor
namespace Go.Proofs.YtblfippmobpaaaaDoor
open Go Go.Fx
theorem burned_t:law_burned06=some true:=by kernel_rfl
theorem small_false (b:CoalBook):law_small06_j4 b false=some false:=by
 unfold law_small06_j4
 refine loop_fold (fun k=>(false,(k:Int))) 2 (fun rec k hk=>?_) (fun rec=>?_) (by rw [big_eq]; omega)
 ·unfold law_small06_l3
  simp only
  rw [decide_eq_true (by omega),cond_true,cond_false,wrN hk (by omega)]
 unfold law_small06_l3
 simp only
 rw [decide_eq_false (by omega),cond_false]
 exact loop_at fun rec=>rfl
theorem small_true (b:CoalBook) (A:Arg b) (V:ValC b):law_small06_j4 b true=some true:=by
 have h1:=A.dl; have h2:=A.pl; have h3:=A.el; have hd:=V.dn
 unfold law_small06_j4
 refine loop_fold (fun k=>(true,(k:Int))) 2 (fun rec k hk=>?_) (fun rec=>?_) (by rw [big_eq]; omega)
 ·unfold law_small06_l3
  simp only
  rw [decide_eq_true (by omega),cond_true,cond_true,need_of (by simp [inI]; omega),wrN hk (by omega),show agetS b.Eats (k:Int)=b.Eats[k]'(by omega) by simp [agetS,List.getD_eq_getElem?_getD,List.getElem?_eq_getElem (show k < b.Eats.length by omega)],spB_valid (V.ea _ (List.getElem_mem _))]
  rfl
 unfold law_small06_l3
 simp only
 rw [decide_eq_false (by omega),cond_false]
 refine loop_fold (fun k=>(true,(k:Int))) b.Dips.length (fun rec k hk=>?_) (fun rec=>?_) (by rw [big_eq]; omega)
 ·unfold law_small06_l2
  simp only
  have:=V.di b.Dips[k] (List.getElem_mem _)
  unfold dipB at this
  simp only [Bool.and_eq_true] at this
  rw [cond_true,decide_eq_true (by omega),cond_true,getI_ix hk,Option.bind_some,wrN hk h2,wrI (by omega) (by omega)]
  simp only [inside_eq,this.1.1,this.1.2,this.2,Option.bind_some,cond_true]
 unfold law_small06_l2
 simp only
 rw [cond_true,decide_eq_false (by omega),cond_false]
theorem small_eq (b:CoalBook) (A:Arg b):law_small06 b=some (valBC b):=by
 unfold law_small06
 rw [check_eqC b A,Option.bind_some]
 cases h:valBC b with
 | false=>rw [cond_false]; exact small_false b
 | true=>
   have V:=val_iffC.1 h
   have hd:=V.dn; have hp:=V.pn
   rw [cond_true]
   simp only [beq_self_eq_true,cond_true]
   rw [spB_valid V.hp,Option.bind_some,cond_true,inside_eq,Option.bind_some,inB_iff.2 (by omega),cond_true,decide_eq_true (by omega)]
   exact small_true b A V
theorem heap_bd {b:CoalBook} (V:ValC b):0≤b.Heap.Low∧b.Heap.Low≤b.Heap.High∧b.Heap.High≤400:=by
 have:=V.hp
 unfold spB at this
 simp only [Bool.and_eq_true,decide_eq_true_eq] at this
 omega
theorem alike_same (l:List Int) (hl:l.length≤1000000):B_Alike l l=some true:=by
 unfold B_Alike
 rw [bne_self_eq_false,cond_false]
 refine loop_fold (fun k=>(k:Int)) l.length (fun rec k hk=>?_) (fun rec=>?_) (by rw [big_eq]; omega)
 ·unfold B_Alike_l1
  rw [decide_eq_true (by omega),cond_true,getI_ix hk,Option.bind_some,Option.bind_some,bne_self_eq_false,cond_false,wrN hk (by omega)]
 ·unfold B_Alike_l1
  rw [decide_eq_false (by omega),cond_false]
theorem keepD_iff {l:List CoalDip}{but:List Int}{x:CoalDip}:∀ {n:Nat},x∈keepD l but n↔∃ i:Nat,i < n∧l[i]? =some x∧(i:Int) ∉ but
 | 0=>by simp [keepD]
 | n+1=>by
   unfold keepD
   have ih:=keepD_iff (l:=l) (but:=but) (x:=x) (n:=n)
   cases hc:but.contains (n:Int) with
   | true=>
     rw [cond_true,ih]
     have hm:(n:Int)∈but:=by simpa using hc
     constructor
     ·rintro ⟨i,h1,h2⟩; exact ⟨i,by omega,h2⟩
     ·rintro ⟨i,h1,h2,h3⟩
      refine ⟨i,?_,h2,h3⟩
      by_cases hi:i=n
      ·subst hi; exact absurd hm h3
      ·omega
   | false=>
     rw [cond_false,List.mem_append,ih]
     have hm:(n:Int) ∉ but:=by simpa using hc
     constructor
     ·rintro (⟨i,h1,h2⟩ | h)
      ·exact ⟨i,by omega,h2⟩
      ·refine ⟨n,by omega,?_,hm⟩
       cases hn:l[n]? with
       | none=>rw [hn] at h; cases h
       | some y=>rw [hn] at h; simp at h; rw [h]
     ·rintro ⟨i,h1,h2,h3⟩
      by_cases hi:i=n
      ·subst hi; right; rw [h2]; simp
      ·exact .inl ⟨i,by omega,h2,h3⟩
theorem right_iff {b:CoalBook}{but:List Int}{d n:Int}:rightB (opn b but) d n=true↔∀ (i:Nat) (y:CoalDip),b.Dips[i]? =some y→(i:Int) ∉ but→y.Day=d→-y.Error≤n - y.Read∧n - y.Read≤y.Error:=by
 unfold rightB
 rw [List.all_eq_true]
 constructor
 ·intro h i y hy hi hd
  have:=h y (keepD_iff.2 ⟨i,(List.getElem?_eq_some_iff.1 hy).1,hy,hi⟩)
  rw [show (y.Day==d)=true by simp [hd],Bool.not_true,Bool.false_or,inB_iff] at this
  exact this
 ·intro h y hy
  obtain ⟨i,_,h2,h3⟩:=keepD_iff.1 hy
  by_cases hd:y.Day=d
  ·rw [inB_iff.2 (h i y h2 h3 hd),Bool.or_true]
  ·rw [show (y.Day==d)=false by simpa using hd]; rfl
end Go.Proofs.YtblfippmobpaaaaDoor
namespace Go.Proofs.YtblfippmobpaaaaDoor
open Go Go.Fx
abbrev dayP:CoalDay:=CoalDay.mk 1 2 7
def plainP (b:CoalBook) (y:CoalDip):Bool:=inB (b.Heap.Low - y.Read) 0 99
def plainX (b:CoalBook):CoalBook:=CoalBook.mk ⟨b.Heap.Low,b.Heap.Low⟩ (List.replicate 2 (Span.mk 0 0)) [0,1,2] (List.replicate b.Days.length dayP) ⟨b.Days.length,b.Days.length⟩ 0 (b.Dips.filter (plainP b))
def countX (h:Int) (y:CoalDip):TallyCount:=TallyCount.mk 2 0 y.Day (h - y.Read) 1 y.Error y.Error
def tripsX (x:CoalBook):TallyBook:=TallyBook.mk x.Days.length 2 (x.Dips.map (countX x.Heap.Low))
theorem grate_eq (l:List CoalDip):law_grate06 l=some (CoalBook.mk ⟨30,30⟩ (List.replicate 2 (Span.mk 0 0)) [0,1,2] [(CoalDay.mk 1 1 7),(CoalDay.mk 1 1 7),(CoalDay.mk 1 1 7)] ⟨3,3⟩ 0 l):=rfl
theorem dip_bd {b:CoalBook} (V:ValC b) {y:CoalDip} (h:y∈b.Dips):(0≤y.Day∧y.Day≤(b.Days.length:Int) - 1)∧(0≤y.Read∧y.Read≤800)∧0≤y.Error∧y.Error≤9:=dipB_iff (V.di y h)
theorem plain_eq {b:CoalBook} (V:ValC b):law_plain06 b=some (plainX b):=by
 have hd:=V.dn; have hp:=V.pn; have hh:=heap_bd V
 unfold law_plain06
 rw [grate_eq,Option.bind_some,show B_Point b.Heap.Low=some ⟨b.Heap.Low,b.Heap.Low⟩ from rfl,Option.bind_some]
 refine loop_fold0 (fun k=>((k:Int),List.replicate k dayP)) b.Days.length (fun rec k hk=>?_) (fun rec=>?_) (by rw [big_eq]; omega) rfl
 ·unfold law_plain06_l5
  simp only
  rw [decide_eq_true (by omega),cond_true,need_of (by simp [fitsL]; omega),wrN hk (by omega),List.replicate_succ']
 unfold law_plain06_l5
 simp only
 rw [decide_eq_false (by omega),cond_false,show B_Point (b.Days.length:Int)=some ⟨(b.Days.length:Int),(b.Days.length:Int)⟩ from rfl,Option.bind_some]
 refine loop_fold0 (fun k=>((k:Int),(b.Dips.take k).filter (plainP b))) b.Dips.length (fun rec k hk=>?_) (fun rec=>?_) (by rw [big_eq]; omega) rfl
 ·unfold law_plain06_l4
  simp only
  have hy:=dip_bd V (List.getElem_mem hk)
  rw [decide_eq_true (by omega),cond_true,getI_ix hk,Option.bind_some,wrI (x:=b.Heap.Low - _) (by omega) (by omega),inside_eq,Option.bind_some,wrN hk (by omega),← List.take_append_getElem hk,List.filter_append]
  have hl:((b.Dips.take k).filter (plainP b)).length≤4:=Nat.le_trans (List.length_filter_le _ _) (by simp; omega)
  cases hc:inB (b.Heap.Low - b.Dips[k].Read) 0 99 with
  | true=>
    rw [cond_true,need_of (by simp [fitsL]; omega),show [b.Dips[k]].filter (plainP b)=[b.Dips[k]] by simp [plainP,hc]]
  | false=>
    rw [cond_false,show [b.Dips[k]].filter (plainP b)=[] by simp [plainP,hc],List.append_nil]
 unfold law_plain06_l4
 simp only
 rw [decide_eq_false (by omega),cond_false,List.take_length]
 rfl
theorem plain_mem {b:CoalBook}{y:CoalDip} (h:y∈(plainX b).Dips):y∈b.Dips∧0≤b.Heap.Low - y.Read∧b.Heap.Low - y.Read≤99:=by
 obtain ⟨h1,h2⟩:=List.mem_filter.1 h
 exact ⟨h1,inB_iff.1 h2⟩
theorem plain_len {b:CoalBook} (V:ValC b):(plainX b).Dips.length≤4:=Nat.le_trans (List.length_filter_le _ _) V.pn
theorem plain_days (b:CoalBook):(plainX b).Days.length=b.Days.length:=by simp [plainX]
theorem plain_val {b:CoalBook} (V:ValC b):ValC (plainX b):=by
 have hd:=V.dn; have hh:=heap_bd V
 refine ⟨?_,?_,?_,⟨(show (0:Int)≤0 by decide),(show (0:Int)≤400 by decide)⟩,plain_len V,?_,?_,?_,?_⟩
 ·unfold spB plainX
  simp only [Bool.and_eq_true,decide_eq_true_eq]; omega
 ·rw [plain_days]; exact hd
 ·unfold spB
  rw [plain_days]
  show (decide ((0:Int)≤(b.Days.length:Int))&&decide ((b.Days.length:Int)≤(b.Days.length:Int))&&decide ((b.Days.length:Int)≤(b.Days.length:Int))&&decide ((b.Days.length:Int) - (b.Days.length:Int)≤3))=true
  simp only [Bool.and_eq_true,decide_eq_true_eq]; omega
 ·intro s hs
  rw [List.eq_of_mem_replicate hs]; rfl
 ·intro x hx
  simp [plainX] at hx
  omega
 ·intro x hx
  rw [List.eq_of_mem_replicate hx]; rfl
 ·intro y hy
  rw [plain_days]
  exact V.di y (plain_mem hy).1
theorem plain_arg {b:CoalBook} (V:ValC b):Arg (plainX b):=(plain_val V).arg rfl rfl
theorem trips_eq {b:CoalBook} (V:ValC b):law_trips06 (plainX b)=some (tripsX (plainX b)):=by
 have hh:=heap_bd V; have hp:=plain_len V
 unfold law_trips06
 refine loop_fold0 (fun k=>((k:Int),((plainX b).Dips.take k).map (countX b.Heap.Low))) (plainX b).Dips.length (fun rec k hk=>?_) (fun rec=>?_) (by rw [big_eq]; omega) rfl
 ·unfold law_trips06_l2
  simp only
  have hm:=plain_mem (List.getElem_mem hk)
  rw [decide_eq_true (by omega),cond_true,getI_ix hk,Option.bind_some,show (plainX b).Heap.Low=b.Heap.Low from rfl,wrI (x:=b.Heap.Low - _) (by omega) (by omega),need_of (by simp [fitsL]; omega),wrN hk (by omega),← List.take_append_getElem hk,List.map_append]
  rfl
 ·unfold law_trips06_l2
  simp only
  rw [decide_eq_false (by omega),cond_false,List.take_length]
  rfl
theorem trips_val {b:CoalBook} (V:ValC b):Val (tripsX (plainX b)):=by
 have hd:=V.dn; have hp:=plain_len V
 refine ⟨?_,?_,(show (0:Int)≤2 by decide),(show (2:Int)≤60 by decide),?_,?_⟩
 ·show (1:Int)≤((plainX b).Days.length:Int); rw [plain_days]; omega
 ·show ((plainX b).Days.length:Int)≤8; rw [plain_days]; omega
 ·show ((plainX b).Dips.map _).length≤8; rw [List.length_map]; omega
 ·intro x hx
  obtain ⟨y,hy,rfl⟩:=List.mem_map.1 hx
  obtain ⟨h1,h2,h3⟩:=plain_mem hy
  obtain ⟨⟨d0,d1⟩,_,e0,e9⟩:=dip_bd V h1
  refine cnt_iff.2 ⟨(show (0:Int)≤2 by decide),(show (2:Int)≤2 by decide),(show (0:Int)≤0 by decide),d0,?_,h2,h3,(show (1:Int)≤1 by decide),(show (1:Int)≤20 by decide),e0,?_,e0,?_,fun h=>absurd (show (2:Int)=1 from h) (by decide)⟩
  ·show y.Day < ((plainX b).Days.length:Int); rw [plain_days]; omega
  ·show y.Error≤30; omega
  ·show y.Error≤30; omega
theorem plain_look {b:CoalBook}{but:List Int}{k w:Nat} (hk:k < b.Days.length) (hw:w < 3):lookL (opn (plainX b) but).costs_ (Coal_gust.mk (k:Int) (w:Int))=some (w:Int):=by
 have hx:(plainX b).Days[k]? =some dayP:=by simp [plainX,hk]
 have hb:bitB dayP w=true:=by
  match w,hw with
  | 0,_=>decide +kernel
  | 1,_=>decide +kernel
  | 2,_=>decide +kernel
 have:=val_look (ex:=(plainX b).Extra) (n:=(plainX b).Days.length) hx hb hw (by rw [plain_days]; exact hk)
 refine this.trans ?_
 match w,hw with
 | 0,_=>exact (show some (wr (1*aget [0,1,2] ((0:Nat):Int)))=some ((0:Nat):Int) by decide +kernel)
 | 1,_=>exact (show some (wr (1*aget [0,1,2] ((1:Nat):Int)))=some ((1:Nat):Int) by decide +kernel)
 | 2,_=>exact (show some (wr (1*aget [0,1,2] ((2:Nat):Int)))=some ((2:Nat):Int) by decide +kernel)
theorem plain_day {b:CoalBook}{but:List Int}{k:Nat} (hk:k < b.Days.length) (c cost:Int):dayC (opn (plainX b) but) (b.Days.length:Int) [0,0] k c cost=c - cost:=by
 unfold dayC eng
 have hx:(opn (plainX b) but).CoalBook.Days[k]? =some dayP:=by show (plainX b).Days[k]? =_; simp [plainX,hk]
 rw [show ((b.Days.length:Int)==(k:Int))=false by simp; omega,cond_false,Int.toNat_natCast,hx]
 have e1:((andI (shrI dayP.Engines 0) 1)==1)=false:=by decide +kernel
 have e2:((andI (shrI dayP.Engines 1) 1)==1)=true:=by decide +kernel
 simp only [e1,e2,cond_true,cond_false]
 simp
theorem rng_point {n x:Int}:x∈rng ⟨n,n⟩↔x=n:=by rw [rng_mem]; simp only; omega
theorem plain_truth {b:CoalBook}{l:List Int}{t:Coal_truth}:t∈truths (opn (plainX b) l)↔t∈blown (opn (plainX b) l) b.Days.length (init 0 0 b.Days.length) 0 b.Heap.Low:=by
 rw [truth_mem]
 have e:(opn (plainX b) l).CoalBook.Days.length=b.Days.length:=plain_days b
 rw [e]
 constructor
 ·rintro ⟨h,h1,o,h2,p,h3,c,h4,ht⟩
  rw [show h=b.Heap.Low from rng_point.1 h1,show o=0 from rng_point.1 h2,show p=0 from rng_point.1 h3,show c=b.Days.length from rng_point.1 h4] at ht
  exact ht
 ·intro ht
  exact ⟨_,rng_point.2 rfl,_,rng_point.2 rfl,_,rng_point.2 rfl,_,rng_point.2 rfl,ht⟩
section
variable {b:CoalBook} (V:ValC b)
include V
theorem fit_of {l:List Int}{t:Coal_truth} (h:t∈truths (opn (plainX b) l)):∃ q:Nat→Int,q 0=0∧Fit (tripsX (plainX b)) (outL l) q∧∀ k,k < b.Days.length→coalAt k t=b.Heap.Low - q (k+1)∧((windAt k t:Nat):Int)=q (k+1) - q k:=by
 have hd:=V.dn
 rw [plain_truth] at h
 obtain ⟨K,h0,hs⟩:=blown_run b.Days.length _ t 0 _ (by omega) h
 have step:∀ k,k < b.Days.length→windAt k t < 3∧K (k+1)=K k - (windAt k t:Nat)∧rightB (opn (plainX b) l) k (K (k+1))=true∧coalAt k t=K (k+1):=by
  intro k hk
  obtain ⟨⟨h1,cost,h2,h3,h4⟩,h5⟩:=hs k (by omega) (by omega)
  simp only at h1 h2
  rw [plain_look hk h1] at h2
  obtain rfl:=Option.some.inj h2
  exact ⟨h1,h3.trans (plain_day hk _ _),h4,h5⟩
 refine ⟨fun k=>b.Heap.Low - K k,by simp only; omega,⟨fun k hk=>?_,fun i x hx ho=>?_⟩,fun k hk=>?_⟩
 ·have hk' :k < b.Days.length:=by
   have:(k:Int) < ((plainX b).Days.length:Int):=hk
   rw [plain_days] at this; omega
  have:=step k hk'
  show b.Heap.Low - K (k+1)≤b.Heap.Low - K k+2∧b.Heap.Low - K k≤b.Heap.Low - K (k+1)
  omega
 ·obtain ⟨y,hy,rfl⟩:=by
   have:((plainX b).Dips.map (countX b.Heap.Low))[i]? =some x:=hx
   rw [List.getElem?_map] at this
   exact Option.map_eq_some_iff.1 this
  have hi:(i:Int) ∉ l:=by simpa [outL] using ho
  obtain ⟨hm,_,_⟩:=plain_mem (List.mem_of_getElem? hy)
  obtain ⟨⟨d0,d1⟩,_,_⟩:=dip_bd V hm
  have hk:y.Day.toNat < b.Days.length:=by omega
  have:=right_iff.1 (step _ hk).2.2.1 i y hy hi (by omega)
  unfold CntQ leastV mostV
  show (b.Heap.Low - y.Read)*1 - y.Error≤b.Heap.Low - K (y.Day+1).toNat - (b.Heap.Low - K (0:Int).toNat)∧b.Heap.Low - K (y.Day+1).toNat - (b.Heap.Low - K (0:Int).toNat)≤(b.Heap.Low - y.Read)*1+y.Error
  rw [show (y.Day+1).toNat=y.Day.toNat+1 by omega,show (0:Int).toNat=0 from rfl]
  omega
 ·have:=step k hk
  show coalAt k t=b.Heap.Low - (b.Heap.Low - K (k+1))∧_=b.Heap.Low - K (k+1) - (b.Heap.Low - K k)
  omega
theorem of_fit {l:List Int}{q:Nat→Int} (h:Fit (tripsX (plainX b)) (outL l) q):∃ t∈truths (opn (plainX b) l),∀ k,k < b.Days.length→coalAt k t=b.Heap.Low - (q (k+1) - q 0)∧((windAt k t:Nat):Int)=q (k+1) - q k:=by
 have hd:=V.dn
 have stp:∀ k,k < b.Days.length→q (k+1)≤q k+2∧q k≤q (k+1):=fun k hk=>h.1 k (by show (k:Int) < ((plainX b).Days.length:Int); rw [plain_days]; omega)
 have run:∀ k,0≤k→k < 0+b.Days.length→DayR (opn (plainX b) l) (init 0 0 b.Days.length).collier_ (init 0 0 b.Days.length).eats_ (fun k=>(q (k+1) - q k).toNat) (fun k=>b.Heap.Low - (q k - q 0)) k:=by
  intro k _ hk
  have hk:k < b.Days.length:=by omega
  have hs:=stp k hk
  have hw:(q (k+1) - q k).toNat < 3:=by omega
  refine ⟨hw,((q (k+1) - q k).toNat:Nat),plain_look hk hw,?_,right_iff.2 fun i y hy hi hyd=>?_⟩
  ·refine Eq.trans ?_ (plain_day hk _ _).symm
   show b.Heap.Low - (q (k+1) - q 0)=b.Heap.Low - (q k - q 0) - ((q (k+1) - q k).toNat:Nat)
   omega
  ·have hx:(tripsX (plainX b)).Counts[i]? =some (countX b.Heap.Low y):=by
    show ((plainX b).Dips.map (countX b.Heap.Low))[i]? =_
    rw [List.getElem?_map,hy]; rfl
   have:=h.2 i _ hx (by simpa [outL] using hi)
   unfold CntQ leastV mostV at this
   show -y.Error≤b.Heap.Low - (q (k+1) - q 0) - y.Read∧b.Heap.Low - (q (k+1) - q 0) - y.Read≤y.Error
   have this:(b.Heap.Low - y.Read)*1 - y.Error≤q (y.Day+1).toNat - q (0:Int).toNat∧q (y.Day+1).toNat - q (0:Int).toNat≤(b.Heap.Low - y.Read)*1+y.Error:=this
   rw [show (y.Day+1).toNat=k+1 by omega,show (0:Int).toNat=0 from rfl] at this
   omega
 obtain ⟨u,hu,hs⟩:=blown_of b.Days.length _ 0 (by omega) run
 refine ⟨u,plain_truth.2 (by simpa using hu),fun k hk=>?_⟩
 obtain ⟨h1,h2⟩:=hs k (by omega) (by omega)
 have:=stp k hk
 rw [h1,h2]
 refine ⟨rfl,?_⟩
 show (((q (k+1) - q k).toNat:Nat):Int)=_
 omega
theorem can_same {l:List Int}:CanOC (plainX b) l↔CanO (tripsX (plainX b)) l:=by
 constructor
 ·intro h
  obtain ⟨t,ht⟩:=List.exists_mem_of_ne_nil _ h
  obtain ⟨q,_,hq,_⟩:=fit_of V ht
  exact ⟨q,hq⟩
 ·rintro ⟨q,hq⟩
  obtain ⟨t,ht,_⟩:=of_fit V hq
  exact List.ne_nil_of_mem ht
end
end Go.Proofs.YtblfippmobpaaaaDoor
namespace Go.Proofs.YtblfippmobpaaaaDoor
open Go Go.Fx
theorem few_same {b:CoalBook} (V:ValC b) {w v:List Int} (F:FewC (plainX b) w) (G:Few (tripsX (plainX b)) v):w=v:=by
 have e:(tripsX (plainX b)).Counts.length=(plainX b).Dips.length:=by show ((plainX b).Dips.map _).length=_; rw [List.length_map]
 have gc:Clm v (plainX b).Dips.length:=by have:=G.clm; rwa [e] at this
 have fc:Clm w (tripsX (plainX b)).Counts.length:=by rw [e]; exact F.clm
 have h1:=F.len v gc ((can_same V).2 G.can)
 have h2:=G.len w fc ((can_same V).1 F.can)
 have hl:w.length=v.length:=by omega
 exact lex_same hl (G.lex w fc ((can_same V).1 F.can) hl) (F.lex v gc ((can_same V).2 G.can) hl.symm)
theorem bit_eq:∀ (n:Fin 8) (k:Fin 3),((andI (shrI ((n.val:Nat):Int) ((k.val:Nat):Int)) 1)==1)=n.val.testBit k.val:=by decide +kernel
theorem law_topEaten (b:CoalBook) (A:Arg b) (n:Int):law_TopEaten b n=some true:=by
 unfold law_TopEaten
 rw [small_eq b A,Option.bind_some]
 cases hv:valBC b
 case false=>rw [Bool.not_false,cond_true,burned_t]; rfl
 have V:=val_iffC.1 hv
 have hdn:=V.dn
 have hh:=heap_bd V
 rw [Bool.not_true,cond_false,plain_eq V,Option.bind_some,trips_eq V,Option.bind_some]
 obtain ⟨d,hm,hd⟩:=modN n (n:=b.Days.length) (by omega) (by omega)
 rw [hm,Option.bind_some]
 have VP:=plain_val V; have AP:=plain_arg V; have VT:=trips_val V
 obtain ⟨tr,htr,hti⟩:=right_eq VT
 have e:(tripsX (plainX b)).Counts.length=(plainX b).Dips.length:=by show ((plainX b).Dips.map _).length=_; rw [List.length_map]
 obtain ⟨w,hw,F⟩:=wrong_eqC VP AP ((can_same V).2 (by have:=allL_can VT.bk; rwa [e] at this))
 obtain ⟨v,hv',G⟩:=wrong_eq VT
 obtain rfl:=few_same V F G
 have wl:=F.clm.len (by omega)
 have pl:=plain_len V
 rw [right_law VP AP,Option.bind_some,htr,Option.bind_some,hw,Option.bind_some,hv',Option.bind_some]
 simp only [bne_self_eq_false,cond_false]
 have e1:(!(TT (plainX b)).isEmpty)=tr:=by
  rw [Bool.eq_iff_iff,hti,← canO_nil,← can_same V]
  unfold CanOC
  simp
 rw [e1]
 simp only [bne_self_eq_false,cond_false]
 rw [alike_same w (by omega),Option.bind_some]
 simp only [Bool.not_true,cond_false]
 cases htv:tr with
 | false=>rw [Bool.not_false,cond_true,burned_t]; rfl
 | true=>
   rw [Bool.not_true,cond_false]
   have hne:TT (plainX b)≠[]:=by
    rw [htv] at e1
    simpa using e1
   have hemp:(TT (plainX b)).isEmpty=false:=by rw [htv] at e1; simpa using e1
   have hdx:d < (plainX b).Days.length:=by rw [plain_days]; exact hd
   obtain ⟨s,hs,S⟩:=heap_law VP AP hdx
   have tT:(d:Int) < (tripsX (plainX b)).Trips:=by show (d:Int) < ((plainX b).Days.length:Int); omega
   have hcan:=hti.1 htv
   obtain ⟨t,et,ht,hT⟩:=many_law VT (f:=0) (t:=d) ⟨by omega,by omega,tT⟩
   obtain ⟨o,eo,ho,hO⟩:=many_law VT (f:=d) (t:=d) ⟨by omega,by omega,tT⟩
   have hT' :et=0∧Spn (Fit (tripsX (plainX b)) no) 0 (d+1) t.Low t.High:=by
    rcases hT with ⟨a,_,c⟩ | ⟨_,_,c⟩
    ·exact ⟨a,by rwa [show ((d:Int)+1).toNat=d+1 by omega,show (0:Int).toNat=0 from rfl] at c⟩
    ·exact absurd hcan c
   have hO' :eo=0∧Spn (Fit (tripsX (plainX b)) no) d (d+1) o.Low o.High:=by
    rcases hO with ⟨a,_,c⟩ | ⟨_,_,c⟩
    ·exact ⟨a,by rwa [show ((d:Int)+1).toNat=d+1 by omega,show (d:Int).toNat=d by omega] at c⟩
    ·exact absurd hcan c
   obtain ⟨rfl,ST⟩:=hT'
   obtain ⟨rfl,SO⟩:=hO'
   rw [hs,Option.bind_some,ht,Option.bind_some,wind_law VP AP hdx,Option.bind_some,ho,Option.bind_some,hemp]
   simp only [cond_false,bne_self_eq_false]
   have bd:=ST.bnd VT.bk (by omega) (by omega)
   have e2:s.Low=b.Heap.Low - t.High:=by
    obtain ⟨u,hu,hue⟩:=S.low hne
    obtain ⟨q,q0,hq,hqk⟩:=fit_of V (l:=[]) hu
    have h1:=(ST.all q (outL_nil.1 hq)).2
    have h2:=(hqk d hd).1
    obtain ⟨q',hq',hqe⟩:=ST.hiE
    obtain ⟨u',hu',hk'⟩:=of_fit V (l:=[]) (outL_nil.2 hq')
    have h3:=(hk' d hd).1
    have h4:=S.le u' hu'
    omega
   have e3:s.High=b.Heap.Low - t.Low:=by
    obtain ⟨u,hu,hue⟩:=S.high hne
    obtain ⟨q,q0,hq,hqk⟩:=fit_of V (l:=[]) hu
    have h1:=(ST.all q (outL_nil.1 hq)).1
    have h2:=(hqk d hd).1
    obtain ⟨q',hq',hqe⟩:=ST.loE
    obtain ⟨u',hu',hk'⟩:=of_fit V (l:=[]) (outL_nil.2 hq')
    have h3:=(hk' d hd).1
    have h4:=S.ge u' hu'
    omega
   rw [show (plainX b).Heap.Low=b.Heap.Low from rfl,wrI (x:=b.Heap.Low - t.High) (by omega) (by omega),wrI (x:=b.Heap.Low - t.Low) (by omega) (by omega)]
   rw [show B_Range (b.Heap.Low - t.High) (b.Heap.Low - t.Low)=some ⟨b.Heap.Low - t.High,b.Heap.Low - t.Low⟩ from rfl,Option.bind_some,e2,e3]
   simp only [beq_self_eq_true,Bool.and_self,Bool.not_true,cond_false]
   refine loop_fold (fun k=>(k:Int)) 3 (fun rec k hk=>?_) (fun rec=>?_) (by rw [big_eq]; omega)
   ·unfold law_TopEaten_l1
    simp only
    rw [decide_eq_true (by omega),cond_true]
    unfold B_Member B_Contains
    rw [need_of (by simp),Option.bind_some,inside_eq,Option.bind_some,Option.bind_some]
    have hlt:windSet d (TT (plainX b)) < 8:=windSet_lt (q:=opn (plainX b) []) _ 0 (by omega) (fun t ht=>by
     have:=(truths_tru (opn_op VP AP []) ht).1.wi d hdx
     unfold windAt; omega)
    have hb:=bit_eq ⟨_,hlt⟩ ⟨k,hk⟩
    simp only at hb
    rw [hb]
    have e4:(windSet d (TT (plainX b))).testBit k=inB (k:Int) o.Low o.High:=by
     rw [Bool.eq_iff_iff,inB_iff]
     unfold windSet
     rw [windSet_bit]
     constructor
     ·rintro (h | ⟨u,hu,huk⟩)
      ·simp at h
      ·obtain ⟨q,_,hq,hqk⟩:=fit_of V (l:=[]) hu
       have h1:=SO.all q (outL_nil.1 hq)
       have h2:=(hqk d hd).2
       omega
     ·rintro ⟨h1,h2⟩
      obtain ⟨q,hq,hqv⟩:=SO.mid h1 h2
      obtain ⟨u,hu,huk⟩:=of_fit V (l:=[]) (outL_nil.2 hq)
      have h3:=(huk d hd).2
      exact .inr ⟨u,hu,by omega⟩
    rw [e4,bne_self_eq_false,cond_false,wrN hk (by omega)]
   ·unfold law_TopEaten_l1
    simp only
    rw [decide_eq_false (by omega),cond_false,burned_t]
    rfl
end Go.Proofs.YtblfippmobpaaaaDoor
/- Part of a logic of my own for walks: rules by which a proof steps through code, proved once. -/
import Derived.Test.YtblfippmobpaaaaDoorZGWFacts
set_option linter.unusedSimpArgs false
set_option linter.unusedVariables false
namespace Go.Tally
open Go Go.Fx
def Pot (ml:List Ent) (q:Nat→Int):Prop:=∀ e∈ml,q e.1.2.toNat≤q e.1.1.toNat+e.2
structure Vd (t:Int) (s:Int) (ml:List Ent):Prop where
 t0:0≤t
 t8:t≤8
 s0:0≤s
 st:s≤t
 ks:KeysIn t ml
 bd:∀ e∈ml,-10000≤e.2∧e.2≤10000
 ln:ml.length≤1000
 up:∀ k:Nat,(k:Int) < t→∃ n:Int,n≤60∧(((k:Int),(k:Int)+1),n)∈ml
 dn:∀ k:Nat,(k:Int) < t→∃ n:Int,n≤0∧(((k:Int)+1,(k:Int)),n)∈ml
def Bnd (b:Int) (o:List Int):Prop:=∀ v,-b≤o.getD v 0∧o.getD v 0≤481
theorem wr_id {x:Int} (h1:-1000000000000000000≤x) (h2:x≤1000000000000000000):wr x=x:=by
 simp only [wr,IntKind.wrap,IntKind.bits,IntKind.signed]
 simp
 omega
theorem getD_set (o:List Int) (i v:Nat) (x:Int):(o.set i x).getD v 0=if i=v∧i < o.length then x else o.getD v 0:=by
 simp only [List.getD_eq_getElem?_getD,List.getElem?_set]
 by_cases h:i=v
 ·subst h
  by_cases h2:i < o.length
  ·simp [h2]
  ·simp [h2]
 ·simp [h]
structure Rx (T:Nat) (b:Int) (o:List Int) (l:List Ent) (s:List Int×Bool):Prop where
 len:s.1.length=o.length
 mono:∀ v,s.1.getD v 0≤o.getD v 0
 bnd:Bnd (b+10000*l.length) s.1
 out:∀ v,T < v→s.1.getD v 0=o.getD v 0
 low:∀ q:Nat→Int,Pot l q→(∀ v,v≤T→q v≤o.getD v 0)→∀ v,v≤T→q v≤s.1.getD v 0
 done:∀ e∈l,s.1.getD e.1.2.toNat 0≤o.getD e.1.1.toNat 0+e.2
 calm:s.2=false→s.1=o
theorem viol_iff {b:Int}{o:List Int}{e:Ent} (hb:Bnd b o) (h1:b≤100000000000000000) (he:-10000≤e.2∧e.2≤10000):viol o e=true↔o.getD e.1.1.toNat 0+e.2 < o.getD e.1.2.toNat 0:=by
 have:=hb e.1.1.toNat
 unfold viol
 rw [wr_id (by omega) (by omega)]
 simp
theorem rev_ind {α:Type}{P:List α→Prop} (h0:P []) (h1:∀ l a,P l→P (l++[a])) (l:List α):P l:=by
 have:∀ l:List α,P l.reverse:=by
  intro l
  induction l with
  | nil=>exact h0
  | cons a l ih=>rw [List.reverse_cons]; exact h1 _ _ ih
 have h:=this l.reverse
 rwa [List.reverse_reverse] at h
theorem rx_run {t:Int}{b:Int}{o:List Int} (ho:o.length=9) (hb:Bnd b o) (t0:0≤t) (t8:t≤8):
 ∀ (l:List Ent),b+10000*l.length≤100000000000000000→KeysIn t l→(∀ e∈l,-10000≤e.2∧e.2≤10000)→Rx t.toNat b o l (relaxL o l):=by
 intro l
 refine rev_ind (P:=fun l=>b+10000*l.length≤100000000000000000→KeysIn t l→(∀ e∈l,-10000≤e.2∧e.2≤10000)→Rx t.toNat b o l (relaxL o l)) ?_ ?_ l
 ·intro _ _ _
  refine ⟨rfl,fun _=>Int.le_refl _,fun v=>by have:=hb v; simpa [relaxL] using this,fun _ _=>rfl,fun _ _ h=>h,fun e he=>(List.not_mem_nil he).elim,fun _=>rfl⟩
 ·intro l e ih h1 hk hn
  have hl:((l++[e]).length:Int)=l.length+1:=by simp
  rw [hl] at h1
  have R:=ih (by omega) (fun x hx=>hk x (List.mem_append_left _ hx)) (fun x hx=>hn x (List.mem_append_left _ hx))
  have he:=hk e (List.mem_append_right _ (List.mem_singleton.2 rfl))
  have hen:=hn e (List.mem_append_right _ (List.mem_singleton.2 rfl))
  rw [relaxL_snoc]
  generalize relaxL o l=s at R
  have hvi:=viol_iff R.bnd (by omega) hen
  have hne:(e.1 != (-1,-1))=true:=by
   have:e.1≠(-1,-1):=fun h=>by rw [h] at he; simp at he
   simpa using this
  have hf:=R.bnd e.1.1.toNat
  unfold relax
  rw [hne,Bool.true_and]
  by_cases hv:viol s.1 e=true
  ·rw [if_pos hv]
   have hlt:=hvi.1 hv
   rw [wr_id (by omega) (by omega)]
   have hto:e.1.2.toNat < s.1.length:=by rw [R.len,ho]; omega
   refine ⟨by simp [R.len],fun v=>?_,fun v=>?_,fun v hv=>?_,fun q hq h v hv=>?_,fun x hx=>?_,fun h=>by simp at h⟩
   ·rw [getD_set]; split
    ·rename_i h; rw [← h.1]; have:=R.mono e.1.2.toNat; omega
    ·exact R.mono v
   ·rw [getD_set,hl]; split
    ·rename_i h; rw [← h.1] at *; have:=R.bnd e.1.2.toNat; omega
    ·have:=R.bnd v; omega
   ·rw [getD_set,if_neg (by omega)]; exact R.out v hv
   ·have hq1:=R.low q (fun x hx=>hq x (List.mem_append_left _ hx)) h
    rw [getD_set]; split
    ·rename_i h'; rw [← h'.1]
     have h2:=hq e (List.mem_append_right _ (List.mem_singleton.2 rfl))
     have h3:=hq1 e.1.1.toNat (by omega)
     omega
    ·exact hq1 v hv
   ·rw [getD_set]
    rcases List.mem_append.1 hx with hx | hx
    ·have:=R.done x hx
     split
     ·rename_i h'; rw [h'.1] at hlt; omega
     ·exact this
    ·rw [List.mem_singleton.1 hx,if_pos ⟨rfl,hto⟩]
     have:=R.mono e.1.1.toNat
     omega
  ·rw [if_neg hv]
   have hge:¬_:=fun h=>hv (hvi.2 h)
   refine ⟨R.len,R.mono,fun v=>by rw [hl]; have:=R.bnd v; omega,R.out,fun q hq h=>R.low q (fun x hx=>hq x (List.mem_append_left _ hx)) h,fun x hx=>?_,R.calm⟩
   rcases List.mem_append.1 hx with hx | hx
   ·exact R.done x hx
   ·rw [List.mem_singleton.1 hx]
    have:=R.mono e.1.1.toNat
    omega
theorem int_max (P:Int→Prop) (M:Int) (hb:∀ x,P x→x≤M):∀ (n:Nat) (x:Int),(M - x).toNat=n→P x→∃ x,P x∧∀ y,P y→y≤x:=by
 intro n
 induction n using Nat.strongRecOn with
 | _ n ih=>
   intro x hx hp
   by_cases h:∀ y,P y→y≤x
   ·exact ⟨x,hp,h⟩
   ·obtain ⟨y,hy⟩:=Classical.not_forall.1 h
    obtain ⟨hy,hyx⟩:=Classical.not_imp.1 hy
    have:=hb y hy
    exact ih _ (by omega) y rfl hy
theorem pot_up {t s:Int}{ml:List Ent} (V:Vd t s ml) {q:Nat→Int} (hq:Pot ml q):∀ (d k:Nat),(k:Int)+d≤t→q k≤q (k+d)∧q (k+d)≤q k+60*d:=by
 intro d
 induction d with
 | zero=>intro k _; simp
 | succ d ih=>
   intro k hk
   have h1:=ih k (by omega)
   obtain ⟨n,hn,hm⟩:=V.up (k+d) (by omega)
   obtain ⟨n',hn',hm'⟩:=V.dn (k+d) (by omega)
   have h2:=hq _ hm
   have h3:=hq _ hm'
   simp only [show (((k+d:Nat):Int)+1).toNat=k+(d+1) by omega,show (((k+d:Nat):Int)).toNat=k+d by omega] at h2 h3
   omega
theorem pot_bnd {t s:Int}{ml:List Ent} (V:Vd t s ml) {q:Nat→Int} (hq:Pot ml q) {v:Nat} (hv:(v:Int)≤t):q v - q s.toNat≤480:=by
 have:=V.t8; have:=V.s0; have:=V.st
 by_cases h:v≤s.toNat
 ·have:=pot_up V hq (s.toNat - v) v (by omega)
  rw [show v+(s.toNat - v)=s.toNat by omega] at this
  omega
 ·have:=pot_up V hq (v - s.toNat) s.toNat (by omega)
  rw [show s.toNat+(v - s.toNat)=v by omega] at this
  omega
theorem pot_shift {ml:List Ent}{q:Nat→Int} (hq:Pot ml q) (c:Int):Pot ml (fun v=>q v - c):=fun e he=>by
 have:=hq e he
 show q _ - c≤q _ - c+_
 omega
theorem Pot.perm {p l:List Ent} (h:p.Perm l) {q:Nat→Int} (hq:Pot l q):Pot p q:=fun e he=>hq e (h.mem_iff.1 he)
theorem pot_max {t s:Int}{ml:List Ent} (V:Vd t s ml) (h:∃ q,Pot ml q):∃ D:Nat→Int,Pot ml D∧D s.toNat=0∧∀ q,Pot ml q→∀ v:Nat,(v:Int)≤t→q v - q s.toNat≤D v:=by
 obtain ⟨q0,hq0⟩:=h
 have ex:∀ v:Nat,∃ d:Int,(v:Int)≤t→(∃ q,Pot ml q∧d=q v - q s.toNat)∧∀ q,Pot ml q→q v - q s.toNat≤d:=by
  intro v
  by_cases hv:(v:Int)≤t
  ·obtain ⟨d,hd,hm⟩:=int_max (fun d=>∃ q,Pot ml q∧d=q v - q s.toNat) 480 (fun x ⟨q,hq,hx⟩=>hx▸pot_bnd V hq hv) _ _ rfl ⟨q0,hq0,rfl⟩
   exact ⟨d,fun _=>⟨hd,fun q hq=>hm _ ⟨q,hq,rfl⟩⟩⟩
  ·exact ⟨0,fun h=>absurd h hv⟩
 refine ⟨fun v=>Classical.choose (ex v),fun e he=>?_,?_,fun q hq v hv=>(Classical.choose_spec (ex v) hv).2 q hq⟩
 ·have hk:=V.ks e he
  obtain ⟨⟨q,hq,hd⟩,_⟩:=Classical.choose_spec (ex e.1.2.toNat) (by omega)
  have h2:=(Classical.choose_spec (ex e.1.1.toNat) (by omega)).2 q hq
  have h3:=hq e he
  show Classical.choose (ex e.1.2.toNat)≤Classical.choose (ex e.1.1.toNat)+e.2
  rw [hd]
  omega
 ·have:=V.s0; have:=V.st
  obtain ⟨⟨q,hq,hd⟩,_⟩:=Classical.choose_spec (ex s.toNat) (by omega)
  show Classical.choose (ex s.toNat)=0
  rw [hd]
  omega
structure Iv (t s:Int) (ml:List Ent) (b:Int) (o:List Int):Prop where
 len:o.length=9
 bnd:Bnd b o
 out:∀ v,t.toNat < v→o.getD v 0=0
 top:o.getD s.toNat 0≤0
 low:∀ q,Pot ml q→q s.toNat=0→∀ v,v≤t.toNat→q v≤o.getD v 0
theorem round_rx {t s:Int}{ml:List Ent} (V:Vd t s ml) {b:Int}{o o' :List Int}{ch:Bool} (I:Iv t s ml b o) (hb:b≤1000000000000) (h:RoundR ml o o' ch):Rx t.toNat b o ml (o',ch)∧Iv t s ml (b+10000000) o' :=by
 obtain ⟨p,hp,hr⟩:=h
 have hl:p.length=ml.length:=hp.length_eq
 have:=V.ln
 have R:=rx_run I.len I.bnd V.t0 V.t8 p (by omega) (fun x hx=>V.ks x (hp.mem_iff.1 hx)) (fun x hx=>V.bd x (hp.mem_iff.1 hx))
 rw [hr] at R
 have R' :Rx t.toNat b o ml (o',ch):=⟨R.len,R.mono,by rw [← hl]; exact R.bnd,R.out,fun q hq=>R.low q (hq.perm hp),fun e he=>R.done e (hp.mem_iff.2 he),R.calm⟩
 refine ⟨R',R'.len.trans I.len,fun v=>?_,fun v hv=>(R'.out v hv).trans (I.out v hv),Int.le_trans (R'.mono _) I.top,fun q hq h0=>R'.low q hq (I.low q hq h0)⟩
 have:=R'.bnd v
 simp only at this
 omega
theorem rounds_some {t s:Int}{ml:List Ent} (V:Vd t s ml) {k:Nat}{o:List Int}{r:Option (List Int)} (h:RoundsR s.toNat ml k o r):∀ (b:Int),b+10000000*k≤1000000000000→Iv t s ml b o→0≤o.getD s.toNat 0→∀ o',r=some o' →0≤o'.getD s.toNat 0∧Iv t s ml (b+10000000*k) o' :=by
 induction h with
 | stop=>
   rintro b _ I h0 _ ⟨⟩
   exact ⟨h0,by simpa using I⟩
 | @calm k o o' hr=>
   rintro b hb I h0 _ ⟨⟩
   obtain ⟨R,I'⟩:=round_rx V I (by omega) hr
   have he:=R.calm rfl
   simp only at he
   refine ⟨he▸h0,I'.len,fun v=>?_,I'.out,I'.top,I'.low⟩
   have:=I'.bnd v
   omega
 | neg _ _=>rintro _ _ _ _ _ ⟨⟩
 | @go k o o' r hr hn _ ih=>
   intro b hb I _ o'' e
   obtain ⟨R,I'⟩:=round_rx V I (by omega) hr
   obtain ⟨h1,h2⟩:=ih (b+10000000) (by omega) I' (by omega) o'' e
   refine ⟨h1,h2.len,fun v=>?_,h2.out,h2.top,h2.low⟩
   have:=h2.bnd v
   omega
theorem rounds_none {t s:Int}{ml:List Ent} (V:Vd t s ml) {k:Nat}{o:List Int}{r:Option (List Int)} (h:RoundsR s.toNat ml k o r):∀ (b:Int),b+10000000*k≤1000000000000→Iv t s ml b o→r=none→¬∃ q,Pot ml q:=by
 induction h with
 | stop=>rintro _ _ _ ⟨⟩
 | calm _=>rintro _ _ _ ⟨⟩
 | @neg k o o' hr hn=>
   rintro b hb I _ ⟨q,hq⟩
   obtain ⟨R,I'⟩:=round_rx V I (by omega) hr
   have:=V.s0; have:=V.st
   have:=I'.low _ (pot_shift hq (q s.toNat)) (by simp) s.toNat (by omega)
   simp at this hn
   omega
 | @go k o o' r hr hn _ ih=>
   intro b hb I e
   obtain ⟨R,I'⟩:=round_rx V I (by omega) hr
   exact ih (b+10000000) (by omega) I' e
theorem count_lt (p p' :Nat→Bool):∀ (l:List Nat),(∀ v∈l,p v=true→p' v=true)→(∃ v∈l,p' v=true∧p v=false)→l.countP p < l.countP p' :=by
 intro l
 induction l with
 | nil=>rintro _ ⟨v,hv,_⟩; exact (List.not_mem_nil hv).elim
 | cons x l ih=>
   intro h hx
   have hle:l.countP p≤l.countP p' :=List.countP_mono_left fun v hv=>h v (List.mem_cons_of_mem _ hv)
   rw [List.countP_cons,List.countP_cons]
   obtain ⟨v,hv,h1,h2⟩:=hx
   rcases List.mem_cons.1 hv with rfl | hv
   ·simp [h1,h2]; omega
   ·have:=ih (fun v hv=>h v (List.mem_cons_of_mem _ hv)) ⟨v,hv,h1,h2⟩
    by_cases hp:p x=true
    ·simp [hp,h x (List.mem_cons_self ..) hp]; omega
    ·simp [hp]; split <;> omega
def sett (t:Int) (D:Nat→Int) (o:List Int):Nat:=(List.range (t.toNat+1)).countP fun v=>decide (o.getD v 0=D v)
theorem sett_all {t:Int}{D:Nat→Int}{o:List Int} (h:t.toNat+1≤sett t D o):∀ v,v≤t.toNat→o.getD v 0=D v:=by
 intro v hv
 have:sett t D o=(List.range (t.toNat+1)).length:=Nat.le_antisymm List.countP_le_length (by simpa using h)
 have:=List.countP_eq_length.1 this v (List.mem_range.2 (by omega))
 simpa using this
theorem sett_step {t s:Int}{ml:List Ent} (V:Vd t s ml) {D:Nat→Int} (hD:Pot ml D) (h0:D s.toNat=0) (hm:∀ q,Pot ml q→∀ v:Nat,(v:Int)≤t→q v - q s.toNat≤D v) {b:Int}{o o' :List Int}{ch:Bool} (I:Iv t s ml b o) (hs:o.getD s.toNat 0=0) (hb:b≤1000000000000) (h:RoundR ml o o' ch) (hlt:¬t.toNat+1≤sett t D o):sett t D o+1≤sett t D o' :=by
 obtain ⟨R,I'⟩:=round_rx V I hb h
 have:=V.t0; have:=V.s0; have:=V.st
 have lo:=I.low D hD h0
 have lo' :=I'.low D hD h0
 refine count_lt _ _ _ (fun v hv hp=>?_) ?_
 ·have hv:=List.mem_range.1 hv
  have h1:o.getD v 0=D v:=by simpa using hp
  have h2:=R.mono v
  have h3:=lo' v (by omega)
  simp only [decide_eq_true_eq]
  simp only at h2
  omega
 ·refine Classical.byContradiction fun hno=>?_
  have hno:∀ v,v≤t.toNat→o'.getD v 0=D v→o.getD v 0=D v:=fun v hv h1=>Classical.byContradiction fun h2=>hno ⟨v,List.mem_range.2 (by omega),by simpa using h1,by simpa using h2⟩
  have hq:Pot ml (fun v=>if o.getD v 0=D v then D v else D v+1):=by
   intro e he
   have hk:=V.ks e he
   have h1:=hD e he
   show (if o.getD e.1.2.toNat 0=D e.1.2.toNat then D e.1.2.toNat else D e.1.2.toNat+1)≤(if o.getD e.1.1.toNat 0=D e.1.1.toNat then D e.1.1.toNat else D e.1.1.toNat+1)+e.2
   by_cases ha:o.getD e.1.1.toNat 0=D e.1.1.toNat
   ·rw [if_pos ha]
    by_cases hb:o.getD e.1.2.toNat 0=D e.1.2.toNat
    ·rw [if_pos hb]; exact h1
    ·rw [if_neg hb]
     have h2:=R.done e he
     have h3:=lo' e.1.2.toNat (by omega)
     simp only at h2
     have h4:D e.1.2.toNat≠D e.1.1.toNat+e.2:=fun h5=>hb (hno e.1.2.toNat (by omega) (by omega))
     omega
   ·rw [if_neg ha]
    split <;> omega
  have hall:∀ v,v≤t.toNat→o.getD v 0=D v:=fun v hv=>Classical.byContradiction fun hne=>by
   have:=hm _ hq v (by omega)
   simp only [if_neg hne,hs,h0,if_true] at this
   omega
  refine hlt (Nat.le_of_eq ?_)
  unfold sett
  rw [List.countP_eq_length.2 fun v hv=>?_]
  ·simp
  ·have:=List.mem_range.1 hv
   simpa using hall v (by omega)
theorem rounds_sett {t s:Int}{ml:List Ent} (V:Vd t s ml) {D:Nat→Int} (hD:Pot ml D) (h0:D s.toNat=0) (hm:∀ q,Pot ml q→∀ v:Nat,(v:Int)≤t→q v - q s.toNat≤D v) {k:Nat}{o:List Int}{r:Option (List Int)} (h:RoundsR s.toNat ml k o r):∀ (b:Int),b+10000000*k≤1000000000000→Iv t s ml b o→0≤o.getD s.toNat 0→t.toNat+1≤sett t D o+k→∀ o',r=some o' →∀ e∈ml,¬o'.getD e.1.1.toNat 0+e.2 < o'.getD e.1.2.toNat 0:=by
 induction h with
 | stop=>
   rintro b _ I h0 hc _ ⟨⟩ e he
   have hall:=sett_all (by simpa using hc)
   have hk:=V.ks e he
   have:=V.t0
   rw [hall _ (by omega),hall _ (by omega)]
   have:=hD e he
   omega
 | @calm k o o' hr=>
   rintro b hb I h0 _ _ ⟨⟩ e he
   obtain ⟨R,I'⟩:=round_rx V I (by omega) hr
   have h1:=R.calm rfl
   have h2:=R.done e he
   simp only at h1 h2
   rw [← h1] at h2
   omega
 | neg _ _=>rintro _ _ _ _ _ _ ⟨⟩
 | @go k o o' r hr hn _ ih=>
   intro b hb I hs hc o'' e
   obtain ⟨R,I'⟩:=round_rx V I (by omega) hr
   refine ih (b+10000000) (by omega) I' (by omega) ?_ o'' e
   by_cases hall:t.toNat+1≤sett t D o
   ·have ha:=sett_all hall
    have hle:sett t D o≤sett t D o' :=by
     refine List.countP_mono_left fun v hv hp=>?_
     have hv:=List.mem_range.1 hv
     have h1:o.getD v 0=D v:=by simpa using hp
     have h2:=R.mono v
     have h3:=I'.low D hD h0 v (by omega)
     simp only [decide_eq_true_eq]
     simp only at h2
     omega
    omega
   ·have:=sett_step V hD h0 hm I (Int.le_antisymm I.top hs) (by omega) hr hall
    omega
theorem init_iv {t s:Int}{ml:List Ent} (V:Vd t s ml):Iv t s ml 0 (initO s (t+1).toNat)∧(initO s (t+1).toNat).getD s.toNat 0=0:=by
 have:=V.t0; have:=V.t8; have:=V.s0; have:=V.st
 have get:∀ v,(initO s (t+1).toNat).getD v 0=if v < 9 then (if v < (t+1).toNat∧(v:Int)≠s then 481 else 0) else 0:=by
  intro v
  unfold initO
  simp only [List.getD_eq_getElem?_getD,List.getElem?_map]
  by_cases h:v < 9
  ·simp [h]
  ·simp [h]
 refine ⟨⟨initO_len _ _,fun v=>?_,fun v hv=>?_,?_,fun q hq h0 v hv=>?_⟩,?_⟩
 ·rw [get]; split <;> (try split) <;> omega
 ·rw [get]; split <;> (try split) <;> omega
 ·rw [get]; split <;> (try split) <;> omega
 ·rw [get]
  have:=pot_bnd V hq (v:=v) (by omega)
  by_cases hvs:(v:Int)=s
  ·rw [show v=s.toNat by omega,h0]; split <;> (try split) <;> omega
  ·rw [if_pos (by omega),if_pos (by omega)]; omega
 ·rw [get]; split <;> (try split) <;> omega
structure Mx (t s:Int) (ml:List Ent) (out:List Int):Prop where
 len:out.length=9
 pot:Pot ml (fun v=>out.getD v 0)
 zero:out.getD s.toNat 0=0
 max:∀ q,Pot ml q→∀ v:Nat,(v:Int)≤t→q v - q s.toNat≤out.getD v 0
 out:∀ v,t.toNat < v→out.getD v 0=0
theorem from_pot {t s:Int}{ml:List Ent} (V:Vd t s ml) {out:List Int}{r:Bool} (h:FromR t s ml out r):(r=false∧out=zeros∧¬∃ q,Pot ml q)∨(r=true∧Mx t s ml out):=by
 have:=V.t0; have:=V.t8; have:=V.s0; have:=V.st
 obtain ⟨I,hz⟩:=init_iv V
 rcases h with ⟨h,rfl,rfl⟩ | ⟨o,ho,h⟩
 ·exact .inl ⟨rfl,rfl,rounds_none V h 0 (by omega) I rfl⟩
 ·obtain ⟨h0,I'⟩:=rounds_some V ho 0 (by omega) I (by omega) o rfl
  rcases h with ⟨hv,rfl,rfl⟩ | ⟨hv,rfl,rfl⟩
  ·refine .inl ⟨rfl,rfl,fun hq=>?_⟩
   obtain ⟨D,hD,hD0,hm⟩:=pot_max V hq
   obtain ⟨e,he,hve⟩:=List.any_eq_true.1 hv
   have hve:=(viol_iff I'.bnd (by omega) (V.bd e he)).1 hve
   exact rounds_sett V hD hD0 hm ho 0 (by omega) I (by omega) (by omega) o rfl e he hve
  ·refine .inr ⟨rfl,I'.len,fun e he=>?_,Int.le_antisymm I'.top h0,fun q hq v hv' =>?_,I'.out⟩
   ·have:=List.any_eq_false.1 hv e he
    have:¬_:=fun h=>this ((viol_iff I'.bnd (by omega) (V.bd e he)).2 h)
    show out.getD e.1.2.toNat 0≤out.getD e.1.1.toNat 0+e.2
    omega
   ·exact I'.low _ (pot_shift hq (q s.toNat)) (by simp) v (by omega)
theorem Mx.uniq {t s:Int} (t0:0≤t) {ml:List Ent}{o o' :List Int} (h:Mx t s ml o) (h' :Mx t s ml o'):o=o' :=by
 refine List.ext_getElem (h.len.trans h'.len.symm) fun i h1 h2=>?_
 have e:o.getD i 0=o'.getD i 0:=by
  by_cases hi:(i:Int)≤t
  ·have a:=h.max _ h'.pot i hi
   have b:=h'.max _ h.pot i hi
   have z:=h.zero
   have z' :=h'.zero
   rw [z'] at a
   rw [z] at b
   omega
  ·rw [h.out i (by omega),h'.out i (by omega)]
 rw [List.getD_eq_getElem?_getD,List.getD_eq_getElem?_getD,List.getElem?_eq_getElem h1,List.getElem?_eq_getElem h2] at e
 exact e
theorem from_uniq {t s:Int}{ml:List Ent} (V:Vd t s ml) {out out' :List Int}{r r' :Bool} (h:FromR t s ml out r) (h' :FromR t s ml out' r'):out=out' ∧r=r' :=by
 rcases from_pot V h with ⟨rfl,rfl,hn⟩ | ⟨rfl,hm⟩ <;> rcases from_pot V h' with ⟨rfl,rfl,hn'⟩ | ⟨rfl,hm'⟩
 ·exact ⟨rfl,rfl⟩
 ·exact absurd ⟨_,hm'.pot⟩ hn
 ·exact absurd ⟨_,hm.pot⟩ hn'
 ·exact ⟨hm.uniq V.t0 hm',rfl⟩
def roundsD (start:Nat) (l:List Ent):Nat→List Int→Option (List Int)
 | 0,o=>some o
 | k+1,o=>match relaxL o l with
   | (o',false)=>some o'
   | (o',true)=>bif decide (o'.getD start 0 < 0) then none else roundsD start l k o'
theorem roundsD_R (start:Nat) (l:List Ent):∀ (k:Nat) (o:List Int),RoundsR start l k o (roundsD start l k o):=by
 intro k
 induction k with
 | zero=>intro o; exact .stop
 | succ k ih=>
   intro o
   unfold roundsD
   split
   ·rename_i o' h; exact .calm ⟨l,.refl _,h⟩
   ·rename_i o' h
    by_cases hn:o'.getD start 0 < 0
    ·rw [decide_eq_true hn]; exact .neg ⟨l,.refl _,h⟩ hn
    ·rw [decide_eq_false hn]; exact .go ⟨l,.refl _,h⟩ hn (ih _)
def fromD (t s:Int) (l:List Ent):List Int×Bool:=match roundsD s.toNat l (t+2).toNat (initO s (t+1).toNat) with
 | none=>(zeros,false)
 | some o=>bif l.any (viol o) then (zeros,false) else (o,true)
theorem fromD_R (t s:Int) (l:List Ent):FromR t s l (fromD t s l).1 (fromD t s l).2:=by
 have h:=roundsD_R s.toNat l (t+2).toNat (initO s (t+1).toNat)
 unfold fromD
 generalize roundsD s.toNat l (t+2).toNat (initO s (t+1).toNat)=x at h
 cases x with
 | none=>exact .inl ⟨h,rfl,rfl⟩
 | some o=>
   refine .inr ⟨o,h,?_⟩
   cases hv:l.any (viol o)
   ·exact .inr ⟨rfl,by simp [hv],by simp [hv]⟩
   ·exact .inl ⟨rfl,by simp [hv],by simp [hv]⟩
def vdB (t s:Int) (ml:List Ent):Bool:=
 inR t 0 8&&inR s 0 t&&(ml.all fun e=>inR e.1.1 0 t&&inR e.1.2 0 t&&inR e.2 (-10000) 10000)&&decide (ml.length≤1000)&&
 (List.range t.toNat).all fun k=>(ml.any fun e=>decide (e.1.1=(k:Int))&&decide (e.1.2=(k:Int)+1)&&decide (e.2≤60))&&ml.any fun e=>decide (e.1.1=(k:Int)+1)&&decide (e.1.2=(k:Int))&&decide (e.2≤0)
theorem vdB_iff {t s:Int}{ml:List Ent}:vdB t s ml=true↔Vd t s ml:=by
 unfold vdB
 simp only [inR,Bool.and_eq_true,decide_eq_true_eq,List.all_eq_true,List.any_eq_true,List.mem_range]
 constructor
 ·rintro ⟨⟨⟨⟨⟨h1,h2⟩,h3,h4⟩,h5⟩,h6⟩,h7⟩
  refine ⟨h1,h2,h3,h4,fun e he=>?_,fun e he=>(h5 e he).2,h6,fun k hk=>?_,fun k hk=>?_⟩
  ·have:=h5 e he; omega
  ·obtain ⟨⟨⟨⟨a,b⟩,n⟩,hm,⟨ha,hb⟩,hn⟩,_⟩:=h7 k (by omega)
   simp only at ha hb hn
   subst ha hb
   exact ⟨n,hn,hm⟩
  ·obtain ⟨_,⟨⟨a,b⟩,n⟩,hm,⟨ha,hb⟩,hn⟩:=h7 k (by omega)
   simp only at ha hb hn
   subst ha hb
   exact ⟨n,hn,hm⟩
 ·intro V
  refine ⟨⟨⟨⟨⟨V.t0,V.t8⟩,V.s0,V.st⟩,fun e he=>⟨?_,V.bd e he⟩⟩,V.ln⟩,fun k hk=>⟨?_,?_⟩⟩
  ·have:=V.ks e he; omega
  ·obtain ⟨n,hn,hm⟩:=V.up k (by omega)
   exact ⟨_,hm,⟨rfl,rfl⟩,hn⟩
  ·obtain ⟨n,hn,hm⟩:=V.dn k (by omega)
   exact ⟨_,hm,⟨rfl,rfl⟩,hn⟩
end Go.Tally
/- Plain facts: what the specification's table of differences comes to. -/
import Derived.Test.YtafhljljfglfeaaGreatDoorZGPTicketPays
import Derived.Test.YtafhljljfglfeaaGreatDoorZGPFold
import Derived.KernelRfl
set_option linter.unusedVariables false
set_option linter.unusedSimpArgs false
namespace Go.Proofs.YtafhljljfglfeaaGreatDoor
open Go Go.Fx Go.Tally
structure Spn (F:(Nat→Int)→Prop) (a c:Nat) (lo hi:Int):Prop where
 loE:∃ q,F q∧q c - q a=lo
 hiE:∃ q,F q∧q c - q a=hi
 all:∀ q,F q→lo≤q c - q a∧q c - q a≤hi
theorem mem_set_iff {α:Type}{l:List α}{i:Nat}{a x:α} (hi:i < l.length):x∈l.set i a↔x=a∨∃ j,j≠i∧l[j]? =some x:=by
 constructor
 ·intro h
  obtain ⟨j,hj,rfl⟩:=List.getElem_of_mem h
  by_cases hji:j=i
  ·subst hji; left; simp
  ·right; refine ⟨j,hji,?_⟩
   rw [List.getElem_set_ne (fun e=>hji e.symm)]
   exact List.getElem?_eq_getElem _
 ·rintro (rfl | ⟨j,hj,h⟩)
  ·exact List.mem_set hi ..
  ·refine List.mem_of_getElem? (i:=j) ?_
   rw [List.getElem?_set_ne (fun e=>hj e.symm)]
   exact h
theorem loopF_cps {σ ρ τ:Type}{body:(σ→Option ρ)→σ→Option ρ} (Inv:σ→Prop) (μ:σ→Nat) (K:τ→Option ρ) (R:τ→Prop)
 (step:∀ (rec:σ→Option ρ) (s:σ),Inv s→(∀ s',Inv s' →μ s' < μ s→∃ t,rec s' =K t∧R t)→∃ t,body rec s=K t∧R t):
 ∀ (n:Nat) (s:σ),Inv s→μ s < n→∃ t,loopF body n s=K t∧R t:=by
 intro n
 induction n with
 | zero=>intro s _ h; omega
 | succ n ih=>intro s hs hn; exact step _ s hs fun s' h1 h2=>ih s' h1 (by omega)
abbrev Mt:=List (List Int)
structure Sq (n:Nat) (M:Mt):Prop where
 len:M.length=n+1
 rows:∀ r∈M,r.length=n+1
def mg (M:Mt) (i k:Nat):Int:=(M.getD i []).getD k 0
theorem Sq.row {n:Nat}{M:Mt} (h:Sq n M) {i:Nat} (hi:i≤n):getI M (i:Int)=some (M.getD i [])∧(M.getD i []).length=n+1∧M[i]? =some (M.getD i []):=by
 have hl:i < M.length:=by rw [h.len]; omega
 have e:M[i]? =some (M.getD i []):=by rw [List.getD_eq_getElem?_getD,List.getElem?_eq_getElem hl]; rfl
 exact ⟨by rw [getI_nat]; exact e,h.rows _ (List.mem_of_getElem? e),e⟩
theorem Sq.cell {n:Nat}{M:Mt} (h:Sq n M) {i k:Nat} (hi:i≤n) (hk:k≤n):getI (M.getD i []) (k:Int)=some (mg M i k):=by
 have hl:=(h.row hi).2.1
 have hkl:k < (M.getD i []).length:=by omega
 rw [getI_nat,mg,List.getD_eq_getElem?_getD (l:=M.getD i []),List.getElem?_eq_getElem hkl]; rfl
def upd2 (M:Mt) (i k:Nat) (v:Int):Mt:=M.set i ((M.getD i []).set k v)
theorem Sq.upd {n:Nat}{M:Mt} (h:Sq n M) {i k:Nat} (hi:i≤n) {v:Int}:Sq n (upd2 M i k v):=by
 refine ⟨by simp [upd2,h.len],fun r hr=>?_⟩
 have hl:i < M.length:=by rw [h.len]; omega
 rcases (mem_set_iff hl).1 hr with rfl | ⟨j,_,hj⟩
 ·rw [List.length_set]; exact (h.row hi).2.1
 ·exact h.rows _ (List.mem_of_getElem? hj)
theorem mg_upd {n:Nat}{M:Mt} (h:Sq n M) {i k i' k' :Nat} (hi:i≤n) (hk:k≤n) {v:Int}:mg (upd2 M i k v) i' k' =if i' =i∧k' =k then v else mg M i' k' :=by
 have hl:i < M.length:=by rw [h.len]; omega
 have hr:=(h.row hi).2.1
 have hkl:k < (M.getD i []).length:=by omega
 unfold mg upd2
 rw [List.getD_eq_getElem?_getD (l:=M.set i _),List.getElem?_set]
 by_cases e:i=i'
 ·subst e
  simp only [hl,if_true,Option.getD_some,true_and]
  rw [List.getD_eq_getElem?_getD (l:=(M.getD i []).set k v),List.getElem?_set]
  by_cases e2:k=k'
  ·subst e2; simp only [hkl,if_true,Option.getD_some]
  ·have e3:¬k' =k:=fun h=>e2 h.symm
   simp only [e2,e3,if_false]
   rw [← List.getD_eq_getElem?_getD]
 ·have e3:¬i' =i:=fun h=>e h.symm
  simp only [e,e3,if_false,false_and]
  rw [← List.getD_eq_getElem?_getD]
def mn (a b:Int):Int:=if b < a then b else a
theorem mn_le {a b:Int}:mn a b≤a∧mn a b≤b∧(mn a b=a∨mn a b=b):=by unfold mn; split <;> omega
structure RowStep (n via i:Nat) (M M' :Mt):Prop where
 sq:Sq n M'
 other:∀ i' k',i' ≠i→mg M' i' k' =mg M i' k'
 le:∀ k,mg M' i k≤mg M i k
 exact:(∀ i' k',i' ≤n→k' ≤n→-1000000000≤mg M i' k' ∧mg M i' k' ≤1000000000)→0≤mg M via via→∀ k,k≤n→mg M' i k=mn (mg M i k) (mg M i via+mg M via k)
theorem row_loop {b:TallyBook}{n via i:Nat}{M:Mt}{z5 z6:Mt×Int}{rec6:Mt×Int→Option (Mt×Bool)} (hT:b.Trips=n) (hn:n≤8) (hM:Sq n M) (hv:via≤n) (hi:i≤n) (h5:z5.2=via) (h6:z6.2=i):
 ∃ M',loopF (ref05_most_l82 b z6 z5 rec6) big (M,0)=rec6 (M',((i+1:Nat):Int))∧RowStep n via i M M' :=by
 refine loopF_cps (body:=ref05_most_l82 b z6 z5 rec6) (fun s:Mt×Int=>∃ k:Nat,s.2=k∧k≤n+1∧Sq n s.1∧(∀ i' k',i' ≠i→mg s.1 i' k' =mg M i' k')∧(∀ k',mg s.1 i k' ≤mg M i k')∧
  ((∀ i' k',i' ≤n→k' ≤n→-1000000000≤mg M i' k' ∧mg M i' k' ≤1000000000)→0≤mg M via via→∀ k',k' ≤n→mg s.1 i k' =if k' < k then mn (mg M i k') (mg M i via+mg M via k') else mg M i k'))
  (fun s=>n+1 - s.2.toNat) (fun M' :Mt=>rec6 (M',((i+1:Nat):Int))) (RowStep n via i M) ?_ big (M,0) ⟨0,rfl,by omega,hM,fun _ _ _=>rfl,fun _=>Int.le_refl _,fun _ _ k' _=>by simp⟩ (by unfold big; simp; omega)
 rintro rec ⟨N,z⟩ ⟨k,rfl,hk,hN,ho,hle,hex⟩ ih
 simp only at hN ho hle hex
 unfold ref05_most_l82
 simp only [hT,h5,h6]
 by_cases hlt:k≤n
 case neg=>
  rw [decide_eq_false (by omega),cond_false,wrI (x:=(i:Int)+1) (by omega) (by omega)]
  refine ⟨N,rfl,hN,ho,hle,fun hB h0 k' hk' =>?_⟩
  rw [hex hB h0 k' hk',if_pos (by omega)]
 rw [decide_eq_true (by omega),cond_true]
 simp only [(hN.row hi).1,(hN.row hv).1,hN.cell hi hlt,hN.cell hi hv,hN.cell hv hlt,Option.bind_some,Int.toNat_natCast]
 rw [wrI (x:=(k:Int)+1) (by omega) (by omega)]
 generalize hV:(if Fx.wr (mg N i via+mg N via k) < mg N i k then Fx.wr (mg N i via+mg N via k) else mg N i k)=V
 have hVle:V≤mg N i k:=by rw [← hV]; split <;> omega
 refine ih (upd2 N i k V,(k:Int)+1) ⟨k+1,by simp,by omega,hN.upd hi,fun i' k' hne=>?_,fun k' =>?_,fun hB h0 k' hk' =>?_⟩ (by (try simp only); omega)
 ·simp only
  rw [mg_upd hN hi hlt,if_neg (by intro h; exact hne h.1)]; exact ho i' k' hne
 ·simp only
  rw [mg_upd hN hi hlt]
  split
  ·rename_i h; rw [h.2]; exact Int.le_trans hVle (hle k)
  ·exact hle k'
 ·simp only
  rw [mg_upd hN hi hlt]
  have hex' :=hex hB h0
  by_cases e:k' =k
  ·subst e
   rw [if_pos ⟨rfl,rfl⟩,if_pos (by omega)]
   have e1:mg N i k' =mg M i k' :=by rw [hex' k' hk',if_neg (by omega)]
   have b1:=hB i via hi hv; have b2:=hB via k' hv hk'; have b3:=hB i k' hi hk'; have b4:=hB via via hv hv
   have e2:mg N i via=mg M i via:=by
    rw [hex' via hv]
    split
    ·have:=@mn_le (mg M i via) (mg M i via+mg M via via); unfold mn; split <;> omega
    ·rfl
   have e3:mg N via k' =mg M via k' :=by
    by_cases hvi:via=i
    ·subst hvi; exact e1
    ·exact ho via k' hvi
   rw [← hV,e1,e2,e3,wrI (by omega) (by omega)]
   rfl
  ·rw [if_neg (by intro h; exact e h.2),hex' k' hk']
   by_cases h1:k' < k
   ·rw [if_pos h1,if_pos (by omega)]
   ·rw [if_neg h1,if_neg (by omega)]
structure Stage (n via:Nat) (M M' :Mt):Prop where
 sq:Sq n M'
 le:∀ i k,i≤n→mg M' i k≤mg M i k
 exact:(∀ i' k',i' ≤n→k' ≤n→-1000000≤mg M i' k' ∧mg M i' k' ≤1000000)→0≤mg M via via→∀ i k,i≤n→k≤n→mg M' i k=mn (mg M i k) (mg M i via+mg M via k)
theorem via_loop {b:TallyBook}{n via:Nat}{M:Mt}{z5:Mt×Int}{rec5:Mt×Int→Option (Mt×Bool)} (hT:b.Trips=n) (hn:n≤8) (hM:Sq n M) (hv:via≤n) (h5:z5.2=via):
 ∃ M',loopF (ref05_most_l83 b z5 rec5) big (M,0)=rec5 (M',((via+1:Nat):Int))∧Stage n via M M' :=by
 refine loopF_cps (body:=ref05_most_l83 b z5 rec5) (fun s:Mt×Int=>∃ i:Nat,s.2=i∧i≤n+1∧Sq n s.1∧(∀ i' k',i' ≤n→mg s.1 i' k' ≤mg M i' k')∧
  ((∀ i' k',i' ≤n→k' ≤n→-1000000≤mg M i' k' ∧mg M i' k' ≤1000000)→0≤mg M via via→∀ i' k',i' ≤n→k' ≤n→mg s.1 i' k' =if i' < i then mn (mg M i' k') (mg M i' via+mg M via k') else mg M i' k'))
  (fun s=>n+1 - s.2.toNat) (fun M' :Mt=>rec5 (M',((via+1:Nat):Int))) (Stage n via M) ?_ big (M,0) ⟨0,rfl,by omega,hM,fun _ _ _=>Int.le_refl _,fun _ _ i' k' _ _=>by simp⟩ (by unfold big; simp; omega)
 rintro rec ⟨N,z⟩ ⟨i,rfl,hi,hN,hle,hex⟩ ih
 simp only at hN hle hex
 unfold ref05_most_l83
 simp only [hT,h5]
 by_cases hlt:i≤n
 case neg=>
  rw [decide_eq_false (by omega),cond_false,wrI (x:=(via:Int)+1) (by omega) (by omega)]
  refine ⟨N,rfl,hN,fun i k hi=>hle i k hi,fun hB h0 i' k' hi' hk' =>?_⟩
  rw [hex hB h0 i' k' hi' hk',if_pos (by omega)]
 rw [decide_eq_true (by omega),cond_true]
 obtain ⟨M',he,R⟩:=row_loop (z5:=z5) (z6:=(N,(i:Int))) (rec6:=rec) hT hn hN hv hlt h5 rfl
 rw [he]
 refine ih (M',((i+1:Nat):Int)) ⟨i+1,rfl,by omega,R.sq,fun i' k' hi' =>?_,fun hB h0 i' k' hi' hk' =>?_⟩ (by (try simp only); omega)
 ·simp only
  by_cases e:i' =i
  ·subst e; exact Int.le_trans (R.le k') (hle i' k' hi')
  ·rw [R.other i' k' e]; exact hle i' k' hi'
 ·simp only
  have hex' :=hex hB h0
  have hvr:∀ k,k≤n→mg N via k=mg M via k:=fun k hk=>by
   rw [hex' via k hv hk]
   split
   ·unfold mn; split <;> omega
   ·rfl
  by_cases e:i' =i
  ·subst e
   rw [if_pos (by omega),R.exact (fun p q hp hq=>?_) (by rw [hvr via hv]; exact h0) k' hk',hvr k' hk',hex' i' k' hi' hk',if_neg (by omega),hex' i' via hi' hv,if_neg (by omega)]
   rw [hex' p q hp hq]
   have b1:=hB p q hp hq; have b2:=hB p via hp hv; have b3:=hB via q hv hq
   unfold mn
   split
   ·split <;> omega
   ·omega
  ·rw [R.other i' k' e,hex' i' k' hi' hk']
   by_cases h1:i' < i
   ·rw [if_pos h1,if_pos (by omega)]
   ·rw [if_neg h1,if_neg (by omega)]
theorem diag_loop {b:TallyBook}{n:Nat}{M:Mt}{z5:Mt×Int} (hT:b.Trips=n) (hn:n≤8) (hM:Sq n M) (h5:z5.1=M):
 ∃ r,loopF (ref05_most_l84 b z5) big 0=some (M,r)∧(r=true↔∀ i,i≤n→0≤mg M i i):=by
 refine Exists.elim (loopF_inv (body:=ref05_most_l84 b z5) (fun s:Int=>∃ i:Nat,s=i∧i≤n+1∧∀ j,j < i→0≤mg M j j) (fun s=>n+1 - s.toNat) (fun r:Mt×Bool=>r.1=M∧(r.2=true↔∀ i,i≤n→0≤mg M i i)) ?_ big 0 ⟨0,rfl,by omega,fun j hj=>absurd hj (Nat.not_lt_zero j)⟩ (by unfold big; simp; omega)) fun r ⟨h1,h2,h3⟩=>⟨r.2,by rw [h1,← h2],h3⟩
 rintro rec z ⟨i,rfl,hi,hd⟩ ih
 unfold ref05_most_l84
 simp only [hT,h5]
 by_cases hlt:i≤n
 case neg=>
  rw [decide_eq_false (by omega),cond_false]
  exact ⟨_,rfl,rfl,by simp only [true_iff]; exact fun j hj=>hd j (by omega)⟩
 rw [decide_eq_true (by omega),cond_true]
 simp only [(hM.row hlt).1,hM.cell hlt hlt,Option.bind_some]
 by_cases h0:mg M i i < 0
 ·rw [decide_eq_true h0,cond_true]
  refine ⟨_,rfl,rfl,?_⟩
  simp only [Bool.false_eq_true,false_iff]
  intro h; have:=h i hlt; omega
 ·rw [decide_eq_false h0,cond_false,wrI (x:=(i:Int)+1) (by omega) (by omega)]
  refine ih _ ⟨i+1,by simp,by omega,fun j hj=>?_⟩ (by omega)
  by_cases e:j=i
  ·subst e; omega
  ·exact hd j (by omega)
def PM (n:Nat) (M:Mt) (p:Nat→Int):Prop:=∀ i k,i≤n→k≤n→p k - p i≤mg M i k
structure Clo (n:Nat) (M M' :Mt) (r:Bool):Prop where
 sq:Sq n M'
 le:∀ i k,i≤n→mg M' i k≤mg M i k
 pot:∀ p,PM n M p→r=true∧PM n M' p
 tri:r=true→(∀ i,i≤n→0≤mg M' i i)∧∀ i j k,i≤n→j≤n→k≤n→mg M' i k≤mg M' i j+mg M' j k
theorem vias {b:TallyBook}{n:Nat} (hT:b.Trips=n) (hn:n≤8) {M0:Mt} (hM0:Sq n M0) (hup:∀ i k,i≤n→k≤n→-3000≤mg M0 i k∧mg M0 i k≤3000):
 ∃ M' r,loopF (ref05_most_l85 b) big (M0,0)=some (M',r)∧Clo n M0 M' r:=by
 refine Exists.elim (loopF_inv (body:=ref05_most_l85 b) (fun s:Mt×Int=>∃ v:Nat,s.2=v∧v≤n+1∧Sq n s.1∧(∀ i k,i≤n→mg s.1 i k≤mg M0 i k)∧(∀ p,PM n M0 p→PM n s.1 p)∧
  ((∀ i,i≤n→0≤mg s.1 i i)→(∀ i k,i≤n→k≤n→-(3000*2 ^ v)≤mg s.1 i k)∧∀ j,j < v→∀ i k,i≤n→k≤n→mg s.1 i k≤mg s.1 i j+mg s.1 j k))
  (fun s=>n+1 - s.2.toNat) (fun r:Mt×Bool=>Clo n M0 r.1 r.2) ?_ big (M0,0) ⟨0,rfl,by omega,hM0,fun _ _ _=>Int.le_refl _,fun _ h=>h,fun _=>⟨fun i k hi hk=>by have:=hup i k hi hk; simp; omega,fun j hj=>absurd hj (Nat.not_lt_zero j)⟩⟩ (by unfold big; simp; omega)) fun r ⟨h1,h2⟩=>⟨r.1,r.2,h1,h2⟩
 rintro rec ⟨M,z⟩ ⟨v,rfl,hv,hM,hle,hpot,htri⟩ ih
 simp only at hM hle hpot htri
 unfold ref05_most_l85
 simp only [hT]
 by_cases hlt:v≤n
 case neg=>
  rw [decide_eq_false (by omega),cond_false]
  obtain ⟨r,hr,hd⟩:=diag_loop (z5:=(M,(v:Int))) hT hn hM rfl
  refine ⟨_,hr,hM,hle,fun p hp=>?_,fun h=>?_⟩
  ·have h1:=hpot p hp
   exact ⟨hd.2 fun i hi=>by have:=h1 i i hi hi; omega,h1⟩
  ·have h1:=hd.1 h
   exact ⟨h1,fun i j k hi hj hk=>(htri h1).2 j (by omega) i k hi hk⟩
 rw [decide_eq_true (by omega),cond_true]
 obtain ⟨M',he,S⟩:=via_loop (z5:=(M,(v:Int))) (rec5:=rec) hT hn hM hlt rfl
 rw [he]
 have p2:(2:Int) ^ v≤256∧1≤(2:Int) ^ v:=by
  have:v=0∨v=1∨v=2∨v=3∨v=4∨v=5∨v=6∨v=7∨v=8:=by omega
  rcases this with rfl | rfl | rfl | rfl | rfl | rfl | rfl | rfl | rfl <;> decide
 refine ih (M',((v+1:Nat):Int)) ⟨v+1,rfl,by omega,S.sq,fun i k hi=>Int.le_trans (S.le i k hi) (hle i k hi),fun p hp=>?_,fun hd=>?_⟩ (by (try simp only); omega)
 ·
  have h1:=hpot p hp
  have h0:=hp
  have hb:∀ i' k',i' ≤n→k' ≤n→-1000000≤mg M i' k' ∧mg M i' k' ≤1000000:=fun i k hi hk=>by
   have a1:=h1 i k hi hk; have a2:=hle i k hi; have a3:=hup i k hi hk; have a4:=h0 k i hk hi; have a5:=hup k i hk hi
   omega
  have hvv:0≤mg M v v:=by have:=h1 v v hlt hlt; omega
  intro i k hi hk
  simp only
  rw [S.exact hb hvv i k hi hk]
  have a1:=h1 i k hi hk; have a2:=h1 i v hi hlt; have a3:=h1 v k hlt hk
  unfold mn; split <;> omega
 ·simp only at hd ⊢
  have hd0:∀ i,i≤n→0≤mg M i i:=fun i hi=>Int.le_trans (hd i hi) (S.le i i hi)
  obtain ⟨hlo,ht⟩:=htri hd0
  have hb:∀ i' k',i' ≤n→k' ≤n→-1000000≤mg M i' k' ∧mg M i' k' ≤1000000:=fun i k hi hk=>by
   have a1:=hlo i k hi hk; have a2:=hle i k hi; have a3:=hup i k hi hk
   omega
  have ex:=S.exact hb (hd0 v hlt)
  refine ⟨fun i k hi hk=>?_,fun j hj i k hi hk=>?_⟩
  ·rw [ex i k hi hk,Int.pow_succ]
   have a1:=hlo i k hi hk; have a2:=hlo i v hi hlt; have a3:=hlo v k hlt hk
   unfold mn; split <;> omega
  ·have hjn:j≤n:=by omega
   rw [ex i k hi hk,ex i j hi hjn,ex j k hjn hk]
   have v0:=hd0 v hlt
   by_cases e:j=v
   ·subst e
    unfold mn
    (repeat' split) <;> omega
   ·have hjv:j < v:=by omega
    have t1:=ht j hjv i k hi hk; have t2:=ht j hjv i v hi hlt; have t3:=ht j hjv v k hlt hk; have t4:=ht j hjv v v hlt hlt
    unfold mn
    (repeat' split) <;> omega
end Go.Proofs.YtafhljljfglfeaaGreatDoor
namespace Go.Proofs.YtafhljljfglfeaaGreatDoor
open Go Go.Fx Go.Tally
def e0 (r:Int) (i k:Nat):Int:=if k=i then 0 else if k=i+1 then r else if k+1=i then 0 else 481
def row0 (r:Int) (n i:Nat):List Int:=(List.range n).map (e0 r i)
theorem row0_succ (r:Int) (n i:Nat):row0 r (n+1) i=row0 r n i++[e0 r i n]:=by simp [row0,List.range_succ]
theorem row_eq {b:TallyBook}{n i:Nat}{M:Mt}{z1:Mt×Int}{rec1:Mt×Int→Option (Mt×Bool)} (hT:b.Trips=n) (hn:n≤8) (hi:i≤n) (h1:z1=(M,(i:Int))) (hM:M.length≤100):
 loopF (ref05_most_l71 b z1 rec1) big (([]:List Int),0)=rec1 (M++[row0 b.Room (n+1) i],((i+1:Nat):Int)):=by
 subst h1
 have:=loopF_cps (body:=ref05_most_l71 b (M,(i:Int)) rec1) (fun s:List Int×Int=>∃ k:Nat,k≤n+1∧s=(row0 b.Room k i,(k:Int))) (fun s=>n+1 - s.2.toNat) (fun _:Unit=>rec1 (M++[row0 b.Room (n+1) i],((i+1:Nat):Int))) (fun _=>True) ?_ big ([],0) ⟨0,by omega,rfl⟩ (by unfold big; simp; omega)
 ·obtain ⟨_,h,_⟩:=this; exact h
 rintro rec z ⟨k,hk,rfl⟩ ih
 unfold ref05_most_l71
 simp only [hT]
 by_cases hlt:k≤n
 case neg=>
  have hk' :k=n+1:=by omega
  subst hk'
  rw [decide_eq_false (by omega),cond_false,need_of (fits_small (by simp; omega) (by omega)),wrI (x:=(i:Int)+1) (by omega) (by omega)]
  exact ⟨(),rfl,trivial⟩
 rw [decide_eq_true (by omega),cond_true]
 have go:∀ v,v=e0 b.Room i k→∃ t:Unit,ref05_most_j70 (row0 b.Room k i,(k:Int)) rec v=rec1 (M++[row0 b.Room (n+1) i],((i+1:Nat):Int))∧True:=by
  rintro v rfl
  unfold ref05_most_j70
  rw [need_of (fits_small (by simp [row0]; omega) (by omega))]
  simp only
  rw [wrI (x:=(k:Int)+1) (by omega) (by omega),← row0_succ]
  exact ih _ ⟨k+1,by omega,by simp⟩ (by (try simp only); omega)
 rw [wrI (x:=(i:Int)+1) (by omega) (by omega),wrI (x:=(i:Int) - 1) (by omega) (by omega)]
 by_cases c1:k=i
 ·rw [show ((k:Int)==(i:Int))=true by simp; omega,cond_true]
  exact go 0 (by unfold e0; rw [if_pos c1])
 rw [show ((k:Int)==(i:Int))=false by simp; omega,cond_false]
 by_cases c2:k=i+1
 ·rw [show ((k:Int)==(i:Int)+1)=true by simp; omega,cond_true]
  exact go b.Room (by unfold e0; rw [if_neg c1,if_pos c2])
 rw [show ((k:Int)==(i:Int)+1)=false by simp; omega,cond_false]
 by_cases c3:k+1=i
 ·rw [show ((k:Int)==(i:Int) - 1)=true by simp; omega,cond_true]
  exact go 0 (by unfold e0; rw [if_neg c1,if_neg c2,if_pos c3])
 rw [show ((k:Int)==(i:Int) - 1)=false by simp; omega,cond_false]
 exact go 481 (by unfold e0; rw [if_neg c1,if_neg c2,if_neg c3])
def M0 (r:Int) (n m:Nat):Mt:=(List.range m).map (row0 r n)
theorem M0_succ (r:Int) (n m:Nat):M0 r n (m+1)=M0 r n m++[row0 r n m]:=by simp [M0,List.range_succ]
theorem M0_sq (r:Int) (n:Nat):Sq n (M0 r (n+1) (n+1)):=by
 refine ⟨by simp [M0],fun x hx=>?_⟩
 obtain ⟨i,_,rfl⟩:=List.mem_map.1 hx
 simp [row0]
theorem M0_get (r:Int) {n i k:Nat} (hi:i≤n) (hk:k≤n):mg (M0 r (n+1) (n+1)) i k=e0 r i k:=by
 have h1:i < n+1:=by omega
 have h2:k < n+1:=by omega
 simp [mg,M0,row0,List.getD,h1,h2]
theorem steps_all {b:TallyBook} (V:Bk b) {p:Nat→Int} (h:Steps b.Trips b.Room p) {i k:Nat} (hi:(i:Int)≤b.Trips) (hk:(k:Int)≤b.Trips):p k - p i≤e0 b.Room i k:=by
 have t8:=V.t8
 unfold e0
 split
 ·rename_i e; subst e; omega
 ·split
  ·rename_i e; subst e
   have:=(h i (by omega)).1
   omega
  ·split
   ·rename_i e; subst e
    have:=(h k (by omega)).2
    omega
   ·rcases Nat.le_total i k with hik | hki
    ·have:=steps_bnd V.t8 V.r0 V.r60 h (k - i) i (by omega)
     rw [show i+(k - i)=k by omega] at this
     have r2:=room_mul V (n:=((k - i:Nat):Int)) (by omega) (by omega)
     omega
    ·have:=steps_bnd V.t8 V.r0 V.r60 h (i - k) k (by omega)
     rw [show k+(i - k)=i by omega] at this
     omega
theorem pm0 {b:TallyBook} (V:Bk b) {n:Nat} (hT:b.Trips=n) {p:Nat→Int}:PM n (M0 b.Room (n+1) (n+1)) p↔Steps b.Trips b.Room p:=by
 constructor
 ·intro h k hk
  have h1:=h k (k+1) (by omega) (by omega)
  have h2:=h (k+1) k (by omega) (by omega)
  rw [M0_get _ (by omega) (by omega)] at h1 h2
  unfold e0 at h1 h2
  rw [if_neg (by omega),if_pos rfl] at h1
  rw [if_neg (by omega),if_neg (by omega),if_pos rfl] at h2
  exact ⟨by omega,by omega⟩
 ·intro h i k hi hk
  rw [M0_get _ hi hk]
  exact steps_all V h (by omega) (by omega)
theorem pm_upd {n:Nat}{M:Mt} (h:Sq n M) {i k:Nat} (hi:i≤n) (hk:k≤n) {v:Int}{p:Nat→Int}:PM n (upd2 M i k (mn (mg M i k) v)) p↔PM n M p∧p k - p i≤v:=by
 have hm:=@mn_le (mg M i k) v
 constructor
 ·intro hp
  refine ⟨fun i' k' hi' hk' =>?_,?_⟩
  ·have:=hp i' k' hi' hk'
   rw [mg_upd h hi hk] at this
   split at this
   ·rename_i e; rw [e.1,e.2] at *; omega
   ·exact this
  ·have:=hp i k hi hk
   rw [mg_upd h hi hk,if_pos ⟨rfl,rfl⟩] at this
   omega
 ·rintro ⟨hp,hv⟩ i' k' hi' hk'
  rw [mg_upd h hi hk]
  split
  ·rename_i e; rw [e.1,e.2]
   have:=hp i k hi hk
   rcases hm.2.2 with e | e <;> omega
  ·exact hp i' k' hi' hk'
theorem bnd_upd {n:Nat}{M:Mt} (h:Sq n M) {i k:Nat} (hi:i≤n) (hk:k≤n) {v:Int} (hv:-3000≤v) (hb:∀ i k,i≤n→k≤n→-3000≤mg M i k∧mg M i k≤3000):∀ i' k',i' ≤n→k' ≤n→-3000≤mg (upd2 M i k (mn (mg M i k) v)) i' k' ∧mg (upd2 M i k (mn (mg M i k) v)) i' k' ≤3000:=by
 intro i' k' hi' hk'
 rw [mg_upd h hi hk]
 have hm:=@mn_le (mg M i k) v
 have:=hb i k hi hk
 split
 ·rcases hm.2.2 with e | e <;> omega
 ·exact hb i' k' hi' hk'
theorem counts_loop {b:TallyBook} (V:Bk b) {n:Nat} (hT:b.Trips=n):
 ∃ M,loopF (ref05_most_l86 b) big (M0 b.Room (n+1) (n+1),0)=loopF (ref05_most_l85 b) big (M,0)∧Sq n M∧(∀ i k,i≤n→k≤n→-3000≤mg M i k∧mg M i k≤3000)∧(∀ i,i≤n→mg M i i≤0)∧∀ p,PM n M p↔Fit b no p:=by
 have t8:=V.t8; have l9:=V.l9; have r0:=V.r0; have r60:=V.r60
 refine loopF_cps (body:=ref05_most_l86 b) (fun s:Mt×Int=>∃ c:Nat,s.2=c∧c≤b.Counts.length∧Sq n s.1∧(∀ i k,i≤n→k≤n→-3000≤mg s.1 i k∧mg s.1 i k≤3000)∧(∀ i,i≤n→mg s.1 i i≤0)∧∀ p,PM n s.1 p↔Steps b.Trips b.Room p∧∀ j x,j < c→b.Counts[j]? =some x→CntQ x p)
  (fun s=>b.Counts.length - s.2.toNat) (fun M:Mt=>loopF (ref05_most_l85 b) big (M,0)) (fun M=>Sq n M∧(∀ i k,i≤n→k≤n→-3000≤mg M i k∧mg M i k≤3000)∧(∀ i,i≤n→mg M i i≤0)∧∀ p,PM n M p↔Fit b no p) ?_ big _
  ⟨0,rfl,by omega,M0_sq _ _,fun i k hi hk=>by simp only; rw [M0_get _ hi hk]; unfold e0; (repeat' split) <;> omega,fun i hi=>by simp only; rw [M0_get _ hi hi]; unfold e0; rw [if_pos rfl]; omega,fun p=>by simp only; rw [pm0 V hT]; simp⟩ (by unfold big; simp; omega)
 rintro rec ⟨M,z⟩ ⟨c,rfl,hc,hM,hb,hd,hp⟩ ih
 simp only at hM hb hd hp
 unfold ref05_most_l86
 simp only
 by_cases hlt:c < b.Counts.length
 case neg=>
  have he:c=b.Counts.length:=by omega
  subst he
  rw [decide_eq_false (by omega),cond_false]
  refine ⟨M,rfl,hM,hb,hd,fun p=>?_⟩
  rw [hp]
  refine and_congr_right fun _=>?_
  constructor
  ·intro h j x hx _; exact h j x (List.getElem?_eq_some_iff.1 hx).1 hx
  ·intro h j x _ hx; exact h j x hx rfl
 rw [decide_eq_true (by omega),cond_true,getI_nat,List.getElem?_eq_getElem hlt,Option.bind_some]
 have hx:b.Counts[c]? =some b.Counts[c]:=List.getElem?_eq_getElem hlt
 generalize b.Counts[c]=x at hx
 have C:=cnt_iff.1 (V.cs x (List.mem_of_getElem? hx))
 have hbn:=C.bnds
 have f0:=C.f0; have ft:=C.ft; have tT:=C.tT
 obtain ⟨f,hf⟩:∃ f:Nat,x.From=f:=⟨x.From.toNat,by omega⟩
 obtain ⟨t,ht⟩:∃ t:Nat,x.To+1=t:=⟨(x.To+1).toNat,by omega⟩
 rw [span_eq C,Option.bind_some,wrI (x:=x.To+1) (by omega) (by omega),wrI (x:=-leastV x) (by omega) (by omega),ht,hf]
 have hfn:f≤n:=by omega
 have htn:t≤n:=by omega
 simp only [(hM.row hfn).1,hM.cell hfn htn,Option.bind_some,Int.toNat_natCast]
 have e1:M.set f ((M.getD f []).set t (if mostV x < mg M f t then mostV x else mg M f t))=upd2 M f t (mn (mg M f t) (mostV x)):=rfl
 rw [e1]
 have hM1:=hM.upd (i:=f) (k:=t) hfn (v:=mn (mg M f t) (mostV x))
 have hb1:=bnd_upd hM hfn htn (v:=mostV x) (by omega) hb
 have hp1:∀ p,PM n (upd2 M f t (mn (mg M f t) (mostV x))) p↔_:=fun p=>pm_upd hM hfn htn
 have hd1:∀ i,i≤n→mg (upd2 M f t (mn (mg M f t) (mostV x))) i i≤0:=fun i hi=>by
  rw [mg_upd hM hfn htn,if_neg (by omega)]; exact hd i hi
 generalize upd2 M f t (mn (mg M f t) (mostV x))=M1 at hM1 hb1 hp1 hd1
 simp only [(hM1.row htn).1,hM1.cell htn hfn,Option.bind_some]
 have e2:M1.set t ((M1.getD t []).set f (if -leastV x < mg M1 t f then -leastV x else mg M1 t f))=upd2 M1 t f (mn (mg M1 t f) (-leastV x)):=rfl
 rw [e2,wrI (x:=(c:Int)+1) (by omega) (by omega)]
 refine ih (_,(c:Int)+1) ⟨c+1,by simp,by omega,hM1.upd htn,bnd_upd hM1 htn hfn (by omega) hb1,fun i hi=>?_,fun p=>?_⟩ (by (try simp only); omega)
 ·simp only
  rw [mg_upd hM1 htn hfn,if_neg (by omega)]; exact hd1 i hi
 ·simp only
  rw [pm_upd hM1 htn hfn,hp1,hp]
  have hq:CntQ x p↔p t - p f≤mostV x∧p f - p t≤-leastV x:=by
   unfold CntQ
   rw [ht,hf,Int.toNat_natCast,Int.toNat_natCast]
   constructor
   ·rintro ⟨a,b⟩; exact ⟨by omega,by omega⟩
   ·rintro ⟨a,b⟩; exact ⟨by omega,by omega⟩
  constructor
  ·rintro ⟨⟨⟨h1,h2⟩,h3⟩,h4⟩
   refine ⟨h1,fun j y hj hy=>?_⟩
   by_cases e:j=c
   ·subst e; rw [hx] at hy; cases hy; exact hq.2 ⟨h3,h4⟩
   ·exact h2 j y (by omega) hy
  ·rintro ⟨h1,h2⟩
   have:=hq.1 (h2 c x (by omega) hx)
   exact ⟨⟨⟨h1,fun j y hj hy=>h2 j y (by omega) hy⟩,this.1⟩,this.2⟩
structure Tab (b:TallyBook) (n:Nat) (M:Mt) (r:Bool):Prop where
 sq:Sq n M
 can:r=true↔CanBe b
 spn:r=true→∀ a c,a≤n→c≤n→Spn (Fit b no) a c (-(mg M c a)) (mg M a c)
theorem most_tab {b:TallyBook} (V:Bk b) {n:Nat} (hT:b.Trips=n):∃ M r,ref05_most b=some (M,r)∧Tab b n M r:=by
 have t8:=V.t8; have t1:=V.t1
 obtain ⟨M1,e1,q1,q2,q3,q4⟩:=counts_loop V hT
 obtain ⟨M',r,e2,C⟩:=vias hT (by omega) q1 q2
 have hmost:ref05_most b=some (M',r):=by
  unfold ref05_most
  have:=loopF_cps (body:=ref05_most_l87 b) (fun s:Mt×Int=>∃ k:Nat,k≤n+1∧s=(M0 b.Room (n+1) k,(k:Int))) (fun s=>n+1 - s.2.toNat) (fun _:Unit=>some (M',r)) (fun _=>True) ?_ big ([],0) ⟨0,by omega,rfl⟩ (by unfold big; simp; omega)
  ·obtain ⟨_,h,_⟩:=this; exact h
  rintro rec z ⟨k,hk,rfl⟩ ih
  unfold ref05_most_l87
  simp only [hT]
  by_cases hlt:k≤n
  case neg=>
   have hk' :k=n+1:=by omega
   subst hk'
   rw [decide_eq_false (by omega),cond_false,e1,e2]
   exact ⟨(),rfl,trivial⟩
  rw [decide_eq_true (by omega),cond_true,row_eq hT (by omega) hlt rfl (by simp [M0]; omega),← M0_succ]
  exact ih _ ⟨k+1,by omega,rfl⟩ (by (try simp only); omega)
 have own:r=true→∀ a,a≤n→PM n M1 (fun k=>mg M' a k):=fun hr a ha i k hi hk=>by
  have:=(C.tri hr).2 a i k ha hi hk
  have:=C.le i k hi
  show mg M' a k - mg M' a i≤_
  omega
 have zero:r=true→∀ a,a≤n→mg M' a a=0:=fun hr a ha=>by
  have h1:=(C.tri hr).1 a ha
  have h2:=C.le a a ha
  have h3:=q3 a ha
  omega
 refine ⟨M',r,hmost,C.sq,⟨fun hr=>⟨_,(q4 _).1 (own hr 0 (by omega))⟩,fun ⟨p,hp⟩=>(C.pot p ((q4 p).2 hp)).1⟩,fun hr a c ha hc=>⟨⟨_,(q4 _).1 (own hr c hc),?_⟩,⟨_,(q4 _).1 (own hr a ha),?_⟩,fun p hp=>?_⟩⟩
 ·have:=zero hr c hc; show mg M' c c - mg M' c a=_; omega
 ·have:=zero hr a ha; show mg M' a c - mg M' a a=_; omega
 ·have h1:=(C.pot p ((q4 p).2 hp)).2
  have h2:=h1 a c ha hc; have h3:=h1 c a hc ha
  omega
end Go.Proofs.YtafhljljfglfeaaGreatDoor
namespace Go.Proofs.YtafhljljfglfeaaGreatDoor
open Go Go.Fx
def crossQ (T:Nat) (q:Nat→Int):List Int:=(List.range 3).map fun d=>if d < T then q (d+1) - q d else 0
theorem crossQ_get {T:Nat}{q:Nat→Int}{d:Nat} (h:d < 3):(crossQ T q).getD d 0=if d < T then q (d+1) - q d else 0:=by
 unfold crossQ
 rw [List.getD_eq_getElem?_getD,List.getElem?_map,List.getElem?_range h]; rfl
theorem crossQ_out {T:Nat}{q:Nat→Int}{d:Nat} (h:T≤d):(crossQ T q).getD d 0=0:=by
 by_cases h3:d < 3
 ·rw [crossQ_get h3,if_neg (by omega)]
 ·rw [List.getD_eq_getElem?_getD,List.getElem?_eq_none (by unfold crossQ; simp; omega)]; rfl
theorem zer_get (d:Nat):zer.getD d 0=0:=by
 rw [List.getD_eq_getElem?_getD]
 unfold zer
 rw [List.getElem?_replicate]
 split <;> rfl
theorem pre_cross {T:Nat}{q:Nat→Int} (hT:T≤3):∀ n:Nat,n≤T→pre ((crossQ T q).take T) n=q n - q 0
 | 0,_=>by simp [pre]
 | n+1,h=>by
   have hl:n < (crossQ T q).length:=by unfold crossQ; simp; omega
   have hg:((crossQ T q).take T)[n]? =some ((crossQ T q).getD n 0):=by
    rw [List.getElem?_take_of_lt (by omega),List.getD_eq_getElem?_getD,List.getElem?_eq_getElem hl]; rfl
   rw [pre_succ hg,pre_cross hT n (by omega),crossQ_get (by omega),if_pos (by omega)]
   omega
theorem fit_cross {b:TallyBook} (V:Val b) (t3:b.Trips≤3) {q:Nat→Int} (h:Fit b no q):Fit b no (pre ((crossQ b.Trips.toNat q).take b.Trips.toNat)):=by
 refine ⟨fun k hk=>?_,fun i x hx ho=>?_⟩
 ·rw [pre_cross (by omega) _ (by omega),pre_cross (by omega) _ (by omega)]
  have:=h.1 k hk
  omega
 ·have hc:=cnt_iff.1 (V.cs x (List.mem_of_getElem? hx))
  have hf:=hc.f0; have ht:=hc.ft; have hT:=hc.tT
  have:=h.2 i x hx ho
  unfold CntQ at this ⊢
  rw [pre_cross (by omega) _ (by omega),pre_cross (by omega) _ (by omega)]
  omega
theorem tr_of {b:TicketBook} (V:VT b) {q:Nat→Int} (h:Fit b.Tally no q):Tr b [] [] ⟨crossQ b.Tally.Trips.toNat q,zer⟩:=by
 have t3:=V.t3; have t1:=V.ta.t1
 refine ⟨fun x hx=>by simp at hx,by show (crossQ _ _).length=3; unfold crossQ; simp,rfl,fun d hd=>?_,fun d hd=>crossQ_out (by omega),fun d _=>zer_get d,fun d=>by rw [show (Ticket_truth.mk (crossQ b.Tally.Trips.toNat q) zer).used_=zer from rfl,zer_get]; omega,fun d hd=>?_,fun d hd=>?_,fun x hx=>by simp at hx,fit_cross V.ta V.t3 h,fun x hx=>by simp at hx⟩
 ·have:=h.1 d hd
  show 0≤(crossQ b.Tally.Trips.toNat q).getD d 0∧(crossQ b.Tally.Trips.toNat q).getD d 0≤_
  rw [crossQ_get (by omega),if_pos (by omega)]
  omega
 ·intro n hn
  rw [show (Ticket_truth.mk (crossQ b.Tally.Trips.toNat q) zer).used_=zer from rfl,zer_get] at hn
  simp at hn
 ·have:=h.1 d hd
  rw [show (Ticket_truth.mk (crossQ b.Tally.Trips.toNat q) zer).used_=zer from rfl,zer_get]
  show popN (0:Int).toNat≤(crossQ b.Tally.Trips.toNat q).getD d 0
  rw [crossQ_get (by omega),if_pos (by omega),show popN (0:Int).toNat=0 from rfl]
  omega
end Go.Proofs.YtafhljljfglfeaaGreatDoor
namespace Go.Proofs.YtafhljljfglfeaaGreatDoor
open Go Go.Fx Go.Proofs
def law_TicketWrongs (a0:TicketBook) (a1:TicketBox):Option Bool:=
 (B_OwnTicket a0).bind fun r22=>
 (law_ticketWrongs r22 a0 a1).bind fun r48=>
 bif r48 then ((B_KeptTicket r22 a0).bind fun r53=>
 bif r53 then ((law_punched).bind fun r58=>
 some r58)
 else (some false))
 else (some false)
set_option maxRecDepth 100000 in
theorem law_TicketWrongs_ok {a0:TicketBook}{a1:TicketBox}{A1:Option Addr}{c2:Nat}{A4:Option Addr}{c5:Nat}{A7:Option Addr}{c8:Nat}{A10:Option Addr}{c11:Nat}{w:World}{r:Bool} (H:law_TicketWrongs a0 a1=some r) (h3:(rd eTallyCount 7 A1 c2 a0.Tally.Counts).ok w) (h6:(rd eTicketSeason 2 A4 c5 a0.Tickets).ok w) (h9:(rd eTicketShow 3 A7 c8 a0.Shows).ok w) (h12:(rd eTicketBox 4 A10 c11 a0.Boxes).ok w) (hg13:(gW0).ok w) (hg14:(gW1).ok w) (hg15:(gW2).ok w):Calls Tryz.prog 5 #[AG (vB a0 A1 c2 A4 c5 A7 c8 A10 c11),AG [I a1.From,I a1.To,I a1.Pence,I a1.Lost]] w (RetV w (B r)):=by
 unfold law_TicketWrongs at H
 refine fn_of (n:=20) Tryz.func5 rfl rfl (lE rfl) ?_
 have S:=St.start w nF _ (cA h3 (cA h6 (cA h9 (cA h12 (cA hg13 (cA hg14 (cA hg15 nM)))))))
 refine c_seq<|reg<|p_boxA rfl S fun b16 w17 S18=>p_boxA rfl S18 fun b19 w20 S21=>p_aB rfl<|wp_nil<|c_seq<|reg<|p_ldA ty29 sz29 (S21.atX (i:=1) rfl) rfl rfl ?_
 obtain ⟨r22,h23,H⟩:=bindS H
 refine p_cal (B_OwnTicket_ok h23 (S21.atP (i:=0) rfl) (S21.atP (i:=1) rfl) (S21.atP (i:=2) rfl) (S21.atP (i:=3) rfl)) fu6 rfl ?_
 rintro _ w24 ⟨A26,c27,A28,c29,A30,c31,A32,c33,rfl,k25,⟨o34,n35⟩,⟨o36,n37⟩,⟨o38,n39⟩,⟨o40,n41⟩,_⟩
 have S42:=S21.callN k25 [rd eTallyCount 7 A26 c27 r22.Tally.Counts,rd eTicketSeason 2 A28 c29 r22.Tickets,rd eTicketShow 3 A30 c31 r22.Shows,rd eTicketBox 4 A32 c33 r22.Boxes] (cA ⟨o34,New.inL n35⟩ (cA ⟨o36,New.inL n37⟩ (cA ⟨o38,New.inL n39⟩ (cA ⟨o40,New.inL n41⟩ nM))))
 refine p_allA in29 S42 fun b43 w44 S45=>?_
 refine p_stP (pre:=[]) (old:=[I 0,I 0,SL none 0 0,I 0,SL none 0 0,SL none 0 0,SL none 0 0]) (post:=[]) (vs:=(vB r22 A26 c27 A28 c29 A30 c31 A32 c33)) sz29 S45 (i:=0) rfl rfl rfl rfl (rfl:_=AG (vB r22 A26 c27 A28 c29 A30 c31 A32 c33)) rfl rfl rfl rfl fun w46 S47=>?_
 refine wp_nil<|c_seq<|reg<|p_ldA ty29 sz29 (S47.atX (i:=0) rfl) rfl rfl<|p_ldA ty29 sz29 (S47.atX (i:=2) rfl) rfl rfl<|p_ldA ty39 sz39 (S47.atX (i:=1) rfl) rfl rfl ?_
 obtain ⟨r48,h49,H⟩:=bindS H
 refine p_cv (law_ticketWrongs_ok h49 (S47.atP (i:=0) rfl) (S47.atP (i:=1) rfl) (S47.atP (i:=2) rfl) (S47.atP (i:=3) rfl) (S47.atP (i:=4) rfl) (S47.atP (i:=5) rfl) (S47.atP (i:=6) rfl) (S47.atP (i:=7) rfl) (S47.atP (i:=8) rfl) (S47.atP (i:=10) rfl)) fu11 rfl S47 fun w50 S51=>p_mB rfl ?_
 rcases bE (r48) with c52 | c52
 ·replace H:=condT c52 H
  refine eB c52 ?_
  refine gT rfl rfl (p_ldA ty29 sz29 (S51.atX (i:=0) rfl) rfl rfl ?_)
  refine gT rfl rfl (p_ldA ty29 sz29 (S51.atX (i:=2) rfl) rfl rfl ?_)
  obtain ⟨r53,h54,H⟩:=bindS H
  refine gT rfl rfl (p_cv (B_KeptTicket_ok h54 (S51.atP (i:=0) rfl) (S51.atP (i:=1) rfl) (S51.atP (i:=2) rfl) (S51.atP (i:=3) rfl) (S51.atP (i:=4) rfl) (S51.atP (i:=5) rfl) (S51.atP (i:=6) rfl) (S51.atP (i:=7) rfl)) fu8 rfl S51 fun w55 S56=>?_)
  refine p_pkT rfl (rfl:_=B r53)<|p_mB rfl ?_
  rcases bE (r53) with c57 | c57
  ·replace H:=condT c57 H
   refine eB c57 ?_
   obtain ⟨r58,h59,H⟩:=bindS H
   refine gT rfl rfl (p_cv (law_punched_ok h59 (S56.atP (i:=8) rfl) (S56.atP (i:=9) rfl) (S56.atP (i:=10) rfl)) fu9 rfl S56 fun w60 S61=>?_)
   refine p_pkT rfl (rfl:_=B r58)<|p_aB rfl<|wp_nil ?_
   obtain rfl:=sJ H
   exact c_ret (rT Tryz.f5 S61.keep rfl rfl)
  ·replace H:=condF c57 H
   refine eB c57<|gF rfl rfl<|p_pkF rfl (rfl:_=B false)<|p_aB rfl<|wp_nil ?_
   obtain rfl:=sJ H
   exact c_ret (rT Tryz.f5 S56.keep rfl rfl)
 ·replace H:=condF c52 H
  refine eB c52<|gF rfl rfl<|gF rfl rfl<|gF rfl rfl<|p_pkF rfl (rfl:_=B false)<|p_mB rfl<|gF rfl rfl<|p_pkF rfl (rfl:_=B false)<|p_aB rfl<|wp_nil ?_
  obtain rfl:=sJ H
  exact c_ret (rT Tryz.f5 S51.keep rfl rfl)
end Go.Proofs.YtafhljljfglfeaaGreatDoor
namespace Go.Proofs.YtafhljljfglfeaaGreatDoor
open Go Go.Fx
theorem fits_sameT (b:TicketBook) (A:ArgT b) (x:TicketBox):∃ r,ticket_Fits b x=some r∧ref10_Fits b x=some r:=by
 cases hv:valT b with
 | false=>
   refine ⟨(false,100),?_,?_⟩
   ·have i1:∃ o,ticket_isBox b x=some o:=by
     unfold ticket_isBox ticket_isTrip
     simp only [withinT_eq,Option.bind_some]
     cases inB x.From 0 (wr (b.Tally.Trips - 1)) with
     | false=>exact ⟨_,rfl⟩
     | true=>cases inB x.To 0 (wr (b.Tally.Trips - 1)) <;> cases decide (x.From≤x.To) <;> cases inB x.Pence 0 400 <;> exact ⟨_,rfl⟩
    obtain ⟨o,ho⟩:=i1
    obtain ⟨y,hy⟩:=asked_badT A hv o
    unfold ticket_Fits
    rw [ho,Option.bind_some,hy]; rfl
   ·have i1:∃ o,ref10_isBox b x=some o:=by
     unfold ref10_isBox ref10_trips ref10_isTrip
     simp only [inside_eq,Option.bind_some]
     cases inB x.From 0 (wr (b.Tally.Trips - 1)) with
     | false=>exact ⟨_,rfl⟩
     | true=>cases inB x.To 0 (wr (b.Tally.Trips - 1)) <;> cases decide (x.From≤x.To) <;> cases inB x.Pence 0 400 <;> exact ⟨_,rfl⟩
    obtain ⟨o,ho⟩:=i1
    unfold ref10_Fits
    rw [ho,Option.bind_some,rasked_badT A hv]; rfl
 | true=>
   have V:=valT_iff.1 hv
   have t1:=V.ta.t1
   cases hb:boxB b.Tally.Trips x with
   | false=>
     refine ⟨(false,101),fitsT_no V hb,?_⟩
     unfold ref10_Fits
     rw [rboxT b t1 V.ta.t8,Option.bind_some,hb,rasked_noT V]; rfl
   | true=>
     have B:=box_iff.1 hb
     obtain ⟨r,e,hp,hc⟩:=fits_law V B
     obtain ⟨L,e',ha,hc'⟩:=raskedT V
     refine ⟨(r,e),hp,?_⟩
     unfold ref10_Fits
     rw [rboxT b t1 V.ta.t8,Option.bind_some,hb,ha,Option.bind_some]
     rcases hc with ⟨rfl,C,hi⟩ | ⟨rfl,rfl,C⟩
     ·rcases hc' with ⟨rfl,_,hn,T⟩ | ⟨_,_,C'⟩
      rotate_left
      ·exact absurd C C'
      simp only [bne_self_eq_false,cond_false]
      have pd:∀ y∈L,ref10_right b y x=some (fitsN b.Fare y.crossed_ y.used_ x):=fun y hy=>rright V (((T.2 y).1 hy).2.pre V) B (by have:=B.tT; omega)
      have lp:=loop_allL (body:=ref10_Fits_l1 (L,0) b x) L (fun y=>!fitsN b.Fare y.crossed_ y.used_ x) (Rf:=some (true,0)) (Rt:=some (false,0)) (fun rec k hk=>by
       unfold ref10_Fits_l1
       simp only
       have:=T.1
       rw [decide_eq_true (by omega),cond_true,getI_nat,List.getElem?_eq_getElem hk,Option.bind_some,pd _ (List.getElem_mem hk),Option.bind_some,wrI (by omega) (by omega),show (k:Int)+1=((k+1:Nat):Int) by omega]
       cases fitsN b.Fare L[k].crossed_ L[k].used_ x <;> rfl) (fun rec=>by
       unfold ref10_Fits_l1
       simp only
       rw [decide_eq_false (by omega),cond_false]) (by rw [big_eq]; have:=T.1; omega)
      rw [lp]
      have e:L.all (fun y=>!fitsN b.Fare y.crossed_ y.used_ x)=!r:=by
       rw [Bool.eq_iff_iff,List.all_eq_true,Bool.not_eq_true',← Bool.not_eq_true,hi]
       constructor
       ·rintro h ⟨t,ht,hf⟩
        obtain ⟨hc,y,G,hS⟩:=tr_got V ht
        have:=h y ((T.2 y).2 ⟨hc,G⟩)
        rw [fits_same (c' :=t.crossed_) (u' :=t.used_) B.f0 B.ft (fun i _=>hS i),hf] at this
        simp at this
       ·intro h y hy
        obtain ⟨hc,G⟩:=(T.2 y).1 hy
        obtain ⟨ht,hS⟩:=got_tr V hc G
        cases hf:fitsN b.Fare y.crossed_ y.used_ x with
        | false=>rfl
        | true=>
          exfalso
          refine h ⟨_,ht,?_⟩
          rw [← fits_same (c:=y.crossed_) (u:=y.used_) B.f0 B.ft (fun i _=>hS i)]; exact hf
      rw [e]
      cases r <;> rfl
     ·rcases hc' with ⟨_,C',_⟩ | ⟨rfl,rfl,_⟩
      ·exact absurd C' C
      rfl
theorem fm_congr {α β:Type}{f g:α→Option β}:∀ {l:List α},(∀ x∈l,f x=g x)→l.filterMap f=l.filterMap g
 | [],_=>rfl
 | a::l,h=>by
   rw [List.filterMap_cons,List.filterMap_cons,h a (List.mem_cons_self ..),fm_congr (fun x hx=>h x (List.mem_cons_of_mem _ hx))]
theorem kept_congr {α:Type}{l:List α}{o o' :Nat→Bool}:∀ {k:Nat},(∀ i,i < k→o i=o' i)→kept l o k=kept l o' k:=fun {k} h=>by
 unfold kept
 refine fm_congr fun i hi=>?_
 rw [h i (List.mem_range.1 hi)]
def bitS (s:Nat) (k:Nat):Bool:=s.testBit k
theorem inL_mem {s n k:Nat} (h:k < n):inL (memL s n) k=bitS s k:=by
 unfold inL bitS
 rw [Bool.eq_iff_iff,decide_eq_true_eq,mem_memL]
 constructor
 ·rintro ⟨j,e,_,hj⟩; rw [show k=j by omega]; exact hj
 ·intro hk; exact ⟨k,rfl,h,hk⟩
theorem out_mem {b:TicketBook}{s:Nat}:outS b (inL (memL s (nP b)))=outS b (bitS s)∧outX b (inL (memL s (nP b)))=outX b (bitS s):=by
 unfold outS outX
 exact ⟨kept_congr fun i hi=>inL_mem (by unfold nP; omega),kept_congr fun i hi=>inL_mem (by unfold nP; omega)⟩
def lessR (b:TicketBook) (s:Nat):TicketBook:=⟨b.Tally,b.Fare,b.Tickets,outS b (bitS s),outX b (bitS s)⟩
theorem rwithout_eq {b:TicketBook} (V:VT b) (s:Nat):ref10_Without b s=some (lessR b s):=by
 have sn:=V.sn; have bn:=V.bn
 unfold ref10_Without
 refine loopF_spec (body:=ref10_Without_l5 b s) (fun z:Int×List TicketShow=>∃ k:Nat,z.1=k∧k≤b.Shows.length∧z.2=kept b.Shows (bitS s) k) (fun z=>b.Shows.length - z.1.toNat) (fun _=>lessR b s) ?_ big (0,[]) ⟨0,rfl,Nat.zero_le _,rfl⟩ (by unfold big; simp; omega)
 rintro rec ⟨i,z⟩ ⟨k,h1,hk,h2⟩ ih
 simp only at h1 h2
 subst h1; subst h2
 unfold ref10_Without_l5
 simp only
 by_cases hlt:k < b.Shows.length
 ·have hlen:=kept_len (l:=b.Shows) (o:=bitS s) (k:=k)
  rw [decide_eq_true (by omega),cond_true,member_nat s k (by omega),Option.bind_some,wrI (x:=(k:Int)+1) (by omega) (by omega)]
  cases hb:s.testBit k with
  | false=>
    rw [Bool.not_false,cond_true,getI_nat,List.getElem?_eq_getElem hlt,Option.bind_some,need_of (fits_small (by simp; omega) (by omega))]
    exact ih _ ⟨k+1,by simp,hlt,by rw [kept_succ hlt,show bitS s k=false from hb]; rfl⟩ (by (try simp only); omega)
  | true=>
    rw [Bool.not_true,cond_false]
    exact ih _ ⟨k+1,by simp,hlt,by rw [kept_succ hlt,show bitS s k=true from hb]; simp⟩ (by (try simp only); omega)
 ·rw [decide_eq_false (by omega),cond_false]
  have hkn:k=b.Shows.length:=by omega
  subst hkn
  refine loopF_spec (body:=ref10_Without_l4 b s (_,kept b.Shows (bitS s) b.Shows.length)) (fun z:Int×List TicketBox=>∃ k:Nat,z.1=k∧k≤b.Boxes.length∧z.2=kept b.Boxes (fun i=>bitS s (b.Shows.length+i)) k) (fun z=>b.Boxes.length - z.1.toNat) (fun _=>lessR b s) ?_ big (0,[]) ⟨0,rfl,Nat.zero_le _,rfl⟩ (by unfold big; simp; omega)
  rintro rec ⟨i,z⟩ ⟨k,h1,hk,h2⟩ ih
  simp only at h1 h2
  subst h1; subst h2
  unfold ref10_Without_l4
  simp only
  by_cases hlt:k < b.Boxes.length
  ·have hlen:=kept_len (l:=b.Boxes) (o:=fun i=>bitS s (b.Shows.length+i)) (k:=k)
   rw [decide_eq_true (by omega),cond_true,wrI (x:=(b.Shows.length:Int)+(k:Int)) (by omega) (by omega),show (b.Shows.length:Int)+(k:Int)=((b.Shows.length+k:Nat):Int) by omega,member_nat s _ (by omega),Option.bind_some,wrI (x:=(k:Int)+1) (by omega) (by omega)]
   cases hb:s.testBit (b.Shows.length+k) with
   | false=>
     rw [Bool.not_false,cond_true,getI_nat,List.getElem?_eq_getElem hlt,Option.bind_some,need_of (fits_small (by simp; omega) (by omega))]
     exact ih _ ⟨k+1,by simp,hlt,by rw [kept_succ hlt,show bitS s (b.Shows.length+k)=false from hb]; rfl⟩ (by (try simp only); omega)
   | true=>
     rw [Bool.not_true,cond_false]
     exact ih _ ⟨k+1,by simp,hlt,by rw [kept_succ hlt,show bitS s (b.Shows.length+k)=true from hb]; simp⟩ (by (try simp only); omega)
  ·rw [decide_eq_false (by omega),cond_false]
   have hkn:k=b.Boxes.length:=by omega
   subst hkn
   rfl
theorem lessR_vt {b:TicketBook} (V:VT b) (s:Nat):VT (lessR b s):=
 ⟨V.ta,V.t3,V.r5,V.f1,V.f20,V.tn,(V.pco (bitS s)).sn,(V.pco (bitS s)).bn,V.te,(V.pco (bitS s)).sh,(V.pco (bitS s)).bx⟩
theorem can_lessR {b:TicketBook}{s:Nat}:Can (lessR b s)↔CanO b (memL s (nP b)):=by
 unfold CanO
 rw [out_mem.1,out_mem.2]
 exact exists_congr fun t=>⟨fun h=>⟨h.cl,h.c3,h.u3,h.cr,h.cz,h.uz,h.ub,h.us,h.pc,h.sw,h.can,h.bx⟩,fun h=>⟨h.cl,h.c3,h.u3,h.cr,h.cz,h.uz,h.ub,h.us,h.pc,h.sw,h.can,h.bx⟩⟩
theorem can_all {b:TicketBook} (V:VT b) (h:CanBe b.Tally):CanO b (allL (nP b)):=by
 obtain ⟨q,hq⟩:=h
 have hin:∀ k,k < nP b→inL (allL (nP b)) k=true:=fun k hk=>decide_eq_true (by
  unfold allL
  exact List.mem_map.2 ⟨k,List.mem_range.2 hk,rfl⟩)
 have h1:outS b (inL (allL (nP b)))=[]:=List.eq_nil_iff_forall_not_mem.2 fun x hx=>by
  obtain ⟨i,hi,ho⟩:=mem_kept.1 hx
  have:=(List.getElem?_eq_some_iff.1 hi).1
  rw [hin i (by unfold nP; omega)] at ho; cases ho
 have h2:outX b (inL (allL (nP b)))=[]:=List.eq_nil_iff_forall_not_mem.2 fun x hx=>by
  obtain ⟨i,hi,ho⟩:=mem_kept.1 hx
  have:=(List.getElem?_eq_some_iff.1 hi).1
  rw [hin (b.Shows.length+i) (by unfold nP; omega)] at ho; cases ho
 unfold CanO
 rw [h1,h2]
 exact ⟨_,tr_of V hq⟩
theorem few_uniq {b:TicketBook}{w w' :List Int} (F:Few b w) (F' :Few b w'):w=w' :=by
 have h1:=F.len w' F'.clm F'.can
 have h2:=F'.len w F.clm F.can
 rcases lex_total (o:=w) (w:=w') (by omega) with h | h | h
 ·exact h
 ·exact absurd h (F'.lex w F.clm F.can (by omega))
 ·exact absurd h (F.lex w' F'.clm F'.can (by omega))
theorem rrightT {b:TallyBook} (V:Val b):∃ r,ref05_Right b=some (r,0)∧(r=true↔CanBe b):=by
 obtain ⟨M,r,h,T⟩:=most_tab V.bk (n:=b.Trips.toNat) (by have:=V.t1; omega)
 refine ⟨r,?_,T.can⟩
 unfold ref05_Right
 rw [rcheck_ok V,Option.bind_some]
 simp only [bne_self_eq_false,cond_false]
 rw [h]; rfl
theorem wrong_sameT (b:TicketBook) (A:ArgT b):∃ l e,ticket_Wrong b=some (l,e)∧ref10_Wrong b=some (l,e)∧l.length≤1000:=by
 cases hv:valT b with
 | false=>
   refine ⟨[],100,?_,?_,by simp⟩
   ·unfold ticket_Wrong; rw [checkT_eq b A,hv]; rfl
   ·unfold ref10_Wrong; rw [rcheckT_eq b A,hv]; rfl
 | true=>
   have V:=valT_iff.1 hv
   have np:=V.np
   have wn:wr ((b.Shows.length:Int)+(b.Boxes.length:Int))=((nP b:Nat):Int):=by
    unfold nP at np ⊢
    rw [wrI (by omega) (by omega)]; omega
   obtain ⟨w,e,h1,hF⟩:=wrong_law V
   obtain ⟨c,hr,hc⟩:=rrightT V.ta
   refine ⟨w,e,h1,?_,?_⟩
   rotate_left
   ·rcases hF with ⟨_,F⟩ | ⟨_,rfl,_⟩
    ·have:=F.clm.len (by omega); omega
    ·simp
   unfold ref10_Wrong
   rw [rcheckT_ok V,Option.bind_some]
   simp only [bne_self_eq_false,cond_false]
   rw [hr,Option.bind_some]
   cases c with
   | false=>
     have nc:¬CanBe b.Tally:=fun h=>by simpa using hc.2 h
     rcases hF with ⟨_,F⟩ | ⟨rfl,rfl,_⟩
     ·obtain ⟨t,ht⟩:=F.can
      exact absurd ⟨_,ht.can⟩ nc
     rfl
   | true=>
     have hall:=can_all V (hc.1 rfl)
     rcases hF with ⟨rfl,F⟩ | ⟨_,_,h⟩
     rotate_left
     ·exact absurd hall (h _ (allL_clm _))
     obtain ⟨n,hn⟩:∃ n,nP b=n:=⟨_,rfl⟩
     have hn8:n≤8:=by omega
     have p8:2 ^ n≤256:=Nat.pow_le_pow_right (n:=2) (by omega) hn8
     have p0:0 < 2 ^ n:=Nat.two_pow_pos n
     simp only [Bool.not_true,cond_false]
     rw [wn,hn,need_of (by simp),shl1_nat n (by omega)]
     have e1:Fx.wr (((2 ^ n:Nat):Int) - 1)=((2 ^ n - 1:Nat):Int):=by
      generalize 2 ^ n=m at p8 p0
      rw [wrI (by omega) (by omega)]; omega
     rw [e1,members_nat _ (by omega),Option.bind_some]
     have all_:memL (2 ^ n - 1) n=allL n:=by
      unfold memL allL
      congr 1
      rw [List.filter_eq_self]
      intro k hk
      rw [Nat.testBit_two_pow_sub_one]
      simpa using hk
     obtain ⟨r,hr,hw⟩:∃ r,loopF (ref10_Wrong_l2 b) big (memL (2 ^ n - 1) n,0)=some r∧(r.2=0∧Few b r.1):=by
      refine loopF_inv (body:=ref10_Wrong_l2 b) (fun z:List Int×Int=>∃ s:Nat,z.2=s∧s≤2 ^ n∧Clm z.1 n∧CanO b z.1∧∀ s' :Nat,s' < s→CanO b (memL s' n)→¬Btr (memL s' n) z.1) (fun z=>2 ^ n - z.2.toNat) (fun r=>r.2=0∧Few b r.1) ?_ big _
       ⟨0,rfl,Nat.zero_le _,by rw [all_]; exact allL_clm n,by rw [all_,← hn]; exact hall,fun s' h=>absurd h (Nat.not_lt_zero _)⟩ (by unfold big; simp only [Int.toNat_zero]; generalize 2 ^ n=m at p8 p0; omega)
      rintro rec ⟨best,z⟩ ⟨s,rfl,hs,hc,hcan,hmin⟩ ih
      simp only at hc hcan hmin
      unfold ref10_Wrong_l2
      simp only
      rw [wn,hn,need_of (by simp),shl1_nat n (by omega)]
      have hlen:=hc.len (by omega)
      by_cases hlt:s < 2 ^ n
      ·have hs32:s < 256:=by omega
       have hw:Fx.wr ((s:Int)+1)=((s+1:Nat):Int):=by rw [wrI (by omega) (by omega)]; omega
       have mu:2 ^ n - (((s+1:Nat):Int)).toNat < 2 ^ n - ((s:Int)).toNat:=by
        simp only [Int.toNat_natCast]
        generalize 2 ^ n=m at hlt
        omega
       rw [decide_eq_true (by exact_mod_cast hlt),cond_true,members_nat s (by omega),Option.bind_some]
       have hml:=memL_len s n
       obtain ⟨r,hr,hb⟩:=better_iff (memL s n) best (by omega)
       rw [hr,Option.bind_some,hw]
       have stay:(CanO b (memL s n)→¬Btr (memL s n) best)→∃ r,rec (best,((s+1:Nat):Int))=some r∧(r.2=0∧Few b r.1):=fun hno=>by
        refine ih _ ⟨s+1,rfl,by omega,hc,hcan,fun s' h1 h2=>?_⟩ mu
        by_cases e:s' =s
        ·subst e; exact hno h2
        ·exact hmin s' (by omega) h2
       cases r
       ·rw [cond_false]
        exact stay fun _ h=>by have:=hb.2 h; cases this
       ·rw [cond_true]
        have Vx:=lessR_vt V s
        obtain ⟨L,hm,_,hL⟩:=rtruths Vx
        have hr' :=rcan Vx hL
        rw [rwithout_eq V s,Option.bind_some]
        show ∃ r,((ref10_truths (lessR b s)).bind _)=some r∧_
        rw [hm,Option.bind_some]
        have hcx:Can (lessR b s)↔CanO b (memL s n):=by rw [← hn]; exact can_lessR
        cases L with
        | nil=>
          rw [show decide ((([]:List Ref10_truth).length:Int) > 0)=false by decide,cond_false]
          exact stay fun h=>absurd (hcx.2 h) (hr'.1 rfl)
        | cons t l=>
          rw [decide_eq_true (by simp; try omega),cond_true]
          have hbt:=hb.1 rfl
          refine ih _ ⟨s+1,rfl,by omega,memL_clm s n,hcx.1 (Classical.byContradiction fun h=>by have:=hr'.2 h; cases this),fun s' h1 h2 h3=>?_⟩ mu
          by_cases e:s' =s
          ·subst e
           have h4:Btr (memL s' n) (memL s' n):=h3
           rcases h4 with h3 | ⟨_,h3⟩
           ·omega
           ·exact h3.irr
          ·exact hmin s' (by omega) h2 (h3.trans hbt)
      ·rw [decide_eq_false (by exact_mod_cast hlt),cond_false]
       have key:∀ o,Clm o (nP b)→CanO b o→¬Btr o best:=fun o ho hco=>by
        rw [hn] at ho
        obtain ⟨s',h1,h2⟩:=clm_set ho
        rw [← h2] at hco ⊢
        exact hmin s' (by omega) hco
       refine ⟨_,rfl,rfl,⟨by rw [hn]; exact hc,hcan,fun o ho hco=>?_,fun o ho hco he hlex=>key o ho hco (.inr ⟨he,hlex⟩)⟩⟩
       have:=key o ho hco
       exact Nat.le_of_not_lt fun h=>this (.inl h)
     rw [hr]
     obtain ⟨r1,r2⟩:=r
     simp only at hw
     rw [hw.1,few_uniq hw.2 F]
theorem law_ticketWrongs_t (b:TicketBook) (hc:b.Tally.Counts.length*56≤140737488355328) (ht:b.Tickets.length*16≤140737488355328) (hs:b.Shows.length*24≤140737488355328) (hx:b.Boxes.length*32≤140737488355328) (x:TicketBox):law_TicketWrongs b x=some true:=by
 have A:ArgT b:=⟨by omega,by omega,by omega,by omega⟩
 have main:law_ticketWrongs b b x=some true:=by
  obtain ⟨r1,h1,g1⟩:=fits_sameT b A x
  obtain ⟨l,e,h2,g2,hl⟩:=wrong_sameT b A
  unfold law_ticketWrongs
  simp only [h1,g1,h2,g2,Option.bind_some,bne_self_eq_false,cond_false,beq_self_eq_true]
  rw [alike_same l (by omega),Option.bind_some,cond_true]
 unfold law_TicketWrongs
 rw [ownT hc ht hs hx,Option.bind_some,main,Option.bind_some,cond_true,keptT b A (by omega) (by omega) (by omega) (by omega),Option.bind_some,cond_true,punched_t]
 rfl
end Go.Proofs.YtafhljljfglfeaaGreatDoor
set_option maxRecDepth 100000
namespace Go.Proofs.YtafhljljfglfeaaGreatDoor
open Go Go.Fx Go.Proofs Go.ChangeShapes Go.WideShapes Go.ChangeAt Go.RowKit
variable {H:Type}{enc:TypeId×Value→H}{w:World}{spare:Nat→Bool}{held:Bool}{r:Reach}{b0:Nat}{v:Value}{d:DataW H}{ps:List MemPlace}{P:Program}
theorem wt_cons {t:TypeId}{ts:List TypeId}{d:DataW H}{r:List (DataW H)} (h:(DataW.weightsEach P (t::ts) (d::r)).all (·≤reachBytes)=true):(d.weights P t).all (·≤reachBytes)=true∧(DataW.weightsEach P ts r).all (·≤reachBytes)=true:=by
 rw [DataW.weightsEach,List.all_append,Bool.and_eq_true] at h
 exact h
theorem wt_at:∀ {ts:List TypeId}{ds:List (DataW H)}{i:Nat}{t:TypeId}{d:DataW H},(DataW.weightsEach P ts ds).all (·≤reachBytes)=true→ts[i]? =some t→ds[i]? =some d→(d.weights P t).all (·≤reachBytes)=true
 | [],_,_,_,_,_,h1,_=>by simp at h1
 | _::_,[],_,_,_,_,_,h2=>by simp at h2
 | t::ts,d::ds,0,_,_,h,h1,h2=>by
   simp at h1 h2; subst h1 h2; exact (wt_cons h).1
 | t::ts,d::ds,i+1,_,_,h,h1,h2=>by
   simp at h1 h2; exact wt_at (wt_cons h).2 h1 h2
theorem slice_wt {t e:TypeId}{fuel n c:Nat}{cs:List Value}{A:Option Addr}{x:DataW H×List MemPlace} (ht:P.underlying t=some (.slice e)) (h:DataW.trod enc P w 0 spare held fuel t cs=some x) (hw:(x.1.weights P t).all (·≤reachBytes)=true)
 (hc:cs=[SL A n c]):n*P.bytesOf e≤reachBytes:=by
 rcases DataW.trod_slice ht h with ⟨rfl,_⟩ | ⟨a,len,cap,elems,rest,m,_,rfl,rfl,_,_,_,hel,_⟩
 ·injection hc with hc; injection hc with _ hc _; subst hc; simp
 ·injection hc with hc; injection hc with _ hc _; subst hc
  simp only [DataW.weights,ht,List.all_cons,Bool.and_eq_true,decide_eq_true_eq,List.length_map] at hw
  have h1:=hw.1
  have h2:len*P.bytesOf e≤(elems.length+rest.length)*P.bytesOf e:=Nat.mul_le_mul_right _ (by omega)
  omega
theorem wt_tally {x y:Int}{A:Option Addr}{n c fuel:Nat}{cs:List Value}{d:DataW H×List MemPlace} (hf:DataW.trod enc Tryz.prog w 0 spare held fuel 24 cs=some d) (hw:(d.1.weights Tryz.prog 24).all (·≤reachBytes)=true) (hc:cs=[I x,I y,SL A n c]):n*56≤reachBytes:=by
 obtain ⟨xs,m,_,hx,hl,hxs,hel⟩:=DataW.trod_struct u24 hf
 have hx1:d.1=.agg (xs.map (·.1)):=congrArg Prod.fst hx
 rw [hx1] at hw
 have fb:=f24b
 simp only [List.all_cons,List.all_nil,Bool.and_eq_true,beq_iff_eq,and_true] at fb
 obtain ⟨⟨o0,t0⟩,⟨o1,t1⟩,⟨o2,t2⟩⟩:=fb
 have e2:=hel 2 _ (get_bang (by rw [f24s]; decide))
 rw [f24s] at hxs
 rw [o2,t2,c22,List.getElem?_eq_getElem (by omega),hc] at e2
 have hw2:((xs[2]'(by omega)).1.weights Tryz.prog 22).all (·≤reachBytes)=true:=by
  simp only [DataW.weights,u24] at hw
  refine wt_at hw (i:=2) ?_ (by rw [List.getElem?_map,List.getElem?_eq_getElem (by omega)]; rfl)
  rw [List.getElem?_map,Array.getElem?_toList,get_bang (by rw [f24s]; decide),Option.map_some,t2]
 have:=slice_wt u22 e2 hw2 (A:=A) (n:=n) (c:=c) rfl
 rwa [show Tryz.prog.bytesOf 106=56 by kernel_rfl] at this
theorem wt_book {x y f:Int}{A1 A2 A3 A4:Option Addr}{n1 n2 n3 n4 c1 c2 c3' c4:Nat} (hd:DataW.Trod enc Tryz.prog w 0 spare held 29 (AG [I x,I y,SL A1 n1 c1,I f,SL A2 n2 c2,SL A3 n3 c3',SL A4 n4 c4]) d ps) (hw:(d.weights Tryz.prog 29).all (·≤reachBytes)=true):n1*56≤140737488355328∧n2*16≤140737488355328∧n3*24≤140737488355328∧n4*32≤140737488355328:=by
 obtain ⟨fuel,hf⟩:=hd
 obtain ⟨xs,m,_,hx,hl,hxs,hel⟩:=DataW.trod_struct u29 hf
 have hx1:d=.agg (xs.map (·.1)):=congrArg Prod.fst hx
 subst hx1
 have fb:=f29b
 simp only [List.all_cons,List.all_nil,Bool.and_eq_true,beq_iff_eq,and_true] at fb
 obtain ⟨⟨o0,t0⟩,⟨o1,t1⟩,⟨o2,t2⟩,⟨o3,t3⟩,⟨o4,t4⟩⟩:=fb
 have e0:=hel 0 _ (get_bang (by rw [f29s]; decide))
 have e2:=hel 2 _ (get_bang (by rw [f29s]; decide))
 have e3:=hel 3 _ (get_bang (by rw [f29s]; decide))
 have e4:=hel 4 _ (get_bang (by rw [f29s]; decide))
 rw [f29s] at hxs
 rw [o0,t0,c24,List.getElem?_eq_getElem (by omega)] at e0
 rw [o2,t2,c25,List.getElem?_eq_getElem (by omega)] at e2
 rw [o3,t3,c26,List.getElem?_eq_getElem (by omega)] at e3
 rw [o4,t4,c27,List.getElem?_eq_getElem (by omega)] at e4
 simp only [DataW.weights,u29] at hw
 have wi:∀ (i:Nat) (hi:i < xs.length) (t:Nat),i < (Tryz.prog.fieldsOf 29).size→(Tryz.prog.fieldsOf 29)[i]!.type=t→((xs[i]'hi).1.weights Tryz.prog t).all (·≤reachBytes)=true:=fun i hi t h1 h2=>by
  refine wt_at hw (i:=i) ?_ (by rw [List.getElem?_map,List.getElem?_eq_getElem hi]; rfl)
  rw [List.getElem?_map,Array.getElem?_toList,get_bang h1,Option.map_some,h2]
 have r1:=wt_tally e0 (wi 0 (by omega) 24 (by rw [f29s]; decide) t0) (x:=x) (y:=y) (A:=A1) (n:=n1) (c:=c1) rfl
 have r2:=slice_wt u25 e2 (wi 2 (by omega) 25 (by rw [f29s]; decide) t2) (A:=A2) (n:=n2) (c:=c2) rfl
 have r3:=slice_wt u26 e3 (wi 3 (by omega) 26 (by rw [f29s]; decide) t3) (A:=A3) (n:=n3) (c:=c3') rfl
 have r4:=slice_wt u27 e4 (wi 4 (by omega) 27 (by rw [f29s]; decide) t4) (A:=A4) (n:=n4) (c:=c4) rfl
 rw [show Tryz.prog.bytesOf 84=16 by kernel_rfl] at r2
 rw [show Tryz.prog.bytesOf 86=24 by kernel_rfl] at r3
 rw [show Tryz.prog.bytesOf 39=32 by kernel_rfl] at r4
 have h2:reachBytes≤140737488355328:=by decide
 omega
end Go.Proofs.YtafhljljfglfeaaGreatDoor
/- Plain facts about chains: what is told of all truths. -/
import Derived.Test.YtblfippmobpaaaaDoorZGPCh3
set_option linter.unusedVariables false
set_option linter.unusedSimpArgs false
namespace Go.Proofs.YtblfippmobpaaaaDoor
open Go Go.Fx
theorem rng_len {s:Span}:(rng s).length=(s.High - s.Low+1).toNat:=by simp [rng]
theorem flat_len {α β:Type} (f:α→List β) (c:Nat):∀ l:List α,(∀ x∈l,(f x).length≤c)→(l.flatMap f).length≤l.length*c
 | [],_=>by simp
 | x::l,h=>by
   rw [List.flatMap_cons,List.length_append,List.length_cons,Nat.succ_mul]
   have h1:=h x (List.mem_cons_self ..)
   have h2:=flat_len f c l fun y hy=>h y (List.mem_cons_of_mem _ hy)
   omega
theorem tr_len {q:Chain_book} (Q:OpK q):∀ (r p:Nat) (w:List Int),p+r=q.ChainBook.Sections.length→(trK q r p w).length≤4 ^ r
 | 0,p,w,_=>by
   unfold trK oneK
   split <;> simp
 | r+1,p,w,h=>by
   unfold trK
   have S:=Q.se _ (List.getElem_mem (show p < q.ChainBook.Sections.length by omega))
   have:=flat_len (fun v=>trK q r (p+1) (aset w 4 p v)) (4 ^ r) (rng (secAt q p).Wear) (fun v _=>tr_len Q r (p+1) _ (by omega))
   rw [secAt_get (by omega),rng_len] at this
   have w0:=S.w0; have wh:=S.wh; have w3:=S.w3
   rw [secAt_get (by omega)]
   refine Nat.le_trans this ?_
   rw [Nat.pow_succ,Nat.mul_comm]
   exact Nat.mul_le_mul_left _ (by omega)
theorem truths_len {q:Chain_book} (Q:OpK q):(truthsK q).length≤256:=by
 have h:=tr_len Q q.ChainBook.Sections.length 0 (List.replicate 4 0) (by omega)
 have h2:4 ^ q.ChainBook.Sections.length≤4 ^ 4:=Nat.pow_le_pow_right (by omega) Q.sn.2
 exact Nat.le_trans h h2
theorem foldY_opened:∀ (L z:List Chain_truth),z.length+L.length≤100000→foldY (yvOf chain_opened_r41) L (0,z)=some (true,0,z++L)
 | [],z,_=>by simp [foldY]
 | x::L,z,h=>by
   rw [List.length_cons] at h
   show (chain_opened_r41 x z).bind (fun r=>bif r.1 then foldY (yvOf chain_opened_r41) L r.2 else some (false,r.2))=_
   have e:chain_opened_r41 x z=some (true,0,z++[x]):=by
    unfold chain_opened_r41
    rw [need_of (by simp [fitsL]; omega)]
   rw [e,Option.bind_some]
   simp only [cond_true]
   rw [foldY_opened L _ (by simp; omega),List.append_assoc]
   rfl
theorem wrs_zero:Wrs (List.replicate 4 0):=⟨by simp,fun k=>by
 match k with
 | 0=>decide
 | 1=>decide
 | 2=>decide
 | 3=>decide
 | k+4=>rw [List.getD_eq_getElem?_getD,List.getElem?_eq_none (by simp)]; decide⟩
theorem whole_all {q:Chain_book} (Q:OpK q) {σ:Type} (s:σ) (yv:Chain_truth→σ→Option (Bool×σ)):chain_book_whole_1 s q yv=(foldY yv (truthsK q) s).map (·.2):=by
 unfold chain_book_whole_1 chain_unworn
 rw [Option.bind_some,show chain_book_whole_1_1 big (List.replicate 4 0) 0 s q q yv=_ from whole_k Q yv q.ChainBook.Sections.length 0 big _ s (by omega) (by have:=Q.sn; rw [big_eq]; omega) wrs_zero]
 unfold truthsK
 cases foldY yv (trK q q.ChainBook.Sections.length 0 (List.replicate 4 0)) s <;> rfl
def opnK (b:ChainBook) (but:List Int):Chain_book:=Chain_book.mk b (readK b.Surveys but b.Surveys.length) []
def TKO (b:ChainBook) (but:List Int):List Chain_truth:=truthsK (opnK b but)
theorem sur_ok {b:ChainBook} (V:ValK b):∀ y∈b.Surveys,SurOk y:=by
 intro y hy
 have:=surK_of (V.su y hy)
 have:=V.dn
 unfold SurOk; omega
theorem opn_k {b:ChainBook} (V:ValK b) (but:List Int):OpK (opnK b but):=
 ⟨V.sn,V.tn,fun x hx=>secK_of (V.se x hx),(read_k (sur_ok V) but _).1⟩
theorem opened_k {b:ChainBook} (V:ValK b) (but:List Int) (hb:but.length≤1000):chain_opened b but=some (Chain_book.mk b (opnK b but).read_ (TKO b but)):=by
 have hu:=V.un
 unfold chain_opened
 refine loop_fold0 (fun k=>((k:Int),readK b.Surveys but k)) b.Surveys.length (fun rec k hk=>?_) (fun rec=>?_) (by rw [big_eq]; omega) rfl
 ·have hy:=sur_ok V _ (List.getElem_mem hk)
  obtain ⟨_,_,_,r0,r2,e0,e5⟩:=hy
  unfold chain_opened_l42
  simp only
  rw [decide_eq_true (by omega),cond_true,getI_ix hk,Option.bind_some,index_eq _ _ hb,Option.bind_some,wrN hk (by omega)]
  have hs:readK b.Surveys but (k+1)=bif but.contains (k:Int) then readK b.Surveys but k else putL (readK b.Surveys but k) (spotK b.Surveys[k]) (match lookL (readK b.Surveys but k) (spotK b.Surveys[k]) with | some o=>bothS o (spanK b.Surveys[k]) | none=>spanK b.Surveys[k]):=by
   show (bif but.contains (k:Int) then readK b.Surveys but k else match b.Surveys[k]? with | none=>readK b.Surveys but k | some y=>_)=_
   rw [List.getElem?_eq_getElem hk]
   rfl
  rw [hs]
  cases hc:but.contains (k:Int) with
  | true=>rfl
  | false=>
    rw [cond_false,cond_false]
    show optC (lookL (readK b.Surveys but k) (spotK b.Surveys[k])) _ _=_
    cases hl:lookL (readK b.Surveys but k) (spotK b.Surveys[k]) with
    | none=>
      show chain_opened_j40 b.Surveys[k] rec _ (0,0,false)=_
      unfold chain_opened_j40 chain_opened_j39
      simp only
      rw [cond_false,wrN hk (by omega),wrI (x:=b.Surveys[k].Read - b.Surveys[k].Error) (by omega) (by omega),wrI (x:=b.Surveys[k].Read+b.Surveys[k].Error) (by omega) (by omega)]
      rfl
    | some v=>
      show chain_opened_j40 b.Surveys[k] rec _ (v.Low,v.High,true)=_
      unfold chain_opened_j40 chain_opened_j39
      simp only
      rw [cond_true,chain_both_eq,Option.bind_some,wrN hk (by omega),wrI (x:=b.Surveys[k].Read - b.Surveys[k].Error) (by omega) (by omega),wrI (x:=b.Surveys[k].Read+b.Surveys[k].Error) (by omega) (by omega)]
      rfl
 ·unfold chain_opened_l42
  simp only
  rw [decide_eq_false (by omega),cond_false]
  show (chain_book_whole_1 (0,[]) (opnK b but) (yvOf chain_opened_r41)).bind _=_
  have Q:=opn_k V but
  rw [whole_all Q,foldY_opened _ _ (by have:=truths_len Q; simp; omega)]
  rfl
structure HullOf (f:Chain_truth→Span) (L:List Chain_truth) (s:Span):Prop where
 low:∃ t∈L,(f t).Low=s.Low
 high:∃ t∈L,(f t).High=s.High
 le:∀ t∈L,s.Low≤(f t).Low
 ge:∀ t∈L,(f t).High≤s.High
theorem hull_eq (s t:Span):chain_hull s t=some ⟨if t.Low < s.Low then t.Low else s.Low,if t.High > s.High then t.High else s.High⟩:=by
 unfold chain_hull
 rw [chain_least1]
 rfl
theorem told_k (q:Chain_book) (f:Chain_truth→Span) (g:Chain_truth→Option Span) (hg:∀ t∈q.truths_,g t=some (f t)) (hne:q.truths_≠[]) (hl:q.truths_.length≤100000):∃ s,chain_book_told q g=some s∧HullOf f q.truths_ s:=by
 have h0:0 < q.truths_.length:=List.length_pos_iff.2 hne
 have e0:getI q.truths_ 0=some q.truths_[0]:=getI_ix h0
 unfold chain_book_told
 rw [e0,Option.bind_some,hg _ (List.getElem_mem h0),Option.bind_some]
 refine loopF_inv (body:=chain_book_told_l1 q g) (fun z:Int×Int×Int=>∃ k:Nat,z.1=k∧k≤q.truths_.length∧(∃ t∈q.truths_,(f t).Low=z.2.1)∧(∃ t∈q.truths_,(f t).High=z.2.2)∧∀ (i:Nat) t,i < k→q.truths_[i]? =some t→z.2.1≤(f t).Low∧(f t).High≤z.2.2) (fun z=>q.truths_.length - z.1.toNat) (fun s=>HullOf f q.truths_ s) ?_ big _ ⟨0,rfl,Nat.zero_le _,⟨_,List.getElem_mem h0,rfl⟩,⟨_,List.getElem_mem h0,rfl⟩,fun i t h=>absurd h (Nat.not_lt_zero i)⟩ (by rw [big_eq]; simp; omega)
 rintro rec ⟨z1,lo,hi⟩ ⟨k,rfl,hk,h1,h2,h3⟩ ih
 simp only at h1 h2 h3 ih ⊢
 unfold chain_book_told_l1
 simp only
 by_cases hlt:k < q.truths_.length
 ·rw [decide_eq_true (by omega),cond_true,getI_ix hlt,Option.bind_some,hg _ (List.getElem_mem hlt),Option.bind_some,hull_eq,Option.bind_some,wrN hlt (by omega)]
  have hm:=List.getElem_mem hlt
  refine ih _ ⟨k+1,rfl,by omega,?_,?_,fun i t hi ht=>?_⟩ (by (try simp only); omega)
  ·simp only; split
   ·exact ⟨_,hm,rfl⟩
   ·exact h1
  ·simp only; split
   ·exact ⟨_,hm,rfl⟩
   ·exact h2
  ·simp only
   by_cases hik:i=k
   ·subst hik
    rw [List.getElem?_eq_getElem hlt] at ht
    obtain rfl:=Option.some.inj ht
    constructor <;> split <;> omega
   ·have:=h3 i t (by omega) ht
    constructor <;> split <;> omega
 ·rw [decide_eq_false (by omega),cond_false]
  refine ⟨_,rfl,h1,h2,fun t ht=>?_,fun t ht=>?_⟩
  ·obtain ⟨i,hi,rfl⟩:=List.getElem_of_mem ht
   exact (h3 i _ (by omega) (List.getElem?_eq_getElem hi)).1
  ·obtain ⟨i,hi,rfl⟩:=List.getElem_of_mem ht
   exact (h3 i _ (by omega) (List.getElem?_eq_getElem hi)).2
theorem asetS_get {l:List Span}{n k i:Nat}{x:Span} (h:k < n):(asetS l n i x).getD k default=if k=i then x else l.getD k default:=by
 simp [asetS,List.getD_eq_getElem?_getD,h]
theorem firsts_get {q:Chain_book}{w:List Int}:∀ (k:Nat) (l:List Span),k≤4→firstsK q w k=some l→∀ i,i < k→l.getD i default=rightS q w i∧(rightS q w i).Low≤(rightS q w i).High
 | 0,_,_,_=>fun i hi=>absurd hi (Nat.not_lt_zero i)
 | k+1,l,h4,h=>by
   intro i hi
   have h:(firstsK q w k).bind (fun l=>bif decide ((rightS q w k).Low≤(rightS q w k).High) then some (asetS l 4 k (rightS q w k)) else none)=some l:=h
   obtain ⟨l0,g0,g1⟩:=Option.bind_eq_some_iff.1 h
   cases hc:decide ((rightS q w k).Low≤(rightS q w k).High) with
   | false=>rw [hc] at g1; cases g1
   | true=>
     rw [hc,cond_true] at g1
     obtain rfl:=Option.some.inj g1
     rw [asetS_get (by omega)]
     by_cases hik:i=k
     ·subst hik; rw [if_pos rfl]; exact ⟨rfl,of_decide_eq_true hc⟩
     ·rw [if_neg hik]; exact firsts_get k l0 (by omega) g0 i (by omega)
theorem firsts_some {q:Chain_book}{w:List Int}:∀ k,(∀ i:Nat,i < k→(rightS q w i).Low≤(rightS q w i).High)→∃ l,firstsK q w k=some l
 | 0,_=>⟨List.replicate 4 ⟨0,0⟩,rfl⟩
 | k+1,h=>by
   obtain ⟨l,hl⟩:=firsts_some k fun i hi=>h i (by omega)
   refine ⟨asetS l 4 k (rightS q w k),?_⟩
   show (firstsK q w k).bind _=_
   rw [hl,Option.bind_some,decide_eq_true (h k (by omega)),cond_true]
structure Wear (q:Chain_book) (w:List Int):Prop where
 wrs:Wrs w
 sec:∀ (p:Nat) (h:p < q.ChainBook.Sections.length),q.ChainBook.Sections[p].Wear.Low≤w.getD p 0∧w.getD p 0≤q.ChainBook.Sections[p].Wear.High
 zero:∀ p:Nat,q.ChainBook.Sections.length≤p→w.getD p 0=0
theorem getD_aset4 {l:List Int}{k p:Nat}{x:Int} (hp:p < 4) (hl:l.length=4):(aset l 4 p x).getD k 0=if k=p then x else l.getD k 0:=by
 by_cases hk:k < 4
 ·rw [getD_aset hk]; simp
 ·rw [if_neg (by omega),List.getD_eq_getElem?_getD,List.getD_eq_getElem?_getD,List.getElem?_eq_none (by simp [aset]; omega),List.getElem?_eq_none (by omega)]
theorem list4 {a b:List Int} (ha:a.length=4) (hb:b.length=4) (h:∀ k:Nat,a.getD k 0=b.getD k 0):a=b:=by
 refine List.ext_getElem (by omega) fun i h1 h2=>?_
 have:=h i
 rw [List.getD_eq_getElem?_getD,List.getD_eq_getElem?_getD,List.getElem?_eq_getElem h1,List.getElem?_eq_getElem h2] at this
 exact this
theorem tr_mem {q:Chain_book} (Q:OpK q) {t:Chain_truth}:∀ (r p:Nat) (w:List Int),p+r=q.ChainBook.Sections.length→w.length=4→
 (t∈trK q r p w↔∃ w',(w'.length=4∧(∀ k,k < p→w'.getD k 0=w.getD k 0)∧(∀ k,q.ChainBook.Sections.length≤k→w'.getD k 0=w.getD k 0)∧∀ k (h:k < q.ChainBook.Sections.length),p≤k→q.ChainBook.Sections[k].Wear.Low≤w'.getD k 0∧w'.getD k 0≤q.ChainBook.Sections[k].Wear.High)∧t∈oneK q w')
 | 0,p,w,h,hl=>by
   constructor
   ·intro ht; exact ⟨w,⟨hl,fun _ _=>rfl,fun _ _=>rfl,fun k h1 h2=>by omega⟩,ht⟩
   ·rintro ⟨w',⟨h1,h2,h3,_⟩,ht⟩
    have:w' =w:=list4 h1 hl fun k=>by
     by_cases hk:k < p
     ·exact h2 k hk
     ·exact h3 k (by omega)
    subst this; exact ht
 | r+1,p,w,h,hl=>by
   have h4:=Q.sn
   unfold trK
   rw [List.mem_flatMap]
   have hp:p < q.ChainBook.Sections.length:=by omega
   constructor
   ·rintro ⟨v,hv,ht⟩
    rw [rng_mem,secAt_get hp] at hv
    obtain ⟨w',⟨h1,h2,h3,h5⟩,ho⟩:=(tr_mem Q r (p+1) _ (by omega) (by simp [aset])).1 ht
    have hpv:w'.getD p 0=v:=by rw [h2 p (by omega),getD_aset4 (by omega) hl,if_pos rfl]
    refine ⟨w',⟨h1,fun k hk=>?_,fun k hk=>?_,fun k h6 h7=>?_⟩,ho⟩
    ·rw [h2 k (by omega),getD_aset4 (by omega) hl,if_neg (by omega)]
    ·rw [h3 k hk,getD_aset4 (by omega) hl,if_neg (by omega)]
    ·by_cases hkp:k=p
     ·subst hkp; rw [hpv]; exact hv
     ·exact h5 k h6 (by omega)
   ·rintro ⟨w',⟨h1,h2,h3,h5⟩,ho⟩
    refine ⟨w'.getD p 0,by rw [rng_mem,secAt_get hp]; exact h5 p hp (Nat.le_refl _),(tr_mem Q r (p+1) _ (by omega) (by simp [aset])).2 ⟨w',⟨h1,fun k hk=>?_,fun k hk=>?_,fun k h6 h7=>h5 k h6 (by omega)⟩,ho⟩⟩
    ·rw [getD_aset4 (by omega) hl]
     split
     ·rename_i hkp; rw [hkp]
     ·exact h2 k (by omega)
    ·rw [getD_aset4 (by omega) hl,if_neg (by omega)]; exact h3 k hk
theorem truthK_iff {q:Chain_book} (Q:OpK q) {t:Chain_truth}:t∈truthsK q↔Wear q t.wears_∧firstsK q t.wears_ q.ChainBook.Sections.length=some t.first_:=by
 unfold truthsK
 rw [tr_mem Q _ 0 _ (by omega) (by simp)]
 have z:∀ k:Nat,(List.replicate 4 (0:Int)).getD k 0=0:=fun k=>by
  rw [List.getD_eq_getElem?_getD,List.getElem?_replicate]; split <;> rfl
 have one:∀ w,t∈oneK q w↔t.wears_=w∧firstsK q w q.ChainBook.Sections.length=some t.first_:=by
  intro w
  unfold oneK
  cases hf:firstsK q w q.ChainBook.Sections.length with
  | none=>simp
  | some f=>
    simp only [List.mem_singleton,Option.some.injEq]
    constructor
    ·rintro rfl; exact ⟨rfl,rfl⟩
    ·rintro ⟨rfl,rfl⟩; rfl
 constructor
 ·rintro ⟨w,⟨h1,_,h3,h4⟩,ho⟩
  obtain ⟨e,hf⟩:=(one w).1 ho
  subst e
  refine ⟨⟨⟨h1,fun k=>?_⟩,fun p hp=>h4 p hp (by omega),fun p hp=>by rw [h3 p hp,z]⟩,hf⟩
  by_cases hk:k < q.ChainBook.Sections.length
  ·have:=h4 k hk (by omega)
   have S:=Q.se _ (List.getElem_mem hk)
   have:=S.w0; have:=S.w3
   omega
  ·rw [h3 k (by omega),z]; omega
 ·rintro ⟨W,hf⟩
  exact ⟨t.wears_,⟨W.wrs.len,fun k hk=>by omega,fun k hk=>by rw [W.zero k hk,z],fun k hk _=>W.sec k hk⟩,(one _).2 ⟨rfl,hf⟩⟩
end Go.Proofs.YtblfippmobpaaaaDoor
namespace Go.Proofs.YtblfippmobpaaaaDoor
open Go Go.Fx
theorem first_iff {b:ChainBook} (V:ValK b) {but:List Int}{t:Chain_truth} (ht:t∈TKO b but) {s:Nat} (hs:s < b.Sections.length):
 ((t.first_.getD s default).Low≤(t.first_.getD s default).High)∧(-3000≤(t.first_.getD s default).Low∧(t.first_.getD s default).High≤3000)∧
 ∀ x,((t.first_.getD s default).Low≤x∧x≤(t.first_.getD s default).High)↔((b.Sections[s].Thick.Low≤x∧x≤b.Sections[s].Thick.High)∧∀ (i:Nat) y,b.Surveys[i]? =some y→(i:Int) ∉ but→y.Section=s→Says (wornF b.Sections.length b.Turns t.wears_ s) y x):=by
 have Q:=opn_k V but
 obtain ⟨W,hf⟩:=(truthK_iff Q).1 ht
 obtain ⟨e,hle⟩:=firsts_get _ _ Q.sn.2 hf s hs
 obtain ⟨_,h2,h3⟩:=right_k Q W.wrs s hs
 rw [e]
 refine ⟨hle,h2,fun x=>?_⟩
 rw [h3,show (opnK b but).read_=readK b.Surveys but b.Surveys.length from rfl,(read_k (sur_ok V) but _).2]
 refine and_congr_right fun _=>⟨fun h i y hy hi hys=>h i (List.getElem?_eq_some_iff.1 hy).1 hi y hy hys,fun h i _ hi y hy hys=>h i y hy hi hys⟩
theorem truth_ex {b:ChainBook} (V:ValK b) {but:List Int}{w:List Int} (W:Wear (opnK b but) w) (hx:∀ (s:Nat) (h:s < b.Sections.length),∃ x,(b.Sections[s].Thick.Low≤x∧x≤b.Sections[s].Thick.High)∧∀ (i:Nat) y,b.Surveys[i]? =some y→(i:Int) ∉ but→y.Section=s→Says (wornF b.Sections.length b.Turns w s) y x):
 ∃ t∈TKO b but,t.wears_=w:=by
 have Q:=opn_k V but
 have hr:∀ s:Nat,s < b.Sections.length→(rightS (opnK b but) w s).Low≤(rightS (opnK b but) w s).High:=by
  intro s hs
  obtain ⟨_,_,h3⟩:=right_k Q W.wrs s hs
  obtain ⟨x,h1,h2⟩:=hx s hs
  have:=(h3 x).2 ⟨h1,by
   rw [show (opnK b but).read_=readK b.Surveys but b.Surveys.length from rfl,(read_k (sur_ok V) but _).2]
   exact fun i _ hi y hy hys=>h2 i y hy hi hys⟩
  omega
 obtain ⟨l,hl⟩:=firsts_some (q:=opnK b but) (w:=w) b.Sections.length hr
 exact ⟨⟨w,l⟩,(truthK_iff Q).2 ⟨W,hl⟩,rfl⟩
abbrev TKb (b:ChainBook):List Chain_truth:=TKO b []
abbrev bookK (b:ChainBook):Chain_book:=Chain_book.mk b (opnK b []).read_ (TKb b)
theorem check_okK {b:ChainBook} (V:ValK b):chain_Check b=some 0:=by
 rw [check_k b V.arg,valK_iff.2 V]; rfl
theorem right_lawK {b:ChainBook} (V:ValK b):chain_Right b=some (!(TKb b).isEmpty,0):=by
 unfold chain_Right
 rw [check_okK V,Option.bind_some]
 simp only [bne_self_eq_false,cond_false]
 rw [opened_k V [] (by simp),Option.bind_some]
 show some (decide (((TKb b).length:Int) > 0),(0:Int))=some (!(TKb b).isEmpty,0)
 cases TKb b with
 | nil=>rfl
 | cons t l=>rw [show decide (((t::l).length:Int) > 0)=true by simp]; rfl
theorem asked_k {b:ChainBook} (V:ValK b):chain_asked b true=some (bookK b,bif (TKb b).isEmpty then 12 else 0):=by
 unfold chain_asked
 rw [check_okK V,Option.bind_some]
 simp only [bne_self_eq_false,cond_false,Bool.not_true]
 rw [opened_k V [] (by simp),Option.bind_some]
 show (bif (((TKb b).length:Int)==0) then _ else _)=_
 cases TKb b with
 | nil=>rfl
 | cons t l=>rw [show (((t::l).length:Int)==0)=false by simp; omega]; rfl
theorem tk_len {b:ChainBook} (V:ValK b):(TKb b).length≤256:=truths_len (opn_k V [])
def thickF (b:ChainBook) (s d:Nat) (t:Chain_truth):Span:=⟨(t.first_.getD s default).Low - wornF b.Sections.length b.Turns t.wears_ s d,(t.first_.getD s default).High - wornF b.Sections.length b.Turns t.wears_ s d⟩
theorem book_thick {b:ChainBook} (V:ValK b) (hne:TKb b≠[]) {s d:Nat} (hs:s < b.Sections.length) (hd:d≤30):∃ sp,chain_book_thick (bookK b) s d b.Turns=some sp∧HullOf (thickF b s d) (TKb b) sp:=by
 have hn:=V.sn; have ht:=V.tn
 obtain ⟨sp,h1,h2⟩:=told_k (bookK b) (thickF b s d) (fun y33=>chain_book_thick_1 y33 (bookK b) s d b.Turns) (fun t hm=>by
  obtain ⟨W,_⟩:=(truthK_iff (opn_k V [])).1 hm
  obtain ⟨f1,f2,_⟩:=first_iff V hm hs
  have hw:=wornF_bd (n:=b.Sections.length) (turns:=b.Turns) (s:=(s:Int)) W.wrs d
  unfold chain_book_thick_1
  rw [worn_k (bookK b) hn.2 b.Turns (by omega) W.wrs s (by omega) (by show (s:Int) < (b.Sections.length:Int); omega) d (by omega),Option.bind_some,need_of (by simp [inI]; omega)]
  show some (Span.mk (Fx.wr ((t.first_.getD s default).Low - wornF b.Sections.length b.Turns t.wears_ s d)) (Fx.wr ((t.first_.getD s default).High - wornF b.Sections.length b.Turns t.wears_ s d)))=_
  rw [wrI (by omega) (by omega),wrI (by omega) (by omega)]
  rfl) hne (by have:=tk_len V; show (TKb b).length≤_; omega)
 refine ⟨sp,?_,h2⟩
 unfold chain_book_thick
 rw [h1]; rfl
theorem secIn {b:ChainBook}{s:Nat} (hs:s < b.Sections.length):inB (s:Int) 0 ((b.Sections.length:Int) - 1)=true:=inB_iff.2 (by omega)
theorem thick_law {b:ChainBook} (V:ValK b) {s d:Nat} (hs:s < b.Sections.length) (hd:(d:Int)≤b.Days):(TKb b=[]∧chain_Thick b s d=some (⟨0,0⟩,12))∨(TKb b≠[]∧∃ sp,chain_Thick b s d=some (sp,0)∧HullOf (thickF b s d) (TKb b) sp):=by
 have hdn:=V.dn
 unfold chain_Thick
 rw [isSection_k b V.arg,Option.bind_some,secIn hs,cond_true,isDay_k,Option.bind_some,inB_iff.2 (by omega),asked_k V,Option.bind_some]
 cases he:(TKb b).isEmpty with
 | true=>exact .inl ⟨by simpa using he,rfl⟩
 | false=>
   have hne:TKb b≠[]:=by simpa using he
   obtain ⟨sp,h1,h2⟩:=book_thick V hne hs (d:=d) (by omega)
   refine .inr ⟨hne,sp,?_,h2⟩
   unfold chain_Thick_j1
   show (chain_book_thick (bookK b) s d b.Turns).bind _=_
   rw [h1]; rfl
def wearF (p:Nat) (t:Chain_truth):Span:=⟨t.wears_.getD p 0,t.wears_.getD p 0⟩
theorem wear_law {b:ChainBook} (V:ValK b) {p:Nat} (hp:p < b.Sections.length):(TKb b=[]∧chain_Wear b p=some (⟨0,0⟩,12))∨(TKb b≠[]∧∃ sp,chain_Wear b p=some (sp,0)∧HullOf (wearF p) (TKb b) sp):=by
 have hn:=V.sn
 unfold chain_Wear
 rw [isSection_k b V.arg,Option.bind_some,secIn hp,asked_k V,Option.bind_some]
 cases he:(TKb b).isEmpty with
 | true=>exact .inl ⟨by simpa using he,rfl⟩
 | false=>
   have hne:TKb b≠[]:=by simpa using he
   obtain ⟨sp,h1,h2⟩:=told_k (bookK b) (wearF p) (fun y113=>chain_Wear_1 y113 p) (fun t hm=>by
    unfold chain_Wear_1
    rw [need_of (by simp [inI]; omega),need_of (by simp [inI]; omega)]
    rfl) hne (by have:=tk_len V; show (TKb b).length≤_; omega)
   refine .inr ⟨hne,sp,?_,h2⟩
   show (chain_book_told (bookK b) _).bind _=_
   rw [h1]; rfl
theorem thin_law {b:ChainBook} (V:ValK b) {s:Nat} (hs:s < b.Sections.length):∃ r,chain_Thin b s=some r∧(TKb b=[]→r=(0,12))∧(TKb b≠[]→(∃ d:Nat,(d:Int)≤b.Days∧r=((d:Int),0)∧(∃ t∈TKb b,(thickF b s d t).Low < b.Rule)∧∀ k:Nat,k < d→∀ t∈TKb b,b.Rule≤(thickF b s k t).Low)∨(r=(0,4)∧∀ k:Nat,(k:Int)≤b.Days→∀ t∈TKb b,b.Rule≤(thickF b s k t).Low)):=by
 have hdn:=V.dn
 unfold chain_Thin chain_day
 rw [isSection_k b V.arg,Option.bind_some,secIn hs,asked_k V,Option.bind_some]
 cases he:(TKb b).isEmpty with
 | true=>
   have h0:TKb b=[]:=by simpa using he
   exact ⟨(0,12),rfl,fun _=>rfl,fun h=>absurd h0 h⟩
 | false=>
   have hne:TKb b≠[]:=by simpa using he
   have main:∃ n,chain_book_first (bookK b) s 0 b.Turns=some n∧((∃ d:Nat,(d:Int)≤b.Days∧n=(d:Int)∧(∃ t∈TKb b,(thickF b s d t).Low < b.Rule)∧∀ k:Nat,k < d→∀ t∈TKb b,b.Rule≤(thickF b s k t).Low)∨(n=b.Days+1∧∀ k:Nat,(k:Int)≤b.Days→∀ t∈TKb b,b.Rule≤(thickF b s k t).Low)):=by
    unfold chain_book_first
    refine loopF_inv (body:=chain_book_first_l2 (bookK b) 0 s b.Turns) (fun z:Int=>∃ k:Nat,z=k∧(k:Int)≤b.Days+1∧∀ j:Nat,j < k→∀ t∈TKb b,b.Rule≤(thickF b s j t).Low) (fun z=>(b.Days+1).toNat - z.toNat) (fun n=>(∃ d:Nat,(d:Int)≤b.Days∧n=(d:Int)∧(∃ t∈TKb b,(thickF b s d t).Low < b.Rule)∧∀ k:Nat,k < d→∀ t∈TKb b,b.Rule≤(thickF b s k t).Low)∨(n=b.Days+1∧∀ k:Nat,(k:Int)≤b.Days→∀ t∈TKb b,b.Rule≤(thickF b s k t).Low)) ?_ big 0 ⟨0,rfl,by omega,fun j hj=>absurd hj (Nat.not_lt_zero j)⟩ (by rw [big_eq]; omega)
    rintro rec z ⟨k,rfl,hk,hj⟩ ih
    unfold chain_book_first_l2
    show ∃ r,(bif decide ((k:Int) < Fx.wr (b.Days+1)) then _ else some (Fx.wr (b.Days+1)))=some r∧_
    rw [wrI (x:=b.Days+1) (by omega) (by omega)]
    by_cases hlt:(k:Int) < b.Days+1
    ·obtain ⟨sp,h1,H⟩:=book_thick V hne hs (d:=k) (by omega)
     rw [decide_eq_true hlt,cond_true,need_of (by decide),show ((0:Int)==0)=true from rfl,cond_true,h1,Option.bind_some]
     show ∃ r,(bif decide (sp.Low < b.Rule) then some (k:Int) else rec (Fx.wr ((k:Int)+1)))=some r∧_
     rw [wrI (x:=(k:Int)+1) (by omega) (by omega)]
     by_cases hlow:sp.Low < b.Rule
     ·rw [decide_eq_true hlow,cond_true]
      obtain ⟨t,ht,hte⟩:=H.low
      exact ⟨_,rfl,.inl ⟨k,by omega,rfl,⟨t,ht,by omega⟩,hj⟩⟩
     ·rw [decide_eq_false hlow,cond_false]
      refine ih _ ⟨k+1,by omega,by omega,fun j hjk t ht=>?_⟩ (by omega)
      by_cases hjk' :j=k
      ·subst hjk'
       have:=H.le t ht
       omega
      ·exact hj j (by omega) t ht
    ·rw [decide_eq_false hlt,cond_false]
     exact ⟨_,rfl,.inr ⟨rfl,fun j hjd t ht=>hj j (by omega) t ht⟩⟩
   obtain ⟨n,hn,hc⟩:=main
   show ∃ r,(Option.bind (bif ((0:Int) != 0) then some (0,0) else ((chain_book_first (bookK b) s 0 b.Turns).bind fun r106=>bif decide (r106 > b.Days) then (some (0,4)) else (some (r106,0)))) _)=some r∧_
   rw [hn]
   simp only [bne_self_eq_false,cond_false,Option.bind_some]
   rcases hc with ⟨d,hd,rfl,h1,h2⟩ | ⟨rfl,h1⟩
   ·rw [decide_eq_false (by omega),cond_false]
    exact ⟨_,rfl,fun h=>absurd h hne,fun _=>.inl ⟨d,hd,rfl,h1,h2⟩⟩
   ·rw [decide_eq_true (by omega),cond_true]
    exact ⟨_,rfl,fun h=>absurd h hne,fun _=>.inr ⟨rfl,h1⟩⟩
def CanOK (b:ChainBook) (l:List Int):Prop:=TKO b l≠[]
theorem can_oK {b:ChainBook} (V:ValK b) {l:List Int} (hl:l.length≤1000):∃ r,(chain_opened b l).bind (fun r19=>some (l,decide ((r19.truths_.length:Int) > 0)))=some (l,r)∧(r=true↔CanOK b l):=by
 refine ⟨decide (((TKO b l).length:Int) > 0),?_,?_⟩
 ·rw [opened_k V l hl]; rfl
 ·unfold CanOK
  rw [decide_eq_true_eq,← List.length_pos_iff]
  omega
end Go.Proofs.YtblfippmobpaaaaDoor
namespace Go.Proofs.YtblfippmobpaaaaDoor
open Go Go.Fx
def TryOkK (b:ChainBook) (l:List Int) (many:Nat) (r:List Int×Bool):Prop:=
 (r.2=true∧Ext b.Surveys.length l many r.1∧CanOK b r.1∧∀ o,Ext b.Surveys.length l many o→CanOK b o→¬LexLt o r.1)∨
 (r.2=false∧∀ o,Ext b.Surveys.length l many o→¬CanOK b o)
theorem try_loopK {b:ChainBook} (V:ValK b) {l:List Int}{many:Nat} (hm:many≤b.Surveys.length) (hl:l.length < many) (hc:Clm l b.Surveys.length) {rec_:List Int→Int→Option (List Int×Bool)}
 (hrec:∀ v:Int,Clm (l++[v]) b.Surveys.length→∃ r,rec_ (l++[v]) many=some r∧TryOkK b (l++[v]) many r) {s:Int} (s0:0≤s) (sn:s≤b.Surveys.length) (s1:∀ y,l.getLast? =some y→y < s)
 (s2:∀ o,Ext b.Surveys.length l many o→∀ x,o[l.length]? =some x→s≤x):∃ r,chain_Wrong_1_j4 b l rec_ many s=some r∧TryOkK b l many r:=by
 have l8:=V.un
 unfold chain_Wrong_1_j4
 have at_:∀ o,Ext b.Surveys.length l many o→∃ x,o[l.length]? =some x:=fun o ho=>⟨_,List.getElem?_eq_getElem (by rw [ho.len]; exact hl)⟩
 refine loopF_inv (body:=chain_Wrong_1_l3 b l rec_ many) (fun z:Int=>s≤z∧z≤b.Surveys.length∧∀ o,Ext b.Surveys.length l many o→CanOK b o→∀ x,o[l.length]? =some x→z≤x) (fun z=>b.Surveys.length - z.toNat) (fun r=>TryOkK b l many r) ?_ big s ⟨Int.le_refl _,sn,fun o ho _=>s2 o ho⟩ (by unfold big; simp; omega)
 rintro rec z ⟨h1,h2,h3⟩ ih
 unfold chain_Wrong_1_l3
 by_cases hz:z < b.Surveys.length
 case neg=>
  rw [decide_eq_false hz,cond_false]
  refine ⟨_,rfl,.inr ⟨rfl,fun o ho hco=>?_⟩⟩
  obtain ⟨x,hx⟩:=at_ o ho
  have:=h3 o ho hco x hx
  have:=(ho.clm _ x hx).2.1
  omega
 rw [decide_eq_true hz,cond_true,need_of (by simp [fitsL]; omega)]
 have hC:Clm (l++[z]) b.Surveys.length:=hc.snoc (by omega) hz (fun y hy=>by have:=s1 y hy; omega)
 obtain ⟨⟨out,c⟩,hr,hT⟩:=hrec z hC
 rw [hr,Option.bind_some]
 simp only
 rcases hT with ⟨e,hE,hO,hmin⟩ | ⟨e,hno⟩
 ·simp only at e; subst e
  rw [cond_true]
  refine ⟨_,rfl,.inl ⟨rfl,hE.less.1,hO,fun o ho hco=>?_⟩⟩
  obtain ⟨x,hx⟩:=at_ o ho
  have hzx:=h3 o ho hco x hx
  by_cases hxz:x=z
  ·subst hxz; exact hmin o (ho.more hx) hco
  ·rintro ⟨i,x',y',g1,g2,g3,g4⟩
   simp only at g2 g4
   have hoz:=hE.less.2
   simp only at hoz
   by_cases hi:i < l.length
   ·have hli:=List.getElem?_eq_getElem hi
    have a1:=ho.pre i _ hli
    have a2:=hE.less.1.pre i _ hli
    simp only at a2
    rw [g1] at a1; rw [g2] at a2
    have:=Option.some.inj a1; have:=Option.some.inj a2
    omega
   ·by_cases hil:i=l.length
    ·subst hil
     rw [hx] at g1; rw [hoz] at g2
     have:=Option.some.inj g1; have:=Option.some.inj g2
     omega
    ·have:=g4 l.length (by omega)
     rw [hx,hoz] at this
     exact hxz (Option.some.inj this)
 ·simp only at e; subst e
  rw [cond_false,wrI (by omega) (by omega)]
  refine ih _ ⟨by omega,by omega,fun o ho hco x hx=>?_⟩ (by (try simp only); omega)
  have:=h3 o ho hco x hx
  by_cases hxz:x=z
  ·subst hxz; exact absurd hco (hno o (ho.more hx))
  ·omega
theorem try_eqK {b:ChainBook} (V:ValK b) {many:Nat} (hm:many≤b.Surveys.length):∀ (d fuel:Nat) (l:List Int),Clm l b.Surveys.length→l.length+d=many→d < fuel→∃ r,chain_Wrong_1 fuel l many b=some r∧TryOkK b l many r:=by
 have l8:=V.un
 intro d
 induction d with
 | zero=>
   intro fuel l hc hl hf
   obtain ⟨f,rfl⟩:∃ f,fuel=f+1:=⟨fuel - 1,by omega⟩
   unfold chain_Wrong_1 chain_Wrong_1_F
   rw [show ((l.length:Int)==(many:Int))=true by simp; omega,cond_true]
   obtain ⟨r,hr,hi⟩:=can_oK V (l:=l) (by omega)
   rw [hr]
   have eq:∀ o,Ext b.Surveys.length l many o→o=l:=fun o ho=>by
    refine (List.ext_getElem? fun i=>?_).symm
    by_cases hi:i < l.length
    ·rw [List.getElem?_eq_getElem hi,ho.pre i _ (List.getElem?_eq_getElem hi)]
    ·rw [List.getElem?_eq_none (by omega),List.getElem?_eq_none (by rw [ho.len]; omega)]
   refine ⟨_,rfl,?_⟩
   cases r with
   | true=>
     refine .inl ⟨rfl,⟨by simp only; omega,hc,fun i x h=>h⟩,hi.1 rfl,fun o ho _=>?_⟩
     rw [eq o ho]
     rintro ⟨i,x,y,h1,h2,h3,_⟩
     simp only at h2
     rw [h1] at h2
     have:=Option.some.inj h2
     omega
   | false=>
     refine .inr ⟨rfl,fun o ho=>?_⟩
     rw [eq o ho]
     exact fun h=>by simpa using hi.2 h
 | succ d ih=>
   intro fuel l hc hl hf
   obtain ⟨f,rfl⟩:∃ f,fuel=f+1:=⟨fuel - 1,by omega⟩
   unfold chain_Wrong_1 chain_Wrong_1_F
   rw [show ((l.length:Int)==(many:Int))=false by simp; omega,cond_false]
   have hrec:∀ v:Int,Clm (l++[v]) b.Surveys.length→∃ r,chain_Wrong_1 f (l++[v]) many b=some r∧TryOkK b (l++[v]) many r:=fun v hv=>ih f (l++[v]) hv (by (try simp); omega) (by omega)
   by_cases h0:0 < l.length
   ·rw [decide_eq_true (show (l.length:Int) > 0 by omega),cond_true,wrI (x:=(l.length:Int) - 1) (by omega) (by omega),show (l.length:Int) - 1=((l.length - 1:Nat):Int) by omega,getI_nat]
    have hlt:l.length - 1 < l.length:=by omega
    have hx:=List.getElem?_eq_getElem hlt
    generalize l[l.length - 1]=v at hx
    obtain ⟨v0,v1,_⟩:=hc _ _ hx
    rw [hx,Option.bind_some,wrI (x:=v+1) (by omega) (by omega)]
    refine try_loopK V hm (by omega) hc hrec (by omega) (by omega) (fun y hy=>?_) (fun o ho x hox=>?_)
    ·rw [List.getLast?_eq_getElem?,hx] at hy
     have:=Option.some.inj hy; omega
    ·have:=(ho.clm _ x hox).2.2 v h0 (ho.pre _ _ hx)
     omega
   ·rw [decide_eq_false (show ¬(l.length:Int) > 0 by omega),cond_false]
    have hn:l=[]:=List.eq_nil_of_length_eq_zero (by omega)
    refine try_loopK V hm (by omega) hc hrec (Int.le_refl _) (by omega) (fun y hy=>?_) (fun o ho x hox=>(ho.clm _ x hox).1)
    rw [hn] at hy; cases hy
structure FewK (b:ChainBook) (w:List Int):Prop where
 clm:Clm w b.Surveys.length
 can:CanOK b w
 len:∀ o,Clm o b.Surveys.length→CanOK b o→w.length≤o.length
 lex:∀ o,Clm o b.Surveys.length→CanOK b o→o.length=w.length→¬LexLt o w
theorem wrong_eqK {b:ChainBook} (V:ValK b) (hall:CanOK b (allL b.Surveys.length)):∃ w,chain_Wrong b=some (w,0)∧FewK b w:=by
 have l8:=V.un
 unfold chain_Wrong
 rw [check_okK V,Option.bind_some]
 simp only [bne_self_eq_false,cond_false]
 refine Exists.elim (loopF_inv (body:=chain_Wrong_l2 b) (fun z:Int=>∃ k:Nat,z=k∧k≤b.Surveys.length+1∧∀ o,Clm o b.Surveys.length→CanOK b o→k≤o.length) (fun z=>b.Surveys.length+1 - z.toNat) (fun r=>∃ w,r=(w,0)∧FewK b w) ?_ big 0 ⟨0,rfl,by omega,fun _ _ _=>Nat.zero_le _⟩ (by unfold big; simp; omega)) fun r ⟨h1,w,h2,h3⟩=>⟨w,by rw [h1,h2],h3⟩
 rintro rec z ⟨k,rfl,hk,hmin⟩ ih
 unfold chain_Wrong_l2
 rw [wrI (x:=(b.Surveys.length:Int)+1) (by omega) (by omega)]
 by_cases hlt:k < b.Surveys.length+1
 ·rw [decide_eq_true (by omega),cond_true]
  obtain ⟨⟨out,c⟩,hr,hT⟩:=try_eqK V (many:=k) (by omega) k big [] Clm.nil (by simp) (by unfold big; omega)
  rw [hr,Option.bind_some]
  simp only
  have ext:∀ o,Clm o b.Surveys.length→o.length=k→Ext b.Surveys.length [] k o:=fun o ho hl=>⟨hl,ho,fun i x h=>by simp at h⟩
  rcases hT with ⟨e,hE,hO,hm⟩ | ⟨e,hno⟩
  ·simp only at e; subst e
   rw [cond_true]
   refine ⟨_,rfl,out,rfl,hE.clm,hO,fun o h1 h2=>by rw [hE.len]; exact hmin o h1 h2,fun o h1 h2 h3=>hm o (ext o h1 (h3.trans hE.len)) h2⟩
  ·simp only at e; subst e
   rw [cond_false,wrI (by omega) (by omega)]
   refine ih _ ⟨k+1,by simp,by omega,fun o h1 h2=>?_⟩ (by (try simp only); omega)
   have:=hmin o h1 h2
   by_cases hok:o.length=k
   ·exact absurd h2 (hno o (ext o h1 hok))
   ·omega
 ·have:=hmin _ (allL_clm _) hall
  unfold allL at this
  simp at this
  omega
end Go.Proofs.YtblfippmobpaaaaDoor
namespace Go.Proofs.YtblfippmobpaaaaDoor
open Go Go.Fx
def dayC (q:Coal_book) (col:Int) (e:List Int) (k:Nat) (c cost:Int):Int:=(bif col==(k:Int) then c+q.CoalBook.Brings else c) - eng q k e - cost
def DayR (q:Coal_book) (col:Int) (e:List Int) (W:Nat→Nat) (K:Nat→Int) (k:Nat):Prop:=
 W k < 3∧∃ cost,lookL q.costs_ (Coal_gust.mk (k:Int) ((W k:Nat):Int))=some cost∧K (k+1)=dayC q col e k (K k) cost∧rightB q k (K (k+1))=true
theorem blown_run {q:Coal_book}:∀ (r:Nat) (t u:Coal_truth) (d:Nat) (c:Int),d+r≤6→u∈blown q r t d c→
 ∃ K:Nat→Int,K d=c∧∀ k,d≤k→k < d+r→DayR q t.collier_ t.eats_ (fun k=>windAt k u) K k∧coalAt k u=K (k+1):=by
 intro r
 induction r with
 | zero=>intro t u d c _ _; exact ⟨fun _=>c,rfl,fun k h1 h2=>by omega⟩
 | succ r ih=>
   intro t u d c hd h
   obtain ⟨w,cost,hw,hl,hr,hu⟩:=blown_step h
   obtain ⟨a1,a2⟩:=blown_at (by omega) hu
   rw [show (d:Int)+1=((d+1:Nat):Int) by omega] at hu
   obtain ⟨K,hK,hs⟩:=ih _ u (d+1) _ (by omega) hu
   refine ⟨fun k=>if k≤d then c else K k,by simp,fun k h1 h2=>?_⟩
   by_cases hk:k=d
   ·subst hk
    refine ⟨⟨by simp only [a2]; exact hw,cost,by simp only [a2]; exact hl,?_,?_⟩,?_⟩
    ·simp only [Nat.le_refl,if_true,show ¬k+1≤k by omega,if_false]
     rw [hK]; rfl
    ·simp only [show ¬k+1≤k by omega,if_false]
     rw [hK]; exact hr
    ·simp only [show ¬k+1≤k by omega,if_false]
     rw [hK]; exact a1
   ·obtain ⟨⟨b1,co,b2,b3,b4⟩,b5⟩:=hs k (by omega) (by omega)
    simp only at b1 b2 b3
    refine ⟨⟨b1,co,b2,?_,?_⟩,?_⟩
    ·simp only [show ¬k+1≤d by omega,show ¬k≤d by omega,if_false]; exact b3
    ·simp only [show ¬k+1≤d by omega,if_false]; exact b4
    ·simp only [show ¬k+1≤d by omega,if_false]; exact b5
theorem blown_of {q:Coal_book}{W:Nat→Nat}{K:Nat→Int}:∀ (r:Nat) (t:Coal_truth) (d:Nat),d+r≤6→(∀ k,d≤k→k < d+r→DayR q t.collier_ t.eats_ W K k)→
 ∃ u∈blown q r t d (K d),∀ k,d≤k→k < d+r→windAt k u=W k∧coalAt k u=K (k+1):=by
 intro r
 induction r with
 | zero=>intro t d _ _; exact ⟨t,List.mem_singleton.2 rfl,fun k h1 h2=>by omega⟩
 | succ r ih=>
   intro t d hd h
   obtain ⟨hw,cost,hl,he,hr⟩:=h d (by omega) (by omega)
   obtain ⟨u,hu,hs⟩:=ih (Coal_truth.mk t.eats_ t.collier_ (aset t.winds_ 6 d ((W d:Nat):Int)) (aset t.coal_ 6 d (K (d+1)))) (d+1) (by omega) (fun k h1 h2=>h k (by omega) (by omega))
   rw [he] at hu hr
   rw [show ((d+1:Nat):Int)=(d:Int)+1 by omega] at hu
   have a:=blown_at (by omega) hu
   refine ⟨u,blown_mk hw hl hr hu,fun k h1 h2=>?_⟩
   by_cases hk:k=d
   ·subst hk; exact ⟨a.2,by rw [a.1,he]⟩
   ·exact hs k (by omega) (by omega)
end Go.Proofs.YtblfippmobpaaaaDoor
namespace Go.Proofs.YtblfippmobpaaaaDoor
open Go Go.Fx
theorem burned_t:law_burned06=some true:=by kernel_rfl
theorem small_false (b:CoalBook):law_small06_j4 b false=some false:=by
 unfold law_small06_j4
 refine loop_fold (fun k=>(false,(k:Int))) 2 (fun rec k hk=>?_) (fun rec=>?_) (by rw [big_eq]; omega)
 ·unfold law_small06_l3
  simp only
  rw [decide_eq_true (by omega),cond_true,cond_false,wrN hk (by omega)]
 unfold law_small06_l3
 simp only
 rw [decide_eq_false (by omega),cond_false]
 exact loop_at fun rec=>rfl
theorem small_true (b:CoalBook) (A:Arg b) (V:ValC b):law_small06_j4 b true=some true:=by
 have h1:=A.dl; have h2:=A.pl; have h3:=A.el; have hd:=V.dn
 unfold law_small06_j4
 refine loop_fold (fun k=>(true,(k:Int))) 2 (fun rec k hk=>?_) (fun rec=>?_) (by rw [big_eq]; omega)
 ·unfold law_small06_l3
  simp only
  rw [decide_eq_true (by omega),cond_true,cond_true,need_of (by simp [inI]; omega),wrN hk (by omega),show agetS b.Eats (k:Int)=b.Eats[k]'(by omega) by simp [agetS,List.getD_eq_getElem?_getD,List.getElem?_eq_getElem (show k < b.Eats.length by omega)],spB_valid (V.ea _ (List.getElem_mem _))]
  rfl
 unfold law_small06_l3
 simp only
 rw [decide_eq_false (by omega),cond_false]
 refine loop_fold (fun k=>(true,(k:Int))) b.Dips.length (fun rec k hk=>?_) (fun rec=>?_) (by rw [big_eq]; omega)
 ·unfold law_small06_l2
  simp only
  have:=V.di b.Dips[k] (List.getElem_mem _)
  unfold dipB at this
  simp only [Bool.and_eq_true] at this
  rw [cond_true,decide_eq_true (by omega),cond_true,getI_ix hk,Option.bind_some,wrN hk h2,wrI (by omega) (by omega)]
  simp only [inside_eq,this.1.1,this.1.2,this.2,Option.bind_some,cond_true]
 unfold law_small06_l2
 simp only
 rw [cond_true,decide_eq_false (by omega),cond_false]
theorem small_eq (b:CoalBook) (A:Arg b):law_small06 b=some (valBC b):=by
 unfold law_small06
 rw [check_eqC b A,Option.bind_some]
 cases h:valBC b with
 | false=>rw [cond_false]; exact small_false b
 | true=>
   have V:=val_iffC.1 h
   have hd:=V.dn; have hp:=V.pn
   rw [cond_true]
   simp only [beq_self_eq_true,cond_true]
   rw [spB_valid V.hp,Option.bind_some,cond_true,inside_eq,Option.bind_some,inB_iff.2 (by omega),cond_true,decide_eq_true (by omega)]
   exact small_true b A V
theorem heap_bd {b:CoalBook} (V:ValC b):0≤b.Heap.Low∧b.Heap.Low≤b.Heap.High∧b.Heap.High≤400:=by
 have:=V.hp
 unfold spB at this
 simp only [Bool.and_eq_true,decide_eq_true_eq] at this
 omega
theorem alike_same (l:List Int) (hl:l.length≤1000000):B_Alike l l=some true:=by
 unfold B_Alike
 rw [bne_self_eq_false,cond_false]
 refine loop_fold (fun k=>(k:Int)) l.length (fun rec k hk=>?_) (fun rec=>?_) (by rw [big_eq]; omega)
 ·unfold B_Alike_l1
  rw [decide_eq_true (by omega),cond_true,getI_ix hk,Option.bind_some,Option.bind_some,bne_self_eq_false,cond_false,wrN hk (by omega)]
 ·unfold B_Alike_l1
  rw [decide_eq_false (by omega),cond_false]
theorem keepD_iff {l:List CoalDip}{but:List Int}{x:CoalDip}:∀ {n:Nat},x∈keepD l but n↔∃ i:Nat,i < n∧l[i]? =some x∧(i:Int) ∉ but
 | 0=>by simp [keepD]
 | n+1=>by
   unfold keepD
   have ih:=keepD_iff (l:=l) (but:=but) (x:=x) (n:=n)
   cases hc:but.contains (n:Int) with
   | true=>
     rw [cond_true,ih]
     have hm:(n:Int)∈but:=by simpa using hc
     constructor
     ·rintro ⟨i,h1,h2⟩; exact ⟨i,by omega,h2⟩
     ·rintro ⟨i,h1,h2,h3⟩
      refine ⟨i,?_,h2,h3⟩
      by_cases hi:i=n
      ·subst hi; exact absurd hm h3
      ·omega
   | false=>
     rw [cond_false,List.mem_append,ih]
     have hm:(n:Int) ∉ but:=by simpa using hc
     constructor
     ·rintro (⟨i,h1,h2⟩ | h)
      ·exact ⟨i,by omega,h2⟩
      ·refine ⟨n,by omega,?_,hm⟩
       cases hn:l[n]? with
       | none=>rw [hn] at h; cases h
       | some y=>rw [hn] at h; simp at h; rw [h]
     ·rintro ⟨i,h1,h2,h3⟩
      by_cases hi:i=n
      ·subst hi; right; rw [h2]; simp
      ·exact .inl ⟨i,by omega,h2,h3⟩
theorem right_iff {b:CoalBook}{but:List Int}{d n:Int}:rightB (opn b but) d n=true↔∀ (i:Nat) (y:CoalDip),b.Dips[i]? =some y→(i:Int) ∉ but→y.Day=d→-y.Error≤n - y.Read∧n - y.Read≤y.Error:=by
 unfold rightB
 rw [List.all_eq_true]
 constructor
 ·intro h i y hy hi hd
  have:=h y (keepD_iff.2 ⟨i,(List.getElem?_eq_some_iff.1 hy).1,hy,hi⟩)
  rw [show (y.Day==d)=true by simp [hd],Bool.not_true,Bool.false_or,inB_iff] at this
  exact this
 ·intro h y hy
  obtain ⟨i,_,h2,h3⟩:=keepD_iff.1 hy
  by_cases hd:y.Day=d
  ·rw [inB_iff.2 (h i y h2 h3 hd),Bool.or_true]
  ·rw [show (y.Day==d)=false by simpa using hd]; rfl
end Go.Proofs.YtblfippmobpaaaaDoor
namespace Go.Proofs.YtblfippmobpaaaaDoor
open Go Go.Fx
abbrev calm:CoalDay:=CoalDay.mk 1 1 1
def fuelX (b:CoalBook):CoalBook:=CoalBook.mk b.Heap b.Eats [0,0,0] (List.replicate b.Days.length calm) ⟨b.Days.length,b.Days.length⟩ 0 b.Dips
def surX (y:CoalDip):ChainSurvey:=ChainSurvey.mk 0 (y.Day+1) y.Read y.Error
def linkK (b:CoalBook) (r:Int):ChainBook:=ChainBook.mk [ChainSection.mk b.Heap (agetS b.Eats (0:Int))] [] (b.Dips.map surX) r b.Days.length
def lin (e:Int):Nat→Int
 | 0=>0
 | k+1=>lin e k+e
theorem worn_lin (w:List Int):∀ k,wornF 1 [] w 0 k=lin (w.getD 0 0) k
 | 0=>rfl
 | k+1=>by
   show wornF 1 [] w 0 k+w.getD 0 0=_
   rw [worn_lin w k]; rfl
theorem fuel_days (b:CoalBook):(fuelX b).Days.length=b.Days.length:=by simp [fuelX]
theorem fuel_val {b:CoalBook} (V:ValC b):ValC (fuelX b):=by
 have hd:=V.dn
 refine ⟨V.hp,?_,?_,⟨(show (0:Int)≤0 by decide),(show (0:Int)≤400 by decide)⟩,V.pn,V.ea,?_,?_,?_⟩
 ·rw [fuel_days]; exact hd
 ·unfold spB
  rw [fuel_days]
  show (decide ((0:Int)≤(b.Days.length:Int))&&decide ((b.Days.length:Int)≤(b.Days.length:Int))&&decide ((b.Days.length:Int)≤(b.Days.length:Int))&&decide ((b.Days.length:Int) - (b.Days.length:Int)≤3))=true
  simp only [Bool.and_eq_true,decide_eq_true_eq]; omega
 ·intro x hx
  simp [fuelX] at hx
  omega
 ·intro x hx
  rw [List.eq_of_mem_replicate hx]; rfl
 ·intro y hy
  rw [fuel_days]
  exact V.di y hy
theorem fuel_arg {b:CoalBook} (V:ValC b) (A:Arg b):Arg (fuelX b):=(fuel_val V).arg A.el rfl
theorem dip_bdF {b:CoalBook} (V:ValC b) {y:CoalDip} (h:y∈b.Dips):(0≤y.Day∧y.Day≤(b.Days.length:Int) - 1)∧(0≤y.Read∧y.Read≤800)∧0≤y.Error∧y.Error≤9:=dipB_iff (V.di y h)
theorem link_eq {b:CoalBook} (V:ValC b) (r:Int):law_link06 (fuelX b) r=some (linkK b r):=by
 have hd:=V.dn; have hp:=V.pn
 unfold law_link06
 refine loop_fold0 (fun k=>((k:Int),(b.Dips.take k).map surX)) b.Dips.length (fun rec k hk=>?_) (fun rec=>?_) (by rw [big_eq]; omega) rfl
 ·unfold law_link06_l2
  simp only
  have hy:=dip_bdF V (List.getElem_mem hk)
  rw [show (fuelX b).Dips=b.Dips from rfl,decide_eq_true (by omega),cond_true,getI_ix hk,Option.bind_some,wrI (x:=b.Dips[k].Day+1) (by omega) (by omega),need_of (by simp [fitsL]; omega),wrN hk (by omega),← List.take_append_getElem hk,List.map_append]
  rfl
 ·unfold law_link06_l2
  simp only
  rw [show (fuelX b).Dips=b.Dips from rfl,decide_eq_false (by omega),cond_false,List.take_length,fuel_days]
  rfl
theorem fuel_look {b:CoalBook}{but:List Int}{k:Nat} (hk:k < b.Days.length):lookL (opn (fuelX b) but).costs_ (Coal_gust.mk (k:Int) ((0:Nat):Int))=some 0:=by
 have hx:(fuelX b).Days[k]? =some calm:=by simp [fuelX,hk]
 have hb:bitB calm 0=true:=by decide +kernel
 have:=val_look (ex:=(fuelX b).Extra) (n:=(fuelX b).Days.length) hx hb (by omega) (by rw [fuel_days]; exact hk)
 refine this.trans ?_
 exact (show some (wr (1*aget [0,0,0] ((0:Nat):Int)))=some (0:Int) by decide +kernel)
theorem fuel_only {b:CoalBook}{but:List Int}{k w:Nat}{c:Int} (h:lookL (opn (fuelX b) but).costs_ (Coal_gust.mk (k:Int) (w:Int))=some c):w=0∧c=0:=by
 obtain ⟨x,hx,hb,hw,hc⟩:=look_val h
 have hx' :x=calm:=List.eq_of_mem_replicate (List.mem_of_getElem? hx)
 subst hx'
 have hw0:w=0:=by
  match w,hw with
  | 0,_=>rfl
  | 1,_=>exact absurd hb (by decide +kernel)
  | 2,_=>exact absurd hb (by decide +kernel)
 subst hw0
 refine ⟨rfl,hc.trans ?_⟩
 exact (show wr (1*aget [0,0,0] ((0:Nat):Int))=(0:Int) by decide +kernel)
theorem fuel_day {b:CoalBook}{but:List Int}{k:Nat} (hk:k < b.Days.length) (e:List Int) (c:Int):dayC (opn (fuelX b) but) (b.Days.length:Int) e k c 0=c - e.getD 0 0:=by
 unfold dayC eng
 have hx:(opn (fuelX b) but).CoalBook.Days[k]? =some calm:=by show (fuelX b).Days[k]? =_; simp [fuelX,hk]
 rw [show ((b.Days.length:Int)==(k:Int))=false by simp; omega,cond_false,Int.toNat_natCast,hx]
 have e1:((andI (shrI calm.Engines 0) 1)==1)=true:=by decide +kernel
 have e2:((andI (shrI calm.Engines 1) 1)==1)=false:=by decide +kernel
 simp only [e1,e2,cond_true,cond_false]
 show c - (e.getD 0 0*1+0) - 0=_
 omega
theorem rng_pointF {n x:Int}:x∈rng ⟨n,n⟩↔x=n:=by rw [rng_mem]; simp only; omega
section
variable {b:CoalBook} (V:ValC b)
include V
theorem fuel_of {l:List Int}{t:Coal_truth} (h:t∈truths (opn (fuelX b) l)):∃ z,(b.Heap.Low≤z∧z≤b.Heap.High)∧eatAt 0 t∈rng (agetS b.Eats (0:Int))∧(∀ (i:Nat) y,b.Dips[i]? =some y→(i:Int) ∉ l→-y.Error≤z - lin (eatAt 0 t) (y.Day.toNat+1) - y.Read∧z - lin (eatAt 0 t) (y.Day.toNat+1) - y.Read≤y.Error)∧∀ k,k < b.Days.length→coalAt k t=z - lin (eatAt 0 t) (k+1):=by
 have hd:=V.dn
 have he:=(truth_eats h).1
 rw [truth_mem] at h
 obtain ⟨z,h1,o,h2,p,h3,c,h4,ht⟩:=h
 have hl:(opn (fuelX b) l).CoalBook.Days.length=b.Days.length:=fuel_days b
 rw [hl] at ht
 obtain rfl:c=b.Days.length:=rng_pointF.1 h4
 obtain ⟨K,h0,hs⟩:=blown_run b.Days.length _ t 0 _ (by omega) ht
 have e0:eatAt 0 t=o:=by unfold eatAt; rw [(blown_keep ht).2]; rfl
 rw [e0]
 have step:∀ k,k < b.Days.length→K (k+1)=K k - o∧rightB (opn (fuelX b) l) k (K (k+1))=true∧coalAt k t=K (k+1):=by
  intro k hk
  obtain ⟨⟨g1,cost,g2,g3,g4⟩,g5⟩:=hs k (by omega) (by omega)
  obtain ⟨_,rfl⟩:=fuel_only g2
  exact ⟨g3.trans (fuel_day hk _ _),g4,g5⟩
 have run:∀ k,k≤b.Days.length→K k=z - lin o k:=by
  intro k
  induction k with
  | zero=>intro _; rw [h0]; show z=z - 0; omega
  | succ k ih=>
    intro hk
    have:=ih (by omega)
    have:=(step k (by omega)).1
    show K (k+1)=z - (lin o k+o)
    omega
 refine ⟨z,rng_mem.1 h1,by rw [← e0]; exact he,fun i y hy hi=>?_,fun k hk=>?_⟩
 ·obtain ⟨⟨d0,d1⟩,_,_⟩:=dip_bdF V (List.mem_of_getElem? hy)
  have hk:y.Day.toNat < b.Days.length:=by omega
  have:=right_iff.1 (step _ hk).2.1 i y hy hi (by omega)
  rw [run _ hk] at this
  exact this
 ·rw [(step k hk).2.2,run _ hk]
theorem of_fuel {l:List Int}{z o:Int} (hz:b.Heap.Low≤z∧z≤b.Heap.High) (ho:o∈rng (agetS b.Eats (0:Int))) (hp:∃ p,p∈rng (agetS b.Eats (1:Int))) (hs:∀ (i:Nat) y,b.Dips[i]? =some y→(i:Int) ∉ l→-y.Error≤z - lin o (y.Day.toNat+1) - y.Read∧z - lin o (y.Day.toNat+1) - y.Read≤y.Error):
 ∃ t∈truths (opn (fuelX b) l),eatAt 0 t=o∧∀ k,k < b.Days.length→coalAt k t=z - lin o (k+1):=by
 have hd:=V.dn
 obtain ⟨p,hp⟩:=hp
 have run:∀ k,0≤k→k < 0+b.Days.length→DayR (opn (fuelX b) l) (init o p b.Days.length).collier_ (init o p b.Days.length).eats_ (fun _=>0) (fun k=>z - lin o k) k:=by
  intro k _ hk
  have hk:k < b.Days.length:=by omega
  refine ⟨(show 0 < 3 by decide),0,fuel_look hk,?_,right_iff.2 fun i y hy hi hyd=>?_⟩
  ·refine Eq.trans ?_ (fuel_day hk _ _).symm
   show z - (lin o k+o)=z - lin o k - o
   omega
  ·have:=hs i y hy hi
   rw [show y.Day.toNat+1=k+1 by omega] at this
   exact this
 obtain ⟨u,hu,hs⟩:=blown_of b.Days.length _ 0 (by omega) run
 have hu' :u∈blown (opn (fuelX b) l) b.Days.length (init o p b.Days.length) 0 z:=by
  have e:z - lin o 0=z:=by show z - 0=z; omega
  rw [e] at hu
  simpa using hu
 have hl:(opn (fuelX b) l).CoalBook.Days.length=b.Days.length:=fuel_days b
 refine ⟨u,?_,?_,fun k hk=>(hs k (by omega) (by omega)).2⟩
 ·rw [truth_mem]
  refine ⟨z,rng_mem.2 hz,o,ho,p,hp,_,rng_pointF.2 rfl,?_⟩
  rw [hl]; exact hu'
 ·unfold eatAt; rw [(blown_keep hu').2]; rfl
theorem to_link {r:Int} (VK:ValK (linkK b r)) {l:List Int}{t:Coal_truth} (h:t∈truths (opn (fuelX b) l)):∃ z,∃ u∈TKO (linkK b r) l,u.wears_.getD 0 0=eatAt 0 t∧((u.first_.getD 0 default).Low≤z∧z≤(u.first_.getD 0 default).High)∧∀ k,k < b.Days.length→coalAt k t=z - lin (eatAt 0 t) (k+1):=by
 obtain ⟨z,hz,ho,hs,hc⟩:=fuel_of V h
 have hw:=rng_mem.1 ho
 have S:=secK_of (VK.se _ (List.getElem_mem (l:=(linkK b r).Sections) (n:=0) (show 0 < 1 by decide)))
 have w0:0≤(agetS b.Eats (0:Int)).Low:=S.w0
 have w3:(agetS b.Eats (0:Int)).High≤3:=S.w3
 have W:Wear (opnK (linkK b r) l) [eatAt 0 t,0,0,0]:=by
  refine ⟨⟨rfl,fun k=>?_⟩,fun p hp=>?_,fun p hp=>?_⟩
  ·match k with
   | 0=>exact ⟨show 0≤eatAt 0 t by omega,show eatAt 0 t≤3 by omega⟩
   | 1=>exact ⟨(show (0:Int)≤0 by decide),(show (0:Int)≤3 by decide)⟩
   | 2=>exact ⟨(show (0:Int)≤0 by decide),(show (0:Int)≤3 by decide)⟩
   | 3=>exact ⟨(show (0:Int)≤0 by decide),(show (0:Int)≤3 by decide)⟩
   | k+4=>exact ⟨by simp,by simp⟩
  ·have hp:p < 1:=hp
   obtain rfl:p=0:=by omega
   exact hw
  ·have hp:1≤p:=hp
   match p with
   | 1=>rfl
   | 2=>rfl
   | 3=>rfl
   | p+4=>simp
 have says:∀ x:Int,(b.Heap.Low≤x∧x≤b.Heap.High)→(∀ (i:Nat) y,b.Dips[i]? =some y→(i:Int) ∉ l→-y.Error≤x - lin (eatAt 0 t) (y.Day.toNat+1) - y.Read∧x - lin (eatAt 0 t) (y.Day.toNat+1) - y.Read≤y.Error)→∀ (i:Nat) y,(linkK b r).Surveys[i]? =some y→(i:Int) ∉ l→y.Section=(0:Nat)→Says (wornF (linkK b r).Sections.length (linkK b r).Turns [eatAt 0 t,0,0,0] (0:Nat)) y x:=by
  intro x hx hs i y hy hi _
  have hy:(b.Dips.map surX)[i]? =some y:=hy
  rw [List.getElem?_map] at hy
  obtain ⟨y0,hy0,rfl⟩:=Option.map_eq_some_iff.1 hy
  have:=hs i y0 hy0 hi
  obtain ⟨⟨d0,d1⟩,_,_⟩:=dip_bdF V (List.mem_of_getElem? hy0)
  unfold Says
  show y0.Read - y0.Error+wornF 1 [] [eatAt 0 t,0,0,0] 0 (y0.Day+1).toNat≤x∧x≤y0.Read+y0.Error+wornF 1 [] [eatAt 0 t,0,0,0] 0 (y0.Day+1).toNat
  rw [worn_lin,show (y0.Day+1).toNat=y0.Day.toNat+1 by omega]
  show y0.Read - y0.Error+lin (eatAt 0 t) (y0.Day.toNat+1)≤x∧x≤y0.Read+y0.Error+lin (eatAt 0 t) (y0.Day.toNat+1)
  omega
 obtain ⟨u,hu,hue⟩:=truth_ex VK (but:=l) W (fun s hs' =>by
  have hs' :s < 1:=hs'
  obtain rfl:s=0:=by omega
  exact ⟨z,hz,says z hz hs⟩)
 refine ⟨z,u,hu,by rw [hue]; rfl,?_,hc⟩
 obtain ⟨_,_,f3⟩:=first_iff VK hu (s:=0) (by show 0 < 1; decide)
 rw [f3,hue]
 exact ⟨hz,says z hz hs⟩
theorem of_link {r:Int} (VK:ValK (linkK b r)) (hp:∃ p,p∈rng (agetS b.Eats (1:Int))) {l:List Int}{u:Chain_truth} (h:u∈TKO (linkK b r) l) {x:Int} (hx:(u.first_.getD 0 default).Low≤x∧x≤(u.first_.getD 0 default).High):∃ t∈truths (opn (fuelX b) l),eatAt 0 t=u.wears_.getD 0 0∧∀ k,k < b.Days.length→coalAt k t=x - lin (u.wears_.getD 0 0) (k+1):=by
 obtain ⟨_,_,f3⟩:=first_iff VK h (s:=0) (by show 0 < 1; decide)
 obtain ⟨W,_⟩:=(truthK_iff (opn_k VK l)).1 h
 obtain ⟨g1,g2⟩:=(f3 x).1 hx
 refine of_fuel V g1 (rng_mem.2 (W.sec 0 (by show 0 < 1; decide))) hp (fun i y hy hi=>?_)
 have hy' :(linkK b r).Surveys[i]? =some (surX y):=by
  show (b.Dips.map surX)[i]? =_
  rw [List.getElem?_map,hy]; rfl
 have:=g2 i _ hy' hi rfl
 obtain ⟨⟨d0,d1⟩,_,_⟩:=dip_bdF V (List.mem_of_getElem? hy)
 have this:y.Read - y.Error+wornF 1 [] u.wears_ 0 (y.Day+1).toNat≤x∧x≤y.Read+y.Error+wornF 1 [] u.wears_ 0 (y.Day+1).toNat:=this
 rw [worn_lin,show (y.Day+1).toNat=y.Day.toNat+1 by omega] at this
 omega
theorem can_link {r:Int} (VK:ValK (linkK b r)) (hp:∃ p,p∈rng (agetS b.Eats (1:Int))) {l:List Int}:CanOC (fuelX b) l↔CanOK (linkK b r) l:=by
 constructor
 ·intro h
  obtain ⟨t,ht⟩:=List.exists_mem_of_ne_nil _ h
  obtain ⟨_,u,hu,_⟩:=to_link V VK ht
  exact List.ne_nil_of_mem hu
 ·intro h
  obtain ⟨u,hu⟩:=List.exists_mem_of_ne_nil _ h
  obtain ⟨f1,_,_⟩:=first_iff VK hu (s:=0) (by show 0 < 1; decide)
  obtain ⟨t,ht,_⟩:=of_link V VK hp hu ⟨Int.le_refl _,f1⟩
  exact List.ne_nil_of_mem ht
end
end Go.Proofs.YtblfippmobpaaaaDoor
namespace Go.Proofs.YtblfippmobpaaaaDoor
open Go Go.Fx
theorem hi_val {b:CoalBook} (V:ValC b) {r:Int} (r0:0≤r) (r1:r≤b.Heap.Low) (hr:∀ y∈b.Dips,r≤y.Read):ValC (hiB b (-r)):=by
 have hh:=heap_bd V
 have h4:=V.hp
 unfold spB at h4
 simp only [Bool.and_eq_true,decide_eq_true_eq] at h4
 refine ⟨?_,V.dn,V.co,V.br,?_,V.ea,V.ex,V.da,?_⟩
 ·unfold spB hiB
  simp only [Bool.and_eq_true,decide_eq_true_eq]
  omega
 ·show (b.Dips.map _).length≤4
  rw [List.length_map]; exact V.pn
 ·intro x hx
  obtain ⟨y,hy,rfl⟩:=List.mem_map.1 hx
  have:=V.di y hy
  have hry:=hr y hy
  unfold dipB at this ⊢
  simp only [Bool.and_eq_true,inB_iff,dipUp] at this ⊢
  refine ⟨⟨this.1.1,?_⟩,this.2⟩
  have:=this.1.2
  show 0≤y.Read+-r∧y.Read+-r≤800
  omega
theorem lower_law {b:CoalBook} (V:ValC b) (A:Arg b) {r:Int} (r0:0≤r) (r1:r≤b.Heap.Low) (VK:ValK (linkK b r)) (hp:∃ p,p∈rng (agetS b.Eats (1:Int))) (hne:TT (fuelX b)≠[]):law_lower06 (fuelX b) r=some true:=by
 have hh:=heap_bd V; have hd:=V.dn; have hpn:=V.pn
 have VX:=fuel_val V; have AX:=fuel_arg V A
 unfold law_lower06
 rw [show (fuelX b).Heap=b.Heap from rfl,wrI (x:=b.Heap.Low - r) (by omega) (by omega),wrI (x:=b.Heap.High - r) (by omega) (by omega),show B_Range (b.Heap.Low - r) (b.Heap.High - r)=some ⟨b.Heap.Low - r,b.Heap.High - r⟩ from rfl,Option.bind_some]
 refine Exists.elim (loopF_inv (body:=law_lower06_l2 (fuelX b) r ⟨b.Heap.Low - r,b.Heap.High - r⟩) (fun z:Int×List CoalDip=>∃ k:Nat,z=((k:Int),(b.Dips.take k).map (dipUp (-r)))∧k≤b.Dips.length∧∀ y∈b.Dips.take k,r≤y.Read) (fun z=>b.Dips.length - z.1.toNat) (fun x=>x=true) ?_ big (0,[]) ⟨0,rfl,Nat.zero_le _,by simp⟩ (by rw [big_eq]; simp; omega)) fun x ⟨h1,h2⟩=>by rw [h1,h2]
 rintro rec _ ⟨k,rfl,hk,hy⟩ ih
 unfold law_lower06_l2
 simp only
 rw [show (fuelX b).Dips=b.Dips from rfl]
 by_cases hlt:k < b.Dips.length
 ·have hb:=dip_bdF V (List.getElem_mem hlt)
  rw [decide_eq_true (by omega),cond_true,getI_ix hlt,Option.bind_some,wrI (x:=b.Dips[k].Read - r) (by omega) (by omega)]
  by_cases hl:b.Dips[k].Read - r < 0
  ·rw [decide_eq_true hl,cond_true]; exact ⟨_,rfl,rfl⟩
  ·rw [decide_eq_false hl,cond_false,need_of (by simp [fitsL]; omega),wrN hlt (by omega)]
   refine ih _ ⟨k+1,?_,by omega,fun y hm=>?_⟩ (by simp only; omega)
   ·rw [← List.take_append_getElem hlt,List.map_append]
    rfl
   ·rw [← List.take_append_getElem hlt,List.mem_append] at hm
    rcases hm with hm | hm
    ·exact hy y hm
    ·simp at hm; subst hm; omega
 ·rw [decide_eq_false (by omega),cond_false,List.take_of_length_le (by omega)]
  rw [List.take_of_length_le (by omega)] at hy
  have e:CoalBook.mk ⟨b.Heap.Low - r,b.Heap.High - r⟩ (fuelX b).Eats (fuelX b).Extra (fuelX b).Days (fuelX b).Collier (fuelX b).Brings (b.Dips.map (dipUp (-r)))=hiB (fuelX b) (-r):=rfl
  have VY:ValC (hiB (fuelX b) (-r)):=hi_val VX r0 r1 hy
  have AY:Arg (hiB (fuelX b) (-r)):=VY.arg AX.el AX.xl
  rw [e]
  have hT:TT (hiB (fuelX b) (-r))=(TT (fuelX b)).map (shT (-r) (fuelX b).Days.length):=truths_shift (by rw [fuel_days]; omega) _ _
  have hneY:TT (hiB (fuelX b) (-r))≠[]:=by rw [hT]; simpa using hne
  have hK:TKb (linkK b r)≠[]:=(can_link V VK hp).1 hne
  obtain ⟨x,hx,_,X⟩:=day_law VY AY
  obtain ⟨y,hy',_,Y⟩:=thin_law VK (s:=0) (show 0 < 1 by decide)
  have X:=X hneY; have Y:=Y hK
  have hdY:(hiB (fuelX b) (-r)).Days.length=b.Days.length:=fuel_days b
  have hdK:(linkK b r).Days=b.Days.length:=rfl
  rw [hdY] at X
  rw [hdK] at Y
  have hyz:chain_Thin (linkK b r) 0=some y:=hy'
  rw [hx,Option.bind_some,link_eq V,Option.bind_some,hyz,Option.bind_some]
  have c1:∀ t∈TT (hiB (fuelX b) (-r)),∃ u∈TKb (linkK b r),∀ k,k < b.Days.length→(thickF (linkK b r) 0 (k+1) u).Low - r≤coalAt k t:=by
   intro t ht
   rw [hT] at ht
   obtain ⟨t0,ht0,rfl⟩:=List.mem_map.1 ht
   obtain ⟨z,u,hu,hw,hf,hc⟩:=to_link V VK ht0
   refine ⟨u,hu,fun k hk=>?_⟩
   rw [coal_shift (by rw [fuel_days]; exact hk) (by rw [fuel_days]; omega),hc k hk]
   show (u.first_.getD 0 default).Low - wornF 1 [] u.wears_ 0 (k+1) - r≤_
   rw [worn_lin,hw]
   omega
  have c2:∀ u∈TKb (linkK b r),∃ t∈TT (hiB (fuelX b) (-r)),∀ k,k < b.Days.length→coalAt k t=(thickF (linkK b r) 0 (k+1) u).Low - r:=by
   intro u hu
   obtain ⟨f1,_,_⟩:=first_iff VK hu (s:=0) (show 0 < 1 by decide)
   obtain ⟨t,ht,hw,hc⟩:=of_link V VK hp hu ⟨Int.le_refl _,f1⟩
   refine ⟨shT (-r) (fuelX b).Days.length t,by rw [hT]; exact List.mem_map.2 ⟨t,ht,rfl⟩,fun k hk=>?_⟩
   rw [coal_shift (by rw [fuel_days]; exact hk) (by rw [fuel_days]; omega),hc k hk]
   show _=(u.first_.getD 0 default).Low - wornF 1 [] u.wears_ 0 (k+1) - r
   rw [worn_lin]
   omega
  have z0:∀ u∈TKb (linkK b r),r≤(thickF (linkK b r) 0 0 u).Low:=by
   intro u hu
   obtain ⟨f1,_,f3⟩:=first_iff VK hu (s:=0) (show 0 < 1 by decide)
   have g:b.Heap.Low≤(u.first_.getD 0 default).Low:=((f3 _).1 ⟨Int.le_refl _,f1⟩).1.1
   show r≤(u.first_.getD 0 default).Low - 0
   omega
  have hru:(linkK b r).Rule=r:=rfl
  rw [hru] at Y
  rcases X with ⟨d,hdl,rfl,⟨t,ht,htl⟩,hlow⟩ | ⟨rfl,hlow⟩
  ·obtain ⟨u,hu,hc⟩:=c1 t ht
   have hthin:=hc d hdl
   rcases Y with ⟨k,hk,rfl,⟨v,hv,hvl⟩,hbe⟩ | ⟨rfl,hbe⟩
   ·
    have hk0:k≠0:=by rintro rfl; have:=z0 v hv; omega
    obtain ⟨j,rfl⟩:∃ j,k=j+1:=⟨k - 1,by omega⟩
    have h1:¬d+1 < j+1:=fun h=>by have:=hbe (d+1) h u hu; omega
    obtain ⟨t',ht',hc'⟩:=c2 v hv
    have h2:¬j < d:=fun h=>by have:=hlow j h t' ht'; have:=hc' j (by omega); omega
    obtain rfl:j=d:=by omega
    refine ⟨true,?_,rfl⟩
    simp only [bne_self_eq_false,cond_false,beq_self_eq_true,cond_true]
    rw [wrI (x:=(j:Int)+1) (by omega) (by omega)]
    simp
   ·have:=hbe (d+1) (by omega) u hu
    omega
  ·rcases Y with ⟨k,hk,rfl,⟨v,hv,hvl⟩,hbe⟩ | ⟨rfl,hbe⟩
   ·have hk0:k≠0:=by rintro rfl; have:=z0 v hv; omega
    obtain ⟨j,rfl⟩:∃ j,k=j+1:=⟨k - 1,by omega⟩
    obtain ⟨t',ht',hc'⟩:=c2 v hv
    have:=hlow j (by omega) t' ht'
    have:=hc' j (by omega)
    omega
   ·exact ⟨true,rfl,rfl⟩
theorem few_link {b:CoalBook} (V:ValC b) {r:Int} (VK:ValK (linkK b r)) (hp:∃ p,p∈rng (agetS b.Eats (1:Int))) {w v:List Int} (F:FewC (fuelX b) w) (G:FewK (linkK b r) v):w=v:=by
 have e:(linkK b r).Surveys.length=(fuelX b).Dips.length:=by show (b.Dips.map _).length=b.Dips.length; rw [List.length_map]
 have gc:Clm v (fuelX b).Dips.length:=by have:=G.clm; rwa [e] at this
 have fc:Clm w (linkK b r).Surveys.length:=by rw [e]; exact F.clm
 have h1:=F.len v gc ((can_link V VK hp).2 G.can)
 have h2:=G.len w fc ((can_link V VK hp).1 F.can)
 have hl:w.length=v.length:=by omega
 exact lex_same hl (G.lex w fc ((can_link V VK hp).1 F.can) hl) (F.lex v gc ((can_link V VK hp).2 G.can) hl.symm)
theorem law_topFuel (b:CoalBook) (A:Arg b) (n:List Int):law_TopFuel b n=some true:=by
 unfold law_TopFuel
 rw [small_eq b A,Option.bind_some]
 cases hv:valBC b
 case false=>rw [Bool.not_false,cond_true,burned_t]; rfl
 have V:=val_iffC.1 hv
 have hdn:=V.dn; have hpn:=V.pn
 have hh:=heap_bd V
 rw [Bool.not_true,cond_false,show B_Point (b.Days.length:Int)=some ⟨(b.Days.length:Int),(b.Days.length:Int)⟩ from rfl,Option.bind_some]
 refine loop_fold0 (fun k=>((k:Int),List.replicate k calm)) b.Days.length (fun rec k hk=>?_) (fun rec=>?_) (by rw [big_eq]; omega) rfl
 ·unfold law_TopFuel_l2
  simp only
  rw [decide_eq_true (by omega),cond_true,need_of (by simp [fitsL]; omega),wrN hk (by omega),List.replicate_succ']
 unfold law_TopFuel_l2
 simp only
 rw [decide_eq_false (by omega),cond_false,wrI (x:=b.Heap.Low+1) (by omega) (by omega)]
 obtain ⟨r,hr,hrl⟩:=modN (aget n 0) (n:=b.Heap.Low.toNat+1) (by omega) (by omega)
 obtain ⟨d,hm,hd⟩:=modN (aget n 1) (n:=b.Days.length) (by omega) (by omega)
 rw [show ((b.Heap.Low.toNat+1:Nat):Int)=b.Heap.Low+1 by omega] at hr
 rw [hr,Option.bind_some,hm,Option.bind_some]
 rw [show CoalBook.mk b.Heap b.Eats [0,0,0] (List.replicate b.Days.length calm) ⟨(b.Days.length:Int),(b.Days.length:Int)⟩ 0 b.Dips=fuelX b from rfl]
 have AK:ArgK (linkK b r):=⟨by show 1≤_; omega,by show 0≤_; omega,by show (b.Dips.map _).length≤_; rw [List.length_map]; omega⟩
 rw [link_eq V,Option.bind_some,check_k _ AK,Option.bind_some]
 cases hk:valK (linkK b r)
 case false=>
  simp only [cond_false]
  rw [show ((10:Int) != 0)=true from rfl,cond_true,burned_t]; rfl
 have VK:=valK_iff.1 hk
 simp only [cond_true,bne_self_eq_false,cond_false]
 have VX:=fuel_val V; have AX:=fuel_arg V A
 have hp:∃ p,p∈rng (agetS b.Eats (1:Int)):=by
  have h1:=V.ea _ (agetS_mem (l:=b.Eats) (i:=1) (by rw [A.el]; decide))
  unfold spB at h1
  simp only [Bool.and_eq_true,decide_eq_true_eq] at h1
  exact ⟨_,rng_mem.2 ⟨Int.le_refl _,h1.1.1.2⟩⟩
 obtain ⟨w,hw,F⟩:=wrong_law VX AX
 have hlen:(linkK b r).Surveys.length=(fuelX b).Dips.length:=by show (b.Dips.map _).length=b.Dips.length; rw [List.length_map]
 obtain ⟨v,hv',G⟩:=wrong_eqK VK (by rw [hlen]; exact (can_link V VK hp).1 (hall VX AX))
 obtain rfl:=few_link V VK hp F G
 have wl:=F.clm.len (by have:=VX.pn; omega)
 have e1:(!(TT (fuelX b)).isEmpty)=(!(TKb (linkK b r)).isEmpty):=by
  rw [Bool.eq_iff_iff]
  have:=can_link V VK hp (l:=[])
  unfold CanOC CanOK at this
  simpa using this
 rw [right_law VX AX,Option.bind_some,right_lawK VK,Option.bind_some,hw,Option.bind_some,hv',Option.bind_some]
 simp only [bne_self_eq_false,cond_false]
 rw [e1]
 simp only [bne_self_eq_false,cond_false]
 rw [alike_same w (by have:=VX.pn; omega),Option.bind_some]
 simp only [Bool.not_true,cond_false]
 cases he:(TKb (linkK b r)).isEmpty with
 | true=>rw [Bool.not_true,Bool.not_false,cond_true,burned_t]; rfl
 | false=>
   have hK:TKb (linkK b r)≠[]:=by simpa using he
   have hX:TT (fuelX b)≠[]:=(can_link V VK hp (l:=[])).2 hK
   have hemp:(TT (fuelX b)).isEmpty=false:=by simpa using hX
   rw [Bool.not_false,Bool.not_true,cond_false,wrI (x:=(d:Int)+1) (by omega) (by omega)]
   obtain ⟨s,hs,S⟩:=heap_law VX AX (d:=d) (by rw [fuel_days]; exact hd)
   obtain ⟨e,hes,E⟩:=eats_law VX AX (e:=0) (by decide)
   have hth:∃ sp,chain_Thick (linkK b r) 0 ((d:Int)+1)=some (sp,0)∧HullOf (thickF (linkK b r) 0 (d+1)) (TKb (linkK b r)) sp:=by
    rcases thick_law VK (s:=0) (d:=d+1) (show 0 < 1 by decide) (by show ((d+1:Nat):Int)≤(b.Days.length:Int); omega) with ⟨h,_⟩ | ⟨_,h⟩
    ·exact absurd h hK
    ·rw [show ((d+1:Nat):Int)=(d:Int)+1 by omega] at h; exact h
   have hwe:∃ sp,chain_Wear (linkK b r) 0=some (sp,0)∧HullOf (wearF 0) (TKb (linkK b r)) sp:=by
    rcases wear_law VK (p:=0) (show 0 < 1 by decide) with ⟨h,_⟩ | ⟨_,h⟩
    ·exact absurd h hK
    ·exact h
   obtain ⟨p,hth,P⟩:=hth
   obtain ⟨q,hwe,Q⟩:=hwe
   have hes:coal_Eats (fuelX b) 0=some (e,bif (TT (fuelX b)).isEmpty then 62 else 0):=hes
   rw [hs,Option.bind_some,hth,Option.bind_some,hes,Option.bind_some,hwe,Option.bind_some,hemp]
   simp only [cond_false,bne_self_eq_false]
   have thF:∀ u:Chain_truth,thickF (linkK b r) 0 (d+1) u=⟨(u.first_.getD 0 default).Low - lin (u.wears_.getD 0 0) (d+1),(u.first_.getD 0 default).High - lin (u.wears_.getD 0 0) (d+1)⟩:=by
    intro u
    show Span.mk ((u.first_.getD 0 default).Low - wornF 1 [] u.wears_ 0 (d+1)) ((u.first_.getD 0 default).High - wornF 1 [] u.wears_ 0 (d+1))=_
    rw [worn_lin]
   have q1:s.Low=p.Low:=by
    obtain ⟨t,ht,hte⟩:=S.low hX
    obtain ⟨z,u,hu,hw1,hf,hc⟩:=to_link V VK ht
    have a1:=P.le u hu
    have a2:=hc d hd
    rw [thF] at a1
    simp only [hw1] at a1
    obtain ⟨u',hu',hue⟩:=P.low
    obtain ⟨f1,_,_⟩:=first_iff VK hu' (s:=0) (show 0 < 1 by decide)
    obtain ⟨t',ht',hw2,hc'⟩:=of_link V VK hp hu' ⟨Int.le_refl _,f1⟩
    have b1:=S.le t' ht'
    have b2:=hc' d hd
    rw [thF] at hue
    simp only at hue
    omega
   have q2:s.High=p.High:=by
    obtain ⟨t,ht,hte⟩:=S.high hX
    obtain ⟨z,u,hu,hw1,hf,hc⟩:=to_link V VK ht
    have a1:=P.ge u hu
    have a2:=hc d hd
    rw [thF] at a1
    simp only [hw1] at a1
    obtain ⟨u',hu',hue⟩:=P.high
    obtain ⟨f1,_,_⟩:=first_iff VK hu' (s:=0) (show 0 < 1 by decide)
    obtain ⟨t',ht',hw2,hc'⟩:=of_link V VK hp hu' ⟨f1,Int.le_refl _⟩
    have b1:=S.ge t' ht'
    have b2:=hc' d hd
    rw [thF] at hue
    simp only at hue
    omega
   have q3:e.Low=q.Low∧e.High=q.High:=by
    have wf:∀ u:Chain_truth,wearF 0 u=⟨u.wears_.getD 0 0,u.wears_.getD 0 0⟩:=fun _=>rfl
    constructor
    ·obtain ⟨t,ht,hte⟩:=E.low hX
     obtain ⟨z,u,hu,hw1,hf,hc⟩:=to_link V VK ht
     have a1:=Q.le u hu
     obtain ⟨u',hu',hue⟩:=Q.low
     obtain ⟨f1,_,_⟩:=first_iff VK hu' (s:=0) (show 0 < 1 by decide)
     obtain ⟨t',ht',hw2,hc'⟩:=of_link V VK hp hu' ⟨Int.le_refl _,f1⟩
     have b1:=E.le t' ht'
     rw [wf] at hue a1
     simp only at hue a1
     omega
    ·obtain ⟨t,ht,hte⟩:=E.high hX
     obtain ⟨z,u,hu,hw1,hf,hc⟩:=to_link V VK ht
     have a1:=Q.ge u hu
     obtain ⟨u',hu',hue⟩:=Q.high
     obtain ⟨f1,_,_⟩:=first_iff VK hu' (s:=0) (show 0 < 1 by decide)
     obtain ⟨t',ht',hw2,hc'⟩:=of_link V VK hp hu' ⟨Int.le_refl _,f1⟩
     have b1:=E.ge t' ht'
     rw [wf] at hue a1
     simp only at hue a1
     omega
   rw [q1,q2,q3.1,q3.2]
   simp only [beq_self_eq_true,Bool.and_self,Bool.not_true,cond_false]
   rw [lower_law V A (by omega) (by omega) VK hp hX,Option.bind_some,cond_true,burned_t]
   rfl
end Go.Proofs.YtblfippmobpaaaaDoor
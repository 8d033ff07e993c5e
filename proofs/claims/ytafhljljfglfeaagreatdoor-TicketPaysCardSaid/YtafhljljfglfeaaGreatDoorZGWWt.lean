/- Plain facts: the specification's truths of a book of tickets. -/
import Derived.Test.YtafhljljfglfeaaGreatDoorZGPRefA
import Derived.Test.YtafhljljfglfeaaGreatDoorZGWArgs
import Derived.KernelRfl
set_option linter.unusedVariables false
set_option linter.unusedSimpArgs false
namespace Go.Proofs.YtafhljljfglfeaaGreatDoor
open Go Go.Fx
theorem grown_eq {l:List Int} (h:l.length≤1000) (x:Int):B_Grown l x=some (l++[x]):=by
 have e:l++List.drop l.length (List.replicate (wr ((l.length:Int)+1)).toNat (0:Int))=l++[0]:=by
  rw [wrI (by omega) (by omega),show ((l.length:Int)+1).toNat=l.length+1 by omega,List.drop_replicate,show l.length+1 - l.length=1 by omega,List.replicate_one]
 unfold B_Grown
 rw [e,wrI (by omega) (by omega),need_of (by simp [inI]; try omega),need_of (by simp; try omega),getI_nat,List.getElem?_append_right (Nat.le_refl _),Nat.sub_self]
 show some _=_
 congr 1
 rw [show ((l.length:Int)).toNat=l.length from rfl,List.set_append_right _ _ (Nat.le_refl _),Nat.sub_self]; rfl
def covN (b:TicketBook) (d:Nat):Nat:=((ref10_covers b d).getD 0).toNat
def shwN (b:TicketBook) (d:Nat):Nat:=((ref10_shown b d).getD 0).toNat
theorem covN_ok {b:TicketBook} (V:VT b) (d:Nat):ref10_covers b d=some (covN b d:Int)∧covN b d < 8∧∀ n:Nat,(covN b d).testBit n=true↔∃ x,b.Tickets[n]? =some x∧x.From≤d∧(d:Int)≤x.To:=by
 obtain ⟨s,h1,h2,h3⟩:=rcovers V d
 have:covN b d=s:=by unfold covN; rw [h1]; rfl
 rw [this]; exact ⟨h1,h2,h3⟩
theorem shwN_ok {b:TicketBook} (V:VT b) (d:Nat):ref10_shown b d=some (shwN b d:Int)∧shwN b d < 8∧∀ n:Nat,(shwN b d).testBit n=true↔∃ x∈b.Shows,x.Trip=d∧x.Ticket=n:=by
 obtain ⟨s,h1,h2,h3⟩:=rshown V d
 have:shwN b d=s:=by unfold shwN; rw [h1]; rfl
 rw [this]; exact ⟨h1,h2,h3⟩
def boxR (b:TicketBook) (c u:List Int):Bool:=b.Boxes.all fun x=>!(x.To==(c.length:Int) - 1)||fitsN b.Fare c u x
def canR (b:TicketBook) (c:List Int):Bool:=((tally_Can b.Tally c).map (·.1)).getD false
def okR (b:TicketBook) (d n s:Nat):Bool:=(andNotI (s:Int) (covN b d:Int)==0)&&(andNotI (shwN b d:Int) (s:Int)==0)&&decide (popN s≤(n:Int))
def goesL (b:TicketBook):Nat→List Int→List Int→List Ref10_truth
 | 0,c,u=>bif boxR b c u then (bif canR b c then [⟨c,u⟩] else []) else []
 | r+1,c,u=>bif boxR b c u then (List.range (b.Tally.Room.toNat+1)).flatMap fun n=>(List.range 8).flatMap fun s=>bif okR b c.length n s then goesL b r (c++[(n:Int)]) (u++[(s:Int)]) else [] else []
theorem goesL_zero (b:TicketBook) (c u:List Int):goesL b 0 c u=bif boxR b c u then (bif canR b c then [⟨c,u⟩] else []) else []:=rfl
theorem goesL_succ (b:TicketBook) (r:Nat) (c u:List Int):goesL b (r+1) c u=bif boxR b c u then (List.range (b.Tally.Room.toNat+1)).flatMap fun n=>(List.range 8).flatMap fun s=>bif okR b c.length n s then goesL b r (c++[(n:Int)]) (u++[(s:Int)]) else [] else []:=rfl
theorem goesL_len {b:TicketBook} (V:VT b):∀ (r:Nat) (c u:List Int),(goesL b r c u).length≤48 ^ r
 | 0,c,u=>by
   unfold goesL
   cases boxR b c u <;> cases canR b c <;> simp
 | r+1,c,u=>by
   have r5:=V.r5; have r0:=V.ta.r0
   unfold goesL
   cases boxR b c u with
   | false=>simp
   | true=>
     rw [cond_true]
     have h1:∀ n∈List.range (b.Tally.Room.toNat+1),((List.range 8).flatMap fun s=>bif okR b c.length n s then goesL b r (c++[(n:Int)]) (u++[(s:Int)]) else []).length≤8*48 ^ r:=fun n _=>by
      have:=len_flat (l:=List.range 8) (f:=fun s=>bif okR b c.length n s then goesL b r (c++[(n:Int)]) (u++[(s:Int)]) else []) (k:=48 ^ r) (fun s _=>by
       cases okR b c.length n s with
       | false=>simp
       | true=>exact goesL_len V r _ _)
      rwa [List.length_range] at this
     have h2:=len_flat h1
     rw [List.length_range] at h2
     refine Nat.le_trans h2 ?_
     rw [Nat.pow_succ,Nat.mul_comm (48 ^ r) 48,← Nat.mul_assoc]
     exact Nat.mul_le_mul_right _ (by omega)
theorem PreT.more {b:TicketBook}{d:Nat}{c u:List Int} (P:PreT b d c u) (h:(d:Int) < b.Tally.Trips) {n s:Nat} (hn:(n:Int)≤b.Tally.Room) (hs:s < 8):PreT b (d+1) (c++[(n:Int)]) (u++[(s:Int)]):=by
 have key:∀ (l:List Int) (x:Int) (i:Nat),(l++[x]).getD i 0=l.getD i 0∨(l++[x]).getD i 0=x:=fun l x i=>by
  rw [List.getD_eq_getElem?_getD,List.getD_eq_getElem?_getD]
  by_cases h1:i < l.length
  ·rw [List.getElem?_append_left h1]; exact .inl rfl
  ·by_cases h2:i=l.length
   ·subst h2; right; simp
   ·left; rw [List.getElem?_eq_none (by simp; omega),List.getElem?_eq_none (by omega)]
 refine ⟨by simp [P.cl],by simp [P.ul],by omega,fun i=>?_,fun i=>?_⟩
 ·have:=P.cb i
  rcases key c n i with e | e <;> rw [e] <;> omega
 ·have:=P.ub i
  rcases key u s i with e | e <;> rw [e] <;> omega
theorem goes_eq {b:TicketBook} (V:VT b):∀ (r fuel d:Nat) (c u:List Int),PreT b d c u→((d+r:Nat):Int)=b.Tally.Trips→r < fuel→ref10_goes fuel b ⟨c,u⟩=some (goesL b r c u):=by
 intro r
 have t3:=V.t3; have r5:=V.r5; have r0:=V.ta.r0; have bn:=V.bn
 induction r with
 | zero=>
   intro fuel d c u P hd hf
   obtain ⟨f,rfl⟩:∃ f,fuel=f+1:=⟨fuel - 1,by omega⟩
   have hcl:=P.cl
   unfold ref10_goes ref10_goes_F
   rw [loop_allL (body:=ref10_goes_l35 b ⟨c,u⟩ _) b.Boxes (fun x=>!(x.To==(c.length:Int) - 1)||fitsN b.Fare c u x) (Rf:=some []) (Rt:=some (bif canR b c then [⟨c,u⟩] else [])) (fun rec k hk=>?_) (fun rec=>?_) (by rw [big_eq]; omega)]
   ·rw [goesL_zero]
    show (bif boxR b c u then _ else _)=_
    cases boxR b c u <;> rfl
   ·unfold ref10_goes_l35
    simp only
    have hx:=V.bx _ (List.getElem_mem hk)
    rw [decide_eq_true (by omega),cond_true,getI_nat,List.getElem?_eq_getElem hk,Option.bind_some,wrI (x:=(c.length:Int) - 1) (by omega) (by omega),wrI (x:=(k:Int)+1) (by omega) (by omega),show (k:Int)+1=((k+1:Nat):Int) by omega]
    cases ht:(b.Boxes[k].To==(c.length:Int) - 1) with
    | false=>rfl
    | true=>
      rw [cond_true,rright V P hx (by rw [beq_iff_eq] at ht; omega),Option.bind_some]
      cases fitsN b.Fare c u b.Boxes[k] <;> rfl
   ·unfold ref10_goes_l35
    simp only
    obtain ⟨q,h1,h2⟩:=can_same b.Tally V.arg.cl c
    rw [decide_eq_false (by omega),cond_false,show ((c.length:Int)==b.Tally.Trips)=true by rw [beq_iff_eq]; omega,cond_true,h2,Option.bind_some]
    unfold canR
    rw [h1]
    cases hq:q.1 <;> simp [hq]
 | succ r ih=>
   intro fuel d c u P hd hf
   obtain ⟨f,rfl⟩:∃ f,fuel=f+1:=⟨fuel - 1,by omega⟩
   have hcl:=P.cl; have hul:=P.ul
   have pw:48 ^ r≤2304:=Nat.pow_le_pow_right (n:=48) (by omega) (show r≤2 by omega)
   unfold ref10_goes ref10_goes_F
   rw [loop_allL (body:=ref10_goes_l35 b ⟨c,u⟩ _) b.Boxes (fun x=>!(x.To==(c.length:Int) - 1)||fitsN b.Fare c u x) (Rf:=some []) (Rt:=some ((List.range (b.Tally.Room.toNat+1)).flatMap fun n=>(List.range 8).flatMap fun s=>bif okR b c.length n s then goesL b r (c++[(n:Int)]) (u++[(s:Int)]) else [])) (fun rec k hk=>?_) (fun rec=>?_) (by rw [big_eq]; omega)]
   ·rw [goesL_succ]
    show (bif boxR b c u then _ else _)=_
    cases boxR b c u <;> rfl
   ·unfold ref10_goes_l35
    simp only
    have hx:=V.bx _ (List.getElem_mem hk)
    rw [decide_eq_true (by omega),cond_true,getI_nat,List.getElem?_eq_getElem hk,Option.bind_some,wrI (x:=(c.length:Int) - 1) (by omega) (by omega),wrI (x:=(k:Int)+1) (by omega) (by omega),show (k:Int)+1=((k+1:Nat):Int) by omega]
    cases ht:(b.Boxes[k].To==(c.length:Int) - 1) with
    | false=>rfl
    | true=>
      rw [cond_true,rright V P hx (by rw [beq_iff_eq] at ht; omega),Option.bind_some]
      cases fitsN b.Fare c u b.Boxes[k] <;> rfl
   ·unfold ref10_goes_l35
    simp only
    rw [decide_eq_false (by omega),cond_false,show ((c.length:Int)==b.Tally.Trips)=false by rw [beq_eq_false_iff_ne]; omega,cond_false]
    generalize hG:(fun n s:Nat=>bif okR b c.length n s then goesL b r (c++[(n:Int)]) (u++[(s:Int)]) else [])=G
    have gl:∀ n s,(G n s).length≤48 ^ r:=fun n s=>by
     rw [← hG]; simp only
     cases okR b c.length n s with
     | false=>simp
     | true=>exact goesL_len V r _ _
    have fl:∀ n s:Nat,((List.range s).flatMap (G n)).length≤s*48 ^ r:=fun n s=>by
     have:=len_flat (l:=List.range s) (f:=G n) (k:=48 ^ r) (fun s _=>gl n s)
     rwa [List.length_range] at this
    have ol:∀ n:Nat,((List.range n).flatMap fun n=>(List.range 8).flatMap (G n)).length≤n*(8*48 ^ r):=fun n=>by
     have:=len_flat (l:=List.range n) (f:=fun n=>(List.range 8).flatMap (G n)) (k:=8*48 ^ r) (fun n _=>fl n 8)
     rwa [List.length_range] at this
    have hG' :∀ n s,(bif okR b c.length n s then goesL b r (c++[(n:Int)]) (u++[(s:Int)]) else [])=G n s:=fun n s=>by rw [← hG]
    show _=some ((List.range (b.Tally.Room.toNat+1)).flatMap fun n=>(List.range 8).flatMap fun s=>bif okR b c.length n s then goesL b r (c++[(n:Int)]) (u++[(s:Int)]) else [])
    simp only [hG']
    refine loopF_spec (body:=ref10_goes_l34 b ⟨c,u⟩ _) (fun z:List Ref10_truth×Int=>∃ n:Nat,(n:Int)≤b.Tally.Room+1∧z=((List.range n).flatMap fun n=>(List.range 8).flatMap (G n),(n:Int))) (fun z=>(b.Tally.Room+1 - z.2).toNat) (fun _=>(List.range (b.Tally.Room.toNat+1)).flatMap fun n=>(List.range 8).flatMap (G n)) ?_ big ([],0) ⟨0,by omega,rfl⟩ (by unfold big; simp; omega)
    rintro rec2 z ⟨n,hn,rfl⟩ ih2
    unfold ref10_goes_l34
    simp only
    by_cases hlt:(n:Int)≤b.Tally.Room
    case neg=>
     rw [decide_eq_false hlt,cond_false,show b.Tally.Room.toNat+1=n by omega]
    rw [decide_eq_true hlt,cond_true]
    refine loopF_spec (body:=ref10_goes_l33 b ⟨c,u⟩ _ _ rec2) (fun z:List Ref10_truth×Int=>∃ s:Nat,s≤8∧z=(((List.range n).flatMap fun n=>(List.range 8).flatMap (G n))++(List.range s).flatMap (G n),(s:Int))) (fun z=>(8 - z.2).toNat) (fun _=>(List.range (b.Tally.Room.toNat+1)).flatMap fun n=>(List.range 8).flatMap (G n)) ?_ big _ ⟨0,by omega,by simp⟩ (by unfold big; simp)
    rintro rec3 z ⟨s,hs,rfl⟩ ih3
    unfold ref10_goes_l33
    simp only
    by_cases hs8:s < 8
    case neg=>
     have:s=8:=by omega
     subst this
     rw [decide_eq_false (by omega),cond_false,wrI (x:=(n:Int)+1) (by omega) (by omega)]
     refine ih2 _ ⟨n+1,by omega,?_⟩ (by (try simp only); omega)
     rw [show List.range (n+1)=List.range n++[n] from List.range_succ,List.flatMap_append,List.flatMap_cons,List.flatMap_nil,List.append_nil]; rfl
    obtain ⟨c1,c2,c3⟩:=covN_ok V c.length
    obtain ⟨s1,s2,s3⟩:=shwN_ok V c.length
    have hmem:=members_nat s (n:=3) (by omega)
    rw [show ((3:Nat):Int)=3 from rfl] at hmem
    have next:rec3 ((((List.range n).flatMap fun n=>(List.range 8).flatMap (G n))++(List.range s).flatMap (G n))++G n s,(s:Int)+1)=some ((List.range (b.Tally.Room.toNat+1)).flatMap fun n=>(List.range 8).flatMap (G n)):=by
     refine ih3 _ ⟨s+1,by omega,?_⟩ (by (try simp only); omega)
     rw [show List.range (s+1)=List.range s++[s] from List.range_succ,List.flatMap_append,List.flatMap_cons,List.flatMap_nil,List.append_nil,List.append_assoc]; rfl
    have hj:∀ o,o=okR b c.length n s→ref10_goes_j32 ⟨c,u⟩ ((List.range n).flatMap fun n=>(List.range 8).flatMap (G n),(n:Int)) (((List.range n).flatMap fun n=>(List.range 8).flatMap (G n))++(List.range s).flatMap (G n),(s:Int)) (fun x0_ x1_=>ref10_goes f x0_ x1_) b rec3 o=some ((List.range (b.Tally.Room.toNat+1)).flatMap fun n=>(List.range 8).flatMap (G n)):=by
     intro o ho
     have hg:=hG' n s
     unfold ref10_goes_j32
     simp only
     rw [wrI (x:=(s:Int)+1) (by omega) (by omega)]
     cases o with
     | false=>
       rw [← ho,cond_false] at hg
       rw [cond_false]
       rw [← hg,List.append_nil] at next
       exact next
     | true=>
       rw [← ho,cond_true] at hg
       rw [cond_true,grown_eq (by omega),Option.bind_some,grown_eq (by omega),Option.bind_some,ih f (d+1) _ _ (P.more (by omega) hlt hs8) (by omega) (by omega),Option.bind_some,hg]
       cases hE:G n s with
       | nil=>
         rw [List.isEmpty_nil,cond_true]
         rw [hE,List.append_nil] at next
         exact next
       | cons t l=>
         have h1:=fl n s; have h2:=ol n; have h3:=gl n s
         rw [hE] at h3 next
         have h4:n*(8*48 ^ r)≤6*(8*2304):=Nat.mul_le_mul (by omega) (Nat.mul_le_mul_left _ pw)
         have h5:s*48 ^ r≤8*2304:=Nat.mul_le_mul (by omega) pw
         rw [List.isEmpty_cons,cond_false,need_of (fits_of (by rw [List.length_append]; omega) (by omega))]
         exact next
    rw [decide_eq_true (by omega),cond_true,c1,Option.bind_some]
    have ho:okR b c.length n s=((andNotI (s:Int) (covN b c.length:Int)==0)&&(andNotI (shwN b c.length:Int) (s:Int)==0)&&decide (popN s≤(n:Int))):=rfl
    cases a1:(andNotI (s:Int) (covN b c.length:Int)==0) with
    | false=>rw [cond_false]; exact hj _ (by rw [ho,a1]; rfl)
    | true=>
      rw [cond_true,s1,Option.bind_some]
      cases a2:(andNotI (shwN b c.length:Int) (s:Int)==0) with
      | false=>rw [cond_false]; exact hj _ (by rw [ho,a1,a2]; rfl)
      | true=>
        rw [cond_true,hmem,Option.bind_some]
        exact hj _ (by rw [ho,a1,a2,mem3 hs8]; rfl)
end Go.Proofs.YtafhljljfglfeaaGreatDoor
namespace Go.Proofs.YtafhljljfglfeaaGreatDoor
open Go Go.Fx
theorem getD_take {l:List Int}{d i:Nat} (h:i < d):(l.take d).getD i 0=l.getD i 0:=by
 rw [List.getD_eq_getElem?_getD,List.getElem?_take_of_lt h,← List.getD_eq_getElem?_getD]
theorem pv_same {c u c' u' :List Int}{d:Nat} (h1:c.getD d 0=c'.getD d 0) (h2:u.getD d 0=u'.getD d 0):pv c u d=pv c' u' d:=by
 unfold pv; rw [h1,h2]
theorem paid_same {c u c' u' :List Int} (f:Nat):∀ n:Nat,(∀ i,i < f+n→c.getD i 0=c'.getD i 0∧u.getD i 0=u'.getD i 0)→paidN c u f n=paidN c' u' f n
 | 0,_=>by simp [paidN]
 | n+1,h=>by
   have:=h (f+n) (by omega)
   rw [paidN_succ,paidN_succ,paid_same f n (fun i hi=>h i (by omega)),pv_same this.1 this.2]
theorem fits_same {fare:Int}{c u c' u' :List Int}{x:TicketBox} (h0:0≤x.From) (h1:x.From≤x.To) (h:∀ i:Nat,(i:Int)≤x.To→c.getD i 0=c'.getD i 0∧u.getD i 0=u'.getD i 0):fitsN fare c u x=fitsN fare c' u' x:=by
 unfold fitsN
 rw [paid_same (c' :=c') (u' :=u') _ _ (fun i hi=>h i (by omega))]
structure GoT (b:TicketBook) (d:Nat) (c u:List Int) (t:Ref10_truth):Prop where
 cl:(t.crossed_.length:Int)=b.Tally.Trips
 ul:(t.used_.length:Int)=b.Tally.Trips
 ct:t.crossed_.take d=c
 ut:t.used_.take d=u
 ok:∀ i:Nat,d≤i→(i:Int) < b.Tally.Trips→∃ n s:Nat,t.crossed_.getD i 0=n∧t.used_.getD i 0=s∧(n:Int)≤b.Tally.Room∧s < 8∧okR b i n s=true
 bx:∀ x∈b.Boxes,(d:Int)≤x.To+1→fitsN b.Fare t.crossed_ t.used_ x=true
 can:canR b t.crossed_=true
theorem take_snoc {l c:List Int}{d:Nat}{x:Int} (h:l.take (d+1)=c++[x]) (hc:c.length=d):l.take d=c∧l.getD d 0=x:=by
 constructor
 ·have:(l.take (d+1)).take d=(c++[x]).take d:=by rw [h]
  rw [List.take_take,Nat.min_eq_left (by omega)] at this
  rw [this,List.take_append_of_le_length (by omega),List.take_of_length_le (by omega)]
 ·have:(l.take (d+1)).getD d 0=(c++[x]).getD d 0:=by rw [h]
  rw [getD_take (by omega)] at this
  rw [this,List.getD_eq_getElem?_getD,List.getElem?_append_right (by omega),hc,Nat.sub_self]; rfl
theorem take_more {l c:List Int}{d:Nat}{x:Int} (h:l.take d=c) (hd:d < l.length) (hx:l.getD d 0=x):l.take (d+1)=c++[x]:=by
 rw [List.take_succ_eq_append_getElem hd,h,← hx,List.getD_eq_getElem?_getD,List.getElem?_eq_getElem hd]; rfl
theorem mem_goesL {b:TicketBook} (V:VT b):∀ (r d:Nat) (c u:List Int),PreT b d c u→((d+r:Nat):Int)=b.Tally.Trips→∀ t,t∈goesL b r c u↔GoT b d c u t:=by
 have r0:=V.ta.r0
 have box:∀ (d:Nat) (c u:List Int),PreT b d c u→∀ (t:Ref10_truth),t.crossed_.take d=c→t.used_.take d=u→(boxR b c u=true↔∀ x∈b.Boxes,x.To+1=d→fitsN b.Fare t.crossed_ t.used_ x=true):=by
  intro d c u P t hc hu
  unfold boxR
  rw [List.all_eq_true]
  refine forall_congr' fun x=>forall_congr' fun hx=>?_
  have B:=V.bx x hx
  rw [P.cl,Bool.or_eq_true,Bool.not_eq_true',beq_eq_false_iff_ne]
  constructor
  ·rintro (h | h) he
   ·exact absurd (by omega) h
   ·rw [fits_same (c' :=c) (u' :=u) B.f0 B.ft (fun i hi=>by rw [← hc,← hu,getD_take (by omega),getD_take (by omega)]; exact ⟨rfl,rfl⟩)]; exact h
  ·intro h
   by_cases he:x.To=(d:Int) - 1
   ·right
    rw [fits_same (c' :=t.crossed_) (u' :=t.used_) B.f0 B.ft (fun i hi=>by rw [← hc,← hu,getD_take (by omega),getD_take (by omega)]; exact ⟨rfl,rfl⟩)]
    exact h (by omega)
   ·exact .inl he
 intro r
 induction r with
 | zero=>
   intro d c u P hd t
   have hcl:=P.cl; have hul:=P.ul
   rw [goesL_zero]
   constructor
   ·intro h
    cases hb:boxR b c u with
    | false=>rw [hb,cond_false] at h; simp at h
    | true=>
      rw [hb,cond_true] at h
      cases hr:canR b c with
      | false=>rw [hr,cond_false] at h; simp at h
      | true=>
        rw [hr,cond_true,List.mem_singleton] at h
        subst h
        have tc:c.take d=c:=List.take_of_length_le (by omega)
        have tu:u.take d=u:=List.take_of_length_le (by omega)
        refine ⟨by simp only; omega,by simp only; omega,tc,tu,fun i h1 h2=>by omega,fun x hx hd' =>?_,hr⟩
        have:=(V.bx x hx).tT
        exact (box d c u P ⟨c,u⟩ tc tu).1 hb x hx (by omega)
   ·intro G
    have e1:t.crossed_=c:=by rw [← G.ct,List.take_of_length_le (by have:=G.cl; omega)]
    have e2:t.used_=u:=by rw [← G.ut,List.take_of_length_le (by have:=G.ul; omega)]
    have hb:boxR b c u=true:=(box d c u P t G.ct G.ut).2 fun x hx he=>G.bx x hx (by omega)
    have hr:=G.can
    rw [e1] at hr
    rw [hb,cond_true,hr,cond_true,List.mem_singleton,← e1,← e2]
 | succ r ih=>
   intro d c u P hd t
   have hcl:=P.cl; have hul:=P.ul
   rw [goesL_succ]
   constructor
   ·intro h
    cases hb:boxR b c u with
    | false=>rw [hb,cond_false] at h; simp at h
    | true=>
      rw [hb,cond_true,List.mem_flatMap] at h
      obtain ⟨n,hn,h⟩:=h
      rw [List.mem_flatMap] at h
      obtain ⟨s,hs,h⟩:=h
      have hn:=List.mem_range.1 hn; have hs:=List.mem_range.1 hs
      cases ho:okR b c.length n s with
      | false=>rw [ho,cond_false] at h; simp at h
      | true=>
        rw [ho,cond_true] at h
        have G:=(ih (d+1) _ _ (P.more (by omega) (by omega) hs) (by omega) t).1 h
        obtain ⟨c1,c2⟩:=take_snoc G.ct hcl
        obtain ⟨u1,u2⟩:=take_snoc G.ut hul
        refine ⟨G.cl,G.ul,c1,u1,fun i h1 h2=>?_,fun x hx hd' =>?_,G.can⟩
        ·by_cases hi:i=d
         ·subst hi
          exact ⟨n,s,c2,u2,by omega,hs,by rwa [hcl] at ho⟩
         ·exact G.ok i (by omega) h2
        ·by_cases he:x.To+1=d
         ·exact (box d c u P t c1 u1).1 hb x hx he
         ·exact G.bx x hx (by omega)
   ·intro G
    have hb:boxR b c u=true:=(box d c u P t G.ct G.ut).2 fun x hx he=>G.bx x hx (by omega)
    obtain ⟨n,s,e1,e2,h1,h2,ho⟩:=G.ok d (Nat.le_refl _) (by omega)
    have gl:=G.cl; have gu:=G.ul
    rw [hb,cond_true,List.mem_flatMap]
    refine ⟨n,List.mem_range.2 (by omega),?_⟩
    rw [List.mem_flatMap]
    refine ⟨s,List.mem_range.2 h2,?_⟩
    rw [hcl,ho,cond_true]
    exact (ih (d+1) _ _ (P.more (by omega) h1 h2) (by omega) t).2 ⟨G.cl,G.ul,take_more G.ct (by omega) e1,take_more G.ut (by omega) e2,fun i h1 h2=>G.ok i (by omega) h2,fun x hx hd' =>G.bx x hx (by omega),G.can⟩
theorem pre0 {b:TicketBook} (V:VT b):PreT b 0 [] []:=by
 have:=V.ta.r0; have:=V.ta.t1
 exact ⟨rfl,rfl,by omega,fun i=>by simp; omega,fun i=>by simp⟩
theorem rtruths {b:TicketBook} (V:VT b):∃ L,ref10_truths b=some L∧L.length≤200000∧∀ t,t∈L↔Cl b.Shows∧GoT b 0 [] [] t:=by
 have t1:=V.ta.t1; have t3:=V.t3; have sn:=V.sn
 obtain ⟨⟨i,k⟩,hr,hC⟩:=rclashes (b:=b) (by omega)
 unfold ref10_truths
 rw [hr,Option.bind_some]
 rcases hC with ⟨i',k',x,y,e1,_,_,g1,g2,g3,_⟩ | ⟨e1,hno⟩
 ·simp only at e1
  subst e1
  refine ⟨[],by rw [decide_eq_true (by simp only; omega),cond_true],by simp,fun t=>?_⟩
  simp only [List.not_mem_nil,false_iff]
  rintro ⟨h,_⟩
  have:=cl_iff.1 h x (List.mem_of_getElem? g1) y (List.mem_of_getElem? g2)
  rw [g3] at this; cases this
 ·simp only at e1
  subst e1
  refine ⟨goesL b b.Tally.Trips.toNat [] [],?_,?_,fun t=>?_⟩
  ·rw [decide_eq_false (by simp only; omega),cond_false,goes_eq V b.Tally.Trips.toNat big 0 [] [] (pre0 V) (by omega) (by unfold big; omega)]; rfl
  ·have:=goesL_len V b.Tally.Trips.toNat [] []
   have:48 ^ b.Tally.Trips.toNat≤48 ^ 3:=Nat.pow_le_pow_right (by omega) (by omega)
   omega
  ·rw [mem_goesL V b.Tally.Trips.toNat 0 [] [] (pre0 V) (by omega) t]
   exact ⟨fun h=>⟨noC_cl hno,h⟩,fun h=>h.2⟩
def pad3 (l:List Int):List Int:=(List.range 3).map fun d=>l.getD d 0
theorem pad3_get {l:List Int} (h:l.length≤3) (d:Nat):(pad3 l).getD d 0=l.getD d 0:=by
 unfold pad3
 rw [List.getD_eq_getElem?_getD]
 by_cases hd:d < 3
 ·rw [List.getElem?_map,List.getElem?_range hd]; rfl
 ·rw [List.getElem?_eq_none (by simp; omega),List.getD_eq_getElem?_getD,List.getElem?_eq_none (by omega)]
theorem pad3_take {l:List Int} (h:l.length≤3):(pad3 l).take l.length=l:=by
 refine List.ext_getElem? fun d=>?_
 by_cases hd:d < l.length
 ·rw [List.getElem?_take_of_lt hd]
  unfold pad3
  rw [List.getElem?_map,List.getElem?_range (by omega),Option.map_some,List.getD_eq_getElem?_getD,List.getElem?_eq_getElem hd]; rfl
 ·rw [List.getElem?_eq_none (by rw [List.length_take]; omega),List.getElem?_eq_none (by omega)]
def toT (t:Ref10_truth):Ticket_truth:=⟨pad3 t.crossed_,pad3 t.used_⟩
def Same (t:Ref10_truth) (x:Ticket_truth):Prop:=∀ d,t.crossed_.getD d 0=x.crossed_.getD d 0∧t.used_.getD d 0=x.used_.getD d 0
theorem okR_iff {b:TicketBook} (V:VT b) {d n s:Nat} (hs:s < 8):okR b d n s=true↔Use b s d∧(∀ x∈b.Shows,x.Trip=d→s.testBit x.Ticket.toNat=true)∧popN s≤(n:Int):=by
 obtain ⟨_,c2,c3⟩:=covN_ok V d
 obtain ⟨_,s2,s3⟩:=shwN_ok V d
 unfold okR
 rw [Bool.and_eq_true,Bool.and_eq_true,nandE hs c2,nandE s2 hs,decide_eq_true_iff,and_assoc]
 refine and_congr (forall_congr' fun m=>forall_congr' fun _=>c3 m) (and_congr ?_ Iff.rfl)
 constructor
 ·intro h x hx ht
  have S:=V.sh x hx
  have:=S.n0
  exact h _ ((s3 _).2 ⟨x,hx,ht,by omega⟩)
 ·intro h m hm
  obtain ⟨x,hx,h1,h2⟩:=(s3 m).1 hm
  have:=h x hx h1
  rwa [h2,show ((m:Nat):Int).toNat=m from rfl] at this
theorem canR_iff {b:TicketBook} (V:VT b) {c:List Int} (hl:(c.length:Int)=b.Tally.Trips) (hb:∀ d:Nat,(d:Int) < b.Tally.Trips→0≤c.getD d 0∧c.getD d 0≤b.Tally.Room):canR b c=true↔Fit b.Tally no (pre c):=by
 have T:Tru b.Tally c:=⟨hl,fun n hn=>by
  obtain ⟨d,hd,rfl⟩:=List.getElem_of_mem hn
  have:=hb d (by omega)
  rw [List.getD_eq_getElem?_getD,List.getElem?_eq_getElem hd] at this
  exact this⟩
 obtain ⟨r,h1,h2⟩:=can_law V.ta T
 unfold canR
 rw [h1]
 exact h2
theorem GoT.pre {b:TicketBook} (V:VT b) {t:Ref10_truth} (G:GoT b 0 [] [] t):PreT b b.Tally.Trips.toNat t.crossed_ t.used_:=by
 have:=V.ta.r0; have t1:=V.ta.t1; have gl:=G.cl; have gu:=G.ul
 refine ⟨by omega,by omega,by omega,fun i=>?_,fun i=>?_⟩
 ·by_cases h:(i:Int) < b.Tally.Trips
  ·obtain ⟨n,s,e1,e2,h1,h2,h3⟩:=G.ok i (Nat.zero_le _) h
   rw [e1]; omega
  ·rw [List.getD_eq_getElem?_getD,List.getElem?_eq_none (by omega)]; simp; omega
 ·by_cases h:(i:Int) < b.Tally.Trips
  ·obtain ⟨n,s,e1,e2,h1,h2,h3⟩:=G.ok i (Nat.zero_le _) h
   rw [e2]; omega
  ·rw [List.getD_eq_getElem?_getD,List.getElem?_eq_none (by omega)]; simp
theorem got_tr {b:TicketBook} (V:VT b) {t:Ref10_truth} (hc:Cl b.Shows) (G:GoT b 0 [] [] t):Tr b b.Shows b.Boxes (toT t)∧Same t (toT t):=by
 have t1:=V.ta.t1; have t3:=V.t3; have gl:=G.cl; have gu:=G.ul
 have P:=G.pre V
 have pc:=fun d=>pad3_get (l:=t.crossed_) (by omega) d
 have pu:=fun d=>pad3_get (l:=t.used_) (by omega) d
 have at_:∀ d:Nat,(d:Int) < b.Tally.Trips→∃ n:Nat,t.crossed_.getD d 0=n∧(Use b (t.used_.getD d 0).toNat d∧(∀ x∈b.Shows,x.Trip=d→(t.used_.getD d 0).toNat.testBit x.Ticket.toNat=true)∧popN (t.used_.getD d 0).toNat≤(n:Int)):=fun d hd=>by
  obtain ⟨n,s,e1,e2,h1,h2,h3⟩:=G.ok d (Nat.zero_le _) hd
  refine ⟨n,e1,?_⟩
  rw [e2,show ((s:Nat):Int).toNat=s from rfl]
  exact (okR_iff V h2).1 h3
 refine ⟨⟨hc,by simp [toT,pad3],by simp [toT,pad3],fun d hd=>?_,fun d hd=>?_,fun d hd=>?_,fun d=>?_,fun d hd=>?_,fun d hd=>?_,fun x hx=>?_,?_,fun x hx=>?_⟩,fun d=>⟨(pc d).symm,(pu d).symm⟩⟩
 ·show 0≤(pad3 t.crossed_).getD d 0∧(pad3 t.crossed_).getD d 0≤_
  rw [pc]; exact P.cb d
 ·show (pad3 t.crossed_).getD d 0=0
  rw [pc,List.getD_eq_getElem?_getD,List.getElem?_eq_none (by omega)]; rfl
 ·show (pad3 t.used_).getD d 0=0
  rw [pu,List.getD_eq_getElem?_getD,List.getElem?_eq_none (by omega)]; rfl
 ·show 0≤(pad3 t.used_).getD d 0∧(pad3 t.used_).getD d 0 < 8
  rw [pu]; exact P.ub d
 ·obtain ⟨n,e1,h1,h2,h3⟩:=at_ d hd
  show Use b ((pad3 t.used_).getD d 0).toNat d
  rw [pu]; exact h1
 ·obtain ⟨n,e1,h1,h2,h3⟩:=at_ d hd
  show popN ((pad3 t.used_).getD d 0).toNat≤(pad3 t.crossed_).getD d 0
  rw [pu,pc,e1]; exact h3
 ·have S:=V.sh x hx
  have:=S.t0; have:=S.tT
  obtain ⟨n,e1,h1,h2,h3⟩:=at_ x.Trip.toNat (by omega)
  show ((pad3 t.used_).getD x.Trip.toNat 0).toNat.testBit x.Ticket.toNat=true
  rw [pu]; exact h2 x hx (by omega)
 ·show Fit b.Tally no (Go.Proofs.YtafhljljfglfeaaGreatDoor.pre ((pad3 t.crossed_).take b.Tally.Trips.toNat))
  rw [show b.Tally.Trips.toNat=t.crossed_.length by omega,pad3_take (by omega)]
  exact (canR_iff V gl (fun d _=>P.cb d)).1 G.can
 ·have B:=V.bx x hx
  show fitsN b.Fare (pad3 t.crossed_) (pad3 t.used_) x=true
  rw [fits_same (c' :=t.crossed_) (u' :=t.used_) B.f0 B.ft (fun i _=>⟨pc i,pu i⟩)]
  exact G.bx x hx (by have:=B.f0; have:=B.ft; omega)
theorem tr_got {b:TicketBook} (V:VT b) {x:Ticket_truth} (h:Tr b b.Shows b.Boxes x):Cl b.Shows∧∃ t,GoT b 0 [] [] t∧Same t x:=by
 have t1:=V.ta.t1; have t3:=V.t3; have c3:=h.c3; have u3:=h.u3; have r0:=V.ta.r0
 have g:∀ (l:List Int),(∀ d:Nat,b.Tally.Trips≤d→l.getD d 0=0)→∀ d,(l.take b.Tally.Trips.toNat).getD d 0=l.getD d 0:=fun l hz d=>by
  by_cases hd:d < b.Tally.Trips.toNat
  ·exact getD_take hd
  ·rw [hz d (by omega),List.getD_eq_getElem?_getD,List.getElem?_eq_none (by rw [List.length_take]; omega)]; rfl
 have gc:=g _ h.cz; have gu:=g _ h.uz
 refine ⟨h.cl,⟨x.crossed_.take b.Tally.Trips.toNat,x.used_.take b.Tally.Trips.toNat⟩,⟨by simp only [List.length_take]; omega,by simp only [List.length_take]; omega,by simp,by simp,fun i _ hi=>?_,fun y hy _=>?_,?_⟩,fun d=>⟨gc d,gu d⟩⟩
 ·have cr:=h.cr i hi; have ub:=h.ub i
  refine ⟨(x.crossed_.getD i 0).toNat,(x.used_.getD i 0).toNat,by simp only; rw [gc]; omega,by simp only; rw [gu]; omega,by omega,by omega,(okR_iff V (by omega)).2 ⟨h.us i hi,fun y hy ht=>?_,by have:=h.pc i hi; omega⟩⟩
  have:=h.sw y hy
  rwa [ht,show ((i:Nat):Int).toNat=i from rfl] at this
 ·have B:=V.bx y hy
  simp only
  rw [fits_same (c' :=x.crossed_) (u' :=x.used_) B.f0 B.ft (fun i _=>⟨gc i,gu i⟩)]
  exact h.bx y hy
 ·refine (canR_iff V (by simp only [List.length_take]; omega) (fun d hd=>?_)).2 h.can
  simp only
  rw [gc]; exact h.cr d hd
theorem rcan {b:TicketBook} (V:VT b) {L:List Ref10_truth} (hL:∀ t,t∈L↔Cl b.Shows∧GoT b 0 [] [] t):L=[]↔¬Can b:=by
 constructor
 ·rintro rfl ⟨x,hx⟩
  obtain ⟨h,t,G,_⟩:=tr_got V hx
  exact List.not_mem_nil ((hL t).2 ⟨h,G⟩)
 ·intro h
  refine List.eq_nil_iff_forall_not_mem.2 fun t ht=>h ?_
  obtain ⟨hc,G⟩:=(hL t).1 ht
  exact ⟨_,(got_tr V hc G).1⟩
end Go.Proofs.YtafhljljfglfeaaGreatDoor
namespace Go.Proofs.YtafhljljfglfeaaGreatDoor
open Go Go.Fx Go.Proofs
def law_TicketPays (a0:TicketBook) (a1:List Int):Option Bool:=
 (B_OwnTicket a0).bind fun r22=>
 (law_ticketPays r22 a0 a1).bind fun r48=>
 bif r48 then ((B_KeptTicket r22 a0).bind fun r53=>
 bif r53 then ((law_punched).bind fun r58=>
 some r58)
 else (some false))
 else (some false)
set_option maxRecDepth 100000 in
theorem law_TicketPays_ok {a0:TicketBook}{a1:List Int}{A1:Option Addr}{c2:Nat}{A4:Option Addr}{c5:Nat}{A7:Option Addr}{c8:Nat}{A10:Option Addr}{c11:Nat}{w:World}{r:Bool} (H:law_TicketPays a0 a1=some r) (h3:(rd eTallyCount 7 A1 c2 a0.Tally.Counts).ok w) (h6:(rd eTicketSeason 2 A4 c5 a0.Tickets).ok w) (h9:(rd eTicketShow 3 A7 c8 a0.Shows).ok w) (h12:(rd eTicketBox 4 A10 c11 a0.Boxes).ok w) (hg13:(gW0).ok w) (hg14:(gW1).ok w) (hg15:(gW2).ok w):Calls Tryz.prog 3 #[AG (vB a0 A1 c2 A4 c5 A7 c8 A10 c11),AG (sg a1 3)] w (RetV w (B r)):=by
 unfold law_TicketPays at H
 refine fn_of (n:=20) Tryz.func3 rfl rfl (lE rfl) ?_
 have S:=St.start w nF _ (cA h3 (cA h6 (cA h9 (cA h12 (cA hg13 (cA hg14 (cA hg15 nM)))))))
 refine c_seq<|reg<|p_boxA rfl S fun b16 w17 S18=>p_boxA rfl S18 fun b19 w20 S21=>p_aB rfl<|wp_nil<|c_seq<|reg<|p_ldA ty29 sz29 (S21.atX (i:=1) rfl) rfl rfl ?_
 obtain ⟨r22,h23,H⟩:=bindS H
 refine p_cal (B_OwnTicket_ok h23 (S21.atP (i:=0) rfl) (S21.atP (i:=1) rfl) (S21.atP (i:=2) rfl) (S21.atP (i:=3) rfl)) fu6 rfl ?_
 rintro _ w24 ⟨A26,c27,A28,c29,A30,c31,A32,c33,rfl,k25,⟨o34,n35⟩,⟨o36,n37⟩,⟨o38,n39⟩,⟨o40,n41⟩,_⟩
 have S42:=S21.callN k25 [rd eTallyCount 7 A26 c27 r22.Tally.Counts,rd eTicketSeason 2 A28 c29 r22.Tickets,rd eTicketShow 3 A30 c31 r22.Shows,rd eTicketBox 4 A32 c33 r22.Boxes] (cA ⟨o34,New.inL n35⟩ (cA ⟨o36,New.inL n37⟩ (cA ⟨o38,New.inL n39⟩ (cA ⟨o40,New.inL n41⟩ nM))))
 refine p_allA in29 S42 fun b43 w44 S45=>?_
 refine p_stP (pre:=[]) (old:=[I 0,I 0,SL none 0 0,I 0,SL none 0 0,SL none 0 0,SL none 0 0]) (post:=[]) (vs:=(vB r22 A26 c27 A28 c29 A30 c31 A32 c33)) sz29 S45 (i:=0) rfl rfl rfl rfl (rfl:_=AG (vB r22 A26 c27 A28 c29 A30 c31 A32 c33)) rfl rfl rfl rfl fun w46 S47=>?_
 refine wp_nil<|c_seq<|reg<|p_ldA ty29 sz29 (S47.atX (i:=0) rfl) rfl rfl<|p_ldA ty29 sz29 (S47.atX (i:=2) rfl) rfl rfl<|p_ldA ty30 sz30 (S47.atX (i:=1) rfl) rfl rfl ?_
 obtain ⟨r48,h49,H⟩:=bindS H
 refine p_cv (law_ticketPays_ok h49 (S47.atP (i:=0) rfl) (S47.atP (i:=1) rfl) (S47.atP (i:=2) rfl) (S47.atP (i:=3) rfl) (S47.atP (i:=4) rfl) (S47.atP (i:=5) rfl) (S47.atP (i:=6) rfl) (S47.atP (i:=7) rfl) (S47.atP (i:=8) rfl) (S47.atP (i:=10) rfl)) fu7 rfl S47 fun w50 S51=>p_mB rfl ?_
 rcases bE (r48) with c52 | c52
 ·replace H:=condT c52 H
  refine eB c52 ?_
  refine gT rfl rfl (p_ldA ty29 sz29 (S51.atX (i:=0) rfl) rfl rfl ?_)
  refine gT rfl rfl (p_ldA ty29 sz29 (S51.atX (i:=2) rfl) rfl rfl ?_)
  obtain ⟨r53,h54,H⟩:=bindS H
  refine gT rfl rfl (p_cv (B_KeptTicket_ok h54 (S51.atP (i:=0) rfl) (S51.atP (i:=1) rfl) (S51.atP (i:=2) rfl) (S51.atP (i:=3) rfl) (S51.atP (i:=4) rfl) (S51.atP (i:=5) rfl) (S51.atP (i:=6) rfl) (S51.atP (i:=7) rfl)) fu8 rfl S51 fun w55 S56=>?_)
  refine p_pkT rfl (rfl:_=B r53)<|p_mB rfl ?_
  rcases bE (r53) with c57 | c57
  ·replace H:=condT c57 H
   refine eB c57 ?_
   obtain ⟨r58,h59,H⟩:=bindS H
   refine gT rfl rfl (p_cv (law_punched_ok h59 (S56.atP (i:=8) rfl) (S56.atP (i:=9) rfl) (S56.atP (i:=10) rfl)) fu9 rfl S56 fun w60 S61=>?_)
   refine p_pkT rfl (rfl:_=B r58)<|p_aB rfl<|wp_nil ?_
   obtain rfl:=sJ H
   exact c_ret (rT Tryz.f3 S61.keep rfl rfl)
  ·replace H:=condF c57 H
   refine eB c57<|gF rfl rfl<|p_pkF rfl (rfl:_=B false)<|p_aB rfl<|wp_nil ?_
   obtain rfl:=sJ H
   exact c_ret (rT Tryz.f3 S56.keep rfl rfl)
 ·replace H:=condF c52 H
  refine eB c52<|gF rfl rfl<|gF rfl rfl<|gF rfl rfl<|p_pkF rfl (rfl:_=B false)<|p_mB rfl<|gF rfl rfl<|p_pkF rfl (rfl:_=B false)<|p_aB rfl<|wp_nil ?_
  obtain rfl:=sJ H
  exact c_ret (rT Tryz.f3 S51.keep rfl rfl)
end Go.Proofs.YtafhljljfglfeaaGreatDoor
namespace Go.Proofs.YtafhljljfglfeaaGreatDoor
open Go Go.Fx
theorem keptL {α:Type}{body:(Bool×Int→Option Bool)→Bool×Int→Option Bool} (l:List α) (hl:l.length≤9223372036854775806) (hs:∀ rec (k:Nat) (h:k < l.length),body rec (true,(k:Int))=rec (true,((k+1:Nat):Int))) (he:∀ rec,body rec (true,(l.length:Int))=some true):loopF body big (true,0)=some true:=by
 refine loopF_spec (body:=body) (fun z:Bool×Int=>∃ k:Nat,z=(true,(k:Int))∧k≤l.length) (fun z=>l.length - z.2.toNat) (fun _=>true) ?_ big (true,0) ⟨0,rfl,Nat.zero_le _⟩ (by unfold big; simp; omega)
 rintro rec z ⟨k,rfl,hk⟩ ih
 by_cases h:k < l.length
 ·rw [hs rec k h]
  exact ih _ ⟨k+1,rfl,h⟩ (by simp only; omega)
 ·have:k=l.length:=by omega
  subst this
  exact he rec
theorem keptT (b:TicketBook) (A:ArgT b) (hc:b.Tally.Counts.length≤9223372036854775806) (ht:b.Tickets.length≤9223372036854775806) (hs:b.Shows.length≤9223372036854775806) (hx:b.Boxes.length≤9223372036854775806):B_KeptTicket b b=some true:=by
 have k1:B_KeptTickets b.Tickets b.Tickets=some true:=by
  unfold B_KeptTickets
  rw [beq_self_eq_true]
  refine keptL b.Tickets ht (fun rec k h=>?_) (fun rec=>?_)
  ·unfold B_KeptTickets_l1
   simp only
   rw [cond_true,decide_eq_true (by omega),cond_true,getI_nat,List.getElem?_eq_getElem h,Option.bind_some,Option.bind_some,wrI (by omega) (by omega)]
   simp only [beq_self_eq_true,Bool.and_self]; rfl
  ·unfold B_KeptTickets_l1
   simp only
   rw [cond_true,decide_eq_false (by omega),cond_false]
 have k2:B_KeptShows b.Shows b.Shows=some true:=by
  unfold B_KeptShows
  rw [beq_self_eq_true]
  refine keptL b.Shows hs (fun rec k h=>?_) (fun rec=>?_)
  ·unfold B_KeptShows_l1
   simp only
   rw [cond_true,decide_eq_true (by omega),cond_true,getI_nat,List.getElem?_eq_getElem h,Option.bind_some,Option.bind_some,wrI (by omega) (by omega)]
   simp only [beq_self_eq_true,Bool.and_self]; rfl
  ·unfold B_KeptShows_l1
   simp only
   rw [cond_true,decide_eq_false (by omega),cond_false]
 have k3:B_KeptBoxes b.Boxes b.Boxes=some true:=by
  unfold B_KeptBoxes
  rw [beq_self_eq_true]
  refine keptL b.Boxes hx (fun rec k h=>?_) (fun rec=>?_)
  ·unfold B_KeptBoxes_l1
   simp only
   rw [cond_true,decide_eq_true (by omega),cond_true,getI_nat,List.getElem?_eq_getElem h,Option.bind_some,Option.bind_some,wrI (by omega) (by omega)]
   simp only [beq_self_eq_true,Bool.and_self]; rfl
  ·unfold B_KeptBoxes_l1
   simp only
   rw [cond_true,decide_eq_false (by omega),cond_false]
 unfold B_KeptTicket
 rw [kept_eq _ hc,Option.bind_some,cond_true,beq_self_eq_true,cond_true,k1,Option.bind_some,cond_true,k2,Option.bind_some,cond_true,k3,Option.bind_some]
theorem ownT {b:TicketBook} (hc:b.Tally.Counts.length*56≤140737488355328) (ht:b.Tickets.length*16≤140737488355328) (hs:b.Shows.length*24≤140737488355328) (hx:b.Boxes.length*32≤140737488355328):B_OwnTicket b=some b:=by
 unfold B_OwnTicket B_OwnTickets B_OwnShows B_OwnBoxes
 rw [own_eq hc,Option.bind_some,need_of (by unfold fitsL; simpa using ht),Option.bind_some,need_of (by unfold fitsL; simpa using hs),Option.bind_some,need_of (by unfold fitsL; simpa using hx),Option.bind_some]
theorem sp_uniq {b:TicketBook}{sh:List TicketShow}{bx:List TicketBox}{g:Ticket_truth→Int}{s t:Span} (S:SpT b sh bx g s) (T:SpT b sh bx g t):s=t:=by
 obtain ⟨x,hx,h1⟩:=S.loE
 obtain ⟨y,hy,h2⟩:=S.hiE
 obtain ⟨x',hx',h1'⟩:=T.loE
 obtain ⟨y',hy',h2'⟩:=T.hiE
 have a1:=S.all x' hx'; have a2:=S.all y' hy'; have a3:=T.all x hx; have a4:=T.all y hy
 cases s; cases t
 simp only [Span.mk.injEq] at*
 omega
theorem asked_badT {b:TicketBook} (A:ArgT b) (hv:valT b=false) (o:Bool):∃ x,ticket_asked b o=some (x,100):=by
 unfold ticket_asked
 rw [checkT_eq b A,hv]
 exact ⟨_,rfl⟩
theorem rasked_badT {b:TicketBook} (A:ArgT b) (hv:valT b=false) (o:Bool):ref10_asked b o=some ([],100):=by
 unfold ref10_asked
 rw [rcheckT_eq b A,hv]; rfl
theorem rcheckT_ok {b:TicketBook} (V:VT b):ref10_Check b=some 0:=by rw [rcheckT_eq b V.arg,valT_iff.2 V]; rfl
theorem rasked_noT {b:TicketBook} (V:VT b):ref10_asked b false=some ([],101):=by
 unfold ref10_asked
 rw [rcheckT_ok V]; rfl
def Tru10 (b:TicketBook) (L:List Ref10_truth):Prop:=L.length≤200000∧∀ t,t∈L↔Cl b.Shows∧GoT b 0 [] [] t
theorem raskedT {b:TicketBook} (V:VT b):∃ L e,ref10_asked b true=some (L,e)∧((e=0∧Can b∧L≠[]∧Tru10 b L)∨(e=102∧L=[]∧¬Can b)):=by
 obtain ⟨L,hr,hl,hm⟩:=rtruths V
 have hc:=rcan V hm
 unfold ref10_asked
 rw [rcheckT_ok V,Option.bind_some]
 simp only [bne_self_eq_false,cond_false,Bool.not_true]
 rw [hr,Option.bind_some]
 cases hL:L with
 | nil=>
   subst hL
   exact ⟨[],102,rfl,.inr ⟨rfl,rfl,hc.1 rfl⟩⟩
 | cons t l=>
   rw [← hL]
   have hn:L≠[]:=by rw [hL]; simp
   refine ⟨L,0,?_,.inl ⟨rfl,Classical.byContradiction fun h=>hn (hc.2 h),hn,hl,hm⟩⟩
   rw [show ((L.length:Int)==0)=false by rw [beq_eq_false_iff_ne,hL]; simp; omega,cond_false]
theorem hull_loop {body:(Int×Int×Int→Option (Span×Int))→Int×Int×Int→Option (Span×Int)} (L:List Ref10_truth) (G:Ref10_truth→Int) (hn:L.length≤200000)
 (hs:∀ rec (k:Nat) (h:k < L.length) lo hi,body rec ((k:Int),lo,hi)=rec (((k+1:Nat):Int),(if G L[k] < lo then G L[k] else lo),(if G L[k] > hi then G L[k] else hi)))
 (he:∀ rec lo hi,body rec ((L.length:Int),lo,hi)=some (⟨lo,hi⟩,0)) {x0:Ref10_truth} (h0:x0∈L):
 ∃ r,loopF body big (0,G x0,G x0)=some r∧(r.2=0∧(∃ t∈L,G t=r.1.Low)∧(∃ t∈L,G t=r.1.High)∧∀ t∈L,r.1.Low≤G t∧G t≤r.1.High):=by
 refine loopF_inv (body:=body) (fun z:Int×Int×Int=>∃ k:Nat,z.1=k∧k≤L.length∧(∃ t∈L,G t=z.2.1)∧(∃ t∈L,G t=z.2.2)∧∀ (j:Nat) t,j < k→L[j]? =some t→z.2.1≤G t∧G t≤z.2.2) (fun z=>L.length - z.1.toNat) (fun r=>r.2=0∧(∃ t∈L,G t=r.1.Low)∧(∃ t∈L,G t=r.1.High)∧∀ t∈L,r.1.Low≤G t∧G t≤r.1.High) ?_ big _ ⟨0,rfl,Nat.zero_le _,⟨x0,h0,rfl⟩,⟨x0,h0,rfl⟩,fun j t hj=>absurd hj (Nat.not_lt_zero j)⟩ (by unfold big; simp; omega)
 rintro rec ⟨i,lo,hi⟩ ⟨k,h1,h2,h3,h4,h5⟩ ih
 simp only at h1 h3 h4 h5
 subst h1
 by_cases h:k < L.length
 ·rw [hs rec k h]
  have hx:=List.getElem?_eq_getElem h
  have hm:=List.getElem_mem h
  generalize L[k]=t at hx hm
  refine ih _ ⟨k+1,rfl,h,?_,?_,fun j t' hj ht' =>?_⟩ (by simp only; omega)
  ·simp only; split
   ·exact ⟨t,hm,rfl⟩
   ·exact h3
  ·simp only; split
   ·exact ⟨t,hm,rfl⟩
   ·exact h4
  ·simp only
   by_cases e:j=k
   ·subst e; rw [hx] at ht'; cases ht'
    constructor <;> split <;> omega
   ·have:=h5 j t' (by omega) ht'
    constructor <;> split <;> omega
 ·have:k=L.length:=by omega
  subst this
  rw [he]
  refine ⟨_,rfl,rfl,h3,h4,fun t ht=>?_⟩
  obtain ⟨j,hj,rfl⟩:=List.getElem_of_mem ht
  exact h5 j _ hj (List.getElem?_eq_getElem hj)
theorem sp_of {b:TicketBook} (V:VT b) {L:List Ref10_truth} (T:Tru10 b L) {G:Ref10_truth→Int}{g:Ticket_truth→Int} (hg:∀ t x,Same t x→t∈L→G t=g x) {s:Span} (h1:∃ t∈L,G t=s.Low) (h2:∃ t∈L,G t=s.High) (h3:∀ t∈L,s.Low≤G t∧G t≤s.High):SpT b b.Shows b.Boxes g s:=by
 refine ⟨?_,?_,fun x hx=>?_⟩
 ·obtain ⟨t,ht,e⟩:=h1
  obtain ⟨hc,G'⟩:=(T.2 t).1 ht
  obtain ⟨a,b'⟩:=got_tr V hc G'
  exact ⟨_,a,by rw [← hg t _ b' ht,e]⟩
 ·obtain ⟨t,ht,e⟩:=h2
  obtain ⟨hc,G'⟩:=(T.2 t).1 ht
  obtain ⟨a,b'⟩:=got_tr V hc G'
  exact ⟨_,a,by rw [← hg t _ b' ht,e]⟩
 ·obtain ⟨hc,t,G',hS⟩:=tr_got V hx
  have ht:=(T.2 t).2 ⟨hc,G'⟩
  rw [← hg t x hS ht]
  exact h3 t ht
theorem point_eq (a:Int):B_Point a=some ⟨a,a⟩:=rfl
theorem hull_eq (s t:Span):B_Hull s t=some ⟨if t.Low < s.Low then t.Low else s.Low,if t.High > s.High then t.High else s.High⟩:=rfl
theorem paid_sameT (b:TicketBook) (A:ArgT b) (f t:Int):∃ r,ticket_Paid b f t=some r∧ref10_Paid b f t=some r:=by
 cases hv:valT b with
 | false=>
   refine ⟨(⟨0,0⟩,100),?_,?_⟩
   ·obtain ⟨x,hx⟩:=asked_badT A hv false
    obtain ⟨y,hy⟩:=asked_badT A hv (decide (f≤t))
    have i1:∃ o,ticket_isTrip b f=some o:=⟨_,by unfold ticket_isTrip; rw [withinT_eq]; rfl⟩
    have i2:∃ o,ticket_isTrip b t=some o:=⟨_,by unfold ticket_isTrip; rw [withinT_eq]; rfl⟩
    obtain ⟨o,ho⟩:=i1
    obtain ⟨p,hp⟩:=i2
    unfold ticket_Paid
    rw [ho,Option.bind_some,hp,hx,hy]
    cases o <;> cases p <;> rfl
   ·have i1:∃ o,ref10_trips b f t=some o:=by
     unfold ref10_trips ref10_isTrip
     simp only [inside_eq,Option.bind_some]
     cases inB f 0 (wr (b.Tally.Trips - 1)) with
     | false=>exact ⟨_,rfl⟩
     | true=>cases inB t 0 (wr (b.Tally.Trips - 1)) <;> exact ⟨_,rfl⟩
    obtain ⟨o,ho⟩:=i1
    unfold ref10_Paid
    rw [ho,Option.bind_some,rasked_badT A hv]; rfl
 | true=>
   have V:=valT_iff.1 hv
   have t1:=V.ta.t1; have t3:=V.t3
   by_cases h:0≤f∧f≤t∧t < b.Tally.Trips
   ·obtain ⟨s,e,hp,hc⟩:=paid_law V h
    obtain ⟨L,e',ha,hc'⟩:=raskedT V
    refine ⟨(s,e),hp,?_⟩
    unfold ref10_Paid
    rw [rtrips b t1 V.ta.t8,Option.bind_some,trip_iff.2 (by omega),trip_iff.2 (by omega),decide_eq_true h.2.1,Bool.and_self,Bool.and_self,ha,Option.bind_some]
    rcases hc with ⟨rfl,C,S⟩ | ⟨rfl,rfl,C⟩
    ·rcases hc' with ⟨rfl,_,hn,T⟩ | ⟨_,_,C'⟩
     rotate_left
     ·exact absurd C C'
     simp only [bne_self_eq_false,cond_false]
     obtain ⟨t0,l,hL⟩:=List.exists_cons_of_ne_nil hn
     have m0:t0∈L:=by rw [hL]; exact List.mem_cons_self ..
     have pd:∀ x∈L,ref10_paid x f t=some (paidN x.crossed_ x.used_ f.toNat (t+1 - f).toNat):=fun x hx=>rpaid V (((T.2 x).1 hx).2.pre V) h.1 h.2.1 (by omega)
     rw [show getI L 0=some t0 by rw [hL]; rfl,Option.bind_some,pd t0 m0,Option.bind_some,point_eq,Option.bind_some]
     obtain ⟨⟨s',e''⟩,hr,r0,r1,r2,r3⟩:=hull_loop (body:=ref10_Paid_l1 (L,0) f t) L (fun x=>paidN x.crossed_ x.used_ f.toNat (t+1 - f).toNat) T.1 (fun rec k hk lo hi=>by
      unfold ref10_Paid_l1
      simp only
      have:=T.1
      rw [decide_eq_true (by omega),cond_true,getI_nat,List.getElem?_eq_getElem hk,Option.bind_some,pd _ (List.getElem_mem hk),Option.bind_some,point_eq,Option.bind_some,hull_eq,Option.bind_some,wrI (by omega) (by omega)]; rfl) (fun rec lo hi=>by
      unfold ref10_Paid_l1
      simp only
      rw [decide_eq_false (by omega),cond_false]) m0
     simp only at r0 r1 r2 r3
     subst r0
     have S' :=sp_of V T (G:=fun x=>paidN x.crossed_ x.used_ f.toNat (t+1 - f).toNat) (g:=paidT f t) (fun x y hS _=>by
      unfold paidT
      exact paid_same _ _ (fun i _=>hS i)) r1 r2 r3
     rw [sp_uniq S S']
     exact hr
    ·rcases hc' with ⟨_,C',_⟩ | ⟨rfl,rfl,_⟩
     ·exact absurd C' C
     rfl
   ·refine ⟨(⟨0,0⟩,101),?_,?_⟩
    ·obtain ⟨x,hx⟩:=askedF V
     unfold ticket_Paid
     rw [isTrip_eq b t1 V.ta.t8,Option.bind_some]
     cases h1:inB f 0 (b.Tally.Trips - 1) with
     | false=>rw [cond_false,hx]; rfl
     | true=>
       rw [cond_true,isTrip_eq b t1 V.ta.t8,Option.bind_some]
       cases h2:inB t 0 (b.Tally.Trips - 1) with
       | false=>rw [cond_false,hx]; rfl
       | true=>
         have:=trip_iff.1 h1; have:=trip_iff.1 h2
         rw [cond_true,decide_eq_false (by omega),hx]; rfl
    ·unfold ref10_Paid
     rw [rtrips b t1 V.ta.t8,Option.bind_some,show (inB f 0 (b.Tally.Trips - 1)&&inB t 0 (b.Tally.Trips - 1)&&decide (f≤t))=false by
      rw [← Bool.not_eq_true,Bool.and_eq_true,Bool.and_eq_true,trip_iff,trip_iff,decide_eq_true_iff]; omega,rasked_noT V]; rfl
theorem ruses {b:TicketBook} (V:VT b) {d:Nat}{c u:List Int} (P:PreT b d c u) {n:Nat} (hn:n < 3):ref10_uses ⟨c,u⟩ n=some ((if (u.getD 0 0).toNat.testBit n then 1 else 0)+(if (u.getD 1 0).toNat.testBit n then 1 else 0)+(if (u.getD 2 0).toNat.testBit n then 1 else 0)):=by
 have t3:=V.t3; have dT:=P.dT; have hu:=P.ul
 have z:∀ i,d≤i→(u.getD i 0).toNat.testBit n=false:=fun i hi=>by
  rw [List.getD_eq_getElem?_getD,List.getElem?_eq_none (by omega)]; simp
 generalize hR:(((if (u.getD 0 0).toNat.testBit n then 1 else 0)+(if (u.getD 1 0).toNat.testBit n then 1 else 0)+(if (u.getD 2 0).toNat.testBit n then 1 else 0)):Int)=R
 unfold ref10_uses
 have cnt:∀ j:Nat,j≤d→(((List.range j).map fun i=>(if (u.getD i 0).toNat.testBit n then 1 else 0:Int)).sum)≤j∧0≤(((List.range j).map fun i=>(if (u.getD i 0).toNat.testBit n then 1 else 0:Int)).sum):=fun j _=>by
  induction j with
  | zero=>simp
  | succ j ih=>
    have:=ih (by omega)
    rw [List.range_succ,List.map_append,List.sum_append]
    simp only [List.map_cons,List.map_nil,List.sum_cons,List.sum_nil]
    split <;> omega
 refine loopF_spec (body:=ref10_uses_l1 ⟨c,u⟩ n) (fun z:Int×Int=>∃ j:Nat,z=(((List.range j).map fun i=>(if (u.getD i 0).toNat.testBit n then 1 else 0:Int)).sum,(j:Int))∧j≤d) (fun z=>d - z.2.toNat) (fun _=>R) ?_ big (0,0) ⟨0,rfl,Nat.zero_le _⟩ (by unfold big; simp; omega)
 rintro rec z' ⟨j,rfl,hj⟩ ih
 have hc:=cnt j hj
 unfold ref10_uses_l1
 simp only
 by_cases h:j < d
 ·have e2:=List.getElem?_eq_getElem (show j < u.length by omega)
  have g2:u.getD j 0=u[j]'(by omega):=by rw [List.getD_eq_getElem?_getD,e2]; rfl
  have b2:=P.ub j
  rw [decide_eq_true (by omega),cond_true,getI_nat,e2,Option.bind_some,← g2]
  have hm:=member_nat (u.getD j 0).toNat n (by omega)
  rw [show (((u.getD j 0).toNat:Nat):Int)=u.getD j 0 by omega] at hm
  rw [hm,Option.bind_some,wrI (x:=(j:Int)+1) (by omega) (by omega)]
  have nx:((List.range (j+1)).map fun i=>(if (u.getD i 0).toNat.testBit n then 1 else 0:Int)).sum=((List.range j).map fun i=>(if (u.getD i 0).toNat.testBit n then 1 else 0:Int)).sum+(if (u.getD j 0).toNat.testBit n then 1 else 0:Int):=by
   rw [List.range_succ,List.map_append,List.sum_append]; simp
  cases hb:(u.getD j 0).toNat.testBit n with
  | true=>
    rw [cond_true,wrI (by omega) (by omega)]
    refine ih _ ⟨j+1,?_,h⟩ (by (try simp only); omega)
    rw [nx,hb]; simp
  | false=>
    rw [cond_false]
    refine ih _ ⟨j+1,?_,h⟩ (by (try simp only); omega)
    rw [nx,hb]; simp
 ·have hjd:j=d:=by omega
  subst hjd
  rw [decide_eq_false (by omega),cond_false]
  congr 1
  rw [← hR]
  match j,z,dT with
  | 0,z,_=>rw [z 0 (by omega),z 1 (by omega),z 2 (by omega)]; rfl
  | 1,z,_=>rw [z 1 (by omega),z 2 (by omega)]; simp [List.range_succ]
  | 2,z,_=>rw [z 2 (by omega)]; simp [List.range_succ]
  | 3,_,_=>simp [List.range_succ,Int.add_assoc]
  | k+4,_,h=>omega
theorem saved_sameT (b:TicketBook) (A:ArgT b) (n:Int):∃ r,ticket_Saved b n=some r∧ref10_Saved b n=some r:=by
 have tl:=A.tl
 cases hv:valT b with
 | false=>
   refine ⟨(⟨0,0⟩,100),?_,?_⟩
   ·unfold ticket_Saved
    rw [isTicket_eq b tl,Option.bind_some]
    obtain ⟨x,hx⟩:=asked_badT A hv (inB n 0 ((b.Tickets.length:Int) - 1))
    rw [hx]; rfl
   ·unfold ref10_Saved
    rw [rticket b tl,Option.bind_some,rasked_badT A hv]; rfl
 | true=>
   have V:=valT_iff.1 hv
   have tn:=V.tn
   cases hi:inB n 0 ((b.Tickets.length:Int) - 1) with
   | false=>
     refine ⟨(⟨0,0⟩,101),?_,?_⟩
     ·obtain ⟨x,hx⟩:=askedF V
      unfold ticket_Saved
      rw [isTicket_eq b tl,Option.bind_some,hi,hx]; rfl
     ·unfold ref10_Saved
      rw [rticket b tl,Option.bind_some,hi,rasked_noT V]; rfl
   | true=>
     have hn:=inB_iff.1 hi
     obtain ⟨n,rfl⟩:=Int.eq_ofNat_of_zero_le hn.1
     obtain ⟨s,e,hp,hc⟩:=saved_law V (n:=n) (by omega)
     obtain ⟨L,e',ha,hc'⟩:=raskedT V
     refine ⟨(s,e),hp,?_⟩
     unfold ref10_Saved
     rw [rticket b tl,Option.bind_some,hi,ha,Option.bind_some]
     rcases hc with ⟨rfl,C,S⟩ | ⟨rfl,rfl,C⟩
     ·rcases hc' with ⟨rfl,_,hne,T⟩ | ⟨_,_,C'⟩
      rotate_left
      ·exact absurd C C'
      simp only [bne_self_eq_false,cond_false]
      obtain ⟨t0,l,hL⟩:=List.exists_cons_of_ne_nil hne
      have m0:t0∈L:=by rw [hL]; exact List.mem_cons_self ..
      generalize hGd:(fun x:Ref10_truth=>(((if (x.used_.getD 0 0).toNat.testBit n then 1 else 0)+(if (x.used_.getD 1 0).toNat.testBit n then 1 else 0)+(if (x.used_.getD 2 0).toNat.testBit n then 1 else 0)):Int))=G
      have pd:∀ x∈L,ref10_uses x n=some (G x):=fun x hx=>by
       rw [← hGd]
       exact ruses V (((T.2 x).1 hx).2.pre V) (by omega)
      rw [show getI L 0=some t0 by rw [hL]; rfl,Option.bind_some,pd t0 m0,Option.bind_some,point_eq,Option.bind_some]
      obtain ⟨⟨s',e''⟩,hr,r0,r1,r2,r3⟩:=hull_loop (body:=ref10_Saved_l1 (L,0) n) L G T.1 (fun rec k hk lo hi=>by
       unfold ref10_Saved_l1
       simp only
       have:=T.1
       rw [decide_eq_true (by omega),cond_true,getI_nat,List.getElem?_eq_getElem hk,Option.bind_some,pd _ (List.getElem_mem hk),Option.bind_some,point_eq,Option.bind_some,hull_eq,Option.bind_some,wrI (by omega) (by omega)]; rfl) (fun rec lo hi=>by
       unfold ref10_Saved_l1
       simp only
       rw [decide_eq_false (by omega),cond_false]) m0
      simp only at r0 r1 r2 r3
      subst r0
      have S' :=sp_of V T (G:=G) (g:=useC n) (fun x y hS _=>by
       rw [← hGd]
       unfold useC
       simp only
       rw [(hS 0).2,(hS 1).2,(hS 2).2]) r1 r2 r3
      rw [sp_uniq S S']
      exact hr
     ·rcases hc' with ⟨_,C',_⟩ | ⟨rfl,rfl,_⟩
      ·exact absurd C' C
      rfl
theorem right_sameT (b:TicketBook) (A:ArgT b):∃ r,ticket_Right b=some r∧ref10_Right b=some r:=by
 cases hv:valT b with
 | false=>
   refine ⟨(false,100),?_,?_⟩
   ·unfold ticket_Right; rw [checkT_eq b A,hv]; rfl
   ·unfold ref10_Right; rw [rcheckT_eq b A,hv]; rfl
 | true=>
   have V:=valT_iff.1 hv
   obtain ⟨r,h1,h2⟩:=right_law V
   obtain ⟨L,hr,hl,hm⟩:=rtruths V
   have hc:=rcan V hm
   refine ⟨(r,0),h1,?_⟩
   unfold ref10_Right
   rw [rcheckT_ok V,Option.bind_some]
   simp only [bne_self_eq_false,cond_false]
   rw [hr,Option.bind_some]
   congr 2
   rw [Bool.eq_iff_iff,decide_eq_true_iff,h2]
   constructor
   ·intro h
    refine Classical.byContradiction fun hn=>?_
    rw [hc.2 hn] at h; simp at h
   ·intro h
    have:L≠[]:=fun e=>hc.1 e h
    have:=List.length_pos_iff.2 this
    omega
theorem law_ticketPays_t (b:TicketBook) (hc:b.Tally.Counts.length*56≤140737488355328) (ht:b.Tickets.length*16≤140737488355328) (hs:b.Shows.length*24≤140737488355328) (hx:b.Boxes.length*32≤140737488355328) (a:List Int):law_TicketPays b a=some true:=by
 have A:ArgT b:=⟨by omega,by omega,by omega,by omega⟩
 have main:law_ticketPays b b a=some true:=by
  obtain ⟨r1,h1,g1⟩:=right_sameT b A
  obtain ⟨r2,h2,g2⟩:=paid_sameT b A (aget a 0) (aget a 1)
  obtain ⟨r3,h3,g3⟩:=saved_sameT b A (aget a 2)
  unfold law_ticketPays
  rw [rcheckT_eq b A,checkT_eq b A]
  simp only [h1,g1,h2,g2,h3,g3,Option.bind_some,bne_self_eq_false,cond_false,beq_self_eq_true,Bool.and_self,Bool.not_true,cond_true]
 unfold law_TicketPays
 rw [ownT hc ht hs hx,Option.bind_some,main,Option.bind_some,cond_true,keptT b A (by omega) (by omega) (by omega) (by omega),Option.bind_some,cond_true,punched_t]
 rfl
end Go.Proofs.YtafhljljfglfeaaGreatDoor
set_option maxRecDepth 100000
namespace Go.Proofs.YtafhljljfglfeaaGreatDoor
open Go Go.Fx Go.Proofs Go.ChangeShapes Go.WideShapes Go.ChangeAt Go.RowKit
variable {H:Type}{enc:TypeId×Value→H}{w:World}{spare:Nat→Bool}{held:Bool}{r:Reach}{b0:Nat}{v:Value}{d:DataW H}{ps:List MemPlace}{P:Program}
theorem wt_cons {t:TypeId}{ts:List TypeId}{d:DataW H}{r:List (DataW H)} (h:(DataW.weightsEach P (t::ts) (d::r)).all (·≤reachBytes)=true):(d.weights P t).all (·≤reachBytes)=true∧(DataW.weightsEach P ts r).all (·≤reachBytes)=true:=by
 rw [DataW.weightsEach,List.all_append,Bool.and_eq_true] at h
 exact h
theorem wt_at:∀ {ts:List TypeId}{ds:List (DataW H)}{i:Nat}{t:TypeId}{d:DataW H},(DataW.weightsEach P ts ds).all (·≤reachBytes)=true→ts[i]? =some t→ds[i]? =some d→(d.weights P t).all (·≤reachBytes)=true
 | [],_,_,_,_,_,h1,_=>by simp at h1
 | _::_,[],_,_,_,_,_,h2=>by simp at h2
 | t::ts,d::ds,0,_,_,h,h1,h2=>by
   simp at h1 h2; subst h1 h2; exact (wt_cons h).1
 | t::ts,d::ds,i+1,_,_,h,h1,h2=>by
   simp at h1 h2; exact wt_at (wt_cons h).2 h1 h2
theorem slice_wt {t e:TypeId}{fuel n c:Nat}{cs:List Value}{A:Option Addr}{x:DataW H×List MemPlace} (ht:P.underlying t=some (.slice e)) (h:DataW.trod enc P w 0 spare held fuel t cs=some x) (hw:(x.1.weights P t).all (·≤reachBytes)=true)
 (hc:cs=[SL A n c]):n*P.bytesOf e≤reachBytes:=by
 rcases DataW.trod_slice ht h with ⟨rfl,_⟩ | ⟨a,len,cap,elems,rest,m,_,rfl,rfl,_,_,_,hel,_⟩
 ·injection hc with hc; injection hc with _ hc _; subst hc; simp
 ·injection hc with hc; injection hc with _ hc _; subst hc
  simp only [DataW.weights,ht,List.all_cons,Bool.and_eq_true,decide_eq_true_eq,List.length_map] at hw
  have h1:=hw.1
  have h2:len*P.bytesOf e≤(elems.length+rest.length)*P.bytesOf e:=Nat.mul_le_mul_right _ (by omega)
  omega
theorem wt_tally {x y:Int}{A:Option Addr}{n c fuel:Nat}{cs:List Value}{d:DataW H×List MemPlace} (hf:DataW.trod enc Tryz.prog w 0 spare held fuel 24 cs=some d) (hw:(d.1.weights Tryz.prog 24).all (·≤reachBytes)=true) (hc:cs=[I x,I y,SL A n c]):n*56≤reachBytes:=by
 obtain ⟨xs,m,_,hx,hl,hxs,hel⟩:=DataW.trod_struct u24 hf
 have hx1:d.1=.agg (xs.map (·.1)):=congrArg Prod.fst hx
 rw [hx1] at hw
 have fb:=f24b
 simp only [List.all_cons,List.all_nil,Bool.and_eq_true,beq_iff_eq,and_true] at fb
 obtain ⟨⟨o0,t0⟩,⟨o1,t1⟩,⟨o2,t2⟩⟩:=fb
 have e2:=hel 2 _ (get_bang (by rw [f24s]; decide))
 rw [f24s] at hxs
 rw [o2,t2,c22,List.getElem?_eq_getElem (by omega),hc] at e2
 have hw2:((xs[2]'(by omega)).1.weights Tryz.prog 22).all (·≤reachBytes)=true:=by
  simp only [DataW.weights,u24] at hw
  refine wt_at hw (i:=2) ?_ (by rw [List.getElem?_map,List.getElem?_eq_getElem (by omega)]; rfl)
  rw [List.getElem?_map,Array.getElem?_toList,get_bang (by rw [f24s]; decide),Option.map_some,t2]
 have:=slice_wt u22 e2 hw2 (A:=A) (n:=n) (c:=c) rfl
 rwa [show Tryz.prog.bytesOf 106=56 by kernel_rfl] at this
theorem wt_book {x y f:Int}{A1 A2 A3 A4:Option Addr}{n1 n2 n3 n4 c1 c2 c3' c4:Nat} (hd:DataW.Trod enc Tryz.prog w 0 spare held 29 (AG [I x,I y,SL A1 n1 c1,I f,SL A2 n2 c2,SL A3 n3 c3',SL A4 n4 c4]) d ps) (hw:(d.weights Tryz.prog 29).all (·≤reachBytes)=true):n1*56≤140737488355328∧n2*16≤140737488355328∧n3*24≤140737488355328∧n4*32≤140737488355328:=by
 obtain ⟨fuel,hf⟩:=hd
 obtain ⟨xs,m,_,hx,hl,hxs,hel⟩:=DataW.trod_struct u29 hf
 have hx1:d=.agg (xs.map (·.1)):=congrArg Prod.fst hx
 subst hx1
 have fb:=f29b
 simp only [List.all_cons,List.all_nil,Bool.and_eq_true,beq_iff_eq,and_true] at fb
 obtain ⟨⟨o0,t0⟩,⟨o1,t1⟩,⟨o2,t2⟩,⟨o3,t3⟩,⟨o4,t4⟩⟩:=fb
 have e0:=hel 0 _ (get_bang (by rw [f29s]; decide))
 have e2:=hel 2 _ (get_bang (by rw [f29s]; decide))
 have e3:=hel 3 _ (get_bang (by rw [f29s]; decide))
 have e4:=hel 4 _ (get_bang (by rw [f29s]; decide))
 rw [f29s] at hxs
 rw [o0,t0,c24,List.getElem?_eq_getElem (by omega)] at e0
 rw [o2,t2,c25,List.getElem?_eq_getElem (by omega)] at e2
 rw [o3,t3,c26,List.getElem?_eq_getElem (by omega)] at e3
 rw [o4,t4,c27,List.getElem?_eq_getElem (by omega)] at e4
 simp only [DataW.weights,u29] at hw
 have wi:∀ (i:Nat) (hi:i < xs.length) (t:Nat),i < (Tryz.prog.fieldsOf 29).size→(Tryz.prog.fieldsOf 29)[i]!.type=t→((xs[i]'hi).1.weights Tryz.prog t).all (·≤reachBytes)=true:=fun i hi t h1 h2=>by
  refine wt_at hw (i:=i) ?_ (by rw [List.getElem?_map,List.getElem?_eq_getElem hi]; rfl)
  rw [List.getElem?_map,Array.getElem?_toList,get_bang h1,Option.map_some,h2]
 have r1:=wt_tally e0 (wi 0 (by omega) 24 (by rw [f29s]; decide) t0) (x:=x) (y:=y) (A:=A1) (n:=n1) (c:=c1) rfl
 have r2:=slice_wt u25 e2 (wi 2 (by omega) 25 (by rw [f29s]; decide) t2) (A:=A2) (n:=n2) (c:=c2) rfl
 have r3:=slice_wt u26 e3 (wi 3 (by omega) 26 (by rw [f29s]; decide) t3) (A:=A3) (n:=n3) (c:=c3') rfl
 have r4:=slice_wt u27 e4 (wi 4 (by omega) 27 (by rw [f29s]; decide) t4) (A:=A4) (n:=n4) (c:=c4) rfl
 rw [show Tryz.prog.bytesOf 84=16 by kernel_rfl] at r2
 rw [show Tryz.prog.bytesOf 86=24 by kernel_rfl] at r3
 rw [show Tryz.prog.bytesOf 39=32 by kernel_rfl] at r4
 have h2:reachBytes≤140737488355328:=by decide
 omega
end Go.Proofs.YtafhljljfglfeaaGreatDoor
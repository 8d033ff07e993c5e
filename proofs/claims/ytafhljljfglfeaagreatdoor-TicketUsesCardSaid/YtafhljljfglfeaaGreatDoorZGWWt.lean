/- What a truth of a book of tickets is. -/
import Derived.Test.YtafhljljfglfeaaGreatDoorZGPOpenT
import Derived.KernelRfl
set_option linter.unusedVariables false
set_option linter.unusedSimpArgs false
namespace Go.Proofs.YtafhljljfglfeaaGreatDoor
open Go Go.Fx
theorem ext3 {l m:List Int} (hl:l.length=3) (hm:m.length=3) (h:∀ i,i < 3→l.getD i 0=m.getD i 0):l=m:=by
 refine List.ext_getElem? fun i=>?_
 by_cases hi:i < 3
 ·have:=h i hi
  rw [List.getD_eq_getElem?_getD,List.getD_eq_getElem?_getD,List.getElem?_eq_getElem (by omega),List.getElem?_eq_getElem (by omega)] at this
  rw [List.getElem?_eq_getElem (by omega),List.getElem?_eq_getElem (by omega)]
  exact congrArg some this
 ·rw [List.getElem?_eq_none (by omega),List.getElem?_eq_none (by omega)]
theorem getD_set {l:List Int}{d i:Nat}{x:Int} (hd:d < l.length):(l.set d x).getD i 0=if d=i then x else l.getD i 0:=by
 rw [List.getD_eq_getElem?_getD,List.getElem?_set]
 by_cases h:d=i
 ·rw [if_pos h,if_pos h,if_pos hd]; rfl
 ·rw [if_neg h,if_neg h,List.getD_eq_getElem?_getD]
theorem paidN_congr {c u u' :List Int}{f n:Nat} (h:∀ i,f≤i→i < f+n→u.getD i 0=u'.getD i 0):paidN c u f n=paidN c u' f n:=by
 unfold paidN
 congr 1
 refine List.map_congr_left fun i hi=>?_
 have:=List.mem_range'_1.1 hi
 unfold pv
 rw [h i this.1 this.2]
theorem rightN_congr {q:Ticket_book} (Q:OpT q) {c u u' :List Int}{d:Nat} (h:∀ i,i≤d→u.getD i 0=u'.getD i 0):rightN q c u d=rightN q c u' d:=by
 unfold rightN
 rw [Bool.eq_iff_iff,List.all_eq_true,List.all_eq_true]
 refine forall_congr' fun x=>forall_congr' fun hx=>?_
 have B:=Q.bx x hx
 have f0:=B.f0; have ft:=B.ft
 by_cases hd:x.To=d
 ·unfold fitsN
  rw [paidN_congr (u:=u) (u' :=u') fun i h1 h2=>h i (by omega)]
 ·rw [show (x.To==(d:Int))=false by rw [beq_eq_false_iff_ne]; exact hd]
  simp
theorem okN_congr {q:Ticket_book} (Q:OpT q) {c u u' :List Int}{s d:Nat} (h:∀ i,i≤d→u.getD i 0=u'.getD i 0):okN q c u s d=okN q c u' s d:=by
 unfold okN
 rw [rightN_congr Q h]
theorem mem_uses {q:Ticket_book} (Q:OpT q) {t:Ticket_truth}:∀ (r:Nat) (c u:List Int) (d:Nat),u.length=3→d+r≤3→(t∈usesL q r c u d↔t.crossed_=c∧t.used_.length=3∧(∀ i,(i < d∨d+r≤i)→t.used_.getD i 0=u.getD i 0)∧∀ i,d≤i→i < d+r→∃ s:Nat,s < 8∧t.used_.getD i 0=(s:Int)∧okN q c t.used_ s i=true):=by
 intro r
 induction r with
 | zero=>
   intro c u d hu hd
   unfold usesL
   rw [List.mem_singleton]
   constructor
   ·rintro rfl
    exact ⟨rfl,hu,fun _ _=>rfl,fun i h1 h2=>by omega⟩
   ·rintro ⟨h1,h2,h3,_⟩
    obtain ⟨tc,tu⟩:=t
    simp only at h1 h2 h3
    rw [h1,ext3 h2 hu fun i _=>h3 i (by omega)]
 | succ r ih=>
   intro c u d hu hd
   unfold usesL
   rw [List.mem_flatMap]
   constructor
   ·rintro ⟨s,hs,ht⟩
    have hs:=(List.mem_range'_1.1 hs).2
    cases ho:okN q c (u.set d (s:Int)) s d with
    | false=>rw [ho] at ht; cases ht
    | true=>
      rw [ho,cond_true,ih c _ (d+1) (by rw [List.length_set]; exact hu) (by omega)] at ht
      obtain ⟨h1,h2,h3,h4⟩:=ht
      refine ⟨h1,h2,fun i hi=>?_,fun i h5 h6=>?_⟩
      ·rw [h3 i (by omega),getD_set (by omega),if_neg (by omega)]
      ·by_cases hid:i=d
       ·subst hid
        refine ⟨s,by omega,?_,?_⟩
        ·rw [h3 i (by omega),getD_set (by omega),if_pos rfl]
        ·rw [okN_congr Q (u' :=u.set i (s:Int)) fun j hj=>h3 j (by omega)]; exact ho
       ·exact h4 i (by omega) (by omega)
   ·rintro ⟨h1,h2,h3,h4⟩
    obtain ⟨s,hs,hv,ho⟩:=h4 d (Nat.le_refl _) (by omega)
    have hg:∀ j,j≤d→t.used_.getD j 0=(u.set d (s:Int)).getD j 0:=fun j hj=>by
     rw [getD_set (by omega)]
     split
     ·next h=>rw [← h]; exact hv
     ·exact h3 j (by omega)
    refine ⟨s,List.mem_range'_1.2 (by omega),?_⟩
    rw [← okN_congr Q hg,ho,cond_true,ih c _ (d+1) (by rw [List.length_set]; exact hu) (by omega)]
    refine ⟨h1,h2,fun i hi=>?_,fun i h5 h6=>h4 i (by omega) (by omega)⟩
    by_cases hid:i≤d
    ·exact hg i hid
    ·rw [getD_set (by omega),if_neg (by omega)]; exact h3 i (by omega)
theorem mem_cross {q:Ticket_book}{t:Ticket_truth}:∀ (r:Nat) (c:List Int) (d:Nat),c.length=3→d+r≤3→0≤q.TicketBook.Tally.Room→(t∈crossL q r c d↔∃ c' :List Int,c'.length=3∧(∀ i,(i < d∨d+r≤i)→c'.getD i 0=c.getD i 0)∧(∀ i,d≤i→i < d+r→0≤c'.getD i 0∧c'.getD i 0≤q.TicketBook.Tally.Room)∧canB q.TicketBook.Tally c' =true∧t∈usesL q q.TicketBook.Tally.Trips.toNat c' zer 0):=by
 intro r
 induction r with
 | zero=>
   intro c d hc hd hr
   unfold crossL
   constructor
   ·intro h
    cases hb:canB q.TicketBook.Tally c with
    | false=>rw [hb] at h; cases h
    | true=>rw [hb] at h; exact ⟨c,hc,fun _ _=>rfl,fun i h1 h2=>by omega,hb,h⟩
   ·rintro ⟨c',h1,h2,_,h3,h4⟩
    rw [ext3 h1 hc fun i _=>h2 i (by omega)] at h3 h4
    rw [h3]; exact h4
 | succ r ih=>
   intro c d hc hd hr
   unfold crossL
   rw [List.mem_flatMap]
   constructor
   ·rintro ⟨n,hn,ht⟩
    have hn:=(List.mem_range'_1.1 hn).2
    rw [ih _ (d+1) (by rw [List.length_set]; exact hc) (by omega) hr] at ht
    obtain ⟨c',h1,h2,h3,h4,h5⟩:=ht
    refine ⟨c',h1,fun i hi=>?_,fun i h6 h7=>?_,h4,h5⟩
    ·rw [h2 i (by omega),getD_set (by omega),if_neg (by omega)]
    ·by_cases hid:i=d
     ·subst hid
      rw [h2 i (by omega),getD_set (by omega),if_pos rfl]; omega
     ·exact h3 i (by omega) (by omega)
   ·rintro ⟨c',h1,h2,h3,h4,h5⟩
    have hb:=h3 d (Nat.le_refl _) (by omega)
    refine ⟨(c'.getD d 0).toNat,List.mem_range'_1.2 (by omega),?_⟩
    rw [ih _ (d+1) (by rw [List.length_set]; exact hc) (by omega) hr]
    refine ⟨c',h1,fun i hi=>?_,fun i h6 h7=>h3 i (by omega) (by omega),h4,h5⟩
    rw [getD_set (by omega)]
    split
    ·next h=>rw [← h]; omega
    ·exact h2 i (by omega)
def Use (b:TicketBook) (s d:Nat):Prop:=∀ n:Nat,s.testBit n=true→∃ x,b.Tickets[n]? =some x∧x.From≤d∧(d:Int)≤x.To
structure Tr (b:TicketBook) (sh:List TicketShow) (bx:List TicketBox) (t:Ticket_truth):Prop where
 cl:Cl sh
 c3:t.crossed_.length=3
 u3:t.used_.length=3
 cr:∀ d:Nat,(d:Int) < b.Tally.Trips→0≤t.crossed_.getD d 0∧t.crossed_.getD d 0≤b.Tally.Room
 cz:∀ d:Nat,b.Tally.Trips≤d→t.crossed_.getD d 0=0
 uz:∀ d:Nat,b.Tally.Trips≤d→t.used_.getD d 0=0
 ub:∀ d:Nat,0≤t.used_.getD d 0∧t.used_.getD d 0 < 8
 us:∀ d:Nat,(d:Int) < b.Tally.Trips→Use b (t.used_.getD d 0).toNat d
 pc:∀ d:Nat,(d:Int) < b.Tally.Trips→popN (t.used_.getD d 0).toNat≤t.crossed_.getD d 0
 sw:∀ x∈sh,(t.used_.getD x.Trip.toNat 0).toNat.testBit x.Ticket.toNat=true
 can:Fit b.Tally no (pre (t.crossed_.take b.Tally.Trips.toNat))
 bx:∀ x∈bx,fitsN b.Fare t.crossed_ t.used_ x=true
theorem valid_iff {b:TicketBook} (V:VT b) {sh:List TicketShow}{bx:List TicketBox}{s d:Nat} (hs:s < 8):validN (qOf b sh bx) s d=true↔Use b s d:=by
 have tn:=V.tn
 unfold validN Use
 show ((List.range b.Tickets.length).all (fun k=>(b.Tickets[k]?).all fun x=>!s.testBit k||inB d x.From x.To)&&s / 2 ^ b.Tickets.length==0)=true↔_
 rw [Bool.and_eq_true,List.all_eq_true,beq_iff_eq]
 constructor
 ·rintro ⟨h1,h2⟩ n hn
  have hlt:n < b.Tickets.length:=by
   refine Nat.lt_of_not_le fun hle=>?_
   have hp:0 < 2 ^ b.Tickets.length:=Nat.two_pow_pos _
   have h3:s < 2 ^ b.Tickets.length:=by
    rcases Nat.div_eq_zero_iff.1 h2 with h | h
    ·omega
    ·exact h
   have:s < 2 ^ n:=Nat.lt_of_lt_of_le h3 (Nat.pow_le_pow_right (by omega) hle)
   rw [Nat.testBit_lt_two_pow this] at hn
   cases hn
  have:=h1 n (List.mem_range.2 hlt)
  rw [List.getElem?_eq_getElem hlt,Option.all_some,hn,Bool.not_true,Bool.false_or,inB_iff] at this
  exact ⟨_,List.getElem?_eq_getElem hlt,this⟩
 ·intro h
  refine ⟨fun k hk=>?_,?_⟩
  ·have hk:=List.mem_range.1 hk
   rw [List.getElem?_eq_getElem hk,Option.all_some]
   cases hb:s.testBit k with
   | false=>rfl
   | true=>
     obtain ⟨x,hx,h1⟩:=h k hb
     rw [List.getElem?_eq_getElem hk] at hx
     cases hx
     rw [Bool.not_true,Bool.false_or,inB_iff]
     exact h1
  ·refine Nat.div_eq_of_lt (Nat.lt_pow_two_of_testBit s fun n hn=>?_)
   refine Bool.eq_false_iff.2 fun hb=>?_
   obtain ⟨x,hx,_⟩:=h n hb
   have:=(List.getElem?_eq_some_iff.1 hx).1
   omega
theorem mem_truths {b:TicketBook} (V:VT b) {sh:List TicketShow}{bx:List TicketBox} (P:Pc b sh bx) {cl:Bool} (hc:cl=true↔Cl sh) {t:Ticket_truth}:t∈truths (qOf b sh bx) cl↔Tr b sh bx t:=by
 have Q:=qOf_op V P
 have t1:=V.ta.t1; have t3:=V.t3
 have S:=shown_ok V.t3 V.tn sh P.sh
 have hz:∀ i,zer.getD i 0=0:=fun d=>by
  unfold zer; rw [List.getD_eq_getElem?_getD,List.getElem?_replicate]; split <;> rfl
 unfold truths
 constructor
 ·intro h
  cases cl with
  | false=>cases h
  | true=>
    rw [cond_true,mem_cross _ _ _ rfl (by show 0+b.Tally.Trips.toNat≤3; omega) V.ta.r0] at h
    obtain ⟨c,h1,h2,h3,h4,h5⟩:=h
    rw [mem_uses Q _ _ _ _ rfl (by show 0+b.Tally.Trips.toNat≤3; omega)] at h5
    obtain ⟨h6,h7,h8,h9⟩:=h5
    subst h6
    have h2:∀ i,b.Tally.Trips.toNat≤i→t.crossed_.getD i 0=0:=fun i hi=>(h2 i (by right; show 0+b.Tally.Trips.toNat≤i; omega)).trans (hz i)
    have h8:∀ i,b.Tally.Trips.toNat≤i→t.used_.getD i 0=0:=fun i hi=>(h8 i (by right; show 0+b.Tally.Trips.toNat≤i; omega)).trans (hz i)
    have h3:∀ i,i < b.Tally.Trips.toNat→0≤t.crossed_.getD i 0∧t.crossed_.getD i 0≤b.Tally.Room:=fun i hi=>h3 i (Nat.zero_le _) (by show i < 0+b.Tally.Trips.toNat; omega)
    have h9:∀ i,i < b.Tally.Trips.toNat→∃ s:Nat,s < 8∧t.used_.getD i 0=(s:Int)∧okN (qOf b sh bx) t.crossed_ t.used_ s i=true:=fun i hi=>h9 i (Nat.zero_le _) (by show i < 0+b.Tally.Trips.toNat; omega)
    have h9' :∀ i,i < b.Tally.Trips.toNat→(0≤t.used_.getD i 0∧t.used_.getD i 0 < 8)∧Use b (t.used_.getD i 0).toNat i∧(∀ n:Nat,((shownOf sh).getD i 0).toNat.testBit n=true→(t.used_.getD i 0).toNat.testBit n=true)∧popN (t.used_.getD i 0).toNat≤t.crossed_.getD i 0∧rightN (qOf b sh bx) t.crossed_ t.used_ i=true:=fun i hi=>by
     obtain ⟨s,hs,hv,ho⟩:=h9 i hi
     unfold okN at ho
     simp only [Bool.and_eq_true,beq_iff_eq,decide_eq_true_eq] at ho
     rw [hv,Int.toNat_natCast]
     exact ⟨by omega,(valid_iff V hs).1 ho.1.1.1,and_sub.1 ho.1.1.2,ho.1.2,ho.2⟩
    refine ⟨hc.1 rfl,h1,h7,fun d hd=>h3 d (by omega),fun d hd=>h2 d (by omega),fun d hd=>h8 d (by omega),fun d=>?_,fun d hd=>(h9' d (by omega)).2.1,fun d hd=>(h9' d (by omega)).2.2.2.1,fun x hx=>?_,((canB_eq V.ta (tru_of V.ta t3 h1 h3)).2).1 h4,fun x hx=>?_⟩
    ·by_cases hd:d < b.Tally.Trips.toNat
     ·exact (h9' d hd).1
     ·rw [h8 d (by omega)]; omega
    ·have B:=P.sh x hx
     have:=B.t0; have:=B.tT; have:=B.n0
     exact (h9' x.Trip.toNat (by omega)).2.2.1 _ ((S.2.2 _ _).2 ⟨x,hx,by omega,by omega⟩)
    ·have B:=P.bx x hx
     have:=B.f0; have:=B.ft; have:=B.tT
     have:=List.all_eq_true.1 (h9' x.To.toNat (by omega)).2.2.2.2 x hx
     rw [show (x.To==((x.To.toNat:Nat):Int))=true by rw [beq_iff_eq]; omega,Bool.not_true,Bool.false_or] at this
     exact this
 ·intro h
  rw [hc.2 h.cl,cond_true,mem_cross _ _ _ rfl (by show 0+b.Tally.Trips.toNat≤3; omega) V.ta.r0]
  have hcr:∀ i,i < b.Tally.Trips.toNat→0≤t.crossed_.getD i 0∧t.crossed_.getD i 0≤b.Tally.Room:=fun i hi=>h.cr i (by omega)
  refine ⟨t.crossed_,h.c3,fun i hi=>?_,fun i _ hi=>hcr i (by have:i < 0+b.Tally.Trips.toNat:=hi; omega),(canB_eq V.ta (tru_of V.ta t3 h.c3 hcr)).2.2 h.can,?_⟩
  ·have hi:i < 0∨0+b.Tally.Trips.toNat≤i:=hi
   rw [hz]; exact h.cz i (by omega)
  rw [mem_uses Q _ _ _ _ rfl (by show 0+b.Tally.Trips.toNat≤3; omega)]
  refine ⟨rfl,h.u3,fun i hi=>?_,fun i _ hi=>?_⟩
  ·have hi:i < 0∨0+b.Tally.Trips.toNat≤i:=hi
   rw [hz]; exact h.uz i (by omega)
  ·have hi:i < 0+b.Tally.Trips.toNat:=hi
   have hu:=h.ub i
   refine ⟨(t.used_.getD i 0).toNat,by omega,by omega,?_⟩
   unfold okN
   simp only [Bool.and_eq_true,beq_iff_eq,decide_eq_true_eq]
   refine ⟨⟨⟨(valid_iff V (by omega)).2 (h.us i (by omega)),and_sub.2 fun n hn=>?_⟩,h.pc i (by omega)⟩,?_⟩
   ·obtain ⟨x,hx,e1,e2⟩:=(S.2.2 i n).1 hn
    have:=h.sw x hx
    rw [show x.Trip.toNat=i by omega,show x.Ticket.toNat=n by omega] at this
    exact this
   ·refine List.all_eq_true.2 fun x hx=>?_
    have:=h.bx x hx
    rw [show fitsN (qOf b sh bx).TicketBook.Fare t.crossed_ t.used_ x=true from this,Bool.or_true]
end Go.Proofs.YtafhljljfglfeaaGreatDoor
namespace Go.Proofs.YtafhljljfglfeaaGreatDoor
open Go Go.Fx
def CanT (b:TicketBook) (sh:List TicketShow) (bx:List TicketBox):Prop:=∃ t,Tr b sh bx t
theorem isTrueT_eq {b:TicketBook} (V:VT b) {sh:List TicketShow}{bx:List TicketBox} (P:Pc b sh bx):∃ r,ticket_book_isTrue (qOf b sh bx)=some r∧(r=true↔CanT b sh bx):=by
 obtain ⟨cl,hc,hi⟩:=clear_eq V P
 unfold ticket_book_isTrue ticket_book_truths
 rw [Option.bind_some,truths_eq _ (qOf_op V P) hc,foldY_find ticket_book_isTrue_r1 (fun _=>true) false true (truths (qOf b sh bx) cl) (fun _ _=>rfl)]
 have hm:=fun t=>mem_truths V P hi (t:=t)
 unfold CanT
 cases hL:truths (qOf b sh bx) cl with
 | nil=>
   refine ⟨false,rfl,?_⟩
   simp only [Bool.false_eq_true,false_iff]
   rintro ⟨t,ht⟩
   have:=(hm t).2 ht
   rw [hL] at this; cases this
 | cons x l=>
   refine ⟨true,rfl,?_⟩
   simp only [true_iff]
   exact ⟨x,(hm x).1 (by rw [hL]; exact List.mem_cons_self ..)⟩
theorem outS_no (b:TicketBook):outS b (fun _=>false)=b.Shows:=kept_all _
theorem outX_no (b:TicketBook):outX b (fun _=>false)=b.Boxes:=kept_all _
theorem nobodyT {b:TicketBook} (V:VT b):ticket_opened b (Ticket_choice.mk (fun y28=>ticket_nothing_1 y28))=some (qOf b b.Shows b.Boxes):=by
 have:=openedT_eq V (Ticket_choice.mk (fun y28=>ticket_nothing_1 y28)) (fun _=>false) (fun k _=>rfl)
 rw [outS_no,outX_no] at this
 exact this
def Can (b:TicketBook):Prop:=CanT b b.Shows b.Boxes
theorem askedT {b:TicketBook} (V:VT b):∃ e,ticket_asked b true=some (qOf b b.Shows b.Boxes,e)∧((e=0∧Can b)∨(e=102∧¬Can b)):=by
 obtain ⟨r,hr,hi⟩:=isTrueT_eq V V.pc
 refine ⟨if r=true then 0 else 102,?_,?_⟩
 ·unfold ticket_asked
  rw [checkT_ok V,Option.bind_some]
  simp only [bne_self_eq_false,cond_false,Bool.not_true]
  unfold ticket_nothing
  rw [Option.bind_some,nobodyT V,Option.bind_some]
  show (ticket_book_isTrue (qOf b b.Shows b.Boxes)).bind _=_
  rw [hr,Option.bind_some]
  cases r <;> rfl
 ·cases r
  ·right; exact ⟨rfl,fun h=>by simpa using hi.2 h⟩
  ·left; exact ⟨rfl,hi.1 rfl⟩
theorem askedF {b:TicketBook} (V:VT b):∃ x,ticket_asked b false=some (x,101):=by
 unfold ticket_asked
 rw [checkT_ok V,Option.bind_some]
 exact ⟨_,rfl⟩
theorem len_flat {α β:Type}{l:List α}{f:α→List β}{k:Nat} (h:∀ x∈l,(f x).length≤k):(l.flatMap f).length≤l.length*k:=by
 induction l with
 | nil=>simp
 | cons x l ih=>
   rw [List.flatMap_cons,List.length_append,List.length_cons,Nat.add_mul,Nat.one_mul]
   have h1:=h x (List.mem_cons_self ..)
   have h2:=ih fun y hy=>h y (List.mem_cons_of_mem _ hy)
   omega
structure SpT (b:TicketBook) (sh:List TicketShow) (bx:List TicketBox) (g:Ticket_truth→Int) (s:Span):Prop where
 loE:∃ t,Tr b sh bx t∧g t=s.Low
 hiE:∃ t,Tr b sh bx t∧g t=s.High
 all:∀ t,Tr b sh bx t→s.Low≤g t∧g t≤s.High
theorem SpT.le {b:TicketBook}{sh:List TicketShow}{bx:List TicketBox}{g:Ticket_truth→Int}{s:Span} (S:SpT b sh bx g s):s.Low≤s.High:=by
 obtain ⟨t,ht,_⟩:=S.loE
 have:=S.all t ht; omega
theorem trip_iff {T n:Int}:inB n 0 (T - 1)=true↔0≤n∧n < T:=by rw [inB_iff]; omega
theorem bitV (s k:Nat) (hk:k < 64):andI (shrI (s:Int) (k:Int)) 1=if s.testBit k then 1 else 0:=by
 rw [shr_nat s k hk,and1_nat,Nat.testBit_eq_decide_div_mod_eq]
 by_cases h:s / 2 ^ k % 2=1
 ·simp [h]
 ·have:s / 2 ^ k % 2=0:=by omega
  simp [this]
def usedB (x:Ticket_truth) (n d:Nat):Bool:=(x.used_.getD d 0).toNat.testBit n
theorem always_eq {b:TicketBook} (V:VT b) {sh:List TicketShow}{bx:List TicketBox} (P:Pc b sh bx) {n d:Nat} (hn:n < 3) (hd:d < 3):∃ r,ticket_book_always (qOf b sh bx) n d=some r∧(r=true↔∀ t,Tr b sh bx t→usedB t n d=true):=by
 obtain ⟨cl,hc,hi⟩:=clear_eq V P
 have hm:=fun t=>mem_truths V P hi (t:=t)
 have F:=foldY_find (ticket_book_always_r1 d n) (fun x=>!usedB x n d) () () (truths (qOf b sh bx) cl) (fun x hx=>by
  have hu:=((hm x).1 hx).ub d
  unfold ticket_book_always_r1
  rw [need_of (by simp [inI]; omega),need_of (by simp),agetN,show x.used_.getD d 0=(((x.used_.getD d 0).toNat:Nat):Int) by omega,bitV _ n (by omega)]
  unfold usedB
  cases (x.used_.getD d 0).toNat.testBit n <;> rfl)
 refine ⟨!(truths (qOf b sh bx) cl).any fun x=>!usedB x n d,?_,?_⟩
 ·unfold ticket_book_always ticket_book_truths
  rw [Option.bind_some,truths_eq _ (qOf_op V P) hc,F]
  cases (truths (qOf b sh bx) cl).any fun x=>!usedB x n d <;> rfl
 ·rw [Bool.not_eq_true',List.any_eq_false]
  refine forall_congr' fun x=>?_
  rw [hm]
  simp
theorem sometimes_eq {b:TicketBook} (V:VT b) {sh:List TicketShow}{bx:List TicketBox} (P:Pc b sh bx) {n d:Nat} (hn:n < 3) (hd:d < 3):∃ r,ticket_book_sometimes (qOf b sh bx) n d=some r∧(r=true↔∃ t,Tr b sh bx t∧usedB t n d=true):=by
 obtain ⟨cl,hc,hi⟩:=clear_eq V P
 have hm:=fun t=>mem_truths V P hi (t:=t)
 have F:=foldY_find (ticket_book_sometimes_r1 d n) (fun x=>usedB x n d) false true (truths (qOf b sh bx) cl) (fun x hx=>by
  have hu:=((hm x).1 hx).ub d
  unfold ticket_book_sometimes_r1
  rw [need_of (by simp [inI]; omega),need_of (by simp),agetN,show x.used_.getD d 0=(((x.used_.getD d 0).toNat:Nat):Int) by omega,bitV _ n (by omega)]
  unfold usedB
  cases (x.used_.getD d 0).toNat.testBit n <;> rfl)
 refine ⟨(truths (qOf b sh bx) cl).any fun x=>usedB x n d,?_,?_⟩
 ·unfold ticket_book_sometimes ticket_book_truths
  rw [Option.bind_some,truths_eq _ (qOf_op V P) hc,F]
  cases (truths (qOf b sh bx) cl).any fun x=>usedB x n d <;> rfl
 ·rw [List.any_eq_true]
  exact exists_congr fun x=>and_congr_left fun _=>hm x
structure Lst (n:Nat) (p:Nat→Prop) (l:List Int):Prop where
 clm:Clm l n
 mem:∀ k:Nat,(k:Int)∈l↔k < n∧p k
theorem lst_loop {body:(List Int×Int→Option (List Int×Int))→List Int×Int→Option (List Int×Int)} (n:Nat) (hn:n≤1000) (p:Nat→Prop) (hs:∀ rec (l:List Int) k,k < n→l.length≤k→∃ r:Bool,(r=true↔p k)∧body rec (l,(k:Int))=rec (bif r then l++[(k:Int)] else l,((k+1:Nat):Int))) (he:∀ rec l,body rec (l,(n:Int))=some (l,0)):∃ l,loopF body big ([],0)=some (l,0)∧Lst n p l:=by
 refine Exists.elim (loopF_inv (body:=body) (fun z:List Int×Int=>∃ k:Nat,z.2=k∧k≤n∧z.1.length≤k∧Clm z.1 k∧∀ j:Nat,(j:Int)∈z.1↔j < k∧p j) (fun z=>n - z.2.toNat) (fun r=>∃ l,r=(l,0)∧Lst n p l) ?_ big ([],0) ⟨0,rfl,Nat.zero_le _,Nat.le_refl _,Clm.nil,fun j=>by simp⟩ (by unfold big; simp; omega)) fun r ⟨h1,l,h2,h3⟩=>⟨l,by rw [h1,h2],h3⟩
 rintro rec ⟨l,i⟩ ⟨k,h1,h2,h3,h4,h5⟩ ih
 simp only at h1 h3 h4 h5 ih
 subst h1
 by_cases hk:k < n
 ·obtain ⟨r,hr,hb⟩:=hs rec l k hk h3
  rw [hb]
  have up:Clm l ((k+1:Nat):Int):=fun i x hx=>by
   have:=h4 i x hx
   exact ⟨this.1,by omega,this.2.2⟩
  cases r with
  | true=>
    refine ih _ ⟨k+1,rfl,hk,by simp; omega,up.snoc (by omega) (by omega) (fun y hy=>?_),fun j=>?_⟩ (by simp only; omega)
    ·rw [List.getLast?_eq_getElem?] at hy
     exact (h4 _ _ hy).2.1
    ·simp only [cond_true,List.mem_append,List.mem_singleton,h5]
     constructor
     ·rintro (⟨a,b⟩ | a)
      ·exact ⟨by omega,b⟩
      ·have:j=k:=by omega
       subst this; exact ⟨by omega,hr.1 rfl⟩
     ·rintro ⟨a,b⟩
      by_cases hj:j=k
      ·right; rw [hj]
      ·left; exact ⟨by omega,b⟩
  | false=>
    refine ih _ ⟨k+1,rfl,hk,by simp; omega,up,fun j=>?_⟩ (by simp only; omega)
    simp only [cond_false,h5]
    constructor
    ·rintro ⟨a,b⟩; exact ⟨by omega,b⟩
    ·rintro ⟨a,b⟩
     refine ⟨?_,b⟩
     by_cases hj:j=k
     ·subst hj; have:=hr.2 b; cases this
     ·omega
 ·obtain rfl:k=n:=by omega
  rw [he]
  exact ⟨_,rfl,l,rfl,h4,h5⟩
theorem must_law {b:TicketBook} (V:VT b) {d:Nat} (h:(d:Int) < b.Tally.Trips):∃ l e,ticket_Must b d=some (l,e)∧((e=0∧Can b∧Lst b.Tickets.length (fun n=>∀ t,Tr b b.Shows b.Boxes t→usedB t n d=true) l)∨(e=102∧l=[]∧¬Can b)):=by
 have tn:=V.tn; have t3:=V.t3
 obtain ⟨e,he,hc⟩:=askedT V
 unfold ticket_Must ticket_used
 rw [isTrip_eq b V.ta.t1 V.ta.t8,Option.bind_some,trip_iff.2 (by omega),he,Option.bind_some]
 rcases hc with ⟨rfl,C⟩ | ⟨rfl,C⟩
 ·obtain ⟨l,hl,L⟩:=lst_loop (body:=ticket_used_l4 b 0 (qOf b b.Shows b.Boxes,0) d) b.Tickets.length (by omega) (fun n=>∀ t,Tr b b.Shows b.Boxes t→usedB t n d=true) (fun rec l k hk hl=>by
   obtain ⟨r,hr,hi⟩:=always_eq V V.pc (n:=k) (d:=d) (by omega) (by omega)
   refine ⟨r,hi,?_⟩
   unfold ticket_used_l4
   simp only
   rw [decide_eq_true (by omega),cond_true,need_of (by decide),show ((0:Int)==0)=true from rfl,cond_true,hr,Option.bind_some,wrI (by omega) (by omega),show (k:Int)+1=((k+1:Nat):Int) by omega]
   cases r with
   | true=>rw [cond_true,need_of (fits_small (by simp; omega) (by omega))]; rfl
   | false=>rfl) (fun rec l=>by
   unfold ticket_used_l4
   simp only
   rw [decide_eq_false (by omega),cond_false])
  refine ⟨l,0,?_,.inl ⟨rfl,C,L⟩⟩
  simp only [bne_self_eq_false,cond_false]
  rw [hl]; rfl
 ·exact ⟨[],102,rfl,.inr ⟨rfl,rfl,C⟩⟩
theorem may_law {b:TicketBook} (V:VT b) {d:Nat} (h:(d:Int) < b.Tally.Trips):∃ l e,ticket_May b d=some (l,e)∧((e=0∧Can b∧Lst b.Tickets.length (fun n=>∃ t,Tr b b.Shows b.Boxes t∧usedB t n d=true) l)∨(e=102∧l=[]∧¬Can b)):=by
 have tn:=V.tn; have t3:=V.t3
 obtain ⟨e,he,hc⟩:=askedT V
 unfold ticket_May ticket_used
 rw [isTrip_eq b V.ta.t1 V.ta.t8,Option.bind_some,trip_iff.2 (by omega),he,Option.bind_some]
 rcases hc with ⟨rfl,C⟩ | ⟨rfl,C⟩
 ·obtain ⟨l,hl,L⟩:=lst_loop (body:=ticket_used_l4 b 1 (qOf b b.Shows b.Boxes,0) d) b.Tickets.length (by omega) (fun n=>∃ t,Tr b b.Shows b.Boxes t∧usedB t n d=true) (fun rec l k hk hl=>by
   obtain ⟨r,hr,hi⟩:=sometimes_eq V V.pc (n:=k) (d:=d) (by omega) (by omega)
   refine ⟨r,hi,?_⟩
   unfold ticket_used_l4
   simp only
   rw [decide_eq_true (by omega),cond_true,need_of (by decide),show ((1:Int)==0)=false from rfl,cond_false,hr,Option.bind_some,wrI (by omega) (by omega),show (k:Int)+1=((k+1:Nat):Int) by omega]
   cases r with
   | true=>rw [cond_true,need_of (fits_small (by simp; omega) (by omega))]; rfl
   | false=>rfl) (fun rec l=>by
   unfold ticket_used_l4
   simp only
   rw [decide_eq_false (by omega),cond_false])
  refine ⟨l,0,?_,.inl ⟨rfl,C,L⟩⟩
  simp only [bne_self_eq_false,cond_false]
  rw [hl]; rfl
 ·exact ⟨[],102,rfl,.inr ⟨rfl,rfl,C⟩⟩
end Go.Proofs.YtafhljljfglfeaaGreatDoor
namespace Go.Proofs.YtafhljljfglfeaaGreatDoor
open Go Go.Fx
end Go.Proofs.YtafhljljfglfeaaGreatDoor
namespace Go.Proofs.YtafhljljfglfeaaGreatDoor
open Go Go.Fx
theorem sumOf_eq {l:List Int} (hl:l.length≤8) (h:∀ n∈l,0≤n∧n≤60):B_SumOf l=some l.sum:=sum_eq hl h
theorem span_eq {T:Int}{x:TallyCount} (h:Cnt T x):ref05_span x=some ⟨leastV x,mostV x⟩:=by
 have:=h.prod; have:=h.v0; have:=h.v30; have:=h.d0; have:=h.d30
 unfold ref05_span B_Range leastV mostV
 rw [wrI (x:=x.Told*x.Unit) (by omega) (by omega),wrI (by omega) (by omega),wrI (by omega) (by omega)]
 rfl
theorem rtrip_eq (b:TallyBook) (hb:-9223372036854775807≤b.Trips∧b.Trips≤9223372036854775807) (x:Int):ref05_isTrip b x=some (inB x 0 (b.Trips - 1)):=by
 unfold ref05_isTrip
 rw [wrI (by omega) (by omega),inside_eq]; rfl
theorem rcount_eq (b:TallyBook) (hb:-9223372036854775807≤b.Trips∧b.Trips≤9223372036854775807) (x:TallyCount):ref05_isCount b x=some (cntB b.Trips x):=by
 have e:cntB b.Trips x=(inB x.Who 0 2&&(inB x.From 0 (b.Trips - 1)&&(inB x.To 0 (b.Trips - 1)&&(decide (x.From≤x.To)&&(inB x.Told 0 99&&(inB x.Unit 1 20&&(inB x.Under 0 30&&(inB x.Over 0 30&&((x.Who != 1)||(x.Over==0)))))))))):=by
  rw [Bool.eq_iff_iff]
  unfold cntB tripsB
  simp only [Bool.and_eq_true,inB_iff,decide_eq_true_eq]
  constructor
  ·rintro ⟨⟨⟨⟨⟨⟨h1,h2,h3⟩,h4⟩,h5⟩,h6⟩,h7⟩,h8⟩
   exact ⟨h1,⟨by omega,by omega⟩,⟨by omega,by omega⟩,h2.2,h4,h5,h6,h7,h8⟩
  ·rintro ⟨h1,h2,h3,h4,h5,h6,h7,h8,h9⟩
   exact ⟨⟨⟨⟨⟨⟨h1,⟨by omega,by omega⟩,by omega⟩,h5⟩,h6⟩,h7⟩,h8⟩,h9⟩
 unfold ref05_isCount
 rw [e]
 simp only [inside_eq,rtrip_eq b hb,Option.bind_some]
 cases inB x.Who 0 2 <;> cases inB x.From 0 (b.Trips - 1) <;> cases inB x.To 0 (b.Trips - 1) <;> cases decide (x.From≤x.To) <;> cases inB x.Told 0 99 <;> cases inB x.Unit 1 20 <;> cases inB x.Under 0 30 <;> cases inB x.Over 0 30 <;> cases (x.Who != 1) <;> rfl
theorem rcheck_eq (b:TallyBook) (hl:b.Counts.length≤9223372036854775807):ref05_Check b=some (bif valB b then 0 else 50):=by
 have loop:∀ ok:Bool,(ok=true→-9223372036854775807≤b.Trips∧b.Trips≤9223372036854775807)→loopF (ref05_Check_l4 b) big (ok,0)=some (bif ok&&cntsB b.Trips b.Counts then 0 else 50):=by
  intro ok hok
  refine loopF_spec (fun s:Bool×Int=>0≤s.2∧s.2≤b.Counts.length∧(s.1=true→-9223372036854775807≤b.Trips∧b.Trips≤9223372036854775807)) (fun s=>b.Counts.length - s.2.toNat) (fun s=>bif s.1&&cntsB b.Trips (b.Counts.drop s.2.toNat) then 0 else 50) ?_ big (ok,0) ⟨by simp,by simp,hok⟩ (by unfold big; simp; omega)
  rintro rec ⟨ok',i⟩ ⟨h0,h1,h2⟩ ih
  simp only at h0 h1 h2 ih ⊢
  unfold ref05_Check_l4 ref05_Check_j3
  simp only
  cases ok' with
  | false=>rfl
  | true=>
    rw [cond_true]
    by_cases hi:i < b.Counts.length
    ·rw [decide_eq_true hi,cond_true]
     obtain ⟨x,hx,hx'⟩:=getI_lt h0 hi
     have hd:=drop_get hx'
     have e:(i+1).toNat=i.toNat+1:=by omega
     rw [hx,Option.bind_some,rcount_eq b (h2 rfl),Option.bind_some,hd,wrI (x:=i+1) (by omega) (by omega),ih _ ⟨by simp; omega,by simp; omega,fun _=>h2 rfl⟩ (by simp; omega)]
     simp only [e,cntsB,List.all_cons,Bool.true_and]
    ·rw [decide_eq_false hi,cond_false,show b.Counts.drop i.toNat=[] from List.drop_eq_nil_of_le (by omega)]
     rfl
 unfold ref05_Check ref05_Check_j5 valB
 simp only [inside_eq,Option.bind_some]
 have e1:decide ((b.Counts.length:Int)≤8)=decide (b.Counts.length≤8):=by
  rw [decide_eq_decide]; omega
 cases h1:inB b.Trips 1 8
 ·rw [cond_false,loop false (fun h=>by cases h)]; simp
 ·have:=inB_iff.1 h1
  rw [cond_true]
  cases h2:inB b.Room 0 60
  ·rw [cond_false,loop false (fun h=>by cases h)]; simp
  ·rw [cond_true,loop _ (fun _=>by omega)]; simp
theorem own_eq {b:TallyBook} (h:b.Counts.length*56≤140737488355328):B_OwnTally b=some b:=by
 unfold B_OwnTally B_OwnCounts
 rw [need_of (by unfold fitsL; simpa using h)]; rfl
theorem kept_eq (b:TallyBook) (hl:b.Counts.length≤9223372036854775806):B_KeptTally b b=some true:=by
 have loop:loopF (B_KeptCounts_l1 b.Counts b.Counts) big (true,0)=some true:=by
  refine loopF_spec (fun s:Bool×Int=>s.1=true∧0≤s.2∧s.2≤b.Counts.length) (fun s=>b.Counts.length - s.2.toNat) (fun _=>true) ?_ big (true,0) ⟨rfl,by simp,by simp⟩ (by unfold big; simp; omega)
  rintro rec ⟨_,i⟩ ⟨rfl,h0,h1⟩ ih
  unfold B_KeptCounts_l1
  simp only at h0 h1 ih ⊢
  rw [cond_true]
  by_cases hi:i < b.Counts.length
  ·rw [decide_eq_true hi,cond_true]
   obtain ⟨x,hx,_⟩:=getI_lt h0 hi
   rw [hx,Option.bind_some,Option.bind_some,wrI (x:=i+1) (by omega) (by omega)]
   simp only [beq_self_eq_true,Bool.and_self]
   exact ih _ ⟨rfl,by simp only; omega,by simp only; omega⟩ (by simp only; omega)
  ·rw [decide_eq_false hi,cond_false]
 unfold B_KeptTally B_KeptCounts
 simp only [beq_self_eq_true,cond_true,loop,Option.bind_some]
theorem rcheck_ok {b:TallyBook} (h:Val b):ref05_Check b=some 0:=by rw [rcheck_eq b (by have:=h.l8; omega),val_iff.2 h]; rfl
theorem check_bad {b:TallyBook} (hl:b.Counts.length≤9223372036854775807) (h:valB b=false):tally_Check b=some 50:=by rw [check_eq b hl,h]; rfl
theorem rcheck_bad {b:TallyBook} (hl:b.Counts.length≤9223372036854775807) (h:valB b=false):ref05_Check b=some 50:=by rw [rcheck_eq b hl,h]; rfl
theorem can_same (b:TallyBook) (hl:b.Counts.length≤9223372036854775807) (u:List Int):∃ r,tally_Can b u=some r∧ref05_Can b u=some r:=by
 cases hv:valB b
 ·refine ⟨(false,50),?_,?_⟩
  ·unfold tally_Can; rw [check_bad hl hv]; rfl
  ·unfold ref05_Can; rw [rcheck_bad hl hv]; rfl
 have V:=val_iff.1 hv
 have t8:=V.t8; have t1:=V.t1; have l8:=V.l8
 by_cases hlen:(u.length:Int)=b.Trips
 case neg=>
  refine ⟨(false,51),?_,?_⟩
  ·unfold tally_Can
   rw [check_ok V,Option.bind_some]
   simp only [bne_self_eq_false,cond_false]
   rw [show ((u.length:Int) != b.Trips)=true by simpa using hlen]; rfl
  ·unfold ref05_Can
   rw [rcheck_ok V,Option.bind_some]
   simp only [bne_self_eq_false,cond_false]
   rw [show ((u.length:Int) != b.Trips)=true by simpa using hlen]; rfl
 by_cases hin:∀ x∈u,0≤x∧x≤b.Room
 case neg=>
  refine ⟨(false,0),?_,?_⟩
  ·unfold tally_Can
   rw [check_ok V,Option.bind_some]
   simp only [bne_self_eq_false,cond_false]
   rw [show ((u.length:Int) != b.Trips)=false by simp [hlen],cond_false]
   refine loopF_spec (body:=tally_Can_l3 u b) (fun z:Int=>∃ k:Nat,z=k∧k≤u.length∧∀ j x,j < k→u[j]? =some x→0≤x∧x≤b.Room) (fun z=>u.length - z.toNat) (fun _=>(false,0)) ?_ big 0 ⟨0,rfl,Nat.zero_le _,fun j x hj=>absurd hj (Nat.not_lt_zero j)⟩ (by unfold big; simp; omega)
   rintro rec z ⟨k,rfl,hk,hq⟩ ih
   unfold tally_Can_l3
   by_cases hlt:k < u.length
   ·rw [decide_eq_true (by omega),cond_true,getI_nat,List.getElem?_eq_getElem hlt,Option.bind_some]
    have hx:=List.getElem?_eq_getElem hlt
    generalize u[k]=x at hx
    rw [within_eq,Option.bind_some]
    cases hi:inB x 0 b.Room
    ·rfl
    ·rw [Bool.not_true,cond_false,wrI (by omega) (by omega)]
     refine ih _ ⟨k+1,by simp,by omega,fun j y hj hy=>?_⟩ (by (try simp only); omega)
     by_cases e:j=k
     ·subst e; rw [hx] at hy; cases hy; exact inB_iff.1 hi
     ·exact hq j y (by omega) hy
   ·exfalso
    refine hin fun x hx=>?_
    obtain ⟨j,hj,rfl⟩:=List.getElem_of_mem hx
    exact hq j _ (by omega) (List.getElem?_eq_getElem hj)
  ·unfold ref05_Can
   rw [rcheck_ok V,Option.bind_some]
   simp only [bne_self_eq_false,cond_false]
   rw [show ((u.length:Int) != b.Trips)=false by simp [hlen],cond_false]
   refine loopF_spec (body:=ref05_Can_l3 u b) (fun s:Bool×Int=>∃ k:Nat,s.2=k∧k≤u.length∧(s.1=true→∀ j x,j < k→u[j]? =some x→0≤x∧x≤b.Room)) (fun s=>u.length - s.2.toNat) (fun _=>(false,0)) ?_ big (true,0) ⟨0,rfl,Nat.zero_le _,fun _ j x hj=>absurd hj (Nat.not_lt_zero j)⟩ (by unfold big; simp; omega)
   rintro rec ⟨ok,z⟩ ⟨k,rfl,hk,hq⟩ ih
   simp only at hq
   unfold ref05_Can_l3
   simp only
   by_cases hlt:k < u.length
   ·rw [decide_eq_true (by omega),cond_true,wrI (by omega) (by omega)]
    cases ok
    ·rw [cond_false]
     exact ih _ ⟨k+1,by simp,by omega,fun h=>by cases h⟩ (by (try simp only); omega)
    ·rw [cond_true,getI_nat,List.getElem?_eq_getElem hlt,Option.bind_some]
     have hx:=List.getElem?_eq_getElem hlt
     generalize u[k]=x at hx
     rw [inside_eq,Option.bind_some]
     refine ih _ ⟨k+1,by simp,by omega,fun h j y hj hy=>?_⟩ (by (try simp only); omega)
     by_cases e:j=k
     ·subst e; rw [hx] at hy; cases hy; exact inB_iff.1 h
     ·exact hq rfl j y (by omega) hy
   ·rw [decide_eq_false (by omega),cond_false]
    cases ok
    ·have hb:big=18446744073709551615+1:=by decide
     rw [hb,loopF_succ]; rfl
    ·exfalso
     refine hin fun x hx=>?_
     obtain ⟨j,hj,rfl⟩:=List.getElem_of_mem hx
     exact hq rfl j _ (by omega) (List.getElem?_eq_getElem hj)
 have hu:Tru b u:=⟨hlen,hin⟩
 obtain ⟨r,h1,h2⟩:=can_law V hu
 refine ⟨(r,0),h1,?_⟩
 unfold ref05_Can
 rw [rcheck_ok V,Option.bind_some]
 simp only [bne_self_eq_false,cond_false]
 rw [show ((u.length:Int) != b.Trips)=false by simp [hlen],cond_false]
 have second:loopF (ref05_Can_l2 b u) big (true,0)=some (r,0):=by
  obtain ⟨p,hp,hp0,hpi⟩:∃ p,loopF (ref05_Can_l2 b u) big (true,0)=some p∧p.2=0∧(p.1=true↔Fit b no (pre u)):=by
   refine loopF_inv (body:=ref05_Can_l2 b u) (fun s:Bool×Int=>∃ k:Nat,s.2=k∧k≤b.Counts.length∧(s.1=true↔∀ j x,j < k→b.Counts[j]? =some x→CntQ x (pre u))) (fun s=>b.Counts.length - s.2.toNat) (fun p=>p.2=0∧(p.1=true↔Fit b no (pre u))) ?_ big (true,0) ⟨0,rfl,Nat.zero_le _,by simp⟩ (by unfold big; simp; omega)
   rintro rec ⟨ok,z⟩ ⟨k,rfl,hk,hq⟩ ih
   simp only at hq
   unfold ref05_Can_l2
   simp only
   cases ok
   ·rw [cond_false]
    refine ⟨_,rfl,rfl,?_⟩
    simp only [Bool.false_eq_true,false_iff]
    intro h
    have:=hq.2 fun j x _ hx=>h.2 j x hx rfl
    cases this
   ·rw [cond_true]
    by_cases hlt:k < b.Counts.length
    ·rw [decide_eq_true (by omega),cond_true,getI_nat,List.getElem?_eq_getElem hlt,Option.bind_some]
     have hx:=List.getElem?_eq_getElem hlt
     generalize b.Counts[k]=x at hx
     have C:=cnt_iff.1 (V.cs x (List.mem_of_getElem? hx))
     have f0:=C.f0; have ft:=C.ft; have tT:=C.tT; have r60:=V.r60
     rw [span_eq C,Option.bind_some,wrI (x:=x.To+1) (by omega) (by omega),cutI_eq (by omega) (by omega) (by omega),Option.bind_some,sumOf_eq (by simp; omega) (fun n hn=>by have:=hu.bnd n (mem_cut hn); omega),Option.bind_some]
     unfold B_Contains
     rw [inside_eq,Option.bind_some,Option.bind_some,wrI (by omega) (by omega),pre_cut (by omega)]
     refine ih _ ⟨k+1,by simp,by omega,?_⟩ (by (try simp only); omega)
     simp only
     rw [inB_iff]
     constructor
     ·intro h j y hj hy
      by_cases e:j=k
      ·subst e; rw [hx] at hy; cases hy; exact h
      ·exact hq.1 rfl j y (by omega) hy
     ·intro h; exact h k x (by omega) hx
    ·rw [decide_eq_false (by omega),cond_false]
     refine ⟨_,rfl,rfl,?_⟩
     simp only [true_iff]
     exact ⟨hu.steps,fun j x hx _=>hq.1 rfl j x (by have:=(List.getElem?_eq_some_iff.1 hx).1; omega) hx⟩
  have e1:p.1=r:=by rw [Bool.eq_iff_iff,hpi,h2]
  obtain ⟨p1,p2⟩:=p
  simp only at hp0 e1
  rw [hp,hp0,e1]
 refine loopF_spec (body:=ref05_Can_l3 u b) (fun s:Bool×Int=>s.1=true∧∃ k:Nat,s.2=k∧k≤u.length) (fun s=>u.length - s.2.toNat) (fun _=>(r,0)) ?_ big (true,0) ⟨rfl,0,rfl,Nat.zero_le _⟩ (by unfold big; simp; omega)
 rintro rec ⟨_,z⟩ ⟨rfl,k,rfl,hk⟩ ih
 unfold ref05_Can_l3
 simp only
 by_cases hlt:k < u.length
 ·rw [decide_eq_true (by omega),cond_true,cond_true,getI_nat,List.getElem?_eq_getElem hlt,Option.bind_some]
  have hx:=List.getElem?_eq_getElem hlt
  rw [inside_eq,Option.bind_some,inB_iff.2 (hu.bnd _ (List.mem_of_getElem? hx)),wrI (by omega) (by omega)]
  exact ih _ ⟨rfl,k+1,by simp,by omega⟩ (by (try simp only); omega)
 ·rw [decide_eq_false (by omega),cond_false,second]
theorem alike_same (l:List Int) (hl:l.length≤9223372036854775806):B_Alike l l=some true:=by
 unfold B_Alike
 rw [bne_self_eq_false,cond_false]
 refine loopF_spec (fun i:Int=>0≤i∧i≤l.length) (fun i=>l.length - i.toNat) (fun _=>true) ?_ big 0 ⟨by omega,by omega⟩ (by unfold big; simp; omega)
 rintro rec i ⟨h0,h1⟩ ih
 unfold B_Alike_l1
 by_cases hi:i < l.length
 ·rw [decide_eq_true hi,cond_true]
  obtain ⟨x,hx,_⟩:=getI_lt h0 hi
  rw [hx,Option.bind_some,Option.bind_some,bne_self_eq_false,cond_false,wrI (x:=i+1) (by omega) (by omega)]
  exact ih _ ⟨by omega,by omega⟩ (by omega)
 ·rw [decide_eq_false hi,cond_false]
end Go.Proofs.YtafhljljfglfeaaGreatDoor
namespace Go.Proofs.YtafhljljfglfeaaGreatDoor
open Go Go.Fx
def nP (b:TicketBook):Nat:=b.Shows.length+b.Boxes.length
def inL (l:List Int) (k:Nat):Bool:=decide ((k:Int)∈l)
def CanO (b:TicketBook) (l:List Int):Prop:=CanT b (outS b (inL l)) (outX b (inL l))
structure Few (b:TicketBook) (w:List Int):Prop where
 clm:Clm w (nP b)
 can:CanO b w
 len:∀ o,Clm o (nP b)→CanO b o→w.length≤o.length
 lex:∀ o,Clm o (nP b)→CanO b o→o.length=w.length→¬LexLt o w
end Go.Proofs.YtafhljljfglfeaaGreatDoor
namespace Go.Proofs.YtafhljljfglfeaaGreatDoor
open Go Go.Fx
set_option maxRecDepth 100000 in
theorem punched_t:law_punched=some true:=by kernel_rfl
end Go.Proofs.YtafhljljfglfeaaGreatDoor
namespace Go.Proofs.YtafhljljfglfeaaGreatDoor
open Go Go.Fx
def NoC (sh:List TicketShow) (i k:Nat):Prop:=∀ x y,sh[i]? =some x→sh[k]? =some y→clashN x y=false
def ClashP (sh:List TicketShow) (r:Int×Int×Int):Prop:=
 (r.2.2=0∧∃ (i k:Nat) (x y:TicketShow),r.1=i∧r.2.1=k∧i < k∧sh[i]? =some x∧sh[k]? =some y∧clashN x y=true∧∀ i' k' :Nat,i' < k' →(i' < i∨(i' =i∧k' < k))→NoC sh i' k')∨
 (r.2.2=4∧r.1=0∧r.2.1=0∧∀ i k:Nat,i < k→NoC sh i k)
theorem clash_law {b:TicketBook} (V:VT b):∃ r,ticket_Clash b=some r∧ClashP b.Shows r:=by
 have sn:=V.sn
 unfold ticket_Clash
 rw [checkT_ok V,Option.bind_some]
 simp only [bne_self_eq_false,cond_false]
 refine loopF_inv (body:=ticket_Clash_l4 b) (fun z:Int=>∃ i:Nat,z=i∧i≤b.Shows.length∧∀ i' k' :Nat,i' < k' →i' < i→NoC b.Shows i' k') (fun z=>b.Shows.length - z.toNat) (fun r=>ClashP b.Shows r) ?_ big 0 ⟨0,rfl,Nat.zero_le _,fun _ _ _ h=>absurd h (Nat.not_lt_zero _)⟩ (by unfold big; simp; omega)
 rintro rec z ⟨i,rfl,hi,hno⟩ ih
 unfold ticket_Clash_l4
 by_cases hlt:i < b.Shows.length
 case neg=>
  rw [decide_eq_false (by omega),cond_false]
  refine ⟨_,rfl,.inr ⟨rfl,rfl,rfl,fun i' k' h x y hx hy=>?_⟩⟩
  have:=(List.getElem?_eq_some_iff.1 hx).1
  exact hno i' k' h (by omega) x y hx hy
 rw [decide_eq_true (by omega),cond_true,wrI (x:=(i:Int)+1) (by omega) (by omega)]
 refine loopF_inv (body:=ticket_Clash_l3 b i rec) (fun z:Int=>∃ k:Nat,z=k∧i < k∧k≤b.Shows.length∧∀ k' :Nat,i < k' →k' < k→NoC b.Shows i k') (fun z=>b.Shows.length - z.toNat) (fun r=>ClashP b.Shows r) ?_ big _ ⟨i+1,by omega,by omega,by omega,fun k' h1 h2=>by omega⟩ (by unfold big; simp; omega)
 rintro rec2 z ⟨k,rfl,hik,hk,hno2⟩ ih2
 unfold ticket_Clash_l3
 by_cases hkl:k < b.Shows.length
 case neg=>
  rw [decide_eq_false (by omega),cond_false,wrI (x:=(i:Int)+1) (by omega) (by omega)]
  refine ih _ ⟨i+1,by omega,by omega,fun i' k' h1 h2=>?_⟩ (by (try simp only); omega)
  by_cases he:i' =i
  ·subst he
   intro x y hx hy
   have:=(List.getElem?_eq_some_iff.1 hy).1
   exact hno2 k' h1 (by omega) x y hx hy
  ·exact hno i' k' h1 (by omega)
 have hx:=List.getElem?_eq_getElem hlt
 have hy:=List.getElem?_eq_getElem hkl
 rw [decide_eq_true (by omega),cond_true,getI_nat,getI_nat,hx,hy,Option.bind_some,Option.bind_some,clash_eq,Option.bind_some]
 cases hc:clashN b.Shows[i] b.Shows[k] with
 | true=>
   rw [cond_true]
   refine ⟨_,rfl,.inl ⟨rfl,i,k,_,_,rfl,rfl,hik,hx,hy,hc,fun i' k' h1 h2=>?_⟩⟩
   rcases h2 with h2 | ⟨rfl,h2⟩
   ·exact hno i' k' h1 h2
   ·exact hno2 k' h1 h2
 | false=>
   rw [cond_false,wrI (x:=(k:Int)+1) (by omega) (by omega)]
   refine ih2 _ ⟨k+1,by omega,by omega,by omega,fun k' h1 h2=>?_⟩ (by (try simp only); omega)
   by_cases he:k' =k
   ·subst he
    intro x y hx' hy'
    rw [hx] at hx'; rw [hy] at hy'
    cases hx'; cases hy'; exact hc
   ·exact hno2 k' h1 (by omega)
end Go.Proofs.YtafhljljfglfeaaGreatDoor
namespace Go.Proofs.YtafhljljfglfeaaGreatDoor
open Go Go.Fx
theorem loop_flag {α ρ:Type}{body:(Bool×Int→Option ρ)→Bool×Int→Option ρ} (l:List α) (g:α→Bool) (K:Bool→Option ρ) (hf:∀ rec i,body rec (false,i)=K false) (hs:∀ rec (k:Nat) (h:k < l.length),body rec (true,(k:Int))=rec (g l[k],((k+1:Nat):Int))) (he:∀ rec,body rec (true,(l.length:Int))=K true):
 ∀ (n k:Nat) (ok:Bool),k≤l.length→l.length - k < n→loopF body n (ok,(k:Int))=K (ok&&(l.drop k).all g)
 | 0,_,_,_,h=>by omega
 | n+1,k,ok,hk,hn=>by
   show body (loopF body n) (ok,(k:Int))=_
   cases ok with
   | false=>rw [hf]; rfl
   | true=>
     by_cases h:k < l.length
     ·rw [hs _ k h,loop_flag l g K hf hs he n (k+1) _ h (by omega),List.drop_eq_getElem_cons h,List.all_cons,Bool.true_and]
     ·have:k=l.length:=by omega
      subst this
      rw [he,List.drop_length]; rfl
theorem loop_flag0 {α ρ:Type}{body:(Bool×Int→Option ρ)→Bool×Int→Option ρ} (l:List α) (g:α→Bool) (K:Bool→Option ρ) (hl:l.length≤9223372036854775807) (hf:∀ rec i,body rec (false,i)=K false) (hs:∀ rec (k:Nat) (h:k < l.length),body rec (true,(k:Int))=rec (g l[k],((k+1:Nat):Int))) (he:∀ rec,body rec (true,(l.length:Int))=K true) (ok:Bool):loopF body big (ok,0)=K (ok&&l.all g):=by
 have:=loop_flag l g K hf hs he big 0 ok (Nat.zero_le _) (by unfold big; omega)
 rwa [List.drop_zero] at this
theorem rtripT (b:TicketBook) (h:1≤b.Tally.Trips) (h2:b.Tally.Trips≤8) (n:Int):ref10_isTrip b n=some (inB n 0 (b.Tally.Trips - 1)):=by
 unfold ref10_isTrip
 rw [wrI (by omega) (by omega),inside_eq]; rfl
theorem rtrips (b:TicketBook) (h:1≤b.Tally.Trips) (h2:b.Tally.Trips≤8) (f t:Int):ref10_trips b f t=some (inB f 0 (b.Tally.Trips - 1)&&inB t 0 (b.Tally.Trips - 1)&&decide (f≤t)):=by
 unfold ref10_trips
 simp only [rtripT b h h2,Option.bind_some]
 cases inB f 0 (b.Tally.Trips - 1) <;> cases inB t 0 (b.Tally.Trips - 1) <;> rfl
theorem rticket (b:TicketBook) (h:b.Tickets.length≤9223372036854775807) (n:Int):ref10_isTicket b n=some (inB n 0 ((b.Tickets.length:Int) - 1)):=by
 unfold ref10_isTicket
 rw [wrI (by omega) (by omega),inside_eq]; rfl
theorem rboxT (b:TicketBook) (h:1≤b.Tally.Trips) (h2:b.Tally.Trips≤8) (x:TicketBox):ref10_isBox b x=some (boxB b.Tally.Trips x):=by
 unfold ref10_isBox boxB
 rw [rtrips b h h2,Option.bind_some]
 simp only [inside_eq,Option.bind_some]
 cases inB x.From 0 (b.Tally.Trips - 1) <;> cases inB x.To 0 (b.Tally.Trips - 1) <;> cases decide (x.From≤x.To) <;> cases inB x.Pence 0 400 <;> cases inB x.Lost 0 40 <;> rfl
theorem rtail (b:TicketBook) (A:ArgT b) (ok:Bool) (hT:ok=true→1≤b.Tally.Trips∧b.Tally.Trips≤8):ref10_Check_j13 b ok=some (bif ok&&b.Tickets.all (seasB b.Tally.Trips)&&b.Shows.all (showB b.Tally.Trips b.Tickets.length)&&b.Boxes.all (boxB b.Tally.Trips) then 0 else 100):=by
 have A2:=A.tl; have A3:=A.sl; have A4:=A.bl
 have big1:big=18446744073709551615+1:=by decide
 cases ok with
 | false=>unfold ref10_Check_j13; rw [big1]; rfl
 | true=>
   obtain ⟨h1,h2⟩:=hT rfl
   have e3:∀ o,ref10_Check_j9 b o=ref10_Check_j7 (o&&b.Boxes.all (boxB b.Tally.Trips)):=fun o=>by
    unfold ref10_Check_j9
    refine loop_flag0 (body:=ref10_Check_l8 b) b.Boxes (boxB b.Tally.Trips) ref10_Check_j7 A4 (fun rec i=>rfl) (fun rec k h=>?_) (fun rec=>?_) o
    ·unfold ref10_Check_l8
     simp only
     rw [cond_true,decide_eq_true (by omega),cond_true,getI_nat,List.getElem?_eq_getElem h,Option.bind_some,rboxT b h1 h2,Option.bind_some,wrI (by omega) (by omega)]; rfl
    ·unfold ref10_Check_l8
     simp only
     rw [cond_true,decide_eq_false (by omega),cond_false]
   have e2:∀ o,ref10_Check_j11 b o=ref10_Check_j9 b (o&&b.Shows.all (showB b.Tally.Trips b.Tickets.length)):=fun o=>by
    unfold ref10_Check_j11
    refine loop_flag0 (body:=ref10_Check_l10 b) b.Shows (showB b.Tally.Trips b.Tickets.length) (ref10_Check_j9 b) A3 (fun rec i=>rfl) (fun rec k h=>?_) (fun rec=>?_) o
    ·unfold ref10_Check_l10
     simp only
     rw [cond_true,decide_eq_true (by omega),cond_true,getI_nat,List.getElem?_eq_getElem h,Option.bind_some,rtripT b h1 h2,Option.bind_some,rticket b A2,wrI (by omega) (by omega)]
     unfold showB
     cases inB b.Shows[k].Trip 0 (b.Tally.Trips - 1) with
     | false=>rfl
     | true=>
       simp only [Option.bind_some,cond_true,inside_eq,Bool.true_and]
       cases inB b.Shows[k].Ticket 0 ((b.Tickets.length:Int) - 1) <;> rfl
    ·unfold ref10_Check_l10
     simp only
     rw [cond_true,decide_eq_false (by omega),cond_false]
   have e1:∀ o,ref10_Check_j13 b o=ref10_Check_j11 b (o&&b.Tickets.all (seasB b.Tally.Trips)):=fun o=>by
    unfold ref10_Check_j13
    refine loop_flag0 (body:=ref10_Check_l12 b) b.Tickets (seasB b.Tally.Trips) (ref10_Check_j11 b) A2 (fun rec i=>rfl) (fun rec k h=>?_) (fun rec=>?_) o
    ·unfold ref10_Check_l12
     simp only
     rw [cond_true,decide_eq_true (by omega),cond_true,getI_nat,List.getElem?_eq_getElem h,Option.bind_some,Option.bind_some,rtrips b h1 h2,Option.bind_some,wrI (by omega) (by omega)]; rfl
    ·unfold ref10_Check_l12
     simp only
     rw [cond_true,decide_eq_false (by omega),cond_false]
   rw [e1,e2,e3]
   unfold ref10_Check_j7
   cases (true&&b.Tickets.all (seasB b.Tally.Trips)&&b.Shows.all (showB b.Tally.Trips b.Tickets.length)&&b.Boxes.all (boxB b.Tally.Trips)) <;> rfl
theorem rcheckT_eq (b:TicketBook) (A:ArgT b):ref10_Check b=some (bif valT b then 0 else 100):=by
 unfold ref10_Check valT
 rw [rcheck_eq _ A.cl]
 have f:=rtail b A false (fun h=>by cases h)
 simp only [Bool.false_and,cond_false] at f
 cases hv:valB b.Tally with
 | false=>simp only [cond_false,Option.bind_some,Bool.false_and]; exact f
 | true=>
   have V:=val_iff.1 hv
   have t:=fun ok=>rtail b A ok (fun _=>⟨V.t1,V.t8⟩)
   simp only [inside_eq,Option.bind_some,t,cond_true,beq_self_eq_true]
   cases decide (b.Tally.Trips≤3) <;> cases decide (b.Tally.Room≤5) <;> cases inB b.Fare 1 20 <;> cases decide ((b.Tickets.length:Int)≤3) <;> cases decide ((b.Shows.length:Int)≤5) <;> rfl
theorem rclash_eq (x y:TicketShow):ref10_clash x y=some (clashN x y):=by
 unfold ref10_clash clashN
 cases (x.Trip==y.Trip) <;> rfl
def ClashR (sh:List TicketShow) (r:Int×Int):Prop:=
 (∃ (i k:Nat) (x y:TicketShow),r.1=i∧r.2=k∧i < k∧sh[i]? =some x∧sh[k]? =some y∧clashN x y=true∧∀ i' k' :Nat,i' < k' →(i' < i∨(i' =i∧k' < k))→NoC sh i' k')∨
 (r.1=-1∧∀ i k:Nat,i < k→NoC sh i k)
theorem rclashes {b:TicketBook} (hl:b.Shows.length≤1000):∃ r,ref10_clashes b=some r∧ClashR b.Shows r:=by
 unfold ref10_clashes
 refine loopF_inv (body:=ref10_clashes_l4 b) (fun z:Int=>∃ i:Nat,z=i∧i≤b.Shows.length∧∀ i' k' :Nat,i' < k' →i' < i→NoC b.Shows i' k') (fun z=>b.Shows.length - z.toNat) (fun r=>ClashR b.Shows r) ?_ big 0 ⟨0,rfl,Nat.zero_le _,fun _ _ _ h=>absurd h (Nat.not_lt_zero _)⟩ (by unfold big; simp; omega)
 rintro rec z ⟨i,rfl,hi,hno⟩ ih
 unfold ref10_clashes_l4
 by_cases hlt:i < b.Shows.length
 case neg=>
  rw [decide_eq_false (by omega),cond_false]
  refine ⟨_,rfl,.inr ⟨rfl,fun i' k' h x y hx hy=>?_⟩⟩
  have:=(List.getElem?_eq_some_iff.1 hx).1
  exact hno i' k' h (by omega) x y hx hy
 rw [decide_eq_true (by omega),cond_true,wrI (x:=(i:Int)+1) (by omega) (by omega)]
 refine loopF_inv (body:=ref10_clashes_l3 b i rec) (fun z:Int=>∃ k:Nat,z=k∧i < k∧k≤b.Shows.length∧∀ k' :Nat,i < k' →k' < k→NoC b.Shows i k') (fun z=>b.Shows.length - z.toNat) (fun r=>ClashR b.Shows r) ?_ big _ ⟨i+1,by omega,by omega,by omega,fun k' h1 h2=>by omega⟩ (by unfold big; simp; omega)
 rintro rec2 z ⟨k,rfl,hik,hk,hno2⟩ ih2
 unfold ref10_clashes_l3
 by_cases hkl:k < b.Shows.length
 case neg=>
  rw [decide_eq_false (by omega),cond_false,wrI (x:=(i:Int)+1) (by omega) (by omega)]
  refine ih _ ⟨i+1,by omega,by omega,fun i' k' h1 h2=>?_⟩ (by (try simp only); omega)
  by_cases he:i' =i
  ·subst he
   intro x y hx hy
   have:=(List.getElem?_eq_some_iff.1 hy).1
   exact hno2 k' h1 (by omega) x y hx hy
  ·exact hno i' k' h1 (by omega)
 have hx:=List.getElem?_eq_getElem hlt
 have hy:=List.getElem?_eq_getElem hkl
 rw [decide_eq_true (by omega),cond_true,getI_nat,getI_nat,hx,hy,Option.bind_some,Option.bind_some,rclash_eq,Option.bind_some]
 cases hc:clashN b.Shows[i] b.Shows[k] with
 | true=>
   rw [cond_true]
   refine ⟨_,rfl,.inl ⟨i,k,_,_,rfl,rfl,hik,hx,hy,hc,fun i' k' h1 h2=>?_⟩⟩
   rcases h2 with h2 | ⟨rfl,h2⟩
   ·exact hno i' k' h1 h2
   ·exact hno2 k' h1 h2
 | false=>
   rw [cond_false,wrI (x:=(k:Int)+1) (by omega) (by omega)]
   refine ih2 _ ⟨k+1,by omega,by omega,by omega,fun k' h1 h2=>?_⟩ (by (try simp only); omega)
   by_cases he:k' =k
   ·subst he
    intro x y hx' hy'
    rw [hx] at hx'; rw [hy] at hy'
    cases hx'; cases hy'; exact hc
   ·exact hno2 k' h1 (by omega)
theorem noC_cl {sh:List TicketShow} (h:∀ i k:Nat,i < k→NoC sh i k):Cl sh:=by
 rw [cl_iff]
 intro x hx y hy
 obtain ⟨i,hi,rfl⟩:=List.getElem_of_mem hx
 obtain ⟨k,hk,rfl⟩:=List.getElem_of_mem hy
 rcases Nat.lt_trichotomy i k with hik | hik | hik
 ·exact h i k hik _ _ (List.getElem?_eq_getElem hi) (List.getElem?_eq_getElem hk)
 ·subst hik
  rw [← Bool.not_eq_true,clashN_iff]
  rintro ⟨_,h⟩
  exact h ⟨fun _=>rfl,fun _=>rfl⟩
 ·rw [clashN_comm]; exact h k i hik _ _ (List.getElem?_eq_getElem hk) (List.getElem?_eq_getElem hi)
theorem nandE_all:((List.range 8).all fun s=>(List.range 8).all fun t=>(andNotI ((s:Nat):Int) ((t:Nat):Int)==0)==(t &&& s==s))=true:=by kernel_rfl
theorem nandE {s t:Nat} (h:s < 8) (k:t < 8):(andNotI (s:Int) (t:Int)==0)=true↔∀ n,s.testBit n=true→t.testBit n=true:=by
 have:=List.all_eq_true.1 (List.all_eq_true.1 nandE_all s (List.mem_range.2 h)) t (List.mem_range.2 k)
 rw [beq_iff_eq] at this
 rw [this,beq_iff_eq]
 exact and_sub
theorem mem3_all:((List.range 8).all fun s=>decide (((memL s 3).length:Int)=popN s))=true:=by kernel_rfl
theorem mem3 {s:Nat} (h:s < 8):((memL s 3).length:Int)=popN s:=of_decide_eq_true (List.all_eq_true.1 mem3_all s (List.mem_range.2 h))
theorem or_bit {s t n:Nat}:(s ||| 2 ^ t).testBit n=true↔s.testBit n=true∨t=n:=by
 rw [Nat.testBit_or,Bool.or_eq_true,Nat.testBit_two_pow,decide_eq_true_iff]
theorem rcovers {b:TicketBook} (V:VT b) (d:Nat):∃ s:Nat,ref10_covers b d=some (s:Int)∧s < 8∧∀ n:Nat,s.testBit n=true↔∃ x,b.Tickets[n]? =some x∧x.From≤d∧(d:Int)≤x.To:=by
 have tn:=V.tn
 unfold ref10_covers
 refine Exists.elim (loopF_inv (body:=ref10_covers_l1 b d) (fun z:Int×Int=>∃ k s:Nat,z=((s:Int),(k:Int))∧k≤b.Tickets.length∧s < 8∧∀ n:Nat,s.testBit n=true↔n < k∧∃ x,b.Tickets[n]? =some x∧x.From≤d∧(d:Int)≤x.To) (fun z=>b.Tickets.length - z.2.toNat) (fun r=>∃ s:Nat,r=(s:Int)∧s < 8∧∀ n:Nat,s.testBit n=true↔∃ x,b.Tickets[n]? =some x∧x.From≤d∧(d:Int)≤x.To) ?_ big (0,0) ⟨0,0,rfl,Nat.zero_le _,by decide,fun n=>by simp⟩ (by unfold big; simp; omega)) fun r ⟨h,s,e,h1,h2⟩=>⟨s,by rw [h,e],h1,h2⟩
 rintro rec z ⟨k,s,rfl,hk,h8,hb⟩ ih
 unfold ref10_covers_l1
 simp only
 by_cases hlt:k < b.Tickets.length
 ·have hx:=List.getElem?_eq_getElem hlt
  rw [decide_eq_true (by omega),cond_true,getI_nat,hx,Option.bind_some,inside_eq,Option.bind_some,wrI (x:=(k:Int)+1) (by omega) (by omega)]
  generalize b.Tickets[k]=x at hx
  cases hin:inB (d:Int) x.From x.To with
  | true=>
    obtain ⟨o1,o2⟩:=or_small h8 (show k < 3 by omega)
    rw [cond_true,need_of (decide_eq_true (by omega)),o1]
    refine ih _ ⟨k+1,s ||| 2 ^ k,by simp,hlt,o2,fun n=>?_⟩ (by (try simp only); omega)
    rw [or_bit,hb n]
    constructor
    ·rintro (⟨h1,h2⟩ | rfl)
     ·exact ⟨by omega,h2⟩
     ·exact ⟨by omega,x,hx,(inB_iff.1 hin).1,(inB_iff.1 hin).2⟩
    ·rintro ⟨h1,h2⟩
     by_cases e:k=n
     ·exact .inr e
     ·exact .inl ⟨by omega,h2⟩
  | false=>
    rw [cond_false]
    refine ih _ ⟨k+1,s,by simp,hlt,h8,fun n=>?_⟩ (by (try simp only); omega)
    rw [hb n]
    constructor
    ·rintro ⟨h1,h2⟩; exact ⟨by omega,h2⟩
    ·rintro ⟨h1,y,hy,h2⟩
     refine ⟨?_,y,hy,h2⟩
     by_cases e:n=k
     ·subst e; rw [hx] at hy; cases hy
      rw [inB_iff.2 h2] at hin; cases hin
     ·omega
 ·rw [decide_eq_false (by omega),cond_false]
  refine ⟨_,rfl,s,rfl,h8,fun n=>?_⟩
  rw [hb n]
  exact ⟨fun h=>h.2,fun ⟨x,hx,h⟩=>⟨by have:=(List.getElem?_eq_some_iff.1 hx).1; omega,x,hx,h⟩⟩
theorem rshown {b:TicketBook} (V:VT b) (d:Nat):∃ s:Nat,ref10_shown b d=some (s:Int)∧s < 8∧∀ n:Nat,s.testBit n=true↔∃ x∈b.Shows,x.Trip=d∧x.Ticket=n:=by
 have tn:=V.tn; have sn:=V.sn
 unfold ref10_shown
 refine Exists.elim (loopF_inv (body:=ref10_shown_l1 b d) (fun z:Int×Int=>∃ k s:Nat,z=((s:Int),(k:Int))∧k≤b.Shows.length∧s < 8∧∀ n:Nat,s.testBit n=true↔∃ x∈b.Shows.take k,x.Trip=d∧x.Ticket=n) (fun z=>b.Shows.length - z.2.toNat) (fun r=>∃ s:Nat,r=(s:Int)∧s < 8∧∀ n:Nat,s.testBit n=true↔∃ x∈b.Shows,x.Trip=d∧x.Ticket=n) ?_ big (0,0) ⟨0,0,rfl,Nat.zero_le _,by decide,fun n=>by simp⟩ (by unfold big; simp; omega)) fun r ⟨h,s,e,h1,h2⟩=>⟨s,by rw [h,e],h1,h2⟩
 rintro rec z ⟨k,s,rfl,hk,h8,hb⟩ ih
 unfold ref10_shown_l1
 simp only
 by_cases hlt:k < b.Shows.length
 ·have hx:=List.getElem?_eq_getElem hlt
  have hS:=V.sh _ (List.getElem_mem hlt)
  have hT:=List.take_succ_eq_append_getElem hlt
  rw [decide_eq_true (by omega),cond_true,getI_nat,hx,Option.bind_some,wrI (x:=(k:Int)+1) (by omega) (by omega)]
  generalize b.Shows[k]=x at hx hS hT
  have n0:=hS.n0; have nm:=hS.nm
  have mem:∀ n:Nat,(∃ y∈b.Shows.take (k+1),y.Trip=d∧y.Ticket=n)↔(∃ y∈b.Shows.take k,y.Trip=d∧y.Ticket=n)∨(x.Trip=d∧x.Ticket=n):=fun n=>by
   rw [hT]
   constructor
   ·rintro ⟨y,hy,h⟩
    rcases List.mem_append.1 hy with hy | hy
    ·exact .inl ⟨y,hy,h⟩
    ·rw [List.mem_singleton.1 hy] at h; exact .inr h
   ·rintro (⟨y,hy,h⟩ | h)
    ·exact ⟨y,List.mem_append_left _ hy,h⟩
    ·exact ⟨x,List.mem_append_right _ (List.mem_singleton.2 rfl),h⟩
  by_cases ht:x.Trip=d
  ·obtain ⟨t,et⟩:=Int.eq_ofNat_of_zero_le n0
   obtain ⟨o1,o2⟩:=or_small h8 (show t < 3 by omega)
   rw [show (x.Trip==(d:Int))=true by simpa using ht,cond_true,need_of (decide_eq_true n0),et,o1]
   refine ih _ ⟨k+1,s ||| 2 ^ t,by simp,hlt,o2,fun n=>?_⟩ (by (try simp only); omega)
   rw [or_bit,hb n,mem n]
   exact or_congr Iff.rfl ⟨fun h=>⟨ht,by omega⟩,fun h=>by omega⟩
  ·rw [show (x.Trip==(d:Int))=false by simpa using ht,cond_false]
   refine ih _ ⟨k+1,s,by simp,hlt,h8,fun n=>?_⟩ (by (try simp only); omega)
   rw [hb n,mem n]
   exact ⟨.inl,fun h=>h.elim id fun h=>absurd h.1 ht⟩
 ·rw [decide_eq_false (by omega),cond_false]
  refine ⟨_,rfl,s,rfl,h8,fun n=>?_⟩
  rw [hb n,List.take_of_length_le (by omega)]
structure PreT (b:TicketBook) (d:Nat) (c u:List Int):Prop where
 cl:c.length=d
 ul:u.length=d
 dT:(d:Int)≤b.Tally.Trips
 cb:∀ i,0≤c.getD i 0∧c.getD i 0≤b.Tally.Room
 ub:∀ i,0≤u.getD i 0∧u.getD i 0 < 8
theorem PreT.pv {b:TicketBook} (V:VT b) {d:Nat}{c u:List Int} (P:PreT b d c u) (i:Nat):-3≤pv c u i∧YtafhljljfglfeaaGreatDoor.pv c u i≤5:=by
 have r5:=V.r5
 have:=P.cb i; have:=pop_bd (u.getD i 0).toNat
 unfold YtafhljljfglfeaaGreatDoor.pv; omega
theorem PreT.paid {b:TicketBook} (V:VT b) {d:Nat}{c u:List Int} (P:PreT b d c u) (f:Nat):∀ n:Nat,-3*(n:Int)≤paidN c u f n∧paidN c u f n≤5*(n:Int)
 | 0=>by simp [paidN]
 | n+1=>by
   have:=PreT.paid V P f n; have:=P.pv V (f+n)
   rw [paidN_succ]; omega
theorem rpaid {b:TicketBook} (V:VT b) {d:Nat}{c u:List Int} (P:PreT b d c u) {f t:Int} (f0:0≤f) (ft:f≤t) (td:t < d):ref10_paid ⟨c,u⟩ f t=some (paidN c u f.toNat (t+1 - f).toNat):=by
 have t3:=V.t3; have r5:=V.r5; have dT:=P.dT; have hc:=P.cl; have hu:=P.ul
 obtain ⟨f,rfl⟩:=Int.eq_ofNat_of_zero_le f0
 unfold ref10_paid
 refine loopF_spec (body:=ref10_paid_l1 t ⟨c,u⟩) (fun z:Int×Int=>∃ j:Nat,z=(paidN c u f j,((f+j:Nat):Int))∧((f+j:Nat):Int)≤t+1) (fun z=>(t+1 - z.2).toNat) (fun _=>paidN c u f (t+1 - (f:Int)).toNat) ?_ big (0,(f:Int)) ⟨0,by simp [paidN],by simp; omega⟩ (by unfold big; simp; omega)
 rintro rec z ⟨j,rfl,hj⟩ ih
 unfold ref10_paid_l1
 simp only
 by_cases h:((f+j:Nat):Int)≤t
 ·have e1:=List.getElem?_eq_getElem (show f+j < c.length by omega)
  have e2:=List.getElem?_eq_getElem (show f+j < u.length by omega)
  have g1:c.getD (f+j) 0=c[f+j]'(by omega):=by rw [List.getD_eq_getElem?_getD,e1]; rfl
  have g2:u.getD (f+j) 0=u[f+j]'(by omega):=by rw [List.getD_eq_getElem?_getD,e2]; rfl
  have b1:=P.cb (f+j); have b2:=P.ub (f+j); have bp:=P.paid V f j; have bv:=P.pv V (f+j)
  have bj:=pop_bd (u.getD (f+j) 0).toNat
  rw [decide_eq_true h,cond_true,getI_nat,getI_nat,e1,e2,Option.bind_some,Option.bind_some,← g1,← g2]
  have hm:=members_nat (u.getD (f+j) 0).toNat (n:=3) (by omega)
  rw [show (((u.getD (f+j) 0).toNat:Nat):Int)=u.getD (f+j) 0 by omega] at hm
  rw [show ((3:Nat):Int)=3 from rfl] at hm
  rw [hm,Option.bind_some,mem3 (by omega),wrI (x:=_ - popN _) (by omega) (by omega)]
  have hv:c.getD (f+j) 0 - popN (u.getD (f+j) 0).toNat=YtafhljljfglfeaaGreatDoor.pv c u (f+j):=rfl
  rw [hv,wrI (x:=paidN c u f j+_) (by omega) (by omega),wrI (x:=((f+j:Nat):Int)+1) (by omega) (by omega),← paidN_succ]
  exact ih _ ⟨j+1,by simp; omega,by omega⟩ (by (try simp only); omega)
 ·rw [decide_eq_false h,cond_false,show (t+1 - (f:Int)).toNat=j by omega]
theorem rright {b:TicketBook} (V:VT b) {d:Nat}{c u:List Int} (P:PreT b d c u) {x:TicketBox} (hx:Box b.Tally.Trips x) (hd:x.To < d):ref10_right b ⟨c,u⟩ x=some (fitsN b.Fare c u x):=by
 have h0:=hx.f0; have h1:=hx.ft; have h2:=hx.tT; have h3:=hx.p0; have h4:=hx.p4; have h5:=hx.l0; have h6:=hx.l4; have t3:=V.t3
 have hp:=P.paid V x.From.toNat (x.To+1 - x.From).toNat
 have hm:=mul_bd (r:=paidN c u x.From.toNat (x.To+1 - x.From).toNat) (by omega) (by omega) V.f1 V.f20
 unfold ref10_right
 rw [rpaid V P h0 h1 hd,Option.bind_some,Int.mul_comm b.Fare,wrI (x:=_*_) (by omega) (by omega),wrI (x:=x.Pence+x.Lost) (by omega) (by omega),inside_eq]
 rfl
end Go.Proofs.YtafhljljfglfeaaGreatDoor
namespace Go.Proofs.YtafhljljfglfeaaGreatDoor
open Go Go.Fx
theorem grown_eq {l:List Int} (h:l.length≤1000) (x:Int):B_Grown l x=some (l++[x]):=by
 have e:l++List.drop l.length (List.replicate (wr ((l.length:Int)+1)).toNat (0:Int))=l++[0]:=by
  rw [wrI (by omega) (by omega),show ((l.length:Int)+1).toNat=l.length+1 by omega,List.drop_replicate,show l.length+1 - l.length=1 by omega,List.replicate_one]
 unfold B_Grown
 rw [e,wrI (by omega) (by omega),need_of (by simp [inI]; try omega),need_of (by simp; try omega),getI_nat,List.getElem?_append_right (Nat.le_refl _),Nat.sub_self]
 show some _=_
 congr 1
 rw [show ((l.length:Int)).toNat=l.length from rfl,List.set_append_right _ _ (Nat.le_refl _),Nat.sub_self]; rfl
def covN (b:TicketBook) (d:Nat):Nat:=((ref10_covers b d).getD 0).toNat
def shwN (b:TicketBook) (d:Nat):Nat:=((ref10_shown b d).getD 0).toNat
theorem covN_ok {b:TicketBook} (V:VT b) (d:Nat):ref10_covers b d=some (covN b d:Int)∧covN b d < 8∧∀ n:Nat,(covN b d).testBit n=true↔∃ x,b.Tickets[n]? =some x∧x.From≤d∧(d:Int)≤x.To:=by
 obtain ⟨s,h1,h2,h3⟩:=rcovers V d
 have:covN b d=s:=by unfold covN; rw [h1]; rfl
 rw [this]; exact ⟨h1,h2,h3⟩
theorem shwN_ok {b:TicketBook} (V:VT b) (d:Nat):ref10_shown b d=some (shwN b d:Int)∧shwN b d < 8∧∀ n:Nat,(shwN b d).testBit n=true↔∃ x∈b.Shows,x.Trip=d∧x.Ticket=n:=by
 obtain ⟨s,h1,h2,h3⟩:=rshown V d
 have:shwN b d=s:=by unfold shwN; rw [h1]; rfl
 rw [this]; exact ⟨h1,h2,h3⟩
def boxR (b:TicketBook) (c u:List Int):Bool:=b.Boxes.all fun x=>!(x.To==(c.length:Int) - 1)||fitsN b.Fare c u x
def canR (b:TicketBook) (c:List Int):Bool:=((tally_Can b.Tally c).map (·.1)).getD false
def okR (b:TicketBook) (d n s:Nat):Bool:=(andNotI (s:Int) (covN b d:Int)==0)&&(andNotI (shwN b d:Int) (s:Int)==0)&&decide (popN s≤(n:Int))
def goesL (b:TicketBook):Nat→List Int→List Int→List Ref10_truth
 | 0,c,u=>bif boxR b c u then (bif canR b c then [⟨c,u⟩] else []) else []
 | r+1,c,u=>bif boxR b c u then (List.range (b.Tally.Room.toNat+1)).flatMap fun n=>(List.range 8).flatMap fun s=>bif okR b c.length n s then goesL b r (c++[(n:Int)]) (u++[(s:Int)]) else [] else []
theorem goesL_zero (b:TicketBook) (c u:List Int):goesL b 0 c u=bif boxR b c u then (bif canR b c then [⟨c,u⟩] else []) else []:=rfl
theorem goesL_succ (b:TicketBook) (r:Nat) (c u:List Int):goesL b (r+1) c u=bif boxR b c u then (List.range (b.Tally.Room.toNat+1)).flatMap fun n=>(List.range 8).flatMap fun s=>bif okR b c.length n s then goesL b r (c++[(n:Int)]) (u++[(s:Int)]) else [] else []:=rfl
theorem goesL_len {b:TicketBook} (V:VT b):∀ (r:Nat) (c u:List Int),(goesL b r c u).length≤48 ^ r
 | 0,c,u=>by
   unfold goesL
   cases boxR b c u <;> cases canR b c <;> simp
 | r+1,c,u=>by
   have r5:=V.r5; have r0:=V.ta.r0
   unfold goesL
   cases boxR b c u with
   | false=>simp
   | true=>
     rw [cond_true]
     have h1:∀ n∈List.range (b.Tally.Room.toNat+1),((List.range 8).flatMap fun s=>bif okR b c.length n s then goesL b r (c++[(n:Int)]) (u++[(s:Int)]) else []).length≤8*48 ^ r:=fun n _=>by
      have:=len_flat (l:=List.range 8) (f:=fun s=>bif okR b c.length n s then goesL b r (c++[(n:Int)]) (u++[(s:Int)]) else []) (k:=48 ^ r) (fun s _=>by
       cases okR b c.length n s with
       | false=>simp
       | true=>exact goesL_len V r _ _)
      rwa [List.length_range] at this
     have h2:=len_flat h1
     rw [List.length_range] at h2
     refine Nat.le_trans h2 ?_
     rw [Nat.pow_succ,Nat.mul_comm (48 ^ r) 48,← Nat.mul_assoc]
     exact Nat.mul_le_mul_right _ (by omega)
theorem PreT.more {b:TicketBook}{d:Nat}{c u:List Int} (P:PreT b d c u) (h:(d:Int) < b.Tally.Trips) {n s:Nat} (hn:(n:Int)≤b.Tally.Room) (hs:s < 8):PreT b (d+1) (c++[(n:Int)]) (u++[(s:Int)]):=by
 have key:∀ (l:List Int) (x:Int) (i:Nat),(l++[x]).getD i 0=l.getD i 0∨(l++[x]).getD i 0=x:=fun l x i=>by
  rw [List.getD_eq_getElem?_getD,List.getD_eq_getElem?_getD]
  by_cases h1:i < l.length
  ·rw [List.getElem?_append_left h1]; exact .inl rfl
  ·by_cases h2:i=l.length
   ·subst h2; right; simp
   ·left; rw [List.getElem?_eq_none (by simp; omega),List.getElem?_eq_none (by omega)]
 refine ⟨by simp [P.cl],by simp [P.ul],by omega,fun i=>?_,fun i=>?_⟩
 ·have:=P.cb i
  rcases key c n i with e | e <;> rw [e] <;> omega
 ·have:=P.ub i
  rcases key u s i with e | e <;> rw [e] <;> omega
theorem goes_eq {b:TicketBook} (V:VT b):∀ (r fuel d:Nat) (c u:List Int),PreT b d c u→((d+r:Nat):Int)=b.Tally.Trips→r < fuel→ref10_goes fuel b ⟨c,u⟩=some (goesL b r c u):=by
 intro r
 have t3:=V.t3; have r5:=V.r5; have r0:=V.ta.r0; have bn:=V.bn
 induction r with
 | zero=>
   intro fuel d c u P hd hf
   obtain ⟨f,rfl⟩:∃ f,fuel=f+1:=⟨fuel - 1,by omega⟩
   have hcl:=P.cl
   unfold ref10_goes ref10_goes_F
   rw [loop_allL (body:=ref10_goes_l35 b ⟨c,u⟩ _) b.Boxes (fun x=>!(x.To==(c.length:Int) - 1)||fitsN b.Fare c u x) (Rf:=some []) (Rt:=some (bif canR b c then [⟨c,u⟩] else [])) (fun rec k hk=>?_) (fun rec=>?_) (by rw [big_eq]; omega)]
   ·rw [goesL_zero]
    show (bif boxR b c u then _ else _)=_
    cases boxR b c u <;> rfl
   ·unfold ref10_goes_l35
    simp only
    have hx:=V.bx _ (List.getElem_mem hk)
    rw [decide_eq_true (by omega),cond_true,getI_nat,List.getElem?_eq_getElem hk,Option.bind_some,wrI (x:=(c.length:Int) - 1) (by omega) (by omega),wrI (x:=(k:Int)+1) (by omega) (by omega),show (k:Int)+1=((k+1:Nat):Int) by omega]
    cases ht:(b.Boxes[k].To==(c.length:Int) - 1) with
    | false=>rfl
    | true=>
      rw [cond_true,rright V P hx (by rw [beq_iff_eq] at ht; omega),Option.bind_some]
      cases fitsN b.Fare c u b.Boxes[k] <;> rfl
   ·unfold ref10_goes_l35
    simp only
    obtain ⟨q,h1,h2⟩:=can_same b.Tally V.arg.cl c
    rw [decide_eq_false (by omega),cond_false,show ((c.length:Int)==b.Tally.Trips)=true by rw [beq_iff_eq]; omega,cond_true,h2,Option.bind_some]
    unfold canR
    rw [h1]
    cases hq:q.1 <;> simp [hq]
 | succ r ih=>
   intro fuel d c u P hd hf
   obtain ⟨f,rfl⟩:∃ f,fuel=f+1:=⟨fuel - 1,by omega⟩
   have hcl:=P.cl; have hul:=P.ul
   have pw:48 ^ r≤2304:=Nat.pow_le_pow_right (n:=48) (by omega) (show r≤2 by omega)
   unfold ref10_goes ref10_goes_F
   rw [loop_allL (body:=ref10_goes_l35 b ⟨c,u⟩ _) b.Boxes (fun x=>!(x.To==(c.length:Int) - 1)||fitsN b.Fare c u x) (Rf:=some []) (Rt:=some ((List.range (b.Tally.Room.toNat+1)).flatMap fun n=>(List.range 8).flatMap fun s=>bif okR b c.length n s then goesL b r (c++[(n:Int)]) (u++[(s:Int)]) else [])) (fun rec k hk=>?_) (fun rec=>?_) (by rw [big_eq]; omega)]
   ·rw [goesL_succ]
    show (bif boxR b c u then _ else _)=_
    cases boxR b c u <;> rfl
   ·unfold ref10_goes_l35
    simp only
    have hx:=V.bx _ (List.getElem_mem hk)
    rw [decide_eq_true (by omega),cond_true,getI_nat,List.getElem?_eq_getElem hk,Option.bind_some,wrI (x:=(c.length:Int) - 1) (by omega) (by omega),wrI (x:=(k:Int)+1) (by omega) (by omega),show (k:Int)+1=((k+1:Nat):Int) by omega]
    cases ht:(b.Boxes[k].To==(c.length:Int) - 1) with
    | false=>rfl
    | true=>
      rw [cond_true,rright V P hx (by rw [beq_iff_eq] at ht; omega),Option.bind_some]
      cases fitsN b.Fare c u b.Boxes[k] <;> rfl
   ·unfold ref10_goes_l35
    simp only
    rw [decide_eq_false (by omega),cond_false,show ((c.length:Int)==b.Tally.Trips)=false by rw [beq_eq_false_iff_ne]; omega,cond_false]
    generalize hG:(fun n s:Nat=>bif okR b c.length n s then goesL b r (c++[(n:Int)]) (u++[(s:Int)]) else [])=G
    have gl:∀ n s,(G n s).length≤48 ^ r:=fun n s=>by
     rw [← hG]; simp only
     cases okR b c.length n s with
     | false=>simp
     | true=>exact goesL_len V r _ _
    have fl:∀ n s:Nat,((List.range s).flatMap (G n)).length≤s*48 ^ r:=fun n s=>by
     have:=len_flat (l:=List.range s) (f:=G n) (k:=48 ^ r) (fun s _=>gl n s)
     rwa [List.length_range] at this
    have ol:∀ n:Nat,((List.range n).flatMap fun n=>(List.range 8).flatMap (G n)).length≤n*(8*48 ^ r):=fun n=>by
     have:=len_flat (l:=List.range n) (f:=fun n=>(List.range 8).flatMap (G n)) (k:=8*48 ^ r) (fun n _=>fl n 8)
     rwa [List.length_range] at this
    have hG' :∀ n s,(bif okR b c.length n s then goesL b r (c++[(n:Int)]) (u++[(s:Int)]) else [])=G n s:=fun n s=>by rw [← hG]
    show _=some ((List.range (b.Tally.Room.toNat+1)).flatMap fun n=>(List.range 8).flatMap fun s=>bif okR b c.length n s then goesL b r (c++[(n:Int)]) (u++[(s:Int)]) else [])
    simp only [hG']
    refine loopF_spec (body:=ref10_goes_l34 b ⟨c,u⟩ _) (fun z:List Ref10_truth×Int=>∃ n:Nat,(n:Int)≤b.Tally.Room+1∧z=((List.range n).flatMap fun n=>(List.range 8).flatMap (G n),(n:Int))) (fun z=>(b.Tally.Room+1 - z.2).toNat) (fun _=>(List.range (b.Tally.Room.toNat+1)).flatMap fun n=>(List.range 8).flatMap (G n)) ?_ big ([],0) ⟨0,by omega,rfl⟩ (by unfold big; simp; omega)
    rintro rec2 z ⟨n,hn,rfl⟩ ih2
    unfold ref10_goes_l34
    simp only
    by_cases hlt:(n:Int)≤b.Tally.Room
    case neg=>
     rw [decide_eq_false hlt,cond_false,show b.Tally.Room.toNat+1=n by omega]
    rw [decide_eq_true hlt,cond_true]
    refine loopF_spec (body:=ref10_goes_l33 b ⟨c,u⟩ _ _ rec2) (fun z:List Ref10_truth×Int=>∃ s:Nat,s≤8∧z=(((List.range n).flatMap fun n=>(List.range 8).flatMap (G n))++(List.range s).flatMap (G n),(s:Int))) (fun z=>(8 - z.2).toNat) (fun _=>(List.range (b.Tally.Room.toNat+1)).flatMap fun n=>(List.range 8).flatMap (G n)) ?_ big _ ⟨0,by omega,by simp⟩ (by unfold big; simp)
    rintro rec3 z ⟨s,hs,rfl⟩ ih3
    unfold ref10_goes_l33
    simp only
    by_cases hs8:s < 8
    case neg=>
     have:s=8:=by omega
     subst this
     rw [decide_eq_false (by omega),cond_false,wrI (x:=(n:Int)+1) (by omega) (by omega)]
     refine ih2 _ ⟨n+1,by omega,?_⟩ (by (try simp only); omega)
     rw [show List.range (n+1)=List.range n++[n] from List.range_succ,List.flatMap_append,List.flatMap_cons,List.flatMap_nil,List.append_nil]; rfl
    obtain ⟨c1,c2,c3⟩:=covN_ok V c.length
    obtain ⟨s1,s2,s3⟩:=shwN_ok V c.length
    have hmem:=members_nat s (n:=3) (by omega)
    rw [show ((3:Nat):Int)=3 from rfl] at hmem
    have next:rec3 ((((List.range n).flatMap fun n=>(List.range 8).flatMap (G n))++(List.range s).flatMap (G n))++G n s,(s:Int)+1)=some ((List.range (b.Tally.Room.toNat+1)).flatMap fun n=>(List.range 8).flatMap (G n)):=by
     refine ih3 _ ⟨s+1,by omega,?_⟩ (by (try simp only); omega)
     rw [show List.range (s+1)=List.range s++[s] from List.range_succ,List.flatMap_append,List.flatMap_cons,List.flatMap_nil,List.append_nil,List.append_assoc]; rfl
    have hj:∀ o,o=okR b c.length n s→ref10_goes_j32 ⟨c,u⟩ ((List.range n).flatMap fun n=>(List.range 8).flatMap (G n),(n:Int)) (((List.range n).flatMap fun n=>(List.range 8).flatMap (G n))++(List.range s).flatMap (G n),(s:Int)) (fun x0_ x1_=>ref10_goes f x0_ x1_) b rec3 o=some ((List.range (b.Tally.Room.toNat+1)).flatMap fun n=>(List.range 8).flatMap (G n)):=by
     intro o ho
     have hg:=hG' n s
     unfold ref10_goes_j32
     simp only
     rw [wrI (x:=(s:Int)+1) (by omega) (by omega)]
     cases o with
     | false=>
       rw [← ho,cond_false] at hg
       rw [cond_false]
       rw [← hg,List.append_nil] at next
       exact next
     | true=>
       rw [← ho,cond_true] at hg
       rw [cond_true,grown_eq (by omega),Option.bind_some,grown_eq (by omega),Option.bind_some,ih f (d+1) _ _ (P.more (by omega) hlt hs8) (by omega) (by omega),Option.bind_some,hg]
       cases hE:G n s with
       | nil=>
         rw [List.isEmpty_nil,cond_true]
         rw [hE,List.append_nil] at next
         exact next
       | cons t l=>
         have h1:=fl n s; have h2:=ol n; have h3:=gl n s
         rw [hE] at h3 next
         have h4:n*(8*48 ^ r)≤6*(8*2304):=Nat.mul_le_mul (by omega) (Nat.mul_le_mul_left _ pw)
         have h5:s*48 ^ r≤8*2304:=Nat.mul_le_mul (by omega) pw
         rw [List.isEmpty_cons,cond_false,need_of (fits_of (by rw [List.length_append]; omega) (by omega))]
         exact next
    rw [decide_eq_true (by omega),cond_true,c1,Option.bind_some]
    have ho:okR b c.length n s=((andNotI (s:Int) (covN b c.length:Int)==0)&&(andNotI (shwN b c.length:Int) (s:Int)==0)&&decide (popN s≤(n:Int))):=rfl
    cases a1:(andNotI (s:Int) (covN b c.length:Int)==0) with
    | false=>rw [cond_false]; exact hj _ (by rw [ho,a1]; rfl)
    | true=>
      rw [cond_true,s1,Option.bind_some]
      cases a2:(andNotI (shwN b c.length:Int) (s:Int)==0) with
      | false=>rw [cond_false]; exact hj _ (by rw [ho,a1,a2]; rfl)
      | true=>
        rw [cond_true,hmem,Option.bind_some]
        exact hj _ (by rw [ho,a1,a2,mem3 hs8]; rfl)
end Go.Proofs.YtafhljljfglfeaaGreatDoor
namespace Go.Proofs.YtafhljljfglfeaaGreatDoor
open Go Go.Fx
theorem getD_take {l:List Int}{d i:Nat} (h:i < d):(l.take d).getD i 0=l.getD i 0:=by
 rw [List.getD_eq_getElem?_getD,List.getElem?_take_of_lt h,← List.getD_eq_getElem?_getD]
theorem pv_same {c u c' u' :List Int}{d:Nat} (h1:c.getD d 0=c'.getD d 0) (h2:u.getD d 0=u'.getD d 0):pv c u d=pv c' u' d:=by
 unfold pv; rw [h1,h2]
theorem paid_same {c u c' u' :List Int} (f:Nat):∀ n:Nat,(∀ i,i < f+n→c.getD i 0=c'.getD i 0∧u.getD i 0=u'.getD i 0)→paidN c u f n=paidN c' u' f n
 | 0,_=>by simp [paidN]
 | n+1,h=>by
   have:=h (f+n) (by omega)
   rw [paidN_succ,paidN_succ,paid_same f n (fun i hi=>h i (by omega)),pv_same this.1 this.2]
theorem fits_same {fare:Int}{c u c' u' :List Int}{x:TicketBox} (h0:0≤x.From) (h1:x.From≤x.To) (h:∀ i:Nat,(i:Int)≤x.To→c.getD i 0=c'.getD i 0∧u.getD i 0=u'.getD i 0):fitsN fare c u x=fitsN fare c' u' x:=by
 unfold fitsN
 rw [paid_same (c' :=c') (u' :=u') _ _ (fun i hi=>h i (by omega))]
structure GoT (b:TicketBook) (d:Nat) (c u:List Int) (t:Ref10_truth):Prop where
 cl:(t.crossed_.length:Int)=b.Tally.Trips
 ul:(t.used_.length:Int)=b.Tally.Trips
 ct:t.crossed_.take d=c
 ut:t.used_.take d=u
 ok:∀ i:Nat,d≤i→(i:Int) < b.Tally.Trips→∃ n s:Nat,t.crossed_.getD i 0=n∧t.used_.getD i 0=s∧(n:Int)≤b.Tally.Room∧s < 8∧okR b i n s=true
 bx:∀ x∈b.Boxes,(d:Int)≤x.To+1→fitsN b.Fare t.crossed_ t.used_ x=true
 can:canR b t.crossed_=true
theorem take_snoc {l c:List Int}{d:Nat}{x:Int} (h:l.take (d+1)=c++[x]) (hc:c.length=d):l.take d=c∧l.getD d 0=x:=by
 constructor
 ·have:(l.take (d+1)).take d=(c++[x]).take d:=by rw [h]
  rw [List.take_take,Nat.min_eq_left (by omega)] at this
  rw [this,List.take_append_of_le_length (by omega),List.take_of_length_le (by omega)]
 ·have:(l.take (d+1)).getD d 0=(c++[x]).getD d 0:=by rw [h]
  rw [getD_take (by omega)] at this
  rw [this,List.getD_eq_getElem?_getD,List.getElem?_append_right (by omega),hc,Nat.sub_self]; rfl
theorem take_more {l c:List Int}{d:Nat}{x:Int} (h:l.take d=c) (hd:d < l.length) (hx:l.getD d 0=x):l.take (d+1)=c++[x]:=by
 rw [List.take_succ_eq_append_getElem hd,h,← hx,List.getD_eq_getElem?_getD,List.getElem?_eq_getElem hd]; rfl
theorem mem_goesL {b:TicketBook} (V:VT b):∀ (r d:Nat) (c u:List Int),PreT b d c u→((d+r:Nat):Int)=b.Tally.Trips→∀ t,t∈goesL b r c u↔GoT b d c u t:=by
 have r0:=V.ta.r0
 have box:∀ (d:Nat) (c u:List Int),PreT b d c u→∀ (t:Ref10_truth),t.crossed_.take d=c→t.used_.take d=u→(boxR b c u=true↔∀ x∈b.Boxes,x.To+1=d→fitsN b.Fare t.crossed_ t.used_ x=true):=by
  intro d c u P t hc hu
  unfold boxR
  rw [List.all_eq_true]
  refine forall_congr' fun x=>forall_congr' fun hx=>?_
  have B:=V.bx x hx
  rw [P.cl,Bool.or_eq_true,Bool.not_eq_true',beq_eq_false_iff_ne]
  constructor
  ·rintro (h | h) he
   ·exact absurd (by omega) h
   ·rw [fits_same (c' :=c) (u' :=u) B.f0 B.ft (fun i hi=>by rw [← hc,← hu,getD_take (by omega),getD_take (by omega)]; exact ⟨rfl,rfl⟩)]; exact h
  ·intro h
   by_cases he:x.To=(d:Int) - 1
   ·right
    rw [fits_same (c' :=t.crossed_) (u' :=t.used_) B.f0 B.ft (fun i hi=>by rw [← hc,← hu,getD_take (by omega),getD_take (by omega)]; exact ⟨rfl,rfl⟩)]
    exact h (by omega)
   ·exact .inl he
 intro r
 induction r with
 | zero=>
   intro d c u P hd t
   have hcl:=P.cl; have hul:=P.ul
   rw [goesL_zero]
   constructor
   ·intro h
    cases hb:boxR b c u with
    | false=>rw [hb,cond_false] at h; simp at h
    | true=>
      rw [hb,cond_true] at h
      cases hr:canR b c with
      | false=>rw [hr,cond_false] at h; simp at h
      | true=>
        rw [hr,cond_true,List.mem_singleton] at h
        subst h
        have tc:c.take d=c:=List.take_of_length_le (by omega)
        have tu:u.take d=u:=List.take_of_length_le (by omega)
        refine ⟨by simp only; omega,by simp only; omega,tc,tu,fun i h1 h2=>by omega,fun x hx hd' =>?_,hr⟩
        have:=(V.bx x hx).tT
        exact (box d c u P ⟨c,u⟩ tc tu).1 hb x hx (by omega)
   ·intro G
    have e1:t.crossed_=c:=by rw [← G.ct,List.take_of_length_le (by have:=G.cl; omega)]
    have e2:t.used_=u:=by rw [← G.ut,List.take_of_length_le (by have:=G.ul; omega)]
    have hb:boxR b c u=true:=(box d c u P t G.ct G.ut).2 fun x hx he=>G.bx x hx (by omega)
    have hr:=G.can
    rw [e1] at hr
    rw [hb,cond_true,hr,cond_true,List.mem_singleton,← e1,← e2]
 | succ r ih=>
   intro d c u P hd t
   have hcl:=P.cl; have hul:=P.ul
   rw [goesL_succ]
   constructor
   ·intro h
    cases hb:boxR b c u with
    | false=>rw [hb,cond_false] at h; simp at h
    | true=>
      rw [hb,cond_true,List.mem_flatMap] at h
      obtain ⟨n,hn,h⟩:=h
      rw [List.mem_flatMap] at h
      obtain ⟨s,hs,h⟩:=h
      have hn:=List.mem_range.1 hn; have hs:=List.mem_range.1 hs
      cases ho:okR b c.length n s with
      | false=>rw [ho,cond_false] at h; simp at h
      | true=>
        rw [ho,cond_true] at h
        have G:=(ih (d+1) _ _ (P.more (by omega) (by omega) hs) (by omega) t).1 h
        obtain ⟨c1,c2⟩:=take_snoc G.ct hcl
        obtain ⟨u1,u2⟩:=take_snoc G.ut hul
        refine ⟨G.cl,G.ul,c1,u1,fun i h1 h2=>?_,fun x hx hd' =>?_,G.can⟩
        ·by_cases hi:i=d
         ·subst hi
          exact ⟨n,s,c2,u2,by omega,hs,by rwa [hcl] at ho⟩
         ·exact G.ok i (by omega) h2
        ·by_cases he:x.To+1=d
         ·exact (box d c u P t c1 u1).1 hb x hx he
         ·exact G.bx x hx (by omega)
   ·intro G
    have hb:boxR b c u=true:=(box d c u P t G.ct G.ut).2 fun x hx he=>G.bx x hx (by omega)
    obtain ⟨n,s,e1,e2,h1,h2,ho⟩:=G.ok d (Nat.le_refl _) (by omega)
    have gl:=G.cl; have gu:=G.ul
    rw [hb,cond_true,List.mem_flatMap]
    refine ⟨n,List.mem_range.2 (by omega),?_⟩
    rw [List.mem_flatMap]
    refine ⟨s,List.mem_range.2 h2,?_⟩
    rw [hcl,ho,cond_true]
    exact (ih (d+1) _ _ (P.more (by omega) h1 h2) (by omega) t).2 ⟨G.cl,G.ul,take_more G.ct (by omega) e1,take_more G.ut (by omega) e2,fun i h1 h2=>G.ok i (by omega) h2,fun x hx hd' =>G.bx x hx (by omega),G.can⟩
theorem pre0 {b:TicketBook} (V:VT b):PreT b 0 [] []:=by
 have:=V.ta.r0; have:=V.ta.t1
 exact ⟨rfl,rfl,by omega,fun i=>by simp; omega,fun i=>by simp⟩
theorem rtruths {b:TicketBook} (V:VT b):∃ L,ref10_truths b=some L∧L.length≤200000∧∀ t,t∈L↔Cl b.Shows∧GoT b 0 [] [] t:=by
 have t1:=V.ta.t1; have t3:=V.t3; have sn:=V.sn
 obtain ⟨⟨i,k⟩,hr,hC⟩:=rclashes (b:=b) (by omega)
 unfold ref10_truths
 rw [hr,Option.bind_some]
 rcases hC with ⟨i',k',x,y,e1,_,_,g1,g2,g3,_⟩ | ⟨e1,hno⟩
 ·simp only at e1
  subst e1
  refine ⟨[],by rw [decide_eq_true (by simp only; omega),cond_true],by simp,fun t=>?_⟩
  simp only [List.not_mem_nil,false_iff]
  rintro ⟨h,_⟩
  have:=cl_iff.1 h x (List.mem_of_getElem? g1) y (List.mem_of_getElem? g2)
  rw [g3] at this; cases this
 ·simp only at e1
  subst e1
  refine ⟨goesL b b.Tally.Trips.toNat [] [],?_,?_,fun t=>?_⟩
  ·rw [decide_eq_false (by simp only; omega),cond_false,goes_eq V b.Tally.Trips.toNat big 0 [] [] (pre0 V) (by omega) (by unfold big; omega)]; rfl
  ·have:=goesL_len V b.Tally.Trips.toNat [] []
   have:48 ^ b.Tally.Trips.toNat≤48 ^ 3:=Nat.pow_le_pow_right (by omega) (by omega)
   omega
  ·rw [mem_goesL V b.Tally.Trips.toNat 0 [] [] (pre0 V) (by omega) t]
   exact ⟨fun h=>⟨noC_cl hno,h⟩,fun h=>h.2⟩
def pad3 (l:List Int):List Int:=(List.range 3).map fun d=>l.getD d 0
theorem pad3_get {l:List Int} (h:l.length≤3) (d:Nat):(pad3 l).getD d 0=l.getD d 0:=by
 unfold pad3
 rw [List.getD_eq_getElem?_getD]
 by_cases hd:d < 3
 ·rw [List.getElem?_map,List.getElem?_range hd]; rfl
 ·rw [List.getElem?_eq_none (by simp; omega),List.getD_eq_getElem?_getD,List.getElem?_eq_none (by omega)]
theorem pad3_take {l:List Int} (h:l.length≤3):(pad3 l).take l.length=l:=by
 refine List.ext_getElem? fun d=>?_
 by_cases hd:d < l.length
 ·rw [List.getElem?_take_of_lt hd]
  unfold pad3
  rw [List.getElem?_map,List.getElem?_range (by omega),Option.map_some,List.getD_eq_getElem?_getD,List.getElem?_eq_getElem hd]; rfl
 ·rw [List.getElem?_eq_none (by rw [List.length_take]; omega),List.getElem?_eq_none (by omega)]
def toT (t:Ref10_truth):Ticket_truth:=⟨pad3 t.crossed_,pad3 t.used_⟩
def Same (t:Ref10_truth) (x:Ticket_truth):Prop:=∀ d,t.crossed_.getD d 0=x.crossed_.getD d 0∧t.used_.getD d 0=x.used_.getD d 0
theorem okR_iff {b:TicketBook} (V:VT b) {d n s:Nat} (hs:s < 8):okR b d n s=true↔Use b s d∧(∀ x∈b.Shows,x.Trip=d→s.testBit x.Ticket.toNat=true)∧popN s≤(n:Int):=by
 obtain ⟨_,c2,c3⟩:=covN_ok V d
 obtain ⟨_,s2,s3⟩:=shwN_ok V d
 unfold okR
 rw [Bool.and_eq_true,Bool.and_eq_true,nandE hs c2,nandE s2 hs,decide_eq_true_iff,and_assoc]
 refine and_congr (forall_congr' fun m=>forall_congr' fun _=>c3 m) (and_congr ?_ Iff.rfl)
 constructor
 ·intro h x hx ht
  have S:=V.sh x hx
  have:=S.n0
  exact h _ ((s3 _).2 ⟨x,hx,ht,by omega⟩)
 ·intro h m hm
  obtain ⟨x,hx,h1,h2⟩:=(s3 m).1 hm
  have:=h x hx h1
  rwa [h2,show ((m:Nat):Int).toNat=m from rfl] at this
theorem canR_iff {b:TicketBook} (V:VT b) {c:List Int} (hl:(c.length:Int)=b.Tally.Trips) (hb:∀ d:Nat,(d:Int) < b.Tally.Trips→0≤c.getD d 0∧c.getD d 0≤b.Tally.Room):canR b c=true↔Fit b.Tally no (pre c):=by
 have T:Tru b.Tally c:=⟨hl,fun n hn=>by
  obtain ⟨d,hd,rfl⟩:=List.getElem_of_mem hn
  have:=hb d (by omega)
  rw [List.getD_eq_getElem?_getD,List.getElem?_eq_getElem hd] at this
  exact this⟩
 obtain ⟨r,h1,h2⟩:=can_law V.ta T
 unfold canR
 rw [h1]
 exact h2
theorem GoT.pre {b:TicketBook} (V:VT b) {t:Ref10_truth} (G:GoT b 0 [] [] t):PreT b b.Tally.Trips.toNat t.crossed_ t.used_:=by
 have:=V.ta.r0; have t1:=V.ta.t1; have gl:=G.cl; have gu:=G.ul
 refine ⟨by omega,by omega,by omega,fun i=>?_,fun i=>?_⟩
 ·by_cases h:(i:Int) < b.Tally.Trips
  ·obtain ⟨n,s,e1,e2,h1,h2,h3⟩:=G.ok i (Nat.zero_le _) h
   rw [e1]; omega
  ·rw [List.getD_eq_getElem?_getD,List.getElem?_eq_none (by omega)]; simp; omega
 ·by_cases h:(i:Int) < b.Tally.Trips
  ·obtain ⟨n,s,e1,e2,h1,h2,h3⟩:=G.ok i (Nat.zero_le _) h
   rw [e2]; omega
  ·rw [List.getD_eq_getElem?_getD,List.getElem?_eq_none (by omega)]; simp
theorem got_tr {b:TicketBook} (V:VT b) {t:Ref10_truth} (hc:Cl b.Shows) (G:GoT b 0 [] [] t):Tr b b.Shows b.Boxes (toT t)∧Same t (toT t):=by
 have t1:=V.ta.t1; have t3:=V.t3; have gl:=G.cl; have gu:=G.ul
 have P:=G.pre V
 have pc:=fun d=>pad3_get (l:=t.crossed_) (by omega) d
 have pu:=fun d=>pad3_get (l:=t.used_) (by omega) d
 have at_:∀ d:Nat,(d:Int) < b.Tally.Trips→∃ n:Nat,t.crossed_.getD d 0=n∧(Use b (t.used_.getD d 0).toNat d∧(∀ x∈b.Shows,x.Trip=d→(t.used_.getD d 0).toNat.testBit x.Ticket.toNat=true)∧popN (t.used_.getD d 0).toNat≤(n:Int)):=fun d hd=>by
  obtain ⟨n,s,e1,e2,h1,h2,h3⟩:=G.ok d (Nat.zero_le _) hd
  refine ⟨n,e1,?_⟩
  rw [e2,show ((s:Nat):Int).toNat=s from rfl]
  exact (okR_iff V h2).1 h3
 refine ⟨⟨hc,by simp [toT,pad3],by simp [toT,pad3],fun d hd=>?_,fun d hd=>?_,fun d hd=>?_,fun d=>?_,fun d hd=>?_,fun d hd=>?_,fun x hx=>?_,?_,fun x hx=>?_⟩,fun d=>⟨(pc d).symm,(pu d).symm⟩⟩
 ·show 0≤(pad3 t.crossed_).getD d 0∧(pad3 t.crossed_).getD d 0≤_
  rw [pc]; exact P.cb d
 ·show (pad3 t.crossed_).getD d 0=0
  rw [pc,List.getD_eq_getElem?_getD,List.getElem?_eq_none (by omega)]; rfl
 ·show (pad3 t.used_).getD d 0=0
  rw [pu,List.getD_eq_getElem?_getD,List.getElem?_eq_none (by omega)]; rfl
 ·show 0≤(pad3 t.used_).getD d 0∧(pad3 t.used_).getD d 0 < 8
  rw [pu]; exact P.ub d
 ·obtain ⟨n,e1,h1,h2,h3⟩:=at_ d hd
  show Use b ((pad3 t.used_).getD d 0).toNat d
  rw [pu]; exact h1
 ·obtain ⟨n,e1,h1,h2,h3⟩:=at_ d hd
  show popN ((pad3 t.used_).getD d 0).toNat≤(pad3 t.crossed_).getD d 0
  rw [pu,pc,e1]; exact h3
 ·have S:=V.sh x hx
  have:=S.t0; have:=S.tT
  obtain ⟨n,e1,h1,h2,h3⟩:=at_ x.Trip.toNat (by omega)
  show ((pad3 t.used_).getD x.Trip.toNat 0).toNat.testBit x.Ticket.toNat=true
  rw [pu]; exact h2 x hx (by omega)
 ·show Fit b.Tally no (Go.Proofs.YtafhljljfglfeaaGreatDoor.pre ((pad3 t.crossed_).take b.Tally.Trips.toNat))
  rw [show b.Tally.Trips.toNat=t.crossed_.length by omega,pad3_take (by omega)]
  exact (canR_iff V gl (fun d _=>P.cb d)).1 G.can
 ·have B:=V.bx x hx
  show fitsN b.Fare (pad3 t.crossed_) (pad3 t.used_) x=true
  rw [fits_same (c' :=t.crossed_) (u' :=t.used_) B.f0 B.ft (fun i _=>⟨pc i,pu i⟩)]
  exact G.bx x hx (by have:=B.f0; have:=B.ft; omega)
theorem tr_got {b:TicketBook} (V:VT b) {x:Ticket_truth} (h:Tr b b.Shows b.Boxes x):Cl b.Shows∧∃ t,GoT b 0 [] [] t∧Same t x:=by
 have t1:=V.ta.t1; have t3:=V.t3; have c3:=h.c3; have u3:=h.u3; have r0:=V.ta.r0
 have g:∀ (l:List Int),(∀ d:Nat,b.Tally.Trips≤d→l.getD d 0=0)→∀ d,(l.take b.Tally.Trips.toNat).getD d 0=l.getD d 0:=fun l hz d=>by
  by_cases hd:d < b.Tally.Trips.toNat
  ·exact getD_take hd
  ·rw [hz d (by omega),List.getD_eq_getElem?_getD,List.getElem?_eq_none (by rw [List.length_take]; omega)]; rfl
 have gc:=g _ h.cz; have gu:=g _ h.uz
 refine ⟨h.cl,⟨x.crossed_.take b.Tally.Trips.toNat,x.used_.take b.Tally.Trips.toNat⟩,⟨by simp only [List.length_take]; omega,by simp only [List.length_take]; omega,by simp,by simp,fun i _ hi=>?_,fun y hy _=>?_,?_⟩,fun d=>⟨gc d,gu d⟩⟩
 ·have cr:=h.cr i hi; have ub:=h.ub i
  refine ⟨(x.crossed_.getD i 0).toNat,(x.used_.getD i 0).toNat,by simp only; rw [gc]; omega,by simp only; rw [gu]; omega,by omega,by omega,(okR_iff V (by omega)).2 ⟨h.us i hi,fun y hy ht=>?_,by have:=h.pc i hi; omega⟩⟩
  have:=h.sw y hy
  rwa [ht,show ((i:Nat):Int).toNat=i from rfl] at this
 ·have B:=V.bx y hy
  simp only
  rw [fits_same (c' :=x.crossed_) (u' :=x.used_) B.f0 B.ft (fun i _=>⟨gc i,gu i⟩)]
  exact h.bx y hy
 ·refine (canR_iff V (by simp only [List.length_take]; omega) (fun d hd=>?_)).2 h.can
  simp only
  rw [gc]; exact h.cr d hd
theorem rcan {b:TicketBook} (V:VT b) {L:List Ref10_truth} (hL:∀ t,t∈L↔Cl b.Shows∧GoT b 0 [] [] t):L=[]↔¬Can b:=by
 constructor
 ·rintro rfl ⟨x,hx⟩
  obtain ⟨h,t,G,_⟩:=tr_got V hx
  exact List.not_mem_nil ((hL t).2 ⟨h,G⟩)
 ·intro h
  refine List.eq_nil_iff_forall_not_mem.2 fun t ht=>h ?_
  obtain ⟨hc,G⟩:=(hL t).1 ht
  exact ⟨_,(got_tr V hc G).1⟩
end Go.Proofs.YtafhljljfglfeaaGreatDoor
namespace Go.Proofs.YtafhljljfglfeaaGreatDoor
open Go Go.Fx Go.Proofs
end Go.Proofs.YtafhljljfglfeaaGreatDoor
namespace Go.Proofs.YtafhljljfglfeaaGreatDoor
open Go Go.Fx
theorem keptL {α:Type}{body:(Bool×Int→Option Bool)→Bool×Int→Option Bool} (l:List α) (hl:l.length≤9223372036854775806) (hs:∀ rec (k:Nat) (h:k < l.length),body rec (true,(k:Int))=rec (true,((k+1:Nat):Int))) (he:∀ rec,body rec (true,(l.length:Int))=some true):loopF body big (true,0)=some true:=by
 refine loopF_spec (body:=body) (fun z:Bool×Int=>∃ k:Nat,z=(true,(k:Int))∧k≤l.length) (fun z=>l.length - z.2.toNat) (fun _=>true) ?_ big (true,0) ⟨0,rfl,Nat.zero_le _⟩ (by unfold big; simp; omega)
 rintro rec z ⟨k,rfl,hk⟩ ih
 by_cases h:k < l.length
 ·rw [hs rec k h]
  exact ih _ ⟨k+1,rfl,h⟩ (by simp only; omega)
 ·have:k=l.length:=by omega
  subst this
  exact he rec
theorem keptT (b:TicketBook) (A:ArgT b) (hc:b.Tally.Counts.length≤9223372036854775806) (ht:b.Tickets.length≤9223372036854775806) (hs:b.Shows.length≤9223372036854775806) (hx:b.Boxes.length≤9223372036854775806):B_KeptTicket b b=some true:=by
 have k1:B_KeptTickets b.Tickets b.Tickets=some true:=by
  unfold B_KeptTickets
  rw [beq_self_eq_true]
  refine keptL b.Tickets ht (fun rec k h=>?_) (fun rec=>?_)
  ·unfold B_KeptTickets_l1
   simp only
   rw [cond_true,decide_eq_true (by omega),cond_true,getI_nat,List.getElem?_eq_getElem h,Option.bind_some,Option.bind_some,wrI (by omega) (by omega)]
   simp only [beq_self_eq_true,Bool.and_self]; rfl
  ·unfold B_KeptTickets_l1
   simp only
   rw [cond_true,decide_eq_false (by omega),cond_false]
 have k2:B_KeptShows b.Shows b.Shows=some true:=by
  unfold B_KeptShows
  rw [beq_self_eq_true]
  refine keptL b.Shows hs (fun rec k h=>?_) (fun rec=>?_)
  ·unfold B_KeptShows_l1
   simp only
   rw [cond_true,decide_eq_true (by omega),cond_true,getI_nat,List.getElem?_eq_getElem h,Option.bind_some,Option.bind_some,wrI (by omega) (by omega)]
   simp only [beq_self_eq_true,Bool.and_self]; rfl
  ·unfold B_KeptShows_l1
   simp only
   rw [cond_true,decide_eq_false (by omega),cond_false]
 have k3:B_KeptBoxes b.Boxes b.Boxes=some true:=by
  unfold B_KeptBoxes
  rw [beq_self_eq_true]
  refine keptL b.Boxes hx (fun rec k h=>?_) (fun rec=>?_)
  ·unfold B_KeptBoxes_l1
   simp only
   rw [cond_true,decide_eq_true (by omega),cond_true,getI_nat,List.getElem?_eq_getElem h,Option.bind_some,Option.bind_some,wrI (by omega) (by omega)]
   simp only [beq_self_eq_true,Bool.and_self]; rfl
  ·unfold B_KeptBoxes_l1
   simp only
   rw [cond_true,decide_eq_false (by omega),cond_false]
 unfold B_KeptTicket
 rw [kept_eq _ hc,Option.bind_some,cond_true,beq_self_eq_true,cond_true,k1,Option.bind_some,cond_true,k2,Option.bind_some,cond_true,k3,Option.bind_some]
theorem ownT {b:TicketBook} (hc:b.Tally.Counts.length*56≤140737488355328) (ht:b.Tickets.length*16≤140737488355328) (hs:b.Shows.length*24≤140737488355328) (hx:b.Boxes.length*32≤140737488355328):B_OwnTicket b=some b:=by
 unfold B_OwnTicket B_OwnTickets B_OwnShows B_OwnBoxes
 rw [own_eq hc,Option.bind_some,need_of (by unfold fitsL; simpa using ht),Option.bind_some,need_of (by unfold fitsL; simpa using hs),Option.bind_some,need_of (by unfold fitsL; simpa using hx),Option.bind_some]
theorem asked_badT {b:TicketBook} (A:ArgT b) (hv:valT b=false) (o:Bool):∃ x,ticket_asked b o=some (x,100):=by
 unfold ticket_asked
 rw [checkT_eq b A,hv]
 exact ⟨_,rfl⟩
theorem rasked_badT {b:TicketBook} (A:ArgT b) (hv:valT b=false) (o:Bool):ref10_asked b o=some ([],100):=by
 unfold ref10_asked
 rw [rcheckT_eq b A,hv]; rfl
theorem rcheckT_ok {b:TicketBook} (V:VT b):ref10_Check b=some 0:=by rw [rcheckT_eq b V.arg,valT_iff.2 V]; rfl
theorem rasked_noT {b:TicketBook} (V:VT b):ref10_asked b false=some ([],101):=by
 unfold ref10_asked
 rw [rcheckT_ok V]; rfl
def Tru10 (b:TicketBook) (L:List Ref10_truth):Prop:=L.length≤200000∧∀ t,t∈L↔Cl b.Shows∧GoT b 0 [] [] t
theorem raskedT {b:TicketBook} (V:VT b):∃ L e,ref10_asked b true=some (L,e)∧((e=0∧Can b∧L≠[]∧Tru10 b L)∨(e=102∧L=[]∧¬Can b)):=by
 obtain ⟨L,hr,hl,hm⟩:=rtruths V
 have hc:=rcan V hm
 unfold ref10_asked
 rw [rcheckT_ok V,Option.bind_some]
 simp only [bne_self_eq_false,cond_false,Bool.not_true]
 rw [hr,Option.bind_some]
 cases hL:L with
 | nil=>
   subst hL
   exact ⟨[],102,rfl,.inr ⟨rfl,rfl,hc.1 rfl⟩⟩
 | cons t l=>
   rw [← hL]
   have hn:L≠[]:=by rw [hL]; simp
   refine ⟨L,0,?_,.inl ⟨rfl,Classical.byContradiction fun h=>hn (hc.2 h),hn,hl,hm⟩⟩
   rw [show ((L.length:Int)==0)=false by rw [beq_eq_false_iff_ne,hL]; simp; omega,cond_false]
end Go.Proofs.YtafhljljfglfeaaGreatDoor
namespace Go.Proofs.YtafhljljfglfeaaGreatDoor
open Go Go.Fx Go.Tally
structure Spn (F:(Nat→Int)→Prop) (a c:Nat) (lo hi:Int):Prop where
 loE:∃ q,F q∧q c - q a=lo
 hiE:∃ q,F q∧q c - q a=hi
 all:∀ q,F q→lo≤q c - q a∧q c - q a≤hi
theorem mem_set_iff {α:Type}{l:List α}{i:Nat}{a x:α} (hi:i < l.length):x∈l.set i a↔x=a∨∃ j,j≠i∧l[j]? =some x:=by
 constructor
 ·intro h
  obtain ⟨j,hj,rfl⟩:=List.getElem_of_mem h
  by_cases hji:j=i
  ·subst hji; left; simp
  ·right; refine ⟨j,hji,?_⟩
   rw [List.getElem_set_ne (fun e=>hji e.symm)]
   exact List.getElem?_eq_getElem _
 ·rintro (rfl | ⟨j,hj,h⟩)
  ·exact List.mem_set hi ..
  ·refine List.mem_of_getElem? (i:=j) ?_
   rw [List.getElem?_set_ne (fun e=>hj e.symm)]
   exact h
theorem loopF_cps {σ ρ τ:Type}{body:(σ→Option ρ)→σ→Option ρ} (Inv:σ→Prop) (μ:σ→Nat) (K:τ→Option ρ) (R:τ→Prop)
 (step:∀ (rec:σ→Option ρ) (s:σ),Inv s→(∀ s',Inv s' →μ s' < μ s→∃ t,rec s' =K t∧R t)→∃ t,body rec s=K t∧R t):
 ∀ (n:Nat) (s:σ),Inv s→μ s < n→∃ t,loopF body n s=K t∧R t:=by
 intro n
 induction n with
 | zero=>intro s _ h; omega
 | succ n ih=>intro s hs hn; exact step _ s hs fun s' h1 h2=>ih s' h1 (by omega)
abbrev Mt:=List (List Int)
structure Sq (n:Nat) (M:Mt):Prop where
 len:M.length=n+1
 rows:∀ r∈M,r.length=n+1
def mg (M:Mt) (i k:Nat):Int:=(M.getD i []).getD k 0
theorem Sq.row {n:Nat}{M:Mt} (h:Sq n M) {i:Nat} (hi:i≤n):getI M (i:Int)=some (M.getD i [])∧(M.getD i []).length=n+1∧M[i]? =some (M.getD i []):=by
 have hl:i < M.length:=by rw [h.len]; omega
 have e:M[i]? =some (M.getD i []):=by rw [List.getD_eq_getElem?_getD,List.getElem?_eq_getElem hl]; rfl
 exact ⟨by rw [getI_nat]; exact e,h.rows _ (List.mem_of_getElem? e),e⟩
theorem Sq.cell {n:Nat}{M:Mt} (h:Sq n M) {i k:Nat} (hi:i≤n) (hk:k≤n):getI (M.getD i []) (k:Int)=some (mg M i k):=by
 have hl:=(h.row hi).2.1
 have hkl:k < (M.getD i []).length:=by omega
 rw [getI_nat,mg,List.getD_eq_getElem?_getD (l:=M.getD i []),List.getElem?_eq_getElem hkl]; rfl
def upd2 (M:Mt) (i k:Nat) (v:Int):Mt:=M.set i ((M.getD i []).set k v)
theorem Sq.upd {n:Nat}{M:Mt} (h:Sq n M) {i k:Nat} (hi:i≤n) {v:Int}:Sq n (upd2 M i k v):=by
 refine ⟨by simp [upd2,h.len],fun r hr=>?_⟩
 have hl:i < M.length:=by rw [h.len]; omega
 rcases (mem_set_iff hl).1 hr with rfl | ⟨j,_,hj⟩
 ·rw [List.length_set]; exact (h.row hi).2.1
 ·exact h.rows _ (List.mem_of_getElem? hj)
def mn (a b:Int):Int:=if b < a then b else a
structure RowStep (n via i:Nat) (M M' :Mt):Prop where
 sq:Sq n M'
 other:∀ i' k',i' ≠i→mg M' i' k' =mg M i' k'
 le:∀ k,mg M' i k≤mg M i k
 exact:(∀ i' k',i' ≤n→k' ≤n→-1000000000≤mg M i' k' ∧mg M i' k' ≤1000000000)→0≤mg M via via→∀ k,k≤n→mg M' i k=mn (mg M i k) (mg M i via+mg M via k)
structure Stage (n via:Nat) (M M' :Mt):Prop where
 sq:Sq n M'
 le:∀ i k,i≤n→mg M' i k≤mg M i k
 exact:(∀ i' k',i' ≤n→k' ≤n→-1000000≤mg M i' k' ∧mg M i' k' ≤1000000)→0≤mg M via via→∀ i k,i≤n→k≤n→mg M' i k=mn (mg M i k) (mg M i via+mg M via k)
def PM (n:Nat) (M:Mt) (p:Nat→Int):Prop:=∀ i k,i≤n→k≤n→p k - p i≤mg M i k
structure Clo (n:Nat) (M M' :Mt) (r:Bool):Prop where
 sq:Sq n M'
 le:∀ i k,i≤n→mg M' i k≤mg M i k
 pot:∀ p,PM n M p→r=true∧PM n M' p
 tri:r=true→(∀ i,i≤n→0≤mg M' i i)∧∀ i j k,i≤n→j≤n→k≤n→mg M' i k≤mg M' i j+mg M' j k
end Go.Proofs.YtafhljljfglfeaaGreatDoor
namespace Go.Proofs.YtafhljljfglfeaaGreatDoor
open Go Go.Fx Go.Proofs
def law_TicketUses (a0:TicketBook) (a1:Int):Option Bool:=
 (B_OwnTicket a0).bind fun r19=>
 (law_ticketUses r19 a0 a1).bind fun r45=>
 bif r45 then ((B_KeptTicket r19 a0).bind fun r50=>
 bif r50 then ((law_punched).bind fun r55=>
 some r55)
 else (some false))
 else (some false)
set_option maxRecDepth 100000 in
theorem law_TicketUses_ok {a0:TicketBook}{a1:Int}{A1:Option Addr}{c2:Nat}{A4:Option Addr}{c5:Nat}{A7:Option Addr}{c8:Nat}{A10:Option Addr}{c11:Nat}{w:World}{r:Bool} (H:law_TicketUses a0 a1=some r) (h3:(rd eTallyCount 7 A1 c2 a0.Tally.Counts).ok w) (h6:(rd eTicketSeason 2 A4 c5 a0.Tickets).ok w) (h9:(rd eTicketShow 3 A7 c8 a0.Shows).ok w) (h12:(rd eTicketBox 4 A10 c11 a0.Boxes).ok w) (hg13:(gW0).ok w) (hg14:(gW1).ok w) (hg15:(gW2).ok w):Calls Tryz.prog 4 #[AG (vB a0 A1 c2 A4 c5 A7 c8 A10 c11),I a1] w (RetV w (B r)):=by
 unfold law_TicketUses at H
 refine fn_of (n:=20) Tryz.func4 rfl rfl (lE rfl) ?_
 have S:=St.start w nF _ (cA h3 (cA h6 (cA h9 (cA h12 (cA hg13 (cA hg14 (cA hg15 nM)))))))
 refine c_seq<|reg<|p_boxA rfl S fun b16 w17 S18=>p_aB rfl<|wp_nil<|c_seq<|reg<|p_ldA ty29 sz29 (S18.atX (i:=0) rfl) rfl rfl ?_
 obtain ⟨r19,h20,H⟩:=bindS H
 refine p_cal (B_OwnTicket_ok h20 (S18.atP (i:=0) rfl) (S18.atP (i:=1) rfl) (S18.atP (i:=2) rfl) (S18.atP (i:=3) rfl)) fu6 rfl ?_
 rintro _ w21 ⟨A23,c24,A25,c26,A27,c28,A29,c30,rfl,k22,⟨o31,n32⟩,⟨o33,n34⟩,⟨o35,n36⟩,⟨o37,n38⟩,_⟩
 have S39:=S18.callN k22 [rd eTallyCount 7 A23 c24 r19.Tally.Counts,rd eTicketSeason 2 A25 c26 r19.Tickets,rd eTicketShow 3 A27 c28 r19.Shows,rd eTicketBox 4 A29 c30 r19.Boxes] (cA ⟨o31,New.inL n32⟩ (cA ⟨o33,New.inL n34⟩ (cA ⟨o35,New.inL n36⟩ (cA ⟨o37,New.inL n38⟩ nM))))
 refine p_allA in29 S39 fun b40 w41 S42=>?_
 refine p_stP (pre:=[]) (old:=[I 0,I 0,SL none 0 0,I 0,SL none 0 0,SL none 0 0,SL none 0 0]) (post:=[]) (vs:=(vB r19 A23 c24 A25 c26 A27 c28 A29 c30)) sz29 S42 (i:=0) rfl rfl rfl rfl (rfl:_=AG (vB r19 A23 c24 A25 c26 A27 c28 A29 c30)) rfl rfl rfl rfl fun w43 S44=>?_
 refine wp_nil<|c_seq<|reg<|p_ldA ty29 sz29 (S44.atX (i:=0) rfl) rfl rfl<|p_ldA ty29 sz29 (S44.atX (i:=1) rfl) rfl rfl<|p_mI rfl ?_
 obtain ⟨r45,h46,H⟩:=bindS H
 refine p_cv (law_ticketUses_ok h46 (S44.atP (i:=0) rfl) (S44.atP (i:=1) rfl) (S44.atP (i:=2) rfl) (S44.atP (i:=3) rfl) (S44.atP (i:=4) rfl) (S44.atP (i:=5) rfl) (S44.atP (i:=6) rfl) (S44.atP (i:=7) rfl) (S44.atP (i:=8) rfl) (S44.atP (i:=9) rfl) (S44.atP (i:=10) rfl)) fu10 rfl S44 fun w47 S48=>p_mB rfl ?_
 rcases bE (r45) with c49 | c49
 ·replace H:=condT c49 H
  refine eB c49 ?_
  refine gT rfl rfl (p_ldA ty29 sz29 (S48.atX (i:=0) rfl) rfl rfl ?_)
  refine gT rfl rfl (p_ldA ty29 sz29 (S48.atX (i:=1) rfl) rfl rfl ?_)
  obtain ⟨r50,h51,H⟩:=bindS H
  refine gT rfl rfl (p_cv (B_KeptTicket_ok h51 (S48.atP (i:=0) rfl) (S48.atP (i:=1) rfl) (S48.atP (i:=2) rfl) (S48.atP (i:=3) rfl) (S48.atP (i:=4) rfl) (S48.atP (i:=5) rfl) (S48.atP (i:=6) rfl) (S48.atP (i:=7) rfl)) fu8 rfl S48 fun w52 S53=>?_)
  refine p_pkT rfl (rfl:_=B r50)<|p_mB rfl ?_
  rcases bE (r50) with c54 | c54
  ·replace H:=condT c54 H
   refine eB c54 ?_
   obtain ⟨r55,h56,H⟩:=bindS H
   refine gT rfl rfl (p_cv (law_punched_ok h56 (S53.atP (i:=8) rfl) (S53.atP (i:=9) rfl) (S53.atP (i:=10) rfl)) fu9 rfl S53 fun w57 S58=>?_)
   refine p_pkT rfl (rfl:_=B r55)<|p_aB rfl<|wp_nil ?_
   obtain rfl:=sJ H
   exact c_ret (rT Tryz.f4 S58.keep rfl rfl)
  ·replace H:=condF c54 H
   refine eB c54<|gF rfl rfl<|p_pkF rfl (rfl:_=B false)<|p_aB rfl<|wp_nil ?_
   obtain rfl:=sJ H
   exact c_ret (rT Tryz.f4 S53.keep rfl rfl)
 ·replace H:=condF c49 H
  refine eB c49<|gF rfl rfl<|gF rfl rfl<|gF rfl rfl<|p_pkF rfl (rfl:_=B false)<|p_mB rfl<|gF rfl rfl<|p_pkF rfl (rfl:_=B false)<|p_aB rfl<|wp_nil ?_
  obtain rfl:=sJ H
  exact c_ret (rT Tryz.f4 S48.keep rfl rfl)
end Go.Proofs.YtafhljljfglfeaaGreatDoor
namespace Go.Proofs.YtafhljljfglfeaaGreatDoor
open Go Go.Fx
theorem lst_mem {n:Nat}{p:Nat→Prop}{l:List Int} (h:Lst n p l) (hn:n≤3) {S:Nat} (hS:∀ k:Nat,k < 3→(S.testBit k=true↔k < n∧p k)):l=memL S 3:=by
 refine pair_ext h.clm.pair (memL_clm S 3).pair fun x=>?_
 constructor
 ·intro hx
  obtain ⟨i,hi,rfl⟩:=List.getElem_of_mem hx
  have b:=h.clm i _ (List.getElem?_eq_getElem hi)
  obtain ⟨k,hk⟩:=Int.eq_ofNat_of_zero_le b.1
  rw [hk] at hx b ⊢
  have:=(h.mem k).1 hx
  exact mem_memL.2 ⟨k,rfl,by omega,(hS k (by omega)).2 this⟩
 ·intro hx
  obtain ⟨k,rfl,hk,hb⟩:=mem_memL.1 hx
  exact (h.mem k).2 ((hS k hk).1 hb)
theorem seven {k:Nat}:(7:Nat).testBit k=true↔k < 3:=by
 have:(7:Nat)=2 ^ 3 - 1:=rfl
 rw [this,Nat.testBit_two_pow_sub_one,decide_eq_true_iff]
theorem members3 {s:Nat}:B_Members (s:Int) 3=some (memL s 3):=members_nat s (n:=3) (by omega)
theorem got_used {b:TicketBook} (V:VT b) {t:Ref10_truth} (G:GoT b 0 [] [] t) {d:Nat} (hd:(d:Int) < b.Tally.Trips):∃ s:Nat,getI t.used_ (d:Int)=some (s:Int)∧s < 8∧t.used_.getD d 0=s:=by
 have gu:=G.ul
 obtain ⟨n,s,e1,e2,h1,h2,h3⟩:=G.ok d (Nat.zero_le _) hd
 refine ⟨s,?_,h2,e2⟩
 have hl:=List.getElem?_eq_getElem (show d < t.used_.length by omega)
 rw [List.getD_eq_getElem?_getD,hl] at e2
 rw [getI_nat,hl]
 exact congrArg some e2
theorem must_sameT (b:TicketBook) (A:ArgT b) (d:Int):∃ l e,ticket_Must b d=some (l,e)∧ref10_Must b d=some (l,e)∧l.length≤1000:=by
 have i1:∃ o,ticket_isTrip b d=some o:=⟨_,by unfold ticket_isTrip; rw [withinT_eq]; rfl⟩
 have i2:∃ o,ref10_isTrip b d=some o:=⟨_,by unfold ref10_isTrip; rw [inside_eq]; rfl⟩
 cases hv:valT b with
 | false=>
   obtain ⟨o,ho⟩:=i1
   obtain ⟨p,hp⟩:=i2
   obtain ⟨x,hx⟩:=asked_badT A hv o
   refine ⟨[],100,?_,?_,by simp⟩
   ·unfold ticket_Must ticket_used; rw [ho,Option.bind_some,hx]; rfl
   ·unfold ref10_Must; rw [hp,Option.bind_some,rasked_badT A hv]; rfl
 | true=>
   have V:=valT_iff.1 hv
   have t1:=V.ta.t1; have tn:=V.tn
   cases hi:inB d 0 (b.Tally.Trips - 1) with
   | false=>
     obtain ⟨x,hx⟩:=askedF V
     refine ⟨[],101,?_,?_,by simp⟩
     ·unfold ticket_Must ticket_used; rw [isTrip_eq b t1 V.ta.t8,Option.bind_some,hi,hx]; rfl
     ·unfold ref10_Must; rw [rtripT b t1 V.ta.t8,Option.bind_some,hi,rasked_noT V]; rfl
   | true=>
     have hd:=trip_iff.1 hi
     obtain ⟨d,rfl⟩:=Int.eq_ofNat_of_zero_le hd.1
     obtain ⟨l,e,hp,hc⟩:=must_law V hd.2
     obtain ⟨L,e',ha,hc'⟩:=raskedT V
     refine ⟨l,e,hp,?_,?_⟩
     rotate_left
     ·rcases hc with ⟨_,_,M⟩ | ⟨_,rfl,_⟩
      ·have:=M.clm.len (by omega); omega
      ·simp
     unfold ref10_Must
     rw [rtripT b t1 V.ta.t8,Option.bind_some,hi,ha,Option.bind_some]
     rcases hc with ⟨rfl,C,M⟩ | ⟨rfl,rfl,C⟩
     ·rcases hc' with ⟨rfl,_,hn,T⟩ | ⟨_,_,C'⟩
      rotate_left
      ·exact absurd C C'
      simp only [bne_self_eq_false,cond_false]
      obtain ⟨r,hr,S,rfl,hS⟩:∃ r,loopF (ref10_Must_l3 (L,0) (d:Int)) big (7,0)=some r∧∃ S:Nat,r=(memL S 3,0)∧∀ k:Nat,k < 3→(S.testBit k=true↔∀ t∈L,(t.used_.getD d 0).toNat.testBit k=true):=by
       refine loopF_inv (body:=ref10_Must_l3 (L,0) (d:Int)) (fun z:Int×Int=>∃ j S:Nat,z=((S:Int),(j:Int))∧j≤L.length∧S < 8∧∀ k:Nat,k < 3→(S.testBit k=true↔∀ t∈L.take j,(t.used_.getD d 0).toNat.testBit k=true)) (fun z=>L.length - z.2.toNat) (fun r=>∃ S:Nat,r=(memL S 3,0)∧∀ k:Nat,k < 3→(S.testBit k=true↔∀ t∈L,(t.used_.getD d 0).toNat.testBit k=true)) ?_ big (7,0) ⟨0,7,rfl,Nat.zero_le _,by decide,fun k hk=>⟨fun _ t ht=>by simp at ht,fun _=>seven.2 hk⟩⟩ (by unfold big; simp; have:=T.1; omega)
       rintro rec z ⟨j,S,rfl,hj,h8,hS⟩ ih
       have hT:=T.1
       unfold ref10_Must_l3
       simp only
       by_cases h:j < L.length
       ·obtain ⟨_,G⟩:=(T.2 _).1 (List.getElem_mem h)
        obtain ⟨s,g1,g2,g3⟩:=got_used V G hd.2
        rw [decide_eq_true (by omega),cond_true,getI_nat,List.getElem?_eq_getElem h,Option.bind_some,g1,Option.bind_some,and_nat h8 g2,wrI (x:=(j:Int)+1) (by omega) (by omega)]
        refine ih _ ⟨j+1,S &&& s,by simp,h,Nat.lt_of_le_of_lt Nat.and_le_left h8,fun k hk=>?_⟩ (by (try simp only); omega)
        rw [Nat.testBit_and,Bool.and_eq_true,hS k hk,List.take_succ_eq_append_getElem h]
        constructor
        ·rintro ⟨h1,h2⟩ t ht
         rcases List.mem_append.1 ht with ht | ht
         ·exact h1 t ht
         ·rw [List.mem_singleton.1 ht,g3]; exact h2
        ·intro h1
         refine ⟨fun t ht=>h1 t (List.mem_append_left _ ht),?_⟩
         have:=h1 _ (List.mem_append_right _ (List.mem_singleton.2 rfl))
         rwa [g3] at this
       ·rw [decide_eq_false (by omega),cond_false,members3,Option.bind_some]
        refine ⟨_,rfl,S,rfl,fun k hk=>?_⟩
        rw [hS k hk,List.take_of_length_le (by omega)]
      rw [hr,lst_mem M (by omega) (S:=S) fun k hk=>?_]
      rw [hS k hk]
      constructor
      ·intro h
       obtain ⟨t0,l0,hL⟩:=List.exists_cons_of_ne_nil hn
       have h0:=h t0 (by rw [hL]; exact List.mem_cons_self ..)
       obtain ⟨hc0,G0⟩:=(T.2 t0).1 (by rw [hL]; exact List.mem_cons_self ..)
       obtain ⟨ht0,hS0⟩:=got_tr V hc0 G0
       refine ⟨?_,fun x hx=>?_⟩
       ·have:=ht0.us d hd.2 k (by rw [← (hS0 d).2]; exact h0)
        obtain ⟨y,hy,_⟩:=this
        exact (List.getElem?_eq_some_iff.1 hy).1
       ·obtain ⟨hc1,t,G,hSx⟩:=tr_got V hx
        have:=h t ((T.2 t).2 ⟨hc1,G⟩)
        unfold usedB
        rw [← (hSx d).2]; exact this
      ·rintro ⟨_,h⟩ t ht
       obtain ⟨hc0,G0⟩:=(T.2 t).1 ht
       obtain ⟨ht0,hS0⟩:=got_tr V hc0 G0
       have:=h _ ht0
       unfold usedB at this
       rw [← (hS0 d).2] at this; exact this
     ·rcases hc' with ⟨_,C',_⟩ | ⟨rfl,rfl,_⟩
      ·exact absurd C' C
      rfl
theorem may_sameT (b:TicketBook) (A:ArgT b) (d:Int):∃ l e,ticket_May b d=some (l,e)∧ref10_May b d=some (l,e)∧l.length≤1000:=by
 have i1:∃ o,ticket_isTrip b d=some o:=⟨_,by unfold ticket_isTrip; rw [withinT_eq]; rfl⟩
 have i2:∃ o,ref10_isTrip b d=some o:=⟨_,by unfold ref10_isTrip; rw [inside_eq]; rfl⟩
 cases hv:valT b with
 | false=>
   obtain ⟨o,ho⟩:=i1
   obtain ⟨p,hp⟩:=i2
   obtain ⟨x,hx⟩:=asked_badT A hv o
   refine ⟨[],100,?_,?_,by simp⟩
   ·unfold ticket_May ticket_used; rw [ho,Option.bind_some,hx]; rfl
   ·unfold ref10_May; rw [hp,Option.bind_some,rasked_badT A hv]; rfl
 | true=>
   have V:=valT_iff.1 hv
   have t1:=V.ta.t1; have tn:=V.tn
   cases hi:inB d 0 (b.Tally.Trips - 1) with
   | false=>
     obtain ⟨x,hx⟩:=askedF V
     refine ⟨[],101,?_,?_,by simp⟩
     ·unfold ticket_May ticket_used; rw [isTrip_eq b t1 V.ta.t8,Option.bind_some,hi,hx]; rfl
     ·unfold ref10_May; rw [rtripT b t1 V.ta.t8,Option.bind_some,hi,rasked_noT V]; rfl
   | true=>
     have hd:=trip_iff.1 hi
     obtain ⟨d,rfl⟩:=Int.eq_ofNat_of_zero_le hd.1
     obtain ⟨l,e,hp,hc⟩:=may_law V hd.2
     obtain ⟨L,e',ha,hc'⟩:=raskedT V
     refine ⟨l,e,hp,?_,?_⟩
     rotate_left
     ·rcases hc with ⟨_,_,M⟩ | ⟨_,rfl,_⟩
      ·have:=M.clm.len (by omega); omega
      ·simp
     unfold ref10_May
     rw [rtripT b t1 V.ta.t8,Option.bind_some,hi,ha,Option.bind_some]
     rcases hc with ⟨rfl,C,M⟩ | ⟨rfl,rfl,C⟩
     ·rcases hc' with ⟨rfl,_,hn,T⟩ | ⟨_,_,C'⟩
      rotate_left
      ·exact absurd C C'
      simp only [bne_self_eq_false,cond_false]
      obtain ⟨r,hr,S,rfl,hS⟩:∃ r,loopF (ref10_May_l3 (L,0) (d:Int)) big (0,0)=some r∧∃ S:Nat,r=(memL S 3,0)∧∀ k:Nat,k < 3→(S.testBit k=true↔∃ t∈L,(t.used_.getD d 0).toNat.testBit k=true):=by
       refine loopF_inv (body:=ref10_May_l3 (L,0) (d:Int)) (fun z:Int×Int=>∃ j S:Nat,z=((S:Int),(j:Int))∧j≤L.length∧S < 8∧∀ k:Nat,k < 3→(S.testBit k=true↔∃ t∈L.take j,(t.used_.getD d 0).toNat.testBit k=true)) (fun z=>L.length - z.2.toNat) (fun r=>∃ S:Nat,r=(memL S 3,0)∧∀ k:Nat,k < 3→(S.testBit k=true↔∃ t∈L,(t.used_.getD d 0).toNat.testBit k=true)) ?_ big (0,0) ⟨0,0,rfl,Nat.zero_le _,by decide,fun k hk=>by simp⟩ (by unfold big; simp; have:=T.1; omega)
       rintro rec z ⟨j,S,rfl,hj,h8,hS⟩ ih
       have hT:=T.1
       unfold ref10_May_l3
       simp only
       by_cases h:j < L.length
       ·obtain ⟨_,G⟩:=(T.2 _).1 (List.getElem_mem h)
        obtain ⟨s,g1,g2,g3⟩:=got_used V G hd.2
        rw [decide_eq_true (by omega),cond_true,getI_nat,List.getElem?_eq_getElem h,Option.bind_some,g1,Option.bind_some,or_nat S s (by omega) (by omega),wrI (x:=(j:Int)+1) (by omega) (by omega)]
        refine ih _ ⟨j+1,S ||| s,by simp,h,Nat.or_lt_two_pow (n:=3) h8 g2,fun k hk=>?_⟩ (by (try simp only); omega)
        rw [Nat.testBit_or,Bool.or_eq_true,hS k hk,List.take_succ_eq_append_getElem h]
        constructor
        ·rintro (⟨t,ht,h1⟩ | h2)
         ·exact ⟨t,List.mem_append_left _ ht,h1⟩
         ·exact ⟨_,List.mem_append_right _ (List.mem_singleton.2 rfl),by rw [g3]; exact h2⟩
        ·rintro ⟨t,ht,h1⟩
         rcases List.mem_append.1 ht with ht | ht
         ·exact .inl ⟨t,ht,h1⟩
         ·rw [List.mem_singleton.1 ht,g3] at h1; exact .inr h1
       ·rw [decide_eq_false (by omega),cond_false,members3,Option.bind_some]
        refine ⟨_,rfl,S,rfl,fun k hk=>?_⟩
        rw [hS k hk,List.take_of_length_le (by omega)]
      rw [hr,lst_mem M (by omega) (S:=S) fun k hk=>?_]
      rw [hS k hk]
      constructor
      ·rintro ⟨t,ht,h⟩
       obtain ⟨hc0,G0⟩:=(T.2 t).1 ht
       obtain ⟨ht0,hS0⟩:=got_tr V hc0 G0
       have h' :usedB (toT t) k d=true:=by
        unfold usedB
        rw [← (hS0 d).2]; exact h
       refine ⟨?_,_,ht0,h'⟩
       obtain ⟨y,hy,_⟩:=ht0.us d hd.2 k h'
       exact (List.getElem?_eq_some_iff.1 hy).1
      ·rintro ⟨_,x,hx,h⟩
       obtain ⟨hc1,t,G,hSx⟩:=tr_got V hx
       refine ⟨t,(T.2 t).2 ⟨hc1,G⟩,?_⟩
       unfold usedB at h
       rw [(hSx d).2]; exact h
     ·rcases hc' with ⟨_,C',_⟩ | ⟨rfl,rfl,_⟩
      ·exact absurd C' C
      rfl
theorem clash_sameT (b:TicketBook) (A:ArgT b):∃ r,ticket_Clash b=some r∧ref10_Clash b=some r:=by
 cases hv:valT b with
 | false=>
   refine ⟨(0,0,100),?_,?_⟩
   ·unfold ticket_Clash; rw [checkT_eq b A,hv]; rfl
   ·unfold ref10_Clash; rw [rcheckT_eq b A,hv]; rfl
 | true=>
   have V:=valT_iff.1 hv
   have sn:=V.sn
   obtain ⟨⟨f,s,e⟩,h1,hP⟩:=clash_law V
   obtain ⟨⟨f',s'⟩,h2,hR⟩:=rclashes (b:=b) (by omega)
   refine ⟨(f,s,e),h1,?_⟩
   unfold ref10_Clash
   rw [rcheckT_ok V,Option.bind_some]
   simp only [bne_self_eq_false,cond_false]
   rw [h2,Option.bind_some]
   rcases hP with ⟨e0,i,k,x,y,g1,g2,g3,g4,g5,g6,g7⟩ | ⟨e0,g1,g2,hno⟩
   ·simp only at e0 g1 g2
    subst e0; subst g1; subst g2
    rcases hR with ⟨i',k',x',y',q1,q2,q3,q4,q5,q6,q7⟩ | ⟨q1,hno⟩
    ·simp only at q1 q2
     subst q1; subst q2
     have no:∀ {i k:Nat}{x y:TicketShow},NoC b.Shows i k→b.Shows[i]? =some x→b.Shows[k]? =some y→clashN x y=true→False:=fun h hx hy hc=>by
      have:=h _ _ hx hy
      rw [hc] at this; cases this
     have e1:i' =i:=by
      rcases Nat.lt_trichotomy i' i with h | h | h
      ·exact (no (g7 i' k' q3 (.inl h)) q4 q5 q6).elim
      ·exact h
      ·exact (no (q7 i k g3 (.inl h)) g4 g5 g6).elim
     subst e1
     have e2:k' =k:=by
      rcases Nat.lt_trichotomy k' k with h | h | h
      ·exact (no (g7 i' k' q3 (.inr ⟨rfl,h⟩)) q4 q5 q6).elim
      ·exact h
      ·exact (no (q7 i' k g3 (.inr ⟨rfl,h⟩)) g4 g5 g6).elim
     subst e2
     rw [decide_eq_false (by simp only; omega),cond_false]
    ·have:=hno i k g3 x y g4 g5
     rw [g6] at this; cases this
   ·simp only at e0 g1 g2
    subst e0; subst g1; subst g2
    rcases hR with ⟨i',k',x',y',q1,q2,q3,q4,q5,q6,q7⟩ | ⟨q1,_⟩
    ·have:=hno i' k' q3 x' y' q4 q5
     rw [q6] at this; cases this
    ·simp only at q1
     subst q1
     rw [decide_eq_true (by simp only; omega),cond_true]
def LentP (b:TicketBook) (n:Nat):Prop:=∃ x∈b.Shows,∃ y∈b.Shows,x.Ticket=n∧y.Ticket=n∧x.Walker≠y.Walker
theorem lent_law {b:TicketBook} (V:VT b):∃ l e,ticket_Lent b=some (l,e)∧((e=0∧Can b∧Lst b.Tickets.length (LentP b) l)∨(e=102∧l=[]∧¬Can b)):=by
 have tn:=V.tn; have sn:=V.sn
 obtain ⟨e,he,hc⟩:=askedT V
 unfold ticket_Lent
 rw [he,Option.bind_some]
 rcases hc with ⟨rfl,C⟩ | ⟨rfl,C⟩
 ·obtain ⟨l,hl,L⟩:=lst_loop (body:=ticket_Lent_l43 b) b.Tickets.length (by omega) (LentP b) (fun rec l k hk hl=>by
   unfold ticket_Lent_l43
   simp only
   rw [decide_eq_true (by omega),cond_true]
   obtain ⟨r,h1,h2⟩:=loopF_cps (body:=ticket_Lent_l42 b (l,(k:Int)) rec) (fun z:List Int×Int=>∃ j:Nat,z.2=j∧j≤b.Shows.length∧z.1.length≤j∧z.1.Nodup∧∀ v,v∈z.1↔∃ x∈b.Shows.take j,x.Ticket=k∧x.Walker=v) (fun z=>b.Shows.length - z.2.toNat) (fun r:Bool=>rec (bif r then l++[(k:Int)] else l,((k+1:Nat):Int))) (fun r=>r=true↔LentP b k) (fun rec2 z hz ih=>by
    obtain ⟨ws,j'⟩:=z
    obtain ⟨j,e1,hj,hlen,hnd,hm⟩:=hz
    simp only at e1 hlen hnd hm
    subst e1
    unfold ticket_Lent_l42
    simp only
    by_cases h:j < b.Shows.length
    ·have hx:=List.getElem?_eq_getElem h
     have hT:=List.take_succ_eq_append_getElem h
     rw [decide_eq_true (by omega),cond_true,getI_nat,hx,Option.bind_some]
     generalize b.Shows[j]=x at hx hT
     have mem:∀ v,(∃ y∈b.Shows.take (j+1),y.Ticket=k∧y.Walker=v)↔(∃ y∈b.Shows.take j,y.Ticket=k∧y.Walker=v)∨(x.Ticket=k∧x.Walker=v):=fun v=>by
      rw [hT]
      constructor
      ·rintro ⟨y,hy,h⟩
       rcases List.mem_append.1 hy with hy | hy
       ·exact .inl ⟨y,hy,h⟩
       ·rw [List.mem_singleton.1 hy] at h; exact .inr h
      ·rintro (⟨y,hy,h⟩ | h)
       ·exact ⟨y,List.mem_append_left _ hy,h⟩
       ·exact ⟨x,List.mem_append_right _ (List.mem_singleton.2 rfl),h⟩
     have skip:(¬(x.Ticket=k)∨x.Walker∈ws)→∃ r,ticket_Lent_j41 (ws,(j:Int)) x rec2 false=rec (bif r then l++[(k:Int)] else l,((k+1:Nat):Int))∧(r=true↔LentP b k):=fun hs=>by
      unfold ticket_Lent_j41
      simp only
      rw [cond_false,wrI (x:=(j:Int)+1) (by omega) (by omega)]
      refine ih _ ⟨j+1,by simp,h,by simp only; omega,hnd,fun v=>?_⟩ (by (try simp only); omega)
      rw [mem v,hm v]
      refine ⟨.inl,fun h=>h.elim id fun ⟨h1,h2⟩=>?_⟩
      rcases hs with hs | hs
      ·exact absurd h1 hs
      ·exact (hm v).1 (h2▸hs)
     by_cases ht:x.Ticket=k
     ·rw [show (x.Ticket==(k:Int))=true by simpa using ht,cond_true,has_int ws _ (by omega),Option.bind_some]
      by_cases hw:x.Walker∈ws
      ·rw [decide_eq_true hw]
       exact skip (.inr hw)
      ·rw [decide_eq_false hw]
       unfold ticket_Lent_j41
       simp only
       rw [Bool.not_false,cond_true,need_of (fits_small (by simp; omega) (by omega)),wrI (x:=(j:Int)+1) (by omega) (by omega)]
       refine ih _ ⟨j+1,by simp,h,by simp; omega,?_,fun v=>?_⟩ (by (try simp only); omega)
       ·rw [List.nodup_append]
        exact ⟨hnd,by simp,fun a ha c hc he=>by
         rw [List.mem_singleton] at hc
         exact hw (hc▸he▸ha)⟩
       ·rw [List.mem_append,hm v,mem v,List.mem_singleton]
        exact or_congr Iff.rfl ⟨fun h=>⟨ht,h.symm⟩,fun h=>h.2.symm⟩
     ·rw [show (x.Ticket==(k:Int))=false by simpa using ht,cond_false]
      exact skip (.inl ht)
    ·have hjn:j=b.Shows.length:=by omega
     subst hjn
     rw [List.take_length] at hm
     rw [decide_eq_false (by omega),cond_false,wrI (x:=(k:Int)+1) (by omega) (by omega),show (k:Int)+1=((k+1:Nat):Int) by omega]
     have iff:(ws.length:Int) > 1↔LentP b k:=by
      constructor
      ·intro hl
       match ws,hl,hnd,hm with
       | a::c::r,_,hnd,hm=>
         obtain ⟨x,hx,x1,x2⟩:=(hm a).1 (by simp)
         obtain ⟨y,hy,y1,y2⟩:=(hm c).1 (by simp)
         refine ⟨x,hx,y,hy,x1,y1,fun he=>?_⟩
         have:=(List.nodup_cons.1 hnd).1
         rw [x2,y2] at he
         exact this (by rw [he]; simp)
      ·rintro ⟨x,hx,y,hy,x1,y1,hne⟩
       have m1:=(hm x.Walker).2 ⟨x,hx,x1,rfl⟩
       have m2:=(hm y.Walker).2 ⟨y,hy,y1,rfl⟩
       match ws,m1,m2 with
       | [a],m1,m2=>
         rw [List.mem_singleton] at m1 m2
         exact absurd (m1.trans m2.symm) hne
       | a::c::r,_,_=>simp; omega
     by_cases hl1:(ws.length:Int) > 1
     ·rw [decide_eq_true hl1,cond_true,need_of (fits_small (by simp; omega) (by omega))]
      exact ⟨true,rfl,by simp only [true_iff]; exact iff.1 hl1⟩
     ·rw [decide_eq_false hl1,cond_false]
      exact ⟨false,rfl,by simp only [Bool.false_eq_true,false_iff]; exact fun h=>hl1 (iff.2 h)⟩) big ([],0) ⟨0,rfl,Nat.zero_le _,Nat.le_refl _,List.nodup_nil,fun v=>by simp⟩ (by unfold big; simp; omega)
   exact ⟨r,h2,h1⟩) (fun rec l=>by
   unfold ticket_Lent_l43
   simp only
   rw [decide_eq_false (by omega),cond_false])
  refine ⟨l,0,?_,.inl ⟨rfl,C,L⟩⟩
  simp only [bne_self_eq_false,cond_false]
  exact hl
 ·exact ⟨[],102,rfl,.inr ⟨rfl,rfl,C⟩⟩
theorem lent_sameT (b:TicketBook) (A:ArgT b):∃ l e,ticket_Lent b=some (l,e)∧ref10_Lent b=some (l,e)∧l.length≤1000:=by
 cases hv:valT b with
 | false=>
   obtain ⟨x,hx⟩:=asked_badT A hv true
   refine ⟨[],100,?_,?_,by simp⟩
   ·unfold ticket_Lent; rw [hx]; rfl
   ·unfold ref10_Lent; rw [rasked_badT A hv]; rfl
 | true=>
   have V:=valT_iff.1 hv
   have tn:=V.tn; have sn:=V.sn
   obtain ⟨l,e,hp,hc⟩:=lent_law V
   obtain ⟨L,e',ha,hc'⟩:=raskedT V
   refine ⟨l,e,hp,?_,?_⟩
   rotate_left
   ·rcases hc with ⟨_,_,M⟩ | ⟨_,rfl,_⟩
    ·have:=M.clm.len (by omega); omega
    ·simp
   unfold ref10_Lent
   rw [ha,Option.bind_some]
   rcases hc with ⟨rfl,C,M⟩ | ⟨rfl,rfl,C⟩
   ·rcases hc' with ⟨rfl,_,hn,T⟩ | ⟨_,_,C'⟩
    rotate_left
    ·exact absurd C C'
    simp only [bne_self_eq_false,cond_false]
    have bound:∀ n:Nat,LentP b n→n < b.Tickets.length:=fun n ⟨x,hx,_,_,h,_⟩=>by
     have:=(V.sh x hx).nm; omega
    obtain ⟨r,hr,S,rfl,hS⟩:∃ r,loopF (ref10_Lent_l39 b) big (0,0)=some r∧∃ S:Nat,r=(memL S 3,0)∧∀ k:Nat,(S.testBit k=true↔LentP b k):=by
     refine loopF_inv (body:=ref10_Lent_l39 b) (fun z:Int×Int=>∃ i S:Nat,z=((S:Int),(i:Int))∧i≤b.Shows.length∧S < 8∧∀ k:Nat,(S.testBit k=true↔∃ x∈b.Shows.take i,∃ y∈b.Shows,x.Ticket=k∧y.Ticket=k∧x.Walker≠y.Walker)) (fun z=>b.Shows.length - z.2.toNat) (fun r=>∃ S:Nat,r=(memL S 3,0)∧∀ k:Nat,(S.testBit k=true↔LentP b k)) ?_ big (0,0) ⟨0,0,rfl,Nat.zero_le _,by decide,fun k=>by simp⟩ (by unfold big; simp; omega)
     rintro rec z ⟨i,S,rfl,hi,h8,hS⟩ ih
     unfold ref10_Lent_l39
     simp only
     by_cases h:i < b.Shows.length
     ·have hx:=List.getElem?_eq_getElem h
      have hxm:=List.getElem_mem h
      have hT:=List.take_succ_eq_append_getElem h
      rw [decide_eq_true (by omega),cond_true]
      generalize hxe:b.Shows[i]=x at hx hT hxm
      have Sx:=V.sh x hxm
      have n0:=Sx.n0; have nm:=Sx.nm
      refine loopF_inv (body:=ref10_Lent_l38 b ((S:Int),(i:Int)) rec) (fun z:Int×Int=>∃ j R:Nat,z=((R:Int),(j:Int))∧j≤b.Shows.length∧R < 8∧∀ k:Nat,(R.testBit k=true↔S.testBit k=true∨∃ y∈b.Shows.take j,x.Ticket=k∧y.Ticket=k∧x.Walker≠y.Walker)) (fun z=>b.Shows.length - z.2.toNat) (fun r=>∃ S:Nat,r=(memL S 3,0)∧∀ k:Nat,(S.testBit k=true↔LentP b k)) ?_ big ((S:Int),0) ⟨0,S,rfl,Nat.zero_le _,h8,fun k=>by simp⟩ (by unfold big; simp; omega)
      rintro rec2 z ⟨j,R,rfl,hj,r8,hR⟩ ih2
      unfold ref10_Lent_l38
      simp only
      by_cases hjl:j < b.Shows.length
      ·have hy:=List.getElem?_eq_getElem hjl
       have hU:=List.take_succ_eq_append_getElem hjl
       rw [decide_eq_true (by omega),cond_true,getI_nat,getI_nat,hx,hy,Option.bind_some,Option.bind_some]
       generalize b.Shows[j]=y at hy hU
       have mem:∀ k:Nat,(∃ y' ∈b.Shows.take (j+1),x.Ticket=k∧y'.Ticket=k∧x.Walker≠y'.Walker)↔(∃ y' ∈b.Shows.take j,x.Ticket=k∧y'.Ticket=k∧x.Walker≠y'.Walker)∨(x.Ticket=k∧y.Ticket=k∧x.Walker≠y.Walker):=fun k=>by
        rw [hU]
        constructor
        ·rintro ⟨y',hy',h⟩
         rcases List.mem_append.1 hy' with hy' | hy'
         ·exact .inl ⟨y',hy',h⟩
         ·rw [List.mem_singleton.1 hy'] at h; exact .inr h
        ·rintro (⟨y',hy',h⟩ | h)
         ·exact ⟨y',List.mem_append_left _ hy',h⟩
         ·exact ⟨y,List.mem_append_right _ (List.mem_singleton.2 rfl),h⟩
       have skip:(¬(x.Ticket=y.Ticket∧x.Walker≠y.Walker))→∃ r,ref10_Lent_j37 x rec2 ((R:Int),(j:Int)) false=some r∧∃ S:Nat,r=(memL S 3,0)∧∀ k:Nat,(S.testBit k=true↔LentP b k):=fun hs=>by
        unfold ref10_Lent_j37
        simp only
        rw [cond_false,wrI (x:=(j:Int)+1) (by omega) (by omega)]
        refine ih2 _ ⟨j+1,R,by simp,hjl,r8,fun k=>?_⟩ (by (try simp only); omega)
        rw [hR k,mem k]
        refine or_congr Iff.rfl ⟨.inl,fun h=>h.elim id fun ⟨h1,h2,h3⟩=>?_⟩
        exact absurd ⟨h1.trans h2.symm,h3⟩ hs
       by_cases ht:x.Ticket=y.Ticket
       ·rw [show (x.Ticket==y.Ticket)=true by simpa using ht,cond_true]
        by_cases hw:x.Walker=y.Walker
        ·rw [show (x.Walker != y.Walker)=false by simp [hw]]
         exact skip (fun h=>h.2 hw)
        ·rw [show (x.Walker != y.Walker)=true by simpa using hw]
         obtain ⟨t,et⟩:=Int.eq_ofNat_of_zero_le n0
         obtain ⟨o1,o2⟩:=or_small r8 (show t < 3 by omega)
         unfold ref10_Lent_j37
         simp only
         rw [cond_true,need_of (decide_eq_true n0),et,o1,wrI (x:=(j:Int)+1) (by omega) (by omega)]
         refine ih2 _ ⟨j+1,R ||| 2 ^ t,by simp,hjl,o2,fun k=>?_⟩ (by (try simp only); omega)
         rw [or_bit,hR k,mem k,or_assoc]
         refine or_congr Iff.rfl (or_congr Iff.rfl ⟨fun h=>⟨by omega,by omega,hw⟩,fun h=>by omega⟩)
       ·rw [show (x.Ticket==y.Ticket)=false by simpa using ht,cond_false]
        exact skip (fun h=>ht h.1)
      ·rw [decide_eq_false (by omega),cond_false,wrI (x:=(i:Int)+1) (by omega) (by omega)]
       refine ih _ ⟨i+1,R,by simp,h,r8,fun k=>?_⟩ (by (try simp only); omega)
       have hjt:b.Shows.take j=b.Shows:=List.take_of_length_le (by omega)
       rw [hR k,hS k,hT,hjt]
       constructor
       ·rintro (⟨x',hx',h'⟩ | ⟨y,hy,h'⟩)
        ·exact ⟨x',List.mem_append_left _ hx',h'⟩
        ·exact ⟨x,List.mem_append_right _ (List.mem_singleton.2 rfl),y,hy,h'⟩
       ·rintro ⟨x',hx',h'⟩
        rcases List.mem_append.1 hx' with hx' | hx'
        ·exact .inl ⟨x',hx',h'⟩
        ·rw [List.mem_singleton.1 hx'] at h'; exact .inr h'
     ·rw [decide_eq_false (by omega),cond_false,members3,Option.bind_some]
      refine ⟨_,rfl,S,rfl,fun k=>?_⟩
      rw [hS k,List.take_of_length_le (by omega)]; rfl
    rw [hr,lst_mem M (by omega) (S:=S) fun k hk=>by rw [hS k]; exact ⟨fun h=>⟨bound k h,h⟩,fun h=>h.2⟩]
   ·rcases hc' with ⟨_,C',_⟩ | ⟨rfl,rfl,_⟩
    ·exact absurd C' C
    rfl
theorem law_ticketUses_t (b:TicketBook) (hc:b.Tally.Counts.length*56≤140737488355328) (ht:b.Tickets.length*16≤140737488355328) (hs:b.Shows.length*24≤140737488355328) (hx:b.Boxes.length*32≤140737488355328) (a:Int):law_TicketUses b a=some true:=by
 have A:ArgT b:=⟨by omega,by omega,by omega,by omega⟩
 have main:law_ticketUses b b a=some true:=by
  obtain ⟨l1,e1,h1,g1,n1⟩:=must_sameT b A a
  obtain ⟨l2,e2,h2,g2,n2⟩:=may_sameT b A a
  obtain ⟨r3,h3,g3⟩:=clash_sameT b A
  obtain ⟨l4,e4,h4,g4,n4⟩:=lent_sameT b A
  unfold law_ticketUses
  simp only [h1,g1,h2,g2,h3,g3,h4,g4,Option.bind_some,bne_self_eq_false,cond_false,beq_self_eq_true,alike_same l1 (by omega),alike_same l2 (by omega),alike_same l4 (by omega),Bool.not_true,cond_true]
 unfold law_TicketUses
 rw [ownT hc ht hs hx,Option.bind_some,main,Option.bind_some,cond_true,keptT b A (by omega) (by omega) (by omega) (by omega),Option.bind_some,cond_true,punched_t]
 rfl
end Go.Proofs.YtafhljljfglfeaaGreatDoor
set_option maxRecDepth 100000
namespace Go.Proofs.YtafhljljfglfeaaGreatDoor
open Go Go.Fx Go.Proofs Go.ChangeShapes Go.WideShapes Go.ChangeAt Go.RowKit
variable {H:Type}{enc:TypeId×Value→H}{w:World}{spare:Nat→Bool}{held:Bool}{r:Reach}{b0:Nat}{v:Value}{d:DataW H}{ps:List MemPlace}{P:Program}
theorem wt_cons {t:TypeId}{ts:List TypeId}{d:DataW H}{r:List (DataW H)} (h:(DataW.weightsEach P (t::ts) (d::r)).all (·≤reachBytes)=true):(d.weights P t).all (·≤reachBytes)=true∧(DataW.weightsEach P ts r).all (·≤reachBytes)=true:=by
 rw [DataW.weightsEach,List.all_append,Bool.and_eq_true] at h
 exact h
theorem wt_at:∀ {ts:List TypeId}{ds:List (DataW H)}{i:Nat}{t:TypeId}{d:DataW H},(DataW.weightsEach P ts ds).all (·≤reachBytes)=true→ts[i]? =some t→ds[i]? =some d→(d.weights P t).all (·≤reachBytes)=true
 | [],_,_,_,_,_,h1,_=>by simp at h1
 | _::_,[],_,_,_,_,_,h2=>by simp at h2
 | t::ts,d::ds,0,_,_,h,h1,h2=>by
   simp at h1 h2; subst h1 h2; exact (wt_cons h).1
 | t::ts,d::ds,i+1,_,_,h,h1,h2=>by
   simp at h1 h2; exact wt_at (wt_cons h).2 h1 h2
theorem slice_wt {t e:TypeId}{fuel n c:Nat}{cs:List Value}{A:Option Addr}{x:DataW H×List MemPlace} (ht:P.underlying t=some (.slice e)) (h:DataW.trod enc P w 0 spare held fuel t cs=some x) (hw:(x.1.weights P t).all (·≤reachBytes)=true)
 (hc:cs=[SL A n c]):n*P.bytesOf e≤reachBytes:=by
 rcases DataW.trod_slice ht h with ⟨rfl,_⟩ | ⟨a,len,cap,elems,rest,m,_,rfl,rfl,_,_,_,hel,_⟩
 ·injection hc with hc; injection hc with _ hc _; subst hc; simp
 ·injection hc with hc; injection hc with _ hc _; subst hc
  simp only [DataW.weights,ht,List.all_cons,Bool.and_eq_true,decide_eq_true_eq,List.length_map] at hw
  have h1:=hw.1
  have h2:len*P.bytesOf e≤(elems.length+rest.length)*P.bytesOf e:=Nat.mul_le_mul_right _ (by omega)
  omega
theorem wt_tally {x y:Int}{A:Option Addr}{n c fuel:Nat}{cs:List Value}{d:DataW H×List MemPlace} (hf:DataW.trod enc Tryz.prog w 0 spare held fuel 24 cs=some d) (hw:(d.1.weights Tryz.prog 24).all (·≤reachBytes)=true) (hc:cs=[I x,I y,SL A n c]):n*56≤reachBytes:=by
 obtain ⟨xs,m,_,hx,hl,hxs,hel⟩:=DataW.trod_struct u24 hf
 have hx1:d.1=.agg (xs.map (·.1)):=congrArg Prod.fst hx
 rw [hx1] at hw
 have fb:=f24b
 simp only [List.all_cons,List.all_nil,Bool.and_eq_true,beq_iff_eq,and_true] at fb
 obtain ⟨⟨o0,t0⟩,⟨o1,t1⟩,⟨o2,t2⟩⟩:=fb
 have e2:=hel 2 _ (get_bang (by rw [f24s]; decide))
 rw [f24s] at hxs
 rw [o2,t2,c22,List.getElem?_eq_getElem (by omega),hc] at e2
 have hw2:((xs[2]'(by omega)).1.weights Tryz.prog 22).all (·≤reachBytes)=true:=by
  simp only [DataW.weights,u24] at hw
  refine wt_at hw (i:=2) ?_ (by rw [List.getElem?_map,List.getElem?_eq_getElem (by omega)]; rfl)
  rw [List.getElem?_map,Array.getElem?_toList,get_bang (by rw [f24s]; decide),Option.map_some,t2]
 have:=slice_wt u22 e2 hw2 (A:=A) (n:=n) (c:=c) rfl
 rwa [show Tryz.prog.bytesOf 106=56 by kernel_rfl] at this
theorem wt_book {x y f:Int}{A1 A2 A3 A4:Option Addr}{n1 n2 n3 n4 c1 c2 c3' c4:Nat} (hd:DataW.Trod enc Tryz.prog w 0 spare held 29 (AG [I x,I y,SL A1 n1 c1,I f,SL A2 n2 c2,SL A3 n3 c3',SL A4 n4 c4]) d ps) (hw:(d.weights Tryz.prog 29).all (·≤reachBytes)=true):n1*56≤140737488355328∧n2*16≤140737488355328∧n3*24≤140737488355328∧n4*32≤140737488355328:=by
 obtain ⟨fuel,hf⟩:=hd
 obtain ⟨xs,m,_,hx,hl,hxs,hel⟩:=DataW.trod_struct u29 hf
 have hx1:d=.agg (xs.map (·.1)):=congrArg Prod.fst hx
 subst hx1
 have fb:=f29b
 simp only [List.all_cons,List.all_nil,Bool.and_eq_true,beq_iff_eq,and_true] at fb
 obtain ⟨⟨o0,t0⟩,⟨o1,t1⟩,⟨o2,t2⟩,⟨o3,t3⟩,⟨o4,t4⟩⟩:=fb
 have e0:=hel 0 _ (get_bang (by rw [f29s]; decide))
 have e2:=hel 2 _ (get_bang (by rw [f29s]; decide))
 have e3:=hel 3 _ (get_bang (by rw [f29s]; decide))
 have e4:=hel 4 _ (get_bang (by rw [f29s]; decide))
 rw [f29s] at hxs
 rw [o0,t0,c24,List.getElem?_eq_getElem (by omega)] at e0
 rw [o2,t2,c25,List.getElem?_eq_getElem (by omega)] at e2
 rw [o3,t3,c26,List.getElem?_eq_getElem (by omega)] at e3
 rw [o4,t4,c27,List.getElem?_eq_getElem (by omega)] at e4
 simp only [DataW.weights,u29] at hw
 have wi:∀ (i:Nat) (hi:i < xs.length) (t:Nat),i < (Tryz.prog.fieldsOf 29).size→(Tryz.prog.fieldsOf 29)[i]!.type=t→((xs[i]'hi).1.weights Tryz.prog t).all (·≤reachBytes)=true:=fun i hi t h1 h2=>by
  refine wt_at hw (i:=i) ?_ (by rw [List.getElem?_map,List.getElem?_eq_getElem hi]; rfl)
  rw [List.getElem?_map,Array.getElem?_toList,get_bang h1,Option.map_some,h2]
 have r1:=wt_tally e0 (wi 0 (by omega) 24 (by rw [f29s]; decide) t0) (x:=x) (y:=y) (A:=A1) (n:=n1) (c:=c1) rfl
 have r2:=slice_wt u25 e2 (wi 2 (by omega) 25 (by rw [f29s]; decide) t2) (A:=A2) (n:=n2) (c:=c2) rfl
 have r3:=slice_wt u26 e3 (wi 3 (by omega) 26 (by rw [f29s]; decide) t3) (A:=A3) (n:=n3) (c:=c3') rfl
 have r4:=slice_wt u27 e4 (wi 4 (by omega) 27 (by rw [f29s]; decide) t4) (A:=A4) (n:=n4) (c:=c4) rfl
 rw [show Tryz.prog.bytesOf 84=16 by kernel_rfl] at r2
 rw [show Tryz.prog.bytesOf 86=24 by kernel_rfl] at r3
 rw [show Tryz.prog.bytesOf 39=32 by kernel_rfl] at r4
 have h2:reachBytes≤140737488355328:=by decide
 omega
end Go.Proofs.YtafhljljfglfeaaGreatDoor
/- What the ranges over all truths come to. -/
import Derived.Test.YtafhljljfglfeaaDoorZGPSets
import Derived.KernelRfl
set_option linter.unusedVariables false
set_option linter.unusedSimpArgs false
namespace Go.Proofs.YtafhljljfglfeaaDoor
open Go Go.Fx
structure OpT (q:Ticket_book):Prop where
 ta:Val q.TicketBook.Tally
 t3:q.TicketBook.Tally.Trips≤3
 r5:q.TicketBook.Tally.Room≤5
 f1:1≤q.TicketBook.Fare
 f20:q.TicketBook.Fare≤20
 tn:q.TicketBook.Tickets.length≤3
 te:∀ x∈q.TicketBook.Tickets,Seas q.TicketBook.Tally.Trips x
 sn:q.TicketBook.Shows.length≤5
 bn:q.TicketBook.Boxes.length≤3
 bx:∀ x∈q.TicketBook.Boxes,Box q.TicketBook.Tally.Trips x
 s3:q.shown_.length=3
 sb:∀ d,0≤q.shown_.getD d 0∧q.shown_.getD d 0 < 8
def fitsN (fare:Int) (c u:List Int) (x:TicketBox):Bool:=inB (paidN c u x.From.toNat (x.To+1 - x.From).toNat*fare) x.Pence (x.Pence+x.Lost)
theorem mul_bd {r f:Int} (h1:-9≤r) (h2:r≤15) (f1:1≤f) (f20:f≤20):-180≤r*f∧r*f≤300:=by
 have a:r*f≤15*f:=Int.mul_le_mul_of_nonneg_right h2 (by omega)
 have b:-9*f≤r*f:=Int.mul_le_mul_of_nonneg_right h1 (by omega)
 omega
theorem fits_eq (q:Ticket_book) (f1:1≤q.TicketBook.Fare) (f20:q.TicketBook.Fare≤20) {c u:List Int} (h:Small c u) {T:Int} (T3:T≤3) {x:TicketBox} (hx:Box T x):ticket_book_fits q ⟨c,u⟩ x=some (fitsN q.TicketBook.Fare c u x):=by
 have h0:=hx.f0; have h1:=hx.ft; have h2:=hx.tT; have h3:=hx.p0; have h4:=hx.p4; have h5:=hx.l0; have h6:=hx.l4
 unfold ticket_book_fits
 rw [paid_eq h h0 h1 (by omega),Option.bind_some]
 have hp:=h.paid x.From.toNat (x.To+1 - x.From).toNat
 have hm:=mul_bd (r:=paidN c u x.From.toNat (x.To+1 - x.From).toNat) (by omega) (by omega) f1 f20
 rw [wrI (x:=_*_) (by omega) (by omega),wrI (x:=x.Pence+x.Lost) (by omega) (by omega),withinT_eq]
 rfl
def rightN (q:Ticket_book) (c u:List Int) (d:Nat):Bool:=q.TicketBook.Boxes.all fun x=>!(x.To==(d:Int))||fitsN q.TicketBook.Fare c u x
theorem rightT_eq (q:Ticket_book) (Q:OpT q) {c u:List Int} (h:Small c u) (d:Nat):ticket_book_right q ⟨c,u⟩ d=some (rightN q c u d):=by
 unfold ticket_book_right
 rw [has_box q.TicketBook.Boxes _ (fun x=>(x.To==(d:Int))&&!fitsN q.TicketBook.Fare c u x) (fun x hx=>?_) (by have:=Q.bn; omega),Option.bind_some]
 ·congr 1
  unfold rightN
  rw [Bool.eq_iff_iff,Bool.not_eq_true',List.any_eq_false,List.all_eq_true]
  refine forall_congr' fun x=>forall_congr' fun _=>?_
  cases (x.To==(d:Int)) <;> cases fitsN q.TicketBook.Fare c u x <;> simp
 ·unfold ticket_book_right_1
  cases hd:(x.To==(d:Int)) with
  | false=>rfl
  | true=>rw [cond_true,fits_eq q Q.f1 Q.f20 h Q.t3 (Q.bx x hx),Option.bind_some]; rfl
def validN (q:Ticket_book) (s d:Nat):Bool:=(List.range q.TicketBook.Tickets.length).all (fun k=>(q.TicketBook.Tickets[k]?).all fun x=>!s.testBit k||inB d x.From x.To)&&s / 2 ^ q.TicketBook.Tickets.length==0
theorem bitI (s k:Nat) (hk:k < 64):(andI (shrI (s:Int) (k:Int)) 1==1)=s.testBit k:=by
 have:=member_nat s k hk
 unfold B_Member at this
 rw [need_of (by simp)] at this
 exact Option.some.inj this
theorem valid_eq (q:Ticket_book) (Q:OpT q) (s d:Nat):ticket_book_valid q s d=some (validN q s d):=by
 have hn:=Q.tn
 unfold ticket_book_valid
 rw [loop_all (body:=ticket_book_valid_l2 q s d) q.TicketBook.Tickets.length (fun k=>(q.TicketBook.Tickets[k]?).all fun x=>!s.testBit k||inB d x.From x.To) (Rf:=some false) (Rt:=some (s / 2 ^ q.TicketBook.Tickets.length==0)) (fun rec k hk=>?_) (fun rec=>?_) (by rw [big_eq]; omega)]
 ·unfold validN
  generalize (List.range q.TicketBook.Tickets.length).all (fun k=>(q.TicketBook.Tickets[k]?).all fun x=>!s.testBit k||inB d x.From x.To)=A
  cases A <;> rfl
 ·unfold ticket_book_valid_l2
  rw [decide_eq_true (by omega),cond_true,getI_ix hk,Option.bind_some,need_of (by simp),bitI s k (by omega),List.getElem?_eq_getElem hk,withinT_eq,wrI (by omega) (by omega),show (k:Int)+1=((k+1:Nat):Int) by omega]
  simp only [Option.all_some]
  cases s.testBit k <;> cases inB (d:Int) q.TicketBook.Tickets[k].From q.TicketBook.Tickets[k].To <;> rfl
 ·unfold ticket_book_valid_l2
  rw [decide_eq_false (by omega),cond_false,need_of (by simp),shr_nat s _ (by omega)]
  congr 1
  rw [Bool.eq_iff_iff,beq_iff_eq,beq_iff_eq]
  omega
def okN (q:Ticket_book) (c u:List Int) (s d:Nat):Bool:=validN q s d&&(s &&& (q.shown_.getD d 0).toNat==(q.shown_.getD d 0).toNat)&&decide (popN s≤c.getD d 0)&&rightN q c u d
def usesL (q:Ticket_book):Nat→List Int→List Int→Nat→List Ticket_truth
 | 0,c,u,_=>[⟨c,u⟩]
 | r+1,c,u,d=>(List.range' 0 8).flatMap fun (s:Nat)=>bif okN q c (u.set d (s:Int)) s d then usesL q r c (u.set d (s:Int)) (d+1) else []
theorem Small.setU {c u:List Int} (h:Small c u) {d:Nat}{s:Nat} (hs:s < 8):Small c (u.set d (s:Int)):=by
 refine ⟨h.c3,by simp [h.u3],h.cb,fun i=>?_⟩
 have:=h.ub i
 rw [List.getD_eq_getElem?_getD] at this ⊢
 rw [List.getElem?_set]
 split
 ·split
  ·simp; omega
  ·simp
 ·exact this
theorem use_eq (q:Ticket_book) (Q:OpT q) {σ:Type} (yv:Ticket_truth→σ→Option (Bool×σ)):∀ (r:Nat) (c u:List Int) (d:Nat) (s:σ) (n:Nat),((d+r:Nat):Int)=q.TicketBook.Tally.Trips→r < n→Small c u→
 ticket_book_truths_1_1 n ⟨c,u⟩ d s q q yv=foldY yv (usesL q r c u d) s:=by
 have T3:=Q.t3
 intro r
 induction r with
 | zero=>
   intro c u d s n h1 h2 h3
   obtain ⟨n,rfl⟩:∃ m,n=m+1:=⟨n - 1,by omega⟩
   show ticket_book_truths_1_1_F _ ⟨c,u⟩ d s q q yv=foldY yv [⟨c,u⟩] s
   rw [foldY_one]
   unfold ticket_book_truths_1_1_F
   rw [show ((d:Int)==q.TicketBook.Tally.Trips)=true by rw [beq_iff_eq]; omega,cond_true]
   cases yv ⟨c,u⟩ s <;> rfl
 | succ r ih=>
   intro c u d s n h1 h2 h3
   obtain ⟨n,rfl⟩:∃ m,n=m+1:=⟨n - 1,by omega⟩
   show ticket_book_truths_1_1_F _ ⟨c,u⟩ d s q q yv=_
   unfold ticket_book_truths_1_1_F
   rw [show ((d:Int)==q.TicketBook.Tally.Trips)=false by rw [beq_eq_false_iff_ne]; omega,cond_false]
   have key:∀ (e k m:Nat) (U:List Int) (s:σ),k+e=8→e < m→U.length=3→(∀ x,U.set d x=u.set d x)→
    loopF (ticket_book_truths_1_1_l1 d q ⟨c,u⟩ q (fun x0 x1 x2=>ticket_book_truths_1_1 n x0 x1 x2 q q yv)) m ((k:Int),U,s)=foldY yv ((List.range' k e).flatMap fun (s:Nat)=>bif okN q c (u.set d (s:Int)) s d then usesL q r c (u.set d (s:Int)) (d+1) else []) s:=by
    intro e
    induction e with
    | zero=>
      intro k m U s h4 h5 h6 h7
      obtain ⟨m,rfl⟩:∃ q,m=q+1:=⟨m - 1,by omega⟩
      show ticket_book_truths_1_1_l1 d q ⟨c,u⟩ q _ _ ((k:Int),U,s)=_
      unfold ticket_book_truths_1_1_l1
      simp only
      rw [decide_eq_false (by omega),cond_false]
      rfl
    | succ e ih2=>
      intro k m U s h4 h5 h6 h7
      obtain ⟨m,rfl⟩:∃ q,m=q+1:=⟨m - 1,by omega⟩
      show ticket_book_truths_1_1_l1 d q ⟨c,u⟩ q _ (loopF _ m) ((k:Int),U,s)=_
      have ih3:=fun s=>ih2 (k+1) m (u.set d (k:Int)) s (by omega) (by omega) (by simp [h3.u3]) (fun x=>by simp)
      generalize loopF (ticket_book_truths_1_1_l1 d q ⟨c,u⟩ q (fun x0 x1 x2=>ticket_book_truths_1_1 n x0 x1 x2 q q yv)) m=rec at ih3
      rw [List.range'_succ,List.flatMap_cons,foldY_app]
      have w0:wr ((k:Int)+1)=((k+1:Nat):Int):=by rw [wrI (by omega) (by omega)]; omega
      have wd:wr ((d:Int)+1)=((d+1:Nat):Int):=by rw [wrI (by omega) (by omega)]; omega
      have hk:k < 8:=by omega
      have hS:=h3.setU (d:=d) hk
      have nd:need (inI (d:Int) 3)=fun x:Option (Bool×σ)=>x:=by funext x; exact need_of (by simp [inI]; omega)
      have hsh:((q.shown_.getD d 0).toNat:Int)=q.shown_.getD d 0:=by have:=Q.sb d; omega
      have hand:=and_nat hk (show (q.shown_.getD d 0).toNat < 8 by have:=Q.sb d; omega)
      rw [hsh] at hand
      unfold ticket_book_truths_1_1_l1
      simp only
      rw [decide_eq_true (by omega),cond_true]
      simp only [nd]
      rw [valid_eq q Q,Option.bind_some,w0,aset_eq h6,show ((d:Int)).toNat=d from rfl,h7,agetN,agetN,hand]
      unfold okN
      cases validN q k d with
      | false=>
        simp only [Bool.not_false,cond_true,Bool.false_and,cond_false]
        rw [ih3 s]; rfl
      | true=>
        simp only [Bool.not_true,cond_false,Bool.true_and]
        rw [show (((k &&& (q.shown_.getD d 0).toNat:Nat):Int) != q.shown_.getD d 0)=!(k &&& (q.shown_.getD d 0).toNat==(q.shown_.getD d 0).toNat) by
         rw [Bool.eq_iff_iff,bne_iff_ne,Bool.not_eq_true',beq_eq_false_iff_ne]; omega]
        cases (k &&& (q.shown_.getD d 0).toNat==(q.shown_.getD d 0).toNat) with
        | false=>
          simp only [Bool.not_false,cond_true,Bool.false_and,cond_false]
          rw [ih3 s]; rfl
        | true=>
          simp only [Bool.not_true,cond_false,Bool.true_and]
          rw [pop_eq hk,Option.bind_some]
          by_cases hp:popN k≤c.getD d 0
          ·rw [decide_eq_false (show ¬popN k > c.getD d 0 by omega),cond_false,decide_eq_true hp,Bool.true_and,rightT_eq q Q hS,Option.bind_some]
           cases rightN q c (u.set d (k:Int)) d with
           | false=>
             simp only [Bool.not_false,cond_true,cond_false]
             rw [ih3 s]; rfl
           | true=>
             simp only [Bool.not_true,cond_false,cond_true]
             rw [wd,ih c (u.set d (k:Int)) (d+1) s n (by omega) (by omega) hS]
             cases foldY yv (usesL q r c (u.set d (k:Int)) (d+1)) s with
             | none=>rfl
             | some x=>
               obtain ⟨b,s2⟩:=x
               cases b with
               | false=>rfl
               | true=>exact ih3 s2
          ·rw [decide_eq_true (show popN k > c.getD d 0 by omega),cond_true,decide_eq_false hp,Bool.false_and,cond_false,ih3 s]; rfl
   exact key 8 0 big u s (by omega) (by rw [big_eq]; omega) h3.u3 (fun _=>rfl)
def canB (b:TallyBook) (c:List Int):Bool:=((tally_Can b (c.take b.Trips.toNat)).map (·.1)).getD false
def zer:List Int:=List.replicate 3 0
def crossL (q:Ticket_book):Nat→List Int→Nat→List Ticket_truth
 | 0,c,_=>bif canB q.TicketBook.Tally c then usesL q q.TicketBook.Tally.Trips.toNat c zer 0 else []
 | r+1,c,d=>(List.range' 0 (q.TicketBook.Tally.Room+1).toNat).flatMap fun (n:Nat)=>crossL q r (c.set d (n:Int)) (d+1)
theorem Small.setC {c u:List Int} (h:Small c u) {d:Nat}{s:Nat} (hs:s≤5):Small (c.set d (s:Int)) u:=by
 refine ⟨by simp [h.c3],h.u3,fun i=>?_,h.ub⟩
 have:=h.cb i
 rw [List.getD_eq_getElem?_getD] at this ⊢
 rw [List.getElem?_set]
 split
 ·split
  ·simp; omega
  ·simp
 ·exact this
theorem take_all {l:List Int}{n:Nat}{p:Int→Prop} (h:∀ i,i < n→p (l.getD i 0)):∀ x∈l.take n,p x:=by
 intro x hx
 obtain ⟨i,hi,rfl⟩:=List.getElem_of_mem hx
 have h1:i < n:=by rw [List.length_take] at hi; omega
 have h2:i < l.length:=by rw [List.length_take] at hi; omega
 have:=h i h1
 rw [List.getElem_take]
 rwa [List.getD_eq_getElem?_getD,List.getElem?_eq_getElem h2] at this
theorem tru_of {b:TallyBook} (V:Val b) (t3:b.Trips≤3) {c:List Int} (c3:c.length=3) (h:∀ i,i < b.Trips.toNat→0≤c.getD i 0∧c.getD i 0≤b.Room):Tru b (c.take b.Trips.toNat):=by
 have:=V.t1
 exact ⟨by rw [List.length_take]; omega,take_all (p:=fun n=>0≤n∧n≤b.Room) h⟩
theorem canB_eq {b:TallyBook} (V:Val b) {c:List Int} (hu:Tru b (c.take b.Trips.toNat)):tally_Can b (c.take b.Trips.toNat)=some (canB b c,0)∧(canB b c=true↔Fit b no (pre (c.take b.Trips.toNat))):=by
 obtain ⟨r,hr,hi⟩:=can_law V hu
 have:canB b c=r:=by unfold canB; rw [hr]; rfl
 rw [this]; exact ⟨hr,hi⟩
theorem cross_eq (q:Ticket_book) (Q:OpT q) {σ:Type} (yv:Ticket_truth→σ→Option (Bool×σ)):∀ (r:Nat) (c:List Int) (d:Nat) (s:σ) (n:Nat),((d+r:Nat):Int)=q.TicketBook.Tally.Trips→r < n→Small c zer→(∀ i,i < d→0≤c.getD i 0∧c.getD i 0≤q.TicketBook.Tally.Room)→
 ticket_book_truths_1_2 n ⟨c,zer⟩ d s q q yv=foldY yv (crossL q r c d) s:=by
 have T3:=Q.t3; have r0:=Q.ta.r0; have r5:=Q.r5
 intro r
 induction r with
 | zero=>
   intro c d s n h1 h2 h3 h4
   obtain ⟨n,rfl⟩:∃ m,n=m+1:=⟨n - 1,by omega⟩
   show ticket_book_truths_1_2_F _ ⟨c,zer⟩ d s q q yv=_
   unfold ticket_book_truths_1_2_F
   have hd:d=q.TicketBook.Tally.Trips.toNat:=by omega
   have hc:=h3.c3
   obtain ⟨e1,_⟩:=canB_eq Q.ta (tru_of Q.ta T3 h3.c3 (by rw [← hd]; exact h4))
   rw [show ((d:Int)==q.TicketBook.Tally.Trips)=true by rw [beq_iff_eq]; omega,cond_true]
   simp only
   rw [sgl_eq h3.c3,cutI_eq (by omega) (by omega) (by omega),Option.bind_some,show ((0:Int)).toNat=0 from rfl,List.drop_zero,show ((d:Int)).toNat=q.TicketBook.Tally.Trips.toNat by omega,e1,Option.bind_some,crossL]
   simp only
   cases canB q.TicketBook.Tally c with
   | false=>rfl
   | true=>
     rw [Bool.not_true,cond_false,cond_true]
     have:=use_eq q Q yv q.TicketBook.Tally.Trips.toNat c zer 0 s big (by omega) (by rw [big_eq]; omega) h3
     rw [show ticket_book_truths_1_1 big ⟨c,zer⟩ 0 s q q yv=_ from this]
     cases foldY yv (usesL q q.TicketBook.Tally.Trips.toNat c zer 0) s <;> rfl
 | succ r ih=>
   intro c d s n h1 h2 h3 h4
   obtain ⟨n,rfl⟩:∃ m,n=m+1:=⟨n - 1,by omega⟩
   show ticket_book_truths_1_2_F _ ⟨c,zer⟩ d s q q yv=_
   unfold ticket_book_truths_1_2_F
   rw [show ((d:Int)==q.TicketBook.Tally.Trips)=false by rw [beq_eq_false_iff_ne]; omega,cond_false]
   have wR:wr (q.TicketBook.Tally.Room+1)=(((q.TicketBook.Tally.Room+1).toNat:Nat):Int):=by rw [wrI (by omega) (by omega)]; omega
   have key:∀ (e k m:Nat) (U:List Int) (s:σ),k+e=(q.TicketBook.Tally.Room+1).toNat→e < m→U.length=3→(∀ x,U.set d x=c.set d x)→
    loopF (ticket_book_truths_1_2_l1 q d (fun x0 x1 x2=>ticket_book_truths_1_2 n x0 x1 x2 q q yv) ⟨c,zer⟩) m ((k:Int),U,s)=foldY yv ((List.range' k e).flatMap fun (n:Nat)=>crossL q r (c.set d (n:Int)) (d+1)) s:=by
    intro e
    induction e with
    | zero=>
      intro k m U s h4 h5 h6 h7
      obtain ⟨m,rfl⟩:∃ q,m=q+1:=⟨m - 1,by omega⟩
      show ticket_book_truths_1_2_l1 q d _ ⟨c,zer⟩ _ ((k:Int),U,s)=_
      unfold ticket_book_truths_1_2_l1
      simp only
      rw [wR,decide_eq_false (by omega),cond_false]
      rfl
    | succ e ih2=>
      intro k m U s h5 h6 h7 h8
      obtain ⟨m,rfl⟩:∃ q,m=q+1:=⟨m - 1,by omega⟩
      show ticket_book_truths_1_2_l1 q d _ ⟨c,zer⟩ (loopF _ m) ((k:Int),U,s)=_
      have ih3:=fun s=>ih2 (k+1) m (c.set d (k:Int)) s (by omega) (by omega) (by simp [h3.c3]) (fun x=>by simp)
      generalize loopF (ticket_book_truths_1_2_l1 q d (fun x0 x1 x2=>ticket_book_truths_1_2 n x0 x1 x2 q q yv) ⟨c,zer⟩) m=rec at ih3
      rw [List.range'_succ,List.flatMap_cons,foldY_app]
      have w0:wr ((k:Int)+1)=((k+1:Nat):Int):=by rw [wrI (by omega) (by omega)]; omega
      have wd:wr ((d:Int)+1)=((d+1:Nat):Int):=by rw [wrI (by omega) (by omega)]; omega
      unfold ticket_book_truths_1_2_l1
      simp only
      rw [wR,decide_eq_true (by omega),cond_true,need_of (by simp [inI]; omega),aset_eq h7,show ((d:Int)).toNat=d from rfl,h8,wd,w0,ih (c.set d (k:Int)) (d+1) s n (by omega) (by omega) (h3.setC (by omega)) (fun i hi=>by
       rw [List.getD_eq_getElem?_getD,List.getElem?_set]
       split
       ·split
        ·simp; omega
        ·simp; omega
       ·rw [← List.getD_eq_getElem?_getD]; exact h4 i (by omega))]
      cases foldY yv (crossL q r (c.set d (k:Int)) (d+1)) s with
      | none=>rfl
      | some x=>
        obtain ⟨b,s2⟩:=x
        cases b with
        | false=>rfl
        | true=>exact ih3 s2
   exact key _ 0 big c s (by omega) (by rw [big_eq]; omega) h3.c3 (fun _=>rfl)
theorem small0:Small zer zer:=by
 have:∀ d,zer.getD d 0=0:=fun d=>by
  unfold zer; rw [List.getD_eq_getElem?_getD,List.getElem?_replicate]; split <;> rfl
 exact ⟨rfl,rfl,fun d=>by rw [this]; omega,fun d=>by rw [this]; omega⟩
def truths (q:Ticket_book) (cl:Bool):List Ticket_truth:=bif cl then crossL q q.TicketBook.Tally.Trips.toNat zer 0 else []
theorem truths_eq (q:Ticket_book) (Q:OpT q) {cl:Bool} (hc:ticket_book_clear q=some cl) {σ:Type} (yv:Ticket_truth→σ→Option (Bool×σ)) (s:σ):ticket_book_truths_1 s q yv=(foldY yv (truths q cl) s).map (·.2):=by
 have T3:=Q.t3; have T1:=Q.ta.t1
 unfold ticket_book_truths_1 truths
 rw [hc,Option.bind_some]
 cases cl with
 | false=>rfl
 | true=>
   rw [Bool.not_true,cond_false,cond_true]
   have:=cross_eq q Q yv q.TicketBook.Tally.Trips.toNat zer 0 s big (by omega) (by rw [big_eq]; omega) small0 (fun i h=>absurd h (Nat.not_lt_zero i))
   rw [show ticket_book_truths_1_2 big (Ticket_truth.mk (List.replicate 3 0) (List.replicate 3 0)) 0 s q q yv=_ from this]
   cases foldY yv (crossL q q.TicketBook.Tally.Trips.toNat zer 0) s <;> rfl
end Go.Proofs.YtafhljljfglfeaaDoor
namespace Go.Proofs.YtafhljljfglfeaaDoor
open Go Go.Fx
def kept {α:Type} (l:List α) (o:Nat→Bool) (k:Nat):List α:=(List.range k).filterMap fun i=>bif o i then none else l[i]?
theorem kept_succ {α:Type}{l:List α}{o:Nat→Bool}{k:Nat} (h:k < l.length):kept l o (k+1)=kept l o k++(bif o k then [] else [l[k]]):=by
 unfold kept
 rw [List.range_succ,List.filterMap_append]
 congr 1
 simp only [List.filterMap_cons,List.filterMap_nil,List.getElem?_eq_getElem h]
 cases o k <;> rfl
theorem kept_len {α:Type}{l:List α}{o:Nat→Bool}{k:Nat}:(kept l o k).length≤k:=by
 have:=List.length_filterMap_le (fun i=>bif o i then none else l[i]?) (List.range k)
 simpa [kept] using this
theorem mem_kept {α:Type}{l:List α}{o:Nat→Bool}{x:α}:x∈kept l o l.length↔∃ i,l[i]? =some x∧o i=false:=by
 unfold kept
 rw [List.mem_filterMap]
 constructor
 ·rintro ⟨i,_,h⟩
  cases ho:o i with
  | true=>rw [ho] at h; cases h
  | false=>rw [ho] at h; exact ⟨i,h,ho⟩
 ·rintro ⟨i,h,ho⟩
  exact ⟨i,List.mem_range.2 (List.getElem?_eq_some_iff.1 h).1,by rw [ho]; exact h⟩
theorem kept_sub {α:Type}{l:List α}{o:Nat→Bool}{x:α} (h:x∈kept l o l.length):x∈l:=by
 obtain ⟨i,hi,_⟩:=mem_kept.1 h
 exact List.mem_of_getElem? hi
theorem kept_all {α:Type} (l:List α):kept l (fun _=>false) l.length=l:=by
 have:∀ k,k≤l.length→kept l (fun _=>false) k=l.take k:=by
  intro k
  induction k with
  | zero=>intro _; rfl
  | succ k ih=>
    intro h
    rw [kept_succ (by omega),ih (by omega),List.take_succ_eq_append_getElem (by omega)]; rfl
 rw [this _ (Nat.le_refl _),List.take_length]
def shownStep (s:List Int) (x:TicketShow):List Int:=aset s 3 x.Trip (orI (aget s x.Trip) (shlI 1 x.Ticket))
def shownOf (l:List TicketShow):List Int:=l.foldl shownStep zer
def byStep (m:List (Ticket_seat×Int)) (x:TicketShow):List (Ticket_seat×Int):=putL m (Ticket_seat.mk x.Trip x.Walker) (orI ((lookL m (Ticket_seat.mk x.Trip x.Walker)).getD 0) (shlI 1 x.Ticket))
def byOf (l:List TicketShow):List (Ticket_seat×Int):=l.foldl byStep (putL ([]:List (Ticket_seat×Int)) (Ticket_seat.mk (-1) (-1)) 0)
def qOf (b:TicketBook) (sh:List TicketShow) (bx:List TicketBox):Ticket_book:=⟨⟨b.Tally,b.Fare,b.Tickets,sh,bx⟩,shownOf sh,byOf sh⟩
def outS (b:TicketBook) (o:Nat→Bool):List TicketShow:=kept b.Shows o b.Shows.length
def outX (b:TicketBook) (o:Nat→Bool):List TicketBox:=kept b.Boxes (fun i=>o (b.Shows.length+i)) b.Boxes.length
theorem openedT_eq {b:TicketBook} (V:VT b) (ch:Ticket_choice) (o:Nat→Bool) (h:∀ k,k < b.Shows.length+b.Boxes.length→ch.out_ (k:Int)=some (o k)):ticket_opened b ch=some (qOf b (outS b o) (outX b o)):=by
 have sn:=V.sn; have bn:=V.bn
 unfold ticket_opened
 refine loop_fold0 (fun k=>((k:Int),(kept b.Shows o k).foldl byStep (putL ([]:List (Ticket_seat×Int)) (Ticket_seat.mk (-1) (-1)) 0),kept b.Shows o k,(kept b.Shows o k).foldl shownStep zer)) b.Shows.length (fun rec k hk=>?_) (fun rec=>?_) (by rw [big_eq]; omega) rfl
 ·unfold ticket_opened_l5
  simp only
  have hx:=V.sh _ (List.getElem_mem hk)
  have t3:=V.t3; have h0:=hx.t0; have h1:=hx.tT; have h2:=hx.n0
  have hl:=kept_len (l:=b.Shows) (o:=o) (k:=k)
  rw [decide_eq_true (by omega),cond_true,getI_ix hk,Option.bind_some,h k (by omega),Option.bind_some,kept_succ hk,wrI (by omega) (by omega),show (k:Int)+1=((k+1:Nat):Int) by omega]
  cases o k with
  | true=>
    rw [Bool.not_true,cond_false,cond_true,List.append_nil]
  | false=>
    rw [Bool.not_false,cond_true,cond_false,need_of (fits_small (by simp; omega) (by omega)),need_of (by simp [inI]; omega),need_of (by simp; omega),need_of (by simp [inI]; omega),need_of (by simp; omega),List.foldl_append,List.foldl_append]
    rfl
 ·unfold ticket_opened_l5
  simp only
  rw [decide_eq_false (by omega),cond_false]
  refine loop_fold0 (fun k=>((k:Int),kept b.Boxes (fun i=>o (b.Shows.length+i)) k)) b.Boxes.length (fun rec k hk=>?_) (fun rec=>?_) (by rw [big_eq]; omega) rfl
  ·unfold ticket_opened_l4
   simp only
   have hl:=kept_len (l:=b.Boxes) (o:=fun i=>o (b.Shows.length+i)) (k:=k)
   rw [decide_eq_true (by omega),cond_true,getI_ix hk,Option.bind_some,wrI (x:=(b.Shows.length:Int)+(k:Int)) (by omega) (by omega),show (b.Shows.length:Int)+(k:Int)=((b.Shows.length+k:Nat):Int) by omega,h _ (by omega),Option.bind_some,kept_succ hk,wrI (x:=(k:Int)+1) (by omega) (by omega),show (k:Int)+1=((k+1:Nat):Int) by omega]
   cases o (b.Shows.length+k) with
   | true=>rw [Bool.not_true,cond_false,cond_true,List.append_nil]
   | false=>rw [Bool.not_false,cond_true,cond_false,need_of (fits_small (by simp; omega) (by omega))]
  ·unfold ticket_opened_l4
   simp only
   rw [decide_eq_false (by omega),cond_false]
   rfl
structure Pc (b:TicketBook) (sh:List TicketShow) (bx:List TicketBox):Prop where
 sn:sh.length≤5
 bn:bx.length≤3
 sh:∀ x∈sh,Shw b.Tally.Trips b.Tickets.length x
 bx:∀ x∈bx,Box b.Tally.Trips x
theorem VT.pc {b:TicketBook} (V:VT b):Pc b b.Shows b.Boxes:=⟨V.sn,V.bn,V.sh,V.bx⟩
theorem VT.pco {b:TicketBook} (V:VT b) (o:Nat→Bool):Pc b (outS b o) (outX b o):=⟨by have:=kept_len (l:=b.Shows) (o:=o) (k:=b.Shows.length); have:=V.sn; unfold outS; omega,by have:=kept_len (l:=b.Boxes) (o:=fun i=>o (b.Shows.length+i)) (k:=b.Boxes.length); have:=V.bn; unfold outX; omega,fun x hx=>V.sh x (kept_sub hx),fun x hx=>V.bx x (kept_sub hx)⟩
theorem list_rev {α:Type}{p:List α→Prop} (h0:p []) (h1:∀ l x,p l→p (l++[x])):∀ l,p l:=by
 intro l
 have:∀ n,n≤l.length→p (l.take n):=by
  intro n
  induction n with
  | zero=>intro _; exact h0
  | succ n ih=>
    intro h
    rw [List.take_succ_eq_append_getElem (by omega)]
    exact h1 _ _ (ih (by omega))
 have:=this _ (Nat.le_refl _)
 rwa [List.take_length] at this
theorem or_small {s t:Nat} (h:s < 8) (k:t < 3):orI (s:Int) (shlI 1 (t:Int))=((s ||| 2 ^ t:Nat):Int)∧s ||| 2 ^ t < 8:=by
 have h2:2 ^ t < 8:=by
  match t,k with
  | 0,_=>decide
  | 1,_=>decide
  | 2,_=>decide
 refine ⟨?_,Nat.or_lt_two_pow (n:=3) h h2⟩
 rw [shl1_nat t (by omega),or_nat s _ (by omega) (by omega)]
theorem shown_ok {b:TicketBook} (t3:b.Tally.Trips≤3) (tn:b.Tickets.length≤3):∀ (sh:List TicketShow),(∀ x∈sh,Shw b.Tally.Trips b.Tickets.length x)→(shownOf sh).length=3∧(∀ d,0≤(shownOf sh).getD d 0∧(shownOf sh).getD d 0 < 8)∧∀ d n:Nat,((shownOf sh).getD d 0).toNat.testBit n=true↔∃ x∈sh,x.Trip=d∧x.Ticket=n:=by
 refine list_rev (fun _=>?_) (fun l x ih h=>?_)
 ·have hz:∀ d,zer.getD d 0=0:=fun d=>by
   unfold zer; rw [List.getD_eq_getElem?_getD,List.getElem?_replicate]; split <;> rfl
  refine ⟨rfl,fun d=>?_,fun d n=>?_⟩
  ·show 0≤zer.getD d 0∧zer.getD d 0 < 8; rw [hz]; omega
  ·show (zer.getD d 0).toNat.testBit n=true↔_; rw [hz]; simp
 ·obtain ⟨i1,i2,i3⟩:=ih fun y hy=>h y (List.mem_append_left _ hy)
  have hx:=h x (List.mem_append_right _ (List.mem_singleton.2 rfl))
  have h0:=hx.t0; have h1:=hx.tT; have h2:=hx.n0; have h3:=hx.nm
  have hd:=i2 x.Trip.toNat
  have e:shownOf (l++[x])=(shownOf l).set x.Trip.toNat ((((shownOf l).getD x.Trip.toNat 0).toNat ||| 2 ^ x.Ticket.toNat:Nat):Int):=by
   have e0:shownOf (l++[x])=shownStep (shownOf l) x:=by unfold shownOf; rw [List.foldl_append]; rfl
   rw [e0]
   unfold shownStep
   rw [aset_eq i1]
   congr 1
   have:=or_small (s:=((shownOf l).getD x.Trip.toNat 0).toNat) (t:=x.Ticket.toNat) (by omega) (by omega)
   rw [← this.1,show ((((shownOf l).getD x.Trip.toNat 0).toNat:Nat):Int)=(shownOf l).getD x.Trip.toNat 0 by omega,show ((x.Ticket.toNat:Nat):Int)=x.Ticket by omega]
   rfl
  have lt:=(or_small (s:=((shownOf l).getD x.Trip.toNat 0).toNat) (t:=x.Ticket.toNat) (by omega) (by omega)).2
  have get:∀ d,(shownOf (l++[x])).getD d 0=if x.Trip.toNat=d then ((((shownOf l).getD x.Trip.toNat 0).toNat ||| 2 ^ x.Ticket.toNat:Nat):Int) else (shownOf l).getD d 0:=fun d=>by
   rw [e,List.getD_eq_getElem?_getD,List.getElem?_set]
   by_cases hd:x.Trip.toNat=d
   ·rw [if_pos hd,if_pos hd,if_pos (by rw [i1]; omega)]; rfl
   ·rw [if_neg hd,if_neg hd,List.getD_eq_getElem?_getD]
  refine ⟨by rw [e,List.length_set,i1],fun d=>?_,fun d n=>?_⟩
  ·rw [get]
   split
   ·omega
   ·exact i2 d
  ·rw [get]
   by_cases hd:x.Trip.toNat=d
   ·rw [if_pos hd,Int.toNat_natCast,Nat.testBit_or,Bool.or_eq_true,hd,i3,Nat.testBit_two_pow]
    constructor
    ·rintro (⟨y,hy,h⟩ | h)
     ·exact ⟨y,List.mem_append_left _ hy,h⟩
     ·have:=of_decide_eq_true h
      exact ⟨x,List.mem_append_right _ (List.mem_singleton.2 rfl),by omega,by omega⟩
    ·rintro ⟨y,hy,h⟩
     rcases List.mem_append.1 hy with hy | hy
     ·exact .inl ⟨y,hy,h⟩
     ·rw [List.mem_singleton.1 hy] at h
      exact .inr (decide_eq_true (by omega))
   ·rw [if_neg hd,i3]
    constructor
    ·rintro ⟨y,hy,h⟩; exact ⟨y,List.mem_append_left _ hy,h⟩
    ·rintro ⟨y,hy,h⟩
     rcases List.mem_append.1 hy with hy | hy
     ·exact ⟨y,hy,h⟩
     ·rw [List.mem_singleton.1 hy] at h; omega
theorem look_put_ne {κ ν:Type} [DecidableEq κ] (l:List (κ×ν)) {a c:κ} (x:ν) (h:c≠a):lookL (putL l a x) c=lookL l c:=by
 unfold putL
 cases hf:(l.map (·.1)).findIdx? (·==a) with
 | none=>
   simp only
   unfold lookL
   rw [List.find?_append]
   cases l.find? (·.1==c) with
   | some y=>rfl
   | none=>
     have e:(a==c)=false:=by simpa using fun e:a=c=>h e.symm
     simp [List.find?_cons,e]
 | some i=>
   simp only
   obtain ⟨hi,hp⟩:=List.findIdx?_eq_some_iff_getElem.1 hf
   have hi' :i < l.length:=by simpa using hi
   have hp' :l[i].1=a:=by simpa using hp.1
   clear hf hp
   unfold lookL
   congr 1
   induction l generalizing i with
   | nil=>rfl
   | cons y l ih=>
     cases i with
     | zero=>
       have hy:y.1=a:=hp'
       have n1:(y.1==c)=false:=by rw [hy]; simpa using fun e=>h e.symm
       have n2:(a==c)=false:=by simpa using fun e=>h e.symm
       rw [List.set_cons_zero,List.find?_cons,List.find?_cons]
       simp only [n1,n2]
     | succ i=>
       rw [List.set_cons_succ,List.find?_cons,List.find?_cons]
       cases (y.1==c) with
       | true=>rfl
       | false=>exact ih i (by simpa using hi) (by simpa using hi') (by simpa using hp')
def seatOf (x:TicketShow):Ticket_seat:=⟨x.Trip,x.Walker⟩
theorem by_ok {b:TicketBook} (t3:b.Tally.Trips≤3) (tn:b.Tickets.length≤3):∀ (sh:List TicketShow),(∀ x∈sh,Shw b.Tally.Trips b.Tickets.length x)→∀ s:Ticket_seat,∃ v:Nat,v < 8∧(lookL (byOf sh) s).getD 0=(v:Int)∧∀ n:Nat,v.testBit n=true↔∃ x∈sh,seatOf x=s∧x.Ticket=n:=by
 refine list_rev (fun _ s=>?_) (fun l x ih h s=>?_)
 ·refine ⟨0,by decide,?_,fun n=>by simp⟩
  unfold byOf
  by_cases hs:s=Ticket_seat.mk (-1) (-1)
  ·rw [hs]; rfl
  ·show (lookL (putL ([]:List (Ticket_seat×Int)) (Ticket_seat.mk (-1) (-1)) 0) s).getD 0=_
   rw [look_put_ne _ _ hs]; rfl
 ·have hx:=h x (List.mem_append_right _ (List.mem_singleton.2 rfl))
  have h2:=hx.n0; have h3:=hx.nm
  have e:byOf (l++[x])=byStep (byOf l) x:=by unfold byOf; rw [List.foldl_append]; rfl
  have ih:=ih fun y hy=>h y (List.mem_append_left _ hy)
  by_cases hs:s=seatOf x
  ·subst hs
   obtain ⟨v,v8,hv,hb⟩:=ih (seatOf x)
   have ho:=or_small (s:=v) (t:=x.Ticket.toNat) v8 (by omega)
   refine ⟨v ||| 2 ^ x.Ticket.toNat,ho.2,?_,fun n=>?_⟩
   ·rw [e]; unfold byStep
    show (lookL (putL (byOf l) (seatOf x) (orI ((lookL (byOf l) (seatOf x)).getD 0) _)) (seatOf x)).getD 0=_
    rw [look_put,hv,Option.getD_some,← ho.1,show ((x.Ticket.toNat:Nat):Int)=x.Ticket by omega]
   ·rw [Nat.testBit_or,Bool.or_eq_true,hb,Nat.testBit_two_pow]
    constructor
    ·rintro (⟨y,hy,h⟩ | h)
     ·exact ⟨y,List.mem_append_left _ hy,h⟩
     ·have:=of_decide_eq_true h
      exact ⟨x,List.mem_append_right _ (List.mem_singleton.2 rfl),rfl,by omega⟩
    ·rintro ⟨y,hy,h⟩
     rcases List.mem_append.1 hy with hy | hy
     ·exact .inl ⟨y,hy,h⟩
     ·rw [List.mem_singleton.1 hy] at h
      exact .inr (decide_eq_true (by omega))
  ·obtain ⟨v,v8,hv,hb⟩:=ih s
   refine ⟨v,v8,?_,fun n=>?_⟩
   ·rw [e]; unfold byStep
    show (lookL (putL (byOf l) (seatOf x) _) s).getD 0=_
    rw [look_put_ne _ _ hs,hv]
   ·rw [hb]
    constructor
    ·rintro ⟨y,hy,h⟩; exact ⟨y,List.mem_append_left _ hy,h⟩
    ·rintro ⟨y,hy,h⟩
     rcases List.mem_append.1 hy with hy | hy
     ·exact ⟨y,hy,h⟩
     ·rw [List.mem_singleton.1 hy] at h; exact absurd h.1.symm hs
def Cl (sh:List TicketShow):Prop:=∀ x∈sh,∀ y∈sh,x.Trip=y.Trip→(x.Ticket=y.Ticket↔x.Walker=y.Walker)
def clashN (x y:TicketShow):Bool:=(x.Trip==y.Trip)&&((x.Ticket==y.Ticket) != (x.Walker==y.Walker))
theorem clash_eq (x y:TicketShow):ticket_clash x y=some (clashN x y):=by
 unfold ticket_clash clashN
 cases (x.Trip==y.Trip) <;> rfl
theorem clashN_iff {x y:TicketShow}:clashN x y=true↔x.Trip=y.Trip∧¬(x.Ticket=y.Ticket↔x.Walker=y.Walker):=by
 unfold clashN
 rw [Bool.and_eq_true,beq_iff_eq,bne_iff_ne]
 refine and_congr_right fun _=>?_
 rw [Ne,Bool.eq_iff_iff,beq_iff_eq,beq_iff_eq]
theorem clashN_comm (x y:TicketShow):clashN x y=clashN y x:=by
 rw [Bool.eq_iff_iff,clashN_iff,clashN_iff,eq_comm (a:=x.Trip),eq_comm (a:=x.Ticket),eq_comm (a:=x.Walker)]
theorem cl_iff {sh:List TicketShow}:Cl sh↔∀ x∈sh,∀ y∈sh,clashN x y=false:=by
 unfold Cl
 refine forall_congr' fun x=>forall_congr' fun _=>forall_congr' fun y=>forall_congr' fun _=>?_
 rw [← Bool.not_eq_true,clashN_iff]
 constructor
 ·intro h ⟨h1,h2⟩; exact h2 (h h1)
 ·intro h h1; exact Classical.byContradiction fun h2=>h ⟨h1,h2⟩
theorem clear_eq {b:TicketBook} (V:VT b) {sh:List TicketShow}{bx:List TicketBox} (P:Pc b sh bx):∃ cl,ticket_book_clear (qOf b sh bx)=some cl∧(cl=true↔Cl sh):=by
 have t3:=V.t3; have tn:=V.tn; have sn:=P.sn
 have B:=by_ok t3 tn sh P.sh
 unfold ticket_book_clear
 have L:=loop_all (body:=ticket_book_clear_l1 (qOf b sh bx)) sh.length (fun k=>(sh[k]?).all fun x=>((lookL (byOf sh) (seatOf x)).getD 0==shlI 1 x.Ticket)&&!(sh.take k).any (fun y=>clashN x y)) (Rf:=some false) (Rt:=some true) (fun rec k hk=>?_) (fun rec=>?_) (by rw [big_eq]; omega)
 rotate_left
 ·unfold ticket_book_clear_l1
  have hx:=P.sh _ (List.getElem_mem hk)
  have w0:=hx.w0; have n0:=hx.n0
  show (bif decide ((k:Int) < (sh.length:Int)) then _ else _)=_
  rw [decide_eq_true (by omega),cond_true]
  show (getI sh (k:Int)).bind _=_
  rw [getI_ix hk,Option.bind_some,List.getElem?_eq_getElem hk,Option.all_some]
  generalize sh[k]=x at hx w0 n0
  rw [show (x.Walker==(-1))=false by rw [beq_eq_false_iff_ne]; omega,Bool.and_false,cond_false,need_of (by simpa using n0)]
  show (bif (lookL (byOf sh) (seatOf x)).getD 0 != shlI 1 x.Ticket then some false else _)=_
  rw [bne]
  cases ((lookL (byOf sh) (seatOf x)).getD 0==shlI 1 x.Ticket) with
  | false=>rfl
  | true=>
    rw [Bool.not_true,cond_false,Bool.true_and]
    show (cutI sh 0 (k:Int)).bind _=_
    rw [cutI_eq (by omega) (by omega) (by omega),Option.bind_some,has_show _ _ (fun y=>clashN x y) (fun y _=>by
     unfold ticket_book_clear_1
     rw [clash_eq]; rfl) (by rw [List.length_drop,List.length_take]; omega),Option.bind_some,show ((0:Int)).toNat=0 from rfl,List.drop_zero,show ((k:Int)).toNat=k from rfl,wrI (by omega) (by omega),show (k:Int)+1=((k+1:Nat):Int) by omega]
    cases (sh.take k).any (fun y=>clashN x y) <;> rfl
 ·unfold ticket_book_clear_l1
  show (bif decide ((sh.length:Int) < (sh.length:Int)) then _ else _)=_
  rw [decide_eq_false (by omega),cond_false]
 rw [L]
 refine ⟨(List.range sh.length).all (fun k=>(sh[k]?).all fun x=>((lookL (byOf sh) (seatOf x)).getD 0==shlI 1 x.Ticket)&&!(sh.take k).any (fun y=>clashN x y)),?_,?_⟩
 ·generalize ((List.range sh.length).all fun k=>_)=A
  cases A <;> rfl
 ·rw [List.all_eq_true]
  constructor
  ·intro h
   rw [cl_iff]
   have key:∀ (i k:Nat),i < k→∀ x y,sh[i]? =some x→sh[k]? =some y→clashN y x=false:=by
    intro i k hik x y hx hy
    have hk:=(List.getElem?_eq_some_iff.1 hy).1
    have:=h k (List.mem_range.2 hk)
    rw [hy,Option.all_some,Bool.and_eq_true,Bool.not_eq_true',List.any_eq_false] at this
    have:=this.2 x (List.mem_of_getElem? (i:=i) (by rw [List.getElem?_take_of_lt hik]; exact hx))
    simpa using this
   intro x hx y hy
   obtain ⟨i,hi,rfl⟩:=List.getElem_of_mem hx
   obtain ⟨k,hk,rfl⟩:=List.getElem_of_mem hy
   rcases Nat.lt_trichotomy i k with hik | hik | hik
   ·rw [clashN_comm]; exact key i k hik _ _ (List.getElem?_eq_getElem hi) (List.getElem?_eq_getElem hk)
   ·subst hik
    rw [← Bool.not_eq_true,clashN_iff]
    rintro ⟨_,h⟩
    exact h ⟨fun _=>rfl,fun _=>rfl⟩
   ·exact key k i hik _ _ (List.getElem?_eq_getElem hk) (List.getElem?_eq_getElem hi)
  ·intro h k hk
   have hk:=List.mem_range.1 hk
   rw [List.getElem?_eq_getElem hk,Option.all_some,Bool.and_eq_true,Bool.not_eq_true',List.any_eq_false,beq_iff_eq]
   have hx:=P.sh _ (List.getElem_mem hk)
   have n0:=hx.n0; have nm:=hx.nm
   refine ⟨?_,fun y hy=>?_⟩
   ·obtain ⟨v,v8,hv,hb⟩:=B (seatOf sh[k])
    rw [hv,show sh[k].Ticket=((sh[k].Ticket.toNat:Nat):Int) by omega,shl1_nat _ (by omega)]
    congr 1
    refine Nat.eq_of_testBit_eq fun n=>?_
    rw [Bool.eq_iff_iff,hb,Nat.testBit_two_pow,decide_eq_true_eq]
    constructor
    ·rintro ⟨y,hy,hs,ht⟩
     have e1:y.Trip=sh[k].Trip:=congrArg Ticket_seat.trip_ hs
     have e2:y.Walker=sh[k].Walker:=congrArg Ticket_seat.walker_ hs
     have:=(h y hy _ (List.getElem_mem hk) e1).2 e2
     omega
    ·intro hn
     exact ⟨_,List.getElem_mem hk,rfl,by omega⟩
   ·have:=cl_iff.1 h _ (List.getElem_mem hk) y (List.mem_of_mem_take hy)
    simp [this]
theorem qOf_op {b:TicketBook} (V:VT b) {sh:List TicketShow}{bx:List TicketBox} (P:Pc b sh bx):OpT (qOf b sh bx):=by
 have S:=shown_ok V.t3 V.tn sh P.sh
 exact ⟨V.ta,V.t3,V.r5,V.f1,V.f20,V.tn,V.te,P.sn,P.bn,P.bx,S.1,S.2.1⟩
end Go.Proofs.YtafhljljfglfeaaDoor
namespace Go.Proofs.YtafhljljfglfeaaDoor
open Go Go.Fx
theorem ext3 {l m:List Int} (hl:l.length=3) (hm:m.length=3) (h:∀ i,i < 3→l.getD i 0=m.getD i 0):l=m:=by
 refine List.ext_getElem? fun i=>?_
 by_cases hi:i < 3
 ·have:=h i hi
  rw [List.getD_eq_getElem?_getD,List.getD_eq_getElem?_getD,List.getElem?_eq_getElem (by omega),List.getElem?_eq_getElem (by omega)] at this
  rw [List.getElem?_eq_getElem (by omega),List.getElem?_eq_getElem (by omega)]
  exact congrArg some this
 ·rw [List.getElem?_eq_none (by omega),List.getElem?_eq_none (by omega)]
theorem getD_set {l:List Int}{d i:Nat}{x:Int} (hd:d < l.length):(l.set d x).getD i 0=if d=i then x else l.getD i 0:=by
 rw [List.getD_eq_getElem?_getD,List.getElem?_set]
 by_cases h:d=i
 ·rw [if_pos h,if_pos h,if_pos hd]; rfl
 ·rw [if_neg h,if_neg h,List.getD_eq_getElem?_getD]
theorem paidN_congr {c u u' :List Int}{f n:Nat} (h:∀ i,f≤i→i < f+n→u.getD i 0=u'.getD i 0):paidN c u f n=paidN c u' f n:=by
 unfold paidN
 congr 1
 refine List.map_congr_left fun i hi=>?_
 have:=List.mem_range'_1.1 hi
 unfold pv
 rw [h i this.1 this.2]
theorem rightN_congr {q:Ticket_book} (Q:OpT q) {c u u' :List Int}{d:Nat} (h:∀ i,i≤d→u.getD i 0=u'.getD i 0):rightN q c u d=rightN q c u' d:=by
 unfold rightN
 rw [Bool.eq_iff_iff,List.all_eq_true,List.all_eq_true]
 refine forall_congr' fun x=>forall_congr' fun hx=>?_
 have B:=Q.bx x hx
 have f0:=B.f0; have ft:=B.ft
 by_cases hd:x.To=d
 ·unfold fitsN
  rw [paidN_congr (u:=u) (u' :=u') fun i h1 h2=>h i (by omega)]
 ·rw [show (x.To==(d:Int))=false by rw [beq_eq_false_iff_ne]; exact hd]
  simp
theorem okN_congr {q:Ticket_book} (Q:OpT q) {c u u' :List Int}{s d:Nat} (h:∀ i,i≤d→u.getD i 0=u'.getD i 0):okN q c u s d=okN q c u' s d:=by
 unfold okN
 rw [rightN_congr Q h]
theorem mem_uses {q:Ticket_book} (Q:OpT q) {t:Ticket_truth}:∀ (r:Nat) (c u:List Int) (d:Nat),u.length=3→d+r≤3→(t∈usesL q r c u d↔t.crossed_=c∧t.used_.length=3∧(∀ i,(i < d∨d+r≤i)→t.used_.getD i 0=u.getD i 0)∧∀ i,d≤i→i < d+r→∃ s:Nat,s < 8∧t.used_.getD i 0=(s:Int)∧okN q c t.used_ s i=true):=by
 intro r
 induction r with
 | zero=>
   intro c u d hu hd
   unfold usesL
   rw [List.mem_singleton]
   constructor
   ·rintro rfl
    exact ⟨rfl,hu,fun _ _=>rfl,fun i h1 h2=>by omega⟩
   ·rintro ⟨h1,h2,h3,_⟩
    obtain ⟨tc,tu⟩:=t
    simp only at h1 h2 h3
    rw [h1,ext3 h2 hu fun i _=>h3 i (by omega)]
 | succ r ih=>
   intro c u d hu hd
   unfold usesL
   rw [List.mem_flatMap]
   constructor
   ·rintro ⟨s,hs,ht⟩
    have hs:=(List.mem_range'_1.1 hs).2
    cases ho:okN q c (u.set d (s:Int)) s d with
    | false=>rw [ho] at ht; cases ht
    | true=>
      rw [ho,cond_true,ih c _ (d+1) (by rw [List.length_set]; exact hu) (by omega)] at ht
      obtain ⟨h1,h2,h3,h4⟩:=ht
      refine ⟨h1,h2,fun i hi=>?_,fun i h5 h6=>?_⟩
      ·rw [h3 i (by omega),getD_set (by omega),if_neg (by omega)]
      ·by_cases hid:i=d
       ·subst hid
        refine ⟨s,by omega,?_,?_⟩
        ·rw [h3 i (by omega),getD_set (by omega),if_pos rfl]
        ·rw [okN_congr Q (u' :=u.set i (s:Int)) fun j hj=>h3 j (by omega)]; exact ho
       ·exact h4 i (by omega) (by omega)
   ·rintro ⟨h1,h2,h3,h4⟩
    obtain ⟨s,hs,hv,ho⟩:=h4 d (Nat.le_refl _) (by omega)
    have hg:∀ j,j≤d→t.used_.getD j 0=(u.set d (s:Int)).getD j 0:=fun j hj=>by
     rw [getD_set (by omega)]
     split
     ·next h=>rw [← h]; exact hv
     ·exact h3 j (by omega)
    refine ⟨s,List.mem_range'_1.2 (by omega),?_⟩
    rw [← okN_congr Q hg,ho,cond_true,ih c _ (d+1) (by rw [List.length_set]; exact hu) (by omega)]
    refine ⟨h1,h2,fun i hi=>?_,fun i h5 h6=>h4 i (by omega) (by omega)⟩
    by_cases hid:i≤d
    ·exact hg i hid
    ·rw [getD_set (by omega),if_neg (by omega)]; exact h3 i (by omega)
theorem mem_cross {q:Ticket_book}{t:Ticket_truth}:∀ (r:Nat) (c:List Int) (d:Nat),c.length=3→d+r≤3→0≤q.TicketBook.Tally.Room→(t∈crossL q r c d↔∃ c' :List Int,c'.length=3∧(∀ i,(i < d∨d+r≤i)→c'.getD i 0=c.getD i 0)∧(∀ i,d≤i→i < d+r→0≤c'.getD i 0∧c'.getD i 0≤q.TicketBook.Tally.Room)∧canB q.TicketBook.Tally c' =true∧t∈usesL q q.TicketBook.Tally.Trips.toNat c' zer 0):=by
 intro r
 induction r with
 | zero=>
   intro c d hc hd hr
   unfold crossL
   constructor
   ·intro h
    cases hb:canB q.TicketBook.Tally c with
    | false=>rw [hb] at h; cases h
    | true=>rw [hb] at h; exact ⟨c,hc,fun _ _=>rfl,fun i h1 h2=>by omega,hb,h⟩
   ·rintro ⟨c',h1,h2,_,h3,h4⟩
    rw [ext3 h1 hc fun i _=>h2 i (by omega)] at h3 h4
    rw [h3]; exact h4
 | succ r ih=>
   intro c d hc hd hr
   unfold crossL
   rw [List.mem_flatMap]
   constructor
   ·rintro ⟨n,hn,ht⟩
    have hn:=(List.mem_range'_1.1 hn).2
    rw [ih _ (d+1) (by rw [List.length_set]; exact hc) (by omega) hr] at ht
    obtain ⟨c',h1,h2,h3,h4,h5⟩:=ht
    refine ⟨c',h1,fun i hi=>?_,fun i h6 h7=>?_,h4,h5⟩
    ·rw [h2 i (by omega),getD_set (by omega),if_neg (by omega)]
    ·by_cases hid:i=d
     ·subst hid
      rw [h2 i (by omega),getD_set (by omega),if_pos rfl]; omega
     ·exact h3 i (by omega) (by omega)
   ·rintro ⟨c',h1,h2,h3,h4,h5⟩
    have hb:=h3 d (Nat.le_refl _) (by omega)
    refine ⟨(c'.getD d 0).toNat,List.mem_range'_1.2 (by omega),?_⟩
    rw [ih _ (d+1) (by rw [List.length_set]; exact hc) (by omega) hr]
    refine ⟨c',h1,fun i hi=>?_,fun i h6 h7=>h3 i (by omega) (by omega),h4,h5⟩
    rw [getD_set (by omega)]
    split
    ·next h=>rw [← h]; omega
    ·exact h2 i (by omega)
def Use (b:TicketBook) (s d:Nat):Prop:=∀ n:Nat,s.testBit n=true→∃ x,b.Tickets[n]? =some x∧x.From≤d∧(d:Int)≤x.To
structure Tr (b:TicketBook) (sh:List TicketShow) (bx:List TicketBox) (t:Ticket_truth):Prop where
 cl:Cl sh
 c3:t.crossed_.length=3
 u3:t.used_.length=3
 cr:∀ d:Nat,(d:Int) < b.Tally.Trips→0≤t.crossed_.getD d 0∧t.crossed_.getD d 0≤b.Tally.Room
 cz:∀ d:Nat,b.Tally.Trips≤d→t.crossed_.getD d 0=0
 uz:∀ d:Nat,b.Tally.Trips≤d→t.used_.getD d 0=0
 ub:∀ d:Nat,0≤t.used_.getD d 0∧t.used_.getD d 0 < 8
 us:∀ d:Nat,(d:Int) < b.Tally.Trips→Use b (t.used_.getD d 0).toNat d
 pc:∀ d:Nat,(d:Int) < b.Tally.Trips→popN (t.used_.getD d 0).toNat≤t.crossed_.getD d 0
 sw:∀ x∈sh,(t.used_.getD x.Trip.toNat 0).toNat.testBit x.Ticket.toNat=true
 can:Fit b.Tally no (pre (t.crossed_.take b.Tally.Trips.toNat))
 bx:∀ x∈bx,fitsN b.Fare t.crossed_ t.used_ x=true
theorem valid_iff {b:TicketBook} (V:VT b) {sh:List TicketShow}{bx:List TicketBox}{s d:Nat} (hs:s < 8):validN (qOf b sh bx) s d=true↔Use b s d:=by
 have tn:=V.tn
 unfold validN Use
 show ((List.range b.Tickets.length).all (fun k=>(b.Tickets[k]?).all fun x=>!s.testBit k||inB d x.From x.To)&&s / 2 ^ b.Tickets.length==0)=true↔_
 rw [Bool.and_eq_true,List.all_eq_true,beq_iff_eq]
 constructor
 ·rintro ⟨h1,h2⟩ n hn
  have hlt:n < b.Tickets.length:=by
   refine Nat.lt_of_not_le fun hle=>?_
   have hp:0 < 2 ^ b.Tickets.length:=Nat.two_pow_pos _
   have h3:s < 2 ^ b.Tickets.length:=by
    rcases Nat.div_eq_zero_iff.1 h2 with h | h
    ·omega
    ·exact h
   have:s < 2 ^ n:=Nat.lt_of_lt_of_le h3 (Nat.pow_le_pow_right (by omega) hle)
   rw [Nat.testBit_lt_two_pow this] at hn
   cases hn
  have:=h1 n (List.mem_range.2 hlt)
  rw [List.getElem?_eq_getElem hlt,Option.all_some,hn,Bool.not_true,Bool.false_or,inB_iff] at this
  exact ⟨_,List.getElem?_eq_getElem hlt,this⟩
 ·intro h
  refine ⟨fun k hk=>?_,?_⟩
  ·have hk:=List.mem_range.1 hk
   rw [List.getElem?_eq_getElem hk,Option.all_some]
   cases hb:s.testBit k with
   | false=>rfl
   | true=>
     obtain ⟨x,hx,h1⟩:=h k hb
     rw [List.getElem?_eq_getElem hk] at hx
     cases hx
     rw [Bool.not_true,Bool.false_or,inB_iff]
     exact h1
  ·refine Nat.div_eq_of_lt (Nat.lt_pow_two_of_testBit s fun n hn=>?_)
   refine Bool.eq_false_iff.2 fun hb=>?_
   obtain ⟨x,hx,_⟩:=h n hb
   have:=(List.getElem?_eq_some_iff.1 hx).1
   omega
theorem Tr.small {b:TicketBook} (V:VT b) {sh:List TicketShow}{bx:List TicketBox}{t:Ticket_truth} (h:Tr b sh bx t):Small t.crossed_ t.used_:=by
 refine ⟨h.c3,h.u3,fun d=>?_,h.ub⟩
 by_cases hd:(d:Int) < b.Tally.Trips
 ·have:=h.cr d hd; have:=V.r5; omega
 ·rw [h.cz d (by omega)]; omega
theorem mem_truths {b:TicketBook} (V:VT b) {sh:List TicketShow}{bx:List TicketBox} (P:Pc b sh bx) {cl:Bool} (hc:cl=true↔Cl sh) {t:Ticket_truth}:t∈truths (qOf b sh bx) cl↔Tr b sh bx t:=by
 have Q:=qOf_op V P
 have t1:=V.ta.t1; have t3:=V.t3
 have S:=shown_ok V.t3 V.tn sh P.sh
 have hz:∀ i,zer.getD i 0=0:=fun d=>by
  unfold zer; rw [List.getD_eq_getElem?_getD,List.getElem?_replicate]; split <;> rfl
 unfold truths
 constructor
 ·intro h
  cases cl with
  | false=>cases h
  | true=>
    rw [cond_true,mem_cross _ _ _ rfl (by show 0+b.Tally.Trips.toNat≤3; omega) V.ta.r0] at h
    obtain ⟨c,h1,h2,h3,h4,h5⟩:=h
    rw [mem_uses Q _ _ _ _ rfl (by show 0+b.Tally.Trips.toNat≤3; omega)] at h5
    obtain ⟨h6,h7,h8,h9⟩:=h5
    subst h6
    have h2:∀ i,b.Tally.Trips.toNat≤i→t.crossed_.getD i 0=0:=fun i hi=>(h2 i (by right; show 0+b.Tally.Trips.toNat≤i; omega)).trans (hz i)
    have h8:∀ i,b.Tally.Trips.toNat≤i→t.used_.getD i 0=0:=fun i hi=>(h8 i (by right; show 0+b.Tally.Trips.toNat≤i; omega)).trans (hz i)
    have h3:∀ i,i < b.Tally.Trips.toNat→0≤t.crossed_.getD i 0∧t.crossed_.getD i 0≤b.Tally.Room:=fun i hi=>h3 i (Nat.zero_le _) (by show i < 0+b.Tally.Trips.toNat; omega)
    have h9:∀ i,i < b.Tally.Trips.toNat→∃ s:Nat,s < 8∧t.used_.getD i 0=(s:Int)∧okN (qOf b sh bx) t.crossed_ t.used_ s i=true:=fun i hi=>h9 i (Nat.zero_le _) (by show i < 0+b.Tally.Trips.toNat; omega)
    have h9' :∀ i,i < b.Tally.Trips.toNat→(0≤t.used_.getD i 0∧t.used_.getD i 0 < 8)∧Use b (t.used_.getD i 0).toNat i∧(∀ n:Nat,((shownOf sh).getD i 0).toNat.testBit n=true→(t.used_.getD i 0).toNat.testBit n=true)∧popN (t.used_.getD i 0).toNat≤t.crossed_.getD i 0∧rightN (qOf b sh bx) t.crossed_ t.used_ i=true:=fun i hi=>by
     obtain ⟨s,hs,hv,ho⟩:=h9 i hi
     unfold okN at ho
     simp only [Bool.and_eq_true,beq_iff_eq,decide_eq_true_eq] at ho
     rw [hv,Int.toNat_natCast]
     exact ⟨by omega,(valid_iff V hs).1 ho.1.1.1,and_sub.1 ho.1.1.2,ho.1.2,ho.2⟩
    refine ⟨hc.1 rfl,h1,h7,fun d hd=>h3 d (by omega),fun d hd=>h2 d (by omega),fun d hd=>h8 d (by omega),fun d=>?_,fun d hd=>(h9' d (by omega)).2.1,fun d hd=>(h9' d (by omega)).2.2.2.1,fun x hx=>?_,((canB_eq V.ta (tru_of V.ta t3 h1 h3)).2).1 h4,fun x hx=>?_⟩
    ·by_cases hd:d < b.Tally.Trips.toNat
     ·exact (h9' d hd).1
     ·rw [h8 d (by omega)]; omega
    ·have B:=P.sh x hx
     have:=B.t0; have:=B.tT; have:=B.n0
     exact (h9' x.Trip.toNat (by omega)).2.2.1 _ ((S.2.2 _ _).2 ⟨x,hx,by omega,by omega⟩)
    ·have B:=P.bx x hx
     have:=B.f0; have:=B.ft; have:=B.tT
     have:=List.all_eq_true.1 (h9' x.To.toNat (by omega)).2.2.2.2 x hx
     rw [show (x.To==((x.To.toNat:Nat):Int))=true by rw [beq_iff_eq]; omega,Bool.not_true,Bool.false_or] at this
     exact this
 ·intro h
  rw [hc.2 h.cl,cond_true,mem_cross _ _ _ rfl (by show 0+b.Tally.Trips.toNat≤3; omega) V.ta.r0]
  have hcr:∀ i,i < b.Tally.Trips.toNat→0≤t.crossed_.getD i 0∧t.crossed_.getD i 0≤b.Tally.Room:=fun i hi=>h.cr i (by omega)
  refine ⟨t.crossed_,h.c3,fun i hi=>?_,fun i _ hi=>hcr i (by have:i < 0+b.Tally.Trips.toNat:=hi; omega),(canB_eq V.ta (tru_of V.ta t3 h.c3 hcr)).2.2 h.can,?_⟩
  ·have hi:i < 0∨0+b.Tally.Trips.toNat≤i:=hi
   rw [hz]; exact h.cz i (by omega)
  rw [mem_uses Q _ _ _ _ rfl (by show 0+b.Tally.Trips.toNat≤3; omega)]
  refine ⟨rfl,h.u3,fun i hi=>?_,fun i _ hi=>?_⟩
  ·have hi:i < 0∨0+b.Tally.Trips.toNat≤i:=hi
   rw [hz]; exact h.uz i (by omega)
  ·have hi:i < 0+b.Tally.Trips.toNat:=hi
   have hu:=h.ub i
   refine ⟨(t.used_.getD i 0).toNat,by omega,by omega,?_⟩
   unfold okN
   simp only [Bool.and_eq_true,beq_iff_eq,decide_eq_true_eq]
   refine ⟨⟨⟨(valid_iff V (by omega)).2 (h.us i (by omega)),and_sub.2 fun n hn=>?_⟩,h.pc i (by omega)⟩,?_⟩
   ·obtain ⟨x,hx,e1,e2⟩:=(S.2.2 i n).1 hn
    have:=h.sw x hx
    rw [show x.Trip.toNat=i by omega,show x.Ticket.toNat=n by omega] at this
    exact this
   ·refine List.all_eq_true.2 fun x hx=>?_
    have:=h.bx x hx
    rw [show fitsN (qOf b sh bx).TicketBook.Fare t.crossed_ t.used_ x=true from this,Bool.or_true]
end Go.Proofs.YtafhljljfglfeaaDoor
namespace Go.Proofs.YtafhljljfglfeaaDoor
open Go Go.Fx
def CanT (b:TicketBook) (sh:List TicketShow) (bx:List TicketBox):Prop:=∃ t,Tr b sh bx t
theorem isTrueT_eq {b:TicketBook} (V:VT b) {sh:List TicketShow}{bx:List TicketBox} (P:Pc b sh bx):∃ r,ticket_book_isTrue (qOf b sh bx)=some r∧(r=true↔CanT b sh bx):=by
 obtain ⟨cl,hc,hi⟩:=clear_eq V P
 unfold ticket_book_isTrue ticket_book_truths
 rw [Option.bind_some,truths_eq _ (qOf_op V P) hc,foldY_find ticket_book_isTrue_r1 (fun _=>true) false true (truths (qOf b sh bx) cl) (fun _ _=>rfl)]
 have hm:=fun t=>mem_truths V P hi (t:=t)
 unfold CanT
 cases hL:truths (qOf b sh bx) cl with
 | nil=>
   refine ⟨false,rfl,?_⟩
   simp only [Bool.false_eq_true,false_iff]
   rintro ⟨t,ht⟩
   have:=(hm t).2 ht
   rw [hL] at this; cases this
 | cons x l=>
   refine ⟨true,rfl,?_⟩
   simp only [true_iff]
   exact ⟨x,(hm x).1 (by rw [hL]; exact List.mem_cons_self ..)⟩
theorem outS_no (b:TicketBook):outS b (fun _=>false)=b.Shows:=kept_all _
theorem outX_no (b:TicketBook):outX b (fun _=>false)=b.Boxes:=kept_all _
theorem nobodyT {b:TicketBook} (V:VT b):ticket_opened b (Ticket_choice.mk (fun y28=>ticket_nothing_1 y28))=some (qOf b b.Shows b.Boxes):=by
 have:=openedT_eq V (Ticket_choice.mk (fun y28=>ticket_nothing_1 y28)) (fun _=>false) (fun k _=>rfl)
 rw [outS_no,outX_no] at this
 exact this
def Can (b:TicketBook):Prop:=CanT b b.Shows b.Boxes
theorem right_law {b:TicketBook} (V:VT b):∃ r,ticket_Right b=some (r,0)∧(r=true↔Can b):=by
 obtain ⟨r,hr,hi⟩:=isTrueT_eq V V.pc
 refine ⟨r,?_,hi⟩
 unfold ticket_Right
 rw [checkT_ok V,Option.bind_some]
 simp only [bne_self_eq_false,cond_false]
 unfold ticket_nothing
 rw [Option.bind_some,nobodyT V,Option.bind_some]
 show (ticket_book_isTrue (qOf b b.Shows b.Boxes)).bind _=_
 rw [hr]; rfl
theorem askedT {b:TicketBook} (V:VT b):∃ e,ticket_asked b true=some (qOf b b.Shows b.Boxes,e)∧((e=0∧Can b)∨(e=102∧¬Can b)):=by
 obtain ⟨r,hr,hi⟩:=isTrueT_eq V V.pc
 refine ⟨if r=true then 0 else 102,?_,?_⟩
 ·unfold ticket_asked
  rw [checkT_ok V,Option.bind_some]
  simp only [bne_self_eq_false,cond_false,Bool.not_true]
  unfold ticket_nothing
  rw [Option.bind_some,nobodyT V,Option.bind_some]
  show (ticket_book_isTrue (qOf b b.Shows b.Boxes)).bind _=_
  rw [hr,Option.bind_some]
  cases r <;> rfl
 ·cases r
  ·right; exact ⟨rfl,fun h=>by simpa using hi.2 h⟩
  ·left; exact ⟨rfl,hi.1 rfl⟩
theorem len_flat {α β:Type}{l:List α}{f:α→List β}{k:Nat} (h:∀ x∈l,(f x).length≤k):(l.flatMap f).length≤l.length*k:=by
 induction l with
 | nil=>simp
 | cons x l ih=>
   rw [List.flatMap_cons,List.length_append,List.length_cons,Nat.add_mul,Nat.one_mul]
   have h1:=h x (List.mem_cons_self ..)
   have h2:=ih fun y hy=>h y (List.mem_cons_of_mem _ hy)
   omega
theorem uses_len (q:Ticket_book):∀ (r:Nat) (c u:List Int) (d:Nat),(usesL q r c u d).length≤8 ^ r
 | 0,_,_,_=>Nat.le_refl _
 | r+1,c,u,d=>by
   unfold usesL
   refine Nat.le_trans (len_flat (k:=8 ^ r) fun s _=>?_) ?_
   ·cases okN q c (u.set d (s:Int)) s d with
    | false=>exact Nat.zero_le _
    | true=>exact uses_len q r _ _ _
   ·rw [List.length_range',Nat.pow_succ,Nat.mul_comm]; exact Nat.le_refl _
theorem cross_len (q:Ticket_book) (t3:q.TicketBook.Tally.Trips≤3) (r5:q.TicketBook.Tally.Room≤5):∀ (r:Nat) (c:List Int) (d:Nat),(crossL q r c d).length≤6 ^ r*512
 | 0,c,d=>by
   unfold crossL
   cases canB q.TicketBook.Tally c with
   | false=>exact Nat.zero_le _
   | true=>
     refine Nat.le_trans (uses_len q _ _ _ _) ?_
     have:(8:Nat) ^ q.TicketBook.Tally.Trips.toNat≤8 ^ 3:=Nat.pow_le_pow_right (by omega) (by omega)
     omega
 | r+1,c,d=>by
   unfold crossL
   refine Nat.le_trans (len_flat (k:=6 ^ r*512) fun s _=>cross_len q t3 r5 r _ _) ?_
   rw [List.length_range',Nat.pow_succ,Nat.mul_comm (6 ^ r) 6,Nat.mul_assoc]
   exact Nat.mul_le_mul_right _ (by omega)
theorem truths_len (q:Ticket_book) (t3:q.TicketBook.Tally.Trips≤3) (r5:q.TicketBook.Tally.Room≤5) (cl:Bool):(truths q cl).length≤110592:=by
 unfold truths
 cases cl with
 | false=>exact Nat.zero_le _
 | true=>
   refine Nat.le_trans (cross_len q t3 r5 _ _ _) ?_
   have:(6:Nat) ^ q.TicketBook.Tally.Trips.toNat≤6 ^ 3:=Nat.pow_le_pow_right (by omega) (by omega)
   omega
theorem foldY_span {a:Ticket_truth→Option Int} (g:Ticket_truth→Int):∀ (L:List Ticket_truth) (z:List Int),(∀ x∈L,a x=some (g x))→z.length+L.length≤200000→∃ z',foldY (yvOf (ticket_book_span_r2 a)) L (0,z)=some (true,0,z')∧z'.length≤200000∧∀ v,v∈z' ↔v∈z∨∃ x∈L,g x=v
 | [],z,_,h=>⟨z,rfl,by simpa using h,fun v=>by simp⟩
 | x::L,z,h,hl=>by
   rw [List.length_cons] at hl
   have step:∃ z1:List Int,ticket_book_span_r2 a x z=some (true,0,z1)∧z1.length≤z.length+1∧∀ v,v∈z1↔v∈z∨g x=v:=by
    unfold ticket_book_span_r2
    rw [h x (List.mem_cons_self ..),Option.bind_some,has_int _ _ (by omega),Option.bind_some]
    by_cases hm:g x∈z
    ·rw [decide_eq_true hm]
     exact ⟨z,rfl,by omega,fun v=>⟨.inl,fun h=>h.elim id fun h=>h▸hm⟩⟩
    ·rw [decide_eq_false hm,Bool.not_false,cond_true,need_of (fits_of (by simp; omega) (by omega))]
     exact ⟨_,rfl,by simp,fun v=>by simp [eq_comm]⟩
   obtain ⟨z1,e1,e2,e3⟩:=step
   obtain ⟨z',e4,e6,e5⟩:=foldY_span g L z1 (fun y hy=>h y (List.mem_cons_of_mem _ hy)) (by omega)
   refine ⟨z',?_,e6,fun v=>?_⟩
   ·show (ticket_book_span_r2 a x z).bind (fun r=>bif r.1 then foldY (yvOf (ticket_book_span_r2 a)) L r.2 else some (false,r.2))=_
    rw [e1]; exact e4
   ·rw [e5,e3,or_assoc]; simp
theorem min_eq {l:List Int} (hn:l≠[]) (hl:l.length≤1000000):∃ m,sl_Min_int_int l=some m∧m∈l∧∀ x∈l,m≤x:=by
 have h0:0 < l.length:=List.length_pos_iff.2 hn
 unfold sl_Min_int_int
 rw [decide_eq_false (by omega),cond_false,show (0:Int)=((0:Nat):Int) from rfl,getI_ix h0,Option.bind_some]
 refine loopF_inv (body:=sl_Min_int_int_l1 l) (fun z:Int×Int=>∃ k:Nat,z.2=k∧1≤k∧k≤l.length∧z.1∈l∧∀ x∈l.take k,z.1≤x) (fun z=>l.length - z.2.toNat) (fun m=>m∈l∧∀ x∈l,m≤x) ?_ big (l[0],1) ⟨1,rfl,by omega,by omega,List.getElem_mem _,fun x hx=>?_⟩ (by unfold big; simp only; omega)
 ·rintro rec ⟨m,i⟩ ⟨k,h1,h2,h3,h4,h5⟩ ih
  simp only at h1 h4 h5 ih ⊢
  subst h1
  unfold sl_Min_int_int_l1
  simp only
  by_cases hlt:k < l.length
  ·rw [decide_eq_true (by omega),cond_true,getI_ix hlt,Option.bind_some,wrI (by omega) (by omega)]
   refine ih _ ⟨k+1,by simp,by omega,by omega,?_,fun x hx=>?_⟩ (by simp only; omega)
   ·simp only; split
    ·exact List.getElem_mem _
    ·exact h4
   ·rw [List.take_succ_eq_append_getElem hlt,List.mem_append,List.mem_singleton] at hx
    simp only
    rcases hx with hx | rfl
    ·have:=h5 x hx; split <;> omega
    ·split <;> omega
  ·rw [decide_eq_false (by omega),cond_false]
   rw [List.take_of_length_le (by omega)] at h5
   exact ⟨m,rfl,h4,h5⟩
 ·match l,h0 with
  | y::l,_=>simp at hx ⊢; omega
theorem max_eq {l:List Int} (hn:l≠[]) (hl:l.length≤1000000):∃ m,sl_Max_int_int l=some m∧m∈l∧∀ x∈l,x≤m:=by
 have h0:0 < l.length:=List.length_pos_iff.2 hn
 unfold sl_Max_int_int
 rw [decide_eq_false (by omega),cond_false,show (0:Int)=((0:Nat):Int) from rfl,getI_ix h0,Option.bind_some]
 refine loopF_inv (body:=sl_Max_int_int_l1 l) (fun z:Int×Int=>∃ k:Nat,z.2=k∧1≤k∧k≤l.length∧z.1∈l∧∀ x∈l.take k,x≤z.1) (fun z=>l.length - z.2.toNat) (fun m=>m∈l∧∀ x∈l,x≤m) ?_ big (l[0],1) ⟨1,rfl,by omega,by omega,List.getElem_mem _,fun x hx=>?_⟩ (by unfold big; simp only; omega)
 ·rintro rec ⟨m,i⟩ ⟨k,h1,h2,h3,h4,h5⟩ ih
  simp only at h1 h4 h5 ih ⊢
  subst h1
  unfold sl_Max_int_int_l1
  simp only
  by_cases hlt:k < l.length
  ·rw [decide_eq_true (by omega),cond_true,getI_ix hlt,Option.bind_some,wrI (by omega) (by omega)]
   refine ih _ ⟨k+1,by simp,by omega,by omega,?_,fun x hx=>?_⟩ (by simp only; omega)
   ·simp only; split
    ·exact List.getElem_mem _
    ·exact h4
   ·rw [List.take_succ_eq_append_getElem hlt,List.mem_append,List.mem_singleton] at hx
    simp only
    rcases hx with hx | rfl
    ·have:=h5 x hx; split <;> omega
    ·split <;> omega
  ·rw [decide_eq_false (by omega),cond_false]
   rw [List.take_of_length_le (by omega)] at h5
   exact ⟨m,rfl,h4,h5⟩
 ·match l,h0 with
  | y::l,_=>simp at hx ⊢; omega
structure SpT (b:TicketBook) (sh:List TicketShow) (bx:List TicketBox) (g:Ticket_truth→Int) (s:Span):Prop where
 loE:∃ t,Tr b sh bx t∧g t=s.Low
 hiE:∃ t,Tr b sh bx t∧g t=s.High
 all:∀ t,Tr b sh bx t→s.Low≤g t∧g t≤s.High
theorem SpT.le {b:TicketBook}{sh:List TicketShow}{bx:List TicketBox}{g:Ticket_truth→Int}{s:Span} (S:SpT b sh bx g s):s.Low≤s.High:=by
 obtain ⟨t,ht,_⟩:=S.loE
 have:=S.all t ht; omega
theorem span_law {b:TicketBook} (V:VT b) {sh:List TicketShow}{bx:List TicketBox} (P:Pc b sh bx) (C:CanT b sh bx) {a:Ticket_truth→Option Int}{g:Ticket_truth→Int} (h:∀ t,Tr b sh bx t→a t=some (g t)):∃ s,ticket_book_span (qOf b sh bx) a=some s∧SpT b sh bx g s:=by
 obtain ⟨cl,hc,hi⟩:=clear_eq V P
 have hm:=fun t=>mem_truths V P hi (t:=t)
 have hlen:=truths_len (qOf b sh bx) V.t3 V.r5 cl
 obtain ⟨z,e1,e3,e2⟩:=foldY_span (a:=a) g (truths (qOf b sh bx) cl) [] (fun x hx=>h x ((hm x).1 hx)) (by simp; omega)
 have mem:∀ v,v∈z↔∃ t,Tr b sh bx t∧g t=v:=fun v=>by
  rw [e2]
  constructor
  ·rintro (h | ⟨x,hx,h⟩)
   ·cases h
   ·exact ⟨x,(hm x).1 hx,h⟩
  ·rintro ⟨x,hx,h⟩
   exact .inr ⟨x,(hm x).2 hx,h⟩
 have hz:z≠[]:=by
  obtain ⟨t,ht⟩:=C
  exact List.ne_nil_of_mem ((mem _).2 ⟨t,ht,rfl⟩)
 obtain ⟨lo,a1,a2,a3⟩:=min_eq hz (by omega)
 obtain ⟨hi',b1,b2,b3⟩:=max_eq hz (by omega)
 refine ⟨⟨lo,hi'⟩,?_,(mem _).1 a2,(mem _).1 b2,fun t ht=>⟨a3 _ ((mem _).2 ⟨t,ht,rfl⟩),b3 _ ((mem _).2 ⟨t,ht,rfl⟩)⟩⟩
 unfold ticket_book_span ticket_book_truths
 rw [Option.bind_some,truths_eq _ (qOf_op V P) hc,e1]
 show (sl_Min_int_int z).bind (fun r102=>(sl_Max_int_int z).bind fun r104=>some (Span.mk r102 r104))=_
 rw [a1,Option.bind_some,b1,Option.bind_some]
theorem trip_iff {T n:Int}:inB n 0 (T - 1)=true↔0≤n∧n < T:=by rw [inB_iff]; omega
def paidT (f t:Int) (x:Ticket_truth):Int:=paidN x.crossed_ x.used_ f.toNat (t+1 - f).toNat
theorem paid_law {b:TicketBook} (V:VT b) {f t:Int} (h:0≤f∧f≤t∧t < b.Tally.Trips):∃ s e,ticket_Paid b f t=some (s,e)∧((e=0∧Can b∧SpT b b.Shows b.Boxes (paidT f t) s)∨(e=102∧s=⟨0,0⟩∧¬Can b)):=by
 have t3:=V.t3
 obtain ⟨e,he,hc⟩:=askedT V
 unfold ticket_Paid
 rw [isTrip_eq b V.ta.t1 V.ta.t8,Option.bind_some,trip_iff.2 (by omega),cond_true,isTrip_eq b V.ta.t1 V.ta.t8,Option.bind_some,trip_iff.2 (by omega),cond_true,decide_eq_true h.2.1,he,Option.bind_some]
 rcases hc with ⟨rfl,C⟩ | ⟨rfl,C⟩
 ·obtain ⟨s,hs,S⟩:=span_law V V.pc C (a:=fun y33=>ticket_Paid_1 y33 f t) (g:=paidT f t) (fun x hx=>by
   unfold ticket_Paid_1
   obtain ⟨xc,xu⟩:=x
   rw [paid_eq (hx.small V) h.1 h.2.1 (by omega)]; rfl)
  refine ⟨s,0,?_,.inl ⟨rfl,C,S⟩⟩
  unfold ticket_Paid_j1
  show (ticket_book_span (qOf b b.Shows b.Boxes) _).bind _=_
  rw [hs]; rfl
 ·exact ⟨⟨0,0⟩,102,rfl,.inr ⟨rfl,rfl,C⟩⟩
def useC (n:Nat) (x:Ticket_truth):Int:=(if (x.used_.getD 0 0).toNat.testBit n then 1 else 0)+(if (x.used_.getD 1 0).toNat.testBit n then 1 else 0)+(if (x.used_.getD 2 0).toNat.testBit n then 1 else 0)
theorem bitV (s k:Nat) (hk:k < 64):andI (shrI (s:Int) (k:Int)) 1=if s.testBit k then 1 else 0:=by
 rw [shr_nat s k hk,and1_nat,Nat.testBit_eq_decide_div_mod_eq]
 by_cases h:s / 2 ^ k % 2=1
 ·simp [h]
 ·have:s / 2 ^ k % 2=0:=by omega
  simp [this]
def bitC (u:List Int) (d n:Nat):Int:=if (u.getD d 0).toNat.testBit n then 1 else 0
theorem uses_inner {u:List Int} (hu:∀ d,0≤u.getD d 0∧u.getD d 0 < 8) {c:List Int} (d:Nat) (a0 a1 a2:Int) (h0:0≤a0∧a0≤10) (h1:0≤a1∧a1≤10) (h2:0≤a2∧a2≤10) (z:Int×List Int) (hz:z.1=d) (rec:(Int×List Int)→Option (List Int)) (hd:d < 3):loopF (ticket_truth_uses_l3 ⟨c,u⟩ z rec) big (0,[a0,a1,a2])=rec (((d+1:Nat):Int),[a0+bitC u d 0,a1+bitC u d 1,a2+bitC u d 2]):=by
 have hb:∀ n,0≤bitC u d n∧bitC u d n≤1:=fun n=>by unfold bitC; split <;> omega
 have b0:=hb 0; have b1:=hb 1; have b2:=hb 2
 have hud:=hu d
 have ud:((u.getD d 0).toNat:Int)=u.getD d 0:=by omega
 have key:∀ k:Nat,k < 3→andI (shrI (aget u z.1) (k:Int)) 1=bitC u d k:=fun k hk=>by
  rw [hz,agetN,← ud]; exact bitV _ k (by omega)
 refine loop_fold0 (fun k=>((k:Int),match k with | 0=>[a0,a1,a2] | 1=>[a0+bitC u d 0,a1,a2] | 2=>[a0+bitC u d 0,a1+bitC u d 1,a2] | _=>[a0+bitC u d 0,a1+bitC u d 1,a2+bitC u d 2])) 3 (fun rec k hk=>?_) (fun rec=>?_) (by rw [big_eq]; omega) rfl
 ·unfold ticket_truth_uses_l3
  simp only
  rw [decide_eq_true (by omega),cond_true,need_of (by simp [inI]; omega),need_of (by simp),need_of (by simp [inI]; omega),key k hk,wrI (x:=(k:Int)+1) (by omega) (by omega),show (k:Int)+1=((k+1:Nat):Int) by omega]
  match k,hk with
  | 0,_=>exact congrArg rec (Prod.ext rfl (by show aset [a0,a1,a2] 3 0 (Fx.wr (a0+bitC u d 0))=_; rw [wrI (by omega) (by omega)]; rfl))
  | 1,_=>exact congrArg rec (Prod.ext rfl (by show aset [a0+bitC u d 0,a1,a2] 3 1 (Fx.wr (a1+bitC u d 1))=_; rw [wrI (by omega) (by omega)]; rfl))
  | 2,_=>exact congrArg rec (Prod.ext rfl (by show aset [a0+bitC u d 0,a1+bitC u d 1,a2] 3 2 (Fx.wr (a2+bitC u d 2))=_; rw [wrI (by omega) (by omega)]; rfl))
 ·unfold ticket_truth_uses_l3
  simp only
  rw [decide_eq_false (by omega),cond_false,hz,wrI (by omega) (by omega),show (d:Int)+1=((d+1:Nat):Int) by omega]
theorem uses_eq {t:Ticket_truth} (hu:∀ d,0≤t.used_.getD d 0∧t.used_.getD d 0 < 8):ticket_truth_uses t=some [useC 0 t,useC 1 t,useC 2 t]:=by
 obtain ⟨c,u⟩:=t
 have hb:∀ d n,0≤bitC u d n∧bitC u d n≤1:=fun d n=>by unfold bitC; split <;> omega
 have e:∀ n,useC n ⟨c,u⟩=0+bitC u 0 n+bitC u 1 n+bitC u 2 n:=fun n=>by unfold useC bitC; simp only; omega
 unfold ticket_truth_uses ticket_unused
 rw [Option.bind_some,e,e,e]
 have a:=hb 0 0; have a' :=hb 0 1; have a'' :=hb 0 2; have c1:=hb 1 0; have c2:=hb 1 1; have c3:=hb 1 2
 refine loop_fold0 (fun k=>((k:Int),match k with | 0=>[0,0,0] | 1=>[0+bitC u 0 0,0+bitC u 0 1,0+bitC u 0 2] | 2=>[0+bitC u 0 0+bitC u 1 0,0+bitC u 0 1+bitC u 1 1,0+bitC u 0 2+bitC u 1 2] | _=>[0+bitC u 0 0+bitC u 1 0+bitC u 2 0,0+bitC u 0 1+bitC u 1 1+bitC u 2 1,0+bitC u 0 2+bitC u 1 2+bitC u 2 2])) 3 (fun rec k hk=>?_) (fun rec=>?_) (by rw [big_eq]; omega) rfl
 ·unfold ticket_truth_uses_l4
  simp only
  rw [decide_eq_true (by omega),cond_true,need_of (by simp [inI]; omega)]
  match k,hk with
  | 0,_=>exact uses_inner hu 0 0 0 0 (by omega) (by omega) (by omega) _ rfl rec (by omega)
  | 1,_=>exact uses_inner hu 1 _ _ _ (by omega) (by omega) (by omega) _ rfl rec (by omega)
  | 2,_=>exact uses_inner hu 2 _ _ _ (by omega) (by omega) (by omega) _ rfl rec (by omega)
 ·unfold ticket_truth_uses_l4
  simp only
  rw [decide_eq_false (by omega),cond_false]
theorem saved_law {b:TicketBook} (V:VT b) {n:Nat} (h:n < b.Tickets.length):∃ s e,ticket_Saved b n=some (s,e)∧((e=0∧Can b∧SpT b b.Shows b.Boxes (useC n) s)∨(e=102∧s=⟨0,0⟩∧¬Can b)):=by
 have tn:=V.tn
 obtain ⟨e,he,hc⟩:=askedT V
 unfold ticket_Saved
 rw [isTicket_eq b V.arg.tl,Option.bind_some,trip_iff.2 (by omega),he,Option.bind_some]
 rcases hc with ⟨rfl,C⟩ | ⟨rfl,C⟩
 ·obtain ⟨s,hs,S⟩:=span_law V V.pc C (a:=fun y117=>ticket_Saved_1 y117 n) (g:=useC n) (fun x hx=>by
   unfold ticket_Saved_1 ticket_unused
   rw [uses_eq hx.ub,Option.bind_some,Option.bind_some]
   by_cases hz:sgl [useC 0 x,useC 1 x,useC 2 x] 3=sgl (List.replicate 3 0) 3
   ·rw [decide_eq_true hz,cond_true]
    have:useC 0 x=0∧useC 1 x=0∧useC 2 x=0:=by simpa [sgl,List.range_succ] using hz
    match n,h with
    | 0,_=>rw [this.1]
    | 1,_=>rw [this.2.1]
    | 2,_=>rw [this.2.2]
    | n+3,h=>omega
   ·rw [decide_eq_false hz,cond_false,need_of (by simp [inI]; omega),agetN]
    match n,h with
    | 0,_=>rfl
    | 1,_=>rfl
    | 2,_=>rfl
    | n+3,h=>omega)
  refine ⟨s,0,?_,.inl ⟨rfl,C,S⟩⟩
  simp only [bne_self_eq_false,cond_false]
  rw [hs]; rfl
 ·exact ⟨⟨0,0⟩,102,rfl,.inr ⟨rfl,rfl,C⟩⟩
def usedB (x:Ticket_truth) (n d:Nat):Bool:=(x.used_.getD d 0).toNat.testBit n
theorem always_eq {b:TicketBook} (V:VT b) {sh:List TicketShow}{bx:List TicketBox} (P:Pc b sh bx) {n d:Nat} (hn:n < 3) (hd:d < 3):∃ r,ticket_book_always (qOf b sh bx) n d=some r∧(r=true↔∀ t,Tr b sh bx t→usedB t n d=true):=by
 obtain ⟨cl,hc,hi⟩:=clear_eq V P
 have hm:=fun t=>mem_truths V P hi (t:=t)
 have F:=foldY_find (ticket_book_always_r1 d n) (fun x=>!usedB x n d) () () (truths (qOf b sh bx) cl) (fun x hx=>by
  have hu:=((hm x).1 hx).ub d
  unfold ticket_book_always_r1
  rw [need_of (by simp [inI]; omega),need_of (by simp),agetN,show x.used_.getD d 0=(((x.used_.getD d 0).toNat:Nat):Int) by omega,bitV _ n (by omega)]
  unfold usedB
  cases (x.used_.getD d 0).toNat.testBit n <;> rfl)
 refine ⟨!(truths (qOf b sh bx) cl).any fun x=>!usedB x n d,?_,?_⟩
 ·unfold ticket_book_always ticket_book_truths
  rw [Option.bind_some,truths_eq _ (qOf_op V P) hc,F]
  cases (truths (qOf b sh bx) cl).any fun x=>!usedB x n d <;> rfl
 ·rw [Bool.not_eq_true',List.any_eq_false]
  refine forall_congr' fun x=>?_
  rw [hm]
  simp
theorem sometimes_eq {b:TicketBook} (V:VT b) {sh:List TicketShow}{bx:List TicketBox} (P:Pc b sh bx) {n d:Nat} (hn:n < 3) (hd:d < 3):∃ r,ticket_book_sometimes (qOf b sh bx) n d=some r∧(r=true↔∃ t,Tr b sh bx t∧usedB t n d=true):=by
 obtain ⟨cl,hc,hi⟩:=clear_eq V P
 have hm:=fun t=>mem_truths V P hi (t:=t)
 have F:=foldY_find (ticket_book_sometimes_r1 d n) (fun x=>usedB x n d) false true (truths (qOf b sh bx) cl) (fun x hx=>by
  have hu:=((hm x).1 hx).ub d
  unfold ticket_book_sometimes_r1
  rw [need_of (by simp [inI]; omega),need_of (by simp),agetN,show x.used_.getD d 0=(((x.used_.getD d 0).toNat:Nat):Int) by omega,bitV _ n (by omega)]
  unfold usedB
  cases (x.used_.getD d 0).toNat.testBit n <;> rfl)
 refine ⟨(truths (qOf b sh bx) cl).any fun x=>usedB x n d,?_,?_⟩
 ·unfold ticket_book_sometimes ticket_book_truths
  rw [Option.bind_some,truths_eq _ (qOf_op V P) hc,F]
  cases (truths (qOf b sh bx) cl).any fun x=>usedB x n d <;> rfl
 ·rw [List.any_eq_true]
  exact exists_congr fun x=>and_congr_left fun _=>hm x
structure Lst (n:Nat) (p:Nat→Prop) (l:List Int):Prop where
 clm:Clm l n
 mem:∀ k:Nat,(k:Int)∈l↔k < n∧p k
theorem lst_loop {body:(List Int×Int→Option (List Int×Int))→List Int×Int→Option (List Int×Int)} (n:Nat) (hn:n≤1000) (p:Nat→Prop) (hs:∀ rec (l:List Int) k,k < n→l.length≤k→∃ r:Bool,(r=true↔p k)∧body rec (l,(k:Int))=rec (bif r then l++[(k:Int)] else l,((k+1:Nat):Int))) (he:∀ rec l,body rec (l,(n:Int))=some (l,0)):∃ l,loopF body big ([],0)=some (l,0)∧Lst n p l:=by
 refine Exists.elim (loopF_inv (body:=body) (fun z:List Int×Int=>∃ k:Nat,z.2=k∧k≤n∧z.1.length≤k∧Clm z.1 k∧∀ j:Nat,(j:Int)∈z.1↔j < k∧p j) (fun z=>n - z.2.toNat) (fun r=>∃ l,r=(l,0)∧Lst n p l) ?_ big ([],0) ⟨0,rfl,Nat.zero_le _,Nat.le_refl _,Clm.nil,fun j=>by simp⟩ (by unfold big; simp; omega)) fun r ⟨h1,l,h2,h3⟩=>⟨l,by rw [h1,h2],h3⟩
 rintro rec ⟨l,i⟩ ⟨k,h1,h2,h3,h4,h5⟩ ih
 simp only at h1 h3 h4 h5 ih
 subst h1
 by_cases hk:k < n
 ·obtain ⟨r,hr,hb⟩:=hs rec l k hk h3
  rw [hb]
  have up:Clm l ((k+1:Nat):Int):=fun i x hx=>by
   have:=h4 i x hx
   exact ⟨this.1,by omega,this.2.2⟩
  cases r with
  | true=>
    refine ih _ ⟨k+1,rfl,hk,by simp; omega,up.snoc (by omega) (by omega) (fun y hy=>?_),fun j=>?_⟩ (by simp only; omega)
    ·rw [List.getLast?_eq_getElem?] at hy
     exact (h4 _ _ hy).2.1
    ·simp only [cond_true,List.mem_append,List.mem_singleton,h5]
     constructor
     ·rintro (⟨a,b⟩ | a)
      ·exact ⟨by omega,b⟩
      ·have:j=k:=by omega
       subst this; exact ⟨by omega,hr.1 rfl⟩
     ·rintro ⟨a,b⟩
      by_cases hj:j=k
      ·right; rw [hj]
      ·left; exact ⟨by omega,b⟩
  | false=>
    refine ih _ ⟨k+1,rfl,hk,by simp; omega,up,fun j=>?_⟩ (by simp only; omega)
    simp only [cond_false,h5]
    constructor
    ·rintro ⟨a,b⟩; exact ⟨by omega,b⟩
    ·rintro ⟨a,b⟩
     refine ⟨?_,b⟩
     by_cases hj:j=k
     ·subst hj; have:=hr.2 b; cases this
     ·omega
 ·obtain rfl:k=n:=by omega
  rw [he]
  exact ⟨_,rfl,l,rfl,h4,h5⟩
theorem must_law {b:TicketBook} (V:VT b) {d:Nat} (h:(d:Int) < b.Tally.Trips):∃ l e,ticket_Must b d=some (l,e)∧((e=0∧Can b∧Lst b.Tickets.length (fun n=>∀ t,Tr b b.Shows b.Boxes t→usedB t n d=true) l)∨(e=102∧l=[]∧¬Can b)):=by
 have tn:=V.tn; have t3:=V.t3
 obtain ⟨e,he,hc⟩:=askedT V
 unfold ticket_Must ticket_used
 rw [isTrip_eq b V.ta.t1 V.ta.t8,Option.bind_some,trip_iff.2 (by omega),he,Option.bind_some]
 rcases hc with ⟨rfl,C⟩ | ⟨rfl,C⟩
 ·obtain ⟨l,hl,L⟩:=lst_loop (body:=ticket_used_l4 b 0 (qOf b b.Shows b.Boxes,0) d) b.Tickets.length (by omega) (fun n=>∀ t,Tr b b.Shows b.Boxes t→usedB t n d=true) (fun rec l k hk hl=>by
   obtain ⟨r,hr,hi⟩:=always_eq V V.pc (n:=k) (d:=d) (by omega) (by omega)
   refine ⟨r,hi,?_⟩
   unfold ticket_used_l4
   simp only
   rw [decide_eq_true (by omega),cond_true,need_of (by decide),show ((0:Int)==0)=true from rfl,cond_true,hr,Option.bind_some,wrI (by omega) (by omega),show (k:Int)+1=((k+1:Nat):Int) by omega]
   cases r with
   | true=>rw [cond_true,need_of (fits_small (by simp; omega) (by omega))]; rfl
   | false=>rfl) (fun rec l=>by
   unfold ticket_used_l4
   simp only
   rw [decide_eq_false (by omega),cond_false])
  refine ⟨l,0,?_,.inl ⟨rfl,C,L⟩⟩
  simp only [bne_self_eq_false,cond_false]
  rw [hl]; rfl
 ·exact ⟨[],102,rfl,.inr ⟨rfl,rfl,C⟩⟩
theorem may_law {b:TicketBook} (V:VT b) {d:Nat} (h:(d:Int) < b.Tally.Trips):∃ l e,ticket_May b d=some (l,e)∧((e=0∧Can b∧Lst b.Tickets.length (fun n=>∃ t,Tr b b.Shows b.Boxes t∧usedB t n d=true) l)∨(e=102∧l=[]∧¬Can b)):=by
 have tn:=V.tn; have t3:=V.t3
 obtain ⟨e,he,hc⟩:=askedT V
 unfold ticket_May ticket_used
 rw [isTrip_eq b V.ta.t1 V.ta.t8,Option.bind_some,trip_iff.2 (by omega),he,Option.bind_some]
 rcases hc with ⟨rfl,C⟩ | ⟨rfl,C⟩
 ·obtain ⟨l,hl,L⟩:=lst_loop (body:=ticket_used_l4 b 1 (qOf b b.Shows b.Boxes,0) d) b.Tickets.length (by omega) (fun n=>∃ t,Tr b b.Shows b.Boxes t∧usedB t n d=true) (fun rec l k hk hl=>by
   obtain ⟨r,hr,hi⟩:=sometimes_eq V V.pc (n:=k) (d:=d) (by omega) (by omega)
   refine ⟨r,hi,?_⟩
   unfold ticket_used_l4
   simp only
   rw [decide_eq_true (by omega),cond_true,need_of (by decide),show ((1:Int)==0)=false from rfl,cond_false,hr,Option.bind_some,wrI (by omega) (by omega),show (k:Int)+1=((k+1:Nat):Int) by omega]
   cases r with
   | true=>rw [cond_true,need_of (fits_small (by simp; omega) (by omega))]; rfl
   | false=>rfl) (fun rec l=>by
   unfold ticket_used_l4
   simp only
   rw [decide_eq_false (by omega),cond_false])
  refine ⟨l,0,?_,.inl ⟨rfl,C,L⟩⟩
  simp only [bne_self_eq_false,cond_false]
  rw [hl]; rfl
 ·exact ⟨[],102,rfl,.inr ⟨rfl,rfl,C⟩⟩
end Go.Proofs.YtafhljljfglfeaaDoor
namespace Go.Proofs.YtafhljljfglfeaaDoor
open Go Go.Fx
end Go.Proofs.YtafhljljfglfeaaDoor
namespace Go.Proofs.YtafhljljfglfeaaDoor
open Go Go.Fx
set_option maxRecDepth 100000 in
theorem punched_t:law_punched=some true:=by kernel_rfl
end Go.Proofs.YtafhljljfglfeaaDoor
namespace Go.Proofs.YtafhljljfglfeaaDoor
open Go Go.Fx Go.Proofs
end Go.Proofs.YtafhljljfglfeaaDoor
namespace Go.Proofs.YtafhljljfglfeaaDoor
open Go Go.Fx
def useTo (n:Nat) (x:Ticket_truth):Nat→Int
 | 0=>0
 | k+1=>useTo n x k+(if usedB x n k then 1 else 0)
theorem useTo_end {b:TicketBook} (V:VT b) {sh:List TicketShow}{bx:List TicketBox}{x:Ticket_truth} (h:Tr b sh bx x) (n:Nat):useTo n x b.Tally.Trips.toNat=useC n x:=by
 have t1:=V.ta.t1; have t3:=V.t3
 have z:∀ d:Nat,b.Tally.Trips≤d→usedB x n d=false:=fun d hd=>by unfold usedB; rw [h.uz d hd]; simp
 have e:useC n x=useTo n x 3:=by unfold useC useTo useTo useTo useTo usedB; omega
 rw [e]
 have c:b.Tally.Trips=1∨b.Tally.Trips=2∨b.Tally.Trips=3:=by omega
 rcases c with c | c | c
 ·have z1:=z 1 (by omega); have z2:=z 2 (by omega)
  rw [c]; simp [useTo,z1,z2]
 ·have z2:=z 2 (by omega)
  rw [c]; simp [useTo,z2]
 ·rw [c]; rfl
end Go.Proofs.YtafhljljfglfeaaDoor
namespace Go.Proofs.YtafhljljfglfeaaDoor
open Go Go.Fx
theorem wr_ex (x:Int):∃ m:Int,Fx.wr x=x+18446744073709551616*m∧-9223372036854775808≤Fx.wr x∧Fx.wr x≤9223372036854775807:=by
 refine ⟨(Fx.wr x - x) / 18446744073709551616,?_⟩
 simp only [Fx.wr,IntKind.wrap,IntKind.bits,IntKind.signed]
 simp
 omega
theorem inj10 (c:Int) {i j:Int} (h:j=i+1∨j=i+2):(Fx.wr (i+c)) % 10≠(Fx.wr (j+c)) % 10:=by
 obtain ⟨m,a1,a2,a3⟩:=wr_ex (i+c)
 obtain ⟨k,b1,b2,b3⟩:=wr_ex (j+c)
 generalize Fx.wr (i+c)=a at*
 generalize Fx.wr (j+c)=b at*
 have:b=a+(j - i)∨b=a+(j - i) - 18446744073709551616:=by omega
 rcases h with rfl | rfl <;> rcases this with rfl | rfl <;> omega
theorem mod10 (a:Int):B_Mod a 10=some (a % 10):=by
 unfold B_Mod modI
 rw [decide_eq_false (by omega),cond_false,need_of (by simp),Int.tmod_eq_emod]
 by_cases h:0≤a∨10 ∣ a
 ·rw [if_pos h,decide_eq_false (by omega),cond_false]; simp
 ·rw [if_neg h,decide_eq_true (by omega),cond_true,wrI (by omega) (by omega)]; simp
theorem choose_ok (l:List Int) (hl:l.length≤9223372036854775807) (i:Int):∃ r,B_Choose l i=some r:=by
 unfold B_Choose
 by_cases h:l.length=0
 ·rw [show ((l.length:Int)==0)=true by simp [h],cond_true]
  exact ⟨0,rfl⟩
 ·rw [show ((l.length:Int)==0)=false by simp; exact fun h' =>h (by simp [h']),cond_false]
  obtain ⟨r,hr,h0,h1⟩:=mod_ok i l.length (by omega) (by omega)
  obtain ⟨r,rfl⟩:=Int.eq_ofNat_of_zero_le h0
  rw [hr,Option.bind_some,getI_nat,List.getElem?_eq_getElem (show r < l.length by omega)]
  exact ⟨_,rfl⟩
def cntR (r:List Int):Int:=(if 0≤r.getD 0 (-1) then 1 else 0)+(if 0≤r.getD 1 (-1) then 1 else 0)+(if 0≤r.getD 2 (-1) then 1 else 0)
theorem cntR_snoc {l:List Int} (h:l.length < 3) (x:Int):cntR (l++[x])=cntR l+(if 0≤x then 1 else 0):=by
 match l,h with
 | [],_=>simp [cntR]
 | [a],_=>simp [cntR]
 | [a,b],_=>simp [cntR]
theorem cntR_bd (r:List Int):0≤cntR r∧cntR r≤3:=by
 unfold cntR; split <;> split <;> split <;> omega
def setR (r:List Int):Nat:=(if 0≤r.getD 0 (-1) then 1 else 0)+(if 0≤r.getD 1 (-1) then 2 else 0)+(if 0≤r.getD 2 (-1) then 4 else 0)
theorem setR_lt (r:List Int):setR r < 8:=by
 unfold setR; split <;> split <;> split <;> decide
theorem setR_pop (r:List Int):popN (setR r)=cntR r:=by
 unfold setR cntR; split <;> split <;> split <;> decide
theorem setB_bit:∀ a b c:Bool,(((bif a then 1 else 0)+(bif b then 2 else 0)+(bif c then 4 else 0):Nat).testBit 0=a)∧(((bif a then 1 else 0)+(bif b then 2 else 0)+(bif c then 4 else 0):Nat).testBit 1=b)∧(((bif a then 1 else 0)+(bif b then 2 else 0)+(bif c then 4 else 0):Nat).testBit 2=c):=by decide
theorem setR_bit (r:List Int) {i:Nat} (h:i < 3):(setR r).testBit i=true↔0≤r.getD i (-1):=by
 have e:setR r=(bif decide (0≤r.getD 0 (-1)) then 1 else 0)+(bif decide (0≤r.getD 1 (-1)) then 2 else 0)+(bif decide (0≤r.getD 2 (-1)) then 4 else 0):=by
  unfold setR
  simp only [Bool.cond_decide]
 have k:=setB_bit (decide (0≤r.getD 0 (-1))) (decide (0≤r.getD 1 (-1))) (decide (0≤r.getD 2 (-1)))
 rw [e]
 match i,h with
 | 0,_=>rw [k.1,decide_eq_true_iff]
 | 1,_=>rw [k.2.1,decide_eq_true_iff]
 | 2,_=>rw [k.2.2,decide_eq_true_iff]
structure RowT (b:TicketBook) (d:Nat) (n:Int) (r:List Int):Prop where
 len:r.length=b.Tickets.length
 bnd:∀ (i:Nat) x,r[i]? =some x→-1≤x∧x≤9
 ins:∀ (i:Nat) x,r[i]? =some x→0≤x→∃ s,b.Tickets[i]? =some s∧s.From≤d∧(d:Int)≤s.To
 inj:∀ (i j:Nat) x,r[i]? =some x→r[j]? =some x→0≤x→i=j
 cnt:cntR r≤n
structure KnT (b:TicketBook) (k:Law10_known):Prop where
 c:(k.crossed_.length:Int)=b.Tally.Trips
 u:k.users_.length=k.crossed_.length
 cb:∀ (d:Nat) x,k.crossed_[d]? =some x→0≤x∧x≤b.Tally.Room
 rows:∀ (d:Nat) x r,k.crossed_[d]? =some x→k.users_[d]? =some r→RowT b d x r
structure MakeT (b:TicketBook) (c:Int) (d:Nat) (n:Int) (next:Int) (l:List Int):Prop where
 bnd:∀ (i:Nat) x,l[i]? =some x→-1≤x∧x≤9
 ins:∀ (i:Nat) x,l[i]? =some x→0≤x→∃ s,b.Tickets[i]? =some s∧s.From≤d∧(d:Int)≤s.To
 inj:∀ (i j:Nat) x,l[i]? =some x→l[j]? =some x→0≤x→i=j
 vals:∀ (i:Nat) x,l[i]? =some x→0≤x→∃ j:Nat,(j:Int) < next∧x=(Fx.wr ((j:Int)+c)) % 10
 cnt:cntR l=next
 le:next≤n
theorem get_snoc {α:Type}{l:List α}{v x:α}{i:Nat} (h:(l++[v])[i]? =some x):(i < l.length∧l[i]? =some x)∨(i=l.length∧x=v):=by
 by_cases hi:i < l.length
 ·rw [List.getElem?_append_left hi] at h; exact .inl ⟨hi,h⟩
 ·rw [List.getElem?_append_right (by omega),List.getElem?_singleton] at h
  split at h
  ·exact .inr ⟨by omega,by cases h; rfl⟩
  ·cases h
theorem MakeT.none {b:TicketBook}{c:Int}{d:Nat}{n next:Int}{l:List Int} (M:MakeT b c d n next l) (hl:l.length < 3):MakeT b c d n next (l++[-1]):=by
 refine ⟨fun i x h=>?_,fun i x h h0=>?_,fun i j x h k h0=>?_,fun i x h h0=>?_,?_,M.le⟩
 ·rcases get_snoc h with ⟨_,h⟩ | ⟨_,rfl⟩
  ·exact M.bnd i x h
  ·omega
 ·rcases get_snoc h with ⟨_,h⟩ | ⟨_,rfl⟩
  ·exact M.ins i x h h0
  ·omega
 ·rcases get_snoc h with ⟨_,h⟩ | ⟨_,rfl⟩
  ·rcases get_snoc k with ⟨_,k⟩ | ⟨_,rfl⟩
   ·exact M.inj i j x h k h0
   ·omega
  ·omega
 ·rcases get_snoc h with ⟨_,h⟩ | ⟨_,rfl⟩
  ·exact M.vals i x h h0
  ·omega
 ·rw [cntR_snoc hl,M.cnt]; simp
theorem MakeT.one {b:TicketBook}{c:Int}{d:Nat}{n next:Int}{l:List Int} (M:MakeT b c d n next l) (hl:l.length < 3) (hn:next < n) (n2:next≤2) {s:TicketSeason} (hs:b.Tickets[l.length]? =some s) (h1:s.From≤d) (h2:(d:Int)≤s.To):MakeT b c d n (next+1) (l++[(Fx.wr (next+c)) % 10]):=by
 have n0:0≤next:=by rw [← M.cnt]; exact (cntR_bd l).1
 have v0:0≤(Fx.wr (next+c)) % 10∧(Fx.wr (next+c)) % 10≤9:=by omega
 have fresh:∀ (i:Nat) x,l[i]? =some x→0≤x→x≠(Fx.wr (next+c)) % 10:=fun i x h h0=>by
  obtain ⟨j,hj,rfl⟩:=M.vals i x h h0
  exact inj10 c (by omega)
 refine ⟨fun i x h=>?_,fun i x h h0=>?_,fun i j x h k h0=>?_,fun i x h h0=>?_,?_,by omega⟩
 ·rcases get_snoc h with ⟨_,h⟩ | ⟨_,rfl⟩
  ·exact M.bnd i x h
  ·omega
 ·rcases get_snoc h with ⟨_,h⟩ | ⟨rfl,rfl⟩
  ·exact M.ins i x h h0
  ·exact ⟨s,hs,h1,h2⟩
 ·rcases get_snoc h with ⟨_,h⟩ | ⟨e1,rfl⟩
  ·rcases get_snoc k with ⟨_,k⟩ | ⟨_,e⟩
   ·exact M.inj i j x h k h0
   ·exact absurd e (fresh i x h h0)
  ·rcases get_snoc k with ⟨_,k⟩ | ⟨e2,_⟩
   ·exact absurd rfl (fresh j _ k h0)
   ·omega
 ·rcases get_snoc h with ⟨_,h⟩ | ⟨_,rfl⟩
  ·obtain ⟨j,hj,e⟩:=M.vals i x h h0
   exact ⟨j,by omega,e⟩
  ·exact ⟨next.toNat,by omega,by rw [show ((next.toNat:Nat):Int)=next by omega]⟩
 ·rw [cntR_snoc hl,M.cnt,if_pos v0.1]
theorem truly_law {b:TicketBook} (V:VT b) {bits:List Int} (hb:bits.length≤9223372036854775807):∃ k,law_truly b bits=some k∧KnT b k:=by
 have t1:=V.ta.t1; have t3:=V.t3; have r5:=V.r5; have r0:=V.ta.r0; have tn:=V.tn
 obtain ⟨c,hc⟩:=choose_ok bits hb 1
 unfold law_truly
 refine loopF_inv (body:=law_truly_l73 b bits) (fun z:Int×List Int×List (List Int)=>∃ d:Nat,z.1=d∧(d:Int)≤b.Tally.Trips∧z.2.1.length=d∧z.2.2.length=d∧(∀ (i:Nat) x,z.2.1[i]? =some x→0≤x∧x≤b.Tally.Room)∧∀ (i:Nat) x r,z.2.1[i]? =some x→z.2.2[i]? =some r→RowT b i x r) (fun z=>b.Tally.Trips.toNat - z.1.toNat) (fun k=>KnT b k) ?_ big (0,[],[]) ⟨0,rfl,by omega,rfl,rfl,fun i x h=>by simp at h,fun i x r h=>by simp at h⟩ (by unfold big; simp; omega)
 rintro rec ⟨d',cr,us⟩ ⟨d,h1,h2,h3,h4,h5,h6⟩ ih
 simp only at h1 h3 h4 h5 h6
 subst h1
 unfold law_truly_l73
 simp only
 by_cases hd:(d:Int) < b.Tally.Trips
 case neg=>
  rw [decide_eq_false hd,cond_false]
  exact ⟨_,rfl,by show (cr.length:Int)=_; omega,by show us.length=cr.length; omega,h5,h6⟩
 rw [decide_eq_true hd,cond_true]
 obtain ⟨e,he⟩:=choose_ok bits hb d
 obtain ⟨n,hn,n0,n1⟩:=mod_ok e (b.Tally.Room+1) (by omega) (by omega)
 rw [he,Option.bind_some,wrI (x:=b.Tally.Room+1) (by omega) (by omega),hn,Option.bind_some]
 refine loopF_inv (body:=law_truly_l72 b ((d:Int),cr,us) n bits rec) (fun z:Int×List Int×Int=>∃ i:Nat,z.2.2=i∧i≤b.Tickets.length∧z.2.1.length=i∧MakeT b c d n z.1 z.2.1) (fun z=>b.Tickets.length - z.2.2.toNat) (fun k=>KnT b k) ?_ big (0,[],0) ⟨0,rfl,Nat.zero_le _,rfl,fun i x h=>by simp at h,fun i x h=>by simp at h,fun i j x h=>by simp at h,fun i x h=>by simp at h,by simp [cntR],n0⟩ (by unfold big; simp; omega)
 rintro rec2 ⟨next,l,i'⟩ ⟨i,g1,g2,g3,M⟩ ih2
 simp only at g1 g3 M
 subst g1
 have nb:=cntR_bd l
 have nl:cntR l≤l.length:=by
  match l,(show l.length≤3 by omega) with
  | [],_=>simp [cntR]
  | [a],_=>simp [cntR]; split <;> omega
  | [a,b],_=>simp [cntR]; split <;> split <;> omega
  | [a,b,c],_=>exact (cntR_bd _).2
 rw [M.cnt] at nb nl
 unfold law_truly_l72
 simp only
 by_cases hi:i < b.Tickets.length
 case neg=>
  rw [decide_eq_false (by omega),cond_false,need_of (fits_small (by simp; omega) (by omega)),need_of (fits_small (by simp; omega) (by omega)),wrI (x:=(d:Int)+1) (by omega) (by omega)]
  refine ih _ ⟨d+1,by simp,by omega,by simp [h3],by simp [h4],fun j x h=>?_,fun j x r h h' =>?_⟩ (by (try simp only); omega)
  ·rcases get_snoc h with ⟨_,h⟩ | ⟨_,rfl⟩
   ·exact h5 j x h
   ·omega
  ·rcases get_snoc h with ⟨j1,h⟩ | ⟨j1,rfl⟩
   ·rcases get_snoc h' with ⟨_,h'⟩ | ⟨j2,_⟩
    ·exact h6 j x r h h'
    ·omega
   ·rcases get_snoc h' with ⟨j2,_⟩ | ⟨_,rfl⟩
    ·omega
    ·have:j=d:=by omega
     subst this
     exact ⟨by omega,M.bnd,M.ins,M.inj,by rw [M.cnt]; exact M.le⟩
 have hs:=List.getElem?_eq_getElem hi
 generalize b.Tickets[i]=s at hs
 have wi:Fx.wr ((i:Int)+1)=((i+1:Nat):Int):=by rw [wrI (by omega) (by omega)]; omega
 have no:∃ r,law_truly_j71 bits (next,l,(i:Int)) rec2 false=some r∧KnT b r:=by
  unfold law_truly_j71 law_truly_j70
  simp only
  rw [cond_false,need_of (fits_small (by simp; omega) (by omega)),wi]
  exact ih2 _ ⟨i+1,rfl,by omega,by simp [g3],M.none (by omega)⟩ (by (try simp only); omega)
 rw [decide_eq_true (by omega),cond_true,getI_nat,hs,Option.bind_some,inside_eq,Option.bind_some]
 cases hin:inB (d:Int) s.From s.To with
 | false=>rw [cond_false]; exact no
 | true=>
   rw [cond_true]
   by_cases hnx:next < n
   case neg=>rw [decide_eq_false hnx,cond_false]; exact no
   rw [decide_eq_true hnx,cond_true]
   obtain ⟨v,hv⟩:=choose_ok bits hb (Fx.wr (Fx.wr ((d:Int)+(i:Int))+1))
   rw [hv,Option.bind_some,need_of (by decide)]
   cases (modI v 2==0) with
   | false=>exact no
   | true=>
     have hin:=inB_iff.1 hin
     unfold law_truly_j71 law_truly_j70
     simp only
     rw [cond_true,hc,Option.bind_some,mod10,Option.bind_some,need_of (fits_small (by simp; omega) (by omega)),wi,wrI (x:=next+1) (by omega) (by omega)]
     exact ih2 _ ⟨i+1,rfl,by omega,by simp [g3],M.one (by omega) hnx (by omega) (by rw [g3]; exact hs) hin.1 hin.2⟩ (by (try simp only); omega)
end Go.Proofs.YtafhljljfglfeaaDoor
namespace Go.Proofs.YtafhljljfglfeaaDoor
open Go Go.Fx
def trOfK (k:Law10_known):Ticket_truth:=⟨(List.range 3).map fun d=>k.crossed_.getD d 0,(List.range 3).map fun d=>((setR (k.users_.getD d []):Nat):Int)⟩
theorem get3 {α:Type} (f:Nat→α) (z:α) (d:Nat) (h:3≤d→f d=z):((List.range 3).map f).getD d z=f d:=by
 rw [List.getD_eq_getElem?_getD]
 by_cases hd:d < 3
 ·rw [List.getElem?_map,List.getElem?_range hd]; rfl
 ·rw [List.getElem?_eq_none (by simp; omega),h (by omega)]; rfl
theorem KnT.three {b:TicketBook} (V:VT b) {k:Law10_known} (K:KnT b k):k.crossed_.length≤3∧k.users_.length≤3:=by
 have:=V.t3; have:=K.c; have:=K.u; omega
theorem trK_c {b:TicketBook} (V:VT b) {k:Law10_known} (K:KnT b k) (d:Nat):(trOfK k).crossed_.getD d 0=k.crossed_.getD d 0:=
 get3 (fun d=>k.crossed_.getD d 0) 0 d fun h=>by
  have:=(K.three V).1
  show k.crossed_.getD d 0=0
  rw [List.getD_eq_getElem?_getD,List.getElem?_eq_none (by omega)]; rfl
theorem trK_u {b:TicketBook} (V:VT b) {k:Law10_known} (K:KnT b k) (d:Nat):(trOfK k).used_.getD d 0=((setR (k.users_.getD d []):Nat):Int):=
 get3 (fun d=>((setR (k.users_.getD d []):Nat):Int)) 0 d fun h=>by
  have:=(K.three V).2
  show ((setR (k.users_.getD d []):Nat):Int)=0
  rw [List.getD_eq_getElem?_getD,List.getElem?_eq_none (by omega)]; rfl
theorem KnT.at {b:TicketBook}{k:Law10_known} (K:KnT b k) {d:Nat} (h:(d:Int) < b.Tally.Trips):∃ x r,k.crossed_[d]? =some x∧k.users_[d]? =some r∧0≤x∧x≤b.Tally.Room∧RowT b d x r∧k.crossed_.getD d 0=x∧k.users_.getD d []=r:=by
 have h1:=K.c; have h2:=K.u
 have e1:=List.getElem?_eq_getElem (show d < k.crossed_.length by omega)
 have e2:=List.getElem?_eq_getElem (show d < k.users_.length by omega)
 have:=K.cb d _ e1
 exact ⟨_,_,e1,e2,this.1,this.2,K.rows d _ _ e1 e2,by rw [List.getD_eq_getElem?_getD,e1]; rfl,by rw [List.getD_eq_getElem?_getD,e2]; rfl⟩
theorem takeK {b:TicketBook} (V:VT b) {k:Law10_known} (K:KnT b k):(trOfK k).crossed_.take b.Tally.Trips.toNat=k.crossed_:=by
 have h1:=K.c; have t3:=V.t3
 refine List.ext_getElem? fun d=>?_
 by_cases h:d < k.crossed_.length
 ·rw [List.getElem?_take_of_lt (by omega)]
  unfold trOfK
  simp only
  rw [List.getElem?_map,List.getElem?_range (by omega),List.getElem?_eq_getElem h,Option.map_some,List.getD_eq_getElem?_getD,List.getElem?_eq_getElem h]; rfl
 ·rw [List.getElem?_eq_none (by rw [List.length_take]; omega),List.getElem?_eq_none (by omega)]
theorem cntR_take {r:List Int}{i:Nat} (h3:r.length≤3) (h:i < r.length):cntR (r.take (i+1))=cntR (r.take i)+(if 0≤r[i] then 1 else 0):=by
 rw [List.take_succ_eq_append_getElem h,cntR_snoc (by rw [List.length_take]; omega)]
theorem paidK {b:TicketBook} (V:VT b) {k:Law10_known} (K:KnT b k) {f t:Int} (h:0≤f∧f≤t∧t < b.Tally.Trips):law_paid k f t=some (paidT f t (trOfK k))∧0≤paidT f t (trOfK k)∧paidT f t (trOfK k)≤15:=by
 have t3:=V.t3; have r5:=V.r5; have tn:=V.tn
 obtain ⟨f,rfl⟩:=Int.eq_ofNat_of_zero_le h.1
 have L:∃ r,law_paid k (f:Int) t=some r∧(r=paidT f t (trOfK k)∧0≤r∧r≤15):=by
  unfold law_paid
  refine loopF_inv (body:=law_paid_l4 t k) (fun z:Int×Int=>∃ j:Nat,z.2=((f+j:Nat):Int)∧((f+j:Nat):Int)≤t+1∧z.1=paidN (trOfK k).crossed_ (trOfK k).used_ f j∧0≤z.1∧z.1≤5*(j:Int)) (fun z=>(t+1 - z.2).toNat) (fun r=>r=paidT f t (trOfK k)∧0≤r∧r≤15) ?_ big (0,(f:Int)) ⟨0,by simp,by simp; omega,by simp [paidN],by simp,by simp⟩ (by unfold big; simp; omega)
  rintro rec ⟨p,d'⟩ ⟨j,h1,h2,h3,h4,h5⟩ ih
  simp only at h1 h3 h4 h5
  subst h1
  unfold law_paid_l4
  simp only
  by_cases hd:((f+j:Nat):Int)≤t
  case neg=>
   rw [decide_eq_false hd,cond_false]
   refine ⟨_,rfl,?_,h4,by omega⟩
   unfold paidT
   rw [h3,show ((f:Nat):Int).toNat=f from rfl,show (t+1 - (f:Int)).toNat=j by omega]
  rw [decide_eq_true hd,cond_true]
  obtain ⟨x,r,e1,e2,x0,xR,R,g1,g2⟩:=K.at (d:=f+j) (by omega)
  have hr:=R.len
  rw [getI_nat,e1,Option.bind_some,wrI (x:=p+x) (by omega) (by omega)]
  refine loopF_inv (body:=law_paid_l3 k (p,((f+j:Nat):Int)) rec) (fun z:Int×Int=>∃ i:Nat,z.2=i∧i≤r.length∧z.1=p+x - cntR (r.take i)) (fun z=>r.length - z.2.toNat) (fun r=>r=paidT f t (trOfK k)∧0≤r∧r≤15) ?_ big (p+x,0) ⟨0,rfl,Nat.zero_le _,by simp [cntR]⟩ (by unfold big; simp; omega)
  rintro rec2 ⟨q,i'⟩ ⟨i,k1,k2,k3⟩ ih2
  simp only at k1 k3
  subst k1
  have cb:=cntR_bd (r.take i)
  unfold law_paid_l3
  simp only
  rw [getI_nat,e2,Option.bind_some]
  by_cases hi:i < r.length
  ·rw [decide_eq_true (by omega),cond_true,Option.bind_some,getI_nat,List.getElem?_eq_getElem hi,Option.bind_some,wrI (x:=(i:Int)+1) (by omega) (by omega),wrI (x:=q - 1) (by omega) (by omega)]
   have ct:=cntR_take (by omega) hi
   by_cases h0:r[i]≥0
   ·rw [decide_eq_true h0,cond_true]
    rw [if_pos h0] at ct
    exact ih2 _ ⟨i+1,by simp,by omega,by simp only; omega⟩ (by (try simp only); omega)
   ·rw [decide_eq_false h0,cond_false]
    rw [if_neg h0] at ct
    exact ih2 _ ⟨i+1,by simp,by omega,by simp only; omega⟩ (by (try simp only); omega)
  ·rw [decide_eq_false (by omega),cond_false,wrI (x:=((f+j:Nat):Int)+1) (by omega) (by omega)]
   have hT:r.take i=r:=List.take_of_length_le (by omega)
   rw [hT] at k3
   have hc:=R.cnt
   have hcb:=cntR_bd r
   have hp:pv (trOfK k).crossed_ (trOfK k).used_ (f+j)=x - cntR r:=by
    unfold pv
    rw [trK_c V K,trK_u V K,g1,g2,show (((setR r:Nat):Int)).toNat=setR r from rfl,setR_pop]
   refine ih _ ⟨j+1,by simp; omega,by omega,?_,by simp only; omega,by simp only; omega⟩ (by (try simp only); omega)
   rw [paidN_succ,← h3,hp]
   simp only; omega
 obtain ⟨r,hr,rfl,h0,h1⟩:=L
 exact ⟨hr,h0,h1⟩
structure TeS (b:TicketBook) (k:Law10_known) (y:TicketShow):Prop where
 shw:Shw b.Tally.Trips b.Tickets.length y
 use:∃ r,k.users_[y.Trip.toNat]? =some r∧r[y.Ticket.toNat]? =some y.Walker
structure Rgh (b:TicketBook) (k:Law10_known) (cs:List TallyCount) (sh:List TicketShow) (bx:List TicketBox):Prop where
 c8:cs.length≤8
 s5:sh.length≤5
 b3:bx.length≤3
 cs:∀ y∈cs,Cnt b.Tally.Trips y∧CntQ y (pre k.crossed_)
 sh:∀ y∈sh,TeS b k y
 bx:∀ y∈bx,Box b.Tally.Trips y∧fitsN b.Fare (trOfK k).crossed_ (trOfK k).used_ y=true
theorem rightly_law {b:TicketBook} (V:VT b) {k:Law10_known} (K:KnT b k):∃ x,law_rightly b k=some x∧∃ cs sh bx,x=⟨⟨b.Tally.Trips,b.Tally.Room,cs⟩,b.Fare,b.Tickets,sh,bx⟩∧Rgh b k cs sh bx:=by
 have t1:=V.ta.t1; have t3:=V.t3; have r5:=V.r5; have l8:=V.ta.l8; have sn:=V.sn; have bn:=V.bn; have tn:=V.tn; have hcl:=K.c; have f1:=V.f1; have f20:=V.f20
 unfold law_rightly
 refine loopF_inv (body:=law_rightly_l18 b k) (fun z:Int×List TallyCount=>∃ i:Nat,z.1=i∧i≤b.Tally.Counts.length∧z.2.length≤i∧∀ y∈z.2,Cnt b.Tally.Trips y∧CntQ y (pre k.crossed_)) (fun z=>b.Tally.Counts.length - z.1.toNat) (fun x=>∃ cs sh bx,x=⟨⟨b.Tally.Trips,b.Tally.Room,cs⟩,b.Fare,b.Tickets,sh,bx⟩∧Rgh b k cs sh bx) ?_ big (0,[]) ⟨0,rfl,Nat.zero_le _,Nat.le_refl _,fun y hy=>by simp at hy⟩ (by unfold big; simp; omega)
 rintro rec ⟨i',cs⟩ ⟨i,h1,h2,h3,h4⟩ ih
 simp only at h1 h3 h4
 subst h1
 unfold law_rightly_l18
 simp only
 by_cases hi:i < b.Tally.Counts.length
 ·rw [decide_eq_true (by omega),cond_true,getI_nat,List.getElem?_eq_getElem hi,Option.bind_some]
  have hx:=List.getElem?_eq_getElem hi
  generalize b.Tally.Counts[i]=x at hx
  have hc:=cnt_iff.1 (V.ta.cs x (List.mem_of_getElem? hx))
  obtain ⟨w0,w2,f0,ft,tT,o0,o99,u1,u20,d0,d30,v0,v30,st⟩:=hc
  refine loopF_inv (body:=law_rightly_l15 x k ((i:Int),cs) rec) (fun z:Int×Int=>∃ j:Nat,z.1=x.From+j∧z.1≤x.To+1∧z.2=pre k.crossed_ z.1.toNat - pre k.crossed_ x.From.toNat∧0≤z.2∧z.2≤5*(j:Int)) (fun z=>(x.To+1 - z.1).toNat) (fun x=>∃ cs sh bx,x=⟨⟨b.Tally.Trips,b.Tally.Room,cs⟩,b.Fare,b.Tickets,sh,bx⟩∧Rgh b k cs sh bx) ?_ big (x.From,0) ⟨0,by simp,by simp only; omega,by simp,by simp,by simp⟩ (by unfold big; simp; omega)
  rintro rec2 ⟨d,told⟩ ⟨j,k1,k2,k3,k4,k5⟩ ih2
  simp only at k1 k2 k3 k4 k5
  unfold law_rightly_l15
  simp only
  by_cases hd:d≤x.To
  ·obtain ⟨d,rfl⟩:=Int.eq_ofNat_of_zero_le (show 0≤d by omega)
   obtain ⟨c,r,e1,e2,x0,xR,R,g1,g2⟩:=K.at (d:=d) (by omega)
   rw [decide_eq_true hd,cond_true,getI_nat,e1,Option.bind_some,wrI (x:=(d:Int)+1) (by omega) (by omega),wrI (x:=told+c) (by omega) (by omega)]
   refine ih2 _ ⟨j+1,by simp only; omega,by simp only; omega,?_,by simp only; omega,by simp only; omega⟩ (by (try simp only); omega)
   simp only
   rw [show ((d:Int)+1).toNat=d+1 by omega,pre_succ e1,k3,show ((d:Nat):Int).toNat=d from rfl]
   omega
  ·have hd' :d=x.To+1:=by omega
   subst hd'
   rw [decide_eq_false hd,cond_false,need_of (fits_small (by simp; omega) (by omega)),wrI (x:=(i:Int)+1) (by omega) (by omega)]
   refine ih _ ⟨i+1,by simp,by omega,by simp; omega,fun y hy=>?_⟩ (by (try simp only); omega)
   rcases List.mem_append.1 hy with hy | hy
   ·exact h4 y hy
   ·rw [List.mem_singleton.1 hy]
    refine ⟨⟨w0,w2,f0,ft,tT,k4,by simp only; omega,Int.le_refl 1,by show (1:Int)≤20; decide,d0,d30,v0,v30,st⟩,?_⟩
    unfold CntQ leastV mostV
    simp only
    omega
 ·rw [decide_eq_false (by omega),cond_false]
  refine loopF_inv (body:=law_rightly_l17 b k ((i:Int),cs)) (fun z:Int×List TicketShow=>∃ j:Nat,z.1=j∧j≤b.Shows.length∧z.2.length≤j∧∀ y∈z.2,TeS b k y) (fun z=>b.Shows.length - z.1.toNat) (fun x=>∃ cs sh bx,x=⟨⟨b.Tally.Trips,b.Tally.Room,cs⟩,b.Fare,b.Tickets,sh,bx⟩∧Rgh b k cs sh bx) ?_ big (0,[]) ⟨0,rfl,Nat.zero_le _,Nat.le_refl _,fun y hy=>by simp at hy⟩ (by unfold big; simp; omega)
  rintro rec2 ⟨j',sh⟩ ⟨j,g1,g2,g3,g4⟩ ih2
  simp only at g1 g3 g4
  subst g1
  unfold law_rightly_l17
  simp only
  by_cases hj:j < b.Shows.length
  ·rw [decide_eq_true (by omega),cond_true,getI_nat,List.getElem?_eq_getElem hj,Option.bind_some]
   have hy:=List.getElem?_eq_getElem hj
   generalize b.Shows[j]=y at hy
   obtain ⟨a1,a2,a3,a4,a5,a6⟩:=V.sh y (List.mem_of_getElem? hy)
   obtain ⟨c,r,e1,e2,x0,xR,R,q1,q2⟩:=K.at (d:=y.Trip.toNat) (by omega)
   have hrl:=R.len
   have ew:=List.getElem?_eq_getElem (show y.Ticket.toNat < r.length by omega)
   generalize r[y.Ticket.toNat]'(by omega)=w at ew
   have wb:=R.bnd _ _ ew
   rw [getI_of a1 e2,Option.bind_some,getI_of a3 ew,Option.bind_some,wrI (x:=(j:Int)+1) (by omega) (by omega)]
   by_cases hw:w≥0
   ·rw [decide_eq_true hw,cond_true,need_of (fits_small (by simp; omega) (by omega))]
    refine ih2 _ ⟨j+1,by simp,by omega,by simp; omega,fun z hz=>?_⟩ (by (try simp only); omega)
    rcases List.mem_append.1 hz with hz | hz
    ·exact g4 z hz
    ·rw [List.mem_singleton.1 hz]
     exact ⟨⟨a1,a2,a3,a4,hw,wb.2⟩,r,e2,ew⟩
   ·rw [decide_eq_false hw,cond_false]
    exact ih2 _ ⟨j+1,by simp,by omega,by simp only; omega,g4⟩ (by (try simp only); omega)
  ·rw [decide_eq_false (by omega),cond_false]
   refine loopF_inv (body:=law_rightly_l16 b k ((i:Int),cs) ((j:Int),sh)) (fun z:Int×List TicketBox=>∃ m:Nat,z.1=m∧m≤b.Boxes.length∧z.2.length≤m∧∀ y∈z.2,Box b.Tally.Trips y∧fitsN b.Fare (trOfK k).crossed_ (trOfK k).used_ y=true) (fun z=>b.Boxes.length - z.1.toNat) (fun x=>∃ cs sh bx,x=⟨⟨b.Tally.Trips,b.Tally.Room,cs⟩,b.Fare,b.Tickets,sh,bx⟩∧Rgh b k cs sh bx) ?_ big (0,[]) ⟨0,rfl,Nat.zero_le _,Nat.le_refl _,fun y hy=>by simp at hy⟩ (by unfold big; simp; omega)
   rintro rec3 ⟨m',bx⟩ ⟨m,p1,p2,p3,p4⟩ ih3
   simp only at p1 p3 p4
   subst p1
   unfold law_rightly_l16
   simp only
   by_cases hm:m < b.Boxes.length
   ·rw [decide_eq_true (by omega),cond_true,getI_nat,List.getElem?_eq_getElem hm,Option.bind_some]
    have hy:=List.getElem?_eq_getElem hm
    generalize b.Boxes[m]=y at hy
    obtain ⟨a1,a2,a3,a4,a5,a6,a7⟩:=V.bx y (List.mem_of_getElem? hy)
    obtain ⟨hp,hp0,hp1⟩:=paidK V K (f:=y.From) (t:=y.To) ⟨a1,a2,a3⟩
    have hfd:fitsN b.Fare (trOfK k).crossed_ (trOfK k).used_=fun z=>inB (paidT z.From z.To (trOfK k)*b.Fare) z.Pence (z.Pence+z.Lost):=rfl
    generalize hP:paidT y.From y.To (trOfK k)=P at hp hp0 hp1
    have m1:0≤P*b.Fare:=Int.mul_nonneg hp0 (by omega)
    have m2:P*b.Fare≤15*20:=Int.mul_le_mul hp1 f20 (by omega) (by omega)
    have hd:divI y.Lost 2=y.Lost / 2:=by
     unfold divI
     rw [Int.tdiv_eq_ediv_of_nonneg a6,wrI (by omega) (by omega)]
    rw [hp,Option.bind_some,need_of (by decide),hd,Int.mul_comm b.Fare P,wrI (x:=P*b.Fare) (by omega) (by omega),wrI (x:=P*b.Fare - y.Lost / 2) (by omega) (by omega),need_of (fits_small (by simp; omega) (by omega)),wrI (x:=(m:Int)+1) (by omega) (by omega)]
    refine ih3 _ ⟨m+1,by simp,by omega,by simp; omega,fun z hz=>?_⟩ (by (try simp only); omega)
    rcases List.mem_append.1 hz with hz | hz
    ·exact p4 z hz
    ·rw [List.mem_singleton.1 hz]
     refine ⟨⟨a1,a2,a3,by simp only; split <;> omega,by simp only; split <;> omega,a6,a7⟩,?_⟩
     rw [hfd]
     simp only
     rw [hP,inB_iff]
     split <;> omega
   ·rw [decide_eq_false (by omega),cond_false]
    exact ⟨_,rfl,cs,sh,bx,rfl,by omega,by omega,by omega,h4,g4,p4⟩
end Go.Proofs.YtafhljljfglfeaaDoor
namespace Go.Proofs.YtafhljljfglfeaaDoor
open Go Go.Fx
def nP (b:TicketBook):Nat:=b.Shows.length+b.Boxes.length
theorem VT.np {b:TicketBook} (V:VT b):nP b≤8:=by have:=V.sn; have:=V.bn; unfold nP; omega
def inL (l:List Int) (k:Nat):Bool:=decide ((k:Int)∈l)
def CanO (b:TicketBook) (l:List Int):Prop:=CanT b (outS b (inL l)) (outX b (inL l))
theorem can_o {b:TicketBook} (V:VT b) {l:List Int} (hl:l.length≤1000):∃ r,((ticket_some l).bind fun r28=>(ticket_opened b (Ticket_choice.mk (fun y39=>ticket_some_1 y39 l))).bind fun r40=>(ticket_book_isTrue (Ticket_book.mk (TicketBook.mk (TallyBook.mk r40.TicketBook.Tally.Trips r40.TicketBook.Tally.Room b.Tally.Counts) r40.TicketBook.Fare b.Tickets r40.TicketBook.Shows r40.TicketBook.Boxes) r40.shown_ r40.by_)).bind fun r59=>some (l,r59))=some (l,r)∧(r=true↔CanO b l):=by
 obtain ⟨r,hr,hi⟩:=isTrueT_eq V (V.pco (inL l))
 refine ⟨r,?_,hi⟩
 unfold ticket_some
 rw [Option.bind_some,openedT_eq V (Ticket_choice.mk (fun y39=>ticket_some_1 y39 l)) (inL l) (fun k _=>by
  show ticket_some_1 (k:Int) l=_
  unfold ticket_some_1
  rw [has_int l _ (by omega)]; rfl),Option.bind_some]
 show (ticket_book_isTrue (qOf b (outS b (inL l)) (outX b (inL l)))).bind _=_
 rw [hr]; rfl
def TryOk (b:TicketBook) (l:List Int) (many:Nat) (r:List Int×Bool):Prop:=
 (r.2=true∧Ext (nP b) l many r.1∧CanO b r.1∧∀ o,Ext (nP b) l many o→CanO b o→¬LexLt o r.1)∨
 (r.2=false∧∀ o,Ext (nP b) l many o→¬CanO b o)
theorem try_loop {b:TicketBook} (V:VT b) {l:List Int}{many:Nat} (hm:many≤(nP b)) (hl:l.length < many) (hc:Clm l (nP b)) {rec_:List Int→Int→Option (List Int×Bool)}
 (hrec:∀ v:Int,Clm (l++[v]) (nP b)→∃ r,rec_ (l++[v]) many=some r∧TryOk b (l++[v]) many r) {s:Int} (s0:0≤s) (sn:s≤(nP b)) (s1:∀ y,l.getLast? =some y→y < s)
 (s2:∀ o,Ext (nP b) l many o→∀ x,o[l.length]? =some x→s≤x):∃ r,ticket_Wrong_1_j4 (nP b) l rec_ many s=some r∧TryOk b l many r:=by
 have l8:=V.np
 unfold ticket_Wrong_1_j4
 have at_:∀ o,Ext (nP b) l many o→∃ x,o[l.length]? =some x:=fun o ho=>⟨_,List.getElem?_eq_getElem (by rw [ho.len]; exact hl)⟩
 refine loopF_inv (body:=ticket_Wrong_1_l3 (nP b) l rec_ many) (fun z:Int=>s≤z∧z≤(nP b)∧∀ o,Ext (nP b) l many o→CanO b o→∀ x,o[l.length]? =some x→z≤x) (fun z=>(nP b) - z.toNat) (fun r=>TryOk b l many r) ?_ big s ⟨Int.le_refl _,sn,fun o ho _=>s2 o ho⟩ (by unfold big; simp; omega)
 rintro rec z ⟨h1,h2,h3⟩ ih
 unfold ticket_Wrong_1_l3
 by_cases hz:z < (nP b)
 case neg=>
  rw [decide_eq_false hz,cond_false]
  refine ⟨_,rfl,.inr ⟨rfl,fun o ho hco=>?_⟩⟩
  obtain ⟨x,hx⟩:=at_ o ho
  have:=h3 o ho hco x hx
  have:=(ho.clm _ x hx).2.1
  omega
 rw [decide_eq_true hz,cond_true,need_of (by simp [fitsL]; omega)]
 have hC:Clm (l++[z]) (nP b):=hc.snoc (by omega) hz (fun y hy=>by have:=s1 y hy; omega)
 obtain ⟨⟨out,c⟩,hr,hT⟩:=hrec z hC
 rw [hr,Option.bind_some]
 simp only
 rcases hT with ⟨e,hE,hO,hmin⟩ | ⟨e,hno⟩
 ·simp only at e; subst e
  rw [cond_true]
  refine ⟨_,rfl,.inl ⟨rfl,hE.less.1,hO,fun o ho hco=>?_⟩⟩
  obtain ⟨x,hx⟩:=at_ o ho
  have hzx:=h3 o ho hco x hx
  by_cases hxz:x=z
  ·subst hxz; exact hmin o (ho.more hx) hco
  ·rintro ⟨i,x',y',g1,g2,g3,g4⟩
   simp only at g2 g4
   have hoz:=hE.less.2
   simp only at hoz
   by_cases hi:i < l.length
   ·have hli:=List.getElem?_eq_getElem hi
    have a1:=ho.pre i _ hli
    have a2:=hE.less.1.pre i _ hli
    simp only at a2
    rw [g1] at a1; rw [g2] at a2
    have:=Option.some.inj a1; have:=Option.some.inj a2
    omega
   ·by_cases hil:i=l.length
    ·subst hil
     rw [hx] at g1; rw [hoz] at g2
     have:=Option.some.inj g1; have:=Option.some.inj g2
     omega
    ·have:=g4 l.length (by omega)
     rw [hx,hoz] at this
     exact hxz (Option.some.inj this)
 ·simp only at e; subst e
  rw [cond_false,wrI (by omega) (by omega)]
  refine ih _ ⟨by omega,by omega,fun o ho hco x hx=>?_⟩ (by (try simp only); omega)
  have:=h3 o ho hco x hx
  by_cases hxz:x=z
  ·subst hxz; exact absurd hco (hno o (ho.more hx))
  ·omega
theorem try_eq {b:TicketBook} (V:VT b) {many:Nat} (hm:many≤(nP b)):∀ (d fuel:Nat) (l:List Int),Clm l (nP b)→l.length+d=many→d < fuel→∃ r,ticket_Wrong_1 fuel l many b (nP b)=some r∧TryOk b l many r:=by
 have l8:=V.np
 intro d
 induction d with
 | zero=>
   intro fuel l hc hl hf
   obtain ⟨f,rfl⟩:∃ f,fuel=f+1:=⟨fuel - 1,by omega⟩
   unfold ticket_Wrong_1 ticket_Wrong_1_F
   rw [show ((l.length:Int)==(many:Int))=true by simp; omega,cond_true]
   obtain ⟨r,hr,hi⟩:=can_o V (l:=l) (by omega)
   rw [hr]
   have eq:∀ o,Ext (nP b) l many o→o=l:=fun o ho=>by
    refine (List.ext_getElem? fun i=>?_).symm
    by_cases hi:i < l.length
    ·rw [List.getElem?_eq_getElem hi,ho.pre i _ (List.getElem?_eq_getElem hi)]
    ·rw [List.getElem?_eq_none (by omega),List.getElem?_eq_none (by rw [ho.len]; omega)]
   refine ⟨_,rfl,?_⟩
   cases r with
   | true=>
     refine .inl ⟨rfl,⟨by simp only; omega,hc,fun i x h=>h⟩,hi.1 rfl,fun o ho _=>?_⟩
     rw [eq o ho]
     rintro ⟨i,x,y,h1,h2,h3,_⟩
     simp only at h2
     rw [h1] at h2
     have:=Option.some.inj h2
     omega
   | false=>
     refine .inr ⟨rfl,fun o ho=>?_⟩
     rw [eq o ho]
     exact fun h=>by simpa using hi.2 h
 | succ d ih=>
   intro fuel l hc hl hf
   obtain ⟨f,rfl⟩:∃ f,fuel=f+1:=⟨fuel - 1,by omega⟩
   unfold ticket_Wrong_1 ticket_Wrong_1_F
   rw [show ((l.length:Int)==(many:Int))=false by simp; omega,cond_false]
   have hrec:∀ v:Int,Clm (l++[v]) (nP b)→∃ r,ticket_Wrong_1 f (l++[v]) many b (nP b)=some r∧TryOk b (l++[v]) many r:=fun v hv=>ih f (l++[v]) hv (by (try simp); omega) (by omega)
   by_cases h0:0 < l.length
   ·rw [decide_eq_true (show (l.length:Int) > 0 by omega),cond_true,wrI (x:=(l.length:Int) - 1) (by omega) (by omega),show (l.length:Int) - 1=((l.length - 1:Nat):Int) by omega,getI_nat]
    have hlt:l.length - 1 < l.length:=by omega
    have hx:=List.getElem?_eq_getElem hlt
    generalize l[l.length - 1]=v at hx
    obtain ⟨v0,v1,_⟩:=hc _ _ hx
    rw [hx,Option.bind_some,wrI (x:=v+1) (by omega) (by omega)]
    refine try_loop V hm (by omega) hc hrec (by omega) (by omega) (fun y hy=>?_) (fun o ho x hox=>?_)
    ·rw [List.getLast?_eq_getElem?,hx] at hy
     have:=Option.some.inj hy; omega
    ·have:=(ho.clm _ x hox).2.2 v h0 (ho.pre _ _ hx)
     omega
   ·rw [decide_eq_false (show ¬(l.length:Int) > 0 by omega),cond_false]
    have hn:l=[]:=List.eq_nil_of_length_eq_zero (by omega)
    refine try_loop V hm (by omega) hc hrec (Int.le_refl _) (by omega) (fun y hy=>?_) (fun o ho x hox=>(ho.clm _ x hox).1)
    rw [hn] at hy; cases hy
structure Few (b:TicketBook) (w:List Int):Prop where
 clm:Clm w (nP b)
 can:CanO b w
 len:∀ o,Clm o (nP b)→CanO b o→w.length≤o.length
 lex:∀ o,Clm o (nP b)→CanO b o→o.length=w.length→¬LexLt o w
theorem wrong_law {b:TicketBook} (V:VT b):∃ w e,ticket_Wrong b=some (w,e)∧((e=0∧Few b w)∨(e=102∧w=[]∧∀ o,Clm o (nP b)→¬CanO b o)):=by
 have l8:=V.np
 unfold ticket_Wrong
 rw [checkT_ok V,Option.bind_some]
 simp only [bne_self_eq_false,cond_false]
 refine Exists.elim (loopF_inv (body:=ticket_Wrong_l2 b) (fun z:Int=>∃ k:Nat,z=k∧k≤(nP b)+1∧∀ o,Clm o (nP b)→CanO b o→k≤o.length) (fun z=>(nP b)+1 - z.toNat) (fun r=>∃ w e,r=(w,e)∧((e=0∧Few b w)∨(e=102∧w=[]∧∀ o,Clm o (nP b)→¬CanO b o))) ?_ big 0 ⟨0,rfl,by omega,fun _ _ _=>Nat.zero_le _⟩ (by unfold big; simp; omega)) fun r ⟨h1,w,e,h2,h3⟩=>⟨w,e,by rw [h1,h2],h3⟩
 rintro rec z ⟨k,rfl,hk,hmin⟩ ih
 unfold ticket_Wrong_l2
 rw [show (wr ((b.Shows.length:Int)+(b.Boxes.length:Int)))=((nP b:Nat):Int) by unfold nP at l8 ⊢; rw [wrI (by omega) (by omega)]; omega,wrI (x:=((nP b:Nat):Int)+1) (by omega) (by omega)]
 by_cases hlt:k < (nP b)+1
 ·rw [decide_eq_true (by omega),cond_true]
  obtain ⟨⟨out,c⟩,hr,hT⟩:=try_eq V (many:=k) (by omega) k big [] Clm.nil (by simp) (by unfold big; omega)
  rw [hr,Option.bind_some]
  simp only
  have ext:∀ o,Clm o (nP b)→o.length=k→Ext (nP b) [] k o:=fun o ho hl=>⟨hl,ho,fun i x h=>by simp at h⟩
  rcases hT with ⟨e,hE,hO,hm⟩ | ⟨e,hno⟩
  ·simp only at e; subst e
   rw [cond_true]
   refine ⟨_,rfl,out,0,rfl,.inl ⟨rfl,hE.clm,hO,fun o h1 h2=>by rw [hE.len]; exact hmin o h1 h2,fun o h1 h2 h3=>hm o (ext o h1 (h3.trans hE.len)) h2⟩⟩
  ·simp only at e; subst e
   rw [cond_false,wrI (by omega) (by omega)]
   refine ih _ ⟨k+1,by simp,by omega,fun o h1 h2=>?_⟩ (by (try simp only); omega)
   have:=hmin o h1 h2
   by_cases hok:o.length=k
   ·exact absurd h2 (hno o (ext o h1 hok))
   ·omega
 ·rw [decide_eq_false (by omega),cond_false]
  refine ⟨_,rfl,[],102,rfl,.inr ⟨rfl,rfl,fun o h1 h2=>?_⟩⟩
  have:=hmin o h1 h2
  have:=h1.len (by omega)
  omega
end Go.Proofs.YtafhljljfglfeaaDoor
namespace Go.Proofs.YtafhljljfglfeaaDoor
open Go Go.Fx Go.Proofs
end Go.Proofs.YtafhljljfglfeaaDoor
namespace Go.Proofs.YtafhljljfglfeaaDoor
open Go Go.Fx
def NoC (sh:List TicketShow) (i k:Nat):Prop:=∀ x y,sh[i]? =some x→sh[k]? =some y→clashN x y=false
def ClashP (sh:List TicketShow) (r:Int×Int×Int):Prop:=
 (r.2.2=0∧∃ (i k:Nat) (x y:TicketShow),r.1=i∧r.2.1=k∧i < k∧sh[i]? =some x∧sh[k]? =some y∧clashN x y=true∧∀ i' k' :Nat,i' < k' →(i' < i∨(i' =i∧k' < k))→NoC sh i' k')∨
 (r.2.2=4∧r.1=0∧r.2.1=0∧∀ i k:Nat,i < k→NoC sh i k)
theorem clash_law {b:TicketBook} (V:VT b):∃ r,ticket_Clash b=some r∧ClashP b.Shows r:=by
 have sn:=V.sn
 unfold ticket_Clash
 rw [checkT_ok V,Option.bind_some]
 simp only [bne_self_eq_false,cond_false]
 refine loopF_inv (body:=ticket_Clash_l4 b) (fun z:Int=>∃ i:Nat,z=i∧i≤b.Shows.length∧∀ i' k' :Nat,i' < k' →i' < i→NoC b.Shows i' k') (fun z=>b.Shows.length - z.toNat) (fun r=>ClashP b.Shows r) ?_ big 0 ⟨0,rfl,Nat.zero_le _,fun _ _ _ h=>absurd h (Nat.not_lt_zero _)⟩ (by unfold big; simp; omega)
 rintro rec z ⟨i,rfl,hi,hno⟩ ih
 unfold ticket_Clash_l4
 by_cases hlt:i < b.Shows.length
 case neg=>
  rw [decide_eq_false (by omega),cond_false]
  refine ⟨_,rfl,.inr ⟨rfl,rfl,rfl,fun i' k' h x y hx hy=>?_⟩⟩
  have:=(List.getElem?_eq_some_iff.1 hx).1
  exact hno i' k' h (by omega) x y hx hy
 rw [decide_eq_true (by omega),cond_true,wrI (x:=(i:Int)+1) (by omega) (by omega)]
 refine loopF_inv (body:=ticket_Clash_l3 b i rec) (fun z:Int=>∃ k:Nat,z=k∧i < k∧k≤b.Shows.length∧∀ k' :Nat,i < k' →k' < k→NoC b.Shows i k') (fun z=>b.Shows.length - z.toNat) (fun r=>ClashP b.Shows r) ?_ big _ ⟨i+1,by omega,by omega,by omega,fun k' h1 h2=>by omega⟩ (by unfold big; simp; omega)
 rintro rec2 z ⟨k,rfl,hik,hk,hno2⟩ ih2
 unfold ticket_Clash_l3
 by_cases hkl:k < b.Shows.length
 case neg=>
  rw [decide_eq_false (by omega),cond_false,wrI (x:=(i:Int)+1) (by omega) (by omega)]
  refine ih _ ⟨i+1,by omega,by omega,fun i' k' h1 h2=>?_⟩ (by (try simp only); omega)
  by_cases he:i' =i
  ·subst he
   intro x y hx hy
   have:=(List.getElem?_eq_some_iff.1 hy).1
   exact hno2 k' h1 (by omega) x y hx hy
  ·exact hno i' k' h1 (by omega)
 have hx:=List.getElem?_eq_getElem hlt
 have hy:=List.getElem?_eq_getElem hkl
 rw [decide_eq_true (by omega),cond_true,getI_nat,getI_nat,hx,hy,Option.bind_some,Option.bind_some,clash_eq,Option.bind_some]
 cases hc:clashN b.Shows[i] b.Shows[k] with
 | true=>
   rw [cond_true]
   refine ⟨_,rfl,.inl ⟨rfl,i,k,_,_,rfl,rfl,hik,hx,hy,hc,fun i' k' h1 h2=>?_⟩⟩
   rcases h2 with h2 | ⟨rfl,h2⟩
   ·exact hno i' k' h1 h2
   ·exact hno2 k' h1 h2
 | false=>
   rw [cond_false,wrI (x:=(k:Int)+1) (by omega) (by omega)]
   refine ih2 _ ⟨k+1,by omega,by omega,by omega,fun k' h1 h2=>?_⟩ (by (try simp only); omega)
   by_cases he:k' =k
   ·subst he
    intro x y hx' hy'
    rw [hx] at hx'; rw [hy] at hy'
    cases hx'; cases hy'; exact hc
   ·exact hno2 k' h1 (by omega)
theorem no_can {b:TicketBook}{sh:List TicketShow}{bx:List TicketBox}{x y:TicketShow} (hx:x∈sh) (hy:y∈sh) (hc:clashN x y=true):¬CanT b sh bx:=by
 rintro ⟨t,ht⟩
 have:=cl_iff.1 ht.cl x hx y hy
 rw [hc] at this; cases this
end Go.Proofs.YtafhljljfglfeaaDoor
namespace Go.Proofs.YtafhljljfglfeaaDoor
open Go Go.Fx Go.Proofs
end Go.Proofs.YtafhljljfglfeaaDoor
namespace Go.Proofs.YtafhljljfglfeaaDoor
open Go Go.Fx
theorem trips_in {b:TicketBook} (V:VT b) (x y:Int):∃ f t,B_Mod x b.Tally.Trips=some f∧B_Range f (wr (b.Tally.Trips - 1))=some ⟨f,b.Tally.Trips - 1⟩∧B_Within ⟨f,b.Tally.Trips - 1⟩ y=some t∧0≤f∧f≤t∧t < b.Tally.Trips:=by
 have t1:=V.ta.t1; have t3:=V.t3
 obtain ⟨f,hf,f0,f1⟩:=mod_ok x b.Tally.Trips (by omega) (by omega)
 obtain ⟨r,hr,r0,r1⟩:=mod_ok y (b.Tally.Trips - 1 - f+1) (by omega) (by omega)
 refine ⟨f,f+r,hf,?_,?_,f0,by omega,by omega⟩
 ·unfold B_Range; rw [wrI (by omega) (by omega)]
 ·unfold B_Within
  simp only
  rw [wrI (x:=b.Tally.Trips - 1 - f) (by omega) (by omega),wrI (x:=b.Tally.Trips - 1 - f+1) (by omega) (by omega),hr,Option.bind_some,wrI (by omega) (by omega)]
end Go.Proofs.YtafhljljfglfeaaDoor
namespace Go.Proofs.YtafhljljfglfeaaDoor
open Go Go.Fx Go.Proofs
def law_TicketTrue_l3 (a0:TicketBook) (r34:Law10_known) (r209:Int) (r55:TicketBook) (rec_z_2:(Int×Int)→Option Bool) (z_2:Int×Int):Option Bool:=
 bif decide (z_2.2 < a0.Tally.Trips) then ((getI r34.users_ z_2.2).bind fun r219=>
 (getI r219 r209).bind fun r224=>
 bif decide (r224≥0) then (rec_z_2 (wr (z_2.1+1),wr (z_2.2+1)))
 else (rec_z_2 (z_2.1,wr (z_2.2+1))))
 else ((ticket_Saved (TicketBook.mk r55.Tally r55.Fare a0.Tickets r55.Shows r55.Boxes) r209).bind fun r229=>
 bif (r229.2==0) then ((B_Contains r229.1 z_2.1).bind fun r239=>
 bif r239 then ((law_punched).bind fun r244=>
 some r244)
 else (some false))
 else (some false))
def law_TicketTrue_l4 (a0:TicketBook) (r34:Law10_known) (r99:Int) (r119:(List Int)×Int) (r128:(List Int)×Int) (a2:List Int) (r55:TicketBook) (rec_z_1:Int→Option Bool) (z_1:Int):Option Bool:=
 bif decide (z_1 < (a0.Tickets.length:Int)) then ((getI r34.users_ r99).bind fun r175=>
 (getI r175 z_1).bind fun r180=>
 (B_At r119.1 z_1).bind fun r182=>
 bif decide (r182≥0) then (bif !(decide (r180≥0)) then (some false)
 else ((B_At r128.1 z_1).bind fun r188=>
 bif decide (r188 < 0) then (bif decide (r180≥0) then (some false)
 else (rec_z_1 (wr (z_1+1))))
 else (rec_z_1 (wr (z_1+1)))))
 else ((B_At r128.1 z_1).bind fun r196=>
 bif decide (r196 < 0) then (bif decide (r180≥0) then (some false)
 else (rec_z_1 (wr (z_1+1))))
 else (rec_z_1 (wr (z_1+1)))))
 else (bif ((a0.Tickets.length:Int)==0) then ((law_punched).bind fun r205=>
 some r205)
 else ((B_Mod (aget a2 2) (a0.Tickets.length:Int)).bind fun r209=>
 loopF (law_TicketTrue_l3 a0 r34 r209 r55) big (0,0)))
def law_TicketTrue (a0:TicketBook) (a1:List Int) (a2:List Int):Option Bool:=
 (law_sound a0).bind fun r25=>
 bif !r25 then ((law_punched).bind fun r30=>
 some r30)
 else ((law_truly a0 a1).bind fun r34=>
 (law_rightly a0 r34).bind fun r55=>
 (ticket_Right (TicketBook.mk r55.Tally r55.Fare a0.Tickets r55.Shows r55.Boxes)).bind fun r77=>
 (ticket_Wrong (TicketBook.mk r55.Tally r55.Fare a0.Tickets r55.Shows r55.Boxes)).bind fun r81=>
 (ticket_Clash (TicketBook.mk r55.Tally r55.Fare a0.Tickets r55.Shows r55.Boxes)).bind fun r90=>
 bif (r77.2 != 0) then (some false)
 else (bif (r81.2 != 0) then (some false)
 else (bif (r90.2.2 != 4) then (some false)
 else (bif !r77.1 then (some false)
 else (bif ((r81.1.length:Int) != 0) then (some false)
 else ((B_Mod (aget a2 0) a0.Tally.Trips).bind fun r99=>
 (B_Range r99 (wr (a0.Tally.Trips - 1))).bind fun r103=>
 (B_Within r103 (aget a2 1)).bind fun r105=>
 (ticket_Paid (TicketBook.mk r55.Tally r55.Fare a0.Tickets r55.Shows r55.Boxes) r99 r105).bind fun r110=>
 (ticket_Must (TicketBook.mk r55.Tally r55.Fare a0.Tickets r55.Shows r55.Boxes) r99).bind fun r119=>
 (ticket_May (TicketBook.mk r55.Tally r55.Fare a0.Tickets r55.Shows r55.Boxes) r99).bind fun r128=>
 bif (r110.2 != 0) then (some false)
 else (bif (r119.2 != 0) then (some false)
 else (bif (r128.2 != 0) then (some false)
 else ((law_paid r34 r99 r105).bind fun r149=>
 (B_Contains r110.1 r149).bind fun r151=>
 bif !r151 then (some false)
 else ((B_Climbs r119.1 (a0.Tickets.length:Int)).bind fun r157=>
 bif !r157 then (some false)
 else ((B_Climbs r128.1 (a0.Tickets.length:Int)).bind fun r163=>
 bif !r163 then (some false)
 else (loopF (law_TicketTrue_l4 a0 r34 r99 r119 r128 a2 r55) big 0))))))))))))
set_option maxRecDepth 100000 in
theorem law_TicketTrue_ok {a0:TicketBook}{a1:List Int}{a2:List Int}{A1:Option Addr}{c2:Nat}{A4:Option Addr}{c5:Nat}{A7:Option Addr}{c8:Nat}{A10:Option Addr}{c11:Nat}{A13:Option Addr}{c14:Nat}{w:World}{r:Bool} (H:law_TicketTrue a0 a1 a2=some r) (h3:(rd eTallyCount 7 A1 c2 a0.Tally.Counts).ok w) (h6:(rd eTicketSeason 2 A4 c5 a0.Tickets).ok w) (h9:(rd eTicketShow 3 A7 c8 a0.Shows).ok w) (h12:(rd eTicketBox 4 A10 c11 a0.Boxes).ok w) (h15:(rd intE 1 A13 c14 a1).ok w) (hg16:(gW0).ok w) (hg17:(gW1).ok w) (hg18:(gW2).ok w):Calls Tryd.prog 3 #[AG (vB a0 A1 c2 A4 c5 A7 c8 A10 c11),SL A13 a1.length c14,AG (sg a2 3)] w (RetV w (B r)):=by
 unfold law_TicketTrue at H
 refine fn_of (n:=220) Tryd.func3 rfl rfl (lE rfl) ?_
 have S:=St.start w nF _ (cA h3 (cA h6 (cA h9 (cA h12 (cA h15 (cA hg16 (cA hg17 (cA hg18 nM))))))))
 refine c_seq<|reg<|p_boxA rfl S fun b19 w20 S21=>p_boxA rfl S21 fun b22 w23 S24=>p_aB rfl<|wp_nil<|c_seq<|c_seq<|reg<|p_ldA ty29 sz29 (S24.atX (i:=1) rfl) rfl rfl ?_
 obtain ⟨r25,h26,H⟩:=bindS H
 refine p_cv (law_sound_ok h26 (S24.atP (i:=0) rfl) (S24.atP (i:=1) rfl) (S24.atP (i:=2) rfl) (S24.atP (i:=3) rfl)) fu12 rfl S24 fun w27 S28=>p_not rfl<|wp_nil ?_
 refine c_cond rfl (fun c29=>?_) (fun c29=>?_)
 ·replace H:=condT c29 H
  refine c_seq<|reg ?_
  obtain ⟨r30,h31,H⟩:=bindS H
  refine p_cv (law_punched_ok h31 (S28.atP (i:=5) rfl) (S28.atP (i:=6) rfl) (S28.atP (i:=7) rfl)) fu13 rfl S28 fun w32 S33=>p_aB rfl<|wp_nil ?_
  obtain rfl:=sJ H
  exact c_ret (rT Tryd.f3 S33.keep rfl rfl)
 ·replace H:=condF c29 H
  refine c_skip<|c_seq<|reg<|p_ldA ty29 sz29 (S28.atX (i:=1) rfl) rfl rfl<|p_mS rfl ?_
  obtain ⟨r34,h35,H⟩:=bindS H
  refine p_cal (law_truly_ok h35 (S28.atP (i:=0) rfl) (S28.atP (i:=1) rfl) (S28.atP (i:=2) rfl) (S28.atP (i:=3) rfl) (S28.atP (i:=4) rfl)) fu14 rfl ?_
  rintro _ w36 ⟨A38,c39,A40,c41,l42,rfl,k37,⟨o43,n44⟩,⟨o45,n46⟩,⟨o47,n48⟩,_⟩
  have S49:=S28.callN k37 [rd intE 1 A38 c39 r34.crossed_,rd rowN 1 A40 c41 l42,ri rowI l42 r34.users_] (cA ⟨o43,New.inL n44⟩ (cA ⟨o45,New.inL n46⟩ (cA ⟨o47,New.inL n48⟩ nM)))
  refine p_allA in36 S49 fun b50 w51 S52=>p_stP (pre:=[]) (old:=[SL none 0 0,SL none 0 0]) (post:=[]) (vs:=[SL A38 r34.crossed_.length c39,SL A40 l42.length c41]) sz36 S52 (i:=0) rfl rfl rfl rfl (rfl:_=AG [SL A38 r34.crossed_.length c39,SL A40 l42.length c41]) rfl rfl rfl rfl fun w53 S54=>wp_nil<|c_seq<|reg<|p_ldA ty29 sz29 (S54.atX (i:=2) rfl) rfl rfl ?_
  refine p_ldA ty36 sz36 (S54.atX (i:=0) rfl) rfl rfl ?_
  obtain ⟨r55,h56,H⟩:=bindS H
  refine p_cal (law_rightly_ok h56 (S54.atP (i:=3) rfl) (S54.atP (i:=4) rfl) (S54.atP (i:=5) rfl) (S54.atP (i:=6) rfl) (S54.atP (i:=0) rfl) (S54.atP (i:=1) rfl) (S54.atP (i:=2) rfl)) fu15 rfl ?_
  rintro _ w57 ⟨A59,c60,A61,c62,A63,c64,rfl,k58,⟨o65,n66⟩,⟨o67,n68⟩,⟨o69,n70⟩,_⟩
  have S71:=S54.callN k58 [rd eTallyCount 7 A59 c60 r55.Tally.Counts,rd eTicketShow 3 A61 c62 r55.Shows,rd eTicketBox 4 A63 c64 r55.Boxes] (cA ⟨o65,New.inL n66⟩ (cA ⟨o67,New.inL n68⟩ (cA ⟨o69,New.inL n70⟩ nM)))
  refine p_allA in29 S71 fun b72 w73 S74=>?_
  refine p_stP (pre:=[]) (old:=[I 0,I 0,SL none 0 0,I 0,SL none 0 0,SL none 0 0,SL none 0 0]) (post:=[]) (vs:=[I r55.Tally.Trips,I r55.Tally.Room,SL A59 r55.Tally.Counts.length c60,I r55.Fare,SL A4 a0.Tickets.length c5,SL A61 r55.Shows.length c62,SL A63 r55.Boxes.length c64]) sz29 S74 (i:=0) rfl rfl rfl rfl (rfl:_=AG [I r55.Tally.Trips,I r55.Tally.Room,SL A59 r55.Tally.Counts.length c60,I r55.Fare,SL A4 a0.Tickets.length c5,SL A61 r55.Shows.length c62,SL A63 r55.Boxes.length c64]) rfl rfl rfl rfl fun w75 S76=>?_
  refine wp_nil<|c_seq<|reg<|p_ldA ty29 sz29 (S76.atX (i:=0) rfl) rfl rfl ?_
  obtain ⟨r77,h78,H⟩:=bindS H
  refine p_cv (ticket_Right_ok h78 (S76.atP (i:=0) rfl) (S76.atP (i:=7) rfl) (S76.atP (i:=1) rfl) (S76.atP (i:=2) rfl) (S76.atP (i:=11) rfl) (S76.atP (i:=13) rfl)) fu16 rfl S76 fun w79 S80=>p_mT rfl<|p_ext rfl rfl<|p_ext rfl rfl<|p_aB rfl<|p_aI rfl<|wp_nil<|c_seq<|reg<|p_ldA ty29 sz29 (S80.atX (i:=0) rfl) rfl rfl ?_
  obtain ⟨r81,h82,H⟩:=bindS H
  refine p_cal (ticket_Wrong_ok h82 (S80.atP (i:=0) rfl) (S80.atP (i:=7) rfl) (S80.atP (i:=1) rfl) (S80.atP (i:=2) rfl) (S80.atP (i:=11) rfl) (S80.atP (i:=13) rfl)) fu17 rfl ?_
  rintro _ w83 ⟨A85,c86,rfl,k84,⟨o87,n88⟩,_⟩
  have S89:=S80.callN k84 [rd intE 1 A85 c86 r81.1] (cA ⟨o87,Al.inL n88 ((cA (fp_mem (i:=0) rfl) (cA (fp_mem (i:=7) rfl) (cA (fp_mem (i:=1) rfl) (cA (fp_mem (i:=2) rfl) nM)))))⟩ nM)
  refine p_mT rfl<|p_ext rfl rfl<|p_ext rfl rfl<|p_aS rfl<|p_aI rfl<|wp_nil<|c_seq<|reg<|p_ldA ty29 sz29 (S89.atX (i:=0) rfl) rfl rfl ?_
  obtain ⟨r90,h91,H⟩:=bindS H
  refine p_cv (ticket_Clash_ok h91 (S89.atP (i:=1) rfl) (S89.atP (i:=8) rfl) (S89.atP (i:=2) rfl) (S89.atP (i:=3) rfl)) fu18 rfl S89 fun w92 S93=>p_mT rfl<|p_ext rfl rfl<|p_ext rfl rfl<|p_ext rfl rfl<|p_aI rfl<|p_aI rfl<|p_aI rfl<|wp_nil<|c_seq<|c_seq<|reg<|p_mI rfl<|p_cmp rfl rfl rfl<|p_mB rfl ?_
  rcases bE ((r77.2 != 0)) with c94 | c94
  ·replace H:=condT c94 H
   refine eB c94<|gF rfl rfl<|gF rfl rfl<|p_pkT rfl (rfl:_=B true)<|p_mB rfl<|gF rfl rfl<|gF rfl rfl<|p_pkT rfl (rfl:_=B true)<|p_mB rfl<|gF rfl rfl<|gF rfl rfl<|p_pkT rfl (rfl:_=B true)<|p_mB rfl<|gF rfl rfl<|gF rfl rfl<|gF rfl rfl<|p_pkT rfl (rfl:_=B true)<|wp_nil<|c_true rfl<|c_seq<|reg<|p_aB rfl<|wp_nil ?_
   obtain rfl:=sJ H
   exact c_ret (rT Tryd.f3 S93.keep rfl rfl)
  ·replace H:=condF c94 H
   refine eB c94 ?_
   refine gT rfl rfl (p_mI rfl ?_)
   refine gT rfl rfl (p_cmp rfl rfl rfl ?_)
   refine p_pkF rfl (rfl:_=B (r81.2 != 0))<|p_mB rfl ?_
   rcases bE ((r81.2 != 0)) with c95 | c95
   ·replace H:=condT c95 H
    refine eB c95<|gF rfl rfl<|gF rfl rfl<|p_pkT rfl (rfl:_=B true)<|p_mB rfl<|gF rfl rfl<|gF rfl rfl<|p_pkT rfl (rfl:_=B true)<|p_mB rfl<|gF rfl rfl<|gF rfl rfl<|gF rfl rfl<|p_pkT rfl (rfl:_=B true)<|wp_nil<|c_true rfl<|c_seq<|reg<|p_aB rfl<|wp_nil ?_
    obtain rfl:=sJ H
    exact c_ret (rT Tryd.f3 S93.keep rfl rfl)
   ·replace H:=condF c95 H
    refine eB c95 ?_
    refine gT rfl rfl (p_mI rfl ?_)
    refine gT rfl rfl (p_cmp rfl rfl rfl ?_)
    refine p_pkF rfl (rfl:_=B (r90.2.2 != 4))<|p_mB rfl ?_
    rcases bE ((r90.2.2 != 4)) with c96 | c96
    ·replace H:=condT c96 H
     refine eB c96<|gF rfl rfl<|gF rfl rfl<|p_pkT rfl (rfl:_=B true)<|p_mB rfl<|gF rfl rfl<|gF rfl rfl<|gF rfl rfl<|p_pkT rfl (rfl:_=B true)<|wp_nil<|c_true rfl<|c_seq<|reg<|p_aB rfl<|wp_nil ?_
     obtain rfl:=sJ H
     exact c_ret (rT Tryd.f3 S93.keep rfl rfl)
    ·replace H:=condF c96 H
     refine eB c96 ?_
     refine gT rfl rfl (p_mB rfl ?_)
     refine gT rfl rfl (p_not rfl ?_)
     refine p_pkF rfl (rfl:_=B (!r77.1))<|p_mB rfl ?_
     rcases bE (!r77.1) with c97 | c97
     ·replace H:=condT c97 H
      refine eB c97<|gF rfl rfl<|gF rfl rfl<|gF rfl rfl<|p_pkT rfl (rfl:_=B true)<|wp_nil<|c_true rfl<|c_seq<|reg<|p_aB rfl<|wp_nil ?_
      obtain rfl:=sJ H
      exact c_ret (rT Tryd.f3 S93.keep rfl rfl)
     ·replace H:=condF c97 H
      refine eB c97 ?_
      refine gT rfl rfl (p_mS rfl ?_)
      refine gT rfl rfl (p_len rfl sc30 ?_)
      refine gT rfl rfl (p_cmp rfl rfl rfl ?_)
      refine p_pkF rfl (rfl:_=B ((r81.1.length:Int) != 0))<|wp_nil ?_
      refine c_cond rfl (fun c98=>?_) (fun c98=>?_)
      ·replace H:=condT c98 H
       refine c_seq<|reg<|p_aB rfl<|wp_nil ?_
       obtain rfl:=sJ H
       exact c_ret (rT Tryd.f3 S93.keep rfl rfl)
      ·replace H:=condF c98 H
       refine c_skip<|c_seq<|reg<|p_ixc ar31 rfl rfl (by decide) (by decide)<|p_ld ty3 (S93.atX (i:=2) rfl) rfl rfl<|p_fld fl29_0 rfl<|p_fld fl24_0 rfl<|p_ld ty3 (S93.atX (i:=3) rfl) rfl rfl ?_
       obtain ⟨r99,h100,H⟩:=bindS H
       refine p_cv (B_Mod_ok h100) fu19 rfl S93 fun w101 S102=>p_aI rfl<|wp_nil<|c_seq ?_
       obtain ⟨r103,h104,H⟩:=bindS H
       obtain ⟨r105,h106,H⟩:=bindS H
       refine reg_q mixed 10 (by kernel_rfl) ?_
       refine dS (fun _ k_=>p_mI rfl dn)<|dS (fun _ k_=>p_fld fl29_0 rfl dn)<|dS (fun _ k_=>p_fld fl24_0 rfl dn)<|dS (fun _ k_=>p_ld ty3 (aS (S102.atX (i:=3) rfl) k_) rfl rfl dn)<|dS (fun _ k_=>p_sub rfl rfl dn)<|dS (fun _ k_=>p_cvD (B_Range_ok h104) fu21 rfl)<|dS (fun _ k_=>p_ixc ar31 rfl rfl (by decide) (by decide) dn)<|dS (fun _ k_=>p_ld ty3 (aS (S102.atX (i:=2) rfl) k_) rfl rfl dn) ?_
       refine dS (fun _ k_=>p_cvD (B_Within_ok h106) fu20 rfl)<|dS (fun _ k_=>p_aI rfl dn) ?_
       intro w107 k108; have S109:=S102.call k108
       refine wp_nil<|c_seq<|reg<|p_ldA ty29 sz29 (S109.atX (i:=0) rfl) rfl rfl<|p_mI rfl<|p_mI rfl ?_
       obtain ⟨r110,h111,H⟩:=bindS H
       refine p_cv (ticket_Paid_ok h111 (S109.atP (i:=1) rfl) (S109.atP (i:=8) rfl) (S109.atP (i:=2) rfl) (S109.atP (i:=3) rfl) (S109.atP (i:=12) rfl) (S109.atP (i:=14) rfl)) fu22 rfl S109 fun w112 S113=>p_mT rfl<|p_ext rfl rfl<|p_ext rfl rfl<|p_allA in49 S113 fun b114 w115 S116=>?_
       refine p_stP (pre:=[]) (old:=[I 0,I 0]) (post:=[]) (vs:=[I r110.1.Low,I r110.1.High]) sz49 S116 (i:=0) rfl rfl rfl rfl (rfl:_=AG [I r110.1.Low,I r110.1.High]) rfl rfl rfl rfl fun w117 S118=>p_aI rfl<|wp_nil<|c_seq<|reg<|p_ldA ty29 sz29 (S118.atX (i:=1) rfl) rfl rfl<|p_mI rfl ?_
       obtain ⟨r119,h120,H⟩:=bindS H
       refine p_cal (ticket_Must_ok h120 (S118.atP (i:=1) rfl) (S118.atP (i:=8) rfl) (S118.atP (i:=2) rfl) (S118.atP (i:=3) rfl) (S118.atP (i:=12) rfl) (S118.atP (i:=13) rfl) (S118.atP (i:=14) rfl)) fu23 rfl ?_
       rintro _ w121 ⟨A123,c124,rfl,k122,⟨o125,n126⟩,_⟩
       have S127:=S118.callN k122 [rd intE 1 A123 c124 r119.1] (cA ⟨o125,New.inL n126⟩ nM)
       refine p_mT rfl<|p_ext rfl rfl<|p_ext rfl rfl<|p_aS rfl<|p_aI rfl<|wp_nil<|c_seq<|reg<|p_ldA ty29 sz29 (S127.atX (i:=1) rfl) rfl rfl<|p_mI rfl ?_
       obtain ⟨r128,h129,H⟩:=bindS H
       refine p_cal (ticket_May_ok h129 (S127.atP (i:=2) rfl) (S127.atP (i:=9) rfl) (S127.atP (i:=3) rfl) (S127.atP (i:=4) rfl) (S127.atP (i:=13) rfl) (S127.atP (i:=14) rfl) (S127.atP (i:=15) rfl)) fu24 rfl ?_
       rintro _ w130 ⟨A132,c133,rfl,k131,⟨o134,n135⟩,_⟩
       have S136:=S127.callN k131 [rd intE 1 A132 c133 r128.1] (cA ⟨o134,New.inL n135⟩ nM)
       refine p_mT rfl<|p_ext rfl rfl<|p_ext rfl rfl<|p_aS rfl<|p_aI rfl<|wp_nil<|c_seq<|c_seq ?_
       rcases bE ((r110.2 != 0)) with c137 | c137
       ·replace H:=condT c137 H
        refine reg_q mixed 35 (by kernel_rfl) ?_
        refine dS (fun _ k_=>p_mI rfl dn)<|dS (fun _ k_=>p_cmp rfl rfl rfl dn)<|dS (fun _ k_=>p_mB rfl dn)<|dB c137<|dF rfl rfl<|dF rfl rfl<|dS (fun _ k_=>p_pkT rfl (rfl:_=B true) dn)<|dS (fun _ k_=>p_mB rfl dn)<|dF rfl rfl<|dF rfl rfl<|dS (fun _ k_=>p_pkT rfl (rfl:_=B true) dn)<|dS (fun _ k_=>p_mB rfl dn) ?_
        refine dF rfl rfl<|dF rfl rfl<|dF rfl rfl<|dF rfl rfl<|dF rfl rfl<|dF rfl rfl<|dF rfl rfl<|dS (fun _ k_=>p_pkT rfl (rfl:_=B true) dn)<|dS (fun _ k_=>p_mB rfl dn)<|dF rfl rfl<|dF rfl rfl<|dF rfl rfl ?_
        refine dF rfl rfl<|dF rfl rfl<|dF rfl rfl<|dS (fun _ k_=>p_pkT rfl (rfl:_=B true) dn)<|dS (fun _ k_=>p_mB rfl dn)<|dF rfl rfl<|dF rfl rfl<|dF rfl rfl<|dF rfl rfl<|dF rfl rfl<|dF rfl rfl ?_
        refine dS (fun _ k_=>p_pkT rfl (rfl:_=B true) dn) ?_
        intro w138 k139; have S140:=S136.call k139
        refine wp_nil<|c_true rfl<|c_seq<|reg<|p_aB rfl<|wp_nil ?_
        obtain rfl:=sJ H
        exact c_ret (rT Tryd.f3 S140.keep rfl rfl)
       ·replace H:=condF c137 H
        rcases bE ((r119.2 != 0)) with c141 | c141
        ·replace H:=condT c141 H
         refine reg_q mixed 35 (by kernel_rfl) ?_
         refine dS (fun _ k_=>p_mI rfl dn)<|dS (fun _ k_=>p_cmp rfl rfl rfl dn)<|dS (fun _ k_=>p_mB rfl dn)<|dB c137<|dS (fun _ k_=>gT rfl rfl (p_mI rfl dn))<|dS (fun _ k_=>gT rfl rfl (p_cmp rfl rfl rfl dn))<|dS (fun _ k_=>p_pkF rfl (rfl:_=B (r119.2 != 0)) dn)<|dS (fun _ k_=>p_mB rfl dn)<|dB c141<|dF rfl rfl<|dF rfl rfl<|dS (fun _ k_=>p_pkT rfl (rfl:_=B true) dn) ?_
         refine dS (fun _ k_=>p_mB rfl dn)<|dF rfl rfl<|dF rfl rfl<|dF rfl rfl<|dF rfl rfl<|dF rfl rfl<|dF rfl rfl<|dF rfl rfl<|dS (fun _ k_=>p_pkT rfl (rfl:_=B true) dn)<|dS (fun _ k_=>p_mB rfl dn)<|dF rfl rfl<|dF rfl rfl ?_
         refine dF rfl rfl<|dF rfl rfl<|dF rfl rfl<|dF rfl rfl<|dS (fun _ k_=>p_pkT rfl (rfl:_=B true) dn)<|dS (fun _ k_=>p_mB rfl dn)<|dF rfl rfl<|dF rfl rfl<|dF rfl rfl<|dF rfl rfl<|dF rfl rfl<|dF rfl rfl ?_
         refine dS (fun _ k_=>p_pkT rfl (rfl:_=B true) dn) ?_
         intro w142 k143; have S144:=S136.call k143
         refine wp_nil<|c_true rfl<|c_seq<|reg<|p_aB rfl<|wp_nil ?_
         obtain rfl:=sJ H
         exact c_ret (rT Tryd.f3 S144.keep rfl rfl)
        ·replace H:=condF c141 H
         rcases bE ((r128.2 != 0)) with c145 | c145
         ·replace H:=condT c145 H
          refine reg_q mixed 35 (by kernel_rfl) ?_
          refine dS (fun _ k_=>p_mI rfl dn)<|dS (fun _ k_=>p_cmp rfl rfl rfl dn)<|dS (fun _ k_=>p_mB rfl dn)<|dB c137<|dS (fun _ k_=>gT rfl rfl (p_mI rfl dn))<|dS (fun _ k_=>gT rfl rfl (p_cmp rfl rfl rfl dn))<|dS (fun _ k_=>p_pkF rfl (rfl:_=B (r119.2 != 0)) dn)<|dS (fun _ k_=>p_mB rfl dn)<|dB c141<|dS (fun _ k_=>gT rfl rfl (p_mI rfl dn))<|dS (fun _ k_=>gT rfl rfl (p_cmp rfl rfl rfl dn)) ?_
          refine dS (fun _ k_=>p_pkF rfl (rfl:_=B (r128.2 != 0)) dn)<|dS (fun _ k_=>p_mB rfl dn)<|dB c145<|dF rfl rfl<|dF rfl rfl<|dF rfl rfl<|dF rfl rfl<|dF rfl rfl<|dF rfl rfl<|dF rfl rfl<|dS (fun _ k_=>p_pkT rfl (rfl:_=B true) dn)<|dS (fun _ k_=>p_mB rfl dn) ?_
          refine dF rfl rfl<|dF rfl rfl<|dF rfl rfl<|dF rfl rfl<|dF rfl rfl<|dF rfl rfl<|dS (fun _ k_=>p_pkT rfl (rfl:_=B true) dn)<|dS (fun _ k_=>p_mB rfl dn)<|dF rfl rfl<|dF rfl rfl<|dF rfl rfl<|dF rfl rfl ?_
          refine dF rfl rfl<|dF rfl rfl<|dS (fun _ k_=>p_pkT rfl (rfl:_=B true) dn) ?_
          intro w146 k147; have S148:=S136.call k147
          refine wp_nil<|c_true rfl<|c_seq<|reg<|p_aB rfl<|wp_nil ?_
          obtain rfl:=sJ H
          exact c_ret (rT Tryd.f3 S148.keep rfl rfl)
         ·replace H:=condF c145 H
          obtain ⟨r149,h150,H⟩:=bindS H
          obtain ⟨r151,h152,H⟩:=bindS H
          rcases bE (!r151) with c153 | c153
          ·replace H:=condT c153 H
           refine reg_q mixed 35 (by kernel_rfl) ?_
           refine dS (fun _ k_=>p_mI rfl dn)<|dS (fun _ k_=>p_cmp rfl rfl rfl dn)<|dS (fun _ k_=>p_mB rfl dn)<|dB c137<|dS (fun _ k_=>gT rfl rfl (p_mI rfl dn))<|dS (fun _ k_=>gT rfl rfl (p_cmp rfl rfl rfl dn))<|dS (fun _ k_=>p_pkF rfl (rfl:_=B (r119.2 != 0)) dn)<|dS (fun _ k_=>p_mB rfl dn)<|dB c141<|dS (fun _ k_=>gT rfl rfl (p_mI rfl dn))<|dS (fun _ k_=>gT rfl rfl (p_cmp rfl rfl rfl dn)) ?_
           refine dS (fun _ k_=>p_pkF rfl (rfl:_=B (r128.2 != 0)) dn)<|dS (fun _ k_=>p_mB rfl dn)<|dB c145<|dS (fun _ k_=>gT rfl rfl (p_ldA ty49 sz49 (aS (S136.atX (i:=0) rfl) k_) rfl rfl dn))<|dS (fun _ k_=>gT rfl rfl (p_ldA ty36 sz36 (aS (S136.atX (i:=2) rfl) k_) rfl rfl dn))<|dS (fun _ k_=>gT rfl rfl (p_mI rfl dn))<|dS (fun _ k_=>gT rfl rfl (p_mI rfl dn)) ?_
           refine dS (fun _ k_=>gT rfl rfl (p_cvD (law_paid_ok h150 (aS (S136.atP (i:=6) rfl) k_) (aS (S136.atP (i:=7) rfl) k_) (aS (S136.atP (i:=8) rfl) k_)) fu26 rfl))<|dS (fun _ k_=>gT rfl rfl (p_cvD (B_Contains_ok h152) fu25 rfl))<|dS (fun _ k_=>gT rfl rfl (p_not rfl dn))<|dS (fun _ k_=>p_pkF rfl (rfl:_=B (!r151)) dn)<|dS (fun _ k_=>p_mB rfl dn)<|dB c153 ?_
           refine dF rfl rfl<|dF rfl rfl<|dF rfl rfl<|dF rfl rfl<|dF rfl rfl<|dF rfl rfl<|dS (fun _ k_=>p_pkT rfl (rfl:_=B true) dn)<|dS (fun _ k_=>p_mB rfl dn)<|dF rfl rfl<|dF rfl rfl<|dF rfl rfl<|dF rfl rfl ?_
           refine dF rfl rfl<|dF rfl rfl<|dS (fun _ k_=>p_pkT rfl (rfl:_=B true) dn) ?_
           intro w154 k155; have S156:=S136.call k155
           refine wp_nil<|c_true rfl<|c_seq<|reg<|p_aB rfl<|wp_nil ?_
           obtain rfl:=sJ H
           exact c_ret (rT Tryd.f3 S156.keep rfl rfl)
          ·replace H:=condF c153 H
           obtain ⟨r157,h158,H⟩:=bindS H
           rcases bE (!r157) with c159 | c159
           ·replace H:=condT c159 H
            refine reg_q mixed 35 (by kernel_rfl) ?_
            refine dS (fun _ k_=>p_mI rfl dn)<|dS (fun _ k_=>p_cmp rfl rfl rfl dn)<|dS (fun _ k_=>p_mB rfl dn)<|dB c137<|dS (fun _ k_=>gT rfl rfl (p_mI rfl dn))<|dS (fun _ k_=>gT rfl rfl (p_cmp rfl rfl rfl dn))<|dS (fun _ k_=>p_pkF rfl (rfl:_=B (r119.2 != 0)) dn)<|dS (fun _ k_=>p_mB rfl dn)<|dB c141<|dS (fun _ k_=>gT rfl rfl (p_mI rfl dn))<|dS (fun _ k_=>gT rfl rfl (p_cmp rfl rfl rfl dn)) ?_
            refine dS (fun _ k_=>p_pkF rfl (rfl:_=B (r128.2 != 0)) dn)<|dS (fun _ k_=>p_mB rfl dn)<|dB c145<|dS (fun _ k_=>gT rfl rfl (p_ldA ty49 sz49 (aS (S136.atX (i:=0) rfl) k_) rfl rfl dn))<|dS (fun _ k_=>gT rfl rfl (p_ldA ty36 sz36 (aS (S136.atX (i:=2) rfl) k_) rfl rfl dn))<|dS (fun _ k_=>gT rfl rfl (p_mI rfl dn))<|dS (fun _ k_=>gT rfl rfl (p_mI rfl dn)) ?_
            refine dS (fun _ k_=>gT rfl rfl (p_cvD (law_paid_ok h150 (aS (S136.atP (i:=6) rfl) k_) (aS (S136.atP (i:=7) rfl) k_) (aS (S136.atP (i:=8) rfl) k_)) fu26 rfl))<|dS (fun _ k_=>gT rfl rfl (p_cvD (B_Contains_ok h152) fu25 rfl))<|dS (fun _ k_=>gT rfl rfl (p_not rfl dn))<|dS (fun _ k_=>p_pkF rfl (rfl:_=B (!r151)) dn)<|dS (fun _ k_=>p_mB rfl dn)<|dB c153 ?_
            refine dS (fun _ k_=>gT rfl rfl (p_mS rfl dn))<|dS (fun _ k_=>gT rfl rfl (p_fld fl29_2 rfl dn))<|dS (fun _ k_=>gT rfl rfl (p_ld ty25 (aS (S136.atX (i:=4) rfl) k_) rfl rfl dn))<|dS (fun _ k_=>gT rfl rfl (p_len rfl sc25 dn))<|dS (fun _ k_=>gT rfl rfl (p_cvD (B_Climbs_ok h158 (aS (S136.atP (i:=1) rfl) k_)) fu27 rfl))<|dS (fun _ k_=>gT rfl rfl (p_not rfl dn)) ?_
            refine dS (fun _ k_=>p_pkF rfl (rfl:_=B (!r157)) dn)<|dS (fun _ k_=>p_mB rfl dn)<|dB c159<|dF rfl rfl<|dF rfl rfl<|dF rfl rfl<|dF rfl rfl<|dF rfl rfl<|dF rfl rfl<|dS (fun _ k_=>p_pkT rfl (rfl:_=B true) dn) ?_
            intro w160 k161; have S162:=S136.call k161
            refine wp_nil<|c_true rfl<|c_seq<|reg<|p_aB rfl<|wp_nil ?_
            obtain rfl:=sJ H
            exact c_ret (rT Tryd.f3 S162.keep rfl rfl)
           ·replace H:=condF c159 H
            obtain ⟨r163,h164,H⟩:=bindS H
            refine reg_q mixed 35 (by kernel_rfl) ?_
            refine dS (fun _ k_=>p_mI rfl dn)<|dS (fun _ k_=>p_cmp rfl rfl rfl dn)<|dS (fun _ k_=>p_mB rfl dn)<|dB c137<|dS (fun _ k_=>gT rfl rfl (p_mI rfl dn))<|dS (fun _ k_=>gT rfl rfl (p_cmp rfl rfl rfl dn))<|dS (fun _ k_=>p_pkF rfl (rfl:_=B (r119.2 != 0)) dn)<|dS (fun _ k_=>p_mB rfl dn)<|dB c141<|dS (fun _ k_=>gT rfl rfl (p_mI rfl dn))<|dS (fun _ k_=>gT rfl rfl (p_cmp rfl rfl rfl dn)) ?_
            refine dS (fun _ k_=>p_pkF rfl (rfl:_=B (r128.2 != 0)) dn)<|dS (fun _ k_=>p_mB rfl dn)<|dB c145<|dS (fun _ k_=>gT rfl rfl (p_ldA ty49 sz49 (aS (S136.atX (i:=0) rfl) k_) rfl rfl dn))<|dS (fun _ k_=>gT rfl rfl (p_ldA ty36 sz36 (aS (S136.atX (i:=2) rfl) k_) rfl rfl dn))<|dS (fun _ k_=>gT rfl rfl (p_mI rfl dn))<|dS (fun _ k_=>gT rfl rfl (p_mI rfl dn)) ?_
            refine dS (fun _ k_=>gT rfl rfl (p_cvD (law_paid_ok h150 (aS (S136.atP (i:=6) rfl) k_) (aS (S136.atP (i:=7) rfl) k_) (aS (S136.atP (i:=8) rfl) k_)) fu26 rfl))<|dS (fun _ k_=>gT rfl rfl (p_cvD (B_Contains_ok h152) fu25 rfl))<|dS (fun _ k_=>gT rfl rfl (p_not rfl dn))<|dS (fun _ k_=>p_pkF rfl (rfl:_=B (!r151)) dn)<|dS (fun _ k_=>p_mB rfl dn)<|dB c153 ?_
            refine dS (fun _ k_=>gT rfl rfl (p_mS rfl dn))<|dS (fun _ k_=>gT rfl rfl (p_fld fl29_2 rfl dn))<|dS (fun _ k_=>gT rfl rfl (p_ld ty25 (aS (S136.atX (i:=4) rfl) k_) rfl rfl dn))<|dS (fun _ k_=>gT rfl rfl (p_len rfl sc25 dn))<|dS (fun _ k_=>gT rfl rfl (p_cvD (B_Climbs_ok h158 (aS (S136.atP (i:=1) rfl) k_)) fu27 rfl))<|dS (fun _ k_=>gT rfl rfl (p_not rfl dn)) ?_
            refine dS (fun _ k_=>p_pkF rfl (rfl:_=B (!r157)) dn)<|dS (fun _ k_=>p_mB rfl dn)<|dB c159<|dS (fun _ k_=>gT rfl rfl (p_mS rfl dn))<|dS (fun _ k_=>gT rfl rfl (p_fld fl29_2 rfl dn))<|dS (fun _ k_=>gT rfl rfl (p_ld ty25 (aS (S136.atX (i:=4) rfl) k_) rfl rfl dn))<|dS (fun _ k_=>gT rfl rfl (p_len rfl sc25 dn)) ?_
            refine dS (fun _ k_=>gT rfl rfl (p_cvD (B_Climbs_ok h164 (aS (S136.atP (i:=0) rfl) k_)) fu27 rfl))<|dS (fun _ k_=>gT rfl rfl (p_not rfl dn))<|dS (fun _ k_=>p_pkF rfl (rfl:_=B (!r163)) dn) ?_
            intro w165 k166; have S167:=S136.call k166
            refine wp_nil ?_
            refine c_cond rfl (fun c168=>?_) (fun c168=>?_)
            ·replace H:=condT c168 H
             refine c_seq<|reg<|p_aB rfl<|wp_nil ?_
             obtain rfl:=sJ H
             exact c_ret (rT Tryd.f3 S167.keep rfl rfl)
            ·replace H:=condF c168 H
             refine c_skip<|c_seq<|c_seq<|reg<|p_aI rfl<|wp_nil<|c_block ?_
             have S169:=S167.pk [1,2,3,4] (by decide) [0,1,2,3,4,5,6,7,8,9,10,11,12,13,14,15,16] rfl rfl
             refine c_lop (α:=Int) (β:=Unit) (law_TicketTrue_l4 a0 r34 r99 r119 r128 a2 r55) (fun z_1 y_1=>[(3,P b19 0),(5,P b22 0),(7,P b50 0),(8,P b72 0),(16,I r99),(19,SL A123 r119.1.length c124),(20,SL A132 r128.1.length c133),(21,I z_1)]) (fun z_1 y_1 w_=>St w nF w_ [bl b72 [I r55.Tally.Trips,I r55.Tally.Room,SL A59 r55.Tally.Counts.length c60,I r55.Fare,SL A4 a0.Tickets.length c5,SL A61 r55.Shows.length c62,SL A63 r55.Boxes.length c64] 29,bl b50 [SL A38 r34.crossed_.length c39,SL A40 l42.length c41] 36,bl b22 (sg a2 3) 31,bl b19 (vB a0 A1 c2 A4 c5 A7 c8 A10 c11) 29] [rd intE 1 A132 c133 r128.1,rd intE 1 A123 c124 r119.1,rd intE 1 A85 c86 r81.1,rd eTallyCount 7 A59 c60 r55.Tally.Counts,rd eTicketShow 3 A61 c62 r55.Shows,rd eTicketBox 4 A63 c64 r55.Boxes,rd intE 1 A38 c39 r34.crossed_,rd rowN 1 A40 c41 l42,ri rowI l42 r34.users_,rd eTallyCount 7 A1 c2 a0.Tally.Counts,rd eTicketSeason 2 A4 c5 a0.Tickets,rd eTicketShow 3 A7 c8 a0.Shows,rd eTicketBox 4 A10 c11 a0.Boxes,rd intE 1 A13 c14 a1,gW0,gW1,gW2]) 0 () H ⟨rfl,rfl,rfl,rfl,rfl,rfl,rfl,rfl,trivial⟩ S169 ?_
             intro m170 z_1 y_1 e171 w172 H S173
             unfold law_TicketTrue_l4 at H
             refine c_seq<|c_seq<|reg<|p_mI rfl<|p_fld fl29_2 rfl<|p_ld ty25 (S173.atX (i:=3) rfl) rfl rfl<|p_len rfl sc25<|p_cmp rfl rfl rfl<|wp_nil ?_
             refine c_cond rfl (fun c174=>?_) (fun c174=>?_)
             ·replace H:=condT c174 H
              refine c_skip<|c_seq<|c_block<|c_seq<|reg<|p_fld fl36_1 rfl<|p_ld ty34 (S173.atX (i:=1) rfl) rfl rfl<|p_mI rfl ?_
              obtain ⟨r175,h176,H⟩:=bindS H
              obtain ⟨d177,h178⟩:=ri_at (S173.atP (i:=8) rfl) h176
              refine p_ixE sc34 h178 (S173.atP (i:=7) rfl).1 rfl rfl rfl<|p_ldE ty30 h178 (S173.atP (i:=7) rfl).1 rfl rfl ?_
              have S179:=S173.riIn (j:=8) (k:=0) rfl h178 rfl
              refine p_mI rfl ?_
              obtain ⟨r180,h181,H⟩:=bindS H
              refine p_ixE sc30 h181 (S179.atP (i:=0) rfl).1 rfl rfl rfl<|p_ldE ty3 h181 (S179.atP (i:=0) rfl).1 rfl rfl<|p_cmp rfl rfl rfl<|p_aB rfl<|wp_nil<|c_seq<|reg<|p_mS rfl<|p_mI rfl ?_
              obtain ⟨r182,h183,H⟩:=bindS H
              refine p_cv (B_At_ok h183 (S179.atP (i:=2) rfl)) fu28 rfl S179 fun w184 S185=>p_cmp rfl rfl rfl<|p_mB rfl ?_
              rcases bE (decide (r182≥0)) with c186 | c186
              ·replace H:=condT c186 H
               refine eB c186 ?_
               refine gT rfl rfl (p_mB rfl ?_)
               refine gT rfl rfl (p_not rfl ?_)
               refine p_pkT rfl (rfl:_=B (!(decide (r180≥0))))<|p_mB rfl ?_
               rcases bE (!(decide (r180≥0))) with c187 | c187
               ·replace H:=condT c187 H
                refine eB c187<|gF rfl rfl<|gF rfl rfl<|gF rfl rfl<|gF rfl rfl<|gF rfl rfl ?_
                refine o_guardU rfl rfl ?_
                refine gF rfl rfl<|p_pkT rfl (rfl:_=B true)<|wp_nil<|c_true rfl<|c_seq<|reg<|p_aB rfl<|wp_nil ?_
                obtain rfl:=sJ H
                exact c_ret (rT Tryd.f3 S185.keep rfl rfl)
               ·replace H:=condF c187 H
                refine eB c187 ?_
                refine gT rfl rfl (p_mS rfl ?_)
                refine gT rfl rfl (p_mI rfl ?_)
                obtain ⟨r188,h189,H⟩:=bindS H
                refine gT rfl rfl (p_cv (B_At_ok h189 (S185.atP (i:=1) rfl)) fu28 rfl S185 fun w190 S191=>?_)
                refine gT rfl rfl (p_cmp rfl rfl rfl ?_)
                refine gT rfl rfl (p_mB rfl ?_)
                rcases bE (decide (r188 < 0)) with c192 | c192
                ·replace H:=condT c192 H
                 refine eB c192 ?_
                 refine gT rfl rfl (p_mB rfl ?_)
                 refine gT rfl rfl (p_pkT rfl (rfl:_=B (decide (r180≥0))) ?_)
                 refine p_pkF rfl (rfl:_=B (decide (r180≥0)))<|wp_nil ?_
                 refine c_cond rfl (fun c193=>?_) (fun c193=>?_)
                 ·replace H:=condT c193 H
                  refine c_seq<|reg<|p_aB rfl<|wp_nil ?_
                  obtain rfl:=sJ H
                  exact c_ret (rT Tryd.f3 S191.keep rfl rfl)
                 ·replace H:=condF c193 H
                  refine c_skip<|reg<|p_mI rfl<|p_add rfl rfl<|p_aI rfl<|wp_nil ?_
                  have S194:=S191.pk [0,1,2,3] (by decide) [1,2,3,4,5,6,7,8,9,10,11,12,13,14,15,16,17] rfl rfl
                  exact ⟨wr (z_1+1),(),_,rfl,⟨rfl,rfl,rfl,rfl,rfl,rfl,rfl,rfl,trivial⟩,H,S194⟩
                ·replace H:=condF c192 H
                 refine eB c192<|gF rfl rfl ?_
                 refine gT rfl rfl (p_pkF rfl (rfl:_=B false) ?_)
                 refine p_pkF rfl (rfl:_=B false)<|wp_nil<|c_false rfl<|c_skip<|reg<|p_mI rfl<|p_add rfl rfl<|p_aI rfl<|wp_nil ?_
                 have S195:=S191.pk [0,1,2,3] (by decide) [1,2,3,4,5,6,7,8,9,10,11,12,13,14,15,16,17] rfl rfl
                 exact ⟨wr (z_1+1),(),_,rfl,⟨rfl,rfl,rfl,rfl,rfl,rfl,rfl,rfl,trivial⟩,H,S195⟩
              ·replace H:=condF c186 H
               refine eB c186<|gF rfl rfl<|gF rfl rfl<|p_pkF rfl (rfl:_=B false)<|p_mB rfl ?_
               refine gT rfl rfl (p_mS rfl ?_)
               refine gT rfl rfl (p_mI rfl ?_)
               obtain ⟨r196,h197,H⟩:=bindS H
               refine gT rfl rfl (p_cv (B_At_ok h197 (S185.atP (i:=1) rfl)) fu28 rfl S185 fun w198 S199=>?_)
               refine gT rfl rfl (p_cmp rfl rfl rfl ?_)
               refine gT rfl rfl (p_mB rfl ?_)
               rcases bE (decide (r196 < 0)) with c200 | c200
               ·replace H:=condT c200 H
                refine eB c200 ?_
                refine gT rfl rfl (p_mB rfl ?_)
                refine gT rfl rfl (p_pkT rfl (rfl:_=B (decide (r180≥0))) ?_)
                refine p_pkF rfl (rfl:_=B (decide (r180≥0)))<|wp_nil ?_
                refine c_cond rfl (fun c201=>?_) (fun c201=>?_)
                ·replace H:=condT c201 H
                 refine c_seq<|reg<|p_aB rfl<|wp_nil ?_
                 obtain rfl:=sJ H
                 exact c_ret (rT Tryd.f3 S199.keep rfl rfl)
                ·replace H:=condF c201 H
                 refine c_skip<|reg<|p_mI rfl<|p_add rfl rfl<|p_aI rfl<|wp_nil ?_
                 have S202:=S199.pk [0,1,2,3] (by decide) [1,2,3,4,5,6,7,8,9,10,11,12,13,14,15,16,17] rfl rfl
                 exact ⟨wr (z_1+1),(),_,rfl,⟨rfl,rfl,rfl,rfl,rfl,rfl,rfl,rfl,trivial⟩,H,S202⟩
               ·replace H:=condF c200 H
                refine eB c200<|gF rfl rfl ?_
                refine gT rfl rfl (p_pkF rfl (rfl:_=B false) ?_)
                refine p_pkF rfl (rfl:_=B false)<|wp_nil<|c_false rfl<|c_skip<|reg<|p_mI rfl<|p_add rfl rfl<|p_aI rfl<|wp_nil ?_
                have S203:=S199.pk [0,1,2,3] (by decide) [1,2,3,4,5,6,7,8,9,10,11,12,13,14,15,16,17] rfl rfl
                exact ⟨wr (z_1+1),(),_,rfl,⟨rfl,rfl,rfl,rfl,rfl,rfl,rfl,rfl,trivial⟩,H,S203⟩
             ·replace H:=condF c174 H
              refine c_exit<|c_seq<|c_seq<|reg<|p_fld fl29_2 rfl<|p_ld ty25 (S173.atX (i:=3) rfl) rfl rfl<|p_len rfl sc25<|p_cmp rfl rfl rfl<|wp_nil ?_
              refine c_cond rfl (fun c204=>?_) (fun c204=>?_)
              ·replace H:=condT c204 H
               refine c_seq<|reg ?_
               obtain ⟨r205,h206,H⟩:=bindS H
               refine p_cv (law_punched_ok h206 (S173.atP (i:=14) rfl) (S173.atP (i:=15) rfl) (S173.atP (i:=16) rfl)) fu13 rfl S173 fun w207 S208=>p_aB rfl<|wp_nil ?_
               obtain rfl:=sJ H
               exact c_ret (rT Tryd.f3 S208.keep rfl rfl)
              ·replace H:=condF c204 H
               refine c_skip<|c_seq<|reg<|p_ixc ar31 rfl rfl (by decide) (by decide)<|p_ld ty3 (S173.atX (i:=2) rfl) rfl rfl<|p_fld fl29_2 rfl<|p_ld ty25 (S173.atX (i:=3) rfl) rfl rfl<|p_len rfl sc25 ?_
               obtain ⟨r209,h210,H⟩:=bindS H
               refine p_cv (B_Mod_ok h210) fu19 rfl S173 fun w211 S212=>p_aI rfl<|p_aI rfl<|wp_nil<|c_seq<|c_seq<|reg<|p_aI rfl<|wp_nil<|c_block ?_
               have S213:=S212.pk [0,1,3] (by decide) [0,1,2,3,4,5,6,7,8,9,10,11,12,13,14,15,16] rfl rfl
               refine c_lop (α:=Int×Int) (β:=Unit) (law_TicketTrue_l3 a0 r34 r209 r55) (fun z_2 y_2=>[(3,P b19 0),(7,P b50 0),(8,P b72 0),(23,I r209),(24,I z_2.1),(25,I z_2.2)]) (fun z_2 y_2 w_=>St w nF w_ [bl b72 [I r55.Tally.Trips,I r55.Tally.Room,SL A59 r55.Tally.Counts.length c60,I r55.Fare,SL A4 a0.Tickets.length c5,SL A61 r55.Shows.length c62,SL A63 r55.Boxes.length c64] 29,bl b50 [SL A38 r34.crossed_.length c39,SL A40 l42.length c41] 36,bl b19 (vB a0 A1 c2 A4 c5 A7 c8 A10 c11) 29] [rd intE 1 A132 c133 r128.1,rd intE 1 A123 c124 r119.1,rd intE 1 A85 c86 r81.1,rd eTallyCount 7 A59 c60 r55.Tally.Counts,rd eTicketShow 3 A61 c62 r55.Shows,rd eTicketBox 4 A63 c64 r55.Boxes,rd intE 1 A38 c39 r34.crossed_,rd rowN 1 A40 c41 l42,ri rowI l42 r34.users_,rd eTallyCount 7 A1 c2 a0.Tally.Counts,rd eTicketSeason 2 A4 c5 a0.Tickets,rd eTicketShow 3 A7 c8 a0.Shows,rd eTicketBox 4 A10 c11 a0.Boxes,rd intE 1 A13 c14 a1,gW0,gW1,gW2]) (0,0) () H ⟨rfl,rfl,rfl,rfl,rfl,rfl,trivial⟩ S213 ?_
               intro m214 z_2 y_2 e215 w216 H S217
               unfold law_TicketTrue_l3 at H
               refine c_seq<|c_seq<|reg<|p_mI rfl<|p_fld fl29_0 rfl<|p_fld fl24_0 rfl<|p_ld ty3 (S217.atX (i:=2) rfl) rfl rfl<|p_cmp rfl rfl rfl<|wp_nil ?_
               refine c_cond rfl (fun c218=>?_) (fun c218=>?_)
               ·replace H:=condT c218 H
                refine c_skip<|c_seq<|c_block<|c_seq<|reg<|p_fld fl36_1 rfl<|p_ld ty34 (S217.atX (i:=1) rfl) rfl rfl<|p_mI rfl ?_
                obtain ⟨r219,h220,H⟩:=bindS H
                obtain ⟨d221,h222⟩:=ri_at (S217.atP (i:=8) rfl) h220
                refine p_ixE sc34 h222 (S217.atP (i:=7) rfl).1 rfl rfl rfl<|p_ldE ty30 h222 (S217.atP (i:=7) rfl).1 rfl rfl ?_
                have S223:=S217.riIn (j:=8) (k:=0) rfl h222 rfl
                refine p_mI rfl ?_
                obtain ⟨r224,h225,H⟩:=bindS H
                refine p_ixE sc30 h225 (S223.atP (i:=0) rfl).1 rfl rfl rfl<|p_ldE ty3 h225 (S223.atP (i:=0) rfl).1 rfl rfl<|p_cmp rfl rfl rfl<|wp_nil ?_
                refine c_cond rfl (fun c226=>?_) (fun c226=>?_)
                ·replace H:=condT c226 H
                 refine reg<|p_mI rfl<|p_add rfl rfl<|p_aI rfl<|wp_nil<|reg<|p_mI rfl<|p_add rfl rfl<|p_aI rfl<|wp_nil ?_
                 have S227:=S223.pk [0,1,2] (by decide) [1,2,3,4,5,6,7,8,9,10,11,12,13,14,15,16,17] rfl rfl
                 exact ⟨(wr (z_2.1+1),wr (z_2.2+1)),(),_,rfl,⟨rfl,rfl,rfl,rfl,rfl,rfl,trivial⟩,H,S227⟩
                ·replace H:=condF c226 H
                 refine c_skip<|reg<|p_mI rfl<|p_add rfl rfl<|p_aI rfl<|wp_nil ?_
                 have S228:=S223.pk [0,1,2] (by decide) [1,2,3,4,5,6,7,8,9,10,11,12,13,14,15,16,17] rfl rfl
                 exact ⟨(z_2.1,wr (z_2.2+1)),(),_,rfl,⟨rfl,rfl,rfl,rfl,rfl,rfl,trivial⟩,H,S228⟩
               ·replace H:=condF c218 H
                refine c_exit<|c_seq<|reg<|p_ldA ty29 sz29 (S217.atX (i:=0) rfl) rfl rfl<|p_mI rfl ?_
                obtain ⟨r229,h230,H⟩:=bindS H
                refine p_cv (ticket_Saved_ok h230 (S217.atP (i:=3) rfl) (S217.atP (i:=10) rfl) (S217.atP (i:=4) rfl) (S217.atP (i:=5) rfl) (S217.atP (i:=14) rfl) (S217.atP (i:=16) rfl)) fu29 rfl S217 fun w231 S232=>p_mT rfl<|p_ext rfl rfl<|p_ext rfl rfl<|p_allA in49 S232 fun b233 w234 S235=>?_
                refine p_stP (pre:=[]) (old:=[I 0,I 0]) (post:=[]) (vs:=[I r229.1.Low,I r229.1.High]) sz49 S235 (i:=0) rfl rfl rfl rfl (rfl:_=AG [I r229.1.Low,I r229.1.High]) rfl rfl rfl rfl fun w236 S237=>p_aI rfl<|wp_nil<|c_seq<|reg<|p_mI rfl<|p_cmp rfl rfl rfl<|p_mB rfl ?_
                rcases bE ((r229.2==0)) with c238 | c238
                ·replace H:=condT c238 H
                 refine eB c238 ?_
                 refine gT rfl rfl (p_ldA ty49 sz49 (S237.atX (i:=0) rfl) rfl rfl ?_)
                 refine gT rfl rfl (p_mI rfl ?_)
                 obtain ⟨r239,h240,H⟩:=bindS H
                 refine gT rfl rfl (p_cv (B_Contains_ok h240) fu25 rfl S237 fun w241 S242=>?_)
                 refine p_pkT rfl (rfl:_=B r239)<|p_mB rfl ?_
                 rcases bE (r239) with c243 | c243
                 ·replace H:=condT c243 H
                  refine eB c243 ?_
                  obtain ⟨r244,h245,H⟩:=bindS H
                  refine gT rfl rfl (p_cv (law_punched_ok h245 (S242.atP (i:=14) rfl) (S242.atP (i:=15) rfl) (S242.atP (i:=16) rfl)) fu13 rfl S242 fun w246 S247=>?_)
                  refine p_pkT rfl (rfl:_=B r244)<|p_aB rfl<|wp_nil ?_
                  obtain rfl:=sJ H
                  exact c_ret (rT Tryd.f3 S247.keep rfl rfl)
                 ·replace H:=condF c243 H
                  refine eB c243<|gF rfl rfl<|p_pkF rfl (rfl:_=B false)<|p_aB rfl<|wp_nil ?_
                  obtain rfl:=sJ H
                  exact c_ret (rT Tryd.f3 S242.keep rfl rfl)
                ·replace H:=condF c238 H
                 refine eB c238<|gF rfl rfl<|gF rfl rfl<|gF rfl rfl<|p_pkF rfl (rfl:_=B false)<|p_mB rfl<|gF rfl rfl<|p_pkF rfl (rfl:_=B false)<|p_aB rfl<|wp_nil ?_
                 obtain rfl:=sJ H
                 exact c_ret (rT Tryd.f3 S237.keep rfl rfl)
end Go.Proofs.YtafhljljfglfeaaDoor
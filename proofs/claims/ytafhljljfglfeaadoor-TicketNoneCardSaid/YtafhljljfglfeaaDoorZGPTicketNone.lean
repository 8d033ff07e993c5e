/- Plain facts: loops over lists, sets as numbers, how many paid. -/
import Derived.Test.YtafhljljfglfeaaDoorZGPFold
import Derived.KernelRfl
set_option linter.unusedVariables false
set_option linter.unusedSimpArgs false
namespace Go.Proofs.YtafhljljfglfeaaDoor
open Go Go.Fx Go.Tally
theorem loop_all {ρ:Type}{body:(Int→Option ρ)→Int→Option ρ} (n:Nat) (p:Nat→Bool) {Rf Rt:Option ρ} (hs:∀ rec k,k < n→body rec (k:Int)=bif p k then rec ((k+1:Nat):Int) else Rf) (he:∀ rec,body rec (n:Int)=Rt) (hn:n < big):loopF body big 0=bif (List.range n).all p then Rt else Rf:=by
 have key:∀ d k m,k+d=n→d < m→loopF body m (k:Int)=bif (List.range' k d).all p then Rt else Rf:=by
  intro d
  induction d with
  | zero=>
    intro k m h1 h2
    obtain ⟨m,rfl⟩:∃ q,m=q+1:=⟨m - 1,by omega⟩
    obtain rfl:k=n:=by omega
    exact he _
  | succ d ih=>
    intro k m h1 h2
    obtain ⟨m,rfl⟩:∃ q,m=q+1:=⟨m - 1,by omega⟩
    show body (loopF body m) (k:Int)=_
    rw [hs _ k (by omega),List.range'_succ,List.all_cons,ih (k+1) m (by omega) (by omega)]
    cases p k <;> rfl
 rw [List.range_eq_range']
 exact key n 0 big (by omega) hn
theorem idx_show (l:List TicketShow) (a:TicketShow→Option Bool) (g:TicketShow→Bool) (h:∀ x∈l,a x=some (g x)) (hl:l.length≤1000):∃ r,sl_IndexFunc_api_TicketShow_api_TicketShow l a=some r∧(0≤r↔l.any g=true):=by
 unfold sl_IndexFunc_api_TicketShow_api_TicketShow
 refine loopF_inv (body:=sl_IndexFunc_api_TicketShow_api_TicketShow_l1 l a) (fun i:Int=>∃ k:Nat,i=k∧k≤l.length∧(l.take k).any g=false) (fun i=>l.length - i.toNat) (fun r=>(0≤r↔l.any g=true)) ?_ big 0 ⟨0,rfl,Nat.zero_le _,by simp⟩ (by unfold big; simp; omega)
 rintro rec i ⟨k,rfl,hk,hn⟩ ih
 unfold sl_IndexFunc_api_TicketShow_api_TicketShow_l1
 by_cases hlt:k < l.length
 ·rw [decide_eq_true (by omega),cond_true,getI_ix hlt,Option.bind_some,h _ (List.getElem_mem hlt),Option.bind_some]
  cases hg:g l[k] with
  | true=>exact ⟨_,rfl,⟨fun _=>List.any_eq_true.2 ⟨_,List.getElem_mem hlt,hg⟩,fun _=>by omega⟩⟩
  | false=>
    rw [cond_false,wrI (by omega) (by omega)]
    refine ih _ ⟨k+1,by simp,hlt,?_⟩ (by (try simp only); omega)
    rw [List.take_succ_eq_append_getElem hlt,List.any_append,hn]
    simp [hg]
 ·rw [decide_eq_false (by omega),cond_false]
  rw [List.take_of_length_le (by omega)] at hn
  exact ⟨-1,rfl,by simp [hn]⟩
theorem has_show (l:List TicketShow) (a:TicketShow→Option Bool) (g:TicketShow→Bool) (h:∀ x∈l,a x=some (g x)) (hl:l.length≤1000):sl_ContainsFunc_api_TicketShow_api_TicketShow l a=some (l.any g):=by
 obtain ⟨r,hr,hi⟩:=idx_show l a g h hl
 unfold sl_ContainsFunc_api_TicketShow_api_TicketShow
 rw [hr,Option.bind_some]
 congr 1
 rw [Bool.eq_iff_iff,decide_eq_true_eq]
 exact hi
theorem idx_box (l:List TicketBox) (a:TicketBox→Option Bool) (g:TicketBox→Bool) (h:∀ x∈l,a x=some (g x)) (hl:l.length≤1000):∃ r,sl_IndexFunc_api_TicketBox_api_TicketBox l a=some r∧(0≤r↔l.any g=true):=by
 unfold sl_IndexFunc_api_TicketBox_api_TicketBox
 refine loopF_inv (body:=sl_IndexFunc_api_TicketBox_api_TicketBox_l1 l a) (fun i:Int=>∃ k:Nat,i=k∧k≤l.length∧(l.take k).any g=false) (fun i=>l.length - i.toNat) (fun r=>(0≤r↔l.any g=true)) ?_ big 0 ⟨0,rfl,Nat.zero_le _,by simp⟩ (by unfold big; simp; omega)
 rintro rec i ⟨k,rfl,hk,hn⟩ ih
 unfold sl_IndexFunc_api_TicketBox_api_TicketBox_l1
 by_cases hlt:k < l.length
 ·rw [decide_eq_true (by omega),cond_true,getI_ix hlt,Option.bind_some,h _ (List.getElem_mem hlt),Option.bind_some]
  cases hg:g l[k] with
  | true=>exact ⟨_,rfl,⟨fun _=>List.any_eq_true.2 ⟨_,List.getElem_mem hlt,hg⟩,fun _=>by omega⟩⟩
  | false=>
    rw [cond_false,wrI (by omega) (by omega)]
    refine ih _ ⟨k+1,by simp,hlt,?_⟩ (by (try simp only); omega)
    rw [List.take_succ_eq_append_getElem hlt,List.any_append,hn]
    simp [hg]
 ·rw [decide_eq_false (by omega),cond_false]
  rw [List.take_of_length_le (by omega)] at hn
  exact ⟨-1,rfl,by simp [hn]⟩
theorem has_box (l:List TicketBox) (a:TicketBox→Option Bool) (g:TicketBox→Bool) (h:∀ x∈l,a x=some (g x)) (hl:l.length≤1000):sl_ContainsFunc_api_TicketBox_api_TicketBox l a=some (l.any g):=by
 obtain ⟨r,hr,hi⟩:=idx_box l a g h hl
 unfold sl_ContainsFunc_api_TicketBox_api_TicketBox
 rw [hr,Option.bind_some]
 congr 1
 rw [Bool.eq_iff_iff,decide_eq_true_eq]
 exact hi
theorem has_int (l:List Int) (v:Int) (hl:l.length≤1000000):sl_Contains_int_int l v=some (decide (v∈l)):=by
 have:∃ r,sl_Index_int_int l v=some r∧(0≤r↔v∈l):=by
  unfold sl_Index_int_int
  refine loopF_inv (body:=sl_Index_int_int_l1 l v) (fun i:Int=>∃ k:Nat,i=k∧k≤l.length∧v ∉ l.take k) (fun i=>l.length - i.toNat) (fun r=>(0≤r↔v∈l)) ?_ big 0 ⟨0,rfl,Nat.zero_le _,by simp⟩ (by unfold big; simp; omega)
  rintro rec i ⟨k,rfl,hk,hn⟩ ih
  unfold sl_Index_int_int_l1
  by_cases hlt:k < l.length
  ·rw [decide_eq_true (by omega),cond_true,getI_ix hlt,Option.bind_some]
   by_cases he:v=l[k]
   ·rw [show (v==l[k])=true by simpa using he,cond_true]
    have hm:v∈l:=he▸List.getElem_mem hlt
    exact ⟨_,rfl,by simp [hm]⟩
   ·rw [show (v==l[k])=false by simpa using he,cond_false,wrI (by omega) (by omega)]
    refine ih _ ⟨k+1,by simp,hlt,?_⟩ (by (try simp only); omega)
    rw [List.take_succ_eq_append_getElem hlt]
    simp only [List.mem_append,List.mem_singleton,not_or]
    exact ⟨hn,he⟩
  ·rw [decide_eq_false (by omega),cond_false]
   have hm:v ∉ l:=by rwa [List.take_of_length_le (by omega)] at hn
   exact ⟨-1,rfl,by simp [hm]⟩
 obtain ⟨r,hr,hi⟩:=this
 unfold sl_Contains_int_int
 rw [hr,Option.bind_some]
 congr 1
 exact decide_eq_decide.2 hi
def popN (s:Nat):Int:=(if s.testBit 0 then 1 else 0)+(if s.testBit 1 then 1 else 0)+(if s.testBit 2 then 1 else 0)
theorem pop_bd (s:Nat):0≤popN s∧popN s≤3:=by
 unfold popN
 cases s.testBit 0 <;> cases s.testBit 1 <;> cases s.testBit 2 <;> decide
theorem pop_all:((List.range 8).all fun s=>decide (bits_OnesCount (wrK .u64 ((s:Nat):Int))=some (popN s)))=true:=by kernel_rfl
theorem pop_eq {s:Nat} (h:s < 8):bits_OnesCount (wrK .u64 (s:Int))=some (popN s):=of_decide_eq_true (List.all_eq_true.1 pop_all s (List.mem_range.2 h))
theorem and_all:((List.range 8).all fun s=>(List.range 8).all fun t=>decide (andI ((s:Nat):Int) ((t:Nat):Int)=((s &&& t:Nat):Int)))=true:=by kernel_rfl
theorem and_nat {s t:Nat} (h:s < 8) (k:t < 8):andI (s:Int) (t:Int)=((s &&& t:Nat):Int):=of_decide_eq_true (List.all_eq_true.1 (List.all_eq_true.1 and_all s (List.mem_range.2 h)) t (List.mem_range.2 k))
theorem and_sub {s t:Nat}:s &&& t=t↔∀ n,t.testBit n=true→s.testBit n=true:=by
 constructor
 ·intro h n hn
  rw [← h,Nat.testBit_and,Bool.and_eq_true] at hn
  exact hn.1
 ·intro h
  refine Nat.eq_of_testBit_eq fun n=>?_
  rw [Nat.testBit_and]
  cases ht:t.testBit n with
  | false=>simp
  | true=>simp [h n ht]
def pv (c u:List Int) (d:Nat):Int:=c.getD d 0 - popN (u.getD d 0).toNat
def paidN (c u:List Int) (f n:Nat):Int:=((List.range' f n).map (pv c u)).sum
theorem paidN_add (c u:List Int) (f n m:Nat):paidN c u f (n+m)=paidN c u f n+paidN c u (f+n) m:=by
 unfold paidN
 rw [← List.range'_append_1,List.map_append,List.sum_append]
theorem paidN_succ (c u:List Int) (f n:Nat):paidN c u f (n+1)=paidN c u f n+pv c u (f+n):=by
 rw [paidN_add]; simp [paidN]
structure Small (c u:List Int):Prop where
 c3:c.length=3
 u3:u.length=3
 cb:∀ d,0≤c.getD d 0∧c.getD d 0≤5
 ub:∀ d,0≤u.getD d 0∧u.getD d 0 < 8
theorem Small.pv {c u:List Int} (h:Small c u) (d:Nat):-3≤pv c u d∧YtafhljljfglfeaaDoor.pv c u d≤5:=by
 have h1:=h.cb d; have h2:=pop_bd (u.getD d 0).toNat
 unfold YtafhljljfglfeaaDoor.pv; omega
theorem Small.paid {c u:List Int} (h:Small c u) (f:Nat):∀ n:Nat,-3*(n:Int)≤paidN c u f n∧paidN c u f n≤5*(n:Int):=by
 intro n
 induction n with
 | zero=>simp [paidN]
 | succ n ih=>
   rw [paidN_succ]
   have:=h.pv (f+n)
   omega
theorem sumI_eq (l:List Int) (hl:l.length≤8) (hb:∀ x∈l,-3≤x∧x≤5):ticket_sum_int l=some l.sum:=by
 have sum_bd:∀ (l:List Int),(∀ x∈l,-3≤x∧x≤5)→-3*(l.length:Int)≤l.sum∧l.sum≤5*(l.length:Int):=by
  intro l
  induction l with
  | nil=>simp
  | cons x l ih=>
    intro h
    have h1:=h x (List.mem_cons_self ..)
    have h2:=ih fun n hn=>h n (List.mem_cons_of_mem _ hn)
    simp only [List.sum_cons,List.length_cons]
    omega
 unfold ticket_sum_int
 refine loop_fold0 (fun k=>((l.take k).sum,(k:Int))) l.length (fun rec k hk=>?_) (fun rec=>?_) (by rw [big_eq]; omega) rfl
 ·unfold ticket_sum_int_l1
  simp only
  have h1:=sum_bd (l.take k) fun x hx=>hb x (List.mem_of_mem_take hx)
  have h2:=hb _ (List.getElem_mem hk)
  have h3:(l.take k).length≤8:=by rw [List.length_take]; omega
  rw [decide_eq_true (by omega),cond_true,getI_ix hk,Option.bind_some,wrI (by omega) (by omega),wrI (by omega) (by omega),← List.take_append_getElem hk,List.sum_append]
  simp
 ·unfold ticket_sum_int_l1
  simp only
  rw [decide_eq_false (by omega),cond_false,List.take_length]
theorem agetN (l:List Int) (k:Nat):aget l (k:Int)=l.getD k 0:=rfl
theorem usedN {c u:List Int} (h:Small c u) (d:Nat):((u.getD d 0).toNat:Int)=u.getD d 0∧(u.getD d 0).toNat < 8:=by
 have:=h.ub d; omega
theorem paid_eq {c u:List Int} (h:Small c u) {f t:Int} (f0:0≤f) (ft:f≤t) (t3:t < 3):ticket_truth_paid ⟨c,u⟩ f t=some (paidN c u f.toNat (t+1 - f).toNat):=by
 unfold ticket_truth_paid
 refine loop_fold0 (fun k=>((List.range' f.toNat k).map (pv c u),f+k)) (t+1 - f).toNat (fun rec k hk=>?_) (fun rec=>?_) (by rw [big_eq]; omega) (by simp)
 ·unfold ticket_truth_paid_l1
  simp only
  have e:f+(k:Int)=((f.toNat+k:Nat):Int):=by omega
  have hu:=usedN h (f.toNat+k)
  have hp:=pop_eq hu.2
  rw [hu.1] at hp
  have hv:=h.pv (f.toNat+k)
  have hb:=h.cb (f.toNat+k)
  have hq:=pop_bd (u.getD (f.toNat+k) 0).toNat
  rw [decide_eq_true (by omega),cond_true,need_of (by simp [inI]; omega),need_of (by simp [inI]; omega),e,agetN,agetN,hp,Option.bind_some,wrI (x:=_ - popN _) (by omega) (by omega),need_of (fits_small (by simp; omega) (by omega)),wrI (by omega) (by omega)]
  rw [List.range'_1_concat,List.map_append]
  refine congrArg rec ?_
  refine Prod.ext rfl ?_
  show ((f.toNat+k:Nat):Int)+1=f+((k+1:Nat):Int)
  omega
 ·unfold ticket_truth_paid_l1
  simp only
  rw [decide_eq_false (by omega),cond_false,sumI_eq _ (by simp; omega) (fun x hx=>by
   obtain ⟨k,_,rfl⟩:=List.mem_map.1 hx
   exact h.pv k)]
  rfl
end Go.Proofs.YtafhljljfglfeaaDoor
namespace Go.Proofs.YtafhljljfglfeaaDoor
open Go Go.Fx
structure OpT (q:Ticket_book):Prop where
 ta:Val q.TicketBook.Tally
 t3:q.TicketBook.Tally.Trips≤3
 r5:q.TicketBook.Tally.Room≤5
 f1:1≤q.TicketBook.Fare
 f20:q.TicketBook.Fare≤20
 tn:q.TicketBook.Tickets.length≤3
 te:∀ x∈q.TicketBook.Tickets,Seas q.TicketBook.Tally.Trips x
 sn:q.TicketBook.Shows.length≤5
 bn:q.TicketBook.Boxes.length≤3
 bx:∀ x∈q.TicketBook.Boxes,Box q.TicketBook.Tally.Trips x
 s3:q.shown_.length=3
 sb:∀ d,0≤q.shown_.getD d 0∧q.shown_.getD d 0 < 8
def fitsN (fare:Int) (c u:List Int) (x:TicketBox):Bool:=inB (paidN c u x.From.toNat (x.To+1 - x.From).toNat*fare) x.Pence (x.Pence+x.Lost)
theorem mul_bd {r f:Int} (h1:-9≤r) (h2:r≤15) (f1:1≤f) (f20:f≤20):-180≤r*f∧r*f≤300:=by
 have a:r*f≤15*f:=Int.mul_le_mul_of_nonneg_right h2 (by omega)
 have b:-9*f≤r*f:=Int.mul_le_mul_of_nonneg_right h1 (by omega)
 omega
theorem fits_eq (q:Ticket_book) (f1:1≤q.TicketBook.Fare) (f20:q.TicketBook.Fare≤20) {c u:List Int} (h:Small c u) {T:Int} (T3:T≤3) {x:TicketBox} (hx:Box T x):ticket_book_fits q ⟨c,u⟩ x=some (fitsN q.TicketBook.Fare c u x):=by
 have h0:=hx.f0; have h1:=hx.ft; have h2:=hx.tT; have h3:=hx.p0; have h4:=hx.p4; have h5:=hx.l0; have h6:=hx.l4
 unfold ticket_book_fits
 rw [paid_eq h h0 h1 (by omega),Option.bind_some]
 have hp:=h.paid x.From.toNat (x.To+1 - x.From).toNat
 have hm:=mul_bd (r:=paidN c u x.From.toNat (x.To+1 - x.From).toNat) (by omega) (by omega) f1 f20
 rw [wrI (x:=_*_) (by omega) (by omega),wrI (x:=x.Pence+x.Lost) (by omega) (by omega),withinT_eq]
 rfl
def rightN (q:Ticket_book) (c u:List Int) (d:Nat):Bool:=q.TicketBook.Boxes.all fun x=>!(x.To==(d:Int))||fitsN q.TicketBook.Fare c u x
theorem rightT_eq (q:Ticket_book) (Q:OpT q) {c u:List Int} (h:Small c u) (d:Nat):ticket_book_right q ⟨c,u⟩ d=some (rightN q c u d):=by
 unfold ticket_book_right
 rw [has_box q.TicketBook.Boxes _ (fun x=>(x.To==(d:Int))&&!fitsN q.TicketBook.Fare c u x) (fun x hx=>?_) (by have:=Q.bn; omega),Option.bind_some]
 ·congr 1
  unfold rightN
  rw [Bool.eq_iff_iff,Bool.not_eq_true',List.any_eq_false,List.all_eq_true]
  refine forall_congr' fun x=>forall_congr' fun _=>?_
  cases (x.To==(d:Int)) <;> cases fitsN q.TicketBook.Fare c u x <;> simp
 ·unfold ticket_book_right_1
  cases hd:(x.To==(d:Int)) with
  | false=>rfl
  | true=>rw [cond_true,fits_eq q Q.f1 Q.f20 h Q.t3 (Q.bx x hx),Option.bind_some]; rfl
def validN (q:Ticket_book) (s d:Nat):Bool:=(List.range q.TicketBook.Tickets.length).all (fun k=>(q.TicketBook.Tickets[k]?).all fun x=>!s.testBit k||inB d x.From x.To)&&s / 2 ^ q.TicketBook.Tickets.length==0
theorem bitI (s k:Nat) (hk:k < 64):(andI (shrI (s:Int) (k:Int)) 1==1)=s.testBit k:=by
 have:=member_nat s k hk
 unfold B_Member at this
 rw [need_of (by simp)] at this
 exact Option.some.inj this
theorem valid_eq (q:Ticket_book) (Q:OpT q) (s d:Nat):ticket_book_valid q s d=some (validN q s d):=by
 have hn:=Q.tn
 unfold ticket_book_valid
 rw [loop_all (body:=ticket_book_valid_l2 q s d) q.TicketBook.Tickets.length (fun k=>(q.TicketBook.Tickets[k]?).all fun x=>!s.testBit k||inB d x.From x.To) (Rf:=some false) (Rt:=some (s / 2 ^ q.TicketBook.Tickets.length==0)) (fun rec k hk=>?_) (fun rec=>?_) (by rw [big_eq]; omega)]
 ·unfold validN
  generalize (List.range q.TicketBook.Tickets.length).all (fun k=>(q.TicketBook.Tickets[k]?).all fun x=>!s.testBit k||inB d x.From x.To)=A
  cases A <;> rfl
 ·unfold ticket_book_valid_l2
  rw [decide_eq_true (by omega),cond_true,getI_ix hk,Option.bind_some,need_of (by simp),bitI s k (by omega),List.getElem?_eq_getElem hk,withinT_eq,wrI (by omega) (by omega),show (k:Int)+1=((k+1:Nat):Int) by omega]
  simp only [Option.all_some]
  cases s.testBit k <;> cases inB (d:Int) q.TicketBook.Tickets[k].From q.TicketBook.Tickets[k].To <;> rfl
 ·unfold ticket_book_valid_l2
  rw [decide_eq_false (by omega),cond_false,need_of (by simp),shr_nat s _ (by omega)]
  congr 1
  rw [Bool.eq_iff_iff,beq_iff_eq,beq_iff_eq]
  omega
def okN (q:Ticket_book) (c u:List Int) (s d:Nat):Bool:=validN q s d&&(s &&& (q.shown_.getD d 0).toNat==(q.shown_.getD d 0).toNat)&&decide (popN s≤c.getD d 0)&&rightN q c u d
def usesL (q:Ticket_book):Nat→List Int→List Int→Nat→List Ticket_truth
 | 0,c,u,_=>[⟨c,u⟩]
 | r+1,c,u,d=>(List.range' 0 8).flatMap fun (s:Nat)=>bif okN q c (u.set d (s:Int)) s d then usesL q r c (u.set d (s:Int)) (d+1) else []
theorem Small.setU {c u:List Int} (h:Small c u) {d:Nat}{s:Nat} (hs:s < 8):Small c (u.set d (s:Int)):=by
 refine ⟨h.c3,by simp [h.u3],h.cb,fun i=>?_⟩
 have:=h.ub i
 rw [List.getD_eq_getElem?_getD] at this ⊢
 rw [List.getElem?_set]
 split
 ·split
  ·simp; omega
  ·simp
 ·exact this
theorem use_eq (q:Ticket_book) (Q:OpT q) {σ:Type} (yv:Ticket_truth→σ→Option (Bool×σ)):∀ (r:Nat) (c u:List Int) (d:Nat) (s:σ) (n:Nat),((d+r:Nat):Int)=q.TicketBook.Tally.Trips→r < n→Small c u→
 ticket_book_truths_1_1 n ⟨c,u⟩ d s q q yv=foldY yv (usesL q r c u d) s:=by
 have T3:=Q.t3
 intro r
 induction r with
 | zero=>
   intro c u d s n h1 h2 h3
   obtain ⟨n,rfl⟩:∃ m,n=m+1:=⟨n - 1,by omega⟩
   show ticket_book_truths_1_1_F _ ⟨c,u⟩ d s q q yv=foldY yv [⟨c,u⟩] s
   rw [foldY_one]
   unfold ticket_book_truths_1_1_F
   rw [show ((d:Int)==q.TicketBook.Tally.Trips)=true by rw [beq_iff_eq]; omega,cond_true]
   cases yv ⟨c,u⟩ s <;> rfl
 | succ r ih=>
   intro c u d s n h1 h2 h3
   obtain ⟨n,rfl⟩:∃ m,n=m+1:=⟨n - 1,by omega⟩
   show ticket_book_truths_1_1_F _ ⟨c,u⟩ d s q q yv=_
   unfold ticket_book_truths_1_1_F
   rw [show ((d:Int)==q.TicketBook.Tally.Trips)=false by rw [beq_eq_false_iff_ne]; omega,cond_false]
   have key:∀ (e k m:Nat) (U:List Int) (s:σ),k+e=8→e < m→U.length=3→(∀ x,U.set d x=u.set d x)→
    loopF (ticket_book_truths_1_1_l1 d q ⟨c,u⟩ q (fun x0 x1 x2=>ticket_book_truths_1_1 n x0 x1 x2 q q yv)) m ((k:Int),U,s)=foldY yv ((List.range' k e).flatMap fun (s:Nat)=>bif okN q c (u.set d (s:Int)) s d then usesL q r c (u.set d (s:Int)) (d+1) else []) s:=by
    intro e
    induction e with
    | zero=>
      intro k m U s h4 h5 h6 h7
      obtain ⟨m,rfl⟩:∃ q,m=q+1:=⟨m - 1,by omega⟩
      show ticket_book_truths_1_1_l1 d q ⟨c,u⟩ q _ _ ((k:Int),U,s)=_
      unfold ticket_book_truths_1_1_l1
      simp only
      rw [decide_eq_false (by omega),cond_false]
      rfl
    | succ e ih2=>
      intro k m U s h4 h5 h6 h7
      obtain ⟨m,rfl⟩:∃ q,m=q+1:=⟨m - 1,by omega⟩
      show ticket_book_truths_1_1_l1 d q ⟨c,u⟩ q _ (loopF _ m) ((k:Int),U,s)=_
      have ih3:=fun s=>ih2 (k+1) m (u.set d (k:Int)) s (by omega) (by omega) (by simp [h3.u3]) (fun x=>by simp)
      generalize loopF (ticket_book_truths_1_1_l1 d q ⟨c,u⟩ q (fun x0 x1 x2=>ticket_book_truths_1_1 n x0 x1 x2 q q yv)) m=rec at ih3
      rw [List.range'_succ,List.flatMap_cons,foldY_app]
      have w0:wr ((k:Int)+1)=((k+1:Nat):Int):=by rw [wrI (by omega) (by omega)]; omega
      have wd:wr ((d:Int)+1)=((d+1:Nat):Int):=by rw [wrI (by omega) (by omega)]; omega
      have hk:k < 8:=by omega
      have hS:=h3.setU (d:=d) hk
      have nd:need (inI (d:Int) 3)=fun x:Option (Bool×σ)=>x:=by funext x; exact need_of (by simp [inI]; omega)
      have hsh:((q.shown_.getD d 0).toNat:Int)=q.shown_.getD d 0:=by have:=Q.sb d; omega
      have hand:=and_nat hk (show (q.shown_.getD d 0).toNat < 8 by have:=Q.sb d; omega)
      rw [hsh] at hand
      unfold ticket_book_truths_1_1_l1
      simp only
      rw [decide_eq_true (by omega),cond_true]
      simp only [nd]
      rw [valid_eq q Q,Option.bind_some,w0,aset_eq h6,show ((d:Int)).toNat=d from rfl,h7,agetN,agetN,hand]
      unfold okN
      cases validN q k d with
      | false=>
        simp only [Bool.not_false,cond_true,Bool.false_and,cond_false]
        rw [ih3 s]; rfl
      | true=>
        simp only [Bool.not_true,cond_false,Bool.true_and]
        rw [show (((k &&& (q.shown_.getD d 0).toNat:Nat):Int) != q.shown_.getD d 0)=!(k &&& (q.shown_.getD d 0).toNat==(q.shown_.getD d 0).toNat) by
         rw [Bool.eq_iff_iff,bne_iff_ne,Bool.not_eq_true',beq_eq_false_iff_ne]; omega]
        cases (k &&& (q.shown_.getD d 0).toNat==(q.shown_.getD d 0).toNat) with
        | false=>
          simp only [Bool.not_false,cond_true,Bool.false_and,cond_false]
          rw [ih3 s]; rfl
        | true=>
          simp only [Bool.not_true,cond_false,Bool.true_and]
          rw [pop_eq hk,Option.bind_some]
          by_cases hp:popN k≤c.getD d 0
          ·rw [decide_eq_false (show ¬popN k > c.getD d 0 by omega),cond_false,decide_eq_true hp,Bool.true_and,rightT_eq q Q hS,Option.bind_some]
           cases rightN q c (u.set d (k:Int)) d with
           | false=>
             simp only [Bool.not_false,cond_true,cond_false]
             rw [ih3 s]; rfl
           | true=>
             simp only [Bool.not_true,cond_false,cond_true]
             rw [wd,ih c (u.set d (k:Int)) (d+1) s n (by omega) (by omega) hS]
             cases foldY yv (usesL q r c (u.set d (k:Int)) (d+1)) s with
             | none=>rfl
             | some x=>
               obtain ⟨b,s2⟩:=x
               cases b with
               | false=>rfl
               | true=>exact ih3 s2
          ·rw [decide_eq_true (show popN k > c.getD d 0 by omega),cond_true,decide_eq_false hp,Bool.false_and,cond_false,ih3 s]; rfl
   exact key 8 0 big u s (by omega) (by rw [big_eq]; omega) h3.u3 (fun _=>rfl)
def canB (b:TallyBook) (c:List Int):Bool:=((tally_Can b (c.take b.Trips.toNat)).map (·.1)).getD false
def zer:List Int:=List.replicate 3 0
def crossL (q:Ticket_book):Nat→List Int→Nat→List Ticket_truth
 | 0,c,_=>bif canB q.TicketBook.Tally c then usesL q q.TicketBook.Tally.Trips.toNat c zer 0 else []
 | r+1,c,d=>(List.range' 0 (q.TicketBook.Tally.Room+1).toNat).flatMap fun (n:Nat)=>crossL q r (c.set d (n:Int)) (d+1)
theorem Small.setC {c u:List Int} (h:Small c u) {d:Nat}{s:Nat} (hs:s≤5):Small (c.set d (s:Int)) u:=by
 refine ⟨by simp [h.c3],h.u3,fun i=>?_,h.ub⟩
 have:=h.cb i
 rw [List.getD_eq_getElem?_getD] at this ⊢
 rw [List.getElem?_set]
 split
 ·split
  ·simp; omega
  ·simp
 ·exact this
theorem take_all {l:List Int}{n:Nat}{p:Int→Prop} (h:∀ i,i < n→p (l.getD i 0)):∀ x∈l.take n,p x:=by
 intro x hx
 obtain ⟨i,hi,rfl⟩:=List.getElem_of_mem hx
 have h1:i < n:=by rw [List.length_take] at hi; omega
 have h2:i < l.length:=by rw [List.length_take] at hi; omega
 have:=h i h1
 rw [List.getElem_take]
 rwa [List.getD_eq_getElem?_getD,List.getElem?_eq_getElem h2] at this
theorem tru_of {b:TallyBook} (V:Val b) (t3:b.Trips≤3) {c:List Int} (c3:c.length=3) (h:∀ i,i < b.Trips.toNat→0≤c.getD i 0∧c.getD i 0≤b.Room):Tru b (c.take b.Trips.toNat):=by
 have:=V.t1
 exact ⟨by rw [List.length_take]; omega,take_all (p:=fun n=>0≤n∧n≤b.Room) h⟩
theorem canB_eq {b:TallyBook} (V:Val b) {c:List Int} (hu:Tru b (c.take b.Trips.toNat)):tally_Can b (c.take b.Trips.toNat)=some (canB b c,0)∧(canB b c=true↔Fit b no (pre (c.take b.Trips.toNat))):=by
 obtain ⟨r,hr,hi⟩:=can_law V hu
 have:canB b c=r:=by unfold canB; rw [hr]; rfl
 rw [this]; exact ⟨hr,hi⟩
theorem cross_eq (q:Ticket_book) (Q:OpT q) {σ:Type} (yv:Ticket_truth→σ→Option (Bool×σ)):∀ (r:Nat) (c:List Int) (d:Nat) (s:σ) (n:Nat),((d+r:Nat):Int)=q.TicketBook.Tally.Trips→r < n→Small c zer→(∀ i,i < d→0≤c.getD i 0∧c.getD i 0≤q.TicketBook.Tally.Room)→
 ticket_book_truths_1_2 n ⟨c,zer⟩ d s q q yv=foldY yv (crossL q r c d) s:=by
 have T3:=Q.t3; have r0:=Q.ta.r0; have r5:=Q.r5
 intro r
 induction r with
 | zero=>
   intro c d s n h1 h2 h3 h4
   obtain ⟨n,rfl⟩:∃ m,n=m+1:=⟨n - 1,by omega⟩
   show ticket_book_truths_1_2_F _ ⟨c,zer⟩ d s q q yv=_
   unfold ticket_book_truths_1_2_F
   have hd:d=q.TicketBook.Tally.Trips.toNat:=by omega
   have hc:=h3.c3
   obtain ⟨e1,_⟩:=canB_eq Q.ta (tru_of Q.ta T3 h3.c3 (by rw [← hd]; exact h4))
   rw [show ((d:Int)==q.TicketBook.Tally.Trips)=true by rw [beq_iff_eq]; omega,cond_true]
   simp only
   rw [sgl_eq h3.c3,cutI_eq (by omega) (by omega) (by omega),Option.bind_some,show ((0:Int)).toNat=0 from rfl,List.drop_zero,show ((d:Int)).toNat=q.TicketBook.Tally.Trips.toNat by omega,e1,Option.bind_some,crossL]
   simp only
   cases canB q.TicketBook.Tally c with
   | false=>rfl
   | true=>
     rw [Bool.not_true,cond_false,cond_true]
     have:=use_eq q Q yv q.TicketBook.Tally.Trips.toNat c zer 0 s big (by omega) (by rw [big_eq]; omega) h3
     rw [show ticket_book_truths_1_1 big ⟨c,zer⟩ 0 s q q yv=_ from this]
     cases foldY yv (usesL q q.TicketBook.Tally.Trips.toNat c zer 0) s <;> rfl
 | succ r ih=>
   intro c d s n h1 h2 h3 h4
   obtain ⟨n,rfl⟩:∃ m,n=m+1:=⟨n - 1,by omega⟩
   show ticket_book_truths_1_2_F _ ⟨c,zer⟩ d s q q yv=_
   unfold ticket_book_truths_1_2_F
   rw [show ((d:Int)==q.TicketBook.Tally.Trips)=false by rw [beq_eq_false_iff_ne]; omega,cond_false]
   have wR:wr (q.TicketBook.Tally.Room+1)=(((q.TicketBook.Tally.Room+1).toNat:Nat):Int):=by rw [wrI (by omega) (by omega)]; omega
   have key:∀ (e k m:Nat) (U:List Int) (s:σ),k+e=(q.TicketBook.Tally.Room+1).toNat→e < m→U.length=3→(∀ x,U.set d x=c.set d x)→
    loopF (ticket_book_truths_1_2_l1 q d (fun x0 x1 x2=>ticket_book_truths_1_2 n x0 x1 x2 q q yv) ⟨c,zer⟩) m ((k:Int),U,s)=foldY yv ((List.range' k e).flatMap fun (n:Nat)=>crossL q r (c.set d (n:Int)) (d+1)) s:=by
    intro e
    induction e with
    | zero=>
      intro k m U s h4 h5 h6 h7
      obtain ⟨m,rfl⟩:∃ q,m=q+1:=⟨m - 1,by omega⟩
      show ticket_book_truths_1_2_l1 q d _ ⟨c,zer⟩ _ ((k:Int),U,s)=_
      unfold ticket_book_truths_1_2_l1
      simp only
      rw [wR,decide_eq_false (by omega),cond_false]
      rfl
    | succ e ih2=>
      intro k m U s h5 h6 h7 h8
      obtain ⟨m,rfl⟩:∃ q,m=q+1:=⟨m - 1,by omega⟩
      show ticket_book_truths_1_2_l1 q d _ ⟨c,zer⟩ (loopF _ m) ((k:Int),U,s)=_
      have ih3:=fun s=>ih2 (k+1) m (c.set d (k:Int)) s (by omega) (by omega) (by simp [h3.c3]) (fun x=>by simp)
      generalize loopF (ticket_book_truths_1_2_l1 q d (fun x0 x1 x2=>ticket_book_truths_1_2 n x0 x1 x2 q q yv) ⟨c,zer⟩) m=rec at ih3
      rw [List.range'_succ,List.flatMap_cons,foldY_app]
      have w0:wr ((k:Int)+1)=((k+1:Nat):Int):=by rw [wrI (by omega) (by omega)]; omega
      have wd:wr ((d:Int)+1)=((d+1:Nat):Int):=by rw [wrI (by omega) (by omega)]; omega
      unfold ticket_book_truths_1_2_l1
      simp only
      rw [wR,decide_eq_true (by omega),cond_true,need_of (by simp [inI]; omega),aset_eq h7,show ((d:Int)).toNat=d from rfl,h8,wd,w0,ih (c.set d (k:Int)) (d+1) s n (by omega) (by omega) (h3.setC (by omega)) (fun i hi=>by
       rw [List.getD_eq_getElem?_getD,List.getElem?_set]
       split
       ·split
        ·simp; omega
        ·simp; omega
       ·rw [← List.getD_eq_getElem?_getD]; exact h4 i (by omega))]
      cases foldY yv (crossL q r (c.set d (k:Int)) (d+1)) s with
      | none=>rfl
      | some x=>
        obtain ⟨b,s2⟩:=x
        cases b with
        | false=>rfl
        | true=>exact ih3 s2
   exact key _ 0 big c s (by omega) (by rw [big_eq]; omega) h3.c3 (fun _=>rfl)
theorem small0:Small zer zer:=by
 have:∀ d,zer.getD d 0=0:=fun d=>by
  unfold zer; rw [List.getD_eq_getElem?_getD,List.getElem?_replicate]; split <;> rfl
 exact ⟨rfl,rfl,fun d=>by rw [this]; omega,fun d=>by rw [this]; omega⟩
def truths (q:Ticket_book) (cl:Bool):List Ticket_truth:=bif cl then crossL q q.TicketBook.Tally.Trips.toNat zer 0 else []
theorem truths_eq (q:Ticket_book) (Q:OpT q) {cl:Bool} (hc:ticket_book_clear q=some cl) {σ:Type} (yv:Ticket_truth→σ→Option (Bool×σ)) (s:σ):ticket_book_truths_1 s q yv=(foldY yv (truths q cl) s).map (·.2):=by
 have T3:=Q.t3; have T1:=Q.ta.t1
 unfold ticket_book_truths_1 truths
 rw [hc,Option.bind_some]
 cases cl with
 | false=>rfl
 | true=>
   rw [Bool.not_true,cond_false,cond_true]
   have:=cross_eq q Q yv q.TicketBook.Tally.Trips.toNat zer 0 s big (by omega) (by rw [big_eq]; omega) small0 (fun i h=>absurd h (Nat.not_lt_zero i))
   rw [show ticket_book_truths_1_2 big (Ticket_truth.mk (List.replicate 3 0) (List.replicate 3 0)) 0 s q q yv=_ from this]
   cases foldY yv (crossL q q.TicketBook.Tally.Trips.toNat zer 0) s <;> rfl
end Go.Proofs.YtafhljljfglfeaaDoor
namespace Go.Proofs.YtafhljljfglfeaaDoor
open Go Go.Fx
def kept {α:Type} (l:List α) (o:Nat→Bool) (k:Nat):List α:=(List.range k).filterMap fun i=>bif o i then none else l[i]?
theorem kept_succ {α:Type}{l:List α}{o:Nat→Bool}{k:Nat} (h:k < l.length):kept l o (k+1)=kept l o k++(bif o k then [] else [l[k]]):=by
 unfold kept
 rw [List.range_succ,List.filterMap_append]
 congr 1
 simp only [List.filterMap_cons,List.filterMap_nil,List.getElem?_eq_getElem h]
 cases o k <;> rfl
theorem kept_len {α:Type}{l:List α}{o:Nat→Bool}{k:Nat}:(kept l o k).length≤k:=by
 have:=List.length_filterMap_le (fun i=>bif o i then none else l[i]?) (List.range k)
 simpa [kept] using this
theorem kept_all {α:Type} (l:List α):kept l (fun _=>false) l.length=l:=by
 have:∀ k,k≤l.length→kept l (fun _=>false) k=l.take k:=by
  intro k
  induction k with
  | zero=>intro _; rfl
  | succ k ih=>
    intro h
    rw [kept_succ (by omega),ih (by omega),List.take_succ_eq_append_getElem (by omega)]; rfl
 rw [this _ (Nat.le_refl _),List.take_length]
def shownStep (s:List Int) (x:TicketShow):List Int:=aset s 3 x.Trip (orI (aget s x.Trip) (shlI 1 x.Ticket))
def shownOf (l:List TicketShow):List Int:=l.foldl shownStep zer
def byStep (m:List (Ticket_seat×Int)) (x:TicketShow):List (Ticket_seat×Int):=putL m (Ticket_seat.mk x.Trip x.Walker) (orI ((lookL m (Ticket_seat.mk x.Trip x.Walker)).getD 0) (shlI 1 x.Ticket))
def byOf (l:List TicketShow):List (Ticket_seat×Int):=l.foldl byStep (putL ([]:List (Ticket_seat×Int)) (Ticket_seat.mk (-1) (-1)) 0)
def qOf (b:TicketBook) (sh:List TicketShow) (bx:List TicketBox):Ticket_book:=⟨⟨b.Tally,b.Fare,b.Tickets,sh,bx⟩,shownOf sh,byOf sh⟩
def outS (b:TicketBook) (o:Nat→Bool):List TicketShow:=kept b.Shows o b.Shows.length
def outX (b:TicketBook) (o:Nat→Bool):List TicketBox:=kept b.Boxes (fun i=>o (b.Shows.length+i)) b.Boxes.length
theorem openedT_eq {b:TicketBook} (V:VT b) (ch:Ticket_choice) (o:Nat→Bool) (h:∀ k,k < b.Shows.length+b.Boxes.length→ch.out_ (k:Int)=some (o k)):ticket_opened b ch=some (qOf b (outS b o) (outX b o)):=by
 have sn:=V.sn; have bn:=V.bn
 unfold ticket_opened
 refine loop_fold0 (fun k=>((k:Int),(kept b.Shows o k).foldl byStep (putL ([]:List (Ticket_seat×Int)) (Ticket_seat.mk (-1) (-1)) 0),kept b.Shows o k,(kept b.Shows o k).foldl shownStep zer)) b.Shows.length (fun rec k hk=>?_) (fun rec=>?_) (by rw [big_eq]; omega) rfl
 ·unfold ticket_opened_l5
  simp only
  have hx:=V.sh _ (List.getElem_mem hk)
  have t3:=V.t3; have h0:=hx.t0; have h1:=hx.tT; have h2:=hx.n0
  have hl:=kept_len (l:=b.Shows) (o:=o) (k:=k)
  rw [decide_eq_true (by omega),cond_true,getI_ix hk,Option.bind_some,h k (by omega),Option.bind_some,kept_succ hk,wrI (by omega) (by omega),show (k:Int)+1=((k+1:Nat):Int) by omega]
  cases o k with
  | true=>
    rw [Bool.not_true,cond_false,cond_true,List.append_nil]
  | false=>
    rw [Bool.not_false,cond_true,cond_false,need_of (fits_small (by simp; omega) (by omega)),need_of (by simp [inI]; omega),need_of (by simp; omega),need_of (by simp [inI]; omega),need_of (by simp; omega),List.foldl_append,List.foldl_append]
    rfl
 ·unfold ticket_opened_l5
  simp only
  rw [decide_eq_false (by omega),cond_false]
  refine loop_fold0 (fun k=>((k:Int),kept b.Boxes (fun i=>o (b.Shows.length+i)) k)) b.Boxes.length (fun rec k hk=>?_) (fun rec=>?_) (by rw [big_eq]; omega) rfl
  ·unfold ticket_opened_l4
   simp only
   have hl:=kept_len (l:=b.Boxes) (o:=fun i=>o (b.Shows.length+i)) (k:=k)
   rw [decide_eq_true (by omega),cond_true,getI_ix hk,Option.bind_some,wrI (x:=(b.Shows.length:Int)+(k:Int)) (by omega) (by omega),show (b.Shows.length:Int)+(k:Int)=((b.Shows.length+k:Nat):Int) by omega,h _ (by omega),Option.bind_some,kept_succ hk,wrI (x:=(k:Int)+1) (by omega) (by omega),show (k:Int)+1=((k+1:Nat):Int) by omega]
   cases o (b.Shows.length+k) with
   | true=>rw [Bool.not_true,cond_false,cond_true,List.append_nil]
   | false=>rw [Bool.not_false,cond_true,cond_false,need_of (fits_small (by simp; omega) (by omega))]
  ·unfold ticket_opened_l4
   simp only
   rw [decide_eq_false (by omega),cond_false]
   rfl
structure Pc (b:TicketBook) (sh:List TicketShow) (bx:List TicketBox):Prop where
 sn:sh.length≤5
 bn:bx.length≤3
 sh:∀ x∈sh,Shw b.Tally.Trips b.Tickets.length x
 bx:∀ x∈bx,Box b.Tally.Trips x
theorem VT.pc {b:TicketBook} (V:VT b):Pc b b.Shows b.Boxes:=⟨V.sn,V.bn,V.sh,V.bx⟩
theorem list_rev {α:Type}{p:List α→Prop} (h0:p []) (h1:∀ l x,p l→p (l++[x])):∀ l,p l:=by
 intro l
 have:∀ n,n≤l.length→p (l.take n):=by
  intro n
  induction n with
  | zero=>intro _; exact h0
  | succ n ih=>
    intro h
    rw [List.take_succ_eq_append_getElem (by omega)]
    exact h1 _ _ (ih (by omega))
 have:=this _ (Nat.le_refl _)
 rwa [List.take_length] at this
theorem or_small {s t:Nat} (h:s < 8) (k:t < 3):orI (s:Int) (shlI 1 (t:Int))=((s ||| 2 ^ t:Nat):Int)∧s ||| 2 ^ t < 8:=by
 have h2:2 ^ t < 8:=by
  match t,k with
  | 0,_=>decide
  | 1,_=>decide
  | 2,_=>decide
 refine ⟨?_,Nat.or_lt_two_pow (n:=3) h h2⟩
 rw [shl1_nat t (by omega),or_nat s _ (by omega) (by omega)]
theorem shown_ok {b:TicketBook} (t3:b.Tally.Trips≤3) (tn:b.Tickets.length≤3):∀ (sh:List TicketShow),(∀ x∈sh,Shw b.Tally.Trips b.Tickets.length x)→(shownOf sh).length=3∧(∀ d,0≤(shownOf sh).getD d 0∧(shownOf sh).getD d 0 < 8)∧∀ d n:Nat,((shownOf sh).getD d 0).toNat.testBit n=true↔∃ x∈sh,x.Trip=d∧x.Ticket=n:=by
 refine list_rev (fun _=>?_) (fun l x ih h=>?_)
 ·have hz:∀ d,zer.getD d 0=0:=fun d=>by
   unfold zer; rw [List.getD_eq_getElem?_getD,List.getElem?_replicate]; split <;> rfl
  refine ⟨rfl,fun d=>?_,fun d n=>?_⟩
  ·show 0≤zer.getD d 0∧zer.getD d 0 < 8; rw [hz]; omega
  ·show (zer.getD d 0).toNat.testBit n=true↔_; rw [hz]; simp
 ·obtain ⟨i1,i2,i3⟩:=ih fun y hy=>h y (List.mem_append_left _ hy)
  have hx:=h x (List.mem_append_right _ (List.mem_singleton.2 rfl))
  have h0:=hx.t0; have h1:=hx.tT; have h2:=hx.n0; have h3:=hx.nm
  have hd:=i2 x.Trip.toNat
  have e:shownOf (l++[x])=(shownOf l).set x.Trip.toNat ((((shownOf l).getD x.Trip.toNat 0).toNat ||| 2 ^ x.Ticket.toNat:Nat):Int):=by
   have e0:shownOf (l++[x])=shownStep (shownOf l) x:=by unfold shownOf; rw [List.foldl_append]; rfl
   rw [e0]
   unfold shownStep
   rw [aset_eq i1]
   congr 1
   have:=or_small (s:=((shownOf l).getD x.Trip.toNat 0).toNat) (t:=x.Ticket.toNat) (by omega) (by omega)
   rw [← this.1,show ((((shownOf l).getD x.Trip.toNat 0).toNat:Nat):Int)=(shownOf l).getD x.Trip.toNat 0 by omega,show ((x.Ticket.toNat:Nat):Int)=x.Ticket by omega]
   rfl
  have lt:=(or_small (s:=((shownOf l).getD x.Trip.toNat 0).toNat) (t:=x.Ticket.toNat) (by omega) (by omega)).2
  have get:∀ d,(shownOf (l++[x])).getD d 0=if x.Trip.toNat=d then ((((shownOf l).getD x.Trip.toNat 0).toNat ||| 2 ^ x.Ticket.toNat:Nat):Int) else (shownOf l).getD d 0:=fun d=>by
   rw [e,List.getD_eq_getElem?_getD,List.getElem?_set]
   by_cases hd:x.Trip.toNat=d
   ·rw [if_pos hd,if_pos hd,if_pos (by rw [i1]; omega)]; rfl
   ·rw [if_neg hd,if_neg hd,List.getD_eq_getElem?_getD]
  refine ⟨by rw [e,List.length_set,i1],fun d=>?_,fun d n=>?_⟩
  ·rw [get]
   split
   ·omega
   ·exact i2 d
  ·rw [get]
   by_cases hd:x.Trip.toNat=d
   ·rw [if_pos hd,Int.toNat_natCast,Nat.testBit_or,Bool.or_eq_true,hd,i3,Nat.testBit_two_pow]
    constructor
    ·rintro (⟨y,hy,h⟩ | h)
     ·exact ⟨y,List.mem_append_left _ hy,h⟩
     ·have:=of_decide_eq_true h
      exact ⟨x,List.mem_append_right _ (List.mem_singleton.2 rfl),by omega,by omega⟩
    ·rintro ⟨y,hy,h⟩
     rcases List.mem_append.1 hy with hy | hy
     ·exact .inl ⟨y,hy,h⟩
     ·rw [List.mem_singleton.1 hy] at h
      exact .inr (decide_eq_true (by omega))
   ·rw [if_neg hd,i3]
    constructor
    ·rintro ⟨y,hy,h⟩; exact ⟨y,List.mem_append_left _ hy,h⟩
    ·rintro ⟨y,hy,h⟩
     rcases List.mem_append.1 hy with hy | hy
     ·exact ⟨y,hy,h⟩
     ·rw [List.mem_singleton.1 hy] at h; omega
theorem look_put_ne {κ ν:Type} [DecidableEq κ] (l:List (κ×ν)) {a c:κ} (x:ν) (h:c≠a):lookL (putL l a x) c=lookL l c:=by
 unfold putL
 cases hf:(l.map (·.1)).findIdx? (·==a) with
 | none=>
   simp only
   unfold lookL
   rw [List.find?_append]
   cases l.find? (·.1==c) with
   | some y=>rfl
   | none=>
     have e:(a==c)=false:=by simpa using fun e:a=c=>h e.symm
     simp [List.find?_cons,e]
 | some i=>
   simp only
   obtain ⟨hi,hp⟩:=List.findIdx?_eq_some_iff_getElem.1 hf
   have hi' :i < l.length:=by simpa using hi
   have hp' :l[i].1=a:=by simpa using hp.1
   clear hf hp
   unfold lookL
   congr 1
   induction l generalizing i with
   | nil=>rfl
   | cons y l ih=>
     cases i with
     | zero=>
       have hy:y.1=a:=hp'
       have n1:(y.1==c)=false:=by rw [hy]; simpa using fun e=>h e.symm
       have n2:(a==c)=false:=by simpa using fun e=>h e.symm
       rw [List.set_cons_zero,List.find?_cons,List.find?_cons]
       simp only [n1,n2]
     | succ i=>
       rw [List.set_cons_succ,List.find?_cons,List.find?_cons]
       cases (y.1==c) with
       | true=>rfl
       | false=>exact ih i (by simpa using hi) (by simpa using hi') (by simpa using hp')
def seatOf (x:TicketShow):Ticket_seat:=⟨x.Trip,x.Walker⟩
theorem by_ok {b:TicketBook} (t3:b.Tally.Trips≤3) (tn:b.Tickets.length≤3):∀ (sh:List TicketShow),(∀ x∈sh,Shw b.Tally.Trips b.Tickets.length x)→∀ s:Ticket_seat,∃ v:Nat,v < 8∧(lookL (byOf sh) s).getD 0=(v:Int)∧∀ n:Nat,v.testBit n=true↔∃ x∈sh,seatOf x=s∧x.Ticket=n:=by
 refine list_rev (fun _ s=>?_) (fun l x ih h s=>?_)
 ·refine ⟨0,by decide,?_,fun n=>by simp⟩
  unfold byOf
  by_cases hs:s=Ticket_seat.mk (-1) (-1)
  ·rw [hs]; rfl
  ·show (lookL (putL ([]:List (Ticket_seat×Int)) (Ticket_seat.mk (-1) (-1)) 0) s).getD 0=_
   rw [look_put_ne _ _ hs]; rfl
 ·have hx:=h x (List.mem_append_right _ (List.mem_singleton.2 rfl))
  have h2:=hx.n0; have h3:=hx.nm
  have e:byOf (l++[x])=byStep (byOf l) x:=by unfold byOf; rw [List.foldl_append]; rfl
  have ih:=ih fun y hy=>h y (List.mem_append_left _ hy)
  by_cases hs:s=seatOf x
  ·subst hs
   obtain ⟨v,v8,hv,hb⟩:=ih (seatOf x)
   have ho:=or_small (s:=v) (t:=x.Ticket.toNat) v8 (by omega)
   refine ⟨v ||| 2 ^ x.Ticket.toNat,ho.2,?_,fun n=>?_⟩
   ·rw [e]; unfold byStep
    show (lookL (putL (byOf l) (seatOf x) (orI ((lookL (byOf l) (seatOf x)).getD 0) _)) (seatOf x)).getD 0=_
    rw [look_put,hv,Option.getD_some,← ho.1,show ((x.Ticket.toNat:Nat):Int)=x.Ticket by omega]
   ·rw [Nat.testBit_or,Bool.or_eq_true,hb,Nat.testBit_two_pow]
    constructor
    ·rintro (⟨y,hy,h⟩ | h)
     ·exact ⟨y,List.mem_append_left _ hy,h⟩
     ·have:=of_decide_eq_true h
      exact ⟨x,List.mem_append_right _ (List.mem_singleton.2 rfl),rfl,by omega⟩
    ·rintro ⟨y,hy,h⟩
     rcases List.mem_append.1 hy with hy | hy
     ·exact .inl ⟨y,hy,h⟩
     ·rw [List.mem_singleton.1 hy] at h
      exact .inr (decide_eq_true (by omega))
  ·obtain ⟨v,v8,hv,hb⟩:=ih s
   refine ⟨v,v8,?_,fun n=>?_⟩
   ·rw [e]; unfold byStep
    show (lookL (putL (byOf l) (seatOf x) _) s).getD 0=_
    rw [look_put_ne _ _ hs,hv]
   ·rw [hb]
    constructor
    ·rintro ⟨y,hy,h⟩; exact ⟨y,List.mem_append_left _ hy,h⟩
    ·rintro ⟨y,hy,h⟩
     rcases List.mem_append.1 hy with hy | hy
     ·exact ⟨y,hy,h⟩
     ·rw [List.mem_singleton.1 hy] at h; exact absurd h.1.symm hs
def Cl (sh:List TicketShow):Prop:=∀ x∈sh,∀ y∈sh,x.Trip=y.Trip→(x.Ticket=y.Ticket↔x.Walker=y.Walker)
def clashN (x y:TicketShow):Bool:=(x.Trip==y.Trip)&&((x.Ticket==y.Ticket) != (x.Walker==y.Walker))
theorem clash_eq (x y:TicketShow):ticket_clash x y=some (clashN x y):=by
 unfold ticket_clash clashN
 cases (x.Trip==y.Trip) <;> rfl
theorem clashN_iff {x y:TicketShow}:clashN x y=true↔x.Trip=y.Trip∧¬(x.Ticket=y.Ticket↔x.Walker=y.Walker):=by
 unfold clashN
 rw [Bool.and_eq_true,beq_iff_eq,bne_iff_ne]
 refine and_congr_right fun _=>?_
 rw [Ne,Bool.eq_iff_iff,beq_iff_eq,beq_iff_eq]
theorem clashN_comm (x y:TicketShow):clashN x y=clashN y x:=by
 rw [Bool.eq_iff_iff,clashN_iff,clashN_iff,eq_comm (a:=x.Trip),eq_comm (a:=x.Ticket),eq_comm (a:=x.Walker)]
theorem cl_iff {sh:List TicketShow}:Cl sh↔∀ x∈sh,∀ y∈sh,clashN x y=false:=by
 unfold Cl
 refine forall_congr' fun x=>forall_congr' fun _=>forall_congr' fun y=>forall_congr' fun _=>?_
 rw [← Bool.not_eq_true,clashN_iff]
 constructor
 ·intro h ⟨h1,h2⟩; exact h2 (h h1)
 ·intro h h1; exact Classical.byContradiction fun h2=>h ⟨h1,h2⟩
theorem clear_eq {b:TicketBook} (V:VT b) {sh:List TicketShow}{bx:List TicketBox} (P:Pc b sh bx):∃ cl,ticket_book_clear (qOf b sh bx)=some cl∧(cl=true↔Cl sh):=by
 have t3:=V.t3; have tn:=V.tn; have sn:=P.sn
 have B:=by_ok t3 tn sh P.sh
 unfold ticket_book_clear
 have L:=loop_all (body:=ticket_book_clear_l1 (qOf b sh bx)) sh.length (fun k=>(sh[k]?).all fun x=>((lookL (byOf sh) (seatOf x)).getD 0==shlI 1 x.Ticket)&&!(sh.take k).any (fun y=>clashN x y)) (Rf:=some false) (Rt:=some true) (fun rec k hk=>?_) (fun rec=>?_) (by rw [big_eq]; omega)
 rotate_left
 ·unfold ticket_book_clear_l1
  have hx:=P.sh _ (List.getElem_mem hk)
  have w0:=hx.w0; have n0:=hx.n0
  show (bif decide ((k:Int) < (sh.length:Int)) then _ else _)=_
  rw [decide_eq_true (by omega),cond_true]
  show (getI sh (k:Int)).bind _=_
  rw [getI_ix hk,Option.bind_some,List.getElem?_eq_getElem hk,Option.all_some]
  generalize sh[k]=x at hx w0 n0
  rw [show (x.Walker==(-1))=false by rw [beq_eq_false_iff_ne]; omega,Bool.and_false,cond_false,need_of (by simpa using n0)]
  show (bif (lookL (byOf sh) (seatOf x)).getD 0 != shlI 1 x.Ticket then some false else _)=_
  rw [bne]
  cases ((lookL (byOf sh) (seatOf x)).getD 0==shlI 1 x.Ticket) with
  | false=>rfl
  | true=>
    rw [Bool.not_true,cond_false,Bool.true_and]
    show (cutI sh 0 (k:Int)).bind _=_
    rw [cutI_eq (by omega) (by omega) (by omega),Option.bind_some,has_show _ _ (fun y=>clashN x y) (fun y _=>by
     unfold ticket_book_clear_1
     rw [clash_eq]; rfl) (by rw [List.length_drop,List.length_take]; omega),Option.bind_some,show ((0:Int)).toNat=0 from rfl,List.drop_zero,show ((k:Int)).toNat=k from rfl,wrI (by omega) (by omega),show (k:Int)+1=((k+1:Nat):Int) by omega]
    cases (sh.take k).any (fun y=>clashN x y) <;> rfl
 ·unfold ticket_book_clear_l1
  show (bif decide ((sh.length:Int) < (sh.length:Int)) then _ else _)=_
  rw [decide_eq_false (by omega),cond_false]
 rw [L]
 refine ⟨(List.range sh.length).all (fun k=>(sh[k]?).all fun x=>((lookL (byOf sh) (seatOf x)).getD 0==shlI 1 x.Ticket)&&!(sh.take k).any (fun y=>clashN x y)),?_,?_⟩
 ·generalize ((List.range sh.length).all fun k=>_)=A
  cases A <;> rfl
 ·rw [List.all_eq_true]
  constructor
  ·intro h
   rw [cl_iff]
   have key:∀ (i k:Nat),i < k→∀ x y,sh[i]? =some x→sh[k]? =some y→clashN y x=false:=by
    intro i k hik x y hx hy
    have hk:=(List.getElem?_eq_some_iff.1 hy).1
    have:=h k (List.mem_range.2 hk)
    rw [hy,Option.all_some,Bool.and_eq_true,Bool.not_eq_true',List.any_eq_false] at this
    have:=this.2 x (List.mem_of_getElem? (i:=i) (by rw [List.getElem?_take_of_lt hik]; exact hx))
    simpa using this
   intro x hx y hy
   obtain ⟨i,hi,rfl⟩:=List.getElem_of_mem hx
   obtain ⟨k,hk,rfl⟩:=List.getElem_of_mem hy
   rcases Nat.lt_trichotomy i k with hik | hik | hik
   ·rw [clashN_comm]; exact key i k hik _ _ (List.getElem?_eq_getElem hi) (List.getElem?_eq_getElem hk)
   ·subst hik
    rw [← Bool.not_eq_true,clashN_iff]
    rintro ⟨_,h⟩
    exact h ⟨fun _=>rfl,fun _=>rfl⟩
   ·exact key k i hik _ _ (List.getElem?_eq_getElem hk) (List.getElem?_eq_getElem hi)
  ·intro h k hk
   have hk:=List.mem_range.1 hk
   rw [List.getElem?_eq_getElem hk,Option.all_some,Bool.and_eq_true,Bool.not_eq_true',List.any_eq_false,beq_iff_eq]
   have hx:=P.sh _ (List.getElem_mem hk)
   have n0:=hx.n0; have nm:=hx.nm
   refine ⟨?_,fun y hy=>?_⟩
   ·obtain ⟨v,v8,hv,hb⟩:=B (seatOf sh[k])
    rw [hv,show sh[k].Ticket=((sh[k].Ticket.toNat:Nat):Int) by omega,shl1_nat _ (by omega)]
    congr 1
    refine Nat.eq_of_testBit_eq fun n=>?_
    rw [Bool.eq_iff_iff,hb,Nat.testBit_two_pow,decide_eq_true_eq]
    constructor
    ·rintro ⟨y,hy,hs,ht⟩
     have e1:y.Trip=sh[k].Trip:=congrArg Ticket_seat.trip_ hs
     have e2:y.Walker=sh[k].Walker:=congrArg Ticket_seat.walker_ hs
     have:=(h y hy _ (List.getElem_mem hk) e1).2 e2
     omega
    ·intro hn
     exact ⟨_,List.getElem_mem hk,rfl,by omega⟩
   ·have:=cl_iff.1 h _ (List.getElem_mem hk) y (List.mem_of_mem_take hy)
    simp [this]
theorem qOf_op {b:TicketBook} (V:VT b) {sh:List TicketShow}{bx:List TicketBox} (P:Pc b sh bx):OpT (qOf b sh bx):=by
 have S:=shown_ok V.t3 V.tn sh P.sh
 exact ⟨V.ta,V.t3,V.r5,V.f1,V.f20,V.tn,V.te,P.sn,P.bn,P.bx,S.1,S.2.1⟩
end Go.Proofs.YtafhljljfglfeaaDoor
namespace Go.Proofs.YtafhljljfglfeaaDoor
open Go Go.Fx
theorem ext3 {l m:List Int} (hl:l.length=3) (hm:m.length=3) (h:∀ i,i < 3→l.getD i 0=m.getD i 0):l=m:=by
 refine List.ext_getElem? fun i=>?_
 by_cases hi:i < 3
 ·have:=h i hi
  rw [List.getD_eq_getElem?_getD,List.getD_eq_getElem?_getD,List.getElem?_eq_getElem (by omega),List.getElem?_eq_getElem (by omega)] at this
  rw [List.getElem?_eq_getElem (by omega),List.getElem?_eq_getElem (by omega)]
  exact congrArg some this
 ·rw [List.getElem?_eq_none (by omega),List.getElem?_eq_none (by omega)]
theorem getD_set {l:List Int}{d i:Nat}{x:Int} (hd:d < l.length):(l.set d x).getD i 0=if d=i then x else l.getD i 0:=by
 rw [List.getD_eq_getElem?_getD,List.getElem?_set]
 by_cases h:d=i
 ·rw [if_pos h,if_pos h,if_pos hd]; rfl
 ·rw [if_neg h,if_neg h,List.getD_eq_getElem?_getD]
theorem paidN_congr {c u u' :List Int}{f n:Nat} (h:∀ i,f≤i→i < f+n→u.getD i 0=u'.getD i 0):paidN c u f n=paidN c u' f n:=by
 unfold paidN
 congr 1
 refine List.map_congr_left fun i hi=>?_
 have:=List.mem_range'_1.1 hi
 unfold pv
 rw [h i this.1 this.2]
theorem rightN_congr {q:Ticket_book} (Q:OpT q) {c u u' :List Int}{d:Nat} (h:∀ i,i≤d→u.getD i 0=u'.getD i 0):rightN q c u d=rightN q c u' d:=by
 unfold rightN
 rw [Bool.eq_iff_iff,List.all_eq_true,List.all_eq_true]
 refine forall_congr' fun x=>forall_congr' fun hx=>?_
 have B:=Q.bx x hx
 have f0:=B.f0; have ft:=B.ft
 by_cases hd:x.To=d
 ·unfold fitsN
  rw [paidN_congr (u:=u) (u' :=u') fun i h1 h2=>h i (by omega)]
 ·rw [show (x.To==(d:Int))=false by rw [beq_eq_false_iff_ne]; exact hd]
  simp
theorem okN_congr {q:Ticket_book} (Q:OpT q) {c u u' :List Int}{s d:Nat} (h:∀ i,i≤d→u.getD i 0=u'.getD i 0):okN q c u s d=okN q c u' s d:=by
 unfold okN
 rw [rightN_congr Q h]
theorem mem_uses {q:Ticket_book} (Q:OpT q) {t:Ticket_truth}:∀ (r:Nat) (c u:List Int) (d:Nat),u.length=3→d+r≤3→(t∈usesL q r c u d↔t.crossed_=c∧t.used_.length=3∧(∀ i,(i < d∨d+r≤i)→t.used_.getD i 0=u.getD i 0)∧∀ i,d≤i→i < d+r→∃ s:Nat,s < 8∧t.used_.getD i 0=(s:Int)∧okN q c t.used_ s i=true):=by
 intro r
 induction r with
 | zero=>
   intro c u d hu hd
   unfold usesL
   rw [List.mem_singleton]
   constructor
   ·rintro rfl
    exact ⟨rfl,hu,fun _ _=>rfl,fun i h1 h2=>by omega⟩
   ·rintro ⟨h1,h2,h3,_⟩
    obtain ⟨tc,tu⟩:=t
    simp only at h1 h2 h3
    rw [h1,ext3 h2 hu fun i _=>h3 i (by omega)]
 | succ r ih=>
   intro c u d hu hd
   unfold usesL
   rw [List.mem_flatMap]
   constructor
   ·rintro ⟨s,hs,ht⟩
    have hs:=(List.mem_range'_1.1 hs).2
    cases ho:okN q c (u.set d (s:Int)) s d with
    | false=>rw [ho] at ht; cases ht
    | true=>
      rw [ho,cond_true,ih c _ (d+1) (by rw [List.length_set]; exact hu) (by omega)] at ht
      obtain ⟨h1,h2,h3,h4⟩:=ht
      refine ⟨h1,h2,fun i hi=>?_,fun i h5 h6=>?_⟩
      ·rw [h3 i (by omega),getD_set (by omega),if_neg (by omega)]
      ·by_cases hid:i=d
       ·subst hid
        refine ⟨s,by omega,?_,?_⟩
        ·rw [h3 i (by omega),getD_set (by omega),if_pos rfl]
        ·rw [okN_congr Q (u' :=u.set i (s:Int)) fun j hj=>h3 j (by omega)]; exact ho
       ·exact h4 i (by omega) (by omega)
   ·rintro ⟨h1,h2,h3,h4⟩
    obtain ⟨s,hs,hv,ho⟩:=h4 d (Nat.le_refl _) (by omega)
    have hg:∀ j,j≤d→t.used_.getD j 0=(u.set d (s:Int)).getD j 0:=fun j hj=>by
     rw [getD_set (by omega)]
     split
     ·next h=>rw [← h]; exact hv
     ·exact h3 j (by omega)
    refine ⟨s,List.mem_range'_1.2 (by omega),?_⟩
    rw [← okN_congr Q hg,ho,cond_true,ih c _ (d+1) (by rw [List.length_set]; exact hu) (by omega)]
    refine ⟨h1,h2,fun i hi=>?_,fun i h5 h6=>h4 i (by omega) (by omega)⟩
    by_cases hid:i≤d
    ·exact hg i hid
    ·rw [getD_set (by omega),if_neg (by omega)]; exact h3 i (by omega)
theorem mem_cross {q:Ticket_book}{t:Ticket_truth}:∀ (r:Nat) (c:List Int) (d:Nat),c.length=3→d+r≤3→0≤q.TicketBook.Tally.Room→(t∈crossL q r c d↔∃ c' :List Int,c'.length=3∧(∀ i,(i < d∨d+r≤i)→c'.getD i 0=c.getD i 0)∧(∀ i,d≤i→i < d+r→0≤c'.getD i 0∧c'.getD i 0≤q.TicketBook.Tally.Room)∧canB q.TicketBook.Tally c' =true∧t∈usesL q q.TicketBook.Tally.Trips.toNat c' zer 0):=by
 intro r
 induction r with
 | zero=>
   intro c d hc hd hr
   unfold crossL
   constructor
   ·intro h
    cases hb:canB q.TicketBook.Tally c with
    | false=>rw [hb] at h; cases h
    | true=>rw [hb] at h; exact ⟨c,hc,fun _ _=>rfl,fun i h1 h2=>by omega,hb,h⟩
   ·rintro ⟨c',h1,h2,_,h3,h4⟩
    rw [ext3 h1 hc fun i _=>h2 i (by omega)] at h3 h4
    rw [h3]; exact h4
 | succ r ih=>
   intro c d hc hd hr
   unfold crossL
   rw [List.mem_flatMap]
   constructor
   ·rintro ⟨n,hn,ht⟩
    have hn:=(List.mem_range'_1.1 hn).2
    rw [ih _ (d+1) (by rw [List.length_set]; exact hc) (by omega) hr] at ht
    obtain ⟨c',h1,h2,h3,h4,h5⟩:=ht
    refine ⟨c',h1,fun i hi=>?_,fun i h6 h7=>?_,h4,h5⟩
    ·rw [h2 i (by omega),getD_set (by omega),if_neg (by omega)]
    ·by_cases hid:i=d
     ·subst hid
      rw [h2 i (by omega),getD_set (by omega),if_pos rfl]; omega
     ·exact h3 i (by omega) (by omega)
   ·rintro ⟨c',h1,h2,h3,h4,h5⟩
    have hb:=h3 d (Nat.le_refl _) (by omega)
    refine ⟨(c'.getD d 0).toNat,List.mem_range'_1.2 (by omega),?_⟩
    rw [ih _ (d+1) (by rw [List.length_set]; exact hc) (by omega) hr]
    refine ⟨c',h1,fun i hi=>?_,fun i h6 h7=>h3 i (by omega) (by omega),h4,h5⟩
    rw [getD_set (by omega)]
    split
    ·next h=>rw [← h]; omega
    ·exact h2 i (by omega)
def Use (b:TicketBook) (s d:Nat):Prop:=∀ n:Nat,s.testBit n=true→∃ x,b.Tickets[n]? =some x∧x.From≤d∧(d:Int)≤x.To
structure Tr (b:TicketBook) (sh:List TicketShow) (bx:List TicketBox) (t:Ticket_truth):Prop where
 cl:Cl sh
 c3:t.crossed_.length=3
 u3:t.used_.length=3
 cr:∀ d:Nat,(d:Int) < b.Tally.Trips→0≤t.crossed_.getD d 0∧t.crossed_.getD d 0≤b.Tally.Room
 cz:∀ d:Nat,b.Tally.Trips≤d→t.crossed_.getD d 0=0
 uz:∀ d:Nat,b.Tally.Trips≤d→t.used_.getD d 0=0
 ub:∀ d:Nat,0≤t.used_.getD d 0∧t.used_.getD d 0 < 8
 us:∀ d:Nat,(d:Int) < b.Tally.Trips→Use b (t.used_.getD d 0).toNat d
 pc:∀ d:Nat,(d:Int) < b.Tally.Trips→popN (t.used_.getD d 0).toNat≤t.crossed_.getD d 0
 sw:∀ x∈sh,(t.used_.getD x.Trip.toNat 0).toNat.testBit x.Ticket.toNat=true
 can:Fit b.Tally no (pre (t.crossed_.take b.Tally.Trips.toNat))
 bx:∀ x∈bx,fitsN b.Fare t.crossed_ t.used_ x=true
theorem valid_iff {b:TicketBook} (V:VT b) {sh:List TicketShow}{bx:List TicketBox}{s d:Nat} (hs:s < 8):validN (qOf b sh bx) s d=true↔Use b s d:=by
 have tn:=V.tn
 unfold validN Use
 show ((List.range b.Tickets.length).all (fun k=>(b.Tickets[k]?).all fun x=>!s.testBit k||inB d x.From x.To)&&s / 2 ^ b.Tickets.length==0)=true↔_
 rw [Bool.and_eq_true,List.all_eq_true,beq_iff_eq]
 constructor
 ·rintro ⟨h1,h2⟩ n hn
  have hlt:n < b.Tickets.length:=by
   refine Nat.lt_of_not_le fun hle=>?_
   have hp:0 < 2 ^ b.Tickets.length:=Nat.two_pow_pos _
   have h3:s < 2 ^ b.Tickets.length:=by
    rcases Nat.div_eq_zero_iff.1 h2 with h | h
    ·omega
    ·exact h
   have:s < 2 ^ n:=Nat.lt_of_lt_of_le h3 (Nat.pow_le_pow_right (by omega) hle)
   rw [Nat.testBit_lt_two_pow this] at hn
   cases hn
  have:=h1 n (List.mem_range.2 hlt)
  rw [List.getElem?_eq_getElem hlt,Option.all_some,hn,Bool.not_true,Bool.false_or,inB_iff] at this
  exact ⟨_,List.getElem?_eq_getElem hlt,this⟩
 ·intro h
  refine ⟨fun k hk=>?_,?_⟩
  ·have hk:=List.mem_range.1 hk
   rw [List.getElem?_eq_getElem hk,Option.all_some]
   cases hb:s.testBit k with
   | false=>rfl
   | true=>
     obtain ⟨x,hx,h1⟩:=h k hb
     rw [List.getElem?_eq_getElem hk] at hx
     cases hx
     rw [Bool.not_true,Bool.false_or,inB_iff]
     exact h1
  ·refine Nat.div_eq_of_lt (Nat.lt_pow_two_of_testBit s fun n hn=>?_)
   refine Bool.eq_false_iff.2 fun hb=>?_
   obtain ⟨x,hx,_⟩:=h n hb
   have:=(List.getElem?_eq_some_iff.1 hx).1
   omega
theorem Tr.small {b:TicketBook} (V:VT b) {sh:List TicketShow}{bx:List TicketBox}{t:Ticket_truth} (h:Tr b sh bx t):Small t.crossed_ t.used_:=by
 refine ⟨h.c3,h.u3,fun d=>?_,h.ub⟩
 by_cases hd:(d:Int) < b.Tally.Trips
 ·have:=h.cr d hd; have:=V.r5; omega
 ·rw [h.cz d (by omega)]; omega
theorem mem_truths {b:TicketBook} (V:VT b) {sh:List TicketShow}{bx:List TicketBox} (P:Pc b sh bx) {cl:Bool} (hc:cl=true↔Cl sh) {t:Ticket_truth}:t∈truths (qOf b sh bx) cl↔Tr b sh bx t:=by
 have Q:=qOf_op V P
 have t1:=V.ta.t1; have t3:=V.t3
 have S:=shown_ok V.t3 V.tn sh P.sh
 have hz:∀ i,zer.getD i 0=0:=fun d=>by
  unfold zer; rw [List.getD_eq_getElem?_getD,List.getElem?_replicate]; split <;> rfl
 unfold truths
 constructor
 ·intro h
  cases cl with
  | false=>cases h
  | true=>
    rw [cond_true,mem_cross _ _ _ rfl (by show 0+b.Tally.Trips.toNat≤3; omega) V.ta.r0] at h
    obtain ⟨c,h1,h2,h3,h4,h5⟩:=h
    rw [mem_uses Q _ _ _ _ rfl (by show 0+b.Tally.Trips.toNat≤3; omega)] at h5
    obtain ⟨h6,h7,h8,h9⟩:=h5
    subst h6
    have h2:∀ i,b.Tally.Trips.toNat≤i→t.crossed_.getD i 0=0:=fun i hi=>(h2 i (by right; show 0+b.Tally.Trips.toNat≤i; omega)).trans (hz i)
    have h8:∀ i,b.Tally.Trips.toNat≤i→t.used_.getD i 0=0:=fun i hi=>(h8 i (by right; show 0+b.Tally.Trips.toNat≤i; omega)).trans (hz i)
    have h3:∀ i,i < b.Tally.Trips.toNat→0≤t.crossed_.getD i 0∧t.crossed_.getD i 0≤b.Tally.Room:=fun i hi=>h3 i (Nat.zero_le _) (by show i < 0+b.Tally.Trips.toNat; omega)
    have h9:∀ i,i < b.Tally.Trips.toNat→∃ s:Nat,s < 8∧t.used_.getD i 0=(s:Int)∧okN (qOf b sh bx) t.crossed_ t.used_ s i=true:=fun i hi=>h9 i (Nat.zero_le _) (by show i < 0+b.Tally.Trips.toNat; omega)
    have h9' :∀ i,i < b.Tally.Trips.toNat→(0≤t.used_.getD i 0∧t.used_.getD i 0 < 8)∧Use b (t.used_.getD i 0).toNat i∧(∀ n:Nat,((shownOf sh).getD i 0).toNat.testBit n=true→(t.used_.getD i 0).toNat.testBit n=true)∧popN (t.used_.getD i 0).toNat≤t.crossed_.getD i 0∧rightN (qOf b sh bx) t.crossed_ t.used_ i=true:=fun i hi=>by
     obtain ⟨s,hs,hv,ho⟩:=h9 i hi
     unfold okN at ho
     simp only [Bool.and_eq_true,beq_iff_eq,decide_eq_true_eq] at ho
     rw [hv,Int.toNat_natCast]
     exact ⟨by omega,(valid_iff V hs).1 ho.1.1.1,and_sub.1 ho.1.1.2,ho.1.2,ho.2⟩
    refine ⟨hc.1 rfl,h1,h7,fun d hd=>h3 d (by omega),fun d hd=>h2 d (by omega),fun d hd=>h8 d (by omega),fun d=>?_,fun d hd=>(h9' d (by omega)).2.1,fun d hd=>(h9' d (by omega)).2.2.2.1,fun x hx=>?_,((canB_eq V.ta (tru_of V.ta t3 h1 h3)).2).1 h4,fun x hx=>?_⟩
    ·by_cases hd:d < b.Tally.Trips.toNat
     ·exact (h9' d hd).1
     ·rw [h8 d (by omega)]; omega
    ·have B:=P.sh x hx
     have:=B.t0; have:=B.tT; have:=B.n0
     exact (h9' x.Trip.toNat (by omega)).2.2.1 _ ((S.2.2 _ _).2 ⟨x,hx,by omega,by omega⟩)
    ·have B:=P.bx x hx
     have:=B.f0; have:=B.ft; have:=B.tT
     have:=List.all_eq_true.1 (h9' x.To.toNat (by omega)).2.2.2.2 x hx
     rw [show (x.To==((x.To.toNat:Nat):Int))=true by rw [beq_iff_eq]; omega,Bool.not_true,Bool.false_or] at this
     exact this
 ·intro h
  rw [hc.2 h.cl,cond_true,mem_cross _ _ _ rfl (by show 0+b.Tally.Trips.toNat≤3; omega) V.ta.r0]
  have hcr:∀ i,i < b.Tally.Trips.toNat→0≤t.crossed_.getD i 0∧t.crossed_.getD i 0≤b.Tally.Room:=fun i hi=>h.cr i (by omega)
  refine ⟨t.crossed_,h.c3,fun i hi=>?_,fun i _ hi=>hcr i (by have:i < 0+b.Tally.Trips.toNat:=hi; omega),(canB_eq V.ta (tru_of V.ta t3 h.c3 hcr)).2.2 h.can,?_⟩
  ·have hi:i < 0∨0+b.Tally.Trips.toNat≤i:=hi
   rw [hz]; exact h.cz i (by omega)
  rw [mem_uses Q _ _ _ _ rfl (by show 0+b.Tally.Trips.toNat≤3; omega)]
  refine ⟨rfl,h.u3,fun i hi=>?_,fun i _ hi=>?_⟩
  ·have hi:i < 0∨0+b.Tally.Trips.toNat≤i:=hi
   rw [hz]; exact h.uz i (by omega)
  ·have hi:i < 0+b.Tally.Trips.toNat:=hi
   have hu:=h.ub i
   refine ⟨(t.used_.getD i 0).toNat,by omega,by omega,?_⟩
   unfold okN
   simp only [Bool.and_eq_true,beq_iff_eq,decide_eq_true_eq]
   refine ⟨⟨⟨(valid_iff V (by omega)).2 (h.us i (by omega)),and_sub.2 fun n hn=>?_⟩,h.pc i (by omega)⟩,?_⟩
   ·obtain ⟨x,hx,e1,e2⟩:=(S.2.2 i n).1 hn
    have:=h.sw x hx
    rw [show x.Trip.toNat=i by omega,show x.Ticket.toNat=n by omega] at this
    exact this
   ·refine List.all_eq_true.2 fun x hx=>?_
    have:=h.bx x hx
    rw [show fitsN (qOf b sh bx).TicketBook.Fare t.crossed_ t.used_ x=true from this,Bool.or_true]
end Go.Proofs.YtafhljljfglfeaaDoor
namespace Go.Proofs.YtafhljljfglfeaaDoor
open Go Go.Fx
def CanT (b:TicketBook) (sh:List TicketShow) (bx:List TicketBox):Prop:=∃ t,Tr b sh bx t
theorem isTrueT_eq {b:TicketBook} (V:VT b) {sh:List TicketShow}{bx:List TicketBox} (P:Pc b sh bx):∃ r,ticket_book_isTrue (qOf b sh bx)=some r∧(r=true↔CanT b sh bx):=by
 obtain ⟨cl,hc,hi⟩:=clear_eq V P
 unfold ticket_book_isTrue ticket_book_truths
 rw [Option.bind_some,truths_eq _ (qOf_op V P) hc,foldY_find ticket_book_isTrue_r1 (fun _=>true) false true (truths (qOf b sh bx) cl) (fun _ _=>rfl)]
 have hm:=fun t=>mem_truths V P hi (t:=t)
 unfold CanT
 cases hL:truths (qOf b sh bx) cl with
 | nil=>
   refine ⟨false,rfl,?_⟩
   simp only [Bool.false_eq_true,false_iff]
   rintro ⟨t,ht⟩
   have:=(hm t).2 ht
   rw [hL] at this; cases this
 | cons x l=>
   refine ⟨true,rfl,?_⟩
   simp only [true_iff]
   exact ⟨x,(hm x).1 (by rw [hL]; exact List.mem_cons_self ..)⟩
theorem outS_no (b:TicketBook):outS b (fun _=>false)=b.Shows:=kept_all _
theorem outX_no (b:TicketBook):outX b (fun _=>false)=b.Boxes:=kept_all _
theorem nobodyT {b:TicketBook} (V:VT b):ticket_opened b (Ticket_choice.mk (fun y28=>ticket_nothing_1 y28))=some (qOf b b.Shows b.Boxes):=by
 have:=openedT_eq V (Ticket_choice.mk (fun y28=>ticket_nothing_1 y28)) (fun _=>false) (fun k _=>rfl)
 rw [outS_no,outX_no] at this
 exact this
def Can (b:TicketBook):Prop:=CanT b b.Shows b.Boxes
theorem right_law {b:TicketBook} (V:VT b):∃ r,ticket_Right b=some (r,0)∧(r=true↔Can b):=by
 obtain ⟨r,hr,hi⟩:=isTrueT_eq V V.pc
 refine ⟨r,?_,hi⟩
 unfold ticket_Right
 rw [checkT_ok V,Option.bind_some]
 simp only [bne_self_eq_false,cond_false]
 unfold ticket_nothing
 rw [Option.bind_some,nobodyT V,Option.bind_some]
 show (ticket_book_isTrue (qOf b b.Shows b.Boxes)).bind _=_
 rw [hr]; rfl
theorem askedT {b:TicketBook} (V:VT b):∃ e,ticket_asked b true=some (qOf b b.Shows b.Boxes,e)∧((e=0∧Can b)∨(e=102∧¬Can b)):=by
 obtain ⟨r,hr,hi⟩:=isTrueT_eq V V.pc
 refine ⟨if r=true then 0 else 102,?_,?_⟩
 ·unfold ticket_asked
  rw [checkT_ok V,Option.bind_some]
  simp only [bne_self_eq_false,cond_false,Bool.not_true]
  unfold ticket_nothing
  rw [Option.bind_some,nobodyT V,Option.bind_some]
  show (ticket_book_isTrue (qOf b b.Shows b.Boxes)).bind _=_
  rw [hr,Option.bind_some]
  cases r <;> rfl
 ·cases r
  ·right; exact ⟨rfl,fun h=>by simpa using hi.2 h⟩
  ·left; exact ⟨rfl,hi.1 rfl⟩
theorem len_flat {α β:Type}{l:List α}{f:α→List β}{k:Nat} (h:∀ x∈l,(f x).length≤k):(l.flatMap f).length≤l.length*k:=by
 induction l with
 | nil=>simp
 | cons x l ih=>
   rw [List.flatMap_cons,List.length_append,List.length_cons,Nat.add_mul,Nat.one_mul]
   have h1:=h x (List.mem_cons_self ..)
   have h2:=ih fun y hy=>h y (List.mem_cons_of_mem _ hy)
   omega
theorem uses_len (q:Ticket_book):∀ (r:Nat) (c u:List Int) (d:Nat),(usesL q r c u d).length≤8 ^ r
 | 0,_,_,_=>Nat.le_refl _
 | r+1,c,u,d=>by
   unfold usesL
   refine Nat.le_trans (len_flat (k:=8 ^ r) fun s _=>?_) ?_
   ·cases okN q c (u.set d (s:Int)) s d with
    | false=>exact Nat.zero_le _
    | true=>exact uses_len q r _ _ _
   ·rw [List.length_range',Nat.pow_succ,Nat.mul_comm]; exact Nat.le_refl _
theorem cross_len (q:Ticket_book) (t3:q.TicketBook.Tally.Trips≤3) (r5:q.TicketBook.Tally.Room≤5):∀ (r:Nat) (c:List Int) (d:Nat),(crossL q r c d).length≤6 ^ r*512
 | 0,c,d=>by
   unfold crossL
   cases canB q.TicketBook.Tally c with
   | false=>exact Nat.zero_le _
   | true=>
     refine Nat.le_trans (uses_len q _ _ _ _) ?_
     have:(8:Nat) ^ q.TicketBook.Tally.Trips.toNat≤8 ^ 3:=Nat.pow_le_pow_right (by omega) (by omega)
     omega
 | r+1,c,d=>by
   unfold crossL
   refine Nat.le_trans (len_flat (k:=6 ^ r*512) fun s _=>cross_len q t3 r5 r _ _) ?_
   rw [List.length_range',Nat.pow_succ,Nat.mul_comm (6 ^ r) 6,Nat.mul_assoc]
   exact Nat.mul_le_mul_right _ (by omega)
theorem truths_len (q:Ticket_book) (t3:q.TicketBook.Tally.Trips≤3) (r5:q.TicketBook.Tally.Room≤5) (cl:Bool):(truths q cl).length≤110592:=by
 unfold truths
 cases cl with
 | false=>exact Nat.zero_le _
 | true=>
   refine Nat.le_trans (cross_len q t3 r5 _ _ _) ?_
   have:(6:Nat) ^ q.TicketBook.Tally.Trips.toNat≤6 ^ 3:=Nat.pow_le_pow_right (by omega) (by omega)
   omega
theorem foldY_span {a:Ticket_truth→Option Int} (g:Ticket_truth→Int):∀ (L:List Ticket_truth) (z:List Int),(∀ x∈L,a x=some (g x))→z.length+L.length≤200000→∃ z',foldY (yvOf (ticket_book_span_r2 a)) L (0,z)=some (true,0,z')∧z'.length≤200000∧∀ v,v∈z' ↔v∈z∨∃ x∈L,g x=v
 | [],z,_,h=>⟨z,rfl,by simpa using h,fun v=>by simp⟩
 | x::L,z,h,hl=>by
   rw [List.length_cons] at hl
   have step:∃ z1:List Int,ticket_book_span_r2 a x z=some (true,0,z1)∧z1.length≤z.length+1∧∀ v,v∈z1↔v∈z∨g x=v:=by
    unfold ticket_book_span_r2
    rw [h x (List.mem_cons_self ..),Option.bind_some,has_int _ _ (by omega),Option.bind_some]
    by_cases hm:g x∈z
    ·rw [decide_eq_true hm]
     exact ⟨z,rfl,by omega,fun v=>⟨.inl,fun h=>h.elim id fun h=>h▸hm⟩⟩
    ·rw [decide_eq_false hm,Bool.not_false,cond_true,need_of (fits_of (by simp; omega) (by omega))]
     exact ⟨_,rfl,by simp,fun v=>by simp [eq_comm]⟩
   obtain ⟨z1,e1,e2,e3⟩:=step
   obtain ⟨z',e4,e6,e5⟩:=foldY_span g L z1 (fun y hy=>h y (List.mem_cons_of_mem _ hy)) (by omega)
   refine ⟨z',?_,e6,fun v=>?_⟩
   ·show (ticket_book_span_r2 a x z).bind (fun r=>bif r.1 then foldY (yvOf (ticket_book_span_r2 a)) L r.2 else some (false,r.2))=_
    rw [e1]; exact e4
   ·rw [e5,e3,or_assoc]; simp
theorem min_eq {l:List Int} (hn:l≠[]) (hl:l.length≤1000000):∃ m,sl_Min_int_int l=some m∧m∈l∧∀ x∈l,m≤x:=by
 have h0:0 < l.length:=List.length_pos_iff.2 hn
 unfold sl_Min_int_int
 rw [decide_eq_false (by omega),cond_false,show (0:Int)=((0:Nat):Int) from rfl,getI_ix h0,Option.bind_some]
 refine loopF_inv (body:=sl_Min_int_int_l1 l) (fun z:Int×Int=>∃ k:Nat,z.2=k∧1≤k∧k≤l.length∧z.1∈l∧∀ x∈l.take k,z.1≤x) (fun z=>l.length - z.2.toNat) (fun m=>m∈l∧∀ x∈l,m≤x) ?_ big (l[0],1) ⟨1,rfl,by omega,by omega,List.getElem_mem _,fun x hx=>?_⟩ (by unfold big; simp only; omega)
 ·rintro rec ⟨m,i⟩ ⟨k,h1,h2,h3,h4,h5⟩ ih
  simp only at h1 h4 h5 ih ⊢
  subst h1
  unfold sl_Min_int_int_l1
  simp only
  by_cases hlt:k < l.length
  ·rw [decide_eq_true (by omega),cond_true,getI_ix hlt,Option.bind_some,wrI (by omega) (by omega)]
   refine ih _ ⟨k+1,by simp,by omega,by omega,?_,fun x hx=>?_⟩ (by simp only; omega)
   ·simp only; split
    ·exact List.getElem_mem _
    ·exact h4
   ·rw [List.take_succ_eq_append_getElem hlt,List.mem_append,List.mem_singleton] at hx
    simp only
    rcases hx with hx | rfl
    ·have:=h5 x hx; split <;> omega
    ·split <;> omega
  ·rw [decide_eq_false (by omega),cond_false]
   rw [List.take_of_length_le (by omega)] at h5
   exact ⟨m,rfl,h4,h5⟩
 ·match l,h0 with
  | y::l,_=>simp at hx ⊢; omega
theorem max_eq {l:List Int} (hn:l≠[]) (hl:l.length≤1000000):∃ m,sl_Max_int_int l=some m∧m∈l∧∀ x∈l,x≤m:=by
 have h0:0 < l.length:=List.length_pos_iff.2 hn
 unfold sl_Max_int_int
 rw [decide_eq_false (by omega),cond_false,show (0:Int)=((0:Nat):Int) from rfl,getI_ix h0,Option.bind_some]
 refine loopF_inv (body:=sl_Max_int_int_l1 l) (fun z:Int×Int=>∃ k:Nat,z.2=k∧1≤k∧k≤l.length∧z.1∈l∧∀ x∈l.take k,x≤z.1) (fun z=>l.length - z.2.toNat) (fun m=>m∈l∧∀ x∈l,x≤m) ?_ big (l[0],1) ⟨1,rfl,by omega,by omega,List.getElem_mem _,fun x hx=>?_⟩ (by unfold big; simp only; omega)
 ·rintro rec ⟨m,i⟩ ⟨k,h1,h2,h3,h4,h5⟩ ih
  simp only at h1 h4 h5 ih ⊢
  subst h1
  unfold sl_Max_int_int_l1
  simp only
  by_cases hlt:k < l.length
  ·rw [decide_eq_true (by omega),cond_true,getI_ix hlt,Option.bind_some,wrI (by omega) (by omega)]
   refine ih _ ⟨k+1,by simp,by omega,by omega,?_,fun x hx=>?_⟩ (by simp only; omega)
   ·simp only; split
    ·exact List.getElem_mem _
    ·exact h4
   ·rw [List.take_succ_eq_append_getElem hlt,List.mem_append,List.mem_singleton] at hx
    simp only
    rcases hx with hx | rfl
    ·have:=h5 x hx; split <;> omega
    ·split <;> omega
  ·rw [decide_eq_false (by omega),cond_false]
   rw [List.take_of_length_le (by omega)] at h5
   exact ⟨m,rfl,h4,h5⟩
 ·match l,h0 with
  | y::l,_=>simp at hx ⊢; omega
structure SpT (b:TicketBook) (sh:List TicketShow) (bx:List TicketBox) (g:Ticket_truth→Int) (s:Span):Prop where
 loE:∃ t,Tr b sh bx t∧g t=s.Low
 hiE:∃ t,Tr b sh bx t∧g t=s.High
 all:∀ t,Tr b sh bx t→s.Low≤g t∧g t≤s.High
theorem span_law {b:TicketBook} (V:VT b) {sh:List TicketShow}{bx:List TicketBox} (P:Pc b sh bx) (C:CanT b sh bx) {a:Ticket_truth→Option Int}{g:Ticket_truth→Int} (h:∀ t,Tr b sh bx t→a t=some (g t)):∃ s,ticket_book_span (qOf b sh bx) a=some s∧SpT b sh bx g s:=by
 obtain ⟨cl,hc,hi⟩:=clear_eq V P
 have hm:=fun t=>mem_truths V P hi (t:=t)
 have hlen:=truths_len (qOf b sh bx) V.t3 V.r5 cl
 obtain ⟨z,e1,e3,e2⟩:=foldY_span (a:=a) g (truths (qOf b sh bx) cl) [] (fun x hx=>h x ((hm x).1 hx)) (by simp; omega)
 have mem:∀ v,v∈z↔∃ t,Tr b sh bx t∧g t=v:=fun v=>by
  rw [e2]
  constructor
  ·rintro (h | ⟨x,hx,h⟩)
   ·cases h
   ·exact ⟨x,(hm x).1 hx,h⟩
  ·rintro ⟨x,hx,h⟩
   exact .inr ⟨x,(hm x).2 hx,h⟩
 have hz:z≠[]:=by
  obtain ⟨t,ht⟩:=C
  exact List.ne_nil_of_mem ((mem _).2 ⟨t,ht,rfl⟩)
 obtain ⟨lo,a1,a2,a3⟩:=min_eq hz (by omega)
 obtain ⟨hi',b1,b2,b3⟩:=max_eq hz (by omega)
 refine ⟨⟨lo,hi'⟩,?_,(mem _).1 a2,(mem _).1 b2,fun t ht=>⟨a3 _ ((mem _).2 ⟨t,ht,rfl⟩),b3 _ ((mem _).2 ⟨t,ht,rfl⟩)⟩⟩
 unfold ticket_book_span ticket_book_truths
 rw [Option.bind_some,truths_eq _ (qOf_op V P) hc,e1]
 show (sl_Min_int_int z).bind (fun r102=>(sl_Max_int_int z).bind fun r104=>some (Span.mk r102 r104))=_
 rw [a1,Option.bind_some,b1,Option.bind_some]
theorem trip_iff {T n:Int}:inB n 0 (T - 1)=true↔0≤n∧n < T:=by rw [inB_iff]; omega
def paidT (f t:Int) (x:Ticket_truth):Int:=paidN x.crossed_ x.used_ f.toNat (t+1 - f).toNat
theorem paid_law {b:TicketBook} (V:VT b) {f t:Int} (h:0≤f∧f≤t∧t < b.Tally.Trips):∃ s e,ticket_Paid b f t=some (s,e)∧((e=0∧Can b∧SpT b b.Shows b.Boxes (paidT f t) s)∨(e=102∧s=⟨0,0⟩∧¬Can b)):=by
 have t3:=V.t3
 obtain ⟨e,he,hc⟩:=askedT V
 unfold ticket_Paid
 rw [isTrip_eq b V.ta.t1 V.ta.t8,Option.bind_some,trip_iff.2 (by omega),cond_true,isTrip_eq b V.ta.t1 V.ta.t8,Option.bind_some,trip_iff.2 (by omega),cond_true,decide_eq_true h.2.1,he,Option.bind_some]
 rcases hc with ⟨rfl,C⟩ | ⟨rfl,C⟩
 ·obtain ⟨s,hs,S⟩:=span_law V V.pc C (a:=fun y33=>ticket_Paid_1 y33 f t) (g:=paidT f t) (fun x hx=>by
   unfold ticket_Paid_1
   obtain ⟨xc,xu⟩:=x
   rw [paid_eq (hx.small V) h.1 h.2.1 (by omega)]; rfl)
  refine ⟨s,0,?_,.inl ⟨rfl,C,S⟩⟩
  unfold ticket_Paid_j1
  show (ticket_book_span (qOf b b.Shows b.Boxes) _).bind _=_
  rw [hs]; rfl
 ·exact ⟨⟨0,0⟩,102,rfl,.inr ⟨rfl,rfl,C⟩⟩
theorem bitV (s k:Nat) (hk:k < 64):andI (shrI (s:Int) (k:Int)) 1=if s.testBit k then 1 else 0:=by
 rw [shr_nat s k hk,and1_nat,Nat.testBit_eq_decide_div_mod_eq]
 by_cases h:s / 2 ^ k % 2=1
 ·simp [h]
 ·have:s / 2 ^ k % 2=0:=by omega
  simp [this]
def usedB (x:Ticket_truth) (n d:Nat):Bool:=(x.used_.getD d 0).toNat.testBit n
theorem sometimes_eq {b:TicketBook} (V:VT b) {sh:List TicketShow}{bx:List TicketBox} (P:Pc b sh bx) {n d:Nat} (hn:n < 3) (hd:d < 3):∃ r,ticket_book_sometimes (qOf b sh bx) n d=some r∧(r=true↔∃ t,Tr b sh bx t∧usedB t n d=true):=by
 obtain ⟨cl,hc,hi⟩:=clear_eq V P
 have hm:=fun t=>mem_truths V P hi (t:=t)
 have F:=foldY_find (ticket_book_sometimes_r1 d n) (fun x=>usedB x n d) false true (truths (qOf b sh bx) cl) (fun x hx=>by
  have hu:=((hm x).1 hx).ub d
  unfold ticket_book_sometimes_r1
  rw [need_of (by simp [inI]; omega),need_of (by simp),agetN,show x.used_.getD d 0=(((x.used_.getD d 0).toNat:Nat):Int) by omega,bitV _ n (by omega)]
  unfold usedB
  cases (x.used_.getD d 0).toNat.testBit n <;> rfl)
 refine ⟨(truths (qOf b sh bx) cl).any fun x=>usedB x n d,?_,?_⟩
 ·unfold ticket_book_sometimes ticket_book_truths
  rw [Option.bind_some,truths_eq _ (qOf_op V P) hc,F]
  cases (truths (qOf b sh bx) cl).any fun x=>usedB x n d <;> rfl
 ·rw [List.any_eq_true]
  exact exists_congr fun x=>and_congr_left fun _=>hm x
structure Lst (n:Nat) (p:Nat→Prop) (l:List Int):Prop where
 clm:Clm l n
 mem:∀ k:Nat,(k:Int)∈l↔k < n∧p k
theorem lst_loop {body:(List Int×Int→Option (List Int×Int))→List Int×Int→Option (List Int×Int)} (n:Nat) (hn:n≤1000) (p:Nat→Prop) (hs:∀ rec (l:List Int) k,k < n→l.length≤k→∃ r:Bool,(r=true↔p k)∧body rec (l,(k:Int))=rec (bif r then l++[(k:Int)] else l,((k+1:Nat):Int))) (he:∀ rec l,body rec (l,(n:Int))=some (l,0)):∃ l,loopF body big ([],0)=some (l,0)∧Lst n p l:=by
 refine Exists.elim (loopF_inv (body:=body) (fun z:List Int×Int=>∃ k:Nat,z.2=k∧k≤n∧z.1.length≤k∧Clm z.1 k∧∀ j:Nat,(j:Int)∈z.1↔j < k∧p j) (fun z=>n - z.2.toNat) (fun r=>∃ l,r=(l,0)∧Lst n p l) ?_ big ([],0) ⟨0,rfl,Nat.zero_le _,Nat.le_refl _,Clm.nil,fun j=>by simp⟩ (by unfold big; simp; omega)) fun r ⟨h1,l,h2,h3⟩=>⟨l,by rw [h1,h2],h3⟩
 rintro rec ⟨l,i⟩ ⟨k,h1,h2,h3,h4,h5⟩ ih
 simp only at h1 h3 h4 h5 ih
 subst h1
 by_cases hk:k < n
 ·obtain ⟨r,hr,hb⟩:=hs rec l k hk h3
  rw [hb]
  have up:Clm l ((k+1:Nat):Int):=fun i x hx=>by
   have:=h4 i x hx
   exact ⟨this.1,by omega,this.2.2⟩
  cases r with
  | true=>
    refine ih _ ⟨k+1,rfl,hk,by simp; omega,up.snoc (by omega) (by omega) (fun y hy=>?_),fun j=>?_⟩ (by simp only; omega)
    ·rw [List.getLast?_eq_getElem?] at hy
     exact (h4 _ _ hy).2.1
    ·simp only [cond_true,List.mem_append,List.mem_singleton,h5]
     constructor
     ·rintro (⟨a,b⟩ | a)
      ·exact ⟨by omega,b⟩
      ·have:j=k:=by omega
       subst this; exact ⟨by omega,hr.1 rfl⟩
     ·rintro ⟨a,b⟩
      by_cases hj:j=k
      ·right; rw [hj]
      ·left; exact ⟨by omega,b⟩
  | false=>
    refine ih _ ⟨k+1,rfl,hk,by simp; omega,up,fun j=>?_⟩ (by simp only; omega)
    simp only [cond_false,h5]
    constructor
    ·rintro ⟨a,b⟩; exact ⟨by omega,b⟩
    ·rintro ⟨a,b⟩
     refine ⟨?_,b⟩
     by_cases hj:j=k
     ·subst hj; have:=hr.2 b; cases this
     ·omega
 ·obtain rfl:k=n:=by omega
  rw [he]
  exact ⟨_,rfl,l,rfl,h4,h5⟩
theorem may_law {b:TicketBook} (V:VT b) {d:Nat} (h:(d:Int) < b.Tally.Trips):∃ l e,ticket_May b d=some (l,e)∧((e=0∧Can b∧Lst b.Tickets.length (fun n=>∃ t,Tr b b.Shows b.Boxes t∧usedB t n d=true) l)∨(e=102∧l=[]∧¬Can b)):=by
 have tn:=V.tn; have t3:=V.t3
 obtain ⟨e,he,hc⟩:=askedT V
 unfold ticket_May ticket_used
 rw [isTrip_eq b V.ta.t1 V.ta.t8,Option.bind_some,trip_iff.2 (by omega),he,Option.bind_some]
 rcases hc with ⟨rfl,C⟩ | ⟨rfl,C⟩
 ·obtain ⟨l,hl,L⟩:=lst_loop (body:=ticket_used_l4 b 1 (qOf b b.Shows b.Boxes,0) d) b.Tickets.length (by omega) (fun n=>∃ t,Tr b b.Shows b.Boxes t∧usedB t n d=true) (fun rec l k hk hl=>by
   obtain ⟨r,hr,hi⟩:=sometimes_eq V V.pc (n:=k) (d:=d) (by omega) (by omega)
   refine ⟨r,hi,?_⟩
   unfold ticket_used_l4
   simp only
   rw [decide_eq_true (by omega),cond_true,need_of (by decide),show ((1:Int)==0)=false from rfl,cond_false,hr,Option.bind_some,wrI (by omega) (by omega),show (k:Int)+1=((k+1:Nat):Int) by omega]
   cases r with
   | true=>rw [cond_true,need_of (fits_small (by simp; omega) (by omega))]; rfl
   | false=>rfl) (fun rec l=>by
   unfold ticket_used_l4
   simp only
   rw [decide_eq_false (by omega),cond_false])
  refine ⟨l,0,?_,.inl ⟨rfl,C,L⟩⟩
  simp only [bne_self_eq_false,cond_false]
  rw [hl]; rfl
 ·exact ⟨[],102,rfl,.inr ⟨rfl,rfl,C⟩⟩
end Go.Proofs.YtafhljljfglfeaaDoor
namespace Go.Proofs.YtafhljljfglfeaaDoor
open Go Go.Fx
set_option maxRecDepth 100000 in
theorem punched_t:law_punched=some true:=by kernel_rfl
end Go.Proofs.YtafhljljfglfeaaDoor
namespace Go.Proofs.YtafhljljfglfeaaDoor
open Go Go.Fx Go.Proofs
end Go.Proofs.YtafhljljfglfeaaDoor
namespace Go.Proofs.YtafhljljfglfeaaDoor
open Go Go.Fx
theorem trips_in {b:TicketBook} (V:VT b) (x y:Int):∃ f t,B_Mod x b.Tally.Trips=some f∧B_Range f (wr (b.Tally.Trips - 1))=some ⟨f,b.Tally.Trips - 1⟩∧B_Within ⟨f,b.Tally.Trips - 1⟩ y=some t∧0≤f∧f≤t∧t < b.Tally.Trips:=by
 have t1:=V.ta.t1; have t3:=V.t3
 obtain ⟨f,hf,f0,f1⟩:=mod_ok x b.Tally.Trips (by omega) (by omega)
 obtain ⟨r,hr,r0,r1⟩:=mod_ok y (b.Tally.Trips - 1 - f+1) (by omega) (by omega)
 refine ⟨f,f+r,hf,?_,?_,f0,by omega,by omega⟩
 ·unfold B_Range; rw [wrI (by omega) (by omega)]
 ·unfold B_Within
  simp only
  rw [wrI (x:=b.Tally.Trips - 1 - f) (by omega) (by omega),wrI (x:=b.Tally.Trips - 1 - f+1) (by omega) (by omega),hr,Option.bind_some,wrI (by omega) (by omega)]
end Go.Proofs.YtafhljljfglfeaaDoor
namespace Go.Proofs.YtafhljljfglfeaaDoor
open Go Go.Fx
def crossQ (T:Nat) (q:Nat→Int):List Int:=(List.range 3).map fun d=>if d < T then q (d+1) - q d else 0
theorem crossQ_get {T:Nat}{q:Nat→Int}{d:Nat} (h:d < 3):(crossQ T q).getD d 0=if d < T then q (d+1) - q d else 0:=by
 unfold crossQ
 rw [List.getD_eq_getElem?_getD,List.getElem?_map,List.getElem?_range h]; rfl
theorem crossQ_out {T:Nat}{q:Nat→Int}{d:Nat} (h:T≤d):(crossQ T q).getD d 0=0:=by
 by_cases h3:d < 3
 ·rw [crossQ_get h3,if_neg (by omega)]
 ·rw [List.getD_eq_getElem?_getD,List.getElem?_eq_none (by unfold crossQ; simp; omega)]; rfl
theorem zer_get (d:Nat):zer.getD d 0=0:=by
 rw [List.getD_eq_getElem?_getD]
 unfold zer
 rw [List.getElem?_replicate]
 split <;> rfl
theorem paid_cross {T:Nat}{q:Nat→Int} (hT:T≤3) (f:Nat):∀ n:Nat,f+n≤T→paidN (crossQ T q) zer f n=q (f+n) - q f
 | 0,_=>by simp [paidN]
 | n+1,h=>by
   rw [paidN_succ,paid_cross hT f n (by omega)]
   unfold pv
   rw [crossQ_get (by omega),if_pos (by omega),zer_get,show popN (0:Int).toNat=0 from rfl,show f+(n+1)=f+n+1 by omega]
   omega
theorem pre_cross {T:Nat}{q:Nat→Int} (hT:T≤3):∀ n:Nat,n≤T→pre ((crossQ T q).take T) n=q n - q 0
 | 0,_=>by simp [pre]
 | n+1,h=>by
   have hl:n < (crossQ T q).length:=by unfold crossQ; simp; omega
   have hg:((crossQ T q).take T)[n]? =some ((crossQ T q).getD n 0):=by
    rw [List.getElem?_take_of_lt (by omega),List.getD_eq_getElem?_getD,List.getElem?_eq_getElem hl]; rfl
   rw [pre_succ hg,pre_cross hT n (by omega),crossQ_get (by omega),if_pos (by omega)]
   omega
theorem fit_cross {b:TallyBook} (V:Val b) (t3:b.Trips≤3) {q:Nat→Int} (h:Fit b no q):Fit b no (pre ((crossQ b.Trips.toNat q).take b.Trips.toNat)):=by
 refine ⟨fun k hk=>?_,fun i x hx ho=>?_⟩
 ·rw [pre_cross (by omega) _ (by omega),pre_cross (by omega) _ (by omega)]
  have:=h.1 k hk
  omega
 ·have hc:=cnt_iff.1 (V.cs x (List.mem_of_getElem? hx))
  have hf:=hc.f0; have ht:=hc.ft; have hT:=hc.tT
  have:=h.2 i x hx ho
  unfold CntQ at this ⊢
  rw [pre_cross (by omega) _ (by omega),pre_cross (by omega) _ (by omega)]
  omega
theorem tr_of {b:TicketBook} (V:VT b) {q:Nat→Int} (h:Fit b.Tally no q):Tr b [] [] ⟨crossQ b.Tally.Trips.toNat q,zer⟩:=by
 have t3:=V.t3; have t1:=V.ta.t1
 refine ⟨fun x hx=>by simp at hx,by show (crossQ _ _).length=3; unfold crossQ; simp,rfl,fun d hd=>?_,fun d hd=>crossQ_out (by omega),fun d _=>zer_get d,fun d=>by rw [show (Ticket_truth.mk (crossQ b.Tally.Trips.toNat q) zer).used_=zer from rfl,zer_get]; omega,fun d hd=>?_,fun d hd=>?_,fun x hx=>by simp at hx,fit_cross V.ta V.t3 h,fun x hx=>by simp at hx⟩
 ·have:=h.1 d hd
  show 0≤(crossQ b.Tally.Trips.toNat q).getD d 0∧(crossQ b.Tally.Trips.toNat q).getD d 0≤_
  rw [crossQ_get (by omega),if_pos (by omega)]
  omega
 ·intro n hn
  rw [show (Ticket_truth.mk (crossQ b.Tally.Trips.toNat q) zer).used_=zer from rfl,zer_get] at hn
  simp at hn
 ·have:=h.1 d hd
  rw [show (Ticket_truth.mk (crossQ b.Tally.Trips.toNat q) zer).used_=zer from rfl,zer_get]
  show popN (0:Int).toNat≤(crossQ b.Tally.Trips.toNat q).getD d 0
  rw [crossQ_get (by omega),if_pos (by omega),show popN (0:Int).toNat=0 from rfl]
  omega
end Go.Proofs.YtafhljljfglfeaaDoor
namespace Go.Proofs.YtafhljljfglfeaaDoor
open Go Go.Fx Go.Proofs
def law_TicketNone (a0:TicketBook) (a1:List Int):Option Bool:=
 (law_sound a0).bind fun r23=>
 bif !r23 then ((law_punched).bind fun r28=>
 some r28)
 else ((B_Mod (aget a1 0) a0.Tally.Trips).bind fun r43=>
 (B_Range r43 (wr (a0.Tally.Trips - 1))).bind fun r47=>
 (B_Within r47 (aget a1 1)).bind fun r49=>
 (ticket_Paid (TicketBook.mk a0.Tally a0.Fare ([]:List _) ([]:List _) ([]:List _)) r43 r49).bind fun r54=>
 (tally_Many a0.Tally r43 r49).bind fun r63=>
 (ticket_Right (TicketBook.mk a0.Tally a0.Fare ([]:List _) ([]:List _) ([]:List _))).bind fun r72=>
 (tally_Right a0.Tally).bind fun r76=>
 (ticket_May (TicketBook.mk a0.Tally a0.Fare ([]:List _) ([]:List _) ([]:List _)) r43).bind fun r80=>
 (ticket_Lent (TicketBook.mk a0.Tally a0.Fare ([]:List _) ([]:List _) ([]:List _))).bind fun r89=>
 bif (r72.2 != 0) then (some false)
 else (bif (r76.2 != 0) then (some false)
 else (bif (r72.1 != r76.1) then (some false)
 else (bif !r72.1 then (bif (r54.2==102) then (bif (r63.2==52) then (bif (r80.2==r54.2) then (bif (r89.2==r54.2) then ((law_punched).bind fun r106=>
 some r106)
 else (some false))
 else (some false))
 else (some false))
 else (some false))
 else (bif (r54.2==0) then (bif (r63.2==0) then (bif ((r54.1.Low==r63.1.Low)&&(r54.1.High==r63.1.High)) then (bif (r80.2==0) then (bif (r89.2==0) then (bif ((wr ((r80.1.length:Int)+(r89.1.length:Int)))==0) then ((law_punched).bind fun r116=>
 some r116)
 else (some false))
 else (some false))
 else (some false))
 else (some false))
 else (some false))
 else (some false))))))
set_option maxRecDepth 100000 in
theorem law_TicketNone_ok {a0:TicketBook}{a1:List Int}{A1:Option Addr}{c2:Nat}{A4:Option Addr}{c5:Nat}{A7:Option Addr}{c8:Nat}{A10:Option Addr}{c11:Nat}{w:World}{r:Bool} (H:law_TicketNone a0 a1=some r) (h3:(rd eTallyCount 7 A1 c2 a0.Tally.Counts).ok w) (h6:(rd eTicketSeason 2 A4 c5 a0.Tickets).ok w) (h9:(rd eTicketShow 3 A7 c8 a0.Shows).ok w) (h12:(rd eTicketBox 4 A10 c11 a0.Boxes).ok w) (hg13:(gW0).ok w) (hg14:(gW1).ok w) (hg15:(gW2).ok w) (hg16:(gW3).ok w):Calls Tryd.prog 11 #[AG (vB a0 A1 c2 A4 c5 A7 c8 A10 c11),AG (sg a1 2)] w (RetV w (B r)):=by
 unfold law_TicketNone at H
 refine fn_of (n:=142) Tryd.func11 rfl rfl (lE rfl) ?_
 have S:=St.start w nF _ (cA h3 (cA h6 (cA h9 (cA h12 (cA hg13 (cA hg14 (cA hg15 (cA hg16 nM))))))))
 refine c_seq<|reg<|p_boxA rfl S fun b17 w18 S19=>p_boxA rfl S19 fun b20 w21 S22=>p_aB rfl<|wp_nil<|c_seq<|c_seq<|reg<|p_ldA ty29 sz29 (S22.atX (i:=1) rfl) rfl rfl ?_
 obtain ⟨r23,h24,H⟩:=bindS H
 refine p_cv (law_sound_ok h24 (S22.atP (i:=0) rfl) (S22.atP (i:=1) rfl) (S22.atP (i:=2) rfl) (S22.atP (i:=3) rfl)) fu12 rfl S22 fun w25 S26=>p_not rfl<|wp_nil ?_
 refine c_cond rfl (fun c27=>?_) (fun c27=>?_)
 ·replace H:=condT c27 H
  refine c_seq<|reg ?_
  obtain ⟨r28,h29,H⟩:=bindS H
  refine p_cv (law_punched_ok h29 (S26.atP (i:=4) rfl) (S26.atP (i:=5) rfl) (S26.atP (i:=6) rfl)) fu13 rfl S26 fun w30 S31=>p_aB rfl<|wp_nil ?_
  obtain rfl:=sJ H
  exact c_ret (rT Tryd.f11 S31.keep rfl rfl)
 ·replace H:=condF c27 H
  refine c_skip<|c_seq<|reg<|p_ldA ty29 sz29 (S26.atX (i:=1) rfl) rfl rfl<|p_allA in29 S26 fun b32 w33 S34=>?_
  refine p_stP (pre:=[]) (old:=[I 0,I 0,SL none 0 0,I 0,SL none 0 0,SL none 0 0,SL none 0 0]) (post:=[]) (vs:=(vB a0 A1 c2 A4 c5 A7 c8 A10 c11)) sz29 S34 (i:=0) rfl rfl rfl rfl (rfl:_=AG (vB a0 A1 c2 A4 c5 A7 c8 A10 c11)) rfl rfl rfl rfl fun w35 S36=>?_
  refine wp_nil<|c_seq<|reg<|p_fld fl29_2 rfl<|p_stP (pre:=[I a0.Tally.Trips,I a0.Tally.Room,SL A1 a0.Tally.Counts.length c2,I a0.Fare]) (old:=[SL A4 a0.Tickets.length c5]) (post:=[SL A7 a0.Shows.length c8,SL A10 a0.Boxes.length c11]) (vs:=[SL none 0 0]) sz25 S36 (i:=0) rfl rfl rfl rfl (rfl:_=SL none 0 0) rfl rfl rfl rfl fun w37 S38=>p_fld fl29_3 rfl ?_
  refine p_stP (pre:=[I a0.Tally.Trips,I a0.Tally.Room,SL A1 a0.Tally.Counts.length c2,I a0.Fare,SL none 0 0]) (old:=[SL A7 a0.Shows.length c8]) (post:=[SL A10 a0.Boxes.length c11]) (vs:=[SL none 0 0]) sz26 S38 (i:=0) rfl rfl rfl rfl (rfl:_=SL none 0 0) rfl rfl rfl rfl fun w39 S40=>p_fld fl29_4 rfl ?_
  refine p_stP (pre:=[I a0.Tally.Trips,I a0.Tally.Room,SL A1 a0.Tally.Counts.length c2,I a0.Fare,SL none 0 0,SL none 0 0]) (old:=[SL A10 a0.Boxes.length c11]) (post:=[]) (vs:=[SL none 0 0]) sz27 S40 (i:=0) rfl rfl rfl rfl (rfl:_=SL none 0 0) rfl rfl rfl rfl fun w41 S42=>wp_nil<|c_seq<|reg<|p_ixc ar60 rfl rfl (by decide) (by decide)<|p_ld ty3 (S42.atX (i:=1) rfl) rfl rfl<|p_fld fl29_0 rfl ?_
  refine p_fld fl24_0 rfl<|p_ld ty3 (S42.atX (i:=2) rfl) rfl rfl ?_
  obtain ⟨r43,h44,H⟩:=bindS H
  refine p_cv (B_Mod_ok h44) fu19 rfl S42 fun w45 S46=>p_aI rfl<|wp_nil<|c_seq ?_
  obtain ⟨r47,h48,H⟩:=bindS H
  obtain ⟨r49,h50,H⟩:=bindS H
  refine reg_q mixed 10 (by kernel_rfl) ?_
  refine dS (fun _ k_=>p_mI rfl dn)<|dS (fun _ k_=>p_fld fl29_0 rfl dn)<|dS (fun _ k_=>p_fld fl24_0 rfl dn)<|dS (fun _ k_=>p_ld ty3 (aS (S46.atX (i:=2) rfl) k_) rfl rfl dn)<|dS (fun _ k_=>p_sub rfl rfl dn)<|dS (fun _ k_=>p_cvD (B_Range_ok h48) fu21 rfl)<|dS (fun _ k_=>p_ixc ar60 rfl rfl (by decide) (by decide) dn)<|dS (fun _ k_=>p_ld ty3 (aS (S46.atX (i:=1) rfl) k_) rfl rfl dn) ?_
  refine dS (fun _ k_=>p_cvD (B_Within_ok h50) fu20 rfl)<|dS (fun _ k_=>p_aI rfl dn) ?_
  intro w51 k52; have S53:=S46.call k52
  refine wp_nil<|c_seq<|reg<|p_ldA ty29 sz29 (S53.atX (i:=0) rfl) rfl rfl<|p_mI rfl<|p_mI rfl ?_
  obtain ⟨r54,h55,H⟩:=bindS H
  refine p_cv (ticket_Paid_ok h55 (S53.atP (i:=0) rfl) (rd_nil (Nat.zero_le _)) (rd_nil (Nat.zero_le _)) (rd_nil (Nat.zero_le _)) (S53.atP (i:=4) rfl) (S53.atP (i:=6) rfl)) fu22 rfl S53 fun w56 S57=>p_mT rfl<|p_ext rfl rfl<|p_ext rfl rfl<|p_allA in49 S57 fun b58 w59 S60=>?_
  refine p_stP (pre:=[]) (old:=[I 0,I 0]) (post:=[]) (vs:=[I r54.1.Low,I r54.1.High]) sz49 S60 (i:=0) rfl rfl rfl rfl (rfl:_=AG [I r54.1.Low,I r54.1.High]) rfl rfl rfl rfl fun w61 S62=>p_aI rfl<|wp_nil<|c_seq<|reg<|p_fld fl29_0 rfl<|p_ldP (vs:=[I a0.Tally.Trips,I a0.Tally.Room,SL A1 a0.Tally.Counts.length c2]) ty24 sz24 (S62.atX (i:=3) rfl) rfl rfl rfl<|p_mI rfl<|p_mI rfl ?_
  obtain ⟨r63,h64,H⟩:=bindS H
  refine p_cv (tally_Many_ok h64 (S62.atP (i:=0) rfl) (S62.atP (i:=6) rfl) (S62.atP (i:=7) rfl)) fu48 rfl S62 fun w65 S66=>p_mT rfl<|p_ext rfl rfl<|p_ext rfl rfl<|p_allA in49 S66 fun b67 w68 S69=>p_stP (pre:=[]) (old:=[I 0,I 0]) (post:=[]) (vs:=[I r63.1.Low,I r63.1.High]) sz49 S69 (i:=0) rfl rfl rfl rfl (rfl:_=AG [I r63.1.Low,I r63.1.High]) rfl rfl rfl rfl fun w70 S71=>p_aI rfl<|wp_nil ?_
  refine c_seq<|reg<|p_ldA ty29 sz29 (S71.atX (i:=2) rfl) rfl rfl ?_
  obtain ⟨r72,h73,H⟩:=bindS H
  refine p_cv (ticket_Right_ok h73 (S71.atP (i:=0) rfl) (rd_nil (Nat.zero_le _)) (rd_nil (Nat.zero_le _)) (rd_nil (Nat.zero_le _)) (S71.atP (i:=4) rfl) (S71.atP (i:=6) rfl)) fu16 rfl S71 fun w74 S75=>p_mT rfl<|p_ext rfl rfl<|p_ext rfl rfl<|p_aB rfl<|p_aI rfl<|wp_nil<|c_seq<|reg<|p_fld fl29_0 rfl ?_
  refine p_ldP (vs:=[I a0.Tally.Trips,I a0.Tally.Room,SL A1 a0.Tally.Counts.length c2]) ty24 sz24 (S75.atX (i:=4) rfl) rfl rfl rfl ?_
  obtain ⟨r76,h77,H⟩:=bindS H
  refine p_cv (tally_Right_ok h77 (S75.atP (i:=0) rfl) (S75.atP (i:=6) rfl) (S75.atP (i:=7) rfl)) fu44 rfl S75 fun w78 S79=>p_mT rfl<|p_ext rfl rfl<|p_ext rfl rfl<|p_aB rfl<|p_aI rfl<|wp_nil<|c_seq<|reg<|p_ldA ty29 sz29 (S79.atX (i:=2) rfl) rfl rfl<|p_mI rfl ?_
  obtain ⟨r80,h81,H⟩:=bindS H
  refine p_cal (ticket_May_ok h81 (S79.atP (i:=0) rfl) (rd_nil (Nat.zero_le _)) (rd_nil (Nat.zero_le _)) (rd_nil (Nat.zero_le _)) (S79.atP (i:=4) rfl) (S79.atP (i:=5) rfl) (S79.atP (i:=6) rfl)) fu24 rfl ?_
  rintro _ w82 ⟨A84,c85,rfl,k83,⟨o86,n87⟩,_⟩
  have S88:=S79.callN k83 [rd intE 1 A84 c85 r80.1] (cA ⟨o86,New.inL n87⟩ nM)
  refine p_mT rfl<|p_ext rfl rfl<|p_ext rfl rfl<|p_aS rfl<|p_aI rfl<|wp_nil<|c_seq<|reg<|p_ldA ty29 sz29 (S88.atX (i:=2) rfl) rfl rfl ?_
  obtain ⟨r89,h90,H⟩:=bindS H
  refine p_cal (ticket_Lent_ok h90 (S88.atP (i:=1) rfl) (rd_nil (Nat.zero_le _)) (rd_nil (Nat.zero_le _)) (rd_nil (Nat.zero_le _)) (S88.atP (i:=5) rfl) (S88.atP (i:=7) rfl)) fu40 rfl ?_
  rintro _ w91 ⟨A93,c94,rfl,k92,⟨o95,n96⟩,_⟩
  have S97:=S88.callN k92 [rd intE 1 A93 c94 r89.1] (cA ⟨o95,New.inL n96⟩ nM)
  refine p_mT rfl<|p_ext rfl rfl<|p_ext rfl rfl<|p_aS rfl<|p_aI rfl<|wp_nil<|c_seq<|c_seq<|reg<|p_mI rfl<|p_cmp rfl rfl rfl<|p_mB rfl ?_
  rcases bE ((r72.2 != 0)) with c98 | c98
  ·replace H:=condT c98 H
   refine eB c98<|gF rfl rfl<|gF rfl rfl<|p_pkT rfl (rfl:_=B true)<|p_mB rfl<|gF rfl rfl<|gF rfl rfl<|gF rfl rfl<|p_pkT rfl (rfl:_=B true)<|wp_nil<|c_true rfl<|c_seq<|reg<|p_aB rfl<|wp_nil ?_
   obtain rfl:=sJ H
   exact c_ret (rT Tryd.f11 S97.keep rfl rfl)
  ·replace H:=condF c98 H
   refine eB c98 ?_
   refine gT rfl rfl (p_mI rfl ?_)
   refine gT rfl rfl (p_cmp rfl rfl rfl ?_)
   refine p_pkF rfl (rfl:_=B (r76.2 != 0))<|p_mB rfl ?_
   rcases bE ((r76.2 != 0)) with c99 | c99
   ·replace H:=condT c99 H
    refine eB c99<|gF rfl rfl<|gF rfl rfl<|gF rfl rfl<|p_pkT rfl (rfl:_=B true)<|wp_nil<|c_true rfl<|c_seq<|reg<|p_aB rfl<|wp_nil ?_
    obtain rfl:=sJ H
    exact c_ret (rT Tryd.f11 S97.keep rfl rfl)
   ·replace H:=condF c99 H
    refine eB c99 ?_
    refine gT rfl rfl (p_mB rfl ?_)
    refine gT rfl rfl (p_mB rfl ?_)
    refine gT rfl rfl (o_neB rfl rfl ub4 ?_)
    refine p_pkF rfl (rfl:_=B (r72.1 != r76.1))<|wp_nil ?_
    refine c_cond rfl (fun c100=>?_) (fun c100=>?_)
    ·replace H:=condT c100 H
     refine c_seq<|reg<|p_aB rfl<|wp_nil ?_
     obtain rfl:=sJ H
     exact c_ret (rT Tryd.f11 S97.keep rfl rfl)
    ·replace H:=condF c100 H
     refine c_skip<|c_seq<|c_seq<|reg<|p_mB rfl<|p_not rfl<|wp_nil ?_
     refine c_cond rfl (fun c101=>?_) (fun c101=>?_)
     ·replace H:=condT c101 H
      refine c_seq<|reg<|p_mI rfl<|p_cmp rfl rfl rfl<|p_mB rfl ?_
      rcases bE ((r54.2==102)) with c102 | c102
      ·replace H:=condT c102 H
       refine eB c102 ?_
       refine gT rfl rfl (p_mI rfl ?_)
       refine gT rfl rfl (p_cmp rfl rfl rfl ?_)
       refine p_pkT rfl (rfl:_=B (r63.2==52))<|p_mB rfl ?_
       rcases bE ((r63.2==52)) with c103 | c103
       ·replace H:=condT c103 H
        refine eB c103 ?_
        refine gT rfl rfl (p_mI rfl ?_)
        refine gT rfl rfl (p_mI rfl ?_)
        refine gT rfl rfl (p_cmp rfl rfl rfl ?_)
        refine p_pkT rfl (rfl:_=B (r80.2==r54.2))<|p_mB rfl ?_
        rcases bE ((r80.2==r54.2)) with c104 | c104
        ·replace H:=condT c104 H
         refine eB c104 ?_
         refine gT rfl rfl (p_mI rfl ?_)
         refine gT rfl rfl (p_mI rfl ?_)
         refine gT rfl rfl (p_cmp rfl rfl rfl ?_)
         refine p_pkT rfl (rfl:_=B (r89.2==r54.2))<|p_mB rfl ?_
         rcases bE ((r89.2==r54.2)) with c105 | c105
         ·replace H:=condT c105 H
          refine eB c105 ?_
          obtain ⟨r106,h107,H⟩:=bindS H
          refine gT rfl rfl (p_cv (law_punched_ok h107 (S97.atP (i:=6) rfl) (S97.atP (i:=7) rfl) (S97.atP (i:=8) rfl)) fu13 rfl S97 fun w108 S109=>?_)
          refine p_pkT rfl (rfl:_=B r106)<|p_aB rfl<|wp_nil ?_
          obtain rfl:=sJ H
          exact c_ret (rT Tryd.f11 S109.keep rfl rfl)
         ·replace H:=condF c105 H
          refine eB c105<|gF rfl rfl<|p_pkF rfl (rfl:_=B false)<|p_aB rfl<|wp_nil ?_
          obtain rfl:=sJ H
          exact c_ret (rT Tryd.f11 S97.keep rfl rfl)
        ·replace H:=condF c104 H
         refine eB c104<|gF rfl rfl<|gF rfl rfl<|gF rfl rfl<|p_pkF rfl (rfl:_=B false)<|p_mB rfl<|gF rfl rfl<|p_pkF rfl (rfl:_=B false)<|p_aB rfl<|wp_nil ?_
         obtain rfl:=sJ H
         exact c_ret (rT Tryd.f11 S97.keep rfl rfl)
       ·replace H:=condF c103 H
        refine eB c103<|gF rfl rfl<|gF rfl rfl<|gF rfl rfl<|p_pkF rfl (rfl:_=B false)<|p_mB rfl<|gF rfl rfl<|gF rfl rfl<|gF rfl rfl<|p_pkF rfl (rfl:_=B false)<|p_mB rfl<|gF rfl rfl<|p_pkF rfl (rfl:_=B false)<|p_aB rfl<|wp_nil ?_
        obtain rfl:=sJ H
        exact c_ret (rT Tryd.f11 S97.keep rfl rfl)
      ·replace H:=condF c102 H
       refine eB c102<|gF rfl rfl<|gF rfl rfl<|p_pkF rfl (rfl:_=B false)<|p_mB rfl<|gF rfl rfl<|gF rfl rfl<|gF rfl rfl<|p_pkF rfl (rfl:_=B false)<|p_mB rfl<|gF rfl rfl<|gF rfl rfl<|gF rfl rfl<|p_pkF rfl (rfl:_=B false)<|p_mB rfl<|gF rfl rfl<|p_pkF rfl (rfl:_=B false)<|p_aB rfl<|wp_nil ?_
       obtain rfl:=sJ H
       exact c_ret (rT Tryd.f11 S97.keep rfl rfl)
     ·replace H:=condF c101 H
      refine c_skip<|c_seq<|reg<|p_mI rfl<|p_cmp rfl rfl rfl<|p_mB rfl ?_
      rcases bE ((r54.2==0)) with c110 | c110
      ·replace H:=condT c110 H
       refine eB c110 ?_
       refine gT rfl rfl (p_mI rfl ?_)
       refine gT rfl rfl (p_cmp rfl rfl rfl ?_)
       refine p_pkT rfl (rfl:_=B (r63.2==0))<|p_mB rfl ?_
       rcases bE ((r63.2==0)) with c111 | c111
       ·replace H:=condT c111 H
        refine eB c111 ?_
        refine gT rfl rfl (p_ldA ty49 sz49 (S97.atX (i:=1) rfl) rfl rfl ?_)
        refine gT rfl rfl (p_ldA ty49 sz49 (S97.atX (i:=0) rfl) rfl rfl ?_)
        refine gT rfl rfl (o_eqA (xs:=[I r54.1.Low,I r54.1.High]) (ys:=[I r63.1.Low,I r63.1.High]) (T:=((r54.1.Low==r63.1.Low)&&(r54.1.High==r63.1.High))) rfl rfl eq49 ⟨⟨_,rfl⟩,⟨⟨_,rfl⟩,trivial⟩⟩ ⟨⟨_,rfl⟩,⟨⟨_,rfl⟩,trivial⟩⟩ (by simp [Bool.and_eq_true,and_assoc]) ?_)
        refine p_pkT rfl (rfl:_=B ((r54.1.Low==r63.1.Low)&&(r54.1.High==r63.1.High)))<|p_mB rfl ?_
        rcases bE (((r54.1.Low==r63.1.Low)&&(r54.1.High==r63.1.High))) with c112 | c112
        ·replace H:=condT c112 H
         refine eB c112 ?_
         refine gT rfl rfl (p_mI rfl ?_)
         refine gT rfl rfl (p_cmp rfl rfl rfl ?_)
         refine p_pkT rfl (rfl:_=B (r80.2==0))<|p_mB rfl ?_
         rcases bE ((r80.2==0)) with c113 | c113
         ·replace H:=condT c113 H
          refine eB c113 ?_
          refine gT rfl rfl (p_mI rfl ?_)
          refine gT rfl rfl (p_cmp rfl rfl rfl ?_)
          refine p_pkT rfl (rfl:_=B (r89.2==0))<|p_mB rfl ?_
          rcases bE ((r89.2==0)) with c114 | c114
          ·replace H:=condT c114 H
           refine eB c114 ?_
           refine gT rfl rfl (p_mS rfl ?_)
           refine gT rfl rfl (p_len rfl sc30 ?_)
           refine gT rfl rfl (p_mS rfl ?_)
           refine gT rfl rfl (p_len rfl sc30 ?_)
           refine gT rfl rfl (p_add rfl rfl ?_)
           refine gT rfl rfl (p_cmp rfl rfl rfl ?_)
           refine p_pkT rfl (rfl:_=B ((wr ((r80.1.length:Int)+(r89.1.length:Int)))==0))<|p_mB rfl ?_
           rcases bE (((wr ((r80.1.length:Int)+(r89.1.length:Int)))==0)) with c115 | c115
           ·replace H:=condT c115 H
            refine eB c115 ?_
            obtain ⟨r116,h117,H⟩:=bindS H
            refine gT rfl rfl (p_cv (law_punched_ok h117 (S97.atP (i:=6) rfl) (S97.atP (i:=7) rfl) (S97.atP (i:=8) rfl)) fu13 rfl S97 fun w118 S119=>?_)
            refine p_pkT rfl (rfl:_=B r116)<|p_aB rfl<|wp_nil ?_
            obtain rfl:=sJ H
            exact c_ret (rT Tryd.f11 S119.keep rfl rfl)
           ·replace H:=condF c115 H
            refine eB c115<|gF rfl rfl<|p_pkF rfl (rfl:_=B false)<|p_aB rfl<|wp_nil ?_
            obtain rfl:=sJ H
            exact c_ret (rT Tryd.f11 S97.keep rfl rfl)
          ·replace H:=condF c114 H
           refine eB c114<|gF rfl rfl<|gF rfl rfl<|gF rfl rfl<|gF rfl rfl<|gF rfl rfl<|gF rfl rfl<|p_pkF rfl (rfl:_=B false)<|p_mB rfl<|gF rfl rfl<|p_pkF rfl (rfl:_=B false)<|p_aB rfl<|wp_nil ?_
           obtain rfl:=sJ H
           exact c_ret (rT Tryd.f11 S97.keep rfl rfl)
         ·replace H:=condF c113 H
          refine eB c113<|gF rfl rfl<|gF rfl rfl<|p_pkF rfl (rfl:_=B false)<|p_mB rfl<|gF rfl rfl<|gF rfl rfl<|gF rfl rfl<|gF rfl rfl<|gF rfl rfl<|gF rfl rfl<|p_pkF rfl (rfl:_=B false)<|p_mB rfl<|gF rfl rfl<|p_pkF rfl (rfl:_=B false)<|p_aB rfl<|wp_nil ?_
          obtain rfl:=sJ H
          exact c_ret (rT Tryd.f11 S97.keep rfl rfl)
        ·replace H:=condF c112 H
         refine eB c112<|gF rfl rfl<|gF rfl rfl<|p_pkF rfl (rfl:_=B false)<|p_mB rfl<|gF rfl rfl<|gF rfl rfl<|p_pkF rfl (rfl:_=B false)<|p_mB rfl<|gF rfl rfl<|gF rfl rfl<|gF rfl rfl<|gF rfl rfl<|gF rfl rfl<|gF rfl rfl<|p_pkF rfl (rfl:_=B false)<|p_mB rfl<|gF rfl rfl<|p_pkF rfl (rfl:_=B false)<|p_aB rfl<|wp_nil ?_
         obtain rfl:=sJ H
         exact c_ret (rT Tryd.f11 S97.keep rfl rfl)
       ·replace H:=condF c111 H
        refine eB c111<|gF rfl rfl<|gF rfl rfl<|gF rfl rfl<|p_pkF rfl (rfl:_=B false)<|p_mB rfl<|gF rfl rfl<|gF rfl rfl<|p_pkF rfl (rfl:_=B false)<|p_mB rfl<|gF rfl rfl<|gF rfl rfl<|p_pkF rfl (rfl:_=B false)<|p_mB rfl<|gF rfl rfl<|gF rfl rfl<|gF rfl rfl<|gF rfl rfl<|gF rfl rfl<|gF rfl rfl<|p_pkF rfl (rfl:_=B false)<|p_mB rfl<|gF rfl rfl<|p_pkF rfl (rfl:_=B false)<|p_aB rfl<|wp_nil ?_
        obtain rfl:=sJ H
        exact c_ret (rT Tryd.f11 S97.keep rfl rfl)
      ·replace H:=condF c110 H
       refine eB c110<|gF rfl rfl<|gF rfl rfl<|p_pkF rfl (rfl:_=B false)<|p_mB rfl<|gF rfl rfl<|gF rfl rfl<|gF rfl rfl<|p_pkF rfl (rfl:_=B false)<|p_mB rfl<|gF rfl rfl<|gF rfl rfl<|p_pkF rfl (rfl:_=B false)<|p_mB rfl<|gF rfl rfl<|gF rfl rfl<|p_pkF rfl (rfl:_=B false)<|p_mB rfl<|gF rfl rfl<|gF rfl rfl<|gF rfl rfl<|gF rfl rfl<|gF rfl rfl<|gF rfl rfl<|p_pkF rfl (rfl:_=B false)<|p_mB rfl<|gF rfl rfl<|p_pkF rfl (rfl:_=B false)<|p_aB rfl<|wp_nil ?_
       obtain rfl:=sJ H
       exact c_ret (rT Tryd.f11 S97.keep rfl rfl)
end Go.Proofs.YtafhljljfglfeaaDoor
namespace Go.Proofs.YtafhljljfglfeaaDoor
open Go Go.Fx
def bareB (b:TicketBook):TicketBook:=⟨b.Tally,b.Fare,[],[],[]⟩
theorem bare_vt {b:TicketBook} (V:VT b):VT (bareB b):=
 ⟨V.ta,V.t3,V.r5,V.f1,V.f20,by simp [bareB],by simp [bareB],by simp [bareB],fun x hx=>by simp [bareB] at hx,fun x hx=>by simp [bareB] at hx,fun x hx=>by simp [bareB] at hx⟩
theorem can_bare {b:TicketBook} (V:VT b):Can (bareB b)↔CanBe b.Tally:=by
 constructor
 ·rintro ⟨t,ht⟩
  exact ⟨_,ht.can⟩
 ·rintro ⟨q,hq⟩
  exact ⟨_,tr_of (bare_vt V) hq⟩
theorem bare_used {b:TicketBook}{t:Ticket_truth} (h:Tr (bareB b) [] [] t) {d:Nat} (hd:(d:Int) < b.Tally.Trips):(t.used_.getD d 0).toNat=0:=by
 refine Nat.eq_of_testBit_eq fun n=>?_
 rw [Nat.zero_testBit,← Bool.not_eq_true]
 intro hn
 obtain ⟨x,hx,_⟩:=h.us d hd n hn
 simp [bareB] at hx
theorem pre_getN {u:List Int}{k:Nat} (h:k < u.length):pre u (k+1)=pre u k+u.getD k 0:=by
 rw [pre_succ (List.getElem?_eq_getElem h),List.getD_eq_getElem?_getD,List.getElem?_eq_getElem h]; rfl
theorem paid_preN {c u:List Int}{T f:Nat} (hT:T≤c.length) (hu:∀ d,d < T→(u.getD d 0).toNat=0):∀ n:Nat,f+n≤T→paidN c u f n=pre (c.take T) (f+n) - pre (c.take T) f
 | 0,_=>by simp [paidN]
 | n+1,h=>by
   have ih:=paid_preN (f:=f) hT hu n (by omega)
   have hl:f+n < (c.take T).length:=by rw [List.length_take]; omega
   rw [paidN_succ,show f+(n+1)=(f+n)+1 by omega,pre_getN hl,List.getD_eq_getElem?_getD,List.getElem?_take_of_lt (show f+n < T by omega),← List.getD_eq_getElem?_getD]
   unfold pv
   rw [hu (f+n) (by omega),show popN 0=0 from rfl]
   omega
theorem lent_bare {b:TicketBook} (V:VT b):∃ e,ticket_Lent (bareB b)=some ([],e)∧((e=0∧Can (bareB b))∨(e=102∧¬Can (bareB b))):=by
 obtain ⟨e,he,hc⟩:=askedT (bare_vt V)
 refine ⟨e,?_,hc⟩
 unfold ticket_Lent
 rw [he,Option.bind_some]
 rcases hc with ⟨rfl,_⟩ | ⟨rfl,_⟩
 ·simp only [bne_self_eq_false,cond_false]
  rw [show big=(big - 1)+1 by rw [big_eq]]
  rfl
 ·rfl
theorem law_ticketNone (b:TicketBook) (A:ArgT b) (n:List Int):law_TicketNone b n=some true:=by
 unfold law_TicketNone
 rw [soundT_eq b A,Option.bind_some]
 cases hv:valT b with
 | false=>rw [Bool.not_false,cond_true,punched_t]; rfl
 | true=>
   have V:=valT_iff.1 hv
   have W:=bare_vt V
   have t1:=V.ta.t1; have t3:=V.t3
   rw [Bool.not_true,cond_false]
   obtain ⟨f,t,e1,e2,e3,h⟩:=trips_in V (aget n 0) (aget n 1)
   obtain ⟨s,e,he,hs⟩:=paid_law W (f:=f) (t:=t) h
   obtain ⟨a,e',ha,hm⟩:=many_law V.ta h
   obtain ⟨is,hR,hI⟩:=right_law W
   obtain ⟨so,hS,hJ⟩:=right_eq V.ta
   obtain ⟨f,rfl⟩:=Int.eq_ofNat_of_zero_le h.1
   obtain ⟨l,el,hl,hL⟩:=may_law W (d:=f) (by show (f:Int) < b.Tally.Trips; omega)
   obtain ⟨em,hm2,hM⟩:=lent_bare V
   rw [e1,Option.bind_some,e2,Option.bind_some,e3,Option.bind_some]
   show ((ticket_Paid (bareB b) (f:Int) t).bind _)=_
   rw [he,Option.bind_some,ha,Option.bind_some]
   show ((ticket_Right (bareB b)).bind _)=_
   rw [hR,Option.bind_some,hS,Option.bind_some]
   show ((ticket_May (bareB b) (f:Int)).bind _)=_
   rw [hl,Option.bind_some]
   show ((ticket_Lent (bareB b)).bind _)=_
   rw [hm2,Option.bind_some]
   have e:is=so:=by rw [Bool.eq_iff_iff,hI,hJ,can_bare V]
   subst e
   simp only [bne_self_eq_false,cond_false]
   cases is with
   | false=>
     have C:¬Can (bareB b):=fun h=>by simpa using hI.2 h
     have D:¬CanBe b.Tally:=fun h=>C ((can_bare V).2 h)
     rcases hs with ⟨_,h,_⟩ | ⟨rfl,rfl,_⟩
     ·exact absurd h C
     rcases hm with ⟨_,h,_⟩ | ⟨rfl,rfl,_⟩
     ·exact absurd h D
     rcases hL with ⟨_,h,_⟩ | ⟨rfl,rfl,_⟩
     ·exact absurd h C
     rcases hM with ⟨_,h⟩ | ⟨rfl,_⟩
     ·exact absurd h C
     simp only [Bool.not_false,cond_true,beq_self_eq_true]
     rw [punched_t]; rfl
   | true=>
     have C:Can (bareB b):=hI.1 rfl
     have D:CanBe b.Tally:=(can_bare V).1 C
     rcases hs with ⟨rfl,_,S⟩ | ⟨_,_,h⟩
     rotate_left
     ·exact absurd C h
     rcases hm with ⟨rfl,_,M⟩ | ⟨_,_,h⟩
     rotate_left
     ·exact absurd D h
     rcases hL with ⟨rfl,_,L⟩ | ⟨_,_,h⟩
     rotate_left
     ·exact absurd C h
     rcases hM with ⟨rfl,_⟩ | ⟨_,h⟩
     rotate_left
     ·exact absurd C h
     have n1:f+(t+1 - (f:Int)).toNat=(t+1).toNat:=by omega
     have go:∀ x,Tr (bareB b) (bareB b).Shows (bareB b).Boxes x→a.Low≤paidT f t x∧paidT f t x≤a.High:=fun x hx=>by
      have h1:=M.all _ hx.can
      have h2:=paid_preN (c:=x.crossed_) (u:=x.used_) (T:=b.Tally.Trips.toNat) (f:=f) (by rw [hx.c3]; omega) (fun d hd=>bare_used hx (by omega)) (t+1 - (f:Int)).toNat (by omega)
      rw [n1] at h2
      unfold paidT
      rw [show ((f:Nat):Int).toNat=f from rfl,h2]
      exact h1
     have back:∀ q,Fit b.Tally no q→s.Low≤q (t+1).toNat - q f∧q (t+1).toNat - q f≤s.High:=fun q hq=>by
      have h1:=S.all _ (tr_of W hq)
      have h2:=paid_cross (T:=b.Tally.Trips.toNat) (q:=q) (by omega) f (t+1 - (f:Int)).toNat (by omega)
      unfold paidT at h1
      simp only at h1
      rw [show ((f:Nat):Int).toNat=f from rfl,show (bareB b).Tally=b.Tally from rfl,h2,n1] at h1
      exact h1
     have l1:s.Low=a.Low:=by
      obtain ⟨x,hx,hg⟩:=S.loE
      obtain ⟨q,hq,hg'⟩:=M.loE
      have:=go x hx; have:=back q hq
      rw [show ((f:Nat):Int).toNat=f from rfl] at hg'
      omega
     have l2:s.High=a.High:=by
      obtain ⟨x,hx,hg⟩:=S.hiE
      obtain ⟨q,hq,hg'⟩:=M.hiE
      have:=go x hx; have:=back q hq
      rw [show ((f:Nat):Int).toNat=f from rfl] at hg'
      omega
     have hl0:l.length=0:=by
      have:=L.clm.len (by omega)
      have:(bareB b).Tickets.length=0:=rfl
      omega
     simp only [Bool.not_true,cond_false,beq_self_eq_true,cond_true]
     rw [l1,l2,beq_self_eq_true,beq_self_eq_true,Bool.and_self,cond_true,hl0,show (wr (((0:Nat):Int)+(([]:List Int).length:Int))==0)=true by decide,cond_true,punched_t]; rfl
end Go.Proofs.YtafhljljfglfeaaDoor
/- Plain facts: loops over lists, sets as numbers, how many paid. -/
import Derived.Test.YtafhljljfglfeaaGreatDoorZGPFold
import Derived.KernelRfl
set_option linter.unusedVariables false
set_option linter.unusedSimpArgs false
namespace Go.Proofs.YtafhljljfglfeaaGreatDoor
open Go Go.Fx Go.Tally
theorem loop_all {ρ:Type}{body:(Int→Option ρ)→Int→Option ρ} (n:Nat) (p:Nat→Bool) {Rf Rt:Option ρ} (hs:∀ rec k,k < n→body rec (k:Int)=bif p k then rec ((k+1:Nat):Int) else Rf) (he:∀ rec,body rec (n:Int)=Rt) (hn:n < big):loopF body big 0=bif (List.range n).all p then Rt else Rf:=by
 have key:∀ d k m,k+d=n→d < m→loopF body m (k:Int)=bif (List.range' k d).all p then Rt else Rf:=by
  intro d
  induction d with
  | zero=>
    intro k m h1 h2
    obtain ⟨m,rfl⟩:∃ q,m=q+1:=⟨m - 1,by omega⟩
    obtain rfl:k=n:=by omega
    exact he _
  | succ d ih=>
    intro k m h1 h2
    obtain ⟨m,rfl⟩:∃ q,m=q+1:=⟨m - 1,by omega⟩
    show body (loopF body m) (k:Int)=_
    rw [hs _ k (by omega),List.range'_succ,List.all_cons,ih (k+1) m (by omega) (by omega)]
    cases p k <;> rfl
 rw [List.range_eq_range']
 exact key n 0 big (by omega) hn
theorem all_range {α:Type} (l:List α) (f:α→Bool):(List.range l.length).all (fun k=>(l[k]?).all f)=l.all f:=by
 rw [Bool.eq_iff_iff,List.all_eq_true,List.all_eq_true]
 constructor
 ·intro h x hx
  obtain ⟨k,hk,rfl⟩:=List.getElem_of_mem hx
  have:=h k (List.mem_range.2 hk)
  rw [List.getElem?_eq_getElem hk] at this
  exact this
 ·intro h k hk
  have hk:=List.mem_range.1 hk
  rw [List.getElem?_eq_getElem hk]
  exact h _ (List.getElem_mem hk)
theorem loop_allL {α ρ:Type}{body:(Int→Option ρ)→Int→Option ρ} (l:List α) (f:α→Bool) {Rf Rt:Option ρ} (hs:∀ rec k (hk:k < l.length),body rec (k:Int)=bif f l[k] then rec ((k+1:Nat):Int) else Rf) (he:∀ rec,body rec (l.length:Int)=Rt) (hn:l.length < big):loopF body big 0=bif l.all f then Rt else Rf:=by
 rw [← all_range]
 refine loop_all l.length _ (fun rec k hk=>?_) he hn
 rw [hs rec k hk,List.getElem?_eq_getElem hk]; rfl
theorem idx_show (l:List TicketShow) (a:TicketShow→Option Bool) (g:TicketShow→Bool) (h:∀ x∈l,a x=some (g x)) (hl:l.length≤1000):∃ r,sl_IndexFunc_api_TicketShow_api_TicketShow l a=some r∧(0≤r↔l.any g=true):=by
 unfold sl_IndexFunc_api_TicketShow_api_TicketShow
 refine loopF_inv (body:=sl_IndexFunc_api_TicketShow_api_TicketShow_l1 l a) (fun i:Int=>∃ k:Nat,i=k∧k≤l.length∧(l.take k).any g=false) (fun i=>l.length - i.toNat) (fun r=>(0≤r↔l.any g=true)) ?_ big 0 ⟨0,rfl,Nat.zero_le _,by simp⟩ (by unfold big; simp; omega)
 rintro rec i ⟨k,rfl,hk,hn⟩ ih
 unfold sl_IndexFunc_api_TicketShow_api_TicketShow_l1
 by_cases hlt:k < l.length
 ·rw [decide_eq_true (by omega),cond_true,getI_ix hlt,Option.bind_some,h _ (List.getElem_mem hlt),Option.bind_some]
  cases hg:g l[k] with
  | true=>exact ⟨_,rfl,⟨fun _=>List.any_eq_true.2 ⟨_,List.getElem_mem hlt,hg⟩,fun _=>by omega⟩⟩
  | false=>
    rw [cond_false,wrI (by omega) (by omega)]
    refine ih _ ⟨k+1,by simp,hlt,?_⟩ (by (try simp only); omega)
    rw [List.take_succ_eq_append_getElem hlt,List.any_append,hn]
    simp [hg]
 ·rw [decide_eq_false (by omega),cond_false]
  rw [List.take_of_length_le (by omega)] at hn
  exact ⟨-1,rfl,by simp [hn]⟩
theorem has_show (l:List TicketShow) (a:TicketShow→Option Bool) (g:TicketShow→Bool) (h:∀ x∈l,a x=some (g x)) (hl:l.length≤1000):sl_ContainsFunc_api_TicketShow_api_TicketShow l a=some (l.any g):=by
 obtain ⟨r,hr,hi⟩:=idx_show l a g h hl
 unfold sl_ContainsFunc_api_TicketShow_api_TicketShow
 rw [hr,Option.bind_some]
 congr 1
 rw [Bool.eq_iff_iff,decide_eq_true_eq]
 exact hi
theorem idx_box (l:List TicketBox) (a:TicketBox→Option Bool) (g:TicketBox→Bool) (h:∀ x∈l,a x=some (g x)) (hl:l.length≤1000):∃ r,sl_IndexFunc_api_TicketBox_api_TicketBox l a=some r∧(0≤r↔l.any g=true):=by
 unfold sl_IndexFunc_api_TicketBox_api_TicketBox
 refine loopF_inv (body:=sl_IndexFunc_api_TicketBox_api_TicketBox_l1 l a) (fun i:Int=>∃ k:Nat,i=k∧k≤l.length∧(l.take k).any g=false) (fun i=>l.length - i.toNat) (fun r=>(0≤r↔l.any g=true)) ?_ big 0 ⟨0,rfl,Nat.zero_le _,by simp⟩ (by unfold big; simp; omega)
 rintro rec i ⟨k,rfl,hk,hn⟩ ih
 unfold sl_IndexFunc_api_TicketBox_api_TicketBox_l1
 by_cases hlt:k < l.length
 ·rw [decide_eq_true (by omega),cond_true,getI_ix hlt,Option.bind_some,h _ (List.getElem_mem hlt),Option.bind_some]
  cases hg:g l[k] with
  | true=>exact ⟨_,rfl,⟨fun _=>List.any_eq_true.2 ⟨_,List.getElem_mem hlt,hg⟩,fun _=>by omega⟩⟩
  | false=>
    rw [cond_false,wrI (by omega) (by omega)]
    refine ih _ ⟨k+1,by simp,hlt,?_⟩ (by (try simp only); omega)
    rw [List.take_succ_eq_append_getElem hlt,List.any_append,hn]
    simp [hg]
 ·rw [decide_eq_false (by omega),cond_false]
  rw [List.take_of_length_le (by omega)] at hn
  exact ⟨-1,rfl,by simp [hn]⟩
theorem has_box (l:List TicketBox) (a:TicketBox→Option Bool) (g:TicketBox→Bool) (h:∀ x∈l,a x=some (g x)) (hl:l.length≤1000):sl_ContainsFunc_api_TicketBox_api_TicketBox l a=some (l.any g):=by
 obtain ⟨r,hr,hi⟩:=idx_box l a g h hl
 unfold sl_ContainsFunc_api_TicketBox_api_TicketBox
 rw [hr,Option.bind_some]
 congr 1
 rw [Bool.eq_iff_iff,decide_eq_true_eq]
 exact hi
theorem has_int (l:List Int) (v:Int) (hl:l.length≤1000000):sl_Contains_int_int l v=some (decide (v∈l)):=by
 have:∃ r,sl_Index_int_int l v=some r∧(0≤r↔v∈l):=by
  unfold sl_Index_int_int
  refine loopF_inv (body:=sl_Index_int_int_l1 l v) (fun i:Int=>∃ k:Nat,i=k∧k≤l.length∧v ∉ l.take k) (fun i=>l.length - i.toNat) (fun r=>(0≤r↔v∈l)) ?_ big 0 ⟨0,rfl,Nat.zero_le _,by simp⟩ (by unfold big; simp; omega)
  rintro rec i ⟨k,rfl,hk,hn⟩ ih
  unfold sl_Index_int_int_l1
  by_cases hlt:k < l.length
  ·rw [decide_eq_true (by omega),cond_true,getI_ix hlt,Option.bind_some]
   by_cases he:v=l[k]
   ·rw [show (v==l[k])=true by simpa using he,cond_true]
    have hm:v∈l:=he▸List.getElem_mem hlt
    exact ⟨_,rfl,by simp [hm]⟩
   ·rw [show (v==l[k])=false by simpa using he,cond_false,wrI (by omega) (by omega)]
    refine ih _ ⟨k+1,by simp,hlt,?_⟩ (by (try simp only); omega)
    rw [List.take_succ_eq_append_getElem hlt]
    simp only [List.mem_append,List.mem_singleton,not_or]
    exact ⟨hn,he⟩
  ·rw [decide_eq_false (by omega),cond_false]
   have hm:v ∉ l:=by rwa [List.take_of_length_le (by omega)] at hn
   exact ⟨-1,rfl,by simp [hm]⟩
 obtain ⟨r,hr,hi⟩:=this
 unfold sl_Contains_int_int
 rw [hr,Option.bind_some]
 congr 1
 exact decide_eq_decide.2 hi
def popN (s:Nat):Int:=(if s.testBit 0 then 1 else 0)+(if s.testBit 1 then 1 else 0)+(if s.testBit 2 then 1 else 0)
theorem pop_bd (s:Nat):0≤popN s∧popN s≤3:=by
 unfold popN
 cases s.testBit 0 <;> cases s.testBit 1 <;> cases s.testBit 2 <;> decide
theorem pop_all:((List.range 8).all fun s=>decide (bits_OnesCount (wrK .u64 ((s:Nat):Int))=some (popN s)))=true:=by kernel_rfl
theorem pop_eq {s:Nat} (h:s < 8):bits_OnesCount (wrK .u64 (s:Int))=some (popN s):=of_decide_eq_true (List.all_eq_true.1 pop_all s (List.mem_range.2 h))
theorem and_all:((List.range 8).all fun s=>(List.range 8).all fun t=>decide (andI ((s:Nat):Int) ((t:Nat):Int)=((s &&& t:Nat):Int)))=true:=by kernel_rfl
theorem and_nat {s t:Nat} (h:s < 8) (k:t < 8):andI (s:Int) (t:Int)=((s &&& t:Nat):Int):=of_decide_eq_true (List.all_eq_true.1 (List.all_eq_true.1 and_all s (List.mem_range.2 h)) t (List.mem_range.2 k))
theorem and_sub {s t:Nat}:s &&& t=t↔∀ n,t.testBit n=true→s.testBit n=true:=by
 constructor
 ·intro h n hn
  rw [← h,Nat.testBit_and,Bool.and_eq_true] at hn
  exact hn.1
 ·intro h
  refine Nat.eq_of_testBit_eq fun n=>?_
  rw [Nat.testBit_and]
  cases ht:t.testBit n with
  | false=>simp
  | true=>simp [h n ht]
def pv (c u:List Int) (d:Nat):Int:=c.getD d 0 - popN (u.getD d 0).toNat
def paidN (c u:List Int) (f n:Nat):Int:=((List.range' f n).map (pv c u)).sum
theorem paidN_add (c u:List Int) (f n m:Nat):paidN c u f (n+m)=paidN c u f n+paidN c u (f+n) m:=by
 unfold paidN
 rw [← List.range'_append_1,List.map_append,List.sum_append]
theorem paidN_succ (c u:List Int) (f n:Nat):paidN c u f (n+1)=paidN c u f n+pv c u (f+n):=by
 rw [paidN_add]; simp [paidN]
structure Small (c u:List Int):Prop where
 c3:c.length=3
 u3:u.length=3
 cb:∀ d,0≤c.getD d 0∧c.getD d 0≤5
 ub:∀ d,0≤u.getD d 0∧u.getD d 0 < 8
theorem Small.pv {c u:List Int} (h:Small c u) (d:Nat):-3≤pv c u d∧YtafhljljfglfeaaGreatDoor.pv c u d≤5:=by
 have h1:=h.cb d; have h2:=pop_bd (u.getD d 0).toNat
 unfold YtafhljljfglfeaaGreatDoor.pv; omega
theorem Small.paid {c u:List Int} (h:Small c u) (f:Nat):∀ n:Nat,-3*(n:Int)≤paidN c u f n∧paidN c u f n≤5*(n:Int):=by
 intro n
 induction n with
 | zero=>simp [paidN]
 | succ n ih=>
   rw [paidN_succ]
   have:=h.pv (f+n)
   omega
theorem sumI_eq (l:List Int) (hl:l.length≤8) (hb:∀ x∈l,-3≤x∧x≤5):ticket_sum_int l=some l.sum:=by
 have sum_bd:∀ (l:List Int),(∀ x∈l,-3≤x∧x≤5)→-3*(l.length:Int)≤l.sum∧l.sum≤5*(l.length:Int):=by
  intro l
  induction l with
  | nil=>simp
  | cons x l ih=>
    intro h
    have h1:=h x (List.mem_cons_self ..)
    have h2:=ih fun n hn=>h n (List.mem_cons_of_mem _ hn)
    simp only [List.sum_cons,List.length_cons]
    omega
 unfold ticket_sum_int
 refine loop_fold0 (fun k=>((l.take k).sum,(k:Int))) l.length (fun rec k hk=>?_) (fun rec=>?_) (by rw [big_eq]; omega) rfl
 ·unfold ticket_sum_int_l1
  simp only
  have h1:=sum_bd (l.take k) fun x hx=>hb x (List.mem_of_mem_take hx)
  have h2:=hb _ (List.getElem_mem hk)
  have h3:(l.take k).length≤8:=by rw [List.length_take]; omega
  rw [decide_eq_true (by omega),cond_true,getI_ix hk,Option.bind_some,wrI (by omega) (by omega),wrI (by omega) (by omega),← List.take_append_getElem hk,List.sum_append]
  simp
 ·unfold ticket_sum_int_l1
  simp only
  rw [decide_eq_false (by omega),cond_false,List.take_length]
theorem agetN (l:List Int) (k:Nat):aget l (k:Int)=l.getD k 0:=rfl
theorem usedN {c u:List Int} (h:Small c u) (d:Nat):((u.getD d 0).toNat:Int)=u.getD d 0∧(u.getD d 0).toNat < 8:=by
 have:=h.ub d; omega
theorem paid_eq {c u:List Int} (h:Small c u) {f t:Int} (f0:0≤f) (ft:f≤t) (t3:t < 3):ticket_truth_paid ⟨c,u⟩ f t=some (paidN c u f.toNat (t+1 - f).toNat):=by
 unfold ticket_truth_paid
 refine loop_fold0 (fun k=>((List.range' f.toNat k).map (pv c u),f+k)) (t+1 - f).toNat (fun rec k hk=>?_) (fun rec=>?_) (by rw [big_eq]; omega) (by simp)
 ·unfold ticket_truth_paid_l1
  simp only
  have e:f+(k:Int)=((f.toNat+k:Nat):Int):=by omega
  have hu:=usedN h (f.toNat+k)
  have hp:=pop_eq hu.2
  rw [hu.1] at hp
  have hv:=h.pv (f.toNat+k)
  have hb:=h.cb (f.toNat+k)
  have hq:=pop_bd (u.getD (f.toNat+k) 0).toNat
  rw [decide_eq_true (by omega),cond_true,need_of (by simp [inI]; omega),need_of (by simp [inI]; omega),e,agetN,agetN,hp,Option.bind_some,wrI (x:=_ - popN _) (by omega) (by omega),need_of (fits_small (by simp; omega) (by omega)),wrI (by omega) (by omega)]
  rw [List.range'_1_concat,List.map_append]
  refine congrArg rec ?_
  refine Prod.ext rfl ?_
  show ((f.toNat+k:Nat):Int)+1=f+((k+1:Nat):Int)
  omega
 ·unfold ticket_truth_paid_l1
  simp only
  rw [decide_eq_false (by omega),cond_false,sumI_eq _ (by simp; omega) (fun x hx=>by
   obtain ⟨k,_,rfl⟩:=List.mem_map.1 hx
   exact h.pv k)]
  rfl
end Go.Proofs.YtafhljljfglfeaaGreatDoor
namespace Go.Proofs.YtafhljljfglfeaaGreatDoor
open Go Go.Fx
structure OpT (q:Ticket_book):Prop where
 ta:Val q.TicketBook.Tally
 t3:q.TicketBook.Tally.Trips≤3
 r5:q.TicketBook.Tally.Room≤5
 f1:1≤q.TicketBook.Fare
 f20:q.TicketBook.Fare≤20
 tn:q.TicketBook.Tickets.length≤3
 te:∀ x∈q.TicketBook.Tickets,Seas q.TicketBook.Tally.Trips x
 sn:q.TicketBook.Shows.length≤5
 bn:q.TicketBook.Boxes.length≤3
 bx:∀ x∈q.TicketBook.Boxes,Box q.TicketBook.Tally.Trips x
 s3:q.shown_.length=3
 sb:∀ d,0≤q.shown_.getD d 0∧q.shown_.getD d 0 < 8
def fitsN (fare:Int) (c u:List Int) (x:TicketBox):Bool:=inB (paidN c u x.From.toNat (x.To+1 - x.From).toNat*fare) x.Pence (x.Pence+x.Lost)
theorem mul_bd {r f:Int} (h1:-9≤r) (h2:r≤15) (f1:1≤f) (f20:f≤20):-180≤r*f∧r*f≤300:=by
 have a:r*f≤15*f:=Int.mul_le_mul_of_nonneg_right h2 (by omega)
 have b:-9*f≤r*f:=Int.mul_le_mul_of_nonneg_right h1 (by omega)
 omega
theorem fits_eq (q:Ticket_book) (f1:1≤q.TicketBook.Fare) (f20:q.TicketBook.Fare≤20) {c u:List Int} (h:Small c u) {T:Int} (T3:T≤3) {x:TicketBox} (hx:Box T x):ticket_book_fits q ⟨c,u⟩ x=some (fitsN q.TicketBook.Fare c u x):=by
 have h0:=hx.f0; have h1:=hx.ft; have h2:=hx.tT; have h3:=hx.p0; have h4:=hx.p4; have h5:=hx.l0; have h6:=hx.l4
 unfold ticket_book_fits
 rw [paid_eq h h0 h1 (by omega),Option.bind_some]
 have hp:=h.paid x.From.toNat (x.To+1 - x.From).toNat
 have hm:=mul_bd (r:=paidN c u x.From.toNat (x.To+1 - x.From).toNat) (by omega) (by omega) f1 f20
 rw [wrI (x:=_*_) (by omega) (by omega),wrI (x:=x.Pence+x.Lost) (by omega) (by omega),withinT_eq]
 rfl
def rightN (q:Ticket_book) (c u:List Int) (d:Nat):Bool:=q.TicketBook.Boxes.all fun x=>!(x.To==(d:Int))||fitsN q.TicketBook.Fare c u x
theorem rightT_eq (q:Ticket_book) (Q:OpT q) {c u:List Int} (h:Small c u) (d:Nat):ticket_book_right q ⟨c,u⟩ d=some (rightN q c u d):=by
 unfold ticket_book_right
 rw [has_box q.TicketBook.Boxes _ (fun x=>(x.To==(d:Int))&&!fitsN q.TicketBook.Fare c u x) (fun x hx=>?_) (by have:=Q.bn; omega),Option.bind_some]
 ·congr 1
  unfold rightN
  rw [Bool.eq_iff_iff,Bool.not_eq_true',List.any_eq_false,List.all_eq_true]
  refine forall_congr' fun x=>forall_congr' fun _=>?_
  cases (x.To==(d:Int)) <;> cases fitsN q.TicketBook.Fare c u x <;> simp
 ·unfold ticket_book_right_1
  cases hd:(x.To==(d:Int)) with
  | false=>rfl
  | true=>rw [cond_true,fits_eq q Q.f1 Q.f20 h Q.t3 (Q.bx x hx),Option.bind_some]; rfl
def validN (q:Ticket_book) (s d:Nat):Bool:=(List.range q.TicketBook.Tickets.length).all (fun k=>(q.TicketBook.Tickets[k]?).all fun x=>!s.testBit k||inB d x.From x.To)&&s / 2 ^ q.TicketBook.Tickets.length==0
theorem bitI (s k:Nat) (hk:k < 64):(andI (shrI (s:Int) (k:Int)) 1==1)=s.testBit k:=by
 have:=member_nat s k hk
 unfold B_Member at this
 rw [need_of (by simp)] at this
 exact Option.some.inj this
theorem valid_eq (q:Ticket_book) (Q:OpT q) (s d:Nat):ticket_book_valid q s d=some (validN q s d):=by
 have hn:=Q.tn
 unfold ticket_book_valid
 rw [loop_all (body:=ticket_book_valid_l2 q s d) q.TicketBook.Tickets.length (fun k=>(q.TicketBook.Tickets[k]?).all fun x=>!s.testBit k||inB d x.From x.To) (Rf:=some false) (Rt:=some (s / 2 ^ q.TicketBook.Tickets.length==0)) (fun rec k hk=>?_) (fun rec=>?_) (by rw [big_eq]; omega)]
 ·unfold validN
  generalize (List.range q.TicketBook.Tickets.length).all (fun k=>(q.TicketBook.Tickets[k]?).all fun x=>!s.testBit k||inB d x.From x.To)=A
  cases A <;> rfl
 ·unfold ticket_book_valid_l2
  rw [decide_eq_true (by omega),cond_true,getI_ix hk,Option.bind_some,need_of (by simp),bitI s k (by omega),List.getElem?_eq_getElem hk,withinT_eq,wrI (by omega) (by omega),show (k:Int)+1=((k+1:Nat):Int) by omega]
  simp only [Option.all_some]
  cases s.testBit k <;> cases inB (d:Int) q.TicketBook.Tickets[k].From q.TicketBook.Tickets[k].To <;> rfl
 ·unfold ticket_book_valid_l2
  rw [decide_eq_false (by omega),cond_false,need_of (by simp),shr_nat s _ (by omega)]
  congr 1
  rw [Bool.eq_iff_iff,beq_iff_eq,beq_iff_eq]
  omega
def okN (q:Ticket_book) (c u:List Int) (s d:Nat):Bool:=validN q s d&&(s &&& (q.shown_.getD d 0).toNat==(q.shown_.getD d 0).toNat)&&decide (popN s≤c.getD d 0)&&rightN q c u d
def usesL (q:Ticket_book):Nat→List Int→List Int→Nat→List Ticket_truth
 | 0,c,u,_=>[⟨c,u⟩]
 | r+1,c,u,d=>(List.range' 0 8).flatMap fun (s:Nat)=>bif okN q c (u.set d (s:Int)) s d then usesL q r c (u.set d (s:Int)) (d+1) else []
theorem Small.setU {c u:List Int} (h:Small c u) {d:Nat}{s:Nat} (hs:s < 8):Small c (u.set d (s:Int)):=by
 refine ⟨h.c3,by simp [h.u3],h.cb,fun i=>?_⟩
 have:=h.ub i
 rw [List.getD_eq_getElem?_getD] at this ⊢
 rw [List.getElem?_set]
 split
 ·split
  ·simp; omega
  ·simp
 ·exact this
theorem use_eq (q:Ticket_book) (Q:OpT q) {σ:Type} (yv:Ticket_truth→σ→Option (Bool×σ)):∀ (r:Nat) (c u:List Int) (d:Nat) (s:σ) (n:Nat),((d+r:Nat):Int)=q.TicketBook.Tally.Trips→r < n→Small c u→
 ticket_book_truths_1_1 n ⟨c,u⟩ d s q q yv=foldY yv (usesL q r c u d) s:=by
 have T3:=Q.t3
 intro r
 induction r with
 | zero=>
   intro c u d s n h1 h2 h3
   obtain ⟨n,rfl⟩:∃ m,n=m+1:=⟨n - 1,by omega⟩
   show ticket_book_truths_1_1_F _ ⟨c,u⟩ d s q q yv=foldY yv [⟨c,u⟩] s
   rw [foldY_one]
   unfold ticket_book_truths_1_1_F
   rw [show ((d:Int)==q.TicketBook.Tally.Trips)=true by rw [beq_iff_eq]; omega,cond_true]
   cases yv ⟨c,u⟩ s <;> rfl
 | succ r ih=>
   intro c u d s n h1 h2 h3
   obtain ⟨n,rfl⟩:∃ m,n=m+1:=⟨n - 1,by omega⟩
   show ticket_book_truths_1_1_F _ ⟨c,u⟩ d s q q yv=_
   unfold ticket_book_truths_1_1_F
   rw [show ((d:Int)==q.TicketBook.Tally.Trips)=false by rw [beq_eq_false_iff_ne]; omega,cond_false]
   have key:∀ (e k m:Nat) (U:List Int) (s:σ),k+e=8→e < m→U.length=3→(∀ x,U.set d x=u.set d x)→
    loopF (ticket_book_truths_1_1_l1 d q ⟨c,u⟩ q (fun x0 x1 x2=>ticket_book_truths_1_1 n x0 x1 x2 q q yv)) m ((k:Int),U,s)=foldY yv ((List.range' k e).flatMap fun (s:Nat)=>bif okN q c (u.set d (s:Int)) s d then usesL q r c (u.set d (s:Int)) (d+1) else []) s:=by
    intro e
    induction e with
    | zero=>
      intro k m U s h4 h5 h6 h7
      obtain ⟨m,rfl⟩:∃ q,m=q+1:=⟨m - 1,by omega⟩
      show ticket_book_truths_1_1_l1 d q ⟨c,u⟩ q _ _ ((k:Int),U,s)=_
      unfold ticket_book_truths_1_1_l1
      simp only
      rw [decide_eq_false (by omega),cond_false]
      rfl
    | succ e ih2=>
      intro k m U s h4 h5 h6 h7
      obtain ⟨m,rfl⟩:∃ q,m=q+1:=⟨m - 1,by omega⟩
      show ticket_book_truths_1_1_l1 d q ⟨c,u⟩ q _ (loopF _ m) ((k:Int),U,s)=_
      have ih3:=fun s=>ih2 (k+1) m (u.set d (k:Int)) s (by omega) (by omega) (by simp [h3.u3]) (fun x=>by simp)
      generalize loopF (ticket_book_truths_1_1_l1 d q ⟨c,u⟩ q (fun x0 x1 x2=>ticket_book_truths_1_1 n x0 x1 x2 q q yv)) m=rec at ih3
      rw [List.range'_succ,List.flatMap_cons,foldY_app]
      have w0:wr ((k:Int)+1)=((k+1:Nat):Int):=by rw [wrI (by omega) (by omega)]; omega
      have wd:wr ((d:Int)+1)=((d+1:Nat):Int):=by rw [wrI (by omega) (by omega)]; omega
      have hk:k < 8:=by omega
      have hS:=h3.setU (d:=d) hk
      have nd:need (inI (d:Int) 3)=fun x:Option (Bool×σ)=>x:=by funext x; exact need_of (by simp [inI]; omega)
      have hsh:((q.shown_.getD d 0).toNat:Int)=q.shown_.getD d 0:=by have:=Q.sb d; omega
      have hand:=and_nat hk (show (q.shown_.getD d 0).toNat < 8 by have:=Q.sb d; omega)
      rw [hsh] at hand
      unfold ticket_book_truths_1_1_l1
      simp only
      rw [decide_eq_true (by omega),cond_true]
      simp only [nd]
      rw [valid_eq q Q,Option.bind_some,w0,aset_eq h6,show ((d:Int)).toNat=d from rfl,h7,agetN,agetN,hand]
      unfold okN
      cases validN q k d with
      | false=>
        simp only [Bool.not_false,cond_true,Bool.false_and,cond_false]
        rw [ih3 s]; rfl
      | true=>
        simp only [Bool.not_true,cond_false,Bool.true_and]
        rw [show (((k &&& (q.shown_.getD d 0).toNat:Nat):Int) != q.shown_.getD d 0)=!(k &&& (q.shown_.getD d 0).toNat==(q.shown_.getD d 0).toNat) by
         rw [Bool.eq_iff_iff,bne_iff_ne,Bool.not_eq_true',beq_eq_false_iff_ne]; omega]
        cases (k &&& (q.shown_.getD d 0).toNat==(q.shown_.getD d 0).toNat) with
        | false=>
          simp only [Bool.not_false,cond_true,Bool.false_and,cond_false]
          rw [ih3 s]; rfl
        | true=>
          simp only [Bool.not_true,cond_false,Bool.true_and]
          rw [pop_eq hk,Option.bind_some]
          by_cases hp:popN k≤c.getD d 0
          ·rw [decide_eq_false (show ¬popN k > c.getD d 0 by omega),cond_false,decide_eq_true hp,Bool.true_and,rightT_eq q Q hS,Option.bind_some]
           cases rightN q c (u.set d (k:Int)) d with
           | false=>
             simp only [Bool.not_false,cond_true,cond_false]
             rw [ih3 s]; rfl
           | true=>
             simp only [Bool.not_true,cond_false,cond_true]
             rw [wd,ih c (u.set d (k:Int)) (d+1) s n (by omega) (by omega) hS]
             cases foldY yv (usesL q r c (u.set d (k:Int)) (d+1)) s with
             | none=>rfl
             | some x=>
               obtain ⟨b,s2⟩:=x
               cases b with
               | false=>rfl
               | true=>exact ih3 s2
          ·rw [decide_eq_true (show popN k > c.getD d 0 by omega),cond_true,decide_eq_false hp,Bool.false_and,cond_false,ih3 s]; rfl
   exact key 8 0 big u s (by omega) (by rw [big_eq]; omega) h3.u3 (fun _=>rfl)
def canB (b:TallyBook) (c:List Int):Bool:=((tally_Can b (c.take b.Trips.toNat)).map (·.1)).getD false
def zer:List Int:=List.replicate 3 0
def crossL (q:Ticket_book):Nat→List Int→Nat→List Ticket_truth
 | 0,c,_=>bif canB q.TicketBook.Tally c then usesL q q.TicketBook.Tally.Trips.toNat c zer 0 else []
 | r+1,c,d=>(List.range' 0 (q.TicketBook.Tally.Room+1).toNat).flatMap fun (n:Nat)=>crossL q r (c.set d (n:Int)) (d+1)
theorem Small.setC {c u:List Int} (h:Small c u) {d:Nat}{s:Nat} (hs:s≤5):Small (c.set d (s:Int)) u:=by
 refine ⟨by simp [h.c3],h.u3,fun i=>?_,h.ub⟩
 have:=h.cb i
 rw [List.getD_eq_getElem?_getD] at this ⊢
 rw [List.getElem?_set]
 split
 ·split
  ·simp; omega
  ·simp
 ·exact this
theorem take_all {l:List Int}{n:Nat}{p:Int→Prop} (h:∀ i,i < n→p (l.getD i 0)):∀ x∈l.take n,p x:=by
 intro x hx
 obtain ⟨i,hi,rfl⟩:=List.getElem_of_mem hx
 have h1:i < n:=by rw [List.length_take] at hi; omega
 have h2:i < l.length:=by rw [List.length_take] at hi; omega
 have:=h i h1
 rw [List.getElem_take]
 rwa [List.getD_eq_getElem?_getD,List.getElem?_eq_getElem h2] at this
theorem tru_of {b:TallyBook} (V:Val b) (t3:b.Trips≤3) {c:List Int} (c3:c.length=3) (h:∀ i,i < b.Trips.toNat→0≤c.getD i 0∧c.getD i 0≤b.Room):Tru b (c.take b.Trips.toNat):=by
 have:=V.t1
 exact ⟨by rw [List.length_take]; omega,take_all (p:=fun n=>0≤n∧n≤b.Room) h⟩
theorem canB_eq {b:TallyBook} (V:Val b) {c:List Int} (hu:Tru b (c.take b.Trips.toNat)):tally_Can b (c.take b.Trips.toNat)=some (canB b c,0)∧(canB b c=true↔Fit b no (pre (c.take b.Trips.toNat))):=by
 obtain ⟨r,hr,hi⟩:=can_law V hu
 have:canB b c=r:=by unfold canB; rw [hr]; rfl
 rw [this]; exact ⟨hr,hi⟩
theorem cross_eq (q:Ticket_book) (Q:OpT q) {σ:Type} (yv:Ticket_truth→σ→Option (Bool×σ)):∀ (r:Nat) (c:List Int) (d:Nat) (s:σ) (n:Nat),((d+r:Nat):Int)=q.TicketBook.Tally.Trips→r < n→Small c zer→(∀ i,i < d→0≤c.getD i 0∧c.getD i 0≤q.TicketBook.Tally.Room)→
 ticket_book_truths_1_2 n ⟨c,zer⟩ d s q q yv=foldY yv (crossL q r c d) s:=by
 have T3:=Q.t3; have r0:=Q.ta.r0; have r5:=Q.r5
 intro r
 induction r with
 | zero=>
   intro c d s n h1 h2 h3 h4
   obtain ⟨n,rfl⟩:∃ m,n=m+1:=⟨n - 1,by omega⟩
   show ticket_book_truths_1_2_F _ ⟨c,zer⟩ d s q q yv=_
   unfold ticket_book_truths_1_2_F
   have hd:d=q.TicketBook.Tally.Trips.toNat:=by omega
   have hc:=h3.c3
   obtain ⟨e1,_⟩:=canB_eq Q.ta (tru_of Q.ta T3 h3.c3 (by rw [← hd]; exact h4))
   rw [show ((d:Int)==q.TicketBook.Tally.Trips)=true by rw [beq_iff_eq]; omega,cond_true]
   simp only
   rw [sgl_eq h3.c3,cutI_eq (by omega) (by omega) (by omega),Option.bind_some,show ((0:Int)).toNat=0 from rfl,List.drop_zero,show ((d:Int)).toNat=q.TicketBook.Tally.Trips.toNat by omega,e1,Option.bind_some,crossL]
   simp only
   cases canB q.TicketBook.Tally c with
   | false=>rfl
   | true=>
     rw [Bool.not_true,cond_false,cond_true]
     have:=use_eq q Q yv q.TicketBook.Tally.Trips.toNat c zer 0 s big (by omega) (by rw [big_eq]; omega) h3
     rw [show ticket_book_truths_1_1 big ⟨c,zer⟩ 0 s q q yv=_ from this]
     cases foldY yv (usesL q q.TicketBook.Tally.Trips.toNat c zer 0) s <;> rfl
 | succ r ih=>
   intro c d s n h1 h2 h3 h4
   obtain ⟨n,rfl⟩:∃ m,n=m+1:=⟨n - 1,by omega⟩
   show ticket_book_truths_1_2_F _ ⟨c,zer⟩ d s q q yv=_
   unfold ticket_book_truths_1_2_F
   rw [show ((d:Int)==q.TicketBook.Tally.Trips)=false by rw [beq_eq_false_iff_ne]; omega,cond_false]
   have wR:wr (q.TicketBook.Tally.Room+1)=(((q.TicketBook.Tally.Room+1).toNat:Nat):Int):=by rw [wrI (by omega) (by omega)]; omega
   have key:∀ (e k m:Nat) (U:List Int) (s:σ),k+e=(q.TicketBook.Tally.Room+1).toNat→e < m→U.length=3→(∀ x,U.set d x=c.set d x)→
    loopF (ticket_book_truths_1_2_l1 q d (fun x0 x1 x2=>ticket_book_truths_1_2 n x0 x1 x2 q q yv) ⟨c,zer⟩) m ((k:Int),U,s)=foldY yv ((List.range' k e).flatMap fun (n:Nat)=>crossL q r (c.set d (n:Int)) (d+1)) s:=by
    intro e
    induction e with
    | zero=>
      intro k m U s h4 h5 h6 h7
      obtain ⟨m,rfl⟩:∃ q,m=q+1:=⟨m - 1,by omega⟩
      show ticket_book_truths_1_2_l1 q d _ ⟨c,zer⟩ _ ((k:Int),U,s)=_
      unfold ticket_book_truths_1_2_l1
      simp only
      rw [wR,decide_eq_false (by omega),cond_false]
      rfl
    | succ e ih2=>
      intro k m U s h5 h6 h7 h8
      obtain ⟨m,rfl⟩:∃ q,m=q+1:=⟨m - 1,by omega⟩
      show ticket_book_truths_1_2_l1 q d _ ⟨c,zer⟩ (loopF _ m) ((k:Int),U,s)=_
      have ih3:=fun s=>ih2 (k+1) m (c.set d (k:Int)) s (by omega) (by omega) (by simp [h3.c3]) (fun x=>by simp)
      generalize loopF (ticket_book_truths_1_2_l1 q d (fun x0 x1 x2=>ticket_book_truths_1_2 n x0 x1 x2 q q yv) ⟨c,zer⟩) m=rec at ih3
      rw [List.range'_succ,List.flatMap_cons,foldY_app]
      have w0:wr ((k:Int)+1)=((k+1:Nat):Int):=by rw [wrI (by omega) (by omega)]; omega
      have wd:wr ((d:Int)+1)=((d+1:Nat):Int):=by rw [wrI (by omega) (by omega)]; omega
      unfold ticket_book_truths_1_2_l1
      simp only
      rw [wR,decide_eq_true (by omega),cond_true,need_of (by simp [inI]; omega),aset_eq h7,show ((d:Int)).toNat=d from rfl,h8,wd,w0,ih (c.set d (k:Int)) (d+1) s n (by omega) (by omega) (h3.setC (by omega)) (fun i hi=>by
       rw [List.getD_eq_getElem?_getD,List.getElem?_set]
       split
       ·split
        ·simp; omega
        ·simp; omega
       ·rw [← List.getD_eq_getElem?_getD]; exact h4 i (by omega))]
      cases foldY yv (crossL q r (c.set d (k:Int)) (d+1)) s with
      | none=>rfl
      | some x=>
        obtain ⟨b,s2⟩:=x
        cases b with
        | false=>rfl
        | true=>exact ih3 s2
   exact key _ 0 big c s (by omega) (by rw [big_eq]; omega) h3.c3 (fun _=>rfl)
theorem small0:Small zer zer:=by
 have:∀ d,zer.getD d 0=0:=fun d=>by
  unfold zer; rw [List.getD_eq_getElem?_getD,List.getElem?_replicate]; split <;> rfl
 exact ⟨rfl,rfl,fun d=>by rw [this]; omega,fun d=>by rw [this]; omega⟩
def truths (q:Ticket_book) (cl:Bool):List Ticket_truth:=bif cl then crossL q q.TicketBook.Tally.Trips.toNat zer 0 else []
theorem truths_eq (q:Ticket_book) (Q:OpT q) {cl:Bool} (hc:ticket_book_clear q=some cl) {σ:Type} (yv:Ticket_truth→σ→Option (Bool×σ)) (s:σ):ticket_book_truths_1 s q yv=(foldY yv (truths q cl) s).map (·.2):=by
 have T3:=Q.t3; have T1:=Q.ta.t1
 unfold ticket_book_truths_1 truths
 rw [hc,Option.bind_some]
 cases cl with
 | false=>rfl
 | true=>
   rw [Bool.not_true,cond_false,cond_true]
   have:=cross_eq q Q yv q.TicketBook.Tally.Trips.toNat zer 0 s big (by omega) (by rw [big_eq]; omega) small0 (fun i h=>absurd h (Nat.not_lt_zero i))
   rw [show ticket_book_truths_1_2 big (Ticket_truth.mk (List.replicate 3 0) (List.replicate 3 0)) 0 s q q yv=_ from this]
   cases foldY yv (crossL q q.TicketBook.Tally.Trips.toNat zer 0) s <;> rfl
end Go.Proofs.YtafhljljfglfeaaGreatDoor
namespace Go.Proofs.YtafhljljfglfeaaGreatDoor
open Go Go.Fx
def kept {α:Type} (l:List α) (o:Nat→Bool) (k:Nat):List α:=(List.range k).filterMap fun i=>bif o i then none else l[i]?
theorem kept_succ {α:Type}{l:List α}{o:Nat→Bool}{k:Nat} (h:k < l.length):kept l o (k+1)=kept l o k++(bif o k then [] else [l[k]]):=by
 unfold kept
 rw [List.range_succ,List.filterMap_append]
 congr 1
 simp only [List.filterMap_cons,List.filterMap_nil,List.getElem?_eq_getElem h]
 cases o k <;> rfl
theorem kept_len {α:Type}{l:List α}{o:Nat→Bool}{k:Nat}:(kept l o k).length≤k:=by
 have:=List.length_filterMap_le (fun i=>bif o i then none else l[i]?) (List.range k)
 simpa [kept] using this
theorem mem_kept {α:Type}{l:List α}{o:Nat→Bool}{x:α}:x∈kept l o l.length↔∃ i,l[i]? =some x∧o i=false:=by
 unfold kept
 rw [List.mem_filterMap]
 constructor
 ·rintro ⟨i,_,h⟩
  cases ho:o i with
  | true=>rw [ho] at h; cases h
  | false=>rw [ho] at h; exact ⟨i,h,ho⟩
 ·rintro ⟨i,h,ho⟩
  exact ⟨i,List.mem_range.2 (List.getElem?_eq_some_iff.1 h).1,by rw [ho]; exact h⟩
theorem kept_sub {α:Type}{l:List α}{o:Nat→Bool}{x:α} (h:x∈kept l o l.length):x∈l:=by
 obtain ⟨i,hi,_⟩:=mem_kept.1 h
 exact List.mem_of_getElem? hi
theorem kept_all {α:Type} (l:List α):kept l (fun _=>false) l.length=l:=by
 have:∀ k,k≤l.length→kept l (fun _=>false) k=l.take k:=by
  intro k
  induction k with
  | zero=>intro _; rfl
  | succ k ih=>
    intro h
    rw [kept_succ (by omega),ih (by omega),List.take_succ_eq_append_getElem (by omega)]; rfl
 rw [this _ (Nat.le_refl _),List.take_length]
def shownStep (s:List Int) (x:TicketShow):List Int:=aset s 3 x.Trip (orI (aget s x.Trip) (shlI 1 x.Ticket))
def shownOf (l:List TicketShow):List Int:=l.foldl shownStep zer
def byStep (m:List (Ticket_seat×Int)) (x:TicketShow):List (Ticket_seat×Int):=putL m (Ticket_seat.mk x.Trip x.Walker) (orI ((lookL m (Ticket_seat.mk x.Trip x.Walker)).getD 0) (shlI 1 x.Ticket))
def byOf (l:List TicketShow):List (Ticket_seat×Int):=l.foldl byStep (putL ([]:List (Ticket_seat×Int)) (Ticket_seat.mk (-1) (-1)) 0)
def qOf (b:TicketBook) (sh:List TicketShow) (bx:List TicketBox):Ticket_book:=⟨⟨b.Tally,b.Fare,b.Tickets,sh,bx⟩,shownOf sh,byOf sh⟩
def outS (b:TicketBook) (o:Nat→Bool):List TicketShow:=kept b.Shows o b.Shows.length
def outX (b:TicketBook) (o:Nat→Bool):List TicketBox:=kept b.Boxes (fun i=>o (b.Shows.length+i)) b.Boxes.length
theorem openedT_eq {b:TicketBook} (V:VT b) (ch:Ticket_choice) (o:Nat→Bool) (h:∀ k,k < b.Shows.length+b.Boxes.length→ch.out_ (k:Int)=some (o k)):ticket_opened b ch=some (qOf b (outS b o) (outX b o)):=by
 have sn:=V.sn; have bn:=V.bn
 unfold ticket_opened
 refine loop_fold0 (fun k=>((k:Int),(kept b.Shows o k).foldl byStep (putL ([]:List (Ticket_seat×Int)) (Ticket_seat.mk (-1) (-1)) 0),kept b.Shows o k,(kept b.Shows o k).foldl shownStep zer)) b.Shows.length (fun rec k hk=>?_) (fun rec=>?_) (by rw [big_eq]; omega) rfl
 ·unfold ticket_opened_l5
  simp only
  have hx:=V.sh _ (List.getElem_mem hk)
  have t3:=V.t3; have h0:=hx.t0; have h1:=hx.tT; have h2:=hx.n0
  have hl:=kept_len (l:=b.Shows) (o:=o) (k:=k)
  rw [decide_eq_true (by omega),cond_true,getI_ix hk,Option.bind_some,h k (by omega),Option.bind_some,kept_succ hk,wrI (by omega) (by omega),show (k:Int)+1=((k+1:Nat):Int) by omega]
  cases o k with
  | true=>
    rw [Bool.not_true,cond_false,cond_true,List.append_nil]
  | false=>
    rw [Bool.not_false,cond_true,cond_false,need_of (fits_small (by simp; omega) (by omega)),need_of (by simp [inI]; omega),need_of (by simp; omega),need_of (by simp [inI]; omega),need_of (by simp; omega),List.foldl_append,List.foldl_append]
    rfl
 ·unfold ticket_opened_l5
  simp only
  rw [decide_eq_false (by omega),cond_false]
  refine loop_fold0 (fun k=>((k:Int),kept b.Boxes (fun i=>o (b.Shows.length+i)) k)) b.Boxes.length (fun rec k hk=>?_) (fun rec=>?_) (by rw [big_eq]; omega) rfl
  ·unfold ticket_opened_l4
   simp only
   have hl:=kept_len (l:=b.Boxes) (o:=fun i=>o (b.Shows.length+i)) (k:=k)
   rw [decide_eq_true (by omega),cond_true,getI_ix hk,Option.bind_some,wrI (x:=(b.Shows.length:Int)+(k:Int)) (by omega) (by omega),show (b.Shows.length:Int)+(k:Int)=((b.Shows.length+k:Nat):Int) by omega,h _ (by omega),Option.bind_some,kept_succ hk,wrI (x:=(k:Int)+1) (by omega) (by omega),show (k:Int)+1=((k+1:Nat):Int) by omega]
   cases o (b.Shows.length+k) with
   | true=>rw [Bool.not_true,cond_false,cond_true,List.append_nil]
   | false=>rw [Bool.not_false,cond_true,cond_false,need_of (fits_small (by simp; omega) (by omega))]
  ·unfold ticket_opened_l4
   simp only
   rw [decide_eq_false (by omega),cond_false]
   rfl
structure Pc (b:TicketBook) (sh:List TicketShow) (bx:List TicketBox):Prop where
 sn:sh.length≤5
 bn:bx.length≤3
 sh:∀ x∈sh,Shw b.Tally.Trips b.Tickets.length x
 bx:∀ x∈bx,Box b.Tally.Trips x
theorem VT.pc {b:TicketBook} (V:VT b):Pc b b.Shows b.Boxes:=⟨V.sn,V.bn,V.sh,V.bx⟩
theorem VT.pco {b:TicketBook} (V:VT b) (o:Nat→Bool):Pc b (outS b o) (outX b o):=⟨by have:=kept_len (l:=b.Shows) (o:=o) (k:=b.Shows.length); have:=V.sn; unfold outS; omega,by have:=kept_len (l:=b.Boxes) (o:=fun i=>o (b.Shows.length+i)) (k:=b.Boxes.length); have:=V.bn; unfold outX; omega,fun x hx=>V.sh x (kept_sub hx),fun x hx=>V.bx x (kept_sub hx)⟩
theorem list_rev {α:Type}{p:List α→Prop} (h0:p []) (h1:∀ l x,p l→p (l++[x])):∀ l,p l:=by
 intro l
 have:∀ n,n≤l.length→p (l.take n):=by
  intro n
  induction n with
  | zero=>intro _; exact h0
  | succ n ih=>
    intro h
    rw [List.take_succ_eq_append_getElem (by omega)]
    exact h1 _ _ (ih (by omega))
 have:=this _ (Nat.le_refl _)
 rwa [List.take_length] at this
theorem or_small {s t:Nat} (h:s < 8) (k:t < 3):orI (s:Int) (shlI 1 (t:Int))=((s ||| 2 ^ t:Nat):Int)∧s ||| 2 ^ t < 8:=by
 have h2:2 ^ t < 8:=by
  match t,k with
  | 0,_=>decide
  | 1,_=>decide
  | 2,_=>decide
 refine ⟨?_,Nat.or_lt_two_pow (n:=3) h h2⟩
 rw [shl1_nat t (by omega),or_nat s _ (by omega) (by omega)]
theorem shown_ok {b:TicketBook} (t3:b.Tally.Trips≤3) (tn:b.Tickets.length≤3):∀ (sh:List TicketShow),(∀ x∈sh,Shw b.Tally.Trips b.Tickets.length x)→(shownOf sh).length=3∧(∀ d,0≤(shownOf sh).getD d 0∧(shownOf sh).getD d 0 < 8)∧∀ d n:Nat,((shownOf sh).getD d 0).toNat.testBit n=true↔∃ x∈sh,x.Trip=d∧x.Ticket=n:=by
 refine list_rev (fun _=>?_) (fun l x ih h=>?_)
 ·have hz:∀ d,zer.getD d 0=0:=fun d=>by
   unfold zer; rw [List.getD_eq_getElem?_getD,List.getElem?_replicate]; split <;> rfl
  refine ⟨rfl,fun d=>?_,fun d n=>?_⟩
  ·show 0≤zer.getD d 0∧zer.getD d 0 < 8; rw [hz]; omega
  ·show (zer.getD d 0).toNat.testBit n=true↔_; rw [hz]; simp
 ·obtain ⟨i1,i2,i3⟩:=ih fun y hy=>h y (List.mem_append_left _ hy)
  have hx:=h x (List.mem_append_right _ (List.mem_singleton.2 rfl))
  have h0:=hx.t0; have h1:=hx.tT; have h2:=hx.n0; have h3:=hx.nm
  have hd:=i2 x.Trip.toNat
  have e:shownOf (l++[x])=(shownOf l).set x.Trip.toNat ((((shownOf l).getD x.Trip.toNat 0).toNat ||| 2 ^ x.Ticket.toNat:Nat):Int):=by
   have e0:shownOf (l++[x])=shownStep (shownOf l) x:=by unfold shownOf; rw [List.foldl_append]; rfl
   rw [e0]
   unfold shownStep
   rw [aset_eq i1]
   congr 1
   have:=or_small (s:=((shownOf l).getD x.Trip.toNat 0).toNat) (t:=x.Ticket.toNat) (by omega) (by omega)
   rw [← this.1,show ((((shownOf l).getD x.Trip.toNat 0).toNat:Nat):Int)=(shownOf l).getD x.Trip.toNat 0 by omega,show ((x.Ticket.toNat:Nat):Int)=x.Ticket by omega]
   rfl
  have lt:=(or_small (s:=((shownOf l).getD x.Trip.toNat 0).toNat) (t:=x.Ticket.toNat) (by omega) (by omega)).2
  have get:∀ d,(shownOf (l++[x])).getD d 0=if x.Trip.toNat=d then ((((shownOf l).getD x.Trip.toNat 0).toNat ||| 2 ^ x.Ticket.toNat:Nat):Int) else (shownOf l).getD d 0:=fun d=>by
   rw [e,List.getD_eq_getElem?_getD,List.getElem?_set]
   by_cases hd:x.Trip.toNat=d
   ·rw [if_pos hd,if_pos hd,if_pos (by rw [i1]; omega)]; rfl
   ·rw [if_neg hd,if_neg hd,List.getD_eq_getElem?_getD]
  refine ⟨by rw [e,List.length_set,i1],fun d=>?_,fun d n=>?_⟩
  ·rw [get]
   split
   ·omega
   ·exact i2 d
  ·rw [get]
   by_cases hd:x.Trip.toNat=d
   ·rw [if_pos hd,Int.toNat_natCast,Nat.testBit_or,Bool.or_eq_true,hd,i3,Nat.testBit_two_pow]
    constructor
    ·rintro (⟨y,hy,h⟩ | h)
     ·exact ⟨y,List.mem_append_left _ hy,h⟩
     ·have:=of_decide_eq_true h
      exact ⟨x,List.mem_append_right _ (List.mem_singleton.2 rfl),by omega,by omega⟩
    ·rintro ⟨y,hy,h⟩
     rcases List.mem_append.1 hy with hy | hy
     ·exact .inl ⟨y,hy,h⟩
     ·rw [List.mem_singleton.1 hy] at h
      exact .inr (decide_eq_true (by omega))
   ·rw [if_neg hd,i3]
    constructor
    ·rintro ⟨y,hy,h⟩; exact ⟨y,List.mem_append_left _ hy,h⟩
    ·rintro ⟨y,hy,h⟩
     rcases List.mem_append.1 hy with hy | hy
     ·exact ⟨y,hy,h⟩
     ·rw [List.mem_singleton.1 hy] at h; omega
theorem look_put_ne {κ ν:Type} [DecidableEq κ] (l:List (κ×ν)) {a c:κ} (x:ν) (h:c≠a):lookL (putL l a x) c=lookL l c:=by
 unfold putL
 cases hf:(l.map (·.1)).findIdx? (·==a) with
 | none=>
   simp only
   unfold lookL
   rw [List.find?_append]
   cases l.find? (·.1==c) with
   | some y=>rfl
   | none=>
     have e:(a==c)=false:=by simpa using fun e:a=c=>h e.symm
     simp [List.find?_cons,e]
 | some i=>
   simp only
   obtain ⟨hi,hp⟩:=List.findIdx?_eq_some_iff_getElem.1 hf
   have hi' :i < l.length:=by simpa using hi
   have hp' :l[i].1=a:=by simpa using hp.1
   clear hf hp
   unfold lookL
   congr 1
   induction l generalizing i with
   | nil=>rfl
   | cons y l ih=>
     cases i with
     | zero=>
       have hy:y.1=a:=hp'
       have n1:(y.1==c)=false:=by rw [hy]; simpa using fun e=>h e.symm
       have n2:(a==c)=false:=by simpa using fun e=>h e.symm
       rw [List.set_cons_zero,List.find?_cons,List.find?_cons]
       simp only [n1,n2]
     | succ i=>
       rw [List.set_cons_succ,List.find?_cons,List.find?_cons]
       cases (y.1==c) with
       | true=>rfl
       | false=>exact ih i (by simpa using hi) (by simpa using hi') (by simpa using hp')
def seatOf (x:TicketShow):Ticket_seat:=⟨x.Trip,x.Walker⟩
theorem by_ok {b:TicketBook} (t3:b.Tally.Trips≤3) (tn:b.Tickets.length≤3):∀ (sh:List TicketShow),(∀ x∈sh,Shw b.Tally.Trips b.Tickets.length x)→∀ s:Ticket_seat,∃ v:Nat,v < 8∧(lookL (byOf sh) s).getD 0=(v:Int)∧∀ n:Nat,v.testBit n=true↔∃ x∈sh,seatOf x=s∧x.Ticket=n:=by
 refine list_rev (fun _ s=>?_) (fun l x ih h s=>?_)
 ·refine ⟨0,by decide,?_,fun n=>by simp⟩
  unfold byOf
  by_cases hs:s=Ticket_seat.mk (-1) (-1)
  ·rw [hs]; rfl
  ·show (lookL (putL ([]:List (Ticket_seat×Int)) (Ticket_seat.mk (-1) (-1)) 0) s).getD 0=_
   rw [look_put_ne _ _ hs]; rfl
 ·have hx:=h x (List.mem_append_right _ (List.mem_singleton.2 rfl))
  have h2:=hx.n0; have h3:=hx.nm
  have e:byOf (l++[x])=byStep (byOf l) x:=by unfold byOf; rw [List.foldl_append]; rfl
  have ih:=ih fun y hy=>h y (List.mem_append_left _ hy)
  by_cases hs:s=seatOf x
  ·subst hs
   obtain ⟨v,v8,hv,hb⟩:=ih (seatOf x)
   have ho:=or_small (s:=v) (t:=x.Ticket.toNat) v8 (by omega)
   refine ⟨v ||| 2 ^ x.Ticket.toNat,ho.2,?_,fun n=>?_⟩
   ·rw [e]; unfold byStep
    show (lookL (putL (byOf l) (seatOf x) (orI ((lookL (byOf l) (seatOf x)).getD 0) _)) (seatOf x)).getD 0=_
    rw [look_put,hv,Option.getD_some,← ho.1,show ((x.Ticket.toNat:Nat):Int)=x.Ticket by omega]
   ·rw [Nat.testBit_or,Bool.or_eq_true,hb,Nat.testBit_two_pow]
    constructor
    ·rintro (⟨y,hy,h⟩ | h)
     ·exact ⟨y,List.mem_append_left _ hy,h⟩
     ·have:=of_decide_eq_true h
      exact ⟨x,List.mem_append_right _ (List.mem_singleton.2 rfl),rfl,by omega⟩
    ·rintro ⟨y,hy,h⟩
     rcases List.mem_append.1 hy with hy | hy
     ·exact .inl ⟨y,hy,h⟩
     ·rw [List.mem_singleton.1 hy] at h
      exact .inr (decide_eq_true (by omega))
  ·obtain ⟨v,v8,hv,hb⟩:=ih s
   refine ⟨v,v8,?_,fun n=>?_⟩
   ·rw [e]; unfold byStep
    show (lookL (putL (byOf l) (seatOf x) _) s).getD 0=_
    rw [look_put_ne _ _ hs,hv]
   ·rw [hb]
    constructor
    ·rintro ⟨y,hy,h⟩; exact ⟨y,List.mem_append_left _ hy,h⟩
    ·rintro ⟨y,hy,h⟩
     rcases List.mem_append.1 hy with hy | hy
     ·exact ⟨y,hy,h⟩
     ·rw [List.mem_singleton.1 hy] at h; exact absurd h.1.symm hs
def Cl (sh:List TicketShow):Prop:=∀ x∈sh,∀ y∈sh,x.Trip=y.Trip→(x.Ticket=y.Ticket↔x.Walker=y.Walker)
def clashN (x y:TicketShow):Bool:=(x.Trip==y.Trip)&&((x.Ticket==y.Ticket) != (x.Walker==y.Walker))
theorem clash_eq (x y:TicketShow):ticket_clash x y=some (clashN x y):=by
 unfold ticket_clash clashN
 cases (x.Trip==y.Trip) <;> rfl
theorem clashN_iff {x y:TicketShow}:clashN x y=true↔x.Trip=y.Trip∧¬(x.Ticket=y.Ticket↔x.Walker=y.Walker):=by
 unfold clashN
 rw [Bool.and_eq_true,beq_iff_eq,bne_iff_ne]
 refine and_congr_right fun _=>?_
 rw [Ne,Bool.eq_iff_iff,beq_iff_eq,beq_iff_eq]
theorem clashN_comm (x y:TicketShow):clashN x y=clashN y x:=by
 rw [Bool.eq_iff_iff,clashN_iff,clashN_iff,eq_comm (a:=x.Trip),eq_comm (a:=x.Ticket),eq_comm (a:=x.Walker)]
theorem cl_iff {sh:List TicketShow}:Cl sh↔∀ x∈sh,∀ y∈sh,clashN x y=false:=by
 unfold Cl
 refine forall_congr' fun x=>forall_congr' fun _=>forall_congr' fun y=>forall_congr' fun _=>?_
 rw [← Bool.not_eq_true,clashN_iff]
 constructor
 ·intro h ⟨h1,h2⟩; exact h2 (h h1)
 ·intro h h1; exact Classical.byContradiction fun h2=>h ⟨h1,h2⟩
theorem clear_eq {b:TicketBook} (V:VT b) {sh:List TicketShow}{bx:List TicketBox} (P:Pc b sh bx):∃ cl,ticket_book_clear (qOf b sh bx)=some cl∧(cl=true↔Cl sh):=by
 have t3:=V.t3; have tn:=V.tn; have sn:=P.sn
 have B:=by_ok t3 tn sh P.sh
 unfold ticket_book_clear
 have L:=loop_all (body:=ticket_book_clear_l1 (qOf b sh bx)) sh.length (fun k=>(sh[k]?).all fun x=>((lookL (byOf sh) (seatOf x)).getD 0==shlI 1 x.Ticket)&&!(sh.take k).any (fun y=>clashN x y)) (Rf:=some false) (Rt:=some true) (fun rec k hk=>?_) (fun rec=>?_) (by rw [big_eq]; omega)
 rotate_left
 ·unfold ticket_book_clear_l1
  have hx:=P.sh _ (List.getElem_mem hk)
  have w0:=hx.w0; have n0:=hx.n0
  show (bif decide ((k:Int) < (sh.length:Int)) then _ else _)=_
  rw [decide_eq_true (by omega),cond_true]
  show (getI sh (k:Int)).bind _=_
  rw [getI_ix hk,Option.bind_some,List.getElem?_eq_getElem hk,Option.all_some]
  generalize sh[k]=x at hx w0 n0
  rw [show (x.Walker==(-1))=false by rw [beq_eq_false_iff_ne]; omega,Bool.and_false,cond_false,need_of (by simpa using n0)]
  show (bif (lookL (byOf sh) (seatOf x)).getD 0 != shlI 1 x.Ticket then some false else _)=_
  rw [bne]
  cases ((lookL (byOf sh) (seatOf x)).getD 0==shlI 1 x.Ticket) with
  | false=>rfl
  | true=>
    rw [Bool.not_true,cond_false,Bool.true_and]
    show (cutI sh 0 (k:Int)).bind _=_
    rw [cutI_eq (by omega) (by omega) (by omega),Option.bind_some,has_show _ _ (fun y=>clashN x y) (fun y _=>by
     unfold ticket_book_clear_1
     rw [clash_eq]; rfl) (by rw [List.length_drop,List.length_take]; omega),Option.bind_some,show ((0:Int)).toNat=0 from rfl,List.drop_zero,show ((k:Int)).toNat=k from rfl,wrI (by omega) (by omega),show (k:Int)+1=((k+1:Nat):Int) by omega]
    cases (sh.take k).any (fun y=>clashN x y) <;> rfl
 ·unfold ticket_book_clear_l1
  show (bif decide ((sh.length:Int) < (sh.length:Int)) then _ else _)=_
  rw [decide_eq_false (by omega),cond_false]
 rw [L]
 refine ⟨(List.range sh.length).all (fun k=>(sh[k]?).all fun x=>((lookL (byOf sh) (seatOf x)).getD 0==shlI 1 x.Ticket)&&!(sh.take k).any (fun y=>clashN x y)),?_,?_⟩
 ·generalize ((List.range sh.length).all fun k=>_)=A
  cases A <;> rfl
 ·rw [List.all_eq_true]
  constructor
  ·intro h
   rw [cl_iff]
   have key:∀ (i k:Nat),i < k→∀ x y,sh[i]? =some x→sh[k]? =some y→clashN y x=false:=by
    intro i k hik x y hx hy
    have hk:=(List.getElem?_eq_some_iff.1 hy).1
    have:=h k (List.mem_range.2 hk)
    rw [hy,Option.all_some,Bool.and_eq_true,Bool.not_eq_true',List.any_eq_false] at this
    have:=this.2 x (List.mem_of_getElem? (i:=i) (by rw [List.getElem?_take_of_lt hik]; exact hx))
    simpa using this
   intro x hx y hy
   obtain ⟨i,hi,rfl⟩:=List.getElem_of_mem hx
   obtain ⟨k,hk,rfl⟩:=List.getElem_of_mem hy
   rcases Nat.lt_trichotomy i k with hik | hik | hik
   ·rw [clashN_comm]; exact key i k hik _ _ (List.getElem?_eq_getElem hi) (List.getElem?_eq_getElem hk)
   ·subst hik
    rw [← Bool.not_eq_true,clashN_iff]
    rintro ⟨_,h⟩
    exact h ⟨fun _=>rfl,fun _=>rfl⟩
   ·exact key k i hik _ _ (List.getElem?_eq_getElem hk) (List.getElem?_eq_getElem hi)
  ·intro h k hk
   have hk:=List.mem_range.1 hk
   rw [List.getElem?_eq_getElem hk,Option.all_some,Bool.and_eq_true,Bool.not_eq_true',List.any_eq_false,beq_iff_eq]
   have hx:=P.sh _ (List.getElem_mem hk)
   have n0:=hx.n0; have nm:=hx.nm
   refine ⟨?_,fun y hy=>?_⟩
   ·obtain ⟨v,v8,hv,hb⟩:=B (seatOf sh[k])
    rw [hv,show sh[k].Ticket=((sh[k].Ticket.toNat:Nat):Int) by omega,shl1_nat _ (by omega)]
    congr 1
    refine Nat.eq_of_testBit_eq fun n=>?_
    rw [Bool.eq_iff_iff,hb,Nat.testBit_two_pow,decide_eq_true_eq]
    constructor
    ·rintro ⟨y,hy,hs,ht⟩
     have e1:y.Trip=sh[k].Trip:=congrArg Ticket_seat.trip_ hs
     have e2:y.Walker=sh[k].Walker:=congrArg Ticket_seat.walker_ hs
     have:=(h y hy _ (List.getElem_mem hk) e1).2 e2
     omega
    ·intro hn
     exact ⟨_,List.getElem_mem hk,rfl,by omega⟩
   ·have:=cl_iff.1 h _ (List.getElem_mem hk) y (List.mem_of_mem_take hy)
    simp [this]
theorem qOf_op {b:TicketBook} (V:VT b) {sh:List TicketShow}{bx:List TicketBox} (P:Pc b sh bx):OpT (qOf b sh bx):=by
 have S:=shown_ok V.t3 V.tn sh P.sh
 exact ⟨V.ta,V.t3,V.r5,V.f1,V.f20,V.tn,V.te,P.sn,P.bn,P.bx,S.1,S.2.1⟩
end Go.Proofs.YtafhljljfglfeaaGreatDoor
namespace Go.Proofs.YtafhljljfglfeaaGreatDoor
open Go Go.Fx
theorem ext3 {l m:List Int} (hl:l.length=3) (hm:m.length=3) (h:∀ i,i < 3→l.getD i 0=m.getD i 0):l=m:=by
 refine List.ext_getElem? fun i=>?_
 by_cases hi:i < 3
 ·have:=h i hi
  rw [List.getD_eq_getElem?_getD,List.getD_eq_getElem?_getD,List.getElem?_eq_getElem (by omega),List.getElem?_eq_getElem (by omega)] at this
  rw [List.getElem?_eq_getElem (by omega),List.getElem?_eq_getElem (by omega)]
  exact congrArg some this
 ·rw [List.getElem?_eq_none (by omega),List.getElem?_eq_none (by omega)]
theorem getD_set {l:List Int}{d i:Nat}{x:Int} (hd:d < l.length):(l.set d x).getD i 0=if d=i then x else l.getD i 0:=by
 rw [List.getD_eq_getElem?_getD,List.getElem?_set]
 by_cases h:d=i
 ·rw [if_pos h,if_pos h,if_pos hd]; rfl
 ·rw [if_neg h,if_neg h,List.getD_eq_getElem?_getD]
theorem paidN_congr {c u u' :List Int}{f n:Nat} (h:∀ i,f≤i→i < f+n→u.getD i 0=u'.getD i 0):paidN c u f n=paidN c u' f n:=by
 unfold paidN
 congr 1
 refine List.map_congr_left fun i hi=>?_
 have:=List.mem_range'_1.1 hi
 unfold pv
 rw [h i this.1 this.2]
theorem rightN_congr {q:Ticket_book} (Q:OpT q) {c u u' :List Int}{d:Nat} (h:∀ i,i≤d→u.getD i 0=u'.getD i 0):rightN q c u d=rightN q c u' d:=by
 unfold rightN
 rw [Bool.eq_iff_iff,List.all_eq_true,List.all_eq_true]
 refine forall_congr' fun x=>forall_congr' fun hx=>?_
 have B:=Q.bx x hx
 have f0:=B.f0; have ft:=B.ft
 by_cases hd:x.To=d
 ·unfold fitsN
  rw [paidN_congr (u:=u) (u' :=u') fun i h1 h2=>h i (by omega)]
 ·rw [show (x.To==(d:Int))=false by rw [beq_eq_false_iff_ne]; exact hd]
  simp
theorem okN_congr {q:Ticket_book} (Q:OpT q) {c u u' :List Int}{s d:Nat} (h:∀ i,i≤d→u.getD i 0=u'.getD i 0):okN q c u s d=okN q c u' s d:=by
 unfold okN
 rw [rightN_congr Q h]
theorem mem_uses {q:Ticket_book} (Q:OpT q) {t:Ticket_truth}:∀ (r:Nat) (c u:List Int) (d:Nat),u.length=3→d+r≤3→(t∈usesL q r c u d↔t.crossed_=c∧t.used_.length=3∧(∀ i,(i < d∨d+r≤i)→t.used_.getD i 0=u.getD i 0)∧∀ i,d≤i→i < d+r→∃ s:Nat,s < 8∧t.used_.getD i 0=(s:Int)∧okN q c t.used_ s i=true):=by
 intro r
 induction r with
 | zero=>
   intro c u d hu hd
   unfold usesL
   rw [List.mem_singleton]
   constructor
   ·rintro rfl
    exact ⟨rfl,hu,fun _ _=>rfl,fun i h1 h2=>by omega⟩
   ·rintro ⟨h1,h2,h3,_⟩
    obtain ⟨tc,tu⟩:=t
    simp only at h1 h2 h3
    rw [h1,ext3 h2 hu fun i _=>h3 i (by omega)]
 | succ r ih=>
   intro c u d hu hd
   unfold usesL
   rw [List.mem_flatMap]
   constructor
   ·rintro ⟨s,hs,ht⟩
    have hs:=(List.mem_range'_1.1 hs).2
    cases ho:okN q c (u.set d (s:Int)) s d with
    | false=>rw [ho] at ht; cases ht
    | true=>
      rw [ho,cond_true,ih c _ (d+1) (by rw [List.length_set]; exact hu) (by omega)] at ht
      obtain ⟨h1,h2,h3,h4⟩:=ht
      refine ⟨h1,h2,fun i hi=>?_,fun i h5 h6=>?_⟩
      ·rw [h3 i (by omega),getD_set (by omega),if_neg (by omega)]
      ·by_cases hid:i=d
       ·subst hid
        refine ⟨s,by omega,?_,?_⟩
        ·rw [h3 i (by omega),getD_set (by omega),if_pos rfl]
        ·rw [okN_congr Q (u' :=u.set i (s:Int)) fun j hj=>h3 j (by omega)]; exact ho
       ·exact h4 i (by omega) (by omega)
   ·rintro ⟨h1,h2,h3,h4⟩
    obtain ⟨s,hs,hv,ho⟩:=h4 d (Nat.le_refl _) (by omega)
    have hg:∀ j,j≤d→t.used_.getD j 0=(u.set d (s:Int)).getD j 0:=fun j hj=>by
     rw [getD_set (by omega)]
     split
     ·next h=>rw [← h]; exact hv
     ·exact h3 j (by omega)
    refine ⟨s,List.mem_range'_1.2 (by omega),?_⟩
    rw [← okN_congr Q hg,ho,cond_true,ih c _ (d+1) (by rw [List.length_set]; exact hu) (by omega)]
    refine ⟨h1,h2,fun i hi=>?_,fun i h5 h6=>h4 i (by omega) (by omega)⟩
    by_cases hid:i≤d
    ·exact hg i hid
    ·rw [getD_set (by omega),if_neg (by omega)]; exact h3 i (by omega)
theorem mem_cross {q:Ticket_book}{t:Ticket_truth}:∀ (r:Nat) (c:List Int) (d:Nat),c.length=3→d+r≤3→0≤q.TicketBook.Tally.Room→(t∈crossL q r c d↔∃ c' :List Int,c'.length=3∧(∀ i,(i < d∨d+r≤i)→c'.getD i 0=c.getD i 0)∧(∀ i,d≤i→i < d+r→0≤c'.getD i 0∧c'.getD i 0≤q.TicketBook.Tally.Room)∧canB q.TicketBook.Tally c' =true∧t∈usesL q q.TicketBook.Tally.Trips.toNat c' zer 0):=by
 intro r
 induction r with
 | zero=>
   intro c d hc hd hr
   unfold crossL
   constructor
   ·intro h
    cases hb:canB q.TicketBook.Tally c with
    | false=>rw [hb] at h; cases h
    | true=>rw [hb] at h; exact ⟨c,hc,fun _ _=>rfl,fun i h1 h2=>by omega,hb,h⟩
   ·rintro ⟨c',h1,h2,_,h3,h4⟩
    rw [ext3 h1 hc fun i _=>h2 i (by omega)] at h3 h4
    rw [h3]; exact h4
 | succ r ih=>
   intro c d hc hd hr
   unfold crossL
   rw [List.mem_flatMap]
   constructor
   ·rintro ⟨n,hn,ht⟩
    have hn:=(List.mem_range'_1.1 hn).2
    rw [ih _ (d+1) (by rw [List.length_set]; exact hc) (by omega) hr] at ht
    obtain ⟨c',h1,h2,h3,h4,h5⟩:=ht
    refine ⟨c',h1,fun i hi=>?_,fun i h6 h7=>?_,h4,h5⟩
    ·rw [h2 i (by omega),getD_set (by omega),if_neg (by omega)]
    ·by_cases hid:i=d
     ·subst hid
      rw [h2 i (by omega),getD_set (by omega),if_pos rfl]; omega
     ·exact h3 i (by omega) (by omega)
   ·rintro ⟨c',h1,h2,h3,h4,h5⟩
    have hb:=h3 d (Nat.le_refl _) (by omega)
    refine ⟨(c'.getD d 0).toNat,List.mem_range'_1.2 (by omega),?_⟩
    rw [ih _ (d+1) (by rw [List.length_set]; exact hc) (by omega) hr]
    refine ⟨c',h1,fun i hi=>?_,fun i h6 h7=>h3 i (by omega) (by omega),h4,h5⟩
    rw [getD_set (by omega)]
    split
    ·next h=>rw [← h]; omega
    ·exact h2 i (by omega)
def Use (b:TicketBook) (s d:Nat):Prop:=∀ n:Nat,s.testBit n=true→∃ x,b.Tickets[n]? =some x∧x.From≤d∧(d:Int)≤x.To
structure Tr (b:TicketBook) (sh:List TicketShow) (bx:List TicketBox) (t:Ticket_truth):Prop where
 cl:Cl sh
 c3:t.crossed_.length=3
 u3:t.used_.length=3
 cr:∀ d:Nat,(d:Int) < b.Tally.Trips→0≤t.crossed_.getD d 0∧t.crossed_.getD d 0≤b.Tally.Room
 cz:∀ d:Nat,b.Tally.Trips≤d→t.crossed_.getD d 0=0
 uz:∀ d:Nat,b.Tally.Trips≤d→t.used_.getD d 0=0
 ub:∀ d:Nat,0≤t.used_.getD d 0∧t.used_.getD d 0 < 8
 us:∀ d:Nat,(d:Int) < b.Tally.Trips→Use b (t.used_.getD d 0).toNat d
 pc:∀ d:Nat,(d:Int) < b.Tally.Trips→popN (t.used_.getD d 0).toNat≤t.crossed_.getD d 0
 sw:∀ x∈sh,(t.used_.getD x.Trip.toNat 0).toNat.testBit x.Ticket.toNat=true
 can:Fit b.Tally no (pre (t.crossed_.take b.Tally.Trips.toNat))
 bx:∀ x∈bx,fitsN b.Fare t.crossed_ t.used_ x=true
theorem valid_iff {b:TicketBook} (V:VT b) {sh:List TicketShow}{bx:List TicketBox}{s d:Nat} (hs:s < 8):validN (qOf b sh bx) s d=true↔Use b s d:=by
 have tn:=V.tn
 unfold validN Use
 show ((List.range b.Tickets.length).all (fun k=>(b.Tickets[k]?).all fun x=>!s.testBit k||inB d x.From x.To)&&s / 2 ^ b.Tickets.length==0)=true↔_
 rw [Bool.and_eq_true,List.all_eq_true,beq_iff_eq]
 constructor
 ·rintro ⟨h1,h2⟩ n hn
  have hlt:n < b.Tickets.length:=by
   refine Nat.lt_of_not_le fun hle=>?_
   have hp:0 < 2 ^ b.Tickets.length:=Nat.two_pow_pos _
   have h3:s < 2 ^ b.Tickets.length:=by
    rcases Nat.div_eq_zero_iff.1 h2 with h | h
    ·omega
    ·exact h
   have:s < 2 ^ n:=Nat.lt_of_lt_of_le h3 (Nat.pow_le_pow_right (by omega) hle)
   rw [Nat.testBit_lt_two_pow this] at hn
   cases hn
  have:=h1 n (List.mem_range.2 hlt)
  rw [List.getElem?_eq_getElem hlt,Option.all_some,hn,Bool.not_true,Bool.false_or,inB_iff] at this
  exact ⟨_,List.getElem?_eq_getElem hlt,this⟩
 ·intro h
  refine ⟨fun k hk=>?_,?_⟩
  ·have hk:=List.mem_range.1 hk
   rw [List.getElem?_eq_getElem hk,Option.all_some]
   cases hb:s.testBit k with
   | false=>rfl
   | true=>
     obtain ⟨x,hx,h1⟩:=h k hb
     rw [List.getElem?_eq_getElem hk] at hx
     cases hx
     rw [Bool.not_true,Bool.false_or,inB_iff]
     exact h1
  ·refine Nat.div_eq_of_lt (Nat.lt_pow_two_of_testBit s fun n hn=>?_)
   refine Bool.eq_false_iff.2 fun hb=>?_
   obtain ⟨x,hx,_⟩:=h n hb
   have:=(List.getElem?_eq_some_iff.1 hx).1
   omega
theorem Tr.small {b:TicketBook} (V:VT b) {sh:List TicketShow}{bx:List TicketBox}{t:Ticket_truth} (h:Tr b sh bx t):Small t.crossed_ t.used_:=by
 refine ⟨h.c3,h.u3,fun d=>?_,h.ub⟩
 by_cases hd:(d:Int) < b.Tally.Trips
 ·have:=h.cr d hd; have:=V.r5; omega
 ·rw [h.cz d (by omega)]; omega
theorem mem_truths {b:TicketBook} (V:VT b) {sh:List TicketShow}{bx:List TicketBox} (P:Pc b sh bx) {cl:Bool} (hc:cl=true↔Cl sh) {t:Ticket_truth}:t∈truths (qOf b sh bx) cl↔Tr b sh bx t:=by
 have Q:=qOf_op V P
 have t1:=V.ta.t1; have t3:=V.t3
 have S:=shown_ok V.t3 V.tn sh P.sh
 have hz:∀ i,zer.getD i 0=0:=fun d=>by
  unfold zer; rw [List.getD_eq_getElem?_getD,List.getElem?_replicate]; split <;> rfl
 unfold truths
 constructor
 ·intro h
  cases cl with
  | false=>cases h
  | true=>
    rw [cond_true,mem_cross _ _ _ rfl (by show 0+b.Tally.Trips.toNat≤3; omega) V.ta.r0] at h
    obtain ⟨c,h1,h2,h3,h4,h5⟩:=h
    rw [mem_uses Q _ _ _ _ rfl (by show 0+b.Tally.Trips.toNat≤3; omega)] at h5
    obtain ⟨h6,h7,h8,h9⟩:=h5
    subst h6
    have h2:∀ i,b.Tally.Trips.toNat≤i→t.crossed_.getD i 0=0:=fun i hi=>(h2 i (by right; show 0+b.Tally.Trips.toNat≤i; omega)).trans (hz i)
    have h8:∀ i,b.Tally.Trips.toNat≤i→t.used_.getD i 0=0:=fun i hi=>(h8 i (by right; show 0+b.Tally.Trips.toNat≤i; omega)).trans (hz i)
    have h3:∀ i,i < b.Tally.Trips.toNat→0≤t.crossed_.getD i 0∧t.crossed_.getD i 0≤b.Tally.Room:=fun i hi=>h3 i (Nat.zero_le _) (by show i < 0+b.Tally.Trips.toNat; omega)
    have h9:∀ i,i < b.Tally.Trips.toNat→∃ s:Nat,s < 8∧t.used_.getD i 0=(s:Int)∧okN (qOf b sh bx) t.crossed_ t.used_ s i=true:=fun i hi=>h9 i (Nat.zero_le _) (by show i < 0+b.Tally.Trips.toNat; omega)
    have h9' :∀ i,i < b.Tally.Trips.toNat→(0≤t.used_.getD i 0∧t.used_.getD i 0 < 8)∧Use b (t.used_.getD i 0).toNat i∧(∀ n:Nat,((shownOf sh).getD i 0).toNat.testBit n=true→(t.used_.getD i 0).toNat.testBit n=true)∧popN (t.used_.getD i 0).toNat≤t.crossed_.getD i 0∧rightN (qOf b sh bx) t.crossed_ t.used_ i=true:=fun i hi=>by
     obtain ⟨s,hs,hv,ho⟩:=h9 i hi
     unfold okN at ho
     simp only [Bool.and_eq_true,beq_iff_eq,decide_eq_true_eq] at ho
     rw [hv,Int.toNat_natCast]
     exact ⟨by omega,(valid_iff V hs).1 ho.1.1.1,and_sub.1 ho.1.1.2,ho.1.2,ho.2⟩
    refine ⟨hc.1 rfl,h1,h7,fun d hd=>h3 d (by omega),fun d hd=>h2 d (by omega),fun d hd=>h8 d (by omega),fun d=>?_,fun d hd=>(h9' d (by omega)).2.1,fun d hd=>(h9' d (by omega)).2.2.2.1,fun x hx=>?_,((canB_eq V.ta (tru_of V.ta t3 h1 h3)).2).1 h4,fun x hx=>?_⟩
    ·by_cases hd:d < b.Tally.Trips.toNat
     ·exact (h9' d hd).1
     ·rw [h8 d (by omega)]; omega
    ·have B:=P.sh x hx
     have:=B.t0; have:=B.tT; have:=B.n0
     exact (h9' x.Trip.toNat (by omega)).2.2.1 _ ((S.2.2 _ _).2 ⟨x,hx,by omega,by omega⟩)
    ·have B:=P.bx x hx
     have:=B.f0; have:=B.ft; have:=B.tT
     have:=List.all_eq_true.1 (h9' x.To.toNat (by omega)).2.2.2.2 x hx
     rw [show (x.To==((x.To.toNat:Nat):Int))=true by rw [beq_iff_eq]; omega,Bool.not_true,Bool.false_or] at this
     exact this
 ·intro h
  rw [hc.2 h.cl,cond_true,mem_cross _ _ _ rfl (by show 0+b.Tally.Trips.toNat≤3; omega) V.ta.r0]
  have hcr:∀ i,i < b.Tally.Trips.toNat→0≤t.crossed_.getD i 0∧t.crossed_.getD i 0≤b.Tally.Room:=fun i hi=>h.cr i (by omega)
  refine ⟨t.crossed_,h.c3,fun i hi=>?_,fun i _ hi=>hcr i (by have:i < 0+b.Tally.Trips.toNat:=hi; omega),(canB_eq V.ta (tru_of V.ta t3 h.c3 hcr)).2.2 h.can,?_⟩
  ·have hi:i < 0∨0+b.Tally.Trips.toNat≤i:=hi
   rw [hz]; exact h.cz i (by omega)
  rw [mem_uses Q _ _ _ _ rfl (by show 0+b.Tally.Trips.toNat≤3; omega)]
  refine ⟨rfl,h.u3,fun i hi=>?_,fun i _ hi=>?_⟩
  ·have hi:i < 0∨0+b.Tally.Trips.toNat≤i:=hi
   rw [hz]; exact h.uz i (by omega)
  ·have hi:i < 0+b.Tally.Trips.toNat:=hi
   have hu:=h.ub i
   refine ⟨(t.used_.getD i 0).toNat,by omega,by omega,?_⟩
   unfold okN
   simp only [Bool.and_eq_true,beq_iff_eq,decide_eq_true_eq]
   refine ⟨⟨⟨(valid_iff V (by omega)).2 (h.us i (by omega)),and_sub.2 fun n hn=>?_⟩,h.pc i (by omega)⟩,?_⟩
   ·obtain ⟨x,hx,e1,e2⟩:=(S.2.2 i n).1 hn
    have:=h.sw x hx
    rw [show x.Trip.toNat=i by omega,show x.Ticket.toNat=n by omega] at this
    exact this
   ·refine List.all_eq_true.2 fun x hx=>?_
    have:=h.bx x hx
    rw [show fitsN (qOf b sh bx).TicketBook.Fare t.crossed_ t.used_ x=true from this,Bool.or_true]
end Go.Proofs.YtafhljljfglfeaaGreatDoor
namespace Go.Proofs.YtafhljljfglfeaaGreatDoor
open Go Go.Fx
def CanT (b:TicketBook) (sh:List TicketShow) (bx:List TicketBox):Prop:=∃ t,Tr b sh bx t
theorem isTrueT_eq {b:TicketBook} (V:VT b) {sh:List TicketShow}{bx:List TicketBox} (P:Pc b sh bx):∃ r,ticket_book_isTrue (qOf b sh bx)=some r∧(r=true↔CanT b sh bx):=by
 obtain ⟨cl,hc,hi⟩:=clear_eq V P
 unfold ticket_book_isTrue ticket_book_truths
 rw [Option.bind_some,truths_eq _ (qOf_op V P) hc,foldY_find ticket_book_isTrue_r1 (fun _=>true) false true (truths (qOf b sh bx) cl) (fun _ _=>rfl)]
 have hm:=fun t=>mem_truths V P hi (t:=t)
 unfold CanT
 cases hL:truths (qOf b sh bx) cl with
 | nil=>
   refine ⟨false,rfl,?_⟩
   simp only [Bool.false_eq_true,false_iff]
   rintro ⟨t,ht⟩
   have:=(hm t).2 ht
   rw [hL] at this; cases this
 | cons x l=>
   refine ⟨true,rfl,?_⟩
   simp only [true_iff]
   exact ⟨x,(hm x).1 (by rw [hL]; exact List.mem_cons_self ..)⟩
theorem outS_no (b:TicketBook):outS b (fun _=>false)=b.Shows:=kept_all _
theorem outX_no (b:TicketBook):outX b (fun _=>false)=b.Boxes:=kept_all _
theorem nobodyT {b:TicketBook} (V:VT b):ticket_opened b (Ticket_choice.mk (fun y28=>ticket_nothing_1 y28))=some (qOf b b.Shows b.Boxes):=by
 have:=openedT_eq V (Ticket_choice.mk (fun y28=>ticket_nothing_1 y28)) (fun _=>false) (fun k _=>rfl)
 rw [outS_no,outX_no] at this
 exact this
def Can (b:TicketBook):Prop:=CanT b b.Shows b.Boxes
theorem askedT {b:TicketBook} (V:VT b):∃ e,ticket_asked b true=some (qOf b b.Shows b.Boxes,e)∧((e=0∧Can b)∨(e=102∧¬Can b)):=by
 obtain ⟨r,hr,hi⟩:=isTrueT_eq V V.pc
 refine ⟨if r=true then 0 else 102,?_,?_⟩
 ·unfold ticket_asked
  rw [checkT_ok V,Option.bind_some]
  simp only [bne_self_eq_false,cond_false,Bool.not_true]
  unfold ticket_nothing
  rw [Option.bind_some,nobodyT V,Option.bind_some]
  show (ticket_book_isTrue (qOf b b.Shows b.Boxes)).bind _=_
  rw [hr,Option.bind_some]
  cases r <;> rfl
 ·cases r
  ·right; exact ⟨rfl,fun h=>by simpa using hi.2 h⟩
  ·left; exact ⟨rfl,hi.1 rfl⟩
theorem askedF {b:TicketBook} (V:VT b):∃ x,ticket_asked b false=some (x,101):=by
 unfold ticket_asked
 rw [checkT_ok V,Option.bind_some]
 exact ⟨_,rfl⟩
theorem len_flat {α β:Type}{l:List α}{f:α→List β}{k:Nat} (h:∀ x∈l,(f x).length≤k):(l.flatMap f).length≤l.length*k:=by
 induction l with
 | nil=>simp
 | cons x l ih=>
   rw [List.flatMap_cons,List.length_append,List.length_cons,Nat.add_mul,Nat.one_mul]
   have h1:=h x (List.mem_cons_self ..)
   have h2:=ih fun y hy=>h y (List.mem_cons_of_mem _ hy)
   omega
structure SpT (b:TicketBook) (sh:List TicketShow) (bx:List TicketBox) (g:Ticket_truth→Int) (s:Span):Prop where
 loE:∃ t,Tr b sh bx t∧g t=s.Low
 hiE:∃ t,Tr b sh bx t∧g t=s.High
 all:∀ t,Tr b sh bx t→s.Low≤g t∧g t≤s.High
theorem SpT.le {b:TicketBook}{sh:List TicketShow}{bx:List TicketBox}{g:Ticket_truth→Int}{s:Span} (S:SpT b sh bx g s):s.Low≤s.High:=by
 obtain ⟨t,ht,_⟩:=S.loE
 have:=S.all t ht; omega
structure Lst (n:Nat) (p:Nat→Prop) (l:List Int):Prop where
 clm:Clm l n
 mem:∀ k:Nat,(k:Int)∈l↔k < n∧p k
theorem fitsT_no {b:TicketBook} (V:VT b) {x:TicketBox} (h:boxB b.Tally.Trips x=false):ticket_Fits b x=some (false,101):=by
 obtain ⟨y,hy⟩:=askedF V
 unfold ticket_Fits
 rw [isBox_eq b V.ta.t1 V.ta.t8,Option.bind_some,h,hy]; rfl
theorem fits_law {b:TicketBook} (V:VT b) {x:TicketBox} (h:Box b.Tally.Trips x):∃ r e,ticket_Fits b x=some (r,e)∧((e=0∧Can b∧(r=true↔∃ t,Tr b b.Shows b.Boxes t∧fitsN b.Fare t.crossed_ t.used_ x=true))∨(e=102∧r=false∧¬Can b)):=by
 obtain ⟨e,he,hc⟩:=askedT V
 unfold ticket_Fits
 rw [isBox_eq b V.ta.t1 V.ta.t8,Option.bind_some,box_iff.2 h,he,Option.bind_some]
 rcases hc with ⟨rfl,C⟩ | ⟨rfl,C⟩
 ·obtain ⟨cl,hc,hi⟩:=clear_eq V V.pc
  have hm:=fun t=>mem_truths V V.pc hi (t:=t)
  have F:=foldY_find (ticket_Fits_r1 (qOf b b.Shows b.Boxes,0) x) (fun t=>fitsN b.Fare t.crossed_ t.used_ x) false true (truths (qOf b b.Shows b.Boxes) cl) (fun t ht=>by
   unfold ticket_Fits_r1
   have:=fits_eq (qOf b b.Shows b.Boxes) V.f1 V.f20 (((hm t).1 ht).small V) V.t3 h
   rw [show ticket_book_fits (qOf b b.Shows b.Boxes,(0:Int)).1 t x=_ from this,Option.bind_some]
   show (bif fitsN b.Fare t.crossed_ t.used_ x then _ else _)=_
   cases fitsN b.Fare t.crossed_ t.used_ x <;> rfl)
  refine ⟨(truths (qOf b b.Shows b.Boxes) cl).any fun t=>fitsN b.Fare t.crossed_ t.used_ x,0,?_,.inl ⟨rfl,C,?_⟩⟩
  ·simp only [bne_self_eq_false,cond_false]
   unfold ticket_book_truths
   rw [Option.bind_some,truths_eq _ (qOf_op V V.pc) hc,F]
   cases (truths (qOf b b.Shows b.Boxes) cl).any fun t=>fitsN b.Fare t.crossed_ t.used_ x <;> rfl
  ·rw [List.any_eq_true]
   exact exists_congr fun x=>and_congr_left fun _=>hm x
 ·exact ⟨false,102,rfl,.inr ⟨rfl,rfl,C⟩⟩
end Go.Proofs.YtafhljljfglfeaaGreatDoor
namespace Go.Proofs.YtafhljljfglfeaaGreatDoor
open Go Go.Fx
end Go.Proofs.YtafhljljfglfeaaGreatDoor
namespace Go.Proofs.YtafhljljfglfeaaGreatDoor
open Go Go.Fx
theorem sumOf_eq {l:List Int} (hl:l.length≤8) (h:∀ n∈l,0≤n∧n≤60):B_SumOf l=some l.sum:=sum_eq hl h
theorem span_eq {T:Int}{x:TallyCount} (h:Cnt T x):ref05_span x=some ⟨leastV x,mostV x⟩:=by
 have:=h.prod; have:=h.v0; have:=h.v30; have:=h.d0; have:=h.d30
 unfold ref05_span B_Range leastV mostV
 rw [wrI (x:=x.Told*x.Unit) (by omega) (by omega),wrI (by omega) (by omega),wrI (by omega) (by omega)]
 rfl
theorem rtrip_eq (b:TallyBook) (hb:-9223372036854775807≤b.Trips∧b.Trips≤9223372036854775807) (x:Int):ref05_isTrip b x=some (inB x 0 (b.Trips - 1)):=by
 unfold ref05_isTrip
 rw [wrI (by omega) (by omega),inside_eq]; rfl
theorem rcount_eq (b:TallyBook) (hb:-9223372036854775807≤b.Trips∧b.Trips≤9223372036854775807) (x:TallyCount):ref05_isCount b x=some (cntB b.Trips x):=by
 have e:cntB b.Trips x=(inB x.Who 0 2&&(inB x.From 0 (b.Trips - 1)&&(inB x.To 0 (b.Trips - 1)&&(decide (x.From≤x.To)&&(inB x.Told 0 99&&(inB x.Unit 1 20&&(inB x.Under 0 30&&(inB x.Over 0 30&&((x.Who != 1)||(x.Over==0)))))))))):=by
  rw [Bool.eq_iff_iff]
  unfold cntB tripsB
  simp only [Bool.and_eq_true,inB_iff,decide_eq_true_eq]
  constructor
  ·rintro ⟨⟨⟨⟨⟨⟨h1,h2,h3⟩,h4⟩,h5⟩,h6⟩,h7⟩,h8⟩
   exact ⟨h1,⟨by omega,by omega⟩,⟨by omega,by omega⟩,h2.2,h4,h5,h6,h7,h8⟩
  ·rintro ⟨h1,h2,h3,h4,h5,h6,h7,h8,h9⟩
   exact ⟨⟨⟨⟨⟨⟨h1,⟨by omega,by omega⟩,by omega⟩,h5⟩,h6⟩,h7⟩,h8⟩,h9⟩
 unfold ref05_isCount
 rw [e]
 simp only [inside_eq,rtrip_eq b hb,Option.bind_some]
 cases inB x.Who 0 2 <;> cases inB x.From 0 (b.Trips - 1) <;> cases inB x.To 0 (b.Trips - 1) <;> cases decide (x.From≤x.To) <;> cases inB x.Told 0 99 <;> cases inB x.Unit 1 20 <;> cases inB x.Under 0 30 <;> cases inB x.Over 0 30 <;> cases (x.Who != 1) <;> rfl
theorem rcheck_eq (b:TallyBook) (hl:b.Counts.length≤9223372036854775807):ref05_Check b=some (bif valB b then 0 else 50):=by
 have loop:∀ ok:Bool,(ok=true→-9223372036854775807≤b.Trips∧b.Trips≤9223372036854775807)→loopF (ref05_Check_l4 b) big (ok,0)=some (bif ok&&cntsB b.Trips b.Counts then 0 else 50):=by
  intro ok hok
  refine loopF_spec (fun s:Bool×Int=>0≤s.2∧s.2≤b.Counts.length∧(s.1=true→-9223372036854775807≤b.Trips∧b.Trips≤9223372036854775807)) (fun s=>b.Counts.length - s.2.toNat) (fun s=>bif s.1&&cntsB b.Trips (b.Counts.drop s.2.toNat) then 0 else 50) ?_ big (ok,0) ⟨by simp,by simp,hok⟩ (by unfold big; simp; omega)
  rintro rec ⟨ok',i⟩ ⟨h0,h1,h2⟩ ih
  simp only at h0 h1 h2 ih ⊢
  unfold ref05_Check_l4 ref05_Check_j3
  simp only
  cases ok' with
  | false=>rfl
  | true=>
    rw [cond_true]
    by_cases hi:i < b.Counts.length
    ·rw [decide_eq_true hi,cond_true]
     obtain ⟨x,hx,hx'⟩:=getI_lt h0 hi
     have hd:=drop_get hx'
     have e:(i+1).toNat=i.toNat+1:=by omega
     rw [hx,Option.bind_some,rcount_eq b (h2 rfl),Option.bind_some,hd,wrI (x:=i+1) (by omega) (by omega),ih _ ⟨by simp; omega,by simp; omega,fun _=>h2 rfl⟩ (by simp; omega)]
     simp only [e,cntsB,List.all_cons,Bool.true_and]
    ·rw [decide_eq_false hi,cond_false,show b.Counts.drop i.toNat=[] from List.drop_eq_nil_of_le (by omega)]
     rfl
 unfold ref05_Check ref05_Check_j5 valB
 simp only [inside_eq,Option.bind_some]
 have e1:decide ((b.Counts.length:Int)≤8)=decide (b.Counts.length≤8):=by
  rw [decide_eq_decide]; omega
 cases h1:inB b.Trips 1 8
 ·rw [cond_false,loop false (fun h=>by cases h)]; simp
 ·have:=inB_iff.1 h1
  rw [cond_true]
  cases h2:inB b.Room 0 60
  ·rw [cond_false,loop false (fun h=>by cases h)]; simp
  ·rw [cond_true,loop _ (fun _=>by omega)]; simp
theorem own_eq {b:TallyBook} (h:b.Counts.length*56≤140737488355328):B_OwnTally b=some b:=by
 unfold B_OwnTally B_OwnCounts
 rw [need_of (by unfold fitsL; simpa using h)]; rfl
theorem kept_eq (b:TallyBook) (hl:b.Counts.length≤9223372036854775806):B_KeptTally b b=some true:=by
 have loop:loopF (B_KeptCounts_l1 b.Counts b.Counts) big (true,0)=some true:=by
  refine loopF_spec (fun s:Bool×Int=>s.1=true∧0≤s.2∧s.2≤b.Counts.length) (fun s=>b.Counts.length - s.2.toNat) (fun _=>true) ?_ big (true,0) ⟨rfl,by simp,by simp⟩ (by unfold big; simp; omega)
  rintro rec ⟨_,i⟩ ⟨rfl,h0,h1⟩ ih
  unfold B_KeptCounts_l1
  simp only at h0 h1 ih ⊢
  rw [cond_true]
  by_cases hi:i < b.Counts.length
  ·rw [decide_eq_true hi,cond_true]
   obtain ⟨x,hx,_⟩:=getI_lt h0 hi
   rw [hx,Option.bind_some,Option.bind_some,wrI (x:=i+1) (by omega) (by omega)]
   simp only [beq_self_eq_true,Bool.and_self]
   exact ih _ ⟨rfl,by simp only; omega,by simp only; omega⟩ (by simp only; omega)
  ·rw [decide_eq_false hi,cond_false]
 unfold B_KeptTally B_KeptCounts
 simp only [beq_self_eq_true,cond_true,loop,Option.bind_some]
theorem rcheck_ok {b:TallyBook} (h:Val b):ref05_Check b=some 0:=by rw [rcheck_eq b (by have:=h.l8; omega),val_iff.2 h]; rfl
theorem check_bad {b:TallyBook} (hl:b.Counts.length≤9223372036854775807) (h:valB b=false):tally_Check b=some 50:=by rw [check_eq b hl,h]; rfl
theorem rcheck_bad {b:TallyBook} (hl:b.Counts.length≤9223372036854775807) (h:valB b=false):ref05_Check b=some 50:=by rw [rcheck_eq b hl,h]; rfl
theorem can_same (b:TallyBook) (hl:b.Counts.length≤9223372036854775807) (u:List Int):∃ r,tally_Can b u=some r∧ref05_Can b u=some r:=by
 cases hv:valB b
 ·refine ⟨(false,50),?_,?_⟩
  ·unfold tally_Can; rw [check_bad hl hv]; rfl
  ·unfold ref05_Can; rw [rcheck_bad hl hv]; rfl
 have V:=val_iff.1 hv
 have t8:=V.t8; have t1:=V.t1; have l8:=V.l8
 by_cases hlen:(u.length:Int)=b.Trips
 case neg=>
  refine ⟨(false,51),?_,?_⟩
  ·unfold tally_Can
   rw [check_ok V,Option.bind_some]
   simp only [bne_self_eq_false,cond_false]
   rw [show ((u.length:Int) != b.Trips)=true by simpa using hlen]; rfl
  ·unfold ref05_Can
   rw [rcheck_ok V,Option.bind_some]
   simp only [bne_self_eq_false,cond_false]
   rw [show ((u.length:Int) != b.Trips)=true by simpa using hlen]; rfl
 by_cases hin:∀ x∈u,0≤x∧x≤b.Room
 case neg=>
  refine ⟨(false,0),?_,?_⟩
  ·unfold tally_Can
   rw [check_ok V,Option.bind_some]
   simp only [bne_self_eq_false,cond_false]
   rw [show ((u.length:Int) != b.Trips)=false by simp [hlen],cond_false]
   refine loopF_spec (body:=tally_Can_l3 u b) (fun z:Int=>∃ k:Nat,z=k∧k≤u.length∧∀ j x,j < k→u[j]? =some x→0≤x∧x≤b.Room) (fun z=>u.length - z.toNat) (fun _=>(false,0)) ?_ big 0 ⟨0,rfl,Nat.zero_le _,fun j x hj=>absurd hj (Nat.not_lt_zero j)⟩ (by unfold big; simp; omega)
   rintro rec z ⟨k,rfl,hk,hq⟩ ih
   unfold tally_Can_l3
   by_cases hlt:k < u.length
   ·rw [decide_eq_true (by omega),cond_true,getI_nat,List.getElem?_eq_getElem hlt,Option.bind_some]
    have hx:=List.getElem?_eq_getElem hlt
    generalize u[k]=x at hx
    rw [within_eq,Option.bind_some]
    cases hi:inB x 0 b.Room
    ·rfl
    ·rw [Bool.not_true,cond_false,wrI (by omega) (by omega)]
     refine ih _ ⟨k+1,by simp,by omega,fun j y hj hy=>?_⟩ (by (try simp only); omega)
     by_cases e:j=k
     ·subst e; rw [hx] at hy; cases hy; exact inB_iff.1 hi
     ·exact hq j y (by omega) hy
   ·exfalso
    refine hin fun x hx=>?_
    obtain ⟨j,hj,rfl⟩:=List.getElem_of_mem hx
    exact hq j _ (by omega) (List.getElem?_eq_getElem hj)
  ·unfold ref05_Can
   rw [rcheck_ok V,Option.bind_some]
   simp only [bne_self_eq_false,cond_false]
   rw [show ((u.length:Int) != b.Trips)=false by simp [hlen],cond_false]
   refine loopF_spec (body:=ref05_Can_l3 u b) (fun s:Bool×Int=>∃ k:Nat,s.2=k∧k≤u.length∧(s.1=true→∀ j x,j < k→u[j]? =some x→0≤x∧x≤b.Room)) (fun s=>u.length - s.2.toNat) (fun _=>(false,0)) ?_ big (true,0) ⟨0,rfl,Nat.zero_le _,fun _ j x hj=>absurd hj (Nat.not_lt_zero j)⟩ (by unfold big; simp; omega)
   rintro rec ⟨ok,z⟩ ⟨k,rfl,hk,hq⟩ ih
   simp only at hq
   unfold ref05_Can_l3
   simp only
   by_cases hlt:k < u.length
   ·rw [decide_eq_true (by omega),cond_true,wrI (by omega) (by omega)]
    cases ok
    ·rw [cond_false]
     exact ih _ ⟨k+1,by simp,by omega,fun h=>by cases h⟩ (by (try simp only); omega)
    ·rw [cond_true,getI_nat,List.getElem?_eq_getElem hlt,Option.bind_some]
     have hx:=List.getElem?_eq_getElem hlt
     generalize u[k]=x at hx
     rw [inside_eq,Option.bind_some]
     refine ih _ ⟨k+1,by simp,by omega,fun h j y hj hy=>?_⟩ (by (try simp only); omega)
     by_cases e:j=k
     ·subst e; rw [hx] at hy; cases hy; exact inB_iff.1 h
     ·exact hq rfl j y (by omega) hy
   ·rw [decide_eq_false (by omega),cond_false]
    cases ok
    ·have hb:big=18446744073709551615+1:=by decide
     rw [hb,loopF_succ]; rfl
    ·exfalso
     refine hin fun x hx=>?_
     obtain ⟨j,hj,rfl⟩:=List.getElem_of_mem hx
     exact hq rfl j _ (by omega) (List.getElem?_eq_getElem hj)
 have hu:Tru b u:=⟨hlen,hin⟩
 obtain ⟨r,h1,h2⟩:=can_law V hu
 refine ⟨(r,0),h1,?_⟩
 unfold ref05_Can
 rw [rcheck_ok V,Option.bind_some]
 simp only [bne_self_eq_false,cond_false]
 rw [show ((u.length:Int) != b.Trips)=false by simp [hlen],cond_false]
 have second:loopF (ref05_Can_l2 b u) big (true,0)=some (r,0):=by
  obtain ⟨p,hp,hp0,hpi⟩:∃ p,loopF (ref05_Can_l2 b u) big (true,0)=some p∧p.2=0∧(p.1=true↔Fit b no (pre u)):=by
   refine loopF_inv (body:=ref05_Can_l2 b u) (fun s:Bool×Int=>∃ k:Nat,s.2=k∧k≤b.Counts.length∧(s.1=true↔∀ j x,j < k→b.Counts[j]? =some x→CntQ x (pre u))) (fun s=>b.Counts.length - s.2.toNat) (fun p=>p.2=0∧(p.1=true↔Fit b no (pre u))) ?_ big (true,0) ⟨0,rfl,Nat.zero_le _,by simp⟩ (by unfold big; simp; omega)
   rintro rec ⟨ok,z⟩ ⟨k,rfl,hk,hq⟩ ih
   simp only at hq
   unfold ref05_Can_l2
   simp only
   cases ok
   ·rw [cond_false]
    refine ⟨_,rfl,rfl,?_⟩
    simp only [Bool.false_eq_true,false_iff]
    intro h
    have:=hq.2 fun j x _ hx=>h.2 j x hx rfl
    cases this
   ·rw [cond_true]
    by_cases hlt:k < b.Counts.length
    ·rw [decide_eq_true (by omega),cond_true,getI_nat,List.getElem?_eq_getElem hlt,Option.bind_some]
     have hx:=List.getElem?_eq_getElem hlt
     generalize b.Counts[k]=x at hx
     have C:=cnt_iff.1 (V.cs x (List.mem_of_getElem? hx))
     have f0:=C.f0; have ft:=C.ft; have tT:=C.tT; have r60:=V.r60
     rw [span_eq C,Option.bind_some,wrI (x:=x.To+1) (by omega) (by omega),cutI_eq (by omega) (by omega) (by omega),Option.bind_some,sumOf_eq (by simp; omega) (fun n hn=>by have:=hu.bnd n (mem_cut hn); omega),Option.bind_some]
     unfold B_Contains
     rw [inside_eq,Option.bind_some,Option.bind_some,wrI (by omega) (by omega),pre_cut (by omega)]
     refine ih _ ⟨k+1,by simp,by omega,?_⟩ (by (try simp only); omega)
     simp only
     rw [inB_iff]
     constructor
     ·intro h j y hj hy
      by_cases e:j=k
      ·subst e; rw [hx] at hy; cases hy; exact h
      ·exact hq.1 rfl j y (by omega) hy
     ·intro h; exact h k x (by omega) hx
    ·rw [decide_eq_false (by omega),cond_false]
     refine ⟨_,rfl,rfl,?_⟩
     simp only [true_iff]
     exact ⟨hu.steps,fun j x hx _=>hq.1 rfl j x (by have:=(List.getElem?_eq_some_iff.1 hx).1; omega) hx⟩
  have e1:p.1=r:=by rw [Bool.eq_iff_iff,hpi,h2]
  obtain ⟨p1,p2⟩:=p
  simp only at hp0 e1
  rw [hp,hp0,e1]
 refine loopF_spec (body:=ref05_Can_l3 u b) (fun s:Bool×Int=>s.1=true∧∃ k:Nat,s.2=k∧k≤u.length) (fun s=>u.length - s.2.toNat) (fun _=>(r,0)) ?_ big (true,0) ⟨rfl,0,rfl,Nat.zero_le _⟩ (by unfold big; simp; omega)
 rintro rec ⟨_,z⟩ ⟨rfl,k,rfl,hk⟩ ih
 unfold ref05_Can_l3
 simp only
 by_cases hlt:k < u.length
 ·rw [decide_eq_true (by omega),cond_true,cond_true,getI_nat,List.getElem?_eq_getElem hlt,Option.bind_some]
  have hx:=List.getElem?_eq_getElem hlt
  rw [inside_eq,Option.bind_some,inB_iff.2 (hu.bnd _ (List.mem_of_getElem? hx)),wrI (by omega) (by omega)]
  exact ih _ ⟨rfl,k+1,by simp,by omega⟩ (by (try simp only); omega)
 ·rw [decide_eq_false (by omega),cond_false,second]
theorem alike_same (l:List Int) (hl:l.length≤9223372036854775806):B_Alike l l=some true:=by
 unfold B_Alike
 rw [bne_self_eq_false,cond_false]
 refine loopF_spec (fun i:Int=>0≤i∧i≤l.length) (fun i=>l.length - i.toNat) (fun _=>true) ?_ big 0 ⟨by omega,by omega⟩ (by unfold big; simp; omega)
 rintro rec i ⟨h0,h1⟩ ih
 unfold B_Alike_l1
 by_cases hi:i < l.length
 ·rw [decide_eq_true hi,cond_true]
  obtain ⟨x,hx,_⟩:=getI_lt h0 hi
  rw [hx,Option.bind_some,Option.bind_some,bne_self_eq_false,cond_false,wrI (x:=i+1) (by omega) (by omega)]
  exact ih _ ⟨by omega,by omega⟩ (by omega)
 ·rw [decide_eq_false hi,cond_false]
end Go.Proofs.YtafhljljfglfeaaGreatDoor
namespace Go.Proofs.YtafhljljfglfeaaGreatDoor
open Go Go.Fx
def nP (b:TicketBook):Nat:=b.Shows.length+b.Boxes.length
theorem VT.np {b:TicketBook} (V:VT b):nP b≤8:=by have:=V.sn; have:=V.bn; unfold nP; omega
def inL (l:List Int) (k:Nat):Bool:=decide ((k:Int)∈l)
def CanO (b:TicketBook) (l:List Int):Prop:=CanT b (outS b (inL l)) (outX b (inL l))
theorem can_o {b:TicketBook} (V:VT b) {l:List Int} (hl:l.length≤1000):∃ r,((ticket_some l).bind fun r28=>(ticket_opened b (Ticket_choice.mk (fun y39=>ticket_some_1 y39 l))).bind fun r40=>(ticket_book_isTrue (Ticket_book.mk (TicketBook.mk (TallyBook.mk r40.TicketBook.Tally.Trips r40.TicketBook.Tally.Room b.Tally.Counts) r40.TicketBook.Fare b.Tickets r40.TicketBook.Shows r40.TicketBook.Boxes) r40.shown_ r40.by_)).bind fun r59=>some (l,r59))=some (l,r)∧(r=true↔CanO b l):=by
 obtain ⟨r,hr,hi⟩:=isTrueT_eq V (V.pco (inL l))
 refine ⟨r,?_,hi⟩
 unfold ticket_some
 rw [Option.bind_some,openedT_eq V (Ticket_choice.mk (fun y39=>ticket_some_1 y39 l)) (inL l) (fun k _=>by
  show ticket_some_1 (k:Int) l=_
  unfold ticket_some_1
  rw [has_int l _ (by omega)]; rfl),Option.bind_some]
 show (ticket_book_isTrue (qOf b (outS b (inL l)) (outX b (inL l)))).bind _=_
 rw [hr]; rfl
def TryOk (b:TicketBook) (l:List Int) (many:Nat) (r:List Int×Bool):Prop:=
 (r.2=true∧Ext (nP b) l many r.1∧CanO b r.1∧∀ o,Ext (nP b) l many o→CanO b o→¬LexLt o r.1)∨
 (r.2=false∧∀ o,Ext (nP b) l many o→¬CanO b o)
theorem try_loop {b:TicketBook} (V:VT b) {l:List Int}{many:Nat} (hm:many≤(nP b)) (hl:l.length < many) (hc:Clm l (nP b)) {rec_:List Int→Int→Option (List Int×Bool)}
 (hrec:∀ v:Int,Clm (l++[v]) (nP b)→∃ r,rec_ (l++[v]) many=some r∧TryOk b (l++[v]) many r) {s:Int} (s0:0≤s) (sn:s≤(nP b)) (s1:∀ y,l.getLast? =some y→y < s)
 (s2:∀ o,Ext (nP b) l many o→∀ x,o[l.length]? =some x→s≤x):∃ r,ticket_Wrong_1_j4 (nP b) l rec_ many s=some r∧TryOk b l many r:=by
 have l8:=V.np
 unfold ticket_Wrong_1_j4
 have at_:∀ o,Ext (nP b) l many o→∃ x,o[l.length]? =some x:=fun o ho=>⟨_,List.getElem?_eq_getElem (by rw [ho.len]; exact hl)⟩
 refine loopF_inv (body:=ticket_Wrong_1_l3 (nP b) l rec_ many) (fun z:Int=>s≤z∧z≤(nP b)∧∀ o,Ext (nP b) l many o→CanO b o→∀ x,o[l.length]? =some x→z≤x) (fun z=>(nP b) - z.toNat) (fun r=>TryOk b l many r) ?_ big s ⟨Int.le_refl _,sn,fun o ho _=>s2 o ho⟩ (by unfold big; simp; omega)
 rintro rec z ⟨h1,h2,h3⟩ ih
 unfold ticket_Wrong_1_l3
 by_cases hz:z < (nP b)
 case neg=>
  rw [decide_eq_false hz,cond_false]
  refine ⟨_,rfl,.inr ⟨rfl,fun o ho hco=>?_⟩⟩
  obtain ⟨x,hx⟩:=at_ o ho
  have:=h3 o ho hco x hx
  have:=(ho.clm _ x hx).2.1
  omega
 rw [decide_eq_true hz,cond_true,need_of (by simp [fitsL]; omega)]
 have hC:Clm (l++[z]) (nP b):=hc.snoc (by omega) hz (fun y hy=>by have:=s1 y hy; omega)
 obtain ⟨⟨out,c⟩,hr,hT⟩:=hrec z hC
 rw [hr,Option.bind_some]
 simp only
 rcases hT with ⟨e,hE,hO,hmin⟩ | ⟨e,hno⟩
 ·simp only at e; subst e
  rw [cond_true]
  refine ⟨_,rfl,.inl ⟨rfl,hE.less.1,hO,fun o ho hco=>?_⟩⟩
  obtain ⟨x,hx⟩:=at_ o ho
  have hzx:=h3 o ho hco x hx
  by_cases hxz:x=z
  ·subst hxz; exact hmin o (ho.more hx) hco
  ·rintro ⟨i,x',y',g1,g2,g3,g4⟩
   simp only at g2 g4
   have hoz:=hE.less.2
   simp only at hoz
   by_cases hi:i < l.length
   ·have hli:=List.getElem?_eq_getElem hi
    have a1:=ho.pre i _ hli
    have a2:=hE.less.1.pre i _ hli
    simp only at a2
    rw [g1] at a1; rw [g2] at a2
    have:=Option.some.inj a1; have:=Option.some.inj a2
    omega
   ·by_cases hil:i=l.length
    ·subst hil
     rw [hx] at g1; rw [hoz] at g2
     have:=Option.some.inj g1; have:=Option.some.inj g2
     omega
    ·have:=g4 l.length (by omega)
     rw [hx,hoz] at this
     exact hxz (Option.some.inj this)
 ·simp only at e; subst e
  rw [cond_false,wrI (by omega) (by omega)]
  refine ih _ ⟨by omega,by omega,fun o ho hco x hx=>?_⟩ (by (try simp only); omega)
  have:=h3 o ho hco x hx
  by_cases hxz:x=z
  ·subst hxz; exact absurd hco (hno o (ho.more hx))
  ·omega
theorem try_eq {b:TicketBook} (V:VT b) {many:Nat} (hm:many≤(nP b)):∀ (d fuel:Nat) (l:List Int),Clm l (nP b)→l.length+d=many→d < fuel→∃ r,ticket_Wrong_1 fuel l many b (nP b)=some r∧TryOk b l many r:=by
 have l8:=V.np
 intro d
 induction d with
 | zero=>
   intro fuel l hc hl hf
   obtain ⟨f,rfl⟩:∃ f,fuel=f+1:=⟨fuel - 1,by omega⟩
   unfold ticket_Wrong_1 ticket_Wrong_1_F
   rw [show ((l.length:Int)==(many:Int))=true by simp; omega,cond_true]
   obtain ⟨r,hr,hi⟩:=can_o V (l:=l) (by omega)
   rw [hr]
   have eq:∀ o,Ext (nP b) l many o→o=l:=fun o ho=>by
    refine (List.ext_getElem? fun i=>?_).symm
    by_cases hi:i < l.length
    ·rw [List.getElem?_eq_getElem hi,ho.pre i _ (List.getElem?_eq_getElem hi)]
    ·rw [List.getElem?_eq_none (by omega),List.getElem?_eq_none (by rw [ho.len]; omega)]
   refine ⟨_,rfl,?_⟩
   cases r with
   | true=>
     refine .inl ⟨rfl,⟨by simp only; omega,hc,fun i x h=>h⟩,hi.1 rfl,fun o ho _=>?_⟩
     rw [eq o ho]
     rintro ⟨i,x,y,h1,h2,h3,_⟩
     simp only at h2
     rw [h1] at h2
     have:=Option.some.inj h2
     omega
   | false=>
     refine .inr ⟨rfl,fun o ho=>?_⟩
     rw [eq o ho]
     exact fun h=>by simpa using hi.2 h
 | succ d ih=>
   intro fuel l hc hl hf
   obtain ⟨f,rfl⟩:∃ f,fuel=f+1:=⟨fuel - 1,by omega⟩
   unfold ticket_Wrong_1 ticket_Wrong_1_F
   rw [show ((l.length:Int)==(many:Int))=false by simp; omega,cond_false]
   have hrec:∀ v:Int,Clm (l++[v]) (nP b)→∃ r,ticket_Wrong_1 f (l++[v]) many b (nP b)=some r∧TryOk b (l++[v]) many r:=fun v hv=>ih f (l++[v]) hv (by (try simp); omega) (by omega)
   by_cases h0:0 < l.length
   ·rw [decide_eq_true (show (l.length:Int) > 0 by omega),cond_true,wrI (x:=(l.length:Int) - 1) (by omega) (by omega),show (l.length:Int) - 1=((l.length - 1:Nat):Int) by omega,getI_nat]
    have hlt:l.length - 1 < l.length:=by omega
    have hx:=List.getElem?_eq_getElem hlt
    generalize l[l.length - 1]=v at hx
    obtain ⟨v0,v1,_⟩:=hc _ _ hx
    rw [hx,Option.bind_some,wrI (x:=v+1) (by omega) (by omega)]
    refine try_loop V hm (by omega) hc hrec (by omega) (by omega) (fun y hy=>?_) (fun o ho x hox=>?_)
    ·rw [List.getLast?_eq_getElem?,hx] at hy
     have:=Option.some.inj hy; omega
    ·have:=(ho.clm _ x hox).2.2 v h0 (ho.pre _ _ hx)
     omega
   ·rw [decide_eq_false (show ¬(l.length:Int) > 0 by omega),cond_false]
    have hn:l=[]:=List.eq_nil_of_length_eq_zero (by omega)
    refine try_loop V hm (by omega) hc hrec (Int.le_refl _) (by omega) (fun y hy=>?_) (fun o ho x hox=>(ho.clm _ x hox).1)
    rw [hn] at hy; cases hy
structure Few (b:TicketBook) (w:List Int):Prop where
 clm:Clm w (nP b)
 can:CanO b w
 len:∀ o,Clm o (nP b)→CanO b o→w.length≤o.length
 lex:∀ o,Clm o (nP b)→CanO b o→o.length=w.length→¬LexLt o w
theorem wrong_law {b:TicketBook} (V:VT b):∃ w e,ticket_Wrong b=some (w,e)∧((e=0∧Few b w)∨(e=102∧w=[]∧∀ o,Clm o (nP b)→¬CanO b o)):=by
 have l8:=V.np
 unfold ticket_Wrong
 rw [checkT_ok V,Option.bind_some]
 simp only [bne_self_eq_false,cond_false]
 refine Exists.elim (loopF_inv (body:=ticket_Wrong_l2 b) (fun z:Int=>∃ k:Nat,z=k∧k≤(nP b)+1∧∀ o,Clm o (nP b)→CanO b o→k≤o.length) (fun z=>(nP b)+1 - z.toNat) (fun r=>∃ w e,r=(w,e)∧((e=0∧Few b w)∨(e=102∧w=[]∧∀ o,Clm o (nP b)→¬CanO b o))) ?_ big 0 ⟨0,rfl,by omega,fun _ _ _=>Nat.zero_le _⟩ (by unfold big; simp; omega)) fun r ⟨h1,w,e,h2,h3⟩=>⟨w,e,by rw [h1,h2],h3⟩
 rintro rec z ⟨k,rfl,hk,hmin⟩ ih
 unfold ticket_Wrong_l2
 rw [show (wr ((b.Shows.length:Int)+(b.Boxes.length:Int)))=((nP b:Nat):Int) by unfold nP at l8 ⊢; rw [wrI (by omega) (by omega)]; omega,wrI (x:=((nP b:Nat):Int)+1) (by omega) (by omega)]
 by_cases hlt:k < (nP b)+1
 ·rw [decide_eq_true (by omega),cond_true]
  obtain ⟨⟨out,c⟩,hr,hT⟩:=try_eq V (many:=k) (by omega) k big [] Clm.nil (by simp) (by unfold big; omega)
  rw [hr,Option.bind_some]
  simp only
  have ext:∀ o,Clm o (nP b)→o.length=k→Ext (nP b) [] k o:=fun o ho hl=>⟨hl,ho,fun i x h=>by simp at h⟩
  rcases hT with ⟨e,hE,hO,hm⟩ | ⟨e,hno⟩
  ·simp only at e; subst e
   rw [cond_true]
   refine ⟨_,rfl,out,0,rfl,.inl ⟨rfl,hE.clm,hO,fun o h1 h2=>by rw [hE.len]; exact hmin o h1 h2,fun o h1 h2 h3=>hm o (ext o h1 (h3.trans hE.len)) h2⟩⟩
  ·simp only at e; subst e
   rw [cond_false,wrI (by omega) (by omega)]
   refine ih _ ⟨k+1,by simp,by omega,fun o h1 h2=>?_⟩ (by (try simp only); omega)
   have:=hmin o h1 h2
   by_cases hok:o.length=k
   ·exact absurd h2 (hno o (ext o h1 hok))
   ·omega
 ·rw [decide_eq_false (by omega),cond_false]
  refine ⟨_,rfl,[],102,rfl,.inr ⟨rfl,rfl,fun o h1 h2=>?_⟩⟩
  have:=hmin o h1 h2
  have:=h1.len (by omega)
  omega
end Go.Proofs.YtafhljljfglfeaaGreatDoor
namespace Go.Proofs.YtafhljljfglfeaaGreatDoor
open Go Go.Fx
set_option maxRecDepth 100000 in
theorem punched_t:law_punched=some true:=by kernel_rfl
end Go.Proofs.YtafhljljfglfeaaGreatDoor
namespace Go.Proofs.YtafhljljfglfeaaGreatDoor
open Go Go.Fx
def NoC (sh:List TicketShow) (i k:Nat):Prop:=∀ x y,sh[i]? =some x→sh[k]? =some y→clashN x y=false
end Go.Proofs.YtafhljljfglfeaaGreatDoor
namespace Go.Proofs.YtafhljljfglfeaaGreatDoor
open Go Go.Fx
theorem loop_flag {α ρ:Type}{body:(Bool×Int→Option ρ)→Bool×Int→Option ρ} (l:List α) (g:α→Bool) (K:Bool→Option ρ) (hf:∀ rec i,body rec (false,i)=K false) (hs:∀ rec (k:Nat) (h:k < l.length),body rec (true,(k:Int))=rec (g l[k],((k+1:Nat):Int))) (he:∀ rec,body rec (true,(l.length:Int))=K true):
 ∀ (n k:Nat) (ok:Bool),k≤l.length→l.length - k < n→loopF body n (ok,(k:Int))=K (ok&&(l.drop k).all g)
 | 0,_,_,_,h=>by omega
 | n+1,k,ok,hk,hn=>by
   show body (loopF body n) (ok,(k:Int))=_
   cases ok with
   | false=>rw [hf]; rfl
   | true=>
     by_cases h:k < l.length
     ·rw [hs _ k h,loop_flag l g K hf hs he n (k+1) _ h (by omega),List.drop_eq_getElem_cons h,List.all_cons,Bool.true_and]
     ·have:k=l.length:=by omega
      subst this
      rw [he,List.drop_length]; rfl
theorem loop_flag0 {α ρ:Type}{body:(Bool×Int→Option ρ)→Bool×Int→Option ρ} (l:List α) (g:α→Bool) (K:Bool→Option ρ) (hl:l.length≤9223372036854775807) (hf:∀ rec i,body rec (false,i)=K false) (hs:∀ rec (k:Nat) (h:k < l.length),body rec (true,(k:Int))=rec (g l[k],((k+1:Nat):Int))) (he:∀ rec,body rec (true,(l.length:Int))=K true) (ok:Bool):loopF body big (ok,0)=K (ok&&l.all g):=by
 have:=loop_flag l g K hf hs he big 0 ok (Nat.zero_le _) (by unfold big; omega)
 rwa [List.drop_zero] at this
theorem rtripT (b:TicketBook) (h:1≤b.Tally.Trips) (h2:b.Tally.Trips≤8) (n:Int):ref10_isTrip b n=some (inB n 0 (b.Tally.Trips - 1)):=by
 unfold ref10_isTrip
 rw [wrI (by omega) (by omega),inside_eq]; rfl
theorem rtrips (b:TicketBook) (h:1≤b.Tally.Trips) (h2:b.Tally.Trips≤8) (f t:Int):ref10_trips b f t=some (inB f 0 (b.Tally.Trips - 1)&&inB t 0 (b.Tally.Trips - 1)&&decide (f≤t)):=by
 unfold ref10_trips
 simp only [rtripT b h h2,Option.bind_some]
 cases inB f 0 (b.Tally.Trips - 1) <;> cases inB t 0 (b.Tally.Trips - 1) <;> rfl
theorem rticket (b:TicketBook) (h:b.Tickets.length≤9223372036854775807) (n:Int):ref10_isTicket b n=some (inB n 0 ((b.Tickets.length:Int) - 1)):=by
 unfold ref10_isTicket
 rw [wrI (by omega) (by omega),inside_eq]; rfl
theorem rboxT (b:TicketBook) (h:1≤b.Tally.Trips) (h2:b.Tally.Trips≤8) (x:TicketBox):ref10_isBox b x=some (boxB b.Tally.Trips x):=by
 unfold ref10_isBox boxB
 rw [rtrips b h h2,Option.bind_some]
 simp only [inside_eq,Option.bind_some]
 cases inB x.From 0 (b.Tally.Trips - 1) <;> cases inB x.To 0 (b.Tally.Trips - 1) <;> cases decide (x.From≤x.To) <;> cases inB x.Pence 0 400 <;> cases inB x.Lost 0 40 <;> rfl
theorem rtail (b:TicketBook) (A:ArgT b) (ok:Bool) (hT:ok=true→1≤b.Tally.Trips∧b.Tally.Trips≤8):ref10_Check_j13 b ok=some (bif ok&&b.Tickets.all (seasB b.Tally.Trips)&&b.Shows.all (showB b.Tally.Trips b.Tickets.length)&&b.Boxes.all (boxB b.Tally.Trips) then 0 else 100):=by
 have A2:=A.tl; have A3:=A.sl; have A4:=A.bl
 have big1:big=18446744073709551615+1:=by decide
 cases ok with
 | false=>unfold ref10_Check_j13; rw [big1]; rfl
 | true=>
   obtain ⟨h1,h2⟩:=hT rfl
   have e3:∀ o,ref10_Check_j9 b o=ref10_Check_j7 (o&&b.Boxes.all (boxB b.Tally.Trips)):=fun o=>by
    unfold ref10_Check_j9
    refine loop_flag0 (body:=ref10_Check_l8 b) b.Boxes (boxB b.Tally.Trips) ref10_Check_j7 A4 (fun rec i=>rfl) (fun rec k h=>?_) (fun rec=>?_) o
    ·unfold ref10_Check_l8
     simp only
     rw [cond_true,decide_eq_true (by omega),cond_true,getI_nat,List.getElem?_eq_getElem h,Option.bind_some,rboxT b h1 h2,Option.bind_some,wrI (by omega) (by omega)]; rfl
    ·unfold ref10_Check_l8
     simp only
     rw [cond_true,decide_eq_false (by omega),cond_false]
   have e2:∀ o,ref10_Check_j11 b o=ref10_Check_j9 b (o&&b.Shows.all (showB b.Tally.Trips b.Tickets.length)):=fun o=>by
    unfold ref10_Check_j11
    refine loop_flag0 (body:=ref10_Check_l10 b) b.Shows (showB b.Tally.Trips b.Tickets.length) (ref10_Check_j9 b) A3 (fun rec i=>rfl) (fun rec k h=>?_) (fun rec=>?_) o
    ·unfold ref10_Check_l10
     simp only
     rw [cond_true,decide_eq_true (by omega),cond_true,getI_nat,List.getElem?_eq_getElem h,Option.bind_some,rtripT b h1 h2,Option.bind_some,rticket b A2,wrI (by omega) (by omega)]
     unfold showB
     cases inB b.Shows[k].Trip 0 (b.Tally.Trips - 1) with
     | false=>rfl
     | true=>
       simp only [Option.bind_some,cond_true,inside_eq,Bool.true_and]
       cases inB b.Shows[k].Ticket 0 ((b.Tickets.length:Int) - 1) <;> rfl
    ·unfold ref10_Check_l10
     simp only
     rw [cond_true,decide_eq_false (by omega),cond_false]
   have e1:∀ o,ref10_Check_j13 b o=ref10_Check_j11 b (o&&b.Tickets.all (seasB b.Tally.Trips)):=fun o=>by
    unfold ref10_Check_j13
    refine loop_flag0 (body:=ref10_Check_l12 b) b.Tickets (seasB b.Tally.Trips) (ref10_Check_j11 b) A2 (fun rec i=>rfl) (fun rec k h=>?_) (fun rec=>?_) o
    ·unfold ref10_Check_l12
     simp only
     rw [cond_true,decide_eq_true (by omega),cond_true,getI_nat,List.getElem?_eq_getElem h,Option.bind_some,Option.bind_some,rtrips b h1 h2,Option.bind_some,wrI (by omega) (by omega)]; rfl
    ·unfold ref10_Check_l12
     simp only
     rw [cond_true,decide_eq_false (by omega),cond_false]
   rw [e1,e2,e3]
   unfold ref10_Check_j7
   cases (true&&b.Tickets.all (seasB b.Tally.Trips)&&b.Shows.all (showB b.Tally.Trips b.Tickets.length)&&b.Boxes.all (boxB b.Tally.Trips)) <;> rfl
theorem rcheckT_eq (b:TicketBook) (A:ArgT b):ref10_Check b=some (bif valT b then 0 else 100):=by
 unfold ref10_Check valT
 rw [rcheck_eq _ A.cl]
 have f:=rtail b A false (fun h=>by cases h)
 simp only [Bool.false_and,cond_false] at f
 cases hv:valB b.Tally with
 | false=>simp only [cond_false,Option.bind_some,Bool.false_and]; exact f
 | true=>
   have V:=val_iff.1 hv
   have t:=fun ok=>rtail b A ok (fun _=>⟨V.t1,V.t8⟩)
   simp only [inside_eq,Option.bind_some,t,cond_true,beq_self_eq_true]
   cases decide (b.Tally.Trips≤3) <;> cases decide (b.Tally.Room≤5) <;> cases inB b.Fare 1 20 <;> cases decide ((b.Tickets.length:Int)≤3) <;> cases decide ((b.Shows.length:Int)≤5) <;> rfl
theorem rclash_eq (x y:TicketShow):ref10_clash x y=some (clashN x y):=by
 unfold ref10_clash clashN
 cases (x.Trip==y.Trip) <;> rfl
def ClashR (sh:List TicketShow) (r:Int×Int):Prop:=
 (∃ (i k:Nat) (x y:TicketShow),r.1=i∧r.2=k∧i < k∧sh[i]? =some x∧sh[k]? =some y∧clashN x y=true∧∀ i' k' :Nat,i' < k' →(i' < i∨(i' =i∧k' < k))→NoC sh i' k')∨
 (r.1=-1∧∀ i k:Nat,i < k→NoC sh i k)
theorem rclashes {b:TicketBook} (hl:b.Shows.length≤1000):∃ r,ref10_clashes b=some r∧ClashR b.Shows r:=by
 unfold ref10_clashes
 refine loopF_inv (body:=ref10_clashes_l4 b) (fun z:Int=>∃ i:Nat,z=i∧i≤b.Shows.length∧∀ i' k' :Nat,i' < k' →i' < i→NoC b.Shows i' k') (fun z=>b.Shows.length - z.toNat) (fun r=>ClashR b.Shows r) ?_ big 0 ⟨0,rfl,Nat.zero_le _,fun _ _ _ h=>absurd h (Nat.not_lt_zero _)⟩ (by unfold big; simp; omega)
 rintro rec z ⟨i,rfl,hi,hno⟩ ih
 unfold ref10_clashes_l4
 by_cases hlt:i < b.Shows.length
 case neg=>
  rw [decide_eq_false (by omega),cond_false]
  refine ⟨_,rfl,.inr ⟨rfl,fun i' k' h x y hx hy=>?_⟩⟩
  have:=(List.getElem?_eq_some_iff.1 hx).1
  exact hno i' k' h (by omega) x y hx hy
 rw [decide_eq_true (by omega),cond_true,wrI (x:=(i:Int)+1) (by omega) (by omega)]
 refine loopF_inv (body:=ref10_clashes_l3 b i rec) (fun z:Int=>∃ k:Nat,z=k∧i < k∧k≤b.Shows.length∧∀ k' :Nat,i < k' →k' < k→NoC b.Shows i k') (fun z=>b.Shows.length - z.toNat) (fun r=>ClashR b.Shows r) ?_ big _ ⟨i+1,by omega,by omega,by omega,fun k' h1 h2=>by omega⟩ (by unfold big; simp; omega)
 rintro rec2 z ⟨k,rfl,hik,hk,hno2⟩ ih2
 unfold ref10_clashes_l3
 by_cases hkl:k < b.Shows.length
 case neg=>
  rw [decide_eq_false (by omega),cond_false,wrI (x:=(i:Int)+1) (by omega) (by omega)]
  refine ih _ ⟨i+1,by omega,by omega,fun i' k' h1 h2=>?_⟩ (by (try simp only); omega)
  by_cases he:i' =i
  ·subst he
   intro x y hx hy
   have:=(List.getElem?_eq_some_iff.1 hy).1
   exact hno2 k' h1 (by omega) x y hx hy
  ·exact hno i' k' h1 (by omega)
 have hx:=List.getElem?_eq_getElem hlt
 have hy:=List.getElem?_eq_getElem hkl
 rw [decide_eq_true (by omega),cond_true,getI_nat,getI_nat,hx,hy,Option.bind_some,Option.bind_some,rclash_eq,Option.bind_some]
 cases hc:clashN b.Shows[i] b.Shows[k] with
 | true=>
   rw [cond_true]
   refine ⟨_,rfl,.inl ⟨i,k,_,_,rfl,rfl,hik,hx,hy,hc,fun i' k' h1 h2=>?_⟩⟩
   rcases h2 with h2 | ⟨rfl,h2⟩
   ·exact hno i' k' h1 h2
   ·exact hno2 k' h1 h2
 | false=>
   rw [cond_false,wrI (x:=(k:Int)+1) (by omega) (by omega)]
   refine ih2 _ ⟨k+1,by omega,by omega,by omega,fun k' h1 h2=>?_⟩ (by (try simp only); omega)
   by_cases he:k' =k
   ·subst he
    intro x y hx' hy'
    rw [hx] at hx'; rw [hy] at hy'
    cases hx'; cases hy'; exact hc
   ·exact hno2 k' h1 (by omega)
theorem noC_cl {sh:List TicketShow} (h:∀ i k:Nat,i < k→NoC sh i k):Cl sh:=by
 rw [cl_iff]
 intro x hx y hy
 obtain ⟨i,hi,rfl⟩:=List.getElem_of_mem hx
 obtain ⟨k,hk,rfl⟩:=List.getElem_of_mem hy
 rcases Nat.lt_trichotomy i k with hik | hik | hik
 ·exact h i k hik _ _ (List.getElem?_eq_getElem hi) (List.getElem?_eq_getElem hk)
 ·subst hik
  rw [← Bool.not_eq_true,clashN_iff]
  rintro ⟨_,h⟩
  exact h ⟨fun _=>rfl,fun _=>rfl⟩
 ·rw [clashN_comm]; exact h k i hik _ _ (List.getElem?_eq_getElem hk) (List.getElem?_eq_getElem hi)
theorem nandE_all:((List.range 8).all fun s=>(List.range 8).all fun t=>(andNotI ((s:Nat):Int) ((t:Nat):Int)==0)==(t &&& s==s))=true:=by kernel_rfl
theorem nandE {s t:Nat} (h:s < 8) (k:t < 8):(andNotI (s:Int) (t:Int)==0)=true↔∀ n,s.testBit n=true→t.testBit n=true:=by
 have:=List.all_eq_true.1 (List.all_eq_true.1 nandE_all s (List.mem_range.2 h)) t (List.mem_range.2 k)
 rw [beq_iff_eq] at this
 rw [this,beq_iff_eq]
 exact and_sub
theorem mem3_all:((List.range 8).all fun s=>decide (((memL s 3).length:Int)=popN s))=true:=by kernel_rfl
theorem mem3 {s:Nat} (h:s < 8):((memL s 3).length:Int)=popN s:=of_decide_eq_true (List.all_eq_true.1 mem3_all s (List.mem_range.2 h))
theorem or_bit {s t n:Nat}:(s ||| 2 ^ t).testBit n=true↔s.testBit n=true∨t=n:=by
 rw [Nat.testBit_or,Bool.or_eq_true,Nat.testBit_two_pow,decide_eq_true_iff]
theorem rcovers {b:TicketBook} (V:VT b) (d:Nat):∃ s:Nat,ref10_covers b d=some (s:Int)∧s < 8∧∀ n:Nat,s.testBit n=true↔∃ x,b.Tickets[n]? =some x∧x.From≤d∧(d:Int)≤x.To:=by
 have tn:=V.tn
 unfold ref10_covers
 refine Exists.elim (loopF_inv (body:=ref10_covers_l1 b d) (fun z:Int×Int=>∃ k s:Nat,z=((s:Int),(k:Int))∧k≤b.Tickets.length∧s < 8∧∀ n:Nat,s.testBit n=true↔n < k∧∃ x,b.Tickets[n]? =some x∧x.From≤d∧(d:Int)≤x.To) (fun z=>b.Tickets.length - z.2.toNat) (fun r=>∃ s:Nat,r=(s:Int)∧s < 8∧∀ n:Nat,s.testBit n=true↔∃ x,b.Tickets[n]? =some x∧x.From≤d∧(d:Int)≤x.To) ?_ big (0,0) ⟨0,0,rfl,Nat.zero_le _,by decide,fun n=>by simp⟩ (by unfold big; simp; omega)) fun r ⟨h,s,e,h1,h2⟩=>⟨s,by rw [h,e],h1,h2⟩
 rintro rec z ⟨k,s,rfl,hk,h8,hb⟩ ih
 unfold ref10_covers_l1
 simp only
 by_cases hlt:k < b.Tickets.length
 ·have hx:=List.getElem?_eq_getElem hlt
  rw [decide_eq_true (by omega),cond_true,getI_nat,hx,Option.bind_some,inside_eq,Option.bind_some,wrI (x:=(k:Int)+1) (by omega) (by omega)]
  generalize b.Tickets[k]=x at hx
  cases hin:inB (d:Int) x.From x.To with
  | true=>
    obtain ⟨o1,o2⟩:=or_small h8 (show k < 3 by omega)
    rw [cond_true,need_of (decide_eq_true (by omega)),o1]
    refine ih _ ⟨k+1,s ||| 2 ^ k,by simp,hlt,o2,fun n=>?_⟩ (by (try simp only); omega)
    rw [or_bit,hb n]
    constructor
    ·rintro (⟨h1,h2⟩ | rfl)
     ·exact ⟨by omega,h2⟩
     ·exact ⟨by omega,x,hx,(inB_iff.1 hin).1,(inB_iff.1 hin).2⟩
    ·rintro ⟨h1,h2⟩
     by_cases e:k=n
     ·exact .inr e
     ·exact .inl ⟨by omega,h2⟩
  | false=>
    rw [cond_false]
    refine ih _ ⟨k+1,s,by simp,hlt,h8,fun n=>?_⟩ (by (try simp only); omega)
    rw [hb n]
    constructor
    ·rintro ⟨h1,h2⟩; exact ⟨by omega,h2⟩
    ·rintro ⟨h1,y,hy,h2⟩
     refine ⟨?_,y,hy,h2⟩
     by_cases e:n=k
     ·subst e; rw [hx] at hy; cases hy
      rw [inB_iff.2 h2] at hin; cases hin
     ·omega
 ·rw [decide_eq_false (by omega),cond_false]
  refine ⟨_,rfl,s,rfl,h8,fun n=>?_⟩
  rw [hb n]
  exact ⟨fun h=>h.2,fun ⟨x,hx,h⟩=>⟨by have:=(List.getElem?_eq_some_iff.1 hx).1; omega,x,hx,h⟩⟩
theorem rshown {b:TicketBook} (V:VT b) (d:Nat):∃ s:Nat,ref10_shown b d=some (s:Int)∧s < 8∧∀ n:Nat,s.testBit n=true↔∃ x∈b.Shows,x.Trip=d∧x.Ticket=n:=by
 have tn:=V.tn; have sn:=V.sn
 unfold ref10_shown
 refine Exists.elim (loopF_inv (body:=ref10_shown_l1 b d) (fun z:Int×Int=>∃ k s:Nat,z=((s:Int),(k:Int))∧k≤b.Shows.length∧s < 8∧∀ n:Nat,s.testBit n=true↔∃ x∈b.Shows.take k,x.Trip=d∧x.Ticket=n) (fun z=>b.Shows.length - z.2.toNat) (fun r=>∃ s:Nat,r=(s:Int)∧s < 8∧∀ n:Nat,s.testBit n=true↔∃ x∈b.Shows,x.Trip=d∧x.Ticket=n) ?_ big (0,0) ⟨0,0,rfl,Nat.zero_le _,by decide,fun n=>by simp⟩ (by unfold big; simp; omega)) fun r ⟨h,s,e,h1,h2⟩=>⟨s,by rw [h,e],h1,h2⟩
 rintro rec z ⟨k,s,rfl,hk,h8,hb⟩ ih
 unfold ref10_shown_l1
 simp only
 by_cases hlt:k < b.Shows.length
 ·have hx:=List.getElem?_eq_getElem hlt
  have hS:=V.sh _ (List.getElem_mem hlt)
  have hT:=List.take_succ_eq_append_getElem hlt
  rw [decide_eq_true (by omega),cond_true,getI_nat,hx,Option.bind_some,wrI (x:=(k:Int)+1) (by omega) (by omega)]
  generalize b.Shows[k]=x at hx hS hT
  have n0:=hS.n0; have nm:=hS.nm
  have mem:∀ n:Nat,(∃ y∈b.Shows.take (k+1),y.Trip=d∧y.Ticket=n)↔(∃ y∈b.Shows.take k,y.Trip=d∧y.Ticket=n)∨(x.Trip=d∧x.Ticket=n):=fun n=>by
   rw [hT]
   constructor
   ·rintro ⟨y,hy,h⟩
    rcases List.mem_append.1 hy with hy | hy
    ·exact .inl ⟨y,hy,h⟩
    ·rw [List.mem_singleton.1 hy] at h; exact .inr h
   ·rintro (⟨y,hy,h⟩ | h)
    ·exact ⟨y,List.mem_append_left _ hy,h⟩
    ·exact ⟨x,List.mem_append_right _ (List.mem_singleton.2 rfl),h⟩
  by_cases ht:x.Trip=d
  ·obtain ⟨t,et⟩:=Int.eq_ofNat_of_zero_le n0
   obtain ⟨o1,o2⟩:=or_small h8 (show t < 3 by omega)
   rw [show (x.Trip==(d:Int))=true by simpa using ht,cond_true,need_of (decide_eq_true n0),et,o1]
   refine ih _ ⟨k+1,s ||| 2 ^ t,by simp,hlt,o2,fun n=>?_⟩ (by (try simp only); omega)
   rw [or_bit,hb n,mem n]
   exact or_congr Iff.rfl ⟨fun h=>⟨ht,by omega⟩,fun h=>by omega⟩
  ·rw [show (x.Trip==(d:Int))=false by simpa using ht,cond_false]
   refine ih _ ⟨k+1,s,by simp,hlt,h8,fun n=>?_⟩ (by (try simp only); omega)
   rw [hb n,mem n]
   exact ⟨.inl,fun h=>h.elim id fun h=>absurd h.1 ht⟩
 ·rw [decide_eq_false (by omega),cond_false]
  refine ⟨_,rfl,s,rfl,h8,fun n=>?_⟩
  rw [hb n,List.take_of_length_le (by omega)]
structure PreT (b:TicketBook) (d:Nat) (c u:List Int):Prop where
 cl:c.length=d
 ul:u.length=d
 dT:(d:Int)≤b.Tally.Trips
 cb:∀ i,0≤c.getD i 0∧c.getD i 0≤b.Tally.Room
 ub:∀ i,0≤u.getD i 0∧u.getD i 0 < 8
theorem PreT.pv {b:TicketBook} (V:VT b) {d:Nat}{c u:List Int} (P:PreT b d c u) (i:Nat):-3≤pv c u i∧YtafhljljfglfeaaGreatDoor.pv c u i≤5:=by
 have r5:=V.r5
 have:=P.cb i; have:=pop_bd (u.getD i 0).toNat
 unfold YtafhljljfglfeaaGreatDoor.pv; omega
theorem PreT.paid {b:TicketBook} (V:VT b) {d:Nat}{c u:List Int} (P:PreT b d c u) (f:Nat):∀ n:Nat,-3*(n:Int)≤paidN c u f n∧paidN c u f n≤5*(n:Int)
 | 0=>by simp [paidN]
 | n+1=>by
   have:=PreT.paid V P f n; have:=P.pv V (f+n)
   rw [paidN_succ]; omega
theorem rpaid {b:TicketBook} (V:VT b) {d:Nat}{c u:List Int} (P:PreT b d c u) {f t:Int} (f0:0≤f) (ft:f≤t) (td:t < d):ref10_paid ⟨c,u⟩ f t=some (paidN c u f.toNat (t+1 - f).toNat):=by
 have t3:=V.t3; have r5:=V.r5; have dT:=P.dT; have hc:=P.cl; have hu:=P.ul
 obtain ⟨f,rfl⟩:=Int.eq_ofNat_of_zero_le f0
 unfold ref10_paid
 refine loopF_spec (body:=ref10_paid_l1 t ⟨c,u⟩) (fun z:Int×Int=>∃ j:Nat,z=(paidN c u f j,((f+j:Nat):Int))∧((f+j:Nat):Int)≤t+1) (fun z=>(t+1 - z.2).toNat) (fun _=>paidN c u f (t+1 - (f:Int)).toNat) ?_ big (0,(f:Int)) ⟨0,by simp [paidN],by simp; omega⟩ (by unfold big; simp; omega)
 rintro rec z ⟨j,rfl,hj⟩ ih
 unfold ref10_paid_l1
 simp only
 by_cases h:((f+j:Nat):Int)≤t
 ·have e1:=List.getElem?_eq_getElem (show f+j < c.length by omega)
  have e2:=List.getElem?_eq_getElem (show f+j < u.length by omega)
  have g1:c.getD (f+j) 0=c[f+j]'(by omega):=by rw [List.getD_eq_getElem?_getD,e1]; rfl
  have g2:u.getD (f+j) 0=u[f+j]'(by omega):=by rw [List.getD_eq_getElem?_getD,e2]; rfl
  have b1:=P.cb (f+j); have b2:=P.ub (f+j); have bp:=P.paid V f j; have bv:=P.pv V (f+j)
  have bj:=pop_bd (u.getD (f+j) 0).toNat
  rw [decide_eq_true h,cond_true,getI_nat,getI_nat,e1,e2,Option.bind_some,Option.bind_some,← g1,← g2]
  have hm:=members_nat (u.getD (f+j) 0).toNat (n:=3) (by omega)
  rw [show (((u.getD (f+j) 0).toNat:Nat):Int)=u.getD (f+j) 0 by omega] at hm
  rw [show ((3:Nat):Int)=3 from rfl] at hm
  rw [hm,Option.bind_some,mem3 (by omega),wrI (x:=_ - popN _) (by omega) (by omega)]
  have hv:c.getD (f+j) 0 - popN (u.getD (f+j) 0).toNat=YtafhljljfglfeaaGreatDoor.pv c u (f+j):=rfl
  rw [hv,wrI (x:=paidN c u f j+_) (by omega) (by omega),wrI (x:=((f+j:Nat):Int)+1) (by omega) (by omega),← paidN_succ]
  exact ih _ ⟨j+1,by simp; omega,by omega⟩ (by (try simp only); omega)
 ·rw [decide_eq_false h,cond_false,show (t+1 - (f:Int)).toNat=j by omega]
theorem rright {b:TicketBook} (V:VT b) {d:Nat}{c u:List Int} (P:PreT b d c u) {x:TicketBox} (hx:Box b.Tally.Trips x) (hd:x.To < d):ref10_right b ⟨c,u⟩ x=some (fitsN b.Fare c u x):=by
 have h0:=hx.f0; have h1:=hx.ft; have h2:=hx.tT; have h3:=hx.p0; have h4:=hx.p4; have h5:=hx.l0; have h6:=hx.l4; have t3:=V.t3
 have hp:=P.paid V x.From.toNat (x.To+1 - x.From).toNat
 have hm:=mul_bd (r:=paidN c u x.From.toNat (x.To+1 - x.From).toNat) (by omega) (by omega) V.f1 V.f20
 unfold ref10_right
 rw [rpaid V P h0 h1 hd,Option.bind_some,Int.mul_comm b.Fare,wrI (x:=_*_) (by omega) (by omega),wrI (x:=x.Pence+x.Lost) (by omega) (by omega),inside_eq]
 rfl
end Go.Proofs.YtafhljljfglfeaaGreatDoor
namespace Go.Proofs.YtafhljljfglfeaaGreatDoor
open Go Go.Fx
theorem grown_eq {l:List Int} (h:l.length≤1000) (x:Int):B_Grown l x=some (l++[x]):=by
 have e:l++List.drop l.length (List.replicate (wr ((l.length:Int)+1)).toNat (0:Int))=l++[0]:=by
  rw [wrI (by omega) (by omega),show ((l.length:Int)+1).toNat=l.length+1 by omega,List.drop_replicate,show l.length+1 - l.length=1 by omega,List.replicate_one]
 unfold B_Grown
 rw [e,wrI (by omega) (by omega),need_of (by simp [inI]; try omega),need_of (by simp; try omega),getI_nat,List.getElem?_append_right (Nat.le_refl _),Nat.sub_self]
 show some _=_
 congr 1
 rw [show ((l.length:Int)).toNat=l.length from rfl,List.set_append_right _ _ (Nat.le_refl _),Nat.sub_self]; rfl
def covN (b:TicketBook) (d:Nat):Nat:=((ref10_covers b d).getD 0).toNat
def shwN (b:TicketBook) (d:Nat):Nat:=((ref10_shown b d).getD 0).toNat
theorem covN_ok {b:TicketBook} (V:VT b) (d:Nat):ref10_covers b d=some (covN b d:Int)∧covN b d < 8∧∀ n:Nat,(covN b d).testBit n=true↔∃ x,b.Tickets[n]? =some x∧x.From≤d∧(d:Int)≤x.To:=by
 obtain ⟨s,h1,h2,h3⟩:=rcovers V d
 have:covN b d=s:=by unfold covN; rw [h1]; rfl
 rw [this]; exact ⟨h1,h2,h3⟩
theorem shwN_ok {b:TicketBook} (V:VT b) (d:Nat):ref10_shown b d=some (shwN b d:Int)∧shwN b d < 8∧∀ n:Nat,(shwN b d).testBit n=true↔∃ x∈b.Shows,x.Trip=d∧x.Ticket=n:=by
 obtain ⟨s,h1,h2,h3⟩:=rshown V d
 have:shwN b d=s:=by unfold shwN; rw [h1]; rfl
 rw [this]; exact ⟨h1,h2,h3⟩
def boxR (b:TicketBook) (c u:List Int):Bool:=b.Boxes.all fun x=>!(x.To==(c.length:Int) - 1)||fitsN b.Fare c u x
def canR (b:TicketBook) (c:List Int):Bool:=((tally_Can b.Tally c).map (·.1)).getD false
def okR (b:TicketBook) (d n s:Nat):Bool:=(andNotI (s:Int) (covN b d:Int)==0)&&(andNotI (shwN b d:Int) (s:Int)==0)&&decide (popN s≤(n:Int))
def goesL (b:TicketBook):Nat→List Int→List Int→List Ref10_truth
 | 0,c,u=>bif boxR b c u then (bif canR b c then [⟨c,u⟩] else []) else []
 | r+1,c,u=>bif boxR b c u then (List.range (b.Tally.Room.toNat+1)).flatMap fun n=>(List.range 8).flatMap fun s=>bif okR b c.length n s then goesL b r (c++[(n:Int)]) (u++[(s:Int)]) else [] else []
theorem goesL_zero (b:TicketBook) (c u:List Int):goesL b 0 c u=bif boxR b c u then (bif canR b c then [⟨c,u⟩] else []) else []:=rfl
theorem goesL_succ (b:TicketBook) (r:Nat) (c u:List Int):goesL b (r+1) c u=bif boxR b c u then (List.range (b.Tally.Room.toNat+1)).flatMap fun n=>(List.range 8).flatMap fun s=>bif okR b c.length n s then goesL b r (c++[(n:Int)]) (u++[(s:Int)]) else [] else []:=rfl
theorem goesL_len {b:TicketBook} (V:VT b):∀ (r:Nat) (c u:List Int),(goesL b r c u).length≤48 ^ r
 | 0,c,u=>by
   unfold goesL
   cases boxR b c u <;> cases canR b c <;> simp
 | r+1,c,u=>by
   have r5:=V.r5; have r0:=V.ta.r0
   unfold goesL
   cases boxR b c u with
   | false=>simp
   | true=>
     rw [cond_true]
     have h1:∀ n∈List.range (b.Tally.Room.toNat+1),((List.range 8).flatMap fun s=>bif okR b c.length n s then goesL b r (c++[(n:Int)]) (u++[(s:Int)]) else []).length≤8*48 ^ r:=fun n _=>by
      have:=len_flat (l:=List.range 8) (f:=fun s=>bif okR b c.length n s then goesL b r (c++[(n:Int)]) (u++[(s:Int)]) else []) (k:=48 ^ r) (fun s _=>by
       cases okR b c.length n s with
       | false=>simp
       | true=>exact goesL_len V r _ _)
      rwa [List.length_range] at this
     have h2:=len_flat h1
     rw [List.length_range] at h2
     refine Nat.le_trans h2 ?_
     rw [Nat.pow_succ,Nat.mul_comm (48 ^ r) 48,← Nat.mul_assoc]
     exact Nat.mul_le_mul_right _ (by omega)
theorem PreT.more {b:TicketBook}{d:Nat}{c u:List Int} (P:PreT b d c u) (h:(d:Int) < b.Tally.Trips) {n s:Nat} (hn:(n:Int)≤b.Tally.Room) (hs:s < 8):PreT b (d+1) (c++[(n:Int)]) (u++[(s:Int)]):=by
 have key:∀ (l:List Int) (x:Int) (i:Nat),(l++[x]).getD i 0=l.getD i 0∨(l++[x]).getD i 0=x:=fun l x i=>by
  rw [List.getD_eq_getElem?_getD,List.getD_eq_getElem?_getD]
  by_cases h1:i < l.length
  ·rw [List.getElem?_append_left h1]; exact .inl rfl
  ·by_cases h2:i=l.length
   ·subst h2; right; simp
   ·left; rw [List.getElem?_eq_none (by simp; omega),List.getElem?_eq_none (by omega)]
 refine ⟨by simp [P.cl],by simp [P.ul],by omega,fun i=>?_,fun i=>?_⟩
 ·have:=P.cb i
  rcases key c n i with e | e <;> rw [e] <;> omega
 ·have:=P.ub i
  rcases key u s i with e | e <;> rw [e] <;> omega
theorem goes_eq {b:TicketBook} (V:VT b):∀ (r fuel d:Nat) (c u:List Int),PreT b d c u→((d+r:Nat):Int)=b.Tally.Trips→r < fuel→ref10_goes fuel b ⟨c,u⟩=some (goesL b r c u):=by
 intro r
 have t3:=V.t3; have r5:=V.r5; have r0:=V.ta.r0; have bn:=V.bn
 induction r with
 | zero=>
   intro fuel d c u P hd hf
   obtain ⟨f,rfl⟩:∃ f,fuel=f+1:=⟨fuel - 1,by omega⟩
   have hcl:=P.cl
   unfold ref10_goes ref10_goes_F
   rw [loop_allL (body:=ref10_goes_l35 b ⟨c,u⟩ _) b.Boxes (fun x=>!(x.To==(c.length:Int) - 1)||fitsN b.Fare c u x) (Rf:=some []) (Rt:=some (bif canR b c then [⟨c,u⟩] else [])) (fun rec k hk=>?_) (fun rec=>?_) (by rw [big_eq]; omega)]
   ·rw [goesL_zero]
    show (bif boxR b c u then _ else _)=_
    cases boxR b c u <;> rfl
   ·unfold ref10_goes_l35
    simp only
    have hx:=V.bx _ (List.getElem_mem hk)
    rw [decide_eq_true (by omega),cond_true,getI_nat,List.getElem?_eq_getElem hk,Option.bind_some,wrI (x:=(c.length:Int) - 1) (by omega) (by omega),wrI (x:=(k:Int)+1) (by omega) (by omega),show (k:Int)+1=((k+1:Nat):Int) by omega]
    cases ht:(b.Boxes[k].To==(c.length:Int) - 1) with
    | false=>rfl
    | true=>
      rw [cond_true,rright V P hx (by rw [beq_iff_eq] at ht; omega),Option.bind_some]
      cases fitsN b.Fare c u b.Boxes[k] <;> rfl
   ·unfold ref10_goes_l35
    simp only
    obtain ⟨q,h1,h2⟩:=can_same b.Tally V.arg.cl c
    rw [decide_eq_false (by omega),cond_false,show ((c.length:Int)==b.Tally.Trips)=true by rw [beq_iff_eq]; omega,cond_true,h2,Option.bind_some]
    unfold canR
    rw [h1]
    cases hq:q.1 <;> simp [hq]
 | succ r ih=>
   intro fuel d c u P hd hf
   obtain ⟨f,rfl⟩:∃ f,fuel=f+1:=⟨fuel - 1,by omega⟩
   have hcl:=P.cl; have hul:=P.ul
   have pw:48 ^ r≤2304:=Nat.pow_le_pow_right (n:=48) (by omega) (show r≤2 by omega)
   unfold ref10_goes ref10_goes_F
   rw [loop_allL (body:=ref10_goes_l35 b ⟨c,u⟩ _) b.Boxes (fun x=>!(x.To==(c.length:Int) - 1)||fitsN b.Fare c u x) (Rf:=some []) (Rt:=some ((List.range (b.Tally.Room.toNat+1)).flatMap fun n=>(List.range 8).flatMap fun s=>bif okR b c.length n s then goesL b r (c++[(n:Int)]) (u++[(s:Int)]) else [])) (fun rec k hk=>?_) (fun rec=>?_) (by rw [big_eq]; omega)]
   ·rw [goesL_succ]
    show (bif boxR b c u then _ else _)=_
    cases boxR b c u <;> rfl
   ·unfold ref10_goes_l35
    simp only
    have hx:=V.bx _ (List.getElem_mem hk)
    rw [decide_eq_true (by omega),cond_true,getI_nat,List.getElem?_eq_getElem hk,Option.bind_some,wrI (x:=(c.length:Int) - 1) (by omega) (by omega),wrI (x:=(k:Int)+1) (by omega) (by omega),show (k:Int)+1=((k+1:Nat):Int) by omega]
    cases ht:(b.Boxes[k].To==(c.length:Int) - 1) with
    | false=>rfl
    | true=>
      rw [cond_true,rright V P hx (by rw [beq_iff_eq] at ht; omega),Option.bind_some]
      cases fitsN b.Fare c u b.Boxes[k] <;> rfl
   ·unfold ref10_goes_l35
    simp only
    rw [decide_eq_false (by omega),cond_false,show ((c.length:Int)==b.Tally.Trips)=false by rw [beq_eq_false_iff_ne]; omega,cond_false]
    generalize hG:(fun n s:Nat=>bif okR b c.length n s then goesL b r (c++[(n:Int)]) (u++[(s:Int)]) else [])=G
    have gl:∀ n s,(G n s).length≤48 ^ r:=fun n s=>by
     rw [← hG]; simp only
     cases okR b c.length n s with
     | false=>simp
     | true=>exact goesL_len V r _ _
    have fl:∀ n s:Nat,((List.range s).flatMap (G n)).length≤s*48 ^ r:=fun n s=>by
     have:=len_flat (l:=List.range s) (f:=G n) (k:=48 ^ r) (fun s _=>gl n s)
     rwa [List.length_range] at this
    have ol:∀ n:Nat,((List.range n).flatMap fun n=>(List.range 8).flatMap (G n)).length≤n*(8*48 ^ r):=fun n=>by
     have:=len_flat (l:=List.range n) (f:=fun n=>(List.range 8).flatMap (G n)) (k:=8*48 ^ r) (fun n _=>fl n 8)
     rwa [List.length_range] at this
    have hG' :∀ n s,(bif okR b c.length n s then goesL b r (c++[(n:Int)]) (u++[(s:Int)]) else [])=G n s:=fun n s=>by rw [← hG]
    show _=some ((List.range (b.Tally.Room.toNat+1)).flatMap fun n=>(List.range 8).flatMap fun s=>bif okR b c.length n s then goesL b r (c++[(n:Int)]) (u++[(s:Int)]) else [])
    simp only [hG']
    refine loopF_spec (body:=ref10_goes_l34 b ⟨c,u⟩ _) (fun z:List Ref10_truth×Int=>∃ n:Nat,(n:Int)≤b.Tally.Room+1∧z=((List.range n).flatMap fun n=>(List.range 8).flatMap (G n),(n:Int))) (fun z=>(b.Tally.Room+1 - z.2).toNat) (fun _=>(List.range (b.Tally.Room.toNat+1)).flatMap fun n=>(List.range 8).flatMap (G n)) ?_ big ([],0) ⟨0,by omega,rfl⟩ (by unfold big; simp; omega)
    rintro rec2 z ⟨n,hn,rfl⟩ ih2
    unfold ref10_goes_l34
    simp only
    by_cases hlt:(n:Int)≤b.Tally.Room
    case neg=>
     rw [decide_eq_false hlt,cond_false,show b.Tally.Room.toNat+1=n by omega]
    rw [decide_eq_true hlt,cond_true]
    refine loopF_spec (body:=ref10_goes_l33 b ⟨c,u⟩ _ _ rec2) (fun z:List Ref10_truth×Int=>∃ s:Nat,s≤8∧z=(((List.range n).flatMap fun n=>(List.range 8).flatMap (G n))++(List.range s).flatMap (G n),(s:Int))) (fun z=>(8 - z.2).toNat) (fun _=>(List.range (b.Tally.Room.toNat+1)).flatMap fun n=>(List.range 8).flatMap (G n)) ?_ big _ ⟨0,by omega,by simp⟩ (by unfold big; simp)
    rintro rec3 z ⟨s,hs,rfl⟩ ih3
    unfold ref10_goes_l33
    simp only
    by_cases hs8:s < 8
    case neg=>
     have:s=8:=by omega
     subst this
     rw [decide_eq_false (by omega),cond_false,wrI (x:=(n:Int)+1) (by omega) (by omega)]
     refine ih2 _ ⟨n+1,by omega,?_⟩ (by (try simp only); omega)
     rw [show List.range (n+1)=List.range n++[n] from List.range_succ,List.flatMap_append,List.flatMap_cons,List.flatMap_nil,List.append_nil]; rfl
    obtain ⟨c1,c2,c3⟩:=covN_ok V c.length
    obtain ⟨s1,s2,s3⟩:=shwN_ok V c.length
    have hmem:=members_nat s (n:=3) (by omega)
    rw [show ((3:Nat):Int)=3 from rfl] at hmem
    have next:rec3 ((((List.range n).flatMap fun n=>(List.range 8).flatMap (G n))++(List.range s).flatMap (G n))++G n s,(s:Int)+1)=some ((List.range (b.Tally.Room.toNat+1)).flatMap fun n=>(List.range 8).flatMap (G n)):=by
     refine ih3 _ ⟨s+1,by omega,?_⟩ (by (try simp only); omega)
     rw [show List.range (s+1)=List.range s++[s] from List.range_succ,List.flatMap_append,List.flatMap_cons,List.flatMap_nil,List.append_nil,List.append_assoc]; rfl
    have hj:∀ o,o=okR b c.length n s→ref10_goes_j32 ⟨c,u⟩ ((List.range n).flatMap fun n=>(List.range 8).flatMap (G n),(n:Int)) (((List.range n).flatMap fun n=>(List.range 8).flatMap (G n))++(List.range s).flatMap (G n),(s:Int)) (fun x0_ x1_=>ref10_goes f x0_ x1_) b rec3 o=some ((List.range (b.Tally.Room.toNat+1)).flatMap fun n=>(List.range 8).flatMap (G n)):=by
     intro o ho
     have hg:=hG' n s
     unfold ref10_goes_j32
     simp only
     rw [wrI (x:=(s:Int)+1) (by omega) (by omega)]
     cases o with
     | false=>
       rw [← ho,cond_false] at hg
       rw [cond_false]
       rw [← hg,List.append_nil] at next
       exact next
     | true=>
       rw [← ho,cond_true] at hg
       rw [cond_true,grown_eq (by omega),Option.bind_some,grown_eq (by omega),Option.bind_some,ih f (d+1) _ _ (P.more (by omega) hlt hs8) (by omega) (by omega),Option.bind_some,hg]
       cases hE:G n s with
       | nil=>
         rw [List.isEmpty_nil,cond_true]
         rw [hE,List.append_nil] at next
         exact next
       | cons t l=>
         have h1:=fl n s; have h2:=ol n; have h3:=gl n s
         rw [hE] at h3 next
         have h4:n*(8*48 ^ r)≤6*(8*2304):=Nat.mul_le_mul (by omega) (Nat.mul_le_mul_left _ pw)
         have h5:s*48 ^ r≤8*2304:=Nat.mul_le_mul (by omega) pw
         rw [List.isEmpty_cons,cond_false,need_of (fits_of (by rw [List.length_append]; omega) (by omega))]
         exact next
    rw [decide_eq_true (by omega),cond_true,c1,Option.bind_some]
    have ho:okR b c.length n s=((andNotI (s:Int) (covN b c.length:Int)==0)&&(andNotI (shwN b c.length:Int) (s:Int)==0)&&decide (popN s≤(n:Int))):=rfl
    cases a1:(andNotI (s:Int) (covN b c.length:Int)==0) with
    | false=>rw [cond_false]; exact hj _ (by rw [ho,a1]; rfl)
    | true=>
      rw [cond_true,s1,Option.bind_some]
      cases a2:(andNotI (shwN b c.length:Int) (s:Int)==0) with
      | false=>rw [cond_false]; exact hj _ (by rw [ho,a1,a2]; rfl)
      | true=>
        rw [cond_true,hmem,Option.bind_some]
        exact hj _ (by rw [ho,a1,a2,mem3 hs8]; rfl)
end Go.Proofs.YtafhljljfglfeaaGreatDoor
namespace Go.Proofs.YtafhljljfglfeaaGreatDoor
open Go Go.Fx
theorem getD_take {l:List Int}{d i:Nat} (h:i < d):(l.take d).getD i 0=l.getD i 0:=by
 rw [List.getD_eq_getElem?_getD,List.getElem?_take_of_lt h,← List.getD_eq_getElem?_getD]
theorem pv_same {c u c' u' :List Int}{d:Nat} (h1:c.getD d 0=c'.getD d 0) (h2:u.getD d 0=u'.getD d 0):pv c u d=pv c' u' d:=by
 unfold pv; rw [h1,h2]
theorem paid_same {c u c' u' :List Int} (f:Nat):∀ n:Nat,(∀ i,i < f+n→c.getD i 0=c'.getD i 0∧u.getD i 0=u'.getD i 0)→paidN c u f n=paidN c' u' f n
 | 0,_=>by simp [paidN]
 | n+1,h=>by
   have:=h (f+n) (by omega)
   rw [paidN_succ,paidN_succ,paid_same f n (fun i hi=>h i (by omega)),pv_same this.1 this.2]
theorem fits_same {fare:Int}{c u c' u' :List Int}{x:TicketBox} (h0:0≤x.From) (h1:x.From≤x.To) (h:∀ i:Nat,(i:Int)≤x.To→c.getD i 0=c'.getD i 0∧u.getD i 0=u'.getD i 0):fitsN fare c u x=fitsN fare c' u' x:=by
 unfold fitsN
 rw [paid_same (c' :=c') (u' :=u') _ _ (fun i hi=>h i (by omega))]
structure GoT (b:TicketBook) (d:Nat) (c u:List Int) (t:Ref10_truth):Prop where
 cl:(t.crossed_.length:Int)=b.Tally.Trips
 ul:(t.used_.length:Int)=b.Tally.Trips
 ct:t.crossed_.take d=c
 ut:t.used_.take d=u
 ok:∀ i:Nat,d≤i→(i:Int) < b.Tally.Trips→∃ n s:Nat,t.crossed_.getD i 0=n∧t.used_.getD i 0=s∧(n:Int)≤b.Tally.Room∧s < 8∧okR b i n s=true
 bx:∀ x∈b.Boxes,(d:Int)≤x.To+1→fitsN b.Fare t.crossed_ t.used_ x=true
 can:canR b t.crossed_=true
theorem take_snoc {l c:List Int}{d:Nat}{x:Int} (h:l.take (d+1)=c++[x]) (hc:c.length=d):l.take d=c∧l.getD d 0=x:=by
 constructor
 ·have:(l.take (d+1)).take d=(c++[x]).take d:=by rw [h]
  rw [List.take_take,Nat.min_eq_left (by omega)] at this
  rw [this,List.take_append_of_le_length (by omega),List.take_of_length_le (by omega)]
 ·have:(l.take (d+1)).getD d 0=(c++[x]).getD d 0:=by rw [h]
  rw [getD_take (by omega)] at this
  rw [this,List.getD_eq_getElem?_getD,List.getElem?_append_right (by omega),hc,Nat.sub_self]; rfl
theorem take_more {l c:List Int}{d:Nat}{x:Int} (h:l.take d=c) (hd:d < l.length) (hx:l.getD d 0=x):l.take (d+1)=c++[x]:=by
 rw [List.take_succ_eq_append_getElem hd,h,← hx,List.getD_eq_getElem?_getD,List.getElem?_eq_getElem hd]; rfl
theorem mem_goesL {b:TicketBook} (V:VT b):∀ (r d:Nat) (c u:List Int),PreT b d c u→((d+r:Nat):Int)=b.Tally.Trips→∀ t,t∈goesL b r c u↔GoT b d c u t:=by
 have r0:=V.ta.r0
 have box:∀ (d:Nat) (c u:List Int),PreT b d c u→∀ (t:Ref10_truth),t.crossed_.take d=c→t.used_.take d=u→(boxR b c u=true↔∀ x∈b.Boxes,x.To+1=d→fitsN b.Fare t.crossed_ t.used_ x=true):=by
  intro d c u P t hc hu
  unfold boxR
  rw [List.all_eq_true]
  refine forall_congr' fun x=>forall_congr' fun hx=>?_
  have B:=V.bx x hx
  rw [P.cl,Bool.or_eq_true,Bool.not_eq_true',beq_eq_false_iff_ne]
  constructor
  ·rintro (h | h) he
   ·exact absurd (by omega) h
   ·rw [fits_same (c' :=c) (u' :=u) B.f0 B.ft (fun i hi=>by rw [← hc,← hu,getD_take (by omega),getD_take (by omega)]; exact ⟨rfl,rfl⟩)]; exact h
  ·intro h
   by_cases he:x.To=(d:Int) - 1
   ·right
    rw [fits_same (c' :=t.crossed_) (u' :=t.used_) B.f0 B.ft (fun i hi=>by rw [← hc,← hu,getD_take (by omega),getD_take (by omega)]; exact ⟨rfl,rfl⟩)]
    exact h (by omega)
   ·exact .inl he
 intro r
 induction r with
 | zero=>
   intro d c u P hd t
   have hcl:=P.cl; have hul:=P.ul
   rw [goesL_zero]
   constructor
   ·intro h
    cases hb:boxR b c u with
    | false=>rw [hb,cond_false] at h; simp at h
    | true=>
      rw [hb,cond_true] at h
      cases hr:canR b c with
      | false=>rw [hr,cond_false] at h; simp at h
      | true=>
        rw [hr,cond_true,List.mem_singleton] at h
        subst h
        have tc:c.take d=c:=List.take_of_length_le (by omega)
        have tu:u.take d=u:=List.take_of_length_le (by omega)
        refine ⟨by simp only; omega,by simp only; omega,tc,tu,fun i h1 h2=>by omega,fun x hx hd' =>?_,hr⟩
        have:=(V.bx x hx).tT
        exact (box d c u P ⟨c,u⟩ tc tu).1 hb x hx (by omega)
   ·intro G
    have e1:t.crossed_=c:=by rw [← G.ct,List.take_of_length_le (by have:=G.cl; omega)]
    have e2:t.used_=u:=by rw [← G.ut,List.take_of_length_le (by have:=G.ul; omega)]
    have hb:boxR b c u=true:=(box d c u P t G.ct G.ut).2 fun x hx he=>G.bx x hx (by omega)
    have hr:=G.can
    rw [e1] at hr
    rw [hb,cond_true,hr,cond_true,List.mem_singleton,← e1,← e2]
 | succ r ih=>
   intro d c u P hd t
   have hcl:=P.cl; have hul:=P.ul
   rw [goesL_succ]
   constructor
   ·intro h
    cases hb:boxR b c u with
    | false=>rw [hb,cond_false] at h; simp at h
    | true=>
      rw [hb,cond_true,List.mem_flatMap] at h
      obtain ⟨n,hn,h⟩:=h
      rw [List.mem_flatMap] at h
      obtain ⟨s,hs,h⟩:=h
      have hn:=List.mem_range.1 hn; have hs:=List.mem_range.1 hs
      cases ho:okR b c.length n s with
      | false=>rw [ho,cond_false] at h; simp at h
      | true=>
        rw [ho,cond_true] at h
        have G:=(ih (d+1) _ _ (P.more (by omega) (by omega) hs) (by omega) t).1 h
        obtain ⟨c1,c2⟩:=take_snoc G.ct hcl
        obtain ⟨u1,u2⟩:=take_snoc G.ut hul
        refine ⟨G.cl,G.ul,c1,u1,fun i h1 h2=>?_,fun x hx hd' =>?_,G.can⟩
        ·by_cases hi:i=d
         ·subst hi
          exact ⟨n,s,c2,u2,by omega,hs,by rwa [hcl] at ho⟩
         ·exact G.ok i (by omega) h2
        ·by_cases he:x.To+1=d
         ·exact (box d c u P t c1 u1).1 hb x hx he
         ·exact G.bx x hx (by omega)
   ·intro G
    have hb:boxR b c u=true:=(box d c u P t G.ct G.ut).2 fun x hx he=>G.bx x hx (by omega)
    obtain ⟨n,s,e1,e2,h1,h2,ho⟩:=G.ok d (Nat.le_refl _) (by omega)
    have gl:=G.cl; have gu:=G.ul
    rw [hb,cond_true,List.mem_flatMap]
    refine ⟨n,List.mem_range.2 (by omega),?_⟩
    rw [List.mem_flatMap]
    refine ⟨s,List.mem_range.2 h2,?_⟩
    rw [hcl,ho,cond_true]
    exact (ih (d+1) _ _ (P.more (by omega) h1 h2) (by omega) t).2 ⟨G.cl,G.ul,take_more G.ct (by omega) e1,take_more G.ut (by omega) e2,fun i h1 h2=>G.ok i (by omega) h2,fun x hx hd' =>G.bx x hx (by omega),G.can⟩
theorem pre0 {b:TicketBook} (V:VT b):PreT b 0 [] []:=by
 have:=V.ta.r0; have:=V.ta.t1
 exact ⟨rfl,rfl,by omega,fun i=>by simp; omega,fun i=>by simp⟩
theorem rtruths {b:TicketBook} (V:VT b):∃ L,ref10_truths b=some L∧L.length≤200000∧∀ t,t∈L↔Cl b.Shows∧GoT b 0 [] [] t:=by
 have t1:=V.ta.t1; have t3:=V.t3; have sn:=V.sn
 obtain ⟨⟨i,k⟩,hr,hC⟩:=rclashes (b:=b) (by omega)
 unfold ref10_truths
 rw [hr,Option.bind_some]
 rcases hC with ⟨i',k',x,y,e1,_,_,g1,g2,g3,_⟩ | ⟨e1,hno⟩
 ·simp only at e1
  subst e1
  refine ⟨[],by rw [decide_eq_true (by simp only; omega),cond_true],by simp,fun t=>?_⟩
  simp only [List.not_mem_nil,false_iff]
  rintro ⟨h,_⟩
  have:=cl_iff.1 h x (List.mem_of_getElem? g1) y (List.mem_of_getElem? g2)
  rw [g3] at this; cases this
 ·simp only at e1
  subst e1
  refine ⟨goesL b b.Tally.Trips.toNat [] [],?_,?_,fun t=>?_⟩
  ·rw [decide_eq_false (by simp only; omega),cond_false,goes_eq V b.Tally.Trips.toNat big 0 [] [] (pre0 V) (by omega) (by unfold big; omega)]; rfl
  ·have:=goesL_len V b.Tally.Trips.toNat [] []
   have:48 ^ b.Tally.Trips.toNat≤48 ^ 3:=Nat.pow_le_pow_right (by omega) (by omega)
   omega
  ·rw [mem_goesL V b.Tally.Trips.toNat 0 [] [] (pre0 V) (by omega) t]
   exact ⟨fun h=>⟨noC_cl hno,h⟩,fun h=>h.2⟩
def pad3 (l:List Int):List Int:=(List.range 3).map fun d=>l.getD d 0
theorem pad3_get {l:List Int} (h:l.length≤3) (d:Nat):(pad3 l).getD d 0=l.getD d 0:=by
 unfold pad3
 rw [List.getD_eq_getElem?_getD]
 by_cases hd:d < 3
 ·rw [List.getElem?_map,List.getElem?_range hd]; rfl
 ·rw [List.getElem?_eq_none (by simp; omega),List.getD_eq_getElem?_getD,List.getElem?_eq_none (by omega)]
theorem pad3_take {l:List Int} (h:l.length≤3):(pad3 l).take l.length=l:=by
 refine List.ext_getElem? fun d=>?_
 by_cases hd:d < l.length
 ·rw [List.getElem?_take_of_lt hd]
  unfold pad3
  rw [List.getElem?_map,List.getElem?_range (by omega),Option.map_some,List.getD_eq_getElem?_getD,List.getElem?_eq_getElem hd]; rfl
 ·rw [List.getElem?_eq_none (by rw [List.length_take]; omega),List.getElem?_eq_none (by omega)]
def toT (t:Ref10_truth):Ticket_truth:=⟨pad3 t.crossed_,pad3 t.used_⟩
def Same (t:Ref10_truth) (x:Ticket_truth):Prop:=∀ d,t.crossed_.getD d 0=x.crossed_.getD d 0∧t.used_.getD d 0=x.used_.getD d 0
theorem okR_iff {b:TicketBook} (V:VT b) {d n s:Nat} (hs:s < 8):okR b d n s=true↔Use b s d∧(∀ x∈b.Shows,x.Trip=d→s.testBit x.Ticket.toNat=true)∧popN s≤(n:Int):=by
 obtain ⟨_,c2,c3⟩:=covN_ok V d
 obtain ⟨_,s2,s3⟩:=shwN_ok V d
 unfold okR
 rw [Bool.and_eq_true,Bool.and_eq_true,nandE hs c2,nandE s2 hs,decide_eq_true_iff,and_assoc]
 refine and_congr (forall_congr' fun m=>forall_congr' fun _=>c3 m) (and_congr ?_ Iff.rfl)
 constructor
 ·intro h x hx ht
  have S:=V.sh x hx
  have:=S.n0
  exact h _ ((s3 _).2 ⟨x,hx,ht,by omega⟩)
 ·intro h m hm
  obtain ⟨x,hx,h1,h2⟩:=(s3 m).1 hm
  have:=h x hx h1
  rwa [h2,show ((m:Nat):Int).toNat=m from rfl] at this
theorem canR_iff {b:TicketBook} (V:VT b) {c:List Int} (hl:(c.length:Int)=b.Tally.Trips) (hb:∀ d:Nat,(d:Int) < b.Tally.Trips→0≤c.getD d 0∧c.getD d 0≤b.Tally.Room):canR b c=true↔Fit b.Tally no (pre c):=by
 have T:Tru b.Tally c:=⟨hl,fun n hn=>by
  obtain ⟨d,hd,rfl⟩:=List.getElem_of_mem hn
  have:=hb d (by omega)
  rw [List.getD_eq_getElem?_getD,List.getElem?_eq_getElem hd] at this
  exact this⟩
 obtain ⟨r,h1,h2⟩:=can_law V.ta T
 unfold canR
 rw [h1]
 exact h2
theorem GoT.pre {b:TicketBook} (V:VT b) {t:Ref10_truth} (G:GoT b 0 [] [] t):PreT b b.Tally.Trips.toNat t.crossed_ t.used_:=by
 have:=V.ta.r0; have t1:=V.ta.t1; have gl:=G.cl; have gu:=G.ul
 refine ⟨by omega,by omega,by omega,fun i=>?_,fun i=>?_⟩
 ·by_cases h:(i:Int) < b.Tally.Trips
  ·obtain ⟨n,s,e1,e2,h1,h2,h3⟩:=G.ok i (Nat.zero_le _) h
   rw [e1]; omega
  ·rw [List.getD_eq_getElem?_getD,List.getElem?_eq_none (by omega)]; simp; omega
 ·by_cases h:(i:Int) < b.Tally.Trips
  ·obtain ⟨n,s,e1,e2,h1,h2,h3⟩:=G.ok i (Nat.zero_le _) h
   rw [e2]; omega
  ·rw [List.getD_eq_getElem?_getD,List.getElem?_eq_none (by omega)]; simp
theorem got_tr {b:TicketBook} (V:VT b) {t:Ref10_truth} (hc:Cl b.Shows) (G:GoT b 0 [] [] t):Tr b b.Shows b.Boxes (toT t)∧Same t (toT t):=by
 have t1:=V.ta.t1; have t3:=V.t3; have gl:=G.cl; have gu:=G.ul
 have P:=G.pre V
 have pc:=fun d=>pad3_get (l:=t.crossed_) (by omega) d
 have pu:=fun d=>pad3_get (l:=t.used_) (by omega) d
 have at_:∀ d:Nat,(d:Int) < b.Tally.Trips→∃ n:Nat,t.crossed_.getD d 0=n∧(Use b (t.used_.getD d 0).toNat d∧(∀ x∈b.Shows,x.Trip=d→(t.used_.getD d 0).toNat.testBit x.Ticket.toNat=true)∧popN (t.used_.getD d 0).toNat≤(n:Int)):=fun d hd=>by
  obtain ⟨n,s,e1,e2,h1,h2,h3⟩:=G.ok d (Nat.zero_le _) hd
  refine ⟨n,e1,?_⟩
  rw [e2,show ((s:Nat):Int).toNat=s from rfl]
  exact (okR_iff V h2).1 h3
 refine ⟨⟨hc,by simp [toT,pad3],by simp [toT,pad3],fun d hd=>?_,fun d hd=>?_,fun d hd=>?_,fun d=>?_,fun d hd=>?_,fun d hd=>?_,fun x hx=>?_,?_,fun x hx=>?_⟩,fun d=>⟨(pc d).symm,(pu d).symm⟩⟩
 ·show 0≤(pad3 t.crossed_).getD d 0∧(pad3 t.crossed_).getD d 0≤_
  rw [pc]; exact P.cb d
 ·show (pad3 t.crossed_).getD d 0=0
  rw [pc,List.getD_eq_getElem?_getD,List.getElem?_eq_none (by omega)]; rfl
 ·show (pad3 t.used_).getD d 0=0
  rw [pu,List.getD_eq_getElem?_getD,List.getElem?_eq_none (by omega)]; rfl
 ·show 0≤(pad3 t.used_).getD d 0∧(pad3 t.used_).getD d 0 < 8
  rw [pu]; exact P.ub d
 ·obtain ⟨n,e1,h1,h2,h3⟩:=at_ d hd
  show Use b ((pad3 t.used_).getD d 0).toNat d
  rw [pu]; exact h1
 ·obtain ⟨n,e1,h1,h2,h3⟩:=at_ d hd
  show popN ((pad3 t.used_).getD d 0).toNat≤(pad3 t.crossed_).getD d 0
  rw [pu,pc,e1]; exact h3
 ·have S:=V.sh x hx
  have:=S.t0; have:=S.tT
  obtain ⟨n,e1,h1,h2,h3⟩:=at_ x.Trip.toNat (by omega)
  show ((pad3 t.used_).getD x.Trip.toNat 0).toNat.testBit x.Ticket.toNat=true
  rw [pu]; exact h2 x hx (by omega)
 ·show Fit b.Tally no (Go.Proofs.YtafhljljfglfeaaGreatDoor.pre ((pad3 t.crossed_).take b.Tally.Trips.toNat))
  rw [show b.Tally.Trips.toNat=t.crossed_.length by omega,pad3_take (by omega)]
  exact (canR_iff V gl (fun d _=>P.cb d)).1 G.can
 ·have B:=V.bx x hx
  show fitsN b.Fare (pad3 t.crossed_) (pad3 t.used_) x=true
  rw [fits_same (c' :=t.crossed_) (u' :=t.used_) B.f0 B.ft (fun i _=>⟨pc i,pu i⟩)]
  exact G.bx x hx (by have:=B.f0; have:=B.ft; omega)
theorem tr_got {b:TicketBook} (V:VT b) {x:Ticket_truth} (h:Tr b b.Shows b.Boxes x):Cl b.Shows∧∃ t,GoT b 0 [] [] t∧Same t x:=by
 have t1:=V.ta.t1; have t3:=V.t3; have c3:=h.c3; have u3:=h.u3; have r0:=V.ta.r0
 have g:∀ (l:List Int),(∀ d:Nat,b.Tally.Trips≤d→l.getD d 0=0)→∀ d,(l.take b.Tally.Trips.toNat).getD d 0=l.getD d 0:=fun l hz d=>by
  by_cases hd:d < b.Tally.Trips.toNat
  ·exact getD_take hd
  ·rw [hz d (by omega),List.getD_eq_getElem?_getD,List.getElem?_eq_none (by rw [List.length_take]; omega)]; rfl
 have gc:=g _ h.cz; have gu:=g _ h.uz
 refine ⟨h.cl,⟨x.crossed_.take b.Tally.Trips.toNat,x.used_.take b.Tally.Trips.toNat⟩,⟨by simp only [List.length_take]; omega,by simp only [List.length_take]; omega,by simp,by simp,fun i _ hi=>?_,fun y hy _=>?_,?_⟩,fun d=>⟨gc d,gu d⟩⟩
 ·have cr:=h.cr i hi; have ub:=h.ub i
  refine ⟨(x.crossed_.getD i 0).toNat,(x.used_.getD i 0).toNat,by simp only; rw [gc]; omega,by simp only; rw [gu]; omega,by omega,by omega,(okR_iff V (by omega)).2 ⟨h.us i hi,fun y hy ht=>?_,by have:=h.pc i hi; omega⟩⟩
  have:=h.sw y hy
  rwa [ht,show ((i:Nat):Int).toNat=i from rfl] at this
 ·have B:=V.bx y hy
  simp only
  rw [fits_same (c' :=x.crossed_) (u' :=x.used_) B.f0 B.ft (fun i _=>⟨gc i,gu i⟩)]
  exact h.bx y hy
 ·refine (canR_iff V (by simp only [List.length_take]; omega) (fun d hd=>?_)).2 h.can
  simp only
  rw [gc]; exact h.cr d hd
theorem rcan {b:TicketBook} (V:VT b) {L:List Ref10_truth} (hL:∀ t,t∈L↔Cl b.Shows∧GoT b 0 [] [] t):L=[]↔¬Can b:=by
 constructor
 ·rintro rfl ⟨x,hx⟩
  obtain ⟨h,t,G,_⟩:=tr_got V hx
  exact List.not_mem_nil ((hL t).2 ⟨h,G⟩)
 ·intro h
  refine List.eq_nil_iff_forall_not_mem.2 fun t ht=>h ?_
  obtain ⟨hc,G⟩:=(hL t).1 ht
  exact ⟨_,(got_tr V hc G).1⟩
end Go.Proofs.YtafhljljfglfeaaGreatDoor
namespace Go.Proofs.YtafhljljfglfeaaGreatDoor
open Go Go.Fx Go.Proofs
end Go.Proofs.YtafhljljfglfeaaGreatDoor
namespace Go.Proofs.YtafhljljfglfeaaGreatDoor
open Go Go.Fx
theorem keptL {α:Type}{body:(Bool×Int→Option Bool)→Bool×Int→Option Bool} (l:List α) (hl:l.length≤9223372036854775806) (hs:∀ rec (k:Nat) (h:k < l.length),body rec (true,(k:Int))=rec (true,((k+1:Nat):Int))) (he:∀ rec,body rec (true,(l.length:Int))=some true):loopF body big (true,0)=some true:=by
 refine loopF_spec (body:=body) (fun z:Bool×Int=>∃ k:Nat,z=(true,(k:Int))∧k≤l.length) (fun z=>l.length - z.2.toNat) (fun _=>true) ?_ big (true,0) ⟨0,rfl,Nat.zero_le _⟩ (by unfold big; simp; omega)
 rintro rec z ⟨k,rfl,hk⟩ ih
 by_cases h:k < l.length
 ·rw [hs rec k h]
  exact ih _ ⟨k+1,rfl,h⟩ (by simp only; omega)
 ·have:k=l.length:=by omega
  subst this
  exact he rec
theorem keptT (b:TicketBook) (A:ArgT b) (hc:b.Tally.Counts.length≤9223372036854775806) (ht:b.Tickets.length≤9223372036854775806) (hs:b.Shows.length≤9223372036854775806) (hx:b.Boxes.length≤9223372036854775806):B_KeptTicket b b=some true:=by
 have k1:B_KeptTickets b.Tickets b.Tickets=some true:=by
  unfold B_KeptTickets
  rw [beq_self_eq_true]
  refine keptL b.Tickets ht (fun rec k h=>?_) (fun rec=>?_)
  ·unfold B_KeptTickets_l1
   simp only
   rw [cond_true,decide_eq_true (by omega),cond_true,getI_nat,List.getElem?_eq_getElem h,Option.bind_some,Option.bind_some,wrI (by omega) (by omega)]
   simp only [beq_self_eq_true,Bool.and_self]; rfl
  ·unfold B_KeptTickets_l1
   simp only
   rw [cond_true,decide_eq_false (by omega),cond_false]
 have k2:B_KeptShows b.Shows b.Shows=some true:=by
  unfold B_KeptShows
  rw [beq_self_eq_true]
  refine keptL b.Shows hs (fun rec k h=>?_) (fun rec=>?_)
  ·unfold B_KeptShows_l1
   simp only
   rw [cond_true,decide_eq_true (by omega),cond_true,getI_nat,List.getElem?_eq_getElem h,Option.bind_some,Option.bind_some,wrI (by omega) (by omega)]
   simp only [beq_self_eq_true,Bool.and_self]; rfl
  ·unfold B_KeptShows_l1
   simp only
   rw [cond_true,decide_eq_false (by omega),cond_false]
 have k3:B_KeptBoxes b.Boxes b.Boxes=some true:=by
  unfold B_KeptBoxes
  rw [beq_self_eq_true]
  refine keptL b.Boxes hx (fun rec k h=>?_) (fun rec=>?_)
  ·unfold B_KeptBoxes_l1
   simp only
   rw [cond_true,decide_eq_true (by omega),cond_true,getI_nat,List.getElem?_eq_getElem h,Option.bind_some,Option.bind_some,wrI (by omega) (by omega)]
   simp only [beq_self_eq_true,Bool.and_self]; rfl
  ·unfold B_KeptBoxes_l1
   simp only
   rw [cond_true,decide_eq_false (by omega),cond_false]
 unfold B_KeptTicket
 rw [kept_eq _ hc,Option.bind_some,cond_true,beq_self_eq_true,cond_true,k1,Option.bind_some,cond_true,k2,Option.bind_some,cond_true,k3,Option.bind_some]
theorem ownT {b:TicketBook} (hc:b.Tally.Counts.length*56≤140737488355328) (ht:b.Tickets.length*16≤140737488355328) (hs:b.Shows.length*24≤140737488355328) (hx:b.Boxes.length*32≤140737488355328):B_OwnTicket b=some b:=by
 unfold B_OwnTicket B_OwnTickets B_OwnShows B_OwnBoxes
 rw [own_eq hc,Option.bind_some,need_of (by unfold fitsL; simpa using ht),Option.bind_some,need_of (by unfold fitsL; simpa using hs),Option.bind_some,need_of (by unfold fitsL; simpa using hx),Option.bind_some]
theorem asked_badT {b:TicketBook} (A:ArgT b) (hv:valT b=false) (o:Bool):∃ x,ticket_asked b o=some (x,100):=by
 unfold ticket_asked
 rw [checkT_eq b A,hv]
 exact ⟨_,rfl⟩
theorem rasked_badT {b:TicketBook} (A:ArgT b) (hv:valT b=false) (o:Bool):ref10_asked b o=some ([],100):=by
 unfold ref10_asked
 rw [rcheckT_eq b A,hv]; rfl
theorem rcheckT_ok {b:TicketBook} (V:VT b):ref10_Check b=some 0:=by rw [rcheckT_eq b V.arg,valT_iff.2 V]; rfl
theorem rasked_noT {b:TicketBook} (V:VT b):ref10_asked b false=some ([],101):=by
 unfold ref10_asked
 rw [rcheckT_ok V]; rfl
def Tru10 (b:TicketBook) (L:List Ref10_truth):Prop:=L.length≤200000∧∀ t,t∈L↔Cl b.Shows∧GoT b 0 [] [] t
theorem raskedT {b:TicketBook} (V:VT b):∃ L e,ref10_asked b true=some (L,e)∧((e=0∧Can b∧L≠[]∧Tru10 b L)∨(e=102∧L=[]∧¬Can b)):=by
 obtain ⟨L,hr,hl,hm⟩:=rtruths V
 have hc:=rcan V hm
 unfold ref10_asked
 rw [rcheckT_ok V,Option.bind_some]
 simp only [bne_self_eq_false,cond_false,Bool.not_true]
 rw [hr,Option.bind_some]
 cases hL:L with
 | nil=>
   subst hL
   exact ⟨[],102,rfl,.inr ⟨rfl,rfl,hc.1 rfl⟩⟩
 | cons t l=>
   rw [← hL]
   have hn:L≠[]:=by rw [hL]; simp
   refine ⟨L,0,?_,.inl ⟨rfl,Classical.byContradiction fun h=>hn (hc.2 h),hn,hl,hm⟩⟩
   rw [show ((L.length:Int)==0)=false by rw [beq_eq_false_iff_ne,hL]; simp; omega,cond_false]
end Go.Proofs.YtafhljljfglfeaaGreatDoor
/- The law of each ticket that pays once holds for every book, whatever is taken to be true. -/
import Derived.Test.YtafhljljfglfeaaDoorZGWTicketTrue
set_option linter.unusedVariables false
set_option linter.unusedSimpArgs false
namespace Go.Proofs.YtafhljljfglfeaaDoor
open Go Go.Fx
def rightB (b:TicketBook) (cs:List TallyCount) (sh:List TicketShow) (bx:List TicketBox):TicketBook:=⟨⟨b.Tally.Trips,b.Tally.Room,cs⟩,b.Fare,b.Tickets,sh,bx⟩
theorem right_vt {b:TicketBook} (V:VT b) {k:Law10_known}{cs:List TallyCount}{sh:List TicketShow}{bx:List TicketBox} (R:Rgh b k cs sh bx):VT (rightB b cs sh bx):=
 ⟨⟨V.ta.t1,V.ta.t8,V.ta.r0,V.ta.r60,R.c8,fun y hy=>cnt_iff.2 (R.cs y hy).1⟩,V.t3,V.r5,V.f1,V.f20,V.tn,R.s5,R.b3,V.te,fun y hy=>(R.sh y hy).shw,fun y hy=>(R.bx y hy).1⟩
theorem usedK {b:TicketBook} (V:VT b) {k:Law10_known} (K:KnT b k) {n d:Nat} (hn:n < b.Tickets.length) (hd:(d:Int) < b.Tally.Trips):∃ r x,k.users_[d]? =some r∧r[n]? =some x∧(usedB (trOfK k) n d=true↔0≤x):=by
 have tn:=V.tn
 obtain ⟨c,r,e1,e2,_,_,R,g1,g2⟩:=K.at hd
 have hl:=R.len
 have ew:=List.getElem?_eq_getElem (show n < r.length by omega)
 refine ⟨r,_,e2,ew,?_⟩
 unfold usedB
 rw [trK_u V K,g2,show (((setR r:Nat):Int)).toNat=setR r from rfl,setR_bit r (by omega),List.getD_eq_getElem?_getD,ew]
 rfl
theorem right_tr {b:TicketBook} (V:VT b) {k:Law10_known} (K:KnT b k) {cs:List TallyCount}{sh:List TicketShow}{bx:List TicketBox} (R:Rgh b k cs sh bx):Tr (rightB b cs sh bx) sh bx (trOfK k):=by
 have t3:=V.t3; have t1:=V.ta.t1; have tn:=V.tn; have hcl:=K.c; have hul:=K.u
 have users:∀ y∈sh,∃ r x,k.users_[y.Trip.toNat]? =some r∧r[y.Ticket.toNat]? =some y.Walker∧RowT b y.Trip.toNat x r:=fun y hy=>by
  obtain ⟨S,r,e1,e2⟩:=R.sh y hy
  have:=S.t0; have:=S.tT
  obtain ⟨c,r',f1,f2,_,_,Rw,_,_⟩:=K.at (d:=y.Trip.toNat) (by omega)
  rw [e1] at f2; cases f2
  exact ⟨r,c,e1,e2,Rw⟩
 refine ⟨fun x hx y hy ht=>?_,by simp [trOfK],by simp [trOfK],fun d hd=>?_,fun d hd=>?_,fun d hd=>?_,fun d=>?_,fun d hd n hn=>?_,fun d hd=>?_,fun y hy=>?_,?_,fun y hy=>(R.bx y hy).2⟩
 ·obtain ⟨r,a,e1,e2,Rw⟩:=users x hx
  obtain ⟨r',a',e1',e2',Rw'⟩:=users y hy
  have sx:=(R.sh x hx).shw; have sy:=(R.sh y hy).shw
  have:=sx.n0; have:=sy.n0; have:=sx.w0
  rw [ht,e1'] at e1; cases e1
  constructor
  ·intro h
   rw [h,e2'] at e2
   exact (Option.some.inj e2).symm
  ·intro h
   rw [← h] at e2'
   have:=Rw'.inj _ _ _ e2 e2' sx.w0
   omega
 ·rw [trK_c V K]
  have hd:(d:Int) < b.Tally.Trips:=hd
  obtain ⟨c,r,e1,e2,h0,h1,Rw,g1,g2⟩:=K.at hd
  rw [g1]; exact ⟨h0,h1⟩
 ·have hd:b.Tally.Trips≤d:=hd
  rw [trK_c V K,List.getD_eq_getElem?_getD,List.getElem?_eq_none (by omega)]; rfl
 ·have hd:b.Tally.Trips≤d:=hd
  rw [trK_u V K,List.getD_eq_getElem?_getD,List.getElem?_eq_none (by omega)]; rfl
 ·rw [trK_u V K]
  have:=setR_lt (k.users_.getD d [])
  omega
 ·have hd:(d:Int) < b.Tally.Trips:=hd
  obtain ⟨c,r,e1,e2,h0,h1,Rw,g1,g2⟩:=K.at hd
  rw [trK_u V K,g2,show (((setR r:Nat):Int)).toNat=setR r from rfl] at hn
  by_cases h3:n < 3
  ·have hb:=(setR_bit r h3).1 hn
   by_cases hl:n < r.length
   ·have ew:=List.getElem?_eq_getElem hl
    rw [List.getD_eq_getElem?_getD,ew] at hb
    exact Rw.ins n _ ew hb
   ·rw [List.getD_eq_getElem?_getD,List.getElem?_eq_none (by omega)] at hb
    exact absurd hb (by decide)
  ·rw [bit_out (setR_lt r) (by omega)] at hn; cases hn
 ·have hd:(d:Int) < b.Tally.Trips:=hd
  obtain ⟨c,r,e1,e2,h0,h1,Rw,g1,g2⟩:=K.at hd
  rw [trK_u V K,trK_c V K,g1,g2,show (((setR r:Nat):Int)).toNat=setR r from rfl,setR_pop]
  exact Rw.cnt
 ·have S:=(R.sh y hy).shw
  have:=S.t0; have:=S.tT; have:=S.n0; have:=S.nm; have:=S.w0
  obtain ⟨r,a,e1,e2,Rw⟩:=users y hy
  have hl:=Rw.len
  rw [trK_u V K,show k.users_.getD y.Trip.toNat []=r by rw [List.getD_eq_getElem?_getD,e1]; rfl,show (((setR r:Nat):Int)).toNat=setR r from rfl,setR_bit r (by omega),List.getD_eq_getElem?_getD,e2]
  exact S.w0
 ·show Fit _ no (pre ((trOfK k).crossed_.take b.Tally.Trips.toNat))
  rw [takeK V K]
  refine ⟨fun d hd=>?_,fun i y hy _=>(R.cs y (List.mem_of_getElem? hy)).2⟩
  have hd:(d:Int) < b.Tally.Trips:=hd
  obtain ⟨c,r,e1,e2,h0,h1,Rw,g1,g2⟩:=K.at hd
  rw [pre_succ e1]
  show _+c≤_+b.Tally.Room∧_
  omega
theorem can_no {b:TicketBook}:CanO b []↔Can b:=by
 unfold CanO Can
 have:inL []=fun _=>false:=funext fun k=>by simp [inL]
 rw [this,outS_no,outX_no]
theorem contains_eq {s:Span}{n:Int} (h:s.Low≤n∧n≤s.High):B_Contains s n=some true:=by
 unfold B_Contains
 rw [inside_eq,Option.bind_some,inB_iff.2 h]
theorem law_ticketTrue (b:TicketBook) (A:ArgT b) (bits:List Int) (hb:bits.length≤9223372036854775807) (n:List Int):law_TicketTrue b bits n=some true:=by
 unfold law_TicketTrue
 rw [soundT_eq b A,Option.bind_some]
 cases hv:valT b with
 | false=>rw [Bool.not_false,cond_true,punched_t]; rfl
 | true=>
   have V:=valT_iff.1 hv
   have t1:=V.ta.t1; have t3:=V.t3; have tn:=V.tn
   rw [Bool.not_true,cond_false]
   obtain ⟨k,hk,K⟩:=truly_law V hb
   obtain ⟨x,hx,cs,sh,bx,rfl,R⟩:=rightly_law V K
   have W:=right_vt V R
   have T:Tr (rightB b cs sh bx) (rightB b cs sh bx).Shows (rightB b cs sh bx).Boxes (trOfK k):=right_tr V K R
   have C:Can (rightB b cs sh bx):=⟨_,T⟩
   obtain ⟨is,e1,hI⟩:=right_law W
   obtain ⟨w,ew,e2,hF⟩:=wrong_law W
   obtain ⟨⟨cf,cg,ce⟩,e3,hP⟩:=clash_law W
   rw [hk,Option.bind_some,hx,Option.bind_some]
   show ((ticket_Right (rightB b cs sh bx)).bind _)=_
   rw [e1,Option.bind_some]
   show ((ticket_Wrong (rightB b cs sh bx)).bind _)=_
   rw [e2,Option.bind_some]
   show ((ticket_Clash (rightB b cs sh bx)).bind _)=_
   rw [e3,Option.bind_some]
   have hall:CanO (rightB b cs sh bx) []:=can_no.2 C
   rcases hF with ⟨rfl,F⟩ | ⟨_,_,h⟩
   rotate_left
   ·exact absurd hall (h _ Clm.nil)
   have hw0:=F.len [] Clm.nil hall
   rcases hP with ⟨_,i,j,x,y,_,_,_,g4,g5,g6,_⟩ | ⟨h0,_,_,_⟩
   ·exact absurd C (no_can (List.mem_of_getElem? g4) (List.mem_of_getElem? g5) g6)
   simp only at h0
   subst h0
   simp only [bne_self_eq_false,cond_false]
   rw [hI.2 C,Bool.not_true,cond_false,show ((w.length:Int) != 0)=false by simp at hw0; simp [hw0],cond_false]
   obtain ⟨f,t,m1,m2,m3,h⟩:=trips_in V (aget n 0) (aget n 1)
   obtain ⟨s,es,k1,c1⟩:=paid_law W (f:=f) (t:=t) h
   obtain ⟨f,rfl⟩:=Int.eq_ofNat_of_zero_le h.1
   have hf:(f:Int) < b.Tally.Trips:=by omega
   obtain ⟨mu,e4,k2,c2⟩:=must_law W (d:=f) hf
   obtain ⟨ma,e5,k3,c3⟩:=may_law W (d:=f) hf
   rcases c1 with ⟨rfl,_,S⟩ | ⟨_,_,h⟩
   rotate_left
   ·exact absurd C h
   rcases c2 with ⟨rfl,_,M⟩ | ⟨_,_,h⟩
   rotate_left
   ·exact absurd C h
   rcases c3 with ⟨rfl,_,Y⟩ | ⟨_,_,h⟩
   rotate_left
   ·exact absurd C h
   have M:Lst b.Tickets.length (fun n=>∀ t,Tr (rightB b cs sh bx) (rightB b cs sh bx).Shows (rightB b cs sh bx).Boxes t→usedB t n f=true) mu:=M
   have Y:Lst b.Tickets.length (fun n=>∃ t,Tr (rightB b cs sh bx) (rightB b cs sh bx).Shows (rightB b cs sh bx).Boxes t∧usedB t n f=true) ma:=Y
   have l1:=M.clm.len (by omega); have l2:=Y.clm.len (by omega)
   rw [m1,Option.bind_some,m2,Option.bind_some,m3,Option.bind_some]
   show ((ticket_Paid (rightB b cs sh bx) (f:Int) t).bind _)=_
   rw [k1,Option.bind_some]
   show ((ticket_Must (rightB b cs sh bx) (f:Int)).bind _)=_
   rw [k2,Option.bind_some]
   show ((ticket_May (rightB b cs sh bx) (f:Int)).bind _)=_
   rw [k3,Option.bind_some]
   simp only [bne_self_eq_false,cond_false]
   rw [(paidK V K h).1,Option.bind_some,contains_eq (S.all _ T),Option.bind_some,Bool.not_true,cond_false,climbs_eq M.clm (by omega) (by omega) (by omega),Option.bind_some,Bool.not_true,cond_false,climbs_eq Y.clm (by omega) (by omega) (by omega),Option.bind_some,Bool.not_true,cond_false]
   refine loopF_spec (body:=law_TicketTrue_l4 b k f (mu,0) (ma,0) n (rightB b cs sh bx)) (fun z:Int=>∃ i:Nat,z=i∧i≤b.Tickets.length) (fun z=>b.Tickets.length - z.toNat) (fun _=>true) ?_ big 0 ⟨0,rfl,Nat.zero_le _⟩ (by unfold big; simp; omega)
   rintro rec z ⟨i,rfl,hi⟩ ih
   unfold law_TicketTrue_l4
   by_cases hlt:i < b.Tickets.length
   ·obtain ⟨r,v,q1,q2,q3⟩:=usedK V K hlt hf
    obtain ⟨r1,a1,a2,a3⟩:=at_loop mu i (by omega)
    obtain ⟨r2,b1,b2,b3⟩:=at_loop ma i (by omega)
    have next:rec ((i:Int)+1)=some true:=ih _ ⟨i+1,by simp,by omega⟩ (by (try simp only); omega)
    rw [decide_eq_true (by omega),cond_true,getI_nat,q1,Option.bind_some,getI_nat,q2,Option.bind_some,a1,Option.bind_some,b1,Option.bind_some,wrI (x:=(i:Int)+1) (by omega) (by omega),next]
    have may:r2 < 0→¬0≤v:=fun h hv=>b3.1 h ((Y.mem i).2 ⟨hlt,_,T,q3.2 hv⟩)
    have tail:(bif decide (r2 < 0) then (bif decide (v≥0) then (some false) else (some true)) else (some true))=some true:=by
     by_cases h2:r2 < 0
     ·rw [decide_eq_true h2,cond_true,decide_eq_false (may h2),cond_false]
     ·rw [decide_eq_false h2,cond_false]
    by_cases h1:r1≥0
    ·have hu:=q3.1 (((M.mem i).1 (a2.1 h1)).2 _ T)
     rw [decide_eq_true h1,cond_true,decide_eq_true (show v≥0 from hu),Bool.not_true,cond_false]
     rw [decide_eq_true (show v≥0 from hu)] at tail
     exact tail
    ·rw [decide_eq_false h1,cond_false]
     exact tail
   ·rw [decide_eq_false (by omega),cond_false]
    by_cases h0:b.Tickets.length=0
    ·rw [show ((b.Tickets.length:Int)==0)=true by simp [h0],cond_true,punched_t]; rfl
    rw [show ((b.Tickets.length:Int)==0)=false by rw [beq_eq_false_iff_ne]; omega,cond_false]
    obtain ⟨o,ho,o0,o1⟩:=mod_ok (aget n 2) b.Tickets.length (by omega) (by omega)
    obtain ⟨o,rfl⟩:=Int.eq_ofNat_of_zero_le o0
    obtain ⟨u,eu,k7,c7⟩:=saved_law W (n:=o) (by show o < b.Tickets.length; omega)
    rcases c7 with ⟨rfl,_,U⟩ | ⟨_,_,h⟩
    rotate_left
    ·exact absurd C h
    rw [ho,Option.bind_some]
    refine loopF_spec (body:=law_TicketTrue_l3 b k o (rightB b cs sh bx)) (fun z:Int×Int=>∃ d:Nat,z.2=d∧(d:Int)≤b.Tally.Trips∧z.1=useTo o (trOfK k) d∧0≤z.1∧z.1≤d) (fun z=>b.Tally.Trips.toNat - z.2.toNat) (fun _=>true) ?_ big (0,0) ⟨0,rfl,by omega,rfl,Int.le_refl _,Int.le_refl _⟩ (by unfold big; simp; omega)
    rintro rec ⟨z1,z2⟩ ⟨d,h1,h2,h3,h4,h5⟩ ih
    simp only at h1 h3 h4 h5
    subst h1
    unfold law_TicketTrue_l3
    simp only
    by_cases hd:(d:Int) < b.Tally.Trips
    ·obtain ⟨r,v,q1,q2,q3⟩:=usedK V K (n:=o) (by omega) hd
     rw [decide_eq_true hd,cond_true,getI_nat,q1,Option.bind_some,getI_nat,q2,Option.bind_some,wrI (x:=(d:Int)+1) (by omega) (by omega),wrI (x:=z1+1) (by omega) (by omega)]
     by_cases hv:v≥0
     ·rw [decide_eq_true hv,cond_true]
      refine ih _ ⟨d+1,by simp,by omega,?_,by simp only; omega,by simp only; omega⟩ (by (try simp only); omega)
      unfold useTo
      rw [q3.2 hv,h3]; rfl
     ·rw [decide_eq_false hv,cond_false]
      refine ih _ ⟨d+1,by simp,by omega,?_,by simp only; omega,by simp only; omega⟩ (by (try simp only); omega)
      unfold useTo
      rw [Bool.eq_false_iff.2 (fun h=>hv (q3.1 h)),h3]; simp
    ·have hdT:d=b.Tally.Trips.toNat:=by omega
     have ue:=useTo_end W T o
     have ue:useTo o (trOfK k) b.Tally.Trips.toNat=useC o (trOfK k):=ue
     rw [decide_eq_false hd,cond_false]
     show ((ticket_Saved (rightB b cs sh bx) (o:Int)).bind _)=_
     rw [k7,Option.bind_some]
     simp only [beq_self_eq_true,cond_true]
     rw [h3,hdT,ue,contains_eq (U.all _ T),Option.bind_some,cond_true,punched_t]; rfl
end Go.Proofs.YtafhljljfglfeaaDoor
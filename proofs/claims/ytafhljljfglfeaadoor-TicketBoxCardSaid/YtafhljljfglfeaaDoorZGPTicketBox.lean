/- Sets of tickets as numbers: what is in one and not in the other. -/
import Derived.Test.YtafhljljfglfeaaDoorZGPToldT
import Derived.Test.YtafhljljfglfeaaDoorZGWAll
import Derived.KernelRfl
set_option linter.unusedVariables false
set_option linter.unusedSimpArgs false
namespace Go.Proofs.YtafhljljfglfeaaDoor
open Go Go.Fx
theorem nand_all:((List.range 8).all fun s=>(List.range 8).all fun t=>!(s &&& t==s)||decide (andNotI ((s:Nat):Int) ((t:Nat):Int)=0))=true:=by kernel_rfl
theorem nand_nat {s t:Nat} (h:s < 8) (k:t < 8) (hs:∀ n,s.testBit n=true→t.testBit n=true):andNotI (s:Int) (t:Int)=0:=by
 have:=List.all_eq_true.1 (List.all_eq_true.1 nand_all s (List.mem_range.2 h)) t (List.mem_range.2 k)
 have e:s &&& t=s:=by rw [Nat.and_comm]; exact and_sub.2 hs
 rw [e,beq_self_eq_true,Bool.not_true,Bool.false_or] at this
 exact of_decide_eq_true this
theorem setOf_eq {l:List Int}{n:Int} (h:Clm l n) (hn:n≤3) (hl:l.length≤1000):∃ s:Nat,B_SetOf l=some (s:Int)∧s < 8∧∀ k:Nat,s.testBit k=true↔(k:Int)∈l:=by
 unfold B_SetOf
 refine Exists.elim (loopF_inv (body:=B_SetOf_l1 l) (fun z:Int×Int=>∃ s k:Nat,z.1=s∧z.2=k∧k≤l.length∧s < 8∧∀ j:Nat,s.testBit j=true↔(j:Int)∈l.take k) (fun z=>l.length - z.2.toNat) (fun r=>∃ s:Nat,r=(s:Int)∧s < 8∧∀ k:Nat,s.testBit k=true↔(k:Int)∈l) ?_ big (0,0) ⟨0,0,rfl,rfl,Nat.zero_le _,by decide,fun j=>by simp⟩ (by unfold big; simp; omega)) fun r ⟨h1,s,h2,h3⟩=>⟨s,by rw [h1,h2],h3⟩
 rintro rec ⟨z1,z2⟩ ⟨s,k,h1,h2,h3,h4,h5⟩ ih
 simp only at h1 h2 ih
 subst h1 h2
 unfold B_SetOf_l1
 simp only
 by_cases hk:k < l.length
 ·have hx:=h k _ (List.getElem?_eq_getElem hk)
  have ho:=or_small (s:=s) (t:=l[k].toNat) h4 (by omega)
  rw [decide_eq_true (by omega),cond_true,getI_ix hk,Option.bind_some,need_of (by simp; omega),wrI (by omega) (by omega),show shlI 1 l[k]=shlI 1 ((l[k].toNat:Nat):Int) by rw [show ((l[k].toNat:Nat):Int)=l[k] by omega],ho.1]
  refine ih _ ⟨_,k+1,rfl,by simp,hk,ho.2,fun j=>?_⟩ (by simp only; omega)
  rw [Nat.testBit_or,Bool.or_eq_true,h5,Nat.testBit_two_pow,decide_eq_true_eq,List.take_succ_eq_append_getElem hk,List.mem_append,List.mem_singleton]
  constructor
  ·rintro (h | h)
   ·exact .inl h
   ·exact .inr (by omega)
  ·rintro (h | h)
   ·exact .inl h
   ·exact .inr (by omega)
 ·rw [decide_eq_false (by omega),cond_false]
  rw [List.take_of_length_le (by omega)] at h5
  exact ⟨_,rfl,s,rfl,h4,h5⟩
theorem covers_eq {s t:Span} (h:s.Low≤t.Low∧t.High≤s.High):B_Covers s t=some true:=by
 unfold B_Covers
 rw [decide_eq_true (by omega),cond_true,decide_eq_true (by omega)]
end Go.Proofs.YtafhljljfglfeaaDoor
namespace Go.Proofs.YtafhljljfglfeaaDoor
open Go Go.Fx
set_option maxRecDepth 100000 in
theorem punched_t:law_punched=some true:=by kernel_rfl
end Go.Proofs.YtafhljljfglfeaaDoor
namespace Go.Proofs.YtafhljljfglfeaaDoor
open Go Go.Fx Go.Proofs
def law_TicketBox (a0:TicketBook) (a1:TicketBox) (a2:List Int):Option Bool:=
 (law_sound a0).bind fun r25=>
 bif !r25 then ((law_punched).bind fun r30=>
 some r30)
 else (bif ((a0.Boxes.length:Int)==3) then ((law_punched).bind fun r35=>
 some r35)
 else ((ticket_Fits a0 a1).bind fun r39=>
 (ticket_Right a0).bind fun r43=>
 (law_with a0 a1).bind fun r47=>
 (ticket_Check (TicketBook.mk (TallyBook.mk r47.Tally.Trips r47.Tally.Room a0.Tally.Counts) r47.Fare a0.Tickets a0.Shows r47.Boxes)).bind fun r62=>
 bif (r62 != 0) then (bif (r39.2==101) then (bif !r39.1 then ((law_punched).bind fun r69=>
 some r69)
 else (some false))
 else (some false))
 else ((ticket_Right (TicketBook.mk (TallyBook.mk r47.Tally.Trips r47.Tally.Room a0.Tally.Counts) r47.Fare a0.Tickets a0.Shows r47.Boxes)).bind fun r73=>
 bif !r43.1 then (bif (r43.2==0) then (bif (r39.2==102) then (bif (r73.2==0) then (bif !r73.1 then (bif !r39.1 then ((law_punched).bind fun r83=>
 some r83)
 else (some false))
 else (some false))
 else (some false))
 else (some false))
 else (some false))
 else (bif (r39.2 != 0) then (some false)
 else (bif (r43.2 != 0) then (some false)
 else (bif (r73.2 != 0) then (some false)
 else (bif (r39.1 != r73.1) then (some false)
 else (bif !r73.1 then ((law_punched).bind fun r92=>
 some r92)
 else ((B_Mod (aget a2 0) a0.Tally.Trips).bind fun r96=>
 (ticket_Paid a0 r96 r96).bind fun r100=>
 (ticket_Paid (TicketBook.mk (TallyBook.mk r47.Tally.Trips r47.Tally.Room a0.Tally.Counts) r47.Fare a0.Tickets a0.Shows r47.Boxes) r96 r96).bind fun r109=>
 (ticket_Must a0 r96).bind fun r118=>
 (ticket_Must (TicketBook.mk (TallyBook.mk r47.Tally.Trips r47.Tally.Room a0.Tally.Counts) r47.Fare a0.Tickets a0.Shows r47.Boxes) r96).bind fun r127=>
 (ticket_May a0 r96).bind fun r136=>
 (ticket_May (TicketBook.mk (TallyBook.mk r47.Tally.Trips r47.Tally.Room a0.Tally.Counts) r47.Fare a0.Tickets a0.Shows r47.Boxes) r96).bind fun r145=>
 bif (r100.2 != 0) then (some false)
 else (bif (r109.2 != 0) then (some false)
 else (bif (r118.2 != 0) then (some false)
 else (bif (r127.2 != 0) then (some false)
 else (bif (r136.2 != 0) then (some false)
 else (bif (r145.2 != 0) then (some false)
 else ((B_Covers r100.1 r109.1).bind fun r160=>
 bif !r160 then (some false)
 else ((B_SetOf r118.1).bind fun r165=>
 (B_SetOf r127.1).bind fun r169=>
 bif ((andNotI r165 r169) != 0) then (some false)
 else ((B_SetOf r145.1).bind fun r174=>
 (B_SetOf r136.1).bind fun r178=>
 bif ((andNotI r174 r178) != 0) then (some false)
 else (bif ((a0.Tickets.length:Int)==0) then ((law_punched).bind fun r184=>
 some r184)
 else ((B_Mod (aget a2 1) (a0.Tickets.length:Int)).bind fun r188=>
 (ticket_Saved a0 r188).bind fun r192=>
 (ticket_Saved (TicketBook.mk (TallyBook.mk r47.Tally.Trips r47.Tally.Room a0.Tally.Counts) r47.Fare a0.Tickets a0.Shows r47.Boxes) r188).bind fun r201=>
 bif (r192.2==0) then (bif (r201.2==0) then ((B_Covers r192.1 r201.1).bind fun r212=>
 bif r212 then ((law_punched).bind fun r217=>
 some r217)
 else (some false))
 else (some false))
 else (some false))))))))))))))))))))
set_option maxRecDepth 100000 in
theorem law_TicketBox_ok {a0:TicketBook}{a1:TicketBox}{a2:List Int}{A1:Option Addr}{c2:Nat}{A4:Option Addr}{c5:Nat}{A7:Option Addr}{c8:Nat}{A10:Option Addr}{c11:Nat}{w:World}{r:Bool} (H:law_TicketBox a0 a1 a2=some r) (h3:(rd eTallyCount 7 A1 c2 a0.Tally.Counts).ok w) (h6:(rd eTicketSeason 2 A4 c5 a0.Tickets).ok w) (h9:(rd eTicketShow 3 A7 c8 a0.Shows).ok w) (h12:(rd eTicketBox 4 A10 c11 a0.Boxes).ok w) (hg13:(gW0).ok w) (hg14:(gW1).ok w) (hg15:(gW2).ok w):Calls Tryd.prog 6 #[AG (vB a0 A1 c2 A4 c5 A7 c8 A10 c11),AG [I a1.From,I a1.To,I a1.Pence,I a1.Lost],AG (sg a2 2)] w (RetV w (B r)):=by
 unfold law_TicketBox at H
 refine fn_of (n:=234) Tryd.func6 rfl rfl (lE rfl) ?_
 have S:=St.start w nF _ (cA h3 (cA h6 (cA h9 (cA h12 (cA hg13 (cA hg14 (cA hg15 nM)))))))
 refine c_seq<|reg<|p_boxA rfl S fun b16 w17 S18=>p_boxA rfl S18 fun b19 w20 S21=>p_boxA rfl S21 fun b22 w23 S24=>p_aB rfl<|wp_nil<|c_seq<|c_seq<|reg<|p_ldA ty29 sz29 (S24.atX (i:=2) rfl) rfl rfl ?_
 obtain ⟨r25,h26,H⟩:=bindS H
 refine p_cv (law_sound_ok h26 (S24.atP (i:=0) rfl) (S24.atP (i:=1) rfl) (S24.atP (i:=2) rfl) (S24.atP (i:=3) rfl)) fu12 rfl S24 fun w27 S28=>p_not rfl<|p_mB rfl ?_
 rcases bE (!r25) with c29 | c29
 ·replace H:=condT c29 H
  refine eB c29<|gF rfl rfl<|gF rfl rfl<|gF rfl rfl<|gF rfl rfl<|p_pkT rfl (rfl:_=B true)<|wp_nil<|c_true rfl<|c_seq<|reg ?_
  obtain ⟨r30,h31,H⟩:=bindS H
  refine p_cv (law_punched_ok h31 (S28.atP (i:=4) rfl) (S28.atP (i:=5) rfl) (S28.atP (i:=6) rfl)) fu13 rfl S28 fun w32 S33=>p_aB rfl<|wp_nil ?_
  obtain rfl:=sJ H
  exact c_ret (rT Tryd.f6 S33.keep rfl rfl)
 ·replace H:=condF c29 H
  refine eB c29 ?_
  refine gT rfl rfl (p_fld fl29_4 rfl ?_)
  refine gT rfl rfl (p_ld ty27 (S28.atX (i:=2) rfl) rfl rfl ?_)
  refine gT rfl rfl (p_len rfl sc27 ?_)
  refine gT rfl rfl (p_cmp rfl rfl rfl ?_)
  refine p_pkF rfl (rfl:_=B ((a0.Boxes.length:Int)==3))<|wp_nil ?_
  refine c_cond rfl (fun c34=>?_) (fun c34=>?_)
  ·replace H:=condT c34 H
   refine c_seq<|reg ?_
   obtain ⟨r35,h36,H⟩:=bindS H
   refine p_cv (law_punched_ok h36 (S28.atP (i:=4) rfl) (S28.atP (i:=5) rfl) (S28.atP (i:=6) rfl)) fu13 rfl S28 fun w37 S38=>p_aB rfl<|wp_nil ?_
   obtain rfl:=sJ H
   exact c_ret (rT Tryd.f6 S38.keep rfl rfl)
  ·replace H:=condF c34 H
   refine c_skip<|c_seq<|reg<|p_ldA ty29 sz29 (S28.atX (i:=2) rfl) rfl rfl<|p_ldA ty72 sz72 (S28.atX (i:=1) rfl) rfl rfl ?_
   obtain ⟨r39,h40,H⟩:=bindS H
   refine p_cv (ticket_Fits_ok h40 (S28.atP (i:=0) rfl) (S28.atP (i:=1) rfl) (S28.atP (i:=2) rfl) (S28.atP (i:=3) rfl) (S28.atP (i:=4) rfl) (S28.atP (i:=6) rfl)) fu35 rfl S28 fun w41 S42=>p_mT rfl<|p_ext rfl rfl<|p_ext rfl rfl<|p_aB rfl<|p_aI rfl<|wp_nil<|c_seq<|reg<|p_ldA ty29 sz29 (S42.atX (i:=2) rfl) rfl rfl ?_
   obtain ⟨r43,h44,H⟩:=bindS H
   refine p_cv (ticket_Right_ok h44 (S42.atP (i:=0) rfl) (S42.atP (i:=1) rfl) (S42.atP (i:=2) rfl) (S42.atP (i:=3) rfl) (S42.atP (i:=4) rfl) (S42.atP (i:=6) rfl)) fu16 rfl S42 fun w45 S46=>p_mT rfl<|p_ext rfl rfl<|p_ext rfl rfl<|p_aB rfl<|p_aI rfl<|wp_nil<|c_seq<|reg<|p_ldA ty29 sz29 (S46.atX (i:=2) rfl) rfl rfl<|p_ldA ty72 sz72 (S46.atX (i:=1) rfl) rfl rfl ?_
   obtain ⟨r47,h48,H⟩:=bindS H
   refine p_cal (law_with_ok h48 (S46.atP (i:=0) rfl) (S46.atP (i:=1) rfl) (S46.atP (i:=2) rfl) (S46.atP (i:=3) rfl)) fu36 rfl ?_
   rintro _ w49 ⟨A51,c52,rfl,k50,⟨o53,n54⟩,_⟩
   have S56:=S46.addNew k50 o53 n54
   refine p_allA in29 S56 fun b57 w58 S59=>?_
   refine p_stP (pre:=[]) (old:=[I 0,I 0,SL none 0 0,I 0,SL none 0 0,SL none 0 0,SL none 0 0]) (post:=[]) (vs:=[I r47.Tally.Trips,I r47.Tally.Room,SL A1 a0.Tally.Counts.length c2,I r47.Fare,SL A4 a0.Tickets.length c5,SL A7 a0.Shows.length c8,SL A51 r47.Boxes.length c52]) sz29 S59 (i:=0) rfl rfl rfl rfl (rfl:_=AG [I r47.Tally.Trips,I r47.Tally.Room,SL A1 a0.Tally.Counts.length c2,I r47.Fare,SL A4 a0.Tickets.length c5,SL A7 a0.Shows.length c8,SL A51 r47.Boxes.length c52]) rfl rfl rfl rfl fun w60 S61=>?_
   refine wp_nil<|c_seq<|c_seq<|reg<|p_ldA ty29 sz29 (S61.atX (i:=0) rfl) rfl rfl ?_
   obtain ⟨r62,h63,H⟩:=bindS H
   refine p_cv (ticket_Check_ok h63 (S61.atP (i:=0) rfl) (S61.atP (i:=1) rfl) (S61.atP (i:=2) rfl) (gr_rd eTicketBox_len (S61.atX (i:=1) rfl))) fu37 rfl S61 fun w64 S65=>p_cmp rfl rfl rfl<|wp_nil ?_
   refine c_cond rfl (fun c66=>?_) (fun c66=>?_)
   ·replace H:=condT c66 H
    refine c_seq<|reg<|p_mI rfl<|p_cmp rfl rfl rfl<|p_mB rfl ?_
    rcases bE ((r39.2==101)) with c67 | c67
    ·replace H:=condT c67 H
     refine eB c67 ?_
     refine gT rfl rfl (p_mB rfl ?_)
     refine gT rfl rfl (p_not rfl ?_)
     refine p_pkT rfl (rfl:_=B (!r39.1))<|p_mB rfl ?_
     rcases bE (!r39.1) with c68 | c68
     ·replace H:=condT c68 H
      refine eB c68 ?_
      obtain ⟨r69,h70,H⟩:=bindS H
      refine gT rfl rfl (p_cv (law_punched_ok h70 (S65.atP (i:=4) rfl) (S65.atP (i:=5) rfl) (S65.atP (i:=6) rfl)) fu13 rfl S65 fun w71 S72=>?_)
      refine p_pkT rfl (rfl:_=B r69)<|p_aB rfl<|wp_nil ?_
      obtain rfl:=sJ H
      exact c_ret (rT Tryd.f6 S72.keep rfl rfl)
     ·replace H:=condF c68 H
      refine eB c68<|gF rfl rfl<|p_pkF rfl (rfl:_=B false)<|p_aB rfl<|wp_nil ?_
      obtain rfl:=sJ H
      exact c_ret (rT Tryd.f6 S65.keep rfl rfl)
    ·replace H:=condF c67 H
     refine eB c67<|gF rfl rfl<|gF rfl rfl<|p_pkF rfl (rfl:_=B false)<|p_mB rfl<|gF rfl rfl<|p_pkF rfl (rfl:_=B false)<|p_aB rfl<|wp_nil ?_
     obtain rfl:=sJ H
     exact c_ret (rT Tryd.f6 S65.keep rfl rfl)
   ·replace H:=condF c66 H
    refine c_skip<|c_seq<|reg<|p_ldA ty29 sz29 (S65.atX (i:=0) rfl) rfl rfl ?_
    obtain ⟨r73,h74,H⟩:=bindS H
    refine p_cv (ticket_Right_ok h74 (S65.atP (i:=0) rfl) (S65.atP (i:=1) rfl) (S65.atP (i:=2) rfl) (gr_rd eTicketBox_len (S65.atX (i:=1) rfl)) (S65.atP (i:=4) rfl) (S65.atP (i:=6) rfl)) fu16 rfl S65 fun w75 S76=>p_mT rfl<|p_ext rfl rfl<|p_ext rfl rfl<|p_aB rfl<|p_aI rfl<|wp_nil<|c_seq<|c_seq<|reg<|p_mB rfl<|p_not rfl<|wp_nil ?_
    refine c_cond rfl (fun c77=>?_) (fun c77=>?_)
    ·replace H:=condT c77 H
     refine c_seq<|reg<|p_mI rfl<|p_cmp rfl rfl rfl<|p_mB rfl ?_
     rcases bE ((r43.2==0)) with c78 | c78
     ·replace H:=condT c78 H
      refine eB c78 ?_
      refine gT rfl rfl (p_mI rfl ?_)
      refine gT rfl rfl (p_cmp rfl rfl rfl ?_)
      refine p_pkT rfl (rfl:_=B (r39.2==102))<|p_mB rfl ?_
      rcases bE ((r39.2==102)) with c79 | c79
      ·replace H:=condT c79 H
       refine eB c79 ?_
       refine gT rfl rfl (p_mI rfl ?_)
       refine gT rfl rfl (p_cmp rfl rfl rfl ?_)
       refine p_pkT rfl (rfl:_=B (r73.2==0))<|p_mB rfl ?_
       rcases bE ((r73.2==0)) with c80 | c80
       ·replace H:=condT c80 H
        refine eB c80 ?_
        refine gT rfl rfl (p_mB rfl ?_)
        refine gT rfl rfl (p_not rfl ?_)
        refine p_pkT rfl (rfl:_=B (!r73.1))<|p_mB rfl ?_
        rcases bE (!r73.1) with c81 | c81
        ·replace H:=condT c81 H
         refine eB c81 ?_
         refine gT rfl rfl (p_mB rfl ?_)
         refine gT rfl rfl (p_not rfl ?_)
         refine p_pkT rfl (rfl:_=B (!r39.1))<|p_mB rfl ?_
         rcases bE (!r39.1) with c82 | c82
         ·replace H:=condT c82 H
          refine eB c82 ?_
          obtain ⟨r83,h84,H⟩:=bindS H
          refine gT rfl rfl (p_cv (law_punched_ok h84 (S76.atP (i:=4) rfl) (S76.atP (i:=5) rfl) (S76.atP (i:=6) rfl)) fu13 rfl S76 fun w85 S86=>?_)
          refine p_pkT rfl (rfl:_=B r83)<|p_aB rfl<|wp_nil ?_
          obtain rfl:=sJ H
          exact c_ret (rT Tryd.f6 S86.keep rfl rfl)
         ·replace H:=condF c82 H
          refine eB c82<|gF rfl rfl<|p_pkF rfl (rfl:_=B false)<|p_aB rfl<|wp_nil ?_
          obtain rfl:=sJ H
          exact c_ret (rT Tryd.f6 S76.keep rfl rfl)
        ·replace H:=condF c81 H
         refine eB c81<|gF rfl rfl<|gF rfl rfl<|p_pkF rfl (rfl:_=B false)<|p_mB rfl<|gF rfl rfl<|p_pkF rfl (rfl:_=B false)<|p_aB rfl<|wp_nil ?_
         obtain rfl:=sJ H
         exact c_ret (rT Tryd.f6 S76.keep rfl rfl)
       ·replace H:=condF c80 H
        refine eB c80<|gF rfl rfl<|gF rfl rfl<|p_pkF rfl (rfl:_=B false)<|p_mB rfl<|gF rfl rfl<|gF rfl rfl<|p_pkF rfl (rfl:_=B false)<|p_mB rfl<|gF rfl rfl<|p_pkF rfl (rfl:_=B false)<|p_aB rfl<|wp_nil ?_
        obtain rfl:=sJ H
        exact c_ret (rT Tryd.f6 S76.keep rfl rfl)
      ·replace H:=condF c79 H
       refine eB c79<|gF rfl rfl<|gF rfl rfl<|p_pkF rfl (rfl:_=B false)<|p_mB rfl<|gF rfl rfl<|gF rfl rfl<|p_pkF rfl (rfl:_=B false)<|p_mB rfl<|gF rfl rfl<|gF rfl rfl<|p_pkF rfl (rfl:_=B false)<|p_mB rfl<|gF rfl rfl<|p_pkF rfl (rfl:_=B false)<|p_aB rfl<|wp_nil ?_
       obtain rfl:=sJ H
       exact c_ret (rT Tryd.f6 S76.keep rfl rfl)
     ·replace H:=condF c78 H
      refine eB c78<|gF rfl rfl<|gF rfl rfl<|p_pkF rfl (rfl:_=B false)<|p_mB rfl<|gF rfl rfl<|gF rfl rfl<|p_pkF rfl (rfl:_=B false)<|p_mB rfl<|gF rfl rfl<|gF rfl rfl<|p_pkF rfl (rfl:_=B false)<|p_mB rfl<|gF rfl rfl<|gF rfl rfl<|p_pkF rfl (rfl:_=B false)<|p_mB rfl<|gF rfl rfl<|p_pkF rfl (rfl:_=B false)<|p_aB rfl<|wp_nil ?_
      obtain rfl:=sJ H
      exact c_ret (rT Tryd.f6 S76.keep rfl rfl)
    ·replace H:=condF c77 H
     refine c_skip<|c_seq<|c_seq<|reg<|p_mI rfl<|p_cmp rfl rfl rfl<|p_mB rfl ?_
     rcases bE ((r39.2 != 0)) with c87 | c87
     ·replace H:=condT c87 H
      refine eB c87<|gF rfl rfl<|gF rfl rfl<|p_pkT rfl (rfl:_=B true)<|p_mB rfl<|gF rfl rfl<|gF rfl rfl<|p_pkT rfl (rfl:_=B true)<|p_mB rfl<|gF rfl rfl<|gF rfl rfl<|gF rfl rfl<|p_pkT rfl (rfl:_=B true)<|wp_nil<|c_true rfl<|c_seq<|reg<|p_aB rfl<|wp_nil ?_
      obtain rfl:=sJ H
      exact c_ret (rT Tryd.f6 S76.keep rfl rfl)
     ·replace H:=condF c87 H
      refine eB c87 ?_
      refine gT rfl rfl (p_mI rfl ?_)
      refine gT rfl rfl (p_cmp rfl rfl rfl ?_)
      refine p_pkF rfl (rfl:_=B (r43.2 != 0))<|p_mB rfl ?_
      rcases bE ((r43.2 != 0)) with c88 | c88
      ·replace H:=condT c88 H
       refine eB c88<|gF rfl rfl<|gF rfl rfl<|p_pkT rfl (rfl:_=B true)<|p_mB rfl<|gF rfl rfl<|gF rfl rfl<|gF rfl rfl<|p_pkT rfl (rfl:_=B true)<|wp_nil<|c_true rfl<|c_seq<|reg<|p_aB rfl<|wp_nil ?_
       obtain rfl:=sJ H
       exact c_ret (rT Tryd.f6 S76.keep rfl rfl)
      ·replace H:=condF c88 H
       refine eB c88 ?_
       refine gT rfl rfl (p_mI rfl ?_)
       refine gT rfl rfl (p_cmp rfl rfl rfl ?_)
       refine p_pkF rfl (rfl:_=B (r73.2 != 0))<|p_mB rfl ?_
       rcases bE ((r73.2 != 0)) with c89 | c89
       ·replace H:=condT c89 H
        refine eB c89<|gF rfl rfl<|gF rfl rfl<|gF rfl rfl<|p_pkT rfl (rfl:_=B true)<|wp_nil<|c_true rfl<|c_seq<|reg<|p_aB rfl<|wp_nil ?_
        obtain rfl:=sJ H
        exact c_ret (rT Tryd.f6 S76.keep rfl rfl)
       ·replace H:=condF c89 H
        refine eB c89 ?_
        refine gT rfl rfl (p_mB rfl ?_)
        refine gT rfl rfl (p_mB rfl ?_)
        refine gT rfl rfl (o_neB rfl rfl ub4 ?_)
        refine p_pkF rfl (rfl:_=B (r39.1 != r73.1))<|wp_nil ?_
        refine c_cond rfl (fun c90=>?_) (fun c90=>?_)
        ·replace H:=condT c90 H
         refine c_seq<|reg<|p_aB rfl<|wp_nil ?_
         obtain rfl:=sJ H
         exact c_ret (rT Tryd.f6 S76.keep rfl rfl)
        ·replace H:=condF c90 H
         refine c_skip<|c_seq<|c_seq<|reg<|p_mB rfl<|p_not rfl<|wp_nil ?_
         refine c_cond rfl (fun c91=>?_) (fun c91=>?_)
         ·replace H:=condT c91 H
          refine c_seq<|reg ?_
          obtain ⟨r92,h93,H⟩:=bindS H
          refine p_cv (law_punched_ok h93 (S76.atP (i:=4) rfl) (S76.atP (i:=5) rfl) (S76.atP (i:=6) rfl)) fu13 rfl S76 fun w94 S95=>p_aB rfl<|wp_nil ?_
          obtain rfl:=sJ H
          exact c_ret (rT Tryd.f6 S95.keep rfl rfl)
         ·replace H:=condF c91 H
          refine c_skip<|c_seq<|reg<|p_ixc ar60 rfl rfl (by decide) (by decide)<|p_ld ty3 (S76.atX (i:=2) rfl) rfl rfl<|p_fld fl29_0 rfl<|p_fld fl24_0 rfl<|p_ld ty3 (S76.atX (i:=4) rfl) rfl rfl ?_
          obtain ⟨r96,h97,H⟩:=bindS H
          refine p_cv (B_Mod_ok h97) fu19 rfl S76 fun w98 S99=>p_aI rfl<|wp_nil<|c_seq<|reg<|p_ldA ty29 sz29 (S99.atX (i:=4) rfl) rfl rfl<|p_mI rfl<|p_mI rfl ?_
          obtain ⟨r100,h101,H⟩:=bindS H
          refine p_cv (ticket_Paid_ok h101 (S99.atP (i:=0) rfl) (S99.atP (i:=1) rfl) (S99.atP (i:=2) rfl) (S99.atP (i:=3) rfl) (S99.atP (i:=4) rfl) (S99.atP (i:=6) rfl)) fu22 rfl S99 fun w102 S103=>p_mT rfl<|p_ext rfl rfl<|p_ext rfl rfl<|p_allA in49 S103 fun b104 w105 S106=>?_
          refine p_stP (pre:=[]) (old:=[I 0,I 0]) (post:=[]) (vs:=[I r100.1.Low,I r100.1.High]) sz49 S106 (i:=0) rfl rfl rfl rfl (rfl:_=AG [I r100.1.Low,I r100.1.High]) rfl rfl rfl rfl fun w107 S108=>p_aI rfl<|wp_nil<|c_seq<|reg<|p_ldA ty29 sz29 (S108.atX (i:=1) rfl) rfl rfl<|p_mI rfl<|p_mI rfl ?_
          obtain ⟨r109,h110,H⟩:=bindS H
          refine p_cv (ticket_Paid_ok h110 (S108.atP (i:=0) rfl) (S108.atP (i:=1) rfl) (S108.atP (i:=2) rfl) (gr_rd eTicketBox_len (S108.atX (i:=2) rfl)) (S108.atP (i:=4) rfl) (S108.atP (i:=6) rfl)) fu22 rfl S108 fun w111 S112=>p_mT rfl<|p_ext rfl rfl<|p_ext rfl rfl<|p_allA in49 S112 fun b113 w114 S115=>?_
          refine p_stP (pre:=[]) (old:=[I 0,I 0]) (post:=[]) (vs:=[I r109.1.Low,I r109.1.High]) sz49 S115 (i:=0) rfl rfl rfl rfl (rfl:_=AG [I r109.1.Low,I r109.1.High]) rfl rfl rfl rfl fun w116 S117=>p_aI rfl<|wp_nil<|c_seq<|reg<|p_ldA ty29 sz29 (S117.atX (i:=6) rfl) rfl rfl<|p_mI rfl ?_
          obtain ⟨r118,h119,H⟩:=bindS H
          refine p_cal (ticket_Must_ok h119 (S117.atP (i:=0) rfl) (S117.atP (i:=1) rfl) (S117.atP (i:=2) rfl) (S117.atP (i:=3) rfl) (S117.atP (i:=4) rfl) (S117.atP (i:=5) rfl) (S117.atP (i:=6) rfl)) fu23 rfl ?_
          rintro _ w120 ⟨A122,c123,rfl,k121,⟨o124,n125⟩,_⟩
          have S126:=S117.callN k121 [rd intE 1 A122 c123 r118.1] (cA ⟨o124,New.inL n125⟩ nM)
          refine p_mT rfl<|p_ext rfl rfl<|p_ext rfl rfl<|p_aS rfl<|p_aI rfl<|wp_nil<|c_seq<|reg<|p_ldA ty29 sz29 (S126.atX (i:=2) rfl) rfl rfl<|p_mI rfl ?_
          obtain ⟨r127,h128,H⟩:=bindS H
          refine p_cal (ticket_Must_ok h128 (S126.atP (i:=1) rfl) (S126.atP (i:=2) rfl) (S126.atP (i:=3) rfl) (gr_rd eTicketBox_len (S126.atX (i:=3) rfl)) (S126.atP (i:=5) rfl) (S126.atP (i:=6) rfl) (S126.atP (i:=7) rfl)) fu23 rfl ?_
          rintro _ w129 ⟨A131,c132,rfl,k130,⟨o133,n134⟩,_⟩
          have S135:=S126.callN k130 [rd intE 1 A131 c132 r127.1] (cA ⟨o133,New.inL n134⟩ nM)
          refine p_mT rfl<|p_ext rfl rfl<|p_ext rfl rfl<|p_aS rfl<|p_aI rfl<|wp_nil<|c_seq<|reg<|p_ldA ty29 sz29 (S135.atX (i:=6) rfl) rfl rfl<|p_mI rfl ?_
          obtain ⟨r136,h137,H⟩:=bindS H
          refine p_cal (ticket_May_ok h137 (S135.atP (i:=2) rfl) (S135.atP (i:=3) rfl) (S135.atP (i:=4) rfl) (S135.atP (i:=5) rfl) (S135.atP (i:=6) rfl) (S135.atP (i:=7) rfl) (S135.atP (i:=8) rfl)) fu24 rfl ?_
          rintro _ w138 ⟨A140,c141,rfl,k139,⟨o142,n143⟩,_⟩
          have S144:=S135.callN k139 [rd intE 1 A140 c141 r136.1] (cA ⟨o142,New.inL n143⟩ nM)
          refine p_mT rfl<|p_ext rfl rfl<|p_ext rfl rfl<|p_aS rfl<|p_aI rfl<|wp_nil<|c_seq<|reg<|p_ldA ty29 sz29 (S144.atX (i:=2) rfl) rfl rfl<|p_mI rfl ?_
          obtain ⟨r145,h146,H⟩:=bindS H
          refine p_cal (ticket_May_ok h146 (S144.atP (i:=3) rfl) (S144.atP (i:=4) rfl) (S144.atP (i:=5) rfl) (gr_rd eTicketBox_len (S144.atX (i:=3) rfl)) (S144.atP (i:=7) rfl) (S144.atP (i:=8) rfl) (S144.atP (i:=9) rfl)) fu24 rfl ?_
          rintro _ w147 ⟨A149,c150,rfl,k148,⟨o151,n152⟩,_⟩
          have S153:=S144.callN k148 [rd intE 1 A149 c150 r145.1] (cA ⟨o151,New.inL n152⟩ nM)
          refine p_mT rfl<|p_ext rfl rfl<|p_ext rfl rfl<|p_aS rfl<|p_aI rfl<|wp_nil<|c_seq<|c_seq<|reg<|p_mI rfl<|p_cmp rfl rfl rfl<|p_mB rfl ?_
          rcases bE ((r100.2 != 0)) with c154 | c154
          ·replace H:=condT c154 H
           refine eB c154<|gF rfl rfl<|gF rfl rfl<|p_pkT rfl (rfl:_=B true)<|p_mB rfl<|gF rfl rfl<|gF rfl rfl<|p_pkT rfl (rfl:_=B true)<|p_mB rfl<|gF rfl rfl<|gF rfl rfl<|p_pkT rfl (rfl:_=B true)<|p_mB rfl<|gF rfl rfl<|gF rfl rfl<|p_pkT rfl (rfl:_=B true)<|p_mB rfl<|gF rfl rfl<|gF rfl rfl<|p_pkT rfl (rfl:_=B true)<|p_mB rfl<|gF rfl rfl<|gF rfl rfl<|gF rfl rfl<|gF rfl rfl<|p_pkT rfl (rfl:_=B true)<|p_mB rfl<|gF rfl rfl<|gF rfl rfl<|gF rfl rfl ?_
           refine gF rfl rfl<|gF rfl rfl<|gF rfl rfl<|p_pkT rfl (rfl:_=B true)<|p_mB rfl<|gF rfl rfl<|gF rfl rfl<|gF rfl rfl<|gF rfl rfl<|gF rfl rfl<|gF rfl rfl<|p_pkT rfl (rfl:_=B true)<|wp_nil<|c_true rfl<|c_seq<|reg<|p_aB rfl<|wp_nil ?_
           obtain rfl:=sJ H
           exact c_ret (rT Tryd.f6 S153.keep rfl rfl)
          ·replace H:=condF c154 H
           refine eB c154 ?_
           refine gT rfl rfl (p_mI rfl ?_)
           refine gT rfl rfl (p_cmp rfl rfl rfl ?_)
           refine p_pkF rfl (rfl:_=B (r109.2 != 0))<|p_mB rfl ?_
           rcases bE ((r109.2 != 0)) with c155 | c155
           ·replace H:=condT c155 H
            refine eB c155<|gF rfl rfl<|gF rfl rfl<|p_pkT rfl (rfl:_=B true)<|p_mB rfl<|gF rfl rfl<|gF rfl rfl<|p_pkT rfl (rfl:_=B true)<|p_mB rfl<|gF rfl rfl<|gF rfl rfl<|p_pkT rfl (rfl:_=B true)<|p_mB rfl<|gF rfl rfl<|gF rfl rfl<|p_pkT rfl (rfl:_=B true)<|p_mB rfl<|gF rfl rfl<|gF rfl rfl<|gF rfl rfl<|gF rfl rfl<|p_pkT rfl (rfl:_=B true)<|p_mB rfl<|gF rfl rfl<|gF rfl rfl<|gF rfl rfl<|gF rfl rfl<|gF rfl rfl<|gF rfl rfl<|p_pkT rfl (rfl:_=B true) ?_
            refine p_mB rfl<|gF rfl rfl<|gF rfl rfl<|gF rfl rfl<|gF rfl rfl<|gF rfl rfl<|gF rfl rfl<|p_pkT rfl (rfl:_=B true)<|wp_nil<|c_true rfl<|c_seq<|reg<|p_aB rfl<|wp_nil ?_
            obtain rfl:=sJ H
            exact c_ret (rT Tryd.f6 S153.keep rfl rfl)
           ·replace H:=condF c155 H
            refine eB c155 ?_
            refine gT rfl rfl (p_mI rfl ?_)
            refine gT rfl rfl (p_cmp rfl rfl rfl ?_)
            refine p_pkF rfl (rfl:_=B (r118.2 != 0))<|p_mB rfl ?_
            rcases bE ((r118.2 != 0)) with c156 | c156
            ·replace H:=condT c156 H
             refine eB c156<|gF rfl rfl<|gF rfl rfl<|p_pkT rfl (rfl:_=B true)<|p_mB rfl<|gF rfl rfl<|gF rfl rfl<|p_pkT rfl (rfl:_=B true)<|p_mB rfl<|gF rfl rfl<|gF rfl rfl<|p_pkT rfl (rfl:_=B true)<|p_mB rfl<|gF rfl rfl<|gF rfl rfl<|gF rfl rfl<|gF rfl rfl<|p_pkT rfl (rfl:_=B true)<|p_mB rfl<|gF rfl rfl<|gF rfl rfl<|gF rfl rfl<|gF rfl rfl<|gF rfl rfl<|gF rfl rfl<|p_pkT rfl (rfl:_=B true)<|p_mB rfl<|gF rfl rfl<|gF rfl rfl<|gF rfl rfl<|gF rfl rfl<|gF rfl rfl ?_
             refine gF rfl rfl<|p_pkT rfl (rfl:_=B true)<|wp_nil<|c_true rfl<|c_seq<|reg<|p_aB rfl<|wp_nil ?_
             obtain rfl:=sJ H
             exact c_ret (rT Tryd.f6 S153.keep rfl rfl)
            ·replace H:=condF c156 H
             refine eB c156 ?_
             refine gT rfl rfl (p_mI rfl ?_)
             refine gT rfl rfl (p_cmp rfl rfl rfl ?_)
             refine p_pkF rfl (rfl:_=B (r127.2 != 0))<|p_mB rfl ?_
             rcases bE ((r127.2 != 0)) with c157 | c157
             ·replace H:=condT c157 H
              refine eB c157<|gF rfl rfl<|gF rfl rfl<|p_pkT rfl (rfl:_=B true)<|p_mB rfl<|gF rfl rfl<|gF rfl rfl<|p_pkT rfl (rfl:_=B true)<|p_mB rfl<|gF rfl rfl<|gF rfl rfl<|gF rfl rfl<|gF rfl rfl<|p_pkT rfl (rfl:_=B true)<|p_mB rfl<|gF rfl rfl<|gF rfl rfl<|gF rfl rfl<|gF rfl rfl<|gF rfl rfl<|gF rfl rfl<|p_pkT rfl (rfl:_=B true)<|p_mB rfl<|gF rfl rfl<|gF rfl rfl<|gF rfl rfl<|gF rfl rfl<|gF rfl rfl<|gF rfl rfl<|p_pkT rfl (rfl:_=B true)<|wp_nil<|c_true rfl<|c_seq ?_
              refine reg<|p_aB rfl<|wp_nil ?_
              obtain rfl:=sJ H
              exact c_ret (rT Tryd.f6 S153.keep rfl rfl)
             ·replace H:=condF c157 H
              refine eB c157 ?_
              refine gT rfl rfl (p_mI rfl ?_)
              refine gT rfl rfl (p_cmp rfl rfl rfl ?_)
              refine p_pkF rfl (rfl:_=B (r136.2 != 0))<|p_mB rfl ?_
              rcases bE ((r136.2 != 0)) with c158 | c158
              ·replace H:=condT c158 H
               refine eB c158<|gF rfl rfl<|gF rfl rfl<|p_pkT rfl (rfl:_=B true)<|p_mB rfl<|gF rfl rfl<|gF rfl rfl<|gF rfl rfl<|gF rfl rfl<|p_pkT rfl (rfl:_=B true)<|p_mB rfl<|gF rfl rfl<|gF rfl rfl<|gF rfl rfl<|gF rfl rfl<|gF rfl rfl<|gF rfl rfl<|p_pkT rfl (rfl:_=B true)<|p_mB rfl<|gF rfl rfl<|gF rfl rfl<|gF rfl rfl<|gF rfl rfl<|gF rfl rfl<|gF rfl rfl<|p_pkT rfl (rfl:_=B true)<|wp_nil<|c_true rfl<|c_seq<|reg<|p_aB rfl<|wp_nil ?_
               obtain rfl:=sJ H
               exact c_ret (rT Tryd.f6 S153.keep rfl rfl)
              ·replace H:=condF c158 H
               refine eB c158 ?_
               refine gT rfl rfl (p_mI rfl ?_)
               refine gT rfl rfl (p_cmp rfl rfl rfl ?_)
               refine p_pkF rfl (rfl:_=B (r145.2 != 0))<|p_mB rfl ?_
               rcases bE ((r145.2 != 0)) with c159 | c159
               ·replace H:=condT c159 H
                refine eB c159<|gF rfl rfl<|gF rfl rfl<|gF rfl rfl<|gF rfl rfl<|p_pkT rfl (rfl:_=B true)<|p_mB rfl<|gF rfl rfl<|gF rfl rfl<|gF rfl rfl<|gF rfl rfl<|gF rfl rfl<|gF rfl rfl<|p_pkT rfl (rfl:_=B true)<|p_mB rfl<|gF rfl rfl<|gF rfl rfl<|gF rfl rfl<|gF rfl rfl<|gF rfl rfl<|gF rfl rfl<|p_pkT rfl (rfl:_=B true)<|wp_nil<|c_true rfl<|c_seq<|reg<|p_aB rfl<|wp_nil ?_
                obtain rfl:=sJ H
                exact c_ret (rT Tryd.f6 S153.keep rfl rfl)
               ·replace H:=condF c159 H
                refine eB c159 ?_
                refine gT rfl rfl (p_ldA ty49 sz49 (S153.atX (i:=1) rfl) rfl rfl ?_)
                refine gT rfl rfl (p_ldA ty49 sz49 (S153.atX (i:=0) rfl) rfl rfl ?_)
                obtain ⟨r160,h161,H⟩:=bindS H
                refine gT rfl rfl (p_cv (B_Covers_ok h161) fu38 rfl S153 fun w162 S163=>?_)
                refine gT rfl rfl (p_not rfl ?_)
                refine p_pkF rfl (rfl:_=B (!r160))<|p_mB rfl ?_
                rcases bE (!r160) with c164 | c164
                ·replace H:=condT c164 H
                 refine eB c164<|gF rfl rfl<|gF rfl rfl<|gF rfl rfl<|gF rfl rfl<|gF rfl rfl<|gF rfl rfl<|p_pkT rfl (rfl:_=B true)<|p_mB rfl<|gF rfl rfl<|gF rfl rfl<|gF rfl rfl<|gF rfl rfl<|gF rfl rfl<|gF rfl rfl<|p_pkT rfl (rfl:_=B true)<|wp_nil<|c_true rfl<|c_seq<|reg<|p_aB rfl<|wp_nil ?_
                 obtain rfl:=sJ H
                 exact c_ret (rT Tryd.f6 S163.keep rfl rfl)
                ·replace H:=condF c164 H
                 refine eB c164 ?_
                 refine gT rfl rfl (p_mS rfl ?_)
                 obtain ⟨r165,h166,H⟩:=bindS H
                 refine gT rfl rfl (p_cv (B_SetOf_ok h166 (S163.atP (i:=3) rfl)) fu31 rfl S163 fun w167 S168=>?_)
                 refine gT rfl rfl (p_mS rfl ?_)
                 obtain ⟨r169,h170,H⟩:=bindS H
                 refine gT rfl rfl (p_cv (B_SetOf_ok h170 (S168.atP (i:=2) rfl)) fu31 rfl S168 fun w171 S172=>?_)
                 refine gT rfl rfl (p_andNotI rfl rfl ?_)
                 refine gT rfl rfl (p_cmp rfl rfl rfl ?_)
                 refine p_pkF rfl (rfl:_=B ((andNotI r165 r169) != 0))<|p_mB rfl ?_
                 rcases bE (((andNotI r165 r169) != 0)) with c173 | c173
                 ·replace H:=condT c173 H
                  refine eB c173<|gF rfl rfl<|gF rfl rfl<|gF rfl rfl<|gF rfl rfl<|gF rfl rfl<|gF rfl rfl<|p_pkT rfl (rfl:_=B true)<|wp_nil<|c_true rfl<|c_seq<|reg<|p_aB rfl<|wp_nil ?_
                  obtain rfl:=sJ H
                  exact c_ret (rT Tryd.f6 S172.keep rfl rfl)
                 ·replace H:=condF c173 H
                  refine eB c173 ?_
                  refine gT rfl rfl (p_mS rfl ?_)
                  obtain ⟨r174,h175,H⟩:=bindS H
                  refine gT rfl rfl (p_cv (B_SetOf_ok h175 (S172.atP (i:=0) rfl)) fu31 rfl S172 fun w176 S177=>?_)
                  refine gT rfl rfl (p_mS rfl ?_)
                  obtain ⟨r178,h179,H⟩:=bindS H
                  refine gT rfl rfl (p_cv (B_SetOf_ok h179 (S177.atP (i:=1) rfl)) fu31 rfl S177 fun w180 S181=>?_)
                  refine gT rfl rfl (p_andNotI rfl rfl ?_)
                  refine gT rfl rfl (p_cmp rfl rfl rfl ?_)
                  refine p_pkF rfl (rfl:_=B ((andNotI r174 r178) != 0))<|wp_nil ?_
                  refine c_cond rfl (fun c182=>?_) (fun c182=>?_)
                  ·replace H:=condT c182 H
                   refine c_seq<|reg<|p_aB rfl<|wp_nil ?_
                   obtain rfl:=sJ H
                   exact c_ret (rT Tryd.f6 S181.keep rfl rfl)
                  ·replace H:=condF c182 H
                   refine c_skip<|c_seq<|c_seq<|reg<|p_fld fl29_2 rfl<|p_ld ty25 (S181.atX (i:=6) rfl) rfl rfl<|p_len rfl sc25<|p_cmp rfl rfl rfl<|wp_nil ?_
                   refine c_cond rfl (fun c183=>?_) (fun c183=>?_)
                   ·replace H:=condT c183 H
                    refine c_seq<|reg ?_
                    obtain ⟨r184,h185,H⟩:=bindS H
                    refine p_cv (law_punched_ok h185 (S181.atP (i:=8) rfl) (S181.atP (i:=9) rfl) (S181.atP (i:=10) rfl)) fu13 rfl S181 fun w186 S187=>p_aB rfl<|wp_nil ?_
                    obtain rfl:=sJ H
                    exact c_ret (rT Tryd.f6 S187.keep rfl rfl)
                   ·replace H:=condF c183 H
                    refine c_skip<|c_seq<|reg<|p_ixc ar60 rfl rfl (by decide) (by decide)<|p_ld ty3 (S181.atX (i:=4) rfl) rfl rfl<|p_fld fl29_2 rfl<|p_ld ty25 (S181.atX (i:=6) rfl) rfl rfl<|p_len rfl sc25 ?_
                    obtain ⟨r188,h189,H⟩:=bindS H
                    refine p_cv (B_Mod_ok h189) fu19 rfl S181 fun w190 S191=>p_aI rfl<|wp_nil<|c_seq<|reg<|p_ldA ty29 sz29 (S191.atX (i:=6) rfl) rfl rfl<|p_mI rfl ?_
                    obtain ⟨r192,h193,H⟩:=bindS H
                    refine p_cv (ticket_Saved_ok h193 (S191.atP (i:=4) rfl) (S191.atP (i:=5) rfl) (S191.atP (i:=6) rfl) (S191.atP (i:=7) rfl) (S191.atP (i:=8) rfl) (S191.atP (i:=10) rfl)) fu29 rfl S191 fun w194 S195=>p_mT rfl<|p_ext rfl rfl<|p_ext rfl rfl<|p_allA in49 S195 fun b196 w197 S198=>?_
                    refine p_stP (pre:=[]) (old:=[I 0,I 0]) (post:=[]) (vs:=[I r192.1.Low,I r192.1.High]) sz49 S198 (i:=0) rfl rfl rfl rfl (rfl:_=AG [I r192.1.Low,I r192.1.High]) rfl rfl rfl rfl fun w199 S200=>p_aI rfl<|wp_nil<|c_seq<|reg<|p_ldA ty29 sz29 (S200.atX (i:=3) rfl) rfl rfl<|p_mI rfl ?_
                    obtain ⟨r201,h202,H⟩:=bindS H
                    refine p_cv (ticket_Saved_ok h202 (S200.atP (i:=4) rfl) (S200.atP (i:=5) rfl) (S200.atP (i:=6) rfl) (gr_rd eTicketBox_len (S200.atX (i:=4) rfl)) (S200.atP (i:=8) rfl) (S200.atP (i:=10) rfl)) fu29 rfl S200 fun w203 S204=>p_mT rfl<|p_ext rfl rfl<|p_ext rfl rfl<|p_allA in49 S204 fun b205 w206 S207=>?_
                    refine p_stP (pre:=[]) (old:=[I 0,I 0]) (post:=[]) (vs:=[I r201.1.Low,I r201.1.High]) sz49 S207 (i:=0) rfl rfl rfl rfl (rfl:_=AG [I r201.1.Low,I r201.1.High]) rfl rfl rfl rfl fun w208 S209=>p_aI rfl<|wp_nil<|c_seq<|reg<|p_mI rfl<|p_cmp rfl rfl rfl<|p_mB rfl ?_
                    rcases bE ((r192.2==0)) with c210 | c210
                    ·replace H:=condT c210 H
                     refine eB c210 ?_
                     refine gT rfl rfl (p_mI rfl ?_)
                     refine gT rfl rfl (p_cmp rfl rfl rfl ?_)
                     refine p_pkT rfl (rfl:_=B (r201.2==0))<|p_mB rfl ?_
                     rcases bE ((r201.2==0)) with c211 | c211
                     ·replace H:=condT c211 H
                      refine eB c211 ?_
                      refine gT rfl rfl (p_ldA ty49 sz49 (S209.atX (i:=1) rfl) rfl rfl ?_)
                      refine gT rfl rfl (p_ldA ty49 sz49 (S209.atX (i:=0) rfl) rfl rfl ?_)
                      obtain ⟨r212,h213,H⟩:=bindS H
                      refine gT rfl rfl (p_cv (B_Covers_ok h213) fu38 rfl S209 fun w214 S215=>?_)
                      refine p_pkT rfl (rfl:_=B r212)<|p_mB rfl ?_
                      rcases bE (r212) with c216 | c216
                      ·replace H:=condT c216 H
                       refine eB c216 ?_
                       obtain ⟨r217,h218,H⟩:=bindS H
                       refine gT rfl rfl (p_cv (law_punched_ok h218 (S215.atP (i:=8) rfl) (S215.atP (i:=9) rfl) (S215.atP (i:=10) rfl)) fu13 rfl S215 fun w219 S220=>?_)
                       refine p_pkT rfl (rfl:_=B r217)<|p_aB rfl<|wp_nil ?_
                       obtain rfl:=sJ H
                       exact c_ret (rT Tryd.f6 S220.keep rfl rfl)
                      ·replace H:=condF c216 H
                       refine eB c216<|gF rfl rfl<|p_pkF rfl (rfl:_=B false)<|p_aB rfl<|wp_nil ?_
                       obtain rfl:=sJ H
                       exact c_ret (rT Tryd.f6 S215.keep rfl rfl)
                     ·replace H:=condF c211 H
                      refine eB c211<|gF rfl rfl<|gF rfl rfl<|gF rfl rfl<|p_pkF rfl (rfl:_=B false)<|p_mB rfl<|gF rfl rfl<|p_pkF rfl (rfl:_=B false)<|p_aB rfl<|wp_nil ?_
                      obtain rfl:=sJ H
                      exact c_ret (rT Tryd.f6 S209.keep rfl rfl)
                    ·replace H:=condF c210 H
                     refine eB c210<|gF rfl rfl<|gF rfl rfl<|p_pkF rfl (rfl:_=B false)<|p_mB rfl<|gF rfl rfl<|gF rfl rfl<|gF rfl rfl<|p_pkF rfl (rfl:_=B false)<|p_mB rfl<|gF rfl rfl<|p_pkF rfl (rfl:_=B false)<|p_aB rfl<|wp_nil ?_
                     obtain rfl:=sJ H
                     exact c_ret (rT Tryd.f6 S209.keep rfl rfl)
end Go.Proofs.YtafhljljfglfeaaDoor
namespace Go.Proofs.YtafhljljfglfeaaDoor
open Go Go.Fx
def plusB (b:TicketBook) (x:TicketBox):TicketBook:=⟨b.Tally,b.Fare,b.Tickets,b.Shows,b.Boxes++[x]⟩
theorem with_eq (b:TicketBook) (x:TicketBox) (h:b.Boxes.length≤1000):law_with b x=some (plusB b x):=by
 unfold law_with plusB
 cases hb:b.Boxes with
 | nil=>rw [List.isEmpty_nil,cond_true,need_of (fits_small (by simp) (by omega))]; rfl
 | cons y l=>
   rw [hb] at h
   rw [List.isEmpty_cons,cond_false,need_of (fits_small (by simp at h ⊢; omega) (by omega)),need_of (fits_small (by simp at h ⊢; omega) (by omega))]
theorem tr_plus {b:TicketBook}{x:TicketBox}{t:Ticket_truth}:Tr (plusB b x) (plusB b x).Shows (plusB b x).Boxes t↔Tr b b.Shows b.Boxes t∧fitsN b.Fare t.crossed_ t.used_ x=true:=by
 constructor
 ·intro h
  exact ⟨⟨h.cl,h.c3,h.u3,h.cr,h.cz,h.uz,h.ub,h.us,h.pc,h.sw,h.can,fun y hy=>h.bx y (List.mem_append_left _ hy)⟩,h.bx x (List.mem_append_right _ (List.mem_singleton.2 rfl))⟩
 ·rintro ⟨h,hx⟩
  refine ⟨h.cl,h.c3,h.u3,h.cr,h.cz,h.uz,h.ub,h.us,h.pc,h.sw,h.can,fun y hy=>?_⟩
  rcases List.mem_append.1 hy with hy | hy
  ·exact h.bx y hy
  ·rw [List.mem_singleton.1 hy]; exact hx
theorem vt_plus {b:TicketBook} (V:VT b) {x:TicketBox} (hn:b.Boxes.length≤2) (h:Box b.Tally.Trips x):VT (plusB b x):=
 ⟨V.ta,V.t3,V.r5,V.f1,V.f20,V.tn,V.sn,by show (b.Boxes++[x]).length≤3; simp; omega,V.te,V.sh,fun y hy=>by
  rcases List.mem_append.1 hy with hy | hy
  ·exact V.bx y hy
  ·rw [List.mem_singleton.1 hy]; exact h⟩
theorem sp_less {b c:TicketBook}{sh sh' :List TicketShow}{bx bx' :List TicketBox}{g:Ticket_truth→Int}{s t:Span} (S:SpT b sh bx g s) (T:SpT c sh' bx' g t) (h:∀ x,Tr c sh' bx' x→Tr b sh bx x):s.Low≤t.Low∧t.High≤s.High:=by
 obtain ⟨x,hx,h1⟩:=T.loE
 obtain ⟨y,hy,h2⟩:=T.hiE
 have:=S.all x (h x hx)
 have:=S.all y (h y hy)
 omega
theorem law_ticketBox (b:TicketBook) (A:ArgT b) (x:TicketBox) (n:List Int):law_TicketBox b x n=some true:=by
 unfold law_TicketBox
 rw [soundT_eq b A,Option.bind_some]
 cases hv:valT b with
 | false=>rw [Bool.not_false,cond_true,punched_t]; rfl
 | true=>
   have V:=valT_iff.1 hv
   have bn:=V.bn; have tn:=V.tn; have t1:=V.ta.t1; have t3:=V.t3
   rw [Bool.not_true,cond_false]
   by_cases h3:b.Boxes.length=3
   ·rw [show ((b.Boxes.length:Int)==3)=true by simp [h3],cond_true,punched_t]; rfl
   rw [show ((b.Boxes.length:Int)==3)=false by rw [beq_eq_false_iff_ne]; omega,cond_false]
   obtain ⟨is,hR,hI⟩:=right_law V
   cases hb:boxB b.Tally.Trips x with
   | false=>
     rw [fitsT_no V hb,Option.bind_some,hR,Option.bind_some,with_eq b x (by omega),Option.bind_some]
     show ((ticket_Check (plusB b x)).bind _)=_
     rw [checkT_eq (plusB b x) ⟨A.1,A.2,A.3,by show (b.Boxes++[x]).length≤_; simp; omega⟩,show valT (plusB b x)=false by
      rw [← Bool.not_eq_true,valT_iff]
      intro W
      have:=box_iff.2 (W.bx x (List.mem_append_right _ (List.mem_singleton.2 rfl)))
      rw [show (plusB b x).Tally=b.Tally from rfl,hb] at this
      exact absurd this (by decide),cond_false,Option.bind_some]
     simp only [show ((100:Int) != 0)=true from rfl,cond_true,show ((101:Int)==101)=true from rfl,Bool.not_false]
     rw [punched_t]; rfl
   | true=>
     have W:=vt_plus V (by omega) (box_iff.1 hb)
     obtain ⟨fr,ef,hF,hf⟩:=fits_law V (box_iff.1 hb)
     obtain ⟨so,hS,hJ⟩:=right_law W
     rw [hF,Option.bind_some,hR,Option.bind_some,with_eq b x (by omega),Option.bind_some]
     show ((ticket_Check (plusB b x)).bind _)=_
     rw [checkT_ok W,Option.bind_some]
     simp only [bne_self_eq_false,cond_false]
     show ((ticket_Right (plusB b x)).bind _)=_
     rw [hS,Option.bind_some]
     have sub:∀ t,Tr (plusB b x) (plusB b x).Shows (plusB b x).Boxes t→Tr b b.Shows b.Boxes t:=fun t ht=>(tr_plus.1 ht).1
     cases is with
     | false=>
       have C:¬Can b:=fun h=>by simpa using hI.2 h
       have s0:so=false:=by
        rw [← Bool.not_eq_true,hJ]
        rintro ⟨t,ht⟩
        exact C ⟨t,sub t ht⟩
       rcases hf with ⟨_,h,_⟩ | ⟨rfl,rfl,_⟩
       ·exact absurd h C
       subst s0
       simp only [Bool.not_false,cond_true,beq_self_eq_true]
       rw [punched_t]; rfl
     | true=>
       have C:Can b:=hI.1 rfl
       rcases hf with ⟨rfl,_,hi⟩ | ⟨_,_,h⟩
       rotate_left
       ·exact absurd C h
       have e:fr=so:=by
        rw [Bool.eq_iff_iff,hi,hJ]
        exact exists_congr fun t=>tr_plus.symm
       subst e
       simp only [Bool.not_true,cond_false,bne_self_eq_false]
       cases fr with
       | false=>rw [Bool.not_false,cond_true,punched_t]; rfl
       | true=>
         have D:Can (plusB b x):=hJ.1 rfl
         rw [Bool.not_true,cond_false]
         obtain ⟨d,hd,d0,d1⟩:=mod_ok (aget n 0) b.Tally.Trips (by omega) (by omega)
         obtain ⟨d,rfl⟩:=Int.eq_ofNat_of_zero_le d0
         obtain ⟨s,e1,k1,c1⟩:=paid_law V (f:=d) (t:=d) ⟨d0,Int.le_refl _,d1⟩
         obtain ⟨s',e2,k2,c2⟩:=paid_law W (f:=d) (t:=d) ⟨d0,Int.le_refl _,d1⟩
         obtain ⟨mu,e3,k3,c3⟩:=must_law V (d:=d) d1
         obtain ⟨mu',e4,k4,c4⟩:=must_law W (d:=d) d1
         obtain ⟨ma,e5,k5,c5⟩:=may_law V (d:=d) d1
         obtain ⟨ma',e6,k6,c6⟩:=may_law W (d:=d) d1
         rcases c1 with ⟨rfl,_,S⟩ | ⟨_,_,h⟩
         rotate_left
         ·exact absurd C h
         rcases c2 with ⟨rfl,_,S'⟩ | ⟨_,_,h⟩
         rotate_left
         ·exact absurd D h
         rcases c3 with ⟨rfl,_,M⟩ | ⟨_,_,h⟩
         rotate_left
         ·exact absurd C h
         rcases c4 with ⟨rfl,_,M'⟩ | ⟨_,_,h⟩
         rotate_left
         ·exact absurd D h
         rcases c5 with ⟨rfl,_,Y⟩ | ⟨_,_,h⟩
         rotate_left
         ·exact absurd C h
         rcases c6 with ⟨rfl,_,Y'⟩ | ⟨_,_,h⟩
         rotate_left
         ·exact absurd D h
         have M' :Lst b.Tickets.length (fun n=>∀ t,Tr (plusB b x) (plusB b x).Shows (plusB b x).Boxes t→usedB t n d=true) mu' :=M'
         have Y' :Lst b.Tickets.length (fun n=>∃ t,Tr (plusB b x) (plusB b x).Shows (plusB b x).Boxes t∧usedB t n d=true) ma' :=Y'
         have l1:=M.clm.len (by omega); have l2:=M'.clm.len (by omega); have l3:=Y.clm.len (by omega); have l4:=Y'.clm.len (by omega)
         obtain ⟨su,hu1,hu2,hu3⟩:=setOf_eq M.clm (by omega) (by omega)
         obtain ⟨su',hu1',hu2',hu3'⟩:=setOf_eq M'.clm (by omega) (by omega)
         obtain ⟨sa,ha1,ha2,ha3⟩:=setOf_eq Y.clm (by omega) (by omega)
         obtain ⟨sa',ha1',ha2',ha3'⟩:=setOf_eq Y'.clm (by omega) (by omega)
         rw [hd,Option.bind_some,k1,Option.bind_some]
         show ((ticket_Paid (plusB b x) (d:Int) (d:Int)).bind _)=_
         rw [k2,Option.bind_some,k3,Option.bind_some]
         show ((ticket_Must (plusB b x) (d:Int)).bind _)=_
         rw [k4,Option.bind_some,k5,Option.bind_some]
         show ((ticket_May (plusB b x) (d:Int)).bind _)=_
         rw [k6,Option.bind_some]
         simp only [bne_self_eq_false,cond_false]
         rw [covers_eq (sp_less S S' sub),Option.bind_some,Bool.not_true,cond_false,hu1,Option.bind_some,hu1',Option.bind_some,nand_nat hu2 hu2' (fun j hj=>by
          obtain ⟨g1,g2⟩:=(M.mem j).1 ((hu3 j).1 hj)
          exact (hu3' j).2 ((M'.mem j).2 ⟨g1,fun t ht=>g2 t (sub t ht)⟩)),bne_self_eq_false,cond_false,ha1',Option.bind_some,ha1,Option.bind_some,nand_nat ha2' ha2 (fun j hj=>by
          obtain ⟨g1,t,ht,g2⟩:=(Y'.mem j).1 ((ha3' j).1 hj)
          exact (ha3 j).2 ((Y.mem j).2 ⟨g1,t,sub t ht,g2⟩)),bne_self_eq_false,cond_false]
         by_cases h0:b.Tickets.length=0
         ·rw [show ((b.Tickets.length:Int)==0)=true by simp [h0],cond_true,punched_t]; rfl
         rw [show ((b.Tickets.length:Int)==0)=false by rw [beq_eq_false_iff_ne]; omega,cond_false]
         obtain ⟨o,ho,o0,o1⟩:=mod_ok (aget n 1) b.Tickets.length (by omega) (by omega)
         obtain ⟨o,rfl⟩:=Int.eq_ofNat_of_zero_le o0
         obtain ⟨u,e7,k7,c7⟩:=saved_law V (n:=o) (by omega)
         obtain ⟨u',e8,k8,c8⟩:=saved_law W (n:=o) (by show o < b.Tickets.length; omega)
         rcases c7 with ⟨rfl,_,U⟩ | ⟨_,_,h⟩
         rotate_left
         ·exact absurd C h
         rcases c8 with ⟨rfl,_,U'⟩ | ⟨_,_,h⟩
         rotate_left
         ·exact absurd D h
         rw [ho,Option.bind_some,k7,Option.bind_some]
         show ((ticket_Saved (plusB b x) (o:Int)).bind _)=_
         rw [k8,Option.bind_some]
         simp only [beq_self_eq_true,cond_true]
         rw [covers_eq (sp_less U U' sub),Option.bind_some,cond_true,punched_t]; rfl
end Go.Proofs.YtafhljljfglfeaaDoor
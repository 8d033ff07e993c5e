/- What the functions of the program compute, and that they do, printed by a program of mine. -/
import Derived.Test.YtafhljljfglfeaaDoorZWB
import Derived.KernelRfl
set_option linter.unusedVariables false
set_option linter.unusedSimpArgs false
namespace Go.Proofs.YtafhljljfglfeaaDoor
open Go Go.Fx Go.Proofs
set_option maxRecDepth 100000 in
theorem ticket_book_span_ok {a0 : Ticket_book} {a1 : Ticket_truth → Option Int} {A1 : Option Addr} {c2 : Nat} {A4 : Option Addr} {c5 : Nat} {A7 : Option Addr} {c8 : Nat} {A10 : Option Addr} {c11 : Nat} {m13 : Option Nat} {f15 : Nat} {cp16 : List Value} {w : World} {r : Span} (H : ticket_book_span a0 a1 = some r) (h3 : (rd eTallyCount 7 A1 c2 a0.TicketBook.Tally.Counts).ok w) (h6 : (rd eTicketSeason 2 A4 c5 a0.TicketBook.Tickets).ok w) (h9 : (rd eTicketShow 3 A7 c8 a0.TicketBook.Shows).ok w) (h12 : (rd eTicketBox 4 A10 c11 a0.TicketBook.Boxes).ok w) (h14 : (mpo ekS iE m13 a0.by_).ok w) (hF17 : funOf Tryd.prog f15 = true) (hw18 : ∀ (y19 : Ticket_truth) (w21 : World) (y20 : Int), Keep0 w w21 → a1 y19 = some y20 → Calls Tryd.prog f15 (List.toArray ([AG (sg y19.crossed_ 3 ++ sg y19.used_ 3)] ++ cp16)) w21 (RetV w21 (I y20))) (hg22 : (gW0).ok w) (hg23 : (gW2).ok w) : Calls Tryd.prog 60 #[AG ([I a0.TicketBook.Tally.Trips, I a0.TicketBook.Tally.Room, SL A1 a0.TicketBook.Tally.Counts.length c2, I a0.TicketBook.Fare, SL A4 a0.TicketBook.Tickets.length c5, SL A7 a0.TicketBook.Shows.length c8, SL A10 a0.TicketBook.Boxes.length c11] ++ (sg a0.shown_ 3 ++ [Value.map m13])), Value.func (.func f15) #[] cp16.toArray] w (RetV w (AG [I r.Low, I r.High])) := by
 unfold ticket_book_span at H
 refine fn_of (n := 27) Tryd.func60 rfl rfl (lE rfl) ?_
 have S : St w (fun _ => False) w [] [rd eTallyCount 7 A1 c2 a0.TicketBook.Tally.Counts, rd eTicketSeason 2 A4 c5 a0.TicketBook.Tickets, rd eTicketShow 3 A7 c8 a0.TicketBook.Shows, rd eTicketBox 4 A10 c11 a0.TicketBook.Boxes, mpo ekS iE m13 a0.by_, gW0, gW2] := St.start w _ _ (fA ⟨h3, (fA ⟨h6, (fA ⟨h9, (fA ⟨h12, (fA ⟨h14, (fA ⟨hg22, (fA ⟨hg23, nM⟩)⟩)⟩)⟩)⟩)⟩)⟩)
 refine c_seq <| reg <| p_boxA rfl S fun b24 w25 S26 => p_box (rfl : _ = Value.func (.func f15) #[] cp16.toArray) rfl S26 fun b27 w28 S29 => p_allA in49 S29 fun b30 w31 S32 => wp_nil <| c_seq <| reg <| p_all in30 rfl S32 fun b33 w34 S35 => wp_nil <| c_seq <| c_seq <| reg <| p_ldA ty92 sz92 (S35.atX (i := 3) rfl) rfl rfl ?_
 obtain ⟨r36, h37, H⟩ := bindS H
 refine p_cal (ticket_book_truths_ok h37 (S35.atP (i := 0) rfl) (S35.atP (i := 1) rfl) (S35.atP (i := 2) rfl) (S35.atP (i := 3) rfl) (S35.atP (i := 4) rfl) (S35.atP (i := 5) rfl) (S35.atP (i := 6) rfl)) fu69 rfl ?_
 rintro _ w38 ⟨b40, rfl, k39, ⟨o41, n42⟩, _⟩
 have S43 := S35.addNew k39 o41 n42
 refine wp_nil <| c_block ?_
 have S44 := S43.fix (i := 0) rfl
 obtain ⟨r45, h46, H⟩ := bindS H
 have S47 := S44.nilRow intE 1 3

 have S49 := S44.nilRow intE 1 3
 have S48 := S49
 refine c_rangeG (α := (List Int)) (β := (Option Addr) × Nat) (ε := Ticket_truth) (K := [bl b40 ([I a0.TicketBook.Tally.Trips, I a0.TicketBook.Tally.Room, SL A1 a0.TicketBook.Tally.Counts.length c2, I a0.TicketBook.Fare, SL A4 a0.TicketBook.Tickets.length c5, SL A7 a0.TicketBook.Shows.length c8, SL A10 a0.TicketBook.Boxes.length c11] ++ (sg a0.shown_ 3 ++ [Value.map m13])) 92, rd eTallyCount 7 A1 c2 a0.TicketBook.Tally.Counts, rd eTicketSeason 2 A4 c5 a0.TicketBook.Tickets, rd eTicketShow 3 A7 c8 a0.TicketBook.Shows, rd eTicketBox 4 A10 c11 a0.TicketBook.Boxes, mpo ekS iE m13 a0.by_, gW0, gW2]) (MK := Go.Fx.mark) (XR := fun D50 => [] ++ [bx D50 (.deferred (some []))]) (it := fun {σ} yv s_ => ticket_book_truths_1 s_ a0 yv) (enc := yE0) (ticket_book_span_r2 a1) [] (fun z_1 y_1 => [gr intE 1 3 y_1.1 y_1.2 z_1, bl b33 [SL y_1.1 z_1.length y_1.2] 30, bl b30 [I 0, I 0] 49, bl b27 [Value.func (.func f15) #[] cp16.toArray] 106, bl b24 ([I a0.TicketBook.Tally.Trips, I a0.TicketBook.Tally.Room, SL A1 a0.TicketBook.Tally.Counts.length c2, I a0.TicketBook.Fare, SL A4 a0.TicketBook.Tickets.length c5, SL A7 a0.TicketBook.Shows.length c8, SL A10 a0.TicketBook.Boxes.length c11] ++ (sg a0.shown_ 3 ++ [Value.map m13])) 92]) ([] : List Int) (none, 0) h46 (ent_none (X0 := (fun z_1 y_1 => [gr intE 1 3 y_1.1 y_1.2 z_1, bl b33 [SL y_1.1 z_1.length y_1.2] 30, bl b30 [I 0, I 0] 49, bl b27 [Value.func (.func f15) #[] cp16.toArray] 106, bl b24 ([I a0.TicketBook.Tally.Trips, I a0.TicketBook.Tally.Room, SL A1 a0.TicketBook.Tally.Counts.length c2, I a0.TicketBook.Fare, SL A4 a0.TicketBook.Tickets.length c5, SL A7 a0.TicketBook.Shows.length c8, SL A10 a0.TicketBook.Boxes.length c11] ++ (sg a0.shown_ 3 ++ [Value.map m13])) 92]) ([] : List Int) (none, 0) ++ []) S48) rfl fu88 (fun w_ σ yv_ s_ s'_ l_ G_ A_ hH_ hG_ hk_ hd_ hy_ => (ticket_book_truths_1_ok hH_ hG_ (hk_ _ (List.mem_of_getElem? (i := 0) rfl)) (hk_ _ (List.mem_of_getElem? (i := 1) rfl)) (hk_ _ (List.mem_of_getElem? (i := 2) rfl)) (hk_ _ (List.mem_of_getElem? (i := 3) rfl)) (hk_ _ (List.mem_of_getElem? (i := 4) rfl)) (hk_ _ (List.mem_of_getElem? (i := 5) rfl)) (hk_ _ (List.mem_of_getElem? (i := 6) rfl)) (hk_ _ (List.mem_of_getElem? (i := 7) rfl)) hd_ hy_ (Link.refl _ _)).mono fun en_ w3_ ⟨u_, he_, A'_, hu_, hk2_, ho_, hf_⟩ => ⟨u_, he_, hk2_, A'_, ho_, hf_⟩) (fA ⟨List.mem_of_getElem? (i := 0) rfl, (fA ⟨List.mem_of_getElem? (i := 1) rfl, (fA ⟨List.mem_of_getElem? (i := 2) rfl, (fA ⟨List.mem_of_getElem? (i := 3) rfl, (fA ⟨List.mem_of_getElem? (i := 4) rfl, (fA ⟨List.mem_of_getElem? (i := 5) rfl, (fA ⟨List.mem_of_getElem? (i := 6) rfl, (fA ⟨List.mem_of_getElem? (i := 7) rfl, nM⟩)⟩)⟩)⟩)⟩)⟩)⟩)⟩) (fun _ => rfl) nM ?_ ?_ ?_
 ·intro l51 oR52 oB53 Cr54 x_1 z_1 y_1 w55 b56 c57 z58 PP59 H S60 hlk61 ho62 hB63 hN64 hX65
  unfold ticket_book_span_r2 at H
  replace S60 : St w55 Cr54 w55 [bx l51 oR52, gr intE 1 3 y_1.1 y_1.2 z_1, bl b33 [SL y_1.1 z_1.length y_1.2] 30, bl b30 [I 0, I 0] 49, bl b27 [Value.func (.func f15) #[] cp16.toArray] 106, bl b24 ([I a0.TicketBook.Tally.Trips, I a0.TicketBook.Tally.Room, SL A1 a0.TicketBook.Tally.Counts.length c2, I a0.TicketBook.Fare, SL A4 a0.TicketBook.Tickets.length c5, SL A7 a0.TicketBook.Shows.length c8, SL A10 a0.TicketBook.Boxes.length c11] ++ (sg a0.shown_ 3 ++ [Value.map m13])) 92] [bl b40 ([I a0.TicketBook.Tally.Trips, I a0.TicketBook.Tally.Room, SL A1 a0.TicketBook.Tally.Counts.length c2, I a0.TicketBook.Fare, SL A4 a0.TicketBook.Tickets.length c5, SL A7 a0.TicketBook.Shows.length c8, SL A10 a0.TicketBook.Boxes.length c11] ++ (sg a0.shown_ 3 ++ [Value.map m13])) 92, rd eTallyCount 7 A1 c2 a0.TicketBook.Tally.Counts, rd eTicketSeason 2 A4 c5 a0.TicketBook.Tickets, rd eTicketShow 3 A7 c8 a0.TicketBook.Shows, rd eTicketBox 4 A10 c11 a0.TicketBook.Boxes, mpo ekS iE m13 a0.by_, gW0, gW2] := S60
  refine reg <| p_allA in105 S60 fun b66 w67 S68 => p_stP (pre := []) (old := sg (List.replicate 3 0) 3 ++ sg (List.replicate 3 0) 3) (post := []) (vs := sg x_1.crossed_ 3 ++ sg x_1.used_ 3) sz105 S68 (i := 0) rfl rfl rfl rfl (rfl : _ = AG (sg x_1.crossed_ 3 ++ sg x_1.used_ 3)) rfl rfl rfl rfl fun w69 S70 => wp_nil ?_
  refine hB63 _ _ 1 _ S70 rfl fun w71 S72 => ?_
  replace S72 : St w55 Cr54 w71 [bl b66 (sg x_1.crossed_ 3 ++ sg x_1.used_ 3) 105, bx l51 oB53, gr intE 1 3 y_1.1 y_1.2 z_1, bl b33 [SL y_1.1 z_1.length y_1.2] 30, bl b30 [I 0, I 0] 49, bl b27 [Value.func (.func f15) #[] cp16.toArray] 106, bl b24 ([I a0.TicketBook.Tally.Trips, I a0.TicketBook.Tally.Room, SL A1 a0.TicketBook.Tally.Counts.length c2, I a0.TicketBook.Fare, SL A4 a0.TicketBook.Tickets.length c5, SL A7 a0.TicketBook.Shows.length c8, SL A10 a0.TicketBook.Boxes.length c11] ++ (sg a0.shown_ 3 ++ [Value.map m13])) 92] [bl b40 ([I a0.TicketBook.Tally.Trips, I a0.TicketBook.Tally.Room, SL A1 a0.TicketBook.Tally.Counts.length c2, I a0.TicketBook.Fare, SL A4 a0.TicketBook.Tickets.length c5, SL A7 a0.TicketBook.Shows.length c8, SL A10 a0.TicketBook.Boxes.length c11] ++ (sg a0.shown_ 3 ++ [Value.map m13])) 92, rd eTallyCount 7 A1 c2 a0.TicketBook.Tally.Counts, rd eTicketSeason 2 A4 c5 a0.TicketBook.Tickets, rd eTicketShow 3 A7 c8 a0.TicketBook.Shows, rd eTicketBox 4 A10 c11 a0.TicketBook.Boxes, mpo ekS iE m13 a0.by_, gW0, gW2] := S72
  refine c_block <| c_seq <| reg <| p_ld ty106 (S72.atX (i := 5) rfl) rfl rfl <| p_ldA ty105 sz105 (S72.atX (i := 0) rfl) rfl rfl ?_
  obtain ⟨r73, h74, H⟩ := bindS H
  refine p_cv (hw18 _ _ _ (Link.of (Link.trans (Link.refl _ _) hlk61) S72.keep) h74) hF17 rfl S72 ?_
  intro w75 S76
  refine p_aI rfl <| wp_nil <| c_seq <| reg <| p_ld ty30 (S76.atX (i := 3) rfl) rfl rfl <| p_mI rfl ?_
  obtain ⟨r77, h78, H⟩ := bindS H
  refine p_cv (sl_Contains_int_int_ok h78 (gr_rd intE_len (S76.atX (i := 2) rfl))) fu72 rfl S76 fun w79 S80 => p_not rfl <| wp_nil ?_
  refine c_cond rfl (fun c81 => ?_) (fun c81 => ?_)
  ·replace H := condT c81 H
   refine reg <| p_ld ty30 (S80.atX (i := 3) rfl) rfl rfl <| p_mI rfl <| p_bsl (enc := intE) (l := ([r73] : List Int)) I (fun _ => rfl) sc30 in3 intE_len rfl (by decide) (by decide) zr3_1 S80 rfl fun A82 c83 w84 S85 => ?_
   obtain ⟨h91, H⟩ := needS H
   refine p_app (enc := intE) sc30 in3 rfl intE_len intE_one (by decide) S85 (k := 3) rfl (gr_sl intE_len (S85.atX (i := 0) rfl)) h91 (by simp) rfl rfl fun A89 c90 w87 S88 => p_st sz30 S88 (i := 4) rfl rfl (rfl : _ = SL A89 (z_1 ++ ([r73] : List Int)).length c90) rfl rfl fun w92 S93 => wp_nil ?_
   have S94 := S93.pk [2, 3, 4, 5, 6, 7] (by decide) [0, 1, 2, 3, 4, 5, 6, 7] rfl rfl
   exact hN64 _ _ (z_1 ++ ([r73] : List Int)) (A89, c90) S94 (Option.some.inj H)
  ·replace H := condF c81 H
   refine c_skip ?_
   have S94 := S80.pk [1, 2, 3, 4, 5, 6] (by decide) [0, 1, 2, 3, 4, 5, 6, 7] rfl rfl
   exact hN64 _ _ z_1 (y_1.1, y_1.2) S94 (Option.some.inj H)
 ·intro hc100
  intro l94 D95 o96 y97 w98 S99
  have S101 : St w (fun _ => False) w98 [gr intE 1 3 y97.1 y97.2 r45.2, bl b33 [SL y97.1 r45.2.length y97.2] 30, bl b30 [I 0, I 0] 49, bl b27 [Value.func (.func f15) #[] cp16.toArray] 106, bl b24 ([I a0.TicketBook.Tally.Trips, I a0.TicketBook.Tally.Room, SL A1 a0.TicketBook.Tally.Counts.length c2, I a0.TicketBook.Fare, SL A4 a0.TicketBook.Tickets.length c5, SL A7 a0.TicketBook.Shows.length c8, SL A10 a0.TicketBook.Boxes.length c11] ++ (sg a0.shown_ 3 ++ [Value.map m13])) 92, bx D95 (.deferred (some []))] [bl b40 ([I a0.TicketBook.Tally.Trips, I a0.TicketBook.Tally.Room, SL A1 a0.TicketBook.Tally.Counts.length c2, I a0.TicketBook.Fare, SL A4 a0.TicketBook.Tickets.length c5, SL A7 a0.TicketBook.Shows.length c8, SL A10 a0.TicketBook.Boxes.length c11] ++ (sg a0.shown_ 3 ++ [Value.map m13])) 92, rd eTallyCount 7 A1 c2 a0.TicketBook.Tally.Counts, rd eTicketSeason 2 A4 c5 a0.TicketBook.Tickets, rd eTicketShow 3 A7 c8 a0.TicketBook.Shows, rd eTicketBox 4 A10 c11 a0.TicketBook.Boxes, mpo ekS iE m13 a0.by_, gW0, gW2] := St.tail1 S99
  refine c_seq ?_
  obtain ⟨r102, h103, H⟩ := bindS H
  obtain ⟨r104, h105, H⟩ := bindS H
  refine reg_q mixed 5 (by kernel_rfl) ?_
  refine dS (fun _ k_ => p_ld ty30 (Asr.stays (S101.atX (i := 1) rfl) k_) rfl rfl dn) <| dS (fun _ k_ => p_cvD (sl_Min_int_int_ok h103 (gr_rd intE_len (Asr.stays (S101.atX (i := 0) rfl) k_))) fu84 rfl) <| dS (fun _ k_ => p_ld ty30 (Asr.stays (S101.atX (i := 1) rfl) k_) rfl rfl dn) <| dS (fun _ k_ => p_cvD (sl_Max_int_int_ok h105 (gr_rd intE_len (Asr.stays (S101.atX (i := 0) rfl) k_))) fu85 rfl) ?_
  refine dS (fun _ k_ => p_bld (cs := [I r102, I r104]) st49 (rfl : _ = [(0, I r102), (1, I r104)]) (by kernel_rfl) dn) ?_
  intro w106 k107; have S108 := S101.call k107
  refine p_stP (pre := []) (old := [I 0, I 0]) (post := []) (vs := [I r102, I r104]) sz49 S108 (i := 2) rfl rfl rfl rfl (rfl : _ = AG [I r102, I r104]) rfl rfl rfl rfl fun w109 S110 => wp_nil ?_
  refine c_ret ?_
  refine leave_mark S110 (i := 5) rfl fun w111 S112 => ?_
  obtain rfl := Option.some.inj H
  show bodyPostM (Fr none) 0 Tryd.prog Tryd.f60 _ .ret _ _
  refine ret_of (res1 rfl (rvA rfl ty49 sz49 (S112.atX (i := 2) rfl) rfl)) ?_
  exact ⟨_, rfl, rfl, S112.keep⟩
 ·intro k113 c114 hk115 hc116
  cases hk115

def ticket_Paid_1 (a0 : Ticket_truth) (q0 : Int) (q1 : Int) : Option Int :=
  (ticket_truth_paid a0 q0 q1).bind fun r8 =>
  some r8

set_option maxRecDepth 100000 in
theorem ticket_Paid_1_ok {a0 : Ticket_truth} {q0 : Int} {q1 : Int} {b1 : Nat} {b2 : Nat} {w : World} {r : Int} (H : ticket_Paid_1 a0 q0 q1 = some r) (h4 : (bl b2 [I q1] 3).ok w) (h3 : (bl b1 [I q0] 3).ok w) : Calls Tryd.prog 61 #[AG (sg a0.crossed_ 3 ++ sg a0.used_ 3), P b1 0, P b2 0] w (RetV w (I r)) := by
  unfold ticket_Paid_1 at H
  refine fn_of (n := 9) Tryd.func61 rfl rfl (lE rfl) ?_
  have S : St w (fun _ => False) w [] [bl b2 [I q1] 3, bl b1 [I q0] 3] := St.start w _ _ (fA ⟨h4, (fA ⟨h3, nM⟩)⟩)
  refine c_seq ?_
  refine reg ?_
  refine p_boxA rfl S fun b5 w6 S7 => ?_
  refine p_aI rfl ?_
  refine wp_nil ?_
  refine c_seq ?_
  refine reg ?_
  refine p_ldA ty105 sz105 (S7.atX (i := 0) rfl) rfl rfl ?_
  refine p_ld ty3 (S7.atP (i := 1) rfl) rfl rfl ?_
  refine p_ld ty3 (S7.atP (i := 0) rfl) rfl rfl ?_
  obtain ⟨r8, h9, H⟩ := bindS H
  refine p_cv (ticket_truth_paid_ok h9) fu62 rfl S7 fun w10 S11 => ?_
  refine p_aI rfl ?_
  refine wp_nil ?_
  obtain rfl := Option.some.inj H
  refine c_ret ?_; show bodyPostM (Fr none) 0 Tryd.prog Tryd.f61 _ .ret _ _
  refine ret_of (res1 rfl (rvT (rfl : _ = I r8))) ?_
  exact ⟨_, rfl, rfl, S11.keep⟩

def ticket_Paid_j1 (a1 : Int) (a2 : Int) (z_1 : Int × Int × (List TallyCount) × Int × (List TicketSeason) × (List TicketShow) × (List TicketBox) × (List Int) × (List (Ticket_seat × Int)) × Int) : Option (Span × Int) :=
  bif (z_1.2.2.2.2.2.2.2.2.2 != 0) then (some ((Span.mk 0 0), z_1.2.2.2.2.2.2.2.2.2))
  else ((ticket_book_span (Ticket_book.mk (TicketBook.mk (TallyBook.mk z_1.1 z_1.2.1 z_1.2.2.1) z_1.2.2.2.1 z_1.2.2.2.2.1 z_1.2.2.2.2.2.1 z_1.2.2.2.2.2.2.1) z_1.2.2.2.2.2.2.2.1 z_1.2.2.2.2.2.2.2.2.1) (fun y34 => ticket_Paid_1 y34 a1 a2)).bind fun r35 =>
  some (r35, 0))

def ticket_Paid (a0 : TicketBook) (a1 : Int) (a2 : Int) : Option (Span × Int) :=
  (ticket_isTrip a0 a1).bind fun r29 =>
  bif r29 then ((ticket_isTrip a0 a2).bind fun r40 =>
  bif r40 then ((ticket_asked a0 (decide (a1 ≤ a2))).bind fun r57 =>
  ticket_Paid_j1 a1 a2 (r57.1.TicketBook.Tally.Trips, r57.1.TicketBook.Tally.Room, r57.1.TicketBook.Tally.Counts, r57.1.TicketBook.Fare, r57.1.TicketBook.Tickets, r57.1.TicketBook.Shows, r57.1.TicketBook.Boxes, r57.1.shown_, r57.1.by_, r57.2))
  else ((ticket_asked a0 false).bind fun r183 =>
  ticket_Paid_j1 a1 a2 (r183.1.TicketBook.Tally.Trips, r183.1.TicketBook.Tally.Room, r183.1.TicketBook.Tally.Counts, r183.1.TicketBook.Fare, r183.1.TicketBook.Tickets, r183.1.TicketBook.Shows, r183.1.TicketBook.Boxes, r183.1.shown_, r183.1.by_, r183.2)))
  else ((ticket_asked a0 false).bind fun r317 =>
  ticket_Paid_j1 a1 a2 (r317.1.TicketBook.Tally.Trips, r317.1.TicketBook.Tally.Room, r317.1.TicketBook.Tally.Counts, r317.1.TicketBook.Fare, r317.1.TicketBook.Tickets, r317.1.TicketBook.Shows, r317.1.TicketBook.Boxes, r317.1.shown_, r317.1.by_, r317.2))

set_option maxHeartbeats 10000000 in
set_option maxRecDepth 100000 in
theorem ticket_Paid_ok {a0 : TicketBook} {a1 : Int} {a2 : Int} {A1 : Option Addr} {c2 : Nat} {A4 : Option Addr} {c5 : Nat} {A7 : Option Addr} {c8 : Nat} {A10 : Option Addr} {c11 : Nat} {w : World} {r : Span × Int} (H : ticket_Paid a0 a1 a2 = some r) (h3 : (rd eTallyCount 7 A1 c2 a0.Tally.Counts).ok w) (h6 : (rd eTicketSeason 2 A4 c5 a0.Tickets).ok w) (h9 : (rd eTicketShow 3 A7 c8 a0.Shows).ok w) (h12 : (rd eTicketBox 4 A10 c11 a0.Boxes).ok w) (hg13 : (gW0).ok w) (hg14 : (gW2).ok w) : Calls Tryd.prog 22 #[AG [I a0.Tally.Trips, I a0.Tally.Room, SL A1 a0.Tally.Counts.length c2, I a0.Fare, SL A4 a0.Tickets.length c5, SL A7 a0.Shows.length c8, SL A10 a0.Boxes.length c11], I a1, I a2] w (RetV w (TU [AG [I r.1.Low, I r.1.High], I r.2])) := by
 unfold ticket_Paid at H
 refine fn_of (n := 35) Tryd.func22 rfl rfl (lE rfl) ?_
 have S : St w (fun _ => False) w [] [rd eTallyCount 7 A1 c2 a0.Tally.Counts, rd eTicketSeason 2 A4 c5 a0.Tickets, rd eTicketShow 3 A7 c8 a0.Shows, rd eTicketBox 4 A10 c11 a0.Boxes, gW0, gW2] := St.start w _ _ (fA ⟨h3, (fA ⟨h6, (fA ⟨h9, (fA ⟨h12, (fA ⟨hg13, (fA ⟨hg14, nM⟩)⟩)⟩)⟩)⟩)⟩)
 refine c_seq <| reg <| p_boxA rfl S fun b15 w16 S17 => p_box (rfl : _ = I a1) rfl S17 fun b18 w19 S20 => ?_
 try clear S17
 refine p_box (rfl : _ = I a2) rfl S20 fun b21 w22 S23 => ?_
 try clear S20
 refine p_allA in49 S23 fun b24 w25 S26 => ?_
 try clear S23
 refine p_aI rfl <| wp_nil ?_
 refine c_join (α := Int × Int × (List TallyCount) × Int × (List TicketSeason) × (List TicketShow) × (List TicketBox) × (List Int) × (List (Ticket_seat × Int)) × Int) (β := Nat × (Option Addr) × Nat × (Option Addr) × Nat × (Option Addr) × Nat × (Option Addr) × Nat × (Option Nat)) (fun z_1 y_1 => [(4, P b18 0), (5, P b21 0), (6, P b24 0), (8, P y_1.1 0), (9, I z_1.2.2.2.2.2.2.2.2.2)]) (fun z_1 y_1 w_ => ticket_Paid_j1 a1 a2 z_1 = some r ∧ St w (fun _ => False) w_ [bl y_1.1 ([I z_1.1, I z_1.2.1, SL y_1.2.1 z_1.2.2.1.length y_1.2.2.1, I z_1.2.2.2.1, SL y_1.2.2.2.1 z_1.2.2.2.2.1.length y_1.2.2.2.2.1, SL y_1.2.2.2.2.2.1 z_1.2.2.2.2.2.1.length y_1.2.2.2.2.2.2.1, SL y_1.2.2.2.2.2.2.2.1 z_1.2.2.2.2.2.2.1.length y_1.2.2.2.2.2.2.2.2.1] ++ (sg z_1.2.2.2.2.2.2.2.1 3 ++ [Value.map y_1.2.2.2.2.2.2.2.2.2])) 92, bl b24 [I 0, I 0] 49, bl b21 [I a2] 3, bl b18 [I a1] 3] [rd eTallyCount 7 y_1.2.1 y_1.2.2.1 z_1.2.2.1, rd eTicketSeason 2 y_1.2.2.2.1 y_1.2.2.2.2.1 z_1.2.2.2.2.1, rd eTicketShow 3 y_1.2.2.2.2.2.1 y_1.2.2.2.2.2.2.1 z_1.2.2.2.2.2.1, rd eTicketBox 4 y_1.2.2.2.2.2.2.2.1 y_1.2.2.2.2.2.2.2.2.1 z_1.2.2.2.2.2.2.1, mpo ekS iE y_1.2.2.2.2.2.2.2.2.2 z_1.2.2.2.2.2.2.2.2.1, rd eTallyCount 7 A1 c2 a0.Tally.Counts, rd eTicketSeason 2 A4 c5 a0.Tickets, rd eTicketShow 3 A7 c8 a0.Shows, rd eTicketBox 4 A10 c11 a0.Boxes, gW0, gW2]) ?_ ?_
 ·obtain ⟨r29, h30, H⟩ := bindS H
  rcases Bool.eq_false_or_eq_true (r29) with c34 | c34
  ·replace H := condT c34 H
   obtain ⟨r40, h41, H⟩ := bindS H
   rcases Bool.eq_false_or_eq_true (r40) with c47 | c47
   ·replace H := condT c47 H
    obtain ⟨r57, h58, H⟩ := bindS H
    have A_ : ∀ {w_ : World}, Keep0 w25 w_ → St w_ (fun _ => False) w_ [] [bl b24 [I 0, I 0] 49, bl b21 [I a2] 3, bl b18 [I a1] 3, bl b15 [I a0.Tally.Trips, I a0.Tally.Room, SL A1 a0.Tally.Counts.length c2, I a0.Fare, SL A4 a0.Tickets.length c5, SL A7 a0.Shows.length c8, SL A10 a0.Boxes.length c11] 29, rd eTallyCount 7 A1 c2 a0.Tally.Counts, rd eTicketSeason 2 A4 c5 a0.Tickets, rd eTicketShow 3 A7 c8 a0.Shows, rd eTicketBox 4 A10 c11 a0.Boxes, gW0, gW2] := fun k_ => S26.asP k_
    refine reg_fl mixed 19 17 (by kernel_rfl) [rv (AG [I a0.Tally.Trips, I a0.Tally.Room, SL A1 a0.Tally.Counts.length c2, I a0.Fare, SL A4 a0.Tickets.length c5, SL A7 a0.Shows.length c8, SL A10 a0.Boxes.length c11]), rv (AG [I a0.Tally.Trips, I a0.Tally.Room, SL A1 a0.Tally.Counts.length c2, I a0.Fare, SL A4 a0.Tickets.length c5, SL A7 a0.Shows.length c8, SL A10 a0.Boxes.length c11]), rv (I a1), rv (B r29), rv (B true), rv (AG [I a0.Tally.Trips, I a0.Tally.Room, SL A1 a0.Tally.Counts.length c2, I a0.Fare, SL A4 a0.Tickets.length c5, SL A7 a0.Shows.length c8, SL A10 a0.Boxes.length c11]), rv (I a2), rv (B r40), rv (B r40), rv (B true), rv (I a1), rv (I a2), rv (B (decide (a1 ≤ a2))), rv (B (decide (a1 ≤ a2))), rx (α := (Option Addr) × Nat × (Option Addr) × Nat × (Option Addr) × Nat × (Option Addr) × Nat × (Option Nat)) (fun ⟨A61, c62, A63, c64, A65, c66, A67, c68, m69⟩ => TU [AG ([I r57.1.TicketBook.Tally.Trips, I r57.1.TicketBook.Tally.Room, SL A61 r57.1.TicketBook.Tally.Counts.length c62, I r57.1.TicketBook.Fare, SL A63 r57.1.TicketBook.Tickets.length c64, SL A65 r57.1.TicketBook.Shows.length c66, SL A67 r57.1.TicketBook.Boxes.length c68] ++ (sg r57.1.shown_ 3 ++ [Value.map m69])), I r57.2]) (fun ⟨A61, c62, A63, c64, A65, c66, A67, c68, m69⟩ lo hi => BtwL lo hi [rd eTallyCount 7 A1 c2 a0.Tally.Counts, rd eTicketSeason 2 A4 c5 a0.Tickets, rd eTicketShow 3 A7 c8 a0.Shows, rd eTicketBox 4 A10 c11 a0.Boxes] (rd eTallyCount 7 A61 c62 r57.1.TicketBook.Tally.Counts) ∧ BtwL lo hi [rd eTallyCount 7 A1 c2 a0.Tally.Counts, rd eTicketSeason 2 A4 c5 a0.Tickets, rd eTicketShow 3 A7 c8 a0.Shows, rd eTicketBox 4 A10 c11 a0.Boxes] (rd eTicketSeason 2 A63 c64 r57.1.TicketBook.Tickets) ∧ BtwL lo hi [] (rd eTicketShow 3 A65 c66 r57.1.TicketBook.Shows) ∧ BtwL lo hi [] (rd eTicketBox 4 A67 c68 r57.1.TicketBook.Boxes) ∧ BtwL lo hi [] (mpo ekS iE m69 r57.1.by_) ∧ True) (fun ⟨A61, c62, A63, c64, A65, c66, A67, c68, m69⟩ => [rd eTallyCount 7 A61 c62 r57.1.TicketBook.Tally.Counts, rd eTicketSeason 2 A63 c64 r57.1.TicketBook.Tickets, rd eTicketShow 3 A65 c66 r57.1.TicketBook.Shows, rd eTicketBox 4 A67 c68 r57.1.TicketBook.Boxes, mpo ekS iE m69 r57.1.by_]), dv 25 some, dv 10 (exG 0), dv 10 (exG 1), rx (α := Nat) (fun b92 => P b92 0) (fun b92 lo hi => BtwL lo hi [] (bl b92 ([I 0, I 0, SL none 0 0, I 0, SL none 0 0, SL none 0 0, SL none 0 0] ++ (sg (List.replicate 3 0) 3 ++ [Value.map none])) 92) ∧ True) (fun b92 => [bl b92 ([I 0, I 0, SL none 0 0, I 0, SL none 0 0, SL none 0 0, SL none 0 0] ++ (sg (List.replicate 3 0) 3 ++ [Value.map none])) 92])] [[], [], [], [], [], [], [], [], [], [], [], [], [], [], [], [25], [10], [10], []] rfl (by kernel_rfl) [[], [], [], [1, 2], [1, 2, 3], [1, 2, 3, 4], [1, 2, 3, 4], [1, 2, 3, 4, 5, 6], [1, 2, 3, 4, 5, 6, 7], [1, 2, 3, 4, 5, 6, 7, 8], [1, 2, 3, 4, 5, 6, 7, 8, 9], [1, 2, 3, 4, 5, 6, 7, 8, 9], [1, 2, 3, 4, 5, 6, 7, 8, 9, 10, 11], [1, 2, 3, 4, 5, 6, 7, 8, 9, 10, 11, 12], [0, 1, 2, 3, 4, 5, 6, 7, 8, 9, 10, 11, 12, 13], [0, 1, 2, 3, 4, 5, 6, 7, 8, 9, 10, 11, 12, 13, 14], [0, 1, 2, 3, 4, 5, 6, 7, 8, 9, 10, 11, 12, 13, 14, 15], [0, 1, 2, 3, 4, 5, 6, 7, 8, 9, 10, 11, 12, 13, 14, 15], [], [0, 1, 2, 3, 4, 5, 6, 7, 8, 9, 10, 11, 12, 13, 14, 15, 16, 18], [0, 1, 2, 3, 4, 5, 6, 7, 8, 9, 10, 11, 12, 13, 14, 15, 16, 17, 18, 19]] (by kernel_rfl) ⟨?_, ?_, ?_, ?_, ?_, ?_, ?_, ?_, ?_, ?_, ?_, ?_, ?_, ?_, ?_, ?_, ?_, ?_, ?_, trivial⟩ ?_ ?_
    ·intro e_ w_ k_ hf_ hR_
     have S_ := @A_ _ k_
     refine hopE [(3, P b15 0)] ⟨((hf_ 3 rfl).trans (rfl : _ = P b15 0)), trivial⟩ ?_
     refine p_ldA ty29 sz29 (S_.atP (i := 3) rfl) rfl rfl <| wp_nil ?_
     exact ⟨_, rfl, S_.keep, rfl⟩
    ·intro e_ w_ k_ hf_ hR_
     have S_ := @A_ _ k_
     refine hopE [(3, P b15 0)] ⟨((hf_ 3 rfl).trans (rfl : _ = P b15 0)), trivial⟩ ?_
     refine p_ldA ty29 sz29 (S_.atP (i := 3) rfl) rfl rfl <| wp_nil ?_
     exact ⟨_, rfl, S_.keep, rfl⟩
    ·intro e_ w_ k_ hf_ hR_
     have S_ := @A_ _ k_
     refine hopE [(4, P b18 0)] ⟨((hf_ 4 rfl).trans (rfl : _ = P b18 0)), trivial⟩ ?_
     refine p_ld ty3 (S_.atP (i := 2) rfl) rfl rfl <| wp_nil ?_
     exact ⟨_, rfl, S_.keep, rfl⟩
    ·intro e_ w_ k_ hf_ hR_
     have S_ := @A_ _ k_
     obtain ⟨_, _, _, _, q27⟩ := hR_ 1 12 rfl (lE rfl) rfl
     obtain ⟨_, _, _, _, q28⟩ := hR_ 2 13 rfl (lE rfl) rfl
     refine hopE [(12, AG [I a0.Tally.Trips, I a0.Tally.Room, SL A1 a0.Tally.Counts.length c2, I a0.Fare, SL A4 a0.Tickets.length c5, SL A7 a0.Shows.length c8, SL A10 a0.Boxes.length c11]), (13, I a1)] ⟨q27, q28, trivial⟩ ?_
     refine p_cv (ticket_isTrip_ok h30 (S_.atP (i := 4) rfl) (S_.atP (i := 5) rfl) (S_.atP (i := 6) rfl) (S_.atP (i := 7) rfl)) fu59 rfl S_ fun w31 S32 => wp_nil ?_
     exact ⟨_, rfl, S32.keep, rfl⟩
    ·intro e_ w_ k_ hf_ hR_
     obtain ⟨_, _, _, _, q33⟩ := hR_ 3 14 rfl (lE rfl) rfl
     refine hopE [(14, B r29)] ⟨q33, trivial⟩ ?_
     refine p_mB rfl <| wp_nil ?_
     exact ⟨_, rfl, Keep.refl _ _, congrArg Value.bool c34⟩
    ·intro e_ w_ k_ hf_ hR_
     have S_ := @A_ _ k_
     obtain ⟨_, _, _, _, q35⟩ := hR_ 4 15 rfl (lE rfl) rfl
     refine hopE [(3, P b15 0), (15, B true)] ⟨((hf_ 3 rfl).trans (rfl : _ = P b15 0)), q35, trivial⟩ ?_
     refine gT rfl rfl (p_ldA ty29 sz29 (S_.atP (i := 3) rfl) rfl rfl ?_)
     refine wp_nil ?_
     exact ⟨_, rfl, S_.keep, rfl⟩
    ·intro e_ w_ k_ hf_ hR_
     have S_ := @A_ _ k_
     obtain ⟨_, _, _, _, q36⟩ := hR_ 4 15 rfl (lE rfl) rfl
     refine hopE [(5, P b21 0), (15, B true)] ⟨((hf_ 5 rfl).trans (rfl : _ = P b21 0)), q36, trivial⟩ ?_
     refine gT rfl rfl (p_ld ty3 (S_.atP (i := 1) rfl) rfl rfl ?_)
     refine wp_nil ?_
     exact ⟨_, rfl, S_.keep, rfl⟩
    ·intro e_ w_ k_ hf_ hR_
     have S_ := @A_ _ k_
     obtain ⟨_, _, _, _, q37⟩ := hR_ 4 15 rfl (lE rfl) rfl
     obtain ⟨_, _, _, _, q38⟩ := hR_ 5 16 rfl (lE rfl) rfl
     obtain ⟨_, _, _, _, q39⟩ := hR_ 6 17 rfl (lE rfl) rfl
     refine hopE [(15, B true), (16, AG [I a0.Tally.Trips, I a0.Tally.Room, SL A1 a0.Tally.Counts.length c2, I a0.Fare, SL A4 a0.Tickets.length c5, SL A7 a0.Shows.length c8, SL A10 a0.Boxes.length c11]), (17, I a2)] ⟨q37, q38, q39, trivial⟩ ?_
     refine gT rfl rfl (p_cv (ticket_isTrip_ok h41 (S_.atP (i := 4) rfl) (S_.atP (i := 5) rfl) (S_.atP (i := 6) rfl) (S_.atP (i := 7) rfl)) fu59 rfl S_ fun w42 S43 => ?_)
     refine wp_nil ?_
     exact ⟨_, rfl, S43.keep, rfl⟩
    ·intro e_ w_ k_ hf_ hR_
     obtain ⟨_, _, _, _, q44⟩ := hR_ 4 15 rfl (lE rfl) rfl
     obtain ⟨_, _, _, _, q45⟩ := hR_ 7 18 rfl (lE rfl) rfl
     refine hopE [(15, B true), (18, B r40)] ⟨q44, q45, trivial⟩ ?_
     refine p_pkT rfl (rfl : _ = B r40) <| wp_nil ?_
     exact ⟨_, rfl, Keep.refl _ _, rfl⟩
    ·intro e_ w_ k_ hf_ hR_
     obtain ⟨_, _, _, _, q46⟩ := hR_ 8 19 rfl (lE rfl) rfl
     refine hopE [(19, B r40)] ⟨q46, trivial⟩ ?_
     refine p_mB rfl <| wp_nil ?_
     exact ⟨_, rfl, Keep.refl _ _, congrArg Value.bool c47⟩
    ·intro e_ w_ k_ hf_ hR_
     have S_ := @A_ _ k_
     obtain ⟨_, _, _, _, q48⟩ := hR_ 9 20 rfl (lE rfl) rfl
     refine hopE [(4, P b18 0), (20, B true)] ⟨((hf_ 4 rfl).trans (rfl : _ = P b18 0)), q48, trivial⟩ ?_
     refine gT rfl rfl (p_ld ty3 (S_.atP (i := 2) rfl) rfl rfl ?_)
     refine wp_nil ?_
     exact ⟨_, rfl, S_.keep, rfl⟩
    ·intro e_ w_ k_ hf_ hR_
     have S_ := @A_ _ k_
     obtain ⟨_, _, _, _, q49⟩ := hR_ 9 20 rfl (lE rfl) rfl
     refine hopE [(5, P b21 0), (20, B true)] ⟨((hf_ 5 rfl).trans (rfl : _ = P b21 0)), q49, trivial⟩ ?_
     refine gT rfl rfl (p_ld ty3 (S_.atP (i := 1) rfl) rfl rfl ?_)
     refine wp_nil ?_
     exact ⟨_, rfl, S_.keep, rfl⟩
    ·intro e_ w_ k_ hf_ hR_
     obtain ⟨_, _, _, _, q50⟩ := hR_ 9 20 rfl (lE rfl) rfl
     obtain ⟨_, _, _, _, q51⟩ := hR_ 10 21 rfl (lE rfl) rfl
     obtain ⟨_, _, _, _, q52⟩ := hR_ 11 22 rfl (lE rfl) rfl
     refine hopE [(20, B true), (21, I a1), (22, I a2)] ⟨q50, q51, q52, trivial⟩ ?_
     refine gT rfl rfl (p_cmp rfl rfl rfl ?_)
     refine wp_nil ?_
     exact ⟨_, rfl, Keep.refl _ _, rfl⟩
    ·intro e_ w_ k_ hf_ hR_
     obtain ⟨_, _, _, _, q53⟩ := hR_ 9 20 rfl (lE rfl) rfl
     obtain ⟨_, _, _, _, q54⟩ := hR_ 12 23 rfl (lE rfl) rfl
     refine hopE [(20, B true), (23, B (decide (a1 ≤ a2)))] ⟨q53, q54, trivial⟩ ?_
     refine p_pkT rfl (rfl : _ = B (decide (a1 ≤ a2))) <| wp_nil ?_
     exact ⟨_, rfl, Keep.refl _ _, rfl⟩
    ·intro e_ w_ k_ hf_ hR_
     have S_ := @A_ _ k_
     obtain ⟨_, _, _, _, q55⟩ := hR_ 0 11 rfl (lE rfl) rfl
     obtain ⟨_, _, _, _, q56⟩ := hR_ 13 24 rfl (lE rfl) rfl
     refine hopE [(11, AG [I a0.Tally.Trips, I a0.Tally.Room, SL A1 a0.Tally.Counts.length c2, I a0.Fare, SL A4 a0.Tickets.length c5, SL A7 a0.Shows.length c8, SL A10 a0.Boxes.length c11]), (24, B (decide (a1 ≤ a2)))] ⟨q55, q56, trivial⟩ ?_
     refine p_cal (ticket_asked_ok h58 (S_.atP (i := 4) rfl) (S_.atP (i := 5) rfl) (S_.atP (i := 6) rfl) (S_.atP (i := 7) rfl) (S_.atP (i := 8) rfl) (S_.atP (i := 9) rfl)) fu58 rfl ?_
     rintro _ w59 ⟨A61, c62, A63, c64, A65, c66, A67, c68, m69, rfl, k60, ⟨o70, n71⟩, ⟨o72, n73⟩, ⟨o74, n75⟩, ⟨o76, n77⟩, ⟨o78, n79⟩, _⟩
     have S80 := S_.callN k60 [rd eTallyCount 7 A61 c62 r57.1.TicketBook.Tally.Counts, rd eTicketSeason 2 A63 c64 r57.1.TicketBook.Tickets, rd eTicketShow 3 A65 c66 r57.1.TicketBook.Shows, rd eTicketBox 4 A67 c68 r57.1.TicketBook.Boxes, mpo ekS iE m69 r57.1.by_] (fA ⟨⟨o70, Al.inL n71 ((fA ⟨(fp_mem (i := 4) rfl), (fA ⟨(fp_mem (i := 5) rfl), (fA ⟨(fp_mem (i := 6) rfl), (fA ⟨(fp_mem (i := 7) rfl), nM⟩)⟩)⟩)⟩))⟩, (fA ⟨⟨o72, Al.inL n73 ((fA ⟨(fp_mem (i := 4) rfl), (fA ⟨(fp_mem (i := 5) rfl), (fA ⟨(fp_mem (i := 6) rfl), (fA ⟨(fp_mem (i := 7) rfl), nM⟩)⟩)⟩)⟩))⟩, (fA ⟨⟨o74, New.inL n75⟩, (fA ⟨⟨o76, New.inL n77⟩, (fA ⟨⟨o78, New.inL n79⟩, nM⟩)⟩)⟩)⟩)⟩)
     refine wp_nil ?_
     exact ⟨_, rfl, S80.keep, ⟨(A61, c62, A63, c64, A65, c66, A67, c68, m69), rfl, ⟨BtwL.of n71 rfl (S80.atP (i := 0) rfl) rfl, BtwL.of n73 rfl (S80.atP (i := 1) rfl) rfl, BtwL.of (New.al (New.mono n75 S_.keep.size)) rfl (S80.atP (i := 2) rfl) rfl, BtwL.of (New.al (New.mono n77 S_.keep.size)) rfl (S80.atP (i := 3) rfl) rfl, BtwL.of (New.al (New.mono n79 S_.keep.size)) rfl (S80.atP (i := 4) rfl) rfl, trivial⟩, (fA ⟨(S80.atP (i := 0) rfl), (fA ⟨(S80.atP (i := 1) rfl), (fA ⟨(S80.atP (i := 2) rfl), (fA ⟨(S80.atP (i := 3) rfl), (fA ⟨(S80.atP (i := 4) rfl), nM⟩)⟩)⟩)⟩)⟩)⟩⟩
    ·intro e_ w_ k_ hf_ hR_
     have S_ := @A_ _ k_
     obtain ⟨_, _, _, _, ⟨A61, c62, A63, c64, A65, c66, A67, c68, m69⟩, q81, p82, a83⟩ := hR_ 14 25 rfl (lE rfl) rfl
     replace q81 : e_ 25 = TU [AG ([I r57.1.TicketBook.Tally.Trips, I r57.1.TicketBook.Tally.Room, SL A61 r57.1.TicketBook.Tally.Counts.length c62, I r57.1.TicketBook.Fare, SL A63 r57.1.TicketBook.Tickets.length c64, SL A65 r57.1.TicketBook.Shows.length c66, SL A67 r57.1.TicketBook.Boxes.length c68] ++ (sg r57.1.shown_ 3 ++ [Value.map m69])), I r57.2] := q81
     have S_ := St.addL' S_ (a83 _ (.head _)) (fun _ _ _ h_ => (List.not_mem_nil h_).elim)
     have S_ := St.addL' S_ (a83 _ (.tail _ (.head _))) (fun _ _ _ h_ => (List.not_mem_nil h_).elim)
     have S_ := St.addL' S_ (a83 _ (.tail _ (.tail _ (.head _)))) (fun _ _ _ h_ => (List.not_mem_nil h_).elim)
     have S_ := St.addL' S_ (a83 _ (.tail _ (.tail _ (.tail _ (.head _))))) (fun _ _ _ h_ => (List.not_mem_nil h_).elim)
     have S_ := St.addL' S_ (a83 _ (.tail _ (.tail _ (.tail _ (.tail _ (.head _)))))) (fun _ _ _ h_ => (List.not_mem_nil h_).elim)
     refine hopE [(25, TU [AG ([I r57.1.TicketBook.Tally.Trips, I r57.1.TicketBook.Tally.Room, SL A61 r57.1.TicketBook.Tally.Counts.length c62, I r57.1.TicketBook.Fare, SL A63 r57.1.TicketBook.Tickets.length c64, SL A65 r57.1.TicketBook.Shows.length c66, SL A67 r57.1.TicketBook.Boxes.length c68] ++ (sg r57.1.shown_ 3 ++ [Value.map m69])), I r57.2])] ⟨q81, trivial⟩ ?_
     refine p_mT rfl <| wp_nil ?_
     exact ⟨_, rfl, S_.keep, rfl⟩
    ·intro e_ w_ k_ hf_ hR_
     have S_ := @A_ _ k_
     obtain ⟨_, _, _, _, ⟨A61, c62, A63, c64, A65, c66, A67, c68, m69⟩, q85, p86, a87⟩ := hR_ 14 25 rfl (lE rfl) rfl
     replace q85 : e_ 25 = TU [AG ([I r57.1.TicketBook.Tally.Trips, I r57.1.TicketBook.Tally.Room, SL A61 r57.1.TicketBook.Tally.Counts.length c62, I r57.1.TicketBook.Fare, SL A63 r57.1.TicketBook.Tickets.length c64, SL A65 r57.1.TicketBook.Shows.length c66, SL A67 r57.1.TicketBook.Boxes.length c68] ++ (sg r57.1.shown_ 3 ++ [Value.map m69])), I r57.2] := q85
     have S_ := St.addL' S_ (a87 _ (.head _)) (fun _ _ _ h_ => (List.not_mem_nil h_).elim)
     have S_ := St.addL' S_ (a87 _ (.tail _ (.head _))) (fun _ _ _ h_ => (List.not_mem_nil h_).elim)
     have S_ := St.addL' S_ (a87 _ (.tail _ (.tail _ (.head _)))) (fun _ _ _ h_ => (List.not_mem_nil h_).elim)
     have S_ := St.addL' S_ (a87 _ (.tail _ (.tail _ (.tail _ (.head _))))) (fun _ _ _ h_ => (List.not_mem_nil h_).elim)
     have S_ := St.addL' S_ (a87 _ (.tail _ (.tail _ (.tail _ (.tail _ (.head _)))))) (fun _ _ _ h_ => (List.not_mem_nil h_).elim)
     obtain ⟨_, _, _, _, q84⟩ := hR_ 15 10 rfl (lE rfl) rfl
     replace q84 : e_ 10 = TU [AG ([I r57.1.TicketBook.Tally.Trips, I r57.1.TicketBook.Tally.Room, SL A61 r57.1.TicketBook.Tally.Counts.length c62, I r57.1.TicketBook.Fare, SL A63 r57.1.TicketBook.Tickets.length c64, SL A65 r57.1.TicketBook.Shows.length c66, SL A67 r57.1.TicketBook.Boxes.length c68] ++ (sg r57.1.shown_ 3 ++ [Value.map m69])), I r57.2] := (Option.some.inj ((congrArg some q85).symm.trans q84)).symm
     refine hopE [(10, TU [AG ([I r57.1.TicketBook.Tally.Trips, I r57.1.TicketBook.Tally.Room, SL A61 r57.1.TicketBook.Tally.Counts.length c62, I r57.1.TicketBook.Fare, SL A63 r57.1.TicketBook.Tickets.length c64, SL A65 r57.1.TicketBook.Shows.length c66, SL A67 r57.1.TicketBook.Boxes.length c68] ++ (sg r57.1.shown_ 3 ++ [Value.map m69])), I r57.2])] ⟨q84, trivial⟩ ?_
     refine p_ext rfl rfl <| wp_nil ?_
     exact ⟨_, rfl, S_.keep, rfl⟩
    ·intro e_ w_ k_ hf_ hR_
     have S_ := @A_ _ k_
     obtain ⟨_, _, _, _, ⟨A61, c62, A63, c64, A65, c66, A67, c68, m69⟩, q89, p90, a91⟩ := hR_ 14 25 rfl (lE rfl) rfl
     replace q89 : e_ 25 = TU [AG ([I r57.1.TicketBook.Tally.Trips, I r57.1.TicketBook.Tally.Room, SL A61 r57.1.TicketBook.Tally.Counts.length c62, I r57.1.TicketBook.Fare, SL A63 r57.1.TicketBook.Tickets.length c64, SL A65 r57.1.TicketBook.Shows.length c66, SL A67 r57.1.TicketBook.Boxes.length c68] ++ (sg r57.1.shown_ 3 ++ [Value.map m69])), I r57.2] := q89
     have S_ := St.addL' S_ (a91 _ (.head _)) (fun _ _ _ h_ => (List.not_mem_nil h_).elim)
     have S_ := St.addL' S_ (a91 _ (.tail _ (.head _))) (fun _ _ _ h_ => (List.not_mem_nil h_).elim)
     have S_ := St.addL' S_ (a91 _ (.tail _ (.tail _ (.head _)))) (fun _ _ _ h_ => (List.not_mem_nil h_).elim)
     have S_ := St.addL' S_ (a91 _ (.tail _ (.tail _ (.tail _ (.head _))))) (fun _ _ _ h_ => (List.not_mem_nil h_).elim)
     have S_ := St.addL' S_ (a91 _ (.tail _ (.tail _ (.tail _ (.tail _ (.head _)))))) (fun _ _ _ h_ => (List.not_mem_nil h_).elim)
     obtain ⟨_, _, _, _, q88⟩ := hR_ 15 10 rfl (lE rfl) rfl
     replace q88 : e_ 10 = TU [AG ([I r57.1.TicketBook.Tally.Trips, I r57.1.TicketBook.Tally.Room, SL A61 r57.1.TicketBook.Tally.Counts.length c62, I r57.1.TicketBook.Fare, SL A63 r57.1.TicketBook.Tickets.length c64, SL A65 r57.1.TicketBook.Shows.length c66, SL A67 r57.1.TicketBook.Boxes.length c68] ++ (sg r57.1.shown_ 3 ++ [Value.map m69])), I r57.2] := (Option.some.inj ((congrArg some q89).symm.trans q88)).symm
     refine hopE [(10, TU [AG ([I r57.1.TicketBook.Tally.Trips, I r57.1.TicketBook.Tally.Room, SL A61 r57.1.TicketBook.Tally.Counts.length c62, I r57.1.TicketBook.Fare, SL A63 r57.1.TicketBook.Tickets.length c64, SL A65 r57.1.TicketBook.Shows.length c66, SL A67 r57.1.TicketBook.Boxes.length c68] ++ (sg r57.1.shown_ 3 ++ [Value.map m69])), I r57.2])] ⟨q88, trivial⟩ ?_
     refine p_ext rfl rfl <| wp_nil ?_
     exact ⟨_, rfl, S_.keep, rfl⟩
    ·intro e_ w_ k_ hf_ hR_
     have S_ := @A_ _ k_
     refine hopE [] trivial ?_
     refine p_allA in92 S_ fun b92 w93 S94 => wp_nil ?_
     exact ⟨_, rfl, S94.keep, ⟨b92, rfl, ⟨BtwL.of (New.al (S94.newX (i := 0) rfl)) rfl (S94.atX (i := 0) rfl) rfl, trivial⟩, (fA ⟨(S94.atX (i := 0) rfl), nM⟩)⟩⟩
    ·intro e95 w96 lo97 hi98 k99 hf100 hR101 hd102
     have S103 := S26.call k99
     obtain ⟨h105, h106, h107, ⟨A61, c62, A63, c64, A65, c66, A67, c68, m69⟩, q104, h108, h109⟩ := hR101 14 25 (lE rfl) rfl
     replace q104 : e95 25 = TU [AG ([I r57.1.TicketBook.Tally.Trips, I r57.1.TicketBook.Tally.Room, SL A61 r57.1.TicketBook.Tally.Counts.length c62, I r57.1.TicketBook.Fare, SL A63 r57.1.TicketBook.Tickets.length c64, SL A65 r57.1.TicketBook.Shows.length c66, SL A67 r57.1.TicketBook.Boxes.length c68] ++ (sg r57.1.shown_ 3 ++ [Value.map m69])), I r57.2] := q104
     obtain ⟨p110, p111, p112, p113, p114, _⟩ := h108
     have S115 := St.addR S103 (h109 _ (.head _)) (fun b_ h_ x_ hx_ hb_ => (p110 b_ h_).elim (fun q_ => by have := x_.inb _ _ (S26.xs x_ hx_) hb_; omega) (fun ⟨q_, hq_, hqb_⟩ => S26.dp x_ hx_ q_ ((fA ⟨List.mem_of_getElem? (i := 0) rfl, (fA ⟨List.mem_of_getElem? (i := 1) rfl, (fA ⟨List.mem_of_getElem? (i := 2) rfl, (fA ⟨List.mem_of_getElem? (i := 3) rfl, nM⟩)⟩)⟩)⟩) q_ hq_) b_ hb_ hqb_))
     try clear S103
     have S116 := St.addR S115 (h109 _ (.tail _ (.head _))) (fun b_ h_ x_ hx_ hb_ => (p111 b_ h_).elim (fun q_ => by have := x_.inb _ _ (S26.xs x_ hx_) hb_; omega) (fun ⟨q_, hq_, hqb_⟩ => S26.dp x_ hx_ q_ ((fA ⟨List.mem_of_getElem? (i := 0) rfl, (fA ⟨List.mem_of_getElem? (i := 1) rfl, (fA ⟨List.mem_of_getElem? (i := 2) rfl, (fA ⟨List.mem_of_getElem? (i := 3) rfl, nM⟩)⟩)⟩)⟩) q_ hq_) b_ hb_ hqb_))
     try clear S115
     have S117 := St.addR S116 (h109 _ (.tail _ (.tail _ (.head _)))) (fun b_ h_ x_ hx_ hb_ => (p112 b_ h_).elim (fun q_ => by have := x_.inb _ _ (S26.xs x_ hx_) hb_; omega) (fun ⟨q_, hq_, hqb_⟩ => S26.dp x_ hx_ q_ ((nM) q_ hq_) b_ hb_ hqb_))
     try clear S116
     have S118 := St.addR S117 (h109 _ (.tail _ (.tail _ (.tail _ (.head _))))) (fun b_ h_ x_ hx_ hb_ => (p113 b_ h_).elim (fun q_ => by have := x_.inb _ _ (S26.xs x_ hx_) hb_; omega) (fun ⟨q_, hq_, hqb_⟩ => S26.dp x_ hx_ q_ ((nM) q_ hq_) b_ hb_ hqb_))
     try clear S117
     have S119 := St.addR S118 (h109 _ (.tail _ (.tail _ (.tail _ (.tail _ (.head _)))))) (fun b_ h_ x_ hx_ hb_ => (p114 b_ h_).elim (fun q_ => by have := x_.inb _ _ (S26.xs x_ hx_) hb_; omega) (fun ⟨q_, hq_, hqb_⟩ => S26.dp x_ hx_ q_ ((nM) q_ hq_) b_ hb_ hqb_))
     try clear S118
     have q120 : e95 10 = TU [AG ([I r57.1.TicketBook.Tally.Trips, I r57.1.TicketBook.Tally.Room, SL A61 r57.1.TicketBook.Tally.Counts.length c62, I r57.1.TicketBook.Fare, SL A63 r57.1.TicketBook.Tickets.length c64, SL A65 r57.1.TicketBook.Shows.length c66, SL A67 r57.1.TicketBook.Boxes.length c68] ++ (sg r57.1.shown_ 3 ++ [Value.map m69])), I r57.2] := (Option.some.inj ((congrArg some q104).symm.trans (hR101 15 10 (lE rfl) rfl).2.2.2)).symm
     have q121 : e95 26 = AG ([I r57.1.TicketBook.Tally.Trips, I r57.1.TicketBook.Tally.Room, SL A61 r57.1.TicketBook.Tally.Counts.length c62, I r57.1.TicketBook.Fare, SL A63 r57.1.TicketBook.Tickets.length c64, SL A65 r57.1.TicketBook.Shows.length c66, SL A67 r57.1.TicketBook.Boxes.length c68] ++ (sg r57.1.shown_ 3 ++ [Value.map m69])) := (Option.some.inj ((congrArg (exG 0) q120).symm.trans (hR101 16 26 (lE rfl) rfl).2.2.2)).symm
     have q122 : e95 27 = I r57.2 := (Option.some.inj ((congrArg (exG 1) q120).symm.trans (hR101 17 27 (lE rfl) rfl).2.2.2)).symm
     obtain ⟨h124, h125, h126, b92, q123, h127, h128⟩ := hR101 18 8 (lE rfl) rfl
     replace q123 : e95 8 = P b92 0 := q123
     obtain ⟨p129, _⟩ := h127
     have S131 := St.addO S119 (h128 _ (.head _)) (fun b_ h_ => (p129 b_ h_).elim (fun q_ => Nat.le_trans S26.keep.size (Nat.le_trans h124 q_.1)) (fun ⟨_, hq_, _⟩ => (List.not_mem_nil hq_).elim)) (fA ⟨(fun b_ h1_ h2_ => (p129 b_ h1_).elim (fun q2_ => by have q1_ := Asr.inb _ _ _ (S26.atX (i := 0) rfl) h2_; omega) (fun ⟨_, hq_, _⟩ => (List.not_mem_nil hq_).elim)), (fA ⟨(fun b_ h1_ h2_ => (p129 b_ h1_).elim (fun q2_ => by have q1_ := Asr.inb _ _ _ (S26.atX (i := 1) rfl) h2_; omega) (fun ⟨_, hq_, _⟩ => (List.not_mem_nil hq_).elim)), (fA ⟨(fun b_ h1_ h2_ => (p129 b_ h1_).elim (fun q2_ => by have q1_ := Asr.inb _ _ _ (S26.atX (i := 2) rfl) h2_; omega) (fun ⟨_, hq_, _⟩ => (List.not_mem_nil hq_).elim)), (fA ⟨(fun b_ h1_ h2_ => (p129 b_ h1_).elim (fun q2_ => by have q1_ := Asr.inb _ _ _ (S26.atX (i := 3) rfl) h2_; omega) (fun ⟨_, hq_, _⟩ => (List.not_mem_nil hq_).elim)), nM⟩)⟩)⟩)⟩) (fA ⟨(fun b_ h1_ h2_ => (p129 b_ h1_).elim (fun q1_ => (p114 b_ h2_).elim (fun q2_ => by have q3_ := hd102 18 14 (lE rfl) (lE rfl) (by decide); omega) (fun ⟨q_, hq_, hqb_⟩ => by have q5_ := h124; have q4_ := Asr.inb _ _ _ (S26.ps q_ ((nM) q_ hq_)) hqb_; omega)) (fun ⟨_, hq_, _⟩ => (List.not_mem_nil hq_).elim)), (fA ⟨(fun b_ h1_ h2_ => (p129 b_ h1_).elim (fun q1_ => (p113 b_ h2_).elim (fun q2_ => by have q3_ := hd102 18 14 (lE rfl) (lE rfl) (by decide); omega) (fun ⟨q_, hq_, hqb_⟩ => by have q5_ := h124; have q4_ := Asr.inb _ _ _ (S26.ps q_ ((nM) q_ hq_)) hqb_; omega)) (fun ⟨_, hq_, _⟩ => (List.not_mem_nil hq_).elim)), (fA ⟨(fun b_ h1_ h2_ => (p129 b_ h1_).elim (fun q1_ => (p112 b_ h2_).elim (fun q2_ => by have q3_ := hd102 18 14 (lE rfl) (lE rfl) (by decide); omega) (fun ⟨q_, hq_, hqb_⟩ => by have q5_ := h124; have q4_ := Asr.inb _ _ _ (S26.ps q_ ((nM) q_ hq_)) hqb_; omega)) (fun ⟨_, hq_, _⟩ => (List.not_mem_nil hq_).elim)), (fA ⟨(fun b_ h1_ h2_ => (p129 b_ h1_).elim (fun q1_ => (p111 b_ h2_).elim (fun q2_ => by have q3_ := hd102 18 14 (lE rfl) (lE rfl) (by decide); omega) (fun ⟨q_, hq_, hqb_⟩ => by have q5_ := h124; have q4_ := Asr.inb _ _ _ (S26.ps q_ ((fA ⟨List.mem_of_getElem? (i := 0) rfl, (fA ⟨List.mem_of_getElem? (i := 1) rfl, (fA ⟨List.mem_of_getElem? (i := 2) rfl, (fA ⟨List.mem_of_getElem? (i := 3) rfl, nM⟩)⟩)⟩)⟩) q_ hq_)) hqb_; omega)) (fun ⟨_, hq_, _⟩ => (List.not_mem_nil hq_).elim)), (fA ⟨(fun b_ h1_ h2_ => (p129 b_ h1_).elim (fun q1_ => (p110 b_ h2_).elim (fun q2_ => by have q3_ := hd102 18 14 (lE rfl) (lE rfl) (by decide); omega) (fun ⟨q_, hq_, hqb_⟩ => by have q5_ := h124; have q4_ := Asr.inb _ _ _ (S26.ps q_ ((fA ⟨List.mem_of_getElem? (i := 0) rfl, (fA ⟨List.mem_of_getElem? (i := 1) rfl, (fA ⟨List.mem_of_getElem? (i := 2) rfl, (fA ⟨List.mem_of_getElem? (i := 3) rfl, nM⟩)⟩)⟩)⟩) q_ hq_)) hqb_; omega)) (fun ⟨_, hq_, _⟩ => (List.not_mem_nil hq_).elim)), (fA ⟨(fun b_ h1_ h2_ => (p129 b_ h1_).elim (fun q2_ => by have q1_ := Asr.inb _ _ _ (S26.atP (i := 0) rfl) h2_; omega) (fun ⟨_, hq_, _⟩ => (List.not_mem_nil hq_).elim)), (fA ⟨(fun b_ h1_ h2_ => (p129 b_ h1_).elim (fun q2_ => by have q1_ := Asr.inb _ _ _ (S26.atP (i := 1) rfl) h2_; omega) (fun ⟨_, hq_, _⟩ => (List.not_mem_nil hq_).elim)), (fA ⟨(fun b_ h1_ h2_ => (p129 b_ h1_).elim (fun q2_ => by have q1_ := Asr.inb _ _ _ (S26.atP (i := 2) rfl) h2_; omega) (fun ⟨_, hq_, _⟩ => (List.not_mem_nil hq_).elim)), (fA ⟨(fun b_ h1_ h2_ => (p129 b_ h1_).elim (fun q2_ => by have q1_ := Asr.inb _ _ _ (S26.atP (i := 3) rfl) h2_; omega) (fun ⟨_, hq_, _⟩ => (List.not_mem_nil hq_).elim)), (fA ⟨(fun b_ h1_ h2_ => (p129 b_ h1_).elim (fun q2_ => by have q1_ := Asr.inb _ _ _ (S26.atP (i := 4) rfl) h2_; omega) (fun ⟨_, hq_, _⟩ => (List.not_mem_nil hq_).elim)), (fA ⟨(fun b_ h1_ h2_ => (p129 b_ h1_).elim (fun q2_ => by have q1_ := Asr.inb _ _ _ (S26.atP (i := 5) rfl) h2_; omega) (fun ⟨_, hq_, _⟩ => (List.not_mem_nil hq_).elim)), nM⟩)⟩)⟩)⟩)⟩)⟩)⟩)⟩)⟩)⟩)⟩)
     try clear S119
     refine tailE [(4, P b18 0), (5, P b21 0), (6, P b24 0), (8, P b92 0), (26, AG ([I r57.1.TicketBook.Tally.Trips, I r57.1.TicketBook.Tally.Room, SL A61 r57.1.TicketBook.Tally.Counts.length c62, I r57.1.TicketBook.Fare, SL A63 r57.1.TicketBook.Tickets.length c64, SL A65 r57.1.TicketBook.Shows.length c66, SL A67 r57.1.TicketBook.Boxes.length c68] ++ (sg r57.1.shown_ 3 ++ [Value.map m69]))), (27, I r57.2)] ⟨((hf100 4 rfl).trans (rfl : _ = P b18 0)), ((hf100 5 rfl).trans (rfl : _ = P b21 0)), ((hf100 6 rfl).trans (rfl : _ = P b24 0)), q123, q121, q122, trivial⟩ ?_
     intro g132
     refine p_stP (pre := []) (old := [I 0, I 0, SL none 0 0, I 0, SL none 0 0, SL none 0 0, SL none 0 0] ++ (sg (List.replicate 3 0) 3 ++ [Value.map none])) (post := []) (vs := [I r57.1.TicketBook.Tally.Trips, I r57.1.TicketBook.Tally.Room, SL A61 r57.1.TicketBook.Tally.Counts.length c62, I r57.1.TicketBook.Fare, SL A63 r57.1.TicketBook.Tickets.length c64, SL A65 r57.1.TicketBook.Shows.length c66, SL A67 r57.1.TicketBook.Boxes.length c68] ++ (sg r57.1.shown_ 3 ++ [Value.map m69])) sz92 S131 (i := 0) rfl rfl rfl rfl (rfl : _ = AG ([I r57.1.TicketBook.Tally.Trips, I r57.1.TicketBook.Tally.Room, SL A61 r57.1.TicketBook.Tally.Counts.length c62, I r57.1.TicketBook.Fare, SL A63 r57.1.TicketBook.Tickets.length c64, SL A65 r57.1.TicketBook.Shows.length c66, SL A67 r57.1.TicketBook.Boxes.length c68] ++ (sg r57.1.shown_ 3 ++ [Value.map m69]))) rfl rfl rfl rfl fun w133 S134 => ?_
     try clear S131
     refine p_aI rfl <| wp_nil ?_
     have S135 := S134.pk [0, 1, 2, 3] (by decide) [4, 3, 2, 1, 0, 5, 6, 7, 8, 9, 10] rfl rfl
     try clear S134
     exact ⟨(r57.1.TicketBook.Tally.Trips, r57.1.TicketBook.Tally.Room, r57.1.TicketBook.Tally.Counts, r57.1.TicketBook.Fare, r57.1.TicketBook.Tickets, r57.1.TicketBook.Shows, r57.1.TicketBook.Boxes, r57.1.shown_, r57.1.by_, r57.2), (b92, A61, c62, A63, c64, A65, c66, A67, c68, m69), _, rfl, ⟨rfl, rfl, rfl, rfl, rfl, trivial⟩, H, S135⟩
    ·intro e135 w136 lo137 hi138 k139 hf140 hR141 hd142
     have S143 := S26.call k139
     obtain ⟨h145, h146, h147, ⟨A61, c62, A63, c64, A65, c66, A67, c68, m69⟩, q144, h148, h149⟩ := hR141 14 25 (lE rfl) (by decide) rfl
     replace q144 : e135 25 = TU [AG ([I r57.1.TicketBook.Tally.Trips, I r57.1.TicketBook.Tally.Room, SL A61 r57.1.TicketBook.Tally.Counts.length c62, I r57.1.TicketBook.Fare, SL A63 r57.1.TicketBook.Tickets.length c64, SL A65 r57.1.TicketBook.Shows.length c66, SL A67 r57.1.TicketBook.Boxes.length c68] ++ (sg r57.1.shown_ 3 ++ [Value.map m69])), I r57.2] := q144
     obtain ⟨p150, p151, p152, p153, p154, _⟩ := h148
     have S155 := St.addR S143 (h149 _ (.head _)) (fun b_ h_ x_ hx_ hb_ => (p150 b_ h_).elim (fun q_ => by have := x_.inb _ _ (S26.xs x_ hx_) hb_; omega) (fun ⟨q_, hq_, hqb_⟩ => S26.dp x_ hx_ q_ ((fA ⟨List.mem_of_getElem? (i := 0) rfl, (fA ⟨List.mem_of_getElem? (i := 1) rfl, (fA ⟨List.mem_of_getElem? (i := 2) rfl, (fA ⟨List.mem_of_getElem? (i := 3) rfl, nM⟩)⟩)⟩)⟩) q_ hq_) b_ hb_ hqb_))
     try clear S143
     have S156 := St.addR S155 (h149 _ (.tail _ (.head _))) (fun b_ h_ x_ hx_ hb_ => (p151 b_ h_).elim (fun q_ => by have := x_.inb _ _ (S26.xs x_ hx_) hb_; omega) (fun ⟨q_, hq_, hqb_⟩ => S26.dp x_ hx_ q_ ((fA ⟨List.mem_of_getElem? (i := 0) rfl, (fA ⟨List.mem_of_getElem? (i := 1) rfl, (fA ⟨List.mem_of_getElem? (i := 2) rfl, (fA ⟨List.mem_of_getElem? (i := 3) rfl, nM⟩)⟩)⟩)⟩) q_ hq_) b_ hb_ hqb_))
     try clear S155
     have S157 := St.addR S156 (h149 _ (.tail _ (.tail _ (.head _)))) (fun b_ h_ x_ hx_ hb_ => (p152 b_ h_).elim (fun q_ => by have := x_.inb _ _ (S26.xs x_ hx_) hb_; omega) (fun ⟨q_, hq_, hqb_⟩ => S26.dp x_ hx_ q_ ((nM) q_ hq_) b_ hb_ hqb_))
     try clear S156
     have S158 := St.addR S157 (h149 _ (.tail _ (.tail _ (.tail _ (.head _))))) (fun b_ h_ x_ hx_ hb_ => (p153 b_ h_).elim (fun q_ => by have := x_.inb _ _ (S26.xs x_ hx_) hb_; omega) (fun ⟨q_, hq_, hqb_⟩ => S26.dp x_ hx_ q_ ((nM) q_ hq_) b_ hb_ hqb_))
     try clear S157
     have S159 := St.addR S158 (h149 _ (.tail _ (.tail _ (.tail _ (.tail _ (.head _)))))) (fun b_ h_ x_ hx_ hb_ => (p154 b_ h_).elim (fun q_ => by have := x_.inb _ _ (S26.xs x_ hx_) hb_; omega) (fun ⟨q_, hq_, hqb_⟩ => S26.dp x_ hx_ q_ ((nM) q_ hq_) b_ hb_ hqb_))
     try clear S158
     have q160 : e135 10 = TU [AG ([I r57.1.TicketBook.Tally.Trips, I r57.1.TicketBook.Tally.Room, SL A61 r57.1.TicketBook.Tally.Counts.length c62, I r57.1.TicketBook.Fare, SL A63 r57.1.TicketBook.Tickets.length c64, SL A65 r57.1.TicketBook.Shows.length c66, SL A67 r57.1.TicketBook.Boxes.length c68] ++ (sg r57.1.shown_ 3 ++ [Value.map m69])), I r57.2] := (Option.some.inj ((congrArg some q144).symm.trans (hR141 15 10 (lE rfl) (by decide) rfl).2.2.2)).symm
     have q161 : e135 26 = AG ([I r57.1.TicketBook.Tally.Trips, I r57.1.TicketBook.Tally.Room, SL A61 r57.1.TicketBook.Tally.Counts.length c62, I r57.1.TicketBook.Fare, SL A63 r57.1.TicketBook.Tickets.length c64, SL A65 r57.1.TicketBook.Shows.length c66, SL A67 r57.1.TicketBook.Boxes.length c68] ++ (sg r57.1.shown_ 3 ++ [Value.map m69])) := (Option.some.inj ((congrArg (exG 0) q160).symm.trans (hR141 16 26 (lE rfl) (by decide) rfl).2.2.2)).symm
     obtain ⟨h163, h164, h165, b92, q162, h166, h167⟩ := hR141 18 8 (lE rfl) (by decide) rfl
     replace q162 : e135 8 = P b92 0 := q162
     obtain ⟨p168, _⟩ := h166
     have S170 := St.addO S159 (h167 _ (.head _)) (fun b_ h_ => (p168 b_ h_).elim (fun q_ => Nat.le_trans S26.keep.size (Nat.le_trans h163 q_.1)) (fun ⟨_, hq_, _⟩ => (List.not_mem_nil hq_).elim)) (fA ⟨(fun b_ h1_ h2_ => (p168 b_ h1_).elim (fun q2_ => by have q1_ := Asr.inb _ _ _ (S26.atX (i := 0) rfl) h2_; omega) (fun ⟨_, hq_, _⟩ => (List.not_mem_nil hq_).elim)), (fA ⟨(fun b_ h1_ h2_ => (p168 b_ h1_).elim (fun q2_ => by have q1_ := Asr.inb _ _ _ (S26.atX (i := 1) rfl) h2_; omega) (fun ⟨_, hq_, _⟩ => (List.not_mem_nil hq_).elim)), (fA ⟨(fun b_ h1_ h2_ => (p168 b_ h1_).elim (fun q2_ => by have q1_ := Asr.inb _ _ _ (S26.atX (i := 2) rfl) h2_; omega) (fun ⟨_, hq_, _⟩ => (List.not_mem_nil hq_).elim)), (fA ⟨(fun b_ h1_ h2_ => (p168 b_ h1_).elim (fun q2_ => by have q1_ := Asr.inb _ _ _ (S26.atX (i := 3) rfl) h2_; omega) (fun ⟨_, hq_, _⟩ => (List.not_mem_nil hq_).elim)), nM⟩)⟩)⟩)⟩) (fA ⟨(fun b_ h1_ h2_ => (p168 b_ h1_).elim (fun q1_ => (p154 b_ h2_).elim (fun q2_ => by have q3_ := hd142 18 14 (lE rfl) (lE rfl) (by decide) (by decide) (by decide); omega) (fun ⟨q_, hq_, hqb_⟩ => by have q5_ := h163; have q4_ := Asr.inb _ _ _ (S26.ps q_ ((nM) q_ hq_)) hqb_; omega)) (fun ⟨_, hq_, _⟩ => (List.not_mem_nil hq_).elim)), (fA ⟨(fun b_ h1_ h2_ => (p168 b_ h1_).elim (fun q1_ => (p153 b_ h2_).elim (fun q2_ => by have q3_ := hd142 18 14 (lE rfl) (lE rfl) (by decide) (by decide) (by decide); omega) (fun ⟨q_, hq_, hqb_⟩ => by have q5_ := h163; have q4_ := Asr.inb _ _ _ (S26.ps q_ ((nM) q_ hq_)) hqb_; omega)) (fun ⟨_, hq_, _⟩ => (List.not_mem_nil hq_).elim)), (fA ⟨(fun b_ h1_ h2_ => (p168 b_ h1_).elim (fun q1_ => (p152 b_ h2_).elim (fun q2_ => by have q3_ := hd142 18 14 (lE rfl) (lE rfl) (by decide) (by decide) (by decide); omega) (fun ⟨q_, hq_, hqb_⟩ => by have q5_ := h163; have q4_ := Asr.inb _ _ _ (S26.ps q_ ((nM) q_ hq_)) hqb_; omega)) (fun ⟨_, hq_, _⟩ => (List.not_mem_nil hq_).elim)), (fA ⟨(fun b_ h1_ h2_ => (p168 b_ h1_).elim (fun q1_ => (p151 b_ h2_).elim (fun q2_ => by have q3_ := hd142 18 14 (lE rfl) (lE rfl) (by decide) (by decide) (by decide); omega) (fun ⟨q_, hq_, hqb_⟩ => by have q5_ := h163; have q4_ := Asr.inb _ _ _ (S26.ps q_ ((fA ⟨List.mem_of_getElem? (i := 0) rfl, (fA ⟨List.mem_of_getElem? (i := 1) rfl, (fA ⟨List.mem_of_getElem? (i := 2) rfl, (fA ⟨List.mem_of_getElem? (i := 3) rfl, nM⟩)⟩)⟩)⟩) q_ hq_)) hqb_; omega)) (fun ⟨_, hq_, _⟩ => (List.not_mem_nil hq_).elim)), (fA ⟨(fun b_ h1_ h2_ => (p168 b_ h1_).elim (fun q1_ => (p150 b_ h2_).elim (fun q2_ => by have q3_ := hd142 18 14 (lE rfl) (lE rfl) (by decide) (by decide) (by decide); omega) (fun ⟨q_, hq_, hqb_⟩ => by have q5_ := h163; have q4_ := Asr.inb _ _ _ (S26.ps q_ ((fA ⟨List.mem_of_getElem? (i := 0) rfl, (fA ⟨List.mem_of_getElem? (i := 1) rfl, (fA ⟨List.mem_of_getElem? (i := 2) rfl, (fA ⟨List.mem_of_getElem? (i := 3) rfl, nM⟩)⟩)⟩)⟩) q_ hq_)) hqb_; omega)) (fun ⟨_, hq_, _⟩ => (List.not_mem_nil hq_).elim)), (fA ⟨(fun b_ h1_ h2_ => (p168 b_ h1_).elim (fun q2_ => by have q1_ := Asr.inb _ _ _ (S26.atP (i := 0) rfl) h2_; omega) (fun ⟨_, hq_, _⟩ => (List.not_mem_nil hq_).elim)), (fA ⟨(fun b_ h1_ h2_ => (p168 b_ h1_).elim (fun q2_ => by have q1_ := Asr.inb _ _ _ (S26.atP (i := 1) rfl) h2_; omega) (fun ⟨_, hq_, _⟩ => (List.not_mem_nil hq_).elim)), (fA ⟨(fun b_ h1_ h2_ => (p168 b_ h1_).elim (fun q2_ => by have q1_ := Asr.inb _ _ _ (S26.atP (i := 2) rfl) h2_; omega) (fun ⟨_, hq_, _⟩ => (List.not_mem_nil hq_).elim)), (fA ⟨(fun b_ h1_ h2_ => (p168 b_ h1_).elim (fun q2_ => by have q1_ := Asr.inb _ _ _ (S26.atP (i := 3) rfl) h2_; omega) (fun ⟨_, hq_, _⟩ => (List.not_mem_nil hq_).elim)), (fA ⟨(fun b_ h1_ h2_ => (p168 b_ h1_).elim (fun q2_ => by have q1_ := Asr.inb _ _ _ (S26.atP (i := 4) rfl) h2_; omega) (fun ⟨_, hq_, _⟩ => (List.not_mem_nil hq_).elim)), (fA ⟨(fun b_ h1_ h2_ => (p168 b_ h1_).elim (fun q2_ => by have q1_ := Asr.inb _ _ _ (S26.atP (i := 5) rfl) h2_; omega) (fun ⟨_, hq_, _⟩ => (List.not_mem_nil hq_).elim)), nM⟩)⟩)⟩)⟩)⟩)⟩)⟩)⟩)⟩)⟩)⟩)
     try clear S159
     refine tailE [(4, P b18 0), (5, P b21 0), (6, P b24 0), (8, P b92 0), (10, TU [AG ([I r57.1.TicketBook.Tally.Trips, I r57.1.TicketBook.Tally.Room, SL A61 r57.1.TicketBook.Tally.Counts.length c62, I r57.1.TicketBook.Fare, SL A63 r57.1.TicketBook.Tickets.length c64, SL A65 r57.1.TicketBook.Shows.length c66, SL A67 r57.1.TicketBook.Boxes.length c68] ++ (sg r57.1.shown_ 3 ++ [Value.map m69])), I r57.2]), (26, AG ([I r57.1.TicketBook.Tally.Trips, I r57.1.TicketBook.Tally.Room, SL A61 r57.1.TicketBook.Tally.Counts.length c62, I r57.1.TicketBook.Fare, SL A63 r57.1.TicketBook.Tickets.length c64, SL A65 r57.1.TicketBook.Shows.length c66, SL A67 r57.1.TicketBook.Boxes.length c68] ++ (sg r57.1.shown_ 3 ++ [Value.map m69])))] ⟨((hf140 4 rfl).trans (rfl : _ = P b18 0)), ((hf140 5 rfl).trans (rfl : _ = P b21 0)), ((hf140 6 rfl).trans (rfl : _ = P b24 0)), q162, q160, q161, trivial⟩ ?_
     intro g171
     refine p_stP (pre := []) (old := [I 0, I 0, SL none 0 0, I 0, SL none 0 0, SL none 0 0, SL none 0 0] ++ (sg (List.replicate 3 0) 3 ++ [Value.map none])) (post := []) (vs := [I r57.1.TicketBook.Tally.Trips, I r57.1.TicketBook.Tally.Room, SL A61 r57.1.TicketBook.Tally.Counts.length c62, I r57.1.TicketBook.Fare, SL A63 r57.1.TicketBook.Tickets.length c64, SL A65 r57.1.TicketBook.Shows.length c66, SL A67 r57.1.TicketBook.Boxes.length c68] ++ (sg r57.1.shown_ 3 ++ [Value.map m69])) sz92 S170 (i := 0) rfl rfl rfl rfl (rfl : _ = AG ([I r57.1.TicketBook.Tally.Trips, I r57.1.TicketBook.Tally.Room, SL A61 r57.1.TicketBook.Tally.Counts.length c62, I r57.1.TicketBook.Fare, SL A63 r57.1.TicketBook.Tickets.length c64, SL A65 r57.1.TicketBook.Shows.length c66, SL A67 r57.1.TicketBook.Boxes.length c68] ++ (sg r57.1.shown_ 3 ++ [Value.map m69]))) rfl rfl rfl rfl fun w172 S173 => ?_
     try clear S170
     refine p_ext rfl rfl <| p_aI rfl <| wp_nil ?_
     have S174 := S173.pk [0, 1, 2, 3] (by decide) [4, 3, 2, 1, 0, 5, 6, 7, 8, 9, 10] rfl rfl
     try clear S173
     exact ⟨(r57.1.TicketBook.Tally.Trips, r57.1.TicketBook.Tally.Room, r57.1.TicketBook.Tally.Counts, r57.1.TicketBook.Fare, r57.1.TicketBook.Tickets, r57.1.TicketBook.Shows, r57.1.TicketBook.Boxes, r57.1.shown_, r57.1.by_, r57.2), (b92, A61, c62, A63, c64, A65, c66, A67, c68, m69), _, rfl, ⟨rfl, rfl, rfl, rfl, rfl, trivial⟩, H, S174⟩
   ·replace H := condF c47 H
    obtain ⟨r183, h184, H⟩ := bindS H
    have A_ : ∀ {w_ : World}, Keep0 w25 w_ → St w_ (fun _ => False) w_ [] [bl b24 [I 0, I 0] 49, bl b21 [I a2] 3, bl b18 [I a1] 3, bl b15 [I a0.Tally.Trips, I a0.Tally.Room, SL A1 a0.Tally.Counts.length c2, I a0.Fare, SL A4 a0.Tickets.length c5, SL A7 a0.Shows.length c8, SL A10 a0.Boxes.length c11] 29, rd eTallyCount 7 A1 c2 a0.Tally.Counts, rd eTicketSeason 2 A4 c5 a0.Tickets, rd eTicketShow 3 A7 c8 a0.Shows, rd eTicketBox 4 A10 c11 a0.Boxes, gW0, gW2] := fun k_ => S26.asP k_
    refine reg_fl mixed 19 17 (by kernel_rfl) [rv (AG [I a0.Tally.Trips, I a0.Tally.Room, SL A1 a0.Tally.Counts.length c2, I a0.Fare, SL A4 a0.Tickets.length c5, SL A7 a0.Shows.length c8, SL A10 a0.Boxes.length c11]), rv (AG [I a0.Tally.Trips, I a0.Tally.Room, SL A1 a0.Tally.Counts.length c2, I a0.Fare, SL A4 a0.Tickets.length c5, SL A7 a0.Shows.length c8, SL A10 a0.Boxes.length c11]), rv (I a1), rv (B r29), rv (B true), rv (AG [I a0.Tally.Trips, I a0.Tally.Room, SL A1 a0.Tally.Counts.length c2, I a0.Fare, SL A4 a0.Tickets.length c5, SL A7 a0.Shows.length c8, SL A10 a0.Boxes.length c11]), rv (I a2), rv (B r40), rv (B r40), rv (B false), rv (undef), rv (undef), rv (undef), rv (B false), rx (α := (Option Addr) × Nat × (Option Addr) × Nat × (Option Addr) × Nat × (Option Addr) × Nat × (Option Nat)) (fun ⟨A187, c188, A189, c190, A191, c192, A193, c194, m195⟩ => TU [AG ([I r183.1.TicketBook.Tally.Trips, I r183.1.TicketBook.Tally.Room, SL A187 r183.1.TicketBook.Tally.Counts.length c188, I r183.1.TicketBook.Fare, SL A189 r183.1.TicketBook.Tickets.length c190, SL A191 r183.1.TicketBook.Shows.length c192, SL A193 r183.1.TicketBook.Boxes.length c194] ++ (sg r183.1.shown_ 3 ++ [Value.map m195])), I r183.2]) (fun ⟨A187, c188, A189, c190, A191, c192, A193, c194, m195⟩ lo hi => BtwL lo hi [rd eTallyCount 7 A1 c2 a0.Tally.Counts, rd eTicketSeason 2 A4 c5 a0.Tickets, rd eTicketShow 3 A7 c8 a0.Shows, rd eTicketBox 4 A10 c11 a0.Boxes] (rd eTallyCount 7 A187 c188 r183.1.TicketBook.Tally.Counts) ∧ BtwL lo hi [rd eTallyCount 7 A1 c2 a0.Tally.Counts, rd eTicketSeason 2 A4 c5 a0.Tickets, rd eTicketShow 3 A7 c8 a0.Shows, rd eTicketBox 4 A10 c11 a0.Boxes] (rd eTicketSeason 2 A189 c190 r183.1.TicketBook.Tickets) ∧ BtwL lo hi [] (rd eTicketShow 3 A191 c192 r183.1.TicketBook.Shows) ∧ BtwL lo hi [] (rd eTicketBox 4 A193 c194 r183.1.TicketBook.Boxes) ∧ BtwL lo hi [] (mpo ekS iE m195 r183.1.by_) ∧ True) (fun ⟨A187, c188, A189, c190, A191, c192, A193, c194, m195⟩ => [rd eTallyCount 7 A187 c188 r183.1.TicketBook.Tally.Counts, rd eTicketSeason 2 A189 c190 r183.1.TicketBook.Tickets, rd eTicketShow 3 A191 c192 r183.1.TicketBook.Shows, rd eTicketBox 4 A193 c194 r183.1.TicketBook.Boxes, mpo ekS iE m195 r183.1.by_]), dv 25 some, dv 10 (exG 0), dv 10 (exG 1), rx (α := Nat) (fun b218 => P b218 0) (fun b218 lo hi => BtwL lo hi [] (bl b218 ([I 0, I 0, SL none 0 0, I 0, SL none 0 0, SL none 0 0, SL none 0 0] ++ (sg (List.replicate 3 0) 3 ++ [Value.map none])) 92) ∧ True) (fun b218 => [bl b218 ([I 0, I 0, SL none 0 0, I 0, SL none 0 0, SL none 0 0, SL none 0 0] ++ (sg (List.replicate 3 0) 3 ++ [Value.map none])) 92])] [[], [], [], [], [], [], [], [], [], [], [], [], [], [], [], [25], [10], [10], []] rfl (by kernel_rfl) [[], [], [], [1, 2], [1, 2, 3], [1, 2, 3, 4], [1, 2, 3, 4], [1, 2, 3, 4, 5, 6], [1, 2, 3, 4, 5, 6, 7], [1, 2, 3, 4, 5, 6, 7, 8], [1, 2, 3, 4, 5, 6, 7, 8, 9], [1, 2, 3, 4, 5, 6, 7, 8, 9], [1, 2, 3, 4, 5, 6, 7, 8, 9, 10, 11], [1, 2, 3, 4, 5, 6, 7, 8, 9, 10, 11, 12], [0, 1, 2, 3, 4, 5, 6, 7, 8, 9, 10, 11, 12, 13], [0, 1, 2, 3, 4, 5, 6, 7, 8, 9, 10, 11, 12, 13, 14], [0, 1, 2, 3, 4, 5, 6, 7, 8, 9, 10, 11, 12, 13, 14, 15], [0, 1, 2, 3, 4, 5, 6, 7, 8, 9, 10, 11, 12, 13, 14, 15], [], [0, 1, 2, 3, 4, 5, 6, 7, 8, 9, 10, 11, 12, 13, 14, 15, 16, 18], [0, 1, 2, 3, 4, 5, 6, 7, 8, 9, 10, 11, 12, 13, 14, 15, 16, 17, 18, 19]] (by kernel_rfl) ⟨?_, ?_, ?_, ?_, ?_, ?_, ?_, ?_, ?_, ?_, ?_, ?_, ?_, ?_, ?_, ?_, ?_, ?_, ?_, trivial⟩ ?_ ?_
    ·intro e_ w_ k_ hf_ hR_
     have S_ := @A_ _ k_
     refine hopE [(3, P b15 0)] ⟨((hf_ 3 rfl).trans (rfl : _ = P b15 0)), trivial⟩ ?_
     refine p_ldA ty29 sz29 (S_.atP (i := 3) rfl) rfl rfl <| wp_nil ?_
     exact ⟨_, rfl, S_.keep, rfl⟩
    ·intro e_ w_ k_ hf_ hR_
     have S_ := @A_ _ k_
     refine hopE [(3, P b15 0)] ⟨((hf_ 3 rfl).trans (rfl : _ = P b15 0)), trivial⟩ ?_
     refine p_ldA ty29 sz29 (S_.atP (i := 3) rfl) rfl rfl <| wp_nil ?_
     exact ⟨_, rfl, S_.keep, rfl⟩
    ·intro e_ w_ k_ hf_ hR_
     have S_ := @A_ _ k_
     refine hopE [(4, P b18 0)] ⟨((hf_ 4 rfl).trans (rfl : _ = P b18 0)), trivial⟩ ?_
     refine p_ld ty3 (S_.atP (i := 2) rfl) rfl rfl <| wp_nil ?_
     exact ⟨_, rfl, S_.keep, rfl⟩
    ·intro e_ w_ k_ hf_ hR_
     have S_ := @A_ _ k_
     obtain ⟨_, _, _, _, q27⟩ := hR_ 1 12 rfl (lE rfl) rfl
     obtain ⟨_, _, _, _, q28⟩ := hR_ 2 13 rfl (lE rfl) rfl
     refine hopE [(12, AG [I a0.Tally.Trips, I a0.Tally.Room, SL A1 a0.Tally.Counts.length c2, I a0.Fare, SL A4 a0.Tickets.length c5, SL A7 a0.Shows.length c8, SL A10 a0.Boxes.length c11]), (13, I a1)] ⟨q27, q28, trivial⟩ ?_
     refine p_cv (ticket_isTrip_ok h30 (S_.atP (i := 4) rfl) (S_.atP (i := 5) rfl) (S_.atP (i := 6) rfl) (S_.atP (i := 7) rfl)) fu59 rfl S_ fun w31 S32 => wp_nil ?_
     exact ⟨_, rfl, S32.keep, rfl⟩
    ·intro e_ w_ k_ hf_ hR_
     obtain ⟨_, _, _, _, q33⟩ := hR_ 3 14 rfl (lE rfl) rfl
     refine hopE [(14, B r29)] ⟨q33, trivial⟩ ?_
     refine p_mB rfl <| wp_nil ?_
     exact ⟨_, rfl, Keep.refl _ _, congrArg Value.bool c34⟩
    ·intro e_ w_ k_ hf_ hR_
     have S_ := @A_ _ k_
     obtain ⟨_, _, _, _, q35⟩ := hR_ 4 15 rfl (lE rfl) rfl
     refine hopE [(3, P b15 0), (15, B true)] ⟨((hf_ 3 rfl).trans (rfl : _ = P b15 0)), q35, trivial⟩ ?_
     refine gT rfl rfl (p_ldA ty29 sz29 (S_.atP (i := 3) rfl) rfl rfl ?_)
     refine wp_nil ?_
     exact ⟨_, rfl, S_.keep, rfl⟩
    ·intro e_ w_ k_ hf_ hR_
     have S_ := @A_ _ k_
     obtain ⟨_, _, _, _, q36⟩ := hR_ 4 15 rfl (lE rfl) rfl
     refine hopE [(5, P b21 0), (15, B true)] ⟨((hf_ 5 rfl).trans (rfl : _ = P b21 0)), q36, trivial⟩ ?_
     refine gT rfl rfl (p_ld ty3 (S_.atP (i := 1) rfl) rfl rfl ?_)
     refine wp_nil ?_
     exact ⟨_, rfl, S_.keep, rfl⟩
    ·intro e_ w_ k_ hf_ hR_
     have S_ := @A_ _ k_
     obtain ⟨_, _, _, _, q37⟩ := hR_ 4 15 rfl (lE rfl) rfl
     obtain ⟨_, _, _, _, q38⟩ := hR_ 5 16 rfl (lE rfl) rfl
     obtain ⟨_, _, _, _, q39⟩ := hR_ 6 17 rfl (lE rfl) rfl
     refine hopE [(15, B true), (16, AG [I a0.Tally.Trips, I a0.Tally.Room, SL A1 a0.Tally.Counts.length c2, I a0.Fare, SL A4 a0.Tickets.length c5, SL A7 a0.Shows.length c8, SL A10 a0.Boxes.length c11]), (17, I a2)] ⟨q37, q38, q39, trivial⟩ ?_
     refine gT rfl rfl (p_cv (ticket_isTrip_ok h41 (S_.atP (i := 4) rfl) (S_.atP (i := 5) rfl) (S_.atP (i := 6) rfl) (S_.atP (i := 7) rfl)) fu59 rfl S_ fun w42 S43 => ?_)
     refine wp_nil ?_
     exact ⟨_, rfl, S43.keep, rfl⟩
    ·intro e_ w_ k_ hf_ hR_
     obtain ⟨_, _, _, _, q44⟩ := hR_ 4 15 rfl (lE rfl) rfl
     obtain ⟨_, _, _, _, q45⟩ := hR_ 7 18 rfl (lE rfl) rfl
     refine hopE [(15, B true), (18, B r40)] ⟨q44, q45, trivial⟩ ?_
     refine p_pkT rfl (rfl : _ = B r40) <| wp_nil ?_
     exact ⟨_, rfl, Keep.refl _ _, rfl⟩
    ·intro e_ w_ k_ hf_ hR_
     obtain ⟨_, _, _, _, q46⟩ := hR_ 8 19 rfl (lE rfl) rfl
     refine hopE [(19, B r40)] ⟨q46, trivial⟩ ?_
     refine p_mB rfl <| wp_nil ?_
     exact ⟨_, rfl, Keep.refl _ _, congrArg Value.bool c47⟩
    ·intro e_ w_ k_ hf_ hR_
     obtain ⟨_, _, _, _, q174⟩ := hR_ 9 20 rfl (lE rfl) rfl
     refine hopE [(4, P b18 0), (20, B false)] ⟨((hf_ 4 rfl).trans (rfl : _ = P b18 0)), q174, trivial⟩ ?_
     refine gF rfl rfl <| wp_nil ?_
     exact ⟨_, rfl, Keep.refl _ _, rfl⟩
    ·intro e_ w_ k_ hf_ hR_
     obtain ⟨_, _, _, _, q175⟩ := hR_ 9 20 rfl (lE rfl) rfl
     refine hopE [(5, P b21 0), (20, B false)] ⟨((hf_ 5 rfl).trans (rfl : _ = P b21 0)), q175, trivial⟩ ?_
     refine gF rfl rfl <| wp_nil ?_
     exact ⟨_, rfl, Keep.refl _ _, rfl⟩
    ·intro e_ w_ k_ hf_ hR_
     obtain ⟨_, _, _, _, q176⟩ := hR_ 9 20 rfl (lE rfl) rfl
     obtain ⟨_, _, _, _, q177⟩ := hR_ 10 21 rfl (lE rfl) rfl
     obtain ⟨_, _, _, _, q178⟩ := hR_ 11 22 rfl (lE rfl) rfl
     refine hopE [(20, B false), (21, undef), (22, undef)] ⟨q176, q177, q178, trivial⟩ ?_
     refine gF rfl rfl <| wp_nil ?_
     exact ⟨_, rfl, Keep.refl _ _, rfl⟩
    ·intro e_ w_ k_ hf_ hR_
     obtain ⟨_, _, _, _, q179⟩ := hR_ 9 20 rfl (lE rfl) rfl
     obtain ⟨_, _, _, _, q180⟩ := hR_ 12 23 rfl (lE rfl) rfl
     refine hopE [(20, B false), (23, undef)] ⟨q179, q180, trivial⟩ ?_
     refine p_pkF rfl (rfl : _ = B false) <| wp_nil ?_
     exact ⟨_, rfl, Keep.refl _ _, rfl⟩
    ·intro e_ w_ k_ hf_ hR_
     have S_ := @A_ _ k_
     obtain ⟨_, _, _, _, q181⟩ := hR_ 0 11 rfl (lE rfl) rfl
     obtain ⟨_, _, _, _, q182⟩ := hR_ 13 24 rfl (lE rfl) rfl
     refine hopE [(11, AG [I a0.Tally.Trips, I a0.Tally.Room, SL A1 a0.Tally.Counts.length c2, I a0.Fare, SL A4 a0.Tickets.length c5, SL A7 a0.Shows.length c8, SL A10 a0.Boxes.length c11]), (24, B false)] ⟨q181, q182, trivial⟩ ?_
     refine p_cal (ticket_asked_ok h184 (S_.atP (i := 4) rfl) (S_.atP (i := 5) rfl) (S_.atP (i := 6) rfl) (S_.atP (i := 7) rfl) (S_.atP (i := 8) rfl) (S_.atP (i := 9) rfl)) fu58 rfl ?_
     rintro _ w185 ⟨A187, c188, A189, c190, A191, c192, A193, c194, m195, rfl, k186, ⟨o196, n197⟩, ⟨o198, n199⟩, ⟨o200, n201⟩, ⟨o202, n203⟩, ⟨o204, n205⟩, _⟩
     have S206 := S_.callN k186 [rd eTallyCount 7 A187 c188 r183.1.TicketBook.Tally.Counts, rd eTicketSeason 2 A189 c190 r183.1.TicketBook.Tickets, rd eTicketShow 3 A191 c192 r183.1.TicketBook.Shows, rd eTicketBox 4 A193 c194 r183.1.TicketBook.Boxes, mpo ekS iE m195 r183.1.by_] (fA ⟨⟨o196, Al.inL n197 ((fA ⟨(fp_mem (i := 4) rfl), (fA ⟨(fp_mem (i := 5) rfl), (fA ⟨(fp_mem (i := 6) rfl), (fA ⟨(fp_mem (i := 7) rfl), nM⟩)⟩)⟩)⟩))⟩, (fA ⟨⟨o198, Al.inL n199 ((fA ⟨(fp_mem (i := 4) rfl), (fA ⟨(fp_mem (i := 5) rfl), (fA ⟨(fp_mem (i := 6) rfl), (fA ⟨(fp_mem (i := 7) rfl), nM⟩)⟩)⟩)⟩))⟩, (fA ⟨⟨o200, New.inL n201⟩, (fA ⟨⟨o202, New.inL n203⟩, (fA ⟨⟨o204, New.inL n205⟩, nM⟩)⟩)⟩)⟩)⟩)
     refine wp_nil ?_
     exact ⟨_, rfl, S206.keep, ⟨(A187, c188, A189, c190, A191, c192, A193, c194, m195), rfl, ⟨BtwL.of n197 rfl (S206.atP (i := 0) rfl) rfl, BtwL.of n199 rfl (S206.atP (i := 1) rfl) rfl, BtwL.of (New.al (New.mono n201 S_.keep.size)) rfl (S206.atP (i := 2) rfl) rfl, BtwL.of (New.al (New.mono n203 S_.keep.size)) rfl (S206.atP (i := 3) rfl) rfl, BtwL.of (New.al (New.mono n205 S_.keep.size)) rfl (S206.atP (i := 4) rfl) rfl, trivial⟩, (fA ⟨(S206.atP (i := 0) rfl), (fA ⟨(S206.atP (i := 1) rfl), (fA ⟨(S206.atP (i := 2) rfl), (fA ⟨(S206.atP (i := 3) rfl), (fA ⟨(S206.atP (i := 4) rfl), nM⟩)⟩)⟩)⟩)⟩)⟩⟩
    ·intro e_ w_ k_ hf_ hR_
     have S_ := @A_ _ k_
     obtain ⟨_, _, _, _, ⟨A187, c188, A189, c190, A191, c192, A193, c194, m195⟩, q207, p208, a209⟩ := hR_ 14 25 rfl (lE rfl) rfl
     replace q207 : e_ 25 = TU [AG ([I r183.1.TicketBook.Tally.Trips, I r183.1.TicketBook.Tally.Room, SL A187 r183.1.TicketBook.Tally.Counts.length c188, I r183.1.TicketBook.Fare, SL A189 r183.1.TicketBook.Tickets.length c190, SL A191 r183.1.TicketBook.Shows.length c192, SL A193 r183.1.TicketBook.Boxes.length c194] ++ (sg r183.1.shown_ 3 ++ [Value.map m195])), I r183.2] := q207
     have S_ := St.addL' S_ (a209 _ (.head _)) (fun _ _ _ h_ => (List.not_mem_nil h_).elim)
     have S_ := St.addL' S_ (a209 _ (.tail _ (.head _))) (fun _ _ _ h_ => (List.not_mem_nil h_).elim)
     have S_ := St.addL' S_ (a209 _ (.tail _ (.tail _ (.head _)))) (fun _ _ _ h_ => (List.not_mem_nil h_).elim)
     have S_ := St.addL' S_ (a209 _ (.tail _ (.tail _ (.tail _ (.head _))))) (fun _ _ _ h_ => (List.not_mem_nil h_).elim)
     have S_ := St.addL' S_ (a209 _ (.tail _ (.tail _ (.tail _ (.tail _ (.head _)))))) (fun _ _ _ h_ => (List.not_mem_nil h_).elim)
     refine hopE [(25, TU [AG ([I r183.1.TicketBook.Tally.Trips, I r183.1.TicketBook.Tally.Room, SL A187 r183.1.TicketBook.Tally.Counts.length c188, I r183.1.TicketBook.Fare, SL A189 r183.1.TicketBook.Tickets.length c190, SL A191 r183.1.TicketBook.Shows.length c192, SL A193 r183.1.TicketBook.Boxes.length c194] ++ (sg r183.1.shown_ 3 ++ [Value.map m195])), I r183.2])] ⟨q207, trivial⟩ ?_
     refine p_mT rfl <| wp_nil ?_
     exact ⟨_, rfl, S_.keep, rfl⟩
    ·intro e_ w_ k_ hf_ hR_
     have S_ := @A_ _ k_
     obtain ⟨_, _, _, _, ⟨A187, c188, A189, c190, A191, c192, A193, c194, m195⟩, q211, p212, a213⟩ := hR_ 14 25 rfl (lE rfl) rfl
     replace q211 : e_ 25 = TU [AG ([I r183.1.TicketBook.Tally.Trips, I r183.1.TicketBook.Tally.Room, SL A187 r183.1.TicketBook.Tally.Counts.length c188, I r183.1.TicketBook.Fare, SL A189 r183.1.TicketBook.Tickets.length c190, SL A191 r183.1.TicketBook.Shows.length c192, SL A193 r183.1.TicketBook.Boxes.length c194] ++ (sg r183.1.shown_ 3 ++ [Value.map m195])), I r183.2] := q211
     have S_ := St.addL' S_ (a213 _ (.head _)) (fun _ _ _ h_ => (List.not_mem_nil h_).elim)
     have S_ := St.addL' S_ (a213 _ (.tail _ (.head _))) (fun _ _ _ h_ => (List.not_mem_nil h_).elim)
     have S_ := St.addL' S_ (a213 _ (.tail _ (.tail _ (.head _)))) (fun _ _ _ h_ => (List.not_mem_nil h_).elim)
     have S_ := St.addL' S_ (a213 _ (.tail _ (.tail _ (.tail _ (.head _))))) (fun _ _ _ h_ => (List.not_mem_nil h_).elim)
     have S_ := St.addL' S_ (a213 _ (.tail _ (.tail _ (.tail _ (.tail _ (.head _)))))) (fun _ _ _ h_ => (List.not_mem_nil h_).elim)
     obtain ⟨_, _, _, _, q210⟩ := hR_ 15 10 rfl (lE rfl) rfl
     replace q210 : e_ 10 = TU [AG ([I r183.1.TicketBook.Tally.Trips, I r183.1.TicketBook.Tally.Room, SL A187 r183.1.TicketBook.Tally.Counts.length c188, I r183.1.TicketBook.Fare, SL A189 r183.1.TicketBook.Tickets.length c190, SL A191 r183.1.TicketBook.Shows.length c192, SL A193 r183.1.TicketBook.Boxes.length c194] ++ (sg r183.1.shown_ 3 ++ [Value.map m195])), I r183.2] := (Option.some.inj ((congrArg some q211).symm.trans q210)).symm
     refine hopE [(10, TU [AG ([I r183.1.TicketBook.Tally.Trips, I r183.1.TicketBook.Tally.Room, SL A187 r183.1.TicketBook.Tally.Counts.length c188, I r183.1.TicketBook.Fare, SL A189 r183.1.TicketBook.Tickets.length c190, SL A191 r183.1.TicketBook.Shows.length c192, SL A193 r183.1.TicketBook.Boxes.length c194] ++ (sg r183.1.shown_ 3 ++ [Value.map m195])), I r183.2])] ⟨q210, trivial⟩ ?_
     refine p_ext rfl rfl <| wp_nil ?_
     exact ⟨_, rfl, S_.keep, rfl⟩
    ·intro e_ w_ k_ hf_ hR_
     have S_ := @A_ _ k_
     obtain ⟨_, _, _, _, ⟨A187, c188, A189, c190, A191, c192, A193, c194, m195⟩, q215, p216, a217⟩ := hR_ 14 25 rfl (lE rfl) rfl
     replace q215 : e_ 25 = TU [AG ([I r183.1.TicketBook.Tally.Trips, I r183.1.TicketBook.Tally.Room, SL A187 r183.1.TicketBook.Tally.Counts.length c188, I r183.1.TicketBook.Fare, SL A189 r183.1.TicketBook.Tickets.length c190, SL A191 r183.1.TicketBook.Shows.length c192, SL A193 r183.1.TicketBook.Boxes.length c194] ++ (sg r183.1.shown_ 3 ++ [Value.map m195])), I r183.2] := q215
     have S_ := St.addL' S_ (a217 _ (.head _)) (fun _ _ _ h_ => (List.not_mem_nil h_).elim)
     have S_ := St.addL' S_ (a217 _ (.tail _ (.head _))) (fun _ _ _ h_ => (List.not_mem_nil h_).elim)
     have S_ := St.addL' S_ (a217 _ (.tail _ (.tail _ (.head _)))) (fun _ _ _ h_ => (List.not_mem_nil h_).elim)
     have S_ := St.addL' S_ (a217 _ (.tail _ (.tail _ (.tail _ (.head _))))) (fun _ _ _ h_ => (List.not_mem_nil h_).elim)
     have S_ := St.addL' S_ (a217 _ (.tail _ (.tail _ (.tail _ (.tail _ (.head _)))))) (fun _ _ _ h_ => (List.not_mem_nil h_).elim)
     obtain ⟨_, _, _, _, q214⟩ := hR_ 15 10 rfl (lE rfl) rfl
     replace q214 : e_ 10 = TU [AG ([I r183.1.TicketBook.Tally.Trips, I r183.1.TicketBook.Tally.Room, SL A187 r183.1.TicketBook.Tally.Counts.length c188, I r183.1.TicketBook.Fare, SL A189 r183.1.TicketBook.Tickets.length c190, SL A191 r183.1.TicketBook.Shows.length c192, SL A193 r183.1.TicketBook.Boxes.length c194] ++ (sg r183.1.shown_ 3 ++ [Value.map m195])), I r183.2] := (Option.some.inj ((congrArg some q215).symm.trans q214)).symm
     refine hopE [(10, TU [AG ([I r183.1.TicketBook.Tally.Trips, I r183.1.TicketBook.Tally.Room, SL A187 r183.1.TicketBook.Tally.Counts.length c188, I r183.1.TicketBook.Fare, SL A189 r183.1.TicketBook.Tickets.length c190, SL A191 r183.1.TicketBook.Shows.length c192, SL A193 r183.1.TicketBook.Boxes.length c194] ++ (sg r183.1.shown_ 3 ++ [Value.map m195])), I r183.2])] ⟨q214, trivial⟩ ?_
     refine p_ext rfl rfl <| wp_nil ?_
     exact ⟨_, rfl, S_.keep, rfl⟩
    ·intro e_ w_ k_ hf_ hR_
     have S_ := @A_ _ k_
     refine hopE [] trivial ?_
     refine p_allA in92 S_ fun b218 w219 S220 => wp_nil ?_
     exact ⟨_, rfl, S220.keep, ⟨b218, rfl, ⟨BtwL.of (New.al (S220.newX (i := 0) rfl)) rfl (S220.atX (i := 0) rfl) rfl, trivial⟩, (fA ⟨(S220.atX (i := 0) rfl), nM⟩)⟩⟩
    ·intro e221 w222 lo223 hi224 k225 hf226 hR227 hd228
     have S229 := S26.call k225
     obtain ⟨h231, h232, h233, ⟨A187, c188, A189, c190, A191, c192, A193, c194, m195⟩, q230, h234, h235⟩ := hR227 14 25 (lE rfl) rfl
     replace q230 : e221 25 = TU [AG ([I r183.1.TicketBook.Tally.Trips, I r183.1.TicketBook.Tally.Room, SL A187 r183.1.TicketBook.Tally.Counts.length c188, I r183.1.TicketBook.Fare, SL A189 r183.1.TicketBook.Tickets.length c190, SL A191 r183.1.TicketBook.Shows.length c192, SL A193 r183.1.TicketBook.Boxes.length c194] ++ (sg r183.1.shown_ 3 ++ [Value.map m195])), I r183.2] := q230
     obtain ⟨p236, p237, p238, p239, p240, _⟩ := h234
     have S241 := St.addR S229 (h235 _ (.head _)) (fun b_ h_ x_ hx_ hb_ => (p236 b_ h_).elim (fun q_ => by have := x_.inb _ _ (S26.xs x_ hx_) hb_; omega) (fun ⟨q_, hq_, hqb_⟩ => S26.dp x_ hx_ q_ ((fA ⟨List.mem_of_getElem? (i := 0) rfl, (fA ⟨List.mem_of_getElem? (i := 1) rfl, (fA ⟨List.mem_of_getElem? (i := 2) rfl, (fA ⟨List.mem_of_getElem? (i := 3) rfl, nM⟩)⟩)⟩)⟩) q_ hq_) b_ hb_ hqb_))
     try clear S229
     have S242 := St.addR S241 (h235 _ (.tail _ (.head _))) (fun b_ h_ x_ hx_ hb_ => (p237 b_ h_).elim (fun q_ => by have := x_.inb _ _ (S26.xs x_ hx_) hb_; omega) (fun ⟨q_, hq_, hqb_⟩ => S26.dp x_ hx_ q_ ((fA ⟨List.mem_of_getElem? (i := 0) rfl, (fA ⟨List.mem_of_getElem? (i := 1) rfl, (fA ⟨List.mem_of_getElem? (i := 2) rfl, (fA ⟨List.mem_of_getElem? (i := 3) rfl, nM⟩)⟩)⟩)⟩) q_ hq_) b_ hb_ hqb_))
     try clear S241
     have S243 := St.addR S242 (h235 _ (.tail _ (.tail _ (.head _)))) (fun b_ h_ x_ hx_ hb_ => (p238 b_ h_).elim (fun q_ => by have := x_.inb _ _ (S26.xs x_ hx_) hb_; omega) (fun ⟨q_, hq_, hqb_⟩ => S26.dp x_ hx_ q_ ((nM) q_ hq_) b_ hb_ hqb_))
     try clear S242
     have S244 := St.addR S243 (h235 _ (.tail _ (.tail _ (.tail _ (.head _))))) (fun b_ h_ x_ hx_ hb_ => (p239 b_ h_).elim (fun q_ => by have := x_.inb _ _ (S26.xs x_ hx_) hb_; omega) (fun ⟨q_, hq_, hqb_⟩ => S26.dp x_ hx_ q_ ((nM) q_ hq_) b_ hb_ hqb_))
     try clear S243
     have S245 := St.addR S244 (h235 _ (.tail _ (.tail _ (.tail _ (.tail _ (.head _)))))) (fun b_ h_ x_ hx_ hb_ => (p240 b_ h_).elim (fun q_ => by have := x_.inb _ _ (S26.xs x_ hx_) hb_; omega) (fun ⟨q_, hq_, hqb_⟩ => S26.dp x_ hx_ q_ ((nM) q_ hq_) b_ hb_ hqb_))
     try clear S244
     have q246 : e221 10 = TU [AG ([I r183.1.TicketBook.Tally.Trips, I r183.1.TicketBook.Tally.Room, SL A187 r183.1.TicketBook.Tally.Counts.length c188, I r183.1.TicketBook.Fare, SL A189 r183.1.TicketBook.Tickets.length c190, SL A191 r183.1.TicketBook.Shows.length c192, SL A193 r183.1.TicketBook.Boxes.length c194] ++ (sg r183.1.shown_ 3 ++ [Value.map m195])), I r183.2] := (Option.some.inj ((congrArg some q230).symm.trans (hR227 15 10 (lE rfl) rfl).2.2.2)).symm
     have q247 : e221 26 = AG ([I r183.1.TicketBook.Tally.Trips, I r183.1.TicketBook.Tally.Room, SL A187 r183.1.TicketBook.Tally.Counts.length c188, I r183.1.TicketBook.Fare, SL A189 r183.1.TicketBook.Tickets.length c190, SL A191 r183.1.TicketBook.Shows.length c192, SL A193 r183.1.TicketBook.Boxes.length c194] ++ (sg r183.1.shown_ 3 ++ [Value.map m195])) := (Option.some.inj ((congrArg (exG 0) q246).symm.trans (hR227 16 26 (lE rfl) rfl).2.2.2)).symm
     have q248 : e221 27 = I r183.2 := (Option.some.inj ((congrArg (exG 1) q246).symm.trans (hR227 17 27 (lE rfl) rfl).2.2.2)).symm
     obtain ⟨h250, h251, h252, b218, q249, h253, h254⟩ := hR227 18 8 (lE rfl) rfl
     replace q249 : e221 8 = P b218 0 := q249
     obtain ⟨p255, _⟩ := h253
     have S257 := St.addO S245 (h254 _ (.head _)) (fun b_ h_ => (p255 b_ h_).elim (fun q_ => Nat.le_trans S26.keep.size (Nat.le_trans h250 q_.1)) (fun ⟨_, hq_, _⟩ => (List.not_mem_nil hq_).elim)) (fA ⟨(fun b_ h1_ h2_ => (p255 b_ h1_).elim (fun q2_ => by have q1_ := Asr.inb _ _ _ (S26.atX (i := 0) rfl) h2_; omega) (fun ⟨_, hq_, _⟩ => (List.not_mem_nil hq_).elim)), (fA ⟨(fun b_ h1_ h2_ => (p255 b_ h1_).elim (fun q2_ => by have q1_ := Asr.inb _ _ _ (S26.atX (i := 1) rfl) h2_; omega) (fun ⟨_, hq_, _⟩ => (List.not_mem_nil hq_).elim)), (fA ⟨(fun b_ h1_ h2_ => (p255 b_ h1_).elim (fun q2_ => by have q1_ := Asr.inb _ _ _ (S26.atX (i := 2) rfl) h2_; omega) (fun ⟨_, hq_, _⟩ => (List.not_mem_nil hq_).elim)), (fA ⟨(fun b_ h1_ h2_ => (p255 b_ h1_).elim (fun q2_ => by have q1_ := Asr.inb _ _ _ (S26.atX (i := 3) rfl) h2_; omega) (fun ⟨_, hq_, _⟩ => (List.not_mem_nil hq_).elim)), nM⟩)⟩)⟩)⟩) (fA ⟨(fun b_ h1_ h2_ => (p255 b_ h1_).elim (fun q1_ => (p240 b_ h2_).elim (fun q2_ => by have q3_ := hd228 18 14 (lE rfl) (lE rfl) (by decide); omega) (fun ⟨q_, hq_, hqb_⟩ => by have q5_ := h250; have q4_ := Asr.inb _ _ _ (S26.ps q_ ((nM) q_ hq_)) hqb_; omega)) (fun ⟨_, hq_, _⟩ => (List.not_mem_nil hq_).elim)), (fA ⟨(fun b_ h1_ h2_ => (p255 b_ h1_).elim (fun q1_ => (p239 b_ h2_).elim (fun q2_ => by have q3_ := hd228 18 14 (lE rfl) (lE rfl) (by decide); omega) (fun ⟨q_, hq_, hqb_⟩ => by have q5_ := h250; have q4_ := Asr.inb _ _ _ (S26.ps q_ ((nM) q_ hq_)) hqb_; omega)) (fun ⟨_, hq_, _⟩ => (List.not_mem_nil hq_).elim)), (fA ⟨(fun b_ h1_ h2_ => (p255 b_ h1_).elim (fun q1_ => (p238 b_ h2_).elim (fun q2_ => by have q3_ := hd228 18 14 (lE rfl) (lE rfl) (by decide); omega) (fun ⟨q_, hq_, hqb_⟩ => by have q5_ := h250; have q4_ := Asr.inb _ _ _ (S26.ps q_ ((nM) q_ hq_)) hqb_; omega)) (fun ⟨_, hq_, _⟩ => (List.not_mem_nil hq_).elim)), (fA ⟨(fun b_ h1_ h2_ => (p255 b_ h1_).elim (fun q1_ => (p237 b_ h2_).elim (fun q2_ => by have q3_ := hd228 18 14 (lE rfl) (lE rfl) (by decide); omega) (fun ⟨q_, hq_, hqb_⟩ => by have q5_ := h250; have q4_ := Asr.inb _ _ _ (S26.ps q_ ((fA ⟨List.mem_of_getElem? (i := 0) rfl, (fA ⟨List.mem_of_getElem? (i := 1) rfl, (fA ⟨List.mem_of_getElem? (i := 2) rfl, (fA ⟨List.mem_of_getElem? (i := 3) rfl, nM⟩)⟩)⟩)⟩) q_ hq_)) hqb_; omega)) (fun ⟨_, hq_, _⟩ => (List.not_mem_nil hq_).elim)), (fA ⟨(fun b_ h1_ h2_ => (p255 b_ h1_).elim (fun q1_ => (p236 b_ h2_).elim (fun q2_ => by have q3_ := hd228 18 14 (lE rfl) (lE rfl) (by decide); omega) (fun ⟨q_, hq_, hqb_⟩ => by have q5_ := h250; have q4_ := Asr.inb _ _ _ (S26.ps q_ ((fA ⟨List.mem_of_getElem? (i := 0) rfl, (fA ⟨List.mem_of_getElem? (i := 1) rfl, (fA ⟨List.mem_of_getElem? (i := 2) rfl, (fA ⟨List.mem_of_getElem? (i := 3) rfl, nM⟩)⟩)⟩)⟩) q_ hq_)) hqb_; omega)) (fun ⟨_, hq_, _⟩ => (List.not_mem_nil hq_).elim)), (fA ⟨(fun b_ h1_ h2_ => (p255 b_ h1_).elim (fun q2_ => by have q1_ := Asr.inb _ _ _ (S26.atP (i := 0) rfl) h2_; omega) (fun ⟨_, hq_, _⟩ => (List.not_mem_nil hq_).elim)), (fA ⟨(fun b_ h1_ h2_ => (p255 b_ h1_).elim (fun q2_ => by have q1_ := Asr.inb _ _ _ (S26.atP (i := 1) rfl) h2_; omega) (fun ⟨_, hq_, _⟩ => (List.not_mem_nil hq_).elim)), (fA ⟨(fun b_ h1_ h2_ => (p255 b_ h1_).elim (fun q2_ => by have q1_ := Asr.inb _ _ _ (S26.atP (i := 2) rfl) h2_; omega) (fun ⟨_, hq_, _⟩ => (List.not_mem_nil hq_).elim)), (fA ⟨(fun b_ h1_ h2_ => (p255 b_ h1_).elim (fun q2_ => by have q1_ := Asr.inb _ _ _ (S26.atP (i := 3) rfl) h2_; omega) (fun ⟨_, hq_, _⟩ => (List.not_mem_nil hq_).elim)), (fA ⟨(fun b_ h1_ h2_ => (p255 b_ h1_).elim (fun q2_ => by have q1_ := Asr.inb _ _ _ (S26.atP (i := 4) rfl) h2_; omega) (fun ⟨_, hq_, _⟩ => (List.not_mem_nil hq_).elim)), (fA ⟨(fun b_ h1_ h2_ => (p255 b_ h1_).elim (fun q2_ => by have q1_ := Asr.inb _ _ _ (S26.atP (i := 5) rfl) h2_; omega) (fun ⟨_, hq_, _⟩ => (List.not_mem_nil hq_).elim)), nM⟩)⟩)⟩)⟩)⟩)⟩)⟩)⟩)⟩)⟩)⟩)
     try clear S245
     refine tailE [(4, P b18 0), (5, P b21 0), (6, P b24 0), (8, P b218 0), (26, AG ([I r183.1.TicketBook.Tally.Trips, I r183.1.TicketBook.Tally.Room, SL A187 r183.1.TicketBook.Tally.Counts.length c188, I r183.1.TicketBook.Fare, SL A189 r183.1.TicketBook.Tickets.length c190, SL A191 r183.1.TicketBook.Shows.length c192, SL A193 r183.1.TicketBook.Boxes.length c194] ++ (sg r183.1.shown_ 3 ++ [Value.map m195]))), (27, I r183.2)] ⟨((hf226 4 rfl).trans (rfl : _ = P b18 0)), ((hf226 5 rfl).trans (rfl : _ = P b21 0)), ((hf226 6 rfl).trans (rfl : _ = P b24 0)), q249, q247, q248, trivial⟩ ?_
     intro g258
     refine p_stP (pre := []) (old := [I 0, I 0, SL none 0 0, I 0, SL none 0 0, SL none 0 0, SL none 0 0] ++ (sg (List.replicate 3 0) 3 ++ [Value.map none])) (post := []) (vs := [I r183.1.TicketBook.Tally.Trips, I r183.1.TicketBook.Tally.Room, SL A187 r183.1.TicketBook.Tally.Counts.length c188, I r183.1.TicketBook.Fare, SL A189 r183.1.TicketBook.Tickets.length c190, SL A191 r183.1.TicketBook.Shows.length c192, SL A193 r183.1.TicketBook.Boxes.length c194] ++ (sg r183.1.shown_ 3 ++ [Value.map m195])) sz92 S257 (i := 0) rfl rfl rfl rfl (rfl : _ = AG ([I r183.1.TicketBook.Tally.Trips, I r183.1.TicketBook.Tally.Room, SL A187 r183.1.TicketBook.Tally.Counts.length c188, I r183.1.TicketBook.Fare, SL A189 r183.1.TicketBook.Tickets.length c190, SL A191 r183.1.TicketBook.Shows.length c192, SL A193 r183.1.TicketBook.Boxes.length c194] ++ (sg r183.1.shown_ 3 ++ [Value.map m195]))) rfl rfl rfl rfl fun w259 S260 => ?_
     try clear S257
     refine p_aI rfl <| wp_nil ?_
     have S261 := S260.pk [0, 1, 2, 3] (by decide) [4, 3, 2, 1, 0, 5, 6, 7, 8, 9, 10] rfl rfl
     try clear S260
     exact ⟨(r183.1.TicketBook.Tally.Trips, r183.1.TicketBook.Tally.Room, r183.1.TicketBook.Tally.Counts, r183.1.TicketBook.Fare, r183.1.TicketBook.Tickets, r183.1.TicketBook.Shows, r183.1.TicketBook.Boxes, r183.1.shown_, r183.1.by_, r183.2), (b218, A187, c188, A189, c190, A191, c192, A193, c194, m195), _, rfl, ⟨rfl, rfl, rfl, rfl, rfl, trivial⟩, H, S261⟩
    ·intro e261 w262 lo263 hi264 k265 hf266 hR267 hd268
     have S269 := S26.call k265
     obtain ⟨h271, h272, h273, ⟨A187, c188, A189, c190, A191, c192, A193, c194, m195⟩, q270, h274, h275⟩ := hR267 14 25 (lE rfl) (by decide) rfl
     replace q270 : e261 25 = TU [AG ([I r183.1.TicketBook.Tally.Trips, I r183.1.TicketBook.Tally.Room, SL A187 r183.1.TicketBook.Tally.Counts.length c188, I r183.1.TicketBook.Fare, SL A189 r183.1.TicketBook.Tickets.length c190, SL A191 r183.1.TicketBook.Shows.length c192, SL A193 r183.1.TicketBook.Boxes.length c194] ++ (sg r183.1.shown_ 3 ++ [Value.map m195])), I r183.2] := q270
     obtain ⟨p276, p277, p278, p279, p280, _⟩ := h274
     have S281 := St.addR S269 (h275 _ (.head _)) (fun b_ h_ x_ hx_ hb_ => (p276 b_ h_).elim (fun q_ => by have := x_.inb _ _ (S26.xs x_ hx_) hb_; omega) (fun ⟨q_, hq_, hqb_⟩ => S26.dp x_ hx_ q_ ((fA ⟨List.mem_of_getElem? (i := 0) rfl, (fA ⟨List.mem_of_getElem? (i := 1) rfl, (fA ⟨List.mem_of_getElem? (i := 2) rfl, (fA ⟨List.mem_of_getElem? (i := 3) rfl, nM⟩)⟩)⟩)⟩) q_ hq_) b_ hb_ hqb_))
     try clear S269
     have S282 := St.addR S281 (h275 _ (.tail _ (.head _))) (fun b_ h_ x_ hx_ hb_ => (p277 b_ h_).elim (fun q_ => by have := x_.inb _ _ (S26.xs x_ hx_) hb_; omega) (fun ⟨q_, hq_, hqb_⟩ => S26.dp x_ hx_ q_ ((fA ⟨List.mem_of_getElem? (i := 0) rfl, (fA ⟨List.mem_of_getElem? (i := 1) rfl, (fA ⟨List.mem_of_getElem? (i := 2) rfl, (fA ⟨List.mem_of_getElem? (i := 3) rfl, nM⟩)⟩)⟩)⟩) q_ hq_) b_ hb_ hqb_))
     try clear S281
     have S283 := St.addR S282 (h275 _ (.tail _ (.tail _ (.head _)))) (fun b_ h_ x_ hx_ hb_ => (p278 b_ h_).elim (fun q_ => by have := x_.inb _ _ (S26.xs x_ hx_) hb_; omega) (fun ⟨q_, hq_, hqb_⟩ => S26.dp x_ hx_ q_ ((nM) q_ hq_) b_ hb_ hqb_))
     try clear S282
     have S284 := St.addR S283 (h275 _ (.tail _ (.tail _ (.tail _ (.head _))))) (fun b_ h_ x_ hx_ hb_ => (p279 b_ h_).elim (fun q_ => by have := x_.inb _ _ (S26.xs x_ hx_) hb_; omega) (fun ⟨q_, hq_, hqb_⟩ => S26.dp x_ hx_ q_ ((nM) q_ hq_) b_ hb_ hqb_))
     try clear S283
     have S285 := St.addR S284 (h275 _ (.tail _ (.tail _ (.tail _ (.tail _ (.head _)))))) (fun b_ h_ x_ hx_ hb_ => (p280 b_ h_).elim (fun q_ => by have := x_.inb _ _ (S26.xs x_ hx_) hb_; omega) (fun ⟨q_, hq_, hqb_⟩ => S26.dp x_ hx_ q_ ((nM) q_ hq_) b_ hb_ hqb_))
     try clear S284
     have q286 : e261 10 = TU [AG ([I r183.1.TicketBook.Tally.Trips, I r183.1.TicketBook.Tally.Room, SL A187 r183.1.TicketBook.Tally.Counts.length c188, I r183.1.TicketBook.Fare, SL A189 r183.1.TicketBook.Tickets.length c190, SL A191 r183.1.TicketBook.Shows.length c192, SL A193 r183.1.TicketBook.Boxes.length c194] ++ (sg r183.1.shown_ 3 ++ [Value.map m195])), I r183.2] := (Option.some.inj ((congrArg some q270).symm.trans (hR267 15 10 (lE rfl) (by decide) rfl).2.2.2)).symm
     have q287 : e261 26 = AG ([I r183.1.TicketBook.Tally.Trips, I r183.1.TicketBook.Tally.Room, SL A187 r183.1.TicketBook.Tally.Counts.length c188, I r183.1.TicketBook.Fare, SL A189 r183.1.TicketBook.Tickets.length c190, SL A191 r183.1.TicketBook.Shows.length c192, SL A193 r183.1.TicketBook.Boxes.length c194] ++ (sg r183.1.shown_ 3 ++ [Value.map m195])) := (Option.some.inj ((congrArg (exG 0) q286).symm.trans (hR267 16 26 (lE rfl) (by decide) rfl).2.2.2)).symm
     obtain ⟨h289, h290, h291, b218, q288, h292, h293⟩ := hR267 18 8 (lE rfl) (by decide) rfl
     replace q288 : e261 8 = P b218 0 := q288
     obtain ⟨p294, _⟩ := h292
     have S296 := St.addO S285 (h293 _ (.head _)) (fun b_ h_ => (p294 b_ h_).elim (fun q_ => Nat.le_trans S26.keep.size (Nat.le_trans h289 q_.1)) (fun ⟨_, hq_, _⟩ => (List.not_mem_nil hq_).elim)) (fA ⟨(fun b_ h1_ h2_ => (p294 b_ h1_).elim (fun q2_ => by have q1_ := Asr.inb _ _ _ (S26.atX (i := 0) rfl) h2_; omega) (fun ⟨_, hq_, _⟩ => (List.not_mem_nil hq_).elim)), (fA ⟨(fun b_ h1_ h2_ => (p294 b_ h1_).elim (fun q2_ => by have q1_ := Asr.inb _ _ _ (S26.atX (i := 1) rfl) h2_; omega) (fun ⟨_, hq_, _⟩ => (List.not_mem_nil hq_).elim)), (fA ⟨(fun b_ h1_ h2_ => (p294 b_ h1_).elim (fun q2_ => by have q1_ := Asr.inb _ _ _ (S26.atX (i := 2) rfl) h2_; omega) (fun ⟨_, hq_, _⟩ => (List.not_mem_nil hq_).elim)), (fA ⟨(fun b_ h1_ h2_ => (p294 b_ h1_).elim (fun q2_ => by have q1_ := Asr.inb _ _ _ (S26.atX (i := 3) rfl) h2_; omega) (fun ⟨_, hq_, _⟩ => (List.not_mem_nil hq_).elim)), nM⟩)⟩)⟩)⟩) (fA ⟨(fun b_ h1_ h2_ => (p294 b_ h1_).elim (fun q1_ => (p280 b_ h2_).elim (fun q2_ => by have q3_ := hd268 18 14 (lE rfl) (lE rfl) (by decide) (by decide) (by decide); omega) (fun ⟨q_, hq_, hqb_⟩ => by have q5_ := h289; have q4_ := Asr.inb _ _ _ (S26.ps q_ ((nM) q_ hq_)) hqb_; omega)) (fun ⟨_, hq_, _⟩ => (List.not_mem_nil hq_).elim)), (fA ⟨(fun b_ h1_ h2_ => (p294 b_ h1_).elim (fun q1_ => (p279 b_ h2_).elim (fun q2_ => by have q3_ := hd268 18 14 (lE rfl) (lE rfl) (by decide) (by decide) (by decide); omega) (fun ⟨q_, hq_, hqb_⟩ => by have q5_ := h289; have q4_ := Asr.inb _ _ _ (S26.ps q_ ((nM) q_ hq_)) hqb_; omega)) (fun ⟨_, hq_, _⟩ => (List.not_mem_nil hq_).elim)), (fA ⟨(fun b_ h1_ h2_ => (p294 b_ h1_).elim (fun q1_ => (p278 b_ h2_).elim (fun q2_ => by have q3_ := hd268 18 14 (lE rfl) (lE rfl) (by decide) (by decide) (by decide); omega) (fun ⟨q_, hq_, hqb_⟩ => by have q5_ := h289; have q4_ := Asr.inb _ _ _ (S26.ps q_ ((nM) q_ hq_)) hqb_; omega)) (fun ⟨_, hq_, _⟩ => (List.not_mem_nil hq_).elim)), (fA ⟨(fun b_ h1_ h2_ => (p294 b_ h1_).elim (fun q1_ => (p277 b_ h2_).elim (fun q2_ => by have q3_ := hd268 18 14 (lE rfl) (lE rfl) (by decide) (by decide) (by decide); omega) (fun ⟨q_, hq_, hqb_⟩ => by have q5_ := h289; have q4_ := Asr.inb _ _ _ (S26.ps q_ ((fA ⟨List.mem_of_getElem? (i := 0) rfl, (fA ⟨List.mem_of_getElem? (i := 1) rfl, (fA ⟨List.mem_of_getElem? (i := 2) rfl, (fA ⟨List.mem_of_getElem? (i := 3) rfl, nM⟩)⟩)⟩)⟩) q_ hq_)) hqb_; omega)) (fun ⟨_, hq_, _⟩ => (List.not_mem_nil hq_).elim)), (fA ⟨(fun b_ h1_ h2_ => (p294 b_ h1_).elim (fun q1_ => (p276 b_ h2_).elim (fun q2_ => by have q3_ := hd268 18 14 (lE rfl) (lE rfl) (by decide) (by decide) (by decide); omega) (fun ⟨q_, hq_, hqb_⟩ => by have q5_ := h289; have q4_ := Asr.inb _ _ _ (S26.ps q_ ((fA ⟨List.mem_of_getElem? (i := 0) rfl, (fA ⟨List.mem_of_getElem? (i := 1) rfl, (fA ⟨List.mem_of_getElem? (i := 2) rfl, (fA ⟨List.mem_of_getElem? (i := 3) rfl, nM⟩)⟩)⟩)⟩) q_ hq_)) hqb_; omega)) (fun ⟨_, hq_, _⟩ => (List.not_mem_nil hq_).elim)), (fA ⟨(fun b_ h1_ h2_ => (p294 b_ h1_).elim (fun q2_ => by have q1_ := Asr.inb _ _ _ (S26.atP (i := 0) rfl) h2_; omega) (fun ⟨_, hq_, _⟩ => (List.not_mem_nil hq_).elim)), (fA ⟨(fun b_ h1_ h2_ => (p294 b_ h1_).elim (fun q2_ => by have q1_ := Asr.inb _ _ _ (S26.atP (i := 1) rfl) h2_; omega) (fun ⟨_, hq_, _⟩ => (List.not_mem_nil hq_).elim)), (fA ⟨(fun b_ h1_ h2_ => (p294 b_ h1_).elim (fun q2_ => by have q1_ := Asr.inb _ _ _ (S26.atP (i := 2) rfl) h2_; omega) (fun ⟨_, hq_, _⟩ => (List.not_mem_nil hq_).elim)), (fA ⟨(fun b_ h1_ h2_ => (p294 b_ h1_).elim (fun q2_ => by have q1_ := Asr.inb _ _ _ (S26.atP (i := 3) rfl) h2_; omega) (fun ⟨_, hq_, _⟩ => (List.not_mem_nil hq_).elim)), (fA ⟨(fun b_ h1_ h2_ => (p294 b_ h1_).elim (fun q2_ => by have q1_ := Asr.inb _ _ _ (S26.atP (i := 4) rfl) h2_; omega) (fun ⟨_, hq_, _⟩ => (List.not_mem_nil hq_).elim)), (fA ⟨(fun b_ h1_ h2_ => (p294 b_ h1_).elim (fun q2_ => by have q1_ := Asr.inb _ _ _ (S26.atP (i := 5) rfl) h2_; omega) (fun ⟨_, hq_, _⟩ => (List.not_mem_nil hq_).elim)), nM⟩)⟩)⟩)⟩)⟩)⟩)⟩)⟩)⟩)⟩)⟩)
     try clear S285
     refine tailE [(4, P b18 0), (5, P b21 0), (6, P b24 0), (8, P b218 0), (10, TU [AG ([I r183.1.TicketBook.Tally.Trips, I r183.1.TicketBook.Tally.Room, SL A187 r183.1.TicketBook.Tally.Counts.length c188, I r183.1.TicketBook.Fare, SL A189 r183.1.TicketBook.Tickets.length c190, SL A191 r183.1.TicketBook.Shows.length c192, SL A193 r183.1.TicketBook.Boxes.length c194] ++ (sg r183.1.shown_ 3 ++ [Value.map m195])), I r183.2]), (26, AG ([I r183.1.TicketBook.Tally.Trips, I r183.1.TicketBook.Tally.Room, SL A187 r183.1.TicketBook.Tally.Counts.length c188, I r183.1.TicketBook.Fare, SL A189 r183.1.TicketBook.Tickets.length c190, SL A191 r183.1.TicketBook.Shows.length c192, SL A193 r183.1.TicketBook.Boxes.length c194] ++ (sg r183.1.shown_ 3 ++ [Value.map m195])))] ⟨((hf266 4 rfl).trans (rfl : _ = P b18 0)), ((hf266 5 rfl).trans (rfl : _ = P b21 0)), ((hf266 6 rfl).trans (rfl : _ = P b24 0)), q288, q286, q287, trivial⟩ ?_
     intro g297
     refine p_stP (pre := []) (old := [I 0, I 0, SL none 0 0, I 0, SL none 0 0, SL none 0 0, SL none 0 0] ++ (sg (List.replicate 3 0) 3 ++ [Value.map none])) (post := []) (vs := [I r183.1.TicketBook.Tally.Trips, I r183.1.TicketBook.Tally.Room, SL A187 r183.1.TicketBook.Tally.Counts.length c188, I r183.1.TicketBook.Fare, SL A189 r183.1.TicketBook.Tickets.length c190, SL A191 r183.1.TicketBook.Shows.length c192, SL A193 r183.1.TicketBook.Boxes.length c194] ++ (sg r183.1.shown_ 3 ++ [Value.map m195])) sz92 S296 (i := 0) rfl rfl rfl rfl (rfl : _ = AG ([I r183.1.TicketBook.Tally.Trips, I r183.1.TicketBook.Tally.Room, SL A187 r183.1.TicketBook.Tally.Counts.length c188, I r183.1.TicketBook.Fare, SL A189 r183.1.TicketBook.Tickets.length c190, SL A191 r183.1.TicketBook.Shows.length c192, SL A193 r183.1.TicketBook.Boxes.length c194] ++ (sg r183.1.shown_ 3 ++ [Value.map m195]))) rfl rfl rfl rfl fun w298 S299 => ?_
     try clear S296
     refine p_ext rfl rfl <| p_aI rfl <| wp_nil ?_
     have S300 := S299.pk [0, 1, 2, 3] (by decide) [4, 3, 2, 1, 0, 5, 6, 7, 8, 9, 10] rfl rfl
     try clear S299
     exact ⟨(r183.1.TicketBook.Tally.Trips, r183.1.TicketBook.Tally.Room, r183.1.TicketBook.Tally.Counts, r183.1.TicketBook.Fare, r183.1.TicketBook.Tickets, r183.1.TicketBook.Shows, r183.1.TicketBook.Boxes, r183.1.shown_, r183.1.by_, r183.2), (b218, A187, c188, A189, c190, A191, c192, A193, c194, m195), _, rfl, ⟨rfl, rfl, rfl, rfl, rfl, trivial⟩, H, S300⟩
  ·replace H := condF c34 H
   obtain ⟨r317, h318, H⟩ := bindS H
   have A_ : ∀ {w_ : World}, Keep0 w25 w_ → St w_ (fun _ => False) w_ [] [bl b24 [I 0, I 0] 49, bl b21 [I a2] 3, bl b18 [I a1] 3, bl b15 [I a0.Tally.Trips, I a0.Tally.Room, SL A1 a0.Tally.Counts.length c2, I a0.Fare, SL A4 a0.Tickets.length c5, SL A7 a0.Shows.length c8, SL A10 a0.Boxes.length c11] 29, rd eTallyCount 7 A1 c2 a0.Tally.Counts, rd eTicketSeason 2 A4 c5 a0.Tickets, rd eTicketShow 3 A7 c8 a0.Shows, rd eTicketBox 4 A10 c11 a0.Boxes, gW0, gW2] := fun k_ => S26.asP k_
   refine reg_fl mixed 19 17 (by kernel_rfl) [rv (AG [I a0.Tally.Trips, I a0.Tally.Room, SL A1 a0.Tally.Counts.length c2, I a0.Fare, SL A4 a0.Tickets.length c5, SL A7 a0.Shows.length c8, SL A10 a0.Boxes.length c11]), rv (AG [I a0.Tally.Trips, I a0.Tally.Room, SL A1 a0.Tally.Counts.length c2, I a0.Fare, SL A4 a0.Tickets.length c5, SL A7 a0.Shows.length c8, SL A10 a0.Boxes.length c11]), rv (I a1), rv (B r29), rv (B false), rv (undef), rv (undef), rv (undef), rv (B false), rv (B false), rv (undef), rv (undef), rv (undef), rv (B false), rx (α := (Option Addr) × Nat × (Option Addr) × Nat × (Option Addr) × Nat × (Option Addr) × Nat × (Option Nat)) (fun ⟨A321, c322, A323, c324, A325, c326, A327, c328, m329⟩ => TU [AG ([I r317.1.TicketBook.Tally.Trips, I r317.1.TicketBook.Tally.Room, SL A321 r317.1.TicketBook.Tally.Counts.length c322, I r317.1.TicketBook.Fare, SL A323 r317.1.TicketBook.Tickets.length c324, SL A325 r317.1.TicketBook.Shows.length c326, SL A327 r317.1.TicketBook.Boxes.length c328] ++ (sg r317.1.shown_ 3 ++ [Value.map m329])), I r317.2]) (fun ⟨A321, c322, A323, c324, A325, c326, A327, c328, m329⟩ lo hi => BtwL lo hi [rd eTallyCount 7 A1 c2 a0.Tally.Counts, rd eTicketSeason 2 A4 c5 a0.Tickets, rd eTicketShow 3 A7 c8 a0.Shows, rd eTicketBox 4 A10 c11 a0.Boxes] (rd eTallyCount 7 A321 c322 r317.1.TicketBook.Tally.Counts) ∧ BtwL lo hi [rd eTallyCount 7 A1 c2 a0.Tally.Counts, rd eTicketSeason 2 A4 c5 a0.Tickets, rd eTicketShow 3 A7 c8 a0.Shows, rd eTicketBox 4 A10 c11 a0.Boxes] (rd eTicketSeason 2 A323 c324 r317.1.TicketBook.Tickets) ∧ BtwL lo hi [] (rd eTicketShow 3 A325 c326 r317.1.TicketBook.Shows) ∧ BtwL lo hi [] (rd eTicketBox 4 A327 c328 r317.1.TicketBook.Boxes) ∧ BtwL lo hi [] (mpo ekS iE m329 r317.1.by_) ∧ True) (fun ⟨A321, c322, A323, c324, A325, c326, A327, c328, m329⟩ => [rd eTallyCount 7 A321 c322 r317.1.TicketBook.Tally.Counts, rd eTicketSeason 2 A323 c324 r317.1.TicketBook.Tickets, rd eTicketShow 3 A325 c326 r317.1.TicketBook.Shows, rd eTicketBox 4 A327 c328 r317.1.TicketBook.Boxes, mpo ekS iE m329 r317.1.by_]), dv 25 some, dv 10 (exG 0), dv 10 (exG 1), rx (α := Nat) (fun b352 => P b352 0) (fun b352 lo hi => BtwL lo hi [] (bl b352 ([I 0, I 0, SL none 0 0, I 0, SL none 0 0, SL none 0 0, SL none 0 0] ++ (sg (List.replicate 3 0) 3 ++ [Value.map none])) 92) ∧ True) (fun b352 => [bl b352 ([I 0, I 0, SL none 0 0, I 0, SL none 0 0, SL none 0 0, SL none 0 0] ++ (sg (List.replicate 3 0) 3 ++ [Value.map none])) 92])] [[], [], [], [], [], [], [], [], [], [], [], [], [], [], [], [25], [10], [10], []] rfl (by kernel_rfl) [[], [], [], [1, 2], [1, 2, 3], [1, 2, 3, 4], [1, 2, 3, 4], [1, 2, 3, 4, 5, 6], [1, 2, 3, 4, 5, 6, 7], [1, 2, 3, 4, 5, 6, 7, 8], [1, 2, 3, 4, 5, 6, 7, 8, 9], [1, 2, 3, 4, 5, 6, 7, 8, 9], [1, 2, 3, 4, 5, 6, 7, 8, 9, 10, 11], [1, 2, 3, 4, 5, 6, 7, 8, 9, 10, 11, 12], [0, 1, 2, 3, 4, 5, 6, 7, 8, 9, 10, 11, 12, 13], [0, 1, 2, 3, 4, 5, 6, 7, 8, 9, 10, 11, 12, 13, 14], [0, 1, 2, 3, 4, 5, 6, 7, 8, 9, 10, 11, 12, 13, 14, 15], [0, 1, 2, 3, 4, 5, 6, 7, 8, 9, 10, 11, 12, 13, 14, 15], [], [0, 1, 2, 3, 4, 5, 6, 7, 8, 9, 10, 11, 12, 13, 14, 15, 16, 18], [0, 1, 2, 3, 4, 5, 6, 7, 8, 9, 10, 11, 12, 13, 14, 15, 16, 17, 18, 19]] (by kernel_rfl) ⟨?_, ?_, ?_, ?_, ?_, ?_, ?_, ?_, ?_, ?_, ?_, ?_, ?_, ?_, ?_, ?_, ?_, ?_, ?_, trivial⟩ ?_ ?_
   ·intro e_ w_ k_ hf_ hR_
    have S_ := @A_ _ k_
    refine hopE [(3, P b15 0)] ⟨((hf_ 3 rfl).trans (rfl : _ = P b15 0)), trivial⟩ ?_
    refine p_ldA ty29 sz29 (S_.atP (i := 3) rfl) rfl rfl <| wp_nil ?_
    exact ⟨_, rfl, S_.keep, rfl⟩
   ·intro e_ w_ k_ hf_ hR_
    have S_ := @A_ _ k_
    refine hopE [(3, P b15 0)] ⟨((hf_ 3 rfl).trans (rfl : _ = P b15 0)), trivial⟩ ?_
    refine p_ldA ty29 sz29 (S_.atP (i := 3) rfl) rfl rfl <| wp_nil ?_
    exact ⟨_, rfl, S_.keep, rfl⟩
   ·intro e_ w_ k_ hf_ hR_
    have S_ := @A_ _ k_
    refine hopE [(4, P b18 0)] ⟨((hf_ 4 rfl).trans (rfl : _ = P b18 0)), trivial⟩ ?_
    refine p_ld ty3 (S_.atP (i := 2) rfl) rfl rfl <| wp_nil ?_
    exact ⟨_, rfl, S_.keep, rfl⟩
   ·intro e_ w_ k_ hf_ hR_
    have S_ := @A_ _ k_
    obtain ⟨_, _, _, _, q27⟩ := hR_ 1 12 rfl (lE rfl) rfl
    obtain ⟨_, _, _, _, q28⟩ := hR_ 2 13 rfl (lE rfl) rfl
    refine hopE [(12, AG [I a0.Tally.Trips, I a0.Tally.Room, SL A1 a0.Tally.Counts.length c2, I a0.Fare, SL A4 a0.Tickets.length c5, SL A7 a0.Shows.length c8, SL A10 a0.Boxes.length c11]), (13, I a1)] ⟨q27, q28, trivial⟩ ?_
    refine p_cv (ticket_isTrip_ok h30 (S_.atP (i := 4) rfl) (S_.atP (i := 5) rfl) (S_.atP (i := 6) rfl) (S_.atP (i := 7) rfl)) fu59 rfl S_ fun w31 S32 => wp_nil ?_
    exact ⟨_, rfl, S32.keep, rfl⟩
   ·intro e_ w_ k_ hf_ hR_
    obtain ⟨_, _, _, _, q33⟩ := hR_ 3 14 rfl (lE rfl) rfl
    refine hopE [(14, B r29)] ⟨q33, trivial⟩ ?_
    refine p_mB rfl <| wp_nil ?_
    exact ⟨_, rfl, Keep.refl _ _, congrArg Value.bool c34⟩
   ·intro e_ w_ k_ hf_ hR_
    obtain ⟨_, _, _, _, q300⟩ := hR_ 4 15 rfl (lE rfl) rfl
    refine hopE [(3, P b15 0), (15, B false)] ⟨((hf_ 3 rfl).trans (rfl : _ = P b15 0)), q300, trivial⟩ ?_
    refine gF rfl rfl <| wp_nil ?_
    exact ⟨_, rfl, Keep.refl _ _, rfl⟩
   ·intro e_ w_ k_ hf_ hR_
    obtain ⟨_, _, _, _, q301⟩ := hR_ 4 15 rfl (lE rfl) rfl
    refine hopE [(5, P b21 0), (15, B false)] ⟨((hf_ 5 rfl).trans (rfl : _ = P b21 0)), q301, trivial⟩ ?_
    refine gF rfl rfl <| wp_nil ?_
    exact ⟨_, rfl, Keep.refl _ _, rfl⟩
   ·intro e_ w_ k_ hf_ hR_
    obtain ⟨_, _, _, _, q302⟩ := hR_ 4 15 rfl (lE rfl) rfl
    obtain ⟨_, _, _, _, q303⟩ := hR_ 5 16 rfl (lE rfl) rfl
    obtain ⟨_, _, _, _, q304⟩ := hR_ 6 17 rfl (lE rfl) rfl
    refine hopE [(15, B false), (16, undef), (17, undef)] ⟨q302, q303, q304, trivial⟩ ?_
    refine gF rfl rfl <| wp_nil ?_
    exact ⟨_, rfl, Keep.refl _ _, rfl⟩
   ·intro e_ w_ k_ hf_ hR_
    obtain ⟨_, _, _, _, q305⟩ := hR_ 4 15 rfl (lE rfl) rfl
    obtain ⟨_, _, _, _, q306⟩ := hR_ 7 18 rfl (lE rfl) rfl
    refine hopE [(15, B false), (18, undef)] ⟨q305, q306, trivial⟩ ?_
    refine p_pkF rfl (rfl : _ = B false) <| wp_nil ?_
    exact ⟨_, rfl, Keep.refl _ _, rfl⟩
   ·intro e_ w_ k_ hf_ hR_
    obtain ⟨_, _, _, _, q307⟩ := hR_ 8 19 rfl (lE rfl) rfl
    refine hopE [(19, B false)] ⟨q307, trivial⟩ ?_
    refine p_mB rfl <| wp_nil ?_
    exact ⟨_, rfl, Keep.refl _ _, rfl⟩
   ·intro e_ w_ k_ hf_ hR_
    obtain ⟨_, _, _, _, q308⟩ := hR_ 9 20 rfl (lE rfl) rfl
    refine hopE [(4, P b18 0), (20, B false)] ⟨((hf_ 4 rfl).trans (rfl : _ = P b18 0)), q308, trivial⟩ ?_
    refine gF rfl rfl <| wp_nil ?_
    exact ⟨_, rfl, Keep.refl _ _, rfl⟩
   ·intro e_ w_ k_ hf_ hR_
    obtain ⟨_, _, _, _, q309⟩ := hR_ 9 20 rfl (lE rfl) rfl
    refine hopE [(5, P b21 0), (20, B false)] ⟨((hf_ 5 rfl).trans (rfl : _ = P b21 0)), q309, trivial⟩ ?_
    refine gF rfl rfl <| wp_nil ?_
    exact ⟨_, rfl, Keep.refl _ _, rfl⟩
   ·intro e_ w_ k_ hf_ hR_
    obtain ⟨_, _, _, _, q310⟩ := hR_ 9 20 rfl (lE rfl) rfl
    obtain ⟨_, _, _, _, q311⟩ := hR_ 10 21 rfl (lE rfl) rfl
    obtain ⟨_, _, _, _, q312⟩ := hR_ 11 22 rfl (lE rfl) rfl
    refine hopE [(20, B false), (21, undef), (22, undef)] ⟨q310, q311, q312, trivial⟩ ?_
    refine gF rfl rfl <| wp_nil ?_
    exact ⟨_, rfl, Keep.refl _ _, rfl⟩
   ·intro e_ w_ k_ hf_ hR_
    obtain ⟨_, _, _, _, q313⟩ := hR_ 9 20 rfl (lE rfl) rfl
    obtain ⟨_, _, _, _, q314⟩ := hR_ 12 23 rfl (lE rfl) rfl
    refine hopE [(20, B false), (23, undef)] ⟨q313, q314, trivial⟩ ?_
    refine p_pkF rfl (rfl : _ = B false) <| wp_nil ?_
    exact ⟨_, rfl, Keep.refl _ _, rfl⟩
   ·intro e_ w_ k_ hf_ hR_
    have S_ := @A_ _ k_
    obtain ⟨_, _, _, _, q315⟩ := hR_ 0 11 rfl (lE rfl) rfl
    obtain ⟨_, _, _, _, q316⟩ := hR_ 13 24 rfl (lE rfl) rfl
    refine hopE [(11, AG [I a0.Tally.Trips, I a0.Tally.Room, SL A1 a0.Tally.Counts.length c2, I a0.Fare, SL A4 a0.Tickets.length c5, SL A7 a0.Shows.length c8, SL A10 a0.Boxes.length c11]), (24, B false)] ⟨q315, q316, trivial⟩ ?_
    refine p_cal (ticket_asked_ok h318 (S_.atP (i := 4) rfl) (S_.atP (i := 5) rfl) (S_.atP (i := 6) rfl) (S_.atP (i := 7) rfl) (S_.atP (i := 8) rfl) (S_.atP (i := 9) rfl)) fu58 rfl ?_
    rintro _ w319 ⟨A321, c322, A323, c324, A325, c326, A327, c328, m329, rfl, k320, ⟨o330, n331⟩, ⟨o332, n333⟩, ⟨o334, n335⟩, ⟨o336, n337⟩, ⟨o338, n339⟩, _⟩
    have S340 := S_.callN k320 [rd eTallyCount 7 A321 c322 r317.1.TicketBook.Tally.Counts, rd eTicketSeason 2 A323 c324 r317.1.TicketBook.Tickets, rd eTicketShow 3 A325 c326 r317.1.TicketBook.Shows, rd eTicketBox 4 A327 c328 r317.1.TicketBook.Boxes, mpo ekS iE m329 r317.1.by_] (fA ⟨⟨o330, Al.inL n331 ((fA ⟨(fp_mem (i := 4) rfl), (fA ⟨(fp_mem (i := 5) rfl), (fA ⟨(fp_mem (i := 6) rfl), (fA ⟨(fp_mem (i := 7) rfl), nM⟩)⟩)⟩)⟩))⟩, (fA ⟨⟨o332, Al.inL n333 ((fA ⟨(fp_mem (i := 4) rfl), (fA ⟨(fp_mem (i := 5) rfl), (fA ⟨(fp_mem (i := 6) rfl), (fA ⟨(fp_mem (i := 7) rfl), nM⟩)⟩)⟩)⟩))⟩, (fA ⟨⟨o334, New.inL n335⟩, (fA ⟨⟨o336, New.inL n337⟩, (fA ⟨⟨o338, New.inL n339⟩, nM⟩)⟩)⟩)⟩)⟩)
    refine wp_nil ?_
    exact ⟨_, rfl, S340.keep, ⟨(A321, c322, A323, c324, A325, c326, A327, c328, m329), rfl, ⟨BtwL.of n331 rfl (S340.atP (i := 0) rfl) rfl, BtwL.of n333 rfl (S340.atP (i := 1) rfl) rfl, BtwL.of (New.al (New.mono n335 S_.keep.size)) rfl (S340.atP (i := 2) rfl) rfl, BtwL.of (New.al (New.mono n337 S_.keep.size)) rfl (S340.atP (i := 3) rfl) rfl, BtwL.of (New.al (New.mono n339 S_.keep.size)) rfl (S340.atP (i := 4) rfl) rfl, trivial⟩, (fA ⟨(S340.atP (i := 0) rfl), (fA ⟨(S340.atP (i := 1) rfl), (fA ⟨(S340.atP (i := 2) rfl), (fA ⟨(S340.atP (i := 3) rfl), (fA ⟨(S340.atP (i := 4) rfl), nM⟩)⟩)⟩)⟩)⟩)⟩⟩
   ·intro e_ w_ k_ hf_ hR_
    have S_ := @A_ _ k_
    obtain ⟨_, _, _, _, ⟨A321, c322, A323, c324, A325, c326, A327, c328, m329⟩, q341, p342, a343⟩ := hR_ 14 25 rfl (lE rfl) rfl
    replace q341 : e_ 25 = TU [AG ([I r317.1.TicketBook.Tally.Trips, I r317.1.TicketBook.Tally.Room, SL A321 r317.1.TicketBook.Tally.Counts.length c322, I r317.1.TicketBook.Fare, SL A323 r317.1.TicketBook.Tickets.length c324, SL A325 r317.1.TicketBook.Shows.length c326, SL A327 r317.1.TicketBook.Boxes.length c328] ++ (sg r317.1.shown_ 3 ++ [Value.map m329])), I r317.2] := q341
    have S_ := St.addL' S_ (a343 _ (.head _)) (fun _ _ _ h_ => (List.not_mem_nil h_).elim)
    have S_ := St.addL' S_ (a343 _ (.tail _ (.head _))) (fun _ _ _ h_ => (List.not_mem_nil h_).elim)
    have S_ := St.addL' S_ (a343 _ (.tail _ (.tail _ (.head _)))) (fun _ _ _ h_ => (List.not_mem_nil h_).elim)
    have S_ := St.addL' S_ (a343 _ (.tail _ (.tail _ (.tail _ (.head _))))) (fun _ _ _ h_ => (List.not_mem_nil h_).elim)
    have S_ := St.addL' S_ (a343 _ (.tail _ (.tail _ (.tail _ (.tail _ (.head _)))))) (fun _ _ _ h_ => (List.not_mem_nil h_).elim)
    refine hopE [(25, TU [AG ([I r317.1.TicketBook.Tally.Trips, I r317.1.TicketBook.Tally.Room, SL A321 r317.1.TicketBook.Tally.Counts.length c322, I r317.1.TicketBook.Fare, SL A323 r317.1.TicketBook.Tickets.length c324, SL A325 r317.1.TicketBook.Shows.length c326, SL A327 r317.1.TicketBook.Boxes.length c328] ++ (sg r317.1.shown_ 3 ++ [Value.map m329])), I r317.2])] ⟨q341, trivial⟩ ?_
    refine p_mT rfl <| wp_nil ?_
    exact ⟨_, rfl, S_.keep, rfl⟩
   ·intro e_ w_ k_ hf_ hR_
    have S_ := @A_ _ k_
    obtain ⟨_, _, _, _, ⟨A321, c322, A323, c324, A325, c326, A327, c328, m329⟩, q345, p346, a347⟩ := hR_ 14 25 rfl (lE rfl) rfl
    replace q345 : e_ 25 = TU [AG ([I r317.1.TicketBook.Tally.Trips, I r317.1.TicketBook.Tally.Room, SL A321 r317.1.TicketBook.Tally.Counts.length c322, I r317.1.TicketBook.Fare, SL A323 r317.1.TicketBook.Tickets.length c324, SL A325 r317.1.TicketBook.Shows.length c326, SL A327 r317.1.TicketBook.Boxes.length c328] ++ (sg r317.1.shown_ 3 ++ [Value.map m329])), I r317.2] := q345
    have S_ := St.addL' S_ (a347 _ (.head _)) (fun _ _ _ h_ => (List.not_mem_nil h_).elim)
    have S_ := St.addL' S_ (a347 _ (.tail _ (.head _))) (fun _ _ _ h_ => (List.not_mem_nil h_).elim)
    have S_ := St.addL' S_ (a347 _ (.tail _ (.tail _ (.head _)))) (fun _ _ _ h_ => (List.not_mem_nil h_).elim)
    have S_ := St.addL' S_ (a347 _ (.tail _ (.tail _ (.tail _ (.head _))))) (fun _ _ _ h_ => (List.not_mem_nil h_).elim)
    have S_ := St.addL' S_ (a347 _ (.tail _ (.tail _ (.tail _ (.tail _ (.head _)))))) (fun _ _ _ h_ => (List.not_mem_nil h_).elim)
    obtain ⟨_, _, _, _, q344⟩ := hR_ 15 10 rfl (lE rfl) rfl
    replace q344 : e_ 10 = TU [AG ([I r317.1.TicketBook.Tally.Trips, I r317.1.TicketBook.Tally.Room, SL A321 r317.1.TicketBook.Tally.Counts.length c322, I r317.1.TicketBook.Fare, SL A323 r317.1.TicketBook.Tickets.length c324, SL A325 r317.1.TicketBook.Shows.length c326, SL A327 r317.1.TicketBook.Boxes.length c328] ++ (sg r317.1.shown_ 3 ++ [Value.map m329])), I r317.2] := (Option.some.inj ((congrArg some q345).symm.trans q344)).symm
    refine hopE [(10, TU [AG ([I r317.1.TicketBook.Tally.Trips, I r317.1.TicketBook.Tally.Room, SL A321 r317.1.TicketBook.Tally.Counts.length c322, I r317.1.TicketBook.Fare, SL A323 r317.1.TicketBook.Tickets.length c324, SL A325 r317.1.TicketBook.Shows.length c326, SL A327 r317.1.TicketBook.Boxes.length c328] ++ (sg r317.1.shown_ 3 ++ [Value.map m329])), I r317.2])] ⟨q344, trivial⟩ ?_
    refine p_ext rfl rfl <| wp_nil ?_
    exact ⟨_, rfl, S_.keep, rfl⟩
   ·intro e_ w_ k_ hf_ hR_
    have S_ := @A_ _ k_
    obtain ⟨_, _, _, _, ⟨A321, c322, A323, c324, A325, c326, A327, c328, m329⟩, q349, p350, a351⟩ := hR_ 14 25 rfl (lE rfl) rfl
    replace q349 : e_ 25 = TU [AG ([I r317.1.TicketBook.Tally.Trips, I r317.1.TicketBook.Tally.Room, SL A321 r317.1.TicketBook.Tally.Counts.length c322, I r317.1.TicketBook.Fare, SL A323 r317.1.TicketBook.Tickets.length c324, SL A325 r317.1.TicketBook.Shows.length c326, SL A327 r317.1.TicketBook.Boxes.length c328] ++ (sg r317.1.shown_ 3 ++ [Value.map m329])), I r317.2] := q349
    have S_ := St.addL' S_ (a351 _ (.head _)) (fun _ _ _ h_ => (List.not_mem_nil h_).elim)
    have S_ := St.addL' S_ (a351 _ (.tail _ (.head _))) (fun _ _ _ h_ => (List.not_mem_nil h_).elim)
    have S_ := St.addL' S_ (a351 _ (.tail _ (.tail _ (.head _)))) (fun _ _ _ h_ => (List.not_mem_nil h_).elim)
    have S_ := St.addL' S_ (a351 _ (.tail _ (.tail _ (.tail _ (.head _))))) (fun _ _ _ h_ => (List.not_mem_nil h_).elim)
    have S_ := St.addL' S_ (a351 _ (.tail _ (.tail _ (.tail _ (.tail _ (.head _)))))) (fun _ _ _ h_ => (List.not_mem_nil h_).elim)
    obtain ⟨_, _, _, _, q348⟩ := hR_ 15 10 rfl (lE rfl) rfl
    replace q348 : e_ 10 = TU [AG ([I r317.1.TicketBook.Tally.Trips, I r317.1.TicketBook.Tally.Room, SL A321 r317.1.TicketBook.Tally.Counts.length c322, I r317.1.TicketBook.Fare, SL A323 r317.1.TicketBook.Tickets.length c324, SL A325 r317.1.TicketBook.Shows.length c326, SL A327 r317.1.TicketBook.Boxes.length c328] ++ (sg r317.1.shown_ 3 ++ [Value.map m329])), I r317.2] := (Option.some.inj ((congrArg some q349).symm.trans q348)).symm
    refine hopE [(10, TU [AG ([I r317.1.TicketBook.Tally.Trips, I r317.1.TicketBook.Tally.Room, SL A321 r317.1.TicketBook.Tally.Counts.length c322, I r317.1.TicketBook.Fare, SL A323 r317.1.TicketBook.Tickets.length c324, SL A325 r317.1.TicketBook.Shows.length c326, SL A327 r317.1.TicketBook.Boxes.length c328] ++ (sg r317.1.shown_ 3 ++ [Value.map m329])), I r317.2])] ⟨q348, trivial⟩ ?_
    refine p_ext rfl rfl <| wp_nil ?_
    exact ⟨_, rfl, S_.keep, rfl⟩
   ·intro e_ w_ k_ hf_ hR_
    have S_ := @A_ _ k_
    refine hopE [] trivial ?_
    refine p_allA in92 S_ fun b352 w353 S354 => wp_nil ?_
    exact ⟨_, rfl, S354.keep, ⟨b352, rfl, ⟨BtwL.of (New.al (S354.newX (i := 0) rfl)) rfl (S354.atX (i := 0) rfl) rfl, trivial⟩, (fA ⟨(S354.atX (i := 0) rfl), nM⟩)⟩⟩
   ·intro e355 w356 lo357 hi358 k359 hf360 hR361 hd362
    have S363 := S26.call k359
    obtain ⟨h365, h366, h367, ⟨A321, c322, A323, c324, A325, c326, A327, c328, m329⟩, q364, h368, h369⟩ := hR361 14 25 (lE rfl) rfl
    replace q364 : e355 25 = TU [AG ([I r317.1.TicketBook.Tally.Trips, I r317.1.TicketBook.Tally.Room, SL A321 r317.1.TicketBook.Tally.Counts.length c322, I r317.1.TicketBook.Fare, SL A323 r317.1.TicketBook.Tickets.length c324, SL A325 r317.1.TicketBook.Shows.length c326, SL A327 r317.1.TicketBook.Boxes.length c328] ++ (sg r317.1.shown_ 3 ++ [Value.map m329])), I r317.2] := q364
    obtain ⟨p370, p371, p372, p373, p374, _⟩ := h368
    have S375 := St.addR S363 (h369 _ (.head _)) (fun b_ h_ x_ hx_ hb_ => (p370 b_ h_).elim (fun q_ => by have := x_.inb _ _ (S26.xs x_ hx_) hb_; omega) (fun ⟨q_, hq_, hqb_⟩ => S26.dp x_ hx_ q_ ((fA ⟨List.mem_of_getElem? (i := 0) rfl, (fA ⟨List.mem_of_getElem? (i := 1) rfl, (fA ⟨List.mem_of_getElem? (i := 2) rfl, (fA ⟨List.mem_of_getElem? (i := 3) rfl, nM⟩)⟩)⟩)⟩) q_ hq_) b_ hb_ hqb_))
    try clear S363
    have S376 := St.addR S375 (h369 _ (.tail _ (.head _))) (fun b_ h_ x_ hx_ hb_ => (p371 b_ h_).elim (fun q_ => by have := x_.inb _ _ (S26.xs x_ hx_) hb_; omega) (fun ⟨q_, hq_, hqb_⟩ => S26.dp x_ hx_ q_ ((fA ⟨List.mem_of_getElem? (i := 0) rfl, (fA ⟨List.mem_of_getElem? (i := 1) rfl, (fA ⟨List.mem_of_getElem? (i := 2) rfl, (fA ⟨List.mem_of_getElem? (i := 3) rfl, nM⟩)⟩)⟩)⟩) q_ hq_) b_ hb_ hqb_))
    try clear S375
    have S377 := St.addR S376 (h369 _ (.tail _ (.tail _ (.head _)))) (fun b_ h_ x_ hx_ hb_ => (p372 b_ h_).elim (fun q_ => by have := x_.inb _ _ (S26.xs x_ hx_) hb_; omega) (fun ⟨q_, hq_, hqb_⟩ => S26.dp x_ hx_ q_ ((nM) q_ hq_) b_ hb_ hqb_))
    try clear S376
    have S378 := St.addR S377 (h369 _ (.tail _ (.tail _ (.tail _ (.head _))))) (fun b_ h_ x_ hx_ hb_ => (p373 b_ h_).elim (fun q_ => by have := x_.inb _ _ (S26.xs x_ hx_) hb_; omega) (fun ⟨q_, hq_, hqb_⟩ => S26.dp x_ hx_ q_ ((nM) q_ hq_) b_ hb_ hqb_))
    try clear S377
    have S379 := St.addR S378 (h369 _ (.tail _ (.tail _ (.tail _ (.tail _ (.head _)))))) (fun b_ h_ x_ hx_ hb_ => (p374 b_ h_).elim (fun q_ => by have := x_.inb _ _ (S26.xs x_ hx_) hb_; omega) (fun ⟨q_, hq_, hqb_⟩ => S26.dp x_ hx_ q_ ((nM) q_ hq_) b_ hb_ hqb_))
    try clear S378
    have q380 : e355 10 = TU [AG ([I r317.1.TicketBook.Tally.Trips, I r317.1.TicketBook.Tally.Room, SL A321 r317.1.TicketBook.Tally.Counts.length c322, I r317.1.TicketBook.Fare, SL A323 r317.1.TicketBook.Tickets.length c324, SL A325 r317.1.TicketBook.Shows.length c326, SL A327 r317.1.TicketBook.Boxes.length c328] ++ (sg r317.1.shown_ 3 ++ [Value.map m329])), I r317.2] := (Option.some.inj ((congrArg some q364).symm.trans (hR361 15 10 (lE rfl) rfl).2.2.2)).symm
    have q381 : e355 26 = AG ([I r317.1.TicketBook.Tally.Trips, I r317.1.TicketBook.Tally.Room, SL A321 r317.1.TicketBook.Tally.Counts.length c322, I r317.1.TicketBook.Fare, SL A323 r317.1.TicketBook.Tickets.length c324, SL A325 r317.1.TicketBook.Shows.length c326, SL A327 r317.1.TicketBook.Boxes.length c328] ++ (sg r317.1.shown_ 3 ++ [Value.map m329])) := (Option.some.inj ((congrArg (exG 0) q380).symm.trans (hR361 16 26 (lE rfl) rfl).2.2.2)).symm
    have q382 : e355 27 = I r317.2 := (Option.some.inj ((congrArg (exG 1) q380).symm.trans (hR361 17 27 (lE rfl) rfl).2.2.2)).symm
    obtain ⟨h384, h385, h386, b352, q383, h387, h388⟩ := hR361 18 8 (lE rfl) rfl
    replace q383 : e355 8 = P b352 0 := q383
    obtain ⟨p389, _⟩ := h387
    have S391 := St.addO S379 (h388 _ (.head _)) (fun b_ h_ => (p389 b_ h_).elim (fun q_ => Nat.le_trans S26.keep.size (Nat.le_trans h384 q_.1)) (fun ⟨_, hq_, _⟩ => (List.not_mem_nil hq_).elim)) (fA ⟨(fun b_ h1_ h2_ => (p389 b_ h1_).elim (fun q2_ => by have q1_ := Asr.inb _ _ _ (S26.atX (i := 0) rfl) h2_; omega) (fun ⟨_, hq_, _⟩ => (List.not_mem_nil hq_).elim)), (fA ⟨(fun b_ h1_ h2_ => (p389 b_ h1_).elim (fun q2_ => by have q1_ := Asr.inb _ _ _ (S26.atX (i := 1) rfl) h2_; omega) (fun ⟨_, hq_, _⟩ => (List.not_mem_nil hq_).elim)), (fA ⟨(fun b_ h1_ h2_ => (p389 b_ h1_).elim (fun q2_ => by have q1_ := Asr.inb _ _ _ (S26.atX (i := 2) rfl) h2_; omega) (fun ⟨_, hq_, _⟩ => (List.not_mem_nil hq_).elim)), (fA ⟨(fun b_ h1_ h2_ => (p389 b_ h1_).elim (fun q2_ => by have q1_ := Asr.inb _ _ _ (S26.atX (i := 3) rfl) h2_; omega) (fun ⟨_, hq_, _⟩ => (List.not_mem_nil hq_).elim)), nM⟩)⟩)⟩)⟩) (fA ⟨(fun b_ h1_ h2_ => (p389 b_ h1_).elim (fun q1_ => (p374 b_ h2_).elim (fun q2_ => by have q3_ := hd362 18 14 (lE rfl) (lE rfl) (by decide); omega) (fun ⟨q_, hq_, hqb_⟩ => by have q5_ := h384; have q4_ := Asr.inb _ _ _ (S26.ps q_ ((nM) q_ hq_)) hqb_; omega)) (fun ⟨_, hq_, _⟩ => (List.not_mem_nil hq_).elim)), (fA ⟨(fun b_ h1_ h2_ => (p389 b_ h1_).elim (fun q1_ => (p373 b_ h2_).elim (fun q2_ => by have q3_ := hd362 18 14 (lE rfl) (lE rfl) (by decide); omega) (fun ⟨q_, hq_, hqb_⟩ => by have q5_ := h384; have q4_ := Asr.inb _ _ _ (S26.ps q_ ((nM) q_ hq_)) hqb_; omega)) (fun ⟨_, hq_, _⟩ => (List.not_mem_nil hq_).elim)), (fA ⟨(fun b_ h1_ h2_ => (p389 b_ h1_).elim (fun q1_ => (p372 b_ h2_).elim (fun q2_ => by have q3_ := hd362 18 14 (lE rfl) (lE rfl) (by decide); omega) (fun ⟨q_, hq_, hqb_⟩ => by have q5_ := h384; have q4_ := Asr.inb _ _ _ (S26.ps q_ ((nM) q_ hq_)) hqb_; omega)) (fun ⟨_, hq_, _⟩ => (List.not_mem_nil hq_).elim)), (fA ⟨(fun b_ h1_ h2_ => (p389 b_ h1_).elim (fun q1_ => (p371 b_ h2_).elim (fun q2_ => by have q3_ := hd362 18 14 (lE rfl) (lE rfl) (by decide); omega) (fun ⟨q_, hq_, hqb_⟩ => by have q5_ := h384; have q4_ := Asr.inb _ _ _ (S26.ps q_ ((fA ⟨List.mem_of_getElem? (i := 0) rfl, (fA ⟨List.mem_of_getElem? (i := 1) rfl, (fA ⟨List.mem_of_getElem? (i := 2) rfl, (fA ⟨List.mem_of_getElem? (i := 3) rfl, nM⟩)⟩)⟩)⟩) q_ hq_)) hqb_; omega)) (fun ⟨_, hq_, _⟩ => (List.not_mem_nil hq_).elim)), (fA ⟨(fun b_ h1_ h2_ => (p389 b_ h1_).elim (fun q1_ => (p370 b_ h2_).elim (fun q2_ => by have q3_ := hd362 18 14 (lE rfl) (lE rfl) (by decide); omega) (fun ⟨q_, hq_, hqb_⟩ => by have q5_ := h384; have q4_ := Asr.inb _ _ _ (S26.ps q_ ((fA ⟨List.mem_of_getElem? (i := 0) rfl, (fA ⟨List.mem_of_getElem? (i := 1) rfl, (fA ⟨List.mem_of_getElem? (i := 2) rfl, (fA ⟨List.mem_of_getElem? (i := 3) rfl, nM⟩)⟩)⟩)⟩) q_ hq_)) hqb_; omega)) (fun ⟨_, hq_, _⟩ => (List.not_mem_nil hq_).elim)), (fA ⟨(fun b_ h1_ h2_ => (p389 b_ h1_).elim (fun q2_ => by have q1_ := Asr.inb _ _ _ (S26.atP (i := 0) rfl) h2_; omega) (fun ⟨_, hq_, _⟩ => (List.not_mem_nil hq_).elim)), (fA ⟨(fun b_ h1_ h2_ => (p389 b_ h1_).elim (fun q2_ => by have q1_ := Asr.inb _ _ _ (S26.atP (i := 1) rfl) h2_; omega) (fun ⟨_, hq_, _⟩ => (List.not_mem_nil hq_).elim)), (fA ⟨(fun b_ h1_ h2_ => (p389 b_ h1_).elim (fun q2_ => by have q1_ := Asr.inb _ _ _ (S26.atP (i := 2) rfl) h2_; omega) (fun ⟨_, hq_, _⟩ => (List.not_mem_nil hq_).elim)), (fA ⟨(fun b_ h1_ h2_ => (p389 b_ h1_).elim (fun q2_ => by have q1_ := Asr.inb _ _ _ (S26.atP (i := 3) rfl) h2_; omega) (fun ⟨_, hq_, _⟩ => (List.not_mem_nil hq_).elim)), (fA ⟨(fun b_ h1_ h2_ => (p389 b_ h1_).elim (fun q2_ => by have q1_ := Asr.inb _ _ _ (S26.atP (i := 4) rfl) h2_; omega) (fun ⟨_, hq_, _⟩ => (List.not_mem_nil hq_).elim)), (fA ⟨(fun b_ h1_ h2_ => (p389 b_ h1_).elim (fun q2_ => by have q1_ := Asr.inb _ _ _ (S26.atP (i := 5) rfl) h2_; omega) (fun ⟨_, hq_, _⟩ => (List.not_mem_nil hq_).elim)), nM⟩)⟩)⟩)⟩)⟩)⟩)⟩)⟩)⟩)⟩)⟩)
    try clear S379
    refine tailE [(4, P b18 0), (5, P b21 0), (6, P b24 0), (8, P b352 0), (26, AG ([I r317.1.TicketBook.Tally.Trips, I r317.1.TicketBook.Tally.Room, SL A321 r317.1.TicketBook.Tally.Counts.length c322, I r317.1.TicketBook.Fare, SL A323 r317.1.TicketBook.Tickets.length c324, SL A325 r317.1.TicketBook.Shows.length c326, SL A327 r317.1.TicketBook.Boxes.length c328] ++ (sg r317.1.shown_ 3 ++ [Value.map m329]))), (27, I r317.2)] ⟨((hf360 4 rfl).trans (rfl : _ = P b18 0)), ((hf360 5 rfl).trans (rfl : _ = P b21 0)), ((hf360 6 rfl).trans (rfl : _ = P b24 0)), q383, q381, q382, trivial⟩ ?_
    intro g392
    refine p_stP (pre := []) (old := [I 0, I 0, SL none 0 0, I 0, SL none 0 0, SL none 0 0, SL none 0 0] ++ (sg (List.replicate 3 0) 3 ++ [Value.map none])) (post := []) (vs := [I r317.1.TicketBook.Tally.Trips, I r317.1.TicketBook.Tally.Room, SL A321 r317.1.TicketBook.Tally.Counts.length c322, I r317.1.TicketBook.Fare, SL A323 r317.1.TicketBook.Tickets.length c324, SL A325 r317.1.TicketBook.Shows.length c326, SL A327 r317.1.TicketBook.Boxes.length c328] ++ (sg r317.1.shown_ 3 ++ [Value.map m329])) sz92 S391 (i := 0) rfl rfl rfl rfl (rfl : _ = AG ([I r317.1.TicketBook.Tally.Trips, I r317.1.TicketBook.Tally.Room, SL A321 r317.1.TicketBook.Tally.Counts.length c322, I r317.1.TicketBook.Fare, SL A323 r317.1.TicketBook.Tickets.length c324, SL A325 r317.1.TicketBook.Shows.length c326, SL A327 r317.1.TicketBook.Boxes.length c328] ++ (sg r317.1.shown_ 3 ++ [Value.map m329]))) rfl rfl rfl rfl fun w393 S394 => ?_
    try clear S391
    refine p_aI rfl <| wp_nil ?_
    have S395 := S394.pk [0, 1, 2, 3] (by decide) [4, 3, 2, 1, 0, 5, 6, 7, 8, 9, 10] rfl rfl
    try clear S394
    exact ⟨(r317.1.TicketBook.Tally.Trips, r317.1.TicketBook.Tally.Room, r317.1.TicketBook.Tally.Counts, r317.1.TicketBook.Fare, r317.1.TicketBook.Tickets, r317.1.TicketBook.Shows, r317.1.TicketBook.Boxes, r317.1.shown_, r317.1.by_, r317.2), (b352, A321, c322, A323, c324, A325, c326, A327, c328, m329), _, rfl, ⟨rfl, rfl, rfl, rfl, rfl, trivial⟩, H, S395⟩
   ·intro e395 w396 lo397 hi398 k399 hf400 hR401 hd402
    have S403 := S26.call k399
    obtain ⟨h405, h406, h407, ⟨A321, c322, A323, c324, A325, c326, A327, c328, m329⟩, q404, h408, h409⟩ := hR401 14 25 (lE rfl) (by decide) rfl
    replace q404 : e395 25 = TU [AG ([I r317.1.TicketBook.Tally.Trips, I r317.1.TicketBook.Tally.Room, SL A321 r317.1.TicketBook.Tally.Counts.length c322, I r317.1.TicketBook.Fare, SL A323 r317.1.TicketBook.Tickets.length c324, SL A325 r317.1.TicketBook.Shows.length c326, SL A327 r317.1.TicketBook.Boxes.length c328] ++ (sg r317.1.shown_ 3 ++ [Value.map m329])), I r317.2] := q404
    obtain ⟨p410, p411, p412, p413, p414, _⟩ := h408
    have S415 := St.addR S403 (h409 _ (.head _)) (fun b_ h_ x_ hx_ hb_ => (p410 b_ h_).elim (fun q_ => by have := x_.inb _ _ (S26.xs x_ hx_) hb_; omega) (fun ⟨q_, hq_, hqb_⟩ => S26.dp x_ hx_ q_ ((fA ⟨List.mem_of_getElem? (i := 0) rfl, (fA ⟨List.mem_of_getElem? (i := 1) rfl, (fA ⟨List.mem_of_getElem? (i := 2) rfl, (fA ⟨List.mem_of_getElem? (i := 3) rfl, nM⟩)⟩)⟩)⟩) q_ hq_) b_ hb_ hqb_))
    try clear S403
    have S416 := St.addR S415 (h409 _ (.tail _ (.head _))) (fun b_ h_ x_ hx_ hb_ => (p411 b_ h_).elim (fun q_ => by have := x_.inb _ _ (S26.xs x_ hx_) hb_; omega) (fun ⟨q_, hq_, hqb_⟩ => S26.dp x_ hx_ q_ ((fA ⟨List.mem_of_getElem? (i := 0) rfl, (fA ⟨List.mem_of_getElem? (i := 1) rfl, (fA ⟨List.mem_of_getElem? (i := 2) rfl, (fA ⟨List.mem_of_getElem? (i := 3) rfl, nM⟩)⟩)⟩)⟩) q_ hq_) b_ hb_ hqb_))
    try clear S415
    have S417 := St.addR S416 (h409 _ (.tail _ (.tail _ (.head _)))) (fun b_ h_ x_ hx_ hb_ => (p412 b_ h_).elim (fun q_ => by have := x_.inb _ _ (S26.xs x_ hx_) hb_; omega) (fun ⟨q_, hq_, hqb_⟩ => S26.dp x_ hx_ q_ ((nM) q_ hq_) b_ hb_ hqb_))
    try clear S416
    have S418 := St.addR S417 (h409 _ (.tail _ (.tail _ (.tail _ (.head _))))) (fun b_ h_ x_ hx_ hb_ => (p413 b_ h_).elim (fun q_ => by have := x_.inb _ _ (S26.xs x_ hx_) hb_; omega) (fun ⟨q_, hq_, hqb_⟩ => S26.dp x_ hx_ q_ ((nM) q_ hq_) b_ hb_ hqb_))
    try clear S417
    have S419 := St.addR S418 (h409 _ (.tail _ (.tail _ (.tail _ (.tail _ (.head _)))))) (fun b_ h_ x_ hx_ hb_ => (p414 b_ h_).elim (fun q_ => by have := x_.inb _ _ (S26.xs x_ hx_) hb_; omega) (fun ⟨q_, hq_, hqb_⟩ => S26.dp x_ hx_ q_ ((nM) q_ hq_) b_ hb_ hqb_))
    try clear S418
    have q420 : e395 10 = TU [AG ([I r317.1.TicketBook.Tally.Trips, I r317.1.TicketBook.Tally.Room, SL A321 r317.1.TicketBook.Tally.Counts.length c322, I r317.1.TicketBook.Fare, SL A323 r317.1.TicketBook.Tickets.length c324, SL A325 r317.1.TicketBook.Shows.length c326, SL A327 r317.1.TicketBook.Boxes.length c328] ++ (sg r317.1.shown_ 3 ++ [Value.map m329])), I r317.2] := (Option.some.inj ((congrArg some q404).symm.trans (hR401 15 10 (lE rfl) (by decide) rfl).2.2.2)).symm
    have q421 : e395 26 = AG ([I r317.1.TicketBook.Tally.Trips, I r317.1.TicketBook.Tally.Room, SL A321 r317.1.TicketBook.Tally.Counts.length c322, I r317.1.TicketBook.Fare, SL A323 r317.1.TicketBook.Tickets.length c324, SL A325 r317.1.TicketBook.Shows.length c326, SL A327 r317.1.TicketBook.Boxes.length c328] ++ (sg r317.1.shown_ 3 ++ [Value.map m329])) := (Option.some.inj ((congrArg (exG 0) q420).symm.trans (hR401 16 26 (lE rfl) (by decide) rfl).2.2.2)).symm
    obtain ⟨h423, h424, h425, b352, q422, h426, h427⟩ := hR401 18 8 (lE rfl) (by decide) rfl
    replace q422 : e395 8 = P b352 0 := q422
    obtain ⟨p428, _⟩ := h426
    have S430 := St.addO S419 (h427 _ (.head _)) (fun b_ h_ => (p428 b_ h_).elim (fun q_ => Nat.le_trans S26.keep.size (Nat.le_trans h423 q_.1)) (fun ⟨_, hq_, _⟩ => (List.not_mem_nil hq_).elim)) (fA ⟨(fun b_ h1_ h2_ => (p428 b_ h1_).elim (fun q2_ => by have q1_ := Asr.inb _ _ _ (S26.atX (i := 0) rfl) h2_; omega) (fun ⟨_, hq_, _⟩ => (List.not_mem_nil hq_).elim)), (fA ⟨(fun b_ h1_ h2_ => (p428 b_ h1_).elim (fun q2_ => by have q1_ := Asr.inb _ _ _ (S26.atX (i := 1) rfl) h2_; omega) (fun ⟨_, hq_, _⟩ => (List.not_mem_nil hq_).elim)), (fA ⟨(fun b_ h1_ h2_ => (p428 b_ h1_).elim (fun q2_ => by have q1_ := Asr.inb _ _ _ (S26.atX (i := 2) rfl) h2_; omega) (fun ⟨_, hq_, _⟩ => (List.not_mem_nil hq_).elim)), (fA ⟨(fun b_ h1_ h2_ => (p428 b_ h1_).elim (fun q2_ => by have q1_ := Asr.inb _ _ _ (S26.atX (i := 3) rfl) h2_; omega) (fun ⟨_, hq_, _⟩ => (List.not_mem_nil hq_).elim)), nM⟩)⟩)⟩)⟩) (fA ⟨(fun b_ h1_ h2_ => (p428 b_ h1_).elim (fun q1_ => (p414 b_ h2_).elim (fun q2_ => by have q3_ := hd402 18 14 (lE rfl) (lE rfl) (by decide) (by decide) (by decide); omega) (fun ⟨q_, hq_, hqb_⟩ => by have q5_ := h423; have q4_ := Asr.inb _ _ _ (S26.ps q_ ((nM) q_ hq_)) hqb_; omega)) (fun ⟨_, hq_, _⟩ => (List.not_mem_nil hq_).elim)), (fA ⟨(fun b_ h1_ h2_ => (p428 b_ h1_).elim (fun q1_ => (p413 b_ h2_).elim (fun q2_ => by have q3_ := hd402 18 14 (lE rfl) (lE rfl) (by decide) (by decide) (by decide); omega) (fun ⟨q_, hq_, hqb_⟩ => by have q5_ := h423; have q4_ := Asr.inb _ _ _ (S26.ps q_ ((nM) q_ hq_)) hqb_; omega)) (fun ⟨_, hq_, _⟩ => (List.not_mem_nil hq_).elim)), (fA ⟨(fun b_ h1_ h2_ => (p428 b_ h1_).elim (fun q1_ => (p412 b_ h2_).elim (fun q2_ => by have q3_ := hd402 18 14 (lE rfl) (lE rfl) (by decide) (by decide) (by decide); omega) (fun ⟨q_, hq_, hqb_⟩ => by have q5_ := h423; have q4_ := Asr.inb _ _ _ (S26.ps q_ ((nM) q_ hq_)) hqb_; omega)) (fun ⟨_, hq_, _⟩ => (List.not_mem_nil hq_).elim)), (fA ⟨(fun b_ h1_ h2_ => (p428 b_ h1_).elim (fun q1_ => (p411 b_ h2_).elim (fun q2_ => by have q3_ := hd402 18 14 (lE rfl) (lE rfl) (by decide) (by decide) (by decide); omega) (fun ⟨q_, hq_, hqb_⟩ => by have q5_ := h423; have q4_ := Asr.inb _ _ _ (S26.ps q_ ((fA ⟨List.mem_of_getElem? (i := 0) rfl, (fA ⟨List.mem_of_getElem? (i := 1) rfl, (fA ⟨List.mem_of_getElem? (i := 2) rfl, (fA ⟨List.mem_of_getElem? (i := 3) rfl, nM⟩)⟩)⟩)⟩) q_ hq_)) hqb_; omega)) (fun ⟨_, hq_, _⟩ => (List.not_mem_nil hq_).elim)), (fA ⟨(fun b_ h1_ h2_ => (p428 b_ h1_).elim (fun q1_ => (p410 b_ h2_).elim (fun q2_ => by have q3_ := hd402 18 14 (lE rfl) (lE rfl) (by decide) (by decide) (by decide); omega) (fun ⟨q_, hq_, hqb_⟩ => by have q5_ := h423; have q4_ := Asr.inb _ _ _ (S26.ps q_ ((fA ⟨List.mem_of_getElem? (i := 0) rfl, (fA ⟨List.mem_of_getElem? (i := 1) rfl, (fA ⟨List.mem_of_getElem? (i := 2) rfl, (fA ⟨List.mem_of_getElem? (i := 3) rfl, nM⟩)⟩)⟩)⟩) q_ hq_)) hqb_; omega)) (fun ⟨_, hq_, _⟩ => (List.not_mem_nil hq_).elim)), (fA ⟨(fun b_ h1_ h2_ => (p428 b_ h1_).elim (fun q2_ => by have q1_ := Asr.inb _ _ _ (S26.atP (i := 0) rfl) h2_; omega) (fun ⟨_, hq_, _⟩ => (List.not_mem_nil hq_).elim)), (fA ⟨(fun b_ h1_ h2_ => (p428 b_ h1_).elim (fun q2_ => by have q1_ := Asr.inb _ _ _ (S26.atP (i := 1) rfl) h2_; omega) (fun ⟨_, hq_, _⟩ => (List.not_mem_nil hq_).elim)), (fA ⟨(fun b_ h1_ h2_ => (p428 b_ h1_).elim (fun q2_ => by have q1_ := Asr.inb _ _ _ (S26.atP (i := 2) rfl) h2_; omega) (fun ⟨_, hq_, _⟩ => (List.not_mem_nil hq_).elim)), (fA ⟨(fun b_ h1_ h2_ => (p428 b_ h1_).elim (fun q2_ => by have q1_ := Asr.inb _ _ _ (S26.atP (i := 3) rfl) h2_; omega) (fun ⟨_, hq_, _⟩ => (List.not_mem_nil hq_).elim)), (fA ⟨(fun b_ h1_ h2_ => (p428 b_ h1_).elim (fun q2_ => by have q1_ := Asr.inb _ _ _ (S26.atP (i := 4) rfl) h2_; omega) (fun ⟨_, hq_, _⟩ => (List.not_mem_nil hq_).elim)), (fA ⟨(fun b_ h1_ h2_ => (p428 b_ h1_).elim (fun q2_ => by have q1_ := Asr.inb _ _ _ (S26.atP (i := 5) rfl) h2_; omega) (fun ⟨_, hq_, _⟩ => (List.not_mem_nil hq_).elim)), nM⟩)⟩)⟩)⟩)⟩)⟩)⟩)⟩)⟩)⟩)⟩)
    try clear S26; try clear S419
    refine tailE [(4, P b18 0), (5, P b21 0), (6, P b24 0), (8, P b352 0), (10, TU [AG ([I r317.1.TicketBook.Tally.Trips, I r317.1.TicketBook.Tally.Room, SL A321 r317.1.TicketBook.Tally.Counts.length c322, I r317.1.TicketBook.Fare, SL A323 r317.1.TicketBook.Tickets.length c324, SL A325 r317.1.TicketBook.Shows.length c326, SL A327 r317.1.TicketBook.Boxes.length c328] ++ (sg r317.1.shown_ 3 ++ [Value.map m329])), I r317.2]), (26, AG ([I r317.1.TicketBook.Tally.Trips, I r317.1.TicketBook.Tally.Room, SL A321 r317.1.TicketBook.Tally.Counts.length c322, I r317.1.TicketBook.Fare, SL A323 r317.1.TicketBook.Tickets.length c324, SL A325 r317.1.TicketBook.Shows.length c326, SL A327 r317.1.TicketBook.Boxes.length c328] ++ (sg r317.1.shown_ 3 ++ [Value.map m329])))] ⟨((hf400 4 rfl).trans (rfl : _ = P b18 0)), ((hf400 5 rfl).trans (rfl : _ = P b21 0)), ((hf400 6 rfl).trans (rfl : _ = P b24 0)), q422, q420, q421, trivial⟩ ?_
    intro g431
    refine p_stP (pre := []) (old := [I 0, I 0, SL none 0 0, I 0, SL none 0 0, SL none 0 0, SL none 0 0] ++ (sg (List.replicate 3 0) 3 ++ [Value.map none])) (post := []) (vs := [I r317.1.TicketBook.Tally.Trips, I r317.1.TicketBook.Tally.Room, SL A321 r317.1.TicketBook.Tally.Counts.length c322, I r317.1.TicketBook.Fare, SL A323 r317.1.TicketBook.Tickets.length c324, SL A325 r317.1.TicketBook.Shows.length c326, SL A327 r317.1.TicketBook.Boxes.length c328] ++ (sg r317.1.shown_ 3 ++ [Value.map m329])) sz92 S430 (i := 0) rfl rfl rfl rfl (rfl : _ = AG ([I r317.1.TicketBook.Tally.Trips, I r317.1.TicketBook.Tally.Room, SL A321 r317.1.TicketBook.Tally.Counts.length c322, I r317.1.TicketBook.Fare, SL A323 r317.1.TicketBook.Tickets.length c324, SL A325 r317.1.TicketBook.Shows.length c326, SL A327 r317.1.TicketBook.Boxes.length c328] ++ (sg r317.1.shown_ 3 ++ [Value.map m329]))) rfl rfl rfl rfl fun w432 S433 => ?_
    try clear S430
    refine p_ext rfl rfl <| p_aI rfl <| wp_nil ?_
    have S434 := S433.pk [0, 1, 2, 3] (by decide) [4, 3, 2, 1, 0, 5, 6, 7, 8, 9, 10] rfl rfl
    try clear S433
    exact ⟨(r317.1.TicketBook.Tally.Trips, r317.1.TicketBook.Tally.Room, r317.1.TicketBook.Tally.Counts, r317.1.TicketBook.Fare, r317.1.TicketBook.Tickets, r317.1.TicketBook.Shows, r317.1.TicketBook.Boxes, r317.1.shown_, r317.1.by_, r317.2), (b352, A321, c322, A323, c324, A325, c326, A327, c328, m329), _, rfl, ⟨rfl, rfl, rfl, rfl, rfl, trivial⟩, H, S434⟩
 ·intro z_1 y_1 e27 w28 S29; obtain ⟨H, S29⟩ := S29
  unfold ticket_Paid_j1 at H
  refine c_seq <| c_seq <| reg <| p_mI rfl <| p_cmp rfl rfl rfl <| wp_nil ?_
  refine c_cond rfl (fun c30 => ?_) (fun c30 => ?_)
  ·replace H := condT c30 H
   refine c_seq <| reg <| p_bld (cs := [I 0, I 0]) st49 (rfl : _ = []) (by kernel_rfl) <| p_mI rfl <| p_stP (pre := []) (old := [I 0, I 0]) (post := []) (vs := [I 0, I 0]) sz49 S29 (i := 1) rfl rfl rfl rfl (rfl : _ = AG [I 0, I 0]) rfl rfl rfl rfl fun w31 S32 => p_aI rfl <| wp_nil ?_
   have S33 : St w (fun _ => False) w31 [bl b24 [I 0, I 0] 49] [rd eTallyCount 7 y_1.2.1 y_1.2.2.1 z_1.2.2.1, rd eTicketSeason 2 y_1.2.2.2.1 y_1.2.2.2.2.1 z_1.2.2.2.2.1, rd eTicketShow 3 y_1.2.2.2.2.2.1 y_1.2.2.2.2.2.2.1 z_1.2.2.2.2.2.1, rd eTicketBox 4 y_1.2.2.2.2.2.2.2.1 y_1.2.2.2.2.2.2.2.2.1 z_1.2.2.2.2.2.2.1, mpo ekS iE y_1.2.2.2.2.2.2.2.2.2 z_1.2.2.2.2.2.2.2.2.1, gW0, gW2] := S32.pk [1] (by decide) [0, 1, 2, 3, 4, 9, 10] rfl rfl
   try clear S32
   obtain rfl := Option.some.inj H
   refine c_ret ?_; show bodyPostM (Fr none) 0 Tryd.prog Tryd.f22 _ .ret _ _
   refine ret_of (res2 rfl (rvA rfl ty49 sz49 (S33.atX (i := 0) rfl) rfl) (rvT (rfl : _ = I z_1.2.2.2.2.2.2.2.2.2))) ?_
   exact ⟨_, rfl, rfl, S33.keep⟩
  ·replace H := condF c30 H
   refine c_skip <| c_seq <| reg <| p_ldA ty92 sz92 (S29.atX (i := 0) rfl) rfl rfl ?_
   refine o_fun (rfl : _ = []) (rfl : _ = [P b18 0, P b21 0]) ?_
   obtain ⟨r35, h36, H⟩ := bindS H
   refine p_cv (ticket_book_span_ok h36 (S29.atP (i := 0) rfl) (S29.atP (i := 1) rfl) (S29.atP (i := 2) rfl) (S29.atP (i := 3) rfl) (S29.atP (i := 4) rfl) (by kernel_rfl) (fun _ _ _ k_ hr_ => ticket_Paid_1_ok hr_ (Asr.stays (S29.atX (i := 2) rfl) k_) (Asr.stays (S29.atX (i := 3) rfl) k_)) (S29.atP (i := 9) rfl) (S29.atP (i := 10) rfl)) fu60 rfl S29 fun w37 S38 => ?_
   try clear S29
   refine p_stP (pre := []) (old := [I 0, I 0]) (post := []) (vs := [I r35.Low, I r35.High]) sz49 S38 (i := 1) rfl rfl rfl rfl (rfl : _ = AG [I r35.Low, I r35.High]) rfl rfl rfl rfl fun w39 S40 => ?_
   try clear S38
   refine p_aI rfl <| wp_nil ?_
   have S41 : St w (fun _ => False) w39 [bl b24 [I r35.Low, I r35.High] 49] [gW0, gW2] := S40.pk [1] (by decide) [9, 10] rfl rfl
   try clear S40
   obtain rfl := Option.some.inj H
   refine c_ret ?_; show bodyPostM (Fr none) 0 Tryd.prog Tryd.f22 _ .ret _ _
   refine ret_of (res2 rfl (rvA rfl ty49 sz49 (S41.atX (i := 0) rfl) rfl) (rvT (rfl : _ = I 0))) ?_
   exact ⟨_, rfl, rfl, S41.keep⟩

def ticket_used_l4 (a0 : TicketBook) (a2 : Int) (r27 : Ticket_book × Int) (a1 : Int) (rec_z_1 : ((List Int) × Int) → Option ((List Int) × Int)) (z_1 : (List Int) × Int) : Option ((List Int) × Int) :=
  bif decide (z_1.2 < (a0.Tickets.length : Int)) then (need (inI a2 2) <|
  bif a2 == 0 then ((ticket_book_always r27.1 z_1.2 a1).bind fun r115 =>
  bif r115 then (need (fitsL (z_1.1.length + ([z_1.2] : List Int).length) 8) <|
  rec_z_1 (z_1.1 ++ ([z_1.2] : List Int), wr (z_1.2 + 1)))
  else (rec_z_1 (z_1.1, wr (z_1.2 + 1))))
  else ((ticket_book_sometimes r27.1 z_1.2 a1).bind fun r132 =>
  bif r132 then (need (fitsL (z_1.1.length + ([z_1.2] : List Int).length) 8) <|
  rec_z_1 (z_1.1 ++ ([z_1.2] : List Int), wr (z_1.2 + 1)))
  else (rec_z_1 (z_1.1, wr (z_1.2 + 1)))))
  else (some (z_1.1, 0))

def ticket_used_l5 (a0 : TicketBook) (a2 : Int) (r27 : Ticket_book × Int) (a1 : Int) (rec_z_1 : ((List Int) × Int) → Option ((List Int) × Int)) (z_1 : (List Int) × Int) : Option ((List Int) × Int) :=
  bif decide (z_1.2 < (a0.Tickets.length : Int)) then (need (inI a2 2) <|
  bif a2 == 0 then ((ticket_book_always r27.1 z_1.2 a1).bind fun r199 =>
  bif r199 then (need (fitsL (z_1.1.length + ([z_1.2] : List Int).length) 8) <|
  rec_z_1 (z_1.1 ++ ([z_1.2] : List Int), wr (z_1.2 + 1)))
  else (rec_z_1 (z_1.1, wr (z_1.2 + 1))))
  else ((ticket_book_sometimes r27.1 z_1.2 a1).bind fun r216 =>
  bif r216 then (need (fitsL (z_1.1.length + ([z_1.2] : List Int).length) 8) <|
  rec_z_1 (z_1.1 ++ ([z_1.2] : List Int), wr (z_1.2 + 1)))
  else (rec_z_1 (z_1.1, wr (z_1.2 + 1)))))
  else (some (z_1.1, 0))

def ticket_used (a0 : TicketBook) (a1 : Int) (a2 : Int) : Option ((List Int) × Int) :=
  (ticket_isTrip a0 a1).bind fun r21 =>
  (ticket_asked a0 r21).bind fun r27 =>
  bif (r27.2 != 0) then (some (([] : List _), r27.2))
  else (loopF (ticket_used_l4 a0 a2 r27 a1) big (([] : List Int), 0))

set_option maxHeartbeats 10000000 in
set_option maxRecDepth 100000 in
theorem ticket_used_ok {a0 : TicketBook} {a1 : Int} {a2 : Int} {A1 : Option Addr} {c2 : Nat} {A4 : Option Addr} {c5 : Nat} {A7 : Option Addr} {c8 : Nat} {A10 : Option Addr} {c11 : Nat} {w : World} {r : (List Int) × Int} (H : ticket_used a0 a1 a2 = some r) (h3 : (rd eTallyCount 7 A1 c2 a0.Tally.Counts).ok w) (h6 : (rd eTicketSeason 2 A4 c5 a0.Tickets).ok w) (h9 : (rd eTicketShow 3 A7 c8 a0.Shows).ok w) (h12 : (rd eTicketBox 4 A10 c11 a0.Boxes).ok w) (hg13 : (gW0).ok w) (hg14 : (gW1).ok w) (hg15 : (gW2).ok w) : Calls Tryd.prog 63 #[AG [I a0.Tally.Trips, I a0.Tally.Room, SL A1 a0.Tally.Counts.length c2, I a0.Fare, SL A4 a0.Tickets.length c5, SL A7 a0.Shows.length c8, SL A10 a0.Boxes.length c11], I a1, I a2] w fun en w_ => ∃ u_, en = .returned u_ ∧ ∃ A_1 : Option Addr, ∃ c_2 : Nat, u_ = TU [SL A_1 r.1.length c_2, I r.2] ∧ Keep0 w w_ ∧ ((rd intE 1 A_1 c_2 r.1).ok w_ ∧ New w.heap.size (rd intE 1 A_1 c_2 r.1)) ∧ True := by
 unfold ticket_used at H
 refine fn_of (n := 47) Tryd.func63 rfl rfl (lE rfl) ?_
 have S : St w (fun _ => False) w [] [rd eTallyCount 7 A1 c2 a0.Tally.Counts, rd eTicketSeason 2 A4 c5 a0.Tickets, rd eTicketShow 3 A7 c8 a0.Shows, rd eTicketBox 4 A10 c11 a0.Boxes, gW0, gW1, gW2] := St.start w _ _ (fA ⟨h3, (fA ⟨h6, (fA ⟨h9, (fA ⟨h12, (fA ⟨hg13, (fA ⟨hg14, (fA ⟨hg15, nM⟩)⟩)⟩)⟩)⟩)⟩)⟩)
 refine c_seq <| reg <| p_boxA rfl S fun b16 w17 S18 => p_aS rfl <| p_aI rfl <| wp_nil <| c_seq ?_
 obtain ⟨r21, h22, H⟩ := bindS H
 obtain ⟨r27, h28, H⟩ := bindS H
 have A_ : ∀ {w_ : World}, Keep0 w17 w_ → St w_ (fun _ => False) w_ [] [bl b16 [I a0.Tally.Trips, I a0.Tally.Room, SL A1 a0.Tally.Counts.length c2, I a0.Fare, SL A4 a0.Tickets.length c5, SL A7 a0.Shows.length c8, SL A10 a0.Boxes.length c11] 29, rd eTallyCount 7 A1 c2 a0.Tally.Counts, rd eTicketSeason 2 A4 c5 a0.Tickets, rd eTicketShow 3 A7 c8 a0.Shows, rd eTicketBox 4 A10 c11 a0.Boxes, gW0, gW1, gW2] := fun k_ => S18.asP k_
 refine reg_fl mixed 9 7 (by kernel_rfl) [rv (AG [I a0.Tally.Trips, I a0.Tally.Room, SL A1 a0.Tally.Counts.length c2, I a0.Fare, SL A4 a0.Tickets.length c5, SL A7 a0.Shows.length c8, SL A10 a0.Boxes.length c11]), rv (AG [I a0.Tally.Trips, I a0.Tally.Room, SL A1 a0.Tally.Counts.length c2, I a0.Fare, SL A4 a0.Tickets.length c5, SL A7 a0.Shows.length c8, SL A10 a0.Boxes.length c11]), rv (I a1), rv (B r21), rx (α := (Option Addr) × Nat × (Option Addr) × Nat × (Option Addr) × Nat × (Option Addr) × Nat × (Option Nat)) (fun ⟨A31, c32, A33, c34, A35, c36, A37, c38, m39⟩ => TU [AG ([I r27.1.TicketBook.Tally.Trips, I r27.1.TicketBook.Tally.Room, SL A31 r27.1.TicketBook.Tally.Counts.length c32, I r27.1.TicketBook.Fare, SL A33 r27.1.TicketBook.Tickets.length c34, SL A35 r27.1.TicketBook.Shows.length c36, SL A37 r27.1.TicketBook.Boxes.length c38] ++ (sg r27.1.shown_ 3 ++ [Value.map m39])), I r27.2]) (fun ⟨A31, c32, A33, c34, A35, c36, A37, c38, m39⟩ lo hi => BtwL lo hi [rd eTallyCount 7 A1 c2 a0.Tally.Counts, rd eTicketSeason 2 A4 c5 a0.Tickets, rd eTicketShow 3 A7 c8 a0.Shows, rd eTicketBox 4 A10 c11 a0.Boxes] (rd eTallyCount 7 A31 c32 r27.1.TicketBook.Tally.Counts) ∧ BtwL lo hi [rd eTallyCount 7 A1 c2 a0.Tally.Counts, rd eTicketSeason 2 A4 c5 a0.Tickets, rd eTicketShow 3 A7 c8 a0.Shows, rd eTicketBox 4 A10 c11 a0.Boxes] (rd eTicketSeason 2 A33 c34 r27.1.TicketBook.Tickets) ∧ BtwL lo hi [] (rd eTicketShow 3 A35 c36 r27.1.TicketBook.Shows) ∧ BtwL lo hi [] (rd eTicketBox 4 A37 c38 r27.1.TicketBook.Boxes) ∧ BtwL lo hi [] (mpo ekS iE m39 r27.1.by_) ∧ True) (fun ⟨A31, c32, A33, c34, A35, c36, A37, c38, m39⟩ => [rd eTallyCount 7 A31 c32 r27.1.TicketBook.Tally.Counts, rd eTicketSeason 2 A33 c34 r27.1.TicketBook.Tickets, rd eTicketShow 3 A35 c36 r27.1.TicketBook.Shows, rd eTicketBox 4 A37 c38 r27.1.TicketBook.Boxes, mpo ekS iE m39 r27.1.by_]), dv 17 some, dv 12 (exG 0), dv 12 (exG 1), rx (α := Nat) (fun b62 => P b62 0) (fun b62 lo hi => BtwL lo hi [] (bl b62 ([I 0, I 0, SL none 0 0, I 0, SL none 0 0, SL none 0 0, SL none 0 0] ++ (sg (List.replicate 3 0) 3 ++ [Value.map none])) 92) ∧ True) (fun b62 => [bl b62 ([I 0, I 0, SL none 0 0, I 0, SL none 0 0, SL none 0 0, SL none 0 0] ++ (sg (List.replicate 3 0) 3 ++ [Value.map none])) 92])] [[], [], [], [], [], [17], [12], [12], []] rfl (by kernel_rfl) [[], [], [], [1, 2], [0, 1, 2, 3], [0, 1, 2, 3, 4], [0, 1, 2, 3, 4, 5], [0, 1, 2, 3, 4, 5], [], [0, 1, 2, 3, 4, 5, 6, 8], [0, 1, 2, 3, 4, 5, 6, 7, 8, 9]] (by kernel_rfl) ⟨?_, ?_, ?_, ?_, ?_, ?_, ?_, ?_, ?_, trivial⟩ ?_ ?_
 ·intro e_ w_ k_ hf_ hR_
  have S_ := @A_ _ k_
  refine hopE [(3, P b16 0)] ⟨((hf_ 3 rfl).trans (rfl : _ = P b16 0)), trivial⟩ ?_
  refine p_ldA ty29 sz29 (S_.atP (i := 0) rfl) rfl rfl <| wp_nil ?_
  exact ⟨_, rfl, S_.keep, rfl⟩
 ·intro e_ w_ k_ hf_ hR_
  have S_ := @A_ _ k_
  refine hopE [(3, P b16 0)] ⟨((hf_ 3 rfl).trans (rfl : _ = P b16 0)), trivial⟩ ?_
  refine p_ldA ty29 sz29 (S_.atP (i := 0) rfl) rfl rfl <| wp_nil ?_
  exact ⟨_, rfl, S_.keep, rfl⟩
 ·intro e_ w_ k_ hf_ hR_
  refine hopE [(1, I a1)] ⟨((hf_ 1 rfl).trans (rfl : _ = I a1)), trivial⟩ ?_
  refine p_mI rfl <| wp_nil ?_
  exact ⟨_, rfl, Keep.refl _ _, rfl⟩
 ·intro e_ w_ k_ hf_ hR_
  have S_ := @A_ _ k_
  obtain ⟨_, _, _, _, q19⟩ := hR_ 1 14 rfl (lE rfl) rfl
  obtain ⟨_, _, _, _, q20⟩ := hR_ 2 15 rfl (lE rfl) rfl
  refine hopE [(14, AG [I a0.Tally.Trips, I a0.Tally.Room, SL A1 a0.Tally.Counts.length c2, I a0.Fare, SL A4 a0.Tickets.length c5, SL A7 a0.Shows.length c8, SL A10 a0.Boxes.length c11]), (15, I a1)] ⟨q19, q20, trivial⟩ ?_
  refine p_cv (ticket_isTrip_ok h22 (S_.atP (i := 1) rfl) (S_.atP (i := 2) rfl) (S_.atP (i := 3) rfl) (S_.atP (i := 4) rfl)) fu59 rfl S_ fun w23 S24 => wp_nil ?_
  exact ⟨_, rfl, S24.keep, rfl⟩
 ·intro e_ w_ k_ hf_ hR_
  have S_ := @A_ _ k_
  obtain ⟨_, _, _, _, q25⟩ := hR_ 0 13 rfl (lE rfl) rfl
  obtain ⟨_, _, _, _, q26⟩ := hR_ 3 16 rfl (lE rfl) rfl
  refine hopE [(13, AG [I a0.Tally.Trips, I a0.Tally.Room, SL A1 a0.Tally.Counts.length c2, I a0.Fare, SL A4 a0.Tickets.length c5, SL A7 a0.Shows.length c8, SL A10 a0.Boxes.length c11]), (16, B r21)] ⟨q25, q26, trivial⟩ ?_
  refine p_cal (ticket_asked_ok h28 (S_.atP (i := 1) rfl) (S_.atP (i := 2) rfl) (S_.atP (i := 3) rfl) (S_.atP (i := 4) rfl) (S_.atP (i := 5) rfl) (S_.atP (i := 7) rfl)) fu58 rfl ?_
  rintro _ w29 ⟨A31, c32, A33, c34, A35, c36, A37, c38, m39, rfl, k30, ⟨o40, n41⟩, ⟨o42, n43⟩, ⟨o44, n45⟩, ⟨o46, n47⟩, ⟨o48, n49⟩, _⟩
  have S50 := S_.callN k30 [rd eTallyCount 7 A31 c32 r27.1.TicketBook.Tally.Counts, rd eTicketSeason 2 A33 c34 r27.1.TicketBook.Tickets, rd eTicketShow 3 A35 c36 r27.1.TicketBook.Shows, rd eTicketBox 4 A37 c38 r27.1.TicketBook.Boxes, mpo ekS iE m39 r27.1.by_] (fA ⟨⟨o40, Al.inL n41 ((fA ⟨(fp_mem (i := 1) rfl), (fA ⟨(fp_mem (i := 2) rfl), (fA ⟨(fp_mem (i := 3) rfl), (fA ⟨(fp_mem (i := 4) rfl), nM⟩)⟩)⟩)⟩))⟩, (fA ⟨⟨o42, Al.inL n43 ((fA ⟨(fp_mem (i := 1) rfl), (fA ⟨(fp_mem (i := 2) rfl), (fA ⟨(fp_mem (i := 3) rfl), (fA ⟨(fp_mem (i := 4) rfl), nM⟩)⟩)⟩)⟩))⟩, (fA ⟨⟨o44, New.inL n45⟩, (fA ⟨⟨o46, New.inL n47⟩, (fA ⟨⟨o48, New.inL n49⟩, nM⟩)⟩)⟩)⟩)⟩)
  refine wp_nil ?_
  exact ⟨_, rfl, S50.keep, ⟨(A31, c32, A33, c34, A35, c36, A37, c38, m39), rfl, ⟨BtwL.of n41 rfl (S50.atP (i := 0) rfl) rfl, BtwL.of n43 rfl (S50.atP (i := 1) rfl) rfl, BtwL.of (New.al (New.mono n45 S_.keep.size)) rfl (S50.atP (i := 2) rfl) rfl, BtwL.of (New.al (New.mono n47 S_.keep.size)) rfl (S50.atP (i := 3) rfl) rfl, BtwL.of (New.al (New.mono n49 S_.keep.size)) rfl (S50.atP (i := 4) rfl) rfl, trivial⟩, (fA ⟨(S50.atP (i := 0) rfl), (fA ⟨(S50.atP (i := 1) rfl), (fA ⟨(S50.atP (i := 2) rfl), (fA ⟨(S50.atP (i := 3) rfl), (fA ⟨(S50.atP (i := 4) rfl), nM⟩)⟩)⟩)⟩)⟩)⟩⟩
 ·intro e_ w_ k_ hf_ hR_
  have S_ := @A_ _ k_
  obtain ⟨_, _, _, _, ⟨A31, c32, A33, c34, A35, c36, A37, c38, m39⟩, q51, p52, a53⟩ := hR_ 4 17 rfl (lE rfl) rfl
  replace q51 : e_ 17 = TU [AG ([I r27.1.TicketBook.Tally.Trips, I r27.1.TicketBook.Tally.Room, SL A31 r27.1.TicketBook.Tally.Counts.length c32, I r27.1.TicketBook.Fare, SL A33 r27.1.TicketBook.Tickets.length c34, SL A35 r27.1.TicketBook.Shows.length c36, SL A37 r27.1.TicketBook.Boxes.length c38] ++ (sg r27.1.shown_ 3 ++ [Value.map m39])), I r27.2] := q51
  have S_ := St.addL' S_ (a53 _ (.head _)) (fun _ _ _ h_ => (List.not_mem_nil h_).elim)
  have S_ := St.addL' S_ (a53 _ (.tail _ (.head _))) (fun _ _ _ h_ => (List.not_mem_nil h_).elim)
  have S_ := St.addL' S_ (a53 _ (.tail _ (.tail _ (.head _)))) (fun _ _ _ h_ => (List.not_mem_nil h_).elim)
  have S_ := St.addL' S_ (a53 _ (.tail _ (.tail _ (.tail _ (.head _))))) (fun _ _ _ h_ => (List.not_mem_nil h_).elim)
  have S_ := St.addL' S_ (a53 _ (.tail _ (.tail _ (.tail _ (.tail _ (.head _)))))) (fun _ _ _ h_ => (List.not_mem_nil h_).elim)
  refine hopE [(17, TU [AG ([I r27.1.TicketBook.Tally.Trips, I r27.1.TicketBook.Tally.Room, SL A31 r27.1.TicketBook.Tally.Counts.length c32, I r27.1.TicketBook.Fare, SL A33 r27.1.TicketBook.Tickets.length c34, SL A35 r27.1.TicketBook.Shows.length c36, SL A37 r27.1.TicketBook.Boxes.length c38] ++ (sg r27.1.shown_ 3 ++ [Value.map m39])), I r27.2])] ⟨q51, trivial⟩ ?_
  refine p_mT rfl <| wp_nil ?_
  exact ⟨_, rfl, S_.keep, rfl⟩
 ·intro e_ w_ k_ hf_ hR_
  have S_ := @A_ _ k_
  obtain ⟨_, _, _, _, ⟨A31, c32, A33, c34, A35, c36, A37, c38, m39⟩, q55, p56, a57⟩ := hR_ 4 17 rfl (lE rfl) rfl
  replace q55 : e_ 17 = TU [AG ([I r27.1.TicketBook.Tally.Trips, I r27.1.TicketBook.Tally.Room, SL A31 r27.1.TicketBook.Tally.Counts.length c32, I r27.1.TicketBook.Fare, SL A33 r27.1.TicketBook.Tickets.length c34, SL A35 r27.1.TicketBook.Shows.length c36, SL A37 r27.1.TicketBook.Boxes.length c38] ++ (sg r27.1.shown_ 3 ++ [Value.map m39])), I r27.2] := q55
  have S_ := St.addL' S_ (a57 _ (.head _)) (fun _ _ _ h_ => (List.not_mem_nil h_).elim)
  have S_ := St.addL' S_ (a57 _ (.tail _ (.head _))) (fun _ _ _ h_ => (List.not_mem_nil h_).elim)
  have S_ := St.addL' S_ (a57 _ (.tail _ (.tail _ (.head _)))) (fun _ _ _ h_ => (List.not_mem_nil h_).elim)
  have S_ := St.addL' S_ (a57 _ (.tail _ (.tail _ (.tail _ (.head _))))) (fun _ _ _ h_ => (List.not_mem_nil h_).elim)
  have S_ := St.addL' S_ (a57 _ (.tail _ (.tail _ (.tail _ (.tail _ (.head _)))))) (fun _ _ _ h_ => (List.not_mem_nil h_).elim)
  obtain ⟨_, _, _, _, q54⟩ := hR_ 5 12 rfl (lE rfl) rfl
  replace q54 : e_ 12 = TU [AG ([I r27.1.TicketBook.Tally.Trips, I r27.1.TicketBook.Tally.Room, SL A31 r27.1.TicketBook.Tally.Counts.length c32, I r27.1.TicketBook.Fare, SL A33 r27.1.TicketBook.Tickets.length c34, SL A35 r27.1.TicketBook.Shows.length c36, SL A37 r27.1.TicketBook.Boxes.length c38] ++ (sg r27.1.shown_ 3 ++ [Value.map m39])), I r27.2] := (Option.some.inj ((congrArg some q55).symm.trans q54)).symm
  refine hopE [(12, TU [AG ([I r27.1.TicketBook.Tally.Trips, I r27.1.TicketBook.Tally.Room, SL A31 r27.1.TicketBook.Tally.Counts.length c32, I r27.1.TicketBook.Fare, SL A33 r27.1.TicketBook.Tickets.length c34, SL A35 r27.1.TicketBook.Shows.length c36, SL A37 r27.1.TicketBook.Boxes.length c38] ++ (sg r27.1.shown_ 3 ++ [Value.map m39])), I r27.2])] ⟨q54, trivial⟩ ?_
  refine p_ext rfl rfl <| wp_nil ?_
  exact ⟨_, rfl, S_.keep, rfl⟩
 ·intro e_ w_ k_ hf_ hR_
  have S_ := @A_ _ k_
  obtain ⟨_, _, _, _, ⟨A31, c32, A33, c34, A35, c36, A37, c38, m39⟩, q59, p60, a61⟩ := hR_ 4 17 rfl (lE rfl) rfl
  replace q59 : e_ 17 = TU [AG ([I r27.1.TicketBook.Tally.Trips, I r27.1.TicketBook.Tally.Room, SL A31 r27.1.TicketBook.Tally.Counts.length c32, I r27.1.TicketBook.Fare, SL A33 r27.1.TicketBook.Tickets.length c34, SL A35 r27.1.TicketBook.Shows.length c36, SL A37 r27.1.TicketBook.Boxes.length c38] ++ (sg r27.1.shown_ 3 ++ [Value.map m39])), I r27.2] := q59
  have S_ := St.addL' S_ (a61 _ (.head _)) (fun _ _ _ h_ => (List.not_mem_nil h_).elim)
  have S_ := St.addL' S_ (a61 _ (.tail _ (.head _))) (fun _ _ _ h_ => (List.not_mem_nil h_).elim)
  have S_ := St.addL' S_ (a61 _ (.tail _ (.tail _ (.head _)))) (fun _ _ _ h_ => (List.not_mem_nil h_).elim)
  have S_ := St.addL' S_ (a61 _ (.tail _ (.tail _ (.tail _ (.head _))))) (fun _ _ _ h_ => (List.not_mem_nil h_).elim)
  have S_ := St.addL' S_ (a61 _ (.tail _ (.tail _ (.tail _ (.tail _ (.head _)))))) (fun _ _ _ h_ => (List.not_mem_nil h_).elim)
  obtain ⟨_, _, _, _, q58⟩ := hR_ 5 12 rfl (lE rfl) rfl
  replace q58 : e_ 12 = TU [AG ([I r27.1.TicketBook.Tally.Trips, I r27.1.TicketBook.Tally.Room, SL A31 r27.1.TicketBook.Tally.Counts.length c32, I r27.1.TicketBook.Fare, SL A33 r27.1.TicketBook.Tickets.length c34, SL A35 r27.1.TicketBook.Shows.length c36, SL A37 r27.1.TicketBook.Boxes.length c38] ++ (sg r27.1.shown_ 3 ++ [Value.map m39])), I r27.2] := (Option.some.inj ((congrArg some q59).symm.trans q58)).symm
  refine hopE [(12, TU [AG ([I r27.1.TicketBook.Tally.Trips, I r27.1.TicketBook.Tally.Room, SL A31 r27.1.TicketBook.Tally.Counts.length c32, I r27.1.TicketBook.Fare, SL A33 r27.1.TicketBook.Tickets.length c34, SL A35 r27.1.TicketBook.Shows.length c36, SL A37 r27.1.TicketBook.Boxes.length c38] ++ (sg r27.1.shown_ 3 ++ [Value.map m39])), I r27.2])] ⟨q58, trivial⟩ ?_
  refine p_ext rfl rfl <| wp_nil ?_
  exact ⟨_, rfl, S_.keep, rfl⟩
 ·intro e_ w_ k_ hf_ hR_
  have S_ := @A_ _ k_
  refine hopE [] trivial ?_
  refine p_allA in92 S_ fun b62 w63 S64 => wp_nil ?_
  exact ⟨_, rfl, S64.keep, ⟨b62, rfl, ⟨BtwL.of (New.al (S64.newX (i := 0) rfl)) rfl (S64.atX (i := 0) rfl) rfl, trivial⟩, (fA ⟨(S64.atX (i := 0) rfl), nM⟩)⟩⟩
 ·intro e65 w66 lo67 hi68 k69 hf70 hR71 hd72
  have S73 := S18.call k69
  obtain ⟨h75, h76, h77, ⟨A31, c32, A33, c34, A35, c36, A37, c38, m39⟩, q74, h78, h79⟩ := hR71 4 17 (lE rfl) rfl
  replace q74 : e65 17 = TU [AG ([I r27.1.TicketBook.Tally.Trips, I r27.1.TicketBook.Tally.Room, SL A31 r27.1.TicketBook.Tally.Counts.length c32, I r27.1.TicketBook.Fare, SL A33 r27.1.TicketBook.Tickets.length c34, SL A35 r27.1.TicketBook.Shows.length c36, SL A37 r27.1.TicketBook.Boxes.length c38] ++ (sg r27.1.shown_ 3 ++ [Value.map m39])), I r27.2] := q74
  obtain ⟨p80, p81, p82, p83, p84, _⟩ := h78
  have S85 := St.addR S73 (h79 _ (.head _)) (fun b_ h_ x_ hx_ hb_ => (p80 b_ h_).elim (fun q_ => by have := x_.inb _ _ (S18.xs x_ hx_) hb_; omega) (fun ⟨q_, hq_, hqb_⟩ => S18.dp x_ hx_ q_ ((fA ⟨List.mem_of_getElem? (i := 0) rfl, (fA ⟨List.mem_of_getElem? (i := 1) rfl, (fA ⟨List.mem_of_getElem? (i := 2) rfl, (fA ⟨List.mem_of_getElem? (i := 3) rfl, nM⟩)⟩)⟩)⟩) q_ hq_) b_ hb_ hqb_))
  try clear S73
  have S86 := St.addR S85 (h79 _ (.tail _ (.head _))) (fun b_ h_ x_ hx_ hb_ => (p81 b_ h_).elim (fun q_ => by have := x_.inb _ _ (S18.xs x_ hx_) hb_; omega) (fun ⟨q_, hq_, hqb_⟩ => S18.dp x_ hx_ q_ ((fA ⟨List.mem_of_getElem? (i := 0) rfl, (fA ⟨List.mem_of_getElem? (i := 1) rfl, (fA ⟨List.mem_of_getElem? (i := 2) rfl, (fA ⟨List.mem_of_getElem? (i := 3) rfl, nM⟩)⟩)⟩)⟩) q_ hq_) b_ hb_ hqb_))
  try clear S85
  have S87 := St.addR S86 (h79 _ (.tail _ (.tail _ (.head _)))) (fun b_ h_ x_ hx_ hb_ => (p82 b_ h_).elim (fun q_ => by have := x_.inb _ _ (S18.xs x_ hx_) hb_; omega) (fun ⟨q_, hq_, hqb_⟩ => S18.dp x_ hx_ q_ ((nM) q_ hq_) b_ hb_ hqb_))
  try clear S86
  have S88 := St.addR S87 (h79 _ (.tail _ (.tail _ (.tail _ (.head _))))) (fun b_ h_ x_ hx_ hb_ => (p83 b_ h_).elim (fun q_ => by have := x_.inb _ _ (S18.xs x_ hx_) hb_; omega) (fun ⟨q_, hq_, hqb_⟩ => S18.dp x_ hx_ q_ ((nM) q_ hq_) b_ hb_ hqb_))
  try clear S87
  have S89 := St.addR S88 (h79 _ (.tail _ (.tail _ (.tail _ (.tail _ (.head _)))))) (fun b_ h_ x_ hx_ hb_ => (p84 b_ h_).elim (fun q_ => by have := x_.inb _ _ (S18.xs x_ hx_) hb_; omega) (fun ⟨q_, hq_, hqb_⟩ => S18.dp x_ hx_ q_ ((nM) q_ hq_) b_ hb_ hqb_))
  try clear S88
  have q90 : e65 12 = TU [AG ([I r27.1.TicketBook.Tally.Trips, I r27.1.TicketBook.Tally.Room, SL A31 r27.1.TicketBook.Tally.Counts.length c32, I r27.1.TicketBook.Fare, SL A33 r27.1.TicketBook.Tickets.length c34, SL A35 r27.1.TicketBook.Shows.length c36, SL A37 r27.1.TicketBook.Boxes.length c38] ++ (sg r27.1.shown_ 3 ++ [Value.map m39])), I r27.2] := (Option.some.inj ((congrArg some q74).symm.trans (hR71 5 12 (lE rfl) rfl).2.2.2)).symm
  have q91 : e65 18 = AG ([I r27.1.TicketBook.Tally.Trips, I r27.1.TicketBook.Tally.Room, SL A31 r27.1.TicketBook.Tally.Counts.length c32, I r27.1.TicketBook.Fare, SL A33 r27.1.TicketBook.Tickets.length c34, SL A35 r27.1.TicketBook.Shows.length c36, SL A37 r27.1.TicketBook.Boxes.length c38] ++ (sg r27.1.shown_ 3 ++ [Value.map m39])) := (Option.some.inj ((congrArg (exG 0) q90).symm.trans (hR71 6 18 (lE rfl) rfl).2.2.2)).symm
  have q92 : e65 19 = I r27.2 := (Option.some.inj ((congrArg (exG 1) q90).symm.trans (hR71 7 19 (lE rfl) rfl).2.2.2)).symm
  obtain ⟨h94, h95, h96, b62, q93, h97, h98⟩ := hR71 8 8 (lE rfl) rfl
  replace q93 : e65 8 = P b62 0 := q93
  obtain ⟨p99, _⟩ := h97
  have S101 := St.addO S89 (h98 _ (.head _)) (fun b_ h_ => (p99 b_ h_).elim (fun q_ => Nat.le_trans S18.keep.size (Nat.le_trans h94 q_.1)) (fun ⟨_, hq_, _⟩ => (List.not_mem_nil hq_).elim)) (fA ⟨(fun b_ h1_ h2_ => (p99 b_ h1_).elim (fun q2_ => by have q1_ := Asr.inb _ _ _ (S18.atX (i := 0) rfl) h2_; omega) (fun ⟨_, hq_, _⟩ => (List.not_mem_nil hq_).elim)), nM⟩) (fA ⟨(fun b_ h1_ h2_ => (p99 b_ h1_).elim (fun q1_ => (p84 b_ h2_).elim (fun q2_ => by have q3_ := hd72 8 4 (lE rfl) (lE rfl) (by decide); omega) (fun ⟨q_, hq_, hqb_⟩ => by have q5_ := h94; have q4_ := Asr.inb _ _ _ (S18.ps q_ ((nM) q_ hq_)) hqb_; omega)) (fun ⟨_, hq_, _⟩ => (List.not_mem_nil hq_).elim)), (fA ⟨(fun b_ h1_ h2_ => (p99 b_ h1_).elim (fun q1_ => (p83 b_ h2_).elim (fun q2_ => by have q3_ := hd72 8 4 (lE rfl) (lE rfl) (by decide); omega) (fun ⟨q_, hq_, hqb_⟩ => by have q5_ := h94; have q4_ := Asr.inb _ _ _ (S18.ps q_ ((nM) q_ hq_)) hqb_; omega)) (fun ⟨_, hq_, _⟩ => (List.not_mem_nil hq_).elim)), (fA ⟨(fun b_ h1_ h2_ => (p99 b_ h1_).elim (fun q1_ => (p82 b_ h2_).elim (fun q2_ => by have q3_ := hd72 8 4 (lE rfl) (lE rfl) (by decide); omega) (fun ⟨q_, hq_, hqb_⟩ => by have q5_ := h94; have q4_ := Asr.inb _ _ _ (S18.ps q_ ((nM) q_ hq_)) hqb_; omega)) (fun ⟨_, hq_, _⟩ => (List.not_mem_nil hq_).elim)), (fA ⟨(fun b_ h1_ h2_ => (p99 b_ h1_).elim (fun q1_ => (p81 b_ h2_).elim (fun q2_ => by have q3_ := hd72 8 4 (lE rfl) (lE rfl) (by decide); omega) (fun ⟨q_, hq_, hqb_⟩ => by have q5_ := h94; have q4_ := Asr.inb _ _ _ (S18.ps q_ ((fA ⟨List.mem_of_getElem? (i := 0) rfl, (fA ⟨List.mem_of_getElem? (i := 1) rfl, (fA ⟨List.mem_of_getElem? (i := 2) rfl, (fA ⟨List.mem_of_getElem? (i := 3) rfl, nM⟩)⟩)⟩)⟩) q_ hq_)) hqb_; omega)) (fun ⟨_, hq_, _⟩ => (List.not_mem_nil hq_).elim)), (fA ⟨(fun b_ h1_ h2_ => (p99 b_ h1_).elim (fun q1_ => (p80 b_ h2_).elim (fun q2_ => by have q3_ := hd72 8 4 (lE rfl) (lE rfl) (by decide); omega) (fun ⟨q_, hq_, hqb_⟩ => by have q5_ := h94; have q4_ := Asr.inb _ _ _ (S18.ps q_ ((fA ⟨List.mem_of_getElem? (i := 0) rfl, (fA ⟨List.mem_of_getElem? (i := 1) rfl, (fA ⟨List.mem_of_getElem? (i := 2) rfl, (fA ⟨List.mem_of_getElem? (i := 3) rfl, nM⟩)⟩)⟩)⟩) q_ hq_)) hqb_; omega)) (fun ⟨_, hq_, _⟩ => (List.not_mem_nil hq_).elim)), (fA ⟨(fun b_ h1_ h2_ => (p99 b_ h1_).elim (fun q2_ => by have q1_ := Asr.inb _ _ _ (S18.atP (i := 0) rfl) h2_; omega) (fun ⟨_, hq_, _⟩ => (List.not_mem_nil hq_).elim)), (fA ⟨(fun b_ h1_ h2_ => (p99 b_ h1_).elim (fun q2_ => by have q1_ := Asr.inb _ _ _ (S18.atP (i := 1) rfl) h2_; omega) (fun ⟨_, hq_, _⟩ => (List.not_mem_nil hq_).elim)), (fA ⟨(fun b_ h1_ h2_ => (p99 b_ h1_).elim (fun q2_ => by have q1_ := Asr.inb _ _ _ (S18.atP (i := 2) rfl) h2_; omega) (fun ⟨_, hq_, _⟩ => (List.not_mem_nil hq_).elim)), (fA ⟨(fun b_ h1_ h2_ => (p99 b_ h1_).elim (fun q2_ => by have q1_ := Asr.inb _ _ _ (S18.atP (i := 3) rfl) h2_; omega) (fun ⟨_, hq_, _⟩ => (List.not_mem_nil hq_).elim)), (fA ⟨(fun b_ h1_ h2_ => (p99 b_ h1_).elim (fun q2_ => by have q1_ := Asr.inb _ _ _ (S18.atP (i := 4) rfl) h2_; omega) (fun ⟨_, hq_, _⟩ => (List.not_mem_nil hq_).elim)), (fA ⟨(fun b_ h1_ h2_ => (p99 b_ h1_).elim (fun q2_ => by have q1_ := Asr.inb _ _ _ (S18.atP (i := 5) rfl) h2_; omega) (fun ⟨_, hq_, _⟩ => (List.not_mem_nil hq_).elim)), (fA ⟨(fun b_ h1_ h2_ => (p99 b_ h1_).elim (fun q2_ => by have q1_ := Asr.inb _ _ _ (S18.atP (i := 6) rfl) h2_; omega) (fun ⟨_, hq_, _⟩ => (List.not_mem_nil hq_).elim)), nM⟩)⟩)⟩)⟩)⟩)⟩)⟩)⟩)⟩)⟩)⟩)⟩)
  try clear S89
  refine tailE [(1, I a1), (2, I a2), (3, P b16 0), (8, P b62 0), (18, AG ([I r27.1.TicketBook.Tally.Trips, I r27.1.TicketBook.Tally.Room, SL A31 r27.1.TicketBook.Tally.Counts.length c32, I r27.1.TicketBook.Fare, SL A33 r27.1.TicketBook.Tickets.length c34, SL A35 r27.1.TicketBook.Shows.length c36, SL A37 r27.1.TicketBook.Boxes.length c38] ++ (sg r27.1.shown_ 3 ++ [Value.map m39]))), (19, I r27.2)] ⟨((hf70 1 rfl).trans (rfl : _ = I a1)), ((hf70 2 rfl).trans (rfl : _ = I a2)), ((hf70 3 rfl).trans (rfl : _ = P b16 0)), q93, q91, q92, trivial⟩ ?_
  intro g102
  refine p_stP (pre := []) (old := [I 0, I 0, SL none 0 0, I 0, SL none 0 0, SL none 0 0, SL none 0 0] ++ (sg (List.replicate 3 0) 3 ++ [Value.map none])) (post := []) (vs := [I r27.1.TicketBook.Tally.Trips, I r27.1.TicketBook.Tally.Room, SL A31 r27.1.TicketBook.Tally.Counts.length c32, I r27.1.TicketBook.Fare, SL A33 r27.1.TicketBook.Tickets.length c34, SL A35 r27.1.TicketBook.Shows.length c36, SL A37 r27.1.TicketBook.Boxes.length c38] ++ (sg r27.1.shown_ 3 ++ [Value.map m39])) sz92 S101 (i := 0) rfl rfl rfl rfl (rfl : _ = AG ([I r27.1.TicketBook.Tally.Trips, I r27.1.TicketBook.Tally.Room, SL A31 r27.1.TicketBook.Tally.Counts.length c32, I r27.1.TicketBook.Fare, SL A33 r27.1.TicketBook.Tickets.length c34, SL A35 r27.1.TicketBook.Shows.length c36, SL A37 r27.1.TicketBook.Boxes.length c38] ++ (sg r27.1.shown_ 3 ++ [Value.map m39]))) rfl rfl rfl rfl fun w103 S104 => ?_
  try clear S101
  refine p_aI rfl <| wp_nil <| c_seq <| c_seq <| reg <| p_mI rfl <| p_cmp rfl rfl rfl <| wp_nil ?_
  refine c_cond rfl (fun c105 => ?_) (fun c105 => ?_)
  ·replace H := condT c105 H
   refine c_seq <| reg <| p_mI rfl <| p_aS rfl <| p_aI rfl <| wp_nil ?_
   obtain rfl := Option.some.inj H
   refine c_ret ?_; show bodyPostM (Fr none) 0 Tryd.prog Tryd.f63 _ .ret _ _
   refine ret_of (res2 rfl (rvT (rfl : _ = SL none 0 0)) (rvT (rfl : _ = I r27.2))) ?_
   exact ⟨_, rfl, none, 0, rfl, S104.keep, ⟨rd_nil (Nat.zero_le _), New.nil⟩, trivial⟩
  ·replace H := condF c105 H
   refine c_skip <| c_seq <| reg <| p_aS rfl <| wp_nil <| c_seq <| c_seq <| reg <| p_fld fl29_2 rfl <| p_ld ty25 (S104.atX (i := 1) rfl) rfl rfl <| p_len rfl sc25 <| p_mI rfl <| wp_nil <| c_block ?_
   have S106 := S104.nilRow intE 1 3
   try clear S104
   have S107 := S106.pk [0, 1] (by decide) [0, 1, 2, 3, 4, 5, 6, 7, 8, 9, 10, 11] rfl rfl
   try clear S106
   refine c_lop (α := (List Int) × Int) (β := (Option Addr) × Nat) (ticket_used_l4 a0 a2 r27 a1) (fun z_1 y_1 => [(1, I a1), (2, I a2), (8, P b62 0), (10, SL y_1.1 z_1.1.length y_1.2), (25, I (a0.Tickets.length : Int)), (26, I z_1.2)]) (fun z_1 y_1 w_ => St w (fun _ => False) w_ [gr intE 1 3 y_1.1 y_1.2 z_1.1, bl b62 ([I r27.1.TicketBook.Tally.Trips, I r27.1.TicketBook.Tally.Room, SL A31 r27.1.TicketBook.Tally.Counts.length c32, I r27.1.TicketBook.Fare, SL A33 r27.1.TicketBook.Tickets.length c34, SL A35 r27.1.TicketBook.Shows.length c36, SL A37 r27.1.TicketBook.Boxes.length c38] ++ (sg r27.1.shown_ 3 ++ [Value.map m39])) 92] [mpo ekS iE m39 r27.1.by_, rd eTicketBox 4 A37 c38 r27.1.TicketBook.Boxes, rd eTicketShow 3 A35 c36 r27.1.TicketBook.Shows, rd eTicketSeason 2 A33 c34 r27.1.TicketBook.Tickets, rd eTallyCount 7 A31 c32 r27.1.TicketBook.Tally.Counts, rd eTallyCount 7 A1 c2 a0.Tally.Counts, rd eTicketSeason 2 A4 c5 a0.Tickets, rd eTicketShow 3 A7 c8 a0.Shows, rd eTicketBox 4 A10 c11 a0.Boxes, gW0, gW1, gW2]) (([] : List Int), 0) (none, 0) H ⟨rfl, rfl, rfl, rfl, rfl, rfl, trivial⟩ S107 ?_
   try clear S107
   intro m108 z_1 y_1 e109 w110 H S111
   unfold ticket_used_l4 at H
   refine c_seq <| reg <| p_cmp rfl rfl rfl <| wp_nil <| c_seq ?_
   refine c_cond rfl (fun c112 => ?_) (fun c112 => ?_)
   ·replace H := condT c112 H
    refine c_skip <| c_seq <| c_block <| c_seq <| reg <| p_mI rfl <| p_aI rfl <| wp_nil <| c_seq ?_
    obtain ⟨h113, H⟩ := needS H
    rcases Bool.eq_false_or_eq_true (a2 == 0) with c114 | c114
    ·replace H := condT c114 H
     obtain ⟨r115, h116, H⟩ := bindS H
     refine reg_q mixed 7 (by kernel_rfl) ?_
     refine dS (fun _ k_ => p_mI rfl dn) <| dS (fun _ k_ => p_ixD ar133 h113 rfl rfl dn) <| dS (fun _ k_ => p_ldF (k := 0) ty132 (Asr.stays (S111.atP (i := 10) rfl) k_) (show a2 = ((0 : Nat) : Int) from by simpa using c114) rfl rfl dn) <| dS (fun _ k_ => p_ldA ty92 sz92 (Asr.stays (S111.atX (i := 1) rfl) k_) rfl rfl dn) <| dS (fun _ k_ => p_mI rfl dn) <| dS (fun _ k_ => p_mI rfl dn) ?_
     refine dS (fun _ k_ => p_cvD (ticket_book_always_ok h116 (Asr.stays (S111.atP (i := 4) rfl) k_) (Asr.stays (S111.atP (i := 3) rfl) k_) (Asr.stays (S111.atP (i := 2) rfl) k_) (Asr.stays (S111.atP (i := 1) rfl) k_) (Asr.stays (S111.atP (i := 0) rfl) k_) (Asr.stays (S111.atP (i := 9) rfl) k_) (Asr.stays (S111.atP (i := 11) rfl) k_)) fu130 rfl) ?_
     intro w117 k118; have S119 := S111.call k118
     refine wp_nil ?_
     refine c_cond rfl (fun c120 => ?_) (fun c120 => ?_)
     ·replace H := condT c120 H
      refine reg <| p_mS rfl <| p_mI rfl <| p_bsl (enc := intE) (l := ([z_1.2] : List Int)) I (fun _ => rfl) sc30 in3 intE_len rfl (by decide) (by decide) zr3_1 S119 rfl fun A121 c122 w123 S124 => ?_
      obtain ⟨h130, H⟩ := needS H
      refine p_app (enc := intE) sc30 in3 rfl intE_len intE_one (by decide) S124 (k := 1) rfl (gr_sl intE_len (S124.atX (i := 0) rfl)) h130 (by simp) rfl rfl fun A128 c129 w126 S127 => ?_
      try clear S124
      refine p_aS rfl <| wp_nil <| reg <| p_add rfl rfl <| p_mI rfl <| wp_nil ?_
      have S131 := S127.pk [1, 2] (by decide) [0, 1, 2, 3, 4, 5, 6, 7, 8, 9, 10, 11] rfl rfl
      try clear S127
      exact ⟨(z_1.1 ++ ([z_1.2] : List Int), wr (z_1.2 + 1)), (A128, c129), _, rfl, ⟨rfl, rfl, rfl, rfl, rfl, rfl, trivial⟩, H, S131⟩
     ·replace H := condF c120 H
      refine c_skip <| reg <| p_add rfl rfl <| p_mI rfl <| wp_nil ?_
      exact ⟨(z_1.1, wr (z_1.2 + 1)), (y_1.1, y_1.2), _, rfl, ⟨rfl, rfl, rfl, rfl, rfl, rfl, trivial⟩, H, S119⟩
    ·replace H := condF c114 H
     obtain ⟨r132, h133, H⟩ := bindS H
     refine reg_q mixed 7 (by kernel_rfl) ?_
     refine dS (fun _ k_ => p_mI rfl dn) <| dS (fun _ k_ => p_ixD ar133 h113 rfl rfl dn) <| dS (fun _ k_ => p_ldF (k := 1) ty132 (Asr.stays (S111.atP (i := 10) rfl) k_) (two_second h113 c114) rfl rfl dn) <| dS (fun _ k_ => p_ldA ty92 sz92 (Asr.stays (S111.atX (i := 1) rfl) k_) rfl rfl dn) <| dS (fun _ k_ => p_mI rfl dn) <| dS (fun _ k_ => p_mI rfl dn) ?_
     refine dS (fun _ k_ => p_cvD (ticket_book_sometimes_ok h133 (Asr.stays (S111.atP (i := 4) rfl) k_) (Asr.stays (S111.atP (i := 3) rfl) k_) (Asr.stays (S111.atP (i := 2) rfl) k_) (Asr.stays (S111.atP (i := 1) rfl) k_) (Asr.stays (S111.atP (i := 0) rfl) k_) (Asr.stays (S111.atP (i := 9) rfl) k_) (Asr.stays (S111.atP (i := 11) rfl) k_)) fu131 rfl) ?_
     intro w134 k135; have S136 := S111.call k135
     refine wp_nil ?_
     refine c_cond rfl (fun c137 => ?_) (fun c137 => ?_)
     ·replace H := condT c137 H
      refine reg <| p_mS rfl <| p_mI rfl <| p_bsl (enc := intE) (l := ([z_1.2] : List Int)) I (fun _ => rfl) sc30 in3 intE_len rfl (by decide) (by decide) zr3_1 S136 rfl fun A138 c139 w140 S141 => ?_
      obtain ⟨h147, H⟩ := needS H
      refine p_app (enc := intE) sc30 in3 rfl intE_len intE_one (by decide) S141 (k := 1) rfl (gr_sl intE_len (S141.atX (i := 0) rfl)) h147 (by simp) rfl rfl fun A145 c146 w143 S144 => ?_
      try clear S141
      refine p_aS rfl <| wp_nil <| reg <| p_add rfl rfl <| p_mI rfl <| wp_nil ?_
      have S148 := S144.pk [1, 2] (by decide) [0, 1, 2, 3, 4, 5, 6, 7, 8, 9, 10, 11] rfl rfl
      try clear S144
      exact ⟨(z_1.1 ++ ([z_1.2] : List Int), wr (z_1.2 + 1)), (A145, c146), _, rfl, ⟨rfl, rfl, rfl, rfl, rfl, rfl, trivial⟩, H, S148⟩
     ·replace H := condF c137 H
      refine c_skip <| reg <| p_add rfl rfl <| p_mI rfl <| wp_nil ?_
      exact ⟨(z_1.1, wr (z_1.2 + 1)), (y_1.1, y_1.2), _, rfl, ⟨rfl, rfl, rfl, rfl, rfl, rfl, trivial⟩, H, S136⟩
   ·replace H := condF c112 H
    refine c_exit ?_
    have S149 : St w (fun _ => False) w110 [gr intE 1 3 y_1.1 y_1.2 z_1.1] [gW0, gW1, gW2] := S111.pk [0] (by decide) [9, 10, 11] rfl rfl
    try clear S111
    refine c_seq <| reg <| p_mS rfl <| p_mS rfl <| p_len rfl sc30 <| p_mS rfl <| p_len rfl sc30 <| p_cut3 sc30 (gr_rd intE_len (S149.atX (i := 0) rfl)) rfl rfl rfl <| p_aS rfl <| p_aI rfl <| wp_nil ?_
    obtain rfl := Option.some.inj H
    refine c_ret ?_; show bodyPostM (Fr none) 0 Tryd.prog Tryd.f63 _ .ret _ _
    refine ret_of (res2 rfl (rvT (rfl : _ = SL y_1.1 z_1.1.length z_1.1.length)) (rvT (rfl : _ = I 0))) ?_
    exact ⟨_, rfl, y_1.1, z_1.1.length, rfl, S149.keep, ⟨(rd_full (gr_rd intE_len (S149.atX (i := 0) rfl))), (New.rdc (S149.newX (i := 0) rfl))⟩, trivial⟩
 ·intro e150 w151 lo152 hi153 k154 hf155 hR156 hd157
  have S158 := S18.call k154
  obtain ⟨h160, h161, h162, ⟨A31, c32, A33, c34, A35, c36, A37, c38, m39⟩, q159, h163, h164⟩ := hR156 4 17 (lE rfl) (by decide) rfl
  replace q159 : e150 17 = TU [AG ([I r27.1.TicketBook.Tally.Trips, I r27.1.TicketBook.Tally.Room, SL A31 r27.1.TicketBook.Tally.Counts.length c32, I r27.1.TicketBook.Fare, SL A33 r27.1.TicketBook.Tickets.length c34, SL A35 r27.1.TicketBook.Shows.length c36, SL A37 r27.1.TicketBook.Boxes.length c38] ++ (sg r27.1.shown_ 3 ++ [Value.map m39])), I r27.2] := q159
  obtain ⟨p165, p166, p167, p168, p169, _⟩ := h163
  have S170 := St.addR S158 (h164 _ (.head _)) (fun b_ h_ x_ hx_ hb_ => (p165 b_ h_).elim (fun q_ => by have := x_.inb _ _ (S18.xs x_ hx_) hb_; omega) (fun ⟨q_, hq_, hqb_⟩ => S18.dp x_ hx_ q_ ((fA ⟨List.mem_of_getElem? (i := 0) rfl, (fA ⟨List.mem_of_getElem? (i := 1) rfl, (fA ⟨List.mem_of_getElem? (i := 2) rfl, (fA ⟨List.mem_of_getElem? (i := 3) rfl, nM⟩)⟩)⟩)⟩) q_ hq_) b_ hb_ hqb_))
  try clear S158
  have S171 := St.addR S170 (h164 _ (.tail _ (.head _))) (fun b_ h_ x_ hx_ hb_ => (p166 b_ h_).elim (fun q_ => by have := x_.inb _ _ (S18.xs x_ hx_) hb_; omega) (fun ⟨q_, hq_, hqb_⟩ => S18.dp x_ hx_ q_ ((fA ⟨List.mem_of_getElem? (i := 0) rfl, (fA ⟨List.mem_of_getElem? (i := 1) rfl, (fA ⟨List.mem_of_getElem? (i := 2) rfl, (fA ⟨List.mem_of_getElem? (i := 3) rfl, nM⟩)⟩)⟩)⟩) q_ hq_) b_ hb_ hqb_))
  try clear S170
  have S172 := St.addR S171 (h164 _ (.tail _ (.tail _ (.head _)))) (fun b_ h_ x_ hx_ hb_ => (p167 b_ h_).elim (fun q_ => by have := x_.inb _ _ (S18.xs x_ hx_) hb_; omega) (fun ⟨q_, hq_, hqb_⟩ => S18.dp x_ hx_ q_ ((nM) q_ hq_) b_ hb_ hqb_))
  try clear S171
  have S173 := St.addR S172 (h164 _ (.tail _ (.tail _ (.tail _ (.head _))))) (fun b_ h_ x_ hx_ hb_ => (p168 b_ h_).elim (fun q_ => by have := x_.inb _ _ (S18.xs x_ hx_) hb_; omega) (fun ⟨q_, hq_, hqb_⟩ => S18.dp x_ hx_ q_ ((nM) q_ hq_) b_ hb_ hqb_))
  try clear S172
  have S174 := St.addR S173 (h164 _ (.tail _ (.tail _ (.tail _ (.tail _ (.head _)))))) (fun b_ h_ x_ hx_ hb_ => (p169 b_ h_).elim (fun q_ => by have := x_.inb _ _ (S18.xs x_ hx_) hb_; omega) (fun ⟨q_, hq_, hqb_⟩ => S18.dp x_ hx_ q_ ((nM) q_ hq_) b_ hb_ hqb_))
  try clear S173
  have q175 : e150 12 = TU [AG ([I r27.1.TicketBook.Tally.Trips, I r27.1.TicketBook.Tally.Room, SL A31 r27.1.TicketBook.Tally.Counts.length c32, I r27.1.TicketBook.Fare, SL A33 r27.1.TicketBook.Tickets.length c34, SL A35 r27.1.TicketBook.Shows.length c36, SL A37 r27.1.TicketBook.Boxes.length c38] ++ (sg r27.1.shown_ 3 ++ [Value.map m39])), I r27.2] := (Option.some.inj ((congrArg some q159).symm.trans (hR156 5 12 (lE rfl) (by decide) rfl).2.2.2)).symm
  have q176 : e150 18 = AG ([I r27.1.TicketBook.Tally.Trips, I r27.1.TicketBook.Tally.Room, SL A31 r27.1.TicketBook.Tally.Counts.length c32, I r27.1.TicketBook.Fare, SL A33 r27.1.TicketBook.Tickets.length c34, SL A35 r27.1.TicketBook.Shows.length c36, SL A37 r27.1.TicketBook.Boxes.length c38] ++ (sg r27.1.shown_ 3 ++ [Value.map m39])) := (Option.some.inj ((congrArg (exG 0) q175).symm.trans (hR156 6 18 (lE rfl) (by decide) rfl).2.2.2)).symm
  obtain ⟨h178, h179, h180, b62, q177, h181, h182⟩ := hR156 8 8 (lE rfl) (by decide) rfl
  replace q177 : e150 8 = P b62 0 := q177
  obtain ⟨p183, _⟩ := h181
  have S185 := St.addO S174 (h182 _ (.head _)) (fun b_ h_ => (p183 b_ h_).elim (fun q_ => Nat.le_trans S18.keep.size (Nat.le_trans h178 q_.1)) (fun ⟨_, hq_, _⟩ => (List.not_mem_nil hq_).elim)) (fA ⟨(fun b_ h1_ h2_ => (p183 b_ h1_).elim (fun q2_ => by have q1_ := Asr.inb _ _ _ (S18.atX (i := 0) rfl) h2_; omega) (fun ⟨_, hq_, _⟩ => (List.not_mem_nil hq_).elim)), nM⟩) (fA ⟨(fun b_ h1_ h2_ => (p183 b_ h1_).elim (fun q1_ => (p169 b_ h2_).elim (fun q2_ => by have q3_ := hd157 8 4 (lE rfl) (lE rfl) (by decide) (by decide) (by decide); omega) (fun ⟨q_, hq_, hqb_⟩ => by have q5_ := h178; have q4_ := Asr.inb _ _ _ (S18.ps q_ ((nM) q_ hq_)) hqb_; omega)) (fun ⟨_, hq_, _⟩ => (List.not_mem_nil hq_).elim)), (fA ⟨(fun b_ h1_ h2_ => (p183 b_ h1_).elim (fun q1_ => (p168 b_ h2_).elim (fun q2_ => by have q3_ := hd157 8 4 (lE rfl) (lE rfl) (by decide) (by decide) (by decide); omega) (fun ⟨q_, hq_, hqb_⟩ => by have q5_ := h178; have q4_ := Asr.inb _ _ _ (S18.ps q_ ((nM) q_ hq_)) hqb_; omega)) (fun ⟨_, hq_, _⟩ => (List.not_mem_nil hq_).elim)), (fA ⟨(fun b_ h1_ h2_ => (p183 b_ h1_).elim (fun q1_ => (p167 b_ h2_).elim (fun q2_ => by have q3_ := hd157 8 4 (lE rfl) (lE rfl) (by decide) (by decide) (by decide); omega) (fun ⟨q_, hq_, hqb_⟩ => by have q5_ := h178; have q4_ := Asr.inb _ _ _ (S18.ps q_ ((nM) q_ hq_)) hqb_; omega)) (fun ⟨_, hq_, _⟩ => (List.not_mem_nil hq_).elim)), (fA ⟨(fun b_ h1_ h2_ => (p183 b_ h1_).elim (fun q1_ => (p166 b_ h2_).elim (fun q2_ => by have q3_ := hd157 8 4 (lE rfl) (lE rfl) (by decide) (by decide) (by decide); omega) (fun ⟨q_, hq_, hqb_⟩ => by have q5_ := h178; have q4_ := Asr.inb _ _ _ (S18.ps q_ ((fA ⟨List.mem_of_getElem? (i := 0) rfl, (fA ⟨List.mem_of_getElem? (i := 1) rfl, (fA ⟨List.mem_of_getElem? (i := 2) rfl, (fA ⟨List.mem_of_getElem? (i := 3) rfl, nM⟩)⟩)⟩)⟩) q_ hq_)) hqb_; omega)) (fun ⟨_, hq_, _⟩ => (List.not_mem_nil hq_).elim)), (fA ⟨(fun b_ h1_ h2_ => (p183 b_ h1_).elim (fun q1_ => (p165 b_ h2_).elim (fun q2_ => by have q3_ := hd157 8 4 (lE rfl) (lE rfl) (by decide) (by decide) (by decide); omega) (fun ⟨q_, hq_, hqb_⟩ => by have q5_ := h178; have q4_ := Asr.inb _ _ _ (S18.ps q_ ((fA ⟨List.mem_of_getElem? (i := 0) rfl, (fA ⟨List.mem_of_getElem? (i := 1) rfl, (fA ⟨List.mem_of_getElem? (i := 2) rfl, (fA ⟨List.mem_of_getElem? (i := 3) rfl, nM⟩)⟩)⟩)⟩) q_ hq_)) hqb_; omega)) (fun ⟨_, hq_, _⟩ => (List.not_mem_nil hq_).elim)), (fA ⟨(fun b_ h1_ h2_ => (p183 b_ h1_).elim (fun q2_ => by have q1_ := Asr.inb _ _ _ (S18.atP (i := 0) rfl) h2_; omega) (fun ⟨_, hq_, _⟩ => (List.not_mem_nil hq_).elim)), (fA ⟨(fun b_ h1_ h2_ => (p183 b_ h1_).elim (fun q2_ => by have q1_ := Asr.inb _ _ _ (S18.atP (i := 1) rfl) h2_; omega) (fun ⟨_, hq_, _⟩ => (List.not_mem_nil hq_).elim)), (fA ⟨(fun b_ h1_ h2_ => (p183 b_ h1_).elim (fun q2_ => by have q1_ := Asr.inb _ _ _ (S18.atP (i := 2) rfl) h2_; omega) (fun ⟨_, hq_, _⟩ => (List.not_mem_nil hq_).elim)), (fA ⟨(fun b_ h1_ h2_ => (p183 b_ h1_).elim (fun q2_ => by have q1_ := Asr.inb _ _ _ (S18.atP (i := 3) rfl) h2_; omega) (fun ⟨_, hq_, _⟩ => (List.not_mem_nil hq_).elim)), (fA ⟨(fun b_ h1_ h2_ => (p183 b_ h1_).elim (fun q2_ => by have q1_ := Asr.inb _ _ _ (S18.atP (i := 4) rfl) h2_; omega) (fun ⟨_, hq_, _⟩ => (List.not_mem_nil hq_).elim)), (fA ⟨(fun b_ h1_ h2_ => (p183 b_ h1_).elim (fun q2_ => by have q1_ := Asr.inb _ _ _ (S18.atP (i := 5) rfl) h2_; omega) (fun ⟨_, hq_, _⟩ => (List.not_mem_nil hq_).elim)), (fA ⟨(fun b_ h1_ h2_ => (p183 b_ h1_).elim (fun q2_ => by have q1_ := Asr.inb _ _ _ (S18.atP (i := 6) rfl) h2_; omega) (fun ⟨_, hq_, _⟩ => (List.not_mem_nil hq_).elim)), nM⟩)⟩)⟩)⟩)⟩)⟩)⟩)⟩)⟩)⟩)⟩)⟩)
  try clear S18; try clear S174
  refine tailE [(1, I a1), (2, I a2), (3, P b16 0), (8, P b62 0), (12, TU [AG ([I r27.1.TicketBook.Tally.Trips, I r27.1.TicketBook.Tally.Room, SL A31 r27.1.TicketBook.Tally.Counts.length c32, I r27.1.TicketBook.Fare, SL A33 r27.1.TicketBook.Tickets.length c34, SL A35 r27.1.TicketBook.Shows.length c36, SL A37 r27.1.TicketBook.Boxes.length c38] ++ (sg r27.1.shown_ 3 ++ [Value.map m39])), I r27.2]), (18, AG ([I r27.1.TicketBook.Tally.Trips, I r27.1.TicketBook.Tally.Room, SL A31 r27.1.TicketBook.Tally.Counts.length c32, I r27.1.TicketBook.Fare, SL A33 r27.1.TicketBook.Tickets.length c34, SL A35 r27.1.TicketBook.Shows.length c36, SL A37 r27.1.TicketBook.Boxes.length c38] ++ (sg r27.1.shown_ 3 ++ [Value.map m39])))] ⟨((hf155 1 rfl).trans (rfl : _ = I a1)), ((hf155 2 rfl).trans (rfl : _ = I a2)), ((hf155 3 rfl).trans (rfl : _ = P b16 0)), q177, q175, q176, trivial⟩ ?_
  intro g186
  refine p_stP (pre := []) (old := [I 0, I 0, SL none 0 0, I 0, SL none 0 0, SL none 0 0, SL none 0 0] ++ (sg (List.replicate 3 0) 3 ++ [Value.map none])) (post := []) (vs := [I r27.1.TicketBook.Tally.Trips, I r27.1.TicketBook.Tally.Room, SL A31 r27.1.TicketBook.Tally.Counts.length c32, I r27.1.TicketBook.Fare, SL A33 r27.1.TicketBook.Tickets.length c34, SL A35 r27.1.TicketBook.Shows.length c36, SL A37 r27.1.TicketBook.Boxes.length c38] ++ (sg r27.1.shown_ 3 ++ [Value.map m39])) sz92 S185 (i := 0) rfl rfl rfl rfl (rfl : _ = AG ([I r27.1.TicketBook.Tally.Trips, I r27.1.TicketBook.Tally.Room, SL A31 r27.1.TicketBook.Tally.Counts.length c32, I r27.1.TicketBook.Fare, SL A33 r27.1.TicketBook.Tickets.length c34, SL A35 r27.1.TicketBook.Shows.length c36, SL A37 r27.1.TicketBook.Boxes.length c38] ++ (sg r27.1.shown_ 3 ++ [Value.map m39]))) rfl rfl rfl rfl fun w187 S188 => ?_
  try clear S185
  refine p_ext rfl rfl <| p_aI rfl <| wp_nil <| c_seq <| c_seq <| reg <| p_mI rfl <| p_cmp rfl rfl rfl <| wp_nil ?_
  refine c_cond rfl (fun c189 => ?_) (fun c189 => ?_)
  ·replace H := condT c189 H
   refine c_seq <| reg <| p_mI rfl <| p_aS rfl <| p_aI rfl <| wp_nil ?_
   obtain rfl := Option.some.inj H
   refine c_ret ?_; show bodyPostM (Fr none) 0 Tryd.prog Tryd.f63 _ .ret _ _
   refine ret_of (res2 rfl (rvT (rfl : _ = SL none 0 0)) (rvT (rfl : _ = I r27.2))) ?_
   exact ⟨_, rfl, none, 0, rfl, S188.keep, ⟨rd_nil (Nat.zero_le _), New.nil⟩, trivial⟩
  ·replace H := condF c189 H
   refine c_skip <| c_seq <| reg <| p_aS rfl <| wp_nil <| c_seq <| c_seq <| reg <| p_fld fl29_2 rfl <| p_ld ty25 (S188.atX (i := 1) rfl) rfl rfl <| p_len rfl sc25 <| p_mI rfl <| wp_nil <| c_block ?_
   have S190 := S188.nilRow intE 1 3
   try clear S188
   have S191 := S190.pk [0, 1] (by decide) [0, 1, 2, 3, 4, 5, 6, 7, 8, 9, 10, 11] rfl rfl
   try clear S190
   refine c_lop (α := (List Int) × Int) (β := (Option Addr) × Nat) (ticket_used_l5 a0 a2 r27 a1) (fun z_1 y_1 => [(1, I a1), (2, I a2), (8, P b62 0), (10, SL y_1.1 z_1.1.length y_1.2), (25, I (a0.Tickets.length : Int)), (26, I z_1.2)]) (fun z_1 y_1 w_ => St w (fun _ => False) w_ [gr intE 1 3 y_1.1 y_1.2 z_1.1, bl b62 ([I r27.1.TicketBook.Tally.Trips, I r27.1.TicketBook.Tally.Room, SL A31 r27.1.TicketBook.Tally.Counts.length c32, I r27.1.TicketBook.Fare, SL A33 r27.1.TicketBook.Tickets.length c34, SL A35 r27.1.TicketBook.Shows.length c36, SL A37 r27.1.TicketBook.Boxes.length c38] ++ (sg r27.1.shown_ 3 ++ [Value.map m39])) 92] [mpo ekS iE m39 r27.1.by_, rd eTicketBox 4 A37 c38 r27.1.TicketBook.Boxes, rd eTicketShow 3 A35 c36 r27.1.TicketBook.Shows, rd eTicketSeason 2 A33 c34 r27.1.TicketBook.Tickets, rd eTallyCount 7 A31 c32 r27.1.TicketBook.Tally.Counts, rd eTallyCount 7 A1 c2 a0.Tally.Counts, rd eTicketSeason 2 A4 c5 a0.Tickets, rd eTicketShow 3 A7 c8 a0.Shows, rd eTicketBox 4 A10 c11 a0.Boxes, gW0, gW1, gW2]) (([] : List Int), 0) (none, 0) H ⟨rfl, rfl, rfl, rfl, rfl, rfl, trivial⟩ S191 ?_
   try clear S191
   intro m192 z_1 y_1 e193 w194 H S195
   unfold ticket_used_l5 at H
   refine c_seq <| reg <| p_cmp rfl rfl rfl <| wp_nil <| c_seq ?_
   refine c_cond rfl (fun c196 => ?_) (fun c196 => ?_)
   ·replace H := condT c196 H
    refine c_skip <| c_seq <| c_block <| c_seq <| reg <| p_mI rfl <| p_aI rfl <| wp_nil <| c_seq ?_
    obtain ⟨h197, H⟩ := needS H
    rcases Bool.eq_false_or_eq_true (a2 == 0) with c198 | c198
    ·replace H := condT c198 H
     obtain ⟨r199, h200, H⟩ := bindS H
     refine reg_q mixed 7 (by kernel_rfl) ?_
     refine dS (fun _ k_ => p_mI rfl dn) <| dS (fun _ k_ => p_ixD ar133 h197 rfl rfl dn) <| dS (fun _ k_ => p_ldF (k := 0) ty132 (Asr.stays (S195.atP (i := 10) rfl) k_) (show a2 = ((0 : Nat) : Int) from by simpa using c198) rfl rfl dn) <| dS (fun _ k_ => p_ldA ty92 sz92 (Asr.stays (S195.atX (i := 1) rfl) k_) rfl rfl dn) <| dS (fun _ k_ => p_mI rfl dn) <| dS (fun _ k_ => p_mI rfl dn) ?_
     refine dS (fun _ k_ => p_cvD (ticket_book_always_ok h200 (Asr.stays (S195.atP (i := 4) rfl) k_) (Asr.stays (S195.atP (i := 3) rfl) k_) (Asr.stays (S195.atP (i := 2) rfl) k_) (Asr.stays (S195.atP (i := 1) rfl) k_) (Asr.stays (S195.atP (i := 0) rfl) k_) (Asr.stays (S195.atP (i := 9) rfl) k_) (Asr.stays (S195.atP (i := 11) rfl) k_)) fu130 rfl) ?_
     intro w201 k202; have S203 := S195.call k202
     refine wp_nil ?_
     refine c_cond rfl (fun c204 => ?_) (fun c204 => ?_)
     ·replace H := condT c204 H
      refine reg <| p_mS rfl <| p_mI rfl <| p_bsl (enc := intE) (l := ([z_1.2] : List Int)) I (fun _ => rfl) sc30 in3 intE_len rfl (by decide) (by decide) zr3_1 S203 rfl fun A205 c206 w207 S208 => ?_
      obtain ⟨h214, H⟩ := needS H
      refine p_app (enc := intE) sc30 in3 rfl intE_len intE_one (by decide) S208 (k := 1) rfl (gr_sl intE_len (S208.atX (i := 0) rfl)) h214 (by simp) rfl rfl fun A212 c213 w210 S211 => ?_
      try clear S208
      refine p_aS rfl <| wp_nil <| reg <| p_add rfl rfl <| p_mI rfl <| wp_nil ?_
      have S215 := S211.pk [1, 2] (by decide) [0, 1, 2, 3, 4, 5, 6, 7, 8, 9, 10, 11] rfl rfl
      try clear S211
      exact ⟨(z_1.1 ++ ([z_1.2] : List Int), wr (z_1.2 + 1)), (A212, c213), _, rfl, ⟨rfl, rfl, rfl, rfl, rfl, rfl, trivial⟩, H, S215⟩
     ·replace H := condF c204 H
      refine c_skip <| reg <| p_add rfl rfl <| p_mI rfl <| wp_nil ?_
      exact ⟨(z_1.1, wr (z_1.2 + 1)), (y_1.1, y_1.2), _, rfl, ⟨rfl, rfl, rfl, rfl, rfl, rfl, trivial⟩, H, S203⟩
    ·replace H := condF c198 H
     obtain ⟨r216, h217, H⟩ := bindS H
     refine reg_q mixed 7 (by kernel_rfl) ?_
     refine dS (fun _ k_ => p_mI rfl dn) <| dS (fun _ k_ => p_ixD ar133 h197 rfl rfl dn) <| dS (fun _ k_ => p_ldF (k := 1) ty132 (Asr.stays (S195.atP (i := 10) rfl) k_) (two_second h197 c198) rfl rfl dn) <| dS (fun _ k_ => p_ldA ty92 sz92 (Asr.stays (S195.atX (i := 1) rfl) k_) rfl rfl dn) <| dS (fun _ k_ => p_mI rfl dn) <| dS (fun _ k_ => p_mI rfl dn) ?_
     refine dS (fun _ k_ => p_cvD (ticket_book_sometimes_ok h217 (Asr.stays (S195.atP (i := 4) rfl) k_) (Asr.stays (S195.atP (i := 3) rfl) k_) (Asr.stays (S195.atP (i := 2) rfl) k_) (Asr.stays (S195.atP (i := 1) rfl) k_) (Asr.stays (S195.atP (i := 0) rfl) k_) (Asr.stays (S195.atP (i := 9) rfl) k_) (Asr.stays (S195.atP (i := 11) rfl) k_)) fu131 rfl) ?_
     intro w218 k219; have S220 := S195.call k219
     refine wp_nil ?_
     refine c_cond rfl (fun c221 => ?_) (fun c221 => ?_)
     ·replace H := condT c221 H
      refine reg <| p_mS rfl <| p_mI rfl <| p_bsl (enc := intE) (l := ([z_1.2] : List Int)) I (fun _ => rfl) sc30 in3 intE_len rfl (by decide) (by decide) zr3_1 S220 rfl fun A222 c223 w224 S225 => ?_
      obtain ⟨h231, H⟩ := needS H
      refine p_app (enc := intE) sc30 in3 rfl intE_len intE_one (by decide) S225 (k := 1) rfl (gr_sl intE_len (S225.atX (i := 0) rfl)) h231 (by simp) rfl rfl fun A229 c230 w227 S228 => ?_
      try clear S225
      refine p_aS rfl <| wp_nil <| reg <| p_add rfl rfl <| p_mI rfl <| wp_nil ?_
      have S232 := S228.pk [1, 2] (by decide) [0, 1, 2, 3, 4, 5, 6, 7, 8, 9, 10, 11] rfl rfl
      try clear S228
      exact ⟨(z_1.1 ++ ([z_1.2] : List Int), wr (z_1.2 + 1)), (A229, c230), _, rfl, ⟨rfl, rfl, rfl, rfl, rfl, rfl, trivial⟩, H, S232⟩
     ·replace H := condF c221 H
      refine c_skip <| reg <| p_add rfl rfl <| p_mI rfl <| wp_nil ?_
      exact ⟨(z_1.1, wr (z_1.2 + 1)), (y_1.1, y_1.2), _, rfl, ⟨rfl, rfl, rfl, rfl, rfl, rfl, trivial⟩, H, S220⟩
   ·replace H := condF c196 H
    refine c_exit ?_
    have S233 : St w (fun _ => False) w194 [gr intE 1 3 y_1.1 y_1.2 z_1.1] [gW0, gW1, gW2] := S195.pk [0] (by decide) [9, 10, 11] rfl rfl
    try clear S195
    refine c_seq <| reg <| p_mS rfl <| p_mS rfl <| p_len rfl sc30 <| p_mS rfl <| p_len rfl sc30 <| p_cut3 sc30 (gr_rd intE_len (S233.atX (i := 0) rfl)) rfl rfl rfl <| p_aS rfl <| p_aI rfl <| wp_nil ?_
    obtain rfl := Option.some.inj H
    refine c_ret ?_; show bodyPostM (Fr none) 0 Tryd.prog Tryd.f63 _ .ret _ _
    refine ret_of (res2 rfl (rvT (rfl : _ = SL y_1.1 z_1.1.length z_1.1.length)) (rvT (rfl : _ = I 0))) ?_
    exact ⟨_, rfl, y_1.1, z_1.1.length, rfl, S233.keep, ⟨(rd_full (gr_rd intE_len (S233.atX (i := 0) rfl))), (New.rdc (S233.newX (i := 0) rfl))⟩, trivial⟩

def ticket_Must (a0 : TicketBook) (a1 : Int) : Option ((List Int) × Int) :=
  (ticket_used a0 a1 0).bind fun r19 =>
  some (r19.1, r19.2)

set_option maxRecDepth 100000 in
theorem ticket_Must_ok {a0 : TicketBook} {a1 : Int} {A1 : Option Addr} {c2 : Nat} {A4 : Option Addr} {c5 : Nat} {A7 : Option Addr} {c8 : Nat} {A10 : Option Addr} {c11 : Nat} {w : World} {r : (List Int) × Int} (H : ticket_Must a0 a1 = some r) (h3 : (rd eTallyCount 7 A1 c2 a0.Tally.Counts).ok w) (h6 : (rd eTicketSeason 2 A4 c5 a0.Tickets).ok w) (h9 : (rd eTicketShow 3 A7 c8 a0.Shows).ok w) (h12 : (rd eTicketBox 4 A10 c11 a0.Boxes).ok w) (hg13 : (gW0).ok w) (hg14 : (gW1).ok w) (hg15 : (gW2).ok w) : Calls Tryd.prog 23 #[AG [I a0.Tally.Trips, I a0.Tally.Room, SL A1 a0.Tally.Counts.length c2, I a0.Fare, SL A4 a0.Tickets.length c5, SL A7 a0.Shows.length c8, SL A10 a0.Boxes.length c11], I a1] w fun en w_ => ∃ u_, en = .returned u_ ∧ ∃ A_1 : Option Addr, ∃ c_2 : Nat, u_ = TU [SL A_1 r.1.length c_2, I r.2] ∧ Keep0 w w_ ∧ ((rd intE 1 A_1 c_2 r.1).ok w_ ∧ New w.heap.size (rd intE 1 A_1 c_2 r.1)) ∧ True := by
 unfold ticket_Must at H
 refine fn_of (n := 11) Tryd.func23 rfl rfl (lE rfl) ?_
 have S : St w (fun _ => False) w [] [rd eTallyCount 7 A1 c2 a0.Tally.Counts, rd eTicketSeason 2 A4 c5 a0.Tickets, rd eTicketShow 3 A7 c8 a0.Shows, rd eTicketBox 4 A10 c11 a0.Boxes, gW0, gW1, gW2] := St.start w _ _ (fA ⟨h3, (fA ⟨h6, (fA ⟨h9, (fA ⟨h12, (fA ⟨hg13, (fA ⟨hg14, (fA ⟨hg15, nM⟩)⟩)⟩)⟩)⟩)⟩)⟩)
 refine c_seq <| reg <| p_boxA rfl S fun b16 w17 S18 => p_aS rfl <| p_aI rfl <| wp_nil <| c_seq <| reg <| p_ldA ty29 sz29 (S18.atX (i := 0) rfl) rfl rfl <| p_mI rfl ?_
 obtain ⟨r19, h20, H⟩ := bindS H
 refine p_cal (ticket_used_ok h20 (S18.atP (i := 0) rfl) (S18.atP (i := 1) rfl) (S18.atP (i := 2) rfl) (S18.atP (i := 3) rfl) (S18.atP (i := 4) rfl) (S18.atP (i := 5) rfl) (S18.atP (i := 6) rfl)) fu63 rfl ?_
 rintro _ w21 ⟨A23, c24, rfl, k22, ⟨o25, n26⟩, _⟩
 have S27 := S18.callN k22 [rd intE 1 A23 c24 r19.1] (fA ⟨⟨o25, New.inL n26⟩, nM⟩)
 refine p_ext rfl rfl <| p_ext rfl rfl <| p_aS rfl <| p_aI rfl <| wp_nil ?_
 obtain rfl := Option.some.inj H
 refine c_ret ?_; show bodyPostM (Fr none) 0 Tryd.prog Tryd.f23 _ .ret _ _
 refine ret_of (res2 rfl (rvT (rfl : _ = SL A23 r19.1.length c24)) (rvT (rfl : _ = I r19.2))) ?_
 exact ⟨_, rfl, A23, c24, rfl, S27.keep, ⟨(S27.atP (i := 0) rfl), (New.mono n26 S18.keep.size)⟩, trivial⟩

def ticket_May (a0 : TicketBook) (a1 : Int) : Option ((List Int) × Int) :=
  (ticket_used a0 a1 1).bind fun r19 =>
  some (r19.1, r19.2)

end Go.Proofs.YtafhljljfglfeaaDoor

/- What the law's function computes, and that it does, printed by a program of mine. -/
import Derived.Test.YtplpalmabgjibaaDoorWC
set_option linter.unusedVariables false
set_option linter.unusedSimpArgs false
namespace Go.Proofs.YtplpalmabgjibaaDoor
open Go Go.Fx Go.Proofs
def law_TallyMore_j1 (r98 : Bool × Int) (a2 : List Int) (a0 : TallyBook) (a1 : TallyCount) (z_2 : Unit) : Option Bool :=
  bif !r98.1 then ((law_counted).bind fun r153 =>
  some r153)
  else ((B_Choose a2 1).bind fun r157 =>
  (B_Mod r157 a0.Trips).bind fun r159 =>
  (B_Choose a2 2).bind fun r164 =>
  (B_Mod r164 (wr (a0.Trips - r159))).bind fun r166 =>
  (tally_Many a0 r159 (wr (r159 + r166))).bind fun r171 =>
  (tally_Many (TallyBook.mk a0.Trips a0.Room ([a1] : List TallyCount)) r159 (wr (r159 + r166))).bind fun r180 =>
  bif (r171.2 == 0) then (bif (r180.2 == 0) then ((B_Covers r171.1 r180.1).bind fun r191 =>
  bif r191 then (bif decide (r180.1.Low ≤ r180.1.High) then ((law_counted).bind fun r197 =>
  some r197)
  else (some false))
  else (some false))
  else (some false))
  else (some false))

def law_TallyMore_j2 (a0 : TallyBook) (a2 : List Int) (a1 : TallyCount) (r98 : Bool × Int) (r94 : Bool × Int) (z_1 : Unit) : Option Bool :=
  (law_truly a0 a2).bind fun r131 =>
  (tally_Can a0 r131).bind fun r141 =>
  (tally_Can (TallyBook.mk a0.Trips a0.Room ([a1] : List TallyCount)) r131).bind fun r145 =>
  bif (r141.2 != 0) then (some false)
  else (bif (r145.2 != 0) then (some false)
  else (bif r145.1 then (bif !r141.1 then (some false)
  else (bif r145.1 then (bif !r98.1 then (some false)
  else (bif r141.1 then (bif (r94.2 != 0) then (some false)
  else (law_TallyMore_j1 r98 a2 a0 a1 ()))
  else (law_TallyMore_j1 r98 a2 a0 a1 ())))
  else (bif r141.1 then (bif (r94.2 != 0) then (some false)
  else (law_TallyMore_j1 r98 a2 a0 a1 ()))
  else (law_TallyMore_j1 r98 a2 a0 a1 ()))))
  else (bif r145.1 then (bif !r98.1 then (some false)
  else (bif r141.1 then (bif (r94.2 != 0) then (some false)
  else (law_TallyMore_j1 r98 a2 a0 a1 ()))
  else (law_TallyMore_j1 r98 a2 a0 a1 ())))
  else (bif r141.1 then (bif (r94.2 != 0) then (some false)
  else (law_TallyMore_j1 r98 a2 a0 a1 ()))
  else (law_TallyMore_j1 r98 a2 a0 a1 ())))))

def law_TallyMore_j3 (r218 : Bool × Int) (a2 : List Int) (a0 : TallyBook) (a1 : TallyCount) (z_2 : Unit) : Option Bool :=
  bif !r218.1 then ((law_counted).bind fun r273 =>
  some r273)
  else ((B_Choose a2 1).bind fun r277 =>
  (B_Mod r277 a0.Trips).bind fun r279 =>
  (B_Choose a2 2).bind fun r284 =>
  (B_Mod r284 (wr (a0.Trips - r279))).bind fun r286 =>
  (tally_Many a0 r279 (wr (r279 + r286))).bind fun r291 =>
  (tally_Many (TallyBook.mk a0.Trips a0.Room (a0.Counts ++ ([a1] : List TallyCount))) r279 (wr (r279 + r286))).bind fun r300 =>
  bif (r291.2 == 0) then (bif (r300.2 == 0) then ((B_Covers r291.1 r300.1).bind fun r311 =>
  bif r311 then (bif decide (r300.1.Low ≤ r300.1.High) then ((law_counted).bind fun r317 =>
  some r317)
  else (some false))
  else (some false))
  else (some false))
  else (some false))

def law_TallyMore_j4 (a0 : TallyBook) (a2 : List Int) (a1 : TallyCount) (r218 : Bool × Int) (r214 : Bool × Int) (z_1 : Unit) : Option Bool :=
  (law_truly a0 a2).bind fun r251 =>
  (tally_Can a0 r251).bind fun r261 =>
  (tally_Can (TallyBook.mk a0.Trips a0.Room (a0.Counts ++ ([a1] : List TallyCount))) r251).bind fun r265 =>
  bif (r261.2 != 0) then (some false)
  else (bif (r265.2 != 0) then (some false)
  else (bif r265.1 then (bif !r261.1 then (some false)
  else (bif r265.1 then (bif !r218.1 then (some false)
  else (bif r261.1 then (bif (r214.2 != 0) then (some false)
  else (law_TallyMore_j3 r218 a2 a0 a1 ()))
  else (law_TallyMore_j3 r218 a2 a0 a1 ())))
  else (bif r261.1 then (bif (r214.2 != 0) then (some false)
  else (law_TallyMore_j3 r218 a2 a0 a1 ()))
  else (law_TallyMore_j3 r218 a2 a0 a1 ()))))
  else (bif r265.1 then (bif !r218.1 then (some false)
  else (bif r261.1 then (bif (r214.2 != 0) then (some false)
  else (law_TallyMore_j3 r218 a2 a0 a1 ()))
  else (law_TallyMore_j3 r218 a2 a0 a1 ())))
  else (bif r261.1 then (bif (r214.2 != 0) then (some false)
  else (law_TallyMore_j3 r218 a2 a0 a1 ()))
  else (law_TallyMore_j3 r218 a2 a0 a1 ())))))

def law_TallyMore (a0 : TallyBook) (a1 : TallyCount) (a2 : List Int) : Option Bool :=
  (law_sound a0).bind fun r15 =>
  bif !r15 then ((law_counted).bind fun r20 =>
  some r20)
  else (bif ((a0.Counts.length : Int) == 8) then ((law_counted).bind fun r25 =>
  some r25)
  else (bif a0.Counts.isEmpty then (need (fitsL (([] : List TallyCount).length + ([a1] : List TallyCount).length) 56) <|
  (tally_Fits a0 a1).bind fun r94 =>
  (tally_Right (TallyBook.mk a0.Trips a0.Room ([a1] : List TallyCount))).bind fun r98 =>
  bif (r98.2 != 0) then (bif (r98.2 == 50) then (bif (r94.2 == 51) then ((law_counted).bind fun r105 =>
  some r105)
  else (some false))
  else (some false))
  else ((tally_Wrong a0).bind fun r109 =>
  (tally_Wrong (TallyBook.mk a0.Trips a0.Room ([a1] : List TallyCount))).bind fun r119 =>
  bif (r94.2 != 0) then (bif (r94.2 != 52) then (some false)
  else (bif (r94.2 == 0) then (bif (r98.1 != r94.1) then (some false)
  else (bif (r109.2 != 0) then (some false)
  else (bif (r119.2 != 0) then (some false)
  else (bif decide ((r119.1.length : Int) < (r109.1.length : Int)) then (some false)
  else (law_TallyMore_j2 a0 a2 a1 r98 r94 ())))))
  else (bif (r98.1 != false) then (some false)
  else (bif (r109.2 != 0) then (some false)
  else (bif (r119.2 != 0) then (some false)
  else (bif decide ((r119.1.length : Int) < (r109.1.length : Int)) then (some false)
  else (law_TallyMore_j2 a0 a2 a1 r98 r94 ())))))))
  else (bif (r94.2 == 0) then (bif (r98.1 != r94.1) then (some false)
  else (bif (r109.2 != 0) then (some false)
  else (bif (r119.2 != 0) then (some false)
  else (bif decide ((r119.1.length : Int) < (r109.1.length : Int)) then (some false)
  else (law_TallyMore_j2 a0 a2 a1 r98 r94 ())))))
  else (bif (r98.1 != false) then (some false)
  else (bif (r109.2 != 0) then (some false)
  else (bif (r119.2 != 0) then (some false)
  else (bif decide ((r119.1.length : Int) < (r109.1.length : Int)) then (some false)
  else (law_TallyMore_j2 a0 a2 a1 r98 r94 ()))))))))
  else (need (fitsL (([] : List TallyCount).length + a0.Counts.length) 56) <|
  need (fitsL (a0.Counts.length + ([a1] : List TallyCount).length) 56) <|
  (tally_Fits a0 a1).bind fun r214 =>
  (tally_Right (TallyBook.mk a0.Trips a0.Room (a0.Counts ++ ([a1] : List TallyCount)))).bind fun r218 =>
  bif (r218.2 != 0) then (bif (r218.2 == 50) then (bif (r214.2 == 51) then ((law_counted).bind fun r225 =>
  some r225)
  else (some false))
  else (some false))
  else ((tally_Wrong a0).bind fun r229 =>
  (tally_Wrong (TallyBook.mk a0.Trips a0.Room (a0.Counts ++ ([a1] : List TallyCount)))).bind fun r239 =>
  bif (r214.2 != 0) then (bif (r214.2 != 52) then (some false)
  else (bif (r214.2 == 0) then (bif (r218.1 != r214.1) then (some false)
  else (bif (r229.2 != 0) then (some false)
  else (bif (r239.2 != 0) then (some false)
  else (bif decide ((r239.1.length : Int) < (r229.1.length : Int)) then (some false)
  else (law_TallyMore_j4 a0 a2 a1 r218 r214 ())))))
  else (bif (r218.1 != false) then (some false)
  else (bif (r229.2 != 0) then (some false)
  else (bif (r239.2 != 0) then (some false)
  else (bif decide ((r239.1.length : Int) < (r229.1.length : Int)) then (some false)
  else (law_TallyMore_j4 a0 a2 a1 r218 r214 ())))))))
  else (bif (r214.2 == 0) then (bif (r218.1 != r214.1) then (some false)
  else (bif (r229.2 != 0) then (some false)
  else (bif (r239.2 != 0) then (some false)
  else (bif decide ((r239.1.length : Int) < (r229.1.length : Int)) then (some false)
  else (law_TallyMore_j4 a0 a2 a1 r218 r214 ())))))
  else (bif (r218.1 != false) then (some false)
  else (bif (r229.2 != 0) then (some false)
  else (bif (r239.2 != 0) then (some false)
  else (bif decide ((r239.1.length : Int) < (r229.1.length : Int)) then (some false)
  else (law_TallyMore_j4 a0 a2 a1 r218 r214 ()))))))))))

set_option maxRecDepth 100000 in
theorem law_TallyMore_ok {a0 : TallyBook} {a1 : TallyCount} {a2 : List Int} {A1 : Option Addr} {c2 : Nat} {A4 : Option Addr} {c5 : Nat} {w : World} {r : Bool} (H : law_TallyMore a0 a1 a2 = some r) (h3 : (rd eTallyCount 7 A1 c2 a0.Counts).ok w) (h6 : (rd intE 1 A4 c5 a2).ok w) (hg7 : (bl 0 [Value.func (.func 117) #[] #[], Value.func (.func 119) #[] #[]] 117).ok w) (hg8 : (bl 1 [I (-1), I (-1)] 115).ok w) : Calls Tryd.prog 9 #[AG [I a0.Trips, I a0.Room, SL A1 a0.Counts.length c2], AG [I a1.Who, I a1.From, I a1.To, I a1.Told, I a1.Unit, I a1.Under, I a1.Over], SL A4 a2.length c5] w (RetV w (B r)) := by
  unfold law_TallyMore at H
  refine fn_of (n := 202) Tryd.func9 rfl rfl (Nat.le_of_ble_eq_true rfl) ?_
  have S : St w (fun _ => False) w [] [rd eTallyCount 7 A1 c2 a0.Counts, rd intE 1 A4 c5 a2, bl 0 [Value.func (.func 117) #[] #[], Value.func (.func 119) #[] #[]] 117, bl 1 [I (-1), I (-1)] 115] := St.start w _ _ (List.forall_mem_cons.2 ⟨h3, (List.forall_mem_cons.2 ⟨h6, (List.forall_mem_cons.2 ⟨hg7, (List.forall_mem_cons.2 ⟨hg8, (fun _ h_ => (List.not_mem_nil h_).elim)⟩)⟩)⟩)⟩)
  refine c_seq ?_
  refine reg ?_
  refine p_boxA rfl S fun b9 w10 S11 => ?_
  refine p_boxA rfl S11 fun b12 w13 S14 => ?_
  refine p_aB rfl ?_
  refine wp_nil ?_
  refine c_seq ?_
  refine c_seq ?_
  refine reg ?_
  refine p_ldA ty24 sz24 (S14.atX (i := 1) rfl) rfl rfl ?_
  obtain ⟨r15, h16, H⟩ := bindS H
  refine p_cv (law_sound_ok h16 (S14.atP (i := 0) rfl)) fu24 rfl S14 fun w17 S18 => ?_
  refine p_not rfl ?_
  refine p_mB rfl ?_
  rcases Bool.eq_false_or_eq_true (!r15) with c19 | c19
  · replace H := condT c19 H
    refine eB c19 ?_
    refine gF rfl rfl ?_
    refine gF rfl rfl ?_
    refine gF rfl rfl ?_
    refine gF rfl rfl ?_
    refine p_pkT rfl (rfl : _ = B true) ?_
    refine wp_nil ?_
    refine c_true rfl ?_
    refine c_seq ?_
    refine reg ?_
    obtain ⟨r20, h21, H⟩ := bindS H
    refine p_cv (law_counted_ok h21 (S18.atP (i := 2) rfl) (S18.atP (i := 3) rfl)) fu19 rfl S18 fun w22 S23 => ?_
    refine p_aB rfl ?_
    refine wp_nil ?_
    obtain rfl := Option.some.inj H
    refine c_ret ?_; show bodyPostM (Fr none) 0 Tryd.prog Tryd.f9 _ .ret _ _
    refine ret_of (res1 rfl (rvT (rfl : _ = B r20))) ?_
    exact ⟨_, rfl, rfl, S23.keep⟩
  · replace H := condF c19 H
    refine eB c19 ?_
    refine gT rfl rfl (p_fld fl24_2 rfl ?_)
    refine gT rfl rfl (p_ld ty22 (S18.atX (i := 1) rfl) rfl rfl ?_)
    refine gT rfl rfl (p_len rfl sc22 ?_)
    refine gT rfl rfl (p_cmp rfl rfl rfl ?_)
    refine p_pkF rfl (rfl : _ = B ((a0.Counts.length : Int) == 8)) ?_
    refine wp_nil ?_
    refine c_cond rfl (fun c24 => ?_) (fun c24 => ?_)
    · replace H := condT c24 H
      refine c_seq ?_
      refine reg ?_
      obtain ⟨r25, h26, H⟩ := bindS H
      refine p_cv (law_counted_ok h26 (S18.atP (i := 2) rfl) (S18.atP (i := 3) rfl)) fu19 rfl S18 fun w27 S28 => ?_
      refine p_aB rfl ?_
      refine wp_nil ?_
      obtain rfl := Option.some.inj H
      refine c_ret ?_; show bodyPostM (Fr none) 0 Tryd.prog Tryd.f9 _ .ret _ _
      refine ret_of (res1 rfl (rvT (rfl : _ = B r25))) ?_
      exact ⟨_, rfl, rfl, S28.keep⟩
    · replace H := condF c24 H
      refine c_skip ?_
      refine c_seq ?_
      refine reg ?_
      refine p_ldA ty24 sz24 (S18.atX (i := 1) rfl) rfl rfl ?_
      refine p_allA in24 S18 fun b29 w30 S31 => ?_
      refine p_stP (pre := []) (old := [I 0, I 0, SL none 0 0]) (post := []) (vs := [I a0.Trips, I a0.Room, SL A1 a0.Counts.length c2]) sz24 S31 (i := 0) rfl rfl rfl rfl (rfl : _ = AG [I a0.Trips, I a0.Room, SL A1 a0.Counts.length c2]) rfl rfl rfl rfl fun w32 S33 => ?_
      refine wp_nil ?_
      refine c_seq ?_
      rcases Bool.eq_false_or_eq_true (a0.Counts.isEmpty) with c40 | c40
      · replace H := condT c40 H
        refine reg_any mixed 6 (by kernel_rfl) [rx (α := (Option Addr)) (fun A34 => SL A34 0 0) (fun A34 lo hi => BtwL lo hi [] (gr eTallyCount 7 33 A34 0 ([] : List TallyCount)) ∧ True) (fun A34 => [gr eTallyCount 7 33 A34 0 ([] : List TallyCount)]), rv (P b9 2), rv (SL A1 a0.Counts.length c2), dv 38 some, rv (AG [I a1.Who, I a1.From, I a1.To, I a1.Told, I a1.Unit, I a1.Under, I a1.Over]), rx (α := (Option Addr) × Nat) (fun ⟨A50, c51⟩ => SL A50 ([a1] : List TallyCount).length c51) (fun ⟨A50, c51⟩ lo hi => BtwL lo hi [] (gr eTallyCount 7 33 A50 c51 ([a1] : List TallyCount)) ∧ True) (fun ⟨A50, c51⟩ => [gr eTallyCount 7 33 A50 c51 ([a1] : List TallyCount)])] [[], [], [], [38], [], []] rfl (by kernel_rfl) [[], [], [1], [0, 1, 2], [], [4], [0, 1, 2, 3, 4, 5], [0, 1, 2, 3, 4, 5, 6], [0, 1, 2, 3, 4, 5, 6, 7]] (by kernel_rfl) ⟨?_, ?_, ?_, ?_, ?_, ?_, trivial⟩ ?_
        · intro e_ w_ k_ hf_ hR_
          have S_ : St w_ (fun _ => False) w_ [] [bl b29 [I a0.Trips, I a0.Room, SL A1 a0.Counts.length c2] 24, bl b12 [I a1.Who, I a1.From, I a1.To, I a1.Told, I a1.Unit, I a1.Under, I a1.Over] 33, bl b9 [I a0.Trips, I a0.Room, SL A1 a0.Counts.length c2] 24, rd eTallyCount 7 A1 c2 a0.Counts, rd intE 1 A4 c5 a2, bl 0 [Value.func (.func 117) #[] #[], Value.func (.func 119) #[] #[]] 117, bl 1 [I (-1), I (-1)] 115] := S33.asP k_
          refine hopE [] trivial ?_
          refine p_bsl0 eTallyCount sc22 S_ fun A34 w36 S37 => ?_
          refine wp_nil ?_
          exact ⟨_, rfl, S37.keep, ⟨A34, rfl, ⟨BtwL.of (New.al (S37.newX (i := 0) rfl)) rfl (S37.atX (i := 0) rfl) rfl, trivial⟩, (List.forall_mem_cons.2 ⟨(S37.atX (i := 0) rfl), (fun _ h_ => (List.not_mem_nil h_).elim)⟩)⟩⟩
        · intro e_ w_ k_ hf_ hR_
          have S_ : St w_ (fun _ => False) w_ [] [bl b29 [I a0.Trips, I a0.Room, SL A1 a0.Counts.length c2] 24, bl b12 [I a1.Who, I a1.From, I a1.To, I a1.Told, I a1.Unit, I a1.Under, I a1.Over] 33, bl b9 [I a0.Trips, I a0.Room, SL A1 a0.Counts.length c2] 24, rd eTallyCount 7 A1 c2 a0.Counts, rd intE 1 A4 c5 a2, bl 0 [Value.func (.func 117) #[] #[], Value.func (.func 119) #[] #[]] 117, bl 1 [I (-1), I (-1)] 115] := S33.asP k_
          refine hopE [(3, P b9 0)] ⟨((hf_ 3 rfl).trans (rfl : _ = P b9 0)), trivial⟩ ?_
          refine p_fld fl24_2 rfl ?_
          refine wp_nil ?_
          exact ⟨_, rfl, S_.keep, rfl⟩
        · intro e_ w_ k_ hf_ hR_
          have S_ : St w_ (fun _ => False) w_ [] [bl b29 [I a0.Trips, I a0.Room, SL A1 a0.Counts.length c2] 24, bl b12 [I a1.Who, I a1.From, I a1.To, I a1.Told, I a1.Unit, I a1.Under, I a1.Over] 33, bl b9 [I a0.Trips, I a0.Room, SL A1 a0.Counts.length c2] 24, rd eTallyCount 7 A1 c2 a0.Counts, rd intE 1 A4 c5 a2, bl 0 [Value.func (.func 117) #[] #[], Value.func (.func 119) #[] #[]] 117, bl 1 [I (-1), I (-1)] 115] := S33.asP k_
          obtain ⟨_, _, _, _, q39⟩ := hR_ 1 39 rfl (Nat.le_of_ble_eq_true rfl) rfl
          refine hopE [(39, P b9 2)] ⟨q39, trivial⟩ ?_
          refine p_ld ty22 (S_.atP (i := 2) rfl) rfl rfl ?_
          refine wp_nil ?_
          exact ⟨_, rfl, S_.keep, rfl⟩
        · intro e_ w_ k_ hf_ hR_
          have S_ : St w_ (fun _ => False) w_ [] [bl b29 [I a0.Trips, I a0.Room, SL A1 a0.Counts.length c2] 24, bl b12 [I a1.Who, I a1.From, I a1.To, I a1.Told, I a1.Unit, I a1.Under, I a1.Over] 33, bl b9 [I a0.Trips, I a0.Room, SL A1 a0.Counts.length c2] 24, rd eTallyCount 7 A1 c2 a0.Counts, rd intE 1 A4 c5 a2, bl 0 [Value.func (.func 117) #[] #[], Value.func (.func 119) #[] #[]] 117, bl 1 [I (-1), I (-1)] 115] := S33.asP k_
          obtain ⟨_, _, _, _, A34, q41, p42, a43⟩ := hR_ 0 38 rfl (Nat.le_of_ble_eq_true rfl) rfl
          replace q41 : e_ 38 = SL A34 0 0 := q41
          have S_ := St.addL' S_ (a43 _ (.head _)) (fun _ _ _ h_ => (List.not_mem_nil h_).elim)
          obtain ⟨_, _, _, _, q44⟩ := hR_ 2 40 rfl (Nat.le_of_ble_eq_true rfl) rfl
          refine hopE [(38, SL A34 0 0), (40, SL A1 a0.Counts.length c2)] ⟨q41, q44, trivial⟩ ?_
          refine p_app0 sc22 in33 (Nat.le_refl _) c40 rfl rfl ?_
          refine wp_nil ?_
          exact ⟨_, rfl, S_.keep, rfl⟩
        · intro e_ w_ k_ hf_ hR_
          have S_ : St w_ (fun _ => False) w_ [] [bl b29 [I a0.Trips, I a0.Room, SL A1 a0.Counts.length c2] 24, bl b12 [I a1.Who, I a1.From, I a1.To, I a1.Told, I a1.Unit, I a1.Under, I a1.Over] 33, bl b9 [I a0.Trips, I a0.Room, SL A1 a0.Counts.length c2] 24, rd eTallyCount 7 A1 c2 a0.Counts, rd intE 1 A4 c5 a2, bl 0 [Value.func (.func 117) #[] #[], Value.func (.func 119) #[] #[]] 117, bl 1 [I (-1), I (-1)] 115] := S33.asP k_
          refine hopE [(4, P b12 0)] ⟨((hf_ 4 rfl).trans (rfl : _ = P b12 0)), trivial⟩ ?_
          refine p_ldA ty33 sz33 (S_.atP (i := 1) rfl) rfl rfl ?_
          refine wp_nil ?_
          exact ⟨_, rfl, S_.keep, rfl⟩
        · intro e_ w_ k_ hf_ hR_
          have S_ : St w_ (fun _ => False) w_ [] [bl b29 [I a0.Trips, I a0.Room, SL A1 a0.Counts.length c2] 24, bl b12 [I a1.Who, I a1.From, I a1.To, I a1.Told, I a1.Unit, I a1.Under, I a1.Over] 33, bl b9 [I a0.Trips, I a0.Room, SL A1 a0.Counts.length c2] 24, rd eTallyCount 7 A1 c2 a0.Counts, rd intE 1 A4 c5 a2, bl 0 [Value.func (.func 117) #[] #[], Value.func (.func 119) #[] #[]] 117, bl 1 [I (-1), I (-1)] 115] := S33.asP k_
          obtain ⟨_, _, _, _, q49⟩ := hR_ 4 42 rfl (Nat.le_of_ble_eq_true rfl) rfl
          refine hopE [(42, AG [I a1.Who, I a1.From, I a1.To, I a1.Told, I a1.Unit, I a1.Under, I a1.Over])] ⟨q49, trivial⟩ ?_
          refine p_bsl (enc := eTallyCount) (l := ([a1] : List TallyCount)) (fun x => AG (eTallyCount x)) (fun _ => rfl) sc22 in33 eTallyCount_len rfl (by decide) (by decide) zr33_1 S_ rfl fun A50 c51 w52 S53 => ?_
          refine wp_nil ?_
          exact ⟨_, rfl, S53.keep, ⟨(A50, c51), rfl, ⟨BtwL.of (New.al (S53.newX (i := 0) rfl)) rfl (S53.atX (i := 0) rfl) rfl, trivial⟩, (List.forall_mem_cons.2 ⟨(S53.atX (i := 0) rfl), (fun _ h_ => (List.not_mem_nil h_).elim)⟩)⟩⟩
        intro e55 w56 lo57 hi58 k59 hf60 hR61 hd62
        have S63 := S33.call k59
        obtain ⟨h65, h66, h67, A34, q64, h68, h69⟩ := hR61 0 38 (Nat.le_of_ble_eq_true rfl) rfl
        replace q64 : e55 38 = SL A34 0 0 := q64
        obtain ⟨p70, _⟩ := h68
        have q72 : e55 39 = P b9 2 := (hR61 1 39 (Nat.le_of_ble_eq_true rfl) rfl).2.2.2
        have q73 : e55 40 = SL A1 a0.Counts.length c2 := (hR61 2 40 (Nat.le_of_ble_eq_true rfl) rfl).2.2.2
        have q74 : e55 41 = SL A34 0 0 := (Option.some.inj ((congrArg some q64).symm.trans (hR61 3 41 (Nat.le_of_ble_eq_true rfl) rfl).2.2.2)).symm
        have q75 : e55 42 = AG [I a1.Who, I a1.From, I a1.To, I a1.Told, I a1.Unit, I a1.Under, I a1.Over] := (hR61 4 42 (Nat.le_of_ble_eq_true rfl) rfl).2.2.2
        obtain ⟨h77, h78, h79, ⟨A50, c51⟩, q76, h80, h81⟩ := hR61 5 43 (Nat.le_of_ble_eq_true rfl) rfl
        replace q76 : e55 43 = SL A50 ([a1] : List TallyCount).length c51 := q76
        obtain ⟨p82, _⟩ := h80
        have S84 := St.addO S63 (h69 _ (.head _)) (fun b_ h_ => (p70 b_ h_).elim (fun q_ => Nat.le_trans S33.keep.size (Nat.le_trans h65 q_.1)) (fun ⟨_, hq_, _⟩ => (List.not_mem_nil hq_).elim)) (List.forall_mem_cons.2 ⟨(fun b_ h1_ h2_ => (p70 b_ h1_).elim (fun q2_ => by have q1_ := Asr.inb _ _ _ (S33.atX (i := 0) rfl) h2_; omega) (fun ⟨_, hq_, _⟩ => (List.not_mem_nil hq_).elim)), (List.forall_mem_cons.2 ⟨(fun b_ h1_ h2_ => (p70 b_ h1_).elim (fun q2_ => by have q1_ := Asr.inb _ _ _ (S33.atX (i := 1) rfl) h2_; omega) (fun ⟨_, hq_, _⟩ => (List.not_mem_nil hq_).elim)), (List.forall_mem_cons.2 ⟨(fun b_ h1_ h2_ => (p70 b_ h1_).elim (fun q2_ => by have q1_ := Asr.inb _ _ _ (S33.atX (i := 2) rfl) h2_; omega) (fun ⟨_, hq_, _⟩ => (List.not_mem_nil hq_).elim)), (fun _ h_ => (List.not_mem_nil h_).elim)⟩)⟩)⟩) (List.forall_mem_cons.2 ⟨(fun b_ h1_ h2_ => (p70 b_ h1_).elim (fun q2_ => by have q1_ := Asr.inb _ _ _ (S33.atP (i := 0) rfl) h2_; omega) (fun ⟨_, hq_, _⟩ => (List.not_mem_nil hq_).elim)), (List.forall_mem_cons.2 ⟨(fun b_ h1_ h2_ => (p70 b_ h1_).elim (fun q2_ => by have q1_ := Asr.inb _ _ _ (S33.atP (i := 1) rfl) h2_; omega) (fun ⟨_, hq_, _⟩ => (List.not_mem_nil hq_).elim)), (List.forall_mem_cons.2 ⟨(fun b_ h1_ h2_ => (p70 b_ h1_).elim (fun q2_ => by have q1_ := Asr.inb _ _ _ (S33.atP (i := 2) rfl) h2_; omega) (fun ⟨_, hq_, _⟩ => (List.not_mem_nil hq_).elim)), (List.forall_mem_cons.2 ⟨(fun b_ h1_ h2_ => (p70 b_ h1_).elim (fun q2_ => by have q1_ := Asr.inb _ _ _ (S33.atP (i := 3) rfl) h2_; omega) (fun ⟨_, hq_, _⟩ => (List.not_mem_nil hq_).elim)), (fun _ h_ => (List.not_mem_nil h_).elim)⟩)⟩)⟩)⟩)
        have S85 := St.addO S84 (h81 _ (.head _)) (fun b_ h_ => (p82 b_ h_).elim (fun q_ => Nat.le_trans S33.keep.size (Nat.le_trans h77 q_.1)) (fun ⟨_, hq_, _⟩ => (List.not_mem_nil hq_).elim)) (List.forall_mem_cons.2 ⟨(fun b_ h1_ h2_ => (p82 b_ h1_).elim (fun q1_ => (p70 b_ h2_).elim (fun q2_ => by have q3_ := hd62 5 0 (Nat.le_of_ble_eq_true rfl) (Nat.le_of_ble_eq_true rfl) (by decide); omega) (fun ⟨q_, hq_, hqb_⟩ => by have q5_ := h77; have q4_ := Asr.inb _ _ _ (S33.ps q_ (((fun _ h_ => (List.not_mem_nil h_).elim)) q_ hq_)) hqb_; omega)) (fun ⟨_, hq_, _⟩ => (List.not_mem_nil hq_).elim)), (List.forall_mem_cons.2 ⟨(fun b_ h1_ h2_ => (p82 b_ h1_).elim (fun q2_ => by have q1_ := Asr.inb _ _ _ (S33.atX (i := 0) rfl) h2_; omega) (fun ⟨_, hq_, _⟩ => (List.not_mem_nil hq_).elim)), (List.forall_mem_cons.2 ⟨(fun b_ h1_ h2_ => (p82 b_ h1_).elim (fun q2_ => by have q1_ := Asr.inb _ _ _ (S33.atX (i := 1) rfl) h2_; omega) (fun ⟨_, hq_, _⟩ => (List.not_mem_nil hq_).elim)), (List.forall_mem_cons.2 ⟨(fun b_ h1_ h2_ => (p82 b_ h1_).elim (fun q2_ => by have q1_ := Asr.inb _ _ _ (S33.atX (i := 2) rfl) h2_; omega) (fun ⟨_, hq_, _⟩ => (List.not_mem_nil hq_).elim)), (fun _ h_ => (List.not_mem_nil h_).elim)⟩)⟩)⟩)⟩) (List.forall_mem_cons.2 ⟨(fun b_ h1_ h2_ => (p82 b_ h1_).elim (fun q2_ => by have q1_ := Asr.inb _ _ _ (S33.atP (i := 0) rfl) h2_; omega) (fun ⟨_, hq_, _⟩ => (List.not_mem_nil hq_).elim)), (List.forall_mem_cons.2 ⟨(fun b_ h1_ h2_ => (p82 b_ h1_).elim (fun q2_ => by have q1_ := Asr.inb _ _ _ (S33.atP (i := 1) rfl) h2_; omega) (fun ⟨_, hq_, _⟩ => (List.not_mem_nil hq_).elim)), (List.forall_mem_cons.2 ⟨(fun b_ h1_ h2_ => (p82 b_ h1_).elim (fun q2_ => by have q1_ := Asr.inb _ _ _ (S33.atP (i := 2) rfl) h2_; omega) (fun ⟨_, hq_, _⟩ => (List.not_mem_nil hq_).elim)), (List.forall_mem_cons.2 ⟨(fun b_ h1_ h2_ => (p82 b_ h1_).elim (fun q2_ => by have q1_ := Asr.inb _ _ _ (S33.atP (i := 3) rfl) h2_; omega) (fun ⟨_, hq_, _⟩ => (List.not_mem_nil hq_).elim)), (fun _ h_ => (List.not_mem_nil h_).elim)⟩)⟩)⟩)⟩)
        refine tailE [(2, SL A4 a2.length c5), (3, P b9 0), (4, P b12 0), (7, P b29 0), (41, SL A34 0 0), (43, SL A50 ([a1] : List TallyCount).length c51)] ⟨((hf60 2 rfl).trans (rfl : _ = SL A4 a2.length c5)), ((hf60 3 rfl).trans (rfl : _ = P b9 0)), ((hf60 4 rfl).trans (rfl : _ = P b12 0)), ((hf60 7 rfl).trans (rfl : _ = P b29 0)), q74, q76, trivial⟩ ?_
        intro g86
        obtain ⟨h91, H⟩ := needS H
        refine p_app (enc := eTallyCount) sc22 in33 rfl eTallyCount_len eTallyCount_one (by decide) S85 (k := 1) rfl (gr_sl eTallyCount_len (S85.atX (i := 0) rfl)) h91 (by simp) rfl rfl fun A89 c90 w87 S88 => ?_
        refine p_fld fl24_2 rfl ?_
        refine p_stP (pre := [I a0.Trips, I a0.Room]) (old := [SL A1 a0.Counts.length c2]) (post := []) (vs := [SL A89 ([a1] : List TallyCount).length c90]) sz22 S88 (i := 2) rfl rfl rfl rfl (rfl : _ = SL A89 ([a1] : List TallyCount).length c90) rfl rfl rfl rfl fun w92 S93 => ?_
        refine wp_nil ?_
        refine c_seq ?_
        refine reg ?_
        refine p_ldA ty24 sz24 (S93.atX (i := 4) rfl) rfl rfl ?_
        refine p_ldA ty33 sz33 (S93.atX (i := 3) rfl) rfl rfl ?_
        obtain ⟨r94, h95, H⟩ := bindS H
        refine p_cv (tally_Fits_ok h95 (S93.atP (i := 0) rfl) (S93.atP (i := 2) rfl) (S93.atP (i := 3) rfl)) fu36 rfl S93 fun w96 S97 => ?_
        refine p_mT rfl ?_
        refine p_ext rfl rfl ?_
        refine p_ext rfl rfl ?_
        refine p_aB rfl ?_
        refine p_aI rfl ?_
        refine wp_nil ?_
        refine c_seq ?_
        refine reg ?_
        refine p_ldA ty24 sz24 (S97.atX (i := 2) rfl) rfl rfl ?_
        obtain ⟨r98, h99, H⟩ := bindS H
        refine p_cv (tally_Right_ok h99 (gr_rd eTallyCount_len (S97.atX (i := 1) rfl)) (S97.atP (i := 2) rfl) (S97.atP (i := 3) rfl)) fu28 rfl S97 fun w100 S101 => ?_
        refine p_mT rfl ?_
        refine p_ext rfl rfl ?_
        refine p_ext rfl rfl ?_
        refine p_aB rfl ?_
        refine p_aI rfl ?_
        refine wp_nil ?_
        refine c_seq ?_
        refine c_seq ?_
        refine reg ?_
        refine p_mI rfl ?_
        refine p_cmp rfl rfl rfl ?_
        refine wp_nil ?_
        refine c_cond rfl (fun c102 => ?_) (fun c102 => ?_)
        · replace H := condT c102 H
          refine c_seq ?_
          refine reg ?_
          refine p_mI rfl ?_
          refine p_cmp rfl rfl rfl ?_
          refine p_mB rfl ?_
          rcases Bool.eq_false_or_eq_true ((r98.2 == 50)) with c103 | c103
          · replace H := condT c103 H
            refine eB c103 ?_
            refine gT rfl rfl (p_mI rfl ?_)
            refine gT rfl rfl (p_cmp rfl rfl rfl ?_)
            refine p_pkT rfl (rfl : _ = B (r94.2 == 51)) ?_
            refine p_mB rfl ?_
            rcases Bool.eq_false_or_eq_true ((r94.2 == 51)) with c104 | c104
            · replace H := condT c104 H
              refine eB c104 ?_
              obtain ⟨r105, h106, H⟩ := bindS H
              refine gT rfl rfl (p_cv (law_counted_ok h106 (S101.atP (i := 2) rfl) (S101.atP (i := 3) rfl)) fu19 rfl S101 fun w107 S108 => ?_)
              refine p_pkT rfl (rfl : _ = B r105) ?_
              refine p_aB rfl ?_
              refine wp_nil ?_
              obtain rfl := Option.some.inj H
              refine c_ret ?_; show bodyPostM (Fr none) 0 Tryd.prog Tryd.f9 _ .ret _ _
              refine ret_of (res1 rfl (rvT (rfl : _ = B r105))) ?_
              exact ⟨_, rfl, rfl, S108.keep⟩
            · replace H := condF c104 H
              refine eB c104 ?_
              refine gF rfl rfl ?_
              refine p_pkF rfl (rfl : _ = B false) ?_
              refine p_aB rfl ?_
              refine wp_nil ?_
              obtain rfl := Option.some.inj H
              refine c_ret ?_; show bodyPostM (Fr none) 0 Tryd.prog Tryd.f9 _ .ret _ _
              refine ret_of (res1 rfl (rvT (rfl : _ = B false))) ?_
              exact ⟨_, rfl, rfl, S101.keep⟩
          · replace H := condF c103 H
            refine eB c103 ?_
            refine gF rfl rfl ?_
            refine gF rfl rfl ?_
            refine p_pkF rfl (rfl : _ = B false) ?_
            refine p_mB rfl ?_
            refine gF rfl rfl ?_
            refine p_pkF rfl (rfl : _ = B false) ?_
            refine p_aB rfl ?_
            refine wp_nil ?_
            obtain rfl := Option.some.inj H
            refine c_ret ?_; show bodyPostM (Fr none) 0 Tryd.prog Tryd.f9 _ .ret _ _
            refine ret_of (res1 rfl (rvT (rfl : _ = B false))) ?_
            exact ⟨_, rfl, rfl, S101.keep⟩
        · replace H := condF c102 H
          refine c_skip ?_
          refine c_seq ?_
          refine reg ?_
          refine p_ldA ty24 sz24 (S101.atX (i := 4) rfl) rfl rfl ?_
          obtain ⟨r109, h110, H⟩ := bindS H
          refine p_cal (tally_Wrong_ok h110 (S101.atP (i := 0) rfl) (S101.atP (i := 2) rfl) (S101.atP (i := 3) rfl)) fu30 rfl ?_
          rintro _ w111 ⟨A113, c114, rfl, k112, ⟨o115, n116⟩, _⟩
          have S117 := S101.callN k112 [rd intE 1 A113 c114 r109.1] (List.forall_mem_cons.2 ⟨⟨o115, Al.inL n116 ((List.forall_mem_cons.2 ⟨(fp_mem (i := 0) rfl), (fun _ h_ => (List.not_mem_nil h_).elim)⟩))⟩, (fun _ h_ => (List.not_mem_nil h_).elim)⟩)
          refine p_mT rfl ?_
          refine p_ext rfl rfl ?_
          refine p_ext rfl rfl ?_
          refine p_aS rfl ?_
          refine p_aI rfl ?_
          refine wp_nil ?_
          refine c_seq ?_
          refine reg ?_
          refine p_ldA ty24 sz24 (S117.atX (i := 2) rfl) rfl rfl ?_
          have S118 := S117.fixRd eTallyCount_len (i := 1) rfl
          obtain ⟨r119, h120, H⟩ := bindS H
          refine p_cal (tally_Wrong_ok h120 (S118.atP (i := 0) rfl) (S118.atP (i := 4) rfl) (S118.atP (i := 5) rfl)) fu30 rfl ?_
          rintro _ w121 ⟨A123, c124, rfl, k122, ⟨o125, n126⟩, _⟩
          have S127 := S118.callN k122 [rd intE 1 A123 c124 r119.1] (List.forall_mem_cons.2 ⟨⟨o125, Al.inL n126 ((List.forall_mem_cons.2 ⟨(fp_mem (i := 0) rfl), (fun _ h_ => (List.not_mem_nil h_).elim)⟩))⟩, (fun _ h_ => (List.not_mem_nil h_).elim)⟩)
          refine p_mT rfl ?_
          refine p_ext rfl rfl ?_
          refine p_ext rfl rfl ?_
          refine p_aS rfl ?_
          refine p_aI rfl ?_
          refine wp_nil ?_
          refine c_join (α := Unit) (β := Unit) (fun z_1 y_1 => [(2, SL A4 a2.length c5), (3, P b9 0), (7, P b29 0), (9, I r94.2), (10, B r98.1)]) (fun z_1 y_1 w_ => law_TallyMore_j2 a0 a2 a1 r98 r94 z_1 = some r ∧ St w (fun _ => False) w_ [gr eTallyCount 7 33 A50 c51 ([a1] : List TallyCount), bl b29 [I a0.Trips, I a0.Room, SL A89 ([a1] : List TallyCount).length c90] 24, bl b12 [I a1.Who, I a1.From, I a1.To, I a1.Told, I a1.Unit, I a1.Under, I a1.Over] 33, bl b9 [I a0.Trips, I a0.Room, SL A1 a0.Counts.length c2] 24] [rd eTallyCount 7 A89 c90 ([a1] : List TallyCount), rd intE 1 A123 c124 r119.1, rd intE 1 A113 c114 r109.1, rd eTallyCount 7 A1 c2 a0.Counts, rd intE 1 A4 c5 a2, bl 0 [Value.func (.func 117) #[] #[], Value.func (.func 119) #[] #[]] 117, bl 1 [I (-1), I (-1)] 115]) ?_ ?_
          · refine c_seq ?_
            refine reg ?_
            refine p_mI rfl ?_
            refine p_cmp rfl rfl rfl ?_
            refine p_mB rfl ?_
            rcases Bool.eq_false_or_eq_true ((r94.2 != 0)) with c128 | c128
            · replace H := condT c128 H
              refine eB c128 ?_
              refine gT rfl rfl (p_mI rfl ?_)
              refine gT rfl rfl (p_cmp rfl rfl rfl ?_)
              refine p_pkT rfl (rfl : _ = B (r94.2 != 52)) ?_
              refine p_mB rfl ?_
              rcases Bool.eq_false_or_eq_true ((r94.2 != 52)) with c129 | c129
              · replace H := condT c129 H
                refine eB c129 ?_
                refine gF rfl rfl ?_
                refine gF rfl rfl ?_
                refine gF rfl rfl ?_
                refine gF rfl rfl ?_
                refine o_guardU rfl rfl ?_
                refine gF rfl rfl ?_
                refine gF rfl rfl ?_
                refine p_pkT rfl (rfl : _ = B true) ?_
                refine p_mB rfl ?_
                refine gF rfl rfl ?_
                refine gF rfl rfl ?_
                refine p_pkT rfl (rfl : _ = B true) ?_
                refine p_mB rfl ?_
                refine gF rfl rfl ?_
                refine gF rfl rfl ?_
                refine p_pkT rfl (rfl : _ = B true) ?_
                refine p_mB rfl ?_
                refine gF rfl rfl ?_
                refine gF rfl rfl ?_
                refine gF rfl rfl ?_
                refine gF rfl rfl ?_
                refine gF rfl rfl ?_
                refine p_pkT rfl (rfl : _ = B true) ?_
                refine wp_nil ?_
                refine c_true rfl ?_
                refine c_seq ?_
                refine reg ?_
                refine p_aB rfl ?_
                refine wp_nil ?_
                obtain rfl := Option.some.inj H
                refine c_ret ?_; show bodyPostM (Fr none) 0 Tryd.prog Tryd.f9 _ .ret _ _
                refine ret_of (res1 rfl (rvT (rfl : _ = B false))) ?_
                exact ⟨_, rfl, rfl, S127.keep⟩
              · replace H := condF c129 H
                refine eB c129 ?_
                refine gT rfl rfl (p_mB rfl ?_)
                refine gT rfl rfl (p_mI rfl ?_)
                refine gT rfl rfl (p_cmp rfl rfl rfl ?_)
                refine gT rfl rfl (p_mB rfl ?_)
                rcases Bool.eq_false_or_eq_true ((r94.2 == 0)) with c130 | c130
                · replace H := condT c130 H
                  refine eB c130 ?_
                  refine gT rfl rfl (p_mB rfl ?_)
                  refine gT rfl rfl (p_pkT rfl (rfl : _ = B r94.1) ?_)
                  refine gT rfl rfl (o_neB rfl rfl ub4 ?_)
                  refine p_pkF rfl (rfl : _ = B (r98.1 != r94.1)) ?_
                  refine p_mB rfl ?_
                  rcases Bool.eq_false_or_eq_true ((r98.1 != r94.1)) with c131 | c131
                  · replace H := condT c131 H
                    refine eB c131 ?_
                    refine gF rfl rfl ?_
                    refine gF rfl rfl ?_
                    refine p_pkT rfl (rfl : _ = B true) ?_
                    refine p_mB rfl ?_
                    refine gF rfl rfl ?_
                    refine gF rfl rfl ?_
                    refine p_pkT rfl (rfl : _ = B true) ?_
                    refine p_mB rfl ?_
                    refine gF rfl rfl ?_
                    refine gF rfl rfl ?_
                    refine gF rfl rfl ?_
                    refine gF rfl rfl ?_
                    refine gF rfl rfl ?_
                    refine p_pkT rfl (rfl : _ = B true) ?_
                    refine wp_nil ?_
                    refine c_true rfl ?_
                    refine c_seq ?_
                    refine reg ?_
                    refine p_aB rfl ?_
                    refine wp_nil ?_
                    obtain rfl := Option.some.inj H
                    refine c_ret ?_; show bodyPostM (Fr none) 0 Tryd.prog Tryd.f9 _ .ret _ _
                    refine ret_of (res1 rfl (rvT (rfl : _ = B false))) ?_
                    exact ⟨_, rfl, rfl, S127.keep⟩
                  · replace H := condF c131 H
                    refine eB c131 ?_
                    refine gT rfl rfl (p_mI rfl ?_)
                    refine gT rfl rfl (p_cmp rfl rfl rfl ?_)
                    refine p_pkF rfl (rfl : _ = B (r109.2 != 0)) ?_
                    refine p_mB rfl ?_
                    rcases Bool.eq_false_or_eq_true ((r109.2 != 0)) with c132 | c132
                    · replace H := condT c132 H
                      refine eB c132 ?_
                      refine gF rfl rfl ?_
                      refine gF rfl rfl ?_
                      refine p_pkT rfl (rfl : _ = B true) ?_
                      refine p_mB rfl ?_
                      refine gF rfl rfl ?_
                      refine gF rfl rfl ?_
                      refine gF rfl rfl ?_
                      refine gF rfl rfl ?_
                      refine gF rfl rfl ?_
                      refine p_pkT rfl (rfl : _ = B true) ?_
                      refine wp_nil ?_
                      refine c_true rfl ?_
                      refine c_seq ?_
                      refine reg ?_
                      refine p_aB rfl ?_
                      refine wp_nil ?_
                      obtain rfl := Option.some.inj H
                      refine c_ret ?_; show bodyPostM (Fr none) 0 Tryd.prog Tryd.f9 _ .ret _ _
                      refine ret_of (res1 rfl (rvT (rfl : _ = B false))) ?_
                      exact ⟨_, rfl, rfl, S127.keep⟩
                    · replace H := condF c132 H
                      refine eB c132 ?_
                      refine gT rfl rfl (p_mI rfl ?_)
                      refine gT rfl rfl (p_cmp rfl rfl rfl ?_)
                      refine p_pkF rfl (rfl : _ = B (r119.2 != 0)) ?_
                      refine p_mB rfl ?_
                      rcases Bool.eq_false_or_eq_true ((r119.2 != 0)) with c133 | c133
                      · replace H := condT c133 H
                        refine eB c133 ?_
                        refine gF rfl rfl ?_
                        refine gF rfl rfl ?_
                        refine gF rfl rfl ?_
                        refine gF rfl rfl ?_
                        refine gF rfl rfl ?_
                        refine p_pkT rfl (rfl : _ = B true) ?_
                        refine wp_nil ?_
                        refine c_true rfl ?_
                        refine c_seq ?_
                        refine reg ?_
                        refine p_aB rfl ?_
                        refine wp_nil ?_
                        obtain rfl := Option.some.inj H
                        refine c_ret ?_; show bodyPostM (Fr none) 0 Tryd.prog Tryd.f9 _ .ret _ _
                        refine ret_of (res1 rfl (rvT (rfl : _ = B false))) ?_
                        exact ⟨_, rfl, rfl, S127.keep⟩
                      · replace H := condF c133 H
                        refine eB c133 ?_
                        refine gT rfl rfl (p_mS rfl ?_)
                        refine gT rfl rfl (p_len rfl sc31 ?_)
                        refine gT rfl rfl (p_mS rfl ?_)
                        refine gT rfl rfl (p_len rfl sc31 ?_)
                        refine gT rfl rfl (p_cmp rfl rfl rfl ?_)
                        refine p_pkF rfl (rfl : _ = B (decide ((r119.1.length : Int) < (r109.1.length : Int)))) ?_
                        refine wp_nil ?_
                        refine c_cond rfl (fun c134 => ?_) (fun c134 => ?_)
                        · replace H := condT c134 H
                          refine c_seq ?_
                          refine reg ?_
                          refine p_aB rfl ?_
                          refine wp_nil ?_
                          obtain rfl := Option.some.inj H
                          refine c_ret ?_; show bodyPostM (Fr none) 0 Tryd.prog Tryd.f9 _ .ret _ _
                          refine ret_of (res1 rfl (rvT (rfl : _ = B false))) ?_
                          exact ⟨_, rfl, rfl, S127.keep⟩
                        · replace H := condF c134 H
                          refine c_skip ?_
                          have S135 := S127.pk [0, 1, 2, 3] (by decide) [1, 0, 2, 3, 4, 5, 6] rfl rfl
                          exact ⟨(), (), _, rfl, ⟨rfl, rfl, rfl, rfl, rfl, trivial⟩, H, S135⟩
                · replace H := condF c130 H
                  refine eB c130 ?_
                  refine gF rfl rfl ?_
                  refine gT rfl rfl (p_pkF rfl (rfl : _ = B false) ?_)
                  refine gT rfl rfl (o_neB rfl rfl ub4 ?_)
                  refine p_pkF rfl (rfl : _ = B (r98.1 != false)) ?_
                  refine p_mB rfl ?_
                  rcases Bool.eq_false_or_eq_true ((r98.1 != false)) with c136 | c136
                  · replace H := condT c136 H
                    refine eB c136 ?_
                    refine gF rfl rfl ?_
                    refine gF rfl rfl ?_
                    refine p_pkT rfl (rfl : _ = B true) ?_
                    refine p_mB rfl ?_
                    refine gF rfl rfl ?_
                    refine gF rfl rfl ?_
                    refine p_pkT rfl (rfl : _ = B true) ?_
                    refine p_mB rfl ?_
                    refine gF rfl rfl ?_
                    refine gF rfl rfl ?_
                    refine gF rfl rfl ?_
                    refine gF rfl rfl ?_
                    refine gF rfl rfl ?_
                    refine p_pkT rfl (rfl : _ = B true) ?_
                    refine wp_nil ?_
                    refine c_true rfl ?_
                    refine c_seq ?_
                    refine reg ?_
                    refine p_aB rfl ?_
                    refine wp_nil ?_
                    obtain rfl := Option.some.inj H
                    refine c_ret ?_; show bodyPostM (Fr none) 0 Tryd.prog Tryd.f9 _ .ret _ _
                    refine ret_of (res1 rfl (rvT (rfl : _ = B false))) ?_
                    exact ⟨_, rfl, rfl, S127.keep⟩
                  · replace H := condF c136 H
                    refine eB c136 ?_
                    refine gT rfl rfl (p_mI rfl ?_)
                    refine gT rfl rfl (p_cmp rfl rfl rfl ?_)
                    refine p_pkF rfl (rfl : _ = B (r109.2 != 0)) ?_
                    refine p_mB rfl ?_
                    rcases Bool.eq_false_or_eq_true ((r109.2 != 0)) with c137 | c137
                    · replace H := condT c137 H
                      refine eB c137 ?_
                      refine gF rfl rfl ?_
                      refine gF rfl rfl ?_
                      refine p_pkT rfl (rfl : _ = B true) ?_
                      refine p_mB rfl ?_
                      refine gF rfl rfl ?_
                      refine gF rfl rfl ?_
                      refine gF rfl rfl ?_
                      refine gF rfl rfl ?_
                      refine gF rfl rfl ?_
                      refine p_pkT rfl (rfl : _ = B true) ?_
                      refine wp_nil ?_
                      refine c_true rfl ?_
                      refine c_seq ?_
                      refine reg ?_
                      refine p_aB rfl ?_
                      refine wp_nil ?_
                      obtain rfl := Option.some.inj H
                      refine c_ret ?_; show bodyPostM (Fr none) 0 Tryd.prog Tryd.f9 _ .ret _ _
                      refine ret_of (res1 rfl (rvT (rfl : _ = B false))) ?_
                      exact ⟨_, rfl, rfl, S127.keep⟩
                    · replace H := condF c137 H
                      refine eB c137 ?_
                      refine gT rfl rfl (p_mI rfl ?_)
                      refine gT rfl rfl (p_cmp rfl rfl rfl ?_)
                      refine p_pkF rfl (rfl : _ = B (r119.2 != 0)) ?_
                      refine p_mB rfl ?_
                      rcases Bool.eq_false_or_eq_true ((r119.2 != 0)) with c138 | c138
                      · replace H := condT c138 H
                        refine eB c138 ?_
                        refine gF rfl rfl ?_
                        refine gF rfl rfl ?_
                        refine gF rfl rfl ?_
                        refine gF rfl rfl ?_
                        refine gF rfl rfl ?_
                        refine p_pkT rfl (rfl : _ = B true) ?_
                        refine wp_nil ?_
                        refine c_true rfl ?_
                        refine c_seq ?_
                        refine reg ?_
                        refine p_aB rfl ?_
                        refine wp_nil ?_
                        obtain rfl := Option.some.inj H
                        refine c_ret ?_; show bodyPostM (Fr none) 0 Tryd.prog Tryd.f9 _ .ret _ _
                        refine ret_of (res1 rfl (rvT (rfl : _ = B false))) ?_
                        exact ⟨_, rfl, rfl, S127.keep⟩
                      · replace H := condF c138 H
                        refine eB c138 ?_
                        refine gT rfl rfl (p_mS rfl ?_)
                        refine gT rfl rfl (p_len rfl sc31 ?_)
                        refine gT rfl rfl (p_mS rfl ?_)
                        refine gT rfl rfl (p_len rfl sc31 ?_)
                        refine gT rfl rfl (p_cmp rfl rfl rfl ?_)
                        refine p_pkF rfl (rfl : _ = B (decide ((r119.1.length : Int) < (r109.1.length : Int)))) ?_
                        refine wp_nil ?_
                        refine c_cond rfl (fun c139 => ?_) (fun c139 => ?_)
                        · replace H := condT c139 H
                          refine c_seq ?_
                          refine reg ?_
                          refine p_aB rfl ?_
                          refine wp_nil ?_
                          obtain rfl := Option.some.inj H
                          refine c_ret ?_; show bodyPostM (Fr none) 0 Tryd.prog Tryd.f9 _ .ret _ _
                          refine ret_of (res1 rfl (rvT (rfl : _ = B false))) ?_
                          exact ⟨_, rfl, rfl, S127.keep⟩
                        · replace H := condF c139 H
                          refine c_skip ?_
                          have S140 := S127.pk [0, 1, 2, 3] (by decide) [1, 0, 2, 3, 4, 5, 6] rfl rfl
                          exact ⟨(), (), _, rfl, ⟨rfl, rfl, rfl, rfl, rfl, trivial⟩, H, S140⟩
            · replace H := condF c128 H
              refine eB c128 ?_
              refine gF rfl rfl ?_
              refine gF rfl rfl ?_
              refine p_pkF rfl (rfl : _ = B false) ?_
              refine p_mB rfl ?_
              refine gT rfl rfl (p_mB rfl ?_)
              refine gT rfl rfl (p_mI rfl ?_)
              refine gT rfl rfl (p_cmp rfl rfl rfl ?_)
              refine gT rfl rfl (p_mB rfl ?_)
              rcases Bool.eq_false_or_eq_true ((r94.2 == 0)) with c141 | c141
              · replace H := condT c141 H
                refine eB c141 ?_
                refine gT rfl rfl (p_mB rfl ?_)
                refine gT rfl rfl (p_pkT rfl (rfl : _ = B r94.1) ?_)
                refine gT rfl rfl (o_neB rfl rfl ub4 ?_)
                refine p_pkF rfl (rfl : _ = B (r98.1 != r94.1)) ?_
                refine p_mB rfl ?_
                rcases Bool.eq_false_or_eq_true ((r98.1 != r94.1)) with c142 | c142
                · replace H := condT c142 H
                  refine eB c142 ?_
                  refine gF rfl rfl ?_
                  refine gF rfl rfl ?_
                  refine p_pkT rfl (rfl : _ = B true) ?_
                  refine p_mB rfl ?_
                  refine gF rfl rfl ?_
                  refine gF rfl rfl ?_
                  refine p_pkT rfl (rfl : _ = B true) ?_
                  refine p_mB rfl ?_
                  refine gF rfl rfl ?_
                  refine gF rfl rfl ?_
                  refine gF rfl rfl ?_
                  refine gF rfl rfl ?_
                  refine gF rfl rfl ?_
                  refine p_pkT rfl (rfl : _ = B true) ?_
                  refine wp_nil ?_
                  refine c_true rfl ?_
                  refine c_seq ?_
                  refine reg ?_
                  refine p_aB rfl ?_
                  refine wp_nil ?_
                  obtain rfl := Option.some.inj H
                  refine c_ret ?_; show bodyPostM (Fr none) 0 Tryd.prog Tryd.f9 _ .ret _ _
                  refine ret_of (res1 rfl (rvT (rfl : _ = B false))) ?_
                  exact ⟨_, rfl, rfl, S127.keep⟩
                · replace H := condF c142 H
                  refine eB c142 ?_
                  refine gT rfl rfl (p_mI rfl ?_)
                  refine gT rfl rfl (p_cmp rfl rfl rfl ?_)
                  refine p_pkF rfl (rfl : _ = B (r109.2 != 0)) ?_
                  refine p_mB rfl ?_
                  rcases Bool.eq_false_or_eq_true ((r109.2 != 0)) with c143 | c143
                  · replace H := condT c143 H
                    refine eB c143 ?_
                    refine gF rfl rfl ?_
                    refine gF rfl rfl ?_
                    refine p_pkT rfl (rfl : _ = B true) ?_
                    refine p_mB rfl ?_
                    refine gF rfl rfl ?_
                    refine gF rfl rfl ?_
                    refine gF rfl rfl ?_
                    refine gF rfl rfl ?_
                    refine gF rfl rfl ?_
                    refine p_pkT rfl (rfl : _ = B true) ?_
                    refine wp_nil ?_
                    refine c_true rfl ?_
                    refine c_seq ?_
                    refine reg ?_
                    refine p_aB rfl ?_
                    refine wp_nil ?_
                    obtain rfl := Option.some.inj H
                    refine c_ret ?_; show bodyPostM (Fr none) 0 Tryd.prog Tryd.f9 _ .ret _ _
                    refine ret_of (res1 rfl (rvT (rfl : _ = B false))) ?_
                    exact ⟨_, rfl, rfl, S127.keep⟩
                  · replace H := condF c143 H
                    refine eB c143 ?_
                    refine gT rfl rfl (p_mI rfl ?_)
                    refine gT rfl rfl (p_cmp rfl rfl rfl ?_)
                    refine p_pkF rfl (rfl : _ = B (r119.2 != 0)) ?_
                    refine p_mB rfl ?_
                    rcases Bool.eq_false_or_eq_true ((r119.2 != 0)) with c144 | c144
                    · replace H := condT c144 H
                      refine eB c144 ?_
                      refine gF rfl rfl ?_
                      refine gF rfl rfl ?_
                      refine gF rfl rfl ?_
                      refine gF rfl rfl ?_
                      refine gF rfl rfl ?_
                      refine p_pkT rfl (rfl : _ = B true) ?_
                      refine wp_nil ?_
                      refine c_true rfl ?_
                      refine c_seq ?_
                      refine reg ?_
                      refine p_aB rfl ?_
                      refine wp_nil ?_
                      obtain rfl := Option.some.inj H
                      refine c_ret ?_; show bodyPostM (Fr none) 0 Tryd.prog Tryd.f9 _ .ret _ _
                      refine ret_of (res1 rfl (rvT (rfl : _ = B false))) ?_
                      exact ⟨_, rfl, rfl, S127.keep⟩
                    · replace H := condF c144 H
                      refine eB c144 ?_
                      refine gT rfl rfl (p_mS rfl ?_)
                      refine gT rfl rfl (p_len rfl sc31 ?_)
                      refine gT rfl rfl (p_mS rfl ?_)
                      refine gT rfl rfl (p_len rfl sc31 ?_)
                      refine gT rfl rfl (p_cmp rfl rfl rfl ?_)
                      refine p_pkF rfl (rfl : _ = B (decide ((r119.1.length : Int) < (r109.1.length : Int)))) ?_
                      refine wp_nil ?_
                      refine c_cond rfl (fun c145 => ?_) (fun c145 => ?_)
                      · replace H := condT c145 H
                        refine c_seq ?_
                        refine reg ?_
                        refine p_aB rfl ?_
                        refine wp_nil ?_
                        obtain rfl := Option.some.inj H
                        refine c_ret ?_; show bodyPostM (Fr none) 0 Tryd.prog Tryd.f9 _ .ret _ _
                        refine ret_of (res1 rfl (rvT (rfl : _ = B false))) ?_
                        exact ⟨_, rfl, rfl, S127.keep⟩
                      · replace H := condF c145 H
                        refine c_skip ?_
                        have S146 := S127.pk [0, 1, 2, 3] (by decide) [1, 0, 2, 3, 4, 5, 6] rfl rfl
                        exact ⟨(), (), _, rfl, ⟨rfl, rfl, rfl, rfl, rfl, trivial⟩, H, S146⟩
              · replace H := condF c141 H
                refine eB c141 ?_
                refine gF rfl rfl ?_
                refine gT rfl rfl (p_pkF rfl (rfl : _ = B false) ?_)
                refine gT rfl rfl (o_neB rfl rfl ub4 ?_)
                refine p_pkF rfl (rfl : _ = B (r98.1 != false)) ?_
                refine p_mB rfl ?_
                rcases Bool.eq_false_or_eq_true ((r98.1 != false)) with c147 | c147
                · replace H := condT c147 H
                  refine eB c147 ?_
                  refine gF rfl rfl ?_
                  refine gF rfl rfl ?_
                  refine p_pkT rfl (rfl : _ = B true) ?_
                  refine p_mB rfl ?_
                  refine gF rfl rfl ?_
                  refine gF rfl rfl ?_
                  refine p_pkT rfl (rfl : _ = B true) ?_
                  refine p_mB rfl ?_
                  refine gF rfl rfl ?_
                  refine gF rfl rfl ?_
                  refine gF rfl rfl ?_
                  refine gF rfl rfl ?_
                  refine gF rfl rfl ?_
                  refine p_pkT rfl (rfl : _ = B true) ?_
                  refine wp_nil ?_
                  refine c_true rfl ?_
                  refine c_seq ?_
                  refine reg ?_
                  refine p_aB rfl ?_
                  refine wp_nil ?_
                  obtain rfl := Option.some.inj H
                  refine c_ret ?_; show bodyPostM (Fr none) 0 Tryd.prog Tryd.f9 _ .ret _ _
                  refine ret_of (res1 rfl (rvT (rfl : _ = B false))) ?_
                  exact ⟨_, rfl, rfl, S127.keep⟩
                · replace H := condF c147 H
                  refine eB c147 ?_
                  refine gT rfl rfl (p_mI rfl ?_)
                  refine gT rfl rfl (p_cmp rfl rfl rfl ?_)
                  refine p_pkF rfl (rfl : _ = B (r109.2 != 0)) ?_
                  refine p_mB rfl ?_
                  rcases Bool.eq_false_or_eq_true ((r109.2 != 0)) with c148 | c148
                  · replace H := condT c148 H
                    refine eB c148 ?_
                    refine gF rfl rfl ?_
                    refine gF rfl rfl ?_
                    refine p_pkT rfl (rfl : _ = B true) ?_
                    refine p_mB rfl ?_
                    refine gF rfl rfl ?_
                    refine gF rfl rfl ?_
                    refine gF rfl rfl ?_
                    refine gF rfl rfl ?_
                    refine gF rfl rfl ?_
                    refine p_pkT rfl (rfl : _ = B true) ?_
                    refine wp_nil ?_
                    refine c_true rfl ?_
                    refine c_seq ?_
                    refine reg ?_
                    refine p_aB rfl ?_
                    refine wp_nil ?_
                    obtain rfl := Option.some.inj H
                    refine c_ret ?_; show bodyPostM (Fr none) 0 Tryd.prog Tryd.f9 _ .ret _ _
                    refine ret_of (res1 rfl (rvT (rfl : _ = B false))) ?_
                    exact ⟨_, rfl, rfl, S127.keep⟩
                  · replace H := condF c148 H
                    refine eB c148 ?_
                    refine gT rfl rfl (p_mI rfl ?_)
                    refine gT rfl rfl (p_cmp rfl rfl rfl ?_)
                    refine p_pkF rfl (rfl : _ = B (r119.2 != 0)) ?_
                    refine p_mB rfl ?_
                    rcases Bool.eq_false_or_eq_true ((r119.2 != 0)) with c149 | c149
                    · replace H := condT c149 H
                      refine eB c149 ?_
                      refine gF rfl rfl ?_
                      refine gF rfl rfl ?_
                      refine gF rfl rfl ?_
                      refine gF rfl rfl ?_
                      refine gF rfl rfl ?_
                      refine p_pkT rfl (rfl : _ = B true) ?_
                      refine wp_nil ?_
                      refine c_true rfl ?_
                      refine c_seq ?_
                      refine reg ?_
                      refine p_aB rfl ?_
                      refine wp_nil ?_
                      obtain rfl := Option.some.inj H
                      refine c_ret ?_; show bodyPostM (Fr none) 0 Tryd.prog Tryd.f9 _ .ret _ _
                      refine ret_of (res1 rfl (rvT (rfl : _ = B false))) ?_
                      exact ⟨_, rfl, rfl, S127.keep⟩
                    · replace H := condF c149 H
                      refine eB c149 ?_
                      refine gT rfl rfl (p_mS rfl ?_)
                      refine gT rfl rfl (p_len rfl sc31 ?_)
                      refine gT rfl rfl (p_mS rfl ?_)
                      refine gT rfl rfl (p_len rfl sc31 ?_)
                      refine gT rfl rfl (p_cmp rfl rfl rfl ?_)
                      refine p_pkF rfl (rfl : _ = B (decide ((r119.1.length : Int) < (r109.1.length : Int)))) ?_
                      refine wp_nil ?_
                      refine c_cond rfl (fun c150 => ?_) (fun c150 => ?_)
                      · replace H := condT c150 H
                        refine c_seq ?_
                        refine reg ?_
                        refine p_aB rfl ?_
                        refine wp_nil ?_
                        obtain rfl := Option.some.inj H
                        refine c_ret ?_; show bodyPostM (Fr none) 0 Tryd.prog Tryd.f9 _ .ret _ _
                        refine ret_of (res1 rfl (rvT (rfl : _ = B false))) ?_
                        exact ⟨_, rfl, rfl, S127.keep⟩
                      · replace H := condF c150 H
                        refine c_skip ?_
                        have S151 := S127.pk [0, 1, 2, 3] (by decide) [1, 0, 2, 3, 4, 5, 6] rfl rfl
                        exact ⟨(), (), _, rfl, ⟨rfl, rfl, rfl, rfl, rfl, trivial⟩, H, S151⟩
          · intro z_1 y_1 e128 w129 S130; obtain ⟨H, S130⟩ := S130
            unfold law_TallyMore_j2 at H
            refine c_seq ?_
            refine reg ?_
            refine p_ldA ty24 sz24 (S130.atX (i := 3) rfl) rfl rfl ?_
            refine p_mS rfl ?_
            obtain ⟨r131, h132, H⟩ := bindS H
            refine p_cal (law_truly_ok h132 (S130.atP (i := 3) rfl) (S130.atP (i := 4) rfl)) fu25 rfl ?_
            rintro _ w133 ⟨A135, c136, rfl, k134, ⟨o137, n138⟩, _⟩
            have S140 := S130.addNew k134 o137 n138
            refine p_aS rfl ?_
            refine wp_nil ?_
            refine c_seq ?_
            refine reg ?_
            refine p_ldA ty24 sz24 (S140.atX (i := 4) rfl) rfl rfl ?_
            refine p_mS rfl ?_
            obtain ⟨r141, h142, H⟩ := bindS H
            refine p_cv (tally_Can_ok h142 (S140.atP (i := 3) rfl) (gr_rd intE_len (S140.atX (i := 0) rfl)) (S140.atP (i := 5) rfl)) fu29 rfl S140 fun w143 S144 => ?_
            refine p_mT rfl ?_
            refine p_ext rfl rfl ?_
            refine p_ext rfl rfl ?_
            refine p_aB rfl ?_
            refine p_aI rfl ?_
            refine wp_nil ?_
            refine c_seq ?_
            refine reg ?_
            refine p_ldA ty24 sz24 (S144.atX (i := 2) rfl) rfl rfl ?_
            refine p_mS rfl ?_
            obtain ⟨r145, h146, H⟩ := bindS H
            refine p_cv (tally_Can_ok h146 (S144.atP (i := 0) rfl) (gr_rd intE_len (S144.atX (i := 0) rfl)) (S144.atP (i := 5) rfl)) fu29 rfl S144 fun w147 S148 => ?_
            refine p_mT rfl ?_
            refine p_ext rfl rfl ?_
            refine p_ext rfl rfl ?_
            refine p_aB rfl ?_
            refine p_aI rfl ?_
            refine wp_nil ?_
            refine c_join (α := Unit) (β := Unit) (fun z_2 y_2 => [(2, SL A4 a2.length c5), (3, P b9 0), (7, P b29 0), (10, B r98.1)]) (fun z_2 y_2 w_ => law_TallyMore_j1 r98 a2 a0 a1 z_2 = some r ∧ St w (fun _ => False) w_ [gr intE 1 3 A135 c136 r131, gr eTallyCount 7 33 A50 c51 ([a1] : List TallyCount), bl b29 [I a0.Trips, I a0.Room, SL A89 ([a1] : List TallyCount).length c90] 24, bl b12 [I a1.Who, I a1.From, I a1.To, I a1.Told, I a1.Unit, I a1.Under, I a1.Over] 33, bl b9 [I a0.Trips, I a0.Room, SL A1 a0.Counts.length c2] 24] [rd eTallyCount 7 A89 c90 ([a1] : List TallyCount), rd intE 1 A123 c124 r119.1, rd intE 1 A113 c114 r109.1, rd eTallyCount 7 A1 c2 a0.Counts, rd intE 1 A4 c5 a2, bl 0 [Value.func (.func 117) #[] #[], Value.func (.func 119) #[] #[]] 117, bl 1 [I (-1), I (-1)] 115]) ?_ ?_
            · refine c_seq ?_
              refine reg ?_
              refine p_mI rfl ?_
              refine p_cmp rfl rfl rfl ?_
              refine p_mB rfl ?_
              rcases Bool.eq_false_or_eq_true ((r141.2 != 0)) with c149 | c149
              · replace H := condT c149 H
                refine eB c149 ?_
                refine gF rfl rfl ?_
                refine gF rfl rfl ?_
                refine p_pkT rfl (rfl : _ = B true) ?_
                refine p_mB rfl ?_
                refine gF rfl rfl ?_
                refine gF rfl rfl ?_
                refine o_guardU rfl rfl ?_
                refine o_guardU rfl rfl ?_
                refine gF rfl rfl ?_
                refine p_pkT rfl (rfl : _ = B true) ?_
                refine p_mB rfl ?_
                refine gF rfl rfl ?_
                refine gF rfl rfl ?_
                refine o_guardU rfl rfl ?_
                refine o_guardU rfl rfl ?_
                refine gF rfl rfl ?_
                refine p_pkT rfl (rfl : _ = B true) ?_
                refine p_mB rfl ?_
                refine gF rfl rfl ?_
                refine gF rfl rfl ?_
                refine o_guardU rfl rfl ?_
                refine o_guardU rfl rfl ?_
                refine gF rfl rfl ?_
                refine p_pkT rfl (rfl : _ = B true) ?_
                refine wp_nil ?_
                refine c_true rfl ?_
                refine c_seq ?_
                refine reg ?_
                refine p_aB rfl ?_
                refine wp_nil ?_
                obtain rfl := Option.some.inj H
                refine c_ret ?_; show bodyPostM (Fr none) 0 Tryd.prog Tryd.f9 _ .ret _ _
                refine ret_of (res1 rfl (rvT (rfl : _ = B false))) ?_
                exact ⟨_, rfl, rfl, S148.keep⟩
              · replace H := condF c149 H
                refine eB c149 ?_
                refine gT rfl rfl (p_mI rfl ?_)
                refine gT rfl rfl (p_cmp rfl rfl rfl ?_)
                refine p_pkF rfl (rfl : _ = B (r145.2 != 0)) ?_
                refine p_mB rfl ?_
                rcases Bool.eq_false_or_eq_true ((r145.2 != 0)) with c150 | c150
                · replace H := condT c150 H
                  refine eB c150 ?_
                  refine gF rfl rfl ?_
                  refine gF rfl rfl ?_
                  refine o_guardU rfl rfl ?_
                  refine o_guardU rfl rfl ?_
                  refine gF rfl rfl ?_
                  refine p_pkT rfl (rfl : _ = B true) ?_
                  refine p_mB rfl ?_
                  refine gF rfl rfl ?_
                  refine gF rfl rfl ?_
                  refine o_guardU rfl rfl ?_
                  refine o_guardU rfl rfl ?_
                  refine gF rfl rfl ?_
                  refine p_pkT rfl (rfl : _ = B true) ?_
                  refine p_mB rfl ?_
                  refine gF rfl rfl ?_
                  refine gF rfl rfl ?_
                  refine o_guardU rfl rfl ?_
                  refine o_guardU rfl rfl ?_
                  refine gF rfl rfl ?_
                  refine p_pkT rfl (rfl : _ = B true) ?_
                  refine wp_nil ?_
                  refine c_true rfl ?_
                  refine c_seq ?_
                  refine reg ?_
                  refine p_aB rfl ?_
                  refine wp_nil ?_
                  obtain rfl := Option.some.inj H
                  refine c_ret ?_; show bodyPostM (Fr none) 0 Tryd.prog Tryd.f9 _ .ret _ _
                  refine ret_of (res1 rfl (rvT (rfl : _ = B false))) ?_
                  exact ⟨_, rfl, rfl, S148.keep⟩
                · replace H := condF c150 H
                  refine eB c150 ?_
                  refine gT rfl rfl (p_mB rfl ?_)
                  refine gT rfl rfl (p_mB rfl ?_)
                  rcases Bool.eq_false_or_eq_true (r145.1) with c151 | c151
                  · replace H := condT c151 H
                    refine eB c151 ?_
                    refine gT rfl rfl (p_mB rfl ?_)
                    refine gT rfl rfl (p_not rfl ?_)
                    refine gT rfl rfl (p_pkT rfl (rfl : _ = B (!r141.1)) ?_)
                    refine p_pkF rfl (rfl : _ = B (!r141.1)) ?_
                    refine p_mB rfl ?_
                    rcases Bool.eq_false_or_eq_true (!r141.1) with c152 | c152
                    · replace H := condT c152 H
                      refine eB c152 ?_
                      refine gF rfl rfl ?_
                      refine gF rfl rfl ?_
                      refine o_guardU rfl rfl ?_
                      refine o_guardU rfl rfl ?_
                      refine gF rfl rfl ?_
                      refine p_pkT rfl (rfl : _ = B true) ?_
                      refine p_mB rfl ?_
                      refine gF rfl rfl ?_
                      refine gF rfl rfl ?_
                      refine o_guardU rfl rfl ?_
                      refine o_guardU rfl rfl ?_
                      refine gF rfl rfl ?_
                      refine p_pkT rfl (rfl : _ = B true) ?_
                      refine wp_nil ?_
                      refine c_true rfl ?_
                      refine c_seq ?_
                      refine reg ?_
                      refine p_aB rfl ?_
                      refine wp_nil ?_
                      obtain rfl := Option.some.inj H
                      refine c_ret ?_; show bodyPostM (Fr none) 0 Tryd.prog Tryd.f9 _ .ret _ _
                      refine ret_of (res1 rfl (rvT (rfl : _ = B false))) ?_
                      exact ⟨_, rfl, rfl, S148.keep⟩
                    · replace H := condF c152 H
                      refine eB c152 ?_
                      refine gT rfl rfl (p_mB rfl ?_)
                      refine gT rfl rfl (p_mB rfl ?_)
                      rcases Bool.eq_false_or_eq_true (r145.1) with c153 | c153
                      · replace H := condT c153 H
                        refine eB c153 ?_
                        refine gT rfl rfl (p_mB rfl ?_)
                        refine gT rfl rfl (p_not rfl ?_)
                        refine gT rfl rfl (p_pkT rfl (rfl : _ = B (!r98.1)) ?_)
                        refine p_pkF rfl (rfl : _ = B (!r98.1)) ?_
                        refine p_mB rfl ?_
                        rcases Bool.eq_false_or_eq_true (!r98.1) with c154 | c154
                        · replace H := condT c154 H
                          refine eB c154 ?_
                          refine gF rfl rfl ?_
                          refine gF rfl rfl ?_
                          refine o_guardU rfl rfl ?_
                          refine o_guardU rfl rfl ?_
                          refine gF rfl rfl ?_
                          refine p_pkT rfl (rfl : _ = B true) ?_
                          refine wp_nil ?_
                          refine c_true rfl ?_
                          refine c_seq ?_
                          refine reg ?_
                          refine p_aB rfl ?_
                          refine wp_nil ?_
                          obtain rfl := Option.some.inj H
                          refine c_ret ?_; show bodyPostM (Fr none) 0 Tryd.prog Tryd.f9 _ .ret _ _
                          refine ret_of (res1 rfl (rvT (rfl : _ = B false))) ?_
                          exact ⟨_, rfl, rfl, S148.keep⟩
                        · replace H := condF c154 H
                          refine eB c154 ?_
                          refine gT rfl rfl (p_mB rfl ?_)
                          refine gT rfl rfl (p_mB rfl ?_)
                          rcases Bool.eq_false_or_eq_true (r141.1) with c155 | c155
                          · replace H := condT c155 H
                            refine eB c155 ?_
                            refine gT rfl rfl (p_mI rfl ?_)
                            refine gT rfl rfl (p_cmp rfl rfl rfl ?_)
                            refine gT rfl rfl (p_pkT rfl (rfl : _ = B (r94.2 != 0)) ?_)
                            refine p_pkF rfl (rfl : _ = B (r94.2 != 0)) ?_
                            refine wp_nil ?_
                            refine c_cond rfl (fun c156 => ?_) (fun c156 => ?_)
                            · replace H := condT c156 H
                              refine c_seq ?_
                              refine reg ?_
                              refine p_aB rfl ?_
                              refine wp_nil ?_
                              obtain rfl := Option.some.inj H
                              refine c_ret ?_; show bodyPostM (Fr none) 0 Tryd.prog Tryd.f9 _ .ret _ _
                              refine ret_of (res1 rfl (rvT (rfl : _ = B false))) ?_
                              exact ⟨_, rfl, rfl, S148.keep⟩
                            · replace H := condF c156 H
                              refine c_skip ?_
                              exact ⟨(), (), _, rfl, ⟨rfl, rfl, rfl, rfl, trivial⟩, H, S148⟩
                          · replace H := condF c155 H
                            refine eB c155 ?_
                            refine gF rfl rfl ?_
                            refine gF rfl rfl ?_
                            refine gT rfl rfl (p_pkF rfl (rfl : _ = B false) ?_)
                            refine p_pkF rfl (rfl : _ = B false) ?_
                            refine wp_nil ?_
                            refine c_false rfl ?_
                            refine c_skip ?_
                            exact ⟨(), (), _, rfl, ⟨rfl, rfl, rfl, rfl, trivial⟩, H, S148⟩
                      · replace H := condF c153 H
                        refine eB c153 ?_
                        refine gF rfl rfl ?_
                        refine gF rfl rfl ?_
                        refine gT rfl rfl (p_pkF rfl (rfl : _ = B false) ?_)
                        refine p_pkF rfl (rfl : _ = B false) ?_
                        refine p_mB rfl ?_
                        refine gT rfl rfl (p_mB rfl ?_)
                        refine gT rfl rfl (p_mB rfl ?_)
                        rcases Bool.eq_false_or_eq_true (r141.1) with c157 | c157
                        · replace H := condT c157 H
                          refine eB c157 ?_
                          refine gT rfl rfl (p_mI rfl ?_)
                          refine gT rfl rfl (p_cmp rfl rfl rfl ?_)
                          refine gT rfl rfl (p_pkT rfl (rfl : _ = B (r94.2 != 0)) ?_)
                          refine p_pkF rfl (rfl : _ = B (r94.2 != 0)) ?_
                          refine wp_nil ?_
                          refine c_cond rfl (fun c158 => ?_) (fun c158 => ?_)
                          · replace H := condT c158 H
                            refine c_seq ?_
                            refine reg ?_
                            refine p_aB rfl ?_
                            refine wp_nil ?_
                            obtain rfl := Option.some.inj H
                            refine c_ret ?_; show bodyPostM (Fr none) 0 Tryd.prog Tryd.f9 _ .ret _ _
                            refine ret_of (res1 rfl (rvT (rfl : _ = B false))) ?_
                            exact ⟨_, rfl, rfl, S148.keep⟩
                          · replace H := condF c158 H
                            refine c_skip ?_
                            exact ⟨(), (), _, rfl, ⟨rfl, rfl, rfl, rfl, trivial⟩, H, S148⟩
                        · replace H := condF c157 H
                          refine eB c157 ?_
                          refine gF rfl rfl ?_
                          refine gF rfl rfl ?_
                          refine gT rfl rfl (p_pkF rfl (rfl : _ = B false) ?_)
                          refine p_pkF rfl (rfl : _ = B false) ?_
                          refine wp_nil ?_
                          refine c_false rfl ?_
                          refine c_skip ?_
                          exact ⟨(), (), _, rfl, ⟨rfl, rfl, rfl, rfl, trivial⟩, H, S148⟩
                  · replace H := condF c151 H
                    refine eB c151 ?_
                    refine gF rfl rfl ?_
                    refine gF rfl rfl ?_
                    refine gT rfl rfl (p_pkF rfl (rfl : _ = B false) ?_)
                    refine p_pkF rfl (rfl : _ = B false) ?_
                    refine p_mB rfl ?_
                    refine gT rfl rfl (p_mB rfl ?_)
                    refine gT rfl rfl (p_mB rfl ?_)
                    rcases Bool.eq_false_or_eq_true (r145.1) with c159 | c159
                    · replace H := condT c159 H
                      refine eB c159 ?_
                      refine gT rfl rfl (p_mB rfl ?_)
                      refine gT rfl rfl (p_not rfl ?_)
                      refine gT rfl rfl (p_pkT rfl (rfl : _ = B (!r98.1)) ?_)
                      refine p_pkF rfl (rfl : _ = B (!r98.1)) ?_
                      refine p_mB rfl ?_
                      rcases Bool.eq_false_or_eq_true (!r98.1) with c160 | c160
                      · replace H := condT c160 H
                        refine eB c160 ?_
                        refine gF rfl rfl ?_
                        refine gF rfl rfl ?_
                        refine o_guardU rfl rfl ?_
                        refine o_guardU rfl rfl ?_
                        refine gF rfl rfl ?_
                        refine p_pkT rfl (rfl : _ = B true) ?_
                        refine wp_nil ?_
                        refine c_true rfl ?_
                        refine c_seq ?_
                        refine reg ?_
                        refine p_aB rfl ?_
                        refine wp_nil ?_
                        obtain rfl := Option.some.inj H
                        refine c_ret ?_; show bodyPostM (Fr none) 0 Tryd.prog Tryd.f9 _ .ret _ _
                        refine ret_of (res1 rfl (rvT (rfl : _ = B false))) ?_
                        exact ⟨_, rfl, rfl, S148.keep⟩
                      · replace H := condF c160 H
                        refine eB c160 ?_
                        refine gT rfl rfl (p_mB rfl ?_)
                        refine gT rfl rfl (p_mB rfl ?_)
                        rcases Bool.eq_false_or_eq_true (r141.1) with c161 | c161
                        · replace H := condT c161 H
                          refine eB c161 ?_
                          refine gT rfl rfl (p_mI rfl ?_)
                          refine gT rfl rfl (p_cmp rfl rfl rfl ?_)
                          refine gT rfl rfl (p_pkT rfl (rfl : _ = B (r94.2 != 0)) ?_)
                          refine p_pkF rfl (rfl : _ = B (r94.2 != 0)) ?_
                          refine wp_nil ?_
                          refine c_cond rfl (fun c162 => ?_) (fun c162 => ?_)
                          · replace H := condT c162 H
                            refine c_seq ?_
                            refine reg ?_
                            refine p_aB rfl ?_
                            refine wp_nil ?_
                            obtain rfl := Option.some.inj H
                            refine c_ret ?_; show bodyPostM (Fr none) 0 Tryd.prog Tryd.f9 _ .ret _ _
                            refine ret_of (res1 rfl (rvT (rfl : _ = B false))) ?_
                            exact ⟨_, rfl, rfl, S148.keep⟩
                          · replace H := condF c162 H
                            refine c_skip ?_
                            exact ⟨(), (), _, rfl, ⟨rfl, rfl, rfl, rfl, trivial⟩, H, S148⟩
                        · replace H := condF c161 H
                          refine eB c161 ?_
                          refine gF rfl rfl ?_
                          refine gF rfl rfl ?_
                          refine gT rfl rfl (p_pkF rfl (rfl : _ = B false) ?_)
                          refine p_pkF rfl (rfl : _ = B false) ?_
                          refine wp_nil ?_
                          refine c_false rfl ?_
                          refine c_skip ?_
                          exact ⟨(), (), _, rfl, ⟨rfl, rfl, rfl, rfl, trivial⟩, H, S148⟩
                    · replace H := condF c159 H
                      refine eB c159 ?_
                      refine gF rfl rfl ?_
                      refine gF rfl rfl ?_
                      refine gT rfl rfl (p_pkF rfl (rfl : _ = B false) ?_)
                      refine p_pkF rfl (rfl : _ = B false) ?_
                      refine p_mB rfl ?_
                      refine gT rfl rfl (p_mB rfl ?_)
                      refine gT rfl rfl (p_mB rfl ?_)
                      rcases Bool.eq_false_or_eq_true (r141.1) with c163 | c163
                      · replace H := condT c163 H
                        refine eB c163 ?_
                        refine gT rfl rfl (p_mI rfl ?_)
                        refine gT rfl rfl (p_cmp rfl rfl rfl ?_)
                        refine gT rfl rfl (p_pkT rfl (rfl : _ = B (r94.2 != 0)) ?_)
                        refine p_pkF rfl (rfl : _ = B (r94.2 != 0)) ?_
                        refine wp_nil ?_
                        refine c_cond rfl (fun c164 => ?_) (fun c164 => ?_)
                        · replace H := condT c164 H
                          refine c_seq ?_
                          refine reg ?_
                          refine p_aB rfl ?_
                          refine wp_nil ?_
                          obtain rfl := Option.some.inj H
                          refine c_ret ?_; show bodyPostM (Fr none) 0 Tryd.prog Tryd.f9 _ .ret _ _
                          refine ret_of (res1 rfl (rvT (rfl : _ = B false))) ?_
                          exact ⟨_, rfl, rfl, S148.keep⟩
                        · replace H := condF c164 H
                          refine c_skip ?_
                          exact ⟨(), (), _, rfl, ⟨rfl, rfl, rfl, rfl, trivial⟩, H, S148⟩
                      · replace H := condF c163 H
                        refine eB c163 ?_
                        refine gF rfl rfl ?_
                        refine gF rfl rfl ?_
                        refine gT rfl rfl (p_pkF rfl (rfl : _ = B false) ?_)
                        refine p_pkF rfl (rfl : _ = B false) ?_
                        refine wp_nil ?_
                        refine c_false rfl ?_
                        refine c_skip ?_
                        exact ⟨(), (), _, rfl, ⟨rfl, rfl, rfl, rfl, trivial⟩, H, S148⟩
            · intro z_2 y_2 e149 w150 S151; obtain ⟨H, S151⟩ := S151
              unfold law_TallyMore_j1 at H
              refine c_seq ?_
              refine c_seq ?_
              refine reg ?_
              refine p_mB rfl ?_
              refine p_not rfl ?_
              refine wp_nil ?_
              refine c_cond rfl (fun c152 => ?_) (fun c152 => ?_)
              · replace H := condT c152 H
                refine c_seq ?_
                refine reg ?_
                obtain ⟨r153, h154, H⟩ := bindS H
                refine p_cv (law_counted_ok h154 (S151.atP (i := 5) rfl) (S151.atP (i := 6) rfl)) fu19 rfl S151 fun w155 S156 => ?_
                refine p_aB rfl ?_
                refine wp_nil ?_
                obtain rfl := Option.some.inj H
                refine c_ret ?_; show bodyPostM (Fr none) 0 Tryd.prog Tryd.f9 _ .ret _ _
                refine ret_of (res1 rfl (rvT (rfl : _ = B r153))) ?_
                exact ⟨_, rfl, rfl, S156.keep⟩
              · replace H := condF c152 H
                refine c_skip ?_
                refine c_seq ?_
                obtain ⟨r157, h158, H⟩ := bindS H
                obtain ⟨r159, h160, H⟩ := bindS H
                refine reg_q mixed 6 (by kernel_rfl) ?_
                refine dS (fun _ k_ => p_mS rfl dn) ?_
                refine dS (fun _ k_ => p_cvD (B_Choose_ok h158 (Asr.stays (S151.atP (i := 4) rfl) k_)) fu43 rfl) ?_
                refine dS (fun _ k_ => p_fld fl24_0 rfl dn) ?_
                refine dS (fun _ k_ => p_ld ty3 (Asr.stays (S151.atX (i := 4) rfl) k_) rfl rfl dn) ?_
                refine dS (fun _ k_ => p_cvD (B_Mod_ok h160) fu27 rfl) ?_
                refine dS (fun _ k_ => p_aI rfl dn) ?_
                intro w161 k162; have S163 := S151.call k162
                refine wp_nil ?_
                refine c_seq ?_
                obtain ⟨r164, h165, H⟩ := bindS H
                obtain ⟨r166, h167, H⟩ := bindS H
                refine reg_q mixed 10 (by kernel_rfl) ?_
                refine dS (fun _ k_ => p_mI rfl dn) ?_
                refine dS (fun _ k_ => p_mS rfl dn) ?_
                refine dS (fun _ k_ => p_cvD (B_Choose_ok h165 (Asr.stays (S163.atP (i := 4) rfl) k_)) fu43 rfl) ?_
                refine dS (fun _ k_ => p_fld fl24_0 rfl dn) ?_
                refine dS (fun _ k_ => p_ld ty3 (Asr.stays (S163.atX (i := 4) rfl) k_) rfl rfl dn) ?_
                refine dS (fun _ k_ => p_mI rfl dn) ?_
                refine dS (fun _ k_ => p_sub rfl rfl dn) ?_
                refine dS (fun _ k_ => p_cvD (B_Mod_ok h167) fu27 rfl) ?_
                refine dS (fun _ k_ => p_add rfl rfl dn) ?_
                refine dS (fun _ k_ => p_aI rfl dn) ?_
                intro w168 k169; have S170 := S163.call k169
                refine wp_nil ?_
                refine c_seq ?_
                refine reg ?_
                refine p_ldA ty24 sz24 (S170.atX (i := 4) rfl) rfl rfl ?_
                refine p_mI rfl ?_
                refine p_mI rfl ?_
                obtain ⟨r171, h172, H⟩ := bindS H
                refine p_cv (tally_Many_ok h172 (S170.atP (i := 3) rfl) (S170.atP (i := 5) rfl) (S170.atP (i := 6) rfl)) fu32 rfl S170 fun w173 S174 => ?_
                refine p_mT rfl ?_
                refine p_ext rfl rfl ?_
                refine p_ext rfl rfl ?_
                refine p_allA in49 S174 fun b175 w176 S177 => ?_
                refine p_stP (pre := []) (old := [I 0, I 0]) (post := []) (vs := [I r171.1.Low, I r171.1.High]) sz49 S177 (i := 0) rfl rfl rfl rfl (rfl : _ = AG [I r171.1.Low, I r171.1.High]) rfl rfl rfl rfl fun w178 S179 => ?_
                refine p_aI rfl ?_
                refine wp_nil ?_
                refine c_seq ?_
                refine reg ?_
                refine p_ldA ty24 sz24 (S179.atX (i := 3) rfl) rfl rfl ?_
                refine p_mI rfl ?_
                refine p_mI rfl ?_
                obtain ⟨r180, h181, H⟩ := bindS H
                refine p_cv (tally_Many_ok h181 (S179.atP (i := 0) rfl) (S179.atP (i := 5) rfl) (S179.atP (i := 6) rfl)) fu32 rfl S179 fun w182 S183 => ?_
                refine p_mT rfl ?_
                refine p_ext rfl rfl ?_
                refine p_ext rfl rfl ?_
                refine p_allA in49 S183 fun b184 w185 S186 => ?_
                refine p_stP (pre := []) (old := [I 0, I 0]) (post := []) (vs := [I r180.1.Low, I r180.1.High]) sz49 S186 (i := 0) rfl rfl rfl rfl (rfl : _ = AG [I r180.1.Low, I r180.1.High]) rfl rfl rfl rfl fun w187 S188 => ?_
                refine p_aI rfl ?_
                refine wp_nil ?_
                refine c_seq ?_
                refine reg ?_
                refine p_mI rfl ?_
                refine p_cmp rfl rfl rfl ?_
                refine p_mB rfl ?_
                rcases Bool.eq_false_or_eq_true ((r171.2 == 0)) with c189 | c189
                · replace H := condT c189 H
                  refine eB c189 ?_
                  refine gT rfl rfl (p_mI rfl ?_)
                  refine gT rfl rfl (p_cmp rfl rfl rfl ?_)
                  refine p_pkT rfl (rfl : _ = B (r180.2 == 0)) ?_
                  refine p_mB rfl ?_
                  rcases Bool.eq_false_or_eq_true ((r180.2 == 0)) with c190 | c190
                  · replace H := condT c190 H
                    refine eB c190 ?_
                    refine gT rfl rfl (p_ldA ty49 sz49 (S188.atX (i := 1) rfl) rfl rfl ?_)
                    refine gT rfl rfl (p_ldA ty49 sz49 (S188.atX (i := 0) rfl) rfl rfl ?_)
                    obtain ⟨r191, h192, H⟩ := bindS H
                    refine gT rfl rfl (p_cv (B_Covers_ok h192) fu44 rfl S188 fun w193 S194 => ?_)
                    refine p_pkT rfl (rfl : _ = B r191) ?_
                    refine p_mB rfl ?_
                    rcases Bool.eq_false_or_eq_true (r191) with c195 | c195
                    · replace H := condT c195 H
                      refine eB c195 ?_
                      refine gT rfl rfl (p_fld fl49_0 rfl ?_)
                      refine gT rfl rfl (p_ld ty3 (S194.atX (i := 0) rfl) rfl rfl ?_)
                      refine gT rfl rfl (p_fld fl49_1 rfl ?_)
                      refine gT rfl rfl (p_ld ty3 (S194.atX (i := 0) rfl) rfl rfl ?_)
                      refine gT rfl rfl (p_cmp rfl rfl rfl ?_)
                      refine p_pkT rfl (rfl : _ = B (decide (r180.1.Low ≤ r180.1.High))) ?_
                      refine p_mB rfl ?_
                      rcases Bool.eq_false_or_eq_true (decide (r180.1.Low ≤ r180.1.High)) with c196 | c196
                      · replace H := condT c196 H
                        refine eB c196 ?_
                        obtain ⟨r197, h198, H⟩ := bindS H
                        refine gT rfl rfl (p_cv (law_counted_ok h198 (S194.atP (i := 5) rfl) (S194.atP (i := 6) rfl)) fu19 rfl S194 fun w199 S200 => ?_)
                        refine p_pkT rfl (rfl : _ = B r197) ?_
                        refine p_aB rfl ?_
                        refine wp_nil ?_
                        obtain rfl := Option.some.inj H
                        refine c_ret ?_; show bodyPostM (Fr none) 0 Tryd.prog Tryd.f9 _ .ret _ _
                        refine ret_of (res1 rfl (rvT (rfl : _ = B r197))) ?_
                        exact ⟨_, rfl, rfl, S200.keep⟩
                      · replace H := condF c196 H
                        refine eB c196 ?_
                        refine gF rfl rfl ?_
                        refine p_pkF rfl (rfl : _ = B false) ?_
                        refine p_aB rfl ?_
                        refine wp_nil ?_
                        obtain rfl := Option.some.inj H
                        refine c_ret ?_; show bodyPostM (Fr none) 0 Tryd.prog Tryd.f9 _ .ret _ _
                        refine ret_of (res1 rfl (rvT (rfl : _ = B false))) ?_
                        exact ⟨_, rfl, rfl, S194.keep⟩
                    · replace H := condF c195 H
                      refine eB c195 ?_
                      refine gF rfl rfl ?_
                      refine gF rfl rfl ?_
                      refine gF rfl rfl ?_
                      refine gF rfl rfl ?_
                      refine gF rfl rfl ?_
                      refine p_pkF rfl (rfl : _ = B false) ?_
                      refine p_mB rfl ?_
                      refine gF rfl rfl ?_
                      refine p_pkF rfl (rfl : _ = B false) ?_
                      refine p_aB rfl ?_
                      refine wp_nil ?_
                      obtain rfl := Option.some.inj H
                      refine c_ret ?_; show bodyPostM (Fr none) 0 Tryd.prog Tryd.f9 _ .ret _ _
                      refine ret_of (res1 rfl (rvT (rfl : _ = B false))) ?_
                      exact ⟨_, rfl, rfl, S194.keep⟩
                  · replace H := condF c190 H
                    refine eB c190 ?_
                    refine gF rfl rfl ?_
                    refine gF rfl rfl ?_
                    refine gF rfl rfl ?_
                    refine p_pkF rfl (rfl : _ = B false) ?_
                    refine p_mB rfl ?_
                    refine gF rfl rfl ?_
                    refine gF rfl rfl ?_
                    refine gF rfl rfl ?_
                    refine gF rfl rfl ?_
                    refine gF rfl rfl ?_
                    refine p_pkF rfl (rfl : _ = B false) ?_
                    refine p_mB rfl ?_
                    refine gF rfl rfl ?_
                    refine p_pkF rfl (rfl : _ = B false) ?_
                    refine p_aB rfl ?_
                    refine wp_nil ?_
                    obtain rfl := Option.some.inj H
                    refine c_ret ?_; show bodyPostM (Fr none) 0 Tryd.prog Tryd.f9 _ .ret _ _
                    refine ret_of (res1 rfl (rvT (rfl : _ = B false))) ?_
                    exact ⟨_, rfl, rfl, S188.keep⟩
                · replace H := condF c189 H
                  refine eB c189 ?_
                  refine gF rfl rfl ?_
                  refine gF rfl rfl ?_
                  refine p_pkF rfl (rfl : _ = B false) ?_
                  refine p_mB rfl ?_
                  refine gF rfl rfl ?_
                  refine gF rfl rfl ?_
                  refine gF rfl rfl ?_
                  refine p_pkF rfl (rfl : _ = B false) ?_
                  refine p_mB rfl ?_
                  refine gF rfl rfl ?_
                  refine gF rfl rfl ?_
                  refine gF rfl rfl ?_
                  refine gF rfl rfl ?_
                  refine gF rfl rfl ?_
                  refine p_pkF rfl (rfl : _ = B false) ?_
                  refine p_mB rfl ?_
                  refine gF rfl rfl ?_
                  refine p_pkF rfl (rfl : _ = B false) ?_
                  refine p_aB rfl ?_
                  refine wp_nil ?_
                  obtain rfl := Option.some.inj H
                  refine c_ret ?_; show bodyPostM (Fr none) 0 Tryd.prog Tryd.f9 _ .ret _ _
                  refine ret_of (res1 rfl (rvT (rfl : _ = B false))) ?_
                  exact ⟨_, rfl, rfl, S188.keep⟩
      · replace H := condF c40 H
        obtain ⟨h160, H⟩ := needS H
        refine reg_any mixed 6 (by kernel_rfl) [rx (α := (Option Addr)) (fun A34 => SL A34 0 0) (fun A34 lo hi => BtwL lo hi [] (gr eTallyCount 7 33 A34 0 ([] : List TallyCount)) ∧ True) (fun A34 => [gr eTallyCount 7 33 A34 0 ([] : List TallyCount)]), rv (P b9 2), rv (SL A1 a0.Counts.length c2), rx (α := (Option Addr) × Nat) (fun ⟨A158, c159⟩ => SL A158 a0.Counts.length c159) (fun ⟨A158, c159⟩ lo hi => BtwL lo hi [] (gr eTallyCount 7 33 A158 c159 a0.Counts) ∧ True) (fun ⟨A158, c159⟩ => [gr eTallyCount 7 33 A158 c159 a0.Counts]), rv (AG [I a1.Who, I a1.From, I a1.To, I a1.Told, I a1.Unit, I a1.Under, I a1.Over]), rx (α := (Option Addr) × Nat) (fun ⟨A163, c164⟩ => SL A163 ([a1] : List TallyCount).length c164) (fun ⟨A163, c164⟩ lo hi => BtwL lo hi [] (gr eTallyCount 7 33 A163 c164 ([a1] : List TallyCount)) ∧ True) (fun ⟨A163, c164⟩ => [gr eTallyCount 7 33 A163 c164 ([a1] : List TallyCount)])] [[], [], [], [], [], []] rfl (by kernel_rfl) [[], [], [1], [0, 1, 2], [], [4], [0, 1, 2, 3, 4, 5], [0, 1, 2, 3, 4, 5, 6], [0, 1, 2, 3, 4, 5, 6, 7]] (by kernel_rfl) ⟨?_, ?_, ?_, ?_, ?_, ?_, trivial⟩ ?_
        · intro e_ w_ k_ hf_ hR_
          have S_ : St w_ (fun _ => False) w_ [] [bl b29 [I a0.Trips, I a0.Room, SL A1 a0.Counts.length c2] 24, bl b12 [I a1.Who, I a1.From, I a1.To, I a1.Told, I a1.Unit, I a1.Under, I a1.Over] 33, bl b9 [I a0.Trips, I a0.Room, SL A1 a0.Counts.length c2] 24, rd eTallyCount 7 A1 c2 a0.Counts, rd intE 1 A4 c5 a2, bl 0 [Value.func (.func 117) #[] #[], Value.func (.func 119) #[] #[]] 117, bl 1 [I (-1), I (-1)] 115] := S33.asP k_
          refine hopE [] trivial ?_
          refine p_bsl0 eTallyCount sc22 S_ fun A34 w36 S37 => ?_
          refine wp_nil ?_
          exact ⟨_, rfl, S37.keep, ⟨A34, rfl, ⟨BtwL.of (New.al (S37.newX (i := 0) rfl)) rfl (S37.atX (i := 0) rfl) rfl, trivial⟩, (List.forall_mem_cons.2 ⟨(S37.atX (i := 0) rfl), (fun _ h_ => (List.not_mem_nil h_).elim)⟩)⟩⟩
        · intro e_ w_ k_ hf_ hR_
          have S_ : St w_ (fun _ => False) w_ [] [bl b29 [I a0.Trips, I a0.Room, SL A1 a0.Counts.length c2] 24, bl b12 [I a1.Who, I a1.From, I a1.To, I a1.Told, I a1.Unit, I a1.Under, I a1.Over] 33, bl b9 [I a0.Trips, I a0.Room, SL A1 a0.Counts.length c2] 24, rd eTallyCount 7 A1 c2 a0.Counts, rd intE 1 A4 c5 a2, bl 0 [Value.func (.func 117) #[] #[], Value.func (.func 119) #[] #[]] 117, bl 1 [I (-1), I (-1)] 115] := S33.asP k_
          refine hopE [(3, P b9 0)] ⟨((hf_ 3 rfl).trans (rfl : _ = P b9 0)), trivial⟩ ?_
          refine p_fld fl24_2 rfl ?_
          refine wp_nil ?_
          exact ⟨_, rfl, S_.keep, rfl⟩
        · intro e_ w_ k_ hf_ hR_
          have S_ : St w_ (fun _ => False) w_ [] [bl b29 [I a0.Trips, I a0.Room, SL A1 a0.Counts.length c2] 24, bl b12 [I a1.Who, I a1.From, I a1.To, I a1.Told, I a1.Unit, I a1.Under, I a1.Over] 33, bl b9 [I a0.Trips, I a0.Room, SL A1 a0.Counts.length c2] 24, rd eTallyCount 7 A1 c2 a0.Counts, rd intE 1 A4 c5 a2, bl 0 [Value.func (.func 117) #[] #[], Value.func (.func 119) #[] #[]] 117, bl 1 [I (-1), I (-1)] 115] := S33.asP k_
          obtain ⟨_, _, _, _, q39⟩ := hR_ 1 39 rfl (Nat.le_of_ble_eq_true rfl) rfl
          refine hopE [(39, P b9 2)] ⟨q39, trivial⟩ ?_
          refine p_ld ty22 (S_.atP (i := 2) rfl) rfl rfl ?_
          refine wp_nil ?_
          exact ⟨_, rfl, S_.keep, rfl⟩
        · intro e_ w_ k_ hf_ hR_
          have S_ : St w_ (fun _ => False) w_ [] [bl b29 [I a0.Trips, I a0.Room, SL A1 a0.Counts.length c2] 24, bl b12 [I a1.Who, I a1.From, I a1.To, I a1.Told, I a1.Unit, I a1.Under, I a1.Over] 33, bl b9 [I a0.Trips, I a0.Room, SL A1 a0.Counts.length c2] 24, rd eTallyCount 7 A1 c2 a0.Counts, rd intE 1 A4 c5 a2, bl 0 [Value.func (.func 117) #[] #[], Value.func (.func 119) #[] #[]] 117, bl 1 [I (-1), I (-1)] 115] := S33.asP k_
          obtain ⟨_, _, _, _, A34, q152, p153, a154⟩ := hR_ 0 38 rfl (Nat.le_of_ble_eq_true rfl) rfl
          replace q152 : e_ 38 = SL A34 0 0 := q152
          have S_ := St.addL' S_ (a154 _ (.head _)) (fun _ _ _ h_ => (List.not_mem_nil h_).elim)
          obtain ⟨_, _, _, _, q155⟩ := hR_ 2 40 rfl (Nat.le_of_ble_eq_true rfl) rfl
          refine hopE [(38, SL A34 0 0), (40, SL A1 a0.Counts.length c2)] ⟨q152, q155, trivial⟩ ?_
          refine p_appN (enc := eTallyCount) sc22 in33 rfl eTallyCount_len (by decide) S_ (gr_sl eTallyCount_len (S_.atP (i := 0) rfl)) rfl (S_.atP (i := 4) rfl).1 h160 (ne_of_some c40) rfl rfl fun A158 c159 w156 S157 => ?_
          refine wp_nil ?_
          exact ⟨_, rfl, S157.keep, ⟨(A158, c159), rfl, ⟨BtwL.of (New.al (S157.newX (i := 0) rfl)) rfl (S157.atX (i := 0) rfl) rfl, trivial⟩, (List.forall_mem_cons.2 ⟨(S157.atX (i := 0) rfl), (fun _ h_ => (List.not_mem_nil h_).elim)⟩)⟩⟩
        · intro e_ w_ k_ hf_ hR_
          have S_ : St w_ (fun _ => False) w_ [] [bl b29 [I a0.Trips, I a0.Room, SL A1 a0.Counts.length c2] 24, bl b12 [I a1.Who, I a1.From, I a1.To, I a1.Told, I a1.Unit, I a1.Under, I a1.Over] 33, bl b9 [I a0.Trips, I a0.Room, SL A1 a0.Counts.length c2] 24, rd eTallyCount 7 A1 c2 a0.Counts, rd intE 1 A4 c5 a2, bl 0 [Value.func (.func 117) #[] #[], Value.func (.func 119) #[] #[]] 117, bl 1 [I (-1), I (-1)] 115] := S33.asP k_
          refine hopE [(4, P b12 0)] ⟨((hf_ 4 rfl).trans (rfl : _ = P b12 0)), trivial⟩ ?_
          refine p_ldA ty33 sz33 (S_.atP (i := 1) rfl) rfl rfl ?_
          refine wp_nil ?_
          exact ⟨_, rfl, S_.keep, rfl⟩
        · intro e_ w_ k_ hf_ hR_
          have S_ : St w_ (fun _ => False) w_ [] [bl b29 [I a0.Trips, I a0.Room, SL A1 a0.Counts.length c2] 24, bl b12 [I a1.Who, I a1.From, I a1.To, I a1.Told, I a1.Unit, I a1.Under, I a1.Over] 33, bl b9 [I a0.Trips, I a0.Room, SL A1 a0.Counts.length c2] 24, rd eTallyCount 7 A1 c2 a0.Counts, rd intE 1 A4 c5 a2, bl 0 [Value.func (.func 117) #[] #[], Value.func (.func 119) #[] #[]] 117, bl 1 [I (-1), I (-1)] 115] := S33.asP k_
          obtain ⟨_, _, _, _, q162⟩ := hR_ 4 42 rfl (Nat.le_of_ble_eq_true rfl) rfl
          refine hopE [(42, AG [I a1.Who, I a1.From, I a1.To, I a1.Told, I a1.Unit, I a1.Under, I a1.Over])] ⟨q162, trivial⟩ ?_
          refine p_bsl (enc := eTallyCount) (l := ([a1] : List TallyCount)) (fun x => AG (eTallyCount x)) (fun _ => rfl) sc22 in33 eTallyCount_len rfl (by decide) (by decide) zr33_1 S_ rfl fun A163 c164 w165 S166 => ?_
          refine wp_nil ?_
          exact ⟨_, rfl, S166.keep, ⟨(A163, c164), rfl, ⟨BtwL.of (New.al (S166.newX (i := 0) rfl)) rfl (S166.atX (i := 0) rfl) rfl, trivial⟩, (List.forall_mem_cons.2 ⟨(S166.atX (i := 0) rfl), (fun _ h_ => (List.not_mem_nil h_).elim)⟩)⟩⟩
        intro e168 w169 lo170 hi171 k172 hf173 hR174 hd175
        have S176 := S33.call k172
        obtain ⟨h178, h179, h180, A34, q177, h181, h182⟩ := hR174 0 38 (Nat.le_of_ble_eq_true rfl) rfl
        replace q177 : e168 38 = SL A34 0 0 := q177
        obtain ⟨p183, _⟩ := h181
        have q185 : e168 39 = P b9 2 := (hR174 1 39 (Nat.le_of_ble_eq_true rfl) rfl).2.2.2
        have q186 : e168 40 = SL A1 a0.Counts.length c2 := (hR174 2 40 (Nat.le_of_ble_eq_true rfl) rfl).2.2.2
        obtain ⟨h188, h189, h190, ⟨A158, c159⟩, q187, h191, h192⟩ := hR174 3 41 (Nat.le_of_ble_eq_true rfl) rfl
        replace q187 : e168 41 = SL A158 a0.Counts.length c159 := q187
        obtain ⟨p193, _⟩ := h191
        have q195 : e168 42 = AG [I a1.Who, I a1.From, I a1.To, I a1.Told, I a1.Unit, I a1.Under, I a1.Over] := (hR174 4 42 (Nat.le_of_ble_eq_true rfl) rfl).2.2.2
        obtain ⟨h197, h198, h199, ⟨A163, c164⟩, q196, h200, h201⟩ := hR174 5 43 (Nat.le_of_ble_eq_true rfl) rfl
        replace q196 : e168 43 = SL A163 ([a1] : List TallyCount).length c164 := q196
        obtain ⟨p202, _⟩ := h200
        have S204 := St.addO S176 (h192 _ (.head _)) (fun b_ h_ => (p193 b_ h_).elim (fun q_ => Nat.le_trans S33.keep.size (Nat.le_trans h188 q_.1)) (fun ⟨_, hq_, _⟩ => (List.not_mem_nil hq_).elim)) (List.forall_mem_cons.2 ⟨(fun b_ h1_ h2_ => (p193 b_ h1_).elim (fun q2_ => by have q1_ := Asr.inb _ _ _ (S33.atX (i := 0) rfl) h2_; omega) (fun ⟨_, hq_, _⟩ => (List.not_mem_nil hq_).elim)), (List.forall_mem_cons.2 ⟨(fun b_ h1_ h2_ => (p193 b_ h1_).elim (fun q2_ => by have q1_ := Asr.inb _ _ _ (S33.atX (i := 1) rfl) h2_; omega) (fun ⟨_, hq_, _⟩ => (List.not_mem_nil hq_).elim)), (List.forall_mem_cons.2 ⟨(fun b_ h1_ h2_ => (p193 b_ h1_).elim (fun q2_ => by have q1_ := Asr.inb _ _ _ (S33.atX (i := 2) rfl) h2_; omega) (fun ⟨_, hq_, _⟩ => (List.not_mem_nil hq_).elim)), (fun _ h_ => (List.not_mem_nil h_).elim)⟩)⟩)⟩) (List.forall_mem_cons.2 ⟨(fun b_ h1_ h2_ => (p193 b_ h1_).elim (fun q2_ => by have q1_ := Asr.inb _ _ _ (S33.atP (i := 0) rfl) h2_; omega) (fun ⟨_, hq_, _⟩ => (List.not_mem_nil hq_).elim)), (List.forall_mem_cons.2 ⟨(fun b_ h1_ h2_ => (p193 b_ h1_).elim (fun q2_ => by have q1_ := Asr.inb _ _ _ (S33.atP (i := 1) rfl) h2_; omega) (fun ⟨_, hq_, _⟩ => (List.not_mem_nil hq_).elim)), (List.forall_mem_cons.2 ⟨(fun b_ h1_ h2_ => (p193 b_ h1_).elim (fun q2_ => by have q1_ := Asr.inb _ _ _ (S33.atP (i := 2) rfl) h2_; omega) (fun ⟨_, hq_, _⟩ => (List.not_mem_nil hq_).elim)), (List.forall_mem_cons.2 ⟨(fun b_ h1_ h2_ => (p193 b_ h1_).elim (fun q2_ => by have q1_ := Asr.inb _ _ _ (S33.atP (i := 3) rfl) h2_; omega) (fun ⟨_, hq_, _⟩ => (List.not_mem_nil hq_).elim)), (fun _ h_ => (List.not_mem_nil h_).elim)⟩)⟩)⟩)⟩)
        have S205 := St.addO S204 (h201 _ (.head _)) (fun b_ h_ => (p202 b_ h_).elim (fun q_ => Nat.le_trans S33.keep.size (Nat.le_trans h197 q_.1)) (fun ⟨_, hq_, _⟩ => (List.not_mem_nil hq_).elim)) (List.forall_mem_cons.2 ⟨(fun b_ h1_ h2_ => (p202 b_ h1_).elim (fun q1_ => (p193 b_ h2_).elim (fun q2_ => by have q3_ := hd175 5 3 (Nat.le_of_ble_eq_true rfl) (Nat.le_of_ble_eq_true rfl) (by decide); omega) (fun ⟨q_, hq_, hqb_⟩ => by have q5_ := h197; have q4_ := Asr.inb _ _ _ (S33.ps q_ (((fun _ h_ => (List.not_mem_nil h_).elim)) q_ hq_)) hqb_; omega)) (fun ⟨_, hq_, _⟩ => (List.not_mem_nil hq_).elim)), (List.forall_mem_cons.2 ⟨(fun b_ h1_ h2_ => (p202 b_ h1_).elim (fun q2_ => by have q1_ := Asr.inb _ _ _ (S33.atX (i := 0) rfl) h2_; omega) (fun ⟨_, hq_, _⟩ => (List.not_mem_nil hq_).elim)), (List.forall_mem_cons.2 ⟨(fun b_ h1_ h2_ => (p202 b_ h1_).elim (fun q2_ => by have q1_ := Asr.inb _ _ _ (S33.atX (i := 1) rfl) h2_; omega) (fun ⟨_, hq_, _⟩ => (List.not_mem_nil hq_).elim)), (List.forall_mem_cons.2 ⟨(fun b_ h1_ h2_ => (p202 b_ h1_).elim (fun q2_ => by have q1_ := Asr.inb _ _ _ (S33.atX (i := 2) rfl) h2_; omega) (fun ⟨_, hq_, _⟩ => (List.not_mem_nil hq_).elim)), (fun _ h_ => (List.not_mem_nil h_).elim)⟩)⟩)⟩)⟩) (List.forall_mem_cons.2 ⟨(fun b_ h1_ h2_ => (p202 b_ h1_).elim (fun q2_ => by have q1_ := Asr.inb _ _ _ (S33.atP (i := 0) rfl) h2_; omega) (fun ⟨_, hq_, _⟩ => (List.not_mem_nil hq_).elim)), (List.forall_mem_cons.2 ⟨(fun b_ h1_ h2_ => (p202 b_ h1_).elim (fun q2_ => by have q1_ := Asr.inb _ _ _ (S33.atP (i := 1) rfl) h2_; omega) (fun ⟨_, hq_, _⟩ => (List.not_mem_nil hq_).elim)), (List.forall_mem_cons.2 ⟨(fun b_ h1_ h2_ => (p202 b_ h1_).elim (fun q2_ => by have q1_ := Asr.inb _ _ _ (S33.atP (i := 2) rfl) h2_; omega) (fun ⟨_, hq_, _⟩ => (List.not_mem_nil hq_).elim)), (List.forall_mem_cons.2 ⟨(fun b_ h1_ h2_ => (p202 b_ h1_).elim (fun q2_ => by have q1_ := Asr.inb _ _ _ (S33.atP (i := 3) rfl) h2_; omega) (fun ⟨_, hq_, _⟩ => (List.not_mem_nil hq_).elim)), (fun _ h_ => (List.not_mem_nil h_).elim)⟩)⟩)⟩)⟩)
        refine tailE [(2, SL A4 a2.length c5), (3, P b9 0), (4, P b12 0), (7, P b29 0), (41, SL A158 a0.Counts.length c159), (43, SL A163 ([a1] : List TallyCount).length c164)] ⟨((hf173 2 rfl).trans (rfl : _ = SL A4 a2.length c5)), ((hf173 3 rfl).trans (rfl : _ = P b9 0)), ((hf173 4 rfl).trans (rfl : _ = P b12 0)), ((hf173 7 rfl).trans (rfl : _ = P b29 0)), q187, q196, trivial⟩ ?_
        intro g206
        obtain ⟨h211, H⟩ := needS H
        refine p_app (enc := eTallyCount) sc22 in33 rfl eTallyCount_len eTallyCount_one (by decide) S205 (k := 1) rfl (gr_sl eTallyCount_len (S205.atX (i := 0) rfl)) h211 (by simp) rfl rfl fun A209 c210 w207 S208 => ?_
        refine p_fld fl24_2 rfl ?_
        refine p_stP (pre := [I a0.Trips, I a0.Room]) (old := [SL A1 a0.Counts.length c2]) (post := []) (vs := [SL A209 (a0.Counts ++ ([a1] : List TallyCount)).length c210]) sz22 S208 (i := 2) rfl rfl rfl rfl (rfl : _ = SL A209 (a0.Counts ++ ([a1] : List TallyCount)).length c210) rfl rfl rfl rfl fun w212 S213 => ?_
        refine wp_nil ?_
        refine c_seq ?_
        refine reg ?_
        refine p_ldA ty24 sz24 (S213.atX (i := 4) rfl) rfl rfl ?_
        refine p_ldA ty33 sz33 (S213.atX (i := 3) rfl) rfl rfl ?_
        obtain ⟨r214, h215, H⟩ := bindS H
        refine p_cv (tally_Fits_ok h215 (S213.atP (i := 0) rfl) (S213.atP (i := 2) rfl) (S213.atP (i := 3) rfl)) fu36 rfl S213 fun w216 S217 => ?_
        refine p_mT rfl ?_
        refine p_ext rfl rfl ?_
        refine p_ext rfl rfl ?_
        refine p_aB rfl ?_
        refine p_aI rfl ?_
        refine wp_nil ?_
        refine c_seq ?_
        refine reg ?_
        refine p_ldA ty24 sz24 (S217.atX (i := 2) rfl) rfl rfl ?_
        obtain ⟨r218, h219, H⟩ := bindS H
        refine p_cv (tally_Right_ok h219 (gr_rd eTallyCount_len (S217.atX (i := 1) rfl)) (S217.atP (i := 2) rfl) (S217.atP (i := 3) rfl)) fu28 rfl S217 fun w220 S221 => ?_
        refine p_mT rfl ?_
        refine p_ext rfl rfl ?_
        refine p_ext rfl rfl ?_
        refine p_aB rfl ?_
        refine p_aI rfl ?_
        refine wp_nil ?_
        refine c_seq ?_
        refine c_seq ?_
        refine reg ?_
        refine p_mI rfl ?_
        refine p_cmp rfl rfl rfl ?_
        refine wp_nil ?_
        refine c_cond rfl (fun c222 => ?_) (fun c222 => ?_)
        · replace H := condT c222 H
          refine c_seq ?_
          refine reg ?_
          refine p_mI rfl ?_
          refine p_cmp rfl rfl rfl ?_
          refine p_mB rfl ?_
          rcases Bool.eq_false_or_eq_true ((r218.2 == 50)) with c223 | c223
          · replace H := condT c223 H
            refine eB c223 ?_
            refine gT rfl rfl (p_mI rfl ?_)
            refine gT rfl rfl (p_cmp rfl rfl rfl ?_)
            refine p_pkT rfl (rfl : _ = B (r214.2 == 51)) ?_
            refine p_mB rfl ?_
            rcases Bool.eq_false_or_eq_true ((r214.2 == 51)) with c224 | c224
            · replace H := condT c224 H
              refine eB c224 ?_
              obtain ⟨r225, h226, H⟩ := bindS H
              refine gT rfl rfl (p_cv (law_counted_ok h226 (S221.atP (i := 2) rfl) (S221.atP (i := 3) rfl)) fu19 rfl S221 fun w227 S228 => ?_)
              refine p_pkT rfl (rfl : _ = B r225) ?_
              refine p_aB rfl ?_
              refine wp_nil ?_
              obtain rfl := Option.some.inj H
              refine c_ret ?_; show bodyPostM (Fr none) 0 Tryd.prog Tryd.f9 _ .ret _ _
              refine ret_of (res1 rfl (rvT (rfl : _ = B r225))) ?_
              exact ⟨_, rfl, rfl, S228.keep⟩
            · replace H := condF c224 H
              refine eB c224 ?_
              refine gF rfl rfl ?_
              refine p_pkF rfl (rfl : _ = B false) ?_
              refine p_aB rfl ?_
              refine wp_nil ?_
              obtain rfl := Option.some.inj H
              refine c_ret ?_; show bodyPostM (Fr none) 0 Tryd.prog Tryd.f9 _ .ret _ _
              refine ret_of (res1 rfl (rvT (rfl : _ = B false))) ?_
              exact ⟨_, rfl, rfl, S221.keep⟩
          · replace H := condF c223 H
            refine eB c223 ?_
            refine gF rfl rfl ?_
            refine gF rfl rfl ?_
            refine p_pkF rfl (rfl : _ = B false) ?_
            refine p_mB rfl ?_
            refine gF rfl rfl ?_
            refine p_pkF rfl (rfl : _ = B false) ?_
            refine p_aB rfl ?_
            refine wp_nil ?_
            obtain rfl := Option.some.inj H
            refine c_ret ?_; show bodyPostM (Fr none) 0 Tryd.prog Tryd.f9 _ .ret _ _
            refine ret_of (res1 rfl (rvT (rfl : _ = B false))) ?_
            exact ⟨_, rfl, rfl, S221.keep⟩
        · replace H := condF c222 H
          refine c_skip ?_
          refine c_seq ?_
          refine reg ?_
          refine p_ldA ty24 sz24 (S221.atX (i := 4) rfl) rfl rfl ?_
          obtain ⟨r229, h230, H⟩ := bindS H
          refine p_cal (tally_Wrong_ok h230 (S221.atP (i := 0) rfl) (S221.atP (i := 2) rfl) (S221.atP (i := 3) rfl)) fu30 rfl ?_
          rintro _ w231 ⟨A233, c234, rfl, k232, ⟨o235, n236⟩, _⟩
          have S237 := S221.callN k232 [rd intE 1 A233 c234 r229.1] (List.forall_mem_cons.2 ⟨⟨o235, Al.inL n236 ((List.forall_mem_cons.2 ⟨(fp_mem (i := 0) rfl), (fun _ h_ => (List.not_mem_nil h_).elim)⟩))⟩, (fun _ h_ => (List.not_mem_nil h_).elim)⟩)
          refine p_mT rfl ?_
          refine p_ext rfl rfl ?_
          refine p_ext rfl rfl ?_
          refine p_aS rfl ?_
          refine p_aI rfl ?_
          refine wp_nil ?_
          refine c_seq ?_
          refine reg ?_
          refine p_ldA ty24 sz24 (S237.atX (i := 2) rfl) rfl rfl ?_
          have S238 := S237.fixRd eTallyCount_len (i := 1) rfl
          obtain ⟨r239, h240, H⟩ := bindS H
          refine p_cal (tally_Wrong_ok h240 (S238.atP (i := 0) rfl) (S238.atP (i := 4) rfl) (S238.atP (i := 5) rfl)) fu30 rfl ?_
          rintro _ w241 ⟨A243, c244, rfl, k242, ⟨o245, n246⟩, _⟩
          have S247 := S238.callN k242 [rd intE 1 A243 c244 r239.1] (List.forall_mem_cons.2 ⟨⟨o245, Al.inL n246 ((List.forall_mem_cons.2 ⟨(fp_mem (i := 0) rfl), (fun _ h_ => (List.not_mem_nil h_).elim)⟩))⟩, (fun _ h_ => (List.not_mem_nil h_).elim)⟩)
          refine p_mT rfl ?_
          refine p_ext rfl rfl ?_
          refine p_ext rfl rfl ?_
          refine p_aS rfl ?_
          refine p_aI rfl ?_
          refine wp_nil ?_
          refine c_join (α := Unit) (β := Unit) (fun z_1 y_1 => [(2, SL A4 a2.length c5), (3, P b9 0), (7, P b29 0), (9, I r214.2), (10, B r218.1)]) (fun z_1 y_1 w_ => law_TallyMore_j4 a0 a2 a1 r218 r214 z_1 = some r ∧ St w (fun _ => False) w_ [gr eTallyCount 7 33 A163 c164 ([a1] : List TallyCount), bl b29 [I a0.Trips, I a0.Room, SL A209 (a0.Counts ++ ([a1] : List TallyCount)).length c210] 24, bl b12 [I a1.Who, I a1.From, I a1.To, I a1.Told, I a1.Unit, I a1.Under, I a1.Over] 33, bl b9 [I a0.Trips, I a0.Room, SL A1 a0.Counts.length c2] 24] [rd eTallyCount 7 A209 c210 (a0.Counts ++ ([a1] : List TallyCount)), rd intE 1 A243 c244 r239.1, rd intE 1 A233 c234 r229.1, rd eTallyCount 7 A1 c2 a0.Counts, rd intE 1 A4 c5 a2, bl 0 [Value.func (.func 117) #[] #[], Value.func (.func 119) #[] #[]] 117, bl 1 [I (-1), I (-1)] 115]) ?_ ?_
          · refine c_seq ?_
            refine reg ?_
            refine p_mI rfl ?_
            refine p_cmp rfl rfl rfl ?_
            refine p_mB rfl ?_
            rcases Bool.eq_false_or_eq_true ((r214.2 != 0)) with c248 | c248
            · replace H := condT c248 H
              refine eB c248 ?_
              refine gT rfl rfl (p_mI rfl ?_)
              refine gT rfl rfl (p_cmp rfl rfl rfl ?_)
              refine p_pkT rfl (rfl : _ = B (r214.2 != 52)) ?_
              refine p_mB rfl ?_
              rcases Bool.eq_false_or_eq_true ((r214.2 != 52)) with c249 | c249
              · replace H := condT c249 H
                refine eB c249 ?_
                refine gF rfl rfl ?_
                refine gF rfl rfl ?_
                refine gF rfl rfl ?_
                refine gF rfl rfl ?_
                refine o_guardU rfl rfl ?_
                refine gF rfl rfl ?_
                refine gF rfl rfl ?_
                refine p_pkT rfl (rfl : _ = B true) ?_
                refine p_mB rfl ?_
                refine gF rfl rfl ?_
                refine gF rfl rfl ?_
                refine p_pkT rfl (rfl : _ = B true) ?_
                refine p_mB rfl ?_
                refine gF rfl rfl ?_
                refine gF rfl rfl ?_
                refine p_pkT rfl (rfl : _ = B true) ?_
                refine p_mB rfl ?_
                refine gF rfl rfl ?_
                refine gF rfl rfl ?_
                refine gF rfl rfl ?_
                refine gF rfl rfl ?_
                refine gF rfl rfl ?_
                refine p_pkT rfl (rfl : _ = B true) ?_
                refine wp_nil ?_
                refine c_true rfl ?_
                refine c_seq ?_
                refine reg ?_
                refine p_aB rfl ?_
                refine wp_nil ?_
                obtain rfl := Option.some.inj H
                refine c_ret ?_; show bodyPostM (Fr none) 0 Tryd.prog Tryd.f9 _ .ret _ _
                refine ret_of (res1 rfl (rvT (rfl : _ = B false))) ?_
                exact ⟨_, rfl, rfl, S247.keep⟩
              · replace H := condF c249 H
                refine eB c249 ?_
                refine gT rfl rfl (p_mB rfl ?_)
                refine gT rfl rfl (p_mI rfl ?_)
                refine gT rfl rfl (p_cmp rfl rfl rfl ?_)
                refine gT rfl rfl (p_mB rfl ?_)
                rcases Bool.eq_false_or_eq_true ((r214.2 == 0)) with c250 | c250
                · replace H := condT c250 H
                  refine eB c250 ?_
                  refine gT rfl rfl (p_mB rfl ?_)
                  refine gT rfl rfl (p_pkT rfl (rfl : _ = B r214.1) ?_)
                  refine gT rfl rfl (o_neB rfl rfl ub4 ?_)
                  refine p_pkF rfl (rfl : _ = B (r218.1 != r214.1)) ?_
                  refine p_mB rfl ?_
                  rcases Bool.eq_false_or_eq_true ((r218.1 != r214.1)) with c251 | c251
                  · replace H := condT c251 H
                    refine eB c251 ?_
                    refine gF rfl rfl ?_
                    refine gF rfl rfl ?_
                    refine p_pkT rfl (rfl : _ = B true) ?_
                    refine p_mB rfl ?_
                    refine gF rfl rfl ?_
                    refine gF rfl rfl ?_
                    refine p_pkT rfl (rfl : _ = B true) ?_
                    refine p_mB rfl ?_
                    refine gF rfl rfl ?_
                    refine gF rfl rfl ?_
                    refine gF rfl rfl ?_
                    refine gF rfl rfl ?_
                    refine gF rfl rfl ?_
                    refine p_pkT rfl (rfl : _ = B true) ?_
                    refine wp_nil ?_
                    refine c_true rfl ?_
                    refine c_seq ?_
                    refine reg ?_
                    refine p_aB rfl ?_
                    refine wp_nil ?_
                    obtain rfl := Option.some.inj H
                    refine c_ret ?_; show bodyPostM (Fr none) 0 Tryd.prog Tryd.f9 _ .ret _ _
                    refine ret_of (res1 rfl (rvT (rfl : _ = B false))) ?_
                    exact ⟨_, rfl, rfl, S247.keep⟩
                  · replace H := condF c251 H
                    refine eB c251 ?_
                    refine gT rfl rfl (p_mI rfl ?_)
                    refine gT rfl rfl (p_cmp rfl rfl rfl ?_)
                    refine p_pkF rfl (rfl : _ = B (r229.2 != 0)) ?_
                    refine p_mB rfl ?_
                    rcases Bool.eq_false_or_eq_true ((r229.2 != 0)) with c252 | c252
                    · replace H := condT c252 H
                      refine eB c252 ?_
                      refine gF rfl rfl ?_
                      refine gF rfl rfl ?_
                      refine p_pkT rfl (rfl : _ = B true) ?_
                      refine p_mB rfl ?_
                      refine gF rfl rfl ?_
                      refine gF rfl rfl ?_
                      refine gF rfl rfl ?_
                      refine gF rfl rfl ?_
                      refine gF rfl rfl ?_
                      refine p_pkT rfl (rfl : _ = B true) ?_
                      refine wp_nil ?_
                      refine c_true rfl ?_
                      refine c_seq ?_
                      refine reg ?_
                      refine p_aB rfl ?_
                      refine wp_nil ?_
                      obtain rfl := Option.some.inj H
                      refine c_ret ?_; show bodyPostM (Fr none) 0 Tryd.prog Tryd.f9 _ .ret _ _
                      refine ret_of (res1 rfl (rvT (rfl : _ = B false))) ?_
                      exact ⟨_, rfl, rfl, S247.keep⟩
                    · replace H := condF c252 H
                      refine eB c252 ?_
                      refine gT rfl rfl (p_mI rfl ?_)
                      refine gT rfl rfl (p_cmp rfl rfl rfl ?_)
                      refine p_pkF rfl (rfl : _ = B (r239.2 != 0)) ?_
                      refine p_mB rfl ?_
                      rcases Bool.eq_false_or_eq_true ((r239.2 != 0)) with c253 | c253
                      · replace H := condT c253 H
                        refine eB c253 ?_
                        refine gF rfl rfl ?_
                        refine gF rfl rfl ?_
                        refine gF rfl rfl ?_
                        refine gF rfl rfl ?_
                        refine gF rfl rfl ?_
                        refine p_pkT rfl (rfl : _ = B true) ?_
                        refine wp_nil ?_
                        refine c_true rfl ?_
                        refine c_seq ?_
                        refine reg ?_
                        refine p_aB rfl ?_
                        refine wp_nil ?_
                        obtain rfl := Option.some.inj H
                        refine c_ret ?_; show bodyPostM (Fr none) 0 Tryd.prog Tryd.f9 _ .ret _ _
                        refine ret_of (res1 rfl (rvT (rfl : _ = B false))) ?_
                        exact ⟨_, rfl, rfl, S247.keep⟩
                      · replace H := condF c253 H
                        refine eB c253 ?_
                        refine gT rfl rfl (p_mS rfl ?_)
                        refine gT rfl rfl (p_len rfl sc31 ?_)
                        refine gT rfl rfl (p_mS rfl ?_)
                        refine gT rfl rfl (p_len rfl sc31 ?_)
                        refine gT rfl rfl (p_cmp rfl rfl rfl ?_)
                        refine p_pkF rfl (rfl : _ = B (decide ((r239.1.length : Int) < (r229.1.length : Int)))) ?_
                        refine wp_nil ?_
                        refine c_cond rfl (fun c254 => ?_) (fun c254 => ?_)
                        · replace H := condT c254 H
                          refine c_seq ?_
                          refine reg ?_
                          refine p_aB rfl ?_
                          refine wp_nil ?_
                          obtain rfl := Option.some.inj H
                          refine c_ret ?_; show bodyPostM (Fr none) 0 Tryd.prog Tryd.f9 _ .ret _ _
                          refine ret_of (res1 rfl (rvT (rfl : _ = B false))) ?_
                          exact ⟨_, rfl, rfl, S247.keep⟩
                        · replace H := condF c254 H
                          refine c_skip ?_
                          have S255 := S247.pk [0, 1, 2, 3] (by decide) [1, 0, 2, 3, 4, 5, 6] rfl rfl
                          exact ⟨(), (), _, rfl, ⟨rfl, rfl, rfl, rfl, rfl, trivial⟩, H, S255⟩
                · replace H := condF c250 H
                  refine eB c250 ?_
                  refine gF rfl rfl ?_
                  refine gT rfl rfl (p_pkF rfl (rfl : _ = B false) ?_)
                  refine gT rfl rfl (o_neB rfl rfl ub4 ?_)
                  refine p_pkF rfl (rfl : _ = B (r218.1 != false)) ?_
                  refine p_mB rfl ?_
                  rcases Bool.eq_false_or_eq_true ((r218.1 != false)) with c256 | c256
                  · replace H := condT c256 H
                    refine eB c256 ?_
                    refine gF rfl rfl ?_
                    refine gF rfl rfl ?_
                    refine p_pkT rfl (rfl : _ = B true) ?_
                    refine p_mB rfl ?_
                    refine gF rfl rfl ?_
                    refine gF rfl rfl ?_
                    refine p_pkT rfl (rfl : _ = B true) ?_
                    refine p_mB rfl ?_
                    refine gF rfl rfl ?_
                    refine gF rfl rfl ?_
                    refine gF rfl rfl ?_
                    refine gF rfl rfl ?_
                    refine gF rfl rfl ?_
                    refine p_pkT rfl (rfl : _ = B true) ?_
                    refine wp_nil ?_
                    refine c_true rfl ?_
                    refine c_seq ?_
                    refine reg ?_
                    refine p_aB rfl ?_
                    refine wp_nil ?_
                    obtain rfl := Option.some.inj H
                    refine c_ret ?_; show bodyPostM (Fr none) 0 Tryd.prog Tryd.f9 _ .ret _ _
                    refine ret_of (res1 rfl (rvT (rfl : _ = B false))) ?_
                    exact ⟨_, rfl, rfl, S247.keep⟩
                  · replace H := condF c256 H
                    refine eB c256 ?_
                    refine gT rfl rfl (p_mI rfl ?_)
                    refine gT rfl rfl (p_cmp rfl rfl rfl ?_)
                    refine p_pkF rfl (rfl : _ = B (r229.2 != 0)) ?_
                    refine p_mB rfl ?_
                    rcases Bool.eq_false_or_eq_true ((r229.2 != 0)) with c257 | c257
                    · replace H := condT c257 H
                      refine eB c257 ?_
                      refine gF rfl rfl ?_
                      refine gF rfl rfl ?_
                      refine p_pkT rfl (rfl : _ = B true) ?_
                      refine p_mB rfl ?_
                      refine gF rfl rfl ?_
                      refine gF rfl rfl ?_
                      refine gF rfl rfl ?_
                      refine gF rfl rfl ?_
                      refine gF rfl rfl ?_
                      refine p_pkT rfl (rfl : _ = B true) ?_
                      refine wp_nil ?_
                      refine c_true rfl ?_
                      refine c_seq ?_
                      refine reg ?_
                      refine p_aB rfl ?_
                      refine wp_nil ?_
                      obtain rfl := Option.some.inj H
                      refine c_ret ?_; show bodyPostM (Fr none) 0 Tryd.prog Tryd.f9 _ .ret _ _
                      refine ret_of (res1 rfl (rvT (rfl : _ = B false))) ?_
                      exact ⟨_, rfl, rfl, S247.keep⟩
                    · replace H := condF c257 H
                      refine eB c257 ?_
                      refine gT rfl rfl (p_mI rfl ?_)
                      refine gT rfl rfl (p_cmp rfl rfl rfl ?_)
                      refine p_pkF rfl (rfl : _ = B (r239.2 != 0)) ?_
                      refine p_mB rfl ?_
                      rcases Bool.eq_false_or_eq_true ((r239.2 != 0)) with c258 | c258
                      · replace H := condT c258 H
                        refine eB c258 ?_
                        refine gF rfl rfl ?_
                        refine gF rfl rfl ?_
                        refine gF rfl rfl ?_
                        refine gF rfl rfl ?_
                        refine gF rfl rfl ?_
                        refine p_pkT rfl (rfl : _ = B true) ?_
                        refine wp_nil ?_
                        refine c_true rfl ?_
                        refine c_seq ?_
                        refine reg ?_
                        refine p_aB rfl ?_
                        refine wp_nil ?_
                        obtain rfl := Option.some.inj H
                        refine c_ret ?_; show bodyPostM (Fr none) 0 Tryd.prog Tryd.f9 _ .ret _ _
                        refine ret_of (res1 rfl (rvT (rfl : _ = B false))) ?_
                        exact ⟨_, rfl, rfl, S247.keep⟩
                      · replace H := condF c258 H
                        refine eB c258 ?_
                        refine gT rfl rfl (p_mS rfl ?_)
                        refine gT rfl rfl (p_len rfl sc31 ?_)
                        refine gT rfl rfl (p_mS rfl ?_)
                        refine gT rfl rfl (p_len rfl sc31 ?_)
                        refine gT rfl rfl (p_cmp rfl rfl rfl ?_)
                        refine p_pkF rfl (rfl : _ = B (decide ((r239.1.length : Int) < (r229.1.length : Int)))) ?_
                        refine wp_nil ?_
                        refine c_cond rfl (fun c259 => ?_) (fun c259 => ?_)
                        · replace H := condT c259 H
                          refine c_seq ?_
                          refine reg ?_
                          refine p_aB rfl ?_
                          refine wp_nil ?_
                          obtain rfl := Option.some.inj H
                          refine c_ret ?_; show bodyPostM (Fr none) 0 Tryd.prog Tryd.f9 _ .ret _ _
                          refine ret_of (res1 rfl (rvT (rfl : _ = B false))) ?_
                          exact ⟨_, rfl, rfl, S247.keep⟩
                        · replace H := condF c259 H
                          refine c_skip ?_
                          have S260 := S247.pk [0, 1, 2, 3] (by decide) [1, 0, 2, 3, 4, 5, 6] rfl rfl
                          exact ⟨(), (), _, rfl, ⟨rfl, rfl, rfl, rfl, rfl, trivial⟩, H, S260⟩
            · replace H := condF c248 H
              refine eB c248 ?_
              refine gF rfl rfl ?_
              refine gF rfl rfl ?_
              refine p_pkF rfl (rfl : _ = B false) ?_
              refine p_mB rfl ?_
              refine gT rfl rfl (p_mB rfl ?_)
              refine gT rfl rfl (p_mI rfl ?_)
              refine gT rfl rfl (p_cmp rfl rfl rfl ?_)
              refine gT rfl rfl (p_mB rfl ?_)
              rcases Bool.eq_false_or_eq_true ((r214.2 == 0)) with c261 | c261
              · replace H := condT c261 H
                refine eB c261 ?_
                refine gT rfl rfl (p_mB rfl ?_)
                refine gT rfl rfl (p_pkT rfl (rfl : _ = B r214.1) ?_)
                refine gT rfl rfl (o_neB rfl rfl ub4 ?_)
                refine p_pkF rfl (rfl : _ = B (r218.1 != r214.1)) ?_
                refine p_mB rfl ?_
                rcases Bool.eq_false_or_eq_true ((r218.1 != r214.1)) with c262 | c262
                · replace H := condT c262 H
                  refine eB c262 ?_
                  refine gF rfl rfl ?_
                  refine gF rfl rfl ?_
                  refine p_pkT rfl (rfl : _ = B true) ?_
                  refine p_mB rfl ?_
                  refine gF rfl rfl ?_
                  refine gF rfl rfl ?_
                  refine p_pkT rfl (rfl : _ = B true) ?_
                  refine p_mB rfl ?_
                  refine gF rfl rfl ?_
                  refine gF rfl rfl ?_
                  refine gF rfl rfl ?_
                  refine gF rfl rfl ?_
                  refine gF rfl rfl ?_
                  refine p_pkT rfl (rfl : _ = B true) ?_
                  refine wp_nil ?_
                  refine c_true rfl ?_
                  refine c_seq ?_
                  refine reg ?_
                  refine p_aB rfl ?_
                  refine wp_nil ?_
                  obtain rfl := Option.some.inj H
                  refine c_ret ?_; show bodyPostM (Fr none) 0 Tryd.prog Tryd.f9 _ .ret _ _
                  refine ret_of (res1 rfl (rvT (rfl : _ = B false))) ?_
                  exact ⟨_, rfl, rfl, S247.keep⟩
                · replace H := condF c262 H
                  refine eB c262 ?_
                  refine gT rfl rfl (p_mI rfl ?_)
                  refine gT rfl rfl (p_cmp rfl rfl rfl ?_)
                  refine p_pkF rfl (rfl : _ = B (r229.2 != 0)) ?_
                  refine p_mB rfl ?_
                  rcases Bool.eq_false_or_eq_true ((r229.2 != 0)) with c263 | c263
                  · replace H := condT c263 H
                    refine eB c263 ?_
                    refine gF rfl rfl ?_
                    refine gF rfl rfl ?_
                    refine p_pkT rfl (rfl : _ = B true) ?_
                    refine p_mB rfl ?_
                    refine gF rfl rfl ?_
                    refine gF rfl rfl ?_
                    refine gF rfl rfl ?_
                    refine gF rfl rfl ?_
                    refine gF rfl rfl ?_
                    refine p_pkT rfl (rfl : _ = B true) ?_
                    refine wp_nil ?_
                    refine c_true rfl ?_
                    refine c_seq ?_
                    refine reg ?_
                    refine p_aB rfl ?_
                    refine wp_nil ?_
                    obtain rfl := Option.some.inj H
                    refine c_ret ?_; show bodyPostM (Fr none) 0 Tryd.prog Tryd.f9 _ .ret _ _
                    refine ret_of (res1 rfl (rvT (rfl : _ = B false))) ?_
                    exact ⟨_, rfl, rfl, S247.keep⟩
                  · replace H := condF c263 H
                    refine eB c263 ?_
                    refine gT rfl rfl (p_mI rfl ?_)
                    refine gT rfl rfl (p_cmp rfl rfl rfl ?_)
                    refine p_pkF rfl (rfl : _ = B (r239.2 != 0)) ?_
                    refine p_mB rfl ?_
                    rcases Bool.eq_false_or_eq_true ((r239.2 != 0)) with c264 | c264
                    · replace H := condT c264 H
                      refine eB c264 ?_
                      refine gF rfl rfl ?_
                      refine gF rfl rfl ?_
                      refine gF rfl rfl ?_
                      refine gF rfl rfl ?_
                      refine gF rfl rfl ?_
                      refine p_pkT rfl (rfl : _ = B true) ?_
                      refine wp_nil ?_
                      refine c_true rfl ?_
                      refine c_seq ?_
                      refine reg ?_
                      refine p_aB rfl ?_
                      refine wp_nil ?_
                      obtain rfl := Option.some.inj H
                      refine c_ret ?_; show bodyPostM (Fr none) 0 Tryd.prog Tryd.f9 _ .ret _ _
                      refine ret_of (res1 rfl (rvT (rfl : _ = B false))) ?_
                      exact ⟨_, rfl, rfl, S247.keep⟩
                    · replace H := condF c264 H
                      refine eB c264 ?_
                      refine gT rfl rfl (p_mS rfl ?_)
                      refine gT rfl rfl (p_len rfl sc31 ?_)
                      refine gT rfl rfl (p_mS rfl ?_)
                      refine gT rfl rfl (p_len rfl sc31 ?_)
                      refine gT rfl rfl (p_cmp rfl rfl rfl ?_)
                      refine p_pkF rfl (rfl : _ = B (decide ((r239.1.length : Int) < (r229.1.length : Int)))) ?_
                      refine wp_nil ?_
                      refine c_cond rfl (fun c265 => ?_) (fun c265 => ?_)
                      · replace H := condT c265 H
                        refine c_seq ?_
                        refine reg ?_
                        refine p_aB rfl ?_
                        refine wp_nil ?_
                        obtain rfl := Option.some.inj H
                        refine c_ret ?_; show bodyPostM (Fr none) 0 Tryd.prog Tryd.f9 _ .ret _ _
                        refine ret_of (res1 rfl (rvT (rfl : _ = B false))) ?_
                        exact ⟨_, rfl, rfl, S247.keep⟩
                      · replace H := condF c265 H
                        refine c_skip ?_
                        have S266 := S247.pk [0, 1, 2, 3] (by decide) [1, 0, 2, 3, 4, 5, 6] rfl rfl
                        exact ⟨(), (), _, rfl, ⟨rfl, rfl, rfl, rfl, rfl, trivial⟩, H, S266⟩
              · replace H := condF c261 H
                refine eB c261 ?_
                refine gF rfl rfl ?_
                refine gT rfl rfl (p_pkF rfl (rfl : _ = B false) ?_)
                refine gT rfl rfl (o_neB rfl rfl ub4 ?_)
                refine p_pkF rfl (rfl : _ = B (r218.1 != false)) ?_
                refine p_mB rfl ?_
                rcases Bool.eq_false_or_eq_true ((r218.1 != false)) with c267 | c267
                · replace H := condT c267 H
                  refine eB c267 ?_
                  refine gF rfl rfl ?_
                  refine gF rfl rfl ?_
                  refine p_pkT rfl (rfl : _ = B true) ?_
                  refine p_mB rfl ?_
                  refine gF rfl rfl ?_
                  refine gF rfl rfl ?_
                  refine p_pkT rfl (rfl : _ = B true) ?_
                  refine p_mB rfl ?_
                  refine gF rfl rfl ?_
                  refine gF rfl rfl ?_
                  refine gF rfl rfl ?_
                  refine gF rfl rfl ?_
                  refine gF rfl rfl ?_
                  refine p_pkT rfl (rfl : _ = B true) ?_
                  refine wp_nil ?_
                  refine c_true rfl ?_
                  refine c_seq ?_
                  refine reg ?_
                  refine p_aB rfl ?_
                  refine wp_nil ?_
                  obtain rfl := Option.some.inj H
                  refine c_ret ?_; show bodyPostM (Fr none) 0 Tryd.prog Tryd.f9 _ .ret _ _
                  refine ret_of (res1 rfl (rvT (rfl : _ = B false))) ?_
                  exact ⟨_, rfl, rfl, S247.keep⟩
                · replace H := condF c267 H
                  refine eB c267 ?_
                  refine gT rfl rfl (p_mI rfl ?_)
                  refine gT rfl rfl (p_cmp rfl rfl rfl ?_)
                  refine p_pkF rfl (rfl : _ = B (r229.2 != 0)) ?_
                  refine p_mB rfl ?_
                  rcases Bool.eq_false_or_eq_true ((r229.2 != 0)) with c268 | c268
                  · replace H := condT c268 H
                    refine eB c268 ?_
                    refine gF rfl rfl ?_
                    refine gF rfl rfl ?_
                    refine p_pkT rfl (rfl : _ = B true) ?_
                    refine p_mB rfl ?_
                    refine gF rfl rfl ?_
                    refine gF rfl rfl ?_
                    refine gF rfl rfl ?_
                    refine gF rfl rfl ?_
                    refine gF rfl rfl ?_
                    refine p_pkT rfl (rfl : _ = B true) ?_
                    refine wp_nil ?_
                    refine c_true rfl ?_
                    refine c_seq ?_
                    refine reg ?_
                    refine p_aB rfl ?_
                    refine wp_nil ?_
                    obtain rfl := Option.some.inj H
                    refine c_ret ?_; show bodyPostM (Fr none) 0 Tryd.prog Tryd.f9 _ .ret _ _
                    refine ret_of (res1 rfl (rvT (rfl : _ = B false))) ?_
                    exact ⟨_, rfl, rfl, S247.keep⟩
                  · replace H := condF c268 H
                    refine eB c268 ?_
                    refine gT rfl rfl (p_mI rfl ?_)
                    refine gT rfl rfl (p_cmp rfl rfl rfl ?_)
                    refine p_pkF rfl (rfl : _ = B (r239.2 != 0)) ?_
                    refine p_mB rfl ?_
                    rcases Bool.eq_false_or_eq_true ((r239.2 != 0)) with c269 | c269
                    · replace H := condT c269 H
                      refine eB c269 ?_
                      refine gF rfl rfl ?_
                      refine gF rfl rfl ?_
                      refine gF rfl rfl ?_
                      refine gF rfl rfl ?_
                      refine gF rfl rfl ?_
                      refine p_pkT rfl (rfl : _ = B true) ?_
                      refine wp_nil ?_
                      refine c_true rfl ?_
                      refine c_seq ?_
                      refine reg ?_
                      refine p_aB rfl ?_
                      refine wp_nil ?_
                      obtain rfl := Option.some.inj H
                      refine c_ret ?_; show bodyPostM (Fr none) 0 Tryd.prog Tryd.f9 _ .ret _ _
                      refine ret_of (res1 rfl (rvT (rfl : _ = B false))) ?_
                      exact ⟨_, rfl, rfl, S247.keep⟩
                    · replace H := condF c269 H
                      refine eB c269 ?_
                      refine gT rfl rfl (p_mS rfl ?_)
                      refine gT rfl rfl (p_len rfl sc31 ?_)
                      refine gT rfl rfl (p_mS rfl ?_)
                      refine gT rfl rfl (p_len rfl sc31 ?_)
                      refine gT rfl rfl (p_cmp rfl rfl rfl ?_)
                      refine p_pkF rfl (rfl : _ = B (decide ((r239.1.length : Int) < (r229.1.length : Int)))) ?_
                      refine wp_nil ?_
                      refine c_cond rfl (fun c270 => ?_) (fun c270 => ?_)
                      · replace H := condT c270 H
                        refine c_seq ?_
                        refine reg ?_
                        refine p_aB rfl ?_
                        refine wp_nil ?_
                        obtain rfl := Option.some.inj H
                        refine c_ret ?_; show bodyPostM (Fr none) 0 Tryd.prog Tryd.f9 _ .ret _ _
                        refine ret_of (res1 rfl (rvT (rfl : _ = B false))) ?_
                        exact ⟨_, rfl, rfl, S247.keep⟩
                      · replace H := condF c270 H
                        refine c_skip ?_
                        have S271 := S247.pk [0, 1, 2, 3] (by decide) [1, 0, 2, 3, 4, 5, 6] rfl rfl
                        exact ⟨(), (), _, rfl, ⟨rfl, rfl, rfl, rfl, rfl, trivial⟩, H, S271⟩
          · intro z_1 y_1 e248 w249 S250; obtain ⟨H, S250⟩ := S250
            unfold law_TallyMore_j4 at H
            refine c_seq ?_
            refine reg ?_
            refine p_ldA ty24 sz24 (S250.atX (i := 3) rfl) rfl rfl ?_
            refine p_mS rfl ?_
            obtain ⟨r251, h252, H⟩ := bindS H
            refine p_cal (law_truly_ok h252 (S250.atP (i := 3) rfl) (S250.atP (i := 4) rfl)) fu25 rfl ?_
            rintro _ w253 ⟨A255, c256, rfl, k254, ⟨o257, n258⟩, _⟩
            have S260 := S250.addNew k254 o257 n258
            refine p_aS rfl ?_
            refine wp_nil ?_
            refine c_seq ?_
            refine reg ?_
            refine p_ldA ty24 sz24 (S260.atX (i := 4) rfl) rfl rfl ?_
            refine p_mS rfl ?_
            obtain ⟨r261, h262, H⟩ := bindS H
            refine p_cv (tally_Can_ok h262 (S260.atP (i := 3) rfl) (gr_rd intE_len (S260.atX (i := 0) rfl)) (S260.atP (i := 5) rfl)) fu29 rfl S260 fun w263 S264 => ?_
            refine p_mT rfl ?_
            refine p_ext rfl rfl ?_
            refine p_ext rfl rfl ?_
            refine p_aB rfl ?_
            refine p_aI rfl ?_
            refine wp_nil ?_
            refine c_seq ?_
            refine reg ?_
            refine p_ldA ty24 sz24 (S264.atX (i := 2) rfl) rfl rfl ?_
            refine p_mS rfl ?_
            obtain ⟨r265, h266, H⟩ := bindS H
            refine p_cv (tally_Can_ok h266 (S264.atP (i := 0) rfl) (gr_rd intE_len (S264.atX (i := 0) rfl)) (S264.atP (i := 5) rfl)) fu29 rfl S264 fun w267 S268 => ?_
            refine p_mT rfl ?_
            refine p_ext rfl rfl ?_
            refine p_ext rfl rfl ?_
            refine p_aB rfl ?_
            refine p_aI rfl ?_
            refine wp_nil ?_
            refine c_join (α := Unit) (β := Unit) (fun z_2 y_2 => [(2, SL A4 a2.length c5), (3, P b9 0), (7, P b29 0), (10, B r218.1)]) (fun z_2 y_2 w_ => law_TallyMore_j3 r218 a2 a0 a1 z_2 = some r ∧ St w (fun _ => False) w_ [gr intE 1 3 A255 c256 r251, gr eTallyCount 7 33 A163 c164 ([a1] : List TallyCount), bl b29 [I a0.Trips, I a0.Room, SL A209 (a0.Counts ++ ([a1] : List TallyCount)).length c210] 24, bl b12 [I a1.Who, I a1.From, I a1.To, I a1.Told, I a1.Unit, I a1.Under, I a1.Over] 33, bl b9 [I a0.Trips, I a0.Room, SL A1 a0.Counts.length c2] 24] [rd eTallyCount 7 A209 c210 (a0.Counts ++ ([a1] : List TallyCount)), rd intE 1 A243 c244 r239.1, rd intE 1 A233 c234 r229.1, rd eTallyCount 7 A1 c2 a0.Counts, rd intE 1 A4 c5 a2, bl 0 [Value.func (.func 117) #[] #[], Value.func (.func 119) #[] #[]] 117, bl 1 [I (-1), I (-1)] 115]) ?_ ?_
            · refine c_seq ?_
              refine reg ?_
              refine p_mI rfl ?_
              refine p_cmp rfl rfl rfl ?_
              refine p_mB rfl ?_
              rcases Bool.eq_false_or_eq_true ((r261.2 != 0)) with c269 | c269
              · replace H := condT c269 H
                refine eB c269 ?_
                refine gF rfl rfl ?_
                refine gF rfl rfl ?_
                refine p_pkT rfl (rfl : _ = B true) ?_
                refine p_mB rfl ?_
                refine gF rfl rfl ?_
                refine gF rfl rfl ?_
                refine o_guardU rfl rfl ?_
                refine o_guardU rfl rfl ?_
                refine gF rfl rfl ?_
                refine p_pkT rfl (rfl : _ = B true) ?_
                refine p_mB rfl ?_
                refine gF rfl rfl ?_
                refine gF rfl rfl ?_
                refine o_guardU rfl rfl ?_
                refine o_guardU rfl rfl ?_
                refine gF rfl rfl ?_
                refine p_pkT rfl (rfl : _ = B true) ?_
                refine p_mB rfl ?_
                refine gF rfl rfl ?_
                refine gF rfl rfl ?_
                refine o_guardU rfl rfl ?_
                refine o_guardU rfl rfl ?_
                refine gF rfl rfl ?_
                refine p_pkT rfl (rfl : _ = B true) ?_
                refine wp_nil ?_
                refine c_true rfl ?_
                refine c_seq ?_
                refine reg ?_
                refine p_aB rfl ?_
                refine wp_nil ?_
                obtain rfl := Option.some.inj H
                refine c_ret ?_; show bodyPostM (Fr none) 0 Tryd.prog Tryd.f9 _ .ret _ _
                refine ret_of (res1 rfl (rvT (rfl : _ = B false))) ?_
                exact ⟨_, rfl, rfl, S268.keep⟩
              · replace H := condF c269 H
                refine eB c269 ?_
                refine gT rfl rfl (p_mI rfl ?_)
                refine gT rfl rfl (p_cmp rfl rfl rfl ?_)
                refine p_pkF rfl (rfl : _ = B (r265.2 != 0)) ?_
                refine p_mB rfl ?_
                rcases Bool.eq_false_or_eq_true ((r265.2 != 0)) with c270 | c270
                · replace H := condT c270 H
                  refine eB c270 ?_
                  refine gF rfl rfl ?_
                  refine gF rfl rfl ?_
                  refine o_guardU rfl rfl ?_
                  refine o_guardU rfl rfl ?_
                  refine gF rfl rfl ?_
                  refine p_pkT rfl (rfl : _ = B true) ?_
                  refine p_mB rfl ?_
                  refine gF rfl rfl ?_
                  refine gF rfl rfl ?_
                  refine o_guardU rfl rfl ?_
                  refine o_guardU rfl rfl ?_
                  refine gF rfl rfl ?_
                  refine p_pkT rfl (rfl : _ = B true) ?_
                  refine p_mB rfl ?_
                  refine gF rfl rfl ?_
                  refine gF rfl rfl ?_
                  refine o_guardU rfl rfl ?_
                  refine o_guardU rfl rfl ?_
                  refine gF rfl rfl ?_
                  refine p_pkT rfl (rfl : _ = B true) ?_
                  refine wp_nil ?_
                  refine c_true rfl ?_
                  refine c_seq ?_
                  refine reg ?_
                  refine p_aB rfl ?_
                  refine wp_nil ?_
                  obtain rfl := Option.some.inj H
                  refine c_ret ?_; show bodyPostM (Fr none) 0 Tryd.prog Tryd.f9 _ .ret _ _
                  refine ret_of (res1 rfl (rvT (rfl : _ = B false))) ?_
                  exact ⟨_, rfl, rfl, S268.keep⟩
                · replace H := condF c270 H
                  refine eB c270 ?_
                  refine gT rfl rfl (p_mB rfl ?_)
                  refine gT rfl rfl (p_mB rfl ?_)
                  rcases Bool.eq_false_or_eq_true (r265.1) with c271 | c271
                  · replace H := condT c271 H
                    refine eB c271 ?_
                    refine gT rfl rfl (p_mB rfl ?_)
                    refine gT rfl rfl (p_not rfl ?_)
                    refine gT rfl rfl (p_pkT rfl (rfl : _ = B (!r261.1)) ?_)
                    refine p_pkF rfl (rfl : _ = B (!r261.1)) ?_
                    refine p_mB rfl ?_
                    rcases Bool.eq_false_or_eq_true (!r261.1) with c272 | c272
                    · replace H := condT c272 H
                      refine eB c272 ?_
                      refine gF rfl rfl ?_
                      refine gF rfl rfl ?_
                      refine o_guardU rfl rfl ?_
                      refine o_guardU rfl rfl ?_
                      refine gF rfl rfl ?_
                      refine p_pkT rfl (rfl : _ = B true) ?_
                      refine p_mB rfl ?_
                      refine gF rfl rfl ?_
                      refine gF rfl rfl ?_
                      refine o_guardU rfl rfl ?_
                      refine o_guardU rfl rfl ?_
                      refine gF rfl rfl ?_
                      refine p_pkT rfl (rfl : _ = B true) ?_
                      refine wp_nil ?_
                      refine c_true rfl ?_
                      refine c_seq ?_
                      refine reg ?_
                      refine p_aB rfl ?_
                      refine wp_nil ?_
                      obtain rfl := Option.some.inj H
                      refine c_ret ?_; show bodyPostM (Fr none) 0 Tryd.prog Tryd.f9 _ .ret _ _
                      refine ret_of (res1 rfl (rvT (rfl : _ = B false))) ?_
                      exact ⟨_, rfl, rfl, S268.keep⟩
                    · replace H := condF c272 H
                      refine eB c272 ?_
                      refine gT rfl rfl (p_mB rfl ?_)
                      refine gT rfl rfl (p_mB rfl ?_)
                      rcases Bool.eq_false_or_eq_true (r265.1) with c273 | c273
                      · replace H := condT c273 H
                        refine eB c273 ?_
                        refine gT rfl rfl (p_mB rfl ?_)
                        refine gT rfl rfl (p_not rfl ?_)
                        refine gT rfl rfl (p_pkT rfl (rfl : _ = B (!r218.1)) ?_)
                        refine p_pkF rfl (rfl : _ = B (!r218.1)) ?_
                        refine p_mB rfl ?_
                        rcases Bool.eq_false_or_eq_true (!r218.1) with c274 | c274
                        · replace H := condT c274 H
                          refine eB c274 ?_
                          refine gF rfl rfl ?_
                          refine gF rfl rfl ?_
                          refine o_guardU rfl rfl ?_
                          refine o_guardU rfl rfl ?_
                          refine gF rfl rfl ?_
                          refine p_pkT rfl (rfl : _ = B true) ?_
                          refine wp_nil ?_
                          refine c_true rfl ?_
                          refine c_seq ?_
                          refine reg ?_
                          refine p_aB rfl ?_
                          refine wp_nil ?_
                          obtain rfl := Option.some.inj H
                          refine c_ret ?_; show bodyPostM (Fr none) 0 Tryd.prog Tryd.f9 _ .ret _ _
                          refine ret_of (res1 rfl (rvT (rfl : _ = B false))) ?_
                          exact ⟨_, rfl, rfl, S268.keep⟩
                        · replace H := condF c274 H
                          refine eB c274 ?_
                          refine gT rfl rfl (p_mB rfl ?_)
                          refine gT rfl rfl (p_mB rfl ?_)
                          rcases Bool.eq_false_or_eq_true (r261.1) with c275 | c275
                          · replace H := condT c275 H
                            refine eB c275 ?_
                            refine gT rfl rfl (p_mI rfl ?_)
                            refine gT rfl rfl (p_cmp rfl rfl rfl ?_)
                            refine gT rfl rfl (p_pkT rfl (rfl : _ = B (r214.2 != 0)) ?_)
                            refine p_pkF rfl (rfl : _ = B (r214.2 != 0)) ?_
                            refine wp_nil ?_
                            refine c_cond rfl (fun c276 => ?_) (fun c276 => ?_)
                            · replace H := condT c276 H
                              refine c_seq ?_
                              refine reg ?_
                              refine p_aB rfl ?_
                              refine wp_nil ?_
                              obtain rfl := Option.some.inj H
                              refine c_ret ?_; show bodyPostM (Fr none) 0 Tryd.prog Tryd.f9 _ .ret _ _
                              refine ret_of (res1 rfl (rvT (rfl : _ = B false))) ?_
                              exact ⟨_, rfl, rfl, S268.keep⟩
                            · replace H := condF c276 H
                              refine c_skip ?_
                              exact ⟨(), (), _, rfl, ⟨rfl, rfl, rfl, rfl, trivial⟩, H, S268⟩
                          · replace H := condF c275 H
                            refine eB c275 ?_
                            refine gF rfl rfl ?_
                            refine gF rfl rfl ?_
                            refine gT rfl rfl (p_pkF rfl (rfl : _ = B false) ?_)
                            refine p_pkF rfl (rfl : _ = B false) ?_
                            refine wp_nil ?_
                            refine c_false rfl ?_
                            refine c_skip ?_
                            exact ⟨(), (), _, rfl, ⟨rfl, rfl, rfl, rfl, trivial⟩, H, S268⟩
                      · replace H := condF c273 H
                        refine eB c273 ?_
                        refine gF rfl rfl ?_
                        refine gF rfl rfl ?_
                        refine gT rfl rfl (p_pkF rfl (rfl : _ = B false) ?_)
                        refine p_pkF rfl (rfl : _ = B false) ?_
                        refine p_mB rfl ?_
                        refine gT rfl rfl (p_mB rfl ?_)
                        refine gT rfl rfl (p_mB rfl ?_)
                        rcases Bool.eq_false_or_eq_true (r261.1) with c277 | c277
                        · replace H := condT c277 H
                          refine eB c277 ?_
                          refine gT rfl rfl (p_mI rfl ?_)
                          refine gT rfl rfl (p_cmp rfl rfl rfl ?_)
                          refine gT rfl rfl (p_pkT rfl (rfl : _ = B (r214.2 != 0)) ?_)
                          refine p_pkF rfl (rfl : _ = B (r214.2 != 0)) ?_
                          refine wp_nil ?_
                          refine c_cond rfl (fun c278 => ?_) (fun c278 => ?_)
                          · replace H := condT c278 H
                            refine c_seq ?_
                            refine reg ?_
                            refine p_aB rfl ?_
                            refine wp_nil ?_
                            obtain rfl := Option.some.inj H
                            refine c_ret ?_; show bodyPostM (Fr none) 0 Tryd.prog Tryd.f9 _ .ret _ _
                            refine ret_of (res1 rfl (rvT (rfl : _ = B false))) ?_
                            exact ⟨_, rfl, rfl, S268.keep⟩
                          · replace H := condF c278 H
                            refine c_skip ?_
                            exact ⟨(), (), _, rfl, ⟨rfl, rfl, rfl, rfl, trivial⟩, H, S268⟩
                        · replace H := condF c277 H
                          refine eB c277 ?_
                          refine gF rfl rfl ?_
                          refine gF rfl rfl ?_
                          refine gT rfl rfl (p_pkF rfl (rfl : _ = B false) ?_)
                          refine p_pkF rfl (rfl : _ = B false) ?_
                          refine wp_nil ?_
                          refine c_false rfl ?_
                          refine c_skip ?_
                          exact ⟨(), (), _, rfl, ⟨rfl, rfl, rfl, rfl, trivial⟩, H, S268⟩
                  · replace H := condF c271 H
                    refine eB c271 ?_
                    refine gF rfl rfl ?_
                    refine gF rfl rfl ?_
                    refine gT rfl rfl (p_pkF rfl (rfl : _ = B false) ?_)
                    refine p_pkF rfl (rfl : _ = B false) ?_
                    refine p_mB rfl ?_
                    refine gT rfl rfl (p_mB rfl ?_)
                    refine gT rfl rfl (p_mB rfl ?_)
                    rcases Bool.eq_false_or_eq_true (r265.1) with c279 | c279
                    · replace H := condT c279 H
                      refine eB c279 ?_
                      refine gT rfl rfl (p_mB rfl ?_)
                      refine gT rfl rfl (p_not rfl ?_)
                      refine gT rfl rfl (p_pkT rfl (rfl : _ = B (!r218.1)) ?_)
                      refine p_pkF rfl (rfl : _ = B (!r218.1)) ?_
                      refine p_mB rfl ?_
                      rcases Bool.eq_false_or_eq_true (!r218.1) with c280 | c280
                      · replace H := condT c280 H
                        refine eB c280 ?_
                        refine gF rfl rfl ?_
                        refine gF rfl rfl ?_
                        refine o_guardU rfl rfl ?_
                        refine o_guardU rfl rfl ?_
                        refine gF rfl rfl ?_
                        refine p_pkT rfl (rfl : _ = B true) ?_
                        refine wp_nil ?_
                        refine c_true rfl ?_
                        refine c_seq ?_
                        refine reg ?_
                        refine p_aB rfl ?_
                        refine wp_nil ?_
                        obtain rfl := Option.some.inj H
                        refine c_ret ?_; show bodyPostM (Fr none) 0 Tryd.prog Tryd.f9 _ .ret _ _
                        refine ret_of (res1 rfl (rvT (rfl : _ = B false))) ?_
                        exact ⟨_, rfl, rfl, S268.keep⟩
                      · replace H := condF c280 H
                        refine eB c280 ?_
                        refine gT rfl rfl (p_mB rfl ?_)
                        refine gT rfl rfl (p_mB rfl ?_)
                        rcases Bool.eq_false_or_eq_true (r261.1) with c281 | c281
                        · replace H := condT c281 H
                          refine eB c281 ?_
                          refine gT rfl rfl (p_mI rfl ?_)
                          refine gT rfl rfl (p_cmp rfl rfl rfl ?_)
                          refine gT rfl rfl (p_pkT rfl (rfl : _ = B (r214.2 != 0)) ?_)
                          refine p_pkF rfl (rfl : _ = B (r214.2 != 0)) ?_
                          refine wp_nil ?_
                          refine c_cond rfl (fun c282 => ?_) (fun c282 => ?_)
                          · replace H := condT c282 H
                            refine c_seq ?_
                            refine reg ?_
                            refine p_aB rfl ?_
                            refine wp_nil ?_
                            obtain rfl := Option.some.inj H
                            refine c_ret ?_; show bodyPostM (Fr none) 0 Tryd.prog Tryd.f9 _ .ret _ _
                            refine ret_of (res1 rfl (rvT (rfl : _ = B false))) ?_
                            exact ⟨_, rfl, rfl, S268.keep⟩
                          · replace H := condF c282 H
                            refine c_skip ?_
                            exact ⟨(), (), _, rfl, ⟨rfl, rfl, rfl, rfl, trivial⟩, H, S268⟩
                        · replace H := condF c281 H
                          refine eB c281 ?_
                          refine gF rfl rfl ?_
                          refine gF rfl rfl ?_
                          refine gT rfl rfl (p_pkF rfl (rfl : _ = B false) ?_)
                          refine p_pkF rfl (rfl : _ = B false) ?_
                          refine wp_nil ?_
                          refine c_false rfl ?_
                          refine c_skip ?_
                          exact ⟨(), (), _, rfl, ⟨rfl, rfl, rfl, rfl, trivial⟩, H, S268⟩
                    · replace H := condF c279 H
                      refine eB c279 ?_
                      refine gF rfl rfl ?_
                      refine gF rfl rfl ?_
                      refine gT rfl rfl (p_pkF rfl (rfl : _ = B false) ?_)
                      refine p_pkF rfl (rfl : _ = B false) ?_
                      refine p_mB rfl ?_
                      refine gT rfl rfl (p_mB rfl ?_)
                      refine gT rfl rfl (p_mB rfl ?_)
                      rcases Bool.eq_false_or_eq_true (r261.1) with c283 | c283
                      · replace H := condT c283 H
                        refine eB c283 ?_
                        refine gT rfl rfl (p_mI rfl ?_)
                        refine gT rfl rfl (p_cmp rfl rfl rfl ?_)
                        refine gT rfl rfl (p_pkT rfl (rfl : _ = B (r214.2 != 0)) ?_)
                        refine p_pkF rfl (rfl : _ = B (r214.2 != 0)) ?_
                        refine wp_nil ?_
                        refine c_cond rfl (fun c284 => ?_) (fun c284 => ?_)
                        · replace H := condT c284 H
                          refine c_seq ?_
                          refine reg ?_
                          refine p_aB rfl ?_
                          refine wp_nil ?_
                          obtain rfl := Option.some.inj H
                          refine c_ret ?_; show bodyPostM (Fr none) 0 Tryd.prog Tryd.f9 _ .ret _ _
                          refine ret_of (res1 rfl (rvT (rfl : _ = B false))) ?_
                          exact ⟨_, rfl, rfl, S268.keep⟩
                        · replace H := condF c284 H
                          refine c_skip ?_
                          exact ⟨(), (), _, rfl, ⟨rfl, rfl, rfl, rfl, trivial⟩, H, S268⟩
                      · replace H := condF c283 H
                        refine eB c283 ?_
                        refine gF rfl rfl ?_
                        refine gF rfl rfl ?_
                        refine gT rfl rfl (p_pkF rfl (rfl : _ = B false) ?_)
                        refine p_pkF rfl (rfl : _ = B false) ?_
                        refine wp_nil ?_
                        refine c_false rfl ?_
                        refine c_skip ?_
                        exact ⟨(), (), _, rfl, ⟨rfl, rfl, rfl, rfl, trivial⟩, H, S268⟩
            · intro z_2 y_2 e269 w270 S271; obtain ⟨H, S271⟩ := S271
              unfold law_TallyMore_j3 at H
              refine c_seq ?_
              refine c_seq ?_
              refine reg ?_
              refine p_mB rfl ?_
              refine p_not rfl ?_
              refine wp_nil ?_
              refine c_cond rfl (fun c272 => ?_) (fun c272 => ?_)
              · replace H := condT c272 H
                refine c_seq ?_
                refine reg ?_
                obtain ⟨r273, h274, H⟩ := bindS H
                refine p_cv (law_counted_ok h274 (S271.atP (i := 5) rfl) (S271.atP (i := 6) rfl)) fu19 rfl S271 fun w275 S276 => ?_
                refine p_aB rfl ?_
                refine wp_nil ?_
                obtain rfl := Option.some.inj H
                refine c_ret ?_; show bodyPostM (Fr none) 0 Tryd.prog Tryd.f9 _ .ret _ _
                refine ret_of (res1 rfl (rvT (rfl : _ = B r273))) ?_
                exact ⟨_, rfl, rfl, S276.keep⟩
              · replace H := condF c272 H
                refine c_skip ?_
                refine c_seq ?_
                obtain ⟨r277, h278, H⟩ := bindS H
                obtain ⟨r279, h280, H⟩ := bindS H
                refine reg_q mixed 6 (by kernel_rfl) ?_
                refine dS (fun _ k_ => p_mS rfl dn) ?_
                refine dS (fun _ k_ => p_cvD (B_Choose_ok h278 (Asr.stays (S271.atP (i := 4) rfl) k_)) fu43 rfl) ?_
                refine dS (fun _ k_ => p_fld fl24_0 rfl dn) ?_
                refine dS (fun _ k_ => p_ld ty3 (Asr.stays (S271.atX (i := 4) rfl) k_) rfl rfl dn) ?_
                refine dS (fun _ k_ => p_cvD (B_Mod_ok h280) fu27 rfl) ?_
                refine dS (fun _ k_ => p_aI rfl dn) ?_
                intro w281 k282; have S283 := S271.call k282
                refine wp_nil ?_
                refine c_seq ?_
                obtain ⟨r284, h285, H⟩ := bindS H
                obtain ⟨r286, h287, H⟩ := bindS H
                refine reg_q mixed 10 (by kernel_rfl) ?_
                refine dS (fun _ k_ => p_mI rfl dn) ?_
                refine dS (fun _ k_ => p_mS rfl dn) ?_
                refine dS (fun _ k_ => p_cvD (B_Choose_ok h285 (Asr.stays (S283.atP (i := 4) rfl) k_)) fu43 rfl) ?_
                refine dS (fun _ k_ => p_fld fl24_0 rfl dn) ?_
                refine dS (fun _ k_ => p_ld ty3 (Asr.stays (S283.atX (i := 4) rfl) k_) rfl rfl dn) ?_
                refine dS (fun _ k_ => p_mI rfl dn) ?_
                refine dS (fun _ k_ => p_sub rfl rfl dn) ?_
                refine dS (fun _ k_ => p_cvD (B_Mod_ok h287) fu27 rfl) ?_
                refine dS (fun _ k_ => p_add rfl rfl dn) ?_
                refine dS (fun _ k_ => p_aI rfl dn) ?_
                intro w288 k289; have S290 := S283.call k289
                refine wp_nil ?_
                refine c_seq ?_
                refine reg ?_
                refine p_ldA ty24 sz24 (S290.atX (i := 4) rfl) rfl rfl ?_
                refine p_mI rfl ?_
                refine p_mI rfl ?_
                obtain ⟨r291, h292, H⟩ := bindS H
                refine p_cv (tally_Many_ok h292 (S290.atP (i := 3) rfl) (S290.atP (i := 5) rfl) (S290.atP (i := 6) rfl)) fu32 rfl S290 fun w293 S294 => ?_
                refine p_mT rfl ?_
                refine p_ext rfl rfl ?_
                refine p_ext rfl rfl ?_
                refine p_allA in49 S294 fun b295 w296 S297 => ?_
                refine p_stP (pre := []) (old := [I 0, I 0]) (post := []) (vs := [I r291.1.Low, I r291.1.High]) sz49 S297 (i := 0) rfl rfl rfl rfl (rfl : _ = AG [I r291.1.Low, I r291.1.High]) rfl rfl rfl rfl fun w298 S299 => ?_
                refine p_aI rfl ?_
                refine wp_nil ?_
                refine c_seq ?_
                refine reg ?_
                refine p_ldA ty24 sz24 (S299.atX (i := 3) rfl) rfl rfl ?_
                refine p_mI rfl ?_
                refine p_mI rfl ?_
                obtain ⟨r300, h301, H⟩ := bindS H
                refine p_cv (tally_Many_ok h301 (S299.atP (i := 0) rfl) (S299.atP (i := 5) rfl) (S299.atP (i := 6) rfl)) fu32 rfl S299 fun w302 S303 => ?_
                refine p_mT rfl ?_
                refine p_ext rfl rfl ?_
                refine p_ext rfl rfl ?_
                refine p_allA in49 S303 fun b304 w305 S306 => ?_
                refine p_stP (pre := []) (old := [I 0, I 0]) (post := []) (vs := [I r300.1.Low, I r300.1.High]) sz49 S306 (i := 0) rfl rfl rfl rfl (rfl : _ = AG [I r300.1.Low, I r300.1.High]) rfl rfl rfl rfl fun w307 S308 => ?_
                refine p_aI rfl ?_
                refine wp_nil ?_
                refine c_seq ?_
                refine reg ?_
                refine p_mI rfl ?_
                refine p_cmp rfl rfl rfl ?_
                refine p_mB rfl ?_
                rcases Bool.eq_false_or_eq_true ((r291.2 == 0)) with c309 | c309
                · replace H := condT c309 H
                  refine eB c309 ?_
                  refine gT rfl rfl (p_mI rfl ?_)
                  refine gT rfl rfl (p_cmp rfl rfl rfl ?_)
                  refine p_pkT rfl (rfl : _ = B (r300.2 == 0)) ?_
                  refine p_mB rfl ?_
                  rcases Bool.eq_false_or_eq_true ((r300.2 == 0)) with c310 | c310
                  · replace H := condT c310 H
                    refine eB c310 ?_
                    refine gT rfl rfl (p_ldA ty49 sz49 (S308.atX (i := 1) rfl) rfl rfl ?_)
                    refine gT rfl rfl (p_ldA ty49 sz49 (S308.atX (i := 0) rfl) rfl rfl ?_)
                    obtain ⟨r311, h312, H⟩ := bindS H
                    refine gT rfl rfl (p_cv (B_Covers_ok h312) fu44 rfl S308 fun w313 S314 => ?_)
                    refine p_pkT rfl (rfl : _ = B r311) ?_
                    refine p_mB rfl ?_
                    rcases Bool.eq_false_or_eq_true (r311) with c315 | c315
                    · replace H := condT c315 H
                      refine eB c315 ?_
                      refine gT rfl rfl (p_fld fl49_0 rfl ?_)
                      refine gT rfl rfl (p_ld ty3 (S314.atX (i := 0) rfl) rfl rfl ?_)
                      refine gT rfl rfl (p_fld fl49_1 rfl ?_)
                      refine gT rfl rfl (p_ld ty3 (S314.atX (i := 0) rfl) rfl rfl ?_)
                      refine gT rfl rfl (p_cmp rfl rfl rfl ?_)
                      refine p_pkT rfl (rfl : _ = B (decide (r300.1.Low ≤ r300.1.High))) ?_
                      refine p_mB rfl ?_
                      rcases Bool.eq_false_or_eq_true (decide (r300.1.Low ≤ r300.1.High)) with c316 | c316
                      · replace H := condT c316 H
                        refine eB c316 ?_
                        obtain ⟨r317, h318, H⟩ := bindS H
                        refine gT rfl rfl (p_cv (law_counted_ok h318 (S314.atP (i := 5) rfl) (S314.atP (i := 6) rfl)) fu19 rfl S314 fun w319 S320 => ?_)
                        refine p_pkT rfl (rfl : _ = B r317) ?_
                        refine p_aB rfl ?_
                        refine wp_nil ?_
                        obtain rfl := Option.some.inj H
                        refine c_ret ?_; show bodyPostM (Fr none) 0 Tryd.prog Tryd.f9 _ .ret _ _
                        refine ret_of (res1 rfl (rvT (rfl : _ = B r317))) ?_
                        exact ⟨_, rfl, rfl, S320.keep⟩
                      · replace H := condF c316 H
                        refine eB c316 ?_
                        refine gF rfl rfl ?_
                        refine p_pkF rfl (rfl : _ = B false) ?_
                        refine p_aB rfl ?_
                        refine wp_nil ?_
                        obtain rfl := Option.some.inj H
                        refine c_ret ?_; show bodyPostM (Fr none) 0 Tryd.prog Tryd.f9 _ .ret _ _
                        refine ret_of (res1 rfl (rvT (rfl : _ = B false))) ?_
                        exact ⟨_, rfl, rfl, S314.keep⟩
                    · replace H := condF c315 H
                      refine eB c315 ?_
                      refine gF rfl rfl ?_
                      refine gF rfl rfl ?_
                      refine gF rfl rfl ?_
                      refine gF rfl rfl ?_
                      refine gF rfl rfl ?_
                      refine p_pkF rfl (rfl : _ = B false) ?_
                      refine p_mB rfl ?_
                      refine gF rfl rfl ?_
                      refine p_pkF rfl (rfl : _ = B false) ?_
                      refine p_aB rfl ?_
                      refine wp_nil ?_
                      obtain rfl := Option.some.inj H
                      refine c_ret ?_; show bodyPostM (Fr none) 0 Tryd.prog Tryd.f9 _ .ret _ _
                      refine ret_of (res1 rfl (rvT (rfl : _ = B false))) ?_
                      exact ⟨_, rfl, rfl, S314.keep⟩
                  · replace H := condF c310 H
                    refine eB c310 ?_
                    refine gF rfl rfl ?_
                    refine gF rfl rfl ?_
                    refine gF rfl rfl ?_
                    refine p_pkF rfl (rfl : _ = B false) ?_
                    refine p_mB rfl ?_
                    refine gF rfl rfl ?_
                    refine gF rfl rfl ?_
                    refine gF rfl rfl ?_
                    refine gF rfl rfl ?_
                    refine gF rfl rfl ?_
                    refine p_pkF rfl (rfl : _ = B false) ?_
                    refine p_mB rfl ?_
                    refine gF rfl rfl ?_
                    refine p_pkF rfl (rfl : _ = B false) ?_
                    refine p_aB rfl ?_
                    refine wp_nil ?_
                    obtain rfl := Option.some.inj H
                    refine c_ret ?_; show bodyPostM (Fr none) 0 Tryd.prog Tryd.f9 _ .ret _ _
                    refine ret_of (res1 rfl (rvT (rfl : _ = B false))) ?_
                    exact ⟨_, rfl, rfl, S308.keep⟩
                · replace H := condF c309 H
                  refine eB c309 ?_
                  refine gF rfl rfl ?_
                  refine gF rfl rfl ?_
                  refine p_pkF rfl (rfl : _ = B false) ?_
                  refine p_mB rfl ?_
                  refine gF rfl rfl ?_
                  refine gF rfl rfl ?_
                  refine gF rfl rfl ?_
                  refine p_pkF rfl (rfl : _ = B false) ?_
                  refine p_mB rfl ?_
                  refine gF rfl rfl ?_
                  refine gF rfl rfl ?_
                  refine gF rfl rfl ?_
                  refine gF rfl rfl ?_
                  refine gF rfl rfl ?_
                  refine p_pkF rfl (rfl : _ = B false) ?_
                  refine p_mB rfl ?_
                  refine gF rfl rfl ?_
                  refine p_pkF rfl (rfl : _ = B false) ?_
                  refine p_aB rfl ?_
                  refine wp_nil ?_
                  obtain rfl := Option.some.inj H
                  refine c_ret ?_; show bodyPostM (Fr none) 0 Tryd.prog Tryd.f9 _ .ret _ _
                  refine ret_of (res1 rfl (rvT (rfl : _ = B false))) ?_
                  exact ⟨_, rfl, rfl, S308.keep⟩

end Go.Proofs.YtplpalmabgjibaaDoor

/- What the functions of the program compute, and that they do, printed by a program of mine. -/
import Derived.Test.YtplpalmabgjibaaDoorZWFacts
import Derived.Test.YtplpalmabgjibaaDoorZWFrom
import Derived.Test.YtplpalmabgjibaaDoorZFxFrom
set_option linter.unusedVariables false
set_option linter.unusedSimpArgs false
namespace Go.Proofs.YtplpalmabgjibaaDoor
open Go Go.Fx Go.Proofs
structure Tally_pair where
  from_ : Int
  to_ : Int
  deriving DecidableEq, Inhabited

def ekT (p : Tally_pair) : Value := AG [I p.from_, I p.to_]
def iE (x : Int) : Value := I x
theorem keyT : KeyL Tryd.prog 115 ekT := KeyL.comp Fr.keyPr (fun p : Tally_pair => (p.from_, p.to_)) fun a b h => by
  cases a; cases b; cases h; rfl

structure TallyCount where
  Who : Int
  From : Int
  To : Int
  Told : Int
  Unit : Int
  Under : Int
  Over : Int
  deriving DecidableEq, Inhabited

structure TallyBook where
  Trips : Int
  Room : Int
  Counts : List TallyCount
  deriving DecidableEq, Inhabited

structure Tally_book where
  TallyBook : TallyBook
  more_ : List (Tally_pair × Int)
  deriving DecidableEq, Inhabited

def eTallyCount (x : TallyCount) : List Value := [I x.Who, I x.From, I x.To, I x.Told, I x.Unit, I x.Under, I x.Over]
theorem eTallyCount_len (x : TallyCount) : (eTallyCount x).length = 7 := rfl
theorem eTallyCount_one (x : TallyCount) : ∀ u ∈ eTallyCount x, u.oneCell' = true := by simp [eTallyCount, sg, sgF, Value.oneCell']

def tally_count_least (a0 : TallyCount) : Option Int :=
  some (wr ((wr (a0.Told * a0.Unit)) - a0.Over))

set_option maxRecDepth 100000 in
theorem tally_count_least_ok {a0 : TallyCount} {w : World} {r : Int} (H : tally_count_least a0 = some r) : Calls Tryd.prog 117 #[AG [I a0.Who, I a0.From, I a0.To, I a0.Told, I a0.Unit, I a0.Under, I a0.Over]] w (RetV w (I r)) := by
  unfold tally_count_least at H
  refine fn_of (n := 11) Tryd.func117 rfl rfl (Nat.le_of_ble_eq_true rfl) ?_
  have S : St w (fun _ => False) w [] [] := St.start w _ _ (fun _ h_ => (List.not_mem_nil h_).elim)
  refine c_seq ?_
  refine reg ?_
  refine p_boxA rfl S fun b1 w2 S3 => ?_
  refine p_aI rfl ?_
  refine wp_nil ?_
  refine c_seq ?_
  refine reg ?_
  refine p_fld fl93_3 rfl ?_
  refine p_ld ty3 (S3.atX (i := 0) rfl) rfl rfl ?_
  refine p_fld fl93_4 rfl ?_
  refine p_ld ty3 (S3.atX (i := 0) rfl) rfl rfl ?_
  refine p_mul rfl rfl ?_
  refine p_fld fl93_6 rfl ?_
  refine p_ld ty3 (S3.atX (i := 0) rfl) rfl rfl ?_
  refine p_sub rfl rfl ?_
  refine p_aI rfl ?_
  refine wp_nil ?_
  obtain rfl := Option.some.inj H
  refine c_ret ?_; show bodyPostM (Fr none) 0 Tryd.prog Tryd.f117 _ .ret _ _
  refine ret_of (res1 rfl (rvT (rfl : _ = I (wr ((wr (a0.Told * a0.Unit)) - a0.Over))))) ?_
  exact ⟨_, rfl, rfl, S3.keep⟩

def tally_count_most (a0 : TallyCount) : Option Int :=
  some (wr ((wr (a0.Told * a0.Unit)) + a0.Under))

set_option maxRecDepth 100000 in
theorem tally_count_most_ok {a0 : TallyCount} {w : World} {r : Int} (H : tally_count_most a0 = some r) : Calls Tryd.prog 119 #[AG [I a0.Who, I a0.From, I a0.To, I a0.Told, I a0.Unit, I a0.Under, I a0.Over]] w (RetV w (I r)) := by
  unfold tally_count_most at H
  refine fn_of (n := 11) Tryd.func119 rfl rfl (Nat.le_of_ble_eq_true rfl) ?_
  have S : St w (fun _ => False) w [] [] := St.start w _ _ (fun _ h_ => (List.not_mem_nil h_).elim)
  refine c_seq ?_
  refine reg ?_
  refine p_boxA rfl S fun b1 w2 S3 => ?_
  refine p_aI rfl ?_
  refine wp_nil ?_
  refine c_seq ?_
  refine reg ?_
  refine p_fld fl93_3 rfl ?_
  refine p_ld ty3 (S3.atX (i := 0) rfl) rfl rfl ?_
  refine p_fld fl93_4 rfl ?_
  refine p_ld ty3 (S3.atX (i := 0) rfl) rfl rfl ?_
  refine p_mul rfl rfl ?_
  refine p_fld fl93_5 rfl ?_
  refine p_ld ty3 (S3.atX (i := 0) rfl) rfl rfl ?_
  refine p_add rfl rfl ?_
  refine p_aI rfl ?_
  refine wp_nil ?_
  obtain rfl := Option.some.inj H
  refine c_ret ?_; show bodyPostM (Fr none) 0 Tryd.prog Tryd.f119 _ .ret _ _
  refine ret_of (res1 rfl (rvT (rfl : _ = I (wr ((wr (a0.Told * a0.Unit)) + a0.Under))))) ?_
  exact ⟨_, rfl, rfl, S3.keep⟩

def B_OwnCounts (a0 : List TallyCount) : Option (List TallyCount) :=
  need (fitsL a0.length 56) <|
  some a0

set_option maxRecDepth 100000 in
theorem B_OwnCounts_ok {a0 : List TallyCount} {A1 : Option Addr} {c2 : Nat} {w : World} {r : (List TallyCount)} (H : B_OwnCounts a0 = some r) (h3 : (rd eTallyCount 7 A1 c2 a0).ok w) : Calls Tryd.prog 55 #[SL A1 a0.length c2] w fun en w_ => ∃ u_, en = .returned u_ ∧ ∃ A_1 : Option Addr, ∃ c_2 : Nat, u_ = SL A_1 r.length c_2 ∧ Keep0 w w_ ∧ ((rd eTallyCount 7 A_1 c_2 r).ok w_ ∧ New w.heap.size (rd eTallyCount 7 A_1 c_2 r)) ∧ True := by
  unfold B_OwnCounts at H
  refine fn_of (n := 7) Tryd.func55 rfl rfl (Nat.le_of_ble_eq_true rfl) ?_
  have S : St w (fun _ => False) w [] [rd eTallyCount 7 A1 c2 a0] := St.start w _ _ (List.forall_mem_cons.2 ⟨h3, (fun _ h_ => (List.not_mem_nil h_).elim)⟩)
  refine c_seq ?_
  refine reg ?_
  refine p_aS rfl ?_
  refine wp_nil ?_
  refine c_seq ?_
  refine reg ?_
  refine p_mS rfl ?_
  refine p_cut0 sc22 rfl rfl rfl ?_
  refine p_mS rfl ?_
  obtain ⟨h8, H⟩ := needS H
  refine p_appC (enc := eTallyCount) sc22 in33 rfl eTallyCount_len (by decide) S (S.atP (i := 0) rfl).1 h8 rfl rfl fun A6 c7 w4 n9 S5 => ?_
  refine p_aS rfl ?_
  refine wp_nil ?_
  obtain rfl := Option.some.inj H
  refine c_ret ?_; show bodyPostM (Fr none) 0 Tryd.prog Tryd.f55 _ .ret _ _
  refine ret_of (res1 rfl (rvT (rfl : _ = SL A6 a0.length c7))) ?_
  exact ⟨_, rfl, A6, c7, rfl, S5.keep, ⟨(S5.atX (i := 0) rfl), (S5.newX (i := 0) rfl)⟩, trivial⟩

def B_OwnTally (a0 : TallyBook) : Option TallyBook :=
  (B_OwnCounts a0.Counts).bind fun r10 =>
  some (TallyBook.mk a0.Trips a0.Room r10)

set_option maxRecDepth 100000 in
theorem B_OwnTally_ok {a0 : TallyBook} {A1 : Option Addr} {c2 : Nat} {w : World} {r : TallyBook} (H : B_OwnTally a0 = some r) (h3 : (rd eTallyCount 7 A1 c2 a0.Counts).ok w) : Calls Tryd.prog 16 #[AG [I a0.Trips, I a0.Room, SL A1 a0.Counts.length c2]] w fun en w_ => ∃ u_, en = .returned u_ ∧ ∃ A_1 : Option Addr, ∃ c_2 : Nat, u_ = AG [I r.Trips, I r.Room, SL A_1 r.Counts.length c_2] ∧ Keep0 w w_ ∧ ((rd eTallyCount 7 A_1 c_2 r.Counts).ok w_ ∧ New w.heap.size (rd eTallyCount 7 A_1 c_2 r.Counts)) ∧ True := by
  unfold B_OwnTally at H
  refine fn_of (n := 8) Tryd.func16 rfl rfl (Nat.le_of_ble_eq_true rfl) ?_
  have S : St w (fun _ => False) w [] [rd eTallyCount 7 A1 c2 a0.Counts] := St.start w _ _ (List.forall_mem_cons.2 ⟨h3, (fun _ h_ => (List.not_mem_nil h_).elim)⟩)
  refine c_seq ?_
  refine reg ?_
  refine p_boxA rfl S fun b4 w5 S6 => ?_
  refine p_allA in24 S6 fun b7 w8 S9 => ?_
  refine wp_nil ?_
  refine c_seq ?_
  refine reg ?_
  refine p_fld fl24_2 rfl ?_
  refine p_ld ty22 (S9.atX (i := 1) rfl) rfl rfl ?_
  obtain ⟨r10, h11, H⟩ := bindS H
  refine p_cal (B_OwnCounts_ok h11 (S9.atP (i := 0) rfl)) fu55 rfl ?_
  rintro _ w12 ⟨A14, c15, rfl, k13, ⟨o16, n17⟩, _⟩
  have S18 := S9.callN k13 [rd eTallyCount 7 A14 c15 r10] (List.forall_mem_cons.2 ⟨⟨o16, New.inL n17⟩, (fun _ h_ => (List.not_mem_nil h_).elim)⟩)
  refine p_fld fl24_2 rfl ?_
  refine p_stP (pre := [I a0.Trips, I a0.Room]) (old := [SL A1 a0.Counts.length c2]) (post := []) (vs := [SL A14 r10.length c15]) sz22 S18 (i := 1) rfl rfl rfl rfl (rfl : _ = SL A14 r10.length c15) rfl rfl rfl rfl fun w19 S20 => ?_
  refine wp_nil ?_
  refine c_seq ?_
  refine reg ?_
  refine p_ldA ty24 sz24 (S20.atX (i := 1) rfl) rfl rfl ?_
  refine p_stP (pre := []) (old := [I 0, I 0, SL none 0 0]) (post := []) (vs := [I a0.Trips, I a0.Room, SL A14 r10.length c15]) sz24 S20 (i := 0) rfl rfl rfl rfl (rfl : _ = AG [I a0.Trips, I a0.Room, SL A14 r10.length c15]) rfl rfl rfl rfl fun w21 S22 => ?_
  refine wp_nil ?_
  obtain rfl := Option.some.inj H
  refine c_ret ?_; show bodyPostM (Fr none) 0 Tryd.prog Tryd.f16 _ .ret _ _
  refine ret_of (res1 rfl (rvA rfl ty24 sz24 (S22.atX (i := 0) rfl) rfl)) ?_
  exact ⟨_, rfl, A14, c15, rfl, S22.keep, ⟨(S22.atP (i := 0) rfl), (New.mono n17 S9.keep.size)⟩, trivial⟩

def tally_within (a0 : Int) (a1 : Int) (a2 : Int) : Option Bool :=
  bif decide (a1 ≤ a0) then (some (decide (a0 ≤ a2)))
  else (some false)

set_option maxRecDepth 100000 in
theorem tally_within_ok {a0 : Int} {a1 : Int} {a2 : Int} {w : World} {r : Bool} (H : tally_within a0 a1 a2 = some r) : Calls Tryd.prog 69 #[I a0, I a1, I a2] w (RetV w (B r)) := by
  unfold tally_within at H
  refine fn_of (n := 15) Tryd.func69 rfl rfl (Nat.le_of_ble_eq_true rfl) ?_
  have S : St w (fun _ => False) w [] [] := St.start w _ _ (fun _ h_ => (List.not_mem_nil h_).elim)
  refine c_seq ?_
  refine reg ?_
  refine p_aB rfl ?_
  refine wp_nil ?_
  refine c_seq ?_
  refine reg ?_
  refine p_mI rfl ?_
  refine p_mI rfl ?_
  refine p_cmp rfl rfl rfl ?_
  refine p_mB rfl ?_
  rcases Bool.eq_false_or_eq_true (decide (a1 ≤ a0)) with c1 | c1
  · replace H := condT c1 H
    refine eB c1 ?_
    refine gT rfl rfl (p_mI rfl ?_)
    refine gT rfl rfl (p_mI rfl ?_)
    refine gT rfl rfl (p_cmp rfl rfl rfl ?_)
    refine p_pkT rfl (rfl : _ = B (decide (a0 ≤ a2))) ?_
    refine p_aB rfl ?_
    refine wp_nil ?_
    obtain rfl := Option.some.inj H
    refine c_ret ?_; show bodyPostM (Fr none) 0 Tryd.prog Tryd.f69 _ .ret _ _
    refine ret_of (res1 rfl (rvT (rfl : _ = B (decide (a0 ≤ a2))))) ?_
    exact ⟨_, rfl, rfl, S.keep⟩
  · replace H := condF c1 H
    refine eB c1 ?_
    refine gF rfl rfl ?_
    refine gF rfl rfl ?_
    refine gF rfl rfl ?_
    refine p_pkF rfl (rfl : _ = B false) ?_
    refine p_aB rfl ?_
    refine wp_nil ?_
    obtain rfl := Option.some.inj H
    refine c_ret ?_; show bodyPostM (Fr none) 0 Tryd.prog Tryd.f69 _ .ret _ _
    refine ret_of (res1 rfl (rvT (rfl : _ = B false))) ?_
    exact ⟨_, rfl, rfl, S.keep⟩

def tally_isTrips (a0 : TallyBook) (a1 : Int) (a2 : Int) : Option Bool :=
  (tally_within a1 0 a2).bind fun r7 =>
  bif r7 then (some (decide (a2 < a0.Trips)))
  else (some false)

set_option maxRecDepth 100000 in
theorem tally_isTrips_ok {a0 : TallyBook} {a1 : Int} {a2 : Int} {A1 : Option Addr} {c2 : Nat} {w : World} {r : Bool} (H : tally_isTrips a0 a1 a2 = some r) (h3 : (rd eTallyCount 7 A1 c2 a0.Counts).ok w) : Calls Tryd.prog 75 #[AG [I a0.Trips, I a0.Room, SL A1 a0.Counts.length c2], I a1, I a2] w (RetV w (B r)) := by
  unfold tally_isTrips at H
  refine fn_of (n := 16) Tryd.func75 rfl rfl (Nat.le_of_ble_eq_true rfl) ?_
  have S : St w (fun _ => False) w [] [rd eTallyCount 7 A1 c2 a0.Counts] := St.start w _ _ (List.forall_mem_cons.2 ⟨h3, (fun _ h_ => (List.not_mem_nil h_).elim)⟩)
  refine c_seq ?_
  refine reg ?_
  refine p_boxA rfl S fun b4 w5 S6 => ?_
  refine p_aB rfl ?_
  refine wp_nil ?_
  refine c_seq ?_
  refine reg ?_
  refine p_mI rfl ?_
  refine p_mI rfl ?_
  obtain ⟨r7, h8, H⟩ := bindS H
  refine p_cv (tally_within_ok h8) fu69 rfl S6 fun w9 S10 => ?_
  refine p_mB rfl ?_
  rcases Bool.eq_false_or_eq_true (r7) with c11 | c11
  · replace H := condT c11 H
    refine eB c11 ?_
    refine gT rfl rfl (p_mI rfl ?_)
    refine gT rfl rfl (p_fld fl24_0 rfl ?_)
    refine gT rfl rfl (p_ld ty3 (S10.atX (i := 0) rfl) rfl rfl ?_)
    refine gT rfl rfl (p_cmp rfl rfl rfl ?_)
    refine p_pkT rfl (rfl : _ = B (decide (a2 < a0.Trips))) ?_
    refine p_aB rfl ?_
    refine wp_nil ?_
    obtain rfl := Option.some.inj H
    refine c_ret ?_; show bodyPostM (Fr none) 0 Tryd.prog Tryd.f75 _ .ret _ _
    refine ret_of (res1 rfl (rvT (rfl : _ = B (decide (a2 < a0.Trips))))) ?_
    exact ⟨_, rfl, rfl, S10.keep⟩
  · replace H := condF c11 H
    refine eB c11 ?_
    refine gF rfl rfl ?_
    refine gF rfl rfl ?_
    refine gF rfl rfl ?_
    refine gF rfl rfl ?_
    refine p_pkF rfl (rfl : _ = B false) ?_
    refine p_aB rfl ?_
    refine wp_nil ?_
    obtain rfl := Option.some.inj H
    refine c_ret ?_; show bodyPostM (Fr none) 0 Tryd.prog Tryd.f75 _ .ret _ _
    refine ret_of (res1 rfl (rvT (rfl : _ = B false))) ?_
    exact ⟨_, rfl, rfl, S10.keep⟩

def tally_isCount_j1 (a1 : TallyCount) (z_1 : Bool) : Option Bool :=
  bif z_1 then ((tally_within a1.Under 0 30).bind fun r14 =>
  bif r14 then ((tally_within a1.Over 0 30).bind fun r19 =>
  bif r19 then (bif (a1.Who != 1) then (some true)
  else (some (a1.Over == 0)))
  else (some false))
  else (some false))
  else (some false)

def tally_isCount (a0 : TallyBook) (a1 : TallyCount) : Option Bool :=
  (tally_within a1.Who 0 2).bind fun r10 =>
  bif r10 then ((tally_isTrips a0 a1.From a1.To).bind fun r15 =>
  bif r15 then ((tally_within a1.Told 0 99).bind fun r20 =>
  bif r20 then ((tally_within a1.Unit 1 20).bind fun r25 =>
  tally_isCount_j1 a1 r25)
  else (tally_isCount_j1 a1 false))
  else (tally_isCount_j1 a1 false))
  else (tally_isCount_j1 a1 false)

set_option maxRecDepth 100000 in
theorem tally_isCount_ok {a0 : TallyBook} {a1 : TallyCount} {A1 : Option Addr} {c2 : Nat} {w : World} {r : Bool} (H : tally_isCount a0 a1 = some r) (h3 : (rd eTallyCount 7 A1 c2 a0.Counts).ok w) : Calls Tryd.prog 77 #[AG [I a0.Trips, I a0.Room, SL A1 a0.Counts.length c2], AG [I a1.Who, I a1.From, I a1.To, I a1.Told, I a1.Unit, I a1.Under, I a1.Over]] w (RetV w (B r)) := by
  unfold tally_isCount at H
  refine fn_of (n := 48) Tryd.func77 rfl rfl (Nat.le_of_ble_eq_true rfl) ?_
  have S : St w (fun _ => False) w [] [rd eTallyCount 7 A1 c2 a0.Counts] := St.start w _ _ (List.forall_mem_cons.2 ⟨h3, (fun _ h_ => (List.not_mem_nil h_).elim)⟩)
  refine c_seq ?_
  refine reg ?_
  refine p_boxA rfl S fun b4 w5 S6 => ?_
  refine p_boxA rfl S6 fun b7 w8 S9 => ?_
  refine p_aB rfl ?_
  refine wp_nil ?_
  refine c_join (α := Bool) (β := Unit) (fun z_1 y_1 => [(3, P b7 0), (5, B z_1)]) (fun z_1 y_1 w_ => tally_isCount_j1 a1 z_1 = some r ∧ St w (fun _ => False) w_ [bl b7 [I a1.Who, I a1.From, I a1.To, I a1.Told, I a1.Unit, I a1.Under, I a1.Over] 33, bl b4 [I a0.Trips, I a0.Room, SL A1 a0.Counts.length c2] 24] [rd eTallyCount 7 A1 c2 a0.Counts]) ?_ ?_
  · refine reg ?_
    refine p_fld fl33_0 rfl ?_
    refine p_ld ty3 (S9.atX (i := 0) rfl) rfl rfl ?_
    obtain ⟨r10, h11, H⟩ := bindS H
    refine p_cv (tally_within_ok h11) fu69 rfl S9 fun w12 S13 => ?_
    refine p_mB rfl ?_
    rcases Bool.eq_false_or_eq_true (r10) with c14 | c14
    · replace H := condT c14 H
      refine eB c14 ?_
      refine gT rfl rfl (p_ldA ty24 sz24 (S13.atX (i := 1) rfl) rfl rfl ?_)
      refine gT rfl rfl (p_fld fl33_1 rfl ?_)
      refine gT rfl rfl (p_ld ty3 (S13.atX (i := 0) rfl) rfl rfl ?_)
      refine gT rfl rfl (p_fld fl33_2 rfl ?_)
      refine gT rfl rfl (p_ld ty3 (S13.atX (i := 0) rfl) rfl rfl ?_)
      obtain ⟨r15, h16, H⟩ := bindS H
      refine gT rfl rfl (p_cv (tally_isTrips_ok h16 (S13.atP (i := 0) rfl)) fu75 rfl S13 fun w17 S18 => ?_)
      refine p_pkT rfl (rfl : _ = B r15) ?_
      refine p_mB rfl ?_
      rcases Bool.eq_false_or_eq_true (r15) with c19 | c19
      · replace H := condT c19 H
        refine eB c19 ?_
        refine gT rfl rfl (p_fld fl33_3 rfl ?_)
        refine gT rfl rfl (p_ld ty3 (S18.atX (i := 0) rfl) rfl rfl ?_)
        obtain ⟨r20, h21, H⟩ := bindS H
        refine gT rfl rfl (p_cv (tally_within_ok h21) fu69 rfl S18 fun w22 S23 => ?_)
        refine p_pkT rfl (rfl : _ = B r20) ?_
        refine p_mB rfl ?_
        rcases Bool.eq_false_or_eq_true (r20) with c24 | c24
        · replace H := condT c24 H
          refine eB c24 ?_
          refine gT rfl rfl (p_fld fl33_4 rfl ?_)
          refine gT rfl rfl (p_ld ty3 (S23.atX (i := 0) rfl) rfl rfl ?_)
          obtain ⟨r25, h26, H⟩ := bindS H
          refine gT rfl rfl (p_cv (tally_within_ok h26) fu69 rfl S23 fun w27 S28 => ?_)
          refine p_pkT rfl (rfl : _ = B r25) ?_
          refine p_aB rfl ?_
          refine wp_nil ?_
          exact ⟨r25, (), _, rfl, ⟨rfl, rfl, trivial⟩, H, S28⟩
        · replace H := condF c24 H
          refine eB c24 ?_
          refine gF rfl rfl ?_
          refine gF rfl rfl ?_
          refine gF rfl rfl ?_
          refine p_pkF rfl (rfl : _ = B false) ?_
          refine p_aB rfl ?_
          refine wp_nil ?_
          exact ⟨false, (), _, rfl, ⟨rfl, rfl, trivial⟩, H, S23⟩
      · replace H := condF c19 H
        refine eB c19 ?_
        refine gF rfl rfl ?_
        refine gF rfl rfl ?_
        refine gF rfl rfl ?_
        refine p_pkF rfl (rfl : _ = B false) ?_
        refine p_mB rfl ?_
        refine gF rfl rfl ?_
        refine gF rfl rfl ?_
        refine gF rfl rfl ?_
        refine p_pkF rfl (rfl : _ = B false) ?_
        refine p_aB rfl ?_
        refine wp_nil ?_
        exact ⟨false, (), _, rfl, ⟨rfl, rfl, trivial⟩, H, S18⟩
    · replace H := condF c14 H
      refine eB c14 ?_
      refine gF rfl rfl ?_
      refine gF rfl rfl ?_
      refine gF rfl rfl ?_
      refine gF rfl rfl ?_
      refine gF rfl rfl ?_
      refine gF rfl rfl ?_
      refine p_pkF rfl (rfl : _ = B false) ?_
      refine p_mB rfl ?_
      refine gF rfl rfl ?_
      refine gF rfl rfl ?_
      refine gF rfl rfl ?_
      refine p_pkF rfl (rfl : _ = B false) ?_
      refine p_mB rfl ?_
      refine gF rfl rfl ?_
      refine gF rfl rfl ?_
      refine gF rfl rfl ?_
      refine p_pkF rfl (rfl : _ = B false) ?_
      refine p_aB rfl ?_
      refine wp_nil ?_
      exact ⟨false, (), _, rfl, ⟨rfl, rfl, trivial⟩, H, S13⟩
  · intro z_1 y_1 e10 w11 S12; obtain ⟨H, S12⟩ := S12
    unfold tally_isCount_j1 at H
    refine c_seq ?_
    refine reg ?_
    refine p_mB rfl ?_
    refine p_mB rfl ?_
    rcases Bool.eq_false_or_eq_true (z_1) with c13 | c13
    · replace H := condT c13 H
      refine eB c13 ?_
      refine gT rfl rfl (p_fld fl33_5 rfl ?_)
      refine gT rfl rfl (p_ld ty3 (S12.atX (i := 0) rfl) rfl rfl ?_)
      obtain ⟨r14, h15, H⟩ := bindS H
      refine gT rfl rfl (p_cv (tally_within_ok h15) fu69 rfl S12 fun w16 S17 => ?_)
      refine p_pkT rfl (rfl : _ = B r14) ?_
      refine p_mB rfl ?_
      rcases Bool.eq_false_or_eq_true (r14) with c18 | c18
      · replace H := condT c18 H
        refine eB c18 ?_
        refine gT rfl rfl (p_fld fl33_6 rfl ?_)
        refine gT rfl rfl (p_ld ty3 (S17.atX (i := 0) rfl) rfl rfl ?_)
        obtain ⟨r19, h20, H⟩ := bindS H
        refine gT rfl rfl (p_cv (tally_within_ok h20) fu69 rfl S17 fun w21 S22 => ?_)
        refine p_pkT rfl (rfl : _ = B r19) ?_
        refine p_mB rfl ?_
        rcases Bool.eq_false_or_eq_true (r19) with c23 | c23
        · replace H := condT c23 H
          refine eB c23 ?_
          refine gT rfl rfl (p_fld fl33_0 rfl ?_)
          refine gT rfl rfl (p_ld ty3 (S22.atX (i := 0) rfl) rfl rfl ?_)
          refine gT rfl rfl (p_cmp rfl rfl rfl ?_)
          refine gT rfl rfl (p_mB rfl ?_)
          rcases Bool.eq_false_or_eq_true ((a1.Who != 1)) with c24 | c24
          · replace H := condT c24 H
            refine eB c24 ?_
            refine gF rfl rfl ?_
            refine gF rfl rfl ?_
            refine gF rfl rfl ?_
            refine gT rfl rfl (p_pkT rfl (rfl : _ = B true) ?_)
            refine p_pkT rfl (rfl : _ = B true) ?_
            refine p_aB rfl ?_
            refine wp_nil ?_
            obtain rfl := Option.some.inj H
            refine c_ret ?_; show bodyPostM (Fr none) 0 Tryd.prog Tryd.f77 _ .ret _ _
            refine ret_of (res1 rfl (rvT (rfl : _ = B true))) ?_
            exact ⟨_, rfl, rfl, S22.keep⟩
          · replace H := condF c24 H
            refine eB c24 ?_
            refine gT rfl rfl (p_fld fl33_6 rfl ?_)
            refine gT rfl rfl (p_ld ty3 (S22.atX (i := 0) rfl) rfl rfl ?_)
            refine gT rfl rfl (p_cmp rfl rfl rfl ?_)
            refine gT rfl rfl (p_pkF rfl (rfl : _ = B (a1.Over == 0)) ?_)
            refine p_pkT rfl (rfl : _ = B (a1.Over == 0)) ?_
            refine p_aB rfl ?_
            refine wp_nil ?_
            obtain rfl := Option.some.inj H
            refine c_ret ?_; show bodyPostM (Fr none) 0 Tryd.prog Tryd.f77 _ .ret _ _
            refine ret_of (res1 rfl (rvT (rfl : _ = B (a1.Over == 0)))) ?_
            exact ⟨_, rfl, rfl, S22.keep⟩
        · replace H := condF c23 H
          refine eB c23 ?_
          refine gF rfl rfl ?_
          refine gF rfl rfl ?_
          refine gF rfl rfl ?_
          refine gF rfl rfl ?_
          refine o_guardU rfl rfl ?_
          refine o_guardU rfl rfl ?_
          refine o_guardU rfl rfl ?_
          refine gF rfl rfl ?_
          refine p_pkF rfl (rfl : _ = B false) ?_
          refine p_aB rfl ?_
          refine wp_nil ?_
          obtain rfl := Option.some.inj H
          refine c_ret ?_; show bodyPostM (Fr none) 0 Tryd.prog Tryd.f77 _ .ret _ _
          refine ret_of (res1 rfl (rvT (rfl : _ = B false))) ?_
          exact ⟨_, rfl, rfl, S22.keep⟩
      · replace H := condF c18 H
        refine eB c18 ?_
        refine gF rfl rfl ?_
        refine gF rfl rfl ?_
        refine gF rfl rfl ?_
        refine p_pkF rfl (rfl : _ = B false) ?_
        refine p_mB rfl ?_
        refine gF rfl rfl ?_
        refine gF rfl rfl ?_
        refine gF rfl rfl ?_
        refine gF rfl rfl ?_
        refine o_guardU rfl rfl ?_
        refine o_guardU rfl rfl ?_
        refine o_guardU rfl rfl ?_
        refine gF rfl rfl ?_
        refine p_pkF rfl (rfl : _ = B false) ?_
        refine p_aB rfl ?_
        refine wp_nil ?_
        obtain rfl := Option.some.inj H
        refine c_ret ?_; show bodyPostM (Fr none) 0 Tryd.prog Tryd.f77 _ .ret _ _
        refine ret_of (res1 rfl (rvT (rfl : _ = B false))) ?_
        exact ⟨_, rfl, rfl, S17.keep⟩
    · replace H := condF c13 H
      refine eB c13 ?_
      refine gF rfl rfl ?_
      refine gF rfl rfl ?_
      refine gF rfl rfl ?_
      refine p_pkF rfl (rfl : _ = B false) ?_
      refine p_mB rfl ?_
      refine gF rfl rfl ?_
      refine gF rfl rfl ?_
      refine gF rfl rfl ?_
      refine p_pkF rfl (rfl : _ = B false) ?_
      refine p_mB rfl ?_
      refine gF rfl rfl ?_
      refine gF rfl rfl ?_
      refine gF rfl rfl ?_
      refine gF rfl rfl ?_
      refine o_guardU rfl rfl ?_
      refine o_guardU rfl rfl ?_
      refine o_guardU rfl rfl ?_
      refine gF rfl rfl ?_
      refine p_pkF rfl (rfl : _ = B false) ?_
      refine p_aB rfl ?_
      refine wp_nil ?_
      obtain rfl := Option.some.inj H
      refine c_ret ?_; show bodyPostM (Fr none) 0 Tryd.prog Tryd.f77 _ .ret _ _
      refine ret_of (res1 rfl (rvT (rfl : _ = B false))) ?_
      exact ⟨_, rfl, rfl, S12.keep⟩

def tally_Check_l2 (a0 : TallyBook) (rec_z_2 : (Bool × Int) → Option Int) (z_2 : Bool × Int) : Option Int :=
  bif decide (z_2.2 < (a0.Counts.length : Int)) then ((getI a0.Counts z_2.2).bind fun r15 =>
  bif z_2.1 then ((tally_isCount a0 r15).bind fun r23 =>
  rec_z_2 (r23, wr (z_2.2 + 1)))
  else (rec_z_2 (false, wr (z_2.2 + 1))))
  else (bif !z_2.1 then (some 50)
  else (some 0))

def tally_Check_j3 (a0 : TallyBook) (z_1 : Bool) : Option Int :=
  loopF (tally_Check_l2 a0) big (z_1, 0)

def tally_Check (a0 : TallyBook) : Option Int :=
  (tally_within a0.Trips 1 8).bind fun r7 =>
  bif r7 then ((tally_within a0.Room 0 60).bind fun r12 =>
  bif r12 then (tally_Check_j3 a0 (decide ((a0.Counts.length : Int) ≤ 8)))
  else (tally_Check_j3 a0 false))
  else (tally_Check_j3 a0 false)

set_option maxRecDepth 100000 in
theorem tally_Check_ok {a0 : TallyBook} {A1 : Option Addr} {c2 : Nat} {w : World} {r : Int} (H : tally_Check a0 = some r) (h3 : (rd eTallyCount 7 A1 c2 a0.Counts).ok w) : Calls Tryd.prog 53 #[AG [I a0.Trips, I a0.Room, SL A1 a0.Counts.length c2]] w (RetV w (I r)) := by
  unfold tally_Check at H
  refine fn_of (n := 36) Tryd.func53 rfl rfl (Nat.le_of_ble_eq_true rfl) ?_
  have S : St w (fun _ => False) w [] [rd eTallyCount 7 A1 c2 a0.Counts] := St.start w _ _ (List.forall_mem_cons.2 ⟨h3, (fun _ h_ => (List.not_mem_nil h_).elim)⟩)
  refine c_seq ?_
  refine reg ?_
  refine p_boxA rfl S fun b4 w5 S6 => ?_
  refine p_aI rfl ?_
  refine wp_nil ?_
  refine c_join (α := Bool) (β := Unit) (fun z_1 y_1 => [(1, P b4 0), (3, B z_1)]) (fun z_1 y_1 w_ => tally_Check_j3 a0 z_1 = some r ∧ St w (fun _ => False) w_ [bl b4 [I a0.Trips, I a0.Room, SL A1 a0.Counts.length c2] 24] [rd eTallyCount 7 A1 c2 a0.Counts]) ?_ ?_
  · refine reg ?_
    refine p_fld fl24_0 rfl ?_
    refine p_ld ty3 (S6.atX (i := 0) rfl) rfl rfl ?_
    obtain ⟨r7, h8, H⟩ := bindS H
    refine p_cv (tally_within_ok h8) fu69 rfl S6 fun w9 S10 => ?_
    refine p_mB rfl ?_
    rcases Bool.eq_false_or_eq_true (r7) with c11 | c11
    · replace H := condT c11 H
      refine eB c11 ?_
      refine gT rfl rfl (p_fld fl24_1 rfl ?_)
      refine gT rfl rfl (p_ld ty3 (S10.atX (i := 0) rfl) rfl rfl ?_)
      obtain ⟨r12, h13, H⟩ := bindS H
      refine gT rfl rfl (p_cv (tally_within_ok h13) fu69 rfl S10 fun w14 S15 => ?_)
      refine p_pkT rfl (rfl : _ = B r12) ?_
      refine p_mB rfl ?_
      rcases Bool.eq_false_or_eq_true (r12) with c16 | c16
      · replace H := condT c16 H
        refine eB c16 ?_
        refine gT rfl rfl (p_fld fl24_2 rfl ?_)
        refine gT rfl rfl (p_ld ty22 (S15.atX (i := 0) rfl) rfl rfl ?_)
        refine gT rfl rfl (p_len rfl sc22 ?_)
        refine gT rfl rfl (p_cmp rfl rfl rfl ?_)
        refine p_pkT rfl (rfl : _ = B (decide ((a0.Counts.length : Int) ≤ 8))) ?_
        refine p_aB rfl ?_
        refine wp_nil ?_
        exact ⟨decide ((a0.Counts.length : Int) ≤ 8), (), _, rfl, ⟨rfl, rfl, trivial⟩, H, S15⟩
      · replace H := condF c16 H
        refine eB c16 ?_
        refine gF rfl rfl ?_
        refine gF rfl rfl ?_
        refine gF rfl rfl ?_
        refine gF rfl rfl ?_
        refine p_pkF rfl (rfl : _ = B false) ?_
        refine p_aB rfl ?_
        refine wp_nil ?_
        exact ⟨false, (), _, rfl, ⟨rfl, rfl, trivial⟩, H, S15⟩
    · replace H := condF c11 H
      refine eB c11 ?_
      refine gF rfl rfl ?_
      refine gF rfl rfl ?_
      refine gF rfl rfl ?_
      refine p_pkF rfl (rfl : _ = B false) ?_
      refine p_mB rfl ?_
      refine gF rfl rfl ?_
      refine gF rfl rfl ?_
      refine gF rfl rfl ?_
      refine gF rfl rfl ?_
      refine p_pkF rfl (rfl : _ = B false) ?_
      refine p_aB rfl ?_
      refine wp_nil ?_
      exact ⟨false, (), _, rfl, ⟨rfl, rfl, trivial⟩, H, S10⟩
  · intro z_1 y_1 e7 w8 S9; obtain ⟨H, S9⟩ := S9
    unfold tally_Check_j3 at H
    refine c_seq ?_
    refine c_seq ?_
    refine reg ?_
    refine p_fld fl24_2 rfl ?_
    refine p_ld ty22 (S9.atX (i := 0) rfl) rfl rfl ?_
    refine p_len rfl sc22 ?_
    refine p_mI rfl ?_
    refine wp_nil ?_
    refine c_block ?_
    refine c_lop (α := Bool × Int) (β := Unit) (tally_Check_l2 a0) (fun z_2 y_2 => [(1, P b4 0), (3, B z_2.1), (21, SL A1 a0.Counts.length c2), (22, I (a0.Counts.length : Int)), (23, I z_2.2)]) (fun z_2 y_2 w_ => St w (fun _ => False) w_ [bl b4 [I a0.Trips, I a0.Room, SL A1 a0.Counts.length c2] 24] [rd eTallyCount 7 A1 c2 a0.Counts]) (z_1, 0) () H ⟨rfl, rfl, rfl, rfl, rfl, trivial⟩ S9 ?_
    intro m10 z_2 y_2 e11 w12 H S13
    unfold tally_Check_l2 at H
    refine c_seq ?_
    refine reg ?_
    refine p_cmp rfl rfl rfl ?_
    refine wp_nil ?_
    refine c_seq ?_
    refine c_cond rfl (fun c14 => ?_) (fun c14 => ?_)
    · replace H := condT c14 H
      refine c_skip ?_
      refine c_seq ?_
      refine c_block ?_
      refine c_seq ?_
      refine reg ?_
      obtain ⟨r15, h16, H⟩ := bindS H
      refine p_ixE sc22 h16 (S13.atP (i := 0) rfl).1 rfl rfl rfl ?_
      refine p_ldEA ty33 sz33 rfl h16 (S13.atP (i := 0) rfl).1 rfl ?_
      refine p_allA in33 S13 fun b17 w18 S19 => ?_
      refine p_stP (pre := []) (old := [I 0, I 0, I 0, I 0, I 0, I 0, I 0]) (post := []) (vs := [I r15.Who, I r15.From, I r15.To, I r15.Told, I r15.Unit, I r15.Under, I r15.Over]) sz33 S19 (i := 0) rfl rfl rfl rfl (rfl : _ = AG [I r15.Who, I r15.From, I r15.To, I r15.Told, I r15.Unit, I r15.Under, I r15.Over]) rfl rfl rfl rfl fun w20 S21 => ?_
      refine wp_nil ?_
      refine reg ?_
      refine p_mB rfl ?_
      refine p_mB rfl ?_
      rcases Bool.eq_false_or_eq_true (z_2.1) with c22 | c22
      · replace H := condT c22 H
        refine eB c22 ?_
        refine gT rfl rfl (p_ldA ty24 sz24 (S21.atX (i := 1) rfl) rfl rfl ?_)
        refine gT rfl rfl (p_ldA ty33 sz33 (S21.atX (i := 0) rfl) rfl rfl ?_)
        obtain ⟨r23, h24, H⟩ := bindS H
        refine gT rfl rfl (p_cv (tally_isCount_ok h24 (S21.atP (i := 0) rfl)) fu77 rfl S21 fun w25 S26 => ?_)
        refine p_pkT rfl (rfl : _ = B r23) ?_
        refine p_aB rfl ?_
        refine wp_nil ?_
        refine reg ?_
        refine p_add rfl rfl ?_
        refine p_mI rfl ?_
        refine wp_nil ?_
        have S27 := S26.pk [1] (by decide) [0] rfl rfl
        exact ⟨(r23, wr (z_2.2 + 1)), (), _, rfl, ⟨rfl, rfl, rfl, rfl, rfl, trivial⟩, H, S27⟩
      · replace H := condF c22 H
        refine eB c22 ?_
        refine gF rfl rfl ?_
        refine gF rfl rfl ?_
        refine gF rfl rfl ?_
        refine p_pkF rfl (rfl : _ = B false) ?_
        refine p_aB rfl ?_
        refine wp_nil ?_
        refine reg ?_
        refine p_add rfl rfl ?_
        refine p_mI rfl ?_
        refine wp_nil ?_
        have S28 := S21.pk [1] (by decide) [0] rfl rfl
        exact ⟨(false, wr (z_2.2 + 1)), (), _, rfl, ⟨rfl, rfl, rfl, rfl, rfl, trivial⟩, H, S28⟩
    · replace H := condF c14 H
      refine c_exit ?_
      refine c_seq ?_
      refine c_seq ?_
      refine reg ?_
      refine p_mB rfl ?_
      refine p_not rfl ?_
      refine wp_nil ?_
      refine c_cond rfl (fun c29 => ?_) (fun c29 => ?_)
      · replace H := condT c29 H
        refine c_seq ?_
        refine reg ?_
        refine p_aI rfl ?_
        refine wp_nil ?_
        obtain rfl := Option.some.inj H
        refine c_ret ?_; show bodyPostM (Fr none) 0 Tryd.prog Tryd.f53 _ .ret _ _
        refine ret_of (res1 rfl (rvT (rfl : _ = I 50))) ?_
        exact ⟨_, rfl, rfl, S13.keep⟩
      · replace H := condF c29 H
        refine c_skip ?_
        refine c_seq ?_
        refine reg ?_
        refine p_aI rfl ?_
        refine wp_nil ?_
        obtain rfl := Option.some.inj H
        refine c_ret ?_; show bodyPostM (Fr none) 0 Tryd.prog Tryd.f53 _ .ret _ _
        refine ret_of (res1 rfl (rvT (rfl : _ = I 0))) ?_
        exact ⟨_, rfl, rfl, S13.keep⟩

def tally_least_int_l1 (a1 : List Int) (rec_z_1 : (Int × Int) → Option Int) (z_1 : Int × Int) : Option Int :=
  bif decide (z_1.2 < (a1.length : Int)) then ((getI a1 z_1.2).bind fun r9 =>
  rec_z_1 ((if r9 < z_1.1 then r9 else z_1.1), wr (z_1.2 + 1)))
  else (some z_1.1)

def tally_least_int (a0 : Int) (a1 : List Int) : Option Int :=
  loopF (tally_least_int_l1 a1) big (a0, 0)

set_option maxRecDepth 100000 in
theorem tally_least_int_ok {a0 : Int} {a1 : List Int} {A1 : Option Addr} {c2 : Nat} {w : World} {r : Int} (H : tally_least_int a0 a1 = some r) (h3 : (rd intE 1 A1 c2 a1).ok w) : Calls Tryd.prog 98 #[I a0, SL A1 a1.length c2] w (RetV w (I r)) := by
  unfold tally_least_int at H
  refine fn_of (n := 18) Tryd.func98 rfl rfl (Nat.le_of_ble_eq_true rfl) ?_
  have S : St w (fun _ => False) w [] [rd intE 1 A1 c2 a1] := St.start w _ _ (List.forall_mem_cons.2 ⟨h3, (fun _ h_ => (List.not_mem_nil h_).elim)⟩)
  refine c_seq ?_
  refine reg ?_
  refine p_aI rfl ?_
  refine wp_nil ?_
  refine c_seq ?_
  refine c_seq ?_
  refine reg ?_
  refine p_mS rfl ?_
  refine p_len rfl sc31 ?_
  refine p_mI rfl ?_
  refine wp_nil ?_
  refine c_block ?_
  refine c_lop (α := Int × Int) (β := Unit) (tally_least_int_l1 a1) (fun z_1 y_1 => [(0, I z_1.1), (7, SL A1 a1.length c2), (8, I (a1.length : Int)), (9, I z_1.2)]) (fun z_1 y_1 w_ => St w (fun _ => False) w_ [] [rd intE 1 A1 c2 a1]) (a0, 0) () H ⟨rfl, rfl, rfl, rfl, trivial⟩ S ?_
  intro m4 z_1 y_1 e5 w6 H S7
  unfold tally_least_int_l1 at H
  refine c_seq ?_
  refine reg ?_
  refine p_cmp rfl rfl rfl ?_
  refine wp_nil ?_
  refine c_seq ?_
  refine c_cond rfl (fun c8 => ?_) (fun c8 => ?_)
  · replace H := condT c8 H
    refine c_skip ?_
    refine c_seq ?_
    refine c_block ?_
    refine c_seq ?_
    refine reg ?_
    obtain ⟨r9, h10, H⟩ := bindS H
    refine p_ixE sc31 h10 (S7.atP (i := 0) rfl).1 rfl rfl rfl ?_
    refine p_ldE ty3 h10 (S7.atP (i := 0) rfl).1 rfl rfl ?_
    refine p_aI rfl ?_
    refine wp_nil ?_
    refine reg ?_
    refine p_mI rfl ?_
    refine p_mI rfl ?_
    refine p_min rfl rfl ?_
    refine p_aI rfl ?_
    refine wp_nil ?_
    refine reg ?_
    refine p_add rfl rfl ?_
    refine p_mI rfl ?_
    refine wp_nil ?_
    exact ⟨((if r9 < z_1.1 then r9 else z_1.1), wr (z_1.2 + 1)), (), _, rfl, ⟨rfl, rfl, rfl, rfl, trivial⟩, H, S7⟩
  · replace H := condF c8 H
    refine c_exit ?_
    refine c_seq ?_
    refine reg ?_
    refine p_mI rfl ?_
    refine p_aI rfl ?_
    refine wp_nil ?_
    obtain rfl := Option.some.inj H
    refine c_ret ?_; show bodyPostM (Fr none) 0 Tryd.prog Tryd.f98 _ .ret _ _
    refine ret_of (res1 rfl (rvT (rfl : _ = I z_1.1))) ?_
    exact ⟨_, rfl, rfl, S7.keep⟩

def tally_book_note_j6 (a0 : Tally_book) (a1 : Tally_pair) (z_2 : Int) : Option (List (Tally_pair × Int)) :=
  some (putL a0.more_ a1 z_2)

def tally_book_note_j7 (a2 : Int) (a0 : Tally_book) (a1 : Tally_pair) (z_1 : Int × Bool) : Option (List (Tally_pair × Int)) :=
  bif z_1.2 then ((tally_least_int a2 ([z_1.1] : List Int)).bind fun r20 =>
  tally_book_note_j6 a0 a1 r20)
  else (tally_book_note_j6 a0 a1 a2)

def tally_book_note (a0 : Tally_book) (a1 : Tally_pair) (a2 : Int) : Option (List (Tally_pair × Int)) :=
  optC (lookL a0.more_ a1) (fun v11 => tally_book_note_j7 a2 a0 a1 (v11, true)) (tally_book_note_j7 a2 a0 a1 (0, false))

set_option maxRecDepth 100000 in
theorem tally_book_note_ok {a0 : Tally_book} {a1 : Tally_pair} {a2 : Int} {A1 : Option Addr} {c2 : Nat} {m3 : Nat} {w : World} {r : (List (Tally_pair × Int))} (H : tally_book_note a0 a1 a2 = some r) (h4 : (mp ekT iE m3 a0.more_).ok w) : Calls Tryd.prog 90 #[AG [I a0.TallyBook.Trips, I a0.TallyBook.Room, SL A1 a0.TallyBook.Counts.length c2, Value.map (some m3)], AG [I a1.from_, I a1.to_], I a2] w fun en w_ => ∃ u_, en = .returned u_ ∧ u_ = TU [] ∧ Keep (mp ekT iE m3 a0.more_).fp w w_ ∧ (mp ekT iE m3 r).ok w_ ∧ True := by
  unfold tally_book_note at H
  refine fn_of (n := 24) Tryd.func90 rfl rfl (Nat.le_of_ble_eq_true rfl) ?_
  have S : St w (mp ekT iE m3 a0.more_).fp w [mp ekT iE m3 a0.more_] [] := St.startX _ h4 (fun _ h_ => (List.not_mem_nil h_).elim) (fun _ h_ => (List.not_mem_nil h_).elim)
  refine c_seq ?_
  refine reg ?_
  refine p_boxA rfl S fun b5 w6 S7 => ?_
  refine p_boxA rfl S7 fun b8 w9 S10 => ?_
  refine wp_nil ?_
  refine c_join (α := Int) (β := Unit) (fun z_2 y_2 => [(2, I z_2), (3, P b5 0), (4, P b8 0)]) (fun z_2 y_2 w_ => tally_book_note_j6 a0 a1 z_2 = some r ∧ St w (mp ekT iE m3 a0.more_).fp w_ [bl b8 [I a1.from_, I a1.to_] 115, bl b5 [I a0.TallyBook.Trips, I a0.TallyBook.Room, SL A1 a0.TallyBook.Counts.length c2, Value.map (some m3)] 86, mp ekT iE m3 a0.more_] []) ?_ ?_
  · refine c_join (α := Int × Bool) (β := Unit) (fun z_1 y_1 => [(2, I a2), (3, P b5 0), (4, P b8 0), (6, I z_1.1), (7, B z_1.2)]) (fun z_1 y_1 w_ => tally_book_note_j7 a2 a0 a1 z_1 = some r ∧ St w (mp ekT iE m3 a0.more_).fp w_ [bl b8 [I a1.from_, I a1.to_] 115, bl b5 [I a0.TallyBook.Trips, I a0.TallyBook.Room, SL A1 a0.TallyBook.Counts.length c2, Value.map (some m3)] 86, mp ekT iE m3 a0.more_] []) ?_ ?_
    · refine reg ?_
      refine p_fld fl86_1 rfl ?_
      refine p_ld ty84 (S10.atX (i := 1) rfl) rfl rfl ?_
      refine p_ldA ty115 sz115 (S10.atX (i := 0) rfl) rfl rfl ?_
      refine p_lookO (a := a1) mt84 keyT in3 (mpo_some (S10.atX (i := 2) rfl)) rfl rfl (fun v11 c12 => ?_) (fun c12 => ?_)
      · replace H := optS c12 H
        refine p_mT rfl ?_
        refine p_ext rfl rfl ?_
        refine p_ext rfl rfl ?_
        refine p_aI rfl ?_
        refine p_aB rfl ?_
        refine wp_nil ?_
        exact ⟨(v11, true), (), _, rfl, ⟨rfl, rfl, rfl, rfl, rfl, trivial⟩, H, S10⟩
      · replace H := optN c12 H
        refine p_mT rfl ?_
        refine p_ext rfl rfl ?_
        refine p_ext rfl rfl ?_
        refine p_aI rfl ?_
        refine p_aB rfl ?_
        refine wp_nil ?_
        exact ⟨(0, false), (), _, rfl, ⟨rfl, rfl, rfl, rfl, rfl, trivial⟩, H, S10⟩
    · intro z_1 y_1 e11 w12 S13; obtain ⟨H, S13⟩ := S13
      unfold tally_book_note_j7 at H
      refine c_seq ?_
      refine reg ?_
      refine p_mB rfl ?_
      refine wp_nil ?_
      refine c_cond rfl (fun c14 => ?_) (fun c14 => ?_)
      · replace H := condT c14 H
        refine reg ?_
        refine p_mI rfl ?_
        refine p_mI rfl ?_
        refine p_bsl (enc := intE) (l := ([z_1.1] : List Int)) I (fun _ => rfl) sc31 in3 intE_len rfl (by decide) (by decide) zr3_1 S13 rfl fun A15 c16 w17 S18 => ?_
        obtain ⟨r20, h21, H⟩ := bindS H
        refine p_cv (tally_least_int_ok h21 (gr_rd intE_len (S18.atX (i := 0) rfl))) fu98 rfl S18 fun w22 S23 => ?_
        refine p_aI rfl ?_
        refine wp_nil ?_
        have S24 := S23.pk [1, 2, 3] (by decide) [] rfl rfl
        exact ⟨r20, (), _, rfl, ⟨rfl, rfl, rfl, trivial⟩, H, S24⟩
      · replace H := condF c14 H
        refine c_skip ?_
        exact ⟨a2, (), _, rfl, ⟨rfl, rfl, rfl, trivial⟩, H, S13⟩
  · intro z_2 y_2 e11 w12 S13; obtain ⟨H, S13⟩ := S13
    unfold tally_book_note_j6 at H
    refine reg ?_
    refine p_fld fl86_1 rfl ?_
    refine p_ld ty84 (S13.atX (i := 1) rfl) rfl rfl ?_
    refine p_ldA ty115 sz115 (S13.atX (i := 0) rfl) rfl rfl ?_
    refine p_mI rfl ?_
    refine o_mup (a := a1) (v := z_2) rfl rfl rfl mt84 keyT S13 (i := 2) rfl fun w14 S15 => ?_
    refine wp_nil ?_
    obtain rfl := Option.some.inj H
    show bodyPostM (Fr none) 0 Tryd.prog Tryd.f90 _ .normal _ _
    refine end_of (res0 rfl) ?_
    exact ⟨_, rfl, rfl, S15.keep, (S15.atX (i := 2) rfl), trivial⟩

structure Tally_leave where
  out_ : TallyCount → Int → Option Bool

def tally_opened_l4 (a0 : TallyBook) (a1 : Tally_leave) (rec_z_2 : (Int × (List (Tally_pair × Int))) → Option Tally_book) (z_2 : Int × (List (Tally_pair × Int))) : Option Tally_book :=
  bif decide (z_2.1 < (a0.Counts.length : Int)) then ((getI a0.Counts z_2.1).bind fun r52 =>
  (a1.out_ r52 z_2.1).bind fun r59 =>
  bif r59 then (rec_z_2 (wr (z_2.1 + 1), z_2.2))
  else ((tally_count_most r52).bind fun r70 =>
  (tally_book_note (Tally_book.mk a0 z_2.2) (Tally_pair.mk r52.From (wr (r52.To + 1))) r70).bind fun r75 =>
  (tally_count_least r52).bind fun r81 =>
  (tally_book_note (Tally_book.mk a0 r75) (Tally_pair.mk (wr (r52.To + 1)) r52.From) (wr (-r81))).bind fun r86 =>
  rec_z_2 (wr (z_2.1 + 1), r86)))
  else (some (Tally_book.mk a0 z_2.2))

def tally_opened_l5 (a0 : TallyBook) (a1 : Tally_leave) (rec_z_1 : (Int × (List (Tally_pair × Int))) → Option Tally_book) (z_1 : Int × (List (Tally_pair × Int))) : Option Tally_book :=
  bif decide (z_1.1 < a0.Trips) then ((tally_book_note (Tally_book.mk a0 z_1.2) (Tally_pair.mk z_1.1 (wr (z_1.1 + 1))) a0.Room).bind fun r35 =>
  (tally_book_note (Tally_book.mk a0 r35) (Tally_pair.mk (wr (z_1.1 + 1)) z_1.1) 0).bind fun r41 =>
  rec_z_1 (wr (z_1.1 + 1), r41))
  else (loopF (tally_opened_l4 a0 a1) big (0, z_1.2))

def tally_opened (a0 : TallyBook) (a1 : Tally_leave) : Option Tally_book :=
  loopF (tally_opened_l5 a0 a1) big (0, ([] : List (Tally_pair × Int)))

set_option maxRecDepth 100000 in
theorem tally_opened_ok {a0 : TallyBook} {a1 : Tally_leave} {A1 : Option Addr} {c2 : Nat} {f4 : Nat} {cp5 : List Value} {w : World} {r : Tally_book} (H : tally_opened a0 a1 = some r) (h3 : (rd eTallyCount 7 A1 c2 a0.Counts).ok w) (hF6 : funOf Tryd.prog f4 = true) (hw7 : ∀ (y8 : TallyCount) (y9 : Int) (w11 : World) (y10 : Bool), Keep0 w w11 → a1.out_ y8 y9 = some y10 → Calls Tryd.prog f4 (List.toArray ([AG [I y8.Who, I y8.From, I y8.To, I y8.Told, I y8.Unit, I y8.Under, I y8.Over], I y9] ++ cp5)) w11 (RetV w11 (B y10))) (hg12 : (bl 0 [Value.func (.func 117) #[] #[], Value.func (.func 119) #[] #[]] 117).ok w) : Calls Tryd.prog 66 #[AG [I a0.Trips, I a0.Room, SL A1 a0.Counts.length c2], AG [Value.func (.func f4) #[] cp5.toArray]] w fun en w_ => ∃ u_, en = .returned u_ ∧ ∃ m_1 : Nat, u_ = AG [I r.TallyBook.Trips, I r.TallyBook.Room, SL A1 a0.Counts.length c2, Value.map (some m_1)] ∧ Keep0 w w_ ∧ ((mp ekT iE m_1 r.more_).ok w_ ∧ New w.heap.size (mp ekT iE m_1 r.more_)) ∧ True := by
  unfold tally_opened at H
  refine fn_of (n := 74) Tryd.func66 rfl rfl (Nat.le_of_ble_eq_true rfl) ?_
  have S : St w (fun _ => False) w [] [rd eTallyCount 7 A1 c2 a0.Counts, bl 0 [Value.func (.func 117) #[] #[], Value.func (.func 119) #[] #[]] 117] := St.start w _ _ (List.forall_mem_cons.2 ⟨h3, (List.forall_mem_cons.2 ⟨hg12, (fun _ h_ => (List.not_mem_nil h_).elim)⟩)⟩)
  refine c_seq ?_
  refine reg ?_
  refine p_boxA rfl S fun b13 w14 S15 => ?_
  refine p_boxA rfl S15 fun b16 w17 S18 => ?_
  refine p_allA in86 S18 fun b19 w20 S21 => ?_
  refine wp_nil ?_
  refine c_seq ?_
  refine reg ?_
  refine p_ldA ty24 sz24 (S21.atX (i := 2) rfl) rfl rfl ?_
  refine o_mkmap S21 ekT iE fun m22 w23 _ S24 => ?_
  refine p_bld (cs := [I a0.Trips, I a0.Room, SL A1 a0.Counts.length c2, Value.map (some m22)]) st86 (rfl : _ = [(0, AG [I a0.Trips, I a0.Room, SL A1 a0.Counts.length c2]), (1, Value.map (some m22))]) (by kernel_rfl) ?_
  refine p_allA in86 S24 fun b25 w26 S27 => ?_
  refine p_stP (pre := []) (old := [I 0, I 0, SL none 0 0, Value.map none]) (post := []) (vs := [I a0.Trips, I a0.Room, SL A1 a0.Counts.length c2, Value.map (some m22)]) sz86 S27 (i := 0) rfl rfl rfl rfl (rfl : _ = AG [I a0.Trips, I a0.Room, SL A1 a0.Counts.length c2, Value.map (some m22)]) rfl rfl rfl rfl fun w28 S29 => ?_
  refine wp_nil ?_
  refine c_seq ?_
  refine c_seq ?_
  refine reg ?_
  refine p_fld fl24_0 rfl ?_
  refine p_ld ty3 (S29.atX (i := 4) rfl) rfl rfl ?_
  refine p_mI rfl ?_
  refine wp_nil ?_
  refine c_block ?_
  refine c_lop (α := Int × (List (Tally_pair × Int))) (β := Unit) (tally_opened_l5 a0 a1) (fun z_1 y_1 => [(2, P b13 0), (3, P b16 0), (4, P b19 0), (5, P b25 0), (14, I a0.Trips), (15, I z_1.1)]) (fun z_1 y_1 w_ => St w (fun _ => False) w_ [bl b25 [I a0.Trips, I a0.Room, SL A1 a0.Counts.length c2, Value.map (some m22)] 86, mp ekT iE m22 z_1.2, bl b19 [I 0, I 0, SL none 0 0, Value.map none] 86, bl b16 [Value.func (.func f4) #[] cp5.toArray] 90, bl b13 [I a0.Trips, I a0.Room, SL A1 a0.Counts.length c2] 24] [rd eTallyCount 7 A1 c2 a0.Counts, bl 0 [Value.func (.func 117) #[] #[], Value.func (.func 119) #[] #[]] 117]) (0, ([] : List (Tally_pair × Int))) () H ⟨rfl, rfl, rfl, rfl, rfl, rfl, trivial⟩ S29 ?_
  intro m30 z_1 y_1 e31 w32 H S33
  unfold tally_opened_l5 at H
  refine c_seq ?_
  refine reg ?_
  refine p_cmp rfl rfl rfl ?_
  refine wp_nil ?_
  refine c_seq ?_
  refine c_cond rfl (fun c34 => ?_) (fun c34 => ?_)
  · replace H := condT c34 H
    refine c_skip ?_
    refine c_seq ?_
    refine c_block ?_
    refine c_seq ?_
    refine reg ?_
    refine p_mI rfl ?_
    refine p_aI rfl ?_
    refine wp_nil ?_
    refine c_seq ?_
    refine reg ?_
    refine p_ldA ty86 sz86 (S33.atX (i := 0) rfl) rfl rfl ?_
    refine p_mI rfl ?_
    refine p_mI rfl ?_
    refine p_add rfl rfl ?_
    refine p_bld (cs := [I z_1.1, I (wr (z_1.1 + 1))]) st115 (rfl : _ = [(0, I z_1.1), (1, I (wr (z_1.1 + 1)))]) (by kernel_rfl) ?_
    refine p_fld fl24_1 rfl ?_
    refine p_ld ty3 (S33.atX (i := 4) rfl) rfl rfl ?_
    obtain ⟨r35, h36, H⟩ := bindS H
    refine p_cal (tally_book_note_ok h36 (S33.atX (i := 1) rfl)) fu90 rfl ?_
    rintro _ w37 ⟨rfl, k38, o39, _⟩
    have S40 := S33.turn (i := 1) rfl o39 (fun _ h_ => .inl h_) k38.os k38.tape k38.output k38.size k38.block
    refine wp_nil ?_
    refine reg ?_
    refine p_ldA ty86 sz86 (S40.atX (i := 0) rfl) rfl rfl ?_
    refine p_mI rfl ?_
    refine p_add rfl rfl ?_
    refine p_mI rfl ?_
    refine p_bld (cs := [I (wr (z_1.1 + 1)), I z_1.1]) st115 (rfl : _ = [(0, I (wr (z_1.1 + 1))), (1, I z_1.1)]) (by kernel_rfl) ?_
    obtain ⟨r41, h42, H⟩ := bindS H
    refine p_cal (tally_book_note_ok h42 (S40.atX (i := 1) rfl)) fu90 rfl ?_
    rintro _ w43 ⟨rfl, k44, o45, _⟩
    have S46 := S40.turn (i := 1) rfl o45 (fun _ h_ => .inl h_) k44.os k44.tape k44.output k44.size k44.block
    refine wp_nil ?_
    refine reg ?_
    refine p_add rfl rfl ?_
    refine p_mI rfl ?_
    refine wp_nil ?_
    exact ⟨(wr (z_1.1 + 1), r41), (), _, rfl, ⟨rfl, rfl, rfl, rfl, rfl, rfl, trivial⟩, H, S46⟩
  · replace H := condF c34 H
    refine c_exit ?_
    refine c_seq ?_
    refine c_seq ?_
    refine reg ?_
    refine p_fld fl24_2 rfl ?_
    refine p_ld ty22 (S33.atX (i := 4) rfl) rfl rfl ?_
    refine p_len rfl sc22 ?_
    refine p_mI rfl ?_
    refine wp_nil ?_
    refine c_block ?_
    refine c_lop (α := Int × (List (Tally_pair × Int))) (β := Unit) (tally_opened_l4 a0 a1) (fun z_2 y_2 => [(3, P b16 0), (4, P b19 0), (5, P b25 0), (34, SL A1 a0.Counts.length c2), (35, I (a0.Counts.length : Int)), (36, I z_2.1)]) (fun z_2 y_2 w_ => St w (fun _ => False) w_ [bl b25 [I a0.Trips, I a0.Room, SL A1 a0.Counts.length c2, Value.map (some m22)] 86, mp ekT iE m22 z_2.2, bl b19 [I 0, I 0, SL none 0 0, Value.map none] 86, bl b16 [Value.func (.func f4) #[] cp5.toArray] 90, bl b13 [I a0.Trips, I a0.Room, SL A1 a0.Counts.length c2] 24] [rd eTallyCount 7 A1 c2 a0.Counts, bl 0 [Value.func (.func 117) #[] #[], Value.func (.func 119) #[] #[]] 117]) (0, z_1.2) () H ⟨rfl, rfl, rfl, rfl, rfl, rfl, trivial⟩ S33 ?_
    intro m47 z_2 y_2 e48 w49 H S50
    unfold tally_opened_l4 at H
    refine c_seq ?_
    refine reg ?_
    refine p_cmp rfl rfl rfl ?_
    refine wp_nil ?_
    refine c_seq ?_
    refine c_cond rfl (fun c51 => ?_) (fun c51 => ?_)
    · replace H := condT c51 H
      refine c_skip ?_
      refine c_seq ?_
      refine c_block ?_
      refine c_seq ?_
      refine reg ?_
      refine p_mI rfl ?_
      obtain ⟨r52, h53, H⟩ := bindS H
      refine p_ixE sc22 h53 (S50.atP (i := 0) rfl).1 rfl rfl rfl ?_
      refine p_ldEA ty33 sz33 rfl h53 (S50.atP (i := 0) rfl).1 rfl ?_
      refine p_allA in33 S50 fun b54 w55 S56 => ?_
      refine p_aI rfl ?_
      refine p_stP (pre := []) (old := [I 0, I 0, I 0, I 0, I 0, I 0, I 0]) (post := []) (vs := [I r52.Who, I r52.From, I r52.To, I r52.Told, I r52.Unit, I r52.Under, I r52.Over]) sz33 S56 (i := 0) rfl rfl rfl rfl (rfl : _ = AG [I r52.Who, I r52.From, I r52.To, I r52.Told, I r52.Unit, I r52.Under, I r52.Over]) rfl rfl rfl rfl fun w57 S58 => ?_
      refine wp_nil ?_
      refine c_seq ?_
      refine c_seq ?_
      refine reg ?_
      refine p_fld fl90_0 rfl ?_
      refine p_ld ty88 (S58.atX (i := 4) rfl) rfl rfl ?_
      refine p_ldA ty33 sz33 (S58.atX (i := 0) rfl) rfl rfl ?_
      refine p_mI rfl ?_
      obtain ⟨r59, h60, H⟩ := bindS H
      refine p_cv (hw7 _ _ _ _ S58.keep h60) hF6 rfl S58 ?_
      intro w61 S62
      refine wp_nil ?_
      refine c_cond rfl (fun c63 => ?_) (fun c63 => ?_)
      · replace H := condT c63 H
        refine c_exit ?_
        refine reg ?_
        refine p_add rfl rfl ?_
        refine p_mI rfl ?_
        refine wp_nil ?_
        have S64 := S62.pk [1, 2, 3, 4, 5] (by decide) [0, 1] rfl rfl
        exact ⟨(wr (z_2.1 + 1), z_2.2), (), _, rfl, ⟨rfl, rfl, rfl, rfl, rfl, rfl, trivial⟩, H, S64⟩
      · replace H := condF c63 H
        refine c_skip ?_
        refine c_seq ?_
        refine reg ?_
        refine p_ldA ty33 sz33 (S62.atX (i := 0) rfl) rfl rfl ?_
        refine p_allA in93 S62 fun b65 w66 S67 => ?_
        refine p_stP (pre := []) (old := [I 0, I 0, I 0, I 0, I 0, I 0, I 0]) (post := []) (vs := [I r52.Who, I r52.From, I r52.To, I r52.Told, I r52.Unit, I r52.Under, I r52.Over]) sz93 S67 (i := 0) rfl rfl rfl rfl (rfl : _ = AG [I r52.Who, I r52.From, I r52.To, I r52.Told, I r52.Unit, I r52.Under, I r52.Over]) rfl rfl rfl rfl fun w68 S69 => ?_
        refine wp_nil ?_
        refine c_seq ?_
        obtain ⟨r70, h71, H⟩ := bindS H
        refine reg_q mixed 11 (by kernel_rfl) ?_
        refine dS (fun _ k_ => p_ldA ty86 sz86 (Asr.stays (S69.atX (i := 2) rfl) k_) rfl rfl dn) ?_
        refine dS (fun _ k_ => p_fld fl93_1 rfl dn) ?_
        refine dS (fun _ k_ => p_ld ty3 (Asr.stays (S69.atX (i := 0) rfl) k_) rfl rfl dn) ?_
        refine dS (fun _ k_ => p_fld fl93_2 rfl dn) ?_
        refine dS (fun _ k_ => p_ld ty3 (Asr.stays (S69.atX (i := 0) rfl) k_) rfl rfl dn) ?_
        refine dS (fun _ k_ => p_add rfl rfl dn) ?_
        refine dS (fun _ k_ => p_bld (cs := [I r52.From, I (wr (r52.To + 1))]) st115 (rfl : _ = [(0, I r52.From), (1, I (wr (r52.To + 1)))]) (by kernel_rfl) dn) ?_
        refine dS (fun _ k_ => p_ixc ar117 rfl rfl (by decide) (by decide) dn) ?_
        refine dS (fun _ k_ => p_ld ty116 (Asr.stays (S69.atP (i := 1) rfl) k_) rfl rfl dn) ?_
        refine dS (fun _ k_ => p_ldA ty93 sz93 (Asr.stays (S69.atX (i := 0) rfl) k_) rfl rfl dn) ?_
        refine dS (fun _ k_ => p_cvD (tally_count_most_ok h71) fu119 rfl) ?_
        intro w72 k73; have S74 := S69.call k73
        obtain ⟨r75, h76, H⟩ := bindS H
        refine p_cal (tally_book_note_ok h76 (S74.atX (i := 3) rfl)) fu90 rfl ?_
        rintro _ w77 ⟨rfl, k78, o79, _⟩
        have S80 := S74.turn (i := 3) rfl o79 (fun _ h_ => .inl h_) k78.os k78.tape k78.output k78.size k78.block
        refine wp_nil ?_
        obtain ⟨r81, h82, H⟩ := bindS H
        refine reg_q mixed 12 (by kernel_rfl) ?_
        refine dS (fun _ k_ => p_ldA ty86 sz86 (Asr.stays (S80.atX (i := 2) rfl) k_) rfl rfl dn) ?_
        refine dS (fun _ k_ => p_fld fl93_2 rfl dn) ?_
        refine dS (fun _ k_ => p_ld ty3 (Asr.stays (S80.atX (i := 0) rfl) k_) rfl rfl dn) ?_
        refine dS (fun _ k_ => p_add rfl rfl dn) ?_
        refine dS (fun _ k_ => p_fld fl93_1 rfl dn) ?_
        refine dS (fun _ k_ => p_ld ty3 (Asr.stays (S80.atX (i := 0) rfl) k_) rfl rfl dn) ?_
        refine dS (fun _ k_ => p_bld (cs := [I (wr (r52.To + 1)), I r52.From]) st115 (rfl : _ = [(0, I (wr (r52.To + 1))), (1, I r52.From)]) (by kernel_rfl) dn) ?_
        refine dS (fun _ k_ => p_ixc ar117 rfl rfl (by decide) (by decide) dn) ?_
        refine dS (fun _ k_ => p_ld ty116 (Asr.stays (S80.atP (i := 1) rfl) k_) rfl rfl dn) ?_
        refine dS (fun _ k_ => p_ldA ty93 sz93 (Asr.stays (S80.atX (i := 0) rfl) k_) rfl rfl dn) ?_
        refine dS (fun _ k_ => p_cvD (tally_count_least_ok h82) fu117 rfl) ?_
        refine dS (fun _ k_ => p_neg rfl dn) ?_
        intro w83 k84; have S85 := S80.call k84
        obtain ⟨r86, h87, H⟩ := bindS H
        refine p_cal (tally_book_note_ok h87 (S85.atX (i := 3) rfl)) fu90 rfl ?_
        rintro _ w88 ⟨rfl, k89, o90, _⟩
        have S91 := S85.turn (i := 3) rfl o90 (fun _ h_ => .inl h_) k89.os k89.tape k89.output k89.size k89.block
        refine wp_nil ?_
        refine reg ?_
        refine p_add rfl rfl ?_
        refine p_mI rfl ?_
        refine wp_nil ?_
        have S92 := S91.pk [2, 3, 4, 5, 6] (by decide) [0, 1] rfl rfl
        exact ⟨(wr (z_2.1 + 1), r86), (), _, rfl, ⟨rfl, rfl, rfl, rfl, rfl, rfl, trivial⟩, H, S92⟩
    · replace H := condF c51 H
      refine c_exit ?_
      refine c_seq ?_
      refine reg ?_
      refine p_ldA ty86 sz86 (S50.atX (i := 0) rfl) rfl rfl ?_
      refine p_stP (pre := []) (old := [I 0, I 0, SL none 0 0, Value.map none]) (post := []) (vs := [I a0.Trips, I a0.Room, SL A1 a0.Counts.length c2, Value.map (some m22)]) sz86 S50 (i := 2) rfl rfl rfl rfl (rfl : _ = AG [I a0.Trips, I a0.Room, SL A1 a0.Counts.length c2, Value.map (some m22)]) rfl rfl rfl rfl fun w93 S94 => ?_
      refine wp_nil ?_
      obtain rfl := Option.some.inj H
      refine c_ret ?_; show bodyPostM (Fr none) 0 Tryd.prog Tryd.f66 _ .ret _ _
      refine ret_of (res1 rfl (rvA rfl ty86 sz86 (S94.atX (i := 2) rfl) rfl)) ?_
      exact ⟨_, rfl, m22, rfl, S94.keep, ⟨S94.atX (i := 1) rfl, S94.newX (i := 1) rfl⟩, trivial⟩

def tally_nobody_1 (a0 : TallyCount) (a1 : Int) : Option Bool :=
  some false

set_option maxRecDepth 100000 in
theorem tally_nobody_1_ok {a0 : TallyCount} {a1 : Int} {w : World} {r : Bool} (H : tally_nobody_1 a0 a1 = some r) : Calls Tryd.prog 91 #[AG [I a0.Who, I a0.From, I a0.To, I a0.Told, I a0.Unit, I a0.Under, I a0.Over], I a1] w (RetV w (B r)) := by
  unfold tally_nobody_1 at H
  refine fn_of (n := 5) Tryd.func91 rfl rfl (Nat.le_of_ble_eq_true rfl) ?_
  have S : St w (fun _ => False) w [] [] := St.start w _ _ (fun _ h_ => (List.not_mem_nil h_).elim)
  refine c_seq ?_
  refine reg ?_
  refine p_boxA rfl S fun b1 w2 S3 => ?_
  refine p_aB rfl ?_
  refine wp_nil ?_
  refine c_seq ?_
  refine reg ?_
  refine p_aB rfl ?_
  refine wp_nil ?_
  obtain rfl := Option.some.inj H
  refine c_ret ?_; show bodyPostM (Fr none) 0 Tryd.prog Tryd.f91 _ .ret _ _
  refine ret_of (res1 rfl (rvT (rfl : _ = B false))) ?_
  exact ⟨_, rfl, rfl, S3.keep⟩

def tally_nobody : Option Unit :=
  some ()

set_option maxRecDepth 100000 in
theorem tally_nobody_ok {w : World} {r : Unit} (H : tally_nobody = some r) : Calls Tryd.prog 67 #[] w (RetV w (AG [Value.func (.func 91) #[] #[]])) := by
  unfold tally_nobody at H
  refine fn_of (n := 2) Tryd.func67 rfl rfl (Nat.le_of_ble_eq_true rfl) ?_
  have S : St w (fun _ => False) w [] [] := St.start w _ _ (fun _ h_ => (List.not_mem_nil h_).elim)
  refine c_seq ?_
  refine reg ?_
  refine p_allA in90 S fun b1 w2 S3 => ?_
  refine wp_nil ?_
  refine c_seq ?_
  refine reg ?_
  refine p_bld (cs := [Value.func (.func 91) #[] #[]]) st90 (rfl : _ = [(0, Value.func (.func 91) #[] #[])]) (by kernel_rfl) ?_
  refine p_stP (pre := []) (old := [Value.nilFunc]) (post := []) (vs := [Value.func (.func 91) #[] #[]]) sz90 S3 (i := 0) rfl rfl rfl rfl (rfl : _ = AG [Value.func (.func 91) #[] #[]]) rfl rfl rfl rfl fun w4 S5 => ?_
  refine wp_nil ?_
  obtain rfl := Option.some.inj H
  refine c_ret ?_; show bodyPostM (Fr none) 0 Tryd.prog Tryd.f67 _ .ret _ _
  refine ret_of (res1 rfl (rvA rfl ty90 sz90 (S5.atX (i := 0) rfl) rfl)) ?_
  exact ⟨_, rfl, rfl, S5.keep⟩

def tally_none : Option (List Int) :=
  some (List.replicate 9 0)

set_option maxRecDepth 100000 in
theorem tally_none_ok {w : World} {r : (List Int)} (H : tally_none = some r) : Calls Tryd.prog 97 #[] w (RetV w (AG (sg r 9))) := by
  unfold tally_none at H
  refine fn_of (n := 3) Tryd.func97 rfl rfl (Nat.le_of_ble_eq_true rfl) ?_
  have S : St w (fun _ => False) w [] [] := St.start w _ _ (fun _ h_ => (List.not_mem_nil h_).elim)
  refine c_seq ?_
  refine reg ?_
  refine p_allA in119 S fun b1 w2 S3 => ?_
  refine wp_nil ?_
  refine c_seq ?_
  refine reg ?_
  refine p_allA in119 S3 fun b4 w5 S6 => ?_
  refine wp_nil ?_
  refine c_seq ?_
  refine reg ?_
  refine p_ldA ty119 sz119 (S6.atX (i := 0) rfl) rfl rfl ?_
  refine p_stP (pre := []) (old := sg (List.replicate 9 0) 9) (post := []) (vs := sg (List.replicate 9 0) 9) sz119 S6 (i := 1) rfl rfl rfl rfl (rfl : _ = AG (sg (List.replicate 9 0) 9)) rfl rfl rfl rfl fun w7 S8 => ?_
  refine wp_nil ?_
  obtain rfl := Option.some.inj H
  refine c_ret ?_; show bodyPostM (Fr none) 0 Tryd.prog Tryd.f97 _ .ret _ _
  refine ret_of (res1 rfl (rvA rfl ty119 sz119 (S8.atX (i := 1) rfl) rfl)) ?_
  exact ⟨_, rfl, rfl, S8.keep⟩

def entOf (e : Tally_pair × Int) : Go.Tally.Ent := ((e.1.from_, e.1.to_), e.2)
/-- how many more can have crossed until each place: by rounds in the order of the list -/
def tally_from (a0 : Tally_book) (a1 : Int) : Option (List Int × Bool) :=
  bif Go.Tally.vdB a0.TallyBook.Trips a1 (a0.more_.map entOf) && decide (1 ≤ a0.TallyBook.Trips) then some (Go.Tally.fromD a0.TallyBook.Trips a1 (a0.more_.map entOf)) else none
theorem mp_ent {m : Nat} {l : List (Tally_pair × Int)} {w : World} (h : (mp ekT iE m l).ok w) : (mp ekP Go.Tally.iE m (l.map entOf)).ok w := by
  obtain ⟨es, clock, h1, rfl, h2⟩ := h
  refine ⟨es.map fun x => (x.1, entOf x.2), clock, h1.trans ?_, by simp [List.map_map, Function.comp_def], ?_, ?_⟩
  · unfold mapO
    rw [List.map_map]
    rfl
  · rw [List.map_map]; exact h2.1
  · intro x hx
    obtain ⟨y, hy, rfl⟩ := List.mem_map.1 hx
    exact h2.2 y hy

theorem tally_from_ok {a0 : Tally_book} {a1 : Int} {A1 : Option Addr} {c2 : Nat} {m4 : Option Nat} {w : World} {r : (List Int) × Bool} (H : tally_from a0 a1 = some r) (h3 : (rd eTallyCount 7 A1 c2 a0.TallyBook.Counts).ok w) (h5 : (mpo ekT iE m4 a0.more_).ok w) (hg6 : (bl 1 [I (-1), I (-1)] 115).ok w) : Calls Tryd.prog 92 #[AG [I a0.TallyBook.Trips, I a0.TallyBook.Room, SL A1 a0.TallyBook.Counts.length c2, Value.map m4], I a1] w (RetV w (TU [AG (sg r.1 9), B r.2])) := by
  unfold tally_from at H
  cases hv : (Go.Tally.vdB a0.TallyBook.Trips a1 (a0.more_.map entOf) && decide (1 ≤ a0.TallyBook.Trips))
  · rw [hv] at H; cases H
  rw [hv] at H
  obtain rfl := Option.some.inj H
  rw [Bool.and_eq_true] at hv
  have V := Go.Tally.vdB_iff.1 hv.1
  have ht := of_decide_eq_true hv.2
  cases m4 with
  | none =>
    have hn : a0.more_ = [] := h5
    obtain ⟨n, _, hm⟩ := V.up 0 (by omega)
    rw [hn] at hm
    cases hm
  | some m =>
    have hm := mp_ent (show (mp ekT iE m a0.more_).ok w from h5)
    refine (Fr.from_ok a0.TallyBook.Trips a0.TallyBook.Room a1 A1 a0.TallyBook.Counts.length c2 m _ w hm V.ks V.t0 V.t8 V.s0 V.st hg6).mono fun en w_ h => ?_
    obtain ⟨v, he, out, res, hv, hk, hF⟩ := h
    obtain ⟨e1, e2⟩ := Go.Tally.from_uniq V hF (Go.Tally.fromD_R _ _ _)
    refine ⟨v, he, ?_, hk⟩
    rw [hv, ← e1, ← e2, sg_ivs, sgl_eq (Go.Tally.FromR_len hF)]

def tally_book_can (a0 : Tally_book) : Option Bool :=
  (tally_from a0 0).bind fun r10 =>
  some r10.2

set_option maxRecDepth 100000 in
theorem tally_book_can_ok {a0 : Tally_book} {A1 : Option Addr} {c2 : Nat} {m4 : Option Nat} {w : World} {r : Bool} (H : tally_book_can a0 = some r) (h3 : (rd eTallyCount 7 A1 c2 a0.TallyBook.Counts).ok w) (h5 : (mpo ekT iE m4 a0.more_).ok w) (hg6 : (bl 1 [I (-1), I (-1)] 115).ok w) : Calls Tryd.prog 68 #[AG [I a0.TallyBook.Trips, I a0.TallyBook.Room, SL A1 a0.TallyBook.Counts.length c2, Value.map m4]] w (RetV w (B r)) := by
  unfold tally_book_can at H
  refine fn_of (n := 11) Tryd.func68 rfl rfl (Nat.le_of_ble_eq_true rfl) ?_
  have S : St w (fun _ => False) w [] [rd eTallyCount 7 A1 c2 a0.TallyBook.Counts, mpo ekT iE m4 a0.more_, bl 1 [I (-1), I (-1)] 115] := St.start w _ _ (List.forall_mem_cons.2 ⟨h3, (List.forall_mem_cons.2 ⟨h5, (List.forall_mem_cons.2 ⟨hg6, (fun _ h_ => (List.not_mem_nil h_).elim)⟩)⟩)⟩)
  refine c_seq ?_
  refine reg ?_
  refine p_boxA rfl S fun b7 w8 S9 => ?_
  refine p_aB rfl ?_
  refine wp_nil ?_
  refine c_seq ?_
  refine reg ?_
  refine p_ldA ty86 sz86 (S9.atX (i := 0) rfl) rfl rfl ?_
  obtain ⟨r10, h11, H⟩ := bindS H
  refine p_cv (tally_from_ok h11 (S9.atP (i := 0) rfl) (S9.atP (i := 1) rfl) (S9.atP (i := 2) rfl)) fu92 rfl S9 fun w12 S13 => ?_
  refine p_mT rfl ?_
  refine p_ext rfl rfl ?_
  refine p_ext rfl rfl ?_
  refine p_allA in119 S13 fun b14 w15 S16 => ?_
  refine p_stP (pre := []) (old := sg (List.replicate 9 0) 9) (post := []) (vs := sg r10.1 9) sz119 S16 (i := 0) rfl rfl rfl rfl (rfl : _ = AG (sg r10.1 9)) rfl rfl rfl rfl fun w17 S18 => ?_
  refine p_aB rfl ?_
  refine wp_nil ?_
  refine c_seq ?_
  refine reg ?_
  refine p_mB rfl ?_
  refine p_aB rfl ?_
  refine wp_nil ?_
  obtain rfl := Option.some.inj H
  refine c_ret ?_; show bodyPostM (Fr none) 0 Tryd.prog Tryd.f68 _ .ret _ _
  refine ret_of (res1 rfl (rvT (rfl : _ = B r10.2))) ?_
  exact ⟨_, rfl, rfl, S18.keep⟩

def tally_Right (a0 : TallyBook) : Option (Bool × Int) :=
  (tally_Check a0).bind fun r9 =>
  bif (r9 != 0) then (some (false, r9))
  else ((tally_nobody).bind fun r14 =>
  (tally_opened a0 (Tally_leave.mk (fun y19 y20 => tally_nobody_1 y19 y20))).bind fun r21 =>
  (tally_book_can (Tally_book.mk (TallyBook.mk r21.TallyBook.Trips r21.TallyBook.Room a0.Counts) r21.more_)).bind fun r29 =>
  some (r29, 0))

set_option maxRecDepth 100000 in
theorem tally_Right_ok {a0 : TallyBook} {A1 : Option Addr} {c2 : Nat} {w : World} {r : Bool × Int} (H : tally_Right a0 = some r) (h3 : (rd eTallyCount 7 A1 c2 a0.Counts).ok w) (hg4 : (bl 0 [Value.func (.func 117) #[] #[], Value.func (.func 119) #[] #[]] 117).ok w) (hg5 : (bl 1 [I (-1), I (-1)] 115).ok w) : Calls Tryd.prog 28 #[AG [I a0.Trips, I a0.Room, SL A1 a0.Counts.length c2]] w (RetV w (TU [B r.1, I r.2])) := by
  unfold tally_Right at H
  refine fn_of (n := 14) Tryd.func28 rfl rfl (Nat.le_of_ble_eq_true rfl) ?_
  have S : St w (fun _ => False) w [] [rd eTallyCount 7 A1 c2 a0.Counts, bl 0 [Value.func (.func 117) #[] #[], Value.func (.func 119) #[] #[]] 117, bl 1 [I (-1), I (-1)] 115] := St.start w _ _ (List.forall_mem_cons.2 ⟨h3, (List.forall_mem_cons.2 ⟨hg4, (List.forall_mem_cons.2 ⟨hg5, (fun _ h_ => (List.not_mem_nil h_).elim)⟩)⟩)⟩)
  refine c_seq ?_
  refine reg ?_
  refine p_boxA rfl S fun b6 w7 S8 => ?_
  refine p_aB rfl ?_
  refine p_aI rfl ?_
  refine wp_nil ?_
  refine c_seq ?_
  refine c_seq ?_
  refine reg ?_
  refine p_ldA ty24 sz24 (S8.atX (i := 0) rfl) rfl rfl ?_
  obtain ⟨r9, h10, H⟩ := bindS H
  refine p_cv (tally_Check_ok h10 (S8.atP (i := 0) rfl)) fu53 rfl S8 fun w11 S12 => ?_
  refine p_aI rfl ?_
  refine wp_nil ?_
  refine c_seq ?_
  refine reg ?_
  refine p_mI rfl ?_
  refine p_cmp rfl rfl rfl ?_
  refine wp_nil ?_
  refine c_cond rfl (fun c13 => ?_) (fun c13 => ?_)
  · replace H := condT c13 H
    refine c_seq ?_
    refine reg ?_
    refine p_mI rfl ?_
    refine p_aB rfl ?_
    refine p_aI rfl ?_
    refine wp_nil ?_
    obtain rfl := Option.some.inj H
    refine c_ret ?_; show bodyPostM (Fr none) 0 Tryd.prog Tryd.f28 _ .ret _ _
    refine ret_of (res2 rfl (rvT (rfl : _ = B false)) (rvT (rfl : _ = I r9))) ?_
    exact ⟨_, rfl, rfl, S12.keep⟩
  · replace H := condF c13 H
    refine c_skip ?_
    refine c_seq ?_
    obtain ⟨r14, h15, H⟩ := bindS H
    refine reg_q mixed 2 (by kernel_rfl) ?_
    refine dS (fun _ k_ => p_ldA ty24 sz24 (Asr.stays (S12.atX (i := 0) rfl) k_) rfl rfl dn) ?_
    refine dS (fun _ k_ => p_cvD (tally_nobody_ok h15) fu67 rfl) ?_
    intro w16 k17; have S18 := S12.call k17
    obtain ⟨r21, h22, H⟩ := bindS H
    refine p_cal (tally_opened_ok h22 (S18.atP (i := 0) rfl) (by kernel_rfl) (fun _ _ _ _ k_ hr_ => tally_nobody_1_ok hr_) (S18.atP (i := 1) rfl)) fu66 rfl ?_
    rintro _ w23 ⟨m25, rfl, k24, ⟨o26, n27⟩, _⟩
    have S28 := S18.addNew k24 o26 n27
    obtain ⟨r29, h30, H⟩ := bindS H
    refine p_cv (tally_book_can_ok h30 (S28.atP (i := 0) rfl) (mpo_some (S28.atX (i := 0) rfl)) (S28.atP (i := 2) rfl)) fu68 rfl S28 fun w31 S32 => ?_
    refine p_aB rfl ?_
    refine p_aI rfl ?_
    refine wp_nil ?_
    obtain rfl := Option.some.inj H
    refine c_ret ?_; show bodyPostM (Fr none) 0 Tryd.prog Tryd.f28 _ .ret _ _
    refine ret_of (res2 rfl (rvT (rfl : _ = B r29)) (rvT (rfl : _ = I 0))) ?_
    exact ⟨_, rfl, rfl, S32.keep⟩

def tally_asked (a0 : TallyBook) (a1 : Bool) : Option (Tally_book × Int) :=
  (tally_Check a0).bind fun r12 =>
  bif (r12 != 0) then (some ((Tally_book.mk (TallyBook.mk 0 0 ([] : List TallyCount)) ([] : List (Tally_pair × Int))), r12))
  else (bif !a1 then (some ((Tally_book.mk (TallyBook.mk 0 0 ([] : List TallyCount)) ([] : List (Tally_pair × Int))), 51))
  else ((tally_nobody).bind fun r22 =>
  (tally_opened a0 (Tally_leave.mk (fun y28 y29 => tally_nobody_1 y28 y29))).bind fun r30 =>
  (tally_book_can (Tally_book.mk (TallyBook.mk r30.TallyBook.Trips r30.TallyBook.Room a0.Counts) r30.more_)).bind fun r73 =>
  bif !r73 then (some ((Tally_book.mk (TallyBook.mk r30.TallyBook.Trips r30.TallyBook.Room a0.Counts) r30.more_), 52))
  else (some ((Tally_book.mk (TallyBook.mk r30.TallyBook.Trips r30.TallyBook.Room a0.Counts) r30.more_), 0))))

set_option maxRecDepth 100000 in
theorem tally_asked_ok {a0 : TallyBook} {a1 : Bool} {A1 : Option Addr} {c2 : Nat} {w : World} {r : Tally_book × Int} (H : tally_asked a0 a1 = some r) (h3 : (rd eTallyCount 7 A1 c2 a0.Counts).ok w) (hg4 : (bl 0 [Value.func (.func 117) #[] #[], Value.func (.func 119) #[] #[]] 117).ok w) (hg5 : (bl 1 [I (-1), I (-1)] 115).ok w) : Calls Tryd.prog 74 #[AG [I a0.Trips, I a0.Room, SL A1 a0.Counts.length c2], B a1] w fun en w_ => ∃ u_, en = .returned u_ ∧ ∃ A_1 : Option Addr, ∃ c_2 : Nat, ∃ m_3 : Option Nat, u_ = TU [AG [I r.1.TallyBook.Trips, I r.1.TallyBook.Room, SL A_1 r.1.TallyBook.Counts.length c_2, Value.map m_3], I r.2] ∧ Keep0 w w_ ∧ ((rd eTallyCount 7 A_1 c_2 r.1.TallyBook.Counts).ok w_ ∧ Al w [rd eTallyCount 7 A1 c2 a0.Counts] (rd eTallyCount 7 A_1 c_2 r.1.TallyBook.Counts)) ∧ ((mpo ekT iE m_3 r.1.more_).ok w_ ∧ New w.heap.size (mpo ekT iE m_3 r.1.more_)) ∧ True := by
  unfold tally_asked at H
  refine fn_of (n := 25) Tryd.func74 rfl rfl (Nat.le_of_ble_eq_true rfl) ?_
  have S : St w (fun _ => False) w [] [rd eTallyCount 7 A1 c2 a0.Counts, bl 0 [Value.func (.func 117) #[] #[], Value.func (.func 119) #[] #[]] 117, bl 1 [I (-1), I (-1)] 115] := St.start w _ _ (List.forall_mem_cons.2 ⟨h3, (List.forall_mem_cons.2 ⟨hg4, (List.forall_mem_cons.2 ⟨hg5, (fun _ h_ => (List.not_mem_nil h_).elim)⟩)⟩)⟩)
  refine c_seq ?_
  refine reg ?_
  refine p_boxA rfl S fun b6 w7 S8 => ?_
  refine p_allA in86 S8 fun b9 w10 S11 => ?_
  refine p_aI rfl ?_
  refine wp_nil ?_
  refine c_seq ?_
  refine c_seq ?_
  refine reg ?_
  refine p_ldA ty24 sz24 (S11.atX (i := 1) rfl) rfl rfl ?_
  obtain ⟨r12, h13, H⟩ := bindS H
  refine p_cv (tally_Check_ok h13 (S11.atP (i := 0) rfl)) fu53 rfl S11 fun w14 S15 => ?_
  refine p_aI rfl ?_
  refine wp_nil ?_
  refine c_seq ?_
  refine reg ?_
  refine p_mI rfl ?_
  refine p_cmp rfl rfl rfl ?_
  refine wp_nil ?_
  refine c_cond rfl (fun c16 => ?_) (fun c16 => ?_)
  · replace H := condT c16 H
    refine c_seq ?_
    refine reg ?_
    refine p_bld (cs := [I 0, I 0, SL none 0 0, Value.map none]) st86 (rfl : _ = []) (by kernel_rfl) ?_
    refine p_mI rfl ?_
    refine p_stP (pre := []) (old := [I 0, I 0, SL none 0 0, Value.map none]) (post := []) (vs := [I 0, I 0, SL none 0 0, Value.map none]) sz86 S15 (i := 0) rfl rfl rfl rfl (rfl : _ = AG [I 0, I 0, SL none 0 0, Value.map none]) rfl rfl rfl rfl fun w17 S18 => ?_
    refine p_aI rfl ?_
    refine wp_nil ?_
    obtain rfl := Option.some.inj H
    refine c_ret ?_; show bodyPostM (Fr none) 0 Tryd.prog Tryd.f74 _ .ret _ _
    refine ret_of (res2 rfl (rvA rfl ty86 sz86 (S18.atX (i := 0) rfl) rfl) (rvT (rfl : _ = I r12))) ?_
    exact ⟨_, rfl, none, 0, none, rfl, S18.keep, ⟨rd_nil (Nat.zero_le _), Al.nil⟩, ⟨mpo_none, New.mpoN⟩, trivial⟩
  · replace H := condF c16 H
    refine c_skip ?_
    refine c_seq ?_
    refine c_seq ?_
    refine reg ?_
    refine p_mB rfl ?_
    refine p_not rfl ?_
    refine wp_nil ?_
    refine c_cond rfl (fun c19 => ?_) (fun c19 => ?_)
    · replace H := condT c19 H
      refine c_seq ?_
      refine reg ?_
      refine p_bld (cs := [I 0, I 0, SL none 0 0, Value.map none]) st86 (rfl : _ = []) (by kernel_rfl) ?_
      refine p_stP (pre := []) (old := [I 0, I 0, SL none 0 0, Value.map none]) (post := []) (vs := [I 0, I 0, SL none 0 0, Value.map none]) sz86 S15 (i := 0) rfl rfl rfl rfl (rfl : _ = AG [I 0, I 0, SL none 0 0, Value.map none]) rfl rfl rfl rfl fun w20 S21 => ?_
      refine p_aI rfl ?_
      refine wp_nil ?_
      obtain rfl := Option.some.inj H
      refine c_ret ?_; show bodyPostM (Fr none) 0 Tryd.prog Tryd.f74 _ .ret _ _
      refine ret_of (res2 rfl (rvA rfl ty86 sz86 (S21.atX (i := 0) rfl) rfl) (rvT (rfl : _ = I 51))) ?_
      exact ⟨_, rfl, none, 0, none, rfl, S21.keep, ⟨rd_nil (Nat.zero_le _), Al.nil⟩, ⟨mpo_none, New.mpoN⟩, trivial⟩
    · replace H := condF c19 H
      refine c_skip ?_
      refine c_seq ?_
      obtain ⟨r22, h23, H⟩ := bindS H
      obtain ⟨r30, h31, H⟩ := bindS H
      refine reg_any mixed 4 (by kernel_rfl) [rv (AG [I a0.Trips, I a0.Room, SL A1 a0.Counts.length c2]), rv (AG [Value.func (.func 91) #[] #[]]), rx (α := Nat) (fun m34 => AG [I r30.TallyBook.Trips, I r30.TallyBook.Room, SL A1 a0.Counts.length c2, Value.map (some m34)]) (fun m34 lo hi => BtwL lo hi [] (mp ekT iE m34 r30.more_) ∧ True) (fun m34 => [mp ekT iE m34 r30.more_]), rx (α := Nat) (fun b38 => P b38 0) (fun b38 lo hi => BtwL lo hi [] (bl b38 [I 0, I 0, SL none 0 0, Value.map none] 86) ∧ True) (fun b38 => [bl b38 [I 0, I 0, SL none 0 0, Value.map none] 86])] [[], [], [], []] rfl (by kernel_rfl) [[], [], [0, 1], [], [0, 1, 2, 3]] (by kernel_rfl) ⟨?_, ?_, ?_, ?_, trivial⟩ ?_
      · intro e_ w_ k_ hf_ hR_
        have S_ : St w_ (fun _ => False) w_ [] [bl b9 [I 0, I 0, SL none 0 0, Value.map none] 86, bl b6 [I a0.Trips, I a0.Room, SL A1 a0.Counts.length c2] 24, rd eTallyCount 7 A1 c2 a0.Counts, bl 0 [Value.func (.func 117) #[] #[], Value.func (.func 119) #[] #[]] 117, bl 1 [I (-1), I (-1)] 115] := S15.asP k_
        refine hopE [(2, P b6 0)] ⟨((hf_ 2 rfl).trans (rfl : _ = P b6 0)), trivial⟩ ?_
        refine p_ldA ty24 sz24 (S_.atP (i := 1) rfl) rfl rfl ?_
        refine wp_nil ?_
        exact ⟨_, rfl, S_.keep, rfl⟩
      · intro e_ w_ k_ hf_ hR_
        have S_ : St w_ (fun _ => False) w_ [] [bl b9 [I 0, I 0, SL none 0 0, Value.map none] 86, bl b6 [I a0.Trips, I a0.Room, SL A1 a0.Counts.length c2] 24, rd eTallyCount 7 A1 c2 a0.Counts, bl 0 [Value.func (.func 117) #[] #[], Value.func (.func 119) #[] #[]] 117, bl 1 [I (-1), I (-1)] 115] := S15.asP k_
        refine hopE [] trivial ?_
        refine p_cv (tally_nobody_ok h23) fu67 rfl S_ fun w24 S25 => ?_
        refine wp_nil ?_
        exact ⟨_, rfl, S25.keep, rfl⟩
      · intro e_ w_ k_ hf_ hR_
        have S_ : St w_ (fun _ => False) w_ [] [bl b9 [I 0, I 0, SL none 0 0, Value.map none] 86, bl b6 [I a0.Trips, I a0.Room, SL A1 a0.Counts.length c2] 24, rd eTallyCount 7 A1 c2 a0.Counts, bl 0 [Value.func (.func 117) #[] #[], Value.func (.func 119) #[] #[]] 117, bl 1 [I (-1), I (-1)] 115] := S15.asP k_
        obtain ⟨_, _, _, _, q26⟩ := hR_ 0 17 rfl (Nat.le_of_ble_eq_true rfl) rfl
        obtain ⟨_, _, _, _, q27⟩ := hR_ 1 18 rfl (Nat.le_of_ble_eq_true rfl) rfl
        refine hopE [(17, AG [I a0.Trips, I a0.Room, SL A1 a0.Counts.length c2]), (18, AG [Value.func (.func 91) #[] #[]])] ⟨q26, q27, trivial⟩ ?_
        refine p_cal (tally_opened_ok h31 (S_.atP (i := 2) rfl) (by kernel_rfl) (fun _ _ _ _ k_ hr_ => tally_nobody_1_ok hr_) (S_.atP (i := 3) rfl)) fu66 rfl ?_
        rintro _ w32 ⟨m34, rfl, k33, ⟨o35, n36⟩, _⟩
        have S37 := S_.addNew k33 o35 n36
        refine wp_nil ?_
        exact ⟨_, rfl, S37.keep, ⟨m34, rfl, ⟨BtwL.of (New.al (S37.newX (i := 0) rfl)) rfl (S37.atX (i := 0) rfl) rfl, trivial⟩, (List.forall_mem_cons.2 ⟨(S37.atX (i := 0) rfl), (fun _ h_ => (List.not_mem_nil h_).elim)⟩)⟩⟩
      · intro e_ w_ k_ hf_ hR_
        have S_ : St w_ (fun _ => False) w_ [] [bl b9 [I 0, I 0, SL none 0 0, Value.map none] 86, bl b6 [I a0.Trips, I a0.Room, SL A1 a0.Counts.length c2] 24, rd eTallyCount 7 A1 c2 a0.Counts, bl 0 [Value.func (.func 117) #[] #[], Value.func (.func 119) #[] #[]] 117, bl 1 [I (-1), I (-1)] 115] := S15.asP k_
        refine hopE [] trivial ?_
        refine p_allA in86 S_ fun b38 w39 S40 => ?_
        refine wp_nil ?_
        exact ⟨_, rfl, S40.keep, ⟨b38, rfl, ⟨BtwL.of (New.al (S40.newX (i := 0) rfl)) rfl (S40.atX (i := 0) rfl) rfl, trivial⟩, (List.forall_mem_cons.2 ⟨(S40.atX (i := 0) rfl), (fun _ h_ => (List.not_mem_nil h_).elim)⟩)⟩⟩
      intro e41 w42 lo43 hi44 k45 hf46 hR47 hd48
      have S49 := S15.call k45
      have q50 : e41 17 = AG [I a0.Trips, I a0.Room, SL A1 a0.Counts.length c2] := (hR47 0 17 (Nat.le_of_ble_eq_true rfl) rfl).2.2.2
      have q51 : e41 18 = AG [Value.func (.func 91) #[] #[]] := (hR47 1 18 (Nat.le_of_ble_eq_true rfl) rfl).2.2.2
      obtain ⟨h53, h54, h55, m34, q52, h56, h57⟩ := hR47 2 19 (Nat.le_of_ble_eq_true rfl) rfl
      replace q52 : e41 19 = AG [I r30.TallyBook.Trips, I r30.TallyBook.Room, SL A1 a0.Counts.length c2, Value.map (some m34)] := q52
      obtain ⟨p58, _⟩ := h56
      obtain ⟨h61, h62, h63, b38, q60, h64, h65⟩ := hR47 3 7 (Nat.le_of_ble_eq_true rfl) rfl
      replace q60 : e41 7 = P b38 0 := q60
      obtain ⟨p66, _⟩ := h64
      have S68 := St.addO S49 (h57 _ (.head _)) (fun b_ h_ => (p58 b_ h_).elim (fun q_ => Nat.le_trans S15.keep.size (Nat.le_trans h53 q_.1)) (fun ⟨_, hq_, _⟩ => (List.not_mem_nil hq_).elim)) (List.forall_mem_cons.2 ⟨(fun b_ h1_ h2_ => (p58 b_ h1_).elim (fun q2_ => by have q1_ := Asr.inb _ _ _ (S15.atX (i := 0) rfl) h2_; omega) (fun ⟨_, hq_, _⟩ => (List.not_mem_nil hq_).elim)), (List.forall_mem_cons.2 ⟨(fun b_ h1_ h2_ => (p58 b_ h1_).elim (fun q2_ => by have q1_ := Asr.inb _ _ _ (S15.atX (i := 1) rfl) h2_; omega) (fun ⟨_, hq_, _⟩ => (List.not_mem_nil hq_).elim)), (fun _ h_ => (List.not_mem_nil h_).elim)⟩)⟩) (List.forall_mem_cons.2 ⟨(fun b_ h1_ h2_ => (p58 b_ h1_).elim (fun q2_ => by have q1_ := Asr.inb _ _ _ (S15.atP (i := 0) rfl) h2_; omega) (fun ⟨_, hq_, _⟩ => (List.not_mem_nil hq_).elim)), (List.forall_mem_cons.2 ⟨(fun b_ h1_ h2_ => (p58 b_ h1_).elim (fun q2_ => by have q1_ := Asr.inb _ _ _ (S15.atP (i := 1) rfl) h2_; omega) (fun ⟨_, hq_, _⟩ => (List.not_mem_nil hq_).elim)), (List.forall_mem_cons.2 ⟨(fun b_ h1_ h2_ => (p58 b_ h1_).elim (fun q2_ => by have q1_ := Asr.inb _ _ _ (S15.atP (i := 2) rfl) h2_; omega) (fun ⟨_, hq_, _⟩ => (List.not_mem_nil hq_).elim)), (fun _ h_ => (List.not_mem_nil h_).elim)⟩)⟩)⟩)
      have S69 := St.addO S68 (h65 _ (.head _)) (fun b_ h_ => (p66 b_ h_).elim (fun q_ => Nat.le_trans S15.keep.size (Nat.le_trans h61 q_.1)) (fun ⟨_, hq_, _⟩ => (List.not_mem_nil hq_).elim)) (List.forall_mem_cons.2 ⟨(fun b_ h1_ h2_ => (p66 b_ h1_).elim (fun q1_ => (p58 b_ h2_).elim (fun q2_ => by have q3_ := hd48 3 2 (Nat.le_of_ble_eq_true rfl) (Nat.le_of_ble_eq_true rfl) (by decide); omega) (fun ⟨q_, hq_, hqb_⟩ => by have q5_ := h61; have q4_ := Asr.inb _ _ _ (S15.ps q_ (((fun _ h_ => (List.not_mem_nil h_).elim)) q_ hq_)) hqb_; omega)) (fun ⟨_, hq_, _⟩ => (List.not_mem_nil hq_).elim)), (List.forall_mem_cons.2 ⟨(fun b_ h1_ h2_ => (p66 b_ h1_).elim (fun q2_ => by have q1_ := Asr.inb _ _ _ (S15.atX (i := 0) rfl) h2_; omega) (fun ⟨_, hq_, _⟩ => (List.not_mem_nil hq_).elim)), (List.forall_mem_cons.2 ⟨(fun b_ h1_ h2_ => (p66 b_ h1_).elim (fun q2_ => by have q1_ := Asr.inb _ _ _ (S15.atX (i := 1) rfl) h2_; omega) (fun ⟨_, hq_, _⟩ => (List.not_mem_nil hq_).elim)), (fun _ h_ => (List.not_mem_nil h_).elim)⟩)⟩)⟩) (List.forall_mem_cons.2 ⟨(fun b_ h1_ h2_ => (p66 b_ h1_).elim (fun q2_ => by have q1_ := Asr.inb _ _ _ (S15.atP (i := 0) rfl) h2_; omega) (fun ⟨_, hq_, _⟩ => (List.not_mem_nil hq_).elim)), (List.forall_mem_cons.2 ⟨(fun b_ h1_ h2_ => (p66 b_ h1_).elim (fun q2_ => by have q1_ := Asr.inb _ _ _ (S15.atP (i := 1) rfl) h2_; omega) (fun ⟨_, hq_, _⟩ => (List.not_mem_nil hq_).elim)), (List.forall_mem_cons.2 ⟨(fun b_ h1_ h2_ => (p66 b_ h1_).elim (fun q2_ => by have q1_ := Asr.inb _ _ _ (S15.atP (i := 2) rfl) h2_; omega) (fun ⟨_, hq_, _⟩ => (List.not_mem_nil hq_).elim)), (fun _ h_ => (List.not_mem_nil h_).elim)⟩)⟩)⟩)
      refine tailE [(4, P b9 0), (7, P b38 0), (19, AG [I r30.TallyBook.Trips, I r30.TallyBook.Room, SL A1 a0.Counts.length c2, Value.map (some m34)])] ⟨((hf46 4 rfl).trans (rfl : _ = P b9 0)), q60, q52, trivial⟩ ?_
      intro g70
      refine p_stP (pre := []) (old := [I 0, I 0, SL none 0 0, Value.map none]) (post := []) (vs := [I r30.TallyBook.Trips, I r30.TallyBook.Room, SL A1 a0.Counts.length c2, Value.map (some m34)]) sz86 S69 (i := 0) rfl rfl rfl rfl (rfl : _ = AG [I r30.TallyBook.Trips, I r30.TallyBook.Room, SL A1 a0.Counts.length c2, Value.map (some m34)]) rfl rfl rfl rfl fun w71 S72 => ?_
      refine wp_nil ?_
      refine c_seq ?_
      refine c_seq ?_
      refine reg ?_
      refine p_ldA ty86 sz86 (S72.atX (i := 0) rfl) rfl rfl ?_
      obtain ⟨r73, h74, H⟩ := bindS H
      refine p_cv (tally_book_can_ok h74 (S72.atP (i := 0) rfl) (mpo_some (S72.atX (i := 1) rfl)) (S72.atP (i := 2) rfl)) fu68 rfl S72 fun w75 S76 => ?_
      refine p_not rfl ?_
      refine wp_nil ?_
      refine c_cond rfl (fun c77 => ?_) (fun c77 => ?_)
      · replace H := condT c77 H
        refine c_seq ?_
        refine reg ?_
        refine p_ldA ty86 sz86 (S76.atX (i := 0) rfl) rfl rfl ?_
        refine p_stP (pre := []) (old := [I 0, I 0, SL none 0 0, Value.map none]) (post := []) (vs := [I r30.TallyBook.Trips, I r30.TallyBook.Room, SL A1 a0.Counts.length c2, Value.map (some m34)]) sz86 S76 (i := 2) rfl rfl rfl rfl (rfl : _ = AG [I r30.TallyBook.Trips, I r30.TallyBook.Room, SL A1 a0.Counts.length c2, Value.map (some m34)]) rfl rfl rfl rfl fun w78 S79 => ?_
        refine p_aI rfl ?_
        refine wp_nil ?_
        obtain rfl := Option.some.inj H
        refine c_ret ?_; show bodyPostM (Fr none) 0 Tryd.prog Tryd.f74 _ .ret _ _
        refine ret_of (res2 rfl (rvA rfl ty86 sz86 (S79.atX (i := 2) rfl) rfl) (rvT (rfl : _ = I 52))) ?_
        exact ⟨_, rfl, A1, c2, (some m34), rfl, S79.keep, ⟨(S79.atP (i := 0) rfl), Al.self (i := 0) rfl⟩, ⟨mpo_some (S79.atX (i := 1) rfl), New.mpoS (S79.newX (i := 1) rfl)⟩, trivial⟩
      · replace H := condF c77 H
        refine c_skip ?_
        refine c_seq ?_
        refine reg ?_
        refine p_ldA ty86 sz86 (S76.atX (i := 0) rfl) rfl rfl ?_
        refine p_stP (pre := []) (old := [I 0, I 0, SL none 0 0, Value.map none]) (post := []) (vs := [I r30.TallyBook.Trips, I r30.TallyBook.Room, SL A1 a0.Counts.length c2, Value.map (some m34)]) sz86 S76 (i := 2) rfl rfl rfl rfl (rfl : _ = AG [I r30.TallyBook.Trips, I r30.TallyBook.Room, SL A1 a0.Counts.length c2, Value.map (some m34)]) rfl rfl rfl rfl fun w80 S81 => ?_
        refine p_aI rfl ?_
        refine wp_nil ?_
        obtain rfl := Option.some.inj H
        refine c_ret ?_; show bodyPostM (Fr none) 0 Tryd.prog Tryd.f74 _ .ret _ _
        refine ret_of (res2 rfl (rvA rfl ty86 sz86 (S81.atX (i := 2) rfl) rfl) (rvT (rfl : _ = I 0))) ?_
        exact ⟨_, rfl, A1, c2, (some m34), rfl, S81.keep, ⟨(S81.atP (i := 0) rfl), Al.self (i := 0) rfl⟩, ⟨mpo_some (S81.atX (i := 1) rfl), New.mpoS (S81.newX (i := 1) rfl)⟩, trivial⟩

structure Span where
  Low : Int
  High : Int
  deriving DecidableEq, Inhabited

def tally_book_many_j1 (a1 : Int) (a2 : Int) (r22 : (List Int) × Bool) (r13 : (List Int) × Bool) (z_1 : Unit) : Option Span :=
  need (inI a1 9) <|
  need (inI a2 9) <|
  some (Span.mk (wr (-(aget r22.1 a1))) (aget r13.1 a2))

def tally_book_many (a0 : Tally_book) (a1 : Int) (a2 : Int) : Option Span :=
  (tally_from a0 a1).bind fun r13 =>
  (tally_from a0 a2).bind fun r22 =>
  (tally_none).bind fun r31 =>
  bif decide (sgl r22.1 9 = sgl r31 9) then ((tally_none).bind fun r34 =>
  bif decide (sgl r13.1 9 = sgl r34 9) then (some (Span.mk 0 0))
  else (tally_book_many_j1 a1 a2 r22 r13 ()))
  else (tally_book_many_j1 a1 a2 r22 r13 ())

set_option maxRecDepth 100000 in
theorem tally_book_many_ok {a0 : Tally_book} {a1 : Int} {a2 : Int} {A1 : Option Addr} {c2 : Nat} {m4 : Option Nat} {w : World} {r : Span} (H : tally_book_many a0 a1 a2 = some r) (h3 : (rd eTallyCount 7 A1 c2 a0.TallyBook.Counts).ok w) (h5 : (mpo ekT iE m4 a0.more_).ok w) (hg6 : (bl 1 [I (-1), I (-1)] 115).ok w) : Calls Tryd.prog 76 #[AG [I a0.TallyBook.Trips, I a0.TallyBook.Room, SL A1 a0.TallyBook.Counts.length c2, Value.map m4], I a1, I a2] w (RetV w (AG [I r.Low, I r.High])) := by
  unfold tally_book_many at H
  refine fn_of (n := 40) Tryd.func76 rfl rfl (Nat.le_of_ble_eq_true rfl) ?_
  have S : St w (fun _ => False) w [] [rd eTallyCount 7 A1 c2 a0.TallyBook.Counts, mpo ekT iE m4 a0.more_, bl 1 [I (-1), I (-1)] 115] := St.start w _ _ (List.forall_mem_cons.2 ⟨h3, (List.forall_mem_cons.2 ⟨h5, (List.forall_mem_cons.2 ⟨hg6, (fun _ h_ => (List.not_mem_nil h_).elim)⟩)⟩)⟩)
  refine c_seq ?_
  refine reg ?_
  refine p_boxA rfl S fun b7 w8 S9 => ?_
  refine p_allA in49 S9 fun b10 w11 S12 => ?_
  refine wp_nil ?_
  refine c_seq ?_
  refine reg ?_
  refine p_ldA ty86 sz86 (S12.atX (i := 1) rfl) rfl rfl ?_
  refine p_mI rfl ?_
  obtain ⟨r13, h14, H⟩ := bindS H
  refine p_cv (tally_from_ok h14 (S12.atP (i := 0) rfl) (S12.atP (i := 1) rfl) (S12.atP (i := 2) rfl)) fu92 rfl S12 fun w15 S16 => ?_
  refine p_mT rfl ?_
  refine p_ext rfl rfl ?_
  refine p_ext rfl rfl ?_
  refine p_allA in119 S16 fun b17 w18 S19 => ?_
  refine p_stP (pre := []) (old := sg (List.replicate 9 0) 9) (post := []) (vs := sg r13.1 9) sz119 S19 (i := 0) rfl rfl rfl rfl (rfl : _ = AG (sg r13.1 9)) rfl rfl rfl rfl fun w20 S21 => ?_
  refine p_aB rfl ?_
  refine wp_nil ?_
  refine c_seq ?_
  refine reg ?_
  refine p_ldA ty86 sz86 (S21.atX (i := 2) rfl) rfl rfl ?_
  refine p_mI rfl ?_
  obtain ⟨r22, h23, H⟩ := bindS H
  refine p_cv (tally_from_ok h23 (S21.atP (i := 0) rfl) (S21.atP (i := 1) rfl) (S21.atP (i := 2) rfl)) fu92 rfl S21 fun w24 S25 => ?_
  refine p_mT rfl ?_
  refine p_ext rfl rfl ?_
  refine p_ext rfl rfl ?_
  refine p_allA in119 S25 fun b26 w27 S28 => ?_
  refine p_stP (pre := []) (old := sg (List.replicate 9 0) 9) (post := []) (vs := sg r22.1 9) sz119 S28 (i := 0) rfl rfl rfl rfl (rfl : _ = AG (sg r22.1 9)) rfl rfl rfl rfl fun w29 S30 => ?_
  refine p_aB rfl ?_
  refine wp_nil ?_
  refine c_join (α := Unit) (β := Unit) (fun z_1 y_1 => [(1, I a1), (2, I a2), (6, P b10 0), (7, P b17 0), (9, P b26 0)]) (fun z_1 y_1 w_ => tally_book_many_j1 a1 a2 r22 r13 z_1 = some r ∧ St w (fun _ => False) w_ [bl b26 (sg r22.1 9) 119, bl b17 (sg r13.1 9) 119, bl b10 [I 0, I 0] 49, bl b7 [I a0.TallyBook.Trips, I a0.TallyBook.Room, SL A1 a0.TallyBook.Counts.length c2, Value.map m4] 86] [rd eTallyCount 7 A1 c2 a0.TallyBook.Counts, mpo ekT iE m4 a0.more_, bl 1 [I (-1), I (-1)] 115]) ?_ ?_
  · refine c_seq ?_
    obtain ⟨r31, h32, H⟩ := bindS H
    rcases Bool.eq_false_or_eq_true (decide (sgl r22.1 9 = sgl r31 9)) with c33 | c33
    · replace H := condT c33 H
      obtain ⟨r34, h35, H⟩ := bindS H
      refine reg_q mixed 8 (by kernel_rfl) ?_
      refine dS (fun _ k_ => p_ldA ty119 sz119 (Asr.stays (S30.atX (i := 0) rfl) k_) rfl rfl dn) ?_
      refine dS (fun _ k_ => p_cvD (tally_none_ok h32) fu97 rfl) ?_
      refine dS (fun _ k_ => p_eqS (m := 9) eq119 rfl rfl dn) ?_
      refine dS (fun _ k_ => p_mB rfl dn) ?_
      refine dB c33 ?_
      refine dS (fun _ k_ => gT rfl rfl (p_ldA ty119 sz119 (Asr.stays (S30.atX (i := 1) rfl) k_) rfl rfl dn)) ?_
      refine dS (fun _ k_ => gT rfl rfl (p_cvD (tally_none_ok h35) fu97 rfl)) ?_
      refine dS (fun _ k_ => gT rfl rfl (p_eqS (m := 9) eq119 rfl rfl dn)) ?_
      refine dS (fun _ k_ => p_pkT rfl (rfl : _ = B (decide (sgl r13.1 9 = sgl r34 9))) dn) ?_
      intro w36 k37; have S38 := S30.call k37
      refine wp_nil ?_
      refine c_cond rfl (fun c39 => ?_) (fun c39 => ?_)
      · replace H := condT c39 H
        refine c_seq ?_
        refine reg ?_
        refine p_bld (cs := [I 0, I 0]) st49 (rfl : _ = []) (by kernel_rfl) ?_
        refine p_stP (pre := []) (old := [I 0, I 0]) (post := []) (vs := [I 0, I 0]) sz49 S38 (i := 2) rfl rfl rfl rfl (rfl : _ = AG [I 0, I 0]) rfl rfl rfl rfl fun w40 S41 => ?_
        refine wp_nil ?_
        obtain rfl := Option.some.inj H
        refine c_ret ?_; show bodyPostM (Fr none) 0 Tryd.prog Tryd.f76 _ .ret _ _
        refine ret_of (res1 rfl (rvA rfl ty49 sz49 (S41.atX (i := 2) rfl) rfl)) ?_
        exact ⟨_, rfl, rfl, S41.keep⟩
      · replace H := condF c39 H
        refine c_skip ?_
        exact ⟨(), (), _, rfl, ⟨rfl, rfl, rfl, rfl, rfl, trivial⟩, H, S38⟩
    · replace H := condF c33 H
      refine reg_q mixed 8 (by kernel_rfl) ?_
      refine dS (fun _ k_ => p_ldA ty119 sz119 (Asr.stays (S30.atX (i := 0) rfl) k_) rfl rfl dn) ?_
      refine dS (fun _ k_ => p_cvD (tally_none_ok h32) fu97 rfl) ?_
      refine dS (fun _ k_ => p_eqS (m := 9) eq119 rfl rfl dn) ?_
      refine dS (fun _ k_ => p_mB rfl dn) ?_
      refine dB c33 ?_
      refine dS (fun _ k_ => gF rfl rfl dnU) ?_
      refine dS (fun _ k_ => gF rfl rfl dnU) ?_
      refine dS (fun _ k_ => gF rfl rfl dnU) ?_
      refine dS (fun _ k_ => p_pkF rfl (rfl : _ = B false) dn) ?_
      intro w42 k43; have S44 := S30.call k43
      refine wp_nil ?_
      refine c_false rfl ?_
      refine c_skip ?_
      exact ⟨(), (), _, rfl, ⟨rfl, rfl, rfl, rfl, rfl, trivial⟩, H, S44⟩
  · intro z_1 y_1 e31 w32 S33; obtain ⟨H, S33⟩ := S33
    unfold tally_book_many_j1 at H
    refine c_seq ?_
    obtain ⟨h34, H⟩ := needS H
    obtain ⟨h35, H⟩ := needS H
    refine reg_q mixed 8 (by kernel_rfl) ?_
    refine dS (fun _ k_ => p_mI rfl dn) ?_
    refine dS (fun _ k_ => p_ixD ar119 h34 rfl rfl dn) ?_
    refine dS (fun _ k_ => p_ldD (pre := []) (post := []) ty3 (Asr.stays (S33.atX (i := 0) rfl) k_) rfl h34 rfl rfl dn) ?_
    refine dS (fun _ k_ => p_neg rfl dn) ?_
    refine dS (fun _ k_ => p_mI rfl dn) ?_
    refine dS (fun _ k_ => p_ixD ar119 h35 rfl rfl dn) ?_
    refine dS (fun _ k_ => p_ldD (pre := []) (post := []) ty3 (Asr.stays (S33.atX (i := 1) rfl) k_) rfl h35 rfl rfl dn) ?_
    refine dS (fun _ k_ => p_bld (cs := [I (wr (-(aget r22.1 a1))), I (aget r13.1 a2)]) st49 (rfl : _ = [(0, I (wr (-(aget r22.1 a1)))), (1, I (aget r13.1 a2))]) (by kernel_rfl) dn) ?_
    intro w36 k37; have S38 := S33.call k37
    refine p_stP (pre := []) (old := [I 0, I 0]) (post := []) (vs := [I (wr (-(aget r22.1 a1))), I (aget r13.1 a2)]) sz49 S38 (i := 2) rfl rfl rfl rfl (rfl : _ = AG [I (wr (-(aget r22.1 a1))), I (aget r13.1 a2)]) rfl rfl rfl rfl fun w39 S40 => ?_
    refine wp_nil ?_
    obtain rfl := Option.some.inj H
    refine c_ret ?_; show bodyPostM (Fr none) 0 Tryd.prog Tryd.f76 _ .ret _ _
    refine ret_of (res1 rfl (rvA rfl ty49 sz49 (S40.atX (i := 2) rfl) rfl)) ?_
    exact ⟨_, rfl, rfl, S40.keep⟩

def tally_Many (a0 : TallyBook) (a1 : Int) (a2 : Int) : Option (Span × Int) :=
  (tally_isTrips a0 a1 a2).bind fun r15 =>
  (tally_asked a0 r15).bind fun r21 =>
  bif (r21.2 != 0) then (some ((Span.mk 0 0), r21.2))
  else ((tally_book_many r21.1 a1 (wr (a2 + 1))).bind fun r89 =>
  some (r89, 0))

set_option maxRecDepth 100000 in
theorem tally_Many_ok {a0 : TallyBook} {a1 : Int} {a2 : Int} {A1 : Option Addr} {c2 : Nat} {w : World} {r : Span × Int} (H : tally_Many a0 a1 a2 = some r) (h3 : (rd eTallyCount 7 A1 c2 a0.Counts).ok w) (hg4 : (bl 0 [Value.func (.func 117) #[] #[], Value.func (.func 119) #[] #[]] 117).ok w) (hg5 : (bl 1 [I (-1), I (-1)] 115).ok w) : Calls Tryd.prog 32 #[AG [I a0.Trips, I a0.Room, SL A1 a0.Counts.length c2], I a1, I a2] w (RetV w (TU [AG [I r.1.Low, I r.1.High], I r.2])) := by
  unfold tally_Many at H
  refine fn_of (n := 28) Tryd.func32 rfl rfl (Nat.le_of_ble_eq_true rfl) ?_
  have S : St w (fun _ => False) w [] [rd eTallyCount 7 A1 c2 a0.Counts, bl 0 [Value.func (.func 117) #[] #[], Value.func (.func 119) #[] #[]] 117, bl 1 [I (-1), I (-1)] 115] := St.start w _ _ (List.forall_mem_cons.2 ⟨h3, (List.forall_mem_cons.2 ⟨hg4, (List.forall_mem_cons.2 ⟨hg5, (fun _ h_ => (List.not_mem_nil h_).elim)⟩)⟩)⟩)
  refine c_seq ?_
  refine reg ?_
  refine p_boxA rfl S fun b6 w7 S8 => ?_
  refine p_allA in49 S8 fun b9 w10 S11 => ?_
  refine p_aI rfl ?_
  refine wp_nil ?_
  refine c_seq ?_
  obtain ⟨r15, h16, H⟩ := bindS H
  obtain ⟨r21, h22, H⟩ := bindS H
  refine reg_fl mixed 10 8 (by kernel_rfl) [rv (AG [I a0.Trips, I a0.Room, SL A1 a0.Counts.length c2]), rv (AG [I a0.Trips, I a0.Room, SL A1 a0.Counts.length c2]), rv (I a1), rv (I a2), rv (B r15), rx (α := (Option Addr) × Nat × (Option Nat)) (fun ⟨A25, c26, m27⟩ => TU [AG [I r21.1.TallyBook.Trips, I r21.1.TallyBook.Room, SL A25 r21.1.TallyBook.Counts.length c26, Value.map m27], I r21.2]) (fun ⟨A25, c26, m27⟩ lo hi => BtwL lo hi [rd eTallyCount 7 A1 c2 a0.Counts] (rd eTallyCount 7 A25 c26 r21.1.TallyBook.Counts) ∧ BtwL lo hi [] (mpo ekT iE m27 r21.1.more_) ∧ True) (fun ⟨A25, c26, m27⟩ => [rd eTallyCount 7 A25 c26 r21.1.TallyBook.Counts, mpo ekT iE m27 r21.1.more_]), dv 16 some, dv 10 (exG 0), dv 10 (exG 1), rx (α := Nat) (fun b44 => P b44 0) (fun b44 lo hi => BtwL lo hi [] (bl b44 [I 0, I 0, SL none 0 0, Value.map none] 86) ∧ True) (fun b44 => [bl b44 [I 0, I 0, SL none 0 0, Value.map none] 86])] [[], [], [], [], [], [], [16], [10], [10], []] rfl (by kernel_rfl) [[], [], [], [], [1, 2, 3], [0, 1, 2, 3, 4], [0, 1, 2, 3, 4, 5], [0, 1, 2, 3, 4, 5, 6], [0, 1, 2, 3, 4, 5, 6], [], [0, 1, 2, 3, 4, 5, 6, 7, 9], [0, 1, 2, 3, 4, 5, 6, 7, 8, 9, 10]] (by kernel_rfl) ⟨?_, ?_, ?_, ?_, ?_, ?_, ?_, ?_, ?_, ?_, trivial⟩ ?_ ?_
  · intro e_ w_ k_ hf_ hR_
    have S_ : St w_ (fun _ => False) w_ [] [bl b9 [I 0, I 0] 49, bl b6 [I a0.Trips, I a0.Room, SL A1 a0.Counts.length c2] 24, rd eTallyCount 7 A1 c2 a0.Counts, bl 0 [Value.func (.func 117) #[] #[], Value.func (.func 119) #[] #[]] 117, bl 1 [I (-1), I (-1)] 115] := S11.asP k_
    refine hopE [(3, P b6 0)] ⟨((hf_ 3 rfl).trans (rfl : _ = P b6 0)), trivial⟩ ?_
    refine p_ldA ty24 sz24 (S_.atP (i := 1) rfl) rfl rfl ?_
    refine wp_nil ?_
    exact ⟨_, rfl, S_.keep, rfl⟩
  · intro e_ w_ k_ hf_ hR_
    have S_ : St w_ (fun _ => False) w_ [] [bl b9 [I 0, I 0] 49, bl b6 [I a0.Trips, I a0.Room, SL A1 a0.Counts.length c2] 24, rd eTallyCount 7 A1 c2 a0.Counts, bl 0 [Value.func (.func 117) #[] #[], Value.func (.func 119) #[] #[]] 117, bl 1 [I (-1), I (-1)] 115] := S11.asP k_
    refine hopE [(3, P b6 0)] ⟨((hf_ 3 rfl).trans (rfl : _ = P b6 0)), trivial⟩ ?_
    refine p_ldA ty24 sz24 (S_.atP (i := 1) rfl) rfl rfl ?_
    refine wp_nil ?_
    exact ⟨_, rfl, S_.keep, rfl⟩
  · intro e_ w_ k_ hf_ hR_
    have S_ : St w_ (fun _ => False) w_ [] [bl b9 [I 0, I 0] 49, bl b6 [I a0.Trips, I a0.Room, SL A1 a0.Counts.length c2] 24, rd eTallyCount 7 A1 c2 a0.Counts, bl 0 [Value.func (.func 117) #[] #[], Value.func (.func 119) #[] #[]] 117, bl 1 [I (-1), I (-1)] 115] := S11.asP k_
    refine hopE [(1, I a1)] ⟨((hf_ 1 rfl).trans (rfl : _ = I a1)), trivial⟩ ?_
    refine p_mI rfl ?_
    refine wp_nil ?_
    exact ⟨_, rfl, S_.keep, rfl⟩
  · intro e_ w_ k_ hf_ hR_
    have S_ : St w_ (fun _ => False) w_ [] [bl b9 [I 0, I 0] 49, bl b6 [I a0.Trips, I a0.Room, SL A1 a0.Counts.length c2] 24, rd eTallyCount 7 A1 c2 a0.Counts, bl 0 [Value.func (.func 117) #[] #[], Value.func (.func 119) #[] #[]] 117, bl 1 [I (-1), I (-1)] 115] := S11.asP k_
    refine hopE [(2, I a2)] ⟨((hf_ 2 rfl).trans (rfl : _ = I a2)), trivial⟩ ?_
    refine p_mI rfl ?_
    refine wp_nil ?_
    exact ⟨_, rfl, S_.keep, rfl⟩
  · intro e_ w_ k_ hf_ hR_
    have S_ : St w_ (fun _ => False) w_ [] [bl b9 [I 0, I 0] 49, bl b6 [I a0.Trips, I a0.Room, SL A1 a0.Counts.length c2] 24, rd eTallyCount 7 A1 c2 a0.Counts, bl 0 [Value.func (.func 117) #[] #[], Value.func (.func 119) #[] #[]] 117, bl 1 [I (-1), I (-1)] 115] := S11.asP k_
    obtain ⟨_, _, _, _, q12⟩ := hR_ 1 12 rfl (Nat.le_of_ble_eq_true rfl) rfl
    obtain ⟨_, _, _, _, q13⟩ := hR_ 2 13 rfl (Nat.le_of_ble_eq_true rfl) rfl
    obtain ⟨_, _, _, _, q14⟩ := hR_ 3 14 rfl (Nat.le_of_ble_eq_true rfl) rfl
    refine hopE [(12, AG [I a0.Trips, I a0.Room, SL A1 a0.Counts.length c2]), (13, I a1), (14, I a2)] ⟨q12, q13, q14, trivial⟩ ?_
    refine p_cv (tally_isTrips_ok h16 (S_.atP (i := 2) rfl)) fu75 rfl S_ fun w17 S18 => ?_
    refine wp_nil ?_
    exact ⟨_, rfl, S18.keep, rfl⟩
  · intro e_ w_ k_ hf_ hR_
    have S_ : St w_ (fun _ => False) w_ [] [bl b9 [I 0, I 0] 49, bl b6 [I a0.Trips, I a0.Room, SL A1 a0.Counts.length c2] 24, rd eTallyCount 7 A1 c2 a0.Counts, bl 0 [Value.func (.func 117) #[] #[], Value.func (.func 119) #[] #[]] 117, bl 1 [I (-1), I (-1)] 115] := S11.asP k_
    obtain ⟨_, _, _, _, q19⟩ := hR_ 0 11 rfl (Nat.le_of_ble_eq_true rfl) rfl
    obtain ⟨_, _, _, _, q20⟩ := hR_ 4 15 rfl (Nat.le_of_ble_eq_true rfl) rfl
    refine hopE [(11, AG [I a0.Trips, I a0.Room, SL A1 a0.Counts.length c2]), (15, B r15)] ⟨q19, q20, trivial⟩ ?_
    refine p_cal (tally_asked_ok h22 (S_.atP (i := 2) rfl) (S_.atP (i := 3) rfl) (S_.atP (i := 4) rfl)) fu74 rfl ?_
    rintro _ w23 ⟨A25, c26, m27, rfl, k24, ⟨o28, n29⟩, ⟨o30, n31⟩, _⟩
    have S32 := S_.callN k24 [rd eTallyCount 7 A25 c26 r21.1.TallyBook.Counts, mpo ekT iE m27 r21.1.more_] (List.forall_mem_cons.2 ⟨⟨o28, Al.inL n29 ((List.forall_mem_cons.2 ⟨(fp_mem (i := 2) rfl), (fun _ h_ => (List.not_mem_nil h_).elim)⟩))⟩, (List.forall_mem_cons.2 ⟨⟨o30, New.inL n31⟩, (fun _ h_ => (List.not_mem_nil h_).elim)⟩)⟩)
    refine wp_nil ?_
    exact ⟨_, rfl, S32.keep, ⟨(A25, c26, m27), rfl, ⟨BtwL.of n29 rfl (S32.atP (i := 0) rfl) rfl, BtwL.of (New.al (New.mono n31 S_.keep.size)) rfl (S32.atP (i := 1) rfl) rfl, trivial⟩, (List.forall_mem_cons.2 ⟨(S32.atP (i := 0) rfl), (List.forall_mem_cons.2 ⟨(S32.atP (i := 1) rfl), (fun _ h_ => (List.not_mem_nil h_).elim)⟩)⟩)⟩⟩
  · intro e_ w_ k_ hf_ hR_
    have S_ : St w_ (fun _ => False) w_ [] [bl b9 [I 0, I 0] 49, bl b6 [I a0.Trips, I a0.Room, SL A1 a0.Counts.length c2] 24, rd eTallyCount 7 A1 c2 a0.Counts, bl 0 [Value.func (.func 117) #[] #[], Value.func (.func 119) #[] #[]] 117, bl 1 [I (-1), I (-1)] 115] := S11.asP k_
    obtain ⟨_, _, _, _, ⟨A25, c26, m27⟩, q33, p34, a35⟩ := hR_ 5 16 rfl (Nat.le_of_ble_eq_true rfl) rfl
    replace q33 : e_ 16 = TU [AG [I r21.1.TallyBook.Trips, I r21.1.TallyBook.Room, SL A25 r21.1.TallyBook.Counts.length c26, Value.map m27], I r21.2] := q33
    have S_ := St.addL' S_ (a35 _ (.head _)) (fun _ _ _ h_ => (List.not_mem_nil h_).elim)
    have S_ := St.addL' S_ (a35 _ (.tail _ (.head _))) (fun _ _ _ h_ => (List.not_mem_nil h_).elim)
    refine hopE [(16, TU [AG [I r21.1.TallyBook.Trips, I r21.1.TallyBook.Room, SL A25 r21.1.TallyBook.Counts.length c26, Value.map m27], I r21.2])] ⟨q33, trivial⟩ ?_
    refine p_mT rfl ?_
    refine wp_nil ?_
    exact ⟨_, rfl, S_.keep, rfl⟩
  · intro e_ w_ k_ hf_ hR_
    have S_ : St w_ (fun _ => False) w_ [] [bl b9 [I 0, I 0] 49, bl b6 [I a0.Trips, I a0.Room, SL A1 a0.Counts.length c2] 24, rd eTallyCount 7 A1 c2 a0.Counts, bl 0 [Value.func (.func 117) #[] #[], Value.func (.func 119) #[] #[]] 117, bl 1 [I (-1), I (-1)] 115] := S11.asP k_
    obtain ⟨_, _, _, _, ⟨A25, c26, m27⟩, q37, p38, a39⟩ := hR_ 5 16 rfl (Nat.le_of_ble_eq_true rfl) rfl
    replace q37 : e_ 16 = TU [AG [I r21.1.TallyBook.Trips, I r21.1.TallyBook.Room, SL A25 r21.1.TallyBook.Counts.length c26, Value.map m27], I r21.2] := q37
    have S_ := St.addL' S_ (a39 _ (.head _)) (fun _ _ _ h_ => (List.not_mem_nil h_).elim)
    have S_ := St.addL' S_ (a39 _ (.tail _ (.head _))) (fun _ _ _ h_ => (List.not_mem_nil h_).elim)
    obtain ⟨_, _, _, _, q36⟩ := hR_ 6 10 rfl (Nat.le_of_ble_eq_true rfl) rfl
    replace q36 : e_ 10 = TU [AG [I r21.1.TallyBook.Trips, I r21.1.TallyBook.Room, SL A25 r21.1.TallyBook.Counts.length c26, Value.map m27], I r21.2] := (Option.some.inj ((congrArg some q37).symm.trans q36)).symm
    refine hopE [(10, TU [AG [I r21.1.TallyBook.Trips, I r21.1.TallyBook.Room, SL A25 r21.1.TallyBook.Counts.length c26, Value.map m27], I r21.2])] ⟨q36, trivial⟩ ?_
    refine p_ext rfl rfl ?_
    refine wp_nil ?_
    exact ⟨_, rfl, S_.keep, rfl⟩
  · intro e_ w_ k_ hf_ hR_
    have S_ : St w_ (fun _ => False) w_ [] [bl b9 [I 0, I 0] 49, bl b6 [I a0.Trips, I a0.Room, SL A1 a0.Counts.length c2] 24, rd eTallyCount 7 A1 c2 a0.Counts, bl 0 [Value.func (.func 117) #[] #[], Value.func (.func 119) #[] #[]] 117, bl 1 [I (-1), I (-1)] 115] := S11.asP k_
    obtain ⟨_, _, _, _, ⟨A25, c26, m27⟩, q41, p42, a43⟩ := hR_ 5 16 rfl (Nat.le_of_ble_eq_true rfl) rfl
    replace q41 : e_ 16 = TU [AG [I r21.1.TallyBook.Trips, I r21.1.TallyBook.Room, SL A25 r21.1.TallyBook.Counts.length c26, Value.map m27], I r21.2] := q41
    have S_ := St.addL' S_ (a43 _ (.head _)) (fun _ _ _ h_ => (List.not_mem_nil h_).elim)
    have S_ := St.addL' S_ (a43 _ (.tail _ (.head _))) (fun _ _ _ h_ => (List.not_mem_nil h_).elim)
    obtain ⟨_, _, _, _, q40⟩ := hR_ 6 10 rfl (Nat.le_of_ble_eq_true rfl) rfl
    replace q40 : e_ 10 = TU [AG [I r21.1.TallyBook.Trips, I r21.1.TallyBook.Room, SL A25 r21.1.TallyBook.Counts.length c26, Value.map m27], I r21.2] := (Option.some.inj ((congrArg some q41).symm.trans q40)).symm
    refine hopE [(10, TU [AG [I r21.1.TallyBook.Trips, I r21.1.TallyBook.Room, SL A25 r21.1.TallyBook.Counts.length c26, Value.map m27], I r21.2])] ⟨q40, trivial⟩ ?_
    refine p_ext rfl rfl ?_
    refine wp_nil ?_
    exact ⟨_, rfl, S_.keep, rfl⟩
  · intro e_ w_ k_ hf_ hR_
    have S_ : St w_ (fun _ => False) w_ [] [bl b9 [I 0, I 0] 49, bl b6 [I a0.Trips, I a0.Room, SL A1 a0.Counts.length c2] 24, rd eTallyCount 7 A1 c2 a0.Counts, bl 0 [Value.func (.func 117) #[] #[], Value.func (.func 119) #[] #[]] 117, bl 1 [I (-1), I (-1)] 115] := S11.asP k_
    refine hopE [] trivial ?_
    refine p_allA in86 S_ fun b44 w45 S46 => ?_
    refine wp_nil ?_
    exact ⟨_, rfl, S46.keep, ⟨b44, rfl, ⟨BtwL.of (New.al (S46.newX (i := 0) rfl)) rfl (S46.atX (i := 0) rfl) rfl, trivial⟩, (List.forall_mem_cons.2 ⟨(S46.atX (i := 0) rfl), (fun _ h_ => (List.not_mem_nil h_).elim)⟩)⟩⟩
  · intro e47 w48 lo49 hi50 k51 hf52 hR53 hd54
    have S55 := S11.call k51
    have q56 : e47 11 = AG [I a0.Trips, I a0.Room, SL A1 a0.Counts.length c2] := (hR53 0 11 (Nat.le_of_ble_eq_true rfl) rfl).2.2.2
    have q57 : e47 12 = AG [I a0.Trips, I a0.Room, SL A1 a0.Counts.length c2] := (hR53 1 12 (Nat.le_of_ble_eq_true rfl) rfl).2.2.2
    have q58 : e47 13 = I a1 := (hR53 2 13 (Nat.le_of_ble_eq_true rfl) rfl).2.2.2
    have q59 : e47 14 = I a2 := (hR53 3 14 (Nat.le_of_ble_eq_true rfl) rfl).2.2.2
    have q60 : e47 15 = B r15 := (hR53 4 15 (Nat.le_of_ble_eq_true rfl) rfl).2.2.2
    obtain ⟨h62, h63, h64, ⟨A25, c26, m27⟩, q61, h65, h66⟩ := hR53 5 16 (Nat.le_of_ble_eq_true rfl) rfl
    replace q61 : e47 16 = TU [AG [I r21.1.TallyBook.Trips, I r21.1.TallyBook.Room, SL A25 r21.1.TallyBook.Counts.length c26, Value.map m27], I r21.2] := q61
    obtain ⟨p67, p68, _⟩ := h65
    have S69 := St.addR S55 (h66 _ (.head _)) (fun b_ h_ x_ hx_ hb_ => (p67 b_ h_).elim (fun q_ => by have := x_.inb _ _ (S11.xs x_ hx_) hb_; omega) (fun ⟨q_, hq_, hqb_⟩ => S11.dp x_ hx_ q_ ((List.forall_mem_cons.2 ⟨List.mem_of_getElem? (i := 0) rfl, (fun _ h_ => (List.not_mem_nil h_).elim)⟩) q_ hq_) b_ hb_ hqb_))
    have S70 := St.addR S69 (h66 _ (.tail _ (.head _))) (fun b_ h_ x_ hx_ hb_ => (p68 b_ h_).elim (fun q_ => by have := x_.inb _ _ (S11.xs x_ hx_) hb_; omega) (fun ⟨q_, hq_, hqb_⟩ => S11.dp x_ hx_ q_ (((fun _ h_ => (List.not_mem_nil h_).elim)) q_ hq_) b_ hb_ hqb_))
    have q71 : e47 10 = TU [AG [I r21.1.TallyBook.Trips, I r21.1.TallyBook.Room, SL A25 r21.1.TallyBook.Counts.length c26, Value.map m27], I r21.2] := (Option.some.inj ((congrArg some q61).symm.trans (hR53 6 10 (Nat.le_of_ble_eq_true rfl) rfl).2.2.2)).symm
    have q72 : e47 17 = AG [I r21.1.TallyBook.Trips, I r21.1.TallyBook.Room, SL A25 r21.1.TallyBook.Counts.length c26, Value.map m27] := (Option.some.inj ((congrArg (exG 0) q71).symm.trans (hR53 7 17 (Nat.le_of_ble_eq_true rfl) rfl).2.2.2)).symm
    have q73 : e47 18 = I r21.2 := (Option.some.inj ((congrArg (exG 1) q71).symm.trans (hR53 8 18 (Nat.le_of_ble_eq_true rfl) rfl).2.2.2)).symm
    obtain ⟨h75, h76, h77, b44, q74, h78, h79⟩ := hR53 9 8 (Nat.le_of_ble_eq_true rfl) rfl
    replace q74 : e47 8 = P b44 0 := q74
    obtain ⟨p80, _⟩ := h78
    have S82 := St.addO S70 (h79 _ (.head _)) (fun b_ h_ => (p80 b_ h_).elim (fun q_ => Nat.le_trans S11.keep.size (Nat.le_trans h75 q_.1)) (fun ⟨_, hq_, _⟩ => (List.not_mem_nil hq_).elim)) (List.forall_mem_cons.2 ⟨(fun b_ h1_ h2_ => (p80 b_ h1_).elim (fun q2_ => by have q1_ := Asr.inb _ _ _ (S11.atX (i := 0) rfl) h2_; omega) (fun ⟨_, hq_, _⟩ => (List.not_mem_nil hq_).elim)), (List.forall_mem_cons.2 ⟨(fun b_ h1_ h2_ => (p80 b_ h1_).elim (fun q2_ => by have q1_ := Asr.inb _ _ _ (S11.atX (i := 1) rfl) h2_; omega) (fun ⟨_, hq_, _⟩ => (List.not_mem_nil hq_).elim)), (fun _ h_ => (List.not_mem_nil h_).elim)⟩)⟩) (List.forall_mem_cons.2 ⟨(fun b_ h1_ h2_ => (p80 b_ h1_).elim (fun q1_ => (p68 b_ h2_).elim (fun q2_ => by have q3_ := hd54 9 5 (Nat.le_of_ble_eq_true rfl) (Nat.le_of_ble_eq_true rfl) (by decide); omega) (fun ⟨q_, hq_, hqb_⟩ => by have q5_ := h75; have q4_ := Asr.inb _ _ _ (S11.ps q_ (((fun _ h_ => (List.not_mem_nil h_).elim)) q_ hq_)) hqb_; omega)) (fun ⟨_, hq_, _⟩ => (List.not_mem_nil hq_).elim)), (List.forall_mem_cons.2 ⟨(fun b_ h1_ h2_ => (p80 b_ h1_).elim (fun q1_ => (p67 b_ h2_).elim (fun q2_ => by have q3_ := hd54 9 5 (Nat.le_of_ble_eq_true rfl) (Nat.le_of_ble_eq_true rfl) (by decide); omega) (fun ⟨q_, hq_, hqb_⟩ => by have q5_ := h75; have q4_ := Asr.inb _ _ _ (S11.ps q_ ((List.forall_mem_cons.2 ⟨List.mem_of_getElem? (i := 0) rfl, (fun _ h_ => (List.not_mem_nil h_).elim)⟩) q_ hq_)) hqb_; omega)) (fun ⟨_, hq_, _⟩ => (List.not_mem_nil hq_).elim)), (List.forall_mem_cons.2 ⟨(fun b_ h1_ h2_ => (p80 b_ h1_).elim (fun q2_ => by have q1_ := Asr.inb _ _ _ (S11.atP (i := 0) rfl) h2_; omega) (fun ⟨_, hq_, _⟩ => (List.not_mem_nil hq_).elim)), (List.forall_mem_cons.2 ⟨(fun b_ h1_ h2_ => (p80 b_ h1_).elim (fun q2_ => by have q1_ := Asr.inb _ _ _ (S11.atP (i := 1) rfl) h2_; omega) (fun ⟨_, hq_, _⟩ => (List.not_mem_nil hq_).elim)), (List.forall_mem_cons.2 ⟨(fun b_ h1_ h2_ => (p80 b_ h1_).elim (fun q2_ => by have q1_ := Asr.inb _ _ _ (S11.atP (i := 2) rfl) h2_; omega) (fun ⟨_, hq_, _⟩ => (List.not_mem_nil hq_).elim)), (fun _ h_ => (List.not_mem_nil h_).elim)⟩)⟩)⟩)⟩)⟩)
    refine tailE [(1, I a1), (2, I a2), (6, P b9 0), (8, P b44 0), (17, AG [I r21.1.TallyBook.Trips, I r21.1.TallyBook.Room, SL A25 r21.1.TallyBook.Counts.length c26, Value.map m27]), (18, I r21.2)] ⟨((hf52 1 rfl).trans (rfl : _ = I a1)), ((hf52 2 rfl).trans (rfl : _ = I a2)), ((hf52 6 rfl).trans (rfl : _ = P b9 0)), q74, q72, q73, trivial⟩ ?_
    intro g83
    refine p_stP (pre := []) (old := [I 0, I 0, SL none 0 0, Value.map none]) (post := []) (vs := [I r21.1.TallyBook.Trips, I r21.1.TallyBook.Room, SL A25 r21.1.TallyBook.Counts.length c26, Value.map m27]) sz86 S82 (i := 0) rfl rfl rfl rfl (rfl : _ = AG [I r21.1.TallyBook.Trips, I r21.1.TallyBook.Room, SL A25 r21.1.TallyBook.Counts.length c26, Value.map m27]) rfl rfl rfl rfl fun w84 S85 => ?_
    refine p_aI rfl ?_
    refine wp_nil ?_
    refine c_seq ?_
    refine c_seq ?_
    refine reg ?_
    refine p_mI rfl ?_
    refine p_cmp rfl rfl rfl ?_
    refine wp_nil ?_
    refine c_cond rfl (fun c86 => ?_) (fun c86 => ?_)
    · replace H := condT c86 H
      refine c_seq ?_
      refine reg ?_
      refine p_bld (cs := [I 0, I 0]) st49 (rfl : _ = []) (by kernel_rfl) ?_
      refine p_mI rfl ?_
      refine p_stP (pre := []) (old := [I 0, I 0]) (post := []) (vs := [I 0, I 0]) sz49 S85 (i := 1) rfl rfl rfl rfl (rfl : _ = AG [I 0, I 0]) rfl rfl rfl rfl fun w87 S88 => ?_
      refine p_aI rfl ?_
      refine wp_nil ?_
      obtain rfl := Option.some.inj H
      refine c_ret ?_; show bodyPostM (Fr none) 0 Tryd.prog Tryd.f32 _ .ret _ _
      refine ret_of (res2 rfl (rvA rfl ty49 sz49 (S88.atX (i := 1) rfl) rfl) (rvT (rfl : _ = I r21.2))) ?_
      exact ⟨_, rfl, rfl, S88.keep⟩
    · replace H := condF c86 H
      refine c_skip ?_
      refine c_seq ?_
      refine reg ?_
      refine p_ldA ty86 sz86 (S85.atX (i := 0) rfl) rfl rfl ?_
      refine p_mI rfl ?_
      refine p_mI rfl ?_
      refine p_add rfl rfl ?_
      obtain ⟨r89, h90, H⟩ := bindS H
      refine p_cv (tally_book_many_ok h90 (S85.atP (i := 1) rfl) (S85.atP (i := 0) rfl) (S85.atP (i := 4) rfl)) fu76 rfl S85 fun w91 S92 => ?_
      refine p_stP (pre := []) (old := [I 0, I 0]) (post := []) (vs := [I r89.Low, I r89.High]) sz49 S92 (i := 1) rfl rfl rfl rfl (rfl : _ = AG [I r89.Low, I r89.High]) rfl rfl rfl rfl fun w93 S94 => ?_
      refine p_aI rfl ?_
      refine wp_nil ?_
      obtain rfl := Option.some.inj H
      refine c_ret ?_; show bodyPostM (Fr none) 0 Tryd.prog Tryd.f32 _ .ret _ _
      refine ret_of (res2 rfl (rvA rfl ty49 sz49 (S94.atX (i := 1) rfl) rfl) (rvT (rfl : _ = I 0))) ?_
      exact ⟨_, rfl, rfl, S94.keep⟩
  · intro e95 w96 lo97 hi98 k99 hf100 hR101 hd102
    have S103 := S11.call k99
    have q104 : e95 11 = AG [I a0.Trips, I a0.Room, SL A1 a0.Counts.length c2] := (hR101 0 11 (Nat.le_of_ble_eq_true rfl) (by decide) rfl).2.2.2
    have q105 : e95 12 = AG [I a0.Trips, I a0.Room, SL A1 a0.Counts.length c2] := (hR101 1 12 (Nat.le_of_ble_eq_true rfl) (by decide) rfl).2.2.2
    have q106 : e95 13 = I a1 := (hR101 2 13 (Nat.le_of_ble_eq_true rfl) (by decide) rfl).2.2.2
    have q107 : e95 14 = I a2 := (hR101 3 14 (Nat.le_of_ble_eq_true rfl) (by decide) rfl).2.2.2
    have q108 : e95 15 = B r15 := (hR101 4 15 (Nat.le_of_ble_eq_true rfl) (by decide) rfl).2.2.2
    obtain ⟨h110, h111, h112, ⟨A25, c26, m27⟩, q109, h113, h114⟩ := hR101 5 16 (Nat.le_of_ble_eq_true rfl) (by decide) rfl
    replace q109 : e95 16 = TU [AG [I r21.1.TallyBook.Trips, I r21.1.TallyBook.Room, SL A25 r21.1.TallyBook.Counts.length c26, Value.map m27], I r21.2] := q109
    obtain ⟨p115, p116, _⟩ := h113
    have S117 := St.addR S103 (h114 _ (.head _)) (fun b_ h_ x_ hx_ hb_ => (p115 b_ h_).elim (fun q_ => by have := x_.inb _ _ (S11.xs x_ hx_) hb_; omega) (fun ⟨q_, hq_, hqb_⟩ => S11.dp x_ hx_ q_ ((List.forall_mem_cons.2 ⟨List.mem_of_getElem? (i := 0) rfl, (fun _ h_ => (List.not_mem_nil h_).elim)⟩) q_ hq_) b_ hb_ hqb_))
    have S118 := St.addR S117 (h114 _ (.tail _ (.head _))) (fun b_ h_ x_ hx_ hb_ => (p116 b_ h_).elim (fun q_ => by have := x_.inb _ _ (S11.xs x_ hx_) hb_; omega) (fun ⟨q_, hq_, hqb_⟩ => S11.dp x_ hx_ q_ (((fun _ h_ => (List.not_mem_nil h_).elim)) q_ hq_) b_ hb_ hqb_))
    have q119 : e95 10 = TU [AG [I r21.1.TallyBook.Trips, I r21.1.TallyBook.Room, SL A25 r21.1.TallyBook.Counts.length c26, Value.map m27], I r21.2] := (Option.some.inj ((congrArg some q109).symm.trans (hR101 6 10 (Nat.le_of_ble_eq_true rfl) (by decide) rfl).2.2.2)).symm
    have q120 : e95 17 = AG [I r21.1.TallyBook.Trips, I r21.1.TallyBook.Room, SL A25 r21.1.TallyBook.Counts.length c26, Value.map m27] := (Option.some.inj ((congrArg (exG 0) q119).symm.trans (hR101 7 17 (Nat.le_of_ble_eq_true rfl) (by decide) rfl).2.2.2)).symm
    obtain ⟨h122, h123, h124, b44, q121, h125, h126⟩ := hR101 9 8 (Nat.le_of_ble_eq_true rfl) (by decide) rfl
    replace q121 : e95 8 = P b44 0 := q121
    obtain ⟨p127, _⟩ := h125
    have S129 := St.addO S118 (h126 _ (.head _)) (fun b_ h_ => (p127 b_ h_).elim (fun q_ => Nat.le_trans S11.keep.size (Nat.le_trans h122 q_.1)) (fun ⟨_, hq_, _⟩ => (List.not_mem_nil hq_).elim)) (List.forall_mem_cons.2 ⟨(fun b_ h1_ h2_ => (p127 b_ h1_).elim (fun q2_ => by have q1_ := Asr.inb _ _ _ (S11.atX (i := 0) rfl) h2_; omega) (fun ⟨_, hq_, _⟩ => (List.not_mem_nil hq_).elim)), (List.forall_mem_cons.2 ⟨(fun b_ h1_ h2_ => (p127 b_ h1_).elim (fun q2_ => by have q1_ := Asr.inb _ _ _ (S11.atX (i := 1) rfl) h2_; omega) (fun ⟨_, hq_, _⟩ => (List.not_mem_nil hq_).elim)), (fun _ h_ => (List.not_mem_nil h_).elim)⟩)⟩) (List.forall_mem_cons.2 ⟨(fun b_ h1_ h2_ => (p127 b_ h1_).elim (fun q1_ => (p116 b_ h2_).elim (fun q2_ => by have q3_ := hd102 9 5 (Nat.le_of_ble_eq_true rfl) (Nat.le_of_ble_eq_true rfl) (by decide) (by decide) (by decide); omega) (fun ⟨q_, hq_, hqb_⟩ => by have q5_ := h122; have q4_ := Asr.inb _ _ _ (S11.ps q_ (((fun _ h_ => (List.not_mem_nil h_).elim)) q_ hq_)) hqb_; omega)) (fun ⟨_, hq_, _⟩ => (List.not_mem_nil hq_).elim)), (List.forall_mem_cons.2 ⟨(fun b_ h1_ h2_ => (p127 b_ h1_).elim (fun q1_ => (p115 b_ h2_).elim (fun q2_ => by have q3_ := hd102 9 5 (Nat.le_of_ble_eq_true rfl) (Nat.le_of_ble_eq_true rfl) (by decide) (by decide) (by decide); omega) (fun ⟨q_, hq_, hqb_⟩ => by have q5_ := h122; have q4_ := Asr.inb _ _ _ (S11.ps q_ ((List.forall_mem_cons.2 ⟨List.mem_of_getElem? (i := 0) rfl, (fun _ h_ => (List.not_mem_nil h_).elim)⟩) q_ hq_)) hqb_; omega)) (fun ⟨_, hq_, _⟩ => (List.not_mem_nil hq_).elim)), (List.forall_mem_cons.2 ⟨(fun b_ h1_ h2_ => (p127 b_ h1_).elim (fun q2_ => by have q1_ := Asr.inb _ _ _ (S11.atP (i := 0) rfl) h2_; omega) (fun ⟨_, hq_, _⟩ => (List.not_mem_nil hq_).elim)), (List.forall_mem_cons.2 ⟨(fun b_ h1_ h2_ => (p127 b_ h1_).elim (fun q2_ => by have q1_ := Asr.inb _ _ _ (S11.atP (i := 1) rfl) h2_; omega) (fun ⟨_, hq_, _⟩ => (List.not_mem_nil hq_).elim)), (List.forall_mem_cons.2 ⟨(fun b_ h1_ h2_ => (p127 b_ h1_).elim (fun q2_ => by have q1_ := Asr.inb _ _ _ (S11.atP (i := 2) rfl) h2_; omega) (fun ⟨_, hq_, _⟩ => (List.not_mem_nil hq_).elim)), (fun _ h_ => (List.not_mem_nil h_).elim)⟩)⟩)⟩)⟩)⟩)
    refine tailE [(1, I a1), (2, I a2), (6, P b9 0), (8, P b44 0), (10, TU [AG [I r21.1.TallyBook.Trips, I r21.1.TallyBook.Room, SL A25 r21.1.TallyBook.Counts.length c26, Value.map m27], I r21.2]), (17, AG [I r21.1.TallyBook.Trips, I r21.1.TallyBook.Room, SL A25 r21.1.TallyBook.Counts.length c26, Value.map m27])] ⟨((hf100 1 rfl).trans (rfl : _ = I a1)), ((hf100 2 rfl).trans (rfl : _ = I a2)), ((hf100 6 rfl).trans (rfl : _ = P b9 0)), q121, q119, q120, trivial⟩ ?_
    intro g130
    refine p_stP (pre := []) (old := [I 0, I 0, SL none 0 0, Value.map none]) (post := []) (vs := [I r21.1.TallyBook.Trips, I r21.1.TallyBook.Room, SL A25 r21.1.TallyBook.Counts.length c26, Value.map m27]) sz86 S129 (i := 0) rfl rfl rfl rfl (rfl : _ = AG [I r21.1.TallyBook.Trips, I r21.1.TallyBook.Room, SL A25 r21.1.TallyBook.Counts.length c26, Value.map m27]) rfl rfl rfl rfl fun w131 S132 => ?_
    refine p_ext rfl rfl ?_
    refine p_aI rfl ?_
    refine wp_nil ?_
    refine c_seq ?_
    refine c_seq ?_
    refine reg ?_
    refine p_mI rfl ?_
    refine p_cmp rfl rfl rfl ?_
    refine wp_nil ?_
    refine c_cond rfl (fun c133 => ?_) (fun c133 => ?_)
    · replace H := condT c133 H
      refine c_seq ?_
      refine reg ?_
      refine p_bld (cs := [I 0, I 0]) st49 (rfl : _ = []) (by kernel_rfl) ?_
      refine p_mI rfl ?_
      refine p_stP (pre := []) (old := [I 0, I 0]) (post := []) (vs := [I 0, I 0]) sz49 S132 (i := 1) rfl rfl rfl rfl (rfl : _ = AG [I 0, I 0]) rfl rfl rfl rfl fun w134 S135 => ?_
      refine p_aI rfl ?_
      refine wp_nil ?_
      obtain rfl := Option.some.inj H
      refine c_ret ?_; show bodyPostM (Fr none) 0 Tryd.prog Tryd.f32 _ .ret _ _
      refine ret_of (res2 rfl (rvA rfl ty49 sz49 (S135.atX (i := 1) rfl) rfl) (rvT (rfl : _ = I r21.2))) ?_
      exact ⟨_, rfl, rfl, S135.keep⟩
    · replace H := condF c133 H
      refine c_skip ?_
      refine c_seq ?_
      refine reg ?_
      refine p_ldA ty86 sz86 (S132.atX (i := 0) rfl) rfl rfl ?_
      refine p_mI rfl ?_
      refine p_mI rfl ?_
      refine p_add rfl rfl ?_
      obtain ⟨r136, h137, H⟩ := bindS H
      refine p_cv (tally_book_many_ok h137 (S132.atP (i := 1) rfl) (S132.atP (i := 0) rfl) (S132.atP (i := 4) rfl)) fu76 rfl S132 fun w138 S139 => ?_
      refine p_stP (pre := []) (old := [I 0, I 0]) (post := []) (vs := [I r136.Low, I r136.High]) sz49 S139 (i := 1) rfl rfl rfl rfl (rfl : _ = AG [I r136.Low, I r136.High]) rfl rfl rfl rfl fun w140 S141 => ?_
      refine p_aI rfl ?_
      refine wp_nil ?_
      obtain rfl := Option.some.inj H
      refine c_ret ?_; show bodyPostM (Fr none) 0 Tryd.prog Tryd.f32 _ .ret _ _
      refine ret_of (res2 rfl (rvA rfl ty49 sz49 (S141.atX (i := 1) rfl) rfl) (rvT (rfl : _ = I 0))) ?_
      exact ⟨_, rfl, rfl, S141.keep⟩

def tally_Pays (a0 : TallyBook) (a1 : Int) : Option (Span × Int) :=
  (tally_within a1 0 99).bind fun r13 =>
  (tally_asked a0 r13).bind fun r19 =>
  bif (r19.2 != 0) then (some ((Span.mk 0 0), r19.2))
  else ((tally_book_many r19.1 0 a0.Trips).bind fun r85 =>
  some ((Span.mk (wr (r85.Low * a1)) (wr (r85.High * a1))), 0))

set_option maxRecDepth 100000 in
theorem tally_Pays_ok {a0 : TallyBook} {a1 : Int} {A1 : Option Addr} {c2 : Nat} {w : World} {r : Span × Int} (H : tally_Pays a0 a1 = some r) (h3 : (rd eTallyCount 7 A1 c2 a0.Counts).ok w) (hg4 : (bl 0 [Value.func (.func 117) #[] #[], Value.func (.func 119) #[] #[]] 117).ok w) (hg5 : (bl 1 [I (-1), I (-1)] 115).ok w) : Calls Tryd.prog 33 #[AG [I a0.Trips, I a0.Room, SL A1 a0.Counts.length c2], I a1] w (RetV w (TU [AG [I r.1.Low, I r.1.High], I r.2])) := by
  unfold tally_Pays at H
  refine fn_of (n := 33) Tryd.func33 rfl rfl (Nat.le_of_ble_eq_true rfl) ?_
  have S : St w (fun _ => False) w [] [rd eTallyCount 7 A1 c2 a0.Counts, bl 0 [Value.func (.func 117) #[] #[], Value.func (.func 119) #[] #[]] 117, bl 1 [I (-1), I (-1)] 115] := St.start w _ _ (List.forall_mem_cons.2 ⟨h3, (List.forall_mem_cons.2 ⟨hg4, (List.forall_mem_cons.2 ⟨hg5, (fun _ h_ => (List.not_mem_nil h_).elim)⟩)⟩)⟩)
  refine c_seq ?_
  refine reg ?_
  refine p_boxA rfl S fun b6 w7 S8 => ?_
  refine p_allA in49 S8 fun b9 w10 S11 => ?_
  refine p_aI rfl ?_
  refine wp_nil ?_
  refine c_seq ?_
  obtain ⟨r13, h14, H⟩ := bindS H
  obtain ⟨r19, h20, H⟩ := bindS H
  refine reg_fl mixed 8 6 (by kernel_rfl) [rv (AG [I a0.Trips, I a0.Room, SL A1 a0.Counts.length c2]), rv (I a1), rv (B r13), rx (α := (Option Addr) × Nat × (Option Nat)) (fun ⟨A23, c24, m25⟩ => TU [AG [I r19.1.TallyBook.Trips, I r19.1.TallyBook.Room, SL A23 r19.1.TallyBook.Counts.length c24, Value.map m25], I r19.2]) (fun ⟨A23, c24, m25⟩ lo hi => BtwL lo hi [rd eTallyCount 7 A1 c2 a0.Counts] (rd eTallyCount 7 A23 c24 r19.1.TallyBook.Counts) ∧ BtwL lo hi [] (mpo ekT iE m25 r19.1.more_) ∧ True) (fun ⟨A23, c24, m25⟩ => [rd eTallyCount 7 A23 c24 r19.1.TallyBook.Counts, mpo ekT iE m25 r19.1.more_]), dv 13 some, dv 9 (exG 0), dv 9 (exG 1), rx (α := Nat) (fun b42 => P b42 0) (fun b42 lo hi => BtwL lo hi [] (bl b42 [I 0, I 0, SL none 0 0, Value.map none] 86) ∧ True) (fun b42 => [bl b42 [I 0, I 0, SL none 0 0, Value.map none] 86])] [[], [], [], [], [13], [9], [9], []] rfl (by kernel_rfl) [[], [], [1], [0, 1, 2], [0, 1, 2, 3], [0, 1, 2, 3, 4], [0, 1, 2, 3, 4], [], [0, 1, 2, 3, 4, 5, 7], [0, 1, 2, 3, 4, 5, 6, 7, 8]] (by kernel_rfl) ⟨?_, ?_, ?_, ?_, ?_, ?_, ?_, ?_, trivial⟩ ?_ ?_
  · intro e_ w_ k_ hf_ hR_
    have S_ : St w_ (fun _ => False) w_ [] [bl b9 [I 0, I 0] 49, bl b6 [I a0.Trips, I a0.Room, SL A1 a0.Counts.length c2] 24, rd eTallyCount 7 A1 c2 a0.Counts, bl 0 [Value.func (.func 117) #[] #[], Value.func (.func 119) #[] #[]] 117, bl 1 [I (-1), I (-1)] 115] := S11.asP k_
    refine hopE [(2, P b6 0)] ⟨((hf_ 2 rfl).trans (rfl : _ = P b6 0)), trivial⟩ ?_
    refine p_ldA ty24 sz24 (S_.atP (i := 1) rfl) rfl rfl ?_
    refine wp_nil ?_
    exact ⟨_, rfl, S_.keep, rfl⟩
  · intro e_ w_ k_ hf_ hR_
    have S_ : St w_ (fun _ => False) w_ [] [bl b9 [I 0, I 0] 49, bl b6 [I a0.Trips, I a0.Room, SL A1 a0.Counts.length c2] 24, rd eTallyCount 7 A1 c2 a0.Counts, bl 0 [Value.func (.func 117) #[] #[], Value.func (.func 119) #[] #[]] 117, bl 1 [I (-1), I (-1)] 115] := S11.asP k_
    refine hopE [(1, I a1)] ⟨((hf_ 1 rfl).trans (rfl : _ = I a1)), trivial⟩ ?_
    refine p_mI rfl ?_
    refine wp_nil ?_
    exact ⟨_, rfl, S_.keep, rfl⟩
  · intro e_ w_ k_ hf_ hR_
    have S_ : St w_ (fun _ => False) w_ [] [bl b9 [I 0, I 0] 49, bl b6 [I a0.Trips, I a0.Room, SL A1 a0.Counts.length c2] 24, rd eTallyCount 7 A1 c2 a0.Counts, bl 0 [Value.func (.func 117) #[] #[], Value.func (.func 119) #[] #[]] 117, bl 1 [I (-1), I (-1)] 115] := S11.asP k_
    obtain ⟨_, _, _, _, q12⟩ := hR_ 1 11 rfl (Nat.le_of_ble_eq_true rfl) rfl
    refine hopE [(11, I a1)] ⟨q12, trivial⟩ ?_
    refine p_cv (tally_within_ok h14) fu69 rfl S_ fun w15 S16 => ?_
    refine wp_nil ?_
    exact ⟨_, rfl, S16.keep, rfl⟩
  · intro e_ w_ k_ hf_ hR_
    have S_ : St w_ (fun _ => False) w_ [] [bl b9 [I 0, I 0] 49, bl b6 [I a0.Trips, I a0.Room, SL A1 a0.Counts.length c2] 24, rd eTallyCount 7 A1 c2 a0.Counts, bl 0 [Value.func (.func 117) #[] #[], Value.func (.func 119) #[] #[]] 117, bl 1 [I (-1), I (-1)] 115] := S11.asP k_
    obtain ⟨_, _, _, _, q17⟩ := hR_ 0 10 rfl (Nat.le_of_ble_eq_true rfl) rfl
    obtain ⟨_, _, _, _, q18⟩ := hR_ 2 12 rfl (Nat.le_of_ble_eq_true rfl) rfl
    refine hopE [(10, AG [I a0.Trips, I a0.Room, SL A1 a0.Counts.length c2]), (12, B r13)] ⟨q17, q18, trivial⟩ ?_
    refine p_cal (tally_asked_ok h20 (S_.atP (i := 2) rfl) (S_.atP (i := 3) rfl) (S_.atP (i := 4) rfl)) fu74 rfl ?_
    rintro _ w21 ⟨A23, c24, m25, rfl, k22, ⟨o26, n27⟩, ⟨o28, n29⟩, _⟩
    have S30 := S_.callN k22 [rd eTallyCount 7 A23 c24 r19.1.TallyBook.Counts, mpo ekT iE m25 r19.1.more_] (List.forall_mem_cons.2 ⟨⟨o26, Al.inL n27 ((List.forall_mem_cons.2 ⟨(fp_mem (i := 2) rfl), (fun _ h_ => (List.not_mem_nil h_).elim)⟩))⟩, (List.forall_mem_cons.2 ⟨⟨o28, New.inL n29⟩, (fun _ h_ => (List.not_mem_nil h_).elim)⟩)⟩)
    refine wp_nil ?_
    exact ⟨_, rfl, S30.keep, ⟨(A23, c24, m25), rfl, ⟨BtwL.of n27 rfl (S30.atP (i := 0) rfl) rfl, BtwL.of (New.al (New.mono n29 S_.keep.size)) rfl (S30.atP (i := 1) rfl) rfl, trivial⟩, (List.forall_mem_cons.2 ⟨(S30.atP (i := 0) rfl), (List.forall_mem_cons.2 ⟨(S30.atP (i := 1) rfl), (fun _ h_ => (List.not_mem_nil h_).elim)⟩)⟩)⟩⟩
  · intro e_ w_ k_ hf_ hR_
    have S_ : St w_ (fun _ => False) w_ [] [bl b9 [I 0, I 0] 49, bl b6 [I a0.Trips, I a0.Room, SL A1 a0.Counts.length c2] 24, rd eTallyCount 7 A1 c2 a0.Counts, bl 0 [Value.func (.func 117) #[] #[], Value.func (.func 119) #[] #[]] 117, bl 1 [I (-1), I (-1)] 115] := S11.asP k_
    obtain ⟨_, _, _, _, ⟨A23, c24, m25⟩, q31, p32, a33⟩ := hR_ 3 13 rfl (Nat.le_of_ble_eq_true rfl) rfl
    replace q31 : e_ 13 = TU [AG [I r19.1.TallyBook.Trips, I r19.1.TallyBook.Room, SL A23 r19.1.TallyBook.Counts.length c24, Value.map m25], I r19.2] := q31
    have S_ := St.addL' S_ (a33 _ (.head _)) (fun _ _ _ h_ => (List.not_mem_nil h_).elim)
    have S_ := St.addL' S_ (a33 _ (.tail _ (.head _))) (fun _ _ _ h_ => (List.not_mem_nil h_).elim)
    refine hopE [(13, TU [AG [I r19.1.TallyBook.Trips, I r19.1.TallyBook.Room, SL A23 r19.1.TallyBook.Counts.length c24, Value.map m25], I r19.2])] ⟨q31, trivial⟩ ?_
    refine p_mT rfl ?_
    refine wp_nil ?_
    exact ⟨_, rfl, S_.keep, rfl⟩
  · intro e_ w_ k_ hf_ hR_
    have S_ : St w_ (fun _ => False) w_ [] [bl b9 [I 0, I 0] 49, bl b6 [I a0.Trips, I a0.Room, SL A1 a0.Counts.length c2] 24, rd eTallyCount 7 A1 c2 a0.Counts, bl 0 [Value.func (.func 117) #[] #[], Value.func (.func 119) #[] #[]] 117, bl 1 [I (-1), I (-1)] 115] := S11.asP k_
    obtain ⟨_, _, _, _, ⟨A23, c24, m25⟩, q35, p36, a37⟩ := hR_ 3 13 rfl (Nat.le_of_ble_eq_true rfl) rfl
    replace q35 : e_ 13 = TU [AG [I r19.1.TallyBook.Trips, I r19.1.TallyBook.Room, SL A23 r19.1.TallyBook.Counts.length c24, Value.map m25], I r19.2] := q35
    have S_ := St.addL' S_ (a37 _ (.head _)) (fun _ _ _ h_ => (List.not_mem_nil h_).elim)
    have S_ := St.addL' S_ (a37 _ (.tail _ (.head _))) (fun _ _ _ h_ => (List.not_mem_nil h_).elim)
    obtain ⟨_, _, _, _, q34⟩ := hR_ 4 9 rfl (Nat.le_of_ble_eq_true rfl) rfl
    replace q34 : e_ 9 = TU [AG [I r19.1.TallyBook.Trips, I r19.1.TallyBook.Room, SL A23 r19.1.TallyBook.Counts.length c24, Value.map m25], I r19.2] := (Option.some.inj ((congrArg some q35).symm.trans q34)).symm
    refine hopE [(9, TU [AG [I r19.1.TallyBook.Trips, I r19.1.TallyBook.Room, SL A23 r19.1.TallyBook.Counts.length c24, Value.map m25], I r19.2])] ⟨q34, trivial⟩ ?_
    refine p_ext rfl rfl ?_
    refine wp_nil ?_
    exact ⟨_, rfl, S_.keep, rfl⟩
  · intro e_ w_ k_ hf_ hR_
    have S_ : St w_ (fun _ => False) w_ [] [bl b9 [I 0, I 0] 49, bl b6 [I a0.Trips, I a0.Room, SL A1 a0.Counts.length c2] 24, rd eTallyCount 7 A1 c2 a0.Counts, bl 0 [Value.func (.func 117) #[] #[], Value.func (.func 119) #[] #[]] 117, bl 1 [I (-1), I (-1)] 115] := S11.asP k_
    obtain ⟨_, _, _, _, ⟨A23, c24, m25⟩, q39, p40, a41⟩ := hR_ 3 13 rfl (Nat.le_of_ble_eq_true rfl) rfl
    replace q39 : e_ 13 = TU [AG [I r19.1.TallyBook.Trips, I r19.1.TallyBook.Room, SL A23 r19.1.TallyBook.Counts.length c24, Value.map m25], I r19.2] := q39
    have S_ := St.addL' S_ (a41 _ (.head _)) (fun _ _ _ h_ => (List.not_mem_nil h_).elim)
    have S_ := St.addL' S_ (a41 _ (.tail _ (.head _))) (fun _ _ _ h_ => (List.not_mem_nil h_).elim)
    obtain ⟨_, _, _, _, q38⟩ := hR_ 4 9 rfl (Nat.le_of_ble_eq_true rfl) rfl
    replace q38 : e_ 9 = TU [AG [I r19.1.TallyBook.Trips, I r19.1.TallyBook.Room, SL A23 r19.1.TallyBook.Counts.length c24, Value.map m25], I r19.2] := (Option.some.inj ((congrArg some q39).symm.trans q38)).symm
    refine hopE [(9, TU [AG [I r19.1.TallyBook.Trips, I r19.1.TallyBook.Room, SL A23 r19.1.TallyBook.Counts.length c24, Value.map m25], I r19.2])] ⟨q38, trivial⟩ ?_
    refine p_ext rfl rfl ?_
    refine wp_nil ?_
    exact ⟨_, rfl, S_.keep, rfl⟩
  · intro e_ w_ k_ hf_ hR_
    have S_ : St w_ (fun _ => False) w_ [] [bl b9 [I 0, I 0] 49, bl b6 [I a0.Trips, I a0.Room, SL A1 a0.Counts.length c2] 24, rd eTallyCount 7 A1 c2 a0.Counts, bl 0 [Value.func (.func 117) #[] #[], Value.func (.func 119) #[] #[]] 117, bl 1 [I (-1), I (-1)] 115] := S11.asP k_
    refine hopE [] trivial ?_
    refine p_allA in86 S_ fun b42 w43 S44 => ?_
    refine wp_nil ?_
    exact ⟨_, rfl, S44.keep, ⟨b42, rfl, ⟨BtwL.of (New.al (S44.newX (i := 0) rfl)) rfl (S44.atX (i := 0) rfl) rfl, trivial⟩, (List.forall_mem_cons.2 ⟨(S44.atX (i := 0) rfl), (fun _ h_ => (List.not_mem_nil h_).elim)⟩)⟩⟩
  · intro e45 w46 lo47 hi48 k49 hf50 hR51 hd52
    have S53 := S11.call k49
    have q54 : e45 10 = AG [I a0.Trips, I a0.Room, SL A1 a0.Counts.length c2] := (hR51 0 10 (Nat.le_of_ble_eq_true rfl) rfl).2.2.2
    have q55 : e45 11 = I a1 := (hR51 1 11 (Nat.le_of_ble_eq_true rfl) rfl).2.2.2
    have q56 : e45 12 = B r13 := (hR51 2 12 (Nat.le_of_ble_eq_true rfl) rfl).2.2.2
    obtain ⟨h58, h59, h60, ⟨A23, c24, m25⟩, q57, h61, h62⟩ := hR51 3 13 (Nat.le_of_ble_eq_true rfl) rfl
    replace q57 : e45 13 = TU [AG [I r19.1.TallyBook.Trips, I r19.1.TallyBook.Room, SL A23 r19.1.TallyBook.Counts.length c24, Value.map m25], I r19.2] := q57
    obtain ⟨p63, p64, _⟩ := h61
    have S65 := St.addR S53 (h62 _ (.head _)) (fun b_ h_ x_ hx_ hb_ => (p63 b_ h_).elim (fun q_ => by have := x_.inb _ _ (S11.xs x_ hx_) hb_; omega) (fun ⟨q_, hq_, hqb_⟩ => S11.dp x_ hx_ q_ ((List.forall_mem_cons.2 ⟨List.mem_of_getElem? (i := 0) rfl, (fun _ h_ => (List.not_mem_nil h_).elim)⟩) q_ hq_) b_ hb_ hqb_))
    have S66 := St.addR S65 (h62 _ (.tail _ (.head _))) (fun b_ h_ x_ hx_ hb_ => (p64 b_ h_).elim (fun q_ => by have := x_.inb _ _ (S11.xs x_ hx_) hb_; omega) (fun ⟨q_, hq_, hqb_⟩ => S11.dp x_ hx_ q_ (((fun _ h_ => (List.not_mem_nil h_).elim)) q_ hq_) b_ hb_ hqb_))
    have q67 : e45 9 = TU [AG [I r19.1.TallyBook.Trips, I r19.1.TallyBook.Room, SL A23 r19.1.TallyBook.Counts.length c24, Value.map m25], I r19.2] := (Option.some.inj ((congrArg some q57).symm.trans (hR51 4 9 (Nat.le_of_ble_eq_true rfl) rfl).2.2.2)).symm
    have q68 : e45 14 = AG [I r19.1.TallyBook.Trips, I r19.1.TallyBook.Room, SL A23 r19.1.TallyBook.Counts.length c24, Value.map m25] := (Option.some.inj ((congrArg (exG 0) q67).symm.trans (hR51 5 14 (Nat.le_of_ble_eq_true rfl) rfl).2.2.2)).symm
    have q69 : e45 15 = I r19.2 := (Option.some.inj ((congrArg (exG 1) q67).symm.trans (hR51 6 15 (Nat.le_of_ble_eq_true rfl) rfl).2.2.2)).symm
    obtain ⟨h71, h72, h73, b42, q70, h74, h75⟩ := hR51 7 6 (Nat.le_of_ble_eq_true rfl) rfl
    replace q70 : e45 6 = P b42 0 := q70
    obtain ⟨p76, _⟩ := h74
    have S78 := St.addO S66 (h75 _ (.head _)) (fun b_ h_ => (p76 b_ h_).elim (fun q_ => Nat.le_trans S11.keep.size (Nat.le_trans h71 q_.1)) (fun ⟨_, hq_, _⟩ => (List.not_mem_nil hq_).elim)) (List.forall_mem_cons.2 ⟨(fun b_ h1_ h2_ => (p76 b_ h1_).elim (fun q2_ => by have q1_ := Asr.inb _ _ _ (S11.atX (i := 0) rfl) h2_; omega) (fun ⟨_, hq_, _⟩ => (List.not_mem_nil hq_).elim)), (List.forall_mem_cons.2 ⟨(fun b_ h1_ h2_ => (p76 b_ h1_).elim (fun q2_ => by have q1_ := Asr.inb _ _ _ (S11.atX (i := 1) rfl) h2_; omega) (fun ⟨_, hq_, _⟩ => (List.not_mem_nil hq_).elim)), (fun _ h_ => (List.not_mem_nil h_).elim)⟩)⟩) (List.forall_mem_cons.2 ⟨(fun b_ h1_ h2_ => (p76 b_ h1_).elim (fun q1_ => (p64 b_ h2_).elim (fun q2_ => by have q3_ := hd52 7 3 (Nat.le_of_ble_eq_true rfl) (Nat.le_of_ble_eq_true rfl) (by decide); omega) (fun ⟨q_, hq_, hqb_⟩ => by have q5_ := h71; have q4_ := Asr.inb _ _ _ (S11.ps q_ (((fun _ h_ => (List.not_mem_nil h_).elim)) q_ hq_)) hqb_; omega)) (fun ⟨_, hq_, _⟩ => (List.not_mem_nil hq_).elim)), (List.forall_mem_cons.2 ⟨(fun b_ h1_ h2_ => (p76 b_ h1_).elim (fun q1_ => (p63 b_ h2_).elim (fun q2_ => by have q3_ := hd52 7 3 (Nat.le_of_ble_eq_true rfl) (Nat.le_of_ble_eq_true rfl) (by decide); omega) (fun ⟨q_, hq_, hqb_⟩ => by have q5_ := h71; have q4_ := Asr.inb _ _ _ (S11.ps q_ ((List.forall_mem_cons.2 ⟨List.mem_of_getElem? (i := 0) rfl, (fun _ h_ => (List.not_mem_nil h_).elim)⟩) q_ hq_)) hqb_; omega)) (fun ⟨_, hq_, _⟩ => (List.not_mem_nil hq_).elim)), (List.forall_mem_cons.2 ⟨(fun b_ h1_ h2_ => (p76 b_ h1_).elim (fun q2_ => by have q1_ := Asr.inb _ _ _ (S11.atP (i := 0) rfl) h2_; omega) (fun ⟨_, hq_, _⟩ => (List.not_mem_nil hq_).elim)), (List.forall_mem_cons.2 ⟨(fun b_ h1_ h2_ => (p76 b_ h1_).elim (fun q2_ => by have q1_ := Asr.inb _ _ _ (S11.atP (i := 1) rfl) h2_; omega) (fun ⟨_, hq_, _⟩ => (List.not_mem_nil hq_).elim)), (List.forall_mem_cons.2 ⟨(fun b_ h1_ h2_ => (p76 b_ h1_).elim (fun q2_ => by have q1_ := Asr.inb _ _ _ (S11.atP (i := 2) rfl) h2_; omega) (fun ⟨_, hq_, _⟩ => (List.not_mem_nil hq_).elim)), (fun _ h_ => (List.not_mem_nil h_).elim)⟩)⟩)⟩)⟩)⟩)
    refine tailE [(1, I a1), (2, P b6 0), (4, P b9 0), (6, P b42 0), (14, AG [I r19.1.TallyBook.Trips, I r19.1.TallyBook.Room, SL A23 r19.1.TallyBook.Counts.length c24, Value.map m25]), (15, I r19.2)] ⟨((hf50 1 rfl).trans (rfl : _ = I a1)), ((hf50 2 rfl).trans (rfl : _ = P b6 0)), ((hf50 4 rfl).trans (rfl : _ = P b9 0)), q70, q68, q69, trivial⟩ ?_
    intro g79
    refine p_stP (pre := []) (old := [I 0, I 0, SL none 0 0, Value.map none]) (post := []) (vs := [I r19.1.TallyBook.Trips, I r19.1.TallyBook.Room, SL A23 r19.1.TallyBook.Counts.length c24, Value.map m25]) sz86 S78 (i := 0) rfl rfl rfl rfl (rfl : _ = AG [I r19.1.TallyBook.Trips, I r19.1.TallyBook.Room, SL A23 r19.1.TallyBook.Counts.length c24, Value.map m25]) rfl rfl rfl rfl fun w80 S81 => ?_
    refine p_aI rfl ?_
    refine wp_nil ?_
    refine c_seq ?_
    refine c_seq ?_
    refine reg ?_
    refine p_mI rfl ?_
    refine p_cmp rfl rfl rfl ?_
    refine wp_nil ?_
    refine c_cond rfl (fun c82 => ?_) (fun c82 => ?_)
    · replace H := condT c82 H
      refine c_seq ?_
      refine reg ?_
      refine p_bld (cs := [I 0, I 0]) st49 (rfl : _ = []) (by kernel_rfl) ?_
      refine p_mI rfl ?_
      refine p_stP (pre := []) (old := [I 0, I 0]) (post := []) (vs := [I 0, I 0]) sz49 S81 (i := 1) rfl rfl rfl rfl (rfl : _ = AG [I 0, I 0]) rfl rfl rfl rfl fun w83 S84 => ?_
      refine p_aI rfl ?_
      refine wp_nil ?_
      obtain rfl := Option.some.inj H
      refine c_ret ?_; show bodyPostM (Fr none) 0 Tryd.prog Tryd.f33 _ .ret _ _
      refine ret_of (res2 rfl (rvA rfl ty49 sz49 (S84.atX (i := 1) rfl) rfl) (rvT (rfl : _ = I r19.2))) ?_
      exact ⟨_, rfl, rfl, S84.keep⟩
    · replace H := condF c82 H
      refine c_skip ?_
      refine c_seq ?_
      refine reg ?_
      refine p_ldA ty86 sz86 (S81.atX (i := 0) rfl) rfl rfl ?_
      refine p_fld fl24_0 rfl ?_
      refine p_ld ty3 (S81.atX (i := 2) rfl) rfl rfl ?_
      obtain ⟨r85, h86, H⟩ := bindS H
      refine p_cv (tally_book_many_ok h86 (S81.atP (i := 1) rfl) (S81.atP (i := 0) rfl) (S81.atP (i := 4) rfl)) fu76 rfl S81 fun w87 S88 => ?_
      refine p_allA in49 S88 fun b89 w90 S91 => ?_
      refine p_stP (pre := []) (old := [I 0, I 0]) (post := []) (vs := [I r85.Low, I r85.High]) sz49 S91 (i := 0) rfl rfl rfl rfl (rfl : _ = AG [I r85.Low, I r85.High]) rfl rfl rfl rfl fun w92 S93 => ?_
      refine wp_nil ?_
      refine c_seq ?_
      refine reg ?_
      refine p_fld fl49_0 rfl ?_
      refine p_ld ty3 (S93.atX (i := 0) rfl) rfl rfl ?_
      refine p_mI rfl ?_
      refine p_mul rfl rfl ?_
      refine p_fld fl49_1 rfl ?_
      refine p_ld ty3 (S93.atX (i := 0) rfl) rfl rfl ?_
      refine p_mI rfl ?_
      refine p_mul rfl rfl ?_
      refine p_bld (cs := [I (wr (r85.Low * a1)), I (wr (r85.High * a1))]) st49 (rfl : _ = [(0, I (wr (r85.Low * a1))), (1, I (wr (r85.High * a1)))]) (by kernel_rfl) ?_
      refine p_stP (pre := []) (old := [I 0, I 0]) (post := []) (vs := [I (wr (r85.Low * a1)), I (wr (r85.High * a1))]) sz49 S93 (i := 2) rfl rfl rfl rfl (rfl : _ = AG [I (wr (r85.Low * a1)), I (wr (r85.High * a1))]) rfl rfl rfl rfl fun w94 S95 => ?_
      refine p_aI rfl ?_
      refine wp_nil ?_
      obtain rfl := Option.some.inj H
      refine c_ret ?_; show bodyPostM (Fr none) 0 Tryd.prog Tryd.f33 _ .ret _ _
      refine ret_of (res2 rfl (rvA rfl ty49 sz49 (S95.atX (i := 2) rfl) rfl) (rvT (rfl : _ = I 0))) ?_
      exact ⟨_, rfl, rfl, S95.keep⟩
  · intro e96 w97 lo98 hi99 k100 hf101 hR102 hd103
    have S104 := S11.call k100
    have q105 : e96 10 = AG [I a0.Trips, I a0.Room, SL A1 a0.Counts.length c2] := (hR102 0 10 (Nat.le_of_ble_eq_true rfl) (by decide) rfl).2.2.2
    have q106 : e96 11 = I a1 := (hR102 1 11 (Nat.le_of_ble_eq_true rfl) (by decide) rfl).2.2.2
    have q107 : e96 12 = B r13 := (hR102 2 12 (Nat.le_of_ble_eq_true rfl) (by decide) rfl).2.2.2
    obtain ⟨h109, h110, h111, ⟨A23, c24, m25⟩, q108, h112, h113⟩ := hR102 3 13 (Nat.le_of_ble_eq_true rfl) (by decide) rfl
    replace q108 : e96 13 = TU [AG [I r19.1.TallyBook.Trips, I r19.1.TallyBook.Room, SL A23 r19.1.TallyBook.Counts.length c24, Value.map m25], I r19.2] := q108
    obtain ⟨p114, p115, _⟩ := h112
    have S116 := St.addR S104 (h113 _ (.head _)) (fun b_ h_ x_ hx_ hb_ => (p114 b_ h_).elim (fun q_ => by have := x_.inb _ _ (S11.xs x_ hx_) hb_; omega) (fun ⟨q_, hq_, hqb_⟩ => S11.dp x_ hx_ q_ ((List.forall_mem_cons.2 ⟨List.mem_of_getElem? (i := 0) rfl, (fun _ h_ => (List.not_mem_nil h_).elim)⟩) q_ hq_) b_ hb_ hqb_))
    have S117 := St.addR S116 (h113 _ (.tail _ (.head _))) (fun b_ h_ x_ hx_ hb_ => (p115 b_ h_).elim (fun q_ => by have := x_.inb _ _ (S11.xs x_ hx_) hb_; omega) (fun ⟨q_, hq_, hqb_⟩ => S11.dp x_ hx_ q_ (((fun _ h_ => (List.not_mem_nil h_).elim)) q_ hq_) b_ hb_ hqb_))
    have q118 : e96 9 = TU [AG [I r19.1.TallyBook.Trips, I r19.1.TallyBook.Room, SL A23 r19.1.TallyBook.Counts.length c24, Value.map m25], I r19.2] := (Option.some.inj ((congrArg some q108).symm.trans (hR102 4 9 (Nat.le_of_ble_eq_true rfl) (by decide) rfl).2.2.2)).symm
    have q119 : e96 14 = AG [I r19.1.TallyBook.Trips, I r19.1.TallyBook.Room, SL A23 r19.1.TallyBook.Counts.length c24, Value.map m25] := (Option.some.inj ((congrArg (exG 0) q118).symm.trans (hR102 5 14 (Nat.le_of_ble_eq_true rfl) (by decide) rfl).2.2.2)).symm
    obtain ⟨h121, h122, h123, b42, q120, h124, h125⟩ := hR102 7 6 (Nat.le_of_ble_eq_true rfl) (by decide) rfl
    replace q120 : e96 6 = P b42 0 := q120
    obtain ⟨p126, _⟩ := h124
    have S128 := St.addO S117 (h125 _ (.head _)) (fun b_ h_ => (p126 b_ h_).elim (fun q_ => Nat.le_trans S11.keep.size (Nat.le_trans h121 q_.1)) (fun ⟨_, hq_, _⟩ => (List.not_mem_nil hq_).elim)) (List.forall_mem_cons.2 ⟨(fun b_ h1_ h2_ => (p126 b_ h1_).elim (fun q2_ => by have q1_ := Asr.inb _ _ _ (S11.atX (i := 0) rfl) h2_; omega) (fun ⟨_, hq_, _⟩ => (List.not_mem_nil hq_).elim)), (List.forall_mem_cons.2 ⟨(fun b_ h1_ h2_ => (p126 b_ h1_).elim (fun q2_ => by have q1_ := Asr.inb _ _ _ (S11.atX (i := 1) rfl) h2_; omega) (fun ⟨_, hq_, _⟩ => (List.not_mem_nil hq_).elim)), (fun _ h_ => (List.not_mem_nil h_).elim)⟩)⟩) (List.forall_mem_cons.2 ⟨(fun b_ h1_ h2_ => (p126 b_ h1_).elim (fun q1_ => (p115 b_ h2_).elim (fun q2_ => by have q3_ := hd103 7 3 (Nat.le_of_ble_eq_true rfl) (Nat.le_of_ble_eq_true rfl) (by decide) (by decide) (by decide); omega) (fun ⟨q_, hq_, hqb_⟩ => by have q5_ := h121; have q4_ := Asr.inb _ _ _ (S11.ps q_ (((fun _ h_ => (List.not_mem_nil h_).elim)) q_ hq_)) hqb_; omega)) (fun ⟨_, hq_, _⟩ => (List.not_mem_nil hq_).elim)), (List.forall_mem_cons.2 ⟨(fun b_ h1_ h2_ => (p126 b_ h1_).elim (fun q1_ => (p114 b_ h2_).elim (fun q2_ => by have q3_ := hd103 7 3 (Nat.le_of_ble_eq_true rfl) (Nat.le_of_ble_eq_true rfl) (by decide) (by decide) (by decide); omega) (fun ⟨q_, hq_, hqb_⟩ => by have q5_ := h121; have q4_ := Asr.inb _ _ _ (S11.ps q_ ((List.forall_mem_cons.2 ⟨List.mem_of_getElem? (i := 0) rfl, (fun _ h_ => (List.not_mem_nil h_).elim)⟩) q_ hq_)) hqb_; omega)) (fun ⟨_, hq_, _⟩ => (List.not_mem_nil hq_).elim)), (List.forall_mem_cons.2 ⟨(fun b_ h1_ h2_ => (p126 b_ h1_).elim (fun q2_ => by have q1_ := Asr.inb _ _ _ (S11.atP (i := 0) rfl) h2_; omega) (fun ⟨_, hq_, _⟩ => (List.not_mem_nil hq_).elim)), (List.forall_mem_cons.2 ⟨(fun b_ h1_ h2_ => (p126 b_ h1_).elim (fun q2_ => by have q1_ := Asr.inb _ _ _ (S11.atP (i := 1) rfl) h2_; omega) (fun ⟨_, hq_, _⟩ => (List.not_mem_nil hq_).elim)), (List.forall_mem_cons.2 ⟨(fun b_ h1_ h2_ => (p126 b_ h1_).elim (fun q2_ => by have q1_ := Asr.inb _ _ _ (S11.atP (i := 2) rfl) h2_; omega) (fun ⟨_, hq_, _⟩ => (List.not_mem_nil hq_).elim)), (fun _ h_ => (List.not_mem_nil h_).elim)⟩)⟩)⟩)⟩)⟩)
    refine tailE [(1, I a1), (2, P b6 0), (4, P b9 0), (6, P b42 0), (9, TU [AG [I r19.1.TallyBook.Trips, I r19.1.TallyBook.Room, SL A23 r19.1.TallyBook.Counts.length c24, Value.map m25], I r19.2]), (14, AG [I r19.1.TallyBook.Trips, I r19.1.TallyBook.Room, SL A23 r19.1.TallyBook.Counts.length c24, Value.map m25])] ⟨((hf101 1 rfl).trans (rfl : _ = I a1)), ((hf101 2 rfl).trans (rfl : _ = P b6 0)), ((hf101 4 rfl).trans (rfl : _ = P b9 0)), q120, q118, q119, trivial⟩ ?_
    intro g129
    refine p_stP (pre := []) (old := [I 0, I 0, SL none 0 0, Value.map none]) (post := []) (vs := [I r19.1.TallyBook.Trips, I r19.1.TallyBook.Room, SL A23 r19.1.TallyBook.Counts.length c24, Value.map m25]) sz86 S128 (i := 0) rfl rfl rfl rfl (rfl : _ = AG [I r19.1.TallyBook.Trips, I r19.1.TallyBook.Room, SL A23 r19.1.TallyBook.Counts.length c24, Value.map m25]) rfl rfl rfl rfl fun w130 S131 => ?_
    refine p_ext rfl rfl ?_
    refine p_aI rfl ?_
    refine wp_nil ?_
    refine c_seq ?_
    refine c_seq ?_
    refine reg ?_
    refine p_mI rfl ?_
    refine p_cmp rfl rfl rfl ?_
    refine wp_nil ?_
    refine c_cond rfl (fun c132 => ?_) (fun c132 => ?_)
    · replace H := condT c132 H
      refine c_seq ?_
      refine reg ?_
      refine p_bld (cs := [I 0, I 0]) st49 (rfl : _ = []) (by kernel_rfl) ?_
      refine p_mI rfl ?_
      refine p_stP (pre := []) (old := [I 0, I 0]) (post := []) (vs := [I 0, I 0]) sz49 S131 (i := 1) rfl rfl rfl rfl (rfl : _ = AG [I 0, I 0]) rfl rfl rfl rfl fun w133 S134 => ?_
      refine p_aI rfl ?_
      refine wp_nil ?_
      obtain rfl := Option.some.inj H
      refine c_ret ?_; show bodyPostM (Fr none) 0 Tryd.prog Tryd.f33 _ .ret _ _
      refine ret_of (res2 rfl (rvA rfl ty49 sz49 (S134.atX (i := 1) rfl) rfl) (rvT (rfl : _ = I r19.2))) ?_
      exact ⟨_, rfl, rfl, S134.keep⟩
    · replace H := condF c132 H
      refine c_skip ?_
      refine c_seq ?_
      refine reg ?_
      refine p_ldA ty86 sz86 (S131.atX (i := 0) rfl) rfl rfl ?_
      refine p_fld fl24_0 rfl ?_
      refine p_ld ty3 (S131.atX (i := 2) rfl) rfl rfl ?_
      obtain ⟨r135, h136, H⟩ := bindS H
      refine p_cv (tally_book_many_ok h136 (S131.atP (i := 1) rfl) (S131.atP (i := 0) rfl) (S131.atP (i := 4) rfl)) fu76 rfl S131 fun w137 S138 => ?_
      refine p_allA in49 S138 fun b139 w140 S141 => ?_
      refine p_stP (pre := []) (old := [I 0, I 0]) (post := []) (vs := [I r135.Low, I r135.High]) sz49 S141 (i := 0) rfl rfl rfl rfl (rfl : _ = AG [I r135.Low, I r135.High]) rfl rfl rfl rfl fun w142 S143 => ?_
      refine wp_nil ?_
      refine c_seq ?_
      refine reg ?_
      refine p_fld fl49_0 rfl ?_
      refine p_ld ty3 (S143.atX (i := 0) rfl) rfl rfl ?_
      refine p_mI rfl ?_
      refine p_mul rfl rfl ?_
      refine p_fld fl49_1 rfl ?_
      refine p_ld ty3 (S143.atX (i := 0) rfl) rfl rfl ?_
      refine p_mI rfl ?_
      refine p_mul rfl rfl ?_
      refine p_bld (cs := [I (wr (r135.Low * a1)), I (wr (r135.High * a1))]) st49 (rfl : _ = [(0, I (wr (r135.Low * a1))), (1, I (wr (r135.High * a1)))]) (by kernel_rfl) ?_
      refine p_stP (pre := []) (old := [I 0, I 0]) (post := []) (vs := [I (wr (r135.Low * a1)), I (wr (r135.High * a1))]) sz49 S143 (i := 2) rfl rfl rfl rfl (rfl : _ = AG [I (wr (r135.Low * a1)), I (wr (r135.High * a1))]) rfl rfl rfl rfl fun w144 S145 => ?_
      refine p_aI rfl ?_
      refine wp_nil ?_
      obtain rfl := Option.some.inj H
      refine c_ret ?_; show bodyPostM (Fr none) 0 Tryd.prog Tryd.f33 _ .ret _ _
      refine ret_of (res2 rfl (rvA rfl ty49 sz49 (S145.atX (i := 2) rfl) rfl) (rvT (rfl : _ = I 0))) ?_
      exact ⟨_, rfl, rfl, S145.keep⟩

def B_Inside (a0 : Int) (a1 : Int) (a2 : Int) : Option Bool :=
  bif decide (a0 ≥ a1) then (some (decide (a0 ≤ a2)))
  else (some false)

set_option maxRecDepth 100000 in
theorem B_Inside_ok {a0 : Int} {a1 : Int} {a2 : Int} {w : World} {r : Bool} (H : B_Inside a0 a1 a2 = some r) : Calls Tryd.prog 40 #[I a0, I a1, I a2] w (RetV w (B r)) := by
  unfold B_Inside at H
  refine fn_of (n := 15) Tryd.func40 rfl rfl (Nat.le_of_ble_eq_true rfl) ?_
  have S : St w (fun _ => False) w [] [] := St.start w _ _ (fun _ h_ => (List.not_mem_nil h_).elim)
  refine c_seq ?_
  refine reg ?_
  refine p_aB rfl ?_
  refine wp_nil ?_
  refine c_seq ?_
  refine reg ?_
  refine p_mI rfl ?_
  refine p_mI rfl ?_
  refine p_cmp rfl rfl rfl ?_
  refine p_mB rfl ?_
  rcases Bool.eq_false_or_eq_true (decide (a0 ≥ a1)) with c1 | c1
  · replace H := condT c1 H
    refine eB c1 ?_
    refine gT rfl rfl (p_mI rfl ?_)
    refine gT rfl rfl (p_mI rfl ?_)
    refine gT rfl rfl (p_cmp rfl rfl rfl ?_)
    refine p_pkT rfl (rfl : _ = B (decide (a0 ≤ a2))) ?_
    refine p_aB rfl ?_
    refine wp_nil ?_
    obtain rfl := Option.some.inj H
    refine c_ret ?_; show bodyPostM (Fr none) 0 Tryd.prog Tryd.f40 _ .ret _ _
    refine ret_of (res1 rfl (rvT (rfl : _ = B (decide (a0 ≤ a2))))) ?_
    exact ⟨_, rfl, rfl, S.keep⟩
  · replace H := condF c1 H
    refine eB c1 ?_
    refine gF rfl rfl ?_
    refine gF rfl rfl ?_
    refine gF rfl rfl ?_
    refine p_pkF rfl (rfl : _ = B false) ?_
    refine p_aB rfl ?_
    refine wp_nil ?_
    obtain rfl := Option.some.inj H
    refine c_ret ?_; show bodyPostM (Fr none) 0 Tryd.prog Tryd.f40 _ .ret _ _
    refine ret_of (res1 rfl (rvT (rfl : _ = B false))) ?_
    exact ⟨_, rfl, rfl, S.keep⟩

def ref_isTrip (a0 : TallyBook) (a1 : Int) : Option Bool :=
  (B_Inside a1 0 (wr (a0.Trips - 1))).bind fun r7 =>
  some r7

set_option maxRecDepth 100000 in
theorem ref_isTrip_ok {a0 : TallyBook} {a1 : Int} {A1 : Option Addr} {c2 : Nat} {w : World} {r : Bool} (H : ref_isTrip a0 a1 = some r) (h3 : (rd eTallyCount 7 A1 c2 a0.Counts).ok w) : Calls Tryd.prog 84 #[AG [I a0.Trips, I a0.Room, SL A1 a0.Counts.length c2], I a1] w (RetV w (B r)) := by
  unfold ref_isTrip at H
  refine fn_of (n := 10) Tryd.func84 rfl rfl (Nat.le_of_ble_eq_true rfl) ?_
  have S : St w (fun _ => False) w [] [rd eTallyCount 7 A1 c2 a0.Counts] := St.start w _ _ (List.forall_mem_cons.2 ⟨h3, (fun _ h_ => (List.not_mem_nil h_).elim)⟩)
  refine c_seq ?_
  refine reg ?_
  refine p_boxA rfl S fun b4 w5 S6 => ?_
  refine p_aB rfl ?_
  refine wp_nil ?_
  refine c_seq ?_
  refine reg ?_
  refine p_mI rfl ?_
  refine p_fld fl24_0 rfl ?_
  refine p_ld ty3 (S6.atX (i := 0) rfl) rfl rfl ?_
  refine p_sub rfl rfl ?_
  obtain ⟨r7, h8, H⟩ := bindS H
  refine p_cv (B_Inside_ok h8) fu40 rfl S6 fun w9 S10 => ?_
  refine p_aB rfl ?_
  refine wp_nil ?_
  obtain rfl := Option.some.inj H
  refine c_ret ?_; show bodyPostM (Fr none) 0 Tryd.prog Tryd.f84 _ .ret _ _
  refine ret_of (res1 rfl (rvT (rfl : _ = B r7))) ?_
  exact ⟨_, rfl, rfl, S10.keep⟩

def ref_isCount (a0 : TallyBook) (a1 : TallyCount) : Option Bool :=
  (B_Inside a1.Who 0 2).bind fun r10 =>
  bif r10 then ((ref_isTrip a0 a1.From).bind fun r15 =>
  bif r15 then ((ref_isTrip a0 a1.To).bind fun r20 =>
  bif r20 then (bif decide (a1.From ≤ a1.To) then ((B_Inside a1.Told 0 99).bind fun r26 =>
  bif r26 then ((B_Inside a1.Unit 1 20).bind fun r31 =>
  bif r31 then ((B_Inside a1.Under 0 30).bind fun r36 =>
  bif r36 then ((B_Inside a1.Over 0 30).bind fun r41 =>
  bif r41 then (bif (a1.Who != 1) then (some true)
  else (some (a1.Over == 0)))
  else (some false))
  else (some false))
  else (some false))
  else (some false))
  else (some false))
  else (some false))
  else (some false))
  else (some false)

set_option maxRecDepth 100000 in
theorem ref_isCount_ok {a0 : TallyBook} {a1 : TallyCount} {A1 : Option Addr} {c2 : Nat} {w : World} {r : Bool} (H : ref_isCount a0 a1 = some r) (h3 : (rd eTallyCount 7 A1 c2 a0.Counts).ok w) : Calls Tryd.prog 82 #[AG [I a0.Trips, I a0.Room, SL A1 a0.Counts.length c2], AG [I a1.Who, I a1.From, I a1.To, I a1.Told, I a1.Unit, I a1.Under, I a1.Over]] w (RetV w (B r)) := by
  unfold ref_isCount at H
  refine fn_of (n := 57) Tryd.func82 rfl rfl (Nat.le_of_ble_eq_true rfl) ?_
  have S : St w (fun _ => False) w [] [rd eTallyCount 7 A1 c2 a0.Counts] := St.start w _ _ (List.forall_mem_cons.2 ⟨h3, (fun _ h_ => (List.not_mem_nil h_).elim)⟩)
  refine c_seq ?_
  refine reg ?_
  refine p_boxA rfl S fun b4 w5 S6 => ?_
  refine p_boxA rfl S6 fun b7 w8 S9 => ?_
  refine p_aB rfl ?_
  refine wp_nil ?_
  refine c_seq ?_
  refine reg ?_
  refine p_fld fl33_0 rfl ?_
  refine p_ld ty3 (S9.atX (i := 0) rfl) rfl rfl ?_
  obtain ⟨r10, h11, H⟩ := bindS H
  refine p_cv (B_Inside_ok h11) fu40 rfl S9 fun w12 S13 => ?_
  refine p_mB rfl ?_
  rcases Bool.eq_false_or_eq_true (r10) with c14 | c14
  · replace H := condT c14 H
    refine eB c14 ?_
    refine gT rfl rfl (p_ldA ty24 sz24 (S13.atX (i := 1) rfl) rfl rfl ?_)
    refine gT rfl rfl (p_fld fl33_1 rfl ?_)
    refine gT rfl rfl (p_ld ty3 (S13.atX (i := 0) rfl) rfl rfl ?_)
    obtain ⟨r15, h16, H⟩ := bindS H
    refine gT rfl rfl (p_cv (ref_isTrip_ok h16 (S13.atP (i := 0) rfl)) fu84 rfl S13 fun w17 S18 => ?_)
    refine p_pkT rfl (rfl : _ = B r15) ?_
    refine p_mB rfl ?_
    rcases Bool.eq_false_or_eq_true (r15) with c19 | c19
    · replace H := condT c19 H
      refine eB c19 ?_
      refine gT rfl rfl (p_ldA ty24 sz24 (S18.atX (i := 1) rfl) rfl rfl ?_)
      refine gT rfl rfl (p_fld fl33_2 rfl ?_)
      refine gT rfl rfl (p_ld ty3 (S18.atX (i := 0) rfl) rfl rfl ?_)
      obtain ⟨r20, h21, H⟩ := bindS H
      refine gT rfl rfl (p_cv (ref_isTrip_ok h21 (S18.atP (i := 0) rfl)) fu84 rfl S18 fun w22 S23 => ?_)
      refine p_pkT rfl (rfl : _ = B r20) ?_
      refine p_mB rfl ?_
      rcases Bool.eq_false_or_eq_true (r20) with c24 | c24
      · replace H := condT c24 H
        refine eB c24 ?_
        refine gT rfl rfl (p_fld fl33_1 rfl ?_)
        refine gT rfl rfl (p_ld ty3 (S23.atX (i := 0) rfl) rfl rfl ?_)
        refine gT rfl rfl (p_fld fl33_2 rfl ?_)
        refine gT rfl rfl (p_ld ty3 (S23.atX (i := 0) rfl) rfl rfl ?_)
        refine gT rfl rfl (p_cmp rfl rfl rfl ?_)
        refine p_pkT rfl (rfl : _ = B (decide (a1.From ≤ a1.To))) ?_
        refine p_mB rfl ?_
        rcases Bool.eq_false_or_eq_true (decide (a1.From ≤ a1.To)) with c25 | c25
        · replace H := condT c25 H
          refine eB c25 ?_
          refine gT rfl rfl (p_fld fl33_3 rfl ?_)
          refine gT rfl rfl (p_ld ty3 (S23.atX (i := 0) rfl) rfl rfl ?_)
          obtain ⟨r26, h27, H⟩ := bindS H
          refine gT rfl rfl (p_cv (B_Inside_ok h27) fu40 rfl S23 fun w28 S29 => ?_)
          refine p_pkT rfl (rfl : _ = B r26) ?_
          refine p_mB rfl ?_
          rcases Bool.eq_false_or_eq_true (r26) with c30 | c30
          · replace H := condT c30 H
            refine eB c30 ?_
            refine gT rfl rfl (p_fld fl33_4 rfl ?_)
            refine gT rfl rfl (p_ld ty3 (S29.atX (i := 0) rfl) rfl rfl ?_)
            obtain ⟨r31, h32, H⟩ := bindS H
            refine gT rfl rfl (p_cv (B_Inside_ok h32) fu40 rfl S29 fun w33 S34 => ?_)
            refine p_pkT rfl (rfl : _ = B r31) ?_
            refine p_mB rfl ?_
            rcases Bool.eq_false_or_eq_true (r31) with c35 | c35
            · replace H := condT c35 H
              refine eB c35 ?_
              refine gT rfl rfl (p_fld fl33_5 rfl ?_)
              refine gT rfl rfl (p_ld ty3 (S34.atX (i := 0) rfl) rfl rfl ?_)
              obtain ⟨r36, h37, H⟩ := bindS H
              refine gT rfl rfl (p_cv (B_Inside_ok h37) fu40 rfl S34 fun w38 S39 => ?_)
              refine p_pkT rfl (rfl : _ = B r36) ?_
              refine p_mB rfl ?_
              rcases Bool.eq_false_or_eq_true (r36) with c40 | c40
              · replace H := condT c40 H
                refine eB c40 ?_
                refine gT rfl rfl (p_fld fl33_6 rfl ?_)
                refine gT rfl rfl (p_ld ty3 (S39.atX (i := 0) rfl) rfl rfl ?_)
                obtain ⟨r41, h42, H⟩ := bindS H
                refine gT rfl rfl (p_cv (B_Inside_ok h42) fu40 rfl S39 fun w43 S44 => ?_)
                refine p_pkT rfl (rfl : _ = B r41) ?_
                refine p_mB rfl ?_
                rcases Bool.eq_false_or_eq_true (r41) with c45 | c45
                · replace H := condT c45 H
                  refine eB c45 ?_
                  refine gT rfl rfl (p_fld fl33_0 rfl ?_)
                  refine gT rfl rfl (p_ld ty3 (S44.atX (i := 0) rfl) rfl rfl ?_)
                  refine gT rfl rfl (p_cmp rfl rfl rfl ?_)
                  refine gT rfl rfl (p_mB rfl ?_)
                  rcases Bool.eq_false_or_eq_true ((a1.Who != 1)) with c46 | c46
                  · replace H := condT c46 H
                    refine eB c46 ?_
                    refine gF rfl rfl ?_
                    refine gF rfl rfl ?_
                    refine gF rfl rfl ?_
                    refine gT rfl rfl (p_pkT rfl (rfl : _ = B true) ?_)
                    refine p_pkT rfl (rfl : _ = B true) ?_
                    refine p_aB rfl ?_
                    refine wp_nil ?_
                    obtain rfl := Option.some.inj H
                    refine c_ret ?_; show bodyPostM (Fr none) 0 Tryd.prog Tryd.f82 _ .ret _ _
                    refine ret_of (res1 rfl (rvT (rfl : _ = B true))) ?_
                    exact ⟨_, rfl, rfl, S44.keep⟩
                  · replace H := condF c46 H
                    refine eB c46 ?_
                    refine gT rfl rfl (p_fld fl33_6 rfl ?_)
                    refine gT rfl rfl (p_ld ty3 (S44.atX (i := 0) rfl) rfl rfl ?_)
                    refine gT rfl rfl (p_cmp rfl rfl rfl ?_)
                    refine gT rfl rfl (p_pkF rfl (rfl : _ = B (a1.Over == 0)) ?_)
                    refine p_pkT rfl (rfl : _ = B (a1.Over == 0)) ?_
                    refine p_aB rfl ?_
                    refine wp_nil ?_
                    obtain rfl := Option.some.inj H
                    refine c_ret ?_; show bodyPostM (Fr none) 0 Tryd.prog Tryd.f82 _ .ret _ _
                    refine ret_of (res1 rfl (rvT (rfl : _ = B (a1.Over == 0)))) ?_
                    exact ⟨_, rfl, rfl, S44.keep⟩
                · replace H := condF c45 H
                  refine eB c45 ?_
                  refine gF rfl rfl ?_
                  refine gF rfl rfl ?_
                  refine gF rfl rfl ?_
                  refine gF rfl rfl ?_
                  refine o_guardU rfl rfl ?_
                  refine o_guardU rfl rfl ?_
                  refine o_guardU rfl rfl ?_
                  refine gF rfl rfl ?_
                  refine p_pkF rfl (rfl : _ = B false) ?_
                  refine p_aB rfl ?_
                  refine wp_nil ?_
                  obtain rfl := Option.some.inj H
                  refine c_ret ?_; show bodyPostM (Fr none) 0 Tryd.prog Tryd.f82 _ .ret _ _
                  refine ret_of (res1 rfl (rvT (rfl : _ = B false))) ?_
                  exact ⟨_, rfl, rfl, S44.keep⟩
              · replace H := condF c40 H
                refine eB c40 ?_
                refine gF rfl rfl ?_
                refine gF rfl rfl ?_
                refine gF rfl rfl ?_
                refine p_pkF rfl (rfl : _ = B false) ?_
                refine p_mB rfl ?_
                refine gF rfl rfl ?_
                refine gF rfl rfl ?_
                refine gF rfl rfl ?_
                refine gF rfl rfl ?_
                refine o_guardU rfl rfl ?_
                refine o_guardU rfl rfl ?_
                refine o_guardU rfl rfl ?_
                refine gF rfl rfl ?_
                refine p_pkF rfl (rfl : _ = B false) ?_
                refine p_aB rfl ?_
                refine wp_nil ?_
                obtain rfl := Option.some.inj H
                refine c_ret ?_; show bodyPostM (Fr none) 0 Tryd.prog Tryd.f82 _ .ret _ _
                refine ret_of (res1 rfl (rvT (rfl : _ = B false))) ?_
                exact ⟨_, rfl, rfl, S39.keep⟩
            · replace H := condF c35 H
              refine eB c35 ?_
              refine gF rfl rfl ?_
              refine gF rfl rfl ?_
              refine gF rfl rfl ?_
              refine p_pkF rfl (rfl : _ = B false) ?_
              refine p_mB rfl ?_
              refine gF rfl rfl ?_
              refine gF rfl rfl ?_
              refine gF rfl rfl ?_
              refine p_pkF rfl (rfl : _ = B false) ?_
              refine p_mB rfl ?_
              refine gF rfl rfl ?_
              refine gF rfl rfl ?_
              refine gF rfl rfl ?_
              refine gF rfl rfl ?_
              refine o_guardU rfl rfl ?_
              refine o_guardU rfl rfl ?_
              refine o_guardU rfl rfl ?_
              refine gF rfl rfl ?_
              refine p_pkF rfl (rfl : _ = B false) ?_
              refine p_aB rfl ?_
              refine wp_nil ?_
              obtain rfl := Option.some.inj H
              refine c_ret ?_; show bodyPostM (Fr none) 0 Tryd.prog Tryd.f82 _ .ret _ _
              refine ret_of (res1 rfl (rvT (rfl : _ = B false))) ?_
              exact ⟨_, rfl, rfl, S34.keep⟩
          · replace H := condF c30 H
            refine eB c30 ?_
            refine gF rfl rfl ?_
            refine gF rfl rfl ?_
            refine gF rfl rfl ?_
            refine p_pkF rfl (rfl : _ = B false) ?_
            refine p_mB rfl ?_
            refine gF rfl rfl ?_
            refine gF rfl rfl ?_
            refine gF rfl rfl ?_
            refine p_pkF rfl (rfl : _ = B false) ?_
            refine p_mB rfl ?_
            refine gF rfl rfl ?_
            refine gF rfl rfl ?_
            refine gF rfl rfl ?_
            refine p_pkF rfl (rfl : _ = B false) ?_
            refine p_mB rfl ?_
            refine gF rfl rfl ?_
            refine gF rfl rfl ?_
            refine gF rfl rfl ?_
            refine gF rfl rfl ?_
            refine o_guardU rfl rfl ?_
            refine o_guardU rfl rfl ?_
            refine o_guardU rfl rfl ?_
            refine gF rfl rfl ?_
            refine p_pkF rfl (rfl : _ = B false) ?_
            refine p_aB rfl ?_
            refine wp_nil ?_
            obtain rfl := Option.some.inj H
            refine c_ret ?_; show bodyPostM (Fr none) 0 Tryd.prog Tryd.f82 _ .ret _ _
            refine ret_of (res1 rfl (rvT (rfl : _ = B false))) ?_
            exact ⟨_, rfl, rfl, S29.keep⟩
        · replace H := condF c25 H
          refine eB c25 ?_
          refine gF rfl rfl ?_
          refine gF rfl rfl ?_
          refine gF rfl rfl ?_
          refine p_pkF rfl (rfl : _ = B false) ?_
          refine p_mB rfl ?_
          refine gF rfl rfl ?_
          refine gF rfl rfl ?_
          refine gF rfl rfl ?_
          refine p_pkF rfl (rfl : _ = B false) ?_
          refine p_mB rfl ?_
          refine gF rfl rfl ?_
          refine gF rfl rfl ?_
          refine gF rfl rfl ?_
          refine p_pkF rfl (rfl : _ = B false) ?_
          refine p_mB rfl ?_
          refine gF rfl rfl ?_
          refine gF rfl rfl ?_
          refine gF rfl rfl ?_
          refine p_pkF rfl (rfl : _ = B false) ?_
          refine p_mB rfl ?_
          refine gF rfl rfl ?_
          refine gF rfl rfl ?_
          refine gF rfl rfl ?_
          refine gF rfl rfl ?_
          refine o_guardU rfl rfl ?_
          refine o_guardU rfl rfl ?_
          refine o_guardU rfl rfl ?_
          refine gF rfl rfl ?_
          refine p_pkF rfl (rfl : _ = B false) ?_
          refine p_aB rfl ?_
          refine wp_nil ?_
          obtain rfl := Option.some.inj H
          refine c_ret ?_; show bodyPostM (Fr none) 0 Tryd.prog Tryd.f82 _ .ret _ _
          refine ret_of (res1 rfl (rvT (rfl : _ = B false))) ?_
          exact ⟨_, rfl, rfl, S23.keep⟩
      · replace H := condF c24 H
        refine eB c24 ?_
        refine gF rfl rfl ?_
        refine gF rfl rfl ?_
        refine gF rfl rfl ?_
        refine gF rfl rfl ?_
        refine gF rfl rfl ?_
        refine p_pkF rfl (rfl : _ = B false) ?_
        refine p_mB rfl ?_
        refine gF rfl rfl ?_
        refine gF rfl rfl ?_
        refine gF rfl rfl ?_
        refine p_pkF rfl (rfl : _ = B false) ?_
        refine p_mB rfl ?_
        refine gF rfl rfl ?_
        refine gF rfl rfl ?_
        refine gF rfl rfl ?_
        refine p_pkF rfl (rfl : _ = B false) ?_
        refine p_mB rfl ?_
        refine gF rfl rfl ?_
        refine gF rfl rfl ?_
        refine gF rfl rfl ?_
        refine p_pkF rfl (rfl : _ = B false) ?_
        refine p_mB rfl ?_
        refine gF rfl rfl ?_
        refine gF rfl rfl ?_
        refine gF rfl rfl ?_
        refine p_pkF rfl (rfl : _ = B false) ?_
        refine p_mB rfl ?_
        refine gF rfl rfl ?_
        refine gF rfl rfl ?_
        refine gF rfl rfl ?_
        refine gF rfl rfl ?_
        refine o_guardU rfl rfl ?_
        refine o_guardU rfl rfl ?_
        refine o_guardU rfl rfl ?_
        refine gF rfl rfl ?_
        refine p_pkF rfl (rfl : _ = B false) ?_
        refine p_aB rfl ?_
        refine wp_nil ?_
        obtain rfl := Option.some.inj H
        refine c_ret ?_; show bodyPostM (Fr none) 0 Tryd.prog Tryd.f82 _ .ret _ _
        refine ret_of (res1 rfl (rvT (rfl : _ = B false))) ?_
        exact ⟨_, rfl, rfl, S23.keep⟩
    · replace H := condF c19 H
      refine eB c19 ?_
      refine gF rfl rfl ?_
      refine gF rfl rfl ?_
      refine gF rfl rfl ?_
      refine gF rfl rfl ?_
      refine p_pkF rfl (rfl : _ = B false) ?_
      refine p_mB rfl ?_
      refine gF rfl rfl ?_
      refine gF rfl rfl ?_
      refine gF rfl rfl ?_
      refine gF rfl rfl ?_
      refine gF rfl rfl ?_
      refine p_pkF rfl (rfl : _ = B false) ?_
      refine p_mB rfl ?_
      refine gF rfl rfl ?_
      refine gF rfl rfl ?_
      refine gF rfl rfl ?_
      refine p_pkF rfl (rfl : _ = B false) ?_
      refine p_mB rfl ?_
      refine gF rfl rfl ?_
      refine gF rfl rfl ?_
      refine gF rfl rfl ?_
      refine p_pkF rfl (rfl : _ = B false) ?_
      refine p_mB rfl ?_
      refine gF rfl rfl ?_
      refine gF rfl rfl ?_
      refine gF rfl rfl ?_
      refine p_pkF rfl (rfl : _ = B false) ?_
      refine p_mB rfl ?_
      refine gF rfl rfl ?_
      refine gF rfl rfl ?_
      refine gF rfl rfl ?_
      refine p_pkF rfl (rfl : _ = B false) ?_
      refine p_mB rfl ?_
      refine gF rfl rfl ?_
      refine gF rfl rfl ?_
      refine gF rfl rfl ?_
      refine gF rfl rfl ?_
      refine o_guardU rfl rfl ?_
      refine o_guardU rfl rfl ?_
      refine o_guardU rfl rfl ?_
      refine gF rfl rfl ?_
      refine p_pkF rfl (rfl : _ = B false) ?_
      refine p_aB rfl ?_
      refine wp_nil ?_
      obtain rfl := Option.some.inj H
      refine c_ret ?_; show bodyPostM (Fr none) 0 Tryd.prog Tryd.f82 _ .ret _ _
      refine ret_of (res1 rfl (rvT (rfl : _ = B false))) ?_
      exact ⟨_, rfl, rfl, S18.keep⟩
  · replace H := condF c14 H
    refine eB c14 ?_
    refine gF rfl rfl ?_
    refine gF rfl rfl ?_
    refine gF rfl rfl ?_
    refine gF rfl rfl ?_
    refine p_pkF rfl (rfl : _ = B false) ?_
    refine p_mB rfl ?_
    refine gF rfl rfl ?_
    refine gF rfl rfl ?_
    refine gF rfl rfl ?_
    refine gF rfl rfl ?_
    refine p_pkF rfl (rfl : _ = B false) ?_
    refine p_mB rfl ?_
    refine gF rfl rfl ?_
    refine gF rfl rfl ?_
    refine gF rfl rfl ?_
    refine gF rfl rfl ?_
    refine gF rfl rfl ?_
    refine p_pkF rfl (rfl : _ = B false) ?_
    refine p_mB rfl ?_
    refine gF rfl rfl ?_
    refine gF rfl rfl ?_
    refine gF rfl rfl ?_
    refine p_pkF rfl (rfl : _ = B false) ?_
    refine p_mB rfl ?_
    refine gF rfl rfl ?_
    refine gF rfl rfl ?_
    refine gF rfl rfl ?_
    refine p_pkF rfl (rfl : _ = B false) ?_
    refine p_mB rfl ?_
    refine gF rfl rfl ?_
    refine gF rfl rfl ?_
    refine gF rfl rfl ?_
    refine p_pkF rfl (rfl : _ = B false) ?_
    refine p_mB rfl ?_
    refine gF rfl rfl ?_
    refine gF rfl rfl ?_
    refine gF rfl rfl ?_
    refine p_pkF rfl (rfl : _ = B false) ?_
    refine p_mB rfl ?_
    refine gF rfl rfl ?_
    refine gF rfl rfl ?_
    refine gF rfl rfl ?_
    refine gF rfl rfl ?_
    refine o_guardU rfl rfl ?_
    refine o_guardU rfl rfl ?_
    refine o_guardU rfl rfl ?_
    refine gF rfl rfl ?_
    refine p_pkF rfl (rfl : _ = B false) ?_
    refine p_aB rfl ?_
    refine wp_nil ?_
    obtain rfl := Option.some.inj H
    refine c_ret ?_; show bodyPostM (Fr none) 0 Tryd.prog Tryd.f82 _ .ret _ _
    refine ret_of (res1 rfl (rvT (rfl : _ = B false))) ?_
    exact ⟨_, rfl, rfl, S13.keep⟩

def ref_Check_j3 (z_3 : Bool) : Option Int :=
  bif !z_3 then (some 50)
  else (some 0)

def ref_Check_l4 (a0 : TallyBook) (rec_z_2 : (Bool × Int) → Option Int) (z_2 : Bool × Int) : Option Int :=
  bif z_2.1 then (bif decide (z_2.2 < (a0.Counts.length : Int)) then ((getI a0.Counts z_2.2).bind fun r16 =>
  (ref_isCount a0 r16).bind fun r18 =>
  rec_z_2 (r18, wr (z_2.2 + 1)))
  else (ref_Check_j3 z_2.1))
  else (ref_Check_j3 z_2.1)

def ref_Check_j5 (a0 : TallyBook) (z_1 : Bool) : Option Int :=
  loopF (ref_Check_l4 a0) big (z_1, 0)

def ref_Check (a0 : TallyBook) : Option Int :=
  (B_Inside a0.Trips 1 8).bind fun r7 =>
  bif r7 then ((B_Inside a0.Room 0 60).bind fun r12 =>
  bif r12 then (ref_Check_j5 a0 (decide ((a0.Counts.length : Int) ≤ 8)))
  else (ref_Check_j5 a0 false))
  else (ref_Check_j5 a0 false)

set_option maxRecDepth 100000 in
theorem ref_Check_ok {a0 : TallyBook} {A1 : Option Addr} {c2 : Nat} {w : World} {r : Int} (H : ref_Check a0 = some r) (h3 : (rd eTallyCount 7 A1 c2 a0.Counts).ok w) : Calls Tryd.prog 57 #[AG [I a0.Trips, I a0.Room, SL A1 a0.Counts.length c2]] w (RetV w (I r)) := by
  unfold ref_Check at H
  refine fn_of (n := 38) Tryd.func57 rfl rfl (Nat.le_of_ble_eq_true rfl) ?_
  have S : St w (fun _ => False) w [] [rd eTallyCount 7 A1 c2 a0.Counts] := St.start w _ _ (List.forall_mem_cons.2 ⟨h3, (fun _ h_ => (List.not_mem_nil h_).elim)⟩)
  refine c_seq ?_
  refine reg ?_
  refine p_boxA rfl S fun b4 w5 S6 => ?_
  refine p_aI rfl ?_
  refine wp_nil ?_
  refine c_join (α := Bool) (β := Unit) (fun z_1 y_1 => [(1, P b4 0), (3, B z_1)]) (fun z_1 y_1 w_ => ref_Check_j5 a0 z_1 = some r ∧ St w (fun _ => False) w_ [bl b4 [I a0.Trips, I a0.Room, SL A1 a0.Counts.length c2] 24] [rd eTallyCount 7 A1 c2 a0.Counts]) ?_ ?_
  · refine reg ?_
    refine p_fld fl24_0 rfl ?_
    refine p_ld ty3 (S6.atX (i := 0) rfl) rfl rfl ?_
    obtain ⟨r7, h8, H⟩ := bindS H
    refine p_cv (B_Inside_ok h8) fu40 rfl S6 fun w9 S10 => ?_
    refine p_mB rfl ?_
    rcases Bool.eq_false_or_eq_true (r7) with c11 | c11
    · replace H := condT c11 H
      refine eB c11 ?_
      refine gT rfl rfl (p_fld fl24_1 rfl ?_)
      refine gT rfl rfl (p_ld ty3 (S10.atX (i := 0) rfl) rfl rfl ?_)
      obtain ⟨r12, h13, H⟩ := bindS H
      refine gT rfl rfl (p_cv (B_Inside_ok h13) fu40 rfl S10 fun w14 S15 => ?_)
      refine p_pkT rfl (rfl : _ = B r12) ?_
      refine p_mB rfl ?_
      rcases Bool.eq_false_or_eq_true (r12) with c16 | c16
      · replace H := condT c16 H
        refine eB c16 ?_
        refine gT rfl rfl (p_fld fl24_2 rfl ?_)
        refine gT rfl rfl (p_ld ty22 (S15.atX (i := 0) rfl) rfl rfl ?_)
        refine gT rfl rfl (p_len rfl sc22 ?_)
        refine gT rfl rfl (p_cmp rfl rfl rfl ?_)
        refine p_pkT rfl (rfl : _ = B (decide ((a0.Counts.length : Int) ≤ 8))) ?_
        refine p_aB rfl ?_
        refine wp_nil ?_
        exact ⟨decide ((a0.Counts.length : Int) ≤ 8), (), _, rfl, ⟨rfl, rfl, trivial⟩, H, S15⟩
      · replace H := condF c16 H
        refine eB c16 ?_
        refine gF rfl rfl ?_
        refine gF rfl rfl ?_
        refine gF rfl rfl ?_
        refine gF rfl rfl ?_
        refine p_pkF rfl (rfl : _ = B false) ?_
        refine p_aB rfl ?_
        refine wp_nil ?_
        exact ⟨false, (), _, rfl, ⟨rfl, rfl, trivial⟩, H, S15⟩
    · replace H := condF c11 H
      refine eB c11 ?_
      refine gF rfl rfl ?_
      refine gF rfl rfl ?_
      refine gF rfl rfl ?_
      refine p_pkF rfl (rfl : _ = B false) ?_
      refine p_mB rfl ?_
      refine gF rfl rfl ?_
      refine gF rfl rfl ?_
      refine gF rfl rfl ?_
      refine gF rfl rfl ?_
      refine p_pkF rfl (rfl : _ = B false) ?_
      refine p_aB rfl ?_
      refine wp_nil ?_
      exact ⟨false, (), _, rfl, ⟨rfl, rfl, trivial⟩, H, S10⟩
  · intro z_1 y_1 e7 w8 S9; obtain ⟨H, S9⟩ := S9
    unfold ref_Check_j5 at H
    refine c_join (α := Bool) (β := Unit) (fun z_3 y_3 => [(3, B z_3)]) (fun z_3 y_3 w_ => ref_Check_j3 z_3 = some r ∧ St w (fun _ => False) w_ [bl b4 [I a0.Trips, I a0.Room, SL A1 a0.Counts.length c2] 24] [rd eTallyCount 7 A1 c2 a0.Counts]) ?_ ?_
    · refine c_seq ?_
      refine reg ?_
      refine p_aI rfl ?_
      refine wp_nil ?_
      refine c_block ?_
      refine c_lop (α := Bool × Int) (β := Unit) (ref_Check_l4 a0) (fun z_2 y_2 => [(1, P b4 0), (3, B z_2.1), (4, I z_2.2)]) (fun z_2 y_2 w_ => St w (fun _ => False) w_ [bl b4 [I a0.Trips, I a0.Room, SL A1 a0.Counts.length c2] 24] [rd eTallyCount 7 A1 c2 a0.Counts]) (z_1, 0) () H ⟨rfl, rfl, rfl, trivial⟩ S9 ?_
      intro m10 z_2 y_2 e11 w12 H S13
      unfold ref_Check_l4 at H
      refine c_seq ?_
      refine c_seq ?_
      refine reg ?_
      refine p_mB rfl ?_
      refine p_mB rfl ?_
      rcases Bool.eq_false_or_eq_true (z_2.1) with c14 | c14
      · replace H := condT c14 H
        refine eB c14 ?_
        refine gT rfl rfl (p_mI rfl ?_)
        refine gT rfl rfl (p_fld fl24_2 rfl ?_)
        refine gT rfl rfl (p_ld ty22 (S13.atX (i := 0) rfl) rfl rfl ?_)
        refine gT rfl rfl (p_len rfl sc22 ?_)
        refine gT rfl rfl (p_cmp rfl rfl rfl ?_)
        refine p_pkT rfl (rfl : _ = B (decide (z_2.2 < (a0.Counts.length : Int)))) ?_
        refine wp_nil ?_
        refine c_cond rfl (fun c15 => ?_) (fun c15 => ?_)
        · replace H := condT c15 H
          refine c_skip ?_
          refine c_seq ?_
          refine c_block ?_
          obtain ⟨r16, h17, H⟩ := bindS H
          obtain ⟨r18, h19, H⟩ := bindS H
          refine reg_q mixed 8 (by kernel_rfl) ?_
          refine dS (fun _ k_ => p_ldA ty24 sz24 (Asr.stays (S13.atX (i := 0) rfl) k_) rfl rfl dn) ?_
          refine dS (fun _ k_ => p_fld fl24_2 rfl dn) ?_
          refine dS (fun _ k_ => p_ld ty22 (Asr.stays (S13.atX (i := 0) rfl) k_) rfl rfl dn) ?_
          refine dS (fun _ k_ => p_mI rfl dn) ?_
          refine dS (fun _ k_ => p_ixE sc22 h17 (Asr.stays (S13.atP (i := 0) rfl) k_).1 rfl rfl rfl dn) ?_
          refine dS (fun _ k_ => p_ldEA ty33 sz33 rfl h17 (Asr.stays (S13.atP (i := 0) rfl) k_).1 rfl dn) ?_
          refine dS (fun _ k_ => p_cvD (ref_isCount_ok h19 (Asr.stays (S13.atP (i := 0) rfl) k_)) fu82 rfl) ?_
          refine dS (fun _ k_ => p_aB rfl dn) ?_
          intro w20 k21; have S22 := S13.call k21
          refine wp_nil ?_
          refine reg ?_
          refine p_mI rfl ?_
          refine p_add rfl rfl ?_
          refine p_aI rfl ?_
          refine wp_nil ?_
          exact ⟨(r18, wr (z_2.2 + 1)), (), _, rfl, ⟨rfl, rfl, rfl, trivial⟩, H, S22⟩
        · replace H := condF c15 H
          refine c_exit ?_
          exact ⟨z_2.1, (), _, rfl, ⟨rfl, trivial⟩, H, S13⟩
      · replace H := condF c14 H
        refine eB c14 ?_
        refine gF rfl rfl ?_
        refine gF rfl rfl ?_
        refine gF rfl rfl ?_
        refine gF rfl rfl ?_
        refine gF rfl rfl ?_
        refine p_pkF rfl (rfl : _ = B false) ?_
        refine wp_nil ?_
        refine c_false rfl ?_
        refine c_exit ?_
        exact ⟨z_2.1, (), _, rfl, ⟨rfl, trivial⟩, H, S13⟩
    · intro z_3 y_3 e10 w11 S12; obtain ⟨H, S12⟩ := S12
      unfold ref_Check_j3 at H
      refine c_seq ?_
      refine c_seq ?_
      refine reg ?_
      refine p_mB rfl ?_
      refine p_not rfl ?_
      refine wp_nil ?_
      refine c_cond rfl (fun c13 => ?_) (fun c13 => ?_)
      · replace H := condT c13 H
        refine c_seq ?_
        refine reg ?_
        refine p_aI rfl ?_
        refine wp_nil ?_
        obtain rfl := Option.some.inj H
        refine c_ret ?_; show bodyPostM (Fr none) 0 Tryd.prog Tryd.f57 _ .ret _ _
        refine ret_of (res1 rfl (rvT (rfl : _ = I 50))) ?_
        exact ⟨_, rfl, rfl, S12.keep⟩
      · replace H := condF c13 H
        refine c_skip ?_
        refine c_seq ?_
        refine reg ?_
        refine p_aI rfl ?_
        refine wp_nil ?_
        obtain rfl := Option.some.inj H
        refine c_ret ?_; show bodyPostM (Fr none) 0 Tryd.prog Tryd.f57 _ .ret _ _
        refine ret_of (res1 rfl (rvT (rfl : _ = I 0))) ?_
        exact ⟨_, rfl, rfl, S12.keep⟩

def B_Range (a0 : Int) (a1 : Int) : Option Span :=
  some (Span.mk a0 a1)

set_option maxRecDepth 100000 in
theorem B_Range_ok {a0 : Int} {a1 : Int} {w : World} {r : Span} (H : B_Range a0 a1 = some r) : Calls Tryd.prog 41 #[I a0, I a1] w (RetV w (AG [I r.Low, I r.High])) := by
  unfold B_Range at H
  refine fn_of (n := 8) Tryd.func41 rfl rfl (Nat.le_of_ble_eq_true rfl) ?_
  have S : St w (fun _ => False) w [] [] := St.start w _ _ (fun _ h_ => (List.not_mem_nil h_).elim)
  refine c_seq ?_
  refine reg ?_
  refine p_allA in49 S fun b1 w2 S3 => ?_
  refine wp_nil ?_
  refine c_seq ?_
  refine reg ?_
  refine p_mI rfl ?_
  refine p_mI rfl ?_
  refine p_bld (cs := [I a0, I a1]) st49 (rfl : _ = [(0, I a0), (1, I a1)]) (by kernel_rfl) ?_
  refine p_stP (pre := []) (old := [I 0, I 0]) (post := []) (vs := [I a0, I a1]) sz49 S3 (i := 0) rfl rfl rfl rfl (rfl : _ = AG [I a0, I a1]) rfl rfl rfl rfl fun w4 S5 => ?_
  refine wp_nil ?_
  obtain rfl := Option.some.inj H
  refine c_ret ?_; show bodyPostM (Fr none) 0 Tryd.prog Tryd.f41 _ .ret _ _
  refine ret_of (res1 rfl (rvA rfl ty49 sz49 (S5.atX (i := 0) rfl) rfl)) ?_
  exact ⟨_, rfl, rfl, S5.keep⟩

def ref_span (a0 : TallyCount) : Option Span :=
  (B_Range (wr ((wr (a0.Told * a0.Unit)) - a0.Over)) (wr ((wr (a0.Told * a0.Unit)) + a0.Under))).bind fun r7 =>
  some r7

set_option maxRecDepth 100000 in
theorem ref_span_ok {a0 : TallyCount} {w : World} {r : Span} (H : ref_span a0 = some r) : Calls Tryd.prog 86 #[AG [I a0.Who, I a0.From, I a0.To, I a0.Told, I a0.Unit, I a0.Under, I a0.Over]] w (RetV w (AG [I r.Low, I r.High])) := by
  unfold ref_span at H
  refine fn_of (n := 18) Tryd.func86 rfl rfl (Nat.le_of_ble_eq_true rfl) ?_
  have S : St w (fun _ => False) w [] [] := St.start w _ _ (fun _ h_ => (List.not_mem_nil h_).elim)
  refine c_seq ?_
  refine reg ?_
  refine p_boxA rfl S fun b1 w2 S3 => ?_
  refine p_allA in49 S3 fun b4 w5 S6 => ?_
  refine wp_nil ?_
  refine c_seq ?_
  refine reg ?_
  refine p_fld fl33_3 rfl ?_
  refine p_ld ty3 (S6.atX (i := 1) rfl) rfl rfl ?_
  refine p_fld fl33_4 rfl ?_
  refine p_ld ty3 (S6.atX (i := 1) rfl) rfl rfl ?_
  refine p_mul rfl rfl ?_
  refine p_aI rfl ?_
  refine wp_nil ?_
  refine c_seq ?_
  refine reg ?_
  refine p_mI rfl ?_
  refine p_fld fl33_6 rfl ?_
  refine p_ld ty3 (S6.atX (i := 1) rfl) rfl rfl ?_
  refine p_sub rfl rfl ?_
  refine p_mI rfl ?_
  refine p_fld fl33_5 rfl ?_
  refine p_ld ty3 (S6.atX (i := 1) rfl) rfl rfl ?_
  refine p_add rfl rfl ?_
  obtain ⟨r7, h8, H⟩ := bindS H
  refine p_cv (B_Range_ok h8) fu41 rfl S6 fun w9 S10 => ?_
  refine p_stP (pre := []) (old := [I 0, I 0]) (post := []) (vs := [I r7.Low, I r7.High]) sz49 S10 (i := 0) rfl rfl rfl rfl (rfl : _ = AG [I r7.Low, I r7.High]) rfl rfl rfl rfl fun w11 S12 => ?_
  refine wp_nil ?_
  obtain rfl := Option.some.inj H
  refine c_ret ?_; show bodyPostM (Fr none) 0 Tryd.prog Tryd.f86 _ .ret _ _
  refine ret_of (res1 rfl (rvA rfl ty49 sz49 (S12.atX (i := 0) rfl) rfl)) ?_
  exact ⟨_, rfl, rfl, S12.keep⟩

def ref_most_j70 (z_2 : (List Int) × Int) (rec_z_2 : ((List Int) × Int) → Option ((List (List Int)) × Bool)) (z_3 : Int) : Option ((List (List Int)) × Bool) :=
  need (fitsL (z_2.1.length + ([z_3] : List Int).length) 8) <|
  rec_z_2 (z_2.1 ++ ([z_3] : List Int), wr (z_2.2 + 1))

def ref_most_l71 (a0 : TallyBook) (z_1 : (List (List Int)) × Int) (rec_z_1 : ((List (List Int)) × Int) → Option ((List (List Int)) × Bool)) (rec_z_2 : ((List Int) × Int) → Option ((List (List Int)) × Bool)) (z_2 : (List Int) × Int) : Option ((List (List Int)) × Bool) :=
  bif decide (z_2.2 ≤ a0.Trips) then (bif (z_2.2 == z_1.2) then (ref_most_j70 z_2 rec_z_2 0)
  else (bif (z_2.2 == (wr (z_1.2 + 1))) then (ref_most_j70 z_2 rec_z_2 a0.Room)
  else (bif (z_2.2 == (wr (z_1.2 - 1))) then (ref_most_j70 z_2 rec_z_2 0)
  else (ref_most_j70 z_2 rec_z_2 481))))
  else (need (fitsL (z_1.1.length + ([z_2.1] : List (List Int)).length) 24) <|
  rec_z_1 (z_1.1 ++ ([z_2.1] : List (List Int)), wr (z_1.2 + 1)))

def ref_most_l82 (a0 : TallyBook) (z_6 : (List (List Int)) × Int) (z_5 : (List (List Int)) × Int) (rec_z_6 : ((List (List Int)) × Int) → Option ((List (List Int)) × Bool)) (rec_z_7 : ((List (List Int)) × Int) → Option ((List (List Int)) × Bool)) (z_7 : (List (List Int)) × Int) : Option ((List (List Int)) × Bool) :=
  bif decide (z_7.2 ≤ a0.Trips) then ((getI z_7.1 z_6.2).bind fun r111 =>
  (getI z_7.1 z_6.2).bind fun r115 =>
  (getI r115 z_7.2).bind fun r119 =>
  (getI z_7.1 z_6.2).bind fun r121 =>
  (getI r121 z_5.2).bind fun r125 =>
  (getI z_7.1 z_5.2).bind fun r127 =>
  (getI r127 z_7.2).bind fun r131 =>
  (getI r111 z_7.2).bind fun r133 =>
  rec_z_7 (z_7.1.set z_6.2.toNat (r111.set z_7.2.toNat (if (wr (r125 + r131)) < r119 then (wr (r125 + r131)) else r119)), wr (z_7.2 + 1)))
  else (rec_z_6 (z_7.1, wr (z_6.2 + 1)))

def ref_most_l83 (a0 : TallyBook) (z_5 : (List (List Int)) × Int) (rec_z_5 : ((List (List Int)) × Int) → Option ((List (List Int)) × Bool)) (rec_z_6 : ((List (List Int)) × Int) → Option ((List (List Int)) × Bool)) (z_6 : (List (List Int)) × Int) : Option ((List (List Int)) × Bool) :=
  bif decide (z_6.2 ≤ a0.Trips) then (loopF (ref_most_l82 a0 z_6 z_5 rec_z_6) big (z_6.1, 0))
  else (rec_z_5 (z_6.1, wr (z_5.2 + 1)))

def ref_most_l84 (a0 : TallyBook) (z_5 : (List (List Int)) × Int) (rec_z_8 : Int → Option ((List (List Int)) × Bool)) (z_8 : Int) : Option ((List (List Int)) × Bool) :=
  bif decide (z_8 ≤ a0.Trips) then ((getI z_5.1 z_8).bind fun r147 =>
  (getI r147 z_8).bind fun r151 =>
  bif decide (r151 < 0) then (some (z_5.1, false))
  else (rec_z_8 (wr (z_8 + 1))))
  else (some (z_5.1, true))

def ref_most_l85 (a0 : TallyBook) (rec_z_5 : ((List (List Int)) × Int) → Option ((List (List Int)) × Bool)) (z_5 : (List (List Int)) × Int) : Option ((List (List Int)) × Bool) :=
  bif decide (z_5.2 ≤ a0.Trips) then (loopF (ref_most_l83 a0 z_5 rec_z_5) big (z_5.1, 0))
  else (loopF (ref_most_l84 a0 z_5) big 0)

def ref_most_l86 (a0 : TallyBook) (rec_z_4 : ((List (List Int)) × Int) → Option ((List (List Int)) × Bool)) (z_4 : (List (List Int)) × Int) : Option ((List (List Int)) × Bool) :=
  bif decide (z_4.2 < (a0.Counts.length : Int)) then ((getI a0.Counts z_4.2).bind fun r41 =>
  (ref_span r41).bind fun r48 =>
  (getI z_4.1 r41.From).bind fun r57 =>
  (getI z_4.1 r41.From).bind fun r61 =>
  (getI r61 (wr (r41.To + 1))).bind fun r65 =>
  (getI r57 (wr (r41.To + 1))).bind fun r67 =>
  (getI (z_4.1.set r41.From.toNat (r57.set (wr (r41.To + 1)).toNat (if r48.High < r65 then r48.High else r65))) (wr (r41.To + 1))).bind fun r76 =>
  (getI (z_4.1.set r41.From.toNat (r57.set (wr (r41.To + 1)).toNat (if r48.High < r65 then r48.High else r65))) (wr (r41.To + 1))).bind fun r80 =>
  (getI r80 r41.From).bind fun r84 =>
  (getI r76 r41.From).bind fun r86 =>
  rec_z_4 ((z_4.1.set r41.From.toNat (r57.set (wr (r41.To + 1)).toNat (if r48.High < r65 then r48.High else r65))).set (wr (r41.To + 1)).toNat (r76.set r41.From.toNat (if (wr (-r48.Low)) < r84 then (wr (-r48.Low)) else r84)), wr (z_4.2 + 1)))
  else (loopF (ref_most_l85 a0) big (z_4.1, 0))

def ref_most_l87 (a0 : TallyBook) (rec_z_1 : ((List (List Int)) × Int) → Option ((List (List Int)) × Bool)) (z_1 : (List (List Int)) × Int) : Option ((List (List Int)) × Bool) :=
  bif decide (z_1.2 ≤ a0.Trips) then (loopF (ref_most_l71 a0 z_1 rec_z_1) big (([] : List Int), 0))
  else (loopF (ref_most_l86 a0) big (z_1.1, 0))

def ref_most (a0 : TallyBook) : Option ((List (List Int)) × Bool) :=
  loopF (ref_most_l87 a0) big (([] : List (List Int)), 0)

set_option maxRecDepth 100000 in
theorem ref_most_ok {a0 : TallyBook} {A1 : Option Addr} {c2 : Nat} {w : World} {r : (List (List Int)) × Bool} (H : ref_most a0 = some r) (h3 : (rd eTallyCount 7 A1 c2 a0.Counts).ok w) : Calls Tryd.prog 81 #[AG [I a0.Trips, I a0.Room, SL A1 a0.Counts.length c2]] w fun en w_ => ∃ u_, en = .returned u_ ∧ ∃ A_1 : Option Addr, ∃ c_2 : Nat, ∃ l_3 : List RowH, u_ = TU [SL A_1 l_3.length c_2, B r.2] ∧ Keep0 w w_ ∧ ((rd rowN 1 A_1 c_2 l_3).ok w_ ∧ New w.heap.size (rd rowN 1 A_1 c_2 l_3)) ∧ ((ri rowI l_3 r.1).ok w_ ∧ New w.heap.size (ri rowI l_3 r.1)) ∧ True := by
  unfold ref_most at H
  refine fn_of (n := 174) Tryd.func81 rfl rfl (Nat.le_of_ble_eq_true rfl) ?_
  have S : St w (fun _ => False) w [] [rd eTallyCount 7 A1 c2 a0.Counts] := St.start w _ _ (List.forall_mem_cons.2 ⟨h3, (fun _ h_ => (List.not_mem_nil h_).elim)⟩)
  refine c_seq ?_
  refine reg ?_
  refine p_boxA rfl S fun b4 w5 S6 => ?_
  refine p_aS rfl ?_
  refine p_aB rfl ?_
  refine wp_nil ?_
  refine c_seq ?_
  refine reg ?_
  refine p_aI rfl ?_
  refine wp_nil ?_
  refine c_seq ?_
  refine reg ?_
  refine p_aS rfl ?_
  refine wp_nil ?_
  refine c_seq ?_
  refine c_seq ?_
  refine reg ?_
  refine p_aI rfl ?_
  refine wp_nil ?_
  refine c_block ?_
  have S7 := S6.nilRow rowN 1 31
  have S8 := S7.rxNil 3
  refine c_lop (α := (List (List Int)) × Int) (β := (Option Addr) × Nat × (List RowH)) (ref_most_l87 a0) (fun z_1 y_1 => [(1, P b4 0), (4, I 481), (5, SL y_1.1 y_1.2.2.length y_1.2.1), (6, I z_1.2)]) (fun z_1 y_1 w_ => St w (fun _ => False) w_ [rx' 3 y_1.2.2 z_1.1, gr rowN 1 31 y_1.1 y_1.2.1 y_1.2.2, bl b4 [I a0.Trips, I a0.Room, SL A1 a0.Counts.length c2] 24] [rd eTallyCount 7 A1 c2 a0.Counts]) (([] : List (List Int)), 0) (none, 0, ([] : List RowH)) H ⟨rfl, rfl, rfl, rfl, trivial⟩ S8 ?_
  intro m9 z_1 y_1 e10 w11 H S12
  unfold ref_most_l87 at H
  refine c_seq ?_
  refine c_seq ?_
  refine reg ?_
  refine p_mI rfl ?_
  refine p_fld fl24_0 rfl ?_
  refine p_ld ty3 (S12.atX (i := 2) rfl) rfl rfl ?_
  refine p_cmp rfl rfl rfl ?_
  refine wp_nil ?_
  refine c_cond rfl (fun c13 => ?_) (fun c13 => ?_)
  · replace H := condT c13 H
    refine c_skip ?_
    refine c_seq ?_
    refine c_block ?_
    refine c_seq ?_
    refine reg ?_
    refine p_aS rfl ?_
    refine wp_nil ?_
    refine c_seq ?_
    refine c_seq ?_
    refine reg ?_
    refine p_aI rfl ?_
    refine wp_nil ?_
    refine c_block ?_
    have S14 := S12.nilRow intE 1 3
    refine c_lop (α := (List Int) × Int) (β := (Option Addr) × Nat) (ref_most_l71 a0 z_1 (loopF (ref_most_l87 a0) m9)) (fun z_2 y_2 => [(1, P b4 0), (4, I 481), (5, SL y_1.1 y_1.2.2.length y_1.2.1), (6, I z_1.2), (7, SL y_2.1 z_2.1.length y_2.2), (8, I z_2.2)]) (fun z_2 y_2 w_ => St w (fun _ => False) w_ [gr intE 1 3 y_2.1 y_2.2 z_2.1, rx' 3 y_1.2.2 z_1.1, gr rowN 1 31 y_1.1 y_1.2.1 y_1.2.2, bl b4 [I a0.Trips, I a0.Room, SL A1 a0.Counts.length c2] 24] [rd eTallyCount 7 A1 c2 a0.Counts]) (([] : List Int), 0) (none, 0) H ⟨rfl, rfl, rfl, rfl, rfl, rfl, trivial⟩ S14 ?_
    intro m15 z_2 y_2 e16 w17 H S18
    unfold ref_most_l71 at H
    refine c_seq ?_
    refine c_seq ?_
    refine reg ?_
    refine p_mI rfl ?_
    refine p_fld fl24_0 rfl ?_
    refine p_ld ty3 (S18.atX (i := 3) rfl) rfl rfl ?_
    refine p_cmp rfl rfl rfl ?_
    refine wp_nil ?_
    refine c_cond rfl (fun c19 => ?_) (fun c19 => ?_)
    · replace H := condT c19 H
      refine c_skip ?_
      refine c_seq ?_
      refine c_block ?_
      refine c_seq ?_
      refine reg ?_
      refine p_mI rfl ?_
      refine p_aI rfl ?_
      refine wp_nil ?_
      refine c_join (α := Int) (β := Unit) (fun z_3 y_3 => [(1, P b4 0), (4, I 481), (5, SL y_1.1 y_1.2.2.length y_1.2.1), (6, I z_1.2), (7, SL y_2.1 z_2.1.length y_2.2), (8, I z_2.2), (9, I z_3)]) (fun z_3 y_3 w_ => ref_most_j70 z_2 (loopF (ref_most_l71 a0 z_1 (loopF (ref_most_l87 a0) m9)) m15) z_3 = some r ∧ St w (fun _ => False) w_ [gr intE 1 3 y_2.1 y_2.2 z_2.1, rx' 3 y_1.2.2 z_1.1, gr rowN 1 31 y_1.1 y_1.2.1 y_1.2.2, bl b4 [I a0.Trips, I a0.Room, SL A1 a0.Counts.length c2] 24] [rd eTallyCount 7 A1 c2 a0.Counts]) ?_ ?_
      · refine c_seq ?_
        refine reg ?_
        refine p_mI rfl ?_
        refine wp_nil ?_
        refine c_block ?_
        refine c_seq ?_
        refine reg ?_
        refine p_mI rfl ?_
        refine p_cmp rfl rfl rfl ?_
        refine p_aB rfl ?_
        refine wp_nil ?_
        refine c_cond rfl (fun c20 => ?_) (fun c20 => ?_)
        · replace H := condT c20 H
          refine reg ?_
          refine p_aI rfl ?_
          refine wp_nil ?_
          exact ⟨0, (), _, rfl, ⟨rfl, rfl, rfl, rfl, rfl, rfl, rfl, trivial⟩, H, S18⟩
        · replace H := condF c20 H
          refine c_seq ?_
          refine reg ?_
          refine p_mI rfl ?_
          refine p_add rfl rfl ?_
          refine p_cmp rfl rfl rfl ?_
          refine p_aB rfl ?_
          refine wp_nil ?_
          refine c_cond rfl (fun c21 => ?_) (fun c21 => ?_)
          · replace H := condT c21 H
            refine reg ?_
            refine p_fld fl24_1 rfl ?_
            refine p_ld ty3 (S18.atX (i := 3) rfl) rfl rfl ?_
            refine p_aI rfl ?_
            refine wp_nil ?_
            exact ⟨a0.Room, (), _, rfl, ⟨rfl, rfl, rfl, rfl, rfl, rfl, rfl, trivial⟩, H, S18⟩
          · replace H := condF c21 H
            refine c_seq ?_
            refine reg ?_
            refine p_mI rfl ?_
            refine p_sub rfl rfl ?_
            refine p_cmp rfl rfl rfl ?_
            refine p_aB rfl ?_
            refine wp_nil ?_
            refine c_cond rfl (fun c22 => ?_) (fun c22 => ?_)
            · replace H := condT c22 H
              refine reg ?_
              refine p_aI rfl ?_
              refine wp_nil ?_
              exact ⟨0, (), _, rfl, ⟨rfl, rfl, rfl, rfl, rfl, rfl, rfl, trivial⟩, H, S18⟩
            · replace H := condF c22 H
              refine c_skip ?_
              exact ⟨481, (), _, rfl, ⟨rfl, rfl, rfl, rfl, rfl, rfl, rfl, trivial⟩, H, S18⟩
      · intro z_3 y_3 e20 w21 S22; obtain ⟨H, S22⟩ := S22
        unfold ref_most_j70 at H
        refine reg ?_
        refine p_mS rfl ?_
        refine p_mI rfl ?_
        refine p_bsl (enc := intE) (l := ([z_3] : List Int)) I (fun _ => rfl) sc31 in3 intE_len rfl (by decide) (by decide) zr3_1 S22 rfl fun A23 c24 w25 S26 => ?_
        obtain ⟨h32, H⟩ := needS H
        refine p_app (enc := intE) sc31 in3 rfl intE_len intE_one (by decide) S26 (k := 1) rfl (gr_sl intE_len (S26.atX (i := 0) rfl)) h32 (by simp) rfl rfl fun A30 c31 w28 S29 => ?_
        refine p_aS rfl ?_
        refine wp_nil ?_
        refine reg ?_
        refine p_mI rfl ?_
        refine p_add rfl rfl ?_
        refine p_aI rfl ?_
        refine wp_nil ?_
        have S33 := S29.pk [1, 2, 3, 4] (by decide) [0] rfl rfl
        exact ⟨(z_2.1 ++ ([z_3] : List Int), wr (z_2.2 + 1)), (A30, c31), _, rfl, ⟨rfl, rfl, rfl, rfl, rfl, rfl, trivial⟩, H, S33⟩
    · replace H := condF c19 H
      refine c_exit ?_
      refine reg ?_
      refine p_mS rfl ?_
      refine p_mS rfl ?_
      refine p_bsl (enc := rowN) (l := ([(z_2.1, y_2.1, y_2.2)] : List RowH)) (fun h : RowH => SL h.2.1 h.1.length h.2.2) (fun _ => rfl) sc104 in31 rowN_len rfl (by decide) (by decide) zr31_1 S18 rfl fun A23 c24 w25 S26 => ?_
      have S28 := S26.rxOne (i := 1) rfl
      obtain ⟨h33, H⟩ := needS H
      refine p_app (enc := rowN) sc104 in31 rfl rowN_len rowN_one (by decide) S28 (k := 3) rfl (gr_sl rowN_len (S28.atX (i := 0) rfl)) (fits_ri h33 (congr (congrArg HAdd.hAdd (rx_len (S28.atX (i := 2) rfl))) (rx_len (S28.atX (i := 1) rfl)))) (by simp) rfl rfl fun A31 c32 w29 S30 => ?_
      have S34 := S30.rxApp (j := 2) (i := 1) rfl rfl (by decide)
      refine p_aS rfl ?_
      refine wp_nil ?_
      refine reg ?_
      refine p_mI rfl ?_
      refine p_add rfl rfl ?_
      refine p_aI rfl ?_
      refine wp_nil ?_
      have S35 := S34.pk [1, 2, 3] (by decide) [0] rfl rfl
      exact ⟨(z_1.1 ++ ([z_2.1] : List (List Int)), wr (z_1.2 + 1)), (A31, c32, y_1.2.2 ++ ([(z_2.1, y_2.1, y_2.2)] : List RowH)), _, rfl, ⟨rfl, rfl, rfl, rfl, trivial⟩, H, S35⟩
  · replace H := condF c13 H
    refine c_exit ?_
    refine c_seq ?_
    refine c_seq ?_
    refine reg ?_
    refine p_aI rfl ?_
    refine wp_nil ?_
    refine c_block ?_
    refine c_lop (α := (List (List Int)) × Int) (β := (Option Addr) × Nat × (List RowH)) (ref_most_l86 a0) (fun z_4 y_4 => [(1, P b4 0), (5, SL y_4.1 y_4.2.2.length y_4.2.1), (10, I z_4.2)]) (fun z_4 y_4 w_ => St w (fun _ => False) w_ [rx' 3 y_4.2.2 z_4.1, gr rowN 1 31 y_4.1 y_4.2.1 y_4.2.2, bl b4 [I a0.Trips, I a0.Room, SL A1 a0.Counts.length c2] 24] [rd eTallyCount 7 A1 c2 a0.Counts]) (z_1.1, 0) (y_1.1, y_1.2.1, y_1.2.2) H ⟨rfl, rfl, rfl, trivial⟩ S12 ?_
    intro m36 z_4 y_4 e37 w38 H S39
    unfold ref_most_l86 at H
    refine c_seq ?_
    refine c_seq ?_
    refine reg ?_
    refine p_mI rfl ?_
    refine p_fld fl24_2 rfl ?_
    refine p_ld ty22 (S39.atX (i := 2) rfl) rfl rfl ?_
    refine p_len rfl sc22 ?_
    refine p_cmp rfl rfl rfl ?_
    refine wp_nil ?_
    refine c_cond rfl (fun c40 => ?_) (fun c40 => ?_)
    · replace H := condT c40 H
      refine c_skip ?_
      refine c_seq ?_
      refine c_block ?_
      refine c_seq ?_
      refine reg ?_
      refine p_fld fl24_2 rfl ?_
      refine p_ld ty22 (S39.atX (i := 2) rfl) rfl rfl ?_
      refine p_mI rfl ?_
      obtain ⟨r41, h42, H⟩ := bindS H
      refine p_ixE sc22 h42 (S39.atP (i := 0) rfl).1 rfl rfl rfl ?_
      refine p_ldEA ty33 sz33 rfl h42 (S39.atP (i := 0) rfl).1 rfl ?_
      refine p_allA in33 S39 fun b43 w44 S45 => ?_
      refine p_stP (pre := []) (old := [I 0, I 0, I 0, I 0, I 0, I 0, I 0]) (post := []) (vs := [I r41.Who, I r41.From, I r41.To, I r41.Told, I r41.Unit, I r41.Under, I r41.Over]) sz33 S45 (i := 0) rfl rfl rfl rfl (rfl : _ = AG [I r41.Who, I r41.From, I r41.To, I r41.Told, I r41.Unit, I r41.Under, I r41.Over]) rfl rfl rfl rfl fun w46 S47 => ?_
      refine wp_nil ?_
      refine c_seq ?_
      refine reg ?_
      refine p_ldA ty33 sz33 (S47.atX (i := 0) rfl) rfl rfl ?_
      obtain ⟨r48, h49, H⟩ := bindS H
      refine p_cv (ref_span_ok h49) fu86 rfl S47 fun w50 S51 => ?_
      refine p_allA in49 S51 fun b52 w53 S54 => ?_
      refine p_stP (pre := []) (old := [I 0, I 0]) (post := []) (vs := [I r48.Low, I r48.High]) sz49 S54 (i := 0) rfl rfl rfl rfl (rfl : _ = AG [I r48.Low, I r48.High]) rfl rfl rfl rfl fun w55 S56 => ?_
      refine wp_nil ?_
      refine c_seq ?_
      obtain ⟨r57, h58, H⟩ := bindS H
      obtain ⟨d59, h60⟩ := rx_at (S56.atX (i := 2) rfl) h58
      obtain ⟨r61, h62, H⟩ := bindS H
      obtain ⟨d63, h64⟩ := rx_at (S56.atX (i := 2) rfl) h62
      obtain ⟨r65, h66, H⟩ := bindS H
      obtain ⟨r67, h68, H⟩ := bindS H
      refine reg_q mixed 22 (by kernel_rfl) ?_
      refine dS (fun _ k_ => p_mS rfl dn) ?_
      refine dS (fun _ k_ => p_fld fl33_1 rfl dn) ?_
      refine dS (fun _ k_ => p_ld ty3 (Asr.stays (S56.atX (i := 1) rfl) k_) rfl rfl dn) ?_
      refine dS (fun _ k_ => p_ixE sc104 h60 (gr_sl rowN_len (Asr.stays (S56.atX (i := 3) rfl) k_)) rfl rfl rfl dn) ?_
      refine dS (fun _ k_ => p_ldE ty31 h60 (gr_sl rowN_len (Asr.stays (S56.atX (i := 3) rfl) k_)) rfl rfl dn) ?_
      refine dS (fun _ k_ => p_fld fl33_2 rfl dn) ?_
      refine dS (fun _ k_ => p_ld ty3 (Asr.stays (S56.atX (i := 1) rfl) k_) rfl rfl dn) ?_
      refine dS (fun _ k_ => p_add rfl rfl dn) ?_
      refine dS (fun _ k_ => p_mS rfl dn) ?_
      refine dS (fun _ k_ => p_fld fl33_1 rfl dn) ?_
      refine dS (fun _ k_ => p_ld ty3 (Asr.stays (S56.atX (i := 1) rfl) k_) rfl rfl dn) ?_
      refine dS (fun _ k_ => p_ixE sc104 h64 (gr_sl rowN_len (Asr.stays (S56.atX (i := 3) rfl) k_)) rfl rfl rfl dn) ?_
      refine dS (fun _ k_ => p_ldE ty31 h64 (gr_sl rowN_len (Asr.stays (S56.atX (i := 3) rfl) k_)) rfl rfl dn) ?_
      refine dS (fun _ k_ => p_fld fl33_2 rfl dn) ?_
      refine dS (fun _ k_ => p_ld ty3 (Asr.stays (S56.atX (i := 1) rfl) k_) rfl rfl dn) ?_
      refine dS (fun _ k_ => p_add rfl rfl dn) ?_
      refine dS (fun _ k_ => p_ixE sc31 h66 (rx_rd (Asr.stays (S56.atX (i := 2) rfl) k_) h64).1 rfl rfl rfl dn) ?_
      refine dS (fun _ k_ => p_ldE ty3 h66 (rx_rd (Asr.stays (S56.atX (i := 2) rfl) k_) h64).1 rfl rfl dn) ?_
      refine dS (fun _ k_ => p_fld fl49_1 rfl dn) ?_
      refine dS (fun _ k_ => p_ld ty3 (Asr.stays (S56.atX (i := 0) rfl) k_) rfl rfl dn) ?_
      refine dS (fun _ k_ => p_min rfl rfl dn) ?_
      refine dS (fun _ k_ => p_ixE sc31 h68 (rx_rd (Asr.stays (S56.atX (i := 2) rfl) k_) h60).1 rfl rfl rfl dn) ?_
      intro w69 k70; have S71 := S56.call k70
      refine p_stR sz3 S71 (j := 2) (m := 3) rfl rfl h60 h58 h68 rfl rfl fun l72 w74 h73 S75 => ?_
      rw [← h73]
      refine wp_nil ?_
      obtain ⟨r76, h77, H⟩ := bindS H
      obtain ⟨d78, h79⟩ := rx_at (S75.atX (i := 2) rfl) h77
      obtain ⟨r80, h81, H⟩ := bindS H
      obtain ⟨d82, h83⟩ := rx_at (S75.atX (i := 2) rfl) h81
      obtain ⟨r84, h85, H⟩ := bindS H
      obtain ⟨r86, h87, H⟩ := bindS H
      refine reg_q mixed 23 (by kernel_rfl) ?_
      refine dS (fun _ k_ => p_mS rfl dn) ?_
      refine dS (fun _ k_ => p_fld fl33_2 rfl dn) ?_
      refine dS (fun _ k_ => p_ld ty3 (Asr.stays (S75.atX (i := 1) rfl) k_) rfl rfl dn) ?_
      refine dS (fun _ k_ => p_add rfl rfl dn) ?_
      refine dS (fun _ k_ => p_ixE sc104 h79 (gr_sl rowN_len (Asr.stays (S75.atX (i := 3) rfl) k_)) rfl rfl rfl dn) ?_
      refine dS (fun _ k_ => p_ldE ty31 h79 (gr_sl rowN_len (Asr.stays (S75.atX (i := 3) rfl) k_)) rfl rfl dn) ?_
      refine dS (fun _ k_ => p_fld fl33_1 rfl dn) ?_
      refine dS (fun _ k_ => p_ld ty3 (Asr.stays (S75.atX (i := 1) rfl) k_) rfl rfl dn) ?_
      refine dS (fun _ k_ => p_mS rfl dn) ?_
      refine dS (fun _ k_ => p_fld fl33_2 rfl dn) ?_
      refine dS (fun _ k_ => p_ld ty3 (Asr.stays (S75.atX (i := 1) rfl) k_) rfl rfl dn) ?_
      refine dS (fun _ k_ => p_add rfl rfl dn) ?_
      refine dS (fun _ k_ => p_ixE sc104 h83 (gr_sl rowN_len (Asr.stays (S75.atX (i := 3) rfl) k_)) rfl rfl rfl dn) ?_
      refine dS (fun _ k_ => p_ldE ty31 h83 (gr_sl rowN_len (Asr.stays (S75.atX (i := 3) rfl) k_)) rfl rfl dn) ?_
      refine dS (fun _ k_ => p_fld fl33_1 rfl dn) ?_
      refine dS (fun _ k_ => p_ld ty3 (Asr.stays (S75.atX (i := 1) rfl) k_) rfl rfl dn) ?_
      refine dS (fun _ k_ => p_ixE sc31 h85 (rx_rd (Asr.stays (S75.atX (i := 2) rfl) k_) h83).1 rfl rfl rfl dn) ?_
      refine dS (fun _ k_ => p_ldE ty3 h85 (rx_rd (Asr.stays (S75.atX (i := 2) rfl) k_) h83).1 rfl rfl dn) ?_
      refine dS (fun _ k_ => p_fld fl49_0 rfl dn) ?_
      refine dS (fun _ k_ => p_ld ty3 (Asr.stays (S75.atX (i := 0) rfl) k_) rfl rfl dn) ?_
      refine dS (fun _ k_ => p_neg rfl dn) ?_
      refine dS (fun _ k_ => p_min rfl rfl dn) ?_
      refine dS (fun _ k_ => p_ixE sc31 h87 (rx_rd (Asr.stays (S75.atX (i := 2) rfl) k_) h79).1 rfl rfl rfl dn) ?_
      intro w88 k89; have S90 := S75.call k89
      refine p_stR sz3 S90 (j := 2) (m := 3) rfl rfl h79 h77 h87 rfl rfl fun l91 w93 h92 S94 => ?_
      rw [← h92]
      refine wp_nil ?_
      refine reg ?_
      refine p_mI rfl ?_
      refine p_add rfl rfl ?_
      refine p_aI rfl ?_
      refine wp_nil ?_
      have S95 := S94.pk [2, 3, 4] (by decide) [0] rfl rfl
      exact ⟨((z_4.1.set r41.From.toNat (r57.set (wr (r41.To + 1)).toNat (if r48.High < r65 then r48.High else r65))).set (wr (r41.To + 1)).toNat (r76.set r41.From.toNat (if (wr (-r48.Low)) < r84 then (wr (-r48.Low)) else r84)), wr (z_4.2 + 1)), (y_4.1, y_4.2.1, l91), _, rfl, ⟨rfl, rfl, rfl, trivial⟩, H, S95⟩
    · replace H := condF c40 H
      refine c_exit ?_
      refine c_seq ?_
      refine c_seq ?_
      refine reg ?_
      refine p_aI rfl ?_
      refine wp_nil ?_
      refine c_block ?_
      refine c_lop (α := (List (List Int)) × Int) (β := (Option Addr) × Nat × (List RowH)) (ref_most_l85 a0) (fun z_5 y_5 => [(1, P b4 0), (5, SL y_5.1 y_5.2.2.length y_5.2.1), (13, I z_5.2)]) (fun z_5 y_5 w_ => St w (fun _ => False) w_ [rx' 3 y_5.2.2 z_5.1, gr rowN 1 31 y_5.1 y_5.2.1 y_5.2.2, bl b4 [I a0.Trips, I a0.Room, SL A1 a0.Counts.length c2] 24] [rd eTallyCount 7 A1 c2 a0.Counts]) (z_4.1, 0) (y_4.1, y_4.2.1, y_4.2.2) H ⟨rfl, rfl, rfl, trivial⟩ S39 ?_
      intro m96 z_5 y_5 e97 w98 H S99
      unfold ref_most_l85 at H
      refine c_seq ?_
      refine c_seq ?_
      refine reg ?_
      refine p_mI rfl ?_
      refine p_fld fl24_0 rfl ?_
      refine p_ld ty3 (S99.atX (i := 2) rfl) rfl rfl ?_
      refine p_cmp rfl rfl rfl ?_
      refine wp_nil ?_
      refine c_cond rfl (fun c100 => ?_) (fun c100 => ?_)
      · replace H := condT c100 H
        refine c_skip ?_
        refine c_seq ?_
        refine c_block ?_
        refine c_seq ?_
        refine reg ?_
        refine p_aI rfl ?_
        refine wp_nil ?_
        refine c_block ?_
        refine c_lop (α := (List (List Int)) × Int) (β := (Option Addr) × Nat × (List RowH)) (ref_most_l83 a0 z_5 (loopF (ref_most_l85 a0) m96)) (fun z_6 y_6 => [(1, P b4 0), (5, SL y_6.1 y_6.2.2.length y_6.2.1), (13, I z_5.2), (14, I z_6.2)]) (fun z_6 y_6 w_ => St w (fun _ => False) w_ [rx' 3 y_6.2.2 z_6.1, gr rowN 1 31 y_6.1 y_6.2.1 y_6.2.2, bl b4 [I a0.Trips, I a0.Room, SL A1 a0.Counts.length c2] 24] [rd eTallyCount 7 A1 c2 a0.Counts]) (z_5.1, 0) (y_5.1, y_5.2.1, y_5.2.2) H ⟨rfl, rfl, rfl, rfl, trivial⟩ S99 ?_
        intro m101 z_6 y_6 e102 w103 H S104
        unfold ref_most_l83 at H
        refine c_seq ?_
        refine c_seq ?_
        refine reg ?_
        refine p_mI rfl ?_
        refine p_fld fl24_0 rfl ?_
        refine p_ld ty3 (S104.atX (i := 2) rfl) rfl rfl ?_
        refine p_cmp rfl rfl rfl ?_
        refine wp_nil ?_
        refine c_cond rfl (fun c105 => ?_) (fun c105 => ?_)
        · replace H := condT c105 H
          refine c_skip ?_
          refine c_seq ?_
          refine c_block ?_
          refine c_seq ?_
          refine reg ?_
          refine p_aI rfl ?_
          refine wp_nil ?_
          refine c_block ?_
          refine c_lop (α := (List (List Int)) × Int) (β := (Option Addr) × Nat × (List RowH)) (ref_most_l82 a0 z_6 z_5 (loopF (ref_most_l83 a0 z_5 (loopF (ref_most_l85 a0) m96)) m101)) (fun z_7 y_7 => [(1, P b4 0), (5, SL y_7.1 y_7.2.2.length y_7.2.1), (13, I z_5.2), (14, I z_6.2), (15, I z_7.2)]) (fun z_7 y_7 w_ => St w (fun _ => False) w_ [rx' 3 y_7.2.2 z_7.1, gr rowN 1 31 y_7.1 y_7.2.1 y_7.2.2, bl b4 [I a0.Trips, I a0.Room, SL A1 a0.Counts.length c2] 24] [rd eTallyCount 7 A1 c2 a0.Counts]) (z_6.1, 0) (y_6.1, y_6.2.1, y_6.2.2) H ⟨rfl, rfl, rfl, rfl, rfl, trivial⟩ S104 ?_
          intro m106 z_7 y_7 e107 w108 H S109
          unfold ref_most_l82 at H
          refine c_seq ?_
          refine c_seq ?_
          refine reg ?_
          refine p_mI rfl ?_
          refine p_fld fl24_0 rfl ?_
          refine p_ld ty3 (S109.atX (i := 2) rfl) rfl rfl ?_
          refine p_cmp rfl rfl rfl ?_
          refine wp_nil ?_
          refine c_cond rfl (fun c110 => ?_) (fun c110 => ?_)
          · replace H := condT c110 H
            refine c_skip ?_
            refine c_seq ?_
            refine c_block ?_
            obtain ⟨r111, h112, H⟩ := bindS H
            obtain ⟨d113, h114⟩ := rx_at (S109.atX (i := 0) rfl) h112
            obtain ⟨r115, h116, H⟩ := bindS H
            obtain ⟨d117, h118⟩ := rx_at (S109.atX (i := 0) rfl) h116
            obtain ⟨r119, h120, H⟩ := bindS H
            obtain ⟨r121, h122, H⟩ := bindS H
            obtain ⟨d123, h124⟩ := rx_at (S109.atX (i := 0) rfl) h122
            obtain ⟨r125, h126, H⟩ := bindS H
            obtain ⟨r127, h128, H⟩ := bindS H
            obtain ⟨d129, h130⟩ := rx_at (S109.atX (i := 0) rfl) h128
            obtain ⟨r131, h132, H⟩ := bindS H
            obtain ⟨r133, h134, H⟩ := bindS H
            refine reg_q mixed 29 (by kernel_rfl) ?_
            refine dS (fun _ k_ => p_mS rfl dn) ?_
            refine dS (fun _ k_ => p_mI rfl dn) ?_
            refine dS (fun _ k_ => p_ixE sc104 h114 (gr_sl rowN_len (Asr.stays (S109.atX (i := 1) rfl) k_)) rfl rfl rfl dn) ?_
            refine dS (fun _ k_ => p_ldE ty31 h114 (gr_sl rowN_len (Asr.stays (S109.atX (i := 1) rfl) k_)) rfl rfl dn) ?_
            refine dS (fun _ k_ => p_mI rfl dn) ?_
            refine dS (fun _ k_ => p_mS rfl dn) ?_
            refine dS (fun _ k_ => p_mI rfl dn) ?_
            refine dS (fun _ k_ => p_ixE sc104 h118 (gr_sl rowN_len (Asr.stays (S109.atX (i := 1) rfl) k_)) rfl rfl rfl dn) ?_
            refine dS (fun _ k_ => p_ldE ty31 h118 (gr_sl rowN_len (Asr.stays (S109.atX (i := 1) rfl) k_)) rfl rfl dn) ?_
            refine dS (fun _ k_ => p_mI rfl dn) ?_
            refine dS (fun _ k_ => p_ixE sc31 h120 (rx_rd (Asr.stays (S109.atX (i := 0) rfl) k_) h118).1 rfl rfl rfl dn) ?_
            refine dS (fun _ k_ => p_ldE ty3 h120 (rx_rd (Asr.stays (S109.atX (i := 0) rfl) k_) h118).1 rfl rfl dn) ?_
            refine dS (fun _ k_ => p_mS rfl dn) ?_
            refine dS (fun _ k_ => p_mI rfl dn) ?_
            refine dS (fun _ k_ => p_ixE sc104 h124 (gr_sl rowN_len (Asr.stays (S109.atX (i := 1) rfl) k_)) rfl rfl rfl dn) ?_
            refine dS (fun _ k_ => p_ldE ty31 h124 (gr_sl rowN_len (Asr.stays (S109.atX (i := 1) rfl) k_)) rfl rfl dn) ?_
            refine dS (fun _ k_ => p_mI rfl dn) ?_
            refine dS (fun _ k_ => p_ixE sc31 h126 (rx_rd (Asr.stays (S109.atX (i := 0) rfl) k_) h124).1 rfl rfl rfl dn) ?_
            refine dS (fun _ k_ => p_ldE ty3 h126 (rx_rd (Asr.stays (S109.atX (i := 0) rfl) k_) h124).1 rfl rfl dn) ?_
            refine dS (fun _ k_ => p_mS rfl dn) ?_
            refine dS (fun _ k_ => p_mI rfl dn) ?_
            refine dS (fun _ k_ => p_ixE sc104 h130 (gr_sl rowN_len (Asr.stays (S109.atX (i := 1) rfl) k_)) rfl rfl rfl dn) ?_
            refine dS (fun _ k_ => p_ldE ty31 h130 (gr_sl rowN_len (Asr.stays (S109.atX (i := 1) rfl) k_)) rfl rfl dn) ?_
            refine dS (fun _ k_ => p_mI rfl dn) ?_
            refine dS (fun _ k_ => p_ixE sc31 h132 (rx_rd (Asr.stays (S109.atX (i := 0) rfl) k_) h130).1 rfl rfl rfl dn) ?_
            refine dS (fun _ k_ => p_ldE ty3 h132 (rx_rd (Asr.stays (S109.atX (i := 0) rfl) k_) h130).1 rfl rfl dn) ?_
            refine dS (fun _ k_ => p_add rfl rfl dn) ?_
            refine dS (fun _ k_ => p_min rfl rfl dn) ?_
            refine dS (fun _ k_ => p_ixE sc31 h134 (rx_rd (Asr.stays (S109.atX (i := 0) rfl) k_) h114).1 rfl rfl rfl dn) ?_
            intro w135 k136; have S137 := S109.call k136
            refine p_stR sz3 S137 (j := 0) (m := 1) rfl rfl h114 h112 h134 rfl rfl fun l138 w140 h139 S141 => ?_
            rw [← h139]
            refine wp_nil ?_
            refine reg ?_
            refine p_mI rfl ?_
            refine p_add rfl rfl ?_
            refine p_aI rfl ?_
            refine wp_nil ?_
            exact ⟨(z_7.1.set z_6.2.toNat (r111.set z_7.2.toNat (if (wr (r125 + r131)) < r119 then (wr (r125 + r131)) else r119)), wr (z_7.2 + 1)), (y_7.1, y_7.2.1, l138), _, rfl, ⟨rfl, rfl, rfl, rfl, rfl, trivial⟩, H, S141⟩
          · replace H := condF c110 H
            refine c_exit ?_
            refine reg ?_
            refine p_mI rfl ?_
            refine p_add rfl rfl ?_
            refine p_aI rfl ?_
            refine wp_nil ?_
            exact ⟨(z_7.1, wr (z_6.2 + 1)), (y_7.1, y_7.2.1, y_7.2.2), _, rfl, ⟨rfl, rfl, rfl, rfl, trivial⟩, H, S109⟩
        · replace H := condF c105 H
          refine c_exit ?_
          refine reg ?_
          refine p_mI rfl ?_
          refine p_add rfl rfl ?_
          refine p_aI rfl ?_
          refine wp_nil ?_
          exact ⟨(z_6.1, wr (z_5.2 + 1)), (y_6.1, y_6.2.1, y_6.2.2), _, rfl, ⟨rfl, rfl, rfl, trivial⟩, H, S104⟩
      · replace H := condF c100 H
        refine c_exit ?_
        refine c_seq ?_
        refine c_seq ?_
        refine reg ?_
        refine p_aI rfl ?_
        refine wp_nil ?_
        refine c_block ?_
        refine c_lop (α := Int) (β := Unit) (ref_most_l84 a0 z_5) (fun z_8 y_8 => [(1, P b4 0), (5, SL y_5.1 y_5.2.2.length y_5.2.1), (16, I z_8)]) (fun z_8 y_8 w_ => St w (fun _ => False) w_ [rx' 3 y_5.2.2 z_5.1, gr rowN 1 31 y_5.1 y_5.2.1 y_5.2.2, bl b4 [I a0.Trips, I a0.Room, SL A1 a0.Counts.length c2] 24] [rd eTallyCount 7 A1 c2 a0.Counts]) 0 () H ⟨rfl, rfl, rfl, trivial⟩ S99 ?_
        intro m142 z_8 y_8 e143 w144 H S145
        unfold ref_most_l84 at H
        refine c_seq ?_
        refine c_seq ?_
        refine reg ?_
        refine p_mI rfl ?_
        refine p_fld fl24_0 rfl ?_
        refine p_ld ty3 (S145.atX (i := 2) rfl) rfl rfl ?_
        refine p_cmp rfl rfl rfl ?_
        refine wp_nil ?_
        refine c_cond rfl (fun c146 => ?_) (fun c146 => ?_)
        · replace H := condT c146 H
          refine c_skip ?_
          refine c_seq ?_
          refine c_block ?_
          refine c_seq ?_
          refine reg ?_
          refine p_mS rfl ?_
          refine p_mI rfl ?_
          obtain ⟨r147, h148, H⟩ := bindS H
          obtain ⟨d149, h150⟩ := rx_at (S145.atX (i := 0) rfl) h148
          refine p_ixE sc104 h150 (gr_sl rowN_len (S145.atX (i := 1) rfl)) rfl rfl rfl ?_
          refine p_ldE ty31 h150 (gr_sl rowN_len (S145.atX (i := 1) rfl)) rfl rfl ?_
          refine p_mI rfl ?_
          obtain ⟨r151, h152, H⟩ := bindS H
          refine p_ixE sc31 h152 (rx_rd (S145.atX (i := 0) rfl) h150).1 rfl rfl rfl ?_
          refine p_ldE ty3 h152 (rx_rd (S145.atX (i := 0) rfl) h150).1 rfl rfl ?_
          refine p_cmp rfl rfl rfl ?_
          refine wp_nil ?_
          refine c_cond rfl (fun c153 => ?_) (fun c153 => ?_)
          · replace H := condT c153 H
            refine c_seq ?_
            refine reg ?_
            refine p_mS rfl ?_
            refine p_aS rfl ?_
            refine p_aB rfl ?_
            refine wp_nil ?_
            obtain rfl := Option.some.inj H
            refine c_ret ?_; show bodyPostM (Fr none) 0 Tryd.prog Tryd.f81 _ .ret _ _
            refine ret_of (res2 rfl (rvT (rfl : _ = SL y_5.1 y_5.2.2.length y_5.2.1)) (rvT (rfl : _ = B false))) ?_
            exact ⟨_, rfl, y_5.1, y_5.2.1, y_5.2.2, rfl, S145.keep, ⟨(gr_rd rowN_len (S145.atX (i := 1) rfl)), (New.rd (S145.newX (i := 1) rfl))⟩, ⟨(rx_ri (S145.atX (i := 0) rfl)), (New.rx (S145.newX (i := 0) rfl))⟩, trivial⟩
          · replace H := condF c153 H
            refine c_skip ?_
            refine reg ?_
            refine p_mI rfl ?_
            refine p_add rfl rfl ?_
            refine p_aI rfl ?_
            refine wp_nil ?_
            exact ⟨wr (z_8 + 1), (), _, rfl, ⟨rfl, rfl, rfl, trivial⟩, H, S145⟩
        · replace H := condF c146 H
          refine c_exit ?_
          refine c_seq ?_
          refine reg ?_
          refine p_mS rfl ?_
          refine p_aS rfl ?_
          refine p_aB rfl ?_
          refine wp_nil ?_
          obtain rfl := Option.some.inj H
          refine c_ret ?_; show bodyPostM (Fr none) 0 Tryd.prog Tryd.f81 _ .ret _ _
          refine ret_of (res2 rfl (rvT (rfl : _ = SL y_5.1 y_5.2.2.length y_5.2.1)) (rvT (rfl : _ = B true))) ?_
          exact ⟨_, rfl, y_5.1, y_5.2.1, y_5.2.2, rfl, S145.keep, ⟨(gr_rd rowN_len (S145.atX (i := 1) rfl)), (New.rd (S145.newX (i := 1) rfl))⟩, ⟨(rx_ri (S145.atX (i := 0) rfl)), (New.rx (S145.newX (i := 0) rfl))⟩, trivial⟩

def ref_asked (a0 : TallyBook) (a1 : Bool) : Option ((List (List Int)) × Int) :=
  (ref_Check a0).bind fun r7 =>
  bif (r7 != 0) then (some (([] : List _), r7))
  else (bif !a1 then (some (([] : List _), 51))
  else ((ref_most a0).bind fun r13 =>
  bif !r13.2 then (some (([] : List _), 52))
  else (some (r13.1, 0))))

set_option maxRecDepth 100000 in
theorem ref_asked_ok {a0 : TallyBook} {a1 : Bool} {A1 : Option Addr} {c2 : Nat} {w : World} {r : (List (List Int)) × Int} (H : ref_asked a0 a1 = some r) (h3 : (rd eTallyCount 7 A1 c2 a0.Counts).ok w) : Calls Tryd.prog 83 #[AG [I a0.Trips, I a0.Room, SL A1 a0.Counts.length c2], B a1] w fun en w_ => ∃ u_, en = .returned u_ ∧ ∃ A_1 : Option Addr, ∃ c_2 : Nat, ∃ l_3 : List RowH, u_ = TU [SL A_1 l_3.length c_2, I r.2] ∧ Keep0 w w_ ∧ ((rd rowN 1 A_1 c_2 l_3).ok w_ ∧ New w.heap.size (rd rowN 1 A_1 c_2 l_3)) ∧ ((ri rowI l_3 r.1).ok w_ ∧ New w.heap.size (ri rowI l_3 r.1)) ∧ True := by
  unfold ref_asked at H
  refine fn_of (n := 24) Tryd.func83 rfl rfl (Nat.le_of_ble_eq_true rfl) ?_
  have S : St w (fun _ => False) w [] [rd eTallyCount 7 A1 c2 a0.Counts] := St.start w _ _ (List.forall_mem_cons.2 ⟨h3, (fun _ h_ => (List.not_mem_nil h_).elim)⟩)
  refine c_seq ?_
  refine reg ?_
  refine p_boxA rfl S fun b4 w5 S6 => ?_
  refine p_aS rfl ?_
  refine p_aI rfl ?_
  refine wp_nil ?_
  refine c_seq ?_
  refine c_seq ?_
  refine reg ?_
  refine p_ldA ty24 sz24 (S6.atX (i := 0) rfl) rfl rfl ?_
  obtain ⟨r7, h8, H⟩ := bindS H
  refine p_cv (ref_Check_ok h8 (S6.atP (i := 0) rfl)) fu57 rfl S6 fun w9 S10 => ?_
  refine p_aI rfl ?_
  refine wp_nil ?_
  refine c_seq ?_
  refine reg ?_
  refine p_mI rfl ?_
  refine p_cmp rfl rfl rfl ?_
  refine wp_nil ?_
  refine c_cond rfl (fun c11 => ?_) (fun c11 => ?_)
  · replace H := condT c11 H
    refine c_seq ?_
    refine reg ?_
    refine p_mI rfl ?_
    refine p_aS rfl ?_
    refine p_aI rfl ?_
    refine wp_nil ?_
    obtain rfl := Option.some.inj H
    refine c_ret ?_; show bodyPostM (Fr none) 0 Tryd.prog Tryd.f83 _ .ret _ _
    refine ret_of (res2 rfl (rvT (rfl : _ = SL none 0 0)) (rvT (rfl : _ = I r7))) ?_
    exact ⟨_, rfl, none, 0, ([] : List RowH), rfl, S10.keep, ⟨rd_nil (Nat.zero_le _), New.nil⟩, ⟨ri_nil, New.riNil⟩, trivial⟩
  · replace H := condF c11 H
    refine c_skip ?_
    refine c_seq ?_
    refine c_seq ?_
    refine reg ?_
    refine p_mB rfl ?_
    refine p_not rfl ?_
    refine wp_nil ?_
    refine c_cond rfl (fun c12 => ?_) (fun c12 => ?_)
    · replace H := condT c12 H
      refine c_seq ?_
      refine reg ?_
      refine p_aS rfl ?_
      refine p_aI rfl ?_
      refine wp_nil ?_
      obtain rfl := Option.some.inj H
      refine c_ret ?_; show bodyPostM (Fr none) 0 Tryd.prog Tryd.f83 _ .ret _ _
      refine ret_of (res2 rfl (rvT (rfl : _ = SL none 0 0)) (rvT (rfl : _ = I 51))) ?_
      exact ⟨_, rfl, none, 0, ([] : List RowH), rfl, S10.keep, ⟨rd_nil (Nat.zero_le _), New.nil⟩, ⟨ri_nil, New.riNil⟩, trivial⟩
    · replace H := condF c12 H
      refine c_skip ?_
      refine c_seq ?_
      refine reg ?_
      refine p_ldA ty24 sz24 (S10.atX (i := 0) rfl) rfl rfl ?_
      obtain ⟨r13, h14, H⟩ := bindS H
      refine p_cal (ref_most_ok h14 (S10.atP (i := 0) rfl)) fu81 rfl ?_
      rintro _ w15 ⟨A17, c18, l19, rfl, k16, ⟨o20, n21⟩, ⟨o22, n23⟩, _⟩
      have S24 := S10.callN k16 [rd rowN 1 A17 c18 l19, ri rowI l19 r13.1] (List.forall_mem_cons.2 ⟨⟨o20, New.inL n21⟩, (List.forall_mem_cons.2 ⟨⟨o22, New.inL n23⟩, (fun _ h_ => (List.not_mem_nil h_).elim)⟩)⟩)
      refine p_mT rfl ?_
      refine p_ext rfl rfl ?_
      refine p_ext rfl rfl ?_
      refine p_aS rfl ?_
      refine p_aB rfl ?_
      refine wp_nil ?_
      refine c_seq ?_
      refine c_seq ?_
      refine reg ?_
      refine p_mB rfl ?_
      refine p_not rfl ?_
      refine wp_nil ?_
      refine c_cond rfl (fun c25 => ?_) (fun c25 => ?_)
      · replace H := condT c25 H
        refine c_seq ?_
        refine reg ?_
        refine p_aS rfl ?_
        refine p_aI rfl ?_
        refine wp_nil ?_
        obtain rfl := Option.some.inj H
        refine c_ret ?_; show bodyPostM (Fr none) 0 Tryd.prog Tryd.f83 _ .ret _ _
        refine ret_of (res2 rfl (rvT (rfl : _ = SL none 0 0)) (rvT (rfl : _ = I 52))) ?_
        exact ⟨_, rfl, none, 0, ([] : List RowH), rfl, S24.keep, ⟨rd_nil (Nat.zero_le _), New.nil⟩, ⟨ri_nil, New.riNil⟩, trivial⟩
      · replace H := condF c25 H
        refine c_skip ?_
        refine c_seq ?_
        refine reg ?_
        refine p_mS rfl ?_
        refine p_aS rfl ?_
        refine p_aI rfl ?_
        refine wp_nil ?_
        obtain rfl := Option.some.inj H
        refine c_ret ?_; show bodyPostM (Fr none) 0 Tryd.prog Tryd.f83 _ .ret _ _
        refine ret_of (res2 rfl (rvT (rfl : _ = SL A17 l19.length c18)) (rvT (rfl : _ = I 0))) ?_
        exact ⟨_, rfl, A17, c18, l19, rfl, S24.keep, ⟨(S24.atP (i := 0) rfl), (New.mono n21 S10.keep.size)⟩, ⟨(S24.atP (i := 1) rfl), (New.mono n23 S10.keep.size)⟩, trivial⟩

end Go.Proofs.YtplpalmabgjibaaDoor

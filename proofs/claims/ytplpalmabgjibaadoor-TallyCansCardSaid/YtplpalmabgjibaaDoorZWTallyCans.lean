/- What the law's function computes, and that it does, printed by a program of mine. -/
import Derived.Test.YtplpalmabgjibaaDoorZWAll
set_option linter.unusedVariables false
set_option linter.unusedSimpArgs false
namespace Go.Proofs.YtplpalmabgjibaaDoor
open Go Go.Fx Go.Proofs
def law_TallyCans (a0 : TallyBook) (a1 : List Int) (a2 : TallyCount) : Option Bool :=
  (B_OwnTally a0).bind fun r15 =>
  (B_OwnInts a1).bind fun r24 =>
  (law_tallyCans r15 r24 a0 a1 a2).bind fun r38 =>
  bif r38 then ((B_KeptTally r15 a0).bind fun r43 =>
  bif r43 then ((B_Alike r24 a1).bind fun r48 =>
  bif r48 then ((law_counted).bind fun r53 =>
  some r53)
  else (some false))
  else (some false))
  else (some false)

set_option maxRecDepth 100000 in
theorem law_TallyCans_ok {a0 : TallyBook} {a1 : List Int} {a2 : TallyCount} {A1 : Option Addr} {c2 : Nat} {A4 : Option Addr} {c5 : Nat} {w : World} {r : Bool} (H : law_TallyCans a0 a1 a2 = some r) (h3 : (rd eTallyCount 7 A1 c2 a0.Counts).ok w) (h6 : (rd intE 1 A4 c5 a1).ok w) (hg7 : (bl 0 [Value.func (.func 117) #[] #[], Value.func (.func 119) #[] #[]] 117).ok w) (hg8 : (bl 1 [I (-1), I (-1)] 115).ok w) : Calls Tryd.prog 4 #[AG [I a0.Trips, I a0.Room, SL A1 a0.Counts.length c2], SL A4 a1.length c5, AG [I a2.Who, I a2.From, I a2.To, I a2.Told, I a2.Unit, I a2.Under, I a2.Over]] w (RetV w (B r)) := by
  unfold law_TallyCans at H
  refine fn_of (n := 32) Tryd.func4 rfl rfl (Nat.le_of_ble_eq_true rfl) ?_
  have S : St w (fun _ => False) w [] [rd eTallyCount 7 A1 c2 a0.Counts, rd intE 1 A4 c5 a1, bl 0 [Value.func (.func 117) #[] #[], Value.func (.func 119) #[] #[]] 117, bl 1 [I (-1), I (-1)] 115] := St.start w _ _ (List.forall_mem_cons.2 ⟨h3, (List.forall_mem_cons.2 ⟨h6, (List.forall_mem_cons.2 ⟨hg7, (List.forall_mem_cons.2 ⟨hg8, (fun _ h_ => (List.not_mem_nil h_).elim)⟩)⟩)⟩)⟩)
  refine c_seq ?_
  refine reg ?_
  refine p_boxA rfl S fun b9 w10 S11 => ?_
  refine p_boxA rfl S11 fun b12 w13 S14 => ?_
  refine p_aB rfl ?_
  refine wp_nil ?_
  refine c_seq ?_
  refine reg ?_
  refine p_ldA ty24 sz24 (S14.atX (i := 1) rfl) rfl rfl ?_
  obtain ⟨r15, h16, H⟩ := bindS H
  refine p_cal (B_OwnTally_ok h16 (S14.atP (i := 0) rfl)) fu16 rfl ?_
  rintro _ w17 ⟨A19, c20, rfl, k18, ⟨o21, n22⟩, _⟩
  have S23 := S14.callN k18 [rd eTallyCount 7 A19 c20 r15.Counts] (List.forall_mem_cons.2 ⟨⟨o21, New.inL n22⟩, (fun _ h_ => (List.not_mem_nil h_).elim)⟩)
  refine p_mS rfl ?_
  obtain ⟨r24, h25, H⟩ := bindS H
  refine p_cal (B_OwnInts_ok h25 (S23.atP (i := 2) rfl)) fu20 rfl ?_
  rintro _ w26 ⟨A28, c29, rfl, k27, ⟨o30, n31⟩, _⟩
  have S32 := S23.callN k27 [rd intE 1 A28 c29 r24] (List.forall_mem_cons.2 ⟨⟨o30, New.inL n31⟩, (fun _ h_ => (List.not_mem_nil h_).elim)⟩)
  refine p_allA in24 S32 fun b33 w34 S35 => ?_
  refine p_stP (pre := []) (old := [I 0, I 0, SL none 0 0]) (post := []) (vs := [I r15.Trips, I r15.Room, SL A19 r15.Counts.length c20]) sz24 S35 (i := 0) rfl rfl rfl rfl (rfl : _ = AG [I r15.Trips, I r15.Room, SL A19 r15.Counts.length c20]) rfl rfl rfl rfl fun w36 S37 => ?_
  refine p_aS rfl ?_
  refine wp_nil ?_
  refine c_seq ?_
  refine reg ?_
  refine p_ldA ty24 sz24 (S37.atX (i := 0) rfl) rfl rfl ?_
  refine p_mS rfl ?_
  refine p_ldA ty24 sz24 (S37.atX (i := 2) rfl) rfl rfl ?_
  refine p_mS rfl ?_
  refine p_ldA ty33 sz33 (S37.atX (i := 1) rfl) rfl rfl ?_
  obtain ⟨r38, h39, H⟩ := bindS H
  refine p_cv (law_tallyCans_ok h39 (S37.atP (i := 1) rfl) (S37.atP (i := 0) rfl) (S37.atP (i := 2) rfl) (S37.atP (i := 3) rfl) (S37.atP (i := 4) rfl) (S37.atP (i := 5) rfl)) fu21 rfl S37 fun w40 S41 => ?_
  refine p_mB rfl ?_
  rcases Bool.eq_false_or_eq_true (r38) with c42 | c42
  · replace H := condT c42 H
    refine eB c42 ?_
    refine gT rfl rfl (p_ldA ty24 sz24 (S41.atX (i := 0) rfl) rfl rfl ?_)
    refine gT rfl rfl (p_ldA ty24 sz24 (S41.atX (i := 2) rfl) rfl rfl ?_)
    obtain ⟨r43, h44, H⟩ := bindS H
    refine gT rfl rfl (p_cv (B_KeptTally_ok h44 (S41.atP (i := 1) rfl) (S41.atP (i := 2) rfl)) fu18 rfl S41 fun w45 S46 => ?_)
    refine p_pkT rfl (rfl : _ = B r43) ?_
    refine p_mB rfl ?_
    rcases Bool.eq_false_or_eq_true (r43) with c47 | c47
    · replace H := condT c47 H
      refine eB c47 ?_
      refine gT rfl rfl (p_mS rfl ?_)
      refine gT rfl rfl (p_mS rfl ?_)
      obtain ⟨r48, h49, H⟩ := bindS H
      refine gT rfl rfl (p_cv (B_Alike_ok h49 (S46.atP (i := 0) rfl) (S46.atP (i := 3) rfl)) fu22 rfl S46 fun w50 S51 => ?_)
      refine p_pkT rfl (rfl : _ = B r48) ?_
      refine p_mB rfl ?_
      rcases Bool.eq_false_or_eq_true (r48) with c52 | c52
      · replace H := condT c52 H
        refine eB c52 ?_
        obtain ⟨r53, h54, H⟩ := bindS H
        refine gT rfl rfl (p_cv (law_counted_ok h54 (S51.atP (i := 4) rfl) (S51.atP (i := 5) rfl)) fu19 rfl S51 fun w55 S56 => ?_)
        refine p_pkT rfl (rfl : _ = B r53) ?_
        refine p_aB rfl ?_
        refine wp_nil ?_
        obtain rfl := Option.some.inj H
        refine c_ret ?_; show bodyPostM (Fr none) 0 Tryd.prog Tryd.f4 _ .ret _ _
        refine ret_of (res1 rfl (rvT (rfl : _ = B r53))) ?_
        exact ⟨_, rfl, rfl, S56.keep⟩
      · replace H := condF c52 H
        refine eB c52 ?_
        refine gF rfl rfl ?_
        refine p_pkF rfl (rfl : _ = B false) ?_
        refine p_aB rfl ?_
        refine wp_nil ?_
        obtain rfl := Option.some.inj H
        refine c_ret ?_; show bodyPostM (Fr none) 0 Tryd.prog Tryd.f4 _ .ret _ _
        refine ret_of (res1 rfl (rvT (rfl : _ = B false))) ?_
        exact ⟨_, rfl, rfl, S51.keep⟩
    · replace H := condF c47 H
      refine eB c47 ?_
      refine gF rfl rfl ?_
      refine gF rfl rfl ?_
      refine gF rfl rfl ?_
      refine p_pkF rfl (rfl : _ = B false) ?_
      refine p_mB rfl ?_
      refine gF rfl rfl ?_
      refine p_pkF rfl (rfl : _ = B false) ?_
      refine p_aB rfl ?_
      refine wp_nil ?_
      obtain rfl := Option.some.inj H
      refine c_ret ?_; show bodyPostM (Fr none) 0 Tryd.prog Tryd.f4 _ .ret _ _
      refine ret_of (res1 rfl (rvT (rfl : _ = B false))) ?_
      exact ⟨_, rfl, rfl, S46.keep⟩
  · replace H := condF c42 H
    refine eB c42 ?_
    refine gF rfl rfl ?_
    refine gF rfl rfl ?_
    refine gF rfl rfl ?_
    refine p_pkF rfl (rfl : _ = B false) ?_
    refine p_mB rfl ?_
    refine gF rfl rfl ?_
    refine gF rfl rfl ?_
    refine gF rfl rfl ?_
    refine p_pkF rfl (rfl : _ = B false) ?_
    refine p_mB rfl ?_
    refine gF rfl rfl ?_
    refine p_pkF rfl (rfl : _ = B false) ?_
    refine p_aB rfl ?_
    refine wp_nil ?_
    obtain rfl := Option.some.inj H
    refine c_ret ?_; show bodyPostM (Fr none) 0 Tryd.prog Tryd.f4 _ .ret _ _
    refine ret_of (res1 rfl (rvT (rfl : _ = B false))) ?_
    exact ⟨_, rfl, rfl, S41.keep⟩

end Go.Proofs.YtplpalmabgjibaaDoor

/- What the law's function computes, and that it does, printed by a program of mine. -/
import Derived.Test.YtplpalmabgjibaaDoorZWAll
set_option linter.unusedVariables false
set_option linter.unusedSimpArgs false
namespace Go.Proofs.YtplpalmabgjibaaDoor
open Go Go.Fx Go.Proofs
def law_TallyWrongs (a0 : TallyBook) : Option Bool :=
  (B_OwnTally a0).bind fun r9 =>
  (law_tallyWrongs r9 a0).bind fun r23 =>
  bif r23 then ((B_KeptTally r9 a0).bind fun r28 =>
  bif r28 then ((law_counted).bind fun r33 =>
  some r33)
  else (some false))
  else (some false)

set_option maxRecDepth 100000 in
theorem law_TallyWrongs_ok {a0 : TallyBook} {A1 : Option Addr} {c2 : Nat} {w : World} {r : Bool} (H : law_TallyWrongs a0 = some r) (h3 : (rd eTallyCount 7 A1 c2 a0.Counts).ok w) (hg4 : (bl 0 [Value.func (.func 117) #[] #[], Value.func (.func 119) #[] #[]] 117).ok w) (hg5 : (bl 1 [I (-1), I (-1)] 115).ok w) : Calls Tryd.prog 5 #[AG [I a0.Trips, I a0.Room, SL A1 a0.Counts.length c2]] w (RetV w (B r)) := by
  unfold law_TallyWrongs at H
  refine fn_of (n := 17) Tryd.func5 rfl rfl (Nat.le_of_ble_eq_true rfl) ?_
  have S : St w (fun _ => False) w [] [rd eTallyCount 7 A1 c2 a0.Counts, bl 0 [Value.func (.func 117) #[] #[], Value.func (.func 119) #[] #[]] 117, bl 1 [I (-1), I (-1)] 115] := St.start w _ _ (List.forall_mem_cons.2 ⟨h3, (List.forall_mem_cons.2 ⟨hg4, (List.forall_mem_cons.2 ⟨hg5, (fun _ h_ => (List.not_mem_nil h_).elim)⟩)⟩)⟩)
  refine c_seq ?_
  refine reg ?_
  refine p_boxA rfl S fun b6 w7 S8 => ?_
  refine p_aB rfl ?_
  refine wp_nil ?_
  refine c_seq ?_
  refine reg ?_
  refine p_ldA ty24 sz24 (S8.atX (i := 0) rfl) rfl rfl ?_
  obtain ⟨r9, h10, H⟩ := bindS H
  refine p_cal (B_OwnTally_ok h10 (S8.atP (i := 0) rfl)) fu16 rfl ?_
  rintro _ w11 ⟨A13, c14, rfl, k12, ⟨o15, n16⟩, _⟩
  have S17 := S8.callN k12 [rd eTallyCount 7 A13 c14 r9.Counts] (List.forall_mem_cons.2 ⟨⟨o15, New.inL n16⟩, (fun _ h_ => (List.not_mem_nil h_).elim)⟩)
  refine p_allA in24 S17 fun b18 w19 S20 => ?_
  refine p_stP (pre := []) (old := [I 0, I 0, SL none 0 0]) (post := []) (vs := [I r9.Trips, I r9.Room, SL A13 r9.Counts.length c14]) sz24 S20 (i := 0) rfl rfl rfl rfl (rfl : _ = AG [I r9.Trips, I r9.Room, SL A13 r9.Counts.length c14]) rfl rfl rfl rfl fun w21 S22 => ?_
  refine wp_nil ?_
  refine c_seq ?_
  refine reg ?_
  refine p_ldA ty24 sz24 (S22.atX (i := 0) rfl) rfl rfl ?_
  refine p_ldA ty24 sz24 (S22.atX (i := 1) rfl) rfl rfl ?_
  obtain ⟨r23, h24, H⟩ := bindS H
  refine p_cv (law_tallyWrongs_ok h24 (S22.atP (i := 0) rfl) (S22.atP (i := 1) rfl) (S22.atP (i := 2) rfl) (S22.atP (i := 3) rfl)) fu23 rfl S22 fun w25 S26 => ?_
  refine p_mB rfl ?_
  rcases Bool.eq_false_or_eq_true (r23) with c27 | c27
  · replace H := condT c27 H
    refine eB c27 ?_
    refine gT rfl rfl (p_ldA ty24 sz24 (S26.atX (i := 0) rfl) rfl rfl ?_)
    refine gT rfl rfl (p_ldA ty24 sz24 (S26.atX (i := 1) rfl) rfl rfl ?_)
    obtain ⟨r28, h29, H⟩ := bindS H
    refine gT rfl rfl (p_cv (B_KeptTally_ok h29 (S26.atP (i := 0) rfl) (S26.atP (i := 1) rfl)) fu18 rfl S26 fun w30 S31 => ?_)
    refine p_pkT rfl (rfl : _ = B r28) ?_
    refine p_mB rfl ?_
    rcases Bool.eq_false_or_eq_true (r28) with c32 | c32
    · replace H := condT c32 H
      refine eB c32 ?_
      obtain ⟨r33, h34, H⟩ := bindS H
      refine gT rfl rfl (p_cv (law_counted_ok h34 (S31.atP (i := 2) rfl) (S31.atP (i := 3) rfl)) fu19 rfl S31 fun w35 S36 => ?_)
      refine p_pkT rfl (rfl : _ = B r33) ?_
      refine p_aB rfl ?_
      refine wp_nil ?_
      obtain rfl := Option.some.inj H
      refine c_ret ?_; show bodyPostM (Fr none) 0 Tryd.prog Tryd.f5 _ .ret _ _
      refine ret_of (res1 rfl (rvT (rfl : _ = B r33))) ?_
      exact ⟨_, rfl, rfl, S36.keep⟩
    · replace H := condF c32 H
      refine eB c32 ?_
      refine gF rfl rfl ?_
      refine p_pkF rfl (rfl : _ = B false) ?_
      refine p_aB rfl ?_
      refine wp_nil ?_
      obtain rfl := Option.some.inj H
      refine c_ret ?_; show bodyPostM (Fr none) 0 Tryd.prog Tryd.f5 _ .ret _ _
      refine ret_of (res1 rfl (rvT (rfl : _ = B false))) ?_
      exact ⟨_, rfl, rfl, S31.keep⟩
  · replace H := condF c27 H
    refine eB c27 ?_
    refine gF rfl rfl ?_
    refine gF rfl rfl ?_
    refine gF rfl rfl ?_
    refine p_pkF rfl (rfl : _ = B false) ?_
    refine p_mB rfl ?_
    refine gF rfl rfl ?_
    refine p_pkF rfl (rfl : _ = B false) ?_
    refine p_aB rfl ?_
    refine wp_nil ?_
    obtain rfl := Option.some.inj H
    refine c_ret ?_; show bodyPostM (Fr none) 0 Tryd.prog Tryd.f5 _ .ret _ _
    refine ret_of (res1 rfl (rvT (rfl : _ = B false))) ?_
    exact ⟨_, rfl, rfl, S26.keep⟩

end Go.Proofs.YtplpalmabgjibaaDoor

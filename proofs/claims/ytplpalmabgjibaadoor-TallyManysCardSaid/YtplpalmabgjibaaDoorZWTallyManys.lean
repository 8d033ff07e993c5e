/- What the law's function computes, and that it does, printed by a program of mine. -/
import Derived.Test.YtplpalmabgjibaaDoorZWAll
set_option linter.unusedVariables false
set_option linter.unusedSimpArgs false
namespace Go.Proofs.YtplpalmabgjibaaDoor
open Go Go.Fx Go.Proofs
def law_TallyManys (a0 : TallyBook) (a1 : List Int) : Option Bool :=
  (B_OwnTally a0).bind fun r12 =>
  (law_tallyManys r12 a0 a1).bind fun r26 =>
  bif r26 then ((B_KeptTally r12 a0).bind fun r31 =>
  bif r31 then ((law_counted).bind fun r36 =>
  some r36)
  else (some false))
  else (some false)

set_option maxRecDepth 100000 in
theorem law_TallyManys_ok {a0 : TallyBook} {a1 : List Int} {A1 : Option Addr} {c2 : Nat} {w : World} {r : Bool} (H : law_TallyManys a0 a1 = some r) (h3 : (rd eTallyCount 7 A1 c2 a0.Counts).ok w) (hg4 : (bl 0 [Value.func (.func 117) #[] #[], Value.func (.func 119) #[] #[]] 117).ok w) (hg5 : (bl 1 [I (-1), I (-1)] 115).ok w) : Calls Tryd.prog 3 #[AG [I a0.Trips, I a0.Room, SL A1 a0.Counts.length c2], AG (sg a1 3)] w (RetV w (B r)) := by
  unfold law_TallyManys at H
  refine fn_of (n := 20) Tryd.func3 rfl rfl (Nat.le_of_ble_eq_true rfl) ?_
  have S : St w (fun _ => False) w [] [rd eTallyCount 7 A1 c2 a0.Counts, bl 0 [Value.func (.func 117) #[] #[], Value.func (.func 119) #[] #[]] 117, bl 1 [I (-1), I (-1)] 115] := St.start w _ _ (List.forall_mem_cons.2 ⟨h3, (List.forall_mem_cons.2 ⟨hg4, (List.forall_mem_cons.2 ⟨hg5, (fun _ h_ => (List.not_mem_nil h_).elim)⟩)⟩)⟩)
  refine c_seq ?_
  refine reg ?_
  refine p_boxA rfl S fun b6 w7 S8 => ?_
  refine p_boxA rfl S8 fun b9 w10 S11 => ?_
  refine p_aB rfl ?_
  refine wp_nil ?_
  refine c_seq ?_
  refine reg ?_
  refine p_ldA ty24 sz24 (S11.atX (i := 1) rfl) rfl rfl ?_
  obtain ⟨r12, h13, H⟩ := bindS H
  refine p_cal (B_OwnTally_ok h13 (S11.atP (i := 0) rfl)) fu16 rfl ?_
  rintro _ w14 ⟨A16, c17, rfl, k15, ⟨o18, n19⟩, _⟩
  have S20 := S11.callN k15 [rd eTallyCount 7 A16 c17 r12.Counts] (List.forall_mem_cons.2 ⟨⟨o18, New.inL n19⟩, (fun _ h_ => (List.not_mem_nil h_).elim)⟩)
  refine p_allA in24 S20 fun b21 w22 S23 => ?_
  refine p_stP (pre := []) (old := [I 0, I 0, SL none 0 0]) (post := []) (vs := [I r12.Trips, I r12.Room, SL A16 r12.Counts.length c17]) sz24 S23 (i := 0) rfl rfl rfl rfl (rfl : _ = AG [I r12.Trips, I r12.Room, SL A16 r12.Counts.length c17]) rfl rfl rfl rfl fun w24 S25 => ?_
  refine wp_nil ?_
  refine c_seq ?_
  refine reg ?_
  refine p_ldA ty24 sz24 (S25.atX (i := 0) rfl) rfl rfl ?_
  refine p_ldA ty24 sz24 (S25.atX (i := 2) rfl) rfl rfl ?_
  refine p_ldA ty25 sz25 (S25.atX (i := 1) rfl) rfl rfl ?_
  obtain ⟨r26, h27, H⟩ := bindS H
  refine p_cv (law_tallyManys_ok h27 (S25.atP (i := 0) rfl) (S25.atP (i := 1) rfl) (S25.atP (i := 2) rfl) (S25.atP (i := 3) rfl)) fu17 rfl S25 fun w28 S29 => ?_
  refine p_mB rfl ?_
  rcases Bool.eq_false_or_eq_true (r26) with c30 | c30
  · replace H := condT c30 H
    refine eB c30 ?_
    refine gT rfl rfl (p_ldA ty24 sz24 (S29.atX (i := 0) rfl) rfl rfl ?_)
    refine gT rfl rfl (p_ldA ty24 sz24 (S29.atX (i := 2) rfl) rfl rfl ?_)
    obtain ⟨r31, h32, H⟩ := bindS H
    refine gT rfl rfl (p_cv (B_KeptTally_ok h32 (S29.atP (i := 0) rfl) (S29.atP (i := 1) rfl)) fu18 rfl S29 fun w33 S34 => ?_)
    refine p_pkT rfl (rfl : _ = B r31) ?_
    refine p_mB rfl ?_
    rcases Bool.eq_false_or_eq_true (r31) with c35 | c35
    · replace H := condT c35 H
      refine eB c35 ?_
      obtain ⟨r36, h37, H⟩ := bindS H
      refine gT rfl rfl (p_cv (law_counted_ok h37 (S34.atP (i := 2) rfl) (S34.atP (i := 3) rfl)) fu19 rfl S34 fun w38 S39 => ?_)
      refine p_pkT rfl (rfl : _ = B r36) ?_
      refine p_aB rfl ?_
      refine wp_nil ?_
      obtain rfl := Option.some.inj H
      refine c_ret ?_; show bodyPostM (Fr none) 0 Tryd.prog Tryd.f3 _ .ret _ _
      refine ret_of (res1 rfl (rvT (rfl : _ = B r36))) ?_
      exact ⟨_, rfl, rfl, S39.keep⟩
    · replace H := condF c35 H
      refine eB c35 ?_
      refine gF rfl rfl ?_
      refine p_pkF rfl (rfl : _ = B false) ?_
      refine p_aB rfl ?_
      refine wp_nil ?_
      obtain rfl := Option.some.inj H
      refine c_ret ?_; show bodyPostM (Fr none) 0 Tryd.prog Tryd.f3 _ .ret _ _
      refine ret_of (res1 rfl (rvT (rfl : _ = B false))) ?_
      exact ⟨_, rfl, rfl, S34.keep⟩
  · replace H := condF c30 H
    refine eB c30 ?_
    refine gF rfl rfl ?_
    refine gF rfl rfl ?_
    refine gF rfl rfl ?_
    refine p_pkF rfl (rfl : _ = B false) ?_
    refine p_mB rfl ?_
    refine gF rfl rfl ?_
    refine p_pkF rfl (rfl : _ = B false) ?_
    refine p_aB rfl ?_
    refine wp_nil ?_
    obtain rfl := Option.some.inj H
    refine c_ret ?_; show bodyPostM (Fr none) 0 Tryd.prog Tryd.f3 _ .ret _ _
    refine ret_of (res1 rfl (rvT (rfl : _ = B false))) ?_
    exact ⟨_, rfl, rfl, S29.keep⟩

end Go.Proofs.YtplpalmabgjibaaDoor

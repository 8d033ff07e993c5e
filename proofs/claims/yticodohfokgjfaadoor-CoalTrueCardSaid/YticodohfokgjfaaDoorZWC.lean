/- What the functions of the program compute, and that they do, printed by a program of mine. -/
import Derived.Test.YticodohfokgjfaaDoorZWB
import Derived.KernelRfl
set_option linter.unusedVariables false
set_option linter.unusedSimpArgs false
namespace Go.Proofs.YticodohfokgjfaaDoor
open Go Go.Fx Go.Proofs
def B_Member (a0 : Int) (a1 : Int) : Option Bool :=
  need (decide (0 ≤ a1)) <|
  some ((andI (shrI a0 a1) 1) == 1)

set_option maxRecDepth 100000 in
theorem B_Member_ok {a0 : Int} {a1 : Int} {w : World} {r : Bool} (H : B_Member a0 a1 = some r) : Calls Tryd.prog 33 #[I a0, I a1] w (RetV w (B r)) := by
  unfold B_Member at H
  refine fn_of (n := 10) Tryd.func33 rfl rfl (Nat.le_of_ble_eq_true rfl) ?_
  have S : St w (fun _ => False) w [] [] := St.start w _ _ (fun _ h_ => (List.not_mem_nil h_).elim)
  refine c_seq ?_
  refine reg ?_
  refine p_aB rfl ?_
  refine wp_nil ?_
  refine c_seq ?_
  refine reg ?_
  refine p_mI rfl ?_
  refine p_mI rfl ?_
  obtain ⟨h1, H⟩ := needS H
  refine p_shr h1 rfl rfl ?_
  refine p_andI rfl rfl ?_
  refine p_cmp rfl rfl rfl ?_
  refine p_aB rfl ?_
  refine wp_nil ?_
  obtain rfl := Option.some.inj H
  refine c_ret ?_; show bodyPostM (Fr none) 0 Tryd.prog Tryd.f33 _ .ret _ _
  refine ret_of (res1 rfl (rvT (rfl : _ = B ((andI (shrI a0 a1) 1) == 1)))) ?_
  exact ⟨_, rfl, rfl, S.keep⟩

structure Ref06_truth where
  eats_ : List Int
  collier_ : Int
  winds_ : List Int
  coal_ : List Int
  deriving DecidableEq, Inhabited

def B_Range (a0 : Int) (a1 : Int) : Option Span :=
  some (Span.mk a0 a1)

set_option maxRecDepth 100000 in
theorem B_Range_ok {a0 : Int} {a1 : Int} {w : World} {r : Span} (H : B_Range a0 a1 = some r) : Calls Tryd.prog 44 #[I a0, I a1] w (RetV w (AG [I r.Low, I r.High])) := by
  unfold B_Range at H
  refine fn_of (n := 8) Tryd.func44 rfl rfl (Nat.le_of_ble_eq_true rfl) ?_
  have S : St w (fun _ => False) w [] [] := St.start w _ _ (fun _ h_ => (List.not_mem_nil h_).elim)
  refine c_seq ?_
  refine reg ?_
  refine p_allA in23 S fun b1 w2 S3 => ?_
  refine wp_nil ?_
  refine c_seq ?_
  refine reg ?_
  refine p_mI rfl ?_
  refine p_mI rfl ?_
  refine p_bld (cs := [I a0, I a1]) st23 (rfl : _ = [(0, I a0), (1, I a1)]) (by kernel_rfl) ?_
  refine p_stP (pre := []) (old := [I 0, I 0]) (post := []) (vs := [I a0, I a1]) sz23 S3 (i := 0) rfl rfl rfl rfl (rfl : _ = AG [I a0, I a1]) rfl rfl rfl rfl fun w4 S5 => ?_
  refine wp_nil ?_
  obtain rfl := Option.some.inj H
  refine c_ret ?_; show bodyPostM (Fr none) 0 Tryd.prog Tryd.f44 _ .ret _ _
  refine ret_of (res1 rfl (rvA rfl ty23 sz23 (S5.atX (i := 0) rfl) rfl)) ?_
  exact ⟨_, rfl, rfl, S5.keep⟩

def B_Point (a0 : Int) : Option Span :=
  (B_Range a0 a0).bind fun r4 =>
  some r4

set_option maxRecDepth 100000 in
theorem B_Point_ok {a0 : Int} {w : World} {r : Span} (H : B_Point a0 = some r) : Calls Tryd.prog 38 #[I a0] w (RetV w (AG [I r.Low, I r.High])) := by
  unfold B_Point at H
  refine fn_of (n := 6) Tryd.func38 rfl rfl (Nat.le_of_ble_eq_true rfl) ?_
  have S : St w (fun _ => False) w [] [] := St.start w _ _ (fun _ h_ => (List.not_mem_nil h_).elim)
  refine c_seq ?_
  refine reg ?_
  refine p_allA in23 S fun b1 w2 S3 => ?_
  refine wp_nil ?_
  refine c_seq ?_
  refine reg ?_
  refine p_mI rfl ?_
  refine p_mI rfl ?_
  obtain ⟨r4, h5, H⟩ := bindS H
  refine p_cv (B_Range_ok h5) fu44 rfl S3 fun w6 S7 => ?_
  refine p_stP (pre := []) (old := [I 0, I 0]) (post := []) (vs := [I r4.Low, I r4.High]) sz23 S7 (i := 0) rfl rfl rfl rfl (rfl : _ = AG [I r4.Low, I r4.High]) rfl rfl rfl rfl fun w8 S9 => ?_
  refine wp_nil ?_
  obtain rfl := Option.some.inj H
  refine c_ret ?_; show bodyPostM (Fr none) 0 Tryd.prog Tryd.f38 _ .ret _ _
  refine ret_of (res1 rfl (rvA rfl ty23 sz23 (S9.atX (i := 0) rfl) rfl)) ?_
  exact ⟨_, rfl, rfl, S9.keep⟩

def coal_Wrong_1_l3 (q0 : CoalBook) (a0 : List Int) (rec_ : (List Int) → Int → Option ((List Int) × Bool)) (a1 : Int) (rec_z_2 : Int → Option ((List Int) × Bool)) (z_2 : Int) : Option ((List Int) × Bool) :=
  bif decide (z_2 < (q0.Dips.length : Int)) then (need (fitsL (a0.length + ([z_2] : List Int).length) 8) <|
  (rec_ (a0 ++ ([z_2] : List Int)) a1).bind fun r64 =>
  bif r64.2 then (some (r64.1, true))
  else (rec_z_2 (wr (z_2 + 1))))
  else (some (([] : List _), false))

def coal_Wrong_1_j4 (q0 : CoalBook) (a0 : List Int) (rec_ : (List Int) → Int → Option ((List Int) × Bool)) (a1 : Int) (z_1 : Int) : Option ((List Int) × Bool) :=
  loopF (coal_Wrong_1_l3 q0 a0 rec_ a1) big z_1

end Go.Proofs.YticodohfokgjfaaDoor

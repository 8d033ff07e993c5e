/- What the functions of the program compute, and that they do, printed by a program of mine. -/
import Derived.Test.YticodohfokgjfaaDoorZWC
import Derived.KernelRfl
set_option linter.unusedVariables false
set_option linter.unusedSimpArgs false
namespace Go.Proofs.YticodohfokgjfaaDoor
open Go Go.Fx Go.Proofs
def coal_Wrong_1_F (rec_ : (List Int) → Int → Option ((List Int) × Bool)) (a0 : List Int) (a1 : Int) (q0 : CoalBook) : Option ((List Int) × Bool) :=
  bif ((a0.length : Int) == a1) then ((coal_opened q0 a0).bind fun r16 =>
  (coal_book_isTrue (Coal_book.mk (CoalBook.mk r16.CoalBook.Heap r16.CoalBook.Eats r16.CoalBook.Extra q0.Days r16.CoalBook.Collier r16.CoalBook.Brings r16.CoalBook.Dips) r16.costs_)).bind fun r28 =>
  some (a0, r28))
  else (bif decide ((a0.length : Int) > 0) then ((getI a0 (wr ((a0.length : Int) - 1))).bind fun r33 =>
  coal_Wrong_1_j4 q0 a0 rec_ a1 (wr (r33 + 1)))
  else (coal_Wrong_1_j4 q0 a0 rec_ a1 0))

def coal_Wrong_1 : Nat → (List Int) → Int → CoalBook → Option ((List Int) × Bool)
  | 0, _, _, _ => none
  | n + 1, a0, a1, q0 => coal_Wrong_1_F (fun x0_ x1_ => coal_Wrong_1 n x0_ x1_ q0) a0 a1 q0

set_option maxRecDepth 100000 in
theorem coal_Wrong_1_ok {n : Nat} : ∀ {a0 : List Int} {a1 : Int} {q0 : CoalBook} {A1 : Option Addr} {c2 : Nat} {b4 : Nat} {A6 : Option Addr} {c7 : Nat} {A9 : Option Addr} {c10 : Nat} {b5 : Nat} {w : World} {r : (List Int) × Bool} (H : coal_Wrong_1 n a0 a1 q0 = some r) (h13 : (bl b5 [Value.func (.func 73) #[] #[P b4 0, P b5 0]] 94).ok w) (h12 : (bl b4 ([I q0.Heap.Low, I q0.Heap.High] ++ (sgE eSpan q0.Eats 2 ++ (sg q0.Extra 3 ++ [SL A6 q0.Days.length c7, I q0.Collier.Low, I q0.Collier.High, I q0.Brings, SL A9 q0.Dips.length c10]))) 29).ok w) (h3 : (rd intE 1 A1 c2 a0).ok w) (h8 : (rd eCoalDay 3 A6 c7 q0.Days).ok w) (h11 : (rd eCoalDip 3 A9 c10 q0.Dips).ok w) (hg14 : (bl 1 [I (-1), I (-1)] 123).ok w), Calls Tryd.prog 73 #[SL A1 a0.length c2, I a1, P b4 0, P b5 0] w fun en w_ => ∃ u_, en = .returned u_ ∧ ∃ A_1 : Option Addr, ∃ c_2 : Nat, u_ = TU [SL A_1 r.1.length c_2, B r.2] ∧ Keep0 w w_ ∧ ((rd intE 1 A_1 c_2 r.1).ok w_ ∧ Al w [rd intE 1 A1 c2 a0, rd eCoalDay 3 A6 c7 q0.Days, rd eCoalDip 3 A9 c10 q0.Dips] (rd intE 1 A_1 c_2 r.1)) ∧ True := by
  induction n with
  | zero => intro a0 a1 q0 A1 c2 b4 A6 c7 A9 c10 b5 w r H h13 h12 h3 h8 h11 hg14; cases H
  | succ n ih =>
  intro a0 a1 q0 A1 c2 b4 A6 c7 A9 c10 b5 w r H h13 h12 h3 h8 h11 hg14
  unfold coal_Wrong_1 coal_Wrong_1_F at H
  refine fn_of (n := 54) Tryd.func73 rfl rfl (Nat.le_of_ble_eq_true rfl) ?_
  have S : St w (fun _ => False) w [] [bl b5 [Value.func (.func 73) #[] #[P b4 0, P b5 0]] 94, bl b4 ([I q0.Heap.Low, I q0.Heap.High] ++ (sgE eSpan q0.Eats 2 ++ (sg q0.Extra 3 ++ [SL A6 q0.Days.length c7, I q0.Collier.Low, I q0.Collier.High, I q0.Brings, SL A9 q0.Dips.length c10]))) 29, rd intE 1 A1 c2 a0, rd eCoalDay 3 A6 c7 q0.Days, rd eCoalDip 3 A9 c10 q0.Dips, bl 1 [I (-1), I (-1)] 123] := St.start w _ _ (List.forall_mem_cons.2 ⟨h13, (List.forall_mem_cons.2 ⟨h12, (List.forall_mem_cons.2 ⟨h3, (List.forall_mem_cons.2 ⟨h8, (List.forall_mem_cons.2 ⟨h11, (List.forall_mem_cons.2 ⟨hg14, (fun _ h_ => (List.not_mem_nil h_).elim)⟩)⟩)⟩)⟩)⟩)⟩)
  refine c_seq ?_
  refine reg ?_
  refine p_aS rfl ?_
  refine p_aB rfl ?_
  refine wp_nil ?_
  refine c_seq ?_
  refine reg ?_
  refine p_mS rfl ?_
  refine p_len rfl sc39 ?_
  refine p_aI rfl ?_
  refine wp_nil ?_
  refine c_seq ?_
  refine c_seq ?_
  refine reg ?_
  refine p_mI rfl ?_
  refine p_mI rfl ?_
  refine p_cmp rfl rfl rfl ?_
  refine wp_nil ?_
  refine c_cond rfl (fun c15 => ?_) (fun c15 => ?_)
  · replace H := condT c15 H
    refine c_seq ?_
    refine reg ?_
    refine p_mS rfl ?_
    refine p_ldA ty29 sz29 (S.atP (i := 1) rfl) rfl rfl ?_
    refine p_mS rfl ?_
    obtain ⟨r16, h17, H⟩ := bindS H
    refine p_cal (coal_opened_ok h17 (S.atP (i := 3) rfl) (S.atP (i := 4) rfl) (S.atP (i := 2) rfl) (S.atP (i := 5) rfl)) fu71 rfl ?_
    rintro _ w18 ⟨A20, c21, m22, rfl, k19, ⟨o23, n24⟩, ⟨o25, n26⟩, _⟩
    have S27 := S.callN k19 [rd eCoalDip 3 A20 c21 r16.CoalBook.Dips, mp ekG iE m22 r16.costs_] (List.forall_mem_cons.2 ⟨⟨o23, New.inL n24⟩, (List.forall_mem_cons.2 ⟨⟨o25, New.inL n26⟩, (fun _ h_ => (List.not_mem_nil h_).elim)⟩)⟩)
    obtain ⟨r28, h29, H⟩ := bindS H
    refine p_cv (coal_book_isTrue_ok h29 (S27.atP (i := 5) rfl) (S27.atP (i := 0) rfl) (mpo_some (S27.atP (i := 1) rfl))) fu72 rfl S27 fun w30 S31 => ?_
    refine p_aS rfl ?_
    refine p_aB rfl ?_
    refine wp_nil ?_
    obtain rfl := Option.some.inj H
    refine c_ret ?_; show bodyPostM (Fr none) 0 Tryd.prog Tryd.f73 _ .ret _ _
    refine ret_of (res2 rfl (rvT (rfl : _ = SL A1 a0.length c2)) (rvT (rfl : _ = B r28))) ?_
    exact ⟨_, rfl, A1, c2, rfl, S31.keep, ⟨(S31.atP (i := 4) rfl), Al.self (i := 0) rfl⟩, trivial⟩
  · replace H := condF c15 H
    refine c_skip ?_
    refine c_seq ?_
    refine reg ?_
    refine p_aI rfl ?_
    refine wp_nil ?_
    refine c_join (α := Int) (β := Unit) (fun z_1 y_1 => [(0, SL A1 a0.length c2), (1, I a1), (2, P b4 0), (3, P b5 0), (8, I (a0.length : Int)), (9, I z_1)]) (fun z_1 y_1 w_ => coal_Wrong_1_j4 q0 a0 (fun x0_ x1_ => coal_Wrong_1 n x0_ x1_ q0) a1 z_1 = some r ∧ St w (fun _ => False) w_ [] [bl b5 [Value.func (.func 73) #[] #[P b4 0, P b5 0]] 94, bl b4 ([I q0.Heap.Low, I q0.Heap.High] ++ (sgE eSpan q0.Eats 2 ++ (sg q0.Extra 3 ++ [SL A6 q0.Days.length c7, I q0.Collier.Low, I q0.Collier.High, I q0.Brings, SL A9 q0.Dips.length c10]))) 29, rd intE 1 A1 c2 a0, rd eCoalDay 3 A6 c7 q0.Days, rd eCoalDip 3 A9 c10 q0.Dips, bl 1 [I (-1), I (-1)] 123]) ?_ ?_
    · refine c_seq ?_
      refine reg ?_
      refine p_mI rfl ?_
      refine p_cmp rfl rfl rfl ?_
      refine wp_nil ?_
      refine c_cond rfl (fun c32 => ?_) (fun c32 => ?_)
      · replace H := condT c32 H
        refine reg ?_
        refine p_mS rfl ?_
        refine p_mI rfl ?_
        refine p_sub rfl rfl ?_
        obtain ⟨r33, h34, H⟩ := bindS H
        refine p_ixE sc39 h34 (S.atP (i := 2) rfl).1 rfl rfl rfl ?_
        refine p_ldE ty3 h34 (S.atP (i := 2) rfl).1 rfl rfl ?_
        refine p_add rfl rfl ?_
        refine p_aI rfl ?_
        refine wp_nil ?_
        exact ⟨wr (r33 + 1), (), _, rfl, ⟨rfl, rfl, rfl, rfl, rfl, rfl, trivial⟩, H, S⟩
      · replace H := condF c32 H
        refine c_skip ?_
        exact ⟨0, (), _, rfl, ⟨rfl, rfl, rfl, rfl, rfl, rfl, trivial⟩, H, S⟩
    · intro z_1 y_1 e32 w33 S34; obtain ⟨H, S34⟩ := S34
      unfold coal_Wrong_1_j4 at H
      refine c_seq ?_
      refine c_seq ?_
      refine reg ?_
      refine p_mI rfl ?_
      refine p_aI rfl ?_
      refine wp_nil ?_
      refine c_block ?_
      refine c_lop (α := Int) (β := Unit) (coal_Wrong_1_l3 q0 a0 (fun x0_ x1_ => coal_Wrong_1 n x0_ x1_ q0) a1) (fun z_2 y_2 => [(0, SL A1 a0.length c2), (1, I a1), (2, P b4 0), (3, P b5 0), (8, I (a0.length : Int)), (10, I z_2)]) (fun z_2 y_2 w_ => St w (fun _ => False) w_ [] [bl b5 [Value.func (.func 73) #[] #[P b4 0, P b5 0]] 94, bl b4 ([I q0.Heap.Low, I q0.Heap.High] ++ (sgE eSpan q0.Eats 2 ++ (sg q0.Extra 3 ++ [SL A6 q0.Days.length c7, I q0.Collier.Low, I q0.Collier.High, I q0.Brings, SL A9 q0.Dips.length c10]))) 29, rd intE 1 A1 c2 a0, rd eCoalDay 3 A6 c7 q0.Days, rd eCoalDip 3 A9 c10 q0.Dips, bl 1 [I (-1), I (-1)] 123]) z_1 () H ⟨rfl, rfl, rfl, rfl, rfl, rfl, trivial⟩ S34 ?_
      intro m35 z_2 y_2 e36 w37 H S38
      unfold coal_Wrong_1_l3 at H
      refine c_seq ?_
      refine c_seq ?_
      refine reg ?_
      refine p_mI rfl ?_
      refine p_fld fl29_6 rfl ?_
      refine p_ld ty27 (S38.atP (i := 1) rfl) rfl rfl ?_
      refine p_len rfl sc27 ?_
      refine p_cmp rfl rfl rfl ?_
      refine wp_nil ?_
      refine c_cond rfl (fun c39 => ?_) (fun c39 => ?_)
      · replace H := condT c39 H
        refine c_skip ?_
        refine c_seq ?_
        refine c_block ?_
        refine c_seq ?_
        obtain ⟨h57, H⟩ := needS H
        obtain ⟨r64, h65, H⟩ := bindS H
        refine reg_any mixed 15 (by kernel_rfl) [rv (Value.func (.func 73) #[] #[P b4 0, P b5 0]), rv (SL A1 a0.length c2), rv (I (a0.length : Int)), rv (I (a0.length : Int)), rv (SL A1 a0.length a0.length), rv (I z_2), rx (α := (Option Addr) × Nat) (fun ⟨A44, c45⟩ => SL A44 ([z_2] : List Int).length c45) (fun ⟨A44, c45⟩ lo hi => BtwL lo hi [] (gr intE 1 3 A44 c45 ([z_2] : List Int)) ∧ True) (fun ⟨A44, c45⟩ => [gr intE 1 3 A44 c45 ([z_2] : List Int)]), rx (α := (Option Addr) × Nat) (fun ⟨A55, c56⟩ => SL A55 (a0 ++ ([z_2] : List Int)).length c56) (fun ⟨A55, c56⟩ lo hi => BtwL lo hi [] (gr intE 1 3 A55 c56 (a0 ++ ([z_2] : List Int))) ∧ True) (fun ⟨A55, c56⟩ => [gr intE 1 3 A55 c56 (a0 ++ ([z_2] : List Int))]), rv (I a1), rxd 47 (α := (Option Addr) × Nat) (fun ⟨A68, c69⟩ => TU [SL A68 r64.1.length c69, B r64.2]) (fun ⟨A68, c69⟩ lo hi ev => BtwV lo hi [rd eCoalDay 3 A6 c7 q0.Days, rd eCoalDip 3 A9 c10 q0.Dips] ev (rd intE 1 A68 c69 r64.1) ∧ True) (fun ⟨A68, c69⟩ => [rd intE 1 A68 c69 r64.1]), dv 49 some, dv 39 (exG 0), dv 39 (exG 1), dv 50 some, rv (B r64.2)] [[], [], [], [], [], [], [], [], [], [47], [49], [39], [39], [50], []] rfl (by kernel_rfl) [[], [], [], [], [1, 2, 3], [], [5], [1, 2, 3, 4, 5, 6], [], [0, 1, 2, 3, 4, 5, 6, 7, 8], [0, 1, 2, 3, 4, 5, 6, 7, 8, 9], [0, 1, 2, 3, 4, 5, 6, 7, 8, 9, 10], [0, 1, 2, 3, 4, 5, 6, 7, 8, 9, 10], [0, 1, 2, 3, 4, 5, 6, 7, 8, 9, 10, 11], [0, 1, 2, 3, 4, 5, 6, 7, 8, 9, 10, 11, 12, 13]] (by kernel_rfl) ⟨?_, ?_, ?_, ?_, ?_, ?_, ?_, ?_, ?_, ?_, ?_, ?_, ?_, ?_, ?_, trivial⟩ ?_
        · intro e_ w_ k_ hf_ hR_
          have S_ : St w_ (fun _ => False) w_ [] [bl b5 [Value.func (.func 73) #[] #[P b4 0, P b5 0]] 94, bl b4 ([I q0.Heap.Low, I q0.Heap.High] ++ (sgE eSpan q0.Eats 2 ++ (sg q0.Extra 3 ++ [SL A6 q0.Days.length c7, I q0.Collier.Low, I q0.Collier.High, I q0.Brings, SL A9 q0.Dips.length c10]))) 29, rd intE 1 A1 c2 a0, rd eCoalDay 3 A6 c7 q0.Days, rd eCoalDip 3 A9 c10 q0.Dips, bl 1 [I (-1), I (-1)] 123] := S38.asP k_
          refine hopE [(3, P b5 0)] ⟨((hf_ 3 rfl).trans (rfl : _ = P b5 0)), trivial⟩ ?_
          refine p_ld ty94 (S_.atP (i := 0) rfl) rfl rfl ?_
          refine wp_nil ?_
          exact ⟨_, rfl, S_.keep, rfl⟩
        · intro e_ w_ k_ hf_ hR_
          have S_ : St w_ (fun _ => False) w_ [] [bl b5 [Value.func (.func 73) #[] #[P b4 0, P b5 0]] 94, bl b4 ([I q0.Heap.Low, I q0.Heap.High] ++ (sgE eSpan q0.Eats 2 ++ (sg q0.Extra 3 ++ [SL A6 q0.Days.length c7, I q0.Collier.Low, I q0.Collier.High, I q0.Brings, SL A9 q0.Dips.length c10]))) 29, rd intE 1 A1 c2 a0, rd eCoalDay 3 A6 c7 q0.Days, rd eCoalDip 3 A9 c10 q0.Dips, bl 1 [I (-1), I (-1)] 123] := S38.asP k_
          refine hopE [(0, SL A1 a0.length c2)] ⟨((hf_ 0 rfl).trans (rfl : _ = SL A1 a0.length c2)), trivial⟩ ?_
          refine p_mS rfl ?_
          refine wp_nil ?_
          exact ⟨_, rfl, S_.keep, rfl⟩
        · intro e_ w_ k_ hf_ hR_
          have S_ : St w_ (fun _ => False) w_ [] [bl b5 [Value.func (.func 73) #[] #[P b4 0, P b5 0]] 94, bl b4 ([I q0.Heap.Low, I q0.Heap.High] ++ (sgE eSpan q0.Eats 2 ++ (sg q0.Extra 3 ++ [SL A6 q0.Days.length c7, I q0.Collier.Low, I q0.Collier.High, I q0.Brings, SL A9 q0.Dips.length c10]))) 29, rd intE 1 A1 c2 a0, rd eCoalDay 3 A6 c7 q0.Days, rd eCoalDip 3 A9 c10 q0.Dips, bl 1 [I (-1), I (-1)] 123] := S38.asP k_
          refine hopE [(8, I (a0.length : Int))] ⟨((hf_ 8 rfl).trans (rfl : _ = I (a0.length : Int))), trivial⟩ ?_
          refine p_mI rfl ?_
          refine wp_nil ?_
          exact ⟨_, rfl, S_.keep, rfl⟩
        · intro e_ w_ k_ hf_ hR_
          have S_ : St w_ (fun _ => False) w_ [] [bl b5 [Value.func (.func 73) #[] #[P b4 0, P b5 0]] 94, bl b4 ([I q0.Heap.Low, I q0.Heap.High] ++ (sgE eSpan q0.Eats 2 ++ (sg q0.Extra 3 ++ [SL A6 q0.Days.length c7, I q0.Collier.Low, I q0.Collier.High, I q0.Brings, SL A9 q0.Dips.length c10]))) 29, rd intE 1 A1 c2 a0, rd eCoalDay 3 A6 c7 q0.Days, rd eCoalDip 3 A9 c10 q0.Dips, bl 1 [I (-1), I (-1)] 123] := S38.asP k_
          refine hopE [(8, I (a0.length : Int))] ⟨((hf_ 8 rfl).trans (rfl : _ = I (a0.length : Int))), trivial⟩ ?_
          refine p_mI rfl ?_
          refine wp_nil ?_
          exact ⟨_, rfl, S_.keep, rfl⟩
        · intro e_ w_ k_ hf_ hR_
          have S_ : St w_ (fun _ => False) w_ [] [bl b5 [Value.func (.func 73) #[] #[P b4 0, P b5 0]] 94, bl b4 ([I q0.Heap.Low, I q0.Heap.High] ++ (sgE eSpan q0.Eats 2 ++ (sg q0.Extra 3 ++ [SL A6 q0.Days.length c7, I q0.Collier.Low, I q0.Collier.High, I q0.Brings, SL A9 q0.Dips.length c10]))) 29, rd intE 1 A1 c2 a0, rd eCoalDay 3 A6 c7 q0.Days, rd eCoalDip 3 A9 c10 q0.Dips, bl 1 [I (-1), I (-1)] 123] := S38.asP k_
          obtain ⟨_, _, _, _, q40⟩ := hR_ 1 41 rfl (Nat.le_of_ble_eq_true rfl) rfl
          obtain ⟨_, _, _, _, q41⟩ := hR_ 2 42 rfl (Nat.le_of_ble_eq_true rfl) rfl
          obtain ⟨_, _, _, _, q42⟩ := hR_ 3 43 rfl (Nat.le_of_ble_eq_true rfl) rfl
          refine hopE [(41, SL A1 a0.length c2), (42, I (a0.length : Int)), (43, I (a0.length : Int))] ⟨q40, q41, q42, trivial⟩ ?_
          refine p_cut3 sc39 (S_.atP (i := 2) rfl) rfl rfl rfl ?_
          refine wp_nil ?_
          exact ⟨_, rfl, S_.keep, rfl⟩
        · intro e_ w_ k_ hf_ hR_
          have S_ : St w_ (fun _ => False) w_ [] [bl b5 [Value.func (.func 73) #[] #[P b4 0, P b5 0]] 94, bl b4 ([I q0.Heap.Low, I q0.Heap.High] ++ (sgE eSpan q0.Eats 2 ++ (sg q0.Extra 3 ++ [SL A6 q0.Days.length c7, I q0.Collier.Low, I q0.Collier.High, I q0.Brings, SL A9 q0.Dips.length c10]))) 29, rd intE 1 A1 c2 a0, rd eCoalDay 3 A6 c7 q0.Days, rd eCoalDip 3 A9 c10 q0.Dips, bl 1 [I (-1), I (-1)] 123] := S38.asP k_
          refine hopE [(10, I z_2)] ⟨((hf_ 10 rfl).trans (rfl : _ = I z_2)), trivial⟩ ?_
          refine p_mI rfl ?_
          refine wp_nil ?_
          exact ⟨_, rfl, S_.keep, rfl⟩
        · intro e_ w_ k_ hf_ hR_
          have S_ : St w_ (fun _ => False) w_ [] [bl b5 [Value.func (.func 73) #[] #[P b4 0, P b5 0]] 94, bl b4 ([I q0.Heap.Low, I q0.Heap.High] ++ (sgE eSpan q0.Eats 2 ++ (sg q0.Extra 3 ++ [SL A6 q0.Days.length c7, I q0.Collier.Low, I q0.Collier.High, I q0.Brings, SL A9 q0.Dips.length c10]))) 29, rd intE 1 A1 c2 a0, rd eCoalDay 3 A6 c7 q0.Days, rd eCoalDip 3 A9 c10 q0.Dips, bl 1 [I (-1), I (-1)] 123] := S38.asP k_
          obtain ⟨_, _, _, _, q43⟩ := hR_ 5 45 rfl (Nat.le_of_ble_eq_true rfl) rfl
          refine hopE [(45, I z_2)] ⟨q43, trivial⟩ ?_
          refine p_bsl (enc := intE) (l := ([z_2] : List Int)) I (fun _ => rfl) sc39 in3 intE_len rfl (by decide) (by decide) zr3_1 S_ rfl fun A44 c45 w46 S47 => ?_
          refine wp_nil ?_
          exact ⟨_, rfl, S47.keep, ⟨(A44, c45), rfl, ⟨BtwL.of (New.al (S47.newX (i := 0) rfl)) rfl (S47.atX (i := 0) rfl) rfl, trivial⟩, (List.forall_mem_cons.2 ⟨(S47.atX (i := 0) rfl), (fun _ h_ => (List.not_mem_nil h_).elim)⟩)⟩⟩
        · intro e_ w_ k_ hf_ hR_
          have S_ : St w_ (fun _ => False) w_ [] [bl b5 [Value.func (.func 73) #[] #[P b4 0, P b5 0]] 94, bl b4 ([I q0.Heap.Low, I q0.Heap.High] ++ (sgE eSpan q0.Eats 2 ++ (sg q0.Extra 3 ++ [SL A6 q0.Days.length c7, I q0.Collier.Low, I q0.Collier.High, I q0.Brings, SL A9 q0.Dips.length c10]))) 29, rd intE 1 A1 c2 a0, rd eCoalDay 3 A6 c7 q0.Days, rd eCoalDip 3 A9 c10 q0.Dips, bl 1 [I (-1), I (-1)] 123] := S38.asP k_
          obtain ⟨_, _, _, _, q49⟩ := hR_ 4 44 rfl (Nat.le_of_ble_eq_true rfl) rfl
          obtain ⟨_, _, _, _, ⟨A44, c45⟩, q50, p51, a52⟩ := hR_ 6 46 rfl (Nat.le_of_ble_eq_true rfl) rfl
          replace q50 : e_ 46 = SL A44 ([z_2] : List Int).length c45 := q50
          have S_ := St.addL' S_ (a52 _ (.head _)) (fun _ _ _ h_ => (List.not_mem_nil h_).elim)
          refine hopE [(44, SL A1 a0.length a0.length), (46, SL A44 ([z_2] : List Int).length c45)] ⟨q49, q50, trivial⟩ ?_
          refine p_appN (enc := intE) sc39 in3 rfl intE_len (by decide) S_ (rd_full (S_.atP (i := 3) rfl)).1 rfl (gr_sl intE_len (S_.atP (i := 0) rfl)) h57 (by simp) rfl rfl fun A55 c56 w53 S54 => ?_
          refine wp_nil ?_
          exact ⟨_, rfl, S54.keep, ⟨(A55, c56), rfl, ⟨BtwL.of (New.al (S54.newX (i := 0) rfl)) rfl (S54.atX (i := 0) rfl) rfl, trivial⟩, (List.forall_mem_cons.2 ⟨(S54.atX (i := 0) rfl), (fun _ h_ => (List.not_mem_nil h_).elim)⟩)⟩⟩
        · intro e_ w_ k_ hf_ hR_
          have S_ : St w_ (fun _ => False) w_ [] [bl b5 [Value.func (.func 73) #[] #[P b4 0, P b5 0]] 94, bl b4 ([I q0.Heap.Low, I q0.Heap.High] ++ (sgE eSpan q0.Eats 2 ++ (sg q0.Extra 3 ++ [SL A6 q0.Days.length c7, I q0.Collier.Low, I q0.Collier.High, I q0.Brings, SL A9 q0.Dips.length c10]))) 29, rd intE 1 A1 c2 a0, rd eCoalDay 3 A6 c7 q0.Days, rd eCoalDip 3 A9 c10 q0.Dips, bl 1 [I (-1), I (-1)] 123] := S38.asP k_
          refine hopE [(1, I a1)] ⟨((hf_ 1 rfl).trans (rfl : _ = I a1)), trivial⟩ ?_
          refine p_mI rfl ?_
          refine wp_nil ?_
          exact ⟨_, rfl, S_.keep, rfl⟩
        · intro e_ w_ k_ hf_ hR_
          have S_ : St w_ (fun _ => False) w_ [] [bl b5 [Value.func (.func 73) #[] #[P b4 0, P b5 0]] 94, bl b4 ([I q0.Heap.Low, I q0.Heap.High] ++ (sgE eSpan q0.Eats 2 ++ (sg q0.Extra 3 ++ [SL A6 q0.Days.length c7, I q0.Collier.Low, I q0.Collier.High, I q0.Brings, SL A9 q0.Dips.length c10]))) 29, rd intE 1 A1 c2 a0, rd eCoalDay 3 A6 c7 q0.Days, rd eCoalDip 3 A9 c10 q0.Dips, bl 1 [I (-1), I (-1)] 123] := S38.asP k_
          obtain ⟨_, _, _, _, q59⟩ := hR_ 0 40 rfl (Nat.le_of_ble_eq_true rfl) rfl
          obtain ⟨_, _, _, _, ⟨A55, c56⟩, q60, p61, a62⟩ := hR_ 7 47 rfl (Nat.le_of_ble_eq_true rfl) rfl
          replace q60 : e_ 47 = SL A55 (a0 ++ ([z_2] : List Int)).length c56 := q60
          have S_ := St.addL' S_ (a62 _ (.head _)) (fun _ _ _ h_ => (List.not_mem_nil h_).elim)
          obtain ⟨_, _, _, _, q63⟩ := hR_ 8 48 rfl (Nat.le_of_ble_eq_true rfl) rfl
          refine hopE [(40, Value.func (.func 73) #[] #[P b4 0, P b5 0]), (47, SL A55 (a0 ++ ([z_2] : List Int)).length c56), (48, I a1)] ⟨q59, q60, q63, trivial⟩ ?_
          refine p_cal (ih h65 (S_.atP (i := 1) rfl) (S_.atP (i := 2) rfl) (gr_rd intE_len (S_.atP (i := 0) rfl)) (S_.atP (i := 4) rfl) (S_.atP (i := 5) rfl) (S_.atP (i := 6) rfl)) fu73 rfl ?_
          rintro _ w66 ⟨A68, c69, rfl, k67, ⟨o70, n71⟩, _⟩
          have S72 := S_.callN k67 [rd intE 1 A68 c69 r64.1] (List.forall_mem_cons.2 ⟨⟨o70, Al.inL n71 ((List.forall_mem_cons.2 ⟨(fp_gr (i := 0) rfl), (List.forall_mem_cons.2 ⟨(fp_mem (i := 4) rfl), (List.forall_mem_cons.2 ⟨(fp_mem (i := 5) rfl), (fun _ h_ => (List.not_mem_nil h_).elim)⟩)⟩)⟩))⟩, (fun _ h_ => (List.not_mem_nil h_).elim)⟩)
          refine wp_nil ?_
          exact ⟨_, rfl, S72.keep, ⟨(A68, c69), rfl, ⟨BtwV.of n71 rfl (S72.atP (i := 0) rfl) rfl (List.forall_mem_cons.2 ⟨(fun b_ h_ => .inl (vblk_sl h_)), (List.forall_mem_cons.2 ⟨(fun b_ h_ => .inr ⟨_, List.mem_of_getElem? (i := 0) rfl, h_⟩), (List.forall_mem_cons.2 ⟨(fun b_ h_ => .inr ⟨_, List.mem_of_getElem? (i := 1) rfl, h_⟩), (fun _ h_ => (List.not_mem_nil h_).elim)⟩)⟩)⟩), trivial⟩, (List.forall_mem_cons.2 ⟨(S72.atP (i := 0) rfl), (fun _ h_ => (List.not_mem_nil h_).elim)⟩)⟩⟩
        · intro e_ w_ k_ hf_ hR_
          have S_ : St w_ (fun _ => False) w_ [] [bl b5 [Value.func (.func 73) #[] #[P b4 0, P b5 0]] 94, bl b4 ([I q0.Heap.Low, I q0.Heap.High] ++ (sgE eSpan q0.Eats 2 ++ (sg q0.Extra 3 ++ [SL A6 q0.Days.length c7, I q0.Collier.Low, I q0.Collier.High, I q0.Brings, SL A9 q0.Dips.length c10]))) 29, rd intE 1 A1 c2 a0, rd eCoalDay 3 A6 c7 q0.Days, rd eCoalDip 3 A9 c10 q0.Dips, bl 1 [I (-1), I (-1)] 123] := S38.asP k_
          obtain ⟨_, _, _, _, ⟨A68, c69⟩, q73, p74, a75⟩ := hR_ 9 49 rfl (Nat.le_of_ble_eq_true rfl) rfl
          replace q73 : e_ 49 = TU [SL A68 r64.1.length c69, B r64.2] := q73
          have S_ := St.addL' S_ (a75 _ (.head _)) (fun _ _ _ h_ => (List.not_mem_nil h_).elim)
          refine hopE [(49, TU [SL A68 r64.1.length c69, B r64.2])] ⟨q73, trivial⟩ ?_
          refine p_mT rfl ?_
          refine wp_nil ?_
          exact ⟨_, rfl, S_.keep, rfl⟩
        · intro e_ w_ k_ hf_ hR_
          have S_ : St w_ (fun _ => False) w_ [] [bl b5 [Value.func (.func 73) #[] #[P b4 0, P b5 0]] 94, bl b4 ([I q0.Heap.Low, I q0.Heap.High] ++ (sgE eSpan q0.Eats 2 ++ (sg q0.Extra 3 ++ [SL A6 q0.Days.length c7, I q0.Collier.Low, I q0.Collier.High, I q0.Brings, SL A9 q0.Dips.length c10]))) 29, rd intE 1 A1 c2 a0, rd eCoalDay 3 A6 c7 q0.Days, rd eCoalDip 3 A9 c10 q0.Dips, bl 1 [I (-1), I (-1)] 123] := S38.asP k_
          obtain ⟨_, _, _, _, ⟨A68, c69⟩, q77, p78, a79⟩ := hR_ 9 49 rfl (Nat.le_of_ble_eq_true rfl) rfl
          replace q77 : e_ 49 = TU [SL A68 r64.1.length c69, B r64.2] := q77
          have S_ := St.addL' S_ (a79 _ (.head _)) (fun _ _ _ h_ => (List.not_mem_nil h_).elim)
          obtain ⟨_, _, _, _, q76⟩ := hR_ 10 39 rfl (Nat.le_of_ble_eq_true rfl) rfl
          replace q76 : e_ 39 = TU [SL A68 r64.1.length c69, B r64.2] := (Option.some.inj ((congrArg some q77).symm.trans q76)).symm
          refine hopE [(39, TU [SL A68 r64.1.length c69, B r64.2])] ⟨q76, trivial⟩ ?_
          refine p_ext rfl rfl ?_
          refine wp_nil ?_
          exact ⟨_, rfl, S_.keep, rfl⟩
        · intro e_ w_ k_ hf_ hR_
          have S_ : St w_ (fun _ => False) w_ [] [bl b5 [Value.func (.func 73) #[] #[P b4 0, P b5 0]] 94, bl b4 ([I q0.Heap.Low, I q0.Heap.High] ++ (sgE eSpan q0.Eats 2 ++ (sg q0.Extra 3 ++ [SL A6 q0.Days.length c7, I q0.Collier.Low, I q0.Collier.High, I q0.Brings, SL A9 q0.Dips.length c10]))) 29, rd intE 1 A1 c2 a0, rd eCoalDay 3 A6 c7 q0.Days, rd eCoalDip 3 A9 c10 q0.Dips, bl 1 [I (-1), I (-1)] 123] := S38.asP k_
          obtain ⟨_, _, _, _, ⟨A68, c69⟩, q81, p82, a83⟩ := hR_ 9 49 rfl (Nat.le_of_ble_eq_true rfl) rfl
          replace q81 : e_ 49 = TU [SL A68 r64.1.length c69, B r64.2] := q81
          have S_ := St.addL' S_ (a83 _ (.head _)) (fun _ _ _ h_ => (List.not_mem_nil h_).elim)
          obtain ⟨_, _, _, _, q80⟩ := hR_ 10 39 rfl (Nat.le_of_ble_eq_true rfl) rfl
          replace q80 : e_ 39 = TU [SL A68 r64.1.length c69, B r64.2] := (Option.some.inj ((congrArg some q81).symm.trans q80)).symm
          refine hopE [(39, TU [SL A68 r64.1.length c69, B r64.2])] ⟨q80, trivial⟩ ?_
          refine p_ext rfl rfl ?_
          refine wp_nil ?_
          exact ⟨_, rfl, S_.keep, rfl⟩
        · intro e_ w_ k_ hf_ hR_
          have S_ : St w_ (fun _ => False) w_ [] [bl b5 [Value.func (.func 73) #[] #[P b4 0, P b5 0]] 94, bl b4 ([I q0.Heap.Low, I q0.Heap.High] ++ (sgE eSpan q0.Eats 2 ++ (sg q0.Extra 3 ++ [SL A6 q0.Days.length c7, I q0.Collier.Low, I q0.Collier.High, I q0.Brings, SL A9 q0.Dips.length c10]))) 29, rd intE 1 A1 c2 a0, rd eCoalDay 3 A6 c7 q0.Days, rd eCoalDip 3 A9 c10 q0.Dips, bl 1 [I (-1), I (-1)] 123] := S38.asP k_
          obtain ⟨_, _, _, _, ⟨A68, c69⟩, q86, p87, a88⟩ := hR_ 9 49 rfl (Nat.le_of_ble_eq_true rfl) rfl
          replace q86 : e_ 49 = TU [SL A68 r64.1.length c69, B r64.2] := q86
          have S_ := St.addL' S_ (a88 _ (.head _)) (fun _ _ _ h_ => (List.not_mem_nil h_).elim)
          obtain ⟨_, _, _, _, q85⟩ := hR_ 10 39 rfl (Nat.le_of_ble_eq_true rfl) rfl
          replace q85 : e_ 39 = TU [SL A68 r64.1.length c69, B r64.2] := (Option.some.inj ((congrArg some q86).symm.trans q85)).symm
          obtain ⟨_, _, _, _, q84⟩ := hR_ 11 50 rfl (Nat.le_of_ble_eq_true rfl) rfl
          replace q84 : e_ 50 = SL A68 r64.1.length c69 := (Option.some.inj ((congrArg (exG 0) q85).symm.trans q84)).symm
          refine hopE [(50, SL A68 r64.1.length c69)] ⟨q84, trivial⟩ ?_
          refine p_aS rfl ?_
          refine wp_nil ?_
          exact ⟨_, rfl, S_.keep, rfl⟩
        · intro e_ w_ k_ hf_ hR_
          have S_ : St w_ (fun _ => False) w_ [] [bl b5 [Value.func (.func 73) #[] #[P b4 0, P b5 0]] 94, bl b4 ([I q0.Heap.Low, I q0.Heap.High] ++ (sgE eSpan q0.Eats 2 ++ (sg q0.Extra 3 ++ [SL A6 q0.Days.length c7, I q0.Collier.Low, I q0.Collier.High, I q0.Brings, SL A9 q0.Dips.length c10]))) 29, rd intE 1 A1 c2 a0, rd eCoalDay 3 A6 c7 q0.Days, rd eCoalDip 3 A9 c10 q0.Dips, bl 1 [I (-1), I (-1)] 123] := S38.asP k_
          obtain ⟨_, _, _, _, ⟨A68, c69⟩, q91, p92, a93⟩ := hR_ 9 49 rfl (Nat.le_of_ble_eq_true rfl) rfl
          replace q91 : e_ 49 = TU [SL A68 r64.1.length c69, B r64.2] := q91
          have S_ := St.addL' S_ (a93 _ (.head _)) (fun _ _ _ h_ => (List.not_mem_nil h_).elim)
          obtain ⟨_, _, _, _, q90⟩ := hR_ 10 39 rfl (Nat.le_of_ble_eq_true rfl) rfl
          replace q90 : e_ 39 = TU [SL A68 r64.1.length c69, B r64.2] := (Option.some.inj ((congrArg some q91).symm.trans q90)).symm
          obtain ⟨_, _, _, _, q89⟩ := hR_ 12 51 rfl (Nat.le_of_ble_eq_true rfl) rfl
          replace q89 : e_ 51 = B r64.2 := (Option.some.inj ((congrArg (exG 1) q90).symm.trans q89)).symm
          refine hopE [(51, B r64.2)] ⟨q89, trivial⟩ ?_
          refine p_aB rfl ?_
          refine wp_nil ?_
          exact ⟨_, rfl, S_.keep, rfl⟩
        intro e94 w95 lo96 hi97 k98 hf99 hR100 hd101
        have S102 := S38.call k98
        have q103 : e94 40 = Value.func (.func 73) #[] #[P b4 0, P b5 0] := (hR100 0 40 (Nat.le_of_ble_eq_true rfl) rfl).2.2.2
        have q104 : e94 41 = SL A1 a0.length c2 := (hR100 1 41 (Nat.le_of_ble_eq_true rfl) rfl).2.2.2
        have q105 : e94 42 = I (a0.length : Int) := (hR100 2 42 (Nat.le_of_ble_eq_true rfl) rfl).2.2.2
        have q106 : e94 43 = I (a0.length : Int) := (hR100 3 43 (Nat.le_of_ble_eq_true rfl) rfl).2.2.2
        have q107 : e94 44 = SL A1 a0.length a0.length := (hR100 4 44 (Nat.le_of_ble_eq_true rfl) rfl).2.2.2
        have q108 : e94 45 = I z_2 := (hR100 5 45 (Nat.le_of_ble_eq_true rfl) rfl).2.2.2
        obtain ⟨h110, h111, h112, ⟨A44, c45⟩, q109, h113, h114⟩ := hR100 6 46 (Nat.le_of_ble_eq_true rfl) rfl
        replace q109 : e94 46 = SL A44 ([z_2] : List Int).length c45 := q109
        obtain ⟨p115, _⟩ := h113
        obtain ⟨h118, h119, h120, ⟨A55, c56⟩, q117, h121, h122⟩ := hR100 7 47 (Nat.le_of_ble_eq_true rfl) rfl
        replace q117 : e94 47 = SL A55 (a0 ++ ([z_2] : List Int)).length c56 := q117
        obtain ⟨p123, _⟩ := h121
        have q125 : e94 48 = I a1 := (hR100 8 48 (Nat.le_of_ble_eq_true rfl) rfl).2.2.2
        obtain ⟨h127, h128, h129, ⟨A68, c69⟩, q126, h130, h131⟩ := hR100 9 49 (Nat.le_of_ble_eq_true rfl) rfl
        replace q126 : e94 49 = TU [SL A68 r64.1.length c69, B r64.2] := q126
        obtain ⟨p132, _⟩ := h130
        have q134 : Al w37 [rd eCoalDay 3 A6 c7 q0.Days, rd eCoalDip 3 A9 c10 q0.Dips] (rd intE 1 A68 c69 r64.1) := BtwV.al p132 h127 (fun b_ h_ => by rw [q117] at h_; exact Nat.le_trans h118 ((p123 b_ (vblk_gr h_)).elim (fun q_ => q_.1) (fun ⟨_, hq_, _⟩ => (List.not_mem_nil hq_).elim)))
        have S133 := St.addR S102 (h131 _ (.head _)) (fun b_ h_ x_ hx_ hb_ => (q134 b_ h_).elim (fun q_ => by have := x_.inb _ _ (S38.xs x_ hx_) hb_; omega) (fun ⟨q_, hq_, hqb_⟩ => S38.dp x_ hx_ q_ ((List.forall_mem_cons.2 ⟨List.mem_of_getElem? (i := 3) rfl, (List.forall_mem_cons.2 ⟨List.mem_of_getElem? (i := 4) rfl, (fun _ h_ => (List.not_mem_nil h_).elim)⟩)⟩) q_ hq_) b_ hb_ hqb_))
        have q135 : e94 39 = TU [SL A68 r64.1.length c69, B r64.2] := (Option.some.inj ((congrArg some q126).symm.trans (hR100 10 39 (Nat.le_of_ble_eq_true rfl) rfl).2.2.2)).symm
        have q136 : e94 50 = SL A68 r64.1.length c69 := (Option.some.inj ((congrArg (exG 0) q135).symm.trans (hR100 11 50 (Nat.le_of_ble_eq_true rfl) rfl).2.2.2)).symm
        have q137 : e94 51 = B r64.2 := (Option.some.inj ((congrArg (exG 1) q135).symm.trans (hR100 12 51 (Nat.le_of_ble_eq_true rfl) rfl).2.2.2)).symm
        have q138 : e94 11 = SL A68 r64.1.length c69 := (Option.some.inj ((congrArg some q136).symm.trans (hR100 13 11 (Nat.le_of_ble_eq_true rfl) rfl).2.2.2)).symm
        have q139 : e94 12 = B r64.2 := (hR100 14 12 (Nat.le_of_ble_eq_true rfl) rfl).2.2.2
        refine tailE [(0, SL A1 a0.length c2), (1, I a1), (2, P b4 0), (3, P b5 0), (8, I (a0.length : Int)), (10, I z_2), (11, SL A68 r64.1.length c69), (12, B r64.2)] ⟨((hf99 0 rfl).trans (rfl : _ = SL A1 a0.length c2)), ((hf99 1 rfl).trans (rfl : _ = I a1)), ((hf99 2 rfl).trans (rfl : _ = P b4 0)), ((hf99 3 rfl).trans (rfl : _ = P b5 0)), ((hf99 8 rfl).trans (rfl : _ = I (a0.length : Int))), ((hf99 10 rfl).trans (rfl : _ = I z_2)), q138, q139, trivial⟩ ?_
        intro g140
        refine wp_nil ?_
        refine c_seq ?_
        refine reg ?_
        refine p_mB rfl ?_
        refine wp_nil ?_
        refine c_cond rfl (fun c141 => ?_) (fun c141 => ?_)
        · replace H := condT c141 H
          refine c_seq ?_
          refine reg ?_
          refine p_mS rfl ?_
          refine p_aS rfl ?_
          refine p_aB rfl ?_
          refine wp_nil ?_
          obtain rfl := Option.some.inj H
          refine c_ret ?_; show bodyPostM (Fr none) 0 Tryd.prog Tryd.f73 _ .ret _ _
          refine ret_of (res2 rfl (rvT (rfl : _ = SL A68 r64.1.length c69)) (rvT (rfl : _ = B true))) ?_
          exact ⟨_, rfl, A68, c69, rfl, S133.keep, ⟨(S133.atP (i := 0) rfl), (Al.up q134 S38.keep.size (List.forall_mem_cons.2 ⟨(Al.self (i := 1) rfl), (List.forall_mem_cons.2 ⟨(Al.self (i := 2) rfl), (fun _ h_ => (List.not_mem_nil h_).elim)⟩)⟩))⟩, trivial⟩
        · replace H := condF c141 H
          refine c_skip ?_
          refine reg ?_
          refine p_mI rfl ?_
          refine p_add rfl rfl ?_
          refine p_aI rfl ?_
          refine wp_nil ?_
          have S142 := S133.pk [] (by decide) [1, 2, 3, 4, 5, 6] rfl rfl
          exact ⟨wr (z_2 + 1), (), _, rfl, ⟨rfl, rfl, rfl, rfl, rfl, rfl, trivial⟩, H, S142⟩
      · replace H := condF c39 H
        refine c_exit ?_
        refine c_seq ?_
        refine reg ?_
        refine p_aS rfl ?_
        refine p_aB rfl ?_
        refine wp_nil ?_
        obtain rfl := Option.some.inj H
        refine c_ret ?_; show bodyPostM (Fr none) 0 Tryd.prog Tryd.f73 _ .ret _ _
        refine ret_of (res2 rfl (rvT (rfl : _ = SL none 0 0)) (rvT (rfl : _ = B false))) ?_
        exact ⟨_, rfl, none, 0, rfl, S38.keep, ⟨rd_nil (Nat.zero_le _), Al.nil⟩, trivial⟩

def coal_Wrong_l2 (a0 : CoalBook) (rec_z_1 : Int → Option ((List Int) × Int)) (z_1 : Int) : Option ((List Int) × Int) :=
  bif decide (z_1 < (wr ((a0.Dips.length : Int) + 1))) then ((coal_Wrong_1 big ([] : List _) z_1 a0).bind fun r26 =>
  bif r26.2 then (some (r26.1, 0))
  else (rec_z_1 (wr (z_1 + 1))))
  else (some (([] : List _), 0))

def coal_Wrong (a0 : CoalBook) : Option ((List Int) × Int) :=
  (coal_Check a0).bind fun r11 =>
  bif (r11 != 0) then (some (([] : List _), r11))
  else (loopF (coal_Wrong_l2 a0) big 0)

set_option maxRecDepth 100000 in
theorem coal_Wrong_ok {a0 : CoalBook} {A1 : Option Addr} {c2 : Nat} {A4 : Option Addr} {c5 : Nat} {w : World} {r : (List Int) × Int} (H : coal_Wrong a0 = some r) (h3 : (rd eCoalDay 3 A1 c2 a0.Days).ok w) (h6 : (rd eCoalDip 3 A4 c5 a0.Dips).ok w) (hg7 : (bl 1 [I (-1), I (-1)] 123).ok w) : Calls Tryd.prog 27 #[AG ([I a0.Heap.Low, I a0.Heap.High] ++ (sgE eSpan a0.Eats 2 ++ (sg a0.Extra 3 ++ [SL A1 a0.Days.length c2, I a0.Collier.Low, I a0.Collier.High, I a0.Brings, SL A4 a0.Dips.length c5])))] w fun en w_ => ∃ u_, en = .returned u_ ∧ ∃ A_1 : Option Addr, ∃ c_2 : Nat, u_ = TU [SL A_1 r.1.length c_2, I r.2] ∧ Keep0 w w_ ∧ ((rd intE 1 A_1 c_2 r.1).ok w_ ∧ Al w [rd eCoalDay 3 A1 c2 a0.Days, rd eCoalDip 3 A4 c5 a0.Dips] (rd intE 1 A_1 c_2 r.1)) ∧ True := by
  unfold coal_Wrong at H
  refine fn_of (n := 36) Tryd.func27 rfl rfl (Nat.le_of_ble_eq_true rfl) ?_
  have S : St w (fun _ => False) w [] [rd eCoalDay 3 A1 c2 a0.Days, rd eCoalDip 3 A4 c5 a0.Dips, bl 1 [I (-1), I (-1)] 123] := St.start w _ _ (List.forall_mem_cons.2 ⟨h3, (List.forall_mem_cons.2 ⟨h6, (List.forall_mem_cons.2 ⟨hg7, (fun _ h_ => (List.not_mem_nil h_).elim)⟩)⟩)⟩)
  refine c_seq ?_
  refine reg ?_
  refine p_boxA rfl S fun b8 w9 S10 => ?_
  refine p_aS rfl ?_
  refine p_aI rfl ?_
  refine wp_nil ?_
  refine c_seq ?_
  refine c_seq ?_
  refine reg ?_
  refine p_ldA ty29 sz29 (S10.atX (i := 0) rfl) rfl rfl ?_
  obtain ⟨r11, h12, H⟩ := bindS H
  refine p_cv (coal_Check_ok h12 (S10.atP (i := 0) rfl) (S10.atP (i := 1) rfl)) fu41 rfl S10 fun w13 S14 => ?_
  refine p_aI rfl ?_
  refine wp_nil ?_
  refine c_seq ?_
  refine reg ?_
  refine p_mI rfl ?_
  refine p_cmp rfl rfl rfl ?_
  refine wp_nil ?_
  refine c_cond rfl (fun c15 => ?_) (fun c15 => ?_)
  · replace H := condT c15 H
    refine c_seq ?_
    refine reg ?_
    refine p_mI rfl ?_
    refine p_aS rfl ?_
    refine p_aI rfl ?_
    refine wp_nil ?_
    obtain rfl := Option.some.inj H
    refine c_ret ?_; show bodyPostM (Fr none) 0 Tryd.prog Tryd.f27 _ .ret _ _
    refine ret_of (res2 rfl (rvT (rfl : _ = SL none 0 0)) (rvT (rfl : _ = I r11))) ?_
    exact ⟨_, rfl, none, 0, rfl, S14.keep, ⟨rd_nil (Nat.zero_le _), Al.nil⟩, trivial⟩
  · replace H := condF c15 H
    refine c_skip ?_
    refine c_seq ?_
    refine reg ?_
    refine p_all in94 rfl S14 fun b16 w17 S18 => ?_
    refine wp_nil ?_
    refine c_seq ?_
    refine reg ?_
    refine o_fun (rfl : _ = []) (rfl : _ = [P b8 0, P b16 0]) ?_
    refine p_st sz94 S18 (i := 0) rfl rfl (rfl : _ = Value.func (.func 73) #[] #[P b8 0, P b16 0]) rfl rfl fun w19 S20 => ?_
    refine wp_nil ?_
    refine c_seq ?_
    refine c_seq ?_
    refine reg ?_
    refine p_fld fl29_6 rfl ?_
    refine p_ld ty27 (S20.atX (i := 1) rfl) rfl rfl ?_
    refine p_len rfl sc27 ?_
    refine p_add rfl rfl ?_
    refine p_mI rfl ?_
    refine wp_nil ?_
    refine c_block ?_
    refine c_lop (α := Int) (β := Unit) (coal_Wrong_l2 a0) (fun z_1 y_1 => [(5, P b16 0), (18, I (wr ((a0.Dips.length : Int) + 1))), (19, I z_1)]) (fun z_1 y_1 w_ => St w (fun _ => False) w_ [bl b16 [Value.func (.func 73) #[] #[P b8 0, P b16 0]] 94, bl b8 ([I a0.Heap.Low, I a0.Heap.High] ++ (sgE eSpan a0.Eats 2 ++ (sg a0.Extra 3 ++ [SL A1 a0.Days.length c2, I a0.Collier.Low, I a0.Collier.High, I a0.Brings, SL A4 a0.Dips.length c5]))) 29] [rd eCoalDay 3 A1 c2 a0.Days, rd eCoalDip 3 A4 c5 a0.Dips, bl 1 [I (-1), I (-1)] 123]) 0 () H ⟨rfl, rfl, rfl, trivial⟩ S20 ?_
    intro m21 z_1 y_1 e22 w23 H S24
    unfold coal_Wrong_l2 at H
    refine c_seq ?_
    refine reg ?_
    refine p_cmp rfl rfl rfl ?_
    refine wp_nil ?_
    refine c_seq ?_
    refine c_cond rfl (fun c25 => ?_) (fun c25 => ?_)
    · replace H := condT c25 H
      refine c_skip ?_
      refine c_seq ?_
      refine c_block ?_
      refine c_seq ?_
      refine reg ?_
      refine p_mI rfl ?_
      refine p_aI rfl ?_
      refine wp_nil ?_
      refine c_seq ?_
      refine reg ?_
      refine p_ld ty94 (S24.atX (i := 0) rfl) rfl rfl ?_
      refine p_mI rfl ?_
      obtain ⟨r26, h27, H⟩ := bindS H
      refine p_cal (coal_Wrong_1_ok h27 (S24.atX (i := 0) rfl) (S24.atX (i := 1) rfl) (rd_nil (Nat.zero_le _)) (S24.atP (i := 0) rfl) (S24.atP (i := 1) rfl) (S24.atP (i := 2) rfl)) fu73 rfl ?_
      rintro _ w28 ⟨A30, c31, rfl, k29, ⟨o32, n33⟩, _⟩
      have S34 := S24.callN k29 [rd intE 1 A30 c31 r26.1] (List.forall_mem_cons.2 ⟨⟨o32, Al.inL n33 ((List.forall_mem_cons.2 ⟨fp_nil, (List.forall_mem_cons.2 ⟨(fp_mem (i := 0) rfl), (List.forall_mem_cons.2 ⟨(fp_mem (i := 1) rfl), (fun _ h_ => (List.not_mem_nil h_).elim)⟩)⟩)⟩))⟩, (fun _ h_ => (List.not_mem_nil h_).elim)⟩)
      refine p_mT rfl ?_
      refine p_ext rfl rfl ?_
      refine p_ext rfl rfl ?_
      refine p_aS rfl ?_
      refine p_aB rfl ?_
      refine wp_nil ?_
      refine c_seq ?_
      refine reg ?_
      refine p_mB rfl ?_
      refine wp_nil ?_
      refine c_cond rfl (fun c35 => ?_) (fun c35 => ?_)
      · replace H := condT c35 H
        refine c_seq ?_
        refine reg ?_
        refine p_mS rfl ?_
        refine p_mS rfl ?_
        refine p_len rfl sc39 ?_
        refine p_mS rfl ?_
        refine p_len rfl sc39 ?_
        refine p_cut3 sc39 (S34.atP (i := 0) rfl) rfl rfl rfl ?_
        refine p_aS rfl ?_
        refine p_aI rfl ?_
        refine wp_nil ?_
        obtain rfl := Option.some.inj H
        refine c_ret ?_; show bodyPostM (Fr none) 0 Tryd.prog Tryd.f27 _ .ret _ _
        refine ret_of (res2 rfl (rvT (rfl : _ = SL A30 r26.1.length r26.1.length)) (rvT (rfl : _ = I 0))) ?_
        exact ⟨_, rfl, A30, r26.1.length, rfl, S34.keep, ⟨(rd_full (S34.atP (i := 0) rfl)), Al.rdr (Al.up n33 S24.keep.size (List.forall_mem_cons.2 ⟨Al.nil, (List.forall_mem_cons.2 ⟨(Al.self (i := 0) rfl), (List.forall_mem_cons.2 ⟨(Al.self (i := 1) rfl), (fun _ h_ => (List.not_mem_nil h_).elim)⟩)⟩)⟩))⟩, trivial⟩
      · replace H := condF c35 H
        refine c_skip ?_
        refine reg ?_
        refine p_add rfl rfl ?_
        refine p_mI rfl ?_
        refine wp_nil ?_
        have S36 := S34.pk [0, 1] (by decide) [1, 2, 3] rfl rfl
        exact ⟨wr (z_1 + 1), (), _, rfl, ⟨rfl, rfl, rfl, trivial⟩, H, S36⟩
    · replace H := condF c25 H
      refine c_exit ?_
      refine c_seq ?_
      refine reg ?_
      refine p_aS rfl ?_
      refine p_aI rfl ?_
      refine wp_nil ?_
      obtain rfl := Option.some.inj H
      refine c_ret ?_; show bodyPostM (Fr none) 0 Tryd.prog Tryd.f27 _ .ret _ _
      refine ret_of (res2 rfl (rvT (rfl : _ = SL none 0 0)) (rvT (rfl : _ = I 0))) ?_
      exact ⟨_, rfl, none, 0, rfl, S24.keep, ⟨rd_nil (Nat.zero_le _), Al.nil⟩, trivial⟩

def coal_Lasts_l1 (r20 : Coal_book × Int) (a1 : Int) (rec_z_1 : (Int × Int) → Option (Int × Int)) (z_1 : Int × Int) : Option (Int × Int) :=
  bif decide (z_1.2 < 2) then (need (inI z_1.2 2) <|
  bif z_1.2 == 0 then ((coal_book_some r20.1 a1).bind fun r99 =>
  bif r99 then (rec_z_1 (wr (z_1.1 + 1), wr (z_1.2 + 1)))
  else (rec_z_1 (z_1.1, wr (z_1.2 + 1))))
  else ((coal_book_each r20.1 a1).bind fun r104 =>
  bif r104 then (rec_z_1 (wr (z_1.1 + 1), wr (z_1.2 + 1)))
  else (rec_z_1 (z_1.1, wr (z_1.2 + 1)))))
  else (some (z_1.1, 0))

def coal_Lasts_l2 (r20 : Coal_book × Int) (a1 : Int) (rec_z_1 : (Int × Int) → Option (Int × Int)) (z_1 : Int × Int) : Option (Int × Int) :=
  bif decide (z_1.2 < 2) then (need (inI z_1.2 2) <|
  bif z_1.2 == 0 then ((coal_book_some r20.1 a1).bind fun r157 =>
  bif r157 then (rec_z_1 (wr (z_1.1 + 1), wr (z_1.2 + 1)))
  else (rec_z_1 (z_1.1, wr (z_1.2 + 1))))
  else ((coal_book_each r20.1 a1).bind fun r162 =>
  bif r162 then (rec_z_1 (wr (z_1.1 + 1), wr (z_1.2 + 1)))
  else (rec_z_1 (z_1.1, wr (z_1.2 + 1)))))
  else (some (z_1.1, 0))

def coal_Lasts (a0 : CoalBook) (a1 : Int) : Option (Int × Int) :=
  (coal_isDay a0 a1).bind fun r14 =>
  (coal_asked a0 r14).bind fun r20 =>
  bif (r20.2 != 0) then (some (0, r20.2))
  else (loopF (coal_Lasts_l1 r20 a1) big (0, 0))

set_option maxRecDepth 100000 in
theorem coal_Lasts_ok {a0 : CoalBook} {a1 : Int} {A1 : Option Addr} {c2 : Nat} {A4 : Option Addr} {c5 : Nat} {w : World} {r : Int × Int} (H : coal_Lasts a0 a1 = some r) (h3 : (rd eCoalDay 3 A1 c2 a0.Days).ok w) (h6 : (rd eCoalDip 3 A4 c5 a0.Dips).ok w) (hg7 : (bl 0 [Value.func (.func 128) #[] #[], Value.func (.func 129) #[] #[]] 110).ok w) (hg8 : (bl 1 [I (-1), I (-1)] 123).ok w) : Calls Tryd.prog 30 #[AG ([I a0.Heap.Low, I a0.Heap.High] ++ (sgE eSpan a0.Eats 2 ++ (sg a0.Extra 3 ++ [SL A1 a0.Days.length c2, I a0.Collier.Low, I a0.Collier.High, I a0.Brings, SL A4 a0.Dips.length c5]))), I a1] w (RetV w (TU [I r.1, I r.2])) := by
  unfold coal_Lasts at H
  refine fn_of (n := 34) Tryd.func30 rfl rfl (Nat.le_of_ble_eq_true rfl) ?_
  have S : St w (fun _ => False) w [] [rd eCoalDay 3 A1 c2 a0.Days, rd eCoalDip 3 A4 c5 a0.Dips, bl 0 [Value.func (.func 128) #[] #[], Value.func (.func 129) #[] #[]] 110, bl 1 [I (-1), I (-1)] 123] := St.start w _ _ (List.forall_mem_cons.2 ⟨h3, (List.forall_mem_cons.2 ⟨h6, (List.forall_mem_cons.2 ⟨hg7, (List.forall_mem_cons.2 ⟨hg8, (fun _ h_ => (List.not_mem_nil h_).elim)⟩)⟩)⟩)⟩)
  refine c_seq ?_
  refine reg ?_
  refine p_boxA rfl S fun b9 w10 S11 => ?_
  refine p_aI rfl ?_
  refine p_aI rfl ?_
  refine wp_nil ?_
  refine c_seq ?_
  obtain ⟨r14, h15, H⟩ := bindS H
  obtain ⟨r20, h21, H⟩ := bindS H
  refine reg_fl mixed 9 7 (by kernel_rfl) [rv (AG ([I a0.Heap.Low, I a0.Heap.High] ++ (sgE eSpan a0.Eats 2 ++ (sg a0.Extra 3 ++ [SL A1 a0.Days.length c2, I a0.Collier.Low, I a0.Collier.High, I a0.Brings, SL A4 a0.Dips.length c5])))), rv (AG ([I a0.Heap.Low, I a0.Heap.High] ++ (sgE eSpan a0.Eats 2 ++ (sg a0.Extra 3 ++ [SL A1 a0.Days.length c2, I a0.Collier.Low, I a0.Collier.High, I a0.Brings, SL A4 a0.Dips.length c5])))), rv (I a1), rv (B r14), rx (α := (Option Addr) × Nat × (Option Addr) × Nat × (Option Nat)) (fun ⟨A24, c25, A26, c27, m28⟩ => TU [AG ([I r20.1.CoalBook.Heap.Low, I r20.1.CoalBook.Heap.High] ++ (sgE eSpan r20.1.CoalBook.Eats 2 ++ (sg r20.1.CoalBook.Extra 3 ++ [SL A24 r20.1.CoalBook.Days.length c25, I r20.1.CoalBook.Collier.Low, I r20.1.CoalBook.Collier.High, I r20.1.CoalBook.Brings, SL A26 r20.1.CoalBook.Dips.length c27, Value.map m28]))), I r20.2]) (fun ⟨A24, c25, A26, c27, m28⟩ lo hi => BtwL lo hi [rd eCoalDay 3 A1 c2 a0.Days, rd eCoalDip 3 A4 c5 a0.Dips] (rd eCoalDay 3 A24 c25 r20.1.CoalBook.Days) ∧ BtwL lo hi [] (rd eCoalDip 3 A26 c27 r20.1.CoalBook.Dips) ∧ BtwL lo hi [] (mpo ekG iE m28 r20.1.costs_) ∧ True) (fun ⟨A24, c25, A26, c27, m28⟩ => [rd eCoalDay 3 A24 c25 r20.1.CoalBook.Days, rd eCoalDip 3 A26 c27 r20.1.CoalBook.Dips, mpo ekG iE m28 r20.1.costs_]), dv 16 some, dv 11 (exG 0), dv 11 (exG 1), rx (α := Nat) (fun b47 => P b47 0) (fun b47 lo hi => BtwL lo hi [] (bl b47 ([I 0, I 0, I 0, I 0, I 0, I 0] ++ (sg (List.replicate 3 0) 3 ++ [SL none 0 0, I 0, I 0, I 0, SL none 0 0, Value.map none])) 92) ∧ True) (fun b47 => [bl b47 ([I 0, I 0, I 0, I 0, I 0, I 0] ++ (sg (List.replicate 3 0) 3 ++ [SL none 0 0, I 0, I 0, I 0, SL none 0 0, Value.map none])) 92])] [[], [], [], [], [], [16], [11], [11], []] rfl (by kernel_rfl) [[], [], [], [1, 2], [0, 1, 2, 3], [0, 1, 2, 3, 4], [0, 1, 2, 3, 4, 5], [0, 1, 2, 3, 4, 5], [], [0, 1, 2, 3, 4, 5, 6, 8], [0, 1, 2, 3, 4, 5, 6, 7, 8, 9]] (by kernel_rfl) ⟨?_, ?_, ?_, ?_, ?_, ?_, ?_, ?_, ?_, trivial⟩ ?_ ?_
  · intro e_ w_ k_ hf_ hR_
    have S_ : St w_ (fun _ => False) w_ [] [bl b9 ([I a0.Heap.Low, I a0.Heap.High] ++ (sgE eSpan a0.Eats 2 ++ (sg a0.Extra 3 ++ [SL A1 a0.Days.length c2, I a0.Collier.Low, I a0.Collier.High, I a0.Brings, SL A4 a0.Dips.length c5]))) 29, rd eCoalDay 3 A1 c2 a0.Days, rd eCoalDip 3 A4 c5 a0.Dips, bl 0 [Value.func (.func 128) #[] #[], Value.func (.func 129) #[] #[]] 110, bl 1 [I (-1), I (-1)] 123] := S11.asP k_
    refine hopE [(2, P b9 0)] ⟨((hf_ 2 rfl).trans (rfl : _ = P b9 0)), trivial⟩ ?_
    refine p_ldA ty29 sz29 (S_.atP (i := 0) rfl) rfl rfl ?_
    refine wp_nil ?_
    exact ⟨_, rfl, S_.keep, rfl⟩
  · intro e_ w_ k_ hf_ hR_
    have S_ : St w_ (fun _ => False) w_ [] [bl b9 ([I a0.Heap.Low, I a0.Heap.High] ++ (sgE eSpan a0.Eats 2 ++ (sg a0.Extra 3 ++ [SL A1 a0.Days.length c2, I a0.Collier.Low, I a0.Collier.High, I a0.Brings, SL A4 a0.Dips.length c5]))) 29, rd eCoalDay 3 A1 c2 a0.Days, rd eCoalDip 3 A4 c5 a0.Dips, bl 0 [Value.func (.func 128) #[] #[], Value.func (.func 129) #[] #[]] 110, bl 1 [I (-1), I (-1)] 123] := S11.asP k_
    refine hopE [(2, P b9 0)] ⟨((hf_ 2 rfl).trans (rfl : _ = P b9 0)), trivial⟩ ?_
    refine p_ldA ty29 sz29 (S_.atP (i := 0) rfl) rfl rfl ?_
    refine wp_nil ?_
    exact ⟨_, rfl, S_.keep, rfl⟩
  · intro e_ w_ k_ hf_ hR_
    have S_ : St w_ (fun _ => False) w_ [] [bl b9 ([I a0.Heap.Low, I a0.Heap.High] ++ (sgE eSpan a0.Eats 2 ++ (sg a0.Extra 3 ++ [SL A1 a0.Days.length c2, I a0.Collier.Low, I a0.Collier.High, I a0.Brings, SL A4 a0.Dips.length c5]))) 29, rd eCoalDay 3 A1 c2 a0.Days, rd eCoalDip 3 A4 c5 a0.Dips, bl 0 [Value.func (.func 128) #[] #[], Value.func (.func 129) #[] #[]] 110, bl 1 [I (-1), I (-1)] 123] := S11.asP k_
    refine hopE [(1, I a1)] ⟨((hf_ 1 rfl).trans (rfl : _ = I a1)), trivial⟩ ?_
    refine p_mI rfl ?_
    refine wp_nil ?_
    exact ⟨_, rfl, S_.keep, rfl⟩
  · intro e_ w_ k_ hf_ hR_
    have S_ : St w_ (fun _ => False) w_ [] [bl b9 ([I a0.Heap.Low, I a0.Heap.High] ++ (sgE eSpan a0.Eats 2 ++ (sg a0.Extra 3 ++ [SL A1 a0.Days.length c2, I a0.Collier.Low, I a0.Collier.High, I a0.Brings, SL A4 a0.Dips.length c5]))) 29, rd eCoalDay 3 A1 c2 a0.Days, rd eCoalDip 3 A4 c5 a0.Dips, bl 0 [Value.func (.func 128) #[] #[], Value.func (.func 129) #[] #[]] 110, bl 1 [I (-1), I (-1)] 123] := S11.asP k_
    obtain ⟨_, _, _, _, q12⟩ := hR_ 1 13 rfl (Nat.le_of_ble_eq_true rfl) rfl
    obtain ⟨_, _, _, _, q13⟩ := hR_ 2 14 rfl (Nat.le_of_ble_eq_true rfl) rfl
    refine hopE [(13, AG ([I a0.Heap.Low, I a0.Heap.High] ++ (sgE eSpan a0.Eats 2 ++ (sg a0.Extra 3 ++ [SL A1 a0.Days.length c2, I a0.Collier.Low, I a0.Collier.High, I a0.Brings, SL A4 a0.Dips.length c5])))), (14, I a1)] ⟨q12, q13, trivial⟩ ?_
    refine p_cv (coal_isDay_ok h15 (S_.atP (i := 1) rfl) (S_.atP (i := 2) rfl)) fu75 rfl S_ fun w16 S17 => ?_
    refine wp_nil ?_
    exact ⟨_, rfl, S17.keep, rfl⟩
  · intro e_ w_ k_ hf_ hR_
    have S_ : St w_ (fun _ => False) w_ [] [bl b9 ([I a0.Heap.Low, I a0.Heap.High] ++ (sgE eSpan a0.Eats 2 ++ (sg a0.Extra 3 ++ [SL A1 a0.Days.length c2, I a0.Collier.Low, I a0.Collier.High, I a0.Brings, SL A4 a0.Dips.length c5]))) 29, rd eCoalDay 3 A1 c2 a0.Days, rd eCoalDip 3 A4 c5 a0.Dips, bl 0 [Value.func (.func 128) #[] #[], Value.func (.func 129) #[] #[]] 110, bl 1 [I (-1), I (-1)] 123] := S11.asP k_
    obtain ⟨_, _, _, _, q18⟩ := hR_ 0 12 rfl (Nat.le_of_ble_eq_true rfl) rfl
    obtain ⟨_, _, _, _, q19⟩ := hR_ 3 15 rfl (Nat.le_of_ble_eq_true rfl) rfl
    refine hopE [(12, AG ([I a0.Heap.Low, I a0.Heap.High] ++ (sgE eSpan a0.Eats 2 ++ (sg a0.Extra 3 ++ [SL A1 a0.Days.length c2, I a0.Collier.Low, I a0.Collier.High, I a0.Brings, SL A4 a0.Dips.length c5])))), (15, B r14)] ⟨q18, q19, trivial⟩ ?_
    refine p_cal (coal_asked_ok h21 (S_.atP (i := 1) rfl) (S_.atP (i := 2) rfl) (S_.atP (i := 4) rfl)) fu74 rfl ?_
    rintro _ w22 ⟨A24, c25, A26, c27, m28, rfl, k23, ⟨o29, n30⟩, ⟨o31, n32⟩, ⟨o33, n34⟩, _⟩
    have S35 := S_.callN k23 [rd eCoalDay 3 A24 c25 r20.1.CoalBook.Days, rd eCoalDip 3 A26 c27 r20.1.CoalBook.Dips, mpo ekG iE m28 r20.1.costs_] (List.forall_mem_cons.2 ⟨⟨o29, Al.inL n30 ((List.forall_mem_cons.2 ⟨(fp_mem (i := 1) rfl), (List.forall_mem_cons.2 ⟨(fp_mem (i := 2) rfl), (fun _ h_ => (List.not_mem_nil h_).elim)⟩)⟩))⟩, (List.forall_mem_cons.2 ⟨⟨o31, New.inL n32⟩, (List.forall_mem_cons.2 ⟨⟨o33, New.inL n34⟩, (fun _ h_ => (List.not_mem_nil h_).elim)⟩)⟩)⟩)
    refine wp_nil ?_
    exact ⟨_, rfl, S35.keep, ⟨(A24, c25, A26, c27, m28), rfl, ⟨BtwL.of n30 rfl (S35.atP (i := 0) rfl) rfl, BtwL.of (New.al (New.mono n32 S_.keep.size)) rfl (S35.atP (i := 1) rfl) rfl, BtwL.of (New.al (New.mono n34 S_.keep.size)) rfl (S35.atP (i := 2) rfl) rfl, trivial⟩, (List.forall_mem_cons.2 ⟨(S35.atP (i := 0) rfl), (List.forall_mem_cons.2 ⟨(S35.atP (i := 1) rfl), (List.forall_mem_cons.2 ⟨(S35.atP (i := 2) rfl), (fun _ h_ => (List.not_mem_nil h_).elim)⟩)⟩)⟩)⟩⟩
  · intro e_ w_ k_ hf_ hR_
    have S_ : St w_ (fun _ => False) w_ [] [bl b9 ([I a0.Heap.Low, I a0.Heap.High] ++ (sgE eSpan a0.Eats 2 ++ (sg a0.Extra 3 ++ [SL A1 a0.Days.length c2, I a0.Collier.Low, I a0.Collier.High, I a0.Brings, SL A4 a0.Dips.length c5]))) 29, rd eCoalDay 3 A1 c2 a0.Days, rd eCoalDip 3 A4 c5 a0.Dips, bl 0 [Value.func (.func 128) #[] #[], Value.func (.func 129) #[] #[]] 110, bl 1 [I (-1), I (-1)] 123] := S11.asP k_
    obtain ⟨_, _, _, _, ⟨A24, c25, A26, c27, m28⟩, q36, p37, a38⟩ := hR_ 4 16 rfl (Nat.le_of_ble_eq_true rfl) rfl
    replace q36 : e_ 16 = TU [AG ([I r20.1.CoalBook.Heap.Low, I r20.1.CoalBook.Heap.High] ++ (sgE eSpan r20.1.CoalBook.Eats 2 ++ (sg r20.1.CoalBook.Extra 3 ++ [SL A24 r20.1.CoalBook.Days.length c25, I r20.1.CoalBook.Collier.Low, I r20.1.CoalBook.Collier.High, I r20.1.CoalBook.Brings, SL A26 r20.1.CoalBook.Dips.length c27, Value.map m28]))), I r20.2] := q36
    have S_ := St.addL' S_ (a38 _ (.head _)) (fun _ _ _ h_ => (List.not_mem_nil h_).elim)
    have S_ := St.addL' S_ (a38 _ (.tail _ (.head _))) (fun _ _ _ h_ => (List.not_mem_nil h_).elim)
    have S_ := St.addL' S_ (a38 _ (.tail _ (.tail _ (.head _)))) (fun _ _ _ h_ => (List.not_mem_nil h_).elim)
    refine hopE [(16, TU [AG ([I r20.1.CoalBook.Heap.Low, I r20.1.CoalBook.Heap.High] ++ (sgE eSpan r20.1.CoalBook.Eats 2 ++ (sg r20.1.CoalBook.Extra 3 ++ [SL A24 r20.1.CoalBook.Days.length c25, I r20.1.CoalBook.Collier.Low, I r20.1.CoalBook.Collier.High, I r20.1.CoalBook.Brings, SL A26 r20.1.CoalBook.Dips.length c27, Value.map m28]))), I r20.2])] ⟨q36, trivial⟩ ?_
    refine p_mT rfl ?_
    refine wp_nil ?_
    exact ⟨_, rfl, S_.keep, rfl⟩
  · intro e_ w_ k_ hf_ hR_
    have S_ : St w_ (fun _ => False) w_ [] [bl b9 ([I a0.Heap.Low, I a0.Heap.High] ++ (sgE eSpan a0.Eats 2 ++ (sg a0.Extra 3 ++ [SL A1 a0.Days.length c2, I a0.Collier.Low, I a0.Collier.High, I a0.Brings, SL A4 a0.Dips.length c5]))) 29, rd eCoalDay 3 A1 c2 a0.Days, rd eCoalDip 3 A4 c5 a0.Dips, bl 0 [Value.func (.func 128) #[] #[], Value.func (.func 129) #[] #[]] 110, bl 1 [I (-1), I (-1)] 123] := S11.asP k_
    obtain ⟨_, _, _, _, ⟨A24, c25, A26, c27, m28⟩, q40, p41, a42⟩ := hR_ 4 16 rfl (Nat.le_of_ble_eq_true rfl) rfl
    replace q40 : e_ 16 = TU [AG ([I r20.1.CoalBook.Heap.Low, I r20.1.CoalBook.Heap.High] ++ (sgE eSpan r20.1.CoalBook.Eats 2 ++ (sg r20.1.CoalBook.Extra 3 ++ [SL A24 r20.1.CoalBook.Days.length c25, I r20.1.CoalBook.Collier.Low, I r20.1.CoalBook.Collier.High, I r20.1.CoalBook.Brings, SL A26 r20.1.CoalBook.Dips.length c27, Value.map m28]))), I r20.2] := q40
    have S_ := St.addL' S_ (a42 _ (.head _)) (fun _ _ _ h_ => (List.not_mem_nil h_).elim)
    have S_ := St.addL' S_ (a42 _ (.tail _ (.head _))) (fun _ _ _ h_ => (List.not_mem_nil h_).elim)
    have S_ := St.addL' S_ (a42 _ (.tail _ (.tail _ (.head _)))) (fun _ _ _ h_ => (List.not_mem_nil h_).elim)
    obtain ⟨_, _, _, _, q39⟩ := hR_ 5 11 rfl (Nat.le_of_ble_eq_true rfl) rfl
    replace q39 : e_ 11 = TU [AG ([I r20.1.CoalBook.Heap.Low, I r20.1.CoalBook.Heap.High] ++ (sgE eSpan r20.1.CoalBook.Eats 2 ++ (sg r20.1.CoalBook.Extra 3 ++ [SL A24 r20.1.CoalBook.Days.length c25, I r20.1.CoalBook.Collier.Low, I r20.1.CoalBook.Collier.High, I r20.1.CoalBook.Brings, SL A26 r20.1.CoalBook.Dips.length c27, Value.map m28]))), I r20.2] := (Option.some.inj ((congrArg some q40).symm.trans q39)).symm
    refine hopE [(11, TU [AG ([I r20.1.CoalBook.Heap.Low, I r20.1.CoalBook.Heap.High] ++ (sgE eSpan r20.1.CoalBook.Eats 2 ++ (sg r20.1.CoalBook.Extra 3 ++ [SL A24 r20.1.CoalBook.Days.length c25, I r20.1.CoalBook.Collier.Low, I r20.1.CoalBook.Collier.High, I r20.1.CoalBook.Brings, SL A26 r20.1.CoalBook.Dips.length c27, Value.map m28]))), I r20.2])] ⟨q39, trivial⟩ ?_
    refine p_ext rfl rfl ?_
    refine wp_nil ?_
    exact ⟨_, rfl, S_.keep, rfl⟩
  · intro e_ w_ k_ hf_ hR_
    have S_ : St w_ (fun _ => False) w_ [] [bl b9 ([I a0.Heap.Low, I a0.Heap.High] ++ (sgE eSpan a0.Eats 2 ++ (sg a0.Extra 3 ++ [SL A1 a0.Days.length c2, I a0.Collier.Low, I a0.Collier.High, I a0.Brings, SL A4 a0.Dips.length c5]))) 29, rd eCoalDay 3 A1 c2 a0.Days, rd eCoalDip 3 A4 c5 a0.Dips, bl 0 [Value.func (.func 128) #[] #[], Value.func (.func 129) #[] #[]] 110, bl 1 [I (-1), I (-1)] 123] := S11.asP k_
    obtain ⟨_, _, _, _, ⟨A24, c25, A26, c27, m28⟩, q44, p45, a46⟩ := hR_ 4 16 rfl (Nat.le_of_ble_eq_true rfl) rfl
    replace q44 : e_ 16 = TU [AG ([I r20.1.CoalBook.Heap.Low, I r20.1.CoalBook.Heap.High] ++ (sgE eSpan r20.1.CoalBook.Eats 2 ++ (sg r20.1.CoalBook.Extra 3 ++ [SL A24 r20.1.CoalBook.Days.length c25, I r20.1.CoalBook.Collier.Low, I r20.1.CoalBook.Collier.High, I r20.1.CoalBook.Brings, SL A26 r20.1.CoalBook.Dips.length c27, Value.map m28]))), I r20.2] := q44
    have S_ := St.addL' S_ (a46 _ (.head _)) (fun _ _ _ h_ => (List.not_mem_nil h_).elim)
    have S_ := St.addL' S_ (a46 _ (.tail _ (.head _))) (fun _ _ _ h_ => (List.not_mem_nil h_).elim)
    have S_ := St.addL' S_ (a46 _ (.tail _ (.tail _ (.head _)))) (fun _ _ _ h_ => (List.not_mem_nil h_).elim)
    obtain ⟨_, _, _, _, q43⟩ := hR_ 5 11 rfl (Nat.le_of_ble_eq_true rfl) rfl
    replace q43 : e_ 11 = TU [AG ([I r20.1.CoalBook.Heap.Low, I r20.1.CoalBook.Heap.High] ++ (sgE eSpan r20.1.CoalBook.Eats 2 ++ (sg r20.1.CoalBook.Extra 3 ++ [SL A24 r20.1.CoalBook.Days.length c25, I r20.1.CoalBook.Collier.Low, I r20.1.CoalBook.Collier.High, I r20.1.CoalBook.Brings, SL A26 r20.1.CoalBook.Dips.length c27, Value.map m28]))), I r20.2] := (Option.some.inj ((congrArg some q44).symm.trans q43)).symm
    refine hopE [(11, TU [AG ([I r20.1.CoalBook.Heap.Low, I r20.1.CoalBook.Heap.High] ++ (sgE eSpan r20.1.CoalBook.Eats 2 ++ (sg r20.1.CoalBook.Extra 3 ++ [SL A24 r20.1.CoalBook.Days.length c25, I r20.1.CoalBook.Collier.Low, I r20.1.CoalBook.Collier.High, I r20.1.CoalBook.Brings, SL A26 r20.1.CoalBook.Dips.length c27, Value.map m28]))), I r20.2])] ⟨q43, trivial⟩ ?_
    refine p_ext rfl rfl ?_
    refine wp_nil ?_
    exact ⟨_, rfl, S_.keep, rfl⟩
  · intro e_ w_ k_ hf_ hR_
    have S_ : St w_ (fun _ => False) w_ [] [bl b9 ([I a0.Heap.Low, I a0.Heap.High] ++ (sgE eSpan a0.Eats 2 ++ (sg a0.Extra 3 ++ [SL A1 a0.Days.length c2, I a0.Collier.Low, I a0.Collier.High, I a0.Brings, SL A4 a0.Dips.length c5]))) 29, rd eCoalDay 3 A1 c2 a0.Days, rd eCoalDip 3 A4 c5 a0.Dips, bl 0 [Value.func (.func 128) #[] #[], Value.func (.func 129) #[] #[]] 110, bl 1 [I (-1), I (-1)] 123] := S11.asP k_
    refine hopE [] trivial ?_
    refine p_allA in92 S_ fun b47 w48 S49 => ?_
    refine wp_nil ?_
    exact ⟨_, rfl, S49.keep, ⟨b47, rfl, ⟨BtwL.of (New.al (S49.newX (i := 0) rfl)) rfl (S49.atX (i := 0) rfl) rfl, trivial⟩, (List.forall_mem_cons.2 ⟨(S49.atX (i := 0) rfl), (fun _ h_ => (List.not_mem_nil h_).elim)⟩)⟩⟩
  · intro e50 w51 lo52 hi53 k54 hf55 hR56 hd57
    have S58 := S11.call k54
    have q59 : e50 12 = AG ([I a0.Heap.Low, I a0.Heap.High] ++ (sgE eSpan a0.Eats 2 ++ (sg a0.Extra 3 ++ [SL A1 a0.Days.length c2, I a0.Collier.Low, I a0.Collier.High, I a0.Brings, SL A4 a0.Dips.length c5]))) := (hR56 0 12 (Nat.le_of_ble_eq_true rfl) rfl).2.2.2
    have q60 : e50 13 = AG ([I a0.Heap.Low, I a0.Heap.High] ++ (sgE eSpan a0.Eats 2 ++ (sg a0.Extra 3 ++ [SL A1 a0.Days.length c2, I a0.Collier.Low, I a0.Collier.High, I a0.Brings, SL A4 a0.Dips.length c5]))) := (hR56 1 13 (Nat.le_of_ble_eq_true rfl) rfl).2.2.2
    have q61 : e50 14 = I a1 := (hR56 2 14 (Nat.le_of_ble_eq_true rfl) rfl).2.2.2
    have q62 : e50 15 = B r14 := (hR56 3 15 (Nat.le_of_ble_eq_true rfl) rfl).2.2.2
    obtain ⟨h64, h65, h66, ⟨A24, c25, A26, c27, m28⟩, q63, h67, h68⟩ := hR56 4 16 (Nat.le_of_ble_eq_true rfl) rfl
    replace q63 : e50 16 = TU [AG ([I r20.1.CoalBook.Heap.Low, I r20.1.CoalBook.Heap.High] ++ (sgE eSpan r20.1.CoalBook.Eats 2 ++ (sg r20.1.CoalBook.Extra 3 ++ [SL A24 r20.1.CoalBook.Days.length c25, I r20.1.CoalBook.Collier.Low, I r20.1.CoalBook.Collier.High, I r20.1.CoalBook.Brings, SL A26 r20.1.CoalBook.Dips.length c27, Value.map m28]))), I r20.2] := q63
    obtain ⟨p69, p70, p71, _⟩ := h67
    have S72 := St.addR S58 (h68 _ (.head _)) (fun b_ h_ x_ hx_ hb_ => (p69 b_ h_).elim (fun q_ => by have := x_.inb _ _ (S11.xs x_ hx_) hb_; omega) (fun ⟨q_, hq_, hqb_⟩ => S11.dp x_ hx_ q_ ((List.forall_mem_cons.2 ⟨List.mem_of_getElem? (i := 0) rfl, (List.forall_mem_cons.2 ⟨List.mem_of_getElem? (i := 1) rfl, (fun _ h_ => (List.not_mem_nil h_).elim)⟩)⟩) q_ hq_) b_ hb_ hqb_))
    have S73 := St.addR S72 (h68 _ (.tail _ (.head _))) (fun b_ h_ x_ hx_ hb_ => (p70 b_ h_).elim (fun q_ => by have := x_.inb _ _ (S11.xs x_ hx_) hb_; omega) (fun ⟨q_, hq_, hqb_⟩ => S11.dp x_ hx_ q_ (((fun _ h_ => (List.not_mem_nil h_).elim)) q_ hq_) b_ hb_ hqb_))
    have S74 := St.addR S73 (h68 _ (.tail _ (.tail _ (.head _)))) (fun b_ h_ x_ hx_ hb_ => (p71 b_ h_).elim (fun q_ => by have := x_.inb _ _ (S11.xs x_ hx_) hb_; omega) (fun ⟨q_, hq_, hqb_⟩ => S11.dp x_ hx_ q_ (((fun _ h_ => (List.not_mem_nil h_).elim)) q_ hq_) b_ hb_ hqb_))
    have q75 : e50 11 = TU [AG ([I r20.1.CoalBook.Heap.Low, I r20.1.CoalBook.Heap.High] ++ (sgE eSpan r20.1.CoalBook.Eats 2 ++ (sg r20.1.CoalBook.Extra 3 ++ [SL A24 r20.1.CoalBook.Days.length c25, I r20.1.CoalBook.Collier.Low, I r20.1.CoalBook.Collier.High, I r20.1.CoalBook.Brings, SL A26 r20.1.CoalBook.Dips.length c27, Value.map m28]))), I r20.2] := (Option.some.inj ((congrArg some q63).symm.trans (hR56 5 11 (Nat.le_of_ble_eq_true rfl) rfl).2.2.2)).symm
    have q76 : e50 17 = AG ([I r20.1.CoalBook.Heap.Low, I r20.1.CoalBook.Heap.High] ++ (sgE eSpan r20.1.CoalBook.Eats 2 ++ (sg r20.1.CoalBook.Extra 3 ++ [SL A24 r20.1.CoalBook.Days.length c25, I r20.1.CoalBook.Collier.Low, I r20.1.CoalBook.Collier.High, I r20.1.CoalBook.Brings, SL A26 r20.1.CoalBook.Dips.length c27, Value.map m28]))) := (Option.some.inj ((congrArg (exG 0) q75).symm.trans (hR56 6 17 (Nat.le_of_ble_eq_true rfl) rfl).2.2.2)).symm
    have q77 : e50 18 = I r20.2 := (Option.some.inj ((congrArg (exG 1) q75).symm.trans (hR56 7 18 (Nat.le_of_ble_eq_true rfl) rfl).2.2.2)).symm
    obtain ⟨h79, h80, h81, b47, q78, h82, h83⟩ := hR56 8 6 (Nat.le_of_ble_eq_true rfl) rfl
    replace q78 : e50 6 = P b47 0 := q78
    obtain ⟨p84, _⟩ := h82
    have S86 := St.addO S74 (h83 _ (.head _)) (fun b_ h_ => (p84 b_ h_).elim (fun q_ => Nat.le_trans S11.keep.size (Nat.le_trans h79 q_.1)) (fun ⟨_, hq_, _⟩ => (List.not_mem_nil hq_).elim)) (List.forall_mem_cons.2 ⟨(fun b_ h1_ h2_ => (p84 b_ h1_).elim (fun q2_ => by have q1_ := Asr.inb _ _ _ (S11.atX (i := 0) rfl) h2_; omega) (fun ⟨_, hq_, _⟩ => (List.not_mem_nil hq_).elim)), (fun _ h_ => (List.not_mem_nil h_).elim)⟩) (List.forall_mem_cons.2 ⟨(fun b_ h1_ h2_ => (p84 b_ h1_).elim (fun q1_ => (p71 b_ h2_).elim (fun q2_ => by have q3_ := hd57 8 4 (Nat.le_of_ble_eq_true rfl) (Nat.le_of_ble_eq_true rfl) (by decide); omega) (fun ⟨q_, hq_, hqb_⟩ => by have q5_ := h79; have q4_ := Asr.inb _ _ _ (S11.ps q_ (((fun _ h_ => (List.not_mem_nil h_).elim)) q_ hq_)) hqb_; omega)) (fun ⟨_, hq_, _⟩ => (List.not_mem_nil hq_).elim)), (List.forall_mem_cons.2 ⟨(fun b_ h1_ h2_ => (p84 b_ h1_).elim (fun q1_ => (p70 b_ h2_).elim (fun q2_ => by have q3_ := hd57 8 4 (Nat.le_of_ble_eq_true rfl) (Nat.le_of_ble_eq_true rfl) (by decide); omega) (fun ⟨q_, hq_, hqb_⟩ => by have q5_ := h79; have q4_ := Asr.inb _ _ _ (S11.ps q_ (((fun _ h_ => (List.not_mem_nil h_).elim)) q_ hq_)) hqb_; omega)) (fun ⟨_, hq_, _⟩ => (List.not_mem_nil hq_).elim)), (List.forall_mem_cons.2 ⟨(fun b_ h1_ h2_ => (p84 b_ h1_).elim (fun q1_ => (p69 b_ h2_).elim (fun q2_ => by have q3_ := hd57 8 4 (Nat.le_of_ble_eq_true rfl) (Nat.le_of_ble_eq_true rfl) (by decide); omega) (fun ⟨q_, hq_, hqb_⟩ => by have q5_ := h79; have q4_ := Asr.inb _ _ _ (S11.ps q_ ((List.forall_mem_cons.2 ⟨List.mem_of_getElem? (i := 0) rfl, (List.forall_mem_cons.2 ⟨List.mem_of_getElem? (i := 1) rfl, (fun _ h_ => (List.not_mem_nil h_).elim)⟩)⟩) q_ hq_)) hqb_; omega)) (fun ⟨_, hq_, _⟩ => (List.not_mem_nil hq_).elim)), (List.forall_mem_cons.2 ⟨(fun b_ h1_ h2_ => (p84 b_ h1_).elim (fun q2_ => by have q1_ := Asr.inb _ _ _ (S11.atP (i := 0) rfl) h2_; omega) (fun ⟨_, hq_, _⟩ => (List.not_mem_nil hq_).elim)), (List.forall_mem_cons.2 ⟨(fun b_ h1_ h2_ => (p84 b_ h1_).elim (fun q2_ => by have q1_ := Asr.inb _ _ _ (S11.atP (i := 1) rfl) h2_; omega) (fun ⟨_, hq_, _⟩ => (List.not_mem_nil hq_).elim)), (List.forall_mem_cons.2 ⟨(fun b_ h1_ h2_ => (p84 b_ h1_).elim (fun q2_ => by have q1_ := Asr.inb _ _ _ (S11.atP (i := 2) rfl) h2_; omega) (fun ⟨_, hq_, _⟩ => (List.not_mem_nil hq_).elim)), (List.forall_mem_cons.2 ⟨(fun b_ h1_ h2_ => (p84 b_ h1_).elim (fun q2_ => by have q1_ := Asr.inb _ _ _ (S11.atP (i := 3) rfl) h2_; omega) (fun ⟨_, hq_, _⟩ => (List.not_mem_nil hq_).elim)), (fun _ h_ => (List.not_mem_nil h_).elim)⟩)⟩)⟩)⟩)⟩)⟩)⟩)
    refine tailE [(1, I a1), (6, P b47 0), (17, AG ([I r20.1.CoalBook.Heap.Low, I r20.1.CoalBook.Heap.High] ++ (sgE eSpan r20.1.CoalBook.Eats 2 ++ (sg r20.1.CoalBook.Extra 3 ++ [SL A24 r20.1.CoalBook.Days.length c25, I r20.1.CoalBook.Collier.Low, I r20.1.CoalBook.Collier.High, I r20.1.CoalBook.Brings, SL A26 r20.1.CoalBook.Dips.length c27, Value.map m28])))), (18, I r20.2)] ⟨((hf55 1 rfl).trans (rfl : _ = I a1)), q78, q76, q77, trivial⟩ ?_
    intro g87
    refine p_stP (pre := []) (old := [I 0, I 0, I 0, I 0, I 0, I 0] ++ (sg (List.replicate 3 0) 3 ++ [SL none 0 0, I 0, I 0, I 0, SL none 0 0, Value.map none])) (post := []) (vs := [I r20.1.CoalBook.Heap.Low, I r20.1.CoalBook.Heap.High] ++ (sgE eSpan r20.1.CoalBook.Eats 2 ++ (sg r20.1.CoalBook.Extra 3 ++ [SL A24 r20.1.CoalBook.Days.length c25, I r20.1.CoalBook.Collier.Low, I r20.1.CoalBook.Collier.High, I r20.1.CoalBook.Brings, SL A26 r20.1.CoalBook.Dips.length c27, Value.map m28]))) sz92 S86 (i := 0) rfl rfl rfl rfl (rfl : _ = AG ([I r20.1.CoalBook.Heap.Low, I r20.1.CoalBook.Heap.High] ++ (sgE eSpan r20.1.CoalBook.Eats 2 ++ (sg r20.1.CoalBook.Extra 3 ++ [SL A24 r20.1.CoalBook.Days.length c25, I r20.1.CoalBook.Collier.Low, I r20.1.CoalBook.Collier.High, I r20.1.CoalBook.Brings, SL A26 r20.1.CoalBook.Dips.length c27, Value.map m28])))) rfl rfl rfl rfl fun w88 S89 => ?_
    refine p_aI rfl ?_
    refine wp_nil ?_
    refine c_seq ?_
    refine c_seq ?_
    refine reg ?_
    refine p_mI rfl ?_
    refine p_cmp rfl rfl rfl ?_
    refine wp_nil ?_
    refine c_cond rfl (fun c90 => ?_) (fun c90 => ?_)
    · replace H := condT c90 H
      refine c_seq ?_
      refine reg ?_
      refine p_mI rfl ?_
      refine p_aI rfl ?_
      refine p_aI rfl ?_
      refine wp_nil ?_
      obtain rfl := Option.some.inj H
      refine c_ret ?_; show bodyPostM (Fr none) 0 Tryd.prog Tryd.f30 _ .ret _ _
      refine ret_of (res2 rfl (rvT (rfl : _ = I 0)) (rvT (rfl : _ = I r20.2))) ?_
      exact ⟨_, rfl, rfl, S89.keep⟩
    · replace H := condF c90 H
      refine c_skip ?_
      refine c_seq ?_
      refine reg ?_
      refine p_aI rfl ?_
      refine wp_nil ?_
      refine c_seq ?_
      refine c_seq ?_
      refine reg ?_
      refine p_ldA ty110 sz110 (S89.atP (i := 5) rfl) rfl rfl ?_
      refine p_mI rfl ?_
      refine wp_nil ?_
      refine c_block ?_
      have S91 := S89.pk [0] (by decide) [0, 1, 2, 3, 4, 5, 6] rfl rfl
      refine c_lop (α := Int × Int) (β := Unit) (coal_Lasts_l1 r20 a1) (fun z_1 y_1 => [(1, I a1), (6, P b47 0), (8, I z_1.1), (22, AG [Value.func (.func 128) #[] #[], Value.func (.func 129) #[] #[]]), (23, I z_1.2)]) (fun z_1 y_1 w_ => St w (fun _ => False) w_ [bl b47 ([I r20.1.CoalBook.Heap.Low, I r20.1.CoalBook.Heap.High] ++ (sgE eSpan r20.1.CoalBook.Eats 2 ++ (sg r20.1.CoalBook.Extra 3 ++ [SL A24 r20.1.CoalBook.Days.length c25, I r20.1.CoalBook.Collier.Low, I r20.1.CoalBook.Collier.High, I r20.1.CoalBook.Brings, SL A26 r20.1.CoalBook.Dips.length c27, Value.map m28]))) 92] [mpo ekG iE m28 r20.1.costs_, rd eCoalDip 3 A26 c27 r20.1.CoalBook.Dips, rd eCoalDay 3 A24 c25 r20.1.CoalBook.Days, rd eCoalDay 3 A1 c2 a0.Days, rd eCoalDip 3 A4 c5 a0.Dips, bl 0 [Value.func (.func 128) #[] #[], Value.func (.func 129) #[] #[]] 110, bl 1 [I (-1), I (-1)] 123]) (0, 0) () H ⟨rfl, rfl, rfl, rfl, rfl, trivial⟩ S91 ?_
      intro m92 z_1 y_1 e93 w94 H S95
      unfold coal_Lasts_l1 at H
      refine c_seq ?_
      refine reg ?_
      refine p_cmp rfl rfl rfl ?_
      refine wp_nil ?_
      refine c_seq ?_
      refine c_cond rfl (fun c96 => ?_) (fun c96 => ?_)
      · replace H := condT c96 H
        refine c_skip ?_
        refine c_seq ?_
        refine c_block ?_
        refine c_seq ?_
        refine reg ?_
        obtain ⟨h97, H⟩ := needS H
        rcases Bool.eq_false_or_eq_true (z_1.2 == 0) with c98 | c98
        · replace H := condT c98 H
          refine p_idxV (v := Value.func (.func 128) #[] #[]) ae110 sz109 ty109 h97 rfl rfl (by rw [show z_1.2 = 0 from by simpa using c98]; rfl) ?_
          refine p_asg (rfl : _ = Value.func (.func 128) #[] #[]) ?_
          refine wp_nil ?_
          refine c_seq ?_
          refine reg ?_
          refine p_mov (rfl : _ = Value.func (.func 128) #[] #[]) ?_
          refine p_ldA ty92 sz92 (S95.atX (i := 0) rfl) rfl rfl ?_
          refine p_mI rfl ?_
          obtain ⟨r99, h100, H⟩ := bindS H
          refine p_cv (coal_book_some_ok h100 (S95.atP (i := 2) rfl) (S95.atP (i := 1) rfl) (S95.atP (i := 0) rfl)) fu128 rfl S95 fun w101 S102 => ?_
          refine wp_nil ?_
          refine c_cond rfl (fun c103 => ?_) (fun c103 => ?_)
          · replace H := condT c103 H
            refine reg ?_
            refine p_mI rfl ?_
            refine p_add rfl rfl ?_
            refine p_aI rfl ?_
            refine wp_nil ?_
            refine reg ?_
            refine p_add rfl rfl ?_
            refine p_mI rfl ?_
            refine wp_nil ?_
            exact ⟨(wr (z_1.1 + 1), wr (z_1.2 + 1)), (), _, rfl, ⟨rfl, rfl, rfl, rfl, rfl, trivial⟩, H, S102⟩
          · replace H := condF c103 H
            refine c_skip ?_
            refine reg ?_
            refine p_add rfl rfl ?_
            refine p_mI rfl ?_
            refine wp_nil ?_
            exact ⟨(z_1.1, wr (z_1.2 + 1)), (), _, rfl, ⟨rfl, rfl, rfl, rfl, rfl, trivial⟩, H, S102⟩
        · replace H := condF c98 H
          refine p_idxV (v := Value.func (.func 129) #[] #[]) ae110 sz109 ty109 h97 rfl rfl (by rw [two_second h97 c98]; rfl) ?_
          refine p_asg (rfl : _ = Value.func (.func 129) #[] #[]) ?_
          refine wp_nil ?_
          refine c_seq ?_
          refine reg ?_
          refine p_mov (rfl : _ = Value.func (.func 129) #[] #[]) ?_
          refine p_ldA ty92 sz92 (S95.atX (i := 0) rfl) rfl rfl ?_
          refine p_mI rfl ?_
          obtain ⟨r104, h105, H⟩ := bindS H
          refine p_cv (coal_book_each_ok h105 (S95.atP (i := 2) rfl) (S95.atP (i := 1) rfl) (S95.atP (i := 0) rfl)) fu129 rfl S95 fun w106 S107 => ?_
          refine wp_nil ?_
          refine c_cond rfl (fun c108 => ?_) (fun c108 => ?_)
          · replace H := condT c108 H
            refine reg ?_
            refine p_mI rfl ?_
            refine p_add rfl rfl ?_
            refine p_aI rfl ?_
            refine wp_nil ?_
            refine reg ?_
            refine p_add rfl rfl ?_
            refine p_mI rfl ?_
            refine wp_nil ?_
            exact ⟨(wr (z_1.1 + 1), wr (z_1.2 + 1)), (), _, rfl, ⟨rfl, rfl, rfl, rfl, rfl, trivial⟩, H, S107⟩
          · replace H := condF c108 H
            refine c_skip ?_
            refine reg ?_
            refine p_add rfl rfl ?_
            refine p_mI rfl ?_
            refine wp_nil ?_
            exact ⟨(z_1.1, wr (z_1.2 + 1)), (), _, rfl, ⟨rfl, rfl, rfl, rfl, rfl, trivial⟩, H, S107⟩
      · replace H := condF c96 H
        refine c_exit ?_
        refine c_seq ?_
        refine reg ?_
        refine p_mI rfl ?_
        refine p_aI rfl ?_
        refine p_aI rfl ?_
        refine wp_nil ?_
        obtain rfl := Option.some.inj H
        refine c_ret ?_; show bodyPostM (Fr none) 0 Tryd.prog Tryd.f30 _ .ret _ _
        refine ret_of (res2 rfl (rvT (rfl : _ = I z_1.1)) (rvT (rfl : _ = I 0))) ?_
        exact ⟨_, rfl, rfl, S95.keep⟩
  · intro e109 w110 lo111 hi112 k113 hf114 hR115 hd116
    have S117 := S11.call k113
    have q118 : e109 12 = AG ([I a0.Heap.Low, I a0.Heap.High] ++ (sgE eSpan a0.Eats 2 ++ (sg a0.Extra 3 ++ [SL A1 a0.Days.length c2, I a0.Collier.Low, I a0.Collier.High, I a0.Brings, SL A4 a0.Dips.length c5]))) := (hR115 0 12 (Nat.le_of_ble_eq_true rfl) (by decide) rfl).2.2.2
    have q119 : e109 13 = AG ([I a0.Heap.Low, I a0.Heap.High] ++ (sgE eSpan a0.Eats 2 ++ (sg a0.Extra 3 ++ [SL A1 a0.Days.length c2, I a0.Collier.Low, I a0.Collier.High, I a0.Brings, SL A4 a0.Dips.length c5]))) := (hR115 1 13 (Nat.le_of_ble_eq_true rfl) (by decide) rfl).2.2.2
    have q120 : e109 14 = I a1 := (hR115 2 14 (Nat.le_of_ble_eq_true rfl) (by decide) rfl).2.2.2
    have q121 : e109 15 = B r14 := (hR115 3 15 (Nat.le_of_ble_eq_true rfl) (by decide) rfl).2.2.2
    obtain ⟨h123, h124, h125, ⟨A24, c25, A26, c27, m28⟩, q122, h126, h127⟩ := hR115 4 16 (Nat.le_of_ble_eq_true rfl) (by decide) rfl
    replace q122 : e109 16 = TU [AG ([I r20.1.CoalBook.Heap.Low, I r20.1.CoalBook.Heap.High] ++ (sgE eSpan r20.1.CoalBook.Eats 2 ++ (sg r20.1.CoalBook.Extra 3 ++ [SL A24 r20.1.CoalBook.Days.length c25, I r20.1.CoalBook.Collier.Low, I r20.1.CoalBook.Collier.High, I r20.1.CoalBook.Brings, SL A26 r20.1.CoalBook.Dips.length c27, Value.map m28]))), I r20.2] := q122
    obtain ⟨p128, p129, p130, _⟩ := h126
    have S131 := St.addR S117 (h127 _ (.head _)) (fun b_ h_ x_ hx_ hb_ => (p128 b_ h_).elim (fun q_ => by have := x_.inb _ _ (S11.xs x_ hx_) hb_; omega) (fun ⟨q_, hq_, hqb_⟩ => S11.dp x_ hx_ q_ ((List.forall_mem_cons.2 ⟨List.mem_of_getElem? (i := 0) rfl, (List.forall_mem_cons.2 ⟨List.mem_of_getElem? (i := 1) rfl, (fun _ h_ => (List.not_mem_nil h_).elim)⟩)⟩) q_ hq_) b_ hb_ hqb_))
    have S132 := St.addR S131 (h127 _ (.tail _ (.head _))) (fun b_ h_ x_ hx_ hb_ => (p129 b_ h_).elim (fun q_ => by have := x_.inb _ _ (S11.xs x_ hx_) hb_; omega) (fun ⟨q_, hq_, hqb_⟩ => S11.dp x_ hx_ q_ (((fun _ h_ => (List.not_mem_nil h_).elim)) q_ hq_) b_ hb_ hqb_))
    have S133 := St.addR S132 (h127 _ (.tail _ (.tail _ (.head _)))) (fun b_ h_ x_ hx_ hb_ => (p130 b_ h_).elim (fun q_ => by have := x_.inb _ _ (S11.xs x_ hx_) hb_; omega) (fun ⟨q_, hq_, hqb_⟩ => S11.dp x_ hx_ q_ (((fun _ h_ => (List.not_mem_nil h_).elim)) q_ hq_) b_ hb_ hqb_))
    have q134 : e109 11 = TU [AG ([I r20.1.CoalBook.Heap.Low, I r20.1.CoalBook.Heap.High] ++ (sgE eSpan r20.1.CoalBook.Eats 2 ++ (sg r20.1.CoalBook.Extra 3 ++ [SL A24 r20.1.CoalBook.Days.length c25, I r20.1.CoalBook.Collier.Low, I r20.1.CoalBook.Collier.High, I r20.1.CoalBook.Brings, SL A26 r20.1.CoalBook.Dips.length c27, Value.map m28]))), I r20.2] := (Option.some.inj ((congrArg some q122).symm.trans (hR115 5 11 (Nat.le_of_ble_eq_true rfl) (by decide) rfl).2.2.2)).symm
    have q135 : e109 17 = AG ([I r20.1.CoalBook.Heap.Low, I r20.1.CoalBook.Heap.High] ++ (sgE eSpan r20.1.CoalBook.Eats 2 ++ (sg r20.1.CoalBook.Extra 3 ++ [SL A24 r20.1.CoalBook.Days.length c25, I r20.1.CoalBook.Collier.Low, I r20.1.CoalBook.Collier.High, I r20.1.CoalBook.Brings, SL A26 r20.1.CoalBook.Dips.length c27, Value.map m28]))) := (Option.some.inj ((congrArg (exG 0) q134).symm.trans (hR115 6 17 (Nat.le_of_ble_eq_true rfl) (by decide) rfl).2.2.2)).symm
    obtain ⟨h137, h138, h139, b47, q136, h140, h141⟩ := hR115 8 6 (Nat.le_of_ble_eq_true rfl) (by decide) rfl
    replace q136 : e109 6 = P b47 0 := q136
    obtain ⟨p142, _⟩ := h140
    have S144 := St.addO S133 (h141 _ (.head _)) (fun b_ h_ => (p142 b_ h_).elim (fun q_ => Nat.le_trans S11.keep.size (Nat.le_trans h137 q_.1)) (fun ⟨_, hq_, _⟩ => (List.not_mem_nil hq_).elim)) (List.forall_mem_cons.2 ⟨(fun b_ h1_ h2_ => (p142 b_ h1_).elim (fun q2_ => by have q1_ := Asr.inb _ _ _ (S11.atX (i := 0) rfl) h2_; omega) (fun ⟨_, hq_, _⟩ => (List.not_mem_nil hq_).elim)), (fun _ h_ => (List.not_mem_nil h_).elim)⟩) (List.forall_mem_cons.2 ⟨(fun b_ h1_ h2_ => (p142 b_ h1_).elim (fun q1_ => (p130 b_ h2_).elim (fun q2_ => by have q3_ := hd116 8 4 (Nat.le_of_ble_eq_true rfl) (Nat.le_of_ble_eq_true rfl) (by decide) (by decide) (by decide); omega) (fun ⟨q_, hq_, hqb_⟩ => by have q5_ := h137; have q4_ := Asr.inb _ _ _ (S11.ps q_ (((fun _ h_ => (List.not_mem_nil h_).elim)) q_ hq_)) hqb_; omega)) (fun ⟨_, hq_, _⟩ => (List.not_mem_nil hq_).elim)), (List.forall_mem_cons.2 ⟨(fun b_ h1_ h2_ => (p142 b_ h1_).elim (fun q1_ => (p129 b_ h2_).elim (fun q2_ => by have q3_ := hd116 8 4 (Nat.le_of_ble_eq_true rfl) (Nat.le_of_ble_eq_true rfl) (by decide) (by decide) (by decide); omega) (fun ⟨q_, hq_, hqb_⟩ => by have q5_ := h137; have q4_ := Asr.inb _ _ _ (S11.ps q_ (((fun _ h_ => (List.not_mem_nil h_).elim)) q_ hq_)) hqb_; omega)) (fun ⟨_, hq_, _⟩ => (List.not_mem_nil hq_).elim)), (List.forall_mem_cons.2 ⟨(fun b_ h1_ h2_ => (p142 b_ h1_).elim (fun q1_ => (p128 b_ h2_).elim (fun q2_ => by have q3_ := hd116 8 4 (Nat.le_of_ble_eq_true rfl) (Nat.le_of_ble_eq_true rfl) (by decide) (by decide) (by decide); omega) (fun ⟨q_, hq_, hqb_⟩ => by have q5_ := h137; have q4_ := Asr.inb _ _ _ (S11.ps q_ ((List.forall_mem_cons.2 ⟨List.mem_of_getElem? (i := 0) rfl, (List.forall_mem_cons.2 ⟨List.mem_of_getElem? (i := 1) rfl, (fun _ h_ => (List.not_mem_nil h_).elim)⟩)⟩) q_ hq_)) hqb_; omega)) (fun ⟨_, hq_, _⟩ => (List.not_mem_nil hq_).elim)), (List.forall_mem_cons.2 ⟨(fun b_ h1_ h2_ => (p142 b_ h1_).elim (fun q2_ => by have q1_ := Asr.inb _ _ _ (S11.atP (i := 0) rfl) h2_; omega) (fun ⟨_, hq_, _⟩ => (List.not_mem_nil hq_).elim)), (List.forall_mem_cons.2 ⟨(fun b_ h1_ h2_ => (p142 b_ h1_).elim (fun q2_ => by have q1_ := Asr.inb _ _ _ (S11.atP (i := 1) rfl) h2_; omega) (fun ⟨_, hq_, _⟩ => (List.not_mem_nil hq_).elim)), (List.forall_mem_cons.2 ⟨(fun b_ h1_ h2_ => (p142 b_ h1_).elim (fun q2_ => by have q1_ := Asr.inb _ _ _ (S11.atP (i := 2) rfl) h2_; omega) (fun ⟨_, hq_, _⟩ => (List.not_mem_nil hq_).elim)), (List.forall_mem_cons.2 ⟨(fun b_ h1_ h2_ => (p142 b_ h1_).elim (fun q2_ => by have q1_ := Asr.inb _ _ _ (S11.atP (i := 3) rfl) h2_; omega) (fun ⟨_, hq_, _⟩ => (List.not_mem_nil hq_).elim)), (fun _ h_ => (List.not_mem_nil h_).elim)⟩)⟩)⟩)⟩)⟩)⟩)⟩)
    refine tailE [(1, I a1), (6, P b47 0), (11, TU [AG ([I r20.1.CoalBook.Heap.Low, I r20.1.CoalBook.Heap.High] ++ (sgE eSpan r20.1.CoalBook.Eats 2 ++ (sg r20.1.CoalBook.Extra 3 ++ [SL A24 r20.1.CoalBook.Days.length c25, I r20.1.CoalBook.Collier.Low, I r20.1.CoalBook.Collier.High, I r20.1.CoalBook.Brings, SL A26 r20.1.CoalBook.Dips.length c27, Value.map m28]))), I r20.2]), (17, AG ([I r20.1.CoalBook.Heap.Low, I r20.1.CoalBook.Heap.High] ++ (sgE eSpan r20.1.CoalBook.Eats 2 ++ (sg r20.1.CoalBook.Extra 3 ++ [SL A24 r20.1.CoalBook.Days.length c25, I r20.1.CoalBook.Collier.Low, I r20.1.CoalBook.Collier.High, I r20.1.CoalBook.Brings, SL A26 r20.1.CoalBook.Dips.length c27, Value.map m28]))))] ⟨((hf114 1 rfl).trans (rfl : _ = I a1)), q136, q134, q135, trivial⟩ ?_
    intro g145
    refine p_stP (pre := []) (old := [I 0, I 0, I 0, I 0, I 0, I 0] ++ (sg (List.replicate 3 0) 3 ++ [SL none 0 0, I 0, I 0, I 0, SL none 0 0, Value.map none])) (post := []) (vs := [I r20.1.CoalBook.Heap.Low, I r20.1.CoalBook.Heap.High] ++ (sgE eSpan r20.1.CoalBook.Eats 2 ++ (sg r20.1.CoalBook.Extra 3 ++ [SL A24 r20.1.CoalBook.Days.length c25, I r20.1.CoalBook.Collier.Low, I r20.1.CoalBook.Collier.High, I r20.1.CoalBook.Brings, SL A26 r20.1.CoalBook.Dips.length c27, Value.map m28]))) sz92 S144 (i := 0) rfl rfl rfl rfl (rfl : _ = AG ([I r20.1.CoalBook.Heap.Low, I r20.1.CoalBook.Heap.High] ++ (sgE eSpan r20.1.CoalBook.Eats 2 ++ (sg r20.1.CoalBook.Extra 3 ++ [SL A24 r20.1.CoalBook.Days.length c25, I r20.1.CoalBook.Collier.Low, I r20.1.CoalBook.Collier.High, I r20.1.CoalBook.Brings, SL A26 r20.1.CoalBook.Dips.length c27, Value.map m28])))) rfl rfl rfl rfl fun w146 S147 => ?_
    refine p_ext rfl rfl ?_
    refine p_aI rfl ?_
    refine wp_nil ?_
    refine c_seq ?_
    refine c_seq ?_
    refine reg ?_
    refine p_mI rfl ?_
    refine p_cmp rfl rfl rfl ?_
    refine wp_nil ?_
    refine c_cond rfl (fun c148 => ?_) (fun c148 => ?_)
    · replace H := condT c148 H
      refine c_seq ?_
      refine reg ?_
      refine p_mI rfl ?_
      refine p_aI rfl ?_
      refine p_aI rfl ?_
      refine wp_nil ?_
      obtain rfl := Option.some.inj H
      refine c_ret ?_; show bodyPostM (Fr none) 0 Tryd.prog Tryd.f30 _ .ret _ _
      refine ret_of (res2 rfl (rvT (rfl : _ = I 0)) (rvT (rfl : _ = I r20.2))) ?_
      exact ⟨_, rfl, rfl, S147.keep⟩
    · replace H := condF c148 H
      refine c_skip ?_
      refine c_seq ?_
      refine reg ?_
      refine p_aI rfl ?_
      refine wp_nil ?_
      refine c_seq ?_
      refine c_seq ?_
      refine reg ?_
      refine p_ldA ty110 sz110 (S147.atP (i := 5) rfl) rfl rfl ?_
      refine p_mI rfl ?_
      refine wp_nil ?_
      refine c_block ?_
      have S149 := S147.pk [0] (by decide) [0, 1, 2, 3, 4, 5, 6] rfl rfl
      refine c_lop (α := Int × Int) (β := Unit) (coal_Lasts_l2 r20 a1) (fun z_1 y_1 => [(1, I a1), (6, P b47 0), (8, I z_1.1), (22, AG [Value.func (.func 128) #[] #[], Value.func (.func 129) #[] #[]]), (23, I z_1.2)]) (fun z_1 y_1 w_ => St w (fun _ => False) w_ [bl b47 ([I r20.1.CoalBook.Heap.Low, I r20.1.CoalBook.Heap.High] ++ (sgE eSpan r20.1.CoalBook.Eats 2 ++ (sg r20.1.CoalBook.Extra 3 ++ [SL A24 r20.1.CoalBook.Days.length c25, I r20.1.CoalBook.Collier.Low, I r20.1.CoalBook.Collier.High, I r20.1.CoalBook.Brings, SL A26 r20.1.CoalBook.Dips.length c27, Value.map m28]))) 92] [mpo ekG iE m28 r20.1.costs_, rd eCoalDip 3 A26 c27 r20.1.CoalBook.Dips, rd eCoalDay 3 A24 c25 r20.1.CoalBook.Days, rd eCoalDay 3 A1 c2 a0.Days, rd eCoalDip 3 A4 c5 a0.Dips, bl 0 [Value.func (.func 128) #[] #[], Value.func (.func 129) #[] #[]] 110, bl 1 [I (-1), I (-1)] 123]) (0, 0) () H ⟨rfl, rfl, rfl, rfl, rfl, trivial⟩ S149 ?_
      intro m150 z_1 y_1 e151 w152 H S153
      unfold coal_Lasts_l2 at H
      refine c_seq ?_
      refine reg ?_
      refine p_cmp rfl rfl rfl ?_
      refine wp_nil ?_
      refine c_seq ?_
      refine c_cond rfl (fun c154 => ?_) (fun c154 => ?_)
      · replace H := condT c154 H
        refine c_skip ?_
        refine c_seq ?_
        refine c_block ?_
        refine c_seq ?_
        refine reg ?_
        obtain ⟨h155, H⟩ := needS H
        rcases Bool.eq_false_or_eq_true (z_1.2 == 0) with c156 | c156
        · replace H := condT c156 H
          refine p_idxV (v := Value.func (.func 128) #[] #[]) ae110 sz109 ty109 h155 rfl rfl (by rw [show z_1.2 = 0 from by simpa using c156]; rfl) ?_
          refine p_asg (rfl : _ = Value.func (.func 128) #[] #[]) ?_
          refine wp_nil ?_
          refine c_seq ?_
          refine reg ?_
          refine p_mov (rfl : _ = Value.func (.func 128) #[] #[]) ?_
          refine p_ldA ty92 sz92 (S153.atX (i := 0) rfl) rfl rfl ?_
          refine p_mI rfl ?_
          obtain ⟨r157, h158, H⟩ := bindS H
          refine p_cv (coal_book_some_ok h158 (S153.atP (i := 2) rfl) (S153.atP (i := 1) rfl) (S153.atP (i := 0) rfl)) fu128 rfl S153 fun w159 S160 => ?_
          refine wp_nil ?_
          refine c_cond rfl (fun c161 => ?_) (fun c161 => ?_)
          · replace H := condT c161 H
            refine reg ?_
            refine p_mI rfl ?_
            refine p_add rfl rfl ?_
            refine p_aI rfl ?_
            refine wp_nil ?_
            refine reg ?_
            refine p_add rfl rfl ?_
            refine p_mI rfl ?_
            refine wp_nil ?_
            exact ⟨(wr (z_1.1 + 1), wr (z_1.2 + 1)), (), _, rfl, ⟨rfl, rfl, rfl, rfl, rfl, trivial⟩, H, S160⟩
          · replace H := condF c161 H
            refine c_skip ?_
            refine reg ?_
            refine p_add rfl rfl ?_
            refine p_mI rfl ?_
            refine wp_nil ?_
            exact ⟨(z_1.1, wr (z_1.2 + 1)), (), _, rfl, ⟨rfl, rfl, rfl, rfl, rfl, trivial⟩, H, S160⟩
        · replace H := condF c156 H
          refine p_idxV (v := Value.func (.func 129) #[] #[]) ae110 sz109 ty109 h155 rfl rfl (by rw [two_second h155 c156]; rfl) ?_
          refine p_asg (rfl : _ = Value.func (.func 129) #[] #[]) ?_
          refine wp_nil ?_
          refine c_seq ?_
          refine reg ?_
          refine p_mov (rfl : _ = Value.func (.func 129) #[] #[]) ?_
          refine p_ldA ty92 sz92 (S153.atX (i := 0) rfl) rfl rfl ?_
          refine p_mI rfl ?_
          obtain ⟨r162, h163, H⟩ := bindS H
          refine p_cv (coal_book_each_ok h163 (S153.atP (i := 2) rfl) (S153.atP (i := 1) rfl) (S153.atP (i := 0) rfl)) fu129 rfl S153 fun w164 S165 => ?_
          refine wp_nil ?_
          refine c_cond rfl (fun c166 => ?_) (fun c166 => ?_)
          · replace H := condT c166 H
            refine reg ?_
            refine p_mI rfl ?_
            refine p_add rfl rfl ?_
            refine p_aI rfl ?_
            refine wp_nil ?_
            refine reg ?_
            refine p_add rfl rfl ?_
            refine p_mI rfl ?_
            refine wp_nil ?_
            exact ⟨(wr (z_1.1 + 1), wr (z_1.2 + 1)), (), _, rfl, ⟨rfl, rfl, rfl, rfl, rfl, trivial⟩, H, S165⟩
          · replace H := condF c166 H
            refine c_skip ?_
            refine reg ?_
            refine p_add rfl rfl ?_
            refine p_mI rfl ?_
            refine wp_nil ?_
            exact ⟨(z_1.1, wr (z_1.2 + 1)), (), _, rfl, ⟨rfl, rfl, rfl, rfl, rfl, trivial⟩, H, S165⟩
      · replace H := condF c154 H
        refine c_exit ?_
        refine c_seq ?_
        refine reg ?_
        refine p_mI rfl ?_
        refine p_aI rfl ?_
        refine p_aI rfl ?_
        refine wp_nil ?_
        obtain rfl := Option.some.inj H
        refine c_ret ?_; show bodyPostM (Fr none) 0 Tryd.prog Tryd.f30 _ .ret _ _
        refine ret_of (res2 rfl (rvT (rfl : _ = I z_1.1)) (rvT (rfl : _ = I 0))) ?_
        exact ⟨_, rfl, rfl, S153.keep⟩

def coal_Order_l1 (a0 : CoalBook) (r11 : Coal_book × Int) (rec_z_1 : (Int × Int) → Option (Int × Int)) (z_1 : Int × Int) : Option (Int × Int) :=
  bif decide (z_1.2 < (a0.Days.length : Int)) then ((coal_coal z_1.2).bind fun r42 =>
  (coal_book_span r11.1 (Coal_number.mk (fun y53 => coal_coal_1 y53 z_1.2))).bind fun r54 =>
  rec_z_1 ((if (wr (-r54.Low)) > z_1.1 then (wr (-r54.Low)) else z_1.1), wr (z_1.2 + 1)))
  else (some (z_1.1, 0))

def coal_Order (a0 : CoalBook) : Option (Int × Int) :=
  (coal_asked a0 true).bind fun r11 =>
  bif (r11.2 != 0) then (some (0, r11.2))
  else (loopF (coal_Order_l1 a0 r11) big (0, 0))

set_option maxRecDepth 100000 in
theorem coal_Order_ok {a0 : CoalBook} {A1 : Option Addr} {c2 : Nat} {A4 : Option Addr} {c5 : Nat} {w : World} {r : Int × Int} (H : coal_Order a0 = some r) (h3 : (rd eCoalDay 3 A1 c2 a0.Days).ok w) (h6 : (rd eCoalDip 3 A4 c5 a0.Dips).ok w) (hg7 : (bl 1 [I (-1), I (-1)] 123).ok w) : Calls Tryd.prog 31 #[AG ([I a0.Heap.Low, I a0.Heap.High] ++ (sgE eSpan a0.Eats 2 ++ (sg a0.Extra 3 ++ [SL A1 a0.Days.length c2, I a0.Collier.Low, I a0.Collier.High, I a0.Brings, SL A4 a0.Dips.length c5])))] w (RetV w (TU [I r.1, I r.2])) := by
  unfold coal_Order at H
  refine fn_of (n := 32) Tryd.func31 rfl rfl (Nat.le_of_ble_eq_true rfl) ?_
  have S : St w (fun _ => False) w [] [rd eCoalDay 3 A1 c2 a0.Days, rd eCoalDip 3 A4 c5 a0.Dips, bl 1 [I (-1), I (-1)] 123] := St.start w _ _ (List.forall_mem_cons.2 ⟨h3, (List.forall_mem_cons.2 ⟨h6, (List.forall_mem_cons.2 ⟨hg7, (fun _ h_ => (List.not_mem_nil h_).elim)⟩)⟩)⟩)
  refine c_seq ?_
  refine reg ?_
  refine p_boxA rfl S fun b8 w9 S10 => ?_
  refine p_aI rfl ?_
  refine p_aI rfl ?_
  refine wp_nil ?_
  refine c_seq ?_
  refine reg ?_
  refine p_ldA ty29 sz29 (S10.atX (i := 0) rfl) rfl rfl ?_
  obtain ⟨r11, h12, H⟩ := bindS H
  refine p_cal (coal_asked_ok h12 (S10.atP (i := 0) rfl) (S10.atP (i := 1) rfl) (S10.atP (i := 2) rfl)) fu74 rfl ?_
  rintro _ w13 ⟨A15, c16, A17, c18, m19, rfl, k14, ⟨o20, n21⟩, ⟨o22, n23⟩, ⟨o24, n25⟩, _⟩
  have S26 := S10.callN k14 [rd eCoalDay 3 A15 c16 r11.1.CoalBook.Days, rd eCoalDip 3 A17 c18 r11.1.CoalBook.Dips, mpo ekG iE m19 r11.1.costs_] (List.forall_mem_cons.2 ⟨⟨o20, Al.inL n21 ((List.forall_mem_cons.2 ⟨(fp_mem (i := 0) rfl), (List.forall_mem_cons.2 ⟨(fp_mem (i := 1) rfl), (fun _ h_ => (List.not_mem_nil h_).elim)⟩)⟩))⟩, (List.forall_mem_cons.2 ⟨⟨o22, New.inL n23⟩, (List.forall_mem_cons.2 ⟨⟨o24, New.inL n25⟩, (fun _ h_ => (List.not_mem_nil h_).elim)⟩)⟩)⟩)
  refine p_mT rfl ?_
  refine p_ext rfl rfl ?_
  refine p_ext rfl rfl ?_
  refine p_allA in92 S26 fun b27 w28 S29 => ?_
  refine p_stP (pre := []) (old := [I 0, I 0, I 0, I 0, I 0, I 0] ++ (sg (List.replicate 3 0) 3 ++ [SL none 0 0, I 0, I 0, I 0, SL none 0 0, Value.map none])) (post := []) (vs := [I r11.1.CoalBook.Heap.Low, I r11.1.CoalBook.Heap.High] ++ (sgE eSpan r11.1.CoalBook.Eats 2 ++ (sg r11.1.CoalBook.Extra 3 ++ [SL A15 r11.1.CoalBook.Days.length c16, I r11.1.CoalBook.Collier.Low, I r11.1.CoalBook.Collier.High, I r11.1.CoalBook.Brings, SL A17 r11.1.CoalBook.Dips.length c18, Value.map m19]))) sz92 S29 (i := 0) rfl rfl rfl rfl (rfl : _ = AG ([I r11.1.CoalBook.Heap.Low, I r11.1.CoalBook.Heap.High] ++ (sgE eSpan r11.1.CoalBook.Eats 2 ++ (sg r11.1.CoalBook.Extra 3 ++ [SL A15 r11.1.CoalBook.Days.length c16, I r11.1.CoalBook.Collier.Low, I r11.1.CoalBook.Collier.High, I r11.1.CoalBook.Brings, SL A17 r11.1.CoalBook.Dips.length c18, Value.map m19])))) rfl rfl rfl rfl fun w30 S31 => ?_
  refine p_aI rfl ?_
  refine wp_nil ?_
  refine c_seq ?_
  refine c_seq ?_
  refine reg ?_
  refine p_mI rfl ?_
  refine p_cmp rfl rfl rfl ?_
  refine wp_nil ?_
  refine c_cond rfl (fun c32 => ?_) (fun c32 => ?_)
  · replace H := condT c32 H
    refine c_seq ?_
    refine reg ?_
    refine p_mI rfl ?_
    refine p_aI rfl ?_
    refine p_aI rfl ?_
    refine wp_nil ?_
    obtain rfl := Option.some.inj H
    refine c_ret ?_; show bodyPostM (Fr none) 0 Tryd.prog Tryd.f31 _ .ret _ _
    refine ret_of (res2 rfl (rvT (rfl : _ = I 0)) (rvT (rfl : _ = I r11.2))) ?_
    exact ⟨_, rfl, rfl, S31.keep⟩
  · replace H := condF c32 H
    refine c_skip ?_
    refine c_seq ?_
    refine reg ?_
    refine p_aI rfl ?_
    refine wp_nil ?_
    refine c_seq ?_
    refine c_seq ?_
    refine reg ?_
    refine p_fld fl29_3 rfl ?_
    refine p_ld ty26 (S31.atX (i := 1) rfl) rfl rfl ?_
    refine p_len rfl sc26 ?_
    refine p_mI rfl ?_
    refine wp_nil ?_
    refine c_block ?_
    have S33 := S31.pk [0] (by decide) [0, 1, 2, 3, 4, 5] rfl rfl
    refine c_lop (α := Int × Int) (β := Unit) (coal_Order_l1 a0 r11) (fun z_1 y_1 => [(4, P b27 0), (6, I z_1.1), (18, I (a0.Days.length : Int)), (19, I z_1.2)]) (fun z_1 y_1 w_ => St w (fun _ => False) w_ [bl b27 ([I r11.1.CoalBook.Heap.Low, I r11.1.CoalBook.Heap.High] ++ (sgE eSpan r11.1.CoalBook.Eats 2 ++ (sg r11.1.CoalBook.Extra 3 ++ [SL A15 r11.1.CoalBook.Days.length c16, I r11.1.CoalBook.Collier.Low, I r11.1.CoalBook.Collier.High, I r11.1.CoalBook.Brings, SL A17 r11.1.CoalBook.Dips.length c18, Value.map m19]))) 92] [rd eCoalDay 3 A15 c16 r11.1.CoalBook.Days, rd eCoalDip 3 A17 c18 r11.1.CoalBook.Dips, mpo ekG iE m19 r11.1.costs_, rd eCoalDay 3 A1 c2 a0.Days, rd eCoalDip 3 A4 c5 a0.Dips, bl 1 [I (-1), I (-1)] 123]) (0, 0) () H ⟨rfl, rfl, rfl, rfl, trivial⟩ S33 ?_
    intro m34 z_1 y_1 e35 w36 H S37
    unfold coal_Order_l1 at H
    refine c_seq ?_
    refine reg ?_
    refine p_cmp rfl rfl rfl ?_
    refine wp_nil ?_
    refine c_seq ?_
    refine c_cond rfl (fun c38 => ?_) (fun c38 => ?_)
    · replace H := condT c38 H
      refine c_skip ?_
      refine c_seq ?_
      refine c_block ?_
      refine c_seq ?_
      refine reg ?_
      refine p_mI rfl ?_
      refine p_aI rfl ?_
      refine wp_nil ?_
      refine reg_c mixed 8 [3, 4, 5, 6, 7] (by kernel_rfl) ?_
      refine kS rfl (fun _ k_ => p_mI rfl dn) ?_
      refine kS rfl (fun _ k_ => p_ldA ty92 sz92 (Asr.stays (S37.atX (i := 0) rfl) k_) rfl rfl dn) ?_
      refine kS rfl (fun _ k_ => p_mI rfl dn) ?_
      refine kC rfl ?_
      refine kC rfl ?_
      refine kC rfl ?_
      refine kC rfl ?_
      refine kC rfl ?_
      intro w39 k40; have S41 := S37.call k40
      obtain ⟨r42, h43, H⟩ := bindS H
      refine p_cal (coal_coal_ok h43) fu77 rfl ?_
      rintro _ w44 ⟨b46, rfl, k45, ⟨o47, n48⟩, _⟩
      have S49 := S41.addNew k45 o47 n48
      refine cN k45 fun w50 k51 => ?_
      have S52 := S49.call k51
      obtain ⟨r54, h55, H⟩ := bindS H
      refine p_cal (coal_book_span_ok h55 (S52.atP (i := 0) rfl) (S52.atP (i := 1) rfl) (S52.atP (i := 2) rfl) (by kernel_rfl) (fun _ _ _ k_ hr_ => coal_coal_1_ok hr_ (Asr.stays (S52.atX (i := 0) rfl) k_))) fu76 rfl ?_
      rintro _ w56 ⟨rfl, k57⟩; refine cN k57 fun w58 k59 => ?_
      have S60 := (S52.call k57).call k59
      refine p_fieldV ft23_0 ty3 rfl rfl (cN (Keep.refl _ _) fun w61 k62 => ?_)
      have S63 := S60.call k62
      refine p_neg rfl (cN (Keep.refl _ _) fun w64 k65 => ?_)
      have S66 := S63.call k65
      refine p_max rfl rfl (cN (Keep.refl _ _) fun w67 k68 => ?_)
      have S69 := S66.call k68
      refine p_aI rfl ?_
      refine wp_nil ?_
      refine reg ?_
      refine p_add rfl rfl ?_
      refine p_mI rfl ?_
      refine wp_nil ?_
      have S70 := S69.pk [1] (by decide) [0, 1, 2, 3, 4, 5] rfl rfl
      exact ⟨((if (wr (-r54.Low)) > z_1.1 then (wr (-r54.Low)) else z_1.1), wr (z_1.2 + 1)), (), _, rfl, ⟨rfl, rfl, rfl, rfl, trivial⟩, H, S70⟩
    · replace H := condF c38 H
      refine c_exit ?_
      refine c_seq ?_
      refine reg ?_
      refine p_mI rfl ?_
      refine p_aI rfl ?_
      refine p_aI rfl ?_
      refine wp_nil ?_
      obtain rfl := Option.some.inj H
      refine c_ret ?_; show bodyPostM (Fr none) 0 Tryd.prog Tryd.f31 _ .ret _ _
      refine ret_of (res2 rfl (rvT (rfl : _ = I z_1.1)) (rvT (rfl : _ = I 0))) ?_
      exact ⟨_, rfl, rfl, S37.keep⟩

def coal_Day_l1 (a0 : CoalBook) (r11 : Coal_book × Int) (rec_z_1 : Int → Option (Int × Int)) (z_1 : Int) : Option (Int × Int) :=
  bif decide (z_1 < (a0.Days.length : Int)) then ((coal_coal z_1).bind fun r42 =>
  (coal_book_span r11.1 (Coal_number.mk (fun y53 => coal_coal_1 y53 z_1))).bind fun r54 =>
  bif decide (r54.Low < 0) then (some (z_1, 0))
  else (rec_z_1 (wr (z_1 + 1))))
  else (some (0, 4))

def coal_Day (a0 : CoalBook) : Option (Int × Int) :=
  (coal_asked a0 true).bind fun r11 =>
  bif (r11.2 != 0) then (some (0, r11.2))
  else (loopF (coal_Day_l1 a0 r11) big 0)

set_option maxRecDepth 100000 in
theorem coal_Day_ok {a0 : CoalBook} {A1 : Option Addr} {c2 : Nat} {A4 : Option Addr} {c5 : Nat} {w : World} {r : Int × Int} (H : coal_Day a0 = some r) (h3 : (rd eCoalDay 3 A1 c2 a0.Days).ok w) (h6 : (rd eCoalDip 3 A4 c5 a0.Dips).ok w) (hg7 : (bl 1 [I (-1), I (-1)] 123).ok w) : Calls Tryd.prog 37 #[AG ([I a0.Heap.Low, I a0.Heap.High] ++ (sgE eSpan a0.Eats 2 ++ (sg a0.Extra 3 ++ [SL A1 a0.Days.length c2, I a0.Collier.Low, I a0.Collier.High, I a0.Brings, SL A4 a0.Dips.length c5])))] w (RetV w (TU [I r.1, I r.2])) := by
  unfold coal_Day at H
  refine fn_of (n := 29) Tryd.func37 rfl rfl (Nat.le_of_ble_eq_true rfl) ?_
  have S : St w (fun _ => False) w [] [rd eCoalDay 3 A1 c2 a0.Days, rd eCoalDip 3 A4 c5 a0.Dips, bl 1 [I (-1), I (-1)] 123] := St.start w _ _ (List.forall_mem_cons.2 ⟨h3, (List.forall_mem_cons.2 ⟨h6, (List.forall_mem_cons.2 ⟨hg7, (fun _ h_ => (List.not_mem_nil h_).elim)⟩)⟩)⟩)
  refine c_seq ?_
  refine reg ?_
  refine p_boxA rfl S fun b8 w9 S10 => ?_
  refine p_aI rfl ?_
  refine p_aI rfl ?_
  refine wp_nil ?_
  refine c_seq ?_
  refine reg ?_
  refine p_ldA ty29 sz29 (S10.atX (i := 0) rfl) rfl rfl ?_
  obtain ⟨r11, h12, H⟩ := bindS H
  refine p_cal (coal_asked_ok h12 (S10.atP (i := 0) rfl) (S10.atP (i := 1) rfl) (S10.atP (i := 2) rfl)) fu74 rfl ?_
  rintro _ w13 ⟨A15, c16, A17, c18, m19, rfl, k14, ⟨o20, n21⟩, ⟨o22, n23⟩, ⟨o24, n25⟩, _⟩
  have S26 := S10.callN k14 [rd eCoalDay 3 A15 c16 r11.1.CoalBook.Days, rd eCoalDip 3 A17 c18 r11.1.CoalBook.Dips, mpo ekG iE m19 r11.1.costs_] (List.forall_mem_cons.2 ⟨⟨o20, Al.inL n21 ((List.forall_mem_cons.2 ⟨(fp_mem (i := 0) rfl), (List.forall_mem_cons.2 ⟨(fp_mem (i := 1) rfl), (fun _ h_ => (List.not_mem_nil h_).elim)⟩)⟩))⟩, (List.forall_mem_cons.2 ⟨⟨o22, New.inL n23⟩, (List.forall_mem_cons.2 ⟨⟨o24, New.inL n25⟩, (fun _ h_ => (List.not_mem_nil h_).elim)⟩)⟩)⟩)
  refine p_mT rfl ?_
  refine p_ext rfl rfl ?_
  refine p_ext rfl rfl ?_
  refine p_allA in92 S26 fun b27 w28 S29 => ?_
  refine p_stP (pre := []) (old := [I 0, I 0, I 0, I 0, I 0, I 0] ++ (sg (List.replicate 3 0) 3 ++ [SL none 0 0, I 0, I 0, I 0, SL none 0 0, Value.map none])) (post := []) (vs := [I r11.1.CoalBook.Heap.Low, I r11.1.CoalBook.Heap.High] ++ (sgE eSpan r11.1.CoalBook.Eats 2 ++ (sg r11.1.CoalBook.Extra 3 ++ [SL A15 r11.1.CoalBook.Days.length c16, I r11.1.CoalBook.Collier.Low, I r11.1.CoalBook.Collier.High, I r11.1.CoalBook.Brings, SL A17 r11.1.CoalBook.Dips.length c18, Value.map m19]))) sz92 S29 (i := 0) rfl rfl rfl rfl (rfl : _ = AG ([I r11.1.CoalBook.Heap.Low, I r11.1.CoalBook.Heap.High] ++ (sgE eSpan r11.1.CoalBook.Eats 2 ++ (sg r11.1.CoalBook.Extra 3 ++ [SL A15 r11.1.CoalBook.Days.length c16, I r11.1.CoalBook.Collier.Low, I r11.1.CoalBook.Collier.High, I r11.1.CoalBook.Brings, SL A17 r11.1.CoalBook.Dips.length c18, Value.map m19])))) rfl rfl rfl rfl fun w30 S31 => ?_
  refine p_aI rfl ?_
  refine wp_nil ?_
  refine c_seq ?_
  refine c_seq ?_
  refine reg ?_
  refine p_mI rfl ?_
  refine p_cmp rfl rfl rfl ?_
  refine wp_nil ?_
  refine c_cond rfl (fun c32 => ?_) (fun c32 => ?_)
  · replace H := condT c32 H
    refine c_seq ?_
    refine reg ?_
    refine p_mI rfl ?_
    refine p_aI rfl ?_
    refine p_aI rfl ?_
    refine wp_nil ?_
    obtain rfl := Option.some.inj H
    refine c_ret ?_; show bodyPostM (Fr none) 0 Tryd.prog Tryd.f37 _ .ret _ _
    refine ret_of (res2 rfl (rvT (rfl : _ = I 0)) (rvT (rfl : _ = I r11.2))) ?_
    exact ⟨_, rfl, rfl, S31.keep⟩
  · replace H := condF c32 H
    refine c_skip ?_
    refine c_seq ?_
    refine c_seq ?_
    refine reg ?_
    refine p_fld fl29_3 rfl ?_
    refine p_ld ty26 (S31.atX (i := 1) rfl) rfl rfl ?_
    refine p_len rfl sc26 ?_
    refine p_mI rfl ?_
    refine wp_nil ?_
    refine c_block ?_
    have S33 := S31.pk [0] (by decide) [0, 1, 2, 3, 4, 5] rfl rfl
    refine c_lop (α := Int) (β := Unit) (coal_Day_l1 a0 r11) (fun z_1 y_1 => [(4, P b27 0), (17, I (a0.Days.length : Int)), (18, I z_1)]) (fun z_1 y_1 w_ => St w (fun _ => False) w_ [bl b27 ([I r11.1.CoalBook.Heap.Low, I r11.1.CoalBook.Heap.High] ++ (sgE eSpan r11.1.CoalBook.Eats 2 ++ (sg r11.1.CoalBook.Extra 3 ++ [SL A15 r11.1.CoalBook.Days.length c16, I r11.1.CoalBook.Collier.Low, I r11.1.CoalBook.Collier.High, I r11.1.CoalBook.Brings, SL A17 r11.1.CoalBook.Dips.length c18, Value.map m19]))) 92] [rd eCoalDay 3 A15 c16 r11.1.CoalBook.Days, rd eCoalDip 3 A17 c18 r11.1.CoalBook.Dips, mpo ekG iE m19 r11.1.costs_, rd eCoalDay 3 A1 c2 a0.Days, rd eCoalDip 3 A4 c5 a0.Dips, bl 1 [I (-1), I (-1)] 123]) 0 () H ⟨rfl, rfl, rfl, trivial⟩ S33 ?_
    intro m34 z_1 y_1 e35 w36 H S37
    unfold coal_Day_l1 at H
    refine c_seq ?_
    refine reg ?_
    refine p_cmp rfl rfl rfl ?_
    refine wp_nil ?_
    refine c_seq ?_
    refine c_cond rfl (fun c38 => ?_) (fun c38 => ?_)
    · replace H := condT c38 H
      refine c_skip ?_
      refine c_seq ?_
      refine c_block ?_
      refine c_seq ?_
      refine reg ?_
      refine p_mI rfl ?_
      refine p_aI rfl ?_
      refine wp_nil ?_
      refine c_seq ?_
      refine reg_c mixed 6 [2, 3, 4, 5] (by kernel_rfl) ?_
      refine kS rfl (fun _ k_ => p_ldA ty92 sz92 (Asr.stays (S37.atX (i := 0) rfl) k_) rfl rfl dn) ?_
      refine kS rfl (fun _ k_ => p_mI rfl dn) ?_
      refine kC rfl ?_
      refine kC rfl ?_
      refine kC rfl ?_
      refine kC rfl ?_
      intro w39 k40; have S41 := S37.call k40
      obtain ⟨r42, h43, H⟩ := bindS H
      refine p_cal (coal_coal_ok h43) fu77 rfl ?_
      rintro _ w44 ⟨b46, rfl, k45, ⟨o47, n48⟩, _⟩
      have S49 := S41.addNew k45 o47 n48
      refine cN k45 fun w50 k51 => ?_
      have S52 := S49.call k51
      obtain ⟨r54, h55, H⟩ := bindS H
      refine p_cal (coal_book_span_ok h55 (S52.atP (i := 0) rfl) (S52.atP (i := 1) rfl) (S52.atP (i := 2) rfl) (by kernel_rfl) (fun _ _ _ k_ hr_ => coal_coal_1_ok hr_ (Asr.stays (S52.atX (i := 0) rfl) k_))) fu76 rfl ?_
      rintro _ w56 ⟨rfl, k57⟩; refine cN k57 fun w58 k59 => ?_
      have S60 := (S52.call k57).call k59
      refine p_fieldV ft23_0 ty3 rfl rfl (cN (Keep.refl _ _) fun w61 k62 => ?_)
      have S63 := S60.call k62
      refine p_cmp rfl rfl rfl (cN (Keep.refl _ _) fun w64 k65 => ?_)
      have S66 := S63.call k65
      refine wp_nil ?_
      refine c_cond rfl (fun c67 => ?_) (fun c67 => ?_)
      · replace H := condT c67 H
        refine c_seq ?_
        refine reg ?_
        refine p_mI rfl ?_
        refine p_aI rfl ?_
        refine p_aI rfl ?_
        refine wp_nil ?_
        obtain rfl := Option.some.inj H
        refine c_ret ?_; show bodyPostM (Fr none) 0 Tryd.prog Tryd.f37 _ .ret _ _
        refine ret_of (res2 rfl (rvT (rfl : _ = I z_1)) (rvT (rfl : _ = I 0))) ?_
        exact ⟨_, rfl, rfl, S66.keep⟩
      · replace H := condF c67 H
        refine c_skip ?_
        refine reg ?_
        refine p_add rfl rfl ?_
        refine p_mI rfl ?_
        refine wp_nil ?_
        have S68 := S66.pk [1] (by decide) [0, 1, 2, 3, 4, 5] rfl rfl
        exact ⟨wr (z_1 + 1), (), _, rfl, ⟨rfl, rfl, rfl, trivial⟩, H, S68⟩
    · replace H := condF c38 H
      refine c_exit ?_
      refine c_seq ?_
      refine reg ?_
      refine p_aI rfl ?_
      refine p_aI rfl ?_
      refine wp_nil ?_
      obtain rfl := Option.some.inj H
      refine c_ret ?_; show bodyPostM (Fr none) 0 Tryd.prog Tryd.f37 _ .ret _ _
      refine ret_of (res2 rfl (rvT (rfl : _ = I 0)) (rvT (rfl : _ = I 4))) ?_
      exact ⟨_, rfl, rfl, S37.keep⟩

def B_Alike_l1 (a0 : List Int) (a1 : List Int) (rec_z_1 : Int → Option Bool) (z_1 : Int) : Option Bool :=
  bif decide (z_1 < (a0.length : Int)) then ((getI a0 z_1).bind fun r13 =>
  (getI a1 z_1).bind fun r15 =>
  bif (r13 != r15) then (some false)
  else (rec_z_1 (wr (z_1 + 1))))
  else (some true)

def B_Alike (a0 : List Int) (a1 : List Int) : Option Bool :=
  bif ((a0.length : Int) != (a1.length : Int)) then (some false)
  else (loopF (B_Alike_l1 a0 a1) big 0)

set_option maxRecDepth 100000 in
theorem B_Alike_ok {a0 : List Int} {a1 : List Int} {A1 : Option Addr} {c2 : Nat} {A4 : Option Addr} {c5 : Nat} {w : World} {r : Bool} (H : B_Alike a0 a1 = some r) (h3 : (rd intE 1 A1 c2 a0).ok w) (h6 : (rd intE 1 A4 c5 a1).ok w) : Calls Tryd.prog 43 #[SL A1 a0.length c2, SL A4 a1.length c5] w (RetV w (B r)) := by
  unfold B_Alike at H
  refine fn_of (n := 26) Tryd.func43 rfl rfl (Nat.le_of_ble_eq_true rfl) ?_
  have S : St w (fun _ => False) w [] [rd intE 1 A1 c2 a0, rd intE 1 A4 c5 a1] := St.start w _ _ (List.forall_mem_cons.2 ⟨h3, (List.forall_mem_cons.2 ⟨h6, (fun _ h_ => (List.not_mem_nil h_).elim)⟩)⟩)
  refine c_seq ?_
  refine reg ?_
  refine p_aB rfl ?_
  refine wp_nil ?_
  refine c_seq ?_
  refine c_seq ?_
  refine reg ?_
  refine p_mS rfl ?_
  refine p_len rfl sc39 ?_
  refine p_mS rfl ?_
  refine p_len rfl sc39 ?_
  refine p_cmp rfl rfl rfl ?_
  refine wp_nil ?_
  refine c_cond rfl (fun c7 => ?_) (fun c7 => ?_)
  · replace H := condT c7 H
    refine c_seq ?_
    refine reg ?_
    refine p_aB rfl ?_
    refine wp_nil ?_
    obtain rfl := Option.some.inj H
    refine c_ret ?_; show bodyPostM (Fr none) 0 Tryd.prog Tryd.f43 _ .ret _ _
    refine ret_of (res1 rfl (rvT (rfl : _ = B false))) ?_
    exact ⟨_, rfl, rfl, S.keep⟩
  · replace H := condF c7 H
    refine c_skip ?_
    refine c_seq ?_
    refine c_seq ?_
    refine reg ?_
    refine p_aI rfl ?_
    refine wp_nil ?_
    refine c_block ?_
    refine c_lop (α := Int) (β := Unit) (B_Alike_l1 a0 a1) (fun z_1 y_1 => [(0, SL A1 a0.length c2), (1, SL A4 a1.length c5), (5, I z_1)]) (fun z_1 y_1 w_ => St w (fun _ => False) w_ [] [rd intE 1 A1 c2 a0, rd intE 1 A4 c5 a1]) 0 () H ⟨rfl, rfl, rfl, trivial⟩ S ?_
    intro m8 z_1 y_1 e9 w10 H S11
    unfold B_Alike_l1 at H
    refine c_seq ?_
    refine c_seq ?_
    refine reg ?_
    refine p_mI rfl ?_
    refine p_mS rfl ?_
    refine p_len rfl sc39 ?_
    refine p_cmp rfl rfl rfl ?_
    refine wp_nil ?_
    refine c_cond rfl (fun c12 => ?_) (fun c12 => ?_)
    · replace H := condT c12 H
      refine c_skip ?_
      refine c_seq ?_
      refine c_block ?_
      refine c_seq ?_
      obtain ⟨r13, h14, H⟩ := bindS H
      obtain ⟨r15, h16, H⟩ := bindS H
      refine reg_q mixed 9 (by kernel_rfl) ?_
      refine dS (fun _ k_ => p_mS rfl dn) ?_
      refine dS (fun _ k_ => p_mI rfl dn) ?_
      refine dS (fun _ k_ => p_ixE sc39 h14 (Asr.stays (S11.atP (i := 0) rfl) k_).1 rfl rfl rfl dn) ?_
      refine dS (fun _ k_ => p_ldE ty3 h14 (Asr.stays (S11.atP (i := 0) rfl) k_).1 rfl rfl dn) ?_
      refine dS (fun _ k_ => p_mS rfl dn) ?_
      refine dS (fun _ k_ => p_mI rfl dn) ?_
      refine dS (fun _ k_ => p_ixE sc39 h16 (Asr.stays (S11.atP (i := 1) rfl) k_).1 rfl rfl rfl dn) ?_
      refine dS (fun _ k_ => p_ldE ty3 h16 (Asr.stays (S11.atP (i := 1) rfl) k_).1 rfl rfl dn) ?_
      refine dS (fun _ k_ => p_cmp rfl rfl rfl dn) ?_
      intro w17 k18; have S19 := S11.call k18
      refine wp_nil ?_
      refine c_cond rfl (fun c20 => ?_) (fun c20 => ?_)
      · replace H := condT c20 H
        refine c_seq ?_
        refine reg ?_
        refine p_aB rfl ?_
        refine wp_nil ?_
        obtain rfl := Option.some.inj H
        refine c_ret ?_; show bodyPostM (Fr none) 0 Tryd.prog Tryd.f43 _ .ret _ _
        refine ret_of (res1 rfl (rvT (rfl : _ = B false))) ?_
        exact ⟨_, rfl, rfl, S19.keep⟩
      · replace H := condF c20 H
        refine c_skip ?_
        refine reg ?_
        refine p_mI rfl ?_
        refine p_add rfl rfl ?_
        refine p_aI rfl ?_
        refine wp_nil ?_
        exact ⟨wr (z_1 + 1), (), _, rfl, ⟨rfl, rfl, rfl, trivial⟩, H, S19⟩
    · replace H := condF c12 H
      refine c_exit ?_
      refine c_seq ?_
      refine reg ?_
      refine p_aB rfl ?_
      refine wp_nil ?_
      obtain rfl := Option.some.inj H
      refine c_ret ?_; show bodyPostM (Fr none) 0 Tryd.prog Tryd.f43 _ .ret _ _
      refine ret_of (res1 rfl (rvT (rfl : _ = B true))) ?_
      exact ⟨_, rfl, rfl, S11.keep⟩

def coal_Late_r2 (a0 : CoalBook) (x_1 : Coal_truth) (z_1 : Int) : Option (Bool × Nat × Int) :=
  (coal_truth_lasts x_1 (wr ((a0.Days.length : Int) - 1))).bind fun r73 =>
  bif !r73 then (some (true, 0, (if x_1.collier_ < z_1 then x_1.collier_ else z_1)))
  else (some (true, 0, z_1))

def coal_Late (a0 : CoalBook) : Option (Int × Int) :=
  (coal_asked a0 true).bind fun r11 =>
  bif (r11.2 != 0) then (some (0, r11.2))
  else ((coal_book_truths r11.1).bind fun r38 =>
  (coal_book_truths_1 (0, wr (a0.Collier.High + 1)) r11.1 (yvOf (coal_Late_r2 a0))).bind fun r47 =>
  bif (r47.2 == a0.Collier.Low) then (some (0, 4))
  else (some (wr (r47.2 - 1), 0)))

set_option maxRecDepth 100000 in
theorem coal_Late_ok {a0 : CoalBook} {A1 : Option Addr} {c2 : Nat} {A4 : Option Addr} {c5 : Nat} {w : World} {r : Int × Int} (H : coal_Late a0 = some r) (h3 : (rd eCoalDay 3 A1 c2 a0.Days).ok w) (h6 : (rd eCoalDip 3 A4 c5 a0.Dips).ok w) (hg7 : (bl 1 [I (-1), I (-1)] 123).ok w) : Calls Tryd.prog 45 #[AG ([I a0.Heap.Low, I a0.Heap.High] ++ (sgE eSpan a0.Eats 2 ++ (sg a0.Extra 3 ++ [SL A1 a0.Days.length c2, I a0.Collier.Low, I a0.Collier.High, I a0.Brings, SL A4 a0.Dips.length c5])))] w (RetV w (TU [I r.1, I r.2])) := by
  unfold coal_Late at H
  refine fn_of (n := 41) Tryd.func45 rfl rfl (Nat.le_of_ble_eq_true rfl) ?_
  have S : St w (fun _ => False) w [] [rd eCoalDay 3 A1 c2 a0.Days, rd eCoalDip 3 A4 c5 a0.Dips, bl 1 [I (-1), I (-1)] 123] := St.start w _ _ (List.forall_mem_cons.2 ⟨h3, (List.forall_mem_cons.2 ⟨h6, (List.forall_mem_cons.2 ⟨hg7, (fun _ h_ => (List.not_mem_nil h_).elim)⟩)⟩)⟩)
  refine c_seq ?_
  refine reg ?_
  refine p_boxA rfl S fun b8 w9 S10 => ?_
  refine p_aI rfl ?_
  refine p_aI rfl ?_
  refine wp_nil ?_
  refine c_seq ?_
  refine reg ?_
  refine p_ldA ty29 sz29 (S10.atX (i := 0) rfl) rfl rfl ?_
  obtain ⟨r11, h12, H⟩ := bindS H
  refine p_cal (coal_asked_ok h12 (S10.atP (i := 0) rfl) (S10.atP (i := 1) rfl) (S10.atP (i := 2) rfl)) fu74 rfl ?_
  rintro _ w13 ⟨A15, c16, A17, c18, m19, rfl, k14, ⟨o20, n21⟩, ⟨o22, n23⟩, ⟨o24, n25⟩, _⟩
  have S26 := S10.callN k14 [rd eCoalDay 3 A15 c16 r11.1.CoalBook.Days, rd eCoalDip 3 A17 c18 r11.1.CoalBook.Dips, mpo ekG iE m19 r11.1.costs_] (List.forall_mem_cons.2 ⟨⟨o20, Al.inL n21 ((List.forall_mem_cons.2 ⟨(fp_mem (i := 0) rfl), (List.forall_mem_cons.2 ⟨(fp_mem (i := 1) rfl), (fun _ h_ => (List.not_mem_nil h_).elim)⟩)⟩))⟩, (List.forall_mem_cons.2 ⟨⟨o22, New.inL n23⟩, (List.forall_mem_cons.2 ⟨⟨o24, New.inL n25⟩, (fun _ h_ => (List.not_mem_nil h_).elim)⟩)⟩)⟩)
  refine p_mT rfl ?_
  refine p_ext rfl rfl ?_
  refine p_ext rfl rfl ?_
  refine p_allA in92 S26 fun b27 w28 S29 => ?_
  refine p_stP (pre := []) (old := [I 0, I 0, I 0, I 0, I 0, I 0] ++ (sg (List.replicate 3 0) 3 ++ [SL none 0 0, I 0, I 0, I 0, SL none 0 0, Value.map none])) (post := []) (vs := [I r11.1.CoalBook.Heap.Low, I r11.1.CoalBook.Heap.High] ++ (sgE eSpan r11.1.CoalBook.Eats 2 ++ (sg r11.1.CoalBook.Extra 3 ++ [SL A15 r11.1.CoalBook.Days.length c16, I r11.1.CoalBook.Collier.Low, I r11.1.CoalBook.Collier.High, I r11.1.CoalBook.Brings, SL A17 r11.1.CoalBook.Dips.length c18, Value.map m19]))) sz92 S29 (i := 0) rfl rfl rfl rfl (rfl : _ = AG ([I r11.1.CoalBook.Heap.Low, I r11.1.CoalBook.Heap.High] ++ (sgE eSpan r11.1.CoalBook.Eats 2 ++ (sg r11.1.CoalBook.Extra 3 ++ [SL A15 r11.1.CoalBook.Days.length c16, I r11.1.CoalBook.Collier.Low, I r11.1.CoalBook.Collier.High, I r11.1.CoalBook.Brings, SL A17 r11.1.CoalBook.Dips.length c18, Value.map m19])))) rfl rfl rfl rfl fun w30 S31 => ?_
  refine p_aI rfl ?_
  refine wp_nil ?_
  refine c_seq ?_
  refine c_seq ?_
  refine reg ?_
  refine p_mI rfl ?_
  refine p_cmp rfl rfl rfl ?_
  refine wp_nil ?_
  refine c_cond rfl (fun c32 => ?_) (fun c32 => ?_)
  · replace H := condT c32 H
    refine c_seq ?_
    refine reg ?_
    refine p_mI rfl ?_
    refine p_aI rfl ?_
    refine p_aI rfl ?_
    refine wp_nil ?_
    obtain rfl := Option.some.inj H
    refine c_ret ?_; show bodyPostM (Fr none) 0 Tryd.prog Tryd.f45 _ .ret _ _
    refine ret_of (res2 rfl (rvT (rfl : _ = I 0)) (rvT (rfl : _ = I r11.2))) ?_
    exact ⟨_, rfl, rfl, S31.keep⟩
  · replace H := condF c32 H
    refine c_skip ?_
    refine c_seq ?_
    refine reg ?_
    refine p_fld fl29_4 rfl ?_
    refine p_fld fl23_1 rfl ?_
    refine p_ld ty3 (S31.atX (i := 1) rfl) rfl rfl ?_
    refine p_add rfl rfl ?_
    refine p_all in3 rfl S31 fun b33 w34 S35 => ?_
    refine p_st sz3 S35 (i := 0) rfl rfl (rfl : _ = I (wr (a0.Collier.High + 1))) rfl rfl fun w36 S37 => ?_
    refine wp_nil ?_
    refine c_seq ?_
    refine c_seq ?_
    refine reg ?_
    refine p_ldA ty92 sz92 (S37.atX (i := 1) rfl) rfl rfl ?_
    obtain ⟨r38, h39, H⟩ := bindS H
    refine p_cal (coal_book_truths_ok h39 (S37.atP (i := 0) rfl) (S37.atP (i := 1) rfl) (S37.atP (i := 2) rfl)) fu78 rfl ?_
    rintro _ w40 ⟨b42, rfl, k41, ⟨o43, n44⟩, _⟩
    have S45 := S37.addNew k41 o43 n44
    refine wp_nil ?_
    refine c_block ?_
    have S46 := S45.fix (i := 0) rfl
    obtain ⟨r47, h48, H⟩ := bindS H

    have S49 := S46
    refine c_rangeG (α := Int) (β := Unit) (ε := Coal_truth) (K := [bl b42 ([I r11.1.CoalBook.Heap.Low, I r11.1.CoalBook.Heap.High] ++ (sgE eSpan r11.1.CoalBook.Eats 2 ++ (sg r11.1.CoalBook.Extra 3 ++ [SL A15 r11.1.CoalBook.Days.length c16, I r11.1.CoalBook.Collier.Low, I r11.1.CoalBook.Collier.High, I r11.1.CoalBook.Brings, SL A17 r11.1.CoalBook.Dips.length c18, Value.map m19]))) 92, rd eCoalDay 3 A15 c16 r11.1.CoalBook.Days, rd eCoalDip 3 A17 c18 r11.1.CoalBook.Dips, mpo ekG iE m19 r11.1.costs_]) (MK := Go.Fx.mark) (XR := fun D50 => [] ++ [bx D50 (.deferred (some []))]) (it := fun {σ} yv s_ => coal_book_truths_1 s_ r11.1 yv) (enc := yE1) (coal_Late_r2 a0) [] (fun z_1 y_1 => [bl b33 [I z_1] 3, bl b27 ([I r11.1.CoalBook.Heap.Low, I r11.1.CoalBook.Heap.High] ++ (sgE eSpan r11.1.CoalBook.Eats 2 ++ (sg r11.1.CoalBook.Extra 3 ++ [SL A15 r11.1.CoalBook.Days.length c16, I r11.1.CoalBook.Collier.Low, I r11.1.CoalBook.Collier.High, I r11.1.CoalBook.Brings, SL A17 r11.1.CoalBook.Dips.length c18, Value.map m19]))) 92, bl b8 ([I a0.Heap.Low, I a0.Heap.High] ++ (sgE eSpan a0.Eats 2 ++ (sg a0.Extra 3 ++ [SL A1 a0.Days.length c2, I a0.Collier.Low, I a0.Collier.High, I a0.Brings, SL A4 a0.Dips.length c5]))) 29]) (wr (a0.Collier.High + 1)) () h48 (ent_none (X0 := (fun z_1 y_1 => [bl b33 [I z_1] 3, bl b27 ([I r11.1.CoalBook.Heap.Low, I r11.1.CoalBook.Heap.High] ++ (sgE eSpan r11.1.CoalBook.Eats 2 ++ (sg r11.1.CoalBook.Extra 3 ++ [SL A15 r11.1.CoalBook.Days.length c16, I r11.1.CoalBook.Collier.Low, I r11.1.CoalBook.Collier.High, I r11.1.CoalBook.Brings, SL A17 r11.1.CoalBook.Dips.length c18, Value.map m19]))) 92, bl b8 ([I a0.Heap.Low, I a0.Heap.High] ++ (sgE eSpan a0.Eats 2 ++ (sg a0.Extra 3 ++ [SL A1 a0.Days.length c2, I a0.Collier.Low, I a0.Collier.High, I a0.Brings, SL A4 a0.Dips.length c5]))) 29]) (wr (a0.Collier.High + 1)) () ++ []) S49) rfl fu95 (fun w_ σ yv_ s_ s'_ l_ G_ A_ hH_ hG_ hk_ hd_ hy_ => (coal_book_truths_1_ok hH_ hG_ (hk_ _ (List.mem_of_getElem? (i := 0) rfl)) (hk_ _ (List.mem_of_getElem? (i := 1) rfl)) (hk_ _ (List.mem_of_getElem? (i := 2) rfl)) (hk_ _ (List.mem_of_getElem? (i := 3) rfl)) hd_ hy_ (Link.refl _ _)).mono fun en_ w3_ ⟨u_, he_, A'_, hu_, hk2_, ho_, hf_⟩ => ⟨u_, he_, hk2_, A'_, ho_, hf_⟩) (List.forall_mem_cons.2 ⟨List.mem_of_getElem? (i := 0) rfl, (List.forall_mem_cons.2 ⟨List.mem_of_getElem? (i := 1) rfl, (List.forall_mem_cons.2 ⟨List.mem_of_getElem? (i := 2) rfl, (List.forall_mem_cons.2 ⟨List.mem_of_getElem? (i := 3) rfl, (fun _ h_ => (List.not_mem_nil h_).elim)⟩)⟩)⟩)⟩) (fun _ => rfl) (fun _ h_ => (List.not_mem_nil h_).elim) ?_ ?_ ?_
    · intro l51 oR52 oB53 Cr54 x_1 z_1 y_1 w55 b56 c57 z58 PP59 H S60 hlk61 ho62 hB63 hN64 hX65
      unfold coal_Late_r2 at H
      replace S60 : St w55 Cr54 w55 [bx l51 oR52, bl b33 [I z_1] 3, bl b27 ([I r11.1.CoalBook.Heap.Low, I r11.1.CoalBook.Heap.High] ++ (sgE eSpan r11.1.CoalBook.Eats 2 ++ (sg r11.1.CoalBook.Extra 3 ++ [SL A15 r11.1.CoalBook.Days.length c16, I r11.1.CoalBook.Collier.Low, I r11.1.CoalBook.Collier.High, I r11.1.CoalBook.Brings, SL A17 r11.1.CoalBook.Dips.length c18, Value.map m19]))) 92, bl b8 ([I a0.Heap.Low, I a0.Heap.High] ++ (sgE eSpan a0.Eats 2 ++ (sg a0.Extra 3 ++ [SL A1 a0.Days.length c2, I a0.Collier.Low, I a0.Collier.High, I a0.Brings, SL A4 a0.Dips.length c5]))) 29] [bl b42 ([I r11.1.CoalBook.Heap.Low, I r11.1.CoalBook.Heap.High] ++ (sgE eSpan r11.1.CoalBook.Eats 2 ++ (sg r11.1.CoalBook.Extra 3 ++ [SL A15 r11.1.CoalBook.Days.length c16, I r11.1.CoalBook.Collier.Low, I r11.1.CoalBook.Collier.High, I r11.1.CoalBook.Brings, SL A17 r11.1.CoalBook.Dips.length c18, Value.map m19]))) 92, rd eCoalDay 3 A15 c16 r11.1.CoalBook.Days, rd eCoalDip 3 A17 c18 r11.1.CoalBook.Dips, mpo ekG iE m19 r11.1.costs_, rd eCoalDay 3 A1 c2 a0.Days, rd eCoalDip 3 A4 c5 a0.Dips, bl 1 [I (-1), I (-1)] 123] := S60
      refine reg ?_
      refine p_allA in108 S60 fun b66 w67 S68 => ?_
      refine p_stP (pre := []) (old := sg (List.replicate 2 0) 2 ++ ([I 0] ++ (sg (List.replicate 6 0) 6 ++ sg (List.replicate 6 0) 6))) (post := []) (vs := sg x_1.eats_ 2 ++ ([I x_1.collier_] ++ (sg x_1.winds_ 6 ++ sg x_1.coal_ 6))) sz108 S68 (i := 0) rfl rfl rfl rfl (rfl : _ = AG (sg x_1.eats_ 2 ++ ([I x_1.collier_] ++ (sg x_1.winds_ 6 ++ sg x_1.coal_ 6)))) rfl rfl rfl rfl fun w69 S70 => ?_
      refine wp_nil ?_
      refine hB63 _ _ 1 _ S70 rfl fun w71 S72 => ?_
      replace S72 : St w55 Cr54 w71 [bl b66 (sg x_1.eats_ 2 ++ ([I x_1.collier_] ++ (sg x_1.winds_ 6 ++ sg x_1.coal_ 6))) 108, bx l51 oB53, bl b33 [I z_1] 3, bl b27 ([I r11.1.CoalBook.Heap.Low, I r11.1.CoalBook.Heap.High] ++ (sgE eSpan r11.1.CoalBook.Eats 2 ++ (sg r11.1.CoalBook.Extra 3 ++ [SL A15 r11.1.CoalBook.Days.length c16, I r11.1.CoalBook.Collier.Low, I r11.1.CoalBook.Collier.High, I r11.1.CoalBook.Brings, SL A17 r11.1.CoalBook.Dips.length c18, Value.map m19]))) 92, bl b8 ([I a0.Heap.Low, I a0.Heap.High] ++ (sgE eSpan a0.Eats 2 ++ (sg a0.Extra 3 ++ [SL A1 a0.Days.length c2, I a0.Collier.Low, I a0.Collier.High, I a0.Brings, SL A4 a0.Dips.length c5]))) 29] [bl b42 ([I r11.1.CoalBook.Heap.Low, I r11.1.CoalBook.Heap.High] ++ (sgE eSpan r11.1.CoalBook.Eats 2 ++ (sg r11.1.CoalBook.Extra 3 ++ [SL A15 r11.1.CoalBook.Days.length c16, I r11.1.CoalBook.Collier.Low, I r11.1.CoalBook.Collier.High, I r11.1.CoalBook.Brings, SL A17 r11.1.CoalBook.Dips.length c18, Value.map m19]))) 92, rd eCoalDay 3 A15 c16 r11.1.CoalBook.Days, rd eCoalDip 3 A17 c18 r11.1.CoalBook.Dips, mpo ekG iE m19 r11.1.costs_, rd eCoalDay 3 A1 c2 a0.Days, rd eCoalDip 3 A4 c5 a0.Dips, bl 1 [I (-1), I (-1)] 123] := S72
      refine c_block ?_
      refine c_seq ?_
      refine reg ?_
      refine p_ldA ty108 sz108 (S72.atX (i := 0) rfl) rfl rfl ?_
      refine p_fld fl29_3 rfl ?_
      refine p_ld ty26 (S72.atX (i := 4) rfl) rfl rfl ?_
      refine p_len rfl sc26 ?_
      refine p_sub rfl rfl ?_
      obtain ⟨r73, h74, H⟩ := bindS H
      refine p_cv (coal_truth_lasts_ok h74) fu82 rfl S72 fun w75 S76 => ?_
      refine p_not rfl ?_
      refine wp_nil ?_
      refine c_cond rfl (fun c77 => ?_) (fun c77 => ?_)
      · replace H := condT c77 H
        refine reg ?_
        refine p_ld ty3 (S76.atX (i := 2) rfl) rfl rfl ?_
        refine p_fld fl108_1 rfl ?_
        refine p_ld ty3 (S76.atX (i := 0) rfl) rfl rfl ?_
        refine p_min rfl rfl ?_
        refine p_st sz3 S76 (i := 2) rfl rfl (rfl : _ = I (if x_1.collier_ < z_1 then x_1.collier_ else z_1)) rfl rfl fun w78 S79 => ?_
        refine wp_nil ?_
        have S80 := S79.pk [1, 2, 3, 4] (by decide) [0, 1, 2, 3, 4, 5, 6] rfl rfl
        exact hN64 _ _ (if x_1.collier_ < z_1 then x_1.collier_ else z_1) () S80 (Option.some.inj H)
      · replace H := condF c77 H
        refine c_skip ?_
        have S80 := S76.pk [1, 2, 3, 4] (by decide) [0, 1, 2, 3, 4, 5, 6] rfl rfl
        exact hN64 _ _ z_1 () S80 (Option.some.inj H)
    · intro hc86
      intro l80 D81 o82 y83 w84 S85
      have S87 : St w (fun _ => False) w84 [bl b33 [I r47.2] 3, bl b27 ([I r11.1.CoalBook.Heap.Low, I r11.1.CoalBook.Heap.High] ++ (sgE eSpan r11.1.CoalBook.Eats 2 ++ (sg r11.1.CoalBook.Extra 3 ++ [SL A15 r11.1.CoalBook.Days.length c16, I r11.1.CoalBook.Collier.Low, I r11.1.CoalBook.Collier.High, I r11.1.CoalBook.Brings, SL A17 r11.1.CoalBook.Dips.length c18, Value.map m19]))) 92, bl b8 ([I a0.Heap.Low, I a0.Heap.High] ++ (sgE eSpan a0.Eats 2 ++ (sg a0.Extra 3 ++ [SL A1 a0.Days.length c2, I a0.Collier.Low, I a0.Collier.High, I a0.Brings, SL A4 a0.Dips.length c5]))) 29, bx D81 (.deferred (some []))] [bl b42 ([I r11.1.CoalBook.Heap.Low, I r11.1.CoalBook.Heap.High] ++ (sgE eSpan r11.1.CoalBook.Eats 2 ++ (sg r11.1.CoalBook.Extra 3 ++ [SL A15 r11.1.CoalBook.Days.length c16, I r11.1.CoalBook.Collier.Low, I r11.1.CoalBook.Collier.High, I r11.1.CoalBook.Brings, SL A17 r11.1.CoalBook.Dips.length c18, Value.map m19]))) 92, rd eCoalDay 3 A15 c16 r11.1.CoalBook.Days, rd eCoalDip 3 A17 c18 r11.1.CoalBook.Dips, mpo ekG iE m19 r11.1.costs_, rd eCoalDay 3 A1 c2 a0.Days, rd eCoalDip 3 A4 c5 a0.Dips, bl 1 [I (-1), I (-1)] 123] := St.tail1 S85
      refine c_seq ?_
      refine c_seq ?_
      refine reg ?_
      refine p_ld ty3 (S87.atX (i := 0) rfl) rfl rfl ?_
      refine p_fld fl29_4 rfl ?_
      refine p_fld fl23_0 rfl ?_
      refine p_ld ty3 (S87.atX (i := 2) rfl) rfl rfl ?_
      refine p_cmp rfl rfl rfl ?_
      refine wp_nil ?_
      refine c_cond rfl (fun c88 => ?_) (fun c88 => ?_)
      · replace H := condT c88 H
        refine c_seq ?_
        refine reg ?_
        refine p_aI rfl ?_
        refine p_aI rfl ?_
        refine wp_nil ?_
        refine c_ret ?_
        refine leave_mark S87 (i := 3) rfl fun w89 S90 => ?_
        obtain rfl := Option.some.inj H
        show bodyPostM (Fr none) 0 Tryd.prog Tryd.f45 _ .ret _ _
        refine ret_of (res2 rfl (rvT (rfl : _ = I 0)) (rvT (rfl : _ = I 4))) ?_
        exact ⟨_, rfl, rfl, S90.keep⟩
      · replace H := condF c88 H
        refine c_skip ?_
        refine c_seq ?_
        refine reg ?_
        refine p_ld ty3 (S87.atX (i := 0) rfl) rfl rfl ?_
        refine p_sub rfl rfl ?_
        refine p_aI rfl ?_
        refine p_aI rfl ?_
        refine wp_nil ?_
        refine c_ret ?_
        refine leave_mark S87 (i := 3) rfl fun w91 S92 => ?_
        obtain rfl := Option.some.inj H
        show bodyPostM (Fr none) 0 Tryd.prog Tryd.f45 _ .ret _ _
        refine ret_of (res2 rfl (rvT (rfl : _ = I (wr (r47.2 - 1)))) (rvT (rfl : _ = I 0))) ?_
        exact ⟨_, rfl, rfl, S92.keep⟩
    · intro k93 c94 hk95 hc96
      cases hk95

def law_book (a0 : List CoalDip) : Option CoalBook :=
  (B_Range 20 22).bind fun r7 =>
  (B_Range 1 2).bind fun r11 =>
  (B_Point 2).bind fun r15 =>
  (B_Range 1 2).bind fun r24 =>
  some (CoalBook.mk r7 [r11, r15] [0, 1, 3] [(CoalDay.mk 2 3 3), (CoalDay.mk 3 1 2), (CoalDay.mk 2 3 6)] r24 5 a0)

set_option maxRecDepth 100000 in
theorem law_book_ok {a0 : List CoalDip} {A1 : Option Addr} {c2 : Nat} {w : World} {r : CoalBook} (H : law_book a0 = some r) (h3 : (rd eCoalDip 3 A1 c2 a0).ok w) : Calls Tryd.prog 51 #[SL A1 a0.length c2] w fun en w_ => ∃ u_, en = .returned u_ ∧ ∃ A_1 : Option Addr, ∃ c_2 : Nat, u_ = AG ([I r.Heap.Low, I r.Heap.High] ++ (sgE eSpan r.Eats 2 ++ (sg r.Extra 3 ++ [SL A_1 r.Days.length c_2, I r.Collier.Low, I r.Collier.High, I r.Brings, SL A1 a0.length c2]))) ∧ Keep0 w w_ ∧ ((gr eCoalDay 3 64 A_1 c_2 r.Days).ok w_ ∧ New w.heap.size (gr eCoalDay 3 64 A_1 c_2 r.Days)) ∧ True := by
  unfold law_book at H
  refine fn_of (n := 15) Tryd.func51 rfl rfl (Nat.le_of_ble_eq_true rfl) ?_
  have S : St w (fun _ => False) w [] [rd eCoalDip 3 A1 c2 a0] := St.start w _ _ (List.forall_mem_cons.2 ⟨h3, (fun _ h_ => (List.not_mem_nil h_).elim)⟩)
  refine c_seq ?_
  refine reg ?_
  refine p_allA in29 S fun b4 w5 S6 => ?_
  refine wp_nil ?_
  refine c_seq ?_
  refine reg ?_
  obtain ⟨r7, h8, H⟩ := bindS H
  refine p_cv (B_Range_ok h8) fu44 rfl S6 fun w9 S10 => ?_
  obtain ⟨r11, h12, H⟩ := bindS H
  refine p_cv (B_Range_ok h12) fu44 rfl S10 fun w13 S14 => ?_
  obtain ⟨r15, h16, H⟩ := bindS H
  refine p_cv (B_Point_ok h16) fu38 rfl S14 fun w17 S18 => ?_
  refine p_bldA (z := [I 0, I 0, I 0, I 0]) (cs := [I r11.Low, I r11.High, I r15.Low, I r15.High]) ba24 (rfl : _ = [(0, AG [I r11.Low, I r11.High]), (1, AG [I r15.Low, I r15.High])]) (by kernel_rfl) ?_
  refine p_bldA (z := [I 0, I 0, I 0]) (cs := [I 0, I 1, I 3]) ba25 (rfl : _ = [(0, I 0), (1, I 1), (2, I 3)]) (by kernel_rfl) ?_
  refine p_bld (cs := [I 2, I 3, I 3]) st64 (rfl : _ = [(0, I 2), (1, I 3), (2, I 3)]) (by kernel_rfl) ?_
  refine p_bld (cs := [I 3, I 1, I 2]) st64 (rfl : _ = [(0, I 3), (1, I 1), (2, I 2)]) (by kernel_rfl) ?_
  refine p_bld (cs := [I 2, I 3, I 6]) st64 (rfl : _ = [(0, I 2), (1, I 3), (2, I 6)]) (by kernel_rfl) ?_
  refine p_bsl (enc := eCoalDay) (l := [(CoalDay.mk 2 3 3), (CoalDay.mk 3 1 2), (CoalDay.mk 2 3 6)]) (fun x => AG (eCoalDay x)) (fun _ => rfl) sc26 in64 eCoalDay_len rfl (by decide) (by decide) zr64_3 S18 rfl fun A19 c20 w21 S22 => ?_
  obtain ⟨r24, h25, H⟩ := bindS H
  refine p_cv (B_Range_ok h25) fu44 rfl S22 fun w26 S27 => ?_
  refine p_mS rfl ?_
  refine p_bld (cs := [I r7.Low, I r7.High, I r11.Low, I r11.High, I r15.Low, I r15.High, I 0, I 1, I 3, SL A19 [(CoalDay.mk 2 3 3), (CoalDay.mk 3 1 2), (CoalDay.mk 2 3 6)].length c20, I r24.Low, I r24.High, I 5, SL A1 a0.length c2]) st29 (rfl : _ = [(0, AG [I r7.Low, I r7.High]), (1, AG [I r11.Low, I r11.High, I r15.Low, I r15.High]), (2, AG [I 0, I 1, I 3]), (3, SL A19 [(CoalDay.mk 2 3 3), (CoalDay.mk 3 1 2), (CoalDay.mk 2 3 6)].length c20), (4, AG [I r24.Low, I r24.High]), (5, I 5), (6, SL A1 a0.length c2)]) (by kernel_rfl) ?_
  refine p_stP (pre := []) (old := [I 0, I 0, I 0, I 0, I 0, I 0] ++ (sg (List.replicate 3 0) 3 ++ [SL none 0 0, I 0, I 0, I 0, SL none 0 0])) (post := []) (vs := [I r7.Low, I r7.High, I r11.Low, I r11.High, I r15.Low, I r15.High, I 0, I 1, I 3, SL A19 [(CoalDay.mk 2 3 3), (CoalDay.mk 3 1 2), (CoalDay.mk 2 3 6)].length c20, I r24.Low, I r24.High, I 5, SL A1 a0.length c2]) sz29 S27 (i := 1) rfl rfl rfl rfl (rfl : _ = AG [I r7.Low, I r7.High, I r11.Low, I r11.High, I r15.Low, I r15.High, I 0, I 1, I 3, SL A19 [(CoalDay.mk 2 3 3), (CoalDay.mk 3 1 2), (CoalDay.mk 2 3 6)].length c20, I r24.Low, I r24.High, I 5, SL A1 a0.length c2]) rfl rfl rfl rfl fun w28 S29 => ?_
  refine wp_nil ?_
  obtain rfl := Option.some.inj H
  refine c_ret ?_; show bodyPostM (Fr none) 0 Tryd.prog Tryd.f51 _ .ret _ _
  refine ret_of (res1 rfl (rvA rfl ty29 sz29 (S29.atX (i := 1) rfl) rfl)) ?_
  exact ⟨_, rfl, A19, c20, rfl, S29.keep, ⟨S29.atX (i := 0) rfl, S29.newX (i := 0) rfl⟩, trivial⟩

def law_own : Option CoalBook :=
  (law_book ([] : List _)).bind fun r4 =>
  some (CoalBook.mk r4.Heap r4.Eats r4.Extra r4.Days r4.Collier r4.Brings ([] : List CoalDip))

set_option maxRecDepth 100000 in
theorem law_own_ok {w : World} {r : CoalBook} (H : law_own = some r) : Calls Tryd.prog 50 #[] w fun en w_ => ∃ u_, en = .returned u_ ∧ ∃ A_1 : Option Addr, ∃ c_2 : Nat, ∃ A_3 : Option Addr, ∃ c_4 : Nat, u_ = AG ([I r.Heap.Low, I r.Heap.High] ++ (sgE eSpan r.Eats 2 ++ (sg r.Extra 3 ++ [SL A_1 r.Days.length c_2, I r.Collier.Low, I r.Collier.High, I r.Brings, SL A_3 r.Dips.length c_4]))) ∧ Keep0 w w_ ∧ ((rd eCoalDay 3 A_1 c_2 r.Days).ok w_ ∧ New w.heap.size (rd eCoalDay 3 A_1 c_2 r.Days)) ∧ ((rd eCoalDip 3 A_3 c_4 r.Dips).ok w_ ∧ New w.heap.size (rd eCoalDip 3 A_3 c_4 r.Dips)) ∧ True := by
  unfold law_own at H
  refine fn_of (n := 2) Tryd.func50 rfl rfl (Nat.le_of_ble_eq_true rfl) ?_
  have S : St w (fun _ => False) w [] [] := St.start w _ _ (fun _ h_ => (List.not_mem_nil h_).elim)
  refine c_seq ?_
  refine reg ?_
  refine p_allA in29 S fun b1 w2 S3 => ?_
  refine wp_nil ?_
  refine c_seq ?_
  refine reg ?_
  obtain ⟨r4, h5, H⟩ := bindS H
  refine p_cal (law_book_ok h5 (rd_nil (Nat.zero_le _))) fu51 rfl ?_
  rintro _ w6 ⟨A8, c9, rfl, k7, ⟨o10, n11⟩, _⟩
  have S13 := S3.addNew k7 o10 n11
  refine p_stP (pre := []) (old := [I 0, I 0, I 0, I 0, I 0, I 0] ++ (sg (List.replicate 3 0) 3 ++ [SL none 0 0, I 0, I 0, I 0, SL none 0 0])) (post := []) (vs := [I r4.Heap.Low, I r4.Heap.High] ++ (sgE eSpan r4.Eats 2 ++ (sg r4.Extra 3 ++ [SL A8 r4.Days.length c9, I r4.Collier.Low, I r4.Collier.High, I r4.Brings, SL none 0 0]))) sz29 S13 (i := 1) rfl rfl rfl rfl (rfl : _ = AG ([I r4.Heap.Low, I r4.Heap.High] ++ (sgE eSpan r4.Eats 2 ++ (sg r4.Extra 3 ++ [SL A8 r4.Days.length c9, I r4.Collier.Low, I r4.Collier.High, I r4.Brings, SL none 0 0])))) rfl rfl rfl rfl fun w14 S15 => ?_
  refine wp_nil ?_
  obtain rfl := Option.some.inj H
  refine c_ret ?_; show bodyPostM (Fr none) 0 Tryd.prog Tryd.f50 _ .ret _ _
  refine ret_of (res1 rfl (rvA rfl ty29 sz29 (S15.atX (i := 1) rfl) rfl)) ?_
  exact ⟨_, rfl, A8, c9, none, 0, rfl, S15.keep, ⟨(gr_rd eCoalDay_len (S15.atX (i := 0) rfl)), (New.rd (S15.newX (i := 0) rfl))⟩, ⟨rd_nil (Nat.zero_le _), New.nil⟩, trivial⟩

def law_torn : Option CoalBook :=
  (law_book [(CoalDip.mk 0 16 0), (CoalDip.mk 1 9 0)]).bind fun r9 =>
  some (CoalBook.mk r9.Heap r9.Eats r9.Extra r9.Days r9.Collier r9.Brings [(CoalDip.mk 0 16 0), (CoalDip.mk 1 9 0)])

set_option maxRecDepth 100000 in
theorem law_torn_ok {w : World} {r : CoalBook} (H : law_torn = some r) : Calls Tryd.prog 52 #[] w fun en w_ => ∃ u_, en = .returned u_ ∧ ∃ A_1 : Option Addr, ∃ c_2 : Nat, ∃ A_3 : Option Addr, ∃ c_4 : Nat, u_ = AG ([I r.Heap.Low, I r.Heap.High] ++ (sgE eSpan r.Eats 2 ++ (sg r.Extra 3 ++ [SL A_1 r.Days.length c_2, I r.Collier.Low, I r.Collier.High, I r.Brings, SL A_3 r.Dips.length c_4]))) ∧ Keep0 w w_ ∧ ((rd eCoalDay 3 A_1 c_2 r.Days).ok w_ ∧ New w.heap.size (rd eCoalDay 3 A_1 c_2 r.Days)) ∧ ((rd eCoalDip 3 A_3 c_4 r.Dips).ok w_ ∧ New w.heap.size (rd eCoalDip 3 A_3 c_4 r.Dips)) ∧ True := by
  unfold law_torn at H
  refine fn_of (n := 5) Tryd.func52 rfl rfl (Nat.le_of_ble_eq_true rfl) ?_
  have S : St w (fun _ => False) w [] [] := St.start w _ _ (fun _ h_ => (List.not_mem_nil h_).elim)
  refine c_seq ?_
  refine reg ?_
  refine p_allA in29 S fun b1 w2 S3 => ?_
  refine wp_nil ?_
  refine c_seq ?_
  refine reg ?_
  refine p_bld (cs := [I 0, I 16, I 0]) st67 (rfl : _ = [(1, I 16)]) (by kernel_rfl) ?_
  refine p_bld (cs := [I 1, I 9, I 0]) st67 (rfl : _ = [(0, I 1), (1, I 9)]) (by kernel_rfl) ?_
  refine p_bsl (enc := eCoalDip) (l := [(CoalDip.mk 0 16 0), (CoalDip.mk 1 9 0)]) (fun x => AG (eCoalDip x)) (fun _ => rfl) sc27 in67 eCoalDip_len rfl (by decide) (by decide) zr67_2 S3 rfl fun A4 c5 w6 S7 => ?_
  obtain ⟨r9, h10, H⟩ := bindS H
  refine p_cal (law_book_ok h10 (gr_rd eCoalDip_len (S7.atX (i := 0) rfl))) fu51 rfl ?_
  rintro _ w11 ⟨A13, c14, rfl, k12, ⟨o15, n16⟩, _⟩
  have S18 := S7.addNew k12 o15 n16
  refine p_stP (pre := []) (old := [I 0, I 0, I 0, I 0, I 0, I 0] ++ (sg (List.replicate 3 0) 3 ++ [SL none 0 0, I 0, I 0, I 0, SL none 0 0])) (post := []) (vs := [I r9.Heap.Low, I r9.Heap.High] ++ (sgE eSpan r9.Eats 2 ++ (sg r9.Extra 3 ++ [SL A13 r9.Days.length c14, I r9.Collier.Low, I r9.Collier.High, I r9.Brings, SL A4 [(CoalDip.mk 0 16 0), (CoalDip.mk 1 9 0)].length c5]))) sz29 S18 (i := 2) rfl rfl rfl rfl (rfl : _ = AG ([I r9.Heap.Low, I r9.Heap.High] ++ (sgE eSpan r9.Eats 2 ++ (sg r9.Extra 3 ++ [SL A13 r9.Days.length c14, I r9.Collier.Low, I r9.Collier.High, I r9.Brings, SL A4 [(CoalDip.mk 0 16 0), (CoalDip.mk 1 9 0)].length c5])))) rfl rfl rfl rfl fun w19 S20 => ?_
  refine wp_nil ?_
  obtain rfl := Option.some.inj H
  refine c_ret ?_; show bodyPostM (Fr none) 0 Tryd.prog Tryd.f52 _ .ret _ _
  refine ret_of (res1 rfl (rvA rfl ty29 sz29 (S20.atX (i := 2) rfl) rfl)) ?_
  exact ⟨_, rfl, A13, c14, A4, c5, rfl, S20.keep, ⟨(gr_rd eCoalDay_len (S20.atX (i := 0) rfl)), (New.rd (S20.newX (i := 0) rfl))⟩, ⟨(gr_rd eCoalDip_len (S20.atX (i := 1) rfl)), (New.rd (S20.newX (i := 1) rfl))⟩, trivial⟩

def law_dipped : Option CoalBook :=
  (law_book ([(CoalDip.mk 0 16 0)] : List CoalDip)).bind fun r9 =>
  some (CoalBook.mk r9.Heap r9.Eats r9.Extra r9.Days r9.Collier r9.Brings ([(CoalDip.mk 0 16 0)] : List CoalDip))

set_option maxRecDepth 100000 in
theorem law_dipped_ok {w : World} {r : CoalBook} (H : law_dipped = some r) : Calls Tryd.prog 53 #[] w fun en w_ => ∃ u_, en = .returned u_ ∧ ∃ A_1 : Option Addr, ∃ c_2 : Nat, ∃ A_3 : Option Addr, ∃ c_4 : Nat, u_ = AG ([I r.Heap.Low, I r.Heap.High] ++ (sgE eSpan r.Eats 2 ++ (sg r.Extra 3 ++ [SL A_1 r.Days.length c_2, I r.Collier.Low, I r.Collier.High, I r.Brings, SL A_3 r.Dips.length c_4]))) ∧ Keep0 w w_ ∧ ((rd eCoalDay 3 A_1 c_2 r.Days).ok w_ ∧ New w.heap.size (rd eCoalDay 3 A_1 c_2 r.Days)) ∧ ((rd eCoalDip 3 A_3 c_4 r.Dips).ok w_ ∧ New w.heap.size (rd eCoalDip 3 A_3 c_4 r.Dips)) ∧ True := by
  unfold law_dipped at H
  refine fn_of (n := 4) Tryd.func53 rfl rfl (Nat.le_of_ble_eq_true rfl) ?_
  have S : St w (fun _ => False) w [] [] := St.start w _ _ (fun _ h_ => (List.not_mem_nil h_).elim)
  refine c_seq ?_
  refine reg ?_
  refine p_allA in29 S fun b1 w2 S3 => ?_
  refine wp_nil ?_
  refine c_seq ?_
  refine reg ?_
  refine p_bld (cs := [I 0, I 16, I 0]) st67 (rfl : _ = [(1, I 16)]) (by kernel_rfl) ?_
  refine p_bsl (enc := eCoalDip) (l := ([(CoalDip.mk 0 16 0)] : List CoalDip)) (fun x => AG (eCoalDip x)) (fun _ => rfl) sc27 in67 eCoalDip_len rfl (by decide) (by decide) zr67_1 S3 rfl fun A4 c5 w6 S7 => ?_
  obtain ⟨r9, h10, H⟩ := bindS H
  refine p_cal (law_book_ok h10 (gr_rd eCoalDip_len (S7.atX (i := 0) rfl))) fu51 rfl ?_
  rintro _ w11 ⟨A13, c14, rfl, k12, ⟨o15, n16⟩, _⟩
  have S18 := S7.addNew k12 o15 n16
  refine p_stP (pre := []) (old := [I 0, I 0, I 0, I 0, I 0, I 0] ++ (sg (List.replicate 3 0) 3 ++ [SL none 0 0, I 0, I 0, I 0, SL none 0 0])) (post := []) (vs := [I r9.Heap.Low, I r9.Heap.High] ++ (sgE eSpan r9.Eats 2 ++ (sg r9.Extra 3 ++ [SL A13 r9.Days.length c14, I r9.Collier.Low, I r9.Collier.High, I r9.Brings, SL A4 ([(CoalDip.mk 0 16 0)] : List CoalDip).length c5]))) sz29 S18 (i := 2) rfl rfl rfl rfl (rfl : _ = AG ([I r9.Heap.Low, I r9.Heap.High] ++ (sgE eSpan r9.Eats 2 ++ (sg r9.Extra 3 ++ [SL A13 r9.Days.length c14, I r9.Collier.Low, I r9.Collier.High, I r9.Brings, SL A4 ([(CoalDip.mk 0 16 0)] : List CoalDip).length c5])))) rfl rfl rfl rfl fun w19 S20 => ?_
  refine wp_nil ?_
  obtain rfl := Option.some.inj H
  refine c_ret ?_; show bodyPostM (Fr none) 0 Tryd.prog Tryd.f53 _ .ret _ _
  refine ret_of (res1 rfl (rvA rfl ty29 sz29 (S20.atX (i := 2) rfl) rfl)) ?_
  exact ⟨_, rfl, A13, c14, A4, c5, rfl, S20.keep, ⟨(gr_rd eCoalDay_len (S20.atX (i := 0) rfl)), (New.rd (S20.newX (i := 0) rfl))⟩, ⟨(gr_rd eCoalDip_len (S20.atX (i := 1) rfl)), (New.rd (S20.newX (i := 1) rfl))⟩, trivial⟩

def law_stoked : Option Bool :=
  (law_own).bind fun r3 =>
  (coal_Heap r3 2).bind fun r16 =>
  (law_dipped).bind fun r25 =>
  (coal_Eats r25 0).bind fun r38 =>
  (law_own).bind fun r47 =>
  (coal_Wind r47 0).bind fun r60 =>
  (law_own).bind fun r64 =>
  (coal_Lasts r64 1).bind fun r77 =>
  (law_own).bind fun r81 =>
  (coal_Day r81).bind fun r94 =>
  bif (r16.2 != 0) then (some false)
  else (bif (r38.2 != 0) then (some false)
  else (bif (r60.2 != 0) then (some false)
  else (bif (r77.2 != 0) then (some false)
  else (bif (r94.2 != 0) then (some false)
  else ((B_Range (-8) 7).bind fun r118 =>
  bif !((r16.1.Low == r118.Low) && (r16.1.High == r118.High)) then (some false)
  else ((B_Point 1).bind fun r124 =>
  bif !((r38.1.Low == r124.Low) && (r38.1.High == r124.High)) then (some false)
  else (bif (r60.1 != 3) then (some false)
  else (bif (r77.1 != 2) then (some false)
  else (bif (r94.1 != 2) then (some false)
  else ((law_own).bind fun r142 =>
  (coal_Order r142).bind fun r155 =>
  (law_dipped).bind fun r159 =>
  (coal_Late r159).bind fun r172 =>
  (law_torn).bind fun r176 =>
  (coal_Wrong r176).bind fun r189 =>
  (law_own).bind fun r198 =>
  (coal_Right r198).bind fun r211 =>
  bif (r155.2 == 0) then (bif (r172.2 == 0) then (bif (r189.2 == 0) then (bif (r211.2 == 0) then (bif (r155.1 == 8) then (bif (r172.1 == 2) then ((B_Alike r189.1 ([0] : List Int)).bind fun r226 =>
  bif r226 then (some r211.1)
  else (some false))
  else (some false))
  else (some false))
  else (some false))
  else (some false))
  else (some false))
  else (some false)))))))))))

set_option maxRecDepth 100000 in
theorem law_stoked_ok {w : World} {r : Bool} (H : law_stoked = some r) (hg1 : (bl 0 [Value.func (.func 128) #[] #[], Value.func (.func 129) #[] #[]] 110).ok w) (hg2 : (bl 1 [I (-1), I (-1)] 123).ok w) : Calls Tryd.prog 19 #[] w (RetV w (B r)) := by
  unfold law_stoked at H
  refine fn_of (n := 130) Tryd.func19 rfl rfl (Nat.le_of_ble_eq_true rfl) ?_
  have S : St w (fun _ => False) w [] [bl 0 [Value.func (.func 128) #[] #[], Value.func (.func 129) #[] #[]] 110, bl 1 [I (-1), I (-1)] 123] := St.start w _ _ (List.forall_mem_cons.2 ⟨hg1, (List.forall_mem_cons.2 ⟨hg2, (fun _ h_ => (List.not_mem_nil h_).elim)⟩)⟩)
  refine c_seq ?_
  refine reg ?_
  refine p_aB rfl ?_
  refine wp_nil ?_
  refine c_seq ?_
  refine reg ?_
  obtain ⟨r3, h4, H⟩ := bindS H
  refine p_cal (law_own_ok h4) fu50 rfl ?_
  rintro _ w5 ⟨A7, c8, A9, c10, rfl, k6, ⟨o11, n12⟩, ⟨o13, n14⟩, _⟩
  have S15 := S.callN k6 [rd eCoalDay 3 A7 c8 r3.Days, rd eCoalDip 3 A9 c10 r3.Dips] (List.forall_mem_cons.2 ⟨⟨o11, New.inL n12⟩, (List.forall_mem_cons.2 ⟨⟨o13, New.inL n14⟩, (fun _ h_ => (List.not_mem_nil h_).elim)⟩)⟩)
  obtain ⟨r16, h17, H⟩ := bindS H
  refine p_cv (coal_Heap_ok h17 (S15.atP (i := 0) rfl) (S15.atP (i := 1) rfl) (S15.atP (i := 3) rfl)) fu28 rfl S15 fun w18 S19 => ?_
  refine p_mT rfl ?_
  refine p_ext rfl rfl ?_
  refine p_ext rfl rfl ?_
  refine p_allA in23 S19 fun b20 w21 S22 => ?_
  refine p_stP (pre := []) (old := [I 0, I 0]) (post := []) (vs := [I r16.1.Low, I r16.1.High]) sz23 S22 (i := 0) rfl rfl rfl rfl (rfl : _ = AG [I r16.1.Low, I r16.1.High]) rfl rfl rfl rfl fun w23 S24 => ?_
  refine p_aI rfl ?_
  refine wp_nil ?_
  refine c_seq ?_
  refine reg ?_
  obtain ⟨r25, h26, H⟩ := bindS H
  refine p_cal (law_dipped_ok h26) fu53 rfl ?_
  rintro _ w27 ⟨A29, c30, A31, c32, rfl, k28, ⟨o33, n34⟩, ⟨o35, n36⟩, _⟩
  have S37 := S24.callN k28 [rd eCoalDay 3 A29 c30 r25.Days, rd eCoalDip 3 A31 c32 r25.Dips] (List.forall_mem_cons.2 ⟨⟨o33, New.inL n34⟩, (List.forall_mem_cons.2 ⟨⟨o35, New.inL n36⟩, (fun _ h_ => (List.not_mem_nil h_).elim)⟩)⟩)
  obtain ⟨r38, h39, H⟩ := bindS H
  refine p_cv (coal_Eats_ok h39 (S37.atP (i := 0) rfl) (S37.atP (i := 1) rfl) (S37.atP (i := 5) rfl)) fu35 rfl S37 fun w40 S41 => ?_
  refine p_mT rfl ?_
  refine p_ext rfl rfl ?_
  refine p_ext rfl rfl ?_
  refine p_allA in23 S41 fun b42 w43 S44 => ?_
  refine p_stP (pre := []) (old := [I 0, I 0]) (post := []) (vs := [I r38.1.Low, I r38.1.High]) sz23 S44 (i := 0) rfl rfl rfl rfl (rfl : _ = AG [I r38.1.Low, I r38.1.High]) rfl rfl rfl rfl fun w45 S46 => ?_
  refine p_aI rfl ?_
  refine wp_nil ?_
  refine c_seq ?_
  refine reg ?_
  obtain ⟨r47, h48, H⟩ := bindS H
  refine p_cal (law_own_ok h48) fu50 rfl ?_
  rintro _ w49 ⟨A51, c52, A53, c54, rfl, k50, ⟨o55, n56⟩, ⟨o57, n58⟩, _⟩
  have S59 := S46.callN k50 [rd eCoalDay 3 A51 c52 r47.Days, rd eCoalDip 3 A53 c54 r47.Dips] (List.forall_mem_cons.2 ⟨⟨o55, New.inL n56⟩, (List.forall_mem_cons.2 ⟨⟨o57, New.inL n58⟩, (fun _ h_ => (List.not_mem_nil h_).elim)⟩)⟩)
  obtain ⟨r60, h61, H⟩ := bindS H
  refine p_cv (coal_Wind_ok h61 (S59.atP (i := 0) rfl) (S59.atP (i := 1) rfl) (S59.atP (i := 7) rfl)) fu29 rfl S59 fun w62 S63 => ?_
  refine p_mT rfl ?_
  refine p_ext rfl rfl ?_
  refine p_ext rfl rfl ?_
  refine p_aI rfl ?_
  refine p_aI rfl ?_
  refine wp_nil ?_
  refine c_seq ?_
  refine reg ?_
  obtain ⟨r64, h65, H⟩ := bindS H
  refine p_cal (law_own_ok h65) fu50 rfl ?_
  rintro _ w66 ⟨A68, c69, A70, c71, rfl, k67, ⟨o72, n73⟩, ⟨o74, n75⟩, _⟩
  have S76 := S63.callN k67 [rd eCoalDay 3 A68 c69 r64.Days, rd eCoalDip 3 A70 c71 r64.Dips] (List.forall_mem_cons.2 ⟨⟨o72, New.inL n73⟩, (List.forall_mem_cons.2 ⟨⟨o74, New.inL n75⟩, (fun _ h_ => (List.not_mem_nil h_).elim)⟩)⟩)
  obtain ⟨r77, h78, H⟩ := bindS H
  refine p_cv (coal_Lasts_ok h78 (S76.atP (i := 0) rfl) (S76.atP (i := 1) rfl) (S76.atP (i := 8) rfl) (S76.atP (i := 9) rfl)) fu30 rfl S76 fun w79 S80 => ?_
  refine p_mT rfl ?_
  refine p_ext rfl rfl ?_
  refine p_ext rfl rfl ?_
  refine p_aI rfl ?_
  refine p_aI rfl ?_
  refine wp_nil ?_
  refine c_seq ?_
  refine reg ?_
  obtain ⟨r81, h82, H⟩ := bindS H
  refine p_cal (law_own_ok h82) fu50 rfl ?_
  rintro _ w83 ⟨A85, c86, A87, c88, rfl, k84, ⟨o89, n90⟩, ⟨o91, n92⟩, _⟩
  have S93 := S80.callN k84 [rd eCoalDay 3 A85 c86 r81.Days, rd eCoalDip 3 A87 c88 r81.Dips] (List.forall_mem_cons.2 ⟨⟨o89, New.inL n90⟩, (List.forall_mem_cons.2 ⟨⟨o91, New.inL n92⟩, (fun _ h_ => (List.not_mem_nil h_).elim)⟩)⟩)
  obtain ⟨r94, h95, H⟩ := bindS H
  refine p_cv (coal_Day_ok h95 (S93.atP (i := 0) rfl) (S93.atP (i := 1) rfl) (S93.atP (i := 11) rfl)) fu37 rfl S93 fun w96 S97 => ?_
  refine p_mT rfl ?_
  refine p_ext rfl rfl ?_
  refine p_ext rfl rfl ?_
  refine p_aI rfl ?_
  refine p_aI rfl ?_
  refine wp_nil ?_
  refine c_seq ?_
  refine c_seq ?_
  rcases Bool.eq_false_or_eq_true ((r16.2 != 0)) with c98 | c98
  · replace H := condT c98 H
    refine reg_q mixed 40 (by kernel_rfl) ?_
    refine dS (fun _ k_ => p_mI rfl dn) ?_
    refine dS (fun _ k_ => p_cmp rfl rfl rfl dn) ?_
    refine dS (fun _ k_ => p_mB rfl dn) ?_
    refine dB c98 ?_
    refine dS (fun _ k_ => gF rfl rfl dnU) ?_
    refine dS (fun _ k_ => gF rfl rfl dnU) ?_
    refine dS (fun _ k_ => p_pkT rfl (rfl : _ = B true) dn) ?_
    refine dS (fun _ k_ => p_mB rfl dn) ?_
    refine dS (fun _ k_ => gF rfl rfl dnU) ?_
    refine dS (fun _ k_ => gF rfl rfl dnU) ?_
    refine dS (fun _ k_ => p_pkT rfl (rfl : _ = B true) dn) ?_
    refine dS (fun _ k_ => p_mB rfl dn) ?_
    refine dS (fun _ k_ => gF rfl rfl dnU) ?_
    refine dS (fun _ k_ => gF rfl rfl dnU) ?_
    refine dS (fun _ k_ => p_pkT rfl (rfl : _ = B true) dn) ?_
    refine dS (fun _ k_ => p_mB rfl dn) ?_
    refine dS (fun _ k_ => gF rfl rfl dnU) ?_
    refine dS (fun _ k_ => gF rfl rfl dnU) ?_
    refine dS (fun _ k_ => p_pkT rfl (rfl : _ = B true) dn) ?_
    refine dS (fun _ k_ => p_mB rfl dn) ?_
    refine dS (fun _ k_ => gF rfl rfl dnU) ?_
    refine dS (fun _ k_ => gF rfl rfl dnU) ?_
    refine dS (fun _ k_ => gF rfl rfl dnU) ?_
    refine dS (fun _ k_ => p_pkT rfl (rfl : _ = B true) dn) ?_
    refine dS (fun _ k_ => p_mB rfl dn) ?_
    refine dS (fun _ k_ => gF rfl rfl dnU) ?_
    refine dS (fun _ k_ => gF rfl rfl dnU) ?_
    refine dS (fun _ k_ => gF rfl rfl dnU) ?_
    refine dS (fun _ k_ => p_pkT rfl (rfl : _ = B true) dn) ?_
    refine dS (fun _ k_ => p_mB rfl dn) ?_
    refine dS (fun _ k_ => gF rfl rfl dnU) ?_
    refine dS (fun _ k_ => gF rfl rfl dnU) ?_
    refine dS (fun _ k_ => p_pkT rfl (rfl : _ = B true) dn) ?_
    refine dS (fun _ k_ => p_mB rfl dn) ?_
    refine dS (fun _ k_ => gF rfl rfl dnU) ?_
    refine dS (fun _ k_ => gF rfl rfl dnU) ?_
    refine dS (fun _ k_ => p_pkT rfl (rfl : _ = B true) dn) ?_
    refine dS (fun _ k_ => p_mB rfl dn) ?_
    refine dS (fun _ k_ => gF rfl rfl dnU) ?_
    refine dS (fun _ k_ => gF rfl rfl dnU) ?_
    refine dS (fun _ k_ => p_pkT rfl (rfl : _ = B true) dn) ?_
    intro w99 k100; have S101 := S97.call k100
    refine wp_nil ?_
    refine c_true rfl ?_
    refine c_seq ?_
    refine reg ?_
    refine p_aB rfl ?_
    refine wp_nil ?_
    obtain rfl := Option.some.inj H
    refine c_ret ?_; show bodyPostM (Fr none) 0 Tryd.prog Tryd.f19 _ .ret _ _
    refine ret_of (res1 rfl (rvT (rfl : _ = B false))) ?_
    exact ⟨_, rfl, rfl, S101.keep⟩
  · replace H := condF c98 H
    rcases Bool.eq_false_or_eq_true ((r38.2 != 0)) with c102 | c102
    · replace H := condT c102 H
      refine reg_q mixed 40 (by kernel_rfl) ?_
      refine dS (fun _ k_ => p_mI rfl dn) ?_
      refine dS (fun _ k_ => p_cmp rfl rfl rfl dn) ?_
      refine dS (fun _ k_ => p_mB rfl dn) ?_
      refine dB c98 ?_
      refine dS (fun _ k_ => gT rfl rfl (p_mI rfl dn)) ?_
      refine dS (fun _ k_ => gT rfl rfl (p_cmp rfl rfl rfl dn)) ?_
      refine dS (fun _ k_ => p_pkF rfl (rfl : _ = B (r38.2 != 0)) dn) ?_
      refine dS (fun _ k_ => p_mB rfl dn) ?_
      refine dB c102 ?_
      refine dS (fun _ k_ => gF rfl rfl dnU) ?_
      refine dS (fun _ k_ => gF rfl rfl dnU) ?_
      refine dS (fun _ k_ => p_pkT rfl (rfl : _ = B true) dn) ?_
      refine dS (fun _ k_ => p_mB rfl dn) ?_
      refine dS (fun _ k_ => gF rfl rfl dnU) ?_
      refine dS (fun _ k_ => gF rfl rfl dnU) ?_
      refine dS (fun _ k_ => p_pkT rfl (rfl : _ = B true) dn) ?_
      refine dS (fun _ k_ => p_mB rfl dn) ?_
      refine dS (fun _ k_ => gF rfl rfl dnU) ?_
      refine dS (fun _ k_ => gF rfl rfl dnU) ?_
      refine dS (fun _ k_ => p_pkT rfl (rfl : _ = B true) dn) ?_
      refine dS (fun _ k_ => p_mB rfl dn) ?_
      refine dS (fun _ k_ => gF rfl rfl dnU) ?_
      refine dS (fun _ k_ => gF rfl rfl dnU) ?_
      refine dS (fun _ k_ => gF rfl rfl dnU) ?_
      refine dS (fun _ k_ => p_pkT rfl (rfl : _ = B true) dn) ?_
      refine dS (fun _ k_ => p_mB rfl dn) ?_
      refine dS (fun _ k_ => gF rfl rfl dnU) ?_
      refine dS (fun _ k_ => gF rfl rfl dnU) ?_
      refine dS (fun _ k_ => gF rfl rfl dnU) ?_
      refine dS (fun _ k_ => p_pkT rfl (rfl : _ = B true) dn) ?_
      refine dS (fun _ k_ => p_mB rfl dn) ?_
      refine dS (fun _ k_ => gF rfl rfl dnU) ?_
      refine dS (fun _ k_ => gF rfl rfl dnU) ?_
      refine dS (fun _ k_ => p_pkT rfl (rfl : _ = B true) dn) ?_
      refine dS (fun _ k_ => p_mB rfl dn) ?_
      refine dS (fun _ k_ => gF rfl rfl dnU) ?_
      refine dS (fun _ k_ => gF rfl rfl dnU) ?_
      refine dS (fun _ k_ => p_pkT rfl (rfl : _ = B true) dn) ?_
      refine dS (fun _ k_ => p_mB rfl dn) ?_
      refine dS (fun _ k_ => gF rfl rfl dnU) ?_
      refine dS (fun _ k_ => gF rfl rfl dnU) ?_
      refine dS (fun _ k_ => p_pkT rfl (rfl : _ = B true) dn) ?_
      intro w103 k104; have S105 := S97.call k104
      refine wp_nil ?_
      refine c_true rfl ?_
      refine c_seq ?_
      refine reg ?_
      refine p_aB rfl ?_
      refine wp_nil ?_
      obtain rfl := Option.some.inj H
      refine c_ret ?_; show bodyPostM (Fr none) 0 Tryd.prog Tryd.f19 _ .ret _ _
      refine ret_of (res1 rfl (rvT (rfl : _ = B false))) ?_
      exact ⟨_, rfl, rfl, S105.keep⟩
    · replace H := condF c102 H
      rcases Bool.eq_false_or_eq_true ((r60.2 != 0)) with c106 | c106
      · replace H := condT c106 H
        refine reg_q mixed 40 (by kernel_rfl) ?_
        refine dS (fun _ k_ => p_mI rfl dn) ?_
        refine dS (fun _ k_ => p_cmp rfl rfl rfl dn) ?_
        refine dS (fun _ k_ => p_mB rfl dn) ?_
        refine dB c98 ?_
        refine dS (fun _ k_ => gT rfl rfl (p_mI rfl dn)) ?_
        refine dS (fun _ k_ => gT rfl rfl (p_cmp rfl rfl rfl dn)) ?_
        refine dS (fun _ k_ => p_pkF rfl (rfl : _ = B (r38.2 != 0)) dn) ?_
        refine dS (fun _ k_ => p_mB rfl dn) ?_
        refine dB c102 ?_
        refine dS (fun _ k_ => gT rfl rfl (p_mI rfl dn)) ?_
        refine dS (fun _ k_ => gT rfl rfl (p_cmp rfl rfl rfl dn)) ?_
        refine dS (fun _ k_ => p_pkF rfl (rfl : _ = B (r60.2 != 0)) dn) ?_
        refine dS (fun _ k_ => p_mB rfl dn) ?_
        refine dB c106 ?_
        refine dS (fun _ k_ => gF rfl rfl dnU) ?_
        refine dS (fun _ k_ => gF rfl rfl dnU) ?_
        refine dS (fun _ k_ => p_pkT rfl (rfl : _ = B true) dn) ?_
        refine dS (fun _ k_ => p_mB rfl dn) ?_
        refine dS (fun _ k_ => gF rfl rfl dnU) ?_
        refine dS (fun _ k_ => gF rfl rfl dnU) ?_
        refine dS (fun _ k_ => p_pkT rfl (rfl : _ = B true) dn) ?_
        refine dS (fun _ k_ => p_mB rfl dn) ?_
        refine dS (fun _ k_ => gF rfl rfl dnU) ?_
        refine dS (fun _ k_ => gF rfl rfl dnU) ?_
        refine dS (fun _ k_ => gF rfl rfl dnU) ?_
        refine dS (fun _ k_ => p_pkT rfl (rfl : _ = B true) dn) ?_
        refine dS (fun _ k_ => p_mB rfl dn) ?_
        refine dS (fun _ k_ => gF rfl rfl dnU) ?_
        refine dS (fun _ k_ => gF rfl rfl dnU) ?_
        refine dS (fun _ k_ => gF rfl rfl dnU) ?_
        refine dS (fun _ k_ => p_pkT rfl (rfl : _ = B true) dn) ?_
        refine dS (fun _ k_ => p_mB rfl dn) ?_
        refine dS (fun _ k_ => gF rfl rfl dnU) ?_
        refine dS (fun _ k_ => gF rfl rfl dnU) ?_
        refine dS (fun _ k_ => p_pkT rfl (rfl : _ = B true) dn) ?_
        refine dS (fun _ k_ => p_mB rfl dn) ?_
        refine dS (fun _ k_ => gF rfl rfl dnU) ?_
        refine dS (fun _ k_ => gF rfl rfl dnU) ?_
        refine dS (fun _ k_ => p_pkT rfl (rfl : _ = B true) dn) ?_
        refine dS (fun _ k_ => p_mB rfl dn) ?_
        refine dS (fun _ k_ => gF rfl rfl dnU) ?_
        refine dS (fun _ k_ => gF rfl rfl dnU) ?_
        refine dS (fun _ k_ => p_pkT rfl (rfl : _ = B true) dn) ?_
        intro w107 k108; have S109 := S97.call k108
        refine wp_nil ?_
        refine c_true rfl ?_
        refine c_seq ?_
        refine reg ?_
        refine p_aB rfl ?_
        refine wp_nil ?_
        obtain rfl := Option.some.inj H
        refine c_ret ?_; show bodyPostM (Fr none) 0 Tryd.prog Tryd.f19 _ .ret _ _
        refine ret_of (res1 rfl (rvT (rfl : _ = B false))) ?_
        exact ⟨_, rfl, rfl, S109.keep⟩
      · replace H := condF c106 H
        rcases Bool.eq_false_or_eq_true ((r77.2 != 0)) with c110 | c110
        · replace H := condT c110 H
          refine reg_q mixed 40 (by kernel_rfl) ?_
          refine dS (fun _ k_ => p_mI rfl dn) ?_
          refine dS (fun _ k_ => p_cmp rfl rfl rfl dn) ?_
          refine dS (fun _ k_ => p_mB rfl dn) ?_
          refine dB c98 ?_
          refine dS (fun _ k_ => gT rfl rfl (p_mI rfl dn)) ?_
          refine dS (fun _ k_ => gT rfl rfl (p_cmp rfl rfl rfl dn)) ?_
          refine dS (fun _ k_ => p_pkF rfl (rfl : _ = B (r38.2 != 0)) dn) ?_
          refine dS (fun _ k_ => p_mB rfl dn) ?_
          refine dB c102 ?_
          refine dS (fun _ k_ => gT rfl rfl (p_mI rfl dn)) ?_
          refine dS (fun _ k_ => gT rfl rfl (p_cmp rfl rfl rfl dn)) ?_
          refine dS (fun _ k_ => p_pkF rfl (rfl : _ = B (r60.2 != 0)) dn) ?_
          refine dS (fun _ k_ => p_mB rfl dn) ?_
          refine dB c106 ?_
          refine dS (fun _ k_ => gT rfl rfl (p_mI rfl dn)) ?_
          refine dS (fun _ k_ => gT rfl rfl (p_cmp rfl rfl rfl dn)) ?_
          refine dS (fun _ k_ => p_pkF rfl (rfl : _ = B (r77.2 != 0)) dn) ?_
          refine dS (fun _ k_ => p_mB rfl dn) ?_
          refine dB c110 ?_
          refine dS (fun _ k_ => gF rfl rfl dnU) ?_
          refine dS (fun _ k_ => gF rfl rfl dnU) ?_
          refine dS (fun _ k_ => p_pkT rfl (rfl : _ = B true) dn) ?_
          refine dS (fun _ k_ => p_mB rfl dn) ?_
          refine dS (fun _ k_ => gF rfl rfl dnU) ?_
          refine dS (fun _ k_ => gF rfl rfl dnU) ?_
          refine dS (fun _ k_ => gF rfl rfl dnU) ?_
          refine dS (fun _ k_ => p_pkT rfl (rfl : _ = B true) dn) ?_
          refine dS (fun _ k_ => p_mB rfl dn) ?_
          refine dS (fun _ k_ => gF rfl rfl dnU) ?_
          refine dS (fun _ k_ => gF rfl rfl dnU) ?_
          refine dS (fun _ k_ => gF rfl rfl dnU) ?_
          refine dS (fun _ k_ => p_pkT rfl (rfl : _ = B true) dn) ?_
          refine dS (fun _ k_ => p_mB rfl dn) ?_
          refine dS (fun _ k_ => gF rfl rfl dnU) ?_
          refine dS (fun _ k_ => gF rfl rfl dnU) ?_
          refine dS (fun _ k_ => p_pkT rfl (rfl : _ = B true) dn) ?_
          refine dS (fun _ k_ => p_mB rfl dn) ?_
          refine dS (fun _ k_ => gF rfl rfl dnU) ?_
          refine dS (fun _ k_ => gF rfl rfl dnU) ?_
          refine dS (fun _ k_ => p_pkT rfl (rfl : _ = B true) dn) ?_
          refine dS (fun _ k_ => p_mB rfl dn) ?_
          refine dS (fun _ k_ => gF rfl rfl dnU) ?_
          refine dS (fun _ k_ => gF rfl rfl dnU) ?_
          refine dS (fun _ k_ => p_pkT rfl (rfl : _ = B true) dn) ?_
          intro w111 k112; have S113 := S97.call k112
          refine wp_nil ?_
          refine c_true rfl ?_
          refine c_seq ?_
          refine reg ?_
          refine p_aB rfl ?_
          refine wp_nil ?_
          obtain rfl := Option.some.inj H
          refine c_ret ?_; show bodyPostM (Fr none) 0 Tryd.prog Tryd.f19 _ .ret _ _
          refine ret_of (res1 rfl (rvT (rfl : _ = B false))) ?_
          exact ⟨_, rfl, rfl, S113.keep⟩
        · replace H := condF c110 H
          rcases Bool.eq_false_or_eq_true ((r94.2 != 0)) with c114 | c114
          · replace H := condT c114 H
            refine reg_q mixed 40 (by kernel_rfl) ?_
            refine dS (fun _ k_ => p_mI rfl dn) ?_
            refine dS (fun _ k_ => p_cmp rfl rfl rfl dn) ?_
            refine dS (fun _ k_ => p_mB rfl dn) ?_
            refine dB c98 ?_
            refine dS (fun _ k_ => gT rfl rfl (p_mI rfl dn)) ?_
            refine dS (fun _ k_ => gT rfl rfl (p_cmp rfl rfl rfl dn)) ?_
            refine dS (fun _ k_ => p_pkF rfl (rfl : _ = B (r38.2 != 0)) dn) ?_
            refine dS (fun _ k_ => p_mB rfl dn) ?_
            refine dB c102 ?_
            refine dS (fun _ k_ => gT rfl rfl (p_mI rfl dn)) ?_
            refine dS (fun _ k_ => gT rfl rfl (p_cmp rfl rfl rfl dn)) ?_
            refine dS (fun _ k_ => p_pkF rfl (rfl : _ = B (r60.2 != 0)) dn) ?_
            refine dS (fun _ k_ => p_mB rfl dn) ?_
            refine dB c106 ?_
            refine dS (fun _ k_ => gT rfl rfl (p_mI rfl dn)) ?_
            refine dS (fun _ k_ => gT rfl rfl (p_cmp rfl rfl rfl dn)) ?_
            refine dS (fun _ k_ => p_pkF rfl (rfl : _ = B (r77.2 != 0)) dn) ?_
            refine dS (fun _ k_ => p_mB rfl dn) ?_
            refine dB c110 ?_
            refine dS (fun _ k_ => gT rfl rfl (p_mI rfl dn)) ?_
            refine dS (fun _ k_ => gT rfl rfl (p_cmp rfl rfl rfl dn)) ?_
            refine dS (fun _ k_ => p_pkF rfl (rfl : _ = B (r94.2 != 0)) dn) ?_
            refine dS (fun _ k_ => p_mB rfl dn) ?_
            refine dB c114 ?_
            refine dS (fun _ k_ => gF rfl rfl dnU) ?_
            refine dS (fun _ k_ => gF rfl rfl dnU) ?_
            refine dS (fun _ k_ => gF rfl rfl dnU) ?_
            refine dS (fun _ k_ => p_pkT rfl (rfl : _ = B true) dn) ?_
            refine dS (fun _ k_ => p_mB rfl dn) ?_
            refine dS (fun _ k_ => gF rfl rfl dnU) ?_
            refine dS (fun _ k_ => gF rfl rfl dnU) ?_
            refine dS (fun _ k_ => gF rfl rfl dnU) ?_
            refine dS (fun _ k_ => p_pkT rfl (rfl : _ = B true) dn) ?_
            refine dS (fun _ k_ => p_mB rfl dn) ?_
            refine dS (fun _ k_ => gF rfl rfl dnU) ?_
            refine dS (fun _ k_ => gF rfl rfl dnU) ?_
            refine dS (fun _ k_ => p_pkT rfl (rfl : _ = B true) dn) ?_
            refine dS (fun _ k_ => p_mB rfl dn) ?_
            refine dS (fun _ k_ => gF rfl rfl dnU) ?_
            refine dS (fun _ k_ => gF rfl rfl dnU) ?_
            refine dS (fun _ k_ => p_pkT rfl (rfl : _ = B true) dn) ?_
            refine dS (fun _ k_ => p_mB rfl dn) ?_
            refine dS (fun _ k_ => gF rfl rfl dnU) ?_
            refine dS (fun _ k_ => gF rfl rfl dnU) ?_
            refine dS (fun _ k_ => p_pkT rfl (rfl : _ = B true) dn) ?_
            intro w115 k116; have S117 := S97.call k116
            refine wp_nil ?_
            refine c_true rfl ?_
            refine c_seq ?_
            refine reg ?_
            refine p_aB rfl ?_
            refine wp_nil ?_
            obtain rfl := Option.some.inj H
            refine c_ret ?_; show bodyPostM (Fr none) 0 Tryd.prog Tryd.f19 _ .ret _ _
            refine ret_of (res1 rfl (rvT (rfl : _ = B false))) ?_
            exact ⟨_, rfl, rfl, S117.keep⟩
          · replace H := condF c114 H
            obtain ⟨r118, h119, H⟩ := bindS H
            rcases Bool.eq_false_or_eq_true (!((r16.1.Low == r118.Low) && (r16.1.High == r118.High))) with c120 | c120
            · replace H := condT c120 H
              refine reg_q mixed 40 (by kernel_rfl) ?_
              refine dS (fun _ k_ => p_mI rfl dn) ?_
              refine dS (fun _ k_ => p_cmp rfl rfl rfl dn) ?_
              refine dS (fun _ k_ => p_mB rfl dn) ?_
              refine dB c98 ?_
              refine dS (fun _ k_ => gT rfl rfl (p_mI rfl dn)) ?_
              refine dS (fun _ k_ => gT rfl rfl (p_cmp rfl rfl rfl dn)) ?_
              refine dS (fun _ k_ => p_pkF rfl (rfl : _ = B (r38.2 != 0)) dn) ?_
              refine dS (fun _ k_ => p_mB rfl dn) ?_
              refine dB c102 ?_
              refine dS (fun _ k_ => gT rfl rfl (p_mI rfl dn)) ?_
              refine dS (fun _ k_ => gT rfl rfl (p_cmp rfl rfl rfl dn)) ?_
              refine dS (fun _ k_ => p_pkF rfl (rfl : _ = B (r60.2 != 0)) dn) ?_
              refine dS (fun _ k_ => p_mB rfl dn) ?_
              refine dB c106 ?_
              refine dS (fun _ k_ => gT rfl rfl (p_mI rfl dn)) ?_
              refine dS (fun _ k_ => gT rfl rfl (p_cmp rfl rfl rfl dn)) ?_
              refine dS (fun _ k_ => p_pkF rfl (rfl : _ = B (r77.2 != 0)) dn) ?_
              refine dS (fun _ k_ => p_mB rfl dn) ?_
              refine dB c110 ?_
              refine dS (fun _ k_ => gT rfl rfl (p_mI rfl dn)) ?_
              refine dS (fun _ k_ => gT rfl rfl (p_cmp rfl rfl rfl dn)) ?_
              refine dS (fun _ k_ => p_pkF rfl (rfl : _ = B (r94.2 != 0)) dn) ?_
              refine dS (fun _ k_ => p_mB rfl dn) ?_
              refine dB c114 ?_
              refine dS (fun _ k_ => gT rfl rfl (p_ldA ty23 sz23 (Asr.stays (S97.atX (i := 1) rfl) k_) rfl rfl dn)) ?_
              refine dS (fun _ k_ => gT rfl rfl (p_cvD (B_Range_ok h119) fu44 rfl)) ?_
              refine dS (fun _ k_ => gT rfl rfl (o_neA (xs := [I r16.1.Low, I r16.1.High]) (ys := [I r118.Low, I r118.High]) (T := ((r16.1.Low == r118.Low) && (r16.1.High == r118.High))) rfl rfl eq23 ⟨⟨_, rfl⟩, ⟨⟨_, rfl⟩, trivial⟩⟩ ⟨⟨_, rfl⟩, ⟨⟨_, rfl⟩, trivial⟩⟩ (by simp [Bool.and_eq_true, and_assoc]) dn)) ?_
              refine dS (fun _ k_ => p_pkF rfl (rfl : _ = B (!((r16.1.Low == r118.Low) && (r16.1.High == r118.High)))) dn) ?_
              refine dS (fun _ k_ => p_mB rfl dn) ?_
              refine dB c120 ?_
              refine dS (fun _ k_ => gF rfl rfl dnU) ?_
              refine dS (fun _ k_ => gF rfl rfl dnU) ?_
              refine dS (fun _ k_ => gF rfl rfl dnU) ?_
              refine dS (fun _ k_ => p_pkT rfl (rfl : _ = B true) dn) ?_
              refine dS (fun _ k_ => p_mB rfl dn) ?_
              refine dS (fun _ k_ => gF rfl rfl dnU) ?_
              refine dS (fun _ k_ => gF rfl rfl dnU) ?_
              refine dS (fun _ k_ => p_pkT rfl (rfl : _ = B true) dn) ?_
              refine dS (fun _ k_ => p_mB rfl dn) ?_
              refine dS (fun _ k_ => gF rfl rfl dnU) ?_
              refine dS (fun _ k_ => gF rfl rfl dnU) ?_
              refine dS (fun _ k_ => p_pkT rfl (rfl : _ = B true) dn) ?_
              refine dS (fun _ k_ => p_mB rfl dn) ?_
              refine dS (fun _ k_ => gF rfl rfl dnU) ?_
              refine dS (fun _ k_ => gF rfl rfl dnU) ?_
              refine dS (fun _ k_ => p_pkT rfl (rfl : _ = B true) dn) ?_
              intro w121 k122; have S123 := S97.call k122
              refine wp_nil ?_
              refine c_true rfl ?_
              refine c_seq ?_
              refine reg ?_
              refine p_aB rfl ?_
              refine wp_nil ?_
              obtain rfl := Option.some.inj H
              refine c_ret ?_; show bodyPostM (Fr none) 0 Tryd.prog Tryd.f19 _ .ret _ _
              refine ret_of (res1 rfl (rvT (rfl : _ = B false))) ?_
              exact ⟨_, rfl, rfl, S123.keep⟩
            · replace H := condF c120 H
              obtain ⟨r124, h125, H⟩ := bindS H
              rcases Bool.eq_false_or_eq_true (!((r38.1.Low == r124.Low) && (r38.1.High == r124.High))) with c126 | c126
              · replace H := condT c126 H
                refine reg_q mixed 40 (by kernel_rfl) ?_
                refine dS (fun _ k_ => p_mI rfl dn) ?_
                refine dS (fun _ k_ => p_cmp rfl rfl rfl dn) ?_
                refine dS (fun _ k_ => p_mB rfl dn) ?_
                refine dB c98 ?_
                refine dS (fun _ k_ => gT rfl rfl (p_mI rfl dn)) ?_
                refine dS (fun _ k_ => gT rfl rfl (p_cmp rfl rfl rfl dn)) ?_
                refine dS (fun _ k_ => p_pkF rfl (rfl : _ = B (r38.2 != 0)) dn) ?_
                refine dS (fun _ k_ => p_mB rfl dn) ?_
                refine dB c102 ?_
                refine dS (fun _ k_ => gT rfl rfl (p_mI rfl dn)) ?_
                refine dS (fun _ k_ => gT rfl rfl (p_cmp rfl rfl rfl dn)) ?_
                refine dS (fun _ k_ => p_pkF rfl (rfl : _ = B (r60.2 != 0)) dn) ?_
                refine dS (fun _ k_ => p_mB rfl dn) ?_
                refine dB c106 ?_
                refine dS (fun _ k_ => gT rfl rfl (p_mI rfl dn)) ?_
                refine dS (fun _ k_ => gT rfl rfl (p_cmp rfl rfl rfl dn)) ?_
                refine dS (fun _ k_ => p_pkF rfl (rfl : _ = B (r77.2 != 0)) dn) ?_
                refine dS (fun _ k_ => p_mB rfl dn) ?_
                refine dB c110 ?_
                refine dS (fun _ k_ => gT rfl rfl (p_mI rfl dn)) ?_
                refine dS (fun _ k_ => gT rfl rfl (p_cmp rfl rfl rfl dn)) ?_
                refine dS (fun _ k_ => p_pkF rfl (rfl : _ = B (r94.2 != 0)) dn) ?_
                refine dS (fun _ k_ => p_mB rfl dn) ?_
                refine dB c114 ?_
                refine dS (fun _ k_ => gT rfl rfl (p_ldA ty23 sz23 (Asr.stays (S97.atX (i := 1) rfl) k_) rfl rfl dn)) ?_
                refine dS (fun _ k_ => gT rfl rfl (p_cvD (B_Range_ok h119) fu44 rfl)) ?_
                refine dS (fun _ k_ => gT rfl rfl (o_neA (xs := [I r16.1.Low, I r16.1.High]) (ys := [I r118.Low, I r118.High]) (T := ((r16.1.Low == r118.Low) && (r16.1.High == r118.High))) rfl rfl eq23 ⟨⟨_, rfl⟩, ⟨⟨_, rfl⟩, trivial⟩⟩ ⟨⟨_, rfl⟩, ⟨⟨_, rfl⟩, trivial⟩⟩ (by simp [Bool.and_eq_true, and_assoc]) dn)) ?_
                refine dS (fun _ k_ => p_pkF rfl (rfl : _ = B (!((r16.1.Low == r118.Low) && (r16.1.High == r118.High)))) dn) ?_
                refine dS (fun _ k_ => p_mB rfl dn) ?_
                refine dB c120 ?_
                refine dS (fun _ k_ => gT rfl rfl (p_ldA ty23 sz23 (Asr.stays (S97.atX (i := 0) rfl) k_) rfl rfl dn)) ?_
                refine dS (fun _ k_ => gT rfl rfl (p_cvD (B_Point_ok h125) fu38 rfl)) ?_
                refine dS (fun _ k_ => gT rfl rfl (o_neA (xs := [I r38.1.Low, I r38.1.High]) (ys := [I r124.Low, I r124.High]) (T := ((r38.1.Low == r124.Low) && (r38.1.High == r124.High))) rfl rfl eq23 ⟨⟨_, rfl⟩, ⟨⟨_, rfl⟩, trivial⟩⟩ ⟨⟨_, rfl⟩, ⟨⟨_, rfl⟩, trivial⟩⟩ (by simp [Bool.and_eq_true, and_assoc]) dn)) ?_
                refine dS (fun _ k_ => p_pkF rfl (rfl : _ = B (!((r38.1.Low == r124.Low) && (r38.1.High == r124.High)))) dn) ?_
                refine dS (fun _ k_ => p_mB rfl dn) ?_
                refine dB c126 ?_
                refine dS (fun _ k_ => gF rfl rfl dnU) ?_
                refine dS (fun _ k_ => gF rfl rfl dnU) ?_
                refine dS (fun _ k_ => p_pkT rfl (rfl : _ = B true) dn) ?_
                refine dS (fun _ k_ => p_mB rfl dn) ?_
                refine dS (fun _ k_ => gF rfl rfl dnU) ?_
                refine dS (fun _ k_ => gF rfl rfl dnU) ?_
                refine dS (fun _ k_ => p_pkT rfl (rfl : _ = B true) dn) ?_
                refine dS (fun _ k_ => p_mB rfl dn) ?_
                refine dS (fun _ k_ => gF rfl rfl dnU) ?_
                refine dS (fun _ k_ => gF rfl rfl dnU) ?_
                refine dS (fun _ k_ => p_pkT rfl (rfl : _ = B true) dn) ?_
                intro w127 k128; have S129 := S97.call k128
                refine wp_nil ?_
                refine c_true rfl ?_
                refine c_seq ?_
                refine reg ?_
                refine p_aB rfl ?_
                refine wp_nil ?_
                obtain rfl := Option.some.inj H
                refine c_ret ?_; show bodyPostM (Fr none) 0 Tryd.prog Tryd.f19 _ .ret _ _
                refine ret_of (res1 rfl (rvT (rfl : _ = B false))) ?_
                exact ⟨_, rfl, rfl, S129.keep⟩
              · replace H := condF c126 H
                rcases Bool.eq_false_or_eq_true ((r60.1 != 3)) with c130 | c130
                · replace H := condT c130 H
                  refine reg_q mixed 40 (by kernel_rfl) ?_
                  refine dS (fun _ k_ => p_mI rfl dn) ?_
                  refine dS (fun _ k_ => p_cmp rfl rfl rfl dn) ?_
                  refine dS (fun _ k_ => p_mB rfl dn) ?_
                  refine dB c98 ?_
                  refine dS (fun _ k_ => gT rfl rfl (p_mI rfl dn)) ?_
                  refine dS (fun _ k_ => gT rfl rfl (p_cmp rfl rfl rfl dn)) ?_
                  refine dS (fun _ k_ => p_pkF rfl (rfl : _ = B (r38.2 != 0)) dn) ?_
                  refine dS (fun _ k_ => p_mB rfl dn) ?_
                  refine dB c102 ?_
                  refine dS (fun _ k_ => gT rfl rfl (p_mI rfl dn)) ?_
                  refine dS (fun _ k_ => gT rfl rfl (p_cmp rfl rfl rfl dn)) ?_
                  refine dS (fun _ k_ => p_pkF rfl (rfl : _ = B (r60.2 != 0)) dn) ?_
                  refine dS (fun _ k_ => p_mB rfl dn) ?_
                  refine dB c106 ?_
                  refine dS (fun _ k_ => gT rfl rfl (p_mI rfl dn)) ?_
                  refine dS (fun _ k_ => gT rfl rfl (p_cmp rfl rfl rfl dn)) ?_
                  refine dS (fun _ k_ => p_pkF rfl (rfl : _ = B (r77.2 != 0)) dn) ?_
                  refine dS (fun _ k_ => p_mB rfl dn) ?_
                  refine dB c110 ?_
                  refine dS (fun _ k_ => gT rfl rfl (p_mI rfl dn)) ?_
                  refine dS (fun _ k_ => gT rfl rfl (p_cmp rfl rfl rfl dn)) ?_
                  refine dS (fun _ k_ => p_pkF rfl (rfl : _ = B (r94.2 != 0)) dn) ?_
                  refine dS (fun _ k_ => p_mB rfl dn) ?_
                  refine dB c114 ?_
                  refine dS (fun _ k_ => gT rfl rfl (p_ldA ty23 sz23 (Asr.stays (S97.atX (i := 1) rfl) k_) rfl rfl dn)) ?_
                  refine dS (fun _ k_ => gT rfl rfl (p_cvD (B_Range_ok h119) fu44 rfl)) ?_
                  refine dS (fun _ k_ => gT rfl rfl (o_neA (xs := [I r16.1.Low, I r16.1.High]) (ys := [I r118.Low, I r118.High]) (T := ((r16.1.Low == r118.Low) && (r16.1.High == r118.High))) rfl rfl eq23 ⟨⟨_, rfl⟩, ⟨⟨_, rfl⟩, trivial⟩⟩ ⟨⟨_, rfl⟩, ⟨⟨_, rfl⟩, trivial⟩⟩ (by simp [Bool.and_eq_true, and_assoc]) dn)) ?_
                  refine dS (fun _ k_ => p_pkF rfl (rfl : _ = B (!((r16.1.Low == r118.Low) && (r16.1.High == r118.High)))) dn) ?_
                  refine dS (fun _ k_ => p_mB rfl dn) ?_
                  refine dB c120 ?_
                  refine dS (fun _ k_ => gT rfl rfl (p_ldA ty23 sz23 (Asr.stays (S97.atX (i := 0) rfl) k_) rfl rfl dn)) ?_
                  refine dS (fun _ k_ => gT rfl rfl (p_cvD (B_Point_ok h125) fu38 rfl)) ?_
                  refine dS (fun _ k_ => gT rfl rfl (o_neA (xs := [I r38.1.Low, I r38.1.High]) (ys := [I r124.Low, I r124.High]) (T := ((r38.1.Low == r124.Low) && (r38.1.High == r124.High))) rfl rfl eq23 ⟨⟨_, rfl⟩, ⟨⟨_, rfl⟩, trivial⟩⟩ ⟨⟨_, rfl⟩, ⟨⟨_, rfl⟩, trivial⟩⟩ (by simp [Bool.and_eq_true, and_assoc]) dn)) ?_
                  refine dS (fun _ k_ => p_pkF rfl (rfl : _ = B (!((r38.1.Low == r124.Low) && (r38.1.High == r124.High)))) dn) ?_
                  refine dS (fun _ k_ => p_mB rfl dn) ?_
                  refine dB c126 ?_
                  refine dS (fun _ k_ => gT rfl rfl (p_mI rfl dn)) ?_
                  refine dS (fun _ k_ => gT rfl rfl (p_cmp rfl rfl rfl dn)) ?_
                  refine dS (fun _ k_ => p_pkF rfl (rfl : _ = B (r60.1 != 3)) dn) ?_
                  refine dS (fun _ k_ => p_mB rfl dn) ?_
                  refine dB c130 ?_
                  refine dS (fun _ k_ => gF rfl rfl dnU) ?_
                  refine dS (fun _ k_ => gF rfl rfl dnU) ?_
                  refine dS (fun _ k_ => p_pkT rfl (rfl : _ = B true) dn) ?_
                  refine dS (fun _ k_ => p_mB rfl dn) ?_
                  refine dS (fun _ k_ => gF rfl rfl dnU) ?_
                  refine dS (fun _ k_ => gF rfl rfl dnU) ?_
                  refine dS (fun _ k_ => p_pkT rfl (rfl : _ = B true) dn) ?_
                  intro w131 k132; have S133 := S97.call k132
                  refine wp_nil ?_
                  refine c_true rfl ?_
                  refine c_seq ?_
                  refine reg ?_
                  refine p_aB rfl ?_
                  refine wp_nil ?_
                  obtain rfl := Option.some.inj H
                  refine c_ret ?_; show bodyPostM (Fr none) 0 Tryd.prog Tryd.f19 _ .ret _ _
                  refine ret_of (res1 rfl (rvT (rfl : _ = B false))) ?_
                  exact ⟨_, rfl, rfl, S133.keep⟩
                · replace H := condF c130 H
                  rcases Bool.eq_false_or_eq_true ((r77.1 != 2)) with c134 | c134
                  · replace H := condT c134 H
                    refine reg_q mixed 40 (by kernel_rfl) ?_
                    refine dS (fun _ k_ => p_mI rfl dn) ?_
                    refine dS (fun _ k_ => p_cmp rfl rfl rfl dn) ?_
                    refine dS (fun _ k_ => p_mB rfl dn) ?_
                    refine dB c98 ?_
                    refine dS (fun _ k_ => gT rfl rfl (p_mI rfl dn)) ?_
                    refine dS (fun _ k_ => gT rfl rfl (p_cmp rfl rfl rfl dn)) ?_
                    refine dS (fun _ k_ => p_pkF rfl (rfl : _ = B (r38.2 != 0)) dn) ?_
                    refine dS (fun _ k_ => p_mB rfl dn) ?_
                    refine dB c102 ?_
                    refine dS (fun _ k_ => gT rfl rfl (p_mI rfl dn)) ?_
                    refine dS (fun _ k_ => gT rfl rfl (p_cmp rfl rfl rfl dn)) ?_
                    refine dS (fun _ k_ => p_pkF rfl (rfl : _ = B (r60.2 != 0)) dn) ?_
                    refine dS (fun _ k_ => p_mB rfl dn) ?_
                    refine dB c106 ?_
                    refine dS (fun _ k_ => gT rfl rfl (p_mI rfl dn)) ?_
                    refine dS (fun _ k_ => gT rfl rfl (p_cmp rfl rfl rfl dn)) ?_
                    refine dS (fun _ k_ => p_pkF rfl (rfl : _ = B (r77.2 != 0)) dn) ?_
                    refine dS (fun _ k_ => p_mB rfl dn) ?_
                    refine dB c110 ?_
                    refine dS (fun _ k_ => gT rfl rfl (p_mI rfl dn)) ?_
                    refine dS (fun _ k_ => gT rfl rfl (p_cmp rfl rfl rfl dn)) ?_
                    refine dS (fun _ k_ => p_pkF rfl (rfl : _ = B (r94.2 != 0)) dn) ?_
                    refine dS (fun _ k_ => p_mB rfl dn) ?_
                    refine dB c114 ?_
                    refine dS (fun _ k_ => gT rfl rfl (p_ldA ty23 sz23 (Asr.stays (S97.atX (i := 1) rfl) k_) rfl rfl dn)) ?_
                    refine dS (fun _ k_ => gT rfl rfl (p_cvD (B_Range_ok h119) fu44 rfl)) ?_
                    refine dS (fun _ k_ => gT rfl rfl (o_neA (xs := [I r16.1.Low, I r16.1.High]) (ys := [I r118.Low, I r118.High]) (T := ((r16.1.Low == r118.Low) && (r16.1.High == r118.High))) rfl rfl eq23 ⟨⟨_, rfl⟩, ⟨⟨_, rfl⟩, trivial⟩⟩ ⟨⟨_, rfl⟩, ⟨⟨_, rfl⟩, trivial⟩⟩ (by simp [Bool.and_eq_true, and_assoc]) dn)) ?_
                    refine dS (fun _ k_ => p_pkF rfl (rfl : _ = B (!((r16.1.Low == r118.Low) && (r16.1.High == r118.High)))) dn) ?_
                    refine dS (fun _ k_ => p_mB rfl dn) ?_
                    refine dB c120 ?_
                    refine dS (fun _ k_ => gT rfl rfl (p_ldA ty23 sz23 (Asr.stays (S97.atX (i := 0) rfl) k_) rfl rfl dn)) ?_
                    refine dS (fun _ k_ => gT rfl rfl (p_cvD (B_Point_ok h125) fu38 rfl)) ?_
                    refine dS (fun _ k_ => gT rfl rfl (o_neA (xs := [I r38.1.Low, I r38.1.High]) (ys := [I r124.Low, I r124.High]) (T := ((r38.1.Low == r124.Low) && (r38.1.High == r124.High))) rfl rfl eq23 ⟨⟨_, rfl⟩, ⟨⟨_, rfl⟩, trivial⟩⟩ ⟨⟨_, rfl⟩, ⟨⟨_, rfl⟩, trivial⟩⟩ (by simp [Bool.and_eq_true, and_assoc]) dn)) ?_
                    refine dS (fun _ k_ => p_pkF rfl (rfl : _ = B (!((r38.1.Low == r124.Low) && (r38.1.High == r124.High)))) dn) ?_
                    refine dS (fun _ k_ => p_mB rfl dn) ?_
                    refine dB c126 ?_
                    refine dS (fun _ k_ => gT rfl rfl (p_mI rfl dn)) ?_
                    refine dS (fun _ k_ => gT rfl rfl (p_cmp rfl rfl rfl dn)) ?_
                    refine dS (fun _ k_ => p_pkF rfl (rfl : _ = B (r60.1 != 3)) dn) ?_
                    refine dS (fun _ k_ => p_mB rfl dn) ?_
                    refine dB c130 ?_
                    refine dS (fun _ k_ => gT rfl rfl (p_mI rfl dn)) ?_
                    refine dS (fun _ k_ => gT rfl rfl (p_cmp rfl rfl rfl dn)) ?_
                    refine dS (fun _ k_ => p_pkF rfl (rfl : _ = B (r77.1 != 2)) dn) ?_
                    refine dS (fun _ k_ => p_mB rfl dn) ?_
                    refine dB c134 ?_
                    refine dS (fun _ k_ => gF rfl rfl dnU) ?_
                    refine dS (fun _ k_ => gF rfl rfl dnU) ?_
                    refine dS (fun _ k_ => p_pkT rfl (rfl : _ = B true) dn) ?_
                    intro w135 k136; have S137 := S97.call k136
                    refine wp_nil ?_
                    refine c_true rfl ?_
                    refine c_seq ?_
                    refine reg ?_
                    refine p_aB rfl ?_
                    refine wp_nil ?_
                    obtain rfl := Option.some.inj H
                    refine c_ret ?_; show bodyPostM (Fr none) 0 Tryd.prog Tryd.f19 _ .ret _ _
                    refine ret_of (res1 rfl (rvT (rfl : _ = B false))) ?_
                    exact ⟨_, rfl, rfl, S137.keep⟩
                  · replace H := condF c134 H
                    refine reg_q mixed 40 (by kernel_rfl) ?_
                    refine dS (fun _ k_ => p_mI rfl dn) ?_
                    refine dS (fun _ k_ => p_cmp rfl rfl rfl dn) ?_
                    refine dS (fun _ k_ => p_mB rfl dn) ?_
                    refine dB c98 ?_
                    refine dS (fun _ k_ => gT rfl rfl (p_mI rfl dn)) ?_
                    refine dS (fun _ k_ => gT rfl rfl (p_cmp rfl rfl rfl dn)) ?_
                    refine dS (fun _ k_ => p_pkF rfl (rfl : _ = B (r38.2 != 0)) dn) ?_
                    refine dS (fun _ k_ => p_mB rfl dn) ?_
                    refine dB c102 ?_
                    refine dS (fun _ k_ => gT rfl rfl (p_mI rfl dn)) ?_
                    refine dS (fun _ k_ => gT rfl rfl (p_cmp rfl rfl rfl dn)) ?_
                    refine dS (fun _ k_ => p_pkF rfl (rfl : _ = B (r60.2 != 0)) dn) ?_
                    refine dS (fun _ k_ => p_mB rfl dn) ?_
                    refine dB c106 ?_
                    refine dS (fun _ k_ => gT rfl rfl (p_mI rfl dn)) ?_
                    refine dS (fun _ k_ => gT rfl rfl (p_cmp rfl rfl rfl dn)) ?_
                    refine dS (fun _ k_ => p_pkF rfl (rfl : _ = B (r77.2 != 0)) dn) ?_
                    refine dS (fun _ k_ => p_mB rfl dn) ?_
                    refine dB c110 ?_
                    refine dS (fun _ k_ => gT rfl rfl (p_mI rfl dn)) ?_
                    refine dS (fun _ k_ => gT rfl rfl (p_cmp rfl rfl rfl dn)) ?_
                    refine dS (fun _ k_ => p_pkF rfl (rfl : _ = B (r94.2 != 0)) dn) ?_
                    refine dS (fun _ k_ => p_mB rfl dn) ?_
                    refine dB c114 ?_
                    refine dS (fun _ k_ => gT rfl rfl (p_ldA ty23 sz23 (Asr.stays (S97.atX (i := 1) rfl) k_) rfl rfl dn)) ?_
                    refine dS (fun _ k_ => gT rfl rfl (p_cvD (B_Range_ok h119) fu44 rfl)) ?_
                    refine dS (fun _ k_ => gT rfl rfl (o_neA (xs := [I r16.1.Low, I r16.1.High]) (ys := [I r118.Low, I r118.High]) (T := ((r16.1.Low == r118.Low) && (r16.1.High == r118.High))) rfl rfl eq23 ⟨⟨_, rfl⟩, ⟨⟨_, rfl⟩, trivial⟩⟩ ⟨⟨_, rfl⟩, ⟨⟨_, rfl⟩, trivial⟩⟩ (by simp [Bool.and_eq_true, and_assoc]) dn)) ?_
                    refine dS (fun _ k_ => p_pkF rfl (rfl : _ = B (!((r16.1.Low == r118.Low) && (r16.1.High == r118.High)))) dn) ?_
                    refine dS (fun _ k_ => p_mB rfl dn) ?_
                    refine dB c120 ?_
                    refine dS (fun _ k_ => gT rfl rfl (p_ldA ty23 sz23 (Asr.stays (S97.atX (i := 0) rfl) k_) rfl rfl dn)) ?_
                    refine dS (fun _ k_ => gT rfl rfl (p_cvD (B_Point_ok h125) fu38 rfl)) ?_
                    refine dS (fun _ k_ => gT rfl rfl (o_neA (xs := [I r38.1.Low, I r38.1.High]) (ys := [I r124.Low, I r124.High]) (T := ((r38.1.Low == r124.Low) && (r38.1.High == r124.High))) rfl rfl eq23 ⟨⟨_, rfl⟩, ⟨⟨_, rfl⟩, trivial⟩⟩ ⟨⟨_, rfl⟩, ⟨⟨_, rfl⟩, trivial⟩⟩ (by simp [Bool.and_eq_true, and_assoc]) dn)) ?_
                    refine dS (fun _ k_ => p_pkF rfl (rfl : _ = B (!((r38.1.Low == r124.Low) && (r38.1.High == r124.High)))) dn) ?_
                    refine dS (fun _ k_ => p_mB rfl dn) ?_
                    refine dB c126 ?_
                    refine dS (fun _ k_ => gT rfl rfl (p_mI rfl dn)) ?_
                    refine dS (fun _ k_ => gT rfl rfl (p_cmp rfl rfl rfl dn)) ?_
                    refine dS (fun _ k_ => p_pkF rfl (rfl : _ = B (r60.1 != 3)) dn) ?_
                    refine dS (fun _ k_ => p_mB rfl dn) ?_
                    refine dB c130 ?_
                    refine dS (fun _ k_ => gT rfl rfl (p_mI rfl dn)) ?_
                    refine dS (fun _ k_ => gT rfl rfl (p_cmp rfl rfl rfl dn)) ?_
                    refine dS (fun _ k_ => p_pkF rfl (rfl : _ = B (r77.1 != 2)) dn) ?_
                    refine dS (fun _ k_ => p_mB rfl dn) ?_
                    refine dB c134 ?_
                    refine dS (fun _ k_ => gT rfl rfl (p_mI rfl dn)) ?_
                    refine dS (fun _ k_ => gT rfl rfl (p_cmp rfl rfl rfl dn)) ?_
                    refine dS (fun _ k_ => p_pkF rfl (rfl : _ = B (r94.1 != 2)) dn) ?_
                    intro w138 k139; have S140 := S97.call k139
                    refine wp_nil ?_
                    refine c_cond rfl (fun c141 => ?_) (fun c141 => ?_)
                    · replace H := condT c141 H
                      refine c_seq ?_
                      refine reg ?_
                      refine p_aB rfl ?_
                      refine wp_nil ?_
                      obtain rfl := Option.some.inj H
                      refine c_ret ?_; show bodyPostM (Fr none) 0 Tryd.prog Tryd.f19 _ .ret _ _
                      refine ret_of (res1 rfl (rvT (rfl : _ = B false))) ?_
                      exact ⟨_, rfl, rfl, S140.keep⟩
                    · replace H := condF c141 H
                      refine c_skip ?_
                      refine c_seq ?_
                      refine reg ?_
                      obtain ⟨r142, h143, H⟩ := bindS H
                      refine p_cal (law_own_ok h143) fu50 rfl ?_
                      rintro _ w144 ⟨A146, c147, A148, c149, rfl, k145, ⟨o150, n151⟩, ⟨o152, n153⟩, _⟩
                      have S154 := S140.callN k145 [rd eCoalDay 3 A146 c147 r142.Days, rd eCoalDip 3 A148 c149 r142.Dips] (List.forall_mem_cons.2 ⟨⟨o150, New.inL n151⟩, (List.forall_mem_cons.2 ⟨⟨o152, New.inL n153⟩, (fun _ h_ => (List.not_mem_nil h_).elim)⟩)⟩)
                      obtain ⟨r155, h156, H⟩ := bindS H
                      refine p_cv (coal_Order_ok h156 (S154.atP (i := 0) rfl) (S154.atP (i := 1) rfl) (S154.atP (i := 13) rfl)) fu31 rfl S154 fun w157 S158 => ?_
                      refine p_mT rfl ?_
                      refine p_ext rfl rfl ?_
                      refine p_ext rfl rfl ?_
                      refine p_aI rfl ?_
                      refine p_aI rfl ?_
                      refine wp_nil ?_
                      refine c_seq ?_
                      refine reg ?_
                      obtain ⟨r159, h160, H⟩ := bindS H
                      refine p_cal (law_dipped_ok h160) fu53 rfl ?_
                      rintro _ w161 ⟨A163, c164, A165, c166, rfl, k162, ⟨o167, n168⟩, ⟨o169, n170⟩, _⟩
                      have S171 := S158.callN k162 [rd eCoalDay 3 A163 c164 r159.Days, rd eCoalDip 3 A165 c166 r159.Dips] (List.forall_mem_cons.2 ⟨⟨o167, New.inL n168⟩, (List.forall_mem_cons.2 ⟨⟨o169, New.inL n170⟩, (fun _ h_ => (List.not_mem_nil h_).elim)⟩)⟩)
                      obtain ⟨r172, h173, H⟩ := bindS H
                      refine p_cv (coal_Late_ok h173 (S171.atP (i := 0) rfl) (S171.atP (i := 1) rfl) (S171.atP (i := 15) rfl)) fu45 rfl S171 fun w174 S175 => ?_
                      refine p_mT rfl ?_
                      refine p_ext rfl rfl ?_
                      refine p_ext rfl rfl ?_
                      refine p_aI rfl ?_
                      refine p_aI rfl ?_
                      refine wp_nil ?_
                      refine c_seq ?_
                      refine reg ?_
                      obtain ⟨r176, h177, H⟩ := bindS H
                      refine p_cal (law_torn_ok h177) fu52 rfl ?_
                      rintro _ w178 ⟨A180, c181, A182, c183, rfl, k179, ⟨o184, n185⟩, ⟨o186, n187⟩, _⟩
                      have S188 := S175.callN k179 [rd eCoalDay 3 A180 c181 r176.Days, rd eCoalDip 3 A182 c183 r176.Dips] (List.forall_mem_cons.2 ⟨⟨o184, New.inL n185⟩, (List.forall_mem_cons.2 ⟨⟨o186, New.inL n187⟩, (fun _ h_ => (List.not_mem_nil h_).elim)⟩)⟩)
                      obtain ⟨r189, h190, H⟩ := bindS H
                      refine p_cal (coal_Wrong_ok h190 (S188.atP (i := 0) rfl) (S188.atP (i := 1) rfl) (S188.atP (i := 17) rfl)) fu27 rfl ?_
                      rintro _ w191 ⟨A193, c194, rfl, k192, ⟨o195, n196⟩, _⟩
                      have S197 := S188.callN k192 [rd intE 1 A193 c194 r189.1] (List.forall_mem_cons.2 ⟨⟨o195, Al.inL n196 ((List.forall_mem_cons.2 ⟨(fp_mem (i := 0) rfl), (List.forall_mem_cons.2 ⟨(fp_mem (i := 1) rfl), (fun _ h_ => (List.not_mem_nil h_).elim)⟩)⟩))⟩, (fun _ h_ => (List.not_mem_nil h_).elim)⟩)
                      refine p_mT rfl ?_
                      refine p_ext rfl rfl ?_
                      refine p_ext rfl rfl ?_
                      refine p_aS rfl ?_
                      refine p_aI rfl ?_
                      refine wp_nil ?_
                      refine c_seq ?_
                      refine reg ?_
                      obtain ⟨r198, h199, H⟩ := bindS H
                      refine p_cal (law_own_ok h199) fu50 rfl ?_
                      rintro _ w200 ⟨A202, c203, A204, c205, rfl, k201, ⟨o206, n207⟩, ⟨o208, n209⟩, _⟩
                      have S210 := S197.callN k201 [rd eCoalDay 3 A202 c203 r198.Days, rd eCoalDip 3 A204 c205 r198.Dips] (List.forall_mem_cons.2 ⟨⟨o206, New.inL n207⟩, (List.forall_mem_cons.2 ⟨⟨o208, New.inL n209⟩, (fun _ h_ => (List.not_mem_nil h_).elim)⟩)⟩)
                      obtain ⟨r211, h212, H⟩ := bindS H
                      refine p_cv (coal_Right_ok h212 (S210.atP (i := 0) rfl) (S210.atP (i := 1) rfl) (S210.atP (i := 20) rfl)) fu26 rfl S210 fun w213 S214 => ?_
                      refine p_mT rfl ?_
                      refine p_ext rfl rfl ?_
                      refine p_ext rfl rfl ?_
                      refine p_aB rfl ?_
                      refine p_aI rfl ?_
                      refine wp_nil ?_
                      refine c_seq ?_
                      refine reg ?_
                      refine p_mI rfl ?_
                      refine p_cmp rfl rfl rfl ?_
                      refine p_mB rfl ?_
                      rcases Bool.eq_false_or_eq_true ((r155.2 == 0)) with c215 | c215
                      · replace H := condT c215 H
                        refine eB c215 ?_
                        refine gT rfl rfl (p_mI rfl ?_)
                        refine gT rfl rfl (p_cmp rfl rfl rfl ?_)
                        refine p_pkT rfl (rfl : _ = B (r172.2 == 0)) ?_
                        refine p_mB rfl ?_
                        rcases Bool.eq_false_or_eq_true ((r172.2 == 0)) with c216 | c216
                        · replace H := condT c216 H
                          refine eB c216 ?_
                          refine gT rfl rfl (p_mI rfl ?_)
                          refine gT rfl rfl (p_cmp rfl rfl rfl ?_)
                          refine p_pkT rfl (rfl : _ = B (r189.2 == 0)) ?_
                          refine p_mB rfl ?_
                          rcases Bool.eq_false_or_eq_true ((r189.2 == 0)) with c217 | c217
                          · replace H := condT c217 H
                            refine eB c217 ?_
                            refine gT rfl rfl (p_mI rfl ?_)
                            refine gT rfl rfl (p_cmp rfl rfl rfl ?_)
                            refine p_pkT rfl (rfl : _ = B (r211.2 == 0)) ?_
                            refine p_mB rfl ?_
                            rcases Bool.eq_false_or_eq_true ((r211.2 == 0)) with c218 | c218
                            · replace H := condT c218 H
                              refine eB c218 ?_
                              refine gT rfl rfl (p_mI rfl ?_)
                              refine gT rfl rfl (p_cmp rfl rfl rfl ?_)
                              refine p_pkT rfl (rfl : _ = B (r155.1 == 8)) ?_
                              refine p_mB rfl ?_
                              rcases Bool.eq_false_or_eq_true ((r155.1 == 8)) with c219 | c219
                              · replace H := condT c219 H
                                refine eB c219 ?_
                                refine gT rfl rfl (p_mI rfl ?_)
                                refine gT rfl rfl (p_cmp rfl rfl rfl ?_)
                                refine p_pkT rfl (rfl : _ = B (r172.1 == 2)) ?_
                                refine p_mB rfl ?_
                                rcases Bool.eq_false_or_eq_true ((r172.1 == 2)) with c220 | c220
                                · replace H := condT c220 H
                                  refine eB c220 ?_
                                  refine gT rfl rfl (p_mS rfl ?_)
                                  refine gT rfl rfl ?_
                                  refine p_bsl (enc := intE) (l := ([0] : List Int)) I (fun _ => rfl) sc39 in3 intE_len rfl (by decide) (by decide) zr3_1 S214 rfl fun A221 c222 w223 S224 => ?_
                                  obtain ⟨r226, h227, H⟩ := bindS H
                                  refine gT rfl rfl (p_cv (B_Alike_ok h227 (S224.atP (i := 2) rfl) (gr_rd intE_len (S224.atX (i := 0) rfl))) fu43 rfl S224 fun w228 S229 => ?_)
                                  refine p_pkT rfl (rfl : _ = B r226) ?_
                                  refine p_mB rfl ?_
                                  rcases Bool.eq_false_or_eq_true (r226) with c230 | c230
                                  · replace H := condT c230 H
                                    refine eB c230 ?_
                                    refine gT rfl rfl (p_mB rfl ?_)
                                    refine p_pkT rfl (rfl : _ = B r211.1) ?_
                                    refine p_aB rfl ?_
                                    refine wp_nil ?_
                                    obtain rfl := Option.some.inj H
                                    refine c_ret ?_; show bodyPostM (Fr none) 0 Tryd.prog Tryd.f19 _ .ret _ _
                                    refine ret_of (res1 rfl (rvT (rfl : _ = B r211.1))) ?_
                                    exact ⟨_, rfl, rfl, S229.keep⟩
                                  · replace H := condF c230 H
                                    refine eB c230 ?_
                                    refine gF rfl rfl ?_
                                    refine p_pkF rfl (rfl : _ = B false) ?_
                                    refine p_aB rfl ?_
                                    refine wp_nil ?_
                                    obtain rfl := Option.some.inj H
                                    refine c_ret ?_; show bodyPostM (Fr none) 0 Tryd.prog Tryd.f19 _ .ret _ _
                                    refine ret_of (res1 rfl (rvT (rfl : _ = B false))) ?_
                                    exact ⟨_, rfl, rfl, S229.keep⟩
                                · replace H := condF c220 H
                                  refine eB c220 ?_
                                  refine gF rfl rfl ?_
                                  refine gF rfl rfl ?_
                                  refine gF rfl rfl ?_
                                  refine p_pkF rfl (rfl : _ = B false) ?_
                                  refine p_mB rfl ?_
                                  refine gF rfl rfl ?_
                                  refine p_pkF rfl (rfl : _ = B false) ?_
                                  refine p_aB rfl ?_
                                  refine wp_nil ?_
                                  obtain rfl := Option.some.inj H
                                  refine c_ret ?_; show bodyPostM (Fr none) 0 Tryd.prog Tryd.f19 _ .ret _ _
                                  refine ret_of (res1 rfl (rvT (rfl : _ = B false))) ?_
                                  exact ⟨_, rfl, rfl, S214.keep⟩
                              · replace H := condF c219 H
                                refine eB c219 ?_
                                refine gF rfl rfl ?_
                                refine gF rfl rfl ?_
                                refine p_pkF rfl (rfl : _ = B false) ?_
                                refine p_mB rfl ?_
                                refine gF rfl rfl ?_
                                refine gF rfl rfl ?_
                                refine gF rfl rfl ?_
                                refine p_pkF rfl (rfl : _ = B false) ?_
                                refine p_mB rfl ?_
                                refine gF rfl rfl ?_
                                refine p_pkF rfl (rfl : _ = B false) ?_
                                refine p_aB rfl ?_
                                refine wp_nil ?_
                                obtain rfl := Option.some.inj H
                                refine c_ret ?_; show bodyPostM (Fr none) 0 Tryd.prog Tryd.f19 _ .ret _ _
                                refine ret_of (res1 rfl (rvT (rfl : _ = B false))) ?_
                                exact ⟨_, rfl, rfl, S214.keep⟩
                            · replace H := condF c218 H
                              refine eB c218 ?_
                              refine gF rfl rfl ?_
                              refine gF rfl rfl ?_
                              refine p_pkF rfl (rfl : _ = B false) ?_
                              refine p_mB rfl ?_
                              refine gF rfl rfl ?_
                              refine gF rfl rfl ?_
                              refine p_pkF rfl (rfl : _ = B false) ?_
                              refine p_mB rfl ?_
                              refine gF rfl rfl ?_
                              refine gF rfl rfl ?_
                              refine gF rfl rfl ?_
                              refine p_pkF rfl (rfl : _ = B false) ?_
                              refine p_mB rfl ?_
                              refine gF rfl rfl ?_
                              refine p_pkF rfl (rfl : _ = B false) ?_
                              refine p_aB rfl ?_
                              refine wp_nil ?_
                              obtain rfl := Option.some.inj H
                              refine c_ret ?_; show bodyPostM (Fr none) 0 Tryd.prog Tryd.f19 _ .ret _ _
                              refine ret_of (res1 rfl (rvT (rfl : _ = B false))) ?_
                              exact ⟨_, rfl, rfl, S214.keep⟩
                          · replace H := condF c217 H
                            refine eB c217 ?_
                            refine gF rfl rfl ?_
                            refine gF rfl rfl ?_
                            refine p_pkF rfl (rfl : _ = B false) ?_
                            refine p_mB rfl ?_
                            refine gF rfl rfl ?_
                            refine gF rfl rfl ?_
                            refine p_pkF rfl (rfl : _ = B false) ?_
                            refine p_mB rfl ?_
                            refine gF rfl rfl ?_
                            refine gF rfl rfl ?_
                            refine p_pkF rfl (rfl : _ = B false) ?_
                            refine p_mB rfl ?_
                            refine gF rfl rfl ?_
                            refine gF rfl rfl ?_
                            refine gF rfl rfl ?_
                            refine p_pkF rfl (rfl : _ = B false) ?_
                            refine p_mB rfl ?_
                            refine gF rfl rfl ?_
                            refine p_pkF rfl (rfl : _ = B false) ?_
                            refine p_aB rfl ?_
                            refine wp_nil ?_
                            obtain rfl := Option.some.inj H
                            refine c_ret ?_; show bodyPostM (Fr none) 0 Tryd.prog Tryd.f19 _ .ret _ _
                            refine ret_of (res1 rfl (rvT (rfl : _ = B false))) ?_
                            exact ⟨_, rfl, rfl, S214.keep⟩
                        · replace H := condF c216 H
                          refine eB c216 ?_
                          refine gF rfl rfl ?_
                          refine gF rfl rfl ?_
                          refine p_pkF rfl (rfl : _ = B false) ?_
                          refine p_mB rfl ?_
                          refine gF rfl rfl ?_
                          refine gF rfl rfl ?_
                          refine p_pkF rfl (rfl : _ = B false) ?_
                          refine p_mB rfl ?_
                          refine gF rfl rfl ?_
                          refine gF rfl rfl ?_
                          refine p_pkF rfl (rfl : _ = B false) ?_
                          refine p_mB rfl ?_
                          refine gF rfl rfl ?_
                          refine gF rfl rfl ?_
                          refine p_pkF rfl (rfl : _ = B false) ?_
                          refine p_mB rfl ?_
                          refine gF rfl rfl ?_
                          refine gF rfl rfl ?_
                          refine gF rfl rfl ?_
                          refine p_pkF rfl (rfl : _ = B false) ?_
                          refine p_mB rfl ?_
                          refine gF rfl rfl ?_
                          refine p_pkF rfl (rfl : _ = B false) ?_
                          refine p_aB rfl ?_
                          refine wp_nil ?_
                          obtain rfl := Option.some.inj H
                          refine c_ret ?_; show bodyPostM (Fr none) 0 Tryd.prog Tryd.f19 _ .ret _ _
                          refine ret_of (res1 rfl (rvT (rfl : _ = B false))) ?_
                          exact ⟨_, rfl, rfl, S214.keep⟩
                      · replace H := condF c215 H
                        refine eB c215 ?_
                        refine gF rfl rfl ?_
                        refine gF rfl rfl ?_
                        refine p_pkF rfl (rfl : _ = B false) ?_
                        refine p_mB rfl ?_
                        refine gF rfl rfl ?_
                        refine gF rfl rfl ?_
                        refine p_pkF rfl (rfl : _ = B false) ?_
                        refine p_mB rfl ?_
                        refine gF rfl rfl ?_
                        refine gF rfl rfl ?_
                        refine p_pkF rfl (rfl : _ = B false) ?_
                        refine p_mB rfl ?_
                        refine gF rfl rfl ?_
                        refine gF rfl rfl ?_
                        refine p_pkF rfl (rfl : _ = B false) ?_
                        refine p_mB rfl ?_
                        refine gF rfl rfl ?_
                        refine gF rfl rfl ?_
                        refine p_pkF rfl (rfl : _ = B false) ?_
                        refine p_mB rfl ?_
                        refine gF rfl rfl ?_
                        refine gF rfl rfl ?_
                        refine gF rfl rfl ?_
                        refine p_pkF rfl (rfl : _ = B false) ?_
                        refine p_mB rfl ?_
                        refine gF rfl rfl ?_
                        refine p_pkF rfl (rfl : _ = B false) ?_
                        refine p_aB rfl ?_
                        refine wp_nil ?_
                        obtain rfl := Option.some.inj H
                        refine c_ret ?_; show bodyPostM (Fr none) 0 Tryd.prog Tryd.f19 _ .ret _ _
                        refine ret_of (res1 rfl (rvT (rfl : _ = B false))) ?_
                        exact ⟨_, rfl, rfl, S214.keep⟩

end Go.Proofs.YticodohfokgjfaaDoor

/- What the functions of the program compute, and that they do, printed by a program of mine. -/
import Derived.Test.YticodohfokgjfaaDoorZGWFacts
import Derived.KernelRfl
set_option linter.unusedVariables false
set_option linter.unusedSimpArgs false
namespace Go.Proofs.YticodohfokgjfaaDoor
open Go Go.Fx Go.Proofs
structure Coal_gust where
  day_ : Int
  wind_ : Int
  deriving DecidableEq, Inhabited

def ekG (p : Coal_gust) : Value := AG [I p.day_, I p.wind_]
def iE (x : Int) : Value := I x
theorem keyPr : KeyL Tryd.prog 123 ekP := keyPair (ft := 3) (f0 := (Tryd.prog.fieldsOf 123)[0]!) (f1 := (Tryd.prog.fieldsOf 123)[1]!) (by kernel_rfl) (by decide +kernel) (by decide +kernel) (by kernel_rfl) (by kernel_rfl) (by kernel_rfl) (by kernel_rfl) (by kernel_rfl) (by kernel_rfl)
theorem keyG : KeyL Tryd.prog 123 ekG := KeyL.comp keyPr (fun p : Coal_gust => (p.day_, p.wind_)) fun a b h => by
  cases a; cases b; cases h; rfl

def yE0 (x : Int) : List Value := [I x]

structure Span where
  Low : Int
  High : Int
  deriving DecidableEq, Inhabited

def coal_all_1_l1 {σ : Type} (q0 : Span) (yv : Int → σ → Option (Bool × σ)) (rec_z_1 : (Int × σ) → Option σ) (z_1 : Int × σ) : Option σ :=
  bif decide (z_1.1 < (wr ((wr (q0.High - q0.Low)) + 1))) then ((yv (wr (q0.Low + z_1.1)) z_1.2).bind fun r8 =>
  bif !r8.1 then (some r8.2)
  else (rec_z_1 (wr (z_1.1 + 1), r8.2)))
  else (some z_1.2)

def coal_all_1 {σ : Type} (s_ : σ) (q0 : Span) (yv : Int → σ → Option (Bool × σ)) : Option σ :=
  loopF (coal_all_1_l1 q0 yv) big (0, s_)

set_option maxRecDepth 100000 in
theorem coal_all_1_ok {σ : Type} {l_ : Nat} {G_ : σ → Asr → Prop} {A_ : Asr} {wb_ : World} {C0_ : Nat → Prop} {s_ : σ} {q0 : Span} {yv : Int → σ → Option (Bool × σ)} {b1 : Nat} {w : World} {r : σ} (H : coal_all_1 s_ q0 yv = some r) (hG_ : (ga G_ s_ A_).ok w) (h2 : (bl b1 [I q0.Low, I q0.High] 23).ok w) (hd_ : ∀ p ∈ ([bl b1 [I q0.Low, I q0.High] 23] : List Asr), ∀ b, p.fp b → ¬ A_.fp b) (hy_ : YH Tryd.prog l_ yE0 yv G_ wb_ C0_) (hl_ : Link wb_ C0_ w A_.fp) : Calls Tryd.prog 102 #[Value.func (.yield l_) #[] #[], P b1 0] w (fun en w_ => ∃ u_, en = .returned u_ ∧ ∃ A'_ : Asr, u_ = TU [] ∧ Keep A_.fp w w_ ∧ (ga G_ r A'_).ok w_ ∧ (∀ b_, A'_.fp b_ → A_.fp b_ ∨ w.heap.size ≤ b_)) := by
  unfold coal_all_1 at H
  refine fn_of (n := 21) Tryd.func102 rfl rfl (Nat.le_of_ble_eq_true rfl) ?_
  have S : St w A_.fp w [ga G_ s_ A_] [bl b1 [I q0.Low, I q0.High] 23] := St.startX (ga G_ s_ A_) hG_ (List.forall_mem_cons.2 ⟨h2, (fun _ h_ => (List.not_mem_nil h_).elim)⟩) hd_
  refine c_seq ?_
  refine reg ?_
  refine p_fld fl23_1 rfl ?_
  refine p_ld ty3 (S.atP (i := 0) rfl) rfl rfl ?_
  refine p_fld fl23_0 rfl ?_
  refine p_ld ty3 (S.atP (i := 0) rfl) rfl rfl ?_
  refine p_sub rfl rfl ?_
  refine p_add rfl rfl ?_
  refine p_mI rfl ?_
  refine wp_nil ?_
  refine c_block ?_
  refine c_lop (α := Int × σ) (β := Asr) (coal_all_1_l1 q0 yv) (fun z_1 y_1 => [(0, Value.func (.yield l_) #[] #[]), (1, P b1 0), (9, I (wr ((wr (q0.High - q0.Low)) + 1))), (10, I z_1.1)]) (fun z_1 y_1 w_ => St w A_.fp w_ [ga G_ z_1.2 y_1] [bl b1 [I q0.Low, I q0.High] 23]) (0, s_) A_ H ⟨rfl, rfl, rfl, rfl, trivial⟩ S ?_
  intro m3 z_1 y_1 e4 w5 H S6
  unfold coal_all_1_l1 at H
  refine c_seq ?_
  refine reg ?_
  refine p_cmp rfl rfl rfl ?_
  refine wp_nil ?_
  refine c_seq ?_
  refine c_cond rfl (fun c7 => ?_) (fun c7 => ?_)
  · replace H := condT c7 H
    refine c_skip ?_
    refine c_seq ?_
    refine c_block ?_
    refine c_seq ?_
    refine reg ?_
    refine p_mI rfl ?_
    refine p_aI rfl ?_
    refine wp_nil ?_
    refine c_seq ?_
    refine reg ?_
    refine p_mov (rfl : _ = Value.func (.yield l_) #[] #[]) ?_
    refine p_fld fl23_0 rfl ?_
    refine p_ld ty3 (S6.atP (i := 0) rfl) rfl rfl ?_
    refine p_mI rfl ?_
    refine p_add rfl rfl ?_
    obtain ⟨r8, h9, H⟩ := bindS H
    refine o_yieldG (x := wr (q0.Low + z_1.1)) (b := r8.1) (s2 := r8.2) h9 hy_ hl_ S6 (j := 0) rfl (rfl : _ = Value.func (.yield l_) #[] #[]) rfl fun A10 w11 S12 => ?_
    refine p_not rfl ?_
    refine wp_nil ?_
    refine c_cond rfl (fun c13 => ?_) (fun c13 => ?_)
    · replace H := condT c13 H
      obtain rfl := Option.some.inj H
      refine c_ret ?_; show bodyPostM (Fr none) 0 Tryd.prog Tryd.f102 _ .ret _ _
      refine ret_of (res0 rfl) ?_
      exact ⟨_, rfl, _, rfl, S12.keep, S12.atX (i := 0) rfl, fun b_ h_ => (S12.own _ (List.mem_of_getElem? (i := 0) rfl) b_ h_).symm⟩
    · replace H := condF c13 H
      refine c_skip ?_
      refine reg ?_
      refine p_add rfl rfl ?_
      refine p_mI rfl ?_
      refine wp_nil ?_
      exact ⟨(wr (z_1.1 + 1), r8.2), A10, _, rfl, ⟨rfl, rfl, rfl, rfl, trivial⟩, H, S12⟩
  · replace H := condF c7 H
    refine c_exit ?_
    obtain rfl := Option.some.inj H
    show bodyPostM (Fr none) 0 Tryd.prog Tryd.f102 _ .normal _ _
    refine end_of (res0 rfl) ?_
    exact ⟨_, rfl, _, rfl, S6.keep, S6.atX (i := 0) rfl, fun b_ h_ => (S6.own _ (List.mem_of_getElem? (i := 0) rfl) b_ h_).symm⟩

def coal_all (a0 : Span) : Option Unit :=
  some ()

set_option maxRecDepth 100000 in
theorem coal_all_ok {a0 : Span} {w : World} {r : Unit} (H : coal_all a0 = some r) : Calls Tryd.prog 96 #[AG [I a0.Low, I a0.High]] w fun en w_ => ∃ u_, en = .returned u_ ∧ ∃ b_1 : Nat, u_ = Value.func (.func 102) #[] #[P b_1 0] ∧ Keep0 w w_ ∧ ((bl b_1 [I a0.Low, I a0.High] 23).ok w_ ∧ New w.heap.size (bl b_1 [I a0.Low, I a0.High] 23)) ∧ True := by
  unfold coal_all at H
  refine fn_of (n := 4) Tryd.func96 rfl rfl (Nat.le_of_ble_eq_true rfl) ?_
  have S : St w (fun _ => False) w [] [] := St.start w _ _ (fun _ h_ => (List.not_mem_nil h_).elim)
  refine c_seq ?_
  refine reg ?_
  refine p_boxA rfl S fun b1 w2 S3 => ?_
  refine p_asg (rfl : _ = Value.nilFunc) ?_
  refine wp_nil ?_
  refine c_seq ?_
  refine reg ?_
  refine o_fun (rfl : _ = []) (rfl : _ = [P b1 0]) ?_
  refine p_asg (rfl : _ = Value.func (.func 102) #[] #[P b1 0]) ?_
  refine wp_nil ?_
  obtain rfl := Option.some.inj H
  refine c_ret ?_; show bodyPostM (Fr none) 0 Tryd.prog Tryd.f96 _ .ret _ _
  refine ret_of (res1 rfl (rvT (rfl : _ = Value.func (.func 102) #[] #[P b1 0]))) ?_
  exact ⟨_, rfl, b1, rfl, S3.keep, ⟨S3.atX (i := 0) rfl, S3.newX (i := 0) rfl⟩, trivial⟩

def coal_within (a0 : Int) (a1 : Int) (a2 : Int) : Option Bool :=
  bif decide (a1 ≤ a0) then (some (decide (a0 ≤ a2)))
  else (some false)

set_option maxRecDepth 100000 in
theorem coal_within_ok {a0 : Int} {a1 : Int} {a2 : Int} {w : World} {r : Bool} (H : coal_within a0 a1 a2 = some r) : Calls Tryd.prog 79 #[I a0, I a1, I a2] w (RetV w (B r)) := by
  unfold coal_within at H
  refine fn_of (n := 15) Tryd.func79 rfl rfl (Nat.le_of_ble_eq_true rfl) ?_
  have S : St w (fun _ => False) w [] [] := St.start w _ _ (fun _ h_ => (List.not_mem_nil h_).elim)
  refine c_seq ?_
  refine reg ?_
  refine p_aB rfl ?_
  refine wp_nil ?_
  refine c_seq ?_
  refine reg ?_
  refine p_mI rfl ?_
  refine p_mI rfl ?_
  refine p_cmp rfl rfl rfl ?_
  refine p_mB rfl ?_
  rcases Bool.eq_false_or_eq_true (decide (a1 ≤ a0)) with c1 | c1
  · replace H := condT c1 H
    refine eB c1 ?_
    refine gT rfl rfl (p_mI rfl ?_)
    refine gT rfl rfl (p_mI rfl ?_)
    refine gT rfl rfl (p_cmp rfl rfl rfl ?_)
    refine p_pkT rfl (rfl : _ = B (decide (a0 ≤ a2))) ?_
    refine p_aB rfl ?_
    refine wp_nil ?_
    obtain rfl := Option.some.inj H
    refine c_ret ?_; show bodyPostM (Fr none) 0 Tryd.prog Tryd.f79 _ .ret _ _
    refine ret_of (res1 rfl (rvT (rfl : _ = B (decide (a0 ≤ a2))))) ?_
    exact ⟨_, rfl, rfl, S.keep⟩
  · replace H := condF c1 H
    refine eB c1 ?_
    refine gF rfl rfl ?_
    refine gF rfl rfl ?_
    refine gF rfl rfl ?_
    refine p_pkF rfl (rfl : _ = B false) ?_
    refine p_aB rfl ?_
    refine wp_nil ?_
    obtain rfl := Option.some.inj H
    refine c_ret ?_; show bodyPostM (Fr none) 0 Tryd.prog Tryd.f79 _ .ret _ _
    refine ret_of (res1 rfl (rvT (rfl : _ = B false))) ?_
    exact ⟨_, rfl, rfl, S.keep⟩

structure CoalDay where
  Crosses : Int
  Engines : Int
  Winds : Int
  deriving DecidableEq, Inhabited

structure CoalDip where
  Day : Int
  Read : Int
  Error : Int
  deriving DecidableEq, Inhabited

structure CoalBook where
  Heap : Span
  Eats : List Span
  Extra : List Int
  Days : List CoalDay
  Collier : Span
  Brings : Int
  Dips : List CoalDip
  deriving DecidableEq, Inhabited

structure Coal_book where
  CoalBook : CoalBook
  costs_ : List (Coal_gust × Int)
  deriving DecidableEq, Inhabited

def eSpan (x : Span) : List Value := [I x.Low, I x.High]
theorem eSpan_len (x : Span) : (eSpan x).length = 2 := rfl
def eCoalDay (x : CoalDay) : List Value := [I x.Crosses, I x.Engines, I x.Winds]
theorem eCoalDay_len (x : CoalDay) : (eCoalDay x).length = 3 := rfl
def eCoalDip (x : CoalDip) : List Value := [I x.Day, I x.Read, I x.Error]
theorem eCoalDip_len (x : CoalDip) : (eCoalDip x).length = 3 := rfl
theorem eCoalDip_one (x : CoalDip) : ∀ u ∈ eCoalDip x, u.oneCell' = true := by simp [eCoalDip, sg, sgF, Value.oneCell']

def coal_book_right_l1 (a0 : Coal_book) (a1 : Int) (a2 : Int) (rec_z_1 : Int → Option Bool) (z_1 : Int) : Option Bool :=
  bif decide (z_1 < (a0.CoalBook.Dips.length : Int)) then ((getI a0.CoalBook.Dips z_1).bind fun r18 =>
  bif (r18.Day == a1) then ((coal_within (wr (a2 - r18.Read)) (wr (-r18.Error)) r18.Error).bind fun r26 =>
  bif !r26 then (some false)
  else (rec_z_1 (wr (z_1 + 1))))
  else (rec_z_1 (wr (z_1 + 1))))
  else (some true)

def coal_book_right (a0 : Coal_book) (a1 : Int) (a2 : Int) : Option Bool :=
  loopF (coal_book_right_l1 a0 a1 a2) big 0

set_option maxRecDepth 100000 in
theorem coal_book_right_ok {a0 : Coal_book} {a1 : Int} {a2 : Int} {A1 : Option Addr} {c2 : Nat} {A4 : Option Addr} {c5 : Nat} {m7 : Option Nat} {w : World} {r : Bool} (H : coal_book_right a0 a1 a2 = some r) (h3 : (rd eCoalDay 3 A1 c2 a0.CoalBook.Days).ok w) (h6 : (rd eCoalDip 3 A4 c5 a0.CoalBook.Dips).ok w) (h8 : (mpo ekG iE m7 a0.costs_).ok w) : Calls Tryd.prog 104 #[AG ([I a0.CoalBook.Heap.Low, I a0.CoalBook.Heap.High] ++ (sgE eSpan a0.CoalBook.Eats 2 ++ (sg a0.CoalBook.Extra 3 ++ [SL A1 a0.CoalBook.Days.length c2, I a0.CoalBook.Collier.Low, I a0.CoalBook.Collier.High, I a0.CoalBook.Brings, SL A4 a0.CoalBook.Dips.length c5, Value.map m7]))), I a1, I a2] w (RetV w (B r)) := by
  unfold coal_book_right at H
  refine fn_of (n := 35) Tryd.func104 rfl rfl (Nat.le_of_ble_eq_true rfl) ?_
  have S : St w (fun _ => False) w [] [rd eCoalDay 3 A1 c2 a0.CoalBook.Days, rd eCoalDip 3 A4 c5 a0.CoalBook.Dips, mpo ekG iE m7 a0.costs_] := St.start w _ _ (List.forall_mem_cons.2 ⟨h3, (List.forall_mem_cons.2 ⟨h6, (List.forall_mem_cons.2 ⟨h8, (fun _ h_ => (List.not_mem_nil h_).elim)⟩)⟩)⟩)
  refine c_seq ?_
  refine reg ?_
  refine p_boxA rfl S fun b9 w10 S11 => ?_
  refine p_aB rfl ?_
  refine wp_nil ?_
  refine c_seq ?_
  refine c_seq ?_
  refine reg ?_
  refine p_fld fl92_0 rfl ?_
  refine p_fld fl29_6 rfl ?_
  refine p_ld ty27 (S11.atX (i := 0) rfl) rfl rfl ?_
  refine p_len rfl sc27 ?_
  refine p_mI rfl ?_
  refine wp_nil ?_
  refine c_block ?_
  have S12 := S11.pk [] (by decide) [0, 1, 2] rfl rfl
  refine c_lop (α := Int) (β := Unit) (coal_book_right_l1 a0 a1 a2) (fun z_1 y_1 => [(1, I a1), (2, I a2), (11, SL A4 a0.CoalBook.Dips.length c5), (12, I (a0.CoalBook.Dips.length : Int)), (13, I z_1)]) (fun z_1 y_1 w_ => St w (fun _ => False) w_ [] [rd eCoalDay 3 A1 c2 a0.CoalBook.Days, rd eCoalDip 3 A4 c5 a0.CoalBook.Dips, mpo ekG iE m7 a0.costs_]) 0 () H ⟨rfl, rfl, rfl, rfl, rfl, trivial⟩ S12 ?_
  intro m13 z_1 y_1 e14 w15 H S16
  unfold coal_book_right_l1 at H
  refine c_seq ?_
  refine reg ?_
  refine p_cmp rfl rfl rfl ?_
  refine wp_nil ?_
  refine c_seq ?_
  refine c_cond rfl (fun c17 => ?_) (fun c17 => ?_)
  · replace H := condT c17 H
    refine c_skip ?_
    refine c_seq ?_
    refine c_block ?_
    refine c_seq ?_
    refine reg ?_
    obtain ⟨r18, h19, H⟩ := bindS H
    refine p_ixE sc27 h19 (S16.atP (i := 1) rfl).1 rfl rfl rfl ?_
    refine p_ldEA ty67 sz67 rfl h19 (S16.atP (i := 1) rfl).1 rfl ?_
    refine p_allA in67 S16 fun b20 w21 S22 => ?_
    refine p_stP (pre := []) (old := [I 0, I 0, I 0]) (post := []) (vs := [I r18.Day, I r18.Read, I r18.Error]) sz67 S22 (i := 0) rfl rfl rfl rfl (rfl : _ = AG [I r18.Day, I r18.Read, I r18.Error]) rfl rfl rfl rfl fun w23 S24 => ?_
    refine wp_nil ?_
    refine c_seq ?_
    refine reg ?_
    refine p_fld fl67_0 rfl ?_
    refine p_ld ty3 (S24.atX (i := 0) rfl) rfl rfl ?_
    refine p_mI rfl ?_
    refine p_cmp rfl rfl rfl ?_
    refine p_mB rfl ?_
    rcases Bool.eq_false_or_eq_true ((r18.Day == a1)) with c25 | c25
    · replace H := condT c25 H
      refine eB c25 ?_
      refine gT rfl rfl (p_mI rfl ?_)
      refine gT rfl rfl (p_fld fl67_1 rfl ?_)
      refine gT rfl rfl (p_ld ty3 (S24.atX (i := 0) rfl) rfl rfl ?_)
      refine gT rfl rfl (p_sub rfl rfl ?_)
      refine gT rfl rfl (p_fld fl67_2 rfl ?_)
      refine gT rfl rfl (p_ld ty3 (S24.atX (i := 0) rfl) rfl rfl ?_)
      refine gT rfl rfl (p_neg rfl ?_)
      refine gT rfl rfl (p_fld fl67_2 rfl ?_)
      refine gT rfl rfl (p_ld ty3 (S24.atX (i := 0) rfl) rfl rfl ?_)
      obtain ⟨r26, h27, H⟩ := bindS H
      refine gT rfl rfl (p_cv (coal_within_ok h27) fu79 rfl S24 fun w28 S29 => ?_)
      refine gT rfl rfl (p_not rfl ?_)
      refine p_pkT rfl (rfl : _ = B (!r26)) ?_
      refine wp_nil ?_
      refine c_cond rfl (fun c30 => ?_) (fun c30 => ?_)
      · replace H := condT c30 H
        refine c_seq ?_
        refine reg ?_
        refine p_aB rfl ?_
        refine wp_nil ?_
        obtain rfl := Option.some.inj H
        refine c_ret ?_; show bodyPostM (Fr none) 0 Tryd.prog Tryd.f104 _ .ret _ _
        refine ret_of (res1 rfl (rvT (rfl : _ = B false))) ?_
        exact ⟨_, rfl, rfl, S29.keep⟩
      · replace H := condF c30 H
        refine c_skip ?_
        refine reg ?_
        refine p_add rfl rfl ?_
        refine p_mI rfl ?_
        refine wp_nil ?_
        have S31 := S29.pk [] (by decide) [0, 1, 2] rfl rfl
        exact ⟨wr (z_1 + 1), (), _, rfl, ⟨rfl, rfl, rfl, rfl, rfl, trivial⟩, H, S31⟩
    · replace H := condF c25 H
      refine eB c25 ?_
      refine gF rfl rfl ?_
      refine gF rfl rfl ?_
      refine gF rfl rfl ?_
      refine gF rfl rfl ?_
      refine gF rfl rfl ?_
      refine gF rfl rfl ?_
      refine gF rfl rfl ?_
      refine gF rfl rfl ?_
      refine gF rfl rfl ?_
      refine gF rfl rfl ?_
      refine gF rfl rfl ?_
      refine p_pkF rfl (rfl : _ = B false) ?_
      refine wp_nil ?_
      refine c_false rfl ?_
      refine c_skip ?_
      refine reg ?_
      refine p_add rfl rfl ?_
      refine p_mI rfl ?_
      refine wp_nil ?_
      have S32 := S24.pk [] (by decide) [0, 1, 2] rfl rfl
      exact ⟨wr (z_1 + 1), (), _, rfl, ⟨rfl, rfl, rfl, rfl, rfl, trivial⟩, H, S32⟩
  · replace H := condF c17 H
    refine c_exit ?_
    refine c_seq ?_
    refine reg ?_
    refine p_aB rfl ?_
    refine wp_nil ?_
    obtain rfl := Option.some.inj H
    refine c_ret ?_; show bodyPostM (Fr none) 0 Tryd.prog Tryd.f104 _ .ret _ _
    refine ret_of (res1 rfl (rvT (rfl : _ = B true))) ?_
    exact ⟨_, rfl, rfl, S16.keep⟩

def coal_nothing : Option (List Int) :=
  some (List.replicate 2 0)

set_option maxRecDepth 100000 in
theorem coal_nothing_ok {w : World} {r : (List Int)} (H : coal_nothing = some r) : Calls Tryd.prog 110 #[] w (RetV w (AG (sg r 2))) := by
  unfold coal_nothing at H
  refine fn_of (n := 3) Tryd.func110 rfl rfl (Nat.le_of_ble_eq_true rfl) ?_
  have S : St w (fun _ => False) w [] [] := St.start w _ _ (fun _ h_ => (List.not_mem_nil h_).elim)
  refine c_seq ?_
  refine reg ?_
  refine p_allA in105 S fun b1 w2 S3 => ?_
  refine wp_nil ?_
  refine c_seq ?_
  refine reg ?_
  refine p_allA in105 S3 fun b4 w5 S6 => ?_
  refine wp_nil ?_
  refine c_seq ?_
  refine reg ?_
  refine p_ldA ty105 sz105 (S6.atX (i := 0) rfl) rfl rfl ?_
  refine p_stP (pre := []) (old := sg (List.replicate 2 0) 2) (post := []) (vs := sg (List.replicate 2 0) 2) sz105 S6 (i := 1) rfl rfl rfl rfl (rfl : _ = AG (sg (List.replicate 2 0) 2)) rfl rfl rfl rfl fun w7 S8 => ?_
  refine wp_nil ?_
  obtain rfl := Option.some.inj H
  refine c_ret ?_; show bodyPostM (Fr none) 0 Tryd.prog Tryd.f110 _ .ret _ _
  refine ret_of (res1 rfl (rvA rfl ty105 sz105 (S8.atX (i := 1) rfl) rfl)) ?_
  exact ⟨_, rfl, rfl, S8.keep⟩

def coal_sum_int_l1 (a0 : List Int) (rec_z_1 : (Int × Int) → Option Int) (z_1 : Int × Int) : Option Int :=
  bif decide (z_1.2 < (a0.length : Int)) then ((getI a0 z_1.2).bind fun r9 =>
  rec_z_1 (wr (z_1.1 + r9), wr (z_1.2 + 1)))
  else (some z_1.1)

def coal_sum_int (a0 : List Int) : Option Int :=
  loopF (coal_sum_int_l1 a0) big (0, 0)

set_option maxRecDepth 100000 in
theorem coal_sum_int_ok {a0 : List Int} {A1 : Option Addr} {c2 : Nat} {w : World} {r : Int} (H : coal_sum_int a0 = some r) (h3 : (rd intE 1 A1 c2 a0).ok w) : Calls Tryd.prog 111 #[SL A1 a0.length c2] w (RetV w (I r)) := by
  unfold coal_sum_int at H
  refine fn_of (n := 17) Tryd.func111 rfl rfl (Nat.le_of_ble_eq_true rfl) ?_
  have S : St w (fun _ => False) w [] [rd intE 1 A1 c2 a0] := St.start w _ _ (List.forall_mem_cons.2 ⟨h3, (fun _ h_ => (List.not_mem_nil h_).elim)⟩)
  refine c_seq ?_
  refine reg ?_
  refine p_aI rfl ?_
  refine wp_nil ?_
  refine c_seq ?_
  refine reg ?_
  refine p_aI rfl ?_
  refine wp_nil ?_
  refine c_seq ?_
  refine c_seq ?_
  refine reg ?_
  refine p_mS rfl ?_
  refine p_len rfl sc39 ?_
  refine p_mI rfl ?_
  refine wp_nil ?_
  refine c_block ?_
  refine c_lop (α := Int × Int) (β := Unit) (coal_sum_int_l1 a0) (fun z_1 y_1 => [(3, I z_1.1), (6, SL A1 a0.length c2), (7, I (a0.length : Int)), (8, I z_1.2)]) (fun z_1 y_1 w_ => St w (fun _ => False) w_ [] [rd intE 1 A1 c2 a0]) (0, 0) () H ⟨rfl, rfl, rfl, rfl, trivial⟩ S ?_
  intro m4 z_1 y_1 e5 w6 H S7
  unfold coal_sum_int_l1 at H
  refine c_seq ?_
  refine reg ?_
  refine p_cmp rfl rfl rfl ?_
  refine wp_nil ?_
  refine c_seq ?_
  refine c_cond rfl (fun c8 => ?_) (fun c8 => ?_)
  · replace H := condT c8 H
    refine c_skip ?_
    refine c_seq ?_
    refine c_block ?_
    refine c_seq ?_
    refine reg ?_
    obtain ⟨r9, h10, H⟩ := bindS H
    refine p_ixE sc39 h10 (S7.atP (i := 0) rfl).1 rfl rfl rfl ?_
    refine p_ldE ty3 h10 (S7.atP (i := 0) rfl).1 rfl rfl ?_
    refine p_aI rfl ?_
    refine wp_nil ?_
    refine reg ?_
    refine p_mI rfl ?_
    refine p_mI rfl ?_
    refine p_add rfl rfl ?_
    refine p_aI rfl ?_
    refine wp_nil ?_
    refine reg ?_
    refine p_add rfl rfl ?_
    refine p_mI rfl ?_
    refine wp_nil ?_
    exact ⟨(wr (z_1.1 + r9), wr (z_1.2 + 1)), (), _, rfl, ⟨rfl, rfl, rfl, rfl, trivial⟩, H, S7⟩
  · replace H := condF c8 H
    refine c_exit ?_
    refine c_seq ?_
    refine reg ?_
    refine p_mI rfl ?_
    refine p_aI rfl ?_
    refine wp_nil ?_
    obtain rfl := Option.some.inj H
    refine c_ret ?_; show bodyPostM (Fr none) 0 Tryd.prog Tryd.f111 _ .ret _ _
    refine ret_of (res1 rfl (rvT (rfl : _ = I z_1.1))) ?_
    exact ⟨_, rfl, rfl, S7.keep⟩

def coal_book_engines_l1 (a0 : Coal_book) (a1 : Int) (a2 : List Int) (rec_z_1 : ((List Int) × Int) → Option Int) (z_1 : (List Int) × Int) : Option Int :=
  bif decide (z_1.2 < 2) then (need (inI z_1.2 2) <|
  (getI a0.CoalBook.Days a1).bind fun r29 =>
  need (decide (0 ≤ z_1.2)) <|
  bif ((andI (shrI r29.Engines z_1.2) 1) == 1) then ((getI a0.CoalBook.Days a1).bind fun r33 =>
  need (fitsL (z_1.1.length + ([wr ((aget a2 z_1.2) * r33.Crosses)] : List Int).length) 8) <|
  rec_z_1 (z_1.1 ++ ([wr ((aget a2 z_1.2) * r33.Crosses)] : List Int), wr (z_1.2 + 1)))
  else (rec_z_1 (z_1.1, wr (z_1.2 + 1))))
  else ((coal_sum_int z_1.1).bind fun r46 =>
  some r46)

def coal_book_engines (a0 : Coal_book) (a1 : Int) (a2 : List Int) : Option Int :=
  (coal_nothing).bind fun r15 =>
  bif decide (sgl a2 2 = sgl r15 2) then (some 0)
  else (loopF (coal_book_engines_l1 a0 a1 a2) big (([] : List Int), 0))

set_option maxRecDepth 100000 in
theorem coal_book_engines_ok {a0 : Coal_book} {a1 : Int} {a2 : List Int} {A1 : Option Addr} {c2 : Nat} {A4 : Option Addr} {c5 : Nat} {m7 : Option Nat} {w : World} {r : Int} (H : coal_book_engines a0 a1 a2 = some r) (h3 : (rd eCoalDay 3 A1 c2 a0.CoalBook.Days).ok w) (h6 : (rd eCoalDip 3 A4 c5 a0.CoalBook.Dips).ok w) (h8 : (mpo ekG iE m7 a0.costs_).ok w) : Calls Tryd.prog 106 #[AG ([I a0.CoalBook.Heap.Low, I a0.CoalBook.Heap.High] ++ (sgE eSpan a0.CoalBook.Eats 2 ++ (sg a0.CoalBook.Extra 3 ++ [SL A1 a0.CoalBook.Days.length c2, I a0.CoalBook.Collier.Low, I a0.CoalBook.Collier.High, I a0.CoalBook.Brings, SL A4 a0.CoalBook.Dips.length c5, Value.map m7]))), I a1, AG (sg a2 2)] w (RetV w (I r)) := by
  unfold coal_book_engines at H
  refine fn_of (n := 44) Tryd.func106 rfl rfl (Nat.le_of_ble_eq_true rfl) ?_
  have S : St w (fun _ => False) w [] [rd eCoalDay 3 A1 c2 a0.CoalBook.Days, rd eCoalDip 3 A4 c5 a0.CoalBook.Dips, mpo ekG iE m7 a0.costs_] := St.start w _ _ (List.forall_mem_cons.2 ⟨h3, (List.forall_mem_cons.2 ⟨h6, (List.forall_mem_cons.2 ⟨h8, (fun _ h_ => (List.not_mem_nil h_).elim)⟩)⟩)⟩)
  refine c_seq ?_
  refine reg ?_
  refine p_boxA rfl S fun b9 w10 S11 => ?_
  refine p_boxA rfl S11 fun b12 w13 S14 => ?_
  refine p_aI rfl ?_
  refine wp_nil ?_
  refine c_seq ?_
  refine c_seq ?_
  obtain ⟨r15, h16, H⟩ := bindS H
  refine reg_q mixed 3 (by kernel_rfl) ?_
  refine dS (fun _ k_ => p_ldA ty105 sz105 (Asr.stays (S14.atX (i := 0) rfl) k_) rfl rfl dn) ?_
  refine dS (fun _ k_ => p_cvD (coal_nothing_ok h16) fu110 rfl) ?_
  refine dS (fun _ k_ => p_eqS (m := 2) eq105 rfl rfl dn) ?_
  intro w17 k18; have S19 := S14.call k18
  refine wp_nil ?_
  refine c_cond rfl (fun c20 => ?_) (fun c20 => ?_)
  · replace H := condT c20 H
    refine c_seq ?_
    refine reg ?_
    refine p_aI rfl ?_
    refine wp_nil ?_
    obtain rfl := Option.some.inj H
    refine c_ret ?_; show bodyPostM (Fr none) 0 Tryd.prog Tryd.f106 _ .ret _ _
    refine ret_of (res1 rfl (rvT (rfl : _ = I 0))) ?_
    exact ⟨_, rfl, rfl, S19.keep⟩
  · replace H := condF c20 H
    refine c_skip ?_
    refine c_seq ?_
    refine reg ?_
    refine p_aS rfl ?_
    refine wp_nil ?_
    refine c_seq ?_
    refine c_seq ?_
    refine reg ?_
    refine p_ldA ty105 sz105 (S19.atX (i := 0) rfl) rfl rfl ?_
    refine p_mI rfl ?_
    refine wp_nil ?_
    refine c_block ?_
    have S21 := S19.nilRow intE 1 3
    have S22 := S21.pk [0, 2] (by decide) [0, 1, 2] rfl rfl
    refine c_lop (α := (List Int) × Int) (β := (Option Addr) × Nat) (coal_book_engines_l1 a0 a1 a2) (fun z_1 y_1 => [(1, I a1), (3, P b9 0), (7, SL y_1.1 z_1.1.length y_1.2), (13, AG (sg a2 2)), (14, I z_1.2)]) (fun z_1 y_1 w_ => St w (fun _ => False) w_ [gr intE 1 3 y_1.1 y_1.2 z_1.1, bl b9 ([I a0.CoalBook.Heap.Low, I a0.CoalBook.Heap.High] ++ (sgE eSpan a0.CoalBook.Eats 2 ++ (sg a0.CoalBook.Extra 3 ++ [SL A1 a0.CoalBook.Days.length c2, I a0.CoalBook.Collier.Low, I a0.CoalBook.Collier.High, I a0.CoalBook.Brings, SL A4 a0.CoalBook.Dips.length c5, Value.map m7]))) 92] [rd eCoalDay 3 A1 c2 a0.CoalBook.Days, rd eCoalDip 3 A4 c5 a0.CoalBook.Dips, mpo ekG iE m7 a0.costs_]) (([] : List Int), 0) (none, 0) H ⟨rfl, rfl, rfl, rfl, rfl, trivial⟩ S22 ?_
    intro m23 z_1 y_1 e24 w25 H S26
    unfold coal_book_engines_l1 at H
    refine c_seq ?_
    refine reg ?_
    refine p_cmp rfl rfl rfl ?_
    refine wp_nil ?_
    refine c_seq ?_
    refine c_cond rfl (fun c27 => ?_) (fun c27 => ?_)
    · replace H := condT c27 H
      refine c_skip ?_
      refine c_seq ?_
      refine c_block ?_
      refine c_seq ?_
      refine reg ?_
      refine p_mI rfl ?_
      obtain ⟨h28, H⟩ := needS H
      refine p_idxI (l := a2) ae105 sz3 ty3 h28 rfl rfl ?_
      refine p_aI rfl ?_
      refine p_aI rfl ?_
      refine wp_nil ?_
      refine c_seq ?_
      refine reg ?_
      refine p_fld fl92_0 rfl ?_
      refine p_fld fl29_3 rfl ?_
      refine p_ld ty26 (S26.atX (i := 1) rfl) rfl rfl ?_
      refine p_mI rfl ?_
      obtain ⟨r29, h30, H⟩ := bindS H
      refine p_ixE sc26 h30 (S26.atP (i := 0) rfl).1 rfl rfl rfl ?_
      refine p_fldE fl64_1 (sl_here (S26.atP (i := 0) rfl).1 h30) rfl ?_
      refine p_ldE ty3 h30 (S26.atP (i := 0) rfl).1 rfl rfl ?_
      refine p_mI rfl ?_
      obtain ⟨h31, H⟩ := needS H
      refine p_shr h31 rfl rfl ?_
      refine p_andI rfl rfl ?_
      refine p_cmp rfl rfl rfl ?_
      refine wp_nil ?_
      refine c_cond rfl (fun c32 => ?_) (fun c32 => ?_)
      · replace H := condT c32 H
        refine reg ?_
        refine p_mS rfl ?_
        refine p_mI rfl ?_
        refine p_fld fl92_0 rfl ?_
        refine p_fld fl29_3 rfl ?_
        refine p_ld ty26 (S26.atX (i := 1) rfl) rfl rfl ?_
        refine p_mI rfl ?_
        obtain ⟨r33, h34, H⟩ := bindS H
        refine p_ixE sc26 h34 (S26.atP (i := 0) rfl).1 rfl rfl rfl ?_
        refine p_fldE fl64_0 (sl_here (S26.atP (i := 0) rfl).1 h34) rfl ?_
        refine p_ldE ty3 h34 (S26.atP (i := 0) rfl).1 rfl rfl ?_
        refine p_mul rfl rfl ?_
        refine p_bsl (enc := intE) (l := ([wr ((aget a2 z_1.2) * r33.Crosses)] : List Int)) I (fun _ => rfl) sc39 in3 intE_len rfl (by decide) (by decide) zr3_1 S26 rfl fun A35 c36 w37 S38 => ?_
        obtain ⟨h44, H⟩ := needS H
        refine p_app (enc := intE) sc39 in3 rfl intE_len intE_one (by decide) S38 (k := 1) rfl (gr_sl intE_len (S38.atX (i := 0) rfl)) h44 (by simp) rfl rfl fun A42 c43 w40 S41 => ?_
        refine p_aS rfl ?_
        refine wp_nil ?_
        refine reg ?_
        refine p_add rfl rfl ?_
        refine p_mI rfl ?_
        refine wp_nil ?_
        have S45 := S41.pk [1, 2] (by decide) [0, 1, 2] rfl rfl
        exact ⟨(z_1.1 ++ ([wr ((aget a2 z_1.2) * r33.Crosses)] : List Int), wr (z_1.2 + 1)), (A42, c43), _, rfl, ⟨rfl, rfl, rfl, rfl, rfl, trivial⟩, H, S45⟩
      · replace H := condF c32 H
        refine c_skip ?_
        refine reg ?_
        refine p_add rfl rfl ?_
        refine p_mI rfl ?_
        refine wp_nil ?_
        exact ⟨(z_1.1, wr (z_1.2 + 1)), (y_1.1, y_1.2), _, rfl, ⟨rfl, rfl, rfl, rfl, rfl, trivial⟩, H, S26⟩
    · replace H := condF c27 H
      refine c_exit ?_
      refine c_seq ?_
      refine reg ?_
      refine p_mS rfl ?_
      obtain ⟨r46, h47, H⟩ := bindS H
      refine p_cv (coal_sum_int_ok h47 (gr_rd intE_len (S26.atX (i := 0) rfl))) fu111 rfl S26 fun w48 S49 => ?_
      refine p_aI rfl ?_
      refine wp_nil ?_
      obtain rfl := Option.some.inj H
      refine c_ret ?_; show bodyPostM (Fr none) 0 Tryd.prog Tryd.f106 _ .ret _ _
      refine ret_of (res1 rfl (rvT (rfl : _ = I r46))) ?_
      exact ⟨_, rfl, rfl, S49.keep⟩

structure Coal_truth where
  eats_ : List Int
  collier_ : Int
  winds_ : List Int
  coal_ : List Int
  deriving DecidableEq, Inhabited

def yE1 (x : Coal_truth) : List Value := [AG (sg x.eats_ 2 ++ ([I x.collier_] ++ (sg x.winds_ 6 ++ sg x.coal_ 6)))]

def coal_book_blown_1_1_j4 {σ : Type} (rec_z_2 : (Int × (List Int) × (List Int) × σ) → Option (Bool × σ)) (z_2 : Int × (List Int) × (List Int) × σ) (q2 : Coal_book) (a1 : Int) (z_1 : Int) (r37 : Int) (rec_ : Coal_truth → Int → Int → σ → Option (Bool × σ)) (a0 : Coal_truth) (z_3 : Int × Bool) : Option (Bool × σ) :=
  bif !z_3.2 then (rec_z_2 (wr (z_2.1 + 1), z_2.2.1, z_2.2.2.1, z_2.2.2.2))
  else ((coal_book_right q2 a1 (wr ((wr (z_1 - r37)) - z_3.1))).bind fun r50 =>
  bif !r50 then (rec_z_2 (wr (z_2.1 + 1), z_2.2.1, z_2.2.2.1, z_2.2.2.2))
  else (need (inI a1 6) <|
  need (inI a1 6) <|
  (rec_ (Coal_truth.mk a0.eats_ a0.collier_ (aset z_2.2.1 6 a1 z_2.1) (aset z_2.2.2.1 6 a1 (wr ((wr (z_1 - r37)) - z_3.1)))) (wr (a1 + 1)) (wr ((wr (z_1 - r37)) - z_3.1)) z_2.2.2.2).bind fun r61 =>
  bif !r61.1 then (some (false, r61.2))
  else (rec_z_2 (wr (z_2.1 + 1), aset z_2.2.1 6 a1 z_2.1, aset z_2.2.2.1 6 a1 (wr ((wr (z_1 - r37)) - z_3.1)), r61.2))))

def coal_book_blown_1_1_l5 {σ : Type} (q0 : Coal_book) (a1 : Int) (q2 : Coal_book) (z_1 : Int) (r37 : Int) (rec_ : Coal_truth → Int → Int → σ → Option (Bool × σ)) (a0 : Coal_truth) (rec_z_2 : (Int × (List Int) × (List Int) × σ) → Option (Bool × σ)) (z_2 : Int × (List Int) × (List Int) × σ) : Option (Bool × σ) :=
  bif decide (z_2.1 < 3) then (optC (lookL q0.costs_ (Coal_gust.mk a1 z_2.1)) (fun v46 => coal_book_blown_1_1_j4 rec_z_2 z_2 q2 a1 z_1 r37 rec_ a0 (v46, true)) (coal_book_blown_1_1_j4 rec_z_2 z_2 q2 a1 z_1 r37 rec_ a0 (0, false)))
  else (some (true, z_2.2.2.2))

def coal_book_blown_1_1_j6 {σ : Type} (q0 : Coal_book) (a1 : Int) (a0 : Coal_truth) (q2 : Coal_book) (rec_ : Coal_truth → Int → Int → σ → Option (Bool × σ)) (s_ : σ) (z_1 : Int) : Option (Bool × σ) :=
  (coal_book_engines q0 a1 a0.eats_).bind fun r37 =>
  loopF (coal_book_blown_1_1_l5 q0 a1 q2 z_1 r37 rec_ a0) big (0, a0.winds_, a0.coal_, s_)

def coal_book_blown_1_1_F {σ : Type} (rec_ : Coal_truth → Int → Int → σ → Option (Bool × σ)) (a0 : Coal_truth) (a1 : Int) (a2 : Int) (s_ : σ) (q0 : Coal_book) (q2 : Coal_book) (yv : Coal_truth → σ → Option (Bool × σ)) : Option (Bool × σ) :=
  bif (a1 == (q0.CoalBook.Days.length : Int)) then ((yv a0 s_).bind fun r29 =>
  some (r29.1, r29.2))
  else (bif (a0.collier_ == a1) then (coal_book_blown_1_1_j6 q0 a1 a0 q2 rec_ s_ (wr (a2 + q0.CoalBook.Brings)))
  else (coal_book_blown_1_1_j6 q0 a1 a0 q2 rec_ s_ a2))

def coal_book_blown_1_1 {σ : Type} : Nat → Coal_truth → Int → Int → σ → Coal_book → Coal_book → (Coal_truth → σ → Option (Bool × σ)) → Option (Bool × σ)
  | 0, _, _, _, _, _, _, _ => none
  | n + 1, a0, a1, a2, s_, q0, q2, yv => coal_book_blown_1_1_F (fun x0_ x1_ x2_ x3_ => coal_book_blown_1_1 n x0_ x1_ x2_ x3_ q0 q2 yv) a0 a1 a2 s_ q0 q2 yv

set_option maxRecDepth 100000 in
theorem coal_book_blown_1_1_ok {σ : Type} {l_ : Nat} {G_ : σ → Asr → Prop} {wb_ : World} {C0_ : Nat → Prop} {n : Nat} : ∀ {A_ : Asr} {a0 : Coal_truth} {a1 : Int} {a2 : Int} {s_ : σ} {q0 : Coal_book} {q2 : Coal_book} {yv : Coal_truth → σ → Option (Bool × σ)} {b1 : Nat} {A5 : Option Addr} {c6 : Nat} {A8 : Option Addr} {c9 : Nat} {m11 : Option Nat} {b2 : Nat} {b3 : Nat} {A15 : Option Addr} {c16 : Nat} {A18 : Option Addr} {c19 : Nat} {m21 : Option Nat} {b4 : Nat} {w : World} {r : Bool × σ} (H : coal_book_blown_1_1 n a0 a1 a2 s_ q0 q2 yv = some r) (hG_ : (ga G_ s_ A_).ok w) (h24 : (bl b4 [Value.func (.func 105) #[] #[P b1 0, P b2 0, P b3 0, P b4 0]] 130).ok w) (h23 : (bl b3 [Value.func (.func 104) #[AG ([I q2.CoalBook.Heap.Low, I q2.CoalBook.Heap.High] ++ (sgE eSpan q2.CoalBook.Eats 2 ++ (sg q2.CoalBook.Extra 3 ++ [SL A15 q2.CoalBook.Days.length c16, I q2.CoalBook.Collier.Low, I q2.CoalBook.Collier.High, I q2.CoalBook.Brings, SL A18 q2.CoalBook.Dips.length c19, Value.map m21])))] #[]] 56).ok w) (h14 : (bl b2 [Value.func (.yield l_) #[] #[]] 124).ok w) (h13 : (bl b1 ([I q0.CoalBook.Heap.Low, I q0.CoalBook.Heap.High] ++ (sgE eSpan q0.CoalBook.Eats 2 ++ (sg q0.CoalBook.Extra 3 ++ [SL A5 q0.CoalBook.Days.length c6, I q0.CoalBook.Collier.Low, I q0.CoalBook.Collier.High, I q0.CoalBook.Brings, SL A8 q0.CoalBook.Dips.length c9, Value.map m11]))) 92).ok w) (h7 : (rd eCoalDay 3 A5 c6 q0.CoalBook.Days).ok w) (h10 : (rd eCoalDip 3 A8 c9 q0.CoalBook.Dips).ok w) (h12 : (mpo ekG iE m11 q0.costs_).ok w) (h17 : (rd eCoalDay 3 A15 c16 q2.CoalBook.Days).ok w) (h20 : (rd eCoalDip 3 A18 c19 q2.CoalBook.Dips).ok w) (h22 : (mpo ekG iE m21 q2.costs_).ok w) (hd_ : ∀ p ∈ ([bl b4 [Value.func (.func 105) #[] #[P b1 0, P b2 0, P b3 0, P b4 0]] 130, bl b3 [Value.func (.func 104) #[AG ([I q2.CoalBook.Heap.Low, I q2.CoalBook.Heap.High] ++ (sgE eSpan q2.CoalBook.Eats 2 ++ (sg q2.CoalBook.Extra 3 ++ [SL A15 q2.CoalBook.Days.length c16, I q2.CoalBook.Collier.Low, I q2.CoalBook.Collier.High, I q2.CoalBook.Brings, SL A18 q2.CoalBook.Dips.length c19, Value.map m21])))] #[]] 56, bl b2 [Value.func (.yield l_) #[] #[]] 124, bl b1 ([I q0.CoalBook.Heap.Low, I q0.CoalBook.Heap.High] ++ (sgE eSpan q0.CoalBook.Eats 2 ++ (sg q0.CoalBook.Extra 3 ++ [SL A5 q0.CoalBook.Days.length c6, I q0.CoalBook.Collier.Low, I q0.CoalBook.Collier.High, I q0.CoalBook.Brings, SL A8 q0.CoalBook.Dips.length c9, Value.map m11]))) 92, rd eCoalDay 3 A5 c6 q0.CoalBook.Days, rd eCoalDip 3 A8 c9 q0.CoalBook.Dips, mpo ekG iE m11 q0.costs_, rd eCoalDay 3 A15 c16 q2.CoalBook.Days, rd eCoalDip 3 A18 c19 q2.CoalBook.Dips, mpo ekG iE m21 q2.costs_] : List Asr), ∀ b, p.fp b → ¬ A_.fp b) (hy_ : YH Tryd.prog l_ yE1 yv G_ wb_ C0_) (hl_ : Link wb_ C0_ w A_.fp), Calls Tryd.prog 105 #[AG (sg a0.eats_ 2 ++ ([I a0.collier_] ++ (sg a0.winds_ 6 ++ sg a0.coal_ 6))), I a1, I a2, P b1 0, P b2 0, P b3 0, P b4 0] w (fun en w_ => ∃ u_, en = .returned u_ ∧ ∃ A'_ : Asr, u_ = B r.1 ∧ Keep A_.fp w w_ ∧ (ga G_ r.2 A'_).ok w_ ∧ (∀ b_, A'_.fp b_ → A_.fp b_ ∨ w.heap.size ≤ b_)) := by
  induction n with
  | zero => intro A_ a0 a1 a2 s_ q0 q2 yv b1 A5 c6 A8 c9 m11 b2 b3 A15 c16 A18 c19 m21 b4 w r H hG_ h24 h23 h14 h13 h7 h10 h12 h17 h20 h22 hd_ hy_ hl_; cases H
  | succ n ih =>
  intro A_ a0 a1 a2 s_ q0 q2 yv b1 A5 c6 A8 c9 m11 b2 b3 A15 c16 A18 c19 m21 b4 w r H hG_ h24 h23 h14 h13 h7 h10 h12 h17 h20 h22 hd_ hy_ hl_
  unfold coal_book_blown_1_1 coal_book_blown_1_1_F at H
  refine fn_of (n := 82) Tryd.func105 rfl rfl (Nat.le_of_ble_eq_true rfl) ?_
  have S : St w A_.fp w [ga G_ s_ A_] [bl b4 [Value.func (.func 105) #[] #[P b1 0, P b2 0, P b3 0, P b4 0]] 130, bl b3 [Value.func (.func 104) #[AG ([I q2.CoalBook.Heap.Low, I q2.CoalBook.Heap.High] ++ (sgE eSpan q2.CoalBook.Eats 2 ++ (sg q2.CoalBook.Extra 3 ++ [SL A15 q2.CoalBook.Days.length c16, I q2.CoalBook.Collier.Low, I q2.CoalBook.Collier.High, I q2.CoalBook.Brings, SL A18 q2.CoalBook.Dips.length c19, Value.map m21])))] #[]] 56, bl b2 [Value.func (.yield l_) #[] #[]] 124, bl b1 ([I q0.CoalBook.Heap.Low, I q0.CoalBook.Heap.High] ++ (sgE eSpan q0.CoalBook.Eats 2 ++ (sg q0.CoalBook.Extra 3 ++ [SL A5 q0.CoalBook.Days.length c6, I q0.CoalBook.Collier.Low, I q0.CoalBook.Collier.High, I q0.CoalBook.Brings, SL A8 q0.CoalBook.Dips.length c9, Value.map m11]))) 92, rd eCoalDay 3 A5 c6 q0.CoalBook.Days, rd eCoalDip 3 A8 c9 q0.CoalBook.Dips, mpo ekG iE m11 q0.costs_, rd eCoalDay 3 A15 c16 q2.CoalBook.Days, rd eCoalDip 3 A18 c19 q2.CoalBook.Dips, mpo ekG iE m21 q2.costs_] := St.startX (ga G_ s_ A_) hG_ (List.forall_mem_cons.2 ⟨h24, (List.forall_mem_cons.2 ⟨h23, (List.forall_mem_cons.2 ⟨h14, (List.forall_mem_cons.2 ⟨h13, (List.forall_mem_cons.2 ⟨h7, (List.forall_mem_cons.2 ⟨h10, (List.forall_mem_cons.2 ⟨h12, (List.forall_mem_cons.2 ⟨h17, (List.forall_mem_cons.2 ⟨h20, (List.forall_mem_cons.2 ⟨h22, (fun _ h_ => (List.not_mem_nil h_).elim)⟩)⟩)⟩)⟩)⟩)⟩)⟩)⟩)⟩)⟩) hd_
  refine c_seq ?_
  refine reg ?_
  refine p_boxA rfl S fun b25 w26 S27 => ?_
  refine p_aB rfl ?_
  refine wp_nil ?_
  refine c_scope ?_
  refine c_seq ?_
  refine c_seq ?_
  refine reg ?_
  refine p_mI rfl ?_
  refine p_fld fl92_0 rfl ?_
  refine p_fld fl29_3 rfl ?_
  refine p_ld ty26 (S27.atP (i := 3) rfl) rfl rfl ?_
  refine p_len rfl sc26 ?_
  refine p_cmp rfl rfl rfl ?_
  refine wp_nil ?_
  refine c_cond rfl (fun c28 => ?_) (fun c28 => ?_)
  · replace H := condT c28 H
    refine c_seq ?_
    refine reg ?_
    refine p_ld ty124 (S27.atP (i := 2) rfl) rfl rfl ?_
    refine p_ldA ty108 sz108 (S27.atX (i := 0) rfl) rfl rfl ?_
    obtain ⟨r29, h30, H⟩ := bindS H
    refine o_yieldG (x := a0) (b := r29.1) (s2 := r29.2) h30 hy_ hl_ S27 (j := 1) rfl (rfl : _ = Value.func (.yield l_) #[] #[]) rfl fun A31 w32 S33 => ?_
    refine p_aB rfl ?_
    refine wp_nil ?_
    obtain rfl := Option.some.inj H
    refine c_ret ?_; show bodyPostM (Fr none) 0 Tryd.prog Tryd.f105 _ .ret _ _
    refine ret_of (res1 rfl (rvT (rfl : _ = B r29.1))) ?_
    exact ⟨_, rfl, _, rfl, S33.keep, S33.atX (i := 1) rfl, fun b_ h_ => (S33.own _ (List.mem_of_getElem? (i := 1) rfl) b_ h_).symm⟩
  · replace H := condF c28 H
    refine c_skip ?_
    refine c_join (α := Int) (β := Unit) (fun z_1 y_1 => [(1, I a1), (2, I z_1), (3, P b1 0), (5, P b3 0), (6, P b4 0), (7, P b25 0)]) (fun z_1 y_1 w_ => coal_book_blown_1_1_j6 q0 a1 a0 q2 (fun x0_ x1_ x2_ x3_ => coal_book_blown_1_1 n x0_ x1_ x2_ x3_ q0 q2 yv) s_ z_1 = some r ∧ St w A_.fp w_ [bl b25 (sg a0.eats_ 2 ++ ([I a0.collier_] ++ (sg a0.winds_ 6 ++ sg a0.coal_ 6))) 108, ga G_ s_ A_] [bl b4 [Value.func (.func 105) #[] #[P b1 0, P b2 0, P b3 0, P b4 0]] 130, bl b3 [Value.func (.func 104) #[AG ([I q2.CoalBook.Heap.Low, I q2.CoalBook.Heap.High] ++ (sgE eSpan q2.CoalBook.Eats 2 ++ (sg q2.CoalBook.Extra 3 ++ [SL A15 q2.CoalBook.Days.length c16, I q2.CoalBook.Collier.Low, I q2.CoalBook.Collier.High, I q2.CoalBook.Brings, SL A18 q2.CoalBook.Dips.length c19, Value.map m21])))] #[]] 56, bl b2 [Value.func (.yield l_) #[] #[]] 124, bl b1 ([I q0.CoalBook.Heap.Low, I q0.CoalBook.Heap.High] ++ (sgE eSpan q0.CoalBook.Eats 2 ++ (sg q0.CoalBook.Extra 3 ++ [SL A5 q0.CoalBook.Days.length c6, I q0.CoalBook.Collier.Low, I q0.CoalBook.Collier.High, I q0.CoalBook.Brings, SL A8 q0.CoalBook.Dips.length c9, Value.map m11]))) 92, rd eCoalDay 3 A5 c6 q0.CoalBook.Days, rd eCoalDip 3 A8 c9 q0.CoalBook.Dips, mpo ekG iE m11 q0.costs_, rd eCoalDay 3 A15 c16 q2.CoalBook.Days, rd eCoalDip 3 A18 c19 q2.CoalBook.Dips, mpo ekG iE m21 q2.costs_]) ?_ ?_
    · refine c_seq ?_
      refine reg ?_
      refine p_fld fl108_1 rfl ?_
      refine p_ld ty3 (S27.atX (i := 0) rfl) rfl rfl ?_
      refine p_mI rfl ?_
      refine p_cmp rfl rfl rfl ?_
      refine wp_nil ?_
      refine c_cond rfl (fun c34 => ?_) (fun c34 => ?_)
      · replace H := condT c34 H
        refine reg ?_
        refine p_mI rfl ?_
        refine p_fld fl92_0 rfl ?_
        refine p_fld fl29_5 rfl ?_
        refine p_ld ty3 (S27.atP (i := 3) rfl) rfl rfl ?_
        refine p_add rfl rfl ?_
        refine p_aI rfl ?_
        refine wp_nil ?_
        exact ⟨wr (a2 + q0.CoalBook.Brings), (), _, rfl, ⟨rfl, rfl, rfl, rfl, rfl, rfl, trivial⟩, H, S27⟩
      · replace H := condF c34 H
        refine c_skip ?_
        exact ⟨a2, (), _, rfl, ⟨rfl, rfl, rfl, rfl, rfl, rfl, trivial⟩, H, S27⟩
    · intro z_1 y_1 e34 w35 S36; obtain ⟨H, S36⟩ := S36
      unfold coal_book_blown_1_1_j6 at H
      refine c_seq ?_
      refine reg ?_
      refine p_mI rfl ?_
      refine p_ldA ty92 sz92 (S36.atP (i := 3) rfl) rfl rfl ?_
      refine p_mI rfl ?_
      refine p_fld fl108_0 rfl ?_
      refine p_ldP (vs := sg a0.eats_ 2) ty105 sz105 (S36.atX (i := 0) rfl) rfl rfl rfl ?_
      obtain ⟨r37, h38, H⟩ := bindS H
      refine p_cv (coal_book_engines_ok h38 (S36.atP (i := 4) rfl) (S36.atP (i := 5) rfl) (S36.atP (i := 6) rfl)) fu106 rfl S36 fun w39 S40 => ?_
      refine p_sub rfl rfl ?_
      refine p_aI rfl ?_
      refine wp_nil ?_
      refine c_seq ?_
      refine c_label ?_
      refine c_seq ?_
      refine c_seq ?_
      refine reg ?_
      refine p_mI rfl ?_
      refine wp_nil ?_
      refine c_block ?_
      refine c_lop (α := Int × (List Int) × (List Int) × σ) (β := Asr) (coal_book_blown_1_1_l5 q0 a1 q2 z_1 r37 (fun x0_ x1_ x2_ x3_ => coal_book_blown_1_1 n x0_ x1_ x2_ x3_ q0 q2 yv) a0) (fun z_2 y_2 => [(1, I a1), (2, I (wr (z_1 - r37))), (3, P b1 0), (5, P b3 0), (6, P b4 0), (7, P b25 0), (39, I z_2.1)]) (fun z_2 y_2 w_ => St w A_.fp w_ [bl b25 (sg a0.eats_ 2 ++ ([I a0.collier_] ++ (sg z_2.2.1 6 ++ sg z_2.2.2.1 6))) 108, ga G_ z_2.2.2.2 y_2] [bl b4 [Value.func (.func 105) #[] #[P b1 0, P b2 0, P b3 0, P b4 0]] 130, bl b3 [Value.func (.func 104) #[AG ([I q2.CoalBook.Heap.Low, I q2.CoalBook.Heap.High] ++ (sgE eSpan q2.CoalBook.Eats 2 ++ (sg q2.CoalBook.Extra 3 ++ [SL A15 q2.CoalBook.Days.length c16, I q2.CoalBook.Collier.Low, I q2.CoalBook.Collier.High, I q2.CoalBook.Brings, SL A18 q2.CoalBook.Dips.length c19, Value.map m21])))] #[]] 56, bl b2 [Value.func (.yield l_) #[] #[]] 124, bl b1 ([I q0.CoalBook.Heap.Low, I q0.CoalBook.Heap.High] ++ (sgE eSpan q0.CoalBook.Eats 2 ++ (sg q0.CoalBook.Extra 3 ++ [SL A5 q0.CoalBook.Days.length c6, I q0.CoalBook.Collier.Low, I q0.CoalBook.Collier.High, I q0.CoalBook.Brings, SL A8 q0.CoalBook.Dips.length c9, Value.map m11]))) 92, rd eCoalDay 3 A5 c6 q0.CoalBook.Days, rd eCoalDip 3 A8 c9 q0.CoalBook.Dips, mpo ekG iE m11 q0.costs_, rd eCoalDay 3 A15 c16 q2.CoalBook.Days, rd eCoalDip 3 A18 c19 q2.CoalBook.Dips, mpo ekG iE m21 q2.costs_]) (0, a0.winds_, a0.coal_, s_) A_ H ⟨rfl, rfl, rfl, rfl, rfl, rfl, rfl, trivial⟩ S40 ?_
      intro m41 z_2 y_2 e42 w43 H S44
      unfold coal_book_blown_1_1_l5 at H
      refine c_seq ?_
      refine reg ?_
      refine p_cmp rfl rfl rfl ?_
      refine wp_nil ?_
      refine c_seq ?_
      refine c_cond rfl (fun c45 => ?_) (fun c45 => ?_)
      · replace H := condT c45 H
        refine c_skip ?_
        refine c_seq ?_
        refine c_block ?_
        refine c_seq ?_
        refine reg ?_
        refine p_mI rfl ?_
        refine p_aI rfl ?_
        refine wp_nil ?_
        refine c_join (α := Int × Bool) (β := Unit) (fun z_3 y_3 => [(1, I a1), (2, I (wr (z_1 - r37))), (3, P b1 0), (5, P b3 0), (6, P b4 0), (7, P b25 0), (11, I z_2.1), (12, I z_3.1), (13, B z_3.2), (39, I z_2.1)]) (fun z_3 y_3 w_ => coal_book_blown_1_1_j4 (loopF (coal_book_blown_1_1_l5 q0 a1 q2 z_1 r37 (fun x0_ x1_ x2_ x3_ => coal_book_blown_1_1 n x0_ x1_ x2_ x3_ q0 q2 yv) a0) m41) z_2 q2 a1 z_1 r37 (fun x0_ x1_ x2_ x3_ => coal_book_blown_1_1 n x0_ x1_ x2_ x3_ q0 q2 yv) a0 z_3 = some r ∧ St w A_.fp w_ [bl b25 (sg a0.eats_ 2 ++ ([I a0.collier_] ++ (sg z_2.2.1 6 ++ sg z_2.2.2.1 6))) 108, ga G_ z_2.2.2.2 y_2] [bl b4 [Value.func (.func 105) #[] #[P b1 0, P b2 0, P b3 0, P b4 0]] 130, bl b3 [Value.func (.func 104) #[AG ([I q2.CoalBook.Heap.Low, I q2.CoalBook.Heap.High] ++ (sgE eSpan q2.CoalBook.Eats 2 ++ (sg q2.CoalBook.Extra 3 ++ [SL A15 q2.CoalBook.Days.length c16, I q2.CoalBook.Collier.Low, I q2.CoalBook.Collier.High, I q2.CoalBook.Brings, SL A18 q2.CoalBook.Dips.length c19, Value.map m21])))] #[]] 56, bl b2 [Value.func (.yield l_) #[] #[]] 124, bl b1 ([I q0.CoalBook.Heap.Low, I q0.CoalBook.Heap.High] ++ (sgE eSpan q0.CoalBook.Eats 2 ++ (sg q0.CoalBook.Extra 3 ++ [SL A5 q0.CoalBook.Days.length c6, I q0.CoalBook.Collier.Low, I q0.CoalBook.Collier.High, I q0.CoalBook.Brings, SL A8 q0.CoalBook.Dips.length c9, Value.map m11]))) 92, rd eCoalDay 3 A5 c6 q0.CoalBook.Days, rd eCoalDip 3 A8 c9 q0.CoalBook.Dips, mpo ekG iE m11 q0.costs_, rd eCoalDay 3 A15 c16 q2.CoalBook.Days, rd eCoalDip 3 A18 c19 q2.CoalBook.Dips, mpo ekG iE m21 q2.costs_]) ?_ ?_
        · refine reg ?_
          refine p_fld fl92_1 rfl ?_
          refine p_ld ty90 (S44.atP (i := 3) rfl) rfl rfl ?_
          refine p_mI rfl ?_
          refine p_mI rfl ?_
          refine p_bld (cs := [I a1, I z_2.1]) st123 (rfl : _ = [(0, I a1), (1, I z_2.1)]) (by kernel_rfl) ?_
          refine p_lookO (a := (Coal_gust.mk a1 z_2.1)) mt90 keyG in3 (S44.atP (i := 6) rfl) rfl rfl (fun v46 c47 => ?_) (fun c47 => ?_)
          · replace H := optS c47 H
            refine p_mT rfl ?_
            refine p_ext rfl rfl ?_
            refine p_ext rfl rfl ?_
            refine p_aI rfl ?_
            refine p_aB rfl ?_
            refine wp_nil ?_
            exact ⟨(v46, true), (), _, rfl, ⟨rfl, rfl, rfl, rfl, rfl, rfl, rfl, rfl, rfl, rfl, trivial⟩, H, S44⟩
          · replace H := optN c47 H
            refine p_mT rfl ?_
            refine p_ext rfl rfl ?_
            refine p_ext rfl rfl ?_
            refine p_aI rfl ?_
            refine p_aB rfl ?_
            refine wp_nil ?_
            exact ⟨(0, false), (), _, rfl, ⟨rfl, rfl, rfl, rfl, rfl, rfl, rfl, rfl, rfl, rfl, trivial⟩, H, S44⟩
        · intro z_3 y_3 e46 w47 S48; obtain ⟨H, S48⟩ := S48
          unfold coal_book_blown_1_1_j4 at H
          refine c_seq ?_
          refine c_seq ?_
          refine reg ?_
          refine p_mB rfl ?_
          refine p_not rfl ?_
          refine p_mB rfl ?_
          rcases Bool.eq_false_or_eq_true (!z_3.2) with c49 | c49
          · replace H := condT c49 H
            refine eB c49 ?_
            refine gF rfl rfl ?_
            refine gF rfl rfl ?_
            refine gF rfl rfl ?_
            refine gF rfl rfl ?_
            refine gF rfl rfl ?_
            refine gF rfl rfl ?_
            refine gF rfl rfl ?_
            refine p_pkT rfl (rfl : _ = B true) ?_
            refine wp_nil ?_
            refine c_true rfl ?_
            refine c_exit ?_
            refine reg ?_
            refine p_add rfl rfl ?_
            refine p_mI rfl ?_
            refine wp_nil ?_
            exact ⟨(wr (z_2.1 + 1), z_2.2.1, z_2.2.2.1, z_2.2.2.2), y_2, _, rfl, ⟨rfl, rfl, rfl, rfl, rfl, rfl, rfl, trivial⟩, H, S48⟩
          · replace H := condF c49 H
            refine eB c49 ?_
            refine gT rfl rfl (p_ld ty56 (S48.atP (i := 1) rfl) rfl rfl ?_)
            refine gT rfl rfl (p_mI rfl ?_)
            refine gT rfl rfl (p_mI rfl ?_)
            refine gT rfl rfl (p_mI rfl ?_)
            refine gT rfl rfl (p_sub rfl rfl ?_)
            obtain ⟨r50, h51, H⟩ := bindS H
            refine gT rfl rfl (p_cv (coal_book_right_ok h51 (S48.atP (i := 7) rfl) (S48.atP (i := 8) rfl) (S48.atP (i := 9) rfl)) fu104 rfl S48 fun w52 S53 => ?_)
            refine gT rfl rfl (p_not rfl ?_)
            refine p_pkF rfl (rfl : _ = B (!r50)) ?_
            refine wp_nil ?_
            refine c_cond rfl (fun c54 => ?_) (fun c54 => ?_)
            · replace H := condT c54 H
              refine c_exit ?_
              refine reg ?_
              refine p_add rfl rfl ?_
              refine p_mI rfl ?_
              refine wp_nil ?_
              exact ⟨(wr (z_2.1 + 1), z_2.2.1, z_2.2.2.1, z_2.2.2.2), y_2, _, rfl, ⟨rfl, rfl, rfl, rfl, rfl, rfl, rfl, trivial⟩, H, S53⟩
            · replace H := condF c54 H
              refine c_skip ?_
              refine c_seq ?_
              refine reg ?_
              refine p_mI rfl ?_
              refine p_mI rfl ?_
              refine p_mI rfl ?_
              refine p_mI rfl ?_
              refine p_mI rfl ?_
              refine p_sub rfl rfl ?_
              refine p_fld fl108_2 rfl ?_
              obtain ⟨h55, H⟩ := needS H
              refine p_ixD ar106 h55 rfl rfl ?_
              refine p_stD (pre := sg a0.eats_ 2 ++ [I a0.collier_]) (post := sg z_2.2.2.1 6) sz3 S53 (i := 0) rfl rfl h55 rfl rfl rfl fun w56 S57 => ?_
              refine p_fld fl108_3 rfl ?_
              obtain ⟨h58, H⟩ := needS H
              refine p_ixD ar106 h58 rfl rfl ?_
              refine p_stD (pre := sg a0.eats_ 2 ++ ([I a0.collier_] ++ sg (aset z_2.2.1 6 a1 z_2.1) 6)) (post := []) sz3 S57 (i := 0) rfl rfl h58 rfl rfl rfl fun w59 S60 => ?_
              refine wp_nil ?_
              refine c_seq ?_
              refine reg ?_
              refine p_ld ty130 (S60.atP (i := 0) rfl) rfl rfl ?_
              refine p_ldA ty108 sz108 (S60.atX (i := 0) rfl) rfl rfl ?_
              refine p_mI rfl ?_
              refine p_add rfl rfl ?_
              refine p_mI rfl ?_
              refine p_mI rfl ?_
              refine p_sub rfl rfl ?_
              obtain ⟨r61, h62, H⟩ := bindS H
              refine p_cal (ih h62 (S60.atX (i := 1) rfl) (S60.atP (i := 0) rfl) (S60.atP (i := 1) rfl) (S60.atP (i := 2) rfl) (S60.atP (i := 3) rfl) (S60.atP (i := 4) rfl) (S60.atP (i := 5) rfl) (S60.atP (i := 6) rfl) (S60.atP (i := 7) rfl) (S60.atP (i := 8) rfl) (S60.atP (i := 9) rfl) (List.forall_mem_cons.2 ⟨fun b_ h1_ h2_ => ((fp_mem (i := 0) rfl) b_ h1_).elim fun q_ hq_ => (S60.apart (j := 1) rfl (fun _ h_ => h_)) q_ hq_.1 b_ hq_.2 h2_, (List.forall_mem_cons.2 ⟨fun b_ h1_ h2_ => ((fp_mem (i := 1) rfl) b_ h1_).elim fun q_ hq_ => (S60.apart (j := 1) rfl (fun _ h_ => h_)) q_ hq_.1 b_ hq_.2 h2_, (List.forall_mem_cons.2 ⟨fun b_ h1_ h2_ => ((fp_mem (i := 2) rfl) b_ h1_).elim fun q_ hq_ => (S60.apart (j := 1) rfl (fun _ h_ => h_)) q_ hq_.1 b_ hq_.2 h2_, (List.forall_mem_cons.2 ⟨fun b_ h1_ h2_ => ((fp_mem (i := 3) rfl) b_ h1_).elim fun q_ hq_ => (S60.apart (j := 1) rfl (fun _ h_ => h_)) q_ hq_.1 b_ hq_.2 h2_, (List.forall_mem_cons.2 ⟨fun b_ h1_ h2_ => ((fp_mem (i := 4) rfl) b_ h1_).elim fun q_ hq_ => (S60.apart (j := 1) rfl (fun _ h_ => h_)) q_ hq_.1 b_ hq_.2 h2_, (List.forall_mem_cons.2 ⟨fun b_ h1_ h2_ => ((fp_mem (i := 5) rfl) b_ h1_).elim fun q_ hq_ => (S60.apart (j := 1) rfl (fun _ h_ => h_)) q_ hq_.1 b_ hq_.2 h2_, (List.forall_mem_cons.2 ⟨fun b_ h1_ h2_ => ((fp_mem (i := 6) rfl) b_ h1_).elim fun q_ hq_ => (S60.apart (j := 1) rfl (fun _ h_ => h_)) q_ hq_.1 b_ hq_.2 h2_, (List.forall_mem_cons.2 ⟨fun b_ h1_ h2_ => ((fp_mem (i := 7) rfl) b_ h1_).elim fun q_ hq_ => (S60.apart (j := 1) rfl (fun _ h_ => h_)) q_ hq_.1 b_ hq_.2 h2_, (List.forall_mem_cons.2 ⟨fun b_ h1_ h2_ => ((fp_mem (i := 8) rfl) b_ h1_).elim fun q_ hq_ => (S60.apart (j := 1) rfl (fun _ h_ => h_)) q_ hq_.1 b_ hq_.2 h2_, (List.forall_mem_cons.2 ⟨fun b_ h1_ h2_ => ((fp_mem (i := 9) rfl) b_ h1_).elim fun q_ hq_ => (S60.apart (j := 1) rfl (fun _ h_ => h_)) q_ hq_.1 b_ hq_.2 h2_, (fun _ h_ => (List.not_mem_nil h_).elim)⟩)⟩)⟩)⟩)⟩)⟩)⟩)⟩)⟩)⟩) hy_ (S60.link (j := 1) rfl hl_)) fu105 rfl ?_
              rintro _ w63 ⟨A65, rfl, k64, o66, f67⟩
              have S68 := S60.itCall (j := 1) rfl k64 o66 f67
              refine p_not rfl ?_
              refine wp_nil ?_
              refine c_cond rfl (fun c69 => ?_) (fun c69 => ?_)
              · replace H := condT c69 H
                refine c_seq ?_
                refine reg ?_
                refine p_aB rfl ?_
                refine wp_nil ?_
                obtain rfl := Option.some.inj H
                refine c_ret ?_; show bodyPostM (Fr none) 0 Tryd.prog Tryd.f105 _ .ret _ _
                refine ret_of (res1 rfl (rvT (rfl : _ = B false))) ?_
                exact ⟨_, rfl, _, rfl, S68.keep, S68.atX (i := 1) rfl, fun b_ h_ => (S68.own _ (List.mem_of_getElem? (i := 1) rfl) b_ h_).symm⟩
              · replace H := condF c69 H
                refine c_skip ?_
                refine reg ?_
                refine p_add rfl rfl ?_
                refine p_mI rfl ?_
                refine wp_nil ?_
                exact ⟨(wr (z_2.1 + 1), aset z_2.2.1 6 a1 z_2.1, aset z_2.2.2.1 6 a1 (wr ((wr (z_1 - r37)) - z_3.1)), r61.2), A65, _, rfl, ⟨rfl, rfl, rfl, rfl, rfl, rfl, rfl, trivial⟩, H, S68⟩
      · replace H := condF c45 H
        refine c_exit ?_
        refine c_seq ?_
        refine reg ?_
        refine p_aB rfl ?_
        refine wp_nil ?_
        obtain rfl := Option.some.inj H
        refine c_ret ?_; show bodyPostM (Fr none) 0 Tryd.prog Tryd.f105 _ .ret _ _
        refine ret_of (res1 rfl (rvT (rfl : _ = B true))) ?_
        exact ⟨_, rfl, _, rfl, S44.keep, S44.atX (i := 1) rfl, fun b_ h_ => (S44.own _ (List.mem_of_getElem? (i := 1) rfl) b_ h_).symm⟩

def coal_book_blown_1 {σ : Type} (s_ : σ) (q0 : Coal_book) (q1 : Coal_truth) (q2 : Int) (yv : Coal_truth → σ → Option (Bool × σ)) : Option σ :=
  (coal_book_blown_1_1 big q1 0 q2 s_ q0 q0 yv).bind fun r31 =>
  some r31.2

set_option maxRecDepth 100000 in
theorem coal_book_blown_1_ok {σ : Type} {l_ : Nat} {G_ : σ → Asr → Prop} {A_ : Asr} {wb_ : World} {C0_ : Nat → Prop} {s_ : σ} {q0 : Coal_book} {q1 : Coal_truth} {q2 : Int} {yv : Coal_truth → σ → Option (Bool × σ)} {b1 : Nat} {A4 : Option Addr} {c5 : Nat} {A7 : Option Addr} {c8 : Nat} {m10 : Option Nat} {b2 : Nat} {b3 : Nat} {w : World} {r : σ} (H : coal_book_blown_1 s_ q0 q1 q2 yv = some r) (hG_ : (ga G_ s_ A_).ok w) (h14 : (bl b3 [I q2] 3).ok w) (h13 : (bl b2 (sg q1.eats_ 2 ++ ([I q1.collier_] ++ (sg q1.winds_ 6 ++ sg q1.coal_ 6))) 108).ok w) (h12 : (bl b1 ([I q0.CoalBook.Heap.Low, I q0.CoalBook.Heap.High] ++ (sgE eSpan q0.CoalBook.Eats 2 ++ (sg q0.CoalBook.Extra 3 ++ [SL A4 q0.CoalBook.Days.length c5, I q0.CoalBook.Collier.Low, I q0.CoalBook.Collier.High, I q0.CoalBook.Brings, SL A7 q0.CoalBook.Dips.length c8, Value.map m10]))) 92).ok w) (h6 : (rd eCoalDay 3 A4 c5 q0.CoalBook.Days).ok w) (h9 : (rd eCoalDip 3 A7 c8 q0.CoalBook.Dips).ok w) (h11 : (mpo ekG iE m10 q0.costs_).ok w) (hd_ : ∀ p ∈ ([bl b3 [I q2] 3, bl b2 (sg q1.eats_ 2 ++ ([I q1.collier_] ++ (sg q1.winds_ 6 ++ sg q1.coal_ 6))) 108, bl b1 ([I q0.CoalBook.Heap.Low, I q0.CoalBook.Heap.High] ++ (sgE eSpan q0.CoalBook.Eats 2 ++ (sg q0.CoalBook.Extra 3 ++ [SL A4 q0.CoalBook.Days.length c5, I q0.CoalBook.Collier.Low, I q0.CoalBook.Collier.High, I q0.CoalBook.Brings, SL A7 q0.CoalBook.Dips.length c8, Value.map m10]))) 92, rd eCoalDay 3 A4 c5 q0.CoalBook.Days, rd eCoalDip 3 A7 c8 q0.CoalBook.Dips, mpo ekG iE m10 q0.costs_] : List Asr), ∀ b, p.fp b → ¬ A_.fp b) (hy_ : YH Tryd.prog l_ yE1 yv G_ wb_ C0_) (hl_ : Link wb_ C0_ w A_.fp) : Calls Tryd.prog 103 #[Value.func (.yield l_) #[] #[], P b1 0, P b2 0, P b3 0] w (fun en w_ => ∃ u_, en = .returned u_ ∧ ∃ A'_ : Asr, u_ = TU [] ∧ Keep A_.fp w w_ ∧ (ga G_ r A'_).ok w_ ∧ (∀ b_, A'_.fp b_ → A_.fp b_ ∨ w.heap.size ≤ b_)) := by
  unfold coal_book_blown_1 at H
  refine fn_of (n := 14) Tryd.func103 rfl rfl (Nat.le_of_ble_eq_true rfl) ?_
  have S : St w A_.fp w [ga G_ s_ A_] [bl b3 [I q2] 3, bl b2 (sg q1.eats_ 2 ++ ([I q1.collier_] ++ (sg q1.winds_ 6 ++ sg q1.coal_ 6))) 108, bl b1 ([I q0.CoalBook.Heap.Low, I q0.CoalBook.Heap.High] ++ (sgE eSpan q0.CoalBook.Eats 2 ++ (sg q0.CoalBook.Extra 3 ++ [SL A4 q0.CoalBook.Days.length c5, I q0.CoalBook.Collier.Low, I q0.CoalBook.Collier.High, I q0.CoalBook.Brings, SL A7 q0.CoalBook.Dips.length c8, Value.map m10]))) 92, rd eCoalDay 3 A4 c5 q0.CoalBook.Days, rd eCoalDip 3 A7 c8 q0.CoalBook.Dips, mpo ekG iE m10 q0.costs_] := St.startX (ga G_ s_ A_) hG_ (List.forall_mem_cons.2 ⟨h14, (List.forall_mem_cons.2 ⟨h13, (List.forall_mem_cons.2 ⟨h12, (List.forall_mem_cons.2 ⟨h6, (List.forall_mem_cons.2 ⟨h9, (List.forall_mem_cons.2 ⟨h11, (fun _ h_ => (List.not_mem_nil h_).elim)⟩)⟩)⟩)⟩)⟩)⟩) hd_
  refine c_seq ?_
  refine reg ?_
  refine p_box (rfl : _ = Value.func (.yield l_) #[] #[]) rfl S fun b15 w16 S17 => ?_
  refine wp_nil ?_
  refine c_seq ?_
  refine reg ?_
  refine p_ldA ty92 sz92 (S17.atP (i := 2) rfl) rfl rfl ?_
  refine o_fun (rfl : _ = [AG ([I q0.CoalBook.Heap.Low, I q0.CoalBook.Heap.High] ++ (sgE eSpan q0.CoalBook.Eats 2 ++ (sg q0.CoalBook.Extra 3 ++ [SL A4 q0.CoalBook.Days.length c5, I q0.CoalBook.Collier.Low, I q0.CoalBook.Collier.High, I q0.CoalBook.Brings, SL A7 q0.CoalBook.Dips.length c8, Value.map m10])))]) (rfl : _ = []) ?_
  refine p_all in56 rfl S17 fun b18 w19 S20 => ?_
  refine p_st sz56 S20 (i := 0) rfl rfl (rfl : _ = Value.func (.func 104) #[AG ([I q0.CoalBook.Heap.Low, I q0.CoalBook.Heap.High] ++ (sgE eSpan q0.CoalBook.Eats 2 ++ (sg q0.CoalBook.Extra 3 ++ [SL A4 q0.CoalBook.Days.length c5, I q0.CoalBook.Collier.Low, I q0.CoalBook.Collier.High, I q0.CoalBook.Brings, SL A7 q0.CoalBook.Dips.length c8, Value.map m10])))] #[]) rfl rfl fun w21 S22 => ?_
  refine wp_nil ?_
  refine c_seq ?_
  refine reg ?_
  refine p_all in130 rfl S22 fun b23 w24 S25 => ?_
  refine wp_nil ?_
  refine c_seq ?_
  refine reg ?_
  refine o_fun (rfl : _ = []) (rfl : _ = [P b1 0, P b15 0, P b18 0, P b23 0]) ?_
  refine p_st sz130 S25 (i := 0) rfl rfl (rfl : _ = Value.func (.func 105) #[] #[P b1 0, P b15 0, P b18 0, P b23 0]) rfl rfl fun w26 S27 => ?_
  refine wp_nil ?_
  refine reg ?_
  refine p_ld ty130 (S27.atX (i := 0) rfl) rfl rfl ?_
  refine p_ldA ty108 sz108 (S27.atP (i := 1) rfl) rfl rfl ?_
  refine p_ld ty3 (S27.atP (i := 0) rfl) rfl rfl ?_
  have S28 := S27.fix (i := 2) rfl
  have S29 := S28.fix (i := 1) rfl
  have S30 := S29.fix (i := 0) rfl
  obtain ⟨r31, h32, H⟩ := bindS H
  refine p_cal (coal_book_blown_1_1_ok h32 (S30.atX (i := 0) rfl) (S30.atP (i := 0) rfl) (S30.atP (i := 1) rfl) (S30.atP (i := 2) rfl) (S30.atP (i := 5) rfl) (S30.atP (i := 6) rfl) (S30.atP (i := 7) rfl) (S30.atP (i := 8) rfl) (S30.atP (i := 6) rfl) (S30.atP (i := 7) rfl) (S30.atP (i := 8) rfl) (List.forall_mem_cons.2 ⟨fun b_ h1_ h2_ => ((fp_mem (i := 0) rfl) b_ h1_).elim fun q_ hq_ => (S30.apart (j := 0) rfl (fun _ h_ => h_)) q_ hq_.1 b_ hq_.2 h2_, (List.forall_mem_cons.2 ⟨fun b_ h1_ h2_ => ((fp_mem (i := 1) rfl) b_ h1_).elim fun q_ hq_ => (S30.apart (j := 0) rfl (fun _ h_ => h_)) q_ hq_.1 b_ hq_.2 h2_, (List.forall_mem_cons.2 ⟨fun b_ h1_ h2_ => ((fp_mem (i := 2) rfl) b_ h1_).elim fun q_ hq_ => (S30.apart (j := 0) rfl (fun _ h_ => h_)) q_ hq_.1 b_ hq_.2 h2_, (List.forall_mem_cons.2 ⟨fun b_ h1_ h2_ => ((fp_mem (i := 5) rfl) b_ h1_).elim fun q_ hq_ => (S30.apart (j := 0) rfl (fun _ h_ => h_)) q_ hq_.1 b_ hq_.2 h2_, (List.forall_mem_cons.2 ⟨fun b_ h1_ h2_ => ((fp_mem (i := 6) rfl) b_ h1_).elim fun q_ hq_ => (S30.apart (j := 0) rfl (fun _ h_ => h_)) q_ hq_.1 b_ hq_.2 h2_, (List.forall_mem_cons.2 ⟨fun b_ h1_ h2_ => ((fp_mem (i := 7) rfl) b_ h1_).elim fun q_ hq_ => (S30.apart (j := 0) rfl (fun _ h_ => h_)) q_ hq_.1 b_ hq_.2 h2_, (List.forall_mem_cons.2 ⟨fun b_ h1_ h2_ => ((fp_mem (i := 8) rfl) b_ h1_).elim fun q_ hq_ => (S30.apart (j := 0) rfl (fun _ h_ => h_)) q_ hq_.1 b_ hq_.2 h2_, (List.forall_mem_cons.2 ⟨fun b_ h1_ h2_ => ((fp_mem (i := 6) rfl) b_ h1_).elim fun q_ hq_ => (S30.apart (j := 0) rfl (fun _ h_ => h_)) q_ hq_.1 b_ hq_.2 h2_, (List.forall_mem_cons.2 ⟨fun b_ h1_ h2_ => ((fp_mem (i := 7) rfl) b_ h1_).elim fun q_ hq_ => (S30.apart (j := 0) rfl (fun _ h_ => h_)) q_ hq_.1 b_ hq_.2 h2_, (List.forall_mem_cons.2 ⟨fun b_ h1_ h2_ => ((fp_mem (i := 8) rfl) b_ h1_).elim fun q_ hq_ => (S30.apart (j := 0) rfl (fun _ h_ => h_)) q_ hq_.1 b_ hq_.2 h2_, (fun _ h_ => (List.not_mem_nil h_).elim)⟩)⟩)⟩)⟩)⟩)⟩)⟩)⟩)⟩)⟩) hy_ (S30.link (j := 0) rfl hl_)) fu105 rfl ?_
  rintro _ w33 ⟨A35, rfl, k34, o36, f37⟩
  have S38 := S30.itCall (j := 0) rfl k34 o36 f37
  refine wp_nil ?_
  obtain rfl := Option.some.inj H
  show bodyPostM (Fr none) 0 Tryd.prog Tryd.f103 _ .normal _ _
  refine end_of (res0 rfl) ?_
  exact ⟨_, rfl, _, rfl, S38.keep, S38.atX (i := 0) rfl, fun b_ h_ => (S38.own _ (List.mem_of_getElem? (i := 0) rfl) b_ h_).symm⟩

def coal_book_blown (a0 : Coal_book) (a1 : Coal_truth) (a2 : Int) : Option Unit :=
  some ()

set_option maxRecDepth 100000 in
theorem coal_book_blown_ok {a0 : Coal_book} {a1 : Coal_truth} {a2 : Int} {A1 : Option Addr} {c2 : Nat} {A4 : Option Addr} {c5 : Nat} {m7 : Option Nat} {w : World} {r : Unit} (H : coal_book_blown a0 a1 a2 = some r) (h3 : (rd eCoalDay 3 A1 c2 a0.CoalBook.Days).ok w) (h6 : (rd eCoalDip 3 A4 c5 a0.CoalBook.Dips).ok w) (h8 : (mpo ekG iE m7 a0.costs_).ok w) : Calls Tryd.prog 97 #[AG ([I a0.CoalBook.Heap.Low, I a0.CoalBook.Heap.High] ++ (sgE eSpan a0.CoalBook.Eats 2 ++ (sg a0.CoalBook.Extra 3 ++ [SL A1 a0.CoalBook.Days.length c2, I a0.CoalBook.Collier.Low, I a0.CoalBook.Collier.High, I a0.CoalBook.Brings, SL A4 a0.CoalBook.Dips.length c5, Value.map m7]))), AG (sg a1.eats_ 2 ++ ([I a1.collier_] ++ (sg a1.winds_ 6 ++ sg a1.coal_ 6))), I a2] w fun en w_ => ∃ u_, en = .returned u_ ∧ ∃ b_1 : Nat, ∃ b_2 : Nat, ∃ b_3 : Nat, u_ = Value.func (.func 103) #[] #[P b_1 0, P b_2 0, P b_3 0] ∧ Keep0 w w_ ∧ ((bl b_1 ([I a0.CoalBook.Heap.Low, I a0.CoalBook.Heap.High] ++ (sgE eSpan a0.CoalBook.Eats 2 ++ (sg a0.CoalBook.Extra 3 ++ [SL A1 a0.CoalBook.Days.length c2, I a0.CoalBook.Collier.Low, I a0.CoalBook.Collier.High, I a0.CoalBook.Brings, SL A4 a0.CoalBook.Dips.length c5, Value.map m7]))) 92).ok w_ ∧ New w.heap.size (bl b_1 ([I a0.CoalBook.Heap.Low, I a0.CoalBook.Heap.High] ++ (sgE eSpan a0.CoalBook.Eats 2 ++ (sg a0.CoalBook.Extra 3 ++ [SL A1 a0.CoalBook.Days.length c2, I a0.CoalBook.Collier.Low, I a0.CoalBook.Collier.High, I a0.CoalBook.Brings, SL A4 a0.CoalBook.Dips.length c5, Value.map m7]))) 92)) ∧ ((bl b_2 (sg a1.eats_ 2 ++ ([I a1.collier_] ++ (sg a1.winds_ 6 ++ sg a1.coal_ 6))) 108).ok w_ ∧ New w.heap.size (bl b_2 (sg a1.eats_ 2 ++ ([I a1.collier_] ++ (sg a1.winds_ 6 ++ sg a1.coal_ 6))) 108)) ∧ ((bl b_3 [I a2] 3).ok w_ ∧ New w.heap.size (bl b_3 [I a2] 3)) ∧ True := by
  unfold coal_book_blown at H
  refine fn_of (n := 8) Tryd.func97 rfl rfl (Nat.le_of_ble_eq_true rfl) ?_
  have S : St w (fun _ => False) w [] [rd eCoalDay 3 A1 c2 a0.CoalBook.Days, rd eCoalDip 3 A4 c5 a0.CoalBook.Dips, mpo ekG iE m7 a0.costs_] := St.start w _ _ (List.forall_mem_cons.2 ⟨h3, (List.forall_mem_cons.2 ⟨h6, (List.forall_mem_cons.2 ⟨h8, (fun _ h_ => (List.not_mem_nil h_).elim)⟩)⟩)⟩)
  refine c_seq ?_
  refine reg ?_
  refine p_boxA rfl S fun b9 w10 S11 => ?_
  refine p_boxA rfl S11 fun b12 w13 S14 => ?_
  refine p_box (rfl : _ = I a2) rfl S14 fun b15 w16 S17 => ?_
  refine p_asg (rfl : _ = Value.nilFunc) ?_
  refine wp_nil ?_
  refine c_seq ?_
  refine reg ?_
  refine o_fun (rfl : _ = []) (rfl : _ = [P b9 0, P b12 0, P b15 0]) ?_
  refine p_asg (rfl : _ = Value.func (.func 103) #[] #[P b9 0, P b12 0, P b15 0]) ?_
  refine wp_nil ?_
  obtain rfl := Option.some.inj H
  refine c_ret ?_; show bodyPostM (Fr none) 0 Tryd.prog Tryd.f97 _ .ret _ _
  refine ret_of (res1 rfl (rvT (rfl : _ = Value.func (.func 103) #[] #[P b9 0, P b12 0, P b15 0]))) ?_
  exact ⟨_, rfl, b9, b12, b15, rfl, S17.keep, ⟨S17.atX (i := 2) rfl, S17.newX (i := 2) rfl⟩, ⟨S17.atX (i := 1) rfl, S17.newX (i := 1) rfl⟩, ⟨S17.atX (i := 0) rfl, S17.newX (i := 0) rfl⟩, trivial⟩

def coal_book_truths_1_r117 {σ : Type} (yv : Coal_truth → σ → Option (Bool × σ)) (x_5 : Coal_truth) (z_5 : σ) : Option (Bool × Nat × σ) :=
  (yv x_5 z_5).bind fun r189 =>
  bif !r189.1 then (some (false, 1, r189.2))
  else (some (true, 0, r189.2))

def coal_book_truths_1_r118 {σ : Type} (q0 : Coal_book) (x_2 : Int) (x_3 : Int) (x_1 : Int) (yv : Coal_truth → σ → Option (Bool × σ)) (x_4 : Int) (z_4 : σ) : Option (Bool × Nat × σ) :=
  (coal_book_blown q0 (Coal_truth.mk [x_2, x_3] x_4 (List.replicate 6 0) (List.replicate 6 0)) x_1).bind fun r149 =>
  (coal_book_blown_1 (0, z_4) q0 (Coal_truth.mk [x_2, x_3] x_4 (List.replicate 6 0) (List.replicate 6 0)) x_1 (yvOf (coal_book_truths_1_r117 yv))).bind fun r163 =>
  bif (r163.1 == 0) then (some (true, 0, r163.2))
  else (some (false, 1, r163.2))

def coal_book_truths_1_r119 {σ : Type} (q0 : Coal_book) (x_2 : Int) (x_1 : Int) (yv : Coal_truth → σ → Option (Bool × σ)) (x_3 : Int) (z_3 : σ) : Option (Bool × Nat × σ) :=
  (coal_all q0.CoalBook.Collier).bind fun r119 =>
  (coal_all_1 (0, z_3) q0.CoalBook.Collier (yvOf (coal_book_truths_1_r118 q0 x_2 x_3 x_1 yv))).bind fun r128 =>
  bif (r128.1 == 0) then (some (true, 0, r128.2))
  else (some (false, 1, r128.2))

def coal_book_truths_1_r120 {σ : Type} (q0 : Coal_book) (x_1 : Int) (yv : Coal_truth → σ → Option (Bool × σ)) (x_2 : Int) (z_2 : σ) : Option (Bool × Nat × σ) :=
  (coal_all (agetS q0.CoalBook.Eats (1 : Int))).bind fun r84 =>
  (coal_all_1 (0, z_2) (agetS q0.CoalBook.Eats (1 : Int)) (yvOf (coal_book_truths_1_r119 q0 x_2 x_1 yv))).bind fun r93 =>
  bif (r93.1 == 0) then (some (true, 0, r93.2))
  else (some (false, 1, r93.2))

def coal_book_truths_1_r121 {σ : Type} (q0 : Coal_book) (yv : Coal_truth → σ → Option (Bool × σ)) (x_1 : Int) (z_1 : σ) : Option (Bool × Nat × σ) :=
  (coal_all (agetS q0.CoalBook.Eats (0 : Int))).bind fun r49 =>
  (coal_all_1 (0, z_1) (agetS q0.CoalBook.Eats (0 : Int)) (yvOf (coal_book_truths_1_r120 q0 x_1 yv))).bind fun r58 =>
  bif (r58.1 == 0) then (some (true, 0, r58.2))
  else (some (false, 1, r58.2))

def coal_book_truths_1 {σ : Type} (s_ : σ) (q0 : Coal_book) (yv : Coal_truth → σ → Option (Bool × σ)) : Option σ :=
  (coal_all q0.CoalBook.Heap).bind fun r14 =>
  (coal_all_1 (0, s_) q0.CoalBook.Heap (yvOf (coal_book_truths_1_r121 q0 yv))).bind fun r23 =>
  bif (r23.1 == 0) then (some r23.2)
  else (some r23.2)

set_option maxRecDepth 100000 in
theorem coal_book_truths_1_ok {σ : Type} {l_ : Nat} {G_ : σ → Asr → Prop} {A_ : Asr} {wb_ : World} {C0_ : Nat → Prop} {s_ : σ} {q0 : Coal_book} {yv : Coal_truth → σ → Option (Bool × σ)} {b1 : Nat} {A2 : Option Addr} {c3 : Nat} {A5 : Option Addr} {c6 : Nat} {m8 : Option Nat} {w : World} {r : σ} (H : coal_book_truths_1 s_ q0 yv = some r) (hG_ : (ga G_ s_ A_).ok w) (h10 : (bl b1 ([I q0.CoalBook.Heap.Low, I q0.CoalBook.Heap.High] ++ (sgE eSpan q0.CoalBook.Eats 2 ++ (sg q0.CoalBook.Extra 3 ++ [SL A2 q0.CoalBook.Days.length c3, I q0.CoalBook.Collier.Low, I q0.CoalBook.Collier.High, I q0.CoalBook.Brings, SL A5 q0.CoalBook.Dips.length c6, Value.map m8]))) 92).ok w) (h4 : (rd eCoalDay 3 A2 c3 q0.CoalBook.Days).ok w) (h7 : (rd eCoalDip 3 A5 c6 q0.CoalBook.Dips).ok w) (h9 : (mpo ekG iE m8 q0.costs_).ok w) (hd_ : ∀ p ∈ ([bl b1 ([I q0.CoalBook.Heap.Low, I q0.CoalBook.Heap.High] ++ (sgE eSpan q0.CoalBook.Eats 2 ++ (sg q0.CoalBook.Extra 3 ++ [SL A2 q0.CoalBook.Days.length c3, I q0.CoalBook.Collier.Low, I q0.CoalBook.Collier.High, I q0.CoalBook.Brings, SL A5 q0.CoalBook.Dips.length c6, Value.map m8]))) 92, rd eCoalDay 3 A2 c3 q0.CoalBook.Days, rd eCoalDip 3 A5 c6 q0.CoalBook.Dips, mpo ekG iE m8 q0.costs_] : List Asr), ∀ b, p.fp b → ¬ A_.fp b) (hy_ : YH Tryd.prog l_ yE1 yv G_ wb_ C0_) (hl_ : Link wb_ C0_ w A_.fp) : Calls Tryd.prog 95 #[Value.func (.yield l_) #[] #[], P b1 0] w (fun en w_ => ∃ u_, en = .returned u_ ∧ ∃ A'_ : Asr, u_ = TU [] ∧ Keep A_.fp w w_ ∧ (ga G_ r A'_).ok w_ ∧ (∀ b_, A'_.fp b_ → A_.fp b_ ∨ w.heap.size ≤ b_)) := by
  unfold coal_book_truths_1 at H
  refine fn_of (n := 43) Tryd.func95 rfl rfl (Nat.le_of_ble_eq_true rfl) ?_
  have S : St w A_.fp w [ga G_ s_ A_] [bl b1 ([I q0.CoalBook.Heap.Low, I q0.CoalBook.Heap.High] ++ (sgE eSpan q0.CoalBook.Eats 2 ++ (sg q0.CoalBook.Extra 3 ++ [SL A2 q0.CoalBook.Days.length c3, I q0.CoalBook.Collier.Low, I q0.CoalBook.Collier.High, I q0.CoalBook.Brings, SL A5 q0.CoalBook.Dips.length c6, Value.map m8]))) 92, rd eCoalDay 3 A2 c3 q0.CoalBook.Days, rd eCoalDip 3 A5 c6 q0.CoalBook.Dips, mpo ekG iE m8 q0.costs_] := St.startX (ga G_ s_ A_) hG_ (List.forall_mem_cons.2 ⟨h10, (List.forall_mem_cons.2 ⟨h4, (List.forall_mem_cons.2 ⟨h7, (List.forall_mem_cons.2 ⟨h9, (fun _ h_ => (List.not_mem_nil h_).elim)⟩)⟩)⟩)⟩) hd_
  refine c_seq ?_
  refine reg ?_
  refine p_box (rfl : _ = Value.func (.yield l_) #[] #[]) rfl S fun b11 w12 S13 => ?_
  refine wp_nil ?_
  refine c_seq ?_
  refine reg ?_
  refine p_fld fl92_0 rfl ?_
  refine p_fld fl29_0 rfl ?_
  refine p_ldP (vs := [I q0.CoalBook.Heap.Low, I q0.CoalBook.Heap.High]) ty23 sz23 (S13.atP (i := 0) rfl) rfl rfl rfl ?_
  obtain ⟨r14, h15, H⟩ := bindS H
  refine p_cal (coal_all_ok h15) fu96 rfl ?_
  rintro _ w16 ⟨b18, rfl, k17, ⟨o19, n20⟩, _⟩
  have S21 := S13.addNew k17 o19 n20
  refine wp_nil ?_
  refine c_block ?_
  have S22 := S21.fix (i := 0) rfl
  obtain ⟨r23, h24, H⟩ := bindS H

  have S25 := S22
  refine c_rangeG (α := σ) (β := Asr) (ε := Int) (K := [bl b18 [I q0.CoalBook.Heap.Low, I q0.CoalBook.Heap.High] 23]) (MK := Go.Fx.mark) (XR := fun D26 => [] ++ [bx D26 (.deferred (some []))]) (it := fun {σ} yv s_ => coal_all_1 s_ q0.CoalBook.Heap yv) (enc := yE0) (coal_book_truths_1_r121 q0 yv) [.ret] (fun z_1 y_1 => [bl b11 [Value.func (.yield l_) #[] #[]] 124, ga G_ z_1 y_1]) s_ A_ h24 (ent_none (X0 := (fun z_1 y_1 => [bl b11 [Value.func (.yield l_) #[] #[]] 124, ga G_ z_1 y_1]) s_ A_ ++ []) S25) rfl fu102 (fun w_ σ yv_ s_ s'_ l_ G_ A_ hH_ hG_ hk_ hd_ hy_ => (coal_all_1_ok hH_ hG_ (hk_ _ (List.mem_of_getElem? (i := 0) rfl)) hd_ hy_ (Link.refl _ _)).mono fun en_ w3_ ⟨u_, he_, A'_, hu_, hk2_, ho_, hf_⟩ => ⟨u_, he_, hk2_, A'_, ho_, hf_⟩) (List.forall_mem_cons.2 ⟨List.mem_of_getElem? (i := 0) rfl, (fun _ h_ => (List.not_mem_nil h_).elim)⟩) (fun _ => rfl) (List.forall_mem_cons.2 ⟨.inl rfl, (fun _ h_ => (List.not_mem_nil h_).elim)⟩) ?_ ?_ ?_
  · intro l27 oR28 oB29 Cr30 x_1 z_1 y_1 w31 b32 c33 z34 PP35 H S36 hlk37 ho38 hB39 hN40 hX41
    unfold coal_book_truths_1_r121 at H
    replace S36 : St w31 Cr30 w31 [bx l27 oR28, bl b11 [Value.func (.yield l_) #[] #[]] 124, ga G_ z_1 y_1] [bl b18 [I q0.CoalBook.Heap.Low, I q0.CoalBook.Heap.High] 23, bl b1 ([I q0.CoalBook.Heap.Low, I q0.CoalBook.Heap.High] ++ (sgE eSpan q0.CoalBook.Eats 2 ++ (sg q0.CoalBook.Extra 3 ++ [SL A2 q0.CoalBook.Days.length c3, I q0.CoalBook.Collier.Low, I q0.CoalBook.Collier.High, I q0.CoalBook.Brings, SL A5 q0.CoalBook.Dips.length c6, Value.map m8]))) 92, rd eCoalDay 3 A2 c3 q0.CoalBook.Days, rd eCoalDip 3 A5 c6 q0.CoalBook.Dips, mpo ekG iE m8 q0.costs_] := S36
    refine reg ?_
    refine p_all in3 rfl S36 fun b42 w43 S44 => ?_
    refine p_st sz3 S44 (i := 0) rfl rfl (rfl : _ = I x_1) rfl rfl fun w45 S46 => ?_
    refine wp_nil ?_
    refine hB39 _ _ 1 _ S46 rfl fun w47 S48 => ?_
    replace S48 : St w31 Cr30 w47 [bl b42 [I x_1] 3, bx l27 oB29, bl b11 [Value.func (.yield l_) #[] #[]] 124, ga G_ z_1 y_1] [bl b18 [I q0.CoalBook.Heap.Low, I q0.CoalBook.Heap.High] 23, bl b1 ([I q0.CoalBook.Heap.Low, I q0.CoalBook.Heap.High] ++ (sgE eSpan q0.CoalBook.Eats 2 ++ (sg q0.CoalBook.Extra 3 ++ [SL A2 q0.CoalBook.Days.length c3, I q0.CoalBook.Collier.Low, I q0.CoalBook.Collier.High, I q0.CoalBook.Brings, SL A5 q0.CoalBook.Dips.length c6, Value.map m8]))) 92, rd eCoalDay 3 A2 c3 q0.CoalBook.Days, rd eCoalDip 3 A5 c6 q0.CoalBook.Dips, mpo ekG iE m8 q0.costs_] := S48
    refine c_block ?_
    refine c_seq ?_
    refine reg ?_
    refine p_fld fl92_0 rfl ?_
    refine p_fld fl29_1 rfl ?_
    refine p_ixc ar24 rfl rfl (by decide) (by decide) ?_
    refine p_ldP (vs := [I ((agetS q0.CoalBook.Eats (0 : Int)).Low), I ((agetS q0.CoalBook.Eats (0 : Int)).High)]) ty23 sz23 (S48.atP (i := 1) rfl) rfl rfl rfl ?_
    obtain ⟨r49, h50, H⟩ := bindS H
    refine p_cal (coal_all_ok h50) fu96 rfl ?_
    rintro _ w51 ⟨b53, rfl, k52, ⟨o54, n55⟩, _⟩
    have S56 := S48.addNew k52 o54 n55
    refine wp_nil ?_
    refine c_block ?_
    have S57 := S56.fix (i := 0) rfl
    obtain ⟨r58, h59, H⟩ := bindS H

    have S61 := S57.pk [0, 2, 3, 1] (by decide) [0, 1, 2, 3, 4, 5] rfl rfl
    have S60 := S61
    refine c_rangeG (α := σ) (β := Asr) (ε := Int) (K := [bl b53 [I ((agetS q0.CoalBook.Eats (0 : Int)).Low), I ((agetS q0.CoalBook.Eats (0 : Int)).High)] 23]) (MK := fun _ => []) (XR := fun _ => [bx l27 oB29]) (it := fun {σ} yv s_ => coal_all_1 s_ (agetS q0.CoalBook.Eats (0 : Int)) yv) (enc := yE0) (coal_book_truths_1_r120 q0 x_1 yv) [.ret] (fun z_2 y_2 => [bl b42 [I x_1] 3, bl b11 [Value.func (.yield l_) #[] #[]] 124, ga G_ z_2 y_2]) z_1 y_1 h59 (ent_some ho38 (X0 := (fun z_2 y_2 => [bl b42 [I x_1] 3, bl b11 [Value.func (.yield l_) #[] #[]] 124, ga G_ z_2 y_2]) z_1 y_1 ++ []) S60) rfl fu102 (fun w_ σ yv_ s_ s'_ l_ G_ A_ hH_ hG_ hk_ hd_ hy_ => (coal_all_1_ok hH_ hG_ (hk_ _ (List.mem_of_getElem? (i := 0) rfl)) hd_ hy_ (Link.refl _ _)).mono fun en_ w3_ ⟨u_, he_, A'_, hu_, hk2_, ho_, hf_⟩ => ⟨u_, he_, hk2_, A'_, ho_, hf_⟩) (List.forall_mem_cons.2 ⟨List.mem_of_getElem? (i := 0) rfl, (fun _ h_ => (List.not_mem_nil h_).elim)⟩) (fun _ => rfl) (List.forall_mem_cons.2 ⟨.inl rfl, (fun _ h_ => (List.not_mem_nil h_).elim)⟩) ?_ ?_ ?_
    · intro l62 oR63 oB64 Cr65 x_2 z_2 y_2 w66 b67 c68 z69 PP70 H S71 hlk72 ho73 hB74 hN75 hX76
      unfold coal_book_truths_1_r120 at H
      replace S71 : St w66 Cr65 w66 [bx l62 oR63, bl b42 [I x_1] 3, bl b11 [Value.func (.yield l_) #[] #[]] 124, ga G_ z_2 y_2] [bl b53 [I ((agetS q0.CoalBook.Eats (0 : Int)).Low), I ((agetS q0.CoalBook.Eats (0 : Int)).High)] 23, bl b18 [I q0.CoalBook.Heap.Low, I q0.CoalBook.Heap.High] 23, bl b1 ([I q0.CoalBook.Heap.Low, I q0.CoalBook.Heap.High] ++ (sgE eSpan q0.CoalBook.Eats 2 ++ (sg q0.CoalBook.Extra 3 ++ [SL A2 q0.CoalBook.Days.length c3, I q0.CoalBook.Collier.Low, I q0.CoalBook.Collier.High, I q0.CoalBook.Brings, SL A5 q0.CoalBook.Dips.length c6, Value.map m8]))) 92, rd eCoalDay 3 A2 c3 q0.CoalBook.Days, rd eCoalDip 3 A5 c6 q0.CoalBook.Dips, mpo ekG iE m8 q0.costs_] := S71
      refine reg ?_
      refine p_all in3 rfl S71 fun b77 w78 S79 => ?_
      refine p_st sz3 S79 (i := 0) rfl rfl (rfl : _ = I x_2) rfl rfl fun w80 S81 => ?_
      refine wp_nil ?_
      refine hB74 _ _ 1 _ S81 rfl fun w82 S83 => ?_
      replace S83 : St w66 Cr65 w82 [bl b77 [I x_2] 3, bx l62 oB64, bl b42 [I x_1] 3, bl b11 [Value.func (.yield l_) #[] #[]] 124, ga G_ z_2 y_2] [bl b53 [I ((agetS q0.CoalBook.Eats (0 : Int)).Low), I ((agetS q0.CoalBook.Eats (0 : Int)).High)] 23, bl b18 [I q0.CoalBook.Heap.Low, I q0.CoalBook.Heap.High] 23, bl b1 ([I q0.CoalBook.Heap.Low, I q0.CoalBook.Heap.High] ++ (sgE eSpan q0.CoalBook.Eats 2 ++ (sg q0.CoalBook.Extra 3 ++ [SL A2 q0.CoalBook.Days.length c3, I q0.CoalBook.Collier.Low, I q0.CoalBook.Collier.High, I q0.CoalBook.Brings, SL A5 q0.CoalBook.Dips.length c6, Value.map m8]))) 92, rd eCoalDay 3 A2 c3 q0.CoalBook.Days, rd eCoalDip 3 A5 c6 q0.CoalBook.Dips, mpo ekG iE m8 q0.costs_] := S83
      refine c_block ?_
      refine c_seq ?_
      refine reg ?_
      refine p_fld fl92_0 rfl ?_
      refine p_fld fl29_1 rfl ?_
      refine p_ixc ar24 rfl rfl (by decide) (by decide) ?_
      refine p_ldP (vs := [I ((agetS q0.CoalBook.Eats (1 : Int)).Low), I ((agetS q0.CoalBook.Eats (1 : Int)).High)]) ty23 sz23 (S83.atP (i := 2) rfl) rfl rfl rfl ?_
      obtain ⟨r84, h85, H⟩ := bindS H
      refine p_cal (coal_all_ok h85) fu96 rfl ?_
      rintro _ w86 ⟨b88, rfl, k87, ⟨o89, n90⟩, _⟩
      have S91 := S83.addNew k87 o89 n90
      refine wp_nil ?_
      refine c_block ?_
      have S92 := S91.fix (i := 0) rfl
      obtain ⟨r93, h94, H⟩ := bindS H

      have S96 := S92.pk [0, 2, 3, 4, 1] (by decide) [0, 1, 2, 3, 4, 5, 6] rfl rfl
      have S95 := S96
      refine c_rangeG (α := σ) (β := Asr) (ε := Int) (K := [bl b88 [I ((agetS q0.CoalBook.Eats (1 : Int)).Low), I ((agetS q0.CoalBook.Eats (1 : Int)).High)] 23]) (MK := fun _ => []) (XR := fun _ => [bx l62 oB64]) (it := fun {σ} yv s_ => coal_all_1 s_ (agetS q0.CoalBook.Eats (1 : Int)) yv) (enc := yE0) (coal_book_truths_1_r119 q0 x_2 x_1 yv) [.ret] (fun z_3 y_3 => [bl b77 [I x_2] 3, bl b42 [I x_1] 3, bl b11 [Value.func (.yield l_) #[] #[]] 124, ga G_ z_3 y_3]) z_2 y_2 h94 (ent_some ho73 (X0 := (fun z_3 y_3 => [bl b77 [I x_2] 3, bl b42 [I x_1] 3, bl b11 [Value.func (.yield l_) #[] #[]] 124, ga G_ z_3 y_3]) z_2 y_2 ++ []) S95) rfl fu102 (fun w_ σ yv_ s_ s'_ l_ G_ A_ hH_ hG_ hk_ hd_ hy_ => (coal_all_1_ok hH_ hG_ (hk_ _ (List.mem_of_getElem? (i := 0) rfl)) hd_ hy_ (Link.refl _ _)).mono fun en_ w3_ ⟨u_, he_, A'_, hu_, hk2_, ho_, hf_⟩ => ⟨u_, he_, hk2_, A'_, ho_, hf_⟩) (List.forall_mem_cons.2 ⟨List.mem_of_getElem? (i := 0) rfl, (fun _ h_ => (List.not_mem_nil h_).elim)⟩) (fun _ => rfl) (List.forall_mem_cons.2 ⟨.inl rfl, (fun _ h_ => (List.not_mem_nil h_).elim)⟩) ?_ ?_ ?_
      · intro l97 oR98 oB99 Cr100 x_3 z_3 y_3 w101 b102 c103 z104 PP105 H S106 hlk107 ho108 hB109 hN110 hX111
        unfold coal_book_truths_1_r119 at H
        replace S106 : St w101 Cr100 w101 [bx l97 oR98, bl b77 [I x_2] 3, bl b42 [I x_1] 3, bl b11 [Value.func (.yield l_) #[] #[]] 124, ga G_ z_3 y_3] [bl b88 [I ((agetS q0.CoalBook.Eats (1 : Int)).Low), I ((agetS q0.CoalBook.Eats (1 : Int)).High)] 23, bl b53 [I ((agetS q0.CoalBook.Eats (0 : Int)).Low), I ((agetS q0.CoalBook.Eats (0 : Int)).High)] 23, bl b18 [I q0.CoalBook.Heap.Low, I q0.CoalBook.Heap.High] 23, bl b1 ([I q0.CoalBook.Heap.Low, I q0.CoalBook.Heap.High] ++ (sgE eSpan q0.CoalBook.Eats 2 ++ (sg q0.CoalBook.Extra 3 ++ [SL A2 q0.CoalBook.Days.length c3, I q0.CoalBook.Collier.Low, I q0.CoalBook.Collier.High, I q0.CoalBook.Brings, SL A5 q0.CoalBook.Dips.length c6, Value.map m8]))) 92, rd eCoalDay 3 A2 c3 q0.CoalBook.Days, rd eCoalDip 3 A5 c6 q0.CoalBook.Dips, mpo ekG iE m8 q0.costs_] := S106
        refine reg ?_
        refine p_all in3 rfl S106 fun b112 w113 S114 => ?_
        refine p_st sz3 S114 (i := 0) rfl rfl (rfl : _ = I x_3) rfl rfl fun w115 S116 => ?_
        refine wp_nil ?_
        refine hB109 _ _ 1 _ S116 rfl fun w117 S118 => ?_
        replace S118 : St w101 Cr100 w117 [bl b112 [I x_3] 3, bx l97 oB99, bl b77 [I x_2] 3, bl b42 [I x_1] 3, bl b11 [Value.func (.yield l_) #[] #[]] 124, ga G_ z_3 y_3] [bl b88 [I ((agetS q0.CoalBook.Eats (1 : Int)).Low), I ((agetS q0.CoalBook.Eats (1 : Int)).High)] 23, bl b53 [I ((agetS q0.CoalBook.Eats (0 : Int)).Low), I ((agetS q0.CoalBook.Eats (0 : Int)).High)] 23, bl b18 [I q0.CoalBook.Heap.Low, I q0.CoalBook.Heap.High] 23, bl b1 ([I q0.CoalBook.Heap.Low, I q0.CoalBook.Heap.High] ++ (sgE eSpan q0.CoalBook.Eats 2 ++ (sg q0.CoalBook.Extra 3 ++ [SL A2 q0.CoalBook.Days.length c3, I q0.CoalBook.Collier.Low, I q0.CoalBook.Collier.High, I q0.CoalBook.Brings, SL A5 q0.CoalBook.Dips.length c6, Value.map m8]))) 92, rd eCoalDay 3 A2 c3 q0.CoalBook.Days, rd eCoalDip 3 A5 c6 q0.CoalBook.Dips, mpo ekG iE m8 q0.costs_] := S118
        refine c_block ?_
        refine c_seq ?_
        refine reg ?_
        refine p_fld fl92_0 rfl ?_
        refine p_fld fl29_4 rfl ?_
        refine p_ldP (vs := [I q0.CoalBook.Collier.Low, I q0.CoalBook.Collier.High]) ty23 sz23 (S118.atP (i := 3) rfl) rfl rfl rfl ?_
        obtain ⟨r119, h120, H⟩ := bindS H
        refine p_cal (coal_all_ok h120) fu96 rfl ?_
        rintro _ w121 ⟨b123, rfl, k122, ⟨o124, n125⟩, _⟩
        have S126 := S118.addNew k122 o124 n125
        refine wp_nil ?_
        refine c_block ?_
        have S127 := S126.fix (i := 0) rfl
        obtain ⟨r128, h129, H⟩ := bindS H

        have S131 := S127.pk [0, 2, 3, 4, 5, 1] (by decide) [0, 1, 2, 3, 4, 5, 6, 7] rfl rfl
        have S130 := S131
        refine c_rangeG (α := σ) (β := Asr) (ε := Int) (K := [bl b123 [I q0.CoalBook.Collier.Low, I q0.CoalBook.Collier.High] 23]) (MK := fun _ => []) (XR := fun _ => [bx l97 oB99]) (it := fun {σ} yv s_ => coal_all_1 s_ q0.CoalBook.Collier yv) (enc := yE0) (coal_book_truths_1_r118 q0 x_2 x_3 x_1 yv) [.ret] (fun z_4 y_4 => [bl b112 [I x_3] 3, bl b77 [I x_2] 3, bl b42 [I x_1] 3, bl b11 [Value.func (.yield l_) #[] #[]] 124, ga G_ z_4 y_4]) z_3 y_3 h129 (ent_some ho108 (X0 := (fun z_4 y_4 => [bl b112 [I x_3] 3, bl b77 [I x_2] 3, bl b42 [I x_1] 3, bl b11 [Value.func (.yield l_) #[] #[]] 124, ga G_ z_4 y_4]) z_3 y_3 ++ []) S130) rfl fu102 (fun w_ σ yv_ s_ s'_ l_ G_ A_ hH_ hG_ hk_ hd_ hy_ => (coal_all_1_ok hH_ hG_ (hk_ _ (List.mem_of_getElem? (i := 0) rfl)) hd_ hy_ (Link.refl _ _)).mono fun en_ w3_ ⟨u_, he_, A'_, hu_, hk2_, ho_, hf_⟩ => ⟨u_, he_, hk2_, A'_, ho_, hf_⟩) (List.forall_mem_cons.2 ⟨List.mem_of_getElem? (i := 0) rfl, (fun _ h_ => (List.not_mem_nil h_).elim)⟩) (fun _ => rfl) (List.forall_mem_cons.2 ⟨.inl rfl, (fun _ h_ => (List.not_mem_nil h_).elim)⟩) ?_ ?_ ?_
        · intro l132 oR133 oB134 Cr135 x_4 z_4 y_4 w136 b137 c138 z139 PP140 H S141 hlk142 ho143 hB144 hN145 hX146
          unfold coal_book_truths_1_r118 at H
          replace S141 : St w136 Cr135 w136 [bx l132 oR133, bl b112 [I x_3] 3, bl b77 [I x_2] 3, bl b42 [I x_1] 3, bl b11 [Value.func (.yield l_) #[] #[]] 124, ga G_ z_4 y_4] [bl b123 [I q0.CoalBook.Collier.Low, I q0.CoalBook.Collier.High] 23, bl b88 [I ((agetS q0.CoalBook.Eats (1 : Int)).Low), I ((agetS q0.CoalBook.Eats (1 : Int)).High)] 23, bl b53 [I ((agetS q0.CoalBook.Eats (0 : Int)).Low), I ((agetS q0.CoalBook.Eats (0 : Int)).High)] 23, bl b18 [I q0.CoalBook.Heap.Low, I q0.CoalBook.Heap.High] 23, bl b1 ([I q0.CoalBook.Heap.Low, I q0.CoalBook.Heap.High] ++ (sgE eSpan q0.CoalBook.Eats 2 ++ (sg q0.CoalBook.Extra 3 ++ [SL A2 q0.CoalBook.Days.length c3, I q0.CoalBook.Collier.Low, I q0.CoalBook.Collier.High, I q0.CoalBook.Brings, SL A5 q0.CoalBook.Dips.length c6, Value.map m8]))) 92, rd eCoalDay 3 A2 c3 q0.CoalBook.Days, rd eCoalDip 3 A5 c6 q0.CoalBook.Dips, mpo ekG iE m8 q0.costs_] := S141
          refine reg ?_
          refine p_aI rfl ?_
          refine wp_nil ?_
          refine hB144 _ _ 0 _ S141 rfl fun w147 S148 => ?_
          replace S148 : St w136 Cr135 w147 [bx l132 oB134, bl b112 [I x_3] 3, bl b77 [I x_2] 3, bl b42 [I x_1] 3, bl b11 [Value.func (.yield l_) #[] #[]] 124, ga G_ z_4 y_4] [bl b123 [I q0.CoalBook.Collier.Low, I q0.CoalBook.Collier.High] 23, bl b88 [I ((agetS q0.CoalBook.Eats (1 : Int)).Low), I ((agetS q0.CoalBook.Eats (1 : Int)).High)] 23, bl b53 [I ((agetS q0.CoalBook.Eats (0 : Int)).Low), I ((agetS q0.CoalBook.Eats (0 : Int)).High)] 23, bl b18 [I q0.CoalBook.Heap.Low, I q0.CoalBook.Heap.High] 23, bl b1 ([I q0.CoalBook.Heap.Low, I q0.CoalBook.Heap.High] ++ (sgE eSpan q0.CoalBook.Eats 2 ++ (sg q0.CoalBook.Extra 3 ++ [SL A2 q0.CoalBook.Days.length c3, I q0.CoalBook.Collier.Low, I q0.CoalBook.Collier.High, I q0.CoalBook.Brings, SL A5 q0.CoalBook.Dips.length c6, Value.map m8]))) 92, rd eCoalDay 3 A2 c3 q0.CoalBook.Days, rd eCoalDip 3 A5 c6 q0.CoalBook.Dips, mpo ekG iE m8 q0.costs_] := S148
          refine c_block ?_
          refine c_seq ?_
          refine reg ?_
          refine p_ldA ty92 sz92 (S148.atP (i := 4) rfl) rfl rfl ?_
          refine p_ld ty3 (S148.atX (i := 2) rfl) rfl rfl ?_
          refine p_ld ty3 (S148.atX (i := 1) rfl) rfl rfl ?_
          refine p_bldA (z := [I 0, I 0]) (cs := [I x_2, I x_3]) ba105 (rfl : _ = [(0, I x_2), (1, I x_3)]) (by kernel_rfl) ?_
          refine p_mI rfl ?_
          refine p_bld (cs := [I x_2, I x_3, I x_4] ++ (sg (List.replicate 6 0) 6 ++ sg (List.replicate 6 0) 6)) st108 (rfl : _ = [(0, AG [I x_2, I x_3]), (1, I x_4)]) (by kernel_rfl) ?_
          refine p_ld ty3 (S148.atX (i := 3) rfl) rfl rfl ?_
          obtain ⟨r149, h150, H⟩ := bindS H
          refine p_cal (coal_book_blown_ok h150 (S148.atP (i := 5) rfl) (S148.atP (i := 6) rfl) (S148.atP (i := 7) rfl)) fu97 rfl ?_
          rintro _ w151 ⟨b153, b154, b155, rfl, k152, ⟨o156, n157⟩, ⟨o158, n159⟩, ⟨o160, n161⟩, _⟩
          have S162 := S148.callN k152 [bl b153 ([I q0.CoalBook.Heap.Low, I q0.CoalBook.Heap.High] ++ (sgE eSpan q0.CoalBook.Eats 2 ++ (sg q0.CoalBook.Extra 3 ++ [SL A2 q0.CoalBook.Days.length c3, I q0.CoalBook.Collier.Low, I q0.CoalBook.Collier.High, I q0.CoalBook.Brings, SL A5 q0.CoalBook.Dips.length c6, Value.map m8]))) 92, bl b154 (sg ((Coal_truth.mk [x_2, x_3] x_4 (List.replicate 6 0) (List.replicate 6 0)).eats_) 2 ++ ([I ((Coal_truth.mk [x_2, x_3] x_4 (List.replicate 6 0) (List.replicate 6 0)).collier_)] ++ (sg ((Coal_truth.mk [x_2, x_3] x_4 (List.replicate 6 0) (List.replicate 6 0)).winds_) 6 ++ sg ((Coal_truth.mk [x_2, x_3] x_4 (List.replicate 6 0) (List.replicate 6 0)).coal_) 6))) 108, bl b155 [I x_1] 3] (List.forall_mem_cons.2 ⟨⟨o156, New.inL n157⟩, (List.forall_mem_cons.2 ⟨⟨o158, New.inL n159⟩, (List.forall_mem_cons.2 ⟨⟨o160, New.inL n161⟩, (fun _ h_ => (List.not_mem_nil h_).elim)⟩)⟩)⟩)
          refine wp_nil ?_
          refine c_block ?_
          obtain ⟨r163, h164, H⟩ := bindS H

          have S166 := S162.pk [1, 2, 3, 4, 5, 0] (by decide) [0, 1, 2, 3, 4, 5, 6, 7, 8, 9, 10] rfl rfl
          have S165 := S166
          refine c_rangeG (α := σ) (β := Asr) (ε := Coal_truth) (K := [bl b155 [I x_1] 3, bl b154 (sg ((Coal_truth.mk [x_2, x_3] x_4 (List.replicate 6 0) (List.replicate 6 0)).eats_) 2 ++ ([I ((Coal_truth.mk [x_2, x_3] x_4 (List.replicate 6 0) (List.replicate 6 0)).collier_)] ++ (sg ((Coal_truth.mk [x_2, x_3] x_4 (List.replicate 6 0) (List.replicate 6 0)).winds_) 6 ++ sg ((Coal_truth.mk [x_2, x_3] x_4 (List.replicate 6 0) (List.replicate 6 0)).coal_) 6))) 108, bl b153 ([I q0.CoalBook.Heap.Low, I q0.CoalBook.Heap.High] ++ (sgE eSpan q0.CoalBook.Eats 2 ++ (sg q0.CoalBook.Extra 3 ++ [SL A2 q0.CoalBook.Days.length c3, I q0.CoalBook.Collier.Low, I q0.CoalBook.Collier.High, I q0.CoalBook.Brings, SL A5 q0.CoalBook.Dips.length c6, Value.map m8]))) 92, rd eCoalDay 3 A2 c3 q0.CoalBook.Days, rd eCoalDip 3 A5 c6 q0.CoalBook.Dips, mpo ekG iE m8 q0.costs_]) (MK := fun _ => []) (XR := fun _ => [bx l132 oB134]) (it := fun {σ} yv s_ => coal_book_blown_1 s_ q0 (Coal_truth.mk [x_2, x_3] x_4 (List.replicate 6 0) (List.replicate 6 0)) x_1 yv) (enc := yE1) (coal_book_truths_1_r117 yv) [.ret] (fun z_5 y_5 => [bl b112 [I x_3] 3, bl b77 [I x_2] 3, bl b42 [I x_1] 3, bl b11 [Value.func (.yield l_) #[] #[]] 124, ga G_ z_5 y_5]) z_4 y_4 h164 (ent_some ho143 (X0 := (fun z_5 y_5 => [bl b112 [I x_3] 3, bl b77 [I x_2] 3, bl b42 [I x_1] 3, bl b11 [Value.func (.yield l_) #[] #[]] 124, ga G_ z_5 y_5]) z_4 y_4 ++ []) S165) rfl fu103 (fun w_ σ yv_ s_ s'_ l_ G_ A_ hH_ hG_ hk_ hd_ hy_ => (coal_book_blown_1_ok hH_ hG_ (hk_ _ (List.mem_of_getElem? (i := 0) rfl)) (hk_ _ (List.mem_of_getElem? (i := 1) rfl)) (hk_ _ (List.mem_of_getElem? (i := 2) rfl)) (hk_ _ (List.mem_of_getElem? (i := 3) rfl)) (hk_ _ (List.mem_of_getElem? (i := 4) rfl)) (hk_ _ (List.mem_of_getElem? (i := 5) rfl)) hd_ hy_ (Link.refl _ _)).mono fun en_ w3_ ⟨u_, he_, A'_, hu_, hk2_, ho_, hf_⟩ => ⟨u_, he_, hk2_, A'_, ho_, hf_⟩) (List.forall_mem_cons.2 ⟨List.mem_of_getElem? (i := 2) rfl, (List.forall_mem_cons.2 ⟨List.mem_of_getElem? (i := 1) rfl, (List.forall_mem_cons.2 ⟨List.mem_of_getElem? (i := 0) rfl, (List.forall_mem_cons.2 ⟨List.mem_of_getElem? (i := 8) rfl, (List.forall_mem_cons.2 ⟨List.mem_of_getElem? (i := 9) rfl, (List.forall_mem_cons.2 ⟨List.mem_of_getElem? (i := 10) rfl, (fun _ h_ => (List.not_mem_nil h_).elim)⟩)⟩)⟩)⟩)⟩)⟩) (fun _ => rfl) (List.forall_mem_cons.2 ⟨.inl rfl, (fun _ h_ => (List.not_mem_nil h_).elim)⟩) ?_ ?_ ?_
          · intro l167 oR168 oB169 Cr170 x_5 z_5 y_5 w171 b172 c173 z174 PP175 H S176 hlk177 ho178 hB179 hN180 hX181
            unfold coal_book_truths_1_r117 at H
            replace S176 : St w171 Cr170 w171 [bx l167 oR168, bl b112 [I x_3] 3, bl b77 [I x_2] 3, bl b42 [I x_1] 3, bl b11 [Value.func (.yield l_) #[] #[]] 124, ga G_ z_5 y_5] [bl b153 ([I q0.CoalBook.Heap.Low, I q0.CoalBook.Heap.High] ++ (sgE eSpan q0.CoalBook.Eats 2 ++ (sg q0.CoalBook.Extra 3 ++ [SL A2 q0.CoalBook.Days.length c3, I q0.CoalBook.Collier.Low, I q0.CoalBook.Collier.High, I q0.CoalBook.Brings, SL A5 q0.CoalBook.Dips.length c6, Value.map m8]))) 92, bl b154 (sg ((Coal_truth.mk [x_2, x_3] x_4 (List.replicate 6 0) (List.replicate 6 0)).eats_) 2 ++ ([I ((Coal_truth.mk [x_2, x_3] x_4 (List.replicate 6 0) (List.replicate 6 0)).collier_)] ++ (sg ((Coal_truth.mk [x_2, x_3] x_4 (List.replicate 6 0) (List.replicate 6 0)).winds_) 6 ++ sg ((Coal_truth.mk [x_2, x_3] x_4 (List.replicate 6 0) (List.replicate 6 0)).coal_) 6))) 108, bl b155 [I x_1] 3, bl b123 [I q0.CoalBook.Collier.Low, I q0.CoalBook.Collier.High] 23, bl b88 [I ((agetS q0.CoalBook.Eats (1 : Int)).Low), I ((agetS q0.CoalBook.Eats (1 : Int)).High)] 23, bl b53 [I ((agetS q0.CoalBook.Eats (0 : Int)).Low), I ((agetS q0.CoalBook.Eats (0 : Int)).High)] 23, bl b18 [I q0.CoalBook.Heap.Low, I q0.CoalBook.Heap.High] 23, bl b1 ([I q0.CoalBook.Heap.Low, I q0.CoalBook.Heap.High] ++ (sgE eSpan q0.CoalBook.Eats 2 ++ (sg q0.CoalBook.Extra 3 ++ [SL A2 q0.CoalBook.Days.length c3, I q0.CoalBook.Collier.Low, I q0.CoalBook.Collier.High, I q0.CoalBook.Brings, SL A5 q0.CoalBook.Dips.length c6, Value.map m8]))) 92, rd eCoalDay 3 A2 c3 q0.CoalBook.Days, rd eCoalDip 3 A5 c6 q0.CoalBook.Dips, mpo ekG iE m8 q0.costs_] := S176
            refine reg ?_
            refine p_allA in108 S176 fun b182 w183 S184 => ?_
            refine p_stP (pre := []) (old := sg (List.replicate 2 0) 2 ++ ([I 0] ++ (sg (List.replicate 6 0) 6 ++ sg (List.replicate 6 0) 6))) (post := []) (vs := sg x_5.eats_ 2 ++ ([I x_5.collier_] ++ (sg x_5.winds_ 6 ++ sg x_5.coal_ 6))) sz108 S184 (i := 0) rfl rfl rfl rfl (rfl : _ = AG (sg x_5.eats_ 2 ++ ([I x_5.collier_] ++ (sg x_5.winds_ 6 ++ sg x_5.coal_ 6)))) rfl rfl rfl rfl fun w185 S186 => ?_
            refine wp_nil ?_
            refine hB179 _ _ 1 _ S186 rfl fun w187 S188 => ?_
            replace S188 : St w171 Cr170 w187 [bl b182 (sg x_5.eats_ 2 ++ ([I x_5.collier_] ++ (sg x_5.winds_ 6 ++ sg x_5.coal_ 6))) 108, bx l167 oB169, bl b112 [I x_3] 3, bl b77 [I x_2] 3, bl b42 [I x_1] 3, bl b11 [Value.func (.yield l_) #[] #[]] 124, ga G_ z_5 y_5] [bl b153 ([I q0.CoalBook.Heap.Low, I q0.CoalBook.Heap.High] ++ (sgE eSpan q0.CoalBook.Eats 2 ++ (sg q0.CoalBook.Extra 3 ++ [SL A2 q0.CoalBook.Days.length c3, I q0.CoalBook.Collier.Low, I q0.CoalBook.Collier.High, I q0.CoalBook.Brings, SL A5 q0.CoalBook.Dips.length c6, Value.map m8]))) 92, bl b154 (sg ((Coal_truth.mk [x_2, x_3] x_4 (List.replicate 6 0) (List.replicate 6 0)).eats_) 2 ++ ([I ((Coal_truth.mk [x_2, x_3] x_4 (List.replicate 6 0) (List.replicate 6 0)).collier_)] ++ (sg ((Coal_truth.mk [x_2, x_3] x_4 (List.replicate 6 0) (List.replicate 6 0)).winds_) 6 ++ sg ((Coal_truth.mk [x_2, x_3] x_4 (List.replicate 6 0) (List.replicate 6 0)).coal_) 6))) 108, bl b155 [I x_1] 3, bl b123 [I q0.CoalBook.Collier.Low, I q0.CoalBook.Collier.High] 23, bl b88 [I ((agetS q0.CoalBook.Eats (1 : Int)).Low), I ((agetS q0.CoalBook.Eats (1 : Int)).High)] 23, bl b53 [I ((agetS q0.CoalBook.Eats (0 : Int)).Low), I ((agetS q0.CoalBook.Eats (0 : Int)).High)] 23, bl b18 [I q0.CoalBook.Heap.Low, I q0.CoalBook.Heap.High] 23, bl b1 ([I q0.CoalBook.Heap.Low, I q0.CoalBook.Heap.High] ++ (sgE eSpan q0.CoalBook.Eats 2 ++ (sg q0.CoalBook.Extra 3 ++ [SL A2 q0.CoalBook.Days.length c3, I q0.CoalBook.Collier.Low, I q0.CoalBook.Collier.High, I q0.CoalBook.Brings, SL A5 q0.CoalBook.Dips.length c6, Value.map m8]))) 92, rd eCoalDay 3 A2 c3 q0.CoalBook.Days, rd eCoalDip 3 A5 c6 q0.CoalBook.Dips, mpo ekG iE m8 q0.costs_] := S188
            refine c_block ?_
            refine c_seq ?_
            refine reg ?_
            refine p_ld ty124 (S188.atX (i := 5) rfl) rfl rfl ?_
            refine p_ldA ty108 sz108 (S188.atX (i := 0) rfl) rfl rfl ?_
            obtain ⟨r189, h190, H⟩ := bindS H
            refine o_yieldG (x := x_5) (b := r189.1) (s2 := r189.2) h190 hy_ (Link.trans (Link.trans (Link.trans (Link.trans (Link.trans hl_ hlk37) hlk72) hlk107) hlk142) hlk177) S188 (j := 6) rfl (rfl : _ = Value.func (.yield l_) #[] #[]) rfl fun A191 w192 S193 => ?_
            refine p_not rfl ?_
            refine wp_nil ?_
            refine c_cond rfl (fun c194 => ?_) (fun c194 => ?_)
            · replace H := condT c194 H
              refine c_ret ?_
              have S195 := S193.pk [1, 2, 3, 4, 5, 6] (by decide) [0, 1, 2, 3, 4, 5, 6, 7, 8, 9, 10] rfl rfl
              exact hX181 0 .ret _ _ r189.2 A191 rfl S195 (Option.some.inj H)
            · replace H := condF c194 H
              refine c_skip ?_
              have S195 := S193.pk [1, 2, 3, 4, 5, 6] (by decide) [0, 1, 2, 3, 4, 5, 6, 7, 8, 9, 10] rfl rfl
              exact hN180 _ _ r189.2 A191 S195 (Option.some.inj H)
          · intro hc201
            intro l195 D196 o197 y198 w199 S200
            have S202 : St w136 Cr135 w199 [bl b112 [I x_3] 3, bl b77 [I x_2] 3, bl b42 [I x_1] 3, bl b11 [Value.func (.yield l_) #[] #[]] 124, ga G_ r163.2 y198, bx l132 oB134] [bl b153 ([I q0.CoalBook.Heap.Low, I q0.CoalBook.Heap.High] ++ (sgE eSpan q0.CoalBook.Eats 2 ++ (sg q0.CoalBook.Extra 3 ++ [SL A2 q0.CoalBook.Days.length c3, I q0.CoalBook.Collier.Low, I q0.CoalBook.Collier.High, I q0.CoalBook.Brings, SL A5 q0.CoalBook.Dips.length c6, Value.map m8]))) 92, bl b154 (sg ((Coal_truth.mk [x_2, x_3] x_4 (List.replicate 6 0) (List.replicate 6 0)).eats_) 2 ++ ([I ((Coal_truth.mk [x_2, x_3] x_4 (List.replicate 6 0) (List.replicate 6 0)).collier_)] ++ (sg ((Coal_truth.mk [x_2, x_3] x_4 (List.replicate 6 0) (List.replicate 6 0)).winds_) 6 ++ sg ((Coal_truth.mk [x_2, x_3] x_4 (List.replicate 6 0) (List.replicate 6 0)).coal_) 6))) 108, bl b155 [I x_1] 3, bl b123 [I q0.CoalBook.Collier.Low, I q0.CoalBook.Collier.High] 23, bl b88 [I ((agetS q0.CoalBook.Eats (1 : Int)).Low), I ((agetS q0.CoalBook.Eats (1 : Int)).High)] 23, bl b53 [I ((agetS q0.CoalBook.Eats (0 : Int)).Low), I ((agetS q0.CoalBook.Eats (0 : Int)).High)] 23, bl b18 [I q0.CoalBook.Heap.Low, I q0.CoalBook.Heap.High] 23, bl b1 ([I q0.CoalBook.Heap.Low, I q0.CoalBook.Heap.High] ++ (sgE eSpan q0.CoalBook.Eats 2 ++ (sg q0.CoalBook.Extra 3 ++ [SL A2 q0.CoalBook.Days.length c3, I q0.CoalBook.Collier.Low, I q0.CoalBook.Collier.High, I q0.CoalBook.Brings, SL A5 q0.CoalBook.Dips.length c6, Value.map m8]))) 92, rd eCoalDay 3 A2 c3 q0.CoalBook.Days, rd eCoalDip 3 A5 c6 q0.CoalBook.Dips, mpo ekG iE m8 q0.costs_] := St.tail1 S200
            replace H := condT (by rw [hc201]; rfl) H
            have S203 := S202.pk [5, 0, 1, 2, 3, 4] (by decide) [3, 4, 5, 6, 7, 8, 9, 10] rfl rfl
            exact hN145 _ _ r163.2 y198 S203 (Option.some.inj H)
          · intro k203 c204 hk205 hc206
            rcases k203 with _ | k203
            · obtain rfl := Option.some.inj hk205
              intro l207 D208 o209 y210 w211 S212
              have S214 : St w136 Cr135 w211 [bl b112 [I x_3] 3, bl b77 [I x_2] 3, bl b42 [I x_1] 3, bl b11 [Value.func (.yield l_) #[] #[]] 124, ga G_ r163.2 y210, bx l132 oB134] [bl b153 ([I q0.CoalBook.Heap.Low, I q0.CoalBook.Heap.High] ++ (sgE eSpan q0.CoalBook.Eats 2 ++ (sg q0.CoalBook.Extra 3 ++ [SL A2 q0.CoalBook.Days.length c3, I q0.CoalBook.Collier.Low, I q0.CoalBook.Collier.High, I q0.CoalBook.Brings, SL A5 q0.CoalBook.Dips.length c6, Value.map m8]))) 92, bl b154 (sg ((Coal_truth.mk [x_2, x_3] x_4 (List.replicate 6 0) (List.replicate 6 0)).eats_) 2 ++ ([I ((Coal_truth.mk [x_2, x_3] x_4 (List.replicate 6 0) (List.replicate 6 0)).collier_)] ++ (sg ((Coal_truth.mk [x_2, x_3] x_4 (List.replicate 6 0) (List.replicate 6 0)).winds_) 6 ++ sg ((Coal_truth.mk [x_2, x_3] x_4 (List.replicate 6 0) (List.replicate 6 0)).coal_) 6))) 108, bl b155 [I x_1] 3, bl b123 [I q0.CoalBook.Collier.Low, I q0.CoalBook.Collier.High] 23, bl b88 [I ((agetS q0.CoalBook.Eats (1 : Int)).Low), I ((agetS q0.CoalBook.Eats (1 : Int)).High)] 23, bl b53 [I ((agetS q0.CoalBook.Eats (0 : Int)).Low), I ((agetS q0.CoalBook.Eats (0 : Int)).High)] 23, bl b18 [I q0.CoalBook.Heap.Low, I q0.CoalBook.Heap.High] 23, bl b1 ([I q0.CoalBook.Heap.Low, I q0.CoalBook.Heap.High] ++ (sgE eSpan q0.CoalBook.Eats 2 ++ (sg q0.CoalBook.Extra 3 ++ [SL A2 q0.CoalBook.Days.length c3, I q0.CoalBook.Collier.Low, I q0.CoalBook.Collier.High, I q0.CoalBook.Brings, SL A5 q0.CoalBook.Dips.length c6, Value.map m8]))) 92, rd eCoalDay 3 A2 c3 q0.CoalBook.Days, rd eCoalDip 3 A5 c6 q0.CoalBook.Dips, mpo ekG iE m8 q0.costs_] := St.tail1 S212
              replace H := condF (by rw [hc206]; rfl) H
              refine c_ret ?_
              have S215 := S214.pk [5, 0, 1, 2, 3, 4] (by decide) [3, 4, 5, 6, 7, 8, 9, 10] rfl rfl
              exact hX146 0 .ret _ _ r163.2 y210 rfl S215 (Option.some.inj H)
            · cases hk205
        · intro hc221
          intro l215 D216 o217 y218 w219 S220
          have S222 : St w101 Cr100 w219 [bl b112 [I x_3] 3, bl b77 [I x_2] 3, bl b42 [I x_1] 3, bl b11 [Value.func (.yield l_) #[] #[]] 124, ga G_ r128.2 y218, bx l97 oB99] [bl b123 [I q0.CoalBook.Collier.Low, I q0.CoalBook.Collier.High] 23, bl b88 [I ((agetS q0.CoalBook.Eats (1 : Int)).Low), I ((agetS q0.CoalBook.Eats (1 : Int)).High)] 23, bl b53 [I ((agetS q0.CoalBook.Eats (0 : Int)).Low), I ((agetS q0.CoalBook.Eats (0 : Int)).High)] 23, bl b18 [I q0.CoalBook.Heap.Low, I q0.CoalBook.Heap.High] 23, bl b1 ([I q0.CoalBook.Heap.Low, I q0.CoalBook.Heap.High] ++ (sgE eSpan q0.CoalBook.Eats 2 ++ (sg q0.CoalBook.Extra 3 ++ [SL A2 q0.CoalBook.Days.length c3, I q0.CoalBook.Collier.Low, I q0.CoalBook.Collier.High, I q0.CoalBook.Brings, SL A5 q0.CoalBook.Dips.length c6, Value.map m8]))) 92, rd eCoalDay 3 A2 c3 q0.CoalBook.Days, rd eCoalDip 3 A5 c6 q0.CoalBook.Dips, mpo ekG iE m8 q0.costs_] := St.tail1 S220
          replace H := condT (by rw [hc221]; rfl) H
          have S223 := S222.pk [5, 1, 2, 3, 4] (by decide) [1, 2, 3, 4, 5, 6, 7] rfl rfl
          exact hN110 _ _ r128.2 y218 S223 (Option.some.inj H)
        · intro k223 c224 hk225 hc226
          rcases k223 with _ | k223
          · obtain rfl := Option.some.inj hk225
            intro l227 D228 o229 y230 w231 S232
            have S234 : St w101 Cr100 w231 [bl b112 [I x_3] 3, bl b77 [I x_2] 3, bl b42 [I x_1] 3, bl b11 [Value.func (.yield l_) #[] #[]] 124, ga G_ r128.2 y230, bx l97 oB99] [bl b123 [I q0.CoalBook.Collier.Low, I q0.CoalBook.Collier.High] 23, bl b88 [I ((agetS q0.CoalBook.Eats (1 : Int)).Low), I ((agetS q0.CoalBook.Eats (1 : Int)).High)] 23, bl b53 [I ((agetS q0.CoalBook.Eats (0 : Int)).Low), I ((agetS q0.CoalBook.Eats (0 : Int)).High)] 23, bl b18 [I q0.CoalBook.Heap.Low, I q0.CoalBook.Heap.High] 23, bl b1 ([I q0.CoalBook.Heap.Low, I q0.CoalBook.Heap.High] ++ (sgE eSpan q0.CoalBook.Eats 2 ++ (sg q0.CoalBook.Extra 3 ++ [SL A2 q0.CoalBook.Days.length c3, I q0.CoalBook.Collier.Low, I q0.CoalBook.Collier.High, I q0.CoalBook.Brings, SL A5 q0.CoalBook.Dips.length c6, Value.map m8]))) 92, rd eCoalDay 3 A2 c3 q0.CoalBook.Days, rd eCoalDip 3 A5 c6 q0.CoalBook.Dips, mpo ekG iE m8 q0.costs_] := St.tail1 S232
            replace H := condF (by rw [hc226]; rfl) H
            refine c_ret ?_
            have S235 := S234.pk [5, 1, 2, 3, 4] (by decide) [1, 2, 3, 4, 5, 6, 7] rfl rfl
            exact hX111 0 .ret _ _ r128.2 y230 rfl S235 (Option.some.inj H)
          · cases hk225
      · intro hc241
        intro l235 D236 o237 y238 w239 S240
        have S242 : St w66 Cr65 w239 [bl b77 [I x_2] 3, bl b42 [I x_1] 3, bl b11 [Value.func (.yield l_) #[] #[]] 124, ga G_ r93.2 y238, bx l62 oB64] [bl b88 [I ((agetS q0.CoalBook.Eats (1 : Int)).Low), I ((agetS q0.CoalBook.Eats (1 : Int)).High)] 23, bl b53 [I ((agetS q0.CoalBook.Eats (0 : Int)).Low), I ((agetS q0.CoalBook.Eats (0 : Int)).High)] 23, bl b18 [I q0.CoalBook.Heap.Low, I q0.CoalBook.Heap.High] 23, bl b1 ([I q0.CoalBook.Heap.Low, I q0.CoalBook.Heap.High] ++ (sgE eSpan q0.CoalBook.Eats 2 ++ (sg q0.CoalBook.Extra 3 ++ [SL A2 q0.CoalBook.Days.length c3, I q0.CoalBook.Collier.Low, I q0.CoalBook.Collier.High, I q0.CoalBook.Brings, SL A5 q0.CoalBook.Dips.length c6, Value.map m8]))) 92, rd eCoalDay 3 A2 c3 q0.CoalBook.Days, rd eCoalDip 3 A5 c6 q0.CoalBook.Dips, mpo ekG iE m8 q0.costs_] := St.tail1 S240
        replace H := condT (by rw [hc241]; rfl) H
        have S243 := S242.pk [4, 1, 2, 3] (by decide) [1, 2, 3, 4, 5, 6] rfl rfl
        exact hN75 _ _ r93.2 y238 S243 (Option.some.inj H)
      · intro k243 c244 hk245 hc246
        rcases k243 with _ | k243
        · obtain rfl := Option.some.inj hk245
          intro l247 D248 o249 y250 w251 S252
          have S254 : St w66 Cr65 w251 [bl b77 [I x_2] 3, bl b42 [I x_1] 3, bl b11 [Value.func (.yield l_) #[] #[]] 124, ga G_ r93.2 y250, bx l62 oB64] [bl b88 [I ((agetS q0.CoalBook.Eats (1 : Int)).Low), I ((agetS q0.CoalBook.Eats (1 : Int)).High)] 23, bl b53 [I ((agetS q0.CoalBook.Eats (0 : Int)).Low), I ((agetS q0.CoalBook.Eats (0 : Int)).High)] 23, bl b18 [I q0.CoalBook.Heap.Low, I q0.CoalBook.Heap.High] 23, bl b1 ([I q0.CoalBook.Heap.Low, I q0.CoalBook.Heap.High] ++ (sgE eSpan q0.CoalBook.Eats 2 ++ (sg q0.CoalBook.Extra 3 ++ [SL A2 q0.CoalBook.Days.length c3, I q0.CoalBook.Collier.Low, I q0.CoalBook.Collier.High, I q0.CoalBook.Brings, SL A5 q0.CoalBook.Dips.length c6, Value.map m8]))) 92, rd eCoalDay 3 A2 c3 q0.CoalBook.Days, rd eCoalDip 3 A5 c6 q0.CoalBook.Dips, mpo ekG iE m8 q0.costs_] := St.tail1 S252
          replace H := condF (by rw [hc246]; rfl) H
          refine c_ret ?_
          have S255 := S254.pk [4, 1, 2, 3] (by decide) [1, 2, 3, 4, 5, 6] rfl rfl
          exact hX76 0 .ret _ _ r93.2 y250 rfl S255 (Option.some.inj H)
        · cases hk245
    · intro hc261
      intro l255 D256 o257 y258 w259 S260
      have S262 : St w31 Cr30 w259 [bl b42 [I x_1] 3, bl b11 [Value.func (.yield l_) #[] #[]] 124, ga G_ r58.2 y258, bx l27 oB29] [bl b53 [I ((agetS q0.CoalBook.Eats (0 : Int)).Low), I ((agetS q0.CoalBook.Eats (0 : Int)).High)] 23, bl b18 [I q0.CoalBook.Heap.Low, I q0.CoalBook.Heap.High] 23, bl b1 ([I q0.CoalBook.Heap.Low, I q0.CoalBook.Heap.High] ++ (sgE eSpan q0.CoalBook.Eats 2 ++ (sg q0.CoalBook.Extra 3 ++ [SL A2 q0.CoalBook.Days.length c3, I q0.CoalBook.Collier.Low, I q0.CoalBook.Collier.High, I q0.CoalBook.Brings, SL A5 q0.CoalBook.Dips.length c6, Value.map m8]))) 92, rd eCoalDay 3 A2 c3 q0.CoalBook.Days, rd eCoalDip 3 A5 c6 q0.CoalBook.Dips, mpo ekG iE m8 q0.costs_] := St.tail1 S260
      replace H := condT (by rw [hc261]; rfl) H
      have S263 := S262.pk [3, 1, 2] (by decide) [1, 2, 3, 4, 5] rfl rfl
      exact hN40 _ _ r58.2 y258 S263 (Option.some.inj H)
    · intro k263 c264 hk265 hc266
      rcases k263 with _ | k263
      · obtain rfl := Option.some.inj hk265
        intro l267 D268 o269 y270 w271 S272
        have S274 : St w31 Cr30 w271 [bl b42 [I x_1] 3, bl b11 [Value.func (.yield l_) #[] #[]] 124, ga G_ r58.2 y270, bx l27 oB29] [bl b53 [I ((agetS q0.CoalBook.Eats (0 : Int)).Low), I ((agetS q0.CoalBook.Eats (0 : Int)).High)] 23, bl b18 [I q0.CoalBook.Heap.Low, I q0.CoalBook.Heap.High] 23, bl b1 ([I q0.CoalBook.Heap.Low, I q0.CoalBook.Heap.High] ++ (sgE eSpan q0.CoalBook.Eats 2 ++ (sg q0.CoalBook.Extra 3 ++ [SL A2 q0.CoalBook.Days.length c3, I q0.CoalBook.Collier.Low, I q0.CoalBook.Collier.High, I q0.CoalBook.Brings, SL A5 q0.CoalBook.Dips.length c6, Value.map m8]))) 92, rd eCoalDay 3 A2 c3 q0.CoalBook.Days, rd eCoalDip 3 A5 c6 q0.CoalBook.Dips, mpo ekG iE m8 q0.costs_] := St.tail1 S272
        replace H := condF (by rw [hc266]; rfl) H
        refine c_ret ?_
        have S275 := S274.pk [3, 1, 2] (by decide) [1, 2, 3, 4, 5] rfl rfl
        exact hX41 0 .ret _ _ r58.2 y270 rfl S275 (Option.some.inj H)
      · cases hk265
  · intro hc281
    intro l275 D276 o277 y278 w279 S280
    have S282 : St w A_.fp w279 [bl b11 [Value.func (.yield l_) #[] #[]] 124, ga G_ r23.2 y278, bx D276 (.deferred (some []))] [bl b18 [I q0.CoalBook.Heap.Low, I q0.CoalBook.Heap.High] 23, bl b1 ([I q0.CoalBook.Heap.Low, I q0.CoalBook.Heap.High] ++ (sgE eSpan q0.CoalBook.Eats 2 ++ (sg q0.CoalBook.Extra 3 ++ [SL A2 q0.CoalBook.Days.length c3, I q0.CoalBook.Collier.Low, I q0.CoalBook.Collier.High, I q0.CoalBook.Brings, SL A5 q0.CoalBook.Dips.length c6, Value.map m8]))) 92, rd eCoalDay 3 A2 c3 q0.CoalBook.Days, rd eCoalDip 3 A5 c6 q0.CoalBook.Dips, mpo ekG iE m8 q0.costs_] := St.tail1 S280
    replace H := condT (by rw [hc281]; rfl) H
    obtain rfl := Option.some.inj H
    refine leave_markN S282 (i := 2) rfl fun w283 S284 => ?_
    show bodyPostM (Fr none) 0 Tryd.prog Tryd.f95 _ .normal _ _
    refine end_of (res0 rfl) ?_
    exact ⟨_, rfl, _, rfl, S284.keep, S284.atX (i := 1) rfl, fun b_ h_ => (S284.own _ (List.mem_of_getElem? (i := 1) rfl) b_ h_).symm⟩
  · intro k285 c286 hk287 hc288
    rcases k285 with _ | k285
    · obtain rfl := Option.some.inj hk287
      intro l289 D290 o291 y292 w293 S294
      have S296 : St w A_.fp w293 [bl b11 [Value.func (.yield l_) #[] #[]] 124, ga G_ r23.2 y292, bx D290 (.deferred (some []))] [bl b18 [I q0.CoalBook.Heap.Low, I q0.CoalBook.Heap.High] 23, bl b1 ([I q0.CoalBook.Heap.Low, I q0.CoalBook.Heap.High] ++ (sgE eSpan q0.CoalBook.Eats 2 ++ (sg q0.CoalBook.Extra 3 ++ [SL A2 q0.CoalBook.Days.length c3, I q0.CoalBook.Collier.Low, I q0.CoalBook.Collier.High, I q0.CoalBook.Brings, SL A5 q0.CoalBook.Dips.length c6, Value.map m8]))) 92, rd eCoalDay 3 A2 c3 q0.CoalBook.Days, rd eCoalDip 3 A5 c6 q0.CoalBook.Dips, mpo ekG iE m8 q0.costs_] := St.tail1 S294
      replace H := condF (by rw [hc288]; rfl) H
      refine c_ret ?_
      refine leave_mark S296 (i := 2) rfl fun w297 S298 => ?_
      obtain rfl := Option.some.inj H
      show bodyPostM (Fr none) 0 Tryd.prog Tryd.f95 _ .ret _ _
      refine ret_of (res0 rfl) ?_
      exact ⟨_, rfl, _, rfl, S298.keep, S298.atX (i := 1) rfl, fun b_ h_ => (S298.own _ (List.mem_of_getElem? (i := 1) rfl) b_ h_).symm⟩
    · cases hk287

def coal_book_truths (a0 : Coal_book) : Option Unit :=
  some ()

set_option maxRecDepth 100000 in
theorem coal_book_truths_ok {a0 : Coal_book} {A1 : Option Addr} {c2 : Nat} {A4 : Option Addr} {c5 : Nat} {m7 : Option Nat} {w : World} {r : Unit} (H : coal_book_truths a0 = some r) (h3 : (rd eCoalDay 3 A1 c2 a0.CoalBook.Days).ok w) (h6 : (rd eCoalDip 3 A4 c5 a0.CoalBook.Dips).ok w) (h8 : (mpo ekG iE m7 a0.costs_).ok w) : Calls Tryd.prog 78 #[AG ([I a0.CoalBook.Heap.Low, I a0.CoalBook.Heap.High] ++ (sgE eSpan a0.CoalBook.Eats 2 ++ (sg a0.CoalBook.Extra 3 ++ [SL A1 a0.CoalBook.Days.length c2, I a0.CoalBook.Collier.Low, I a0.CoalBook.Collier.High, I a0.CoalBook.Brings, SL A4 a0.CoalBook.Dips.length c5, Value.map m7])))] w fun en w_ => ∃ u_, en = .returned u_ ∧ ∃ b_1 : Nat, u_ = Value.func (.func 95) #[] #[P b_1 0] ∧ Keep0 w w_ ∧ ((bl b_1 ([I a0.CoalBook.Heap.Low, I a0.CoalBook.Heap.High] ++ (sgE eSpan a0.CoalBook.Eats 2 ++ (sg a0.CoalBook.Extra 3 ++ [SL A1 a0.CoalBook.Days.length c2, I a0.CoalBook.Collier.Low, I a0.CoalBook.Collier.High, I a0.CoalBook.Brings, SL A4 a0.CoalBook.Dips.length c5, Value.map m7]))) 92).ok w_ ∧ New w.heap.size (bl b_1 ([I a0.CoalBook.Heap.Low, I a0.CoalBook.Heap.High] ++ (sgE eSpan a0.CoalBook.Eats 2 ++ (sg a0.CoalBook.Extra 3 ++ [SL A1 a0.CoalBook.Days.length c2, I a0.CoalBook.Collier.Low, I a0.CoalBook.Collier.High, I a0.CoalBook.Brings, SL A4 a0.CoalBook.Dips.length c5, Value.map m7]))) 92)) ∧ True := by
  unfold coal_book_truths at H
  refine fn_of (n := 4) Tryd.func78 rfl rfl (Nat.le_of_ble_eq_true rfl) ?_
  have S : St w (fun _ => False) w [] [rd eCoalDay 3 A1 c2 a0.CoalBook.Days, rd eCoalDip 3 A4 c5 a0.CoalBook.Dips, mpo ekG iE m7 a0.costs_] := St.start w _ _ (List.forall_mem_cons.2 ⟨h3, (List.forall_mem_cons.2 ⟨h6, (List.forall_mem_cons.2 ⟨h8, (fun _ h_ => (List.not_mem_nil h_).elim)⟩)⟩)⟩)
  refine c_seq ?_
  refine reg ?_
  refine p_boxA rfl S fun b9 w10 S11 => ?_
  refine p_asg (rfl : _ = Value.nilFunc) ?_
  refine wp_nil ?_
  refine c_seq ?_
  refine reg ?_
  refine o_fun (rfl : _ = []) (rfl : _ = [P b9 0]) ?_
  refine p_asg (rfl : _ = Value.func (.func 95) #[] #[P b9 0]) ?_
  refine wp_nil ?_
  obtain rfl := Option.some.inj H
  refine c_ret ?_; show bodyPostM (Fr none) 0 Tryd.prog Tryd.f78 _ .ret _ _
  refine ret_of (res1 rfl (rvT (rfl : _ = Value.func (.func 95) #[] #[P b9 0]))) ?_
  exact ⟨_, rfl, b9, rfl, S11.keep, ⟨S11.atX (i := 0) rfl, S11.newX (i := 0) rfl⟩, trivial⟩

def sl_Min_int_int_l1 (a0 : List Int) (rec_z_1 : (Int × Int) → Option Int) (z_1 : Int × Int) : Option Int :=
  bif decide (z_1.2 < (a0.length : Int)) then ((getI a0 z_1.2).bind fun r12 =>
  rec_z_1 ((if r12 < z_1.1 then r12 else z_1.1), wr (z_1.2 + 1)))
  else (some z_1.1)

def sl_Min_int_int (a0 : List Int) : Option Int :=
  bif decide ((a0.length : Int) < 1) then (none)
  else ((getI a0 0).bind fun r5 =>
  loopF (sl_Min_int_int_l1 a0) big (r5, 1))

set_option maxRecDepth 100000 in
theorem sl_Min_int_int_ok {a0 : List Int} {A1 : Option Addr} {c2 : Nat} {w : World} {r : Int} (H : sl_Min_int_int a0 = some r) (h3 : (rd intE 1 A1 c2 a0).ok w) : Calls Tryd.prog 99 #[SL A1 a0.length c2] w (RetV w (I r)) := by
  unfold sl_Min_int_int at H
  refine fn_of (n := 25) Tryd.func99 rfl rfl (Nat.le_of_ble_eq_true rfl) ?_
  have S : St w (fun _ => False) w [] [rd intE 1 A1 c2 a0] := St.start w _ _ (List.forall_mem_cons.2 ⟨h3, (fun _ h_ => (List.not_mem_nil h_).elim)⟩)
  refine c_seq ?_
  refine reg ?_
  refine p_aI rfl ?_
  refine wp_nil ?_
  refine c_seq ?_
  refine c_seq ?_
  refine reg ?_
  refine p_mS rfl ?_
  refine p_len rfl sc39 ?_
  refine p_cmp rfl rfl rfl ?_
  refine wp_nil ?_
  refine c_cond rfl (fun c4 => ?_) (fun c4 => ?_)
  · replace H := condT c4 H
    refine reg ?_
    cases H
  · replace H := condF c4 H
    refine c_skip ?_
    refine c_seq ?_
    refine reg ?_
    refine p_mS rfl ?_
    obtain ⟨r5, h6, H⟩ := bindS H
    refine p_ixE sc39 h6 (S.atP (i := 0) rfl).1 rfl rfl rfl ?_
    refine p_ldE ty3 h6 (S.atP (i := 0) rfl).1 rfl rfl ?_
    refine p_aI rfl ?_
    refine wp_nil ?_
    refine c_seq ?_
    refine c_seq ?_
    refine reg ?_
    refine p_aI rfl ?_
    refine wp_nil ?_
    refine c_block ?_
    refine c_lop (α := Int × Int) (β := Unit) (sl_Min_int_int_l1 a0) (fun z_1 y_1 => [(0, SL A1 a0.length c2), (3, I z_1.1), (4, I z_1.2)]) (fun z_1 y_1 w_ => St w (fun _ => False) w_ [] [rd intE 1 A1 c2 a0]) (r5, 1) () H ⟨rfl, rfl, rfl, trivial⟩ S ?_
    intro m7 z_1 y_1 e8 w9 H S10
    unfold sl_Min_int_int_l1 at H
    refine c_seq ?_
    refine c_seq ?_
    refine reg ?_
    refine p_mI rfl ?_
    refine p_mS rfl ?_
    refine p_len rfl sc39 ?_
    refine p_cmp rfl rfl rfl ?_
    refine wp_nil ?_
    refine c_cond rfl (fun c11 => ?_) (fun c11 => ?_)
    · replace H := condT c11 H
      refine c_skip ?_
      refine c_seq ?_
      refine c_block ?_
      refine reg ?_
      refine p_mI rfl ?_
      refine p_mS rfl ?_
      refine p_mI rfl ?_
      obtain ⟨r12, h13, H⟩ := bindS H
      refine p_ixE sc39 h13 (S10.atP (i := 0) rfl).1 rfl rfl rfl ?_
      refine p_ldE ty3 h13 (S10.atP (i := 0) rfl).1 rfl rfl ?_
      refine p_min rfl rfl ?_
      refine p_aI rfl ?_
      refine wp_nil ?_
      refine reg ?_
      refine p_mI rfl ?_
      refine p_add rfl rfl ?_
      refine p_aI rfl ?_
      refine wp_nil ?_
      exact ⟨((if r12 < z_1.1 then r12 else z_1.1), wr (z_1.2 + 1)), (), _, rfl, ⟨rfl, rfl, rfl, trivial⟩, H, S10⟩
    · replace H := condF c11 H
      refine c_exit ?_
      refine c_seq ?_
      refine reg ?_
      refine p_mI rfl ?_
      refine p_aI rfl ?_
      refine wp_nil ?_
      obtain rfl := Option.some.inj H
      refine c_ret ?_; show bodyPostM (Fr none) 0 Tryd.prog Tryd.f99 _ .ret _ _
      refine ret_of (res1 rfl (rvT (rfl : _ = I z_1.1))) ?_
      exact ⟨_, rfl, rfl, S10.keep⟩

def coal_truth_lasts (a0 : Coal_truth) (a1 : Int) : Option Bool :=
  (cutI (sgl a0.coal_ 6) 0 (wr (a1 + 1))).bind fun r5 =>
  (sl_Min_int_int r5).bind fun r8 =>
  some (decide (r8 ≥ 0))

set_option maxRecDepth 100000 in
theorem coal_truth_lasts_ok {a0 : Coal_truth} {a1 : Int} {w : World} {r : Bool} (H : coal_truth_lasts a0 a1 = some r) : Calls Tryd.prog 82 #[AG (sg a0.eats_ 2 ++ ([I a0.collier_] ++ (sg a0.winds_ 6 ++ sg a0.coal_ 6))), I a1] w (RetV w (B r)) := by
  unfold coal_truth_lasts at H
  refine fn_of (n := 11) Tryd.func82 rfl rfl (Nat.le_of_ble_eq_true rfl) ?_
  have S : St w (fun _ => False) w [] [] := St.start w _ _ (fun _ h_ => (List.not_mem_nil h_).elim)
  refine c_seq ?_
  refine reg ?_
  refine p_boxA rfl S fun b1 w2 S3 => ?_
  refine p_aB rfl ?_
  refine wp_nil ?_
  refine c_seq ?_
  refine reg ?_
  refine p_fld fl108_3 rfl ?_
  refine p_mI rfl ?_
  refine p_add rfl rfl ?_
  have S4 := S3.fix (i := 0) rfl
  obtain ⟨r5, h6, H⟩ := bindS H
  have S7 := S4.arrRd (i := 0) (pre := sg a0.eats_ 2 ++ ([I a0.collier_] ++ sg a0.winds_ 6)) (post := []) (o := 9) rfl rfl rfl h6 (by decide)
  refine p_cutA ae106 sz3 h6 rfl rfl ?_
  obtain ⟨r8, h9, H⟩ := bindS H
  refine p_cv (sl_Min_int_int_ok h9 (S7.atP (i := 0) rfl)) fu99 rfl S7 fun w10 S11 => ?_
  refine p_cmp rfl rfl rfl ?_
  refine p_aB rfl ?_
  refine wp_nil ?_
  obtain rfl := Option.some.inj H
  refine c_ret ?_; show bodyPostM (Fr none) 0 Tryd.prog Tryd.f82 _ .ret _ _
  refine ret_of (res1 rfl (rvT (rfl : _ = B (decide (r8 ≥ 0))))) ?_
  exact ⟨_, rfl, rfl, S11.keep⟩

def coal_book_some_r1 (a1 : Int) (x_1 : Coal_truth) (z_1 : Bool) : Option (Bool × Nat × Bool) :=
  (coal_truth_lasts x_1 a1).bind fun r53 =>
  bif r53 then (some (false, 1, true))
  else (some (true, 0, z_1))

def coal_book_some (a0 : Coal_book) (a1 : Int) : Option Bool :=
  (coal_book_truths a0).bind fun r18 =>
  (coal_book_truths_1 (0, false) a0 (yvOf (coal_book_some_r1 a1))).bind fun r27 =>
  bif (r27.1 == 0) then (some false)
  else (some r27.2)

set_option maxRecDepth 100000 in
theorem coal_book_some_ok {a0 : Coal_book} {a1 : Int} {A1 : Option Addr} {c2 : Nat} {A4 : Option Addr} {c5 : Nat} {m7 : Option Nat} {w : World} {r : Bool} (H : coal_book_some a0 a1 = some r) (h3 : (rd eCoalDay 3 A1 c2 a0.CoalBook.Days).ok w) (h6 : (rd eCoalDip 3 A4 c5 a0.CoalBook.Dips).ok w) (h8 : (mpo ekG iE m7 a0.costs_).ok w) : Calls Tryd.prog 128 #[AG ([I a0.CoalBook.Heap.Low, I a0.CoalBook.Heap.High] ++ (sgE eSpan a0.CoalBook.Eats 2 ++ (sg a0.CoalBook.Extra 3 ++ [SL A1 a0.CoalBook.Days.length c2, I a0.CoalBook.Collier.Low, I a0.CoalBook.Collier.High, I a0.CoalBook.Brings, SL A4 a0.CoalBook.Dips.length c5, Value.map m7]))), I a1] w (RetV w (B r)) := by
  unfold coal_book_some at H
  refine fn_of (n := 12) Tryd.func128 rfl rfl (Nat.le_of_ble_eq_true rfl) ?_
  have S : St w (fun _ => False) w [] [rd eCoalDay 3 A1 c2 a0.CoalBook.Days, rd eCoalDip 3 A4 c5 a0.CoalBook.Dips, mpo ekG iE m7 a0.costs_] := St.start w _ _ (List.forall_mem_cons.2 ⟨h3, (List.forall_mem_cons.2 ⟨h6, (List.forall_mem_cons.2 ⟨h8, (fun _ h_ => (List.not_mem_nil h_).elim)⟩)⟩)⟩)
  refine c_seq ?_
  refine reg ?_
  refine p_boxA rfl S fun b9 w10 S11 => ?_
  refine p_box (rfl : _ = I a1) rfl S11 fun b12 w13 S14 => ?_
  refine p_all in4 rfl S14 fun b15 w16 S17 => ?_
  refine wp_nil ?_
  refine c_seq ?_
  refine c_seq ?_
  refine reg ?_
  refine p_ldA ty92 sz92 (S17.atX (i := 2) rfl) rfl rfl ?_
  obtain ⟨r18, h19, H⟩ := bindS H
  refine p_cal (coal_book_truths_ok h19 (S17.atP (i := 0) rfl) (S17.atP (i := 1) rfl) (S17.atP (i := 2) rfl)) fu78 rfl ?_
  rintro _ w20 ⟨b22, rfl, k21, ⟨o23, n24⟩, _⟩
  have S25 := S17.addNew k21 o23 n24
  refine wp_nil ?_
  refine c_block ?_
  have S26 := S25.fix (i := 0) rfl
  obtain ⟨r27, h28, H⟩ := bindS H

  have S29 := S26
  refine c_rangeG (α := Bool) (β := Unit) (ε := Coal_truth) (K := [bl b22 ([I a0.CoalBook.Heap.Low, I a0.CoalBook.Heap.High] ++ (sgE eSpan a0.CoalBook.Eats 2 ++ (sg a0.CoalBook.Extra 3 ++ [SL A1 a0.CoalBook.Days.length c2, I a0.CoalBook.Collier.Low, I a0.CoalBook.Collier.High, I a0.CoalBook.Brings, SL A4 a0.CoalBook.Dips.length c5, Value.map m7]))) 92, rd eCoalDay 3 A1 c2 a0.CoalBook.Days, rd eCoalDip 3 A4 c5 a0.CoalBook.Dips, mpo ekG iE m7 a0.costs_]) (MK := Go.Fx.mark) (XR := fun D30 => [] ++ [bx D30 (.deferred (some []))]) (it := fun {σ} yv s_ => coal_book_truths_1 s_ a0 yv) (enc := yE1) (coal_book_some_r1 a1) [.ret] (fun z_1 y_1 => [bl b15 [B z_1] 4, bl b12 [I a1] 3, bl b9 ([I a0.CoalBook.Heap.Low, I a0.CoalBook.Heap.High] ++ (sgE eSpan a0.CoalBook.Eats 2 ++ (sg a0.CoalBook.Extra 3 ++ [SL A1 a0.CoalBook.Days.length c2, I a0.CoalBook.Collier.Low, I a0.CoalBook.Collier.High, I a0.CoalBook.Brings, SL A4 a0.CoalBook.Dips.length c5, Value.map m7]))) 92]) false () h28 (ent_none (X0 := (fun z_1 y_1 => [bl b15 [B z_1] 4, bl b12 [I a1] 3, bl b9 ([I a0.CoalBook.Heap.Low, I a0.CoalBook.Heap.High] ++ (sgE eSpan a0.CoalBook.Eats 2 ++ (sg a0.CoalBook.Extra 3 ++ [SL A1 a0.CoalBook.Days.length c2, I a0.CoalBook.Collier.Low, I a0.CoalBook.Collier.High, I a0.CoalBook.Brings, SL A4 a0.CoalBook.Dips.length c5, Value.map m7]))) 92]) false () ++ []) S29) rfl fu95 (fun w_ σ yv_ s_ s'_ l_ G_ A_ hH_ hG_ hk_ hd_ hy_ => (coal_book_truths_1_ok hH_ hG_ (hk_ _ (List.mem_of_getElem? (i := 0) rfl)) (hk_ _ (List.mem_of_getElem? (i := 1) rfl)) (hk_ _ (List.mem_of_getElem? (i := 2) rfl)) (hk_ _ (List.mem_of_getElem? (i := 3) rfl)) hd_ hy_ (Link.refl _ _)).mono fun en_ w3_ ⟨u_, he_, A'_, hu_, hk2_, ho_, hf_⟩ => ⟨u_, he_, hk2_, A'_, ho_, hf_⟩) (List.forall_mem_cons.2 ⟨List.mem_of_getElem? (i := 0) rfl, (List.forall_mem_cons.2 ⟨List.mem_of_getElem? (i := 1) rfl, (List.forall_mem_cons.2 ⟨List.mem_of_getElem? (i := 2) rfl, (List.forall_mem_cons.2 ⟨List.mem_of_getElem? (i := 3) rfl, (fun _ h_ => (List.not_mem_nil h_).elim)⟩)⟩)⟩)⟩) (fun _ => rfl) (List.forall_mem_cons.2 ⟨.inl rfl, (fun _ h_ => (List.not_mem_nil h_).elim)⟩) ?_ ?_ ?_
  · intro l31 oR32 oB33 Cr34 x_1 z_1 y_1 w35 b36 c37 z38 PP39 H S40 hlk41 ho42 hB43 hN44 hX45
    unfold coal_book_some_r1 at H
    replace S40 : St w35 Cr34 w35 [bx l31 oR32, bl b15 [B z_1] 4, bl b12 [I a1] 3, bl b9 ([I a0.CoalBook.Heap.Low, I a0.CoalBook.Heap.High] ++ (sgE eSpan a0.CoalBook.Eats 2 ++ (sg a0.CoalBook.Extra 3 ++ [SL A1 a0.CoalBook.Days.length c2, I a0.CoalBook.Collier.Low, I a0.CoalBook.Collier.High, I a0.CoalBook.Brings, SL A4 a0.CoalBook.Dips.length c5, Value.map m7]))) 92] [bl b22 ([I a0.CoalBook.Heap.Low, I a0.CoalBook.Heap.High] ++ (sgE eSpan a0.CoalBook.Eats 2 ++ (sg a0.CoalBook.Extra 3 ++ [SL A1 a0.CoalBook.Days.length c2, I a0.CoalBook.Collier.Low, I a0.CoalBook.Collier.High, I a0.CoalBook.Brings, SL A4 a0.CoalBook.Dips.length c5, Value.map m7]))) 92, rd eCoalDay 3 A1 c2 a0.CoalBook.Days, rd eCoalDip 3 A4 c5 a0.CoalBook.Dips, mpo ekG iE m7 a0.costs_] := S40
    refine reg ?_
    refine p_allA in108 S40 fun b46 w47 S48 => ?_
    refine p_stP (pre := []) (old := sg (List.replicate 2 0) 2 ++ ([I 0] ++ (sg (List.replicate 6 0) 6 ++ sg (List.replicate 6 0) 6))) (post := []) (vs := sg x_1.eats_ 2 ++ ([I x_1.collier_] ++ (sg x_1.winds_ 6 ++ sg x_1.coal_ 6))) sz108 S48 (i := 0) rfl rfl rfl rfl (rfl : _ = AG (sg x_1.eats_ 2 ++ ([I x_1.collier_] ++ (sg x_1.winds_ 6 ++ sg x_1.coal_ 6)))) rfl rfl rfl rfl fun w49 S50 => ?_
    refine wp_nil ?_
    refine hB43 _ _ 1 _ S50 rfl fun w51 S52 => ?_
    replace S52 : St w35 Cr34 w51 [bl b46 (sg x_1.eats_ 2 ++ ([I x_1.collier_] ++ (sg x_1.winds_ 6 ++ sg x_1.coal_ 6))) 108, bx l31 oB33, bl b15 [B z_1] 4, bl b12 [I a1] 3, bl b9 ([I a0.CoalBook.Heap.Low, I a0.CoalBook.Heap.High] ++ (sgE eSpan a0.CoalBook.Eats 2 ++ (sg a0.CoalBook.Extra 3 ++ [SL A1 a0.CoalBook.Days.length c2, I a0.CoalBook.Collier.Low, I a0.CoalBook.Collier.High, I a0.CoalBook.Brings, SL A4 a0.CoalBook.Dips.length c5, Value.map m7]))) 92] [bl b22 ([I a0.CoalBook.Heap.Low, I a0.CoalBook.Heap.High] ++ (sgE eSpan a0.CoalBook.Eats 2 ++ (sg a0.CoalBook.Extra 3 ++ [SL A1 a0.CoalBook.Days.length c2, I a0.CoalBook.Collier.Low, I a0.CoalBook.Collier.High, I a0.CoalBook.Brings, SL A4 a0.CoalBook.Dips.length c5, Value.map m7]))) 92, rd eCoalDay 3 A1 c2 a0.CoalBook.Days, rd eCoalDip 3 A4 c5 a0.CoalBook.Dips, mpo ekG iE m7 a0.costs_] := S52
    refine c_block ?_
    refine c_seq ?_
    refine reg ?_
    refine p_ldA ty108 sz108 (S52.atX (i := 0) rfl) rfl rfl ?_
    refine p_ld ty3 (S52.atX (i := 3) rfl) rfl rfl ?_
    obtain ⟨r53, h54, H⟩ := bindS H
    refine p_cv (coal_truth_lasts_ok h54) fu82 rfl S52 fun w55 S56 => ?_
    refine wp_nil ?_
    refine c_cond rfl (fun c57 => ?_) (fun c57 => ?_)
    · replace H := condT c57 H
      refine c_seq ?_
      refine reg ?_
      refine p_st sz4 S56 (i := 2) rfl rfl (rfl : _ = B true) rfl rfl fun w58 S59 => ?_
      refine wp_nil ?_
      refine c_ret ?_
      have S60 := S59.pk [1, 2, 3, 4] (by decide) [0, 1, 2, 3] rfl rfl
      exact hX45 0 .ret _ _ true () rfl S60 (Option.some.inj H)
    · replace H := condF c57 H
      refine c_skip ?_
      have S60 := S56.pk [1, 2, 3, 4] (by decide) [0, 1, 2, 3] rfl rfl
      exact hN44 _ _ z_1 () S60 (Option.some.inj H)
  · intro hc66
    intro l60 D61 o62 y63 w64 S65
    have S67 : St w (fun _ => False) w64 [bl b15 [B r27.2] 4, bl b12 [I a1] 3, bl b9 ([I a0.CoalBook.Heap.Low, I a0.CoalBook.Heap.High] ++ (sgE eSpan a0.CoalBook.Eats 2 ++ (sg a0.CoalBook.Extra 3 ++ [SL A1 a0.CoalBook.Days.length c2, I a0.CoalBook.Collier.Low, I a0.CoalBook.Collier.High, I a0.CoalBook.Brings, SL A4 a0.CoalBook.Dips.length c5, Value.map m7]))) 92, bx D61 (.deferred (some []))] [bl b22 ([I a0.CoalBook.Heap.Low, I a0.CoalBook.Heap.High] ++ (sgE eSpan a0.CoalBook.Eats 2 ++ (sg a0.CoalBook.Extra 3 ++ [SL A1 a0.CoalBook.Days.length c2, I a0.CoalBook.Collier.Low, I a0.CoalBook.Collier.High, I a0.CoalBook.Brings, SL A4 a0.CoalBook.Dips.length c5, Value.map m7]))) 92, rd eCoalDay 3 A1 c2 a0.CoalBook.Days, rd eCoalDip 3 A4 c5 a0.CoalBook.Dips, mpo ekG iE m7 a0.costs_] := St.tail1 S65
    replace H := condT (by rw [hc66]; rfl) H
    refine c_seq ?_
    refine reg ?_
    refine p_st sz4 S67 (i := 0) rfl rfl (rfl : _ = B false) rfl rfl fun w68 S69 => ?_
    refine wp_nil ?_
    refine c_ret ?_
    refine leave_mark S69 (i := 3) rfl fun w70 S71 => ?_
    obtain rfl := Option.some.inj H
    show bodyPostM (Fr none) 0 Tryd.prog Tryd.f128 _ .ret _ _
    refine ret_of (res1 rfl (rvC rfl ty4 (S71.atX (i := 0) rfl))) ?_
    exact ⟨_, rfl, rfl, S71.keep⟩
  · intro k72 c73 hk74 hc75
    rcases k72 with _ | k72
    · obtain rfl := Option.some.inj hk74
      intro l76 D77 o78 y79 w80 S81
      have S83 : St w (fun _ => False) w80 [bl b15 [B r27.2] 4, bl b12 [I a1] 3, bl b9 ([I a0.CoalBook.Heap.Low, I a0.CoalBook.Heap.High] ++ (sgE eSpan a0.CoalBook.Eats 2 ++ (sg a0.CoalBook.Extra 3 ++ [SL A1 a0.CoalBook.Days.length c2, I a0.CoalBook.Collier.Low, I a0.CoalBook.Collier.High, I a0.CoalBook.Brings, SL A4 a0.CoalBook.Dips.length c5, Value.map m7]))) 92, bx D77 (.deferred (some []))] [bl b22 ([I a0.CoalBook.Heap.Low, I a0.CoalBook.Heap.High] ++ (sgE eSpan a0.CoalBook.Eats 2 ++ (sg a0.CoalBook.Extra 3 ++ [SL A1 a0.CoalBook.Days.length c2, I a0.CoalBook.Collier.Low, I a0.CoalBook.Collier.High, I a0.CoalBook.Brings, SL A4 a0.CoalBook.Dips.length c5, Value.map m7]))) 92, rd eCoalDay 3 A1 c2 a0.CoalBook.Days, rd eCoalDip 3 A4 c5 a0.CoalBook.Dips, mpo ekG iE m7 a0.costs_] := St.tail1 S81
      replace H := condF (by rw [hc75]; rfl) H
      refine c_ret ?_
      refine leave_mark S83 (i := 3) rfl fun w84 S85 => ?_
      obtain rfl := Option.some.inj H
      show bodyPostM (Fr none) 0 Tryd.prog Tryd.f128 _ .ret _ _
      refine ret_of (res1 rfl (rvC rfl ty4 (S85.atX (i := 0) rfl))) ?_
      exact ⟨_, rfl, rfl, S85.keep⟩
    · cases hk74

def coal_book_each_r1 (a1 : Int) (x_1 : Coal_truth) (z_1 : Unit) : Option (Bool × Nat × Unit) :=
  (coal_truth_lasts x_1 a1).bind fun r53 =>
  bif !r53 then (some (false, 1, ()))
  else (some (true, 0, ()))

def coal_book_each (a0 : Coal_book) (a1 : Int) : Option Bool :=
  (coal_book_truths a0).bind fun r18 =>
  (coal_book_truths_1 (0, ()) a0 (yvOf (coal_book_each_r1 a1))).bind fun r27 =>
  bif (r27.1 == 0) then (some true)
  else (some false)

set_option maxRecDepth 100000 in
theorem coal_book_each_ok {a0 : Coal_book} {a1 : Int} {A1 : Option Addr} {c2 : Nat} {A4 : Option Addr} {c5 : Nat} {m7 : Option Nat} {w : World} {r : Bool} (H : coal_book_each a0 a1 = some r) (h3 : (rd eCoalDay 3 A1 c2 a0.CoalBook.Days).ok w) (h6 : (rd eCoalDip 3 A4 c5 a0.CoalBook.Dips).ok w) (h8 : (mpo ekG iE m7 a0.costs_).ok w) : Calls Tryd.prog 129 #[AG ([I a0.CoalBook.Heap.Low, I a0.CoalBook.Heap.High] ++ (sgE eSpan a0.CoalBook.Eats 2 ++ (sg a0.CoalBook.Extra 3 ++ [SL A1 a0.CoalBook.Days.length c2, I a0.CoalBook.Collier.Low, I a0.CoalBook.Collier.High, I a0.CoalBook.Brings, SL A4 a0.CoalBook.Dips.length c5, Value.map m7]))), I a1] w (RetV w (B r)) := by
  unfold coal_book_each at H
  refine fn_of (n := 13) Tryd.func129 rfl rfl (Nat.le_of_ble_eq_true rfl) ?_
  have S : St w (fun _ => False) w [] [rd eCoalDay 3 A1 c2 a0.CoalBook.Days, rd eCoalDip 3 A4 c5 a0.CoalBook.Dips, mpo ekG iE m7 a0.costs_] := St.start w _ _ (List.forall_mem_cons.2 ⟨h3, (List.forall_mem_cons.2 ⟨h6, (List.forall_mem_cons.2 ⟨h8, (fun _ h_ => (List.not_mem_nil h_).elim)⟩)⟩)⟩)
  refine c_seq ?_
  refine reg ?_
  refine p_boxA rfl S fun b9 w10 S11 => ?_
  refine p_box (rfl : _ = I a1) rfl S11 fun b12 w13 S14 => ?_
  refine p_all in4 rfl S14 fun b15 w16 S17 => ?_
  refine wp_nil ?_
  refine c_seq ?_
  refine c_seq ?_
  refine reg ?_
  refine p_ldA ty92 sz92 (S17.atX (i := 2) rfl) rfl rfl ?_
  obtain ⟨r18, h19, H⟩ := bindS H
  refine p_cal (coal_book_truths_ok h19 (S17.atP (i := 0) rfl) (S17.atP (i := 1) rfl) (S17.atP (i := 2) rfl)) fu78 rfl ?_
  rintro _ w20 ⟨b22, rfl, k21, ⟨o23, n24⟩, _⟩
  have S25 := S17.addNew k21 o23 n24
  refine wp_nil ?_
  refine c_block ?_
  have S26 := S25.fix (i := 0) rfl
  obtain ⟨r27, h28, H⟩ := bindS H

  have S29 := S26
  refine c_rangeG (α := Unit) (β := Unit) (ε := Coal_truth) (K := [bl b22 ([I a0.CoalBook.Heap.Low, I a0.CoalBook.Heap.High] ++ (sgE eSpan a0.CoalBook.Eats 2 ++ (sg a0.CoalBook.Extra 3 ++ [SL A1 a0.CoalBook.Days.length c2, I a0.CoalBook.Collier.Low, I a0.CoalBook.Collier.High, I a0.CoalBook.Brings, SL A4 a0.CoalBook.Dips.length c5, Value.map m7]))) 92, rd eCoalDay 3 A1 c2 a0.CoalBook.Days, rd eCoalDip 3 A4 c5 a0.CoalBook.Dips, mpo ekG iE m7 a0.costs_]) (MK := Go.Fx.mark) (XR := fun D30 => [] ++ [bx D30 (.deferred (some []))]) (it := fun {σ} yv s_ => coal_book_truths_1 s_ a0 yv) (enc := yE1) (coal_book_each_r1 a1) [.ret] (fun z_1 y_1 => [bl b15 [B false] 4, bl b12 [I a1] 3, bl b9 ([I a0.CoalBook.Heap.Low, I a0.CoalBook.Heap.High] ++ (sgE eSpan a0.CoalBook.Eats 2 ++ (sg a0.CoalBook.Extra 3 ++ [SL A1 a0.CoalBook.Days.length c2, I a0.CoalBook.Collier.Low, I a0.CoalBook.Collier.High, I a0.CoalBook.Brings, SL A4 a0.CoalBook.Dips.length c5, Value.map m7]))) 92]) () () h28 (ent_none (X0 := (fun z_1 y_1 => [bl b15 [B false] 4, bl b12 [I a1] 3, bl b9 ([I a0.CoalBook.Heap.Low, I a0.CoalBook.Heap.High] ++ (sgE eSpan a0.CoalBook.Eats 2 ++ (sg a0.CoalBook.Extra 3 ++ [SL A1 a0.CoalBook.Days.length c2, I a0.CoalBook.Collier.Low, I a0.CoalBook.Collier.High, I a0.CoalBook.Brings, SL A4 a0.CoalBook.Dips.length c5, Value.map m7]))) 92]) () () ++ []) S29) rfl fu95 (fun w_ σ yv_ s_ s'_ l_ G_ A_ hH_ hG_ hk_ hd_ hy_ => (coal_book_truths_1_ok hH_ hG_ (hk_ _ (List.mem_of_getElem? (i := 0) rfl)) (hk_ _ (List.mem_of_getElem? (i := 1) rfl)) (hk_ _ (List.mem_of_getElem? (i := 2) rfl)) (hk_ _ (List.mem_of_getElem? (i := 3) rfl)) hd_ hy_ (Link.refl _ _)).mono fun en_ w3_ ⟨u_, he_, A'_, hu_, hk2_, ho_, hf_⟩ => ⟨u_, he_, hk2_, A'_, ho_, hf_⟩) (List.forall_mem_cons.2 ⟨List.mem_of_getElem? (i := 0) rfl, (List.forall_mem_cons.2 ⟨List.mem_of_getElem? (i := 1) rfl, (List.forall_mem_cons.2 ⟨List.mem_of_getElem? (i := 2) rfl, (List.forall_mem_cons.2 ⟨List.mem_of_getElem? (i := 3) rfl, (fun _ h_ => (List.not_mem_nil h_).elim)⟩)⟩)⟩)⟩) (fun _ => rfl) (List.forall_mem_cons.2 ⟨.inl rfl, (fun _ h_ => (List.not_mem_nil h_).elim)⟩) ?_ ?_ ?_
  · intro l31 oR32 oB33 Cr34 x_1 z_1 y_1 w35 b36 c37 z38 PP39 H S40 hlk41 ho42 hB43 hN44 hX45
    unfold coal_book_each_r1 at H
    replace S40 : St w35 Cr34 w35 [bx l31 oR32, bl b15 [B false] 4, bl b12 [I a1] 3, bl b9 ([I a0.CoalBook.Heap.Low, I a0.CoalBook.Heap.High] ++ (sgE eSpan a0.CoalBook.Eats 2 ++ (sg a0.CoalBook.Extra 3 ++ [SL A1 a0.CoalBook.Days.length c2, I a0.CoalBook.Collier.Low, I a0.CoalBook.Collier.High, I a0.CoalBook.Brings, SL A4 a0.CoalBook.Dips.length c5, Value.map m7]))) 92] [bl b22 ([I a0.CoalBook.Heap.Low, I a0.CoalBook.Heap.High] ++ (sgE eSpan a0.CoalBook.Eats 2 ++ (sg a0.CoalBook.Extra 3 ++ [SL A1 a0.CoalBook.Days.length c2, I a0.CoalBook.Collier.Low, I a0.CoalBook.Collier.High, I a0.CoalBook.Brings, SL A4 a0.CoalBook.Dips.length c5, Value.map m7]))) 92, rd eCoalDay 3 A1 c2 a0.CoalBook.Days, rd eCoalDip 3 A4 c5 a0.CoalBook.Dips, mpo ekG iE m7 a0.costs_] := S40
    refine reg ?_
    refine p_allA in108 S40 fun b46 w47 S48 => ?_
    refine p_stP (pre := []) (old := sg (List.replicate 2 0) 2 ++ ([I 0] ++ (sg (List.replicate 6 0) 6 ++ sg (List.replicate 6 0) 6))) (post := []) (vs := sg x_1.eats_ 2 ++ ([I x_1.collier_] ++ (sg x_1.winds_ 6 ++ sg x_1.coal_ 6))) sz108 S48 (i := 0) rfl rfl rfl rfl (rfl : _ = AG (sg x_1.eats_ 2 ++ ([I x_1.collier_] ++ (sg x_1.winds_ 6 ++ sg x_1.coal_ 6)))) rfl rfl rfl rfl fun w49 S50 => ?_
    refine wp_nil ?_
    refine hB43 _ _ 1 _ S50 rfl fun w51 S52 => ?_
    replace S52 : St w35 Cr34 w51 [bl b46 (sg x_1.eats_ 2 ++ ([I x_1.collier_] ++ (sg x_1.winds_ 6 ++ sg x_1.coal_ 6))) 108, bx l31 oB33, bl b15 [B false] 4, bl b12 [I a1] 3, bl b9 ([I a0.CoalBook.Heap.Low, I a0.CoalBook.Heap.High] ++ (sgE eSpan a0.CoalBook.Eats 2 ++ (sg a0.CoalBook.Extra 3 ++ [SL A1 a0.CoalBook.Days.length c2, I a0.CoalBook.Collier.Low, I a0.CoalBook.Collier.High, I a0.CoalBook.Brings, SL A4 a0.CoalBook.Dips.length c5, Value.map m7]))) 92] [bl b22 ([I a0.CoalBook.Heap.Low, I a0.CoalBook.Heap.High] ++ (sgE eSpan a0.CoalBook.Eats 2 ++ (sg a0.CoalBook.Extra 3 ++ [SL A1 a0.CoalBook.Days.length c2, I a0.CoalBook.Collier.Low, I a0.CoalBook.Collier.High, I a0.CoalBook.Brings, SL A4 a0.CoalBook.Dips.length c5, Value.map m7]))) 92, rd eCoalDay 3 A1 c2 a0.CoalBook.Days, rd eCoalDip 3 A4 c5 a0.CoalBook.Dips, mpo ekG iE m7 a0.costs_] := S52
    refine c_block ?_
    refine c_seq ?_
    refine reg ?_
    refine p_ldA ty108 sz108 (S52.atX (i := 0) rfl) rfl rfl ?_
    refine p_ld ty3 (S52.atX (i := 3) rfl) rfl rfl ?_
    obtain ⟨r53, h54, H⟩ := bindS H
    refine p_cv (coal_truth_lasts_ok h54) fu82 rfl S52 fun w55 S56 => ?_
    refine p_not rfl ?_
    refine wp_nil ?_
    refine c_cond rfl (fun c57 => ?_) (fun c57 => ?_)
    · replace H := condT c57 H
      refine c_seq ?_
      refine reg ?_
      refine p_st sz4 S56 (i := 2) rfl rfl (rfl : _ = B false) rfl rfl fun w58 S59 => ?_
      refine wp_nil ?_
      refine c_ret ?_
      have S60 := S59.pk [1, 2, 3, 4] (by decide) [0, 1, 2, 3] rfl rfl
      exact hX45 0 .ret _ _ () () rfl S60 (Option.some.inj H)
    · replace H := condF c57 H
      refine c_skip ?_
      have S60 := S56.pk [1, 2, 3, 4] (by decide) [0, 1, 2, 3] rfl rfl
      exact hN44 _ _ () () S60 (Option.some.inj H)
  · intro hc66
    intro l60 D61 o62 y63 w64 S65
    have S67 : St w (fun _ => False) w64 [bl b15 [B false] 4, bl b12 [I a1] 3, bl b9 ([I a0.CoalBook.Heap.Low, I a0.CoalBook.Heap.High] ++ (sgE eSpan a0.CoalBook.Eats 2 ++ (sg a0.CoalBook.Extra 3 ++ [SL A1 a0.CoalBook.Days.length c2, I a0.CoalBook.Collier.Low, I a0.CoalBook.Collier.High, I a0.CoalBook.Brings, SL A4 a0.CoalBook.Dips.length c5, Value.map m7]))) 92, bx D61 (.deferred (some []))] [bl b22 ([I a0.CoalBook.Heap.Low, I a0.CoalBook.Heap.High] ++ (sgE eSpan a0.CoalBook.Eats 2 ++ (sg a0.CoalBook.Extra 3 ++ [SL A1 a0.CoalBook.Days.length c2, I a0.CoalBook.Collier.Low, I a0.CoalBook.Collier.High, I a0.CoalBook.Brings, SL A4 a0.CoalBook.Dips.length c5, Value.map m7]))) 92, rd eCoalDay 3 A1 c2 a0.CoalBook.Days, rd eCoalDip 3 A4 c5 a0.CoalBook.Dips, mpo ekG iE m7 a0.costs_] := St.tail1 S65
    replace H := condT (by rw [hc66]; rfl) H
    refine c_seq ?_
    refine reg ?_
    refine p_st sz4 S67 (i := 0) rfl rfl (rfl : _ = B true) rfl rfl fun w68 S69 => ?_
    refine wp_nil ?_
    refine c_ret ?_
    refine leave_mark S69 (i := 3) rfl fun w70 S71 => ?_
    obtain rfl := Option.some.inj H
    show bodyPostM (Fr none) 0 Tryd.prog Tryd.f129 _ .ret _ _
    refine ret_of (res1 rfl (rvC rfl ty4 (S71.atX (i := 0) rfl))) ?_
    exact ⟨_, rfl, rfl, S71.keep⟩
  · intro k72 c73 hk74 hc75
    rcases k72 with _ | k72
    · obtain rfl := Option.some.inj hk74
      intro l76 D77 o78 y79 w80 S81
      have S83 : St w (fun _ => False) w80 [bl b15 [B false] 4, bl b12 [I a1] 3, bl b9 ([I a0.CoalBook.Heap.Low, I a0.CoalBook.Heap.High] ++ (sgE eSpan a0.CoalBook.Eats 2 ++ (sg a0.CoalBook.Extra 3 ++ [SL A1 a0.CoalBook.Days.length c2, I a0.CoalBook.Collier.Low, I a0.CoalBook.Collier.High, I a0.CoalBook.Brings, SL A4 a0.CoalBook.Dips.length c5, Value.map m7]))) 92, bx D77 (.deferred (some []))] [bl b22 ([I a0.CoalBook.Heap.Low, I a0.CoalBook.Heap.High] ++ (sgE eSpan a0.CoalBook.Eats 2 ++ (sg a0.CoalBook.Extra 3 ++ [SL A1 a0.CoalBook.Days.length c2, I a0.CoalBook.Collier.Low, I a0.CoalBook.Collier.High, I a0.CoalBook.Brings, SL A4 a0.CoalBook.Dips.length c5, Value.map m7]))) 92, rd eCoalDay 3 A1 c2 a0.CoalBook.Days, rd eCoalDip 3 A4 c5 a0.CoalBook.Dips, mpo ekG iE m7 a0.costs_] := St.tail1 S81
      replace H := condF (by rw [hc75]; rfl) H
      refine c_ret ?_
      refine leave_mark S83 (i := 3) rfl fun w84 S85 => ?_
      obtain rfl := Option.some.inj H
      show bodyPostM (Fr none) 0 Tryd.prog Tryd.f129 _ .ret _ _
      refine ret_of (res1 rfl (rvC rfl ty4 (S85.atX (i := 0) rfl))) ?_
      exact ⟨_, rfl, rfl, S85.keep⟩
    · cases hk74

def coal_isDay (a0 : CoalBook) (a1 : Int) : Option Bool :=
  (coal_within a1 0 (wr ((a0.Days.length : Int) - 1))).bind fun r10 =>
  some r10

set_option maxRecDepth 100000 in
theorem coal_isDay_ok {a0 : CoalBook} {a1 : Int} {A1 : Option Addr} {c2 : Nat} {A4 : Option Addr} {c5 : Nat} {w : World} {r : Bool} (H : coal_isDay a0 a1 = some r) (h3 : (rd eCoalDay 3 A1 c2 a0.Days).ok w) (h6 : (rd eCoalDip 3 A4 c5 a0.Dips).ok w) : Calls Tryd.prog 75 #[AG ([I a0.Heap.Low, I a0.Heap.High] ++ (sgE eSpan a0.Eats 2 ++ (sg a0.Extra 3 ++ [SL A1 a0.Days.length c2, I a0.Collier.Low, I a0.Collier.High, I a0.Brings, SL A4 a0.Dips.length c5]))), I a1] w (RetV w (B r)) := by
  unfold coal_isDay at H
  refine fn_of (n := 11) Tryd.func75 rfl rfl (Nat.le_of_ble_eq_true rfl) ?_
  have S : St w (fun _ => False) w [] [rd eCoalDay 3 A1 c2 a0.Days, rd eCoalDip 3 A4 c5 a0.Dips] := St.start w _ _ (List.forall_mem_cons.2 ⟨h3, (List.forall_mem_cons.2 ⟨h6, (fun _ h_ => (List.not_mem_nil h_).elim)⟩)⟩)
  refine c_seq ?_
  refine reg ?_
  refine p_boxA rfl S fun b7 w8 S9 => ?_
  refine p_aB rfl ?_
  refine wp_nil ?_
  refine c_seq ?_
  refine reg ?_
  refine p_mI rfl ?_
  refine p_fld fl29_3 rfl ?_
  refine p_ld ty26 (S9.atX (i := 0) rfl) rfl rfl ?_
  refine p_len rfl sc26 ?_
  refine p_sub rfl rfl ?_
  obtain ⟨r10, h11, H⟩ := bindS H
  refine p_cv (coal_within_ok h11) fu79 rfl S9 fun w12 S13 => ?_
  refine p_aB rfl ?_
  refine wp_nil ?_
  obtain rfl := Option.some.inj H
  refine c_ret ?_; show bodyPostM (Fr none) 0 Tryd.prog Tryd.f75 _ .ret _ _
  refine ret_of (res1 rfl (rvT (rfl : _ = B r10))) ?_
  exact ⟨_, rfl, rfl, S13.keep⟩

def coal_isSpan (a0 : Span) (a1 : Int) (a2 : Int) : Option Bool :=
  bif decide (0 ≤ a0.Low) then (bif decide (a0.Low ≤ a0.High) then (bif decide (a0.High ≤ a1) then (some (decide ((wr (a0.High - a0.Low)) ≤ a2)))
  else (some false))
  else (some false))
  else (some false)

set_option maxRecDepth 100000 in
theorem coal_isSpan_ok {a0 : Span} {a1 : Int} {a2 : Int} {w : World} {r : Bool} (H : coal_isSpan a0 a1 a2 = some r) : Calls Tryd.prog 81 #[AG [I a0.Low, I a0.High], I a1, I a2] w (RetV w (B r)) := by
  unfold coal_isSpan at H
  refine fn_of (n := 32) Tryd.func81 rfl rfl (Nat.le_of_ble_eq_true rfl) ?_
  have S : St w (fun _ => False) w [] [] := St.start w _ _ (fun _ h_ => (List.not_mem_nil h_).elim)
  refine c_seq ?_
  refine reg ?_
  refine p_boxA rfl S fun b1 w2 S3 => ?_
  refine p_aB rfl ?_
  refine wp_nil ?_
  refine c_seq ?_
  refine reg ?_
  refine p_fld fl23_0 rfl ?_
  refine p_ld ty3 (S3.atX (i := 0) rfl) rfl rfl ?_
  refine p_cmp rfl rfl rfl ?_
  refine p_mB rfl ?_
  rcases Bool.eq_false_or_eq_true (decide (0 ≤ a0.Low)) with c4 | c4
  · replace H := condT c4 H
    refine eB c4 ?_
    refine gT rfl rfl (p_fld fl23_0 rfl ?_)
    refine gT rfl rfl (p_ld ty3 (S3.atX (i := 0) rfl) rfl rfl ?_)
    refine gT rfl rfl (p_fld fl23_1 rfl ?_)
    refine gT rfl rfl (p_ld ty3 (S3.atX (i := 0) rfl) rfl rfl ?_)
    refine gT rfl rfl (p_cmp rfl rfl rfl ?_)
    refine p_pkT rfl (rfl : _ = B (decide (a0.Low ≤ a0.High))) ?_
    refine p_mB rfl ?_
    rcases Bool.eq_false_or_eq_true (decide (a0.Low ≤ a0.High)) with c5 | c5
    · replace H := condT c5 H
      refine eB c5 ?_
      refine gT rfl rfl (p_fld fl23_1 rfl ?_)
      refine gT rfl rfl (p_ld ty3 (S3.atX (i := 0) rfl) rfl rfl ?_)
      refine gT rfl rfl (p_mI rfl ?_)
      refine gT rfl rfl (p_cmp rfl rfl rfl ?_)
      refine p_pkT rfl (rfl : _ = B (decide (a0.High ≤ a1))) ?_
      refine p_mB rfl ?_
      rcases Bool.eq_false_or_eq_true (decide (a0.High ≤ a1)) with c6 | c6
      · replace H := condT c6 H
        refine eB c6 ?_
        refine gT rfl rfl (p_fld fl23_1 rfl ?_)
        refine gT rfl rfl (p_ld ty3 (S3.atX (i := 0) rfl) rfl rfl ?_)
        refine gT rfl rfl (p_fld fl23_0 rfl ?_)
        refine gT rfl rfl (p_ld ty3 (S3.atX (i := 0) rfl) rfl rfl ?_)
        refine gT rfl rfl (p_sub rfl rfl ?_)
        refine gT rfl rfl (p_mI rfl ?_)
        refine gT rfl rfl (p_cmp rfl rfl rfl ?_)
        refine p_pkT rfl (rfl : _ = B (decide ((wr (a0.High - a0.Low)) ≤ a2))) ?_
        refine p_aB rfl ?_
        refine wp_nil ?_
        obtain rfl := Option.some.inj H
        refine c_ret ?_; show bodyPostM (Fr none) 0 Tryd.prog Tryd.f81 _ .ret _ _
        refine ret_of (res1 rfl (rvT (rfl : _ = B (decide ((wr (a0.High - a0.Low)) ≤ a2))))) ?_
        exact ⟨_, rfl, rfl, S3.keep⟩
      · replace H := condF c6 H
        refine eB c6 ?_
        refine gF rfl rfl ?_
        refine gF rfl rfl ?_
        refine gF rfl rfl ?_
        refine gF rfl rfl ?_
        refine gF rfl rfl ?_
        refine gF rfl rfl ?_
        refine gF rfl rfl ?_
        refine p_pkF rfl (rfl : _ = B false) ?_
        refine p_aB rfl ?_
        refine wp_nil ?_
        obtain rfl := Option.some.inj H
        refine c_ret ?_; show bodyPostM (Fr none) 0 Tryd.prog Tryd.f81 _ .ret _ _
        refine ret_of (res1 rfl (rvT (rfl : _ = B false))) ?_
        exact ⟨_, rfl, rfl, S3.keep⟩
    · replace H := condF c5 H
      refine eB c5 ?_
      refine gF rfl rfl ?_
      refine gF rfl rfl ?_
      refine gF rfl rfl ?_
      refine gF rfl rfl ?_
      refine p_pkF rfl (rfl : _ = B false) ?_
      refine p_mB rfl ?_
      refine gF rfl rfl ?_
      refine gF rfl rfl ?_
      refine gF rfl rfl ?_
      refine gF rfl rfl ?_
      refine gF rfl rfl ?_
      refine gF rfl rfl ?_
      refine gF rfl rfl ?_
      refine p_pkF rfl (rfl : _ = B false) ?_
      refine p_aB rfl ?_
      refine wp_nil ?_
      obtain rfl := Option.some.inj H
      refine c_ret ?_; show bodyPostM (Fr none) 0 Tryd.prog Tryd.f81 _ .ret _ _
      refine ret_of (res1 rfl (rvT (rfl : _ = B false))) ?_
      exact ⟨_, rfl, rfl, S3.keep⟩
  · replace H := condF c4 H
    refine eB c4 ?_
    refine gF rfl rfl ?_
    refine gF rfl rfl ?_
    refine gF rfl rfl ?_
    refine gF rfl rfl ?_
    refine gF rfl rfl ?_
    refine p_pkF rfl (rfl : _ = B false) ?_
    refine p_mB rfl ?_
    refine gF rfl rfl ?_
    refine gF rfl rfl ?_
    refine gF rfl rfl ?_
    refine gF rfl rfl ?_
    refine p_pkF rfl (rfl : _ = B false) ?_
    refine p_mB rfl ?_
    refine gF rfl rfl ?_
    refine gF rfl rfl ?_
    refine gF rfl rfl ?_
    refine gF rfl rfl ?_
    refine gF rfl rfl ?_
    refine gF rfl rfl ?_
    refine gF rfl rfl ?_
    refine p_pkF rfl (rfl : _ = B false) ?_
    refine p_aB rfl ?_
    refine wp_nil ?_
    obtain rfl := Option.some.inj H
    refine c_ret ?_; show bodyPostM (Fr none) 0 Tryd.prog Tryd.f81 _ .ret _ _
    refine ret_of (res1 rfl (rvT (rfl : _ = B false))) ?_
    exact ⟨_, rfl, rfl, S3.keep⟩

def coal_Check_l5 (a0 : CoalBook) (rec_z_5 : (Bool × Int) → Option Int) (z_5 : Bool × Int) : Option Int :=
  bif decide (z_5.2 < (a0.Dips.length : Int)) then ((getI a0.Dips z_5.2).bind fun r78 =>
  bif z_5.1 then ((coal_isDay a0 r78.Day).bind fun r86 =>
  bif r86 then ((coal_within r78.Read 0 800).bind fun r91 =>
  bif r91 then ((coal_within r78.Error 0 9).bind fun r96 =>
  rec_z_5 (r96, wr (z_5.2 + 1)))
  else (rec_z_5 (false, wr (z_5.2 + 1))))
  else (rec_z_5 (false, wr (z_5.2 + 1))))
  else (rec_z_5 (false, wr (z_5.2 + 1))))
  else (bif !z_5.1 then (some 60)
  else (some 0))

def coal_Check_l6 (a0 : CoalBook) (rec_z_4 : (Bool × Int) → Option Int) (z_4 : Bool × Int) : Option Int :=
  bif decide (z_4.2 < (a0.Days.length : Int)) then ((getI a0.Days z_4.2).bind fun r47 =>
  bif z_4.1 then ((coal_within r47.Crosses 0 9).bind fun r55 =>
  bif r55 then ((coal_within r47.Engines 1 3).bind fun r60 =>
  bif r60 then ((coal_within r47.Winds 1 7).bind fun r65 =>
  rec_z_4 (r65, wr (z_4.2 + 1)))
  else (rec_z_4 (false, wr (z_4.2 + 1))))
  else (rec_z_4 (false, wr (z_4.2 + 1))))
  else (rec_z_4 (false, wr (z_4.2 + 1))))
  else (loopF (coal_Check_l5 a0) big (z_4.1, 0))

def coal_Check_l7 (a0 : CoalBook) (rec_z_3 : (Bool × Int) → Option Int) (z_3 : Bool × Int) : Option Int :=
  bif decide (z_3.2 < 3) then (need (inI z_3.2 3) <|
  bif z_3.1 then ((coal_within (aget a0.Extra z_3.2) 0 9).bind fun r38 =>
  rec_z_3 (r38, wr (z_3.2 + 1)))
  else (rec_z_3 (false, wr (z_3.2 + 1))))
  else (loopF (coal_Check_l6 a0) big (z_3.1, 0))

def coal_Check_l8 (a0 : CoalBook) (rec_z_2 : (Bool × Int) → Option Int) (z_2 : Bool × Int) : Option Int :=
  bif decide (z_2.2 < 2) then (need (inI z_2.2 2) <|
  bif z_2.1 then ((coal_isSpan (agetS a0.Eats z_2.2) 9 2).bind fun r25 =>
  rec_z_2 (r25, wr (z_2.2 + 1)))
  else (rec_z_2 (false, wr (z_2.2 + 1))))
  else (loopF (coal_Check_l7 a0) big (z_2.1, 0))

def coal_Check_j9 (a0 : CoalBook) (z_1 : Bool) : Option Int :=
  loopF (coal_Check_l8 a0) big (z_1, 0)

def coal_Check (a0 : CoalBook) : Option Int :=
  (coal_isSpan a0.Heap 400 4).bind fun r10 =>
  bif r10 then ((coal_within (a0.Days.length : Int) 1 6).bind fun r15 =>
  bif r15 then ((coal_isSpan a0.Collier (a0.Days.length : Int) 3).bind fun r20 =>
  bif r20 then ((coal_within a0.Brings 0 400).bind fun r25 =>
  bif r25 then (coal_Check_j9 a0 (decide ((a0.Dips.length : Int) ≤ 4)))
  else (coal_Check_j9 a0 false))
  else (coal_Check_j9 a0 false))
  else (coal_Check_j9 a0 false))
  else (coal_Check_j9 a0 false)

set_option maxRecDepth 100000 in
theorem coal_Check_ok {a0 : CoalBook} {A1 : Option Addr} {c2 : Nat} {A4 : Option Addr} {c5 : Nat} {w : World} {r : Int} (H : coal_Check a0 = some r) (h3 : (rd eCoalDay 3 A1 c2 a0.Days).ok w) (h6 : (rd eCoalDip 3 A4 c5 a0.Dips).ok w) : Calls Tryd.prog 41 #[AG ([I a0.Heap.Low, I a0.Heap.High] ++ (sgE eSpan a0.Eats 2 ++ (sg a0.Extra 3 ++ [SL A1 a0.Days.length c2, I a0.Collier.Low, I a0.Collier.High, I a0.Brings, SL A4 a0.Dips.length c5])))] w (RetV w (I r)) := by
  unfold coal_Check at H
  refine fn_of (n := 113) Tryd.func41 rfl rfl (Nat.le_of_ble_eq_true rfl) ?_
  have S : St w (fun _ => False) w [] [rd eCoalDay 3 A1 c2 a0.Days, rd eCoalDip 3 A4 c5 a0.Dips] := St.start w _ _ (List.forall_mem_cons.2 ⟨h3, (List.forall_mem_cons.2 ⟨h6, (fun _ h_ => (List.not_mem_nil h_).elim)⟩)⟩)
  refine c_seq ?_
  refine reg ?_
  refine p_boxA rfl S fun b7 w8 S9 => ?_
  refine p_aI rfl ?_
  refine wp_nil ?_
  refine c_join (α := Bool) (β := Unit) (fun z_1 y_1 => [(1, P b7 0), (3, B z_1)]) (fun z_1 y_1 w_ => coal_Check_j9 a0 z_1 = some r ∧ St w (fun _ => False) w_ [bl b7 ([I a0.Heap.Low, I a0.Heap.High] ++ (sgE eSpan a0.Eats 2 ++ (sg a0.Extra 3 ++ [SL A1 a0.Days.length c2, I a0.Collier.Low, I a0.Collier.High, I a0.Brings, SL A4 a0.Dips.length c5]))) 29] [rd eCoalDay 3 A1 c2 a0.Days, rd eCoalDip 3 A4 c5 a0.Dips]) ?_ ?_
  · refine reg ?_
    refine p_fld fl29_0 rfl ?_
    refine p_ldP (vs := [I a0.Heap.Low, I a0.Heap.High]) ty23 sz23 (S9.atX (i := 0) rfl) rfl rfl rfl ?_
    obtain ⟨r10, h11, H⟩ := bindS H
    refine p_cv (coal_isSpan_ok h11) fu81 rfl S9 fun w12 S13 => ?_
    refine p_mB rfl ?_
    rcases Bool.eq_false_or_eq_true (r10) with c14 | c14
    · replace H := condT c14 H
      refine eB c14 ?_
      refine gT rfl rfl (p_fld fl29_3 rfl ?_)
      refine gT rfl rfl (p_ld ty26 (S13.atX (i := 0) rfl) rfl rfl ?_)
      refine gT rfl rfl (p_len rfl sc26 ?_)
      obtain ⟨r15, h16, H⟩ := bindS H
      refine gT rfl rfl (p_cv (coal_within_ok h16) fu79 rfl S13 fun w17 S18 => ?_)
      refine p_pkT rfl (rfl : _ = B r15) ?_
      refine p_mB rfl ?_
      rcases Bool.eq_false_or_eq_true (r15) with c19 | c19
      · replace H := condT c19 H
        refine eB c19 ?_
        refine gT rfl rfl (p_fld fl29_4 rfl ?_)
        refine gT rfl rfl (p_ldP (vs := [I a0.Collier.Low, I a0.Collier.High]) ty23 sz23 (S18.atX (i := 0) rfl) rfl rfl rfl ?_)
        refine gT rfl rfl (p_fld fl29_3 rfl ?_)
        refine gT rfl rfl (p_ld ty26 (S18.atX (i := 0) rfl) rfl rfl ?_)
        refine gT rfl rfl (p_len rfl sc26 ?_)
        obtain ⟨r20, h21, H⟩ := bindS H
        refine gT rfl rfl (p_cv (coal_isSpan_ok h21) fu81 rfl S18 fun w22 S23 => ?_)
        refine p_pkT rfl (rfl : _ = B r20) ?_
        refine p_mB rfl ?_
        rcases Bool.eq_false_or_eq_true (r20) with c24 | c24
        · replace H := condT c24 H
          refine eB c24 ?_
          refine gT rfl rfl (p_fld fl29_5 rfl ?_)
          refine gT rfl rfl (p_ld ty3 (S23.atX (i := 0) rfl) rfl rfl ?_)
          obtain ⟨r25, h26, H⟩ := bindS H
          refine gT rfl rfl (p_cv (coal_within_ok h26) fu79 rfl S23 fun w27 S28 => ?_)
          refine p_pkT rfl (rfl : _ = B r25) ?_
          refine p_mB rfl ?_
          rcases Bool.eq_false_or_eq_true (r25) with c29 | c29
          · replace H := condT c29 H
            refine eB c29 ?_
            refine gT rfl rfl (p_fld fl29_6 rfl ?_)
            refine gT rfl rfl (p_ld ty27 (S28.atX (i := 0) rfl) rfl rfl ?_)
            refine gT rfl rfl (p_len rfl sc27 ?_)
            refine gT rfl rfl (p_cmp rfl rfl rfl ?_)
            refine p_pkT rfl (rfl : _ = B (decide ((a0.Dips.length : Int) ≤ 4))) ?_
            refine p_aB rfl ?_
            refine wp_nil ?_
            exact ⟨decide ((a0.Dips.length : Int) ≤ 4), (), _, rfl, ⟨rfl, rfl, trivial⟩, H, S28⟩
          · replace H := condF c29 H
            refine eB c29 ?_
            refine gF rfl rfl ?_
            refine gF rfl rfl ?_
            refine gF rfl rfl ?_
            refine gF rfl rfl ?_
            refine p_pkF rfl (rfl : _ = B false) ?_
            refine p_aB rfl ?_
            refine wp_nil ?_
            exact ⟨false, (), _, rfl, ⟨rfl, rfl, trivial⟩, H, S28⟩
        · replace H := condF c24 H
          refine eB c24 ?_
          refine gF rfl rfl ?_
          refine gF rfl rfl ?_
          refine gF rfl rfl ?_
          refine p_pkF rfl (rfl : _ = B false) ?_
          refine p_mB rfl ?_
          refine gF rfl rfl ?_
          refine gF rfl rfl ?_
          refine gF rfl rfl ?_
          refine gF rfl rfl ?_
          refine p_pkF rfl (rfl : _ = B false) ?_
          refine p_aB rfl ?_
          refine wp_nil ?_
          exact ⟨false, (), _, rfl, ⟨rfl, rfl, trivial⟩, H, S23⟩
      · replace H := condF c19 H
        refine eB c19 ?_
        refine gF rfl rfl ?_
        refine gF rfl rfl ?_
        refine gF rfl rfl ?_
        refine gF rfl rfl ?_
        refine gF rfl rfl ?_
        refine gF rfl rfl ?_
        refine p_pkF rfl (rfl : _ = B false) ?_
        refine p_mB rfl ?_
        refine gF rfl rfl ?_
        refine gF rfl rfl ?_
        refine gF rfl rfl ?_
        refine p_pkF rfl (rfl : _ = B false) ?_
        refine p_mB rfl ?_
        refine gF rfl rfl ?_
        refine gF rfl rfl ?_
        refine gF rfl rfl ?_
        refine gF rfl rfl ?_
        refine p_pkF rfl (rfl : _ = B false) ?_
        refine p_aB rfl ?_
        refine wp_nil ?_
        exact ⟨false, (), _, rfl, ⟨rfl, rfl, trivial⟩, H, S18⟩
    · replace H := condF c14 H
      refine eB c14 ?_
      refine gF rfl rfl ?_
      refine gF rfl rfl ?_
      refine gF rfl rfl ?_
      refine gF rfl rfl ?_
      refine p_pkF rfl (rfl : _ = B false) ?_
      refine p_mB rfl ?_
      refine gF rfl rfl ?_
      refine gF rfl rfl ?_
      refine gF rfl rfl ?_
      refine gF rfl rfl ?_
      refine gF rfl rfl ?_
      refine gF rfl rfl ?_
      refine p_pkF rfl (rfl : _ = B false) ?_
      refine p_mB rfl ?_
      refine gF rfl rfl ?_
      refine gF rfl rfl ?_
      refine gF rfl rfl ?_
      refine p_pkF rfl (rfl : _ = B false) ?_
      refine p_mB rfl ?_
      refine gF rfl rfl ?_
      refine gF rfl rfl ?_
      refine gF rfl rfl ?_
      refine gF rfl rfl ?_
      refine p_pkF rfl (rfl : _ = B false) ?_
      refine p_aB rfl ?_
      refine wp_nil ?_
      exact ⟨false, (), _, rfl, ⟨rfl, rfl, trivial⟩, H, S13⟩
  · intro z_1 y_1 e10 w11 S12; obtain ⟨H, S12⟩ := S12
    unfold coal_Check_j9 at H
    refine c_seq ?_
    refine c_seq ?_
    refine reg ?_
    refine p_fld fl29_1 rfl ?_
    refine p_ldP (vs := sgE eSpan a0.Eats 2) ty24 sz24 (S12.atX (i := 0) rfl) rfl rfl rfl ?_
    refine p_mI rfl ?_
    refine wp_nil ?_
    refine c_block ?_
    refine c_lop (α := Bool × Int) (β := Unit) (coal_Check_l8 a0) (fun z_2 y_2 => [(1, P b7 0), (3, B z_2.1), (41, AG (sgE eSpan a0.Eats 2)), (42, I z_2.2)]) (fun z_2 y_2 w_ => St w (fun _ => False) w_ [bl b7 ([I a0.Heap.Low, I a0.Heap.High] ++ (sgE eSpan a0.Eats 2 ++ (sg a0.Extra 3 ++ [SL A1 a0.Days.length c2, I a0.Collier.Low, I a0.Collier.High, I a0.Brings, SL A4 a0.Dips.length c5]))) 29] [rd eCoalDay 3 A1 c2 a0.Days, rd eCoalDip 3 A4 c5 a0.Dips]) (z_1, 0) () H ⟨rfl, rfl, rfl, rfl, trivial⟩ S12 ?_
    intro m13 z_2 y_2 e14 w15 H S16
    unfold coal_Check_l8 at H
    refine c_seq ?_
    refine reg ?_
    refine p_cmp rfl rfl rfl ?_
    refine wp_nil ?_
    refine c_seq ?_
    refine c_cond rfl (fun c17 => ?_) (fun c17 => ?_)
    · replace H := condT c17 H
      refine c_skip ?_
      refine c_seq ?_
      refine c_block ?_
      refine c_seq ?_
      refine reg ?_
      obtain ⟨h18, H⟩ := needS H
      refine p_idxS (enc := eSpan) (l := a0.Eats) ae24 sz23 ty23 eSpan_len h18 rfl rfl ?_
      refine p_allA in23 S16 fun b19 w20 S21 => ?_
      refine p_stP (pre := []) (old := [I 0, I 0]) (post := []) (vs := [I ((agetS a0.Eats z_2.2).Low), I ((agetS a0.Eats z_2.2).High)]) sz23 S21 (i := 0) rfl rfl rfl rfl (rfl : _ = AG [I ((agetS a0.Eats z_2.2).Low), I ((agetS a0.Eats z_2.2).High)]) rfl rfl rfl rfl fun w22 S23 => ?_
      refine wp_nil ?_
      refine reg ?_
      refine p_mB rfl ?_
      refine p_mB rfl ?_
      rcases Bool.eq_false_or_eq_true (z_2.1) with c24 | c24
      · replace H := condT c24 H
        refine eB c24 ?_
        refine gT rfl rfl (p_ldA ty23 sz23 (S23.atX (i := 0) rfl) rfl rfl ?_)
        obtain ⟨r25, h26, H⟩ := bindS H
        refine gT rfl rfl (p_cv (coal_isSpan_ok h26) fu81 rfl S23 fun w27 S28 => ?_)
        refine p_pkT rfl (rfl : _ = B r25) ?_
        refine p_aB rfl ?_
        refine wp_nil ?_
        refine reg ?_
        refine p_add rfl rfl ?_
        refine p_mI rfl ?_
        refine wp_nil ?_
        have S29 := S28.pk [1] (by decide) [0, 1] rfl rfl
        exact ⟨(r25, wr (z_2.2 + 1)), (), _, rfl, ⟨rfl, rfl, rfl, rfl, trivial⟩, H, S29⟩
      · replace H := condF c24 H
        refine eB c24 ?_
        refine gF rfl rfl ?_
        refine gF rfl rfl ?_
        refine p_pkF rfl (rfl : _ = B false) ?_
        refine p_aB rfl ?_
        refine wp_nil ?_
        refine reg ?_
        refine p_add rfl rfl ?_
        refine p_mI rfl ?_
        refine wp_nil ?_
        have S30 := S23.pk [1] (by decide) [0, 1] rfl rfl
        exact ⟨(false, wr (z_2.2 + 1)), (), _, rfl, ⟨rfl, rfl, rfl, rfl, trivial⟩, H, S30⟩
    · replace H := condF c17 H
      refine c_exit ?_
      refine c_seq ?_
      refine c_seq ?_
      refine reg ?_
      refine p_fld fl29_2 rfl ?_
      refine p_ldP (vs := sg a0.Extra 3) ty25 sz25 (S16.atX (i := 0) rfl) rfl rfl rfl ?_
      refine p_mI rfl ?_
      refine wp_nil ?_
      refine c_block ?_
      refine c_lop (α := Bool × Int) (β := Unit) (coal_Check_l7 a0) (fun z_3 y_3 => [(1, P b7 0), (3, B z_3.1), (52, AG (sg a0.Extra 3)), (53, I z_3.2)]) (fun z_3 y_3 w_ => St w (fun _ => False) w_ [bl b7 ([I a0.Heap.Low, I a0.Heap.High] ++ (sgE eSpan a0.Eats 2 ++ (sg a0.Extra 3 ++ [SL A1 a0.Days.length c2, I a0.Collier.Low, I a0.Collier.High, I a0.Brings, SL A4 a0.Dips.length c5]))) 29] [rd eCoalDay 3 A1 c2 a0.Days, rd eCoalDip 3 A4 c5 a0.Dips]) (z_2.1, 0) () H ⟨rfl, rfl, rfl, rfl, trivial⟩ S16 ?_
      intro m31 z_3 y_3 e32 w33 H S34
      unfold coal_Check_l7 at H
      refine c_seq ?_
      refine reg ?_
      refine p_cmp rfl rfl rfl ?_
      refine wp_nil ?_
      refine c_seq ?_
      refine c_cond rfl (fun c35 => ?_) (fun c35 => ?_)
      · replace H := condT c35 H
        refine c_skip ?_
        refine c_seq ?_
        refine c_block ?_
        refine c_seq ?_
        refine reg ?_
        obtain ⟨h36, H⟩ := needS H
        refine p_idxI (l := a0.Extra) ae25 sz3 ty3 h36 rfl rfl ?_
        refine p_aI rfl ?_
        refine wp_nil ?_
        refine reg ?_
        refine p_mB rfl ?_
        refine p_mB rfl ?_
        rcases Bool.eq_false_or_eq_true (z_3.1) with c37 | c37
        · replace H := condT c37 H
          refine eB c37 ?_
          refine gT rfl rfl (p_mI rfl ?_)
          obtain ⟨r38, h39, H⟩ := bindS H
          refine gT rfl rfl (p_cv (coal_within_ok h39) fu79 rfl S34 fun w40 S41 => ?_)
          refine p_pkT rfl (rfl : _ = B r38) ?_
          refine p_aB rfl ?_
          refine wp_nil ?_
          refine reg ?_
          refine p_add rfl rfl ?_
          refine p_mI rfl ?_
          refine wp_nil ?_
          exact ⟨(r38, wr (z_3.2 + 1)), (), _, rfl, ⟨rfl, rfl, rfl, rfl, trivial⟩, H, S41⟩
        · replace H := condF c37 H
          refine eB c37 ?_
          refine gF rfl rfl ?_
          refine gF rfl rfl ?_
          refine p_pkF rfl (rfl : _ = B false) ?_
          refine p_aB rfl ?_
          refine wp_nil ?_
          refine reg ?_
          refine p_add rfl rfl ?_
          refine p_mI rfl ?_
          refine wp_nil ?_
          exact ⟨(false, wr (z_3.2 + 1)), (), _, rfl, ⟨rfl, rfl, rfl, rfl, trivial⟩, H, S34⟩
      · replace H := condF c35 H
        refine c_exit ?_
        refine c_seq ?_
        refine c_seq ?_
        refine reg ?_
        refine p_fld fl29_3 rfl ?_
        refine p_ld ty26 (S34.atX (i := 0) rfl) rfl rfl ?_
        refine p_len rfl sc26 ?_
        refine p_mI rfl ?_
        refine wp_nil ?_
        refine c_block ?_
        refine c_lop (α := Bool × Int) (β := Unit) (coal_Check_l6 a0) (fun z_4 y_4 => [(1, P b7 0), (3, B z_4.1), (63, SL A1 a0.Days.length c2), (64, I (a0.Days.length : Int)), (65, I z_4.2)]) (fun z_4 y_4 w_ => St w (fun _ => False) w_ [bl b7 ([I a0.Heap.Low, I a0.Heap.High] ++ (sgE eSpan a0.Eats 2 ++ (sg a0.Extra 3 ++ [SL A1 a0.Days.length c2, I a0.Collier.Low, I a0.Collier.High, I a0.Brings, SL A4 a0.Dips.length c5]))) 29] [rd eCoalDay 3 A1 c2 a0.Days, rd eCoalDip 3 A4 c5 a0.Dips]) (z_3.1, 0) () H ⟨rfl, rfl, rfl, rfl, rfl, trivial⟩ S34 ?_
        intro m42 z_4 y_4 e43 w44 H S45
        unfold coal_Check_l6 at H
        refine c_seq ?_
        refine reg ?_
        refine p_cmp rfl rfl rfl ?_
        refine wp_nil ?_
        refine c_seq ?_
        refine c_cond rfl (fun c46 => ?_) (fun c46 => ?_)
        · replace H := condT c46 H
          refine c_skip ?_
          refine c_seq ?_
          refine c_block ?_
          refine c_seq ?_
          refine reg ?_
          obtain ⟨r47, h48, H⟩ := bindS H
          refine p_ixE sc26 h48 (S45.atP (i := 0) rfl).1 rfl rfl rfl ?_
          refine p_ldEA ty64 sz64 rfl h48 (S45.atP (i := 0) rfl).1 rfl ?_
          refine p_allA in64 S45 fun b49 w50 S51 => ?_
          refine p_stP (pre := []) (old := [I 0, I 0, I 0]) (post := []) (vs := [I r47.Crosses, I r47.Engines, I r47.Winds]) sz64 S51 (i := 0) rfl rfl rfl rfl (rfl : _ = AG [I r47.Crosses, I r47.Engines, I r47.Winds]) rfl rfl rfl rfl fun w52 S53 => ?_
          refine wp_nil ?_
          refine reg ?_
          refine p_mB rfl ?_
          refine p_mB rfl ?_
          rcases Bool.eq_false_or_eq_true (z_4.1) with c54 | c54
          · replace H := condT c54 H
            refine eB c54 ?_
            refine gT rfl rfl (p_fld fl64_0 rfl ?_)
            refine gT rfl rfl (p_ld ty3 (S53.atX (i := 0) rfl) rfl rfl ?_)
            obtain ⟨r55, h56, H⟩ := bindS H
            refine gT rfl rfl (p_cv (coal_within_ok h56) fu79 rfl S53 fun w57 S58 => ?_)
            refine p_pkT rfl (rfl : _ = B r55) ?_
            refine p_mB rfl ?_
            rcases Bool.eq_false_or_eq_true (r55) with c59 | c59
            · replace H := condT c59 H
              refine eB c59 ?_
              refine gT rfl rfl (p_fld fl64_1 rfl ?_)
              refine gT rfl rfl (p_ld ty3 (S58.atX (i := 0) rfl) rfl rfl ?_)
              obtain ⟨r60, h61, H⟩ := bindS H
              refine gT rfl rfl (p_cv (coal_within_ok h61) fu79 rfl S58 fun w62 S63 => ?_)
              refine p_pkT rfl (rfl : _ = B r60) ?_
              refine p_mB rfl ?_
              rcases Bool.eq_false_or_eq_true (r60) with c64 | c64
              · replace H := condT c64 H
                refine eB c64 ?_
                refine gT rfl rfl (p_fld fl64_2 rfl ?_)
                refine gT rfl rfl (p_ld ty3 (S63.atX (i := 0) rfl) rfl rfl ?_)
                obtain ⟨r65, h66, H⟩ := bindS H
                refine gT rfl rfl (p_cv (coal_within_ok h66) fu79 rfl S63 fun w67 S68 => ?_)
                refine p_pkT rfl (rfl : _ = B r65) ?_
                refine p_aB rfl ?_
                refine wp_nil ?_
                refine reg ?_
                refine p_add rfl rfl ?_
                refine p_mI rfl ?_
                refine wp_nil ?_
                have S69 := S68.pk [1] (by decide) [0, 1] rfl rfl
                exact ⟨(r65, wr (z_4.2 + 1)), (), _, rfl, ⟨rfl, rfl, rfl, rfl, rfl, trivial⟩, H, S69⟩
              · replace H := condF c64 H
                refine eB c64 ?_
                refine gF rfl rfl ?_
                refine gF rfl rfl ?_
                refine gF rfl rfl ?_
                refine p_pkF rfl (rfl : _ = B false) ?_
                refine p_aB rfl ?_
                refine wp_nil ?_
                refine reg ?_
                refine p_add rfl rfl ?_
                refine p_mI rfl ?_
                refine wp_nil ?_
                have S70 := S63.pk [1] (by decide) [0, 1] rfl rfl
                exact ⟨(false, wr (z_4.2 + 1)), (), _, rfl, ⟨rfl, rfl, rfl, rfl, rfl, trivial⟩, H, S70⟩
            · replace H := condF c59 H
              refine eB c59 ?_
              refine gF rfl rfl ?_
              refine gF rfl rfl ?_
              refine gF rfl rfl ?_
              refine p_pkF rfl (rfl : _ = B false) ?_
              refine p_mB rfl ?_
              refine gF rfl rfl ?_
              refine gF rfl rfl ?_
              refine gF rfl rfl ?_
              refine p_pkF rfl (rfl : _ = B false) ?_
              refine p_aB rfl ?_
              refine wp_nil ?_
              refine reg ?_
              refine p_add rfl rfl ?_
              refine p_mI rfl ?_
              refine wp_nil ?_
              have S71 := S58.pk [1] (by decide) [0, 1] rfl rfl
              exact ⟨(false, wr (z_4.2 + 1)), (), _, rfl, ⟨rfl, rfl, rfl, rfl, rfl, trivial⟩, H, S71⟩
          · replace H := condF c54 H
            refine eB c54 ?_
            refine gF rfl rfl ?_
            refine gF rfl rfl ?_
            refine gF rfl rfl ?_
            refine p_pkF rfl (rfl : _ = B false) ?_
            refine p_mB rfl ?_
            refine gF rfl rfl ?_
            refine gF rfl rfl ?_
            refine gF rfl rfl ?_
            refine p_pkF rfl (rfl : _ = B false) ?_
            refine p_mB rfl ?_
            refine gF rfl rfl ?_
            refine gF rfl rfl ?_
            refine gF rfl rfl ?_
            refine p_pkF rfl (rfl : _ = B false) ?_
            refine p_aB rfl ?_
            refine wp_nil ?_
            refine reg ?_
            refine p_add rfl rfl ?_
            refine p_mI rfl ?_
            refine wp_nil ?_
            have S72 := S53.pk [1] (by decide) [0, 1] rfl rfl
            exact ⟨(false, wr (z_4.2 + 1)), (), _, rfl, ⟨rfl, rfl, rfl, rfl, rfl, trivial⟩, H, S72⟩
        · replace H := condF c46 H
          refine c_exit ?_
          refine c_seq ?_
          refine c_seq ?_
          refine reg ?_
          refine p_fld fl29_6 rfl ?_
          refine p_ld ty27 (S45.atX (i := 0) rfl) rfl rfl ?_
          refine p_len rfl sc27 ?_
          refine p_mI rfl ?_
          refine wp_nil ?_
          refine c_block ?_
          refine c_lop (α := Bool × Int) (β := Unit) (coal_Check_l5 a0) (fun z_5 y_5 => [(1, P b7 0), (3, B z_5.1), (87, SL A4 a0.Dips.length c5), (88, I (a0.Dips.length : Int)), (89, I z_5.2)]) (fun z_5 y_5 w_ => St w (fun _ => False) w_ [bl b7 ([I a0.Heap.Low, I a0.Heap.High] ++ (sgE eSpan a0.Eats 2 ++ (sg a0.Extra 3 ++ [SL A1 a0.Days.length c2, I a0.Collier.Low, I a0.Collier.High, I a0.Brings, SL A4 a0.Dips.length c5]))) 29] [rd eCoalDay 3 A1 c2 a0.Days, rd eCoalDip 3 A4 c5 a0.Dips]) (z_4.1, 0) () H ⟨rfl, rfl, rfl, rfl, rfl, trivial⟩ S45 ?_
          intro m73 z_5 y_5 e74 w75 H S76
          unfold coal_Check_l5 at H
          refine c_seq ?_
          refine reg ?_
          refine p_cmp rfl rfl rfl ?_
          refine wp_nil ?_
          refine c_seq ?_
          refine c_cond rfl (fun c77 => ?_) (fun c77 => ?_)
          · replace H := condT c77 H
            refine c_skip ?_
            refine c_seq ?_
            refine c_block ?_
            refine c_seq ?_
            refine reg ?_
            obtain ⟨r78, h79, H⟩ := bindS H
            refine p_ixE sc27 h79 (S76.atP (i := 1) rfl).1 rfl rfl rfl ?_
            refine p_ldEA ty67 sz67 rfl h79 (S76.atP (i := 1) rfl).1 rfl ?_
            refine p_allA in67 S76 fun b80 w81 S82 => ?_
            refine p_stP (pre := []) (old := [I 0, I 0, I 0]) (post := []) (vs := [I r78.Day, I r78.Read, I r78.Error]) sz67 S82 (i := 0) rfl rfl rfl rfl (rfl : _ = AG [I r78.Day, I r78.Read, I r78.Error]) rfl rfl rfl rfl fun w83 S84 => ?_
            refine wp_nil ?_
            refine reg ?_
            refine p_mB rfl ?_
            refine p_mB rfl ?_
            rcases Bool.eq_false_or_eq_true (z_5.1) with c85 | c85
            · replace H := condT c85 H
              refine eB c85 ?_
              refine gT rfl rfl (p_ldA ty29 sz29 (S84.atX (i := 1) rfl) rfl rfl ?_)
              refine gT rfl rfl (p_fld fl67_0 rfl ?_)
              refine gT rfl rfl (p_ld ty3 (S84.atX (i := 0) rfl) rfl rfl ?_)
              obtain ⟨r86, h87, H⟩ := bindS H
              refine gT rfl rfl (p_cv (coal_isDay_ok h87 (S84.atP (i := 0) rfl) (S84.atP (i := 1) rfl)) fu75 rfl S84 fun w88 S89 => ?_)
              refine p_pkT rfl (rfl : _ = B r86) ?_
              refine p_mB rfl ?_
              rcases Bool.eq_false_or_eq_true (r86) with c90 | c90
              · replace H := condT c90 H
                refine eB c90 ?_
                refine gT rfl rfl (p_fld fl67_1 rfl ?_)
                refine gT rfl rfl (p_ld ty3 (S89.atX (i := 0) rfl) rfl rfl ?_)
                obtain ⟨r91, h92, H⟩ := bindS H
                refine gT rfl rfl (p_cv (coal_within_ok h92) fu79 rfl S89 fun w93 S94 => ?_)
                refine p_pkT rfl (rfl : _ = B r91) ?_
                refine p_mB rfl ?_
                rcases Bool.eq_false_or_eq_true (r91) with c95 | c95
                · replace H := condT c95 H
                  refine eB c95 ?_
                  refine gT rfl rfl (p_fld fl67_2 rfl ?_)
                  refine gT rfl rfl (p_ld ty3 (S94.atX (i := 0) rfl) rfl rfl ?_)
                  obtain ⟨r96, h97, H⟩ := bindS H
                  refine gT rfl rfl (p_cv (coal_within_ok h97) fu79 rfl S94 fun w98 S99 => ?_)
                  refine p_pkT rfl (rfl : _ = B r96) ?_
                  refine p_aB rfl ?_
                  refine wp_nil ?_
                  refine reg ?_
                  refine p_add rfl rfl ?_
                  refine p_mI rfl ?_
                  refine wp_nil ?_
                  have S100 := S99.pk [1] (by decide) [0, 1] rfl rfl
                  exact ⟨(r96, wr (z_5.2 + 1)), (), _, rfl, ⟨rfl, rfl, rfl, rfl, rfl, trivial⟩, H, S100⟩
                · replace H := condF c95 H
                  refine eB c95 ?_
                  refine gF rfl rfl ?_
                  refine gF rfl rfl ?_
                  refine gF rfl rfl ?_
                  refine p_pkF rfl (rfl : _ = B false) ?_
                  refine p_aB rfl ?_
                  refine wp_nil ?_
                  refine reg ?_
                  refine p_add rfl rfl ?_
                  refine p_mI rfl ?_
                  refine wp_nil ?_
                  have S101 := S94.pk [1] (by decide) [0, 1] rfl rfl
                  exact ⟨(false, wr (z_5.2 + 1)), (), _, rfl, ⟨rfl, rfl, rfl, rfl, rfl, trivial⟩, H, S101⟩
              · replace H := condF c90 H
                refine eB c90 ?_
                refine gF rfl rfl ?_
                refine gF rfl rfl ?_
                refine gF rfl rfl ?_
                refine p_pkF rfl (rfl : _ = B false) ?_
                refine p_mB rfl ?_
                refine gF rfl rfl ?_
                refine gF rfl rfl ?_
                refine gF rfl rfl ?_
                refine p_pkF rfl (rfl : _ = B false) ?_
                refine p_aB rfl ?_
                refine wp_nil ?_
                refine reg ?_
                refine p_add rfl rfl ?_
                refine p_mI rfl ?_
                refine wp_nil ?_
                have S102 := S89.pk [1] (by decide) [0, 1] rfl rfl
                exact ⟨(false, wr (z_5.2 + 1)), (), _, rfl, ⟨rfl, rfl, rfl, rfl, rfl, trivial⟩, H, S102⟩
            · replace H := condF c85 H
              refine eB c85 ?_
              refine gF rfl rfl ?_
              refine gF rfl rfl ?_
              refine gF rfl rfl ?_
              refine gF rfl rfl ?_
              refine p_pkF rfl (rfl : _ = B false) ?_
              refine p_mB rfl ?_
              refine gF rfl rfl ?_
              refine gF rfl rfl ?_
              refine gF rfl rfl ?_
              refine p_pkF rfl (rfl : _ = B false) ?_
              refine p_mB rfl ?_
              refine gF rfl rfl ?_
              refine gF rfl rfl ?_
              refine gF rfl rfl ?_
              refine p_pkF rfl (rfl : _ = B false) ?_
              refine p_aB rfl ?_
              refine wp_nil ?_
              refine reg ?_
              refine p_add rfl rfl ?_
              refine p_mI rfl ?_
              refine wp_nil ?_
              have S103 := S84.pk [1] (by decide) [0, 1] rfl rfl
              exact ⟨(false, wr (z_5.2 + 1)), (), _, rfl, ⟨rfl, rfl, rfl, rfl, rfl, trivial⟩, H, S103⟩
          · replace H := condF c77 H
            refine c_exit ?_
            refine c_seq ?_
            refine c_seq ?_
            refine reg ?_
            refine p_mB rfl ?_
            refine p_not rfl ?_
            refine wp_nil ?_
            refine c_cond rfl (fun c104 => ?_) (fun c104 => ?_)
            · replace H := condT c104 H
              refine c_seq ?_
              refine reg ?_
              refine p_aI rfl ?_
              refine wp_nil ?_
              obtain rfl := Option.some.inj H
              refine c_ret ?_; show bodyPostM (Fr none) 0 Tryd.prog Tryd.f41 _ .ret _ _
              refine ret_of (res1 rfl (rvT (rfl : _ = I 60))) ?_
              exact ⟨_, rfl, rfl, S76.keep⟩
            · replace H := condF c104 H
              refine c_skip ?_
              refine c_seq ?_
              refine reg ?_
              refine p_aI rfl ?_
              refine wp_nil ?_
              obtain rfl := Option.some.inj H
              refine c_ret ?_; show bodyPostM (Fr none) 0 Tryd.prog Tryd.f41 _ .ret _ _
              refine ret_of (res1 rfl (rvT (rfl : _ = I 0))) ?_
              exact ⟨_, rfl, rfl, S76.keep⟩

def sl_Index_int_int_l1 (a0 : List Int) (a1 : Int) (rec_z_1 : Int → Option Int) (z_1 : Int) : Option Int :=
  bif decide (z_1 < (a0.length : Int)) then ((getI a0 z_1).bind fun r9 =>
  bif (a1 == r9) then (some z_1)
  else (rec_z_1 (wr (z_1 + 1))))
  else (some (-1))

def sl_Index_int_int (a0 : List Int) (a1 : Int) : Option Int :=
  loopF (sl_Index_int_int_l1 a0 a1) big 0

set_option maxRecDepth 100000 in
theorem sl_Index_int_int_ok {a0 : List Int} {a1 : Int} {A1 : Option Addr} {c2 : Nat} {w : World} {r : Int} (H : sl_Index_int_int a0 a1 = some r) (h3 : (rd intE 1 A1 c2 a0).ok w) : Calls Tryd.prog 101 #[SL A1 a0.length c2, I a1] w (RetV w (I r)) := by
  unfold sl_Index_int_int at H
  refine fn_of (n := 19) Tryd.func101 rfl rfl (Nat.le_of_ble_eq_true rfl) ?_
  have S : St w (fun _ => False) w [] [rd intE 1 A1 c2 a0] := St.start w _ _ (List.forall_mem_cons.2 ⟨h3, (fun _ h_ => (List.not_mem_nil h_).elim)⟩)
  refine c_seq ?_
  refine reg ?_
  refine p_aI rfl ?_
  refine wp_nil ?_
  refine c_seq ?_
  refine c_seq ?_
  refine reg ?_
  refine p_mS rfl ?_
  refine p_len rfl sc39 ?_
  refine p_mI rfl ?_
  refine wp_nil ?_
  refine c_block ?_
  refine c_lop (α := Int) (β := Unit) (sl_Index_int_int_l1 a0 a1) (fun z_1 y_1 => [(0, SL A1 a0.length c2), (1, I a1), (7, I (a0.length : Int)), (8, I z_1)]) (fun z_1 y_1 w_ => St w (fun _ => False) w_ [] [rd intE 1 A1 c2 a0]) 0 () H ⟨rfl, rfl, rfl, rfl, trivial⟩ S ?_
  intro m4 z_1 y_1 e5 w6 H S7
  unfold sl_Index_int_int_l1 at H
  refine c_seq ?_
  refine reg ?_
  refine p_cmp rfl rfl rfl ?_
  refine wp_nil ?_
  refine c_seq ?_
  refine c_cond rfl (fun c8 => ?_) (fun c8 => ?_)
  · replace H := condT c8 H
    refine c_skip ?_
    refine c_seq ?_
    refine c_block ?_
    refine c_seq ?_
    refine reg ?_
    refine p_mI rfl ?_
    refine p_aI rfl ?_
    refine wp_nil ?_
    refine c_seq ?_
    refine reg ?_
    refine p_mI rfl ?_
    refine p_mS rfl ?_
    refine p_mI rfl ?_
    obtain ⟨r9, h10, H⟩ := bindS H
    refine p_ixE sc39 h10 (S7.atP (i := 0) rfl).1 rfl rfl rfl ?_
    refine p_ldE ty3 h10 (S7.atP (i := 0) rfl).1 rfl rfl ?_
    refine p_cmp rfl rfl rfl ?_
    refine wp_nil ?_
    refine c_cond rfl (fun c11 => ?_) (fun c11 => ?_)
    · replace H := condT c11 H
      refine c_seq ?_
      refine reg ?_
      refine p_mI rfl ?_
      refine p_aI rfl ?_
      refine wp_nil ?_
      obtain rfl := Option.some.inj H
      refine c_ret ?_; show bodyPostM (Fr none) 0 Tryd.prog Tryd.f101 _ .ret _ _
      refine ret_of (res1 rfl (rvT (rfl : _ = I z_1))) ?_
      exact ⟨_, rfl, rfl, S7.keep⟩
    · replace H := condF c11 H
      refine c_skip ?_
      refine reg ?_
      refine p_add rfl rfl ?_
      refine p_mI rfl ?_
      refine wp_nil ?_
      exact ⟨wr (z_1 + 1), (), _, rfl, ⟨rfl, rfl, rfl, rfl, trivial⟩, H, S7⟩
  · replace H := condF c8 H
    refine c_exit ?_
    refine c_seq ?_
    refine reg ?_
    refine p_aI rfl ?_
    refine wp_nil ?_
    obtain rfl := Option.some.inj H
    refine c_ret ?_; show bodyPostM (Fr none) 0 Tryd.prog Tryd.f101 _ .ret _ _
    refine ret_of (res1 rfl (rvT (rfl : _ = I (-1)))) ?_
    exact ⟨_, rfl, rfl, S7.keep⟩

def sl_Contains_int_int (a0 : List Int) (a1 : Int) : Option Bool :=
  (sl_Index_int_int a0 a1).bind fun r4 =>
  some (decide (r4 ≥ 0))

set_option maxRecDepth 100000 in
theorem sl_Contains_int_int_ok {a0 : List Int} {a1 : Int} {A1 : Option Addr} {c2 : Nat} {w : World} {r : Bool} (H : sl_Contains_int_int a0 a1 = some r) (h3 : (rd intE 1 A1 c2 a0).ok w) : Calls Tryd.prog 93 #[SL A1 a0.length c2, I a1] w (RetV w (B r)) := by
  unfold sl_Contains_int_int at H
  refine fn_of (n := 9) Tryd.func93 rfl rfl (Nat.le_of_ble_eq_true rfl) ?_
  have S : St w (fun _ => False) w [] [rd intE 1 A1 c2 a0] := St.start w _ _ (List.forall_mem_cons.2 ⟨h3, (fun _ h_ => (List.not_mem_nil h_).elim)⟩)
  refine c_seq ?_
  refine reg ?_
  refine p_aB rfl ?_
  refine wp_nil ?_
  refine c_seq ?_
  refine reg ?_
  refine p_mS rfl ?_
  refine p_mI rfl ?_
  obtain ⟨r4, h5, H⟩ := bindS H
  refine p_cv (sl_Index_int_int_ok h5 (S.atP (i := 0) rfl)) fu101 rfl S fun w6 S7 => ?_
  refine p_cmp rfl rfl rfl ?_
  refine p_aB rfl ?_
  refine wp_nil ?_
  obtain rfl := Option.some.inj H
  refine c_ret ?_; show bodyPostM (Fr none) 0 Tryd.prog Tryd.f93 _ .ret _ _
  refine ret_of (res1 rfl (rvT (rfl : _ = B (decide (r4 ≥ 0))))) ?_
  exact ⟨_, rfl, rfl, S7.keep⟩

def coal_opened_j26 (rec_z_3 : (Int × (List (Coal_gust × Int))) → Option Coal_book) (z_3 : Int × (List (Coal_gust × Int))) (z_2 : Int × (List (Coal_gust × Int))) (r64 : CoalDay) (a0 : CoalBook) (z_4 : Bool) : Option Coal_book :=
  bif z_4 then (rec_z_3 (wr (z_3.1 + 1), putL z_3.2 (Coal_gust.mk z_2.1 z_3.1) (wr (r64.Crosses * (aget a0.Extra z_3.1)))))
  else (rec_z_3 (wr (z_3.1 + 1), z_3.2))

def coal_opened_l27 (z_2 : Int × (List (Coal_gust × Int))) (r64 : CoalDay) (a0 : CoalBook) (rec_z_2 : (Int × (List (Coal_gust × Int))) → Option Coal_book) (rec_z_3 : (Int × (List (Coal_gust × Int))) → Option Coal_book) (z_3 : Int × (List (Coal_gust × Int))) : Option Coal_book :=
  bif decide (z_3.1 < 3) then (need (inI z_3.1 3) <|
  bif !((z_2.1 == (-1)) && (z_3.1 == (-1))) then (need (decide (0 ≤ z_3.1)) <|
  coal_opened_j26 rec_z_3 z_3 z_2 r64 a0 ((andI (shrI r64.Winds z_3.1) 1) == 1))
  else (coal_opened_j26 rec_z_3 z_3 z_2 r64 a0 false))
  else (rec_z_2 (wr (z_2.1 + 1), z_3.2))

def coal_opened_l28 (a0 : CoalBook) (z_1 : Int × (List CoalDip)) (rec_z_2 : (Int × (List (Coal_gust × Int))) → Option Coal_book) (z_2 : Int × (List (Coal_gust × Int))) : Option Coal_book :=
  bif decide (z_2.1 < (a0.Days.length : Int)) then ((getI a0.Days z_2.1).bind fun r64 =>
  loopF (coal_opened_l27 z_2 r64 a0 rec_z_2) big (0, z_2.2))
  else (some (Coal_book.mk (CoalBook.mk a0.Heap a0.Eats a0.Extra a0.Days a0.Collier a0.Brings z_1.2) z_2.2))

def coal_opened_l29 (a0 : CoalBook) (a1 : List Int) (rec_z_1 : (Int × (List CoalDip)) → Option Coal_book) (z_1 : Int × (List CoalDip)) : Option Coal_book :=
  bif decide (z_1.1 < (a0.Dips.length : Int)) then ((getI a0.Dips z_1.1).bind fun r33 =>
  (sl_Contains_int_int a1 z_1.1).bind fun r40 =>
  bif !r40 then (need (fitsL (z_1.2.length + ([r33] : List CoalDip).length) 24) <|
  rec_z_1 (wr (z_1.1 + 1), z_1.2 ++ ([r33] : List CoalDip)))
  else (rec_z_1 (wr (z_1.1 + 1), z_1.2)))
  else (loopF (coal_opened_l28 a0 z_1) big (0, ([] : List (Coal_gust × Int))))

def coal_opened (a0 : CoalBook) (a1 : List Int) : Option Coal_book :=
  loopF (coal_opened_l29 a0 a1) big (0, ([] : List CoalDip))

set_option maxRecDepth 100000 in
theorem coal_opened_ok {a0 : CoalBook} {a1 : List Int} {A1 : Option Addr} {c2 : Nat} {A4 : Option Addr} {c5 : Nat} {A7 : Option Addr} {c8 : Nat} {w : World} {r : Coal_book} (H : coal_opened a0 a1 = some r) (h3 : (rd eCoalDay 3 A1 c2 a0.Days).ok w) (h6 : (rd eCoalDip 3 A4 c5 a0.Dips).ok w) (h9 : (rd intE 1 A7 c8 a1).ok w) (hg10 : (bl 1 [I (-1), I (-1)] 123).ok w) : Calls Tryd.prog 71 #[AG ([I a0.Heap.Low, I a0.Heap.High] ++ (sgE eSpan a0.Eats 2 ++ (sg a0.Extra 3 ++ [SL A1 a0.Days.length c2, I a0.Collier.Low, I a0.Collier.High, I a0.Brings, SL A4 a0.Dips.length c5]))), SL A7 a1.length c8] w fun en w_ => ∃ u_, en = .returned u_ ∧ ∃ A_1 : Option Addr, ∃ c_2 : Nat, ∃ m_3 : Nat, u_ = AG ([I r.CoalBook.Heap.Low, I r.CoalBook.Heap.High] ++ (sgE eSpan r.CoalBook.Eats 2 ++ (sg r.CoalBook.Extra 3 ++ [SL A1 a0.Days.length c2, I r.CoalBook.Collier.Low, I r.CoalBook.Collier.High, I r.CoalBook.Brings, SL A_1 r.CoalBook.Dips.length c_2, Value.map (some m_3)]))) ∧ Keep0 w w_ ∧ ((rd eCoalDip 3 A_1 c_2 r.CoalBook.Dips).ok w_ ∧ New w.heap.size (rd eCoalDip 3 A_1 c_2 r.CoalBook.Dips)) ∧ ((mp ekG iE m_3 r.costs_).ok w_ ∧ New w.heap.size (mp ekG iE m_3 r.costs_)) ∧ True := by
  unfold coal_opened at H
  refine fn_of (n := 77) Tryd.func71 rfl rfl (Nat.le_of_ble_eq_true rfl) ?_
  have S : St w (fun _ => False) w [] [rd eCoalDay 3 A1 c2 a0.Days, rd eCoalDip 3 A4 c5 a0.Dips, rd intE 1 A7 c8 a1, bl 1 [I (-1), I (-1)] 123] := St.start w _ _ (List.forall_mem_cons.2 ⟨h3, (List.forall_mem_cons.2 ⟨h6, (List.forall_mem_cons.2 ⟨h9, (List.forall_mem_cons.2 ⟨hg10, (fun _ h_ => (List.not_mem_nil h_).elim)⟩)⟩)⟩)⟩)
  refine c_seq ?_
  refine reg ?_
  refine p_boxA rfl S fun b11 w12 S13 => ?_
  refine p_allA in92 S13 fun b14 w15 S16 => ?_
  refine wp_nil ?_
  refine c_seq ?_
  refine reg ?_
  refine p_ldA ty29 sz29 (S16.atX (i := 1) rfl) rfl rfl ?_
  refine o_mkmap S16 ekG iE fun m17 w18 _ S19 => ?_
  refine p_bld (cs := [I a0.Heap.Low, I a0.Heap.High] ++ (sgE eSpan a0.Eats 2 ++ (sg a0.Extra 3 ++ [SL A1 a0.Days.length c2, I a0.Collier.Low, I a0.Collier.High, I a0.Brings, SL A4 a0.Dips.length c5, Value.map (some m17)]))) st92 (rfl : _ = [(0, AG ([I a0.Heap.Low, I a0.Heap.High] ++ (sgE eSpan a0.Eats 2 ++ (sg a0.Extra 3 ++ [SL A1 a0.Days.length c2, I a0.Collier.Low, I a0.Collier.High, I a0.Brings, SL A4 a0.Dips.length c5])))), (1, Value.map (some m17))]) (by kernel_rfl) ?_
  refine p_allA in92 S19 fun b20 w21 S22 => ?_
  refine p_stP (pre := []) (old := [I 0, I 0, I 0, I 0, I 0, I 0] ++ (sg (List.replicate 3 0) 3 ++ [SL none 0 0, I 0, I 0, I 0, SL none 0 0, Value.map none])) (post := []) (vs := [I a0.Heap.Low, I a0.Heap.High] ++ (sgE eSpan a0.Eats 2 ++ (sg a0.Extra 3 ++ [SL A1 a0.Days.length c2, I a0.Collier.Low, I a0.Collier.High, I a0.Brings, SL A4 a0.Dips.length c5, Value.map (some m17)]))) sz92 S22 (i := 0) rfl rfl rfl rfl (rfl : _ = AG ([I a0.Heap.Low, I a0.Heap.High] ++ (sgE eSpan a0.Eats 2 ++ (sg a0.Extra 3 ++ [SL A1 a0.Days.length c2, I a0.Collier.Low, I a0.Collier.High, I a0.Brings, SL A4 a0.Dips.length c5, Value.map (some m17)])))) rfl rfl rfl rfl fun w23 S24 => ?_
  refine wp_nil ?_
  refine c_seq ?_
  refine reg ?_
  refine p_fld fl92_0 rfl ?_
  refine p_fld fl29_6 rfl ?_
  refine p_stP (pre := [I a0.Heap.Low, I a0.Heap.High] ++ (sgE eSpan a0.Eats 2 ++ (sg a0.Extra 3 ++ [SL A1 a0.Days.length c2, I a0.Collier.Low, I a0.Collier.High, I a0.Brings]))) (old := [SL A4 a0.Dips.length c5]) (post := [Value.map (some m17)]) (vs := [SL none 0 0]) sz27 S24 (i := 0) rfl rfl rfl rfl (rfl : _ = SL none 0 0) rfl rfl rfl rfl fun w25 S26 => ?_
  refine wp_nil ?_
  refine c_seq ?_
  refine c_seq ?_
  refine reg ?_
  refine p_fld fl29_6 rfl ?_
  refine p_ld ty27 (S26.atX (i := 3) rfl) rfl rfl ?_
  refine p_len rfl sc27 ?_
  refine p_mI rfl ?_
  refine wp_nil ?_
  refine c_block ?_
  have S27 := S26.nilRow eCoalDip 3 67
  refine c_lop (α := Int × (List CoalDip)) (β := (Option Addr) × Nat) (coal_opened_l29 a0 a1) (fun z_1 y_1 => [(1, SL A7 a1.length c8), (2, P b11 0), (4, P b14 0), (5, P b20 0), (19, SL A4 a0.Dips.length c5), (20, I (a0.Dips.length : Int)), (21, I z_1.1)]) (fun z_1 y_1 w_ => St w (fun _ => False) w_ [gr eCoalDip 3 67 y_1.1 y_1.2 z_1.2, bl b20 ([I a0.Heap.Low, I a0.Heap.High] ++ (sgE eSpan a0.Eats 2 ++ (sg a0.Extra 3 ++ [SL A1 a0.Days.length c2, I a0.Collier.Low, I a0.Collier.High, I a0.Brings, SL y_1.1 z_1.2.length y_1.2, Value.map (some m17)]))) 92, mp ekG iE m17 ([] : List (Coal_gust × Int)), bl b14 ([I 0, I 0, I 0, I 0, I 0, I 0] ++ (sg (List.replicate 3 0) 3 ++ [SL none 0 0, I 0, I 0, I 0, SL none 0 0, Value.map none])) 92, bl b11 ([I a0.Heap.Low, I a0.Heap.High] ++ (sgE eSpan a0.Eats 2 ++ (sg a0.Extra 3 ++ [SL A1 a0.Days.length c2, I a0.Collier.Low, I a0.Collier.High, I a0.Brings, SL A4 a0.Dips.length c5]))) 29] [rd eCoalDay 3 A1 c2 a0.Days, rd eCoalDip 3 A4 c5 a0.Dips, rd intE 1 A7 c8 a1, bl 1 [I (-1), I (-1)] 123]) (0, ([] : List CoalDip)) (none, 0) H ⟨rfl, rfl, rfl, rfl, rfl, rfl, rfl, trivial⟩ S27 ?_
  intro m28 z_1 y_1 e29 w30 H S31
  unfold coal_opened_l29 at H
  refine c_seq ?_
  refine reg ?_
  refine p_cmp rfl rfl rfl ?_
  refine wp_nil ?_
  refine c_seq ?_
  refine c_cond rfl (fun c32 => ?_) (fun c32 => ?_)
  · replace H := condT c32 H
    refine c_skip ?_
    refine c_seq ?_
    refine c_block ?_
    refine c_seq ?_
    refine reg ?_
    refine p_mI rfl ?_
    obtain ⟨r33, h34, H⟩ := bindS H
    refine p_ixE sc27 h34 (S31.atP (i := 1) rfl).1 rfl rfl rfl ?_
    refine p_ldEA ty67 sz67 rfl h34 (S31.atP (i := 1) rfl).1 rfl ?_
    refine p_allA in67 S31 fun b35 w36 S37 => ?_
    refine p_aI rfl ?_
    refine p_stP (pre := []) (old := [I 0, I 0, I 0]) (post := []) (vs := [I r33.Day, I r33.Read, I r33.Error]) sz67 S37 (i := 0) rfl rfl rfl rfl (rfl : _ = AG [I r33.Day, I r33.Read, I r33.Error]) rfl rfl rfl rfl fun w38 S39 => ?_
    refine wp_nil ?_
    refine c_seq ?_
    refine reg ?_
    refine p_mS rfl ?_
    refine p_mI rfl ?_
    obtain ⟨r40, h41, H⟩ := bindS H
    refine p_cv (sl_Contains_int_int_ok h41 (S39.atP (i := 2) rfl)) fu93 rfl S39 fun w42 S43 => ?_
    refine p_not rfl ?_
    refine wp_nil ?_
    refine c_cond rfl (fun c44 => ?_) (fun c44 => ?_)
    · replace H := condT c44 H
      refine reg ?_
      refine p_fld fl92_0 rfl ?_
      refine p_fld fl29_6 rfl ?_
      refine p_ld ty27 (S43.atX (i := 2) rfl) rfl rfl ?_
      refine p_ldA ty67 sz67 (S43.atX (i := 0) rfl) rfl rfl ?_
      refine p_bsl (enc := eCoalDip) (l := ([r33] : List CoalDip)) (fun x => AG (eCoalDip x)) (fun _ => rfl) sc27 in67 eCoalDip_len rfl (by decide) (by decide) zr67_1 S43 rfl fun A45 c46 w47 S48 => ?_
      obtain ⟨h54, H⟩ := needS H
      refine p_app (enc := eCoalDip) sc27 in67 rfl eCoalDip_len eCoalDip_one (by decide) S48 (k := 2) rfl (gr_sl eCoalDip_len (S48.atX (i := 0) rfl)) h54 (by simp) rfl rfl fun A52 c53 w50 S51 => ?_
      refine p_fld fl92_0 rfl ?_
      refine p_fld fl29_6 rfl ?_
      refine p_stP (pre := [I a0.Heap.Low, I a0.Heap.High] ++ (sgE eSpan a0.Eats 2 ++ (sg a0.Extra 3 ++ [SL A1 a0.Days.length c2, I a0.Collier.Low, I a0.Collier.High, I a0.Brings]))) (old := [SL y_1.1 z_1.2.length y_1.2]) (post := [Value.map (some m17)]) (vs := [SL A52 (z_1.2 ++ ([r33] : List CoalDip)).length c53]) sz27 S51 (i := 3) rfl rfl rfl rfl (rfl : _ = SL A52 (z_1.2 ++ ([r33] : List CoalDip)).length c53) rfl rfl rfl rfl fun w55 S56 => ?_
      refine wp_nil ?_
      refine reg ?_
      refine p_add rfl rfl ?_
      refine p_mI rfl ?_
      refine wp_nil ?_
      have S57 := S56.pk [2, 3, 4, 5, 6] (by decide) [0, 1, 2, 3] rfl rfl
      exact ⟨(wr (z_1.1 + 1), z_1.2 ++ ([r33] : List CoalDip)), (A52, c53), _, rfl, ⟨rfl, rfl, rfl, rfl, rfl, rfl, rfl, trivial⟩, H, S57⟩
    · replace H := condF c44 H
      refine c_skip ?_
      refine reg ?_
      refine p_add rfl rfl ?_
      refine p_mI rfl ?_
      refine wp_nil ?_
      have S58 := S43.pk [1, 2, 3, 4, 5] (by decide) [0, 1, 2, 3] rfl rfl
      exact ⟨(wr (z_1.1 + 1), z_1.2), (y_1.1, y_1.2), _, rfl, ⟨rfl, rfl, rfl, rfl, rfl, rfl, rfl, trivial⟩, H, S58⟩
  · replace H := condF c32 H
    refine c_exit ?_
    refine c_seq ?_
    refine c_seq ?_
    refine reg ?_
    refine p_fld fl29_3 rfl ?_
    refine p_ld ty26 (S31.atX (i := 4) rfl) rfl rfl ?_
    refine p_len rfl sc26 ?_
    refine p_mI rfl ?_
    refine wp_nil ?_
    refine c_block ?_
    refine c_lop (α := Int × (List (Coal_gust × Int))) (β := Unit) (coal_opened_l28 a0 z_1) (fun z_2 y_2 => [(2, P b11 0), (4, P b14 0), (5, P b20 0), (40, SL A1 a0.Days.length c2), (41, I (a0.Days.length : Int)), (42, I z_2.1)]) (fun z_2 y_2 w_ => St w (fun _ => False) w_ [gr eCoalDip 3 67 y_1.1 y_1.2 z_1.2, bl b20 ([I a0.Heap.Low, I a0.Heap.High] ++ (sgE eSpan a0.Eats 2 ++ (sg a0.Extra 3 ++ [SL A1 a0.Days.length c2, I a0.Collier.Low, I a0.Collier.High, I a0.Brings, SL y_1.1 z_1.2.length y_1.2, Value.map (some m17)]))) 92, mp ekG iE m17 z_2.2, bl b14 ([I 0, I 0, I 0, I 0, I 0, I 0] ++ (sg (List.replicate 3 0) 3 ++ [SL none 0 0, I 0, I 0, I 0, SL none 0 0, Value.map none])) 92, bl b11 ([I a0.Heap.Low, I a0.Heap.High] ++ (sgE eSpan a0.Eats 2 ++ (sg a0.Extra 3 ++ [SL A1 a0.Days.length c2, I a0.Collier.Low, I a0.Collier.High, I a0.Brings, SL A4 a0.Dips.length c5]))) 29] [rd eCoalDay 3 A1 c2 a0.Days, rd eCoalDip 3 A4 c5 a0.Dips, rd intE 1 A7 c8 a1, bl 1 [I (-1), I (-1)] 123]) (0, ([] : List (Coal_gust × Int))) () H ⟨rfl, rfl, rfl, rfl, rfl, rfl, trivial⟩ S31 ?_
    intro m59 z_2 y_2 e60 w61 H S62
    unfold coal_opened_l28 at H
    refine c_seq ?_
    refine reg ?_
    refine p_cmp rfl rfl rfl ?_
    refine wp_nil ?_
    refine c_seq ?_
    refine c_cond rfl (fun c63 => ?_) (fun c63 => ?_)
    · replace H := condT c63 H
      refine c_skip ?_
      refine c_seq ?_
      refine c_block ?_
      refine c_seq ?_
      refine reg ?_
      refine p_mI rfl ?_
      obtain ⟨r64, h65, H⟩ := bindS H
      refine p_ixE sc26 h65 (S62.atP (i := 0) rfl).1 rfl rfl rfl ?_
      refine p_ldEA ty64 sz64 rfl h65 (S62.atP (i := 0) rfl).1 rfl ?_
      refine p_allA in64 S62 fun b66 w67 S68 => ?_
      refine p_aI rfl ?_
      refine p_stP (pre := []) (old := [I 0, I 0, I 0]) (post := []) (vs := [I r64.Crosses, I r64.Engines, I r64.Winds]) sz64 S68 (i := 0) rfl rfl rfl rfl (rfl : _ = AG [I r64.Crosses, I r64.Engines, I r64.Winds]) rfl rfl rfl rfl fun w69 S70 => ?_
      refine wp_nil ?_
      refine c_seq ?_
      refine reg ?_
      refine p_fld fl29_2 rfl ?_
      refine p_ldP (vs := sg a0.Extra 3) ty25 sz25 (S70.atX (i := 5) rfl) rfl rfl rfl ?_
      refine p_mI rfl ?_
      refine wp_nil ?_
      refine c_block ?_
      refine c_lop (α := Int × (List (Coal_gust × Int))) (β := Unit) (coal_opened_l27 z_2 r64 a0 (loopF (coal_opened_l28 a0 z_1) m59)) (fun z_3 y_3 => [(2, P b11 0), (4, P b14 0), (5, P b20 0), (8, I z_2.1), (9, P b66 0), (40, SL A1 a0.Days.length c2), (41, I (a0.Days.length : Int)), (42, I z_2.1), (48, AG (sg a0.Extra 3)), (49, I z_3.1)]) (fun z_3 y_3 w_ => St w (fun _ => False) w_ [bl b66 [I r64.Crosses, I r64.Engines, I r64.Winds] 64, gr eCoalDip 3 67 y_1.1 y_1.2 z_1.2, bl b20 ([I a0.Heap.Low, I a0.Heap.High] ++ (sgE eSpan a0.Eats 2 ++ (sg a0.Extra 3 ++ [SL A1 a0.Days.length c2, I a0.Collier.Low, I a0.Collier.High, I a0.Brings, SL y_1.1 z_1.2.length y_1.2, Value.map (some m17)]))) 92, mp ekG iE m17 z_3.2, bl b14 ([I 0, I 0, I 0, I 0, I 0, I 0] ++ (sg (List.replicate 3 0) 3 ++ [SL none 0 0, I 0, I 0, I 0, SL none 0 0, Value.map none])) 92, bl b11 ([I a0.Heap.Low, I a0.Heap.High] ++ (sgE eSpan a0.Eats 2 ++ (sg a0.Extra 3 ++ [SL A1 a0.Days.length c2, I a0.Collier.Low, I a0.Collier.High, I a0.Brings, SL A4 a0.Dips.length c5]))) 29] [rd eCoalDay 3 A1 c2 a0.Days, rd eCoalDip 3 A4 c5 a0.Dips, rd intE 1 A7 c8 a1, bl 1 [I (-1), I (-1)] 123]) (0, z_2.2) () H ⟨rfl, rfl, rfl, rfl, rfl, rfl, rfl, rfl, rfl, rfl, trivial⟩ S70 ?_
      intro m71 z_3 y_3 e72 w73 H S74
      unfold coal_opened_l27 at H
      refine c_seq ?_
      refine reg ?_
      refine p_cmp rfl rfl rfl ?_
      refine wp_nil ?_
      refine c_seq ?_
      refine c_cond rfl (fun c75 => ?_) (fun c75 => ?_)
      · replace H := condT c75 H
        refine c_skip ?_
        refine c_seq ?_
        refine c_block ?_
        refine c_seq ?_
        refine reg ?_
        refine p_mI rfl ?_
        obtain ⟨h76, H⟩ := needS H
        refine p_idxI (l := a0.Extra) ae25 sz3 ty3 h76 rfl rfl ?_
        refine p_aI rfl ?_
        refine p_aI rfl ?_
        refine wp_nil ?_
        refine c_seq ?_
        refine reg ?_
        refine p_mI rfl ?_
        refine p_mI rfl ?_
        refine p_bld (cs := [I z_2.1, I z_3.1]) st123 (rfl : _ = [(0, I z_2.1), (1, I z_3.1)]) (by kernel_rfl) ?_
        refine p_allA in123 S74 fun b77 w78 S79 => ?_
        refine p_stP (pre := []) (old := [I 0, I 0]) (post := []) (vs := [I z_2.1, I z_3.1]) sz123 S79 (i := 0) rfl rfl rfl rfl (rfl : _ = AG [I z_2.1, I z_3.1]) rfl rfl rfl rfl fun w80 S81 => ?_
        refine wp_nil ?_
        refine c_join (α := Bool) (β := Unit) (fun z_4 y_4 => [(2, P b11 0), (4, P b14 0), (5, P b20 0), (8, I z_2.1), (9, P b66 0), (11, I (aget a0.Extra z_3.1)), (12, P b77 0), (40, SL A1 a0.Days.length c2), (41, I (a0.Days.length : Int)), (42, I z_2.1), (48, AG (sg a0.Extra 3)), (49, I z_3.1), (66, B z_4)]) (fun z_4 y_4 w_ => coal_opened_j26 (loopF (coal_opened_l27 z_2 r64 a0 (loopF (coal_opened_l28 a0 z_1) m59)) m71) z_3 z_2 r64 a0 z_4 = some r ∧ St w (fun _ => False) w_ [bl b77 [I z_2.1, I z_3.1] 123, bl b66 [I r64.Crosses, I r64.Engines, I r64.Winds] 64, gr eCoalDip 3 67 y_1.1 y_1.2 z_1.2, bl b20 ([I a0.Heap.Low, I a0.Heap.High] ++ (sgE eSpan a0.Eats 2 ++ (sg a0.Extra 3 ++ [SL A1 a0.Days.length c2, I a0.Collier.Low, I a0.Collier.High, I a0.Brings, SL y_1.1 z_1.2.length y_1.2, Value.map (some m17)]))) 92, mp ekG iE m17 z_3.2, bl b14 ([I 0, I 0, I 0, I 0, I 0, I 0] ++ (sg (List.replicate 3 0) 3 ++ [SL none 0 0, I 0, I 0, I 0, SL none 0 0, Value.map none])) 92, bl b11 ([I a0.Heap.Low, I a0.Heap.High] ++ (sgE eSpan a0.Eats 2 ++ (sg a0.Extra 3 ++ [SL A1 a0.Days.length c2, I a0.Collier.Low, I a0.Collier.High, I a0.Brings, SL A4 a0.Dips.length c5]))) 29] [rd eCoalDay 3 A1 c2 a0.Days, rd eCoalDip 3 A4 c5 a0.Dips, rd intE 1 A7 c8 a1, bl 1 [I (-1), I (-1)] 123]) ?_ ?_
        · refine reg ?_
          refine p_ldA ty123 sz123 (S81.atX (i := 0) rfl) rfl rfl ?_
          refine p_ldA ty123 sz123 (S81.atP (i := 3) rfl) rfl rfl ?_
          refine o_neA (xs := [I z_2.1, I z_3.1]) (ys := [I (-1), I (-1)]) (T := ((z_2.1 == (-1)) && (z_3.1 == (-1)))) rfl rfl eq123 ⟨⟨_, rfl⟩, ⟨⟨_, rfl⟩, trivial⟩⟩ ⟨⟨_, rfl⟩, ⟨⟨_, rfl⟩, trivial⟩⟩ (by simp [Bool.and_eq_true, and_assoc]) ?_
          refine p_mB rfl ?_
          rcases Bool.eq_false_or_eq_true (!((z_2.1 == (-1)) && (z_3.1 == (-1)))) with c82 | c82
          · replace H := condT c82 H
            refine eB c82 ?_
            refine gT rfl rfl (p_fld fl64_2 rfl ?_)
            refine gT rfl rfl (p_ld ty3 (S81.atX (i := 1) rfl) rfl rfl ?_)
            refine gT rfl rfl (p_mI rfl ?_)
            obtain ⟨h83, H⟩ := needS H
            refine gT rfl rfl (p_shr h83 rfl rfl ?_)
            refine gT rfl rfl (p_andI rfl rfl ?_)
            refine gT rfl rfl (p_cmp rfl rfl rfl ?_)
            refine p_pkT rfl (rfl : _ = B ((andI (shrI r64.Winds z_3.1) 1) == 1)) ?_
            refine wp_nil ?_
            exact ⟨((andI (shrI r64.Winds z_3.1) 1) == 1), (), _, rfl, ⟨rfl, rfl, rfl, rfl, rfl, rfl, rfl, rfl, rfl, rfl, rfl, rfl, rfl, trivial⟩, H, S81⟩
          · replace H := condF c82 H
            refine eB c82 ?_
            refine gF rfl rfl ?_
            refine gF rfl rfl ?_
            refine gF rfl rfl ?_
            refine gF rfl rfl ?_
            refine gF rfl rfl ?_
            refine gF rfl rfl ?_
            refine p_pkF rfl (rfl : _ = B false) ?_
            refine wp_nil ?_
            exact ⟨false, (), _, rfl, ⟨rfl, rfl, rfl, rfl, rfl, rfl, rfl, rfl, rfl, rfl, rfl, rfl, rfl, trivial⟩, H, S81⟩
        · intro z_4 y_4 e82 w83 S84; obtain ⟨H, S84⟩ := S84
          unfold coal_opened_j26 at H
          refine c_cond rfl (fun c85 => ?_) (fun c85 => ?_)
          · replace H := condT c85 H
            refine reg ?_
            refine p_fld fl92_1 rfl ?_
            refine p_ld ty90 (S84.atX (i := 3) rfl) rfl rfl ?_
            refine p_ldA ty123 sz123 (S84.atX (i := 0) rfl) rfl rfl ?_
            refine p_fld fl64_0 rfl ?_
            refine p_ld ty3 (S84.atX (i := 1) rfl) rfl rfl ?_
            refine p_mI rfl ?_
            refine p_mul rfl rfl ?_
            refine o_mup (a := (Coal_gust.mk z_2.1 z_3.1)) (v := wr (r64.Crosses * (aget a0.Extra z_3.1))) rfl rfl rfl mt90 keyG S84 (i := 4) rfl fun w86 S87 => ?_
            refine wp_nil ?_
            refine reg ?_
            refine p_add rfl rfl ?_
            refine p_mI rfl ?_
            refine wp_nil ?_
            have S88 := S87.pk [1, 2, 3, 4, 5, 6] (by decide) [0, 1, 2, 3] rfl rfl
            exact ⟨(wr (z_3.1 + 1), putL z_3.2 (Coal_gust.mk z_2.1 z_3.1) (wr (r64.Crosses * (aget a0.Extra z_3.1)))), (), _, rfl, ⟨rfl, rfl, rfl, rfl, rfl, rfl, rfl, rfl, rfl, rfl, trivial⟩, H, S88⟩
          · replace H := condF c85 H
            refine c_skip ?_
            refine reg ?_
            refine p_add rfl rfl ?_
            refine p_mI rfl ?_
            refine wp_nil ?_
            have S89 := S84.pk [1, 2, 3, 4, 5, 6] (by decide) [0, 1, 2, 3] rfl rfl
            exact ⟨(wr (z_3.1 + 1), z_3.2), (), _, rfl, ⟨rfl, rfl, rfl, rfl, rfl, rfl, rfl, rfl, rfl, rfl, trivial⟩, H, S89⟩
      · replace H := condF c75 H
        refine c_exit ?_
        refine reg ?_
        refine p_add rfl rfl ?_
        refine p_mI rfl ?_
        refine wp_nil ?_
        have S84 := S74.pk [1, 2, 3, 4, 5] (by decide) [0, 1, 2, 3] rfl rfl
        exact ⟨(wr (z_2.1 + 1), z_3.2), (), _, rfl, ⟨rfl, rfl, rfl, rfl, rfl, rfl, trivial⟩, H, S84⟩
    · replace H := condF c63 H
      refine c_exit ?_
      refine c_seq ?_
      refine reg ?_
      refine p_ldA ty92 sz92 (S62.atX (i := 1) rfl) rfl rfl ?_
      refine p_stP (pre := []) (old := [I 0, I 0, I 0, I 0, I 0, I 0] ++ (sg (List.replicate 3 0) 3 ++ [SL none 0 0, I 0, I 0, I 0, SL none 0 0, Value.map none])) (post := []) (vs := [I a0.Heap.Low, I a0.Heap.High] ++ (sgE eSpan a0.Eats 2 ++ (sg a0.Extra 3 ++ [SL A1 a0.Days.length c2, I a0.Collier.Low, I a0.Collier.High, I a0.Brings, SL y_1.1 z_1.2.length y_1.2, Value.map (some m17)]))) sz92 S62 (i := 3) rfl rfl rfl rfl (rfl : _ = AG ([I a0.Heap.Low, I a0.Heap.High] ++ (sgE eSpan a0.Eats 2 ++ (sg a0.Extra 3 ++ [SL A1 a0.Days.length c2, I a0.Collier.Low, I a0.Collier.High, I a0.Brings, SL y_1.1 z_1.2.length y_1.2, Value.map (some m17)])))) rfl rfl rfl rfl fun w85 S86 => ?_
      refine wp_nil ?_
      obtain rfl := Option.some.inj H
      refine c_ret ?_; show bodyPostM (Fr none) 0 Tryd.prog Tryd.f71 _ .ret _ _
      refine ret_of (res1 rfl (rvA rfl ty92 sz92 (S86.atX (i := 3) rfl) rfl)) ?_
      exact ⟨_, rfl, y_1.1, y_1.2, m17, rfl, S86.keep, ⟨(gr_rd eCoalDip_len (S86.atX (i := 0) rfl)), (New.rd (S86.newX (i := 0) rfl))⟩, ⟨S86.atX (i := 2) rfl, S86.newX (i := 2) rfl⟩, trivial⟩

end Go.Proofs.YticodohfokgjfaaDoor

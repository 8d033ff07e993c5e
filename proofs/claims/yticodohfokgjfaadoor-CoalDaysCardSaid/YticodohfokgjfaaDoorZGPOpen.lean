/- What the functions of the program compute, and that they do, printed by a program of mine. -/
import Derived.Test.YticodohfokgjfaaDoorZWD
import Derived.KernelRfl
import Derived.Test.YticodohfokgjfaaDoorZGFxNest
import Derived.OpenShut
import Derived.RowKit
import Derived.WideKeyArgs
import Derived.ChangeOld
import Derived.LaidMore
import Derived.LaidLaws
import Derived.Deep.DeepHandedRow
import Derived.ProofKit
import Derived.Test.YticodohfokgjfaaDoorCards
import Derived.Test.YticodohfokgjfaaDoorTie
set_option linter.unusedVariables false
set_option linter.unusedSimpArgs false
namespace Go.Proofs.YticodohfokgjfaaDoor
open Go Go.Fx Go.Proofs
set_option maxRecDepth 100000 in
theorem ref_Lasts_ok {a0 : CoalBook} {a1 : Int} {A1 : Option Addr} {c2 : Nat} {A4 : Option Addr} {c5 : Nat} {w : World} {r : Int × Int} (H : ref_Lasts a0 a1 = some r) (h3 : (rd eCoalDay 3 A1 c2 a0.Days).ok w) (h6 : (rd eCoalDip 3 A4 c5 a0.Dips).ok w) : Calls Tryd.prog 63 #[AG ([I a0.Heap.Low, I a0.Heap.High] ++ (sgE eSpan a0.Eats 2 ++ (sg a0.Extra 3 ++ [SL A1 a0.Days.length c2, I a0.Collier.Low, I a0.Collier.High, I a0.Brings, SL A4 a0.Dips.length c5]))), I a1] w (RetV w (TU [I r.1, I r.2])) := by
  unfold ref_Lasts at H
  refine fn_of (n := 42) Tryd.func63 rfl rfl (Nat.le_of_ble_eq_true rfl) ?_
  have S : St w (fun _ => False) w [] [rd eCoalDay 3 A1 c2 a0.Days, rd eCoalDip 3 A4 c5 a0.Dips] := St.start w _ _ (List.forall_mem_cons.2 ⟨h3, (List.forall_mem_cons.2 ⟨h6, (fun _ h_ => (List.not_mem_nil h_).elim)⟩)⟩)
  refine c_seq ?_
  refine reg ?_
  refine p_boxA rfl S fun b7 w8 S9 => ?_
  refine p_aI rfl ?_
  refine p_aI rfl ?_
  refine wp_nil ?_
  refine c_seq ?_
  obtain ⟨r12, h13, H⟩ := bindS H
  obtain ⟨r18, h19, H⟩ := bindS H
  refine reg_any mixed 10 (by kernel_rfl) [rv (AG ([I a0.Heap.Low, I a0.Heap.High] ++ (sgE eSpan a0.Eats 2 ++ (sg a0.Extra 3 ++ [SL A1 a0.Days.length c2, I a0.Collier.Low, I a0.Collier.High, I a0.Brings, SL A4 a0.Dips.length c5])))), rv (AG ([I a0.Heap.Low, I a0.Heap.High] ++ (sgE eSpan a0.Eats 2 ++ (sg a0.Extra 3 ++ [SL A1 a0.Days.length c2, I a0.Collier.Low, I a0.Collier.High, I a0.Brings, SL A4 a0.Dips.length c5])))), rv (I a1), rv (B r12), rx (α := (Option Addr) × (List (Ref06_truth × (Option Addr) × Nat × (Option Addr) × Nat)) × Nat) (fun ⟨A22, l24, c23⟩ => TU [SL A22 l24.length c23, I r18.2]) (fun ⟨A22, l24, c23⟩ lo hi => BtwL lo hi [] (rd nRef06_truth 5 A22 c23 l24) ∧ BtwL lo hi [rd eCoalDay 3 A1 c2 a0.Days, rd eCoalDip 3 A4 c5 a0.Dips] (ri nRef06_truthI l24 r18.1) ∧ True) (fun ⟨A22, l24, c23⟩ => [rd nRef06_truth 5 A22 c23 l24, ri nRef06_truthI l24 r18.1]), dv 15 some, dv 10 (exG 0), dv 10 (exG 1), dv 16 some, rv (I r18.2)] [[], [], [], [], [], [15], [10], [10], [16], []] rfl (by kernel_rfl) [[], [], [], [1, 2], [0, 1, 2, 3], [0, 1, 2, 3, 4], [0, 1, 2, 3, 4, 5], [0, 1, 2, 3, 4, 5], [0, 1, 2, 3, 4, 5, 6], [0, 1, 2, 3, 4, 5, 6, 7, 8]] (by kernel_rfl) ⟨?_, ?_, ?_, ?_, ?_, ?_, ?_, ?_, ?_, ?_, trivial⟩ ?_
  · intro e_ w_ k_ hf_ hR_
    have S_ : St w_ (fun _ => False) w_ [] [bl b7 ([I a0.Heap.Low, I a0.Heap.High] ++ (sgE eSpan a0.Eats 2 ++ (sg a0.Extra 3 ++ [SL A1 a0.Days.length c2, I a0.Collier.Low, I a0.Collier.High, I a0.Brings, SL A4 a0.Dips.length c5]))) 29, rd eCoalDay 3 A1 c2 a0.Days, rd eCoalDip 3 A4 c5 a0.Dips] := S9.asP k_
    refine hopE [(2, P b7 0)] ⟨((hf_ 2 rfl).trans (rfl : _ = P b7 0)), trivial⟩ ?_
    refine p_ldA ty29 sz29 (S_.atP (i := 0) rfl) rfl rfl ?_
    refine wp_nil ?_
    exact ⟨_, rfl, S_.keep, rfl⟩
  · intro e_ w_ k_ hf_ hR_
    have S_ : St w_ (fun _ => False) w_ [] [bl b7 ([I a0.Heap.Low, I a0.Heap.High] ++ (sgE eSpan a0.Eats 2 ++ (sg a0.Extra 3 ++ [SL A1 a0.Days.length c2, I a0.Collier.Low, I a0.Collier.High, I a0.Brings, SL A4 a0.Dips.length c5]))) 29, rd eCoalDay 3 A1 c2 a0.Days, rd eCoalDip 3 A4 c5 a0.Dips] := S9.asP k_
    refine hopE [(2, P b7 0)] ⟨((hf_ 2 rfl).trans (rfl : _ = P b7 0)), trivial⟩ ?_
    refine p_ldA ty29 sz29 (S_.atP (i := 0) rfl) rfl rfl ?_
    refine wp_nil ?_
    exact ⟨_, rfl, S_.keep, rfl⟩
  · intro e_ w_ k_ hf_ hR_
    have S_ : St w_ (fun _ => False) w_ [] [bl b7 ([I a0.Heap.Low, I a0.Heap.High] ++ (sgE eSpan a0.Eats 2 ++ (sg a0.Extra 3 ++ [SL A1 a0.Days.length c2, I a0.Collier.Low, I a0.Collier.High, I a0.Brings, SL A4 a0.Dips.length c5]))) 29, rd eCoalDay 3 A1 c2 a0.Days, rd eCoalDip 3 A4 c5 a0.Dips] := S9.asP k_
    refine hopE [(1, I a1)] ⟨((hf_ 1 rfl).trans (rfl : _ = I a1)), trivial⟩ ?_
    refine p_mI rfl ?_
    refine wp_nil ?_
    exact ⟨_, rfl, S_.keep, rfl⟩
  · intro e_ w_ k_ hf_ hR_
    have S_ : St w_ (fun _ => False) w_ [] [bl b7 ([I a0.Heap.Low, I a0.Heap.High] ++ (sgE eSpan a0.Eats 2 ++ (sg a0.Extra 3 ++ [SL A1 a0.Days.length c2, I a0.Collier.Low, I a0.Collier.High, I a0.Brings, SL A4 a0.Dips.length c5]))) 29, rd eCoalDay 3 A1 c2 a0.Days, rd eCoalDip 3 A4 c5 a0.Dips] := S9.asP k_
    obtain ⟨_, _, _, _, q10⟩ := hR_ 1 12 rfl (Nat.le_of_ble_eq_true rfl) rfl
    obtain ⟨_, _, _, _, q11⟩ := hR_ 2 13 rfl (Nat.le_of_ble_eq_true rfl) rfl
    refine hopE [(12, AG ([I a0.Heap.Low, I a0.Heap.High] ++ (sgE eSpan a0.Eats 2 ++ (sg a0.Extra 3 ++ [SL A1 a0.Days.length c2, I a0.Collier.Low, I a0.Collier.High, I a0.Brings, SL A4 a0.Dips.length c5])))), (13, I a1)] ⟨q10, q11, trivial⟩ ?_
    refine p_cv (ref_isDay_ok h13 (S_.atP (i := 1) rfl) (S_.atP (i := 2) rfl)) fu89 rfl S_ fun w14 S15 => ?_
    refine wp_nil ?_
    exact ⟨_, rfl, S15.keep, rfl⟩
  · intro e_ w_ k_ hf_ hR_
    have S_ : St w_ (fun _ => False) w_ [] [bl b7 ([I a0.Heap.Low, I a0.Heap.High] ++ (sgE eSpan a0.Eats 2 ++ (sg a0.Extra 3 ++ [SL A1 a0.Days.length c2, I a0.Collier.Low, I a0.Collier.High, I a0.Brings, SL A4 a0.Dips.length c5]))) 29, rd eCoalDay 3 A1 c2 a0.Days, rd eCoalDip 3 A4 c5 a0.Dips] := S9.asP k_
    obtain ⟨_, _, _, _, q16⟩ := hR_ 0 11 rfl (Nat.le_of_ble_eq_true rfl) rfl
    obtain ⟨_, _, _, _, q17⟩ := hR_ 3 14 rfl (Nat.le_of_ble_eq_true rfl) rfl
    refine hopE [(11, AG ([I a0.Heap.Low, I a0.Heap.High] ++ (sgE eSpan a0.Eats 2 ++ (sg a0.Extra 3 ++ [SL A1 a0.Days.length c2, I a0.Collier.Low, I a0.Collier.High, I a0.Brings, SL A4 a0.Dips.length c5])))), (14, B r12)] ⟨q16, q17, trivial⟩ ?_
    refine p_cal (ref_asked_ok h19 (S_.atP (i := 1) rfl) (S_.atP (i := 2) rfl)) fu88 rfl ?_
    rintro _ w20 ⟨A22, c23, l24, rfl, k21, ⟨o25, n26⟩, ⟨o27, n28⟩, _⟩
    have S29 := S_.callN k21 [rd nRef06_truth 5 A22 c23 l24, ri nRef06_truthI l24 r18.1] (List.forall_mem_cons.2 ⟨⟨o25, New.inL n26⟩, (List.forall_mem_cons.2 ⟨⟨o27, Al.inL n28 ((List.forall_mem_cons.2 ⟨(fp_mem (i := 1) rfl), (List.forall_mem_cons.2 ⟨(fp_mem (i := 2) rfl), (fun _ h_ => (List.not_mem_nil h_).elim)⟩)⟩))⟩, (fun _ h_ => (List.not_mem_nil h_).elim)⟩)⟩)
    refine wp_nil ?_
    exact ⟨_, rfl, S29.keep, ⟨(A22, l24, c23), rfl, ⟨BtwL.of (New.al (New.mono n26 S_.keep.size)) rfl (S29.atP (i := 0) rfl) rfl, BtwL.of n28 rfl (S29.atP (i := 1) rfl) rfl, trivial⟩, (List.forall_mem_cons.2 ⟨(S29.atP (i := 0) rfl), (List.forall_mem_cons.2 ⟨(S29.atP (i := 1) rfl), (fun _ h_ => (List.not_mem_nil h_).elim)⟩)⟩)⟩⟩
  · intro e_ w_ k_ hf_ hR_
    have S_ : St w_ (fun _ => False) w_ [] [bl b7 ([I a0.Heap.Low, I a0.Heap.High] ++ (sgE eSpan a0.Eats 2 ++ (sg a0.Extra 3 ++ [SL A1 a0.Days.length c2, I a0.Collier.Low, I a0.Collier.High, I a0.Brings, SL A4 a0.Dips.length c5]))) 29, rd eCoalDay 3 A1 c2 a0.Days, rd eCoalDip 3 A4 c5 a0.Dips] := S9.asP k_
    obtain ⟨_, _, _, _, ⟨A22, l24, c23⟩, q30, p31, a32⟩ := hR_ 4 15 rfl (Nat.le_of_ble_eq_true rfl) rfl
    replace q30 : e_ 15 = TU [SL A22 l24.length c23, I r18.2] := q30
    have S_ := St.addL' S_ (a32 _ (.head _)) (fun _ _ _ h_ => (List.not_mem_nil h_).elim)
    have S_ := St.addL' S_ (a32 _ (.tail _ (.head _))) (fun _ _ _ h_ => (List.not_mem_nil h_).elim)
    refine hopE [(15, TU [SL A22 l24.length c23, I r18.2])] ⟨q30, trivial⟩ ?_
    refine p_mT rfl ?_
    refine wp_nil ?_
    exact ⟨_, rfl, S_.keep, rfl⟩
  · intro e_ w_ k_ hf_ hR_
    have S_ : St w_ (fun _ => False) w_ [] [bl b7 ([I a0.Heap.Low, I a0.Heap.High] ++ (sgE eSpan a0.Eats 2 ++ (sg a0.Extra 3 ++ [SL A1 a0.Days.length c2, I a0.Collier.Low, I a0.Collier.High, I a0.Brings, SL A4 a0.Dips.length c5]))) 29, rd eCoalDay 3 A1 c2 a0.Days, rd eCoalDip 3 A4 c5 a0.Dips] := S9.asP k_
    obtain ⟨_, _, _, _, ⟨A22, l24, c23⟩, q34, p35, a36⟩ := hR_ 4 15 rfl (Nat.le_of_ble_eq_true rfl) rfl
    replace q34 : e_ 15 = TU [SL A22 l24.length c23, I r18.2] := q34
    have S_ := St.addL' S_ (a36 _ (.head _)) (fun _ _ _ h_ => (List.not_mem_nil h_).elim)
    have S_ := St.addL' S_ (a36 _ (.tail _ (.head _))) (fun _ _ _ h_ => (List.not_mem_nil h_).elim)
    obtain ⟨_, _, _, _, q33⟩ := hR_ 5 10 rfl (Nat.le_of_ble_eq_true rfl) rfl
    replace q33 : e_ 10 = TU [SL A22 l24.length c23, I r18.2] := (Option.some.inj ((congrArg some q34).symm.trans q33)).symm
    refine hopE [(10, TU [SL A22 l24.length c23, I r18.2])] ⟨q33, trivial⟩ ?_
    refine p_ext rfl rfl ?_
    refine wp_nil ?_
    exact ⟨_, rfl, S_.keep, rfl⟩
  · intro e_ w_ k_ hf_ hR_
    have S_ : St w_ (fun _ => False) w_ [] [bl b7 ([I a0.Heap.Low, I a0.Heap.High] ++ (sgE eSpan a0.Eats 2 ++ (sg a0.Extra 3 ++ [SL A1 a0.Days.length c2, I a0.Collier.Low, I a0.Collier.High, I a0.Brings, SL A4 a0.Dips.length c5]))) 29, rd eCoalDay 3 A1 c2 a0.Days, rd eCoalDip 3 A4 c5 a0.Dips] := S9.asP k_
    obtain ⟨_, _, _, _, ⟨A22, l24, c23⟩, q38, p39, a40⟩ := hR_ 4 15 rfl (Nat.le_of_ble_eq_true rfl) rfl
    replace q38 : e_ 15 = TU [SL A22 l24.length c23, I r18.2] := q38
    have S_ := St.addL' S_ (a40 _ (.head _)) (fun _ _ _ h_ => (List.not_mem_nil h_).elim)
    have S_ := St.addL' S_ (a40 _ (.tail _ (.head _))) (fun _ _ _ h_ => (List.not_mem_nil h_).elim)
    obtain ⟨_, _, _, _, q37⟩ := hR_ 5 10 rfl (Nat.le_of_ble_eq_true rfl) rfl
    replace q37 : e_ 10 = TU [SL A22 l24.length c23, I r18.2] := (Option.some.inj ((congrArg some q38).symm.trans q37)).symm
    refine hopE [(10, TU [SL A22 l24.length c23, I r18.2])] ⟨q37, trivial⟩ ?_
    refine p_ext rfl rfl ?_
    refine wp_nil ?_
    exact ⟨_, rfl, S_.keep, rfl⟩
  · intro e_ w_ k_ hf_ hR_
    have S_ : St w_ (fun _ => False) w_ [] [bl b7 ([I a0.Heap.Low, I a0.Heap.High] ++ (sgE eSpan a0.Eats 2 ++ (sg a0.Extra 3 ++ [SL A1 a0.Days.length c2, I a0.Collier.Low, I a0.Collier.High, I a0.Brings, SL A4 a0.Dips.length c5]))) 29, rd eCoalDay 3 A1 c2 a0.Days, rd eCoalDip 3 A4 c5 a0.Dips] := S9.asP k_
    obtain ⟨_, _, _, _, ⟨A22, l24, c23⟩, q43, p44, a45⟩ := hR_ 4 15 rfl (Nat.le_of_ble_eq_true rfl) rfl
    replace q43 : e_ 15 = TU [SL A22 l24.length c23, I r18.2] := q43
    have S_ := St.addL' S_ (a45 _ (.head _)) (fun _ _ _ h_ => (List.not_mem_nil h_).elim)
    have S_ := St.addL' S_ (a45 _ (.tail _ (.head _))) (fun _ _ _ h_ => (List.not_mem_nil h_).elim)
    obtain ⟨_, _, _, _, q42⟩ := hR_ 5 10 rfl (Nat.le_of_ble_eq_true rfl) rfl
    replace q42 : e_ 10 = TU [SL A22 l24.length c23, I r18.2] := (Option.some.inj ((congrArg some q43).symm.trans q42)).symm
    obtain ⟨_, _, _, _, q41⟩ := hR_ 6 16 rfl (Nat.le_of_ble_eq_true rfl) rfl
    replace q41 : e_ 16 = SL A22 l24.length c23 := (Option.some.inj ((congrArg (exG 0) q42).symm.trans q41)).symm
    refine hopE [(16, SL A22 l24.length c23)] ⟨q41, trivial⟩ ?_
    refine p_aS rfl ?_
    refine wp_nil ?_
    exact ⟨_, rfl, S_.keep, rfl⟩
  · intro e_ w_ k_ hf_ hR_
    have S_ : St w_ (fun _ => False) w_ [] [bl b7 ([I a0.Heap.Low, I a0.Heap.High] ++ (sgE eSpan a0.Eats 2 ++ (sg a0.Extra 3 ++ [SL A1 a0.Days.length c2, I a0.Collier.Low, I a0.Collier.High, I a0.Brings, SL A4 a0.Dips.length c5]))) 29, rd eCoalDay 3 A1 c2 a0.Days, rd eCoalDip 3 A4 c5 a0.Dips] := S9.asP k_
    obtain ⟨_, _, _, _, ⟨A22, l24, c23⟩, q48, p49, a50⟩ := hR_ 4 15 rfl (Nat.le_of_ble_eq_true rfl) rfl
    replace q48 : e_ 15 = TU [SL A22 l24.length c23, I r18.2] := q48
    have S_ := St.addL' S_ (a50 _ (.head _)) (fun _ _ _ h_ => (List.not_mem_nil h_).elim)
    have S_ := St.addL' S_ (a50 _ (.tail _ (.head _))) (fun _ _ _ h_ => (List.not_mem_nil h_).elim)
    obtain ⟨_, _, _, _, q47⟩ := hR_ 5 10 rfl (Nat.le_of_ble_eq_true rfl) rfl
    replace q47 : e_ 10 = TU [SL A22 l24.length c23, I r18.2] := (Option.some.inj ((congrArg some q48).symm.trans q47)).symm
    obtain ⟨_, _, _, _, q46⟩ := hR_ 7 17 rfl (Nat.le_of_ble_eq_true rfl) rfl
    replace q46 : e_ 17 = I r18.2 := (Option.some.inj ((congrArg (exG 1) q47).symm.trans q46)).symm
    refine hopE [(17, I r18.2)] ⟨q46, trivial⟩ ?_
    refine p_aI rfl ?_
    refine wp_nil ?_
    exact ⟨_, rfl, S_.keep, rfl⟩
  intro e51 w52 lo53 hi54 k55 hf56 hR57 hd58
  have S59 := S9.call k55
  have q60 : e51 11 = AG ([I a0.Heap.Low, I a0.Heap.High] ++ (sgE eSpan a0.Eats 2 ++ (sg a0.Extra 3 ++ [SL A1 a0.Days.length c2, I a0.Collier.Low, I a0.Collier.High, I a0.Brings, SL A4 a0.Dips.length c5]))) := (hR57 0 11 (Nat.le_of_ble_eq_true rfl) rfl).2.2.2
  have q61 : e51 12 = AG ([I a0.Heap.Low, I a0.Heap.High] ++ (sgE eSpan a0.Eats 2 ++ (sg a0.Extra 3 ++ [SL A1 a0.Days.length c2, I a0.Collier.Low, I a0.Collier.High, I a0.Brings, SL A4 a0.Dips.length c5]))) := (hR57 1 12 (Nat.le_of_ble_eq_true rfl) rfl).2.2.2
  have q62 : e51 13 = I a1 := (hR57 2 13 (Nat.le_of_ble_eq_true rfl) rfl).2.2.2
  have q63 : e51 14 = B r12 := (hR57 3 14 (Nat.le_of_ble_eq_true rfl) rfl).2.2.2
  obtain ⟨h65, h66, h67, ⟨A22, l24, c23⟩, q64, h68, h69⟩ := hR57 4 15 (Nat.le_of_ble_eq_true rfl) rfl
  replace q64 : e51 15 = TU [SL A22 l24.length c23, I r18.2] := q64
  obtain ⟨p70, p71, _⟩ := h68
  have S72 := St.addR S59 (h69 _ (.head _)) (fun b_ h_ x_ hx_ hb_ => (p70 b_ h_).elim (fun q_ => by have := x_.inb _ _ (S9.xs x_ hx_) hb_; omega) (fun ⟨q_, hq_, hqb_⟩ => S9.dp x_ hx_ q_ (((fun _ h_ => (List.not_mem_nil h_).elim)) q_ hq_) b_ hb_ hqb_))
  have S73 := St.addR S72 (h69 _ (.tail _ (.head _))) (fun b_ h_ x_ hx_ hb_ => (p71 b_ h_).elim (fun q_ => by have := x_.inb _ _ (S9.xs x_ hx_) hb_; omega) (fun ⟨q_, hq_, hqb_⟩ => S9.dp x_ hx_ q_ ((List.forall_mem_cons.2 ⟨List.mem_of_getElem? (i := 0) rfl, (List.forall_mem_cons.2 ⟨List.mem_of_getElem? (i := 1) rfl, (fun _ h_ => (List.not_mem_nil h_).elim)⟩)⟩) q_ hq_) b_ hb_ hqb_))
  have q74 : e51 10 = TU [SL A22 l24.length c23, I r18.2] := (Option.some.inj ((congrArg some q64).symm.trans (hR57 5 10 (Nat.le_of_ble_eq_true rfl) rfl).2.2.2)).symm
  have q75 : e51 16 = SL A22 l24.length c23 := (Option.some.inj ((congrArg (exG 0) q74).symm.trans (hR57 6 16 (Nat.le_of_ble_eq_true rfl) rfl).2.2.2)).symm
  have q76 : e51 17 = I r18.2 := (Option.some.inj ((congrArg (exG 1) q74).symm.trans (hR57 7 17 (Nat.le_of_ble_eq_true rfl) rfl).2.2.2)).symm
  have q77 : e51 6 = SL A22 l24.length c23 := (Option.some.inj ((congrArg some q75).symm.trans (hR57 8 6 (Nat.le_of_ble_eq_true rfl) rfl).2.2.2)).symm
  have q78 : e51 7 = I r18.2 := (hR57 9 7 (Nat.le_of_ble_eq_true rfl) rfl).2.2.2
  refine tailE [(1, I a1), (6, SL A22 l24.length c23), (7, I r18.2)] ⟨((hf56 1 rfl).trans (rfl : _ = I a1)), q77, q78, trivial⟩ ?_
  intro g79
  refine wp_nil ?_
  refine c_seq ?_
  refine c_seq ?_
  refine reg ?_
  refine p_mI rfl ?_
  refine p_cmp rfl rfl rfl ?_
  refine wp_nil ?_
  refine c_cond rfl (fun c80 => ?_) (fun c80 => ?_)
  · replace H := condT c80 H
    refine c_seq ?_
    refine reg ?_
    refine p_mI rfl ?_
    refine p_aI rfl ?_
    refine p_aI rfl ?_
    refine wp_nil ?_
    obtain rfl := Option.some.inj H
    refine c_ret ?_; show bodyPostM (Fr none) 0 Tryd.prog Tryd.f63 _ .ret _ _
    refine ret_of (res2 rfl (rvT (rfl : _ = I 0)) (rvT (rfl : _ = I r18.2))) ?_
    exact ⟨_, rfl, rfl, S73.keep⟩
  · replace H := condF c80 H
    refine c_skip ?_
    refine c_seq ?_
    refine reg ?_
    refine p_aI rfl ?_
    refine wp_nil ?_
    refine c_seq ?_
    refine c_seq ?_
    refine reg ?_
    refine p_aI rfl ?_
    refine wp_nil ?_
    refine c_block ?_
    have S81 := S73.pk [] (by decide) [0, 1, 2, 3] rfl rfl
    refine c_lop (α := Int × Int) (β := Unit) (ref_Lasts_l2 r18 a1) (fun z_1 y_1 => [(1, I a1), (6, SL A22 l24.length c23), (8, I z_1.1), (9, I z_1.2)]) (fun z_1 y_1 w_ => St w (fun _ => False) w_ [] [ri nRef06_truthI l24 r18.1, rd nRef06_truth 5 A22 c23 l24, rd eCoalDay 3 A1 c2 a0.Days, rd eCoalDip 3 A4 c5 a0.Dips]) (0, 0) () H ⟨rfl, rfl, rfl, rfl, trivial⟩ S81 ?_
    intro m82 z_1 y_1 e83 w84 H S85
    unfold ref_Lasts_l2 at H
    refine c_seq ?_
    refine c_seq ?_
    refine reg ?_
    refine p_mI rfl ?_
    refine p_mS rfl ?_
    refine p_lenN rfl sc112 (ri_len (S85.atP (i := 0) rfl)) ?_
    refine p_cmp rfl rfl rfl ?_
    refine wp_nil ?_
    refine c_cond rfl (fun c86 => ?_) (fun c86 => ?_)
    · replace H := condT c86 H
      refine c_skip ?_
      refine c_seq ?_
      refine c_block ?_
      refine c_seq ?_
      refine reg ?_
      refine p_mS rfl ?_
      refine p_mI rfl ?_
      obtain ⟨r87, h88, H⟩ := bindS H
      obtain ⟨d89, h90⟩ := ri_at (S85.atP (i := 0) rfl) h88
      refine p_ixE sc112 h90 (S85.atP (i := 1) rfl).1 rfl rfl rfl ?_
      refine p_ldEA ty119 sz119 rfl h90 (S85.atP (i := 1) rfl).1 rfl ?_
      have S91 := S85.riIn (j := 0) (k := 0) rfl h90 rfl
      have S92 := S91.riIn (j := 1) (k := 1) rfl h90 rfl
      refine p_mI rfl ?_
      obtain ⟨r93, h94, H⟩ := bindS H
      refine p_cv (ref_lasts_ok h94 (S92.atP (i := 1) rfl) (S92.atP (i := 0) rfl)) fu91 rfl S92 fun w95 S96 => ?_
      refine wp_nil ?_
      refine c_cond rfl (fun c97 => ?_) (fun c97 => ?_)
      · replace H := condT c97 H
        refine reg ?_
        refine p_mI rfl ?_
        refine p_add rfl rfl ?_
        refine p_aI rfl ?_
        refine wp_nil ?_
        refine reg ?_
        refine p_mI rfl ?_
        refine p_add rfl rfl ?_
        refine p_aI rfl ?_
        refine wp_nil ?_
        have S98 := S96.pk [] (by decide) [2, 3, 4, 5] rfl rfl
        exact ⟨(wr (z_1.1 + 1), wr (z_1.2 + 1)), (), _, rfl, ⟨rfl, rfl, rfl, rfl, trivial⟩, H, S98⟩
      · replace H := condF c97 H
        refine c_skip ?_
        refine reg ?_
        refine p_mI rfl ?_
        refine p_add rfl rfl ?_
        refine p_aI rfl ?_
        refine wp_nil ?_
        have S99 := S96.pk [] (by decide) [2, 3, 4, 5] rfl rfl
        exact ⟨(z_1.1, wr (z_1.2 + 1)), (), _, rfl, ⟨rfl, rfl, rfl, rfl, trivial⟩, H, S99⟩
    · replace H := condF c86 H
      refine c_exit ?_
      refine c_seq ?_
      refine c_seq ?_
      refine reg ?_
      refine p_mI rfl ?_
      refine wp_nil ?_
      refine c_block ?_
      refine c_seq ?_
      refine reg ?_
      refine p_cmp rfl rfl rfl ?_
      refine p_aB rfl ?_
      refine wp_nil ?_
      refine c_cond rfl (fun c100 => ?_) (fun c100 => ?_)
      · replace H := condT c100 H
        refine c_seq ?_
        refine reg ?_
        refine p_aI rfl ?_
        refine p_aI rfl ?_
        refine wp_nil ?_
        obtain rfl := Option.some.inj H
        refine c_ret ?_; show bodyPostM (Fr none) 0 Tryd.prog Tryd.f63 _ .ret _ _
        refine ret_of (res2 rfl (rvT (rfl : _ = I 0)) (rvT (rfl : _ = I 0))) ?_
        exact ⟨_, rfl, rfl, S85.keep⟩
      · replace H := condF c100 H
        refine c_seq ?_
        refine reg ?_
        refine p_mS rfl ?_
        refine p_lenN rfl sc112 (ri_len (S85.atP (i := 0) rfl)) ?_
        refine p_cmp rfl rfl rfl ?_
        refine p_aB rfl ?_
        refine wp_nil ?_
        refine c_cond rfl (fun c101 => ?_) (fun c101 => ?_)
        · replace H := condT c101 H
          refine c_seq ?_
          refine reg ?_
          refine p_aI rfl ?_
          refine p_aI rfl ?_
          refine wp_nil ?_
          obtain rfl := Option.some.inj H
          refine c_ret ?_; show bodyPostM (Fr none) 0 Tryd.prog Tryd.f63 _ .ret _ _
          refine ret_of (res2 rfl (rvT (rfl : _ = I 2)) (rvT (rfl : _ = I 0))) ?_
          exact ⟨_, rfl, rfl, S85.keep⟩
        · replace H := condF c101 H
          refine c_skip ?_
          refine c_seq ?_
          refine reg ?_
          refine p_aI rfl ?_
          refine p_aI rfl ?_
          refine wp_nil ?_
          obtain rfl := Option.some.inj H
          refine c_ret ?_; show bodyPostM (Fr none) 0 Tryd.prog Tryd.f63 _ .ret _ _
          refine ret_of (res2 rfl (rvT (rfl : _ = I 1)) (rvT (rfl : _ = I 0))) ?_
          exact ⟨_, rfl, rfl, S85.keep⟩

def ref_Day_l3 (r10 : (List Ref06_truth) × Int) (z_1 : Int) (rec_z_1 : Int → Option (Int × Int)) (rec_z_2 : Int → Option (Int × Int)) (z_2 : Int) : Option (Int × Int) :=
  bif decide (z_2 < (r10.1.length : Int)) then ((getI r10.1 z_2).bind fun r33 =>
  (getI r33.coal_ z_1).bind fun r38 =>
  bif decide (r38 < 0) then (some (z_1, 0))
  else (rec_z_2 (wr (z_2 + 1))))
  else (rec_z_1 (wr (z_1 + 1)))

def ref_Day_l4 (a0 : CoalBook) (r10 : (List Ref06_truth) × Int) (rec_z_1 : Int → Option (Int × Int)) (z_1 : Int) : Option (Int × Int) :=
  bif decide (z_1 < (a0.Days.length : Int)) then (loopF (ref_Day_l3 r10 z_1 rec_z_1) big 0)
  else (some (0, 4))

def ref_Day (a0 : CoalBook) : Option (Int × Int) :=
  (ref_asked a0 true).bind fun r10 =>
  bif (r10.2 != 0) then (some (0, r10.2))
  else (loopF (ref_Day_l4 a0 r10) big 0)

set_option maxRecDepth 100000 in
theorem ref_Day_ok {a0 : CoalBook} {A1 : Option Addr} {c2 : Nat} {A4 : Option Addr} {c5 : Nat} {w : World} {r : Int × Int} (H : ref_Day a0 = some r) (h3 : (rd eCoalDay 3 A1 c2 a0.Days).ok w) (h6 : (rd eCoalDip 3 A4 c5 a0.Dips).ok w) : Calls Tryd.prog 64 #[AG ([I a0.Heap.Low, I a0.Heap.High] ++ (sgE eSpan a0.Eats 2 ++ (sg a0.Extra 3 ++ [SL A1 a0.Days.length c2, I a0.Collier.Low, I a0.Collier.High, I a0.Brings, SL A4 a0.Dips.length c5])))] w (RetV w (TU [I r.1, I r.2])) := by
  unfold ref_Day at H
  refine fn_of (n := 39) Tryd.func64 rfl rfl (Nat.le_of_ble_eq_true rfl) ?_
  have S : St w (fun _ => False) w [] [rd eCoalDay 3 A1 c2 a0.Days, rd eCoalDip 3 A4 c5 a0.Dips] := St.start w _ _ (List.forall_mem_cons.2 ⟨h3, (List.forall_mem_cons.2 ⟨h6, (fun _ h_ => (List.not_mem_nil h_).elim)⟩)⟩)
  refine c_seq ?_
  refine reg ?_
  refine p_boxA rfl S fun b7 w8 S9 => ?_
  refine p_aI rfl ?_
  refine p_aI rfl ?_
  refine wp_nil ?_
  refine c_seq ?_
  refine reg ?_
  refine p_ldA ty29 sz29 (S9.atX (i := 0) rfl) rfl rfl ?_
  obtain ⟨r10, h11, H⟩ := bindS H
  refine p_cal (ref_asked_ok h11 (S9.atP (i := 0) rfl) (S9.atP (i := 1) rfl)) fu88 rfl ?_
  rintro _ w12 ⟨A14, c15, l16, rfl, k13, ⟨o17, n18⟩, ⟨o19, n20⟩, _⟩
  have S21 := S9.callN k13 [rd nRef06_truth 5 A14 c15 l16, ri nRef06_truthI l16 r10.1] (List.forall_mem_cons.2 ⟨⟨o17, New.inL n18⟩, (List.forall_mem_cons.2 ⟨⟨o19, Al.inL n20 ((List.forall_mem_cons.2 ⟨(fp_mem (i := 0) rfl), (List.forall_mem_cons.2 ⟨(fp_mem (i := 1) rfl), (fun _ h_ => (List.not_mem_nil h_).elim)⟩)⟩))⟩, (fun _ h_ => (List.not_mem_nil h_).elim)⟩)⟩)
  refine p_mT rfl ?_
  refine p_ext rfl rfl ?_
  refine p_ext rfl rfl ?_
  refine p_aS rfl ?_
  refine p_aI rfl ?_
  refine wp_nil ?_
  refine c_seq ?_
  refine c_seq ?_
  refine reg ?_
  refine p_mI rfl ?_
  refine p_cmp rfl rfl rfl ?_
  refine wp_nil ?_
  refine c_cond rfl (fun c22 => ?_) (fun c22 => ?_)
  · replace H := condT c22 H
    refine c_seq ?_
    refine reg ?_
    refine p_mI rfl ?_
    refine p_aI rfl ?_
    refine p_aI rfl ?_
    refine wp_nil ?_
    obtain rfl := Option.some.inj H
    refine c_ret ?_; show bodyPostM (Fr none) 0 Tryd.prog Tryd.f64 _ .ret _ _
    refine ret_of (res2 rfl (rvT (rfl : _ = I 0)) (rvT (rfl : _ = I r10.2))) ?_
    exact ⟨_, rfl, rfl, S21.keep⟩
  · replace H := condF c22 H
    refine c_skip ?_
    refine c_seq ?_
    refine c_seq ?_
    refine reg ?_
    refine p_aI rfl ?_
    refine wp_nil ?_
    refine c_block ?_
    refine c_lop (α := Int) (β := Unit) (ref_Day_l4 a0 r10) (fun z_1 y_1 => [(1, P b7 0), (4, SL A14 l16.length c15), (6, I z_1)]) (fun z_1 y_1 w_ => St w (fun _ => False) w_ [bl b7 ([I a0.Heap.Low, I a0.Heap.High] ++ (sgE eSpan a0.Eats 2 ++ (sg a0.Extra 3 ++ [SL A1 a0.Days.length c2, I a0.Collier.Low, I a0.Collier.High, I a0.Brings, SL A4 a0.Dips.length c5]))) 29] [rd nRef06_truth 5 A14 c15 l16, ri nRef06_truthI l16 r10.1, rd eCoalDay 3 A1 c2 a0.Days, rd eCoalDip 3 A4 c5 a0.Dips]) 0 () H ⟨rfl, rfl, rfl, trivial⟩ S21 ?_
    intro m23 z_1 y_1 e24 w25 H S26
    unfold ref_Day_l4 at H
    refine c_seq ?_
    refine c_seq ?_
    refine reg ?_
    refine p_mI rfl ?_
    refine p_fld fl29_3 rfl ?_
    refine p_ld ty26 (S26.atX (i := 0) rfl) rfl rfl ?_
    refine p_len rfl sc26 ?_
    refine p_cmp rfl rfl rfl ?_
    refine wp_nil ?_
    refine c_cond rfl (fun c27 => ?_) (fun c27 => ?_)
    · replace H := condT c27 H
      refine c_skip ?_
      refine c_seq ?_
      refine c_block ?_
      refine c_seq ?_
      refine reg ?_
      refine p_aI rfl ?_
      refine wp_nil ?_
      refine c_block ?_
      refine c_lop (α := Int) (β := Unit) (ref_Day_l3 r10 z_1 (loopF (ref_Day_l4 a0 r10) m23)) (fun z_2 y_2 => [(1, P b7 0), (4, SL A14 l16.length c15), (6, I z_1), (7, I z_2)]) (fun z_2 y_2 w_ => St w (fun _ => False) w_ [bl b7 ([I a0.Heap.Low, I a0.Heap.High] ++ (sgE eSpan a0.Eats 2 ++ (sg a0.Extra 3 ++ [SL A1 a0.Days.length c2, I a0.Collier.Low, I a0.Collier.High, I a0.Brings, SL A4 a0.Dips.length c5]))) 29] [rd nRef06_truth 5 A14 c15 l16, ri nRef06_truthI l16 r10.1, rd eCoalDay 3 A1 c2 a0.Days, rd eCoalDip 3 A4 c5 a0.Dips]) 0 () H ⟨rfl, rfl, rfl, rfl, trivial⟩ S26 ?_
      intro m28 z_2 y_2 e29 w30 H S31
      unfold ref_Day_l3 at H
      refine c_seq ?_
      refine c_seq ?_
      refine reg ?_
      refine p_mI rfl ?_
      refine p_mS rfl ?_
      refine p_lenN rfl sc112 (ri_len (S31.atP (i := 1) rfl)) ?_
      refine p_cmp rfl rfl rfl ?_
      refine wp_nil ?_
      refine c_cond rfl (fun c32 => ?_) (fun c32 => ?_)
      · replace H := condT c32 H
        refine c_skip ?_
        refine c_seq ?_
        refine c_block ?_
        refine c_seq ?_
        refine reg ?_
        refine p_mS rfl ?_
        refine p_mI rfl ?_
        obtain ⟨r33, h34, H⟩ := bindS H
        obtain ⟨d35, h36⟩ := ri_at (S31.atP (i := 1) rfl) h34
        refine p_ixE sc112 h36 (S31.atP (i := 0) rfl).1 rfl rfl rfl ?_
        refine p_fldE fl119_3 (sl_here (S31.atP (i := 0) rfl).1 h36) rfl ?_
        refine p_ldE ty39 h36 (S31.atP (i := 0) rfl).1 rfl rfl ?_
        have S37 := S31.riIn (j := 1) (k := 1) rfl h36 rfl
        refine p_mI rfl ?_
        obtain ⟨r38, h39, H⟩ := bindS H
        refine p_ixE sc39 h39 (S37.atP (i := 0) rfl).1 rfl rfl rfl ?_
        refine p_ldE ty3 h39 (S37.atP (i := 0) rfl).1 rfl rfl ?_
        refine p_cmp rfl rfl rfl ?_
        refine wp_nil ?_
        refine c_cond rfl (fun c40 => ?_) (fun c40 => ?_)
        · replace H := condT c40 H
          refine c_seq ?_
          refine reg ?_
          refine p_mI rfl ?_
          refine p_aI rfl ?_
          refine p_aI rfl ?_
          refine wp_nil ?_
          obtain rfl := Option.some.inj H
          refine c_ret ?_; show bodyPostM (Fr none) 0 Tryd.prog Tryd.f64 _ .ret _ _
          refine ret_of (res2 rfl (rvT (rfl : _ = I z_1)) (rvT (rfl : _ = I 0))) ?_
          exact ⟨_, rfl, rfl, S37.keep⟩
        · replace H := condF c40 H
          refine c_skip ?_
          refine reg ?_
          refine p_mI rfl ?_
          refine p_add rfl rfl ?_
          refine p_aI rfl ?_
          refine wp_nil ?_
          have S41 := S37.pk [0] (by decide) [1, 2, 3, 4] rfl rfl
          exact ⟨wr (z_2 + 1), (), _, rfl, ⟨rfl, rfl, rfl, rfl, trivial⟩, H, S41⟩
      · replace H := condF c32 H
        refine c_exit ?_
        refine reg ?_
        refine p_mI rfl ?_
        refine p_add rfl rfl ?_
        refine p_aI rfl ?_
        refine wp_nil ?_
        exact ⟨wr (z_1 + 1), (), _, rfl, ⟨rfl, rfl, rfl, trivial⟩, H, S31⟩
    · replace H := condF c27 H
      refine c_exit ?_
      refine c_seq ?_
      refine reg ?_
      refine p_aI rfl ?_
      refine p_aI rfl ?_
      refine wp_nil ?_
      obtain rfl := Option.some.inj H
      refine c_ret ?_; show bodyPostM (Fr none) 0 Tryd.prog Tryd.f64 _ .ret _ _
      refine ret_of (res2 rfl (rvT (rfl : _ = I 0)) (rvT (rfl : _ = I 4))) ?_
      exact ⟨_, rfl, rfl, S26.keep⟩

def ref_Order_l3 (a0 : CoalBook) (r10 : (List Ref06_truth) × Int) (z_1 : Int × Int) (rec_z_1 : (Int × Int) → Option (Int × Int)) (rec_z_2 : (Int × Int) → Option (Int × Int)) (z_2 : Int × Int) : Option (Int × Int) :=
  bif decide (z_2.2 < (a0.Days.length : Int)) then ((getI r10.1 z_1.2).bind fun r33 =>
  (getI r33.coal_ z_2.2).bind fun r38 =>
  rec_z_2 ((if (wr (-r38)) > z_2.1 then (wr (-r38)) else z_2.1), wr (z_2.2 + 1)))
  else (rec_z_1 (z_2.1, wr (z_1.2 + 1)))

def ref_Order_l4 (r10 : (List Ref06_truth) × Int) (a0 : CoalBook) (rec_z_1 : (Int × Int) → Option (Int × Int)) (z_1 : Int × Int) : Option (Int × Int) :=
  bif decide (z_1.2 < (r10.1.length : Int)) then (loopF (ref_Order_l3 a0 r10 z_1 rec_z_1) big (z_1.1, 0))
  else (some (z_1.1, 0))

def ref_Order (a0 : CoalBook) : Option (Int × Int) :=
  (ref_asked a0 true).bind fun r10 =>
  bif (r10.2 != 0) then (some (0, r10.2))
  else (loopF (ref_Order_l4 r10 a0) big (0, 0))

set_option maxRecDepth 100000 in
theorem ref_Order_ok {a0 : CoalBook} {A1 : Option Addr} {c2 : Nat} {A4 : Option Addr} {c5 : Nat} {w : World} {r : Int × Int} (H : ref_Order a0 = some r) (h3 : (rd eCoalDay 3 A1 c2 a0.Days).ok w) (h6 : (rd eCoalDip 3 A4 c5 a0.Dips).ok w) : Calls Tryd.prog 65 #[AG ([I a0.Heap.Low, I a0.Heap.High] ++ (sgE eSpan a0.Eats 2 ++ (sg a0.Extra 3 ++ [SL A1 a0.Days.length c2, I a0.Collier.Low, I a0.Collier.High, I a0.Brings, SL A4 a0.Dips.length c5])))] w (RetV w (TU [I r.1, I r.2])) := by
  unfold ref_Order at H
  refine fn_of (n := 42) Tryd.func65 rfl rfl (Nat.le_of_ble_eq_true rfl) ?_
  have S : St w (fun _ => False) w [] [rd eCoalDay 3 A1 c2 a0.Days, rd eCoalDip 3 A4 c5 a0.Dips] := St.start w _ _ (List.forall_mem_cons.2 ⟨h3, (List.forall_mem_cons.2 ⟨h6, (fun _ h_ => (List.not_mem_nil h_).elim)⟩)⟩)
  refine c_seq ?_
  refine reg ?_
  refine p_boxA rfl S fun b7 w8 S9 => ?_
  refine p_aI rfl ?_
  refine p_aI rfl ?_
  refine wp_nil ?_
  refine c_seq ?_
  refine reg ?_
  refine p_ldA ty29 sz29 (S9.atX (i := 0) rfl) rfl rfl ?_
  obtain ⟨r10, h11, H⟩ := bindS H
  refine p_cal (ref_asked_ok h11 (S9.atP (i := 0) rfl) (S9.atP (i := 1) rfl)) fu88 rfl ?_
  rintro _ w12 ⟨A14, c15, l16, rfl, k13, ⟨o17, n18⟩, ⟨o19, n20⟩, _⟩
  have S21 := S9.callN k13 [rd nRef06_truth 5 A14 c15 l16, ri nRef06_truthI l16 r10.1] (List.forall_mem_cons.2 ⟨⟨o17, New.inL n18⟩, (List.forall_mem_cons.2 ⟨⟨o19, Al.inL n20 ((List.forall_mem_cons.2 ⟨(fp_mem (i := 0) rfl), (List.forall_mem_cons.2 ⟨(fp_mem (i := 1) rfl), (fun _ h_ => (List.not_mem_nil h_).elim)⟩)⟩))⟩, (fun _ h_ => (List.not_mem_nil h_).elim)⟩)⟩)
  refine p_mT rfl ?_
  refine p_ext rfl rfl ?_
  refine p_ext rfl rfl ?_
  refine p_aS rfl ?_
  refine p_aI rfl ?_
  refine wp_nil ?_
  refine c_seq ?_
  refine c_seq ?_
  refine reg ?_
  refine p_mI rfl ?_
  refine p_cmp rfl rfl rfl ?_
  refine wp_nil ?_
  refine c_cond rfl (fun c22 => ?_) (fun c22 => ?_)
  · replace H := condT c22 H
    refine c_seq ?_
    refine reg ?_
    refine p_mI rfl ?_
    refine p_aI rfl ?_
    refine p_aI rfl ?_
    refine wp_nil ?_
    obtain rfl := Option.some.inj H
    refine c_ret ?_; show bodyPostM (Fr none) 0 Tryd.prog Tryd.f65 _ .ret _ _
    refine ret_of (res2 rfl (rvT (rfl : _ = I 0)) (rvT (rfl : _ = I r10.2))) ?_
    exact ⟨_, rfl, rfl, S21.keep⟩
  · replace H := condF c22 H
    refine c_skip ?_
    refine c_seq ?_
    refine reg ?_
    refine p_aI rfl ?_
    refine wp_nil ?_
    refine c_seq ?_
    refine c_seq ?_
    refine reg ?_
    refine p_aI rfl ?_
    refine wp_nil ?_
    refine c_block ?_
    refine c_lop (α := Int × Int) (β := Unit) (ref_Order_l4 r10 a0) (fun z_1 y_1 => [(1, P b7 0), (4, SL A14 l16.length c15), (6, I z_1.1), (7, I z_1.2)]) (fun z_1 y_1 w_ => St w (fun _ => False) w_ [bl b7 ([I a0.Heap.Low, I a0.Heap.High] ++ (sgE eSpan a0.Eats 2 ++ (sg a0.Extra 3 ++ [SL A1 a0.Days.length c2, I a0.Collier.Low, I a0.Collier.High, I a0.Brings, SL A4 a0.Dips.length c5]))) 29] [rd nRef06_truth 5 A14 c15 l16, ri nRef06_truthI l16 r10.1, rd eCoalDay 3 A1 c2 a0.Days, rd eCoalDip 3 A4 c5 a0.Dips]) (0, 0) () H ⟨rfl, rfl, rfl, rfl, trivial⟩ S21 ?_
    intro m23 z_1 y_1 e24 w25 H S26
    unfold ref_Order_l4 at H
    refine c_seq ?_
    refine c_seq ?_
    refine reg ?_
    refine p_mI rfl ?_
    refine p_mS rfl ?_
    refine p_lenN rfl sc112 (ri_len (S26.atP (i := 1) rfl)) ?_
    refine p_cmp rfl rfl rfl ?_
    refine wp_nil ?_
    refine c_cond rfl (fun c27 => ?_) (fun c27 => ?_)
    · replace H := condT c27 H
      refine c_skip ?_
      refine c_seq ?_
      refine c_block ?_
      refine c_seq ?_
      refine reg ?_
      refine p_aI rfl ?_
      refine wp_nil ?_
      refine c_block ?_
      refine c_lop (α := Int × Int) (β := Unit) (ref_Order_l3 a0 r10 z_1 (loopF (ref_Order_l4 r10 a0) m23)) (fun z_2 y_2 => [(1, P b7 0), (4, SL A14 l16.length c15), (6, I z_2.1), (7, I z_1.2), (8, I z_2.2)]) (fun z_2 y_2 w_ => St w (fun _ => False) w_ [bl b7 ([I a0.Heap.Low, I a0.Heap.High] ++ (sgE eSpan a0.Eats 2 ++ (sg a0.Extra 3 ++ [SL A1 a0.Days.length c2, I a0.Collier.Low, I a0.Collier.High, I a0.Brings, SL A4 a0.Dips.length c5]))) 29] [rd nRef06_truth 5 A14 c15 l16, ri nRef06_truthI l16 r10.1, rd eCoalDay 3 A1 c2 a0.Days, rd eCoalDip 3 A4 c5 a0.Dips]) (z_1.1, 0) () H ⟨rfl, rfl, rfl, rfl, rfl, trivial⟩ S26 ?_
      intro m28 z_2 y_2 e29 w30 H S31
      unfold ref_Order_l3 at H
      refine c_seq ?_
      refine c_seq ?_
      refine reg ?_
      refine p_mI rfl ?_
      refine p_fld fl29_3 rfl ?_
      refine p_ld ty26 (S31.atX (i := 0) rfl) rfl rfl ?_
      refine p_len rfl sc26 ?_
      refine p_cmp rfl rfl rfl ?_
      refine wp_nil ?_
      refine c_cond rfl (fun c32 => ?_) (fun c32 => ?_)
      · replace H := condT c32 H
        refine c_skip ?_
        refine c_seq ?_
        refine c_block ?_
        refine reg ?_
        refine p_mI rfl ?_
        refine p_mS rfl ?_
        refine p_mI rfl ?_
        obtain ⟨r33, h34, H⟩ := bindS H
        obtain ⟨d35, h36⟩ := ri_at (S31.atP (i := 1) rfl) h34
        refine p_ixE sc112 h36 (S31.atP (i := 0) rfl).1 rfl rfl rfl ?_
        refine p_fldE fl119_3 (sl_here (S31.atP (i := 0) rfl).1 h36) rfl ?_
        refine p_ldE ty39 h36 (S31.atP (i := 0) rfl).1 rfl rfl ?_
        have S37 := S31.riIn (j := 1) (k := 1) rfl h36 rfl
        refine p_mI rfl ?_
        obtain ⟨r38, h39, H⟩ := bindS H
        refine p_ixE sc39 h39 (S37.atP (i := 0) rfl).1 rfl rfl rfl ?_
        refine p_ldE ty3 h39 (S37.atP (i := 0) rfl).1 rfl rfl ?_
        refine p_neg rfl ?_
        refine p_max rfl rfl ?_
        refine p_aI rfl ?_
        refine wp_nil ?_
        refine reg ?_
        refine p_mI rfl ?_
        refine p_add rfl rfl ?_
        refine p_aI rfl ?_
        refine wp_nil ?_
        have S40 := S37.pk [0] (by decide) [1, 2, 3, 4] rfl rfl
        exact ⟨((if (wr (-r38)) > z_2.1 then (wr (-r38)) else z_2.1), wr (z_2.2 + 1)), (), _, rfl, ⟨rfl, rfl, rfl, rfl, rfl, trivial⟩, H, S40⟩
      · replace H := condF c32 H
        refine c_exit ?_
        refine reg ?_
        refine p_mI rfl ?_
        refine p_add rfl rfl ?_
        refine p_aI rfl ?_
        refine wp_nil ?_
        exact ⟨(z_2.1, wr (z_1.2 + 1)), (), _, rfl, ⟨rfl, rfl, rfl, rfl, trivial⟩, H, S31⟩
    · replace H := condF c27 H
      refine c_exit ?_
      refine c_seq ?_
      refine reg ?_
      refine p_mI rfl ?_
      refine p_aI rfl ?_
      refine p_aI rfl ?_
      refine wp_nil ?_
      obtain rfl := Option.some.inj H
      refine c_ret ?_; show bodyPostM (Fr none) 0 Tryd.prog Tryd.f65 _ .ret _ _
      refine ret_of (res2 rfl (rvT (rfl : _ = I z_1.1)) (rvT (rfl : _ = I 0))) ?_
      exact ⟨_, rfl, rfl, S26.keep⟩

def ref_Late_l4 (r10 : (List Ref06_truth) × Int) (z_1 : Int) (a0 : CoalBook) (rec_z_1 : Int → Option (Int × Int)) (rec_z_2 : (Bool × Int) → Option (Int × Int)) (z_2 : Bool × Int) : Option (Int × Int) :=
  bif decide (z_2.2 < (r10.1.length : Int)) then (bif z_2.1 then ((getI r10.1 z_2.2).bind fun r34 =>
  bif decide (r34.collier_ > z_1) then (rec_z_2 (true, wr (z_2.2 + 1)))
  else ((getI r10.1 z_2.2).bind fun r42 =>
  (ref_lasts r42 (wr ((a0.Days.length : Int) - 1))).bind fun r48 =>
  rec_z_2 (r48, wr (z_2.2 + 1))))
  else (rec_z_2 (false, wr (z_2.2 + 1))))
  else (bif z_2.1 then (some (z_1, 0))
  else (rec_z_1 (wr (z_1 - 1))))

def ref_Late_l5 (a0 : CoalBook) (r10 : (List Ref06_truth) × Int) (rec_z_1 : Int → Option (Int × Int)) (z_1 : Int) : Option (Int × Int) :=
  bif decide (z_1 ≥ a0.Collier.Low) then (loopF (ref_Late_l4 r10 z_1 a0 rec_z_1) big (true, 0))
  else (some (0, 4))

def ref_Late (a0 : CoalBook) : Option (Int × Int) :=
  (ref_asked a0 true).bind fun r10 =>
  bif (r10.2 != 0) then (some (0, r10.2))
  else (loopF (ref_Late_l5 a0 r10) big a0.Collier.High)

set_option maxRecDepth 100000 in
theorem ref_Late_ok {a0 : CoalBook} {A1 : Option Addr} {c2 : Nat} {A4 : Option Addr} {c5 : Nat} {w : World} {r : Int × Int} (H : ref_Late a0 = some r) (h3 : (rd eCoalDay 3 A1 c2 a0.Days).ok w) (h6 : (rd eCoalDip 3 A4 c5 a0.Dips).ok w) : Calls Tryd.prog 66 #[AG ([I a0.Heap.Low, I a0.Heap.High] ++ (sgE eSpan a0.Eats 2 ++ (sg a0.Extra 3 ++ [SL A1 a0.Days.length c2, I a0.Collier.Low, I a0.Collier.High, I a0.Brings, SL A4 a0.Dips.length c5])))] w (RetV w (TU [I r.1, I r.2])) := by
  unfold ref_Late at H
  refine fn_of (n := 56) Tryd.func66 rfl rfl (Nat.le_of_ble_eq_true rfl) ?_
  have S : St w (fun _ => False) w [] [rd eCoalDay 3 A1 c2 a0.Days, rd eCoalDip 3 A4 c5 a0.Dips] := St.start w _ _ (List.forall_mem_cons.2 ⟨h3, (List.forall_mem_cons.2 ⟨h6, (fun _ h_ => (List.not_mem_nil h_).elim)⟩)⟩)
  refine c_seq ?_
  refine reg ?_
  refine p_boxA rfl S fun b7 w8 S9 => ?_
  refine p_aI rfl ?_
  refine p_aI rfl ?_
  refine wp_nil ?_
  refine c_seq ?_
  refine reg ?_
  refine p_ldA ty29 sz29 (S9.atX (i := 0) rfl) rfl rfl ?_
  obtain ⟨r10, h11, H⟩ := bindS H
  refine p_cal (ref_asked_ok h11 (S9.atP (i := 0) rfl) (S9.atP (i := 1) rfl)) fu88 rfl ?_
  rintro _ w12 ⟨A14, c15, l16, rfl, k13, ⟨o17, n18⟩, ⟨o19, n20⟩, _⟩
  have S21 := S9.callN k13 [rd nRef06_truth 5 A14 c15 l16, ri nRef06_truthI l16 r10.1] (List.forall_mem_cons.2 ⟨⟨o17, New.inL n18⟩, (List.forall_mem_cons.2 ⟨⟨o19, Al.inL n20 ((List.forall_mem_cons.2 ⟨(fp_mem (i := 0) rfl), (List.forall_mem_cons.2 ⟨(fp_mem (i := 1) rfl), (fun _ h_ => (List.not_mem_nil h_).elim)⟩)⟩))⟩, (fun _ h_ => (List.not_mem_nil h_).elim)⟩)⟩)
  refine p_mT rfl ?_
  refine p_ext rfl rfl ?_
  refine p_ext rfl rfl ?_
  refine p_aS rfl ?_
  refine p_aI rfl ?_
  refine wp_nil ?_
  refine c_seq ?_
  refine c_seq ?_
  refine reg ?_
  refine p_mI rfl ?_
  refine p_cmp rfl rfl rfl ?_
  refine wp_nil ?_
  refine c_cond rfl (fun c22 => ?_) (fun c22 => ?_)
  · replace H := condT c22 H
    refine c_seq ?_
    refine reg ?_
    refine p_mI rfl ?_
    refine p_aI rfl ?_
    refine p_aI rfl ?_
    refine wp_nil ?_
    obtain rfl := Option.some.inj H
    refine c_ret ?_; show bodyPostM (Fr none) 0 Tryd.prog Tryd.f66 _ .ret _ _
    refine ret_of (res2 rfl (rvT (rfl : _ = I 0)) (rvT (rfl : _ = I r10.2))) ?_
    exact ⟨_, rfl, rfl, S21.keep⟩
  · replace H := condF c22 H
    refine c_skip ?_
    refine c_seq ?_
    refine c_seq ?_
    refine reg ?_
    refine p_fld fl29_4 rfl ?_
    refine p_fld fl23_1 rfl ?_
    refine p_ld ty3 (S21.atX (i := 0) rfl) rfl rfl ?_
    refine p_aI rfl ?_
    refine wp_nil ?_
    refine c_block ?_
    refine c_lop (α := Int) (β := Unit) (ref_Late_l5 a0 r10) (fun z_1 y_1 => [(1, P b7 0), (4, SL A14 l16.length c15), (6, I z_1)]) (fun z_1 y_1 w_ => St w (fun _ => False) w_ [bl b7 ([I a0.Heap.Low, I a0.Heap.High] ++ (sgE eSpan a0.Eats 2 ++ (sg a0.Extra 3 ++ [SL A1 a0.Days.length c2, I a0.Collier.Low, I a0.Collier.High, I a0.Brings, SL A4 a0.Dips.length c5]))) 29] [rd nRef06_truth 5 A14 c15 l16, ri nRef06_truthI l16 r10.1, rd eCoalDay 3 A1 c2 a0.Days, rd eCoalDip 3 A4 c5 a0.Dips]) a0.Collier.High () H ⟨rfl, rfl, rfl, trivial⟩ S21 ?_
    intro m23 z_1 y_1 e24 w25 H S26
    unfold ref_Late_l5 at H
    refine c_seq ?_
    refine c_seq ?_
    refine reg ?_
    refine p_mI rfl ?_
    refine p_fld fl29_4 rfl ?_
    refine p_fld fl23_0 rfl ?_
    refine p_ld ty3 (S26.atX (i := 0) rfl) rfl rfl ?_
    refine p_cmp rfl rfl rfl ?_
    refine wp_nil ?_
    refine c_cond rfl (fun c27 => ?_) (fun c27 => ?_)
    · replace H := condT c27 H
      refine c_skip ?_
      refine c_seq ?_
      refine c_block ?_
      refine c_seq ?_
      refine reg ?_
      refine p_aB rfl ?_
      refine wp_nil ?_
      refine c_seq ?_
      refine c_seq ?_
      refine reg ?_
      refine p_aI rfl ?_
      refine wp_nil ?_
      refine c_block ?_
      refine c_lop (α := Bool × Int) (β := Unit) (ref_Late_l4 r10 z_1 a0 (loopF (ref_Late_l5 a0 r10) m23)) (fun z_2 y_2 => [(1, P b7 0), (4, SL A14 l16.length c15), (6, I z_1), (7, B z_2.1), (8, I z_2.2)]) (fun z_2 y_2 w_ => St w (fun _ => False) w_ [bl b7 ([I a0.Heap.Low, I a0.Heap.High] ++ (sgE eSpan a0.Eats 2 ++ (sg a0.Extra 3 ++ [SL A1 a0.Days.length c2, I a0.Collier.Low, I a0.Collier.High, I a0.Brings, SL A4 a0.Dips.length c5]))) 29] [rd nRef06_truth 5 A14 c15 l16, ri nRef06_truthI l16 r10.1, rd eCoalDay 3 A1 c2 a0.Days, rd eCoalDip 3 A4 c5 a0.Dips]) (true, 0) () H ⟨rfl, rfl, rfl, rfl, rfl, trivial⟩ S26 ?_
      intro m28 z_2 y_2 e29 w30 H S31
      unfold ref_Late_l4 at H
      refine c_seq ?_
      refine c_seq ?_
      refine reg ?_
      refine p_mI rfl ?_
      refine p_mS rfl ?_
      refine p_lenN rfl sc112 (ri_len (S31.atP (i := 1) rfl)) ?_
      refine p_cmp rfl rfl rfl ?_
      refine wp_nil ?_
      refine c_cond rfl (fun c32 => ?_) (fun c32 => ?_)
      · replace H := condT c32 H
        refine c_skip ?_
        refine c_seq ?_
        refine c_block ?_
        rcases Bool.eq_false_or_eq_true (z_2.1) with c33 | c33
        · replace H := condT c33 H
          obtain ⟨r34, h35, H⟩ := bindS H
          obtain ⟨d36, h37⟩ := ri_at (S31.atP (i := 1) rfl) h35
          rcases Bool.eq_false_or_eq_true (decide (r34.collier_ > z_1)) with c38 | c38
          · replace H := condT c38 H
            refine reg_q mixed 21 (by kernel_rfl) ?_
            refine dS (fun _ k_ => p_mB rfl dn) ?_
            refine dS (fun _ k_ => p_mB rfl dn) ?_
            refine dB c33 ?_
            refine dS (fun _ k_ => gT rfl rfl (p_mS rfl dn)) ?_
            refine dS (fun _ k_ => gT rfl rfl (p_mI rfl dn)) ?_
            refine dS (fun _ k_ => gT rfl rfl (p_ixE sc112 h37 (Asr.stays (S31.atP (i := 0) rfl) k_).1 rfl rfl rfl dn)) ?_
            refine dS (fun _ k_ => gT rfl rfl (p_fldE fl119_1 (sl_here (Asr.stays (S31.atP (i := 0) rfl) k_).1 h37) rfl dn)) ?_
            refine dS (fun _ k_ => gT rfl rfl (p_ldE ty3 h37 (Asr.stays (S31.atP (i := 0) rfl) k_).1 rfl rfl dn)) ?_
            refine dS (fun _ k_ => gT rfl rfl (p_mI rfl dn)) ?_
            refine dS (fun _ k_ => gT rfl rfl (p_cmp rfl rfl rfl dn)) ?_
            refine dS (fun _ k_ => gT rfl rfl (p_mB rfl dn)) ?_
            refine dB c38 ?_
            refine dS (fun _ k_ => gF rfl rfl dnU) ?_
            refine dS (fun _ k_ => gF rfl rfl dnU) ?_
            refine dS (fun _ k_ => gF rfl rfl dnU) ?_
            refine dS (fun _ k_ => gF rfl rfl dnU) ?_
            refine dS (fun _ k_ => gF rfl rfl dnU) ?_
            refine dS (fun _ k_ => gF rfl rfl dnU) ?_
            refine dS (fun _ k_ => gF rfl rfl dnU) ?_
            refine dS (fun _ k_ => gF rfl rfl dnU) ?_
            refine dS (fun _ k_ => gF rfl rfl dnU) ?_
            refine dS (fun _ k_ => gT rfl rfl (p_pkT rfl (rfl : _ = B true) dn)) ?_
            refine dS (fun _ k_ => p_pkT rfl (rfl : _ = B true) dn) ?_
            intro w39 k40; have S41 := S31.call k40
            refine p_aB rfl ?_
            refine wp_nil ?_
            refine reg ?_
            refine p_mI rfl ?_
            refine p_add rfl rfl ?_
            refine p_aI rfl ?_
            refine wp_nil ?_
            exact ⟨(true, wr (z_2.2 + 1)), (), _, rfl, ⟨rfl, rfl, rfl, rfl, rfl, trivial⟩, H, S41⟩
          · replace H := condF c38 H
            obtain ⟨r42, h43, H⟩ := bindS H
            obtain ⟨d44, h45⟩ := ri_at (S31.atP (i := 1) rfl) h43
            have S46 := S31.riIn (j := 1) (k := 0) rfl h45 rfl
            have S47 := S46.riIn (j := 2) (k := 1) rfl h45 rfl
            obtain ⟨r48, h49, H⟩ := bindS H
            refine reg_q mixed 21 (by kernel_rfl) ?_
            refine dS (fun _ k_ => p_mB rfl dn) ?_
            refine dS (fun _ k_ => p_mB rfl dn) ?_
            refine dB c33 ?_
            refine dS (fun _ k_ => gT rfl rfl (p_mS rfl dn)) ?_
            refine dS (fun _ k_ => gT rfl rfl (p_mI rfl dn)) ?_
            refine dS (fun _ k_ => gT rfl rfl (p_ixE sc112 h37 (Asr.stays (S31.atP (i := 0) rfl) k_).1 rfl rfl rfl dn)) ?_
            refine dS (fun _ k_ => gT rfl rfl (p_fldE fl119_1 (sl_here (Asr.stays (S31.atP (i := 0) rfl) k_).1 h37) rfl dn)) ?_
            refine dS (fun _ k_ => gT rfl rfl (p_ldE ty3 h37 (Asr.stays (S31.atP (i := 0) rfl) k_).1 rfl rfl dn)) ?_
            refine dS (fun _ k_ => gT rfl rfl (p_mI rfl dn)) ?_
            refine dS (fun _ k_ => gT rfl rfl (p_cmp rfl rfl rfl dn)) ?_
            refine dS (fun _ k_ => gT rfl rfl (p_mB rfl dn)) ?_
            refine dB c38 ?_
            refine dS (fun _ k_ => gT rfl rfl (p_mS rfl dn)) ?_
            refine dS (fun _ k_ => gT rfl rfl (p_mI rfl dn)) ?_
            refine dS (fun _ k_ => gT rfl rfl (p_ixE sc112 h45 (Asr.stays (S31.atP (i := 0) rfl) k_).1 rfl rfl rfl dn)) ?_
            refine dS (fun _ k_ => gT rfl rfl (p_ldEA ty119 sz119 rfl h45 (Asr.stays (S31.atP (i := 0) rfl) k_).1 rfl dn)) ?_
            refine dS (fun _ k_ => gT rfl rfl (p_fld fl29_3 rfl dn)) ?_
            refine dS (fun _ k_ => gT rfl rfl (p_ld ty26 (Asr.stays (S47.atX (i := 0) rfl) k_) rfl rfl dn)) ?_
            refine dS (fun _ k_ => gT rfl rfl (p_len rfl sc26 dn)) ?_
            refine dS (fun _ k_ => gT rfl rfl (p_sub rfl rfl dn)) ?_
            refine dS (fun _ k_ => gT rfl rfl (p_cvD (ref_lasts_ok h49 (Asr.stays (S47.atP (i := 1) rfl) k_) (Asr.stays (S47.atP (i := 0) rfl) k_)) fu91 rfl)) ?_
            refine dS (fun _ k_ => gT rfl rfl (p_pkF rfl (rfl : _ = B r48) dn)) ?_
            refine dS (fun _ k_ => p_pkT rfl (rfl : _ = B r48) dn) ?_
            intro w50 k51; have S52 := S47.call k51
            refine p_aB rfl ?_
            refine wp_nil ?_
            refine reg ?_
            refine p_mI rfl ?_
            refine p_add rfl rfl ?_
            refine p_aI rfl ?_
            refine wp_nil ?_
            have S53 := S52.pk [0] (by decide) [2, 3, 4, 5] rfl rfl
            exact ⟨(r48, wr (z_2.2 + 1)), (), _, rfl, ⟨rfl, rfl, rfl, rfl, rfl, trivial⟩, H, S53⟩
        · replace H := condF c33 H
          refine reg_q mixed 21 (by kernel_rfl) ?_
          refine dS (fun _ k_ => p_mB rfl dn) ?_
          refine dS (fun _ k_ => p_mB rfl dn) ?_
          refine dB c33 ?_
          refine dS (fun _ k_ => gF rfl rfl dnU) ?_
          refine dS (fun _ k_ => gF rfl rfl dnU) ?_
          refine dS (fun _ k_ => gF rfl rfl dnU) ?_
          refine dS (fun _ k_ => gF rfl rfl dnU) ?_
          refine dS (fun _ k_ => gF rfl rfl dnU) ?_
          refine dS (fun _ k_ => gF rfl rfl dnU) ?_
          refine dS (fun _ k_ => gF rfl rfl dnU) ?_
          refine dS (fun _ k_ => gF rfl rfl dnU) ?_
          refine dS (fun _ k_ => o_guardU rfl rfl dnU) ?_
          refine dS (fun _ k_ => o_guardU rfl rfl dnU) ?_
          refine dS (fun _ k_ => o_guardU rfl rfl dnU) ?_
          refine dS (fun _ k_ => o_guardU rfl rfl dnU) ?_
          refine dS (fun _ k_ => o_guardU rfl rfl dnU) ?_
          refine dS (fun _ k_ => o_guardU rfl rfl dnU) ?_
          refine dS (fun _ k_ => o_guardU rfl rfl dnU) ?_
          refine dS (fun _ k_ => o_guardU rfl rfl dnU) ?_
          refine dS (fun _ k_ => o_guardU rfl rfl dnU) ?_
          refine dS (fun _ k_ => gF rfl rfl dnU) ?_
          refine dS (fun _ k_ => p_pkF rfl (rfl : _ = B false) dn) ?_
          intro w54 k55; have S56 := S31.call k55
          refine p_aB rfl ?_
          refine wp_nil ?_
          refine reg ?_
          refine p_mI rfl ?_
          refine p_add rfl rfl ?_
          refine p_aI rfl ?_
          refine wp_nil ?_
          exact ⟨(false, wr (z_2.2 + 1)), (), _, rfl, ⟨rfl, rfl, rfl, rfl, rfl, trivial⟩, H, S56⟩
      · replace H := condF c32 H
        refine c_exit ?_
        refine c_seq ?_
        refine reg ?_
        refine p_mB rfl ?_
        refine wp_nil ?_
        refine c_cond rfl (fun c57 => ?_) (fun c57 => ?_)
        · replace H := condT c57 H
          refine c_seq ?_
          refine reg ?_
          refine p_mI rfl ?_
          refine p_aI rfl ?_
          refine p_aI rfl ?_
          refine wp_nil ?_
          obtain rfl := Option.some.inj H
          refine c_ret ?_; show bodyPostM (Fr none) 0 Tryd.prog Tryd.f66 _ .ret _ _
          refine ret_of (res2 rfl (rvT (rfl : _ = I z_1)) (rvT (rfl : _ = I 0))) ?_
          exact ⟨_, rfl, rfl, S31.keep⟩
        · replace H := condF c57 H
          refine c_skip ?_
          refine reg ?_
          refine p_mI rfl ?_
          refine p_sub rfl rfl ?_
          refine p_aI rfl ?_
          refine wp_nil ?_
          exact ⟨wr (z_1 - 1), (), _, rfl, ⟨rfl, rfl, rfl, trivial⟩, H, S31⟩
    · replace H := condF c27 H
      refine c_exit ?_
      refine c_seq ?_
      refine reg ?_
      refine p_aI rfl ?_
      refine p_aI rfl ?_
      refine wp_nil ?_
      obtain rfl := Option.some.inj H
      refine c_ret ?_; show bodyPostM (Fr none) 0 Tryd.prog Tryd.f66 _ .ret _ _
      refine ret_of (res2 rfl (rvT (rfl : _ = I 0)) (rvT (rfl : _ = I 4))) ?_
      exact ⟨_, rfl, rfl, S26.keep⟩

def law_coalDays (a0 : CoalBook) (a1 : CoalBook) (a2 : Int) : Option Bool :=
  (coal_Lasts a0 a2).bind fun r21 =>
  (ref_Lasts a1 a2).bind fun r25 =>
  bif (r21.1 != r25.1) then (some false)
  else (bif (r21.2 != r25.2) then (some false)
  else ((coal_Day a0).bind fun r31 =>
  (ref_Day a1).bind fun r35 =>
  bif (r31.1 != r35.1) then (some false)
  else (bif (r31.2 != r35.2) then (some false)
  else ((coal_Order a0).bind fun r41 =>
  (ref_Order a1).bind fun r45 =>
  bif (r41.1 != r45.1) then (some false)
  else (bif (r41.2 != r45.2) then (some false)
  else ((coal_Late a0).bind fun r51 =>
  (ref_Late a1).bind fun r55 =>
  bif (r51.1 == r55.1) then (some (r51.2 == r55.2))
  else (some false)))))))

set_option maxRecDepth 100000 in
theorem law_coalDays_ok {a0 : CoalBook} {a1 : CoalBook} {a2 : Int} {A1 : Option Addr} {c2 : Nat} {A4 : Option Addr} {c5 : Nat} {A7 : Option Addr} {c8 : Nat} {A10 : Option Addr} {c11 : Nat} {w : World} {r : Bool} (H : law_coalDays a0 a1 a2 = some r) (h3 : (rd eCoalDay 3 A1 c2 a0.Days).ok w) (h6 : (rd eCoalDip 3 A4 c5 a0.Dips).ok w) (h9 : (rd eCoalDay 3 A7 c8 a1.Days).ok w) (h12 : (rd eCoalDip 3 A10 c11 a1.Dips).ok w) (hg13 : (bl 0 [Value.func (.func 128) #[] #[], Value.func (.func 129) #[] #[]] 110).ok w) (hg14 : (bl 1 [I (-1), I (-1)] 123).ok w) : Calls Tryd.prog 20 #[AG ([I a0.Heap.Low, I a0.Heap.High] ++ (sgE eSpan a0.Eats 2 ++ (sg a0.Extra 3 ++ [SL A1 a0.Days.length c2, I a0.Collier.Low, I a0.Collier.High, I a0.Brings, SL A4 a0.Dips.length c5]))), AG ([I a1.Heap.Low, I a1.Heap.High] ++ (sgE eSpan a1.Eats 2 ++ (sg a1.Extra 3 ++ [SL A7 a1.Days.length c8, I a1.Collier.Low, I a1.Collier.High, I a1.Brings, SL A10 a1.Dips.length c11]))), I a2] w (RetV w (B r)) := by
  unfold law_coalDays at H
  refine fn_of (n := 85) Tryd.func20 rfl rfl (Nat.le_of_ble_eq_true rfl) ?_
  have S : St w (fun _ => False) w [] [rd eCoalDay 3 A1 c2 a0.Days, rd eCoalDip 3 A4 c5 a0.Dips, rd eCoalDay 3 A7 c8 a1.Days, rd eCoalDip 3 A10 c11 a1.Dips, bl 0 [Value.func (.func 128) #[] #[], Value.func (.func 129) #[] #[]] 110, bl 1 [I (-1), I (-1)] 123] := St.start w _ _ (List.forall_mem_cons.2 ⟨h3, (List.forall_mem_cons.2 ⟨h6, (List.forall_mem_cons.2 ⟨h9, (List.forall_mem_cons.2 ⟨h12, (List.forall_mem_cons.2 ⟨hg13, (List.forall_mem_cons.2 ⟨hg14, (fun _ h_ => (List.not_mem_nil h_).elim)⟩)⟩)⟩)⟩)⟩)⟩)
  refine c_seq ?_
  refine reg ?_
  refine p_boxA rfl S fun b15 w16 S17 => ?_
  refine p_boxA rfl S17 fun b18 w19 S20 => ?_
  refine p_aB rfl ?_
  refine wp_nil ?_
  refine c_seq ?_
  refine reg ?_
  refine p_ldA ty29 sz29 (S20.atX (i := 1) rfl) rfl rfl ?_
  refine p_mI rfl ?_
  obtain ⟨r21, h22, H⟩ := bindS H
  refine p_cv (coal_Lasts_ok h22 (S20.atP (i := 0) rfl) (S20.atP (i := 1) rfl) (S20.atP (i := 4) rfl) (S20.atP (i := 5) rfl)) fu30 rfl S20 fun w23 S24 => ?_
  refine p_mT rfl ?_
  refine p_ext rfl rfl ?_
  refine p_ext rfl rfl ?_
  refine p_aI rfl ?_
  refine p_aI rfl ?_
  refine wp_nil ?_
  refine c_seq ?_
  refine reg ?_
  refine p_ldA ty29 sz29 (S24.atX (i := 0) rfl) rfl rfl ?_
  refine p_mI rfl ?_
  obtain ⟨r25, h26, H⟩ := bindS H
  refine p_cv (ref_Lasts_ok h26 (S24.atP (i := 2) rfl) (S24.atP (i := 3) rfl)) fu63 rfl S24 fun w27 S28 => ?_
  refine p_mT rfl ?_
  refine p_ext rfl rfl ?_
  refine p_ext rfl rfl ?_
  refine p_aI rfl ?_
  refine p_aI rfl ?_
  refine wp_nil ?_
  refine c_seq ?_
  refine c_seq ?_
  refine reg ?_
  refine p_mI rfl ?_
  refine p_mI rfl ?_
  refine p_cmp rfl rfl rfl ?_
  refine p_mB rfl ?_
  rcases Bool.eq_false_or_eq_true ((r21.1 != r25.1)) with c29 | c29
  · replace H := condT c29 H
    refine eB c29 ?_
    refine gF rfl rfl ?_
    refine gF rfl rfl ?_
    refine gF rfl rfl ?_
    refine p_pkT rfl (rfl : _ = B true) ?_
    refine wp_nil ?_
    refine c_true rfl ?_
    refine c_seq ?_
    refine reg ?_
    refine p_aB rfl ?_
    refine wp_nil ?_
    obtain rfl := Option.some.inj H
    refine c_ret ?_; show bodyPostM (Fr none) 0 Tryd.prog Tryd.f20 _ .ret _ _
    refine ret_of (res1 rfl (rvT (rfl : _ = B false))) ?_
    exact ⟨_, rfl, rfl, S28.keep⟩
  · replace H := condF c29 H
    refine eB c29 ?_
    refine gT rfl rfl (p_mI rfl ?_)
    refine gT rfl rfl (p_mI rfl ?_)
    refine gT rfl rfl (p_cmp rfl rfl rfl ?_)
    refine p_pkF rfl (rfl : _ = B (r21.2 != r25.2)) ?_
    refine wp_nil ?_
    refine c_cond rfl (fun c30 => ?_) (fun c30 => ?_)
    · replace H := condT c30 H
      refine c_seq ?_
      refine reg ?_
      refine p_aB rfl ?_
      refine wp_nil ?_
      obtain rfl := Option.some.inj H
      refine c_ret ?_; show bodyPostM (Fr none) 0 Tryd.prog Tryd.f20 _ .ret _ _
      refine ret_of (res1 rfl (rvT (rfl : _ = B false))) ?_
      exact ⟨_, rfl, rfl, S28.keep⟩
    · replace H := condF c30 H
      refine c_skip ?_
      refine c_seq ?_
      refine reg ?_
      refine p_ldA ty29 sz29 (S28.atX (i := 1) rfl) rfl rfl ?_
      obtain ⟨r31, h32, H⟩ := bindS H
      refine p_cv (coal_Day_ok h32 (S28.atP (i := 0) rfl) (S28.atP (i := 1) rfl) (S28.atP (i := 5) rfl)) fu37 rfl S28 fun w33 S34 => ?_
      refine p_mT rfl ?_
      refine p_ext rfl rfl ?_
      refine p_ext rfl rfl ?_
      refine p_aI rfl ?_
      refine p_aI rfl ?_
      refine wp_nil ?_
      refine c_seq ?_
      refine reg ?_
      refine p_ldA ty29 sz29 (S34.atX (i := 0) rfl) rfl rfl ?_
      obtain ⟨r35, h36, H⟩ := bindS H
      refine p_cv (ref_Day_ok h36 (S34.atP (i := 2) rfl) (S34.atP (i := 3) rfl)) fu64 rfl S34 fun w37 S38 => ?_
      refine p_mT rfl ?_
      refine p_ext rfl rfl ?_
      refine p_ext rfl rfl ?_
      refine p_aI rfl ?_
      refine p_aI rfl ?_
      refine wp_nil ?_
      refine c_seq ?_
      refine c_seq ?_
      refine reg ?_
      refine p_mI rfl ?_
      refine p_mI rfl ?_
      refine p_cmp rfl rfl rfl ?_
      refine p_mB rfl ?_
      rcases Bool.eq_false_or_eq_true ((r31.1 != r35.1)) with c39 | c39
      · replace H := condT c39 H
        refine eB c39 ?_
        refine gF rfl rfl ?_
        refine gF rfl rfl ?_
        refine gF rfl rfl ?_
        refine p_pkT rfl (rfl : _ = B true) ?_
        refine wp_nil ?_
        refine c_true rfl ?_
        refine c_seq ?_
        refine reg ?_
        refine p_aB rfl ?_
        refine wp_nil ?_
        obtain rfl := Option.some.inj H
        refine c_ret ?_; show bodyPostM (Fr none) 0 Tryd.prog Tryd.f20 _ .ret _ _
        refine ret_of (res1 rfl (rvT (rfl : _ = B false))) ?_
        exact ⟨_, rfl, rfl, S38.keep⟩
      · replace H := condF c39 H
        refine eB c39 ?_
        refine gT rfl rfl (p_mI rfl ?_)
        refine gT rfl rfl (p_mI rfl ?_)
        refine gT rfl rfl (p_cmp rfl rfl rfl ?_)
        refine p_pkF rfl (rfl : _ = B (r31.2 != r35.2)) ?_
        refine wp_nil ?_
        refine c_cond rfl (fun c40 => ?_) (fun c40 => ?_)
        · replace H := condT c40 H
          refine c_seq ?_
          refine reg ?_
          refine p_aB rfl ?_
          refine wp_nil ?_
          obtain rfl := Option.some.inj H
          refine c_ret ?_; show bodyPostM (Fr none) 0 Tryd.prog Tryd.f20 _ .ret _ _
          refine ret_of (res1 rfl (rvT (rfl : _ = B false))) ?_
          exact ⟨_, rfl, rfl, S38.keep⟩
        · replace H := condF c40 H
          refine c_skip ?_
          refine c_seq ?_
          refine reg ?_
          refine p_ldA ty29 sz29 (S38.atX (i := 1) rfl) rfl rfl ?_
          obtain ⟨r41, h42, H⟩ := bindS H
          refine p_cv (coal_Order_ok h42 (S38.atP (i := 0) rfl) (S38.atP (i := 1) rfl) (S38.atP (i := 5) rfl)) fu31 rfl S38 fun w43 S44 => ?_
          refine p_mT rfl ?_
          refine p_ext rfl rfl ?_
          refine p_ext rfl rfl ?_
          refine p_aI rfl ?_
          refine p_aI rfl ?_
          refine wp_nil ?_
          refine c_seq ?_
          refine reg ?_
          refine p_ldA ty29 sz29 (S44.atX (i := 0) rfl) rfl rfl ?_
          obtain ⟨r45, h46, H⟩ := bindS H
          refine p_cv (ref_Order_ok h46 (S44.atP (i := 2) rfl) (S44.atP (i := 3) rfl)) fu65 rfl S44 fun w47 S48 => ?_
          refine p_mT rfl ?_
          refine p_ext rfl rfl ?_
          refine p_ext rfl rfl ?_
          refine p_aI rfl ?_
          refine p_aI rfl ?_
          refine wp_nil ?_
          refine c_seq ?_
          refine c_seq ?_
          refine reg ?_
          refine p_mI rfl ?_
          refine p_mI rfl ?_
          refine p_cmp rfl rfl rfl ?_
          refine p_mB rfl ?_
          rcases Bool.eq_false_or_eq_true ((r41.1 != r45.1)) with c49 | c49
          · replace H := condT c49 H
            refine eB c49 ?_
            refine gF rfl rfl ?_
            refine gF rfl rfl ?_
            refine gF rfl rfl ?_
            refine p_pkT rfl (rfl : _ = B true) ?_
            refine wp_nil ?_
            refine c_true rfl ?_
            refine c_seq ?_
            refine reg ?_
            refine p_aB rfl ?_
            refine wp_nil ?_
            obtain rfl := Option.some.inj H
            refine c_ret ?_; show bodyPostM (Fr none) 0 Tryd.prog Tryd.f20 _ .ret _ _
            refine ret_of (res1 rfl (rvT (rfl : _ = B false))) ?_
            exact ⟨_, rfl, rfl, S48.keep⟩
          · replace H := condF c49 H
            refine eB c49 ?_
            refine gT rfl rfl (p_mI rfl ?_)
            refine gT rfl rfl (p_mI rfl ?_)
            refine gT rfl rfl (p_cmp rfl rfl rfl ?_)
            refine p_pkF rfl (rfl : _ = B (r41.2 != r45.2)) ?_
            refine wp_nil ?_
            refine c_cond rfl (fun c50 => ?_) (fun c50 => ?_)
            · replace H := condT c50 H
              refine c_seq ?_
              refine reg ?_
              refine p_aB rfl ?_
              refine wp_nil ?_
              obtain rfl := Option.some.inj H
              refine c_ret ?_; show bodyPostM (Fr none) 0 Tryd.prog Tryd.f20 _ .ret _ _
              refine ret_of (res1 rfl (rvT (rfl : _ = B false))) ?_
              exact ⟨_, rfl, rfl, S48.keep⟩
            · replace H := condF c50 H
              refine c_skip ?_
              refine c_seq ?_
              refine reg ?_
              refine p_ldA ty29 sz29 (S48.atX (i := 1) rfl) rfl rfl ?_
              obtain ⟨r51, h52, H⟩ := bindS H
              refine p_cv (coal_Late_ok h52 (S48.atP (i := 0) rfl) (S48.atP (i := 1) rfl) (S48.atP (i := 5) rfl)) fu45 rfl S48 fun w53 S54 => ?_
              refine p_mT rfl ?_
              refine p_ext rfl rfl ?_
              refine p_ext rfl rfl ?_
              refine p_aI rfl ?_
              refine p_aI rfl ?_
              refine wp_nil ?_
              refine c_seq ?_
              refine reg ?_
              refine p_ldA ty29 sz29 (S54.atX (i := 0) rfl) rfl rfl ?_
              obtain ⟨r55, h56, H⟩ := bindS H
              refine p_cv (ref_Late_ok h56 (S54.atP (i := 2) rfl) (S54.atP (i := 3) rfl)) fu66 rfl S54 fun w57 S58 => ?_
              refine p_mT rfl ?_
              refine p_ext rfl rfl ?_
              refine p_ext rfl rfl ?_
              refine p_aI rfl ?_
              refine p_aI rfl ?_
              refine wp_nil ?_
              refine c_seq ?_
              refine reg ?_
              refine p_mI rfl ?_
              refine p_mI rfl ?_
              refine p_cmp rfl rfl rfl ?_
              refine p_mB rfl ?_
              rcases Bool.eq_false_or_eq_true ((r51.1 == r55.1)) with c59 | c59
              · replace H := condT c59 H
                refine eB c59 ?_
                refine gT rfl rfl (p_mI rfl ?_)
                refine gT rfl rfl (p_mI rfl ?_)
                refine gT rfl rfl (p_cmp rfl rfl rfl ?_)
                refine p_pkT rfl (rfl : _ = B (r51.2 == r55.2)) ?_
                refine p_aB rfl ?_
                refine wp_nil ?_
                obtain rfl := Option.some.inj H
                refine c_ret ?_; show bodyPostM (Fr none) 0 Tryd.prog Tryd.f20 _ .ret _ _
                refine ret_of (res1 rfl (rvT (rfl : _ = B (r51.2 == r55.2)))) ?_
                exact ⟨_, rfl, rfl, S58.keep⟩
              · replace H := condF c59 H
                refine eB c59 ?_
                refine gF rfl rfl ?_
                refine gF rfl rfl ?_
                refine gF rfl rfl ?_
                refine p_pkF rfl (rfl : _ = B false) ?_
                refine p_aB rfl ?_
                refine wp_nil ?_
                obtain rfl := Option.some.inj H
                refine c_ret ?_; show bodyPostM (Fr none) 0 Tryd.prog Tryd.f20 _ .ret _ _
                refine ret_of (res1 rfl (rvT (rfl : _ = B false))) ?_
                exact ⟨_, rfl, rfl, S58.keep⟩

structure Law06_known where
  eats_ : List Int
  winds_ : List Int
  coal_ : List Int
  deriving DecidableEq, Inhabited

end Go.Proofs.YticodohfokgjfaaDoor

set_option linter.unusedVariables false
set_option linter.unusedSimpArgs false
namespace Go.Proofs.YticodohfokgjfaaDoor
open Go Go.Fx Go.Proofs
end Go.Proofs.YticodohfokgjfaaDoor


set_option linter.unusedSimpArgs false
set_option linter.unusedVariables false
namespace Go.Fx
open Go Go.ChangeShapes Go.WideShapes Go.ChangeAt Go.RowKit
/-! from a law's walk to its row -/
section
variable {H : Type} {enc : TypeId × Value → H} {P : Program}
theorem Keep.kept {w w' : World} (k : Keep0 w w') (may : MemPlace → Prop) : w.keptBut w' may := by
  refine ⟨k.os, k.output, fun i hi => ?_⟩
  have := k.block i hi (fun x => x)
  rw [this]
  cases w.heap[i]? with
  | none => rfl
  | some o => cases o <;> first | exact ⟨rfl, rfl, rfl, fun _ _ => rfl⟩ | exact .inr ⟨rfl, rfl⟩ | rfl
theorem Keep.same {w w' : World} (k : Keep0 w w') {p : MemPlace} (hp : p.block < w.heap.size) : w.sameAt w' p := by
  cases p with
  | cell b off =>
    have := k.block b hp (fun x => x)
    exact World.cell?_of_block (w := w) this
  | map b => exact k.block b hp (fun x => x)
theorem trodAll_stays (hl : laidOutB P = true) {W W' : World} {sp' : Nat → Bool} : ∀ {ts : List TypeId} {vs : List Value} {ds : List (DataW H)} {ps : List MemPlace},
    (∀ t ∈ ts, P.readableRec t = true ∧ t < P.types.size) → DataW.TrodAll enc P W 0 (fun _ => true) true ts vs ds ps → (∀ p ∈ ps, W.sameAt W' p) → (∀ p ∈ ps, sp' p.block = true) → DataW.TrodAll enc P W' 0 sp' true ts vs ds ps
  | [], [], [], _, _, h, _, _ => h
  | t :: ts, v :: vs, d :: ds, ps, ht, ⟨p, q, h1, h2, e⟩, hs, hb => by
    subst e
    exact ⟨p, q, WideElems.Trod_stays hl (ht t (List.mem_cons_self ..)).1 (ht t (List.mem_cons_self ..)).2 h1 (fun x hx => hs x (List.mem_append_left _ hx)) (fun x hx => hb x (List.mem_append_left _ hx)),
      trodAll_stays hl (fun t ht' => ht t (List.mem_cons_of_mem _ ht')) h2 (fun x hx => hs x (List.mem_append_right _ hx)) (fun x hx => hb x (List.mem_append_right _ hx)), rfl⟩
  | [], _ :: _, _, _, _, h, _, _ => by cases ‹List (DataW H)› <;> exact h.elim
  | [], [], _ :: _, _, _, h, _, _ => h.elim
  | _ :: _, [], _, _, _, h, _, _ => by cases ‹List (DataW H)› <;> exact h.elim
  | _ :: _, _ :: _, [], _, _, h, _, _ => h.elim
theorem law_post {fn : Func} {spec : ChangeSpec} {W W' : World} {args : Array Value} {ds gs : List (DataW H)} {before : List MemPlace} {tb : TypeId}
    (hW : DataW.Whole enc P fn.params.toList spec.vars false W args.toList ds gs before) (hl : laidOutB P = true) (hts : (fn.params.toList.all fun t => P.readableRec t && decide (t < P.types.size)) = true)
    (hvars : spec.vars = []) (hfn : spec.fn H ds = { results := [.lit (.bool true)], args := ds }) (hres : fn.resultTypes = #[tb]) (hb : P.underlying tb = some .bool) (k : Keep0 W W') :
    spec.post enc P fn false true false false W args (.bool true) W' := by
  have hlt := hW.lt
  obtain ⟨p, q, hA, hV, rfl, hfz, hnd⟩ := id hW
  have hV' := hV
  rw [hvars] at hV'
  obtain ⟨rfl, rfl⟩ := trodVars_none hV'
  rw [List.append_nil] at hlt
  have hts' : ∀ t ∈ fn.params.toList, P.readableRec t = true ∧ t < P.types.size := fun t ht => by
    have := List.all_eq_true.1 hts t ht
    simpa using this
  refine ⟨ds, [], p ++ [], [], p, [], hW, ?_, ?_, ?_, k.kept _, fun h => by cases h⟩
  · rw [List.append_nil, hfn, hres]
    exact trodAll_mk1 (shut_bool hb true)
  · rw [List.append_nil, hfn]
    exact trodAll_stays hl hts' hA (fun x hx => k.same (hlt x hx)) (fun x hx => by simpa using hlt x hx)
  · rw [List.append_nil, hfn, hvars]
    rfl
/-! arguments -/
def InI (n : Int) : Prop := -9223372036854775808 ≤ n ∧ n ≤ 9223372036854775807
theorem inI_of {n : Int} (h : (Lit.int .i64 n).wf = true) : InI n := bounds_i64 h
variable {w : World} {base : Nat} {spare : Nat → Bool} {held : Bool}
/-- a type that is read as numbers side by side -/
def FlatI (P : Program) (t : TypeId) (n : Nat) : Prop := ∀ {H : Type} {enc : TypeId × Value → H} {w : World} {base : Nat} {spare : Nat → Bool} {held : Bool} {fuel : Nat} {cs : List Value} {x : DataW H × List MemPlace},
  DataW.trod enc P w base spare held fuel t cs = some x → ∃ l : List Int, l.length = n ∧ cs = l.map I ∧ ∀ y ∈ l, InI y
theorem flat_cells {cs : List Value} : ∀ {n : Nat}, cs.length = n → (∀ i, i < n → ∃ a : Int, cs[i]? = some (I a) ∧ InI a) → ∃ l : List Int, l.length = n ∧ cs = l.map I ∧ ∀ y ∈ l, InI y := by
  intro n hn h
  subst hn
  induction cs with
  | nil => exact ⟨[], rfl, rfl, fun _ h => (List.not_mem_nil h).elim⟩
  | cons c cs ih =>
    obtain ⟨a, ha, hi⟩ := h 0 (by simp)
    obtain ⟨l, h1, h2, h3⟩ := ih fun i hi => by
      obtain ⟨b, hb⟩ := h (i + 1) (by simp; omega)
      exact ⟨b, by simpa using hb⟩
    refine ⟨a :: l, by simp [h1], by simp at ha; rw [ha, h2]; rfl, fun y hy => ?_⟩
    rcases List.mem_cons.1 hy with rfl | hy
    · exact hi
    · exact h3 y hy
theorem take_one {cs : List Value} {o : Nat} {v : Value} (h : (cs.drop o).take 1 = [v]) : cs[o]? = some v := by
  have := congrArg (·[0]?) h
  simpa [List.getElem?_take] using this
theorem flat_array {t e : TypeId} {n : Nat} (ht : P.underlying t = some (.array n e)) (he : P.underlying e = some (.int .i64)) (hc : P.cellsOf e = 1) (hn : P.cellsOf t = n) : FlatI P t n := by
  intro _ _ _ _ _ _ _ cs _ h
  obtain ⟨xs, m, _, _, hl, hxs, hel⟩ := DataW.trod_array ht h
  refine flat_cells (hl.trans hn) fun i hi => ?_
  have := hel i hi
  rw [hc, Nat.mul_one, List.getElem?_eq_getElem (by rw [hxs]; exact hi)] at this
  obtain ⟨a, ha, _, hw⟩ := DataW.trod_int he this
  exact ⟨a, take_one ha, inI_of hw⟩
theorem flat_struct {t : TypeId} {fs : Array Field} {n : Nat} (ht : P.underlying t = some (.struct fs)) (hn : P.cellsOf t = n) (hf : ∀ i, i < n → ∃ f : Field, fs[i]? = some f ∧ f.offset = i ∧ P.underlying f.type = some (.int .i64) ∧ P.cellsOf f.type = 1) (hs : fs.size = n) : FlatI P t n := by
  intro _ _ _ _ _ _ _ cs _ h
  obtain ⟨xs, m, _, _, hl, hxs, hel⟩ := DataW.trod_struct ht h
  refine flat_cells (hl.trans hn) fun i hi => ?_
  obtain ⟨f, h1, h2, h3, h4⟩ := hf i hi
  have := hel i f h1
  rw [h2, h4, List.getElem?_eq_getElem (by rw [hxs, hs]; exact hi)] at this
  obtain ⟨a, ha, _, hw⟩ := DataW.trod_int h3 this
  exact ⟨a, take_one ha, inI_of hw⟩
theorem mapM_get {α β : Type} {f : α → Option β} : ∀ {l : List α} {r : List β}, l.mapM f = some r → ∀ (i : Nat) (a : α), l[i]? = some a → f a = r[i]?
  | [], _, _, i, a, ha => by simp at ha
  | x :: l, r, h, i, a, ha => by
    simp only [List.mapM_cons, Option.bind_eq_bind, Option.bind_eq_some_iff, Option.pure_def, Option.some.injEq] at h
    obtain ⟨b, hb, r', hr', rfl⟩ := h
    cases i with
    | zero =>
      simp only [List.getElem?_cons_zero, Option.some.injEq] at ha
      subst ha
      exact hb
    | succ i => exact mapM_get hr' i a (by simpa using ha)
theorem cell_in {w : World} {a : Addr} {v : Value} (h : w.cell? a = some v) : a.block < w.heap.size := by
  unfold World.cell? at h
  split at h
  · rename_i hw
    exact (Array.getElem?_eq_some_iff.1 hw).1
  · cases h
theorem add_blk (a : Addr) (n : Nat) : (a.add n).block = a.block ∧ (a.add n).off = a.off + n := by
  unfold Addr.add
  split
  · rename_i h; subst h; exact ⟨rfl, rfl⟩
  · exact ⟨rfl, rfl⟩
theorem cellN {w : World} {a : Addr} {n : Nat} {v : Value} (h : w.cell? (a.add n) = some v) : w.cell? ⟨a.block, a.off + n, none⟩ = some v := by
  have h1 := World.cell?_spot h
  obtain ⟨h2, h3⟩ := add_blk a n
  have : a.add n = ⟨a.block, a.off + n, none⟩ := by
    generalize a.add n = x at h1 h2 h3
    cases x
    cases h1; cases h2; cases h3; rfl
  rwa [this] at h
/-- a slice of such -/
theorem slice_flat {t e : TypeId} {s fuel : Nat} {cs : List Value} {x : DataW H × List MemPlace} (ht : P.underlying t = some (.slice e)) (F : FlatI P e s) (hs : P.cellsOf e = s) (h0 : 0 < s)
    (h : DataW.trod enc P w 0 spare held fuel t cs = some x) : ∃ A c, ∃ xs : List (List Int), cs = [SL A xs.length c] ∧ (∀ l ∈ xs, l.length = s ∧ ∀ y ∈ l, InI y) ∧ (rd (fun l : List Int => l.map I) s A c xs).ok w := by
  rcases DataW.trod_slice ht h with ⟨rfl, _⟩ | ⟨a, len, cap, elems, rest, n, _, rfl, _, _, hlc, hcm, hel, hE, _, _⟩
  · exact ⟨none, 0, [], rfl, fun _ h => (List.not_mem_nil h).elim, .inl rfl, Nat.le_refl _, Nat.zero_le _⟩
  · have ex : ∀ i, i < len → ∃ l : List Int, l.length = s ∧ (∀ y ∈ l, InI y) ∧ ∀ j v, (l.map I)[j]? = some v → w.cell? ⟨a.block, a.off + i * s + j, none⟩ = some v := by
      intro i hi
      have := hE i hi
      rw [hs, List.getElem?_eq_getElem (by rw [hel]; exact hi)] at this
      obtain ⟨cs, hc, hd⟩ := Option.bind_eq_some_iff.1 this
      obtain ⟨l, hl, rfl, hy⟩ := F hd
      refine ⟨l, hl, hy, fun j v hj => ?_⟩
      unfold World.cells? at hc
      rw [if_pos (Nat.zero_le _)] at hc
      have hjl : j < s := by
        have := (List.getElem?_eq_some_iff.1 hj).1
        rw [List.length_map, hl] at this
        exact this
      have := mapM_get hc j j (List.getElem?_range hjl)
      rw [hj] at this
      have := cellN this
      rwa [(add_blk a (i * s)).1, (add_blk a (i * s)).2] at this
    have ch : ∃ f : Nat → List Int, ∀ i, i < len → (f i).length = s ∧ (∀ y ∈ f i, InI y) ∧ ∀ j v, ((f i).map I)[j]? = some v → w.cell? ⟨a.block, a.off + i * s + j, none⟩ = some v :=
      ⟨fun i => if h : i < len then Classical.choose (ex i h) else [], fun i hi => by simp only [dif_pos hi]; exact Classical.choose_spec (ex i hi)⟩
    obtain ⟨f, hf⟩ := ch
    refine ⟨some a, cap, (List.range len).map f, by simp [SL], fun l hl => ?_, ?_, by simpa using hlc, hcm⟩
    · obtain ⟨i, hi, rfl⟩ := List.mem_map.1 hl
      have := hf i (List.mem_range.1 hi)
      exact ⟨this.1, this.2.1⟩
    · by_cases hz : len = 0
      · left; subst hz; rfl
      · right
        have h00 := (hf 0 (by omega)).2.2 0 (I ((f 0)[0]'(by rw [(hf 0 (by omega)).1]; exact h0))) (by simp [(hf 0 (by omega)).1, h0])
        obtain ⟨b, o, sp⟩ := a
        have hsp : sp = none := by
          have := hE 0 (by omega)
          rw [hs, List.getElem?_eq_getElem (by rw [hel]; omega)] at this
          obtain ⟨cs, hc, hd⟩ := Option.bind_eq_some_iff.1 this
          obtain ⟨l, hl, rfl, hy⟩ := F hd
          unfold World.cells? at hc
          rw [if_pos (Nat.zero_le _)] at hc
          have := mapM_get hc 0 0 (List.getElem?_range h0)
          rw [List.getElem?_eq_getElem (by rw [List.length_map, hl]; exact h0)] at this
          rw [Nat.zero_mul] at this
          exact World.cell?_spot (show w.cell? ⟨b, o, sp⟩ = _ from this)
        subst hsp
        refine ⟨b, o, rfl, cell_in h00, fun i x hx j v hv => ?_⟩
        have hi : i < len := by
          have := (List.getElem?_eq_some_iff.1 hx).1
          simpa using this
        have hx' : x = f i := by simpa [List.getElem?_range, hi] using hx.symm
        subst hx'
        exact (hf i hi).2.2 j v hv
theorem rd_map {α β : Type} {e1 : α → List Value} {e2 : β → List Value} {s c : Nat} {A : Option Addr} {xs : List α} (f : α → β) (h : ∀ x ∈ xs, e2 (f x) = e1 x) (h1 : (rd e1 s A c xs).ok w) : (rd e2 s A c (xs.map f)).ok w := by
  refine ⟨?_, by simpa using h1.2.1, h1.2.2⟩
  rcases h1.1 with rfl | ⟨b, o, e, hb, hc⟩
  · exact .inl rfl
  · refine .inr ⟨b, o, e, hb, fun i x hx j v hv => ?_⟩
    rw [List.getElem?_map] at hx
    obtain ⟨y, hy, rfl⟩ := Option.map_eq_some_iff.1 hx
    rw [h y (List.mem_of_getElem? hy)] at hv
    exact hc i y hy j v hv
theorem dec_int {r : Reach} {b0 : Nat} {t : TypeId} {v : Value} {d : DataW H} {ps : List MemPlace} (ht : P.underlying t = some (.int .i64)) (hval : Value.okWide P w r b0 t v) (hd : DataW.Trod enc P w base spare held t v d ps) : ∃ n, v = I n ∧ InI n := by
  obtain ⟨n, h1, _, _, hw⟩ := open_int ht hval hd
  exact ⟨n, h1, inI_of hw⟩
theorem okWide_cells {r : Reach} {b0 : Nat} {t : TypeId} {v : Value} (ht : (match P.underlying t with | some (.struct _) | some (.array _ _) => true | _ => false) = true) (hval : Value.okWide P w r b0 t v) : ∃ cs, v = .agg cs := by
  unfold Value.okWide at hval
  split at hval
  · obtain ⟨cs, h, _⟩ := hval; exact ⟨cs, h⟩
  · obtain ⟨cs, h, _⟩ := hval; exact ⟨cs, h⟩
  · rename_i h1 h2
    split at ht
    · rename_i h; exact absurd h (h1 _)
    · rename_i h; exact absurd h (h2 _ _)
    · cases ht
end
end Go.Fx

set_option linter.unusedVariables false
namespace Go.Proofs.YticodohfokgjfaaDoor
open Go Go.Fx Go.Proofs Go.ChangeShapes Go.WideShapes Go.ChangeAt Go.RowKit
theorem own : ownKnob Tryd.prog.godebug = none := by kernel_rfl
theorem gAsks : Tryd.prog.globalNamed "prow/coal.asks" = some 0 := by kernel_rfl
theorem tAsks : (Tryd.prog.globals[0]?).map (·.type) = some 110 := by kernel_rfl
theorem gStill : Tryd.prog.globalNamed "prow/coal.still" = some 1 := by kernel_rfl
theorem tStill : (Tryd.prog.globals[1]?).map (·.type) = some 123 := by kernel_rfl
theorem laidOut : laidOutB Tryd.prog = true := by kernel_rfl
theorem u110 : Tryd.prog.underlying 110 = some (.array 2 109) := by kernel_rfl
theorem u109b : (match Tryd.prog.underlying 109 with | some (.func _ _ _) => true | _ => false) = true := by kernel_rfl
theorem u109 : ∃ ps rs va, Tryd.prog.underlying 109 = some (.func ps rs va) := by
  have h := u109b
  split at h
  · rename_i ps rs va hu; exact ⟨ps, rs, va, hu⟩
  · cases h
theorem u3 : Tryd.prog.underlying 3 = some (.int .i64) := by kernel_rfl
theorem c109 : Tryd.prog.cellsOf 109 = 1 := by kernel_rfl
theorem c110 : Tryd.prog.cellsOf 110 = 2 := by kernel_rfl
theorem c123 : Tryd.prog.cellsOf 123 = 2 := by kernel_rfl
theorem c3 : Tryd.prog.cellsOf 3 = 1 := by kernel_rfl
theorem u123 : ∃ f0 f1 : Field, Tryd.prog.underlying 123 = some (.struct #[f0, f1]) ∧ f0.type = 3 ∧ f1.type = 3 ∧ f0.offset = 0 ∧ f1.offset = 1 := ⟨(Tryd.prog.fieldsOf 123)[0]!, (Tryd.prog.fieldsOf 123)[1]!, by kernel_rfl, by kernel_rfl, by kernel_rfl, by kernel_rfl, by kernel_rfl⟩
def laidL : List (String × DataW Unit) := [("prow/coal.still", Rows.laid_prow_coal_still), ("prow/coal.asks", Rows.laid_prow_coal_asks)]
theorem var_heap {W : World} {n : String} {g : Nat} {cs c : Array Value} {t : TypeId} {fr : Nat × Nat} (hg : Tryd.prog.globalNamed n = some g) (hv : W.var? Tryd.prog n = some cs) (hh : W.heap[g]? = some (.cells c t fr)) : cs = c := by
  unfold World.var? at hv
  rw [hg] at hv
  simp only [Option.bind_some, hh] at hv
  exact (Option.some.inj hv).symm
theorem shape0 : ∃ zero, (((begin Tryd.prog (fun _ _ => 0) default).world.heap[0]?).bind Obj.row?) = some (zero, 110) := ⟨#[.nilFunc, .nilFunc], by kernel_rfl⟩
theorem shape1 : ∃ zero, (((begin Tryd.prog (fun _ _ => 0) default).world.heap[1]?).bind Obj.row?) = some (zero, 123) := ⟨#[I 0, I 0], by kernel_rfl⟩
set_option maxRecDepth 100000 in
theorem globals_ok {W : World} (hS : W.ShapedOpen Tryd.prog) (h : laidMetH Tryd.prog laidL W) : (bl 0 [Value.func (.func 128) #[] #[], Value.func (.func 129) #[] #[]] 110).ok W ∧ (bl 1 [I (-1), I (-1)] 123).ok W := by
  obtain ⟨z0, hz0⟩ := shape0
  obtain ⟨z1, hz1⟩ := shape1
  obtain ⟨cs0, h0, _⟩ := hS.1 0 z0 110 (of_decide_eq_true (by kernel_rfl)) hz0
  obtain ⟨cs1, h1, _⟩ := hS.1 1 z1 123 (of_decide_eq_true (by kernel_rfl)) hz1
  constructor
  · obtain ⟨g, t, cs, fuel, p, hg, ht, hv, hd⟩ := h.funcs (n := "prow/coal.asks") (List.mem_cons_of_mem _ (List.mem_cons_self ..))
    obtain rfl := Option.some.inj (gAsks.symm.trans hg)
    obtain rfl := Option.some.inj (tAsks.symm.trans ht)
    obtain rfl := var_heap gAsks hv h0
    obtain ⟨xs, m, _, hx, hl, hxs, hel⟩ := DataW.trod_array u110 hd
    rw [c110] at hl
    have hx' : xs.map (·.1) = [.held [40, 112, 114, 111, 119, 47, 99, 111, 97, 108, 46, 98, 111, 111, 107, 41, 46, 115, 111, 109, 101], .held [40, 112, 114, 111, 119, 47, 99, 111, 97, 108, 46, 98, 111, 111, 107, 41, 46, 101, 97, 99, 104]] := by
      have := congrArg Prod.fst hx
      exact (DataW.agg.inj this).symm
    obtain ⟨ps, rs, va, hu⟩ := u109
    obtain ⟨cl⟩ := cs
    match cl, hl with
    | [v0, v1], _ =>
      match xs, hx' with
      | [(_, p0), (_, p1)], hx' =>
        simp only [List.map_cons, List.map_nil, List.cons.injEq, and_true] at hx'
        obtain ⟨rfl, rfl⟩ := hx'
        have e0 := hel 0 (by decide)
        have e1 := hel 1 (by decide)
        rw [c109] at e0 e1
        obtain rfl := func_of_trod (f0 := 128) hu (by kernel_rfl) (show DataW.trod _ _ _ _ _ _ _ _ [v0] = some (_, p0) from e0)
        obtain rfl := func_of_trod (f0 := 129) hu (by kernel_rfl) (show DataW.trod _ _ _ _ _ _ _ _ [v1] = some (_, p1) from e1)
        exact h0
  · have h' : laidMet Tryd.prog [("prow/coal.still", Rows.laid_prow_coal_still)] W := h.1
    obtain ⟨ps, ⟨g, t, cs, fuel, p, q, hg, ht, hv, hd, _, _⟩, _⟩ := h'
    obtain rfl := Option.some.inj (gStill.symm.trans hg)
    obtain rfl := Option.some.inj (tStill.symm.trans ht)
    obtain rfl := var_heap gStill hv h1
    obtain ⟨f0, f1, hu, ht0, ht1, ho0, ho1⟩ := u123
    obtain ⟨xs, m, _, hx, hl, hxs, hel⟩ := DataW.trod_struct hu hd
    rw [c123] at hl
    have hx' : xs.map (·.1) = [.lit (.int .i64 (-1)), .lit (.int .i64 (-1))] := by
      have := congrArg Prod.fst hx
      exact (DataW.agg.inj this).symm
    obtain ⟨cl⟩ := cs
    match cl, hl with
    | [v0, v1], _ =>
      match xs, hx' with
      | [(_, p0), (_, p1)], hx' =>
        simp only [List.map_cons, List.map_nil, List.cons.injEq, and_true] at hx'
        obtain ⟨rfl, rfl⟩ := hx'
        have e0 := hel 0 f0 rfl
        have e1 := hel 1 f1 rfl
        rw [ho0, ht0, c3] at e0
        rw [ho1, ht1, c3] at e1
        obtain ⟨n0, a0, b0, _⟩ := DataW.trod_int u3 (show DataW.trod _ _ _ _ _ _ _ _ [v0] = some (_, p0) from e0)
        obtain ⟨n1, a1, b1, _⟩ := DataW.trod_int u3 (show DataW.trod _ _ _ _ _ _ _ _ [v1] = some (_, p1) from e1)
        cases a0; cases a1; cases b0; cases b1
        exact h1
def putCells (cs : Array Value) : Obj → Obj
  | .cells _ t frozen => .cells cs t frozen
  | o => o
/-- a world for the witness: both listed variables hold what the text lays -/
noncomputable def laidWorld (os : Os) : World :=
  { World.holding Tryd.prog os ⟨#[], #[], []⟩ with heap := ((World.holding Tryd.prog os ⟨#[], #[], []⟩).heap.modify 0 (putCells #[.func (.func 128) #[] #[], .func (.func 129) #[] #[]])).modify 1 (putCells #[I (-1), I (-1)]) }
end Go.Proofs.YticodohfokgjfaaDoor

set_option linter.unusedVariables false
set_option linter.constructorNameAsVariable false
set_option maxRecDepth 100000
namespace Go.Proofs.YticodohfokgjfaaDoor
open Go Go.Fx Go.Proofs Go.ChangeShapes Go.WideShapes Go.ChangeAt Go.RowKit
theorem get_bang {α : Type} [Inhabited α] {a : Array α} {i : Nat} (h : i < a.size) : a[i]? = some a[i]! := by
  rw [Array.getElem?_eq_getElem h, getElem!_pos a i h]
theorem st {t n : Nat} (u : Tryd.prog.underlying t = some (.struct (Tryd.prog.fieldsOf t))) (c : Tryd.prog.cellsOf t = n) (s : (Tryd.prog.fieldsOf t).size = n)
    (b : ((List.range n).all fun i => (Tryd.prog.fieldsOf t)[i]!.offset == i && (Tryd.prog.fieldsOf t)[i]!.type == 3) = true) : FlatI Tryd.prog t n := by
  refine flat_struct u c (fun i hi => ?_) s
  refine ⟨_, get_bang (by rw [s]; exact hi), ?_⟩
  have := List.all_eq_true.1 b i (List.mem_range.2 hi)
  simp only [Bool.and_eq_true, beq_iff_eq] at this
  exact ⟨this.1, by rw [this.2]; exact u3, by rw [this.2]; exact c3⟩
theorem c23 : Tryd.prog.cellsOf 23 = 2 := by kernel_rfl
theorem c64 : Tryd.prog.cellsOf 64 = 3 := by kernel_rfl
theorem c67 : Tryd.prog.cellsOf 67 = 3 := by kernel_rfl
theorem c29 : Tryd.prog.cellsOf 29 = 14 := by kernel_rfl
theorem c24 : Tryd.prog.cellsOf 24 = 4 := by kernel_rfl
theorem c25 : Tryd.prog.cellsOf 25 = 3 := by kernel_rfl
theorem c26 : Tryd.prog.cellsOf 26 = 1 := by kernel_rfl
theorem c27 : Tryd.prog.cellsOf 27 = 1 := by kernel_rfl
theorem u24 : Tryd.prog.underlying 24 = some (.array 2 23) := by kernel_rfl
theorem u25 : Tryd.prog.underlying 25 = some (.array 3 3) := by kernel_rfl
theorem u26 : Tryd.prog.underlying 26 = some (.slice 64) := by kernel_rfl
theorem u27 : Tryd.prog.underlying 27 = some (.slice 67) := by kernel_rfl
theorem u29 : Tryd.prog.underlying 29 = some (.struct (Tryd.prog.fieldsOf 29)) := by kernel_rfl
theorem flat23 : FlatI Tryd.prog 23 2 := st (by kernel_rfl) c23 (by kernel_rfl) (by kernel_rfl)
theorem flat64 : FlatI Tryd.prog 64 3 := st (by kernel_rfl) c64 (by kernel_rfl) (by kernel_rfl)
theorem flat67 : FlatI Tryd.prog 67 3 := st (by kernel_rfl) c67 (by kernel_rfl) (by kernel_rfl)
theorem flat25 : FlatI Tryd.prog 25 3 := flat_array u25 u3 c3 c25
theorem f29s : (Tryd.prog.fieldsOf 29).size = 7 := by kernel_rfl
theorem f29b : ([(0, 0, 23), (1, 2, 24), (2, 6, 25), (3, 9, 26), (4, 10, 23), (5, 12, 3), (6, 13, 27)].all fun (x : Nat × Nat × Nat) => (Tryd.prog.fieldsOf 29)[x.1]!.offset == x.2.1 && (Tryd.prog.fieldsOf 29)[x.1]!.type == x.2.2) = true := by kernel_rfl
theorem maxLen_le : maxLen ≤ 9223372036854775807 := by decide
def dayOf (l : List Int) : CoalDay := ⟨l.getD 0 0, l.getD 1 0, l.getD 2 0⟩
theorem dayOf_cells {l : List Int} (h : l.length = 3) : eCoalDay (dayOf l) = l.map I := by
  match l, h with
  | [_, _, _], _ => rfl
def dipOf (l : List Int) : CoalDip := ⟨l.getD 0 0, l.getD 1 0, l.getD 2 0⟩
theorem dipOf_cells {l : List Int} (h : l.length = 3) : eCoalDip (dipOf l) = l.map I := by
  match l, h with
  | [_, _, _], _ => rfl
variable {H : Type} {enc : TypeId × Value → H} {w : World} {spare : Nat → Bool} {held : Bool} {r : Reach} {b0 : Nat} {v : Value} {d : DataW H} {ps : List MemPlace}
theorem two_of {fuel : Nat} {cs : List Value} {x : DataW H × List MemPlace} (h : DataW.trod enc Tryd.prog w 0 spare held fuel 23 cs = some x) : ∃ s : Span, cs = eSpan s := by
  obtain ⟨l, hl, rfl, _⟩ := flat23 h
  match l, hl with
  | [a, b], _ => exact ⟨⟨a, b⟩, rfl⟩
theorem four_of {fuel : Nat} {cs : List Value} {x : DataW H × List MemPlace} (h : DataW.trod enc Tryd.prog w 0 spare held fuel 24 cs = some x) : ∃ l : List Span, l.length = 2 ∧ cs = sgE eSpan l 2 := by
  obtain ⟨xs, m, _, _, hl, hxs, hel⟩ := DataW.trod_array u24 h
  rw [c24] at hl
  have e0 := hel 0 (by decide)
  have e1 := hel 1 (by decide)
  rw [c23, List.getElem?_eq_getElem (by omega)] at e0 e1
  obtain ⟨s0, h0⟩ := two_of e0
  obtain ⟨s1, h1⟩ := two_of e1
  refine ⟨[s0, s1], rfl, ?_⟩
  match cs, hl with
  | [a, b, c, d], _ =>
    simp [eSpan] at h0 h1
    obtain ⟨rfl, rfl⟩ := h0
    obtain ⟨rfl, rfl⟩ := h1
    rfl
theorem dec_book (hval : Value.okWide Tryd.prog w r b0 29 v) (hd : DataW.Trod enc Tryd.prog w 0 spare held 29 v d ps) : ∃ A1 c1 A2 c2, ∃ b : CoalBook, v = AG ([I b.Heap.Low, I b.Heap.High] ++ (sgE eSpan b.Eats 2 ++ (sg b.Extra 3 ++ [SL A1 b.Days.length c1, I b.Collier.Low, I b.Collier.High, I b.Brings, SL A2 b.Dips.length c2]))) ∧
    (rd eCoalDay 3 A1 c1 b.Days).ok w ∧ (rd eCoalDip 3 A2 c2 b.Dips).ok w ∧ b.Days.length ≤ 9223372036854775807 ∧ b.Dips.length ≤ 9223372036854775807 ∧ b.Eats.length = 2 ∧ b.Extra.length = 3 := by
  obtain ⟨cs, rfl⟩ := okWide_cells (by kernel_rfl) hval
  obtain ⟨fuel, hf⟩ := hd
  obtain ⟨xs, m, _, _, hl, hxs, hel⟩ := DataW.trod_struct u29 hf
  rw [c29] at hl
  rw [f29s] at hxs
  have fb := f29b
  simp only [List.all_cons, List.all_nil, Bool.and_eq_true, beq_iff_eq, and_true] at fb
  obtain ⟨⟨o0, t0⟩, ⟨o1, t1⟩, ⟨o2, t2⟩, ⟨o3, t3⟩, ⟨o4, t4⟩, ⟨o5, t5⟩, ⟨o6, t6⟩⟩ := fb
  have e0 := hel 0 _ (get_bang (by rw [f29s]; decide))
  have e1 := hel 1 _ (get_bang (by rw [f29s]; decide))
  have e2 := hel 2 _ (get_bang (by rw [f29s]; decide))
  have e3 := hel 3 _ (get_bang (by rw [f29s]; decide))
  have e4 := hel 4 _ (get_bang (by rw [f29s]; decide))
  have e5 := hel 5 _ (get_bang (by rw [f29s]; decide))
  have e6 := hel 6 _ (get_bang (by rw [f29s]; decide))
  rw [o0, t0, c23, List.getElem?_eq_getElem (by omega)] at e0
  rw [o1, t1, c24, List.getElem?_eq_getElem (by omega)] at e1
  rw [o2, t2, c25, List.getElem?_eq_getElem (by omega)] at e2
  rw [o3, t3, c26, List.getElem?_eq_getElem (by omega)] at e3
  rw [o4, t4, c23, List.getElem?_eq_getElem (by omega)] at e4
  rw [o5, t5, c3, List.getElem?_eq_getElem (by omega)] at e5
  rw [o6, t6, c27, List.getElem?_eq_getElem (by omega)] at e6
  obtain ⟨s0, g0⟩ := two_of e0
  obtain ⟨l1, k1, g1⟩ := four_of e1
  obtain ⟨l2, k2, g2, _⟩ := flat25 e2
  obtain ⟨A3, c3', l3, g3, h31, h32⟩ := slice_flat u26 flat64 c64 (by decide) e3
  obtain ⟨s4, g4⟩ := two_of e4
  obtain ⟨n5, g5, _, _⟩ := DataW.trod_int u3 e5
  obtain ⟨A6, c6', l6, g6, h61, h62⟩ := slice_flat u27 flat67 c67 (by decide) e6
  have m3 := rd_map (e2 := eCoalDay) dayOf (fun x hx => dayOf_cells (h31 x hx).1) h32
  have m6 := rd_map (e2 := eCoalDip) dipOf (fun x hx => dipOf_cells (h61 x hx).1) h62
  refine ⟨A3, c3', A6, c6', ⟨s0, l1, l2, l3.map dayOf, s4, n5, l6.map dipOf⟩, ?_, m3, m6, ?_, ?_, k1, k2⟩
  · obtain ⟨cl⟩ := cs
    match l1, k1, l2, k2 with
    | [p, q], _, [x, y, z], _ =>
      match cl, hl with
      | [y0, y1, y2, y3, y4, y5, y6, y7, y8, y9, y10, y11, y12, y13], _ =>
        simp [Value.cells, eSpan, sgE, sgEF] at g0 g1 g2 g3 g4 g5 g6
        obtain ⟨rfl, rfl⟩ := g0
        obtain ⟨rfl, rfl, rfl, rfl⟩ := g1
        obtain ⟨rfl, rfl, rfl⟩ := g2
        obtain ⟨rfl, rfl⟩ := g4
        subst g3 g5 g6
        simp [sgE, sgEF, sg, sgF, eSpan]
  · have := maxLen_le; have := m3.2.1; have := m3.2.2; simp only; omega
  · have := maxLen_le; have := m6.2.1; have := m6.2.2; simp only; omega
end Go.Proofs.YticodohfokgjfaaDoor

set_option linter.unusedVariables false
set_option linter.unusedSimpArgs false
namespace Go.Proofs.YticodohfokgjfaaDoor
open Go Go.Fx
theorem wrI {x : Int} (h0 : -9223372036854775808 ≤ x) (h1 : x ≤ 9223372036854775807) : Fx.wr x = x := wr_eq h0 h1
def inB (a lo hi : Int) : Bool := decide (lo ≤ a) && decide (a ≤ hi)
theorem inB_iff {a lo hi : Int} : inB a lo hi = true ↔ lo ≤ a ∧ a ≤ hi := by simp [inB]
theorem within_eq (a b c : Int) : coal_within a b c = some (inB a b c) := by
  unfold coal_within inB
  cases decide (b ≤ a) <;> rfl
theorem inside_eq (a b c : Int) : B_Inside a b c = some (inB a b c) := by
  unfold B_Inside inB
  rw [show decide (a ≥ b) = decide (b ≤ a) from rfl]
  cases decide (b ≤ a) <;> rfl
theorem getI_ix {α : Type} {l : List α} {k : Nat} (h : k < l.length) : getI l (k : Int) = some l[k] := by rw [getI_nat, List.getElem?_eq_getElem h]
/-- a loop whose state behind k rounds is known -/
theorem loop_fold {σ ρ : Type} {body : (σ → Option ρ) → σ → Option ρ} (S : Nat → σ) (n : Nat) {R : Option ρ} (hs : ∀ rec k, k < n → body rec (S k) = rec (S (k + 1))) (he : ∀ rec, body rec (S n) = R) (hn : n < big) : loopF body big (S 0) = R := by
  have key : ∀ d k m, k + d = n → d < m → loopF body m (S k) = R := by
    intro d
    induction d with
    | zero =>
      intro k m h1 h2
      obtain ⟨m, rfl⟩ : ∃ q, m = q + 1 := ⟨m - 1, by omega⟩
      obtain rfl : k = n := by omega
      exact he _
    | succ d ih =>
      intro k m h1 h2
      obtain ⟨m, rfl⟩ : ∃ q, m = q + 1 := ⟨m - 1, by omega⟩
      show body (loopF body m) (S k) = R
      rw [hs _ k (by omega)]
      exact ih (k + 1) m (by omega) (by omega)
  exact key n 0 big (by omega) hn
theorem loop_fold0 {σ ρ : Type} {body : (σ → Option ρ) → σ → Option ρ} (S : Nat → σ) (n : Nat) {s0 : σ} {R : Option ρ} (hs : ∀ rec k, k < n → body rec (S k) = rec (S (k + 1))) (he : ∀ rec, body rec (S n) = R) (hn : n < big) (h0 : S 0 = s0) : loopF body big s0 = R := h0 ▸ loop_fold S n hs he hn
theorem big_eq : big = 18446744073709551616 := by decide
/-- all of a list, seen one by one -/
def allTo {α : Type} (p : α → Bool) (l : List α) (ok : Bool) (k : Nat) : Bool := ok && (l.take k).all p
theorem allTo_zero {α : Type} {p : α → Bool} {l : List α} {ok : Bool} : allTo p l ok 0 = ok := by simp [allTo]
theorem allTo_succ {α : Type} {p : α → Bool} {l : List α} {ok : Bool} {k : Nat} (h : k < l.length) : allTo p l ok (k + 1) = (allTo p l ok k && p l[k]) := by
  unfold allTo
  rw [← List.take_append_getElem h, List.all_append]
  simp [Bool.and_assoc]
theorem allTo_end {α : Type} {p : α → Bool} {l : List α} {ok : Bool} : allTo p l ok l.length = (ok && l.all p) := by simp [allTo]
theorem wrN {k : Nat} {n : Nat} (h : k < n) (hn : n ≤ 9223372036854775807) : Fx.wr ((k : Int) + 1) = ((k + 1 : Nat) : Int) := by rw [wrI (by omega) (by omega)]; omega
structure Arg (b : CoalBook) : Prop where
  dl : b.Days.length ≤ 9223372036854775807
  pl : b.Dips.length ≤ 9223372036854775807
  el : b.Eats.length = 2
  xl : b.Extra.length = 3
def spB (s : Span) (hi wide : Int) : Bool := decide (0 ≤ s.Low) && decide (s.Low ≤ s.High) && decide (s.High ≤ hi) && decide (s.High - s.Low ≤ wide)
theorem isSpan_eq (s : Span) (hi wide : Int) (hh : hi ≤ 9223372036854775807) : coal_isSpan s hi wide = some (spB s hi wide) := by
  unfold coal_isSpan spB
  by_cases h1 : 0 ≤ s.Low <;> by_cases h2 : s.Low ≤ s.High <;> by_cases h3 : s.High ≤ hi <;> simp only [h1, h2, h3, decide_true, decide_false, cond_true, cond_false, Bool.true_and, Bool.false_and, Bool.and_false]
  rw [wrI (by omega) (by omega)]
def dayB (x : CoalDay) : Bool := inB x.Crosses 0 9 && inB x.Engines 1 3 && inB x.Winds 1 7
def dipB (n : Nat) (x : CoalDip) : Bool := inB x.Day 0 ((n : Int) - 1) && inB x.Read 0 800 && inB x.Error 0 9
theorem isDay_eq (b : CoalBook) (A : Arg b) (n : Int) : coal_isDay b n = some (inB n 0 ((b.Days.length : Int) - 1)) := by
  unfold coal_isDay
  have := A.dl
  rw [wrI (by omega) (by omega), within_eq]; rfl
def valB (b : CoalBook) : Bool := spB b.Heap 400 4 && inB b.Days.length 1 6 && spB b.Collier b.Days.length 3 && inB b.Brings 0 400 && decide ((b.Dips.length : Int) ≤ 4) && b.Eats.all (spB · 9 2) && b.Extra.all (inB · 0 9) && b.Days.all dayB && b.Dips.all (dipB b.Days.length)
theorem check_tail (b : CoalBook) (A : Arg b) (ok : Bool) : coal_Check_j9 b ok = some (bif ok && b.Eats.all (spB · 9 2) && b.Extra.all (inB · 0 9) && b.Days.all dayB && b.Dips.all (dipB b.Days.length) then 0 else 60) := by
  have h1 := A.dl; have h2 := A.pl; have h3 := A.el; have h4 := A.xl
  unfold coal_Check_j9
  refine loop_fold0 (fun k => (allTo (spB · 9 2) b.Eats ok k, (k : Int))) 2 (fun rec k hk => ?_) (fun rec => ?_) (by rw [big_eq]; omega) (by rw [allTo_zero]; rfl)
  · unfold coal_Check_l8
    simp only
    rw [decide_eq_true (by omega), cond_true, need_of (by simp [inI]; omega), wrN hk (by omega), allTo_succ (by omega)]
    rw [isSpan_eq _ _ _ (by omega), show agetS b.Eats (k : Int) = b.Eats[k]'(by omega) by simp [agetS, List.getD_eq_getElem?_getD, List.getElem?_eq_getElem (show k < b.Eats.length by omega)]]
    cases allTo (spB · 9 2) b.Eats ok k <;> simp
  unfold coal_Check_l8
  simp only
  rw [decide_eq_false (by omega), cond_false, show allTo (spB · 9 2) b.Eats ok 2 = (ok && b.Eats.all (spB · 9 2)) by rw [← h3, allTo_end]]
  generalize (ok && b.Eats.all (spB · 9 2)) = ok
  refine loop_fold0 (fun k => (allTo (inB · 0 9) b.Extra ok k, (k : Int))) 3 (fun rec k hk => ?_) (fun rec => ?_) (by rw [big_eq]; omega) (by rw [allTo_zero]; rfl)
  · unfold coal_Check_l7
    simp only
    rw [decide_eq_true (by omega), cond_true, need_of (by simp [inI]; omega), wrN hk (by omega), allTo_succ (by omega), within_eq]
    rw [show aget b.Extra (k : Int) = b.Extra[k]'(by omega) by simp [aget, List.getD_eq_getElem?_getD, List.getElem?_eq_getElem (show k < b.Extra.length by omega)]]
    cases allTo (inB · 0 9) b.Extra ok k <;> simp
  unfold coal_Check_l7
  simp only
  rw [decide_eq_false (by omega), cond_false, show allTo (inB · 0 9) b.Extra ok 3 = (ok && b.Extra.all (inB · 0 9)) by rw [← h4, allTo_end]]
  generalize (ok && b.Extra.all (inB · 0 9)) = ok
  refine loop_fold0 (fun k => (allTo dayB b.Days ok k, (k : Int))) b.Days.length (fun rec k hk => ?_) (fun rec => ?_) (by rw [big_eq]; omega) (by rw [allTo_zero]; rfl)
  · unfold coal_Check_l6
    simp only
    rw [decide_eq_true (by omega), cond_true, getI_ix hk, Option.bind_some, wrN hk h1, allTo_succ hk]
    simp only [within_eq, Option.bind_some]
    have e : dayB b.Days[k] = (inB b.Days[k].Crosses 0 9 && inB b.Days[k].Engines 1 3 && inB b.Days[k].Winds 1 7) := rfl
    rw [e]
    cases allTo dayB b.Days ok k <;> cases inB b.Days[k].Crosses 0 9 <;> cases inB b.Days[k].Engines 1 3 <;> cases inB b.Days[k].Winds 1 7 <;> rfl
  unfold coal_Check_l6
  simp only
  rw [decide_eq_false (by omega), cond_false, allTo_end]
  generalize (ok && b.Days.all dayB) = ok
  refine loop_fold0 (fun k => (allTo (dipB b.Days.length) b.Dips ok k, (k : Int))) b.Dips.length (fun rec k hk => ?_) (fun rec => ?_) (by rw [big_eq]; omega) (by rw [allTo_zero]; rfl)
  · unfold coal_Check_l5
    simp only
    rw [decide_eq_true (by omega), cond_true, getI_ix hk, Option.bind_some, wrN hk h2, allTo_succ hk]
    simp only [within_eq, isDay_eq b A, Option.bind_some]
    have e : dipB b.Days.length b.Dips[k] = (inB b.Dips[k].Day 0 ((b.Days.length : Int) - 1) && inB b.Dips[k].Read 0 800 && inB b.Dips[k].Error 0 9) := rfl
    rw [e]
    cases allTo (dipB b.Days.length) b.Dips ok k <;> cases inB b.Dips[k].Day 0 ((b.Days.length : Int) - 1) <;> cases inB b.Dips[k].Read 0 800 <;> cases inB b.Dips[k].Error 0 9 <;> rfl
  unfold coal_Check_l5
  simp only
  rw [decide_eq_false (by omega), cond_false, allTo_end]
  cases (ok && b.Dips.all (dipB b.Days.length)) <;> rfl
theorem check_eq (b : CoalBook) (A : Arg b) : coal_Check b = some (bif valB b then 0 else 60) := by
  have h1 := A.dl; have h2 := A.pl
  unfold coal_Check valB
  simp only [within_eq, isSpan_eq _ _ _ (show (400 : Int) ≤ 9223372036854775807 by omega), isSpan_eq _ _ _ (show (b.Days.length : Int) ≤ 9223372036854775807 by omega), Option.bind_some, check_tail b A]
  cases spB b.Heap 400 4 <;> cases inB b.Days.length 1 6 <;> cases spB b.Collier b.Days.length 3 <;> cases inB b.Brings 0 400 <;> rfl
structure Val (b : CoalBook) : Prop where
  hp : spB b.Heap 400 4 = true
  dn : 1 ≤ b.Days.length ∧ b.Days.length ≤ 6
  co : spB b.Collier b.Days.length 3 = true
  br : 0 ≤ b.Brings ∧ b.Brings ≤ 400
  pn : b.Dips.length ≤ 4
  ea : ∀ s ∈ b.Eats, spB s 9 2 = true
  ex : ∀ x ∈ b.Extra, 0 ≤ x ∧ x ≤ 9
  da : ∀ x ∈ b.Days, dayB x = true
  di : ∀ x ∈ b.Dips, dipB b.Days.length x = true
theorem val_iff {b : CoalBook} : valB b = true ↔ Val b := by
  unfold valB
  simp only [Bool.and_eq_true, List.all_eq_true, inB_iff, decide_eq_true_eq]
  constructor
  · rintro ⟨⟨⟨⟨⟨⟨⟨⟨a, b1, b2⟩, c⟩, d⟩, e⟩, f⟩, g⟩, h⟩, i⟩; exact ⟨a, ⟨by omega, by omega⟩, c, d, by omega, f, g, h, i⟩
  · rintro ⟨a, b, c, d, e, f, g, h, i⟩; exact ⟨⟨⟨⟨⟨⟨⟨⟨a, by omega, by omega⟩, c⟩, d⟩, by omega⟩, f⟩, g⟩, h⟩, i⟩
theorem Val.arg {b : CoalBook} (V : Val b) (el : b.Eats.length = 2) (xl : b.Extra.length = 3) : Arg b := ⟨by have := V.dn; omega, by have := V.pn; omega, el, xl⟩
end Go.Proofs.YticodohfokgjfaaDoor

set_option linter.unusedVariables false
set_option linter.unusedSimpArgs false
namespace Go.Proofs.YticodohfokgjfaaDoor
open Go Go.Fx
/-- what yield comes to, one after the other -/
def foldY {ε σ : Type} (yv : ε → σ → Option (Bool × σ)) : List ε → σ → Option (Bool × σ)
  | [], s => some (true, s)
  | x :: l, s => (yv x s).bind fun r => bif r.1 then foldY yv l r.2 else some (false, r.2)
theorem foldY_app {ε σ : Type} (yv : ε → σ → Option (Bool × σ)) : ∀ (l m : List ε) (s : σ), foldY yv (l ++ m) s = (foldY yv l s).bind fun r => bif r.1 then foldY yv m r.2 else some (false, r.2)
  | [], m, s => rfl
  | x :: l, m, s => by
    show (yv x s).bind (fun r => bif r.1 then foldY yv (l ++ m) r.2 else some (false, r.2)) = Option.bind ((yv x s).bind fun r => bif r.1 then foldY yv l r.2 else some (false, r.2)) _
    cases yv x s with
    | none => rfl
    | some r =>
      obtain ⟨b, s2⟩ := r
      cases b with
      | true => exact foldY_app yv l m s2
      | false => rfl
/-- a range within a range -/
def codeOf {σ : Type} (r : Bool × σ) : Bool × Nat × σ := (r.1, bif r.1 then 0 else 1, r.2)
theorem foldY_nest {ε δ σ : Type} (yv : δ → σ → Option (Bool × σ)) (f : ε → List δ) (bd : ε → σ → Option (Bool × Nat × σ)) (L : List ε) (hb : ∀ x ∈ L, ∀ z, bd x z = (foldY yv (f x) z).map codeOf) : ∀ z, foldY (yvOf bd) L (0, z) = (foldY yv (L.flatMap f) z).map codeOf := by
  induction L with
  | nil => intro z; rfl
  | cons x L ih =>
    intro z
    rw [List.flatMap_cons, foldY_app]
    show (yvOf bd x (0, z)).bind (fun r => bif r.1 then foldY (yvOf bd) L r.2 else some (false, r.2)) = _
    rw [show yvOf bd x (0, z) = bd x z from rfl, hb x (List.mem_cons_self ..) z]
    cases foldY yv (f x) z with
    | none => rfl
    | some r =>
      obtain ⟨b, s2⟩ := r
      cases b with
      | true => exact ih (fun x hx => hb x (List.mem_cons_of_mem _ hx)) s2
      | false => rfl
theorem foldY_one {ε σ : Type} (yv : ε → σ → Option (Bool × σ)) (x : ε) (s : σ) : foldY yv [x] s = yv x s := by
  show (yv x s).bind (fun r => bif r.1 then some (true, r.2) else some (false, r.2)) = _
  cases yv x s with
  | none => rfl
  | some r => obtain ⟨b, s2⟩ := r; cases b <;> rfl
/-- no early end -/
theorem foldY_all {ε σ : Type} (bd : ε → σ → Option (Bool × Nat × σ)) (g : σ → ε → σ) : ∀ (L : List ε), (∀ x ∈ L, ∀ z, bd x z = some (true, 0, g z x)) → ∀ z, foldY (yvOf bd) L (0, z) = some (true, 0, L.foldl g z)
  | [], _, z => rfl
  | x :: L, h, z => by
    show (bd x z).bind (fun r => bif r.1 then foldY (yvOf bd) L r.2 else some (false, r.2)) = _
    rw [h x (List.mem_cons_self ..) z]
    exact foldY_all bd g L (fun x hx => h x (List.mem_cons_of_mem _ hx)) _
/-- an end at the first that is meant -/
theorem foldY_find {ε σ : Type} (bd : ε → σ → Option (Bool × Nat × σ)) (p : ε → Bool) (s0 s1 : σ) : ∀ (L : List ε), (∀ x ∈ L, bd x s0 = some (bif p x then (false, 1, s1) else (true, 0, s0))) → foldY (yvOf bd) L (0, s0) = some (bif L.any p then (false, 1, s1) else (true, 0, s0))
  | [], _ => rfl
  | x :: L, h => by
    show (bd x s0).bind (fun r => bif r.1 then foldY (yvOf bd) L r.2 else some (false, r.2)) = _
    rw [h x (List.mem_cons_self ..), List.any_cons]
    cases hp : p x with
    | true => rfl
    | false => exact foldY_find bd p s0 s1 L fun x hx => h x (List.mem_cons_of_mem _ hx)
/-- the numbers of a span -/
def rng (s : Span) : List Int := (List.range' 0 (s.High - s.Low + 1).toNat).map fun (k : Nat) => s.Low + k
theorem rng_mem {s : Span} {n : Int} : n ∈ rng s ↔ s.Low ≤ n ∧ n ≤ s.High := by
  unfold rng
  simp only [List.mem_map, List.mem_range'_1]
  constructor
  · rintro ⟨k, hk, rfl⟩; omega
  · rintro ⟨h1, h2⟩; exact ⟨(n - s.Low).toNat, by omega, by omega⟩
structure Sp (s : Span) : Prop where
  l0 : 0 ≤ s.Low
  lh : s.Low ≤ s.High
  hi : s.High ≤ 1000
theorem sp_of {s : Span} {hi wide : Int} (h : spB s hi wide = true) (hh : hi ≤ 1000) : Sp s := by
  unfold spB at h
  simp only [Bool.and_eq_true, decide_eq_true_eq] at h
  exact ⟨h.1.1.1, h.1.1.2, by omega⟩
theorem all_eq {σ : Type} (s : Span) (S : Sp s) (yv : Int → σ → Option (Bool × σ)) (z : σ) : coal_all_1 z s yv = (foldY yv (rng s) z).map (·.2) := by
  have h1 := S.l0; have h2 := S.lh; have h3 := S.hi
  have key : ∀ (d k m : Nat) (z : σ), k + d = (s.High - s.Low + 1).toNat → d < m → loopF (coal_all_1_l1 s yv) m ((k : Int), z) = (foldY yv ((List.range' k d).map fun (k : Nat) => s.Low + k) z).map (·.2) := by
    intro d
    induction d with
    | zero =>
      intro k m z h4 h5
      obtain ⟨m, rfl⟩ : ∃ q, m = q + 1 := ⟨m - 1, by omega⟩
      show coal_all_1_l1 s yv (loopF (coal_all_1_l1 s yv) m) ((k : Int), z) = _
      unfold coal_all_1_l1
      simp only
      rw [wrI (x := s.High - s.Low) (by omega) (by omega), wrI (x := s.High - s.Low + 1) (by omega) (by omega), decide_eq_false (by omega), cond_false]
      rfl
    | succ d ih =>
      intro k m z h4 h5
      obtain ⟨m, rfl⟩ : ∃ q, m = q + 1 := ⟨m - 1, by omega⟩
      suffices H : ∀ rec : (Int × σ) → Option σ, (∀ z2, rec (((k + 1 : Nat) : Int), z2) = (foldY yv ((List.range' (k + 1) d).map fun (k : Nat) => s.Low + k) z2).map (·.2)) → coal_all_1_l1 s yv rec ((k : Int), z) = (foldY yv ((List.range' k (d + 1)).map fun (k : Nat) => s.Low + k) z).map (·.2) from H _ fun z2 => ih (k + 1) m z2 (by omega) (by omega)
      intro rec hrec
      rw [List.range'_succ, List.map_cons]
      show _ = Option.map _ ((yv (s.Low + (k : Int)) z).bind fun r => bif r.1 then foldY yv _ r.2 else some (false, r.2))
      unfold coal_all_1_l1
      simp only
      rw [wrI (x := s.High - s.Low) (by omega) (by omega), wrI (x := s.High - s.Low + 1) (by omega) (by omega), decide_eq_true (by omega), cond_true, wrI (x := s.Low + k) (by omega) (by omega)]
      cases yv (s.Low + (k : Int)) z with
      | none => rfl
      | some r =>
        obtain ⟨b, z2⟩ := r
        cases b with
        | false => rfl
        | true =>
          show rec (Fx.wr ((k : Int) + 1), z2) = Option.map _ (foldY yv _ z2)
          rw [wrI (by omega) (by omega), show (k : Int) + 1 = ((k + 1 : Nat) : Int) by omega]
          exact hrec z2
  exact key (s.High - s.Low + 1).toNat 0 big z (by omega) (by rw [big_eq]; omega)
/-- a range over the numbers of a span whose body is a range -/
theorem all_nest {δ σ : Type} (s : Span) (S : Sp s) (yv : δ → σ → Option (Bool × σ)) (f : Int → List δ) (bd : Int → σ → Option (Bool × Nat × σ)) (hb : ∀ x ∈ rng s, ∀ z, bd x z = (foldY yv (f x) z).map codeOf) (z : σ) :
    coal_all_1 (0, z) s (yvOf bd) = (foldY yv ((rng s).flatMap f) z).map fun r => (bif r.1 then 0 else 1, r.2) := by
  rw [all_eq s S, foldY_nest yv f bd _ hb, Option.map_map]; rfl
/-! the measures of a day -/
def rightB (q : Coal_book) (day n : Int) : Bool := q.CoalBook.Dips.all fun x => !(x.Day == day) || inB (n - x.Read) (-x.Error) x.Error
/-- what a book in the calculation is like -/
structure Op (q : Coal_book) : Prop where
  hp : Sp q.CoalBook.Heap
  co : Sp q.CoalBook.Collier
  el : q.CoalBook.Eats.length = 2
  ea : ∀ s ∈ q.CoalBook.Eats, Sp s ∧ s.High ≤ 9
  dn : q.CoalBook.Days.length ≤ 6
  da : ∀ x ∈ q.CoalBook.Days, 0 ≤ x.Crosses ∧ x.Crosses ≤ 9
  br : 0 ≤ q.CoalBook.Brings ∧ q.CoalBook.Brings ≤ 400
  pn : q.CoalBook.Dips.length ≤ 10
  di : ∀ x ∈ q.CoalBook.Dips, 0 ≤ x.Read ∧ x.Read ≤ 2000 ∧ 0 ≤ x.Error ∧ x.Error ≤ 9
  cs : ∀ p ∈ q.costs_, 0 ≤ p.2 ∧ p.2 ≤ 81
theorem right_eq (q : Coal_book) (Q : Op q) (day n : Int) (h1 : -100000 ≤ n) (h2 : n ≤ 100000) : coal_book_right q day n = some (rightB q day n) := by
  have hn := Q.pn
  have key : ∀ (d k m : Nat), k + d = q.CoalBook.Dips.length → d < m → loopF (coal_book_right_l1 q day n) m (k : Int) = some ((q.CoalBook.Dips.drop k).all fun x => !(x.Day == day) || inB (n - x.Read) (-x.Error) x.Error) := by
    intro d
    induction d with
    | zero =>
      intro k m h4 h5
      obtain ⟨m, rfl⟩ : ∃ q, m = q + 1 := ⟨m - 1, by omega⟩
      show coal_book_right_l1 q day n (loopF (coal_book_right_l1 q day n) m) (k : Int) = _
      unfold coal_book_right_l1
      rw [decide_eq_false (by omega), cond_false, List.drop_eq_nil_of_le (by omega)]
      rfl
    | succ d ih =>
      intro k m h4 h5
      obtain ⟨m, rfl⟩ : ∃ q, m = q + 1 := ⟨m - 1, by omega⟩
      suffices H : ∀ rec : Int → Option Bool, rec ((k + 1 : Nat) : Int) = some ((q.CoalBook.Dips.drop (k + 1)).all fun x => !(x.Day == day) || inB (n - x.Read) (-x.Error) x.Error) → coal_book_right_l1 q day n rec (k : Int) = some ((q.CoalBook.Dips.drop k).all fun x => !(x.Day == day) || inB (n - x.Read) (-x.Error) x.Error) from H _ (ih (k + 1) m (by omega) (by omega))
      intro rec hrec
      have hk : k < q.CoalBook.Dips.length := by omega
      obtain ⟨g1, g2, g3, g4⟩ := Q.di _ (List.getElem_mem hk)
      unfold coal_book_right_l1
      rw [decide_eq_true (by omega), cond_true, getI_ix hk, Option.bind_some, List.drop_eq_getElem_cons hk, List.all_cons, wrI (x := n - _) (by omega) (by omega), wrI (x := -_) (by omega) (by omega), within_eq, Option.bind_some, wrI (x := (k : Int) + 1) (by omega) (by omega), show (k : Int) + 1 = ((k + 1 : Nat) : Int) by omega, hrec]
      cases (q.CoalBook.Dips[k].Day == day) <;> cases inB (n - q.CoalBook.Dips[k].Read) (-q.CoalBook.Dips[k].Error) q.CoalBook.Dips[k].Error <;> rfl
  have := key q.CoalBook.Dips.length 0 big (by omega) (by rw [big_eq]; omega)
  exact this
/-! what engines eat -/
def eng (q : Coal_book) (day : Int) (e : List Int) : Int :=
  match q.CoalBook.Days[day.toNat]? with
  | none => 0
  | some x => (bif (andI (shrI x.Engines 0) 1) == 1 then e.getD 0 0 * x.Crosses else 0) + (bif (andI (shrI x.Engines 1) 1) == 1 then e.getD 1 0 * x.Crosses else 0)
theorem sum_bd : ∀ (l : List Int), (∀ x ∈ l, 0 ≤ x ∧ x ≤ 81) → 0 ≤ l.sum ∧ l.sum ≤ 81 * (l.length : Int)
  | [], _ => by simp
  | a :: l, h => by
    have h1 := h a (List.mem_cons_self ..)
    have h2 := sum_bd l fun x hx => h x (List.mem_cons_of_mem _ hx)
    simp only [List.sum_cons, List.length_cons]
    omega
theorem sum_eq (l : List Int) (hl : l.length ≤ 2) (hb : ∀ x ∈ l, 0 ≤ x ∧ x ≤ 81) : coal_sum_int l = some l.sum := by
  unfold coal_sum_int
  refine loop_fold0 (fun k => ((l.take k).sum, (k : Int))) l.length (fun rec k hk => ?_) (fun rec => ?_) (by rw [big_eq]; omega) rfl
  · unfold coal_sum_int_l1
    simp only
    have h1 := sum_bd (l.take k) fun x hx => hb x (List.mem_of_mem_take hx)
    have h2 := hb _ (List.getElem_mem hk)
    have h3 : (l.take k).length ≤ 2 := by rw [List.length_take]; omega
    rw [decide_eq_true (by omega), cond_true, getI_ix hk, Option.bind_some, wrI (by omega) (by omega), wrI (by omega) (by omega), ← List.take_append_getElem hk, List.sum_append]
    simp
  · unfold coal_sum_int_l1
    simp only
    rw [decide_eq_false (by omega), cond_false, List.take_length]
theorem engines_eq (q : Coal_book) (Q : Op q) (d : Nat) (hd : d < q.CoalBook.Days.length) (e : List Int) (he : e.length = 2) (hb : ∀ x ∈ e, 0 ≤ x ∧ x ≤ 9) : coal_book_engines q d e = some (eng q d e) ∧ 0 ≤ eng q d e ∧ eng q d e ≤ 162 := by
  have hx := Q.da _ (List.getElem_mem hd)
  match e, he with
  | [a, b], _ =>
    have ha := hb a (by simp); have hb' := hb b (by simp)
    have eE : eng q d [a, b] = (bif (andI (shrI q.CoalBook.Days[d].Engines 0) 1) == 1 then a * q.CoalBook.Days[d].Crosses else 0) + (bif (andI (shrI q.CoalBook.Days[d].Engines 1) 1) == 1 then b * q.CoalBook.Days[d].Crosses else 0) := by
      unfold eng
      rw [show ((d : Int)).toNat = d from rfl, List.getElem?_eq_getElem hd]; rfl
    generalize hX : q.CoalBook.Days[d] = X at *
    have m1 : 0 ≤ a * X.Crosses := Int.mul_nonneg ha.1 hx.1
    have m2 : 0 ≤ b * X.Crosses := Int.mul_nonneg hb'.1 hx.1
    have m3 : a * X.Crosses ≤ 9 * 9 := Int.mul_le_mul ha.2 hx.2 hx.1 (by omega)
    have m4 : b * X.Crosses ≤ 9 * 9 := Int.mul_le_mul hb'.2 hx.2 hx.1 (by omega)
    have hg : getI q.CoalBook.Days (d : Int) = some X := by rw [getI_ix hd, hX]
    refine ⟨?_, ?_⟩
    · rw [eE]
      unfold coal_book_engines coal_nothing
      rw [Option.bind_some]
      by_cases hz : sgl [a, b] 2 = sgl (List.replicate 2 0) 2
      · rw [decide_eq_true hz, cond_true]
        have : a = 0 ∧ b = 0 := by simpa [sgl, List.range_succ] using hz
        obtain ⟨rfl, rfl⟩ := this
        simp
      · rw [decide_eq_false hz, cond_false]
        generalize hp0 : (andI (shrI X.Engines 0) 1 == 1) = c0
        generalize hp1 : (andI (shrI X.Engines 1) 1 == 1) = c1
        have w1 : wr (a * X.Crosses) = a * X.Crosses := wrI (by omega) (by omega)
        have w2 : wr (b * X.Crosses) = b * X.Crosses := wrI (by omega) (by omega)
        refine loop_fold0 (fun k => ((bif decide (1 ≤ k) && c0 then [a * X.Crosses] else []) ++ (bif decide (2 ≤ k) && c1 then [b * X.Crosses] else []), (k : Int))) 2 (fun rec k hk => ?_) (fun rec => ?_) (by rw [big_eq]; omega) rfl
        · unfold coal_book_engines_l1
          match k, hk with
          | 0, _ =>
            simp only [show decide (((0 : Nat) : Int) < 2) = true by decide, cond_true, hg, Option.bind_some, show inI ((0 : Nat) : Int) 2 = true by decide, need_true, show decide ((0 : Int) ≤ ((0 : Nat) : Int)) = true by decide, show aget [a, b] ((0 : Nat) : Int) = a from rfl, w1]
            rw [show ((0 : Nat) : Int) = 0 from rfl, hp0]
            cases c0 with
            | true => rw [cond_true, need_of (by simp [fitsL])]; rfl
            | false => rfl
          | 1, _ =>
            simp only [show decide (((1 : Nat) : Int) < 2) = true by decide, cond_true, hg, Option.bind_some, show inI ((1 : Nat) : Int) 2 = true by decide, need_true, show decide ((0 : Int) ≤ ((1 : Nat) : Int)) = true by decide, show aget [a, b] ((1 : Nat) : Int) = b from rfl, w2]
            rw [show ((1 : Nat) : Int) = 1 from rfl, hp1]
            cases c1 with
            | true => cases c0 <;> (rw [cond_true, need_of (by simp [fitsL])]; rfl)
            | false => cases c0 <;> rfl
        · unfold coal_book_engines_l1
          simp only [show decide (((2 : Nat) : Int) < 2) = false by decide, cond_false, show decide (1 ≤ 2) = true by decide, show decide (2 ≤ 2) = true by decide, Bool.true_and]
          rw [sum_eq _ (by cases c0 <;> cases c1 <;> simp) (fun x hx => by cases c0 <;> cases c1 <;> simp at hx <;> omega)]
          cases c0 <;> cases c1 <;> simp
    · rw [eE]
      cases (andI (shrI X.Engines 0) 1 == 1) <;> cases (andI (shrI X.Engines 1) 1 == 1) <;> simp only [cond_true, cond_false] <;> omega
end Go.Proofs.YticodohfokgjfaaDoor

set_option linter.unusedVariables false
set_option linter.unusedSimpArgs false
namespace Go.Proofs.YticodohfokgjfaaDoor
open Go Go.Fx
/-- all truths that begin with some days of one -/
def blown (q : Coal_book) : Nat → Coal_truth → Int → Int → List Coal_truth
  | 0, t, _, _ => [t]
  | r + 1, t, d, c => (List.range' 0 3).flatMap fun (w : Nat) => optL (lookL q.costs_ (Coal_gust.mk d (w : Int))) fun cost =>
      bif rightB q d ((bif t.collier_ == d then c + q.CoalBook.Brings else c) - eng q d t.eats_ - cost) then
        blown q r (Coal_truth.mk t.eats_ t.collier_ (aset t.winds_ 6 d (w : Int)) (aset t.coal_ 6 d ((bif t.collier_ == d then c + q.CoalBook.Brings else c) - eng q d t.eats_ - cost))) (d + 1) ((bif t.collier_ == d then c + q.CoalBook.Brings else c) - eng q d t.eats_ - cost)
      else []
where optL {α β : Type} (o : Option α) (f : α → List β) : List β := match o with | none => [] | some a => f a
theorem aset_aset {l : List Int} {n : Nat} {i x y : Int} : aset (aset l n i x) n i y = aset l n i y := by
  unfold aset
  refine List.map_congr_left fun k hk => ?_
  have hk := List.mem_range.1 hk
  by_cases h : k = i.toNat
  · simp [h]
  · simp [h, List.getD_eq_getElem?_getD, hk]
theorem look_mem {q : Coal_book} {g : Coal_gust} {c : Int} (h : lookL q.costs_ g = some c) : ∃ p ∈ q.costs_, p.2 = c := by
  unfold lookL at h
  obtain ⟨p, hp, rfl⟩ := Option.map_eq_some_iff.1 h
  exact ⟨p, List.mem_of_find?_eq_some hp, rfl⟩
theorem blown_eq (q : Coal_book) (Q : Op q) {σ : Type} (yv : Coal_truth → σ → Option (Bool × σ)) : ∀ (r : Nat) (t : Coal_truth) (d : Nat) (c : Int) (s : σ) (n : Nat), d + r = q.CoalBook.Days.length → r < n → -(1000 * ((d : Int) + 1)) ≤ c → c ≤ 1000 * ((d : Int) + 1) → t.eats_.length = 2 → (∀ x ∈ t.eats_, 0 ≤ x ∧ x ≤ 9) →
    coal_book_blown_1_1 n t d c s q q yv = foldY yv (blown q r t d c) s := by
  have hdn := Q.dn; have hbr := Q.br
  intro r
  induction r with
  | zero =>
    intro t d c s n h1 h2 h3 h4 h5 h6
    obtain ⟨n, rfl⟩ : ∃ m, n = m + 1 := ⟨n - 1, by omega⟩
    show coal_book_blown_1_1_F _ t d c s q q yv = foldY yv [t] s
    rw [foldY_one]
    unfold coal_book_blown_1_1_F
    rw [show ((d : Int) == (q.CoalBook.Days.length : Int)) = true by rw [beq_iff_eq]; omega, cond_true]
    cases yv t s <;> rfl
  | succ r ih =>
    intro t d c s n h1 h2 h3 h4 h5 h6
    obtain ⟨n, rfl⟩ : ∃ m, n = m + 1 := ⟨n - 1, by omega⟩
    show coal_book_blown_1_1_F _ t d c s q q yv = _
    obtain ⟨e1, e2, e3⟩ := engines_eq q Q d (by omega) t.eats_ h5 h6
    have j6 : ∀ z : Int, -(1000 * ((d : Int) + 1)) ≤ z → z ≤ 1000 * ((d : Int) + 1) + 400 → z = (bif t.collier_ == (d : Int) then c + q.CoalBook.Brings else c) → coal_book_blown_1_1_j6 q d t q (fun x0 x1 x2 x3 => coal_book_blown_1_1 n x0 x1 x2 x3 q q yv) s z = foldY yv (blown q (r + 1) t d c) s := by
      intro z z1 z2 hz
      unfold coal_book_blown_1_1_j6
      rw [e1, Option.bind_some, blown, ← hz]
      have key : ∀ (e k m : Nat) (W C : List Int) (s : σ), k + e = 3 → e < m → (∀ x, aset W 6 d x = aset t.winds_ 6 d x) → (∀ x, aset C 6 d x = aset t.coal_ 6 d x) →
          loopF (coal_book_blown_1_1_l5 q d q z (eng q d t.eats_) (fun x0 x1 x2 x3 => coal_book_blown_1_1 n x0 x1 x2 x3 q q yv) t) m ((k : Int), W, C, s) = foldY yv ((List.range' k e).flatMap fun (w : Nat) => blown.optL (lookL q.costs_ (Coal_gust.mk d (w : Int))) fun cost =>
            bif rightB q d (z - eng q d t.eats_ - cost) then blown q r (Coal_truth.mk t.eats_ t.collier_ (aset t.winds_ 6 d (w : Int)) (aset t.coal_ 6 d (z - eng q d t.eats_ - cost))) (d + 1) (z - eng q d t.eats_ - cost) else []) s := by
        intro e
        induction e with
        | zero =>
          intro k m W C s h7 h8 hW hC
          obtain ⟨m, rfl⟩ : ∃ q, m = q + 1 := ⟨m - 1, by omega⟩
          show coal_book_blown_1_1_l5 q d q z _ _ t _ ((k : Int), W, C, s) = _
          unfold coal_book_blown_1_1_l5
          simp only
          rw [decide_eq_false (by omega), cond_false]
          rfl
        | succ e ih2 =>
          intro k m W C s h7 h8 hW hC
          obtain ⟨m, rfl⟩ : ∃ q, m = q + 1 := ⟨m - 1, by omega⟩
          show coal_book_blown_1_1_l5 q d q z _ _ t (loopF _ m) ((k : Int), W, C, s) = _
          have ih3 := fun W C s => ih2 (k + 1) m W C s (by omega) (by omega)
          generalize loopF (coal_book_blown_1_1_l5 q d q z (eng q d t.eats_) (fun x0 x1 x2 x3 => coal_book_blown_1_1 n x0 x1 x2 x3 q q yv) t) m = rec at ih3
          rw [List.range'_succ, List.flatMap_cons, foldY_app]
          have w0 : wr ((k : Int) + 1) = ((k + 1 : Nat) : Int) := by rw [wrI (by omega) (by omega)]; omega
          unfold coal_book_blown_1_1_l5
          simp only
          rw [decide_eq_true (by omega), cond_true]
          cases hl : lookL q.costs_ (Coal_gust.mk d (k : Int)) with
          | none =>
            simp only [optC, blown.optL]
            unfold coal_book_blown_1_1_j4
            simp only [Bool.not_false, cond_true]
            rw [w0, ih3 W C s hW hC]
            rfl
          | some cost =>
            obtain ⟨p, hp, rfl⟩ := look_mem hl
            obtain ⟨p1, p2⟩ := Q.cs p hp
            simp only [optC, blown.optL]
            unfold coal_book_blown_1_1_j4
            simp only [Bool.not_true, cond_false]
            rw [wrI (x := z - eng q d t.eats_) (by omega) (by omega), wrI (x := z - eng q d t.eats_ - p.2) (by omega) (by omega), right_eq q Q d _ (by omega) (by omega), Option.bind_some]
            cases hr : rightB q d (z - eng q d t.eats_ - p.2) with
            | false =>
              simp only [Bool.not_false, cond_true, cond_false]
              rw [w0, ih3 W C s hW hC]
              rfl
            | true =>
              simp only [Bool.not_true, cond_true, cond_false]
              rw [need_of (by simp [inI]; omega), need_of (by simp [inI]; omega), hW, hC, show wr ((d : Int) + 1) = ((d + 1 : Nat) : Int) by rw [wrI (by omega) (by omega)]; omega]
              rw [ih (Coal_truth.mk t.eats_ t.collier_ (aset t.winds_ 6 d (k : Int)) (aset t.coal_ 6 d (z - eng q d t.eats_ - p.2))) (d + 1) (z - eng q d t.eats_ - p.2) s n (by omega) (by omega) (by omega) (by omega) h5 h6, show ((d + 1 : Nat) : Int) = (d : Int) + 1 by omega]
              cases foldY yv (blown q r _ ((d : Int) + 1) _) s with
              | none => rfl
              | some x =>
                obtain ⟨b, s2⟩ := x
                cases b with
                | false => rfl
                | true =>
                  show rec (wr ((k : Int) + 1), _, _, s2) = foldY yv _ s2
                  exact (congrArg (fun x => rec (x, _, _, s2)) w0).trans (ih3 _ _ s2 (fun x => aset_aset) (fun x => aset_aset))
      exact key 3 0 big _ _ s (by omega) (by rw [big_eq]; omega) (fun _ => rfl) (fun _ => rfl)
    unfold coal_book_blown_1_1_F
    rw [show ((d : Int) == (q.CoalBook.Days.length : Int)) = false by rw [beq_eq_false_iff_ne]; omega, cond_false]
    cases hc : (t.collier_ == (d : Int)) with
    | true =>
      rw [cond_true, wrI (by omega) (by omega)]
      exact j6 _ (by omega) (by omega) (by rw [hc]; rfl)
    | false =>
      rw [cond_false]
      exact j6 _ (by omega) (by omega) (by rw [hc]; rfl)
def init (o p c : Int) : Coal_truth := Coal_truth.mk [o, p] c (List.replicate 6 0) (List.replicate 6 0)
/-- all truths -/
def truths (q : Coal_book) : List Coal_truth :=
  (rng q.CoalBook.Heap).flatMap fun h => (rng (agetS q.CoalBook.Eats (0 : Int))).flatMap fun o => (rng (agetS q.CoalBook.Eats (1 : Int))).flatMap fun p => (rng q.CoalBook.Collier).flatMap fun c => blown q q.CoalBook.Days.length (init o p c) 0 h
theorem truth_mem {q : Coal_book} {t : Coal_truth} : t ∈ truths q ↔ ∃ h ∈ rng q.CoalBook.Heap, ∃ o ∈ rng (agetS q.CoalBook.Eats (0 : Int)), ∃ p ∈ rng (agetS q.CoalBook.Eats (1 : Int)), ∃ c ∈ rng q.CoalBook.Collier, t ∈ blown q q.CoalBook.Days.length (init o p c) 0 h := by
  simp only [truths, List.mem_flatMap]
theorem tail_eq {σ : Type} (x : Option (Bool × σ)) : (x.map fun r => ((bif r.1 then 0 else 1 : Nat), r.2)).bind (fun r => bif (r.1 == 0) then some (true, 0, r.2) else some (false, 1, r.2)) = x.map codeOf := by
  cases x with
  | none => rfl
  | some r => obtain ⟨b, s⟩ := r; cases b <;> rfl
theorem agetS_mem {l : List Span} {i : Int} (h : i.toNat < l.length) : agetS l i ∈ l := by
  unfold agetS
  rw [List.getD_eq_getElem?_getD, List.getElem?_eq_getElem h]
  exact List.getElem_mem _
theorem truths_eq (q : Coal_book) (Q : Op q) {σ : Type} (yv : Coal_truth → σ → Option (Bool × σ)) (z : σ) : coal_book_truths_1 z q yv = (foldY yv (truths q) z).map (·.2) := by
  have he0 := Q.ea _ (agetS_mem (i := 0) (by rw [Q.el]; decide))
  have he1 := Q.ea _ (agetS_mem (i := 1) (by rw [Q.el]; decide))
  have q1 : ∀ (o p : Int), 0 ≤ o → o ≤ 9 → 0 ≤ p → p ≤ 9 → ∀ h ∈ rng q.CoalBook.Heap, ∀ c z, coal_book_truths_1_r118 q o p h yv c z = (foldY yv (blown q q.CoalBook.Days.length (init o p c) 0 h) z).map codeOf := by
    intro o p o1 o2 p1 p2 h hh c z
    have hh := rng_mem.1 hh
    have := Q.hp.l0; have := Q.hp.hi
    unfold coal_book_truths_1_r118 coal_book_blown coal_book_blown_1
    rw [Option.bind_some]
    rw [show Coal_truth.mk [o, p] c (List.replicate 6 0) (List.replicate 6 0) = init o p c from rfl]
    have := blown_eq q Q (yvOf (coal_book_truths_1_r117 yv)) q.CoalBook.Days.length (init o p c) 0 h (0, z) big (by omega) (by have := Q.dn; rw [big_eq]; omega) (by omega) (by omega) rfl (fun x hx => by
      simp [init] at hx
      rcases hx with rfl | rfl <;> omega)
    rw [show coal_book_blown_1_1 big (init o p c) 0 h (0, z) q q (yvOf (coal_book_truths_1_r117 yv)) = _ from this]
    rw [foldY_nest yv (fun x => [x]) (coal_book_truths_1_r117 yv) _ (fun x _ z => by
      rw [foldY_one]
      unfold coal_book_truths_1_r117
      cases yv x z with
      | none => rfl
      | some r => obtain ⟨b, s⟩ := r; cases b <;> rfl), show ∀ l : List Coal_truth, (l.flatMap fun x => [x]) = l from fun l => by induction l <;> simp_all]
    show _ = Option.map codeOf (foldY yv (blown q q.CoalBook.Days.length (init o p c) ((0 : Nat) : Int) h) z)
    cases foldY yv (blown q q.CoalBook.Days.length (init o p c) ((0 : Nat) : Int) h) z with
    | none => rfl
    | some r => obtain ⟨b, s⟩ := r; cases b <;> rfl
  have q2 : ∀ (o p : Int), 0 ≤ o → o ≤ 9 → 0 ≤ p → p ≤ 9 → ∀ h ∈ rng q.CoalBook.Heap, ∀ z, coal_book_truths_1_r119 q o h yv p z = (foldY yv ((rng q.CoalBook.Collier).flatMap fun c => blown q q.CoalBook.Days.length (init o p c) 0 h) z).map codeOf := by
    intro o p o1 o2 p1 p2 h hh z
    unfold coal_book_truths_1_r119 coal_all
    rw [Option.bind_some, all_nest _ Q.co yv _ _ (fun x hx z => q1 o p o1 o2 p1 p2 h hh x z), tail_eq]
  have q3 : ∀ (o : Int), 0 ≤ o → o ≤ 9 → ∀ h ∈ rng q.CoalBook.Heap, ∀ z, coal_book_truths_1_r120 q h yv o z = (foldY yv ((rng (agetS q.CoalBook.Eats (1 : Int))).flatMap fun p => (rng q.CoalBook.Collier).flatMap fun c => blown q q.CoalBook.Days.length (init o p c) 0 h) z).map codeOf := by
    intro o o1 o2 h hh z
    unfold coal_book_truths_1_r120 coal_all
    rw [Option.bind_some, all_nest _ he1.1 yv _ _ (fun x hx z => q2 o x o1 o2 (by have := rng_mem.1 hx; have := he1.1.l0; omega) (by have := rng_mem.1 hx; have := he1.2; omega) h hh z), tail_eq]
  have q4 : ∀ h ∈ rng q.CoalBook.Heap, ∀ z, coal_book_truths_1_r121 q yv h z = (foldY yv ((rng (agetS q.CoalBook.Eats (0 : Int))).flatMap fun o => (rng (agetS q.CoalBook.Eats (1 : Int))).flatMap fun p => (rng q.CoalBook.Collier).flatMap fun c => blown q q.CoalBook.Days.length (init o p c) 0 h) z).map codeOf := by
    intro h hh z
    unfold coal_book_truths_1_r121 coal_all
    rw [Option.bind_some, all_nest _ he0.1 yv _ _ (fun x hx z => q3 x (by have := rng_mem.1 hx; have := he0.1.l0; omega) (by have := rng_mem.1 hx; have := he0.2; omega) h hh z), tail_eq]
  unfold coal_book_truths_1 coal_all
  rw [Option.bind_some, all_nest _ Q.hp yv _ _ q4]
  show _ = Option.map _ (foldY yv (truths q) z)
  unfold truths
  cases foldY yv _ z with
  | none => rfl
  | some r => obtain ⟨b, s⟩ := r; cases b <;> rfl
end Go.Proofs.YticodohfokgjfaaDoor

set_option linter.unusedVariables false
set_option linter.unusedSimpArgs false
namespace Go.Proofs.YticodohfokgjfaaDoor
open Go Go.Fx
def keepD (l : List CoalDip) (but : List Int) : Nat → List CoalDip
  | 0 => []
  | k + 1 => bif but.contains (k : Int) then keepD l but k else keepD l but k ++ (l[k]?).toList
def costW (x : CoalDay) (ex : List Int) (d : Int) (m : List (Coal_gust × Int)) : Nat → List (Coal_gust × Int)
  | 0 => m
  | k + 1 => bif (andI (shrI x.Winds (k : Int)) 1) == 1 then putL (costW x ex d m k) (Coal_gust.mk d (k : Int)) (wr (x.Crosses * aget ex (k : Int))) else costW x ex d m k
def costD (ds : List CoalDay) (ex : List Int) : Nat → List (Coal_gust × Int)
  | 0 => []
  | k + 1 => match ds[k]? with | some x => costW x ex (k : Int) (costD ds ex k) 3 | none => costD ds ex k
def opn (b : CoalBook) (but : List Int) : Coal_book := Coal_book.mk (CoalBook.mk b.Heap b.Eats b.Extra b.Days b.Collier b.Brings (keepD b.Dips but b.Dips.length)) (costD b.Days b.Extra b.Days.length)
theorem keepD_len (l : List CoalDip) (but : List Int) : ∀ k, (keepD l but k).length ≤ k
  | 0 => Nat.le_refl 0
  | k + 1 => by
    have := keepD_len l but k
    unfold keepD
    cases but.contains (k : Int) with
    | true => rw [cond_true]; omega
    | false =>
      rw [cond_false, List.length_append]
      have : (l[k]?).toList.length ≤ 1 := by cases l[k]? <;> simp
      omega
theorem keepD_mem {l : List CoalDip} {but : List Int} {x : CoalDip} : ∀ {k}, x ∈ keepD l but k → x ∈ l
  | 0, h => by cases h
  | k + 1, h => by
    unfold keepD at h
    cases hc : but.contains (k : Int) with
    | true => rw [hc, cond_true] at h; exact keepD_mem h
    | false =>
      rw [hc, cond_false] at h
      rcases List.mem_append.1 h with h | h
      · exact keepD_mem h
      · cases hk : l[k]? with
        | none => rw [hk] at h; cases h
        | some y =>
          rw [hk] at h
          obtain rfl := List.mem_singleton.1 h
          exact List.mem_of_getElem? hk
theorem putL_mem {m : List (Coal_gust × Int)} {g : Coal_gust} {v : Int} {x : Coal_gust × Int} (h : x ∈ putL m g v) : x = (g, v) ∨ x ∈ m := by
  unfold putL at h
  split at h
  · rcases List.mem_or_eq_of_mem_set h with h | h
    · exact .inr h
    · exact .inl h
  · rcases List.mem_append.1 h with h | h
    · exact .inr h
    · exact .inl (List.mem_singleton.1 h)
theorem costW_bd {x : CoalDay} {ex : List Int} {d : Int} {m : List (Coal_gust × Int)} (hx : 0 ≤ x.Crosses ∧ x.Crosses ≤ 9) (he : ∀ y ∈ ex, 0 ≤ y ∧ y ≤ 9) (hm : ∀ p ∈ m, 0 ≤ p.2 ∧ p.2 ≤ 81) : ∀ k, ∀ p ∈ costW x ex d m k, 0 ≤ p.2 ∧ p.2 ≤ 81
  | 0 => hm
  | k + 1 => by
    intro p hp
    unfold costW at hp
    cases hc : (andI (shrI x.Winds (k : Int)) 1) == 1 with
    | false => rw [hc, cond_false] at hp; exact costW_bd hx he hm k p hp
    | true =>
      rw [hc, cond_true] at hp
      rcases putL_mem hp with rfl | hp
      · have h1 : 0 ≤ aget ex (k : Int) ∧ aget ex (k : Int) ≤ 9 := by
          unfold aget
          rw [List.getD_eq_getElem?_getD]
          cases hk : ex[((k : Int)).toNat]? with
          | none => simp
          | some y => exact he y (List.mem_of_getElem? hk)
        have m1 : 0 ≤ x.Crosses * aget ex (k : Int) := Int.mul_nonneg hx.1 h1.1
        have m3 : x.Crosses * aget ex (k : Int) ≤ 9 * 9 := Int.mul_le_mul hx.2 h1.2 h1.1 (by omega)
        simp only
        rw [wrI (by omega) (by omega)]
        omega
      · exact costW_bd hx he hm k p hp
theorem costD_bd {ds : List CoalDay} {ex : List Int} (hd : ∀ x ∈ ds, 0 ≤ x.Crosses ∧ x.Crosses ≤ 9) (he : ∀ y ∈ ex, 0 ≤ y ∧ y ≤ 9) : ∀ k, ∀ p ∈ costD ds ex k, 0 ≤ p.2 ∧ p.2 ≤ 81
  | 0 => fun p h => by cases h
  | k + 1 => by
    unfold costD
    cases hk : ds[k]? with
    | none => exact costD_bd hd he k
    | some x => exact costW_bd (hd x (List.mem_of_getElem? hk)) he (costD_bd hd he k) 3
theorem dayB_iff {x : CoalDay} (h : dayB x = true) : (0 ≤ x.Crosses ∧ x.Crosses ≤ 9) ∧ (1 ≤ x.Engines ∧ x.Engines ≤ 3) ∧ 1 ≤ x.Winds ∧ x.Winds ≤ 7 := by
  unfold dayB at h
  simp only [Bool.and_eq_true, inB_iff] at h
  exact ⟨h.1.1, h.1.2, h.2⟩
theorem dipB_iff {n : Nat} {x : CoalDip} (h : dipB n x = true) : (0 ≤ x.Day ∧ x.Day ≤ (n : Int) - 1) ∧ (0 ≤ x.Read ∧ x.Read ≤ 800) ∧ 0 ≤ x.Error ∧ x.Error ≤ 9 := by
  unfold dipB at h
  simp only [Bool.and_eq_true, inB_iff] at h
  exact ⟨h.1.1, h.1.2, h.2⟩
theorem opn_op {b : CoalBook} (V : Val b) (A : Arg b) (but : List Int) : Op (opn b but) where
  hp := sp_of V.hp (by omega)
  co := sp_of V.co (by have := V.dn; omega)
  el := A.el
  ea s hs := by
    have := V.ea s hs
    refine ⟨sp_of this (by omega), ?_⟩
    unfold spB at this
    simp only [Bool.and_eq_true, decide_eq_true_eq] at this
    exact this.1.2
  dn := V.dn.2
  da x hx := (dayB_iff (V.da x hx)).1
  br := V.br
  pn := by
    have h1 := keepD_len b.Dips but b.Dips.length
    have := V.pn
    show (keepD b.Dips but b.Dips.length).length ≤ 10
    omega
  di x hx := by
    obtain ⟨_, h1, h2⟩ := dipB_iff (V.di x (keepD_mem hx))
    omega
  cs := costD_bd (fun x hx => (dayB_iff (V.da x hx)).1) V.ex _
theorem index_eq (l : List Int) (a : Int) (hl : l.length ≤ 1000) : sl_Contains_int_int l a = some (l.contains a) := by
  have key : ∀ (d k m : Nat), k + d = l.length → d < m → ∃ j, loopF (sl_Index_int_int_l1 l a) m (k : Int) = some j ∧ decide (j ≥ 0) = (l.drop k).contains a := by
    intro d
    induction d with
    | zero =>
      intro k m h1 h2
      obtain ⟨m, rfl⟩ : ∃ q, m = q + 1 := ⟨m - 1, by omega⟩
      refine ⟨-1, ?_, by rw [List.drop_eq_nil_of_le (by omega)]; rfl⟩
      show sl_Index_int_int_l1 l a _ _ = _
      unfold sl_Index_int_int_l1
      rw [decide_eq_false (by omega), cond_false]
    | succ d ih =>
      intro k m h1 h2
      obtain ⟨m, rfl⟩ : ∃ q, m = q + 1 := ⟨m - 1, by omega⟩
      have hk : k < l.length := by omega
      obtain ⟨j, hj, hj2⟩ := ih (k + 1) m (by omega) (by omega)
      show ∃ j, sl_Index_int_int_l1 l a (loopF (sl_Index_int_int_l1 l a) m) _ = some j ∧ _
      generalize loopF (sl_Index_int_int_l1 l a) m = rec at hj
      unfold sl_Index_int_int_l1
      rw [decide_eq_true (by omega), cond_true, getI_ix hk, Option.bind_some, List.drop_eq_getElem_cons hk, List.contains_cons]
      cases hc : (a == l[k]) with
      | true => exact ⟨k, by rw [cond_true], by simp⟩
      | false =>
        refine ⟨j, ?_, by rw [hj2, Bool.false_or]⟩
        rw [cond_false, wrI (by omega) (by omega), show (k : Int) + 1 = ((k + 1 : Nat) : Int) by omega, hj]
  obtain ⟨j, hj, hj2⟩ := key l.length 0 big (by omega) (by rw [big_eq]; omega)
  unfold sl_Contains_int_int sl_Index_int_int
  rw [show loopF (sl_Index_int_int_l1 l a) big 0 = some j from hj, Option.bind_some, hj2]; rfl
theorem opened_eq {b : CoalBook} (V : Val b) (A : Arg b) (but : List Int) (hb : but.length ≤ 1000) : coal_opened b but = some (opn b but) := by
  have hp := V.pn; have hd := V.dn
  unfold coal_opened
  refine loop_fold0 (fun k => ((k : Int), keepD b.Dips but k)) b.Dips.length (fun rec k hk => ?_) (fun rec => ?_) (by rw [big_eq]; omega) rfl
  · unfold coal_opened_l29
    simp only
    rw [decide_eq_true (by omega), cond_true, getI_ix hk, Option.bind_some, index_eq _ _ hb, Option.bind_some, wrN hk (by omega), keepD, List.getElem?_eq_getElem hk]
    cases but.contains (k : Int) with
    | true => rfl
    | false =>
      simp only [Bool.not_false, cond_true, cond_false]
      rw [need_of (by have := keepD_len b.Dips but k; unfold fitsL; simp; omega)]
      rfl
  unfold coal_opened_l29
  simp only
  rw [decide_eq_false (by omega), cond_false]
  refine loop_fold0 (fun k => ((k : Int), costD b.Days b.Extra k)) b.Days.length (fun rec k hk => ?_) (fun rec => ?_) (by rw [big_eq]; omega) rfl
  · unfold coal_opened_l28
    simp only
    rw [decide_eq_true (by omega), cond_true, getI_ix hk, Option.bind_some, costD, List.getElem?_eq_getElem hk]
    refine loop_fold0 (fun j => ((j : Int), costW b.Days[k] b.Extra (k : Int) (costD b.Days b.Extra k) j)) 3 (fun rec' j hj => ?_) (fun rec' => ?_) (by rw [big_eq]; omega) rfl
    · unfold coal_opened_l27 coal_opened_j26
      simp only
      rw [decide_eq_true (by omega), cond_true, need_of (by simp [inI]; omega), show ((k : Int) == (-1)) = false by rw [beq_eq_false_iff_ne]; omega]
      simp only [Bool.false_and, Bool.not_false, cond_true]
      rw [need_of (by simp), wrN hj (by omega), costW]
      cases (andI (shrI b.Days[k].Winds (j : Int)) 1 == 1) <;> rfl
    · unfold coal_opened_l27
      simp only
      rw [decide_eq_false (by omega), cond_false, wrN hk (by omega)]
  · unfold coal_opened_l28
    simp only
    rw [decide_eq_false (by omega), cond_false]
    rfl
/-! questions to all truths -/
theorem isTrue_eq (q : Coal_book) (Q : Op q) : coal_book_isTrue q = some (!(truths q).isEmpty) := by
  unfold coal_book_isTrue coal_book_truths
  rw [Option.bind_some, truths_eq q Q, foldY_find coal_book_isTrue_r1 (fun _ => true) false true _ (fun x _ => rfl)]
  cases truths q <;> rfl
structure SpanOf (f : Coal_truth → Int) (L : List Coal_truth) (s : Span) : Prop where
  nil : L = [] → s = ⟨0, 0⟩
  low : L ≠ [] → ∃ t ∈ L, f t = s.Low
  high : L ≠ [] → ∃ t ∈ L, f t = s.High
  le : ∀ t ∈ L, s.Low ≤ f t
  ge : ∀ t ∈ L, f t ≤ s.High
def spanG (f : Coal_truth → Int) (z : Int × Int × Bool) (t : Coal_truth) : Int × Int × Bool :=
  bif z.2.2 then (f t, f t, false) else ((if f t < z.1 then f t else z.1), (if f t > z.2.1 then f t else z.2.1), false)
theorem spanG_fold (f : Coal_truth → Int) : ∀ (L : List Coal_truth) (lo hi : Int), ∃ lo' hi', L.foldl (spanG f) (lo, hi, false) = (lo', hi', false) ∧ (lo' = lo ∨ ∃ t ∈ L, f t = lo') ∧ (hi' = hi ∨ ∃ t ∈ L, f t = hi') ∧ lo' ≤ lo ∧ hi ≤ hi' ∧ ∀ t ∈ L, lo' ≤ f t ∧ f t ≤ hi'
  | [], lo, hi => ⟨lo, hi, rfl, .inl rfl, .inl rfl, Int.le_refl _, Int.le_refl _, fun t h => by cases h⟩
  | x :: L, lo, hi => by
    obtain ⟨lo', hi', h1, h2, h3, h4, h5, h6⟩ := spanG_fold f L (if f x < lo then f x else lo) (if f x > hi then f x else hi)
    refine ⟨lo', hi', h1, ?_, ?_, ?_, ?_, ?_⟩
    · rcases h2 with h2 | ⟨t, ht, h⟩
      · split at h2
        · exact .inr ⟨x, List.mem_cons_self .., h2.symm⟩
        · exact .inl h2
      · exact .inr ⟨t, List.mem_cons_of_mem _ ht, h⟩
    · rcases h3 with h3 | ⟨t, ht, h⟩
      · split at h3
        · exact .inr ⟨x, List.mem_cons_self .., h3.symm⟩
        · exact .inl h3
      · exact .inr ⟨t, List.mem_cons_of_mem _ ht, h⟩
    · split at h4 <;> omega
    · split at h5 <;> omega
    · intro t ht
      rcases List.mem_cons.1 ht with rfl | ht
      · constructor
        · split at h4 <;> omega
        · split at h5 <;> omega
      · exact h6 t ht
theorem span_ex (q : Coal_book) (Q : Op q) (x : Coal_number) (f : Coal_truth → Int) (hx : ∀ t ∈ truths q, x.of_ t = some (f t)) : ∃ s, coal_book_span q x = some s ∧ SpanOf f (truths q) s := by
  unfold coal_book_span coal_book_truths
  rw [Option.bind_some, truths_eq q Q, foldY_all (coal_book_span_r1 x) (spanG f) _ (fun t ht z => by
    unfold coal_book_span_r1 spanG
    rw [hx t ht, Option.bind_some]
    obtain ⟨a, b, c⟩ := z
    cases c <;> simp)]
  generalize truths q = L
  refine ⟨_, rfl, ?_⟩
  cases L with
  | nil => exact ⟨fun _ => rfl, fun h => (h rfl).elim, fun h => (h rfl).elim, fun t h => (by cases h), fun t h => (by cases h)⟩
  | cons t L =>
    obtain ⟨lo, hi, h1, h2, h3, h4, h5, h6⟩ := spanG_fold f L (f t) (f t)
    have e : (t :: L).foldl (spanG f) (0, 0, true) = (lo, hi, false) := h1
    simp only [e, Option.map_some]
    refine ⟨fun h => (by cases h), fun _ => ?_, fun _ => ?_, ?_, ?_⟩
    · rcases h2 with h2 | ⟨u, hu, h⟩
      · exact ⟨t, List.mem_cons_self .., h2.symm⟩
      · exact ⟨u, List.mem_cons_of_mem _ hu, h⟩
    · rcases h3 with h3 | ⟨u, hu, h⟩
      · exact ⟨t, List.mem_cons_self .., h3.symm⟩
      · exact ⟨u, List.mem_cons_of_mem _ hu, h⟩
    · intro u hu
      rcases List.mem_cons.1 hu with rfl | hu
      · exact h4
      · exact (h6 u hu).1
    · intro u hu
      rcases List.mem_cons.1 hu with rfl | hu
      · exact h5
      · exact (h6 u hu).2
def coalAt (d : Nat) (t : Coal_truth) : Int := t.coal_.getD d 0
def lastB (d : Nat) (t : Coal_truth) : Bool := (List.range (d + 1)).all fun k => decide (0 ≤ coalAt k t)
theorem min_ex (l : List Int) (h : l ≠ []) (hl : l.length ≤ 1000) : ∃ m, sl_Min_int_int l = some m ∧ decide (m ≥ 0) = l.all fun x => decide (0 ≤ x) := by
  match l, h with
  | a :: l, _ =>
    unfold sl_Min_int_int
    rw [decide_eq_false (by simp; omega), cond_false, show getI (a :: l) 0 = some a from rfl, Option.bind_some]
    have key : ∀ (d k m : Nat) (z : Int), k + d = (a :: l).length → d < m → ∃ r, loopF (sl_Min_int_int_l1 (a :: l)) m (z, (k : Int)) = some r ∧ decide (r ≥ 0) = (decide (0 ≤ z) && ((a :: l).drop k).all fun x => decide (0 ≤ x)) := by
      intro d
      induction d with
      | zero =>
        intro k m z h1 h2
        obtain ⟨m, rfl⟩ : ∃ q, m = q + 1 := ⟨m - 1, by omega⟩
        refine ⟨z, ?_, by rw [List.drop_eq_nil_of_le (by omega)]; simp⟩
        show sl_Min_int_int_l1 (a :: l) _ _ = _
        unfold sl_Min_int_int_l1
        rw [decide_eq_false (by simp only; omega), cond_false]
      | succ d ih =>
        intro k m z h1 h2
        obtain ⟨m, rfl⟩ : ∃ q, m = q + 1 := ⟨m - 1, by omega⟩
        have hk : k < (a :: l).length := by omega
        show ∃ r, sl_Min_int_int_l1 (a :: l) (loopF (sl_Min_int_int_l1 (a :: l)) m) _ = some r ∧ _
        obtain ⟨r, hr, hr2⟩ := ih (k + 1) m (if (a :: l)[k] < z then (a :: l)[k] else z) (by omega) (by omega)
        generalize loopF (sl_Min_int_int_l1 (a :: l)) m = rec at hr
        refine ⟨r, ?_, ?_⟩
        · unfold sl_Min_int_int_l1
          rw [decide_eq_true (by simp only; omega), cond_true]
          simp only
          rw [getI_ix hk, Option.bind_some, wrI (by omega) (by omega), show (k : Int) + 1 = ((k + 1 : Nat) : Int) by omega]
          exact hr
        · rw [hr2, List.drop_eq_getElem_cons hk, List.all_cons, ← Bool.and_assoc]
          congr 1
          by_cases h3 : (a :: l)[k] < z
          · rw [if_pos h3]
            by_cases h4 : 0 ≤ (a :: l)[k]
            · rw [decide_eq_true h4, decide_eq_true (by omega)]; rfl
            · rw [decide_eq_false h4, Bool.and_false]
          · rw [if_neg h3]
            by_cases h4 : 0 ≤ z
            · rw [decide_eq_true h4, decide_eq_true (by omega)]; rfl
            · rw [decide_eq_false h4, Bool.false_and]
    obtain ⟨r, hr, hr2⟩ := key l.length 1 big a (by simp; omega) (by rw [big_eq]; simp only [List.length_cons] at hl; omega)
    exact ⟨r, hr, by rw [hr2]; rfl⟩
theorem lasts_eq (t : Coal_truth) (d : Nat) (hd : d < 6) : coal_truth_lasts t d = some (lastB d t) := by
  unfold coal_truth_lasts
  rw [wrI (by omega) (by omega)]
  have hlen : (sgl t.coal_ 6).length = 6 := by simp [sgl]
  have e : cutI (sgl t.coal_ 6) 0 ((d : Int) + 1) = some ((sgl t.coal_ 6).take (d + 1)) := by
    unfold cutI
    rw [decide_eq_true (by omega), decide_eq_true (by omega), decide_eq_true (by rw [hlen]; omega)]
    simp only [Bool.and_self, cond_true]
    rw [show ((d : Int) + 1).toNat = d + 1 by omega]; rfl
  rw [e, Option.bind_some]
  obtain ⟨m, hm, hm2⟩ := min_ex ((sgl t.coal_ 6).take (d + 1)) (fun h => by
    have := congrArg List.length h
    simp [hlen] at this) (by rw [List.length_take]; omega)
  rw [hm, Option.bind_some, hm2]
  congr 1
  unfold lastB coalAt sgl
  rw [← List.map_take, List.take_range, List.all_map, show min (d + 1) 6 = d + 1 by omega]
  rfl
end Go.Proofs.YticodohfokgjfaaDoor

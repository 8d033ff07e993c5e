/- How long a list that a caller hands over can be: its reading's weight says so. -/
import Derived.Test.YtplpalmabgjibaaDoorZWArgs
set_option linter.unusedVariables false
set_option maxRecDepth 100000
namespace Go.Proofs.YtplpalmabgjibaaDoor
open Go Go.Fx Go.Proofs Go.ChangeShapes Go.WideShapes Go.ChangeAt Go.RowKit
variable {H : Type} {enc : TypeId × Value → H} {w : World} {spare : Nat → Bool} {held : Bool} {r : Reach} {b0 : Nat} {v : Value} {d : DataW H} {ps : List MemPlace} {P : Program}
theorem wt_cons {t : TypeId} {ts : List TypeId} {d : DataW H} {r : List (DataW H)} (h : (DataW.weightsEach P (t :: ts) (d :: r)).all (· ≤ reachBytes) = true) : (d.weights P t).all (· ≤ reachBytes) = true ∧ (DataW.weightsEach P ts r).all (· ≤ reachBytes) = true := by
  rw [DataW.weightsEach, List.all_append, Bool.and_eq_true] at h
  exact h
theorem wt_at : ∀ {ts : List TypeId} {ds : List (DataW H)} {i : Nat} {t : TypeId} {d : DataW H}, (DataW.weightsEach P ts ds).all (· ≤ reachBytes) = true → ts[i]? = some t → ds[i]? = some d → (d.weights P t).all (· ≤ reachBytes) = true
  | [], _, _, _, _, _, h1, _ => by simp at h1
  | _ :: _, [], _, _, _, _, _, h2 => by simp at h2
  | t :: ts, d :: ds, 0, _, _, h, h1, h2 => by
    simp at h1 h2; subst h1 h2; exact (wt_cons h).1
  | t :: ts, d :: ds, i + 1, _, _, h, h1, h2 => by
    simp at h1 h2; exact wt_at (wt_cons h).2 h1 h2
theorem slice_wt {t e : TypeId} {fuel n c : Nat} {cs : List Value} {A : Option Addr} {x : DataW H × List MemPlace} (ht : P.underlying t = some (.slice e)) (h : DataW.trod enc P w 0 spare held fuel t cs = some x) (hw : (x.1.weights P t).all (· ≤ reachBytes) = true)
    (hc : cs = [SL A n c]) : n * P.bytesOf e ≤ reachBytes := by
  rcases DataW.trod_slice ht h with ⟨rfl, _⟩ | ⟨a, len, cap, elems, rest, m, _, rfl, rfl, _, _, _, hel, _⟩
  · injection hc with hc; injection hc with _ hc _; subst hc; simp
  · injection hc with hc; injection hc with _ hc _; subst hc
    simp only [DataW.weights, ht, List.all_cons, Bool.and_eq_true, decide_eq_true_eq, List.length_map] at hw
    have h1 := hw.1
    have h2 : len * P.bytesOf e ≤ (elems.length + rest.length) * P.bytesOf e := Nat.mul_le_mul_right _ (by omega)
    omega
theorem wt_book {x y : Int} {A : Option Addr} {n c : Nat} (hd : DataW.Trod enc Tryd.prog w 0 spare held 24 (AG [I x, I y, SL A n c]) d ps) (hw : (d.weights Tryd.prog 24).all (· ≤ reachBytes) = true) : n * 56 ≤ 140737488355328 := by
  obtain ⟨fuel, hf⟩ := hd
  obtain ⟨xs, m, _, hx, hl, hxs, hel⟩ := DataW.trod_struct u24 hf
  have hx1 : d = .agg (xs.map (·.1)) := congrArg Prod.fst hx
  subst hx1
  have fb := f24b
  simp only [Bool.and_eq_true, beq_iff_eq] at fb
  obtain ⟨⟨⟨⟨⟨o0, t0⟩, o1⟩, t1⟩, o2⟩, t2⟩ := fb
  have e2 := hel 2 _ (get_bang (by rw [f24s]; decide))
  rw [f24s] at hxs
  rw [o2, t2, c22, List.getElem?_eq_getElem (by omega)] at e2
  have hw2 : ((xs[2]'(by omega)).1.weights Tryd.prog 22).all (· ≤ reachBytes) = true := by
    simp only [DataW.weights, u24] at hw
    refine wt_at hw (i := 2) ?_ (by rw [List.getElem?_map, List.getElem?_eq_getElem (by omega)]; rfl)
    rw [List.getElem?_map, Array.getElem?_toList, get_bang (by rw [f24s]; decide), Option.map_some, t2]
  have := slice_wt u22 e2 hw2 (A := A) (n := n) (c := c) rfl
  rw [show Tryd.prog.bytesOf 33 = 56 by kernel_rfl] at this
  have h2 : reachBytes ≤ 140737488355328 := by decide
  omega
end Go.Proofs.YtplpalmabgjibaaDoor

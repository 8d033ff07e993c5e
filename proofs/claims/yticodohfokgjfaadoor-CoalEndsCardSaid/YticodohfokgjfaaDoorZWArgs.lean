/- How a book, a measure and a list of numbers that a caller hands over are read. -/
import Derived.Test.YticodohfokgjfaaDoorZWRow
set_option linter.unusedVariables false
set_option linter.constructorNameAsVariable false
set_option maxRecDepth 100000
namespace Go.Proofs.YticodohfokgjfaaDoor
open Go Go.Fx Go.Proofs Go.ChangeShapes Go.WideShapes Go.ChangeAt Go.RowKit
theorem get_bang {α : Type} [Inhabited α] {a : Array α} {i : Nat} (h : i < a.size) : a[i]? = some a[i]! := by
  rw [Array.getElem?_eq_getElem h, getElem!_pos a i h]
theorem st {t n : Nat} (u : Tryd.prog.underlying t = some (.struct (Tryd.prog.fieldsOf t))) (c : Tryd.prog.cellsOf t = n) (s : (Tryd.prog.fieldsOf t).size = n)
    (b : ((List.range n).all fun i => (Tryd.prog.fieldsOf t)[i]!.offset == i && (Tryd.prog.fieldsOf t)[i]!.type == 3) = true) : FlatI Tryd.prog t n := by
  refine flat_struct u c (fun i hi => ?_) s
  refine ⟨_, get_bang (by rw [s]; exact hi), ?_⟩
  have := List.all_eq_true.1 b i (List.mem_range.2 hi)
  simp only [Bool.and_eq_true, beq_iff_eq] at this
  exact ⟨this.1, by rw [this.2]; exact u3, by rw [this.2]; exact c3⟩
theorem c23 : Tryd.prog.cellsOf 23 = 2 := by kernel_rfl
theorem c64 : Tryd.prog.cellsOf 64 = 3 := by kernel_rfl
theorem c67 : Tryd.prog.cellsOf 67 = 3 := by kernel_rfl
theorem c29 : Tryd.prog.cellsOf 29 = 14 := by kernel_rfl
theorem c24 : Tryd.prog.cellsOf 24 = 4 := by kernel_rfl
theorem c25 : Tryd.prog.cellsOf 25 = 3 := by kernel_rfl
theorem c26 : Tryd.prog.cellsOf 26 = 1 := by kernel_rfl
theorem c27 : Tryd.prog.cellsOf 27 = 1 := by kernel_rfl
theorem u24 : Tryd.prog.underlying 24 = some (.array 2 23) := by kernel_rfl
theorem u25 : Tryd.prog.underlying 25 = some (.array 3 3) := by kernel_rfl
theorem u26 : Tryd.prog.underlying 26 = some (.slice 64) := by kernel_rfl
theorem u27 : Tryd.prog.underlying 27 = some (.slice 67) := by kernel_rfl
theorem u29 : Tryd.prog.underlying 29 = some (.struct (Tryd.prog.fieldsOf 29)) := by kernel_rfl
theorem flat23 : FlatI Tryd.prog 23 2 := st (by kernel_rfl) c23 (by kernel_rfl) (by kernel_rfl)
theorem flat64 : FlatI Tryd.prog 64 3 := st (by kernel_rfl) c64 (by kernel_rfl) (by kernel_rfl)
theorem flat67 : FlatI Tryd.prog 67 3 := st (by kernel_rfl) c67 (by kernel_rfl) (by kernel_rfl)
theorem flat25 : FlatI Tryd.prog 25 3 := flat_array u25 u3 c3 c25
theorem f29s : (Tryd.prog.fieldsOf 29).size = 7 := by kernel_rfl
theorem f29b : ([(0, 0, 23), (1, 2, 24), (2, 6, 25), (3, 9, 26), (4, 10, 23), (5, 12, 3), (6, 13, 27)].all fun (x : Nat × Nat × Nat) => (Tryd.prog.fieldsOf 29)[x.1]!.offset == x.2.1 && (Tryd.prog.fieldsOf 29)[x.1]!.type == x.2.2) = true := by kernel_rfl
theorem maxLen_le : maxLen ≤ 9223372036854775807 := by decide
def dayOf (l : List Int) : CoalDay := ⟨l.getD 0 0, l.getD 1 0, l.getD 2 0⟩
theorem dayOf_cells {l : List Int} (h : l.length = 3) : eCoalDay (dayOf l) = l.map I := by
  match l, h with
  | [_, _, _], _ => rfl
def dipOf (l : List Int) : CoalDip := ⟨l.getD 0 0, l.getD 1 0, l.getD 2 0⟩
theorem dipOf_cells {l : List Int} (h : l.length = 3) : eCoalDip (dipOf l) = l.map I := by
  match l, h with
  | [_, _, _], _ => rfl
variable {H : Type} {enc : TypeId × Value → H} {w : World} {spare : Nat → Bool} {held : Bool} {r : Reach} {b0 : Nat} {v : Value} {d : DataW H} {ps : List MemPlace}
theorem two_of {fuel : Nat} {cs : List Value} {x : DataW H × List MemPlace} (h : DataW.trod enc Tryd.prog w 0 spare held fuel 23 cs = some x) : ∃ s : Span, cs = eSpan s := by
  obtain ⟨l, hl, rfl, _⟩ := flat23 h
  match l, hl with
  | [a, b], _ => exact ⟨⟨a, b⟩, rfl⟩
theorem four_of {fuel : Nat} {cs : List Value} {x : DataW H × List MemPlace} (h : DataW.trod enc Tryd.prog w 0 spare held fuel 24 cs = some x) : ∃ l : List Span, l.length = 2 ∧ cs = sgE eSpan l 2 := by
  obtain ⟨xs, m, _, _, hl, hxs, hel⟩ := DataW.trod_array u24 h
  rw [c24] at hl
  have e0 := hel 0 (by decide)
  have e1 := hel 1 (by decide)
  rw [c23, List.getElem?_eq_getElem (by omega)] at e0 e1
  obtain ⟨s0, h0⟩ := two_of e0
  obtain ⟨s1, h1⟩ := two_of e1
  refine ⟨[s0, s1], rfl, ?_⟩
  match cs, hl with
  | [a, b, c, d], _ =>
    simp [eSpan] at h0 h1
    obtain ⟨rfl, rfl⟩ := h0
    obtain ⟨rfl, rfl⟩ := h1
    rfl
theorem dec_book (hval : Value.okWide Tryd.prog w r b0 29 v) (hd : DataW.Trod enc Tryd.prog w 0 spare held 29 v d ps) : ∃ A1 c1 A2 c2, ∃ b : CoalBook, v = AG ([I b.Heap.Low, I b.Heap.High] ++ (sgE eSpan b.Eats 2 ++ (sg b.Extra 3 ++ [SL A1 b.Days.length c1, I b.Collier.Low, I b.Collier.High, I b.Brings, SL A2 b.Dips.length c2]))) ∧
    (rd eCoalDay 3 A1 c1 b.Days).ok w ∧ (rd eCoalDip 3 A2 c2 b.Dips).ok w ∧ b.Days.length ≤ 9223372036854775807 ∧ b.Dips.length ≤ 9223372036854775807 ∧ b.Eats.length = 2 ∧ b.Extra.length = 3 := by
  obtain ⟨cs, rfl⟩ := okWide_cells (by kernel_rfl) hval
  obtain ⟨fuel, hf⟩ := hd
  obtain ⟨xs, m, _, _, hl, hxs, hel⟩ := DataW.trod_struct u29 hf
  rw [c29] at hl
  rw [f29s] at hxs
  have fb := f29b
  simp only [List.all_cons, List.all_nil, Bool.and_eq_true, beq_iff_eq, and_true] at fb
  obtain ⟨⟨o0, t0⟩, ⟨o1, t1⟩, ⟨o2, t2⟩, ⟨o3, t3⟩, ⟨o4, t4⟩, ⟨o5, t5⟩, ⟨o6, t6⟩⟩ := fb
  have e0 := hel 0 _ (get_bang (by rw [f29s]; decide))
  have e1 := hel 1 _ (get_bang (by rw [f29s]; decide))
  have e2 := hel 2 _ (get_bang (by rw [f29s]; decide))
  have e3 := hel 3 _ (get_bang (by rw [f29s]; decide))
  have e4 := hel 4 _ (get_bang (by rw [f29s]; decide))
  have e5 := hel 5 _ (get_bang (by rw [f29s]; decide))
  have e6 := hel 6 _ (get_bang (by rw [f29s]; decide))
  rw [o0, t0, c23, List.getElem?_eq_getElem (by omega)] at e0
  rw [o1, t1, c24, List.getElem?_eq_getElem (by omega)] at e1
  rw [o2, t2, c25, List.getElem?_eq_getElem (by omega)] at e2
  rw [o3, t3, c26, List.getElem?_eq_getElem (by omega)] at e3
  rw [o4, t4, c23, List.getElem?_eq_getElem (by omega)] at e4
  rw [o5, t5, c3, List.getElem?_eq_getElem (by omega)] at e5
  rw [o6, t6, c27, List.getElem?_eq_getElem (by omega)] at e6
  obtain ⟨s0, g0⟩ := two_of e0
  obtain ⟨l1, k1, g1⟩ := four_of e1
  obtain ⟨l2, k2, g2, _⟩ := flat25 e2
  obtain ⟨A3, c3', l3, g3, h31, h32⟩ := slice_flat u26 flat64 c64 (by decide) e3
  obtain ⟨s4, g4⟩ := two_of e4
  obtain ⟨n5, g5, _, _⟩ := DataW.trod_int u3 e5
  obtain ⟨A6, c6', l6, g6, h61, h62⟩ := slice_flat u27 flat67 c67 (by decide) e6
  have m3 := rd_map (e2 := eCoalDay) dayOf (fun x hx => dayOf_cells (h31 x hx).1) h32
  have m6 := rd_map (e2 := eCoalDip) dipOf (fun x hx => dipOf_cells (h61 x hx).1) h62
  refine ⟨A3, c3', A6, c6', ⟨s0, l1, l2, l3.map dayOf, s4, n5, l6.map dipOf⟩, ?_, m3, m6, ?_, ?_, k1, k2⟩
  · obtain ⟨cl⟩ := cs
    match l1, k1, l2, k2 with
    | [p, q], _, [x, y, z], _ =>
      match cl, hl with
      | [y0, y1, y2, y3, y4, y5, y6, y7, y8, y9, y10, y11, y12, y13], _ =>
        simp [Value.cells, eSpan, sgE, sgEF] at g0 g1 g2 g3 g4 g5 g6
        obtain ⟨rfl, rfl⟩ := g0
        obtain ⟨rfl, rfl, rfl, rfl⟩ := g1
        obtain ⟨rfl, rfl, rfl⟩ := g2
        obtain ⟨rfl, rfl⟩ := g4
        subst g3 g5 g6
        simp [sgE, sgEF, sg, sgF, eSpan]
  · have := maxLen_le; have := m3.2.1; have := m3.2.2; simp only; omega
  · have := maxLen_le; have := m6.2.1; have := m6.2.2; simp only; omega
end Go.Proofs.YticodohfokgjfaaDoor

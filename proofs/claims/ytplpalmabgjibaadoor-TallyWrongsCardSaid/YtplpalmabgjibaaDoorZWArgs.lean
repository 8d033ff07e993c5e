/- How a book, a count and a list of numbers that a caller hands over are read. -/
import Derived.Test.YtplpalmabgjibaaDoorZWRow
set_option linter.unusedVariables false
set_option linter.constructorNameAsVariable false
set_option maxRecDepth 100000
namespace Go.Proofs.YtplpalmabgjibaaDoor
open Go Go.Fx Go.Proofs Go.ChangeShapes Go.WideShapes Go.ChangeAt Go.RowKit
theorem c33 : Tryd.prog.cellsOf 33 = 7 := by kernel_rfl
theorem c24 : Tryd.prog.cellsOf 24 = 3 := by kernel_rfl
theorem u33 : Tryd.prog.underlying 33 = some (.struct (Tryd.prog.fieldsOf 33)) := by kernel_rfl
theorem u24 : Tryd.prog.underlying 24 = some (.struct (Tryd.prog.fieldsOf 24)) := by kernel_rfl
theorem f33s : (Tryd.prog.fieldsOf 33).size = 7 := by kernel_rfl
theorem f24s : (Tryd.prog.fieldsOf 24).size = 3 := by kernel_rfl
theorem f33b : ((List.range 7).all fun i => (Tryd.prog.fieldsOf 33)[i]!.offset == i && (Tryd.prog.fieldsOf 33)[i]!.type == 3) = true := by kernel_rfl
theorem f24b : ((Tryd.prog.fieldsOf 24)[0]!.offset == 0 && (Tryd.prog.fieldsOf 24)[0]!.type == 3 && (Tryd.prog.fieldsOf 24)[1]!.offset == 1 && (Tryd.prog.fieldsOf 24)[1]!.type == 3 && (Tryd.prog.fieldsOf 24)[2]!.offset == 2 && (Tryd.prog.fieldsOf 24)[2]!.type == 22) = true := by kernel_rfl
theorem u22 : Tryd.prog.underlying 22 = some (.slice 33) := by kernel_rfl
theorem c22 : Tryd.prog.cellsOf 22 = 1 := by kernel_rfl
theorem get_bang {α : Type} [Inhabited α] {a : Array α} {i : Nat} (h : i < a.size) : a[i]? = some a[i]! := by
  rw [Array.getElem?_eq_getElem h, getElem!_pos a i h]
theorem flat33 : FlatI Tryd.prog 33 7 := by
  refine flat_struct u33 c33 (fun i hi => ?_) f33s
  refine ⟨_, get_bang (by rw [f33s]; exact hi), ?_⟩
  have := List.all_eq_true.1 f33b i (List.mem_range.2 hi)
  simp only [Bool.and_eq_true, beq_iff_eq] at this
  exact ⟨this.1, by rw [this.2]; exact u3, by rw [this.2]; exact c3⟩
def cntOf (l : List Int) : TallyCount := ⟨l.getD 0 0, l.getD 1 0, l.getD 2 0, l.getD 3 0, l.getD 4 0, l.getD 5 0, l.getD 6 0⟩
theorem cntOf_cells {l : List Int} (h : l.length = 7) : eTallyCount (cntOf l) = l.map I := by
  match l, h with
  | [_, _, _, _, _, _, _], _ => rfl
theorem maxLen_le : maxLen ≤ 9223372036854775807 := by decide
variable {H : Type} {enc : TypeId × Value → H} {w : World} {spare : Nat → Bool} {held : Bool} {r : Reach} {b0 : Nat} {v : Value} {d : DataW H} {ps : List MemPlace}
theorem dec_book (hval : Value.okWide Tryd.prog w r b0 24 v) (hd : DataW.Trod enc Tryd.prog w 0 spare held 24 v d ps) : ∃ A c, ∃ b : TallyBook, v = AG [I b.Trips, I b.Room, SL A b.Counts.length c] ∧ (rd eTallyCount 7 A c b.Counts).ok w ∧ b.Counts.length ≤ 9223372036854775807 ∧ InI b.Trips ∧ InI b.Room := by
  obtain ⟨cs, rfl⟩ := okWide_cells (by kernel_rfl) hval
  obtain ⟨fuel, hf⟩ := hd
  obtain ⟨xs, m, _, _, hl, hxs, hel⟩ := DataW.trod_struct u24 hf
  rw [c24] at hl
  rw [f24s] at hxs
  have fb := f24b
  simp only [Bool.and_eq_true, beq_iff_eq] at fb
  obtain ⟨⟨⟨⟨⟨o0, t0⟩, o1⟩, t1⟩, o2⟩, t2⟩ := fb
  have e0 := hel 0 _ (get_bang (by rw [f24s]; decide))
  have e1 := hel 1 _ (get_bang (by rw [f24s]; decide))
  have e2 := hel 2 _ (get_bang (by rw [f24s]; decide))
  rw [o0, t0, c3, List.getElem?_eq_getElem (by omega)] at e0
  rw [o1, t1, c3, List.getElem?_eq_getElem (by omega)] at e1
  rw [o2, t2, c22, List.getElem?_eq_getElem (by omega)] at e2
  obtain ⟨a, ha, _, wa⟩ := DataW.trod_int u3 e0
  obtain ⟨b, hb, _, wb⟩ := DataW.trod_int u3 e1
  obtain ⟨A, c, ls, hc, h1, h2⟩ := slice_flat u22 flat33 c33 (by decide) e2
  have h3 := rd_map (e2 := eTallyCount) cntOf (fun x hx => cntOf_cells (h1 x hx).1) h2
  refine ⟨A, c, ⟨a, b, ls.map cntOf⟩, ?_, h3, ?_, inI_of wa, inI_of wb⟩
  · obtain ⟨cl⟩ := cs
    match cl, hl with
    | [x0, x1, x2], _ =>
      have g0 := take_one ha; have g1 := take_one hb; have g2 := take_one hc
      simp [Value.cells] at g0 g1 g2
      subst g0 g1 g2
      simp
  · have := maxLen_le; have := h3.2.1; have := h3.2.2; simp only; omega
end Go.Proofs.YtplpalmabgjibaaDoor

/- Part of a logic of my own for walks: rules by which a proof steps through code, proved once. -/
import Derived.Test.YticodohfokgjfaaDoorZFxRes
import Derived.OpenShut
import Derived.RowKit
import Derived.WideKeyArgs
import Derived.ChangeOld
import Derived.LaidMore
import Derived.LaidLaws
import Derived.Deep.DeepHandedRow
import Derived.ProofKit
set_option linter.unusedSimpArgs false
set_option linter.unusedVariables false
namespace Go.Fx
open Go Go.ChangeShapes Go.WideShapes Go.ChangeAt Go.RowKit
/-! from a law's walk to its row -/
section
variable {H : Type} {enc : TypeId × Value → H} {P : Program}
theorem Keep.kept {w w' : World} (k : Keep0 w w') (may : MemPlace → Prop) : w.keptBut w' may := by
  refine ⟨k.os, k.output, fun i hi => ?_⟩
  have := k.block i hi (fun x => x)
  rw [this]
  cases w.heap[i]? with
  | none => rfl
  | some o => cases o <;> first | exact ⟨rfl, rfl, rfl, fun _ _ => rfl⟩ | exact .inr ⟨rfl, rfl⟩ | rfl
theorem Keep.same {w w' : World} (k : Keep0 w w') {p : MemPlace} (hp : p.block < w.heap.size) : w.sameAt w' p := by
  cases p with
  | cell b off =>
    have := k.block b hp (fun x => x)
    exact World.cell?_of_block (w := w) this
  | map b => exact k.block b hp (fun x => x)
theorem trodAll_stays (hl : laidOutB P = true) {W W' : World} {sp' : Nat → Bool} : ∀ {ts : List TypeId} {vs : List Value} {ds : List (DataW H)} {ps : List MemPlace},
    (∀ t ∈ ts, P.readableRec t = true ∧ t < P.types.size) → DataW.TrodAll enc P W 0 (fun _ => true) true ts vs ds ps → (∀ p ∈ ps, W.sameAt W' p) → (∀ p ∈ ps, sp' p.block = true) → DataW.TrodAll enc P W' 0 sp' true ts vs ds ps
  | [], [], [], _, _, h, _, _ => h
  | t :: ts, v :: vs, d :: ds, ps, ht, ⟨p, q, h1, h2, e⟩, hs, hb => by
    subst e
    exact ⟨p, q, WideElems.Trod_stays hl (ht t (List.mem_cons_self ..)).1 (ht t (List.mem_cons_self ..)).2 h1 (fun x hx => hs x (List.mem_append_left _ hx)) (fun x hx => hb x (List.mem_append_left _ hx)),
      trodAll_stays hl (fun t ht' => ht t (List.mem_cons_of_mem _ ht')) h2 (fun x hx => hs x (List.mem_append_right _ hx)) (fun x hx => hb x (List.mem_append_right _ hx)), rfl⟩
  | [], _ :: _, _, _, _, h, _, _ => by cases ‹List (DataW H)› <;> exact h.elim
  | [], [], _ :: _, _, _, h, _, _ => h.elim
  | _ :: _, [], _, _, _, h, _, _ => by cases ‹List (DataW H)› <;> exact h.elim
  | _ :: _, _ :: _, [], _, _, h, _, _ => h.elim
theorem law_post {fn : Func} {spec : ChangeSpec} {W W' : World} {args : Array Value} {ds gs : List (DataW H)} {before : List MemPlace} {tb : TypeId}
    (hW : DataW.Whole enc P fn.params.toList spec.vars false W args.toList ds gs before) (hl : laidOutB P = true) (hts : (fn.params.toList.all fun t => P.readableRec t && decide (t < P.types.size)) = true)
    (hvars : spec.vars = []) (hfn : spec.fn H ds = { results := [.lit (.bool true)], args := ds }) (hres : fn.resultTypes = #[tb]) (hb : P.underlying tb = some .bool) (k : Keep0 W W') :
    spec.post enc P fn false true false false W args (.bool true) W' := by
  have hlt := hW.lt
  obtain ⟨p, q, hA, hV, rfl, hfz, hnd⟩ := id hW
  have hV' := hV
  rw [hvars] at hV'
  obtain ⟨rfl, rfl⟩ := trodVars_none hV'
  rw [List.append_nil] at hlt
  have hts' : ∀ t ∈ fn.params.toList, P.readableRec t = true ∧ t < P.types.size := fun t ht => by
    have := List.all_eq_true.1 hts t ht
    simpa using this
  refine ⟨ds, [], p ++ [], [], p, [], hW, ?_, ?_, ?_, k.kept _, fun h => by cases h⟩
  · rw [List.append_nil, hfn, hres]
    exact trodAll_mk1 (shut_bool hb true)
  · rw [List.append_nil, hfn]
    exact trodAll_stays hl hts' hA (fun x hx => k.same (hlt x hx)) (fun x hx => by simpa using hlt x hx)
  · rw [List.append_nil, hfn, hvars]
    rfl
/-! arguments -/
def InI (n : Int) : Prop := -9223372036854775808 ≤ n ∧ n ≤ 9223372036854775807
theorem inI_of {n : Int} (h : (Lit.int .i64 n).wf = true) : InI n := bounds_i64 h
variable {w : World} {base : Nat} {spare : Nat → Bool} {held : Bool}
/-- a type that is read as numbers side by side -/
def FlatI (P : Program) (t : TypeId) (n : Nat) : Prop := ∀ {H : Type} {enc : TypeId × Value → H} {w : World} {base : Nat} {spare : Nat → Bool} {held : Bool} {fuel : Nat} {cs : List Value} {x : DataW H × List MemPlace},
  DataW.trod enc P w base spare held fuel t cs = some x → ∃ l : List Int, l.length = n ∧ cs = l.map I ∧ ∀ y ∈ l, InI y
theorem flat_cells {cs : List Value} : ∀ {n : Nat}, cs.length = n → (∀ i, i < n → ∃ a : Int, cs[i]? = some (I a) ∧ InI a) → ∃ l : List Int, l.length = n ∧ cs = l.map I ∧ ∀ y ∈ l, InI y := by
  intro n hn h
  subst hn
  induction cs with
  | nil => exact ⟨[], rfl, rfl, fun _ h => (List.not_mem_nil h).elim⟩
  | cons c cs ih =>
    obtain ⟨a, ha, hi⟩ := h 0 (by simp)
    obtain ⟨l, h1, h2, h3⟩ := ih fun i hi => by
      obtain ⟨b, hb⟩ := h (i + 1) (by simp; omega)
      exact ⟨b, by simpa using hb⟩
    refine ⟨a :: l, by simp [h1], by simp at ha; rw [ha, h2]; rfl, fun y hy => ?_⟩
    rcases List.mem_cons.1 hy with rfl | hy
    · exact hi
    · exact h3 y hy
theorem take_one {cs : List Value} {o : Nat} {v : Value} (h : (cs.drop o).take 1 = [v]) : cs[o]? = some v := by
  have := congrArg (·[0]?) h
  simpa [List.getElem?_take] using this
theorem flat_array {t e : TypeId} {n : Nat} (ht : P.underlying t = some (.array n e)) (he : P.underlying e = some (.int .i64)) (hc : P.cellsOf e = 1) (hn : P.cellsOf t = n) : FlatI P t n := by
  intro _ _ _ _ _ _ _ cs _ h
  obtain ⟨xs, m, _, _, hl, hxs, hel⟩ := DataW.trod_array ht h
  refine flat_cells (hl.trans hn) fun i hi => ?_
  have := hel i hi
  rw [hc, Nat.mul_one, List.getElem?_eq_getElem (by rw [hxs]; exact hi)] at this
  obtain ⟨a, ha, _, hw⟩ := DataW.trod_int he this
  exact ⟨a, take_one ha, inI_of hw⟩
theorem flat_struct {t : TypeId} {fs : Array Field} {n : Nat} (ht : P.underlying t = some (.struct fs)) (hn : P.cellsOf t = n) (hf : ∀ i, i < n → ∃ f : Field, fs[i]? = some f ∧ f.offset = i ∧ P.underlying f.type = some (.int .i64) ∧ P.cellsOf f.type = 1) (hs : fs.size = n) : FlatI P t n := by
  intro _ _ _ _ _ _ _ cs _ h
  obtain ⟨xs, m, _, _, hl, hxs, hel⟩ := DataW.trod_struct ht h
  refine flat_cells (hl.trans hn) fun i hi => ?_
  obtain ⟨f, h1, h2, h3, h4⟩ := hf i hi
  have := hel i f h1
  rw [h2, h4, List.getElem?_eq_getElem (by rw [hxs, hs]; exact hi)] at this
  obtain ⟨a, ha, _, hw⟩ := DataW.trod_int h3 this
  exact ⟨a, take_one ha, inI_of hw⟩
theorem mapM_get {α β : Type} {f : α → Option β} : ∀ {l : List α} {r : List β}, l.mapM f = some r → ∀ (i : Nat) (a : α), l[i]? = some a → f a = r[i]?
  | [], _, _, i, a, ha => by simp at ha
  | x :: l, r, h, i, a, ha => by
    simp only [List.mapM_cons, Option.bind_eq_bind, Option.bind_eq_some_iff, Option.pure_def, Option.some.injEq] at h
    obtain ⟨b, hb, r', hr', rfl⟩ := h
    cases i with
    | zero =>
      simp only [List.getElem?_cons_zero, Option.some.injEq] at ha
      subst ha
      exact hb
    | succ i => exact mapM_get hr' i a (by simpa using ha)
theorem cell_in {w : World} {a : Addr} {v : Value} (h : w.cell? a = some v) : a.block < w.heap.size := by
  unfold World.cell? at h
  split at h
  · rename_i hw
    exact (Array.getElem?_eq_some_iff.1 hw).1
  · cases h
theorem add_blk (a : Addr) (n : Nat) : (a.add n).block = a.block ∧ (a.add n).off = a.off + n := by
  unfold Addr.add
  split
  · rename_i h; subst h; exact ⟨rfl, rfl⟩
  · exact ⟨rfl, rfl⟩
theorem cellN {w : World} {a : Addr} {n : Nat} {v : Value} (h : w.cell? (a.add n) = some v) : w.cell? ⟨a.block, a.off + n, none⟩ = some v := by
  have h1 := World.cell?_spot h
  obtain ⟨h2, h3⟩ := add_blk a n
  have : a.add n = ⟨a.block, a.off + n, none⟩ := by
    generalize a.add n = x at h1 h2 h3
    cases x
    cases h1; cases h2; cases h3; rfl
  rwa [this] at h
/-- a slice of such -/
theorem slice_flat {t e : TypeId} {s fuel : Nat} {cs : List Value} {x : DataW H × List MemPlace} (ht : P.underlying t = some (.slice e)) (F : FlatI P e s) (hs : P.cellsOf e = s) (h0 : 0 < s)
    (h : DataW.trod enc P w 0 spare held fuel t cs = some x) : ∃ A c, ∃ xs : List (List Int), cs = [SL A xs.length c] ∧ (∀ l ∈ xs, l.length = s ∧ ∀ y ∈ l, InI y) ∧ (rd (fun l : List Int => l.map I) s A c xs).ok w := by
  rcases DataW.trod_slice ht h with ⟨rfl, _⟩ | ⟨a, len, cap, elems, rest, n, _, rfl, _, _, hlc, hcm, hel, hE, _, _⟩
  · exact ⟨none, 0, [], rfl, fun _ h => (List.not_mem_nil h).elim, .inl rfl, Nat.le_refl _, Nat.zero_le _⟩
  · have ex : ∀ i, i < len → ∃ l : List Int, l.length = s ∧ (∀ y ∈ l, InI y) ∧ ∀ j v, (l.map I)[j]? = some v → w.cell? ⟨a.block, a.off + i * s + j, none⟩ = some v := by
      intro i hi
      have := hE i hi
      rw [hs, List.getElem?_eq_getElem (by rw [hel]; exact hi)] at this
      obtain ⟨cs, hc, hd⟩ := Option.bind_eq_some_iff.1 this
      obtain ⟨l, hl, rfl, hy⟩ := F hd
      refine ⟨l, hl, hy, fun j v hj => ?_⟩
      unfold World.cells? at hc
      rw [if_pos (Nat.zero_le _)] at hc
      have hjl : j < s := by
        have := (List.getElem?_eq_some_iff.1 hj).1
        rw [List.length_map, hl] at this
        exact this
      have := mapM_get hc j j (List.getElem?_range hjl)
      rw [hj] at this
      have := cellN this
      rwa [(add_blk a (i * s)).1, (add_blk a (i * s)).2] at this
    have ch : ∃ f : Nat → List Int, ∀ i, i < len → (f i).length = s ∧ (∀ y ∈ f i, InI y) ∧ ∀ j v, ((f i).map I)[j]? = some v → w.cell? ⟨a.block, a.off + i * s + j, none⟩ = some v :=
      ⟨fun i => if h : i < len then Classical.choose (ex i h) else [], fun i hi => by simp only [dif_pos hi]; exact Classical.choose_spec (ex i hi)⟩
    obtain ⟨f, hf⟩ := ch
    refine ⟨some a, cap, (List.range len).map f, by simp [SL], fun l hl => ?_, ?_, by simpa using hlc, hcm⟩
    · obtain ⟨i, hi, rfl⟩ := List.mem_map.1 hl
      have := hf i (List.mem_range.1 hi)
      exact ⟨this.1, this.2.1⟩
    · by_cases hz : len = 0
      · left; subst hz; rfl
      · right
        have h00 := (hf 0 (by omega)).2.2 0 (I ((f 0)[0]'(by rw [(hf 0 (by omega)).1]; exact h0))) (by simp [(hf 0 (by omega)).1, h0])
        obtain ⟨b, o, sp⟩ := a
        have hsp : sp = none := by
          have := hE 0 (by omega)
          rw [hs, List.getElem?_eq_getElem (by rw [hel]; omega)] at this
          obtain ⟨cs, hc, hd⟩ := Option.bind_eq_some_iff.1 this
          obtain ⟨l, hl, rfl, hy⟩ := F hd
          unfold World.cells? at hc
          rw [if_pos (Nat.zero_le _)] at hc
          have := mapM_get hc 0 0 (List.getElem?_range h0)
          rw [List.getElem?_eq_getElem (by rw [List.length_map, hl]; exact h0)] at this
          rw [Nat.zero_mul] at this
          exact World.cell?_spot (show w.cell? ⟨b, o, sp⟩ = _ from this)
        subst hsp
        refine ⟨b, o, rfl, cell_in h00, fun i x hx j v hv => ?_⟩
        have hi : i < len := by
          have := (List.getElem?_eq_some_iff.1 hx).1
          simpa using this
        have hx' : x = f i := by simpa [List.getElem?_range, hi] using hx.symm
        subst hx'
        exact (hf i hi).2.2 j v hv
theorem rd_map {α β : Type} {e1 : α → List Value} {e2 : β → List Value} {s c : Nat} {A : Option Addr} {xs : List α} (f : α → β) (h : ∀ x ∈ xs, e2 (f x) = e1 x) (h1 : (rd e1 s A c xs).ok w) : (rd e2 s A c (xs.map f)).ok w := by
  refine ⟨?_, by simpa using h1.2.1, h1.2.2⟩
  rcases h1.1 with rfl | ⟨b, o, e, hb, hc⟩
  · exact .inl rfl
  · refine .inr ⟨b, o, e, hb, fun i x hx j v hv => ?_⟩
    rw [List.getElem?_map] at hx
    obtain ⟨y, hy, rfl⟩ := Option.map_eq_some_iff.1 hx
    rw [h y (List.mem_of_getElem? hy)] at hv
    exact hc i y hy j v hv
theorem sg_self (l : List Int) {n : Nat} (h : l.length = n) : sg l n = l.map I := by
  rw [sg_ivs, sgl_eq h]; rfl
theorem okWide_cells {r : Reach} {b0 : Nat} {t : TypeId} {v : Value} (ht : (match P.underlying t with | some (.struct _) | some (.array _ _) => true | _ => false) = true) (hval : Value.okWide P w r b0 t v) : ∃ cs, v = .agg cs := by
  unfold Value.okWide at hval
  split at hval
  · obtain ⟨cs, h, _⟩ := hval; exact ⟨cs, h⟩
  · obtain ⟨cs, h, _⟩ := hval; exact ⟨cs, h⟩
  · rename_i h1 h2
    split at ht
    · rename_i h; exact absurd h (h1 _)
    · rename_i h; exact absurd h (h2 _ _)
    · cases ht
theorem dec_flat {r : Reach} {b0 n : Nat} {t : TypeId} {v : Value} {d : DataW H} {ps : List MemPlace} (ht : (match P.underlying t with | some (.struct _) | some (.array _ _) => true | _ => false) = true) (F : FlatI P t n) (hval : Value.okWide P w r b0 t v) (hd : DataW.Trod enc P w base spare held t v d ps) :
    ∃ l : List Int, l.length = n ∧ v = AG (l.map I) ∧ ∀ y ∈ l, InI y := by
  obtain ⟨cs, rfl⟩ := okWide_cells ht hval
  obtain ⟨fuel, hf⟩ := hd
  obtain ⟨l, hl, hc, hy⟩ := F hf
  refine ⟨l, hl, ?_, hy⟩
  have : cs.toList = l.map I := hc
  show Value.agg cs = Value.agg (l.map I).toArray
  rw [← this]
end
end Go.Fx

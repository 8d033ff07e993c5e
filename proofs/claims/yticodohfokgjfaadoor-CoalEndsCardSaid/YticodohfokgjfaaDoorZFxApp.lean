/- Part of a logic of my own for walks: rules by which a proof steps through code, proved once. -/
import Derived.Test.YticodohfokgjfaaDoorZFxRange
import Derived.Laws.AppendOwn
import Derived.Laws.AppendOwnNone
set_option linter.unusedSimpArgs false
set_option linter.unusedVariables false
namespace Go.Fx
open Go

def intE (x : Int) : List Value := [.int .i64 x]
theorem intE_len (x : Int) : (intE x).length = 1 := rfl
theorem intE_one (x : Int) : ∀ u ∈ intE x, u.oneCell' = true := by simp [intE, Value.oneCell']
section
variable {α : Type} {enc : α → List Value} {s : Nat}
theorem flat_len (he : ∀ x, (enc x).length = s) : ∀ l : List α, (l.flatMap enc).length = l.length * s
  | [] => by simp
  | x :: l => by rw [List.flatMap_cons, List.length_append, flat_len he l, he, List.length_cons, Nat.succ_mul]; omega
theorem flat_get (he : ∀ x, (enc x).length = s) : ∀ (l : List α) (i : Nat) (x : α) (j : Nat), l[i]? = some x → j < s → (l.flatMap enc)[i * s + j]? = (enc x)[j]?
  | [], _, _, _, h, _ => by simp at h
  | y :: l, 0, x, j, h, hj => by
    simp at h; subst h
    rw [List.flatMap_cons, Nat.zero_mul, Nat.zero_add, List.getElem?_append_left (by rw [he]; exact hj)]
  | y :: l, i + 1, x, j, h, hj => by
    rw [List.flatMap_cons, Nat.succ_mul, List.getElem?_append_right (by rw [he]; omega), he, show i * s + s + j - s = i * s + j by omega]
    exact flat_get he l i x j (by simpa using h) hj
theorem flat_inv (he : ∀ x, (enc x).length = s) : ∀ (l : List α) (k : Nat) (u : Value), (l.flatMap enc)[k]? = some u → ∃ i x j, l[i]? = some x ∧ (enc x)[j]? = some u ∧ k = i * s + j
  | [], _, _, h => by simp at h
  | y :: l, k, u, h => by
    rw [List.flatMap_cons] at h
    rcases Nat.lt_or_ge k s with hk | hk
    · rw [List.getElem?_append_left (by rw [he]; exact hk)] at h
      exact ⟨0, y, k, rfl, h, by omega⟩
    · rw [List.getElem?_append_right (by rw [he]; exact hk), he] at h
      obtain ⟨i, x, j, h1, h2, h3⟩ := flat_inv he l _ u h
      exact ⟨i + 1, x, j, by simpa using h1, h2, by rw [Nat.succ_mul]; omega⟩
/-- a read slice's cells, as one row -/
theorem sl_flat (he : ∀ x, (enc x).length = s) {b : Nat} {o : Nat} {l : List α} {w : World} (h : (sl enc s (some ⟨b, o, none⟩) l).ok w) : ∀ k u, (l.flatMap enc)[k]? = some u → w.cell? ((⟨b, o, none⟩ : Addr).add k) = some u := by
  intro k u hu
  obtain ⟨i, x, j, h1, h2, rfl⟩ := flat_inv he l k u hu
  rcases h with h | ⟨b', o', e, _, h⟩
  · subst h; simp at h1
  · cases e
    have := h i x h1 j u h2
    unfold Addr.add
    split
    · rename_i h0
      simp only [show o + i * s + j = o from by omega] at this
      exact this
    · simpa [Nat.add_assoc] using this
theorem sl_some {A : Option Addr} {l : List α} {w : World} (h : (sl enc s A l).ok w) (hl : l ≠ []) : ∃ b o, A = some ⟨b, o, none⟩ ∧ b < w.heap.size := by
  rcases h with h | ⟨b, o, e, hb, _⟩
  · exact absurd h hl
  · exact ⟨b, o, e, hb⟩
/-- an own row that may still grow -/
def gr (enc : α → List Value) (s : Nat) (e : TypeId) (A : Option Addr) (c : Nat) (l : List α) : Asr where
  fp b := Value.ownBlock (.slice A l.length c) = some b
  ok w := w.ownsRow 0 e s (.slice A l.length c) l.length (l.flatMap enc)
  mono w w' h k := by
    refine ⟨h.1, ?_⟩
    rcases h.2 with h | ⟨g, cap, cur, h1, h2, h3, h4⟩
    · exact .inl h
    · refine .inr ⟨g, cap, cur, h1, h2, ?_, h4⟩
      rw [← h3]
      exact k g (by rw [h1]; rfl)
  inb w b h hb := (World.ownsRow.lt h b hb).2
theorem gr_nil {enc : α → List Value} {s e : Nat} {w : World} : (gr enc s e none 0 ([] : List α)).ok w := ⟨by simp, .inl ⟨rfl, rfl⟩⟩
theorem gr_sl (he : ∀ x, (enc x).length = s) {e c : Nat} {A : Option Addr} {l : List α} {w : World} (h : (gr enc s e A c l).ok w) : (sl enc s A l).ok w := by
  rcases h.2 with ⟨h1, h2⟩ | ⟨g, cap, cur, h1, h2, h3, h4, h5, h6, h7⟩
  · exact .inl (List.eq_nil_of_length_eq_zero h2)
  · cases h1
    refine .inr ⟨g, 0, rfl, (Array.getElem?_eq_some_iff.1 h3).1, fun i x hi j v hj => ?_⟩
    have hjs : j < s := by
      have := (List.getElem?_eq_some_iff.1 hj).1
      rwa [he] at this
    have := flat_get he l i x j hi hjs
    rw [hj, ← h7, List.getElem?_take] at this
    split at this
    · rw [cell_of h3]; simpa using this
    · cases this
theorem gr_le {enc : α → List Value} {s e c : Nat} {A : Option Addr} {l : List α} {w : World} (h : (gr enc s e A c l).ok w) : l.length ≤ c := by
  rcases h.2 with ⟨q1, q2⟩ | ⟨g, cap, cur, q1, q2, q3, q4, _⟩
  · omega
  · simp at q1; omega
theorem gr_fp {enc : α → List Value} {s e c : Nat} {A : Option Addr} {l : List α} : ∀ b, (sl enc s A l).fp b → (gr enc s e A c l).fp b := by
  rintro b ⟨_, a, rfl, rfl⟩; rfl
end

section
variable {α : Type} {enc : α → List Value} {s : Nat}
variable {ro : Option Nat} {P : Program} {full : Array Oper} {Q : Exit → Act → World → Prop} {n : Nat} {d : List Deferred} {e : Env} {w w0 : World} {C : Nat → Prop} {X L : List Asr}
variable {rest : List Oper} {ty : TypeId} {ps : String} {af : Array Edge}
theorem slc_und {t el s : Nat} (h : slcOf P t = some (el, s)) : P.underlying t = some (.slice el) ∧ sizOf P el = some s := by
  unfold slcOf at h
  split at h
  · rename_i el' hu
    obtain ⟨s', hs, h⟩ := Option.map_eq_some_iff.1 h
    cases h
    exact ⟨hu, hs⟩
  · cases h
theorem info_of {t z s b : _} (h : infoOf P t = some (some z, s, b)) : ∃ i, P.info? t = some i ∧ i.zero = some z ∧ i.size = s ∧ i.bytes = b := by
  unfold infoOf at h
  cases hi : P.info? t with
  | none => simp [hi] at h
  | some i => simp only [hi, Option.map_some, Option.some.injEq, Prod.mk.injEq] at h; exact ⟨i, rfl, h⟩
theorem St.addNil (S : St w0 C w X L) (enc : α → List Value) (s e : Nat) : St w0 C w (gr enc s e none 0 [] :: X) L := by
  have hf : ∀ b, ¬ (gr enc s e none 0 ([] : List α)).fp b := fun b h => by cases h
  exact S.addX' gr_nil (fun b h => (hf b h).elim) (fun _ _ b h => (hf b h).elim) (fun _ _ b h => (hf b h).elim)
/-- a slice built of its elements -/
def zrow (z : Value) (k : Nat) : Array Value := ((List.range k).map (fun j => z.cells.toList.getD (j % z.cells.size) default)).toArray
theorem o_bsl {t i len el s bb : Nat} {zs : Array Value} {parts : Array (Nat × Operand)} {vals : List (Nat × Value)} {z : Value} {cs : Array Value} (hT : slcOf P t = some (el, s)) (hz : infoOf P el = some (some z, s, bb))
    (hv : parts.toList.map (fun (i, x) => (i, evn n e x)) = vals) (h0 : 0 < len * s) (h1 : len * s ≤ 2 ^ 24)
    (hzs : zrow z (len * s) = zs) (hf : Instr.fill (fun i => some (i * s, s)) zs vals = some cs) (S : St w0 C w X L)
    (h : ∀ b w', b = w.heap.size → St w0 C w' (bx b (.cells cs el) :: X) L → wpA ro P full Q rest (E n (upd e i (.slice (some ⟨b, 0, none⟩) len len)) d) w') :
    wpA ro P full Q (⟨some i, .buildSlice t len parts, ty, ps, af, none⟩ :: rest) (E n e d) w := by
  obtain ⟨hu, hs⟩ := slc_und hT
  obtain ⟨it, h2, h3, h4, h5⟩ := info_of hz
  refine op_val (v := .slice (some ⟨w.heap.size, 0, none⟩) len len) (w' := w.alloc (.cells cs el)) rfl (fun _ h => by cases h) ?_ (h _ _ rfl (S.alloc _))
  have hv' : (parts.map fun (i, x) => (i, evn n e x)).toList = vals := by rw [Array.toList_map, hv]
  have hne : ¬ (len * s = 0) := by omega
  have hle : ¬ (len * s > 2 ^ 24) := by omega
  have hzr : (zeroValue el).run P w = .ok z w := by simp [zeroValue, typeInfo, h2, h3]
  have hq : (Array.range (len * s)).map (fun k => z.cells[k % z.cells.size]!) = ((List.range (len * s)).map (fun k => z.cells.toList.getD (k % z.cells.size) default)).toArray := by
    apply Array.ext'
    simp [Array.toList_range]
    intro a _
    rw [getElem!_def]
    cases z.cells[a % z.cells.size]? <;> rfl
  rw [← hzs, zrow, ← hq] at hf
  simp only [execOp, Instr.buildSlice, Sem.run_bind, run_und hu, Result.andThen_ok, run_sizeOf hs, if_neg hle, if_neg hne, hzr, hv', Sem.run_pure, hf]
  simp [newRow, hf]
theorem o_bsl0 {t i el s : Nat} (hT : slcOf P t = some (el, s)) (S : St w0 C w X L)
    (h : ∀ b w', b = w.heap.size → St w0 C w' (bx b (.cells #[] el) :: X) L → wpA ro P full Q rest (E n (upd e i (.slice (some ⟨b, 0, none⟩) 0 0)) d) w') :
    wpA ro P full Q (⟨some i, .buildSlice t 0 #[], ty, ps, af, none⟩ :: rest) (E n e d) w := by
  obtain ⟨hu, hs⟩ := slc_und hT
  refine op_val (v := .slice (some ⟨w.heap.size, 0, none⟩) 0 0) (w' := w.alloc (.cells #[] el)) rfl (fun _ h => by cases h) ?_ (h _ _ rfl (S.alloc _))
  simp [execOp, Instr.buildSlice, run_und hu, run_sizeOf hs, newRow, Instr.fill]
  congr 2
  exact Array.eq_empty_of_size_eq_zero (by simp)
theorem run_append {st i : Nat} {x y : Operand} {vx vy v : Value} {w' : World} (hx : evn n e x = vx) (hy : evn n e y = vy) (hr : (Builtin.append_ #[st, st] ty #[vx, vy]).run P w = .ok v w') :
    (execOp (evn n e) ⟨some i, .call ⟨.builtin .append, #[x, y], #[st, st]⟩, ty, ps, af, none⟩).run P w = .ok (.value v) w' := by
  simp [execOp, resolve, hx, hy, invoke, builtin, hr]
/-- a row behind an append that took a new block -/
theorem grown_row {el bb need old : Nat} {z : Value} {l : List α} (he : ∀ x, (enc x).length = s) (hzs : z.cells.size = s) (hl : l.length = need) (hbig : need ≤ maxLen) (pre : Array Value) (hp : pre.toList = l.flatMap enc) :
    (gr enc s el (some ⟨w.heap.size, 0, none⟩) (grownCap w need old el) l).ok (w.drew.alloc (.cells (pre ++ Builtin.zeroCells z.cells (grownCap w need old el - need)) el)) := by
  subst hl
  have hge := grownCap_ge w l.length old el
  have hsz : pre.size = l.length * s := by rw [← flat_len he l, ← hp]; simp
  refine ⟨flat_len he l, .inr ⟨w.heap.size, _, _, rfl, Nat.zero_le _, heap_alloc_new w.drew _, hge, grownCap_le_maxLen w _ old el hbig, ?_, ?_⟩⟩
  · simp only [Array.size_append, size_zeroCells, hzs, hsz, ← Nat.add_mul]
    congr 1
    omega
  · rw [Array.toList_append, hp, ← flat_len he l]
    exact List.take_left
theorem small_of {m bb : Nat} (h : m * bb ≤ 140737488355328) (hb : 0 < bb) : m ≤ 140737488355328 ∧ m * bb ≤ 140737488355328 :=
  ⟨Nat.le_trans (Nat.le_mul_of_pos_right m hb) h, h⟩
/-- append to an own row -/
theorem o_app {st i el s bb k : Nat} {x y : Operand} {A B : Option Addr} {c nl m c2 : Nat} {z : Value} {enc : α → List Value} {l ys : List α} (hx : evn n e x = .slice A nl c) (hy : evn n e y = .slice B m c2) (hT : slcOf P st = some (el, s)) (hz : infoOf P el = some (some z, s, bb)) (hzs : z.cells.size = s)
    (he : ∀ x, (enc x).length = s) (h1 : ∀ x, ∀ u ∈ enc x, u.oneCell' = true) (S : St w0 C w X L) (hi : X[k]? = some (gr enc s el A c l)) (hnl : nl = l.length) (hm : m = ys.length) (hys : (sl enc s B ys).ok w) (hne : ys ≠ [])
    (hbig : (l.length + ys.length) * bb ≤ 140737488355328) (hbb : 0 < bb)
    (h : ∀ A' c' w', St w0 C w' (X.set k (gr enc s el (some A') c' (l ++ ys))) L → wpA ro P full Q rest (E n (upd e i (.slice (some A') (nl + m) c')) d) w') :
    wpA ro P full Q (⟨some i, .call ⟨.builtin .append, #[x, y], #[st, st]⟩, ty, ps, af, none⟩ :: rest) (E n e d) w := by
  subst hnl hm
  obtain ⟨b, o, rfl, hb⟩ := sl_some hys hne
  obtain ⟨hu, hs⟩ := slc_und hT
  obtain ⟨it, h2, h3, h4, h5⟩ := info_of hz
  subst h4 h5
  have hown : w.ownsRow 0 el it.size (.slice A l.length c) l.length (l.flatMap enc) := S.atX hi
  obtain ⟨hb1, hb2⟩ := small_of hbig hbb
  have hlen : l.length + ys.length = (l ++ ys).length := by simp
  have hyp : 0 < ys.length := List.length_pos_iff.2 hne
  have hfy := sl_flat he hys
  have hly := flat_len he ys
  have fin : ∀ (old : Nat) (pre : Array Value), pre.toList = (l ++ ys).flatMap enc → (Builtin.append_ #[st, st] ty #[.slice A l.length c, .slice (some ⟨b, o, none⟩) ys.length c2]).run P w =
      .ok (.slice (some ⟨w.heap.size, 0, none⟩) (l.length + ys.length) (grownCap w (l.length + ys.length) old el)) (w.drew.alloc (.cells (pre ++ Builtin.zeroCells z.cells (grownCap w (l.length + ys.length) old el - (l.length + ys.length))) el)) →
      wpA ro P full Q (⟨some i, .call ⟨.builtin .append, #[x, y], #[st, st]⟩, ty, ps, af, none⟩ :: rest) (E n e d) w := by
    intro old pre hp hr
    have hg := grown_row (w := w) (el := el) (bb := it.bytes) (old := old) (z := z) he hzs hlen.symm (by simp only [maxLen]; omega) pre hp
    refine op_val rfl (fun _ h => by cases h) (run_append hx hy hr) (h _ _ _ (S.turn hi hg (fun b' hb' => .inr ?_) rfl rfl rfl (by simp) fun b' hb' _ => heap_alloc_old w.drew _ _ hb'))
    have : w.heap.size = b' := by simpa [gr, Value.ownBlock] using hb'
    omega
  rcases hown.2 with ⟨q1, q2⟩ | ⟨g, cap, cur, q1, q2, q3, q4, q5, q6, q7⟩
  · have hA : A = none ∧ c = 0 := by simp at q1; exact ⟨q1.1, q1.2.2⟩
    have hl : l = [] := List.eq_nil_of_length_eq_zero q2
    obtain ⟨rfl, rfl⟩ := hA
    subst hl
    have hr := run_append_nil (P := P) w st ty el it z hu h2 h3 ⟨b, o, none⟩ ys.length c2 (ys.flatMap enc) hly hfy hyp (by simp at hb1; omega) (by simp at hb2; omega)
    exact fin 0 (ys.flatMap enc).toArray (by simp) (by simpa using hr)
  · have hA : A = some ⟨g, 0, none⟩ ∧ c = cap := by simp at q1; exact q1
    obtain ⟨rfl, rfl⟩ := hA
    by_cases hroom : l.length + ys.length ≤ c
    · have hfit : l.length * it.size + (ys.flatMap enc).length ≤ cur.size := by rw [hly, q6, ← Nat.add_mul]; exact Nat.mul_le_mul_right _ hroom
      have hr := run_append_room (P := P) w st ty el it hu h2 g l.length c cur q3 ⟨b, o, none⟩ ys.length c2 (ys.flatMap enc) hly hfy (fun u hu => by
        obtain ⟨x, _, hx⟩ := List.mem_flatMap.1 hu
        exact h1 x u hx) hroom hfit
      refine op_val rfl (fun _ h => by cases h) (run_append hx hy hr) (h _ _ _ (S.turn hi (y := gr enc it.size el (some ⟨g, 0, none⟩) c (l ++ ys)) ⟨flat_len he _, .inr ⟨g, c, _, rfl, Nat.zero_le _, setRow_heap w g cur _ el _ q3, by omega, q5, ?_, ?_⟩⟩ (fun b' hb' => .inl ?_) rfl rfl rfl (by simp) fun b' hb' hn => setRow_other w g b' _ fun hh => hn (by subst hh; rfl)))
      · simp only [List.size_toArray, List.length_append, List.length_take, List.length_drop, Array.length_toList]
        omega
      · have : (l ++ ys).length * it.size = (l.flatMap enc ++ ys.flatMap enc).length := by rw [← hlen, Nat.add_mul, ← flat_len he l, ← hly, List.length_append]
        rw [q7, this, List.flatMap_append]
        exact List.take_left
      · have : g = b' := by simpa [gr, Value.ownBlock] using hb'
        subst this; rfl
    · have hr := run_append_grow (P := P) w st ty el it z hu h2 h3 ⟨g, 0, none⟩ l.length c (l.flatMap enc) hown.1 (hown.cells (g := g) rfl) ⟨b, o, none⟩ ys.length c2 (ys.flatMap enc) hly hfy (by omega) (by omega) (growslice_fits (by omega) hb2)
      exact fin c ((l.flatMap enc).toArray ++ (ys.flatMap enc).toArray) (by simp) hr
/-- append to a full slice that is only read: a new row -/
theorem o_appN {st i el s bb : Nat} {x y : Operand} {A B : Option Addr} {c nl m c2 : Nat} {z : Value} {enc : α → List Value} {l ys : List α} (hx : evn n e x = .slice A nl c) (hy : evn n e y = .slice B m c2) (hT : slcOf P st = some (el, s)) (hz : infoOf P el = some (some z, s, bb)) (hzs : z.cells.size = s)
    (he : ∀ x, (enc x).length = s) (S : St w0 C w X L) (hl : (sl enc s A l).ok w) (hA : A = none → c = 0) (hnl : nl = l.length) (hc : c = l.length) (hm : m = ys.length) (hys : (sl enc s B ys).ok w) (hne : ys ≠ [])
    (hbig : (l.length + ys.length) * bb ≤ 140737488355328) (hbb : 0 < bb)
    (h : ∀ b c' w', b = w.heap.size → St w0 C w' (gr enc s el (some ⟨b, 0, none⟩) c' (l ++ ys) :: X) L → wpA ro P full Q rest (E n (upd e i (.slice (some ⟨b, 0, none⟩) (nl + m) c')) d) w') :
    wpA ro P full Q (⟨some i, .call ⟨.builtin .append, #[x, y], #[st, st]⟩, ty, ps, af, none⟩ :: rest) (E n e d) w := by
  subst hnl hm
  obtain ⟨b, o, rfl, hb⟩ := sl_some hys hne
  obtain ⟨hu, hs⟩ := slc_und hT
  obtain ⟨it, h2, h3, h4, h5⟩ := info_of hz
  subst h4 h5
  obtain ⟨hb1, hb2⟩ := small_of hbig hbb
  have hlen : l.length + ys.length = (l ++ ys).length := by simp
  have hyp : 0 < ys.length := List.length_pos_iff.2 hne
  have hfy := sl_flat he hys
  have hly := flat_len he ys
  have fin : ∀ (old : Nat) (pre : Array Value), pre.toList = (l ++ ys).flatMap enc → (Builtin.append_ #[st, st] ty #[.slice A l.length c, .slice (some ⟨b, o, none⟩) ys.length c2]).run P w =
      .ok (.slice (some ⟨w.heap.size, 0, none⟩) (l.length + ys.length) (grownCap w (l.length + ys.length) old el)) (w.drew.alloc (.cells (pre ++ Builtin.zeroCells z.cells (grownCap w (l.length + ys.length) old el - (l.length + ys.length))) el)) →
      wpA ro P full Q (⟨some i, .call ⟨.builtin .append, #[x, y], #[st, st]⟩, ty, ps, af, none⟩ :: rest) (E n e d) w := by
    intro old pre hp hr
    have hg := grown_row (w := w) (el := el) (bb := it.bytes) (old := old) (z := z) he hzs hlen.symm (by simp only [maxLen]; omega) pre hp
    have S1 := S.drew.alloc (.cells (pre ++ Builtin.zeroCells z.cells (grownCap w (l.length + ys.length) old el - (l.length + ys.length))) el)
    have S2 := S1.turn (i := 0) rfl hg (fun b' hb' => .inl (by
      have : w.heap.size = b' := by simpa [gr, Value.ownBlock] using hb'
      exact this.symm)) rfl rfl rfl (Nat.le_refl _) (fun _ _ _ => rfl)
    exact op_val rfl (fun _ h => by cases h) (run_append hx hy hr) (h _ _ _ rfl S2)
  cases A with
  | none =>
    have hl0 : l = [] := by
      rcases hl with h | ⟨_, _, h, _⟩
      · exact h
      · cases h
    have hc0 := hA rfl
    subst hl0 hc0
    have hr := run_append_nil (P := P) w st ty el it z hu h2 h3 ⟨b, o, none⟩ ys.length c2 (ys.flatMap enc) hly hfy hyp (by simp at hb1; omega) (by simp at hb2; omega)
    exact fin 0 (ys.flatMap enc).toArray (by simp) (by simpa using hr)
  | some a =>
    have hcell : ∀ j v, (l.flatMap enc)[j]? = some v → w.cell? (a.add j) = some v := by
      by_cases h0 : l = []
      · subst h0; intro j v hj; simp at hj
      · obtain ⟨b1, o1, h1, _⟩ := sl_some hl h0
        cases h1
        exact sl_flat he hl
    subst hc
    have hr := run_append_grow (P := P) w st ty el it z hu h2 h3 a l.length l.length (l.flatMap enc) (flat_len he l) hcell ⟨b, o, none⟩ ys.length c2 (ys.flatMap enc) hly hfy (by omega) (by omega) (growslice_fits (by omega) hb2)
    exact fin l.length ((l.flatMap enc).toArray ++ (ys.flatMap enc).toArray) (by simp) hr
end
end Go.Fx

/- Part of a logic of my own for walks: rules by which a proof steps through code, proved once. -/
import Derived.Test.YticodohfokgjfaaDoorZFxDraw
set_option linter.unusedSimpArgs false
set_option linter.unusedVariables false
namespace Go.Fx
open Go
theorem w64 {x : Int} (h0 : -9223372036854775808 ≤ x) (h1 : x ≤ 9223372036854775807) : IntKind.i64.wrap x = x := by
  simp only [IntKind.wrap, IntKind.bits, IntKind.signed]
  simp
  omega
theorem box_cells {w : World} {b : Nat} {c : Array Value} {t : TypeId} {z : Nat × Nat} (hB : w.heap[b]? = some (.cells c t z)) {o : Nat} {cs : List Value} (h : (c.toList.drop o).take cs.length = cs) : ∀ j v, cs[j]? = some v → w.cell? ⟨b, o + j, none⟩ = some v := by
  intro j v hj
  rw [cell_of hB]
  rw [← h] at hj
  rw [List.getElem?_take] at hj
  split at hj
  · rw [List.getElem?_drop] at hj
    simpa using hj
  · cases hj
section
variable {α : Type}
/-- a slice that is only read: enc tells an element's cells, s how many they are -/
def sl (enc : α → List Value) (s : Nat) (A : Option Addr) (xs : List α) : Asr where
  fp b := xs ≠ [] ∧ ∃ a, A = some a ∧ a.block = b
  ok w := xs = [] ∨ ∃ b o, A = some ⟨b, o, none⟩ ∧ b < w.heap.size ∧ ∀ i x, xs[i]? = some x → ∀ j v, (enc x)[j]? = some v → w.cell? ⟨b, o + i * s + j, none⟩ = some v
  mono w w' h k := by
    rcases h with h | ⟨b, o, rfl, hb, h⟩
    · exact .inl h
    · by_cases hx : xs = []
      · exact .inl hx
      · have hk := k b ⟨hx, _, rfl, rfl⟩
        refine .inr ⟨b, o, rfl, ?_, fun i x hi j v hj => ?_⟩
        · rw [Array.getElem?_eq_getElem hb] at hk
          exact (Array.getElem?_eq_some_iff.1 hk).1
        · rw [← h i x hi j v hj]
          exact World.cell?_of_block (w := w) hk
  inb w b h hf := by
    obtain ⟨hx, a, rfl, rfl⟩ := hf
    rcases h with h | ⟨b, o, h1, hb, _⟩
    · exact absurd h hx
    · cases h1; exact hb
theorem sl_at {enc : α → List Value} {s : Nat} {A : Option Addr} {xs : List α} {w : World} {k : Nat} {x : α} (h : (sl enc s A xs).ok w) (hk : xs[k]? = some x) :
    ∃ b o, A = some ⟨b, o, none⟩ ∧ ∀ j v, (enc x)[j]? = some v → w.cell? ⟨b, o + k * s + j, none⟩ = some v := by
  rcases h with h | ⟨b, o, h1, _, h⟩
  · subst h; simp at hk
  · exact ⟨b, o, h1, h k x hk⟩
theorem sl_nil {enc : α → List Value} {s : Nat} {A : Option Addr} {w : World} : (sl enc s A []).ok w := .inl rfl
end

section
variable {ro : Option Nat} {P : Program} {full : Array Oper} {Q : Exit → Act → World → Prop} {n : Nat} {d : List Deferred} {e : Env} {w : World}
variable {rest : List Oper} {ty : TypeId} {ps : String} {af : Array Edge}
/-- an index at a slice of one-cell elements, and its load's cell -/
theorem run_bound {x : Value} {k : IntKind} {i : Int} {y : Nat} {c : BoundsCode} (hx : x = .int k i) (h0 : 0 ≤ i) (h1 : i ≤ y) : (Instr.sliceBound x y c).run P w = .ok i.toNat w := by
  subst hx
  simp [Instr.sliceBound, asIntOf, h0, h1]
/-- xs[:k:k] -/
theorem o_cut3 {t i : Nat} {x hi mx : Operand} {A : Option Addr} {len cp el s : Nat} {k1 k2 : IntKind} {a b : Int} (hx : evn n e x = .slice A len cp) (hT : slcOf P t = some (el, s)) (hhi : evn n e hi = .int k1 a) (hmx : evn n e mx = .int k2 b)
    (h0 : 0 ≤ a) (h1 : a ≤ b) (h2 : b ≤ cp)
    (h : wpA ro P full Q rest (E n (upd e i (.slice A a.toNat b.toNat)) d) w) :
    wpA ro P full Q (⟨some i, .slice t x none (some hi) (some mx), ty, ps, af, none⟩ :: rest) (E n e d) w := by
  refine op_val (v := .slice A a.toNat b.toNat) rfl (fun _ h => by cases h) ?_ h
  unfold slcOf at hT
  split at hT
  · rename_i el' hu
    obtain ⟨s', hs, hT⟩ := Option.map_eq_some_iff.1 hT
    cases hT
    have hb0 : 0 ≤ b := by omega
    have hab : a ≤ (b.toNat : Int) := by omega
    have hadd : (A.map (·.add (0 * s))) = A := by cases A <;> simp [Addr.add]
    simp [execOp, Instr.sliceAt, run_und hu, Instr.slice, hx, hhi, hmx, Instr.sliceBounds, run_bound rfl hb0 h2, run_bound (y := b.toNat) rfl h0 hab, run_sizeOf hs]
    intro _
    cases A <;> simp [Addr.add]
  · cases hT
theorem o_cut3E {t i : Nat} {x hi mx : Operand} {A : Option Addr} {len cp el s : Nat} {k1 k2 : IntKind} {a b : Int} {n1 n2 : Nat} (hx : evn n e x = .slice A len cp) (hT : slcOf P t = some (el, s)) (hhi : evn n e hi = .int k1 a) (hmx : evn n e mx = .int k2 b)
    (h0 : 0 ≤ a) (h1 : a ≤ b) (h2 : b ≤ cp) (e1 : a.toNat = n1) (e2 : b.toNat = n2)
    (h : wpA ro P full Q rest (E n (upd e i (.slice A n1 n2)) d) w) :
    wpA ro P full Q (⟨some i, .slice t x none (some hi) (some mx), ty, ps, af, none⟩ :: rest) (E n e d) w := by
  subst e1 e2
  exact o_cut3 hx hT hhi hmx h0 h1 h2 h
theorem sl_none0 {α : Type} {enc : α → List Value} {s : Nat} {A : Option Addr} {xs : List α} {w : World} (h : (sl enc s A xs).ok w) (hA : A = none) : xs.length = 0 := by
  rcases h with h | ⟨b, o, h1, _⟩
  · subst h; rfl
  · rw [hA] at h1; cases h1
end
end Go.Fx

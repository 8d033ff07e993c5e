/- Part of a logic of my own for walks: rules by which a proof steps through code, proved once. -/
import Derived.Test.YtplpalmabgjibaaDoorZFxDraw
set_option linter.unusedSimpArgs false
set_option linter.unusedVariables false
namespace Go.Fx
open Go
theorem notT {b : Bool} (h : (!b) = true) : b = false := by cases b <;> simp_all
theorem notF {b : Bool} (h : (!b) = false) : b = true := by cases b <;> simp_all
theorem w64 {x : Int} (h0 : -9223372036854775808 ≤ x) (h1 : x ≤ 9223372036854775807) : IntKind.i64.wrap x = x := by
  simp only [IntKind.wrap, IntKind.bits, IntKind.signed]
  simp
  omega
theorem box_cells {w : World} {b : Nat} {c : Array Value} {t : TypeId} {z : Nat × Nat} (hB : w.heap[b]? = some (.cells c t z)) {o : Nat} {cs : List Value} (h : (c.toList.drop o).take cs.length = cs) : ∀ j v, cs[j]? = some v → w.cell? ⟨b, o + j, none⟩ = some v := by
  intro j v hj
  rw [cell_of hB]
  rw [← h] at hj
  rw [List.getElem?_take] at hj
  split at hj
  · rw [List.getElem?_drop] at hj
    simpa using hj
  · cases hj
section
variable {α : Type}
/-- a slice that is only read: enc tells an element's cells, s how many they are -/
def sl (enc : α → List Value) (s : Nat) (A : Option Addr) (xs : List α) : Asr where
  fp b := xs ≠ [] ∧ ∃ a, A = some a ∧ a.block = b
  ok w := xs = [] ∨ ∃ b o, A = some ⟨b, o, none⟩ ∧ b < w.heap.size ∧ ∀ i x, xs[i]? = some x → ∀ j v, (enc x)[j]? = some v → w.cell? ⟨b, o + i * s + j, none⟩ = some v
  mono w w' h k := by
    rcases h with h | ⟨b, o, rfl, hb, h⟩
    · exact .inl h
    · by_cases hx : xs = []
      · exact .inl hx
      · have hk := k b ⟨hx, _, rfl, rfl⟩
        refine .inr ⟨b, o, rfl, ?_, fun i x hi j v hj => ?_⟩
        · rw [Array.getElem?_eq_getElem hb] at hk
          exact (Array.getElem?_eq_some_iff.1 hk).1
        · rw [← h i x hi j v hj]
          exact World.cell?_of_block (w := w) hk
  inb w b h hf := by
    obtain ⟨hx, a, rfl, rfl⟩ := hf
    rcases h with h | ⟨b, o, h1, hb, _⟩
    · exact absurd h hx
    · cases h1; exact hb
theorem sl_at {enc : α → List Value} {s : Nat} {A : Option Addr} {xs : List α} {w : World} {k : Nat} {x : α} (h : (sl enc s A xs).ok w) (hk : xs[k]? = some x) :
    ∃ b o, A = some ⟨b, o, none⟩ ∧ ∀ j v, (enc x)[j]? = some v → w.cell? ⟨b, o + k * s + j, none⟩ = some v := by
  rcases h with h | ⟨b, o, h1, _, h⟩
  · subst h; simp at hk
  · exact ⟨b, o, h1, h k x hk⟩
theorem sl_nil {enc : α → List Value} {s : Nat} {A : Option Addr} {w : World} : (sl enc s A []).ok w := .inl rfl
/-- a part of a slice -/
theorem sl_cut {enc : α → List Value} {s : Nat} {b o : Nat} {xs : List α} {w : World} (h : (sl enc s (some ⟨b, o, none⟩) xs).ok w) (lo hi : Nat) : (sl enc s (some ⟨b, o + lo * s, none⟩) ((xs.take hi).drop lo)).ok w := by
  rcases h with h | ⟨b', o', h1, hb, h⟩
  · subst h; exact .inl (by simp)
  · cases h1
    refine .inr ⟨b, o + lo * s, rfl, hb, fun i x hi' j v hj => ?_⟩
    rw [List.getElem?_drop, List.getElem?_take] at hi'
    split at hi'
    · have := h (lo + i) x hi' j v hj
      rw [← this]
      congr 2
      rw [Nat.add_mul]; omega
    · cases hi'
end

section
variable {ro : Option Nat} {P : Program} {full : Array Oper} {Q : Exit → Act → World → Prop} {n : Nat} {d : List Deferred} {e : Env} {w : World}
variable {rest : List Oper} {ty : TypeId} {ps : String} {af : Array Edge}
/-- an index at a slice of one-cell elements, and its load's cell -/
theorem run_bound {x : Value} {k : IntKind} {i : Int} {y : Nat} {c : BoundsCode} (hx : x = .int k i) (h0 : 0 ≤ i) (h1 : i ≤ y) : (Instr.sliceBound x y c).run P w = .ok i.toNat w := by
  subst hx
  simp [Instr.sliceBound, asIntOf, h0, h1]
/-- xs[lo:hi] -/
theorem o_cut {t i : Nat} {x lo hi : Operand} {A : Option Addr} {len cp el s : Nat} {k1 k2 : IntKind} {a b : Int} (hx : evn n e x = .slice A len cp) (hT : slcOf P t = some (el, s)) (hlo : evn n e lo = .int k1 a) (hhi : evn n e hi = .int k2 b)
    (h0 : 0 ≤ a) (h1 : a ≤ b) (h2 : b ≤ cp)
    (h : ∀ A', A' = (if cp = a.toNat then A else A.map (·.add (a.toNat * s))) → wpA ro P full Q rest (E n (upd e i (.slice A' (b.toNat - a.toNat) (cp - a.toNat))) d) w) :
    wpA ro P full Q (⟨some i, .slice t x (some lo) (some hi) none, ty, ps, af, none⟩ :: rest) (E n e d) w := by
  refine op_val (v := .slice (if cp = a.toNat then A else A.map (·.add (a.toNat * s))) (b.toNat - a.toNat) (cp - a.toNat)) rfl (fun _ h => by cases h) ?_ (h _ rfl)
  unfold slcOf at hT
  split at hT
  · rename_i el' hu
    obtain ⟨s', hs, hT⟩ := Option.map_eq_some_iff.1 hT
    cases hT
    have hb0 : 0 ≤ b := by omega
    have hab : a ≤ (b.toNat : Int) := by omega
    simp [execOp, Instr.sliceAt, run_und hu, Instr.slice, hx, hlo, hhi, Instr.sliceBounds, run_bound rfl hb0 h2, run_bound (y := b.toNat) rfl h0 hab, run_sizeOf hs]
  · cases hT
/-- the address of a part -/
def cutA (A : Option Addr) (cp lo s : Nat) : Option Addr := if cp = lo then A else A.map (·.add (lo * s))
theorem sl_cutA {α : Type} {enc : α → List Value} {s cp lo : Nat} {A : Option Addr} {xs : List α} (h : (sl enc s A xs).ok w) (hc : xs.length ≤ cp) (hi : Nat) : (sl enc s (cutA A cp lo s) ((xs.take hi).drop lo)).ok w := by
  unfold cutA
  split
  · have : (xs.take hi).drop lo = [] := List.drop_eq_nil_of_le (by simp; omega)
    rw [this]; exact .inl rfl
  · cases A with
    | none =>
      rcases h with h | ⟨b, o, h1, _⟩
      · subst h; exact .inl (by simp)
      · cases h1
    | some a =>
      rcases h with h | ⟨b, o, h1, h2, h3⟩
      · subst h; exact .inl (by simp)
      · cases h1
        have := sl_cut (.inr ⟨b, o, rfl, h2, h3⟩ : (sl enc s (some ⟨b, o, none⟩) xs).ok w) lo hi
        have ha : (Option.map (fun x : Addr => x.add (lo * s)) (some ⟨b, o, none⟩)) = some ⟨b, o + lo * s, none⟩ := by
          simp only [Option.map_some, Addr.add]
          split <;> simp_all
        rw [ha]; exact this
theorem o_cutE {t i : Nat} {x lo hi : Operand} {A : Option Addr} {len cp el s : Nat} {k1 k2 : IntKind} {a b : Int} {n1 n2 : Nat} (hx : evn n e x = .slice A len cp) (hT : slcOf P t = some (el, s)) (hlo : evn n e lo = .int k1 a) (hhi : evn n e hi = .int k2 b)
    (h0 : 0 ≤ a) (h1 : a ≤ b) (h2 : b ≤ cp) (e1 : a.toNat = n1) (e2 : b.toNat = n2)
    (h : wpA ro P full Q rest (E n (upd e i (.slice (cutA A cp n1 s) (n2 - n1) (cp - n1))) d) w) :
    wpA ro P full Q (⟨some i, .slice t x (some lo) (some hi) none, ty, ps, af, none⟩ :: rest) (E n e d) w := by
  subst e1 e2
  refine o_cut hx hT hlo hhi h0 h1 h2 fun A' hA' => ?_
  subst hA'
  exact h
/-- xs[:k:k] -/
theorem o_cut3 {t i : Nat} {x hi mx : Operand} {A : Option Addr} {len cp el s : Nat} {k1 k2 : IntKind} {a b : Int} (hx : evn n e x = .slice A len cp) (hT : slcOf P t = some (el, s)) (hhi : evn n e hi = .int k1 a) (hmx : evn n e mx = .int k2 b)
    (h0 : 0 ≤ a) (h1 : a ≤ b) (h2 : b ≤ cp)
    (h : wpA ro P full Q rest (E n (upd e i (.slice A a.toNat b.toNat)) d) w) :
    wpA ro P full Q (⟨some i, .slice t x none (some hi) (some mx), ty, ps, af, none⟩ :: rest) (E n e d) w := by
  refine op_val (v := .slice A a.toNat b.toNat) rfl (fun _ h => by cases h) ?_ h
  unfold slcOf at hT
  split at hT
  · rename_i el' hu
    obtain ⟨s', hs, hT⟩ := Option.map_eq_some_iff.1 hT
    cases hT
    have hb0 : 0 ≤ b := by omega
    have hab : a ≤ (b.toNat : Int) := by omega
    have hadd : (A.map (·.add (0 * s))) = A := by cases A <;> simp [Addr.add]
    simp [execOp, Instr.sliceAt, run_und hu, Instr.slice, hx, hhi, hmx, Instr.sliceBounds, run_bound rfl hb0 h2, run_bound (y := b.toNat) rfl h0 hab, run_sizeOf hs]
    intro _
    cases A <;> simp [Addr.add]
  · cases hT
theorem o_cut3E {t i : Nat} {x hi mx : Operand} {A : Option Addr} {len cp el s : Nat} {k1 k2 : IntKind} {a b : Int} {n1 n2 : Nat} (hx : evn n e x = .slice A len cp) (hT : slcOf P t = some (el, s)) (hhi : evn n e hi = .int k1 a) (hmx : evn n e mx = .int k2 b)
    (h0 : 0 ≤ a) (h1 : a ≤ b) (h2 : b ≤ cp) (e1 : a.toNat = n1) (e2 : b.toNat = n2)
    (h : wpA ro P full Q rest (E n (upd e i (.slice A n1 n2)) d) w) :
    wpA ro P full Q (⟨some i, .slice t x none (some hi) (some mx), ty, ps, af, none⟩ :: rest) (E n e d) w := by
  subst e1 e2
  exact o_cut3 hx hT hhi hmx h0 h1 h2 h
theorem sl_none0 {α : Type} {enc : α → List Value} {s : Nat} {A : Option Addr} {xs : List α} {w : World} (h : (sl enc s A xs).ok w) (hA : A = none) : xs.length = 0 := by
  rcases h with h | ⟨b, o, h1, _⟩
  · subst h; rfl
  · rw [hA] at h1; cases h1
end
end Go.Fx

/- Part of a logic of my own for walks: rules by which a proof steps through code, proved once. -/
import Derived.Test.YticodohfokgjfaaDoorZFxNest
import Derived.Laws.MakeOwn
set_option linter.unusedSimpArgs false
set_option linter.unusedVariables false
namespace Go.Fx
open Go
/-! ### an element of a row that is one's own is written to; a row is made -/
section
variable {α : Type} {enc : α → List Value} {s : Nat}
variable {ro : Option Nat} {P : Program} {full : Array Oper} {Q : Exit → Act → World → Prop} {n : Nat} {d : List Deferred} {e : Env} {w w0 : World} {C : Nat → Prop} {X L : List Asr}
variable {rest : List Oper} {ty : TypeId} {ps : String} {af : Array Edge}
theorem gr_block {t c : Nat} {A : Option Addr} {l : List α} (h : (gr enc s t A c l).ok w) (hl : l ≠ []) : ∃ g cur, A = some ⟨g, 0, none⟩ ∧ w.heap[g]? = some (.cells cur t (0, 0)) ∧ l.length ≤ c ∧ c ≤ maxLen ∧ cur.size = c * s ∧ cur.toList.take (l.length * s) = l.flatMap enc := by
  rcases h.2 with ⟨q1, q2⟩ | ⟨g, cap, cur, q1, q2, q3, q4, q5, q6, q7⟩
  · exact absurd (List.eq_nil_of_length_eq_zero q2) hl
  · simp at q1
    obtain ⟨rfl, rfl⟩ := q1
    exact ⟨g, cur, rfl, q3, q4, q5, by simpa using q6, by simpa using q7⟩
theorem p_stE {t el i m c : Nat} {A : Option Addr} {l : List α} {x x' : α} {j : Int} {off : Nat} {a old b vs : List Value} {xo yo : Operand} {v : Value} (hs : sizOf P t = some m) (he : ∀ x, (enc x).length = s) (h1 : ∀ x, ∀ u ∈ enc x, u.oneCell' = true)
    (S : St w0 C w X L) (hi : X[i]? = some (gr enc s el A c l)) (hj : getI l j = some x) (hx : evn n e xo = PE A (j.toNat * s + off)) (hy : evn n e yo = v) (hv : v.cells = vs.toArray) (hm : vs.length = m) (hex : enc x = a ++ old ++ b) (hex' : enc x' = a ++ vs ++ b) (ha : a.length = off) (ho : old.length = vs.length)
    (h : ∀ l' w', l' = l.set j.toNat x' → l'.length = l.length → St w0 C w' (X.set i (gr enc s el A c l')) L → wpA ro P full Q rest (E n e d) w') : wpA ro P full Q (⟨none, .store t xo yo, ty, ps, af, none⟩ :: rest) (E n e d) w := by
  obtain ⟨hj0, hj1⟩ := getI_some hj
  obtain ⟨hjl, hje⟩ := List.getElem?_eq_some_iff.1 hj1
  have hne : l ≠ [] := by intro h; subst h; simp at hjl
  obtain ⟨g, cur, rfl, hg, hlc, hcm, hsz, htk⟩ := gr_block (S.atX hi) hne
  have hgb := (Array.getElem?_eq_some_iff.1 hg).1
  let k := j.toNat
  have hl1 : l = l.take k ++ x :: l.drop (k + 1) := by
    rw [← hje]
    have := List.take_append_drop k l
    rw [List.drop_eq_getElem_cons hjl] at this
    exact this.symm
  have hset : l.set k x' = l.take k ++ x' :: l.drop (k + 1) := List.set_eq_take_append_cons_drop ▸ by rw [if_pos hjl]
  let rst := cur.toList.drop (l.length * s)
  have hcur : cur = (((l.take k).flatMap enc ++ a) ++ old ++ (b ++ (l.drop (k + 1)).flatMap enc ++ rst)).toArray := by
    refine Array.ext' ?_
    have h2 : cur.toList = l.flatMap enc ++ rst := by rw [← htk]; exact (List.take_append_drop _ _).symm
    rw [h2]
    have h3 : l.flatMap enc = (l.take k).flatMap enc ++ (a ++ old ++ b) ++ (l.drop (k + 1)).flatMap enc := by
      conv => lhs; rw [hl1]
      rw [List.flatMap_append, List.flatMap_cons, hex]; simp
    rw [h3]; simp
  have hpl : ((l.take k).flatMap enc ++ a).length = k * s + off := by
    rw [List.length_append, flat_len he, ha, List.length_take, Nat.min_eq_left (Nat.le_of_lt hjl)]
  obtain ⟨nc, hnc⟩ : ∃ nc, nc = (((l.take k).flatMap enc ++ a) ++ vs ++ (b ++ (l.drop (k + 1)).flatMap enc ++ rst)).toArray := ⟨_, rfl⟩
  have hput : putAt cur (k * s + off) vs = nc := by
    conv => lhs; rw [hcur]
    rw [← hpl, hnc]
    exact putAt_toArray vs _ old _ ho
  have hfit : k * s + off + 0 + vs.length ≤ cur.size := by
    have := congrArg Array.size hcur
    simp only [List.size_toArray, List.length_append] at this
    rw [List.length_append] at hpl
    omega
  have hone : vs.all Value.oneCell' = true := by
    rw [List.all_eq_true]
    intro u hu
    exact h1 x' u (by rw [hex']; simp [hu])
  have hst := run_storeCells (P := P) (off := k * s + off) vs 0 w cur hg hone hfit
  rw [Nat.add_zero, hput] at hst
  have hlen : (l.set k x').length = l.length := List.length_set
  have hncs : nc.size = cur.size := by
    rw [hnc, congrArg Array.size hcur]; simp only [List.size_toArray, List.length_append]; omega
  have S' : St w0 C (setB w g (.cells nc el (0, 0))) (X.set i (gr enc s el (some ⟨g, 0, none⟩) c (l.set k x'))) L := by
    refine S.turn hi ⟨flat_len he _, .inr ⟨g, c, nc, by simp [hlen], Nat.zero_le _, by simp [setB, hgb], by rw [hlen]; exact hlc, hcm, by rw [hncs, hsz], ?_⟩⟩
      (fun b' hb' => .inl (by simp only [gr, hlen] at hb' ⊢; exact hb')) rfl rfl rfl (by simp [setB]) (fun b' hb' hn => ?_)
    · have h4 : (l.set k x').flatMap enc = (l.take k).flatMap enc ++ (a ++ vs ++ b) ++ (l.drop (k + 1)).flatMap enc := by
        rw [hset, List.flatMap_append, List.flatMap_cons, hex']; simp
      have h6 : ((l.set k x').flatMap enc).length = (l.set k x').length * s := flat_len he _
      rw [← h6, h4]
      have e1 : nc.toList = ((l.take k).flatMap enc ++ (a ++ vs ++ b) ++ (l.drop (k + 1)).flatMap enc) ++ rst := by rw [hnc]; simp
      show (nc.toList.drop 0).take _ = _
      rw [List.drop_zero, e1, List.take_left']
      rfl
    · show (w.heap.setIfInBounds g _)[b']? = _
      rw [Array.getElem?_setIfInBounds_ne (fun h => hn (by subst h; simp [gr, Value.ownBlock]))]
  refine op_skip (w' := setB w g (.cells nc el (0, 0))) rfl (fun _ h => by cases h) ?_ (h (l.set k x') _ rfl hlen S')
  have hx' : evn n e xo = .pointer (some ⟨g, k * s + off, none⟩) := by rw [hx]; simp [offA, k]
  have hc : v.cells.toList = vs := by rw [hv]
  have hsz' : v.cells.size = m := by rw [hv]; simpa using hm
  simp [execOp, Instr.storeAt, hx', hy, Instr.sureAddr, storeVar, run_sizeOf hs, hsz', hc, hst]
end
end Go.Fx

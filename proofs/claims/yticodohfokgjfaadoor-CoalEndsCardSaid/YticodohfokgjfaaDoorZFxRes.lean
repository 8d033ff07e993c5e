/- Part of a logic of my own for walks: rules by which a proof steps through code, proved once. -/
import Derived.Test.YticodohfokgjfaaDoorZFxChain
set_option linter.unusedSimpArgs false
set_option linter.unusedVariables false
namespace Go.Fx
open Go
/-! ### what a call hands back in memory -/
/-- its blocks are new, or such as are known -/
def Al (w : World) (Ls : List Asr) (p : Asr) : Prop := ∀ b, p.fp b → w.heap.size ≤ b ∨ ∃ q ∈ Ls, q.fp b
theorem New.al {w : World} {Ls : List Asr} {p : Asr} (h : New w.heap.size p) : Al w Ls p := fun b hb => .inl (h b hb)
theorem Al.self {w : World} {Ls : List Asr} {p : Asr} {i : Nat} (h : Ls[i]? = some p) : Al w Ls p := fun b hb => .inr ⟨p, List.mem_of_getElem? h, hb⟩
theorem Al.nil {α : Type} {enc : α → List Value} {s c : Nat} {A : Option Addr} {w : World} {Ls : List Asr} : Al w Ls (rd enc s A c []) := fun b hb => (hb.1 rfl).elim
theorem New.nil {α : Type} {enc : α → List Value} {s c k : Nat} {A : Option Addr} : New k (rd enc s A c []) := fun b hb => (hb.1 rfl).elim
theorem New.rd {α : Type} {enc : α → List Value} {s el c k : Nat} {A : Option Addr} {l : List α} (h : New k (gr enc s el A c l)) : New k (rd enc s A c l) := fun b hb => h b (gr_fp b hb)
section
variable {w0 w w' : World} {C : Nat → Prop} {X L : List Asr}
theorem St.newX {p : Asr} (S : St w0 (fun _ => False) w X L) {i : Nat} (hi : X[i]? = some p) : New w0.heap.size p := fun b hb => (S.own p (List.mem_of_getElem? hi) b hb).resolve_right id
/-- words that a call hands back, all of them only to be read -/
theorem St.callN (S : St w0 C w X L) (hk : Keep0 w w') (N : List Asr) (hN : ∀ p ∈ N, p.ok w' ∧ ∀ b, p.fp b → w.heap.size ≤ b ∨ ∃ q ∈ L, q.fp b) : St w0 C w' X (N ++ L) :=
  S.callMore hk (fun p hp => (hN p hp).1) fun p hp b hb => (hN p hp).2 b hb
theorem New.inL {p : Asr} (h : New w.heap.size p) : ∀ b, p.fp b → w.heap.size ≤ b ∨ ∃ q ∈ L, q.fp b := fun b hb => .inl (h b hb)
theorem Al.inL {p : Asr} {Ls : List Asr} (h : Al w Ls p) (hL : ∀ q ∈ Ls, ∀ b, q.fp b → ∃ q' ∈ L, q'.fp b) : ∀ b, p.fp b → w.heap.size ≤ b ∨ ∃ q ∈ L, q.fp b := fun b hb =>
  (h b hb).imp id fun ⟨q, hq, hqb⟩ => hL q hq b hqb
theorem fp_mem {q : Asr} {i : Nat} (h : L[i]? = some q) : ∀ b, q.fp b → ∃ q' ∈ L, q'.fp b := fun b hb => ⟨q, List.mem_of_getElem? h, hb⟩
theorem fp_nil {α : Type} {enc : α → List Value} {s c : Nat} {A : Option Addr} : ∀ b, (rd enc s A c []).fp b → ∃ q' ∈ L, q'.fp b := fun b hb => (hb.1 rfl).elim
end
end Go.Fx
namespace Go.Fx
open Go
section
variable {w0 w w' : World} {C : Nat → Prop} {X L : List Asr}
/-- what is known, taken for the time being to stay -/
theorem St.base (S : St w0 C w X L) : St w (fun _ => False) w [] (X ++ L) := S.asP (Keep.refl _ _)
end
end Go.Fx
namespace Go.Fx
open Go
/-- its blocks lie from lo to below hi, or are such as are known -/
def BtwL (lo hi : Nat) (Ls : List Asr) (p : Asr) : Prop := ∀ b, p.fp b → (lo ≤ b ∧ b < hi) ∨ ∃ q ∈ Ls, q.fp b
theorem BtwL.of {lo hi : Nat} {Ls : List Asr} {p : Asr} {w0 w : World} (h : Al w0 Ls p) (e0 : w0.heap.size = lo) (ok : p.ok w) (e : w.heap.size = hi) : BtwL lo hi Ls p := fun b hb =>
  (h b hb).imp (fun h => ⟨e0 ▸ h, e ▸ p.inb _ _ ok hb⟩) id
section
variable {w0 w w' : World} {C : Nat → Prop} {X L : List Asr}
/-- more to read, behind a region: its blocks are above what was there, or known -/
theorem St.addR (S : St w0 C w X L) {p : Asr} (hp : p.ok w) (hd : ∀ b, p.fp b → ∀ x ∈ X, ¬ x.fp b) : St w0 C w X (p :: L) := S.addL' hp hd
theorem St.addO (S : St w0 C w X L) {x : Asr} (hx : x.ok w) (hf : ∀ b, x.fp b → w0.heap.size ≤ b) (hX : ∀ y ∈ X, ∀ b, x.fp b → ¬ y.fp b) (hL : ∀ y ∈ L, ∀ b, x.fp b → ¬ y.fp b) : St w0 C w (x :: X) L := S.addX' hx hf hX hL
theorem St.tail1 {x : Asr} (S : St w0 C w (x :: X) L) : St w0 C w X L := S.less (List.sublist_cons_self ..) fun _ h => h
end
end Go.Fx
namespace Go.Fx
open Go
section
variable {α : Type} {enc : α → List Value} {s : Nat}
variable {ro : Option Nat} {P : Program} {full : Array Oper} {Q : Exit → Act → World → Prop} {n : Nat} {d : List Deferred} {e : Env} {w : World}
variable {rest : List Oper} {ty : TypeId} {ps : String} {af : Array Edge}
/-- nothing is appended -/
theorem p_app0 {st i el bb nl c c2 : Nat} {x y : Operand} {A B : Option Addr} {z : Value} {ys : List α} (hT : slcOf P st = some (el, s)) (hz : infoOf P el = some (some z, s, bb)) (hc : nl ≤ c) (hys : ys.isEmpty = true) (hx : evn n e x = .slice A nl c) (hy : evn n e y = .slice B ys.length c2)
    (h : wpA ro P full Q rest (E n (upd e i (SL A nl c)) d) w) : wpA ro P full Q (⟨some i, .call ⟨.builtin .append, #[x, y], #[st, st]⟩, ty, ps, af, none⟩ :: rest) (E n e d) w := by
  have hy0 : ys = [] := by simpa using hys
  subst hy0
  obtain ⟨hu, hs⟩ := slc_und hT
  obtain ⟨it, h2, h3, h4, h5⟩ := info_of hz
  have hr : (Builtin.append_ #[st, st] ty #[.slice A nl c, .slice B 0 c2]).run P w = .ok (.slice A nl c) w := by
    cases A <;> cases B <;> simp [Builtin.append_, run_underlying hu, sizeOf, typeInfo, h2, Builtin.lenOf, Builtin.firstCells, loadCells, loadCellsFrom, storeCells, hc]
  exact op_val rfl (fun _ h => by cases h) (run_append hx hy hr) h
theorem ne_of_some {ys : List α} (h : ys.isEmpty = false) : ys ≠ [] := by simpa using h
end
/-- keys that are told by others -/
theorem KeyL.comp {κ κ' : Type} [DecidableEq κ] [DecidableEq κ'] {P : Program} {kt : TypeId} {ek : κ' → Value} (K : KeyL P kt ek) (f : κ → κ') (hf : ∀ a b, f a = f b → a = b) : KeyL P kt (fun a => ek (f a)) where
  check b a w := K.check b (f a) w
  find a l ks h w := by
    have := K.find (f a) l (ks.map f) (by rw [h, List.map_map]; rfl) w
    rw [this]
    congr 2
    have hq : (ks.map f).findIdx? (· == f a) = ks.findIdx? (· == a) := by
      rw [List.findIdx?_map]
      congr 1
      funext x
      simp only [Function.comp]
      rw [Bool.eq_iff_iff]
      simp only [beq_iff_eq]
      exact ⟨hf x a, fun h => by rw [h]⟩
    rw [hq]
  bits a := K.bits (f a)
end Go.Fx
namespace Go.Fx
open Go
theorem Al.up {w0 w1 : World} {Ls Ls0 : List Asr} {p : Asr} (h : Al w1 Ls p) (k : w0.heap.size ≤ w1.heap.size) (hq : ∀ q ∈ Ls, Al w0 Ls0 q) : Al w0 Ls0 p := fun b hb =>
  (h b hb).elim (fun h => .inl (Nat.le_trans k h)) fun ⟨q, h1, h2⟩ => hq q h1 b h2
theorem Al.gr {α : Type} {enc : α → List Value} {s el c c' : Nat} {A : Option Addr} {l : List α} {w : World} {Ls : List Asr} (h : Al w Ls (gr enc s el A c l)) : Al w Ls (rd enc s A c' l) := fun b hb => h b (gr_fp b hb)
theorem BtwL.al {lo hi : Nat} {Ls : List Asr} {p : Asr} {w : World} (h : BtwL lo hi Ls p) (k : w.heap.size ≤ lo) : Al w Ls p := fun b hb => (h b hb).imp (fun h => Nat.le_trans k h.1) id
theorem Al.sub {w : World} {Ls Ls' : List Asr} {p : Asr} (h : Al w Ls p) (hs : ∀ q ∈ Ls, q ∈ Ls') : Al w Ls' p := fun b hb => (h b hb).imp id fun ⟨q, h1, h2⟩ => ⟨q, hs q h1, h2⟩
theorem fp_gr {α : Type} {enc : α → List Value} {s el c c' : Nat} {A : Option Addr} {l : List α} {L : List Asr} {i : Nat} (h : L[i]? = some (gr enc s el A c l)) : ∀ b, (rd enc s A c' l).fp b → ∃ q' ∈ L, q'.fp b := fun b hb => ⟨_, List.mem_of_getElem? h, gr_fp b hb⟩
end Go.Fx
namespace Go.Fx
open Go
/-! maps that may be nil -/
section
variable {κ ν : Type}
def mpo (ek : κ → Value) (ev : ν → Value) (mm : Option Nat) (l : List (κ × ν)) : Asr where
  fp b := mm = some b
  ok w := match mm with
    | none => l = []
    | some m => (mp ek ev m l).ok w
  mono w w' h k := by
    cases mm with
    | none => exact h
    | some q => exact (mp ek ev q l).mono w w' h fun b hb => k b (by rw [show b = q from hb])
  inb w b h hb := by
    cases mm with
    | none => cases hb
    | some q => exact (mp ek ev q l).inb w b h (Option.some.inj hb).symm
theorem mpo_some {ek : κ → Value} {ev : ν → Value} {m : Nat} {l : List (κ × ν)} {w : World} (h : (mp ek ev m l).ok w) : (mpo ek ev (some m) l).ok w := h
theorem mpo_none {ek : κ → Value} {ev : ν → Value} {w : World} : (mpo ek ev none []).ok w := rfl
theorem New.mpoS {ek : κ → Value} {ev : ν → Value} {m k : Nat} {l : List (κ × ν)} (h : New k (mp ek ev m l)) : New k (Fx.mpo ek ev (some m) l) := fun b hb => by cases hb; exact h m rfl
theorem New.mpoN {ek : κ → Value} {ev : ν → Value} {k : Nat} : New k (Fx.mpo ek ev none []) := fun b hb => by cases hb
theorem Al.mpo {ek : κ → Value} {ev : ν → Value} {m : Nat} {l : List (κ × ν)} {w : World} {Ls : List Asr} (h : Al w Ls (mp ek ev m l)) : Al w Ls (Fx.mpo ek ev (some m) l) := fun b hb => by cases hb; exact h m rfl
theorem Al.mpoN {ek : κ → Value} {ev : ν → Value} {w : World} {Ls : List Asr} : Al w Ls (Fx.mpo ek ev none []) := fun b hb => by cases hb
variable [DecidableEq κ] {ek : κ → Value} {ev : ν → Value}
variable {ro : Option Nat} {P : Program} {full : Array Oper} {Q : Exit → Act → World → Prop} {n : Nat} {d : List Deferred} {e : Env} {w : World}
variable {rest : List Oper} {ty : TypeId} {ps : String} {af : Array Edge}
theorem p_lookO {t kt el i s bb : Nat} {mm : Option Nat} {x y : Operand} {a : κ} {l : List (κ × ν)} {z : Value} (hT : mptOf P t = some (kt, el)) (K : KeyL P kt ek) (hz : infoOf P el = some (some z, s, bb)) (hm : (mpo ek ev mm l).ok w) (hx : evn n e x = .map mm) (hy : evn n e y = ek a)
    (h1 : ∀ v, lookL l a = some v → wpA ro P full Q rest (E n (upd e i (.tuple #[ev v, .bool true])) d) w) (h0 : lookL l a = none → wpA ro P full Q rest (E n (upd e i (.tuple #[z, .bool false])) d) w) :
    wpA ro P full Q (⟨some i, .lookup t x y true, ty, ps, af, none⟩ :: rest) (E n e d) w := by
  cases mm with
  | some m => exact o_look hx hy hT K hz hm h1 h0
  | none =>
    have hl : l = [] := hm
    subst hl
    have hzr : (zeroValue el).run P w = .ok z w := by
      obtain ⟨it, h2, h3, _⟩ := info_of hz
      simp [zeroValue, typeInfo, h2, h3]
    refine op_val (v := .tuple #[z, .bool false]) rfl (fun _ h => by cases h) ?_ (h0 rfl)
    have hf := K.find a [] [] rfl w
    simp at hf
    simp [execOp, hx, hy, Instr.lookup, run_und (mpt_und hT), K.check, hf, hzr]
end
theorem New.rdr {α : Type} {enc : α → List Value} {s c c' k : Nat} {A : Option Addr} {l : List α} (h : New k (Fx.rd enc s A c l)) : New k (Fx.rd enc s A c' l) := h
theorem Al.rdr {α : Type} {enc : α → List Value} {s c c' : Nat} {A : Option Addr} {l : List α} {w : World} {Ls : List Asr} (h : Al w Ls (rd enc s A c l)) : Al w Ls (rd enc s A c' l) := h
/-! arrays of numbers held against each other -/
def sgl (l : List Int) (n : Nat) : List Int := (List.range n).map fun k => l.getD k 0
theorem sgF_map (l : List Int) : ∀ (n k : Nat), sgF l k n = ((List.range' k n).map fun j => l.getD j 0).map (Value.int .i64)
  | 0, _ => rfl
  | n + 1, k => by simp [sgF, List.range'_succ, sgF_map l n (k + 1)]
theorem sg_ivs (l : List Int) (n : Nat) : sg l n = ivs (sgl l n) := by
  unfold sg ivs sgl
  rw [sgF_map, List.range_eq_range']
theorem sgl_len (l : List Int) (n : Nat) : (sgl l n).length = n := by simp [sgl]
theorem sgl_eq {l : List Int} {n : Nat} (h : l.length = n) : sgl l n = l := by
  subst h
  refine List.ext_getElem (by simp [sgl]) fun k h1 h2 => ?_
  simp [sgl, List.getD, h2]
section
variable {ro : Option Nat} {P : Program} {full : Array Oper} {Q : Exit → Act → World → Prop} {n : Nat} {d : List Deferred} {e : Env} {w : World}
variable {rest : List Oper} {ty : TypeId} {ps : String} {af : Array Edge}
theorem p_eqS {t yt i m : Nat} {x y : Operand} {a b : List Int} (hT : eqOk P t (List.replicate m (.int .i64))) (hx : evn n e x = AG (sg a m)) (hy : evn n e y = AG (sg b m))
    (h : wpA ro P full Q rest (E n (upd e i (.bool (decide (sgl a m = sgl b m)))) d) w) : wpA ro P full Q (⟨some i, .binOp .eql t x y yt, ty, ps, af, none⟩ :: rest) (E n e d) w :=
  o_eqA (xs := sg a m) (ys := sg b m) hx hy hT (by rw [sg_ivs]; exact ivs_fits (sgl_len a m)) (by rw [sg_ivs]; exact ivs_fits (sgl_len b m)) (by rw [sg_ivs, sg_ivs, ivs_inj, decide_eq_true_iff]) h
end
end Go.Fx
namespace Go.Fx
open Go
/-- the blocks of a value's slices -/
def vblk (v : Value) (b : Nat) : Prop := match v with
  | .agg cs => ∃ c ∈ cs, Value.ownBlock c = some b
  | v => Value.ownBlock v = some b
theorem vblk_sl {α : Type} {enc : α → List Value} {s c c' k : Nat} {A : Option Addr} {l : List α} {b : Nat} (h : (rd enc s A c l).fp b) : vblk (SL A k c') b := by
  obtain ⟨_, a, rfl, rfl⟩ := h
  rfl
theorem vblk_gr {α : Type} {enc : α → List Value} {s el c c' k : Nat} {A : Option Addr} {l : List α} {b : Nat} (h : vblk (SL A k c') b) : (gr enc s el A c l).fp b := by
  cases A with
  | none => cases h
  | some a => exact h
/-- its blocks lie from lo to below hi, or are a value's, or are known -/
def BtwV (lo hi : Nat) (Ls : List Asr) (v : Value) (p : Asr) : Prop := ∀ b, p.fp b → (lo ≤ b ∧ b < hi) ∨ vblk v b ∨ ∃ q ∈ Ls, q.fp b
theorem BtwV.of {lo hi : Nat} {Ls Ls' : List Asr} {v : Value} {p : Asr} {w0 w : World} (h : Al w0 Ls' p) (e0 : w0.heap.size = lo) (ok : p.ok w) (e : w.heap.size = hi) (hq : ∀ q ∈ Ls', ∀ b, q.fp b → vblk v b ∨ ∃ q ∈ Ls, q.fp b) : BtwV lo hi Ls v p := fun b hb =>
  (h b hb).elim (fun h => .inl ⟨e0 ▸ h, e ▸ p.inb _ _ ok hb⟩) fun ⟨q, h1, h2⟩ => .inr (hq q h1 b h2)
theorem BtwV.al {lo hi : Nat} {Ls : List Asr} {v : Value} {p : Asr} {w : World} (h : BtwV lo hi Ls v p) (k : w.heap.size ≤ lo) (hv : ∀ b, vblk v b → w.heap.size ≤ b) : Al w Ls p := fun b hb =>
  (h b hb).elim (fun h => .inl (Nat.le_trans k h.1)) fun h => h.elim (fun h => .inl (hv b h)) .inr
/-- the same as rx, with a word on what another slot holds -/
def rxd (s : Nat) {α : Type} (val : α → Value) (pr : α → Nat → Nat → Value → Prop) (as : α → List Asr) : Rx where
  ok e v lo hi w := ∃ x, v = val x ∧ pr x lo hi (e s) ∧ ∀ p ∈ as x, p.ok w
  deps := [s]
  loc e e' v lo hi w h := fun ⟨x, h1, h2, h3⟩ => ⟨x, h1, by rw [h s (List.mem_cons_self ..)]; exact h2, h3⟩
  st _ _ _ _ _ _ := fun ⟨x, h1, h2, h3⟩ k => ⟨x, h1, h2, fun p hp => Asr.stays (h3 p hp) k⟩
end Go.Fx

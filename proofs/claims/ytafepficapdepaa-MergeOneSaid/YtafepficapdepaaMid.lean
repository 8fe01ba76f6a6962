/- A struct inside a block read and written as one step. Conditions as each lemma states. -/
import Derived.Test.YtafepficapdepaaBuild
import Derived.Test.YtafepficapdepaaStruct
namespace Go.Proofs.Ytafepficapdepaa.foot
open Go.RowKit Go.Proofs.Ytafepficapdepaa.kit Go.Proofs.Ytafepficapdepaa.mem
set_option linter.unusedVariables false
set_option linter.unusedSimpArgs false
theorem setCells_stores (b : Nat) : ∀ (vs : List Value) (o : Nat) (w : World), w.setCells b o vs = stores w b o vs
  | [], _, _ => rfl
  | v :: vs, o, w => setCells_stores b vs (o + 1) (w.setCell ⟨b, o, none⟩ v)
theorem stores_mid {g : Nat} {t : TypeId} : ∀ (vs : List Value) (pre old post : List Value) (w : World), old.length = vs.length → Bk w g t (pre ++ old ++ post).toArray → Bk (stores w g pre.length vs) g t (pre ++ vs ++ post).toArray
  | [], pre, old, post, w, hl, h => by
    have : old = [] := List.length_eq_zero_iff.1 hl
    subst this
    exact h
  | v :: vs, pre, [], post, w, hl, h => by simp at hl
  | v :: vs, pre, u :: old, post, w, hl, h => by
    have h1 := h.put pre.length v
    have e : (pre ++ (u :: old) ++ post).toArray.setIfInBounds pre.length v = ((pre ++ [v]) ++ old ++ post).toArray := by
      simp [List.set_append]
    rw [e] at h1
    have h2 := stores_mid vs (pre ++ [v]) old post _ (by simpa using hl) h1
    rw [List.length_append, List.length_singleton] at h2
    have e2 : pre ++ [v] ++ vs ++ post = pre ++ (v :: vs) ++ post := by simp
    rw [e2] at h2
    exact h2
section
variable {P : Program}
theorem Bk.range {w : World} {g : Nat} {t : TypeId} {pre mid post : List Value} (h : Bk w g t (pre ++ mid ++ post).toArray) : w.rangeAt g pre.length mid := fun j v hv => by
  rw [h.cell, List.getElem?_toArray, List.append_assoc, List.getElem?_append_right (by omega), Nat.add_sub_cancel_left]
  have hj : j < mid.length := (List.getElem?_eq_some_iff.1 hv).1
  rw [List.getElem?_append_left hj]
  exact hv
/-- a part of a block read -/
theorem wpList_loadMid {ops : Array Oper} {rest : List Oper} {o : Oper} {a : Act} {w : World} {Q : Exit → Act → World → Prop} (hgd : o.guard = none) (ty : TypeId) (x : Operand) (ho : o.op = .load ty x)
    (g off : Nat) (hx : a.eval x = .pointer (some ⟨g, off, none⟩)) (t : TypeId) (pre mid post : List Value) (d : TypeDesc) (hg : Bk w g t (pre ++ mid ++ post).toArray) (hoff : pre.length = off)
    (hu : P.underlying ty = some d) (hd : d.isRow = true) (hi : (P.info? ty).map (·.size) = some mid.length)
    (h : wpList P ops Q rest (a.put o.dst (.agg mid.toArray)) w) : wpList P ops Q (o :: rest) a w := by
  subst hoff
  exact wpList_load_mid hgd ty x ho g pre.length hx mid d (Bk.range hg) hu hd hi h
/-- a part of a block written -/
theorem wpList_storeMid {ops : Array Oper} {rest : List Oper} {o : Oper} {a : Act} {w : World} {Q : Exit → Act → World → Prop} (hgd : o.guard = none) (ty : TypeId) (x y : Operand) (ho : o.op = .store ty x y)
    (g off : Nat) (hx : a.eval x = .pointer (some ⟨g, off, none⟩)) (new : List Value) (hy : a.eval y = .agg new.toArray) (t : TypeId) (pre old post : List Value) (hg : Bk w g t (pre ++ old ++ post).toArray) (hoff : pre.length = off)
    (hi : (P.info? ty).map (·.size) = some new.length) (hold : old.length = new.length) (h1 : ∀ u ∈ new, u.oneCell' = true)
    (h : ∀ w', Bk w' g t (pre ++ new ++ post).toArray → Chg (fun k => k = g) w w' → w'.heap.size = w.heap.size → wpList P ops Q rest (a.put o.dst undef) w') : wpList P ops Q (o :: rest) a w := by
  subst hoff
  refine wpList_store_mid hgd ty x y ho g pre.length new.toArray hx hy (fun j hj => ?_) (by simpa using hi) (all_oneCell_toArray h1) ?_
  · refine ⟨?_, hg.free _⟩
    rw [hg.cell]
    simp at hj ⊢
    omega
  · rw [setCells_stores]
    exact h _ (stores_mid new pre old post w hold hg) (stores_chg _ _ _) (by
      have : ∀ (vs : List Value) (i : Nat) (w : World), (stores w g i vs).heap.size = w.heap.size := by
        intro vs
        induction vs with
        | nil => intro i w; rfl
        | cons v vs ih => intro i w; show (stores (w.setCell ⟨g, i, none⟩ v) g (i + 1) vs).heap.size = _; rw [ih]; simp [World.setCell]
      exact this _ _ _)
end
end Go.Proofs.Ytafepficapdepaa.foot

/- Arguments that are structs by value: opened by readers. No condition. -/
import Derived.Test.YtafepficapdepaaRel
namespace Go.Proofs.Ytafepficapdepaa.foot
open Go.RowKit Go.Joins Go.ChangeShapes Go.WideShapes Go.ChangeAt Go.Proofs.Ytafepficapdepaa.kit Go.Proofs.Ytafepficapdepaa.mem
set_option linter.unusedVariables false
section
variable {H : Type} {enc : TypeId × Value → H} {P : Program} {w : World} {base : Nat} {held : Bool}
/-- a struct that came in by value -/
theorem open_st {α : Type} {R : Rel α} {r : Reach} {b0 : Nat} {t : TypeId} {fs : Array Field} {v : Value} {d : DataW H} {p : List MemPlace} (ht : P.underlying t = some (.struct fs)) (hO : Opens enc P w base held t R) (hv : Value.okWide P w r b0 t v) (h : DataW.Trod enc P w base (fun _ => true) held t v d p) :
    ∃ cs a, v = .agg cs ∧ R w (fun _ => True) cs.toList a := by
  obtain ⟨cs, rfl, _⟩ := okWide_struct ht hv
  obtain ⟨fuel, hf⟩ := h
  obtain ⟨a, ha⟩ := hO hf
  exact ⟨cs, a, rfl, ha⟩
theorem arr_eq {cs : Array Value} {l : List Value} (h : cs.toList = l) : cs = l.toArray := by rw [← h]
end

/-- new blocks, one behind the other -/
def allocs : World → List Obj → World
  | w, [] => w
  | w, o :: l => allocs (w.alloc o) l
theorem allocs_size : ∀ (l : List Obj) (w : World), (allocs w l).heap.size = w.heap.size + l.length
  | [], w => rfl
  | o :: l, w => by rw [allocs, allocs_size l]; simp; omega
theorem allocs_below : ∀ (l : List Obj) (w : World), Below w.heap.size w (allocs w l)
  | [], w => Below.refl _ _
  | o :: l, w => ((Below.refl _ _).alloc (Nat.le_refl _) o).trans ((allocs_below l (w.alloc o)).mono (by simp))
theorem allocs_at : ∀ (l : List Obj) (w : World) (i : Nat) (cs : Array Value) (t : TypeId), l[i]? = some (.cells cs t) → Bk (allocs w l) (w.heap.size + i) t cs
  | [], w, i, cs, t, h => by simp at h
  | o :: l, w, 0, cs, t, h => by
    simp at h
    subst h
    have := Bk.new w t cs
    exact this.below (allocs_below l (w.alloc (.cells cs t))) (by simp)
  | o :: l, w, i + 1, cs, t, h => by
    have := allocs_at l (w.alloc o) i cs t (by simpa using h)
    have e : (w.alloc o).heap.size + i = w.heap.size + (i + 1) := by simp; omega
    rw [e] at this
    exact this

/-- a block's cells written one behind the other -/
def stores (w : World) (g : Nat) : Nat → List Value → World
  | _, [] => w
  | i, v :: vs => stores (w.setCell ⟨g, i, none⟩ v) g (i + 1) vs
theorem stores_at {g : Nat} {t : TypeId} : ∀ (vs : List Value) (i : Nat) (w : World) (cs : List Value), Bk w g t cs.toArray → i + vs.length = cs.length → Bk (stores w g i vs) g t (cs.take i ++ vs).toArray
  | [], i, w, cs, h, hl => by
    have : cs.take i = cs := List.take_of_length_le (by simp at hl; omega)
    rw [this, List.append_nil]; exact h
  | v :: vs, i, w, cs, h, hl => by
    simp at hl
    have h1 := h.put i v
    have e : cs.toArray.setIfInBounds i v = (cs.set i v).toArray := by simp
    rw [e] at h1
    have h2 := stores_at vs (i + 1) _ (cs.set i v) h1 (by simp; omega)
    have e2 : (cs.set i v).take (i + 1) ++ vs = cs.take i ++ v :: vs := by
      rw [List.take_succ_eq_append_getElem (by simp; omega), List.take_set, List.set_eq_of_length_le (by simp; omega)]
      simp
    rw [e2] at h2
    exact h2
/-- .. the whole block -/
theorem stores_all {g : Nat} {t : TypeId} {w : World} {cs : Array Value} (vs : List Value) (h : Bk w g t cs) (hl : vs.length = cs.size) : Bk (stores w g 0 vs) g t vs.toArray := by
  have := stores_at vs 0 w cs.toList (by simpa using h) (by simp; omega)
  simpa using this
theorem stores_chg {g : Nat} : ∀ (vs : List Value) (i : Nat) (w : World), Chg (fun k => k = g) w (stores w g i vs)
  | [], _, w => Chg.refl _ _
  | v :: vs, i, w => ((Chg.refl (fun k => k = g) w).put (p := ⟨g, i, none⟩) (.inl rfl) v).trans (stores_chg vs (i + 1) _) fun _ _ e => e
theorem stores_below {g B : Nat} {w : World} (vs : List Value) (i : Nat) (hB : B ≤ g) (hw : B ≤ w.heap.size) : Below B w (stores w g i vs) := (stores_chg vs i w).below (fun k e => by rw [e]; exact hB) hw
theorem stores_far {g k : Nat} {t : TypeId} {w : World} {cs : Array Value} (vs : List Value) (i : Nat) (h : Bk w k t cs) (hne : k ≠ g) : Bk (stores w g i vs) k t cs := h.chg (stores_chg vs i w) hne

/-- a tuple of a value and a struct handed back -/
theorem res_tc {P : Program} {fn : Func} {p m : Tmp} {ty : TypeId} (h : fn.results = #[.tmp m, .cell p ty]) (tmps : Array Value) (w : World) (g : Nat) (t : TypeId) (v : Value) (cs : Array Value) (fr : Nat × Nat) (d : TypeDesc)
    (hm : tmps.getD m undef = v) (hp : tmps.getD p undef = .pointer (some ⟨g, 0, none⟩)) (hg : w.heap[g]? = some (.cells cs t fr))
    (hu : P.underlying ty = some d) (hd : (match d with | .struct _ | .array _ _ => true | _ => false) = true) (hi : (P.info? ty).map (·.size) = some cs.size) :
    (results fn tmps).run P w = .ok (.tuple #[v, .agg cs]) w := by
  have hp' : tmps[p]?.getD undef = .pointer (some ⟨g, 0, none⟩) := by simpa using hp
  have hm' : tmps[m]?.getD undef = v := by simpa using hm
  simp [results, h, hp', hm', asAddr, run_loadVar_row w g t ty cs fr d hg hu hd hi]
/-- two structs -/
theorem res_cc {P : Program} {fn : Func} {p q : Tmp} {ty tz : TypeId} (h : fn.results = #[.cell p ty, .cell q tz]) (tmps : Array Value) (w : World) (g k : Nat) (t u : TypeId) (cs ds : Array Value) (fr fs : Nat × Nat) (d e : TypeDesc)
    (hp : tmps.getD p undef = .pointer (some ⟨g, 0, none⟩)) (hg : w.heap[g]? = some (.cells cs t fr))
    (hu : P.underlying ty = some d) (hd : (match d with | .struct _ | .array _ _ => true | _ => false) = true) (hi : (P.info? ty).map (·.size) = some cs.size)
    (hq : tmps.getD q undef = .pointer (some ⟨k, 0, none⟩)) (hk : w.heap[k]? = some (.cells ds u fs))
    (hv : P.underlying tz = some e) (he : (match e with | .struct _ | .array _ _ => true | _ => false) = true) (hj : (P.info? tz).map (·.size) = some ds.size) :
    (results fn tmps).run P w = .ok (.tuple #[.agg cs, .agg ds]) w := by
  have hp' : tmps[p]?.getD undef = .pointer (some ⟨g, 0, none⟩) := by simpa using hp
  have hq' : tmps[q]?.getD undef = .pointer (some ⟨k, 0, none⟩) := by simpa using hq
  simp [results, h, hp', hq', asAddr, run_loadVar_row w g t ty cs fr d hg hu hd hi, run_loadVar_row w k u tz ds fs e hk hv he hj]
/-- two structs and a value -/
theorem res_cct {P : Program} {fn : Func} {p q m : Tmp} {ty tz : TypeId} (h : fn.results = #[.cell p ty, .cell q tz, .tmp m]) (tmps : Array Value) (w : World) (g k : Nat) (t u : TypeId) (v : Value) (cs ds : Array Value) (fr fs : Nat × Nat) (d e : TypeDesc)
    (hp : tmps.getD p undef = .pointer (some ⟨g, 0, none⟩)) (hg : w.heap[g]? = some (.cells cs t fr))
    (hu : P.underlying ty = some d) (hd : (match d with | .struct _ | .array _ _ => true | _ => false) = true) (hi : (P.info? ty).map (·.size) = some cs.size)
    (hq : tmps.getD q undef = .pointer (some ⟨k, 0, none⟩)) (hk : w.heap[k]? = some (.cells ds u fs))
    (hv : P.underlying tz = some e) (he : (match e with | .struct _ | .array _ _ => true | _ => false) = true) (hj : (P.info? tz).map (·.size) = some ds.size)
    (hm : tmps.getD m undef = v) :
    (results fn tmps).run P w = .ok (.tuple #[.agg cs, .agg ds, v]) w := by
  have hp' : tmps[p]?.getD undef = .pointer (some ⟨g, 0, none⟩) := by simpa using hp
  have hq' : tmps[q]?.getD undef = .pointer (some ⟨k, 0, none⟩) := by simpa using hq
  have hm' : tmps[m]?.getD undef = v := by simpa using hm
  simp [results, h, hp', hq', hm', asAddr, run_loadVar_row w g t ty cs fr d hg hu hd hi, run_loadVar_row w k u tz ds fs e hk hv he hj]
end Go.Proofs.Ytafepficapdepaa.foot

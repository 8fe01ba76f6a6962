/- What stays where cells stay: rows read, rows of the call's own. No condition beyond those that each lemma states. -/
import Derived.RangeFuncOwn
import Derived.Test.YtafepficapdepaaFoot
namespace Go.Proofs.Ytafepficapdepaa.foot
open Go.RowKit Go.Proofs.Ytafepficapdepaa.kit Go.Proofs.Ytafepficapdepaa.mem
set_option linter.unusedVariables false
/-- cells stay what they are -/
structure Stay (w w' : World) : Prop where
  size : w.heap.size ≤ w'.heap.size
  block : ∀ (k : Nat) (cs : Array Value) (t : TypeId) (f : Nat × Nat), w.heap[k]? = some (Obj.cells cs t f) → w'.heap[k]? = some (Obj.cells cs t f)
section
variable {w w' : World} {G : Foot}
theorem Stay.cell (h : Stay w w') {p : Addr} {u : Value} (hc : w.cell? p = some u) : w'.cell? p = some u := by
  have hb : ∃ cs t f, w.heap[p.block]? = some (Obj.cells cs t f) := by
    unfold World.cell? at hc
    split at hc
    · rename_i c e f hb; exact ⟨c, e, f, hb⟩
    · cases hc
  obtain ⟨cs, t, f, hb⟩ := hb
  rw [World.cell?_of_block (w := w) ((h.block _ _ _ _ hb).trans hb.symm)]
  exact hc
theorem Rg.stay {size n : Nat} {A : Option Addr} {xs : List Value} (h : Rg w G size A n xs) (hs : Stay w w') : Rg w' G size A n xs := by
  refine ⟨h.1, fun hn => ?_⟩
  obtain ⟨b, off, e, hb, hl, hcell⟩ := h.2 hn
  exact ⟨b, off, e, hb, Nat.lt_of_lt_of_le hl hs.size, fun j u hu => hs.cell (hcell j u hu)⟩
theorem Own.stay {e : TypeId} {size n c : Nat} {A : Option Addr} {xs : List Value} (h : Own w e size A n c xs) (hs : Stay w w') : Own w' e size A n c xs := by
  refine ⟨h.1, ?_⟩
  rcases h.2 with h0 | ⟨g, off, cur, h0, hb, h1⟩
  · exact .inl h0
  · exact .inr ⟨g, off, cur, h0, hs.block _ _ _ _ hb, h1⟩
end
theorem stay_row {w w' : World} {row : Option Nat} (hg : w.grownBy w' row) (hr : ∀ r, row = some r → ∃ o : Obj, w.heap[r]? = some o ∧ o.isCells = false) : Stay w w' :=
  ⟨hg.size, fun k cs t f hk => (hg.block k (Array.getElem?_eq_some_iff.1 hk).1 (fun e => by
    obtain ⟨o, ho, h0⟩ := hr k e.symm
    rw [hk] at ho
    cases ho
    cases h0)).trans hk⟩
end Go.Proofs.Ytafepficapdepaa.foot

/- Rows gathered by appends in new memory; rows read. No condition beyond those that each lemma states. -/
import Derived.Test.YtafepficapdepaaFoot
namespace Go.Proofs.Ytafepficapdepaa.foot
open Go.RowKit Go.Proofs.Ytafepficapdepaa.kit Go.Proofs.Ytafepficapdepaa.mem
set_option linter.unusedVariables false

/-- gathered since world w: n elements, these cells -/
structure Acc (w : World) (e : TypeId) (size : Nat) (w' : World) (A : Option Addr) (n c : Nat) (xs : List Value) : Prop where
  own : Own w' e size A n c xs
  bel : Below w.heap.size w w'
  low : ∀ x, sf A x → w.heap.size ≤ x
section
variable {w w1 w2 : World} {e : TypeId} {size n m c c' : Nat} {A A' : Option Addr} {xs news : List Value} {F : Foot}
theorem Own.empty {w : World} {g : Nat} {e : TypeId} {size : Nat} (h : Bk w g e #[]) : Own w e size (some ⟨g, 0, none⟩) 0 0 [] :=
  ⟨by simp, .inr ⟨g, 0, #[], rfl, h, Nat.le_refl _, Nat.zero_le _, by simp, fun j u hu => by simp at hu⟩⟩
theorem Acc.start {g : Nat} (hb : Below w.heap.size w w1) (h : Bk w1 g e #[]) (hg : w.heap.size ≤ g) : Acc w e size w1 (some ⟨g, 0, none⟩) 0 0 [] :=
  ⟨Own.empty h, hb, fun x hx => by rw [sf_some] at hx; have : g = x := hx; omega⟩
theorem Acc.go (h : Acc w e size w1 A n c xs) (hb : Below w1.heap.size w1 w2) : Acc w e size w2 A n c xs := ⟨h.own.bel hb, h.bel.trans (hb.mono h.bel.size), h.low⟩
theorem Acc.app {w0 : World} (h : Acc w e size w0 A n c xs) (ho : Own w2 e size A' m c' news) (hc : Chg (sf A) w0 w2) (hf : Fresh w0 (sf A) (sf A')) : Acc w e size w2 A' m c' news :=
  ⟨ho, h.bel.trans (hc.below h.low h.bel.size), fun x hx => by
    rcases hf x hx with k | k
    · exact h.low x k
    · have := h.bel.size; omega⟩
/-- a row that was there is there behind an append -/
theorem Acc.kept {w0 : World} {G : Foot} {B : Option Addr} {k : Nat} {ys : List Value} (h : Acc w e size w0 A n c xs) (hc : Chg (sf A) w0 w2) (hr : Rg w G size B k ys) : Rg w2 G size B k ys := by
  have h0 : Rg w0 G size B k ys := by
    refine ⟨hr.1, fun hk => ?_⟩
    obtain ⟨b, off, e1, hb, hl, hcell⟩ := hr.2 hk
    exact ⟨b, off, e1, hb, Nat.lt_of_lt_of_le hl h.bel.size, fun j u hu => (h.bel.cell (p := ⟨b, off + j, none⟩) hl).trans (hcell j u hu)⟩
  refine ⟨h0.1, fun hk => ?_⟩
  obtain ⟨b, off, e1, hb, hl, hcell⟩ := hr.2 hk
  obtain ⟨b', off', e2, hb', hl', hcell'⟩ := h0.2 hk
  rw [e1] at e2
  cases e2
  exact ⟨b, off, e1, hb, Nat.lt_of_lt_of_le hl' hc.size, fun j u hu => by rw [World.cell?_of_block (w := w0) (hc.block b hl' (fun hs => by have := h.low b hs; omega))]; exact hcell' j u hu⟩
theorem Acc.rg {G : Foot} {B : Option Addr} {k : Nat} {ys : List Value} (h : Acc w e size w1 A n c xs) (hr : Rg w G size B k ys) : Rg w1 G size B k ys := by
  refine ⟨hr.1, fun hk => ?_⟩
  obtain ⟨b, off, e1, hb, hl, hcell⟩ := hr.2 hk
  exact ⟨b, off, e1, hb, Nat.lt_of_lt_of_le hl h.bel.size, fun j u hu => (h.bel.cell (p := ⟨b, off + j, none⟩) hl).trans (hcell j u hu)⟩
end
theorem Own.form {w : World} {e : TypeId} {size n c : Nat} {A : Option Addr} {xs : List Value} (h : Own w e size A n c xs) (hn : 0 < n) : ∃ g off, A = some ⟨g, off, none⟩ := by
  rcases h.2 with ⟨_, h1, _⟩ | ⟨g, off, cur, h1, _⟩
  · omega
  · exact ⟨g, off, h1⟩
theorem Own.at_ {w : World} {e : TypeId} {size n c g off : Nat} {xs : List Value} (h : Own w e size (some ⟨g, off, none⟩) n c xs) (j : Nat) {u : Value} (hu : xs[j]? = some u) : w.cell? ⟨g, off + j, none⟩ = some u ∧ (∀ i, w.frozen? ⟨g, i, none⟩ = false) ∧ g < w.heap.size := by
  refine ⟨?_, fun i => h.free i, h.lt g (by rw [sf_some])⟩
  rcases h.2 with ⟨h1, _⟩ | ⟨g', off', cur, h1, hb, _, _, _, hc⟩
  · cases h1
  · cases h1
    rw [hb.cell]; exact hc j u hu
/-- rows read, that lie from block B on -/
structure Row3 (B : Nat) (w : World) (size : Nat) (A : Option Addr) (n c : Nat) (xs : List Value) : Prop where
  nil : A = none → c = 0
  cap : n ≤ c
  max : c ≤ maxLen
  rg : Rg w (sf A) size A n xs
  low : ∀ x, sf A x → B ≤ x
  lt : ∀ x, sf A x → x < w.heap.size
section
variable {B n c size : Nat} {w w1 w' : World} {e : TypeId} {A : Option Addr} {xs : List Value} {F : Foot}
theorem Acc.row (h : Acc w e size w' A n c xs) (hB : B ≤ w.heap.size) : Row3 B w' size A n c xs := ⟨h.own.nil, h.own.cap, h.own.max, h.own.rg, fun x hx => Nat.le_trans hB (h.low x hx), h.own.lt⟩
theorem Row3.chg (h : Row3 B w size A n c xs) (hc : Chg F w w') (hd : ∀ x, sf A x → ¬ F x) : Row3 B w' size A n c xs := ⟨h.nil, h.cap, h.max, h.rg.chg hc fun x _ hx => hd x hx, h.low, fun x hx => Nat.lt_of_lt_of_le (h.lt x hx) hc.size⟩
theorem Row3.bel (h : Row3 B w size A n c xs) (hb : Below w.heap.size w w') : Row3 B w' size A n c xs := h.chg (F := fun _ => False) (Chg.of_below hb _) fun _ _ e => e
theorem Row3.empty {g : Nat} (h : Bk w g e #[]) (hg : B ≤ g) (size : Nat) : Row3 B w size (some ⟨g, 0, none⟩) 0 0 [] :=
  ⟨(fun h => by cases h), Nat.le_refl _, Nat.zero_le _, Rg.nil _ _ _ _, fun x hx => by rw [sf_some] at hx; have : g = x := hx; omega, fun x hx => by rw [sf_some] at hx; have : g = x := hx; have := h.lt; omega⟩
/-- the cells of the k-th element -/
theorem Row3.cell (h : Row3 B w size A n c xs) {k j : Nat} (hk : k < n) (hj : j < size) {u : Value} (hu : xs[k * size + j]? = some u) : ∃ b off, A = some ⟨b, off, none⟩ ∧ b < w.heap.size ∧ B ≤ b ∧ w.cell? ⟨b, off + k * size + j, none⟩ = some u := by
  obtain ⟨b, off, e, hb, hl, hc⟩ := h.rg.2 (by omega)
  exact ⟨b, off, e, hl, h.low b hb, by rw [Nat.add_assoc]; exact hc _ u hu⟩
end
end Go.Proofs.Ytafepficapdepaa.foot

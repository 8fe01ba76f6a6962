/- Lists of anything gathered by appends in a row of the call's own, what their elements point at lying apart from that row. No condition beyond those that each lemma states. -/
import Derived.Test.YtafepficapdepaaRel
import Derived.Test.YtafepficapdepaaSplice
namespace Go.Proofs.Ytafepficapdepaa.foot
open Go.RowKit Go.Proofs.Ytafepficapdepaa.kit Go.Proofs.Ytafepficapdepaa.mem
set_option linter.unusedVariables false

/-- gathered since world w: m elements of n cells each, that say l; what they point at lies in B -/
structure Lst {α : Type} (n : Nat) (R : Rel α) (e : TypeId) (B : Foot) (w w' : World) (A : Option Addr) (m c : Nat) (vs : List Value) (l : List α) : Prop where
  acc : Acc w e n w' A m c vs
  all : rAll R w' (fun k => B k ∧ ¬ sf A k) vs l
  len : l.length = m
section
variable {α : Type} {n : Nat} {R : Rel α} {e : TypeId} {B : Foot} {w w' w0 w2 : World} {A A' : Option Addr} {m k c c' : Nat} {vs news : List Value} {l l2 : List α}
theorem Lst.go (hR : Keeps n R) (h : Lst n R e B w w' A m c vs l) (hb : Below w'.heap.size w' w2) : Lst n R e B w w2 A m c vs l :=
  ⟨h.acc.go hb, h.all.chg hR (F := fun _ => False) (Chg.of_below hb _) (fun _ _ _ e => e), h.len⟩
theorem Lst.nil (w : World) : Lst n R e B w w none 0 0 [] [] := ⟨⟨Own.none_ _ _ _, Below.refl _ _, fun x hx => absurd hx (sf_none x)⟩, rfl, rfl⟩
theorem Lst.start {g : Nat} (hb : Below w.heap.size w w') (h : Bk w' g e #[]) (hg : w.heap.size ≤ g) : Lst n R e B w w' (some ⟨g, 0, none⟩) 0 0 [] [] := ⟨Acc.start hb h hg, rfl, rfl⟩
/-- more behind it -/
theorem Lst.app (hR : Keeps n R) (h : Lst n R e B w w0 A m c vs l) (hn : rAll R w0 (fun k => B k ∧ ¬ sf A k) news l2) (hk : l2.length = k) (ho : Own w2 e n A' (m + k) c' (vs ++ news)) (hc : Chg (sf A) w0 w2) (hf : Fresh w0 (sf A) (sf A')) : Lst n R e B w w2 A' (m + k) c' (vs ++ news) (l ++ l2) := by
  have key : ∀ {xs : List Value} {q : List α}, rAll R w0 (fun k => B k ∧ ¬ sf A k) xs q → rAll R w2 (fun k => B k ∧ ¬ sf A' k) xs q := fun {xs q} hh => by
    have h1 : rAll R w0 (fun k => (B k ∧ ¬ sf A k) ∧ ¬ sf A' k) xs q := hh.mono hR fun k hk hG => ⟨hG, fun hs => by
      rcases hf k hs with e | e
      · exact hG.2 e
      · omega⟩
    exact (h1.chg hR hc fun k _ hG hs => hG.1.2 hs).mono hR fun k _ hG => ⟨hG.1.1, hG.2⟩
  exact ⟨h.acc.app ho hc hf, rAll.app (key h.all) (key hn), by rw [List.length_append, h.len, hk]⟩
/-- as a slice that is read -/
theorem Lst.els (hR : Keeps n R) (h : Lst n R e B w w' A m c vs l) : Els n R w' (fun k => w.heap.size ≤ k ∨ B k) A l :=
  ⟨vs, by rw [h.len]; exact h.acc.own.rg.mono fun k _ hk => .inl (h.acc.low k hk), h.all.mono hR fun k _ hk => .inr hk.1⟩
theorem Lst.wide (hR : Keeps n R) (h : Lst n R e B w w' A m c vs l) {C : Foot} (hC : ∀ k, k < w'.heap.size → B k → C k) : Lst n R e C w w' A m c vs l :=
  ⟨h.acc, h.all.mono hR fun k hk hG => ⟨hC k hk hG.1, hG.2⟩, h.len⟩
/-- seen from an elder world -/
theorem Lst.elder {v : World} (h : Lst n R e B w w' A m c vs l) (hb : Below v.heap.size v w) : Lst n R e B v w' A m c vs l :=
  ⟨⟨h.acc.own, hb.trans (h.acc.bel.mono hb.size), fun x hx => Nat.le_trans hb.size (h.acc.low x hx)⟩, h.all, h.len⟩
end
/-- a list handed back in new memory -/
def RetL {α : Type} (n : Nat) (R : Rel α) (e : TypeId) (l : List α) (w : World) (r : Ending) (w' : World) : Prop :=
  ∃ A c vs, r = .returned (.slice A l.length c) ∧ Lst n R e (fun k => w.heap.size ≤ k) w w' A l.length c vs l
end Go.Proofs.Ytafepficapdepaa.foot

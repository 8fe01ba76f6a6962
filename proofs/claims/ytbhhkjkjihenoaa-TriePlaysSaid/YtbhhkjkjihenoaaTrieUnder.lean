/- What a tree's under, Below, Count return. Conditions as each lemma states. -/
import Derived.Test.YtbhhkjkjihenoaaTrieList
namespace Go.Proofs.Ytbhhkjkjihenoaa.tri
open Go.RowKit Go.Proofs.Ytbhhkjkjihenoaa.kit Go.Proofs.Ytbhhkjkjihenoaa.mem Go.Proofs.Ytbhhkjkjihenoaa.foot Go.Proofs.Ytbhhkjkjihenoaa.pfx
set_option linter.unusedVariables false
set_option linter.unusedSimpArgs false

theorem within_key {k p : Key} (hk : k.length ≤ 32) (hp : p.length ≤ 32) : withinB (adr p) p.length (adr k) k.length = decide (k <+: p ∧ k ≠ p) := by
  unfold withinB
  rw [cover_key hk hp, Bool.eq_iff_iff]
  have : k = p ↔ (adr p = adr k ∧ (p.length : Int) = k.length) := by
    rw [key_eq]; constructor
    · rintro ⟨h1, h2⟩; exact ⟨h1.symm, by omega⟩
    · rintro ⟨h1, h2⟩; exact ⟨h1.symm, by omega⟩
  simp only [Bool.and_eq_true, Bool.not_eq_true', decide_eq_true_eq, ne_eq, this]
  simp only [Bool.and_eq_false_iff, decide_eq_false_iff_not]
  constructor
  · rintro ⟨h1, h2⟩; refine ⟨h1, fun h => ?_⟩; rcases h2 with h2 | h2; exact h2 h.1; exact h2 h.2
  · rintro ⟨h1, h2⟩; refine ⟨h1, ?_⟩
    by_cases e : adr p = adr k
    · exact .inr fun e2 => h2 ⟨e, e2⟩
    · exact .inl e
/-- a part of the tree, to be read -/
def Sub (w : World) (F : Foot) (s : T) (A : Option Addr) : Prop := ∃ G, Tr w G s A ∧ (∀ x, G x → F x) ∧ ∃ c, s.Wf c
theorem Sub.bel {w w' : World} {F : Foot} {s : T} {A : Option Addr} (h : Sub w F s A) (hb : Below w.heap.size w w') : Sub w' F s A := by
  obtain ⟨G, h1, h2, h3⟩ := h; exact ⟨G, h1.bel hb, h2, h3⟩
theorem Sub.nil_ {w : World} {F : Foot} {A : Option Addr} (h : Sub w F .nil A) : A = none := by obtain ⟨G, h1, _⟩ := h; exact h1
theorem Sub.node {w : World} {F : Foot} {A : Option Addr} {k : Key} {u : Int} {b : Bool} {l r : T} (h : Sub w F (.node k u b l r) A) :
    ∃ g kl kr, A = some ⟨g, 0, none⟩ ∧ Bk w g 138 (nodeV k u b (T.node k u b l r).cnt kl kr) ∧ k.length ≤ 32 ∧ F g ∧ Sub w F l kl ∧ Sub w F r kr ∧ msz l < msz (.node k u b l r) ∧ msz r < msz (.node k u b l r) := by
  obtain ⟨G, ⟨g, FL, FR, kl, kr, e, c1, c2, c3, c4, c5, c6, c7, c8, c9, _⟩, hG, c, hc⟩ := h
  exact ⟨g, kl, kr, e, c1, c2, hG g c5, ⟨FL, c3, fun x hx => hG x (c8 x hx).1, _, hc.2.1⟩, ⟨FR, c4, fun x hx => hG x (c9 x hx), _, hc.2.2.1⟩, by simpa using msz_lt hc c2 false, by simpa using msz_lt hc c2 true⟩
/-- how long the key of the node at a pointer is, from 33 down -/
def ptrM (v : Value) (w : World) : Nat := match v with | .pointer (some ad) => (match w.cell? ⟨ad.block, 1, none⟩ with | some (.int _ n) => 33 - n.toNat | _ => 0) | _ => 0
theorem ptrM_eq {w : World} {F : Foot} {s : T} {A : Option Addr} (h : Sub w F s A) : ptrM (.pointer A) w = msz s := by
  cases s with
  | nil => have := h.nil_; subst this; rfl
  | node k u b l r =>
    obtain ⟨g, kl, kr, rfl, hg, _⟩ := h.node
    have := hg.cell 1
    simp at this
    simp [ptrM, this, msz]
theorem Tri.sub {w : World} {F : Foot} {tr : Nat} {t : T} (h : Tri w F tr t) (hw : t.Wf []) : ∃ A, Bk w tr 130 #[.pointer A] ∧ Sub w F t A := by
  obtain ⟨⟨A, G, h1, h2, h3, h4⟩, _⟩ := h
  exact ⟨A, h1, G, h2, h4, [], hw⟩

/-- what under hands back -/
def UnderP (w : World) (F : Foot) (s : T) (e : Ending) (w' : World) : Prop := ∃ A, e = .returned (.pointer A) ∧ Below w.heap.size w w' ∧ Sub w' F s A
/-- on the way down -/
structure UnJ (w : World) (F : Foot) (t : T) (p : Key) (s : T) (A : Option Addr) (wr : World) : Prop where
  sub : Sub wr F s A
  eq : t.under p = s.under p
  bel : Below (w.heap.size + 1) (w.alloc (.cells #[.int .u32 (adr p : Int), .int .i64 (p.length : Int)] 30)) wr
section
variable {w wr w' : World} {F : Foot} {t s : T} {p : Key} {A : Option Addr}
theorem UnJ.below (h : UnJ w F t p s A wr) : Below w.heap.size w wr := ((Below.refl _ _).alloc (Nat.le_refl _) _).trans (h.bel.mono (by omega))
theorem UnJ.box (h : UnJ w F t p s A wr) : Bk wr w.heap.size 30 #[.int .u32 (adr p : Int), .int .i64 (p.length : Int)] := (Bk.new w _ _).below h.bel (by omega)
theorem UnJ.go (h : UnJ w F t p s A wr) (hb : Below wr.heap.size wr w') : UnJ w F t p s A w' := ⟨h.sub.bel hb, h.eq, h.bel.trans (hb.mono (by have := h.bel.size; simpa using this))⟩
end
end Go.Proofs.Ytbhhkjkjihenoaa.tri

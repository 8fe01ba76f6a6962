/- What a tree's find returns. Conditions as each lemma states. -/
import Derived.Test.YtbhhkjkjihenoaaTrieCommon
namespace Go.Proofs.Ytbhhkjkjihenoaa.tri
open Go.RowKit Go.Proofs.Ytbhhkjkjihenoaa.kit Go.Proofs.Ytbhhkjkjihenoaa.mem Go.Proofs.Ytbhhkjkjihenoaa.foot Go.Proofs.Ytbhhkjkjihenoaa.pfx
set_option linter.unusedVariables false
set_option linter.unusedSimpArgs false

/-- block tr is a tree's head, over this tree -/
structure Tri (w : World) (F : Foot) (tr : Nat) (t : T) : Prop where
  root : ∃ A G, Bk w tr 130 #[.pointer A] ∧ Tr w G t A ∧ ¬ G tr ∧ ∀ x, G x → F x
  mem : F tr
  lt : ∀ x, F x → x < w.heap.size
section
variable {w w' : World} {F E : Foot} {tr : Nat} {t : T}
theorem Tri.chg (h : Tri w F tr t) (hc : Chg E w w') (hd : ∀ x, F x → ¬ E x) : Tri w' F tr t := by
  obtain ⟨⟨A, G, h1, h2, h3, h4⟩, h5, h6⟩ := h
  exact ⟨⟨A, G, h1.chg hc (hd tr h5), h2.chg hc fun x hx => hd x (h4 x hx), h3, h4⟩, h5, fun x hx => Nat.lt_of_lt_of_le (h6 x hx) hc.size⟩
theorem Tri.bel (h : Tri w F tr t) (hb : Below w.heap.size w w') : Tri w' F tr t := h.chg (E := fun _ => False) (Chg.of_below hb _) fun _ _ e => e
end
/-- where a key's node lies; what becomes of the tree if its value is written -/
def Found (w : World) (F : Foot) (tr : Nat) (t : T) (p : Key) (s : T) (A : Option Addr) : Prop :=
  ∃ G, Tr w G s A ∧ (∀ x, G x → F x) ∧ t.find p = s.find p ∧ ∀ v w2, Tr w2 G (s.put p v) A → (s.put p v).cnt = s.cnt → Chg G w w2 → Tri w2 F tr (t.put p v)
theorem Found.start {w : World} {F : Foot} {tr : Nat} {t : T} (p : Key) (h : Tri w F tr t) : ∃ A, Bk w tr 130 #[.pointer A] ∧ Found w F tr t p t A := by
  obtain ⟨⟨A, G, h1, h2, h3, h4⟩, h5, h6⟩ := h
  exact ⟨A, h1, G, h2, h4, rfl, fun v w2 g1 g2 g3 => ⟨⟨A, G, h1.chg g3 h3, g1, h3, h4⟩, h5, fun x hx => Nat.lt_of_lt_of_le (h6 x hx) g3.size⟩⟩
theorem T.cnt_side {k : Key} {v : Int} {b : Bool} {l r l' r' : T} (hl : l'.cnt = l.cnt) (hr : r'.cnt = r.cnt) : (T.node k v b l' r').cnt = (T.node k v b l r).cnt := by
  rw [T.cnt_node, T.cnt_node, hl, hr]
theorem Found.down {w : World} {F : Foot} {tr : Nat} {t : T} {p k : Key} {u : Int} {b : Bool} {l r : T} {A : Option Addr} (h : Found w F tr t p (.node k u b l r) A) (h1 : k <+: p) (hne : k ≠ p) :
    ∃ g kl kr, A = some ⟨g, 0, none⟩ ∧ Bk w g 138 (nodeV k u b (T.node k u b l r).cnt kl kr) ∧ k.length ≤ 32 ∧ F g ∧ Found w F tr t p (if side k p = true then r else l) (if side k p = true then kr else kl) := by
  obtain ⟨G, ⟨g, FL, FR, kl, kr, e, c1, c2, c3, c4, c5, c6, c7, c8, c9, c10, c11⟩, hG, hf, hp⟩ := h
  refine ⟨g, kl, kr, e, c1, c2, hG g c5, ?_⟩
  by_cases hs : side k p = true
  · rw [if_pos hs, if_pos hs]
    refine ⟨FR, c4, fun x hx => hG x (c9 x hx), by rw [hf, T.find, if_pos h1, if_neg hne, if_pos hs], fun v w2 g1 g2 g3 => ?_⟩
    have e1 : (T.node k u b l r).put p v = T.node k u b l (r.put p v) := by rw [T.put, if_neg hne, if_pos h1, if_pos hs]
    have e2 : (T.node k u b l (r.put p v)).cnt = (T.node k u b l r).cnt := T.cnt_side rfl g2
    have hcc : Chg G w w2 := g3.mono fun i _ hi => c9 i hi
    refine hp v w2 ?_ (by rw [e1]; exact e2) hcc
    rw [e1]
    refine ⟨g, FL, FR, kl, kr, e, ?_, c2, c3.chg g3 fun x hx => (c8 x hx).2, g1, c5, c6, c7, c8, c9, fun x hx => Nat.lt_of_lt_of_le (c10 x hx) g3.size, fun x hx => Nat.lt_of_lt_of_le (c11 x hx) g3.size⟩
    rw [e2]; exact c1.chg g3 c7
  · rw [if_neg hs, if_neg hs]
    refine ⟨FL, c3, fun x hx => hG x (c8 x hx).1, by rw [hf, T.find, if_pos h1, if_neg hne, if_neg hs], fun v w2 g1 g2 g3 => ?_⟩
    have e1 : (T.node k u b l r).put p v = T.node k u b (l.put p v) r := by rw [T.put, if_neg hne, if_pos h1, if_neg hs]
    have e2 : (T.node k u b (l.put p v) r).cnt = (T.node k u b l r).cnt := T.cnt_side g2 rfl
    have hcc : Chg G w w2 := g3.mono fun i _ hi => (c8 i hi).1
    refine hp v w2 ?_ (by rw [e1]; exact e2) hcc
    rw [e1]
    refine ⟨g, FL, FR, kl, kr, e, ?_, c2, g1, c4.chg g3 fun x hx hl => (c8 x hl).2 hx, c5, c6, c7, c8, c9, fun x hx => Nat.lt_of_lt_of_le (c10 x hx) g3.size, fun x hx => Nat.lt_of_lt_of_le (c11 x hx) g3.size⟩
    rw [e2]; exact c1.chg g3 c6

/-- covering between a node's key and a good prefix -/
theorem cover_key {k p : Key} (hk : k.length ≤ 32) (hp : p.length ≤ 32) : coverB (adr k) k.length (adr p) p.length = decide (k <+: p) := by
  unfold coverB hasB
  rw [good_adr hp, good_adr hk, Int.toNat_natCast, Bool.eq_iff_iff]
  simp only [Bool.true_and, Bool.and_eq_true, decide_eq_true_eq, beq_iff_eq]
  rw [← bits_adr hp, ← pre_iff (adr_lt hp) hk]
  rw [bits_adr hp]
  constructor
  · rintro ⟨h1, h2⟩; exact ⟨by omega, h2⟩
  · rintro ⟨h1, h2⟩; exact ⟨by omega, h2⟩
theorem side_num {k p : Key} (hp : p.length ≤ 32) (h : k.length < p.length) : adr p / 2 ^ (31 - k.length) % 2 = if side k p = true then 1 else 0 := by
  have h1 := bits_at (adr p) p.length k.length h
  rw [bits_adr hp] at h1
  unfold side
  rw [h1]
  have := Nat.mod_lt (adr p / 2 ^ (31 - k.length)) (show 2 > 0 by omega)
  split <;> rename_i hh <;> simp at hh <;> omega
theorem pre_lt {k p : Key} (h : k <+: p) (hne : k ≠ p) : k.length < p.length := by
  have := h.length_le
  rcases Nat.lt_or_ge k.length p.length with h2 | h2
  · exact h2
  · exact absurd (h.eq_of_length (by omega)) hne
theorem key_ne {k p : Key} (h : k ≠ p) : adr k ≠ adr p ∨ (k.length : Int) ≠ p.length := by
  by_cases e : adr k = adr p
  · refine .inr fun e2 => h (key_eq.2 ⟨e, by omega⟩)
  · exact .inl e
end Go.Proofs.Ytbhhkjkjihenoaa.tri

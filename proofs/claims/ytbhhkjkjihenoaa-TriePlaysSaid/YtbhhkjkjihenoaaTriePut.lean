/- What the trie's inner put leaves, lemmas on trees in memory. Conditions as each lemma states. -/
import Derived.Test.YtbhhkjkjihenoaaTrieFind2
import Derived.Deep.RegionWith
namespace Go.Proofs.Ytbhhkjkjihenoaa.tri
open Go.RowKit Go.Proofs.Ytbhhkjkjihenoaa.kit Go.Proofs.Ytbhhkjkjihenoaa.mem Go.Proofs.Ytbhhkjkjihenoaa.foot Go.Proofs.Ytbhhkjkjihenoaa.pfx
set_option linter.unusedVariables false
set_option linter.unusedSimpArgs false

theorem put_cnt (p : Key) (v : Int) : ∀ t : T, (t.put p v).cnt ≤ t.cnt + 1
  | .nil => by simp [T.put, T.cnt, T.rows]
  | .node k u b l r => by
    have hl := put_cnt p v l
    have hr := put_cnt p v r
    have z : T.nil.cnt = 0 := rfl
    unfold T.put
    (repeat' split) <;> simp only [T.cnt_node, z] <;> (try cases b) <;> simp <;> omega

section
variable {w w0 w1 w' w3 : World} {F G : Foot} {t : T}
/-- a node laid together -/
theorem Tr.mk {k : Key} {v : Int} {b : Bool} {l r : T} {g n : Nat} {FL FR : Foot} {kl kr : Option Addr} (h1 : Bk w g 138 (nodeV k v b n kl kr)) (hn : n = (T.node k v b l r).cnt) (hk : k.length ≤ 32) (hl : Tr w FL l kl) (hr : Tr w FR r kr)
    (h2 : ¬ FL g) (h3 : ¬ FR g) (h4 : ∀ x, FL x → ¬ FR x) (h5 : ∀ x, FL x → x < w.heap.size) (h6 : ∀ x, FR x → x < w.heap.size) : Tr w (fun x => x = g ∨ FL x ∨ FR x) (.node k v b l r) (some ⟨g, 0, none⟩) := by
  subst hn
  exact ⟨g, FL, FR, kl, kr, rfl, h1, hk, hl, hr, .inl rfl, h2, h3, fun x hx => ⟨.inr (.inl hx), h4 x hx⟩, fun x hx => .inr (.inr hx), h5, h6⟩
/-- a tree that stands behind a call: where, and what was written -/
def Left (w : World) (F : Foot) (t : T) (A : Option Addr) (w' : World) : Prop := ∃ F', Tr w' F' t A ∧ Chg F w w' ∧ Fresh w F F' ∧ ∀ x, F' x → x < w'.heap.size
/-- .. a low kid made anew -/
theorem Left.low {k : Key} {u : Int} {b : Bool} {l r : T} {g : Nat} {kl kr : Option Addr} (h : Tr w F (.node k u b l r) (some ⟨g, 0, none⟩)) (hg : Bk w g 138 (nodeV k u b (T.node k u b l r).cnt kl kr))
    (hb : Below w.heap.size w w0) : ∃ FL, Tr w0 FL l kl ∧ (∀ x, FL x → x < w0.heap.size) ∧ (∀ x, FL x → x ≠ g ∧ x < w.heap.size) ∧ Cn w0 kr r.cnt ∧ (∀ x, sf kr x → ¬ FL x ∧ x ≠ g ∧ x < w.heap.size) ∧ k.length ≤ 32 ∧
      ∀ (l' : T) (A' : Option Addr) (w1 w3 : World), Left w0 FL l' A' w1 → Chg (fun x => x = g) w1 w3 → Bk w3 g 138 (nodeV k u b (T.node k u b l' r).cnt A' kr) → Left w F (.node k u b l' r) (some ⟨g, 0, none⟩) w3 := by
  obtain ⟨g', FL, FR, kl', kr', e, c1, c2, c3, c4, c5, c6, c7, c8, c9, c10, c11⟩ := h
  cases e
  have e4 := hg.symm.trans c1
  simp [nodeV] at e4
  obtain ⟨rfl, rfl⟩ := e4
  have hFR : ∀ x, sf kr x → FR x := by
    rintro x ⟨ad, rfl, rfl⟩
    cases r with
    | nil => exact absurd c4 (by simp [Tr])
    | node => obtain ⟨g2, _, _, _, _, e2, _, _, _, _, hm, _⟩ := c4; cases e2; exact hm
  refine ⟨FL, c3.chg (E := fun _ => False) ((Chg.of_below hb _)) (fun _ _ e => e), fun x hx => Nat.lt_of_lt_of_le (c10 x hx) hb.size, fun x hx => ⟨fun e => c6 (e ▸ hx), c10 x hx⟩, (c4.chg (E := fun _ => False) (Chg.of_below hb _) (fun _ _ e => e)).cn, fun x hx => ⟨fun hl => (c8 x hl).2 (hFR x hx), fun e => c7 (e ▸ hFR x hx), c11 x (hFR x hx)⟩, c2, ?_⟩
  rintro l' A' w1 w3 ⟨FL', d1, d2, d3, d4⟩ h3 hk
  have hsz := hb.size
  have hFL' : ∀ x, FL' x → x ≠ g ∧ ¬ FR x := fun x hx => by
    rcases d3 x hx with e | e
    · exact ⟨fun e2 => c6 (e2 ▸ e), (c8 x e).2⟩
    · exact ⟨fun e2 => by have := c1.lt; omega, fun e2 => by have := c11 x e2; omega⟩
  have hr3 : Tr w3 FR r kr := ((c4.chg (E := fun _ => False) (Chg.of_below hb _) (fun _ _ e => e)).chg d2 fun x hx hl => (c8 x hl).2 hx).chg h3 fun x hx e => c7 (e ▸ hx)
  refine ⟨fun x => x = g ∨ FL' x ∨ FR x, Tr.mk hk rfl c2 (d1.chg h3 fun x hx e => (hFL' x hx).1 e) hr3 (fun e => (hFL' g e).1 rfl) c7 (fun x hx => (hFL' x hx).2) (fun x hx => Nat.lt_of_lt_of_le (d4 x hx) h3.size) (fun x hx => Nat.lt_of_lt_of_le (c11 x hx) (Nat.le_trans hsz (Nat.le_trans d2.size h3.size))), ?_, ?_, ?_⟩
  · exact ((Chg.of_below hb F).trans d2 fun x _ hx => (c8 x hx).1).trans h3 fun x _ e => by rw [e]; exact c5
  · rintro x (e | e | e)
    · exact .inl (by rw [e]; exact c5)
    · rcases d3 x e with h | h
      · exact .inl (c8 x h).1
      · exact .inr (by omega)
    · exact .inl (c9 x e)
  · rintro x (e | e | e)
    · rw [e]; exact hk.lt
    · exact Nat.lt_of_lt_of_le (d4 x e) h3.size
    · exact Nat.lt_of_lt_of_le (c11 x e) (Nat.le_trans hsz (Nat.le_trans d2.size h3.size))
/-- .. a high kid made anew -/
theorem Left.high {k : Key} {u : Int} {b : Bool} {l r : T} {g : Nat} {kl kr : Option Addr} (h : Tr w F (.node k u b l r) (some ⟨g, 0, none⟩)) (hg : Bk w g 138 (nodeV k u b (T.node k u b l r).cnt kl kr))
    (hb : Below w.heap.size w w0) : ∃ FR, Tr w0 FR r kr ∧ (∀ x, FR x → x < w0.heap.size) ∧ (∀ x, FR x → x ≠ g ∧ x < w.heap.size) ∧ Cn w0 kl l.cnt ∧ (∀ x, sf kl x → ¬ FR x ∧ x ≠ g ∧ x < w.heap.size) ∧ k.length ≤ 32 ∧
      ∀ (r' : T) (A' : Option Addr) (w1 w3 : World), Left w0 FR r' A' w1 → Chg (fun x => x = g) w1 w3 → Bk w3 g 138 (nodeV k u b (T.node k u b l r').cnt kl A') → Left w F (.node k u b l r') (some ⟨g, 0, none⟩) w3 := by
  obtain ⟨g', FL, FR, kl', kr', e, c1, c2, c3, c4, c5, c6, c7, c8, c9, c10, c11⟩ := h
  cases e
  have e4 := hg.symm.trans c1
  simp [nodeV] at e4
  obtain ⟨rfl, rfl⟩ := e4
  have hFL : ∀ x, sf kl x → FL x := by
    rintro x ⟨ad, rfl, rfl⟩
    cases l with
    | nil => exact absurd c3 (by simp [Tr])
    | node => obtain ⟨g2, _, _, _, _, e2, _, _, _, _, hm, _⟩ := c3; cases e2; exact hm
  refine ⟨FR, c4.chg (E := fun _ => False) ((Chg.of_below hb _)) (fun _ _ e => e), fun x hx => Nat.lt_of_lt_of_le (c11 x hx) hb.size, fun x hx => ⟨fun e => c7 (e ▸ hx), c11 x hx⟩, (c3.chg (E := fun _ => False) (Chg.of_below hb _) (fun _ _ e => e)).cn, fun x hx => ⟨fun hl => (c8 x (hFL x hx)).2 hl, fun e => c6 (e ▸ hFL x hx), c10 x (hFL x hx)⟩, c2, ?_⟩
  rintro r' A' w1 w3 ⟨FR', d1, d2, d3, d4⟩ h3 hk
  have hsz := hb.size
  have hFR' : ∀ x, FR' x → x ≠ g ∧ ¬ FL x := fun x hx => by
    rcases d3 x hx with e | e
    · exact ⟨fun e2 => c7 (e2 ▸ e), fun hl => (c8 x hl).2 e⟩
    · exact ⟨fun e2 => by have := c1.lt; omega, fun e2 => by have := c10 x e2; omega⟩
  have hl3 : Tr w3 FL l kl := ((c3.chg (E := fun _ => False) (Chg.of_below hb _) (fun _ _ e => e)).chg d2 fun x hx hl => (c8 x hx).2 hl).chg h3 fun x hx e => c6 (e ▸ hx)
  refine ⟨fun x => x = g ∨ FL x ∨ FR' x, Tr.mk hk rfl c2 hl3 (d1.chg h3 fun x hx e => (hFR' x hx).1 e) c6 (fun e => (hFR' g e).1 rfl) (fun x hx hr => (hFR' x hr).2 hx) (fun x hx => Nat.lt_of_lt_of_le (c10 x hx) (Nat.le_trans hsz (Nat.le_trans d2.size h3.size))) (fun x hx => Nat.lt_of_lt_of_le (d4 x hx) h3.size), ?_, ?_, ?_⟩
  · exact ((Chg.of_below hb F).trans d2 fun x _ hx => c9 x hx).trans h3 fun x _ e => by rw [e]; exact c5
  · rintro x (e | e | e)
    · exact .inl (by rw [e]; exact c5)
    · exact .inl (c8 x e).1
    · rcases d3 x e with h | h
      · exact .inl (c9 x h)
      · exact .inr (by omega)
  · rintro x (e | e | e)
    · rw [e]; exact hk.lt
    · exact Nat.lt_of_lt_of_le (c10 x e) (Nat.le_trans hsz (Nat.le_trans d2.size h3.size))
    · exact Nat.lt_of_lt_of_le (d4 x e) h3.size
/-- .. a leaf made anew -/
theorem Left.leaf {F : Foot} {p : Key} {v : Int} {g : Nat} (hp : p.length ≤ 32) (hb : Below w.heap.size w w') (hg : w.heap.size ≤ g) (hk : Bk w' g 138 (nodeV p v true 1 none none)) : Left w F (.node p v true .nil .nil) (some ⟨g, 0, none⟩) w' :=
  ⟨_, Tr.mk (FL := fun _ => False) (FR := fun _ => False) hk rfl hp rfl rfl (fun e => e) (fun e => e) (fun _ e => e.elim) (fun _ e => e.elim) (fun _ e => e.elim), Chg.of_below hb F, fun x hx => by rcases hx with e | e | e <;> first | exact e.elim | exact .inr (by omega), fun x hx => by rcases hx with e | e | e <;> first | exact e.elim | (rw [e]; exact hk.lt)⟩
/-- .. a node whose own part alone was written -/
theorem Left.own {k : Key} {u v : Int} {b d : Bool} {l r : T} {g : Nat} {kl kr : Option Addr} (h : Tr w F (.node k u b l r) (some ⟨g, 0, none⟩)) (hF : ∀ x, F x → x < w.heap.size) (hg : Bk w g 138 (nodeV k u b (T.node k u b l r).cnt kl kr))
    (hb : Chg (fun x => x = g) w w') (hk : Bk w' g 138 (nodeV k v d (T.node k v d l r).cnt kl kr)) : Left w F (.node k v d l r) (some ⟨g, 0, none⟩) w' := by
  obtain ⟨g', FL, FR, kl', kr', e, c1, c2, c3, c4, c5, c6, c7, c8, c9, c10, c11⟩ := h
  cases e
  have e4 := hg.symm.trans c1
  simp [nodeV] at e4
  obtain ⟨rfl, rfl⟩ := e4
  exact ⟨F, ⟨g, FL, FR, kl, kr, rfl, hk, c2, c3.chg hb fun x hx e => c6 (e ▸ hx), c4.chg hb fun x hx e => c7 (e ▸ hx), c5, c6, c7, c8, c9, fun x hx => Nat.lt_of_lt_of_le (c10 x hx) hb.size, fun x hx => Nat.lt_of_lt_of_le (c11 x hx) hb.size⟩, hb.mono fun x _ e => by rw [e]; exact c5, Fresh.refl _ _, fun x hx => Nat.lt_of_lt_of_le (hF x hx) hb.size⟩
/-- .. a new node over the old tree, and perhaps a new leaf -/
theorem Left.over {k : Key} {u : Int} {b : Bool} {l r : T} {g n : Nat} {FL FR : Foot} {kl kr : Option Addr} (hF : ∀ x, F x → x < w.heap.size) (hb : Below w.heap.size w w') (hg : w.heap.size ≤ g) (hk : Bk w' g 138 (nodeV k u b n kl kr)) (hn : n = (T.node k u b l r).cnt) (hkl : k.length ≤ 32)
    (hl : Tr w' FL l kl) (hr : Tr w' FR r kr) (h2 : ∀ x, FL x → F x ∨ (w.heap.size ≤ x ∧ x ≠ g ∧ x < w'.heap.size)) (h3 : ∀ x, FR x → F x ∨ (w.heap.size ≤ x ∧ x ≠ g ∧ x < w'.heap.size)) (h4 : ∀ x, FL x → ¬ FR x) : Left w F (.node k u b l r) (some ⟨g, 0, none⟩) w' := by
  have hs := hb.size
  refine ⟨_, Tr.mk hk hn hkl hl hr (fun e => ?_) (fun e => ?_) h4 (fun x hx => ?_) (fun x hx => ?_), Chg.of_below hb F, fun x hx => ?_, fun x hx => ?_⟩
  · rcases h2 g e with h | h
    · have := hF g h; omega
    · exact h.2.1 rfl
  · rcases h3 g e with h | h
    · have := hF g h; omega
    · exact h.2.1 rfl
  · rcases h2 x hx with h | h
    · have := hF x h; omega
    · exact h.2.2
  · rcases h3 x hx with h | h
    · have := hF x h; omega
    · exact h.2.2
  · rcases hx with e | e | e
    · exact .inr (by omega)
    · exact (h2 x e).imp id fun h => h.1
    · exact (h3 x e).imp id fun h => h.1
  · rcases hx with e | e | e
    · rw [e]; exact hk.lt
    · rcases h2 x e with h | h
      · have := hF x h; omega
      · exact h.2.2
    · rcases h3 x e with h | h
      · have := hF x h; omega
      · exact h.2.2
end
end Go.Proofs.Ytbhhkjkjihenoaa.tri

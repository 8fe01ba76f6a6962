/- The tree of keys: the longest one, what covers a key, what it covers; that its shape is fixed by what it holds; lists of rows. Plain Lean; no program. -/
import Derived.Test.YtpabblkppbfbjaaDoorTrieMath
namespace Go.Proofs.YtpabblkppbfbjaaDoor.tri
set_option linter.unusedVariables false
namespace T

/-- the last key on the way to f that is put -/
def longest (f : Key) : Option (Key × Int) → T → Option (Key × Int)
  | acc, nil => acc
  | acc, node k u b l r => if k <+: f then (if k.length = f.length then (if b = true then some (k, u) else acc) else if side k f = true then longest f (if b = true then some (k, u) else acc) r else longest f (if b = true then some (k, u) else acc) l) else acc
/-- one more row looked at -/
def better (f : Key) (acc : Option (Key × Int)) (x : Key × Int) : Option (Key × Int) :=
  if x.1 <+: f ∧ (∀ y, acc = some y → y.1.length < x.1.length) then some x else acc
theorem better_none {f : Key} : ∀ {l : List (Key × Int)} (acc : Option (Key × Int)), (∀ x ∈ l, ¬ x.1 <+: f) → l.foldl (better f) acc = acc
  | [], _, _ => rfl
  | x :: l, acc, h => by
    rw [List.foldl_cons]
    have : better f acc x = acc := by unfold better; rw [if_neg]; intro h2; exact h x (by simp) h2.1
    rw [this]; exact better_none acc fun y hy => h y (List.mem_cons_of_mem _ hy)
theorem longest_eq {f : Key} : ∀ {c : Key} {t : T} (acc : Option (Key × Int)), t.Wf c → (∀ y, acc = some y → y.1.length < c.length ∨ (c = [] ∧ False)) → t.longest f acc = t.rows.foldl (better f) acc
  | c, nil, acc, _, _ => rfl
  | c, node k u b l r, acc, h, ha => by
    have ul := rows_under h.2.1
    have ur := rows_under h.2.2.1
    have hk : (node k u b l r).Wf k := ⟨List.prefix_refl k, h.2⟩
    unfold longest
    by_cases h1 : k <+: f
    · rw [if_pos h1]
      have hkl := h.1.length_le
      have hroot : (if b = true then [(k, u)] else []).foldl (better f) acc = (if b = true then some (k, u) else acc) := by
        cases b
        · rfl
        · simp only [if_true, List.foldl_cons, List.foldl_nil]
          unfold better
          rw [if_pos]
          refine ⟨h1, fun y hy => ?_⟩
          rcases ha y hy with h | h
          · show y.1.length < k.length; omega
          · exact h.2.elim
      have hacc : ∀ d, ∀ y, (if b = true then some (k, u) else acc) = some y → y.1.length < (k ++ [d]).length ∨ (k ++ [d] = [] ∧ False) := by
        intro d y hy
        refine .inl ?_
        rw [List.length_append, List.length_singleton]
        cases b
        · simp at hy
          rcases ha y hy with h | h
          · omega
          · exact h.2.elim
        · simp at hy; subst hy; show k.length < k.length + 1; omega
      rw [rows, List.foldl_append, List.foldl_append, hroot]
      by_cases e : k.length = f.length
      · rw [if_pos e]
        have := h1.eq_of_length e
        subst this
        rw [better_none _ fun x hx hp => ?_, better_none _ fun x hx hp => ?_]
        · have := ((ul x hx).trans hp).length_le; simp at this; omega
        · have := ((ur x hx).trans hp).length_le; simp at this; omega
      · rw [if_neg e]
        by_cases hs : side k f = true
        · rw [if_pos hs, longest_eq _ h.2.2.1 (hacc true)]
          rw [better_none (l := l.rows) _ fun x hx hp => ?_]
          have := side_of ((ul x hx).trans hp); rw [hs] at this; cases this
        · rw [if_neg hs, longest_eq _ h.2.1 (hacc false)]
          rw [better_none (l := r.rows) _ fun x hx hp => ?_]
          have := side_of ((ur x hx).trans hp); exact hs this
    · rw [if_neg h1, better_none _ fun x hx hp => h1 ((rows_under hk x hx).trans hp)]

/-- what covers a key, and is another one -/
def above (p : Key) : T → List Key
  | nil => []
  | node k u b l r => if k <+: p ∧ k ≠ p then (if b = true then [k] else []) ++ (if side k p = true then r.above p else l.above p) else []
theorem filter_none {α : Type} {q : α → Bool} {l : List α} (h : ∀ x ∈ l, q x = false) : l.filter q = [] := by
  rw [List.filter_eq_nil_iff]; intro x hx; rw [h x hx]; simp
theorem filter_all {α : Type} {q : α → Bool} {l : List α} (h : ∀ x ∈ l, q x = true) : l.filter q = l := List.filter_eq_self.2 h
theorem above_eq {p : Key} : ∀ {c : Key} {t : T}, t.Wf c → t.above p = (t.rows.filter fun x => decide (x.1 <+: p ∧ x.1 ≠ p)).map (·.1)
  | c, nil, _ => rfl
  | c, node k u b l r, h => by
    have ul := rows_under h.2.1
    have ur := rows_under h.2.2.1
    have hk : (node k u b l r).Wf k := ⟨List.prefix_refl k, h.2⟩
    unfold above
    by_cases h1 : k <+: p ∧ k ≠ p
    · rw [if_pos h1, rows, List.filter_append, List.map_append, List.filter_append, List.map_append]
      have hr : ((if b = true then [(k, u)] else []).filter fun x => decide (x.1 <+: p ∧ x.1 ≠ p)).map (·.1) = if b = true then [k] else [] := by
        cases b
        · rfl
        · simp only [if_true, List.filter_cons, decide_eq_true h1, List.filter_nil, List.map_cons, List.map_nil]
      rw [hr]
      congr 1
      by_cases hs : side k p = true
      · rw [if_pos hs, above_eq h.2.2.1, filter_none (l := l.rows) fun x hx => ?_]
        · rfl
        · rw [decide_eq_false_iff_not]; intro hp
          have := side_of ((ul x hx).trans hp.1); rw [hs] at this; cases this
      · rw [if_neg hs, above_eq h.2.1, filter_none (l := r.rows) fun x hx => ?_]
        · simp
        · rw [decide_eq_false_iff_not]; intro hp
          have := side_of ((ur x hx).trans hp.1); exact hs this
    · rw [if_neg h1, filter_none fun x hx => ?_]
      · rfl
      · rw [decide_eq_false_iff_not]
        intro hp
        have hx := rows_under hk x hx
        refine h1 ⟨hx.trans hp.1, fun e => hp.2 ?_⟩
        rw [e] at hx
        exact (hp.1.eq_of_length (Nat.le_antisymm hp.1.length_le hx.length_le))

/-- the highest node that a key covers -/
def under (p : Key) : T → T
  | nil => nil
  | node k u b l r => if k <+: p ∧ k ≠ p then (if side k p = true then r.under p else l.under p) else if p <+: k then node k u b l r else nil
theorem under_wf {p : Key} : ∀ {c : Key} {t : T}, t.Wf c → (t.under p).Wf c
  | c, nil, _ => trivial
  | c, node k u b l r, h => by
    unfold under
    split
    · split
      · exact (under_wf h.2.2.1).mono (h.1.trans (List.prefix_append _ _))
      · exact (under_wf h.2.1).mono (h.1.trans (List.prefix_append _ _))
    · split
      · exact h
      · trivial
theorem under_eq {p : Key} : ∀ {c : Key} {t : T}, t.Wf c → (t.under p).rows = t.rows.filter fun x => decide (p <+: x.1)
  | c, nil, _ => rfl
  | c, node k u b l r, h => by
    have ul := rows_under h.2.1
    have ur := rows_under h.2.2.1
    have hk : (node k u b l r).Wf k := ⟨List.prefix_refl k, h.2⟩
    unfold under
    by_cases h1 : k <+: p ∧ k ≠ p
    · rw [if_pos h1, rows, List.filter_append, List.filter_append]
      have hr : (if b = true then [(k, u)] else []).filter (fun x => decide (p <+: x.1)) = [] := by
        refine filter_none fun x hx => ?_
        cases b
        · simp at hx
        · simp at hx; subst hx
          rw [decide_eq_false_iff_not]; intro hp
          exact h1.2 (h1.1.eq_of_length (Nat.le_antisymm h1.1.length_le hp.length_le))
      have hps := pre_side h1.1 h1.2
      rw [hr, List.nil_append]
      by_cases hs : side k p = true
      · rw [if_pos hs, under_eq h.2.2.1, filter_none (l := l.rows) fun x hx => ?_]
        · rfl
        · rw [decide_eq_false_iff_not]; intro hp
          have := side_of (hps.trans hp); rw [hs, side_of (ul x hx)] at this; cases this
      · rw [if_neg hs, under_eq h.2.1, filter_none (l := r.rows) fun x hx => ?_]
        · simp
        · rw [decide_eq_false_iff_not]; intro hp
          have := side_of (hps.trans hp); rw [side_of (ur x hx)] at this; exact hs this.symm
    · rw [if_neg h1]
      split
      · rename_i h2
        rw [filter_all fun x hx => ?_]
        rw [decide_eq_true_eq]; exact h2.trans (rows_under hk x hx)
      · rename_i h2
        rw [filter_none fun x hx => ?_]
        · rfl
        · rw [decide_eq_false_iff_not]; intro hp
          rcases List.prefix_or_prefix_of_prefix (rows_under hk x hx) hp with h3 | h3
          · by_cases e : k = p
            · exact h2 (e ▸ List.prefix_refl k)
            · exact h1 ⟨h3, e⟩
          · exact h2 h3

/-- whatever all keys begin with, the root's does -/
theorem root_max {c d k : Key} {u : Int} {b : Bool} {l r : T} (h : (node k u b l r).Wf c) (hd : ∀ x ∈ (node k u b l r).rows, d <+: x.1) : d <+: k := by
  have ul := rows_under h.2.1
  have ur := rows_under h.2.2.1
  rcases h.2.2.2 with rfl | ⟨h1, h2⟩
  · exact hd (k, u) (by simp [rows])
  · have e1 := rows_pos h.2.1 h1
    have e2 := rows_pos h.2.2.1 h2
    obtain ⟨x, hx⟩ := List.exists_mem_of_length_pos e1
    obtain ⟨y, hy⟩ := List.exists_mem_of_length_pos e2
    have hdx := hd x (by simp [rows, hx])
    have hdy := hd y (by simp [rows, hy])
    have hkx := (pre_of_half (ul x hx)).1
    rcases List.prefix_or_prefix_of_prefix hdx hkx with h3 | h3
    · exact h3
    · by_cases e : k = d
      · exact e ▸ List.prefix_refl k
      · have h4 := pre_side h3 e
        have a := side_of (h4.trans hdx)
        have b := side_of (h4.trans hdy)
        rw [side_of (ul x hx)] at a
        rw [side_of (ur y hy)] at b
        rw [← a] at b; cases b
/-- the shape is fixed by the keys -/
theorem size_fixed : ∀ {c d : Key} {t u : T}, t.Wf c → u.Wf d → t.rows.map (·.1) = u.rows.map (·.1) → t.size = u.size
  | c, d, nil, u, ht, hu, e => by
    have : u.rows = [] := by simpa [rows] using e.symm
    rw [rows_nil hu this]
  | c, d, node k v b l r, nil, ht, hu, e => by
    have : (node k v b l r).rows = [] := by simpa [rows] using e
    exact absurd (rows_nil ht this) (by simp)
  | c, d, node k v b l r, node k' v' b' l' r', ht, hu, e => by
    have hk : (node k v b l r).Wf k := ⟨List.prefix_refl k, ht.2⟩
    have hk' : (node k' v' b' l' r').Wf k' := ⟨List.prefix_refl k', hu.2⟩
    have mem : ∀ x, x ∈ (node k v b l r).rows.map (·.1) ↔ x ∈ (node k' v' b' l' r').rows.map (·.1) := fun x => by rw [e]
    have e1 : k' <+: k := root_max ht fun x hx => by
      obtain ⟨y, hy, hyx⟩ := List.mem_map.1 ((mem x.1).1 (List.mem_map_of_mem hx))
      rw [← hyx]; exact rows_under hk' y hy
    have e2 : k <+: k' := root_max hu fun x hx => by
      obtain ⟨y, hy, hyx⟩ := List.mem_map.1 ((mem x.1).2 (List.mem_map_of_mem hx))
      rw [← hyx]; exact rows_under hk y hy
    have ek := e2.eq_of_length (Nat.le_antisymm e2.length_le e1.length_le)
    subst ek
    have ul := rows_under ht.2.1
    have ur := rows_under ht.2.2.1
    have ul' := rows_under hu.2.1
    have ur' := rows_under hu.2.2.1
    have part : ∀ (v : Int) (b : Bool) (l r : T), (∀ x ∈ l.rows, k ++ [false] <+: x.1) → (∀ x ∈ r.rows, k ++ [true] <+: x.1) → ∀ d : Bool, ((node k v b l r).rows.map (·.1)).filter (fun x => decide (k ++ [d] <+: x)) = (if d = true then r.rows else l.rows).map (·.1) := by
      intro v b l r hl hr d
      rw [rows, List.map_append, List.map_append, List.filter_append, List.filter_append]
      have h0 : (List.map (·.1) (if b = true then [(k, v)] else [])).filter (fun x => decide (k ++ [d] <+: x)) = [] := by
        refine filter_none fun x hx => ?_
        cases b
        · simp at hx
        · simp at hx; subst hx; rw [decide_eq_false_iff_not]; intro h; exact (pre_of_half h).2 rfl
      rw [h0, List.nil_append]
      cases d
      · rw [filter_all fun x hx => ?_, filter_none (l := r.rows.map (·.1)) fun x hx => ?_]
        · simp
        · obtain ⟨y, hy, rfl⟩ := List.mem_map.1 hx; rw [decide_eq_false_iff_not]; exact half_apart (hr y hy)
        · obtain ⟨y, hy, rfl⟩ := List.mem_map.1 hx; rw [decide_eq_true_eq]; exact hl y hy
      · rw [filter_all (l := r.rows.map (·.1)) fun x hx => ?_, filter_none fun x hx => ?_]
        · simp
        · obtain ⟨y, hy, rfl⟩ := List.mem_map.1 hx; rw [decide_eq_false_iff_not]; intro h; exact half_apart h (hl y hy)
        · obtain ⟨y, hy, rfl⟩ := List.mem_map.1 hx; rw [decide_eq_true_eq]; exact hr y hy
    have el : l.rows.map (·.1) = l'.rows.map (·.1) := by
      have a := part v b l r ul ur false
      have a' := part v' b' l' r' ul' ur' false
      rw [e, a'] at a
      simpa using a.symm
    have er : r.rows.map (·.1) = r'.rows.map (·.1) := by
      have a := part v b l r ul ur true
      have a' := part v' b' l' r' ul' ur' true
      rw [e, a'] at a
      simpa using a.symm
    rw [size, size, size_fixed ht.2.1 hu.2.1 el, size_fixed ht.2.2.1 hu.2.2.1 er]
end T

/-- rows with a key that has something; without a key -/
def putL (p : Key) (v : Int) (l : List (Key × Int)) : List (Key × Int) :=
  if l.any (fun x => x.1 == p) = true then l.map (fun x => if x.1 = p then (p, v) else x) else l.takeWhile (fun x => lt x.1 p) ++ (p, v) :: l.dropWhile (fun x => lt x.1 p)
def cutL (p : Key) (l : List (Key × Int)) : List (Key × Int) := l.filter fun x => x.1 != p
open T
theorem putL_sorted {p : Key} {v : Int} {l : List (Key × Int)} (h : Sorted l) : Sorted (putL p v l) ∧ ∀ x, x ∈ putL p v l ↔ (x = (p, v) ∨ (x.1 ≠ p ∧ x ∈ l)) := by
  unfold putL
  by_cases ha : l.any (fun x => x.1 == p) = true
  · rw [if_pos ha]
    rw [List.any_eq_true] at ha
    obtain ⟨y, hy, hyp⟩ := ha
    have hyp : y.1 = p := by simpa using hyp
    constructor
    · unfold Sorted
      rw [List.pairwise_map]
      refine h.imp fun {a b} hab => ?_
      have e : ∀ z : Key × Int, (if z.1 = p then (p, v) else z).1 = z.1 := fun z => by split <;> simp_all
      rw [e, e]; exact hab
    · intro x
      rw [List.mem_map]
      constructor
      · rintro ⟨z, hz, rfl⟩
        split
        · exact .inl rfl
        · rename_i hn; exact .inr ⟨hn, hz⟩
      · rintro (rfl | ⟨hn, hx⟩)
        · exact ⟨y, hy, if_pos hyp⟩
        · exact ⟨x, hx, if_neg hn⟩
  · rw [if_neg ha]
    have hno : ∀ x ∈ l, x.1 ≠ p := fun x hx e => ha (List.any_eq_true.2 ⟨x, hx, by simpa using e⟩)
    have hcut : l.takeWhile (fun x => lt x.1 p) ++ l.dropWhile (fun x => lt x.1 p) = l := List.takeWhile_append_dropWhile
    have hlo : ∀ x ∈ l.takeWhile (fun x => lt x.1 p), lt x.1 p = true := fun x hx => List.all_eq_true.1 (List.all_takeWhile (p := fun x : Key × Int => lt x.1 p)) x hx
    have hhi : ∀ x ∈ l.dropWhile (fun x => lt x.1 p), lt p x.1 = true := by
      have hs := h
      rw [← hcut] at hs
      have hs := (List.pairwise_append.1 hs).2.1
      rcases hd : l.dropWhile (fun x => lt x.1 p) with _ | ⟨z, zs⟩
      · intro x hx; rw [hd] at hx; cases hx
      · have hz : lt z.1 p ≠ true := by
          have := List.head?_dropWhile_not (fun x : Key × Int => lt x.1 p) l
          rw [hd] at this
          simpa using this
        have hzl : z ∈ l := by rw [← hcut, hd]; simp
        have hzp : lt p z.1 = true := by
          rcases lt_tri z.1 p with h | h | h
          · exact absurd h hz
          · exact absurd h (hno z hzl)
          · exact h
        rw [hd] at hs
        have hs' := List.pairwise_cons.1 hs
        intro x hx
        rw [hd] at hx
        rcases List.mem_cons.1 hx with e | hx
        · rw [e]; exact hzp
        · exact lt_trans hzp (hs'.1 x hx)
    constructor
    · have hs := h
      rw [← hcut] at hs
      have hs := List.pairwise_append.1 hs
      refine List.pairwise_append.2 ⟨hs.1, List.pairwise_cons.2 ⟨fun x hx => hhi x hx, hs.2.1⟩, fun x hx y hy => ?_⟩
      rcases List.mem_cons.1 hy with rfl | hy
      · exact hlo x hx
      · exact lt_trans (hlo x hx) (hhi y hy)
    · intro x
      rw [List.mem_append, List.mem_cons]
      have : x ∈ l ↔ x ∈ l.takeWhile (fun x => lt x.1 p) ∨ x ∈ l.dropWhile (fun x => lt x.1 p) := by rw [← List.mem_append, hcut]
      constructor
      · rintro (h | h | h)
        · exact .inr ⟨hno x (this.2 (.inl h)), this.2 (.inl h)⟩
        · exact .inl h
        · exact .inr ⟨hno x (this.2 (.inr h)), this.2 (.inr h)⟩
      · rintro (h | ⟨hn, h⟩)
        · exact .inr (.inl h)
        · rcases this.1 h with h | h
          · exact .inl h
          · exact .inr (.inr h)
theorem cutL_sorted {p : Key} {l : List (Key × Int)} (h : Sorted l) : Sorted (cutL p l) := h.filter _
theorem cutL_mem {p : Key} {l : List (Key × Int)} (x : Key × Int) : x ∈ cutL p l ↔ (x.1 ≠ p ∧ x ∈ l) := by
  simp only [cutL, List.mem_filter, bne_iff_ne]; exact And.comm
theorem rows_put {c p : Key} {v : Int} {t : T} (h : t.Wf c) (hp : c <+: p) : (t.put p v).rows = putL p v t.rows := by
  have hs := putL_sorted (p := p) (v := v) (rows_sorted h)
  exact sorted_ext (rows_sorted (put_wf h hp)) hs.1 fun x => (put_mem h x).trans (hs.2 x).symm
theorem rows_cut {c p : Key} {t : T} (h : t.Wf c) : (t.cut p).rows = cutL p t.rows :=
  sorted_ext (rows_sorted (cut_wf h)) (cutL_sorted (rows_sorted h)) fun x => (cut_mem h x).trans (cutL_mem x).symm
end Go.Proofs.YtpabblkppbfbjaaDoor.tri

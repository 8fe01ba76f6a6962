/- A tree of keys (lists of bits): put, cut, found; what it holds, in order; its shape. Plain Lean; no program, no condition beyond those that each lemma states. -/
namespace Go.Proofs.YtpabblkppbfbjaaDoor.tri
set_option linter.unusedVariables false

abbrev Key := List Bool
/-- which key comes first -/
def lt : Key → Key → Bool
  | [], [] => false
  | [], _ :: _ => true
  | _ :: _, [] => false
  | a :: x, b :: y => if a = b then lt x y else (!a && b)
theorem lt_irr : ∀ x : Key, lt x x = false
  | [] => rfl
  | a :: x => by simp [lt, lt_irr x]
theorem lt_trans : ∀ {x y z : Key}, lt x y = true → lt y z = true → lt x z = true
  | [], [], _, h, _ => by simp [lt] at h
  | _ :: _, [], _, h, _ => by simp [lt] at h
  | [], _ :: _, [], _, h => by simp [lt] at h
  | [], _ :: _, _ :: _, _, _ => rfl
  | _ :: _, _ :: _, [], _, h => by simp [lt] at h
  | a :: x, b :: y, c :: z, h, k => by
    simp only [lt] at h k ⊢
    have ih := @lt_trans x y z
    revert h k
    cases a <;> cases b <;> cases c <;> simp <;> exact ih
theorem lt_asymm {x y : Key} (h : lt x y = true) : lt y x = false := by
  rcases hh : lt y x with _ | _
  · rfl
  · have := lt_trans h hh; rw [lt_irr] at this; cases this
theorem lt_tri : ∀ (x y : Key), lt x y = true ∨ x = y ∨ lt y x = true
  | [], [] => .inr (.inl rfl)
  | [], _ :: _ => .inl rfl
  | _ :: _, [] => .inr (.inr rfl)
  | a :: x, b :: y => by
    have := lt_tri x y
    cases a <;> cases b <;> simp [lt] <;> exact this
theorem lt_pre : ∀ {x y : Key}, x <+: y → x ≠ y → lt x y = true
  | [], [], _, h => absurd rfl h
  | [], _ :: _, _, _ => rfl
  | _ :: _, [], h, _ => by simp at h
  | a :: x, b :: y, h, k => by
    rw [List.cons_prefix_cons] at h
    obtain ⟨rfl, h⟩ := h
    simp only [lt, if_true]
    exact lt_pre h (fun e => k (by rw [e]))
theorem lt_cat : ∀ (c x y : Key), lt (c ++ x) (c ++ y) = lt x y
  | [], _, _ => rfl
  | a :: c, x, y => by simp [lt, lt_cat c x y]
/-- low half before high half -/
theorem lt_half {c x y : Key} (hx : c ++ [false] <+: x) (hy : c ++ [true] <+: y) : lt x y = true := by
  obtain ⟨x', rfl⟩ := hx
  obtain ⟨y', rfl⟩ := hy
  rw [List.append_assoc, List.append_assoc, lt_cat]
  rfl

/-- the bit behind a key -/
def side (k p : Key) : Bool := p.getD k.length false
theorem side_of {k p : Key} {b : Bool} (h : k ++ [b] <+: p) : side k p = b := by
  obtain ⟨t, rfl⟩ := h
  simp [side]
theorem pre_side {k p : Key} (h : k <+: p) (hne : k ≠ p) : k ++ [side k p] <+: p := by
  obtain ⟨t, rfl⟩ := h
  rcases t with _ | ⟨b, t⟩
  · simp at hne
  · simp [side]
theorem pre_of_half {k p : Key} {b : Bool} (h : k ++ [b] <+: p) : k <+: p ∧ k ≠ p := by
  refine ⟨(List.prefix_append k [b]).trans h, fun e => ?_⟩
  have := h.length_le
  rw [← e, List.length_append, List.length_singleton] at this
  omega
theorem half_apart {k p : Key} (h : k ++ [true] <+: p) : ¬ k ++ [false] <+: p := fun h2 => by
  have h3 := side_of h
  have h4 := side_of h2
  rw [h3] at h4; cases h4
/-- how far two keys are alike -/
def lcp : Key → Key → Key
  | a :: x, b :: y => if a = b then a :: lcp x y else []
  | _, _ => []
theorem lcp_left : ∀ (x y : Key), lcp x y <+: x
  | [], y => by simp [lcp]
  | a :: x, [] => by simp [lcp]
  | a :: x, b :: y => by
    simp only [lcp]
    split
    · rw [List.cons_prefix_cons]; exact ⟨rfl, lcp_left x y⟩
    · exact List.nil_prefix
theorem lcp_right : ∀ (x y : Key), lcp x y <+: y
  | [], y => by simp [lcp]
  | a :: x, [] => by simp [lcp]
  | a :: x, b :: y => by
    simp only [lcp]
    split
    · rename_i h; rw [List.cons_prefix_cons]; exact ⟨h, lcp_right x y⟩
    · exact List.nil_prefix
theorem lcp_max : ∀ {c x y : Key}, c <+: x → c <+: y → c <+: lcp x y
  | [], _, _, _, _ => List.nil_prefix
  | _ :: _, [], _, h, _ => by simp at h
  | _ :: _, _ :: _, [], _, h => by simp at h
  | c :: cs, a :: x, b :: y, h, k => by
    rw [List.cons_prefix_cons] at h k
    obtain ⟨rfl, h⟩ := h
    obtain ⟨rfl, k⟩ := k
    simp only [lcp, if_true, List.cons_prefix_cons, true_and]
    exact lcp_max h k
theorem lcp_part {x y : Key} (h1 : ¬ x <+: y) (h2 : ¬ y <+: x) : lcp x y ≠ x ∧ lcp x y ≠ y ∧ side (lcp x y) x ≠ side (lcp x y) y := by
  have e1 : lcp x y ≠ x := fun e => h1 (e ▸ lcp_right x y)
  have e2 : lcp x y ≠ y := fun e => h2 (e ▸ lcp_left x y)
  refine ⟨e1, e2, fun e => ?_⟩
  have a := pre_side (lcp_left x y) e1
  have b := pre_side (lcp_right x y) e2
  rw [← e] at b
  have := (lcp_max a b).length_le
  rw [List.length_append, List.length_singleton] at this
  omega

inductive T where
  | nil : T
  | node (k : Key) (v : Int) (put : Bool) (l r : T) : T
deriving DecidableEq

namespace T
def isNil : T → Bool
  | nil => true
  | node .. => false
/-- all that is put, in order -/
def rows : T → List (Key × Int)
  | nil => []
  | node k v b l r => (if b = true then [(k, v)] else []) ++ (l.rows ++ r.rows)
def size : T → Nat
  | nil => 0
  | node _ _ _ l r => 1 + l.size + r.size
def cnt (t : T) : Nat := t.rows.length
/-- as it should be, all keys from c on -/
def Wf (c : Key) : T → Prop
  | nil => True
  | node k _ b l r => c <+: k ∧ l.Wf (k ++ [false]) ∧ r.Wf (k ++ [true]) ∧ (b = true ∨ (l.isNil = false ∧ r.isNil = false))
theorem Wf.mono {c d : Key} (hd : d <+: c) : ∀ {t : T}, t.Wf c → t.Wf d
  | nil, _ => trivial
  | node .., h => ⟨hd.trans h.1, h.2⟩
theorem cnt_node (k : Key) (v : Int) (b : Bool) (l r : T) : (node k v b l r).cnt = (if b = true then 1 else 0) + l.cnt + r.cnt := by
  simp only [cnt, rows, List.length_append]
  cases b <;> simp <;> omega
theorem rows_under : ∀ {c : Key} {t : T}, t.Wf c → ∀ x ∈ t.rows, c <+: x.1
  | c, nil, _, x, hx => by simp [rows] at hx
  | c, node k v b l r, h, x, hx => by
    simp only [rows, List.mem_append] at hx
    rcases hx with hx | hx | hx
    · cases b
      · simp at hx
      · simp at hx; subst hx; exact h.1
    · exact h.1.trans ((List.prefix_append _ _).trans (rows_under h.2.1 x hx))
    · exact h.1.trans ((List.prefix_append _ _).trans (rows_under h.2.2.1 x hx))
abbrev Sorted (l : List (Key × Int)) : Prop := l.Pairwise fun x y => lt x.1 y.1 = true
theorem rows_sorted : ∀ {c : Key} {t : T}, t.Wf c → Sorted t.rows
  | c, nil, _ => .nil
  | c, node k v b l r, h => by
    have hl := rows_sorted h.2.1
    have hr := rows_sorted h.2.2.1
    have ul := rows_under h.2.1
    have ur := rows_under h.2.2.1
    have hlr : Sorted (l.rows ++ r.rows) := List.pairwise_append.2 ⟨hl, hr, fun x hx y hy => lt_half (ul x hx) (ur y hy)⟩
    unfold rows
    cases b
    · simpa using hlr
    · simp only [if_true, List.singleton_append, Sorted, List.pairwise_cons]
      refine ⟨fun x hx => ?_, hlr⟩
      rcases List.mem_append.1 hx with hx | hx
      · have := pre_of_half (ul x hx); exact lt_pre this.1 this.2
      · have := pre_of_half (ur x hx); exact lt_pre this.1 this.2
theorem rows_pos : ∀ {c : Key} {t : T}, t.Wf c → t.isNil = false → 0 < t.cnt
  | c, nil, _, h => by simp [isNil] at h
  | c, node k v b l r, h, _ => by
    rw [cnt_node]
    rcases h.2.2.2 with rfl | ⟨h1, _⟩
    · simp; omega
    · have := rows_pos h.2.1 h1; omega
theorem isNil_iff {t : T} : t.isNil = true ↔ t = nil := by cases t <;> simp [isNil]
theorem rows_nil {c : Key} {t : T} (h : t.Wf c) (e : t.rows = []) : t = nil := by
  rcases hn : t.isNil with _ | _
  · have := rows_pos h hn; unfold cnt at this; rw [e] at this; simp at this
  · exact isNil_iff.1 hn
theorem size_le : ∀ {c : Key} {t : T}, t.Wf c → t.cnt ≤ t.size ∧ (t.size + 1 ≤ 2 * t.cnt ∨ t = nil)
  | c, nil, _ => ⟨by simp [cnt, rows], .inr rfl⟩
  | c, node k v b l r, h => by
    have h1 := size_le h.2.1
    have h2 := size_le h.2.2.1
    rw [cnt_node, size]
    have z : nil.cnt = 0 ∧ nil.size = 0 := ⟨rfl, rfl⟩
    rcases h.2.2.2 with rfl | ⟨h3, h4⟩
    · refine ⟨by simp; omega, .inl ?_⟩
      simp
      rcases h1.2 with h5 | rfl <;> rcases h2.2 with h6 | rfl <;> omega
    · have n1 : l ≠ nil := fun e => by rw [e] at h3; simp [isNil] at h3
      have n2 : r ≠ nil := fun e => by rw [e] at h4; simp [isNil] at h4
      have h5 := h1.2.resolve_right n1
      have h6 := h2.2.resolve_right n2
      refine ⟨?_, .inl ?_⟩
      · split <;> omega
      · split <;> omega

/-- a sorted list is what it holds -/
theorem sorted_ext : ∀ {l m : List (Key × Int)}, Sorted l → Sorted m → (∀ x, x ∈ l ↔ x ∈ m) → l = m
  | [], [], _, _, _ => rfl
  | [], y :: m, _, _, h => by have := (h y).2 (by simp); simp at this
  | x :: l, [], _, _, h => by have := (h x).1 (by simp); simp at this
  | x :: l, y :: m, hl, hm, h => by
    have hl' := List.pairwise_cons.1 hl
    have hm' := List.pairwise_cons.1 hm
    have e : x = y := by
      have h1 := (h x).1 (by simp)
      have h2 := (h y).2 (by simp)
      rcases List.mem_cons.1 h1 with e | h1
      · exact e
      · rcases List.mem_cons.1 h2 with e | h2
        · exact e.symm
        · have a := hm'.1 x h1
          have b := hl'.1 y h2
          rw [lt_asymm a] at b; cases b
    subst e
    have : l = m := sorted_ext hl'.2 hm'.2 fun z => by
      have hz := h z
      rw [List.mem_cons, List.mem_cons] at hz
      constructor
      · intro hin
        rcases hz.1 (.inr hin) with rfl | h
        · have := hl'.1 _ hin; rw [lt_irr] at this; cases this
        · exact h
      · intro hin
        rcases hz.2 (.inr hin) with rfl | h
        · have := hm'.1 _ hin; rw [lt_irr] at this; cases this
        · exact h
    rw [this]
theorem sorted_inj {l : List (Key × Int)} (h : Sorted l) {x y : Key × Int} (hx : x ∈ l) (hy : y ∈ l) (e : x.1 = y.1) : x = y := by
  induction l with
  | nil => simp at hx
  | cons z l ih =>
    have h' := List.pairwise_cons.1 h
    rcases List.mem_cons.1 hx with e1 | h1 <;> rcases List.mem_cons.1 hy with e2 | h2
    · rw [e1, e2]
    · have := h'.1 y h2; rw [← e1, e, lt_irr] at this; cases this
    · have := h'.1 x h1; rw [← e2, e, lt_irr] at this; cases this
    · exact ih h'.2 h1 h2

/-- a key put -/
def put (p : Key) (v : Int) : T → T
  | nil => node p v true nil nil
  | node k u b l r =>
    if k = p then node k v true l r
    else if k <+: p then (if side k p = true then node k u b l (r.put p v) else node k u b (l.put p v) r)
    else if p <+: k then (if side p k = true then node p v true nil (node k u b l r) else node p v true (node k u b l r) nil)
    else if side (lcp k p) p = true then node (lcp k p) 0 false (node k u b l r) (node p v true nil nil)
    else node (lcp k p) 0 false (node p v true nil nil) (node k u b l r)
theorem put_some (p : Key) (v : Int) (t : T) : (t.put p v).isNil = false := by
  cases t <;> unfold put <;> (repeat' split) <;> rfl
theorem side_true {k p : Key} (h : k <+: p) (hne : k ≠ p) (hs : side k p = true) : k ++ [true] <+: p := hs ▸ pre_side h hne
theorem side_false {k p : Key} (h : k <+: p) (hne : k ≠ p) (hs : ¬ side k p = true) : k ++ [false] <+: p := by
  have := pre_side h hne
  rw [show side k p = false by simpa using hs] at this; exact this
theorem put_wf : ∀ {c p : Key} {v : Int} {t : T}, t.Wf c → c <+: p → (t.put p v).Wf c
  | c, p, v, nil, _, hc => ⟨hc, trivial, trivial, .inl rfl⟩
  | c, p, v, node k u b l r, h, hc => by
    unfold put
    by_cases e : k = p
    · rw [if_pos e]; exact ⟨h.1, h.2.1, h.2.2.1, .inl rfl⟩
    rw [if_neg e]
    by_cases h1 : k <+: p
    · rw [if_pos h1]
      by_cases hs : side k p = true
      · rw [if_pos hs]
        exact ⟨h.1, h.2.1, put_wf h.2.2.1 (side_true h1 e hs), h.2.2.2.imp id fun x => ⟨x.1, put_some _ _ _⟩⟩
      · rw [if_neg hs]
        exact ⟨h.1, put_wf h.2.1 (side_false h1 e hs), h.2.2.1, h.2.2.2.imp id fun x => ⟨put_some _ _ _, x.2⟩⟩
    rw [if_neg h1]
    by_cases h2 : p <+: k
    · rw [if_pos h2]
      by_cases hs : side p k = true
      · rw [if_pos hs]
        exact ⟨hc, trivial, ⟨side_true h2 (fun x => e x.symm) hs, h.2⟩, .inl rfl⟩
      · rw [if_neg hs]
        exact ⟨hc, ⟨side_false h2 (fun x => e x.symm) hs, h.2⟩, trivial, .inl rfl⟩
    rw [if_neg h2]
    obtain ⟨p1, p2, p3⟩ := lcp_part h1 h2
    have a := pre_side (lcp_left k p) p1
    have b' := pre_side (lcp_right k p) p2
    by_cases hs : side (lcp k p) p = true
    · rw [if_pos hs]
      rw [hs] at b' p3
      rw [show side (lcp k p) k = false by simpa using p3] at a
      exact ⟨lcp_max h.1 hc, ⟨a, h.2⟩, ⟨b', trivial, trivial, .inl rfl⟩, .inr ⟨rfl, rfl⟩⟩
    · rw [if_neg hs]
      rw [show side (lcp k p) p = false by simpa using hs] at b' p3
      rw [show side (lcp k p) k = true by simpa using p3] at a
      exact ⟨lcp_max h.1 hc, ⟨b', trivial, trivial, .inl rfl⟩, ⟨a, h.2⟩, .inr ⟨rfl, rfl⟩⟩
/-- what is there behind a put -/
theorem put_mem : ∀ {c p : Key} {v : Int} {t : T}, t.Wf c → ∀ x, x ∈ (t.put p v).rows ↔ (x = (p, v) ∨ (x.1 ≠ p ∧ x ∈ t.rows))
  | c, p, v, nil, _, x => by simp [put, rows]
  | c, p, v, node k u b l r, h, x => by
    have ul := rows_under h.2.1
    have ur := rows_under h.2.2.1
    have hroot : ∀ y, y ∈ (if b = true then [(k, u)] else []) → y.1 = k := by
      intro y hy; cases b <;> simp at hy; rw [hy]
    unfold put
    by_cases e : k = p
    · rw [if_pos e]
      subst e
      simp only [rows, if_true, List.mem_append, List.mem_singleton]
      constructor
      · rintro (h | h | h)
        · exact .inl h
        · exact .inr ⟨fun e => (pre_of_half (ul x h)).2 e.symm, .inr (.inl h)⟩
        · exact .inr ⟨fun e => (pre_of_half (ur x h)).2 e.symm, .inr (.inr h)⟩
      · rintro (h | ⟨hn, h | h⟩)
        · exact .inl h
        · exact absurd (hroot x h) hn
        · exact .inr h
    rw [if_neg e]
    by_cases h1 : k <+: p
    · rw [if_pos h1]
      by_cases hs : side k p = true
      · rw [if_pos hs]
        have ih := put_mem (p := p) (v := v) h.2.2.1 x
        have hp := side_true h1 e hs
        simp only [rows, List.mem_append, ih]
        constructor
        · rintro (h | h | h | ⟨hn, h⟩)
          · exact .inr ⟨fun e2 => e ((hroot x h).symm.trans e2), .inl h⟩
          · exact .inr ⟨fun e2 => half_apart hp (e2 ▸ ul x h), .inr (.inl h)⟩
          · exact .inl h
          · exact .inr ⟨hn, .inr (.inr h)⟩
        · rintro (h | ⟨hn, h | h | h⟩)
          · exact .inr (.inr (.inl h))
          · exact .inl h
          · exact .inr (.inl h)
          · exact .inr (.inr (.inr ⟨hn, h⟩))
      · rw [if_neg hs]
        have ih := put_mem (p := p) (v := v) h.2.1 x
        have hp := side_false h1 e hs
        simp only [rows, List.mem_append, ih]
        constructor
        · rintro (h | (h | ⟨hn, h⟩) | h)
          · exact .inr ⟨fun e2 => e ((hroot x h).symm.trans e2), .inl h⟩
          · exact .inl h
          · exact .inr ⟨hn, .inr (.inl h)⟩
          · exact .inr ⟨fun e2 => half_apart (e2 ▸ ur x h) hp, .inr (.inr h)⟩
        · rintro (h | ⟨hn, h | h | h⟩)
          · exact .inr (.inl (.inl h))
          · exact .inl h
          · exact .inr (.inl (.inr ⟨hn, h⟩))
          · exact .inr (.inr h)
    rw [if_neg h1]
    have hother : ∀ y ∈ (node k u b l r).rows, y.1 ≠ p := fun y hy e2 => h1 (by
      have hk : (node k u b l r).Wf k := ⟨List.prefix_refl k, h.2⟩
      exact e2 ▸ rows_under hk y hy)
    have fin : ∀ A : Prop, (A ↔ (x = (p, v) ∨ x ∈ (node k u b l r).rows)) → (A ↔ (x = (p, v) ∨ (x.1 ≠ p ∧ x ∈ (node k u b l r).rows))) := by
      intro A hA
      rw [hA]
      constructor
      · rintro (h | h)
        · exact .inl h
        · exact .inr ⟨hother x h, h⟩
      · rintro (h | ⟨_, h⟩)
        · exact .inl h
        · exact .inr h
    by_cases h2 : p <+: k
    · rw [if_pos h2]
      split
      · refine fin _ ?_
        rw [rows]; simp [rows]
      · refine fin _ ?_
        rw [rows]; simp [rows]
    rw [if_neg h2]
    split
    · refine fin _ ?_
      rw [rows, List.mem_append, List.mem_append]
      simp [rows]
      constructor
      · rintro (h | h)
        · exact .inr h
        · exact .inl h
      · rintro (h | h)
        · exact .inr h
        · exact .inl h
    · refine fin _ ?_
      rw [rows, List.mem_append, List.mem_append]
      simp [rows]

/-- a node, or what stands in its place, if it is idle -/
def lean : T → T
  | nil => nil
  | node k v b l r => if b = true ∨ (l.isNil = false ∧ r.isNil = false) then node k v b l r else if l.isNil = false then l else r
/-- a key cut -/
def cut (p : Key) : T → T
  | nil => nil
  | node k u b l r => if k = p then lean (node k 0 false l r) else if side k p = true then lean (node k u b l (r.cut p)) else lean (node k u b (l.cut p) r)
theorem lean_wf {c k : Key} {v : Int} {b : Bool} {l r : T} (hc : c <+: k) (hl : l.Wf (k ++ [false])) (hr : r.Wf (k ++ [true])) : (lean (node k v b l r)).Wf c := by
  rw [lean]
  split
  · rename_i h; exact ⟨hc, hl, hr, h⟩
  split
  · exact hl.mono (hc.trans (List.prefix_append _ _))
  · exact hr.mono (hc.trans (List.prefix_append _ _))
theorem lean_rows (k : Key) (v : Int) (b : Bool) (l r : T) : (lean (node k v b l r)).rows = (node k v b l r).rows := by
  rw [lean]
  split
  · rfl
  · rename_i h
    have hb : b = false := by cases b <;> simp at h ⊢
    subst hb
    split
    · rename_i h2
      have h3 : r.isNil = true := by
        rcases hr : r.isNil with _ | _
        · exact absurd (.inr ⟨h2, hr⟩) h
        · rfl
      rw [isNil_iff.1 h3]; simp [rows]
    · rename_i h2
      have h3 : l.isNil = true := by simpa using h2
      rw [isNil_iff.1 h3]; simp [rows]
theorem cut_wf : ∀ {c p : Key} {t : T}, t.Wf c → (t.cut p).Wf c
  | c, p, nil, _ => trivial
  | c, p, node k u b l r, h => by
    unfold cut
    split
    · exact lean_wf h.1 h.2.1 h.2.2.1
    split
    · exact lean_wf h.1 h.2.1 (cut_wf h.2.2.1)
    · exact lean_wf h.1 (cut_wf h.2.1) h.2.2.1
theorem cut_mem : ∀ {c p : Key} {t : T}, t.Wf c → ∀ x, x ∈ (t.cut p).rows ↔ (x.1 ≠ p ∧ x ∈ t.rows)
  | c, p, nil, _, x => by simp [cut, rows]
  | c, p, node k u b l r, h, x => by
    have ul := rows_under h.2.1
    have ur := rows_under h.2.2.1
    have hroot : ∀ y, y ∈ (if b = true then [(k, u)] else []) → y.1 = k := by
      intro y hy; cases b <;> simp at hy; rw [hy]
    unfold cut
    by_cases e : k = p
    · subst e
      rw [if_pos rfl, lean_rows]
      simp only [rows, List.mem_append]
      constructor
      · rintro (h | h | h)
        · simp at h
        · exact ⟨fun e => (pre_of_half (ul x h)).2 e.symm, .inr (.inl h)⟩
        · exact ⟨fun e => (pre_of_half (ur x h)).2 e.symm, .inr (.inr h)⟩
      · rintro ⟨hn, h | h⟩
        · exact absurd (hroot x h) hn
        · exact .inr h
    rw [if_neg e]
    have r0 : ∀ {x : Key × Int}, x ∈ (if b = true then [(k, u)] else []) → x.1 ≠ p := fun h e2 => e ((hroot _ h).symm.trans e2)
    by_cases hs : side k p = true
    · rw [if_pos hs, lean_rows]
      simp only [rows, List.mem_append, cut_mem h.2.2.1 x]
      constructor
      · rintro (h | h | h)
        · exact ⟨r0 h, .inl h⟩
        · refine ⟨fun e2 => ?_, .inr (.inl h)⟩
          have := side_of (ul x h); rw [e2, hs] at this; cases this
        · exact ⟨h.1, .inr (.inr h.2)⟩
      · rintro ⟨hn, h | h | h⟩
        · exact .inl h
        · exact .inr (.inl h)
        · exact .inr (.inr ⟨hn, h⟩)
    · rw [if_neg hs, lean_rows]
      simp only [rows, List.mem_append, cut_mem h.2.1 x]
      constructor
      · rintro (h | h | h)
        · exact ⟨r0 h, .inl h⟩
        · exact ⟨h.1, .inr (.inl h.2)⟩
        · refine ⟨fun e2 => ?_, .inr (.inr h)⟩
          have := side_of (ur x h); rw [e2] at this; exact hs this
      · rintro ⟨hn, h | h | h⟩
        · exact .inl h
        · exact .inr (.inl ⟨hn, h⟩)
        · exact .inr (.inr h)

/-- the node of a key -/
def find (p : Key) : T → T
  | nil => nil
  | node k u b l r => if k <+: p then (if k = p then node k u b l r else if side k p = true then r.find p else l.find p) else nil
/-- what it has -/
def got : T → Option Int
  | node _ u true _ _ => some u
  | _ => none
theorem find_mem : ∀ {c p : Key} {v : Int} {t : T}, t.Wf c → ((p, v) ∈ t.rows ↔ (t.find p).got = some v)
  | c, p, v, nil, _ => by simp [rows, find, got]
  | c, p, v, node k u b l r, h => by
    have ul := rows_under h.2.1
    have ur := rows_under h.2.2.1
    have hk : (node k u b l r).Wf k := ⟨List.prefix_refl k, h.2⟩
    unfold find
    by_cases h1 : k <+: p
    · rw [if_pos h1]
      by_cases e : k = p
      · subst e
        rw [if_pos rfl]
        have n1 : (k, v) ∉ l.rows := fun h => (pre_of_half (ul _ h)).2 rfl
        have n2 : (k, v) ∉ r.rows := fun h => (pre_of_half (ur _ h)).2 rfl
        cases b
        · simp [rows, n1, n2, got]
        · simp only [rows, if_true, List.mem_append, List.mem_singleton, n1, n2, or_false, Prod.mk.injEq, true_and, got, Option.some.injEq]; exact eq_comm
      · rw [if_neg e]
        have n0 : (p, v) ∉ (if b = true then [(k, u)] else []) := by cases b <;> simp; intro h; exact absurd h.symm e
        by_cases hs : side k p = true
        · rw [if_pos hs, ← find_mem h.2.2.1]
          have n1 : (p, v) ∉ l.rows := fun h => by have := side_of (ul _ h); rw [hs] at this; cases this
          simp only [rows, List.mem_append, n0, n1, false_or]
        · rw [if_neg hs, ← find_mem h.2.1]
          have n2 : (p, v) ∉ r.rows := fun h => by have := side_of (ur _ h); exact hs this
          simp only [rows, List.mem_append, n0, n2, false_or, or_false]
    · rw [if_neg h1]
      constructor
      · intro hm; exact absurd (rows_under hk _ hm) h1
      · intro hm; simp [got] at hm
end T
end Go.Proofs.YtpabblkppbfbjaaDoor.tri

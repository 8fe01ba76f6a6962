/- Sets of numbers as rising lists; two of them gone over at once. Plain Lean. -/
namespace Go.Proofs.Ytafepficapdepaa.asn
set_option linter.unusedVariables false

/-- each once, rising -/
def StN (l : List Nat) : Prop := l.Pairwise (· < ·)
structure IsSet (l s : List Nat) : Prop where
  strict : StN s
  mem : ∀ x, x ∈ s ↔ x ∈ l
theorem stN_eq : ∀ {a b : List Nat}, StN a → StN b → (∀ x, x ∈ a ↔ x ∈ b) → a = b
  | [], [], _, _, _ => rfl
  | [], y :: b, _, _, h => by have := (h y).2 (by simp); cases this
  | x :: a, [], _, _, h => by have := (h x).1 (by simp); cases this
  | x :: a, y :: b, ha, hb, h => by
    obtain ⟨a1, a2⟩ := List.pairwise_cons.1 ha
    obtain ⟨b1, b2⟩ := List.pairwise_cons.1 hb
    have e : x = y := by
      have h1 := (h x).1 (by simp)
      have h2 := (h y).2 (by simp)
      rcases List.mem_cons.1 h1 with h1 | h1
      · exact h1
      · rcases List.mem_cons.1 h2 with h2 | h2
        · exact h2.symm
        · have := b1 x h1; have := a1 y h2; omega
    subst e
    have : a = b := stN_eq a2 b2 fun z => by
      have hz := h z
      constructor
      · intro hza
        have hlt := a1 z hza
        rcases List.mem_cons.1 (hz.1 (by simp [hza])) with e | e
        · omega
        · exact e
      · intro hzb
        have hlt := b1 z hzb
        rcases List.mem_cons.1 (hz.2 (by simp [hzb])) with e | e
        · omega
        · exact e
    rw [this]
theorem IsSet.eq {l s t : List Nat} (h : IsSet l s) (k : IsSet l t) : s = t := stN_eq h.strict k.strict fun x => (h.mem x).trans (k.mem x).symm
theorem IsSet.self {s : List Nat} (h : StN s) : IsSet s s := ⟨h, fun _ => Iff.rfl⟩
theorem IsSet.nil : IsSet [] [] := IsSet.self List.Pairwise.nil
theorem IsSet.same {l m s t : List Nat} (h : IsSet l s) (k : IsSet m t) (e : ∀ x, x ∈ l ↔ x ∈ m) : s = t := stN_eq h.strict k.strict fun x => (h.mem x).trans ((e x).trans (k.mem x).symm)

/-- both gone over at once: what is of a alone, of b alone, of both -/
def mg (left right both : Bool) : List Nat → List Nat → List Nat
  | [], b => if right = true then b else []
  | x :: a, [] => if left = true then x :: a else []
  | x :: a, y :: b =>
    if x < y then (if left = true then [x] else []) ++ mg left right both a (y :: b)
    else if y < x then (if right = true then [y] else []) ++ mg left right both (x :: a) b
    else (if both = true then [x] else []) ++ mg left right both a b
termination_by a b => a.length + b.length
theorem mg_sub (left right both : Bool) : ∀ (n : Nat) (a b : List Nat), a.length + b.length ≤ n → ∀ x ∈ mg left right both a b, x ∈ a ∨ x ∈ b
  | n, [], b, h, x, hx => by
    unfold mg at hx
    split at hx
    · exact .inr hx
    · cases hx
  | n, y :: a, [], h, x, hx => by
    unfold mg at hx
    split at hx
    · exact .inl hx
    · cases hx
  | 0, y :: a, z :: b, h, x, hx => by simp at h
  | n + 1, y :: a, z :: b, h, x, hx => by
    simp only [List.length_cons] at h
    unfold mg at hx
    split at hx
    · rcases List.mem_append.1 hx with hx | hx
      · split at hx
        · rw [List.mem_singleton.1 hx]; simp
        · cases hx
      · rcases mg_sub left right both n a (z :: b) (by simp only [List.length_cons]; omega) x hx with e | e
        · exact .inl (by simp [e])
        · exact .inr e
    · split at hx
      · rcases List.mem_append.1 hx with hx | hx
        · split at hx
          · rw [List.mem_singleton.1 hx]; simp
          · cases hx
        · rcases mg_sub left right both n (y :: a) b (by simp only [List.length_cons]; omega) x hx with e | e
          · exact .inl e
          · exact .inr (by simp [e])
      · rcases List.mem_append.1 hx with hx | hx
        · split at hx
          · rw [List.mem_singleton.1 hx]; simp
          · cases hx
        · rcases mg_sub left right both n a b (by omega) x hx with e | e
          · exact .inl (by simp [e])
          · exact .inr (by simp [e])
theorem mg_strict (left right both : Bool) : ∀ (n : Nat) (a b : List Nat), a.length + b.length ≤ n → StN a → StN b → StN (mg left right both a b)
  | n, [], b, h, ha, hb => by
    unfold mg
    split
    · exact hb
    · exact List.Pairwise.nil
  | n, y :: a, [], h, ha, hb => by
    unfold mg
    split
    · exact ha
    · exact List.Pairwise.nil
  | 0, y :: a, z :: b, h, ha, hb => by simp at h
  | n + 1, y :: a, z :: b, h, ha, hb => by
    simp only [List.length_cons] at h
    obtain ⟨a1, a2⟩ := List.pairwise_cons.1 ha
    obtain ⟨b1, b2⟩ := List.pairwise_cons.1 hb
    unfold mg
    split
    · rename_i hlt
      have ih := mg_strict left right both n a (z :: b) (by simp only [List.length_cons]; omega) a2 hb
      split
      · refine List.pairwise_cons.2 ⟨fun x hx => ?_, ih⟩
        rcases mg_sub left right both n a (z :: b) (by simp only [List.length_cons]; omega) x hx with e | e
        · exact a1 x e
        · rcases List.mem_cons.1 e with e | e
          · omega
          · have := b1 x e; omega
      · exact ih
    · split
      · rename_i hlt
        have ih := mg_strict left right both n (y :: a) b (by simp only [List.length_cons]; omega) ha b2
        split
        · refine List.pairwise_cons.2 ⟨fun x hx => ?_, ih⟩
          rcases mg_sub left right both n (y :: a) b (by simp only [List.length_cons]; omega) x hx with e | e
          · rcases List.mem_cons.1 e with e | e
            · omega
            · have := a1 x e; omega
          · exact b1 x e
        · exact ih
      · rename_i h1 h2
        have ih := mg_strict left right both n a b (by omega) a2 b2
        split
        · refine List.pairwise_cons.2 ⟨fun x hx => ?_, ih⟩
          rcases mg_sub left right both n a b (by omega) x hx with e | e
          · exact a1 x e
          · have := b1 x e; omega
        · exact ih
theorem mg_mem (left right both : Bool) : ∀ (n : Nat) (a b : List Nat), a.length + b.length ≤ n → StN a → StN b → ∀ x, x ∈ mg left right both a b ↔ (left = true ∧ x ∈ a ∧ x ∉ b) ∨ (right = true ∧ x ∈ b ∧ x ∉ a) ∨ (both = true ∧ x ∈ a ∧ x ∈ b)
  | n, [], b, h, ha, hb, x => by
    unfold mg
    cases right <;> simp
  | n, y :: a, [], h, ha, hb, x => by
    unfold mg
    cases left <;> simp
  | 0, y :: a, z :: b, h, ha, hb, x => by simp at h
  | n + 1, y :: a, z :: b, h, ha, hb, x => by
    simp only [List.length_cons] at h
    obtain ⟨a1, a2⟩ := List.pairwise_cons.1 ha
    obtain ⟨b1, b2⟩ := List.pairwise_cons.1 hb
    have na : ∀ u, u ∈ a → y < u := a1
    have nb : ∀ u, u ∈ b → z < u := b1
    unfold mg
    split
    · rename_i hlt
      have ih := mg_mem left right both n a (z :: b) (by simp only [List.length_cons]; omega) a2 hb x
      have hy : y ∉ z :: b := fun hm => by
        rcases List.mem_cons.1 hm with e | e
        · omega
        · have := nb y e; omega
      have hya : y ∉ a := fun hm => by have := na y hm; omega
      rw [List.mem_append, ih]
      by_cases hxy : x = y
      · subst hxy
        cases left <;> simp [hy, hya]
      · have e1 : (x ∈ if left = true then [y] else []) ↔ False := by cases left <;> simp [hxy]
        rw [e1, List.mem_cons (a := x) (b := y)]
        simp [hxy]
    · split
      · rename_i hlt
        have ih := mg_mem left right both n (y :: a) b (by simp only [List.length_cons]; omega) ha b2 x
        have hz : z ∉ y :: a := fun hm => by
          rcases List.mem_cons.1 hm with e | e
          · omega
          · have := na z e; omega
        have hzb : z ∉ b := fun hm => by have := nb z hm; omega
        rw [List.mem_append, ih]
        by_cases hxz : x = z
        · subst hxz
          cases right <;> simp [hz, hzb]
        · have e1 : (x ∈ if right = true then [z] else []) ↔ False := by cases right <;> simp [hxz]
          rw [e1, List.mem_cons (a := x) (b := z)]
          simp [hxz]
      · rename_i h1 h2
        have hyz : y = z := by omega
        subst hyz
        have ih := mg_mem left right both n a b (by omega) a2 b2 x
        have hya : y ∉ a := fun hm => by have := na y hm; omega
        have hyb : y ∉ b := fun hm => by have := nb y hm; omega
        rw [List.mem_append, ih]
        by_cases hxy : x = y
        · subst hxy
          cases both <;> simp [hya, hyb]
        · have e1 : (x ∈ if both = true then [y] else []) ↔ False := by cases both <;> simp [hxy]
          rw [e1, List.mem_cons (a := x) (b := y), List.mem_cons (a := x) (b := y)]
          simp [hxy]
theorem mg_len (left right both : Bool) : ∀ (n : Nat) (a b : List Nat), a.length + b.length ≤ n → (mg left right both a b).length ≤ a.length + b.length
  | n, [], b, h => by
    unfold mg
    split <;> simp
  | n, y :: a, [], h => by
    unfold mg
    split <;> simp
  | 0, y :: a, z :: b, h => by simp at h
  | n + 1, y :: a, z :: b, h => by
    simp only [List.length_cons] at h ⊢
    unfold mg
    split
    · have := mg_len left right both n a (z :: b) (by simp only [List.length_cons]; omega)
      rw [List.length_append]
      simp only [List.length_cons] at this
      split <;> simp <;> omega
    · split
      · have := mg_len left right both n (y :: a) b (by simp only [List.length_cons]; omega)
        rw [List.length_append]
        simp only [List.length_cons] at this
        split <;> simp <;> omega
      · have := mg_len left right both n a b (by omega)
        rw [List.length_append]
        split <;> simp <;> omega
theorem union_set {a b s t : List Nat} (ha : IsSet a s) (hb : IsSet b t) : IsSet (a ++ b) (mg true true true s t) :=
  ⟨mg_strict _ _ _ _ s t (Nat.le_refl _) ha.strict hb.strict, fun x => by
    rw [mg_mem _ _ _ _ s t (Nat.le_refl _) ha.strict hb.strict, List.mem_append, ← ha.mem x, ← hb.mem x]
    by_cases h1 : x ∈ s <;> by_cases h2 : x ∈ t <;> simp [h1, h2]⟩
theorem minus_set {s t : List Nat} (ha : StN s) (hb : StN t) : IsSet (s.filter fun x => !t.contains x) (mg true false false s t) :=
  ⟨mg_strict _ _ _ _ s t (Nat.le_refl _) ha hb, fun x => by
    rw [mg_mem _ _ _ _ s t (Nat.le_refl _) ha hb, List.mem_filter]
    simp⟩
/-- a number put into a set -/
def spotN (l : List Nat) (n : Nat) : Nat := (l.takeWhile fun x => decide (x < n)).length
def putN (l : List Nat) (n : Nat) : List Nat := if n ∈ l then l else l.take (spotN l n) ++ [n] ++ l.drop (spotN l n)
theorem spotN_le (l : List Nat) (n : Nat) : spotN l n ≤ l.length := (List.takeWhile_sublist _).length_le
theorem spotN_spec : ∀ (o : List Nat) (x : Nat) (t : Nat), t ≤ spotN o x → (t = spotN o x ↔ ¬ ∃ p, o[t]? = some p ∧ p < x)
  | [], x, t, h => by
    have : spotN [] x = 0 := rfl
    simp; omega
  | q :: o, x, t, h => by
    by_cases hq : q < x
    · have e : spotN (q :: o) x = spotN o x + 1 := by
        unfold spotN
        rw [List.takeWhile_cons, if_pos (by simpa using hq)]
        rfl
      rw [e] at h ⊢
      rcases t with _ | t
      · simp [hq]
      · have := spotN_spec o x t (by omega)
        simp only [List.getElem?_cons_succ]
        rw [← this]
        omega
    · have e : spotN (q :: o) x = 0 := by
        unfold spotN
        rw [List.takeWhile_cons, if_neg (by simpa using hq)]
        rfl
      rw [e] at h ⊢
      obtain rfl : t = 0 := by omega
      simp [hq]
theorem spotN_take : ∀ (o : List Nat) (x : Nat), ∀ p ∈ o.take (spotN o x), p < x
  | [], x, p, h => by simp at h
  | q :: o, x, p, h => by
    unfold spotN at h
    rw [List.takeWhile_cons] at h
    split at h
    · rename_i hq
      simp only [List.length_cons, List.take_succ_cons] at h
      rcases List.mem_cons.1 h with rfl | h
      · simpa using hq
      · exact spotN_take o x p h
    · simp at h
theorem spotN_drop : ∀ (o : List Nat) (x : Nat), StN o → ∀ p ∈ o.drop (spotN o x), x ≤ p
  | [], x, _, p, h => by simp at h
  | q :: o, x, hp, p, h => by
    obtain ⟨h1, h2⟩ := List.pairwise_cons.1 hp
    unfold spotN at h
    rw [List.takeWhile_cons] at h
    split at h
    · simp only [List.length_cons, List.drop_succ_cons] at h
      exact spotN_drop o x h2 p h
    · rename_i hq
      simp only [List.length_nil, List.drop_zero] at h
      have hq : x ≤ q := by simpa using hq
      rcases List.mem_cons.1 h with rfl | h
      · exact hq
      · have := h1 p h; omega
theorem putN_ok {l s : List Nat} (h : IsSet l s) (n : Nat) : IsSet (l ++ [n]) (putN s n) := by
  unfold putN
  split
  · rename_i hn
    exact ⟨h.strict, fun x => by
      rw [h.mem x, List.mem_append, List.mem_singleton]
      constructor
      · exact .inl
      · rintro (k | rfl)
        · exact k
        · exact (h.mem _).1 hn⟩
  · rename_i hn
    have hto : s = s.take (spotN s n) ++ s.drop (spotN s n) := (List.take_append_drop _ s).symm
    have hst := h.strict
    unfold StN at hst
    rw [hto] at hst
    have hap := List.pairwise_append.1 hst
    have h1 := spotN_take s n
    have h2 : ∀ p ∈ s.drop (spotN s n), n < p := fun p hp => by
      have := spotN_drop s n h.strict p hp
      rcases Nat.lt_or_ge n p with k | k
      · exact k
      · exact absurd (List.mem_of_mem_drop hp) (by rw [show p = n by omega]; exact hn)
    refine ⟨List.pairwise_append.2 ⟨List.pairwise_append.2 ⟨hap.1, by simp, fun p hp q hq => ?_⟩, hap.2.1, fun p hp q hq => ?_⟩, fun x => ?_⟩
    · rw [List.mem_singleton.1 hq]; exact h1 p hp
    · rcases List.mem_append.1 hp with hp | hp
      · exact hap.2.2 p hp q hq
      · rw [List.mem_singleton.1 hp]; exact h2 q hq
    · have hm := h.mem x
      rw [hto] at hm
      simp only [List.mem_append, List.mem_singleton] at hm ⊢
      constructor
      · rintro ((k | k) | k)
        · exact .inl (hm.1 (.inl k))
        · exact .inr k
        · exact .inl (hm.1 (.inr k))
      · rintro (k | k)
        · rcases hm.2 k with k | k
          · exact .inl (.inl k)
          · exact .inr k
        · exact .inl (.inr k)
theorem putN_len (l : List Nat) (n : Nat) : (putN l n).length ≤ l.length + 1 := by
  unfold putN
  split
  · omega
  · have := spotN_le l n
    simp only [List.length_append, List.length_take, List.length_drop, List.length_singleton]
    omega
end Go.Proofs.Ytafepficapdepaa.asn

/- Prefixes in order, each once: plain Lean. No condition beyond those that each lemma states. -/
namespace Go.Proofs.YtbljhjfaimnieaaGreat.srt
set_option linter.unusedVariables false
set_option linter.unusedSimpArgs false
abbrev Pf := Nat × Int
/-- in which order -/
def plt (x y : Pf) : Prop := x.1 < y.1 ∨ (x.1 = y.1 ∧ x.2 < y.2)
instance (x y : Pf) : Decidable (plt x y) := by unfold plt; exact inferInstance
def pcmp (x y : Pf) : Int := if x.1 < y.1 then -1 else if y.1 < x.1 then 1 else if x.2 < y.2 then -1 else if y.2 < x.2 then 1 else 0
theorem pcmp_lt (x y : Pf) : pcmp x y < 0 ↔ plt x y := by
  unfold pcmp plt
  by_cases h1 : x.1 < y.1
  · simp [h1]
  · by_cases h2 : y.1 < x.1
    · rw [if_neg h1, if_pos h2]
      constructor
      · intro h; omega
      · intro h; omega
    · by_cases h3 : x.2 < y.2
      · rw [if_neg h1, if_neg h2, if_pos h3]
        constructor
        · intro h; right; omega
        · intro h; omega
      · rw [if_neg h1, if_neg h2, if_neg h3]
        constructor
        · intro h
          split at h <;> omega
        · intro h; omega
theorem plt_irrefl (x : Pf) : ¬ plt x x := by unfold plt; omega
theorem plt_trans {x y z : Pf} (h1 : plt x y) (h2 : plt y z) : plt x z := by unfold plt at *; omega
theorem plt_total (x y : Pf) : plt x y ∨ x = y ∨ plt y x := by
  obtain ⟨a, b⟩ := x
  obtain ⟨c, d⟩ := y
  unfold plt
  simp only [Prod.mk.injEq]
  omega
/-- what is strictly in order is told by what is there -/
theorem strict_eq : ∀ {a b : List Pf}, a.Pairwise plt → b.Pairwise plt → (∀ x, x ∈ a ↔ x ∈ b) → a = b
  | [], [], _, _, _ => rfl
  | [], y :: b, _, _, h => absurd ((h y).2 (by simp)) (by simp)
  | x :: a, [], _, _, h => absurd ((h x).1 (by simp)) (by simp)
  | x :: a, y :: b, ha, hb, h => by
    obtain ⟨ha1, ha2⟩ := List.pairwise_cons.1 ha
    obtain ⟨hb1, hb2⟩ := List.pairwise_cons.1 hb
    have hxy : x = y := by
      rcases List.mem_cons.1 ((h x).1 (by simp)) with e | e
      · exact e
      · rcases List.mem_cons.1 ((h y).2 (by simp)) with e' | e'
        · exact e'.symm
        · exact absurd (plt_trans (ha1 y e') (hb1 x e)) (plt_irrefl _)
    subst hxy
    rw [strict_eq ha2 hb2 fun z => ?_]
    have hz := h z
    simp only [List.mem_cons] at hz
    constructor
    · intro hm
      rcases hz.1 (.inr hm) with e | e
      · subst e; exact absurd (ha1 z hm) (plt_irrefl _)
      · exact e
    · intro hm
      rcases hz.2 (.inr hm) with e | e
      · subst e; exact absurd (hb1 z hm) (plt_irrefl _)
      · exact e
/-- each but once, where equals stand side by side -/
def once : List Pf → List Pf
  | [] => []
  | x :: l => match once l with
    | [] => [x]
    | y :: r => if x = y then y :: r else x :: y :: r
theorem once_head : ∀ (x : Pf) (l : List Pf), ∃ r, once (x :: l) = x :: r
  | x, l => by
    unfold once
    rcases once l with _ | ⟨y, r⟩
    · exact ⟨[], rfl⟩
    · by_cases h : x = y
      · subst h
        exact ⟨r, by simp⟩
      · exact ⟨y :: r, by simp [h]⟩
theorem once_mem : ∀ (l : List Pf) (x : Pf), x ∈ once l ↔ x ∈ l
  | [], x => by simp [once]
  | y :: l, x => by
    have ih := once_mem l x
    unfold once
    rcases hl : once l with _ | ⟨z, r⟩
    · rw [hl] at ih
      simp only [List.mem_cons] at ih ⊢
      simp [← ih]
    · rw [hl] at ih
      dsimp only
      by_cases h : y = z
      · subst h
        rw [if_pos rfl, ih]
        simp only [List.mem_cons]
        constructor
        · exact .inr
        · rintro (h | h)
          · subst h; exact ih.1 (by simp)
          · exact h
      · rw [if_neg h]
        simp only [List.mem_cons] at ih ⊢
        rw [ih]
/-- at the end -/
theorem once_snoc : ∀ (l : List Pf) (x : Pf), once (l ++ [x]) = if l.getLast? = some x then once l else once l ++ [x]
  | [], x => by simp [once]
  | [y], x => by
    by_cases h : y = x
    · subst h; simp [once]
    · simp [once, h]
  | y :: z :: l, x => by
    have ih := once_snoc (z :: l) x
    obtain ⟨r, hr⟩ := once_head z (l)
    have e : (y :: z :: l).getLast? = (z :: l).getLast? := by simp [List.getLast?_cons_cons]
    rw [e]
    have e1 : once (y :: z :: l) = if y = z then z :: r else y :: z :: r := by
      rw [once, hr]
    have e2 : once (y :: z :: l ++ [x]) = match once (z :: l ++ [x]) with | [] => [y] | w :: r => if y = w then w :: r else y :: w :: r := rfl
    rw [e2, ih, e1, hr]
    by_cases h : (z :: l).getLast? = some x
    · simp only [if_pos h]
    · simp only [if_neg h, List.cons_append]
      by_cases hy : y = z
      · simp [hy]
      · simp [hy]
/-- in order, not strictly; then strictly -/
def ple (x y : Pf) : Prop := ¬ plt y x
theorem once_strict : ∀ {l : List Pf}, l.Pairwise ple → (once l).Pairwise plt
  | [], _ => by simp [once]
  | x :: l, h => by
    obtain ⟨h1, h2⟩ := List.pairwise_cons.1 h
    have ih := once_strict h2
    have hm := once_mem l
    unfold once
    rcases hl : once l with _ | ⟨y, r⟩
    · simp
    · rw [hl] at ih hm
      dsimp only
      by_cases hxy : x = y
      · rw [if_pos hxy]; exact ih
      · rw [if_neg hxy]
        refine List.pairwise_cons.2 ⟨fun z hz => ?_, ih⟩
        obtain ⟨k1, _⟩ := List.pairwise_cons.1 ih
        have hy : plt x y := by
          have := h1 y ((hm y).1 (by simp))
          rcases plt_total x y with g | g | g
          · exact g
          · exact absurd g hxy
          · exact absurd g this
        rcases List.mem_cons.1 hz with rfl | hz
        · exact hy
        · exact plt_trans hy (k1 z hz)
/-- the good ones, each once, in order -/
structure IsSort (g : Pf → Bool) (l s : List Pf) : Prop where
  strict : s.Pairwise plt
  mem : ∀ x, x ∈ s ↔ x ∈ l ∧ g x = true
theorem IsSort.eq {g : Pf → Bool} {l s t : List Pf} (h : IsSort g l s) (k : IsSort g l t) : s = t := strict_eq h.strict k.strict fun x => (h.mem x).trans (k.mem x).symm
theorem IsSort.of {g : Pf → Bool} {l d : List Pf} (hp : d.Perm (l.filter g)) (hs : d.Pairwise ple) : IsSort g l (once d) :=
  ⟨once_strict hs, fun x => by rw [once_mem, hp.mem_iff, List.mem_filter]⟩
end Go.Proofs.YtbljhjfaimnieaaGreat.srt

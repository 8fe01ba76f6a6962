/- Parts of addresses: one more, what two have in common, what is left. Plain Lean. -/
import Derived.Test.YtpabblkppbfbjaaDoorCanon
namespace Go.Proofs.YtpabblkppbfbjaaDoor.wlk
set_option linter.unusedVariables false

abbrev Prt := Nat × Nat
/-- do two neither meet nor touch? -/
def farB (p x : Prt) : Bool := decide (p.2 + 1 < x.1) || decide (x.2 + 1 < p.1)
def hull (p x : Prt) : Prt := (min p.1 x.1, max p.2 x.2)
def addStep (s : List Prt × Prt) (p : Prt) : List Prt × Prt := if farB p s.2 = true then (s.1 ++ [p], s.2) else (s.1, hull p s.2)
def addAt (o : List Prt) (x : Prt) : Nat := (o.takeWhile fun p => decide (p.1 < x.1)).length
def addP (l : List Prt) (x : Prt) : List Prt :=
  let s := l.foldl addStep ([], x)
  s.1.take (addAt s.1 s.2) ++ [s.2] ++ s.1.drop (addAt s.1 s.2)
theorem farB_iff (p x : Prt) : farB p x = true ↔ p.2 + 1 < x.1 ∨ x.2 + 1 < p.1 := by simp [farB]
theorem addAt_take : ∀ (o : List Prt) (x : Prt), ∀ p ∈ o.take (addAt o x), p.1 < x.1
  | [], x, p, h => by simp at h
  | q :: o, x, p, h => by
    unfold addAt at h
    rw [List.takeWhile_cons] at h
    split at h
    · rename_i hq
      simp only [List.length_cons, List.take_succ_cons] at h
      rcases List.mem_cons.1 h with rfl | h
      · simpa using hq
      · exact addAt_take o x p h
    · simp at h
theorem addAt_drop : ∀ (o : List Prt) (x : Prt), o.Pairwise (fun p q => p.1 < q.1) → ∀ p ∈ o.drop (addAt o x), x.1 ≤ p.1
  | [], x, _, p, h => by simp at h
  | q :: o, x, hp, p, h => by
    obtain ⟨h1, h2⟩ := List.pairwise_cons.1 hp
    unfold addAt at h
    rw [List.takeWhile_cons] at h
    split at h
    · simp only [List.length_cons, List.drop_succ_cons] at h
      exact addAt_drop o x h2 p h
    · rename_i hq
      simp only [List.length_nil, List.drop_zero] at h
      have hq : x.1 ≤ q.1 := by simpa using hq
      rcases List.mem_cons.1 h with rfl | h
      · exact hq
      · have := h1 p h; omega
theorem addAt_le (o : List Prt) (x : Prt) : addAt o x ≤ o.length := by
  unfold addAt
  exact (List.takeWhile_sublist _).length_le
theorem addAt_spec : ∀ (o : List Prt) (x : Prt) (t : Nat), t ≤ addAt o x → (t = addAt o x ↔ ¬ ∃ p, o[t]? = some p ∧ p.1 < x.1)
  | [], x, t, h => by
    have : addAt [] x = 0 := rfl
    simp; omega
  | q :: o, x, t, h => by
    by_cases hq : q.1 < x.1
    · have e : addAt (q :: o) x = addAt o x + 1 := by
        unfold addAt
        rw [List.takeWhile_cons, if_pos (by simpa using hq)]
        rfl
      rw [e] at h ⊢
      rcases t with _ | t
      · simp [hq]
      · have := addAt_spec o x t (by omega)
        simp only [List.getElem?_cons_succ]
        rw [← this]
        omega
    · have e : addAt (q :: o) x = 0 := by
        unfold addAt
        rw [List.takeWhile_cons, if_neg (by simpa using hq)]
        rfl
      rw [e] at h ⊢
      obtain rfl : t = 0 := by omega
      simp [hq]

/-- what holds within: gathered, the one that is put, what comes -/
structure AddJ (l0 : List Prt) (x0 : Prt) (s : List Prt × Prt) (l : List Prt) : Prop where
  parts : Parts (s.1 ++ l)
  ok : PartOk s.2
  far : ∀ p ∈ s.1, farB p s.2 = true
  mem : ∀ n, (InP s.1 n ∨ (s.2.1 ≤ n ∧ n ≤ s.2.2) ∨ InP l n) ↔ (InP l0 n ∨ (x0.1 ≤ n ∧ n ≤ x0.2))
theorem InP.app (l r : List Prt) (n : Nat) : InP (l ++ r) n ↔ InP l n ∨ InP r n := by
  unfold InP
  constructor
  · rintro ⟨x, hx, h⟩
    rcases List.mem_append.1 hx with h1 | h1
    · exact .inl ⟨x, h1, h⟩
    · exact .inr ⟨x, h1, h⟩
  · rintro (⟨x, hx, h⟩ | ⟨x, hx, h⟩)
    · exact ⟨x, List.mem_append_left _ hx, h⟩
    · exact ⟨x, List.mem_append_right _ hx, h⟩
theorem InP.cons (p : Prt) (l : List Prt) (n : Nat) : InP (p :: l) n ↔ (p.1 ≤ n ∧ n ≤ p.2) ∨ InP l n := by simp [InP]
theorem InP.nil (n : Nat) : ¬ InP [] n := by rintro ⟨x, hx, _⟩; cases hx
theorem AddJ.next {l0 l : List Prt} {x0 : Prt} {s : List Prt × Prt} {p : Prt} (h : AddJ l0 x0 s (p :: l)) : AddJ l0 x0 (addStep s p) l := by
  obtain ⟨o, x⟩ := s
  have hp := h.parts
  have hokp : PartOk p := hp.ok p (by simp)
  have hok := h.ok
  dsimp only at hok
  unfold addStep
  dsimp only
  split
  · rename_i hf
    refine ⟨by simpa using hp, hok, fun q hq => ?_, fun n => ?_⟩
    · rcases List.mem_append.1 hq with hq | hq
      · exact h.far q hq
      · obtain rfl : q = p := by simpa using hq
        exact hf
    · rw [← h.mem n]
      dsimp only
      rw [InP.app, InP.cons, InP.cons]
      have := InP.nil n
      constructor
      · rintro ((h1 | h1 | h1) | h1 | h1)
        · exact .inl h1
        · exact .inr (.inr (.inl h1))
        · exact absurd h1 this
        · exact .inr (.inl h1)
        · exact .inr (.inr (.inr h1))
      · rintro (h1 | h1 | h1 | h1)
        · exact .inl (.inl h1)
        · exact .inr (.inl h1)
        · exact .inl (.inr (.inl h1))
        · exact .inr (.inr h1)
  · rename_i hf
    have hf : ¬ (p.2 + 1 < x.1 ∨ x.2 + 1 < p.1) := fun hc => hf ((farB_iff _ _).2 hc)
    unfold PartOk at hokp hok
    have hap := List.pairwise_append.1 hp.apart
    dsimp only at hap
    refine ⟨⟨fun q hq => hp.ok q ?_, ?_⟩, ?_, fun q hq => ?_, fun n => ?_⟩
    · dsimp only at hq ⊢
      rcases List.mem_append.1 hq with h1 | h1
      · exact List.mem_append_left _ h1
      · exact List.mem_append_right _ (by simp [h1])
    · dsimp only
      exact List.pairwise_append.2 ⟨hap.1, (List.pairwise_cons.1 hap.2.1).2, fun q hq r hr => hap.2.2 q hq r (by simp [hr])⟩
    · unfold hull PartOk
      dsimp only
      omega
    · dsimp only at hq ⊢
      have h1 := (farB_iff _ _).1 (h.far q hq)
      have h2 := hap.2.2 q hq p (by simp)
      have h3 := hp.ok q (List.mem_append_left _ hq)
      unfold PartOk at h3
      rw [farB_iff]
      unfold hull
      dsimp only at h1 ⊢
      omega
    · rw [← h.mem n]
      dsimp only
      rw [InP.cons]
      have e : (hull p x).1 ≤ n ∧ n ≤ (hull p x).2 ↔ (x.1 ≤ n ∧ n ≤ x.2) ∨ (p.1 ≤ n ∧ n ≤ p.2) := by
        unfold hull
        dsimp only
        omega
      rw [e]
      constructor
      · rintro (h1 | (h1 | h1) | h1)
        · exact .inl h1
        · exact .inr (.inl h1)
        · exact .inr (.inr (.inl h1))
        · exact .inr (.inr (.inr h1))
      · rintro (h1 | h1 | h1 | h1)
        · exact .inl h1
        · exact .inr (.inl (.inl h1))
        · exact .inr (.inl (.inr h1))
        · exact .inr (.inr h1)
theorem AddJ.all {l0 : List Prt} {x0 : Prt} : ∀ (l : List Prt) (s : List Prt × Prt), AddJ l0 x0 s l → AddJ l0 x0 (l.foldl addStep s) []
  | [], s, h => h
  | p :: l, s, h => AddJ.all l _ h.next
theorem addP_ok {l : List Prt} {x : Prt} (h : Parts l) (hx : PartOk x) : Parts (addP l x) ∧ ∀ n, InP (addP l x) n ↔ (InP l n ∨ (x.1 ≤ n ∧ n ≤ x.2)) := by
  have hJ : AddJ l x (l.foldl addStep ([], x)) [] := AddJ.all l _ ⟨by simpa using h, hx, fun p hp => by simp at hp, fun n => by
    constructor
    · rintro (h1 | h1 | h1)
      · exact absurd h1 (InP.nil n)
      · exact .inr h1
      · exact .inl h1
    · rintro (h1 | h1)
      · exact .inr (.inr h1)
      · exact .inr (.inl h1)⟩
  unfold addP
  dsimp only
  obtain ⟨⟨o, y⟩, hs⟩ : ∃ s, s = l.foldl addStep ([], x) := ⟨_, rfl⟩
  rw [← hs] at hJ ⊢
  obtain ⟨hp, hok, hfar, hmem⟩ := hJ
  dsimp only at hp hok hfar hmem ⊢
  rw [List.append_nil] at hp
  obtain ⟨t, ht⟩ : ∃ t, t = addAt o y := ⟨_, rfl⟩
  have h1 := addAt_take o y
  have hlt : o.Pairwise (fun p q => p.1 < q.1) := by
    refine List.Pairwise.imp_of_mem ?_ hp.apart
    intro a b ha hb hab
    have := hp.ok a ha
    unfold PartOk at this
    omega
  have h2 := addAt_drop o y hlt
  rw [← ht] at h1 h2 ⊢
  have hto : o = o.take t ++ o.drop t := (List.take_append_drop t o).symm
  have hap := hp.apart
  rw [hto] at hap
  have hap := List.pairwise_append.1 hap
  have m1 : ∀ p ∈ o.take t, p ∈ o := fun p hp => List.mem_of_mem_take hp
  have m2 : ∀ p ∈ o.drop t, p ∈ o := fun p hp => List.mem_of_mem_drop hp
  unfold PartOk at hok
  have f1 : ∀ p ∈ o.take t, p.2 + 1 < y.1 := fun p hp' => by
    have k1 := h1 p hp'
    have k2 := (farB_iff _ _).1 (hfar p (m1 p hp'))
    have k3 := hp.ok p (m1 p hp')
    unfold PartOk at k3
    omega
  have f2 : ∀ p ∈ o.drop t, y.2 + 1 < p.1 := fun p hp' => by
    have k1 := h2 p hp'
    have k2 := (farB_iff _ _).1 (hfar p (m2 p hp'))
    have k3 := hp.ok p (m2 p hp')
    unfold PartOk at k3
    omega
  refine ⟨⟨fun p hp' => ?_, ?_⟩, fun n => ?_⟩
  · rcases List.mem_append.1 hp' with hp' | hp'
    · rcases List.mem_append.1 hp' with hp' | hp'
      · exact hp.ok p (m1 p hp')
      · obtain rfl : p = y := by simpa using hp'
        exact hok
    · exact hp.ok p (m2 p hp')
  · refine List.pairwise_append.2 ⟨List.pairwise_append.2 ⟨hap.1, by simp, fun p hp' q hq => ?_⟩, hap.2.1, fun p hp' q hq => ?_⟩
    · obtain rfl : q = y := by simpa using hq
      exact f1 p hp'
    · rcases List.mem_append.1 hp' with hp' | hp'
      · exact hap.2.2 p hp' q hq
      · obtain rfl : p = y := by simpa using hp'
        exact f2 q hq
  · rw [← hmem n, InP.app, InP.app]
    conv => rhs; rw [hto]
    rw [InP.app, InP.cons]
    have := InP.nil n
    constructor
    · rintro ((h1 | h1 | h1) | h1)
      · exact .inl (.inl h1)
      · exact .inr (.inl h1)
      · exact absurd h1 this
      · exact .inl (.inr h1)
    · rintro ((h1 | h1) | h1 | h1)
      · exact .inl (.inl h1)
      · exact .inr h1
      · exact .inl (.inr (.inl h1))
      · exact absurd h1 this
theorem addStep_len (s : List Prt × Prt) (p : Prt) : (addStep s p).1.length ≤ s.1.length + 1 := by
  unfold addStep
  split <;> simp
theorem addSteps_len : ∀ (l : List Prt) (s : List Prt × Prt), (l.foldl addStep s).1.length ≤ s.1.length + l.length
  | [], s => by simp
  | p :: l, s => by
    have h1 := addSteps_len l (addStep s p)
    have h2 := addStep_len s p
    simp only [List.foldl_cons, List.length_cons]
    omega
theorem addP_len (l : List Prt) (x : Prt) : (addP l x).length ≤ l.length + 1 := by
  have h := addSteps_len l ([], x)
  unfold addP
  dsimp only
  have h2 := addAt_le (l.foldl addStep ([], x)).1 (l.foldl addStep ([], x)).2
  simp only [List.length_append, List.length_take, List.length_drop, List.length_cons, List.length_nil] at h ⊢
  omega

/-- of several, one behind the other -/
def addsP (l : List Prt) (xs : List Prt) : List Prt := xs.foldl addP l
theorem addsP_ok : ∀ (xs l : List Prt), Parts l → (∀ x ∈ xs, PartOk x) → Parts (addsP l xs) ∧ ∀ n, InP (addsP l xs) n ↔ (InP l n ∨ InP xs n)
  | [], l, h, _ => ⟨h, fun n => by
    have := InP.nil n
    constructor
    · exact .inl
    · rintro (h | h)
      · exact h
      · exact absurd h this⟩
  | x :: xs, l, h, hx => by
    have h1 := addP_ok h (hx x (by simp))
    obtain ⟨h2, h3⟩ := addsP_ok xs (addP l x) h1.1 fun y hy => hx y (by simp [hy])
    refine ⟨h2, fun n => (h3 n).trans ?_⟩
    rw [h1.2 n, InP.cons]
    constructor
    · rintro ((h | h) | h)
      · exact .inl h
      · exact .inr (.inl h)
      · exact .inr (.inr h)
    · rintro (h | h | h)
      · exact .inl (.inl h)
      · exact .inl (.inr h)
      · exact .inr h
theorem addsP_len : ∀ (xs l : List Prt), (addsP l xs).length ≤ l.length + xs.length
  | [], l => by simp [addsP]
  | x :: xs, l => by
    have h1 := addsP_len xs (addP l x)
    have h2 := addP_len l x
    simp only [addsP, List.foldl_cons, List.length_cons] at h1 ⊢
    omega
theorem Parts.nil : Parts [] := ⟨(fun p hp => by cases hp), List.Pairwise.nil⟩

/-- what two have in common, pair by pair -/
def meets (a b : List Prt) : List Prt := a.flatMap fun p => b.filterMap fun q => if max p.1 q.1 ≤ min p.2 q.2 then some (max p.1 q.1, min p.2 q.2) else none
def bothP (a b : List Prt) : List Prt := addsP [] (meets a b)
theorem meets_in (a b : List Prt) (n : Nat) : InP (meets a b) n ↔ InP a n ∧ InP b n := by
  unfold meets InP
  constructor
  · rintro ⟨x, hx, h⟩
    obtain ⟨p, hp, hx⟩ := List.mem_flatMap.1 hx
    obtain ⟨q, hq, hx⟩ := List.mem_filterMap.1 hx
    split at hx
    · cases hx
      dsimp only at h
      exact ⟨⟨p, hp, by omega⟩, ⟨q, hq, by omega⟩⟩
    · cases hx
  · rintro ⟨⟨p, hp, h1⟩, ⟨q, hq, h2⟩⟩
    refine ⟨(max p.1 q.1, min p.2 q.2), List.mem_flatMap.2 ⟨p, hp, List.mem_filterMap.2 ⟨q, hq, ?_⟩⟩, by dsimp only; omega⟩
    rw [if_pos (by omega)]
theorem meets_ok {a b : List Prt} (ha : ∀ p ∈ a, PartOk p) (hb : ∀ p ∈ b, PartOk p) : ∀ x ∈ meets a b, PartOk x := by
  intro x hx
  obtain ⟨p, hp, hx⟩ := List.mem_flatMap.1 hx
  obtain ⟨q, hq, hx⟩ := List.mem_filterMap.1 hx
  split at hx
  · cases hx
    have h1 := ha p hp
    unfold PartOk at h1 ⊢
    dsimp only
    omega
  · cases hx
theorem bothP_ok {a b : List Prt} (ha : ∀ p ∈ a, PartOk p) (hb : ∀ p ∈ b, PartOk p) : Parts (bothP a b) ∧ ∀ n, InP (bothP a b) n ↔ (InP a n ∧ InP b n) := by
  obtain ⟨h1, h2⟩ := addsP_ok (meets a b) [] Parts.nil (meets_ok ha hb)
  refine ⟨h1, fun n => (h2 n).trans ?_⟩
  rw [meets_in]
  constructor
  · rintro (h | h)
    · exact absurd h (InP.nil n)
    · exact h
  · exact .inr

/-- all addresses that are in none: what is gathered, and where it stands -/
def restStep (s : List Prt × Nat) (p : Prt) : List Prt × Nat := (if s.2 < p.1 then s.1 ++ [(s.2, p.1 - 1)] else s.1, p.2 + 1)
def restEnd (s : List Prt × Nat) : List Prt := if s.2 < 4294967296 then s.1 ++ [(s.2, 4294967295)] else s.1
def restP (l : List Prt) : List Prt := restEnd (l.foldl restStep ([], 0))
theorem rest_in : ∀ (l o : List Prt) (t : Nat), Parts l → Parts o → t ≤ 4294967296 → (∀ p ∈ o, p.2 + 1 < t) → (t = 0 ∨ ∀ p ∈ l, t < p.1) →
    Parts (restEnd (l.foldl restStep (o, t))) ∧ ∀ n, InP (restEnd (l.foldl restStep (o, t))) n ↔ (InP o n ∨ (t ≤ n ∧ n < 4294967296 ∧ ¬ InP l n))
  | [], o, t, hl, ho, ht, hlow, _ => by
    simp only [List.foldl_nil]
    unfold restEnd
    dsimp only
    split
    · rename_i hlt
      refine ⟨⟨fun p hp => ?_, List.pairwise_append.2 ⟨ho.apart, by simp, fun p hp q hq => ?_⟩⟩, fun n => ?_⟩
      · rcases List.mem_append.1 hp with hp | hp
        · exact ho.ok p hp
        · obtain rfl : p = (t, 4294967295) := by simpa using hp
          unfold PartOk; dsimp only; omega
      · obtain rfl : q = (t, 4294967295) := by simpa using hq
        exact hlow p hp
      · rw [InP.app, InP.cons]
        have := InP.nil n
        constructor
        · rintro (h | h | h)
          · exact .inl h
          · dsimp only at h; exact .inr ⟨h.1, by omega, this⟩
          · exact absurd h this
        · rintro (h | h)
          · exact .inl h
          · exact .inr (.inl ⟨h.1, by dsimp only; omega⟩)
    · rename_i hlt
      refine ⟨ho, fun n => ⟨.inl, ?_⟩⟩
      rintro (h | h)
      · exact h
      · omega
  | p :: l, o, t, hl, ho, ht, hlow, hst => by
    have hp := hl.ok p (by simp)
    unfold PartOk at hp
    have hnx := (List.pairwise_cons.1 hl.apart).1
    simp only [List.foldl_cons, restStep]
    by_cases hlt : t < p.1
    · rw [if_pos hlt]
      have ho2 : Parts (o ++ [(t, p.1 - 1)]) := by
        refine ⟨fun q hq => ?_, List.pairwise_append.2 ⟨ho.apart, by simp, fun q hq r hr => ?_⟩⟩
        · rcases List.mem_append.1 hq with hq | hq
          · exact ho.ok q hq
          · obtain rfl : q = (t, p.1 - 1) := by simpa using hq
            unfold PartOk; dsimp only; omega
        · obtain rfl : r = (t, p.1 - 1) := by simpa using hr
          exact hlow q hq
      obtain ⟨h1, h2⟩ := rest_in l (o ++ [(t, p.1 - 1)]) (p.2 + 1) hl.tail ho2 (by omega) (fun q hq => by
        rcases List.mem_append.1 hq with hq | hq
        · have := hlow q hq; omega
        · obtain rfl : q = (t, p.1 - 1) := by simpa using hq
          dsimp only; omega) (.inr fun q hq => by have := hnx q hq; omega)
      refine ⟨h1, fun n => (h2 n).trans ?_⟩
      rw [InP.app, InP.cons, InP.cons]
      have h0 := InP.nil n
      constructor
      · rintro ((h | h | h) | h)
        · exact .inl h
        · dsimp only at h
          refine .inr ⟨h.1, by omega, ?_⟩
          rintro (k | ⟨q, hq, k⟩)
          · omega
          · have := hnx q hq; omega
        · exact absurd h h0
        · refine .inr ⟨by omega, h.2.1, ?_⟩
          rintro (k | k)
          · omega
          · exact h.2.2 k
      · rintro (h | ⟨h3, h4, h5⟩)
        · exact .inl (.inl h)
        · by_cases h6 : n < p.1
          · exact .inl (.inr (.inl ⟨h3, by dsimp only; omega⟩))
          · refine .inr ⟨?_, h4, fun k => h5 (.inr k)⟩
            rcases Nat.lt_or_ge p.2 n with h7 | h7
            · omega
            · exact absurd (.inl ⟨by omega, h7⟩) h5
    · rw [if_neg hlt]
      have ht0 : t = 0 := by
        rcases hst with h | h
        · exact h
        · exact absurd (h p (by simp)) hlt
      subst ht0
      have hp0 : p.1 = 0 := by omega
      have hon : o = [] := by
        rcases o with _ | ⟨q, o⟩
        · rfl
        · have := hlow q (by simp); omega
      subst hon
      obtain ⟨h1, h2⟩ := rest_in l [] (p.2 + 1) hl.tail Parts.nil (by omega) (fun q hq => by cases hq) (.inr fun q hq => by have := hnx q hq; omega)
      refine ⟨h1, fun n => (h2 n).trans ?_⟩
      rw [InP.cons]
      constructor
      · rintro (h | h)
        · exact absurd h (InP.nil n)
        · refine .inr ⟨by omega, h.2.1, ?_⟩
          rintro (k | k)
          · omega
          · exact h.2.2 k
      · rintro (h | ⟨h3, h4, h5⟩)
        · exact absurd h (InP.nil n)
        · refine .inr ⟨?_, h4, fun k => h5 (.inr k)⟩
          rcases Nat.lt_or_ge p.2 n with h7 | h7
          · omega
          · exact absurd (.inl ⟨by omega, h7⟩) h5
theorem restP_ok {l : List Prt} (h : Parts l) : Parts (restP l) ∧ ∀ n, InP (restP l) n ↔ (n < 4294967296 ∧ ¬ InP l n) := by
  obtain ⟨h1, h2⟩ := rest_in l [] 0 h Parts.nil (by omega) (fun p hp => by cases hp) (.inl rfl)
  refine ⟨h1, fun n => (h2 n).trans ?_⟩
  constructor
  · rintro (h | h)
    · exact absurd h (InP.nil n)
    · exact h.2
  · intro h
    exact .inr ⟨Nat.zero_le _, h⟩
theorem restSteps_len : ∀ (l : List Prt) (s : List Prt × Nat), (l.foldl restStep s).1.length ≤ s.1.length + l.length
  | [], s => by simp
  | p :: l, s => by
    have h1 := restSteps_len l (restStep s p)
    have h2 : (restStep s p).1.length ≤ s.1.length + 1 := by
      unfold restStep
      dsimp only
      split <;> simp
    simp only [List.foldl_cons, List.length_cons]
    omega
theorem restP_len (l : List Prt) : (restP l).length ≤ l.length + 1 := by
  have h := restSteps_len l ([], 0)
  unfold restP restEnd
  split
  · simp only [List.length_append, List.length_cons, List.length_nil] at h ⊢; omega
  · simp only [List.length_nil] at h; omega
/-- how many addresses -/
def sizeP2 (l : List Prt) : Nat := (l.map fun p => p.2 + 1 - p.1).sum
theorem sizeP2_snoc (l : List Prt) (p : Prt) : sizeP2 (l ++ [p]) = sizeP2 l + (p.2 + 1 - p.1) := by simp [sizeP2]
theorem sizeP2_le : ∀ (l : List Prt), (∀ p ∈ l, PartOk p) → sizeP2 l ≤ l.length * 4294967296
  | [], _ => by simp [sizeP2]
  | p :: l, h => by
    have h1 := sizeP2_le l fun q hq => h q (by simp [hq])
    have h2 := h p (by simp)
    unfold PartOk at h2
    have e : sizeP2 (p :: l) = (p.2 + 1 - p.1) + sizeP2 l := by simp [sizeP2]
    rw [e]
    simp only [List.length_cons]
    omega
end Go.Proofs.YtpabblkppbfbjaaDoor.wlk

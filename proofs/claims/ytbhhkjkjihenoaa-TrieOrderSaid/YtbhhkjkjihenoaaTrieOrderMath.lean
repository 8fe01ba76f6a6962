/- Which keys a tree holds behind puts and cuts, in whatever order. Plain Lean. -/
import Derived.Test.YtbhhkjkjihenoaaTrieOps
namespace Go.Proofs.Ytbhhkjkjihenoaa.tri
open Go.Proofs.Ytbhhkjkjihenoaa.pfx
set_option linter.unusedVariables false
def has (t : T) (k : Key) : Prop := ∃ v, (k, v) ∈ t.rows
theorem has_put {t : T} (h : t.Wf []) (o : Option Key) (v : Int) (k : Key) : has (putX t o v) k ↔ has t k ∨ o = some k := by
  cases o with
  | none => simp [putX]
  | some p =>
    unfold has putX
    dsimp only
    constructor
    · rintro ⟨u, hu⟩
      rcases (T.put_mem h _).1 hu with e | ⟨_, e⟩
      · cases e; exact .inr rfl
      · exact .inl ⟨u, e⟩
    · rintro (⟨u, hu⟩ | e)
      · by_cases hk : k = p
        · subst hk; exact ⟨v, (T.put_mem h _).2 (.inl rfl)⟩
        · exact ⟨u, (T.put_mem h _).2 (.inr ⟨hk, hu⟩)⟩
      · cases e; exact ⟨v, (T.put_mem h _).2 (.inl rfl)⟩
theorem has_between {t : T} (h : t.Wf []) (o : Option Key) (v : Int) (hn : hadX t o = false) (k : Key) : has (cutX (putX t o v) o) k ↔ has t k := by
  cases o with
  | none => exact Iff.rfl
  | some p =>
    have hnp : ∀ u, (p, u) ∉ t.rows := fun u hu => by
      have := (had_iff h p).2 ⟨u, hu⟩
      unfold hadX at hn; dsimp only at hn; rw [hn] at this; cases this
    have hw := T.put_wf (v := v) h (List.nil_prefix (l := p))
    have hh : hadB (t.put p v) p = true := (had_iff hw p).2 ⟨v, (T.put_mem h _).2 (.inl rfl)⟩
    unfold has cutX putX
    dsimp only
    rw [if_pos hh]
    constructor
    · rintro ⟨u, hu⟩
      have h1 := (T.cut_mem hw _).1 hu
      rcases (T.put_mem h _).1 h1.2 with e | ⟨_, e⟩
      · cases e; exact absurd rfl h1.1
      · exact ⟨u, e⟩
    · rintro ⟨u, hu⟩
      have hk : k ≠ p := fun e => by subst e; exact hnp u hu
      exact ⟨u, (T.cut_mem hw _).2 ⟨hk, (T.put_mem h _).2 (.inr ⟨hk, hu⟩)⟩⟩
theorem keys_eq {c d : Key} {t u : T} (ht : t.Wf c) (hu : u.Wf d) (h : ∀ k, has t k ↔ has u k) : t.rows.map (·.1) = u.rows.map (·.1) := by
  have st : T.Sorted (t.rows.map fun r => (r.1, 0)) := by unfold T.Sorted; rw [List.pairwise_map]; exact T.rows_sorted ht
  have su : T.Sorted (u.rows.map fun r => (r.1, 0)) := by unfold T.Sorted; rw [List.pairwise_map]; exact T.rows_sorted hu
  have e := T.sorted_ext st su fun x => by
    rw [List.mem_map, List.mem_map]
    constructor
    · rintro ⟨r, hr, rfl⟩
      obtain ⟨v, hv⟩ := (h r.1).1 ⟨r.2, hr⟩
      exact ⟨_, hv, rfl⟩
    · rintro ⟨r, hr, rfl⟩
      obtain ⟨v, hv⟩ := (h r.1).2 ⟨r.2, hr⟩
      exact ⟨_, hv, rfl⟩
  have := congrArg (List.map (·.1)) e
  rw [List.map_map, List.map_map] at this
  exact this
/-- the key of the j-th prefix -/
def kof (L : List (Int × Int)) (j : Nat) : Option Key := match L[j]? with | some p => kyOf p.1.toNat p.2 | none => none
/-- the first i, the last i of N -/
def Fwd (L : List (Int × Int)) (i : Nat) (t : T) : Prop := ∀ k, has t k ↔ ∃ j, j < i ∧ kof L j = some k
def Bwd (L : List (Int × Int)) (N i : Nat) (t : T) : Prop := ∀ k, has t k ↔ ∃ j, j < i ∧ kof L (N - 1 - j) = some k
theorem fwd_zero (L : List (Int × Int)) : Fwd L 0 .nil := fun k => by simp [has, T.rows]
theorem bwd_zero (L : List (Int × Int)) (N : Nat) : Bwd L N 0 .nil := fun k => by simp [has, T.rows]
theorem step_iff {P : Nat → Prop} {i : Nat} : (∃ j, j < i + 1 ∧ P j) ↔ (∃ j, j < i ∧ P j) ∨ P i := by
  constructor
  · rintro ⟨j, hj, h⟩
    rcases Nat.lt_or_ge j i with e | e
    · exact .inl ⟨j, e, h⟩
    · have : j = i := by omega
      subst this; exact .inr h
  · rintro (⟨j, hj, h⟩ | h)
    · exact ⟨j, by omega, h⟩
    · exact ⟨i, by omega, h⟩
theorem fwd_succ {L : List (Int × Int)} {i : Nat} {t : T} (hw : t.Wf []) (h : Fwd L i t) (v : Int) : Fwd L (i + 1) (putX t (kof L i) v) := fun k => by
  rw [has_put hw, h k, step_iff]
theorem bwd_succ {L : List (Int × Int)} {N i : Nat} {t : T} (hw : t.Wf []) (h : Bwd L N i t) (v : Int) : Bwd L N (i + 1) (putX t (kof L (N - 1 - i)) v) := fun k => by
  rw [has_put hw, h k, step_iff]
theorem fwd_between {L : List (Int × Int)} {i : Nat} {t : T} (hw : t.Wf []) (h : Fwd L i t) (o : Option Key) (v : Int) (hn : hadX t o = false) : Fwd L i (cutX (putX t o v) o) := fun k => by
  rw [has_between hw o v hn, h k]
theorem order_same {L : List (Int × Int)} {N : Nat} {t u : T} (ht : t.Wf []) (hu : u.Wf []) (h1 : Fwd L N t) (h2 : Bwd L N N u) : t.rows.map (·.1) = u.rows.map (·.1) ∧ t.size = u.size := by
  have e := keys_eq ht hu fun k => by
    rw [h1 k, h2 k]
    constructor
    · rintro ⟨j, hj, h⟩; exact ⟨N - 1 - j, by omega, by rw [show N - 1 - (N - 1 - j) = j from by omega]; exact h⟩
    · rintro ⟨j, hj, h⟩; exact ⟨N - 1 - j, by omega, h⟩
  exact ⟨e, T.size_fixed ht hu e⟩
end Go.Proofs.Ytbhhkjkjihenoaa.tri

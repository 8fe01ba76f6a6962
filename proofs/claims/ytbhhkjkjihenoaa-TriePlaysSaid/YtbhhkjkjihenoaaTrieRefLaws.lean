/- The reference's Above, Below, and the counts, as laws over sorted rows. Conditions as each lemma states. -/
import Derived.Test.YtbhhkjkjihenoaaTrieRefLong
import Derived.Test.YtbhhkjkjihenoaaTrieLong
namespace Go.Proofs.Ytbhhkjkjihenoaa.tri
open T
open Go.RowKit Go.Proofs.Ytbhhkjkjihenoaa.kit Go.Proofs.Ytbhhkjkjihenoaa.mem Go.Proofs.Ytbhhkjkjihenoaa.foot Go.Proofs.Ytbhhkjkjihenoaa.pfx
set_option linter.unusedVariables false
set_option linter.unusedSimpArgs false

/-- what the reference takes -/
def takeA (a : Nat) (n : Int) (k : Key) : Bool := diffB a n k && coversB (adr k) k.length a n
def takeB (a : Nat) (n : Int) (k : Key) : Bool := diffB a n k && coversB a n (adr k) k.length
def refAboveL (l : Rows) (a : Nat) (n : Int) : List Key := (l.filter fun r => takeA a n r.1).map (·.1)
def refBelowL (l : Rows) (a : Nat) (n : Int) : List Key := (l.filter fun r => takeB a n r.1).map (·.1)
theorem diff_iff {a : Nat} {n : Int} {k : Key} (ha : a < 4294967296) (hg : goodB a n = true) (hk : k.length ≤ 32) : diffB a n k = decide (k ≠ bitsOf a n.toNat) := by
  obtain ⟨h1, h2, h3⟩ := good_bits ha hg
  have hk' := row_key (n := n) ha hk
  have hky : kyOf a n = some (bitsOf a n.toNat) := by unfold kyOf; rw [if_pos hg]
  rw [hky] at hk'
  unfold diffB
  rw [Bool.eq_iff_iff, Bool.not_eq_true', Bool.and_eq_false_iff, decide_eq_false_iff_not, decide_eq_false_iff_not, decide_eq_true_eq]
  constructor
  · rintro h rfl
    have := hk'.2 rfl
    rcases h with h | h
    · exact h this.1
    · exact h this.2
  · intro h
    by_cases e : adr k = a
    · refine .inr fun e2 => h ?_
      have := hk'.1 ⟨e, e2⟩
      injection this with this
      exact this.symm
    · exact .inl e
theorem covers_below {a : Nat} {n : Int} {k : Key} (ha : a < 4294967296) (hg : goodB a n = true) (hk : k.length ≤ 32) : coversB a n (adr k) k.length = decide (bitsOf a n.toNat <+: k) := by
  obtain ⟨h1, h2, h3⟩ := good_bits ha hg
  have h := covers_key (k := bitsOf a n.toNat) h3 (adr_lt hk) (good_adr hk)
  rw [h1, h2, Int.toNat_natCast, bits_adr hk] at h
  exact h
theorem aboveL_eq {t : T} (hw : t.Wf []) (hs : Short t.rows) {a : Nat} (ha : a < 4294967296) (n : Int) : aboveL t a n = refAboveL t.rows a n := by
  unfold aboveL refAboveL
  split
  · rename_i hg
    rw [T.above_eq hw]
    congr 1
    refine List.filter_congr fun r hr => ?_
    unfold takeA
    rw [diff_iff ha hg (hs r hr), covers_key (hs r hr) ha hg, Bool.eq_iff_iff]
    simp [and_comm]
  · rename_i hg
    symm
    rw [List.map_eq_nil_iff, List.filter_eq_nil_iff]
    intro r hr
    have hg : goodB a n = false := by simpa using hg
    unfold takeA coversB
    rw [hg]
    simp
theorem belowL_eq {t : T} (hw : t.Wf []) (hs : Short t.rows) {a : Nat} (ha : a < 4294967296) (n : Int) : belowL t a n = refBelowL t.rows a n := by
  unfold belowL refBelowL
  split
  · rename_i hg
    rw [T.under_eq hw, List.filter_filter]
    congr 1
    refine List.filter_congr fun r hr => ?_
    unfold takeB
    rw [covers_below ha hg (hs r hr)]
  · rename_i hg
    symm
    rw [List.map_eq_nil_iff, List.filter_eq_nil_iff]
    intro r hr
    have hg : goodB a n = false := by simpa using hg
    unfold takeB coversB
    rw [hg]
    simp
theorem count_key {p : Key} : ∀ {l : Rows}, Sorted l → (l.filter fun r => decide (r.1 = p)).length = if l.any (fun r => decide (r.1 = p)) = true then 1 else 0
  | [], _ => rfl
  | r :: l, h => by
    obtain ⟨h1, h2⟩ := List.pairwise_cons.1 h
    rw [List.filter_cons, List.any_cons]
    by_cases e : r.1 = p
    · have : l.filter (fun r => decide (r.1 = p)) = [] := by
        rw [List.filter_eq_nil_iff]
        intro x hx he
        have he : x.1 = p := by simpa using he
        have := h1 x hx
        rw [e, he, lt_irr] at this; cases this
      rw [if_pos (by simpa using e), this, decide_eq_true e]; rfl
    · rw [if_neg (by simpa using e), count_key h2, decide_eq_false e, Bool.false_or]
theorem countN_eq {t : T} (hw : t.Wf []) (hs : Short t.rows) {a : Nat} (ha : a < 4294967296) (n : Int) : countN t a n = (refBelowL t.rows a n).length + if hadX t (kyOf a n) = true then 1 else 0 := by
  rw [← belowL_eq hw hs ha]
  unfold countN belowL kyOf
  split
  · rename_i hg
    obtain ⟨p, hp⟩ : ∃ p, p = bitsOf a n.toNat := ⟨_, rfl⟩
    have hd : ∀ r ∈ t.rows, diffB a n r.1 = decide (r.1 ≠ p) := fun r hr => by rw [diff_iff ha hg (hs r hr), hp]
    rw [← hp]
    show (t.under p).cnt = _
    unfold T.cnt
    rw [T.under_eq hw, List.length_map, List.filter_filter]
    have e1 : (t.rows.filter fun r => diffB a n r.1 && decide (p <+: r.1)) = t.rows.filter fun r => decide (r.1 ≠ p) && decide (p <+: r.1) := List.filter_congr fun r hr => by rw [hd r hr]
    have e2 : (if hadX t (some p) = true then 1 else 0) = (t.rows.filter fun r => decide (r.1 = p) && decide (p <+: r.1)).length := by
      have e3 : (t.rows.filter fun r => decide (r.1 = p) && decide (p <+: r.1)) = t.rows.filter fun r => decide (r.1 = p) := List.filter_congr fun r hr => by
        by_cases e : r.1 = p
        · rw [decide_eq_true e, e, decide_eq_true (List.prefix_refl p)]; rfl
        · rw [decide_eq_false e]; rfl
      rw [e3, count_key (T.rows_sorted hw)]
      congr 1
      apply propext
      show hadB t p = true ↔ _
      rw [had_iff hw, List.any_eq_true]
      constructor
      · rintro ⟨v, hv⟩; exact ⟨_, hv, by simp⟩
      · rintro ⟨⟨k, v⟩, hx, he⟩
        have he : k = p := by simpa using he
        exact ⟨v, he ▸ hx⟩
    rw [e1, e2]
    clear e1 e2 hd
    induction t.rows with
    | nil => rfl
    | cons r l ih =>
      simp only [List.filter_cons]
      by_cases h1 : p <+: r.1
      · by_cases h2 : r.1 = p
        · simp [h1, h2] at ih ⊢; omega
        · simp [h1, h2] at ih ⊢; omega
      · simp [h1] at ih ⊢; omega
  · rename_i hg
    rfl
theorem longest_best {t : T} (hw : t.Wf []) (f : Key) {o : Option Nat} (h : Best t.rows f t.rows.length o) : t.longest f none = o.bind (fun b => t.rows[b]?) := by
  rw [T.longest_eq none hw (fun y e => by cases e), h.2, List.take_length]
theorem filter_step {α β : Type} (l : List α) (q : α → Bool) (g : α → β) {k : Nat} (hk : k < l.length) : ((l.take (k + 1)).filter q).map g = ((l.take k).filter q).map g ++ (if q l[k] = true then [g l[k]] else []) := by
  rw [List.take_succ_eq_append_getElem hk, List.filter_append, List.map_append]
  congr 1
  rw [List.filter_cons]
  split <;> simp
end Go.Proofs.Ytbhhkjkjihenoaa.tri

/- The reference's reading of messages, in plain Lean: what is told of a head, where messages end. No condition. -/
import Derived.Test.YthoclemgiopjpaaFrameMath
namespace Go.Proofs.Ythoclemgiopjpaa.frame
open Go.Proofs.Ythoclemgiopjpaa.octet
set_option linter.unusedVariables false

theorem be2_num (l : List UInt8) (h : l.length = 2) : be2 (num l : Int) = l := by
  match l, h with
  | [a, b], _ =>
    have ha := a.toNat_lt
    have hb := b.toNat_lt
    have e : num [a, b] = a.toNat * 256 + b.toNat := by simp [num]
    have h1 := byteOf_nat (((num [a, b] : Nat) : Int) / 256)
    have h2 := byteOf_nat ((num [a, b] : Nat) : Int)
    rw [e] at h1 h2
    unfold be2
    rw [e]
    congr 1
    · apply UInt8.toNat_inj.1; omega
    · congr 1
      apply UInt8.toNat_inj.1; omega
theorem be1_num (c : UInt8) : octet.byteOf ((num [c] : Nat) : Int) = c := by
  have hc := c.toNat_lt
  have h1 := byteOf_nat ((num [c] : Nat) : Int)
  have e : num [c] = c.toNat := by simp [num]
  rw [e] at h1 ⊢
  apply UInt8.toNat_inj.1; omega
theorem hbad_take (s : List UInt8) : hbad (s.take 19) = hbad s := by
  unfold hbad hmark hlen hkind
  rw [List.take_take, List.drop_take, List.take_take, List.drop_take, List.take_take]
  rfl
/-- where the messages with which bytes begin end -/
def endOf (s : List UInt8) : Nat := s.length - (feed s).2.1.length
theorem feed_left (s : List UInt8) : endOf s ≤ s.length ∧ (feed s).2.1 = s.drop (endOf s) ∧ (feed s).2.1.length + endOf s = s.length := by
  obtain ⟨n, hn, e⟩ := feed_rest s.length s (Nat.le_refl _)
  have h : endOf s = n := by unfold endOf; rw [e, List.length_drop]; omega
  refine ⟨by omega, by rw [h]; exact e, ?_⟩
  rw [h, e, List.length_drop]; omega
/-- what all messages come to -/
def sumOf (l : List (Nat × List UInt8)) : Nat := (l.map fun p => 19 + p.2.length).sum
theorem sumOf_snoc (l : List (Nat × List UInt8)) (p : Nat × List UInt8) : sumOf (l ++ [p]) = sumOf l + (19 + p.2.length) := by simp [sumOf]
theorem feed_sum : ∀ (k : Nat) (s : List UInt8), s.length ≤ k → sumOf (feed s).1 + (feed s).2.1.length = s.length
  | 0, s, h => by
    have : s = [] := List.eq_nil_of_length_eq_zero (by omega)
    subst this
    rfl
  | k + 1, s, h => by
    rcases e : nextF s with _ | n | ⟨kind, body, rest⟩
    · rw [feed_wait e]; simp [sumOf]
    · rw [feed_bad e]; simp [sumOf]
    · have h1 := nextF_got e
      obtain ⟨h19, _, _, _, _, _, _, _, h6, h7⟩ := h1
      rw [feed_got e]
      have := feed_sum k rest (by omega)
      simp only [sumOf, List.map_cons, List.sum_cons] at this ⊢
      omega
theorem sum_end (s : List UInt8) : sumOf (feed s).1 = endOf s := by
  have := feed_sum s.length s (Nat.le_refl _)
  have := feed_left s
  omega
theorem feed_count (s : List UInt8) : (feed s).1.length ≤ s.length := by
  have h : ∀ l : List (Nat × List UInt8), l.length ≤ sumOf l := by
    intro l
    induction l with
    | nil => simp
    | cons p l ih => simp only [sumOf, List.map_cons, List.sum_cons, List.length_cons] at ih ⊢; omega
  have h1 := h (feed s).1
  have h2 := sum_end s
  have h3 := (feed_left s).1
  omega
/-- what is there when at is where a message begins -/
theorem feed_at_got {s : List UInt8} {out : List (Nat × List UInt8)} {k kind : Nat} {body rest : List UInt8} (h : feed s = (out ++ (feed (s.drop k)).1, (feed (s.drop k)).2.1, (feed (s.drop k)).2.2)) (hg : nextF (s.drop k) = .got kind body rest) :
    feed s = ((out ++ [(kind, body)]) ++ (feed (s.drop (k + hlen (s.drop k)))).1, (feed (s.drop (k + hlen (s.drop k)))).2.1, (feed (s.drop (k + hlen (s.drop k)))).2.2) := by
  have hr : rest = s.drop (k + hlen (s.drop k)) := by
    rw [← List.drop_drop]
    exact (nextF_got hg).2.2.2.2.2.2.2.1
  rw [h, feed_got hg, ← hr]
  simp
theorem nextF_cases {s : List UInt8} (h : 19 ≤ s.length) : ((hbad s).1 ≠ 0 ∧ nextF s = .bad (hbad s)) ∨ ((hbad s).1 = 0 ∧ s.length < hlen s ∧ nextF s = .wait) ∨ ((hbad s).1 = 0 ∧ hlen s ≤ s.length ∧ nextF s = .got (hkind s) ((s.drop 19).take (hlen s - 19)) (s.drop (hlen s))) := by
  unfold nextF
  rw [if_neg (by omega)]
  by_cases h1 : (hbad s).1 ≠ 0
  · rw [if_pos h1]; exact .inl ⟨h1, rfl⟩
  · rw [if_neg h1]
    have h1 : (hbad s).1 = 0 := by simpa using h1
    by_cases h2 : s.length < hlen s
    · rw [if_pos h2]; exact .inr (.inl ⟨h1, h2, rfl⟩)
    · rw [if_neg h2]; exact .inr (.inr ⟨h1, by omega, rfl⟩)
theorem nextF_short {s : List UInt8} (h : s.length < 19) : nextF s = .wait := by unfold nextF; rw [if_pos h]
theorem hbad_ok {s : List UInt8} (h : (hbad s).1 = 0) : hbad s = (0, 0, []) ∧ 19 ≤ hlen s ∧ hlen s ≤ 4096 := by
  have h2 := judgeN_ok h
  refine ⟨?_, h2.1, h2.2.1⟩
  unfold hbad at h ⊢
  unfold judgeN at h ⊢
  split at h
  · cases h
  · split at h
    · cases h
    · split at h
      · cases h
      · split at h
        · cases h
        · rename_i h3 h4 h5 h6
          rw [if_neg h3, if_neg h4, if_neg h5, if_neg h6]
end Go.Proofs.Ythoclemgiopjpaa.frame

/- The lowest bit of a number, by de Bruijn's table; the greatest block of a range by it. Plain Lean. -/
import Derived.Test.YtpabblkppbfbjaaDoorCanon
namespace Go.Proofs.YtpabblkppbfbjaaDoor.wlk
set_option linter.unusedVariables false

theorem low_bit (t m : Nat) (h : 2 ^ t * (2 * m + 1) < 2 ^ 32) : 2 ^ t * (2 * m + 1) &&& (2 ^ 32 - 2 ^ t * (2 * m + 1)) = 2 ^ t := by
  have hp := Nat.pow_pos (n := t) (show 0 < 2 by decide)
  have h2 : 2 ^ (t + 1) = 2 * 2 ^ t := by rw [Nat.pow_succ, Nat.mul_comm]
  have ex : 2 ^ t * (2 * m + 1) = 2 ^ (t + 1) * m + 2 ^ t := by rw [h2, Nat.mul_add, Nat.mul_one, ← Nat.mul_assoc, Nat.mul_comm (2 ^ t) 2]
  have ey : 2 ^ t * (2 * m + 1) - 1 = 2 ^ (t + 1) * m + (2 ^ t - 1) := by rw [ex]; omega
  obtain ⟨x, hx⟩ : ∃ x, x = 2 ^ t * (2 * m + 1) := ⟨_, rfl⟩
  have ht : t < 32 := by
    rcases Nat.lt_or_ge t 32 with h3 | h3
    · exact h3
    · have h4 : 2 ^ 32 ≤ 2 ^ t := Nat.pow_le_pow_right (by omega) h3
      have h5 : 2 ^ t * 1 ≤ 2 ^ t * (2 * m + 1) := Nat.mul_le_mul_left _ (by omega)
      omega
  rw [← hx] at h ex ey ⊢
  have hx1 : 1 ≤ x := by omega
  have e0 : 2 ^ 32 - x = 2 ^ 32 - (x - 1 + 1) := by omega
  apply Nat.eq_of_testBit_eq
  intro i
  rw [Nat.testBit_and, e0, Nat.testBit_two_pow_sub_succ (by omega), ey, ex, Nat.testBit_two_pow_mul_add _ (by omega), Nat.testBit_two_pow_mul_add _ (by omega), Nat.testBit_two_pow, Nat.testBit_two_pow_sub_one]
  by_cases h3 : i < t + 1
  · rw [if_pos h3, if_pos h3]
    by_cases h4 : t = i
    · subst h4; simp [ht]
    · have h5 : i < t := by omega
      simp [h4]
  · rw [if_neg h3, if_neg h3]
    have h4 : ¬ t = i := by omega
    cases m.testBit (i - (t + 1)) <;> simp [h4]
def dbTab : List Int := [0, 1, 28, 2, 29, 14, 24, 3, 30, 22, 20, 15, 25, 17, 4, 8, 31, 27, 13, 23, 21, 19, 16, 7, 26, 12, 18, 6, 11, 5, 10, 9]
theorem db_at : ∀ t : Fin 32, dbTab.getD ((2 ^ t.val * 125613361) % 4294967296 / 134217728) 0 = (t.val : Int) := by decide +kernel
theorem db_lt (t : Nat) : (2 ^ t * 125613361) % 4294967296 / 134217728 < 32 := by omega
/-- any number but nought by its lowest bit -/
theorem odd_part : ∀ (n x : Nat), x ≤ n → 1 ≤ x → ∃ t m, x = 2 ^ t * (2 * m + 1)
  | 0, x, h, h1 => by omega
  | n + 1, x, h, h1 => by
    by_cases h2 : x % 2 = 1
    · exact ⟨0, x / 2, by simp; omega⟩
    · obtain ⟨t, m, e⟩ := odd_part n (x / 2) (by omega) (by omega)
      refine ⟨t + 1, m, ?_⟩
      rw [Nat.pow_succ, Nat.mul_comm (2 ^ t) 2, Nat.mul_assoc, ← e]
      omega
theorem odd_mod {t m j : Nat} : (2 ^ t * (2 * m + 1)) % 2 ^ j = 0 ↔ j ≤ t := by
  have hp := Nat.pow_pos (n := t) (show 0 < 2 by decide)
  constructor
  · intro h
    rcases Nat.lt_or_ge t j with h1 | h1
    · exfalso
      have h2 := mod_pow_le (show t + 1 ≤ j by omega) h
      rw [Nat.pow_succ, Nat.mul_mod_mul_left] at h2
      have : (2 * m + 1) % 2 = 1 := by omega
      rw [this, Nat.mul_one] at h2
      omega
    · exact h1
  · intro h
    refine mod_pow_le h ?_
    exact Nat.mul_mod_right _ _
/-- of which size the greatest block is: by the lowest bit of where it begins, and by the number of what is left -/
theorem gj_min {a r t m b : Nat} (ha : a = 2 ^ t * (2 * m + 1)) (hr : 1 ≤ r) (hb1 : 2 ^ (b - 1) ≤ r) (hb2 : r < 2 ^ b) (hb : 1 ≤ b) : IsGj a r (min (min t (b - 1)) 32) := by
  refine ⟨?_, ?_, by omega, ?_⟩
  · rw [ha]; exact odd_mod.2 (by omega)
  · exact Nat.le_trans (Nat.pow_le_pow_right (by omega) (by omega)) hb1
  · by_cases h : min (min t (b - 1)) 32 = 32
    · exact .inl h
    · refine .inr ?_
      rintro ⟨h1, h2⟩
      rw [ha] at h1
      have h3 := odd_mod.1 h1
      have h4 : b - 1 < t := by omega
      have h5 : min (min t (b - 1)) 32 + 1 = b := by omega
      rw [h5] at h2
      omega
theorem gj_zero {r b : Nat} (hr : 1 ≤ r) (hb1 : 2 ^ (b - 1) ≤ r) (hb2 : r < 2 ^ b) (hb : 1 ≤ b) : IsGj 0 r (min (min 32 (b - 1)) 32) := by
  refine ⟨Nat.zero_mod _, ?_, by omega, ?_⟩
  · exact Nat.le_trans (Nat.pow_le_pow_right (by omega) (by omega)) hb1
  · by_cases h : min (min 32 (b - 1)) 32 = 32
    · exact .inl h
    · refine .inr ?_
      rintro ⟨h1, h2⟩
      have h5 : min (min 32 (b - 1)) 32 + 1 = b := by omega
      rw [h5] at h2
      omega
end Go.Proofs.YtpabblkppbfbjaaDoor.wlk

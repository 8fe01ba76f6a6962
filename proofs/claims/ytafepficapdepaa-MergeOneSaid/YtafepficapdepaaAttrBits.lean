/- Bits of an integer of 64 bits. Condition as each lemma states. -/
import Derived.Laws.Bits128
import Derived.Laws.Bits64
namespace Go.Proofs.Ytafepficapdepaa.attr
open Go
theorem and_pow (k n : Nat) : n &&& 2 ^ k = n / 2 ^ k % 2 * 2 ^ k := by
  apply Nat.eq_of_testBit_eq
  intro i
  rw [Nat.testBit_and, Nat.testBit_two_pow, Nat.testBit_mul_two_pow]
  by_cases h : k = i
  · subst h
    simp only [decide_true, Bool.and_true, Nat.sub_self, Nat.le_refl, Bool.true_and]
    rw [Nat.testBit_zero, Nat.testBit_eq_decide_div_mod_eq]
    simp
  · by_cases h2 : k ≤ i
    · have : (n / 2 ^ k % 2).testBit (i - k) = false := by
        apply Nat.testBit_lt_two_pow
        have h3 : n / 2 ^ k % 2 < 2 := Nat.mod_lt _ (by omega)
        have h4 : 2 ^ 1 ≤ 2 ^ (i - k) := Nat.pow_le_pow_right (by omega) (by omega)
        omega
      simp [h, this]
    · simp [h, h2]
/-- whether the bit is there -/
def bitI (h : Int) (k : Nat) : Bool := decide (h / 2 ^ k % 2 = 1)
theorem i64_and_pow (h : Int) (k : Nat) (hk : k < 62) : bits .and .i64 h (2 ^ k) = if bitI h k = true then 2 ^ k else 0 := by
  have h1 : (BitVec.ofInt 64 (2 ^ k)).toNat = 2 ^ k := by
    rw [BitVec.toNat_ofInt]
    have h2 : (2 : Nat) ^ k < 2 ^ 62 := Nat.pow_lt_pow_right (by omega) hk
    have : ((2 : Int) ^ k) = ((2 ^ k : Nat) : Int) := by simp
    rw [this]
    generalize (2 : Nat) ^ k = p at *
    omega
  have key : (BitVec.ofInt 64 h &&& BitVec.ofInt 64 (2 ^ k)).toNat = (h % ((2 ^ 64 : Nat) : Int)).toNat / 2 ^ k % 2 * 2 ^ k := by
    rw [BitVec.toNat_and, BitVec.toNat_ofInt, h1, and_pow]
  show IntKind.i64.wrap ((BitVec.ofInt 64 h &&& BitVec.ofInt 64 (2 ^ k)).toNat : Nat) = _
  rw [key]
  have e1 : (((h % ((2 ^ 64 : Nat) : Int)).toNat / 2 ^ k : Nat) : Int) % 2 = h / 2 ^ k % 2 := by
    have e2 : (((h % ((2 ^ 64 : Nat) : Int)).toNat / 2 ^ k : Nat) : Int) = h % ((2 ^ 64 : Nat) : Int) / ((2 ^ k : Nat) : Int) := by
      rw [Int.natCast_ediv, Int.toNat_of_nonneg (Int.emod_nonneg _ (by decide))]
    rw [e2]
    have e3 : ((2 ^ 64 : Nat) : Int) = ((2 ^ k : Nat) : Int) * (2 * ((2 ^ (63 - k) : Nat) : Int)) := by
      rw [← Int.mul_assoc]
      have : (2 : Nat) ^ 64 = 2 ^ k * 2 * 2 ^ (63 - k) := by
        rw [← Nat.pow_succ, ← Nat.pow_add]
        congr 1
        omega
      rw [this]
      simp
    have e4 : h / ((2 ^ k : Nat) : Int) = h % ((2 ^ 64 : Nat) : Int) / ((2 ^ k : Nat) : Int) + 2 * (((2 ^ (63 - k) : Nat) : Int) * (h / ((2 ^ 64 : Nat) : Int))) := by
      have e5 : h = h % ((2 ^ 64 : Nat) : Int) + ((2 ^ k : Nat) : Int) * (2 * (((2 ^ (63 - k) : Nat) : Int) * (h / ((2 ^ 64 : Nat) : Int)))) := by
        have := Int.emod_add_mul_ediv h ((2 ^ 64 : Nat) : Int)
        conv => lhs; rw [← this]
        congr 1
        conv => lhs; rw [e3]
        rw [← e3]
        grind
      conv => lhs; rw [e5]
      rw [Int.add_mul_ediv_left _ _ (by have : 0 < (2 : Nat) ^ k := Nat.pow_pos (by omega); generalize (2 : Nat) ^ k = p at *; omega)]
    have e6 : (2 : Int) ^ k = ((2 ^ k : Nat) : Int) := by simp
    rw [e6, e4]
    omega
  unfold bitI
  have hp : (2 : Nat) ^ k < 2 ^ 62 := Nat.pow_lt_pow_right (by omega) hk
  have e6 : (2 : Int) ^ k = ((2 ^ k : Nat) : Int) := by simp
  rcases Nat.mod_two_eq_zero_or_one ((h % ((2 ^ 64 : Nat) : Int)).toNat / 2 ^ k) with h0 | h0
  · have : ¬ h / 2 ^ k % 2 = 1 := by rw [← e1]; omega
    rw [h0]
    simp [this, IntKind.wrap_i64]
  · have : h / 2 ^ k % 2 = 1 := by rw [← e1]; omega
    rw [h0, Nat.one_mul, IntKind.wrap_i64]
    simp only [this, decide_true, if_true]
    rw [e6]
    omega
theorem i64_and510 (n : Int) : bits .and .i64 n 510 = n % 512 - n % 2 := by
  have h1 : (BitVec.ofInt 64 510).toNat = 510 := by decide
  have a1 : ∀ m : Nat, m &&& 510 = m % 512 - m % 2 := by
    intro m
    have e : m &&& 510 = (m &&& 511) &&& 510 := by rw [Nat.and_assoc]; rfl
    have e2 : m &&& 511 = m % 512 := Nat.and_two_pow_sub_one_eq_mod m 9
    rw [e, e2]
    have h3 : m % 512 < 512 := Nat.mod_lt _ (by omega)
    have h4 : m % 2 = m % 512 % 2 := by omega
    rw [h4]
    generalize m % 512 = r at *
    have : ∀ r : Fin 512, r.val &&& 510 = r.val - r.val % 2 := by decide +kernel
    exact this ⟨r, h3⟩
  have key : (BitVec.ofInt 64 n &&& BitVec.ofInt 64 510).toNat = (n % ((2 ^ 64 : Nat) : Int)).toNat % 512 - (n % ((2 ^ 64 : Nat) : Int)).toNat % 2 := by
    rw [BitVec.toNat_and, BitVec.toNat_ofInt, h1, a1]
  show IntKind.i64.wrap ((BitVec.ofInt 64 n &&& BitVec.ofInt 64 510).toNat : Nat) = _
  rw [key, IntKind.wrap_i64]
  omega
end Go.Proofs.Ytafepficapdepaa.attr

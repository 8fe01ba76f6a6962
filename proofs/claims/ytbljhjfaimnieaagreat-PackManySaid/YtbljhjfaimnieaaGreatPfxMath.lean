/- Prefixes as numbers: an address with its first bits alone, and which prefixes are good. Plain arithmetic; no program. -/
import Derived.Laws.BitsAllLaws
namespace Go.Proofs.YtbljhjfaimnieaaGreat.pfx

/-- an address with its first n bits alone -/
def cutv (a n : Nat) : Nat := a / 2 ^ (32 - n) * 2 ^ (32 - n)
/-- a prefix is good -/
def goodB (a : Nat) (n : Int) : Bool := decide (0 ≤ n) && decide (n ≤ 32) && (a % 2 ^ (32 - n.toNat) == 0)
def maskv (n : Nat) : Nat := 4294967296 - 2 ^ (32 - n)

theorem cutv_le (a n : Nat) : cutv a n ≤ a := by unfold cutv; exact Nat.div_mul_le_self _ _

theorem cutv_eq (a n : Nat) : (cutv a n = a) ↔ a % 2 ^ (32 - n) = 0 := by
  unfold cutv
  have h := Nat.div_add_mod a (2 ^ (32 - n))
  rw [Nat.mul_comm] at h
  omega

theorem mask_val (n : Nat) (h : n ≤ 32) : (4294967295 * 2 ^ (32 - n) % 18446744073709551616 % 4294967296) = maskv n := by
  have h0 : ∀ k : Fin 33, 4294967295 * 2 ^ (32 - k.1) % 18446744073709551616 % 4294967296 = maskv k.1 := by decide +kernel
  exact h0 ⟨n, by omega⟩

theorem pow_le (n : Nat) : 2 ^ (32 - n) ≤ 4294967296 := by
  have : 2 ^ (32 - n) ≤ 2 ^ 32 := Nat.pow_le_pow_right (by omega) (by omega)
  omega

theorem maskv_le (n : Nat) : maskv n ≤ 4294967295 := by
  unfold maskv
  have := Nat.two_pow_pos (32 - n)
  omega

theorem andNot_mask (a n : Nat) (ha : a < 4294967296) : bits .andNot .u32 (a : Int) (maskv n : Int) = ((a % 2 ^ (32 - n) : Nat) : Int) := by
  have hp := Nat.two_pow_pos (32 - n)
  have hl := pow_le n
  have hm := maskv_le n
  rw [u32_andNot_nat _ _ ha (by omega)]
  have e : 4294967295 - maskv n = 2 ^ (32 - n) - 1 := by unfold maskv; omega
  rw [e, Nat.and_two_pow_sub_one_eq_mod]

/-- the bits of a cut address -/
theorem cut_step (a n i : Nat) (hn : n ≤ 32) (hi : i < 32) : cutv a n / 2 ^ (32 - (i + 1)) = cutv a n / 2 ^ (32 - i) * 2 + (if i < n ∧ a / 2 ^ (31 - i) % 2 = 1 then 1 else 0) := by
  have e1 : 32 - i = (32 - (i + 1)) + 1 := by omega
  have e0 : 31 - i = 32 - (i + 1) := by omega
  have key : cutv a n / 2 ^ (32 - (i + 1)) % 2 = if i < n ∧ a / 2 ^ (31 - i) % 2 = 1 then 1 else 0 := by
    unfold cutv
    by_cases c : i < n
    · have e2 : 32 - (i + 1) = (32 - n) + (n - (i + 1)) := by omega
      rw [e0, e2, Nat.pow_add, ← Nat.div_div_eq_div_mul, ← Nat.div_div_eq_div_mul, Nat.mul_div_cancel _ (Nat.two_pow_pos _)]
      have : a / 2 ^ (32 - n) / 2 ^ (n - (i + 1)) % 2 < 2 := Nat.mod_lt _ (by omega)
      split <;> omega
    · rw [if_neg (by omega)]
      have e2 : 32 - n = (32 - (i + 1)) + (1 + (i - n)) := by omega
      rw [e2, Nat.pow_add, Nat.mul_comm (2 ^ (32 - (i + 1))), ← Nat.mul_assoc, Nat.mul_div_cancel _ (Nat.two_pow_pos _), Nat.pow_add, Nat.pow_one, Nat.mul_comm 2, ← Nat.mul_assoc]
      exact Nat.mul_mod_left _ _
  have h2 := Nat.div_add_mod (cutv a n / 2 ^ (32 - (i + 1))) 2
  rw [key, Nat.div_div_eq_div_mul, ← Nat.pow_succ, show (32 - (i + 1)).succ = 32 - i from by omega] at h2
  omega

theorem cut_start (a n : Nat) (ha : a < 4294967296) : cutv a n / 2 ^ (32 - 0) = 0 := Nat.div_eq_of_lt (Nat.lt_of_le_of_lt (cutv_le a n) ha)
theorem cut_end (a n : Nat) : cutv a n / 2 ^ (32 - 32) = cutv a n := by simp

attribute [irreducible] cutv goodB maskv

theorem goodB_iff (a : Nat) (n : Int) : goodB a n = true ↔ 0 ≤ n ∧ n ≤ 32 ∧ a % 2 ^ (32 - n.toNat) = 0 := by
  unfold goodB; simp [and_assoc]

end Go.Proofs.YtbljhjfaimnieaaGreat.pfx

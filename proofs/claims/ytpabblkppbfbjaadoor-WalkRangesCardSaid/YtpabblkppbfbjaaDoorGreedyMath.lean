/- Addresses from one to another one as the fewest blocks, the greatest that fits first. Plain Lean. -/
namespace Go.Proofs.YtpabblkppbfbjaaDoor.wlk
set_option linter.unusedVariables false

def grow (a r : Nat) : Nat → Nat → Nat
  | 0, j => j
  | f + 1, j => if a % 2 ^ (j + 1) = 0 ∧ 2 ^ (j + 1) ≤ r then grow a r f (j + 1) else j
/-- of what size (a power of two) the greatest block at a is, of which r addresses are left -/
def gj (a r : Nat) : Nat := grow a r 32 0
structure IsGj (a r j : Nat) : Prop where
  al : a % 2 ^ j = 0
  le : 2 ^ j ≤ r
  lt : j ≤ 32
  top : j = 32 ∨ ¬ (a % 2 ^ (j + 1) = 0 ∧ 2 ^ (j + 1) ≤ r)
theorem grow_is (a r : Nat) : ∀ (f j : Nat), f + j = 32 → a % 2 ^ j = 0 → 2 ^ j ≤ r → IsGj a r (grow a r f j)
  | 0, j, h, h1, h2 => ⟨h1, h2, by simp only [grow]; omega, .inl (by simp only [grow]; omega)⟩
  | f + 1, j, h, h1, h2 => by
    unfold grow
    split
    · rename_i hc
      exact grow_is a r f (j + 1) (by omega) hc.1 hc.2
    · rename_i hc
      exact ⟨h1, h2, by omega, .inr hc⟩
theorem gj_is {a r : Nat} (h : 1 ≤ r) : IsGj a r (gj a r) := grow_is a r 32 0 rfl (by simp [Nat.mod_one]) (by simpa using h)
theorem mod_pow_le {a i j : Nat} (h : i ≤ j) (ha : a % 2 ^ j = 0) : a % 2 ^ i = 0 :=
  Nat.mod_eq_zero_of_dvd (Nat.dvd_trans (Nat.pow_dvd_pow 2 h) (Nat.dvd_of_mod_eq_zero ha))
theorem IsGj.uniq {a r i j : Nat} (h : IsGj a r i) (k : IsGj a r j) : i = j := by
  rcases Nat.lt_trichotomy i j with hlt | h0 | hlt
  · rcases h.top with h1 | h1
    · have := k.lt; omega
    · exact absurd ⟨mod_pow_le hlt k.al, Nat.le_trans (Nat.pow_le_pow_right (by omega) hlt) k.le⟩ h1
  · exact h0
  · rcases k.top with h1 | h1
    · have := h.lt; omega
    · exact absurd ⟨mod_pow_le hlt h.al, Nat.le_trans (Nat.pow_le_pow_right (by omega) hlt) h.le⟩ h1

/-- the blocks of r addresses from a on -/
def gr (a r : Nat) : List (Nat × Int) :=
  if h : r = 0 then [] else (a, ((32 - gj a r : Nat) : Int)) :: gr (a + 2 ^ gj a r) (r - 2 ^ gj a r)
termination_by r
decreasing_by
  have := Nat.pow_pos (n := gj a r) (show 0 < 2 by decide)
  omega
theorem gr_zero (a : Nat) : gr a 0 = [] := by rw [gr]; simp
theorem gr_step {a r j : Nat} (h : 1 ≤ r) (hj : IsGj a r j) : gr a r = (a, ((32 - j : Nat) : Int)) :: gr (a + 2 ^ j) (r - 2 ^ j) := by
  have e := (gj_is (a := a) h).uniq hj
  rw [gr, dif_neg (by omega), e]

theorem gr_down : ∀ (L a r : Nat), L ≤ 32 → a % 2 ^ L = 0 → r < 2 ^ L → (gr a r).length ≤ L
  | 0, a, r, h, h1, h2 => by
    have : r = 0 := by simp at h2; omega
    subst this
    rw [gr_zero]; simp
  | L + 1, a, r, h, h1, h2 => by
    have hp : 2 ^ (L + 1) = 2 * 2 ^ L := by rw [Nat.pow_succ, Nat.mul_comm]
    have hm := mod_pow_le (Nat.le_succ L) h1
    by_cases hr : r < 2 ^ L
    · exact Nat.le_trans (gr_down L a r (by omega) hm hr) (by omega)
    · have hj : IsGj a r L := ⟨hm, by omega, by omega, .inr fun hc => by omega⟩
      have h0 := Nat.pow_pos (n := L) (show 0 < 2 by decide)
      rw [gr_step (by omega) hj]
      have := gr_down L (a + 2 ^ L) (r - 2 ^ L) (by omega) (by rw [Nat.add_mod_right]; exact hm) (by omega)
      simp only [List.length_cons]
      omega
theorem gr_up : ∀ (m v a r : Nat), v + m = 32 → a % 2 ^ v = 0 → a + r ≤ 4294967296 → (gr a r).length ≤ m + 33
  | 0, v, a, r, h, h1, h2 => by
    obtain rfl : v = 32 := by omega
    by_cases hr : r < 2 ^ 32
    · exact Nat.le_trans (gr_down 32 a r (by omega) h1 hr) (by omega)
    · have hj : IsGj a r 32 := ⟨h1, by omega, by omega, .inl rfl⟩
      rw [gr_step (by omega) hj, show r - 2 ^ 32 = 0 by omega, gr_zero]
      simp
  | m + 1, v, a, r, h, h1, h2 => by
    by_cases hr : r < 2 ^ v
    · exact Nat.le_trans (gr_down v a r (by omega) h1 hr) (by omega)
    · by_cases hv : a % 2 ^ (v + 1) = 0
      · exact Nat.le_trans (gr_up m (v + 1) a r (by omega) hv h2) (by omega)
      · have hj : IsGj a r v := ⟨h1, by omega, by omega, .inr fun hc => hv hc.1⟩
        have h0 := Nat.pow_pos (n := v) (show 0 < 2 by decide)
        rw [gr_step (by omega) hj]
        have ha : (a + 2 ^ v) % 2 ^ (v + 1) = 0 := by
          obtain ⟨q, rfl⟩ := Nat.dvd_of_mod_eq_zero h1
          rw [Nat.pow_succ] at hv ⊢
          have e : 2 ^ v * q + 2 ^ v = 2 ^ v * (q + 1) := by rw [Nat.mul_add, Nat.mul_one]
          rw [Nat.mul_mod_mul_left] at hv
          rw [e, Nat.mul_mod_mul_left]
          have h3 : q % 2 ≠ 0 := fun h4 => hv (by rw [h4, Nat.mul_zero])
          rw [show (q + 1) % 2 = 0 by omega, Nat.mul_zero]
        have := gr_up m (v + 1) (a + 2 ^ v) (r - 2 ^ v) (by omega) ha (by omega)
        simp only [List.length_cons]
        omega
theorem gr_len {a r : Nat} (h : a + r ≤ 4294967296) : (gr a r).length ≤ 65 := gr_up 32 0 a r rfl (by simp [Nat.mod_one]) h
theorem gr_lt : ∀ (n a r : Nat), r ≤ n → a + r ≤ 4294967296 → ∀ x ∈ gr a r, x.1 < 4294967296
  | n, a, 0, h, h2, x, hx => by rw [gr_zero] at hx; cases hx
  | 0, a, r + 1, h, h2, x, hx => by omega
  | n + 1, a, r + 1, h, h2, x, hx => by
    have hj := gj_is (a := a) (show 1 ≤ r + 1 by omega)
    have h0 := Nat.pow_pos (n := gj a (r + 1)) (show 0 < 2 by decide)
    have h1 := hj.le
    rw [gr_step (by omega) hj] at hx
    rcases List.mem_cons.1 hx with rfl | hx
    · dsimp only; omega
    · exact gr_lt n _ _ (by omega) (by omega) x hx
end Go.Proofs.YtpabblkppbfbjaaDoor.wlk

/- Points of addresses: powers of -1 + i, their sums, how an address is found again. Plain arithmetic; no program. No condition beyond those that each lemma states. -/
import Derived.Below
namespace Go.Proofs.Ytpggdofleehmdaa.plane

/-- times the base -/
def mb (p : Int × Int) : Int × Int := (-p.1 - p.2, p.1 - p.2)
def pw : Nat → Int × Int
  | 0 => (1, 0)
  | k + 1 => mb (pw k)
/-- the point of the low n bits of a -/
def pt : Nat → Nat → Int × Int
  | 0, _ => (0, 0)
  | n + 1, a => ((mb (pt n (a / 2))).1 + ((a % 2 : Nat) : Int), (mb (pt n (a / 2))).2)

/-- the low bit of a whole number, as a number -/
def par (p : Int × Int) : Int := (p.1 + p.2) % 2
def half (p : Int × Int) : Int × Int := ((p.2 - (p.1 - par p)) / 2, (-(p.1 - par p) - p.2) / 2)
def dvs : Nat → Int × Int → Nat × (Int × Int)
  | 0, p => (0, p)
  | k + 1, p => ((dvs k p).1 + (par (dvs k p).2).toNat * 2 ^ k, half (dvs k p).2)

theorem par_01 (p : Int × Int) : 0 ≤ par p ∧ par p ≤ 1 := by unfold par; omega

theorem half_mb (p : Int × Int) : (mb (half p)).1 + par p = p.1 ∧ (mb (half p)).2 = p.2 := by
  unfold mb half par; dsimp only; omega

theorem par_pt (n a : Nat) : par (pt (n + 1) a) = ((a % 2 : Nat) : Int) := by
  simp only [pt, mb, par]; omega

theorem half_pt (n a : Nat) : half (pt (n + 1) a) = pt n (a / 2) := by
  have h := par_pt n a
  unfold half
  rw [h]
  simp only [pt, mb]
  apply Prod.ext <;> dsimp only <;> omega

theorem dvs_pt (k : Nat) : ∀ n a, k ≤ n → dvs k (pt n a) = (a % 2 ^ k, pt (n - k) (a / 2 ^ k)) := by
  induction k with
  | zero => intro n a h; simp [dvs, Nat.mod_one]
  | succ k ih =>
    intro n a h
    have hi := ih n a (by omega)
    simp only [dvs, hi]
    obtain ⟨m, hm⟩ : ∃ m, n - k = m + 1 := ⟨n - k - 1, by omega⟩
    rw [hm, par_pt, half_pt, show n - (k + 1) = m from by omega, Nat.div_div_eq_div_mul, ← Nat.pow_succ]
    apply Prod.ext
    · show a % 2 ^ k + ((a / 2 ^ k % 2 : Nat) : Int).toNat * 2 ^ k = a % 2 ^ (k + 1)
      rw [Int.toNat_natCast, Nat.mod_pow_succ, Nat.mul_comm]
    · rfl

/-- the product of two numbers with two parts -/
def cm (p q : Int × Int) : Int × Int := (p.1 * q.1 - p.2 * q.2, p.1 * q.2 + p.2 * q.1)

theorem cm_mb (p q : Int × Int) : cm (mb p) q = cm p (mb q) := by
  unfold cm mb
  apply Prod.ext <;> dsimp only <;> simp only [Int.sub_mul, Int.mul_sub, Int.neg_mul, Int.mul_neg] <;> omega

theorem pt_zero (n : Nat) : pt n 0 = (0, 0) := by
  induction n with
  | zero => rfl
  | succ n ih => simp [pt, ih, mb]

/-- the highest bit, taken last -/
theorem pt_snoc (k : Nat) : ∀ a, pt (k + 1) a = ((pt k a).1 + ((a / 2 ^ k % 2 : Nat) : Int) * (pw k).1, (pt k a).2 + ((a / 2 ^ k % 2 : Nat) : Int) * (pw k).2) := by
  induction k with
  | zero => intro a; simp [pt, mb, pw]
  | succ k ih =>
    intro a
    have h := ih (a / 2)
    rw [pt, h, Nat.div_div_eq_div_mul, show 2 * 2 ^ k = 2 ^ (k + 1) from by rw [Nat.pow_succ, Nat.mul_comm]]
    generalize ((a / 2 ^ (k + 1) % 2 : Nat) : Int) = b
    simp only [pt, mb, pw]
    apply Prod.ext <;> dsimp only <;> simp only [Int.mul_sub, Int.mul_neg] <;> omega

theorem pt_mod (k : Nat) : ∀ a, pt k (a % 2 ^ k) = pt k a := by
  induction k with
  | zero => intro a; rfl
  | succ k ih =>
    intro a
    have e1 : a % 2 ^ (k + 1) / 2 = a / 2 % 2 ^ k := by
      rw [Nat.pow_succ, Nat.mul_comm]; exact Nat.mod_mul_right_div_self a 2 (2 ^ k)
    have e2 : a % 2 ^ (k + 1) % 2 = a % 2 := Nat.mod_mod_of_dvd a ⟨2 ^ k, by rw [Nat.pow_succ, Nat.mul_comm]⟩
    simp only [pt, e1, e2, ih]

theorem dvs_lt (k : Nat) (p : Int × Int) : (dvs k p).1 < 2 ^ k := by
  induction k with
  | zero => simp [dvs]
  | succ k ih =>
    have h := par_01 (dvs k p).2
    simp only [dvs]
    have : (par (dvs k p).2).toNat * 2 ^ k ≤ 1 * 2 ^ k := Nat.mul_le_mul_right _ (by omega)
    rw [Nat.pow_succ]; omega

theorem dvs_bit (k : Nat) (p : Int × Int) : (dvs (k + 1) p).1 / 2 ^ k % 2 = (par (dvs k p).2).toNat := by
  have h := par_01 (dvs k p).2
  have hl := dvs_lt k p
  simp only [dvs]
  rw [Nat.add_mul_div_right _ _ (Nat.two_pow_pos k), Nat.div_eq_of_lt hl]
  omega

theorem dvs_low (k : Nat) (p : Int × Int) : (dvs (k + 1) p).1 % 2 ^ k = (dvs k p).1 := by
  simp only [dvs]
  rw [Nat.add_mul_mod_self_right, Nat.mod_eq_of_lt (dvs_lt k p)]

/-- what was taken off, and what is left, make up the whole -/
theorem dvs_back (k : Nat) (p : Int × Int) : p = ((pt k (dvs k p).1).1 + (cm (pw k) (dvs k p).2).1, (pt k (dvs k p).1).2 + (cm (pw k) (dvs k p).2).2) := by
  induction k with
  | zero => simp [dvs, pt, pw, cm]
  | succ k ih =>
    have e1 : pt k (dvs (k + 1) p).1 = pt k (dvs k p).1 := by rw [← pt_mod k (dvs (k + 1) p).1, dvs_low]
    have hb := dvs_bit k p
    have hp := par_01 (dvs k p).2
    rw [pt_snoc, hb, Int.toNat_of_nonneg hp.1, e1]
    have e2 : (dvs (k + 1) p).2 = half (dvs k p).2 := rfl
    have e3 : cm (pw (k + 1)) (half (dvs k p).2) = cm (pw k) (mb (half (dvs k p).2)) := cm_mb _ _
    obtain ⟨h1, h2⟩ := half_mb (dvs k p).2
    rw [e2, e3]
    conv => lhs; rw [ih]
    generalize half (dvs k p).2 = q at *
    generalize par (dvs k p).2 = b at *
    generalize (dvs k p).2 = r at *
    generalize pt k (dvs k p).1 = s at *
    generalize pw k = t at *
    unfold cm
    rw [← h1, ← h2]
    apply Prod.ext <;> dsimp only <;> simp only [Int.mul_add, Int.mul_comm b] <;> omega

/-- how great the parts may be -/
def sx : Nat → Nat
  | 0 => 0
  | k + 1 => sx k + (pw k).1.natAbs
def sy : Nat → Nat
  | 0 => 0
  | k + 1 => sy k + (pw k).2.natAbs

theorem bit_mul (b : Nat) (hb : b < 2) (n : Int) : ((b : Int) * n).natAbs ≤ n.natAbs := by
  have : b = 0 ∨ b = 1 := by omega
  rcases this with rfl | rfl <;> simp

theorem pt_bound (k a : Nat) : (pt k a).1.natAbs ≤ sx k ∧ (pt k a).2.natAbs ≤ sy k := by
  induction k with
  | zero => simp [pt, sx, sy]
  | succ k ih =>
    rw [pt_snoc]
    have h1 := bit_mul (a / 2 ^ k % 2) (by omega) (pw k).1
    have h2 := bit_mul (a / 2 ^ k % 2) (by omega) (pw k).2
    simp only [sx, sy]
    omega

theorem sx_mono (k : Nat) : sx k ≤ sx (k + 1) ∧ sy k ≤ sy (k + 1) := by simp only [sx, sy]; omega
theorem sx_le (k n : Nat) (h : k ≤ n) : sx k ≤ sx n ∧ sy k ≤ sy n := by
  induction n with
  | zero => have : k = 0 := by omega
            subst this; omega
  | succ n ih =>
    have := sx_mono n
    by_cases e : k = n + 1
    · subst e; omega
    · have := ih (by omega); omega

theorem s32 : sx 32 ≤ 200000 ∧ sy 32 ≤ 200000 := by decide +kernel

theorem pt_small (k a : Nat) (h : k ≤ 32) : -200000 ≤ (pt k a).1 ∧ (pt k a).1 ≤ 200000 ∧ -200000 ≤ (pt k a).2 ∧ (pt k a).2 ≤ 200000 := by
  have h1 := pt_bound k a
  have h2 := sx_le k 32 h
  have h3 := s32
  omega

theorem pw_small (k : Nat) (h : k ≤ 32) : -65536 ≤ (pw k).1 ∧ (pw k).1 ≤ 65536 ∧ -65536 ≤ (pw k).2 ∧ (pw k).2 ≤ 65536 := by
  have h0 : ∀ k : Fin 33, -65536 ≤ (pw k.1).1 ∧ (pw k.1).1 ≤ 65536 ∧ -65536 ≤ (pw k.1).2 ∧ (pw k.1).2 ≤ 65536 := by decide +kernel
  exact h0 ⟨k, by omega⟩

theorem half_small (p : Int × Int) (h : -1048578 ≤ p.1 ∧ p.1 ≤ 1048578 ∧ -1048578 ≤ p.2 ∧ p.2 ≤ 1048578) : -1048578 ≤ (half p).1 ∧ (half p).1 ≤ 1048578 ∧ -1048578 ≤ (half p).2 ∧ (half p).2 ≤ 1048578 := by
  have := par_01 p
  unfold half; dsimp only; omega

theorem dvs_small (k : Nat) (p : Int × Int) (h : -1048578 ≤ p.1 ∧ p.1 ≤ 1048578 ∧ -1048578 ≤ p.2 ∧ p.2 ≤ 1048578) : -1048578 ≤ (dvs k p).2.1 ∧ (dvs k p).2.1 ≤ 1048578 ∧ -1048578 ≤ (dvs k p).2.2 ∧ (dvs k p).2.2 ≤ 1048578 := by
  induction k with
  | zero => exact h
  | succ k ih => exact half_small _ ih

def isNear (n : Int) : Bool := decide (-1048576 ≤ n) && decide (n ≤ 1048576)

/-- what is told of a point: its address, and whether it has one -/
def find (p : Int × Int) : Nat × Bool := if (isNear p.1 && isNear p.2) = true then (if (dvs 32 p).2 = (0, 0) then ((dvs 32 p).1, true) else (0, false)) else (0, false)

theorem find_pt (a : Nat) (h : a < 4294967296) : find (pt 32 a) = (a, true) := by
  have hs := pt_small 32 a (by omega)
  have hd := dvs_pt 32 32 a (by omega)
  have hn : (isNear (pt 32 a).1 && isNear (pt 32 a).2) = true := by simp [isNear]; omega
  unfold find
  rw [if_pos hn, hd]
  have e : a % 2 ^ 32 = a := Nat.mod_eq_of_lt h
  rw [if_pos (by rfl), e]

theorem find_back (p : Int × Int) (h : (find p).2 = true) : pt 32 (find p).1 = p := by
  unfold find at h ⊢
  split at h
  · rename_i hn
    rw [if_pos hn]
    split at h
    · rename_i hz
      rw [if_pos hz]
      have hb := dvs_back 32 p
      rw [hz] at hb
      conv => rhs; rw [hb]
      simp [cm]
    · exact absurd h (by decide)
  · exact absurd h (by decide)

theorem find_zero (p : Int × Int) (h : (find p).2 = false) : (find p).1 = 0 := by
  unfold find at h ⊢
  split
  · split
    · rename_i h1 h2; rw [if_pos h1, if_pos h2] at h; cases h
    · rfl
  · rfl

theorem find_lt (p : Int × Int) : (find p).1 < 4294967296 := by
  unfold find
  split
  · split
    · exact dvs_lt 32 p
    · decide
  · decide

/-- doubling an address's bits multiplies its point by the base -/
theorem pt_double (a : Nat) (h : a < 2147483648) : pt 32 (2 * a) = mb (pt 32 a) := by
  have e1 : pt 32 (2 * a) = mb (pt 31 a) := by
    show ((mb (pt 31 (2 * a / 2))).1 + ((2 * a % 2 : Nat) : Int), (mb (pt 31 (2 * a / 2))).2) = _
    rw [show 2 * a / 2 = a from by omega, show 2 * a % 2 = 0 from by omega]
    simp
  have e2 : pt 32 a = pt 31 a := by
    rw [pt_snoc]
    have : a / 2 ^ 31 = 0 := Nat.div_eq_of_lt h
    rw [this]
    simp
  rw [e1, e2]

attribute [irreducible] pt pw dvs sx sy find

end Go.Proofs.Ytpggdofleehmdaa.plane

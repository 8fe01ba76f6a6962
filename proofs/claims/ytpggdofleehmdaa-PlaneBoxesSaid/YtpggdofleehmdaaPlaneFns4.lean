/- What plane.Turn and confluenceref42.Small return. No condition beyond those that each lemma states. -/
import Derived.Test.YtpggdofleehmdaaPlaneFns3
import Derived.Test.YtpggdofleehmdaaKit
namespace Go.Proofs.Ytpggdofleehmdaa.plane
open Go.RowKit Go.Proofs.Ytpggdofleehmdaa.flt
set_option linter.unusedVariables false

/-- turned by a right angle, so many times -/
def rot : Nat → Int × Int → Int × Int
  | 0, p => p
  | k + 1, p => (-(rot k p).2, (rot k p).1)

theorem rot_small (k : Nat) (p : Int × Int) (h : -1048576 ≤ p.1 ∧ p.1 ≤ 1048576 ∧ -1048576 ≤ p.2 ∧ p.2 ≤ 1048576) : -1048576 ≤ (rot k p).1 ∧ (rot k p).1 ≤ 1048576 ∧ -1048576 ≤ (rot k p).2 ∧ (rot k p).2 ≤ 1048576 := by
  induction k with
  | zero => exact h
  | succ k ih => simp only [rot]; omega

/-- how many right angles -/
def ang (t : Int) : Nat := (t % 4).toNat

attribute [irreducible] rot

theorem isF_one : IsF 4607182418800017408 1 2200 := isF_p1

theorem rot_round {x y : Nat} (k : Nat) (p : Int × Int) (h : -1048576 ≤ p.1 ∧ p.1 ≤ 1048576 ∧ -1048576 ≤ p.2 ∧ p.2 ≤ 1048576) (hx : IsF x (rot k p).1 2200) (hy : IsF y (rot k p).2 2200) :
    ∃ re im, cMulBits x y 0 4607182418800017408 = some (re, im) ∧ IsF re (rot (k + 1) p).1 2200 ∧ IsF im (rot (k + 1) p).2 2200 := by
  have hs := rot_small k p h
  obtain ⟨re, im, h1, h2, h3⟩ := cmul_exact hx hy isF_zero isF_p1 (by omega) (by omega) (by omega) (by omega) (by omega) (by omega) (by omega) (by omega)
  refine ⟨re, im, h1, ?_, ?_⟩
  · rw [rot]; rw [show (rot k p).1 * 0 - (rot k p).2 * 1 = -(rot k p).2 from by omega] at h2; exact h2
  · rw [rot]; rw [show (rot k p).1 * 1 + (rot k p).2 * 0 = (rot k p).1 from by omega] at h3; exact h3

theorem turn_near (x y t : Int) (hn : (isNear x && isNear y) = true) (w : World) :
    Calls Try.prog 34 #[.int .i64 x, .int .i64 y, .int .i64 t] w fun e w' => e = .returned (.tuple #[.int .i64 (rot (ang t) (x, y)).1, .int .i64 (rot (ang t) (x, y)).2]) ∧ Below w.heap.size w w' := by
  have hx1 : -1048576 ≤ x ∧ x ≤ 1048576 ∧ -1048576 ≤ y ∧ y ≤ 1048576 := by simp [isNear] at hn; omega
  have Hn := Lib.hid hn
  clear hn
  have hr : -3 ≤ t.tmod 4 ∧ t.tmod 4 ≤ 3 ∧ (t.tmod 4 + 4) % 4 = (ang t : Int) := by
    unfold ang
    have h1 := Int.tmod_def t 4
    have h2 : t.tmod 4 = t % 4 ∨ t.tmod 4 = t % 4 - 4 := by
      rw [Int.tmod_eq_emod]; split <;> simp
    have h3 := Int.emod_nonneg t (show (4 : Int) ≠ 0 by omega)
    have h4 := Int.emod_lt_of_pos t (show (0 : Int) < 4 by omega)
    have h5 : -4 < t.tmod 4 := by
      rcases Int.lt_or_le t 0 with h | h
      · have := Int.lt_tmod_of_pos t (show (0 : Int) < 4 by omega); omega
      · have := Int.tmod_nonneg 4 h; omega
    omega
  have hang : ang t < 4 := by unfold ang; omega
  generalize hm : ang t = m at *
  generalize hq : t.tmod 4 = r at *
  obtain ⟨hr1, hr2, hr3⟩ := hr
  clear hm
  go_enter Try.func34, Try.ntmps34
  go_wp2_with fail
  refine (near_any w.heap.size [x, y] _ (by simp) ?_).mono ?_
  · intro i hi
    have : i = 0 ∨ i = 1 := by simp at hi; omega
    rcases this with rfl | rfl <;> simp
  rintro e w' ⟨rfl, rfl⟩
  have hb : [x, y].all isNear = true := by simpa using Hn.out
  rw [hb]
  clear hb
  go_wp2_with (go_at_call 53; refine (number_any _ _ _).mono ?_; rintro e w' ⟨rfl, rfl⟩)
  rw [hr3]
  go_loop [8, 21] (fun z i => ∃ k : Nat, k ≤ m ∧ i = .int .i64 k ∧ Stands (rot k (x, y)) z) (fun _ i => m - (intOf i).toNat)
  case atStart => exact ⟨0, by omega, rfl, _, _, rfl, by rw [rot]; exact of_int x (by omega), by rw [rot]; exact of_int y (by omega)⟩
  case round =>
    obtain ⟨j, hj, rfl, a, b, rfl, ha, hb⟩ := hrel
    by_cases hlt : j < m
    · obtain ⟨re, im, hm, hre, him⟩ := rot_round j (x, y) (by dsimp only; omega) ha hb
      have m1 := fun w => run_complex_mul (P := Try.prog) w 84 a b _ _ re im hm
      have Hs : Hid (Stands (rot (j + 1) (x, y)) (.complex .f64 re im)) := ⟨_, _, rfl, hre, him⟩
      clear hm hre him ha hb
      go_wp2
      go_round
      case rel => exact ⟨j + 1, by omega, by go_num, Hs.out⟩
      case measure => simp [intOf]; omega
    · obtain rfl : j = m := by omega
      have hs := rot_small j (x, y) (by dsimp only; omega)
      have Hc := Lib.hid (parts_any a b _ _ ha hb ⟨by omega, by omega⟩ ⟨by omega, by omega⟩)
      clear ha hb hs
      go_wp2_with (go_at_call 52; refine (Hc.out _).mono ?_; rintro e w' ⟨rfl, rfl⟩)
      go_ret2
      exact ⟨rfl, (Below.refl _ _).alloc (Nat.le_refl _) _⟩

theorem turn_far (x y t : Int) (hn : (isNear x && isNear y) = false) (w : World) :
    Calls Try.prog 34 #[.int .i64 x, .int .i64 y, .int .i64 t] w fun e w' => e = .returned (.tuple #[.int .i64 0, .int .i64 0]) ∧ Below w.heap.size w w' := by
  have Hn := Lib.hid hn
  clear hn
  go_enter Try.func34, Try.ntmps34
  go_wp2_with fail
  refine (near_any w.heap.size [x, y] _ (by simp) ?_).mono ?_
  · intro i hi
    have : i = 0 ∨ i = 1 := by simp at hi; omega
    rcases this with rfl | rfl <;> simp
  rintro e w' ⟨rfl, rfl⟩
  have hb : [x, y].all isNear = false := by have := Hn.out; simpa using this
  rw [hb]
  clear hb
  go_wp2
  go_ret2
  exact ⟨rfl, (Below.refl _ _).alloc (Nat.le_refl _) _⟩

theorem small_any (n : Int) (w : World) : Calls Try.prog 33 #[.int .i64 n] w fun e w' => e = .returned (.bool (isNear n)) ∧ w = w' := by
  by_cases h1 : -1048576 ≤ n
  · by_cases h2 : n ≤ 1048576
    · go_enter Try.func33, Try.ntmps33
      go_wp2
      go_ret
      exact ⟨by simp [isNear, h1, h2], rfl⟩
    · have e2 : decide (n ≤ 1048576) = false := by simpa using h2
      go_enter Try.func33, Try.ntmps33
      go_wp2
      go_ret
      exact ⟨by simp [isNear, e2], rfl⟩
  · have e1 : decide (-1048576 ≤ n) = false := by simpa using h1
    go_enter Try.func33, Try.ntmps33
    go_wp2
    go_ret
    exact ⟨by simp [isNear, e1], rfl⟩

end Go.Proofs.Ytpggdofleehmdaa.plane

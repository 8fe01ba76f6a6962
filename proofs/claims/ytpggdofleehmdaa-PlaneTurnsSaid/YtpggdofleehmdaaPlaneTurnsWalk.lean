/- The walk of the law PlaneTurns: the Go text returns true and writes nothing that was there. No condition. -/
import Derived.Test.YtpggdofleehmdaaPlaneFns4
namespace Go.Proofs.Ytpggdofleehmdaa.planeTurns
open Go.RowKit Go.Proofs.Ytpggdofleehmdaa.plane Go.Proofs.Ytpggdofleehmdaa.kit
set_option linter.unusedVariables false

theorem size_drewN (w : World) (n : Nat) : (w.drewN n).heap.size = w.heap.size := rfl
theorem after {W w1 : World} {x y u v : Int} (hb1 : Below (((W.alloc (.cells #[.int .i64 x, .int .i64 y] 36)).alloc (.cells #[.int .i64 u, .int .i64 v] 36))).heap.size ((W.alloc (.cells #[.int .i64 x, .int .i64 y] 36)).alloc (.cells #[.int .i64 u, .int .i64 v] 36)) w1) :
    w1.cell? ⟨W.heap.size, 0, none⟩ = some (.int .i64 x) ∧ w1.cell? ⟨W.heap.size, 1, none⟩ = some (.int .i64 y) ∧ w1.cell? ⟨W.heap.size + 1, 0, none⟩ = some (.int .i64 u) ∧ w1.cell? ⟨W.heap.size + 1, 1, none⟩ = some (.int .i64 v) ∧ W.heap.size < w1.heap.size ∧ W.heap.size + 1 < w1.heap.size := by
  have hz := hb1.size
  simp at hz
  refine ⟨?_, ?_, ?_, ?_, by omega, by omega⟩
  · rw [hb1.cell (by simp; omega)]; go_simp
  · rw [hb1.cell (by simp; omega)]; go_simp
  · rw [hb1.cell (by simp)]; go_simp
  · rw [hb1.cell (by simp)]; go_simp

set_option maxRecDepth 100000 in
theorem far_core (x y u v t : Int) (W : World) (hn : (isNear x && isNear y) = false) :
    Calls Try.prog 10 #[.agg #[.int .i64 x, .int .i64 y], .agg #[.int .i64 u, .int .i64 v], .int .i64 t] W fun e w' => e = .returned (.bool true) ∧ Below W.heap.size W w' := by
  have HT := Lib.hid (times_any (x, y) (u, v))
  have hn2 : (isNear x && isNear y && isNear u && isNear v) = false := by rw [hn]; rfl
  dsimp only at HT
  rw [hn2, if_neg (by decide), if_neg (by decide)] at HT
  have HU := Lib.hid (turn_far x y t hn)
  clear hn2
  have he := eqArr2
  by_cases h1 : isNear x = true
  · have h2 : isNear y = false := by rw [h1] at hn; simpa using hn
    have HS1 := Lib.hid (small_any x)
    have HS2 := Lib.hid (small_any y)
    rw [h1] at HS1
    rw [h2] at HS2
    clear h1 h2 hn
    go_enter Try.func10, Try.ntmps10
    go_wp2_with fail
    refine (HT.out _).mono ?_; rintro e w1 ⟨rfl, hb1⟩
    obtain ⟨c0, c1, c2, c3, hz0, hz⟩ := after hb1
    have Hb1 := Lib.hid hb1
    clear hb1
    go_wp2_with fail
    refine (HS1.out _).mono ?_; rintro e w' ⟨rfl, rfl⟩
    go_wp2_with fail
    refine (HS2.out _).mono ?_; rintro e w' ⟨rfl, rfl⟩
    go_wp2_with fail
    refine (HU.out _).mono ?_; rintro e w2 ⟨rfl, hb2⟩
    have e1 : w2.cell? ⟨w1.heap.size, 0, none⟩ = some (.int .i64 0) := by rw [hb2.cell (by simp)]; go_simp
    have e2 : w2.cell? ⟨w1.heap.size, 1, none⟩ = some (.int .i64 0) := by rw [hb2.cell (by simp)]; go_simp
    have Hb2 := Lib.hid hb2
    clear hb2
    go_wp2_with fail
    refine (lives_any _).mono ?_; rintro e w3 ⟨rfl, hb3⟩
    go_wp2_with fail
    go_ret
    have k1 : Below W.heap.size W w1 := (Go.Joins.below_alloc2 W _ _).trans (Hb1.out.mono (by simp; omega))
    have k3 : Below W.heap.size W w2 := (k1.alloc k1.size _).trans (Hb2.out.mono (by simp; omega))
    exact ⟨rfl, k3.trans (hb3.mono k3.size)⟩
  · have h1 : isNear x = false := by simpa using h1
    have HS1 := Lib.hid (small_any x)
    rw [h1] at HS1
    clear h1 hn
    go_enter Try.func10, Try.ntmps10
    go_wp2_with fail
    refine (HT.out _).mono ?_; rintro e w1 ⟨rfl, hb1⟩
    obtain ⟨c0, c1, c2, c3, hz0, hz⟩ := after hb1
    have Hb1 := Lib.hid hb1
    clear hb1
    go_wp2_with fail
    refine (HS1.out _).mono ?_; rintro e w' ⟨rfl, rfl⟩
    go_wp2_with fail
    refine (HU.out _).mono ?_; rintro e w2 ⟨rfl, hb2⟩
    have e1 : w2.cell? ⟨w1.heap.size, 0, none⟩ = some (.int .i64 0) := by rw [hb2.cell (by simp)]; go_simp
    have e2 : w2.cell? ⟨w1.heap.size, 1, none⟩ = some (.int .i64 0) := by rw [hb2.cell (by simp)]; go_simp
    have Hb2 := Lib.hid hb2
    clear hb2
    go_wp2_with fail
    refine (lives_any _).mono ?_; rintro e w3 ⟨rfl, hb3⟩
    go_wp2_with fail
    go_ret
    have k1 : Below W.heap.size W w1 := (Go.Joins.below_alloc2 W _ _).trans (Hb1.out.mono (by simp; omega))
    have k3 : Below W.heap.size W w2 := (k1.alloc k1.size _).trans (Hb2.out.mono (by simp; omega))
    exact ⟨rfl, k3.trans (hb3.mono k3.size)⟩

set_option maxRecDepth 100000 in
theorem near_an (x y u v t : Int) (W : World) (wb : (-9223372036854775808 ≤ u ∧ u ≤ 9223372036854775807) ∧ (-9223372036854775808 ≤ v ∧ v ≤ 9223372036854775807)) (hn : (isNear x && isNear y) = true) (h1 : isNear u = true) (h2 : isNear v = true) (hneg : t.tmod 4 < 0) :
    Calls Try.prog 10 #[.agg #[.int .i64 x, .int .i64 y], .agg #[.int .i64 u, .int .i64 v], .int .i64 t] W fun e w' => e = .returned (.bool true) ∧ Below W.heap.size W w' := by
  have hx1 : -1048576 ≤ x ∧ x ≤ 1048576 ∧ -1048576 ≤ y ∧ y ≤ 1048576 := by simp [isNear] at hn; omega
  have hn1 : isNear x = true := by simp at hn; exact hn.1
  have hn2 : isNear y = true := by simp at hn; exact hn.2
  have HU := Lib.hid (turn_near x y t hn)
  have HV := Lib.hid (turn_near x y 4 hn)
  have h4 : ang 4 = 0 := by decide
  rw [h4, rot] at HV
  dsimp only at HV
  clear h4
  have he := eqArr2
  have HS1 := Lib.hid (small_any x)
  have HS2 := Lib.hid (small_any y)
  rw [hn1] at HS1
  rw [hn2] at HS2
  have hr : -3 ≤ t.tmod 4 ∧ t.tmod 4 ≤ 3 ∧ (t.tmod 4 < 0 → t.tmod 4 + 4 = (ang t : Int)) ∧ (¬ t.tmod 4 < 0 → t.tmod 4 = (ang t : Int)) := by
    unfold ang
    have h2 : t.tmod 4 = t % 4 ∨ t.tmod 4 = t % 4 - 4 := by
      rw [Int.tmod_eq_emod]; split <;> simp
    have h3 := Int.emod_nonneg t (show (4 : Int) ≠ 0 by omega)
    have h4 := Int.emod_lt_of_pos t (show (0 : Int) < 4 by omega)
    have h5 : -4 < t.tmod 4 := by
      rcases Int.lt_or_le t 0 with h | h
      · have := Int.lt_tmod_of_pos t (show (0 : Int) < 4 by omega); omega
      · have := Int.tmod_nonneg 4 h; omega
    omega
  have hang : ang t < 4 := by unfold ang; omega
  generalize ang t = m at *
  obtain ⟨hr1, hr2, hr3, hr4⟩ := hr
  have HT := Lib.hid (times_any (x, y) (u, v))
  dsimp only at HT
  have hp : cm (x, y) (u, v) = (x * u - y * v, x * v + y * u) := rfl
  rw [hn, h1, h2, if_pos (by decide), if_pos (by decide), hp] at HT
  have hu1 : -1048576 ≤ u ∧ u ≤ 1048576 ∧ -1048576 ≤ v ∧ v ≤ 1048576 := by simp [isNear] at h1 h2; omega
  have hprod : ∀ x y : Int, -1048576 ≤ x ∧ x ≤ 1048576 → -1048576 ≤ y ∧ y ≤ 1048576 → -1099511627776 ≤ x * y ∧ x * y ≤ 1099511627776 := by
    intro x y hx hy
    have h1 : (x * y).natAbs ≤ 1048576 * 1048576 := by rw [Int.natAbs_mul]; exact Nat.mul_le_mul (by omega) (by omega)
    omega
  have p1 := hprod x u (by omega) (by omega)
  have p2 := hprod y v (by omega) (by omega)
  have p3 := hprod x v (by omega) (by omega)
  have p4 := hprod y u (by omega) (by omega)
  clear hprod hp
  have HB1 := Lib.hid (small_any u)
  have HB2 := Lib.hid (small_any v)
  rw [h1] at HB1
  rw [h2] at HB2
  clear h1 h2
  clear hn hn1 hn2
  generalize hq : t.tmod 4 = r at *
  have hm : r + 4 = (m : Int) := hr3 hneg
  clear hr3 hr4
  go_enter Try.func10, Try.ntmps10
  go_wp2_with fail
  refine (HT.out _).mono ?_; rintro e w1 ⟨rfl, hb1⟩
  obtain ⟨c0, c1, c2, c3, hz0, hz⟩ := after hb1
  have Hb1 := Lib.hid hb1
  clear hb1
  go_wp2_with fail
  refine (HS1.out _).mono ?_; rintro e w' ⟨rfl, rfl⟩
  go_wp2_with fail
  refine (HS2.out _).mono ?_; rintro e w' ⟨rfl, rfl⟩
  go_wp2_with fail
  go_quiet (fail)
  go_wp2_with fail
  go_loop [12, 13, 14] (fun a b i => ∃ k : Nat, k ≤ m ∧ i = .int .i64 k ∧ a = .int .i64 (rot k (x, y)).1 ∧ b = .int .i64 (rot k (x, y)).2) (fun _ _ i => m - (intOf i).toNat)
  case atStart => exact ⟨0, by omega, rfl, by rw [rot], by rw [rot]⟩
  case round =>
    obtain ⟨k, hk, rfl, rfl, rfl⟩ := hrel
    have hs := rot_small k (x, y) (by dsimp only; omega)
    by_cases hlt : k < m
    · have Hr : Hid (rot (k + 1) (x, y) = (-(rot k (x, y)).2, (rot k (x, y)).1)) := by rw [Hid, rot]
      generalize rot k (x, y) = q at *
      go_wp2
      go_round
      case rel => exact ⟨k + 1, by omega, by go_num, by rw [Hr.out], by rw [Hr.out]⟩
      case measure => simp [intOf]; omega
    · obtain rfl : k = m := by omega
      generalize rot k (x, y) = q at *
      go_wp2_with fail
      refine (HU.out _).mono ?_; rintro e w2 ⟨rfl, hb2⟩
      have d0 : w2.cell? ⟨W.heap.size, 0, none⟩ = some (.int .i64 x) := by rw [hb2.cell (by simp; omega)]; go_simp
      have d1 : w2.cell? ⟨W.heap.size, 1, none⟩ = some (.int .i64 y) := by rw [hb2.cell (by simp; omega)]; go_simp
      have d2 : w2.cell? ⟨W.heap.size + 1, 0, none⟩ = some (.int .i64 u) := by rw [hb2.cell (by simp; omega)]; go_simp
      have d3 : w2.cell? ⟨W.heap.size + 1, 1, none⟩ = some (.int .i64 v) := by rw [hb2.cell (by simp; omega)]; go_simp
      have d4 : w2.cell? ⟨w1.heap.size, 0, none⟩ = some (.int .i64 (x * u - y * v)) := by rw [hb2.cell (by simp)]; go_simp
      have d5 : w2.cell? ⟨w1.heap.size, 1, none⟩ = some (.int .i64 (x * v + y * u)) := by rw [hb2.cell (by simp)]; go_simp
      have z2 := hb2.size
      simp only [World.size_alloc, size_drewN] at z2
      have k1 : Below W.heap.size W w1 := (Go.Joins.below_alloc2 W _ _).trans (Hb1.out.mono (by simp; omega))
      have k2 : Below W.heap.size W w2 := (below_drewN (k1.alloc k1.size _) _).trans (hb2.mono (by simp; omega))
      have K2 := Lib.hid k2
      clear hb2 k1 k2
      go_wp2_with fail
      refine (HV.out _).mono ?_; rintro e w3 ⟨rfl, hb3⟩
      have f0 : w3.cell? ⟨W.heap.size, 0, none⟩ = some (.int .i64 x) := by rw [hb3.cell (by simp; omega)]; go_simp
      have f1 : w3.cell? ⟨W.heap.size, 1, none⟩ = some (.int .i64 y) := by rw [hb3.cell (by simp; omega)]; go_simp
      have f2 : w3.cell? ⟨W.heap.size + 1, 0, none⟩ = some (.int .i64 u) := by rw [hb3.cell (by simp; omega)]; go_simp
      have f3 : w3.cell? ⟨W.heap.size + 1, 1, none⟩ = some (.int .i64 v) := by rw [hb3.cell (by simp; omega)]; go_simp
      have f4 : w3.cell? ⟨w1.heap.size, 0, none⟩ = some (.int .i64 (x * u - y * v)) := by rw [hb3.cell (by simp; omega)]; go_simp
      have f5 : w3.cell? ⟨w1.heap.size, 1, none⟩ = some (.int .i64 (x * v + y * u)) := by rw [hb3.cell (by simp; omega)]; go_simp
      have k3 := K2.out.trans (hb3.mono K2.out.size)
      have K3 := Lib.hid k3
      clear hb3 k3 d0 d1 d2 d3 d4 d5 c0 c1 c2 c3
      go_wp2_with fail
      refine (HB1.out _).mono ?_; rintro e w' ⟨rfl, rfl⟩
      go_wp2_with fail
      refine (HB2.out _).mono ?_; rintro e w' ⟨rfl, rfl⟩
      go_wp2_with fail
      refine (lives_any _).mono ?_; rintro e w4 ⟨rfl, hb4⟩
      go_wp2_with fail
      go_ret
      exact ⟨rfl, K3.out.trans (hb4.mono K3.out.size)⟩
set_option maxRecDepth 100000 in
theorem near_bn (x y u v t : Int) (W : World) (wb : (-9223372036854775808 ≤ u ∧ u ≤ 9223372036854775807) ∧ (-9223372036854775808 ≤ v ∧ v ≤ 9223372036854775807)) (hn : (isNear x && isNear y) = true) (h1 : isNear u = false) (hneg : t.tmod 4 < 0) :
    Calls Try.prog 10 #[.agg #[.int .i64 x, .int .i64 y], .agg #[.int .i64 u, .int .i64 v], .int .i64 t] W fun e w' => e = .returned (.bool true) ∧ Below W.heap.size W w' := by
  have hx1 : -1048576 ≤ x ∧ x ≤ 1048576 ∧ -1048576 ≤ y ∧ y ≤ 1048576 := by simp [isNear] at hn; omega
  have hn1 : isNear x = true := by simp at hn; exact hn.1
  have hn2 : isNear y = true := by simp at hn; exact hn.2
  have HU := Lib.hid (turn_near x y t hn)
  have HV := Lib.hid (turn_near x y 4 hn)
  have h4 : ang 4 = 0 := by decide
  rw [h4, rot] at HV
  dsimp only at HV
  clear h4
  have he := eqArr2
  have HS1 := Lib.hid (small_any x)
  have HS2 := Lib.hid (small_any y)
  rw [hn1] at HS1
  rw [hn2] at HS2
  have hr : -3 ≤ t.tmod 4 ∧ t.tmod 4 ≤ 3 ∧ (t.tmod 4 < 0 → t.tmod 4 + 4 = (ang t : Int)) ∧ (¬ t.tmod 4 < 0 → t.tmod 4 = (ang t : Int)) := by
    unfold ang
    have h2 : t.tmod 4 = t % 4 ∨ t.tmod 4 = t % 4 - 4 := by
      rw [Int.tmod_eq_emod]; split <;> simp
    have h3 := Int.emod_nonneg t (show (4 : Int) ≠ 0 by omega)
    have h4 := Int.emod_lt_of_pos t (show (0 : Int) < 4 by omega)
    have h5 : -4 < t.tmod 4 := by
      rcases Int.lt_or_le t 0 with h | h
      · have := Int.lt_tmod_of_pos t (show (0 : Int) < 4 by omega); omega
      · have := Int.tmod_nonneg 4 h; omega
    omega
  have hang : ang t < 4 := by unfold ang; omega
  generalize ang t = m at *
  obtain ⟨hr1, hr2, hr3, hr4⟩ := hr
  have HT := Lib.hid (times_any (x, y) (u, v))
  dsimp only at HT
  rw [hn, h1, if_neg (by simp), if_neg (by simp)] at HT
  have HB1 := Lib.hid (small_any u)
  rw [h1] at HB1
  clear h1
  clear hn hn1 hn2
  generalize hq : t.tmod 4 = r at *
  have hm : r + 4 = (m : Int) := hr3 hneg
  clear hr3 hr4
  go_enter Try.func10, Try.ntmps10
  go_wp2_with fail
  refine (HT.out _).mono ?_; rintro e w1 ⟨rfl, hb1⟩
  obtain ⟨c0, c1, c2, c3, hz0, hz⟩ := after hb1
  have Hb1 := Lib.hid hb1
  clear hb1
  go_wp2_with fail
  refine (HS1.out _).mono ?_; rintro e w' ⟨rfl, rfl⟩
  go_wp2_with fail
  refine (HS2.out _).mono ?_; rintro e w' ⟨rfl, rfl⟩
  go_wp2_with fail
  go_quiet (fail)
  go_wp2_with fail
  go_loop [12, 13, 14] (fun a b i => ∃ k : Nat, k ≤ m ∧ i = .int .i64 k ∧ a = .int .i64 (rot k (x, y)).1 ∧ b = .int .i64 (rot k (x, y)).2) (fun _ _ i => m - (intOf i).toNat)
  case atStart => exact ⟨0, by omega, rfl, by rw [rot], by rw [rot]⟩
  case round =>
    obtain ⟨k, hk, rfl, rfl, rfl⟩ := hrel
    have hs := rot_small k (x, y) (by dsimp only; omega)
    by_cases hlt : k < m
    · have Hr : Hid (rot (k + 1) (x, y) = (-(rot k (x, y)).2, (rot k (x, y)).1)) := by rw [Hid, rot]
      generalize rot k (x, y) = q at *
      go_wp2
      go_round
      case rel => exact ⟨k + 1, by omega, by go_num, by rw [Hr.out], by rw [Hr.out]⟩
      case measure => simp [intOf]; omega
    · obtain rfl : k = m := by omega
      generalize rot k (x, y) = q at *
      go_wp2_with fail
      refine (HU.out _).mono ?_; rintro e w2 ⟨rfl, hb2⟩
      have d0 : w2.cell? ⟨W.heap.size, 0, none⟩ = some (.int .i64 x) := by rw [hb2.cell (by simp; omega)]; go_simp
      have d1 : w2.cell? ⟨W.heap.size, 1, none⟩ = some (.int .i64 y) := by rw [hb2.cell (by simp; omega)]; go_simp
      have d2 : w2.cell? ⟨W.heap.size + 1, 0, none⟩ = some (.int .i64 u) := by rw [hb2.cell (by simp; omega)]; go_simp
      have d3 : w2.cell? ⟨W.heap.size + 1, 1, none⟩ = some (.int .i64 v) := by rw [hb2.cell (by simp; omega)]; go_simp
      have d4 : w2.cell? ⟨w1.heap.size, 0, none⟩ = some (.int .i64 0) := by rw [hb2.cell (by simp)]; go_simp
      have d5 : w2.cell? ⟨w1.heap.size, 1, none⟩ = some (.int .i64 0) := by rw [hb2.cell (by simp)]; go_simp
      have z2 := hb2.size
      simp only [World.size_alloc, size_drewN] at z2
      have k1 : Below W.heap.size W w1 := (Go.Joins.below_alloc2 W _ _).trans (Hb1.out.mono (by simp; omega))
      have k2 : Below W.heap.size W w2 := (below_drewN (k1.alloc k1.size _) _).trans (hb2.mono (by simp; omega))
      have K2 := Lib.hid k2
      clear hb2 k1 k2
      go_wp2_with fail
      refine (HV.out _).mono ?_; rintro e w3 ⟨rfl, hb3⟩
      have f0 : w3.cell? ⟨W.heap.size, 0, none⟩ = some (.int .i64 x) := by rw [hb3.cell (by simp; omega)]; go_simp
      have f1 : w3.cell? ⟨W.heap.size, 1, none⟩ = some (.int .i64 y) := by rw [hb3.cell (by simp; omega)]; go_simp
      have f2 : w3.cell? ⟨W.heap.size + 1, 0, none⟩ = some (.int .i64 u) := by rw [hb3.cell (by simp; omega)]; go_simp
      have f3 : w3.cell? ⟨W.heap.size + 1, 1, none⟩ = some (.int .i64 v) := by rw [hb3.cell (by simp; omega)]; go_simp
      have f4 : w3.cell? ⟨w1.heap.size, 0, none⟩ = some (.int .i64 0) := by rw [hb3.cell (by simp; omega)]; go_simp
      have f5 : w3.cell? ⟨w1.heap.size, 1, none⟩ = some (.int .i64 0) := by rw [hb3.cell (by simp; omega)]; go_simp
      have k3 := K2.out.trans (hb3.mono K2.out.size)
      have K3 := Lib.hid k3
      clear hb3 k3 d0 d1 d2 d3 d4 d5 c0 c1 c2 c3
      go_wp2_with fail
      refine (HB1.out _).mono ?_; rintro e w' ⟨rfl, rfl⟩
      go_wp2_with fail
      refine (lives_any _).mono ?_; rintro e w4 ⟨rfl, hb4⟩
      go_wp2_with fail
      go_ret
      exact ⟨rfl, K3.out.trans (hb4.mono K3.out.size)⟩
set_option maxRecDepth 100000 in
theorem near_cn (x y u v t : Int) (W : World) (wb : (-9223372036854775808 ≤ u ∧ u ≤ 9223372036854775807) ∧ (-9223372036854775808 ≤ v ∧ v ≤ 9223372036854775807)) (hn : (isNear x && isNear y) = true) (h1 : isNear u = true) (h2 : isNear v = false) (hneg : t.tmod 4 < 0) :
    Calls Try.prog 10 #[.agg #[.int .i64 x, .int .i64 y], .agg #[.int .i64 u, .int .i64 v], .int .i64 t] W fun e w' => e = .returned (.bool true) ∧ Below W.heap.size W w' := by
  have hx1 : -1048576 ≤ x ∧ x ≤ 1048576 ∧ -1048576 ≤ y ∧ y ≤ 1048576 := by simp [isNear] at hn; omega
  have hn1 : isNear x = true := by simp at hn; exact hn.1
  have hn2 : isNear y = true := by simp at hn; exact hn.2
  have HU := Lib.hid (turn_near x y t hn)
  have HV := Lib.hid (turn_near x y 4 hn)
  have h4 : ang 4 = 0 := by decide
  rw [h4, rot] at HV
  dsimp only at HV
  clear h4
  have he := eqArr2
  have HS1 := Lib.hid (small_any x)
  have HS2 := Lib.hid (small_any y)
  rw [hn1] at HS1
  rw [hn2] at HS2
  have hr : -3 ≤ t.tmod 4 ∧ t.tmod 4 ≤ 3 ∧ (t.tmod 4 < 0 → t.tmod 4 + 4 = (ang t : Int)) ∧ (¬ t.tmod 4 < 0 → t.tmod 4 = (ang t : Int)) := by
    unfold ang
    have h2 : t.tmod 4 = t % 4 ∨ t.tmod 4 = t % 4 - 4 := by
      rw [Int.tmod_eq_emod]; split <;> simp
    have h3 := Int.emod_nonneg t (show (4 : Int) ≠ 0 by omega)
    have h4 := Int.emod_lt_of_pos t (show (0 : Int) < 4 by omega)
    have h5 : -4 < t.tmod 4 := by
      rcases Int.lt_or_le t 0 with h | h
      · have := Int.lt_tmod_of_pos t (show (0 : Int) < 4 by omega); omega
      · have := Int.tmod_nonneg 4 h; omega
    omega
  have hang : ang t < 4 := by unfold ang; omega
  generalize ang t = m at *
  obtain ⟨hr1, hr2, hr3, hr4⟩ := hr
  have HT := Lib.hid (times_any (x, y) (u, v))
  dsimp only at HT
  rw [hn, h1, h2, if_neg (by decide), if_neg (by decide)] at HT
  have HB1 := Lib.hid (small_any u)
  have HB2 := Lib.hid (small_any v)
  rw [h1] at HB1
  rw [h2] at HB2
  clear h1 h2
  clear hn hn1 hn2
  generalize hq : t.tmod 4 = r at *
  have hm : r + 4 = (m : Int) := hr3 hneg
  clear hr3 hr4
  go_enter Try.func10, Try.ntmps10
  go_wp2_with fail
  refine (HT.out _).mono ?_; rintro e w1 ⟨rfl, hb1⟩
  obtain ⟨c0, c1, c2, c3, hz0, hz⟩ := after hb1
  have Hb1 := Lib.hid hb1
  clear hb1
  go_wp2_with fail
  refine (HS1.out _).mono ?_; rintro e w' ⟨rfl, rfl⟩
  go_wp2_with fail
  refine (HS2.out _).mono ?_; rintro e w' ⟨rfl, rfl⟩
  go_wp2_with fail
  go_quiet (fail)
  go_wp2_with fail
  go_loop [12, 13, 14] (fun a b i => ∃ k : Nat, k ≤ m ∧ i = .int .i64 k ∧ a = .int .i64 (rot k (x, y)).1 ∧ b = .int .i64 (rot k (x, y)).2) (fun _ _ i => m - (intOf i).toNat)
  case atStart => exact ⟨0, by omega, rfl, by rw [rot], by rw [rot]⟩
  case round =>
    obtain ⟨k, hk, rfl, rfl, rfl⟩ := hrel
    have hs := rot_small k (x, y) (by dsimp only; omega)
    by_cases hlt : k < m
    · have Hr : Hid (rot (k + 1) (x, y) = (-(rot k (x, y)).2, (rot k (x, y)).1)) := by rw [Hid, rot]
      generalize rot k (x, y) = q at *
      go_wp2
      go_round
      case rel => exact ⟨k + 1, by omega, by go_num, by rw [Hr.out], by rw [Hr.out]⟩
      case measure => simp [intOf]; omega
    · obtain rfl : k = m := by omega
      generalize rot k (x, y) = q at *
      go_wp2_with fail
      refine (HU.out _).mono ?_; rintro e w2 ⟨rfl, hb2⟩
      have d0 : w2.cell? ⟨W.heap.size, 0, none⟩ = some (.int .i64 x) := by rw [hb2.cell (by simp; omega)]; go_simp
      have d1 : w2.cell? ⟨W.heap.size, 1, none⟩ = some (.int .i64 y) := by rw [hb2.cell (by simp; omega)]; go_simp
      have d2 : w2.cell? ⟨W.heap.size + 1, 0, none⟩ = some (.int .i64 u) := by rw [hb2.cell (by simp; omega)]; go_simp
      have d3 : w2.cell? ⟨W.heap.size + 1, 1, none⟩ = some (.int .i64 v) := by rw [hb2.cell (by simp; omega)]; go_simp
      have d4 : w2.cell? ⟨w1.heap.size, 0, none⟩ = some (.int .i64 0) := by rw [hb2.cell (by simp)]; go_simp
      have d5 : w2.cell? ⟨w1.heap.size, 1, none⟩ = some (.int .i64 0) := by rw [hb2.cell (by simp)]; go_simp
      have z2 := hb2.size
      simp only [World.size_alloc, size_drewN] at z2
      have k1 : Below W.heap.size W w1 := (Go.Joins.below_alloc2 W _ _).trans (Hb1.out.mono (by simp; omega))
      have k2 : Below W.heap.size W w2 := (below_drewN (k1.alloc k1.size _) _).trans (hb2.mono (by simp; omega))
      have K2 := Lib.hid k2
      clear hb2 k1 k2
      go_wp2_with fail
      refine (HV.out _).mono ?_; rintro e w3 ⟨rfl, hb3⟩
      have f0 : w3.cell? ⟨W.heap.size, 0, none⟩ = some (.int .i64 x) := by rw [hb3.cell (by simp; omega)]; go_simp
      have f1 : w3.cell? ⟨W.heap.size, 1, none⟩ = some (.int .i64 y) := by rw [hb3.cell (by simp; omega)]; go_simp
      have f2 : w3.cell? ⟨W.heap.size + 1, 0, none⟩ = some (.int .i64 u) := by rw [hb3.cell (by simp; omega)]; go_simp
      have f3 : w3.cell? ⟨W.heap.size + 1, 1, none⟩ = some (.int .i64 v) := by rw [hb3.cell (by simp; omega)]; go_simp
      have f4 : w3.cell? ⟨w1.heap.size, 0, none⟩ = some (.int .i64 0) := by rw [hb3.cell (by simp; omega)]; go_simp
      have f5 : w3.cell? ⟨w1.heap.size, 1, none⟩ = some (.int .i64 0) := by rw [hb3.cell (by simp; omega)]; go_simp
      have k3 := K2.out.trans (hb3.mono K2.out.size)
      have K3 := Lib.hid k3
      clear hb3 k3 d0 d1 d2 d3 d4 d5 c0 c1 c2 c3
      go_wp2_with fail
      refine (HB1.out _).mono ?_; rintro e w' ⟨rfl, rfl⟩
      go_wp2_with fail
      refine (HB2.out _).mono ?_; rintro e w' ⟨rfl, rfl⟩
      go_wp2_with fail
      refine (lives_any _).mono ?_; rintro e w4 ⟨rfl, hb4⟩
      go_wp2_with fail
      go_ret
      exact ⟨rfl, K3.out.trans (hb4.mono K3.out.size)⟩
set_option maxRecDepth 100000 in
theorem near_ap (x y u v t : Int) (W : World) (wb : (-9223372036854775808 ≤ u ∧ u ≤ 9223372036854775807) ∧ (-9223372036854775808 ≤ v ∧ v ≤ 9223372036854775807)) (hn : (isNear x && isNear y) = true) (h1 : isNear u = true) (h2 : isNear v = true) (hneg : ¬ t.tmod 4 < 0) :
    Calls Try.prog 10 #[.agg #[.int .i64 x, .int .i64 y], .agg #[.int .i64 u, .int .i64 v], .int .i64 t] W fun e w' => e = .returned (.bool true) ∧ Below W.heap.size W w' := by
  have hx1 : -1048576 ≤ x ∧ x ≤ 1048576 ∧ -1048576 ≤ y ∧ y ≤ 1048576 := by simp [isNear] at hn; omega
  have hn1 : isNear x = true := by simp at hn; exact hn.1
  have hn2 : isNear y = true := by simp at hn; exact hn.2
  have HU := Lib.hid (turn_near x y t hn)
  have HV := Lib.hid (turn_near x y 4 hn)
  have h4 : ang 4 = 0 := by decide
  rw [h4, rot] at HV
  dsimp only at HV
  clear h4
  have he := eqArr2
  have HS1 := Lib.hid (small_any x)
  have HS2 := Lib.hid (small_any y)
  rw [hn1] at HS1
  rw [hn2] at HS2
  have hr : -3 ≤ t.tmod 4 ∧ t.tmod 4 ≤ 3 ∧ (t.tmod 4 < 0 → t.tmod 4 + 4 = (ang t : Int)) ∧ (¬ t.tmod 4 < 0 → t.tmod 4 = (ang t : Int)) := by
    unfold ang
    have h2 : t.tmod 4 = t % 4 ∨ t.tmod 4 = t % 4 - 4 := by
      rw [Int.tmod_eq_emod]; split <;> simp
    have h3 := Int.emod_nonneg t (show (4 : Int) ≠ 0 by omega)
    have h4 := Int.emod_lt_of_pos t (show (0 : Int) < 4 by omega)
    have h5 : -4 < t.tmod 4 := by
      rcases Int.lt_or_le t 0 with h | h
      · have := Int.lt_tmod_of_pos t (show (0 : Int) < 4 by omega); omega
      · have := Int.tmod_nonneg 4 h; omega
    omega
  have hang : ang t < 4 := by unfold ang; omega
  generalize ang t = m at *
  obtain ⟨hr1, hr2, hr3, hr4⟩ := hr
  have HT := Lib.hid (times_any (x, y) (u, v))
  dsimp only at HT
  have hp : cm (x, y) (u, v) = (x * u - y * v, x * v + y * u) := rfl
  rw [hn, h1, h2, if_pos (by decide), if_pos (by decide), hp] at HT
  have hu1 : -1048576 ≤ u ∧ u ≤ 1048576 ∧ -1048576 ≤ v ∧ v ≤ 1048576 := by simp [isNear] at h1 h2; omega
  have hprod : ∀ x y : Int, -1048576 ≤ x ∧ x ≤ 1048576 → -1048576 ≤ y ∧ y ≤ 1048576 → -1099511627776 ≤ x * y ∧ x * y ≤ 1099511627776 := by
    intro x y hx hy
    have h1 : (x * y).natAbs ≤ 1048576 * 1048576 := by rw [Int.natAbs_mul]; exact Nat.mul_le_mul (by omega) (by omega)
    omega
  have p1 := hprod x u (by omega) (by omega)
  have p2 := hprod y v (by omega) (by omega)
  have p3 := hprod x v (by omega) (by omega)
  have p4 := hprod y u (by omega) (by omega)
  clear hprod hp
  have HB1 := Lib.hid (small_any u)
  have HB2 := Lib.hid (small_any v)
  rw [h1] at HB1
  rw [h2] at HB2
  clear h1 h2
  clear hn hn1 hn2
  generalize hq : t.tmod 4 = r at *
  have hm : r = (m : Int) := hr4 hneg
  clear hr3 hr4
  go_enter Try.func10, Try.ntmps10
  go_wp2_with fail
  refine (HT.out _).mono ?_; rintro e w1 ⟨rfl, hb1⟩
  obtain ⟨c0, c1, c2, c3, hz0, hz⟩ := after hb1
  have Hb1 := Lib.hid hb1
  clear hb1
  go_wp2_with fail
  refine (HS1.out _).mono ?_; rintro e w' ⟨rfl, rfl⟩
  go_wp2_with fail
  refine (HS2.out _).mono ?_; rintro e w' ⟨rfl, rfl⟩
  go_wp2_with fail
  go_quiet (fail)
  go_wp2_with fail
  go_loop [12, 13, 14] (fun a b i => ∃ k : Nat, k ≤ m ∧ i = .int .i64 k ∧ a = .int .i64 (rot k (x, y)).1 ∧ b = .int .i64 (rot k (x, y)).2) (fun _ _ i => m - (intOf i).toNat)
  case atStart => exact ⟨0, by omega, rfl, by rw [rot], by rw [rot]⟩
  case round =>
    obtain ⟨k, hk, rfl, rfl, rfl⟩ := hrel
    have hs := rot_small k (x, y) (by dsimp only; omega)
    by_cases hlt : k < m
    · have Hr : Hid (rot (k + 1) (x, y) = (-(rot k (x, y)).2, (rot k (x, y)).1)) := by rw [Hid, rot]
      generalize rot k (x, y) = q at *
      go_wp2
      go_round
      case rel => exact ⟨k + 1, by omega, by go_num, by rw [Hr.out], by rw [Hr.out]⟩
      case measure => simp [intOf]; omega
    · obtain rfl : k = m := by omega
      generalize rot k (x, y) = q at *
      go_wp2_with fail
      refine (HU.out _).mono ?_; rintro e w2 ⟨rfl, hb2⟩
      have d0 : w2.cell? ⟨W.heap.size, 0, none⟩ = some (.int .i64 x) := by rw [hb2.cell (by simp; omega)]; go_simp
      have d1 : w2.cell? ⟨W.heap.size, 1, none⟩ = some (.int .i64 y) := by rw [hb2.cell (by simp; omega)]; go_simp
      have d2 : w2.cell? ⟨W.heap.size + 1, 0, none⟩ = some (.int .i64 u) := by rw [hb2.cell (by simp; omega)]; go_simp
      have d3 : w2.cell? ⟨W.heap.size + 1, 1, none⟩ = some (.int .i64 v) := by rw [hb2.cell (by simp; omega)]; go_simp
      have d4 : w2.cell? ⟨w1.heap.size, 0, none⟩ = some (.int .i64 (x * u - y * v)) := by rw [hb2.cell (by simp)]; go_simp
      have d5 : w2.cell? ⟨w1.heap.size, 1, none⟩ = some (.int .i64 (x * v + y * u)) := by rw [hb2.cell (by simp)]; go_simp
      have z2 := hb2.size
      simp only [World.size_alloc, size_drewN] at z2
      have k1 : Below W.heap.size W w1 := (Go.Joins.below_alloc2 W _ _).trans (Hb1.out.mono (by simp; omega))
      have k2 : Below W.heap.size W w2 := (below_drewN (k1.alloc k1.size _) _).trans (hb2.mono (by simp; omega))
      have K2 := Lib.hid k2
      clear hb2 k1 k2
      go_wp2_with fail
      refine (HV.out _).mono ?_; rintro e w3 ⟨rfl, hb3⟩
      have f0 : w3.cell? ⟨W.heap.size, 0, none⟩ = some (.int .i64 x) := by rw [hb3.cell (by simp; omega)]; go_simp
      have f1 : w3.cell? ⟨W.heap.size, 1, none⟩ = some (.int .i64 y) := by rw [hb3.cell (by simp; omega)]; go_simp
      have f2 : w3.cell? ⟨W.heap.size + 1, 0, none⟩ = some (.int .i64 u) := by rw [hb3.cell (by simp; omega)]; go_simp
      have f3 : w3.cell? ⟨W.heap.size + 1, 1, none⟩ = some (.int .i64 v) := by rw [hb3.cell (by simp; omega)]; go_simp
      have f4 : w3.cell? ⟨w1.heap.size, 0, none⟩ = some (.int .i64 (x * u - y * v)) := by rw [hb3.cell (by simp; omega)]; go_simp
      have f5 : w3.cell? ⟨w1.heap.size, 1, none⟩ = some (.int .i64 (x * v + y * u)) := by rw [hb3.cell (by simp; omega)]; go_simp
      have k3 := K2.out.trans (hb3.mono K2.out.size)
      have K3 := Lib.hid k3
      clear hb3 k3 d0 d1 d2 d3 d4 d5 c0 c1 c2 c3
      go_wp2_with fail
      refine (HB1.out _).mono ?_; rintro e w' ⟨rfl, rfl⟩
      go_wp2_with fail
      refine (HB2.out _).mono ?_; rintro e w' ⟨rfl, rfl⟩
      go_wp2_with fail
      refine (lives_any _).mono ?_; rintro e w4 ⟨rfl, hb4⟩
      go_wp2_with fail
      go_ret
      exact ⟨rfl, K3.out.trans (hb4.mono K3.out.size)⟩
set_option maxRecDepth 100000 in
theorem near_bp (x y u v t : Int) (W : World) (wb : (-9223372036854775808 ≤ u ∧ u ≤ 9223372036854775807) ∧ (-9223372036854775808 ≤ v ∧ v ≤ 9223372036854775807)) (hn : (isNear x && isNear y) = true) (h1 : isNear u = false) (hneg : ¬ t.tmod 4 < 0) :
    Calls Try.prog 10 #[.agg #[.int .i64 x, .int .i64 y], .agg #[.int .i64 u, .int .i64 v], .int .i64 t] W fun e w' => e = .returned (.bool true) ∧ Below W.heap.size W w' := by
  have hx1 : -1048576 ≤ x ∧ x ≤ 1048576 ∧ -1048576 ≤ y ∧ y ≤ 1048576 := by simp [isNear] at hn; omega
  have hn1 : isNear x = true := by simp at hn; exact hn.1
  have hn2 : isNear y = true := by simp at hn; exact hn.2
  have HU := Lib.hid (turn_near x y t hn)
  have HV := Lib.hid (turn_near x y 4 hn)
  have h4 : ang 4 = 0 := by decide
  rw [h4, rot] at HV
  dsimp only at HV
  clear h4
  have he := eqArr2
  have HS1 := Lib.hid (small_any x)
  have HS2 := Lib.hid (small_any y)
  rw [hn1] at HS1
  rw [hn2] at HS2
  have hr : -3 ≤ t.tmod 4 ∧ t.tmod 4 ≤ 3 ∧ (t.tmod 4 < 0 → t.tmod 4 + 4 = (ang t : Int)) ∧ (¬ t.tmod 4 < 0 → t.tmod 4 = (ang t : Int)) := by
    unfold ang
    have h2 : t.tmod 4 = t % 4 ∨ t.tmod 4 = t % 4 - 4 := by
      rw [Int.tmod_eq_emod]; split <;> simp
    have h3 := Int.emod_nonneg t (show (4 : Int) ≠ 0 by omega)
    have h4 := Int.emod_lt_of_pos t (show (0 : Int) < 4 by omega)
    have h5 : -4 < t.tmod 4 := by
      rcases Int.lt_or_le t 0 with h | h
      · have := Int.lt_tmod_of_pos t (show (0 : Int) < 4 by omega); omega
      · have := Int.tmod_nonneg 4 h; omega
    omega
  have hang : ang t < 4 := by unfold ang; omega
  generalize ang t = m at *
  obtain ⟨hr1, hr2, hr3, hr4⟩ := hr
  have HT := Lib.hid (times_any (x, y) (u, v))
  dsimp only at HT
  rw [hn, h1, if_neg (by simp), if_neg (by simp)] at HT
  have HB1 := Lib.hid (small_any u)
  rw [h1] at HB1
  clear h1
  clear hn hn1 hn2
  generalize hq : t.tmod 4 = r at *
  have hm : r = (m : Int) := hr4 hneg
  clear hr3 hr4
  go_enter Try.func10, Try.ntmps10
  go_wp2_with fail
  refine (HT.out _).mono ?_; rintro e w1 ⟨rfl, hb1⟩
  obtain ⟨c0, c1, c2, c3, hz0, hz⟩ := after hb1
  have Hb1 := Lib.hid hb1
  clear hb1
  go_wp2_with fail
  refine (HS1.out _).mono ?_; rintro e w' ⟨rfl, rfl⟩
  go_wp2_with fail
  refine (HS2.out _).mono ?_; rintro e w' ⟨rfl, rfl⟩
  go_wp2_with fail
  go_quiet (fail)
  go_wp2_with fail
  go_loop [12, 13, 14] (fun a b i => ∃ k : Nat, k ≤ m ∧ i = .int .i64 k ∧ a = .int .i64 (rot k (x, y)).1 ∧ b = .int .i64 (rot k (x, y)).2) (fun _ _ i => m - (intOf i).toNat)
  case atStart => exact ⟨0, by omega, rfl, by rw [rot], by rw [rot]⟩
  case round =>
    obtain ⟨k, hk, rfl, rfl, rfl⟩ := hrel
    have hs := rot_small k (x, y) (by dsimp only; omega)
    by_cases hlt : k < m
    · have Hr : Hid (rot (k + 1) (x, y) = (-(rot k (x, y)).2, (rot k (x, y)).1)) := by rw [Hid, rot]
      generalize rot k (x, y) = q at *
      go_wp2
      go_round
      case rel => exact ⟨k + 1, by omega, by go_num, by rw [Hr.out], by rw [Hr.out]⟩
      case measure => simp [intOf]; omega
    · obtain rfl : k = m := by omega
      generalize rot k (x, y) = q at *
      go_wp2_with fail
      refine (HU.out _).mono ?_; rintro e w2 ⟨rfl, hb2⟩
      have d0 : w2.cell? ⟨W.heap.size, 0, none⟩ = some (.int .i64 x) := by rw [hb2.cell (by simp; omega)]; go_simp
      have d1 : w2.cell? ⟨W.heap.size, 1, none⟩ = some (.int .i64 y) := by rw [hb2.cell (by simp; omega)]; go_simp
      have d2 : w2.cell? ⟨W.heap.size + 1, 0, none⟩ = some (.int .i64 u) := by rw [hb2.cell (by simp; omega)]; go_simp
      have d3 : w2.cell? ⟨W.heap.size + 1, 1, none⟩ = some (.int .i64 v) := by rw [hb2.cell (by simp; omega)]; go_simp
      have d4 : w2.cell? ⟨w1.heap.size, 0, none⟩ = some (.int .i64 0) := by rw [hb2.cell (by simp)]; go_simp
      have d5 : w2.cell? ⟨w1.heap.size, 1, none⟩ = some (.int .i64 0) := by rw [hb2.cell (by simp)]; go_simp
      have z2 := hb2.size
      simp only [World.size_alloc, size_drewN] at z2
      have k1 : Below W.heap.size W w1 := (Go.Joins.below_alloc2 W _ _).trans (Hb1.out.mono (by simp; omega))
      have k2 : Below W.heap.size W w2 := (below_drewN (k1.alloc k1.size _) _).trans (hb2.mono (by simp; omega))
      have K2 := Lib.hid k2
      clear hb2 k1 k2
      go_wp2_with fail
      refine (HV.out _).mono ?_; rintro e w3 ⟨rfl, hb3⟩
      have f0 : w3.cell? ⟨W.heap.size, 0, none⟩ = some (.int .i64 x) := by rw [hb3.cell (by simp; omega)]; go_simp
      have f1 : w3.cell? ⟨W.heap.size, 1, none⟩ = some (.int .i64 y) := by rw [hb3.cell (by simp; omega)]; go_simp
      have f2 : w3.cell? ⟨W.heap.size + 1, 0, none⟩ = some (.int .i64 u) := by rw [hb3.cell (by simp; omega)]; go_simp
      have f3 : w3.cell? ⟨W.heap.size + 1, 1, none⟩ = some (.int .i64 v) := by rw [hb3.cell (by simp; omega)]; go_simp
      have f4 : w3.cell? ⟨w1.heap.size, 0, none⟩ = some (.int .i64 0) := by rw [hb3.cell (by simp; omega)]; go_simp
      have f5 : w3.cell? ⟨w1.heap.size, 1, none⟩ = some (.int .i64 0) := by rw [hb3.cell (by simp; omega)]; go_simp
      have k3 := K2.out.trans (hb3.mono K2.out.size)
      have K3 := Lib.hid k3
      clear hb3 k3 d0 d1 d2 d3 d4 d5 c0 c1 c2 c3
      go_wp2_with fail
      refine (HB1.out _).mono ?_; rintro e w' ⟨rfl, rfl⟩
      go_wp2_with fail
      refine (lives_any _).mono ?_; rintro e w4 ⟨rfl, hb4⟩
      go_wp2_with fail
      go_ret
      exact ⟨rfl, K3.out.trans (hb4.mono K3.out.size)⟩
set_option maxRecDepth 100000 in
theorem near_cp (x y u v t : Int) (W : World) (wb : (-9223372036854775808 ≤ u ∧ u ≤ 9223372036854775807) ∧ (-9223372036854775808 ≤ v ∧ v ≤ 9223372036854775807)) (hn : (isNear x && isNear y) = true) (h1 : isNear u = true) (h2 : isNear v = false) (hneg : ¬ t.tmod 4 < 0) :
    Calls Try.prog 10 #[.agg #[.int .i64 x, .int .i64 y], .agg #[.int .i64 u, .int .i64 v], .int .i64 t] W fun e w' => e = .returned (.bool true) ∧ Below W.heap.size W w' := by
  have hx1 : -1048576 ≤ x ∧ x ≤ 1048576 ∧ -1048576 ≤ y ∧ y ≤ 1048576 := by simp [isNear] at hn; omega
  have hn1 : isNear x = true := by simp at hn; exact hn.1
  have hn2 : isNear y = true := by simp at hn; exact hn.2
  have HU := Lib.hid (turn_near x y t hn)
  have HV := Lib.hid (turn_near x y 4 hn)
  have h4 : ang 4 = 0 := by decide
  rw [h4, rot] at HV
  dsimp only at HV
  clear h4
  have he := eqArr2
  have HS1 := Lib.hid (small_any x)
  have HS2 := Lib.hid (small_any y)
  rw [hn1] at HS1
  rw [hn2] at HS2
  have hr : -3 ≤ t.tmod 4 ∧ t.tmod 4 ≤ 3 ∧ (t.tmod 4 < 0 → t.tmod 4 + 4 = (ang t : Int)) ∧ (¬ t.tmod 4 < 0 → t.tmod 4 = (ang t : Int)) := by
    unfold ang
    have h2 : t.tmod 4 = t % 4 ∨ t.tmod 4 = t % 4 - 4 := by
      rw [Int.tmod_eq_emod]; split <;> simp
    have h3 := Int.emod_nonneg t (show (4 : Int) ≠ 0 by omega)
    have h4 := Int.emod_lt_of_pos t (show (0 : Int) < 4 by omega)
    have h5 : -4 < t.tmod 4 := by
      rcases Int.lt_or_le t 0 with h | h
      · have := Int.lt_tmod_of_pos t (show (0 : Int) < 4 by omega); omega
      · have := Int.tmod_nonneg 4 h; omega
    omega
  have hang : ang t < 4 := by unfold ang; omega
  generalize ang t = m at *
  obtain ⟨hr1, hr2, hr3, hr4⟩ := hr
  have HT := Lib.hid (times_any (x, y) (u, v))
  dsimp only at HT
  rw [hn, h1, h2, if_neg (by decide), if_neg (by decide)] at HT
  have HB1 := Lib.hid (small_any u)
  have HB2 := Lib.hid (small_any v)
  rw [h1] at HB1
  rw [h2] at HB2
  clear h1 h2
  clear hn hn1 hn2
  generalize hq : t.tmod 4 = r at *
  have hm : r = (m : Int) := hr4 hneg
  clear hr3 hr4
  go_enter Try.func10, Try.ntmps10
  go_wp2_with fail
  refine (HT.out _).mono ?_; rintro e w1 ⟨rfl, hb1⟩
  obtain ⟨c0, c1, c2, c3, hz0, hz⟩ := after hb1
  have Hb1 := Lib.hid hb1
  clear hb1
  go_wp2_with fail
  refine (HS1.out _).mono ?_; rintro e w' ⟨rfl, rfl⟩
  go_wp2_with fail
  refine (HS2.out _).mono ?_; rintro e w' ⟨rfl, rfl⟩
  go_wp2_with fail
  go_quiet (fail)
  go_wp2_with fail
  go_loop [12, 13, 14] (fun a b i => ∃ k : Nat, k ≤ m ∧ i = .int .i64 k ∧ a = .int .i64 (rot k (x, y)).1 ∧ b = .int .i64 (rot k (x, y)).2) (fun _ _ i => m - (intOf i).toNat)
  case atStart => exact ⟨0, by omega, rfl, by rw [rot], by rw [rot]⟩
  case round =>
    obtain ⟨k, hk, rfl, rfl, rfl⟩ := hrel
    have hs := rot_small k (x, y) (by dsimp only; omega)
    by_cases hlt : k < m
    · have Hr : Hid (rot (k + 1) (x, y) = (-(rot k (x, y)).2, (rot k (x, y)).1)) := by rw [Hid, rot]
      generalize rot k (x, y) = q at *
      go_wp2
      go_round
      case rel => exact ⟨k + 1, by omega, by go_num, by rw [Hr.out], by rw [Hr.out]⟩
      case measure => simp [intOf]; omega
    · obtain rfl : k = m := by omega
      generalize rot k (x, y) = q at *
      go_wp2_with fail
      refine (HU.out _).mono ?_; rintro e w2 ⟨rfl, hb2⟩
      have d0 : w2.cell? ⟨W.heap.size, 0, none⟩ = some (.int .i64 x) := by rw [hb2.cell (by simp; omega)]; go_simp
      have d1 : w2.cell? ⟨W.heap.size, 1, none⟩ = some (.int .i64 y) := by rw [hb2.cell (by simp; omega)]; go_simp
      have d2 : w2.cell? ⟨W.heap.size + 1, 0, none⟩ = some (.int .i64 u) := by rw [hb2.cell (by simp; omega)]; go_simp
      have d3 : w2.cell? ⟨W.heap.size + 1, 1, none⟩ = some (.int .i64 v) := by rw [hb2.cell (by simp; omega)]; go_simp
      have d4 : w2.cell? ⟨w1.heap.size, 0, none⟩ = some (.int .i64 0) := by rw [hb2.cell (by simp)]; go_simp
      have d5 : w2.cell? ⟨w1.heap.size, 1, none⟩ = some (.int .i64 0) := by rw [hb2.cell (by simp)]; go_simp
      have z2 := hb2.size
      simp only [World.size_alloc, size_drewN] at z2
      have k1 : Below W.heap.size W w1 := (Go.Joins.below_alloc2 W _ _).trans (Hb1.out.mono (by simp; omega))
      have k2 : Below W.heap.size W w2 := (below_drewN (k1.alloc k1.size _) _).trans (hb2.mono (by simp; omega))
      have K2 := Lib.hid k2
      clear hb2 k1 k2
      go_wp2_with fail
      refine (HV.out _).mono ?_; rintro e w3 ⟨rfl, hb3⟩
      have f0 : w3.cell? ⟨W.heap.size, 0, none⟩ = some (.int .i64 x) := by rw [hb3.cell (by simp; omega)]; go_simp
      have f1 : w3.cell? ⟨W.heap.size, 1, none⟩ = some (.int .i64 y) := by rw [hb3.cell (by simp; omega)]; go_simp
      have f2 : w3.cell? ⟨W.heap.size + 1, 0, none⟩ = some (.int .i64 u) := by rw [hb3.cell (by simp; omega)]; go_simp
      have f3 : w3.cell? ⟨W.heap.size + 1, 1, none⟩ = some (.int .i64 v) := by rw [hb3.cell (by simp; omega)]; go_simp
      have f4 : w3.cell? ⟨w1.heap.size, 0, none⟩ = some (.int .i64 0) := by rw [hb3.cell (by simp; omega)]; go_simp
      have f5 : w3.cell? ⟨w1.heap.size, 1, none⟩ = some (.int .i64 0) := by rw [hb3.cell (by simp; omega)]; go_simp
      have k3 := K2.out.trans (hb3.mono K2.out.size)
      have K3 := Lib.hid k3
      clear hb3 k3 d0 d1 d2 d3 d4 d5 c0 c1 c2 c3
      go_wp2_with fail
      refine (HB1.out _).mono ?_; rintro e w' ⟨rfl, rfl⟩
      go_wp2_with fail
      refine (HB2.out _).mono ?_; rintro e w' ⟨rfl, rfl⟩
      go_wp2_with fail
      refine (lives_any _).mono ?_; rintro e w4 ⟨rfl, hb4⟩
      go_wp2_with fail
      go_ret
      exact ⟨rfl, K3.out.trans (hb4.mono K3.out.size)⟩
set_option maxRecDepth 100000 in
theorem walk {H : Type} {enc : TypeId × Value → H} {W : World} {base : Nat} {v0 v1 : Value} {d0 d1 : DataW H} {p0 p1 : List MemPlace}
    (hv0 : Value.okWide Try.prog W .any base 36 v0) (h0 : DataW.Trod enc Try.prog W 0 (fun _ => true) true 36 v0 d0 p0) (hv1 : Value.okWide Try.prog W .any base 36 v1) (h1 : DataW.Trod enc Try.prog W 0 (fun _ => true) true 36 v1 d1 p1) (a2 : Int) (w2 : (Lit.int .i64 a2).wf = true) :
    Calls Try.prog 10 #[v0, v1, .int .i64 a2] W fun e w' => e = .returned (.bool true) ∧ Below W.heap.size W w' := by
  obtain ⟨x, y, rfl, wx, wy⟩ := open_arr2 Try.underlying36 Try.underlying3 (by kernel_rfl) (by kernel_rfl) hv0 h0
  obtain ⟨u, v, rfl, wu, wv⟩ := open_arr2 Try.underlying36 Try.underlying3 (by kernel_rfl) (by kernel_rfl) hv1 h1
  have wb := And.intro (wf_i64 wu) (wf_i64 wv)
  by_cases hn : (isNear x && isNear y) = true
  · by_cases hneg : a2.tmod 4 < 0
    · by_cases hu : isNear u = true
      · by_cases hv : isNear v = true
        · exact near_an x y u v a2 W wb hn hu hv hneg
        · exact near_cn x y u v a2 W wb hn hu (by simpa using hv) hneg
      · exact near_bn x y u v a2 W wb hn (by simpa using hu) hneg
    · by_cases hu : isNear u = true
      · by_cases hv : isNear v = true
        · exact near_ap x y u v a2 W wb hn hu hv hneg
        · exact near_cp x y u v a2 W wb hn hu (by simpa using hv) hneg
      · exact near_bp x y u v a2 W wb hn (by simpa using hu) hneg
  · exact far_core x y u v a2 W (by simpa using hn)
end Go.Proofs.Ytpggdofleehmdaa.planeTurns

/- What plane.Power and plane.Times return. No condition beyond those that each lemma states. -/
import Derived.Test.YtpggdofleehmdaaPlaneFns
namespace Go.Proofs.Ytpggdofleehmdaa.plane
open Go.RowKit Go.Proofs.Ytpggdofleehmdaa.flt
set_option linter.unusedVariables false

theorem quiet_eq {P : Program} {f : FuncId} {args : Array Value} {w : World} {n : Nat} {v : Value}
    (h : Calls P f args (w.drewN n) fun e w' => e = .returned v ∧ w.drewN n = w') : Calls P f args (w.drewN n) fun e w'' => e = .returned v ∧ ∃ m, w'' = w.drewN m :=
  h.mono fun _ _ ⟨he, hm⟩ => ⟨he, n, hm.symm⟩

def clamp (k : Int) : Nat := if k < 0 then 0 else if 32 < k then 32 else k.toNat

theorem power_round {x y : Nat} (k : Nat) (hk : k ≤ 31) (hx : IsF x (pw k).1 2200) (hy : IsF y (pw k).2 2200) :
    ∃ re im, cMulBits x y 13830554455654793216 4607182418800017408 = some (re, im) ∧ IsF re (pw (k + 1)).1 2200 ∧ IsF im (pw (k + 1)).2 2200 := by
  have hs := pw_small k (by omega)
  obtain ⟨re, im, h1, h2, h3⟩ := step_base hx hy (by omega)
  exact ⟨re, im, h1, by rw [pw]; exact h2, by rw [pw]; exact h3⟩

theorem isF_pw0 : IsF 4607182418800017408 (pw 0).1 2200 ∧ IsF 0 (pw 0).2 2200 := by
  rw [pw]; exact ⟨isF_p1, isF_zero⟩

theorem power_any (k : Int) (w : World) :
    Calls Try.prog 24 #[.int .i64 k] w fun e w' => e = .returned (.tuple #[.int .i64 (pw (clamp k)).1, .int .i64 (pw (clamp k)).2]) ∧ w = w' := by
  by_cases h0 : k < 0
  · have hcl : clamp k = 0 := by unfold clamp; rw [if_pos h0]
    have hq := isF_pw0
    rw [hcl]
    have Hc := Lib.hid (parts_any 4607182418800017408 0 _ _ hq.1 hq.2 (by rw [pw]; decide) (by rw [pw]; decide))
    clear hcl hq
    go_enter Try.func24, Try.ntmps24
    go_wp2_with fail
    go_loop [4, 8] (fun z i => z = .complex .f64 4607182418800017408 0 ∧ i = .int .i64 0) (fun _ i => 0)
    case atStart => exact ⟨rfl, rfl⟩
    case round =>
      obtain ⟨rfl, rfl⟩ := hrel
      go_wp2_with (go_at_call 52; refine (Hc.out _).mono ?_; rintro e w' ⟨rfl, rfl⟩)
      go_ret2
      exact ⟨rfl, rfl⟩
  · by_cases h32 : 32 < k
    · have hcl : clamp k = 32 := by unfold clamp; rw [if_neg h0, if_pos h32]
      rw [hcl]
      clear hcl
      go_enter Try.func24, Try.ntmps24
      go_wp2_with fail
      go_loop [4, 8] (fun z i => ∃ k : Nat, k ≤ 32 ∧ i = .int .i64 k ∧ Stands (pw k) z) (fun _ i => 32 - (intOf i).toNat)
      case atStart => exact ⟨0, by omega, rfl, _, _, rfl, isF_pw0.1, isF_pw0.2⟩
      case round =>
        obtain ⟨j, hj, rfl, x, y, rfl, hx, hy⟩ := hrel
        by_cases hlt : j < 32
        · obtain ⟨re, im, hm, hre, him⟩ := power_round j (by omega) hx hy
          have m1 := fun w => run_complex_mul (P := Try.prog) w 84 x y _ _ re im hm
          have Hs : Hid (Stands (pw (j + 1)) (.complex .f64 re im)) := ⟨_, _, rfl, hre, him⟩
          clear hm hre him hx hy
          go_wp2
          go_round
          case rel => exact ⟨j + 1, by omega, by go_num, Hs.out⟩
          case measure => simp [intOf]; omega
        · obtain rfl : j = 32 := by omega
          have hs := pw_small 32 (by omega)
          have Hc := Lib.hid (parts_any x y _ _ hx hy ⟨by omega, by omega⟩ ⟨by omega, by omega⟩)
          clear hx hy hs
          go_wp2_with (go_at_call 52; refine (Hc.out _).mono ?_; rintro e w' ⟨rfl, rfl⟩)
          go_ret2
          exact ⟨rfl, rfl⟩
    · obtain ⟨n, rfl⟩ := Int.eq_ofNat_of_zero_le (show 0 ≤ k by omega)
      have hcl : clamp (n : Int) = n := by unfold clamp; rw [if_neg h0, if_neg h32]; omega
      rw [hcl]
      clear hcl
      go_enter Try.func24, Try.ntmps24
      go_wp2_with fail
      go_loop [4, 8] (fun z i => ∃ k : Nat, k ≤ n ∧ i = .int .i64 k ∧ Stands (pw k) z) (fun _ i => n - (intOf i).toNat)
      case atStart => exact ⟨0, by omega, rfl, _, _, rfl, isF_pw0.1, isF_pw0.2⟩
      case round =>
        obtain ⟨j, hj, rfl, x, y, rfl, hx, hy⟩ := hrel
        by_cases hlt : j < n
        · obtain ⟨re, im, hm, hre, him⟩ := power_round j (by omega) hx hy
          have m1 := fun w => run_complex_mul (P := Try.prog) w 84 x y _ _ re im hm
          have Hs : Hid (Stands (pw (j + 1)) (.complex .f64 re im)) := ⟨_, _, rfl, hre, him⟩
          clear hm hre him hx hy
          go_wp2
          go_round
          case rel => exact ⟨j + 1, by omega, by go_num, Hs.out⟩
          case measure => simp [intOf]; omega
        · obtain rfl : j = n := by omega
          have hs := pw_small j (by omega)
          have Hc := Lib.hid (parts_any x y _ _ hx hy ⟨by omega, by omega⟩ ⟨by omega, by omega⟩)
          clear hx hy hs
          go_wp2_with (go_at_call 52; refine (Hc.out _).mono ?_; rintro e w' ⟨rfl, rfl⟩)
          go_ret2
          exact ⟨rfl, rfl⟩

theorem times_any (a b : Int × Int) (w : World) :
    Calls Try.prog 26 #[.agg #[.int .i64 a.1, .int .i64 a.2], .agg #[.int .i64 b.1, .int .i64 b.2]] w fun e w' => e = .returned (.tuple #[.agg #[.int .i64 (if (isNear a.1 && isNear a.2 && isNear b.1 && isNear b.2) = true then (cm a b).1 else 0), .int .i64 (if (isNear a.1 && isNear a.2 && isNear b.1 && isNear b.2) = true then (cm a b).2 else 0)], .bool (isNear a.1 && isNear a.2 && isNear b.1 && isNear b.2)]) ∧ Below w.heap.size w w' := by
  obtain ⟨a1, a2⟩ := a
  obtain ⟨b1, b2⟩ := b
  dsimp only
  by_cases hn : (isNear a1 && isNear a2 && isNear b1 && isNear b2) = true
  · rw [if_pos hn, if_pos hn, hn]
    have hl : [a1, a2, b1, b2].all isNear = true := by simp at hn ⊢; simp [hn]
    have hb : (-1048576 ≤ a1 ∧ a1 ≤ 1048576 ∧ -1048576 ≤ a2 ∧ a2 ≤ 1048576) ∧ (-1048576 ≤ b1 ∧ b1 ≤ 1048576 ∧ -1048576 ≤ b2 ∧ b2 ≤ 1048576) := by simp [isNear] at hn; omega
    clear hn
    have HL := Lib.hid hl
    clear hl
    have hprod : ∀ x y : Int, -1048576 ≤ x ∧ x ≤ 1048576 → -1048576 ≤ y ∧ y ≤ 1048576 → -1099511627776 ≤ x * y ∧ x * y ≤ 1099511627776 := by
      intro x y hx hy
      have h1 : (x * y).natAbs ≤ 1048576 * 1048576 := by rw [Int.natAbs_mul]; exact Nat.mul_le_mul (by omega) (by omega)
      omega
    have p1 := hprod a1 b1 (by omega) (by omega)
    have p2 := hprod a2 b2 (by omega) (by omega)
    have p3 := hprod a1 b2 (by omega) (by omega)
    have p4 := hprod a2 b1 (by omega) (by omega)
    clear hprod
    obtain ⟨re, im, hm, hre, him⟩ := cmul_exact (of_int a1 (by omega)) (of_int a2 (by omega)) (of_int b1 (by omega)) (of_int b2 (by omega)) (by omega) (by omega) (by omega) (by omega) (by omega) (by omega) (by omega) (by omega)
    have m1 := fun w => run_complex_mul (P := Try.prog) w 84 _ _ _ _ re im hm
    have Hc := Lib.hid (parts_any re im _ _ hre him ⟨by omega, by omega⟩ ⟨by omega, by omega⟩)
    have Hcm : Hid (cm (a1, a2) (b1, b2) = (a1 * b1 - a2 * b2, a1 * b2 + a2 * b1)) := rfl
    clear hm hre him p1 p2 p3 p4 hb
    generalize a1 * b1 - a2 * b2 = g1 at *
    generalize a1 * b2 + a2 * b1 = g2 at *
    rw [Hcm.out]
    clear Hcm
    go_enter Try.func26, Try.ntmps26
    go_wp2_with fail
    refine (near_any _ [a1, a2, b1, b2] _ (by simp) ?_).mono ?_
    rotate_left
    rintro e w' ⟨rfl, rfl⟩
    rw [HL.out]
    go_wp2_with fail
    go_quiet ((first | (go_at_call 53; exact quiet_eq (number_any _ _ _)) | (go_at_call 52; exact quiet_eq (Hc.out _))))
    go_wp2
    refine bodyPost_ret (v := .tuple #[.agg #[.int .i64 g1, .int .i64 g2], .bool true]) (by simp [results, Try.results26, go_sem]) rfl ⟨rfl, ?_⟩
    · repeat (first | exact Below.refl _ _ | refine Below.drew ?_ | refine below_drewN ?_ _ | refine Below.alloc ?_ (by simp <;> omega) _ | refine Below.setCell ?_ (by simp <;> omega) _)
    · intro i hi
      have : i = 0 ∨ i = 1 ∨ i = 2 ∨ i = 3 := by simp at hi; omega
      rcases this with rfl | rfl | rfl | rfl <;> go_simp
  · rw [if_neg hn, if_neg hn, (by simpa using hn : (isNear a1 && isNear a2 && isNear b1 && isNear b2) = false)]
    have hl : [a1, a2, b1, b2].all isNear = false := by
      have : [a1, a2, b1, b2].all isNear = (isNear a1 && isNear a2 && isNear b1 && isNear b2) := by simp [Bool.and_assoc]
      rw [this]; simpa using hn
    clear hn
    have HL := Lib.hid hl
    clear hl
    go_enter Try.func26, Try.ntmps26
    go_wp2_with fail
    refine (near_any _ [a1, a2, b1, b2] _ (by simp) ?_).mono ?_
    rotate_left
    rintro e w' ⟨rfl, rfl⟩
    rw [HL.out]
    go_wp2_with fail
    refine bodyPost_ret (v := .tuple #[.agg #[.int .i64 0, .int .i64 0], .bool false]) (by simp [results, Try.results26, go_sem]) rfl ⟨rfl, ?_⟩
    · repeat (first | exact Below.refl _ _ | refine Below.drew ?_ | refine below_drewN ?_ _ | refine Below.alloc ?_ (by simp <;> omega) _ | refine Below.setCell ?_ (by simp <;> omega) _)
    · intro i hi
      have : i = 0 ∨ i = 1 ∨ i = 2 ∨ i = 3 := by simp at hi; omega
      rcases this with rfl | rfl | rfl | rfl <;> go_simp
end Go.Proofs.Ytpggdofleehmdaa.plane

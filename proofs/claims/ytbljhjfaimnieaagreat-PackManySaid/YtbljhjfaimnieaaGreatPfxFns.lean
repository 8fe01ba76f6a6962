/- What prefix.mask, prefix.good and prefix.Good return. No condition beyond those that each lemma states. -/
import Derived.Test.YtbljhjfaimnieaaGreatRows
import Derived.Test.YtbljhjfaimnieaaGreatPfxMath
import Derived.Test.YtbljhjfaimnieaaGreatGround
namespace Go.Proofs.YtbljhjfaimnieaaGreat.pfx
open Go.RowKit Go.Proofs.YtbljhjfaimnieaaGreat.kit
set_option linter.unusedVariables false

theorem mask_any (n : Nat) (hn : n ≤ 32) (w : World) : Calls Tryz.prog 106 #[.int .i64 n] w fun e w' => e = .returned (.int .u32 (maskv n : Int)) ∧ w = w' := by
  have Hm := Lib.hid (mask_val n hn)
  go_enter Tryz.func106, Tryz.ntmps106
  go_wp2
  go_ret
  refine ⟨ret_int ?_, rfl⟩
  rw [← Hm.out]
  rw [IntKind.wrap_u64]
  simp

theorem good_in (a : Nat) (n : Int) (ha : a < 4294967296) (w : World) : Calls Tryz.prog 84 #[.agg #[.int .u32 a, .int .i64 n]] w fun e w' => e = .returned (.bool (goodB a n)) ∧ Below w.heap.size w w' := by
  by_cases h1 : 0 ≤ n
  · by_cases h2 : n ≤ 32
    · obtain ⟨k, rfl⟩ := Int.eq_ofNat_of_zero_le h1
      have Hg : Hid (goodB a (k : Int) = (((a % 2 ^ (32 - k) : Nat) : Int) == 0)) := by
        rw [Hid, Bool.eq_iff_iff, goodB_iff, Int.toNat_natCast]
        generalize a % 2 ^ (32 - k) = r
        rw [beq_iff_eq]; omega
      have hand := andNot_mask a k ha
      generalize a % 2 ^ (32 - k) = r at *
      have d1 : decide ((0 : Int) ≤ (k : Int)) = true := by simp
      have d2 : decide ((k : Int) ≤ 32) = true := by simpa using h2
      have Hm := Lib.hid (mask_any k (by omega))
      generalize maskv k = m at *
      go_enter Tryz.func84, Tryz.ntmps84
      go_wp2_with fail
      go_quiet ((go_at_call 106; exact quiet_eq (Hm.out _)))
      go_wp2
      go_ret
      exact ⟨by rw [Hg.out]; rfl, below_drewN ((Below.refl _ _).alloc (Nat.le_refl _) _) _⟩
    · have d1 : decide (0 ≤ n) = true := by simpa using h1
      have d2 : decide (n ≤ 32) = false := by simpa using h2
      have Hg : Hid (goodB a n = false) := by rw [Hid]; rw [Bool.eq_false_iff, Ne, goodB_iff]; omega
      go_enter Tryz.func84, Tryz.ntmps84
      go_wp2_with fail
      go_quiet (fail)
      go_wp2
      go_ret
      exact ⟨by rw [Hg.out]; rfl, below_drewN ((Below.refl _ _).alloc (Nat.le_refl _) _) _⟩
  · have d1 : decide (0 ≤ n) = false := by simpa using h1
    have Hg : Hid (goodB a n = false) := by rw [Hid]; rw [Bool.eq_false_iff, Ne, goodB_iff]; omega
    go_enter Tryz.func84, Tryz.ntmps84
    go_wp2_with fail
    go_quiet (fail)
    go_wp2
    go_ret
    exact ⟨by rw [Hg.out]; rfl, below_drewN ((Below.refl _ _).alloc (Nat.le_refl _) _) _⟩

theorem good_any (a : Nat) (n : Int) (ha : a < 4294967296) (w : World) : Calls Tryz.prog 59 #[.agg #[.int .u32 a, .int .i64 n]] w fun e w' => e = .returned (.bool (goodB a n)) ∧ Below w.heap.size w w' := by
  go_enter Tryz.func59, Tryz.ntmps59
  go_wp2_with fail
  refine (good_in a n ha _).mono ?_; rintro e w1 ⟨rfl, hb1⟩
  go_wp2_with fail
  go_ret
  exact ⟨rfl, ((Below.refl _ _).alloc (Nat.le_refl _) _).trans (hb1.mono (by simp))⟩

end Go.Proofs.YtbljhjfaimnieaaGreat.pfx

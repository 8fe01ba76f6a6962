/- What confluenceref01's Bit, Cut and Good return. No condition beyond those that each lemma states. -/
import Derived.Test.YtbljhjfaimnieaaGreatRows
import Derived.Test.YtbljhjfaimnieaaGreatPfxMath
import Derived.Test.YtbljhjfaimnieaaGreatGround
namespace Go.Proofs.YtbljhjfaimnieaaGreat.pfx
open Go.RowKit Go.Proofs.YtbljhjfaimnieaaGreat.kit
set_option linter.unusedVariables false

theorem ref_Bit (a i : Nat) (ha : a < 4294967296) (hi : i < 32) (w : World) : Calls Tryz.prog 85 #[.int .u32 a, .int .i64 i] w fun e w' => e = .returned (.int .i64 ((a / 2 ^ (31 - i) % 2 : Nat) : Int)) ∧ w = w' := by
  go_enter Tryz.func85, Tryz.ntmps85
  go_wp2_with fail
  go_loop [0, 5] (fun u k => ∃ j : Nat, j ≤ 31 ∧ i ≤ j ∧ k = .int .i64 j ∧ u = .int .u32 ((a / 2 ^ (31 - j) : Nat) : Int)) (fun _ k => (intOf k).toNat)
  case atStart => exact ⟨31, by omega, by omega, rfl, by simp⟩
  case round =>
    obtain ⟨j, h1, h2, rfl, rfl⟩ := hrel
    have hle : a / 2 ^ (31 - j) ≤ a := Nat.div_le_self _ _
    by_cases hlt : i < j
    · have Hd : Hid (a / 2 ^ (31 - (j - 1)) = a / 2 ^ (31 - j) / 2) := by
        rw [Hid, Nat.div_div_eq_div_mul, ← Nat.pow_succ]; congr 2; omega
      generalize a / 2 ^ (31 - j) = u at *
      go_wp2
      go_round
      case rel => exact ⟨j - 1, by omega, by omega, by congr 1; omega, by rw [Hd.out]; simp⟩
      case measure => simp [intOf]; omega
    · obtain rfl : i = j := by omega
      generalize hu : a / 2 ^ (31 - i) = u at *
      have Hu := Lib.hid hu
      clear hu
      go_wp2
      go_ret
      exact ⟨ret_int (by rw [← Hu.out]; simp), rfl⟩

theorem ref_Cut (a n : Nat) (ha : a < 4294967296) (hn : n ≤ 32) (w : World) : Calls Tryz.prog 60 #[.int .u32 a, .int .i64 n] w fun e w' => e = .returned (.int .u32 (cutv a n : Int)) ∧ w = w' := by
  go_enter Tryz.func60, Tryz.ntmps60
  go_wp2_with fail
  go_loop [5, 6] (fun u k => ∃ i : Nat, i ≤ 32 ∧ k = .int .i64 i ∧ u = .int .u32 ((cutv a n / 2 ^ (32 - i) : Nat) : Int)) (fun _ k => 32 - (intOf k).toNat)
  case atStart => exact ⟨0, by omega, rfl, by rw [cut_start a n ha]; rfl⟩
  case round =>
    obtain ⟨i, h1, rfl, rfl⟩ := hrel
    by_cases hlt : i < 32
    · have Hs := Lib.hid (cut_step a n i hn hlt)
      have hle : cutv a n / 2 ^ (32 - i) * 2 < 4294967296 := by
        have hs := Hs.out
        have : cutv a n / 2 ^ (32 - (i + 1)) ≤ cutv a n := Nat.div_le_self _ _
        have := cutv_le a n
        omega
      generalize hu : cutv a n / 2 ^ (32 - i) = u at *
      clear hu
      by_cases hin : i < n
      · have Hb := Lib.hid (ref_Bit a i ha hlt)
        have hb2 : a / 2 ^ (31 - i) % 2 < 2 := Nat.mod_lt _ (by omega)
        generalize a / 2 ^ (31 - i) % 2 = b at *
        have hb : b = 0 ∨ b = 1 := by omega
        rcases hb with rfl | rfl
        · have Hs2 : Hid (cutv a n / 2 ^ (32 - (i + 1)) = u * 2) := by rw [Hid, Hs.out]; simp
          clear Hs
          go_wp2_with (go_at_call 85; refine (Hb.out _).mono ?_; rintro e w' ⟨rfl, rfl⟩)
          go_round
          case rel => exact ⟨i + 1, by omega, by go_num, by rw [Hs2.out]; simp⟩
          case measure => simp [intOf]; omega
        · have Hs2 : Hid (cutv a n / 2 ^ (32 - (i + 1)) = u * 2 + 1) := by rw [Hid, Hs.out, if_pos ⟨hin, rfl⟩]
          clear Hs
          go_wp2_with (go_at_call 85; refine (Hb.out _).mono ?_; rintro e w' ⟨rfl, rfl⟩)
          go_round
          case rel => exact ⟨i + 1, by omega, by go_num, by rw [Hs2.out]; simp⟩
          case measure => simp [intOf]; omega
      · have Hs2 : Hid (cutv a n / 2 ^ (32 - (i + 1)) = u * 2) := by rw [Hid, Hs.out, if_neg (by omega)]; omega
        clear Hs
        have d1 : decide ((i : Int) < (n : Int)) = false := by simp; omega
        go_wp2
        go_round
        case rel => exact ⟨i + 1, by omega, by go_num, by rw [Hs2.out]; simp⟩
        case measure => simp [intOf]; omega
    · obtain rfl : i = 32 := by omega
      rw [cut_end]
      go_wp2
      go_ret
      exact ⟨rfl, rfl⟩

theorem ref_Good (a : Nat) (n : Int) (ha : a < 4294967296) (w : World) : Calls Tryz.prog 34 #[.agg #[.int .u32 a, .int .i64 n]] w fun e w' => e = .returned (.bool (goodB a n)) ∧ Below w.heap.size w w' := by
  by_cases h1 : 0 ≤ n
  · by_cases h2 : n ≤ 32
    · obtain ⟨k, rfl⟩ := Int.eq_ofNat_of_zero_le h1
      have Hg : Hid (goodB a (k : Int) = ((cutv a k : Int) == (a : Int))) := by
        rw [Hid, Bool.eq_iff_iff, goodB_iff, Int.toNat_natCast, ← cutv_eq]
        generalize cutv a k = r
        rw [beq_iff_eq]; omega
      have d1 : decide ((0 : Int) ≤ (k : Int)) = true := by simp
      have d2 : decide ((k : Int) ≤ 32) = true := by simpa using h2
      have Hm := Lib.hid (ref_Cut a k ha (by omega))
      generalize cutv a k = c at *
      go_enter Tryz.func34, Tryz.ntmps34
      go_wp2_with fail
      go_quiet ((go_at_call 60; exact quiet_eq (Hm.out _)))
      go_wp2
      go_ret
      exact ⟨by rw [Hg.out]; rfl, below_drewN ((Below.refl _ _).alloc (Nat.le_refl _) _) _⟩
    · have d1 : decide (0 ≤ n) = true := by simpa using h1
      have d2 : decide (n ≤ 32) = false := by simpa using h2
      have Hg : Hid (goodB a n = false) := by rw [Hid]; rw [Bool.eq_false_iff, Ne, goodB_iff]; omega
      go_enter Tryz.func34, Tryz.ntmps34
      go_wp2_with fail
      go_quiet (fail)
      go_wp2
      go_ret
      exact ⟨by rw [Hg.out]; rfl, below_drewN ((Below.refl _ _).alloc (Nat.le_refl _) _) _⟩
  · have d1 : decide (0 ≤ n) = false := by simpa using h1
    have Hg : Hid (goodB a n = false) := by rw [Hid]; rw [Bool.eq_false_iff, Ne, goodB_iff]; omega
    go_enter Tryz.func34, Tryz.ntmps34
    go_wp2_with fail
    go_quiet (fail)
    go_wp2
    go_ret
    exact ⟨by rw [Hg.out]; rfl, below_drewN ((Below.refl _ _).alloc (Nat.le_refl _) _) _⟩

end Go.Proofs.YtbljhjfaimnieaaGreat.pfx

/- What confluenceref01's Bit, Cut, Good and Covers return. No condition beyond those that each lemma states. -/
import Derived.Test.YtpggdofleehmdaaRows
import Derived.Test.YtpggdofleehmdaaPfxMath
import Derived.Test.YtpggdofleehmdaaKit
namespace Go.Proofs.Ytpggdofleehmdaa.pfx
open Go.RowKit Go.Proofs.Ytpggdofleehmdaa.kit
set_option linter.unusedVariables false

/-- what two boxed pairs hold, once a call has come back -/
theorem two_boxes {W w1 : World} {x y u v : Value} {t t' : TypeId} (hb1 : Below (((W.alloc (.cells #[x, y] t)).alloc (.cells #[u, v] t'))).heap.size ((W.alloc (.cells #[x, y] t)).alloc (.cells #[u, v] t')) w1) :
    w1.cell? ⟨W.heap.size, 0, none⟩ = some x ∧ w1.cell? ⟨W.heap.size, 1, none⟩ = some y ∧ w1.cell? ⟨W.heap.size + 1, 0, none⟩ = some u ∧ w1.cell? ⟨W.heap.size + 1, 1, none⟩ = some v ∧ W.heap.size < w1.heap.size ∧ W.heap.size + 1 < w1.heap.size := by
  have hz := hb1.size
  simp at hz
  refine ⟨?_, ?_, ?_, ?_, by omega, by omega⟩
  · rw [hb1.cell (by simp; omega)]; go_simp
  · rw [hb1.cell (by simp; omega)]; go_simp
  · rw [hb1.cell (by simp)]; go_simp
  · rw [hb1.cell (by simp)]; go_simp

theorem ref_Bit (a i : Nat) (ha : a < 4294967296) (hi : i < 32) (w : World) : Calls Try.prog 70 #[.int .u32 a, .int .i64 i] w fun e w' => e = .returned (.int .i64 ((a / 2 ^ (31 - i) % 2 : Nat) : Int)) ∧ w = w' := by
  go_enter Try.func70, Try.ntmps70
  go_wp2_with fail
  go_loop [0, 5] (fun u k => ∃ j : Nat, j ≤ 31 ∧ i ≤ j ∧ k = .int .i64 j ∧ u = .int .u32 ((a / 2 ^ (31 - j) : Nat) : Int)) (fun _ k => (intOf k).toNat)
  case atStart => exact ⟨31, by omega, by omega, rfl, by simp⟩
  case round =>
    obtain ⟨j, h1, h2, rfl, rfl⟩ := hrel
    have hle : a / 2 ^ (31 - j) ≤ a := Nat.div_le_self _ _
    by_cases hlt : i < j
    · have Hd : Hid (a / 2 ^ (31 - (j - 1)) = a / 2 ^ (31 - j) / 2) := by
        rw [Hid, Nat.div_div_eq_div_mul, ← Nat.pow_succ]; congr 2; omega
      generalize a / 2 ^ (31 - j) = u at *
      go_wp2
      go_round
      case rel => exact ⟨j - 1, by omega, by omega, by congr 1; omega, by rw [Hd.out]; simp⟩
      case measure => simp [intOf]; omega
    · obtain rfl : i = j := by omega
      generalize hu : a / 2 ^ (31 - i) = u at *
      have Hu := Lib.hid hu
      clear hu
      go_wp2
      go_ret
      exact ⟨ret_int (by rw [← Hu.out]; simp), rfl⟩

theorem ref_Cut (a n : Nat) (ha : a < 4294967296) (hn : n ≤ 32) (w : World) : Calls Try.prog 62 #[.int .u32 a, .int .i64 n] w fun e w' => e = .returned (.int .u32 (cutv a n : Int)) ∧ w = w' := by
  go_enter Try.func62, Try.ntmps62
  go_wp2_with fail
  go_loop [5, 6] (fun u k => ∃ i : Nat, i ≤ 32 ∧ k = .int .i64 i ∧ u = .int .u32 ((cutv a n / 2 ^ (32 - i) : Nat) : Int)) (fun _ k => 32 - (intOf k).toNat)
  case atStart => exact ⟨0, by omega, rfl, by rw [cut_start a n ha]; rfl⟩
  case round =>
    obtain ⟨i, h1, rfl, rfl⟩ := hrel
    by_cases hlt : i < 32
    · have Hs := Lib.hid (cut_step a n i hn hlt)
      have hle : cutv a n / 2 ^ (32 - i) * 2 < 4294967296 := by
        have hs := Hs.out
        have : cutv a n / 2 ^ (32 - (i + 1)) ≤ cutv a n := Nat.div_le_self _ _
        have := cutv_le a n
        omega
      generalize hu : cutv a n / 2 ^ (32 - i) = u at *
      clear hu
      by_cases hin : i < n
      · have Hb := Lib.hid (ref_Bit a i ha hlt)
        have hb2 : a / 2 ^ (31 - i) % 2 < 2 := Nat.mod_lt _ (by omega)
        generalize a / 2 ^ (31 - i) % 2 = b at *
        have hb : b = 0 ∨ b = 1 := by omega
        rcases hb with rfl | rfl
        · have Hs2 : Hid (cutv a n / 2 ^ (32 - (i + 1)) = u * 2) := by rw [Hid, Hs.out]; simp
          clear Hs
          go_wp2_with (go_at_call 70; refine (Hb.out _).mono ?_; rintro e w' ⟨rfl, rfl⟩)
          go_round
          case rel => exact ⟨i + 1, by omega, by go_num, by rw [Hs2.out]; simp⟩
          case measure => simp [intOf]; omega
        · have Hs2 : Hid (cutv a n / 2 ^ (32 - (i + 1)) = u * 2 + 1) := by rw [Hid, Hs.out, if_pos ⟨hin, rfl⟩]
          clear Hs
          go_wp2_with (go_at_call 70; refine (Hb.out _).mono ?_; rintro e w' ⟨rfl, rfl⟩)
          go_round
          case rel => exact ⟨i + 1, by omega, by go_num, by rw [Hs2.out]; simp⟩
          case measure => simp [intOf]; omega
      · have Hs2 : Hid (cutv a n / 2 ^ (32 - (i + 1)) = u * 2) := by rw [Hid, Hs.out, if_neg (by omega)]; omega
        clear Hs
        have d1 : decide ((i : Int) < (n : Int)) = false := by simp; omega
        go_wp2
        go_round
        case rel => exact ⟨i + 1, by omega, by go_num, by rw [Hs2.out]; simp⟩
        case measure => simp [intOf]; omega
    · obtain rfl : i = 32 := by omega
      rw [cut_end]
      go_wp2
      go_ret
      exact ⟨rfl, rfl⟩

theorem ref_Good (a : Nat) (n : Int) (ha : a < 4294967296) (w : World) : Calls Try.prog 36 #[.agg #[.int .u32 a, .int .i64 n]] w fun e w' => e = .returned (.bool (goodB a n)) ∧ Below w.heap.size w w' := by
  by_cases h1 : 0 ≤ n
  · by_cases h2 : n ≤ 32
    · obtain ⟨k, rfl⟩ := Int.eq_ofNat_of_zero_le h1
      have Hg : Hid (goodB a (k : Int) = ((cutv a k : Int) == (a : Int))) := by
        rw [Hid, Bool.eq_iff_iff, goodB_iff, Int.toNat_natCast, ← cutv_eq]
        generalize cutv a k = r
        rw [beq_iff_eq]; omega
      have d1 : decide ((0 : Int) ≤ (k : Int)) = true := by simp
      have d2 : decide ((k : Int) ≤ 32) = true := by simpa using h2
      have Hm := Lib.hid (ref_Cut a k ha (by omega))
      generalize cutv a k = c at *
      go_enter Try.func36, Try.ntmps36
      go_wp2_with fail
      go_quiet ((go_at_call 62; exact quiet_eq (Hm.out _)))
      go_wp2
      go_ret
      exact ⟨by rw [Hg.out]; rfl, below_drewN ((Below.refl _ _).alloc (Nat.le_refl _) _) _⟩
    · have d1 : decide (0 ≤ n) = true := by simpa using h1
      have d2 : decide (n ≤ 32) = false := by simpa using h2
      have Hg : Hid (goodB a n = false) := by rw [Hid]; rw [Bool.eq_false_iff, Ne, goodB_iff]; omega
      go_enter Try.func36, Try.ntmps36
      go_wp2_with fail
      go_quiet (fail)
      go_wp2
      go_ret
      exact ⟨by rw [Hg.out]; rfl, below_drewN ((Below.refl _ _).alloc (Nat.le_refl _) _) _⟩
  · have d1 : decide (0 ≤ n) = false := by simpa using h1
    have Hg : Hid (goodB a n = false) := by rw [Hid]; rw [Bool.eq_false_iff, Ne, goodB_iff]; omega
    go_enter Try.func36, Try.ntmps36
    go_wp2_with fail
    go_quiet (fail)
    go_wp2
    go_ret
    exact ⟨by rw [Hg.out]; rfl, below_drewN ((Below.refl _ _).alloc (Nat.le_refl _) _) _⟩

def coversB (a : Nat) (n : Int) (b : Nat) (m : Int) : Bool := goodB a n && goodB b m && decide (n ≤ m) && (cutv b n.toNat == a)

set_option maxHeartbeats 1000000 in
theorem ref_Covers (a : Nat) (n : Int) (b : Nat) (m : Int) (ha : a < 4294967296) (hb : b < 4294967296) (w : World) : Calls Try.prog 38 #[.agg #[.int .u32 a, .int .i64 n], .agg #[.int .u32 b, .int .i64 m]] w fun e w' => e = .returned (.bool (coversB a n b m)) ∧ Below w.heap.size w w' := by
  have HG1 := Lib.hid (ref_Good a n ha)
  have HG2 := Lib.hid (ref_Good b m hb)
  have Hc0 : Hid (coversB a n b m = (goodB a n && goodB b m && decide (n ≤ m) && (cutv b n.toNat == a))) := rfl
  by_cases g1 : goodB a n = true
  · have hn := (goodB_iff a n).1 g1
    rw [g1] at HG1 Hc0
    clear g1
    by_cases g2 : goodB b m = true
    · rw [g2] at HG2 Hc0
      clear g2
      obtain ⟨k, rfl⟩ := Int.eq_ofNat_of_zero_le hn.1
      have Hm := Lib.hid (ref_Cut b k hb (by omega))
      have hk : k ≤ 32 := by omega
      clear hn
      by_cases h3 : (k : Int) ≤ m
      · have d3 : decide (m < (k : Int)) = false := by simp; omega
        have Hc : Hid (coversB a (k : Int) b m = ((cutv b k : Int) == (a : Int))) := by
          rw [Hid, Hc0.out, Int.toNat_natCast, show decide ((k : Int) ≤ m) = true from by simpa using h3]
          generalize cutv b k = c
          rw [Bool.eq_iff_iff]; simp; omega
        clear Hc0 h3
        generalize cutv b k = c at *
        go_enter Try.func38, Try.ntmps38
        go_wp2_with fail
        refine (HG1.out _).mono ?_; rintro e w1 ⟨rfl, hb1⟩
        obtain ⟨c0, c1, c2, c3, hz0, hz⟩ := two_boxes hb1
        have k1 := Lib.hid ((Go.Joins.below_alloc2 w _ _).trans (hb1.mono (by simp; omega)))
        clear hb1
        go_wp2_with fail
        refine (HG2.out _).mono ?_; rintro e w2 ⟨rfl, hb2⟩
        have f0 := (hb2.cell (p := ⟨w.heap.size, 0, none⟩) (by simp; omega)).trans c0
        have f1 := (hb2.cell (p := ⟨w.heap.size, 1, none⟩) (by simp; omega)).trans c1
        have f2 := (hb2.cell (p := ⟨w.heap.size + 1, 0, none⟩) (by simp; omega)).trans c2
        have f3 := (hb2.cell (p := ⟨w.heap.size + 1, 1, none⟩) (by simp; omega)).trans c3
        have k2 := Lib.hid (k1.out.trans (hb2.mono k1.out.size))
        clear hb2 c0 c1 c2 c3
        go_wp2_with fail
        go_quiet ((go_at_call 62; exact quiet_eq (Hm.out _)))
        go_wp2
        go_ret
        exact ⟨by rw [Hc.out]; rfl, below_drewN k2.out _⟩
      · have d3 : decide (m < (k : Int)) = true := by simp; omega
        have Hc : Hid (coversB a (k : Int) b m = false) := by
          rw [Hid, Hc0.out, show decide ((k : Int) ≤ m) = false from by simpa using h3]; rfl
        clear Hc0 h3
        go_enter Try.func38, Try.ntmps38
        go_wp2_with fail
        refine (HG1.out _).mono ?_; rintro e w1 ⟨rfl, hb1⟩
        obtain ⟨c0, c1, c2, c3, hz0, hz⟩ := two_boxes hb1
        have k1 := Lib.hid ((Go.Joins.below_alloc2 w _ _).trans (hb1.mono (by simp; omega)))
        clear hb1
        go_wp2_with fail
        refine (HG2.out _).mono ?_; rintro e w2 ⟨rfl, hb2⟩
        have f0 := (hb2.cell (p := ⟨w.heap.size, 0, none⟩) (by simp; omega)).trans c0
        have f1 := (hb2.cell (p := ⟨w.heap.size, 1, none⟩) (by simp; omega)).trans c1
        have f2 := (hb2.cell (p := ⟨w.heap.size + 1, 0, none⟩) (by simp; omega)).trans c2
        have f3 := (hb2.cell (p := ⟨w.heap.size + 1, 1, none⟩) (by simp; omega)).trans c3
        have k2 := Lib.hid (k1.out.trans (hb2.mono k1.out.size))
        clear hb2 c0 c1 c2 c3
        go_wp2_with fail
        go_ret
        exact ⟨by rw [Hc.out]; rfl, k2.out⟩
    · have g2 : goodB b m = false := by simpa using g2
      rw [g2] at HG2 Hc0
      have Hc : Hid (coversB a n b m = false) := by rw [Hid, Hc0.out]; rfl
      clear g2 Hc0 hn
      go_enter Try.func38, Try.ntmps38
      go_wp2_with fail
      refine (HG1.out _).mono ?_; rintro e w1 ⟨rfl, hb1⟩
      obtain ⟨c0, c1, c2, c3, hz0, hz⟩ := two_boxes hb1
      have k1 := Lib.hid ((Go.Joins.below_alloc2 w _ _).trans (hb1.mono (by simp; omega)))
      clear hb1
      go_wp2_with fail
      refine (HG2.out _).mono ?_; rintro e w2 ⟨rfl, hb2⟩
      have k2 := Lib.hid (k1.out.trans (hb2.mono k1.out.size))
      clear hb2
      go_wp2_with fail
      go_ret
      exact ⟨by rw [Hc.out]; rfl, k2.out⟩
  · have g1 : goodB a n = false := by simpa using g1
    rw [g1] at HG1 Hc0
    have Hc : Hid (coversB a n b m = false) := by rw [Hid, Hc0.out]; rfl
    clear g1 Hc0
    go_enter Try.func38, Try.ntmps38
    go_wp2_with fail
    refine (HG1.out _).mono ?_; rintro e w1 ⟨rfl, hb1⟩
    have k1 := Lib.hid ((Go.Joins.below_alloc2 w _ _).trans (hb1.mono (by simp; omega)))
    clear hb1
    go_wp2_with fail
    go_ret
    exact ⟨by rw [Hc.out]; rfl, k1.out⟩

end Go.Proofs.Ytpggdofleehmdaa.pfx

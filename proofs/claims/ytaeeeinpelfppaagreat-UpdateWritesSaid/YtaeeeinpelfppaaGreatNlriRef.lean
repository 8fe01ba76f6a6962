/- What confluenceref07's Size, Same, Good and Decode return. Conditions as each lemma states. -/
import Derived.Test.YtaeeeinpelfppaaGreatNlriDec
import Derived.Test.YtaeeeinpelfppaaGreatPfxRef0
import Derived.Test.YtaeeeinpelfppaaGreatOctRef
namespace Go.Proofs.YtaeeeinpelfppaaGreat.nlri
open Go.RowKit Go.Proofs.YtaeeeinpelfppaaGreat.kit Go.Proofs.YtaeeeinpelfppaaGreat.mem Go.Proofs.YtaeeeinpelfppaaGreat.octet Go.Proofs.YtaeeeinpelfppaaGreat.pfx
set_option linter.unusedVariables false

theorem refSize_any (a : Nat) (n : Int) (ha : a < 4294967296) (w : World) :
    Calls Tryz.prog 61 #[.agg #[.int .u32 a, .int .i64 n]] w fun e w' => e = .returned (.int .i64 (sizeP (a, n) : Int)) ∧ Below w.heap.size w w' := by
  have HG := fun w => Lib.hid (ref_Good a n ha w)
  have hal : Below w.heap.size w (w.alloc (.cells #[.int .u32 a, .int .i64 n] 66)) := (Below.refl _ _).alloc (Nat.le_refl _) _
  by_cases g : goodB a n = true
  · have e : Hid (sizeP (a, n) = 1 + bodyN n.toNat) := by simp [sizeP, g, Hid]
    rw [g] at HG
    obtain ⟨h0, h1, _⟩ := (goodB_iff a n).1 g
    obtain ⟨k, rfl⟩ := Int.eq_ofNat_of_zero_le h0
    rw [Int.toNat_natCast] at e
    have hk : k ≤ 32 := by omega
    clear g h0 h1
    go_enter Tryz.func61, Tryz.ntmps61
    go_wp2_with fail
    refine (HG _).out.mono ?_; rintro e w1 ⟨rfl, hb1⟩
    have q1 := (hb1.cell (p := ⟨w.heap.size, 1, none⟩) (by simp)).trans (show _ = some (.int .i64 (k : Int)) by go_simp)
    have HW := Lib.hid (hal.trans (hb1.mono (by simp)))
    have hlt : w.heap.size < w1.heap.size := by have := hb1.size; simp at this; omega
    clear hb1 hal
    go_wp2_with fail
    go_loop [3, 4] (fun n i => ∃ j : Nat, 8 * j < k + 8 ∧ i = .int .i64 (8 * j : Nat) ∧ n = .int .i64 (1 + j : Nat)) (fun _ i => 48 - (intOf i).toNat)
    case atStart => exact ⟨0, by omega, rfl, rfl⟩
    case round =>
      obtain ⟨j, hj, rfl, rfl⟩ := hrel
      by_cases hlt2 : 8 * j < k
      · have d1 : decide (((8 * j : Nat) : Int) < (k : Int)) = true := by simp; omega
        have hj2 : ((8 * j : Nat) : Int) ≤ 100 := by omega
        have hj3 : ((1 + j : Nat) : Int) ≤ 100 := by omega
        go_wp2_with fail
        go_round
        case rel => exact ⟨j + 1, by omega, by congr 1, by congr 1⟩
        case measure => simp [intOf]; omega
      · have d1 : decide (((8 * j : Nat) : Int) < (k : Int)) = false := by simp; omega
        have hb : Hid (sizeP (a, (k : Int)) = 1 + j) := by rw [Hid, e.out, bodyN]; omega
        go_wp2_with fail
        go_ret
        exact ⟨ret_int (by rw [hb.out]; omega), HW.out⟩
  · have g' : goodB a n = false := by simpa using g
    have e : sizeP (a, n) = 0 := by simp [sizeP, g']
    rw [e]
    rw [g'] at HG
    clear g e
    go_enter Tryz.func61, Tryz.ntmps61
    go_wp2_with fail
    refine (HG _).out.mono ?_; rintro e w1 ⟨rfl, hb1⟩
    have HW := Lib.hid (hal.trans (hb1.mono (by simp)))
    clear hb1 hal
    go_wp2_with fail
    go_ret
    exact ⟨rfl, HW.out⟩

end Go.Proofs.YtaeeeinpelfppaaGreat.nlri

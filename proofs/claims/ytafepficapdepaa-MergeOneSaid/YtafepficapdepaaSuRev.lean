/- What the reversal of numbers of 32 bits does. Conditions as the statement says. -/
import Derived.Test.YtafepficapdepaaSu
import Derived.Test.YtafepficapdepaaKit
namespace Go.Proofs.Ytafepficapdepaa.su
open Go.Proofs Go.RowKit Go.Sort Go.Proofs.Ytafepficapdepaa.kit
set_option linter.unusedVariables false
set_option linter.unusedSimpArgs false
set_option maxRecDepth 100000 in
set_option maxHeartbeats 2000000 in
theorem rev_any (blk off cap a b : Nat) (d : Array Int) (w : World) (hH : Holds eu w blk off d) (hblk : blk < w.heap.size) (hab : a < b) (hb : b ≤ d.size) (hsz : d.size < 4611686018427387904) :
    Calls Try.prog 184 #[.slice (some ⟨blk, off, none⟩) d.size cap, .int .i64 a, .int .i64 b] w fun e w' =>
      e = .returned (.tuple #[]) ∧ At eu w blk off (reverseRange d a b) w' := by
  have HH := Lib.hid hH
  have HB := Lib.hid hblk
  obtain ⟨N, hN⟩ : ∃ N, N = d.size := ⟨_, rfl⟩
  have HN := Lib.hid hN
  rw [← hN] at hsz hb ⊢
  clear hH hblk hN
  go_enter Try.func184, Try.ntmps184
  go_wp2_with fail
  go_loopw [6, 7] (fun v6 v7 wr => ∃ (i j : Nat) (dk : Array Int), v6 = .int .i64 (i : Int) ∧ v7 = .int .i64 (j : Int) ∧ i ≤ j + 1 ∧ j < N ∧ dk.size = N ∧ At eu w blk off dk wr ∧ reverseLoop i j dk = reverseLoop a (b - 1) d) (fun v6 v7 _ => ((intOf v7) + 1 - (intOf v6)).toNat)
  case atStart => exact ⟨a, b - 1, d, rfl, by go_num, by omega, by omega, HN.out.symm, At.refl HH.out, rfl⟩
  case round =>
    obtain ⟨i, j, dk, rfl, rfl, hij, hjN, hsk, hA, hO⟩ := hrel
    have HA := Lib.hid hA
    have HO := Lib.hid hO
    have HS := Lib.hid hsk
    have HC := Lib.hid (At.cells hA HH.out (hsk.trans HN.out) HB.out)
    clear hA hO hsk
    by_cases hlt : i < j
    · obtain ⟨x, hx⟩ : ∃ x : Int, x = dk[i]! := ⟨_, rfl⟩
      obtain ⟨y, hy⟩ : ∃ y : Int, y = dk[j]! := ⟨_, rfl⟩
      have hi2 : i < dk.size := by rw [HS.out]; omega
      have hj2 : j < dk.size := by rw [HS.out]; omega
      obtain ⟨ci, fi⟩ := HC.out i hi2
      obtain ⟨cj, fj⟩ := HC.out j hj2
      rw [← hx] at ci
      rw [← hy] at cj
      have HX := Lib.hid (And.intro hx hy)
      have HI := Lib.hid (And.intro hi2 hj2)
      clear hx hy hi2 hj2
      go_wp2_with fail
      go_region
      all_goals go_wp2_with fail
      go_roundw
      case rel =>
        refine ⟨i + 1, j - 1, swp dk i j, by go_num, by go_num, by omega, by omega, by rw [size_swp]; exact HS.out, ?_, ?_⟩
        · rw [HX.out.1, HX.out.2]
          exact At.swap HA.out HH.out (HS.out.trans HN.out) HB.out 1 i j HI.out.1 HI.out.2
        · rw [← HO.out, reverseLoop.eq_def i j dk, if_pos hlt]
      case measure => simp [intOf]; omega
    · go_wp2_with fail
      go_end0
      refine ⟨rfl, ?_⟩
      rw [show reverseRange d a b = dk from by unfold reverseRange; rw [← HO.out, reverseLoop.eq_def i j dk, if_neg hlt]]
      exact HA.out
end Go.Proofs.Ytafepficapdepaa.su

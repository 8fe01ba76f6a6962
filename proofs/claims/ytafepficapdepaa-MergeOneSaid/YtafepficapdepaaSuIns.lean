/- What the insertion sort of numbers of 32 bits does. Conditions as the statement says. -/
import Derived.Test.YtafepficapdepaaSu
import Derived.Test.YtafepficapdepaaKit
namespace Go.Proofs.Ytafepficapdepaa.su
open Go.Proofs Go.RowKit Go.Sort Go.Proofs.Ytafepficapdepaa.kit
set_option linter.unusedVariables false
set_option linter.unusedSimpArgs false
set_option maxRecDepth 100000 in
set_option maxHeartbeats 2000000 in
theorem ins_any (blk off cap a b : Nat) (d : Array Int) (w : World) (hH : Holds eu w blk off d) (hblk : blk < w.heap.size) (hab : a ≤ b) (hb : b ≤ d.size) (hsz : d.size < 4611686018427387904) :
    Calls Try.prog 180 #[.slice (some ⟨blk, off, none⟩) d.size cap, .int .i64 a, .int .i64 b] w fun e w' =>
      e = .returned (.tuple #[]) ∧ At eu w blk off (insertionSort ltInt d a b) w' := by
  have HH := Lib.hid hH
  have HB := Lib.hid hblk
  obtain ⟨N, hN⟩ : ∃ N, N = d.size := ⟨_, rfl⟩
  have HN := Lib.hid hN
  rw [← hN] at hsz hb ⊢
  clear hH hblk hN
  go_enter Try.func180, Try.ntmps180
  go_wp2_with fail
  go_loopw [6] (fun v6 wr => ∃ (i : Nat) (dk : Array Int), v6 = .int .i64 (i : Int) ∧ a < i ∧ i ≤ b + 1 ∧ dk.size = N ∧ At eu w blk off dk wr ∧ insOuter ltInt a b i dk = insOuter ltInt a b (a + 1) d) (fun v6 _ => b + 1 - (intOf v6).toNat)
  case atStart => exact ⟨a + 1, d, by go_num, by omega, by omega, HN.out.symm, At.refl HH.out, rfl⟩
  case round =>
    obtain ⟨i, dk, rfl, hai, hib, hsk, hA, hO⟩ := hrel
    have HA := Lib.hid hA
    have HO := Lib.hid hO
    have HS := Lib.hid hsk
    clear hA hO hsk
    by_cases hlt : i < b
    · go_wp2_with fail
      go_loopw [7] (fun v7 w2 => ∃ (j : Nat) (dj : Array Int), v7 = .int .i64 (j : Int) ∧ a ≤ j ∧ j ≤ i ∧ dj.size = N ∧ At eu w blk off dj w2 ∧ insInner ltInt a j dj = insInner ltInt a i dk) (fun v7 _ => (intOf v7).toNat)
      case atStart => exact ⟨i, dk, rfl, by omega, Nat.le_refl _, HS.out, HA.out, rfl⟩
      case round =>
        obtain ⟨j, dj, rfl, haj, hji, hsj, hA2, hI⟩ := hrel
        have HA2 := Lib.hid hA2
        have HI := Lib.hid hI
        have HSj := Lib.hid hsj
        have HC := Lib.hid (At.cells hA2 HH.out (hsj.trans HN.out) HB.out)
        clear hA2 hI hsj
        obtain ⟨G, hG⟩ : ∃ G : Nat → Int, ∀ t, G t = dj[t]! := ⟨fun t => dj[t]!, fun _ => rfl⟩
        have HG := Lib.hid hG
        have hcw : ∀ t, t < N → wr.cell? ⟨blk, off + t, none⟩ = some (.int .u32 (G t)) := fun t ht => by rw [hG]; exact (HC.out t (by rw [HSj.out]; exact ht)).1
        have hfw : ∀ t, t < N → wr.frozen? ⟨blk, off + t, none⟩ = false := fun t ht => (HC.out t (by rw [HSj.out]; exact ht)).2
        clear hG
        have HE : Hid ((j ≤ a ∨ ltInt (G j) (G (j - 1)) = false) → insOuter ltInt a b (i + 1) dj = insOuter ltInt a b (a + 1) d) := fun hs => by
          rw [HG.out, HG.out] at hs
          rw [← HO.out, insOuter_go ltInt a b i dk hlt, ← HI.out, insInner_stop ltInt a j dj hs]
        by_cases hja : a < j
        · go_wp2_with fail
          go_quiet (first | (go_at_call 186; refine Calls.quiet_of_same (Less_any _ _ _)))
          go_wp2_with fail
          · have hl : ltInt (G j) (G (j - 1)) = true := by assumption
            go_region
            all_goals go_wp2_with fail
            go_roundw
            case rel =>
              rw [HG.out, HG.out] at hl
              refine ⟨j - 1, swp dj j (j - 1), by congr 1; omega, by omega, by omega, by rw [size_swp]; exact HSj.out, ?_, by rw [← HI.out, insInner_go ltInt a j dj hja hl]⟩
              rw [HG.out, HG.out]
              exact At.swap HA2.out HH.out (HSj.out.trans HN.out) HB.out (nq + 1) j (j - 1) (by rw [HSj.out]; omega) (by rw [HSj.out]; omega)
            case measure => simp [intOf]; omega
          · have hl : ltInt (G j) (G (j - 1)) = false := by assumption
            go_roundw
            case rel => exact ⟨i + 1, dj, by go_num, by omega, by omega, HSj.out, At.drewN HA2.out nq, HE.out (.inr hl)⟩
            case measure => simp [intOf]; omega
        · go_wp2_with fail
          go_quiet (first | (go_at_call 186; refine Calls.quiet_of_same (Less_any _ _ _)))
          go_wp2_with fail
          go_roundw
          case rel => exact ⟨i + 1, dj, by go_num, by omega, by omega, HSj.out, At.drewN HA2.out nq, HE.out (.inl (by omega))⟩
          case measure => simp [intOf]; omega
    · go_wp2_with fail
      go_end0
      refine ⟨rfl, ?_⟩
      rw [show insertionSort ltInt d a b = dk from by unfold insertionSort; rw [← HO.out, insOuter_stop ltInt a b i dk hlt]]
      exact HA.out
end Go.Proofs.Ytafepficapdepaa.su

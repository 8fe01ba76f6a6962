/- What the heap sort of numbers of 32 bits does. Conditions as the statement says. -/
import Derived.Test.YtafepficapdepaaSuSift
namespace Go.Proofs.Ytafepficapdepaa.su
open Go.Proofs Go.RowKit Go.Sort Go.Proofs.Ytafepficapdepaa.kit
set_option linter.unusedVariables false
set_option linter.unusedSimpArgs false
set_option maxRecDepth 100000 in
set_option maxHeartbeats 4000000 in
theorem heap_any (blk off cap a b : Nat) (d : Array Int) (N : Nat) (hN : N = d.size) (w : World) (hH : Holds eu w blk off d) (hblk : blk < w.heap.size) (hab : a ≤ b) (hb : b ≤ N) (hsz : N < 1152921504606846976) :
    Calls Try.prog 181 #[.slice (some ⟨blk, off, none⟩) N cap, .int .i64 a, .int .i64 b] w fun e w' =>
      e = .returned (.tuple #[]) ∧ At eu w blk off (heapSort ltInt d a b) w' := by
  have HH := Lib.hid hH
  have HB := Lib.hid hblk
  have HN := Lib.hid hN
  obtain ⟨L, hL⟩ : ∃ L, L = b - a := ⟨_, rfl⟩
  have eL : (b : Int) - (a : Int) = (L : Int) := by omega
  have HL : Hid (L = b - a) := hL
  have hbL : a + L ≤ N := by omega
  have HSz : Hid (∀ (hi F r : Nat) (x : Array Int), (siftDown ltInt hi F r x).size = x.size) := fun hi F r x => size_siftDown ltInt hi F (hi - r) r x (Nat.le_refl _)
  have HSt : Hid (∀ (dk : Array Int) (wr : World) (lo hi : Nat), dk.size = N → At eu w blk off dk wr → lo ≤ hi → a + hi ≤ N → Calls Try.prog 204 #[.slice (some ⟨blk, off, none⟩) N cap, .int .i64 lo, .int .i64 hi, .int .i64 a] wr fun e w' =>
      e = .returned (.tuple #[]) ∧ At eu w blk off (siftDown ltInt hi a lo dk) w') := fun dk wr lo hi hs hA h1 h2 => by
    obtain ⟨hh, hbb⟩ := hA.holds HH.out (hs.trans HN.out) HB.out
    refine (sift_any blk off cap lo hi a dk N hs.symm wr hh hbb h1 h2 hsz).mono ?_
    rintro e w' ⟨rfl, hA2⟩
    obtain ⟨m, os, e2⟩ := hA2
    exact ⟨rfl, hA.stepG HB.out (HSz.out _ _ _ _) ⟨m, os, e2⟩⟩
  have hq : ((L : Int) - 1).tdiv 2 = (((L - 1) / 2 + 1 : Nat) : Int) - 1 := by
    have := half_start (a := 0) (b := L) (Nat.zero_le _)
    simpa using this
  have HE : Hid (heapSort ltInt d a b = heapPop ltInt a L (heapBuild ltInt L a ((L - 1) / 2 + 1) d)) := by rw [Hid, hL]; rfl
  obtain ⟨K, hK⟩ : ∃ K, K = (L - 1) / 2 + 1 := ⟨_, rfl⟩
  rw [← hK] at hq HE
  have hKL : K ≤ L + 1 := by omega
  clear hH hblk hN hL hK
  go_enter Try.func181, Try.ntmps181
  go_wp2_with fail
  go_loopw [9] (fun v9 wr => ∃ (k : Nat) (dk : Array Int), v9 = .int .i64 ((k : Int) - 1) ∧ k ≤ K ∧ dk.size = N ∧ At eu w blk off dk wr ∧ heapBuild ltInt L a k dk = heapBuild ltInt L a K d) (fun v9 _ => (intOf v9 + 1).toNat)
  case atStart => exact ⟨K, d, rfl, Nat.le_refl _, HN.out.symm, At.refl HH.out, rfl⟩
  case round =>
    obtain ⟨k, dk, rfl, hk, hsk, hA, hO⟩ := hrel
    have HA := Lib.hid hA
    have HO := Lib.hid hO
    have HS := Lib.hid hsk
    clear hA hO hsk
    rcases Nat.eq_zero_or_pos k with h0 | h0
    · subst h0
      have HO2 : Hid (heapSort ltInt d a b = heapPop ltInt a L dk) := by rw [Hid, HE.out, ← HO.out]; rfl
      rw [show ((0 : Nat) : Int) - 1 = -1 from rfl]
      go_wp2_with fail
      go_loopw [10] (fun v10 wr => ∃ (k : Nat) (dj : Array Int), v10 = .int .i64 ((k : Int) - 1) ∧ k ≤ L ∧ dj.size = N ∧ At eu w blk off dj wr ∧ heapPop ltInt a k dj = heapPop ltInt a L dk) (fun v10 _ => (intOf v10 + 1).toNat)
      case atStart => exact ⟨L, dk, rfl, Nat.le_refl _, HS.out, HA.out, rfl⟩
      case round =>
        obtain ⟨k, dj, rfl, hk, hsj, hA2, hO3⟩ := hrel
        have HA2 := Lib.hid hA2
        have HO3 := Lib.hid hO3
        have HSj := Lib.hid hsj
        have HC := Lib.hid (At.cells hA2 HH.out (hsj.trans HN.out) HB.out)
        clear hA2 hO3 hsj
        rcases Nat.eq_zero_or_pos k with h1 | h1
        · subst h1
          go_wp2_with fail
          go_end0
          refine ⟨rfl, ?_⟩
          rw [HO2.out, ← HO3.out]
          exact HA2.out
        · obtain ⟨j, hj⟩ : ∃ j, k = j + 1 := ⟨k - 1, by omega⟩
          subst hj
          have ej : ((j + 1 : Nat) : Int) - 1 = (j : Int) := by omega
          obtain ⟨x, hx⟩ : ∃ x : Int, x = dj[a]! := ⟨_, rfl⟩
          obtain ⟨y, hy⟩ : ∃ y : Int, y = dj[a + j]! := ⟨_, rfl⟩
          have hi2 : a < dj.size := by rw [HSj.out]; omega
          have hj2 : a + j < dj.size := by rw [HSj.out]; omega
          obtain ⟨ci, fi⟩ := HC.out a hi2
          obtain ⟨cj, fj⟩ := HC.out (a + j) hj2
          rw [← hx] at ci
          rw [← hy] at cj
          have HX := Lib.hid (And.intro hx hy)
          have HI := Lib.hid (And.intro hi2 hj2)
          have q0 : (a : Int) + (j : Int) < (N : Int) := by omega
          have q1 : (a : Int) < (N : Int) := by omega
          have HNx : Hid (∀ q, At eu w blk off (swp dj a (a + j)) (((wr.drewN q).setCell ⟨blk, off + a, none⟩ (.int .u32 y)).setCell ⟨blk, off + (a + j), none⟩ (.int .u32 x))) := fun q => by
            rw [HX.out.1, HX.out.2]
            exact At.swap HA2.out HH.out (HSj.out.trans HN.out) HB.out q a (a + j) HI.out.1 HI.out.2
          obtain ⟨v', hv'⟩ := cell?_setCell_some (w := wr) (p := ⟨blk, off + a, none⟩) (x := .int .u32 y) (q := ⟨blk, off + (a + j), none⟩) cj
          clear hx hy hi2 hj2
          rw [ej]
          go_wp2_with fail
          go_region
          go_wp2_with fail
          refine (HSt.out (swp dj a (a + j)) _ 0 j (by rw [size_swp]; exact HSj.out) (by exact HNx.out 1) (Nat.zero_le _) (by omega)).mono ?_; rintro e w3 ⟨rfl, hA3⟩
          have HA3 := Lib.hid hA3
          clear hA3
          go_wp2_with fail
          go_roundw
          case rel => exact ⟨j, _, rfl, by omega, by rw [HSz.out, size_swp]; exact HSj.out, HA3.out, HO3.out⟩
          case measure => simp [intOf]
    · obtain ⟨j, hj⟩ : ∃ j, k = j + 1 := ⟨k - 1, by omega⟩
      subst hj
      have ej : ((j + 1 : Nat) : Int) - 1 = (j : Int) := by omega
      have HC := Lib.hid (HSt.out dk wr j L HS.out HA.out (by omega) hbL)
      rw [ej]
      go_wp2_with fail
      refine HC.out.mono ?_; rintro e w3 ⟨rfl, hA3⟩
      have HA3 := Lib.hid hA3
      clear hA3
      go_wp2_with fail
      go_roundw
      case rel => exact ⟨j, _, rfl, by omega, by rw [HSz.out]; exact HS.out, HA3.out, HO.out⟩
      case measure => simp [intOf]
end Go.Proofs.Ytafepficapdepaa.su

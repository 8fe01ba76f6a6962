/- What sifting down does to numbers of 32 bits. Conditions as the statement says. -/
import Derived.Sort.WalkB3
import Derived.Test.YtafepficapdepaaSu
import Derived.Test.YtafepficapdepaaKit
namespace Go.Proofs.Ytafepficapdepaa.su
open Go.Proofs Go.RowKit Go.Sort Go.Proofs.Ytafepficapdepaa.kit
set_option linter.unusedVariables false
set_option linter.unusedSimpArgs false
section
variable {α : Type} [Inhabited α] (lt : α → α → Bool) {hi F r c : Nat}
theorem sr_stop (hc : c = 2 * r + 1) (d : Array α) (h1 : c + 1 < hi) (h2 : lt d[F + c]! d[F + (c + 1)]! = true) (h3 : lt d[F + r]! d[F + (c + 1)]! = false) : siftDown lt hi F r d = d := by
  subst hc; exact sd_right_stop lt d h1 h2 h3
theorem sr_go (hc : c = 2 * r + 1) (d : Array α) (h1 : c + 1 < hi) (h2 : lt d[F + c]! d[F + (c + 1)]! = true) (h3 : lt d[F + r]! d[F + (c + 1)]! = true) : siftDown lt hi F r d = siftDown lt hi F (c + 1) (swp d (F + r) (F + (c + 1))) := by
  subst hc; exact sd_right_go lt d h1 h2 h3
theorem sl_stop (hc : c = 2 * r + 1) (d : Array α) (h0 : c < hi) (h2 : c + 1 < hi → lt d[F + c]! d[F + (c + 1)]! = false) (h3 : lt d[F + r]! d[F + c]! = false) : siftDown lt hi F r d = d := by
  subst hc; exact sd_left_stop lt d h0 h2 h3
theorem sl_go (hc : c = 2 * r + 1) (d : Array α) (h0 : c < hi) (h2 : c + 1 < hi → lt d[F + c]! d[F + (c + 1)]! = false) (h3 : lt d[F + r]! d[F + c]! = true) : siftDown lt hi F r d = siftDown lt hi F c (swp d (F + r) (F + c)) := by
  subst hc; exact sd_left_go lt d h0 h2 h3
end
set_option maxRecDepth 100000 in
set_option maxHeartbeats 4000000 in
theorem sift_any (blk off cap lo hi first : Nat) (d : Array Int) (N : Nat) (hN : N = d.size) (w : World) (hH : Holds eu w blk off d) (hblk : blk < w.heap.size) (hlo : lo ≤ hi) (hb : first + hi ≤ N) (hsz : N < 1152921504606846976) :
    Calls Try.prog 204 #[.slice (some ⟨blk, off, none⟩) N cap, .int .i64 lo, .int .i64 hi, .int .i64 first] w fun e w' =>
      e = .returned (.tuple #[]) ∧ At eu w blk off (siftDown ltInt hi first lo d) w' := by
  have HH := Lib.hid hH
  have HB := Lib.hid hblk
  have HN := Lib.hid hN
  clear hH hblk hN
  go_enter Try.func204, Try.ntmps204
  go_wp2_with fail
  go_loopw [8] (fun v8 wr => ∃ (r : Nat) (dk : Array Int), v8 = .int .i64 (r : Int) ∧ r ≤ hi ∧ dk.size = N ∧ At eu w blk off dk wr ∧ siftDown ltInt hi first r dk = siftDown ltInt hi first lo d) (fun v8 _ => hi - (intOf v8).toNat)
  case atStart => exact ⟨lo, d, rfl, hlo, HN.out.symm, At.refl HH.out, rfl⟩
  case round =>
    obtain ⟨r, dk, rfl, hr, hsk, hA, hO⟩ := hrel
    have HA := Lib.hid hA
    have HO := Lib.hid hO
    have HS := Lib.hid hsk
    have HC := Lib.hid (At.cells hA HH.out (hsk.trans HN.out) HB.out)
    clear hA hO hsk
    obtain ⟨G, hG⟩ : ∃ G : Nat → Int, ∀ t, G t = dk[t]! := ⟨fun t => dk[t]!, fun _ => rfl⟩
    have HG := Lib.hid hG
    have hcw : ∀ t, t < N → wr.cell? ⟨blk, off + t, none⟩ = some (.int .u32 (G t)) := fun t ht => by rw [hG]; exact (HC.out t (by rw [HS.out]; exact ht)).1
    have hfw : ∀ t, t < N → wr.frozen? ⟨blk, off + t, none⟩ = false := fun t ht => (HC.out t (by rw [HS.out]; exact ht)).2
    clear hG
    by_cases h00 : 2 * r + 1 < hi
    · obtain ⟨c, hc⟩ : ∃ c : Nat, c = 2 * r + 1 := ⟨_, rfl⟩
      have e : 2 * (r : Int) + 1 = (c : Int) := by omega
      have h0 : c < hi := by omega
      have HCq : Hid (c = 2 * r + 1) := hc
      clear hc h00
      by_cases h1 : c + 1 < hi
      · have hz : (c : Int) + 1 < (hi : Int) := by omega
        have q0 : (first : Int) + (c : Int) < (N : Int) := by omega
        have q1 : (first : Int) + (c : Int) + 1 < (N : Int) := by omega
        have q3 : (first : Int) + ((c : Int) + 1) < (N : Int) := by omega
        have q2 : (first : Int) + (r : Int) < (N : Int) := by omega
        go_wp2_with fail
        go_quiet (first | (go_at_call 186; refine Calls.quiet_of_same (Less_any _ _ _)))
        go_wp2_with fail
        · have h2 : ltInt (G (first + c)) (G (first + (c + 1))) = true := by assumption
          have H2 : Hid (ltInt dk[first + c]! dk[first + (c + 1)]! = true) := by rw [Hid, ← HG.out, ← HG.out]; exact h2
          clear h2
          have HA2 := Lib.hid (At.drewN HA.out nq)
          have hcw2 : ∀ t, t < N → (wr.drewN nq).cell? ⟨blk, off + t, none⟩ = some (.int .u32 (G t)) := hcw
          have hfw2 : ∀ t, t < N → (wr.drewN nq).frozen? ⟨blk, off + t, none⟩ = false := hfw
          clear hcw hfw HA HC
          generalize wr.drewN nq = w2 at *
          go_quiet (first | (go_at_call 186; refine Calls.quiet_of_same (Less_any _ _ _)))
          go_wp2_with fail
          · have h3 : ltInt (G (first + r)) (G (first + (c + 1))) = false := by (have hq : (!ltInt (G (first + r)) (G (first + (c + 1)))) = true := (by assumption)); simpa using hq
            refine bodyPost_ret (results_none rfl _ _ _) rfl ?_
            refine ⟨rfl, ?_⟩
            rw [HG.out, HG.out] at h3
            rw [← HO.out, sr_stop ltInt HCq.out dk h1 H2.out h3]
            exact At.drewN HA2.out _
          · have h3 : ltInt (G (first + r)) (G (first + (c + 1))) = true := by (have hq : (!ltInt (G (first + r)) (G (first + (c + 1)))) = false := (by assumption)); simpa using hq
            go_region
            all_goals go_wp2_with fail
            go_roundw
            case rel =>
              rw [HG.out, HG.out] at h3
              refine ⟨(c + 1), swp dk (first + r) (first + (c + 1)), by go_num, by omega, by rw [size_swp]; exact HS.out, ?_, by rw [← HO.out, sr_go ltInt HCq.out dk h1 H2.out h3]⟩
              rw [HG.out, HG.out]
              exact At.swap HA2.out HH.out (HS.out.trans HN.out) HB.out _ (first + r) (first + (c + 1)) (by rw [HS.out]; omega) (by rw [HS.out]; omega)
            case measure => simp [intOf]; omega
        · have h2 : ltInt (G (first + c)) (G (first + (c + 1))) = false := by assumption
          have H2 : Hid (ltInt dk[first + c]! dk[first + (c + 1)]! = false) := by rw [Hid, ← HG.out, ← HG.out]; exact h2
          clear h2
          have HA2 := Lib.hid (At.drewN HA.out nq)
          have hcw2 : ∀ t, t < N → (wr.drewN nq).cell? ⟨blk, off + t, none⟩ = some (.int .u32 (G t)) := hcw
          have hfw2 : ∀ t, t < N → (wr.drewN nq).frozen? ⟨blk, off + t, none⟩ = false := hfw
          clear hcw hfw HA HC
          generalize wr.drewN nq = w2 at *
          go_quiet (first | (go_at_call 186; refine Calls.quiet_of_same (Less_any _ _ _)))
          go_wp2_with fail
          · have h3 : ltInt (G (first + r)) (G (first + c)) = false := by (have hq : (!ltInt (G (first + r)) (G (first + c))) = true := (by assumption)); simpa using hq
            refine bodyPost_ret (results_none rfl _ _ _) rfl ?_
            refine ⟨rfl, ?_⟩
            rw [HG.out, HG.out] at h3
            rw [← HO.out, sl_stop ltInt HCq.out dk h0 (fun _ => H2.out) h3]
            exact At.drewN HA2.out _
          · have h3 : ltInt (G (first + r)) (G (first + c)) = true := by (have hq : (!ltInt (G (first + r)) (G (first + c))) = false := (by assumption)); simpa using hq
            go_region
            all_goals go_wp2_with fail
            go_roundw
            case rel =>
              rw [HG.out, HG.out] at h3
              refine ⟨c, swp dk (first + r) (first + c), by go_num, by omega, by rw [size_swp]; exact HS.out, ?_, by rw [← HO.out, sl_go ltInt HCq.out dk h0 (fun _ => H2.out) h3]⟩
              rw [HG.out, HG.out]
              exact At.swap HA2.out HH.out (HS.out.trans HN.out) HB.out _ (first + r) (first + c) (by rw [HS.out]; omega) (by rw [HS.out]; omega)
            case measure => simp [intOf]; omega
      · have hz : decide ((c : Int) + 1 < (hi : Int)) = false := by simp; omega
        have q0 : (first : Int) + (c : Int) < (N : Int) := by omega
        have q2 : (first : Int) + (r : Int) < (N : Int) := by omega
        go_wp2_with fail
        go_quiet (first | (go_at_call 186; refine Calls.quiet_of_same (Less_any _ _ _)))
        go_wp2_with fail
        have HA2 := Lib.hid (At.drewN HA.out nq)
        have hcw2 : ∀ t, t < N → (wr.drewN nq).cell? ⟨blk, off + t, none⟩ = some (.int .u32 (G t)) := hcw
        have hfw2 : ∀ t, t < N → (wr.drewN nq).frozen? ⟨blk, off + t, none⟩ = false := hfw
        clear hcw hfw HA HC
        generalize wr.drewN nq = w2 at *
        go_quiet (first | (go_at_call 186; refine Calls.quiet_of_same (Less_any _ _ _)))
        go_wp2_with fail
        · have h3 : ltInt (G (first + r)) (G (first + c)) = false := by (have hq : (!ltInt (G (first + r)) (G (first + c))) = true := (by assumption)); simpa using hq
          refine bodyPost_ret (results_none rfl _ _ _) rfl ?_
          refine ⟨rfl, ?_⟩
          rw [HG.out, HG.out] at h3
          rw [← HO.out, sl_stop ltInt HCq.out dk h0 (fun h => absurd h h1) h3]
          exact At.drewN HA2.out _
        · have h3 : ltInt (G (first + r)) (G (first + c)) = true := by (have hq : (!ltInt (G (first + r)) (G (first + c))) = false := (by assumption)); simpa using hq
          go_region
          all_goals go_wp2_with fail
          go_roundw
          case rel =>
            rw [HG.out, HG.out] at h3
            refine ⟨c, swp dk (first + r) (first + c), by go_num, by omega, by rw [size_swp]; exact HS.out, ?_, by rw [← HO.out, sl_go ltInt HCq.out dk h0 (fun h => absurd h h1) h3]⟩
            rw [HG.out, HG.out]
            exact At.swap HA2.out HH.out (HS.out.trans HN.out) HB.out _ (first + r) (first + c) (by rw [HS.out]; omega) (by rw [HS.out]; omega)
          case measure => simp [intOf]; omega
    · go_wp2_with fail
      go_end0
      refine ⟨rfl, ?_⟩
      rw [← HO.out, sd_end ltInt dk (by omega)]
      exact HA.out
end Go.Proofs.Ytafepficapdepaa.su

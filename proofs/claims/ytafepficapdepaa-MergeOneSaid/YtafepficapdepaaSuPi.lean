/- What a few steps of insertion make of numbers of 32 bits. Conditions as the statement says. -/
import Derived.Sort.WalkA6
import Derived.Deep.CutBlock
import Derived.Deep.DeepCutAuto
import Derived.Test.YtafepficapdepaaSu
import Derived.Test.YtafepficapdepaaKit
namespace Go.Proofs.Ytafepficapdepaa.su
open Go.Proofs Go.RowKit Go.Sort Go.Proofs.Ytafepficapdepaa.kit
set_option linter.unusedVariables false
set_option linter.unusedSimpArgs false
set_option maxRecDepth 100000 in
set_option maxHeartbeats 8000000 in
theorem pi_any (blk off cap a b : Nat) (d : Array Int) (N : Nat) (hN : N = d.size) (w : World) (hH : Holds eu w blk off d) (hblk : blk < w.heap.size) (hab : a < b) (hb : b ≤ N) (hsz : N < 1152921504606846976) :
    Calls Try.prog 185 #[.slice (some ⟨blk, off, none⟩) N cap, .int .i64 a, .int .i64 b] w fun e w' =>
      e = .returned (.bool (partialInsertionSort ltInt d a b).2) ∧ At eu w blk off (partialInsertionSort ltInt d a b).1 w' := by
  have HH := Lib.hid hH
  have HB := Lib.hid hblk
  have HN := Lib.hid hN
  have E : partialInsertionSort ltInt d a b = partialIns ltInt a b (5 - 0) (a + 1) d := rfl
  rw [E]
  obtain ⟨L, hL⟩ : ∃ L, L = b - a := ⟨_, rfl⟩
  have eL : (b : Int) - (a : Int) = (L : Int) := by omega
  have HL := Lib.hid hL
  clear E hH hblk hN hL
  go_enter Try.func185, Try.ntmps185
  go_wp2_with fail
  go_loopw [7, 8] (fun vi vs wr => ∃ (i s : Nat) (dk : Array Int), vi = .int .i64 (i : Int) ∧ vs = .int .i64 (s : Int) ∧ s ≤ 5 ∧ a < i ∧ i ≤ b ∧ dk.size = N ∧ At eu w blk off dk wr ∧ partialIns ltInt a b (5 - s) i dk = partialIns ltInt a b (5 - 0) (a + 1) d) (fun _ vs _ => 5 - (intOf vs).toNat)
  case atStart => exact ⟨a + 1, 0, d, by go_num, by go_num, by omega, by omega, by omega, HN.out.symm, At.refl HH.out, rfl⟩
  case round =>
    obtain ⟨i, s, dk, rfl, rfl, hs5, hai, hib, hsk, hA, hO⟩ := hrel
    have HA := Lib.hid hA
    have HO := Lib.hid hO
    have HS := Lib.hid hsk
    clear hA hO
    by_cases hs : s < 5
    · obtain ⟨G, hG⟩ : ∃ G : Nat → Int, ∀ t, G t = dk[t]! := ⟨fun t => dk[t]!, fun _ => rfl⟩
      have HG := Lib.hid hG
      have HCW : Hid (∀ wr, At eu w blk off dk wr → ∀ t, t < N → wr.cell? ⟨blk, off + t, none⟩ = some (.int .u32 (G t)) ∧ wr.frozen? ⟨blk, off + t, none⟩ = false) := fun wr h t ht => by
        rw [hG]
        exact At.cells h HH.out (hsk.trans HN.out) HB.out t (by rw [hsk]; exact ht)
      clear hG hsk
      go_wp2_with fail
      go_loopw [7] (fun v wq => ∃ k : Nat, v = .int .i64 (k : Int) ∧ i ≤ k ∧ k ≤ b ∧ At eu w blk off dk wq ∧ scanSorted ltInt dk b k = scanSorted ltInt dk b i) (fun v _ => b - (intOf v).toNat)
      case atStart => exact ⟨i, rfl, Nat.le_refl _, hib, HA.out, rfl⟩
      case round =>
        obtain ⟨k, rfl, hik, hkb, hA, hO2⟩ := hrel
        have HA1 := Lib.hid hA
        have HO2 := Lib.hid hO2
        have hcw : ∀ t, t < N → wr.cell? ⟨blk, off + t, none⟩ = some (.int .u32 (G t)) := fun t ht => (HCW.out _ hA t ht).1
        have hfw : ∀ t, t < N → wr.frozen? ⟨blk, off + t, none⟩ = false := fun t ht => (HCW.out _ hA t ht).2
        clear hA hO2
        by_cases hk : k < b
        · have hkN : k < N := by omega
          have q1 : (k : Int) - 1 < (N : Int) := by omega
          go_wp2_with fail
          go_quiet (first | (go_at_call 186; refine Calls.quiet_of_same (Less_any _ _ _)))
          go_upto_if 37 with fail
          · have hl : ltInt (G k) (G (k - 1)) = false := by (have hq : (!ltInt (G k) (G (k - 1))) = true := (by assumption)); simpa using hq
            go_roundw
            case rel =>
              rw [HG.out, HG.out] at hl
              exact ⟨k + 1, by go_num, by omega, by omega, At.drewN HA1.out nq, by rw [← HO2.out]; exact (scanSorted_go ltInt dk b k hk hl).symm⟩
            case measure => simp [intOf]; omega
          · have hl : ltInt (G k) (G (k - 1)) = true := by (have hq : (!ltInt (G k) (G (k - 1))) = false := (by assumption)); simpa using hq
            rw [HG.out, HG.out] at hl
            have HK : Hid (scanSorted ltInt dk b i = k) := by rw [Hid, ← HO2.out]; exact scanSorted_stop ltInt dk b k (Or.inr hl)
            have hne : ((k : Int) == (b : Int)) = false := by simp; omega
            clear hl
            have HA2 := Lib.hid (At.drewN HA1.out nq)
            have hcw2 : ∀ t, t < N → (wr.drewN nq).cell? ⟨blk, off + t, none⟩ = some (.int .u32 (G t)) := hcw
            have hfw2 : ∀ t, t < N → (wr.drewN nq).frozen? ⟨blk, off + t, none⟩ = false := hfw
            clear hcw hfw HA1 HA
            generalize wr.drewN nq = wq at *
            by_cases h50 : L < 50
            · have q50 : decide ((L : Int) < 50) = true := by simp; omega
              go_wp2_with fail
              go_ret
              rw [← HO.out, pi_short ltInt a b s i dk hs (by rw [HK.out]; omega) (by rw [← HL.out]; exact h50)]
              exact ⟨rfl, HA2.out⟩
            · have q50 : decide ((L : Int) < 50) = false := by simp; omega
              have HGo : Hid (partialIns ltInt a b (5 - (s + 1)) k (fixUp ltInt b k (fixDown ltInt a k (swp dk k (k - 1)))) = partialIns ltInt a b (5 - 0) (a + 1) d) := by
                rw [Hid, ← HO.out, pi_go ltInt a b s i k dk hs HK.out (by omega) (by rw [← HL.out]; exact h50)]
              have HSw : Hid (∀ q, At eu w blk off (swp dk k (k - 1)) (((wq.drewN q).setCell ⟨blk, off + k, none⟩ (.int .u32 (G (k - 1)))).setCell ⟨blk, off + (k - 1), none⟩ (.int .u32 (G k)))) := fun q => by
                rw [HG.out, HG.out]
                exact At.swap HA2.out HH.out (HS.out.trans HN.out) HB.out q k (k - 1) (by rw [HS.out]; omega) (by rw [HS.out]; omega)
              have HS1 : Hid ((swp dk k (k - 1)).size = N) := by rw [Hid, size_swp]; exact HS.out
              clear HO HO2 HK HG
              generalize swp dk k (k - 1) = d1 at HGo HSw HS1
              have hk1 : 1 ≤ k := by omega
              go_wp2_with fail
              go_region
              have HA3 : Hid (At eu w blk off d1 ((wq.setCell ⟨blk, off + k, none⟩ (.int .u32 (G (k - 1)))).setCell ⟨blk, off + (k - 1), none⟩ (.int .u32 (G k))).drew) := HSw.out 1
              clear HSw hcw2 hfw2 HA2
              generalize ((wq.setCell ⟨blk, off + k, none⟩ (.int .u32 (G (k - 1)))).setCell ⟨blk, off + (k - 1), none⟩ (.int .u32 (G k))).drew = w3 at *
              go_upto_if 61 with fail
              go_cut [] (fun wx => ∃ (d2 : Array Int), At eu w blk off d2 wx ∧ d2.size = N ∧ d2 = fixDown ltInt a k d1)
              case first =>
                by_cases h2 : k - a ≥ 2
                · have q2 : decide ((2 : Int) ≤ (k : Int) - (a : Int)) = true := by simp; omega
                  have HF : Hid (fixDown ltInt a k d1 = shiftDown ltInt (k - 1) d1) := if_pos h2
                  go_wp2_with fail
                  go_loopw [9] (fun v wq => ∃ (t : Nat) (dj : Array Int), v = .int .i64 (t : Int) ∧ t ≤ k - 1 ∧ dj.size = N ∧ At eu w blk off dj wq ∧ shiftDown ltInt t dj = shiftDown ltInt (k - 1) d1) (fun v _ => (intOf v).toNat)
                  case atStart => exact ⟨k - 1, d1, by go_num, Nat.le_refl _, HS1.out, HA3.out, rfl⟩
                  case round =>
                    obtain ⟨t, dj, rfl, htj, hsj, hA, hO2⟩ := hrel
                    have HA4 := Lib.hid hA
                    have HO4 := Lib.hid hO2
                    have HSj := Lib.hid hsj
                    obtain ⟨F, hF⟩ : ∃ F : Nat → Int, ∀ t, F t = dj[t]! := ⟨fun t => dj[t]!, fun _ => rfl⟩
                    have hcw : ∀ t, t < N → wr.cell? ⟨blk, off + t, none⟩ = some (.int .u32 (F t)) := fun t ht => by rw [hF]; exact (At.cells hA HH.out (hsj.trans HN.out) HB.out t (by rw [hsj]; exact ht)).1
                    have hfw : ∀ t, t < N → wr.frozen? ⟨blk, off + t, none⟩ = false := fun t ht => (At.cells hA HH.out (hsj.trans HN.out) HB.out t (by rw [hsj]; exact ht)).2
                    have HFF := Lib.hid hF
                    clear hA hO2 hsj hF
                    by_cases ht1 : 1 ≤ t
                    · have htN : t < N := by omega
                      have q3 : (t : Int) - 1 < (N : Int) := by omega
                      go_wp2_with fail
                      go_quiet (first | (go_at_call 186; refine Calls.quiet_of_same (Less_any _ _ _)))
                      go_wp2_with fail
                      · have hl : ltInt (F t) (F (t - 1)) = false := by (have hq : (!ltInt (F t) (F (t - 1))) = true := (by assumption)); simpa using hq
                        rw [HFF.out, HFF.out] at hl
                        go_meet
                        exact ⟨dj, At.drewN HA4.out nq, HSj.out, by rw [HF.out, ← HO4.out]; exact (shiftDown_stop ltInt t dj (Or.inr hl)).symm⟩
                      · have hl : ltInt (F t) (F (t - 1)) = true := by (have hq : (!ltInt (F t) (F (t - 1))) = false := (by assumption)); simpa using hq
                        rw [HFF.out, HFF.out] at hl
                        have HLt := Lib.hid hl
                        clear hl
                        have HA5 := Lib.hid (At.drewN HA4.out nq)
                        have hcw2 : ∀ t, t < N → (wr.drewN nq).cell? ⟨blk, off + t, none⟩ = some (.int .u32 (F t)) := hcw
                        have hfw2 : ∀ t, t < N → (wr.drewN nq).frozen? ⟨blk, off + t, none⟩ = false := hfw
                        clear hcw hfw
                        generalize wr.drewN nq = wz at *
                        go_region
                        all_goals go_wp2_with fail
                        go_roundw
                        case rel =>
                          refine ⟨t - 1, swp dj t (t - 1), by go_num, by omega, by rw [size_swp]; exact HSj.out, ?_, by rw [← HO4.out, shiftDown_go ltInt t dj ht1 HLt.out]⟩
                          rw [HFF.out, HFF.out]
                          exact At.swap HA5.out HH.out (HSj.out.trans HN.out) HB.out 1 t (t - 1) (by rw [HSj.out]; omega) (by rw [HSj.out]; omega)
                        case measure => simp [intOf]; omega
                    · obtain rfl : t = 0 := by omega
                      go_wp2_with fail
                      go_meet
                      exact ⟨dj, HA4.out, HSj.out, by rw [HF.out, ← HO4.out]; exact (shiftDown_stop ltInt 0 dj (Or.inl rfl)).symm⟩
                · have q2 : decide ((2 : Int) ≤ (k : Int) - (a : Int)) = false := by simp; omega
                  go_wp2_with fail
                  go_meet
                  exact ⟨d1, HA3.out, HS1.out, (if_neg h2).symm⟩
              case' rest =>
                obtain ⟨d2, hA, hs2, hd2⟩ := hcut
                have HA6 := Lib.hid hA
                have HS2 := Lib.hid hs2
                rw [← hd2] at HGo
                clear hA hs2 hd2 HA3 HS1
                by_cases h2 : b - k ≥ 2
                · have q2 : decide ((2 : Int) ≤ (b : Int) - (k : Int)) = true := by simp; omega
                  have HF : Hid (fixUp ltInt b k d2 = shiftUp ltInt b (k + 1) d2) := if_pos h2
                  go_wp2_with fail
                  go_loopw [10] (fun v wq => ∃ (t : Nat) (dj : Array Int), v = .int .i64 (t : Int) ∧ k + 1 ≤ t ∧ t ≤ b ∧ dj.size = N ∧ At eu w blk off dj wq ∧ shiftUp ltInt b t dj = shiftUp ltInt b (k + 1) d2) (fun v _ => b - (intOf v).toNat)
                  case atStart => exact ⟨k + 1, d2, by go_num, Nat.le_refl _, by omega, HS2.out, HA6.out, rfl⟩
                  case round =>
                    obtain ⟨t, dj, rfl, hkt, htb, hsj, hA, hO2⟩ := hrel
                    have HA4 := Lib.hid hA
                    have HO4 := Lib.hid hO2
                    have HSj := Lib.hid hsj
                    obtain ⟨F, hF⟩ : ∃ F : Nat → Int, ∀ t, F t = dj[t]! := ⟨fun t => dj[t]!, fun _ => rfl⟩
                    have hcw : ∀ t, t < N → wr.cell? ⟨blk, off + t, none⟩ = some (.int .u32 (F t)) := fun t ht => by rw [hF]; exact (At.cells hA HH.out (hsj.trans HN.out) HB.out t (by rw [hsj]; exact ht)).1
                    have hfw : ∀ t, t < N → wr.frozen? ⟨blk, off + t, none⟩ = false := fun t ht => (At.cells hA HH.out (hsj.trans HN.out) HB.out t (by rw [hsj]; exact ht)).2
                    have HFF := Lib.hid hF
                    clear hA hO2 hsj hF
                    by_cases ht1 : t < b
                    · have htN : t < N := by omega
                      have q3 : (t : Int) - 1 < (N : Int) := by omega
                      go_wp2_with fail
                      go_quiet (first | (go_at_call 186; refine Calls.quiet_of_same (Less_any _ _ _)))
                      go_wp2_with fail
                      · have hl : ltInt (F t) (F (t - 1)) = false := by (have hq : (!ltInt (F t) (F (t - 1))) = true := (by assumption)); simpa using hq
                        rw [HFF.out, HFF.out] at hl
                        have HE : Hid (fixUp ltInt b k d2 = dj) := by rw [Hid, HF.out, ← HO4.out]; exact shiftUp_stop ltInt b t dj (Or.inr hl)
                        clear hl
                        go_wp2_with fail
                        go_roundw
                        case rel => exact ⟨k, s + 1, dj, rfl, by go_num, by omega, by omega, by omega, HSj.out, At.drewN HA4.out nq, by rw [← HE.out]; exact HGo.out⟩
                        case measure => simp [intOf]; omega
                      · have hl : ltInt (F t) (F (t - 1)) = true := by (have hq : (!ltInt (F t) (F (t - 1))) = false := (by assumption)); simpa using hq
                        rw [HFF.out, HFF.out] at hl
                        have HLt := Lib.hid hl
                        clear hl
                        have HA5 := Lib.hid (At.drewN HA4.out nq)
                        have hcw2 : ∀ t, t < N → (wr.drewN nq).cell? ⟨blk, off + t, none⟩ = some (.int .u32 (F t)) := hcw
                        have hfw2 : ∀ t, t < N → (wr.drewN nq).frozen? ⟨blk, off + t, none⟩ = false := hfw
                        clear hcw hfw
                        generalize wr.drewN nq = wz at *
                        go_region
                        all_goals go_wp2_with fail
                        go_roundw
                        case rel =>
                          refine ⟨t + 1, swp dj t (t - 1), by go_num, by omega, by omega, by rw [size_swp]; exact HSj.out, ?_, by rw [← HO4.out, shiftUp_go ltInt b t dj ht1 HLt.out]⟩
                          rw [HFF.out, HFF.out]
                          exact At.swap HA5.out HH.out (HSj.out.trans HN.out) HB.out 1 t (t - 1) (by rw [HSj.out]; omega) (by rw [HSj.out]; omega)
                        case measure => simp [intOf]; omega
                    · go_wp2_with fail
                      have HE : Hid (fixUp ltInt b k d2 = dj) := by rw [Hid, HF.out, ← HO4.out]; exact shiftUp_stop ltInt b t dj (Or.inl ht1)
                      go_wp2_with fail
                      go_roundw
                      case rel => exact ⟨k, s + 1, dj, rfl, by go_num, by omega, by omega, by omega, HSj.out, HA4.out, by rw [← HE.out]; exact HGo.out⟩
                      case measure => simp [intOf]; omega
                · have q2 : decide ((2 : Int) ≤ (b : Int) - (k : Int)) = false := by simp; omega
                  go_wp2_with fail
                  go_roundw
                  case rel => exact ⟨k, s + 1, d2, rfl, by go_num, by omega, by omega, by omega, HS2.out, HA6.out, by have := HGo.out; rw [show fixUp ltInt b k d2 = d2 from if_neg h2] at this; exact this⟩
                  case measure => simp [intOf]; omega
        · obtain rfl : k = b := by omega
          go_wp2_with fail
          go_quiet (first | (go_at_call 186; refine Calls.quiet_of_same (Less_any _ _ _)))
          go_wp2_with fail
          go_ret
          rw [← HO.out, pi_true ltInt a k s i dk hs (by rw [← HO2.out]; exact scanSorted_stop ltInt dk k k (Or.inl hk))]
          exact ⟨rfl, At.drewN HA1.out nq⟩
    · obtain rfl : s = 5 := by omega
      go_wp2_with fail
      go_ret
      rw [← HO.out]
      exact ⟨rfl, HA.out⟩
end Go.Proofs.Ytafepficapdepaa.su

/- How numbers of 32 bits are parted by one that equals the least. Conditions as the statement says. -/
import Derived.Sort.WalkC4
import Derived.Deep.CutBlock
import Derived.Deep.DeepCutAuto
import Derived.Test.YtafepficapdepaaSu
import Derived.Test.YtafepficapdepaaKit
namespace Go.Proofs.Ytafepficapdepaa.su
open Go.Proofs Go.RowKit Go.Sort Go.Proofs.Ytafepficapdepaa.kit
set_option linter.unusedVariables false
set_option linter.unusedSimpArgs false
set_option maxRecDepth 100000 in
set_option maxHeartbeats 8000000 in
theorem parteq_any (blk off cap a b pivot : Nat) (d : Array Int) (N : Nat) (hN : N = d.size) (w : World) (hH : Holds eu w blk off d) (hblk : blk < w.heap.size) (hap : a ≤ pivot) (hpb : pivot < b) (hb : b ≤ N) (hsz : N < 1152921504606846976) :
    Calls Try.prog 187 #[.slice (some ⟨blk, off, none⟩) N cap, .int .i64 a, .int .i64 b, .int .i64 pivot] w fun e w' =>
      e = .returned (.int .i64 (partitionEqual ltInt d a b pivot).1) ∧ At eu w blk off (partitionEqual ltInt d a b pivot).2 w' := by
  have HH := Lib.hid hH
  have HB := Lib.hid hblk
  have HN := Lib.hid hN
  obtain ⟨ca, fa⟩ := hH a (by omega)
  obtain ⟨cp, fp⟩ := hH pivot (by omega)
  obtain ⟨x, hx⟩ : ∃ x : Int, x = d[a]! := ⟨_, rfl⟩
  obtain ⟨y, hy⟩ : ∃ y : Int, y = d[pivot]! := ⟨_, rfl⟩
  have HS0 : Hid (∀ q, At eu w blk off (swp d a pivot) (((w.drewN q).setCell ⟨blk, off + a, none⟩ (eu y)).setCell ⟨blk, off + pivot, none⟩ (eu x))) := fun q => by
    rw [hx, hy]
    exact At.swap (At.refl hH) hH rfl hblk q a pivot (by omega) (by omega)
  replace ca : w.cell? ⟨blk, off + a, none⟩ = some (.int .u32 x) := by rw [hx]; exact ca
  replace cp : w.cell? ⟨blk, off + pivot, none⟩ = some (.int .u32 y) := by rw [hy]; exact cp
  obtain ⟨v', hv'⟩ := cell?_setCell_some (w := w) (p := ⟨blk, off + a, none⟩) (x := .int .u32 y) (q := ⟨blk, off + pivot, none⟩) cp
  have hsz1 : (swp d a pivot).size = N := by rw [size_swp, ← hN]
  have E : partitionEqual ltInt d a b pivot = partEqLoop ltInt a (a + 1) (b - 1) (swp d a pivot) := rfl
  rw [E]
  generalize swp d a pivot = d1 at HS0 hsz1
  have HS1 := Lib.hid hsz1
  have haN : a < N := by omega
  have hpN : pivot < N := by omega
  clear hH hblk hN hx hy E hsz1
  go_enter Try.func187, Try.ntmps187
  go_wp2_with fail
  go_region
  all_goals go_wp2_with fail
  go_loopw [9, 10] (fun v9 v10 wr => ∃ (i j : Nat) (dk : Array Int), v9 = .int .i64 (i : Int) ∧ v10 = .int .i64 (j : Int) ∧ a < i ∧ i ≤ j + 1 ∧ j < b ∧ dk.size = N ∧ At eu w blk off dk wr ∧ partEqLoop ltInt a i j dk = partEqLoop ltInt a (a + 1) (b - 1) d1) (fun v9 v10 _ => ((intOf v10) + 1 - (intOf v9)).toNat)
  case atStart => exact ⟨a + 1, b - 1, d1, by go_num, by go_num, by omega, by omega, by omega, HS1.out, HS0.out 1, rfl⟩
  case round =>
    obtain ⟨i, j, dk, rfl, rfl, hai, hij, hjb, hsk, hA, hO⟩ := hrel
    have HA := Lib.hid hA
    have HO := Lib.hid hO
    have HS := Lib.hid hsk
    clear hA hO hsk
    obtain ⟨G, hG⟩ : ∃ G : Nat → Int, ∀ t, G t = dk[t]! := ⟨fun t => dk[t]!, fun _ => rfl⟩
    have HG := Lib.hid hG
    have HCW : Hid (∀ wr, At eu w blk off dk wr → ∀ t, t < N → wr.cell? ⟨blk, off + t, none⟩ = some (.int .u32 (G t)) ∧ wr.frozen? ⟨blk, off + t, none⟩ = false) := fun wr h t ht => by
      rw [hG]
      exact At.cells h HH.out (HS.out.trans HN.out) HB.out t (by rw [HS.out]; exact ht)
    clear hG
    go_upto_block 2 with fail
    go_cut [9] (fun s wx => ∃ i2 : Nat, s = .int .i64 (i2 : Int) ∧ i ≤ i2 ∧ i2 ≤ j + 1 ∧ At eu w blk off dk wx ∧ i2 = scanUp (fun x => !ltInt dk[a]! x) dk j i)
    case first =>
      go_wp2_with fail
      go_loopw [9] (fun v wq => ∃ i2 : Nat, v = .int .i64 (i2 : Int) ∧ i ≤ i2 ∧ i2 ≤ j + 1 ∧ At eu w blk off dk wq ∧ scanUp (fun x => !ltInt dk[a]! x) dk j i2 = scanUp (fun x => !ltInt dk[a]! x) dk j i) (fun v _ => j + 1 - (intOf v).toNat)
      case atStart => exact ⟨i, rfl, Nat.le_refl _, hij, HA.out, rfl⟩
      case round =>
        obtain ⟨i2, rfl, hi2, hi2j, hA, hO2⟩ := hrel
        have HA1 := Lib.hid hA
        have HO2 := Lib.hid hO2
        have hcw : ∀ t, t < N → wr.cell? ⟨blk, off + t, none⟩ = some (.int .u32 (G t)) := fun t ht => (HCW.out _ hA t ht).1
        have hfw : ∀ t, t < N → wr.frozen? ⟨blk, off + t, none⟩ = false := fun t ht => (HCW.out _ hA t ht).2
        clear hA hO2
        by_cases hb1 : i2 ≤ j
        · have hiN : i2 < N := by omega
          go_wp2_with fail
          go_quiet (first | (go_at_call 186; refine Calls.quiet_of_same (Less_any _ _ _)))
          go_wp2_with fail
          · have hl : ltInt (G a) (G i2) = false := by (have hq : (!ltInt (G a) (G i2)) = true := (by assumption)); simpa using hq
            go_roundw
            case rel =>
              rw [HG.out, HG.out] at hl
              exact ⟨i2 + 1, by go_num, by omega, by omega, At.drewN HA1.out nq, by rw [← HO2.out]; exact (scanUp_go _ dk j i2 hb1 (by simp [hl])).symm⟩
            case measure => simp [intOf]; omega
          · have hl : ltInt (G a) (G i2) = true := by (have hq : (!ltInt (G a) (G i2)) = false := (by assumption)); simpa using hq
            go_meet
            rw [HG.out, HG.out] at hl
            exact ⟨i2, rfl, hi2, hi2j, At.drewN HA1.out nq, by rw [← HO2.out]; exact (scanUp_end _ dk j i2 (Or.inr (by simp [hl]))).symm⟩
        · go_wp2_with fail
          go_quiet (first | (go_at_call 186; refine Calls.quiet_of_same (Less_any _ _ _)))
          go_wp2_with fail
          go_meet
          exact ⟨i2, rfl, hi2, hi2j, At.drewN HA1.out nq, by rw [← HO2.out]; exact (scanUp_end _ dk j i2 (Or.inl hb1)).symm⟩
    case' rest =>
      obtain ⟨i2, rfl, hi2, hi2j, hA, hU⟩ := hcut
      have HA2 := Lib.hid hA
      have HU := Lib.hid hU
      clear hA hU
      go_upto_block 4 with fail
      go_cut [10] (fun s wx => ∃ j2 : Nat, s = .int .i64 (j2 : Int) ∧ j2 ≤ j ∧ i2 ≤ j2 + 1 ∧ At eu w blk off dk wx ∧ j2 = scanDown (fun x => ltInt dk[a]! x) dk i2 j)
      case first =>
        go_wp2_with fail
        go_loopw [10] (fun v wq => ∃ j2 : Nat, v = .int .i64 (j2 : Int) ∧ j2 ≤ j ∧ i2 ≤ j2 + 1 ∧ At eu w blk off dk wq ∧ scanDown (fun x => ltInt dk[a]! x) dk i2 j2 = scanDown (fun x => ltInt dk[a]! x) dk i2 j) (fun v _ => (intOf v).toNat)
        case atStart => exact ⟨j, rfl, Nat.le_refl _, hi2j, HA2.out, rfl⟩
        case round =>
          obtain ⟨j2, rfl, hj2, hij2, hA, hO2⟩ := hrel
          have HA1 := Lib.hid hA
          have HO2 := Lib.hid hO2
          have hcw : ∀ t, t < N → wr.cell? ⟨blk, off + t, none⟩ = some (.int .u32 (G t)) := fun t ht => (HCW.out _ hA t ht).1
          have hfw : ∀ t, t < N → wr.frozen? ⟨blk, off + t, none⟩ = false := fun t ht => (HCW.out _ hA t ht).2
          clear hA hO2
          by_cases hb1 : i2 ≤ j2
          · have hjN : j2 < N := by omega
            have hj0 : 0 < j2 := by omega
            go_wp2_with fail
            go_quiet (first | (go_at_call 186; refine Calls.quiet_of_same (Less_any _ _ _)))
            go_wp2_with fail
            · have hl : ltInt (G a) (G j2) = true := by assumption
              go_roundw
              case rel =>
                rw [HG.out, HG.out] at hl
                exact ⟨j2 - 1, by go_num, by omega, by omega, At.drewN HA1.out nq, by rw [← HO2.out]; exact (scanDown_go _ dk i2 j2 hb1 hj0 (by simp [hl])).symm⟩
              case measure => simp [intOf]; omega
            · have hl : ltInt (G a) (G j2) = false := by assumption
              go_meet
              rw [HG.out, HG.out] at hl
              exact ⟨j2, rfl, hj2, hij2, At.drewN HA1.out nq, by rw [← HO2.out]; exact (scanDown_end _ dk i2 j2 (Or.inr (by simp [hl]))).symm⟩
          · go_wp2_with fail
            go_quiet (first | (go_at_call 186; refine Calls.quiet_of_same (Less_any _ _ _)))
            go_wp2_with fail
            go_meet
            exact ⟨j2, rfl, hj2, hij2, At.drewN HA1.out nq, by rw [← HO2.out]; exact (scanDown_end _ dk i2 j2 (Or.inl hb1)).symm⟩
      case' rest =>
        obtain ⟨j2, rfl, hj2, hij2, hA, hV⟩ := hcut
        have HA3 := Lib.hid hA
        have HV := Lib.hid hV
        have hcw : ∀ t, t < N → wc.cell? ⟨blk, off + t, none⟩ = some (.int .u32 (G t)) := fun t ht => (HCW.out _ hA t ht).1
        have hfw : ∀ t, t < N → wc.frozen? ⟨blk, off + t, none⟩ = false := fun t ht => (HCW.out _ hA t ht).2
        clear hA hV
        by_cases hgt : j2 < i2
        · go_wp2_with fail
          go_ret
          refine ⟨?_, ?_⟩
          · rw [← HO.out, partEq_break ltInt a i j dk HU.out HV.out hgt]; rfl
          · rw [← HO.out, partEq_break ltInt a i j dk HU.out HV.out hgt]; exact HA3.out
        · have hlt : i2 < j2 := scans_lt ltInt a i j dk (by omega) HU.out HV.out (by omega)
          have hi2N : i2 < N := by omega
          have hj2N : j2 < N := by omega
          go_wp2_with fail
          go_region
          all_goals go_wp2_with fail
          go_roundw
          case rel =>
            refine ⟨i2 + 1, j2 - 1, swp dk i2 j2, by go_num, by go_num, by omega, by omega, by omega, by rw [size_swp]; exact HS.out, ?_, by rw [← HO.out, partEq_go ltInt a i j dk HU.out HV.out hgt]⟩
            rw [HG.out, HG.out]
            exact At.swap HA3.out HH.out (HS.out.trans HN.out) HB.out 1 i2 j2 (by rw [HS.out]; omega) (by rw [HS.out]; omega)
          case measure => simp [intOf]; omega
end Go.Proofs.Ytafepficapdepaa.su

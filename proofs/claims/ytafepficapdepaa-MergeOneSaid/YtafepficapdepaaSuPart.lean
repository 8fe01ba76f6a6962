/- How numbers of 32 bits are parted by one of them. Conditions as the statement says. -/
import Derived.Sort.WalkC4
import Derived.Deep.CutBlock
import Derived.Deep.DeepCutAuto
import Derived.Test.YtafepficapdepaaSu
import Derived.Test.YtafepficapdepaaKit
namespace Go.Proofs.Ytafepficapdepaa.su
open Go.Proofs Go.RowKit Go.Sort Go.Proofs.Ytafepficapdepaa.kit
set_option linter.unusedVariables false
set_option linter.unusedSimpArgs false
set_option maxRecDepth 100000 in
set_option maxHeartbeats 8000000 in
theorem part_any (blk off cap a b pivot : Nat) (d : Array Int) (N : Nat) (hN : N = d.size) (w : World) (hH : Holds eu w blk off d) (hblk : blk < w.heap.size) (hap : a ≤ pivot) (hpb : pivot < b) (hb : b ≤ N) (hsz : N < 1152921504606846976) :
    Calls Try.prog 188 #[.slice (some ⟨blk, off, none⟩) N cap, .int .i64 a, .int .i64 b, .int .i64 pivot] w fun e w' =>
      e = .returned (.tuple #[.int .i64 (partition ltInt d a b pivot).1, .bool (partition ltInt d a b pivot).2.1]) ∧ At eu w blk off (partition ltInt d a b pivot).2.2 w' := by
  have HH := Lib.hid hH
  have HB := Lib.hid hblk
  have HN := Lib.hid hN
  obtain ⟨ca, fa⟩ := hH a (by omega)
  obtain ⟨cp, fp⟩ := hH pivot (by omega)
  obtain ⟨x, hx⟩ : ∃ x : Int, x = d[a]! := ⟨_, rfl⟩
  obtain ⟨y, hy⟩ : ∃ y : Int, y = d[pivot]! := ⟨_, rfl⟩
  have HS0 : Hid (∀ q, At eu w blk off (swp d a pivot) (((w.drewN q).setCell ⟨blk, off + a, none⟩ (eu y)).setCell ⟨blk, off + pivot, none⟩ (eu x))) := fun q => by
    rw [hx, hy]
    exact At.swap (At.refl hH) hH rfl hblk q a pivot (by omega) (by omega)
  replace ca : w.cell? ⟨blk, off + a, none⟩ = some (.int .u32 x) := by rw [hx]; exact ca
  replace cp : w.cell? ⟨blk, off + pivot, none⟩ = some (.int .u32 y) := by rw [hy]; exact cp
  obtain ⟨v', hv'⟩ := cell?_setCell_some (w := w) (p := ⟨blk, off + a, none⟩) (x := .int .u32 y) (q := ⟨blk, off + pivot, none⟩) cp
  have hsz1 : (swp d a pivot).size = N := by rw [size_swp, ← hN]
  have HE1 : Hid (∀ i2 j2, i2 = scanUp (fun x => ltInt x (swp d a pivot)[a]!) (swp d a pivot) (b - 1) (a + 1) → j2 = scanDown (fun x => !ltInt x (swp d a pivot)[a]!) (swp d a pivot) i2 (b - 1) → j2 < i2 → partition ltInt d a b pivot = (j2, true, swp (swp d a pivot) j2 a)) := fun i2 j2 h1 h2 h3 => part_first_break ltInt d a b pivot rfl rfl rfl h1 h2 h3
  have HE2 : Hid (∀ i2 j2, i2 = scanUp (fun x => ltInt x (swp d a pivot)[a]!) (swp d a pivot) (b - 1) (a + 1) → j2 = scanDown (fun x => !ltInt x (swp d a pivot)[a]!) (swp d a pivot) i2 (b - 1) → ¬ i2 > j2 → partition ltInt d a b pivot = ((partLoop ltInt a (i2 + 1) (j2 - 1) (swp (swp d a pivot) i2 j2)).1, false, swp (partLoop ltInt a (i2 + 1) (j2 - 1) (swp (swp d a pivot) i2 j2)).2 (partLoop ltInt a (i2 + 1) (j2 - 1) (swp (swp d a pivot) i2 j2)).1 a)) := fun i2 j2 h1 h2 h3 => part_first_go ltInt d a b pivot rfl rfl rfl h1 h2 h3
  generalize partition ltInt d a b pivot = R at HE1 HE2
  generalize swp d a pivot = dk at HS0 hsz1 HE1 HE2
  have HS := Lib.hid hsz1
  have haN : a < N := by omega
  have hpN : pivot < N := by omega
  obtain ⟨i, hi⟩ : ∃ i, i = a + 1 := ⟨_, rfl⟩
  obtain ⟨j, hj⟩ : ∃ j, j = b - 1 := ⟨_, rfl⟩
  have eI : (a : Int) + 1 = (i : Int) := by omega
  have eJ : (b : Int) - 1 = (j : Int) := by omega
  have hai : a < i := by omega
  have hij : i ≤ j + 1 := by omega
  have hjb : j < b := by omega
  rw [← hi, ← hj] at HE1 HE2
  clear hH hblk hN hx hy hsz1 hi hj
  obtain ⟨G, hG⟩ : ∃ G : Nat → Int, ∀ t, G t = dk[t]! := ⟨fun t => dk[t]!, fun _ => rfl⟩
  have HG := Lib.hid hG
  have HCW : Hid (∀ wr, At eu w blk off dk wr → ∀ t, t < N → wr.cell? ⟨blk, off + t, none⟩ = some (.int .u32 (G t)) ∧ wr.frozen? ⟨blk, off + t, none⟩ = false) := fun wr h t ht => by
    rw [hG]
    exact At.cells h HH.out (HS.out.trans HN.out) HB.out t (by rw [HS.out]; exact ht)
  clear hG
  go_enter Try.func188, Try.ntmps188
  go_wp2_with fail
  go_region
  have HA : Hid (At eu w blk off dk ((w.setCell ⟨blk, off + a, none⟩ (Value.int .u32 y)).setCell ⟨blk, off + pivot, none⟩ (Value.int .u32 x)).drew) := HS0.out 1
  clear ca fa cp fp hv' HS0
  generalize ((w.setCell ⟨blk, off + a, none⟩ (Value.int .u32 y)).setCell ⟨blk, off + pivot, none⟩ (Value.int .u32 x)).drew = wa at *
  go_upto_block 0 with fail
  go_cut [10] (fun s wx => ∃ i2 : Nat, s = .int .i64 (i2 : Int) ∧ i ≤ i2 ∧ i2 ≤ j + 1 ∧ At eu w blk off dk wx ∧ i2 = scanUp (fun x => ltInt x dk[a]!) dk j i)
  case first =>
    go_wp2_with fail
    go_loopw [10] (fun v wq => ∃ i2 : Nat, v = .int .i64 (i2 : Int) ∧ i ≤ i2 ∧ i2 ≤ j + 1 ∧ At eu w blk off dk wq ∧ scanUp (fun x => ltInt x dk[a]!) dk j i2 = scanUp (fun x => ltInt x dk[a]!) dk j i) (fun v _ => j + 1 - (intOf v).toNat)
    case atStart => exact ⟨i, rfl, Nat.le_refl _, hij, HA.out, rfl⟩
    case round =>
      obtain ⟨i2, rfl, hi2, hi2j, hA, hO2⟩ := hrel
      have HA1 := Lib.hid hA
      have HO2 := Lib.hid hO2
      have hcw : ∀ t, t < N → wr.cell? ⟨blk, off + t, none⟩ = some (.int .u32 (G t)) := fun t ht => (HCW.out _ hA t ht).1
      have hfw : ∀ t, t < N → wr.frozen? ⟨blk, off + t, none⟩ = false := fun t ht => (HCW.out _ hA t ht).2
      clear hA hO2
      by_cases hb1 : i2 ≤ j
      · have hiN : i2 < N := by omega
        go_wp2_with fail
        go_quiet (first | (go_at_call 186; refine Calls.quiet_of_same (Less_any _ _ _)))
        go_wp2_with fail
        · have hl : ltInt (G i2) (G a) = true := by assumption
          go_roundw
          case rel =>
            rw [HG.out, HG.out] at hl
            exact ⟨i2 + 1, by go_num, by omega, by omega, At.drewN HA1.out nq, by rw [← HO2.out]; exact (scanUp_go _ dk j i2 hb1 (by simp [hl])).symm⟩
          case measure => simp [intOf]; omega
        · have hl : ltInt (G i2) (G a) = false := by assumption
          go_meet
          rw [HG.out, HG.out] at hl
          exact ⟨i2, rfl, hi2, hi2j, At.drewN HA1.out nq, by rw [← HO2.out]; exact (scanUp_end _ dk j i2 (Or.inr (by simp [hl]))).symm⟩
      · go_wp2_with fail
        go_quiet (first | (go_at_call 186; refine Calls.quiet_of_same (Less_any _ _ _)))
        go_wp2_with fail
        go_meet
        exact ⟨i2, rfl, hi2, hi2j, At.drewN HA1.out nq, by rw [← HO2.out]; exact (scanUp_end _ dk j i2 (Or.inl hb1)).symm⟩
  case' rest =>
    obtain ⟨i2, rfl, hi2, hi2j, hA, hU⟩ := hcut
    have HA2 := Lib.hid hA
    have HU := Lib.hid hU
    clear hA hU
    go_upto_block 2 with fail
    go_cut [11] (fun s wx => ∃ j2 : Nat, s = .int .i64 (j2 : Int) ∧ j2 ≤ j ∧ i2 ≤ j2 + 1 ∧ At eu w blk off dk wx ∧ j2 = scanDown (fun x => !ltInt x dk[a]!) dk i2 j)
    case first =>
      go_wp2_with fail
      go_loopw [11] (fun v wq => ∃ j2 : Nat, v = .int .i64 (j2 : Int) ∧ j2 ≤ j ∧ i2 ≤ j2 + 1 ∧ At eu w blk off dk wq ∧ scanDown (fun x => !ltInt x dk[a]!) dk i2 j2 = scanDown (fun x => !ltInt x dk[a]!) dk i2 j) (fun v _ => (intOf v).toNat)
      case atStart => exact ⟨j, rfl, Nat.le_refl _, hi2j, HA2.out, rfl⟩
      case round =>
        obtain ⟨j2, rfl, hj2, hij2, hA, hO2⟩ := hrel
        have HA1 := Lib.hid hA
        have HO2 := Lib.hid hO2
        have hcw : ∀ t, t < N → wr.cell? ⟨blk, off + t, none⟩ = some (.int .u32 (G t)) := fun t ht => (HCW.out _ hA t ht).1
        have hfw : ∀ t, t < N → wr.frozen? ⟨blk, off + t, none⟩ = false := fun t ht => (HCW.out _ hA t ht).2
        clear hA hO2
        by_cases hb1 : i2 ≤ j2
        · have hjN : j2 < N := by omega
          have hj0 : 0 < j2 := by omega
          go_wp2_with fail
          go_quiet (first | (go_at_call 186; refine Calls.quiet_of_same (Less_any _ _ _)))
          go_wp2_with fail
          · have hl : ltInt (G j2) (G a) = false := by (have hq : (!ltInt (G j2) (G a)) = true := (by assumption)); simpa using hq
            go_roundw
            case rel =>
              rw [HG.out, HG.out] at hl
              exact ⟨j2 - 1, by go_num, by omega, by omega, At.drewN HA1.out nq, by rw [← HO2.out]; exact (scanDown_go _ dk i2 j2 hb1 hj0 (by simp [hl])).symm⟩
            case measure => simp [intOf]; omega
          · have hl : ltInt (G j2) (G a) = true := by (have hq : (!ltInt (G j2) (G a)) = false := (by assumption)); simpa using hq
            go_meet
            rw [HG.out, HG.out] at hl
            exact ⟨j2, rfl, hj2, hij2, At.drewN HA1.out nq, by rw [← HO2.out]; exact (scanDown_end _ dk i2 j2 (Or.inr (by simp [hl]))).symm⟩
        · go_wp2_with fail
          go_quiet (first | (go_at_call 186; refine Calls.quiet_of_same (Less_any _ _ _)))
          go_wp2_with fail
          go_meet
          exact ⟨j2, rfl, hj2, hij2, At.drewN HA1.out nq, by rw [← HO2.out]; exact (scanDown_end _ dk i2 j2 (Or.inl hb1)).symm⟩
    case' rest =>
      obtain ⟨j2, rfl, hj2, hij2, hA, hV⟩ := hcut
      have HA3 := Lib.hid hA
      have HV := Lib.hid hV
      have hcw : ∀ t, t < N → wc.cell? ⟨blk, off + t, none⟩ = some (.int .u32 (G t)) := fun t ht => (HCW.out _ hA t ht).1
      have hfw : ∀ t, t < N → wc.frozen? ⟨blk, off + t, none⟩ = false := fun t ht => (HCW.out _ hA t ht).2
      clear hA hV
      by_cases hgt : j2 < i2
      · have hj2N : j2 < N := by omega
        obtain ⟨v', hv'⟩ := cell?_setCell_some (w := wc) (p := ⟨blk, off + j2, none⟩) (x := .int .u32 (G a)) (q := ⟨blk, off + a, none⟩) (hcw a haN)
        go_wp2_with fail
        go_region
        all_goals go_wp2_with fail
        go_ret2
        rw [HE1.out i2 j2 HU.out HV.out hgt]
        refine ⟨rfl, ?_⟩
        rw [HG.out, HG.out]
        exact At.swap HA3.out HH.out (HS.out.trans HN.out) HB.out 1 j2 a (by rw [HS.out]; omega) (by rw [HS.out]; omega)
      · have hlt : i2 < j2 := part_scans_lt ltInt a i j dk (by omega) HU.out HV.out (by omega)
        have hi2N : i2 < N := by omega
        have hj2N : j2 < N := by omega
        have HE3 := Lib.hid (HE2.out i2 j2 HU.out HV.out hgt)
        have HSw : Hid (∀ q, At eu w blk off (swp dk i2 j2) (((wc.drewN q).setCell ⟨blk, off + i2, none⟩ (.int .u32 (G j2))).setCell ⟨blk, off + j2, none⟩ (.int .u32 (G i2)))) := fun q => by
          rw [HG.out, HG.out]
          exact At.swap HA3.out HH.out (HS.out.trans HN.out) HB.out q i2 j2 (by rw [HS.out]; omega) (by rw [HS.out]; omega)
        have HS2 : Hid ((swp dk i2 j2).size = N) := by rw [Hid, size_swp]; exact HS.out
        generalize swp dk i2 j2 = d2 at HE3 HSw HS2
        obtain ⟨p, hp⟩ : ∃ p, p = i2 + 1 := ⟨_, rfl⟩
        obtain ⟨q, hq⟩ : ∃ q, q = j2 - 1 := ⟨_, rfl⟩
        rw [← hp, ← hq] at HE3
        have e1 : (i2 : Int) + 1 = (p : Int) := by omega
        have e2 : (j2 : Int) - 1 = (q : Int) := by omega
        have hpa : a < p := by omega
        have hpq : p ≤ q + 1 := by omega
        have hqb : q < b := by omega
        clear hp hq HE1 HE2
        go_wp2_with fail
        go_region
        all_goals go_wp2_with fail
        go_loopw [10, 11] (fun v9 v10 wr => ∃ (i j : Nat) (dk : Array Int), v9 = .int .i64 (i : Int) ∧ v10 = .int .i64 (j : Int) ∧ a < i ∧ i ≤ j + 1 ∧ j < b ∧ dk.size = N ∧ At eu w blk off dk wr ∧ partLoop ltInt a i j dk = partLoop ltInt a p q d2) (fun v9 v10 _ => ((intOf v10) + 1 - (intOf v9)).toNat)
        case atStart => exact ⟨p, q, d2, rfl, rfl, hpa, hpq, hqb, HS2.out, HSw.out 1, rfl⟩
        case round =>
          clear HU HV HA2 HA3 HA HS HSw hcw hfw HCW HG hgt hlt hi2N hj2N hi2 hj2 hij2 hi2j
          obtain ⟨i, j, dk, rfl, rfl, hai, hij, hjb, hsk, hA, hO⟩ := hrel
          have HA := Lib.hid hA
          have HO := Lib.hid hO
          have HS := Lib.hid hsk
          clear hA hO hsk
          obtain ⟨G, hG⟩ : ∃ G : Nat → Int, ∀ t, G t = dk[t]! := ⟨fun t => dk[t]!, fun _ => rfl⟩
          have HG := Lib.hid hG
          have HCW : Hid (∀ wr, At eu w blk off dk wr → ∀ t, t < N → wr.cell? ⟨blk, off + t, none⟩ = some (.int .u32 (G t)) ∧ wr.frozen? ⟨blk, off + t, none⟩ = false) := fun wr h t ht => by
            rw [hG]
            exact At.cells h HH.out (HS.out.trans HN.out) HB.out t (by rw [HS.out]; exact ht)
          clear hG
          go_upto_block 6 with fail
          go_cut [10] (fun s wx => ∃ i2 : Nat, s = .int .i64 (i2 : Int) ∧ i ≤ i2 ∧ i2 ≤ j + 1 ∧ At eu w blk off dk wx ∧ i2 = scanUp (fun x => ltInt x dk[a]!) dk j i)
          case first =>
            go_wp2_with fail
            go_loopw [10] (fun v wq => ∃ i2 : Nat, v = .int .i64 (i2 : Int) ∧ i ≤ i2 ∧ i2 ≤ j + 1 ∧ At eu w blk off dk wq ∧ scanUp (fun x => ltInt x dk[a]!) dk j i2 = scanUp (fun x => ltInt x dk[a]!) dk j i) (fun v _ => j + 1 - (intOf v).toNat)
            case atStart => exact ⟨i, rfl, Nat.le_refl _, hij, HA.out, rfl⟩
            case round =>
              obtain ⟨i2, rfl, hi2, hi2j, hA, hO2⟩ := hrel
              have HA1 := Lib.hid hA
              have HO2 := Lib.hid hO2
              have hcw : ∀ t, t < N → wr.cell? ⟨blk, off + t, none⟩ = some (.int .u32 (G t)) := fun t ht => (HCW.out _ hA t ht).1
              have hfw : ∀ t, t < N → wr.frozen? ⟨blk, off + t, none⟩ = false := fun t ht => (HCW.out _ hA t ht).2
              clear hA hO2
              by_cases hb1 : i2 ≤ j
              · have hiN : i2 < N := by omega
                go_wp2_with fail
                go_quiet (first | (go_at_call 186; refine Calls.quiet_of_same (Less_any _ _ _)))
                go_wp2_with fail
                · have hl : ltInt (G i2) (G a) = true := by assumption
                  go_roundw
                  case rel =>
                    rw [HG.out, HG.out] at hl
                    exact ⟨i2 + 1, by go_num, by omega, by omega, At.drewN HA1.out nq, by rw [← HO2.out]; exact (scanUp_go _ dk j i2 hb1 (by simp [hl])).symm⟩
                  case measure => simp [intOf]; omega
                · have hl : ltInt (G i2) (G a) = false := by assumption
                  go_meet
                  rw [HG.out, HG.out] at hl
                  exact ⟨i2, rfl, hi2, hi2j, At.drewN HA1.out nq, by rw [← HO2.out]; exact (scanUp_end _ dk j i2 (Or.inr (by simp [hl]))).symm⟩
              · go_wp2_with fail
                go_quiet (first | (go_at_call 186; refine Calls.quiet_of_same (Less_any _ _ _)))
                go_wp2_with fail
                go_meet
                exact ⟨i2, rfl, hi2, hi2j, At.drewN HA1.out nq, by rw [← HO2.out]; exact (scanUp_end _ dk j i2 (Or.inl hb1)).symm⟩
          case' rest =>
            obtain ⟨i2, rfl, hi2, hi2j, hA, hU⟩ := hcut
            have HA2 := Lib.hid hA
            have HU := Lib.hid hU
            clear hA hU
            go_upto_block 8 with fail
            go_cut [11] (fun s wx => ∃ j2 : Nat, s = .int .i64 (j2 : Int) ∧ j2 ≤ j ∧ i2 ≤ j2 + 1 ∧ At eu w blk off dk wx ∧ j2 = scanDown (fun x => !ltInt x dk[a]!) dk i2 j)
            case first =>
              go_wp2_with fail
              go_loopw [11] (fun v wq => ∃ j2 : Nat, v = .int .i64 (j2 : Int) ∧ j2 ≤ j ∧ i2 ≤ j2 + 1 ∧ At eu w blk off dk wq ∧ scanDown (fun x => !ltInt x dk[a]!) dk i2 j2 = scanDown (fun x => !ltInt x dk[a]!) dk i2 j) (fun v _ => (intOf v).toNat)
              case atStart => exact ⟨j, rfl, Nat.le_refl _, hi2j, HA2.out, rfl⟩
              case round =>
                obtain ⟨j2, rfl, hj2, hij2, hA, hO2⟩ := hrel
                have HA1 := Lib.hid hA
                have HO2 := Lib.hid hO2
                have hcw : ∀ t, t < N → wr.cell? ⟨blk, off + t, none⟩ = some (.int .u32 (G t)) := fun t ht => (HCW.out _ hA t ht).1
                have hfw : ∀ t, t < N → wr.frozen? ⟨blk, off + t, none⟩ = false := fun t ht => (HCW.out _ hA t ht).2
                clear hA hO2
                by_cases hb1 : i2 ≤ j2
                · have hjN : j2 < N := by omega
                  have hj0 : 0 < j2 := by omega
                  go_wp2_with fail
                  go_quiet (first | (go_at_call 186; refine Calls.quiet_of_same (Less_any _ _ _)))
                  go_wp2_with fail
                  · have hl : ltInt (G j2) (G a) = false := by (have hq : (!ltInt (G j2) (G a)) = true := (by assumption)); simpa using hq
                    go_roundw
                    case rel =>
                      rw [HG.out, HG.out] at hl
                      exact ⟨j2 - 1, by go_num, by omega, by omega, At.drewN HA1.out nq, by rw [← HO2.out]; exact (scanDown_go _ dk i2 j2 hb1 hj0 (by simp [hl])).symm⟩
                    case measure => simp [intOf]; omega
                  · have hl : ltInt (G j2) (G a) = true := by (have hq : (!ltInt (G j2) (G a)) = false := (by assumption)); simpa using hq
                    go_meet
                    rw [HG.out, HG.out] at hl
                    exact ⟨j2, rfl, hj2, hij2, At.drewN HA1.out nq, by rw [← HO2.out]; exact (scanDown_end _ dk i2 j2 (Or.inr (by simp [hl]))).symm⟩
                · go_wp2_with fail
                  go_quiet (first | (go_at_call 186; refine Calls.quiet_of_same (Less_any _ _ _)))
                  go_wp2_with fail
                  go_meet
                  exact ⟨j2, rfl, hj2, hij2, At.drewN HA1.out nq, by rw [← HO2.out]; exact (scanDown_end _ dk i2 j2 (Or.inl hb1)).symm⟩
            case' rest =>
              obtain ⟨j2, rfl, hj2, hij2, hA, hV⟩ := hcut
              have HA3 := Lib.hid hA
              have HV := Lib.hid hV
              have hcw : ∀ t, t < N → wc.cell? ⟨blk, off + t, none⟩ = some (.int .u32 (G t)) := fun t ht => (HCW.out _ hA t ht).1
              have hfw : ∀ t, t < N → wc.frozen? ⟨blk, off + t, none⟩ = false := fun t ht => (HCW.out _ hA t ht).2
              clear hA hV
              by_cases hgt : j2 < i2
              · have hj2N : j2 < N := by omega
                obtain ⟨v', hv'⟩ := cell?_setCell_some (w := wc) (p := ⟨blk, off + j2, none⟩) (x := .int .u32 (G a)) (q := ⟨blk, off + a, none⟩) (hcw a haN)
                have HF : Hid (partLoop ltInt a p q d2 = (j2, dk)) := by rw [Hid, ← HO.out]; exact part_break ltInt a i j dk HU.out HV.out hgt
                go_wp2_with fail
                go_region
                all_goals go_wp2_with fail
                go_ret2
                rw [HE3.out, HF.out]
                refine ⟨rfl, ?_⟩
                rw [HG.out, HG.out]
                exact At.swap HA3.out HH.out (HS.out.trans HN.out) HB.out 1 j2 a (by rw [HS.out]; omega) (by rw [HS.out]; omega)
              · have hlt : i2 < j2 := part_scans_lt ltInt a i j dk (by omega) HU.out HV.out (by omega)
                have hi2N : i2 < N := by omega
                have hj2N : j2 < N := by omega
                go_wp2_with fail
                go_region
                all_goals go_wp2_with fail
                go_roundw
                case rel =>
                  refine ⟨i2 + 1, j2 - 1, swp dk i2 j2, by go_num, by go_num, by omega, by omega, by omega, by rw [size_swp]; exact HS.out, ?_, by rw [← HO.out, part_go ltInt a i j dk HU.out HV.out hgt]⟩
                  rw [HG.out, HG.out]
                  exact At.swap HA3.out HH.out (HS.out.trans HN.out) HB.out 1 i2 j2 (by rw [HS.out]; omega) (by rw [HS.out]; omega)
                case measure => simp [intOf]; omega
end Go.Proofs.Ytafepficapdepaa.su

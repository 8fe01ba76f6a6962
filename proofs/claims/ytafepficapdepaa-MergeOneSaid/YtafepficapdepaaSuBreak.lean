/- How a pattern among numbers of 32 bits is broken: the generator, the next power of two, three exchanges. Conditions as each statement says. -/
import Derived.Sort.Walk7
import Derived.Deep.CutBlock
import Derived.Deep.RegionHeld
import Derived.Deep.DeepCutAuto
import Derived.Test.YtafepficapdepaaSu
import Derived.Test.YtafepficapdepaaKit
import Derived.Test.YtafepficapdepaaShLen64
namespace Go.Proofs.Ytafepficapdepaa.su
open Go.Proofs Go.RowKit Go.Sort Go.Proofs.Ytafepficapdepaa.kit
set_option linter.unusedVariables false
set_option linter.unusedSimpArgs false
section
variable {w wr : World} {blk off g : Nat} {d : Array Int}
/-- a store into a block made later -/
theorem At.apart (h : At eu w blk off d wr) (hg : w.heap.size ≤ g) (v : Value) : At eu w blk off d (wr.setCell ⟨g, 0, none⟩ v) := by
  obtain ⟨n, os, rfl⟩ := h
  exact ⟨n, _, by rw [setCell_eq, mapBlock_grow_new _ _ _ _ (by simpa using hg)]⟩
theorem At.more (h : At eu w blk off d wr) (o : Obj) : At eu w blk off d (wr.alloc o) := by
  obtain ⟨n, os, rfl⟩ := h
  exact ⟨n, os ++ #[o], by rw [alloc_eq_grow, grow_grow]⟩
end
theorem and64 (x m : Nat) (hx : x < 18446744073709551616) (hm : m < 18446744073709551616) : bits .and .u64 (x : Int) (m : Int) = ((x &&& m : Nat) : Int) := bits_and_u64_nat _ _ hx hm
set_option maxHeartbeats 2000000 in
set_option maxRecDepth 100000 in
theorem next_any (g X : Nat) (hX : X < 18446744073709551616) (w : World) (hc : w.cell? ⟨g, 0, none⟩ = some (.int .u64 X)) (hf : w.frozen? ⟨g, 0, none⟩ = false) :
    Calls Try.prog 206 #[.pointer (some ⟨g, 0, none⟩)] w fun e w' => ∃ y : Nat, y < 18446744073709551616 ∧ e = .returned (.int .u64 (y : Int)) ∧ ∃ n, w' = (w.setCell ⟨g, 0, none⟩ (.int .u64 (y : Int))).drewN n := by
  have e1 : ∃ A : Nat, A < 18446744073709551616 ∧ A = X ^^^ (X * 8192 % 18446744073709551616) ∧ bits .xor .u64 (X : Int) (IntKind.u64.wrap ((X : Int) * 8192)) = (A : Int) :=
    ⟨_, Nat.xor_lt_two_pow (n := 64) (by omega) (by omega), rfl, by rw [IntKind.wrap_u64, show ((X : Int) * 8192 % 18446744073709551616) = ((X * 8192 % 18446744073709551616 : Nat) : Int) by omega, bits_xor_u64_nat _ _ hX (by omega)]⟩
  obtain ⟨A, lA, dA, eA⟩ := e1
  have e2 : ∃ B : Nat, B < 18446744073709551616 ∧ B = A ^^^ (A / 128) ∧ bits .xor .u64 (A : Int) ((A : Int) / 128) = (B : Int) :=
    ⟨_, Nat.xor_lt_two_pow (n := 64) (by omega) (by omega), rfl, by rw [show ((A : Int) / 128) = ((A / 128 : Nat) : Int) by omega, bits_xor_u64_nat _ _ lA (by omega)]⟩
  obtain ⟨B, lB, dB, eB⟩ := e2
  have e3 : ∃ C : Nat, C < 18446744073709551616 ∧ bits .xor .u64 (B : Int) (IntKind.u64.wrap ((B : Int) * 131072)) = (C : Int) :=
    ⟨B ^^^ (B * 131072 % 18446744073709551616), Nat.xor_lt_two_pow (n := 64) (by omega) (by omega), by rw [IntKind.wrap_u64, show ((B : Int) * 131072 % 18446744073709551616) = ((B * 131072 % 18446744073709551616 : Nat) : Int) by omega, bits_xor_u64_nat _ _ lB (by omega)]⟩
  obtain ⟨C, lC, eC⟩ := e3
  clear dA dB
  have hss : ∀ v v', (w.setCell ⟨g, 0, none⟩ v).setCell ⟨g, 0, none⟩ v' = w.setCell ⟨g, 0, none⟩ v' := setCell_setCell w g 0
  go_enter Try.func206, Try.ntmps206
  go_wp2_with fail
  go_region
  all_goals go_wp2_with fail
  all_goals go_region
  all_goals go_wp2_with fail
  all_goals go_region
  all_goals go_wp2_with fail
  go_ret
  exact ⟨C, lC, rfl, 3, rfl⟩
set_option maxHeartbeats 2000000 in
theorem pow_any (n : Nat) (hn : n < 4611686018427387904) (w : World) :
    Calls Try.prog 205 #[.int .i64 n] w fun e w' => e = .returned (.int .u64 ((1 <<< bitsLen n : Nat) : Int)) ∧ w' = w := by
  have hk : bitsLen n ≤ 62 := (bitsLen_le_iff n 62).2 (by omega)
  have hp := wrap_two_pow (bitsLen n) hk
  have hL : Hid (∀ w, Calls Try.prog 190 #[.int .u64 (n : Int)] w fun e w' => e = .returned (.int .i64 (bitsLen n : Nat)) ∧ w' = w) := fun w => by
    have h := Try.bits_Len64 (n : Int) w (by omega) (by omega)
    rwa [Int.toNat_natCast, bitLen_eq _ (by omega)] at h
  have hLen : Hid (∀ w, Calls Try.prog 166 #[.int .u64 (n : Int)] w fun e w' => e = .returned (.int .i64 (bitsLen n : Nat)) ∧ w' = w) := fun w => by
    go_enter Try.func166, Try.ntmps166
    go_wp2_with (go_at_call 190; refine (hL.out _).mono ?_; rintro e w' ⟨rfl, rfl⟩)
    go_ret
    exact ⟨rfl, rfl⟩
  go_enter Try.func205, Try.ntmps205
  go_wp2_with (go_at_call 166; refine (hLen.out _).mono ?_; rintro e w' ⟨rfl, rfl⟩)
  go_ret
  exact ⟨rfl, rfl⟩
set_option maxHeartbeats 4000000 in
set_option maxRecDepth 100000 in
theorem break_any (blk off cap a b : Nat) (d : Array Int) (N : Nat) (hN : N = d.size) (w : World) (hH : Holds eu w blk off d) (hblk : blk < w.heap.size) (hab : a ≤ b) (hb : b ≤ N) (hsz : N < 1152921504606846976) :
    Calls Try.prog 182 #[.slice (some ⟨blk, off, none⟩) N cap, .int .i64 a, .int .i64 b] w fun e w' =>
      e = .returned (.tuple #[]) ∧ ∃ R, At eu w blk off R w' ∧ PermIn a b d R := by
  have HH := Lib.hid hH
  have HB := Lib.hid hblk
  have HN := Lib.hid hN
  obtain ⟨L, hL⟩ : ∃ L, b = a + L := ⟨b - a, by omega⟩
  have eL : (b : Int) - (a : Int) = (L : Int) := by omega
  have HLb := Lib.hid hL
  by_cases h8 : 8 ≤ L
  · obtain ⟨M, hM⟩ : ∃ M : Nat, M = 1 <<< bitsLen L := ⟨_, rfl⟩
    have hM1 : 1 ≤ M := by rw [hM, Nat.one_shiftLeft]; exact Nat.two_pow_pos _
    have hM2 : M ≤ 2 * L := by rw [hM, Nat.one_shiftLeft]; exact two_pow_bitsLen_le (by omega)
    have HP : Hid (∀ w, Calls Try.prog 205 #[.int .i64 (L : Int)] w fun e w' => e = .returned (.int .u64 (M : Int)) ∧ w' = w) := by rw [hM]; exact fun w => pow_any L (by omega) w
    obtain ⟨I, hI⟩ : ∃ I : Nat, I = a + L / 4 * 2 - 1 := ⟨_, rfl⟩
    have eI : (a : Int) + (L : Int) / 4 * 2 - 1 = (I : Int) := by omega
    have eI2 : (a : Int) + (L : Int) / 4 * 2 + 1 = (I : Int) + 2 := by omega
    obtain ⟨M1, hM1e⟩ : ∃ M1 : Nat, M = M1 + 1 := ⟨M - 1, by omega⟩
    have eM : (M : Int) - 1 = (M1 : Int) := by omega
    have hMM : M1 < 2 * L := by omega
    have hIl : a ≤ I := by omega
    have hIu : I + 3 ≤ a + L := by omega
    have hbL : a + L ≤ N := by omega
    have HS : Hid (At eu w blk off d (w.alloc (.cells #[.int .u64 (L : Int)] 231))) := At.more (At.refl hH) _
    clear hH hM hL hN hI hM1e hM1 hM2
    go_enter Try.func182, Try.ntmps182
    go_wp2_with (go_at_call 205; refine (HP.out _).mono ?_; rintro e w' ⟨rfl, rfl⟩)
    clear HP
    go_loopw [9, 10] (fun v9 _ wr => ∃ (t r : Nat) (dk : Array Int), v9 = .int .i64 ((I + t : Nat) : Int) ∧ t ≤ 3 ∧ r < 18446744073709551616 ∧ At eu w blk off dk wr ∧ wr.cell? ⟨w.heap.size, 0, none⟩ = some (.int .u64 (r : Int)) ∧ wr.frozen? ⟨w.heap.size, 0, none⟩ = false ∧ w.heap.size < wr.heap.size ∧ PermIn a b d dk) (fun v9 _ _ => I + 3 - (intOf v9).toNat)
    case atStart => exact ⟨0, L, d, by simp, by omega, by omega, HS.out, by simp, by simp, by simp, permIn_refl _ _ _⟩
    case round =>
      obtain ⟨t, r, dk, rfl, ht, hr, hA, hc, hf, hsz2, hP⟩ := hrel
      have HA := Lib.hid hA
      have HP := Lib.hid hP
      have HSz : Hid (dk.size = N) := by rw [Hid, hP.1]; exact HN.out.symm
      clear hA hP
      obtain ⟨i, hi⟩ : ∃ i : Nat, i = I + t := ⟨_, rfl⟩
      rw [← hi]
      have Hi := Lib.hid hi
      by_cases h3 : t < 3
      · have hd1 : (i : Int) ≤ (I : Int) + 2 := by omega
        have hiN : i < N := by omega
        have HNx := Lib.hid (next_any w.heap.size r hr wr hc hf)
        have HCf := Lib.hid (And.intro hc hf)
        clear hi hc hf
        have haz : a + L ≤ N := hbL
        go_upto_if 43 with (go_at_call 206; refine HNx.out.mono ?_; rintro e w1 ⟨y, hy, rfl, n1, rfl⟩; have hand := and64 y M1 hy (by omega); obtain ⟨o, ho⟩ : ∃ o, o = y &&& M1 := ⟨_, rfl⟩; have hoM : o ≤ M1 := (by rw [ho]; exact Nat.and_le_right); rw [← ho] at hand; clear ho)
        have HA1 : Hid (At eu w blk off dk ((wr.setCell ⟨w.heap.size, 0, none⟩ (.int .u64 (y : Int))).drewN n1)) := At.drewN (At.apart HA.out (Nat.le_refl _) _) n1
        have HC1 : Hid (((wr.setCell ⟨w.heap.size, 0, none⟩ (.int .u64 (y : Int))).drewN n1).cell? ⟨w.heap.size, 0, none⟩ = some (.int .u64 (y : Int))) :=
          World.cell?_setCell_same (u := .int .u64 (r : Int)) wr _ _ HCf.out.1
        have HF1 : Hid (((wr.setCell ⟨w.heap.size, 0, none⟩ (.int .u64 (y : Int))).drewN n1).frozen? ⟨w.heap.size, 0, none⟩ = false) := by
          show _ = _
          simp [HCf.out.2]
        have HZ1 : Hid (w.heap.size < ((wr.setCell ⟨w.heap.size, 0, none⟩ (.int .u64 (y : Int))).drewN n1).heap.size) := by
          show _ < _
          simpa [World.setCell] using hsz2
        generalize (wr.setCell ⟨w.heap.size, 0, none⟩ (.int .u64 (y : Int))).drewN n1 = w3 at *
        go_cut [10] (fun s wx => ∃ z : Nat, s = .int .i64 (z : Int) ∧ z < L ∧ wx = w3)
        case first =>
          by_cases hLO : L ≤ o
          · go_wp2_with fail
            go_meet
            exact ⟨o - L, by go_num, by omega, rfl⟩
          · go_wp2_with fail
            go_meet
            exact ⟨o, rfl, by omega, rfl⟩
        case' rest =>
          obtain ⟨z, rfl, hz, rfl⟩ := hcut
          obtain ⟨k, hk⟩ : ∃ k : Nat, k = a + z := ⟨_, rfl⟩
          have ek : (a : Int) + (z : Int) = (k : Int) := by omega
          have hkN : k < N := by omega
          obtain ⟨G, hG⟩ : ∃ G : Nat → Int, ∀ t, G t = dk[t]! := ⟨fun t => dk[t]!, fun _ => rfl⟩
          have HG := Lib.hid hG
          have hcw : ∀ t, t < N → wc.cell? ⟨blk, off + t, none⟩ = some (.int .u32 (G t)) := fun t ht => by rw [hG]; exact (At.cells HA1.out HH.out (HSz.out.trans HN.out) HB.out t (by rw [HSz.out]; exact ht)).1
          have hfw : ∀ t, t < N → wc.frozen? ⟨blk, off + t, none⟩ = false := fun t ht => (At.cells HA1.out HH.out (HSz.out.trans HN.out) HB.out t (by rw [HSz.out]; exact ht)).2
          have hca : a ≤ k := by omega
          have hck : k < a + L := by omega
          have hia : a ≤ i := by have := Hi.out; omega
          have hib : i < a + L := by have := Hi.out; omega
          have hbe : b = a + L := HLb.out
          have HAs : Hid (∀ q, At eu w blk off (swp dk i k) (((wc.drewN q).setCell ⟨blk, off + i, none⟩ (.int .u32 (G k))).setCell ⟨blk, off + k, none⟩ (.int .u32 (G i)))) := fun q => by
            rw [hG, hG]
            exact At.swap HA1.out HH.out (HSz.out.trans HN.out) HB.out q i k (by rw [HSz.out]; exact hiN) (by rw [HSz.out]; exact hkN)
          have HPs : Hid (PermIn a b d (swp dk i k)) := permIn_trans _ _ _ a b HP.out (swp_permIn dk a b i k hia (by rw [hbe]; exact hib) hca (by rw [hbe]; exact hck) (by rw [HSz.out]; omega))
          have hne : w.heap.size ≠ blk := Nat.ne_of_gt HB.out
          have HCs : Hid (∀ q u v, (((wc.drewN q).setCell ⟨blk, off + i, none⟩ u).setCell ⟨blk, off + k, none⟩ v).cell? ⟨w.heap.size, 0, none⟩ = some (.int .u64 (y : Int)) ∧ (((wc.drewN q).setCell ⟨blk, off + i, none⟩ u).setCell ⟨blk, off + k, none⟩ v).frozen? ⟨w.heap.size, 0, none⟩ = false ∧ w.heap.size < (((wc.drewN q).setCell ⟨blk, off + i, none⟩ u).setCell ⟨blk, off + k, none⟩ v).heap.size) := fun q u v => by
            refine ⟨?_, ?_, by simpa [World.setCell] using HZ1.out⟩
            · rw [World.cell?_setCell_far _ _ _ _ (Ne.symm hne), World.cell?_setCell_far _ _ _ _ (Ne.symm hne)]
              exact HC1.out
            · have := HF1.out
              simp at this ⊢
              exact this
          obtain ⟨v', hv'⟩ := cell?_setCell_some (w := wc) (p := ⟨blk, off + i, none⟩) (x := .int .u32 (G k)) (q := ⟨blk, off + k, none⟩) (hcw k hkN)
          clear hG hk hbe hia hib hca hck
          go_wp2_with fail
          go_region
          all_goals go_wp2_with fail
          go_roundw
          case rel => exact ⟨t + 1, y, swp dk i k, by have := Hi.out; congr 1; omega, by omega, hy, HAs.out 1, (HCs.out 1 _ _).1, (HCs.out 1 _ _).2.1, (HCs.out 1 _ _).2.2, HPs.out⟩
          case measure => have := Hi.out; simp [intOf]; omega
      · have hd1 : ¬ (i : Int) ≤ (I : Int) + 2 := by omega
        clear hi
        go_wp2_with fail
        go_end0
        exact ⟨rfl, dk, HA.out, HP.out⟩
  · clear hH hN hL
    go_enter Try.func182, Try.ntmps182
    go_wp2_with fail
    go_end0
    exact ⟨rfl, d, At.refl HH.out, permIn_refl _ _ _⟩
end Go.Proofs.Ytafepficapdepaa.su
